/- Chapter 3: PackLists, walked: it returns true, for texts of at most 1048576 bytes. -/
import Derived.Test.YtijkfllolcgfhaaPackA
namespace Go.Proofs.Ytijkfllolcgfhaa.Pack
open Go.RowKit
set_option linter.unusedVariables false
set_option linter.unusedSimpArgs false

theorem WW.lowA {w W : World} {r1 r2 : Option Nat} {l1 l2 : List UInt8} (h : WW w W r1 r2 l1 l2) : ∀ k, WSet true w.heap.size r1 k → w.heap.size ≤ k := fun k hk => by
  rcases hk.2 with rfl | h1
  · exact Nat.le_refl _
  · have := h.n1 k h1; omega
theorem WW.outA {w W : World} {r1 r2 : Option Nat} {l1 l2 : List UInt8} {A : Option Addr} {n : Nat} {vs : List Value} (h : WW w W r1 r2 l1 l2) (hr : Reads w w.heap.size 1 A n vs) : 0 < n → ∀ ad, A = some ad → ¬ WSet (some l1).isSome w.heap.size r1 ad.block := by
  intro hn ad e hs
  obtain ⟨ad', e', hb, _⟩ := hr.2 hn
  cases e.symm.trans e'
  have := h.lowA _ hs
  omega
theorem ws_a {w w0 w' : World} {r1 r2 : Option Nat} {l1 l2 news : List UInt8} {e : Ending} (m : WW w w0 r1 r2 l1 l2) (h : WPost w0 w.heap.size r1 (some ⟨w.heap.size, 0, none⟩) ((some l1).map (· ++ news)) e w') : e = .returned (.tuple #[]) ∧ ∃ r', WW w w' r' r2 (l1 ++ news) l2 := by
  obtain ⟨rfl, r', hs, hf⟩ := wstep h
  exact ⟨rfl, r', m.stepA hs hf⟩
theorem ws_b {w w0 w' : World} {r1 r2 : Option Nat} {l1 l2 news : List UInt8} {e : Ending} (m : WW w w0 r1 r2 l1 l2) (h : WPost w0 (w.heap.size + 1) r2 (some ⟨w.heap.size + 1, 0, none⟩) ((some l2).map (· ++ news)) e w') : e = .returned (.tuple #[]) ∧ ∃ r', WW w w' r1 r' l1 (l2 ++ news) := by
  obtain ⟨rfl, r', hs, hf⟩ := wstep h
  exact ⟨rfl, r', m.stepB hs hf⟩
theorem WW.cast {w W : World} {r1 r2 : Option Nat} {l1 l2 l2' : List UInt8} (h : WW w W r1 r2 l1 l2) (e : l2 = l2') : WW w W r1 r2 l1 l2' := e ▸ h
theorem flat_le {α : Type} {f : α → List UInt8} {M : Nat} : ∀ (xs : List α), (∀ x ∈ xs, (f x).length ≤ M) → (xs.flatMap f).length ≤ xs.length * M
  | [], _ => Nat.zero_le _
  | x :: xs, h => by
    have h1 := h x (List.mem_cons_self ..)
    have h2 := flat_le xs (fun y hy => h y (List.mem_cons_of_mem _ hy))
    rw [List.flatMap_cons, List.length_append, List.length_cons, Nat.succ_mul]
    omega
theorem all_le {α : Type} {f : α → List UInt8} {M N : Nat} (xs : List α) (hl : xs.length ≤ N) (hN : N ≤ 1000) (h : ∀ x ∈ xs, (f x).length ≤ M) : (allB f xs).length ≤ 9 + N * M := by
  have h1 := flat_le xs h
  have h2 := numB_len (n := xs.length) (by unfold U64; omega)
  have h3 : xs.length * M ≤ N * M := Nat.mul_le_mul_right _ hl
  unfold allB
  rw [List.length_append]
  omega
set_option maxHeartbeats 16000000 in
set_option maxRecDepth 20000 in
theorem PackLists_any (A1 A2 A3 : Option Addr) (n1 n2 n3 c1 c2 c3 : Nat) (xs ys : List Int) (ts : List ByteArray) (w : World) (hr1 : Reads w w.heap.size 1 A1 n1 (xs.map (Value.int .u64))) (hr2 : Reads w w.heap.size 1 A2 n2 (ys.map (Value.int .i64))) (hr3 : Reads w w.heap.size 1 A3 n3 (ts.map Value.string))
    (hx : xs.length = n1) (hy : ys.length = n2) (ht : ts.length = n3) (x0 : ∀ x ∈ xs, 0 ≤ x ∧ x < 18446744073709551616) (y0 : ∀ y ∈ ys, -9223372036854775808 ≤ y ∧ y ≤ 9223372036854775807) (t0 : ∀ t ∈ ts, ByteArray.size t ≤ 1048576) (hn1 : n1 ≤ maxLen) (hn2 : n2 ≤ maxLen) (hn3 : n3 ≤ maxLen) :
    Calls Try.prog 5 #[.slice A1 n1 c1, .slice A2 n2 c2, .slice A3 n3 c3] w fun e w' => e = .returned (.bool true) ∧ Below w.heap.size w w' := by
  have HR1 := Lib.hid hr1
  have HR2 := Lib.hid hr2
  have HR3 := Lib.hid hr3
  have HX := Lib.hid hx
  have HY := Lib.hid hy
  have HT := Lib.hid ht
  have X0 := Lib.hid x0
  have Y0 := Lib.hid y0
  have T0 := Lib.hid t0
  have b1 : (n1 : Int) ≤ 9223372036854775807 := by unfold maxLen at hn1; omega
  have b2 : (n2 : Int) ≤ 9223372036854775807 := by unfold maxLen at hn2; omega
  have b3 : (n3 : Int) ≤ 9223372036854775807 := by unfold maxLen at hn3; omega
  clear hr1 hr2 hr3 hx hy ht x0 y0 t0 hn1 hn2 hn3
  go_enter Try.func5, Try.ntmps5
  by_cases h1 : 200 < n1
  · have q1 : decide ((200 : Int) < (n1 : Int)) = true := by simp; omega
    go_wp2_with (go_at_call 10; refine (head_any _).mono ?_; rintro e w2 ⟨rfl, hb2⟩)
    go_ret
    exact ⟨rfl, hb2⟩
  have q1 : decide ((200 : Int) < (n1 : Int)) = false := by simp; omega
  by_cases h2 : 200 < n2
  · have q2 : decide ((200 : Int) < (n2 : Int)) = true := by simp; omega
    go_wp2_with (go_at_call 10; refine (head_any _).mono ?_; rintro e w2 ⟨rfl, hb2⟩)
    go_ret
    exact ⟨rfl, hb2⟩
  have q2 : decide ((200 : Int) < (n2 : Int)) = false := by simp; omega
  by_cases h3 : 60 < n3
  · have q3 : decide ((60 : Int) < (n3 : Int)) = true := by simp; omega
    go_wp2_with (go_at_call 10; refine (head_any _).mono ?_; rintro e w2 ⟨rfl, hb2⟩)
    go_ret
    exact ⟨rfl, hb2⟩
  have q3 : decide ((60 : Int) < (n3 : Int)) = false := by simp; omega
  have N1 := Lib.hid (show n1 ≤ 200 by omega)
  have N2 := Lib.hid (show n2 ≤ 200 by omega)
  have N3 := Lib.hid (show n3 ≤ 60 by omega)
  clear h1 h2 h3
  have L1 := Lib.hid (show (allB (fun x : Int => numB x.toNat) xs).length ≤ 9 + 200 * 9 from all_le xs (by rw [HX.out]; exact N1.out) (by omega) (fun x hx => numB_len (by have := X0.out x hx; unfold U64; omega)))
  have L2 := Lib.hid (show (allB (fun x : Int => numB (zz x)) ys).length ≤ 9 + 200 * 9 from all_le ys (by rw [HY.out]; exact N2.out) (by omega) (fun x hx => numB_len (zz_u64 ⟨(Y0.out x hx).1, (Y0.out x hx).2⟩)))
  have L3 := Lib.hid (show (allB textB ts).length ≤ 9 + 60 * 1048585 from all_le ts (by rw [HT.out]; exact N3.out) (by omega) (fun x hx => by
    have h1 := T0.out x hx
    have h2 := numB_len (n := x.size) (by unfold U64; omega)
    have e : x.data.toList.length = x.size := Array.length_toList
    unfold textB
    rw [List.length_append, e]
    omega))
  have w1' : IntKind.u64.wrap (n1 : Int) = (n1 : Int) := by rw [IntKind.wrap_u64]; omega
  have w2' : IntKind.u64.wrap (n2 : Int) = (n2 : Int) := by rw [IntKind.wrap_u64]; omega
  have w3' : IntKind.u64.wrap (n3 : Int) = (n3 : Int) := by rw [IntKind.wrap_u64]; omega
  have M0 := Lib.hid (WW.new w)
  go_wp2_with (first
    | (go_at_call 15; (with_reducible refine (new_any _).mono ?_); rintro e w' ⟨rfl, rfl⟩)
    | (go_at_call 18; (with_reducible refine (nums_any _ _ _ _ A1 n1 c1 w.heap.size xs _ M0.out.a (HR1.out.below M0.out.bel) M0.out.bel.size (M0.out.outA HR1.out) (by have := N1.out; omega) X0.out (len_sum (by have := L1.out; simp only [List.length_nil]; omega))).mono ?_); rintro e w2 h; obtain ⟨rfl, r1, m⟩ := ws_a M0.out h; have M1 := Lib.hid m; clear m h)
    | (go_at_call 19; (with_reducible refine (ints_any _ _ _ _ A2 n2 c2 w.heap.size ys _ M1.out.a (HR2.out.below M1.out.bel) M1.out.bel.size (M1.out.outA HR2.out) (by have := N2.out; omega) Y0.out (len_sum (by have := L1.out; have := L2.out; rw [List.nil_append]; omega))).mono ?_); rintro e w3 h; obtain ⟨rfl, r2, m⟩ := ws_a M1.out h; have M2 := Lib.hid m; clear m h)
    | (go_at_call 20; (with_reducible refine (texts_any _ _ _ _ A3 n3 c3 w.heap.size ts _ M2.out.a (HR3.out.below M2.out.bel) M2.out.bel.size (M2.out.outA HR3.out) (by have := N3.out; omega) (fun t ht => Nat.le_trans (T0.out t ht) (by omega)) (len_sum (by have := L1.out; have := L2.out; have := L3.out; rw [List.nil_append, List.length_append]; omega))).mono ?_); rintro e w4 h; obtain ⟨rfl, r3, m⟩ := ws_a M2.out h; have M3 := Lib.hid m; clear m h)
    | (go_at_call 21; (with_reducible refine (num_any _ _ _ _ (n1 : Int) _ M3.out.b (Int.natCast_nonneg _) (by omega) (len_some (Nat.zero_le _))).mono ?_); rintro e w5 h; obtain ⟨rfl, r4, m⟩ := ws_b M3.out h; have M4 := Lib.hid (show WW w w5 r3 r4 _ (allT (fun x : Int => numB x.toNat) xs 0) by rw [allT_zero, HX.out]; exact m); clear m h))
  go_loopw [9] (fun i wr => ∃ (j : Nat) (rb : Option Nat), i = .int .i64 j ∧ j ≤ n1 ∧ Hid (WW w wr r3 rb ((([] ++ allB (fun x : Int => numB x.toNat) xs) ++ allB (fun x : Int => numB (zz x)) ys) ++ allB textB ts) (allT (fun x : Int => numB x.toNat) xs j))) (fun i _ => n1 - (intOf i).toNat)
  case atStart => exact ⟨0, _, rfl, Nat.zero_le _, M4⟩
  case round =>
    obtain ⟨j, rb, rfl, hj, ML⟩ := hrel
    by_cases hlt : j < n1
    · obtain ⟨ad, u, rfl, hb, hxu, hc⟩ := HR1.out.at_ hlt
      rw [List.getElem?_map] at hxu
      obtain ⟨y, hy, rfl⟩ := Option.map_eq_some_iff.1 hxu
      have c0 : wr.cell? (ad.add j) = some (Value.int .u64 y) := (ML.out.bel.cell (by rw [block_of_add]; exact hb)).trans hc
      have HMB := Lib.hid (List.mem_of_getElem? hy)
      have HSU := Lib.hid (allT_succ (f := (fun x : Int => numB x.toNat)) hy)
      clear hxu hc
      have HLE := Lib.hid (show (allT (fun x : Int => numB x.toNat) xs j).length ≤ 70000000 by
        have h1 := allT_le (f := (fun x : Int => numB x.toNat)) (xs := xs) j
        have h2 := L1.out
        have h3 := L2.out
        have h4 := L3.out
        try simp only [List.length_append]
        omega)
      have y1 := (X0.out _ HMB.out).1
      have y2 := (X0.out _ HMB.out).2
      have HC := Lib.hid (num_any _ _ _ _ y _ ML.out.b (X0.out _ HMB.out).1 (X0.out _ HMB.out).2 (len_some (Nat.le_trans HLE.out (by omega))))
      clear y1 y2
      go_wp2_with (go_at_call 21; refine HC.out.mono ?_; rintro e w5 h; obtain ⟨rfl, rc, m⟩ := ws_b ML.out h; have MR := Lib.hid (show WW w w5 r3 rc _ (allT (fun x : Int => numB x.toNat) xs (j + 1)) from m.cast (by simp only [HSU.out, List.append_assoc])); clear m h)
      go_roundw
      case rel => exact ⟨j + 1, rc, by go_num, by omega, MR⟩
      case measure => simp [intOf]; omega
    · obtain rfl : j = n1 := by omega
      have MF := Lib.hid (show WW w wr r3 rb ((([] ++ allB (fun x : Int => numB x.toNat) xs) ++ allB (fun x : Int => numB (zz x)) ys) ++ allB textB ts) (allB (fun x : Int => numB x.toNat) xs) by have := ML.out; rwa [allT_full (Nat.le_of_eq HX.out)] at this)
      obtain ⟨W0, hW0⟩ : ∃ W, W = wr := ⟨_, rfl⟩
      subst hW0
      have HLF := Lib.hid (show (allB (fun x : Int => numB x.toNat) xs).length ≤ 70000000 by have h2 := L1.out; have h3 := L2.out; (try simp only [List.length_append]); omega)
      have HC := Lib.hid (num_any _ _ _ _ (n2 : Int) _ MF.out.b (Int.natCast_nonneg _) (by omega) (len_some (Nat.le_trans HLF.out (by omega))))
      go_wp2_with (go_at_call 21; refine HC.out.mono ?_; rintro e w6 h; obtain ⟨rfl, rd, m⟩ := ws_b MF.out h; have MN1 := Lib.hid (show WW w w6 r3 rd _ (allB (fun x : Int => numB x.toNat) xs ++ allT (fun x : Int => numB (zz x)) ys 0) from m.cast (by simp only [allT_zero, HY.out, Int.toNat_natCast, List.append_assoc])); clear m h)
      go_loopw [10] (fun i wr => ∃ (j : Nat) (rb : Option Nat), i = .int .i64 j ∧ j ≤ n2 ∧ Hid (WW w wr r3 rb ((([] ++ allB (fun x : Int => numB x.toNat) xs) ++ allB (fun x : Int => numB (zz x)) ys) ++ allB textB ts) (allB (fun x : Int => numB x.toNat) xs ++ allT (fun x : Int => numB (zz x)) ys j))) (fun i _ => n2 - (intOf i).toNat)
      case atStart => exact ⟨0, _, rfl, Nat.zero_le _, MN1⟩
      case round =>
        obtain ⟨j, rb, rfl, hj, ML⟩ := hrel
        by_cases hlt : j < n2
        · obtain ⟨ad, u, rfl, hb, hxu, hc⟩ := HR2.out.at_ hlt
          rw [List.getElem?_map] at hxu
          obtain ⟨y, hy, rfl⟩ := Option.map_eq_some_iff.1 hxu
          have c0 : wr.cell? (ad.add j) = some (Value.int .i64 y) := (ML.out.bel.cell (by rw [block_of_add]; exact hb)).trans hc
          have HMB := Lib.hid (List.mem_of_getElem? hy)
          have HSU := Lib.hid (allT_succ (f := (fun x : Int => numB (zz x))) hy)
          clear hxu hc
          have HLE := Lib.hid (show (allB (fun x : Int => numB x.toNat) xs ++ allT (fun x : Int => numB (zz x)) ys j).length ≤ 70000000 by
            have h1 := allT_le (f := (fun x : Int => numB (zz x))) (xs := ys) j
            have h2 := L1.out
            have h3 := L2.out
            have h4 := L3.out
            try simp only [List.length_append]
            omega)
          have y1 := (Y0.out _ HMB.out).1
          have y2 := (Y0.out _ HMB.out).2
          have HC := Lib.hid (int_any _ _ _ _ y _ ML.out.b (Y0.out _ HMB.out).1 (Y0.out _ HMB.out).2 (len_some (Nat.le_trans HLE.out (by omega))))
          clear y1 y2
          go_wp2_with (go_at_call 22; refine HC.out.mono ?_; rintro e w5 h; obtain ⟨rfl, rc, m⟩ := ws_b ML.out h; have MR := Lib.hid (show WW w w5 r3 rc _ (allB (fun x : Int => numB x.toNat) xs ++ allT (fun x : Int => numB (zz x)) ys (j + 1)) from m.cast (by simp only [HSU.out, List.append_assoc])); clear m h)
          go_roundw
          case rel => exact ⟨j + 1, rc, by go_num, by omega, MR⟩
          case measure => simp [intOf]; omega
        · obtain rfl : j = n2 := by omega
          have MF := Lib.hid (show WW w wr r3 rb ((([] ++ allB (fun x : Int => numB x.toNat) xs) ++ allB (fun x : Int => numB (zz x)) ys) ++ allB textB ts) (allB (fun x : Int => numB x.toNat) xs ++ allB (fun x : Int => numB (zz x)) ys) by have := ML.out; rwa [allT_full (Nat.le_of_eq HY.out)] at this)
          obtain ⟨W1, hW1⟩ : ∃ W, W = wr := ⟨_, rfl⟩
          subst hW1
          have HLF := Lib.hid (show (allB (fun x : Int => numB x.toNat) xs ++ allB (fun x : Int => numB (zz x)) ys).length ≤ 70000000 by have h2 := L1.out; have h3 := L2.out; (try simp only [List.length_append]); omega)
          have HC := Lib.hid (num_any _ _ _ _ (n3 : Int) _ MF.out.b (Int.natCast_nonneg _) (by omega) (len_some (Nat.le_trans HLF.out (by omega))))
          go_wp2_with (go_at_call 21; refine HC.out.mono ?_; rintro e w6 h; obtain ⟨rfl, rd, m⟩ := ws_b MF.out h; have MN2 := Lib.hid (show WW w w6 r3 rd _ (allB (fun x : Int => numB x.toNat) xs ++ (allB (fun x : Int => numB (zz x)) ys ++ allT textB ts 0)) from m.cast (by simp only [allT_zero, HT.out, Int.toNat_natCast, List.append_assoc])); clear m h)
          go_loopw [11] (fun i wr => ∃ (j : Nat) (rb : Option Nat), i = .int .i64 j ∧ j ≤ n3 ∧ Hid (WW w wr r3 rb ((([] ++ allB (fun x : Int => numB x.toNat) xs) ++ allB (fun x : Int => numB (zz x)) ys) ++ allB textB ts) (allB (fun x : Int => numB x.toNat) xs ++ (allB (fun x : Int => numB (zz x)) ys ++ allT textB ts j)))) (fun i _ => n3 - (intOf i).toNat)
          case atStart => exact ⟨0, _, rfl, Nat.zero_le _, MN2⟩
          case round =>
            obtain ⟨j, rb, rfl, hj, ML⟩ := hrel
            by_cases hlt : j < n3
            · obtain ⟨ad, u, rfl, hb, hxu, hc⟩ := HR3.out.at_ hlt
              rw [List.getElem?_map] at hxu
              obtain ⟨y, hy, rfl⟩ := Option.map_eq_some_iff.1 hxu
              have c0 : wr.cell? (ad.add j) = some (Value.string y) := (ML.out.bel.cell (by rw [block_of_add]; exact hb)).trans hc
              have HMB := Lib.hid (List.mem_of_getElem? hy)
              have HSU := Lib.hid (allT_succ (f := textB) hy)
              clear hxu hc
              have HLE := Lib.hid (show (allB (fun x : Int => numB x.toNat) xs ++ (allB (fun x : Int => numB (zz x)) ys ++ allT textB ts j)).length ≤ 70000000 by
                have h1 := allT_le (f := textB) (xs := ts) j
                have h2 := L1.out
                have h3 := L2.out
                have h4 := L3.out
                try simp only [List.length_append]
                omega)
              by_cases hgr : 300 < y.size
              · have q5 : decide ((300 : Int) < (y.size : Int)) = true := by simp; omega
                go_wp2_with (go_at_call 10; refine (head_any _).mono ?_; rintro e w2 ⟨rfl, hb2⟩)
                go_ret
                exact ⟨rfl, bel_trans ML.out.bel hb2⟩
              have q5 : decide ((300 : Int) < (y.size : Int)) = false := by simp; omega
              have HC := Lib.hid (text_any _ _ _ _ y _ ML.out.b (Nat.le_trans (T0.out _ HMB.out) (by omega)) (len_some (Nat.le_trans HLE.out (by omega))))
              go_wp2_with (go_at_call 23; refine HC.out.mono ?_; rintro e w5 h; obtain ⟨rfl, rc, m⟩ := ws_b ML.out h; have MR := Lib.hid (show WW w w5 r3 rc _ (allB (fun x : Int => numB x.toNat) xs ++ (allB (fun x : Int => numB (zz x)) ys ++ allT textB ts (j + 1))) from m.cast (by simp only [HSU.out, List.append_assoc])); clear m h)
              go_roundw
              case rel => exact ⟨j + 1, rc, by go_num, by omega, MR⟩
              case measure => simp [intOf]; omega
            · obtain rfl : j = n3 := by omega
              have MF := Lib.hid (show WW w wr r3 rb ((([] ++ allB (fun x : Int => numB x.toNat) xs) ++ allB (fun x : Int => numB (zz x)) ys) ++ allB textB ts) (allB (fun x : Int => numB x.toNat) xs ++ (allB (fun x : Int => numB (zz x)) ys ++ allB textB ts)) by have := ML.out; rwa [allT_full (Nat.le_of_eq HT.out)] at this)
              obtain ⟨W2, hW2⟩ : ∃ W, W = wr := ⟨_, rfl⟩
              subst hW2
              have MB := Lib.hid (show WrS W2 (w.heap.size + 1) rb (some ⟨w.heap.size + 1, 0, none⟩) (some ((([] ++ allB (fun x : Int => numB x.toNat) xs) ++ allB (fun x : Int => numB (zz x)) ys) ++ allB textB ts)) by have := MF.out.b; simpa only [List.append_assoc, List.nil_append] using this)
              obtain ⟨Q, hQ⟩ : ∃ Q, ((([] ++ allB (fun x : Int => numB x.toNat) xs) ++ allB (fun x : Int => numB (zz x)) ys) ++ allB textB ts) = Q := ⟨_, rfl⟩
              have MA := Lib.hid (show WrS W2 w.heap.size r3 (some ⟨w.heap.size, 0, none⟩) (some Q) by have := MF.out.a; rwa [hQ] at this)
              have MB2 := Lib.hid (show WrS W2 (w.heap.size + 1) rb (some ⟨w.heap.size + 1, 0, none⟩) (some Q) by have := MB.out; rwa [hQ] at this)
              clear hQ
              go_wp2_with (first
                | (go_at_call 17; (with_reducible refine (bytes_lit _ _ _ _ _ _ MA.out rfl).mono ?_); rintro e w' ⟨rfl, rfl⟩)
                | (go_at_call 17; (with_reducible refine (bytes_lit _ _ _ _ _ _ MB2.out rfl).mono ?_); rintro e w' ⟨rfl, rfl⟩)
                | (go_at_call 10; (with_reducible refine (head_any _).mono ?_); rintro e w2 ⟨rfl, hb2⟩))
              go_ret
              exact ⟨rfl, bel_trans MF.out.bel hb2⟩
end Go.Proofs.Ytijkfllolcgfhaa.Pack
