/- Chapter 3: PackBack, walked: it returns true, for every input. No condition. -/
import Derived.Test.YtijkfllolcgfhaaPackGo
import Derived.Test.YtijkfllolcgfhaaPackLa
namespace Go.Proofs.Ytijkfllolcgfhaa.Pack
open Go.RowKit
set_option linter.unusedVariables false
set_option linter.unusedSimpArgs false

/-- The bytes of the items from one on. -/
def dr (xs : List It) (j : Nat) : List UInt8 := (xs.drop j).flatMap itB
theorem dr_step {xs : List It} {j : Nat} {x : It} (h : xs[j]? = some x) : dr xs j = itB x ++ dr xs (j + 1) := by
  obtain ⟨hj, rfl⟩ := List.getElem?_eq_some_iff.1 h
  unfold dr
  rw [List.drop_eq_getElem_cons hj, List.flatMap_cons]
theorem dr_zero {xs : List It} {n : Nat} (h : xs.length = n) : dr xs 0 = wt xs n := by subst h; simp [dr, wt]
theorem dr_end {xs : List It} {n : Nat} (h : xs.length = n) : dr xs n = [] := by subst h; simp [dr]
theorem wt_all {xs : List It} {n : Nat} (h : xs.length = n) : wt xs n = xs.flatMap itB := by subst h; simp [wt]
theorem wt_dr {xs : List It} {n : Nat} (h : xs.length = n) (m : Nat) : wt xs n = wt xs m ++ dr xs m := by
  rw [wt_all h]
  unfold wt dr
  rw [← List.flatMap_append, List.take_append_drop]
theorem dr_le {xs : List It} {n : Nat} (h : xs.length = n) (m : Nat) : (dr xs m).length ≤ (wt xs n).length := by
  rw [wt_dr h m, List.length_append]
  omega
theorem left_lit (g : Nat) (p : Option Addr) (b : List UInt8) (n : Int) (w : World) (h : RdS w g p true (some b)) (he : ((b.length : Nat) : Int) = n) :
    Calls Try.prog 29 #[.pointer p] w fun e w' => e = .returned (.int .i64 n) ∧ w = w' := by
  subst he
  exact left_any g p true (some b) w h
theorem end_bad (g : Nat) (p : Option Addr) (w : World) (h : RdS w g p true none) :
    Calls Try.prog 28 #[.pointer p] w fun e w' => e = .returned (.int .i64 5) ∧ w = w' := end_any g p true none w h
theorem rdA_rem : ∀ (ks : List Int) (st : Option (List UInt8)), rem (rdA ks st) ≤ rem st
  | [], st => Nat.le_refl _
  | k :: ks, st => Nat.le_trans (rdA_rem ks (readS k st)) (readS_rem k st)
theorem rdA_full {w : World} {B : Nat} (r : List UInt8) : ∀ (xs : List It), (∀ x ∈ xs, ItOk x w B) → rdA (xs.map It.k) (some (xs.flatMap itB ++ r)) = some r
  | [], _ => rfl
  | x :: xs, h => by
    have h1 := (got_back (h x (List.mem_cons_self ..)) (xs.flatMap itB ++ r)).2
    have h2 := rdA_full r xs (fun y hy => h y (List.mem_cons_of_mem _ hy))
    rw [List.flatMap_cons, List.append_assoc, List.map_cons]
    show rdA (xs.map It.k) (readS x.k (some (itB x ++ (xs.flatMap itB ++ r)))) = _
    rw [h1]
    exact h2
theorem rdA_next {xs : List It} {j : Nat} {x : It} (h : xs[j]? = some x) (st : Option (List UInt8)) : rdA ((xs.take (j + 1)).map It.k) st = readS x.k (rdA ((xs.take j).map It.k) st) := by
  obtain ⟨hj, rfl⟩ := List.getElem?_eq_some_iff.1 h
  rw [List.take_succ_eq_append_getElem hj, List.map_append]
  exact rdA_snoc _ _ _
theorem flat_pos {xs : List It} (h : xs ≠ []) : xs.flatMap itB ≠ [] := by
  cases xs with
  | nil => exact absurd rfl h
  | cons x xs =>
    rw [List.flatMap_cons]
    intro e
    have e1 := (List.append_eq_nil_iff.1 e).1
    have : ∀ n, numB n ≠ [] := fun n e => by have := numB_pos n; rw [e] at this; simp at this
    unfold itB textB allB at e1
    split at e1
    · exact this _ e1
    split at e1
    · exact this _ e1
    split at e1
    · exact this _ (List.append_eq_nil_iff.1 e1).1
    split at e1
    · exact this _ (List.append_eq_nil_iff.1 e1).1
    split at e1
    · exact this _ (List.append_eq_nil_iff.1 e1).1
    split at e1
    · exact this _ (List.append_eq_nil_iff.1 e1).1
    exact this _ e1
theorem rset_is {g k : Nat} (h : RSet (some ⟨g, 0, none⟩) k) : k = g := (congrArg Addr.block (Option.some.inj h)).symm
/-- An item's cells, and what it is, in a later world. -/
theorem item_at {w wr : World} {n j : Nat} {A : Option Addr} {xs : List It} (hr : Reads w w.heap.size 8 A n (xs.flatMap itL)) (hx : xs.length = n) (hk : ∀ x ∈ xs, ItRd x w) (hs : ∀ x ∈ xs, sizeI x ≤ 4000) (hj : j < n) (hf : Below w.heap.size w wr) :
    ∃ ad x, A = some ad ∧ xs[j]? = some x ∧ Hid (ItOk x wr w.heap.size) ∧ Hid (∀ g ad, w.heap.size ≤ g → (x.A1 = some ad ∧ 0 < x.n1) ∨ (x.A2 = some ad ∧ 0 < x.n2) ∨ (x.A3 = some ad ∧ 0 < x.n3) → ¬ RSet (some ⟨g, 0, none⟩) ad.block) ∧
      wr.cell? (ad.add (j * 8)) = some (.int .u8 x.k) ∧ wr.cell? ⟨(ad.add (j * 8)).block, (ad.add (j * 8)).off + 1, none⟩ = some (.int .u64 x.n) ∧ wr.cell? ⟨(ad.add (j * 8)).block, (ad.add (j * 8)).off + 2, none⟩ = some (.int .i64 x.i) ∧
      wr.cell? ⟨(ad.add (j * 8)).block, (ad.add (j * 8)).off + 3, none⟩ = some (.bool x.is) ∧ wr.cell? ⟨(ad.add (j * 8)).block, (ad.add (j * 8)).off + 4, none⟩ = some (.string x.s) ∧ wr.cell? ⟨(ad.add (j * 8)).block, (ad.add (j * 8)).off + 5, none⟩ = some (.slice x.A1 x.n1 x.c1) ∧
      wr.cell? ⟨(ad.add (j * 8)).block, (ad.add (j * 8)).off + 6, none⟩ = some (.slice x.A2 x.n2 x.c2) ∧ wr.cell? ⟨(ad.add (j * 8)).block, (ad.add (j * 8)).off + 7, none⟩ = some (.slice x.A3 x.n3 x.c3) := by
  obtain ⟨ad, x, rfl, hxj, h⟩ := item_cells (S := fun _ => False) hr hx hj (Nat.le_refl _) (Far.of_below hf) (fun _ e => e.elim)
  have hm := List.mem_of_getElem? hxj
  exact ⟨ad, x, rfl, hxj, Lib.hid (((hk x hm).ok (hs x hm)).below hf (Nat.le_refl _)), Lib.hid (fun g ad hg ha e => by have h1 := (hk x hm).low ad ha; have h2 := rset_is e; exact absurd h1 (by omega)), h⟩
theorem rem_some {st : Option (List UInt8)} {M : Nat} (h : rem st ≤ M + 1) : ∀ b, st = some b → b.length ≤ M := by
  intro b e
  subst e
  exact Nat.le_of_succ_le_succ h
set_option maxHeartbeats 8000000 in
set_option maxRecDepth 20000 in
theorem PackBack_any (A : Option Addr) (n c : Nat) (xs : List It) (w : World) (hr : Reads w w.heap.size 8 A n (xs.flatMap itL)) (hx : xs.length = n) (hk : ∀ x ∈ xs, ItRd x w) (hn : n * 120 ≤ 140737488351232) :
    Calls Try.prog 7 #[.slice A n c] w fun e w' => e = .returned (.bool true) ∧ Below w.heap.size w w' := by
  have HGR := Lib.hid (great_any A n c xs w hr hx hk hn)
  have HR := Lib.hid hr
  have HX := Lib.hid hx
  have HK := Lib.hid hk
  have hn1 : (n : Int) ≤ 1172812402960 := by omega
  clear hr hx hk hn
  go_enter Try.func7, Try.ntmps7
  go_wp2_with (go_at_call 14; (with_reducible refine HGR.out.mono ?_); rintro e w1 ⟨b, rfl, hb, hd⟩; have HB := Lib.hid hb; have HD := Lib.hid hd.below; clear hb hd)
  · go_wp2_with (go_at_call 10; refine (head_any _).mono ?_; rintro e w2 ⟨rfl, hb2⟩)
    go_ret
    exact ⟨rfl, bel_trans HD.out hb2⟩
  · have hbf : b = false := by assumption
    subst hbf
    obtain ⟨h40, h100, htot⟩ := HB.out rfl
    have HS := Lib.hid (show ∀ x ∈ xs, sizeI x ≤ 4000 from fun x hx => size_le hx htot)
    have hn40 : n ≤ 40 := by rw [← HX.out]; exact h40
    clear h40 h100 htot HB
    have S0 := Lib.hid (new_wr w1)
    have F0 := Lib.hid (WF.refl true w1.heap.size none (w1.alloc (.cells #[.slice none 0 0, .bool true] 67)))
    have L1 := Lib.hid HD.out.size
    have LT := Lib.hid (show ∀ j, j ≤ 40 → (wt xs j).length ≤ 2000000 from fun j hj => by
      have := wt_len HK.out HS.out j
      have : j * 36009 ≤ 40 * 36009 := Nat.mul_le_mul_right _ hj
      omega)
    go_wp2_with (go_at_call 15; refine (new_any _).mono ?_; rintro e w' ⟨rfl, rfl⟩)
    go_loopw [4] (fun i wr => ∃ (j : Nat) (r' : Option Nat), i = .int .i64 j ∧ j ≤ n ∧ Hid (WrS wr w1.heap.size r' (some ⟨w1.heap.size, 0, none⟩) (some (wt xs j))) ∧ Hid (WF true w1.heap.size none (w1.alloc (.cells #[.slice none 0 0, .bool true] 67)) r' wr)) (fun i _ => n - (intOf i).toNat)
    case atStart => exact ⟨0, none, rfl, Nat.zero_le _, Lib.hid (by rw [wt_zero]; exact S0.out), F0⟩
    case round =>
      obtain ⟨j, r', rfl, hj, SK, FK⟩ := hrel
      have LW := Lib.hid (FK.out.low (B := w.heap.size) L1.out (by have := L1.out; simp; omega))
      have BW := Lib.hid ((bel_alloc HD.out _).trans (FK.out.bel (B := w.heap.size) L1.out (by have := L1.out; simp; omega)))
      by_cases hlt : j < n
      · obtain ⟨ad, x, rfl, hxj, RW, RL, c0, c1, c2, c3, c4, c5, c6, c7⟩ := item_at HR.out HX.out HK.out HS.out hlt BW.out
        have HM := Lib.hid (List.mem_of_getElem? hxj)
        have HW := Lib.hid (wt_succ hxj)
        clear hxj
        have LO := Lib.hid ((HK.out x HM.out).low)
        have b1 := LT.out (j + 1) (by omega)
        rw [HW.out, List.length_append] at b1
        have HL1 := Lib.hid (show (itB x).length ≤ 10000000000000 by omega)
        have HL2 := Lib.hid (show (wt xs j).length ≤ 10000000000000 by omega)
        clear b1
        have HC := Lib.hid (writes_any _ _ _ _ x w.heap.size _ SK.out RW.out BW.out.size (fun ad h hs => absurd (LW.out _ hs) (Nat.not_le_of_lt (LO.out ad h))) HL1.out (len_some HL2.out))
        go_wp2_with (go_at_call 16; refine HC.out.mono ?_; rintro e w3 ⟨rfl, r3, hs3, hf3⟩; have S3 := Lib.hid hs3; have F3 := Lib.hid (FK.out.trans hf3); clear hs3 hf3)
        go_roundw
        case rel => exact ⟨j + 1, r3, by go_num, by omega, by rw [HW.out]; exact S3, F3⟩
        case measure => simp [intOf]; omega
      · obtain rfl : j = n := by omega
        obtain ⟨W1, hW1⟩ : ∃ W1, W1 = wr := ⟨_, rfl⟩
        subst hW1
        have HT := Lib.hid (wt_all HX.out)
        have HLN := Lib.hid (LT.out j (by omega))
        have R0 := Lib.hid (show RdS (W1.alloc (.cells #[strV (wt xs j), .bool true, .bool true] 70)) W1.heap.size (some ⟨W1.heap.size, 0, none⟩) true (some (wt xs j)) from new_rdl _ _)
        go_wp2_with (first
          | (go_at_call 17; (with_reducible refine (bytes_lit _ _ _ _ _ _ SK.out rfl).mono ?_); rintro e w' ⟨rfl, rfl⟩)
          | (go_at_call 24; (with_reducible refine (newr_lit _ _).mono ?_); rintro e w' ⟨rfl, rfl⟩))
        have BR := Lib.hid (bel_trans BW.out (bel_alloc (Below.refl _ _) (.cells #[strV (wt xs j), .bool true, .bool true] 70)))
        have HG := Lib.hid BW.out.size
        go_loopw [7] (fun i wq => ∃ (m : Nat), i = .int .i64 m ∧ m ≤ j ∧ Hid (RdS wq W1.heap.size (some ⟨W1.heap.size, 0, none⟩) true (some (dr xs m))) ∧ Hid (Below w.heap.size w wq)) (fun i _ => j - (intOf i).toNat)
        case atStart => exact ⟨0, rfl, Nat.zero_le _, Lib.hid (by rw [dr_zero HX.out]; exact R0.out), BR⟩
        case round =>
          obtain ⟨m, rfl, hm, RD, BQ⟩ := hrel
          by_cases hlm : m < j
          · obtain ⟨ad, x, rfl, hxj, RW, RL, c0, c1, c2, c3, c4, c5, c6, c7⟩ := item_at HR.out HX.out HK.out HS.out hlm BQ.out
            have HE := Lib.hid (dr_step hxj)
            clear hxj
            have HB := Lib.hid (got_back RW.out (dr xs (m + 1)))
            have HC := Lib.hid (got_any _ _ _ _ x w.heap.size _ RD.out RW.out BQ.out.size (fun ad h => RL.out _ ad HG.out h) (len_some (Nat.le_trans (dr_le HX.out m) (Nat.le_trans HLN.out (by omega)))))
            go_wp2_with (first
              | (go_at_call 26; refine HC.out.mono ?_; rintro e w3 ⟨b, rfl, hb, hr3, hf3⟩; obtain rfl : b = true := hb.2 (by rw [HE.out]; exact HB.out.1); have R3 := Lib.hid (show RdS w3 W1.heap.size (some ⟨W1.heap.size, 0, none⟩) true (some (dr xs (m + 1))) by rw [HE.out, HB.out.2] at hr3; exact hr3); have F3 := Lib.hid hf3; clear hr3 hf3 hb)
              | (go_at_call 27; (with_reducible refine (fine_any _ _ _ _ _ R3.out).mono ?_); rintro e w' ⟨rfl, rfl⟩))
            go_roundw
            case rel => exact ⟨m + 1, by go_num, by omega, R3, Lib.hid (BQ.out.trans (F3.out.bel HG.out BQ.out.size))⟩
            case measure => simp [intOf]; omega
          · obtain rfl : m = j := by omega
            obtain ⟨W2, hW2⟩ : ∃ W2, W2 = wr := ⟨_, rfl⟩
            subst hW2
            have RE := Lib.hid (show RdS W2 W1.heap.size (some ⟨W1.heap.size, 0, none⟩) true (some []) by have := RD.out; rwa [dr_end HX.out] at this)
            have HFU := Lib.hid (show rdA (xs.map It.k) (some (wt xs m)) = some [] by rw [HT.out, ← List.append_nil (xs.flatMap itB)]; exact rdA_full (w := w) (B := w.heap.size) [] xs (fun x hx => (HK.out x hx).ok (HS.out x hx)))
            by_cases hz : (wt xs m) = []
            · obtain rfl : m = 0 := by
                rw [← HX.out, List.length_eq_zero_iff]
                by_cases e : xs = []
                · exact e
                · exact absurd (HT.out ▸ hz) (flat_pos e)
              rw [hz]
              go_wp2_with (first
                | (go_at_call 28; (with_reducible refine (end_lit _ _ [] 0 _ RE.out (by decide)).mono ?_); rintro e w' ⟨rfl, rfl⟩)
                | (go_at_call 29; (with_reducible refine (left_lit _ _ [] 0 _ RE.out (by decide)).mono ?_); rintro e w' ⟨rfl, rfl⟩)
                | (go_at_call 10; (with_reducible refine (head_any _).mono ?_); rintro e w2 ⟨rfl, hb2⟩))
              go_ret
              exact ⟨rfl, bel_trans BQ.out hb2⟩
            · obtain ⟨l, hl⟩ : ∃ l, wt xs m = l := ⟨_, rfl⟩
              rw [hl] at hz
              have hln := HLN.out
              rw [hl] at hln
              have HFC := Lib.hid (show rdA (xs.map It.k) (some l.dropLast) = none from rdA_cut (by rw [← hl]; exact HFU.out) hz)
              rw [hl]
              obtain ⟨d, hd⟩ : ∃ d, l.length = d + 1 := ⟨l.length - 1, by have := List.length_pos_iff.2 hz; omega⟩
              have HDR := Lib.hid (show l.take d = l.dropLast by rw [List.dropLast_eq_take, hd]; rfl)
              have w0 : IntKind.i64.wrap ((l.length : Int) - 1) = (d : Int) := by rw [wrap_in (by omega)]; omega
              have w1' : (d : Int) ≤ (l.length : Int) := by omega
              have w2' : (0 : Int) ≤ (d : Int) := by omega
              have w3' : d ≤ l.length := by omega
              have q4 : decide ((l.length : Int) = 0) = false := by simp; omega
              have q5 : ((l.length : Int) == 0) = false := by simp; omega
              have S1 := str_take l d
              have HDL := Lib.hid (show (l.take d).length ≤ 2000000 by rw [List.length_take]; omega)
              clear hd hz hln hl
              have R5 := Lib.hid (show RdS (W2.alloc (.cells #[strV (l.take d), .bool true, .bool true] 70)) W2.heap.size (some ⟨W2.heap.size, 0, none⟩) true (some (l.take d)) from new_rdl _ _)
              have B5 := Lib.hid (bel_trans BQ.out (bel_alloc (Below.refl _ _) (.cells #[strV (l.take d), .bool true, .bool true] 70)))
              have HG2 := Lib.hid BQ.out.size
              go_wp2_with (first
                | (go_at_call 28; (with_reducible refine (end_lit _ _ [] 0 _ RE.out (by decide)).mono ?_); rintro e w' ⟨rfl, rfl⟩)
                | (go_at_call 29; (with_reducible refine (left_lit _ _ [] 0 _ RE.out (by decide)).mono ?_); rintro e w' ⟨rfl, rfl⟩)
                | (go_at_call 24; (with_reducible refine (newr_lit _ _).mono ?_); rintro e w' ⟨rfl, rfl⟩))
              go_loopw [9] (fun i wq => ∃ (t : Nat), i = .int .i64 t ∧ t ≤ m ∧ Hid (RdS wq W2.heap.size (some ⟨W2.heap.size, 0, none⟩) true (rdA ((xs.take t).map It.k) (some (l.take d)))) ∧ Hid (Below w.heap.size w wq)) (fun i _ => m - (intOf i).toNat)
              case atStart => exact ⟨0, rfl, Nat.zero_le _, R5, B5⟩
              case round =>
                obtain ⟨t, rfl, ht, RT, BT⟩ := hrel
                by_cases hlt2 : t < m
                · obtain ⟨ad, x, rfl, hxj, RW, RL, c0, c1, c2, c3, c4, c5, c6, c7⟩ := item_at HR.out HX.out HK.out HS.out hlt2 BT.out
                  have HE := Lib.hid (rdA_next hxj (some (l.take d)))
                  clear hxj
                  have HC := Lib.hid (got_any _ _ _ _ x w.heap.size _ RT.out RW.out BT.out.size (fun ad h => RL.out _ ad HG2.out h) (rem_some (Nat.le_trans (rdA_rem _ _) (Nat.succ_le_succ (Nat.le_trans HDL.out (by omega))))))
                  go_wp2_with (go_at_call 26; refine HC.out.mono ?_; rintro e w3 ⟨b, rfl, _, hr3, hf3⟩; have R3 := Lib.hid hr3; have F3 := Lib.hid hf3; clear hr3 hf3)
                  go_roundw
                  case rel => exact ⟨t + 1, by go_num, by omega, by rw [HE.out]; exact R3, Lib.hid (BT.out.trans (F3.out.bel HG2.out BT.out.size))⟩
                  case measure => simp [intOf]; omega
                · obtain rfl : t = m := by omega
                  have RN := Lib.hid (show RdS wr W2.heap.size (some ⟨W2.heap.size, 0, none⟩) true none by have := RT.out; rwa [List.take_of_length_le (Nat.le_of_eq HX.out), HDR.out, HFC.out] at this)
                  go_wp2_with (first
                    | (go_at_call 27; (with_reducible refine (fine_any _ _ true none _ RN.out).mono ?_); rintro e w' ⟨rfl, rfl⟩)
                    | (go_at_call 28; (with_reducible refine (end_bad _ _ _ RN.out).mono ?_); rintro e w' ⟨rfl, rfl⟩)
                    | (go_at_call 10; (with_reducible refine (head_any _).mono ?_); rintro e w2 ⟨rfl, hb2⟩))
                  go_ret
                  exact ⟨rfl, bel_trans BT.out hb2⟩
end Go.Proofs.Ytijkfllolcgfhaa.Pack
