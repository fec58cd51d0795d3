/- Chapter 23: the program's shares, walked; rows of numbers that are written. No condition but bounds. -/
import Derived.Test.YtglomkpnbdnnoaaFlexA
namespace Go.Proofs.Ytglomkpnbdnnoaa.Flex
open Go.RowKit Go.Proofs.Ytglomkpnbdnnoaa.Unit Go.Proofs.Ytglomkpnbdnnoaa.Div
set_option linter.unusedVariables false
set_option linter.unusedSimpArgs false
/-! ### rows of numbers -/
theorem own_store {W : World} {base e size n cap g : Nat} {xs : List Value} (h : W.ownsRow base e size (.slice (some ⟨g, 0, none⟩) n cap) n xs) (q : Nat) (u : Value) : (W.setCell ⟨g, q, none⟩ u).ownsRow base e size (.slice (some ⟨g, 0, none⟩) n cap) n (xs.set q u) := by
  refine ⟨by rw [List.length_set]; exact h.1, .inr ?_⟩
  rcases h.2 with ⟨hv, _⟩ | ⟨g', cap', cur, hv, hB, hg, h1, h2, h3, h4⟩
  · cases hv
  · injection hv with i1 i2 i3
    injection i1 with i1
    injection i1 with i1
    subst i1 i3
    have hb : Blk W g e cur := hg
    refine ⟨g, cap, cur.setIfInBounds q u, rfl, hB, hb.set_ q u, h1, h2, by rw [Array.size_setIfInBounds]; exact h3, ?_⟩
    rw [Array.toList_setIfInBounds, List.take_set, h4]
theorem own_block_at {W : World} {base e size n c : Nat} {A : Option Addr} {xs : List Value} (h : W.ownsRow base e size (.slice A n c) n xs) (hn : 0 < n) : ∃ g, A = some ⟨g, 0, none⟩ ∧ base ≤ g ∧ (∀ q, W.frozen? ⟨g, q, none⟩ = false) := by
  rcases h.2 with ⟨_, h0⟩ | ⟨g, cap, cur, hv, hB, hg, _⟩
  · omega
  · injection hv with i1
    have hb : Blk W g e cur := hg
    exact ⟨g, i1, hB, fun q => hb.frozen q⟩
/-- A cell of a row of one's own. -/
structure OwnAt (α : Type) (f : α → Value) (W : World) (base e : Nat) (A : Option Addr) (n c : Nat) (xs : List α) (k : Nat) (ad : Addr) (x : α) : Prop where
  at_ : xs[k]? = some x
  cell : W.cell? (ad.add k) = some (f x)
  free : W.frozen? (ad.add k) = false
  far : base ≤ (ad.add k).block
  put : ∀ u, (W.setCell (ad.add k) (f u)).ownsRow base e 1 (.slice A n c) n ((xs.set k u).map f)
theorem own_cell {α : Type} {f : α → Value} {W : World} {base e n c : Nat} {A : Option Addr} {xs : List α} (h : W.ownsRow base e 1 (.slice A n c) n (xs.map f)) {k : Nat} (hk : k < n) : ∃ ad x, A = some ad ∧ OwnAt α f W base e A n c xs k ad x := by
  obtain ⟨g, rfl, hB, hf⟩ := own_block_at h (by omega)
  have hl : k < xs.length := by have := h.1; rw [List.length_map] at this; omega
  obtain ⟨ad, e1, _, hc⟩ := (own_reads h).2 (by omega)
  injection e1 with e1
  subst e1
  refine ⟨_, xs[k], rfl, List.getElem?_eq_getElem hl, hc k _ (by rw [List.getElem?_map, List.getElem?_eq_getElem hl]; rfl), ?_, ?_, fun u => ?_⟩
  · rw [add_new]; exact hf k
  · rw [add_new]; exact hB
  · rw [add_new, List.map_set]; exact own_store h k (f u)
theorem A_i64 : (Try.prog.info? 2).map (fun i => (i.zero, i.size, i.bytes)) = some (some (.int .i64 0), 1, 8) := by kernel_rfl
theorem made_take (z : Value) (cp m : Nat) (h : m ≤ cp) : (madeCells #[z] cp).toList.take m = List.replicate m z := by
  apply List.ext_getElem
  · simp [size_madeCells]; omega
  · intro i h1 h2
    simp [madeCells, Nat.mod_one]
theorem make_i64 (n : Nat) (hn : n ≤ 1000000) (W : World) : (Instr.makeSlice 24 (.int .i64 (n : Int)) (.int .i64 (n : Int))).run Try.prog W = .ok (.slice (some ⟨W.heap.size, 0, none⟩) n n) (W.alloc (.cells (madeCells #[Value.int .i64 0] n) 2)) := by
  obtain ⟨i0, hi, hz0, hz1, hz2⟩ := info_parts A_i64
  have := run_make (P := Try.prog) W 24 2 i0 (.int .i64 0) Try.underlying24 hi hz0 .i64 .i64 n n (by omega) (by omega) (by rw [hz2]; omega) (by omega)
  simp only [hz1, Nat.mul_one, Int.toNat_natCast] at this
  exact this
theorem made_own (W : World) (e : TypeId) (z : Value) (n : Nat) (hn : n ≤ 1000000) : (W.alloc (.cells (madeCells #[z] n) e)).ownsRow W.heap.size e 1 (.slice (some ⟨W.heap.size, 0, none⟩) n n) n (List.replicate n z) :=
  ⟨by simp, .inr ⟨W.heap.size, n, _, rfl, Nat.le_refl _, heap_alloc_new W _, Nat.le_refl _, by unfold maxLen; omega, by rw [size_madeCells]; simp, by rw [Nat.mul_one]; exact made_take z n n (Nat.le_refl _)⟩⟩
/-! ### is one of them? -/
set_option maxHeartbeats 1000000 in
theorem indexIt_any (A : Option Addr) (n c : Nat) (xs : List It) (hn : n ≤ 1000000) (w : World) (hr : Reads w w.heap.size 4 A n (itL xs)) :
    Calls Try.prog 35 #[.slice A n c, .func (.func 19) #[] #[]] w fun e w' => (∃ r : Int, e = .returned (.int .i64 r) ∧ decide (0 ≤ r) = xs.any (fun x => !maI x)) ∧ Below w.heap.size w w' := by
  have HR := Lib.hid hr
  have HL := Lib.hid (len_it hr)
  have nn : (n : Int) ≤ 1000000 := by omega
  clear hr
  go_enter Try.func35, Try.ntmps35
  go_wp2_with (fail)
  go_loopw [5, 8] (fun x i wr => ∃ k : Nat, i = .int .i64 k ∧ k ≤ n ∧ Hid (∀ j y, j < k → xs[j]? = some y → maI y = true) ∧ Hid (Below w.heap.size w wr)) (fun _ i _ => n - (intOf i).toNat)
  case atStart => exact ⟨0, rfl, by omega, Lib.hid (fun _ _ h => absurd h (by omega)), Lib.hid (Below.refl _ _)⟩
  case round =>
    obtain ⟨k, rfl, hk, HO, HW⟩ := hrel
    by_cases hlt : k < n
    · have q1 : decide ((k : Int) < (n : Int)) = true := decide_eq_true (by omega)
      have i0 : (0 : Int) ≤ (k : Int) := by omega
      have i1 : (k : Int) < (n : Int) := by omega
      obtain ⟨ad, _, rfl, _, _, _⟩ := reads_it HR.out hlt
      obtain ⟨m, hm, hbk, hC⟩ := itsAt HR.out hlt
      obtain ⟨c0, c1, c2, c3⟩ := hC _ HW.out
      have HF := Lib.hid (fun V => noMay_any m V)
      have HM := Lib.hid hm
      obtain ⟨b, hb⟩ : ∃ b, maI m = b := ⟨_, rfl⟩
      rw [hb] at HF
      have HB := Lib.hid hb
      clear hm hbk hC hb
      cases b
      · have HA := Lib.hid (show xs.any (fun x => !maI x) = true by
          rw [List.any_eq_true]
          exact ⟨m, List.mem_of_getElem? HM.out, by rw [HB.out]; rfl⟩)
        go_wp2_with (go_at_call 19; (with_reducible refine (HF.out _).mono ?_); rintro e w1 ⟨rfl, b1⟩; have B1 := Lib.hid (bel_trans HW.out b1); clear b1)
        go_ret
        exact ⟨⟨(k : Int), rfl, by rw [HA.out]; exact decide_eq_true i0⟩, B1.out⟩
      · have HO2 := Lib.hid (show ∀ j y, j < k + 1 → xs[j]? = some y → maI y = true from fun j y hj hy => by
          rcases Nat.lt_succ_iff_lt_or_eq.1 hj with h | h
          · exact HO.out j y h hy
          · subst h
            have h := HM.out
            rw [h] at hy
            injection hy with hy
            rw [← hy]; exact HB.out)
        go_wp2_with (go_at_call 19; (with_reducible refine (HF.out _).mono ?_); rintro e w1 ⟨rfl, b1⟩; have B1 := Lib.hid (bel_trans HW.out b1); clear b1)
        go_roundw
        case rel => exact ⟨k + 1, by go_num, by omega, HO2, B1⟩
        case measure => simp [intOf]; omega
    · obtain rfl : k = n := by omega
      have q1 : decide ((k : Int) < (k : Int)) = false := decide_eq_false (by omega)
      have HA := Lib.hid (show xs.any (fun x => !maI x) = false by
        rw [List.any_eq_false]
        intro y hy
        obtain ⟨j, hj⟩ := List.getElem?_of_mem hy
        rw [HO.out j y (by have := (List.getElem?_eq_some_iff.1 hj).1; have := HL.out; omega) hj]
        simp)
      go_wp2
      go_ret
      exact ⟨⟨-1, rfl, by rw [HA.out]; rfl⟩, HW.out⟩
theorem containsIt_any (A : Option Addr) (n c : Nat) (xs : List It) (hn : n ≤ 1000000) (w : World) (hr : Reads w w.heap.size 4 A n (itL xs)) :
    Calls Try.prog 18 #[.slice A n c, .func (.func 19) #[] #[]] w fun e w' => e = .returned (.bool (xs.any (fun x => !maI x))) ∧ Below w.heap.size w w' := by
  have HI := Lib.hid (indexIt_any A n c xs hn w hr)
  clear hr
  go_enter Try.func18, Try.ntmps18
  go_wp2_with (go_at_call 35; (with_reducible refine HI.out.mono ?_); rintro e w1 ⟨⟨r, rfl, hr⟩, b1⟩; have B1 := Lib.hid b1; have HR := Lib.hid hr; clear b1 hr)
  go_ret
  exact ⟨by rw [← HR.out]; rfl, B1.out⟩
set_option maxHeartbeats 1000000 in
theorem index64_any (A : Option Addr) (n c : Nat) (xs : List Int) (hn : n ≤ 1000000) (w : World) (hr : Reads w w.heap.size 1 A n (xs.map (Value.int .i64))) :
    Calls Try.prog 43 #[.slice A n c, .func (.func 33) #[] #[]] w fun e w' => (∃ r : Int, e = .returned (.int .i64 r) ∧ decide (0 ≤ r) = xs.any (fun x => !wiB x 70368744177664)) ∧ Below w.heap.size w w' := by
  have HR := Lib.hid hr
  have HL := Lib.hid (len_int hr)
  have nn : (n : Int) ≤ 1000000 := by omega
  clear hr
  go_enter Try.func43, Try.ntmps43
  go_wp2_with (fail)
  go_loopw [5, 8] (fun x i wr => ∃ k : Nat, i = .int .i64 k ∧ k ≤ n ∧ Hid (∀ j y, j < k → xs[j]? = some y → wiB y 70368744177664 = true) ∧ Hid (Below w.heap.size w wr)) (fun _ i _ => n - (intOf i).toNat)
  case atStart => exact ⟨0, rfl, by omega, Lib.hid (fun _ _ h => absurd h (by omega)), Lib.hid (Below.refl _ _)⟩
  case round =>
    obtain ⟨k, rfl, hk, HO, HW⟩ := hrel
    by_cases hlt : k < n
    · have q1 : decide ((k : Int) < (n : Int)) = true := decide_eq_true (by omega)
      have i0 : (0 : Int) ≤ (k : Int) := by omega
      have i1 : (k : Int) < (n : Int) := by omega
      obtain ⟨ad, _, rfl, _, _, _⟩ := reads_int HR.out hlt
      obtain ⟨m, hm, hbk, hC⟩ := intsAt HR.out hlt
      have c0 := hC _ HW.out
      have HF := Lib.hid (fun V => noWithin_any m V)
      have HM := Lib.hid hm
      obtain ⟨b, hb⟩ : ∃ b, wiB m 70368744177664 = b := ⟨_, rfl⟩
      rw [hb] at HF
      have HB := Lib.hid hb
      clear hm hbk hC hb
      cases b
      · have HA := Lib.hid (show xs.any (fun x => !wiB x 70368744177664) = true by
          rw [List.any_eq_true]
          exact ⟨m, List.mem_of_getElem? HM.out, by rw [HB.out]; rfl⟩)
        go_wp2_with (go_at_call 33; (with_reducible refine (HF.out _).mono ?_); rintro e w1 ⟨rfl, b1⟩; have B1 := Lib.hid (bel_trans HW.out b1); clear b1)
        go_ret
        exact ⟨⟨(k : Int), rfl, by rw [HA.out]; exact decide_eq_true i0⟩, B1.out⟩
      · have HO2 := Lib.hid (show ∀ j y, j < k + 1 → xs[j]? = some y → wiB y 70368744177664 = true from fun j y hj hy => by
          rcases Nat.lt_succ_iff_lt_or_eq.1 hj with h | h
          · exact HO.out j y h hy
          · subst h
            have h := HM.out
            rw [h] at hy
            injection hy with hy
            rw [← hy]; exact HB.out)
        go_wp2_with (go_at_call 33; (with_reducible refine (HF.out _).mono ?_); rintro e w1 ⟨rfl, b1⟩; have B1 := Lib.hid (bel_trans HW.out b1); clear b1)
        go_roundw
        case rel => exact ⟨k + 1, by go_num, by omega, HO2, B1⟩
        case measure => simp [intOf]; omega
    · obtain rfl : k = n := by omega
      have q1 : decide ((k : Int) < (k : Int)) = false := decide_eq_false (by omega)
      have HA := Lib.hid (show xs.any (fun x => !wiB x 70368744177664) = false by
        rw [List.any_eq_false]
        intro y hy
        obtain ⟨j, hj⟩ := List.getElem?_of_mem hy
        rw [HO.out j y (by have := (List.getElem?_eq_some_iff.1 hj).1; have := HL.out; omega) hj]
        simp)
      go_wp2
      go_ret
      exact ⟨⟨-1, rfl, by rw [HA.out]; rfl⟩, HW.out⟩
theorem contains64_any (A : Option Addr) (n c : Nat) (xs : List Int) (hn : n ≤ 1000000) (w : World) (hr : Reads w w.heap.size 1 A n (xs.map (Value.int .i64))) :
    Calls Try.prog 32 #[.slice A n c, .func (.func 33) #[] #[]] w fun e w' => e = .returned (.bool (xs.any (fun x => !wiB x 70368744177664))) ∧ Below w.heap.size w w' := by
  have HI := Lib.hid (index64_any A n c xs hn w hr)
  clear hr
  go_enter Try.func32, Try.ntmps32
  go_wp2_with (go_at_call 43; (with_reducible refine HI.out.mono ?_); rintro e w1 ⟨⟨r, rfl, hr⟩, b1⟩; have B1 := Lib.hid b1; have HR := Lib.hid hr; clear b1 hr)
  go_ret
  exact ⟨by rw [← HR.out]; rfl, B1.out⟩
/-! ### first sizes -/
theorem rep_map (n : Nat) : List.replicate n (Value.int .i64 0) = (List.replicate n (0 : Int)).map (Value.int .i64) := by simp
set_option maxHeartbeats 1000000 in
theorem firsts_any (A : Option Addr) (n c : Nat) (xs : List It) (hn : n ≤ 1000000) (w : World) (hr : Reads w w.heap.size 4 A n (itL xs)) :
    Calls Try.prog 21 #[.slice A n c] w fun e w' => ∃ v, e = .returned v ∧ w'.ownsRow w.heap.size 2 1 v n ((xs.map fiI).map (Value.int .i64)) ∧ Below w.heap.size w w' := by
  have HR := Lib.hid hr
  have HL := Lib.hid (len_it hr)
  have nn : (n : Int) ≤ 1000000 := by omega
  have hmk := make_i64 n hn
  clear hr
  go_enter Try.func21, Try.ntmps21
  go_upto_region 1 with fail
  go_cut [3] (fun s wx => ∃ A' c', s = .slice A' n c' ∧ Hid (wx.ownsRow w.heap.size 2 1 (.slice A' n c') n ((mixI (xs.map fiI) (List.replicate n 0) 0).map (Value.int .i64))) ∧ Hid (Below w.heap.size w wx))
  case first =>
    go_wp2
    go_meet
    exact ⟨_, _, rfl, Lib.hid (by rw [mixI_zero, ← rep_map]; exact made_own w _ _ n hn), Lib.hid (bel_alloc (Below.refl _ _) _)⟩
  case rest =>
  obtain ⟨A', c', rfl, HO, HB⟩ := hcut
  clear hmk
  go_wp2_with (fail)
  go_loopw [4, 5, 11] (fun a b i wr => ∃ k : Nat, i = .int .i64 k ∧ k ≤ n ∧ Hid (wr.ownsRow w.heap.size 2 1 (.slice A' n c') n ((mixI (xs.map fiI) (List.replicate n 0) k).map (Value.int .i64))) ∧ Hid (Below w.heap.size w wr)) (fun _ _ i _ => n - (intOf i).toNat)
  case atStart => exact ⟨0, rfl, by omega, HO, HB⟩
  case round =>
    obtain ⟨k, rfl, hk, HO, HW⟩ := hrel
    by_cases hlt : k < n
    · have q1 : decide ((k : Int) < (n : Int)) = true := decide_eq_true (by omega)
      have i0 : (0 : Int) ≤ (k : Int) := by omega
      have i1 : (k : Int) < (n : Int) := by omega
      obtain ⟨ad, _, rfl, _, _, _⟩ := reads_it HR.out hlt
      obtain ⟨m, hm, hbk, hC⟩ := itsAt HR.out hlt
      obtain ⟨c0, c1, c2, c3⟩ := hC _ HW.out
      have HF := Lib.hid (fun V => first_any m V)
      have HS := Lib.hid (mixI_set (xs.map fiI) (List.replicate n 0) k (fiI m) (by rw [List.getElem?_map, hm]; rfl) (by rw [List.length_replicate]; exact hlt))
      obtain ⟨f, hf⟩ : ∃ f, fiI m = f := ⟨_, rfl⟩
      rw [hf] at HF HS
      obtain ⟨ad', _, rfl, _⟩ := own_cell HO.out hlt
      have HA := Lib.hid (bel_alloc (Below.refl wr.heap.size wr) (.cells #[.int .i64 m.base, .int .i64 m.least, .int .i64 m.grow, .int .i64 m.shrink] 36))
      clear hm hbk hC hf
      go_wp2_with (go_at_call 23; (with_reducible refine (HF.out _).mono ?_); rintro e w1 ⟨rfl, b1⟩; have B1 := Lib.hid (bel_trans HA.out b1); have O1 := Lib.hid (own_below HO.out B1.out); obtain ⟨_, y, e1, Y⟩ := own_cell O1.out hlt; injection e1 with e1; subst e1; have d0 := Y.cell; have d1 := Y.free; have P := Lib.hid Y.put; have F := Lib.hid Y.far; clear b1 Y)
      go_roundw
      case rel => exact ⟨k + 1, by go_num, by omega, Lib.hid (by have h := P.out f; rwa [HS.out] at h), Lib.hid ((bel_trans HW.out B1.out).setCell F.out _)⟩
      case measure => simp [intOf]; omega
    · obtain rfl : k = n := by omega
      have q1 : decide ((k : Int) < (k : Int)) = false := decide_eq_false (by omega)
      go_wp2
      go_ret
      exact ⟨_, rfl, by have h := HO.out; rwa [mixI_all _ _ k (by rw [List.length_map]; exact HL.out) (by simp)] at h, HW.out⟩
end Go.Proofs.Ytglomkpnbdnnoaa.Flex
