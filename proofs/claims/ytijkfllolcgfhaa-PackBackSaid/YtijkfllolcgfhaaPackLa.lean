/- Chapter 3: PackWrites, walked: it returns true, for every input. No condition. -/
import Derived.Test.YtijkfllolcgfhaaPackLw
namespace Go.Proofs.Ytijkfllolcgfhaa.Pack
open Go.RowKit
set_option linter.unusedVariables false
set_option linter.unusedSimpArgs false

theorem WF.low {w0 wr : World} {g B : Nat} {r' : Option Nat} {b : Bool} (h : WF b g none w0 r' wr) (hg : B ≤ g) (hB : B ≤ w0.heap.size) : ∀ k, WSet b g r' k → B ≤ k := by
  rintro k ⟨_, rfl | hk⟩
  · exact hg
  · rcases h.row with rfl | ⟨j, rfl, hj⟩
    · cases hk
    · cases hk; omega
/-- An item's slices lie below a block. -/
theorem ItRd.low {x : It} {w : World} (h : ItRd x w) : ∀ ad, (x.A1 = some ad ∧ 0 < x.n1) ∨ (x.A2 = some ad ∧ 0 < x.n2) ∨ (x.A3 = some ad ∧ 0 < x.n3) → ad.block < w.heap.size := by
  intro ad hd
  rcases hd with ⟨e, hn⟩ | ⟨e, hn⟩ | ⟨e, hn⟩
  · obtain ⟨ad', e', hb, _⟩ := h.r1.2 hn; cases e.symm.trans e'; exact hb
  · obtain ⟨ad', e', hb, _⟩ := h.r2.2 hn; cases e.symm.trans e'; exact hb
  · obtain ⟨ad', e', hb, _⟩ := h.r3.2 hn; cases e.symm.trans e'; exact hb
/-- The bytes of the first items. -/
def wt (xs : List It) (j : Nat) : List UInt8 := (xs.take j).flatMap itB
theorem wt_zero (xs : List It) : wt xs 0 = [] := by simp [wt]
theorem wt_succ {xs : List It} {j : Nat} {x : It} (h : xs[j]? = some x) : wt xs (j + 1) = wt xs j ++ itB x := by
  obtain ⟨hj, rfl⟩ := List.getElem?_eq_some_iff.1 h
  unfold wt
  rw [List.take_succ_eq_append_getElem hj, List.flatMap_append, List.flatMap_cons, List.flatMap_nil, List.append_nil]
theorem wt_len {xs : List It} {w : World} (hk : ∀ x ∈ xs, ItRd x w) (hs : ∀ x ∈ xs, sizeI x ≤ 4000) (j : Nat) : (wt xs j).length ≤ j * 36009 := by
  have h1 := flat_len_le itB (fun _ => 36009) (xs.take j) (fun x hx => by
    have := item_len (hk x (List.mem_of_mem_take hx))
    have := hs x (List.mem_of_mem_take hx)
    omega)
  rw [sum_const, List.length_take] at h1
  refine Nat.le_trans h1 (Nat.mul_le_mul_right _ (Nat.min_le_left _ _))
/-- The eight cells of an item, later. -/
theorem item_cells {S : Nat → Prop} {w wr : World} {B n j : Nat} {A : Option Addr} {xs : List It} (hr : Reads w B 8 A n (xs.flatMap itL)) (hx : xs.length = n) (hj : j < n) (hB : B ≤ w.heap.size) (hf : Far S w wr) (hS : ∀ k, S k → B ≤ k) :
    ∃ ad x, A = some ad ∧ xs[j]? = some x ∧ wr.cell? (ad.add (j * 8)) = some (.int .u8 x.k) ∧ wr.cell? ⟨(ad.add (j * 8)).block, (ad.add (j * 8)).off + 1, none⟩ = some (.int .u64 x.n) ∧ wr.cell? ⟨(ad.add (j * 8)).block, (ad.add (j * 8)).off + 2, none⟩ = some (.int .i64 x.i) ∧
      wr.cell? ⟨(ad.add (j * 8)).block, (ad.add (j * 8)).off + 3, none⟩ = some (.bool x.is) ∧ wr.cell? ⟨(ad.add (j * 8)).block, (ad.add (j * 8)).off + 4, none⟩ = some (.string x.s) ∧ wr.cell? ⟨(ad.add (j * 8)).block, (ad.add (j * 8)).off + 5, none⟩ = some (.slice x.A1 x.n1 x.c1) ∧
      wr.cell? ⟨(ad.add (j * 8)).block, (ad.add (j * 8)).off + 6, none⟩ = some (.slice x.A2 x.n2 x.c2) ∧ wr.cell? ⟨(ad.add (j * 8)).block, (ad.add (j * 8)).off + 7, none⟩ = some (.slice x.A3 x.n3 x.c3) := by
  obtain ⟨ad, x, rfl, hb, hxj, h0, h1⟩ := rec_at itL_len hr hx hj
  have hk : ∀ p : Addr, p.block = ad.block → wr.cell? p = w.cell? p := fun p hp => hf.cell (by rw [hp]; omega) (fun e => by have := hS _ e; rw [hp] at this; omega)
  have hk1 : ∀ d u, (itL x)[d + 1]? = some u → wr.cell? ⟨(ad.add (j * 8)).block, (ad.add (j * 8)).off + (d + 1), none⟩ = some u := fun d u hu => (hk _ (by rw [block_of_add])).trans (h1 d u hu)
  exact ⟨ad, x, rfl, hxj, (hk _ (by rw [block_of_add])).trans (h0 _ rfl), hk1 0 _ rfl, hk1 1 _ rfl, hk1 2 _ rfl, hk1 3 _ rfl, hk1 4 _ rfl, hk1 5 _ rfl, hk1 6 _ rfl⟩
set_option maxHeartbeats 8000000 in
set_option maxRecDepth 20000 in
theorem PackWrites_any (A : Option Addr) (n c : Nat) (xs : List It) (w : World) (hr : Reads w w.heap.size 8 A n (xs.flatMap itL)) (hx : xs.length = n) (hk : ∀ x ∈ xs, ItRd x w) (hn : n * 120 ≤ 140737488351232) :
    Calls Try.prog 4 #[.slice A n c] w fun e w' => e = .returned (.bool true) ∧ Below w.heap.size w w' := by
  have HGR := Lib.hid (great_any A n c xs w hr hx hk hn)
  have HR := Lib.hid hr
  have HX := Lib.hid hx
  have HK := Lib.hid hk
  have hn1 : (n : Int) ≤ 1172812402960 := by omega
  clear hr hx hk hn
  go_enter Try.func4, Try.ntmps4
  go_wp2_with (go_at_call 14; (with_reducible refine HGR.out.mono ?_); rintro e w1 ⟨b, rfl, hb, hd⟩; have HB := Lib.hid hb; have HD := Lib.hid hd.below; clear hb hd)
  · go_wp2_with (go_at_call 10; refine (head_any _).mono ?_; rintro e w2 ⟨rfl, hb2⟩)
    go_ret
    exact ⟨rfl, bel_trans HD.out hb2⟩
  · have hbf : b = false := by assumption
    subst hbf
    obtain ⟨h40, h100, htot⟩ := HB.out rfl
    have HS := Lib.hid (show ∀ x ∈ xs, sizeI x ≤ 4000 from fun x hx => size_le hx htot)
    have hn40 : n ≤ 40 := by rw [← HX.out]; exact h40
    clear h40 h100 htot
    have S0 := Lib.hid (new_wr w1)
    have F0 := Lib.hid (WF.refl true w1.heap.size none (w1.alloc (.cells #[.slice none 0 0, .bool true] 67)))
    have L1 := Lib.hid HD.out.size
    go_wp2_with (go_at_call 15; refine (new_any _).mono ?_; rintro e w' ⟨rfl, rfl⟩)
    go_loopw [4, 5] (fun s i wr => ∃ (j : Nat) (r' : Option Nat), i = .int .i64 j ∧ j ≤ n ∧ s = strV (wt xs j) ∧ Hid (WrS wr w1.heap.size r' (some ⟨w1.heap.size, 0, none⟩) (some (wt xs j))) ∧ Hid (WF true w1.heap.size none (w1.alloc (.cells #[.slice none 0 0, .bool true] 67)) r' wr)) (fun _ i _ => n - (intOf i).toNat)
    case atStart => exact ⟨0, none, rfl, Nat.zero_le _, by rw [wt_zero], Lib.hid (by rw [wt_zero]; exact S0.out), F0⟩
    case round =>
      obtain ⟨j, r', rfl, hj, rfl, SK, FK⟩ := hrel
      have LW := Lib.hid (FK.out.low (B := w.heap.size) L1.out (by have := L1.out; simp; omega))
      by_cases hlt : j < n
      · obtain ⟨ad, x, rfl, hxj, c0, c1, c2, c3, c4, c5, c6, c7⟩ := item_cells (S := WSet true w1.heap.size none) (w := w1.alloc (.cells #[.slice none 0 0, .bool true] 67)) (B := w.heap.size) ((HR.out.below HD.out).alloc L1.out _) HX.out hlt (by have := L1.out; simp; omega) FK.out.far (fun k hk => by rcases hk.2 with rfl | h; exact L1.out; cases h)
        have HM := Lib.hid (List.mem_of_getElem? hxj)
        have HW := Lib.hid (wt_succ hxj)
        clear hxj
        have RO := Lib.hid ((HK.out x HM.out).ok (HS.out x HM.out))
        have RW := Lib.hid (((RO.out.below HD.out (Nat.le_refl _)).below (bel_alloc (Below.refl _ _) (.cells #[.slice none 0 0, .bool true] 67)) L1.out).far FK.out.far (by have := L1.out; simp; omega) (fun ad h hs => by
          have h1 := (HK.out x HM.out).low ad h
          rcases hs.2 with h2 | h2
          · have := L1.out; omega
          · cases h2))
        have RL := Lib.hid (HK.out x HM.out).low
        have b1 : (((wt xs (j + 1)).length : Nat) : Int) ≤ 2000000 := by
          have := wt_len HK.out HS.out (j + 1)
          have : (j + 1) * 36009 ≤ 40 * 36009 := Nat.mul_le_mul_right _ (by omega)
          omega
        rw [HW.out, List.length_append] at b1
        have HL1 := Lib.hid (show (itB x).length ≤ 10000000000000 by omega)
        have HL2 := Lib.hid (show (wt xs j).length ≤ 10000000000000 by omega)
        have S1 := str_app
        have HC := Lib.hid (writes_any _ _ _ _ x w.heap.size _ SK.out RW.out (by have := L1.out; have := FK.out.far.size; simp at this; omega) (fun ad h hs => absurd (LW.out _ hs) (Nat.not_le_of_lt (RL.out ad h))) HL1.out (len_some HL2.out))
        go_wp2_with (go_at_call 16; refine HC.out.mono ?_; rintro e w3 ⟨rfl, r3, hs3, hf3⟩; have S3 := Lib.hid hs3; have F3 := Lib.hid (FK.out.trans hf3); clear hs3 hf3)
        go_roundw
        case rel => exact ⟨j + 1, r3, by go_num, by omega, by rw [HW.out], by rw [HW.out]; exact S3, F3⟩
        case measure => simp [intOf]; omega
      · obtain rfl : j = n := by omega
        have q1 : (wt xs j == wt xs j) = true := by simp
        go_wp2_with (first
          | (go_at_call 17; (with_reducible refine (bytes_lit _ _ _ _ _ _ SK.out rfl).mono ?_); rintro e w' ⟨rfl, rfl⟩)
          | (go_at_call 10; refine (head_any _).mono ?_; rintro e w2 ⟨rfl, hb2⟩))
        go_ret
        exact ⟨rfl, bel_trans ((bel_alloc HD.out _).trans (FK.out.bel (B := w.heap.size) L1.out (by have := L1.out; simp; omega))) hb2⟩
end Go.Proofs.Ytijkfllolcgfhaa.Pack
