/- Chapter 5: which numbers may be, a number at a size; the program's and the reference's, walked. No condition. -/
import Derived.Test.YtedpmehggpomnaaScaleIn
import Derived.Test.YtedpmehggpomnaaOpenS
namespace Go.Proofs.Ytedpmehggpomnaa.Font
open Go.RowKit Go.Proofs.Ytedpmehggpomnaa.Unit
set_option linter.unusedVariables false

def mayF (n : Int) : Bool := decide (0 ≤ n) && decide (n ≤ 8192)
def allF (l : List Int) : Bool := l.all mayF
theorem mayF_t {n : Int} (h : 0 ≤ n) (g : n ≤ 8192) : mayF n = true := by simp [mayF, h, g]
theorem mayF_parts {n : Int} (h : mayF n = true) : 0 ≤ n ∧ n ≤ 8192 := by simpa [mayF] using h
theorem mayF_f {n : Int} (h : n < 0 ∨ 8192 < n) : mayF n = false := by simp [mayF]; omega
theorem allF_take (l : List Int) (k : Nat) (h : k < l.length) : allF (l.take (k + 1)) = (allF (l.take k) && mayF (l[k]?.getD 0)) := by
  simp only [allF]
  rw [List.take_succ_eq_append_getElem h, List.getElem?_eq_getElem h, List.all_append]
  simp
theorem allF_not (l : List Int) (k : Nat) (h : k < l.length) (hx : mayF (l[k]?.getD 0) = false) : allF l = false := by
  rw [List.getElem?_eq_getElem h] at hx
  exact List.all_eq_false.2 ⟨_, List.getElem_mem h, by simpa using hx⟩
theorem reads_kind {w : World} {A : Option Addr} {n k B : Nat} {xs : List Int} {f : Int → Value} (hl : xs.length = n) (hr : Reads w B 1 A n (xs.map f)) (hk : k < n) : ∃ ad, A = some ad ∧ ad.block < B ∧ w.cell? (ad.add k) = some (f (xs[k]?.getD 0)) := by
  obtain ⟨ad, u, rfl, hb, hu, hc⟩ := hr.at_ hk
  refine ⟨ad, rfl, hb, ?_⟩
  rw [hc, ← hu, List.getElem?_map, List.getElem?_eq_getElem (by omega)]
  rfl

theorem bad_any (n : Int) (w : World) : Calls Try.prog 52 #[.int .i64 n] w fun e w' => e = .returned (.bool (!mayF n)) ∧ w = w' := by
  rcases Int.lt_or_le n 0 with h | h
  · go_enter Try.func52, Try.ntmps52
    go_wp2
    go_ret
    exact ⟨ret_bool (by rw [mayF_f (.inl h)]; rfl), rfl⟩
  · rcases Int.lt_or_le 8192 n with g | g
    · go_enter Try.func52, Try.ntmps52
      go_wp2
      go_ret
      exact ⟨ret_bool (by rw [mayF_f (.inr g)]; first | done | rfl | (simp; done) | (simp; omega)), rfl⟩
    · go_enter Try.func52, Try.ntmps52
      go_wp2
      go_ret
      exact ⟨ret_bool (by rw [mayF_t h g]; first | done | rfl | (simp; done) | (simp; omega)), rfl⟩
theorem refmay_any (n : Int) (w : World) : Calls Try.prog 34 #[.int .i64 n] w fun e w' => e = .returned (.bool (mayF n)) ∧ w = w' := by
  rcases Int.lt_or_le n 0 with h | h
  · go_enter Try.func34, Try.ntmps34
    go_wp2
    go_ret
    exact ⟨ret_bool (by rw [mayF_f (.inl h)]; first | done | rfl | (simp; done) | (simp; omega)), rfl⟩
  · rcases Int.lt_or_le 8192 n with g | g
    · go_enter Try.func34, Try.ntmps34
      go_wp2
      go_ret
      exact ⟨ret_bool (by rw [mayF_f (.inr g)]; first | done | rfl | (simp; done) | (simp; omega)), rfl⟩
    · go_enter Try.func34, Try.ntmps34
      go_wp2
      go_ret
      exact ⟨ret_bool (by rw [mayF_t h g]; first | done | rfl | (simp; done) | (simp; omega)), rfl⟩

def IdxEnd (xs : List Int) (w : World) (e : Ending) (w' : World) : Prop := ∃ i : Int, e = .returned (.int .i64 i) ∧ (allF xs = true → i = -1) ∧ (allF xs = false → 0 ≤ i) ∧ Drawn w w'
set_option maxHeartbeats 1000000 in
theorem index_any (A : Option Addr) (n c : Nat) (xs : List Int) (w : World) (hl : xs.length = n) (hr : Reads w w.heap.size 1 A n (xs.map (Value.int .i64))) (hn : n ≤ 1000000) :
    Calls Try.prog 54 #[.slice A n c, .func (.func 52) #[] #[]] w (IdxEnd xs w) := by
  have HL := Lib.hid hl
  have HR := Lib.hid hr
  clear hl hr
  go_enter Try.func54, Try.ntmps54
  go_wp2
  go_loopw [8] (fun i wr => ∃ k : Nat, i = .int .i64 k ∧ k ≤ n ∧ Hid (allF (xs.take k) = true) ∧ Drawn w wr) (fun i wr => n - (intOf i).toNat)
  case atStart => exact ⟨0, rfl, by omega, Lib.hid rfl, Drawn.refl _⟩
  case round =>
    obtain ⟨k, rfl, hk, HA, ⟨m, rfl⟩⟩ := hrel
    by_cases hlt : k < n
    · obtain ⟨ad, rfl, _, hc0⟩ := reads_kind HL.out HR.out hlt
      have TK := Lib.hid (allF_take xs k (by rw [HL.out]; exact hlt))
      have TN := Lib.hid (allF_not xs k (by rw [HL.out]; exact hlt))
      generalize xs[k]?.getD 0 = x at hc0 TK TN
      cases hm : mayF x with
      | true =>
        have HM := Lib.hid hm
        clear hm
        go_wp2_with (go_at_call 52; refine (bad_any _ _).mono ?_; rintro e w1 ⟨rfl, rfl⟩; rw [HM.out])
        go_roundw
        case rel => exact ⟨k + 1, by go_num, by omega, Lib.hid (by rw [TK.out, HA.out, HM.out]; rfl), ⟨⟨_, rfl⟩⟩⟩
        case measure => simp [intOf]; omega
      | false =>
        have HF := Lib.hid (TN.out hm)
        have HM := Lib.hid hm
        clear hm
        go_wp2_with (go_at_call 52; refine (bad_any _ _).mono ?_; rintro e w1 ⟨rfl, rfl⟩; rw [HM.out])
        go_ret
        exact ⟨(k : Int), rfl, fun h => by rw [HF.out] at h; (exact absurd h (by decide)), fun _ => by omega, ⟨⟨_, rfl⟩⟩⟩
    · obtain rfl : k = n := by omega
      have hA := HA.out
      rw [List.take_of_length_le (by rw [HL.out]; omega)] at hA
      have HF := Lib.hid hA
      clear hA
      go_wp2
      go_ret
      exact ⟨-1, rfl, fun _ => rfl, fun h => by rw [HF.out] at h; (exact absurd h (by decide)), ⟨⟨_, rfl⟩⟩⟩
set_option maxHeartbeats 1000000 in
theorem contains_any (A : Option Addr) (n c : Nat) (xs : List Int) (w : World) (hl : xs.length = n) (hr : Reads w w.heap.size 1 A n (xs.map (Value.int .i64))) (hn : n ≤ 1000000) :
    Calls Try.prog 51 #[.slice A n c, .func (.func 52) #[] #[]] w fun e w' => e = .returned (.bool (!allF xs)) ∧ Drawn w w' := by
  have HC := Lib.hid (index_any A n c xs w hl hr hn)
  clear hl hr
  cases h : allF xs with
  | true =>
    have HH := Lib.hid h
    clear h
    go_enter Try.func51, Try.ntmps51
    go_wp2_with (go_at_call 54; refine HC.out.mono ?_; rintro e w1 ⟨i, rfl, h1, h2, ⟨m, rfl⟩⟩; obtain rfl := h1 HH.out; clear h1 h2)
    go_ret
    exact ⟨rfl, ⟨⟨_, rfl⟩⟩⟩
  | false =>
    have HH := Lib.hid h
    clear h
    go_enter Try.func51, Try.ntmps51
    go_wp2_with (go_at_call 54; refine HC.out.mono ?_; rintro e w1 ⟨i, rfl, h1, h2, ⟨m, rfl⟩⟩; have h3 := h2 HH.out; clear h1 h2)
    go_ret
    exact ⟨ret_bool (by first | (simp; done) | (simp; omega)), ⟨⟨_, rfl⟩⟩⟩
theorem may_any (A : Option Addr) (n c : Nat) (xs : List Int) (w : World) (hl : xs.length = n) (hr : Reads w w.heap.size 1 A n (xs.map (Value.int .i64))) (hn : n ≤ 1000000) :
    Calls Try.prog 45 #[.slice A n c] w fun e w' => e = .returned (.bool (allF xs)) ∧ Drawn w w' := by
  have HC := Lib.hid (contains_any A n c xs w hl hr hn)
  clear hl hr
  go_enter Try.func45, Try.ntmps45
  go_wp2_with (go_at_call 51; refine HC.out.mono ?_; rintro e w1 ⟨rfl, ⟨m, rfl⟩⟩)
  go_ret
  exact ⟨ret_bool (by simp), ⟨⟨_, rfl⟩⟩⟩

/-! ### a number at a size -/
def atV (n size : Int) : Int := if mayF n && decide (0 ≤ size) && decide (size ≤ 1073741824) then rnd (n * size) 1024 else 0
theorem atV_in {n size : Int} (h : mayF n = true) (s0 : 0 ≤ size) (s1 : size ≤ 1073741824) : atV n size = rnd (n * size) 1024 := by simp [atV, h, s0, s1]
theorem atV_out {n size : Int} (h : mayF n = false ∨ size < 0 ∨ 1073741824 < size) : atV n size = 0 := by
  rw [atV, if_neg]
  intro hh
  simp only [Bool.and_eq_true, decide_eq_true_eq] at hh
  rcases h with h | h | h
  · rw [h] at hh; simp at hh
  · omega
  · omega
set_option maxHeartbeats 1000000 in
theorem at_any (n size : Int) (w : World) : Calls Try.prog 41 #[.int .i64 n, .int .i64 size] w fun e w' => e = .returned (.int .i64 (atV n size)) ∧ Below w.heap.size w w' := by
  have HM := Lib.hid (show allF [n] = mayF n by simp [allF])
  cases h : mayF n with
  | false =>
    have HV := Lib.hid (atV_out (n := n) (size := size) (.inl h))
    have HH := Lib.hid h
    clear h
    go_enter Try.func41, Try.ntmps41
    go_wp2_with (go_at_call 45; refine (may_any _ 1 1 [n] _ rfl ?_ (by omega)).mono ?_; exact reads_new _ _ _ _ _ rfl rfl; rintro e w2 ⟨rfl, ⟨m2, rfl⟩⟩; rw [HM.out, HH.out])
    go_ret
    exact ⟨ret_int HV.out.symm, bel_drewN (bel_alloc (Below.refl _ _) _) _⟩
  | true =>
    have hn := mayF_parts h
    rcases (show size < 0 ∨ (0 ≤ size ∧ 1073741824 < size) ∨ (0 ≤ size ∧ size ≤ 1073741824) by omega) with g | ⟨g0, g⟩ | ⟨g0, g⟩
    · have HV := Lib.hid (atV_out (n := n) (size := size) (.inr (.inl g)))
      have HH := Lib.hid h
      clear h
      go_enter Try.func41, Try.ntmps41
      go_wp2_with (go_at_call 45; refine (may_any _ 1 1 [n] _ rfl ?_ (by omega)).mono ?_; exact reads_new _ _ _ _ _ rfl rfl; rintro e w2 ⟨rfl, ⟨m2, rfl⟩⟩; rw [HM.out, HH.out])
      go_ret
      exact ⟨ret_int HV.out.symm, bel_drewN (bel_alloc (Below.refl _ _) _) _⟩
    · have HV := Lib.hid (atV_out (n := n) (size := size) (.inr (.inr g)))
      have HH := Lib.hid h
      clear h
      go_enter Try.func41, Try.ntmps41
      go_wp2_with (go_at_call 45; refine (may_any _ 1 1 [n] _ rfl ?_ (by omega)).mono ?_; exact reads_new _ _ _ _ _ rfl rfl; rintro e w2 ⟨rfl, ⟨m2, rfl⟩⟩; rw [HM.out, HH.out])
      go_ret
      exact ⟨ret_int HV.out.symm, bel_drewN (bel_alloc (Below.refl _ _) _) _⟩
    · have HV := Lib.hid (atV_in h g0 g)
      have HH := Lib.hid h
      have C := Lib.hid (scale_in n size 1024 (by omega) (by omega) (by omega) (by omega) (by omega) (by omega)).1
      clear h hn
      go_enter Try.func41, Try.ntmps41
      go_wp2_with (first
        | (go_at_call 45; refine (may_any _ 1 1 [n] _ rfl ?_ (by omega)).mono ?_; exact reads_new _ _ _ _ _ rfl rfl; rintro e w2 ⟨rfl, ⟨m2, rfl⟩⟩; rw [HM.out, HH.out])
        | (go_at_call 39; ((with_reducible refine (C.out _).mono ?_); rintro e w3 ⟨rfl, ⟨m3, rfl⟩⟩)))
      go_ret
      exact ⟨ret_int HV.out.symm, bel_drewN (bel_alloc (Below.refl _ _) _) _⟩
set_option maxHeartbeats 1000000 in
theorem refAt_any (n size : Int) (w : World) : Calls Try.prog 17 #[.int .i64 n, .int .i64 size] w fun e w' => e = .returned (.int .i64 (atV n size)) ∧ Below w.heap.size w w' := by
  cases h : mayF n with
  | false =>
    have HV := Lib.hid (atV_out (n := n) (size := size) (.inl h))
    have HH := Lib.hid h
    clear h
    go_enter Try.func17, Try.ntmps17
    go_wp2_with (go_at_call 34; refine (refmay_any _ _).mono ?_; rintro e w2 ⟨rfl, rfl⟩; rw [HH.out])
    go_ret
    exact ⟨ret_int HV.out.symm, Below.refl _ _⟩
  | true =>
    have hn := mayF_parts h
    rcases (show size < 0 ∨ (0 ≤ size ∧ 1073741824 < size) ∨ (0 ≤ size ∧ size ≤ 1073741824) by omega) with g | ⟨g0, g⟩ | ⟨g0, g⟩
    · have HV := Lib.hid (atV_out (n := n) (size := size) (.inr (.inl g)))
      have HH := Lib.hid h
      clear h
      go_enter Try.func17, Try.ntmps17
      go_wp2_with (go_at_call 34; refine (refmay_any _ _).mono ?_; rintro e w2 ⟨rfl, rfl⟩; rw [HH.out])
      go_ret
      exact ⟨ret_int HV.out.symm, Below.refl _ _⟩
    · have HV := Lib.hid (atV_out (n := n) (size := size) (.inr (.inr g)))
      have HH := Lib.hid h
      clear h
      go_enter Try.func17, Try.ntmps17
      go_wp2_with (go_at_call 34; refine (refmay_any _ _).mono ?_; rintro e w2 ⟨rfl, rfl⟩; rw [HH.out])
      go_ret
      exact ⟨ret_int HV.out.symm, Below.refl _ _⟩
    · have HV := Lib.hid (atV_in h g0 g)
      have HH := Lib.hid h
      have C := Lib.hid (scale_in n size 1024 (by omega) (by omega) (by omega) (by omega) (by omega) (by omega)).2
      clear h hn
      go_enter Try.func17, Try.ntmps17
      go_wp2_with (first
        | (go_at_call 34; refine (refmay_any _ _).mono ?_; rintro e w2 ⟨rfl, rfl⟩; rw [HH.out])
        | (go_at_call 32; ((with_reducible refine (C.out _).mono ?_); rintro e w3 ⟨rfl, hb3⟩)))
      go_ret
      exact ⟨ret_int HV.out.symm, hb3⟩
end Go.Proofs.Ytedpmehggpomnaa.Font
