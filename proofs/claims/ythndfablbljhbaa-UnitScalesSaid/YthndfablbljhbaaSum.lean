/- unit.Sum, fit, Halves, Stop, May, walked. No condition but a bound on how many numbers. -/
import Derived.Test.YthndfablbljhbaaScaleAll
import Derived.Test.YthndfablbljhbaaMore
import Derived.Shelf.Spec.BitsCarry
namespace Go.Proofs.Ythndfablbljhbaa.Unit
open Go.RowKit Go.Proofs.Ythndfablbljhbaa.Div
set_option linter.unusedVariables false

def okS (s : Int) : Bool := decide (-4611686018427387904 ≤ s) && decide (s ≤ 4611686018427387904)
def fitsV (s : Int) : Int := if okS s then s else 0
def fitsE (s : Int) : Int := if okS s then 0 else 10

theorem fit_any (n : Int) (w : World) : Calls Try.prog 29 #[.int .i64 n] w fun e w' => e = .returned (.tuple #[.int .i64 (fitsV n), .int .i64 (fitsE n)]) ∧ w = w' := by
  rcases Int.lt_or_le n (-4611686018427387904) with h | h
  · have E := Lib.hid (show fitsV n = 0 ∧ fitsE n = 10 by simp [fitsV, fitsE, okS]; omega)
    go_enter Try.func29, Try.ntmps29
    go_wp2
    go_ret2
    exact ⟨ret_int2 E.out.1.symm E.out.2.symm, rfl⟩
  · rcases Int.lt_or_le 4611686018427387904 n with g | g
    · have E := Lib.hid (show fitsV n = 0 ∧ fitsE n = 10 by simp [fitsV, fitsE, okS]; omega)
      go_enter Try.func29, Try.ntmps29
      go_wp2
      go_ret2
      exact ⟨ret_int2 E.out.1.symm E.out.2.symm, rfl⟩
    · have E := Lib.hid (show fitsV n = n ∧ fitsE n = 0 by simp [fitsV, fitsE, okS]; omega)
      go_enter Try.func29, Try.ntmps29
      go_wp2
      go_ret2
      exact ⟨ret_int2 E.out.1.symm E.out.2.symm, rfl⟩

theorem add_run (x y s c : Nat) (hs : (x + y) % 18446744073709551616 = s) (hc : (x + y) / 18446744073709551616 = c) (w : World) :
    (callFunc 28 #[.int .u64 x, .int .u64 y, .int .u64 0]).run Try.prog w = .ok (.value (.tuple #[.int .u64 (s : Nat), .int .u64 (c : Nat)])) w := by
  rw [run_callFunc_extern Try.func28 (by kernel_rfl) (by kernel_rfl) (by kernel_rfl) (e := add64Entry) (by kernel_rfl)]
  have := run_add64 (P := Try.prog) (x : Int) (y : Int) 0 (by omega) (by omega) (by omega) (by omega) w
  rw [this, show ((x : Int) + (y : Int) + 0) % 18446744073709551616 = (s : Int) by omega, show ((x : Int) + (y : Int) + 0) / 18446744073709551616 = (c : Int) by omega]
  rfl

/-! ### sums -/
def sumI (l : List Int) : Int := l.foldr (· + ·) 0
theorem sumI_snoc (l : List Int) (x : Int) : sumI (l ++ [x]) = sumI l + x := by
  induction l with
  | nil => simp [sumI]
  | cons a l ih => simp only [sumI, List.cons_append, List.foldr_cons] at ih ⊢; omega
theorem sumI_take (l : List Int) (k : Nat) (h : k < l.length) : sumI (l.take (k + 1)) = sumI (l.take k) + l[k]?.getD 0 := by
  rw [List.take_succ_eq_append_getElem h, sumI_snoc, List.getElem?_eq_getElem h]
  rfl
/-- The two words hold the sum. -/
structure Two (S : Int) (h : Int) (l : Nat) : Prop where
  eq : h * 18446744073709551616 + l = S
  lt : l < 18446744073709551616
theorem two_step {S h : Int} {l : Nat} (T : Two S h l) (x : Int) (x0 : -9223372036854775808 ≤ x) (x1 : x ≤ 9223372036854775807) (u s c : Nat) (d : Int) (hu : x % 18446744073709551616 = (u : Int)) (hs : (l + u) % 18446744073709551616 = s) (hc : (l + u) / 18446744073709551616 = c) (hd : x / 9223372036854775808 = d) :
    Two (S + x) (h + d + c) s ∧ (d = 0 ∨ d = -1) ∧ (c = 0 ∨ c = 1) := by
  have := T.eq
  have := T.lt
  refine ⟨⟨?_, by omega⟩, by omega, by omega⟩
  rcases (show d = 0 ∨ d = -1 by omega) with rfl | rfl
  · have : (u : Int) = x := by omega
    omega
  · have : (u : Int) = x + 18446744073709551616 := by omega
    omega
theorem two_end {S h : Int} {l : Nat} (T : Two S h l) (n : Int) (hn : (l + 9223372036854775808 : Int) % 18446744073709551616 - 9223372036854775808 = n) :
    (h = n / 9223372036854775808 → S = n) ∧ (h ≠ n / 9223372036854775808 → S < -9223372036854775808 ∨ 9223372036854775807 < S) := by
  have := T.eq
  have := T.lt
  omega

def goodL (l : List Int) : Prop := ∀ x ∈ l, -9223372036854775808 ≤ x ∧ x ≤ 9223372036854775807
theorem goodL_at {l : List Int} (h : goodL l) (k : Nat) : -9223372036854775808 ≤ l[k]?.getD 0 ∧ l[k]?.getD 0 ≤ 9223372036854775807 := by
  rcases Nat.lt_or_ge k l.length with g | g
  · rw [List.getElem?_eq_getElem g]
    exact h _ (List.getElem_mem g)
  · rw [List.getElem?_eq_none g]
    decide
set_option maxHeartbeats 2000000 in
set_option maxRecDepth 100000 in
theorem sum_any (A : Option Addr) (n c : Nat) (xs : List Int) (w : World) (hl : xs.length = n) (hr : Reads w w.heap.size 1 A n (xs.map (Value.int .i64))) (hg : goodL xs) (hn : n ≤ 1000000) :
    Calls Try.prog 16 #[.slice A n c] w fun e w' => e = .returned (.tuple #[.int .i64 (fitsV (sumI xs)), .int .i64 (fitsE (sumI xs))]) ∧ Drawn w w' := by
  have HL := Lib.hid hl
  have HR := Lib.hid hr
  have HG := Lib.hid hg
  clear hl hr hg
  go_enter Try.func16, Try.ntmps16
  go_wp2
  go_loopw [4, 5, 13] (fun hv lv i wr => ∃ (h : Int) (l k : Nat), hv = .int .i64 h ∧ lv = .int .u64 l ∧ i = .int .i64 k ∧ k ≤ n ∧ -1 * (k : Int) ≤ h ∧ h ≤ k ∧ Hid (Two (sumI (xs.take k)) h l) ∧ Drawn w wr) (fun hv lv i wr => n - (intOf i).toNat)
  case atStart => exact ⟨0, 0, 0, rfl, rfl, rfl, by omega, by omega, by omega, ⟨by simp [sumI], by omega⟩, Drawn.refl _⟩
  case round =>
    obtain ⟨h, l, k, rfl, rfl, rfl, hk, h0, h1, HT, ⟨m, rfl⟩⟩ := hrel
    by_cases hlt : k < n
    · obtain ⟨ad, v, rfl, _, hu, hc0⟩ := HR.out.at_ hlt
      obtain rfl : v = .int .i64 (xs[k]?.getD 0) := by
        rw [List.getElem?_map, List.getElem?_eq_getElem (by rw [HL.out]; omega)] at hu
        rw [List.getElem?_eq_getElem (by rw [HL.out]; omega)]
        simpa using hu.symm
      have ST := Lib.hid (sumI_take xs k (by rw [HL.out]; exact hlt))
      obtain ⟨x0, x1⟩ := goodL_at HG.out k
      generalize xs[k]?.getD 0 = x at hc0 ST x0 x1
      obtain ⟨u, hu0⟩ : ∃ u : Nat, x % 18446744073709551616 = (u : Int) := ⟨(x % 18446744073709551616).toNat, by omega⟩
      obtain ⟨s, hs⟩ : ∃ s, (l + u) % 18446744073709551616 = s := ⟨_, rfl⟩
      obtain ⟨cc, hcc⟩ : ∃ cc, (l + u) / 18446744073709551616 = cc := ⟨_, rfl⟩
      obtain ⟨d, hd⟩ : ∃ d, x / 9223372036854775808 = d := ⟨_, rfl⟩
      obtain ⟨T2, d1, c1⟩ := two_step HT.out x x0 x1 u s cc d hu0 hs hcc hd
      have HT2 := Lib.hid T2
      have e1 : IntKind.u64.wrap x = (u : Int) := by rw [u64_mod]; exact hu0
      have e2 := add_run l u s cc hs hcc
      have d2 : -1 ≤ d := by omega
      have d3 : d ≤ 0 := by omega
      have c2 : (cc : Int) ≤ 1 := by omega
      have E3 := Lib.hid hd
      clear hu hu0 hs hcc hd d1 c1 T2
      have X0 := Lib.hid x0
      have X1 := Lib.hid x1
      clear x0 x1
      go_wp2
      refine ⟨⟨h + d + cc, s, k + 1, ?_, rfl, by go_num, by omega, by omega, by omega, by (show Two _ _ _); rw [ST.out]; exact HT2.out, ⟨⟨_, rfl⟩⟩⟩, by simp [intOf]; omega⟩
      rw [E3.out]
      congr 1
      unfold wrap64
      omega
    · obtain rfl : k = n := by omega
      have hT := HT.out
      rw [List.take_of_length_le (by rw [HL.out]; omega)] at hT
      obtain ⟨nn, hnn⟩ : ∃ nn : Int, ((l : Int) + 9223372036854775808) % 18446744073709551616 - 9223372036854775808 = nn := ⟨_, rfl⟩
      obtain ⟨t1, t2⟩ := two_end hT nn hnn
      have e1 : IntKind.i64.wrap (l : Int) = nn := by
        rw [← hnn]
        simp [IntKind.wrap, IntKind.bits, IntKind.signed]
        split <;> omega
      have e1' : wrap64 (l : Int) = nn := by rw [← hnn]; unfold wrap64; rfl
      have HNN := Lib.hid hnn
      clear hnn
      by_cases hh : h = nn / 9223372036854775808
      · have q : (h == nn / 9223372036854775808) = true := by simp [hh]
        have HS := Lib.hid (t1 hh)
        clear t1 t2 hh hT
        go_wp2_with (go_at_call 29; refine (fit_any _ _).mono ?_; rintro e w' ⟨rfl, rfl⟩)
        go_ret2
        exact ⟨by rw [HS.out]; rfl, ⟨⟨_, rfl⟩⟩⟩
      · have q : (h == nn / 9223372036854775808) = false := by simp [hh]
        have HS := Lib.hid (t2 hh)
        clear t1 t2 hh hT
        go_wp2
        go_ret2
        exact ⟨by
          have E : fitsV (sumI xs) = 0 ∧ fitsE (sumI xs) = 10 := by
            have := HS.out
            simp [fitsV, fitsE, okS]
            omega
          rw [E.1, E.2]
          rfl, ⟨⟨_, rfl⟩⟩⟩

/-! ### halves, stops, may -/
theorem halves_any (n : Int) (h0 : -9223372036854775808 ≤ n) (h1 : n ≤ 9223372036854775807) (w : World) : Calls Try.prog 12 #[.int .i64 n] w fun e w' => e = .returned (.tuple #[.int .i64 (n / 2), .int .i64 (n - n / 2)]) ∧ Drawn w w' := by
  have e1 : wrap64 (n - n / 2) = n - n / 2 := by unfold wrap64; omega
  have E1 := Lib.hid e1
  have H0 := Lib.hid h0
  have H1 := Lib.hid h1
  clear h0 h1 e1
  go_enter Try.func12, Try.ntmps12
  go_wp2
  go_ret2
  exact ⟨ret_int2 rfl E1.out, Drawn.refl _⟩

def stS (x step : Int) : Int := x - x % step + step
def stV (x step : Int) : Int := if step < 1 then 0 else fitsV (stS x step)
def stE (x step : Int) : Int := if step < 1 then 2 else fitsE (stS x step)
theorem good3 {a b c : Int} (h1 : -9223372036854775808 ≤ a ∧ a ≤ 9223372036854775807) (h2 : -9223372036854775808 ≤ b ∧ b ≤ 9223372036854775807) (h3 : -9223372036854775808 ≤ c ∧ c ≤ 9223372036854775807) : goodL [a, b, c] := by
  intro x hx
  simp only [List.mem_cons, List.not_mem_nil, or_false] at hx
  rcases hx with rfl | rfl | rfl <;> assumption
theorem emod_of_tmod (x step t : Int) (ht : x.tmod step = t) (h : -step < t ∧ t ≤ 0) : x % step = if t < 0 then t + step else t := by
  have e := Int.tmod_add_mul_tdiv x step
  rw [ht] at e
  split
  · rw [← e, Int.add_mul_emod_self_left, ← Int.add_mul_emod_self_left t step 1, Int.mul_one]
    exact Int.emod_eq_of_lt (by omega) (by omega)
  · rw [← e, Int.add_mul_emod_self_left]
    exact Int.emod_eq_of_lt (by omega) (by omega)
set_option maxHeartbeats 1000000 in
theorem stop_any (x step : Int) (x0 : -9223372036854775808 ≤ x) (x1 : x ≤ 9223372036854775807) (s1 : step ≤ 9223372036854775807) (w : World) :
    Calls Try.prog 14 #[.int .i64 x, .int .i64 step] w fun e w' => e = .returned (.tuple #[.int .i64 (stV x step), .int .i64 (stE x step)]) ∧ Below w.heap.size w w' := by
  rcases Int.lt_or_le step 1 with h | h
  · rw [stV, stE, if_pos h, if_pos h]
    clear x0 x1 s1
    go_enter Try.func14, Try.ntmps14
    go_wp2
    go_ret2
    exact ⟨rfl, Below.refl _ _⟩
  · rw [stV, stE, if_neg (by omega), if_neg (by omega)]
    obtain ⟨v, hv⟩ : ∃ v, fitsV (stS x step) = v := ⟨_, rfl⟩
    obtain ⟨e0, he⟩ : ∃ v, fitsE (stS x step) = v := ⟨_, rfl⟩
    rw [hv, he]
    have m0 := Int.emod_nonneg x (show step ≠ 0 by omega)
    have m1 := Int.emod_lt_of_pos x (show 0 < step by omega)
    rcases Int.lt_or_le x 0 with g | g
    · obtain ⟨t, ht⟩ : ∃ t, x.tmod step = t := ⟨_, rfl⟩
      have ht0 : -step < t ∧ t ≤ 0 := by
        have a1 := Int.lt_tmod_of_pos x (show 0 < step by omega)
        have a2 := Int.tmod_nonneg (a := -x) step (by omega)
        rw [Int.neg_tmod] at a2
        omega
      have hte : x % step = if t < 0 then t + step else t := by
        have a3 := emod_of_tmod x step t ht ht0
        exact a3
      rcases Int.lt_or_le t 0 with k | k
      · rw [if_pos k] at hte
        obtain ⟨u, hu⟩ : ∃ u, t + step = u := ⟨_, rfl⟩
        rw [hu] at hte
        have G := Lib.hid (good3 (a := x) (b := -u) (c := step) ⟨x0, x1⟩ ⟨by omega, by omega⟩ ⟨by omega, s1⟩)
        have F := Lib.hid (show fitsV (sumI [x, -u, step]) = v ∧ fitsE (sumI [x, -u, step]) = e0 by
          rw [← hv, ← he, show sumI [x, -u, step] = stS x step by simp only [sumI, List.foldr_cons, List.foldr_nil, stS, hte]; omega]
          exact ⟨rfl, rfl⟩)
        obtain ⟨t1, t2⟩ := ht0
        have q : wrap64 (-u) = -u := by unfold wrap64; omega
        have q3 : wrap64 u = u := by unfold wrap64; omega
        have X := Lib.hid (And.intro x0 (And.intro x1 s1))
        clear x0 x1 s1 hte hv he m0 m1
        go_enter Try.func14, Try.ntmps14
        go_wp2_with (go_at_call 16; refine (sum_any _ 3 3 [x, -u, step] _ rfl ?_ ?_ (by omega)).mono ?_; exact reads_new _ _ _ _ _ rfl rfl; exact G.out; rintro e w' ⟨rfl, ⟨m, rfl⟩⟩; rw [F.out.1, F.out.2])
        go_ret2
        exact ⟨rfl, bel_drewN (bel_alloc (Below.refl _ _) _) _⟩
      · obtain rfl : t = 0 := by omega
        rw [if_neg (by omega)] at hte
        have G := Lib.hid (good3 (a := x) (b := 0) (c := step) ⟨x0, x1⟩ ⟨by omega, by omega⟩ ⟨by omega, s1⟩)
        have F := Lib.hid (show fitsV (sumI [x, 0, step]) = v ∧ fitsE (sumI [x, 0, step]) = e0 by
          rw [← hv, ← he, show sumI [x, 0, step] = stS x step by simp only [sumI, List.foldr_cons, List.foldr_nil, stS, hte]; omega]
          exact ⟨rfl, rfl⟩)
        have X := Lib.hid (And.intro x0 (And.intro x1 s1))
        clear x0 x1 s1 hte hv he m0 m1 ht0
        go_enter Try.func14, Try.ntmps14
        go_wp2_with (go_at_call 16; refine (sum_any _ 3 3 [x, 0, step] _ rfl ?_ ?_ (by omega)).mono ?_; exact reads_new _ _ _ _ _ rfl rfl; exact G.out; rintro e w' ⟨rfl, ⟨m, rfl⟩⟩; rw [F.out.1, F.out.2])
        go_ret2
        exact ⟨rfl, bel_drewN (bel_alloc (Below.refl _ _) _) _⟩
    · obtain ⟨t, ht⟩ : ∃ t, x % step = t := ⟨_, rfl⟩
      rw [ht] at m0 m1
      have G := Lib.hid (good3 (a := x) (b := -t) (c := step) ⟨x0, x1⟩ ⟨by omega, by omega⟩ ⟨by omega, s1⟩)
      have F := Lib.hid (show fitsV (sumI [x, -t, step]) = v ∧ fitsE (sumI [x, -t, step]) = e0 by
        rw [← hv, ← he, show sumI [x, -t, step] = stS x step by simp only [sumI, List.foldr_cons, List.foldr_nil, stS, ht]; omega]
        exact ⟨rfl, rfl⟩)
      have q : wrap64 (-t) = -t := by unfold wrap64; omega
      have q2 : wrap64 t = t := by unfold wrap64; omega
      have X := Lib.hid (And.intro x0 (And.intro x1 s1))
      clear x0 x1 s1 hv he
      go_enter Try.func14, Try.ntmps14
      go_wp2_with (go_at_call 16; refine (sum_any _ 3 3 [x, -t, step] _ rfl ?_ ?_ (by omega)).mono ?_; exact reads_new _ _ _ _ _ rfl rfl; exact G.out; rintro e w' ⟨rfl, ⟨m, rfl⟩⟩; rw [F.out.1, F.out.2])
      go_ret2
      exact ⟨rfl, bel_drewN (bel_alloc (Below.refl _ _) _) _⟩
end Go.Proofs.Ythndfablbljhbaa.Unit
