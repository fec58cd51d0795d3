/- UnitTurns, walked: it returns true, for every input. No condition. -/
import Derived.Test.YthndfablbljhbaaUnitNear
import Derived.Test.YthndfablbljhbaaUnitWays
namespace Go.Proofs.Ythndfablbljhbaa.Unit
open Go.RowKit Go.Proofs.Ythndfablbljhbaa.Div
set_option linter.unusedVariables false

theorem infoI64 : (Try.prog.info? 2).map (fun i => (i.zero, i.size, i.bytes)) = some (some (.int .i64 0), 1, 8) := by kernel_rfl
def negV (x : Int) : Value := .int .i64 (-x)
theorem map_take_succ (f : Int → Value) (l : List Int) (k : Nat) (h : k < l.length) : (l.take (k + 1)).map f = (l.take k).map f ++ [f (l[k]?.getD 0)] := by
  rw [List.take_succ_eq_append_getElem h, List.map_append, List.getElem?_eq_getElem h]
  rfl
theorem sumI_neg (l : List Int) : sumI (l.map (fun x => -x)) = -sumI l := by
  induction l with
  | nil => rfl
  | cons a l ih => simp only [sumI, List.map_cons, List.foldr_cons] at ih ⊢; omega
theorem sumI_bd (l : List Int) (h : ∀ x ∈ l, -1073741824 ≤ x ∧ x ≤ 1073741824) : -1073741824 * (l.length : Int) ≤ sumI l ∧ sumI l ≤ 1073741824 * l.length := by
  induction l with
  | nil => simp [sumI]
  | cons a l ih =>
    have h1 := h a (by simp)
    have h2 := ih (fun x hx => h x (by simp [hx]))
    simp only [sumI, List.foldr_cons, List.length_cons] at h2 ⊢
    omega
def smallL (l : List Int) : Prop := ∀ x ∈ l, -1073741824 ≤ x ∧ x ≤ 1073741824

set_option maxHeartbeats 4000000 in
set_option maxRecDepth 100000 in
theorem turns_out (A : Option Addr) (n c : Nat) (b o : Int) (p q : Bool) (hn : (n : Int) ≤ 9223372036854775807) (h : 1000 < n ∨ (n ≤ 1000 ∧ p = false) ∨ (n ≤ 1000 ∧ p = true ∧ q = false) ∨ (n ≤ 1000 ∧ p = true ∧ q = true ∧ o < 1)) (H1 : Hid (cM b p)) (H2 : Hid (cM o q)) (w : World) :
    Calls Try.prog 8 #[.slice A n c, .int .i64 b, .int .i64 o] w fun e w' => e = .returned (.bool true) ∧ Below w.heap.size w w' := by
  rcases h with h | ⟨h, rfl⟩ | ⟨h, rfl, rfl⟩ | ⟨h, rfl, rfl, h2⟩
  all_goals
    go_enter Try.func8, Try.ntmps8
    go_wp2_with (first
      | (go_at_call 18; first | ((with_reducible refine (H1.out _).mono ?_); rintro e w1 ⟨rfl, rfl⟩) | ((with_reducible refine (H2.out _).mono ?_); rintro e w1 ⟨rfl, rfl⟩))
      | (go_at_call 11; refine (head_any _).mono ?_; rintro e w3 ⟨rfl, hb3⟩))
    go_ret
    exact ⟨rfl, hb3⟩

theorem half_cases (x b o : Int) (ho : 1 ≤ o) (o1 : o ≤ 1073741824) (x0 : -1073741824 ≤ x) (x1 : x ≤ 1073741824) (b0 : -1073741824 ≤ b) (b1 : b ≤ 1073741824) :
    ∃ t a d : Int, (x * b).tmod o = t ∧ -1073741824 < t ∧ t < 1073741824 ∧ cC x b o a 0 ∧ cC (-x) b o d 0 ∧ -1152921504606846977 ≤ a ∧ a ≤ 1152921504606846977 ∧ -1152921504606846977 ≤ d ∧ d ≤ 1152921504606846977 ∧
      ((2 * t = o ∧ a + d = 1) ∨ (2 * t ≠ o ∧ 2 * t = -o ∧ a + d = 1) ∨ (2 * t ≠ o ∧ 2 * t ≠ -o ∧ a + d = 0)) := by
  have q := mul_bd x b 1073741824 1073741824 (by omega) (by omega) (by omega) (by omega)
  have t1 := Int.lt_tmod_of_pos (x * b) (show 0 < o by omega)
  have t2 := Int.tmod_lt_of_pos (x * b) (show 0 < o by omega)
  have T := rnd_turn (x * b) o ho
  have H := tmod_half (x * b) o _ ho rfl
  have C1 := scale_in x b o ho (by omega) (by omega) (by omega) (by omega) (by omega)
  have C2 := scale_in (-x) b o ho (by omega) (by omega) (by omega) (by omega) (by omega)
  rw [show -x * b = -(x * b) by rw [Int.neg_mul]] at C2
  have N := rnd_near (x * b) o ho
  have M := rnd_near (-(x * b)) o ho
  have bd : ∀ P, -1152921504606846976 ≤ P → P ≤ 1152921504606846976 → -1152921504606846977 ≤ rnd P o ∧ rnd P o ≤ 1152921504606846977 := fun P p0 p1 => by
    have a1 := rnd_mono (-1152921504606846977 * o) P o ho (by have := Int.mul_le_mul_of_nonneg_left ho (show (0 : Int) ≤ 1152921504606846977 by omega); omega)
    have a2 := rnd_mono P (1152921504606846977 * o) o ho (by have := Int.mul_le_mul_of_nonneg_left ho (show (0 : Int) ≤ 1152921504606846977 by omega); omega)
    rw [rnd_self _ o ho] at a1 a2
    exact ⟨a1, a2⟩
  have B1 := bd (x * b) (by omega) (by omega)
  have B2 := bd (-(x * b)) (by omega) (by omega)
  refine ⟨_, _, _, rfl, by omega, by omega, C1, C2, B1.1, B1.2, B2.1, B2.2, ?_⟩
  by_cases g : 2 * (x * b % o) = o
  · rw [if_pos g] at T
    have := H.1 g
    omega
  · rw [if_neg g] at T
    have := mt H.2 g
    omega

set_option maxHeartbeats 8000000 in
set_option maxRecDepth 100000 in
theorem turns_in (A : Option Addr) (n c : Nat) (xs : List Int) (b o : Int) (hn : n ≤ 1000) (hl : xs.length = n) (b0 : -1073741824 ≤ b) (b1 : b ≤ 1073741824) (ho : 1 ≤ o) (o1 : o ≤ 1073741824)
    (w : World) (hr : Reads w w.heap.size 1 A n (xs.map (Value.int .i64))) (hg : goodL xs) (H1 : Hid (cM b true)) (H2 : Hid (cM o true)) :
    Calls Try.prog 8 #[.slice A n c, .int .i64 b, .int .i64 o] w fun e w' => e = .returned (.bool true) ∧ Below w.heap.size w w' := by
  have HL := Lib.hid hl
  have HR := Lib.hid hr
  have HG := Lib.hid hg
  clear hl hr hg
  obtain ⟨i0, hi, hz0, hz1, hz2⟩ := info_parts infoI64
  have HI := Lib.hid hi
  have HZ0 := Lib.hid hz0
  have HZ1 := Lib.hid hz1
  have HZ2 := Lib.hid hz2
  clear hi hz0 hz1 hz2
  go_enter Try.func8, Try.ntmps8
  go_wp2_with (first
      | (go_at_call 18; first | ((with_reducible refine (H1.out _).mono ?_); rintro e w1 ⟨rfl, rfl⟩) | ((with_reducible refine (H2.out _).mono ?_); rintro e w1 ⟨rfl, rfl⟩)))
  go_loopw [7, 8] (fun v i wr => ∃ k : Nat, k ≤ n ∧ i = .int .i64 k ∧ Hid (smallL (xs.take k)) ∧ Hid (wr.ownsRow w.heap.size 2 1 v k ((xs.take k).map negV)) ∧ Below w.heap.size w wr) (fun v i wr => n - (intOf i).toNat)
  case atStart => exact ⟨0, by omega, rfl, Lib.hid (by simp [smallL]), own_nil _ _ _ _, Below.refl _ _⟩
  case round =>
    obtain ⟨k, hk, rfl, HS, HO, hb⟩ := hrel
    obtain ⟨A', c', hv⟩ := own_shape HO.out
    subst hv
    by_cases hlt : k < n
    · obtain ⟨ad, u, rfl, _, hu, hc0⟩ := HR.out.at_ hlt
      obtain rfl : u = .int .i64 (xs[k]?.getD 0) := by
        rw [List.getElem?_map, List.getElem?_eq_getElem (by rw [HL.out]; omega)] at hu
        rw [List.getElem?_eq_getElem (by rw [HL.out]; omega)]
        simpa using hu.symm
      have hc1 : wr.cell? (ad.add k) = some (.int .i64 (xs[k]?.getD 0)) := (hb.cell (by rw [block_of_add]; assumption)).trans hc0
      have TK := Lib.hid (map_take_succ negV xs k (by rw [HL.out]; exact hlt))
      have TS : Hid (-1073741824 ≤ xs[k]?.getD 0 ∧ xs[k]?.getD 0 ≤ 1073741824 → smallL (xs.take (k + 1))) := fun hx y hy => by
        rw [List.take_succ_eq_append_getElem (by rw [HL.out]; exact hlt), List.mem_append] at hy
        rcases hy with hy | hy
        · exact HS.out y hy
        · rw [List.getElem?_eq_getElem (by rw [HL.out]; exact hlt)] at hx
          simp only [List.mem_singleton] at hy
          rw [hy]
          exact hx
      have hlo := (goodL_at HG.out k)
      generalize xs[k]?.getD 0 = x at hc1 hc0 TK TS hlo
      have HC0 := Lib.hid hc0
      clear hu hc0
      have M := fun W => unitMay_any x W
      by_cases hm : mayU x = true
      · rw [hm] at M
        have hx : -1073741824 ≤ x ∧ x ≤ 1073741824 := by simpa [mayU] using hm
        have HTS := Lib.hid (TS.out hx)
        obtain ⟨x0, x1⟩ := hx
        obtain ⟨t, a, d, ht, t0, t1, C1, C2, a0, a1, d0, d1, hc⟩ := half_cases x b o ho o1 x0 x1 b0 b1
        have HM := Lib.hid M
        have HC1 := Lib.hid C1
        have HC2 := Lib.hid C2
        have HT := Lib.hid ht
        have q := mul_bd x b 1073741824 1073741824 (by omega) (by omega) (by omega) (by omega)
        obtain ⟨q0, q1⟩ := q
        have w1 : IntKind.i64.wrap (x * b) = x * b := by rw [IntKind.wrap_i64]; omega
        have w2 : IntKind.i64.wrap (2 * t) = 2 * t := by rw [IntKind.wrap_i64]; omega
        have w3 : IntKind.i64.wrap (-o) = -o := by rw [IntKind.wrap_i64]; omega
        clear M C1 C2 TS hlo hm
        have hcc : ((2 * t == o) = true ∧ (a + d != 1) = false) ∨ ((2 * t == o) = false ∧ (2 * t == -o) = true ∧ (a + d != 1) = false) ∨ ((2 * t == o) = false ∧ (2 * t == -o) = false ∧ (a + d != 0) = false) := by
          rcases hc with ⟨g, s⟩ | ⟨g1, g2, s⟩ | ⟨g1, g2, s⟩
          · exact .inl ⟨by simpa using g, by simp [s]⟩
          · exact .inr (.inl ⟨by simpa using g1, by simpa using g2, by simp [s]⟩)
          · exact .inr (.inr ⟨by simpa using g1, by simpa using g2, by simp [s]⟩)
        clear hc
        rcases hcc with ⟨g1, s⟩ | ⟨g1, g2, s⟩ | ⟨g1, g2, s⟩
        all_goals
          go_wp2_with (first
            | (go_at_call 18; ((with_reducible refine (HM.out _).mono ?_); rintro e w1 ⟨rfl, rfl⟩))
            | (at_builtin; refine wpList_append_own _ rfl _ _ 35 rfl w.heap.size 2 i0 (.int .i64 0) 1 8 Try.underlying35 HI.out HZ0.out HZ1.out HZ2.out rfl (by decide) (.slice A' k c') k ((xs.take k).map negV) rfl (HO.out.alloc _) ⟨wr.heap.size, 0, none⟩ 1 1 [negV x] rfl rfl (cell_one_new _ _ _) (by simp [negV, Value.oneCell']) (by unfold maxLen; omega) (by omega) (by have := hb.size; simp; omega) ?_
               intro v' w2 hown' hgrow _
               have hb2 := bel_grown (bel_alloc hb _) (HO.out.alloc _) hgrow
               have HO2 := Lib.hid hown'
               have hc2 : w2.cell? (ad.add k) = some (.int .i64 x) := (hb2.cell (by rw [block_of_add]; assumption)).trans HC0.out
               clear hown' hgrow HO hc1)
            | (go_at_call 9; first | ((with_reducible refine (HC1.out _).mono ?_); rintro e w1 ⟨rfl, ⟨k1, rfl⟩⟩) | ((with_reducible refine (HC2.out _).mono ?_); rintro e w1 ⟨rfl, ⟨k2, rfl⟩⟩)))
          all_goals
            go_roundw
            case rel => exact ⟨k + 1, by omega, by go_num, HTS, by rw [TK.out]; exact Lib.hid (own_drewN HO2.out _), bel_drewN hb2 _⟩
            case measure => simp [intOf]; omega
      · have hm' : mayU x = false := by simpa using hm
        rw [hm'] at M
        have HM := Lib.hid M
        clear M TS hm hm'
        go_wp2_with (first
          | (go_at_call 18; ((with_reducible refine (HM.out _).mono ?_); rintro e w1 ⟨rfl, rfl⟩))
          | (go_at_call 11; refine (head_any _).mono ?_; rintro e w3 ⟨rfl, hb3⟩))
        go_ret
        exact ⟨rfl, bel_trans hb hb3⟩
    · obtain rfl : k = n := by omega
      have hS := HS.out
      rw [List.take_of_length_le (by rw [HL.out]; omega)] at hS
      have hO := HO.out
      rw [List.take_of_length_le (by rw [HL.out]; omega)] at hO
      have hbd := sumI_bd xs hS
      rw [HL.out] at hbd
      have hf := fits_in (S := sumI xs) (by omega) (by omega)
      have hf2 := fits_in (S := sumI (xs.map fun x => -x)) (by rw [sumI_neg]; omega) (by rw [sumI_neg]; omega)
      rw [sumI_neg] at hf2
      have hg2 : goodL (xs.map fun x => -x) := fun y hy => by
        obtain ⟨x, hx, rfl⟩ := List.mem_map.1 hy
        have := hS x hx
        omega
      obtain ⟨S, hSd⟩ : ∃ S, sumI xs = S := ⟨_, rfl⟩
      rw [hSd] at hf hf2 hbd
      have S0 : -1073741824000 ≤ S := by omega
      have S1 : S ≤ 1073741824000 := by omega
      have C1 : Hid (∀ W, Below w.heap.size w W → Calls Try.prog 16 #[.slice A k c] W fun e w' => e = .returned (.tuple #[.int .i64 S, .int .i64 0]) ∧ Drawn W w') := fun W hbW => by
        have := sum_any A k c xs W HL.out ((HR.out.below hbW).more hbW.size) HG.out (by omega)
        rw [hSd, hf.1, hf.2] at this
        exact this
      have C2 : Hid (∀ m, Calls Try.prog 16 #[.slice A' k c'] (wr.drewN m) fun e w' => e = .returned (.tuple #[.int .i64 (-S), .int .i64 0]) ∧ Drawn (wr.drewN m) w') := fun m => by
        have h1 := own_reads (own_drewN hO m)
        have := sum_any A' k c' (xs.map fun x => -x) (wr.drewN m) (by rw [List.length_map]; exact HL.out) (by rw [List.map_map]; exact h1) hg2 (by omega)
        rw [sumI_neg, hSd, hf2.1, hf2.2] at this
        exact this
      clear hS hO hbd hf hf2 hg2 hSd
      go_wp2_with (first
        | (go_at_call 16; ((with_reducible refine (C1.out _ hb).mono ?_); rintro e w1 ⟨rfl, ⟨m1, rfl⟩⟩))
        | (go_at_call 16; ((with_reducible refine (C2.out _).mono ?_); rintro e w1 ⟨rfl, ⟨m2, rfl⟩⟩))
        | (go_at_call 11; refine (head_any _).mono ?_; rintro e w3 ⟨rfl, hb3⟩))
      go_ret
      exact ⟨rfl, bel_trans (bel_drewN hb _) hb3⟩
end Go.Proofs.Ythndfablbljhbaa.Unit
