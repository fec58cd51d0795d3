/- The functions of package fit, and of its reference, walked: what each returns, for every input. No condition. -/
import Derived.Test.YtfpgmldgfgoboaaProg
import Derived.Test.YtfpgmldgfgoboaaBase
namespace Go.Proofs.Ytfpgmldgfgoboaa.Fit
open Go.RowKit
attribute [local go_sem] max2_int min2_int max_two min_two
set_option linter.unusedVariables false

def riseB : List Int → Bool
  | a :: b :: t => decide (a ≤ b) && riseB t
  | _ => true

theorem riseB_step (xs : List Int) (k : Nat) (h : k + 1 < xs.length) : riseB (xs.drop k) = (decide (xs[k]?.getD 0 ≤ xs[k + 1]?.getD 0) && riseB (xs.drop (k + 2))) := by
  have h1 : xs.drop k = xs[k] :: xs[k + 1] :: xs.drop (k + 2) := by
    rw [List.drop_eq_getElem_cons (by omega), List.drop_eq_getElem_cons (by omega)]
  rw [h1, riseB, List.getElem?_eq_getElem (by omega), List.getElem?_eq_getElem (by omega)]
  rfl
theorem riseB_end (xs : List Int) (k : Nat) (h : xs.length ≤ k + 1) : riseB (xs.drop k) = true := by
  have : (xs.drop k).length ≤ 1 := by simp; omega
  match xs.drop k, this with
  | [], _ => rfl
  | [_], _ => rfl

set_option maxHeartbeats 400000 in
theorem rise_any (A : Option Addr) (n c : Nat) (xs : List Int) (w : World) (hl : xs.length = n) (hr : Reads w w.heap.size 1 A n (xs.map (Value.int .i64))) (hn : n ≤ 1000) :
    Calls Try.prog 29 #[.slice A n c] w fun e w' => e = .returned (.bool (riseB xs)) ∧ Drawn w w' := by
  have HL := Lib.hid hl
  clear hl
  have HR := Lib.hid hr
  clear hr
  go_enter Try.func29, Try.ntmps29
  go_wp2
  go_loopw [3] (fun i wr => ∃ k : Nat, k ≤ n + 1 ∧ i = .int .i64 k ∧ Hid (riseB xs = riseB (xs.drop k)) ∧ Drawn w wr) (fun i wr => n + 2 - (intOf i).toNat)
  case atStart => exact ⟨0, by omega, rfl, rfl, Drawn.refl _⟩
  case round =>
    obtain ⟨k, hk, rfl, HK, ⟨m, rfl⟩⟩ := hrel
    by_cases hlt : k + 1 < n
    · obtain ⟨ad, u, rfl, _, hu, hc0⟩ := HR.out.at_ (k := k) (by omega)
      obtain ⟨ad', u', he, _, hu', hc1⟩ := HR.out.at_ (k := k + 1) (by omega)
      obtain rfl : ad = ad' := by injection he
      obtain rfl : u = .int .i64 (xs[k]?.getD 0) := by
        rw [List.getElem?_map, List.getElem?_eq_getElem (by rw [HL.out]; omega)] at hu
        rw [List.getElem?_eq_getElem (by rw [HL.out]; omega)]
        simpa using hu.symm
      obtain rfl : u' = .int .i64 (xs[k + 1]?.getD 0) := by
        rw [List.getElem?_map, List.getElem?_eq_getElem (by rw [HL.out]; omega)] at hu'
        rw [List.getElem?_eq_getElem (by rw [HL.out]; omega)]
        simpa using hu'.symm
      clear hu hu' he
      have b1 : ((k : Nat) : Int) < (n : Int) := by omega
      have b2 : ((k : Nat) : Int) + 1 < (n : Int) := by omega
      have b3 : (0 : Int) ≤ (k : Int) := by omega
      have b4 : (0 : Int) ≤ (k : Int) + 1 := by omega
      have b5 : IntKind.i64.wrap ((k : Int) + 1) = (k : Int) + 1 := IntWalk.i64_in _ (by omega)
      have b6 : ((k : Int) + 1).toNat = k + 1 := by omega
      have hc1' : w.cell? ⟨ad.block, ad.off + (k + 1), none⟩ = some (.int .i64 (xs[k + 1]?.getD 0)) := by simpa [Addr.add] using hc1
      have S := Lib.hid (riseB_step xs k (by rw [HL.out]; exact hlt))
      go_wp2
      go_quiet (fail)
      go_wp2
      all_goals clear HR hc0 hc1 hc1'
      · have hd : decide (xs[k]?.getD 0 ≤ xs[k + 1]?.getD 0) = false := decide_eq_false (by omega)
        go_ret
        exact ⟨ret_bool (by rw [HK.out, S.out, hd]; rfl), Drawn.two _ _ _⟩
      · have hd : decide (xs[k]?.getD 0 ≤ xs[k + 1]?.getD 0) = true := decide_eq_true (by omega)
        go_roundw
        case rel => exact ⟨k + 2, by omega, by go_num, (by rw [HK.out, S.out, hd]; rfl), ⟨⟨_, rfl⟩⟩⟩
        case measure => simp [intOf]; omega
    · go_wp2
      go_ret
      exact ⟨ret_bool (by rw [HK.out, riseB_end xs k (by rw [HL.out]; omega)]), ⟨⟨_, rfl⟩⟩⟩

def mayU (n : Int) : Bool := decide (-1073741824 ≤ n) && decide (n ≤ 1073741824)
def mayW (n : Int) : Bool := decide (0 ≤ n) && decide (n ≤ 1099511627776)

theorem mayU_t {n : Int} (h1 : -1073741824 ≤ n) (h2 : n ≤ 1073741824) : mayU n = true := by simp [mayU, h1, h2]
theorem mayU_f1 {n : Int} (h1 : n < -1073741824) : mayU n = false := by simp [mayU]; omega
theorem mayU_f2 {n : Int} (h1 : 1073741824 < n) : mayU n = false := by simp [mayU]; omega
theorem mayW_t {n : Int} (h1 : 0 ≤ n) (h2 : n ≤ 1099511627776) : mayW n = true := by simp [mayW, h1, h2]
theorem mayW_parts {n : Int} (h : mayW n = true) : 0 ≤ n ∧ n ≤ 1099511627776 := by simp [mayW] at h; omega
theorem mayW_f1 {n : Int} (h1 : n < 0) : mayW n = false := by simp [mayW]; omega
theorem mayW_f2 {n : Int} (h1 : 1099511627776 < n) : mayW n = false := by simp [mayW]; omega

theorem unitMay_any (n : Int) (w : World) : Calls Try.prog 41 #[.int .i64 n] w fun e w' => e = .returned (.bool (mayU n)) ∧ w = w' := by
  rcases Int.lt_or_le n (-1073741824) with h1 | h1
  · go_enter Try.func41, Try.ntmps41
    go_wp2
    go_ret
    exact ⟨ret_bool (by rw [mayU_f1 h1]), rfl⟩
  · rcases Int.lt_or_le (1073741824) n with h2 | h2
    · go_enter Try.func41, Try.ntmps41
      go_wp2
      go_ret
      exact ⟨ret_bool (by rw [mayU_f2 h2]; first | done | (simp; done) | (simp; omega)), rfl⟩
    · go_enter Try.func41, Try.ntmps41
      go_wp2
      go_ret
      exact ⟨ret_bool (by rw [mayU_t h1 h2]; first | done | (simp; done) | (simp; omega)), rfl⟩

theorem refMay_any (n : Int) (w : World) : Calls Try.prog 33 #[.int .i64 n] w fun e w' => e = .returned (.bool (mayU n)) ∧ w = w' := by
  rcases Int.lt_or_le n (-1073741824) with h1 | h1
  · go_enter Try.func33, Try.ntmps33
    go_wp2
    go_ret
    exact ⟨ret_bool (by rw [mayU_f1 h1]), rfl⟩
  · rcases Int.lt_or_le (1073741824) n with h2 | h2
    · go_enter Try.func33, Try.ntmps33
      go_wp2
      go_ret
      exact ⟨ret_bool (by rw [mayU_f2 h2]; first | done | (simp; done) | (simp; omega)), rfl⟩
    · go_enter Try.func33, Try.ntmps33
      go_wp2
      go_ret
      exact ⟨ret_bool (by rw [mayU_t h1 h2]; first | done | (simp; done) | (simp; omega)), rfl⟩

theorem ref22may_any (n : Int) (w : World) : Calls Try.prog 31 #[.int .i64 n] w fun e w' => e = .returned (.bool (mayW n)) ∧ w = w' := by
  rcases Int.lt_or_le n (0) with h1 | h1
  · go_enter Try.func31, Try.ntmps31
    go_wp2
    go_ret
    exact ⟨ret_bool (by rw [mayW_f1 h1]), rfl⟩
  · rcases Int.lt_or_le (1099511627776) n with h2 | h2
    · go_enter Try.func31, Try.ntmps31
      go_wp2
      go_ret
      exact ⟨ret_bool (by rw [mayW_f2 h2]; first | done | (simp; done) | (simp; omega)), rfl⟩
    · go_enter Try.func31, Try.ntmps31
      go_wp2
      go_ret
      exact ⟨ret_bool (by rw [mayW_t h1 h2]; first | done | (simp; done) | (simp; omega)), rfl⟩


/-! ### fit, and what it comes to -/
def okF (l m a s : Int) : Bool := mayW l && mayW m && mayW a && decide (l ≤ m) && decide (-1 ≤ s) && decide (s ≤ 1073741824)
def fitV (l m a s : Int) : Int := if okF l m a s = true then (if 0 ≤ s then s else if a < l then l else if m < a then m else a) else 0
def fitE (l m a s : Int) : Int := if okF l m a s = true then 0 else 2

theorem okF_rise (l m a s : Int) : riseB [0, l, l, m, m, 1099511627776, 0, a, a, 1099511627776, -1, s, s, 1073741824] = okF l m a s := by
  rw [Bool.eq_iff_iff]
  simp [riseB, okF, mayW]
  omega
theorem okF_parts {l m a s : Int} (h : okF l m a s = true) : 0 ≤ l ∧ l ≤ m ∧ m ≤ 1099511627776 ∧ 0 ≤ a ∧ a ≤ 1099511627776 ∧ -1 ≤ s ∧ s ≤ 1073741824 := by
  simp [okF, mayW] at h
  omega
theorem okF_not {l m a s : Int} (h : okF l m a s = false) : ¬(0 ≤ l ∧ l ≤ m ∧ m ≤ 1099511627776 ∧ 0 ≤ a ∧ a ≤ 1099511627776 ∧ -1 ≤ s ∧ s ≤ 1073741824) := by
  rintro ⟨h1, h2, h3, h4, h5, h6, h7⟩
  have : okF l m a s = true := by simp [okF, mayW]; omega
  rw [this] at h
  cases h
theorem fitE_rng (l m a s : Int) : 0 ≤ fitE l m a s ∧ fitE l m a s ≤ 2 := by unfold fitE; split <;> omega
theorem fitV_rng (l m a s : Int) : 0 ≤ fitV l m a s ∧ fitV l m a s ≤ 1099511627776 := by
  unfold fitV
  split
  · rename_i h
    have := okF_parts h
    split
    · omega
    · split
      · omega
      · split <;> omega
  · omega

theorem rise14 (l m a s : Int) (b : Bool) (h : okF l m a s = b) (A : Option Addr) (c : Nat) (w : World)
    (hr : Reads w w.heap.size 1 A 14 ([0, l, l, m, m, 1099511627776, 0, a, a, 1099511627776, -1, s, s, 1073741824].map (Value.int .i64))) :
    Calls Try.prog 29 #[.slice A 14 c] w fun e w' => e = .returned (.bool b) ∧ Drawn w w' :=
  (rise_any A 14 c _ w rfl hr (by omega)).mono fun _ _ ⟨he, hd⟩ => ⟨by rw [he, okF_rise, h], hd⟩
theorem rise4 (x : Int) (b : Bool) (h : mayW x = b) (A : Option Addr) (c : Nat) (w : World)
    (hr : Reads w w.heap.size 1 A 4 ([0, x, x, 1099511627776].map (Value.int .i64))) :
    Calls Try.prog 29 #[.slice A 4 c] w fun e w' => e = .returned (.bool b) ∧ Drawn w w' :=
  (rise_any A 4 c _ w rfl hr (by omega)).mono fun _ _ ⟨he, hd⟩ => ⟨by
    have e : riseB [0, x, x, 1099511627776] = mayW x := by rw [Bool.eq_iff_iff]; simp [riseB, mayW]
    rw [he, e, h], hd⟩

theorem within_any (x lo hi v : Int) (hv : (if lo < (if hi < x then hi else x) then (if hi < x then hi else x) else lo) = v) (w : World) :
    Calls Try.prog 30 #[.int .i64 x, .int .i64 lo, .int .i64 hi] w fun e w' => e = .returned (.int .i64 v) ∧ w = w' := by
  have HV := Lib.hid hv
  clear hv
  rcases Int.lt_or_le hi x with a | a
  · rcases Int.lt_or_le lo hi with b | b
    · go_enter Try.func30, Try.ntmps30
      go_wp2
      go_ret
      exact ⟨ret_int (by rw [← HV.out, if_pos a, if_pos b]; first | done | omega), rfl⟩
    · go_enter Try.func30, Try.ntmps30
      go_wp2
      go_ret
      exact ⟨ret_int (by rw [← HV.out, if_pos a, if_neg (by omega)]; first | done | omega), rfl⟩
  · rcases Int.lt_or_le lo x with b | b
    · go_enter Try.func30, Try.ntmps30
      go_wp2
      go_ret
      exact ⟨ret_int (by rw [← HV.out, if_neg (show ¬ hi < x by omega), if_pos b]; first | done | omega), rfl⟩
    · go_enter Try.func30, Try.ntmps30
      go_wp2
      go_ret
      exact ⟨ret_int (by rw [← HV.out, if_neg (show ¬ hi < x by omega), if_neg (by omega)]; first | done | omega), rfl⟩

set_option maxHeartbeats 400000 in
theorem fit_any (l m a s v e0 : Int) (hv : fitV l m a s = v) (he : fitE l m a s = e0) (w : World) :
    Calls Try.prog 10 #[.int .i64 l, .int .i64 m, .int .i64 a, .int .i64 s] w fun e w' => e = .returned (.tuple #[.int .i64 v, .int .i64 e0]) ∧ Below w.heap.size w w' := by
  have HV := Lib.hid hv
  have HE := Lib.hid he
  clear hv he
  cases h : okF l m a s with
  | false =>
    have H := Lib.hid h
    clear h
    go_enter Try.func10, Try.ntmps10
    go_wp2_with (go_at_call 29; refine (rise14 l m a s false H.out _ _ _ ?_).mono ?_; exact reads_new _ _ _ _ _ rfl rfl; rintro e w' ⟨rfl, ⟨n, rfl⟩⟩)
    go_ret2
    exact ⟨ret_int2 (by rw [← HV.out]; simp [fitV, H.out]) (by rw [← HE.out]; simp [fitE, H.out]), bel_drewN (bel_alloc (Below.refl _ _) _) _⟩
  | true =>
    have hp := okF_parts h
    have H := Lib.hid h
    clear h
    by_cases hs : 0 ≤ s
    · go_enter Try.func10, Try.ntmps10
      go_wp2_with (go_at_call 29; refine (rise14 l m a s true H.out _ _ _ ?_).mono ?_; exact reads_new _ _ _ _ _ rfl rfl; rintro e w' ⟨rfl, ⟨n, rfl⟩⟩)
      go_ret2
      exact ⟨ret_int2 (by rw [← HV.out]; simp [fitV, H.out, hs]) (by rw [← HE.out]; simp [fitE, H.out]), bel_drewN (bel_alloc (Below.refl _ _) _) _⟩
    · have hw : (if l < (if m < a then m else a) then (if m < a then m else a) else l) = v := by
        rw [← HV.out, fitV, if_pos H.out, if_neg hs]
        split <;> split <;> split <;> omega
      have HW := Lib.hid hw
      clear hw
      go_enter Try.func10, Try.ntmps10
      go_wp2_with (first
        | (go_at_call 29; refine (rise14 l m a s true H.out _ _ _ ?_).mono ?_; exact reads_new _ _ _ _ _ rfl rfl; rintro e w' ⟨rfl, ⟨n, rfl⟩⟩)
        | (go_at_call 30; refine (within_any a l m v HW.out _).mono ?_; rintro e w' ⟨rfl, rfl⟩))
      go_ret2
      exact ⟨ret_int2 rfl (by rw [← HE.out]; simp [fitE, H.out]), bel_drewN (bel_alloc (Below.refl _ _) _) _⟩

def okO (x s t : Int) : Bool := mayW x && mayU s && mayU t
theorem okO_parts {x s t : Int} (h : okO x s t = true) : 0 ≤ x ∧ x ≤ 1099511627776 ∧ -1073741824 ≤ s ∧ s ≤ 1073741824 ∧ -1073741824 ≤ t ∧ t ≤ 1073741824 := by
  simp [okO, mayW, mayU] at h
  omega
def outV (x s t : Int) : Int := if okO x s t = true then x + s + t else 0
def innV (x s t : Int) : Int := if okO x s t = true then (if x < s + t then 0 else x - s - t) else 0
def ooE (x s t : Int) : Int := if okO x s t = true then 0 else 2

theorem edged_any (x s t : Int) (b : Bool) (h : okO x s t = b) (w : World) :
    Calls Try.prog 32 #[.int .i64 x, .int .i64 s, .int .i64 t] w fun e w' => e = .returned (.bool b) ∧ Below w.heap.size w w' := by
  have H := Lib.hid h
  clear h
  cases h1 : mayW x with
  | false =>
    have H1 := Lib.hid h1
    clear h1
    go_enter Try.func32, Try.ntmps32
    go_wp2_with (go_at_call 29; refine (rise4 x false H1.out _ _ _ ?_).mono ?_; exact reads_new _ _ _ _ _ rfl rfl; rintro e w' ⟨rfl, ⟨n, rfl⟩⟩)
    go_ret
    exact ⟨ret_bool (by rw [← H.out]; simp [okO, H1.out]), bel_drewN (bel_alloc (Below.refl _ _) _) _⟩
  | true =>
    have H1 := Lib.hid h1
    clear h1
    cases h2 : mayU s with
    | false =>
      have H2 := Lib.hid h2
      clear h2
      go_enter Try.func32, Try.ntmps32
      go_wp2_with (first
        | (go_at_call 29; refine (rise4 x true H1.out _ _ _ ?_).mono ?_; exact reads_new _ _ _ _ _ rfl rfl; rintro e w' ⟨rfl, ⟨n, rfl⟩⟩)
        | (go_at_call 41; refine (unitMay_any s _).mono ?_; rintro e w' ⟨rfl, rfl⟩; rw [H2.out]))
      go_ret
      exact ⟨ret_bool (by rw [← H.out]; simp [okO, H1.out, H2.out]), bel_drewN (bel_alloc (Below.refl _ _) _) _⟩
    | true =>
      have H2 := Lib.hid h2
      clear h2
      go_enter Try.func32, Try.ntmps32
      go_wp2_with (first
        | (go_at_call 29; refine (rise4 x true H1.out _ _ _ ?_).mono ?_; exact reads_new _ _ _ _ _ rfl rfl; rintro e w' ⟨rfl, ⟨n, rfl⟩⟩)
        | (go_at_call 41; refine (unitMay_any _ _).mono ?_; rintro e w' ⟨rfl, rfl⟩; try rw [H2.out]))
      go_ret
      exact ⟨ret_bool (by rw [← H.out]; simp [okO, H1.out, H2.out]), bel_drewN (bel_alloc (Below.refl _ _) _) _⟩

theorem outer_any (x s t v e0 : Int) (hv : outV x s t = v) (he : ooE x s t = e0) (w : World) :
    Calls Try.prog 12 #[.int .i64 x, .int .i64 s, .int .i64 t] w fun e w' => e = .returned (.tuple #[.int .i64 v, .int .i64 e0]) ∧ Below w.heap.size w w' := by
  cases h : okO x s t with
  | false =>
    have H := Lib.hid h
    clear h
    have HV := Lib.hid hv
    have HE := Lib.hid he
    clear hv he
    go_enter Try.func12, Try.ntmps12
    go_wp2_with (go_at_call 32; refine (edged_any x s t false H.out _).mono ?_; rintro e w' ⟨rfl, hb⟩)
    go_ret2
    exact ⟨ret_int2 (by rw [← HV.out]; simp [outV, H.out]) (by rw [← HE.out]; simp [ooE, H.out]), hb⟩
  | true =>
    have hp := okO_parts h
    have H := Lib.hid h
    clear h
    have HV := Lib.hid hv
    have HE := Lib.hid he
    clear hv he
    go_enter Try.func12, Try.ntmps12
    go_wp2_with (go_at_call 32; refine (edged_any x s t true H.out _).mono ?_; rintro e w' ⟨rfl, hb⟩)
    all_goals
      go_ret2
      exact ⟨ret_int2 (by rw [← HV.out, outV, if_pos H.out]; first | done | (split <;> omega)) (by rw [← HE.out]; simp [ooE, H.out]), hb⟩

theorem inner_any (x s t v e0 : Int) (hv : innV x s t = v) (he : ooE x s t = e0) (w : World) :
    Calls Try.prog 14 #[.int .i64 x, .int .i64 s, .int .i64 t] w fun e w' => e = .returned (.tuple #[.int .i64 v, .int .i64 e0]) ∧ Below w.heap.size w w' := by
  cases h : okO x s t with
  | false =>
    have H := Lib.hid h
    clear h
    have HV := Lib.hid hv
    have HE := Lib.hid he
    clear hv he
    go_enter Try.func14, Try.ntmps14
    go_wp2_with (go_at_call 32; refine (edged_any x s t false H.out _).mono ?_; rintro e w' ⟨rfl, hb⟩)
    go_ret2
    exact ⟨ret_int2 (by rw [← HV.out]; simp [innV, H.out]) (by rw [← HE.out]; simp [ooE, H.out]), hb⟩
  | true =>
    have hp := okO_parts h
    have H := Lib.hid h
    clear h
    have HV := Lib.hid hv
    have HE := Lib.hid he
    clear hv he
    go_enter Try.func14, Try.ntmps14
    go_wp2_with (go_at_call 32; refine (edged_any x s t true H.out _).mono ?_; rintro e w' ⟨rfl, hb⟩)
    all_goals
      go_ret2
      exact ⟨ret_int2 (by rw [← HV.out, innV, if_pos H.out]; first | done | (split <;> omega)) (by rw [← HE.out]; simp [ooE, H.out]), hb⟩

theorem refOuter_any (x s t v e0 : Int) (hv : outV x s t = v) (he : ooE x s t = e0) (w : World) :
    Calls Try.prog 13 #[.int .i64 x, .int .i64 s, .int .i64 t] w fun e w' => e = .returned (.tuple #[.int .i64 v, .int .i64 e0]) ∧ Below w.heap.size w w' := by
  have HV := Lib.hid hv
  have HE := Lib.hid he
  clear hv he
  cases h : okO x s t with
  | false =>
    have HZ := Lib.hid (show (0 : Int) = v ∧ (2 : Int) = e0 by rw [← HV.out, ← HE.out]; simp [outV, ooE, h])
    clear HV HE
    cases h1 : mayW x with
    | false =>
      have H1 := Lib.hid h1
      clear h1 h
      go_enter Try.func13, Try.ntmps13
      go_wp2_with (first
        | (go_at_call 31; refine (ref22may_any _ _).mono ?_; rintro e w' ⟨rfl, rfl⟩; rw [H1.out])
        | (go_at_call 33; refine (refMay_any _ _).mono ?_; rintro e w' ⟨rfl, rfl⟩))
      go_ret2
      exact ⟨ret_int2 HZ.out.1 HZ.out.2, Below.refl _ _⟩
    | true =>
      cases h2 : mayU s with
      | false =>
        have H1 := Lib.hid h1
        have H2 := Lib.hid h2
        clear h1 h2 h
        go_enter Try.func13, Try.ntmps13
        go_wp2_with (first
          | (go_at_call 31; refine (ref22may_any _ _).mono ?_; rintro e w' ⟨rfl, rfl⟩; rw [H1.out])
          | (go_at_call 33; refine (refMay_any _ _).mono ?_; rintro e w' ⟨rfl, rfl⟩; rw [H2.out]))
        go_ret2
        exact ⟨ret_int2 HZ.out.1 HZ.out.2, Below.refl _ _⟩
      | true =>
        have h3 : mayU t = false := by simpa [okO, h1, h2] using h
        have H1 := Lib.hid h1
        have H2 := Lib.hid h2
        have H3 := Lib.hid h3
        clear h1 h2 h3 h
        go_enter Try.func13, Try.ntmps13
        go_wp2_with (first
          | (go_at_call 31; refine (ref22may_any _ _).mono ?_; rintro e w' ⟨rfl, rfl⟩; rw [H1.out])
          | (go_at_call 33; refine (refMay_any _ _).mono ?_; rintro e w' ⟨rfl, rfl⟩; first | rw [H2.out] | rw [H3.out]))
        go_ret2
        exact ⟨ret_int2 HZ.out.1 HZ.out.2, Below.refl _ _⟩
  | true =>
    have hp := okO_parts h
    have H := Lib.hid h
    have h1 : mayW x = true := mayW_t (by omega) (by omega)
    have h2 : mayU s = true := mayU_t (by omega) (by omega)
    have h3 : mayU t = true := mayU_t (by omega) (by omega)
    have H1 := Lib.hid h1
    have H2 := Lib.hid h2
    have H3 := Lib.hid h3
    clear h1 h2 h3 h
    go_enter Try.func13, Try.ntmps13
    go_wp2_with (first
      | (go_at_call 31; refine (ref22may_any _ _).mono ?_; rintro e w' ⟨rfl, rfl⟩; rw [H1.out])
      | (go_at_call 33; refine (refMay_any _ _).mono ?_; rintro e w' ⟨rfl, rfl⟩; first | rw [H2.out] | rw [H3.out]))
    all_goals
      go_ret2
      exact ⟨ret_int2 (by rw [← HV.out, outV, if_pos H.out]; first | done | (split <;> omega)) (by rw [← HE.out]; simp [ooE, H.out]), Below.refl _ _⟩

theorem refInner_any (x s t v e0 : Int) (hv : innV x s t = v) (he : ooE x s t = e0) (w : World) :
    Calls Try.prog 15 #[.int .i64 x, .int .i64 s, .int .i64 t] w fun e w' => e = .returned (.tuple #[.int .i64 v, .int .i64 e0]) ∧ Below w.heap.size w w' := by
  have HV := Lib.hid hv
  have HE := Lib.hid he
  clear hv he
  cases h : okO x s t with
  | false =>
    have HZ := Lib.hid (show (0 : Int) = v ∧ (2 : Int) = e0 by rw [← HV.out, ← HE.out]; simp [innV, ooE, h])
    clear HV HE
    cases h1 : mayW x with
    | false =>
      have H1 := Lib.hid h1
      clear h1 h
      go_enter Try.func15, Try.ntmps15
      go_wp2_with (first
        | (go_at_call 31; refine (ref22may_any _ _).mono ?_; rintro e w' ⟨rfl, rfl⟩; rw [H1.out])
        | (go_at_call 33; refine (refMay_any _ _).mono ?_; rintro e w' ⟨rfl, rfl⟩))
      go_ret2
      exact ⟨ret_int2 HZ.out.1 HZ.out.2, Below.refl _ _⟩
    | true =>
      cases h2 : mayU s with
      | false =>
        have H1 := Lib.hid h1
        have H2 := Lib.hid h2
        clear h1 h2 h
        go_enter Try.func15, Try.ntmps15
        go_wp2_with (first
          | (go_at_call 31; refine (ref22may_any _ _).mono ?_; rintro e w' ⟨rfl, rfl⟩; rw [H1.out])
          | (go_at_call 33; refine (refMay_any _ _).mono ?_; rintro e w' ⟨rfl, rfl⟩; rw [H2.out]))
        go_ret2
        exact ⟨ret_int2 HZ.out.1 HZ.out.2, Below.refl _ _⟩
      | true =>
        have h3 : mayU t = false := by simpa [okO, h1, h2] using h
        have H1 := Lib.hid h1
        have H2 := Lib.hid h2
        have H3 := Lib.hid h3
        clear h1 h2 h3 h
        go_enter Try.func15, Try.ntmps15
        go_wp2_with (first
          | (go_at_call 31; refine (ref22may_any _ _).mono ?_; rintro e w' ⟨rfl, rfl⟩; rw [H1.out])
          | (go_at_call 33; refine (refMay_any _ _).mono ?_; rintro e w' ⟨rfl, rfl⟩; first | rw [H2.out] | rw [H3.out]))
        go_ret2
        exact ⟨ret_int2 HZ.out.1 HZ.out.2, Below.refl _ _⟩
  | true =>
    have hp := okO_parts h
    have H := Lib.hid h
    have h1 : mayW x = true := mayW_t (by omega) (by omega)
    have h2 : mayU s = true := mayU_t (by omega) (by omega)
    have h3 : mayU t = true := mayU_t (by omega) (by omega)
    have H1 := Lib.hid h1
    have H2 := Lib.hid h2
    have H3 := Lib.hid h3
    clear h1 h2 h3 h
    go_enter Try.func15, Try.ntmps15
    go_wp2_with (first
      | (go_at_call 31; refine (ref22may_any _ _).mono ?_; rintro e w' ⟨rfl, rfl⟩; rw [H1.out])
      | (go_at_call 33; refine (refMay_any _ _).mono ?_; rintro e w' ⟨rfl, rfl⟩; first | rw [H2.out] | rw [H3.out]))
    all_goals
      go_ret2
      exact ⟨ret_int2 (by rw [← HV.out, innV, if_pos H.out]; first | done | (split <;> omega)) (by rw [← HE.out]; simp [ooE, H.out]), Below.refl _ _⟩


theorem refFit_any (l m a s v e0 : Int) (hv : fitV l m a s = v) (he : fitE l m a s = e0) (w : World) :
    Calls Try.prog 11 #[.int .i64 l, .int .i64 m, .int .i64 a, .int .i64 s] w fun e w' => e = .returned (.tuple #[.int .i64 v, .int .i64 e0]) ∧ Below w.heap.size w w' := by
  have HV := Lib.hid hv
  have HE := Lib.hid he
  clear hv he
  cases h : okF l m a s with
  | false =>
    have HZ := Lib.hid (show (0 : Int) = v ∧ (2 : Int) = e0 by rw [← HV.out, ← HE.out]; simp [fitV, fitE, h])
    have hn := okF_not h
    clear HV HE h
    cases h0 : mayW l with
    | false =>
      have H0 := Lib.hid h0
      clear h0 hn
      go_enter Try.func11, Try.ntmps11
      go_wp2_with (go_at_call 31; refine (ref22may_any _ _).mono ?_; rintro e w' ⟨rfl, rfl⟩; first | rw [H0.out])
      go_ret2
      exact ⟨ret_int2 HZ.out.1 HZ.out.2, Below.refl _ _⟩
    | true =>
      cases h1 : mayW m with
      | false =>
        have H0 := Lib.hid h0
        have H1 := Lib.hid h1
        clear h0 h1 hn
        go_enter Try.func11, Try.ntmps11
        go_wp2_with (go_at_call 31; refine (ref22may_any _ _).mono ?_; rintro e w' ⟨rfl, rfl⟩; first | rw [H0.out] | rw [H1.out])
        go_ret2
        exact ⟨ret_int2 HZ.out.1 HZ.out.2, Below.refl _ _⟩
      | true =>
        cases h2 : mayW a with
        | false =>
          have H0 := Lib.hid h0
          have H1 := Lib.hid h1
          have H2 := Lib.hid h2
          clear h0 h1 h2 hn
          go_enter Try.func11, Try.ntmps11
          go_wp2_with (go_at_call 31; refine (ref22may_any _ _).mono ?_; rintro e w' ⟨rfl, rfl⟩; first | rw [H0.out] | rw [H1.out] | rw [H2.out])
          go_ret2
          exact ⟨ret_int2 HZ.out.1 HZ.out.2, Below.refl _ _⟩
        | true =>
          have q0 := mayW_parts h0
          have H0 := Lib.hid h0
          clear h0
          have q1 := mayW_parts h1
          have H1 := Lib.hid h1
          clear h1
          have q2 := mayW_parts h2
          have H2 := Lib.hid h2
          clear h2
          rcases Int.lt_or_le m l with g | g
          · clear hn
            go_enter Try.func11, Try.ntmps11
            go_wp2_with (go_at_call 31; refine (ref22may_any _ _).mono ?_; rintro e w' ⟨rfl, rfl⟩; first | rw [H0.out] | rw [H1.out] | rw [H2.out])
            go_ret2
            exact ⟨ret_int2 HZ.out.1 HZ.out.2, Below.refl _ _⟩
          · rcases Int.lt_or_le s (-1) with g1 | g1
            · clear hn
              go_enter Try.func11, Try.ntmps11
              go_wp2_with (go_at_call 31; refine (ref22may_any _ _).mono ?_; rintro e w' ⟨rfl, rfl⟩; first | rw [H0.out] | rw [H1.out] | rw [H2.out])
              go_ret2
              exact ⟨ret_int2 HZ.out.1 HZ.out.2, Below.refl _ _⟩
            · have g2 : 1073741824 < s := by omega
              clear hn
              go_enter Try.func11, Try.ntmps11
              go_wp2_with (go_at_call 31; refine (ref22may_any _ _).mono ?_; rintro e w' ⟨rfl, rfl⟩; first | rw [H0.out] | rw [H1.out] | rw [H2.out])
              go_ret2
              exact ⟨ret_int2 HZ.out.1 HZ.out.2, Below.refl _ _⟩
  | true =>
    have hp := okF_parts h
    have H := Lib.hid h
    have h1 : mayW l = true := mayW_t (by omega) (by omega)
    have h2 : mayW m = true := mayW_t (by omega) (by omega)
    have h3 : mayW a = true := mayW_t (by omega) (by omega)
    have H1 := Lib.hid h1
    have H2 := Lib.hid h2
    have H3 := Lib.hid h3
    clear h1 h2 h3 h
    obtain ⟨p1, p2, p3, p4, p5, p6, p7⟩ := hp
    go_enter Try.func11, Try.ntmps11
    go_wp2_with (go_at_call 31; refine (ref22may_any _ _).mono ?_; rintro e w' ⟨rfl, rfl⟩; first | rw [H1.out] | rw [H2.out] | rw [H3.out])
    all_goals
      go_ret2
      exact ⟨ret_int2 (by rw [← HV.out, fitV, if_pos H.out]; (try split) <;> (try split) <;> (try split) <;> omega) (by rw [← HE.out]; simp [fitE, H.out]), Below.refl _ _⟩


/-! ### box -/
def mn (a b : Int) : Int := if b < a then b else a
/-- What both boxes come to. -/
def boxI (l m a s x y : Int) : Int := if okO a x y = true then fitV l m (mn (innV a x y) 1099511627776) s else 0
def boxE (l m a s x y : Int) : Int := if okO a x y = true then fitE l m (mn (innV a x y) 1099511627776) s else 2
def boxO (l m a s x y : Int) : Int := if okO a x y = true then (if okF l m (mn (innV a x y) 1099511627776) s = true then boxI l m a s x y + x + y else 0) else 0
theorem innV_rng (a x y : Int) : 0 ≤ innV a x y ∧ innV a x y ≤ 1101659111424 := by
  unfold innV
  split
  · rename_i h
    have := okO_parts h
    split <;> omega
  · omega
theorem boxE_rng (l m a s x y : Int) : 0 ≤ boxE l m a s x y ∧ boxE l m a s x y ≤ 2 := by
  unfold boxE
  split
  · exact fitE_rng ..
  · omega

set_option maxHeartbeats 400000 in
theorem box_any (l m a s x y i o e0 : Int) (hi : boxI l m a s x y = i) (ho : boxO l m a s x y = o) (he : boxE l m a s x y = e0) (w : World) :
    Calls Try.prog 16 #[.int .i64 l, .int .i64 m, .int .i64 a, .int .i64 s, .int .i64 x, .int .i64 y] w fun e w' => e = .returned (.tuple #[.int .i64 i, .int .i64 o, .int .i64 e0]) ∧ Below w.heap.size w w' := by
  cases h : okO a x y with
  | false =>
    have hz : i = 0 ∧ o = 0 ∧ e0 = 2 := by
      rw [← hi, ← ho, ← he]
      simp [boxI, boxO, boxE, h]
    clear hi ho he
    obtain ⟨rfl, rfl, rfl⟩ := hz
    have F1 := Lib.hid (show innV a x y = 0 by simp [innV, h])
    have F2 := Lib.hid (show ooE a x y = 2 by simp [ooE, h])
    clear h
    go_enter Try.func16, Try.ntmps16
    go_wp2_with (go_at_call 14; refine (inner_any a x y 0 2 F1.out F2.out _).mono ?_; rintro e w' ⟨rfl, hb⟩)
    go_ret3
    exact ⟨rfl, hb⟩
  | true =>
    have hp := okO_parts h
    obtain ⟨iv, hiv⟩ : ∃ iv, innV a x y = iv := ⟨_, rfl⟩
    have hrg := innV_rng a x y
    rw [hiv] at hrg
    have F1 := Lib.hid hiv
    have F2 := Lib.hid (show ooE a x y = 0 by simp [ooE, h])
    obtain ⟨r, hr⟩ : ∃ r, mn iv 1099511627776 = r := ⟨_, rfl⟩
    have hrr : 0 ≤ r ∧ r ≤ 1099511627776 := by rw [← hr, mn]; split <;> omega
    cases g : okF l m r s with
    | false =>
      have hz : i = 0 ∧ o = 0 ∧ e0 = 2 := by
        rw [← hi, ← ho, ← he]
        simp [boxI, boxO, boxE, h, hiv, hr, fitV, fitE, g]
      clear hi ho he
      obtain ⟨rfl, rfl, rfl⟩ := hz
      have G1 := Lib.hid (show fitV l m r s = 0 by simp [fitV, g])
      have G2 := Lib.hid (show fitE l m r s = 2 by simp [fitE, g])
      clear g h hiv
      rcases Int.lt_or_le 1099511627776 iv with q | q
      · obtain rfl : r = 1099511627776 := by rw [← hr, mn, if_pos q]
        clear hr
        go_enter Try.func16, Try.ntmps16
        go_wp2_with (first
          | (go_at_call 14; refine (inner_any a x y iv 0 F1.out F2.out _).mono ?_; rintro e w' ⟨rfl, hb⟩)
          | (go_at_call 10; refine (fit_any l m 1099511627776 s 0 2 G1.out G2.out _).mono ?_; rintro e w2 ⟨rfl, hb2⟩))
        go_ret3
        exact ⟨rfl, bel_trans hb hb2⟩
      · obtain rfl : r = iv := by rw [← hr, mn, if_neg (by omega)]
        clear hr
        go_enter Try.func16, Try.ntmps16
        go_wp2_with (first
          | (go_at_call 14; refine (inner_any a x y r 0 F1.out F2.out _).mono ?_; rintro e w' ⟨rfl, hb⟩)
          | (go_at_call 10; refine (fit_any l m r s 0 2 G1.out G2.out _).mono ?_; rintro e w2 ⟨rfl, hb2⟩))
        go_ret3
        exact ⟨rfl, bel_trans hb hb2⟩
    | true =>
      obtain ⟨v, hv⟩ : ∃ v, fitV l m r s = v := ⟨_, rfl⟩
      have hvr := fitV_rng l m r s
      rw [hv] at hvr
      have hk : okO v x y = true := by simp [okO, mayW, mayU]; omega
      have hz : i = v ∧ o = v + x + y ∧ e0 = 0 := by
        rw [← hi, ← ho, ← he]
        simp [boxI, boxO, boxE, h, hiv, hr, fitE, g, hv]
      clear hi ho he
      obtain ⟨rfl, rfl, rfl⟩ := hz
      have G1 := Lib.hid hv
      have G2 := Lib.hid (show fitE l m r s = 0 by simp [fitE, g])
      have K1 := Lib.hid (show outV i x y = i + x + y by simp [outV, hk])
      have K2 := Lib.hid (show ooE i x y = 0 by simp [ooE, hk])
      clear g h hiv hv hk
      rcases Int.lt_or_le 1099511627776 iv with q | q
      · obtain rfl : r = 1099511627776 := by rw [← hr, mn, if_pos q]
        clear hr
        go_enter Try.func16, Try.ntmps16
        go_wp2_with (first
          | (go_at_call 14; refine (inner_any a x y iv 0 F1.out F2.out _).mono ?_; rintro e w' ⟨rfl, hb⟩)
          | (go_at_call 10; refine (fit_any l m 1099511627776 s i 0 G1.out G2.out _).mono ?_; rintro e w2 ⟨rfl, hb2⟩)
          | (go_at_call 12; refine (outer_any i x y (i + x + y) 0 K1.out K2.out _).mono ?_; rintro e w3 ⟨rfl, hb3⟩))
        go_ret3
        exact ⟨rfl, bel_trans (bel_trans hb hb2) hb3⟩
      · obtain rfl : r = iv := by rw [← hr, mn, if_neg (by omega)]
        clear hr
        go_enter Try.func16, Try.ntmps16
        go_wp2_with (first
          | (go_at_call 14; refine (inner_any a x y r 0 F1.out F2.out _).mono ?_; rintro e w' ⟨rfl, hb⟩)
          | (go_at_call 10; refine (fit_any l m r s i 0 G1.out G2.out _).mono ?_; rintro e w2 ⟨rfl, hb2⟩)
          | (go_at_call 12; refine (outer_any i x y (i + x + y) 0 K1.out K2.out _).mono ?_; rintro e w3 ⟨rfl, hb3⟩))
        go_ret3
        exact ⟨rfl, bel_trans (bel_trans hb hb2) hb3⟩

set_option maxHeartbeats 400000 in
theorem refBox_any (l m a s x y i o e0 : Int) (hi : boxI l m a s x y = i) (ho : boxO l m a s x y = o) (he : boxE l m a s x y = e0) (w : World) :
    Calls Try.prog 17 #[.int .i64 l, .int .i64 m, .int .i64 a, .int .i64 s, .int .i64 x, .int .i64 y] w fun e w' => e = .returned (.tuple #[.int .i64 i, .int .i64 o, .int .i64 e0]) ∧ Below w.heap.size w w' := by
  cases h : okO a x y with
  | false =>
    have hz : i = 0 ∧ o = 0 ∧ e0 = 2 := by
      rw [← hi, ← ho, ← he]
      simp [boxI, boxO, boxE, h]
    clear hi ho he
    obtain ⟨rfl, rfl, rfl⟩ := hz
    have F1 := Lib.hid (show innV a x y = 0 by simp [innV, h])
    have F2 := Lib.hid (show ooE a x y = 2 by simp [ooE, h])
    clear h
    go_enter Try.func17, Try.ntmps17
    go_wp2_with (go_at_call 15; refine (refInner_any a x y 0 2 F1.out F2.out _).mono ?_; rintro e w' ⟨rfl, hb⟩)
    go_ret3
    exact ⟨rfl, hb⟩
  | true =>
    have hp := okO_parts h
    obtain ⟨iv, hiv⟩ : ∃ iv, innV a x y = iv := ⟨_, rfl⟩
    have hrg := innV_rng a x y
    rw [hiv] at hrg
    have F1 := Lib.hid hiv
    have F2 := Lib.hid (show ooE a x y = 0 by simp [ooE, h])
    obtain ⟨r, hr⟩ : ∃ r, mn iv 1099511627776 = r := ⟨_, rfl⟩
    have hrr : 0 ≤ r ∧ r ≤ 1099511627776 := by rw [← hr, mn]; split <;> omega
    cases g : okF l m r s with
    | false =>
      have hz : i = 0 ∧ o = 0 ∧ e0 = 2 := by
        rw [← hi, ← ho, ← he]
        simp [boxI, boxO, boxE, h, hiv, hr, fitV, fitE, g]
      clear hi ho he
      obtain ⟨rfl, rfl, rfl⟩ := hz
      have G1 := Lib.hid (show fitV l m r s = 0 by simp [fitV, g])
      have G2 := Lib.hid (show fitE l m r s = 2 by simp [fitE, g])
      clear g h hiv
      rcases Int.lt_or_le 1099511627776 iv with q | q
      · obtain rfl : r = 1099511627776 := by rw [← hr, mn, if_pos q]
        clear hr
        go_enter Try.func17, Try.ntmps17
        go_wp2_with (first
          | (go_at_call 15; refine (refInner_any a x y iv 0 F1.out F2.out _).mono ?_; rintro e w' ⟨rfl, hb⟩)
          | (go_at_call 11; refine (refFit_any l m 1099511627776 s 0 2 G1.out G2.out _).mono ?_; rintro e w2 ⟨rfl, hb2⟩))
        go_ret3
        exact ⟨rfl, bel_trans hb hb2⟩
      · obtain rfl : r = iv := by rw [← hr, mn, if_neg (by omega)]
        clear hr
        go_enter Try.func17, Try.ntmps17
        go_wp2_with (first
          | (go_at_call 15; refine (refInner_any a x y r 0 F1.out F2.out _).mono ?_; rintro e w' ⟨rfl, hb⟩)
          | (go_at_call 11; refine (refFit_any l m r s 0 2 G1.out G2.out _).mono ?_; rintro e w2 ⟨rfl, hb2⟩))
        go_ret3
        exact ⟨rfl, bel_trans hb hb2⟩
    | true =>
      obtain ⟨v, hv⟩ : ∃ v, fitV l m r s = v := ⟨_, rfl⟩
      have hvr := fitV_rng l m r s
      rw [hv] at hvr
      have hk : okO v x y = true := by simp [okO, mayW, mayU]; omega
      have hz : i = v ∧ o = v + x + y ∧ e0 = 0 := by
        rw [← hi, ← ho, ← he]
        simp [boxI, boxO, boxE, h, hiv, hr, fitE, g, hv]
      clear hi ho he
      obtain ⟨rfl, rfl, rfl⟩ := hz
      have G1 := Lib.hid hv
      have G2 := Lib.hid (show fitE l m r s = 0 by simp [fitE, g])
      have K1 := Lib.hid (show outV i x y = i + x + y by simp [outV, hk])
      have K2 := Lib.hid (show ooE i x y = 0 by simp [ooE, hk])
      clear g h hiv hv hk
      rcases Int.lt_or_le 1099511627776 iv with q | q
      · obtain rfl : r = 1099511627776 := by rw [← hr, mn, if_pos q]
        clear hr
        go_enter Try.func17, Try.ntmps17
        go_wp2_with (first
          | (go_at_call 15; refine (refInner_any a x y iv 0 F1.out F2.out _).mono ?_; rintro e w' ⟨rfl, hb⟩)
          | (go_at_call 11; refine (refFit_any l m 1099511627776 s i 0 G1.out G2.out _).mono ?_; rintro e w2 ⟨rfl, hb2⟩)
          | (go_at_call 13; refine (refOuter_any i x y (i + x + y) 0 K1.out K2.out _).mono ?_; rintro e w3 ⟨rfl, hb3⟩))
        go_ret3
        exact ⟨rfl, bel_trans (bel_trans hb hb2) hb3⟩
      · obtain rfl : r = iv := by rw [← hr, mn, if_neg (by omega)]
        clear hr
        go_enter Try.func17, Try.ntmps17
        go_wp2_with (first
          | (go_at_call 15; refine (refInner_any a x y r 0 F1.out F2.out _).mono ?_; rintro e w' ⟨rfl, hb⟩)
          | (go_at_call 11; refine (refFit_any l m r s i 0 G1.out G2.out _).mono ?_; rintro e w2 ⟨rfl, hb2⟩)
          | (go_at_call 13; refine (refOuter_any i x y (i + x + y) 0 K1.out K2.out _).mono ?_; rintro e w3 ⟨rfl, hb3⟩))
        go_ret3
        exact ⟨rfl, bel_trans (bel_trans hb hb2) hb3⟩

end Go.Proofs.Ytfpgmldgfgoboaa.Fit
