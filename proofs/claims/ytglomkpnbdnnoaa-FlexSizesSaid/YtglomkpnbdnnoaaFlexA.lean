/- Chapter 23: items; the program's small functions, walked: within, first, may, sums, firsts. No condition but bounds. -/
import Derived.Test.YtglomkpnbdnnoaaFlexN
import Derived.Test.YtglomkpnbdnnoaaOpenS
namespace Go.Proofs.Ytglomkpnbdnnoaa.Flex
open Go.RowKit Go.Proofs.Ytglomkpnbdnnoaa.Unit Go.Proofs.Ytglomkpnbdnnoaa.Div
set_option linter.unusedVariables false
set_option linter.unusedSimpArgs false
/-! ### rows of records -/
theorem fm_len {α : Type} (f : α → List Value) (k : Nat) (hk : ∀ x, (f x).length = k) (xs : List α) : (xs.flatMap f).length = xs.length * k := by
  induction xs with
  | nil => simp
  | cons x xs ih => rw [List.flatMap_cons, List.length_append, ih, hk, List.length_cons, Nat.add_mul]; omega
theorem fm_at {α : Type} (f : α → List Value) (k : Nat) (hk : ∀ x, (f x).length = k) (xs : List α) (j : Nat) (c : α) (h : xs[j]? = some c) (q : Nat) (hq : q < k) : (xs.flatMap f)[j * k + q]? = (f c)[q]? := by
  induction xs generalizing j with
  | nil => simp at h
  | cons x xs ih =>
    rw [List.flatMap_cons]
    match j, h with
    | 0, h =>
      simp at h
      subst h
      rw [Nat.zero_mul, Nat.zero_add, List.getElem?_append_left (by rw [hk]; exact hq)]
    | j + 1, h =>
      have e : (j + 1) * k = j * k + k := by rw [Nat.add_mul]; omega
      rw [List.getElem?_append_right (by rw [hk, e]; omega), hk, show (j + 1) * k + q - k = j * k + q by omega]
      exact ih j (by simpa using h)
theorem reads_fm {α : Type} {f : α → List Value} {k : Nat} (hk : ∀ x, (f x).length = k) (h0 : 0 < k) {w : World} {B n : Nat} {A : Option Addr} {xs : List α} (hr : Reads w B k A n (xs.flatMap f)) {j : Nat} (hj : j < n) :
    ∃ ad c, A = some ad ∧ ad.block < B ∧ xs[j]? = some c ∧ ∀ q u, (f c)[q]? = some u → w.cell? ((ad.add (j * k)).add q) = some u := by
  obtain ⟨ad, e, hb, hc⟩ := hr.2 (by omega)
  have hl := hr.1
  rw [fm_len f k hk] at hl
  have hj2 : j < xs.length := by rw [Nat.eq_of_mul_eq_mul_right h0 hl]; exact hj
  have hx := List.getElem?_eq_getElem hj2
  refine ⟨ad, xs[j], e, hb, hx, fun q u hu => ?_⟩
  have hq : q < k := by have := (List.getElem?_eq_some_iff.1 hu).1; rwa [hk] at this
  rw [add_of_add]
  exact hc _ _ (by rw [fm_at f k hk xs j _ hx q hq]; exact hu)
theorem len_of_reads {α : Type} {f : α → List Value} {k : Nat} (hk : ∀ x, (f x).length = k) (h0 : 0 < k) {w : World} {B n : Nat} {A : Option Addr} {xs : List α} (hr : Reads w B k A n (xs.flatMap f)) : xs.length = n := by
  have hl := hr.1
  rw [fm_len f k hk] at hl
  exact Nat.eq_of_mul_eq_mul_right h0 hl
theorem add_zero_ (a : Addr) : a.add 0 = a := by unfold Addr.add; rw [if_pos rfl]
theorem add_new (g m : Nat) : (⟨g, 0, none⟩ : Addr).add m = ⟨g, m, none⟩ := by
  unfold Addr.add
  split
  · rename_i h; rw [h]
  · simp
/-! ### items -/
structure It where
  base : Int
  least : Int
  grow : Int
  shrink : Int
deriving DecidableEq
abbrev itV (x : It) : Value := .agg #[.int .i64 x.base, .int .i64 x.least, .int .i64 x.grow, .int .i64 x.shrink]
def itC (x : It) : List Value := [.int .i64 x.base, .int .i64 x.least, .int .i64 x.grow, .int .i64 x.shrink]
def itL (xs : List It) : List Value := xs.flatMap itC
structure Cell4 (w : World) (a : Addr) (x : It) : Prop where
  c0 : w.cell? a = some (.int .i64 x.base)
  c1 : w.cell? ⟨a.block, a.off + 1, none⟩ = some (.int .i64 x.least)
  c2 : w.cell? ⟨a.block, a.off + 2, none⟩ = some (.int .i64 x.grow)
  c3 : w.cell? ⟨a.block, a.off + 3, none⟩ = some (.int .i64 x.shrink)
theorem reads_it {w : World} {B n : Nat} {A : Option Addr} {xs : List It} (hr : Reads w B 4 A n (itL xs)) {j : Nat} (hj : j < n) :
    ∃ ad x, A = some ad ∧ ad.block < B ∧ xs[j]? = some x ∧ Cell4 w (ad.add (j * 4)) x := by
  obtain ⟨ad, x, e, hb, hx, key⟩ := reads_fm (f := itC) (k := 4) (fun _ => rfl) (by omega) hr hj
  have k0 := key 0 _ rfl
  have k1 := key 1 _ rfl
  have k2 := key 2 _ rfl
  have k3 := key 3 _ rfl
  rw [add_zero_] at k0
  rw [add_pos] at k1 k2 k3
  exact ⟨ad, x, e, hb, hx, k0, k1, k2, k3⟩
theorem len_it {w : World} {B n : Nat} {A : Option Addr} {xs : List It} (hr : Reads w B 4 A n (itL xs)) : xs.length = n := len_of_reads (f := itC) (fun _ => rfl) (by omega) hr
theorem Cell4.keep {w w' : World} {B : Nat} {a : Addr} {m : It} (h : Cell4 w a m) (hb : Below B w w') (ha : a.block < B) : Cell4 w' a m :=
  ⟨(hb.cell ha).trans h.c0, (hb.cell (p := ⟨a.block, a.off + 1, none⟩) ha).trans h.c1, (hb.cell (p := ⟨a.block, a.off + 2, none⟩) ha).trans h.c2, (hb.cell (p := ⟨a.block, a.off + 3, none⟩) ha).trans h.c3⟩
/-- The items' cells, for ever. -/
theorem itsAt {w : World} {B n : Nat} {ad : Addr} {xs : List It} (hr : Reads w B 4 (some ad) n (itL xs)) {i : Nat} (hi : i < n) : ∃ m, xs[i]? = some m ∧ ad.block < B ∧ ∀ V, Below B w V → Cell4 V (ad.add (i * 4)) m := by
  obtain ⟨ad', m, e, hb, hm, hc⟩ := reads_it hr hi
  injection e with e
  subst e
  exact ⟨m, hm, hb, fun V hV => hc.keep hV (by rw [block_of_add]; exact hb)⟩
/-! ### numbers -/
def mxV (x y : Int) : Int := if x < y then y else x
theorem max2_V (k k' : IntKind) (x y : Int) : Builtin.max2 (.int k x) (.int k' y) = pure (.int k (mxV x y)) := by rw [max2_int]; rfl
attribute [local go_sem] max2_V max_two
def wiB (n m : Int) : Bool := decide (0 ≤ n) && decide (n ≤ m)
theorem within_any (n m : Int) (w : World) : Calls Try.prog 17 #[.int .i64 n, .int .i64 m] w fun e w' => e = .returned (.bool (wiB n m)) ∧ w = w' := by
  by_cases h1 : 0 ≤ n
  · by_cases h2 : n ≤ m
    · have HE := Lib.hid (show wiB n m = true by unfold wiB; rw [decide_eq_true h1, decide_eq_true h2]; rfl)
      have q1 : decide (0 ≤ n) = true := decide_eq_true h1
      have q2 : decide (n ≤ m) = true := decide_eq_true h2
      clear h1 h2
      go_enter Try.func17, Try.ntmps17
      go_wp2
      go_ret
      exact ⟨by rw [HE.out]; rfl, rfl⟩
    · have HE := Lib.hid (show wiB n m = false by unfold wiB; rw [decide_eq_false h2, Bool.and_false])
      have q1 : decide (0 ≤ n) = true := decide_eq_true h1
      have q2 : decide (n ≤ m) = false := decide_eq_false h2
      clear h1 h2
      go_enter Try.func17, Try.ntmps17
      go_wp2
      go_ret
      exact ⟨by rw [HE.out]; rfl, rfl⟩
  · have HE := Lib.hid (show wiB n m = false by unfold wiB; rw [decide_eq_false h1]; rfl)
    have q1 : decide (0 ≤ n) = false := decide_eq_false h1
    clear h1
    go_enter Try.func17, Try.ntmps17
    go_wp2
    go_ret
    exact ⟨by rw [HE.out]; rfl, rfl⟩
def fiI (x : It) : Int := mxV x.base x.least
theorem first_any (x : It) (w : World) : Calls Try.prog 23 #[itV x] w fun e w' => e = .returned (.int .i64 (fiI x)) ∧ Below w.heap.size w w' := by
  obtain ⟨a0, a1, a2, a3⟩ := x
  have HB := Lib.hid (bel_alloc (Below.refl w.heap.size w) (.cells #[.int .i64 a0, .int .i64 a1, .int .i64 a2, .int .i64 a3] 36))
  go_enter Try.func23, Try.ntmps23
  go_wp2
  go_ret
  exact ⟨rfl, HB.out⟩
theorem rfirst_any (x : It) (w : World) : Calls Try.prog 28 #[itV x] w fun e w' => e = .returned (.int .i64 (fiI x)) ∧ Below w.heap.size w w' := by
  obtain ⟨a0, a1, a2, a3⟩ := x
  have HB := Lib.hid (bel_alloc (Below.refl w.heap.size w) (.cells #[.int .i64 a0, .int .i64 a1, .int .i64 a2, .int .i64 a3] 36))
  go_enter Try.func28, Try.ntmps28
  go_wp2
  go_ret
  exact ⟨rfl, HB.out⟩
def maI (x : It) : Bool := wiB x.base 1073741824 && (wiB x.least 1073741824 && (wiB x.grow 1000 && wiB x.shrink 1000))
theorem may_any (x : It) (w : World) : Calls Try.prog 20 #[itV x] w fun e w' => e = .returned (.bool (maI x)) ∧ Below w.heap.size w w' := by
  obtain ⟨a0, a1, a2, a3⟩ := x
  have HB := Lib.hid (bel_alloc (Below.refl w.heap.size w) (.cells #[.int .i64 a0, .int .i64 a1, .int .i64 a2, .int .i64 a3] 36))
  have H0 := Lib.hid (fun V => within_any a0 1073741824 V)
  have H1 := Lib.hid (fun V => within_any a1 1073741824 V)
  have H2 := Lib.hid (fun V => within_any a2 1000 V)
  have H3 := Lib.hid (fun V => within_any a3 1000 V)
  unfold maI
  simp only
  generalize wiB a0 1073741824 = b0 at H0 ⊢
  generalize wiB a1 1073741824 = b1 at H1 ⊢
  generalize wiB a2 1000 = b2 at H2 ⊢
  generalize wiB a3 1000 = b3 at H3 ⊢
  cases b0
  · go_enter Try.func20, Try.ntmps20
    go_wp2_with (go_at_call 17; (with_reducible refine (H0.out _).mono ?_); rintro e w1 ⟨rfl, rfl⟩)
    go_ret
    exact ⟨rfl, HB.out⟩
  · cases b1
    · go_enter Try.func20, Try.ntmps20
      go_wp2_with (first
        | (go_at_call 17; (with_reducible refine (H0.out _).mono ?_); rintro e w1 ⟨rfl, rfl⟩)
        | (go_at_call 17; (with_reducible refine (H1.out _).mono ?_); rintro e w1 ⟨rfl, rfl⟩))
      go_ret
      exact ⟨rfl, HB.out⟩
    · cases b2
      · go_enter Try.func20, Try.ntmps20
        go_wp2_with (first
          | (go_at_call 17; (with_reducible refine (H0.out _).mono ?_); rintro e w1 ⟨rfl, rfl⟩)
          | (go_at_call 17; (with_reducible refine (H1.out _).mono ?_); rintro e w1 ⟨rfl, rfl⟩)
          | (go_at_call 17; (with_reducible refine (H2.out _).mono ?_); rintro e w1 ⟨rfl, rfl⟩))
        go_ret
        exact ⟨rfl, HB.out⟩
      · go_enter Try.func20, Try.ntmps20
        go_wp2_with (first
          | (go_at_call 17; (with_reducible refine (H0.out _).mono ?_); rintro e w1 ⟨rfl, rfl⟩)
          | (go_at_call 17; (with_reducible refine (H1.out _).mono ?_); rintro e w1 ⟨rfl, rfl⟩)
          | (go_at_call 17; (with_reducible refine (H2.out _).mono ?_); rintro e w1 ⟨rfl, rfl⟩)
          | (go_at_call 17; (with_reducible refine (H3.out _).mono ?_); rintro e w1 ⟨rfl, rfl⟩))
        go_ret
        exact ⟨by simp, HB.out⟩
theorem noMay_any (x : It) (w : World) : Calls Try.prog 19 #[itV x] w fun e w' => e = .returned (.bool (!maI x)) ∧ Below w.heap.size w w' := by
  have HM := Lib.hid (fun V => may_any x V)
  obtain ⟨b, hb⟩ : ∃ b, maI x = b := ⟨_, rfl⟩
  rw [hb] at HM ⊢
  clear hb
  obtain ⟨a0, a1, a2, a3⟩ := x
  have HB := Lib.hid (bel_alloc (Below.refl w.heap.size w) (.cells #[.int .i64 a0, .int .i64 a1, .int .i64 a2, .int .i64 a3] 36))
  go_enter Try.func19, Try.ntmps19
  go_wp2_with (go_at_call 20; (with_reducible refine (HM.out _).mono ?_); rintro e w1 ⟨rfl, b1⟩; have B1 := Lib.hid (bel_trans HB.out b1); clear b1)
  go_ret
  exact ⟨rfl, B1.out⟩
def FAR : Int := 70368744177664
theorem noWithin_any (x : Int) (w : World) : Calls Try.prog 33 #[.int .i64 x] w fun e w' => e = .returned (.bool (!wiB x 70368744177664)) ∧ Below w.heap.size w w' := by
  have HM := Lib.hid (fun V => within_any x 70368744177664 V)
  obtain ⟨b, hb⟩ : ∃ b, wiB x 70368744177664 = b := ⟨_, rfl⟩
  rw [hb] at HM ⊢
  clear hb
  have HB := Lib.hid (Below.refl w.heap.size w)
  go_enter Try.func33, Try.ntmps33
  go_wp2_with (go_at_call 17; (with_reducible refine (HM.out _).mono ?_); rintro e w1 ⟨rfl, rfl⟩)
  go_ret
  exact ⟨rfl, HB.out⟩
theorem reads_int {w : World} {B n k : Nat} {A : Option Addr} {xs : List Int} (h : Reads w B 1 A n (xs.map (Value.int .i64))) (hk : k < n) : ∃ ad x, A = some ad ∧ ad.block < B ∧ xs[k]? = some x ∧ w.cell? (ad.add k) = some (.int .i64 x) := by
  obtain ⟨ad, u, e, hb, hx, hc⟩ := h.at_ hk
  rw [List.getElem?_map] at hx
  cases g : xs[k]? with
  | none => rw [g] at hx; cases hx
  | some x =>
    rw [g] at hx
    injection hx with hx
    exact ⟨ad, x, e, hb, rfl, by rw [hx]; exact hc⟩
theorem intsAt {w : World} {B n : Nat} {ad : Addr} {xs : List Int} (hr : Reads w B 1 (some ad) n (xs.map (Value.int .i64))) {i : Nat} (hi : i < n) : ∃ x, xs[i]? = some x ∧ ad.block < B ∧ ∀ V, Below B w V → V.cell? (ad.add i) = some (.int .i64 x) := by
  obtain ⟨ad', x, e, hb, hx, hc⟩ := reads_int hr hi
  injection e with e
  subst e
  exact ⟨x, hx, hb, fun V hV => (hV.cell (by rw [block_of_add]; exact hb)).trans hc⟩
theorem len_int {w : World} {B n : Nat} {A : Option Addr} {xs : List Int} (hr : Reads w B 1 A n (xs.map (Value.int .i64))) : xs.length = n := by
  have := hr.1
  rwa [List.length_map, Nat.mul_one] at this
/-! ### sums -/
def IdFn (g : Nat) : Prop := ∀ (x : Int) (W : World), Calls Try.prog g #[.int .i64 x] W fun e w' => e = .returned (.int .i64 x) ∧ W = w'
theorem id_share : IdFn 40 := fun x w => by
  go_enter Try.func40, Try.ntmps40
  go_wp2
  go_ret
  exact ⟨rfl, rfl⟩
theorem id_rounds : IdFn 38 := fun x w => by
  go_enter Try.func38, Try.ntmps38
  go_wp2
  go_ret
  exact ⟨rfl, rfl⟩
set_option maxHeartbeats 1000000 in
theorem sum64_any (g : Nat) (eg : ∀ args w, (callFunc g args).run Try.prog w = .ok (.enter g args) w) (hg : IdFn g) (A : Option Addr) (n c : Nat) (xs : List Int) (hl : xs.length = n) (hn : n ≤ 1000000) (hb : ∀ k, k ≤ n → -4611686018427387904 ≤ sT xs k ∧ sT xs k ≤ 4611686018427387904) (B : Nat) (w : World) (hr : Reads w B 1 A n (xs.map (Value.int .i64))) :
    Calls Try.prog 37 #[.slice A n c, .func (.func g) #[] #[]] w fun e w' => e = .returned (.int .i64 xs.sum) ∧ w = w' := by
  have HR := Lib.hid hr
  have HL := Lib.hid hl
  have HB := Lib.hid hb
  have HG := Lib.hid hg
  have nn : (n : Int) ≤ 1000000 := by omega
  have HE := Lib.hid (sT_all xs n (by omega))
  clear hr hl hb hg
  go_enter Try.func37, Try.ntmps37
  go_wp2_with (fail)
  go_loopw [5, 7, 10] (fun s x i wr => ∃ k : Nat, i = .int .i64 k ∧ s = .int .i64 (sT xs k) ∧ k ≤ n ∧ w = wr) (fun _ _ i _ => n - (intOf i).toNat)
  case atStart => exact ⟨0, rfl, rfl, by omega, rfl⟩
  case round =>
    obtain ⟨k, rfl, rfl, hk, rfl⟩ := hrel
    by_cases hlt : k < n
    · have q1 : decide ((k : Int) < (n : Int)) = true := decide_eq_true (by omega)
      have i0 : (0 : Int) ≤ (k : Int) := by omega
      have i1 : (k : Int) < (n : Int) := by omega
      obtain ⟨ad, x, rfl, hbk, hx, cx⟩ := reads_int HR.out hlt
      have hs := sT_succ xs k x hx
      have hb1 := HB.out (k + 1) (by omega)
      rw [hs] at hb1
      have HS := Lib.hid hs
      have wS : IntKind.i64.wrap (sT xs k + x) = sT xs k + x := IntWalk.i64_in _ ⟨by omega, by omega⟩
      generalize sT xs k = s at wS HS
      clear hx hs hb1 hbk
      go_wp2_with (go_at_fn g; (refine (HG.out x _).mono ?_); rintro e w1 ⟨rfl, rfl⟩)
      go_roundw
      case rel => exact ⟨k + 1, by go_num, by rw [HS.out], by omega, by first | rfl | trivial⟩
      case measure => simp [intOf]; omega
    · obtain rfl : k = n := by omega
      have q1 : decide ((k : Int) < (k : Int)) = false := decide_eq_false (by omega)
      go_wp2
      go_ret
      exact ⟨by rw [← HE.out]; rfl, rfl⟩
set_option maxHeartbeats 1000000 in
theorem sumIt_any (A : Option Addr) (n c : Nat) (xs : List It) (hn : n ≤ 1000000) (hb : ∀ k, k ≤ n → -4611686018427387904 ≤ sT (xs.map fiI) k ∧ sT (xs.map fiI) k ≤ 4611686018427387904) (w : World) (hr : Reads w w.heap.size 4 A n (itL xs)) :
    Calls Try.prog 22 #[.slice A n c, .func (.func 23) #[] #[]] w fun e w' => e = .returned (.int .i64 (xs.map fiI).sum) ∧ Below w.heap.size w w' := by
  have HR := Lib.hid hr
  have HL := Lib.hid (len_it hr)
  have HB := Lib.hid hb
  have nn : (n : Int) ≤ 1000000 := by omega
  have HE := Lib.hid (sT_all (xs.map fiI) n (by rw [List.length_map]; exact Nat.le_of_eq HL.out))
  clear hr hb
  go_enter Try.func22, Try.ntmps22
  go_wp2_with (fail)
  go_loopw [5, 7, 10] (fun s x i wr => ∃ k : Nat, i = .int .i64 k ∧ s = .int .i64 (sT (xs.map fiI) k) ∧ k ≤ n ∧ Hid (Below w.heap.size w wr)) (fun _ _ i _ => n - (intOf i).toNat)
  case atStart => exact ⟨0, rfl, rfl, by omega, Lib.hid (Below.refl _ _)⟩
  case round =>
    obtain ⟨k, rfl, rfl, hk, HW⟩ := hrel
    by_cases hlt : k < n
    · have q1 : decide ((k : Int) < (n : Int)) = true := decide_eq_true (by omega)
      have i0 : (0 : Int) ≤ (k : Int) := by omega
      have i1 : (k : Int) < (n : Int) := by omega
      obtain ⟨ad, _, rfl, _, _, _⟩ := reads_it HR.out hlt
      obtain ⟨m, hm, hbk, hC⟩ := itsAt HR.out hlt
      obtain ⟨c0, c1, c2, c3⟩ := hC _ HW.out
      have hs := sT_succ (xs.map fiI) k (fiI m) (by rw [List.getElem?_map, hm]; rfl)
      have hb1 := HB.out (k + 1) (by omega)
      rw [hs] at hb1
      have HS := Lib.hid hs
      have HF := Lib.hid (fun V => first_any m V)
      obtain ⟨f, hf⟩ : ∃ f, fiI m = f := ⟨_, rfl⟩
      rw [hf] at HF HS hb1
      have wS : IntKind.i64.wrap (sT (xs.map fiI) k + f) = sT (xs.map fiI) k + f := IntWalk.i64_in _ ⟨by omega, by omega⟩
      generalize sT (xs.map fiI) k = s at wS HS
      have HA := Lib.hid (bel_alloc HW.out (.cells #[.int .i64 m.base, .int .i64 m.least, .int .i64 m.grow, .int .i64 m.shrink] 36))
      clear hm hs hb1 hbk hC hf
      go_wp2_with (go_at_call 23; (with_reducible refine (HF.out _).mono ?_); rintro e w1 ⟨rfl, b1⟩; have B1 := Lib.hid (bel_trans HA.out b1); clear b1)
      go_roundw
      case rel => exact ⟨k + 1, by go_num, by rw [HS.out], by omega, B1⟩
      case measure => simp [intOf]; omega
    · obtain rfl : k = n := by omega
      have q1 : decide ((k : Int) < (k : Int)) = false := decide_eq_false (by omega)
      go_wp2
      go_ret
      exact ⟨by rw [← HE.out]; rfl, HW.out⟩
end Go.Proofs.Ytglomkpnbdnnoaa.Flex
