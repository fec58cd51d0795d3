/- Chapter 23: the program's Share and Line, the reference's Same, walked. No condition but bounds. -/
import Derived.Test.YtglomkpnbdnnoaaFlexV
import Derived.Lib.LazyBuf
namespace Go.Proofs.Ytglomkpnbdnnoaa.Flex
open Go.RowKit Go.Proofs.Ytglomkpnbdnnoaa.Unit Go.Proofs.Ytglomkpnbdnnoaa.Div
set_option linter.unusedVariables false
set_option linter.unusedSimpArgs false
attribute [local go_sem] max2_V max_two
/-! ### Share -/
def okH (n : Int) (ws : List Int) : Bool := wiB n 70368744177664 && !ws.any (fun x => !wiB x 70368744177664)
def ansH (n : Int) (ws : List Int) : List Int := if okH n ws = true ∧ ¬ ws.sum = 0 then shareL n ws else []
def errH (n : Int) (ws : List Int) : Int := if okH n ws = true ∧ ¬ ws.sum = 0 then 0 else 2
def PH (w : World) (n : Int) (ws : List Int) (e : Ending) (w' : World) : Prop := (∃ A' c', e = .returned (.tuple #[.slice A' (ansH n ws).length c', .int .i64 (errH n ws)]) ∧ Reads w' w'.heap.size 1 A' (ansH n ws).length ((ansH n ws).map (Value.int .i64))) ∧ Below w.heap.size w w'
theorem PH_no {w w' : World} {n : Int} {ws : List Int} (h : ¬ (okH n ws = true ∧ ¬ ws.sum = 0)) (hb : Below w.heap.size w w') : PH w n ws (.returned (.tuple #[.slice none 0 0, .int .i64 2])) w' := by
  have e1 : ansH n ws = [] := by unfold ansH; rw [if_neg h]
  have e2 : errH n ws = 2 := by unfold errH; rw [if_neg h]
  unfold PH
  rw [e1, e2]
  exact ⟨⟨none, 0, rfl, Reads.none_⟩, hb⟩
theorem PH_yes {w w' : World} {n : Int} {ws : List Int} {k c : Nat} {A : Option Addr} (h : okH n ws = true ∧ ¬ ws.sum = 0) (hl : ws.length = k) (hr : Reads w' w'.heap.size 1 A k ((shareL n ws).map (Value.int .i64))) (hb : Below w.heap.size w w') : PH w n ws (.returned (.tuple #[.slice A k c, .int .i64 0])) w' := by
  have e1 : ansH n ws = shareL n ws := by unfold ansH; rw [if_pos h]
  have e2 : errH n ws = 0 := by unfold errH; rw [if_pos h]
  have e3 : (shareL n ws).length = k := by rw [shareL_len, hl]
  unfold PH
  rw [e1, e2, e3]
  exact ⟨⟨A, c, rfl, hr⟩, hb⟩
theorem wiB_in {n m : Int} (h : wiB n m = true) : 0 ≤ n ∧ n ≤ m := by unfold wiB at h; simpa using h
theorem we34_any (p1 : Nat) (A : Option Addr) (n c : Nat) (ws : List Int) (i : Nat) (hi : i < n) (hn : n ≤ 1000000) (B : Nat) (V : World) (k2 : Blk V p1 24 #[.slice A n c]) (hr : Reads V B 1 A n (ws.map (Value.int .i64))) :
    Calls Try.prog 34 #[.int .i64 (i : Int), .pointer (some ⟨p1, 0, none⟩)] V fun e w' => (∃ x, ws[i]? = some x ∧ e = .returned (.int .i64 x)) ∧ Below V.heap.size V w' := by
  have d1 : V.cell? ⟨p1, 0, none⟩ = some (.slice A n c) := k2.cell 0
  obtain ⟨ad, x, rfl, _, hx, c0⟩ := reads_int hr hi
  have i0 : (0 : Int) ≤ (i : Int) := by omega
  have i1 : (i : Int) < (n : Int) := by omega
  have HX := Lib.hid hx
  clear hx k2 hr
  go_enter Try.func34, Try.ntmps34
  go_wp2
  go_ret
  exact ⟨⟨_, HX.out, rfl⟩, Below.refl _ _⟩
set_option maxHeartbeats 2000000 in
theorem Share_any (n : Int) (A : Option Addr) (k c : Nat) (ws : List Int) (hk : k ≤ 65536) (w : World) (hr : Reads w w.heap.size 1 A k (ws.map (Value.int .i64))) :
    Calls Try.prog 13 #[.int .i64 n, .slice A k c] w (PH w n ws) := by
  have HL := Lib.hid (len_int hr)
  have g0 : decide ((65536 : Int) < (k : Int)) = false := decide_eq_false (by omega)
  have HW := Lib.hid (fun V => within_any n 70368744177664 V)
  have HA := Lib.hid (bel_alloc (Below.refl w.heap.size w) (.cells #[.slice A k c] 24))
  have HRA := Lib.hid (hr.alloc (Nat.le_refl _) (.cells #[.slice A k c] 24))
  have KA := Lib.hid (Blk.new w 24 #[.slice A k c])
  have HCo := Lib.hid (contains64_any A k c ws (by omega) (w.alloc (.cells #[.slice A k c] 24)) ((hr.alloc (Nat.le_refl _) _).more (by rw [World.size_alloc]; omega)))
  cases h1 : wiB n 70368744177664 with
  | false =>
    rw [h1] at HW
    have HN := Lib.hid (show ¬ (okH n ws = true ∧ ¬ ws.sum = 0) by unfold okH; rw [h1]; simp)
    clear h1 hr
    go_enter Try.func13, Try.ntmps13
    go_wp2_with (go_at_call 17; (with_reducible refine (HW.out _).mono ?_); rintro e w1 ⟨rfl, rfl⟩)
    go_ret2
    exact PH_no HN.out HA.out
  | true =>
    rw [h1] at HW
    cases h2 : ws.any (fun x => !wiB x 70368744177664) with
    | true =>
      rw [h2] at HCo
      have HN := Lib.hid (show ¬ (okH n ws = true ∧ ¬ ws.sum = 0) by unfold okH; rw [h2]; simp)
      clear h1 h2 hr
      go_enter Try.func13, Try.ntmps13
      go_wp2_with (first
        | (go_at_call 17; (with_reducible refine (HW.out _).mono ?_); rintro e w1 ⟨rfl, rfl⟩)
        | (go_at_call 32; (with_reducible refine HCo.out.mono ?_); rintro e w2 ⟨rfl, b2⟩; have B2 := Lib.hid (bel_trans HA.out b2); clear b2))
      go_ret2
      exact PH_no HN.out B2.out
    | false =>
      rw [h2] at HCo
      have HOK := Lib.hid (show okH n ws = true by unfold okH; rw [h1, h2]; rfl)
      obtain ⟨n0, n1⟩ := wiB_in h1
      have hwb : ∀ x ∈ ws, 0 ≤ x ∧ x ≤ 70368744177664 := fun x hx => by
        rw [List.any_eq_false] at h2
        have := h2 x hx
        exact wiB_in (by simpa using this)
      have HWB := Lib.hid hwb
      clear h1 h2 hr hwb
      go_enter Try.func13, Try.ntmps13
      go_upto_region 3 with (first
        | (go_at_call 17; (with_reducible refine (HW.out _).mono ?_); rintro e w1 ⟨rfl, rfl⟩)
        | (go_at_call 32; (with_reducible refine HCo.out.mono ?_); rintro e w2 ⟨rfl, b2⟩; have K2 := Lib.hid (KA.out.keep b2); have B2 := Lib.hid (bel_trans HA.out b2); have R2 := Lib.hid (HRA.out.below (b2.mono (by rw [World.size_alloc]; omega))); have d2 : w2.cell? ⟨w.heap.size, 0, none⟩ = some (.slice A k c) := K2.out.cell 0; clear b2))
      have HSh := Lib.hid (share_any 34 #[.pointer (some ⟨w.heap.size, 0, none⟩)] (Go.Proofs.enters_of Try.func34 (by kernel_rfl) rfl) ws k HL.out hk n n0 n1 HWB.out w2 (fun i x V hx hV => by
        have hi : i < k := by have := (List.getElem?_eq_some_iff.1 hx).1; rw [HL.out] at this; exact this
        refine (we34_any w.heap.size A k c ws i hi (by omega) w.heap.size V (K2.out.keep hV) (R2.out.below (hV.mono B2.out.size))).mono ?_
        rintro e w' ⟨⟨x', hx', rfl⟩, hb⟩
        rw [hx] at hx'
        injection hx' with hx'
        exact ⟨by rw [hx'], hb⟩))
      have E0 : ∀ (a : Option Addr) (n c : Nat) (W : World), (binOp .eql 24 (.slice a n c) (.slice none 0 0)).run Try.prog W = .ok (.bool a.isNone) W := fun a n c W => run_eql_slice_nil W 24 2 a n c Try.underlying24
      by_cases hz : ws.sum = 0
      · have HZ := Lib.hid hz
        have HN := Lib.hid (show ¬ (okH n ws = true ∧ ¬ ws.sum = 0) by rw [hz]; simp)
        clear hz
        go_wp2_with (go_at_call 25; (with_reducible refine HSh.out.mono ?_); rintro e w5 ⟨⟨v5, rfl, h5⟩, b5⟩; obtain rfl : v5 = .slice none 0 0 := (by rcases h5 with h5 | h5; exact h5.2; exact absurd HZ.out (by omega)); have B5 := Lib.hid (bel_trans B2.out b5); clear b5 h5)
        go_ret2
        exact PH_no HN.out B5.out
      · have HZ := Lib.hid hz
        have HP := Lib.hid (show okH n ws = true ∧ ¬ ws.sum = 0 from ⟨HOK.out, hz⟩)
        clear hz
        go_wp2_with (go_at_call 25; (with_reducible refine HSh.out.mono ?_); rintro e w5 ⟨⟨v5, rfl, h5⟩, b5⟩; obtain ⟨g7, c7, e7, o7⟩ : ∃ g7 c7, v5 = .slice (some ⟨g7, 0, none⟩) k c7 ∧ w5.ownsRow w2.heap.size 2 1 v5 k ((shareL n ws).map (Value.int .i64)) := (by
          rcases h5 with h5 | h5
          · exact absurd h5.1 HZ.out
          · obtain ⟨A7, c7, e7⟩ := own_shape h5.2
            have hk0 : 0 < k := by
              rcases Nat.eq_zero_or_pos k with h | h
              · exact absurd (show ws.sum = 0 by rw [show ws = [] from List.eq_nil_of_length_eq_zero (by rw [HL.out, h])]; rfl) HZ.out
              · exact h
            obtain ⟨g, hg, _⟩ := own_block_at (e7 ▸ h5.2) hk0
            exact ⟨g, c7, by rw [e7, hg], h5.2⟩); subst e7; have O5 := Lib.hid o7; have B5 := Lib.hid (bel_trans B2.out b5); clear b5 h5 o7)
        go_ret2
        exact PH_yes HP.out HL.out (own_reads O5.out) B5.out
/-! ### Same -/
def same64 (xs ys : List Int) : Bool := decide (xs = ys)
theorem step_int (xs ys : List Int) (k : Nat) (x y : Int) (h : xs[k]? = some x) (g : ys[k]? = some y) : (xs.drop k = ys.drop k) ↔ (x = y ∧ xs.drop (k + 1) = ys.drop (k + 1)) := by
  obtain ⟨h1, rfl⟩ := List.getElem?_eq_some_iff.1 h
  obtain ⟨h2, rfl⟩ := List.getElem?_eq_some_iff.1 g
  rw [List.drop_eq_getElem_cons h1, List.drop_eq_getElem_cons h2, List.cons.injEq]
set_option maxHeartbeats 4000000 in
set_option maxRecDepth 100000 in
theorem same_any (A A2 : Option Addr) (n m c d B : Nat) (xs ys : List Int) (w : World) (hl : xs.length = n) (hm : ys.length = m) (hr : Reads w B 1 A n (xs.map (Value.int .i64))) (hs : Reads w B 1 A2 m (ys.map (Value.int .i64))) (hn : n ≤ 1000000000) (hn2 : m ≤ 1000000000) :
    Calls Try.prog 12 #[.slice A n c, .slice A2 m d] w fun e w' => e = .returned (.bool (same64 xs ys)) ∧ Drawn w w' := by
  by_cases hnm : n = m
  · subst hnm
    have HL := Lib.hid hl
    have HM := Lib.hid hm
    have HR := Lib.hid hr
    have HS := Lib.hid hs
    clear hl hr hm hs
    have q0 : ((n : Int) != (n : Int)) = false := by simp
    go_enter Try.func12, Try.ntmps12
    go_wp2
    go_loopw [5] (fun i wr => ∃ k : Nat, k ≤ n ∧ i = .int .i64 k ∧ Hid (xs = ys ↔ xs.drop k = ys.drop k) ∧ Drawn w wr) (fun i wr => n - (intOf i).toNat)
    case atStart => exact ⟨0, by omega, rfl, Iff.rfl, Drawn.refl _⟩
    case round =>
      obtain ⟨k, hk, rfl, HK, ⟨m, rfl⟩⟩ := hrel
      by_cases hlt : k < n
      · obtain ⟨ad, x, rfl, _, hx, cx⟩ := reads_int HR.out hlt
        obtain ⟨ad2, y, rfl, _, hy, cy⟩ := reads_int HS.out hlt
        have ST := Lib.hid (step_int xs ys k x y hx hy)
        clear hx hy
        have q1 : (k : Int) < (n : Int) := by omega
        have q2 : (0 : Int) ≤ k := by omega
        by_cases hxy : x = y
        · subst hxy
          go_wp2
          go_quiet (fail)
          go_wp2
          go_roundw
          case rel => exact ⟨k + 1, by omega, by go_num, HK.out.trans (ST.out.trans ⟨fun h => h.2, fun h => ⟨by first | rfl | trivial, h⟩⟩), ⟨⟨_, rfl⟩⟩⟩
          case measure => simp [intOf]; omega
        · have q3 : (x != y) = true := by simpa using hxy
          have HX := Lib.hid hxy
          clear hxy
          go_wp2
          go_quiet (fail)
          go_wp2
          go_ret
          exact ⟨ret_bool (by rw [same64, decide_eq_false]; exact fun h => HX.out (ST.out.1 (HK.out.1 h)).1), by first | exact ⟨⟨_, rfl⟩⟩ | exact Drawn.two _ _ _⟩
      · obtain rfl : k = n := by omega
        go_wp2
        go_ret
        exact ⟨ret_bool (by rw [same64, decide_eq_true]; exact HK.out.2 (by rw [List.drop_of_length_le (by rw [HL.out]; omega), List.drop_of_length_le (by rw [HM.out]; omega)])), ⟨⟨_, rfl⟩⟩⟩
  · have q0 : ((n : Int) != (m : Int)) = true := by rw [bne_iff_ne]; omega
    have HF := Lib.hid (show same64 xs ys = false from decide_eq_false fun h => hnm (by rw [← hl, ← hm, h]))
    clear hr hs
    go_enter Try.func12, Try.ntmps12
    go_wp2
    go_ret
    exact ⟨ret_bool HF.out.symm, Drawn.refl _⟩
/-! ### Line -/
structure Bx where
  ab : Int
  be : Int
deriving DecidableEq
abbrev bxV (x : Bx) : Value := .agg #[.int .i64 x.ab, .int .i64 x.be]
def bxC (x : Bx) : List Value := [.int .i64 x.ab, .int .i64 x.be]
def bxL (xs : List Bx) : List Value := xs.flatMap bxC
theorem reads_bx {w : World} {B n : Nat} {A : Option Addr} {xs : List Bx} (hr : Reads w B 2 A n (bxL xs)) {j : Nat} (hj : j < n) :
    ∃ ad x, A = some ad ∧ ad.block < B ∧ xs[j]? = some x ∧ w.cell? (ad.add (j * 2)) = some (.int .i64 x.ab) ∧ w.cell? ⟨(ad.add (j * 2)).block, (ad.add (j * 2)).off + 1, none⟩ = some (.int .i64 x.be) := by
  obtain ⟨ad, x, e, hb, hx, key⟩ := reads_fm (f := bxC) (k := 2) (fun _ => rfl) (by omega) hr hj
  have k0 := key 0 _ rfl
  have k1 := key 1 _ rfl
  rw [add_zero_] at k0
  rw [add_pos] at k1
  exact ⟨ad, x, e, hb, hx, k0, k1⟩
theorem len_bx {w : World} {B n : Nat} {A : Option Addr} {xs : List Bx} (hr : Reads w B 2 A n (bxL xs)) : xs.length = n := len_of_reads (f := bxC) (fun _ => rfl) (by omega) hr
def mxB (a b : Bx) : Bx := ⟨mxV a.ab b.ab, mxV a.be b.be⟩
def lineB : List Bx → Bx
  | [] => ⟨0, 0⟩
  | x :: l => l.foldl mxB x
theorem fold_step (l : List Bx) (x y : Bx) (j : Nat) (h : l[j]? = some y) : (l.take (j + 1)).foldl mxB x = mxB ((l.take j).foldl mxB x) y := by
  obtain ⟨hj, rfl⟩ := List.getElem?_eq_some_iff.1 h
  rw [List.take_succ_eq_append_getElem hj, List.foldl_append]
  rfl
theorem run_cut2 {P : Program} {t e : TypeId} (ht : P.underlying t = some (.slice e)) (hs : ∀ W, (sizeOf e).run P W = .ok 2 W) (A : Option Addr) (n c k : Nat) (hk : k ≤ n) (hc : n ≤ c) (W : World) :
    (Instr.slice t (.slice A n c) (some (.int .i64 (k : Int))) none none).run P W = .ok (.slice (if c = k then A else A.map (·.add (k * 2))) (n - k) (c - k)) W := by
  have he : P.elem t = e := by simp [Program.elem, ht]
  rw [run_slice_l W t A n c (by rw [he]; exact ht) .i64 (k : Int) (by omega) (by omega), he, hs]
  simp [Result.andThen, sliced]
set_option maxHeartbeats 4000000 in
theorem Line_any (A : Option Addr) (n c : Nat) (xs : List Bx) (hn : n ≤ 1000000) (hc : n ≤ c) (w : World) (hr : Reads w w.heap.size 2 A n (bxL xs)) :
    Calls Try.prog 15 #[.slice A n c] w fun e w' => e = .returned (bxV (lineB xs)) ∧ Below w.heap.size w w' := by
  have HL := Lib.hid (len_bx hr)
  have nn : (n : Int) ≤ 1000000 := by omega
  by_cases h0 : n = 0
  · have q0 : ((n : Int) == 0) = true := by simp [h0]
    have HX := Lib.hid (show xs = [] from List.eq_nil_of_length_eq_zero (by rw [HL.out, h0]))
    have HB := Lib.hid (bel_alloc (Below.refl w.heap.size w) (.cells #[.int .i64 0, .int .i64 0] 39))
    clear h0 hr
    go_enter Try.func15, Try.ntmps15
    go_wp2
    have r0 : (w.alloc (.cells #[.int .i64 0, .int .i64 0] 39)).cell? ⟨w.heap.size, 0, none⟩ = some (.int .i64 0) := (Blk.new w 39 #[.int .i64 0, .int .i64 0]).cell 0
    have r1 : (w.alloc (.cells #[.int .i64 0, .int .i64 0] 39)).cell? ⟨w.heap.size, 1, none⟩ = some (.int .i64 0) := (Blk.new w 39 #[.int .i64 0, .int .i64 0]).cell 1
    exact bodyPost_ret (v := bxV ⟨0, 0⟩) (by simp [results, Try.results15, go_sem, r0, r1]) rfl ⟨by rw [HX.out]; rfl, HB.out⟩
  · have q0 : ((n : Int) == 0) = false := by simp [h0]
    have i2 : (0 : Int) < (n : Int) := by omega
    obtain ⟨ad, x, rfl, hbk, hx, x0, x1⟩ := reads_bx hr (show 0 < n by omega)
    rw [Nat.zero_mul, add_zero_] at x0 x1
    have az : ad.add 0 = ad := add_zero_ ad
    obtain ⟨l, rfl⟩ : ∃ l, xs = x :: l := by
      cases xs with
      | nil => simp at hx
      | cons y l => simp at hx; subst hx; exact ⟨l, rfl⟩
    obtain ⟨m, hm⟩ : ∃ m, n - 1 = m := ⟨_, rfl⟩
    have hcut := run_cut2 (P := Try.prog) Try.underlying37 (fun _ => by kernel_rfl) (some ad) n c 1 (by omega) hc
    have hrd := hr.cut (k := 1) (by omega) hc
    rw [hm] at hcut hrd
    obtain ⟨A1, hA1⟩ : ∃ A1, (if c = 1 then some ad else (some ad).map (·.add (1 * 2))) = A1 := ⟨_, rfl⟩
    rw [hA1] at hcut hrd
    have HRD := Lib.hid (show Reads w w.heap.size 2 A1 m (bxL l) from hrd)
    have hcut : ∀ W, (Instr.slice 37 (.slice (some ad) n c) (some (.int .i64 1)) none none).run Try.prog W = .ok (.slice A1 m (c - 1)) W := hcut
    obtain ⟨c1, hc1⟩ : ∃ c1, c - 1 = c1 := ⟨_, rfl⟩
    rw [hc1] at hcut
    have HX := Lib.hid hbk
    have KR := Lib.hid (Blk.new w 39 #[.int .i64 0, .int .i64 0])
    have HB := Lib.hid (bel_alloc (Below.refl w.heap.size w) (.cells #[.int .i64 0, .int .i64 0] 39))
    have mm : (m : Int) ≤ 1000000 := by omega
    have z0 : (w.alloc (.cells #[.int .i64 0, .int .i64 0] 39)).cell? ad = some (.int .i64 x.ab) := (HB.out.cell hbk).trans x0
    have z1 : (w.alloc (.cells #[.int .i64 0, .int .i64 0] 39)).cell? ⟨ad.block, ad.off + 1, none⟩ = some (.int .i64 x.be) := (HB.out.cell (p := ⟨ad.block, ad.off + 1, none⟩) hbk).trans x1
    clear h0 hr hx hrd hA1 hbk hc1 hm x0 x1
    go_enter Try.func15, Try.ntmps15
    go_upto_region 4 with fail
    have KB := Lib.hid (show Blk ((w.alloc (.cells #[.int .i64 0, .int .i64 0] 39)).alloc (.cells #[.int .i64 x.ab, .int .i64 x.be] 39)) (w.heap.size + 1) 39 #[.int .i64 x.ab, .int .i64 x.be] by
      have := Blk.new (w.alloc (.cells #[.int .i64 0, .int .i64 0] 39)) 39 #[.int .i64 x.ab, .int .i64 x.be]
      rwa [World.size_alloc] at this)
    have KR2 := Lib.hid (KR.out.alloc (.cells #[.int .i64 x.ab, .int .i64 x.be] 39))
    have HB2 := Lib.hid (bel_alloc HB.out (.cells #[.int .i64 x.ab, .int .i64 x.be] 39))
    generalize (w.alloc (.cells #[.int .i64 0, .int .i64 0] 39)).alloc (.cells #[.int .i64 x.ab, .int .i64 x.be] 39) = W1 at KB KR2 HB2 ⊢
    have HLL := Lib.hid (len_bx HRD.out)
    clear z0 z1 KR HB
    go_wp2
    go_loopw [5, 16] (fun b i wr => ∃ j : Nat, i = .int .i64 j ∧ j ≤ m ∧ Hid (Blk wr (w.heap.size + 1) 39 #[.int .i64 ((l.take j).foldl mxB x).ab, .int .i64 ((l.take j).foldl mxB x).be]) ∧ Hid (Blk wr w.heap.size 39 #[.int .i64 0, .int .i64 0]) ∧ Hid (Below w.heap.size w wr)) (fun _ i _ => m - (intOf i).toNat)
    case atStart => exact ⟨0, rfl, by omega, KB, KR2, HB2⟩
    case round =>
      obtain ⟨j, rfl, hj, HK, HR, HBw⟩ := hrel
      clear KB KR2 HB2
      by_cases hlt : j < m
      · have q1 : decide ((j : Int) < (m : Int)) = true := decide_eq_true (by omega)
        have i0 : (0 : Int) ≤ (j : Int) := by omega
        have i1 : (j : Int) < (m : Int) := by omega
        obtain ⟨ad1, y, rfl, _, hy, y0, y1⟩ := reads_bx (HRD.out.below HBw.out) hlt
        have HF := Lib.hid (fold_step l x y j hy)
        have BA := Lib.hid (bel_alloc (Below.refl wr.heap.size wr) (.cells #[.int .i64 y.ab, .int .i64 y.be] 39))
        have KY := Lib.hid (Blk.new wr 39 #[.int .i64 y.ab, .int .i64 y.be])
        go_upto_region 7 with fail
        generalize (l.take j).foldl mxB x = b at HK HF
        have HNE := HK.out.lt
        have HNR := HR.out.lt
        generalize hgy : wr.heap.size = gy at KY HNE HNR ⊢
        generalize hWA : wr.alloc (.cells #[.int .i64 y.ab, .int .i64 y.be] 39) = WA at BA KY ⊢
        have K2 := Lib.hid (HK.out.keep BA.out)
        have R2 := Lib.hid (HR.out.keep BA.out)
        have B2 := Lib.hid (bel_trans HBw.out BA.out)
        have c0 : WA.cell? ⟨w.heap.size + 1, 0, none⟩ = some (.int .i64 b.ab) := K2.out.cell 0
        have c1 : WA.cell? ⟨w.heap.size + 1, 1, none⟩ = some (.int .i64 b.be) := K2.out.cell 1
        have f0 := K2.out.frozen 0
        have f1 := K2.out.frozen 1
        have d0 : WA.cell? ⟨gy, 0, none⟩ = some (.int .i64 y.ab) := KY.out.cell 0
        have d1 : WA.cell? ⟨gy, 1, none⟩ = some (.int .i64 y.be) := KY.out.cell 1
        have KN := Lib.hid (show Blk ((WA.setCell ⟨w.heap.size + 1, 0, none⟩ (.int .i64 (mxV b.ab y.ab))).setCell ⟨w.heap.size + 1, 1, none⟩ (.int .i64 (mxV b.be y.be))) (w.heap.size + 1) 39 #[.int .i64 (mxV b.ab y.ab), .int .i64 (mxV b.be y.be)] by
          have := (K2.out.set_ 0 (.int .i64 (mxV b.ab y.ab))).set_ 1 (.int .i64 (mxV b.be y.be))
          simpa using this)
        clear y0 y1 hgy hWA BA KY HK HR HBw
        have RN := Lib.hid (((R2.out.far (p := ⟨w.heap.size + 1, 0, none⟩) (by simp only; omega) (.int .i64 (mxV b.ab y.ab))).far (p := ⟨w.heap.size + 1, 1, none⟩) (by simp only; omega) (.int .i64 (mxV b.be y.be))))
        have BN := Lib.hid ((B2.out.setCell (p := ⟨w.heap.size + 1, 0, none⟩) (by simp only; omega) (.int .i64 (mxV b.ab y.ab))).setCell (p := ⟨w.heap.size + 1, 1, none⟩) (by simp only; omega) (.int .i64 (mxV b.be y.be)))
        go_region
        go_wp2
        go_roundw
        case rel => exact ⟨j + 1, by go_num, by omega, by rw [HF.out]; exact KN, RN, Lib.hid BN.out.drew⟩
        case measure => simp [intOf]; omega
      · obtain rfl : j = m := by omega
        have q1 : decide ((j : Int) < (j : Int)) = false := decide_eq_false (by omega)
        have HFi := Lib.hid (show (l.take j).foldl mxB x = lineB (x :: l) by rw [List.take_of_length_le (by rw [HLL.out]; exact Nat.le_refl _)]; rfl)
        generalize (l.take j).foldl mxB x = b at HK HFi
        have c0 : wr.cell? ⟨w.heap.size + 1, 0, none⟩ = some (.int .i64 b.ab) := HK.out.cell 0
        have c1 : wr.cell? ⟨w.heap.size + 1, 1, none⟩ = some (.int .i64 b.be) := HK.out.cell 1
        have r0 : wr.cell? ⟨w.heap.size, 0, none⟩ = some (.int .i64 0) := HR.out.cell 0
        have r1 : wr.cell? ⟨w.heap.size, 1, none⟩ = some (.int .i64 0) := HR.out.cell 1
        have e0 := HR.out.frozen 0
        have e1 := HR.out.frozen 1
        have KF := (HR.out.set_ 0 (.int .i64 b.ab)).set_ 1 (.int .i64 b.be)
        have KF : Blk ((wr.setCell ⟨w.heap.size, 0, none⟩ (.int .i64 b.ab)).setCell ⟨w.heap.size, 1, none⟩ (.int .i64 b.be)) w.heap.size 39 #[.int .i64 b.ab, .int .i64 b.be] := by simpa using KF
        have BN := Lib.hid ((HBw.out.setCell (p := ⟨w.heap.size, 0, none⟩) (by simp only; omega) (.int .i64 b.ab)).setCell (p := ⟨w.heap.size, 1, none⟩) (by simp only; omega) (.int .i64 b.be))
        have s0 := KF.cell 0
        have s1 := KF.cell 1
        have s0 := Lib.hid s0
        have s1 := Lib.hid s1
        clear KF
        go_wp2
        have t0 := s0.out
        have t1 := s1.out
        exact bodyPost_ret (v := bxV b) (by simp [results, Try.results15, go_sem, t0, t1]) rfl ⟨by rw [← HFi.out], BN.out⟩
end Go.Proofs.Ytglomkpnbdnnoaa.Flex
