/- Chapter 2: UtfEncodes, walked. -/
import Derived.Test.YtbafdijklcoeoaaDoorUtfLaid
namespace Go.Proofs.YtbafdijklcoeoaaDoor.Utf
open Go.RowKit
set_option linter.unusedVariables false
set_option linter.unusedSimpArgs false

theorem encL_len (xs : List Int) : (encL xs).length ≤ 4 * xs.length := by rw [← encN_encL]; exact encN_len _ _
theorem encCh_at (xs : List Int) (p : Nat) (j : Nat) (x : Int) (h : xs[j]? = some x) : ∃ c, (encCh xs p)[j]? = some c ∧ c.r = fixR x := by
  have h1 := encCh_rs xs p
  have h2 : ((encCh xs p).map (·.r))[j]? = some (fixR x) := by rw [h1, List.getElem?_map, h]; rfl
  rw [List.getElem?_map] at h2
  obtain ⟨c, hc, hr⟩ := Option.map_eq_some_iff.1 h2
  exact ⟨c, hc, hr⟩
set_option maxHeartbeats 4000000 in
set_option maxRecDepth 100000 in
theorem UtfEncodes_any (A : Option Addr) (n c : Nat) (xs : List Int) (w : World) (hr : Reads w w.heap.size 1 A n (xs.map (Value.int .i32))) (hx : xs.length = n) (h0 : ∀ x ∈ xs, -2147483648 ≤ x ∧ x ≤ 2147483647) (hm : n ≤ 140737488351232) (hT : Tabs w) :
    Calls Tryd.prog 4 #[.slice A n c] w fun e w' => e = .returned (.bool true) ∧ Below w.heap.size w w' := by
  have HH := Lib.hid (fun (W : World) (h : Tabs W) => head_any W h h.three)
  have T0 := Lib.hid hT
  by_cases h : n ≤ 1000
  · have q1 : decide ((1000 : Int) < (n : Int)) = false := decide_eq_false (by omega)
    have q2 : ¬ (1000 < n) := by omega
    have nn : (n : Int) ≤ 1000 := by omega
    have le := encL_len xs
    have HR := Lib.hid hr
    have D1 := Lib.hid (fun (W : World) (hb : Below w.heap.size w W) => Encode_any A n c xs W ((hr.below hb).more hb.size) hx h0 (by omega))
    have D2 := Lib.hid (fun (W : World) (hb : Below w.heap.size w W) => refEncode_any A n c xs W ((hr.below hb).more hb.size) hx h0 (by omega))
    rw [← hx] at D2
    simp only [encN_encL] at D2
    rw [hx] at D2
    have D3 := Lib.hid (fun (W : World) (h : Tabs W) => Decode_cr (encL xs) (by omega) W h h.three n (encCh xs 0) (chs_encL xs 0) (by rw [encCh_len, hx]))
    have D4 := Lib.hid (fun (W : World) (h : Tabs W) => Valid_any (encL xs) (by omega) W h h.three)
    rw [chs_encL, show allOk (encCh xs 0) = true from encCh_ok xs 0] at D4
    have HX := Lib.hid hx
    have H0 := Lib.hid h0
    have HE := Lib.hid (fun j x (h : xs[j]? = some x) => encCh_at xs 0 j x h)
    generalize hcs : encCh xs 0 = cs at D3 HE
    simp only [strV] at D1 D2 D3 D4
    generalize (⟨(encL xs).toArray⟩ : ByteArray) = st at D1 D2 D3 D4
    clear hT h hm hx h0 hr le hcs
    go_enter Tryd.func4, Tryd.ntmps4
    go_wp2_with (first
      | (go_at_call 16; (with_reducible refine (D1.out _ (Below.refl _ _)).mono ?_); rintro e w1 ⟨rfl, b1⟩; have T1 := Lib.hid (T0.out.below b1); have B1 := Lib.hid b1; clear b1)
      | (go_at_call 10; (with_reducible refine (D3.out _ T1.out).mono ?_); rintro e w2 ⟨A1, c1, rfl, o1, b2⟩; have O1 := Lib.hid o1; have T2 := Lib.hid (T1.out.below b2); have B2 := Lib.hid (bel_trans B1.out b2); clear o1 b2)
      | (go_at_call 17; (with_reducible refine (D2.out _ B2.out).mono ?_); rintro e w3 ⟨rfl, b3⟩; have O3 := Lib.hid (own_below O1.out b3); have T3 := Lib.hid (T2.out.below b3); have B3 := Lib.hid (bel_trans B2.out b3); clear b3)
      | (go_at_call 14; (with_reducible refine (D4.out _ T3.out).mono ?_); rintro e w4 ⟨rfl, b4⟩; have O4 := Lib.hid (own_reads (own_below O3.out b4)); have T4 := Lib.hid (T3.out.below b4); have B4 := Lib.hid (bel_trans B3.out b4); clear b4))
    go_loopw [5, 6] (fun i x wr => ∃ j : Nat, i = .int .i64 j ∧ j ≤ n ∧ Hid (Reads wr wr.heap.size 5 A1 n (crL (cs.map toCr))) ∧ Hid (Tabs wr) ∧ Hid (Below w.heap.size w wr)) (fun i _ _ => n - (intOf i).toNat)
    case atStart => exact ⟨0, rfl, Nat.zero_le _, O4, T4, B4⟩
    case round =>
      obtain ⟨j, rfl, hj, O, T, B⟩ := hrel
      by_cases hlt : j < n
      · obtain ⟨ad, u, rfl, hb, hxu, hc⟩ := HR.out.at_ hlt
        rw [List.getElem?_map] at hxu
        obtain ⟨x, hxj, rfl⟩ := Option.map_eq_some_iff.1 hxu
        have c0 : wr.cell? (ad.add j) = some (.int .i32 x) := (B.out.cell (by rw [block_of_add]; exact hb)).trans hc
        obtain ⟨ad2, cr, rfl, _, hcr, cc⟩ := reads_cr O.out hlt
        obtain ⟨ch, hch, hrr⟩ := HE.out j x hxj
        rw [List.getElem?_map, hch] at hcr
        have e1 : cr.r = fixR x := by cases hcr; exact hrr
        have c1' := cc.c0
        rw [e1] at c1'
        have HP := Lib.hid (fun W => Point_any x W (H0.out x (List.mem_of_getElem? hxj)))
        have i1 : (j : Int) < (n : Int) := by omega
        clear hxu hc hxj hcr hch hrr e1 cc
        cases hp : pointB x with
        | true =>
          have e2 : fixR x = x := by unfold fixR; rw [if_pos hp]
          rw [e2] at c1'
          rw [hp] at HP
          have QX : (x != x) = false := by simp
          clear hp e2
          go_wp2_with (go_at_call 18; (with_reducible refine (HP.out _).mono ?_); rintro e w5 ⟨rfl, rfl⟩)
          go_roundw
          case rel => exact ⟨j + 1, by go_num, by omega, O, T, B⟩
          case measure => simp [intOf]; omega
        | false =>
          have e2 : fixR x = 65533 := by unfold fixR; rw [if_neg (by rw [hp]; simp)]
          rw [e2] at c1'
          rw [hp] at HP
          clear hp e2
          go_wp2_with (go_at_call 18; (with_reducible refine (HP.out _).mono ?_); rintro e w5 ⟨rfl, rfl⟩)
          go_roundw
          case rel => exact ⟨j + 1, by go_num, by omega, O, T, B⟩
          case measure => simp [intOf]; omega
      · obtain rfl : j = n := by omega
        go_wp2_with (go_at_call 9; (with_reducible refine (HH.out _ T.out).mono ?_); rintro e w7 ⟨rfl, b7⟩; have B7 := Lib.hid (bel_trans B.out b7); clear b7)
        go_ret
        exact ⟨rfl, B7.out⟩
  · have q1 : decide ((1000 : Int) < (n : Int)) = true := decide_eq_true (by omega)
    have q2 : 1000 < n := by omega
    clear hT hm h hr hx h0
    go_enter Tryd.func4, Tryd.ntmps4
    go_wp2_with (go_at_call 9; (with_reducible refine (HH.out _ T0.out).mono ?_); rintro e w7 ⟨rfl, b7⟩; have B7 := Lib.hid b7; clear b7)
    go_ret
    exact ⟨rfl, B7.out⟩
theorem wf_i32 {x : Int} (h : (Lit.int .i32 x).wf = true) : -2147483648 ≤ x ∧ x ≤ 2147483647 := by
  simp [Lit.wf, IntKind.min, IntKind.max, IntKind.bits, IntKind.signed] at h
  omega
end Go.Proofs.YtbafdijklcoeoaaDoor.Utf
