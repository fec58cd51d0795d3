/- Chapter 2: UtfBehind, walked. -/
import Derived.Test.YtbafdijklcoeoaaDoorUtfLd
namespace Go.Proofs.YtbafdijklcoeoaaDoor.Utf
open Go.RowKit
set_option linter.unusedVariables false
set_option linter.unusedSimpArgs false

theorem own_cap {w : World} {B n c size : Nat} {e : TypeId} {A : Option Addr} {xs : List Value} (h : w.ownsRow B e size (.slice A n c) n xs) : n ≤ c := by
  rcases h.2 with ⟨hv, h0⟩ | ⟨g, cap, cur, hv, _, _, hc, _⟩
  · omega
  · injection hv with _ _ e
    omega
theorem add_zero' (a : Addr) : a.add 0 = a := by simp [Addr.add]
theorem run_cut0 {P : Program} {t e : TypeId} (sz : Nat) (ht : P.underlying t = some (.slice e)) (hs : ∀ W, (sizeOf e).run P W = .ok sz W) (A : Option Addr) (n c k : Nat) (hk : k ≤ c) (W : World) :
    (Instr.slice t (.slice A n c) none (some (.int .i64 (k : Int))) none).run P W = .ok (.slice A k c) W := by
  have he : P.elem t = e := by simp [Program.elem, ht]
  rw [run_slice_h W t A n c (by rw [he]; exact ht) .i64 (k : Int) (by omega) (by omega), he, hs]
  cases A <;> simp [Result.andThen, sliced, add_zero']
theorem crL_take (xs ys : List Cr) : (crL (xs ++ ys)).take (xs.length * 5) = crL xs := by
  rw [crL_app, List.take_append_of_le_length (by rw [crL_len]; omega), List.take_of_length_le (by rw [crL_len]; omega)]
theorem reads_take {w : World} {B n m : Nat} {A : Option Addr} {xs ys : List Cr} (h : Reads w B 5 A n (crL (xs ++ ys))) (hm : xs.length = m) : Reads w B 5 A m (crL xs) := by
  have hl := h.1
  rw [crL_len, List.length_append] at hl
  refine ⟨by rw [crL_len, hm], fun h0 => ?_⟩
  obtain ⟨ad, e, hb, hc⟩ := h.2 (by omega)
  refine ⟨ad, e, hb, fun j u hu => hc j u ?_⟩
  rw [crL_app, List.getElem?_append_left (by exact (List.getElem?_eq_some_iff.1 hu).1)]
  exact hu
theorem chs_place (l : List UInt8) (p : Nat) : ∀ c ∈ chs l p, c.p ≤ p + l.length := by
  refine chs_induct (M := fun l p => ∀ c ∈ chs l p, c.p ≤ p + l.length) (fun p c h => by cases h) (fun l p hl ih => ?_) l p
  have h1 := nS_le hl
  rw [chs_cons hl]
  intro c hc
  rcases List.mem_cons.1 hc with rfl | hc
  · show p ≤ _
    omega
  · have := ih c hc
    rw [List.length_drop] at this
    omega
set_option maxHeartbeats 16000000 in
set_option maxRecDepth 100000 in
theorem UtfBehind_in (A : Option Addr) (m c : Nat) (xs : List Int) (l : List UInt8) (w : World) (hr : Reads w w.heap.size 1 A m (xs.map (Value.int .i32))) (hx : xs.length = m) (h0 : ∀ x ∈ xs, -2147483648 ≤ x ∧ x ≤ 2147483647) (hm : m ≤ 500) (hl : l.length ≤ 2000) (hT : Tabs w) :
    Calls Tryd.prog 6 #[.slice A m c, strV l] w fun e w' => e = .returned (.bool true) ∧ Below w.heap.size w w' := by
  have gl : (⟨l.toArray⟩ : ByteArray).size = l.length := rfl
  have HH := Lib.hid (fun (W : World) (h : Tabs W) => head_any W h h.three)
  have T0 := Lib.hid hT
  have q1 : decide ((500 : Int) < (m : Int)) = false := decide_eq_false (by omega)
  have q2 : ¬ (500 < m) := by omega
  have q3 : decide ((2000 : Int) < (l.length : Int)) = false := decide_eq_false (by omega)
  have q4 : ¬ (2000 < l.length) := by omega
  have le := encL_len xs
  obtain ⟨k, hk⟩ : ∃ k, (chs l 0).length = k := ⟨_, rfl⟩
  have lk : k ≤ 2000 := by have := chs_len l 0; omega
  obtain ⟨f, hf⟩ : ∃ f, encL xs = f := ⟨_, rfl⟩
  obtain ⟨d, hd⟩ : ∃ d, f.length = d := ⟨_, rfl⟩
  have ld : d ≤ 2000 := by rw [← hd, ← hf]; omega
  have hch : chs (f ++ l) 0 = encCh xs 0 ++ (chs l 0).map (shiftC d) := by
    rw [← hf, chs_enc, hf, hd, chs_shift]
  have hlen : (encCh xs 0 ++ (chs l 0).map (shiftC d)).length = m + k := by rw [List.length_append, encCh_len, List.length_map, hx, hk]
  have S1 := str_app f l
  have gf : (⟨f.toArray⟩ : ByteArray).size = d := hd
  have D1 := Lib.hid (Encode_any A m c xs w hr hx h0 (by omega))
  rw [hf] at D1
  have D2 := Lib.hid (fun (W : World) (h : Tabs W) => Decode_cr (f ++ l) (by rw [List.length_append]; omega) W h h.three (m + k) _ hch hlen)
  have D3 := Lib.hid (fun (W : World) (h : Tabs W) => Decode_cr f (by omega) W h h.three m (encCh xs 0) (by rw [← hf]; exact chs_encL xs 0) (by rw [encCh_len, hx]))
  have D4 := Lib.hid (fun (W : World) (h : Tabs W) => Decode_cr l (by omega) W h h.three k (chs l 0) rfl hk)
  have D5 := Lib.hid (fun (W : World) (h : Tabs W) => Valid_any (f ++ l) (by rw [List.length_append]; omega) W h h.three)
  have D6 := Lib.hid (fun (W : World) (h : Tabs W) => Valid_any l (by omega) W h h.three)
  have hok : allOk (chs (f ++ l) 0) = allOk (chs l 0) := by
    rw [hch]
    unfold allOk
    rw [List.all_append, encCh_ok, Bool.true_and, List.all_map]
    rfl
  rw [hok] at D5
  generalize allOk (chs l 0) = ok at D5 D6
  have OO : (ok == ok) = true := by simp
  have HS := Lib.hid (fun (A1 A2 : Option Addr) (c d : Nat) (W : World) (hr : Reads W W.heap.size 5 A1 m (crL ((encCh xs 0).map toCr))) (hs : Reads W W.heap.size 5 A2 m (crL ((encCh xs 0).map toCr))) => (same_any A1 A2 m m c d W.heap.size _ _ W (by rw [List.length_map, encCh_len, hx]) (by rw [List.length_map, encCh_len, hx]) hr hs (by omega) (by omega)).mono fun e w' h => (⟨by rw [h.1]; unfold sameCr; simp, h.2.below⟩ : e = .returned (.bool true) ∧ Below W.heap.size W w'))
  have HE := Lib.hid (show (encCh xs 0).length = m by rw [encCh_len, hx])
  rw [List.map_append] at D2
  have HTk := Lib.hid (fun (W : World) (B : Nat) (A1 : Option Addr) (h : Reads W B 5 A1 (m + k) (crL ((encCh xs 0).map toCr ++ ((chs l 0).map (shiftC d)).map toCr))) => reads_take h (by rw [List.length_map, encCh_len, hx] : ((encCh xs 0).map toCr).length = m))
  generalize hE : encCh xs 0 = cs at D2 D3 HS HE HTk
  have HPl := Lib.hid (fun c (h : c ∈ chs l 0) => (show c.p ≤ 2000 by have := chs_place l 0 c h; omega))
  generalize hC : chs l 0 = cl at HPl D2 D4 HTk
  have HCl := Lib.hid hk
  rw [hC] at HCl
  obtain ⟨N, hN⟩ : ∃ N, m + k = N := ⟨_, rfl⟩
  rw [hN] at D2 HTk
  have wmk : IntKind.i64.wrap ((m : Int) + (k : Int)) = (N : Int) := by rw [IntWalk.i64_in _ ⟨by omega, by omega⟩]; omega
  have HNN := Lib.hid hN
  have QQ : ((N : Int) != (N : Int)) = false := by simp
  have m0 : (m : Int) ≤ 500 := by omega
  have k0 : (k : Int) ≤ 2000 := by omega
  have d0 : (d : Int) ≤ 2000 := by omega
  clear hT hr hx h0 le hf hd hch hlen hk hok hE hC hN
  go_enter Tryd.func6, Tryd.ntmps6
  go_wp2_with (first
    | (go_at_call 16; (with_reducible refine (D1.out).mono ?_); rintro e w1 ⟨rfl, b1⟩; have T1 := Lib.hid (T0.out.below b1); have B1 := Lib.hid b1; clear b1)
    | (go_at_call 10; (with_reducible refine (D2.out _ T1.out).mono ?_); rintro e w2 ⟨A2, c2, rfl, o2, b2⟩; have T2 := Lib.hid (T1.out.below b2); have B2 := Lib.hid (bel_trans B1.out b2); have C2 := Lib.hid (own_cap o2); have R2 := Lib.hid (own_reads o2); clear o2 b2)
    | (go_at_call 10; (with_reducible refine (D3.out _ T2.out).mono ?_); rintro e w3 ⟨A3, c3, rfl, o3, b3⟩; have T3 := Lib.hid (T2.out.below b3); have B3 := Lib.hid (bel_trans B2.out b3); have R2' := Lib.hid ((R2.out.below b3).more b3.size); have R3 := Lib.hid (own_reads o3); clear o3 b3)
    | (go_at_call 10; (with_reducible refine (D4.out _ T3.out).mono ?_); rintro e w4 ⟨A4, c4, rfl, o4, b4⟩; have T4 := Lib.hid (T3.out.below b4); have B4 := Lib.hid (bel_trans B3.out b4); have R2'' := Lib.hid ((R2'.out.below b4).more b4.size); have R3' := Lib.hid ((R3.out.below b4).more b4.size); have R4 := Lib.hid (own_reads o4); clear o4 b4))
  go_loopw [9, 10] (fun i x wr => ∃ (j : Nat), i = .int .i64 j ∧ j ≤ k ∧ Hid (Below w4.heap.size w4 wr)) (fun i _ _ => k - (intOf i).toNat)
  case atStart => exact ⟨0, rfl, Nat.zero_le _, Lib.hid (Below.refl _ _)⟩
  case round =>
    obtain ⟨j, rfl, hj, HB⟩ := hrel
    by_cases hlt : j < k
    · obtain ⟨ad, cr, rfl, hb1, hcr, cc⟩ := reads_cr (R2''.out.below HB.out) (show m + j < N by have := HNN.out; omega)
      rw [List.getElem?_append_right (by rw [List.length_map, HE.out]; omega), List.length_map, HE.out, show m + j - m = j by omega, List.map_map, List.getElem?_map] at hcr
      obtain ⟨ch, hch, rfl⟩ := Option.map_eq_some_iff.1 hcr
      obtain ⟨ad2, cr2, rfl, hb2, hcr2, cc2⟩ := reads_cr (R4.out.below HB.out) hlt
      rw [List.getElem?_map, hch] at hcr2
      obtain rfl : cr2 = toCr ch := by cases hcr2; rfl
      obtain ⟨a0, a1, a2, a3, a4⟩ := cc
      have hp := HPl.out ch (List.mem_of_getElem? hch)
      have hb2' : ad2.block < wr.heap.size := Nat.lt_of_lt_of_le hb2 HB.out.size
      obtain ⟨r, p, n, kk⟩ := ch
      simp only [Function.comp, shiftC, toCr] at a0 a1 a2 a3 a4 cc2 hp
      obtain ⟨P, hP⟩ : ∃ P : Int, ((p + d : Nat) : Int) = P := ⟨_, rfl⟩
      obtain ⟨p', hp'⟩ : ∃ p' : Int, (p : Int) = p' := ⟨_, rfl⟩
      obtain ⟨n', hn'⟩ : ∃ n' : Int, (n : Int) = n' := ⟨_, rfl⟩
      have wP : IntKind.i64.wrap (P - (d : Int)) = p' := by rw [IntWalk.i64_in _ ⟨by omega, by omega⟩]; omega
      rw [hP] at a2
      rw [hn'] at a3
      rw [hp', hn'] at cc2
      have i1 : (m : Int) + (j : Int) < (N : Int) := by have := HNN.out; omega
      have i2 : (j : Int) < (k : Int) := by omega
      have wmj : IntKind.i64.wrap ((m : Int) + (j : Int)) = (m : Int) + (j : Int) := IntWalk.i64_in _ ⟨by omega, by omega⟩
      have HBx := Lib.hid (Blk.new wr 32 #[.int .i32 r, .int .i64 0, .int .i64 p', .int .i64 n', .int .u8 0])
      have HBl := Lib.hid (bel_alloc (Below.refl wr.heap.size wr) (.cells #[.int .i32 r, .int .i64 0, .int .i64 p', .int .i64 n', .int .u8 0] 32))
      have HC2 := Lib.hid cc2
      clear hcr hcr2 hch hP hp' hn' hp cc2
      go_upto_region 12 with fail
      generalize wr.alloc (.cells #[.int .i32 r, .int .i64 0, .int .i64 p', .int .i64 n', .int .u8 0] 32) = V at HBx HBl ⊢
      have e0 : V.cell? ⟨wr.heap.size, 0, none⟩ = some (.int .i32 r) := HBx.out.cell 0
      have e1 : V.cell? ⟨wr.heap.size, 1, none⟩ = some (.int .i64 0) := HBx.out.cell 1
      have e2 : V.cell? ⟨wr.heap.size, 2, none⟩ = some (.int .i64 p') := HBx.out.cell 2
      have e3 : V.cell? ⟨wr.heap.size, 3, none⟩ = some (.int .i64 n') := HBx.out.cell 3
      have e4 : V.cell? ⟨wr.heap.size, 4, none⟩ = some (.int .u8 0) := HBx.out.cell 4
      have g0 := (HBl.out.cell (by rw [block_of_add]; exact hb2')).trans HC2.out.c0
      have g1 := (HBl.out.cell (p := ⟨(ad2.add (j * 5)).block, (ad2.add (j * 5)).off + 1, none⟩) (by show (ad2.add (j * 5)).block < _; rw [block_of_add]; exact hb2')).trans HC2.out.c1
      have g2 := (HBl.out.cell (p := ⟨(ad2.add (j * 5)).block, (ad2.add (j * 5)).off + 2, none⟩) (by show (ad2.add (j * 5)).block < _; rw [block_of_add]; exact hb2')).trans HC2.out.c2
      have g3 := (HBl.out.cell (p := ⟨(ad2.add (j * 5)).block, (ad2.add (j * 5)).off + 3, none⟩) (by show (ad2.add (j * 5)).block < _; rw [block_of_add]; exact hb2')).trans HC2.out.c3
      have g4 := (HBl.out.cell (p := ⟨(ad2.add (j * 5)).block, (ad2.add (j * 5)).off + 4, none⟩) (by show (ad2.add (j * 5)).block < _; rw [block_of_add]; exact hb2')).trans HC2.out.c4
      simp only at g0 g1 g2 g3 g4
      go_quiet (fail)
      go_wp2
      go_roundw
      case rel => exact ⟨j + 1, by go_num, by omega, Lib.hid (bel_drewN (HB.out.trans (HBl.out.mono HB.out.size)) nq)⟩
      case measure => simp [intOf]; omega
    · obtain rfl : j = k := by omega
      have TW := Lib.hid (T4.out.below HB.out)
      have BW := Lib.hid (bel_trans B4.out HB.out)
      have RS := fun (W : World) => run_cut0 (P := Tryd.prog) 5 Tryd.underlying23 (fun _ => by kernel_rfl) A2 N c2 m (by have := C2.out; have := HNN.out; omega) W
      have Ra := Lib.hid (HTk.out wr wr.heap.size A2 ((R2''.out.below HB.out).more HB.out.size))
      have Rb := Lib.hid ((R3'.out.below HB.out).more HB.out.size)
      have mc : (m : Int) ≤ (c2 : Int) := by have := C2.out; have := HNN.out; omega
      go_wp2_with (first
        | (go_at_call 11; (with_reducible refine (HS.out _ _ _ _ _ Ra.out Rb.out).mono ?_); rintro e v1 ⟨rfl, b1⟩; have T5 := Lib.hid (TW.out.below b1); have B5 := Lib.hid (bel_trans BW.out b1); clear b1)
        | (go_at_call 14; (with_reducible refine (D5.out _ T5.out).mono ?_); rintro e v2 ⟨rfl, b2⟩; have T6 := Lib.hid (T5.out.below b2); have B6 := Lib.hid (bel_trans B5.out b2); clear b2)
        | (go_at_call 14; (with_reducible refine (D6.out _ T6.out).mono ?_); rintro e v3 ⟨rfl, b3⟩; have T7 := Lib.hid (T6.out.below b3); have B7 := Lib.hid (bel_trans B6.out b3); clear b3)
        | (go_at_call 9; (with_reducible refine (HH.out _ T7.out).mono ?_); rintro e v4 ⟨rfl, b4⟩; have B8 := Lib.hid (bel_trans B7.out b4); clear b4))
      go_ret
      exact ⟨rfl, B8.out⟩
theorem UtfBehind_row (A : Option Addr) (m c : Nat) (xs : List Int) (s : ByteArray) (w : World) (hr : Reads w w.heap.size 1 A m (xs.map (Value.int .i32))) (hx : xs.length = m) (h0 : ∀ x ∈ xs, -2147483648 ≤ x ∧ x ≤ 2147483647) (hm : m ≤ 140737488351232) (hs : s.size ≤ 140737488351232) (hL : laidMetH Tryd.prog laidU w) :
    Calls Tryd.prog 6 #[.slice A m c, .string s] w fun e w' => e = .returned (.bool true) ∧ Below w.heap.size w w' := by
  have hT := tabs_of_laid hL
  clear hL
  rw [← strV_of]
  obtain ⟨l, hl⟩ : ∃ l, s.data.toList = l := ⟨_, rfl⟩
  have hz : l.length ≤ 140737488351232 := by rw [← hl, Array.length_toList]; exact hs
  rw [hl]
  clear hl hs
  have gl : (⟨l.toArray⟩ : ByteArray).size = l.length := rfl
  have HH := Lib.hid (fun (W : World) (h : Tabs W) => head_any W h h.three)
  have T0 := Lib.hid hT
  by_cases h : m ≤ 500
  · by_cases h2 : l.length ≤ 2000
    · exact UtfBehind_in A m c xs l w hr hx h0 h h2 hT
    · have q1 : decide ((500 : Int) < (m : Int)) = false := decide_eq_false (by omega)
      have q2 : ¬ 500 < m := by omega
      have q3 : decide ((2000 : Int) < (l.length : Int)) = true := decide_eq_true (by omega)
      have q4 : 2000 < l.length := by omega
      clear hT h h2 hr hx h0
      go_enter Tryd.func6, Tryd.ntmps6
      go_wp2_with (go_at_call 9; (with_reducible refine (HH.out _ T0.out).mono ?_); rintro e w7 ⟨rfl, b7⟩; have B7 := Lib.hid b7; clear b7)
      go_ret
      exact ⟨rfl, B7.out⟩
  · have q1 : decide ((500 : Int) < (m : Int)) = true := decide_eq_true (by omega)
    have q2 : 500 < m := by omega
    clear hT h hr hx h0
    go_enter Tryd.func6, Tryd.ntmps6
    go_wp2_with (go_at_call 9; (with_reducible refine (HH.out _ T0.out).mono ?_); rintro e w7 ⟨rfl, b7⟩; have B7 := Lib.hid b7; clear b7)
    go_ret
    exact ⟨rfl, B7.out⟩
end Go.Proofs.YtbafdijklcoeoaaDoor.Utf
