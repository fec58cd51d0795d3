/- Chapter 8: the bytes that are kept, by the program and by the reference; walked. No condition but bounds. -/
import Derived.Test.YtmjacmjogckihaaWhiteQ
import Derived.Test.YtmjacmjogckihaaEnc
namespace Go.Proofs.Ytmjacmjogckihaa.White
open Go.RowKit Utf
set_option linter.unusedVariables false
set_option linter.unusedSimpArgs false
theorem isB_below {B b : Nat} {bs : List Value} {w w' : World} (h : Lib.IsBuilder 61 5 B b bs w) (hb : Below w.heap.size w w') : Lib.IsBuilder 61 5 B b bs w' := by
  rcases h with h | h
  · have hlt := h.lt
    obtain ⟨hB, v, hh, hown, hne⟩ := h
    exact .inl ⟨hB, v, (hb.block b hlt).trans hh, own_below hown hb, hne⟩
  · have hlt := h.lt
    obtain ⟨hB, v, hh, hown, hne⟩ := h
    exact .inr ⟨hB, v, (hb.block b hlt).trans hh, own_below hown hb, hne⟩
def keptR (c : Cr) : Int := if c.kind = 5 then 10 else if c.kind = 6 then 65532 else c.r
def keptL (cs : List Cr) : List UInt8 := encL (cs.map keptR)
/-- Runes that fit. -/
def Runes (cs : List Cr) : Prop := ∀ c, c ∈ cs → -2147483648 ≤ c.r ∧ c.r ≤ 2147483647
theorem keptR_in {c : Cr} (h : -2147483648 ≤ c.r ∧ c.r ≤ 2147483647) : -2147483648 ≤ keptR c ∧ keptR c ≤ 2147483647 := by
  unfold keptR
  split
  · omega
  · split <;> omega
set_option maxHeartbeats 4000000 in
set_option maxRecDepth 20000 in
theorem Kept_any (A : Option Addr) (n c : Nat) (cs : List Cr) (hn : n ≤ 1000000) (h0 : Runes cs) (w : World) (hr : Reads w w.heap.size 5 A n (crL cs)) :
    Calls Try.prog 15 #[.slice A n c] w fun e w' => e = .returned (strV (keptL cs)) ∧ Below w.heap.size w w' := by
  have HR := Lib.hid hr
  have HX := Lib.hid (len_cr hr)
  have H0 := Lib.hid h0
  have hn1 : (n : Int) ≤ 1000000 := by omega
  have HI := Lib.hid (isB_fresh w)
  have HB0 := Lib.hid (bel_alloc (Below.refl w.heap.size w) (.cells #[.pointer none, .slice none 0 0] 61))
  obtain ⟨xs, hxs⟩ : ∃ xs, cs.map keptR = xs := ⟨_, rfl⟩
  have HXS := Lib.hid hxs
  clear hr h0 hxs
  go_enter Try.func15, Try.ntmps15
  go_wp2_with (fail)
  go_loopw [5, 8] (fun r i wr => ∃ j : Nat, i = .int .i64 j ∧ j ≤ n ∧ Hid (Lib.IsBuilder 61 5 w.heap.size w.heap.size (Lib.byteCells (encN xs j)) wr) ∧ Hid (Below w.heap.size w wr)) (fun _ i _ => n - (intOf i).toNat)
  case atStart => exact ⟨0, rfl, Nat.zero_le _, HI, HB0⟩
  case round =>
    obtain ⟨j, rfl, hj, HI1, HB⟩ := hrel
    by_cases hlt : j < n
    · have g1 : decide ((j : Int) < (n : Int)) = true := decide_eq_true (by omega)
      obtain ⟨ad, m, rfl, hb, hm, cc⟩ := reads_cr HR.out hlt
      obtain ⟨c0, c1, c2, c3, c4⟩ := cell5_keep cc HB.out (by rw [block_of_add]; exact hb)
      have hxj : xs[j]? = some (keptR m) := by rw [← HXS.out, List.getElem?_map, hm]; rfl
      have HS := Lib.hid (encN_succ hxj)
      have hrm := keptR_in (H0.out m (List.mem_of_getElem? hm))
      have HW := Lib.hid (fun (V : World) (hV : Below wr.heap.size wr V) => WriteRune_any w.heap.size w.heap.size (Lib.byteCells (encN xs j)) (keptR m) hrm.1 hrm.2 V (isB_below HI1.out hV) (by rw [cells_len]; have := encN_len xs j; omega) (Nat.le_trans HB.out.size hV.size))
      rw [cells_one, ← cells_app, ← HS.out] at HW
      have HT := Lib.hid (fun (V : World) (hV : Below wr.heap.size wr V) => bel_trans HB.out hV)
      clear hm cc hxj hrm
      obtain ⟨r0, nd, p, n', kd⟩ := m
      simp only at c0 c1 c2 c3 c4
      by_cases h5 : kd = 5
      · subst h5
        rw [show keptR ⟨r0, nd, p, n', 5⟩ = 10 from rfl] at HW
        go_wp2_with (go_at_call 32; (refine (HW.out _ (by first | exact bel_alloc (Below.refl _ _) _ | exact (bel_alloc (Below.refl _ _) _).setCell (by simp) _)).mono ?_); rintro e w3 ⟨rfl, hi3, hb3⟩; have HI3 := Lib.hid hi3; have HB3 := Lib.hid ((HT.out _ (by first | exact bel_alloc (Below.refl _ _) _ | exact (bel_alloc (Below.refl _ _) _).setCell (by simp) _)).trans hb3); clear hb3 hi3)
        go_roundw
        case rel => exact ⟨j + 1, by go_num, by omega, HI3, HB3⟩
        case measure => simp [intOf] <;> omega
      · by_cases h6 : kd = 6
        · subst h6
          rw [show keptR ⟨r0, nd, p, n', 6⟩ = 65532 from rfl] at HW
          clear h5
          go_wp2_with (go_at_call 32; (refine (HW.out _ (by first | exact bel_alloc (Below.refl _ _) _ | exact (bel_alloc (Below.refl _ _) _).setCell (by simp) _)).mono ?_); rintro e w3 ⟨rfl, hi3, hb3⟩; have HI3 := Lib.hid hi3; have HB3 := Lib.hid ((HT.out _ (by first | exact bel_alloc (Below.refl _ _) _ | exact (bel_alloc (Below.refl _ _) _).setCell (by simp) _)).trans hb3); clear hb3 hi3)
          go_roundw
          case rel => exact ⟨j + 1, by go_num, by omega, HI3, HB3⟩
          case measure => simp [intOf] <;> omega
        · rw [show keptR ⟨r0, nd, p, n', kd⟩ = r0 by unfold keptR; rw [if_neg h5, if_neg h6]] at HW
          have k5 : (kd == 5) = false := by simpa using h5
          have k6 : (kd == 6) = false := by simpa using h6
          clear h5 h6
          go_wp2_with (go_at_call 32; (refine (HW.out _ (by first | exact bel_alloc (Below.refl _ _) _ | exact (bel_alloc (Below.refl _ _) _).setCell (by simp) _)).mono ?_); rintro e w3 ⟨rfl, hi3, hb3⟩; have HI3 := Lib.hid hi3; have HB3 := Lib.hid ((HT.out _ (by first | exact bel_alloc (Below.refl _ _) _ | exact (bel_alloc (Below.refl _ _) _).setCell (by simp) _)).trans hb3); clear hb3 hi3)
          go_roundw
          case rel => exact ⟨j + 1, by go_num, by omega, HI3, HB3⟩
          case measure => simp [intOf] <;> omega
    · obtain rfl : j = n := by omega
      have g1 : decide ((j : Int) < (j : Int)) = false := decide_eq_false (by omega)
      have HE := Lib.hid (show encN xs j = keptL cs by unfold keptL; rw [HXS.out, show j = xs.length by rw [← HXS.out, List.length_map, HX.out]]; exact encN_encL xs)
      rw [HE.out] at HI1
      have HW := Lib.hid (Try.Builder_String_any w.heap.size w.heap.size (keptL cs) wr HI1.out HB.out.size)
      go_wp2_with (go_at_call 33; refine HW.out.mono ?_; rintro e w3 ⟨rfl, hb3⟩; have HB3 := Lib.hid (HB.out.trans hb3); clear hb3)
      go_ret
      exact ⟨rfl, HB3.out⟩
theorem infoI32 : (Try.prog.info? 21).map (fun i => (i.zero, i.size, i.bytes)) = some (some (.int .i32 0), 1, 4) := by kernel_rfl
set_option maxHeartbeats 4000000 in
set_option maxRecDepth 20000 in
theorem refKept_any (A : Option Addr) (n c : Nat) (cs : List Cr) (hn : n ≤ 1000000) (h0 : Runes cs) (w : World) (hr : Reads w w.heap.size 5 A n (crL cs)) :
    Calls Try.prog 16 #[.slice A n c] w fun e w' => e = .returned (strV (keptL cs)) ∧ Below w.heap.size w w' := by
  have HR := Lib.hid hr
  have HX := Lib.hid (len_cr hr)
  have hn1 : (n : Int) ≤ 1000000 := by omega
  obtain ⟨xs, hxs⟩ : ∃ xs, cs.map keptR = xs := ⟨_, rfl⟩
  have HXS := Lib.hid hxs
  have HLX := Lib.hid (show xs.length = n by rw [← hxs, List.length_map, HX.out])
  have H0 := Lib.hid (show ∀ x ∈ xs, -2147483648 ≤ x ∧ x ≤ 2147483647 from fun x hx => by rw [← hxs] at hx; obtain ⟨m, hm, rfl⟩ := List.mem_map.1 hx; exact keptR_in (h0 m hm))
  obtain ⟨j0, hj, hy0, hy1, hy2⟩ := info_parts infoI32
  clear hr h0 hxs
  go_enter Try.func16, Try.ntmps16
  go_wp2_with (fail)
  go_loopw [3, 4, 5] (fun o i r wr => ∃ (k : Nat) (A0 : Option Addr) (c0' : Nat), i = .int .i64 k ∧ o = .slice A0 k c0' ∧ k ≤ n ∧ Hid (wr.ownsRow w.heap.size 21 1 (.slice A0 k c0') k ((xs.take k).map (Value.int .i32))) ∧ Hid (Below w.heap.size w wr)) (fun o i r _ => n - (intOf i).toNat)
  case atStart => exact ⟨0, none, 0, rfl, rfl, by omega, Lib.hid (own_nil _ _ _ _), Lib.hid (Below.refl _ _)⟩
  case round =>
    obtain ⟨k, A0, c0', rfl, rfl, hk, HO, HB⟩ := hrel
    by_cases hlt : k < n
    · have g1 : decide ((k : Int) < (n : Int)) = true := decide_eq_true (by omega)
      have g2 : (k : Int) < (n : Int) := by omega
      have g3 : (0 : Int) ≤ (k : Int) := by omega
      obtain ⟨ad, m, rfl, hb, hm, cc⟩ := reads_cr HR.out hlt
      obtain ⟨c0, c1, c2, c3, c4⟩ := cell5_keep cc HB.out (by rw [block_of_add]; exact hb)
      have hxj : xs[k]? = some (keptR m) := by rw [← HXS.out, List.getElem?_map, hm]; rfl
      have HT := Lib.hid (show (xs.take (k + 1)).map (Value.int .i32) = (xs.take k).map (Value.int .i32) ++ [.int .i32 (keptR m)] by obtain ⟨hl, hh⟩ := List.getElem?_eq_some_iff.1 hxj; rw [List.take_succ_eq_append_getElem hl, List.map_append, hh]; rfl)
      clear hm cc hxj
      obtain ⟨r0, nd, p, n', kd⟩ := m
      simp only at c0 c1 c2 c3 c4
      by_cases h5 : kd = 5
      · subst h5
        rw [show keptR ⟨r0, nd, p, n', 5⟩ = 10 from rfl] at HT
        go_wp2_with (at_builtin; refine wpList_append_own _ rfl (.tmp 29) (.tmp 31) 42 rfl w.heap.size 21 j0 (.int .i32 0) 1 4 Try.underlying42 hj hy0 hy1 hy2 rfl (by decide) (.slice A0 k c0') _ _ rfl (HO.out.alloc _) ⟨_, 0, none⟩ 1 1 [.int .i32 10] rfl rfl (cell_one_new _ _ _) (by simp [Value.oneCell']) ?d1 ?e1 ?f1 ?_)
        case d1 => unfold maxLen; omega
        case e1 => omega
        case f1 => have := HB.out.size; simp only [World.size_alloc]; omega
        intro v' w7 hown' hg _
        have hb7 := Lib.hid (bel_grown (bel_alloc HB.out _) (HO.out.alloc _) hg)
        obtain ⟨A', c', rfl⟩ := own_shape hown'
        have HO7 := Lib.hid hown'
        clear hown' hg
        go_wp2
        go_roundw
        case rel => exact ⟨k + 1, A', c', by go_num, rfl, by omega, Lib.hid (by rw [HT.out, List.map_take]; exact HO7.out), hb7⟩
        case measure => simp [intOf] <;> omega
      · have k5 : (kd == 5) = false := by simpa using h5
        by_cases h6 : kd = 6
        · subst h6
          rw [show keptR ⟨r0, nd, p, n', 6⟩ = 65532 from rfl] at HT
          clear h5
          go_wp2_with (at_builtin; refine wpList_append_own _ rfl (.tmp 29) (.tmp 31) 42 rfl w.heap.size 21 j0 (.int .i32 0) 1 4 Try.underlying42 hj hy0 hy1 hy2 rfl (by decide) (.slice A0 k c0') _ _ rfl (HO.out.alloc _) ⟨_, 0, none⟩ 1 1 [.int .i32 65532] rfl rfl (cell_one_new _ _ _) (by simp [Value.oneCell']) ?d2 ?e2 ?f2 ?_)
          case d2 => unfold maxLen; omega
          case e2 => omega
          case f2 => have := HB.out.size; simp only [World.size_alloc]; omega
          intro v' w7 hown' hg _
          have hb7 := Lib.hid (bel_grown (bel_alloc HB.out _) (HO.out.alloc _) hg)
          obtain ⟨A', c', rfl⟩ := own_shape hown'
          have HO7 := Lib.hid hown'
          clear hown' hg
          go_wp2
          go_roundw
          case rel => exact ⟨k + 1, A', c', by go_num, rfl, by omega, Lib.hid (by rw [HT.out, List.map_take]; exact HO7.out), hb7⟩
          case measure => simp [intOf] <;> omega
        · have k6 : (kd == 6) = false := by simpa using h6
          rw [show keptR ⟨r0, nd, p, n', kd⟩ = r0 by unfold keptR; rw [if_neg h5, if_neg h6]] at HT
          clear h5 h6
          go_wp2_with (at_builtin; refine wpList_append_own _ rfl (.tmp 29) (.tmp 31) 42 rfl w.heap.size 21 j0 (.int .i32 0) 1 4 Try.underlying42 hj hy0 hy1 hy2 rfl (by decide) (.slice A0 k c0') _ _ rfl (HO.out.alloc _) ⟨_, 0, none⟩ 1 1 [.int .i32 r0] rfl rfl (cell_one_new _ _ _) (by simp [Value.oneCell']) ?d3 ?e3 ?f3 ?_)
          case d3 => unfold maxLen; omega
          case e3 => omega
          case f3 => have := HB.out.size; simp only [World.size_alloc]; omega
          intro v' w7 hown' hg _
          have hb7 := Lib.hid (bel_grown (bel_alloc HB.out _) (HO.out.alloc _) hg)
          obtain ⟨A', c', rfl⟩ := own_shape hown'
          have HO7 := Lib.hid hown'
          clear hown' hg
          go_wp2
          go_roundw
          case rel => exact ⟨k + 1, A', c', by go_num, rfl, by omega, Lib.hid (by rw [HT.out, List.map_take]; exact HO7.out), hb7⟩
          case measure => simp [intOf] <;> omega
    · obtain rfl : k = n := by omega
      have g1 : decide ((k : Int) < (k : Int)) = false := decide_eq_false (by omega)
      have hO := own_reads HO.out
      rw [List.take_of_length_le (by rw [HLX.out]; omega)] at hO
      have HEn := Lib.hid (refEncode_any A0 k c0' xs wr hO HLX.out H0.out hn)
      have HEQ := Lib.hid (show keptL cs = encN xs k by unfold keptL; rw [HXS.out, ← encN_encL xs, HLX.out])
      clear hO
      go_wp2_with (go_at_call 34; refine HEn.out.mono ?_; rintro e w3 ⟨rfl, hb3⟩; have HB3 := Lib.hid (bel_trans HB.out hb3); clear hb3)
      go_ret
      exact ⟨by rw [HEQ.out]; rfl, HB3.out⟩
end Go.Proofs.Ytmjacmjogckihaa.White
