/- Chapter 23: the reference's share of a number, walked. No condition but bounds. -/
import Derived.Test.YtglomkpnbdnnoaaFlexX
import Derived.OwnWalk
namespace Go.Proofs.Ytglomkpnbdnnoaa.Flex
open Go.RowKit Go.Proofs.Ytglomkpnbdnnoaa.Unit Go.Proofs.Ytglomkpnbdnnoaa.Div
set_option linter.unusedVariables false
set_option linter.unusedSimpArgs false
attribute [local go_sem] max2_V max_two
theorem info_i64 : (Try.prog.info? 2).map (fun i => (i.zero, i.size, i.bytes)) = some (some (.int .i64 0), 1, 8) := by kernel_rfl
def posB (ws : List Int) : Bool := ws.any (fun x => decide (0 < x))
theorem any_drop {α : Type} (p : α → Bool) {l : List α} {j : Nat} {x : α} (h : l[j]? = some x) : (l.drop j).any p = (p x || (l.drop (j + 1)).any p) := by
  obtain ⟨hj, rfl⟩ := List.getElem?_eq_some_iff.1 h
  rw [List.drop_eq_getElem_cons hj, List.any_cons]
theorem take_map {α β : Type} (f : α → β) {l : List α} {j : Nat} {x : α} (h : l[j]? = some x) : (l.take (j + 1)).map f = (l.take j).map f ++ [f x] := by
  obtain ⟨hj, rfl⟩ := List.getElem?_eq_some_iff.1 h
  rw [List.take_succ_eq_append_getElem hj, List.map_append]
  rfl
theorem pos_sum {ws : List Int} (h : ∀ x ∈ ws, 0 ≤ x) : (posB ws = true ↔ 1 ≤ ws.sum) ∧ (posB ws = false ↔ ws.sum = 0) := by
  have h0 := sT_nonneg ws h ws.length
  rw [sT_all _ _ (Nat.le_refl _)] at h0
  have key : posB ws = false ↔ ws.sum = 0 := by
    unfold posB
    rw [List.any_eq_false]
    constructor
    · intro g
      have : ∀ x ∈ ws, 0 ≤ x ∧ x ≤ 0 := fun x hx => ⟨h x hx, by have := g x hx; simp at this; exact this⟩
      have := sum_bd ws 0 0 this
      omega
    · intro g x hx
      rw [sum_zero_all ws h g x hx]
      simp
  refine ⟨?_, key⟩
  cases hp : posB ws with
  | false => have := key.1 hp; simp; omega
  | true =>
    simp
    have : ¬ ws.sum = 0 := fun e => by rw [key.2 e] at hp; cases hp
    omega
set_option maxHeartbeats 8000000 in
theorem some_any (A : Option Addr) (n c : Nat) (ws : List Int) (hn : n ≤ 1000000) (B : Nat) (w : World) (hr : Reads w B 1 A n (ws.map (Value.int .i64))) (hB : B ≤ w.heap.size) :
    Calls Try.prog 29 #[.slice A n c] w fun e w' => e = .returned (.bool (posB ws)) ∧ Below w.heap.size w w' := by
  have HL := Lib.hid (len_int hr)
  have HR := Lib.hid hr
  have HBB := Lib.hid hB
  clear hr hB
  go_enter Try.func29, Try.ntmps29
  go_wp2
  go_loopw [3] (fun i wr => ∃ j : Nat, i = .int .i64 j ∧ j ≤ n ∧ Hid (posB ws = posB (ws.drop j)) ∧ Hid (Below w.heap.size w wr)) (fun i _ => n - (intOf i).toNat)
  case atStart => exact ⟨0, rfl, by omega, Lib.hid rfl, Lib.hid (Below.refl _ _)⟩
  case round =>
    obtain ⟨j, rfl, hj, HE, HD⟩ := hrel
    by_cases hlt : j < n
    · have q1 : decide ((j : Int) < (n : Int)) = true := decide_eq_true (by omega)
      have i0 : (0 : Int) ≤ (j : Int) := by omega
      have i1 : (j : Int) < (n : Int) := by omega
      obtain ⟨ad, x, rfl, _, hx, cx⟩ := reads_int (HR.out.below (show Below B w wr from HD.out.mono HBB.out)) hlt
      have HA := Lib.hid (show posB (ws.drop j) = (decide (0 < x) || posB (ws.drop (j + 1))) from any_drop _ hx)
      clear hx
      cases q2 : decide (0 < x) with
      | true =>
        go_wp2
        go_ret
        exact ⟨ret_bool (by rw [HE.out, HA.out, q2]; rfl), HD.out⟩
      | false =>
        go_wp2
        go_roundw
        case rel => exact ⟨j + 1, by go_num, by omega, Lib.hid (by rw [HE.out, HA.out, q2]; rfl), HD⟩
        case measure => simp [intOf]; omega
    · obtain rfl : n = j := by omega
      have q1 : decide ((n : Int) < (n : Int)) = false := decide_eq_false (by omega)
      have HF := Lib.hid (show posB (ws.drop n) = false by rw [List.drop_of_length_le (by rw [HL.out]; exact Nat.le_refl _)]; rfl)
      go_wp2
      go_ret
      exact ⟨ret_bool (by rw [HE.out, HF.out]), HD.out⟩
set_option maxHeartbeats 16000000 in
set_option maxRecDepth 100000 in
theorem rshare_own (n : Int) (n0 : 0 ≤ n) (n1 : n ≤ 70368744177664) (A : Option Addr) (k c : Nat) (ws : List Int) (hk : k ≤ 65536) (hw : ∀ x ∈ ws, 0 ≤ x ∧ x ≤ 70368744177664) (hs1 : 1 ≤ ws.sum) (B : Nat) (w : World) (hr : Reads w B 1 A k (ws.map (Value.int .i64))) (hB : B ≤ w.heap.size) :
    Calls Try.prog 30 #[.int .i64 n, .slice A k c] w fun e w' => (∃ A' c', e = .returned (.slice A' k c') ∧ w'.ownsRow w.heap.size 2 1 (.slice A' k c') k ((shareL n ws).map (Value.int .i64))) ∧ Below w.heap.size w w' := by
  have hl := len_int hr
  have HL := Lib.hid hl
  have HR := Lib.hid hr
  have HBB := Lib.hid hB
  have HW0 := Lib.hid (fun x hx => (hw x hx).1 : ∀ x ∈ ws, 0 ≤ x)
  have HSB := Lib.hid (fun (j : Nat) => (show 0 ≤ sT ws j ∧ sT ws j ≤ 4611686018427387904 by
    have := sT_bd ws j 70368744177664 (by omega) hw
    rw [hl] at this
    omega))
  have HAll := Lib.hid (sT_all ws k (by omega))
  have HS1 := Lib.hid hs1
  obtain ⟨i0, hi, hz0, hz1, hz2⟩ := info_parts info_i64
  have HI := Lib.hid hi
  have HZ0 := Lib.hid hz0
  have HZ1 := Lib.hid hz1
  have HZ2 := Lib.hid hz2
  clear hr hB hw hs1 hl hi hz0 hz1 hz2
  go_enter Try.func30, Try.ntmps30
  go_wp2
  go_loopw [5, 6] (fun s i wr => ∃ j : Nat, i = .int .i64 j ∧ j ≤ k ∧ s = .int .i64 (sT ws j) ∧ Hid (Below w.heap.size w wr)) (fun _ i _ => k - (intOf i).toNat)
  case atStart => exact ⟨0, rfl, by omega, rfl, Lib.hid (Below.refl _ _)⟩
  case round =>
    obtain ⟨j, rfl, hj, rfl, HD⟩ := hrel
    by_cases hlt : j < k
    · have q1 : decide ((j : Int) < (k : Int)) = true := decide_eq_true (by omega)
      have i0 : (0 : Int) ≤ (j : Int) := by omega
      have i1 : (j : Int) < (k : Int) := by omega
      obtain ⟨ad, x, rfl, _, hx, cx⟩ := reads_int (HR.out.below (show Below B w wr from HD.out.mono HBB.out)) hlt
      have hss := sT_succ ws j x hx
      have hb1 := HSB.out (j + 1)
      have HSS := Lib.hid hss
      rw [hss] at hb1
      have wS : IntKind.i64.wrap (sT ws j + x) = sT ws j + x := IntWalk.i64_in _ ⟨by omega, by omega⟩
      generalize sT ws j = s at wS HSS
      clear hx hss hb1
      go_wp2
      go_roundw
      case rel => exact ⟨j + 1, by go_num, by omega, by rw [HSS.out], HD⟩
      case measure => simp [intOf]; omega
    · obtain rfl : k = j := by omega
      have q1 : decide ((k : Int) < (k : Int)) = false := decide_eq_false (by omega)
      obtain ⟨W0, hW0⟩ : ∃ W0, W0 = wr := ⟨_, rfl⟩
      subst hW0
      rw [HAll.out]
      have HA2 := Lib.hid (show ws.sum ≤ 9223372036854775807 by have := (HSB.out k).2; rw [HAll.out] at this; omega)
      obtain ⟨all, hall⟩ : ∃ all, ws.sum = all := ⟨_, rfl⟩
      have HAl := Lib.hid hall
      rw [hall] at HS1 HA2 ⊢
      clear hall
      have HC0 := Lib.hid (cutN_zero n ws (by rw [HAl.out]; exact HS1.out))
      have c0 : (Value.int .i64 0) = .int .i64 (cutN n ws 0) := by rw [HC0.out]
      go_wp2
      go_loopw [7, 8, 9, 10, 11, 12] (fun out s l ix x y wr => ∃ (j : Nat) (A' : Option Addr) (c' : Nat), ix = .int .i64 j ∧ j ≤ k ∧ out = .slice A' j c' ∧ s = .int .i64 (sT ws j) ∧ l = .int .i64 (cutN n ws j) ∧ Hid (wr.ownsRow w.heap.size 2 1 (.slice A' j c') j (((shareL n ws).take j).map (Value.int .i64))) ∧ Hid (Below w.heap.size w wr)) (fun _ _ _ ix _ _ _ => k - (intOf ix).toNat)
      case atStart => exact ⟨0, none, 0, rfl, by omega, rfl, rfl, c0, Lib.hid (own_nil _ _ _ _), HD⟩
      case round =>
        clear c0 HC0 HD
        obtain ⟨j, A', c', rfl, hj, rfl, rfl, rfl, HO, HD⟩ := hrel
        by_cases hlt : j < k
        · have q2 : decide ((j : Int) < (k : Int)) = true := decide_eq_true (by omega)
          have i0' : (0 : Int) ≤ (j : Int) := by omega
          have i1 : (j : Int) < (k : Int) := by omega
          obtain ⟨ad, x, rfl, _, hx, cx⟩ := reads_int (HR.out.below (show Below B w wr from HD.out.mono HBB.out)) hlt
          have hjl : j < ws.length := by have := HL.out; omega
          have hss := sT_succ ws j x hx
          have hsh := shareL_at n ws j hjl
          have hb1 := HSB.out (j + 1)
          have hb2 := sT_le_sum ws HW0.out (j + 1)
          have hc1 := cutN_bd n ws n0 HW0.out (by rw [HAl.out]; exact HS1.out) (j + 1)
          have hc2 := cutN_bd n ws n0 HW0.out (by rw [HAl.out]; exact HS1.out) j
          have HSc := Lib.hid (show cR n (sT ws (j + 1)) all (cutN n ws (j + 1)) 0 from by
            have := (share_scale n (sT ws (j + 1)) all n0 n1 hb1.1 (by rw [← HAl.out]; exact hb2) HS1.out (by have := HA2.out; omega)).2
            unfold cutN
            rw [HAl.out]
            exact this)
          rw [hss] at HSc hb1
          have wS : IntKind.i64.wrap (sT ws j + x) = sT ws j + x := IntWalk.i64_in _ ⟨by omega, by omega⟩
          have HSS := Lib.hid hss
          obtain ⟨p, hp⟩ : ∃ p, cutN n ws j = p := ⟨_, rfl⟩
          obtain ⟨q, hq⟩ : ∃ q, cutN n ws (j + 1) = q := ⟨_, rfl⟩
          have wD : IntKind.i64.wrap (q - p) = q - p := by rw [hp] at hc2; rw [hq] at hc1; exact IntWalk.i64_in _ ⟨by omega, by omega⟩
          have HQ := Lib.hid hq
          have HT := Lib.hid (show ((shareL n ws).take (j + 1)).map (Value.int .i64) = ((shareL n ws).take j).map (Value.int .i64) ++ [Value.int .i64 (q - p)] by
            rw [take_map _ hsh]
            unfold shN
            rw [hp, hq])
          rw [hq] at HSc
          rw [hp]
          generalize sT ws j = s at wS HSS HSc ⊢
          clear hx hss hsh hb1 hb2 hc1 hc2 hp hq hjl
          go_wp2_with (first
            | (go_at_call 42; (with_reducible refine (HSc.out _).mono ?_); rintro e w1 ⟨rfl, b1⟩; have B1 := Lib.hid (bel_trans HD.out b1); have O1 := Lib.hid (own_below HO.out b1); clear b1)
            | (at_builtin; refine wpList_append_any _ rfl (.tmp 44) (.tmp 48) 24 rfl w.heap.size 2 i0 (.int .i64 0) 1 8 Try.underlying24 HI.out HZ0.out HZ1.out HZ2.out rfl (by decide) _ _ _ rfl (O1.out.alloc _) _ _ 1 1 [Value.int .i64 (q - p)] rfl (reads_new _ _ _ 1 _ rfl rfl) (by simp [Value.oneCell']) (by unfold maxLen; omega) (by omega) (by have := B1.out.size; simp; omega) ?_; intro v1 w3 hown3 hg3 hb3; obtain ⟨A1, c1, rfl⟩ := own_shape hown3; have O3 := Lib.hid hown3; have B3 := Lib.hid (bel_grown (bel_alloc B1.out (.cells #[Value.int .i64 (q - p)] 2)) (O1.out.alloc _) hg3); clear hown3 hg3 hb3))
          go_roundw
          case rel => exact ⟨j + 1, A1, c1, by go_num, by omega, rfl, by rw [HSS.out], by rw [HQ.out], by rw [HT.out]; exact O3, B3⟩
          case measure => simp [intOf]; omega
        · obtain rfl : k = j := by omega
          have q2 : decide ((k : Int) < (k : Int)) = false := decide_eq_false (by omega)
          have HT := Lib.hid (show (shareL n ws).take k = shareL n ws from List.take_of_length_le (by rw [shareL_len, HL.out]; exact Nat.le_refl _))
          go_wp2
          go_ret
          refine ⟨⟨A', c', rfl, ?_⟩, HD.out⟩
          have h := HO.out
          rw [HT.out] at h
          exact h
theorem rshare_any (n : Int) (n0 : 0 ≤ n) (n1 : n ≤ 70368744177664) (A : Option Addr) (k c : Nat) (ws : List Int) (hk : k ≤ 65536) (hw : ∀ x ∈ ws, 0 ≤ x ∧ x ≤ 70368744177664) (hs1 : 1 ≤ ws.sum) (B : Nat) (w : World) (hr : Reads w B 1 A k (ws.map (Value.int .i64))) (hB : B ≤ w.heap.size) :
    Calls Try.prog 30 #[.int .i64 n, .slice A k c] w fun e w' => (∃ A' c', e = .returned (.slice A' k c') ∧ Reads w' w'.heap.size 1 A' k ((shareL n ws).map (Value.int .i64))) ∧ Below w.heap.size w w' := by
  refine (rshare_own n n0 n1 A k c ws hk hw hs1 B w hr hB).mono ?_
  rintro e w' ⟨⟨A', c', rfl, h⟩, b⟩
  exact ⟨⟨A', c', rfl, own_reads h⟩, b⟩
set_option maxHeartbeats 16000000 in
set_option maxRecDepth 100000 in
theorem refShare_any (n : Int) (A : Option Addr) (k c : Nat) (ws : List Int) (hk : k ≤ 65536) (w : World) (hr : Reads w w.heap.size 1 A k (ws.map (Value.int .i64))) :
    Calls Try.prog 14 #[.int .i64 n, .slice A k c] w (PH w n ws) := by
  have hl := len_int hr
  have kk : (k : Int) ≤ 65536 := by omega
  have qk : decide ((65536 : Int) < (k : Int)) = false := decide_eq_false (by omega)
  by_cases h0 : n < 0
  · have q0 : decide (n < 0) = true := decide_eq_true h0
    have HN := Lib.hid (show ¬ (okH n ws = true ∧ ¬ ws.sum = 0) from fun h => by have := wiB_in (by have := h.1; unfold okH at this; simp only [Bool.and_eq_true] at this; exact this.1); omega)
    clear hr
    go_enter Try.func14, Try.ntmps14
    go_wp2
    go_ret2
    exact PH_no HN.out (Below.refl _ _)
  · have q0 : decide (n < 0) = false := decide_eq_false h0
    by_cases h1 : 70368744177664 < n
    · have q1 : decide (70368744177664 < n) = true := decide_eq_true h1
      have HN := Lib.hid (show ¬ (okH n ws = true ∧ ¬ ws.sum = 0) from fun h => by have := wiB_in (by have := h.1; unfold okH at this; simp only [Bool.and_eq_true] at this; exact this.1); omega)
      clear hr
      go_enter Try.func14, Try.ntmps14
      go_wp2
      go_ret2
      exact PH_no HN.out (Below.refl _ _)
    · have q1 : decide (70368744177664 < n) = false := decide_eq_false h1
      have HS := Lib.hid (some_any A k c ws (by omega) w.heap.size w hr (Nat.le_refl _))
      have hwi : wiB n 70368744177664 = true := by unfold wiB; simp; omega
      have hok : ∀ h : okH n ws = true, ∀ x ∈ ws, 0 ≤ x ∧ x ≤ 70368744177664 := fun h x hx => by
        unfold okH at h
        simp only [Bool.and_eq_true, Bool.not_eq_true', List.any_eq_false] at h
        have := h.2 x hx
        exact wiB_in (by simpa using this)
      cases hp : posB ws with
      | false =>
        rw [hp] at HS
        have HN := Lib.hid (show ¬ (okH n ws = true ∧ ¬ ws.sum = 0) from fun h => h.2 ((pos_sum (fun x hx => (hok h.1 x hx).1)).2.1 hp))
        clear hr
        go_enter Try.func14, Try.ntmps14
        go_wp2_with (go_at_call 29; (with_reducible refine HS.out.mono ?_); rintro e w1 ⟨rfl, b⟩; have B1 := Lib.hid b; clear b)
        go_ret2
        exact PH_no HN.out B1.out
      | true =>
        rw [hp] at HS
        have HR := Lib.hid hr
        have HL := Lib.hid hl
        have HOK := Lib.hid hok
        have HN := Lib.hid (show 0 ≤ n ∧ n ≤ 70368744177664 by omega)
        have HWi := Lib.hid hwi
        have HP := Lib.hid hp
        clear hr hl hok hwi hp h0 h1
        go_enter Try.func14, Try.ntmps14
        go_wp2_with (go_at_call 29; (with_reducible refine HS.out.mono ?_); rintro e w1 ⟨rfl, b⟩; have B1 := Lib.hid b; clear b)
        clear HS
        go_loopw [6] (fun i wr => ∃ j : Nat, i = .int .i64 j ∧ j ≤ k ∧ Hid (∀ (q : Nat) x, q < j → ws[q]? = some x → 0 ≤ x ∧ x ≤ 70368744177664) ∧ Hid (Below w.heap.size w wr)) (fun i _ => k - (intOf i).toNat)
        case atStart => exact ⟨0, rfl, by omega, Lib.hid (fun _ _ h => absurd h (by omega)), B1⟩
        case round =>
          clear B1
          obtain ⟨j, rfl, hj, HB, HD⟩ := hrel
          by_cases hlt : j < k
          · have q2 : decide ((j : Int) < (k : Int)) = true := decide_eq_true (by omega)
            have i0 : (0 : Int) ≤ (j : Int) := by omega
            have i1 : (j : Int) < (k : Int) := by omega
            obtain ⟨ad, x, rfl, _, hx, cx⟩ := reads_int (HR.out.below HD.out) hlt
            have HX := Lib.hid hx
            clear hx
            by_cases h2 : x < 0
            · have q3 : decide (x < 0) = true := decide_eq_true h2
              have HNo := Lib.hid (show ¬ (okH n ws = true ∧ ¬ ws.sum = 0) from fun h => by have := HOK.out h.1 x (List.mem_of_getElem? HX.out); omega)
              clear h2
              go_wp2
              go_ret2
              exact PH_no HNo.out HD.out
            · have q3 : decide (x < 0) = false := decide_eq_false h2
              by_cases h3 : 70368744177664 < x
              · have q4 : decide (70368744177664 < x) = true := decide_eq_true h3
                have HNo := Lib.hid (show ¬ (okH n ws = true ∧ ¬ ws.sum = 0) from fun h => by have := HOK.out h.1 x (List.mem_of_getElem? HX.out); omega)
                clear h2 h3
                go_wp2
                go_ret2
                exact PH_no HNo.out HD.out
              · have q4 : decide (70368744177664 < x) = false := decide_eq_false h3
                have HB2 := Lib.hid (show ∀ (q : Nat) (y : Int), q < j + 1 → ws[q]? = some y → 0 ≤ y ∧ y ≤ 70368744177664 from fun q y hq hy => by
                  rcases Nat.lt_succ_iff_lt_or_eq.1 hq with h | h
                  · exact HB.out q y h hy
                  · subst h
                    have hM := HX.out
                    rw [hM] at hy
                    injection hy with hy
                    omega)
                clear h2 h3
                go_wp2
                go_roundw
                case rel => exact ⟨j + 1, by go_num, by omega, HB2, HD⟩
                case measure => simp [intOf]; omega
          · obtain rfl : k = j := by omega
            have q2 : decide ((k : Int) < (k : Int)) = false := decide_eq_false (by omega)
            have hall : ∀ x ∈ ws, 0 ≤ x ∧ x ≤ 70368744177664 := fun x hx => by
              obtain ⟨q, hq⟩ := List.getElem?_of_mem hx
              exact HB.out q x (by have := (List.getElem?_eq_some_iff.1 hq).1; have := HL.out; omega) hq
            have hs1 := (pos_sum (fun x hx => (hall x hx).1)).1.1 HP.out
            have HY := Lib.hid (show okH n ws = true ∧ ¬ ws.sum = 0 from ⟨by
              unfold okH
              simp only [Bool.and_eq_true, Bool.not_eq_true', List.any_eq_false]
              refine ⟨HWi.out, fun x hx => ?_⟩
              have := hall x hx
              unfold wiB
              simp
              omega, by omega⟩)
            have HSh := Lib.hid (rshare_any n HN.out.1 HN.out.2 A k c ws hk hall hs1 w.heap.size wr (HR.out.below HD.out) HD.out.size)
            clear hall hs1 HB
            go_wp2_with (go_at_call 30; (with_reducible refine HSh.out.mono ?_); rintro e w5 ⟨⟨A5, c5, rfl, r⟩, b⟩; have R5 := Lib.hid r; have B5 := Lib.hid (bel_trans HD.out b); clear r b)
            go_ret2
            exact PH_yes HY.out HL.out R5.out B5.out
end Go.Proofs.Ytglomkpnbdnnoaa.Flex
