/- Chapter 23: a round of the reference's shrinking, walked. No condition but bounds. -/
import Derived.Test.YtglomkpnbdnnoaaFlexSk
namespace Go.Proofs.Ytglomkpnbdnnoaa.Flex
open Go.RowKit Go.Proofs.Ytglomkpnbdnnoaa.Unit Go.Proofs.Ytglomkpnbdnnoaa.Div
set_option linter.unusedVariables false
set_option linter.unusedSimpArgs false
attribute [local go_sem] max2_V max_two
def PK (w : World) (xs : List It) (room : Int) (fz : List Bool) (n : Nat) (e : Ending) (w' : World) : Prop := ∃ A1 c1 A2 c2, e = .returned (.tuple #[.slice A1 n c1, .slice A2 n c2, .bool (moB xs room fz)]) ∧ Reads w' w'.heap.size 1 A1 n ((yL xs room fz).map (Value.int .i64)) ∧ Reads w' w'.heap.size 1 A2 n ((nxL xs room fz).map Value.bool) ∧ Below w.heap.size w w'
theorem own_empty (W : World) (B : Nat) (hB : B ≤ W.heap.size) : (W.alloc (.cells #[] 4)).ownsRow B 4 1 (.slice (some ⟨W.heap.size, 0, none⟩) 0 0) 0 [] := by
  have h := made_own W 4 (.bool false) 0 (by omega)
  have e : madeCells #[Value.bool false] 0 = #[] := by simp [madeCells]
  rw [e] at h
  exact own_le h hB
/-- What a round's second loop keeps: the sizes, the frozen ones, the shares. -/
structure Tri (w : World) (g3 g4 : Nat) (V : World) (A1 : Option Addr) (c1 : Nat) (A5 : Option Addr) (c5 : Nat) (AP : Option Addr) (cP : Nat) (n : Nat) (ys : List Int) (fs : List Bool) (ps : List Int) : Prop where
  o : V.ownsRow w.heap.size 2 1 (.slice A1 n c1) n (ys.map (Value.int .i64))
  f : V.ownsRow g4 4 1 (.slice A5 n c5) n (fs.map Value.bool)
  p : V.ownsRow g3 2 1 (.slice AP n cP) n (ps.map (Value.int .i64))
  b : Below w.heap.size w V
  h1 : ∀ r, (Value.slice A1 n c1).ownBlock = some r → r < g3
  h2 : ∀ r, (Value.slice AP n cP).ownBlock = some r → r < g4
  g34 : g3 ≤ g4
  wg : w.heap.size ≤ g3
section
variable {w V V' : World} {g3 g4 c1 c5 cP n : Nat} {A1 A5 AP : Option Addr} {ys : List Int} {fs : List Bool} {ps : List Int}
theorem Tri.below (h : Tri w g3 g4 V A1 c1 A5 c5 AP cP n ys fs ps) (hb : Below V.heap.size V V') : Tri w g3 g4 V' A1 c1 A5 c5 AP cP n ys fs ps :=
  ⟨own_below h.o hb, own_below h.f hb, own_below h.p hb, bel_trans h.b hb, h.h1, h.h2, h.g34, h.wg⟩
theorem Tri.setO {ad : Addr} (h : Tri w g3 g4 V (some ad) c1 A5 c5 AP cP n ys fs ps) {k : Nat} (hk : k < n) (u : Int) : Tri w g3 g4 (V.setCell (ad.add k) (.int .i64 u)) (some ad) c1 A5 c5 AP cP n (ys.set k u) fs ps := by
  obtain ⟨ad', x, e, Y⟩ := own_cell h.o hk
  injection e with e
  subst e
  have hl : (ad.add k).block < g3 := h.h1 _ (by rw [block_of_add]; rfl)
  have := h.g34
  exact ⟨Y.put u, own_far h.f _ _ (by omega), own_far h.p _ _ hl, h.b.setCell Y.far _, h.h1, h.h2, h.g34, h.wg⟩
theorem Tri.setF {ad : Addr} (h : Tri w g3 g4 V A1 c1 (some ad) c5 AP cP n ys fs ps) {k : Nat} (hk : k < n) (u : Bool) : Tri w g3 g4 (V.setCell (ad.add k) (.bool u)) A1 c1 (some ad) c5 AP cP n ys (fs.set k u) ps := by
  obtain ⟨ad', x, e, Y⟩ := own_cell h.f hk
  injection e with e
  subst e
  have hg := h.g34
  have hw := h.wg
  have hf := Y.far
  exact ⟨own_row_far h.o _ _ (fun e => by have := h.h1 _ e; omega), Y.put u, own_row_far h.p _ _ (fun e => by have := h.h2 _ e; omega), h.b.setCell (by omega) _, h.h1, h.h2, h.g34, h.wg⟩
end
theorem one_bool (l : List Bool) : ∀ u ∈ l.map Value.bool, u.oneCell' = true := fun u hu => by
  obtain ⟨b, _, rfl⟩ := List.mem_map.1 hu
  rfl
set_option maxHeartbeats 16000000 in
set_option maxRecDepth 100000 in
theorem shrinks_any (A : Option Addr) (n c : Nat) (xs : List It) (hok : ∀ x ∈ xs, okI x) (hn : n ≤ 60) (room : Int) (r0 : 0 ≤ room) (r1 : room ≤ 1073741824) (AF : Option Addr) (cF : Nat) (fz : List Bool) (hf : fz.length = n) (w : World) (hr : Reads w w.heap.size 4 A n (itL xs)) (hF : Reads w w.heap.size 1 AF n (fz.map Value.bool)) :
    Calls Try.prog 31 #[.slice A n c, .int .i64 room, .slice AF n cF] w (PK w xs room fz n) := by
  have hl := len_it hr
  have nn : (n : Int) ≤ 60 := by omega
  have HOK := Lib.hid hok
  have HL := Lib.hid hl
  have HFL := Lib.hid hf
  have HR := Lib.hid hr
  have HF := Lib.hid hF
  have wN : IntKind.i64.wrap (-room) = -room := IntWalk.i64_in _ ⟨by omega, by omega⟩
  have HSB := Lib.hid (fun (j : Nat) => (show 0 ≤ sT (szL xs fz) j ∧ sT (szL xs fz) j ≤ 1099511627776 by
    have := sT_bd (szL xs fz) j 1073741824 (by omega) (szL_bd hok)
    rw [szL_len hl hf] at this
    omega))
  have HSA := Lib.hid (sT_all (szL xs fz) n (by rw [szL_len hl hf]; exact Nat.le_refl _))
  have hc0 : (Value.int .i64 (-room)) = .int .i64 (sT (szL xs fz) 0 - room) := by rw [sT_zero, Int.zero_sub]
  obtain ⟨i0, hi, hz0, hz1, hz2⟩ := info_parts info_i64
  have HI := Lib.hid hi
  have HZ0 := Lib.hid hz0
  have HZ1 := Lib.hid hz1
  have HZ2 := Lib.hid hz2
  clear hr hF hok hl hf hi hz0 hz1 hz2
  go_enter Try.func31, Try.ntmps31
  go_wp2
  go_loopw [9, 10, 11, 12] (fun o t v i wr => ∃ (j : Nat) (A1 : Option Addr) (c1 : Nat) (A2 : Option Addr) (c2 : Nat), i = .int .i64 j ∧ j ≤ n ∧ o = .slice A1 j c1 ∧ t = .slice A2 j c2 ∧ v = .int .i64 (sT (szL xs fz) j - room) ∧ Hid (Two w wr (.slice A1 j c1) (.slice A2 j c2) j j ((szL xs fz).take j) ((wtL xs fz).take j))) (fun _ _ _ i _ => n - (intOf i).toNat)
  case atStart => exact ⟨0, none, 0, none, 0, rfl, by omega, rfl, rfl, rfl, Lib.hid (Two.nil w)⟩
  case round =>
    clear hc0 wN
    obtain ⟨j, A1, c1, A2, c2, rfl, hj, rfl, rfl, rfl, HT⟩ := hrel
    by_cases hlt : j < n
    · have q1 : decide ((j : Int) < (n : Int)) = true := decide_eq_true (by omega)
      have i0' : (0 : Int) ≤ (j : Int) := by omega
      have i1 : (j : Int) < (n : Int) := by omega
      obtain ⟨ad, _, rfl, _, _, _⟩ := reads_it HR.out hlt
      obtain ⟨m, hm, _, hC⟩ := itsAt HR.out hlt
      obtain ⟨adF, b, rfl, _, hb, cb⟩ := reads_of (HF.out.below HT.out.b) hlt
      have HC := Lib.hid hC
      obtain ⟨c0, c1', c2', c3'⟩ := hC wr HT.out.b
      have hs := szL_at hm hb
      have hw := wtL_at hm hb
      have ho := HOK.out m (List.mem_of_getElem? hm)
      have hsb := szI_bd ho b
      have hwb := wtI_bd ho b
      have hS := HSB.out j
      have HSs := Lib.hid (sT_succ _ j _ hs)
      have wV : IntKind.i64.wrap (sT (szL xs fz) j - room + szI m b) = sT (szL xs fz) j - room + szI m b := IntWalk.i64_in _ ⟨by omega, by omega⟩
      have HTs := Lib.hid (take_add hs)
      have HTw := Lib.hid (take_add hw)
      have HAt := Lib.hid (show ((szL xs fz).take (j + 1))[j]? = some (szI m b) by rw [List.getElem?_take, if_pos (by omega)]; exact hs)
      have HWB := Lib.hid hwb
      clear hm hb hs hw ho hsb hwb hS hC
      generalize sT (szL xs fz) j = s at wV HSs ⊢
      obtain ⟨l1, hl1⟩ : ∃ l1, (szL xs fz).take (j + 1) = l1 := ⟨_, rfl⟩
      obtain ⟨l2, hl2⟩ : ∃ l2, (wtL xs fz).take (j + 1) = l2 := ⟨_, rfl⟩
      rw [hl1] at HTs HAt
      rw [hl2] at HTw
      have HL1 := Lib.hid hl1
      have HL2 := Lib.hid hl2
      clear hl1 hl2
      generalize (szL xs fz).take j = k1 at HTs HT
      generalize (wtL xs fz).take j = k2 at HTw HT
      cases b
      · have HFi := Lib.hid (fun V => rfirst_any m V)
        go_upto_region 10 with (first | (go_at_call 28; (with_reducible refine (HFi.out _).mono ?_); rintro e w1 ⟨rfl, b1⟩; have HT1 := Lib.hid (HT.out.below b1); clear b1) | (at_builtin; refine wpList_append_any _ rfl (.tmp 40) (.tmp 46) 24 rfl w.heap.size 2 i0 (.int .i64 0) 1 8 Try.underlying24 HI.out HZ0.out HZ1.out HZ2.out rfl (by decide) _ _ _ rfl (HT1.out.o1.alloc _) _ _ 1 1 [Value.int .i64 (fiI m)] rfl (reads_new _ _ _ 1 _ rfl rfl) (by simp [Value.oneCell']) (by unfold maxLen; omega) (by omega) (by have := HT1.out.b.size; simp; omega) ?_; intro v1 w3 hown3 hg3 hb3; obtain ⟨A3, c3, rfl⟩ := own_shape hown3; have T3 := Lib.hid ((HT1.out.below (bel_alloc (Below.refl _ _) (.cells #[Value.int .i64 (fiI m)] 2))).left hown3 hg3 hb3); clear hown3 hg3 hb3))
        obtain ⟨V, hV⟩ : ∃ V, w3.drew = V := ⟨_, rfl⟩
        have TV := Lib.hid (show Two w V _ _ _ _ _ _ from hV ▸ T3.out.below (Below.refl _ _).drew)
        have wM : IntKind.i64.wrap (m.shrink * m.base) = m.shrink * m.base := IntWalk.i64_in _ (by have h : 0 ≤ m.shrink * m.base ∧ m.shrink * m.base ≤ 1073741824000 := HWB.out; omega)
        refine wp_region_held_drew (S := fun U => U.cell? (ad.add (j * 4)) = some (.int .i64 m.base) ∧ U.cell? ⟨(ad.add (j * 4)).block, (ad.add (j * 4)).off + 3, none⟩ = some (.int .i64 m.shrink)) (by kernel_rfl) (by obtain ⟨g0, _, _, g3⟩ := HC.out _ (hV ▸ TV.out.b); exact ⟨g0, g3⟩) (fun hS => ?_)
        rw [hV] at hS ⊢
        refine wpAnyH_take (i := 0) (oi := _) (v := .slice A2 j c2) rfl (by kernel_rfl) (by kernel_rfl) (by kernel_rfl) (fun _ _ _ h => h) (Or.inl ⟨by rfl, ?_⟩) hS ?_
        · intro wz hz
          clear hz
          go_simp
        try simp only [List.getElem_toArray, List.getElem_cons_zero, List.getElem_cons_succ, Act.put, List.setIfInBounds_toArray, List.set_cons_zero, List.set_cons_succ]
        refine wpAnyH_take (i := 1) (oi := _) (v := .slice (some ad) n c) rfl (by kernel_rfl) (by kernel_rfl) (by kernel_rfl) (fun _ _ _ h => h) (Or.inl ⟨by rfl, ?_⟩) hS ?_
        · intro wz hz
          clear hz
          go_simp
        try simp only [List.getElem_toArray, List.getElem_cons_zero, List.getElem_cons_succ, Act.put, List.setIfInBounds_toArray, List.set_cons_zero, List.set_cons_succ]
        refine wpAnyH_take (i := 2) (oi := _) (v := .int .i64 (j : Int)) rfl (by kernel_rfl) (by kernel_rfl) (by kernel_rfl) (fun _ _ _ h => h) (Or.inl ⟨by rfl, ?_⟩) hS ?_
        · intro wz hz
          clear hz
          go_simp
        try simp only [List.getElem_toArray, List.getElem_cons_zero, List.getElem_cons_succ, Act.put, List.setIfInBounds_toArray, List.set_cons_zero, List.set_cons_succ]
        refine wpAnyH_take (i := 3) (oi := _) (v := .pointer (some (ad.add (j * 4)))) rfl (by kernel_rfl) (by kernel_rfl) (by kernel_rfl) (fun _ _ _ h => h) (Or.inl ⟨by rfl, ?_⟩) hS ?_
        · intro wz hz
          clear hz
          go_simp
        try simp only [List.getElem_toArray, List.getElem_cons_zero, List.getElem_cons_succ, Act.put, List.setIfInBounds_toArray, List.set_cons_zero, List.set_cons_succ]
        refine wpAnyH_take (i := 4) (oi := _) (v := .pointer (some ⟨(ad.add (j * 4)).block, (ad.add (j * 4)).off + 3, none⟩)) rfl (by kernel_rfl) (by kernel_rfl) (by kernel_rfl) (fun _ _ _ h => h) (Or.inl ⟨by rfl, ?_⟩) hS ?_
        · intro wz hz
          clear hz
          go_simp
        try simp only [List.getElem_toArray, List.getElem_cons_zero, List.getElem_cons_succ, Act.put, List.setIfInBounds_toArray, List.set_cons_zero, List.set_cons_succ]
        refine wpAnyH_take (i := 5) (oi := _) (v := .int .i64 m.shrink) rfl (by kernel_rfl) (by kernel_rfl) (by kernel_rfl) (fun _ _ _ h => h) (Or.inl ⟨by rfl, ?_⟩) hS ?_
        · intro wz hz
          obtain ⟨c0, c3⟩ := hz
          skip
          go_simp
        try simp only [List.getElem_toArray, List.getElem_cons_zero, List.getElem_cons_succ, Act.put, List.setIfInBounds_toArray, List.set_cons_zero, List.set_cons_succ]
        refine wpAnyH_take (i := 6) (oi := _) (v := .slice (some ad) n c) rfl (by kernel_rfl) (by kernel_rfl) (by kernel_rfl) (fun _ _ _ h => h) (Or.inl ⟨by rfl, ?_⟩) hS ?_
        · intro wz hz
          clear hz
          go_simp
        try simp only [List.getElem_toArray, List.getElem_cons_zero, List.getElem_cons_succ, Act.put, List.setIfInBounds_toArray, List.set_cons_zero, List.set_cons_succ]
        refine wpAnyH_take (i := 7) (oi := _) (v := .int .i64 (j : Int)) rfl (by kernel_rfl) (by kernel_rfl) (by kernel_rfl) (fun _ _ _ h => h) (Or.inl ⟨by rfl, ?_⟩) hS ?_
        · intro wz hz
          clear hz
          go_simp
        try simp only [List.getElem_toArray, List.getElem_cons_zero, List.getElem_cons_succ, Act.put, List.setIfInBounds_toArray, List.set_cons_zero, List.set_cons_succ]
        refine wpAnyH_take (i := 8) (oi := _) (v := .pointer (some (ad.add (j * 4)))) rfl (by kernel_rfl) (by kernel_rfl) (by kernel_rfl) (fun _ _ _ h => h) (Or.inl ⟨by rfl, ?_⟩) hS ?_
        · intro wz hz
          clear hz
          go_simp
        try simp only [List.getElem_toArray, List.getElem_cons_zero, List.getElem_cons_succ, Act.put, List.setIfInBounds_toArray, List.set_cons_zero, List.set_cons_succ]
        refine wpAnyH_take (i := 9) (oi := _) (v := .pointer (some (ad.add (j * 4)))) rfl (by kernel_rfl) (by kernel_rfl) (by kernel_rfl) (fun _ _ _ h => h) (Or.inl ⟨by rfl, ?_⟩) hS ?_
        · intro wz hz
          clear hz
          go_simp
        try simp only [List.getElem_toArray, List.getElem_cons_zero, List.getElem_cons_succ, Act.put, List.setIfInBounds_toArray, List.set_cons_zero, List.set_cons_succ]
        refine wpAnyH_take (i := 10) (oi := _) (v := .int .i64 m.base) rfl (by kernel_rfl) (by kernel_rfl) (by kernel_rfl) (fun _ _ _ h => h) (Or.inl ⟨by rfl, ?_⟩) hS ?_
        · intro wz hz
          obtain ⟨c0, c3⟩ := hz
          skip
          go_simp
        try simp only [List.getElem_toArray, List.getElem_cons_zero, List.getElem_cons_succ, Act.put, List.setIfInBounds_toArray, List.set_cons_zero, List.set_cons_succ]
        refine wpAnyH_take (i := 11) (oi := _) (v := .int .i64 (m.shrink * m.base)) rfl (by kernel_rfl) (by kernel_rfl) (by kernel_rfl) (fun _ _ _ h => h) (Or.inl ⟨by rfl, ?_⟩) hS ?_
        · intro wz hz
          clear hz
          go_simp
        try simp only [List.getElem_toArray, List.getElem_cons_zero, List.getElem_cons_succ, Act.put, List.setIfInBounds_toArray, List.set_cons_zero, List.set_cons_succ]
        refine wpAnyH_ready (rs := [12]) (by kernel_rfl) (by simp) ?_
        refine AllReadyH.cons rfl (fun K hK => ?_) ?_
        · skip
          rw [if_pos (by rfl)]
          go_simp
          have SV := Lib.hid (show (V.alloc (.cells #[.int .i64 (m.shrink * m.base)] 2)).cell? (ad.add (j * 4)) = some (.int .i64 m.base) ∧ (V.alloc (.cells #[.int .i64 (m.shrink * m.base)] 2)).cell? ⟨(ad.add (j * 4)).block, (ad.add (j * 4)).off + 3, none⟩ = some (.int .i64 m.shrink) by obtain ⟨g0, _, _, g3⟩ := HC.out _ (bel_alloc TV.out.b (.cells #[.int .i64 (m.shrink * m.base)] 2)); exact ⟨g0, g3⟩)
          refine hK.out _ _ SV.out (fun hS => ?_)
          clear hK K
          try simp only [List.getElem_toArray, List.getElem_cons_zero, List.getElem_cons_succ, Act.put, List.setIfInBounds_toArray, List.set_cons_zero, List.set_cons_succ]
          refine wpAnyH_ready (rs := [13]) (by kernel_rfl) (by simp) ?_
          refine AllReadyH.cons rfl (fun K hK => ?_) ?_
          · skip
            rw [if_pos (by rfl)]
            refine wp_append_any (V.alloc (.cells #[.int .i64 (m.shrink * m.base)] 2)) (.tmp 48) (.tmp 60) 24 rfl w.heap.size 2 i0 (.int .i64 0) 1 8 Try.underlying24 HI.out HZ0.out HZ1.out HZ2.out rfl (by decide) (.slice A2 j c2) j _ (by rfl) (TV.out.o2.alloc _) _ (some ⟨V.heap.size, 0, none⟩) 1 1 [Value.int .i64 (m.shrink * m.base)] (by rfl) (reads_new V 2 #[.int .i64 (m.shrink * m.base)] 1 _ rfl rfl) (by simp [Value.oneCell']) (by unfold maxLen; omega) (by omega) (by have := TV.out.b.size; simp; omega) ?_
            intro v1 w4 hown4 hg4 hb4
            obtain ⟨A4, c4, rfl⟩ := own_shape hown4
            have T4 := Lib.hid ((TV.out.below (bel_alloc (Below.refl _ _) (.cells #[.int .i64 (m.shrink * m.base)] 2))).right hown4 hg4 hb4)
            clear hown4 hg4 hb4
            refine hK.out _ _ (by obtain ⟨g0, _, _, g3⟩ := HC.out _ T4.out.b; exact ⟨g0, g3⟩) (fun hS => ?_)
            clear hK K
            try simp only [List.getElem_toArray, List.getElem_cons_zero, List.getElem_cons_succ, Act.put, List.setIfInBounds_toArray, List.set_cons_zero, List.set_cons_succ]
            refine wpAnyH_take (i := 14) (oi := _) (v := .slice A4 (j + 1) c4) rfl (by kernel_rfl) (by kernel_rfl) (by kernel_rfl) (fun _ _ _ h => h) (Or.inl ⟨by rfl, ?_⟩) hS ?_
            · intro wz hz
              clear hz
              go_simp
            try simp only [List.getElem_toArray, List.getElem_cons_zero, List.getElem_cons_succ, Act.put, List.setIfInBounds_toArray, List.set_cons_zero, List.set_cons_succ]
            refine wpAnyH_done (by kernel_rfl) ?_ _
            go_upto_region 11 with fail
            have T5 := Lib.hid (show Two w w4 (.slice A3 (j + 1) c3) (.slice A4 (j + 1) c4) (j + 1) (j + 1) l1 l2 by rw [HTs.out, HTw.out]; exact T4.out)
            clear T3 T4 HT c0 c1' c2' c3' cb
            obtain ⟨ad3, y, rfl, Y⟩ := own_cell T5.out.o1 (show j < j + 1 by omega)
            have hy := Y.at_
            rw [HAt.out] at hy
            injection hy with hy
            have d0 := Y.cell
            rw [← hy] at d0
            clear Y hy
            have i2 : (j : Int) < ((j + 1 : Nat) : Int) := by omega
            go_wp2
            go_roundw
            case rel => exact ⟨j + 1, some ad3, c3, A4, c4, by go_num, by omega, rfl, rfl, by rw [HSs.out]; congr 1; omega, by rw [HL1.out, HL2.out]; exact T5⟩
            case measure => simp [intOf]; omega
          exact AllReadyH.nil
        exact AllReadyH.nil
      · go_upto_region 8 with (at_builtin; refine wpList_append_any _ rfl (.tmp 29) (.tmp 35) 24 rfl w.heap.size 2 i0 (.int .i64 0) 1 8 Try.underlying24 HI.out HZ0.out HZ1.out HZ2.out rfl (by decide) _ _ _ rfl (HT.out.o1.alloc _) _ _ 1 1 [Value.int .i64 m.least] rfl (reads_new _ _ _ 1 _ rfl rfl) (by simp [Value.oneCell']) (by unfold maxLen; omega) (by omega) (by have := HT.out.b.size; simp; omega) ?_; intro v1 w3 hown3 hg3 hb3; obtain ⟨A3, c3, rfl⟩ := own_shape hown3; have T3 := Lib.hid ((HT.out.below (bel_alloc (Below.refl _ _) (.cells #[Value.int .i64 m.least] 2))).left hown3 hg3 hb3); clear hown3 hg3 hb3)
        go_upto_region 11 with (at_builtin; refine wpList_append_any _ rfl (.tmp 37) (.tmp 38) 24 rfl w.heap.size 2 i0 (.int .i64 0) 1 8 Try.underlying24 HI.out HZ0.out HZ1.out HZ2.out rfl (by decide) _ _ _ rfl (T3.out.o2.alloc _) _ _ 1 1 [Value.int .i64 0] rfl (reads_new _ _ _ 1 _ rfl rfl) (by simp [Value.oneCell']) (by unfold maxLen; omega) (by omega) (by have := T3.out.b.size; simp; omega) ?_; intro v1 w4 hown3 hg3 hb3; obtain ⟨A4, c4, rfl⟩ := own_shape hown3; have T4 := Lib.hid ((T3.out.below (bel_alloc (Below.refl _ _) (.cells #[Value.int .i64 0] 2))).right hown3 hg3 hb3); clear hown3 hg3 hb3)
        have T5 := Lib.hid (show Two w w4 (.slice A3 (j + 1) c3) (.slice A4 (j + 1) c4) (j + 1) (j + 1) l1 l2 by rw [HTs.out, HTw.out]; exact T4.out)
        clear T3 T4 HT c0 c1' c2' c3' cb
        obtain ⟨ad3, y, rfl, Y⟩ := own_cell T5.out.o1 (show j < j + 1 by omega)
        have hy := Y.at_
        rw [HAt.out] at hy
        injection hy with hy
        have d0 := Y.cell
        rw [← hy] at d0
        clear Y hy
        have i2 : (j : Int) < ((j + 1 : Nat) : Int) := by omega
        go_wp2
        go_roundw
        case rel => exact ⟨j + 1, some ad3, c3, A4, c4, by go_num, by omega, rfl, rfl, by rw [HSs.out]; congr 1; omega, by rw [HL1.out, HL2.out]; exact T5⟩
        case measure => simp [intOf]; omega
    · obtain rfl : n = j := by omega
      have q1 : decide ((n : Int) < (n : Int)) = false := decide_eq_false (by omega)
      rw [HSA.out]
      have hlt1 := List.take_of_length_le (l := szL xs fz) (i := n) (by rw [szL_len HL.out HFL.out]; exact Nat.le_refl _)
      have hlt2 := List.take_of_length_le (l := wtL xs fz) (i := n) (by rw [wtL_len HL.out HFL.out]; exact Nat.le_refl _)
      rw [hlt1, hlt2] at HT
      clear hlt1 hlt2 hlt hj
      have HOv := Lib.hid (show (szL xs fz).sum - room = ovN xs room fz from rfl)
      have hob := HSB.out n
      rw [HSA.out] at hob
      obtain ⟨ov, hov⟩ : ∃ ov, (szL xs fz).sum - room = ov := ⟨_, rfl⟩
      have hvb : ov ≤ 1099511627776 := by omega
      rw [hov] at HOv ⊢
      clear hob hov HSB HSA
      obtain ⟨W0, hW0⟩ : ∃ W0, W0 = wr := ⟨_, rfl⟩
      subst hW0
      have HSo := Lib.hid (some_any A2 n c2 (wtL xs fz) (by omega) W0.heap.size W0 (own_reads HT.out.o2) (Nat.le_refl _))
      have hw0 : ∀ x ∈ wtL xs fz, 0 ≤ x := fun x hx => (wtL_bd HOK.out x hx).1
      have hps := pos_sum hw0
      cases hp : posB (wtL xs fz) with
      | false =>
        rw [hp] at HSo
        have HCa := Lib.hid (calm (room := room) HOK.out HL.out HFL.out (.inl (hps.2.1 hp)))
        clear hw0 hps hp
        go_wp2_with (go_at_call 29; (with_reducible refine HSo.out.mono ?_); rintro e w3 ⟨rfl, bb⟩; have T3 := Lib.hid (HT.out.below bb); clear bb)
        go_ret3
        exact ⟨A1, c1, AF, cF, (by rw [HCa.out.2.1]; first | done | rfl), by rw [HCa.out.1]; exact own_reads T3.out.o1, by rw [HCa.out.2.2]; exact (HF.out.below T3.out.b).more T3.out.b.size, T3.out.b⟩
      | true =>
        rw [hp] at HSo
        have hs1 := hps.1.1 hp
        by_cases hov : ov ≤ 0
        · have q2 : decide (ov ≤ 0) = true := decide_eq_true hov
          have HCa := Lib.hid (calm (room := room) HOK.out HL.out HFL.out (.inr (by rw [← HOv.out]; exact hov)))
          clear hw0 hps hp hs1 hov
          go_wp2_with (go_at_call 29; (with_reducible refine HSo.out.mono ?_); rintro e w3 ⟨rfl, bb⟩; have T3 := Lib.hid (HT.out.below bb); clear bb)
          go_ret3
          exact ⟨A1, c1, AF, cF, (by rw [HCa.out.2.1]; first | done | rfl), by rw [HCa.out.1]; exact own_reads T3.out.o1, by rw [HCa.out.2.2]; exact (HF.out.below T3.out.b).more T3.out.b.size, T3.out.b⟩
        · have q2 : decide (ov ≤ 0) = false := decide_eq_false hov
          have HNZ := Lib.hid (show ¬ (wtL xs fz).sum = 0 by omega)
          have HSh := Lib.hid (fun (V : World) (h : Two w V (.slice A1 n c1) (.slice A2 n c2) n n (szL xs fz) (wtL xs fz)) => rshare_own ov (by omega) (by omega) A2 n c2 (wtL xs fz) (by omega) (fun x hx => by have := wtL_bd HOK.out x hx; omega) hs1 V.heap.size V (own_reads h.o2) (Nat.le_refl _))
          have HPt := Lib.hid (show shareL ov (wtL xs fz) = ptL xs room fz by
            unfold ptL
            rw [← HOv.out]
            have : mxV ov 0 = ov := by unfold mxV; rw [if_neg (by omega)]
            rw [this])
          rw [HPt.out] at HSh
          have HPB := Lib.hid (show ∀ p ∈ ptL xs room fz, 0 ≤ p ∧ p ≤ 1099511627776 from fun p hp => by
            rw [← HPt.out] at hp
            have := shareL_bd ov (wtL xs fz) (by omega) hw0 hs1 p hp
            omega)
          clear hw0 hps hp hs1 hov HPt
          go_upto_region 15 with (first
            | (go_at_call 29; (with_reducible refine HSo.out.mono ?_); rintro e w3 ⟨rfl, bb⟩; have T3 := Lib.hid (HT.out.below bb); clear bb)
            | (go_at_call 30; (with_reducible refine (HSh.out w3 T3.out).mono ?_); rintro e w4 ⟨⟨AP, cP, rfl, op⟩, bb⟩; have T4 := Lib.hid (T3.out.below bb); have P4 := Lib.hid op; have S34' := Lib.hid (show w3.heap.size ≤ w4.heap.size from bb.size); have NE1 := Lib.hid (fun r (h : (Value.slice A1 n c1).ownBlock = some r) => (T3.out.o1.lt r h).2); clear bb op))
          obtain ⟨j0, hj, hy0, hy1, hy2⟩ := info_parts A_bool
          have E4 := Lib.hid (own_empty w4 w4.heap.size (Nat.le_refl _))
          have BE := Lib.hid (bel_alloc (Below.refl w4.heap.size w4) (.cells #[] 4))
          have NE2 := Lib.hid (fun r (h : (Value.slice AP n cP).ownBlock = some r) => (P4.out.lt r h).2)
          have S34 := Lib.hid (show w3.heap.size ≤ w4.heap.size from S34'.out)
          go_upto_region 16 with (at_builtin; refine wpList_append_any _ rfl (.tmp 80) (.tmp 81) 58 rfl w4.heap.size 4 j0 (.bool false) 1 1 Try.underlying58 hj hy0 hy1 hy2 rfl (by decide) (.slice (some ⟨w4.heap.size, 0, none⟩) 0 0) 0 [] rfl E4.out w.heap.size AF n cF (fz.map Value.bool) rfl (HF.out.below (bel_trans T4.out.b BE.out)) (one_bool _) (by unfold maxLen; omega) (by omega) (by simp) ?_; intro v1 w5 hown5 hg5 hb5; rw [Nat.zero_add, List.nil_append] at hown5; obtain ⟨A5, c5, rfl⟩ := own_shape hown5; have N5 := Lib.hid hown5; have B45 := Lib.hid (bel_grown BE.out E4.out hg5); clear hown5 hg5 hb5)
          have TR := Lib.hid (show Tri w w3.heap.size w4.heap.size w5 A1 c1 A5 c5 AP cP n (mixI (yL xs room fz) (szL xs fz) 0) (mixG (nxL xs room fz) fz 0) (ptL xs room fz) from
            ⟨by rw [mixI_zero]; exact own_below T4.out.o1 B45.out, by rw [mixG_zero]; exact N5.out, own_below P4.out B45.out, bel_trans T4.out.b B45.out, NE1.out, NE2.out, S34.out, T3.out.b.size⟩)
          clear T3 T4 P4 E4 BE NE1 NE2 S34 S34' N5 B45 HSh HSo HT hj hy0 hy1 hy2
          generalize w3.heap.size = g3 at TR
          generalize w4.heap.size = g4 at TR
          go_wp2
          go_loopw [15, 16] (fun mo i wr => ∃ j : Nat, i = .int .i64 j ∧ j ≤ n ∧ mo = .bool (((loL xs room fz).take j).any id) ∧ Hid (Tri w g3 g4 wr A1 c1 A5 c5 AP cP n (mixI (yL xs room fz) (szL xs fz) j) (mixG (nxL xs room fz) fz j) (ptL xs room fz))) (fun _ i _ => n - (intOf i).toNat)
          case atStart => exact ⟨0, rfl, by omega, rfl, TR⟩
          case round =>
            clear TR
            obtain ⟨j, rfl, hj, rfl, HT⟩ := hrel
            by_cases hlt : j < n
            · have q3 : decide ((j : Int) < (n : Int)) = true := decide_eq_true (by omega)
              have i0' : (0 : Int) ≤ (j : Int) := by omega
              have i1 : (j : Int) < (n : Int) := by omega
              obtain ⟨ad, _, rfl, _, _, _⟩ := reads_it HR.out hlt
              obtain ⟨m, hm, _, hC⟩ := itsAt HR.out hlt
              obtain ⟨adF, b, rfl, hbF, hb, _⟩ := reads_of (HF.out.below HT.out.b) hlt
              obtain ⟨adO, y1, rfl, Y1⟩ := own_cell HT.out.o hlt
              obtain ⟨adN, y2, rfl, Y2⟩ := own_cell HT.out.f hlt
              obtain ⟨adP, y3, rfl, Y3⟩ := own_cell HT.out.p hlt
              obtain ⟨p, hp, hp0, hy, hlo, hnx⟩ := busy_at (room := room) HOK.out HL.out HFL.out HNZ.out hm hb
              have hsz := szL_at hm hb
              have e3 : y3 = p := by have := Y3.at_; rw [hp] at this; injection this with this; exact this.symm
              have hyl := yL_len (room := room) HL.out HFL.out
              have hnl := nxL_len (room := room) HL.out HFL.out
              have e1 : y1 = szI m b := by
                have := Y1.at_
                rw [mixI_at _ _ j (szI m b) (by omega) hsz] at this
                injection this with this
                exact this.symm
              have hpb := HPB.out p (List.mem_of_getElem? hp)
              have hsb := szI_bd (HOK.out m (List.mem_of_getElem? hm)) b
              have HCe := Lib.hid (fun (V : World) (fs : List Bool) (h : Tri w g3 g4 V (some adO) c1 (some adN) c5 (some adP) cP n (mixI (yL xs room fz) (szL xs fz) j) fs (ptL xs room fz)) => (show Cell4 V (ad.add (j * 4)) m ∧ V.cell? (adF.add j) = some (.bool b) ∧ V.cell? (adO.add j) = some (.int .i64 (szI m b)) ∧ V.frozen? (adO.add j) = false ∧ V.cell? (adP.add j) = some (.int .i64 p) ∧ (∃ z, V.cell? (adN.add j) = some (.bool z)) ∧ V.frozen? (adN.add j) = false from by
                obtain ⟨_, b', ef, _, hb', cb⟩ := reads_of (HF.out.below h.b) hlt
                injection ef with ef
                subst ef
                rw [hb] at hb'
                injection hb' with hb'
                obtain ⟨_, z1, f1, Z1⟩ := own_cell h.o hlt
                injection f1 with f1
                subst f1
                obtain ⟨_, z2, f2, Z2⟩ := own_cell h.f hlt
                injection f2 with f2
                subst f2
                obtain ⟨_, z3, f3, Z3⟩ := own_cell h.p hlt
                injection f3 with f3
                subst f3
                have k1 := Z1.at_
                rw [mixI_at _ _ j (szI m b) (by omega) hsz] at k1
                injection k1 with k1
                have k3 := Z3.at_
                rw [hp] at k3
                injection k3 with k3
                exact ⟨hC V h.b, by rw [hb']; exact cb, by rw [k1]; exact Z1.cell, Z1.free, by rw [k3]; exact Z3.cell, ⟨z2, Z2.cell⟩, Z2.free⟩))
              have HLs := Lib.hid (any_step _ j _ hlo)
              have HYs := Lib.hid (fun h => mixI_set (yL xs room fz) (szL xs fz) j _ hy h)
              have HYe := Lib.hid (fun h => mixI_same (yL xs room fz) (szL xs fz) j _ hy h)
              have HNs := Lib.hid (fun h => mixG_set (nxL xs room fz) fz j _ hnx h)
              have HNe := Lib.hid (fun h => mixG_same (nxL xs room fz) fz j _ hnx h)
              have HSl := Lib.hid (show j < (szL xs fz).length by rw [szL_len HL.out HFL.out]; exact hlt)
              have HFl := Lib.hid (show j < fz.length by rw [HFL.out]; exact hlt)
              have HSz := Lib.hid hsz
              have HBb := Lib.hid hb
              obtain ⟨⟨c0, c1', c2', c3'⟩, cb, co, fo, cp, _, _⟩ := HCe.out wr _ HT.out
              clear hm hC hbF hb Y1 Y2 Y3 hp hy hlo hnx hsz e1 e3 hyl hnl HNZ HPB
              generalize ((loL xs room fz).take j).any id = mo at HLs ⊢
              cases b
              · have wD : IntKind.i64.wrap (szI m false - p) = szI m false - p := IntWalk.i64_in _ ⟨by omega, by omega⟩
                obtain ⟨sz, hsz⟩ : ∃ sz, szI m false = sz := ⟨_, rfl⟩
                rw [hsz] at wD HLs HYs HYe HNs HNe HSz co HCe
                clear hsb hpb hp0 hsz
                go_upto_region 20 with fail
                go_quiet (fail)
                have T5 := Lib.hid (HT.out.below (bel_drewN (Below.refl wr.heap.size wr) nq))
                generalize wr.drewN nq = W5 at T5 ⊢
                clear c0 c1' c2' c3' cb co fo cp HT
                obtain ⟨lo, hlo⟩ : ∃ lo, decide (sz - p < m.least) = lo := ⟨_, rfl⟩
                simp only [hlo]
                rw [hlo] at HLs HNs HNe
                clear hlo
                obtain ⟨⟨c0, c1', c2', c3'⟩, cb, co, fo, cp, ⟨z, cn⟩, fn⟩ := HCe.out W5 _ T5.out
                cases lo
                · have T6 := Lib.hid (show Tri w g3 g4 W5 (some adO) c1 (some adN) c5 (some adP) cP n (mixI (yL xs room fz) (szL xs fz) j) (mixG (nxL xs room fz) fz (j + 1)) (ptL xs room fz) by
                    rw [HNe.out HBb.out]; exact T5.out)
                  clear cn fn HCe T5
                  go_upto_region 24 with fail
                  go_still_tail 12, (by kernel_rfl)
                  change wpList _ _ _ _ _ W5.drew
                  have T7 := Lib.hid ((T6.out.below (Below.refl _ _).drew).setO hlt (sz - p))
                  rw [HYs.out HSl.out] at T7
                  go_wp2
                  go_roundw
                  case rel => exact ⟨j + 1, by go_num, by omega, by rw [HLs.out]; cases mo <;> rfl, T7⟩
                  case measure => simp [intOf]; omega
                · go_upto_region 23 with fail
                  have T6 := Lib.hid (T5.out.setF hlt true)
                  have T6 := Lib.hid (show Tri w g3 g4 (W5.setCell (adN.add j) (.bool true)) (some adO) c1 (some adN) c5 (some adP) cP n (mixI (yL xs room fz) (szL xs fz) j) (mixG (nxL xs room fz) fz (j + 1)) (ptL xs room fz) by
                    have h := T6.out
                    have e := HNs.out HFl.out
                    rw [Bool.false_or] at e
                    rwa [e] at h)
                  clear c0 c1' c2' c3' cb co fo cp cn fn T5
                  generalize W5.setCell (adN.add j) (.bool true) = W6 at T6 ⊢
                  obtain ⟨⟨c0, c1', c2', c3'⟩, cb, co, fo, cp, _, _⟩ := HCe.out W6 _ T6.out
                  clear HCe
                  go_upto_region 24 with fail
                  go_still_tail 12, (by kernel_rfl)
                  change wpList _ _ _ _ _ W6.drew
                  have T7 := Lib.hid ((T6.out.below (Below.refl _ _).drew).setO hlt (sz - p))
                  rw [HYs.out HSl.out] at T7
                  go_wp2
                  go_roundw
                  case rel => exact ⟨j + 1, by go_num, by omega, by rw [HLs.out]; cases mo <;> rfl, T7⟩
                  case measure => simp [intOf]; omega
              · have hp0 := hp0 rfl
                subst hp0
                have hszt : szI m true = m.least := rfl
                rw [hszt, Int.sub_zero] at HLs HYs HYe HNs HNe
                rw [hszt] at HSz
                have hll : decide (m.least < m.least) = false := decide_eq_false (by omega)
                rw [hll] at HLs HNs HNe
                clear hsb hpb hll hszt
                go_upto_region 20 with fail
                go_quiet (fail)
                have T5 := Lib.hid (HT.out.below (bel_drewN (Below.refl wr.heap.size wr) nq))
                generalize wr.drewN nq = W5 at T5 ⊢
                clear c0 c1' c2' c3' cb co fo cp HT
                obtain ⟨_, cb, _⟩ := HCe.out W5 _ T5.out
                have T7 := Lib.hid T5.out
                rw [← HYe.out HSz.out, ← HNe.out HBb.out] at T7
                clear HCe T5
                go_wp2
                go_roundw
                case rel => exact ⟨j + 1, by go_num, by omega, by rw [HLs.out]; cases mo <;> rfl, T7⟩
                case measure => simp [intOf]; omega
            · obtain rfl : n = j := by omega
              have q3 : decide ((n : Int) < (n : Int)) = false := decide_eq_false (by omega)
              have hE1 : mixI (yL xs room fz) (szL xs fz) n = yL xs room fz := mixI_all _ _ n (yL_len HL.out HFL.out) (szL_len HL.out HFL.out)
              have hE2 : mixG (nxL xs room fz) fz n = nxL xs room fz := mixG_all _ _ n (nxL_len HL.out HFL.out) HFL.out
              have HMo := Lib.hid (show ((loL xs room fz).take n).any id = moB xs room fz by
                unfold moB
                rw [List.take_of_length_le (by rw [loL_len HL.out HFL.out]; exact Nat.le_refl _)])
              rw [hE1, hE2] at HT
              rw [HMo.out]
              clear hE1 hE2 HNZ HPB HMo
              go_wp2
              go_ret3
              exact ⟨A1, c1, A5, c5, rfl, own_reads HT.out.o, own_reads HT.out.f, HT.out.b⟩
end Go.Proofs.Ytglomkpnbdnnoaa.Flex
