/- Chapter 23: the program's Sizes, where items shrink, walked. No condition but bounds. -/
import Derived.Test.YtglomkpnbdnnoaaFlexU
namespace Go.Proofs.Ytglomkpnbdnnoaa.Flex
open Go.RowKit Go.Proofs.Ytglomkpnbdnnoaa.Unit Go.Proofs.Ytglomkpnbdnnoaa.Div
set_option linter.unusedVariables false
set_option linter.unusedSimpArgs false
attribute [local go_sem] Oper.semAt_some
theorem trail_grown {f0 : Nat} {A B : World} (h : Trail (· = f0) A B) : A.grownBy B (some f0) := ⟨h.os, h.tape, h.output, h.size, fun b hb hne => h.same b hb (fun e => hne (by rw [e]))⟩
theorem keeps_below {B : Nat} {W W' : World} (h : Below W.heap.size W W') : KeepsFrom B W W' := ⟨h.size, fun k o _ hk _ => (h.block k (Array.getElem?_eq_some_iff.1 hk).1).trans hk⟩
theorem blk_grownN {W W' : World} {g : Nat} {t : TypeId} {cs : Array Value} {row : Option Nat} {B : Nat} (h : Blk W g t cs) (hg : W.grownBy W' row) (hr : ∀ r, row = some r → B ≤ r ∧ ∃ o : Obj, W.heap[r]? = some o ∧ o.isCells = false) : Blk W' g t cs :=
  h.grown hg (fun e => by obtain ⟨_, o, ho, hc⟩ := hr g e.symm; unfold Blk at h; rw [h] at ho; cases ho; cases hc)
theorem own_grownN {W W' : World} {base e size n : Nat} {v : Value} {xs : List Value} {row : Option Nat} {B : Nat} (h : W.ownsRow base e size v n xs) (hg : W.grownBy W' row) (hr : ∀ r, row = some r → B ≤ r ∧ ∃ o : Obj, W.heap[r]? = some o ∧ o.isCells = false) : W'.ownsRow base e size v n xs := by
  refine h.kept hg ?_
  rcases h.2 with ⟨rfl, _⟩ | ⟨g, cap, cur, rfl, _, hh, _⟩
  · left; rfl
  · right
    intro e
    obtain ⟨_, o, ho, hc⟩ := hr g (by rw [← e]; rfl)
    rw [hh] at ho; cases ho; cases hc
theorem own_put {W W' : World} {base e size n row : Nat} {v : Value} {xs : List Value} (h : W.ownsRow base e size v n xs) (hg : W.grownBy W' (some row)) (hne : ∀ r, v.ownBlock = some r → r ≠ row) : W'.ownsRow base e size v n xs :=
  h.kept hg (by cases hv : v.ownBlock with
    | none => exact .inl rfl
    | some r => exact .inr (fun e => hne r hv (by injection e)))
theorem setCell_grown (W : World) (p : Addr) (v : Value) : W.grownBy (W.setCell p v) (some p.block) :=
  ⟨rfl, rfl, rfl, by rw [World.size_setCell]; exact Nat.le_refl _, fun k _ hk => Below.heap_setCell W p v k (fun e => hk (by rw [e]))⟩
/-- What the caller holds between two rounds: the last sizes lie in its box. -/
def ISz (w : World) (gO f0 n : Nat) (fs : List Int) (pre : List (List Int)) (W : World) : Prop :=
  ∃ v, Blk W gO 24 #[v] ∧ W.ownsRow w.heap.size 2 1 v n (((pre.getLast?).getD fs).map (Value.int .i64)) ∧ (∀ r, v.ownBlock = some r → r ≠ f0) ∧ Below w.heap.size w W
section
variable {w W W' : World} {gO f0 n : Nat} {fs : List Int} {pre : List (List Int)}
theorem ISz.own {B : Nat} (hB : w.heap.size ≤ B) : OwnFrom B (ISz w gO f0 n fs) := fun pre W W' row ⟨v, h1, h2, h3, h4⟩ hg hr =>
  ⟨v, blk_grownN h1 hg hr, own_grownN h2 hg hr, h3, h4.grown hg h4.size (fun k e => Nat.le_trans hB (hr k e).1)⟩
theorem ISz.trail (hf : w.heap.size ≤ f0) (hgO : gO ≠ f0) (h : ISz w gO f0 n fs pre W) (ht : Trail (· = f0) W W') : ISz w gO f0 n fs pre W' := by
  obtain ⟨v, h1, h2, h3, h4⟩ := h
  have hg := trail_grown ht
  exact ⟨v, h1.grown hg (fun e => hgO (by injection e)), own_put h2 hg h3, h3, h4.grown hg h4.size (fun k e => by injection e with e; omega)⟩
end
set_option maxHeartbeats 4000000 in
set_option maxRecDepth 100000 in
theorem SizesShrink_any (A : Option Addr) (n c : Nat) (xs : List It) (hn : n ≤ 60) (room : Int) (hyes : okS xs room = true) (hgt : room < fsum xs) (w : World) (hr : Reads w w.heap.size 4 A n (itL xs)) :
    Calls Try.prog 10 #[.slice A n c, .int .i64 room] w (PS w xs room) := by
  have nn : (n : Int) ≤ 60 := by omega
  have HYES := Lib.hid hyes
  obtain ⟨r0, r1, hok⟩ := okS_parts hyes
  have HL := Lib.hid (len_it hr)
  have HOK := Lib.hid hok
  have g0 : decide ((65536 : Int) < (n : Int)) = false := decide_eq_false (by omega)
  have h1 : wiB room 1073741824 = true := by unfold wiB; rw [decide_eq_true r0, decide_eq_true r1]; rfl
  have h2 : xs.any (fun x => !maI x) = false := by unfold okS at hyes; rw [h1] at hyes; simpa using hyes
  have HW := Lib.hid (fun V => within_any room 1073741824 V)
  rw [h1] at HW
  have HCo := Lib.hid (containsIt_any A n c xs (by omega) (w.alloc (.cells #[.slice A n c] 22)) ((hr.alloc (Nat.le_refl _) _).more (by rw [World.size_alloc]; omega)))
  rw [h2] at HCo
  have HRA := Lib.hid (hr.alloc (Nat.le_refl _) (.cells #[.slice A n c] 22))
  have KA := Lib.hid (Blk.new w 22 #[.slice A n c])
  have HA := Lib.hid (bel_alloc (Below.refl w.heap.size w) (.cells #[.slice A n c] 22))
  have hfb : ∀ s ∈ xs.map fiI, 0 ≤ s ∧ s ≤ 1073741824 := fun s hs => by
    obtain ⟨x, hx, rfl⟩ := List.mem_map.1 hs
    have := szI_bd (hok x hx) false
    exact ⟨this.1, this.2.1⟩
  have hbnd : ∀ k, 0 ≤ sT (xs.map fiI) k ∧ sT (xs.map fiI) k ≤ 64424509440 := fun k => by
    have := sT_bd (xs.map fiI) k 1073741824 (by omega) hfb
    rw [List.length_map, HL.out] at this
    omega
  have HBND := Lib.hid hbnd
  obtain ⟨S, hS⟩ : ∃ S, fsum xs = S := ⟨_, rfl⟩
  have hSb := hbnd n
  rw [sT_all _ _ (by rw [List.length_map]; exact Nat.le_of_eq HL.out)] at hSb
  rw [show (xs.map fiI).sum = S from hS] at hSb
  have HSD := Lib.hid hS
  rw [hS] at hgt
  have wL : IntKind.i64.wrap (room - S) = room - S := IntWalk.i64_in _ ⟨by omega, by omega⟩
  have q1 : decide (room - S < 0) = true := decide_eq_true (by omega)
  obtain ⟨R, hR0, hR1, hR2⟩ := rounds_end hok room
  have HSZ := Lib.hid (show sizesL xs room = yL xs room (fzK xs room R) by
    unfold sizesL
    rw [hS, if_neg (by omega)]
    exact finL_eq xs room R hR1 hR2 xs.length 0 (by omega) (by omega))
  have HR1 := Lib.hid hR1
  have HR2 := Lib.hid hR2
  have RB := Lib.hid (⟨r0, r1⟩ : 0 ≤ room ∧ room ≤ 1073741824)
  clear hyes hok h1 h2 hr hfb hbnd hS hSb hgt r0 r1 hR0 hR1 hR2
  refine (callsIn_wide (n := 10)).1 ?_
  refine callsIn_of_wp_marks Try.func10 rfl trivial ?_ rfl
  simp only [Try.ntmps10, List.size_toArray, List.length_cons, List.length_nil, Nat.reduceAdd, Nat.reduceSub, Array.replicate_succ, Array.replicate_zero, List.push_toArray, List.append_toArray, List.nil_append, List.cons_append]
  refine (wpIn_wide (n := 10)).2 ?_
  go_upto_region 3 with (first
    | (go_at_call 17; (with_reducible refine (HW.out _).mono ?_); rintro e w1 ⟨rfl, rfl⟩)
    | (go_at_call 18; (with_reducible refine HCo.out.mono ?_); rintro e w2 ⟨rfl, b2⟩; have K2 := Lib.hid (KA.out.keep b2); have B2 := Lib.hid (bel_trans HA.out b2); have R2 := Lib.hid (HRA.out.below (b2.mono (by rw [World.size_alloc]; omega))); have d2 : w2.cell? ⟨w.heap.size, 0, none⟩ = some (.slice A n c) := K2.out.cell 0; clear b2))
  have HF := Lib.hid (firsts_any A n c xs (by omega) w2 (R2.out.more B2.out.size))
  go_upto_region 4 with (go_at_call 21; (with_reducible refine HF.out.mono ?_); rintro e w3 ⟨v3, rfl, o3, b3⟩; obtain ⟨AO, cO, rfl⟩ := own_shape o3; have O3 := Lib.hid o3; have B3 := Lib.hid b3; clear o3 b3)
  have KO := Lib.hid (Blk.new w3 24 #[.slice AO n cO])
  have OO := Lib.hid (O3.out.alloc (.cells #[.slice AO n cO] 24))
  have BO := Lib.hid (bel_alloc B3.out (.cells #[.slice AO n cO] 24))
  have HGO := Lib.hid B3.out.size
  obtain ⟨gO, hgO⟩ : ∃ gO, w3.heap.size = gO := ⟨_, rfl⟩
  rw [hgO] at KO HGO
  rw [hgO]
  clear hgO
  generalize w3.alloc (.cells #[.slice AO n cO] 24) = wc at KO OO BO ⊢
  clear O3 B3
  have hw2 : w.heap.size ≤ w2.heap.size := B2.out.size
  have KL := Lib.hid (K2.out.keep BO.out)
  have BW := Lib.hid (bel_trans B2.out BO.out)
  have RL := Lib.hid (R2.out.below (BO.out.mono hw2))
  have d3 : wc.cell? ⟨w.heap.size, 0, none⟩ = some (.slice A n c) := KL.out.cell 0
  have HSu := Lib.hid (sumIt_any A n c xs (by omega) (fun k _ => ⟨by have := HBND.out k; omega, by have := HBND.out k; omega⟩) wc (RL.out.more BW.out.size))
  rw [show (xs.map fiI).sum = S from HSD.out] at HSu
  clear d2 HF HCo HW KA HRA
  go_wp2_with (first
    | (go_at_call 22; (with_reducible refine HSu.out.mono ?_); rintro e w4 ⟨rfl, b4⟩; have K4 := Lib.hid (KL.out.keep b4); have KO4 := Lib.hid (KO.out.keep b4); have O4 := Lib.hid (own_below OO.out b4); have R4 := Lib.hid (RL.out.below (b4.mono BW.out.size)); have B4 := Lib.hid (bel_trans BW.out b4); have C4 := Lib.hid (bel_trans BO.out b4); have d4 : w4.cell? ⟨w.heap.size, 0, none⟩ = some (.slice A n c) := K4.out.cell 0; clear b4)
    | (go_at_call 24; (with_reducible refine (rounds_any A n c room _).mono ?_); rintro e w5 ⟨rfl, rfl⟩))
  have k1 := Lib.hid ((Blk.new w4 22 #[.slice A n c]).alloc (.cells #[.int .i64 room] 2))
  have k2 := Lib.hid (show Blk ((w4.alloc (.cells #[.slice A n c] 22)).alloc (.cells #[.int .i64 room] 2)) (w4.heap.size + 1) 2 #[.int .i64 room] by
    have := Blk.new (w4.alloc (.cells #[.slice A n c] 22)) 2 #[.int .i64 room]
    rwa [World.size_alloc] at this)
  have R5 := Lib.hid ((R4.out.alloc B4.out.size (.cells #[.slice A n c] 22)).alloc (by rw [World.size_alloc]; have := B4.out.size; omega) (.cells #[.int .i64 room] 2))
  have KO5 := Lib.hid ((KO4.out.alloc (.cells #[.slice A n c] 22)).alloc (.cells #[.int .i64 room] 2))
  have O5 := Lib.hid ((O4.out.alloc (.cells #[.slice A n c] 22)).alloc (.cells #[.int .i64 room] 2))
  have B5 := Lib.hid (bel_alloc (bel_alloc B4.out (.cells #[.slice A n c] 22)) (.cells #[.int .i64 room] 2))
  have hs5 : ((w4.alloc (.cells #[.slice A n c] 22)).alloc (.cells #[.int .i64 room] 2)).heap.size = w4.heap.size + 2 := by simp only [World.size_alloc]
  have hgO4 := KO4.out.lt
  have hO4 := fun r hr => (World.ownsRow.lt O4.out r hr).2
  have hw4 := B4.out.size
  generalize (w4.alloc (.cells #[.slice A n c] 22)).alloc (.cells #[.int .i64 room] 2) = Wb at k1 k2 R5 KO5 O5 B5 hs5 ⊢
  clear d4 K4 KO4 O4 R4 B4 C4 d3 HSu KL RL
  generalize w4.heap.size = p1 at k1 k2 hs5 hgO4 hO4 hw4 ⊢
  have hgw : w.heap.size ≤ gO := by have := HGO.out; omega
  have j0 : ISz w gO (Wb.heap.size + 2) n (xs.map fiI) [] Wb := ⟨_, KO5.out, own_le O5.out hw2, fun r hr => by have := hO4 r hr; omega, B5.out⟩
  refine (wpIn_wide (n := 10)).1 ?_
  refine wpIn_rangeR (gf := 36) (lb := #[.pointer (some ⟨p1, 0, none⟩), .pointer (some ⟨p1 + 1, 0, none⟩)]) rfl (Go.Proofs.enters_of Try.func36 (by kernel_rfl) rfl)
    (T := (· = Wb.heap.size + 2)) (Kp := Lies (SR w.heap.size p1 (p1 + 1) (Wb.heap.size + 2))) (Pr := fun x args W => ∃ A' c', args = #[.slice A' n c'] ∧ W.ownsRow (Wb.heap.size + 4) 2 1 (.slice A' n c') n (x.map (Value.int .i64))) (xs := ysL xs room (R + 1)) (fun b hb => by omega)
    (fun o => by
      have h := rounds_seq A n c xs HOK.out HL.out hn room RB.out.1 RB.out.2 w.heap.size p1 (p1 + 1) ((Wb.alloc (.deferred (some []))).alloc (.loop o)) (by simp only [World.size_alloc]; omega) (by simp only [World.size_alloc]; omega) (by simp only [World.size_alloc]; omega) ((k1.out.alloc _).alloc _) ((k2.out.alloc _).alloc _) ((R5.out.alloc (by omega) _).alloc (by simp only [World.size_alloc]; omega) _) R HR1.out HR2.out
      simpa only [World.size_alloc, Nat.add_assoc, Nat.reduceAdd] using h)
    (fun h k => h.trans k) (fun W o o' _ => Lies.putObj W _ o' (fun h => by rcases h with h | h | h | h | h <;> omega)) (fun x args W h => by obtain ⟨A', c', e, _⟩ := h; rw [e]; rfl)
    (ISz w gO (Wb.heap.size + 2) n (xs.map fiI)) (fun _ _ _ => False)
    (ISz.own (by omega)) (fun _ _ _ _ _ h _ _ => h.elim) (fun s A B h ht => ISz.trail (by omega) (by omega) h ht) (fun _ _ _ _ h _ => h.elim) j0
    (fun x a' W => ∃ A' c', W.ownsRow (Wb.heap.size + 4) 2 1 (.slice A' n c') n (x.map (Value.int .i64)) ∧ a' = { tmps := #[.slice A n c, .int .i64 room, .pointer (some ⟨w.heap.size, 0, none⟩), undef, .slice none 0 0, .int .i64 0, .pointer (some ⟨gO, 0, none⟩), .int .i64 (room - S), .slice A' n c', undef, undef, .slice A n c, .int .i64 n, .bool false, .bool false, .int .i64 room, .bool true, .bool false, .bool false, .bool false, .slice A n c, .bool false, .bool false, .slice A n c, .slice AO n cO, .int .i64 room, .slice A n c, .int .i64 S, .int .i64 (room - S), .int .i64 (room - S), .bool true, .slice A n c, .int .i64 room, .func (.func 36) #[] #[.pointer (some ⟨p1, 0, none⟩), .pointer (some ⟨p1 + 1, 0, none⟩)], .slice A' n c', undef, undef, undef, undef, undef, undef, undef, undef, undef, undef, undef, undef, undef, undef, undef, undef, undef, undef, undef, undef, undef, undef], defers := [] })
    (fun x a' _ X Y row hs hg hr => by obtain ⟨A', c', h1, h2⟩ := hs; exact ⟨A', c', own_grownN h1 hg hr, h2⟩)
    ?assign ?body ?done ?stop
  case assign =>
    rintro l pre x args W' K ⟨A', c', rfl, ho⟩ hi hK
    gi_wp2
    exact hK _ _ (KeepsFrom.refl _ _) (Lies.refl _ _) hi ⟨A', c', ho, rfl⟩
  case body =>
    rintro l pre x a' W' hpre ⟨v, h1, h2, h3, h4⟩ ⟨A', c', ho, rfl⟩
    have cO : W'.cell? ⟨gO, 0, none⟩ = some v := h1.cell 0
    have fO := h1.frozen 0
    have H1 := Lib.hid h1
    have H4 := Lib.hid h4
    have HO := Lib.hid ho
    clear h1 h2 h3 h4 ho hpre
    gi_wp2
    refine ⟨KeepsFrom.of_grownBy (setCell_grown _ _ _) (fun j e => by injection e with e; have e2 : gO = j := e; omega), Lies.setCell _ _ _ (fun h => by rcases h with h | h | h | h | h <;> simp only at h <;> omega), _, by have := H1.out.set_ 0 (.slice A' n c'); simpa using this, ?_, fun r hr => ?_, H4.out.setCell (by simp only; omega) _⟩
    · rw [List.getLast?_append]
      simp only [List.getLast?_singleton, Option.some_or, Option.getD_some]
      refine own_le (own_row_far HO.out _ _ (fun e => ?_)) (by omega)
      have := (HO.out.lt _ e).1
      simp only at this
      omega
    · have := (HO.out.lt r hr).1
      omega
  case done =>
    rintro W' ⟨v, h1, h2, h3, h4⟩ hK
    have cO : W'.cell? ⟨gO, 0, none⟩ = some v := h1.cell 0
    have hlast : ((ysL xs room (R + 1)).getLast?).getD (xs.map fiI) = yL xs room (fzK xs room R) := by
      rw [ysL_succ, List.getLast?_append]
      simp
    rw [hlast] at h2
    obtain ⟨A9, c9, rfl⟩ := own_shape h2
    have H2 := Lib.hid h2
    have H4 := Lib.hid h4
    have HK := Lib.hid hK
    clear h1 h2 h3 h4 hK hlast
    go_wp2
    refine ⟨by simp, .inl ⟨_, _, rfl, run_takeDeferred HK.out, ?_⟩⟩
    have hne : (Value.slice A9 n c9).ownBlock ≠ some Wb.heap.size := fun e => by
      rcases H2.out.2 with ⟨hv, _⟩ | ⟨g, cap, cur, hv, _, hh, _⟩
      · rw [hv] at e; simp [Value.ownBlock] at e
      · rw [hv] at e
        simp only [Value.ownBlock, Option.some.injEq] at e
        subst e
        have h := HK.out
        rw [hh] at h
        cases h
    have o' := H2.out.kept (grownBy_putObj' W' Wb.heap.size (.deferred none)) (.inr hne)
    refine ⟨_, results_tmp2 (t := 4) (u := 5) rfl _ _ _, ?_⟩
    show PS w xs room (.returned (.tuple #[.slice A9 n c9, .int .i64 0])) _
    exact PS_yes HYES.out HL.out HSZ.out (own_reads o') (H4.out.grown (grownBy_putObj' W' Wb.heap.size (.deferred none)) H4.out.size (fun k e => by cases e; omega))
  case stop =>
    rintro c pre W' _ h _
    exact h.elim
theorem Sizes_any (A : Option Addr) (n c : Nat) (xs : List It) (hn : n ≤ 60) (room : Int) (w : World) (hr : Reads w w.heap.size 4 A n (itL xs)) :
    Calls Try.prog 10 #[.slice A n c, .int .i64 room] w (PS w xs room) := by
  cases h : okS xs room with
  | false => exact SizesNo_any A n c xs hn room h w hr
  | true =>
    rcases Int.lt_or_le room (fsum xs) with g | g
    · exact SizesShrink_any A n c xs hn room h g w hr
    · exact SizesGrow_any A n c xs hn room h g w hr
end Go.Proofs.Ytglomkpnbdnnoaa.Flex
