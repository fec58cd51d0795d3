/- Chapter 2: the program's Decode, walked. No condition but bounds. -/
import Derived.Test.YtbafdijklcoeoaaDoorUtfX
namespace Go.Proofs.YtbafdijklcoeoaaDoor.Utf
open Go.RowKit
set_option linter.unusedVariables false
set_option linter.unusedSimpArgs false
attribute [local go_sem] Oper.semAt_some

/-- A character's cells. -/
def chC (c : Ch) : List Value := [.int .i32 c.r, .int .i64 0, .int .i64 c.p, .int .i64 c.n, .int .u8 0]
theorem A_infoCh : (Tryd.prog.info? 32).map (fun i => (i.zero, i.size, i.bytes)) = some (some (.agg #[.int .i32 0, .int .i64 0, .int .i64 0, .int .i64 0, .int .u8 0]), 5, 40) := by kernel_rfl
theorem reads_newK {k : Nat} (w : World) (t : TypeId) (cs : Array Value) (n : Nat) (xs : List Value) (h : cs.toList = xs) (hn : xs.length = n * k) :
    Reads (w.alloc (.cells cs t)) (w.alloc (.cells cs t)).heap.size k (some ⟨w.heap.size, 0, none⟩) n xs := by
  refine ⟨by omega, fun _ => ⟨_, rfl, by simp, fun j u hu => ?_⟩⟩
  have hb := Blk.new w t cs
  have ha : (⟨w.heap.size, 0, none⟩ : Addr).add j = ⟨w.heap.size, j, none⟩ := by
    unfold Addr.add
    split
    · subst_vars; rfl
    · simp
  rw [ha, hb.cell j, ← Array.getElem?_toList, h]
  exact hu
theorem own_grownN {W W' : World} {base e size n : Nat} {v : Value} {xs : List Value} {row : Option Nat} {B : Nat} (h : W.ownsRow base e size v n xs) (hg : W.grownBy W' row) (hr : ∀ r, row = some r → B ≤ r ∧ ∃ o : Obj, W.heap[r]? = some o ∧ o.isCells = false) : W'.ownsRow base e size v n xs := by
  refine h.kept hg ?_
  rcases h.2 with ⟨rfl, _⟩ | ⟨g, cap, cur, rfl, _, hh, _⟩
  · left; rfl
  · right
    intro e
    obtain ⟨_, o, ho, hc⟩ := hr g (by rw [← e]; rfl)
    rw [hh] at ho; cases ho; cases hc
theorem keeps_own {B base e size n : Nat} {W W' : World} {v : Value} {xs : List Value} (h : W.ownsRow base e size v n xs) (hg : W.grownBy W' v.ownBlock) : KeepsFrom B W W' :=
  ⟨hg.size, fun k o _ hk ho => (hg.block k (Array.getElem?_eq_some_iff.1 hk).1 (fun e => by
    rcases h.2 with ⟨rfl, _⟩ | ⟨g, cap, cur, rfl, _, hh, _⟩
    · simp [Value.ownBlock] at e
    · simp only [Value.ownBlock, Option.some.injEq] at e
      subst e
      rw [hh] at hk
      cases hk
      cases ho)).trans hk⟩
theorem setCell_grown (W : World) (p : Addr) (v : Value) : W.grownBy (W.setCell p v) (some p.block) :=
  ⟨rfl, rfl, rfl, by rw [World.size_setCell]; exact Nat.le_refl _, fun k _ hk => Below.heap_setCell W p v k (fun e => hk (by rw [e]))⟩
theorem own_setCell {W : World} {base e size n : Nat} {v : Value} {xs : List Value} (h : W.ownsRow base e size v n xs) (p : Addr) (u : Value) (hne : v.ownBlock ≠ some p.block) : (W.setCell p u).ownsRow base e size v n xs :=
  h.kept (setCell_grown W p u) (by cases hv : v.ownBlock with
    | none => exact .inl rfl
    | some r => exact .inr (fun e => hne (by rw [hv]; exact e)))
/-- What a caller who appends to one row holds between two rounds. -/
def IRow (w : World) (l : List UInt8) (pre : List Ch) (W : World) : Prop :=
  ∃ v, Blk W w.heap.size 23 #[v] ∧ W.ownsRow w.heap.size 32 5 v pre.length (pre.flatMap chC) ∧ Blk W (w.heap.size + 1) 9 #[strV l] ∧ Below w.heap.size w W
section
variable {w W W' : World} {l : List UInt8} {pre : List Ch}
theorem IRow.own {B : Nat} (hB : w.heap.size ≤ B) : OwnFrom B (IRow w l) := fun pre W W' row ⟨v, h1, h2, h3, h4⟩ hg hr =>
  ⟨v, blk_grownN h1 hg hr, own_grownN h2 hg hr, blk_grownN h3 hg hr, h4.grown hg h4.size (fun k e => Nat.le_trans hB (hr k e).1)⟩
theorem IRow.more (h : IRow w l pre W) (hb : Below W.heap.size W W') : IRow w l pre W' := by
  obtain ⟨v, h1, h2, h3, h4⟩ := h
  exact ⟨v, h1.keep hb, own_below h2 hb, h3.keep hb, bel_trans h4 hb⟩
end
/-- Behind a round. -/
theorem row_end {w W' W2 w7 : World} {l : List UInt8} {pre : List Ch} {x : Ch} {v v' : Value} {BL : Nat} (h3 : 3 ≤ w.heap.size)
    (hI1 : Blk W' w.heap.size 23 #[v]) (hI2 : W'.ownsRow w.heap.size 32 5 v pre.length (pre.flatMap chC)) (hI3 : Blk W' (w.heap.size + 1) 9 #[strV l]) (hI4 : Below w.heap.size w W')
    (bel : Below W'.heap.size W' W2) (hown' : w7.ownsRow w.heap.size 32 5 v' (pre.length + 1) (pre.flatMap chC ++ chC x)) (hg : W2.grownBy w7 v.ownBlock) :
    KeepsFrom BL W' (w7.setCell ⟨w.heap.size, 0, none⟩ v') ∧ Lies (SQ (w.heap.size + 1)) W' (w7.setCell ⟨w.heap.size, 0, none⟩ v') ∧ IRow w l (pre ++ [x]) (w7.setCell ⟨w.heap.size, 0, none⟩ v') := by
  have o2 := own_below hI2 bel
  have k1 := (hI1.keep bel).grown hg (fun e => own_blk_ne o2 (hI1.keep bel) (by decide) e.symm)
  have k3 := (hI3.keep bel).grown hg (fun e => own_blk_ne o2 (hI3.keep bel) (by decide) e.symm)
  have hne : v'.ownBlock ≠ some w.heap.size := own_blk_ne hown' k1 (by decide)
  refine ⟨?_, ?_, v', ?_, ?_, ?_, ?_⟩
  · exact ((keeps_below bel).trans (keeps_own o2 hg)).trans ((KeepsOthers.setCell _ _ _).from _)
  · refine ((Lies.of_below bel).trans (Lies.grown hg (fun r hr => ?_))).trans (Lies.setCell _ _ _ ?_)
    · have l1 := (o2.lt r hr).1
      have l2 := own_blk_ne o2 (hI3.keep bel) (by decide)
      intro h
      rcases h with h | h
      · omega
      · exact l2 (by rw [hr, h])
    · intro h
      rcases h with h | h <;> simp only at h <;> omega
  · have := k1.set_ 0 v'
    simpa using this
  · have := own_setCell hown' ⟨w.heap.size, 0, none⟩ v' hne
    simpa using this
  · exact k3.far (by simp) v'
  · exact ((bel_trans hI4 bel).grown hg (Nat.le_trans hI4.size bel.size) (fun k e => (o2.lt k e).1)).setCell (by simp) v'
set_option maxHeartbeats 4000000 in
set_option maxRecDepth 100000 in
theorem Decode_any (l : List UInt8) (hl : l.length ≤ 1000000000) (w : World) (hT : Tabs w) (h3 : 3 ≤ w.heap.size) :
    Calls Tryd.prog 10 #[strV l] w fun e w' => ∃ v, e = .returned v ∧ w'.ownsRow w.heap.size 32 5 v (chs l 0).length ((chs l 0).flatMap chC) ∧ Below w.heap.size w w' := by
  obtain ⟨i0, hi, hz0, hz1, hz2⟩ := info_parts A_infoCh
  refine (callsIn_wide (n := 10)).1 ?_
  refine callsIn_of_wp_marks Tryd.func10 rfl trivial ?_ rfl
  simp only [Tryd.ntmps10, List.size_toArray, List.length_cons, List.length_nil, Nat.reduceAdd, Nat.reduceSub, Array.replicate_succ, Array.replicate_zero, List.push_toArray, List.append_toArray, List.nil_append, List.cons_append]
  refine (wpIn_wide (n := 10)).2 ?_
  go_wp2_with (go_at_call 19; refine (all_any l _).mono ?_; rintro e w' ⟨rfl, rfl⟩)
  have KO := (Blk.new w 23 #[.slice none 0 0]).alloc (.cells #[strV l] 9)
  have KB := Blk.new (w.alloc (.cells #[.slice none 0 0] 23)) 9 #[strV l]
  have bel := bel_alloc (bel_alloc (Below.refl w.heap.size w) (.cells #[.slice none 0 0] 23)) (.cells #[strV l] 9)
  have HS : Hid (((w.alloc (.cells #[.slice none 0 0] 23)).alloc (.cells #[strV l] 9)).heap.size = w.heap.size + 2) := Lib.hid (by simp)
  rw [World.size_alloc] at KB
  generalize (w.alloc (.cells #[.slice none 0 0] 23)).alloc (.cells #[strV l] 9) = Wb at KO KB bel HS ⊢
  have HT := Lib.hid (hT.below bel)
  have H3 := Lib.hid h3
  have HL := Lib.hid hl
  have lB := KB.lt
  clear hT h3 hl
  refine (wpIn_wide (n := 10)).1 ?_
  refine wpIn_rangeT (gf := 26) (lb := #[.pointer (some ⟨w.heap.size + 1, 0, none⟩)]) rfl (Go.Proofs.enters_of Tryd.func26 (by kernel_rfl) rfl)
    (encs := encC) (T := fun _ => False) (Kp := Lies (SQ (w.heap.size + 1))) (Pr := fun _ _ => True) (xs := chs l 0) (fun b hb => hb.elim)
    (fun o => all_seq l (by have := HL.out; omega) (w.heap.size + 1) _ (by simp; omega) ((KB.alloc _).alloc _) ((HT.out.below (bel_alloc (Below.refl _ _) _)).below (bel_alloc (Below.refl _ _) _)))
    (fun h k => h.trans k) (fun W o o' _ => Lies.putObj W _ o' (fun h => by have := HS.out; have := H3.out; unfold SQ at h; omega)) (fun x => rfl)
    (IRow w l) (fun _ _ _ => False)
    (IRow.own (by have := HS.out; omega)) (fun _ _ _ _ _ h _ _ => h.elim) (fun s A p v hp h => hp.elim) (fun _ _ _ _ _ hp _ => hp.elim) ⟨_, KO, own_nil _ _ _ _, KB, bel⟩
    (fun x a' W => ∃ Bx, Wb.heap.size ≤ Bx ∧ Blk W Bx 32 (chC x).toArray ∧ a' = { tmps := #[strV l, undef, .slice none 0 0, .pointer (some { block := w.heap.size, off := 0 }), .pointer (some ⟨Bx, 0, none⟩), strV l, Value.func (Fn.func 26) #[] #[Value.pointer (some { block := w.heap.size + 1, off := 0 })], chV x, .bool x.ok, undef, undef, undef, undef, undef], defers := [] })
    (fun x a' W X Y row hs hg hr => by obtain ⟨Bx, h1, h2, h3⟩ := hs; exact ⟨Bx, h1, blk_grownN h2 hg hr, h3⟩)
    ?assign ?body ?done ?stop
  case assign =>
    rintro lv pre x W' K hpr hi hK
    gi_wp2
    have lW : Wb.heap.size ≤ W'.heap.size := by
      obtain ⟨v, h1, h2, h3, h4⟩ := hi
      have := h3.lt
      have := HS.out
      omega
    exact hK _ _ (keeps_below (bel_alloc (Below.refl _ _) _)) (Lies.of_below (bel_alloc (Below.refl _ _) _)) (hi.more (bel_alloc (Below.refl _ _) _)) ⟨W'.heap.size, lW, Blk.new W' _ _, rfl⟩
  case body =>
    rintro lv pre x a' W' hpre ⟨v, h1, h2, h3, h4⟩ ⟨Bx, hBx, bX, rfl⟩
    have lx := bX.lt
    have lo := h1.lt
    have lp : pre.length + 1 ≤ 1000000000 := by
      have := hpre.length_le
      rw [List.length_append, List.length_cons, List.length_nil] at this
      have := chs_len l 0
      have := HL.out
      omega
    obtain ⟨xr, xp, xn, xk⟩ := x
    have H2 := Lib.hid h2
    have nB : Bx ≠ w.heap.size := by have := HS.out; omega
    obtain ⟨A0, c0, rfl⟩ := own_shape h2
    have cO : W'.cell? ⟨w.heap.size, 0, none⟩ = some (.slice A0 pre.length c0) := h1.cell 0
    have fO := h1.frozen 0
    have k0 : W'.cell? ⟨Bx, 0, none⟩ = some (.int .i32 xr) := bX.cell 0
    have k1 : W'.cell? ⟨Bx, 1, none⟩ = some (.int .i64 0) := bX.cell 1
    have k2 : W'.cell? ⟨Bx, 2, none⟩ = some (.int .i64 xp) := bX.cell 2
    have k3 : W'.cell? ⟨Bx, 3, none⟩ = some (.int .i64 xn) := bX.cell 3
    have k4 : W'.cell? ⟨Bx, 4, none⟩ = some (.int .u8 0) := bX.cell 4
    have o6 : (W'.alloc (.cells (chC ⟨xr, xp, xn, xk⟩).toArray 32)).ownsRow w.heap.size 32 5 (.slice A0 pre.length c0) pre.length (pre.flatMap chC) := h2.alloc _
    have hO6 := h1.alloc (.cells (chC ⟨xr, xp, xn, xk⟩).toArray 32)
    clear h2 hpre
    gi_wp2_with (gi_at_builtin; refine wpListIn_append_own _ rfl (.tmp 9) (.tmp 11) 23 rfl w.heap.size 32 i0 (.agg #[.int .i32 0, .int .i64 0, .int .i64 0, .int .i64 0, .int .u8 0]) 5 40 Tryd.underlying23 hi hz0 hz1 hz2 rfl (by decide) (.slice A0 pre.length c0) _ _ rfl o6 ⟨W'.heap.size, 0, none⟩ 1 1 (chC ⟨xr, xp, xn, xk⟩) rfl rfl ?c1 (by simp [chC, Value.oneCell']) (by unfold maxLen; omega) (by omega) (by simp only [World.size_alloc]; have := h4.size; omega) ?c2)
    case c1 =>
      intro j u hu
      obtain ⟨ad, e, _, h⟩ := (reads_newK (k := 5) W' 32 (chC ⟨xr, xp, xn, xk⟩).toArray 1 (chC ⟨xr, xp, xn, xk⟩) rfl rfl).2 (by omega)
      injection e with e
      subst e
      exact h j u hu
    case c2 =>
      intro v' w7 hown' hg hb'
      obtain ⟨A', c', rfl⟩ := own_shape hown'
      have hO7 := hO6.grown hg (fun e => own_blk_ne o6 hO6 (by decide) e.symm)
      have cO := hO7.cell 0
      have fO := hO7.frozen 0
      gi_wp2
      exact row_end H3.out h1 H2.out h3 h4 (bel_alloc (Below.refl _ _) _) hown' hg
  case done =>
    rintro W' ⟨v, h1, h2, h3, h4⟩ hK
    have cO : W'.cell? ⟨w.heap.size, 0, none⟩ = some v := h1.cell 0
    go_wp2
    refine ⟨by simp, .inl ⟨_, _, rfl, run_takeDeferred hK, ?_⟩⟩
    have hne : v.ownBlock ≠ some Wb.heap.size := fun e => by
      rcases h2.2 with ⟨rfl, _⟩ | ⟨g, cap, cur, rfl, _, hh, _⟩
      · simp [Value.ownBlock] at e
      · simp only [Value.ownBlock, Option.some.injEq] at e
        subst e
        rw [hh] at hK
        cases hK
    have o' := h2.kept (grownBy_putObj' W' Wb.heap.size (.deferred none)) (.inr hne)
    exact ⟨_, results_tmp rfl _ _ _, v, rfl, o', h4.grown (grownBy_putObj' W' Wb.heap.size (.deferred none)) h4.size (fun k e => by cases e; have := HS.out; omega)⟩
  case stop =>
    rintro c pre W' _ h _
    exact h.elim
end Go.Proofs.YtbafdijklcoeoaaDoor.Utf
