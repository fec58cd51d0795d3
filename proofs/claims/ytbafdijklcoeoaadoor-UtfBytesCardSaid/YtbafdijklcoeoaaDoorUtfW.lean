/- Chapter 2: the program's Count, walked. No condition but bounds. -/
import Derived.Test.YtbafdijklcoeoaaDoorUtfV
namespace Go.Proofs.YtbafdijklcoeoaaDoor.Utf
open Go.RowKit
set_option linter.unusedVariables false
set_option linter.unusedSimpArgs false
attribute [local go_sem] Oper.semAt_some

theorem keeps_below {B : Nat} {W W' : World} (h : Below W.heap.size W W') : KeepsFrom B W W' := ⟨h.size, fun k o _ hk _ => (h.block k (Array.getElem?_eq_some_iff.1 hk).1).trans hk⟩
theorem blk_grownN {W W' : World} {g : Nat} {t : TypeId} {cs : Array Value} {row : Option Nat} {B : Nat} (h : Blk W g t cs) (hg : W.grownBy W' row) (hr : ∀ r, row = some r → B ≤ r ∧ ∃ o : Obj, W.heap[r]? = some o ∧ o.isCells = false) : Blk W' g t cs :=
  h.grown hg (fun e => by obtain ⟨_, o, ho, hc⟩ := hr g e.symm; unfold Blk at h; rw [h] at ho; cases ho; cases hc)
/-- What a caller who keeps one cell holds between two rounds. -/
def ICell (w : World) (t : TypeId) (f : List Ch → Value) (l : List UInt8) (pre : List Ch) (W : World) : Prop :=
  Blk W w.heap.size t #[f pre] ∧ Blk W (w.heap.size + 1) 9 #[strV l] ∧ Below w.heap.size w W
section
variable {w W W' : World} {t : TypeId} {f : List Ch → Value} {l : List UInt8} {pre : List Ch}
theorem ICell.own {B : Nat} (hB : w.heap.size ≤ B) : OwnFrom B (ICell w t f l) := fun pre W W' row ⟨h1, h2, h3⟩ hg hr =>
  ⟨blk_grownN h1 hg hr, blk_grownN h2 hg hr, h3.grown hg h3.size (fun k e => Nat.le_trans hB (hr k e).1)⟩
end
set_option maxHeartbeats 4000000 in
set_option maxRecDepth 100000 in
theorem Count_any (l : List UInt8) (hl : l.length ≤ 1000000000) (w : World) (hT : Tabs w) (h3 : 3 ≤ w.heap.size) :
    Calls Tryd.prog 13 #[strV l] w fun e w' => e = .returned (.int .i64 (((chs l 0).length : Nat) : Int)) ∧ Below w.heap.size w w' := by
  refine (callsIn_wide (n := 10)).1 ?_
  refine callsIn_of_wp_marks Tryd.func13 rfl trivial ?_ rfl
  simp only [Tryd.ntmps13, List.size_toArray, List.length_cons, List.length_nil, Nat.reduceAdd, Nat.reduceSub, Array.replicate_succ, Array.replicate_zero, List.push_toArray, List.append_toArray, List.nil_append, List.cons_append]
  refine (wpIn_wide (n := 10)).2 ?_
  go_wp2_with (go_at_call 19; refine (all_any l _).mono ?_; rintro e w' ⟨rfl, rfl⟩)
  have KO := (Blk.new w 3 #[.int .i64 0]).alloc (.cells #[strV l] 9)
  have KB := Blk.new (w.alloc (.cells #[.int .i64 0] 3)) 9 #[strV l]
  have bel := bel_alloc (bel_alloc (Below.refl w.heap.size w) (.cells #[.int .i64 0] 3)) (.cells #[strV l] 9)
  have HS : Hid (((w.alloc (.cells #[.int .i64 0] 3)).alloc (.cells #[strV l] 9)).heap.size = w.heap.size + 2) := Lib.hid (by simp)
  rw [World.size_alloc] at KB
  generalize (w.alloc (.cells #[.int .i64 0] 3)).alloc (.cells #[strV l] 9) = Wb at KO KB bel HS ⊢
  have HT := Lib.hid (hT.below bel)
  have H3 := Lib.hid h3
  have HL := Lib.hid hl
  have lB := KB.lt
  clear hT h3 hl
  refine (wpIn_wide (n := 10)).1 ?_
  refine wpIn_rangeT (gf := 26) (lb := #[.pointer (some ⟨w.heap.size + 1, 0, none⟩)]) rfl (Go.Proofs.enters_of Tryd.func26 (by kernel_rfl) rfl)
    (encs := encC) (T := fun _ => False) (Kp := Lies (SQ (w.heap.size + 1))) (Pr := fun _ _ => True) (xs := chs l 0) (fun b hb => hb.elim)
    (fun o => all_seq l (by have := HL.out; omega) (w.heap.size + 1) _ (by simp; omega) ((KB.alloc _).alloc _) ((HT.out.below (bel_alloc (Below.refl _ _) _)).below (bel_alloc (Below.refl _ _) _)))
    (fun h k => h.trans k) (fun W o o' _ => Lies.putObj W _ o' (fun h => by have := HS.out; have := H3.out; unfold SQ at h; omega)) (fun x => rfl)
    (ICell w 3 (fun pre => .int .i64 ((pre.length : Nat) : Int)) l) (fun _ _ _ => False)
    (ICell.own (by have := HS.out; omega)) (fun _ _ _ _ _ h _ _ => h.elim) (fun s A p v hp h => hp.elim) (fun _ _ _ _ _ hp _ => hp.elim) ⟨KO, KB, bel⟩
    (fun x a' W => a' = { tmps := #[strV l, undef, Value.int IntKind.i64 0, Value.pointer (some { block := w.heap.size, off := 0 }), strV l, Value.func (Fn.func 26) #[] #[Value.pointer (some { block := w.heap.size + 1, off := 0 })], chV x, .bool x.ok, undef, undef, undef], defers := [] })
    (fun x a' W X Y row hs hg hr => hs)
    ?assign ?body ?done ?stop
  case assign =>
    rintro lv pre x W' K hpr hi hK
    gi_wp2
    exact hK _ _ (KeepsFrom.refl _ _) (Lies.refl _ _) hi (by simp)
  case body =>
    rintro lv pre x a' W' hpre ⟨h1, h2, h4⟩ rfl
    have c0 : W'.cell? ⟨w.heap.size, 0, none⟩ = some (.int .i64 ((pre.length : Nat) : Int)) := h1.cell 0
    have f0 := h1.frozen 0
    have lp : (pre.length : Int) ≤ 1000000000 := by
      have := hpre.length_le
      rw [List.length_append, List.length_cons, List.length_nil] at this
      have := chs_len l 0
      have := HL.out
      omega
    have lx := h1.lt
    gi_wp2
    refine ⟨(KeepsOthers.setCell _ _ _).from _, Lies.setCell _ _ _ (fun h => by have := H3.out; unfold SQ at h; simp only at h; omega), ?_, h2.far (by simp) _, h4.setCell (by simp) _⟩
    have := h1.set_ 0 (.int .i64 ((pre.length : Int) + 1))
    simpa using this
  case done =>
    rintro W' ⟨h1, h2, h4⟩ hK
    have cO : W'.cell? ⟨w.heap.size, 0, none⟩ = some (.int .i64 (((chs l 0).length : Nat) : Int)) := h1.cell 0
    go_wp2
    refine ⟨by simp, .inl ⟨_, _, rfl, run_takeDeferred hK, ?_⟩⟩
    exact ⟨_, results_tmp rfl _ _ _, rfl, h4.grown (grownBy_putObj' W' Wb.heap.size (.deferred none)) h4.size (fun k e => by cases e; have := HS.out; omega)⟩
  case stop =>
    rintro c pre W' _ h _
    exact h.elim
end Go.Proofs.YtbafdijklcoeoaaDoor.Utf
