/- Chapter 2: the program's Valid, walked. No condition but bounds. -/
import Derived.Test.YtbafdijklcoeoaaDoorUtfW
namespace Go.Proofs.YtbafdijklcoeoaaDoor.Utf
open Go.RowKit
set_option linter.unusedVariables false
set_option linter.unusedSimpArgs false
attribute [local go_sem] Oper.semAt_some
def allOk (l : List Ch) : Bool := l.all (·.ok)
theorem allOk_snoc (l : List Ch) (c : Ch) : allOk (l ++ [c]) = (allOk l && c.ok) := by unfold allOk; rw [List.all_append]; simp
theorem allOk_prefix {l m : List Ch} (h : l <+: m) (k : allOk l = false) : allOk m = false := by
  obtain ⟨t, rfl⟩ := h
  unfold allOk at *
  rw [List.all_append, k]
  rfl
theorem results_b {tmps : Array Value} {w : World} {g : Nat} {b : Bool} (ht : tmps.getD 2 undef = .pointer (some ⟨g, 0, none⟩)) (hc : w.cell? ⟨g, 0, none⟩ = some (.bool b)) :
    (results Tryd.f14 tmps).run Tryd.prog w = .ok (.bool b) w := by
  simp only [results, show Tryd.f14.results = #[.cell 2 4] from rfl]
  have ht2 : tmps[2]?.getD undef = .pointer (some ⟨g, 0, none⟩) := by simpa using ht
  simp [Sem.run_bind, Result.andThen, ht2]
  go_simp

set_option maxHeartbeats 4000000 in
set_option maxRecDepth 100000 in
theorem Valid_any (l : List UInt8) (hl : l.length ≤ 1000000000) (w : World) (hT : Tabs w) (h3 : 3 ≤ w.heap.size) :
    Calls Tryd.prog 14 #[strV l] w fun e w' => e = .returned (.bool (allOk (chs l 0))) ∧ Below w.heap.size w w' := by
  refine (callsIn_wide (n := 10)).1 ?_
  refine callsIn_of_wp_marks Tryd.func14 rfl trivial ?_ rfl
  simp only [Tryd.ntmps14, List.size_toArray, List.length_cons, List.length_nil, Nat.reduceAdd, Nat.reduceSub, Array.replicate_succ, Array.replicate_zero, List.push_toArray, List.append_toArray, List.nil_append, List.cons_append]
  refine (wpIn_wide (n := 10)).2 ?_
  go_wp2_with (go_at_call 19; refine (all_any l _).mono ?_; rintro e w' ⟨rfl, rfl⟩)
  have KO := (Blk.new w 4 #[.bool false]).alloc (.cells #[strV l] 9)
  have KB := Blk.new (w.alloc (.cells #[.bool false] 4)) 9 #[strV l]
  have bel := bel_alloc (bel_alloc (Below.refl w.heap.size w) (.cells #[.bool false] 4)) (.cells #[strV l] 9)
  have HS : Hid (((w.alloc (.cells #[.bool false] 4)).alloc (.cells #[strV l] 9)).heap.size = w.heap.size + 2) := Lib.hid (by simp)
  rw [World.size_alloc] at KB
  generalize (w.alloc (.cells #[.bool false] 4)).alloc (.cells #[strV l] 9) = Wb at KO KB bel HS ⊢
  have HT := Lib.hid (hT.below bel)
  have H3 := Lib.hid h3
  have HL := Lib.hid hl
  have lB := KB.lt
  clear hT h3 hl
  refine (wpIn_wide (n := 10)).1 ?_
  refine wpIn_rangeT (gf := 26) (lb := #[.pointer (some ⟨w.heap.size + 1, 0, none⟩)]) rfl (Go.Proofs.enters_of Tryd.func26 (by kernel_rfl) rfl)
    (encs := encC) (T := fun _ => False) (Kp := Lies (SQ (w.heap.size + 1))) (Pr := fun _ _ => True) (xs := chs l 0) (fun b hb => hb.elim)
    (fun o => all_seq l (by have := HL.out; omega) (w.heap.size + 1) _ (by simp; omega) ((KB.alloc _).alloc _) ((HT.out.below (bel_alloc (Below.refl _ _) _)).below (bel_alloc (Below.refl _ _) _)))
    (fun h k => h.trans k) (fun W o o' _ => Lies.putObj W _ o' (fun h => by have := HS.out; have := H3.out; unfold SQ at h; omega)) (fun x => rfl)
    (fun pre W => ICell w 4 (fun _ => .bool false) l pre W ∧ allOk pre = true) (fun c pre W => c = .ret ∧ ICell w 4 (fun _ => .bool false) l pre W ∧ allOk pre = false)
    (fun pre W W' row h hg hr => ⟨ICell.own (by have := HS.out; omega) pre W W' row h.1 hg hr, h.2⟩) (fun c pre W W' row h hg hr => ⟨h.1, ICell.own (by have := HS.out; omega) pre W W' row h.2.1 hg hr, h.2.2⟩) (fun s A p v hp h => hp.elim) (fun _ _ _ _ _ hp _ => hp.elim) ⟨⟨KO, KB, bel⟩, rfl⟩
    (fun x a' W => a' = { tmps := #[strV l, undef, .pointer (some { block := w.heap.size, off := 0 }), undef, .bool x.ok, strV l, Value.func (Fn.func 26) #[] #[Value.pointer (some { block := w.heap.size + 1, off := 0 })], chV x, .bool x.ok, undef, undef], defers := [] })
    (fun x a' W X Y row hs hg hr => hs)
    ?assign ?body ?done ?stop
  case assign =>
    rintro lv pre x W' K hpr hi hK
    gi_wp2
    exact hK _ _ (KeepsFrom.refl _ _) (Lies.refl _ _) hi rfl
  case body =>
    rintro lv pre x a' W' hpre ⟨⟨h1, h2, h4⟩, hok⟩ rfl
    have c0 : W'.cell? ⟨w.heap.size, 0, none⟩ = some (.bool false) := h1.cell 0
    have f0 := h1.frozen 0
    have lx := h1.lt
    obtain ⟨xr, xp, xn, xk⟩ := x
    have HK := Lib.hid (allOk_snoc pre ⟨xr, xp, xn, xk⟩)
    have HO := Lib.hid hok
    clear hok
    cases xk with
    | true =>
      gi_wp2
      exact ⟨KeepsFrom.refl _ _, Lies.refl _ _, ⟨h1, h2, h4⟩, by rw [HK.out, HO.out]; rfl⟩
    | false =>
      gi_wp2
      refine ⟨(KeepsOthers.setCell _ _ _).from _, rfl, ⟨?_, h2.far (by simp) _, h4.setCell (by simp) _⟩, by rw [HK.out, HO.out]; rfl⟩
      have := h1.set_ 0 (.bool false)
      simpa using this
  case done =>
    rintro W' ⟨⟨h1, h2, h4⟩, hok⟩ hK
    have cO : W'.cell? ⟨w.heap.size, 0, none⟩ = some (.bool false) := h1.cell 0
    have fO := h1.frozen 0
    have HO := Lib.hid hok
    clear hok
    go_wp2
    have hK2 : (W'.setCell ⟨w.heap.size, 0, none⟩ (.bool true)).heap[Wb.heap.size]? = some (.deferred (some [])) := (Below.heap_setCell W' _ _ _ (by simp; have := HS.out; omega)).trans hK
    refine ⟨by simp, .inl ⟨_, _, rfl, run_takeDeferred hK2, ?_⟩⟩
    refine ⟨.bool true, results_b rfl ?_, by rw [HO.out], (h4.setCell (p := ⟨w.heap.size, 0, none⟩) (by simp) (.bool true)).grown (grownBy_putObj' _ Wb.heap.size (.deferred none)) (by rw [World.size_setCell]; exact h4.size) (fun k e => by cases e; have := HS.out; omega)⟩
    have k1 := h1.set_ 0 (.bool true)
    have k2 := k1.grown (grownBy_putObj' _ Wb.heap.size (.deferred none)) (fun e => by injection e with e; have := HS.out; omega)
    exact k2.cell 0
  case stop =>
    rintro c pre W' hpre ⟨rfl, ⟨h1, h2, h4⟩, hok⟩ hK
    have HO := Lib.hid (allOk_prefix hpre hok)
    clear hok
    refine wpIn_ret ?_
    refine ⟨by simp, .inl ⟨_, _, rfl, run_takeDeferred hK, ?_⟩⟩
    refine ⟨.bool false, results_b rfl ?_, by rw [HO.out], h4.grown (grownBy_putObj' W' Wb.heap.size (.deferred none)) h4.size (fun k e => by cases e; have := HS.out; omega)⟩
    have k2 := h1.grown (grownBy_putObj' _ Wb.heap.size (.deferred none)) (fun e => by injection e with e; have := HS.out; omega)
    exact k2.cell 0
end Go.Proofs.YtbafdijklcoeoaaDoor.Utf
