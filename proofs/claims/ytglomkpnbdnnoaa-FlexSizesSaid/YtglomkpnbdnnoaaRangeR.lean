/- A range over a function whose iterator makes memory between two rounds, and hands over what lies there: the statement's law. No condition. -/
import Derived.Test.YtglomkpnbdnnoaaRange
namespace Go.Proofs.Ytglomkpnbdnnoaa
open Go Go.RowKit
set_option linter.unusedVariables false

/-- From A to B: new blocks, and other cells in blocks of which T holds alone. -/
structure Trail (T : Nat → Prop) (A B : World) : Prop where
  os : B.os = A.os
  tape : B.tape = A.tape
  output : B.output = A.output
  size : A.heap.size ≤ B.heap.size
  same : ∀ b, b < A.heap.size → ¬ T b → B.heap[b]? = A.heap[b]?
section
variable {T : Nat → Prop} {A B C : World}
theorem Trail.refl (A : World) : Trail T A A := ⟨rfl, rfl, rfl, Nat.le_refl _, fun _ _ _ => rfl⟩
theorem Trail.trans (h : Trail T A B) (k : Trail T B C) : Trail T A C :=
  ⟨k.os.trans h.os, k.tape.trans h.tape, k.output.trans h.output, Nat.le_trans h.size k.size, fun b hb ht => (k.same b (Nat.lt_of_lt_of_le hb h.size) ht).trans (h.same b hb ht)⟩
theorem Trail.of_below (h : Below A.heap.size A B) : Trail T A B := ⟨h.os, h.tape, h.output, h.size, fun b hb _ => h.block b hb⟩
theorem Trail.more (h : Trail T A B) (hb : Below B.heap.size B C) : Trail T A C := h.trans (Trail.of_below hb)
theorem Trail.setCell (h : Trail T A B) (p : Addr) (v : Value) (hp : T p.block ∨ A.heap.size ≤ p.block) : Trail T A (B.setCell p v) :=
  ⟨h.os, h.tape, h.output, by rw [World.size_setCell]; exact h.size, fun b hb ht => (Below.heap_setCell B p v b (fun e => by
    rcases hp with hp | hp
    · exact ht (e ▸ hp)
    · omega)).trans (h.same b hb ht)⟩
theorem Trail.alloc (h : Trail T A B) (o : Obj) : Trail T A (B.alloc o) := h.more ((Below.refl _ _).alloc (Nat.le_refl _) o)
end

/-- The promise of an iterator that begins in the world W0: of what it hands over, and the world in which it does, Pr holds. -/
def SeqR {α : Type} (P : Program) (g : Nat) (lb : Array Value) (T : Nat → Prop) (Kp : World → World → Prop) (Pr : α → Array Value → World → Prop) (xs : List α) (W0 : World) : Prop :=
  ∀ (l : Nat) (J Jx : List α → World → Prop), (∀ s A B, J s A → Trail T A B → J s B) → (∀ s A B, Jx s A → Trail T A B → Jx s B) →
    (∀ pre x args W1, pre ++ [x] <+: xs → Pr x args W1 → J pre W1 → YieldAt Fence.wide 8 P l args W1 fun e W' =>
      (e = .returned (.bool true) ∧ J (pre ++ [x]) W' ∧ Kp W1 W') ∨ (e = .returned (.bool false) ∧ Jx (pre ++ [x]) W')) →
    J [] W0 →
    CallsIn Fence.wide 9 P g (#[.func (.yield l) #[] #[]] ++ lb) W0 fun e W' => (∃ v, e = .returned v) ∧ (J xs W' ∨ ∃ pre, pre <+: xs ∧ Jx pre W')

section
variable {P : Program} {w : World}
theorem Books.trail {T : Nat → Prop} {o : Obj} {A B : World} (hT : ∀ b, T b → w.heap.size + 2 ≤ b) (h : Books w o A) (hb : Trail T A B) : Books w o B :=
  ⟨(hb.same _ (Array.getElem?_eq_some_iff.1 h.rec_).1 (fun t => by have := hT _ t; omega)).trans h.rec_, (hb.same _ (Array.getElem?_eq_some_iff.1 h.def_).1 (fun t => by have := hT _ t; omega)).trans h.def_⟩

theorem wpIn_rangeR {α : Type} {g : Operand} {ps : Array Tmp} {assign body : Code} {Q : Exit → Act → World → Prop} {a : Act}
    {gf : Nat} {lb : Array Value} (hg : a.eval g = .func (.func gf) #[] lb) (eg : ∀ args w, (callFunc gf args).run P w = .ok (.enter gf args) w)
    {T : Nat → Prop} {Kp : World → World → Prop} {Pr : α → Array Value → World → Prop} {xs : List α} (hT : ∀ b, T b → w.heap.size + 2 ≤ b)
    (hseq : ∀ o, SeqR P gf lb T Kp Pr xs ((w.alloc (.deferred (some []))).alloc (.loop o)))
    (hKt : ∀ {A B C : World}, Kp A B → Kp B C → Kp A C)
    (hKb : ∀ (W : World) (o o' : Obj), W.heap[w.heap.size + 1]? = some o → Kp W (W.putObj (w.heap.size + 1) o'))
    (hps : ∀ x args W, Pr x args W → args.size = ps.size)
    (I : List α → World → Prop) (Ix : Code → List α → World → Prop) (hI : OwnFrom w.heap.size I) (hIx : ∀ c, OwnFrom w.heap.size (Ix c))
    (hIt : ∀ s A B, I s A → Trail T A B → I s B) (hIxt : ∀ c s A B, Ix c s A → Trail T A B → Ix c s B)
    (h0 : I [] w) (Ax : α → Act → World → Prop) (hAx : ∀ x a', OwnFrom w.heap.size (fun (_ : Unit) W => Ax x a' W))
    (hassign : ∀ (l : Nat) (pre : List α) (x : α) (args : Array Value) (W : World) (K : Act → World → Prop), Pr x args W → I pre W → (∀ a' W', KeepsFrom w.heap.size W W' → Kp W W' → I pre W' → Ax x a' W' → K a' W') →
      assign.wpIn (Fence.wide.inRound l) 8 P (Exit.then K (fun _ _ _ => False)) { tmps := (ps.zip args).foldl (fun t (p, v) => t.setIfInBounds p v) a.tmps, defers := [] } W)
    (hbody : ∀ (l : Nat) (pre : List α) (x : α) (a' : Act) (W : World), pre ++ [x] <+: xs → I pre W → Ax x a' W → body.wpIn (Fence.wide.inRound l) 8 P (ownPostG w.heap.size Kp I Ix (pre ++ [x]) W) a' W)
    (hdone : ∀ (W : World), I xs W → W.heap[w.heap.size]? = some (.deferred (some [])) → Q .normal { a with defers := { target := .collected w.heap.size, args := #[] } :: a.defers } W)
    (hstop : ∀ (c : Code) (pre : List α) (W : World), pre <+: xs → Ix c pre W → W.heap[w.heap.size]? = some (.deferred (some [])) → c.wpIn Fence.wide 10 P Q { a with defers := { target := .collected w.heap.size, args := #[] } :: a.defers } W) :
    (Code.rangeFunc g ps assign body).wpIn Fence.wide 10 P Q a w := by
  refine wpIn_rangeFunc fun fn _ => ?_
  obtain ⟨rc, hrc⟩ : ∃ rc : LoopState → Option Code → Loop, rc = fun st pe => { state := st, pending := pe, fn, tmps := a.tmps, params := ps, assign, body, defers := w.heap.size } := ⟨_, rfl⟩
  have nc : ∀ st pe, (Obj.loop (rc st pe)).isCells = false := fun _ _ => rfl
  obtain ⟨W1, hW1⟩ : ∃ W1, (w.alloc (.deferred (some []))).alloc (.loop (rc .ready none)) = W1 := ⟨_, rfl⟩
  have bk1 : Books w (.loop (rc .ready none)) W1 := by
    rw [← hW1]
    refine ⟨?_, (Below.heap_alloc _ _ _ (by simp)).trans (World.alloc_heap_new w _)⟩
    have := World.alloc_heap_new (w.alloc (.deferred (some []))) (.loop (rc .ready none))
    rwa [World.size_alloc] at this
  have i1 : I [] W1 := by rw [← hW1]; exact hI.alloc _ (hI.alloc _ h0)
  refine ⟨w.heap.size + 1, [{ target := .collected w.heap.size, args := #[] }], W1, { target := .fn (.func gf) lb, args := #[.func (.yield (w.heap.size + 1)) #[] #[]] }, W1, gf,
    #[.func (.yield (w.heap.size + 1)) #[] #[]] ++ lb, W1, ?_, ?_, fun _ _ => trivial, ?_, (fun h => by cases h), ?_⟩
  · rw [← hW1, hrc]
    exact run_enterLoop_outer _ _ _ _ _
  · simp only [resolve, hg]
    simp [go_sem]
  · simp [invoke, go_sem, eg]
  · have put : ∀ {s W o} (o' : Obj), I s W → W.heap[w.heap.size + 1]? = some o → o.isCells = false → I s (W.putObj (w.heap.size + 1) o') := fun o' h hl hc => hI.putObj o' h (by omega) hl hc
    have hq := hseq (rc .ready none)
    rw [hW1] at hq
    refine (hq (w.heap.size + 1) (fun pre W => I pre W ∧ Books w (.loop (rc .ready none)) W) (fun pre W => ∃ c, Ix c pre W ∧ Books w (.loop (rc .done (some c))) W)
      (fun s A B h hb => ⟨hIt s A B h.1 hb, h.2.trail hT hb⟩)
      (fun s A B ⟨c, h, k⟩ hb => ⟨c, hIxt c s A B h hb, k.trail hT hb⟩)
      ?_ ⟨i1, bk1⟩).mono ?_
    · rintro pre x args W hpre hpr ⟨hi, bk⟩
      have hy := run_yield (P := P) (args := args) bk.rec_ (by rw [hrc]; exact hps x args W hpr)
      rw [hrc] at hy
      refine ⟨fn, _, assign, body, hy, roundIn_of_wpIn trivial (hassign _ pre x args W _ hpr hi fun a' Wa hkf hkp hia hax => ?_)⟩
      have lr := hkf.same _ _ (by omega) bk.rec_ (nc _ _)
      have ld := hkf.same _ _ (Nat.le_refl _) bk.def_ rfl
      refine ⟨_, run_beginRound lr (by rw [hrc]), ?_⟩
      have rb : ({ rc .ready none with state := .busy } : Loop) = rc .busy none := by rw [hrc]
      rw [rb]
      have lr2 : (Wa.putObj (w.heap.size + 1) (.loop (rc .busy none))).heap[w.heap.size + 1]? = some (.loop (rc .busy none)) := World.putObj_heap_same (Array.getElem?_eq_some_iff.1 lr).1
      have ld2 : (Wa.putObj (w.heap.size + 1) (.loop (rc .busy none))).heap[w.heap.size]? = some (.deferred (some [])) := (World.putObj_heap_other (by omega)).trans ld
      refine wpIn_mono (hbody _ pre x a' _ hpre (put _ hia lr (nc _ _)) ((hAx x a').putObj (s := ()) _ hax (by omega) lr (nc _ _))) ?_
      have fin : ∀ (jump : Option Code) (st : LoopState) (W3 : World), st = (if jump.isNone then .ready else .done) → KeepsFrom w.heap.size (Wa.putObj (w.heap.size + 1) (.loop (rc .busy none))) W3 →
          (Instr.endRound (w.heap.size + 1) jump).run P W3 = .ok (.bool jump.isNone) (W3.putObj (w.heap.size + 1) (.loop (rc st jump))) ∧ W3.heap[w.heap.size + 1]? = some (.loop (rc .busy none)) ∧
          Books w (.loop (rc st jump)) (W3.putObj (w.heap.size + 1) (.loop (rc st jump))) := fun jump st W3 hst hk3 => by
        have l3 := hk3.same _ _ (by omega) lr2 (nc _ _)
        have := run_endRound (P := P) jump l3
        have re : ({ rc .busy none with state := if jump.isNone then .ready else .done, pending := jump } : Loop) = rc st jump := by rw [hrc, hst]
        rw [re] at this
        exact ⟨this, l3, World.putObj_heap_same (Array.getElem?_eq_some_iff.1 l3).1, (World.putObj_heap_other (by omega)).trans (hk3.same _ _ (Nat.le_refl _) ld2 rfl)⟩
      have kb1 : Kp Wa (Wa.putObj (w.heap.size + 1) (.loop (rc .busy none))) := hKb _ _ _ lr
      rintro e a3 W3 hp
      cases e with
      | normal =>
        obtain ⟨k3, kp3, i3⟩ := hp
        obtain ⟨hr, l3, bk3⟩ := fin none .ready W3 rfl k3
        exact ⟨_, _, hr, .inl ⟨rfl, ⟨put _ i3 l3 (nc _ _), bk3⟩, hKt hkp (hKt (hKt kb1 kp3) (hKb _ _ _ l3))⟩⟩
      | ret =>
        obtain ⟨k3, i3⟩ := hp
        obtain ⟨hr, l3, bk3⟩ := fin (some .ret) .done W3 rfl k3
        exact ⟨_, _, hr, .inr ⟨rfl, .ret, (hIx _).putObj _ i3 (by omega) l3 rfl, bk3⟩⟩
      | exit id =>
        obtain ⟨k3, i3⟩ := hp
        obtain ⟨hr, l3, bk3⟩ := fin (some (.exit id)) .done W3 rfl k3
        exact ⟨_, _, hr, .inr ⟨rfl, .exit id, (hIx _).putObj _ i3 (by omega) l3 rfl, bk3⟩⟩
      | goto t =>
        obtain ⟨k3, i3⟩ := hp
        obtain ⟨hr, l3, bk3⟩ := fin (some (.goto t)) .done W3 rfl k3
        exact ⟨_, _, hr, .inr ⟨rfl, .goto t, (hIx _).putObj _ i3 (by omega) l3 rfl, bk3⟩⟩
      | panic ch => exact hp.elim
      | outgrown => exact hp.elim
    · rintro e W2 ⟨⟨v, rfl⟩, ⟨hi, bk⟩ | ⟨pre, hpre, c, hi, bk⟩⟩
      · have he := run_endLoop (P := P) bk.rec_ (by rw [hrc]; simp)
        have := bk.rec_
        rw [hrc] at he
        exact ⟨none, _, he, hdone _ (put _ hi bk.rec_ (nc _ _)) ((World.putObj_heap_other (by omega)).trans bk.def_)⟩
      · have he := run_endLoop (P := P) bk.rec_ (by rw [hrc]; simp)
        rw [hrc] at he
        exact ⟨some c, _, he, hstop c pre _ hpre ((hIx c).putObj _ hi (by omega) bk.rec_ (nc _ _)) ((World.putObj_heap_other (by omega)).trans bk.def_)⟩
end
end Go.Proofs.Ytglomkpnbdnnoaa
