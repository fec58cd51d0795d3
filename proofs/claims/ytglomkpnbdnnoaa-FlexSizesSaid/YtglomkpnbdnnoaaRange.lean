/- A range over a function whose iterator keeps state in cells of its own: the statement's law. No condition. -/
import Derived.RangeFuncNested
import Derived.RangeFuncBound
import Derived.RangeFuncCalls
import Derived.RangeFuncLeaves
import Derived.OwnWalkIn
import Derived.TacticsInMore
import Derived.LoopNIn
import Derived.LoopIn
import Derived.OrdersHeld
import Derived.Deep.RegionHeld3
import Derived.Test.YtglomkpnbdnnoaaMore
namespace Go.Proofs.Ytglomkpnbdnnoaa
open Go Go.RowKit
set_option linter.unusedVariables false

/-- What a caller says between two rounds lies on over a step of the iterator's: new blocks, and a store into a block of which T holds. -/
structure Stays {β : Type} (T : Nat → Prop) (J : β → World → Prop) : Prop where
  more : ∀ s A B, J s A → Below A.heap.size A B → J s B
  set_ : ∀ s A p v, T p.block → J s A → J s (A.setCell p v)

/-- The promise of an iterator that begins in the world W0, and stores into blocks of which T holds alone; of the world in which it hands over an x, Pr holds. -/
def SeqT {α : Type} (P : Program) (g : Nat) (lb : Array Value) (encs : α → Array Value) (T : Nat → Prop) (Kp : World → World → Prop) (Pr : α → World → Prop) (xs : List α) (W0 : World) : Prop :=
  ∀ (l : Nat) (J Jx : List α → World → Prop), Stays T J → Stays T Jx →
    (∀ pre x W1, pre ++ [x] <+: xs → Pr x W1 → J pre W1 → YieldAt Fence.wide 8 P l (encs x) W1 fun e W' =>
      (e = .returned (.bool true) ∧ J (pre ++ [x]) W' ∧ Kp W1 W') ∨ (e = .returned (.bool false) ∧ Jx (pre ++ [x]) W')) →
    J [] W0 →
    CallsIn Fence.wide 9 P g (#[.func (.yield l) #[] #[]] ++ lb) W0 fun e W' => (∃ v, e = .returned v) ∧ (J xs W' ∨ ∃ pre, pre <+: xs ∧ Jx pre W')

section
variable {P : Program} {w : World}

/-- The blocks of the statement's own book-keeping lie as they lay. -/
structure Books (w : World) (o : Obj) (W : World) : Prop where
  rec_ : W.heap[w.heap.size + 1]? = some o
  def_ : W.heap[w.heap.size]? = some (.deferred (some []))
theorem Books.more {o : Obj} {A B : World} (h : Books w o A) (hb : Below A.heap.size A B) : Books w o B :=
  ⟨(hb.block _ (Array.getElem?_eq_some_iff.1 h.rec_).1).trans h.rec_, (hb.block _ (Array.getElem?_eq_some_iff.1 h.def_).1).trans h.def_⟩
theorem Books.set_ {o : Obj} {A : World} (h : Books w o A) (p : Addr) (v : Value) (hp : w.heap.size + 2 ≤ p.block) : Books w o (A.setCell p v) :=
  ⟨(Below.heap_setCell A p v _ (by omega)).trans h.rec_, (Below.heap_setCell A p v _ (by omega)).trans h.def_⟩

/-- What a round leaves: as a body may be left. -/
def roundEnds {α : Type} (B : Nat) (Kp : World → World → Prop) (I : List α → World → Prop) (Ix : Code → List α → World → Prop) (xs : List α) (W : World) : Exit → Act → World → Prop :=
  ownPostG B Kp I Ix xs W

theorem wpIn_rangeT {α : Type} {g : Operand} {ps : Array Tmp} {assign body : Code} {Q : Exit → Act → World → Prop} {a : Act}
    {gf : Nat} {lb : Array Value} (hg : a.eval g = .func (.func gf) #[] lb) (eg : ∀ args w, (callFunc gf args).run P w = .ok (.enter gf args) w)
    {encs : α → Array Value} {T : Nat → Prop} {Kp : World → World → Prop} {Pr : α → World → Prop} {xs : List α} (hT : ∀ b, T b → w.heap.size + 2 ≤ b)
    (hseq : ∀ o, SeqT P gf lb encs T Kp Pr xs ((w.alloc (.deferred (some []))).alloc (.loop o)))
    (hKt : ∀ {A B C : World}, Kp A B → Kp B C → Kp A C)
    (hKb : ∀ (W : World) (o o' : Obj), W.heap[w.heap.size + 1]? = some o → Kp W (W.putObj (w.heap.size + 1) o'))
    (hps : ∀ x, (encs x).size = ps.size)
    (I : List α → World → Prop) (Ix : Code → List α → World → Prop) (hI : OwnFrom w.heap.size I) (hIx : ∀ c, OwnFrom w.heap.size (Ix c))
    (hIs : ∀ s A p v, T p.block → I s A → I s (A.setCell p v)) (hIxs : ∀ c s A p v, T p.block → Ix c s A → Ix c s (A.setCell p v))
    (h0 : I [] w) (Ax : α → Act → World → Prop) (hAx : ∀ x a', OwnFrom w.heap.size (fun (_ : Unit) W => Ax x a' W))
    (hassign : ∀ (l : Nat) (pre : List α) (x : α) (W : World) (K : Act → World → Prop), Pr x W → I pre W → (∀ a' W', KeepsFrom w.heap.size W W' → Kp W W' → I pre W' → Ax x a' W' → K a' W') →
      assign.wpIn (Fence.wide.inRound l) 8 P (Exit.then K (fun _ _ _ => False)) { tmps := (ps.zip (encs x)).foldl (fun t (p, v) => t.setIfInBounds p v) a.tmps, defers := [] } W)
    (hbody : ∀ (l : Nat) (pre : List α) (x : α) (a' : Act) (W : World), pre ++ [x] <+: xs → I pre W → Ax x a' W → body.wpIn (Fence.wide.inRound l) 8 P (ownPostG w.heap.size Kp I Ix (pre ++ [x]) W) a' W)
    (hdone : ∀ (W : World), I xs W → W.heap[w.heap.size]? = some (.deferred (some [])) → Q .normal { a with defers := { target := .collected w.heap.size, args := #[] } :: a.defers } W)
    (hstop : ∀ (c : Code) (pre : List α) (W : World), pre <+: xs → Ix c pre W → W.heap[w.heap.size]? = some (.deferred (some [])) → c.wpIn Fence.wide 10 P Q { a with defers := { target := .collected w.heap.size, args := #[] } :: a.defers } W) :
    (Code.rangeFunc g ps assign body).wpIn Fence.wide 10 P Q a w := by
  refine wpIn_rangeFunc fun fn _ => ?_
  obtain ⟨rc, hrc⟩ : ∃ rc : LoopState → Option Code → Loop, rc = fun st pe => { state := st, pending := pe, fn, tmps := a.tmps, params := ps, assign, body, defers := w.heap.size } := ⟨_, rfl⟩
  have nc : ∀ st pe, (Obj.loop (rc st pe)).isCells = false := fun _ _ => rfl
  obtain ⟨W1, hW1⟩ : ∃ W1, (w.alloc (.deferred (some []))).alloc (.loop (rc .ready none)) = W1 := ⟨_, rfl⟩
  have bk1 : Books w (.loop (rc .ready none)) W1 := by
    rw [← hW1]
    refine ⟨?_, (Below.heap_alloc _ _ _ (by simp)).trans (World.alloc_heap_new w _)⟩
    have := World.alloc_heap_new (w.alloc (.deferred (some []))) (.loop (rc .ready none))
    rwa [World.size_alloc] at this
  have i1 : I [] W1 := by rw [← hW1]; exact hI.alloc _ (hI.alloc _ h0)
  refine ⟨w.heap.size + 1, [{ target := .collected w.heap.size, args := #[] }], W1, { target := .fn (.func gf) lb, args := #[.func (.yield (w.heap.size + 1)) #[] #[]] }, W1, gf,
    #[.func (.yield (w.heap.size + 1)) #[] #[]] ++ lb, W1, ?_, ?_, fun _ _ => trivial, ?_, (fun h => by cases h), ?_⟩
  · rw [← hW1, hrc]
    exact run_enterLoop_outer _ _ _ _ _
  · simp only [resolve, hg]
    simp [go_sem]
  · simp [invoke, go_sem, eg]
  · have put : ∀ {s W o} (o' : Obj), I s W → W.heap[w.heap.size + 1]? = some o → o.isCells = false → I s (W.putObj (w.heap.size + 1) o') := fun o' h hl hc => hI.putObj o' h (by omega) hl hc
    have hq := hseq (rc .ready none)
    rw [hW1] at hq
    refine (hq (w.heap.size + 1) (fun pre W => I pre W ∧ Books w (.loop (rc .ready none)) W) (fun pre W => ∃ c, Ix c pre W ∧ Books w (.loop (rc .done (some c))) W)
      ⟨fun s A B h hb => ⟨hI s A B none h.1 ⟨hb.os, hb.tape, hb.output, hb.size, fun k hk _ => hb.block k hk⟩ (fun r e => by cases e), h.2.more hb⟩, fun s A p v hp h => ⟨hIs s A p v hp h.1, h.2.set_ p v (hT _ hp)⟩⟩
      ⟨fun s A B ⟨c, h, k⟩ hb => ⟨c, hIx c s A B none h ⟨hb.os, hb.tape, hb.output, hb.size, fun k hk _ => hb.block k hk⟩ (fun r e => by cases e), k.more hb⟩, fun s A p v hp ⟨c, h, k⟩ => ⟨c, hIxs c s A p v hp h, k.set_ p v (hT _ hp)⟩⟩
      ?_ ⟨i1, bk1⟩).mono ?_
    · rintro pre x W hpre hpr ⟨hi, bk⟩
      have hy := run_yield (P := P) (args := encs x) bk.rec_ (by rw [hrc]; exact hps x)
      rw [hrc] at hy
      refine ⟨fn, _, assign, body, hy, roundIn_of_wpIn trivial (hassign _ pre x W _ hpr hi fun a' Wa hkf hkp hia hax => ?_)⟩
      have lr := hkf.same _ _ (by omega) bk.rec_ (nc _ _)
      have ld := hkf.same _ _ (Nat.le_refl _) bk.def_ rfl
      refine ⟨_, run_beginRound lr (by rw [hrc]), ?_⟩
      have rb : ({ rc .ready none with state := .busy } : Loop) = rc .busy none := by rw [hrc]
      rw [rb]
      have lr2 : (Wa.putObj (w.heap.size + 1) (.loop (rc .busy none))).heap[w.heap.size + 1]? = some (.loop (rc .busy none)) := World.putObj_heap_same (Array.getElem?_eq_some_iff.1 lr).1
      have ld2 : (Wa.putObj (w.heap.size + 1) (.loop (rc .busy none))).heap[w.heap.size]? = some (.deferred (some [])) := (World.putObj_heap_other (by omega)).trans ld
      refine wpIn_mono (hbody _ pre x a' _ hpre (put _ hia lr (nc _ _)) ((hAx x a').putObj (s := ()) _ hax (by omega) lr (nc _ _))) ?_
      have fin : ∀ (jump : Option Code) (st : LoopState) (W3 : World), st = (if jump.isNone then .ready else .done) → KeepsFrom w.heap.size (Wa.putObj (w.heap.size + 1) (.loop (rc .busy none))) W3 →
          (Instr.endRound (w.heap.size + 1) jump).run P W3 = .ok (.bool jump.isNone) (W3.putObj (w.heap.size + 1) (.loop (rc st jump))) ∧ W3.heap[w.heap.size + 1]? = some (.loop (rc .busy none)) ∧
          Books w (.loop (rc st jump)) (W3.putObj (w.heap.size + 1) (.loop (rc st jump))) := fun jump st W3 hst hk3 => by
        have l3 := hk3.same _ _ (by omega) lr2 (nc _ _)
        have := run_endRound (P := P) jump l3
        have re : ({ rc .busy none with state := if jump.isNone then .ready else .done, pending := jump } : Loop) = rc st jump := by rw [hrc, hst]
        rw [re] at this
        exact ⟨this, l3, World.putObj_heap_same (Array.getElem?_eq_some_iff.1 l3).1, (World.putObj_heap_other (by omega)).trans (hk3.same _ _ (Nat.le_refl _) ld2 rfl)⟩
      have kb1 : Kp Wa (Wa.putObj (w.heap.size + 1) (.loop (rc .busy none))) := hKb _ _ _ lr
      rintro e a3 W3 hp
      cases e with
      | normal =>
        obtain ⟨k3, kp3, i3⟩ := hp
        obtain ⟨hr, l3, bk3⟩ := fin none .ready W3 rfl k3
        exact ⟨_, _, hr, .inl ⟨rfl, ⟨put _ i3 l3 (nc _ _), bk3⟩, hKt hkp (hKt (hKt kb1 kp3) (hKb _ _ _ l3))⟩⟩
      | ret =>
        obtain ⟨k3, i3⟩ := hp
        obtain ⟨hr, l3, bk3⟩ := fin (some .ret) .done W3 rfl k3
        exact ⟨_, _, hr, .inr ⟨rfl, .ret, (hIx _).putObj _ i3 (by omega) l3 rfl, bk3⟩⟩
      | exit id =>
        obtain ⟨k3, i3⟩ := hp
        obtain ⟨hr, l3, bk3⟩ := fin (some (.exit id)) .done W3 rfl k3
        exact ⟨_, _, hr, .inr ⟨rfl, .exit id, (hIx _).putObj _ i3 (by omega) l3 rfl, bk3⟩⟩
      | goto t =>
        obtain ⟨k3, i3⟩ := hp
        obtain ⟨hr, l3, bk3⟩ := fin (some (.goto t)) .done W3 rfl k3
        exact ⟨_, _, hr, .inr ⟨rfl, .goto t, (hIx _).putObj _ i3 (by omega) l3 rfl, bk3⟩⟩
      | panic ch => exact hp.elim
      | outgrown => exact hp.elim
    · rintro e W2 ⟨⟨v, rfl⟩, ⟨hi, bk⟩ | ⟨pre, hpre, c, hi, bk⟩⟩
      · have he := run_endLoop (P := P) bk.rec_ (by rw [hrc]; simp)
        have := bk.rec_
        rw [hrc] at he
        exact ⟨none, _, he, hdone _ (put _ hi bk.rec_ (nc _ _)) ((World.putObj_heap_other (by omega)).trans bk.def_)⟩
      · have he := run_endLoop (P := P) bk.rec_ (by rw [hrc]; simp)
        rw [hrc] at he
        exact ⟨some c, _, he, hstop c pre _ hpre ((hIx c).putObj _ hi (by omega) bk.rec_ (nc _ _)) ((World.putObj_heap_other (by omega)).trans bk.def_)⟩
end
/-- The blocks of which S holds lie as they lay. -/
structure Lies (S : Nat → Prop) (W W' : World) : Prop where
  size : W.heap.size ≤ W'.heap.size
  same : ∀ b, S b → b < W.heap.size → W'.heap[b]? = W.heap[b]?
theorem Lies.refl (S : Nat → Prop) (W : World) : Lies S W W := ⟨Nat.le_refl _, fun _ _ _ => rfl⟩
theorem Lies.trans {S : Nat → Prop} {A B C : World} (h : Lies S A B) (k : Lies S B C) : Lies S A C := ⟨Nat.le_trans h.size k.size, fun b hb hl => (k.same b hb (Nat.lt_of_lt_of_le hl h.size)).trans (h.same b hb hl)⟩
theorem Lies.of_below {S : Nat → Prop} {W W' : World} (h : Below W.heap.size W W') : Lies S W W' := ⟨h.size, fun b _ hl => h.block b hl⟩
theorem Lies.setCell {S : Nat → Prop} (W : World) (p : Addr) (v : Value) (hp : ¬ S p.block) : Lies S W (W.setCell p v) :=
  ⟨by rw [World.size_setCell]; exact Nat.le_refl _, fun b hb _ => Below.heap_setCell W p v b (fun e => hp (e ▸ hb))⟩
theorem Lies.putObj {S : Nat → Prop} (W : World) (l : Nat) (o : Obj) (hp : ¬ S l) : Lies S W (W.putObj l o) :=
  ⟨(grownBy_putObj' W l o).size, fun b hb hl => (grownBy_putObj' W l o).block b hl (fun e => hp (by cases e; exact hb))⟩
theorem Lies.grown {S : Nat → Prop} {W W' : World} {row : Option Nat} (hg : W.grownBy W' row) (hr : ∀ r, row = some r → ¬ S r) : Lies S W W' := ⟨hg.size, fun b hb hl => hg.block b hl (fun e => hr _ e.symm hb)⟩
theorem Blk.lies {S : Nat → Prop} {W W' : World} {g : Nat} {t : TypeId} {cs : Array Value} (h : Blk W g t cs) (k : Lies S W W') (hg : S g) : Blk W' g t cs := (k.same g hg h.lt).trans h
/-! A region that draws its order, in a round. -/
def noDefer (ops : Array Oper) : Bool := ops.all fun o => match o.op with | .defer _ => false | _ => true
theorem upon_round {P : Program} {l n : Nat} {o : Oper} {a : Act} {K : Act → World → Prop} {Q : Exit → Act → World → Prop} {r : Result Next} (h : o.upon P a K Q r) : o.uponIn (Fence.wide.inRound l) n P a K Q r := by
  cases r with
  | ok x w' =>
    cases x with
    | value v => exact h
    | skip => exact h
    | defer d => exact h
    | enter f args => exact ⟨(fun h => by cases h), CallsIn.inRound l (callsIn_wide.2 (Calls.mono h (fun e w'' he => by cases e <;> exact he)))⟩
    | row row args => exact ⟨(fun h => by cases h), fun c cs _ => by
        obtain ⟨v, w'', r, s⟩ := h c cs
        exact ⟨v, w'', r, stepsIn_wide.2 s⟩⟩
    | round l f tmps assign body => exact h.elim
    | _ => exact h.elim
  | halt x w' => cases x <;> first | exact h | exact h.elim
theorem wpOp_round {P : Program} {ops : Array Oper} {Q : Exit → Act → World → Prop} {l n i : Nat} {K : Act → World → Prop} {a : Act} {w : World} (hnd : noDefer ops = true) (hq : ¬ LetsOut Q)
    (h : wpOp P ops Q i K a w) : wpOpIn (Fence.wide.inRound l) n P ops Q i K a w := by
  unfold wpOp at h
  unfold wpOpIn
  cases ho : ops[i]? with
  | none => simpa [ho] using h
  | some o =>
    simp only [ho] at h ⊢
    have hd : ∀ c, o.op ≠ .defer c := fun c hc => by
      have hm : o ∈ ops := Array.mem_of_getElem? ho
      have := (Array.all_eq_true_iff_forall_mem.1 hnd) o hm
      rw [hc] at this
      cases this
    by_cases hw : Region.wanted o (yielded ops a.tmps) = true
    · rw [if_pos hw] at h ⊢
      refine ⟨fun _ _ => trivial, ?_⟩
      rw [show (Fence.wide.inRound l).round = some l from rfl, Oper.semAt_some l _ _ hd]
      exact upon_round (h.resolve_right fun k => hq k.2)
    · rw [if_neg hw] at h ⊢
      exact ⟨fun _ _ => trivial, h⟩
theorem wpAny_round {P : Program} {ops : Array Oper} {md : Region.Mode} {Q : Exit → Act → World → Prop} {l n : Nat} (hnd : noDefer ops = true) (hq : ¬ LetsOut Q) :
    ∀ (fuel : Nat) (listed : Array Bool) (a : Act) (w : World), wpAny P md ops Q fuel listed a w → wpAnyIn (Fence.wide.inRound l) n P md ops Q fuel listed a w
  | 0, _, _, _, h => h
  | fuel + 1, _, _, _, h => ⟨h.1, fun i hi => wpOpIn_mono (fun a' w' h' => wpAny_round hnd hq fuel _ a' w' h') (wpOp_round hnd hq (h.2 i hi))⟩
theorem region_round {P : Program} {ops : Array Oper} {Q : Exit → Act → World → Prop} {S : World → Prop} {l n id : Nat} {a : Act} {w : World} (hm : P.follows .mixedOrders = true) (hnd : noDefer ops = true) (hq : ¬ LetsOut Q) (hS : S w.drew)
    (h : S w.drew → wpAnyH P .any ops Q S ops.size (Array.replicate ops.size false) a w.drew) : (Code.region id ops true).wpIn (Fence.wide.inRound l) n P Q a w :=
  wpIn_region_any hm (wpAny_round hnd hq _ _ _ _ (wpAny_of_held _ _ _ _ (h hS)))
end Go.Proofs.Ytglomkpnbdnnoaa
