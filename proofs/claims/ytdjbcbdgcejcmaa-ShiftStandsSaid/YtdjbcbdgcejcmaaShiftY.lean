/- Chapter 19: a region of three calls, three allocs and three stores, in whatever order. No condition. -/
import Derived.Test.YtdjbcbdgcejcmaaShiftB
import Derived.Deep.RegionHeld
namespace Go.Proofs.Ytdjbcbdgcejcmaa.Unit
open Go.RowKit Go.Proofs.Ytdjbcbdgcejcmaa.Div
set_option linter.unusedVariables false
set_option linter.unusedSimpArgs false

section
variable {P : Program} {ops : Array Oper} {Q : Exit → Act → World → Prop} {md : Region.Mode} {S : World → Prop}
/-- What holds behind each operation holds at the end. -/
theorem wpAnyH_inv (I : Array Bool → Act → World → Prop) (N : Array Bool → Nat)
    (h0 : ∀ L a w, I L a w → N L = 0 → Region.ready md ops L = []) (hd : ∀ L a w, I L a w → ∀ i ∈ Region.ready md ops L, N (L.setIfInBounds i true) < N L)
    (he : ∀ L a w, I L a w → Region.ready md ops L = [] → Q .normal a w)
    (hs : ∀ L a w, I L a w → ∀ i ∈ Region.ready md ops L, wpOp P ops Q i (fun a' w' => S w' ∧ I (L.setIfInBounds i true) a' w') a w) :
    ∀ (fuel : Nat) (L : Array Bool) (a : Act) (w : World), N L ≤ fuel → I L a w → wpAnyH P md ops Q S fuel L a w := by
  intro fuel
  induction fuel with
  | zero => exact fun L a w hN hI => ⟨h0 L a w hI (by omega), he L a w hI (h0 L a w hI (by omega))⟩
  | succ fuel ih =>
    intro L a w hN hI
    refine ⟨he L a w hI, fun i hi => wpOp_mono (fun a' w' h => ⟨h.1, ih _ a' w' (by have := hd L a w hI i hi; omega) h.2⟩) (hs L a w hI i hi)⟩
end

def falses (L : Array Bool) : Nat := (L.toList.filter (!·)).length
abbrev ltab (c0 c1 c2 a0 a1 a2 s0 s1 s2 : Bool) : Array Bool := #[true, true, c0, true, true, c1, true, true, c2, a0, a1, a2, s0, s1, s2]
abbrev ptr (g : Nat) : Value := .pointer (some ⟨g, 0, none⟩)
/-- A result's cell: made, and then stored. -/
def Cel (W0 V : World) (a s : Bool) (v : Value) (g : Nat) (p q : Int) : Prop :=
  a = true → v = ptr g ∧ W0.heap.size ≤ g ∧ Blk V g 25 (if s = true then #[.int .i64 p, .int .i64 q] else #[.int .i64 0, .int .i64 0])
section
variable {W0 V V' : World} {a s : Bool} {v : Value} {g : Nat} {p q : Int}
theorem Cel.keep (h : Cel W0 V a s v g p q) (hb : Below V.heap.size V V') : Cel W0 V' a s v g p q := fun ha => ⟨(h ha).1, (h ha).2.1, (h ha).2.2.keep hb⟩
theorem Cel.alloc (h : Cel W0 V a s v g p q) (o : Obj) : Cel W0 (V.alloc o) a s v g p q := fun ha => ⟨(h ha).1, (h ha).2.1, (h ha).2.2.alloc o⟩
theorem Cel.lt (h : Cel W0 V a s v g p q) (ha : a = true) : g < V.heap.size := (h ha).2.2.lt
theorem Cel.far {k : Nat} (h : Cel W0 V a s v g p q) (hk : a = true → g ≠ k) (j : Nat) (u : Value) : Cel W0 (V.setCell ⟨k, j, none⟩ u) a s v g p q := fun ha => ⟨(h ha).1, (h ha).2.1, (h ha).2.2.far (hk ha) u⟩
theorem Cel.none_ : Cel W0 V false s v g p q := fun h => by cases h
theorem Cel.made (hB : W0.heap.size ≤ V.heap.size) : Cel W0 (V.alloc (.cells #[.int .i64 0, .int .i64 0] 25)) true false (ptr V.heap.size) V.heap.size p q := fun _ => ⟨rfl, hB, Blk.new V _ _⟩
theorem Cel.stored (h : Cel W0 V true false v g p q) : Cel W0 ((V.setCell ⟨g, 0, none⟩ (.int .i64 p)).setCell ⟨g, 1, none⟩ (.int .i64 q)) true true v g p q := fun _ => ⟨(h rfl).1, (h rfl).2.1, ((h rfl).2.2.set_ 0 _).set_ 1 _⟩
end
/-- What holds behind each operation: which have come up, the slots, the cells. -/
def Ist (F : Value → Value → Value → Value → Value → Value → Act) (W0 : World) (p0 q0 p1 q1 p2 q2 : Int) (L : Array Bool) (a : Act) (V : World) : Prop :=
  ∃ (c0 c1 c2 a0 a1 a2 s0 s1 s2 : Bool) (v0 v1 v2 r0 r1 r2 : Value) (g0 g1 g2 : Nat), L = ltab c0 c1 c2 a0 a1 a2 s0 s1 s2 ∧ a = F v0 v1 v2 r0 r1 r2 ∧
    (c0 = true → r0 = boxV p0 q0) ∧ (c1 = true → r1 = boxV p1 q1) ∧ (c2 = true → r2 = boxV p2 q2) ∧
    Cel W0 V a0 s0 v0 g0 p0 q0 ∧ Cel W0 V a1 s1 v1 g1 p1 q1 ∧ Cel W0 V a2 s2 v2 g2 p2 q2 ∧ (s0 = true → a0 = true) ∧ (s1 = true → a1 = true) ∧ (s2 = true → a2 = true) ∧
    (a0 = true → a1 = true → g0 ≠ g1) ∧ (a0 = true → a2 = true → g0 ≠ g2) ∧ (a1 = true → a2 = true → g1 ≠ g2) ∧ Below W0.heap.size W0 V
/-- The slots that the region writes, written. -/
def Fof (act : Act) (v0 v1 v2 r0 r1 r2 : Value) : Act := (((((act.put (some 16) v0).put (some 17) v1).put (some 18) v2).put (some 69) r0).put (some 72) r1).put (some 75) r2
theorem put_self (a : Act) (i : Nat) : a.put (some i) (a.tmps.getD i undef) = a := by
  obtain ⟨t, d⟩ := a
  simp only [Act.put]
  congr 1
  apply Array.ext
  · simp
  · intro j h1 h2
    rw [Array.getElem_setIfInBounds]
    split
    · rename_i h; subst h; simp [h2]
    · rfl
theorem Fof_self (act : Act) : act = Fof act (act.tmps.getD 16 undef) (act.tmps.getD 17 undef) (act.tmps.getD 18 undef) (act.tmps.getD 69 undef) (act.tmps.getD 72 undef) (act.tmps.getD 75 undef) := by
  unfold Fof
  rw [put_self, put_self, put_self, put_self, put_self, put_self]
/-- Which operation may come up. -/
def Comes (c0 c1 c2 a0 a1 a2 s0 s1 s2 : Bool) (i : Nat) : Prop :=
  (i = 2 ∧ c0 = false) ∨ (i = 5 ∧ c1 = false) ∨ (i = 8 ∧ c2 = false) ∨ (i = 9 ∧ a0 = false) ∨ (i = 10 ∧ a1 = false) ∨ (i = 11 ∧ a2 = false) ∨
  (i = 12 ∧ s0 = false ∧ c0 = true ∧ a0 = true) ∨ (i = 13 ∧ s1 = false ∧ c1 = true ∧ a1 = true) ∨ (i = 14 ∧ s2 = false ∧ c2 = true ∧ a2 = true)
instance (c0 c1 c2 a0 a1 a2 s0 s1 s2 : Bool) (i : Nat) : Decidable (Comes c0 c1 c2 a0 a1 a2 s0 s1 s2 i) := by unfold Comes; infer_instance
/-- What is to be shown behind operation i. -/
def Kst (S : World → Prop) (F : Value → Value → Value → Value → Value → Value → Act) (W0 : World) (p0 q0 p1 q1 p2 q2 : Int) (L : Array Bool) (i : Nat) (a : Act) (V : World) : Prop :=
  S V ∧ Ist F W0 p0 q0 p1 q1 p2 q2 (L.setIfInBounds i true) a V
set_option synthInstance.maxSize 100000 in
set_option synthInstance.maxHeartbeats 2000000 in
theorem falses_zero : ∀ c0 c1 c2 a0 a1 a2 s0 s1 s2 : Bool, falses (ltab c0 c1 c2 a0 a1 a2 s0 s1 s2) = 0 → c0 = true ∧ c1 = true ∧ c2 = true ∧ a0 = true ∧ a1 = true ∧ a2 = true ∧ s0 = true ∧ s1 = true ∧ s2 = true := by decide +kernel
theorem region_inv {P : Program} {ops : Array Oper} {Q : Exit → Act → World → Prop} {S : World → Prop} {act : Act} {V : World} (W0 : World) (p0 q0 p1 q1 p2 q2 : Int)
    (hb : Below W0.heap.size W0 V)
    (hr : ∀ c0 c1 c2 a0 a1 a2 s0 s1 s2 : Bool, ∀ i ∈ Region.ready .any ops (ltab c0 c1 c2 a0 a1 a2 s0 s1 s2), Comes c0 c1 c2 a0 a1 a2 s0 s1 s2 i ∧ falses ((ltab c0 c1 c2 a0 a1 a2 s0 s1 s2).setIfInBounds i true) < falses (ltab c0 c1 c2 a0 a1 a2 s0 s1 s2))
    (hn : ∀ c0 c1 c2 a0 a1 a2 s0 s1 s2 : Bool, Region.ready .any ops (ltab c0 c1 c2 a0 a1 a2 s0 s1 s2) = [] → c0 = true ∧ c1 = true ∧ c2 = true ∧ a0 = true ∧ a1 = true ∧ a2 = true ∧ s0 = true ∧ s1 = true ∧ s2 = true)
    (ht : Region.ready .any ops (ltab true true true true true true true true true) = [])
    (he : ∀ g0 g1 g2 w, W0.heap.size ≤ g0 → W0.heap.size ≤ g1 → W0.heap.size ≤ g2 → Blk w g0 25 #[.int .i64 p0, .int .i64 q0] → Blk w g1 25 #[.int .i64 p1, .int .i64 q1] → Blk w g2 25 #[.int .i64 p2, .int .i64 q2] → Below W0.heap.size W0 w →
      Q .normal (Fof act (ptr g0) (ptr g1) (ptr g2) (boxV p0 q0) (boxV p1 q1) (boxV p2 q2)) w)
    (hs : ∀ (c0 c1 c2 a0 a1 a2 s0 s1 s2 : Bool) a w i, Comes c0 c1 c2 a0 a1 a2 s0 s1 s2 i → Ist (Fof act) W0 p0 q0 p1 q1 p2 q2 (ltab c0 c1 c2 a0 a1 a2 s0 s1 s2) a w →
      wpOp P ops Q i (Kst S (Fof act) W0 p0 q0 p1 q1 p2 q2 (ltab c0 c1 c2 a0 a1 a2 s0 s1 s2) i) a w) :
    wpAnyH P .any ops Q S 9 (ltab false false false false false false false false false) act V := by
  refine wpAnyH_inv (I := Ist (Fof act) W0 p0 q0 p1 q1 p2 q2) (N := falses) ?_ ?_ ?_ ?_ 9 _ act V (by decide) ?_
  · rintro L a w ⟨c0, c1, c2, a0, a1, a2, s0, s1, s2, _, _, _, _, _, _, _, _, _, rfl, _⟩ h
    obtain ⟨rfl, rfl, rfl, rfl, rfl, rfl, rfl, rfl, rfl⟩ := falses_zero _ _ _ _ _ _ _ _ _ h
    exact ht
  · rintro L a w ⟨c0, c1, c2, a0, a1, a2, s0, s1, s2, _, _, _, _, _, _, _, _, _, rfl, _⟩ i hi
    exact (hr _ _ _ _ _ _ _ _ _ i hi).2
  · rintro L a w ⟨c0, c1, c2, a0, a1, a2, s0, s1, s2, v0, v1, v2, r0, r1, r2, g0, g1, g2, rfl, rfl, k0, k1, k2, C0, C1, C2, _, _, _, _, _, _, hB⟩ h
    obtain ⟨rfl, rfl, rfl, rfl, rfl, rfl, rfl, rfl, rfl⟩ := hn _ _ _ _ _ _ _ _ _ h
    obtain ⟨rfl, b0, B0⟩ := C0 rfl
    obtain ⟨rfl, b1, B1⟩ := C1 rfl
    obtain ⟨rfl, b2, B2⟩ := C2 rfl
    cases k0 rfl
    cases k1 rfl
    cases k2 rfl
    exact he g0 g1 g2 w b0 b1 b2 B0 B1 B2 hB
  · intro L a w hI i hi
    obtain ⟨c0, c1, c2, a0, a1, a2, s0, s1, s2, v0, v1, v2, r0, r1, r2, g0, g1, g2, rfl, rest⟩ := hI
    exact hs c0 c1 c2 a0 a1 a2 s0 s1 s2 a w i (hr _ _ _ _ _ _ _ _ _ i hi).1 ⟨c0, c1, c2, a0, a1, a2, s0, s1, s2, v0, v1, v2, r0, r1, r2, g0, g1, g2, rfl, rest⟩
  · exact ⟨false, false, false, false, false, false, false, false, false, _, _, _, _, _, _, 0, 0, 0, rfl, Fof_self act, (fun h => by cases h), (fun h => by cases h), (fun h => by cases h), Cel.none_, Cel.none_, Cel.none_, (fun h => by cases h), (fun h => by cases h), (fun h => by cases h), (fun h => by cases h), (fun h => by cases h), (fun h => by cases h), hb⟩
end Go.Proofs.Ytdjbcbdgcejcmaa.Unit
