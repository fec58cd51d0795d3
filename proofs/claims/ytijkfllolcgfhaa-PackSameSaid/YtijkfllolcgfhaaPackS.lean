/- Chapter 3: what is read and written again are the bytes that were taken. Plain. -/
import Derived.Test.YtijkfllolcgfhaaPackB
namespace Go.Proofs.Ytijkfllolcgfhaa.Pack
open Go.RowKit
set_option linter.unusedVariables false
set_option linter.unusedSimpArgs false

/-- What was taken is what would be written. -/
def Inv {α : Type} (f : Option (List UInt8) → α × Option (List UInt8)) (g : α → List UInt8) (P : α → Prop) : Prop := ∀ s r, (f (some s)).2 = some r → s = g (f (some s)).1 ++ r ∧ P (f (some s)).1
theorem tnS_Inv : Inv tnS numB U64 := by
  intro s r h
  cases e : tn s with
  | none => rw [tnS_none (st := some s) e] at h; cases h
  | some q =>
    obtain ⟨n, r0⟩ := q
    have e1 := tnS_some (st := some s) e
    rw [e1] at h ⊢
    cases h
    exact tn_inv e
theorem tiS_Inv : Inv tiS (fun y => numB (zz y)) I64 := by
  intro s r h
  obtain ⟨h1, h2⟩ := tnS_Inv s r h
  unfold tiS
  exact ⟨by simp only [zz_unzz]; exact h1, unzz_i64 h2⟩
theorem tnI_Inv : Inv tnI (fun y => numB y.toNat) (fun y => 0 ≤ y ∧ y < 18446744073709551616) := by
  intro s r h
  obtain ⟨h1, h2⟩ := tnS_Inv s r h
  unfold tnI
  refine ⟨by simp only [Int.toNat_natCast]; exact h1, ?_⟩
  unfold U64 at h2
  simp only
  omega
theorem ttS_Inv : Inv ttS (fun b => numB (cond b 1 0)) (fun _ => True) := by
  intro s r h
  refine ⟨?_, trivial⟩
  unfold ttS at h ⊢
  split at h
  · rename_i h1
    obtain ⟨h2, _⟩ := tnS_Inv s r h
    rw [if_pos h1]
    have : cond (decide ((tnS (some s)).1 = 1)) 1 0 = (tnS (some s)).1 := by
      have h3 : (tnS (some s)).1 = 0 ∨ (tnS (some s)).1 = 1 := by omega
      rcases h3 with h3 | h3 <;> rw [h3] <;> rfl
    simp only [this]
    exact h2
  · cases h
theorem tk_Inv {n : Nat} {b r : List UInt8} (h : (tk n (some b)).2 = some r) : b = (tk n (some b)).1 ++ r ∧ (tk n (some b)).1.length = n := by
  have e : tk n (some b) = if n ≤ b.length then (b.take n, some (b.drop n)) else ([], none) := rfl
  rw [e] at h ⊢
  by_cases hb : n ≤ b.length
  · rw [if_pos hb] at h ⊢
    cases h
    exact ⟨(List.take_append_drop n b).symm, by rw [List.length_take]; omega⟩
  · rw [if_neg hb] at h
    cases h
theorem tbS_Inv (M : Nat) : ∀ s r, s.length ≤ M → (tbS (some s)).2 = some r → s = textB (tbS (some s)).1 ++ r ∧ (tbS (some s)).1.size ≤ M := by
  intro s r hM h
  have h : (tk (tnS (some s)).1 (tnS (some s)).2).2 = some r := h
  cases e : (tnS (some s)).2 with
  | none => rw [e] at h; cases h
  | some b =>
    rw [e] at h
    obtain ⟨h1, _⟩ := tnS_Inv s b e
    obtain ⟨h2, h3⟩ := tk_Inv h
    have e2 : (tbS (some s)).1 = ⟨(tk (tnS (some s)).1 (some b)).1.toArray⟩ := by unfold tbS txS; rw [e]
    have e3 : (⟨(tk (tnS (some s)).1 (some b)).1.toArray⟩ : ByteArray).size = (tnS (some s)).1 := h3
    rw [e2]
    refine ⟨?_, ?_⟩
    · unfold textB
      rw [e3]
      show s = numB (tnS (some s)).1 ++ (tk (tnS (some s)).1 (some b)).1 ++ r
      rw [List.append_assoc, ← h2]
      exact h1
    · rw [e3]
      have l1 := congrArg List.length h1
      have l2 := congrArg List.length h2
      rw [List.length_append] at l1 l2
      omega
theorem manyS_Inv {α : Type} {f : Option (List UInt8) → α × Option (List UInt8)} {g : α → List UInt8} {P : α → Prop} (M : Nat) (hf : ∀ s r, s.length ≤ M → (f (some s)).2 = some r → s = g (f (some s)).1 ++ r ∧ P (f (some s)).1) :
    ∀ (n : Nat) (s r : List UInt8), s.length ≤ M → (manyS f n (some s)).2 = some r → s = (manyS f n (some s)).1.flatMap g ++ r ∧ (manyS f n (some s)).1.length = n ∧ ∀ x ∈ (manyS f n (some s)).1, P x := by
  intro n
  induction n with
  | zero => intro s r _ h; cases h; exact ⟨rfl, rfl, fun x hx => by cases hx⟩
  | succ n ih =>
    intro s r hM h
    have h : (manyS f n (f (some s)).2).2 = some r := h
    show s = ((f (some s)).1 :: (manyS f n (f (some s)).2).1).flatMap g ++ r ∧ ((f (some s)).1 :: (manyS f n (f (some s)).2).1).length = n + 1 ∧ ∀ x ∈ (f (some s)).1 :: (manyS f n (f (some s)).2).1, P x
    cases e : (f (some s)).2 with
    | none => rw [e, manyS_none] at h; cases h
    | some r1 =>
      rw [e] at h
      obtain ⟨h1, hp⟩ := hf s r1 hM e
      have l1 := congrArg List.length h1
      rw [List.length_append] at l1
      obtain ⟨h2, h3, h4⟩ := ih r1 r (by omega) h
      refine ⟨?_, by rw [List.length_cons, h3], fun x hx => ?_⟩
      · rw [List.flatMap_cons, List.append_assoc, ← h2]
        exact h1
      · rcases List.mem_cons.1 hx with rfl | hx
        · exact hp
        · exact h4 x hx
theorem listS_Inv {α : Type} {f : Option (List UInt8) → α × Option (List UInt8)} {g : α → List UInt8} {P : α → Prop} (M : Nat) (hf : ∀ s r, s.length ≤ M → (f (some s)).2 = some r → s = g (f (some s)).1 ++ r ∧ P (f (some s)).1) :
    ∀ s r, s.length ≤ M → (listS f (some s)).2 = some r → s = allB g (listS f (some s)).1 ++ r ∧ ∀ x ∈ (listS f (some s)).1, P x := by
  intro s r hM h
  cases e : (tnS (some s)).2 with
  | none => unfold listS at h; rw [e, manyS_none] at h; cases h
  | some b =>
    obtain ⟨h1, _⟩ := tnS_Inv s b e
    have l1 := congrArg List.length h1
    rw [List.length_append] at l1
    unfold listS at h ⊢
    rw [e] at h ⊢
    by_cases hs : (manyS f (tnS (some s)).1 (some b)).2.isSome = true
    · rw [if_pos hs] at h ⊢
      obtain ⟨h2, h3, h4⟩ := manyS_Inv M hf _ b r (by omega) h
      refine ⟨?_, h4⟩
      unfold allB
      rw [h3, List.append_assoc, ← h2]
      exact h1
    · rw [if_neg hs] at h
      cases h
/-- An item of a kind, with nothing. -/
abbrev zIt (k : Int) : It := ⟨k, 0, 0, false, ⟨#[]⟩, none, 0, 0, [], none, 0, 0, [], none, 0, 0, []⟩
theorem zok (k : Int) (w : World) (B : Nat) (hk : 0 ≤ k ∧ k ≤ 255) : ItOk (zIt k) w B :=
  ⟨hk, ⟨(show (0 : Int) ≤ 0 by decide), (show (0 : Int) < 18446744073709551616 by decide)⟩, ⟨(show (-9223372036854775808 : Int) ≤ 0 by decide), (show (0 : Int) ≤ 9223372036854775807 by decide)⟩, Nat.zero_le _, (fun y (hy : y ∈ ([] : List Int)) => by cases hy), (fun y (hy : y ∈ ([] : List Int)) => by cases hy), (fun y (hy : y ∈ ([] : List ByteArray)) => by cases hy), Reads.none_, Reads.none_, Reads.none_, Nat.zero_le _, Nat.zero_le _, Nat.zero_le _⟩
theorem take_1 {st : Option (List UInt8)} {s s' : List UInt8} (hst : st = some s) (hM : s.length ≤ 4000) (h : readS 1 st = some s') :
    s = itB { zIt 1 with i := (tiS st).1 } ++ s' ∧ ∀ W B, ItOk { zIt 1 with i := (tiS st).1 } W B := by
  have e : readS 1 st = (tiS st).2 := by unfold readS; simp
  rw [e] at h
  subst hst
  obtain ⟨h1, h2⟩ := tiS_Inv s s' h
  refine ⟨?_, fun W B => ?_⟩
  · have e2 : itB { zIt 1 with i := (tiS (some s)).1 } = numB (zz (tiS (some s)).1) := by unfold itB; simp
    rw [e2]
    exact h1
  · have z := zok 1 W B (by decide)
    exact ⟨z.k0, z.n0, ⟨h2.1, h2.2⟩, z.s0, z.l0, z.m0, z.t0, z.r1, z.r2, z.r3, z.z1, z.z2, z.z3⟩
theorem take_2 {st : Option (List UInt8)} {s s' : List UInt8} (hst : st = some s) (hM : s.length ≤ 4000) (h : readS 2 st = some s') :
    s = itB { zIt 2 with is := (ttS st).1 } ++ s' ∧ ∀ W B, ItOk { zIt 2 with is := (ttS st).1 } W B := by
  have e : readS 2 st = (ttS st).2 := by unfold readS; simp
  rw [e] at h
  subst hst
  obtain ⟨h1, h2⟩ := ttS_Inv s s' h
  refine ⟨?_, fun W B => ?_⟩
  · have e2 : itB { zIt 2 with is := (ttS (some s)).1 } = numB (cond (ttS (some s)).1 1 0) := by unfold itB; simp
    rw [e2]
    exact h1
  · have z := zok 2 W B (by decide)
    exact ⟨z.k0, z.n0, z.i0, z.s0, z.l0, z.m0, z.t0, z.r1, z.r2, z.r3, z.z1, z.z2, z.z3⟩
theorem take_3 {st : Option (List UInt8)} {s s' : List UInt8} (hst : st = some s) (hM : s.length ≤ 4000) (h : readS 3 st = some s') :
    s = itB { zIt 3 with s := ⟨(txS st).1.toArray⟩ } ++ s' ∧ ∀ W B, ItOk { zIt 3 with s := ⟨(txS st).1.toArray⟩ } W B := by
  have e : readS 3 st = (txS st).2 := by unfold readS; simp
  rw [e] at h
  subst hst
  obtain ⟨h1, h2⟩ := tbS_Inv 4000 s s' hM h
  refine ⟨?_, fun W B => ?_⟩
  · have e2 : itB { zIt 3 with s := ⟨(txS (some s)).1.toArray⟩ } = textB ⟨(txS (some s)).1.toArray⟩ := by unfold itB; simp
    rw [e2]
    exact h1
  · have z := zok 3 W B (by decide)
    exact ⟨z.k0, z.n0, z.i0, Nat.le_trans h2 (by omega), z.l0, z.m0, z.t0, z.r1, z.r2, z.r3, z.z1, z.z2, z.z3⟩
theorem take_0 {st : Option (List UInt8)} {s s' : List UInt8} (hst : st = some s) (hM : s.length ≤ 4000) (h : readS 0 st = some s') :
    s = itB { zIt 0 with n := (((tnS st).1 : Nat) : Int) } ++ s' ∧ ∀ W B, ItOk { zIt 0 with n := (((tnS st).1 : Nat) : Int) } W B := by
  have e : readS 0 st = (tnS st).2 := by unfold readS; simp
  rw [e] at h
  subst hst
  obtain ⟨h1, h2⟩ := tnS_Inv s s' h
  unfold U64 at h2
  refine ⟨?_, fun W B => ?_⟩
  · have e2 : itB { zIt 0 with n := (((tnS (some s)).1 : Nat) : Int) } = numB (tnS (some s)).1 := by unfold itB; simp
    rw [e2]
    exact h1
  · have z := zok 0 W B (by decide)
    exact ⟨z.k0, ⟨(show (0 : Int) ≤ (((tnS (some s)).1 : Nat) : Int) by omega), (show (((tnS (some s)).1 : Nat) : Int) < 18446744073709551616 by omega)⟩, z.i0, z.s0, z.l0, z.m0, z.t0, z.r1, z.r2, z.r3, z.z1, z.z2, z.z3⟩
theorem take_4 {st : Option (List UInt8)} {s s' : List UInt8} (A : Option Addr) (c : Nat) (hst : st = some s) (hM : s.length ≤ 4000) (h : readS 4 st = some s') :
    s = itB { zIt 4 with A1 := A, n1 := (listS tnI st).1.length, c1 := c, l := (listS tnI st).1 } ++ s' ∧ ∀ W B, Reads W B 1 A (listS tnI st).1.length ((listS tnI st).1.map (Value.int .u64)) → ItOk { zIt 4 with A1 := A, n1 := (listS tnI st).1.length, c1 := c, l := (listS tnI st).1 } W B := by
  have e : readS 4 st = (listS tnI st).2 := by unfold readS; simp
  rw [e] at h
  subst hst
  obtain ⟨h1, h2⟩ := listS_Inv (f := tnI) (g := (fun y => numB y.toNat)) (P := (fun y : Int => 0 ≤ y ∧ y < 18446744073709551616)) 4000 (fun s r _ h => tnI_Inv s r h) s s' hM h
  refine ⟨?_, fun W B hq => ?_⟩
  · have e2 : itB { zIt 4 with A1 := A, n1 := (listS tnI (some s)).1.length, c1 := c, l := (listS tnI (some s)).1 } = allB (fun y => numB y.toNat) (listS tnI (some s)).1 := by unfold itB; simp
    rw [e2]
    exact h1
  · have z := zok 4 W B (by decide)
    have hz : (listS tnI (some s)).1.length ≤ 2000000 := Nat.le_trans (listS_len (f := tnI) (fun st h => tnI_rem h) (some s)) (by show s.length + 1 ≤ 2000000; omega)
    exact ⟨z.k0, z.n0, z.i0, z.s0, (h2), z.m0, z.t0, hq, z.r2, z.r3, hz, z.z2, z.z3⟩
theorem take_5 {st : Option (List UInt8)} {s s' : List UInt8} (A : Option Addr) (c : Nat) (hst : st = some s) (hM : s.length ≤ 4000) (h : readS 5 st = some s') :
    s = itB { zIt 5 with A2 := A, n2 := (listS tiS st).1.length, c2 := c, m := (listS tiS st).1 } ++ s' ∧ ∀ W B, Reads W B 1 A (listS tiS st).1.length ((listS tiS st).1.map (Value.int .i64)) → ItOk { zIt 5 with A2 := A, n2 := (listS tiS st).1.length, c2 := c, m := (listS tiS st).1 } W B := by
  have e : readS 5 st = (listS tiS st).2 := by unfold readS; simp
  rw [e] at h
  subst hst
  obtain ⟨h1, h2⟩ := listS_Inv (f := tiS) (g := (fun y => numB (zz y))) (P := I64) 4000 (fun s r _ h => tiS_Inv s r h) s s' hM h
  refine ⟨?_, fun W B hq => ?_⟩
  · have e2 : itB { zIt 5 with A2 := A, n2 := (listS tiS (some s)).1.length, c2 := c, m := (listS tiS (some s)).1 } = allB (fun y => numB (zz y)) (listS tiS (some s)).1 := by unfold itB; simp
    rw [e2]
    exact h1
  · have z := zok 5 W B (by decide)
    have hz : (listS tiS (some s)).1.length ≤ 2000000 := Nat.le_trans (listS_len (f := tiS) (fun st h => tiS_rem h) (some s)) (by show s.length + 1 ≤ 2000000; omega)
    exact ⟨z.k0, z.n0, z.i0, z.s0, z.l0, (fun y hy => ⟨(h2 y hy).1, (h2 y hy).2⟩), z.t0, z.r1, hq, z.r3, z.z1, hz, z.z3⟩
theorem take_6 {st : Option (List UInt8)} {s s' : List UInt8} (A : Option Addr) (c : Nat) (hst : st = some s) (hM : s.length ≤ 4000) (h : readS 6 st = some s') :
    s = itB { zIt 6 with A3 := A, n3 := (listS tbS st).1.length, c3 := c, t := (listS tbS st).1 } ++ s' ∧ ∀ W B, Reads W B 1 A (listS tbS st).1.length ((listS tbS st).1.map (Value.string)) → ItOk { zIt 6 with A3 := A, n3 := (listS tbS st).1.length, c3 := c, t := (listS tbS st).1 } W B := by
  have e : readS 6 st = (listS tbS st).2 := by unfold readS; simp
  rw [e] at h
  subst hst
  obtain ⟨h1, h2⟩ := listS_Inv (f := tbS) (g := textB) (P := (fun y : ByteArray => y.size ≤ 4000)) 4000 (fun s r hM h => tbS_Inv 4000 s r hM h) s s' hM h
  refine ⟨?_, fun W B hq => ?_⟩
  · have e2 : itB { zIt 6 with A3 := A, n3 := (listS tbS (some s)).1.length, c3 := c, t := (listS tbS (some s)).1 } = allB textB (listS tbS (some s)).1 := by unfold itB; simp
    rw [e2]
    exact h1
  · have z := zok 6 W B (by decide)
    have hz : (listS tbS (some s)).1.length ≤ 2000000 := Nat.le_trans (listS_len (f := tbS) (fun st h => tbS_rem h) (some s)) (by show s.length + 1 ≤ 2000000; omega)
    exact ⟨z.k0, z.n0, z.i0, z.s0, z.l0, z.m0, (fun y hy => Nat.le_trans (h2 y hy) (by omega)), z.r1, z.r2, hq, z.z1, z.z2, hz⟩
theorem Far.weak {S S' : Nat → Prop} {w w' : World} (h : Far S w w') (hs : ∀ k, S k → S' k) : Far S' w w' := ⟨h.os, h.tape, h.output, h.size, fun i hi hn => h.block i hi (fun e => hn (hs i e))⟩
/-- The memory when a thing was read into an item. -/
def SR (W0 : World) (bx gr : Nat) (m : Int) (st : Option (List UInt8)) (wx : World) : Prop :=
  ∃ x : It, x.k = m ∧ Blk wx bx 40 (itC x) ∧ RdS wx gr (some ⟨gr, 0, none⟩) true (readS m st) ∧ Far (fun k => k = gr ∨ k = bx) W0 wx ∧
    ∀ s s', st = some s → readS m st = some s' → s = itB x ++ s' ∧ (∃ B, B ≤ wx.heap.size ∧ ItOk x wx B) ∧ ∀ ad, (x.A1 = some ad ∧ 0 < x.n1) ∨ (x.A2 = some ad ∧ 0 < x.n2) ∨ (x.A3 = some ad ∧ 0 < x.n3) → W0.heap.size ≤ ad.block
theorem rs_is {g k : Nat} (h : RSet (some ⟨g, 0, none⟩) k) : k = g := (congrArg Addr.block (Option.some.inj h)).symm
theorem sr_mk {W0 W1 : World} {bx gr : Nat} {m : Int} {st : Option (List UInt8)} {x : It} (d : Nat) (v : Value) (h0 : Blk W0 bx 40 (itC (zIt m))) (hne : gr ≠ bx) (hr : RdS W1 gr (some ⟨gr, 0, none⟩) true (readS m st)) (hf : Far (RSet (some ⟨gr, 0, none⟩)) W0 W1)
    (hx : x.k = m) (hs : (itC (zIt m)).setIfInBounds d v = itC x)
    (hq : ∀ s s', st = some s → readS m st = some s' → s = itB x ++ s' ∧ ItOk x W1 W1.heap.size ∧ ∀ ad, (x.A1 = some ad ∧ 0 < x.n1) ∨ (x.A2 = some ad ∧ 0 < x.n2) ∨ (x.A3 = some ad ∧ 0 < x.n3) → W0.heap.size ≤ ad.block) :
    SR W0 bx gr m st (W1.setCell ⟨bx, d, none⟩ v) := by
  have b1 : Blk W1 bx 40 (itC (zIt m)) := hf.blk h0 (fun e => hne (rs_is e).symm)
  have lt := h0.lt
  have F : Far (fun k => k = bx) W1 (W1.setCell ⟨bx, d, none⟩ v) := (Far.refl (fun k => k = bx) _).setCell (p := ⟨bx, d, none⟩) rfl _
  refine ⟨x, hx, hs ▸ b1.set_ d v, hr.far F (fun _ e => hne e), (hf.weak (fun k e => .inl (rs_is e))).trans F (fun _ _ e => .inr e), fun s s' e h => ?_⟩
  obtain ⟨h1, h2, h3⟩ := hq s s' e h
  exact ⟨h1, ⟨_, F.size, h2.far F (Nat.le_refl _) (fun ad ha e => by have := h3 ad ha; have e : ad.block = bx := e; omega)⟩, h3⟩
end Go.Proofs.Ytijkfllolcgfhaa.Pack
