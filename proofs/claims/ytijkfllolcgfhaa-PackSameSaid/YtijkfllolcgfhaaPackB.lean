/- Chapter 3: what is written is read back; and of fewer bytes not all. Plain. -/
import Derived.Test.YtijkfllolcgfhaaPackV
namespace Go.Proofs.Ytijkfllolcgfhaa.Pack
open Go.RowKit
set_option linter.unusedVariables false
set_option linter.unusedSimpArgs false

/-- What is read stays, whatever follows. -/
def More {α : Type} (f : Option (List UInt8) → α × Option (List UInt8)) : Prop := ∀ l r t, (f (some l)).2 = some r → f (some (l ++ t)) = ((f (some l)).1, some (r ++ t))
theorem tnS_More : More tnS := by
  intro l r t h
  cases e : tn l with
  | none => rw [tnS_none (st := some l) e] at h; cases h
  | some q =>
    obtain ⟨n, r0⟩ := q
    have e1 := tnS_some (st := some l) e
    rw [e1] at h ⊢
    cases h
    exact tnS_some (st := some (l ++ t)) (tn_more e)
theorem tiS_More : More tiS := by
  intro l r t h
  have := tnS_More l r t h
  unfold tiS
  rw [this]
theorem tnI_More : More tnI := by
  intro l r t h
  have := tnS_More l r t h
  unfold tnI
  rw [this]
theorem ttS_More : More ttS := by
  intro l r t h
  unfold ttS at h ⊢
  split at h
  · rename_i h1
    rw [if_pos h1, tnS_More l r t h, if_pos h1]
  · cases h
theorem tk_More (n : Nat) (b r t : List UInt8) (h : (tk n (some b)).2 = some r) : tk n (some (b ++ t)) = ((tk n (some b)).1, some (r ++ t)) := by
  have e : ∀ b : List UInt8, tk n (some b) = if n ≤ b.length then (b.take n, some (b.drop n)) else ([], none) := fun _ => rfl
  rw [e b] at h ⊢
  rw [e]
  by_cases hb : n ≤ b.length
  · rw [if_pos hb] at h ⊢
    rw [if_pos (by rw [List.length_append]; omega), List.take_append_of_le_length hb, List.drop_append_of_le_length hb]
    cases h
    rfl
  · rw [if_neg hb] at h
    cases h
theorem txS_More : More txS := by
  intro l r t h
  cases e : (tnS (some l)).2 with
  | none => unfold txS at h; rw [e] at h; cases h
  | some b =>
    have h1 := tnS_More l b t e
    unfold txS at h ⊢
    rw [h1]
    rw [e] at h ⊢
    exact tk_More _ b r t h
theorem tbS_More : More tbS := by
  intro l r t h
  have := txS_More l r t h
  unfold tbS
  rw [this]
theorem manyS_More {α : Type} {f : Option (List UInt8) → α × Option (List UInt8)} (hf : More f) : ∀ n, More (manyS f n) := by
  intro n
  induction n with
  | zero => intro l r t h; cases h; rfl
  | succ n ih =>
    intro l r t h
    have h : (manyS f n (f (some l)).2).2 = some r := h
    show ((f (some (l ++ t))).1 :: (manyS f n (f (some (l ++ t))).2).1, (manyS f n (f (some (l ++ t))).2).2) = ((f (some l)).1 :: (manyS f n (f (some l)).2).1, some (r ++ t))
    cases e : (f (some l)).2 with
    | none => rw [e, manyS_none] at h; cases h
    | some r1 =>
      rw [e] at h
      rw [hf l r1 t e]
      have := ih r1 r t h
      simp only [this]
theorem listS_More {α : Type} {f : Option (List UInt8) → α × Option (List UInt8)} (hf : More f) : More (listS f) := by
  intro l r t h
  cases e : (tnS (some l)).2 with
  | none => unfold listS at h; rw [e, manyS_none] at h; cases h
  | some b =>
    have h1 := tnS_More l b t e
    unfold listS at h ⊢
    rw [h1]
    rw [e] at h ⊢
    by_cases hs : (manyS f (tnS (some l)).1 (some b)).2.isSome = true
    · rw [if_pos hs] at h ⊢
      have := manyS_More hf (tnS (some l)).1 b r t h
      simp only [this]
      rfl
    · rw [if_neg hs] at h
      cases h
theorem readS_More (k : Int) (l r t : List UInt8) (h : readS k (some l) = some r) : readS k (some (l ++ t)) = some (r ++ t) := by
  unfold readS at h ⊢
  split at h
  · rename_i h1; rw [if_pos h1, tiS_More l r t h]
  rename_i n1; rw [if_neg n1]
  split at h
  · rename_i h1; rw [if_pos h1, ttS_More l r t h]
  rename_i n2; rw [if_neg n2]
  split at h
  · rename_i h1; rw [if_pos h1, txS_More l r t h]
  rename_i n3; rw [if_neg n3]
  split at h
  · rename_i h1; rw [if_pos h1, listS_More tnI_More l r t h]
  rename_i n4; rw [if_neg n4]
  split at h
  · rename_i h1; rw [if_pos h1, listS_More tiS_More l r t h]
  rename_i n5; rw [if_neg n5]
  split at h
  · rename_i h1; rw [if_pos h1, listS_More tbS_More l r t h]
  rename_i n6; rw [if_neg n6]
  rw [tnS_More l r t h]
/-- All read, one behind the other. -/
def rdA (ks : List Int) (st : Option (List UInt8)) : Option (List UInt8) := ks.foldl (fun s k => readS k s) st
theorem rdA_none (ks : List Int) : rdA ks none = none := by
  induction ks with
  | nil => rfl
  | cons k ks ih => show rdA ks (readS k none) = none; rw [readS_none]; exact ih
theorem rdA_snoc (ks : List Int) (k : Int) (st : Option (List UInt8)) : rdA (ks ++ [k]) st = readS k (rdA ks st) := by
  unfold rdA
  rw [List.foldl_append]
  rfl
theorem rdA_More : ∀ (ks : List Int) (l r t : List UInt8), rdA ks (some l) = some r → rdA ks (some (l ++ t)) = some (r ++ t)
  | [], l, r, t, h => by cases h; rfl
  | k :: ks, l, r, t, h => by
    have h : rdA ks (readS k (some l)) = some r := h
    show rdA ks (readS k (some (l ++ t))) = some (r ++ t)
    cases e : readS k (some l) with
    | none => rw [e, rdA_none] at h; cases h
    | some r1 =>
      rw [e] at h
      rw [readS_More k l r1 t e]
      exact rdA_More ks r1 r t h
theorem tnS_back {n : Nat} (h : U64 n) (r : List UInt8) : tnS (some (numB n ++ r)) = (n, some r) := tnS_some (st := some (numB n ++ r)) (tn_num h r)
theorem tiS_back {i : Int} (h : I64 i) (r : List UInt8) : tiS (some (numB (zz i) ++ r)) = (i, some r) := by
  unfold tiS
  rw [tnS_back (zz_u64 h), unzz_zz]
theorem tnI_back {y : Int} (h : 0 ≤ y ∧ y < 18446744073709551616) (r : List UInt8) : tnI (some (numB y.toNat ++ r)) = (y, some r) := by
  unfold tnI
  rw [tnS_back (by unfold U64; omega)]
  simp only [Prod.mk.injEq, and_true]
  omega
theorem ttS_back (b : Bool) (r : List UInt8) : ttS (some (numB (cond b 1 0) ++ r)) = (b, some r) := by
  unfold ttS
  rw [tnS_back (by unfold U64; cases b <;> simp)]
  cases b <;> simp
theorem txS_back {s : ByteArray} (h : s.size < 18446744073709551616) (r : List UInt8) : txS (some (textB s ++ r)) = (s.data.toList, some r) := by
  have e : s.data.toList.length = s.size := Array.length_toList
  unfold txS textB
  rw [List.append_assoc, tnS_back h]
  show tk s.size (some (s.data.toList ++ r)) = _
  unfold tk
  simp only [List.length_append]
  rw [if_pos (by omega), ← e, List.take_left, List.drop_left]
theorem tbS_back {s : ByteArray} (h : s.size < 18446744073709551616) (r : List UInt8) : tbS (some (textB s ++ r)) = (s, some r) := by
  unfold tbS
  rw [txS_back h]
theorem manyS_back {α : Type} {f : Option (List UInt8) → α × Option (List UInt8)} {g : α → List UInt8} (r : List UInt8) : ∀ (xs : List α), (∀ x ∈ xs, ∀ r, f (some (g x ++ r)) = (x, some r)) → manyS f xs.length (some (xs.flatMap g ++ r)) = (xs, some r)
  | [], _ => rfl
  | x :: xs, h => by
    have h1 := h x (List.mem_cons_self ..) (xs.flatMap g ++ r)
    have h2 := manyS_back r xs (fun y hy => h y (List.mem_cons_of_mem _ hy))
    rw [List.flatMap_cons, List.append_assoc]
    show ((f (some (g x ++ (xs.flatMap g ++ r)))).1 :: (manyS f xs.length (f (some (g x ++ (xs.flatMap g ++ r)))).2).1, (manyS f xs.length (f (some (g x ++ (xs.flatMap g ++ r)))).2).2) = _
    rw [h1]
    simp only [h2]
theorem listS_back {α : Type} {f : Option (List UInt8) → α × Option (List UInt8)} {g : α → List UInt8} (r : List UInt8) (xs : List α) (hl : U64 xs.length) (h : ∀ x ∈ xs, ∀ r, f (some (g x ++ r)) = (x, some r)) : listS f (some (allB g xs ++ r)) = (xs, some r) := by
  unfold listS allB
  rw [List.append_assoc, tnS_back hl]
  simp only [manyS_back r xs h]
  rfl
/-- A thing read as it was written. -/
def gotP (x : It) (st : Option (List UInt8)) : Prop :=
  if x.k % 7 = 1 then (tiS st).1 = x.i else if x.k % 7 = 2 then (ttS st).1 = x.is else if x.k % 7 = 3 then (⟨(txS st).1.toArray⟩ : ByteArray) = x.s else
  if x.k % 7 = 4 then (listS tnI st).1 = x.l else if x.k % 7 = 5 then (listS tiS st).1 = x.m else if x.k % 7 = 6 then (listS tbS st).1 = x.t else (((tnS st).1 : Nat) : Int) = x.n
theorem got_back {x : It} {w : World} {B : Nat} (hx : ItOk x w B) (r : List UInt8) : gotP x (some (itB x ++ r)) ∧ readS x.k (some (itB x ++ r)) = some r := by
  have e1 : x.l.length = x.n1 := by have := hx.r1.1; simpa using this
  have e2 : x.m.length = x.n2 := by have := hx.r2.1; simpa using this
  have e3 : x.t.length = x.n3 := by have := hx.r3.1; simpa using this
  have z1 := hx.z1
  have z2 := hx.z2
  have z3 := hx.z3
  have n0 := hx.n0
  have hs := hx.s0
  unfold gotP readS itB
  by_cases h1 : x.k % 7 = 1
  · simp only [if_pos h1]; rw [tiS_back ⟨hx.i0.1, hx.i0.2⟩]; exact ⟨rfl, rfl⟩
  simp only [if_neg h1]
  by_cases h2 : x.k % 7 = 2
  · simp only [if_pos h2]; rw [ttS_back]; exact ⟨rfl, rfl⟩
  simp only [if_neg h2]
  by_cases h3 : x.k % 7 = 3
  · simp only [if_pos h3]; rw [txS_back (by omega)]; exact ⟨rfl, rfl⟩
  simp only [if_neg h3]
  by_cases h4 : x.k % 7 = 4
  · simp only [if_pos h4]; rw [listS_back (f := tnI) r x.l (by unfold U64; omega) (fun y hy r => tnI_back (hx.l0 y hy) r)]; exact ⟨rfl, rfl⟩
  simp only [if_neg h4]
  by_cases h5 : x.k % 7 = 5
  · simp only [if_pos h5]; rw [listS_back (f := tiS) r x.m (by unfold U64; omega) (fun y hy r => tiS_back ⟨(hx.m0 y hy).1, (hx.m0 y hy).2⟩ r)]; exact ⟨rfl, rfl⟩
  simp only [if_neg h5]
  by_cases h6 : x.k % 7 = 6
  · simp only [if_pos h6]; rw [listS_back (f := tbS) r x.t (by unfold U64; omega) (fun y hy r => tbS_back (by have := hx.t0 y hy; omega) r)]; exact ⟨rfl, rfl⟩
  simp only [if_neg h6]
  rw [tnS_back (by unfold U64; omega)]
  exact ⟨by show ((x.n.toNat : Nat) : Int) = x.n; omega, rfl⟩
/-- Of bytes of which the last is missing not all is read. -/
theorem rdA_cut {ks : List Int} {b : List UInt8} (h : rdA ks (some b) = some []) (hb : b ≠ []) : rdA ks (some b.dropLast) = none := by
  cases e : rdA ks (some b.dropLast) with
  | none => rfl
  | some r =>
    have h1 := rdA_More ks _ r [b.getLast hb] e
    rw [List.dropLast_concat_getLast, h] at h1
    have := Option.some.inj h1
    simp at this
end Go.Proofs.Ytijkfllolcgfhaa.Pack
