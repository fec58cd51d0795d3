/- Chapter 3: PackWrites, walked: it returns true, for every input. No condition. -/
import Derived.Test.YtijkfllolcgfhaaPackG
namespace Go.Proofs.Ytijkfllolcgfhaa.Pack
open Go.RowKit
set_option linter.unusedVariables false
set_option linter.unusedSimpArgs false

theorem flat_len_le {α : Type} (f : α → List UInt8) (g : α → Nat) : ∀ (xs : List α), (∀ x ∈ xs, (f x).length ≤ g x) → (xs.flatMap f).length ≤ (xs.map g).sum
  | [], _ => by simp
  | x :: xs, h => by
    have := flat_len_le f g xs (fun y hy => h y (List.mem_cons_of_mem _ hy))
    have := h x (List.mem_cons_self ..)
    rw [List.flatMap_cons, List.length_append, List.map_cons, List.sum_cons]
    omega
theorem sum_const {α : Type} (c : Nat) (xs : List α) : (xs.map (fun _ => c)).sum = xs.length * c := by
  induction xs with
  | nil => simp
  | cons x l ih => rw [List.map_cons, List.sum_cons, ih, List.length_cons, Nat.succ_mul]; omega
theorem sum_add {α : Type} (f : α → Nat) (c : Nat) (xs : List α) : (xs.map (fun x => c + f x)).sum = xs.length * c + (xs.map f).sum := by
  induction xs with
  | nil => simp
  | cons x l ih => rw [List.map_cons, List.sum_cons, ih, List.length_cons, List.map_cons, List.sum_cons, Nat.succ_mul]; omega
theorem textB_len {s : ByteArray} (h : s.size ≤ 140737488351232) : (textB s).length ≤ 9 + s.size := by
  have := numB_len (n := s.size) (by unfold U64; omega)
  have e : s.data.toList.length = s.size := Array.length_toList
  unfold textB
  rw [List.length_append, e]
  omega
theorem item_len {x : It} {w : World} (h : ItRd x w) : (itB x).length ≤ 9 + 9 * sizeI x := by
  have e1 : x.l.length = x.n1 := by have := h.r1.1; simpa using this
  have e2 : x.m.length = x.n2 := by have := h.r2.1; simpa using this
  have e3 : x.t.length = x.n3 := by have := h.r3.1; simpa using this
  have hz := zz_u64 (n := x.i) ⟨h.i0.1, h.i0.2⟩
  have z1 := h.z1
  have z2 := h.z2
  have z3 := h.z3
  have n0 := h.n0
  unfold itB
  split
  · have := numB_len hz; omega
  split
  · have : ∀ b : Bool, (numB (cond b 1 0)).length ≤ 9 := by decide
    have := this x.is
    omega
  split
  · have := textB_len h.s0; unfold sizeI own; omega
  split
  · have h1 := numB_len (n := x.l.length) (by unfold U64; omega)
    have h2 := flat_len_le (fun y : Int => numB y.toNat) (fun _ => 9) x.l (fun y hy => numB_len (by have := h.l0 y hy; unfold U64; omega))
    rw [sum_const] at h2
    unfold allB sizeI own
    rw [List.length_append]
    omega
  split
  · have h1 := numB_len (n := x.m.length) (by unfold U64; omega)
    have h2 := flat_len_le (fun y : Int => numB (zz y)) (fun _ => 9) x.m (fun y hy => numB_len (zz_u64 ⟨(h.m0 y hy).1, (h.m0 y hy).2⟩))
    rw [sum_const] at h2
    unfold allB sizeI own
    rw [List.length_append]
    omega
  split
  · have h1 := numB_len (n := x.t.length) (by unfold U64; omega)
    have h2 := flat_len_le textB (fun y => 9 + y.size) x.t (fun y hy => textB_len (h.t0 y hy))
    rw [sum_add] at h2
    unfold allB sizeI own sumT
    rw [List.length_append]
    omega
  · have := numB_len (n := x.n.toNat) (by unfold U64; omega); omega
theorem size_le {xs : List It} {x : It} (hx : x ∈ xs) (h : total xs ≤ 4000) : sizeI x ≤ 4000 := by
  have key : ∀ (xs : List It), x ∈ xs → sizeI x ≤ (xs.map sizeI).sum := by
    intro xs
    induction xs with
    | nil => intro h; cases h
    | cons y l ih =>
      intro h
      rw [List.map_cons, List.sum_cons]
      rcases List.mem_cons.1 h with rfl | h
      · omega
      · have := ih h; omega
  exact Nat.le_trans (key xs hx) h
theorem mem_size {t : List ByteArray} {y : ByteArray} (hy : y ∈ t) : y.size ≤ sumT t := by
  unfold sumT
  induction t with
  | nil => cases hy
  | cons z l ih =>
    rw [List.map_cons, List.sum_cons]
    rcases List.mem_cons.1 hy with rfl | h
    · omega
    · have := ih h; omega
theorem ItRd.ok {x : It} {w : World} (h : ItRd x w) (hs : sizeI x ≤ 4000) : ItOk x w w.heap.size := by
  unfold sizeI own at hs
  exact ⟨h.k0, h.n0, h.i0, by omega, h.l0, h.m0, fun y hy => by have := mem_size hy; omega, h.r1, h.r2, h.r3, by omega, by omega, by omega⟩
theorem Reads.blk_lt {w : World} {B size n : Nat} {A : Option Addr} {xs : List Value} (h : Reads w B size A n xs) (hA : ∀ ad, A = some ad → 0 < n) : ∀ ad, A = some ad → ad.block < B := fun ad e => by
  obtain ⟨ad', e', hb, _⟩ := h.2 (hA ad e)
  cases e.symm.trans e'
  exact hb
end Go.Proofs.Ytijkfllolcgfhaa.Pack
