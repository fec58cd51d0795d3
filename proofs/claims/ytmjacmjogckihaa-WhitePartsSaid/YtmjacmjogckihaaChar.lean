/- Lists of characters: five cells each; whether two are the same. No condition. -/
import Derived.Test.YtmjacmjogckihaaChecked
import Derived.Test.YtmjacmjogckihaaOpen
import Derived.Test.YtmjacmjogckihaaMore
namespace Go.Proofs.Ytmjacmjogckihaa
open Go.RowKit
set_option linter.unusedVariables false
set_option linter.unusedSimpArgs false

/-- A character: its rune, node, place, length, kind. -/
structure Cr where
  r : Int
  node : Int
  p : Int
  n : Int
  kind : Int
deriving DecidableEq
/-- As the program holds it. -/
abbrev crV (c : Cr) : Value := .agg #[.int .i32 c.r, .int .i64 c.node, .int .i64 c.p, .int .i64 c.n, .int .u8 c.kind]
def crC (c : Cr) : List Value := [.int .i32 c.r, .int .i64 c.node, .int .i64 c.p, .int .i64 c.n, .int .u8 c.kind]
def crL (xs : List Cr) : List Value := xs.flatMap crC
theorem crL_len (xs : List Cr) : (crL xs).length = xs.length * 5 := by
  induction xs with
  | nil => rfl
  | cons x xs ih => unfold crL at *; rw [List.flatMap_cons, List.length_append, ih, List.length_cons]; simp [crC]; omega
theorem crL_app (xs ys : List Cr) : crL (xs ++ ys) = crL xs ++ crL ys := List.flatMap_append
theorem crL_cons (x : Cr) (xs : List Cr) : crL (x :: xs) = crC x ++ crL xs := rfl
theorem crL_at (xs : List Cr) (j : Nat) (c : Cr) (h : xs[j]? = some c) (q : Nat) (hq : q < 5) : (crL xs)[j * 5 + q]? = (crC c)[q]? := by
  induction xs generalizing j with
  | nil => simp at h
  | cons x xs ih =>
    rw [crL_cons]
    have hc : (crC x).length = 5 := rfl
    match j, h with
    | 0, h =>
      simp at h
      subst h
      rw [Nat.zero_mul, Nat.zero_add, List.getElem?_append_left (by rw [hc]; exact hq)]
    | j + 1, h =>
      rw [List.getElem?_append_right (by rw [hc]; omega), hc, show (j + 1) * 5 + q - 5 = j * 5 + q by omega]
      exact ih j (by simpa using h)
theorem add_zero_ (a : Addr) : a.add 0 = a := by unfold Addr.add; rw [if_pos rfl]
/-- Five cells in a row. -/
structure Cell5 (w : World) (a : Addr) (c : Cr) : Prop where
  c0 : w.cell? a = some (.int .i32 c.r)
  c1 : w.cell? ⟨a.block, a.off + 1, none⟩ = some (.int .i64 c.node)
  c2 : w.cell? ⟨a.block, a.off + 2, none⟩ = some (.int .i64 c.p)
  c3 : w.cell? ⟨a.block, a.off + 3, none⟩ = some (.int .i64 c.n)
  c4 : w.cell? ⟨a.block, a.off + 4, none⟩ = some (.int .u8 c.kind)
theorem reads_cr {w : World} {B n : Nat} {A : Option Addr} {xs : List Cr} (hr : Reads w B 5 A n (crL xs)) {j : Nat} (hj : j < n) :
    ∃ ad c, A = some ad ∧ ad.block < B ∧ xs[j]? = some c ∧ Cell5 w (ad.add (j * 5)) c := by
  obtain ⟨ad, e, hb, hc⟩ := hr.2 (by omega)
  have hl := hr.1
  rw [crL_len] at hl
  have hj2 : j < xs.length := by omega
  have hx := List.getElem?_eq_getElem hj2
  refine ⟨ad, xs[j], e, hb, hx, ?_⟩
  have key : ∀ q u, q < 5 → (crC xs[j])[q]? = some u → w.cell? ((ad.add (j * 5)).add q) = some u := fun q u hq hu => by
    rw [add_of_add]
    exact hc _ _ (by rw [crL_at xs j _ hx q hq]; exact hu)
  have k0 := key 0 _ (by omega) rfl
  have k1 := key 1 _ (by omega) rfl
  have k2 := key 2 _ (by omega) rfl
  have k3 := key 3 _ (by omega) rfl
  have k4 := key 4 _ (by omega) rfl
  rw [add_zero_] at k0
  rw [add_pos] at k1 k2 k3 k4
  exact ⟨k0, k1, k2, k3, k4⟩
theorem beq_cr (x y : Cr) : (x.r == y.r && (x.node == y.node && (x.p == y.p && (x.n == y.n && x.kind == y.kind)))) = decide (x = y) := by
  obtain ⟨a, b, c, d, e⟩ := x
  obtain ⟨a', b', c', d', e'⟩ := y
  by_cases h : (Cr.mk a b c d e) = ⟨a', b', c', d', e'⟩
  · rw [decide_eq_true h]
    simp only [Cr.mk.injEq] at h
    simp [h]
  · rw [decide_eq_false h]
    simp only [Cr.mk.injEq] at h
    simp only [Bool.and_eq_false_iff, beq_eq_false_iff_ne]
    omega
theorem neq_cr (W : World) (x y : Cr) : (binOp .neq 38 (crV x) (crV y)).run Try.prog W = .ok (.bool (!decide (x = y))) W := by
  rw [← beq_cr]
  go_simp
  by_cases h1 : x.r = y.r <;> by_cases h2 : x.node = y.node <;> by_cases h3 : x.p = y.p <;> by_cases h4 : x.n = y.n <;> by_cases h5 : x.kind = y.kind <;> simp [h1, h2, h3, h4, h5]
def sameCr (xs ys : List Cr) : Bool := decide (xs = ys)
theorem step_cr (xs ys : List Cr) (k : Nat) (x y : Cr) (h : xs[k]? = some x) (g : ys[k]? = some y) : (xs.drop k = ys.drop k) ↔ (x = y ∧ xs.drop (k + 1) = ys.drop (k + 1)) := by
  obtain ⟨h1, rfl⟩ := List.getElem?_eq_some_iff.1 h
  obtain ⟨h2, rfl⟩ := List.getElem?_eq_some_iff.1 g
  rw [List.drop_eq_getElem_cons h1, List.drop_eq_getElem_cons h2, List.cons.injEq]
end Go.Proofs.Ytmjacmjogckihaa
