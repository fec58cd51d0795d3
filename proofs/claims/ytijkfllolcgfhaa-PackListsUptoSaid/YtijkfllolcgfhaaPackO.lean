/- Chapter 3: items and lists that came in, opened. Plain laws of readings; no condition. -/
import Derived.Test.YtijkfllolcgfhaaPackLw
import Derived.DataShut
namespace Go.Proofs.Ytijkfllolcgfhaa.Pack
open Go.RowKit Go.Joins Go.ChangeShapes Go.WideShapes Go.Deep
set_option linter.unusedVariables false
set_option linter.unusedSimpArgs false

theorem u8_wf {x : Int} (h : (Lit.int .u8 x).wf = true) : 0 ≤ x ∧ x ≤ 255 := (Lit.wf_int_iff .u8 x).1 h
theorem u64_wf {x : Int} (h : (Lit.int .u64 x).wf = true) : 0 ≤ x ∧ x < 18446744073709551616 := by
  have h1 : 0 ≤ x ∧ x ≤ 18446744073709551615 := (Lit.wf_int_iff .u64 x).1 h
  exact ⟨h1.1, by omega⟩
theorem i64_wf {x : Int} (h : (Lit.int .i64 x).wf = true) : -9223372036854775808 ≤ x ∧ x ≤ 9223372036854775807 := (Lit.wf_int_iff .i64 x).1 h
section
variable {H : Type} {enc : TypeId × Value → H} {w : World} {base : Nat} {held : Bool}
theorem cells8 : Try.prog.cellsOf 40 = 8 := by kernel_rfl
set_option maxRecDepth 100000 in
theorem open_item (cs : List Value) (n : Nat) (y : DataW H × List MemPlace) (hcl : cs.length = 8) (h : DataW.trod enc Try.prog w base (fun _ => true) held n 40 cs = some y) (hw : Lim Try.prog 40 y.1) :
    ∃ a : It, cs = itL a ∧ ItRd a w := by
  obtain ⟨_, hf⟩ := tree_fields Try.underlying40 (by kernel_rfl) h hw
  match cs, hcl with
  | [c0, c1, c2, c3, c4, c5, c6, c7], _ =>
    obtain ⟨_, n0, y0, e0, t0, l0⟩ := hf 0 _ rfl (by simp)
    obtain ⟨_, n1, y1, e1, t1, l1⟩ := hf 1 _ rfl (by simp)
    obtain ⟨_, n2, y2, e2, t2, l2⟩ := hf 2 _ rfl (by simp)
    obtain ⟨_, n3, y3, e3, t3, l3⟩ := hf 3 _ rfl (by simp)
    obtain ⟨_, n4, y4, e4, t4, l4⟩ := hf 4 _ rfl (by simp)
    obtain ⟨_, n5, y5, e5, t5, l5⟩ := hf 5 _ rfl (by simp)
    obtain ⟨_, n6, y6, e6, t6, l6⟩ := hf 6 _ rfl (by simp)
    obtain ⟨_, n7, y7, e7, t7, l7⟩ := hf 7 _ rfl (by simp)
    cases e0; cases e1; cases e2; cases e3; cases e4; cases e5; cases e6; cases e7
    obtain ⟨a0, q0, _, f0⟩ := DataW.trod_int Try.underlying5 t0
    obtain ⟨a1, q1, _, f1⟩ := DataW.trod_int Try.underlying22 t1
    obtain ⟨a2, q2, _, f2⟩ := DataW.trod_int Try.underlying2 t2
    obtain ⟨a3, q3, _⟩ := DataW.trod_bool Try.underlying4 t3
    obtain ⟨a4, q4, f4⟩ := tree_string Try.underlying9 t4 l4
    obtain ⟨A5, m5, p5, xs5, q5, g5, _, _, b5, _, _, o5, r5⟩ := tree_ints Try.underlying36 Try.underlying22 (by kernel_rfl) (B := 8) (by kernel_rfl) t5 l5
    obtain ⟨A6, m6, p6, xs6, q6, g6, _, _, b6, _, _, o6, r6⟩ := tree_ints Try.underlying37 Try.underlying2 (by kernel_rfl) (B := 8) (by kernel_rfl) t6 l6
    obtain ⟨A7, m7, p7, xs7, q7, g7, _, _, b7, _, _, o7, r7⟩ := tree_strings Try.underlying38 Try.underlying9 (by kernel_rfl) (B := 16) (by kernel_rfl) t7 l7
    cases q0; cases q1; cases q2; cases q3; cases q4; cases q5; cases q6; cases q7
    refine ⟨⟨a0, a1, a2, a3, a4, A5, m5, p5, xs5, A6, m6, p6, xs6, A7, m7, p7, xs7⟩, rfl, ?_⟩
    exact ⟨u8_wf f0, u64_wf f1, i64_wf f2, f4, fun y hy => u64_wf (o5 y hy), fun y hy => i64_wf (o6 y hy), o7, r5, r6, r7, b5, b6, b7⟩
theorem open_items {fuel : Nat} {v : Value} {x : DataW H × List MemPlace} (h : DataW.trod enc Try.prog w base (fun _ => true) held fuel 31 [v] = some x) (hw : Lim Try.prog 31 x.1) :
    ∃ (A : Option Addr) (len cap : Nat) (xs : List It), v = .slice A len cap ∧ xs.length = len ∧ len * 120 ≤ 140737488351232 ∧ (∀ a ∈ xs, ItRd a w) ∧ Reads w w.heap.size 8 A len (xs.flatMap itL) := by
  obtain ⟨A, len, cap, xs, h1, h2, _, _, h5, _, _, h8, h9⟩ := tree_list itL (fun a => ItRd a w) itL_len Try.underlying31 cells8 (by omega) (B := 120) (by kernel_rfl) open_item h hw
  exact ⟨A, len, cap, xs, h1, h2, h5, h8, h9⟩
end
end Go.Proofs.Ytijkfllolcgfhaa.Pack
