/- PackLists: for every input the call returns true, and each argument reads behind the call as it read before. Of bulk at most 1048576. -/
import Derived.Test.YtijkfllolcgfhaaRows
import Derived.Test.YtijkfllolcgfhaaOpen
import Derived.Test.YtijkfllolcgfhaaPackLs
import Derived.Test.YtijkfllolcgfhaaPackO
import Derived.Test.YtijkfllolcgfhaaPackU
import Derived.JoinedCond
namespace Go.Proofs.Ytijkfllolcgfhaa.packListsUptoRowText
open Go.ChangeShapes Go.WideShapes Go.ChangeAt Go.RowKit Go.Deep
open Go.ChangeMaps (open_string shut_string)
set_option linter.unusedVariables false
theorem own : ownKnob Try.prog.godebug = none := by kernel_rfl
theorem laidOut : laidOutB Try.prog = true := by kernel_rfl
set_option maxRecDepth 100000 in
theorem lifted (os : Os) (started : os.Started) (H : Type) (enc : TypeId × Value → H) (F0 : Stop.Interp) :
    ReturnsInHanded {} Try.checked os 5 .any ((Rows.OpenSpec.upto Rows.packListsSpec).pre6 enc Try.prog Try.f5 Rows.packListsUptoRow.domain false) (((Rows.OpenSpec.upto Rows.packListsSpec).at F0).post enc Try.prog Try.f5 false true false false) := by
  refine returnsInHanded_of_cond (C := Try.checked) (s := Rows.OpenSpec.upto Rows.packListsSpec) (k := Rows.uptoSmall) rfl own started (by kernel_rfl) Try.func5
    (OpenSpec.witness (enc := enc) (C := Try.checked) (s := Rows.OpenSpec.upto Rows.packListsSpec) (k := Rows.uptoSmall) rfl false ⟨#[], #[.slice none 0 0, .slice none 0 0, .slice none 0 0], []⟩ 8 (by kernel_rfl) (by kernel_rfl) (by kernel_rfl) (x := ([.nil, .nil, .nil], [], [])) (by kernel_rfl) (by kernel_rfl) (by kernel_rfl)) ?_
  intro W base args ds gs before hval0 hW _ hk0 _
  have hval : ∀ (j : Nat) t v, Try.f5.params[j]? = some t → args[j]? = some v → Value.okWide Try.prog W .any base t v := hval0
  have hW' := hW
  obtain ⟨p, q, hA0, hV, rfl, hfz, hnd⟩ := hW
  have hA : DataW.TrodAll enc Try.prog W 0 (fun _ => true) true Try.f5.params.toList args.toList ds p := hA0
  rw [Try.params5] at hA hval
  obtain ⟨v0, vs0, d0, ds0, p0, q0, hargs, rfl, rfl, h0, r0⟩ := trodAll_cons hA
  obtain ⟨v1, vs1, d1, ds1, p1, q1, rfl, rfl, rfl, h1, r1⟩ := trodAll_cons r0
  obtain ⟨v2, vs2, d2, ds2, p2, q2, rfl, rfl, rfl, h2, r2⟩ := trodAll_cons r1
  obtain ⟨rfl, rfl, rfl⟩ := trodAll_nil r2
  obtain rfl : args = #[v0, v1, v2] := by cases args; simp_all
  obtain ⟨rfl, rfl⟩ := trodVars_none hV
  have k0 := h0
  have lt0 : ∀ x ∈ p0, x.block < W.heap.size := by obtain ⟨m, hm⟩ := k0; exact DataW.trod_lt m _ _ _ hm
  obtain ⟨A0, n0, c0, rfl⟩ := okWide_slice Try.underlying36 (hval 0 36 v0 rfl rfl)
  obtain ⟨xs0, hl0, hc0, hm0, wf0, hr0⟩ := reads_ints Try.underlying36 Try.underlying22 (by kernel_rfl) h0
  have k1 := h1
  have lt1 : ∀ x ∈ p1, x.block < W.heap.size := by obtain ⟨m, hm⟩ := k1; exact DataW.trod_lt m _ _ _ hm
  obtain ⟨A1, n1, c1, rfl⟩ := okWide_slice Try.underlying37 (hval 1 37 v1 rfl rfl)
  obtain ⟨xs1, hl1, hc1, hm1, wf1, hr1⟩ := reads_ints Try.underlying37 Try.underlying2 (by kernel_rfl) h1
  have k2 := h2
  have lt2 : ∀ x ∈ p2, x.block < W.heap.size := by obtain ⟨m, hm⟩ := k2; exact DataW.trod_lt m _ _ _ hm
  have HB2 : Rows.uptoBulk d2 ≤ 1048576 := Nat.le_trans (Pack.bulk_all _ d2 (by simp)) (of_decide_eq_true hk0)
  obtain ⟨fu2, hf2⟩ := h2
  obtain ⟨AA2, nn2, cc2, rfl⟩ := okWide_slice Try.underlying38 (hval 2 38 v2 rfl rfl)
  obtain ⟨A2, n2, c2, xs2, eq2, hl2, hc2, hm2, tt2, hr2⟩ := Pack.texts_few Try.underlying38 Try.underlying9 (by kernel_rfl) (by simpa [Value.cells] using hf2) HB2
  obtain ⟨rfl, rfl, rfl⟩ : A2 = AA2 ∧ n2 = nn2 ∧ c2 = cc2 := by cases eq2; exact ⟨rfl, rfl, rfl⟩
  clear hA0 hval0
  refine (Pack.PackLists_any A0 A1 A2 n0 n1 n2 c0 c1 c2 xs0 xs1 xs2 W hr0 hr1 hr2 hl0 hl1 hl2 (fun x hx => Pack.u64_wf (wf0 x hx)) (fun x hx => Pack.i64_wf (wf1 x hx)) tt2 (Nat.le_trans hc0 hm0) (Nat.le_trans hc1 hm1) (Nat.le_trans hc2 hm2)).mono fun e W' ⟨he, bel⟩ => ?_
  subst he
  exact ⟨_, rfl, _, _, _, [], _, [], hW', trodAll_mk1 (shut_bool Try.underlying4 _), (trodAll_cons_mk (Below.trod laidOut (by kernel_rfl) (of_decide_eq_true (by kernel_rfl)) k0 bel lt0) (trodAll_cons_mk (Below.trod laidOut (by kernel_rfl) (of_decide_eq_true (by kernel_rfl)) k1 bel lt1) (trodAll_cons_mk (Below.trod laidOut (by kernel_rfl) (of_decide_eq_true (by kernel_rfl)) k2 bel lt2) trodAll_mk0))), rfl, bel.frame _, fun h => by cases h⟩
theorem over : Rows.packListsUptoRow.holds Try.pinned (Rows.OpenSpec.upto Rows.packListsSpec) :=
  OpenClaim.holds_of_cond 5 Try.f5 rfl rfl rfl rfl rfl rfl rfl ⟨rfl, rfl, rfl, rfl, rfl⟩ rfl rfl rfl rfl rfl (by kernel_rfl) Try.func5 (by kernel_rfl)
    (of_decide_eq_true (by kernel_rfl)) (by unfold Func.isWrapper; first | (rw [if_pos (by decide +kernel)]; kernel_rfl) | (rw [if_neg (by decide +kernel)]; exact ⟨rfl, rfl⟩))
    (fun os started H enc _ F0 => lifted os started H enc F0)
end Go.Proofs.Ytijkfllolcgfhaa.packListsUptoRowText
namespace Go.Proofs.Ytijkfllolcgfhaa
theorem packListsUpto_holds : Rows.PackListsUptoSaid := packListsUptoRowText.over
#print axioms packListsUpto_holds
end Go.Proofs.Ytijkfllolcgfhaa
