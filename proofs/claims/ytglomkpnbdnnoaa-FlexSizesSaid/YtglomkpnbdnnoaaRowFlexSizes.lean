/- FlexSizes: for every input the call returns true, and each argument reads behind the call as it read before. No condition. -/
import Derived.Test.YtglomkpnbdnnoaaRows
import Derived.Test.YtglomkpnbdnnoaaOpen
import Derived.Test.YtglomkpnbdnnoaaOpenS
import Derived.Test.YtglomkpnbdnnoaaFlexSr
namespace Go.Proofs.Ytglomkpnbdnnoaa.flexSizesRowText
open Go.ChangeShapes Go.WideShapes Go.ChangeAt Go.RowKit Go.Deep
open Go.ChangeMaps (open_string shut_string)
set_option linter.unusedVariables false
theorem own : ownKnob Try.prog.godebug = none := by kernel_rfl
theorem laidOut : laidOutB Try.prog = true := by kernel_rfl
set_option maxRecDepth 100000 in
theorem lifted (os : Os) (started : os.Started) (H : Type) (enc : TypeId × Value → H) :
    ReturnsInHanded {} Try.checked os 3 .any (Rows.flexSizesSpec.pre6 enc Try.prog Try.f3 Rows.flexSizesRow.domain false) (Rows.flexSizesSpec.post enc Try.prog Try.f3 false true false false) := by
  refine returnsInHanded_of_change_sized (C := Try.checked) own started (by kernel_rfl) Try.func3
    (ChangeSpec.witness6 (enc := enc) (C := Try.checked) false ⟨#[], #[.slice none 0 0, .int .i64 0], []⟩ 8 (by kernel_rfl) (by kernel_rfl) (by kernel_rfl) (by kernel_rfl)) ?_
  intro W base args ds gs before hval0 hW hcnd hsz0 _
  have hsz : (DataW.weightsEach Try.prog (Try.f3.params.toList ++ Rows.flexSizesSpec.plain.varTypes Try.prog) (ds ++ gs)).all (· ≤ reachBytes) = true := hsz0
  have hval : ∀ (j : Nat) t v, Try.f3.params[j]? = some t → args[j]? = some v → Value.okWide Try.prog W .any base t v := hval0
  have hW' := hW
  obtain ⟨p, q, hA0, hV, rfl, hfz, hnd⟩ := hW
  have hA : DataW.TrodAll enc Try.prog W 0 (fun _ => true) true Try.f3.params.toList args.toList ds p := hA0
  rw [Try.params3] at hA hval hsz
  obtain ⟨v0, vs0, d0, ds0, p0, q0, hargs, rfl, rfl, h0, r0⟩ := trodAll_cons hA
  obtain ⟨v1, vs1, d1, ds1, p1, q1, rfl, rfl, rfl, h1, r1⟩ := trodAll_cons r0
  obtain ⟨rfl, rfl, rfl⟩ := trodAll_nil r1
  obtain rfl : args = #[v0, v1] := by cases args; simp_all
  obtain ⟨rfl, rfl⟩ := trodVars_none hV
  have k0 := h0
  have lt0 : ∀ x ∈ p0, x.block < W.heap.size := by obtain ⟨m, hm⟩ := k0; exact DataW.trod_lt m _ _ _ hm
  obtain ⟨fu0, hf0⟩ := h0
  obtain ⟨AA0, nn0, cc0, rfl⟩ := okWide_slice Try.underlying22 (hval 0 22 v0 rfl rfl)
  obtain ⟨A0, n0, c0, xs0, eq0, hl0, hc0, hm0, wf0, hr0⟩ := reads_recs (ks := [.i64, .i64, .i64, .i64]) Try.underlying22 Try.underlying36 (by kernel_rfl) (by kernel_rfl) rfl (by decide) (fun j k h => match j, h with | 0, h => by cases h; exact ⟨_, rfl, by kernel_rfl⟩ | 1, h => by cases h; exact ⟨_, rfl, by kernel_rfl⟩ | 2, h => by cases h; exact ⟨_, rfl, by kernel_rfl⟩ | 3, h => by cases h; exact ⟨_, rfl, by kernel_rfl⟩ | (j + 4), h => by simp at h) (by simpa [Value.cells] using hf0)
  obtain ⟨rfl, rfl, rfl⟩ : AA0 = A0 ∧ nn0 = n0 ∧ cc0 = c0 := by cases eq0; exact ⟨rfl, rfl, rfl⟩
  have k1 := h1
  have lt1 : ∀ x ∈ p1, x.block < W.heap.size := by obtain ⟨m, hm⟩ := k1; exact DataW.trod_lt m _ _ _ hm
  obtain ⟨a1, rfl, rfl, rfl, wf1⟩ := open_int Try.underlying2 (hval 1 2 v1 rfl rfl) h1
  clear hA0 hval0 hsz0 hsz
  refine (Flex.rowFlexSizes AA0 nn0 cc0 xs0 a1 wf0 W hr0).mono fun e W' ⟨he, bel⟩ => ?_
  subst he
  exact ⟨_, rfl, _, _, _, [], _, [], hW', trodAll_mk1 (shut_bool Try.underlying4 _), (trodAll_cons_mk (Below.trod laidOut (by kernel_rfl) (of_decide_eq_true (by kernel_rfl)) k0 bel lt0) (trodAll_cons_mk (shut_int Try.underlying2 wf1) trodAll_mk0)), rfl, bel.frame _, fun h => by cases h⟩
theorem over : Rows.flexSizesRow.holds Try.pinned (OpenSpec.ofChange Rows.flexSizesSpec) :=
  OpenClaim.holds_of_wide 3 Try.f3 rfl rfl rfl rfl rfl rfl rfl ⟨rfl, rfl, rfl, rfl, rfl⟩ rfl rfl rfl rfl rfl (by kernel_rfl) Try.func3 (by kernel_rfl)
    (of_decide_eq_true (by kernel_rfl)) (by unfold Func.isWrapper; first | (rw [if_pos (by decide +kernel)]; kernel_rfl) | (rw [if_neg (by decide +kernel)]; exact ⟨rfl, rfl⟩))
    (fun os started H enc _ => lifted os started H enc)
end Go.Proofs.Ytglomkpnbdnnoaa.flexSizesRowText
namespace Go.Proofs.Ytglomkpnbdnnoaa
theorem flexSizes_holds : Rows.FlexSizesSaid := flexSizesRowText.over
#print axioms flexSizes_holds
end Go.Proofs.Ytglomkpnbdnnoaa
