/- WhiteParts: for every input the call returns true, and each argument reads behind the call as it read before. No condition. -/
import Derived.Test.YtmjacmjogckihaaRows
import Derived.Test.YtmjacmjogckihaaOpen
import Derived.Test.YtmjacmjogckihaaOpenS
import Derived.Test.YtmjacmjogckihaaWhitePaR
namespace Go.Proofs.Ytmjacmjogckihaa.whitePartsRowText
open Go.ChangeShapes Go.WideShapes Go.ChangeAt Go.RowKit Go.Deep
open Go.ChangeMaps (open_string shut_string)
set_option linter.unusedVariables false
theorem own : ownKnob Try.prog.godebug = none := by kernel_rfl
theorem laidOut : laidOutB Try.prog = true := by kernel_rfl
set_option maxRecDepth 100000 in
theorem lifted (os : Os) (started : os.Started) (H : Type) (enc : TypeId × Value → H) :
    ReturnsInHanded {} Try.checked os 7 .any (Rows.whitePartsSpec.pre6 enc Try.prog Try.f7 Rows.whitePartsRow.domain false) (Rows.whitePartsSpec.post enc Try.prog Try.f7 false true false false) := by
  refine returnsInHanded_of_change_sized (C := Try.checked) own started (by kernel_rfl) Try.func7
    (ChangeSpec.witness6 (enc := enc) (C := Try.checked) false ⟨#[], #[.slice none 0 0, .slice none 0 0, .slice none 0 0], []⟩ 8 (by kernel_rfl) (by kernel_rfl) (by kernel_rfl) (by kernel_rfl)) ?_
  intro W base args ds gs before hval0 hW hcnd hsz0 _
  have hsz : (DataW.weightsEach Try.prog (Try.f7.params.toList ++ Rows.whitePartsSpec.plain.varTypes Try.prog) (ds ++ gs)).all (· ≤ reachBytes) = true := hsz0
  have hval : ∀ (j : Nat) t v, Try.f7.params[j]? = some t → args[j]? = some v → Value.okWide Try.prog W .any base t v := hval0
  have hW' := hW
  obtain ⟨p, q, hA0, hV, rfl, hfz, hnd⟩ := hW
  have hA : DataW.TrodAll enc Try.prog W 0 (fun _ => true) true Try.f7.params.toList args.toList ds p := hA0
  rw [Try.params7] at hA hval hsz
  obtain ⟨v0, vs0, d0, ds0, p0, q0, hargs, rfl, rfl, h0, r0⟩ := trodAll_cons hA
  obtain ⟨v1, vs1, d1, ds1, p1, q1, rfl, rfl, rfl, h1, r1⟩ := trodAll_cons r0
  obtain ⟨v2, vs2, d2, ds2, p2, q2, rfl, rfl, rfl, h2, r2⟩ := trodAll_cons r1
  obtain ⟨rfl, rfl, rfl⟩ := trodAll_nil r2
  obtain rfl : args = #[v0, v1, v2] := by cases args; simp_all
  obtain ⟨rfl, rfl⟩ := trodVars_none hV
  have k0 := h0
  have lt0 : ∀ x ∈ p0, x.block < W.heap.size := by obtain ⟨m, hm⟩ := k0; exact DataW.trod_lt m _ _ _ hm
  obtain ⟨fu0, hf0⟩ := h0
  obtain ⟨AA0, nn0, cc0, rfl⟩ := okWide_slice Try.underlying22 (hval 0 22 v0 rfl rfl)
  obtain ⟨A0, n0, c0, xs0, eq0, hl0, hc0, hm0, wf0, hr0⟩ := reads_recs (ks := [.i32, .i64, .i64, .i64, .u8]) Try.underlying22 Try.underlying38 (by kernel_rfl) (by kernel_rfl) rfl (by decide) (fun j k h => match j, h with | 0, h => by cases h; exact ⟨_, rfl, by kernel_rfl⟩ | 1, h => by cases h; exact ⟨_, rfl, by kernel_rfl⟩ | 2, h => by cases h; exact ⟨_, rfl, by kernel_rfl⟩ | 3, h => by cases h; exact ⟨_, rfl, by kernel_rfl⟩ | 4, h => by cases h; exact ⟨_, rfl, by kernel_rfl⟩ | (j + 5), h => by simp at h) (by simpa [Value.cells] using hf0)
  obtain ⟨rfl, rfl, rfl⟩ : AA0 = A0 ∧ nn0 = n0 ∧ cc0 = c0 := by cases eq0; exact ⟨rfl, rfl, rfl⟩
  have k1 := h1
  have lt1 : ∀ x ∈ p1, x.block < W.heap.size := by obtain ⟨m, hm⟩ := k1; exact DataW.trod_lt m _ _ _ hm
  obtain ⟨fu1, hf1⟩ := h1
  obtain ⟨AA1, nn1, cc1, rfl⟩ := okWide_slice Try.underlying22 (hval 1 22 v1 rfl rfl)
  obtain ⟨A1, n1, c1, xs1, eq1, hl1, hc1, hm1, wf1, hr1⟩ := reads_recs (ks := [.i32, .i64, .i64, .i64, .u8]) Try.underlying22 Try.underlying38 (by kernel_rfl) (by kernel_rfl) rfl (by decide) (fun j k h => match j, h with | 0, h => by cases h; exact ⟨_, rfl, by kernel_rfl⟩ | 1, h => by cases h; exact ⟨_, rfl, by kernel_rfl⟩ | 2, h => by cases h; exact ⟨_, rfl, by kernel_rfl⟩ | 3, h => by cases h; exact ⟨_, rfl, by kernel_rfl⟩ | 4, h => by cases h; exact ⟨_, rfl, by kernel_rfl⟩ | (j + 5), h => by simp at h) (by simpa [Value.cells] using hf1)
  obtain ⟨rfl, rfl, rfl⟩ : AA1 = A1 ∧ nn1 = n1 ∧ cc1 = c1 := by cases eq1; exact ⟨rfl, rfl, rfl⟩
  have k2 := h2
  have lt2 : ∀ x ∈ p2, x.block < W.heap.size := by obtain ⟨m, hm⟩ := k2; exact DataW.trod_lt m _ _ _ hm
  obtain ⟨fu2, hf2⟩ := h2
  obtain ⟨AA2, nn2, cc2, rfl⟩ := okWide_slice Try.underlying23 (hval 2 23 v2 rfl rfl)
  obtain ⟨A2, n2, c2, xs2, eq2, hl2, hc2, hm2, wf2, hr2⟩ := reads_recs (ks := [.u8, .u8, .u8, .u8, .i64, .i64, .i64, .u8, .i64]) Try.underlying23 Try.underlying33 (by kernel_rfl) (by kernel_rfl) rfl (by decide) (fun j k h => match j, h with | 0, h => by cases h; exact ⟨_, rfl, by kernel_rfl⟩ | 1, h => by cases h; exact ⟨_, rfl, by kernel_rfl⟩ | 2, h => by cases h; exact ⟨_, rfl, by kernel_rfl⟩ | 3, h => by cases h; exact ⟨_, rfl, by kernel_rfl⟩ | 4, h => by cases h; exact ⟨_, rfl, by kernel_rfl⟩ | 5, h => by cases h; exact ⟨_, rfl, by kernel_rfl⟩ | 6, h => by cases h; exact ⟨_, rfl, by kernel_rfl⟩ | 7, h => by cases h; exact ⟨_, rfl, by kernel_rfl⟩ | 8, h => by cases h; exact ⟨_, rfl, by kernel_rfl⟩ | (j + 9), h => by simp at h) (by simpa [Value.cells] using hf2)
  obtain ⟨rfl, rfl, rfl⟩ : AA2 = A2 ∧ nn2 = n2 ∧ cc2 = c2 := by cases eq2; exact ⟨rfl, rfl, rfl⟩
  clear hA0 hval0 hsz0 hsz
  refine (White.rowWhiteParts AA0 nn0 cc0 xs0 AA1 nn1 cc1 xs1 AA2 nn2 cc2 xs2 wf0 wf1 wf2 W hr0 hr1 hr2).mono fun e W' ⟨he, bel⟩ => ?_
  subst he
  exact ⟨_, rfl, _, _, _, [], _, [], hW', trodAll_mk1 (shut_bool Try.underlying4 _), (trodAll_cons_mk (Below.trod laidOut (by kernel_rfl) (of_decide_eq_true (by kernel_rfl)) k0 bel lt0) (trodAll_cons_mk (Below.trod laidOut (by kernel_rfl) (of_decide_eq_true (by kernel_rfl)) k1 bel lt1) (trodAll_cons_mk (Below.trod laidOut (by kernel_rfl) (of_decide_eq_true (by kernel_rfl)) k2 bel lt2) trodAll_mk0))), rfl, bel.frame _, fun h => by cases h⟩
theorem over : Rows.whitePartsRow.holds Try.pinned (OpenSpec.ofChange Rows.whitePartsSpec) :=
  OpenClaim.holds_of_wide 7 Try.f7 rfl rfl rfl rfl rfl rfl rfl ⟨rfl, rfl, rfl, rfl, rfl⟩ rfl rfl rfl rfl rfl (by kernel_rfl) Try.func7 (by kernel_rfl)
    (of_decide_eq_true (by kernel_rfl)) (by unfold Func.isWrapper; first | (rw [if_pos (by decide +kernel)]; kernel_rfl) | (rw [if_neg (by decide +kernel)]; exact ⟨rfl, rfl⟩))
    (fun os started H enc _ => lifted os started H enc)
end Go.Proofs.Ytmjacmjogckihaa.whitePartsRowText
namespace Go.Proofs.Ytmjacmjogckihaa
theorem whiteParts_holds : Rows.WhitePartsSaid := whitePartsRowText.over
#print axioms whiteParts_holds
end Go.Proofs.Ytmjacmjogckihaa
