/- LeadTimes: for every input the call returns true, and each argument reads behind the call as it read before. No condition. -/
import Derived.Test.YtedpmehggpomnaaRows
import Derived.Test.YtedpmehggpomnaaOpen
import Derived.Test.YtedpmehggpomnaaOpenS
import Derived.Test.YtedpmehggpomnaaLeadY
namespace Go.Proofs.Ytedpmehggpomnaa.leadTimesRowText
open Go.ChangeShapes Go.WideShapes Go.ChangeAt Go.RowKit Go.Deep
open Go.ChangeMaps (open_string shut_string)
set_option linter.unusedVariables false
theorem own : ownKnob Try.prog.godebug = none := by kernel_rfl
theorem laidOut : laidOutB Try.prog = true := by kernel_rfl
set_option maxRecDepth 100000 in
theorem lifted (os : Os) (started : os.Started) (H : Type) (enc : TypeId × Value → H) :
    ReturnsInHanded {} Try.checked os 6 .any (Rows.leadTimesSpec.pre6 enc Try.prog Try.f6 Rows.leadTimesRow.domain false) (Rows.leadTimesSpec.post enc Try.prog Try.f6 false true false false) := by
  refine returnsInHanded_of_change_sized (C := Try.checked) own started (by kernel_rfl) Try.func6
    (ChangeSpec.witness6 (enc := enc) (C := Try.checked) false ⟨#[], #[.agg #[.int .i64 0, .int .i64 0, .int .i64 0, .int .i64 0, .int .i64 0, .slice none 0 0], .agg #[.int .u8 0, .int .u8 0, .int .u8 0, .int .u8 0, .int .i64 0, .int .i64 0, .int .i64 0, .int .u8 0, .int .i64 0]], []⟩ 8 (by kernel_rfl) (by kernel_rfl) (by kernel_rfl) (by kernel_rfl)) ?_
  intro W base args ds gs before hval0 hW hcnd hsz0 _
  have hsz : (DataW.weightsEach Try.prog (Try.f6.params.toList ++ Rows.leadTimesSpec.plain.varTypes Try.prog) (ds ++ gs)).all (· ≤ reachBytes) = true := hsz0
  have hval : ∀ (j : Nat) t v, Try.f6.params[j]? = some t → args[j]? = some v → Value.okWide Try.prog W .any base t v := hval0
  have hW' := hW
  obtain ⟨p, q, hA0, hV, rfl, hfz, hnd⟩ := hW
  have hA : DataW.TrodAll enc Try.prog W 0 (fun _ => true) true Try.f6.params.toList args.toList ds p := hA0
  rw [Try.params6] at hA hval hsz
  obtain ⟨v0, vs0, d0, ds0, p0, q0, hargs, rfl, rfl, h0, r0⟩ := trodAll_cons hA
  obtain ⟨v1, vs1, d1, ds1, p1, q1, rfl, rfl, rfl, h1, r1⟩ := trodAll_cons r0
  obtain ⟨rfl, rfl, rfl⟩ := trodAll_nil r1
  obtain rfl : args = #[v0, v1] := by cases args; simp_all
  obtain ⟨rfl, rfl⟩ := trodVars_none hV
  have k0 := h0
  have lt0 : ∀ x ∈ p0, x.block < W.heap.size := by obtain ⟨m, hm⟩ := k0; exact DataW.trod_lt m _ _ _ hm
  obtain ⟨u0_0, u0_1, u0_2, u0_3, u0_4, u0_5, e0_0, e0_1, e0_2, e0_3, e0_4, e0_5, m0, rfl, g0_0, g0_1, g0_2, g0_3, g0_4, g0_5⟩ := open_ag6 Try.underlying24 (by kernel_rfl) (by kernel_rfl) (hval 0 24 v0 rfl rfl) h0
  obtain ⟨a0_0, q0_0, rfl, wf0_0⟩ := DataW.trod_int Try.underlying3 g0_0
  obtain rfl := List.cons.inj q0_0 |>.1
  obtain ⟨a0_1, q0_1, rfl, wf0_1⟩ := DataW.trod_int Try.underlying3 g0_1
  obtain rfl := List.cons.inj q0_1 |>.1
  obtain ⟨a0_2, q0_2, rfl, wf0_2⟩ := DataW.trod_int Try.underlying3 g0_2
  obtain rfl := List.cons.inj q0_2 |>.1
  obtain ⟨a0_3, q0_3, rfl, wf0_3⟩ := DataW.trod_int Try.underlying3 g0_3
  obtain rfl := List.cons.inj q0_3 |>.1
  obtain ⟨a0_4, q0_4, rfl, wf0_4⟩ := DataW.trod_int Try.underlying3 g0_4
  obtain rfl := List.cons.inj q0_4 |>.1
  obtain ⟨A0_5, n0_5, c0_5, xs0_5, rfl, hl0_5, hc0_5, hm0_5, wf0_5, hr0_5⟩ := reads_recs (ks := [.i32, .i32, .i64]) Try.underlying22 Try.underlying67 (by kernel_rfl) (by kernel_rfl) rfl (by decide) (fun j k h => match j, h with | 0, h => by cases h; exact ⟨_, rfl, by kernel_rfl⟩ | 1, h => by cases h; exact ⟨_, rfl, by kernel_rfl⟩ | 2, h => by cases h; exact ⟨_, rfl, by kernel_rfl⟩ | (j + 3), h => by simp at h) g0_5
  have k1 := h1
  have lt1 : ∀ x ∈ p1, x.block < W.heap.size := by obtain ⟨m, hm⟩ := k1; exact DataW.trod_lt m _ _ _ hm
  obtain ⟨u1_0, u1_1, u1_2, u1_3, u1_4, u1_5, u1_6, u1_7, u1_8, e1_0, e1_1, e1_2, e1_3, e1_4, e1_5, e1_6, e1_7, e1_8, m1, rfl, g1_0, g1_1, g1_2, g1_3, g1_4, g1_5, g1_6, g1_7, g1_8⟩ := open_ag9 Try.underlying26 (by kernel_rfl) (by kernel_rfl) (hval 1 26 v1 rfl rfl) h1
  obtain ⟨a1_0, q1_0, rfl, wf1_0⟩ := DataW.trod_int Try.underlying5 g1_0
  obtain rfl := List.cons.inj q1_0 |>.1
  obtain ⟨a1_1, q1_1, rfl, wf1_1⟩ := DataW.trod_int Try.underlying5 g1_1
  obtain rfl := List.cons.inj q1_1 |>.1
  obtain ⟨a1_2, q1_2, rfl, wf1_2⟩ := DataW.trod_int Try.underlying5 g1_2
  obtain rfl := List.cons.inj q1_2 |>.1
  obtain ⟨a1_3, q1_3, rfl, wf1_3⟩ := DataW.trod_int Try.underlying5 g1_3
  obtain rfl := List.cons.inj q1_3 |>.1
  obtain ⟨a1_4, q1_4, rfl, wf1_4⟩ := DataW.trod_int Try.underlying3 g1_4
  obtain rfl := List.cons.inj q1_4 |>.1
  obtain ⟨a1_5, q1_5, rfl, wf1_5⟩ := DataW.trod_int Try.underlying3 g1_5
  obtain rfl := List.cons.inj q1_5 |>.1
  obtain ⟨a1_6, q1_6, rfl, wf1_6⟩ := DataW.trod_int Try.underlying2 g1_6
  obtain rfl := List.cons.inj q1_6 |>.1
  obtain ⟨a1_7, q1_7, rfl, wf1_7⟩ := DataW.trod_int Try.underlying5 g1_7
  obtain rfl := List.cons.inj q1_7 |>.1
  obtain ⟨a1_8, q1_8, rfl, wf1_8⟩ := DataW.trod_int Try.underlying2 g1_8
  obtain rfl := List.cons.inj q1_8 |>.1
  clear hA0 hval0 hsz0 hsz
  refine (Lead.LeadTimes_any a0_0 a0_1 a0_2 a0_3 a0_4 A0_5 n0_5 c0_5 a1_0 a1_1 a1_2 a1_3 a1_4 a1_5 a1_6 a1_7 a1_8 xs0_5 hl0_5 hc0_5 hm0_5 wf0_5 W hr0_5).mono fun e W' ⟨he, bel⟩ => ?_
  subst he
  exact ⟨_, rfl, _, _, _, [], _, [], hW', trodAll_mk1 (shut_bool Try.underlying4 _), (trodAll_cons_mk (Below.trod laidOut (by kernel_rfl) (of_decide_eq_true (by kernel_rfl)) k0 bel lt0) (trodAll_cons_mk (Below.trod laidOut (by kernel_rfl) (of_decide_eq_true (by kernel_rfl)) k1 bel lt1) trodAll_mk0)), rfl, bel.frame _, fun h => by cases h⟩
theorem over : Rows.leadTimesRow.holds Try.pinned (OpenSpec.ofChange Rows.leadTimesSpec) :=
  OpenClaim.holds_of_wide 6 Try.f6 rfl rfl rfl rfl rfl rfl rfl ⟨rfl, rfl, rfl, rfl, rfl⟩ rfl rfl rfl rfl rfl (by kernel_rfl) Try.func6 (by kernel_rfl)
    (of_decide_eq_true (by kernel_rfl)) (by unfold Func.isWrapper; first | (rw [if_pos (by decide +kernel)]; kernel_rfl) | (rw [if_neg (by decide +kernel)]; exact ⟨rfl, rfl⟩))
    (fun os started H enc _ => lifted os started H enc)
end Go.Proofs.Ytedpmehggpomnaa.leadTimesRowText
namespace Go.Proofs.Ytedpmehggpomnaa
theorem leadTimes_holds : Rows.LeadTimesSaid := leadTimesRowText.over
#print axioms leadTimes_holds
end Go.Proofs.Ytedpmehggpomnaa
