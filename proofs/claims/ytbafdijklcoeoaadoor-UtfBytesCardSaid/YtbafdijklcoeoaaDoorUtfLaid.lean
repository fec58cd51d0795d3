/- Chapter 2: what the rows' condition on the three tables gives the walks, and a start that meets it. -/
import Derived.Test.YtbafdijklcoeoaaDoorRows
import Derived.Test.YtbafdijklcoeoaaDoorUtfLa
import Derived.Lib.LaidU8
import Derived.ProofKit
import Derived.OpenShut
import Derived.LaidMore
import Derived.Lay
import Derived.Stop.Joined
namespace Go.Proofs.YtbafdijklcoeoaaDoor.Utf
open Go.RowKit Go.Lib
set_option linter.unusedVariables false
set_option maxRecDepth 100000

abbrev laidU : List (String × DataW Unit) := [("unicode/utf8.acceptRanges", Rows.laid_unicode_utf8_acceptRanges), ("stickful/utf.seconds", Rows.laid_stickful_utf_seconds), ("unicode/utf8.first", Rows.laid_unicode_utf8_first)]
theorem extraU : U8Extra Tryd.prog Tryd.lays260_ren := ⟨by kernel_rfl, by kernel_rfl, by kernel_rfl, by kernel_rfl, by kernel_rfl, by kernel_rfl, by kernel_rfl⟩
def rowU : List (List Int) := [[224, 160, 191], [237, 128, 159], [240, 144, 191], [244, 128, 143]]
theorem seconds_eq : (Rows.laid_stickful_utf_seconds : DataW Unit) = .agg (rowU.map (tabData .u8)) := by kernel_rfl
theorem accept_eq : (Rows.laid_unicode_utf8_acceptRanges : DataW Unit) = acceptData := by kernel_rfl
theorem first_eq : Rows.laid_unicode_utf8_first = firstData := by kernel_rfl
theorem c68 : Tryd.prog.cellsOf 68 = 3 := by kernel_rfl
theorem c5 : Tryd.prog.cellsOf 5 = 1 := by kernel_rfl
theorem gS : Tryd.prog.globalNamed "stickful/utf.seconds" = some 2 := by kernel_rfl
theorem tS : (Tryd.prog.globals[2]?).map (·.type) = some 69 := by kernel_rfl
theorem sec_of {w : World} (h : VarReads Tryd.prog w "stickful/utf.seconds" Rows.laid_stickful_utf_seconds) (i j : Nat) (hi : i < 4) (hj : j < 3) : w.cell? ⟨2, i * 3 + j, none⟩ = some (.int .u8 ((rowU.getD i []).getD j 0)) := by
  rw [seconds_eq] at h
  obtain ⟨g, t, cs, fuel, p, hg, hty, hvar, hd⟩ := h
  obtain rfl := Option.some.inj (gS.symm.trans hg)
  obtain rfl := Option.some.inj (tS.symm.trans hty)
  obtain ⟨fuel', d, q, hdi, he⟩ := array_elem Tryd.underlying69 hd i hi
  rw [List.getElem?_map] at hdi
  obtain ⟨zs, hz, rfl⟩ := Option.map_eq_some_iff.1 hdi
  rw [c68] at he
  have hcs := cells_of_tab Tryd.underlying68 Tryd.underlying5 c5 c68 he
  have hzl : zs.length = 3 := by
    match i, hi with
    | 0, _ => simp [rowU] at hz; subst hz; rfl
    | 1, _ => simp [rowU] at hz; subst hz; rfl
    | 2, _ => simp [rowU] at hz; subst hz; rfl
    | 3, _ => simp [rowU] at hz; subst hz; rfl
  have e0 := congrArg (·[j]?) hcs
  simp only [List.getElem?_take, List.getElem?_drop, if_pos hj, List.getElem?_map] at e0
  rw [World.var?_cell gS hvar (i * 3 + j), ← Array.getElem?_toList, e0]
  have er : rowU.getD i [] = zs := by rw [List.getD_eq_getElem?_getD, hz]; rfl
  rw [er, List.getD_eq_getElem?_getD, List.getElem?_eq_getElem (by omega : j < zs.length)]
  rfl
theorem tabs_of_laid {w : World} (h : laidMetH Tryd.prog laidU w) : Tabs w := by
  rw [MakeChecks.laidMetH_plain _ _ _ (by kernel_rfl)] at h
  have h3 : VarReads Tryd.prog w "unicode/utf8.first" Rows.laid_unicode_utf8_first := laidMet.reads h (by simp)
  have h4 : VarReads Tryd.prog w "unicode/utf8.acceptRanges" Rows.laid_unicode_utf8_acceptRanges := laidMet.reads h (by simp)
  have h5 : VarReads Tryd.prog w "stickful/utf.seconds" Rows.laid_stickful_utf_seconds := laidMet.reads h (by simp)
  rw [first_eq] at h3
  rw [accept_eq] at h4
  refine ⟨utf8Tabs_of_reads Tryd.lays260 extraU h3 h4, fun i hi => ?_⟩
  have hc : i = 0 ∨ i = 1 ∨ i = 2 ∨ i = 3 ∨ i = 4 ∨ i = 5 ∨ i = 6 ∨ i = 7 ∨ i = 8 ∨ i = 9 ∨ i = 10 ∨ i = 11 := by omega
  rcases hc with rfl | rfl | rfl | rfl | rfl | rfl | rfl | rfl | rfl | rfl | rfl | rfl
  · exact sec_of h5 0 0 (by omega) (by omega)
  · exact sec_of h5 0 1 (by omega) (by omega)
  · exact sec_of h5 0 2 (by omega) (by omega)
  · exact sec_of h5 1 0 (by omega) (by omega)
  · exact sec_of h5 1 1 (by omega) (by omega)
  · exact sec_of h5 1 2 (by omega) (by omega)
  · exact sec_of h5 2 0 (by omega) (by omega)
  · exact sec_of h5 2 1 (by omega) (by omega)
  · exact sec_of h5 2 2 (by omega) (by omega)
  · exact sec_of h5 3 0 (by omega) (by omega)
  · exact sec_of h5 3 1 (by omega) (by omega)
  · exact sec_of h5 3 2 (by omega) (by omega)
theorem strV_of (s : ByteArray) : strV s.data.toList = .string s := by
  show Value.string ⟨s.data.toList.toArray⟩ = _
  rw [Array.toArray_toList]
theorem UtfDecodes_row (s : ByteArray) (hm : s.size ≤ 140737488351232) (w : World) (hL : laidMetH Tryd.prog laidU w) :
    Calls Tryd.prog 3 #[.string s] w fun e w' => e = .returned (.bool true) ∧ Below w.heap.size w w' := by
  rw [← strV_of]
  exact UtfDecodes_any _ (by rw [Array.length_toList]; exact hm) w (tabs_of_laid hL)
end Go.Proofs.YtbafdijklcoeoaaDoor.Utf
