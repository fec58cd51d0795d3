/- Chapter 23: the weights of a round, walked. No condition but bounds. -/
import Derived.Test.YtglomkpnbdnnoaaFlexR
import Derived.Test.YtglomkpnbdnnoaaRangeR
import Derived.BigQuiet
namespace Go.Proofs.Ytglomkpnbdnnoaa.Flex
open Go.RowKit Go.Proofs.Ytglomkpnbdnnoaa.Unit Go.Proofs.Ytglomkpnbdnnoaa.Div
set_option linter.unusedVariables false
set_option linter.unusedSimpArgs false
theorem reads_of {α : Type} {f : α → Value} {w : World} {B n k : Nat} {A : Option Addr} {xs : List α} (h : Reads w B 1 A n (xs.map f)) (hk : k < n) : ∃ ad x, A = some ad ∧ ad.block < B ∧ xs[k]? = some x ∧ w.cell? (ad.add k) = some (f x) := by
  obtain ⟨ad, u, e, hb, hx, hc⟩ := h.at_ hk
  rw [List.getElem?_map] at hx
  cases g : xs[k]? with
  | none => rw [g] at hx; cases hx
  | some x =>
    rw [g] at hx
    injection hx with hx
    exact ⟨ad, x, e, hb, rfl, by rw [hx]; exact hc⟩
set_option maxHeartbeats 1000000 in
theorem wt39_any (gB p1 : Nat) (AF A : Option Addr) (n cF c : Nat) (xs : List It) (fz : List Bool) (h : ∀ x ∈ xs, okI x) (i : Nat) (hi : i < n) (hn : n ≤ 1000000) (B B2 : Nat) (V : World) (k1 : Blk V gB 58 #[.slice AF n cF]) (k2 : Blk V p1 22 #[.slice A n c]) (hf : Reads V B2 1 AF n (fz.map Value.bool)) (hr : Reads V B 4 A n (itL xs)) (hl : fz.length = n) :
    Calls Try.prog 39 #[.int .i64 (i : Int), .pointer (some ⟨gB, 0, none⟩), .pointer (some ⟨p1, 0, none⟩)] V fun e w' => (∃ x, (wtL xs fz)[i]? = some x ∧ e = .returned (.int .i64 x)) ∧ Below V.heap.size V w' := by
  have d0 : V.cell? ⟨gB, 0, none⟩ = some (.slice AF n cF) := k1.cell 0
  have d1 : V.cell? ⟨p1, 0, none⟩ = some (.slice A n c) := k2.cell 0
  obtain ⟨adF, b, rfl, _, hb, cb⟩ := reads_of hf hi
  obtain ⟨ad, x, rfl, _, hx, c0, c1, c2, c3⟩ := reads_it hr hi
  have i0 : (0 : Int) ≤ (i : Int) := by omega
  have i1 : (i : Int) < (n : Int) := by omega
  have HX := Lib.hid (wtL_at hx hb)
  have hbd := wtI_bd (h x (List.mem_of_getElem? hx)) b
  have HB := Lib.hid (Below.refl V.heap.size V)
  cases b
  · have hm : wtI x false = x.shrink * x.base := rfl
    rw [hm] at hbd
    have HX := Lib.hid (show (wtL xs fz)[i]? = some (x.shrink * x.base) from HX.out)
    have wM := Lib.hid (show wrap64 (x.shrink * x.base) = x.shrink * x.base from by generalize x.shrink * x.base = m at hbd; unfold wrap64; omega)
    clear hm hb hx k1 k2 hf hr hbd
    go_enter Try.func39, Try.ntmps39
    go_wp2
    go_quiet (fail)
    go_wp2
    go_ret
    exact ⟨⟨_, HX.out, ret_int wM.out⟩, by first | exact HB.out | exact (Drawn.mk ⟨_, rfl⟩).below⟩
  · clear hb hx k1 k2 hf hr hbd
    go_enter Try.func39, Try.ntmps39
    go_wp2
    go_ret
    exact ⟨⟨0, HX.out, rfl⟩, HB.out⟩
end Go.Proofs.Ytglomkpnbdnnoaa.Flex
