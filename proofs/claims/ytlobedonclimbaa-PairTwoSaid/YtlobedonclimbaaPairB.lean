/- Chapter 9: two classes among pairs: walked. No condition but bounds. -/
import Derived.Test.YtlobedonclimbaaPairI
namespace Go.Proofs.Ytlobedonclimbaa.Pair
open Go.RowKit
set_option linter.unusedVariables false

theorem bothL_step (a b : Int) (xs : List Int) (k : Nat) (h : k + 1 < xs.length) : bothL a b (xs.drop k) = ((a == xs[k]?.getD 0 && b == xs[k + 1]?.getD 0) || bothL a b (xs.drop (k + 2))) := by
  rw [List.drop_eq_getElem_cons (show k < xs.length by omega), List.drop_eq_getElem_cons (show k + 1 < xs.length by omega), List.getElem?_eq_getElem (show k < xs.length by omega), List.getElem?_eq_getElem h]
  rfl
theorem bothL_end (a b : Int) (xs : List Int) (k : Nat) (h : xs.length ≤ k + 1) : bothL a b (xs.drop k) = false := by
  have hl : (xs.drop k).length ≤ 1 := by rw [List.length_drop]; omega
  match h : xs.drop k, hl with
  | [], _ => rfl
  | [x], _ => rfl
set_option maxHeartbeats 4000000 in
theorem both_any (p : Pl) (A : Option Addr) (n cap : Nat) (xs : List Int) (w : World) (hl : xs.length = n) (hn : n ≤ 1000000) (hr : Reads w w.heap.size 1 A n (xs.map (Value.int .u8))) :
    Calls Try.prog 34 #[plV p, .slice A n cap] w fun e w' => e = .returned (.bool (bothL p.a p.b xs)) ∧ Below w.heap.size w w' := by
  obtain ⟨pa, po, pb, pc⟩ := p
  simp only [plV]
  have HL := Lib.hid hl
  have M0 := Lib.hid (Blk.new w 54 (plC ⟨pa, po, pb, pc⟩))
  have R0 := Lib.hid (hr.below (bel_alloc (Below.refl w.heap.size w) (.cells (plC ⟨pa, po, pb, pc⟩) 54)))
  clear hl hr
  go_enter Try.func34, Try.ntmps34
  go_wp2
  go_loopw [5] (fun i wr => ∃ k : Nat, i = .int .i64 k ∧ k ≤ n ∧ Hid (bothL pa pb xs = bothL pa pb (xs.drop k)) ∧ Hid (Blk wr w.heap.size 54 (plC ⟨pa, po, pb, pc⟩)) ∧ Hid (Reads wr w.heap.size 1 A n (xs.map (Value.int .u8))) ∧ Below w.heap.size w wr) (fun i wr => n - (intOf i).toNat)
  case atStart => exact ⟨0, rfl, by omega, Lib.hid rfl, M0, R0, bel_alloc (Below.refl _ _) _⟩
  case round =>
    obtain ⟨k, rfl, hk, HA, M, R, hb⟩ := hrel
    by_cases hlt : k + 1 < n
    · obtain ⟨ad, rfl, _, g0⟩ := reads_kind HL.out R.out (show k < n by omega)
      obtain ⟨_, e1, _, g1⟩ := reads_kind HL.out R.out hlt
      cases e1
      have TK := Lib.hid (bothL_step pa pb xs k (by rw [HL.out]; exact hlt))
      generalize xs[k]?.getD 0 = x at g0 TK
      generalize xs[k + 1]?.getD 0 = y at g1 TK
      rw [add_pos] at g1
      have c0 : wr.cell? ⟨w.heap.size, 0, none⟩ = some (.int .u8 pa) := M.out.cell 0
      have c2 : wr.cell? ⟨w.heap.size, 2, none⟩ = some (.int .u8 pb) := M.out.cell 2
      have i0 : (0 : Int) ≤ k := by omega
      have i1 : (k : Int) < n := by omega
      have i2 : (0 : Int) ≤ (k : Int) + 1 := by omega
      have i3 : (k : Int) + 1 < n := by omega
      have i4 : IntKind.i64.wrap ((k : Int) + 1) = (k : Int) + 1 := by rw [IntKind.wrap_i64]; omega
      have i5 : ((k : Int) + 1).toNat = k + 1 := by omega
      have i6 : IntKind.i64.wrap ((k : Int) + 2) = (k : Int) + 2 := by rw [IntKind.wrap_i64]; omega
      cases h1 : (pa == x)
      · have HK : Hid (bothL pa pb xs = bothL pa pb (xs.drop (k + 2))) := Lib.hid (by rw [HA.out, TK.out, h1]; simp)
        go_wp2
        go_quiet (fail)
        go_wp2
        go_roundw
        case rel => exact ⟨k + 2, by go_num, by omega, HK, Lib.hid (M.out.drewN _), Lib.hid (R.out.drewN _), bel_drewN hb _⟩
        case measure => simp [intOf]; omega
      · cases h2 : (pb == y)
        · have HK : Hid (bothL pa pb xs = bothL pa pb (xs.drop (k + 2))) := Lib.hid (by rw [HA.out, TK.out, h1, h2]; simp)
          go_wp2
          go_quiet (fail)
          go_wp2
          go_roundw
          case rel => exact ⟨k + 2, by go_num, by omega, HK, Lib.hid (M.out.drewN _), Lib.hid (R.out.drewN _), bel_drewN hb _⟩
          case measure => simp [intOf]; omega
        · have HF : Hid (bothL pa pb xs = true) := Lib.hid (by rw [HA.out, TK.out, h1, h2]; rfl)
          go_wp2
          go_quiet (fail)
          go_wp2
          go_ret
          exact ⟨ret_bool HF.out.symm, bel_drewN hb _⟩
    · have HF : Hid (bothL pa pb xs = false) := Lib.hid (by rw [HA.out]; exact bothL_end pa pb xs k (by rw [HL.out]; omega))
      have i4 : IntKind.i64.wrap ((k : Int) + 1) = (k : Int) + 1 := by rw [IntKind.wrap_i64]; omega
      go_wp2
      go_ret
      exact ⟨ret_bool HF.out.symm, hb⟩
end Go.Proofs.Ytlobedonclimbaa.Pair
