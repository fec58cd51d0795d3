/- Chapter 9: the first rule that applies, searched. No condition. -/
import Derived.Test.YtlobedonclimbaaPairR
namespace Go.Proofs.Ytlobedonclimbaa.Pair
open Go.RowKit
set_option linter.unusedVariables false

abbrev ruV (k : Nat) : Value := .agg #[.int .u8 (numR k), .func (.func (gR k)) #[] #[], .bool (mayR k)]
set_option maxHeartbeats 1000000 in
theorem predB_any (k : Nat) (hk : k < 25) (Bp : Nat) (p : Pl) (w : World) (hp : Blk w Bp 54 (plC p)) :
    Calls Try.prog 30 #[ruV k, .pointer (some ⟨Bp, 0, none⟩)] w fun e w' => e = .returned (.bool (isR k p)) ∧ Below w.heap.size w w' := by
  have HC := Lib.hid (rule_any k hk p)
  have eg := rule_enters k hk
  obtain ⟨pa, po, pb, pc⟩ := p
  simp only [ruV, plV, plC] at HC hp ⊢
  generalize gR k = g at HC eg ⊢
  generalize numR k = nu
  generalize mayR k = m
  have c0 : w.cell? ⟨Bp, 0, none⟩ = some (.int .u8 pa) := hp.cell 0
  have c1 : w.cell? ⟨Bp, 1, none⟩ = some (.int .u8 po) := hp.cell 1
  have c2 : w.cell? ⟨Bp, 2, none⟩ = some (.int .u8 pb) := hp.cell 2
  have c3 : w.cell? ⟨Bp, 3, none⟩ = some (.bool pc) := hp.cell 3
  have lt := hp.lt
  clear hp
  go_enter Try.func30, Try.ntmps30
  go_wp2_with (go_at_fn g; refine (HC.out _).mono ?_; rintro e w' ⟨rfl, hb⟩)
  go_ret
  exact ⟨rfl, bel_trans (bel_alloc (Below.refl _ _) _) hb⟩
set_option maxHeartbeats 1000000 in
theorem predU_any (k : Nat) (hk : k < 25) (Bp : Nat) (p : Pl) (w : World) (hp : Blk w Bp 54 (plC p)) :
    Calls Try.prog 29 #[ruV k, .pointer (some ⟨Bp, 0, none⟩)] w fun e w' => e = .returned (.bool (isR k p)) ∧ Below w.heap.size w w' := by
  have HC := Lib.hid (rule_any k hk p)
  have eg := rule_enters k hk
  obtain ⟨pa, po, pb, pc⟩ := p
  simp only [ruV, plV, plC] at HC hp ⊢
  generalize gR k = g at HC eg ⊢
  generalize numR k = nu
  generalize mayR k = m
  have c0 : w.cell? ⟨Bp, 0, none⟩ = some (.int .u8 pa) := hp.cell 0
  have c1 : w.cell? ⟨Bp, 1, none⟩ = some (.int .u8 po) := hp.cell 1
  have c2 : w.cell? ⟨Bp, 2, none⟩ = some (.int .u8 pb) := hp.cell 2
  have c3 : w.cell? ⟨Bp, 3, none⟩ = some (.bool pc) := hp.cell 3
  have lt := hp.lt
  clear hp
  go_enter Try.func29, Try.ntmps29
  go_wp2_with (go_at_fn g; refine (HC.out _).mono ?_; rintro e w' ⟨rfl, hb⟩)
  go_ret
  exact ⟨rfl, bel_trans (bel_alloc (Below.refl _ _) _) hb⟩
theorem ruleP_hit (p : Pl) (k : Nat) (h : k ≤ ruleP p) : (isR k p = true ∧ k = ruleP p) ∨ (isR k p = false ∧ k + 1 ≤ ruleP p) := by
  obtain ⟨h1, h2⟩ := ruleP_is p
  by_cases e : k = ruleP p
  · left; rw [e]; exact ⟨h1, rfl⟩
  · right; exact ⟨h2 k (by omega), by omega⟩
set_option maxHeartbeats 4000000 in
theorem indexF_any (Bq : Nat) (p : Pl) (g : Nat) (lb : Array Value) (w : World) (eg : ∀ args w, (callFunc g args).run Try.prog w = .ok (.enter g args) w)
    (hpred : ∀ k, k < 25 → ∀ W, Below w.heap.size w W → Calls Try.prog g (#[ruV k] ++ lb) W fun e w' => e = .returned (.bool (isR k p)) ∧ Below W.heap.size W w') (hq : Blk w Bq 48 ruCells) :
    Calls Try.prog 28 #[.slice (some ⟨Bq, 0, none⟩) 25 25, .func (.func g) #[] lb] w fun e w' => e = .returned (.int .i64 (ruleP p)) ∧ Below w.heap.size w w' := by
  have HP := Lib.hid hpred
  have HQ := Lib.hid hq
  have HL := Lib.hid (ruleP_lt p)
  clear hpred hq
  go_enter Try.func28, Try.ntmps28
  go_wp2
  go_loopw [5, 8] (fun s i wr => ∃ k : Nat, i = .int .i64 k ∧ Hid (k ≤ ruleP p) ∧ Below w.heap.size w wr) (fun s i wr => 25 - (intOf i).toNat)
  case atStart => exact ⟨0, rfl, Lib.hid (Nat.zero_le _), Below.refl _ _⟩
  case round =>
    obtain ⟨k, rfl, HK, hb⟩ := hrel
    have hk : k < 25 := Nat.lt_of_le_of_lt HK.out HL.out
    have K := HQ.out.keep hb
    have c0 : wr.cell? ⟨Bq, k * 3, none⟩ = some (.int .u8 (numR k)) := by rw [K.cell, ← Nat.add_zero (k * 3), ruCells_at k 0 hk (by omega)]; rfl
    have c1 : wr.cell? ⟨Bq, k * 3 + 1, none⟩ = some (.func (.func (gR k)) #[] #[]) := by rw [K.cell, ruCells_at k 1 hk (by omega)]; rfl
    have c2 : wr.cell? ⟨Bq, k * 3 + 2, none⟩ = some (.bool (mayR k)) := by rw [K.cell, ruCells_at k 2 hk (by omega)]; rfl
    have HC := Lib.hid (HP.out k hk wr hb)
    have i0 : (0 : Int) ≤ k := by omega
    have i1 : (k : Int) < 25 := by omega
    clear K
    rcases ruleP_hit p k HK.out with ⟨h1, h2⟩ | ⟨h1, h2⟩
    · have H1 := Lib.hid h1
      have H2 := Lib.hid h2
      clear h1 h2
      go_wp2_with (go_at_fn g; refine HC.out.mono ?_; rintro e w' ⟨rfl, hb'⟩; rw [H1.out])
      go_ret
      exact ⟨ret_int (by rw [← H2.out]), bel_trans hb hb'⟩
    · have H1 := Lib.hid h1
      have H2 := Lib.hid h2
      clear h1 h2
      go_wp2_with (go_at_fn g; refine HC.out.mono ?_; rintro e w' ⟨rfl, hb'⟩; rw [H1.out])
      go_roundw
      case rel => exact ⟨k + 1, by go_num, H2, bel_trans hb hb'⟩
      case measure => simp [intOf]; omega
end Go.Proofs.Ytlobedonclimbaa.Pair
