/- Chapter 9: the answers' capacities; slices of them; a list with one more character. No condition. -/
import Derived.Test.YtlobedonclimbaaPairG
import Derived.Deep.RegionLaw
import Derived.DataShut
import Derived.Deep.DrawnRows
namespace Go.Proofs.Ytlobedonclimbaa.Pair
open Go.RowKit
set_option linter.unusedVariables false
set_option linter.unusedSimpArgs false

theorem own_cap {w : World} {B n c size : Nat} {e : TypeId} {A : Option Addr} {xs : List Value} (h : w.ownsRow B e size (.slice A n c) n xs) : n ≤ c := by
  rcases h.2 with ⟨_, h0⟩ | ⟨g, cap, cur, hv, _, _, hc, _⟩
  · omega
  · injection hv with _ _ h3
    omega
theorem own_to {w : World} {B m n : Nat} {e : TypeId} {v : Value} {Z X : List Value} (h : w.ownsRow B e 1 v m Z) (hm : m = n) (hZ : Z = X) : ∃ A c, v = .slice A n c ∧ n ≤ c ∧ Reads w w.heap.size 1 A n X := by
  subst hm
  subst hZ
  obtain ⟨A, c, rfl⟩ := own_shape h
  exact ⟨A, c, rfl, own_cap h, own_reads h⟩
theorem BreaksC_any (A : Option Addr) (n c : Nat) (xs : List Int) (hl : xs.length = n) (hn : n ≤ 1000000) (w : World) (hr : Reads w w.heap.size 1 A n (xs.map (Value.int .u8))) :
    Calls Try.prog 15 #[.slice A n c] w fun e w' => ∃ A' c', e = .returned (.slice A' n c') ∧ n ≤ c' ∧ Reads w' w'.heap.size 1 A' n ((tellL false mayR xs).map Value.bool) ∧ Below w.heap.size w w' := by
  have HC := Lib.hid (allB_any A n c xs 22 (Go.Proofs.enters_of Try.func22 (by kernel_rfl) rfl) mayR (fun k hk W => tellMay_any k hk W) hl hn w hr)
  clear hl hr
  go_enter Try.func15, Try.ntmps15
  go_wp2_with (go_at_call 21; refine HC.out.mono ?_; rintro e w' ⟨v, rfl, ho, hb⟩)
  obtain ⟨A', c', rfl⟩ := own_shape ho
  go_ret
  exact ⟨A', c', rfl, own_cap ho, Reads.of_own ho, hb⟩
theorem RulesC_any (A : Option Addr) (n c : Nat) (xs : List Int) (hl : xs.length = n) (hn : n ≤ 1000000) (w : World) (hr : Reads w w.heap.size 1 A n (xs.map (Value.int .u8))) :
    Calls Try.prog 13 #[.slice A n c] w fun e w' => ∃ A' c', e = .returned (.slice A' n c') ∧ n ≤ c' ∧ Reads w' w'.heap.size 1 A' n ((tellL 0 numR xs).map (Value.int .u8)) ∧ Below w.heap.size w w' := by
  have HC := Lib.hid (allU_any A n c xs 20 (Go.Proofs.enters_of Try.func20 (by kernel_rfl) rfl) numR (fun k hk W => tellNum_any k hk W) hl hn w hr)
  clear hl hr
  go_enter Try.func13, Try.ntmps13
  go_wp2_with (go_at_call 19; refine HC.out.mono ?_; rintro e w' ⟨v, rfl, ho, hb⟩)
  obtain ⟨A', c', rfl⟩ := own_shape ho
  go_ret
  exact ⟨A', c', rfl, own_cap ho, Reads.of_own ho, hb⟩
theorem add_zero' (a : Addr) : a.add 0 = a := by simp [Addr.add]
theorem run_cut {P : Program} {t e : TypeId} (ht : P.underlying t = some (.slice e)) (hs : ∀ W, (sizeOf e).run P W = .ok 1 W) (A : Option Addr) (n c k : Nat) (hk : k ≤ n) (hc : n ≤ c) (W : World) :
    (Instr.slice t (.slice A n c) (some (.int .i64 (k : Int))) none none).run P W = .ok (.slice (if c = k then A else A.map (·.add (k * 1))) (n - k) (c - k)) W := by
  have he : P.elem t = e := by simp [Program.elem, ht]
  rw [run_slice_l W t A n c (by rw [he]; exact ht) .i64 (k : Int) (by omega) (by omega), he, hs]
  simp [Result.andThen, sliced]
theorem run_cut0 {P : Program} {t e : TypeId} (ht : P.underlying t = some (.slice e)) (hs : ∀ W, (sizeOf e).run P W = .ok 1 W) (A : Option Addr) (n c k : Nat) (hk : k ≤ c) (W : World) :
    (Instr.slice t (.slice A n c) none (some (.int .i64 (k : Int))) none).run P W = .ok (.slice A k c) W := by
  have he : P.elem t = e := by simp [Program.elem, ht]
  rw [run_slice_h W t A n c (by rw [he]; exact ht) .i64 (k : Int) (by omega) (by omega), he, hs]
  cases A <;> simp [Result.andThen, sliced, add_zero']
theorem cut8 (A : Option Addr) (n c k r : Nat) (xs : List Value) (w : World) (B : Nat) (hr : Reads w B 1 A n xs) (hk : k + r = n) (hc : n ≤ c) :
    ∃ A1 c1, (∀ W, (Instr.slice 22 (.slice A n c) (some (.int .i64 (k : Int))) none none).run Try.prog W = .ok (.slice A1 r c1) W) ∧ Reads w B 1 A1 r (xs.drop k) := by
  obtain rfl : r = n - k := by omega
  refine ⟨_, _, fun W => run_cut (P := Try.prog) Try.underlying22 (fun _ => by kernel_rfl) A n c k (by omega) hc W, ?_⟩
  have := hr.cut (k := k) (by omega) hc
  rw [Nat.mul_one] at this ⊢
  exact this
theorem cut1 (A : Option Addr) (n c k r : Nat) (xs : List Value) (w : World) (B : Nat) (hr : Reads w B 1 A n xs) (hk : k + r = n) (hc : n ≤ c) :
    ∃ A1 c1, (∀ W, (Instr.slice 25 (.slice A n c) (some (.int .i64 (k : Int))) none none).run Try.prog W = .ok (.slice A1 r c1) W) ∧ Reads w B 1 A1 r (xs.drop k) := by
  obtain rfl : r = n - k := by omega
  refine ⟨_, _, fun W => run_cut (P := Try.prog) Try.underlying25 (fun _ => by kernel_rfl) A n c k (by omega) hc W, ?_⟩
  have := hr.cut (k := k) (by omega) hc
  rw [Nat.mul_one] at this ⊢
  exact this
theorem top8 (A : Option Addr) (n c k : Nat) (hk : k ≤ c) : ∀ W, (Instr.slice 22 (.slice A n c) none (some (.int .i64 (k : Int))) none).run Try.prog W = .ok (.slice A k c) W :=
  fun W => run_cut0 (P := Try.prog) Try.underlying22 (fun _ => by kernel_rfl) A n c k hk W
theorem top1 (A : Option Addr) (n c k : Nat) (hk : k ≤ c) : ∀ W, (Instr.slice 25 (.slice A n c) none (some (.int .i64 (k : Int))) none).run Try.prog W = .ok (.slice A k c) W :=
  fun W => run_cut0 (P := Try.prog) Try.underlying25 (fun _ => by kernel_rfl) A n c k hk W
theorem ahead_cells {w : World} {B1 B2 n j : Nat} {A1 A2 : Option Addr} (xs : List Int) (hl : xs.length = n) (h1 : Reads w B1 1 A1 n ((tellL false mayR xs).map Value.bool)) (h2 : Reads w B2 1 A2 n ((tellL false mustR xs).map Value.bool)) (hi : j < n) :
    ∃ ad1 ad2, A1 = some ad1 ∧ A2 = some ad2 ∧ ∃ s q : Bool, w.cell? (ad2.add j) = some (.bool s) ∧ w.cell? (ad1.add j) = some (.bool q) ∧ (s = false ∨ (s = true ∧ q = true)) := by
  obtain ⟨ad1, e1, _, g1⟩ := tell_cell Value.bool false mayR xs hl h1 hi
  obtain ⟨ad2, e2, _, g2⟩ := tell_cell Value.bool false mustR xs hl h2 hi
  exact ⟨ad1, ad2, e1, e2, _, _, g2, g1, mustAt_may xs j⟩
theorem u8_wf {x : Int} (h : (Lit.int .u8 x).wf = true) : 0 ≤ x ∧ x ≤ 255 := (Lit.wf_int_iff .u8 x).1 h
theorem bel_drew {B : Nat} {w w' : World} (h : Below B w w') : Below B w w'.drew := h.drew
theorem bel_own {B n size : Nat} {w0 w w' : World} {e : TypeId} {v : Value} {xs : List Value} (hb : Below B w0 w) (hB : B ≤ w.heap.size) (ho : w.ownsRow B e size v n xs) (hg : w.grownBy w' v.ownBlock) : Below B w0 w' :=
  hb.grown hg hB (fun k e => (ho.lt k e).1)
theorem one8 (xs : List Int) : ∀ u ∈ xs.map (Value.int .u8), u.oneCell' = true := fun u hu => by
  obtain ⟨x, _, rfl⟩ := List.mem_map.1 hu
  rfl
theorem Reads.take8 {w : World} {B n k : Nat} {A : Option Addr} {xs : List Int} (h : Reads w B 1 A n (xs.map (Value.int .u8))) (hk : k ≤ n) : Reads w B 1 A k ((xs.take k).map (Value.int .u8)) := by
  rw [List.map_take]
  exact Reads.cutTo h hk
theorem reads_one {w : World} {g B : Nat} {x : Value} (h : Blk w g 5 #[x]) (hB : g < B) : Reads w B 1 (some ⟨g, 0, none⟩) 1 [x] :=
  ⟨rfl, fun _ => ⟨_, rfl, hB, fun j u hu => by
    have hj : j = 0 := by
      have := (List.getElem?_eq_some_iff.1 hu).1
      simp at this
      omega
    subst hj
    rw [add_zero', h.cell 0]
    exact hu⟩⟩
theorem nat_mod (cut : Int) (n : Nat) (k0 : 0 ≤ cut) (hn1 : 0 < n) : ∃ m : Nat, m < n ∧ cut % (n : Int) = (m : Int) ∧ cut.tmod (n : Int) = (m : Int) := by
  refine ⟨cut.toNat % n, Nat.mod_lt _ hn1, ?_, ?_⟩
  · rw [Int.natCast_emod, Int.toNat_of_nonneg k0]
  · rw [Int.tmod_eq_emod_of_nonneg k0, Int.natCast_emod, Int.toNat_of_nonneg k0]
end Go.Proofs.Ytlobedonclimbaa.Pair
