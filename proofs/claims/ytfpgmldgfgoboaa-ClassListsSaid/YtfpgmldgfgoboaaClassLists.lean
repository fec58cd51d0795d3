/- ClassLists, walked: it returns true, for every list and every class. No condition. -/
import Derived.Test.YtfpgmldgfgoboaaClassLaws
import Derived.Deep.DrawnRows
import Derived.DataShut
namespace Go.Proofs.Ytfpgmldgfgoboaa.Class
open Go.RowKit
set_option linter.unusedVariables false

theorem nameS_facts : ∀ a b : Fin 27, (nameS (a.val : Int)).size = 2 ∧ ((nameS (a.val : Int)).toList == (nameS (b.val : Int)).toList) = ((a.val : Int) == (b.val : Int)) := by decide +kernel
theorem nameQ (c : Int) (h0 : 0 ≤ c) (h1 : c ≤ 255) (w : World) : Calls Try.prog 26 #[.int .u8 c] w fun e w' => e = .returned (.string (nameS c)) ∧ w' = w :=
  (name_any c h0 h1 w).mono fun _ _ ⟨a, b⟩ => ⟨a, b.symm⟩
theorem name_two {p : Int} (h0 : 0 ≤ p) (h1 : p ≤ 26) : (nameS p).size = 2 := by
  have := (nameS_facts ⟨p.toNat, by omega⟩ ⟨0, by omega⟩).1
  rwa [show ((p.toNat : Nat) : Int) = p by omega] at this
theorem name_same {p q : Int} (h0 : 0 ≤ p) (h1 : p ≤ 26) (g0 : 0 ≤ q) (g1 : q ≤ 26) : ((nameS p).toList == (nameS q).toList) = (p == q) := by
  have := (nameS_facts ⟨p.toNat, by omega⟩ ⟨q.toNat, by omega⟩).2
  rwa [show ((p.toNat : Nat) : Int) = p by omega, show ((q.toNat : Nat) : Int) = q by omega] at this
theorem reads_kind {w : World} {A : Option Addr} {n k B : Nat} {xs : List Int} {f : Int → Value} (hl : xs.length = n) (hr : Reads w B 1 A n (xs.map f)) (hk : k < n) : ∃ ad, A = some ad ∧ ad.block < B ∧ w.cell? (ad.add k) = some (f (xs[k]?.getD 0)) := by
  obtain ⟨ad, u, rfl, hb, hu, hc⟩ := hr.at_ hk
  refine ⟨ad, rfl, hb, ?_⟩
  rw [hc, ← hu, List.getElem?_map, List.getElem?_eq_getElem (by omega)]
  rfl
set_option maxHeartbeats 4000000 in
theorem lists_out (A : Option Addr) (n c : Nat) (d : Int) (hn : (n : Int) ≤ 9223372036854775807) (h : 1000 < n) (w : World) :
    Calls Try.prog 8 #[.slice A n c, .int .u8 d] w fun e w' => e = .returned (.bool true) ∧ Below w.heap.size w w' := by
  go_enter Try.func8, Try.ntmps8
  go_wp2_with (go_at_call 24; refine (head_any _).mono ?_; rintro e w6 ⟨rfl, hb6⟩)
  go_ret
  exact ⟨rfl, hb6⟩

set_option maxHeartbeats 8000000 in
set_option maxRecDepth 100000 in
theorem lists_in (A : Option Addr) (n c : Nat) (xs : List Int) (d : Int) (hn : n ≤ 1000) (d0 : 0 ≤ d) (d1 : d ≤ 255) (hl : xs.length = n) (w : World) (hr : Reads w w.heap.size 1 A n (xs.map (Value.int .i32))) :
    Calls Try.prog 8 #[.slice A n c, .int .u8 d] w fun e w' => e = .returned (.bool true) ∧ Below w.heap.size w w' := by
  have HL := Lib.hid hl
  have HR := Lib.hid hr
  clear hl hr
  have q0 : ((n : Int) != (n : Int)) = false := by simp
  go_enter Try.func8, Try.ntmps8
  go_wp2_with (first
    | (go_at_call 25; refine (all_any A n c xs _ HL.out HR.out (by omega)).mono ?_; rintro e w1 ⟨A1, c1, rfl, hr1, hb1⟩)
    | (go_at_call 26; ((with_reducible refine (name_any d d0 d1 _).mono ?_); rintro e w' ⟨rfl, rfl⟩))
    | (go_at_call 27; ((with_reducible refine (refName_any d d0 d1 _).mono ?_); rintro e w2 ⟨rfl, hb2⟩)))
  have HR1 := Lib.hid ((hr1.below hb2).more hb2.size)
  have HBL := bel_trans hb1 hb2
  clear hr1 hb1 hb2
  go_loopw [6, 7] (fun i kv wr => ∃ k : Nat, i = .int .i64 k ∧ k ≤ n ∧ Hid (Reads wr wr.heap.size 1 A1 n (xs.map clV)) ∧ Below w.heap.size w wr) (fun i kv wr => n - (intOf i).toNat)
  case atStart => exact ⟨0, rfl, by omega, HR1, HBL⟩
  case round =>
    obtain ⟨k, rfl, hk, HA, hb⟩ := hrel
    by_cases hlt : k < n
    · obtain ⟨ad, rfl, _, hc0⟩ := reads_kind HL.out HR.out hlt
      obtain ⟨ad1, rfl, hl1, hc1⟩ := reads_kind HL.out HA.out hlt
      have hc0 : wr.cell? (ad.add k) = some (.int .i32 (xs[k]?.getD 0)) := (hb.cell (by rw [block_of_add]; assumption)).trans hc0
      have hr0 := clsOf_rng (xs[k]?.getD 0)
      rw [clV] at hc1
      obtain ⟨p, hp⟩ : ∃ p, clsOf (xs[k]?.getD 0) = p := ⟨_, rfl⟩
      rw [hp] at hc1 hr0
      have hP : ∀ W, Calls Try.prog 19 #[.int .i32 (xs[k]?.getD 0)] W fun e w' => e = .returned (.int .u8 p) ∧ Below W.heap.size W w' := fun W => by
        have := of_any (xs[k]?.getD 0) W
        rwa [hp] at this
      generalize xs[k]?.getD 0 = x at hc0 hP
      have HP := Lib.hid hP
      have q2 : (nameS p).size = 2 := name_two (by omega) (by omega)
      have p0 : 0 ≤ p := by omega
      have p1 : p ≤ 255 := by omega
      have p2 : p ≤ 26 := by omega
      have i0 : (0 : Int) ≤ k := by omega
      have i1 : (k : Int) < n := by omega
      have q3 : (p != p) = false := by simp
      clear hP hp hr0
      have C0 := Lib.hid hc0
      have C1 := Lib.hid hc1
      obtain ⟨wo, rfl⟩ : ∃ wo : World, wo = wr := ⟨_, rfl⟩
      go_wp2
      go_region_held3 (fun w' => w'.cell? (ad1.add k) = some (.int .u8 p) ∧ w'.cell? (ad.add k) = some (.int .i32 x))
        (first | exact ⟨C1.out, C0.out⟩ | exact ⟨(hb3.cell (World.block_lt_of_cell? wo _ C1.out)).trans C1.out, (hb3.cell (World.block_lt_of_cell? wo _ C0.out)).trans C0.out⟩ | go_keep)
        (first
        | (go_at_call 19; refine (HP.out _).mono ?_; rintro e w3 ⟨rfl, hb3⟩)
        | (go_at_call 26; refine (name_any p p0 p1 _).mono ?_; rintro e w' ⟨rfl, rfl⟩))
      go_wp2
      have HA3 := Lib.hid (((Reads.drewN HA.out 1).below hb3).more hb3.size)
      have hbw3 : Below w.heap.size w w3 := bel_trans (bel_drewN hb 1) hb3
      go_loopw [7] (fun kv wr => ∃ j : Nat, kv = .int .i64 j ∧ j ≤ k ∧ Hid (Reads wr wr.heap.size 1 (some ad1) n (xs.map clV)) ∧ Below w.heap.size w wr) (fun kv wr => k - (intOf kv).toNat)
      case atStart => exact ⟨0, rfl, by omega, HA3, hbw3⟩
      case round =>
        obtain ⟨j, rfl, hj, HA4, hb4⟩ := hrel
        by_cases hlt2 : j < k ∧ j < 20
        · obtain ⟨j1, j2⟩ := hlt2
          obtain ⟨_, e1, lt1, g0⟩ := reads_kind HL.out HA4.out hlt
          cases e1
          obtain ⟨_, e2, lt2, g1⟩ := reads_kind HL.out HA4.out (show j < n by omega)
          cases e2
          rw [clV] at g0 g1
          have hr0 := clsOf_rng (xs[k]?.getD 0)
          have hr1 := clsOf_rng (xs[j]?.getD 0)
          have NS := name_same (p := clsOf (xs[k]?.getD 0)) (q := clsOf (xs[j]?.getD 0)) (by omega) (by omega) (by omega) (by omega)
          generalize clsOf (xs[k]?.getD 0) = p at g0 hr0 NS
          generalize clsOf (xs[j]?.getD 0) = q at g1 hr1 NS
          obtain ⟨a0, a1⟩ : 0 ≤ p ∧ p ≤ 255 := by omega
          obtain ⟨b0, b1⟩ : 0 ≤ q ∧ q ≤ 255 := by omega
          have k0 : (0 : Int) ≤ k := by omega
          have k1 : (k : Int) < n := by omega
          have m0 : (0 : Int) ≤ j := by omega
          have m1 : (j : Int) < n := by omega
          have j3 : (j : Int) < 20 := by omega
          clear hr0 hr1 lt1 lt2
          obtain ⟨w4, rfl⟩ : ∃ w4 : World, w4 = wr := ⟨_, rfl⟩
          have G0 := Lib.hid g0
          have G1 := Lib.hid g1
          go_wp2
          go_region_held3 (fun w' => w'.cell? (ad1.add k) = some (.int .u8 p) ∧ w'.cell? (ad1.add j) = some (.int .u8 q))
            (first | exact ⟨G0.out, G1.out⟩ | go_keep)
            ((go_at_call 26; first | ((with_reducible refine (name_any p a0 a1 _).mono ?_); rintro e w' ⟨rfl, rfl⟩) | ((with_reducible refine (name_any q b0 b1 _).mono ?_); rintro e w' ⟨rfl, rfl⟩)))
          go_wp2
          go_roundw
          case rel => exact ⟨j + 1, by go_num, by omega, Lib.hid (HA4.out.drewN _), bel_drewN hb4 _⟩
          case measure => simp [intOf]; omega
        · have hx : k ≤ j ∨ 20 ≤ j := by omega
          have HA5 := HA4
          rcases (show k ≤ j ∨ (j < k ∧ 20 ≤ j) by omega) with hx | ⟨hx, hy⟩
          all_goals
            go_wp2
            go_roundw
            case rel => exact ⟨k + 1, by go_num, by omega, HA5, hb4⟩
            case measure => simp [intOf]; omega
    · obtain rfl : k = n := by omega
      go_wp2_with (go_at_call 24; refine (head_any _).mono ?_; rintro e w6 ⟨rfl, hb6⟩)
      go_ret
      exact ⟨rfl, bel_trans hb hb6⟩
theorem ClassLists_any (A : Option Addr) (n c : Nat) (xs : List Int) (d : Int) (hc : n ≤ c) (hm : c ≤ maxLen) (hl : xs.length = n) (hd : (Lit.int .u8 d).wf = true) (w : World) (hr : Reads w w.heap.size 1 A n (xs.map (Value.int .i32))) :
    Calls Try.prog 8 #[.slice A n c, .int .u8 d] w fun e w' => e = .returned (.bool true) ∧ Below w.heap.size w w' := by
  have hd : 0 ≤ d ∧ d ≤ 255 := (Lit.wf_int_iff .u8 d).1 hd
  rcases Nat.lt_or_ge 1000 n with h | h
  · unfold maxLen at hm
    exact lists_out A n c d (by omega) h w
  · exact lists_in A n c xs d h hd.1 hd.2 hl w hr
end Go.Proofs.Ytfpgmldgfgoboaa.Class
