/- The reference's product, bit by bit, and its quotient, walked: for every two sizes. No condition. -/
import Derived.Test.YtglomkpnbdnnoaaBits
import Derived.Test.YtglomkpnbdnnoaaProg
import Derived.Laws.MakeOwn
import Derived.Laws.Entries
namespace Go.Proofs.Ytglomkpnbdnnoaa.Bits
open Go.RowKit
set_option linter.unusedVariables false

theorem run_makeRow {P : Program} (t e : TypeId) (i : TypeInfo) (z : Value) (ht : P.underlying t = some (.slice e)) (hi : P.info? e = some i) (hz : i.zero = some z)
    (kl kc : IntKind) (n c : Nat) (hnc : n ≤ c) (hbytes : i.bytes * c ≤ 281474976710656) (h63 : c ≤ 9223372036854775807) (w : World) :
    (Instr.makeSlice t (.int kl (n : Int)) (.int kc (c : Int))).run P w = .ok (.slice (some ⟨w.heap.size, 0, none⟩) n c) (w.alloc (.cells (madeCells z.cells (c * i.size)) e)) := by
  have hb : (i.bytes : Int) * (c : Int) ≤ 281474976710656 := by
    have h : ((i.bytes * c : Nat) : Int) ≤ 281474976710656 := by omega
    rwa [Int.natCast_mul] at h
  have hr := run_make (P := P) w t e i z ht hi hz kl kc n c (by omega) (by omega) hb (by omega)
  simp only [Int.toNat_natCast] at hr
  exact hr
def cellsN (l : List Nat) : Array Value := (l.map fun (b : Nat) => Value.int .i64 (b : Int)).toArray
theorem cellsN_get (l : List Nat) (i : Nat) (h : i < l.length) : (cellsN l)[i]? = some (.int .i64 (l[i] : Nat)) := by
  simp [cellsN, h]
theorem cellsN_set (l : List Nat) (i v : Nat) : (cellsN l).setIfInBounds i (.int .i64 (v : Int)) = cellsN (l.set i v) := by
  simp [cellsN]
theorem infoInt : (Try.prog.info? 3).map (fun i => (i.zero, i.size, i.bytes)) = some (some (.int .i64 0), 1, 8) := by kernel_rfl
theorem made132 : ∀ W : World, (Instr.makeSlice 79 (.int .i64 132) (.int .i64 132)).run Try.prog W = .ok (.slice (some ⟨W.heap.size, 0, none⟩) 132 132) (W.alloc (.cells (cellsN (List.replicate 132 0)) 3)) := fun W => by
  obtain ⟨i0, hi, hz0, hz1, hz2⟩ := info_parts infoInt
  have := run_makeRow (P := Try.prog) 79 3 i0 _ Try.underlying79 hi hz0 .i64 .i64 132 132 (by omega) (by rw [hz2]; omega) (by omega) W
  rw [hz1, show madeCells (Value.int .i64 0).cells (132 * 1) = cellsN (List.replicate 132 0) by kernel_rfl] at this
  exact this

theorem shr_bit (a i : Nat) : ((a : Int) / 2 ^ i).tmod 2 = ((a / 2 ^ i % 2 : Nat) : Int) := by
  rw [show ((2 : Int) ^ i) = ((2 ^ i : Nat) : Int) by simp, ← Int.natCast_ediv]
  rfl
set_option maxHeartbeats 4000000 in
set_option maxRecDepth 100000 in
theorem product_any (a b : Nat) (ha : (a : Int) ≤ 18446744073709551615) (hb : (b : Int) ≤ 18446744073709551615) (w : World) :
    Calls Try.prog 50 #[.int .u64 a, .int .u64 b] w fun e w' => ∃ l, bits01 l ∧ l.length = 132 ∧ val l = a * b ∧ e = .returned (.slice (some ⟨w.heap.size, 0, none⟩) 132 132) ∧ Blk w' w.heap.size 3 (cellsN l) ∧ Below w.heap.size w w' := by
  have hmk := made132
  have B0 := Lib.hid (Blk.new w 3 (cellsN (List.replicate 132 0)))
  have bel0 := bel_alloc (Below.refl w.heap.size w) (.cells (cellsN (List.replicate 132 0)) 3)
  generalize hZ : cellsN (List.replicate 132 0) = Z at *
  have HZ := Lib.hid hZ
  clear hZ
  go_enter Try.func50, Try.ntmps50
  go_wp2
  go_loopw [6] (fun i wr => ∃ (k : Nat) (l : List Nat), i = .int .i64 k ∧ k ≤ 64 ∧ Hid (l.length = 132) ∧ Hid (bits01 l) ∧ Hid (val l = a % 2 ^ k * b) ∧ Hid (Blk wr w.heap.size 3 (cellsN l)) ∧ Below w.heap.size w wr) (fun i wr => 64 - (intOf i).toNat)
  case atStart => exact ⟨0, List.replicate 132 0, rfl, by omega, Lib.hid (by simp), Lib.hid (fun x hx => by rw [List.eq_of_mem_replicate hx]; omega), Lib.hid (by rw [val_zeros]; simp [Nat.mod_one]), by rw [HZ.out]; exact B0, bel0⟩
  case round =>
    obtain ⟨i, l, rfl, hi, HL, HB, HV, HK, hb⟩ := hrel
    by_cases hlt : i < 64
    · rcases (show a / 2 ^ i % 2 = 0 ∨ a / 2 ^ i % 2 = 1 by omega) with hbit | hbit
      · have q1 : (((a : Int) / 2 ^ i).tmod 2 == 0) = true := by rw [shr_bit, hbit]; rfl
        have HV2 := Lib.hid (skip_bit HV.out hbit)
        clear hbit
        go_wp2
        go_roundw
        case rel => exact ⟨i + 1, l, by go_num, by omega, HL, HB, HV2, HK, hb⟩
        case measure => simp [intOf]; omega
      · have q1 : (((a : Int) / 2 ^ i).tmod 2 == 0) = false := by rw [shr_bit, hbit]; rfl
        have HBT := Lib.hid hbit
        have HC0 : Hid (Carry (a % 2 ^ i * b) b i 0 0 l) := ⟨HL.out, HB.out, by omega, by rw [HV.out]; simp [Nat.mod_one]⟩
        clear hbit
        obtain ⟨wo, rfl⟩ : ∃ wo : World, wo = wr := ⟨_, rfl⟩
        go_wp2
        go_loopw [7, 8, 9] (fun cv kv nv wr => ∃ (c k : Nat) (l : List Nat), cv = .int .i64 c ∧ kv = .int .i64 k ∧ k + i ≤ 132 ∧ Hid (Carry (a % 2 ^ i * b) b i k c l) ∧ Hid (Blk wr w.heap.size 3 (cellsN l)) ∧ Below w.heap.size w wr) (fun cv kv nv wr => 132 - (intOf kv).toNat)
        case atStart => exact ⟨0, 0, l, rfl, rfl, by omega, HC0, HK, hb⟩
        case round =>
          obtain ⟨c, k, l2, rfl, rfl, hk, HC, HK2, hb2⟩ := hrel
          by_cases hlt2 : k + i < 132
          · have hlen : k + i < l2.length := by rw [HC.out.len]; exact hlt2
            have hcell : wr.cell? ⟨w.heap.size, k + i, none⟩ = some (.int .i64 ((l2[k + i]'hlen : Nat) : Int)) := (HK2.out.cell (k + i)).trans (cellsN_get l2 (k + i) hlen)
            have hfr := HK2.out.frozen (k + i)
            have hx1 : ((l2[k + i]'hlen : Nat) : Int) ≤ 1 := by have := HC.out.bit _ (List.getElem_mem hlen); omega
            have hc1 : (c : Int) ≤ 1 := by have := HC.out.c1; omega
            rcases Nat.lt_or_ge k 64 with h64 | h64
            · obtain ⟨t, ht⟩ : ∃ t, b / 2 ^ k % 2 = t := ⟨_, rfl⟩
              have ht1 : (t : Int) ≤ 1 := by omega
              have hbk : ((b : Int) / 2 ^ k).tmod 2 = (t : Int) := by rw [shr_bit, ht]
              obtain ⟨m, hm⟩ : ∃ m, ((l2[k + i]'hlen) + c + t) % 2 = m := ⟨_, rfl⟩
              obtain ⟨d, hd⟩ : ∃ d, ((l2[k + i]'hlen) + c + t) / 2 = d := ⟨_, rfl⟩
              have ST := Lib.hid (carry_step HC.out hlt2 _ m (by rw [ht]) hm d hd)
              have e1 : (((l2[k + i]'hlen : Nat) : Int) + (c : Int) + (t : Int)) % 2 = (m : Int) := by omega
              have e2 : (((l2[k + i]'hlen : Nat) : Int) + (c : Int) + (t : Int)) / 2 = (d : Int) := by omega
              have KB := Lib.hid (HK2.out.set_ (k + i) (.int .i64 (m : Int)))
              clear ht hm hd
              generalize (l2[k + i]'hlen) = x at *
              go_wp2
              go_roundw
              case rel => exact ⟨d, k + 1, _, by go_num, by go_num, by omega, ST, by rw [← cellsN_set]; exact KB, hb2.setCell (Nat.le_refl _) _⟩
              case measure => first | (simp [intOf]; done) | (simp [intOf]; omega)
            · have ht : b / 2 ^ k % 2 = 0 := by
                rw [Nat.div_eq_of_lt]
                exact Nat.lt_of_lt_of_le (show b < 2 ^ 64 by omega) (Nat.pow_le_pow_right (by omega) h64)
              obtain ⟨m, hm⟩ : ∃ m, ((l2[k + i]'hlen) + c) % 2 = m := ⟨_, rfl⟩
              obtain ⟨d, hd⟩ : ∃ d, ((l2[k + i]'hlen) + c) / 2 = d := ⟨_, rfl⟩
              have ST := Lib.hid (carry_step HC.out hlt2 _ m (by rw [ht, Nat.add_zero]) hm d hd)
              have e1 : (((l2[k + i]'hlen : Nat) : Int) + (c : Int)) % 2 = (m : Int) := by omega
              have e2 : (((l2[k + i]'hlen : Nat) : Int) + (c : Int)) / 2 = (d : Int) := by omega
              have KB := Lib.hid (HK2.out.set_ (k + i) (.int .i64 (m : Int)))
              clear ht hm hd
              generalize (l2[k + i]'hlen) = x at *
              go_wp2
              go_roundw
              case rel => exact ⟨d, k + 1, _, by go_num, by go_num, by omega, ST, by rw [← cellsN_set]; exact KB, hb2.setCell (Nat.le_refl _) _⟩
              case measure => first | (simp [intOf]; done) | (simp [intOf]; omega)
          · have hk2 : k + i = 132 := by omega
            have hv := carry_end (show i < 64 by omega) (show b < 2 ^ 64 by omega) hk2 HC.out HBT.out
            have HV2 := Lib.hid hv
            have HL2 := Lib.hid HC.out.len
            have HB2 := Lib.hid HC.out.bit
            clear hv
            have h132 : (132 : Int) ≤ (k : Int) + (i : Int) := by omega
            clear hk2
            go_wp2
            go_roundw
            case rel => exact ⟨i + 1, l2, by go_num, by omega, HL2, HB2, HV2, HK2, hb2⟩
            case measure => first | (simp [intOf]; done) | (simp [intOf]; omega)
    · obtain rfl : i = 64 := by omega
      have hv := HV.out
      rw [Nat.mod_eq_of_lt (show a < 2 ^ 64 by omega)] at hv
      have HV2 := Lib.hid hv
      clear hv
      go_wp2
      go_ret
      exact ⟨l, HB.out, HL.out, HV2.out, rfl, HK.out, hb⟩

def quoQ (P d : Nat) : Nat := if P / d < 9223372036854775808 then P / d else 0
def quoR (P d : Nat) : Nat := if P / d < 9223372036854775808 then P % d else 0
def quoB (P d : Nat) : Bool := decide (P / d < 9223372036854775808)
theorem quo_in {P d q r : Nat} (h : P / d = q ∧ P % d = r) (hq : q < 9223372036854775808) : quoQ P d = q ∧ quoR P d = r ∧ quoB P d = true := by
  obtain ⟨rfl, rfl⟩ := h
  exact ⟨if_pos hq, if_pos hq, decide_eq_true hq⟩
theorem quo_out {P d : Nat} (h : 9223372036854775808 ≤ P / d) : quoQ P d = 0 ∧ quoR P d = 0 ∧ quoB P d = false :=
  ⟨if_neg (by omega), if_neg (by omega), decide_eq_false (by omega)⟩
theorem ret_quo {a b c d : Nat} {p q : Bool} (h1 : a = b) (h2 : c = d) (h3 : p = q) : Ending.returned (.tuple #[.int .u64 (a : Int), .int .u64 (c : Int), .bool p]) = .returned (.tuple #[.int .u64 (b : Int), .int .u64 (d : Int), .bool q]) := by rw [h1, h2, h3]
set_option maxHeartbeats 4000000 in
set_option maxRecDepth 100000 in
theorem quotient_any (B d : Nat) (l : List Nat) (hl : l.length = 132) (hb : bits01 l) (d0 : 0 < d) (d1 : (d : Int) ≤ 9223372036854775807) (w : World) (hB : Blk w B 3 (cellsN l)) :
    Calls Try.prog 49 #[.slice (some ⟨B, 0, none⟩) 132 132, .int .u64 d] w fun e w' => e = .returned (.tuple #[.int .u64 (quoQ (val l) d : Nat), .int .u64 (quoR (val l) d : Nat), .bool (quoB (val l) d)]) ∧ Drawn w w' := by
  have HL := Lib.hid hl
  have HB := Lib.hid hb
  have HK := Lib.hid hB
  clear hl hb hB
  go_enter Try.func49, Try.ntmps49
  go_wp2
  go_loopw [7, 8, 9] (fun qv rv iv wr => ∃ (q r j : Nat) (i : Int), qv = .int .u64 q ∧ rv = .int .u64 r ∧ iv = .int .i64 i ∧ Hid (i + 1 = j) ∧ j ≤ 132 ∧ (q : Int) < 9223372036854775808 ∧ Hid (Quot l d j q r) ∧ Drawn w wr) (fun qv rv iv wr => (intOf iv + 1).toNat)
  case atStart => exact ⟨0, 0, 132, 131, rfl, rfl, rfl, Lib.hid rfl, by omega, by omega, Lib.hid ⟨by rw [List.drop_of_length_le (by rw [HL.out]; omega)]; simp [val], by omega⟩, Drawn.refl _⟩
  case round =>
    obtain ⟨q, r, j, i, rfl, rfl, rfl, hij, hj, hq, HQ, ⟨m, rfl⟩⟩ := hrel
    have hr : (r : Int) < d := by have := HQ.out.lt; omega
    rcases Nat.eq_zero_or_pos j with rfl | h0
    · obtain rfl : i = -1 := by have := hij.out; omega
      obtain ⟨E1, E2, E3⟩ := quo_in (quot_end HQ.out) (by omega)
      have HE1 := Lib.hid E1
      have HE2 := Lib.hid E2
      have HE3 := Lib.hid E3
      clear E1 E2 E3 hij
      go_wp2
      go_ret3
      exact ⟨ret_quo HE1.out.symm HE2.out.symm HE3.out.symm, ⟨⟨_, rfl⟩⟩⟩
    · obtain ⟨k, rfl⟩ : ∃ k, j = k + 1 := ⟨j - 1, by omega⟩
      obtain rfl : i = (k : Int) := by have := hij.out; omega
      clear hij
      rcases Nat.lt_or_ge q 4611686018427387904 with hq2 | hq2
      · have hq3 : (q : Int) < 4611686018427387904 := by omega
        have hq4 : decide ((4611686018427387904 : Int) ≤ (q : Int)) = false := decide_eq_false (by omega)
        have hlen : k < l.length := by rw [HL.out]; omega
        have hcell : w.cell? ⟨B, k, none⟩ = some (.int .i64 ((l[k]'hlen : Nat) : Int)) := (HK.out.cell k).trans (cellsN_get l k hlen)
        have hx1 : ((l[k]'hlen : Nat) : Int) ≤ 1 := by have := HB.out _ (List.getElem_mem hlen); omega
        have ST := quot_step HQ.out hlen rfl (by omega)
        generalize (l[k]'hlen) = x at *
        have hxw : IntKind.u64.wrap (x : Int) = (x : Int) := by simp [IntKind.wrap, IntKind.bits, IntKind.signed]; omega
        rcases Nat.lt_or_ge (2 * r + x) d with g | g
        · have HS := Lib.hid (ST.1 g)
          have g2 : 2 * (r : Int) + (x : Int) < (d : Int) := by omega
          have g4 : decide ((d : Int) ≤ 2 * (r : Int) + (x : Int)) = false := decide_eq_false (by omega)
          clear ST g hq2
          go_wp2
          go_roundw
          case rel => exact ⟨2 * q, 2 * r + x, k, (k : Int) - 1, by go_num, by go_num, by go_num, Lib.hid (by omega), by omega, by omega, HS, ⟨⟨_, rfl⟩⟩⟩
          case measure => first | (simp [intOf]; done) | (simp [intOf]; omega)
        · have HS := Lib.hid (ST.2 g)
          have g2 : (d : Int) ≤ 2 * (r : Int) + (x : Int) := by omega
          have g3 : ((2 * r + x - d : Nat) : Int) = 2 * (r : Int) + (x : Int) - (d : Int) := by omega
          have G3 := Lib.hid g3
          clear ST g hq2 g3
          go_wp2
          go_roundw
          case rel => exact ⟨2 * q + 1, 2 * r + x - d, k, (k : Int) - 1, by go_num, by rw [G3.out], by go_num, Lib.hid (by omega), by omega, by omega, HS, ⟨⟨_, rfl⟩⟩⟩
          case measure => first | (simp [intOf]; done) | (simp [intOf]; omega)
      · have hq3 : (4611686018427387904 : Int) ≤ q := by omega
        obtain ⟨E1, E2, E3⟩ := quo_out (quot_far HQ.out hq2)
        have HE1 := Lib.hid E1
        have HE2 := Lib.hid E2
        have HE3 := Lib.hid E3
        clear E1 E2 E3 hq2
        go_wp2
        go_ret3
        exact ⟨ret_quo (a := 0) (c := 0) HE1.out.symm HE2.out.symm HE3.out.symm, ⟨⟨_, rfl⟩⟩⟩
end Go.Proofs.Ytglomkpnbdnnoaa.Bits
