/- Chapter 3: a number written, walked. No condition but bounds. -/
import Derived.Test.YtijkfllolcgfhaaPackW
namespace Go.Proofs.Ytijkfllolcgfhaa.Pack
open Go.RowKit
set_option linter.unusedVariables false
set_option linter.unusedSimpArgs false

theorem byteV_small {m : Int} (h0 : 0 ≤ m) (h : m < 256) : byteV (UInt8.ofNat m.toNat) = .int .u8 m := by
  unfold byteV
  congr 1
  simp [UInt8.toNat_ofNat']
  omega
/-- The digits that were written, q of 8 being left. -/
def dg (m : Int) (q : Nat) : List UInt8 := be (m.toNat / 256 ^ q)
theorem dg_8 {m : Int} (h0 : 0 ≤ m) (h : m < 18446744073709551616) : dg m 8 = [] := by
  unfold dg
  rw [pow8, Nat.div_eq_of_lt (by omega)]
  rfl
theorem dg_0 (m : Int) : dg m 0 = be m.toNat := by unfold dg; rw [Nat.pow_zero, Nat.div_one]
theorem u64_of {m : Int} (h : m < 18446744073709551616) (q : Nat) : U64 (m.toNat / 256 ^ q) := by
  unfold U64
  exact Nat.lt_of_le_of_lt (Nat.div_le_self _ _) (by omega)
theorem dg_succ {m : Int} (h : m < 18446744073709551616) (q : Nat) : dg m q = if m.toNat / 256 ^ q = 0 then [] else dg m (q + 1) ++ [UInt8.ofNat (m.toNat / 256 ^ q)] := by
  unfold dg
  rw [be_eq (u64_of h q), Nat.div_div_eq_div_mul, ← Nat.pow_succ]
theorem dg_len {m : Int} (h : m < 18446744073709551616) (q : Nat) : (dg m q).length ≤ 8 := be_len (u64_of h q)
theorem dg_pos {m : Int} (h : m < 18446744073709551616) (q : Nat) (hp : 0 < (dg m (q + 1)).length) : m.toNat / 256 ^ q ≠ 0 := by
  intro e
  unfold dg at hp
  rw [Nat.pow_succ, ← Nat.div_div_eq_div_mul, e] at hp
  rw [Nat.zero_div, be_zero] at hp
  exact absurd hp (by decide)
/-- What becomes of the digits with one more. -/
theorem dg_more {m : Int} (h0 : 0 ≤ m) (h : m < 18446744073709551616) (q : Nat) (P d : Int) (hP : P = ((256 ^ q : Nat) : Int)) (hd : m / P % 256 = d) : 0 ≤ d ∧ d < 256 ∧
    (0 < d ∨ 0 < (dg m (q + 1)).length → dg m q = dg m (q + 1) ++ [UInt8.ofNat d.toNat]) ∧ (¬ 0 < d → ¬ 0 < (dg m (q + 1)).length → dg m q = dg m (q + 1)) := by
  subst hP
  obtain ⟨n, rfl⟩ := Int.eq_ofNat_of_zero_le h0
  have e : ((n : Int) / ((256 ^ q : Nat) : Int)) % 256 = ((n / 256 ^ q % 256 : Nat) : Int) := by rw [Int.natCast_emod, Int.natCast_ediv]; rfl
  rw [e] at hd
  subst hd
  refine ⟨by omega, by omega, fun hc => ?_, fun h1 h2 => ?_⟩
  · have hne : n / 256 ^ q ≠ 0 := by
      rcases hc with hc | hc
      · omega
      · exact dg_pos h q hc
    rw [dg_succ h, if_neg (by simpa using hne)]
    rw [Int.toNat_natCast, Int.toNat_natCast]
    congr 2
    rw [← UInt8.toNat_inj]
    simp [UInt8.toNat_ofNat']
  · rw [dg_succ h]
    have hl : dg n (q + 1) = [] := List.eq_nil_of_length_eq_zero (by omega)
    by_cases hz : n / 256 ^ q = 0
    · rw [if_pos (by simpa using hz), hl]
    · exfalso
      unfold dg at hl
      simp only [Int.toNat_natCast] at hl
      have hu := u64_of h (q + 1)
      simp only [Int.toNat_natCast] at hu
      rcases Nat.eq_zero_or_pos (n / 256 ^ (q + 1)) with hq | hq
      · rw [Nat.pow_succ, ← Nat.div_div_eq_div_mul] at hq
        omega
      · exact be_ne hu hq hl
theorem own_far_reads {S : Nat → Prop} {w w' : World} {base n c : Nat} {e : TypeId} {A : Option Addr} {xs : List Value} (h : w.ownsRow base e 1 (.slice A n c) n xs) (hf : Far S w w') (hn : ∀ k, (Value.slice A n c).ownBlock = some k → ¬ S k) : Reads w' w'.heap.size 1 A n xs :=
  own_reads (hf.own h hn)
theorem natI (n : Nat) : ((n : Int)).toNat = n := Int.toNat_natCast n
set_option maxHeartbeats 4000000 in
theorem num_any (g : Nat) (r : Option Nat) (p : Option Addr) (o : Option (List UInt8)) (m : Int) (w : World) (hs : WrS w g r p o) (h0 : 0 ≤ m) (hm : m < 18446744073709551616) (ho : ∀ l, o = some l → l.length ≤ 60000000000000) :
    Calls Try.prog 21 #[.pointer p, .int .u64 m] w (WPost w g r p (o.map (· ++ numB m.toNat))) := by
  have HS := Lib.hid hs
  have HM := Lib.hid hm
  have HO := Lib.hid ho
  clear hs hm ho
  by_cases hlt : m < 248
  · go_enter Try.func21, Try.ntmps21
    go_wp2_with (go_at_call 49; refine (put_any g r p o _ 1 1 _ [UInt8.ofNat m.toNat] _ (HS.out.below (bel_alloc (Below.refl _ _) _)) (reads_new _ _ _ 1 _ (by simp [byteV_small h0 (by omega)]) (by simp)) (by omega) (fun l e => by have := HO.out l e; omega)).mono ?_; rintro e w' ⟨rfl, r1, hs1, hf1⟩)
    go_end0
    refine ⟨rfl, r1, ?_, (WF.of_below (bel_alloc (Below.refl _ _) _)).trans (by simpa using hf1)⟩
    rw [numB_small (by omega)]
    exact hs1
  · have N8 : (dg m 8).length = 0 := by rw [dg_8 h0 HM.out]; rfl
    have HN8 := Lib.hid N8
    clear N8
    obtain ⟨i0, hi, hz0, hz1, hz2⟩ := info_parts info8
    have HI := Lib.hid hi
    have HZ0 := Lib.hid hz0
    have HZ1 := Lib.hid hz1
    have HZ2 := Lib.hid hz2
    clear hi hz0 hz1 hz2
    go_enter Try.func21, Try.ntmps21
    go_wp2_with (fail)
    go_loopw [4, 5] (fun l k wr => ∃ (q : Nat) (A : Option Addr) (c : Nat), q ≤ 8 ∧ k = .int .i64 ((q : Int) - 1) ∧ l = .slice A (dg m q).length c ∧ Hid (Below w.heap.size w wr) ∧ Hid (wr.ownsRow w.heap.size 5 1 l (dg m q).length ((dg m q).map byteV))) (fun _ k _ => (intOf k + 1).toNat)
    case atStart => exact ⟨8, none, 0, by omega, rfl, by rw [HN8.out], Lib.hid (Below.refl _ _), Lib.hid (by rw [dg_8 h0 HM.out]; exact own_nil _ _ _ _)⟩
    case round =>
      obtain ⟨q, A, c, hq, rfl, rfl, HB, HW⟩ := hrel
      by_cases hz : 0 < q
      · have hl8 := dg_len HM.out q
        obtain rfl | rfl | rfl | rfl | rfl | rfl | rfl | rfl : q = 1 ∨ q = 2 ∨ q = 3 ∨ q = 4 ∨ q = 5 ∨ q = 6 ∨ q = 7 ∨ q = 8 := by omega
        · rw [show (((1 : Nat) : Int) - 1) = 0 from rfl]
          go_upto_region 7 with (fail)
          obtain ⟨d, hd⟩ : ∃ d, m % 256 = d := ⟨_, rfl⟩
          obtain ⟨d0, d1, D2, D3⟩ := dg_more h0 HM.out 0 1 d (by rfl) (by simpa using hd)
          have T2 := Lib.hid D2
          have T3 := Lib.hid D3
          have KQ : Hid ((1 : Nat) - 1 = 0) := Lib.hid rfl
          rw [hd]
          clear hd D2 D3
          generalize hL : (dg m 1).length = L at HW hl8 T2 T3 ⊢
          have HL := Lib.hid hL
          clear hL
          by_cases hA : 0 < d
          · have tA : decide ((0 : Int) < d) = true := by simpa using hA
            have DQ := Lib.hid (T2.out (.inl hA))
            clear T2 T3
            go_wp2_with (at_builtin; refine wpList_append_any _ rfl (.tmp 30) (.tmp 32) 49 rfl w.heap.size 5 i0 (.int .u8 0) 1 1 Try.underlying49 HI.out HZ0.out HZ1.out HZ2.out rfl (by decide) _ _ _ rfl (HW.out.alloc _) _ _ 1 1 [.int .u8 d] rfl (reads_new _ _ _ 1 _ rfl rfl) (by simp [Value.oneCell']) (by unfold maxLen; omega) (by omega) (by have := HB.out.size; simp; omega) ?_; intro v1 w1 hown1 hg1 hb1; obtain ⟨A1, c1, rfl⟩ := own_shape hown1; have P1 := Lib.hid hown1; have PB := Lib.hid (bel_grown (bel_alloc HB.out (.cells #[.int .u8 d] 5)) (HW.out.alloc (.cells #[.int .u8 d] 5)) hg1); clear hown1 hg1 hb1)
            have EL : (dg m 0).length = L + 1 := by rw [DQ.out, List.length_append, HL.out]; rfl
            have EM : (dg m 0).map byteV = (dg m 1).map byteV ++ [.int .u8 d] := by rw [DQ.out, List.map_append, List.map_cons, List.map_nil, byteV_small d0 d1]
            have ELH := Lib.hid EL
            have EMH := Lib.hid EM
            clear EL EM
            go_roundw
            case rel => exact ⟨0, A1, c1, by omega, rfl, by rw [ELH.out], PB, by rw [ELH.out, EMH.out]; exact P1⟩
            case measure => simp [intOf]
          · have tA : decide ((0 : Int) < d) = false := by simpa using hA
            have dz : d = 0 := by omega
            have DZ := Lib.hid dz
            by_cases hB : 0 < L
            · have tB : decide (0 < L) = true := by simpa using hB
              have tB' : decide ((0 : Int) < (L : Int)) = true := by simp; exact hB
              have DQ := Lib.hid (T2.out (.inr hB))
              clear T2 T3 dz
              go_wp2_with (at_builtin; refine wpList_append_any _ rfl (.tmp 30) (.tmp 32) 49 rfl w.heap.size 5 i0 (.int .u8 0) 1 1 Try.underlying49 HI.out HZ0.out HZ1.out HZ2.out rfl (by decide) _ _ _ rfl (HW.out.alloc _) _ _ 1 1 [.int .u8 d] rfl (reads_new _ _ _ 1 _ rfl rfl) (by simp [Value.oneCell']) (by unfold maxLen; omega) (by omega) (by have := HB.out.size; simp; omega) ?_; intro v1 w1 hown1 hg1 hb1; obtain ⟨A1, c1, rfl⟩ := own_shape hown1; have P1 := Lib.hid hown1; have PB := Lib.hid (bel_grown (bel_alloc HB.out (.cells #[.int .u8 d] 5)) (HW.out.alloc (.cells #[.int .u8 d] 5)) hg1); clear hown1 hg1 hb1)
              have EL : (dg m 0).length = L + 1 := by rw [DQ.out, List.length_append, HL.out]; rfl
              have EM : (dg m 0).map byteV = (dg m 1).map byteV ++ [.int .u8 d] := by rw [DQ.out, List.map_append, List.map_cons, List.map_nil, byteV_small d0 d1]
              have ELH := Lib.hid EL
              have EMH := Lib.hid EM
              clear EL EM
              go_roundw
              case rel => exact ⟨0, A1, c1, by omega, rfl, by rw [ELH.out], PB, by rw [ELH.out, EMH.out]; exact P1⟩
              case measure => simp [intOf]
            · have tB : decide (0 < L) = false := by simpa using hB
              have tB' : decide ((0 : Int) < (L : Int)) = false := by simp; omega
              have DQ := Lib.hid (T3.out hA hB)
              clear T2 T3 dz
              go_wp2_with (fail)
              go_roundw
              case rel => exact ⟨0, A, c, by omega, rfl, by rw [DQ.out, HL.out], HB, by rw [DQ.out, HL.out]; exact HW⟩
              case measure => simp [intOf]
        · rw [show (((2 : Nat) : Int) - 1) = 1 from rfl]
          go_upto_region 7 with (fail)
          obtain ⟨d, hd⟩ : ∃ d, m / 256 % 256 = d := ⟨_, rfl⟩
          obtain ⟨d0, d1, D2, D3⟩ := dg_more h0 HM.out 1 256 d (by rfl) (by exact hd)
          have T2 := Lib.hid D2
          have T3 := Lib.hid D3
          have KQ : Hid ((2 : Nat) - 1 = 1) := Lib.hid rfl
          rw [hd]
          clear hd D2 D3
          generalize hL : (dg m 2).length = L at HW hl8 T2 T3 ⊢
          have HL := Lib.hid hL
          clear hL
          by_cases hA : 0 < d
          · have tA : decide ((0 : Int) < d) = true := by simpa using hA
            have DQ := Lib.hid (T2.out (.inl hA))
            clear T2 T3
            go_wp2_with (at_builtin; refine wpList_append_any _ rfl (.tmp 30) (.tmp 32) 49 rfl w.heap.size 5 i0 (.int .u8 0) 1 1 Try.underlying49 HI.out HZ0.out HZ1.out HZ2.out rfl (by decide) _ _ _ rfl (HW.out.alloc _) _ _ 1 1 [.int .u8 d] rfl (reads_new _ _ _ 1 _ rfl rfl) (by simp [Value.oneCell']) (by unfold maxLen; omega) (by omega) (by have := HB.out.size; simp; omega) ?_; intro v1 w1 hown1 hg1 hb1; obtain ⟨A1, c1, rfl⟩ := own_shape hown1; have P1 := Lib.hid hown1; have PB := Lib.hid (bel_grown (bel_alloc HB.out (.cells #[.int .u8 d] 5)) (HW.out.alloc (.cells #[.int .u8 d] 5)) hg1); clear hown1 hg1 hb1)
            have EL : (dg m 1).length = L + 1 := by rw [DQ.out, List.length_append, HL.out]; rfl
            have EM : (dg m 1).map byteV = (dg m 2).map byteV ++ [.int .u8 d] := by rw [DQ.out, List.map_append, List.map_cons, List.map_nil, byteV_small d0 d1]
            have ELH := Lib.hid EL
            have EMH := Lib.hid EM
            clear EL EM
            go_roundw
            case rel => exact ⟨1, A1, c1, by omega, rfl, by rw [ELH.out], PB, by rw [ELH.out, EMH.out]; exact P1⟩
            case measure => simp [intOf]
          · have tA : decide ((0 : Int) < d) = false := by simpa using hA
            have dz : d = 0 := by omega
            have DZ := Lib.hid dz
            by_cases hB : 0 < L
            · have tB : decide (0 < L) = true := by simpa using hB
              have tB' : decide ((0 : Int) < (L : Int)) = true := by simp; exact hB
              have DQ := Lib.hid (T2.out (.inr hB))
              clear T2 T3 dz
              go_wp2_with (at_builtin; refine wpList_append_any _ rfl (.tmp 30) (.tmp 32) 49 rfl w.heap.size 5 i0 (.int .u8 0) 1 1 Try.underlying49 HI.out HZ0.out HZ1.out HZ2.out rfl (by decide) _ _ _ rfl (HW.out.alloc _) _ _ 1 1 [.int .u8 d] rfl (reads_new _ _ _ 1 _ rfl rfl) (by simp [Value.oneCell']) (by unfold maxLen; omega) (by omega) (by have := HB.out.size; simp; omega) ?_; intro v1 w1 hown1 hg1 hb1; obtain ⟨A1, c1, rfl⟩ := own_shape hown1; have P1 := Lib.hid hown1; have PB := Lib.hid (bel_grown (bel_alloc HB.out (.cells #[.int .u8 d] 5)) (HW.out.alloc (.cells #[.int .u8 d] 5)) hg1); clear hown1 hg1 hb1)
              have EL : (dg m 1).length = L + 1 := by rw [DQ.out, List.length_append, HL.out]; rfl
              have EM : (dg m 1).map byteV = (dg m 2).map byteV ++ [.int .u8 d] := by rw [DQ.out, List.map_append, List.map_cons, List.map_nil, byteV_small d0 d1]
              have ELH := Lib.hid EL
              have EMH := Lib.hid EM
              clear EL EM
              go_roundw
              case rel => exact ⟨1, A1, c1, by omega, rfl, by rw [ELH.out], PB, by rw [ELH.out, EMH.out]; exact P1⟩
              case measure => simp [intOf]
            · have tB : decide (0 < L) = false := by simpa using hB
              have tB' : decide ((0 : Int) < (L : Int)) = false := by simp; omega
              have DQ := Lib.hid (T3.out hA hB)
              clear T2 T3 dz
              go_wp2_with (fail)
              go_roundw
              case rel => exact ⟨1, A, c, by omega, rfl, by rw [DQ.out, HL.out], HB, by rw [DQ.out, HL.out]; exact HW⟩
              case measure => simp [intOf]
        · rw [show (((3 : Nat) : Int) - 1) = 2 from rfl]
          go_upto_region 7 with (fail)
          obtain ⟨d, hd⟩ : ∃ d, m / 65536 % 256 = d := ⟨_, rfl⟩
          obtain ⟨d0, d1, D2, D3⟩ := dg_more h0 HM.out 2 65536 d (by rfl) (by exact hd)
          have T2 := Lib.hid D2
          have T3 := Lib.hid D3
          have KQ : Hid ((3 : Nat) - 1 = 2) := Lib.hid rfl
          rw [hd]
          clear hd D2 D3
          generalize hL : (dg m 3).length = L at HW hl8 T2 T3 ⊢
          have HL := Lib.hid hL
          clear hL
          by_cases hA : 0 < d
          · have tA : decide ((0 : Int) < d) = true := by simpa using hA
            have DQ := Lib.hid (T2.out (.inl hA))
            clear T2 T3
            go_wp2_with (at_builtin; refine wpList_append_any _ rfl (.tmp 30) (.tmp 32) 49 rfl w.heap.size 5 i0 (.int .u8 0) 1 1 Try.underlying49 HI.out HZ0.out HZ1.out HZ2.out rfl (by decide) _ _ _ rfl (HW.out.alloc _) _ _ 1 1 [.int .u8 d] rfl (reads_new _ _ _ 1 _ rfl rfl) (by simp [Value.oneCell']) (by unfold maxLen; omega) (by omega) (by have := HB.out.size; simp; omega) ?_; intro v1 w1 hown1 hg1 hb1; obtain ⟨A1, c1, rfl⟩ := own_shape hown1; have P1 := Lib.hid hown1; have PB := Lib.hid (bel_grown (bel_alloc HB.out (.cells #[.int .u8 d] 5)) (HW.out.alloc (.cells #[.int .u8 d] 5)) hg1); clear hown1 hg1 hb1)
            have EL : (dg m 2).length = L + 1 := by rw [DQ.out, List.length_append, HL.out]; rfl
            have EM : (dg m 2).map byteV = (dg m 3).map byteV ++ [.int .u8 d] := by rw [DQ.out, List.map_append, List.map_cons, List.map_nil, byteV_small d0 d1]
            have ELH := Lib.hid EL
            have EMH := Lib.hid EM
            clear EL EM
            go_roundw
            case rel => exact ⟨2, A1, c1, by omega, rfl, by rw [ELH.out], PB, by rw [ELH.out, EMH.out]; exact P1⟩
            case measure => simp [intOf]
          · have tA : decide ((0 : Int) < d) = false := by simpa using hA
            have dz : d = 0 := by omega
            have DZ := Lib.hid dz
            by_cases hB : 0 < L
            · have tB : decide (0 < L) = true := by simpa using hB
              have tB' : decide ((0 : Int) < (L : Int)) = true := by simp; exact hB
              have DQ := Lib.hid (T2.out (.inr hB))
              clear T2 T3 dz
              go_wp2_with (at_builtin; refine wpList_append_any _ rfl (.tmp 30) (.tmp 32) 49 rfl w.heap.size 5 i0 (.int .u8 0) 1 1 Try.underlying49 HI.out HZ0.out HZ1.out HZ2.out rfl (by decide) _ _ _ rfl (HW.out.alloc _) _ _ 1 1 [.int .u8 d] rfl (reads_new _ _ _ 1 _ rfl rfl) (by simp [Value.oneCell']) (by unfold maxLen; omega) (by omega) (by have := HB.out.size; simp; omega) ?_; intro v1 w1 hown1 hg1 hb1; obtain ⟨A1, c1, rfl⟩ := own_shape hown1; have P1 := Lib.hid hown1; have PB := Lib.hid (bel_grown (bel_alloc HB.out (.cells #[.int .u8 d] 5)) (HW.out.alloc (.cells #[.int .u8 d] 5)) hg1); clear hown1 hg1 hb1)
              have EL : (dg m 2).length = L + 1 := by rw [DQ.out, List.length_append, HL.out]; rfl
              have EM : (dg m 2).map byteV = (dg m 3).map byteV ++ [.int .u8 d] := by rw [DQ.out, List.map_append, List.map_cons, List.map_nil, byteV_small d0 d1]
              have ELH := Lib.hid EL
              have EMH := Lib.hid EM
              clear EL EM
              go_roundw
              case rel => exact ⟨2, A1, c1, by omega, rfl, by rw [ELH.out], PB, by rw [ELH.out, EMH.out]; exact P1⟩
              case measure => simp [intOf]
            · have tB : decide (0 < L) = false := by simpa using hB
              have tB' : decide ((0 : Int) < (L : Int)) = false := by simp; omega
              have DQ := Lib.hid (T3.out hA hB)
              clear T2 T3 dz
              go_wp2_with (fail)
              go_roundw
              case rel => exact ⟨2, A, c, by omega, rfl, by rw [DQ.out, HL.out], HB, by rw [DQ.out, HL.out]; exact HW⟩
              case measure => simp [intOf]
        · rw [show (((4 : Nat) : Int) - 1) = 3 from rfl]
          go_upto_region 7 with (fail)
          obtain ⟨d, hd⟩ : ∃ d, m / 16777216 % 256 = d := ⟨_, rfl⟩
          obtain ⟨d0, d1, D2, D3⟩ := dg_more h0 HM.out 3 16777216 d (by rfl) (by exact hd)
          have T2 := Lib.hid D2
          have T3 := Lib.hid D3
          have KQ : Hid ((4 : Nat) - 1 = 3) := Lib.hid rfl
          rw [hd]
          clear hd D2 D3
          generalize hL : (dg m 4).length = L at HW hl8 T2 T3 ⊢
          have HL := Lib.hid hL
          clear hL
          by_cases hA : 0 < d
          · have tA : decide ((0 : Int) < d) = true := by simpa using hA
            have DQ := Lib.hid (T2.out (.inl hA))
            clear T2 T3
            go_wp2_with (at_builtin; refine wpList_append_any _ rfl (.tmp 30) (.tmp 32) 49 rfl w.heap.size 5 i0 (.int .u8 0) 1 1 Try.underlying49 HI.out HZ0.out HZ1.out HZ2.out rfl (by decide) _ _ _ rfl (HW.out.alloc _) _ _ 1 1 [.int .u8 d] rfl (reads_new _ _ _ 1 _ rfl rfl) (by simp [Value.oneCell']) (by unfold maxLen; omega) (by omega) (by have := HB.out.size; simp; omega) ?_; intro v1 w1 hown1 hg1 hb1; obtain ⟨A1, c1, rfl⟩ := own_shape hown1; have P1 := Lib.hid hown1; have PB := Lib.hid (bel_grown (bel_alloc HB.out (.cells #[.int .u8 d] 5)) (HW.out.alloc (.cells #[.int .u8 d] 5)) hg1); clear hown1 hg1 hb1)
            have EL : (dg m 3).length = L + 1 := by rw [DQ.out, List.length_append, HL.out]; rfl
            have EM : (dg m 3).map byteV = (dg m 4).map byteV ++ [.int .u8 d] := by rw [DQ.out, List.map_append, List.map_cons, List.map_nil, byteV_small d0 d1]
            have ELH := Lib.hid EL
            have EMH := Lib.hid EM
            clear EL EM
            go_roundw
            case rel => exact ⟨3, A1, c1, by omega, rfl, by rw [ELH.out], PB, by rw [ELH.out, EMH.out]; exact P1⟩
            case measure => simp [intOf]
          · have tA : decide ((0 : Int) < d) = false := by simpa using hA
            have dz : d = 0 := by omega
            have DZ := Lib.hid dz
            by_cases hB : 0 < L
            · have tB : decide (0 < L) = true := by simpa using hB
              have tB' : decide ((0 : Int) < (L : Int)) = true := by simp; exact hB
              have DQ := Lib.hid (T2.out (.inr hB))
              clear T2 T3 dz
              go_wp2_with (at_builtin; refine wpList_append_any _ rfl (.tmp 30) (.tmp 32) 49 rfl w.heap.size 5 i0 (.int .u8 0) 1 1 Try.underlying49 HI.out HZ0.out HZ1.out HZ2.out rfl (by decide) _ _ _ rfl (HW.out.alloc _) _ _ 1 1 [.int .u8 d] rfl (reads_new _ _ _ 1 _ rfl rfl) (by simp [Value.oneCell']) (by unfold maxLen; omega) (by omega) (by have := HB.out.size; simp; omega) ?_; intro v1 w1 hown1 hg1 hb1; obtain ⟨A1, c1, rfl⟩ := own_shape hown1; have P1 := Lib.hid hown1; have PB := Lib.hid (bel_grown (bel_alloc HB.out (.cells #[.int .u8 d] 5)) (HW.out.alloc (.cells #[.int .u8 d] 5)) hg1); clear hown1 hg1 hb1)
              have EL : (dg m 3).length = L + 1 := by rw [DQ.out, List.length_append, HL.out]; rfl
              have EM : (dg m 3).map byteV = (dg m 4).map byteV ++ [.int .u8 d] := by rw [DQ.out, List.map_append, List.map_cons, List.map_nil, byteV_small d0 d1]
              have ELH := Lib.hid EL
              have EMH := Lib.hid EM
              clear EL EM
              go_roundw
              case rel => exact ⟨3, A1, c1, by omega, rfl, by rw [ELH.out], PB, by rw [ELH.out, EMH.out]; exact P1⟩
              case measure => simp [intOf]
            · have tB : decide (0 < L) = false := by simpa using hB
              have tB' : decide ((0 : Int) < (L : Int)) = false := by simp; omega
              have DQ := Lib.hid (T3.out hA hB)
              clear T2 T3 dz
              go_wp2_with (fail)
              go_roundw
              case rel => exact ⟨3, A, c, by omega, rfl, by rw [DQ.out, HL.out], HB, by rw [DQ.out, HL.out]; exact HW⟩
              case measure => simp [intOf]
        · rw [show (((5 : Nat) : Int) - 1) = 4 from rfl]
          go_upto_region 7 with (fail)
          obtain ⟨d, hd⟩ : ∃ d, m / 4294967296 % 256 = d := ⟨_, rfl⟩
          obtain ⟨d0, d1, D2, D3⟩ := dg_more h0 HM.out 4 4294967296 d (by rfl) (by exact hd)
          have T2 := Lib.hid D2
          have T3 := Lib.hid D3
          have KQ : Hid ((5 : Nat) - 1 = 4) := Lib.hid rfl
          rw [hd]
          clear hd D2 D3
          generalize hL : (dg m 5).length = L at HW hl8 T2 T3 ⊢
          have HL := Lib.hid hL
          clear hL
          by_cases hA : 0 < d
          · have tA : decide ((0 : Int) < d) = true := by simpa using hA
            have DQ := Lib.hid (T2.out (.inl hA))
            clear T2 T3
            go_wp2_with (at_builtin; refine wpList_append_any _ rfl (.tmp 30) (.tmp 32) 49 rfl w.heap.size 5 i0 (.int .u8 0) 1 1 Try.underlying49 HI.out HZ0.out HZ1.out HZ2.out rfl (by decide) _ _ _ rfl (HW.out.alloc _) _ _ 1 1 [.int .u8 d] rfl (reads_new _ _ _ 1 _ rfl rfl) (by simp [Value.oneCell']) (by unfold maxLen; omega) (by omega) (by have := HB.out.size; simp; omega) ?_; intro v1 w1 hown1 hg1 hb1; obtain ⟨A1, c1, rfl⟩ := own_shape hown1; have P1 := Lib.hid hown1; have PB := Lib.hid (bel_grown (bel_alloc HB.out (.cells #[.int .u8 d] 5)) (HW.out.alloc (.cells #[.int .u8 d] 5)) hg1); clear hown1 hg1 hb1)
            have EL : (dg m 4).length = L + 1 := by rw [DQ.out, List.length_append, HL.out]; rfl
            have EM : (dg m 4).map byteV = (dg m 5).map byteV ++ [.int .u8 d] := by rw [DQ.out, List.map_append, List.map_cons, List.map_nil, byteV_small d0 d1]
            have ELH := Lib.hid EL
            have EMH := Lib.hid EM
            clear EL EM
            go_roundw
            case rel => exact ⟨4, A1, c1, by omega, rfl, by rw [ELH.out], PB, by rw [ELH.out, EMH.out]; exact P1⟩
            case measure => simp [intOf]
          · have tA : decide ((0 : Int) < d) = false := by simpa using hA
            have dz : d = 0 := by omega
            have DZ := Lib.hid dz
            by_cases hB : 0 < L
            · have tB : decide (0 < L) = true := by simpa using hB
              have tB' : decide ((0 : Int) < (L : Int)) = true := by simp; exact hB
              have DQ := Lib.hid (T2.out (.inr hB))
              clear T2 T3 dz
              go_wp2_with (at_builtin; refine wpList_append_any _ rfl (.tmp 30) (.tmp 32) 49 rfl w.heap.size 5 i0 (.int .u8 0) 1 1 Try.underlying49 HI.out HZ0.out HZ1.out HZ2.out rfl (by decide) _ _ _ rfl (HW.out.alloc _) _ _ 1 1 [.int .u8 d] rfl (reads_new _ _ _ 1 _ rfl rfl) (by simp [Value.oneCell']) (by unfold maxLen; omega) (by omega) (by have := HB.out.size; simp; omega) ?_; intro v1 w1 hown1 hg1 hb1; obtain ⟨A1, c1, rfl⟩ := own_shape hown1; have P1 := Lib.hid hown1; have PB := Lib.hid (bel_grown (bel_alloc HB.out (.cells #[.int .u8 d] 5)) (HW.out.alloc (.cells #[.int .u8 d] 5)) hg1); clear hown1 hg1 hb1)
              have EL : (dg m 4).length = L + 1 := by rw [DQ.out, List.length_append, HL.out]; rfl
              have EM : (dg m 4).map byteV = (dg m 5).map byteV ++ [.int .u8 d] := by rw [DQ.out, List.map_append, List.map_cons, List.map_nil, byteV_small d0 d1]
              have ELH := Lib.hid EL
              have EMH := Lib.hid EM
              clear EL EM
              go_roundw
              case rel => exact ⟨4, A1, c1, by omega, rfl, by rw [ELH.out], PB, by rw [ELH.out, EMH.out]; exact P1⟩
              case measure => simp [intOf]
            · have tB : decide (0 < L) = false := by simpa using hB
              have tB' : decide ((0 : Int) < (L : Int)) = false := by simp; omega
              have DQ := Lib.hid (T3.out hA hB)
              clear T2 T3 dz
              go_wp2_with (fail)
              go_roundw
              case rel => exact ⟨4, A, c, by omega, rfl, by rw [DQ.out, HL.out], HB, by rw [DQ.out, HL.out]; exact HW⟩
              case measure => simp [intOf]
        · rw [show (((6 : Nat) : Int) - 1) = 5 from rfl]
          go_upto_region 7 with (fail)
          obtain ⟨d, hd⟩ : ∃ d, m / 1099511627776 % 256 = d := ⟨_, rfl⟩
          obtain ⟨d0, d1, D2, D3⟩ := dg_more h0 HM.out 5 1099511627776 d (by rfl) (by exact hd)
          have T2 := Lib.hid D2
          have T3 := Lib.hid D3
          have KQ : Hid ((6 : Nat) - 1 = 5) := Lib.hid rfl
          rw [hd]
          clear hd D2 D3
          generalize hL : (dg m 6).length = L at HW hl8 T2 T3 ⊢
          have HL := Lib.hid hL
          clear hL
          by_cases hA : 0 < d
          · have tA : decide ((0 : Int) < d) = true := by simpa using hA
            have DQ := Lib.hid (T2.out (.inl hA))
            clear T2 T3
            go_wp2_with (at_builtin; refine wpList_append_any _ rfl (.tmp 30) (.tmp 32) 49 rfl w.heap.size 5 i0 (.int .u8 0) 1 1 Try.underlying49 HI.out HZ0.out HZ1.out HZ2.out rfl (by decide) _ _ _ rfl (HW.out.alloc _) _ _ 1 1 [.int .u8 d] rfl (reads_new _ _ _ 1 _ rfl rfl) (by simp [Value.oneCell']) (by unfold maxLen; omega) (by omega) (by have := HB.out.size; simp; omega) ?_; intro v1 w1 hown1 hg1 hb1; obtain ⟨A1, c1, rfl⟩ := own_shape hown1; have P1 := Lib.hid hown1; have PB := Lib.hid (bel_grown (bel_alloc HB.out (.cells #[.int .u8 d] 5)) (HW.out.alloc (.cells #[.int .u8 d] 5)) hg1); clear hown1 hg1 hb1)
            have EL : (dg m 5).length = L + 1 := by rw [DQ.out, List.length_append, HL.out]; rfl
            have EM : (dg m 5).map byteV = (dg m 6).map byteV ++ [.int .u8 d] := by rw [DQ.out, List.map_append, List.map_cons, List.map_nil, byteV_small d0 d1]
            have ELH := Lib.hid EL
            have EMH := Lib.hid EM
            clear EL EM
            go_roundw
            case rel => exact ⟨5, A1, c1, by omega, rfl, by rw [ELH.out], PB, by rw [ELH.out, EMH.out]; exact P1⟩
            case measure => simp [intOf]
          · have tA : decide ((0 : Int) < d) = false := by simpa using hA
            have dz : d = 0 := by omega
            have DZ := Lib.hid dz
            by_cases hB : 0 < L
            · have tB : decide (0 < L) = true := by simpa using hB
              have tB' : decide ((0 : Int) < (L : Int)) = true := by simp; exact hB
              have DQ := Lib.hid (T2.out (.inr hB))
              clear T2 T3 dz
              go_wp2_with (at_builtin; refine wpList_append_any _ rfl (.tmp 30) (.tmp 32) 49 rfl w.heap.size 5 i0 (.int .u8 0) 1 1 Try.underlying49 HI.out HZ0.out HZ1.out HZ2.out rfl (by decide) _ _ _ rfl (HW.out.alloc _) _ _ 1 1 [.int .u8 d] rfl (reads_new _ _ _ 1 _ rfl rfl) (by simp [Value.oneCell']) (by unfold maxLen; omega) (by omega) (by have := HB.out.size; simp; omega) ?_; intro v1 w1 hown1 hg1 hb1; obtain ⟨A1, c1, rfl⟩ := own_shape hown1; have P1 := Lib.hid hown1; have PB := Lib.hid (bel_grown (bel_alloc HB.out (.cells #[.int .u8 d] 5)) (HW.out.alloc (.cells #[.int .u8 d] 5)) hg1); clear hown1 hg1 hb1)
              have EL : (dg m 5).length = L + 1 := by rw [DQ.out, List.length_append, HL.out]; rfl
              have EM : (dg m 5).map byteV = (dg m 6).map byteV ++ [.int .u8 d] := by rw [DQ.out, List.map_append, List.map_cons, List.map_nil, byteV_small d0 d1]
              have ELH := Lib.hid EL
              have EMH := Lib.hid EM
              clear EL EM
              go_roundw
              case rel => exact ⟨5, A1, c1, by omega, rfl, by rw [ELH.out], PB, by rw [ELH.out, EMH.out]; exact P1⟩
              case measure => simp [intOf]
            · have tB : decide (0 < L) = false := by simpa using hB
              have tB' : decide ((0 : Int) < (L : Int)) = false := by simp; omega
              have DQ := Lib.hid (T3.out hA hB)
              clear T2 T3 dz
              go_wp2_with (fail)
              go_roundw
              case rel => exact ⟨5, A, c, by omega, rfl, by rw [DQ.out, HL.out], HB, by rw [DQ.out, HL.out]; exact HW⟩
              case measure => simp [intOf]
        · rw [show (((7 : Nat) : Int) - 1) = 6 from rfl]
          go_upto_region 7 with (fail)
          obtain ⟨d, hd⟩ : ∃ d, m / 281474976710656 % 256 = d := ⟨_, rfl⟩
          obtain ⟨d0, d1, D2, D3⟩ := dg_more h0 HM.out 6 281474976710656 d (by rfl) (by exact hd)
          have T2 := Lib.hid D2
          have T3 := Lib.hid D3
          have KQ : Hid ((7 : Nat) - 1 = 6) := Lib.hid rfl
          rw [hd]
          clear hd D2 D3
          generalize hL : (dg m 7).length = L at HW hl8 T2 T3 ⊢
          have HL := Lib.hid hL
          clear hL
          by_cases hA : 0 < d
          · have tA : decide ((0 : Int) < d) = true := by simpa using hA
            have DQ := Lib.hid (T2.out (.inl hA))
            clear T2 T3
            go_wp2_with (at_builtin; refine wpList_append_any _ rfl (.tmp 30) (.tmp 32) 49 rfl w.heap.size 5 i0 (.int .u8 0) 1 1 Try.underlying49 HI.out HZ0.out HZ1.out HZ2.out rfl (by decide) _ _ _ rfl (HW.out.alloc _) _ _ 1 1 [.int .u8 d] rfl (reads_new _ _ _ 1 _ rfl rfl) (by simp [Value.oneCell']) (by unfold maxLen; omega) (by omega) (by have := HB.out.size; simp; omega) ?_; intro v1 w1 hown1 hg1 hb1; obtain ⟨A1, c1, rfl⟩ := own_shape hown1; have P1 := Lib.hid hown1; have PB := Lib.hid (bel_grown (bel_alloc HB.out (.cells #[.int .u8 d] 5)) (HW.out.alloc (.cells #[.int .u8 d] 5)) hg1); clear hown1 hg1 hb1)
            have EL : (dg m 6).length = L + 1 := by rw [DQ.out, List.length_append, HL.out]; rfl
            have EM : (dg m 6).map byteV = (dg m 7).map byteV ++ [.int .u8 d] := by rw [DQ.out, List.map_append, List.map_cons, List.map_nil, byteV_small d0 d1]
            have ELH := Lib.hid EL
            have EMH := Lib.hid EM
            clear EL EM
            go_roundw
            case rel => exact ⟨6, A1, c1, by omega, rfl, by rw [ELH.out], PB, by rw [ELH.out, EMH.out]; exact P1⟩
            case measure => simp [intOf]
          · have tA : decide ((0 : Int) < d) = false := by simpa using hA
            have dz : d = 0 := by omega
            have DZ := Lib.hid dz
            by_cases hB : 0 < L
            · have tB : decide (0 < L) = true := by simpa using hB
              have tB' : decide ((0 : Int) < (L : Int)) = true := by simp; exact hB
              have DQ := Lib.hid (T2.out (.inr hB))
              clear T2 T3 dz
              go_wp2_with (at_builtin; refine wpList_append_any _ rfl (.tmp 30) (.tmp 32) 49 rfl w.heap.size 5 i0 (.int .u8 0) 1 1 Try.underlying49 HI.out HZ0.out HZ1.out HZ2.out rfl (by decide) _ _ _ rfl (HW.out.alloc _) _ _ 1 1 [.int .u8 d] rfl (reads_new _ _ _ 1 _ rfl rfl) (by simp [Value.oneCell']) (by unfold maxLen; omega) (by omega) (by have := HB.out.size; simp; omega) ?_; intro v1 w1 hown1 hg1 hb1; obtain ⟨A1, c1, rfl⟩ := own_shape hown1; have P1 := Lib.hid hown1; have PB := Lib.hid (bel_grown (bel_alloc HB.out (.cells #[.int .u8 d] 5)) (HW.out.alloc (.cells #[.int .u8 d] 5)) hg1); clear hown1 hg1 hb1)
              have EL : (dg m 6).length = L + 1 := by rw [DQ.out, List.length_append, HL.out]; rfl
              have EM : (dg m 6).map byteV = (dg m 7).map byteV ++ [.int .u8 d] := by rw [DQ.out, List.map_append, List.map_cons, List.map_nil, byteV_small d0 d1]
              have ELH := Lib.hid EL
              have EMH := Lib.hid EM
              clear EL EM
              go_roundw
              case rel => exact ⟨6, A1, c1, by omega, rfl, by rw [ELH.out], PB, by rw [ELH.out, EMH.out]; exact P1⟩
              case measure => simp [intOf]
            · have tB : decide (0 < L) = false := by simpa using hB
              have tB' : decide ((0 : Int) < (L : Int)) = false := by simp; omega
              have DQ := Lib.hid (T3.out hA hB)
              clear T2 T3 dz
              go_wp2_with (fail)
              go_roundw
              case rel => exact ⟨6, A, c, by omega, rfl, by rw [DQ.out, HL.out], HB, by rw [DQ.out, HL.out]; exact HW⟩
              case measure => simp [intOf]
        · rw [show (((8 : Nat) : Int) - 1) = 7 from rfl]
          go_upto_region 7 with (fail)
          obtain ⟨d, hd⟩ : ∃ d, m / 72057594037927936 % 256 = d := ⟨_, rfl⟩
          obtain ⟨d0, d1, D2, D3⟩ := dg_more h0 HM.out 7 72057594037927936 d (by rfl) (by exact hd)
          have T2 := Lib.hid D2
          have T3 := Lib.hid D3
          have KQ : Hid ((8 : Nat) - 1 = 7) := Lib.hid rfl
          rw [hd]
          clear hd D2 D3
          generalize hL : (dg m 8).length = L at HW hl8 T2 T3 ⊢
          have HL := Lib.hid hL
          clear hL
          by_cases hA : 0 < d
          · have tA : decide ((0 : Int) < d) = true := by simpa using hA
            have DQ := Lib.hid (T2.out (.inl hA))
            clear T2 T3
            go_wp2_with (at_builtin; refine wpList_append_any _ rfl (.tmp 30) (.tmp 32) 49 rfl w.heap.size 5 i0 (.int .u8 0) 1 1 Try.underlying49 HI.out HZ0.out HZ1.out HZ2.out rfl (by decide) _ _ _ rfl (HW.out.alloc _) _ _ 1 1 [.int .u8 d] rfl (reads_new _ _ _ 1 _ rfl rfl) (by simp [Value.oneCell']) (by unfold maxLen; omega) (by omega) (by have := HB.out.size; simp; omega) ?_; intro v1 w1 hown1 hg1 hb1; obtain ⟨A1, c1, rfl⟩ := own_shape hown1; have P1 := Lib.hid hown1; have PB := Lib.hid (bel_grown (bel_alloc HB.out (.cells #[.int .u8 d] 5)) (HW.out.alloc (.cells #[.int .u8 d] 5)) hg1); clear hown1 hg1 hb1)
            have EL : (dg m 7).length = L + 1 := by rw [DQ.out, List.length_append, HL.out]; rfl
            have EM : (dg m 7).map byteV = (dg m 8).map byteV ++ [.int .u8 d] := by rw [DQ.out, List.map_append, List.map_cons, List.map_nil, byteV_small d0 d1]
            have ELH := Lib.hid EL
            have EMH := Lib.hid EM
            clear EL EM
            go_roundw
            case rel => exact ⟨7, A1, c1, by omega, rfl, by rw [ELH.out], PB, by rw [ELH.out, EMH.out]; exact P1⟩
            case measure => simp [intOf]
          · have tA : decide ((0 : Int) < d) = false := by simpa using hA
            have dz : d = 0 := by omega
            have DZ := Lib.hid dz
            by_cases hB : 0 < L
            · have tB : decide (0 < L) = true := by simpa using hB
              have tB' : decide ((0 : Int) < (L : Int)) = true := by simp; exact hB
              have DQ := Lib.hid (T2.out (.inr hB))
              clear T2 T3 dz
              go_wp2_with (at_builtin; refine wpList_append_any _ rfl (.tmp 30) (.tmp 32) 49 rfl w.heap.size 5 i0 (.int .u8 0) 1 1 Try.underlying49 HI.out HZ0.out HZ1.out HZ2.out rfl (by decide) _ _ _ rfl (HW.out.alloc _) _ _ 1 1 [.int .u8 d] rfl (reads_new _ _ _ 1 _ rfl rfl) (by simp [Value.oneCell']) (by unfold maxLen; omega) (by omega) (by have := HB.out.size; simp; omega) ?_; intro v1 w1 hown1 hg1 hb1; obtain ⟨A1, c1, rfl⟩ := own_shape hown1; have P1 := Lib.hid hown1; have PB := Lib.hid (bel_grown (bel_alloc HB.out (.cells #[.int .u8 d] 5)) (HW.out.alloc (.cells #[.int .u8 d] 5)) hg1); clear hown1 hg1 hb1)
              have EL : (dg m 7).length = L + 1 := by rw [DQ.out, List.length_append, HL.out]; rfl
              have EM : (dg m 7).map byteV = (dg m 8).map byteV ++ [.int .u8 d] := by rw [DQ.out, List.map_append, List.map_cons, List.map_nil, byteV_small d0 d1]
              have ELH := Lib.hid EL
              have EMH := Lib.hid EM
              clear EL EM
              go_roundw
              case rel => exact ⟨7, A1, c1, by omega, rfl, by rw [ELH.out], PB, by rw [ELH.out, EMH.out]; exact P1⟩
              case measure => simp [intOf]
            · have tB : decide (0 < L) = false := by simpa using hB
              have tB' : decide ((0 : Int) < (L : Int)) = false := by simp; omega
              have DQ := Lib.hid (T3.out hA hB)
              clear T2 T3 dz
              go_wp2_with (fail)
              go_roundw
              case rel => exact ⟨7, A, c, by omega, rfl, by rw [DQ.out, HL.out], HB, by rw [DQ.out, HL.out]; exact HW⟩
              case measure => simp [intOf]
      · obtain rfl : q = 0 := by omega
        have L0 := Lib.hid (dg_0 m)
        have LP : 0 < (dg m 0).length := by rw [dg_0]; exact be_len_pos (by unfold U64; have := HM.out; omega) (by omega)
        have l8 := dg_len HM.out 0
        have BV := Lib.hid (show byteV (UInt8.ofNat (247 + (dg m 0).length)) = .int .u8 (247 + (((dg m 0).length : Nat) : Int)) from by
          have := byteV_small (m := 247 + (((dg m 0).length : Nat) : Int)) (by omega) (by omega)
          rw [← this]; congr 2)
        generalize hL : (dg m 0).length = L at HW LP l8 BV ⊢
        have HL := Lib.hid hL
        clear hL
        rw [show (((0 : Nat) : Int) - 1) = -1 from rfl]
        go_wp2_with (first
          | (go_at_call 49; (with_reducible refine (put_any g r p o _ 1 1 _ [UInt8.ofNat (247 + L)] _ ((HS.out.below HB.out).below (bel_alloc (Below.refl _ _) _)) (reads_new _ _ _ 1 _ (by rw [List.map_cons, List.map_nil, BV.out]) (by simp)) (by omega) (fun l e => by have := HO.out l e; omega)).mono ?_); rintro e w1 ⟨rfl, r1, hs1, hf1⟩; have S1 := Lib.hid hs1; have F1 := Lib.hid hf1; clear hs1 hf1)
          | (go_at_call 49; (with_reducible refine (put_any g r1 p _ A L c _ (dg m 0) _ S1.out (own_far_reads (HW.out.alloc _) F1.out.far (fun k hk hs => by have h1 := (HW.out.lt k hk).1; have h2 := HS.out.lt (k := k) (by simpa using hs); omega)) (by omega) (fun l e => by obtain ⟨l0, h1, rfl⟩ := Option.map_eq_some_iff.1 e; have := HO.out l0 h1; simp; omega)).mono ?_); rintro e w2 ⟨rfl, r2, hs2, hf2⟩))
        go_end0
        refine ⟨rfl, r2, ?_, ((WF.of_below (bel_alloc HB.out _)).trans (by simpa using F1.out)).trans (by simpa using hf2)⟩
        have e2 : numB m.toNat = [UInt8.ofNat (247 + L)] ++ dg m 0 := by rw [numB_great (by omega), L0.out, ← HL.out, L0.out]; rfl
        rw [e2]
        simpa [Option.map_map, Function.comp_def] using hs2
end Go.Proofs.Ytijkfllolcgfhaa.Pack
