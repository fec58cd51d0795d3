/- The reference's Scale, walked: for every three numbers it tells what unit.Scale tells. No condition. -/
import Derived.Test.YtglomkpnbdnnoaaScaleAll
import Derived.Test.YtglomkpnbdnnoaaRefQ
namespace Go.Proofs.Ytglomkpnbdnnoaa.Unit
open Go.RowKit Go.Proofs.Ytglomkpnbdnnoaa.Div Go.Proofs.Ytglomkpnbdnnoaa.Bits
set_option linter.unusedVariables false

set_option maxHeartbeats 1000000 in
set_option maxRecDepth 100000 in
theorem rsize_any (n : Int) (h0 : -9223372036854775808 ≤ n) (h1 : n ≤ 9223372036854775807) (w : World) : Calls Try.prog 51 #[.int .i64 n] w fun e w' => e = .returned (.int .u64 (n.natAbs : Nat)) ∧ w = w' := by
  rcases Int.lt_or_le n 0 with h | h
  · have q1 : wrap64 (n + 1) = n + 1 := by unfold wrap64; omega
    have q2 : wrap64 (-(n + 1)) = -(n + 1) := by unfold wrap64; omega
    have q3 : IntKind.u64.wrap (-(n + 1)) = -(n + 1) := by simp [IntKind.wrap, IntKind.bits, IntKind.signed]; omega
    have q4 : IntKind.u64.wrap (-(n + 1) + 1) = -(n + 1) + 1 := by simp [IntKind.wrap, IntKind.bits, IntKind.signed]; omega
    have E := Lib.hid (show -(n + 1) + 1 = ((n.natAbs : Nat) : Int) by omega)
    have Q := Lib.hid (And.intro q1 (And.intro q2 (And.intro q3 q4)))
    clear q1 q2 q3 q4
    go_enter Try.func51, Try.ntmps51
    go_wp2
    go_ret
    exact ⟨ret_int (by first | exact E.out | (simp only [Q.out.1, Q.out.2.1, Q.out.2.2.1, Q.out.2.2.2]; exact E.out) | (rw [← E.out]; omega)), rfl⟩
  · have q3 : IntKind.u64.wrap n = n := by simp [IntKind.wrap, IntKind.bits, IntKind.signed]; omega
    have E := Lib.hid (show n = ((n.natAbs : Nat) : Int) by omega)
    go_enter Try.func51, Try.ntmps51
    go_wp2
    go_ret
    exact ⟨ret_int (by first | exact E.out | (rw [← E.out]; done) | omega), rfl⟩

abbrev cZ (n : Int) (x : Nat) : Prop := ∀ W, Calls Try.prog 51 #[.int .i64 n] W fun e w' => e = .returned (.int .u64 (x : Int)) ∧ W = w'
abbrev cP (x y P : Nat) : Prop := ∀ W, Calls Try.prog 50 #[.int .u64 x, .int .u64 y] W fun e w' => ∃ l, bits01 l ∧ l.length = 132 ∧ val l = P ∧ e = .returned (.slice (some ⟨W.heap.size, 0, none⟩) 132 132) ∧ Blk w' W.heap.size 3 (cellsN l) ∧ Below W.heap.size W w'
abbrev cQ (P o : Nat) (q r : Nat) (b : Bool) : Prop := ∀ W B l, l.length = 132 → bits01 l → val l = P → Blk W B 3 (cellsN l) → Calls Try.prog 49 #[.slice (some ⟨B, 0, none⟩) 132 132, .int .u64 o] W fun e w' => e = .returned (.tuple #[.int .u64 (q : Int), .int .u64 (r : Int), .bool b]) ∧ Drawn W w'

set_option maxHeartbeats 4000000 in
set_option maxRecDepth 100000 in
theorem rscale_arg (n b o : Int) (h : o < 1) (w : World) : Calls Try.prog 42 #[.int .i64 n, .int .i64 b, .int .i64 o] w fun e w' => e = .returned (.tuple #[.int .i64 0, .int .i64 2]) ∧ Below w.heap.size w w' := by
  go_enter Try.func42, Try.ntmps42
  go_wp2
  go_ret2
  exact ⟨rfl, Below.refl _ _⟩
set_option maxHeartbeats 4000000 in
set_option maxRecDepth 100000 in
theorem rscale_far (n b : Int) (o x y P : Nat) (ho : 0 < o) (hox : (o : Int) ≤ 9223372036854775807) (H1 : Hid (cZ n x)) (H2 : Hid (cZ b y)) (H3 : Hid (cP x y P)) (H4 : Hid (cQ P o 0 0 false)) (w : World) :
    Calls Try.prog 42 #[.int .i64 n, .int .i64 b, .int .i64 o] w fun e w' => e = .returned (.tuple #[.int .i64 0, .int .i64 10]) ∧ Below w.heap.size w w' := by
  have q3 : IntKind.u64.wrap (o : Int) = (o : Int) := by simp [IntKind.wrap, IntKind.bits, IntKind.signed]; omega
  go_enter Try.func42, Try.ntmps42
  go_wp2_with (first
    | (go_at_call 51; first | ((with_reducible refine (H1.out _).mono ?_); rintro e w1 ⟨rfl, rfl⟩) | ((with_reducible refine (H2.out _).mono ?_); rintro e w1 ⟨rfl, rfl⟩))
    | (go_at_call 50; ((with_reducible refine (H3.out _).mono ?_); rintro e w1 ⟨l, hl1, hl2, hl3, rfl, hK, hb1⟩))
    | (go_at_call 49; ((with_reducible refine (H4.out _ _ l hl2 hl1 hl3 hK).mono ?_); rintro e w2 ⟨rfl, ⟨m, rfl⟩⟩)))
  go_ret2
  exact ⟨rfl, bel_drewN hb1 _⟩

set_option maxHeartbeats 16000000 in
set_option maxRecDepth 100000 in
theorem rscale_0 (n b v e0 : Int) (o x y P q r : Nat) (s1 s2 : Bool) (t1 : decide (n < 0) = s1) (t2 : decide (b < 0) = s2) (hup : (if s1 != s2 then decide ((o : Int) - (r : Int) < (r : Int)) else decide ((o : Int) - (r : Int) ≤ (r : Int))) = false)
    (e1 : IntKind.u64.wrap (o : Int) = (o : Int)) (e2 : IntKind.u64.wrap ((o : Int) - (r : Int)) = (o : Int) - (r : Int))
    (hg : ((q : Int) ≤ 4611686018427387904 ∧ e0 = 0 ∧ v = if s1 != s2 then -(q : Int) else (q : Int)) ∨ ((4611686018427387904 : Int) < q ∧ e0 = 10 ∧ v = 0))
    (ho : (1 : Int) ≤ (o : Int)) (H1 : Hid (cZ n x)) (H2 : Hid (cZ b y)) (H3 : Hid (cP x y P)) (H4 : Hid (cQ P o q r true)) (w : World) :
    Calls Try.prog 42 #[.int .i64 n, .int .i64 b, .int .i64 o] w fun e w' => e = .returned (.tuple #[.int .i64 v, .int .i64 e0]) ∧ Below w.heap.size w w' := by
  cases s1 <;> cases s2 <;> simp only [bne_self_eq_false, Bool.false_eq_true, if_false, if_true, Bool.true_bne, Bool.false_bne, Bool.not_false] at hup hg <;> rcases hg with ⟨hz, rfl, rfl⟩ | ⟨hz, rfl, rfl⟩
  all_goals
    go_enter Try.func42, Try.ntmps42
    go_wp2_with (first
      | (go_at_call 51; first | ((with_reducible refine (H1.out _).mono ?_); rintro e w1 ⟨rfl, rfl⟩) | ((with_reducible refine (H2.out _).mono ?_); rintro e w1 ⟨rfl, rfl⟩))
      | (go_at_call 50; ((with_reducible refine (H3.out _).mono ?_); rintro e w1 ⟨l, hl1, hl2, hl3, rfl, hK, hb1⟩))
      | (go_at_call 49; ((with_reducible refine (H4.out _ _ l hl2 hl1 hl3 hK).mono ?_); rintro e w2 ⟨rfl, ⟨m, rfl⟩⟩)))
    go_ret2
    exact ⟨by first | rfl | go_num | (simp; done), bel_drewN hb1 _⟩
set_option maxHeartbeats 16000000 in
set_option maxRecDepth 100000 in
theorem rscale_1 (n b v e0 : Int) (o x y P q r z : Nat) (s1 s2 : Bool) (t1 : decide (n < 0) = s1) (t2 : decide (b < 0) = s2) (hup : (if s1 != s2 then decide ((o : Int) - (r : Int) < (r : Int)) else decide ((o : Int) - (r : Int) ≤ (r : Int))) = true)
    (e1 : IntKind.u64.wrap (o : Int) = (o : Int)) (e2 : IntKind.u64.wrap ((o : Int) - (r : Int)) = (o : Int) - (r : Int)) (e3 : IntKind.u64.wrap ((q : Int) + 1) = (z : Int))
    (hg : ((z : Int) ≤ 4611686018427387904 ∧ e0 = 0 ∧ v = if s1 != s2 then -(z : Int) else (z : Int)) ∨ ((4611686018427387904 : Int) < z ∧ e0 = 10 ∧ v = 0))
    (ho : (1 : Int) ≤ (o : Int)) (H1 : Hid (cZ n x)) (H2 : Hid (cZ b y)) (H3 : Hid (cP x y P)) (H4 : Hid (cQ P o q r true)) (w : World) :
    Calls Try.prog 42 #[.int .i64 n, .int .i64 b, .int .i64 o] w fun e w' => e = .returned (.tuple #[.int .i64 v, .int .i64 e0]) ∧ Below w.heap.size w w' := by
  cases s1 <;> cases s2 <;> simp only [bne_self_eq_false, Bool.false_eq_true, if_false, if_true, Bool.true_bne, Bool.false_bne, Bool.not_false] at hup hg <;> rcases hg with ⟨hz, rfl, rfl⟩ | ⟨hz, rfl, rfl⟩
  all_goals
    go_enter Try.func42, Try.ntmps42
    go_wp2_with (first
      | (go_at_call 51; first | ((with_reducible refine (H1.out _).mono ?_); rintro e w1 ⟨rfl, rfl⟩) | ((with_reducible refine (H2.out _).mono ?_); rintro e w1 ⟨rfl, rfl⟩))
      | (go_at_call 50; ((with_reducible refine (H3.out _).mono ?_); rintro e w1 ⟨l, hl1, hl2, hl3, rfl, hK, hb1⟩))
      | (go_at_call 49; ((with_reducible refine (H4.out _ _ l hl2 hl1 hl3 hK).mono ?_); rintro e w2 ⟨rfl, ⟨m, rfl⟩⟩)))
    go_ret2
    exact ⟨by first | rfl | go_num | (simp; done), bel_drewN hb1 _⟩

theorem rscale_any (n b o : Int) (n0 : -9223372036854775808 ≤ n) (n1 : n ≤ 9223372036854775807) (b0 : -9223372036854775808 ≤ b) (b1 : b ≤ 9223372036854775807) (o1 : o ≤ 9223372036854775807) (w : World) :
    Calls Try.prog 42 #[.int .i64 n, .int .i64 b, .int .i64 o] w fun e w' => e = .returned (.tuple #[.int .i64 (scV n b o), .int .i64 (scE n b o)]) ∧ Below w.heap.size w w' := by
  rcases Int.lt_or_le o 1 with ho | ho
  · rw [scV, scE, if_pos ho, if_pos ho]
    exact rscale_arg n b o ho w
  obtain ⟨k, rfl⟩ : ∃ k : Nat, o = (k : Int) := ⟨o.toNat, by omega⟩
  have H1 := Lib.hid (fun W => rsize_any n n0 n1 W)
  have H2 := Lib.hid (fun W => rsize_any b b0 b1 W)
  have H3 := Lib.hid (fun W => product_any n.natAbs b.natAbs (by omega) (by omega) W)
  have eV : scV n b (k : Int) = if 4611686018427387904 < absQ n b k then 0 else if negB n b then -(absQ n b k : Int) else (absQ n b k : Int) := by
    rw [scV, if_neg (by omega), Int.toNat_natCast]
  have eE : scE n b (k : Int) = if 4611686018427387904 < absQ n b k then 10 else 0 := by
    rw [scE, if_neg (by omega), Int.toNat_natCast]
  have eQ : absQ n b k = n.natAbs * b.natAbs / k + if upB (negB n b) (n.natAbs * b.natAbs % k) k then 1 else 0 := rfl
  rw [eV, eE]
  have hr := Nat.mod_lt (n.natAbs * b.natAbs) (show 0 < k by omega)
  have H4 : ∀ q r, n.natAbs * b.natAbs / k = q → n.natAbs * b.natAbs % k = r → cQ (n.natAbs * b.natAbs) k (if q < 9223372036854775808 then q else 0) (if q < 9223372036854775808 then r else 0) (decide (q < 9223372036854775808)) := fun q r hq hr W B l hl hb hv hB => by
    have := quotient_any B k l hl hb (by omega) o1 W hB
    rw [quoQ, quoR, quoB, hv, hq, hr] at this
    exact this
  obtain ⟨q, hq⟩ : ∃ q, n.natAbs * b.natAbs / k = q := ⟨_, rfl⟩
  obtain ⟨r, hrd⟩ : ∃ r, n.natAbs * b.natAbs % k = r := ⟨_, rfl⟩
  have H4 := H4 q r hq hrd
  rw [hq, hrd] at eQ
  rw [hrd] at hr
  rcases Nat.lt_or_ge q 9223372036854775808 with g | g
  · rw [if_pos g, if_pos g, decide_eq_true g] at H4
    have e1 : IntKind.u64.wrap (k : Int) = (k : Int) := u64_in _ (by omega) (by omega)
    have e2 : IntKind.u64.wrap ((k : Int) - (r : Int)) = (k : Int) - (r : Int) := u64_in _ (by omega) (by omega)
    have hneg : negB n b = (decide (n < 0) != decide (b < 0)) := rfl
    cases hu : upB (negB n b) r k
    · rw [hu] at eQ
      simp only [Bool.false_eq_true, if_false, Nat.add_zero] at eQ
      rw [eQ]
      refine rscale_0 n b _ _ k _ _ _ q r _ _ rfl rfl ?_ e1 e2 ?_ ho H1 H2 H3 (Lib.hid H4) w
      · rw [← hneg]
        unfold upB at hu
        split at hu <;> split <;> simp_all <;> omega
      · rw [← hneg]
        by_cases hz : 4611686018427387904 < q
        · exact .inr ⟨by omega, if_pos hz, if_pos hz⟩
        · exact .inl ⟨by omega, if_neg hz, if_neg hz⟩
    · rw [hu] at eQ
      simp only [if_true] at eQ
      rw [eQ]
      refine rscale_1 n b _ _ k _ _ _ q r (q + 1) _ _ rfl rfl ?_ e1 e2 (by rw [u64_in _ (by omega) (by omega)]; omega) ?_ ho H1 H2 H3 (Lib.hid H4) w
      · rw [← hneg]
        unfold upB at hu
        split at hu <;> split <;> simp_all <;> omega
      · rw [← hneg]
        by_cases hz : 4611686018427387904 < q + 1
        · exact .inr ⟨by omega, if_pos hz, if_pos hz⟩
        · exact .inl ⟨by omega, if_neg hz, if_neg hz⟩
  · rw [if_neg (by omega), if_neg (by omega), decide_eq_false (by omega)] at H4
    rw [if_pos (by rw [eQ]; omega), if_pos (by rw [eQ]; omega)]
    exact rscale_far n b k _ _ _ (by omega) o1 H1 H2 H3 (Lib.hid H4) w
end Go.Proofs.Ytglomkpnbdnnoaa.Unit
