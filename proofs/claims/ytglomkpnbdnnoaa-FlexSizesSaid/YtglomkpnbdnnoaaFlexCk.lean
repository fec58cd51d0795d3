/- Chapter 23: the reference's Check, walked. No condition but a bound. -/
import Derived.Test.YtglomkpnbdnnoaaFlexSh
import Derived.Test.YtglomkpnbdnnoaaFlexP
namespace Go.Proofs.Ytglomkpnbdnnoaa.Flex
open Go.RowKit Go.Proofs.Ytglomkpnbdnnoaa.Unit Go.Proofs.Ytglomkpnbdnnoaa.Div
set_option linter.unusedVariables false
set_option linter.unusedSimpArgs false
attribute [local go_sem] max2_V max_two
theorem errS_no {xs : List It} {room : Int} (h : ¬ (wiB room 1073741824 = true ∧ ∀ x ∈ xs, maI x = true)) : errS xs room = 2 := by
  have : okS xs room = false := by
    cases e : okS xs room with
    | false => rfl
    | true =>
      exfalso
      apply h
      unfold okS at e
      simp only [Bool.and_eq_true, Bool.not_eq_true', List.any_eq_false] at e
      exact ⟨e.1, fun x hx => by have := e.2 x hx; simpa using this⟩
  unfold errS
  rw [this]
  rfl
theorem errS_yes {xs : List It} {room : Int} (h1 : wiB room 1073741824 = true) (h2 : ∀ x ∈ xs, maI x = true) : errS xs room = 0 := by
  have : okS xs room = true := by
    unfold okS
    simp only [Bool.and_eq_true, Bool.not_eq_true', List.any_eq_false]
    exact ⟨h1, fun x hx => by rw [h2 x hx]; simp⟩
  unfold errS
  rw [this]
  rfl
theorem wi_parts {n m : Int} (h : wiB n m = true) : 0 ≤ n ∧ n ≤ m := wiB_in h
theorem ma_parts {x : It} (h : maI x = true) : (0 ≤ x.base ∧ x.base ≤ 1073741824) ∧ (0 ≤ x.least ∧ x.least ≤ 1073741824) ∧ (0 ≤ x.grow ∧ x.grow ≤ 1000) ∧ (0 ≤ x.shrink ∧ x.shrink ≤ 1000) := by
  have := okI_of h
  unfold okI at this
  omega
theorem ma_of {x : It} (h : (0 ≤ x.base ∧ x.base ≤ 1073741824) ∧ (0 ≤ x.least ∧ x.least ≤ 1073741824) ∧ (0 ≤ x.grow ∧ x.grow ≤ 1000) ∧ (0 ≤ x.shrink ∧ x.shrink ≤ 1000)) : maI x = true := by
  unfold maI wiB
  simp
  omega
set_option maxHeartbeats 16000000 in
set_option maxRecDepth 100000 in
theorem rcheck_any (A : Option Addr) (n c : Nat) (xs : List It) (hn : n ≤ 60) (room : Int) (w : World) (hr : Reads w w.heap.size 4 A n (itL xs)) :
    Calls Try.prog 27 #[.slice A n c, .int .i64 room] w fun e w' => e = .returned (.int .i64 (errS xs room)) ∧ Below w.heap.size w w' := by
  have nn : (n : Int) ≤ 60 := by omega
  have qn : decide ((65536 : Int) < (n : Int)) = false := decide_eq_false (by omega)
  by_cases r0 : room < 0
  · have q0 : decide (room < 0) = true := decide_eq_true r0
    have HN := Lib.hid (errS_no (xs := xs) (room := room) fun h => by have := wi_parts h.1; omega)
    clear hr r0
    go_enter Try.func27, Try.ntmps27
    go_wp2
    go_ret
    exact ⟨(by rw [HN.out]; first | done | rfl), Below.refl _ _⟩
  · have q0 : decide (room < 0) = false := decide_eq_false r0
    by_cases r1 : 1073741824 < room
    · have q1 : decide (1073741824 < room) = true := decide_eq_true r1
      have HN := Lib.hid (errS_no (xs := xs) (room := room) fun h => by have := wi_parts h.1; omega)
      clear hr r0 r1
      go_enter Try.func27, Try.ntmps27
      go_wp2
      go_ret
      exact ⟨(by rw [HN.out]; first | done | rfl), Below.refl _ _⟩
    · have q1 : decide (1073741824 < room) = false := decide_eq_false r1
      have HWi := Lib.hid (show wiB room 1073741824 = true by unfold wiB; simp; omega)
      have HL := Lib.hid (len_it hr)
      have HR := Lib.hid hr
      clear hr r0 r1
      go_enter Try.func27, Try.ntmps27
      go_wp2
      go_loopw [5, 6] (fun i y wr => ∃ j : Nat, i = .int .i64 j ∧ j ≤ n ∧ Hid (∀ (q : Nat) (x : It), q < j → xs[q]? = some x → maI x = true) ∧ Hid (Below w.heap.size w wr)) (fun i _ _ => n - (intOf i).toNat)
      case atStart => exact ⟨0, rfl, by omega, Lib.hid (fun _ _ h => absurd h (by omega)), Lib.hid (Below.refl _ _)⟩
      case round =>
        obtain ⟨j, rfl, hj, HB, HD⟩ := hrel
        by_cases hlt : j < n
        · have q2 : decide ((j : Int) < (n : Int)) = true := decide_eq_true (by omega)
          have i0 : (0 : Int) ≤ (j : Int) := by omega
          have i1 : (j : Int) < (n : Int) := by omega
          obtain ⟨ad, _, rfl, _, _, _⟩ := reads_it HR.out hlt
          obtain ⟨m, hm, _, hC⟩ := itsAt HR.out hlt
          obtain ⟨c0, c1, c2, c3⟩ := hC _ HD.out
          have HM := Lib.hid hm
          clear hm hC
          have KY := Lib.hid (Blk.new wr 36 #[.int .i64 m.base, .int .i64 m.least, .int .i64 m.grow, .int .i64 m.shrink])
          have BY := Lib.hid (bel_alloc HD.out (.cells #[.int .i64 m.base, .int .i64 m.least, .int .i64 m.grow, .int .i64 m.shrink] 36))
          go_upto_region 7 with fail
          obtain ⟨gy, hgy⟩ : ∃ gy, wr.heap.size = gy := ⟨_, rfl⟩
          rw [hgy] at KY ⊢
          generalize wr.alloc (.cells #[.int .i64 m.base, .int .i64 m.least, .int .i64 m.grow, .int .i64 m.shrink] 36) = W4 at KY BY ⊢
          clear c0 c1 c2 c3 hgy HD
          have y0 : W4.cell? ⟨gy, 0, none⟩ = some (.int .i64 m.base) := KY.out.cell 0
          have y1 : W4.cell? ⟨gy, 1, none⟩ = some (.int .i64 m.least) := KY.out.cell 1
          have y2 : W4.cell? ⟨gy, 2, none⟩ = some (.int .i64 m.grow) := KY.out.cell 2
          have y3 : W4.cell? ⟨gy, 3, none⟩ = some (.int .i64 m.shrink) := KY.out.cell 3
          by_cases b0 : m.base < 0
          · have t0 : decide (m.base < 0) = true := decide_eq_true b0
            have HN := Lib.hid (errS_no (xs := xs) (room := room) fun h => by have := ma_parts (h.2 m (List.mem_of_getElem? HM.out)); omega)
            clear b0
            go_wp2
            go_ret
            exact ⟨(by rw [HN.out]; first | done | rfl), BY.out⟩
          have t0 : decide (m.base < 0) = false := decide_eq_false b0
          by_cases b1 : 1073741824 < m.base
          · have t1 : decide (1073741824 < m.base) = true := decide_eq_true b1
            have HN := Lib.hid (errS_no (xs := xs) (room := room) fun h => by have := ma_parts (h.2 m (List.mem_of_getElem? HM.out)); omega)
            clear b0 b1
            go_wp2
            go_ret
            exact ⟨(by rw [HN.out]; first | done | rfl), BY.out⟩
          have t1 : decide (1073741824 < m.base) = false := decide_eq_false b1
          by_cases b2 : m.least < 0
          · have t2 : decide (m.least < 0) = true := decide_eq_true b2
            have HN := Lib.hid (errS_no (xs := xs) (room := room) fun h => by have := ma_parts (h.2 m (List.mem_of_getElem? HM.out)); omega)
            clear b0 b1 b2
            go_wp2
            go_ret
            exact ⟨(by rw [HN.out]; first | done | rfl), BY.out⟩
          have t2 : decide (m.least < 0) = false := decide_eq_false b2
          by_cases b3 : 1073741824 < m.least
          · have t3 : decide (1073741824 < m.least) = true := decide_eq_true b3
            have HN := Lib.hid (errS_no (xs := xs) (room := room) fun h => by have := ma_parts (h.2 m (List.mem_of_getElem? HM.out)); omega)
            clear b0 b1 b2 b3
            go_wp2
            go_ret
            exact ⟨(by rw [HN.out]; first | done | rfl), BY.out⟩
          have t3 : decide (1073741824 < m.least) = false := decide_eq_false b3
          by_cases b4 : m.grow < 0
          · have t4 : decide (m.grow < 0) = true := decide_eq_true b4
            have HN := Lib.hid (errS_no (xs := xs) (room := room) fun h => by have := ma_parts (h.2 m (List.mem_of_getElem? HM.out)); omega)
            clear b0 b1 b2 b3 b4
            go_wp2
            go_ret
            exact ⟨(by rw [HN.out]; first | done | rfl), BY.out⟩
          have t4 : decide (m.grow < 0) = false := decide_eq_false b4
          by_cases b5 : 1000 < m.grow
          · have t5 : decide (1000 < m.grow) = true := decide_eq_true b5
            have HN := Lib.hid (errS_no (xs := xs) (room := room) fun h => by have := ma_parts (h.2 m (List.mem_of_getElem? HM.out)); omega)
            clear b0 b1 b2 b3 b4 b5
            go_wp2
            go_ret
            exact ⟨(by rw [HN.out]; first | done | rfl), BY.out⟩
          have t5 : decide (1000 < m.grow) = false := decide_eq_false b5
          by_cases b6 : m.shrink < 0
          · have t6 : decide (m.shrink < 0) = true := decide_eq_true b6
            have HN := Lib.hid (errS_no (xs := xs) (room := room) fun h => by have := ma_parts (h.2 m (List.mem_of_getElem? HM.out)); omega)
            clear b0 b1 b2 b3 b4 b5 b6
            go_wp2
            go_ret
            exact ⟨(by rw [HN.out]; first | done | rfl), BY.out⟩
          have t6 : decide (m.shrink < 0) = false := decide_eq_false b6
          by_cases b7 : 1000 < m.shrink
          · have t7 : decide (1000 < m.shrink) = true := decide_eq_true b7
            have HN := Lib.hid (errS_no (xs := xs) (room := room) fun h => by have := ma_parts (h.2 m (List.mem_of_getElem? HM.out)); omega)
            clear b0 b1 b2 b3 b4 b5 b6 b7
            go_wp2
            go_ret
            exact ⟨(by rw [HN.out]; first | done | rfl), BY.out⟩
          have t7 : decide (1000 < m.shrink) = false := decide_eq_false b7
          have hma : maI m = true := ma_of (by omega)
          have HB2 := Lib.hid (show ∀ (q : Nat) (x : It), q < j + 1 → xs[q]? = some x → maI x = true from fun q x hq hx => by
            rcases Nat.lt_succ_iff_lt_or_eq.1 hq with h | h
            · exact HB.out q x h hx
            · subst h
              have hM := HM.out
              rw [hM] at hx
              injection hx with hx
              rw [← hx]; exact hma)
          clear hma b0 b1 b2 b3 b4 b5 b6 b7
          go_wp2
          go_roundw
          case rel => exact ⟨j + 1, by go_num, by omega, HB2, BY⟩
          case measure => simp [intOf]; omega
        · obtain rfl : n = j := by omega
          have q2 : decide ((n : Int) < (n : Int)) = false := decide_eq_false (by omega)
          have HE := Lib.hid (errS_yes HWi.out (fun x hx => by
            obtain ⟨q, hq⟩ := List.getElem?_of_mem hx
            exact HB.out q x (by have := (List.getElem?_eq_some_iff.1 hq).1; have := HL.out; omega) hq))
          go_wp2
          go_ret
          exact ⟨(by rw [HE.out]; first | done | rfl), HD.out⟩
end Go.Proofs.Ytglomkpnbdnnoaa.Flex
