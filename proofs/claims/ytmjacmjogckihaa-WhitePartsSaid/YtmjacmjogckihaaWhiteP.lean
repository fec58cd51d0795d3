/- Chapter 8: the reference's May and Collapse, walked. No condition but bounds. -/
import Derived.Test.YtmjacmjogckihaaWhiteO
namespace Go.Proofs.Ytmjacmjogckihaa.White
open Go.RowKit
set_option linter.unusedVariables false
set_option linter.unusedSimpArgs false
set_option maxHeartbeats 4000000 in
theorem May_any (A : Option Addr) (n c : Nat) (cs : List Cr) (AS : Option Addr) (nS cS : Nat) (ss : List St) (hn : n ≤ 1000000000) (hnS : nS ≤ 1000000000) (W : World) (hR : Reads W W.heap.size 5 A n (crL cs)) (hRS : Reads W W.heap.size 9 AS nS (stL ss)) :
    Calls Try.prog 25 #[.slice A n c, .slice AS nS cS] W fun e w' => e = .returned (.bool (okAll ss cs)) ∧ Below W.heap.size W w' := by
  have HL := Lib.hid (len_cr hR)
  have HLS := Lib.hid (len_st hRS)
  have HR := Lib.hid hR
  have HRS := Lib.hid hRS
  have nn : (n : Int) ≤ 1000000000 := by omega
  have nnS : (nS : Int) ≤ 1000000000 := by omega
  clear hR hRS
  go_enter Try.func25, Try.ntmps25
  go_wp2_with (fail)
  go_loopw [5] (fun i wr => ∃ (k : Nat), i = .int .i64 k ∧ k ≤ n ∧ Hid (∀ (j : Nat) (c : Cr), j < k → cs[j]? = some c → okC ss c = true) ∧ Hid (Below W.heap.size W wr)) (fun i _ => n - (intOf i).toNat)
  case atStart => exact ⟨0, rfl, by omega, Lib.hid (fun _ _ h => absurd h (by omega)), Lib.hid (Below.refl _ _)⟩
  case round =>
    obtain ⟨k, rfl, hk, HOK, HB⟩ := hrel
    by_cases hlt : k < n
    · have q1 : decide ((k : Int) < (n : Int)) = true := decide_eq_true (by omega)
      have i0 : (0 : Int) ≤ (k : Int) := by omega
      have i1 : (k : Int) < (n : Int) := by omega
      obtain ⟨ad, ch, rfl, hb, hm, cc⟩ := reads_cr HR.out hlt
      obtain ⟨e0, e1, e2, e3, e4⟩ := cell5_keep cc HB.out (by rw [block_of_add]; exact hb)
      have HM := Lib.hid hm
      clear hm cc
      obtain ⟨r0, node, p, n', kd⟩ := ch
      simp only at e0 e1 e2 e3 e4
      by_cases h0 : node < 0
      · have q0 : decide (node < 0) = true := decide_eq_true h0
        have HN := Lib.hid (okAll_no HM.out (show okC ss ⟨r0, node, p, n', kd⟩ = false by unfold okC; simp [show ¬ 0 ≤ node by omega]))
        clear h0
        go_wp2
        go_ret
        exact ⟨by rw [HN.out]; rfl, HB.out⟩
      · have q0 : decide (node < 0) = false := decide_eq_false h0
        obtain ⟨nd, rfl⟩ : ∃ nd : Nat, node = nd := ⟨node.toNat, by omega⟩
        by_cases h1 : nd < nS
        · obtain ⟨adS, s, rfl, hbS, hs, cS'⟩ := reads_st HRS.out h1
          have h1' : (nd : Int) < (nS : Int) := by omega
          have h1'' : (0 : Int) ≤ (nd : Int) := by omega
          have q2 : decide (nS ≤ nd) = false := decide_eq_false (by omega)
          have HWh := Lib.hid (whOf_at hs)
          have y0 := (cellS_keep cS' HB.out (by rw [block_of_add]; exact hbS)).c0
          clear cS' hs h0
          obtain ⟨s0, s1, s2, s3, s4, s5, s6, s7, s8⟩ := s
          simp only at y0 HWh
          have HND := Lib.hid (show (nd : Int) < (ss.length : Int) by have := HLS.out; omega)
          by_cases h5 : s0 ≤ 5
          · have q3 : decide (5 < s0) = false := decide_eq_false (by omega)
            by_cases hkd : kd = 0 ∨ kd = 6 ∨ kd = 5
            · have HOk : Hid (okC ss ⟨r0, (nd : Int), p, n', kd⟩ = true) := Lib.hid (by unfold okC; simp only; rw [HWh.out]; simp [h5, HND.out]; omega)
              have HOK2 := Lib.hid (show ∀ (j : Nat) (c : Cr), j < k + 1 → cs[j]? = some c → okC ss c = true from fun j cj hj hc => by
                rcases Nat.lt_succ_iff_lt_or_eq.1 hj with h | h
                · exact HOK.out j cj h hc
                · subst h
                  have hM := HM.out
                  rw [hM] at hc
                  injection hc with hc
                  rw [← hc]; exact HOk.out)
              clear h5 HWh
              rcases (show (kd = 0) ∨ (¬ kd = 0 ∧ kd = 5) ∨ (¬ kd = 0 ∧ ¬ kd = 5 ∧ kd = 6) by omega) with hk0 | ⟨hk0, hk6⟩ | ⟨hk0, hk6, hk5⟩
              · have g0 : (kd != 0) = false := by simp [hk0]
                clear hkd hk0
                go_wp2
                go_roundw
                case rel => exact ⟨k + 1, by go_num, by omega, HOK2, HB⟩
                case measure => simp [intOf] <;> omega
              · have g0 : (kd != 0) = true := by simpa using hk0
                have g1 : (kd != 5) = false := by simp [hk6]
                clear hkd hk0 hk6
                go_wp2
                go_roundw
                case rel => exact ⟨k + 1, by go_num, by omega, HOK2, HB⟩
                case measure => simp [intOf] <;> omega
              · have g0 : (kd != 0) = true := by simpa using hk0
                have g1 : (kd != 5) = true := by simpa using hk6
                have g2 : (kd != 6) = false := by simp [hk5]
                clear hkd hk0 hk6 hk5
                go_wp2
                go_roundw
                case rel => exact ⟨k + 1, by go_num, by omega, HOK2, HB⟩
                case measure => simp [intOf] <;> omega
            · have g0 : (kd != 0) = true := by simp; omega
              have g1 : (kd != 6) = true := by simp; omega
              have g2 : (kd != 5) = true := by simp; omega
              have HN := Lib.hid (okAll_no HM.out (show okC ss ⟨r0, (nd : Int), p, n', kd⟩ = false by unfold okC; simp; intro _ _; omega))
              clear hkd h5 HWh
              go_wp2
              go_ret
              exact ⟨by rw [HN.out]; rfl, HB.out⟩
          · have q3 : decide (5 < s0) = true := decide_eq_true (by omega)
            have HN := Lib.hid (okAll_no HM.out (show okC ss ⟨r0, (nd : Int), p, n', kd⟩ = false by unfold okC; simp only; rw [HWh.out]; simp; intro _ h; exact absurd h h5))
            clear h5 HWh
            go_wp2
            go_ret
            exact ⟨by rw [HN.out]; rfl, HB.out⟩
        · have q2 : decide (nS ≤ nd) = true := decide_eq_true (by omega)
          have HN := Lib.hid (okAll_no HM.out (show okC ss ⟨r0, (nd : Int), p, n', kd⟩ = false by unfold okC; have := HLS.out; simp; intro h; omega))
          clear h0 h1
          go_wp2
          go_ret
          exact ⟨by rw [HN.out]; rfl, HB.out⟩
    · obtain rfl : k = n := by omega
      have q1 : decide ((k : Int) < (k : Int)) = false := decide_eq_false (by omega)
      have HA := Lib.hid (okAll_yes (fun j c h => HOK.out j c (by have := (List.getElem?_eq_some_iff.1 h).1; have := HL.out; omega) h))
      go_wp2
      go_ret
      exact ⟨by rw [HA.out]; rfl, HB.out⟩
end Go.Proofs.Ytmjacmjogckihaa.White
