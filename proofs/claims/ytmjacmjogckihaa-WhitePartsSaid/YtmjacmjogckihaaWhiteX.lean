/- Chapter 8: the laws' own small functions, walked: blank, made, twice. No condition but bounds. -/
import Derived.Test.YtmjacmjogckihaaWhiteV
import Derived.Test.YtmjacmjogckihaaWhiteZ
import Derived.BigQuiet
namespace Go.Proofs.Ytmjacmjogckihaa.White
open Go.RowKit
set_option linter.unusedVariables false
set_option linter.unusedSimpArgs false
set_option maxHeartbeats 1000000 in
theorem blank_any (m : Cr) (w : World) : Calls Try.prog 18 #[crV m] w fun e w' => e = .returned (.bool (blankB m)) ∧ Below w.heap.size w w' := by
  obtain ⟨r0, nd, p, n, k⟩ := m
  have HB := Lib.hid (bel_alloc (Below.refl w.heap.size w) (.cells #[.int .i32 r0, .int .i64 nd, .int .i64 p, .int .i64 n, .int .u8 k] 38))
  by_cases g1 : k = 0
  · subst g1
    rcases (show (r0 = 32) ∨ (¬ r0 = 32 ∧ r0 = 9) ∨ (¬ r0 = 32 ∧ ¬ r0 = 9 ∧ r0 = 10) ∨ (¬ r0 = 32 ∧ ¬ r0 = 9 ∧ ¬ r0 = 10 ∧ r0 = 13) ∨ (¬ r0 = 32 ∧ ¬ r0 = 9 ∧ ¬ r0 = 10 ∧ ¬ r0 = 13) by omega) with rfl | ⟨_, rfl⟩ | ⟨_, _, rfl⟩ | ⟨_, _, _, rfl⟩ | ⟨a, b, c, d⟩
    · go_enter Try.func18, Try.ntmps18
      go_wp2
      go_ret
      exact ⟨rfl, HB.out⟩
    · go_enter Try.func18, Try.ntmps18
      go_wp2
      go_ret
      exact ⟨rfl, HB.out⟩
    · go_enter Try.func18, Try.ntmps18
      go_wp2
      go_ret
      exact ⟨rfl, HB.out⟩
    · go_enter Try.func18, Try.ntmps18
      go_wp2
      go_ret
      exact ⟨rfl, HB.out⟩
    · have HE := Lib.hid (show blankB ⟨r0, nd, p, n, 0⟩ = false by unfold blankB; simp [a, b, c, d])
      have qa : (r0 == 32) = false := by simpa using a
      have qb : (r0 == 9) = false := by simpa using b
      have qc : (r0 == 10) = false := by simpa using c
      have qd : (r0 == 13) = false := by simpa using d
      clear a b c d
      go_enter Try.func18, Try.ntmps18
      go_wp2
      go_ret
      exact ⟨by rw [HE.out]; rfl, HB.out⟩
  · have q1 : (k == 0) = false := by simpa using g1
    have HE := Lib.hid (show blankB ⟨r0, nd, p, n, k⟩ = false by unfold blankB; rw [decide_eq_false g1]; rfl)
    clear g1
    go_enter Try.func18, Try.ntmps18
    go_wp2
    go_ret
    exact ⟨by rw [HE.out]; rfl, HB.out⟩
def mdB (c : Cr) : Bool := decide (c.kind = 5) && !decide (c.r = 0)
theorem any_yes {cs : List Cr} (f : Cr → Bool) {j : Nat} {c : Cr} (h : cs[j]? = some c) (hf : f c = true) : cs.any f = true := by
  rw [List.any_eq_true]
  exact ⟨c, List.mem_of_getElem? h, hf⟩
theorem any_no {cs : List Cr} (f : Cr → Bool) (h : ∀ (j : Nat) (c : Cr), cs[j]? = some c → f c = false) : cs.any f = false := by
  rw [List.any_eq_false]
  intro c hc
  obtain ⟨j, hj⟩ := List.getElem?_of_mem hc
  rw [h j c hj]
  simp
theorem mdB_in {cs : List Cr} {ss : List St} (hok : okAll ss cs = true) (h : cs.any mdB = false) : ∀ c ∈ cs, In c := fun c hc => by
  rw [List.any_eq_false] at h
  have h1 := h c hc
  unfold okAll at hok
  rw [List.all_eq_true] at hok
  have h2 := hok c hc
  unfold okC at h2
  unfold mdB at h1
  simp at h1 h2
  refine ⟨by omega, h1⟩
set_option maxHeartbeats 4000000 in
theorem made_any (A : Option Addr) (n c : Nat) (cs : List Cr) (hn : n ≤ 1000000000) (w : World) (hr : Reads w w.heap.size 5 A n (crL cs)) :
    Calls Try.prog 19 #[.slice A n c] w fun e w' => e = .returned (.bool (cs.any mdB)) ∧ Below w.heap.size w w' := by
  have HL := Lib.hid (len_cr hr)
  have HR := Lib.hid hr
  have nn : (n : Int) ≤ 1000000000 := by omega
  clear hr
  go_enter Try.func19, Try.ntmps19
  go_wp2
  go_loopw [3] (fun i wr => ∃ k : Nat, i = .int .i64 k ∧ k ≤ n ∧ Hid (∀ (j : Nat) (c : Cr), j < k → cs[j]? = some c → mdB c = false) ∧ Hid (Below w.heap.size w wr)) (fun i _ => n - (intOf i).toNat)
  case atStart => exact ⟨0, rfl, by omega, Lib.hid (fun _ _ h => absurd h (by omega)), Lib.hid (Below.refl _ _)⟩
  case round =>
    obtain ⟨k, rfl, hk, HOK, HB⟩ := hrel
    by_cases hlt : k < n
    · have q1 : decide ((k : Int) < (n : Int)) = true := decide_eq_true (by omega)
      have i0 : (0 : Int) ≤ (k : Int) := by omega
      have i1 : (k : Int) < (n : Int) := by omega
      obtain ⟨ad, ch, rfl, hb, hm, cc⟩ := reads_cr HR.out hlt
      obtain ⟨e0, e1, e2, e3, e4⟩ := cell5_keep cc HB.out (by rw [block_of_add]; exact hb)
      have HM := Lib.hid hm
      clear hm cc
      have HN := Lib.hid (show mdB ch = false → ∀ (j : Nat) (c : Cr), j < k + 1 → cs[j]? = some c → mdB c = false from fun hh j cj hj hc => by
        rcases Nat.lt_succ_iff_lt_or_eq.1 hj with h | h
        · exact HOK.out j cj h hc
        · subst h
          have hM := HM.out
          rw [hM] at hc
          injection hc with hc
          rw [← hc]; exact hh)
      obtain ⟨r0, node, p, n', kd⟩ := ch
      simp only at e0 e1 e2 e3 e4
      by_cases h5 : kd = 5
      · subst h5
        by_cases h0 : r0 = 0
        · subst h0
          have HN2 := Lib.hid (HN.out rfl)
          go_wp2
          go_roundw
          case rel => exact ⟨k + 1, by go_num, by omega, HN2, HB⟩
          case measure => simp [intOf] <;> omega
        · have g0 : (r0 != 0) = true := by simpa using h0
          have HT := Lib.hid (any_yes mdB HM.out (show mdB ⟨r0, node, p, n', 5⟩ = true by unfold mdB; simp [h0]))
          clear h0
          go_wp2
          go_ret
          exact ⟨by rw [HT.out]; rfl, HB.out⟩
      · have g0 : (kd == 5) = false := by simpa using h5
        have HN2 := Lib.hid (HN.out (by unfold mdB; rw [decide_eq_false h5]; rfl))
        clear h5
        go_wp2
        go_roundw
        case rel => exact ⟨k + 1, by go_num, by omega, HN2, HB⟩
        case measure => simp [intOf] <;> omega
    · obtain rfl : k = n := by omega
      have q1 : decide ((k : Int) < (k : Int)) = false := decide_eq_false (by omega)
      have HF := Lib.hid (any_no mdB (cs := cs) fun j c h => HOK.out j c (by have := (List.getElem?_eq_some_iff.1 h).1; have := HL.out; omega) h)
      go_wp2
      go_ret
      exact ⟨by rw [HF.out]; rfl, HB.out⟩
def twB : List Cr → Bool
  | [] => false
  | x :: l => l.any (sameP x) || twB l
theorem twB_once : ∀ l : List Cr, twB l = false ↔ Once l
  | [] => by unfold twB Once; simp
  | x :: l => by
    have ih := twB_once l
    unfold Once at ih ⊢
    show (l.any (sameP x) || twB l) = false ↔ _
    rw [Bool.or_eq_false_iff, ih, List.pairwise_cons, List.any_eq_false]
    simp
theorem twB_no {cs : List Cr} (h : Once cs) : twB cs = false := (twB_once cs).2 h
theorem twB_yes {cs : List Cr} {i j : Nat} {x y : Cr} (h : j < i) (hx : cs[i]? = some x) (hy : cs[j]? = some y) (hs : sameP y x = true) : twB cs = true := by
  cases g : twB cs with
  | true => rfl
  | false =>
    have h1 := (twB_once cs).1 g
    unfold Once at h1
    rw [List.pairwise_iff_getElem] at h1
    obtain ⟨hi, rfl⟩ := List.getElem?_eq_some_iff.1 hx
    obtain ⟨hj, rfl⟩ := List.getElem?_eq_some_iff.1 hy
    rw [h1 j i hj hi h] at hs
    cases hs
theorem once_of {cs : List Cr} (h : ∀ (i j : Nat) (x y : Cr), j < i → cs[i]? = some x → cs[j]? = some y → sameP x y = false) : Once cs := by
  unfold Once
  rw [List.pairwise_iff_getElem]
  intro j i hj hi hlt
  have := h i j cs[i] cs[j] hlt (List.getElem?_eq_getElem hi) (List.getElem?_eq_getElem hj)
  unfold sameP at this ⊢
  simp only [Bool.and_eq_false_iff, decide_eq_false_iff_not] at this ⊢
  omega
set_option maxHeartbeats 4000000 in
theorem twice_any (A : Option Addr) (n c : Nat) (cs : List Cr) (hn : n ≤ 1000000000) (w : World) (hr : Reads w w.heap.size 5 A n (crL cs)) :
    Calls Try.prog 17 #[.slice A n c] w fun e w' => e = .returned (.bool (twB cs)) ∧ Drawn w w' := by
  have HL := Lib.hid (len_cr hr)
  have HR := Lib.hid hr
  have nn : (n : Int) ≤ 1000000000 := by omega
  clear hr
  go_enter Try.func17, Try.ntmps17
  go_wp2
  go_loopw [3, 4] (fun i q wr => ∃ k : Nat, i = .int .i64 k ∧ k ≤ n ∧ Hid (∀ (i j : Nat) (x y : Cr), i < k → j < i → cs[i]? = some x → cs[j]? = some y → sameP x y = false) ∧ Drawn w wr) (fun i _ _ => n - (intOf i).toNat)
  case atStart => exact ⟨0, rfl, by omega, Lib.hid (fun _ _ _ _ h => absurd h (by omega)), Drawn.refl _⟩
  case round =>
    obtain ⟨k, rfl, hk, HOK, HD⟩ := hrel
    by_cases hlt : k < n
    · have q1 : decide ((k : Int) < (n : Int)) = true := decide_eq_true (by omega)
      have i0 : (0 : Int) ≤ (k : Int) := by omega
      have i1 : (k : Int) < (n : Int) := by omega
      obtain ⟨ad, x, rfl, hb, hm, cc⟩ := reads_cr HR.out hlt
      have HM := Lib.hid hm
      have HC := Lib.hid cc
      clear hm cc
      have HWR := Lib.hid HD
      clear HD
      obtain ⟨W0, hW⟩ : ∃ W0, W0 = wr := ⟨_, rfl⟩
      subst hW
      go_wp2
      go_loopw [4] (fun q wr => ∃ j : Nat, q = .int .i64 j ∧ j ≤ k ∧ Hid (∀ (j' : Nat) (y : Cr), j' < j → cs[j']? = some y → sameP x y = false) ∧ Drawn w wr) (fun q _ => k - (intOf q).toNat)
      case atStart => exact ⟨0, rfl, by omega, Lib.hid (fun _ _ h => absurd h (by omega)), HWR.out⟩
      case round =>
        obtain ⟨j, rfl, hj, HOJ, HD⟩ := hrel
        by_cases hjk : j < k
        · have q2 : decide ((j : Int) < (k : Int)) = true := decide_eq_true (by omega)
          have j0 : (0 : Int) ≤ (j : Int) := by omega
          have j1 : (j : Int) < (n : Int) := by omega
          obtain ⟨ad2, y, e2, hb2, hm2, cc2⟩ := reads_cr HR.out (show j < n by omega)
          injection e2 with e2
          subst e2
          obtain ⟨a0, a1, a2, a3, a4⟩ := HC.out
          obtain ⟨b0, b1, b2, b3, b4⟩ := cc2
          have HM2 := Lib.hid hm2
          clear hm2
          have HN := Lib.hid (show sameP x y = false → ∀ (j' : Nat) (y : Cr), j' < j + 1 → cs[j']? = some y → sameP x y = false from fun hh j' y' hj' hc => by
            rcases Nat.lt_succ_iff_lt_or_eq.1 hj' with h | h
            · exact HOJ.out j' y' h hc
            · subst h
              have hM := HM2.out
              rw [hM] at hc
              injection hc with hc
              rw [← hc]; exact hh)
          clear HC
          obtain ⟨x0, x1, x2, x3, x4⟩ := x
          obtain ⟨y0, y1, y2, y3, y4⟩ := y
          simp only at a0 a1 a2 a3 a4 b0 b1 b2 b3 b4
          obtain ⟨m, rfl⟩ := HD
          by_cases g1 : x1 = y1
          · subst g1
            by_cases g2 : x2 = y2
            · subst g2
              have HT := Lib.hid (twB_yes hjk HM.out HM2.out (by unfold sameP; simp))
              go_wp2
              go_quiet (fail)
              go_wp2
              go_ret
              exact ⟨by rw [HT.out]; rfl, by first | exact ⟨⟨_, rfl⟩⟩ | exact Drawn.two _ _ _⟩
            · have q3 : (x2 == y2) = false := by simpa using g2
              have HN2 := Lib.hid (HN.out (by unfold sameP; simp [g2]))
              clear g2
              go_wp2
              go_quiet (fail)
              go_wp2
              go_roundw
              case rel => exact ⟨j + 1, by go_num, by omega, HN2, by first | exact ⟨⟨_, rfl⟩⟩ | exact Drawn.two _ _ _⟩
              case measure => simp [intOf] <;> omega
          · have q3 : (x1 == y1) = false := by simpa using g1
            have HN2 := Lib.hid (HN.out (by unfold sameP; simp [g1]))
            clear g1
            go_wp2
            go_quiet (fail)
            go_wp2
            go_roundw
            case rel => exact ⟨j + 1, by go_num, by omega, HN2, by first | exact ⟨⟨_, rfl⟩⟩ | exact Drawn.two _ _ _⟩
            case measure => simp [intOf] <;> omega
        · obtain rfl : j = k := by omega
          have q2 : decide ((j : Int) < (j : Int)) = false := decide_eq_false (by omega)
          have HO2 := Lib.hid (show ∀ (i' j' : Nat) (x y : Cr), i' < j + 1 → j' < i' → cs[i']? = some x → cs[j']? = some y → sameP x y = false from fun i' j' x' y' hi hj' hx hy => by
            rcases Nat.lt_succ_iff_lt_or_eq.1 hi with h | h
            · exact HOK.out i' j' x' y' h hj' hx hy
            · subst h
              have hM := HM.out
              rw [hM] at hx
              injection hx with hx
              rw [← hx]; exact HOJ.out j' y' hj' hy)
          go_wp2
          go_roundw
          case rel => exact ⟨j + 1, by go_num, by omega, HO2, HD⟩
          case measure => simp [intOf] <;> omega
    · obtain rfl : k = n := by omega
      have q1 : decide ((k : Int) < (k : Int)) = false := decide_eq_false (by omega)
      have HO := Lib.hid (twB_no (cs := cs) <| once_of (cs := cs) fun i j x y hj hx hy => HOK.out i j x y (by have := (List.getElem?_eq_some_iff.1 hx).1; have := HL.out; omega) hj hx hy)
      go_wp2
      go_ret
      exact ⟨by rw [HO.out]; rfl, HD⟩
end Go.Proofs.Ytmjacmjogckihaa.White
