/- Chapter 8: styles that collapse, walked; the list that the program begins with; rows of marks that are written. No condition. -/
import Derived.Test.YtmjacmjogckihaaWhiteF
namespace Go.Proofs.Ytmjacmjogckihaa.White
open Go.RowKit
set_option linter.unusedVariables false
set_option linter.unusedSimpArgs false
def foldW (w : Int) : Bool := decide (w = 0) || (decide (w = 1) || decide (w = 4))
theorem foldW_no {w : Int} (h0 : ¬ w = 0) (h1 : ¬ w = 1) (h4 : ¬ w = 4) : foldW w = false := by unfold foldW; rw [decide_eq_false h0, decide_eq_false h1, decide_eq_false h4]; rfl
theorem foldW_four : foldW 4 = true := rfl
set_option maxHeartbeats 1000000 in
theorem collapses_any (s : St) (w : World) : Calls Try.prog 12 #[stV s] w fun e w' => e = .returned (.bool (foldW s.white)) ∧ Below w.heap.size w w' := by
  obtain ⟨a0, a1, a2, a3, a4, a5, a6, a7, a8⟩ := s
  have HB := Lib.hid (bel_alloc (Below.refl w.heap.size w) (.cells #[.int .u8 a0, .int .u8 a1, .int .u8 a2, .int .u8 a3, .int .i64 a4, .int .i64 a5, .int .i64 a6, .int .u8 a7, .int .i64 a8] 33))
  by_cases h0 : a0 = 0
  · subst h0
    go_enter Try.func12, Try.ntmps12
    go_wp2
    go_ret
    exact ⟨rfl, HB.out⟩
  · by_cases h1 : a0 = 1
    · subst h1
      go_enter Try.func12, Try.ntmps12
      go_wp2
      go_ret
      exact ⟨rfl, HB.out⟩
    · by_cases h4 : a0 = 4
      · subst h4
        go_enter Try.func12, Try.ntmps12
        go_wp2
        go_ret
        exact ⟨rfl, HB.out⟩
      · have q0 : (a0 == 0) = false := by simpa using h0
        have q1 : (a0 == 1) = false := by simpa using h1
        have q4 : (a0 == 4) = false := by simpa using h4
        have HE := Lib.hid (foldW_no h0 h1 h4)
        clear h0 h1 h4
        go_enter Try.func12, Try.ntmps12
        go_wp2
        go_ret
        exact ⟨by rw [HE.out]; rfl, HB.out⟩
set_option maxHeartbeats 1000000 in
theorem refCollapses_any (s : St) (w : World) : Calls Try.prog 13 #[stV s] w fun e w' => e = .returned (.bool (foldW s.white)) ∧ Below w.heap.size w w' := by
  obtain ⟨a0, a1, a2, a3, a4, a5, a6, a7, a8⟩ := s
  have HB := Lib.hid (bel_alloc (Below.refl w.heap.size w) (.cells #[.int .u8 a0, .int .u8 a1, .int .u8 a2, .int .u8 a3, .int .i64 a4, .int .i64 a5, .int .i64 a6, .int .u8 a7, .int .i64 a8] 33))
  by_cases h0 : a0 = 0
  · subst h0
    go_enter Try.func13, Try.ntmps13
    go_wp2
    go_ret
    exact ⟨rfl, HB.out⟩
  · by_cases h1 : a0 = 1
    · subst h1
      go_enter Try.func13, Try.ntmps13
      go_wp2
      go_ret
      exact ⟨rfl, HB.out⟩
    · by_cases h4 : a0 = 4
      · subst h4
        go_enter Try.func13, Try.ntmps13
        go_wp2
        go_ret
        exact ⟨rfl, HB.out⟩
      · have q0 : (a0 == 0) = false := by simpa using h0
        have q1 : (a0 == 1) = false := by simpa using h1
        have q4 : (a0 == 4) = false := by simpa using h4
        have HE := Lib.hid (foldW_no h0 h1 h4)
        clear h0 h1 h4
        go_enter Try.func13, Try.ntmps13
        go_wp2
        go_ret
        exact ⟨by rw [HE.out]; rfl, HB.out⟩

/-! ### what the lists begin with -/
def whOf (ss : List St) (i : Int) : Int := ((ss[i.toNat]?).map St.white).getD 0
theorem whOf_at {ss : List St} {k : Nat} {s : St} (h : ss[k]? = some s) : whOf ss (k : Int) = s.white := by unfold whOf; rw [Int.toNat_natCast, h]; rfl
def okC (ss : List St) (c : Cr) : Bool := decide (0 ≤ c.node) && (decide (c.node < (ss.length : Int)) && (decide (whOf ss c.node ≤ 5) && (decide (c.kind = 0) || (decide (c.kind = 6) || decide (c.kind = 5)))))
def okAll (ss : List St) (cs : List Cr) : Bool := cs.all (okC ss)
theorem okAll_no {ss : List St} {cs : List Cr} {k : Nat} {c : Cr} (h : cs[k]? = some c) (hc : okC ss c = false) : okAll ss cs = false := by
  unfold okAll
  rw [List.all_eq_false]
  exact ⟨c, List.mem_of_getElem? h, by rw [hc]; simp⟩
theorem okAll_yes {ss : List St} {cs : List Cr} (h : ∀ (j : Nat) (c : Cr), cs[j]? = some c → okC ss c = true) : okAll ss cs = true := by
  unfold okAll
  rw [List.all_eq_true]
  intro c hc
  obtain ⟨j, hj⟩ := List.getElem?_of_mem hc
  exact h j c hj
def mkOf (ss : List St) (c : Cr) : Mk := ⟨c, whOf ss c.node, foldW (whOf ss c.node), false, false⟩
/-- What the program leaves. -/
def outL (ss : List St) (cs : List Cr) : List Cr := (stepsL 5 (cs.map (mkOf ss))).map Mk.c

/-! ### a row of marks that is written -/
def RowM (V : World) (base : Nat) (v : Value) (xs : List Mk) : Prop :=
  ∃ A c, v = .slice A xs.length c ∧ (xs = [] ∨ ∃ g cur, A = some ⟨g, 0, none⟩ ∧ base ≤ g ∧ Blk V g 47 cur ∧ ∀ j m, xs[j]? = some m → At9 cur j m)
theorem At9.of_cells {cur : Array Value} {xs : List Mk} {n : Nat} (h : cur.toList.take n = mkL xs) : ∀ j m, xs[j]? = some m → At9 cur j m := by
  intro j m hm q u hu
  have hq : q < 9 := (List.getElem?_eq_some_iff.1 hu).1
  have e := fm_at mkC 9 (fun _ => rfl) xs j m hm q hq
  rw [hu] at e
  have hl : j * 9 + q < (mkL xs).length := (List.getElem?_eq_some_iff.1 e).1
  have e2 : (cur.toList.take n)[j * 9 + q]? = some u := by rw [h]; exact e
  rw [← h, List.length_take] at hl
  rw [List.getElem?_take, if_pos (by omega)] at e2
  rw [← Array.getElem?_toList]
  exact e2
theorem RowM.of_own {V : World} {base : Nat} {v : Value} {xs : List Mk} (h : V.ownsRow base 47 9 v xs.length (mkL xs)) : RowM V base v xs := by
  rcases h.2 with ⟨hv, hn⟩ | ⟨g, cap, cur, hv, hB, hg, _, _, _, hr⟩
  · exact ⟨none, 0, by rw [hv, hn], .inl (List.eq_nil_of_length_eq_zero hn)⟩
  · exact ⟨_, cap, hv, .inr ⟨g, cur, rfl, hB, hg, At9.of_cells hr⟩⟩
theorem RowM.reads {V : World} {base n c : Nat} {A : Option Addr} {xs : List Mk} (h : RowM V base (.slice A n c) xs) : n = xs.length ∧ Reads V V.heap.size 9 A n (mkL xs) := by
  obtain ⟨A', c', e, h⟩ := h
  injection e with e1 e2 e3
  subst e1 e2
  refine ⟨rfl, by rw [mkL, fm_len mkC 9 (fun _ => rfl)], fun h0 => ?_⟩
  rcases h with h | ⟨g, cur, rfl, hB, hg, h9⟩
  · rw [h] at h0; simp at h0
  · refine ⟨_, rfl, hg.lt, fun j u hu => ?_⟩
    have hj : j < (mkL xs).length := (List.getElem?_eq_some_iff.1 hu).1
    rw [mkL, fm_len mkC 9 (fun _ => rfl)] at hj
    have hj9 : j / 9 < xs.length := by omega
    have hm := List.getElem?_eq_getElem hj9
    have e : j = (j / 9) * 9 + j % 9 := by omega
    rw [mkL, e, fm_at mkC 9 (fun _ => rfl) xs (j / 9) _ hm (j % 9) (by omega)] at hu
    have := h9 _ _ hm _ _ hu
    rw [e]
    have ha : (⟨g, 0, none⟩ : Addr).add (j / 9 * 9 + j % 9) = ⟨g, j / 9 * 9 + j % 9, none⟩ := by
      unfold Addr.add
      split
      · rename_i h0; rw [h0]
      · simp
    rw [ha]
    exact (hg.cell _).trans this
theorem RowM.keep {V V' : World} {base : Nat} {v : Value} {xs : List Mk} (h : RowM V base v xs) (hb : Below V.heap.size V V') : RowM V' base v xs := by
  obtain ⟨A, c, e, h⟩ := h
  exact ⟨A, c, e, h.imp id fun ⟨g, cur, h1, h2, h3, h4⟩ => ⟨g, cur, h1, h2, h3.keep hb, h4⟩⟩
theorem RowM.more {V : World} {base base' : Nat} {v : Value} {xs : List Mk} (h : RowM V base v xs) (hb : base' ≤ base) : RowM V base' v xs := by
  obtain ⟨A, c, e, h⟩ := h
  exact ⟨A, c, e, h.imp id fun ⟨g, cur, h1, h2, h3, h4⟩ => ⟨g, cur, h1, Nat.le_trans hb h2, h3, h4⟩⟩
theorem RowM.far {V : World} {base : Nat} {v : Value} {xs : List Mk} (h : RowM V base v xs) (p : Addr) (u : Value) (hp : p.block < base) : RowM (V.setCell p u) base v xs := by
  obtain ⟨A, c, e, h⟩ := h
  exact ⟨A, c, e, h.imp id fun ⟨g, cur, h1, h2, h3, h4⟩ => ⟨g, cur, h1, h2, h3.far (by omega) u, h4⟩⟩
/-- The i-th of a row, turned. -/
theorem RowM.turned {V V' : World} {base g c i : Nat} {cur : Array Value} {xs : List Mk} {m m' : Mk} (hb : Blk V g 47 cur) (hB : base ≤ g) (h9 : ∀ j m, xs[j]? = some m → At9 cur j m) (hm : xs[i]? = some m) (hT : Turned g i cur m' V V') : RowM V' base (.slice (some ⟨g, 0, none⟩) xs.length c) (xs.set i m') := by
  obtain ⟨cur', h1, h2, h3, h4, h5⟩ := hT.out
  refine ⟨_, c, by rw [List.length_set], .inr ⟨g, cur', rfl, hB, h1, fun j mj hj => ?_⟩⟩
  by_cases e : i = j
  · subst e
    have hl : i < xs.length := (List.getElem?_eq_some_iff.1 hm).1
    rw [List.getElem?_set_self hl] at hj
    injection hj with hj
    subst hj
    exact h3
  · rw [List.getElem?_set_ne e] at hj
    intro q u hu
    have hq : q < 9 := (List.getElem?_eq_some_iff.1 hu).1
    rw [h4 _ (by omega)]
    exact h9 j mj hj q u hu
theorem stepRow_at (B k : Nat) (h : k < 5) : (stepRow B)[k * 2]? = some (outF B k) ∧ (stepRow B)[k * 2 + 1]? = some (turnF k) := by
  match k, h with
  | 0, _ => exact ⟨rfl, rfl⟩
  | 1, _ => exact ⟨rfl, rfl⟩
  | 2, _ => exact ⟨rfl, rfl⟩
  | 3, _ => exact ⟨rfl, rfl⟩
  | 4, _ => exact ⟨rfl, rfl⟩
end Go.Proofs.Ytmjacmjogckihaa.White
