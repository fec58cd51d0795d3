/- Chapter 8: the reference's Same, May and Collapse, walked; what it leaves is what the program leaves. No condition but bounds. -/
import Derived.Test.YtmjacmjogckihaaWhiteN
namespace Go.Proofs.Ytmjacmjogckihaa.White
open Go.RowKit
set_option linter.unusedVariables false
set_option linter.unusedSimpArgs false
set_option maxHeartbeats 4000000 in
set_option maxRecDepth 100000 in
theorem same_any (A A2 : Option Addr) (n m c d B : Nat) (xs ys : List Cr) (w : World) (hl : xs.length = n) (hm : ys.length = m) (hr : Reads w B 5 A n (crL xs)) (hs : Reads w B 5 A2 m (crL ys)) (hn : n ≤ 1000000000) (hn2 : m ≤ 1000000000) :
    Calls Try.prog 14 #[.slice A n c, .slice A2 m d] w fun e w' => e = .returned (.bool (sameCr xs ys)) ∧ Drawn w w' := by
  by_cases hnm : n = m
  · subst hnm
    have HL := Lib.hid hl
    have HM := Lib.hid hm
    have HR := Lib.hid hr
    have HS := Lib.hid hs
    clear hl hr hm hs
    have q0 : ((n : Int) != (n : Int)) = false := by simp
    go_enter Try.func14, Try.ntmps14
    go_wp2
    go_loopw [5] (fun i wr => ∃ k : Nat, k ≤ n ∧ i = .int .i64 k ∧ Hid (xs = ys ↔ xs.drop k = ys.drop k) ∧ Drawn w wr) (fun i wr => n - (intOf i).toNat)
    case atStart => exact ⟨0, by omega, rfl, Iff.rfl, Drawn.refl _⟩
    case round =>
      obtain ⟨k, hk, rfl, HK, ⟨m, rfl⟩⟩ := hrel
      by_cases hlt : k < n
      · obtain ⟨ad, x, rfl, _, hx, cx⟩ := reads_cr HR.out hlt
        obtain ⟨ad2, y, rfl, _, hy, cy⟩ := reads_cr HS.out hlt
        have ST := Lib.hid (step_cr xs ys k x y hx hy)
        clear hx hy
        obtain ⟨a0, a1, a2, a3, a4⟩ := cx
        obtain ⟨b0, b1, b2, b3, b4⟩ := cy
        have q1 : (k : Int) < (n : Int) := by omega
        have q2 : (0 : Int) ≤ k := by omega
        have NQ := fun (W : World) => neq_cr W x y
        obtain ⟨b, hb⟩ : ∃ b, decide (x = y) = b := ⟨_, rfl⟩
        rw [hb] at NQ
        have HB := Lib.hid hb
        clear hb
        obtain ⟨x0, x1, x2, x3, x4⟩ := x
        obtain ⟨y0, y1, y2, y3, y4⟩ := y
        simp only at NQ a0 a1 a2 a3 a4 b0 b1 b2 b3 b4
        cases b
        · go_wp2
          go_quiet (fail)
          go_wp2
          go_ret
          exact ⟨ret_bool (by rw [sameCr, decide_eq_false]; exact fun h => (of_decide_eq_false HB.out) (ST.out.1 (HK.out.1 h)).1), by first | exact ⟨⟨_, rfl⟩⟩ | exact Drawn.two _ _ _⟩
        · go_wp2
          go_quiet (fail)
          go_wp2
          go_roundw
          case rel => exact ⟨k + 1, by omega, by go_num, HK.out.trans (ST.out.trans ⟨fun h => h.2, fun h => ⟨of_decide_eq_true HB.out, h⟩⟩), ⟨⟨_, rfl⟩⟩⟩
          case measure => simp [intOf]; omega
      · obtain rfl : k = n := by omega
        go_wp2
        go_ret
        exact ⟨ret_bool (by rw [sameCr, decide_eq_true]; exact HK.out.2 (by rw [List.drop_of_length_le (by rw [HL.out]; omega), List.drop_of_length_le (by rw [HM.out]; omega)])), ⟨⟨_, rfl⟩⟩⟩
  · have q0 : ((n : Int) != (m : Int)) = true := by rw [bne_iff_ne]; omega
    have HF := Lib.hid (show sameCr xs ys = false from decide_eq_false fun h => hnm (by rw [← hl, ← hm, h]))
    clear hr hs
    go_enter Try.func14, Try.ntmps14
    go_wp2
    go_ret
    exact ⟨ret_bool HF.out.symm, Drawn.refl _⟩

/-! ### the two lists are one -/
theorem filterZ_map {α β : Type} (f : α → β) (p : List β → β → List β → Bool) : ∀ (pre l : List α), filterZ p (pre.map f) (l.map f) = (filterZ (fun a x b => p (a.map f) (f x) (b.map f)) pre l).map f
  | _, [] => rfl
  | pre, x :: post => by
    have ih := filterZ_map f p (x :: pre) post
    simp only [List.map_cons] at ih ⊢
    unfold filterZ
    split <;> simp [ih]
theorem filterZ_congr {α : Type} {p q : List α → α → List α → Bool} (h : ∀ a x b, p a x b = q a x b) (pre l : List α) : filterZ p pre l = filterZ q pre l := by
  rw [show p = q from funext fun a => funext fun x => funext fun b => h a x b]
theorem filterZ_sub {α : Type} (p : List α → α → List α → Bool) : ∀ (pre l : List α) (c : α), c ∈ filterZ p pre l → c ∈ l
  | _, [], c, h => h
  | pre, x :: post, c, h => by
    unfold filterZ at h
    split at h
    · exact List.mem_cons_of_mem _ (filterZ_sub p _ post c h)
    · rcases List.mem_cons.1 h with h | h
      · rw [h]; exact List.mem_cons_self
      · exact List.mem_cons_of_mem _ (filterZ_sub p _ post c h)
theorem hd_map {α β : Type} (f : α → β) (g : β → Bool) (l : List α) : hd (l.map f) g = hd l (fun x => g (f x)) := by cases l <;> rfl
theorem dw_map {α β : Type} (f : α → β) (g : β → Bool) : ∀ l : List α, (l.map f).dropWhile g = (l.dropWhile (fun x => g (f x))).map f
  | [] => rfl
  | x :: l => by
    have ih := dw_map f g l
    simp only [List.map_cons, List.dropWhile_cons]
    split <;> simp [ih]
def f1 (ss : List St) (c : Cr) : Mk := ⟨c, whOf ss c.node, foldW (whOf ss c.node), enC c, false⟩
def f2 (ss : List St) (c : Cr) : Mk := ⟨c, whOf ss c.node, foldW (whOf ss c.node), enC c, sfC ss c⟩
def er (m : Mk) : Mk := { m with en := false, so := false }
theorem soft_fold (w : Int) : (foldW w && !decide (w = 4)) = (decide (w = 0) || decide (w = 1)) := by
  unfold foldW
  by_cases h0 : w = 0
  · subst h0; rfl
  · by_cases h1 : w = 1
    · subst h1; rfl
    · by_cases h4 : w = 4
      · subst h4; rfl
      · simp [h0, h1, h4]
theorem t2_f1 (ss : List St) (c : Cr) : t2 (f1 ss c) = f2 ss c := by
  unfold t2 f1 f2 sfC
  simp only
  rw [soft_fold]
theorem whM_f (ss : List St) (c : Cr) : whM (f1 ss c) = whC ss c := rfl
theorem whM_f0 (ss : List St) (c : Cr) : whM (mkOf ss c) = whC ss c := rfl
theorem wide_f (ss : List St) (c : Cr) : wideM (f2 ss c) = wdC c := rfl
/-- The reference's five lists. -/
def r1 (cs : List Cr) : List Cr := (filterZ q1 [] cs).map id
def r2 (ss : List St) (cs : List Cr) : List Cr := (filterZ (q2 ss) [] (r1 cs)).map id
def r3 (ss : List St) (cs : List Cr) : List Cr := (filterZ (q3 ss) [] (r2 ss cs)).map id
def r4 (ss : List St) (cs : List Cr) : List Cr := (filterZ (q4 ss) [] (r3 ss cs)).map (u4 ss)
def r5 (ss : List St) (cs : List Cr) : List Cr := (filterZ (q5 ss) [] (r4 ss cs)).map id
def r6 (ss : List St) (cs : List Cr) : List Cr := (filterZ q6 [] (r5 ss cs)).map (u6 ss)
theorem step1 (ss : List St) (cs : List Cr) : stepL 0 (cs.map (mkOf ss)) = (r1 cs).map (f1 ss) := by
  unfold stepL r1
  show (filterZ p1 ([].map (mkOf ss)) (cs.map (mkOf ss))).map t1 = _
  rw [filterZ_map, List.map_map, List.map_id, filterZ_congr (q := q1) (fun a x b => by unfold p1 q1; rw [hd_map]; rfl)]
  rfl
theorem step2 (ss : List St) (l : List Cr) : stepL 1 (l.map (f1 ss)) = ((filterZ (q2 ss) [] l).map id).map (f2 ss) := by
  unfold stepL
  show (filterZ p2 ([].map (f1 ss)) (l.map (f1 ss))).map t2 = _
  rw [filterZ_map, List.map_map, List.map_id, filterZ_congr (q := q2 ss) (fun a x b => by unfold p2 q2; rw [dw_map, dw_map, hd_map, hd_map]; rfl)]
  exact List.map_congr_left fun c _ => t2_f1 ss c
theorem soft_en {ss : List St} {c : Cr} (h : sfC ss c = true) : enC c = true := by unfold sfC at h; simp at h; exact h.1
theorem q3_eq (ss : List St) (a : List Cr) (x : Cr) (b : List Cr) : p3 (a.map (f2 ss)) (f2 ss x) (b.map (f2 ss)) = q3 ss a x b := by
  unfold p3 q3
  show (sfC ss x && (hd (a.map (f2 ss)) Mk.en || hd (((x :: b).map (f2 ss)).dropWhile Mk.so) Mk.en)) = _
  rw [hd_map, dw_map, hd_map]
  show (sfC ss x && (hd a enC || hd ((x :: b).dropWhile (sfC ss)) enC)) = _
  cases hx : sfC ss x
  · rfl
  · rw [Bool.true_and, Bool.true_and]
    have e : ∀ l, (x :: l).dropWhile (sfC ss) = l.dropWhile (sfC ss) := fun l => by rw [List.dropWhile_cons, if_pos hx]
    rw [e, e]
    cases a with
    | nil => simp [hd]
    | cons y a =>
      cases hy : sfC ss y
      · show (enC y || _) = (hd ((y :: a).dropWhile (sfC ss)) enC || _ || sfC ss y)
        rw [List.dropWhile_cons, if_neg (by rw [hy]; simp), hy, Bool.or_false]
        rfl
      · show (enC y || _) = (_ || _ || sfC ss y)
        rw [hy, soft_en hy, Bool.true_or, Bool.or_true]
theorem step3 (ss : List St) (l : List Cr) : stepL 2 (l.map (f2 ss)) = ((filterZ (q3 ss) [] l).map id).map (f2 ss) := by
  unfold stepL
  show (filterZ p3 ([].map (f2 ss)) (l.map (f2 ss))).map t3 = _
  rw [filterZ_map, List.map_map, List.map_id, filterZ_congr (q := q3 ss) (fun a x b => q3_eq ss a x b)]
  rfl
theorem t4_f2 (ss : List St) (c : Cr) : er (t4 (f2 ss c)) = mkOf ss (u4 ss c) := by
  unfold t4 u4
  show er (if (sfC ss c || (foldW (whOf ss c.node) && isT c 9)) = true then _ else if enC c = true then _ else _) = _
  cases h1 : sfC ss c
  · cases h2 : enC c
    · cases h3 : foldW (whOf ss c.node)
      · have h4 : whC ss c = false := by unfold whC; rw [h3]; rfl
        simp only [Bool.false_or, Bool.false_and, h4, Bool.false_eq_true, if_false]
        rfl
      · cases h5 : isT c 9
        · cases h6 : isT c 32
          · have h4 : whC ss c = false := by unfold whC; rw [h5, h6, h3]; rfl
            simp only [Bool.false_or, Bool.true_and, h4, Bool.false_eq_true, if_false]
            rfl
          · have h4 : whC ss c = true := by unfold whC; rw [h6, h3]; rfl
            have hr : c.r = 32 := by unfold isT at h6; simp at h6; exact h6.2
            simp only [Bool.false_or, Bool.true_and, h4, Bool.false_eq_true, if_false, if_true]
            obtain ⟨r0, nd, p, n, k⟩ := c
            simp only at hr
            subst hr
            rfl
        · have h4 : whC ss c = true := by unfold whC; rw [h5, h3, Bool.or_true]; rfl
          simp only [Bool.false_or, Bool.true_and, h4, Bool.false_eq_true, if_false, if_true]
          rfl
    · have h5 : isT c 9 = false := by
        unfold enC isT at h2
        unfold isT
        simp at h2 ⊢
        intro hk
        rcases h2 with h | h <;> omega
      rw [h5, Bool.and_false, Bool.or_false]
      rfl
  · rfl
theorem q4_eq (ss : List St) (a : List Cr) (x : Cr) (b : List Cr) : p4 (a.map (f2 ss)) (f2 ss x) (b.map (f2 ss)) = q4 ss a x b := by
  unfold p4 q4 goB
  rw [hd_map, hd_map, hd_map, hd_map]
  rfl
theorem step4 (ss : List St) (l : List Cr) : (stepL 3 (l.map (f2 ss))).map er = ((filterZ (q4 ss) [] l).map (u4 ss)).map (mkOf ss) := by
  unfold stepL
  show ((filterZ p4 ([].map (f2 ss)) (l.map (f2 ss))).map t4).map er = _
  rw [filterZ_map, filterZ_congr (q := q4 ss) (fun a x b => q4_eq ss a x b), List.map_map, List.map_map, List.map_map]
  exact List.map_congr_left fun c _ => t4_f2 ss c
theorem p5_er (a : List Mk) (x : Mk) (b : List Mk) : p5 (a.map er) (er x) (b.map er) = p5 a x b := by
  unfold p5
  rw [hd_map]
  rfl
theorem t5_er (m : Mk) : (t5 m).c = (t5 (er m)).c := by
  unfold t5
  show (if whM m = true then _ else if isT m.c 9 = true then _ else if isT m.c 32 = true then _ else _ : Mk).c = (if whM m = true then _ else if isT m.c 9 = true then _ else if isT m.c 32 = true then _ else _ : Mk).c
  split
  · rfl
  · split
    · rfl
    · split <;> rfl
theorem t5_f0 (ss : List St) (c : Cr) : (t5 (mkOf ss c)).c = u6 ss c := by
  unfold t5 u6
  show (if whC ss c = true then _ else if isT c 9 = true then _ else if isT c 32 = true then _ else _ : Mk).c = _
  split
  · rfl
  · split
    · rfl
    · split
      · show ({ c with kind := if whOf ss c.node = 3 then 2 else 3 } : Cr) = _
        split <;> rfl
      · rfl
theorem step5 (ss : List St) (ms : List Mk) (l : List Cr) (h : ms.map er = l.map (mkOf ss)) : (stepL 4 ms).map Mk.c = (((filterZ (q5 ss) [] l).map id)).map (u6 ss) := by
  unfold stepL
  show ((filterZ p5 [] ms).map t5).map Mk.c = _
  have e1 : (filterZ p5 [] ms).map er = filterZ p5 [] (ms.map er) := by
    rw [show filterZ p5 [] (ms.map er) = filterZ p5 ([].map er) (ms.map er) from rfl, filterZ_map, filterZ_congr (q := p5) (fun a x b => p5_er a x b)]
  have e2 : filterZ p5 [] (l.map (mkOf ss)) = (filterZ (q5 ss) [] l).map (mkOf ss) := by
    rw [show filterZ p5 [] (l.map (mkOf ss)) = filterZ p5 ([].map (mkOf ss)) (l.map (mkOf ss)) from rfl, filterZ_map, filterZ_congr (q := q5 ss) (fun a x b => by unfold p5 q5; rw [hd_map]; rfl)]
  rw [List.map_map, List.map_id]
  have e3 : (filterZ p5 [] ms).map (Mk.c ∘ t5) = ((filterZ p5 [] ms).map er).map (fun m => (t5 m).c) := by
    rw [List.map_map]
    exact List.map_congr_left fun m _ => t5_er m
  rw [e3, e1, h, e2, List.map_map]
  exact List.map_congr_left fun c _ => t5_f0 ss c
theorem filterZ_none {α : Type} : ∀ (pre l : List α), filterZ (fun _ _ _ => false) pre l = l
  | _, [] => rfl
  | pre, x :: post => by unfold filterZ; rw [if_neg (by simp), filterZ_none]
/-- What the reference leaves is what the program leaves. -/
theorem r6_eq (ss : List St) (cs : List Cr) : r6 ss cs = outL ss cs := by
  unfold outL
  show _ = (stepL 4 (stepL 3 (stepL 2 (stepL 1 (stepL 0 (cs.map (mkOf ss))))))).map Mk.c
  rw [step1, step2]
  show _ = (stepL 4 (stepL 3 (stepL 2 ((r2 ss cs).map (f2 ss))))).map Mk.c
  rw [step3]
  show _ = (stepL 4 (stepL 3 ((r3 ss cs).map (f2 ss)))).map Mk.c
  rw [step5 ss _ (r4 ss cs) (step4 ss (r3 ss cs))]
  show (filterZ q6 [] (r5 ss cs)).map (u6 ss) = (r5 ss cs).map (u6 ss)
  rw [show (q6 : List Cr → Cr → List Cr → Bool) = fun _ _ _ => false from rfl, filterZ_none]
/-! ### nodes stay in -/
theorem u4_node (ss : List St) (c : Cr) : (u4 ss c).node = c.node := by
  unfold u4
  split
  · rfl
  · split
    · rfl
    · split <;> rfl
theorem nodes_filter {nS : Nat} {cs : List Cr} (h : NodesIn nS cs) (q : List Cr → Cr → List Cr → Bool) : NodesIn nS ((filterZ q [] cs).map id) := fun c hc => h c (filterZ_sub q [] cs c (by rwa [List.map_id] at hc))
theorem nodes_u4 {nS : Nat} {cs : List Cr} {ss : List St} (h : NodesIn nS cs) (q : List Cr → Cr → List Cr → Bool) : NodesIn nS ((filterZ q [] cs).map (u4 ss)) := fun c hc => by
  obtain ⟨d, hd, rfl⟩ := List.mem_map.1 hc
  rw [u4_node]
  exact h d (filterZ_sub q [] cs d hd)
theorem nodes_ok {ss : List St} {cs : List Cr} (h : okAll ss cs = true) : NodesIn ss.length cs := fun c hc => by
  unfold okAll at h
  rw [List.all_eq_true] at h
  have := h c hc
  unfold okC at this
  simp at this
  exact ⟨this.1, this.2.1⟩
end Go.Proofs.Ytmjacmjogckihaa.White
