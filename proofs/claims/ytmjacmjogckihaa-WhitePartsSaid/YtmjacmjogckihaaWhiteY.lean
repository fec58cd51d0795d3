/- Chapter 8: plain laws of what is left: an atom parts it; what is taken out was blank; spaces stand alone. No condition. -/
import Derived.Test.YtmjacmjogckihaaWhiteO
namespace Go.Proofs.Ytmjacmjogckihaa.White
open Go.RowKit
set_option linter.unusedVariables false
set_option linter.unusedSimpArgs false

/-! ### an atom parts a list -/
theorem filterZ_pre {α : Type} (p : List α → α → List α → Bool) (a : α) (h3 : ∀ pre pre' x post, p (pre ++ a :: pre') x post = p pre x post) (pre' : List α) : ∀ (q m : List α), filterZ p (q ++ a :: pre') m = filterZ p q m
  | _, [] => rfl
  | q, x :: m => by
    have ih := filterZ_pre p a h3 pre' (x :: q) m
    rw [List.cons_append] at ih
    unfold filterZ
    rw [h3, ih]
theorem filterZ_cut {α : Type} (p : List α → α → List α → Bool) (a : α) (m : List α) (h1 : ∀ pre post, p pre a post = false) (h2 : ∀ pre x post, p pre x (post ++ a :: m) = p pre x post) (h3 : ∀ pre pre' x post, p (pre ++ a :: pre') x post = p pre x post) :
    ∀ (pre l : List α), filterZ p pre (l ++ a :: m) = filterZ p pre l ++ a :: filterZ p [] m
  | pre, [] => by
    rw [List.nil_append]
    show (if p pre a m = true then _ else _) = _
    rw [h1, if_neg (by simp)]
    have := filterZ_pre p a h3 pre [] m
    rw [List.nil_append] at this
    rw [this]
    rfl
  | pre, x :: l => by
    have ih := filterZ_cut p a m h1 h2 h3 (x :: pre) l
    rw [List.cons_append]
    show (if p pre x (l ++ a :: m) = true then filterZ p (x :: pre) (l ++ a :: m) else x :: filterZ p (x :: pre) (l ++ a :: m)) = (if p pre x l = true then filterZ p (x :: pre) l else x :: filterZ p (x :: pre) l) ++ _
    rw [h2, ih]
    split <;> rfl
theorem hd_cut {α : Type} (f : α → Bool) (a : α) (h : f a = false) (l m : List α) : hd (l ++ a :: m) f = hd l f := by
  cases l with
  | nil => show (some a).any f = false; simpa using h
  | cons x l => rfl
theorem hd_dw {α : Type} (f g : α → Bool) (a : α) (h : f a = false) (hg : g a = false) (m : List α) : ∀ l : List α, hd ((l ++ a :: m).dropWhile g) f = hd (l.dropWhile g) f
  | [] => by
    rw [List.nil_append, List.dropWhile_cons, if_neg (by rw [hg]; simp)]
    show (some a).any f = false
    simpa using h
  | x :: l => by
    rw [List.cons_append, List.dropWhile_cons, List.dropWhile_cons]
    split
    · exact hd_dw f g a h hg m l
    · rfl
theorem isT_no {a : Cr} (h : ¬ a.kind = 0) (r : Int) : isT a r = false := by unfold isT; rw [decide_eq_false h]; rfl
theorem enC_no {a : Cr} (h : ¬ a.kind = 0) : enC a = false := by unfold enC; rw [isT_no h, isT_no h]; rfl
theorem whC_no (ss : List St) {a : Cr} (h : ¬ a.kind = 0) : whC ss a = false := by unfold whC; rw [isT_no h, isT_no h]; simp
theorem sfC_no (ss : List St) {a : Cr} (h : ¬ a.kind = 0) : sfC ss a = false := by unfold sfC; rw [enC_no h]; rfl
theorem wdC_no {a : Cr} (h : ¬ a.kind = 0) : wdC a = false := by unfold wdC; rw [decide_eq_false h]; rfl
theorem u4_no (ss : List St) {a : Cr} (h : ¬ a.kind = 0) : u4 ss a = a := by unfold u4; rw [sfC_no ss h, enC_no h, whC_no ss h]; rfl
theorem u6_no (ss : List St) {a : Cr} (h : ¬ a.kind = 0) : u6 ss a = a := by unfold u6; rw [whC_no ss h, isT_no h, isT_no h]; rfl
theorem r6_cut (ss : List St) (a : Cr) (h : ¬ a.kind = 0) (l m : List Cr) : r6 ss (l ++ a :: m) = r6 ss l ++ a :: r6 ss m := by
  have k1 : r1 (l ++ a :: m) = r1 l ++ a :: r1 m := by
    unfold r1
    rw [filterZ_cut q1 a m (fun _ _ => by unfold q1; rw [isT_no h]; rfl) (fun _ _ _ => by unfold q1; rw [hd_cut _ a (isT_no h _)]) (fun _ _ _ _ => rfl)]
    simp
  have k2 : r2 ss (l ++ a :: m) = r2 ss l ++ a :: r2 ss m := by
    unfold r2
    rw [k1, filterZ_cut (q2 ss) a (r1 m) (fun _ _ => by unfold q2; rw [whC_no ss h]; rfl) (fun _ _ _ => by unfold q2; rw [hd_dw _ _ a (enC_no h) (whC_no ss h)]) (fun _ _ _ _ => by unfold q2; rw [hd_dw _ _ a (enC_no h) (whC_no ss h)])]
    simp
  have k3 : r3 ss (l ++ a :: m) = r3 ss l ++ a :: r3 ss m := by
    unfold r3
    rw [k2, filterZ_cut (q3 ss) a (r2 ss m) (fun _ _ => by unfold q3; rw [sfC_no ss h]; rfl)
      (fun p x b => by unfold q3; have := hd_dw enC (sfC ss) a (enC_no h) (sfC_no ss h) (r2 ss m) (x :: b); rw [List.cons_append] at this; rw [this])
      (fun p p' x b => by unfold q3; have := hd_dw enC (sfC ss) a (enC_no h) (sfC_no ss h) p' (x :: p); rw [List.cons_append] at this; rw [this, hd_cut _ a (sfC_no ss h)])]
    simp
  have k4 : r4 ss (l ++ a :: m) = r4 ss l ++ a :: r4 ss m := by
    unfold r4
    rw [k3, filterZ_cut (q4 ss) a (r3 ss m) (fun _ _ => by unfold q4; rw [sfC_no ss h]; rfl)
      (fun p x b => by unfold q4 goB; rw [hd_cut _ a (isT_no h _), hd_cut _ a (wdC_no h)])
      (fun p p' x b => by unfold q4 goB; rw [hd_cut _ a (isT_no h _), hd_cut _ a (wdC_no h)])]
    simp [u4_no ss h]
  have k5 : r5 ss (l ++ a :: m) = r5 ss l ++ a :: r5 ss m := by
    unfold r5
    rw [k4, filterZ_cut (q5 ss) a (r4 ss m) (fun _ _ => by unfold q5; rw [whC_no ss h]; rfl) (fun _ _ _ => rfl) (fun _ _ _ _ => by unfold q5; rw [hd_cut _ a (whC_no ss h)])]
    simp
  unfold r6
  rw [k5, filterZ_cut q6 a (r5 ss m) (fun _ _ => rfl) (fun _ _ _ => rfl) (fun _ _ _ _ => rfl)]
  simp [u6_no ss h]
theorem out_cut (ss : List St) (a : Cr) (h : ¬ a.kind = 0) (l m : List Cr) : outL ss (l ++ a :: m) = outL ss l ++ a :: outL ss m := by rw [← r6_eq, ← r6_eq, ← r6_eq, r6_cut ss a h]
theorem okAll_app (ss : List St) (l m : List Cr) : okAll ss (l ++ m) = (okAll ss l && okAll ss m) := by unfold okAll; rw [List.all_append]
theorem okAll_cut (ss : List St) (a : Cr) (l m : List Cr) (h1 : okAll ss l = true) (h2 : okAll ss m = true) (h : okC ss a = true) : okAll ss (l ++ a :: m) = true := by
  rw [okAll_app, h1]
  unfold okAll at h2 ⊢
  rw [List.all_cons, h, h2]; rfl

/-! ### what is taken out was blank; what was not is what it was -/
def blankB (c : Cr) : Bool := decide (c.kind = 0) && (decide (c.r = 32) || (decide (c.r = 9) || (decide (c.r = 10) || decide (c.r = 13))))
inductive Emb : List Cr → List Cr → Prop
  | nil : Emb [] []
  | out {x : Cr} {l z : List Cr} : blankB x = true → Emb l z → Emb (x :: l) z
  | keep {x y : Cr} {l z : List Cr} : x.node = y.node → x.p = y.p → x.n = y.n → (blankB x = false → y = x) → Emb l z → Emb (x :: l) (y :: z)
theorem Emb.mem {l z : List Cr} (h : Emb l z) : ∀ y, y ∈ z → ∃ x, x ∈ l ∧ x.node = y.node ∧ x.p = y.p := by
  induction h with
  | nil => intro y hy; cases hy
  | out hb _ ih =>
    intro y hy
    obtain ⟨x, hx, h⟩ := ih y hy
    exact ⟨x, List.mem_cons_of_mem _ hx, h⟩
  | @keep x0 y0 l z h1 h2 h3 h4 _ ih =>
    intro y hy
    rcases List.mem_cons.1 hy with rfl | hy
    · exact ⟨x0, List.mem_cons_self, h1, h2⟩
    · obtain ⟨x, hx, h⟩ := ih y hy
      exact ⟨x, List.mem_cons_of_mem _ hx, h⟩
theorem Emb.filter (p : List Cr → Cr → List Cr → Bool) (hp : ∀ a x b, p a x b = true → blankB x = true) : ∀ (pre l : List Cr), Emb l (filterZ p pre l)
  | _, [] => .nil
  | pre, x :: l => by
    have ih := Emb.filter p hp (x :: pre) l
    show Emb (x :: l) (if p pre x l = true then filterZ p (x :: pre) l else x :: filterZ p (x :: pre) l)
    split
    · rename_i h; exact .out (hp _ _ _ h) ih
    · exact .keep rfl rfl rfl (fun _ => rfl) ih
theorem Emb.turn (u : Cr → Cr) (h1 : ∀ c, (u c).node = c.node) (h2 : ∀ c, (u c).p = c.p) (h3 : ∀ c, (u c).n = c.n) (h4 : ∀ c, blankB c = false → u c = c) : ∀ l : List Cr, Emb l (l.map u)
  | [] => .nil
  | x :: l => .keep (h1 x).symm (h2 x).symm (h3 x).symm (h4 x) (Emb.turn u h1 h2 h3 h4 l)
theorem Emb.trans {a b : List Cr} (h : Emb a b) : ∀ {c : List Cr}, Emb b c → Emb a c := by
  induction h with
  | nil => exact fun h => h
  | out hb _ ih => exact fun h => .out hb (ih h)
  | @keep x y l z e1 e2 e3 e4 _ ih =>
    intro c h
    generalize hyz : y :: z = yz at h
    cases h with
    | nil => cases hyz
    | out hb h =>
      injection hyz with i1 i2
      subst i1 i2
      refine .out ?_ (ih h)
      cases hx : blankB x with
      | true => rfl
      | false => rw [e4 hx, hx] at hb; exact hb
    | keep f1 f2 f3 f4 h =>
      injection hyz with i1 i2
      subst i1 i2
      refine .keep (e1.trans f1) (e2.trans f2) (e3.trans f3) (fun hx => ?_) (ih h)
      have e := e4 hx
      rw [e] at f4
      exact f4 hx
theorem isT_kind {c : Cr} {r : Int} (h : isT c r = true) : c.kind = 0 ∧ c.r = r := by unfold isT at h; simpa using h
theorem blank_of {c : Cr} {r : Int} (h : isT c r = true) (hr : r = 32 ∨ r = 9 ∨ r = 10 ∨ r = 13) : blankB c = true := by
  obtain ⟨h1, h2⟩ := isT_kind h
  unfold blankB
  rw [h1, h2]
  rcases hr with rfl | rfl | rfl | rfl <;> rfl
theorem blank_en {c : Cr} (h : enC c = true) : blankB c = true := by
  unfold enC at h
  rcases Bool.or_eq_true_iff.1 h with h | h
  · exact blank_of h (by omega)
  · exact blank_of h (by omega)
theorem blank_wh {ss : List St} {c : Cr} (h : whC ss c = true) : blankB c = true := by
  unfold whC at h
  rcases Bool.or_eq_true_iff.1 (Bool.and_eq_true_iff.1 h).2 with h | h
  · exact blank_of h (by omega)
  · exact blank_of h (by omega)
theorem sf_en {ss : List St} {c : Cr} (h : sfC ss c = true) : enC c = true := (Bool.and_eq_true_iff.1 h).1
theorem u4_p (ss : List St) (c : Cr) : (u4 ss c).p = c.p ∧ (u4 ss c).n = c.n := by
  unfold u4
  split
  · exact ⟨rfl, rfl⟩
  · split
    · exact ⟨rfl, rfl⟩
    · split <;> exact ⟨rfl, rfl⟩
theorem u6_p (ss : List St) (c : Cr) : (u6 ss c).node = c.node ∧ (u6 ss c).p = c.p ∧ (u6 ss c).n = c.n := by
  unfold u6
  split
  · exact ⟨rfl, rfl, rfl⟩
  · split
    · exact ⟨rfl, rfl, rfl⟩
    · split
      · split <;> exact ⟨rfl, rfl, rfl⟩
      · exact ⟨rfl, rfl, rfl⟩
theorem u4_same (ss : List St) (c : Cr) (h : blankB c = false) : u4 ss c = c := by
  unfold u4
  split
  · rename_i g; rw [blank_en (sf_en g)] at h; cases h
  · split
    · rename_i g; rw [blank_en g] at h; cases h
    · split
      · rename_i g; rw [blank_wh g] at h; cases h
      · rfl
theorem u6_same (ss : List St) (c : Cr) (h : blankB c = false) : u6 ss c = c := by
  unfold u6
  split
  · rename_i g; rw [blank_wh g] at h; cases h
  · split
    · rename_i g; rw [blank_of g (by omega)] at h; cases h
    · split
      · rename_i g; rw [blank_of g (by omega)] at h; cases h
      · rfl
theorem emb_r4 (ss : List St) (cs : List Cr) : Emb cs (r4 ss cs) := by
  have e1 : Emb cs (r1 cs) := by
    unfold r1; rw [List.map_id]
    exact Emb.filter q1 (fun a x b h => blank_of (Bool.and_eq_true_iff.1 h).1 (by omega)) [] cs
  have e2 : Emb (r1 cs) (r2 ss cs) := by
    unfold r2; rw [List.map_id]
    exact Emb.filter (q2 ss) (fun a x b h => blank_wh (Bool.and_eq_true_iff.1 h).1) [] _
  have e3 : Emb (r2 ss cs) (r3 ss cs) := by
    unfold r3; rw [List.map_id]
    exact Emb.filter (q3 ss) (fun a x b h => blank_en (sf_en (Bool.and_eq_true_iff.1 h).1)) [] _
  have e4 : Emb (r3 ss cs) (r4 ss cs) := by
    unfold r4
    exact (Emb.filter (q4 ss) (fun a x b h => blank_en (sf_en (Bool.and_eq_true_iff.1 h).1)) [] _).trans (Emb.turn (u4 ss) (u4_node ss) (fun c => (u4_p ss c).1) (fun c => (u4_p ss c).2) (u4_same ss) _)
  exact e1.trans (e2.trans (e3.trans e4))
theorem emb_r6 (ss : List St) (cs : List Cr) : Emb cs (r6 ss cs) := by
  have e5 : Emb (r4 ss cs) (r5 ss cs) := by
    unfold r5; rw [List.map_id]
    exact Emb.filter (q5 ss) (fun a x b h => blank_wh (Bool.and_eq_true_iff.1 h).1) [] _
  have e6 : Emb (r5 ss cs) (r6 ss cs) := by
    unfold r6
    exact (Emb.filter q6 (fun a x b h => by cases h) [] _).trans (Emb.turn (u6 ss) (fun c => (u6_p ss c).1) (fun c => (u6_p ss c).2.1) (fun c => (u6_p ss c).2.2) (u6_same ss) _)
  exact (emb_r4 ss cs).trans (e5.trans e6)
theorem emb_out (ss : List St) (cs : List Cr) : Emb cs (outL ss cs) := by rw [← r6_eq]; exact emb_r6 ss cs
/-- No two have the same node and place. -/
def sameP (x y : Cr) : Bool := decide (x.node = y.node) && decide (x.p = y.p)
def Once (l : List Cr) : Prop := l.Pairwise fun x y => sameP x y = false
/-- One step of the walk along both lists. -/
theorem emb_step {x : Cr} {l z : List Cr} (h : Emb (x :: l) z) (ho : Once (x :: l)) :
    (∃ y z', z = y :: z' ∧ x.node = y.node ∧ x.p = y.p ∧ x.n = y.n ∧ (blankB x = false → y = x) ∧ Emb l z') ∨ ((∀ y, z.head? = some y → sameP y x = false) ∧ blankB x = true ∧ Emb l z) := by
  generalize hxl : x :: l = xl at h
  cases h with
  | nil => cases hxl
  | out hb h =>
    injection hxl with i1 i2
    subst i1 i2
    refine .inr ⟨fun y hy => ?_, hb, h⟩
    have hm : y ∈ z := by cases z with
      | nil => cases hy
      | cons y0 z => injection hy with hy; rw [hy]; exact List.mem_cons_self
    obtain ⟨x', hx', e1, e2⟩ := h.mem y hm
    have := (List.pairwise_cons.1 ho).1 x' hx'
    unfold sameP at this ⊢
    rw [e1, e2] at this
    simp only [Bool.and_eq_false_iff, decide_eq_false_iff_not] at this ⊢
    omega
  | keep f1 f2 f3 f4 h =>
    injection hxl with i1 i2
    subst i1 i2
    exact .inl ⟨_, _, rfl, f1, f2, f3, f4, h⟩
theorem Once.tail {x : Cr} {l : List Cr} (h : Once (x :: l)) : Once l := (List.pairwise_cons.1 h).2
end Go.Proofs.Ytmjacmjogckihaa.White
