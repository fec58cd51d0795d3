/- Chapter 8: plain laws of what is left: spaces stand alone; once is as twice; what is kept. No condition. -/
import Derived.Test.YtmjacmjogckihaaWhiteY
namespace Go.Proofs.Ytmjacmjogckihaa.White
open Go.RowKit
set_option linter.unusedVariables false
set_option linter.unusedSimpArgs false

/-! ### what stands beside -/
def Ch {α : Type} (R : α → α → Prop) : List α → Prop
  | [] => True
  | [_] => True
  | x :: y :: l => R x y ∧ Ch R (y :: l)
theorem Ch.tail {α : Type} {R : α → α → Prop} {x : α} {l : List α} (h : Ch R (x :: l)) : Ch R l := by
  cases l with
  | nil => trivial
  | cons y l => exact h.2
theorem Ch.imp {α : Type} {R S : α → α → Prop} (f : ∀ x y, R x y → S x y) : ∀ l : List α, Ch R l → Ch S l
  | [], _ => trivial
  | [_], _ => trivial
  | x :: y :: l, h => ⟨f _ _ h.1, Ch.imp f (y :: l) h.2⟩
theorem Ch.and {α : Type} {R S : α → α → Prop} : ∀ l : List α, Ch R l → Ch S l → Ch (fun x y => R x y ∧ S x y) l
  | [], _, _ => trivial
  | [_], _, _ => trivial
  | x :: y :: l, h, k => ⟨⟨h.1, k.1⟩, Ch.and (y :: l) h.2 k.2⟩
theorem Ch.map {α β : Type} {R : β → β → Prop} (f : α → β) : ∀ l : List α, Ch (fun x y => R (f x) (f y)) l → Ch R (l.map f)
  | [], _ => trivial
  | [_], _ => trivial
  | x :: y :: l, h => ⟨h.1, Ch.map f (y :: l) h.2⟩
theorem Ch.at_ {α : Type} {R : α → α → Prop} : ∀ (l : List α) (j : Nat) (x y : α), Ch R l → l[j]? = some x → l[j + 1]? = some y → R x y
  | [], j, x, y, _, h, _ => by simp at h
  | [a], j, x, y, _, _, h => by simp at h
  | a :: b :: l, 0, x, y, h, h1, h2 => by
    simp at h1 h2
    subst h1 h2
    exact h.1
  | a :: b :: l, j + 1, x, y, h, h1, h2 => Ch.at_ (b :: l) j x y h.2 (by simpa using h1) (by simpa using h2)
/-- Of those that are left, two stand beside one another: all between was taken out. -/
theorem ch_from {α : Type} (R : α → α → Prop) (D : α → Prop) (p : List α → α → List α → Bool) (hD : ∀ a x b, p a x b = true → D x)
    (h : ∀ a y M x b, (∀ e ∈ M, D e) → p a y (M ++ x :: b) = false → p (M.reverse ++ y :: a) x b = false → R y x) :
    ∀ (l M : List α) (a : List α) (y : α), (∀ e ∈ M, D e) → p a y (M ++ l) = false → Ch R (y :: filterZ p (M.reverse ++ y :: a) l)
  | [], M, a, y, _, _ => trivial
  | x :: l, M, a, y, hM, hy => by
    show Ch R (y :: (if p (M.reverse ++ y :: a) x l = true then filterZ p (x :: (M.reverse ++ y :: a)) l else x :: filterZ p (x :: (M.reverse ++ y :: a)) l))
    split
    · rename_i hx
      have := ch_from R D p hD h l (M ++ [x]) a y (fun e he => by
        rcases List.mem_append.1 he with he | he
        · exact hM e he
        · rw [List.mem_singleton.1 he]; exact hD _ _ _ hx) (by rw [List.append_assoc]; exact hy)
      rw [List.reverse_append] at this
      exact this
    · rename_i hx
      have hx : p (M.reverse ++ y :: a) x l = false := by simpa using hx
      refine ⟨h a y M x l hM hy hx, ?_⟩
      exact ch_from R D p hD h l [] (M.reverse ++ y :: a) x (fun e he => by cases he) hx
theorem ch_filter {α : Type} (R : α → α → Prop) (D : α → Prop) (p : List α → α → List α → Bool) (hD : ∀ a x b, p a x b = true → D x)
    (h : ∀ a y M x b, (∀ e ∈ M, D e) → p a y (M ++ x :: b) = false → p (M.reverse ++ y :: a) x b = false → R y x) : ∀ (pre l : List α), Ch R (filterZ p pre l)
  | _, [] => trivial
  | pre, x :: l => by
    show Ch R (if p pre x l = true then filterZ p (x :: pre) l else x :: filterZ p (x :: pre) l)
    split
    · exact ch_filter R D p hD h _ l
    · rename_i hx
      exact ch_from R D p hD h l [] pre x (fun e he => by cases he) (by simpa using hx)
/-- What does not hang on those that are taken out stays. -/
theorem ch_keep_from {α : Type} (R : α → α → Prop) (D : α → Prop) (p : List α → α → List α → Bool) (hD : ∀ a x b, p a x b = true → D x) (ht : ∀ x e y, D e → R x e → R e y → R x y) :
    ∀ (l pre : List α) (y : α), Ch R (y :: l) → Ch R (y :: filterZ p pre l)
  | [], pre, y, _ => trivial
  | x :: l, pre, y, hc => by
    show Ch R (y :: (if p pre x l = true then filterZ p (x :: pre) l else x :: filterZ p (x :: pre) l))
    split
    · rename_i hx
      refine ch_keep_from R D p hD ht l _ y ?_
      cases l with
      | nil => trivial
      | cons z l => exact ⟨ht y x z (hD _ _ _ hx) hc.1 hc.2.1, hc.2.2⟩
    · exact ⟨hc.1, ch_keep_from R D p hD ht l _ x hc.2⟩
theorem ch_keep {α : Type} (R : α → α → Prop) (D : α → Prop) (p : List α → α → List α → Bool) (hD : ∀ a x b, p a x b = true → D x) (ht : ∀ x e y, D e → R x e → R e y → R x y) :
    ∀ (l pre : List α), Ch R l → Ch R (filterZ p pre l)
  | [], pre, _ => trivial
  | x :: l, pre, hc => by
    show Ch R (if p pre x l = true then filterZ p (x :: pre) l else x :: filterZ p (x :: pre) l)
    split
    · exact ch_keep R D p hD ht l _ hc.tail
    · exact ch_keep_from R D p hD ht l _ x hc
/-- Nothing is taken out. -/
theorem filterZ_all {α : Type} (R : α → α → Prop) (p : List α → α → List α → Bool) (h : ∀ a x b, (∀ y, a.head? = some y → R y x) → (∀ y, b.head? = some y → R x y) → p a x b = false) :
    ∀ (l pre : List α), (∀ y x, pre.head? = some y → l.head? = some x → R y x) → Ch R l → filterZ p pre l = l
  | [], _, _, _ => rfl
  | x :: l, pre, hp, hc => by
    show (if p pre x l = true then filterZ p (x :: pre) l else x :: filterZ p (x :: pre) l) = _
    rw [h pre x l (fun y hy => hp y x hy rfl) (fun y hy => by
      cases l with
      | nil => cases hy
      | cons z l => injection hy with hy; subst hy; exact hc.1), if_neg (by simp)]
    rw [filterZ_all R p h l (x :: pre) (fun y z hy hz => by
      injection hy with hy
      subst hy
      cases l with
      | nil => cases hz
      | cons z' l => injection hz with hz; subst hz; exact hc.1) hc.tail]

/-! ### spaces stand alone -/
theorem wh_en {ss : List St} {c : Cr} (h : whC ss c = true) : enC c = false := by
  unfold whC at h
  have h := (Bool.and_eq_true_iff.1 h).2
  unfold enC
  rcases Bool.or_eq_true_iff.1 h with h | h <;> · obtain ⟨h1, h2⟩ := isT_kind h; unfold isT; rw [h1, h2]; rfl
theorem hd_cons {α : Type} (x : α) (l : List α) (f : α → Bool) : hd (x :: l) f = f x := rfl
theorem dw_all {α : Type} (g : α → Bool) (M : List α) (h : ∀ e ∈ M, g e = true) (l : List α) : (M ++ l).dropWhile g = l.dropWhile g := by
  induction M with
  | nil => rfl
  | cons x M ih =>
    rw [List.cons_append, List.dropWhile_cons, if_pos (h x List.mem_cons_self)]
    exact ih fun e he => h e (List.mem_cons_of_mem _ he)
theorem dw_stop {α : Type} (g : α → Bool) (x : α) (l : List α) (h : g x = false) : (x :: l).dropWhile g = x :: l := by rw [List.dropWhile_cons, if_neg (by rw [h]; simp)]
theorem hd_rev {α : Type} (f : α → Bool) (M : List α) (y : α) (a : List α) (h : ∀ e ∈ M, f e = true) (hy : f y = true) : hd (M.reverse ++ y :: a) f = true := by
  cases hM : M.reverse with
  | nil => exact hy
  | cons z N => exact h z (List.mem_reverse.1 (by rw [hM]; exact List.mem_cons_self))
theorem ch_r2 (ss : List St) (cs : List Cr) : Ch (fun x y => (whC ss x = true → enC y = false) ∧ (whC ss y = true → enC x = false)) (r2 ss cs) := by
  unfold r2
  rw [List.map_id]
  refine ch_filter _ (fun c => whC ss c = true) (q2 ss) (fun a x b h => (Bool.and_eq_true_iff.1 h).1) (fun a y M x b hM h1 h2 => ⟨fun hw => ?_, fun hw => ?_⟩) [] _
  · cases he : enC x with
    | false => rfl
    | true =>
      have hx : whC ss x = false := by cases g : whC ss x with
        | false => rfl
        | true => rw [wh_en g] at he; cases he
      unfold q2 at h1
      rw [dw_all _ M hM, dw_stop _ _ _ hx, hd_cons, he, hw] at h1
      simp at h1
  · cases he : enC y with
    | false => rfl
    | true =>
      have hx : whC ss y = false := by cases g : whC ss y with
        | false => rfl
        | true => rw [wh_en g] at he; cases he
      unfold q2 at h2
      rw [dw_all _ M.reverse (fun e h => hM e (List.mem_reverse.1 h)), dw_stop _ _ _ hx, hd_cons, he, hw] at h2
      simp at h2
theorem ch_r3 (ss : List St) (cs : List Cr) : Ch (fun x y => ((whC ss x = true ∨ sfC ss x = true) → enC y = false) ∧ ((whC ss y = true ∨ sfC ss y = true) → enC x = false)) (r3 ss cs) := by
  have h2 := ch_r2 ss cs
  have e1 : Ch (fun x y => (whC ss x = true → enC y = false) ∧ (whC ss y = true → enC x = false)) (r3 ss cs) := by
    unfold r3
    rw [List.map_id]
    refine ch_keep _ (fun c => sfC ss c = true) (q3 ss) (fun a x b h => (Bool.and_eq_true_iff.1 h).1) (fun x e y he h k => ⟨fun hw => ?_, fun hw => ?_⟩) _ [] h2
    · have := h.1 hw; rw [sf_en he] at this; cases this
    · have := k.2 hw; rw [sf_en he] at this; cases this
  have e2 : Ch (fun x y => (sfC ss x = true → enC y = false) ∧ (sfC ss y = true → enC x = false)) (r3 ss cs) := by
    unfold r3
    rw [List.map_id]
    have key : ∀ a y (M : List Cr) x b, (∀ e ∈ M, sfC ss e = true) → q3 ss a y (M ++ x :: b) = false → q3 ss (M.reverse ++ y :: a) x b = false → ¬ (sfC ss y = true ∧ sfC ss x = true) := by
      intro a y M x b hM h1 h2 ⟨k1, k2⟩
      unfold q3 at h2
      rw [k2, hd_rev _ M y a hM k1] at h2
      simp at h2
    refine ch_filter _ (fun c => sfC ss c = true) (q3 ss) (fun a x b h => (Bool.and_eq_true_iff.1 h).1) (fun a y M x b hM h1 h2 => ⟨fun hw => ?_, fun hw => ?_⟩) [] _
    · cases he : enC x with
      | false => rfl
      | true =>
        have hx : sfC ss x = false := by cases g : sfC ss x with
          | false => rfl
          | true => exact absurd ⟨hw, g⟩ (key a y M x b hM h1 h2)
        unfold q3 at h1
        have := dw_all (sfC ss) (y :: M) (fun e h => by rcases List.mem_cons.1 h with rfl | h; exact hw; exact hM e h) (x :: b)
        rw [List.cons_append] at this
        rw [this, dw_stop _ _ _ hx, hd_cons, he, hw] at h1
        simp at h1
    · cases he : enC y with
      | false => rfl
      | true =>
        have hx : sfC ss y = false := by cases g : sfC ss y with
          | false => rfl
          | true => exact absurd ⟨g, hw⟩ (key a y M x b hM h1 h2)
        unfold q3 at h2
        have := dw_all (sfC ss) (x :: M.reverse) (fun e h => by rcases List.mem_cons.1 h with rfl | h; exact hw; exact hM e (List.mem_reverse.1 h)) (y :: a)
        rw [List.cons_append] at this
        rw [this, dw_stop _ _ _ hx, hd_cons, he, hw] at h2
        simp at h2
  refine Ch.imp (fun x y h => ⟨fun g => ?_, fun g => ?_⟩) _ (Ch.and _ e1 e2)
  · rcases g with g | g
    · exact h.1.1 g
    · exact h.2.1 g
  · rcases g with g | g
    · exact h.1.2 g
    · exact h.2.2 g
def brk (c : Cr) : Bool := decide (c.kind = 5) && decide (c.r = 10)
/-- What is known of each that was let in: a break that a node makes has R 0. -/
def In (c : Cr) : Prop := (c.kind = 0 ∨ c.kind = 5 ∨ c.kind = 6) ∧ (c.kind = 5 → c.r = 0)
theorem whC_parts {ss : List St} {c : Cr} (h : whC ss c = true) : foldW (whOf ss c.node) = true ∧ c.kind = 0 ∧ (c.r = 32 ∨ c.r = 9) := by
  unfold whC at h
  obtain ⟨h1, h2⟩ := Bool.and_eq_true_iff.1 h
  rcases Bool.or_eq_true_iff.1 h2 with h2 | h2
  · exact ⟨h1, (isT_kind h2).1, .inl (isT_kind h2).2⟩
  · exact ⟨h1, (isT_kind h2).1, .inr (isT_kind h2).2⟩
/-- After the turn: each is a soft space, a break, white, or what it was. -/
theorem u4_cases (ss : List St) (c : Cr) (hI : In c) :
    (whC ss (u4 ss c) = true → whC ss c = true ∨ sfC ss c = true) ∧ (brk (u4 ss c) = true → enC c = true) ∧ enC (u4 ss c) = false ∧ ((u4 ss c).kind = 5 → (u4 ss c).r = 0 ∨ (u4 ss c).r = 10 ∧ ¬ whOf ss (u4 ss c).node = 0 ∧ ¬ whOf ss (u4 ss c).node = 1) ∧ ((u4 ss c).kind = 0 ∨ (u4 ss c).kind = 5 ∨ (u4 ss c).kind = 6) ∧ (whC ss (u4 ss c) = true → (u4 ss c).r = 32) := by
  obtain ⟨hk, hr⟩ := hI
  unfold u4
  split
  · rename_i h
    have h0 : c.kind = 0 := by
      have := sf_en h
      unfold enC at this
      rcases Bool.or_eq_true_iff.1 this with g | g <;> exact (isT_kind g).1
    refine ⟨fun _ => .inr h, fun _ => sf_en h, ?_, fun g => ?_, .inl h0, fun _ => rfl⟩
    · unfold enC isT; simp
    · exact absurd (h0.symm.trans g) (by decide)
  · rename_i hs
    have hs : sfC ss c = false := by simpa using hs
    split
    · rename_i h
      refine ⟨fun g => ?_, fun _ => h, ?_, fun g => .inr ⟨rfl, ?_⟩, .inr (.inl rfl), fun g => ?_⟩
      · have := (whC_parts g).2.1; cases this
      · unfold enC isT; simp
      · unfold sfC at hs
        rw [h, Bool.true_and] at hs
        simpa using hs
      · have := (whC_parts g).2.1; cases this
    · rename_i he
      have he : enC c = false := by simpa using he
      split
      · rename_i h
        have h0 := (whC_parts h).2.1
        refine ⟨fun _ => .inl h, fun g => ?_, ?_, fun g => ?_, .inl h0, fun _ => rfl⟩
        · unfold brk at g
          simp at g
        · unfold enC isT; simp
        · exact absurd (h0.symm.trans g) (by decide)
      · rename_i h
        refine ⟨fun g => .inl g, fun g => ?_, he, fun g => .inl (hr g), hk, fun g => absurd g h⟩
        unfold brk at g
        simp at g
        have := hr g.1
        omega
theorem In_sub {cs l : List Cr} (hI : ∀ c ∈ cs, In c) (h : ∀ c ∈ l, c ∈ cs) : ∀ c ∈ l, In c := fun c hc => hI c (h c hc)
theorem r3_sub (ss : List St) (cs : List Cr) : ∀ c ∈ filterZ (q4 ss) [] (r3 ss cs), c ∈ cs := by
  intro c hc
  have h3 := filterZ_sub _ _ _ c hc
  unfold r3 at h3; rw [List.map_id] at h3
  have h2 := filterZ_sub _ _ _ c h3
  unfold r2 at h2; rw [List.map_id] at h2
  have h1 := filterZ_sub _ _ _ c h2
  unfold r1 at h1; rw [List.map_id] at h1
  exact filterZ_sub _ _ _ c h1
theorem Ch.mapIn {α β : Type} {P : α → Prop} {R : α → α → Prop} {S : β → β → Prop} (f : α → β) (hf : ∀ x y, P x → P y → R x y → S (f x) (f y)) : ∀ l : List α, (∀ x ∈ l, P x) → Ch R l → Ch S (l.map f)
  | [], _, _ => trivial
  | [_], _, _ => trivial
  | x :: y :: l, hP, h => ⟨hf x y (hP x (by simp)) (hP y (by simp)) h.1, Ch.mapIn f hf (y :: l) (fun z hz => hP z (List.mem_cons_of_mem _ hz)) h.2⟩
theorem ch_r4 (ss : List St) (cs : List Cr) (hI : ∀ c ∈ cs, In c) : Ch (fun x y => (whC ss x = true → brk y = false) ∧ (whC ss y = true → brk x = false)) (r4 ss cs) := by
  have e : Ch (fun x y => ((whC ss x = true ∨ sfC ss x = true) → enC y = false) ∧ ((whC ss y = true ∨ sfC ss y = true) → enC x = false)) (filterZ (q4 ss) [] (r3 ss cs)) := by
    refine ch_keep _ (fun c => sfC ss c = true) (q4 ss) (fun a x b h => (Bool.and_eq_true_iff.1 h).1) (fun x e y he h k => ⟨fun hw => ?_, fun hw => ?_⟩) _ [] (ch_r3 ss cs)
    · have := h.1 hw; rw [sf_en he] at this; cases this
    · have := k.2 hw; rw [sf_en he] at this; cases this
  unfold r4
  refine Ch.mapIn (P := In) (u4 ss) (fun x y hx hy h => ⟨fun hw => ?_, fun hw => ?_⟩) _ (In_sub hI (r3_sub ss cs)) e
  · cases g : brk (u4 ss y) with
    | false => rfl
    | true => have := h.1 ((u4_cases ss x hx).1 hw); rw [(u4_cases ss y hy).2.1 g] at this; cases this
  · cases g : brk (u4 ss x) with
    | false => rfl
    | true => have := h.2 ((u4_cases ss y hy).1 hw); rw [(u4_cases ss x hx).2.1 g] at this; cases this
theorem wh_brk {ss : List St} {c : Cr} (h : whC ss c = true) : brk c = false := by
  unfold brk
  rw [(whC_parts h).2.1]; rfl
theorem ch_r5 (ss : List St) (cs : List Cr) (hI : ∀ c ∈ cs, In c) : Ch (fun x y => (whC ss x = true → brk y = false ∧ whC ss y = false) ∧ (whC ss y = true → brk x = false)) (r5 ss cs) := by
  unfold r5
  rw [List.map_id]
  have e1 : Ch (fun x y => (whC ss x = true → brk y = false) ∧ (whC ss y = true → brk x = false)) (filterZ (q5 ss) [] (r4 ss cs)) := by
    refine ch_keep _ (fun c => whC ss c = true) (q5 ss) (fun a x b h => (Bool.and_eq_true_iff.1 h).1) (fun x e y he h k => ⟨fun hw => k.1 he, fun hw => h.2 he⟩) _ [] (ch_r4 ss cs hI)
  have e2 : Ch (fun x y => whC ss x = true → whC ss y = false) (filterZ (q5 ss) [] (r4 ss cs)) := by
    refine ch_filter _ (fun c => whC ss c = true) (q5 ss) (fun a x b h => (Bool.and_eq_true_iff.1 h).1) (fun a y M x b hM h1 h2 hw => ?_) [] _
    cases g : whC ss x with
    | false => rfl
    | true =>
      unfold q5 at h2
      rw [g, hd_rev _ M y a hM hw] at h2
      simp at h2
  exact Ch.imp (fun x y h => ⟨fun g => ⟨h.1.1 g, h.2 g⟩, h.1.2⟩) _ (Ch.and _ e1 e2)
/-- What each is that is left. -/
def Wt (ss : List St) (z : Cr) : Prop :=
  (z.kind = 0 ∧ ¬ z.r = 9 ∧ ¬ z.r = 10 ∧ ¬ z.r = 13 ∧ ¬ z.r = 32) ∨ (z.kind = 1 ∧ z.r = 32 ∧ foldW (whOf ss z.node) = true) ∨ (z.kind = 2 ∧ z.r = 32 ∧ foldW (whOf ss z.node) = false ∧ whOf ss z.node = 3) ∨ (z.kind = 3 ∧ z.r = 32 ∧ foldW (whOf ss z.node) = false ∧ ¬ whOf ss z.node = 3) ∨ (z.kind = 4 ∧ z.r = 9 ∧ foldW (whOf ss z.node) = false) ∨ (z.kind = 5 ∧ z.r = 10 ∧ ¬ whOf ss z.node = 0 ∧ ¬ whOf ss z.node = 1) ∨ (z.kind = 5 ∧ z.r = 0) ∨ z.kind = 6
theorem r5_mem (ss : List St) (cs : List Cr) (hI : ∀ c ∈ cs, In c) (z : Cr) (hz : z ∈ r5 ss cs) : ∃ c, In c ∧ c ∈ cs ∧ z = u4 ss c := by
  unfold r5 at hz; rw [List.map_id] at hz
  have h4 := filterZ_sub _ _ _ z hz
  unfold r4 at h4
  obtain ⟨c, hc, rfl⟩ := List.mem_map.1 h4
  exact ⟨c, hI c (r3_sub ss cs c hc), r3_sub ss cs c hc, rfl⟩
theorem u6_cases (ss : List St) (c : Cr) (he : enC c = false) (h5 : c.kind = 5 → c.r = 0 ∨ c.r = 10 ∧ ¬ whOf ss c.node = 0 ∧ ¬ whOf ss c.node = 1) (hk : c.kind = 0 ∨ c.kind = 5 ∨ c.kind = 6) (hw : whC ss c = true → c.r = 32) :
    Wt ss (u6 ss c) ∧ ((u6 ss c).kind = 1 → whC ss c = true) ∧ (brk (u6 ss c) = true → brk c = true) := by
  rcases hk with h0 | h0 | h0
  · unfold u6
    split
    · rename_i h
      exact ⟨.inr (.inl ⟨rfl, hw h, (whC_parts h).1⟩), fun _ => h, fun g => by unfold brk at g; simp at g⟩
    · rename_i h
      have hf : (c.r = 32 ∨ c.r = 9) → foldW (whOf ss c.node) = false := fun hr => by
        cases g : foldW (whOf ss c.node) with
        | false => rfl
        | true =>
          refine absurd ?_ h
          unfold whC isT
          rw [g, h0]
          rcases hr with hr | hr <;> rw [hr] <;> rfl
      split
      · rename_i h9
        have h9 := (isT_kind h9).2
        exact ⟨.inr (.inr (.inr (.inr (.inl ⟨rfl, h9, hf (.inr h9)⟩)))), fun g => (by simp at g), fun g => by unfold brk at g; simp at g⟩
      · rename_i h9
        split
        · rename_i h32
          have h32 := (isT_kind h32).2
          split
          · rename_i h3
            exact ⟨.inr (.inr (.inl ⟨rfl, h32, hf (.inl h32), h3⟩)), fun g => (by simp at g), fun g => by unfold brk at g; simp at g⟩
          · rename_i h3
            exact ⟨.inr (.inr (.inr (.inl ⟨rfl, h32, hf (.inl h32), h3⟩))), fun g => (by simp at g), fun g => by unfold brk at g; simp at g⟩
        · rename_i h32
          refine ⟨.inl ⟨h0, fun g => h9 ?_, fun g => ?_, fun g => ?_, fun g => h32 ?_⟩, fun g => absurd (h0.symm.trans g) (by decide), fun g => g⟩
          · unfold isT; rw [h0, g]; rfl
          · unfold enC isT at he; rw [h0, g] at he; simp at he
          · unfold enC isT at he; rw [h0, g] at he; simp at he
          · unfold isT; rw [h0, g]; rfl
  · have hn : ¬ c.kind = 0 := by omega
    rw [u6_no ss hn]
    refine ⟨?_, fun g => by omega, fun g => g⟩
    rcases h5 h0 with h | ⟨h1, h2, h3⟩
    · exact .inr (.inr (.inr (.inr (.inr (.inr (.inl ⟨h0, h⟩))))))
    · exact .inr (.inr (.inr (.inr (.inr (.inl ⟨h0, h1, h2, h3⟩)))))
  · have hn : ¬ c.kind = 0 := by omega
    rw [u6_no ss hn]
    exact ⟨.inr (.inr (.inr (.inr (.inr (.inr (.inr h0)))))), fun g => by omega, fun g => g⟩
theorem r6_is (ss : List St) (cs : List Cr) : r6 ss cs = (r5 ss cs).map (u6 ss) := by
  unfold r6
  rw [show (q6 : List Cr → Cr → List Cr → Bool) = fun _ _ _ => false from rfl, filterZ_none]
/-- The two laws of what is left. -/
theorem out_known (ss : List St) (cs : List Cr) (hI : ∀ c ∈ cs, In c) : (∀ z ∈ outL ss cs, Wt ss z) ∧ Ch (fun x y => (x.kind = 1 → ¬ y.kind = 1 ∧ brk y = false) ∧ (y.kind = 1 → brk x = false)) (outL ss cs) := by
  rw [← r6_eq, r6_is]
  have key : ∀ z ∈ r5 ss cs, Wt ss (u6 ss z) ∧ ((u6 ss z).kind = 1 → whC ss z = true) ∧ (brk (u6 ss z) = true → brk z = true) := fun z hz => by
    obtain ⟨c, hc, _, rfl⟩ := r5_mem ss cs hI z hz
    obtain ⟨_, _, h3, h4, h5, h6⟩ := u4_cases ss c hc
    exact u6_cases ss _ h3 h4 h5 h6
  refine ⟨fun z hz => ?_, ?_⟩
  · obtain ⟨c, hc, rfl⟩ := List.mem_map.1 hz
    exact (key c hc).1
  · refine Ch.mapIn (P := fun z => z ∈ r5 ss cs) (u6 ss) (fun x y hx hy h => ⟨fun g => ?_, fun g => ?_⟩) _ (fun _ h => h) (ch_r5 ss cs hI)
    · obtain ⟨h1, h2⟩ := h.1 ((key x hx).2.1 g)
      refine ⟨fun g2 => ?_, ?_⟩
      · rw [(key y hy).2.1 g2] at h2; cases h2
      · cases g3 : brk (u6 ss y) with
        | false => rfl
        | true => rw [(key y hy).2.2 g3] at h1; cases h1
    · have h1 := h.2 ((key y hy).2.1 g)
      cases g3 : brk (u6 ss x) with
      | false => rfl
      | true => rw [(key x hx).2.2 g3] at h1; cases h1

/-! ### once is as twice -/
def again (z : Cr) : Cr := if ¬ z.kind = 6 ∧ (¬ z.kind = 5 ∨ z.r = 10) then { z with kind := 0 } else z
theorem again_node (z : Cr) : (again z).node = z.node := by unfold again; split <;> rfl
theorem again_known (ss : List St) (z : Cr) (h : Wt ss z) : u6 ss (u4 ss (again z)) = z ∧ isT (again z) 13 = false ∧ sfC ss (again z) = false ∧ whC ss (again z) = decide (z.kind = 1) ∧ (enC (again z) = true → brk z = true) ∧ whC ss (u4 ss (again z)) = decide (z.kind = 1) ∧ ((again z).kind = 0 ∨ (again z).kind = 5 ∨ (again z).kind = 6) := by
  obtain ⟨r, nd, p, n, k⟩ := z
  unfold Wt at h
  simp only at h
  rcases h with ⟨rfl, a, b, c, d⟩ | ⟨rfl, rfl, a⟩ | ⟨rfl, rfl, a, b⟩ | ⟨rfl, rfl, a, b⟩ | ⟨rfl, rfl, a⟩ | ⟨rfl, rfl, a, b⟩ | ⟨rfl, rfl⟩ | rfl
  · simp [again, u6, u4, sfC, enC, whC, isT, brk, a, b, c, d]
  · simp [again, u6, u4, sfC, enC, whC, isT, brk, a]
  · simp [again, u6, u4, sfC, enC, whC, isT, brk, a, b]
    rfl
  · simp [again, u6, u4, sfC, enC, whC, isT, brk, a, b]
  · simp [again, u6, u4, sfC, enC, whC, isT, brk, a]
  · simp [again, u6, u4, sfC, enC, whC, isT, brk, a, b]
  · simp [again, u6, u4, sfC, enC, whC, isT, brk]
  · simp [again, u6, u4, sfC, enC, whC, isT, brk]
theorem Ch.back {α β : Type} {P : α → Prop} {R : α → α → Prop} {S : β → β → Prop} (f : α → β) (hf : ∀ x y, P x → P y → R x y → S (f x) (f y)) (l : List α) (hP : ∀ x ∈ l, P x) (h : Ch R l) : Ch S (l.map f) := Ch.mapIn f hf l hP h
theorem hd_no {α : Type} (l : List α) (f : α → Bool) (h : ∀ y, l.head? = some y → f y = false) : hd l f = false := by
  cases l with
  | nil => rfl
  | cons x l => exact h x rfl
theorem dw_no {α : Type} (l : List α) (f : α → Bool) (h : ∀ y, l.head? = some y → f y = false) : l.dropWhile f = l := by
  cases l with
  | nil => rfl
  | cons x l => exact dw_stop f x l (h x rfl)
theorem r6_again (ss : List St) (zs : List Cr) (hW : ∀ z ∈ zs, Wt ss z) (hC : Ch (fun x y => (x.kind = 1 → ¬ y.kind = 1 ∧ brk y = false) ∧ (y.kind = 1 → brk x = false)) zs) : r6 ss (zs.map again) = zs := by
  have hmem : ∀ c, c ∈ zs.map again → isT c 13 = false ∧ sfC ss c = false := fun c hc => by
    obtain ⟨z, hz, rfl⟩ := List.mem_map.1 hc
    exact ⟨(again_known ss z (hW z hz)).2.1, (again_known ss z (hW z hz)).2.2.1⟩
  have chp : ∀ (P : Cr → Prop) (l : List Cr), (∀ c ∈ l, P c) → Ch (fun x y => P x ∧ P y) l := fun P l => by
    induction l with
    | nil => exact fun _ => trivial
    | cons x l ih =>
      intro h
      cases l with
      | nil => trivial
      | cons y l => exact ⟨⟨h x (by simp), h y (by simp)⟩, ih fun c hc => h c (List.mem_cons_of_mem _ hc)⟩
  have keepP : ∀ (p : List Cr → Cr → List Cr → Bool) (l pre : List Cr), (∀ c ∈ l, ∀ a b, p a c b = false) → filterZ p pre l = l := fun p l => by
    induction l with
    | nil => exact fun _ _ => rfl
    | cons x l ih =>
      intro pre h
      show (if p pre x l = true then filterZ p (x :: pre) l else x :: filterZ p (x :: pre) l) = _
      rw [h x (by simp), if_neg (by simp), ih _ fun c hc => h c (List.mem_cons_of_mem _ hc)]
  have k1 : r1 (zs.map again) = zs.map again := by
    unfold r1
    rw [List.map_id]
    exact keepP _ _ _ fun c hc a b => by unfold q1; rw [(hmem c hc).1]; rfl
  have hA : Ch (fun x y => (whC ss x = true → whC ss y = false ∧ enC y = false) ∧ (whC ss y = true → whC ss x = false ∧ enC x = false)) (zs.map again) := by
    refine Ch.mapIn (P := fun z => z ∈ zs) again (fun x y hx hy h => ?_) _ (fun _ h => h) hC
    obtain ⟨_, _, _, w1, b1, _⟩ := again_known ss x (hW x hx)
    obtain ⟨_, _, _, w2, b2, _⟩ := again_known ss y (hW y hy)
    rw [w1, w2]
    refine ⟨fun g => ?_, fun g => ?_⟩
    · obtain ⟨g1, g2⟩ := h.1 (of_decide_eq_true g)
      refine ⟨decide_eq_false g1, ?_⟩
      cases e : enC (again y) with
      | false => rfl
      | true => rw [b2 e] at g2; cases g2
    · have g2 := h.2 (of_decide_eq_true g)
      refine ⟨decide_eq_false fun g1 => (h.1 g1).1 (of_decide_eq_true g), ?_⟩
      cases e : enC (again x) with
      | false => rfl
      | true => rw [b1 e] at g2; cases g2
  have k2 : r2 ss (zs.map again) = zs.map again := by
    unfold r2
    rw [List.map_id, k1]
    refine filterZ_all _ (q2 ss) (fun a x b ha hb => ?_) _ [] (fun y x h => by cases h) hA
    unfold q2
    cases hw : whC ss x with
    | false => rfl
    | true =>
      rw [dw_no a _ fun y hy => ((ha y hy).2 hw).1, dw_no b _ fun y hy => ((hb y hy).1 hw).1, hd_no a _ fun y hy => ((ha y hy).2 hw).2, hd_no b _ fun y hy => ((hb y hy).1 hw).2]
      rfl
  have k3 : r3 ss (zs.map again) = zs.map again := by
    unfold r3
    rw [List.map_id, k2]
    exact keepP _ _ _ fun c hc a b => by unfold q3; rw [(hmem c hc).2]; rfl
  have k4 : r4 ss (zs.map again) = (zs.map again).map (u4 ss) := by
    unfold r4
    rw [k3, keepP _ _ _ fun c hc a b => by unfold q4; rw [(hmem c hc).2]; rfl]
  have k5 : r5 ss (zs.map again) = (zs.map again).map (u4 ss) := by
    unfold r5
    rw [List.map_id, k4, List.map_map]
    have hB : Ch (fun x y => whC ss x = true → whC ss y = false) (zs.map (u4 ss ∘ again)) := by
      refine Ch.mapIn (P := fun z => z ∈ zs) (u4 ss ∘ again) (fun x y hx hy h => ?_) _ (fun _ h => h) hC
      obtain ⟨_, _, _, _, _, w1, _⟩ := again_known ss x (hW x hx)
      obtain ⟨_, _, _, _, _, w2, _⟩ := again_known ss y (hW y hy)
      show whC ss (u4 ss (again x)) = true → whC ss (u4 ss (again y)) = false
      rw [w1, w2]
      exact fun g => decide_eq_false (h.1 (of_decide_eq_true g)).1
    refine filterZ_all _ (q5 ss) (fun a x b ha hb => ?_) _ [] (fun y x h => by cases h) hB
    unfold q5
    cases hw : whC ss x with
    | false => rfl
    | true =>
      rw [hd_no a _ fun y hy => ?_]
      · rfl
      · cases g : whC ss y with
        | false => rfl
        | true => have := ha y hy g; rw [hw] at this; cases this
  rw [r6_is, k5, List.map_map, List.map_map]
  have : ∀ z ∈ zs, (u6 ss ∘ u4 ss ∘ again) z = z := fun z hz => (again_known ss z (hW z hz)).1
  exact (List.map_congr_left this).trans (List.map_id' zs)
theorem out_again (ss : List St) (cs : List Cr) (hI : ∀ c ∈ cs, In c) : outL ss ((outL ss cs).map again) = outL ss cs := by
  rw [← r6_eq ss ((outL ss cs).map again)]
  obtain ⟨h1, h2⟩ := out_known ss cs hI
  exact r6_again ss _ h1 h2
theorem ok_again (ss : List St) (cs : List Cr) (hI : ∀ c ∈ cs, In c) (hok : okAll ss cs = true) : okAll ss ((outL ss cs).map again) = true := by
  unfold okAll
  rw [List.all_eq_true]
  intro c hc
  obtain ⟨z, hz, rfl⟩ := List.mem_map.1 hc
  obtain ⟨x, hx, hn, _⟩ := (emb_out ss cs).mem z hz
  unfold okAll at hok
  rw [List.all_eq_true] at hok
  have hk := hok x hx
  have hkk := (again_known ss z ((out_known ss cs hI).1 z hz)).2.2.2.2.2.2
  unfold okC at hk ⊢
  rw [again_node, ← hn]
  simp only [Bool.and_eq_true, decide_eq_true_eq, Bool.or_eq_true] at hk ⊢
  refine ⟨hk.1, hk.2.1, hk.2.2.1, ?_⟩
  omega

/-! ### what is kept -/
/-- How many 0d stand ahead of a 0a. -/
def pc : List Cr → Nat
  | [] => 0
  | [_] => 0
  | x :: y :: l => (if (isT x 13 && isT y 10) = true then 1 else 0) + pc (y :: l)
theorem pc_len : ∀ (l pre : List Cr), (filterZ q1 pre l).length + pc l = l.length
  | [], _ => rfl
  | [x], pre => by
    show (if (isT x 13 && hd [] (fun c => isT c 10)) = true then filterZ q1 (x :: pre) [] else x :: filterZ q1 (x :: pre) []).length + 0 = 1
    rw [show hd ([] : List Cr) (fun c => isT c 10) = false from rfl, Bool.and_false, if_neg (by simp)]
    rfl
  | x :: y :: l, pre => by
    have ih := pc_len (y :: l) (x :: pre)
    show (if (isT x 13 && isT y 10) = true then filterZ q1 (x :: pre) (y :: l) else x :: filterZ q1 (x :: pre) (y :: l)).length + ((if (isT x 13 && isT y 10) = true then 1 else 0) + pc (y :: l)) = _
    split
    · rw [List.length_cons]; omega
    · rw [List.length_cons, List.length_cons]; omega
theorem out_kept (ss : List St) (cs : List Cr) (hK : ∀ c ∈ cs, foldW (whOf ss c.node) = false) : (outL ss cs).length + pc cs = cs.length := by
  rw [← r6_eq, r6_is, List.length_map]
  have keepP : ∀ (p : List Cr → Cr → List Cr → Bool) (l pre : List Cr), (∀ c ∈ l, ∀ a b, p a c b = false) → filterZ p pre l = l := fun p l => by
    induction l with
    | nil => exact fun _ _ => rfl
    | cons x l ih =>
      intro pre h
      show (if p pre x l = true then filterZ p (x :: pre) l else x :: filterZ p (x :: pre) l) = _
      rw [h x (by simp), if_neg (by simp), ih _ fun c hc => h c (List.mem_cons_of_mem _ hc)]
  have hK1 : ∀ c ∈ r1 cs, foldW (whOf ss c.node) = false := fun c hc => by
    unfold r1 at hc; rw [List.map_id] at hc
    exact hK c (filterZ_sub _ _ _ c hc)
  have nw : ∀ c, foldW (whOf ss c.node) = false → whC ss c = false := fun c h => by unfold whC; rw [h]; rfl
  have ns : ∀ c, foldW (whOf ss c.node) = false → sfC ss c = false := fun c h => by
    unfold sfC
    unfold foldW at h
    simp only [Bool.or_eq_false_iff] at h
    rw [h.1, h.2.1]; simp
  have k2 : r2 ss cs = r1 cs := by
    unfold r2
    rw [List.map_id]
    exact keepP _ _ _ fun c hc a b => by unfold q2; rw [nw c (hK1 c hc)]; rfl
  have k3 : r3 ss cs = r1 cs := by
    unfold r3
    rw [List.map_id, k2]
    exact keepP _ _ _ fun c hc a b => by unfold q3; rw [ns c (hK1 c hc)]; rfl
  have k4 : r4 ss cs = (r1 cs).map (u4 ss) := by
    unfold r4
    rw [k3, keepP _ _ _ fun c hc a b => by unfold q4; rw [ns c (hK1 c hc)]; rfl]
  have k5 : r5 ss cs = (r1 cs).map (u4 ss) := by
    unfold r5
    rw [List.map_id, k4]
    refine keepP _ _ _ fun c hc a b => ?_
    obtain ⟨d, hd, rfl⟩ := List.mem_map.1 hc
    unfold q5
    rw [nw _ (by rw [u4_node]; exact hK1 d hd)]; rfl
  rw [k5, List.length_map]
  unfold r1
  rw [List.map_id]
  exact pc_len cs []
end Go.Proofs.Ytmjacmjogckihaa.White
