/- Chapter 8: what becomes of the characters that are left: the turns, walked. No condition. -/
import Derived.Test.YtmjacmjogckihaaWhiteC
namespace Go.Proofs.Ytmjacmjogckihaa.White
open Go.RowKit
set_option linter.unusedVariables false
set_option linter.unusedSimpArgs false

/-- The i-th of a block's rows of nine holds a mark. -/
def At9 (cur : Array Value) (i : Nat) (m : Mk) : Prop := ∀ q u, (mkC m)[q]? = some u → cur[i * 9 + q]? = some u
theorem grown_trans {A B C : World} {row : Option Nat} (h : A.grownBy B row) (k : B.grownBy C row) : A.grownBy C row :=
  ⟨k.os.trans h.os, k.tape.trans h.tape, k.output.trans h.output, Nat.le_trans h.size k.size, fun j hj hne => (k.block j (Nat.lt_of_lt_of_le hj h.size) hne).trans (h.block j hj hne)⟩
theorem grown_below {A B : World} {row : Option Nat} (h : Below A.heap.size A B) : A.grownBy B row := ⟨h.os, h.tape, h.output, h.size, fun j hj _ => h.block j hj⟩
theorem grown_set (W : World) (p : Addr) (v : Value) (b : Nat) (h : p.block = b) : W.grownBy (W.setCell p v) (some b) :=
  ⟨rfl, rfl, rfl, by rw [World.size_setCell]; exact Nat.le_refl _, fun k _ hk => Below.heap_setCell W p v k (fun e => hk (by rw [e, h]))⟩
/-- Behind a turn of the i-th of a block. -/
structure Turned (b i : Nat) (cur : Array Value) (m' : Mk) (W w' : World) : Prop where
  out : ∃ cur', Blk w' b 47 cur' ∧ cur'.size = cur.size ∧ At9 cur' i m' ∧ (∀ k, k < i * 9 ∨ i * 9 + 9 ≤ k → cur'[k]? = cur[k]?) ∧ W.grownBy w' (some b)
theorem Turned.start {b i : Nat} {cur : Array Value} {m : Mk} {W v : World} (hb : Blk W b 47 cur) (h9 : At9 cur i m) (hl : Below W.heap.size W v) : Turned b i cur m W v :=
  ⟨cur, hb.keep hl, rfl, h9, fun _ _ => rfl, grown_below hl⟩
theorem Turned.more {b i : Nat} {cur : Array Value} {m : Mk} {W v v' : World} (h : Turned b i cur m W v) (hl : Below v.heap.size v v') : Turned b i cur m W v' := by
  obtain ⟨cur', h1, h2, h3, h4, h5⟩ := h.out
  exact ⟨cur', h1.keep hl, h2, h3, h4, grown_trans h5 (grown_below hl)⟩
theorem Turned.set_ {b i q : Nat} {cur : Array Value} {m m2 : Mk} {W v : World} (h : Turned b i cur m W v) (hq : q < 9) (u : Value) (hm : ∀ r u', (mkC m2)[r]? = some u' → if r = q then u' = u else (mkC m)[r]? = some u') (a : Addr) (ha : a = ⟨b, i * 9 + q, none⟩) : Turned b i cur m2 W (v.setCell a u) := by
  subst ha
  obtain ⟨cur', h1, h2, h3, h4, h5⟩ := h.out
  have hlt : i * 9 + q < cur'.size := by
    have h0 : (mkC m)[q]? = some ((mkC m)[q]'(hq)) := List.getElem?_eq_getElem hq
    exact (Array.getElem?_eq_some_iff.1 (h3 q _ h0)).1
  refine ⟨cur'.setIfInBounds (i * 9 + q) u, h1.set_ _ u, by rw [Array.size_setIfInBounds, h2], fun r u' hr => ?_, fun k hk => ?_, grown_trans h5 (grown_set v _ u b rfl)⟩
  · have := hm r u' hr
    split at this
    · subst this
      rename_i e
      subst e
      rw [Array.getElem?_setIfInBounds_self, if_pos hlt]
    · rename_i e
      rw [Array.getElem?_setIfInBounds_ne (by omega)]
      exact h3 r u' this
  · rw [Array.getElem?_setIfInBounds_ne (by omega)]
    exact h4 k hk
/-- The cells of the turned mark. -/
theorem Turned.cells {b i : Nat} {cur : Array Value} {m : Mk} {W v : World} (h : Turned b i cur m W v) : Cell9 v ⟨b, i * 9, none⟩ m ∧ (∀ k, v.frozen? ⟨b, k, none⟩ = false) := by
  obtain ⟨cur', h1, h2, h3, h4, h5⟩ := h.out
  have key : ∀ q u, (mkC m)[q]? = some u → v.cell? ⟨b, i * 9 + q, none⟩ = some u := fun q u hu => (h1.cell _).trans (h3 q u hu)
  exact ⟨⟨key 0 _ rfl, key 1 _ rfl, key 2 _ rfl, key 3 _ rfl, key 4 _ rfl, key 5 _ rfl, key 6 _ rfl, key 7 _ rfl, key 8 _ rfl⟩, fun k => h1.frozen k⟩
/-- A turn's function. -/
def TurnFn (g : Nat) (t : Mk → Mk) : Prop := ∀ (b i : Nat) (cur : Array Value) (m : Mk) (W : World), Blk W b 47 cur → At9 cur i m → Calls Try.prog g #[.pointer (some ⟨b, i * 9, none⟩)] W fun e w' => e = .returned (.tuple #[]) ∧ Turned b i cur (t m) W w'
theorem set_mk {m m2 : Mk} {q : Nat} {u : Value} (h : ∀ r, r < 9 → r ≠ q → (mkC m2)[r]? = (mkC m)[r]?) (hu : (mkC m2)[q]? = some u) : ∀ r u', (mkC m2)[r]? = some u' → if r = q then u' = u else (mkC m)[r]? = some u' := by
  intro r u' hr
  split
  · rename_i e
    subst e
    rw [hu] at hr
    exact (Option.some.inj hr).symm
  · rename_i e
    rw [← h r (by have := (List.getElem?_eq_some_iff.1 hr).1; exact this) e]
    exact hr
theorem turn3 : TurnFn 50 t3 := by
  intro b i cur m W hb h9
  have HT := Lib.hid (Turned.start hb h9 (Below.refl _ _))
  clear hb h9
  go_enter Try.func50, Try.ntmps50
  go_wp2
  go_end0
  exact ⟨rfl, HT.out⟩
set_option maxHeartbeats 2000000 in
theorem turn1 : TurnFn 43 t1 := by
  intro b i cur m W hb h9
  have HT := Lib.hid (Turned.start hb h9 (Below.refl _ _))
  clear hb h9
  have H1 := Lib.hid (fun V => text_any m 10 V)
  have H2 := Lib.hid (fun V => text_any m 13 V)
  obtain ⟨x, hx⟩ : ∃ x, isT m.c 10 = x := ⟨_, rfl⟩
  obtain ⟨y, hy⟩ : ∃ y, isT m.c 13 = y := ⟨_, rfl⟩
  have HE := Lib.hid (show t1 m = { m with en := x || y } by unfold t1; rw [hx, hy])
  rw [hx] at H1
  rw [hy] at H2
  clear hx hy
  obtain ⟨⟨c0, c1, c2, c3, c4, c5, c6, c7, c8⟩, fz⟩ := HT.out.cells
  obtain ⟨⟨r0, nd, p, nn, kk⟩, st, fo, en, so⟩ := m
  simp only at c0 c1 c2 c3 c4 c5 c6 c7 c8
  have f7 := fz (i * 9 + 7)
  cases x
  · go_enter Try.func43, Try.ntmps43
    go_wp2_with (first
      | (go_at_call 39; (with_reducible refine (H1.out _).mono ?_); rintro e w1 ⟨rfl, b1⟩; have T1 := Lib.hid (HT.out.more b1); obtain ⟨⟨c0, c1, c2, c3, c4, c5, c6, c7, c8⟩, fz⟩ := T1.out.cells; simp only at c0 c1 c2 c3 c4 c5 c6 c7 c8; clear b1)
      | (go_at_call 39; (with_reducible refine (H2.out _).mono ?_); rintro e w2 ⟨rfl, b2⟩; have T2 := Lib.hid (T1.out.more b2); obtain ⟨⟨d0, d1, d2, d3, d4, d5, d6, d7, d8⟩, fz⟩ := T2.out.cells; simp only at d0 d1 d2 d3 d4 d5 d6 d7 d8; have f7 := fz (i * 9 + 7); clear b2))
    go_end0
    exact ⟨rfl, by rw [HE.out]; exact T2.out.set_ (q := 7) (by omega) _ (set_mk (fun r hr hne => by match r, hr, hne with | 0, _, _ => rfl | 1, _, _ => rfl | 2, _, _ => rfl | 3, _, _ => rfl | 4, _, _ => rfl | 5, _, _ => rfl | 6, _, _ => rfl | 7, _, h => exact absurd rfl h | 8, _, _ => rfl) rfl) _ rfl⟩
  · go_enter Try.func43, Try.ntmps43
    go_wp2_with (first
      | (go_at_call 39; (with_reducible refine (H1.out _).mono ?_); rintro e w1 ⟨rfl, b1⟩; have T1 := Lib.hid (HT.out.more b1); obtain ⟨⟨c0, c1, c2, c3, c4, c5, c6, c7, c8⟩, fz⟩ := T1.out.cells; simp only at c0 c1 c2 c3 c4 c5 c6 c7 c8; have f7 := fz (i * 9 + 7); clear b1))
    go_end0
    exact ⟨rfl, by rw [HE.out]; exact T1.out.set_ (q := 7) (by omega) _ (set_mk (fun r hr hne => by match r, hr, hne with | 0, _, _ => rfl | 1, _, _ => rfl | 2, _, _ => rfl | 3, _, _ => rfl | 4, _, _ => rfl | 5, _, _ => rfl | 6, _, _ => rfl | 7, _, h => exact absurd rfl h | 8, _, _ => rfl) rfl) _ rfl⟩
set_option maxHeartbeats 2000000 in
theorem turn2 : TurnFn 47 t2 := by
  intro b i cur m W hb h9
  have HT := Lib.hid (Turned.start hb h9 (Below.refl _ _))
  clear hb h9
  obtain ⟨⟨c0, c1, c2, c3, c4, c5, c6, c7, c8⟩, fz⟩ := HT.out.cells
  obtain ⟨⟨r0, nd, p, nn, kk⟩, st, fo, en, so⟩ := m
  simp only at c0 c1 c2 c3 c4 c5 c6 c7 c8
  have f8 := fz (i * 9 + 8)
  by_cases g : st = 4
  · have q1 : (st != 4) = false := by simpa using g
    have HE : Hid (∀ fo en so, t2 ⟨⟨r0, nd, p, nn, kk⟩, st, fo, en, so⟩ = ⟨⟨r0, nd, p, nn, kk⟩, st, fo, en, false⟩) := Lib.hid (fun fo en so => by unfold t2; simp [g])
    clear g
    cases en <;> cases fo
    all_goals
      go_enter Try.func47, Try.ntmps47
      go_wp2
      go_end0
      exact ⟨rfl, by rw [HE.out]; exact (HT.out.set_ (q := 8) (by omega) _ (set_mk (fun r hr hne => by match r, hr, hne with | 0, _, _ => rfl | 1, _, _ => rfl | 2, _, _ => rfl | 3, _, _ => rfl | 4, _, _ => rfl | 5, _, _ => rfl | 6, _, _ => rfl | 7, _, _ => rfl | 8, _, h => exact absurd rfl h) rfl) _ rfl)⟩
  · have q1 : (st != 4) = true := by simpa using g
    have HE : Hid (∀ fo en so, t2 ⟨⟨r0, nd, p, nn, kk⟩, st, fo, en, so⟩ = ⟨⟨r0, nd, p, nn, kk⟩, st, fo, en, en && fo⟩) := Lib.hid (fun fo en so => by unfold t2; simp [g])
    clear g
    cases en <;> cases fo
    all_goals
      go_enter Try.func47, Try.ntmps47
      go_wp2
      go_end0
      exact ⟨rfl, by rw [HE.out]; exact (HT.out.set_ (q := 8) (by omega) _ (set_mk (fun r hr hne => by match r, hr, hne with | 0, _, _ => rfl | 1, _, _ => rfl | 2, _, _ => rfl | 3, _, _ => rfl | 4, _, _ => rfl | 5, _, _ => rfl | 6, _, _ => rfl | 7, _, _ => rfl | 8, _, h => exact absurd rfl h) rfl) _ rfl)⟩
set_option maxHeartbeats 4000000 in
theorem turn4 : TurnFn 52 t4 := by
  intro b i cur m W hb h9
  have HT := Lib.hid (Turned.start hb h9 (Below.refl _ _))
  clear hb h9
  have H1 := Lib.hid (fun V => text_any m 9 V)
  obtain ⟨x, hx⟩ : ∃ x, isT m.c 9 = x := ⟨_, rfl⟩
  have HE := Lib.hid (show t4 m = if (m.so || (m.fo && x)) = true then { m with c := { m.c with r := 32 } } else if m.en = true then { m with c := { m.c with r := 10, kind := 5 } } else m by unfold t4; rw [hx])
  rw [hx] at H1
  clear hx
  obtain ⟨⟨c0, c1, c2, c3, c4, c5, c6, c7, c8⟩, fz⟩ := HT.out.cells
  obtain ⟨⟨r0, nd, p, nn, kk⟩, st, fo, en, so⟩ := m
  simp only at c0 c1 c2 c3 c4 c5 c6 c7 c8
  have f0 := fz (i * 9)
  have f4 := fz (i * 9 + 4)
  rcases (show (so = true) ∨ (so = false ∧ fo = true ∧ x = true) ∨ (so = false ∧ fo = true ∧ x = false ∧ en = true) ∨ (so = false ∧ fo = true ∧ x = false ∧ en = false) ∨ (so = false ∧ fo = false ∧ en = true) ∨ (so = false ∧ fo = false ∧ en = false) by cases so <;> cases fo <;> cases x <;> cases en <;> simp) with rfl | ⟨rfl, rfl, rfl⟩ | ⟨rfl, rfl, rfl, rfl⟩ | ⟨rfl, rfl, rfl, rfl⟩ | ⟨rfl, rfl, rfl⟩ | ⟨rfl, rfl, rfl⟩
  · go_enter Try.func52, Try.ntmps52
    go_wp2_with ((go_at_call 39; (with_reducible refine (H1.out _).mono ?_); rintro e w1 ⟨rfl, b1⟩; have T1 := Lib.hid (HT.out.more b1); obtain ⟨⟨c0, c1, c2, c3, c4, c5, c6, c7, c8⟩, fz⟩ := T1.out.cells; simp only at c0 c1 c2 c3 c4 c5 c6 c7 c8; have f0 := fz (i * 9); have f4 := fz (i * 9 + 4); clear b1 fz))
    go_end0
    exact ⟨rfl, by rw [HE.out]; exact (HT.out.set_ (q := 0) (by omega) _ (set_mk (fun r hr hne => by match r, hr, hne with | 0, _, h => exact absurd rfl h | 1, _, _ => rfl | 2, _, _ => rfl | 3, _, _ => rfl | 4, _, _ => rfl | 5, _, _ => rfl | 6, _, _ => rfl | 7, _, _ => rfl | 8, _, _ => rfl) rfl) _ rfl)⟩
  · go_enter Try.func52, Try.ntmps52
    go_wp2_with ((go_at_call 39; (with_reducible refine (H1.out _).mono ?_); rintro e w1 ⟨rfl, b1⟩; have T1 := Lib.hid (HT.out.more b1); obtain ⟨⟨c0, c1, c2, c3, c4, c5, c6, c7, c8⟩, fz⟩ := T1.out.cells; simp only at c0 c1 c2 c3 c4 c5 c6 c7 c8; have f0 := fz (i * 9); have f4 := fz (i * 9 + 4); clear b1 fz))
    go_end0
    exact ⟨rfl, by rw [HE.out]; exact (T1.out.set_ (q := 0) (by omega) _ (set_mk (fun r hr hne => by match r, hr, hne with | 0, _, h => exact absurd rfl h | 1, _, _ => rfl | 2, _, _ => rfl | 3, _, _ => rfl | 4, _, _ => rfl | 5, _, _ => rfl | 6, _, _ => rfl | 7, _, _ => rfl | 8, _, _ => rfl) rfl) _ rfl)⟩
  · go_enter Try.func52, Try.ntmps52
    go_wp2_with ((go_at_call 39; (with_reducible refine (H1.out _).mono ?_); rintro e w1 ⟨rfl, b1⟩; have T1 := Lib.hid (HT.out.more b1); obtain ⟨⟨c0, c1, c2, c3, c4, c5, c6, c7, c8⟩, fz⟩ := T1.out.cells; simp only at c0 c1 c2 c3 c4 c5 c6 c7 c8; have f0 := fz (i * 9); have f4 := fz (i * 9 + 4); clear b1 fz))
    go_end0
    exact ⟨rfl, by rw [HE.out]; exact ((T1.out.set_ (q := 4) (by omega) _ (set_mk (m2 := ⟨⟨r0, nd, p, nn, 5⟩, st, true, true, false⟩) (fun r hr hne => by match r, hr, hne with | 0, _, _ => rfl | 1, _, _ => rfl | 2, _, _ => rfl | 3, _, _ => rfl | 4, _, h => exact absurd rfl h | 5, _, _ => rfl | 6, _, _ => rfl | 7, _, _ => rfl | 8, _, _ => rfl) rfl) _ rfl).set_ (q := 0) (by omega) _ (set_mk (fun r hr hne => by match r, hr, hne with | 0, _, h => exact absurd rfl h | 1, _, _ => rfl | 2, _, _ => rfl | 3, _, _ => rfl | 4, _, _ => rfl | 5, _, _ => rfl | 6, _, _ => rfl | 7, _, _ => rfl | 8, _, _ => rfl) rfl) _ rfl)⟩
  · go_enter Try.func52, Try.ntmps52
    go_wp2_with ((go_at_call 39; (with_reducible refine (H1.out _).mono ?_); rintro e w1 ⟨rfl, b1⟩; have T1 := Lib.hid (HT.out.more b1); obtain ⟨⟨c0, c1, c2, c3, c4, c5, c6, c7, c8⟩, fz⟩ := T1.out.cells; simp only at c0 c1 c2 c3 c4 c5 c6 c7 c8; have f0 := fz (i * 9); have f4 := fz (i * 9 + 4); clear b1 fz))
    go_end0
    exact ⟨rfl, by rw [HE.out]; exact T1.out⟩
  · go_enter Try.func52, Try.ntmps52
    go_wp2_with ((go_at_call 39; (with_reducible refine (H1.out _).mono ?_); rintro e w1 ⟨rfl, b1⟩; have T1 := Lib.hid (HT.out.more b1); obtain ⟨⟨c0, c1, c2, c3, c4, c5, c6, c7, c8⟩, fz⟩ := T1.out.cells; simp only at c0 c1 c2 c3 c4 c5 c6 c7 c8; have f0 := fz (i * 9); have f4 := fz (i * 9 + 4); clear b1 fz))
    go_end0
    exact ⟨rfl, by rw [HE.out]; exact ((HT.out.set_ (q := 4) (by omega) _ (set_mk (m2 := ⟨⟨r0, nd, p, nn, 5⟩, st, false, true, false⟩) (fun r hr hne => by match r, hr, hne with | 0, _, _ => rfl | 1, _, _ => rfl | 2, _, _ => rfl | 3, _, _ => rfl | 4, _, h => exact absurd rfl h | 5, _, _ => rfl | 6, _, _ => rfl | 7, _, _ => rfl | 8, _, _ => rfl) rfl) _ rfl).set_ (q := 0) (by omega) _ (set_mk (fun r hr hne => by match r, hr, hne with | 0, _, h => exact absurd rfl h | 1, _, _ => rfl | 2, _, _ => rfl | 3, _, _ => rfl | 4, _, _ => rfl | 5, _, _ => rfl | 6, _, _ => rfl | 7, _, _ => rfl | 8, _, _ => rfl) rfl) _ rfl)⟩
  · go_enter Try.func52, Try.ntmps52
    go_wp2_with ((go_at_call 39; (with_reducible refine (H1.out _).mono ?_); rintro e w1 ⟨rfl, b1⟩; have T1 := Lib.hid (HT.out.more b1); obtain ⟨⟨c0, c1, c2, c3, c4, c5, c6, c7, c8⟩, fz⟩ := T1.out.cells; simp only at c0 c1 c2 c3 c4 c5 c6 c7 c8; have f0 := fz (i * 9); have f4 := fz (i * 9 + 4); clear b1 fz))
    go_end0
    exact ⟨rfl, by rw [HE.out]; exact HT.out⟩
set_option maxHeartbeats 4000000 in
theorem turn5 : TurnFn 54 t5 := by
  intro b i cur m W hb h9
  have HT := Lib.hid (Turned.start hb h9 (Below.refl _ _))
  clear hb h9
  have H0 := Lib.hid (fun V => white_any m V)
  have H1 := Lib.hid (fun V => text_any m 9 V)
  have H2 := Lib.hid (fun V => text_any m 32 V)
  obtain ⟨x, hx⟩ : ∃ x, whM m = x := ⟨_, rfl⟩
  obtain ⟨y, hy⟩ : ∃ y, isT m.c 9 = y := ⟨_, rfl⟩
  obtain ⟨z, hz⟩ : ∃ z, isT m.c 32 = z := ⟨_, rfl⟩
  have HE := Lib.hid (show t5 m = if x = true then { m with c := { m.c with kind := 1 } } else if y = true then { m with c := { m.c with kind := 4 } } else if z = true then { m with c := { m.c with kind := if m.st = 3 then 2 else 3 } } else m by unfold t5; rw [hx, hy, hz])
  rw [hx] at H0
  rw [hy] at H1
  rw [hz] at H2
  clear hx hy hz
  obtain ⟨⟨c0, c1, c2, c3, c4, c5, c6, c7, c8⟩, fz⟩ := HT.out.cells
  obtain ⟨⟨r0, nd, p, nn, kk⟩, st, fo, en, so⟩ := m
  simp only at c0 c1 c2 c3 c4 c5 c6 c7 c8
  have f4 := fz (i * 9 + 4)
  cases x with
  | true =>
    go_enter Try.func54, Try.ntmps54
    go_wp2_with (first
      | (go_at_call 45; (with_reducible refine (H0.out _).mono ?_); rintro e w1 ⟨rfl, b1⟩; have T1 := Lib.hid (HT.out.more b1); obtain ⟨⟨c0, c1, c2, c3, c4, c5, c6, c7, c8⟩, fz⟩ := T1.out.cells; simp only at c0 c1 c2 c3 c4 c5 c6 c7 c8; have f0 := fz (i * 9); have f4 := fz (i * 9 + 4); clear b1 fz)
      | (go_at_call 39; (with_reducible refine (H1.out _).mono ?_); rintro e w2 ⟨rfl, b2⟩; have T2 := Lib.hid (T1.out.more b2); obtain ⟨⟨c0, c1, c2, c3, c4, c5, c6, c7, c8⟩, fz⟩ := T2.out.cells; simp only at c0 c1 c2 c3 c4 c5 c6 c7 c8; have f0 := fz (i * 9); have f4 := fz (i * 9 + 4); clear b2 fz)
      | (go_at_call 39; (with_reducible refine (H2.out _).mono ?_); rintro e w3 ⟨rfl, b3⟩; have T3 := Lib.hid (T2.out.more b3); obtain ⟨⟨c0, c1, c2, c3, c4, c5, c6, c7, c8⟩, fz⟩ := T3.out.cells; simp only at c0 c1 c2 c3 c4 c5 c6 c7 c8; have f0 := fz (i * 9); have f4 := fz (i * 9 + 4); clear b3 fz))
    go_end0
    exact ⟨rfl, by rw [HE.out]; exact (T1.out.set_ (q := 4) (by omega) _ (set_mk (fun r hr hne => by match r, hr, hne with | 0, _, _ => rfl | 1, _, _ => rfl | 2, _, _ => rfl | 3, _, _ => rfl | 4, _, h => exact absurd rfl h | 5, _, _ => rfl | 6, _, _ => rfl | 7, _, _ => rfl | 8, _, _ => rfl) rfl) _ rfl)⟩
  | false =>
    cases y with
    | true =>
      go_enter Try.func54, Try.ntmps54
      go_wp2_with (first
      | (go_at_call 45; (with_reducible refine (H0.out _).mono ?_); rintro e w1 ⟨rfl, b1⟩; have T1 := Lib.hid (HT.out.more b1); obtain ⟨⟨c0, c1, c2, c3, c4, c5, c6, c7, c8⟩, fz⟩ := T1.out.cells; simp only at c0 c1 c2 c3 c4 c5 c6 c7 c8; have f0 := fz (i * 9); have f4 := fz (i * 9 + 4); clear b1 fz)
      | (go_at_call 39; (with_reducible refine (H1.out _).mono ?_); rintro e w2 ⟨rfl, b2⟩; have T2 := Lib.hid (T1.out.more b2); obtain ⟨⟨c0, c1, c2, c3, c4, c5, c6, c7, c8⟩, fz⟩ := T2.out.cells; simp only at c0 c1 c2 c3 c4 c5 c6 c7 c8; have f0 := fz (i * 9); have f4 := fz (i * 9 + 4); clear b2 fz)
      | (go_at_call 39; (with_reducible refine (H2.out _).mono ?_); rintro e w3 ⟨rfl, b3⟩; have T3 := Lib.hid (T2.out.more b3); obtain ⟨⟨c0, c1, c2, c3, c4, c5, c6, c7, c8⟩, fz⟩ := T3.out.cells; simp only at c0 c1 c2 c3 c4 c5 c6 c7 c8; have f0 := fz (i * 9); have f4 := fz (i * 9 + 4); clear b3 fz))
      go_end0
      exact ⟨rfl, by rw [HE.out]; exact (T2.out.set_ (q := 4) (by omega) _ (set_mk (fun r hr hne => by match r, hr, hne with | 0, _, _ => rfl | 1, _, _ => rfl | 2, _, _ => rfl | 3, _, _ => rfl | 4, _, h => exact absurd rfl h | 5, _, _ => rfl | 6, _, _ => rfl | 7, _, _ => rfl | 8, _, _ => rfl) rfl) _ rfl)⟩
    | false =>
      cases z with
      | false =>
        go_enter Try.func54, Try.ntmps54
        go_wp2_with (first
      | (go_at_call 45; (with_reducible refine (H0.out _).mono ?_); rintro e w1 ⟨rfl, b1⟩; have T1 := Lib.hid (HT.out.more b1); obtain ⟨⟨c0, c1, c2, c3, c4, c5, c6, c7, c8⟩, fz⟩ := T1.out.cells; simp only at c0 c1 c2 c3 c4 c5 c6 c7 c8; have f0 := fz (i * 9); have f4 := fz (i * 9 + 4); clear b1 fz)
      | (go_at_call 39; (with_reducible refine (H1.out _).mono ?_); rintro e w2 ⟨rfl, b2⟩; have T2 := Lib.hid (T1.out.more b2); obtain ⟨⟨c0, c1, c2, c3, c4, c5, c6, c7, c8⟩, fz⟩ := T2.out.cells; simp only at c0 c1 c2 c3 c4 c5 c6 c7 c8; have f0 := fz (i * 9); have f4 := fz (i * 9 + 4); clear b2 fz)
      | (go_at_call 39; (with_reducible refine (H2.out _).mono ?_); rintro e w3 ⟨rfl, b3⟩; have T3 := Lib.hid (T2.out.more b3); obtain ⟨⟨c0, c1, c2, c3, c4, c5, c6, c7, c8⟩, fz⟩ := T3.out.cells; simp only at c0 c1 c2 c3 c4 c5 c6 c7 c8; have f0 := fz (i * 9); have f4 := fz (i * 9 + 4); clear b3 fz))
        go_end0
        exact ⟨rfl, by rw [HE.out]; exact T3.out⟩
      | true =>
        by_cases g : st = 3
        · have q1 : (st == 3) = true := by simpa using g
          have HE2 := Lib.hid (show t5 ⟨⟨r0, nd, p, nn, kk⟩, st, fo, en, so⟩ = ⟨⟨r0, nd, p, nn, 2⟩, st, fo, en, so⟩ by rw [HE.out]; simp [g])
          clear g
          go_enter Try.func54, Try.ntmps54
          go_wp2_with (first
      | (go_at_call 45; (with_reducible refine (H0.out _).mono ?_); rintro e w1 ⟨rfl, b1⟩; have T1 := Lib.hid (HT.out.more b1); obtain ⟨⟨c0, c1, c2, c3, c4, c5, c6, c7, c8⟩, fz⟩ := T1.out.cells; simp only at c0 c1 c2 c3 c4 c5 c6 c7 c8; have f0 := fz (i * 9); have f4 := fz (i * 9 + 4); clear b1 fz)
      | (go_at_call 39; (with_reducible refine (H1.out _).mono ?_); rintro e w2 ⟨rfl, b2⟩; have T2 := Lib.hid (T1.out.more b2); obtain ⟨⟨c0, c1, c2, c3, c4, c5, c6, c7, c8⟩, fz⟩ := T2.out.cells; simp only at c0 c1 c2 c3 c4 c5 c6 c7 c8; have f0 := fz (i * 9); have f4 := fz (i * 9 + 4); clear b2 fz)
      | (go_at_call 39; (with_reducible refine (H2.out _).mono ?_); rintro e w3 ⟨rfl, b3⟩; have T3 := Lib.hid (T2.out.more b3); obtain ⟨⟨c0, c1, c2, c3, c4, c5, c6, c7, c8⟩, fz⟩ := T3.out.cells; simp only at c0 c1 c2 c3 c4 c5 c6 c7 c8; have f0 := fz (i * 9); have f4 := fz (i * 9 + 4); clear b3 fz))
          go_end0
          exact ⟨rfl, by rw [HE2.out]; exact ((T3.out.set_ (q := 4) (by omega) _ (set_mk (m2 := ⟨⟨r0, nd, p, nn, 3⟩, st, fo, en, so⟩) (fun r hr hne => by match r, hr, hne with | 0, _, _ => rfl | 1, _, _ => rfl | 2, _, _ => rfl | 3, _, _ => rfl | 4, _, h => exact absurd rfl h | 5, _, _ => rfl | 6, _, _ => rfl | 7, _, _ => rfl | 8, _, _ => rfl) rfl) _ rfl).set_ (q := 4) (by omega) _ (set_mk (fun r hr hne => by match r, hr, hne with | 0, _, _ => rfl | 1, _, _ => rfl | 2, _, _ => rfl | 3, _, _ => rfl | 4, _, h => exact absurd rfl h | 5, _, _ => rfl | 6, _, _ => rfl | 7, _, _ => rfl | 8, _, _ => rfl) rfl) _ rfl)⟩
        · have q1 : (st == 3) = false := by simpa using g
          have HE3 := Lib.hid (show t5 ⟨⟨r0, nd, p, nn, kk⟩, st, fo, en, so⟩ = ⟨⟨r0, nd, p, nn, 3⟩, st, fo, en, so⟩ by rw [HE.out]; simp [g])
          clear g
          go_enter Try.func54, Try.ntmps54
          go_wp2_with (first
      | (go_at_call 45; (with_reducible refine (H0.out _).mono ?_); rintro e w1 ⟨rfl, b1⟩; have T1 := Lib.hid (HT.out.more b1); obtain ⟨⟨c0, c1, c2, c3, c4, c5, c6, c7, c8⟩, fz⟩ := T1.out.cells; simp only at c0 c1 c2 c3 c4 c5 c6 c7 c8; have f0 := fz (i * 9); have f4 := fz (i * 9 + 4); clear b1 fz)
      | (go_at_call 39; (with_reducible refine (H1.out _).mono ?_); rintro e w2 ⟨rfl, b2⟩; have T2 := Lib.hid (T1.out.more b2); obtain ⟨⟨c0, c1, c2, c3, c4, c5, c6, c7, c8⟩, fz⟩ := T2.out.cells; simp only at c0 c1 c2 c3 c4 c5 c6 c7 c8; have f0 := fz (i * 9); have f4 := fz (i * 9 + 4); clear b2 fz)
      | (go_at_call 39; (with_reducible refine (H2.out _).mono ?_); rintro e w3 ⟨rfl, b3⟩; have T3 := Lib.hid (T2.out.more b3); obtain ⟨⟨c0, c1, c2, c3, c4, c5, c6, c7, c8⟩, fz⟩ := T3.out.cells; simp only at c0 c1 c2 c3 c4 c5 c6 c7 c8; have f0 := fz (i * 9); have f4 := fz (i * 9 + 4); clear b3 fz))
          go_end0
          exact ⟨rfl, by rw [HE3.out]; exact (T3.out.set_ (q := 4) (by omega) _ (set_mk (fun r hr hne => by match r, hr, hne with | 0, _, _ => rfl | 1, _, _ => rfl | 2, _, _ => rfl | 3, _, _ => rfl | 4, _, h => exact absurd rfl h | 5, _, _ => rfl | 6, _, _ => rfl | 7, _, _ => rfl | 8, _, _ => rfl) rfl) _ rfl)⟩
end Go.Proofs.Ytmjacmjogckihaa.White
