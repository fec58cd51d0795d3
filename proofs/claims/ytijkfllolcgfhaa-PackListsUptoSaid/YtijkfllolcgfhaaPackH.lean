/- Chapter 3: the head of the laws, walked: it is true. No condition. -/
import Derived.Test.YtijkfllolcgfhaaPackI
namespace Go.Proofs.Ytijkfllolcgfhaa.Pack
open Go.RowKit
set_option linter.unusedVariables false
set_option linter.unusedSimpArgs false

theorem bytes_lit (g : Nat) (r : Option Nat) (p : Option Addr) (l L : List UInt8) (w : World) (hs : WrS w g r p (some l)) (hL : l = L) :
    Calls Try.prog 17 #[.pointer p] w fun e w' => e = .returned (strV L) ∧ w = w' := by
  subst hL
  exact bytes_any g r p (some l) w hs
/-- A writer's step, its bytes and its blocks. -/
theorem wstep {w w' : World} {g : Nat} {r : Option Nat} {p : Option Addr} {l news : List UInt8} {e : Ending} (h : WPost w g r p ((some l).map (· ++ news)) e w') : e = .returned (.tuple #[]) ∧ ∃ r', WrS w' g r' p (some (l ++ news)) ∧ WF true g r w r' w' := h
theorem len_some {l : List UInt8} {M : Nat} (h : l.length ≤ M) : ∀ l', some l = some l' → l'.length ≤ M := fun l' e => by cases e; exact h
theorem len_sum {l : List UInt8} {k M : Nat} (h : l.length + k ≤ M) : ∀ l', some l = some l' → l'.length + k ≤ M := fun l' e => by cases e; exact h
theorem lit_apart {w : World} {g : Nat} {r : Option Nat} {p : Option Addr} {o : Option (List UInt8)} (h : WrS w g r p o) : ∀ ad, some (⟨w.heap.size, 0, none⟩ : Addr) = some ad → ¬ WSet o.isSome g r ad.block := by
  intro ad e hs
  cases e
  exact absurd (h.lt hs) (Nat.lt_irrefl _)
theorem nil_apart {b : Bool} {g : Nat} {r : Option Nat} : ∀ ad, (none : Option Addr) = some ad → ¬ WSet b g r ad.block := fun ad e => by cases e
theorem rdnum_lit (g : Nat) (p : Option Addr) (b : List UInt8) (n : Int) (st' : Option (List UInt8)) (w : World) (h : RdS w g p true (some b)) (hb : b.length ≤ 100) (he : (((tnS (some b)).1 : Nat) : Int) = n ∧ (tnS (some b)).2 = st') :
    Calls Try.prog 36 #[.pointer p] w (RPost w g p true (.int .u64 n) st') := by
  obtain ⟨rfl, rfl⟩ := he
  exact rdnum_any g p true (some b) w h (len_some (by omega))
theorem end_lit (g : Nat) (p : Option Addr) (b : List UInt8) (n : Int) (w : World) (h : RdS w g p true (some b)) (he : endS true (some b) = n) :
    Calls Try.prog 28 #[.pointer p] w fun e w' => e = .returned (.int .i64 n) ∧ w = w' := by
  subst he
  exact end_any g p true (some b) w h
theorem new_rdl (l : List UInt8) (w : World) : RdS (w.alloc (.cells #[strV l, .bool true, .bool true] 70)) w.heap.size (some ⟨w.heap.size, 0, none⟩) true (some l) := .inl ⟨rfl, Blk.new w _ _⟩
theorem new_rdl_at (l : List UInt8) (w : World) (b : Nat) (hb : w.heap.size = b) : RdS (w.alloc (.cells #[strV l, .bool true, .bool true] 70)) b (some ⟨b, 0, none⟩) true (some l) := by subst hb; exact new_rdl l w
theorem newr_lit (l : List UInt8) (w : World) : Calls Try.prog 24 #[strV l] w fun e w' => e = .returned (.pointer (some ⟨w.heap.size, 0, none⟩)) ∧ w.alloc (.cells #[strV l, .bool true, .bool true] 70) = w' := newr_any _ w
theorem RdS.rd {w w' : World} {g g' : Nat} {made : Bool} {st : Option (List UInt8)} (h : RdS w g (some ⟨g, 0, none⟩) made st) (hf : Far (RSet (some ⟨g', 0, none⟩)) w w') (hg : g ≠ g') : RdS w' g (some ⟨g, 0, none⟩) made st := h.far hf (fun _ e => hg (by cases e; rfl))
theorem WrS.rd {w w' : World} {g g' : Nat} {r : Option Nat} {p : Option Addr} {o : Option (List UInt8)} (h : WrS w g r p o) (hf : Far (RSet (some ⟨g', 0, none⟩)) w w') (hg : g ≠ g') (hr : r ≠ some g') : WrS w' g r p o :=
  h.far hf (fun e => hg (by cases e; rfl)) (fun k hk e => hr (by cases e; exact hk))
theorem WrS.r_lt {w : World} {g : Nat} {r : Option Nat} {p : Option Addr} {l : List UInt8} (h : WrS w g r p (some l)) : ∀ k, r = some k → k < w.heap.size := fun k hk => h.lt (k := k) ⟨rfl, .inr hk⟩
theorem WF.bel {w0 w' : World} {g B : Nat} {r' : Option Nat} {b : Bool} (h : WF b g none w0 r' w') (hg : B ≤ g) (hB : B ≤ w0.heap.size) : Below B w0 w' := h.far.to_below hB (fun k hk => by rcases hk.2 with rfl | h; exact hg; cases h)
theorem Far.bel {w0 w' : World} {g B : Nat} (h : Far (RSet (some ⟨g, 0, none⟩)) w0 w') (hg : B ≤ g) (hB : B ≤ w0.heap.size) : Below B w0 w' := h.to_below hB (fun k hk => by cases hk; exact hg)
set_option maxHeartbeats 8000000 in
set_option maxRecDepth 20000 in
theorem head_any (w : World) : Calls Try.prog 10 #[] w fun e w' => e = .returned (.bool true) ∧ Below w.heap.size w w' := by
  have S0 := Lib.hid (new_wr w)
  have F0 := Lib.hid (WF.refl true w.heap.size none (w.alloc (.cells #[.slice none 0 0, .bool true] 67)))
  go_enter Try.func10, Try.ntmps10
  go_wp2_with (first
    | (go_at_call 15; refine (new_any _).mono ?_; rintro e w' ⟨rfl, rfl⟩)
    | (go_at_call 21; (with_reducible refine (num_any _ _ _ _ 247 _ S0.out (by decide) (by decide) (len_some (by decide))).mono ?_); rintro e w1 h; obtain ⟨rfl, r1, hs, hf⟩ := wstep h; have S1 := Lib.hid hs; have F1 := Lib.hid (F0.out.trans hf); clear hs hf h)
    | (go_at_call 21; (with_reducible refine (num_any _ _ _ _ 248 _ S1.out (by decide) (by decide) (len_some (by decide))).mono ?_); rintro e w2 h; obtain ⟨rfl, r2, hs, hf⟩ := wstep h; have S2 := Lib.hid hs; have F2 := Lib.hid (F1.out.trans hf); clear hs hf h)
    | (go_at_call 21; (with_reducible refine (num_any _ _ _ _ 65536 _ S2.out (by decide) (by decide) (len_some (by decide))).mono ?_); rintro e w3 h; obtain ⟨rfl, r3, hs, hf⟩ := wstep h; have S3 := Lib.hid hs; have F3 := Lib.hid (F2.out.trans hf); clear hs hf h)
    | (go_at_call 22; (with_reducible refine (int_any _ _ _ _ (-1) _ S3.out (by decide) (by decide) (len_some (by decide))).mono ?_); rintro e w4 h; obtain ⟨rfl, r4, hs, hf⟩ := wstep h; have S4 := Lib.hid hs; have F4 := Lib.hid (F3.out.trans hf); clear hs hf h)
    | (go_at_call 22; (with_reducible refine (int_any _ _ _ _ 124 _ S4.out (by decide) (by decide) (len_some (by decide))).mono ?_); rintro e w5 h; obtain ⟨rfl, r5, hs, hf⟩ := wstep h; have S5 := Lib.hid hs; have F5 := Lib.hid (F4.out.trans hf); clear hs hf h)
    | (go_at_call 37; (with_reducible refine (truth_any _ _ _ _ true _ S5.out (len_some (by decide))).mono ?_); rintro e w6 h; obtain ⟨rfl, r6, hs, hf⟩ := wstep h; have S6 := Lib.hid hs; have F6 := Lib.hid (F5.out.trans hf); clear hs hf h)
    | (go_at_call 23; (with_reducible refine (text_any _ _ _ _ ⟨#[97, 98]⟩ _ S6.out (by decide) (len_some (by decide))).mono ?_); rintro e w7 h; obtain ⟨rfl, r7, hs, hf⟩ := wstep h; have S7 := Lib.hid hs; have F7 := Lib.hid (F6.out.trans hf); clear hs hf h)
    | (go_at_call 19; (with_reducible refine (ints_any _ _ _ _ _ 2 2 _ [1, -1] _ (S7.out.below (bel_alloc (Below.refl _ _) (.cells #[.int .i64 1, .int .i64 (-1)] 2))) (reads_new w7 2 #[.int .i64 1, .int .i64 (-1)] 2 _ rfl rfl) (Nat.le_refl _) (fun _ => lit_apart S7.out) (by decide) (by decide) (len_sum (by decide +kernel))).mono ?_); rintro e w8 h; obtain ⟨rfl, r8, hs, hf⟩ := wstep h; have S8 := Lib.hid hs; have F8 := Lib.hid (F7.out.trans ((WF.of_below (bel_alloc (Below.refl _ _) _)).trans hf)); clear hs hf h)
    | (go_at_call 20; (with_reducible refine (texts_any _ _ _ _ none 0 0 0 [] _ S8.out Reads.none_ (Nat.zero_le _) (fun _ => nil_apart) (by decide) (by decide) (len_sum (by decide +kernel))).mono ?_); rintro e w9 h; obtain ⟨rfl, r9, hs, hf⟩ := wstep h; have S9 := Lib.hid hs; have F9 := Lib.hid (F8.out.trans hf); clear hs hf h)
    | (go_at_call 24; (with_reducible refine (newr_lit _ _).mono ?_); rintro e w' ⟨rfl, rfl⟩)
    | (go_at_call 36; (with_reducible refine (rdnum_lit _ _ [248, 7] 0 none _ (new_rdl [248, 7] w9) (by decide) (by decide +kernel)).mono ?_); rintro e u1 ⟨rfl, hr, hf⟩; have R1 := Lib.hid hr; have E1 := Lib.hid hf; have T1 := Lib.hid ((S9.out.below (bel_alloc (Below.refl _ _) _)).rd hf (fun e => by have := S9.out.lt (k := w.heap.size) ⟨rfl, .inl rfl⟩; omega) (fun e => by have := S9.out.r_lt _ e; omega)); clear hr hf)
    | (go_at_call 36; (with_reducible refine (rdnum_lit _ _ [249, 0, 255] 0 none _ (new_rdl [249, 0, 255] u1) (by decide) (by decide +kernel)).mono ?_); rintro e u2 ⟨rfl, hr, hf⟩; have R2 := Lib.hid hr; have E2 := Lib.hid hf; have R1b := Lib.hid ((R1.out.below (bel_alloc (Below.refl _ _) _)).rd hf (fun e => by have := R1.out.lt (k := w9.heap.size) rfl; omega)); have T2 := Lib.hid ((T1.out.below (bel_alloc (Below.refl _ _) _)).rd hf (fun e => by have := T1.out.lt (k := w.heap.size) ⟨rfl, .inl rfl⟩; omega) (fun e => by have := T1.out.r_lt _ e; omega)); clear hr hf)
    | (go_at_call 17; (with_reducible refine (bytes_lit _ _ _ _ [247, 248, 248, 250, 1, 0, 0, 1, 248, 248, 1, 2, 97, 98, 2, 2, 1, 0] _ T2.out (by decide +kernel)).mono ?_); rintro e w' ⟨rfl, rfl⟩)
    | (go_at_call 27; (with_reducible refine (fine_any _ _ true none _ R1b.out).mono ?_); rintro e w' ⟨rfl, rfl⟩)
    | (go_at_call 27; (with_reducible refine (fine_any _ _ true none _ R2.out).mono ?_); rintro e w' ⟨rfl, rfl⟩)
    | (go_at_call 29; (with_reducible refine (left_any _ _ true none _ R1b.out).mono ?_); rintro e w' ⟨rfl, rfl⟩)
    | (go_at_call 28; (with_reducible refine (end_lit _ _ [] 0 _ (new_rdl [] u2) (by decide)).mono ?_); rintro e w' ⟨rfl, rfl⟩)
    | (go_at_call 28; (with_reducible refine (end_lit _ _ [97] 5 _ (new_rdl_at [97] (u2.alloc _) (u2.heap.size + 1) (World.size_alloc _ _)) (by decide)).mono ?_); rintro e w' ⟨rfl, rfl⟩)
    )
  go_ret
  refine ⟨rfl, ?_⟩
  have B9 : Below w.heap.size w w9 := (bel_alloc (Below.refl _ _) _).trans (F9.out.bel (B := w.heap.size) (Nat.le_refl _) (by simp))
  have l9 := B9.size
  have B10 : Below w.heap.size w u1 := (bel_alloc B9 _).trans (E1.out.bel l9 (by simp; omega))
  have l10 := B10.size
  have B11 : Below w.heap.size w u2 := (bel_alloc B10 _).trans (E2.out.bel l10 (by simp; omega))
  exact bel_alloc (bel_alloc B11 _) _
end Go.Proofs.Ytijkfllolcgfhaa.Pack
