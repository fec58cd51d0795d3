/- Chapter 19: each way above, walked; shift.Shift, shift.Moved and the reference's Shift, walked. No condition. -/
import Derived.Test.YtdjbcbdgcejcmaaShift
import Derived.Deep.DrawnRows
namespace Go.Proofs.Ytdjbcbdgcejcmaa.Unit
open Go.RowKit Go.Proofs.Ytdjbcbdgcejcmaa.Div Go.Great
set_option linter.unusedVariables false

theorem reads_at (w : World) (t : TypeId) (cs : Array Value) (n g : Nat) (xs : List Value) (h : cs.toList = xs) (hn : xs.length = n) (hg : w.heap.size = g) :
    Reads (w.alloc (.cells cs t)) (w.alloc (.cells cs t)).heap.size 1 (some ⟨g, 0, none⟩) n xs := by
  subst hg
  exact reads_new w t cs n xs h hn
theorem box3 {w w1 : World} {c0 c1 c2 : Array Value} {t0 t1 t2 : TypeId} (hb : Below (((w.alloc (.cells c0 t0)).alloc (.cells c1 t1)).alloc (.cells c2 t2)).heap.size (((w.alloc (.cells c0 t0)).alloc (.cells c1 t1)).alloc (.cells c2 t2)) w1) :
    Blk w1 w.heap.size t0 c0 ∧ Blk w1 (w.heap.size + 1) t1 c1 ∧ Blk w1 (w.heap.size + 1 + 1) t2 c2 ∧ Below w.heap.size w w1 := by
  have h0 := ((Blk.new w t0 c0).alloc (.cells c1 t1)).alloc (.cells c2 t2)
  have h1 := (Blk.new (w.alloc (.cells c0 t0)) t1 c1).alloc (.cells c2 t2)
  have h2 := Blk.new ((w.alloc (.cells c0 t0)).alloc (.cells c1 t1)) t2 c2
  rw [World.size_alloc] at h1 h2
  rw [World.size_alloc] at h2
  exact ⟨h0.keep hb, h1.keep hb, h2.keep hb, bel_trans (bel_alloc (bel_alloc (bel_alloc (Below.refl _ _) _) _) _) hb⟩
/-- What lies in memory when Shift looks at its arguments. -/
structure ShMem (w W : World) (g : Nat) (k n A B U D X S H : Int) : Prop where
  v : Blk W w.heap.size 23 #[.int .u8 k, .int .i64 n]
  b : Blk W (w.heap.size + 1) 25 #[.int .i64 A, .int .i64 B]
  a : Blk W (w.heap.size + 1 + 1) 27 #[.int .i64 U, .int .i64 D, .int .i64 X, .int .i64 S, .int .i64 H]
  t : Blk W g 41 waysC
  bel : Below w.heap.size w W
theorem ShMem.cells {w W : World} {g : Nat} {k n A B U D X S H : Int} (h : ShMem w W g k n A B U D X S H) :
    W.cell? ⟨w.heap.size, 0, none⟩ = some (.int .u8 k) ∧ W.cell? ⟨w.heap.size, 1, none⟩ = some (.int .i64 n) ∧ W.cell? ⟨w.heap.size + 1, 0, none⟩ = some (.int .i64 A) ∧ W.cell? ⟨w.heap.size + 1, 1, none⟩ = some (.int .i64 B) ∧
    W.cell? ⟨w.heap.size + 1 + 1, 0, none⟩ = some (.int .i64 U) ∧ W.cell? ⟨w.heap.size + 1 + 1, 1, none⟩ = some (.int .i64 D) ∧ W.cell? ⟨w.heap.size + 1 + 1, 2, none⟩ = some (.int .i64 X) ∧ W.cell? ⟨w.heap.size + 1 + 1, 3, none⟩ = some (.int .i64 S) ∧ W.cell? ⟨w.heap.size + 1 + 1, 4, none⟩ = some (.int .i64 H) :=
  ⟨h.v.cell 0, h.v.cell 1, h.b.cell 0, h.b.cell 1, h.a.cell 0, h.a.cell 1, h.a.cell 2, h.a.cell 3, h.a.cell 4⟩
theorem ShMem.mk_ {w w1 : World} {k n A B U D X S H : Int} (hb : Below (((w.alloc (.cells #[.int .u8 k, .int .i64 n] 23)).alloc (.cells #[.int .i64 A, .int .i64 B] 25)).alloc (.cells #[.int .i64 U, .int .i64 D, .int .i64 X, .int .i64 S, .int .i64 H] 27)).heap.size
    (((w.alloc (.cells #[.int .u8 k, .int .i64 n] 23)).alloc (.cells #[.int .i64 A, .int .i64 B] 25)).alloc (.cells #[.int .i64 U, .int .i64 D, .int .i64 X, .int .i64 S, .int .i64 H] 27)) w1) :
    ShMem w (w1.alloc (.cells waysC 41)) w1.heap.size k n A B U D X S H := by
  obtain ⟨h0, h1, h2, h3⟩ := box3 hb
  exact ⟨h0.alloc _, h1.alloc _, h2.alloc _, Blk.boxed _ _ _, bel_alloc h3 _⟩
theorem ShMem.alloc {w W : World} {g : Nat} {k n A B U D X S H : Int} (h : ShMem w W g k n A B U D X S H) (o : Obj) (m : Nat) : ShMem w ((W.alloc o).drewN m) g k n A B U D X S H :=
  ⟨(h.v.alloc o).drewN m, (h.b.alloc o).drewN m, (h.a.alloc o).drewN m, (h.t.alloc o).drewN m, bel_drewN (bel_alloc h.bel o) m⟩
theorem ShMem.keep {w W W1 : World} {g : Nat} {k n A B U D X S H : Int} (h : ShMem w W g k n A B U D X S H) (hb : Below W.heap.size W W1) : ShMem w W1 g k n A B U D X S H :=
  ⟨h.v.keep hb, h.b.keep hb, h.a.keep hb, h.t.keep hb, bel_trans h.bel hb⟩
theorem ShMem.drew {w W : World} {g : Nat} {k n A B U D X S H : Int} (h : ShMem w W g k n A B U D X S H) : ShMem w W.drew g k n A B U D X S H := ⟨h.v.drew, h.b.drew, h.a.drew, h.t.drew, h.bel.drew⟩
abbrev ShHeld (w W : World) (g : Nat) (i : Nat) (f e : Value) (k n A B U D X S H : Int) : Prop :=
  W.cell? ⟨w.heap.size, 0, none⟩ = some (.int .u8 k) ∧ W.cell? ⟨w.heap.size, 1, none⟩ = some (.int .i64 n) ∧ W.cell? ⟨w.heap.size + 1, 0, none⟩ = some (.int .i64 A) ∧ W.cell? ⟨w.heap.size + 1, 1, none⟩ = some (.int .i64 B) ∧
    W.cell? ⟨w.heap.size + 1 + 1, 0, none⟩ = some (.int .i64 U) ∧ W.cell? ⟨w.heap.size + 1 + 1, 1, none⟩ = some (.int .i64 D) ∧ W.cell? ⟨w.heap.size + 1 + 1, 2, none⟩ = some (.int .i64 X) ∧ W.cell? ⟨w.heap.size + 1 + 1, 3, none⟩ = some (.int .i64 S) ∧ W.cell? ⟨w.heap.size + 1 + 1, 4, none⟩ = some (.int .i64 H) ∧
    W.cell? ⟨g, i * 2, none⟩ = some f ∧ W.cell? ⟨g, i * 2 + 1, none⟩ = some e
theorem ShMem.held {w W : World} {g i : Nat} {f e : Value} {k n A B U D X S H : Int} (h : ShMem w W g k n A B U D X S H) (hf : waysC[i * 2]? = some f) (he : waysC[i * 2 + 1]? = some e) : ShHeld w W g i f e k n A B U D X S H :=
  ⟨h.v.cell 0, h.v.cell 1, h.b.cell 0, h.b.cell 1, h.a.cell 0, h.a.cell 1, h.a.cell 2, h.a.cell 3, h.a.cell 4, (h.t.cell _).trans hf, (h.t.cell _).trans he⟩
def shUp (k : Nat) (n A B U D X S H : Int) : Int :=
  if k = 1 then -rnd (S * 1) 5 else if k = 2 then rnd (S * 1) 3 else if k = 3 then U - A else if k = 4 then B - D else if k = 5 then (X - A + B) / 2 else if k = 6 then n else if k = 7 then rnd (n * H) 64 else 0
def shEd (k : Nat) : Int := if k = 8 then 1 else if k = 9 then 2 else 0
structure Small8 (n A B U D X S H : Int) : Prop where
  n : -1073741824 ≤ n ∧ n ≤ 1073741824
  A : -1073741824 ≤ A ∧ A ≤ 1073741824
  B : -1073741824 ≤ B ∧ B ≤ 1073741824
  U : -1073741824 ≤ U ∧ U ≤ 1073741824
  D : -1073741824 ≤ D ∧ D ≤ 1073741824
  X : -1073741824 ≤ X ∧ X ≤ 1073741824
  S : -1073741824 ≤ S ∧ S ≤ 1073741824
  H : -1073741824 ≤ H ∧ H ≤ 1073741824
theorem small8 {n A B U D X S H : Int} (h : allU [n, A, B, U, D, X, S, H] = true) : Small8 n A B U D X S H := by
  simp [allU, mayU] at h
  obtain ⟨h1, h2, h3, h4, h5, h6, h7, h8⟩ := h
  exact ⟨h1, h2, h3, h4, h5, h6, h7, h8⟩
abbrev boxV (A B : Int) : Value := .agg #[.int .i64 A, .int .i64 B]
abbrev arV (U D X S H : Int) : Value := .agg #[.int .i64 U, .int .i64 D, .int .i64 X, .int .i64 S, .int .i64 H]
abbrev cUp (f : FuncId) (v n A B U D X S H : Int) : Prop := ∀ W, Calls Try.prog f #[.int .i64 n, boxV A B, arV U D X S H] W fun e w' => e = .returned (.int .i64 v) ∧ Below W.heap.size W w'

theorem part_any (n b o v : Int) (h : Hid (cC n b o v 0)) (w : World) : Calls Try.prog 18 #[.int .i64 n, .int .i64 b, .int .i64 o] w fun e w' => e = .returned (.int .i64 v) ∧ Drawn w w' := by
  go_enter Try.func18, Try.ntmps18
  go_wp2_with (go_at_call 31; ((with_reducible refine (h.out _).mono ?_); rintro e w1 ⟨rfl, ⟨m1, rfl⟩⟩))
  go_ret
  exact ⟨rfl, ⟨⟨_, rfl⟩⟩⟩
theorem none_any (n A B U D X S H : Int) : cUp 16 0 n A B U D X S H := fun W => by
  go_enter Try.func16, Try.ntmps16
  go_wp2
  go_ret
  exact ⟨rfl, by repeat (first | exact Below.refl _ _ | refine bel_alloc ?_ _)⟩
theorem rnd_bd (P o N : Int) (ho : 1 ≤ o) (h0 : -N ≤ P) (h1 : P ≤ N) (hN : 0 ≤ N) : -N ≤ rnd P o ∧ rnd P o ≤ N := by
  have hm := Int.mul_le_mul_of_nonneg_left ho hN
  have a1 := rnd_mono (-N * o) P o ho (by rw [Int.neg_mul]; omega)
  have a2 := rnd_mono P (N * o) o ho (by omega)
  rw [rnd_self _ o ho] at a1 a2
  exact ⟨a1, a2⟩

section
variable {n A B U D X S H : Int}
theorem way1 (h : Small8 n A B U D X S H) : cUp 17 (-rnd (S * 1) 5) n A B U D X S H := fun W => by
  have b := rnd_bd (S * 1) 5 1073741824 (by omega) (by have := h.S; omega) (by have := h.S; omega) (by omega)
  have C := Lib.hid (scale_in S 1 5 (by omega) (by omega) (by have := h.S; omega) (by have := h.S; omega) (by omega) (by omega)).1
  generalize rnd (S * 1) 5 = v at *
  have e : wrap64 (-v) = -v := by unfold wrap64; omega
  obtain ⟨b0, b1⟩ := b
  go_enter Try.func17, Try.ntmps17
  go_wp2_with (go_at_call 18; refine (part_any _ _ _ v C _).mono ?_; rintro e w1 ⟨rfl, ⟨m1, rfl⟩⟩)
  go_ret
  exact ⟨rfl, by repeat (first | exact Below.refl _ _ | refine bel_alloc ?_ _ | refine bel_drewN ?_ _)⟩
theorem way2 (h : Small8 n A B U D X S H) : cUp 19 (rnd (S * 1) 3) n A B U D X S H := fun W => by
  have C := Lib.hid (scale_in S 1 3 (by omega) (by omega) (by have := h.S; omega) (by have := h.S; omega) (by omega) (by omega)).1
  generalize rnd (S * 1) 3 = v at *
  go_enter Try.func19, Try.ntmps19
  go_wp2_with (go_at_call 18; refine (part_any _ _ _ v C _).mono ?_; rintro e w1 ⟨rfl, ⟨m1, rfl⟩⟩)
  go_ret
  exact ⟨rfl, by repeat (first | exact Below.refl _ _ | refine bel_alloc ?_ _ | refine bel_drewN ?_ _)⟩
theorem way3 (h : Small8 n A B U D X S H) : cUp 20 (U - A) n A B U D X S H := fun W => by
  obtain ⟨u0, u1⟩ := h.U
  obtain ⟨a0, a1⟩ := h.A
  go_enter Try.func20, Try.ntmps20
  go_wp2
  go_ret
  exact ⟨rfl, by repeat (first | exact Below.refl _ _ | refine bel_alloc ?_ _ | refine bel_drewN ?_ _)⟩
theorem way4 (h : Small8 n A B U D X S H) : cUp 21 (B - D) n A B U D X S H := fun W => by
  obtain ⟨u0, u1⟩ := h.B
  obtain ⟨a0, a1⟩ := h.D
  go_enter Try.func21, Try.ntmps21
  go_wp2
  go_ret
  exact ⟨rfl, by repeat (first | exact Below.refl _ _ | refine bel_alloc ?_ _ | refine bel_drewN ?_ _)⟩
theorem way5 (h : Small8 n A B U D X S H) : cUp 22 ((X - A + B) / 2) n A B U D X S H := fun W => by
  obtain ⟨u0, u1⟩ := h.B
  obtain ⟨a0, a1⟩ := h.A
  obtain ⟨x0, x1⟩ := h.X
  have C := Lib.hid (fun W => halves_any (X - A + B) (by omega) (by omega) W)
  generalize hv : (X - A + B) / 2 = v at *
  have HV := Lib.hid hv
  clear hv
  go_enter Try.func22, Try.ntmps22
  go_wp2_with (go_at_call 23; ((with_reducible refine (C.out _).mono ?_); rintro e w1 ⟨rfl, ⟨m1, rfl⟩⟩))
  go_ret
  exact ⟨rfl, by repeat (first | exact Below.refl _ _ | refine bel_alloc ?_ _ | refine bel_drewN ?_ _)⟩
theorem way6 (h : Small8 n A B U D X S H) : cUp 24 n n A B U D X S H := fun W => by
  go_enter Try.func24, Try.ntmps24
  go_wp2
  go_ret
  exact ⟨rfl, by repeat (first | exact Below.refl _ _ | refine bel_alloc ?_ _ | refine bel_drewN ?_ _)⟩
theorem way7 (h : Small8 n A B U D X S H) : cUp 25 (rnd (n * H) 64) n A B U D X S H := fun W => by
  have C := Lib.hid (scale_in n H 64 (by omega) (by omega) (by have := h.n; omega) (by have := h.n; omega) (by have := h.H; omega) (by have := h.H; omega)).1
  generalize rnd (n * H) 64 = v at *
  go_enter Try.func25, Try.ntmps25
  go_wp2_with (go_at_call 18; refine (part_any _ _ _ v C _).mono ?_; rintro e w1 ⟨rfl, ⟨m1, rfl⟩⟩)
  go_ret
  exact ⟨rfl, by repeat (first | exact Below.refl _ _ | refine bel_alloc ?_ _ | refine bel_drewN ?_ _)⟩
theorem way_any (k : Nat) (hk : k < 10) (h : Small8 n A B U D X S H) : ∃ f, (f = 16 ∨ f = 17 ∨ f = 19 ∨ f = 20 ∨ f = 21 ∨ f = 22 ∨ f = 24 ∨ f = 25) ∧ waysC[k * 2]? = some (.func (.func f) #[] #[]) ∧ waysC[k * 2 + 1]? = some (.int .u8 (shEd k)) ∧ cUp f (shUp k n A B U D X S H) n A B U D X S H := by
  rcases (show k = 0 ∨ k = 1 ∨ k = 2 ∨ k = 3 ∨ k = 4 ∨ k = 5 ∨ k = 6 ∨ k = 7 ∨ k = 8 ∨ k = 9 by omega) with rfl | rfl | rfl | rfl | rfl | rfl | rfl | rfl | rfl | rfl
  · exact ⟨_, by simp, rfl, rfl, none_any _ _ _ _ _ _ _ _⟩
  · exact ⟨_, by simp, rfl, rfl, way1 h⟩
  · exact ⟨_, by simp, rfl, rfl, way2 h⟩
  · exact ⟨_, by simp, rfl, rfl, way3 h⟩
  · exact ⟨_, by simp, rfl, rfl, way4 h⟩
  · exact ⟨_, by simp, rfl, rfl, way5 h⟩
  · exact ⟨_, by simp, rfl, rfl, way6 h⟩
  · exact ⟨_, by simp, rfl, rfl, way7 h⟩
  · exact ⟨_, by simp, rfl, rfl, none_any _ _ _ _ _ _ _ _⟩
  · exact ⟨_, by simp, rfl, rfl, none_any _ _ _ _ _ _ _ _⟩
end

theorem moved_any (a b u : Int) (w : World) : Calls Try.prog 9 #[boxV a b, .int .i64 u] w fun e w' => e = .returned (boxV (wrap64 (a + u)) (wrap64 (b - u))) ∧ Below w.heap.size w w' := by
  go_enter Try.func9, Try.ntmps9
  go_wp2
  exact bodyPost_ret (v := boxV (wrap64 (a + u)) (wrap64 (b - u))) (by simp [results, Try.results9, go_sem]) rfl ⟨rfl, by repeat (first | exact Below.refl _ _ | refine bel_alloc ?_ _)⟩

abbrev vaV (k n : Int) : Value := .agg #[.int .u8 k, .int .i64 n]
abbrev shR (v d e : Int) : Ending := .returned (.tuple #[.int .i64 v, .int .u8 d, .int .i64 e])
set_option maxHeartbeats 4000000 in
set_option maxRecDepth 100000 in
theorem shift_no (k : Nat) (n A B U D X S H : Int) (ok : Bool) (hk8 : (k : Int) ≤ 255) (h : 10 ≤ k ∨ k < 10 ∧ ok = false) (hok : Hid (allU [n, A, B, U, D, X, S, H] = ok)) (w : World) :
    Calls Try.prog 6 #[vaV k n, boxV A B, arV U D X S H] w fun e w' => e = shR 0 0 2 ∧ Below w.heap.size w w' := by
  rcases h with h | ⟨h, rfl⟩
  all_goals
    go_enter Try.func6, Try.ntmps6
    go_wp2_with (first
      | (go_at_call 10; refine (ways_any _).mono ?_; rintro e w1 ⟨rfl, hb1⟩)
      | (refine wpList_store_rowTo rfl 41 _ _ rfl rfl w1.heap.size waysC (by rfl) (by rfl) 41 waysZ (heap_alloc_new w1 _) (by kernel_rfl) (by kernel_rfl) (by kernel_rfl) ?_; rw [World.setRow_alloc_new]; have MM := ShMem.mk_ hb1; generalize w1.alloc (.cells waysC 41) = W at MM ⊢; have HM := Lib.hid MM; obtain ⟨c0, c1, c2, c3, c4, c5, c6, c7, c8⟩ := MM.cells; clear MM)
      | (go_at_call 11; refine (shMay_any _ 8 8 [n, A, B, U, D, X, S, H] _ rfl ?_ (by omega)).mono ?_; exact reads_new _ _ _ _ _ rfl rfl; rintro e w2 ⟨rfl, ⟨m2, rfl⟩⟩; rw [hok.out]))
    go_ret3
    exact ⟨rfl, by first | exact HM.out.bel | exact (HM.out.alloc _ _).bel⟩

set_option maxHeartbeats 8000000 in
set_option maxRecDepth 100000 in
theorem shift_yes (k : Nat) (n A B U D X S H : Int) (hk : k < 10) (hok : Hid (allU [n, A, B, U, D, X, S, H] = true)) (w : World) :
    Calls Try.prog 6 #[vaV k n, boxV A B, arV U D X S H] w fun e w' => e = shR (shUp k n A B U D X S H) (shEd k) 0 ∧ Below w.heap.size w w' := by
  obtain ⟨f, h8, hf, he, HW⟩ := way_any k hk (small8 hok.out)
  generalize shUp k n A B U D X S H = v at HW ⊢
  generalize shEd k = d at he ⊢
  have HW := Lib.hid HW
  have HF := Lib.hid hf
  have HE := Lib.hid he
  clear hf he
  have H8 := Lib.hid h8
  clear h8
  have k1 : (k : Int) < 10 := by omega
  have k0 : (0 : Int) ≤ k := by omega
  go_enter Try.func6, Try.ntmps6
  go_wp2_with (first
    | (go_at_call 10; refine (ways_any _).mono ?_; rintro e w1 ⟨rfl, hb1⟩)
    | (refine wpList_store_rowTo rfl 41 _ _ rfl rfl w1.heap.size waysC (by rfl) (by rfl) 41 waysZ (heap_alloc_new w1 _) (by kernel_rfl) (by kernel_rfl) (by kernel_rfl) ?_; rw [World.setRow_alloc_new]; have MM := ShMem.mk_ hb1; generalize w1.alloc (.cells waysC 41) = W at MM ⊢; have HM := Lib.hid MM; obtain ⟨c0, c1, c2, c3, c4, c5, c6, c7, c8⟩ := MM.cells; clear MM)
    | (go_at_call 11; refine (shMay_any _ 8 8 [n, A, B, U, D, X, S, H] _ rfl ?_ (by omega)).mono ?_; exact reads_new _ _ _ _ _ rfl rfl; rintro e w2 ⟨rfl, ⟨m2, rfl⟩⟩; rw [hok.out]))
  have M2 := HM.out.alloc (.cells #[.int .i64 n, .int .i64 A, .int .i64 B, .int .i64 U, .int .i64 D, .int .i64 X, .int .i64 S, .int .i64 H] 2) m2
  generalize (W.alloc (.cells #[.int .i64 n, .int .i64 A, .int .i64 B, .int .i64 U, .int .i64 D, .int .i64 X, .int .i64 S, .int .i64 H] 2)).drewN m2 = V at M2 ⊢
  have HM2 := Lib.hid M2
  clear M2 c0 c1 c2 c3 c4 c5 c6 c7 c8
  rcases H8.out with rfl | rfl | rfl | rfl | rfl | rfl | rfl | rfl
  · go_region_held3 (fun w' => w'.cell? ⟨w.heap.size, 0, none⟩ = some (.int .u8 k) ∧ w'.cell? ⟨w.heap.size, 1, none⟩ = some (.int .i64 n) ∧ w'.cell? ⟨w.heap.size + 1, 0, none⟩ = some (.int .i64 A) ∧ w'.cell? ⟨w.heap.size + 1, 1, none⟩ = some (.int .i64 B) ∧
      w'.cell? ⟨w.heap.size + 1 + 1, 0, none⟩ = some (.int .i64 U) ∧ w'.cell? ⟨w.heap.size + 1 + 1, 1, none⟩ = some (.int .i64 D) ∧ w'.cell? ⟨w.heap.size + 1 + 1, 2, none⟩ = some (.int .i64 X) ∧ w'.cell? ⟨w.heap.size + 1 + 1, 3, none⟩ = some (.int .i64 S) ∧ w'.cell? ⟨w.heap.size + 1 + 1, 4, none⟩ = some (.int .i64 H) ∧
      w'.cell? ⟨w1.heap.size, k * 2, none⟩ = some (.func (.func 16) #[] #[]) ∧ w'.cell? ⟨w1.heap.size, k * 2 + 1, none⟩ = some (.int .u8 d))
      (first | exact HM2.out.held HF.out HE.out | exact (HM2.out.drew.keep hb6).held HF.out HE.out | go_keep)
      ((go_at_call 16; refine (HW.out _).mono ?_; rintro e w6 ⟨rfl, hb6⟩))
    go_wp2
    go_ret3
    exact ⟨rfl, bel_trans HM2.out.drew.bel hb6⟩
  · go_region_held3 (fun w' => w'.cell? ⟨w.heap.size, 0, none⟩ = some (.int .u8 k) ∧ w'.cell? ⟨w.heap.size, 1, none⟩ = some (.int .i64 n) ∧ w'.cell? ⟨w.heap.size + 1, 0, none⟩ = some (.int .i64 A) ∧ w'.cell? ⟨w.heap.size + 1, 1, none⟩ = some (.int .i64 B) ∧
      w'.cell? ⟨w.heap.size + 1 + 1, 0, none⟩ = some (.int .i64 U) ∧ w'.cell? ⟨w.heap.size + 1 + 1, 1, none⟩ = some (.int .i64 D) ∧ w'.cell? ⟨w.heap.size + 1 + 1, 2, none⟩ = some (.int .i64 X) ∧ w'.cell? ⟨w.heap.size + 1 + 1, 3, none⟩ = some (.int .i64 S) ∧ w'.cell? ⟨w.heap.size + 1 + 1, 4, none⟩ = some (.int .i64 H) ∧
      w'.cell? ⟨w1.heap.size, k * 2, none⟩ = some (.func (.func 17) #[] #[]) ∧ w'.cell? ⟨w1.heap.size, k * 2 + 1, none⟩ = some (.int .u8 d))
      (first | exact HM2.out.held HF.out HE.out | exact (HM2.out.drew.keep hb6).held HF.out HE.out | go_keep)
      ((go_at_call 17; refine (HW.out _).mono ?_; rintro e w6 ⟨rfl, hb6⟩))
    go_wp2
    go_ret3
    exact ⟨rfl, bel_trans HM2.out.drew.bel hb6⟩
  · go_region_held3 (fun w' => w'.cell? ⟨w.heap.size, 0, none⟩ = some (.int .u8 k) ∧ w'.cell? ⟨w.heap.size, 1, none⟩ = some (.int .i64 n) ∧ w'.cell? ⟨w.heap.size + 1, 0, none⟩ = some (.int .i64 A) ∧ w'.cell? ⟨w.heap.size + 1, 1, none⟩ = some (.int .i64 B) ∧
      w'.cell? ⟨w.heap.size + 1 + 1, 0, none⟩ = some (.int .i64 U) ∧ w'.cell? ⟨w.heap.size + 1 + 1, 1, none⟩ = some (.int .i64 D) ∧ w'.cell? ⟨w.heap.size + 1 + 1, 2, none⟩ = some (.int .i64 X) ∧ w'.cell? ⟨w.heap.size + 1 + 1, 3, none⟩ = some (.int .i64 S) ∧ w'.cell? ⟨w.heap.size + 1 + 1, 4, none⟩ = some (.int .i64 H) ∧
      w'.cell? ⟨w1.heap.size, k * 2, none⟩ = some (.func (.func 19) #[] #[]) ∧ w'.cell? ⟨w1.heap.size, k * 2 + 1, none⟩ = some (.int .u8 d))
      (first | exact HM2.out.held HF.out HE.out | exact (HM2.out.drew.keep hb6).held HF.out HE.out | go_keep)
      ((go_at_call 19; refine (HW.out _).mono ?_; rintro e w6 ⟨rfl, hb6⟩))
    go_wp2
    go_ret3
    exact ⟨rfl, bel_trans HM2.out.drew.bel hb6⟩
  · go_region_held3 (fun w' => w'.cell? ⟨w.heap.size, 0, none⟩ = some (.int .u8 k) ∧ w'.cell? ⟨w.heap.size, 1, none⟩ = some (.int .i64 n) ∧ w'.cell? ⟨w.heap.size + 1, 0, none⟩ = some (.int .i64 A) ∧ w'.cell? ⟨w.heap.size + 1, 1, none⟩ = some (.int .i64 B) ∧
      w'.cell? ⟨w.heap.size + 1 + 1, 0, none⟩ = some (.int .i64 U) ∧ w'.cell? ⟨w.heap.size + 1 + 1, 1, none⟩ = some (.int .i64 D) ∧ w'.cell? ⟨w.heap.size + 1 + 1, 2, none⟩ = some (.int .i64 X) ∧ w'.cell? ⟨w.heap.size + 1 + 1, 3, none⟩ = some (.int .i64 S) ∧ w'.cell? ⟨w.heap.size + 1 + 1, 4, none⟩ = some (.int .i64 H) ∧
      w'.cell? ⟨w1.heap.size, k * 2, none⟩ = some (.func (.func 20) #[] #[]) ∧ w'.cell? ⟨w1.heap.size, k * 2 + 1, none⟩ = some (.int .u8 d))
      (first | exact HM2.out.held HF.out HE.out | exact (HM2.out.drew.keep hb6).held HF.out HE.out | go_keep)
      ((go_at_call 20; refine (HW.out _).mono ?_; rintro e w6 ⟨rfl, hb6⟩))
    go_wp2
    go_ret3
    exact ⟨rfl, bel_trans HM2.out.drew.bel hb6⟩
  · go_region_held3 (fun w' => w'.cell? ⟨w.heap.size, 0, none⟩ = some (.int .u8 k) ∧ w'.cell? ⟨w.heap.size, 1, none⟩ = some (.int .i64 n) ∧ w'.cell? ⟨w.heap.size + 1, 0, none⟩ = some (.int .i64 A) ∧ w'.cell? ⟨w.heap.size + 1, 1, none⟩ = some (.int .i64 B) ∧
      w'.cell? ⟨w.heap.size + 1 + 1, 0, none⟩ = some (.int .i64 U) ∧ w'.cell? ⟨w.heap.size + 1 + 1, 1, none⟩ = some (.int .i64 D) ∧ w'.cell? ⟨w.heap.size + 1 + 1, 2, none⟩ = some (.int .i64 X) ∧ w'.cell? ⟨w.heap.size + 1 + 1, 3, none⟩ = some (.int .i64 S) ∧ w'.cell? ⟨w.heap.size + 1 + 1, 4, none⟩ = some (.int .i64 H) ∧
      w'.cell? ⟨w1.heap.size, k * 2, none⟩ = some (.func (.func 21) #[] #[]) ∧ w'.cell? ⟨w1.heap.size, k * 2 + 1, none⟩ = some (.int .u8 d))
      (first | exact HM2.out.held HF.out HE.out | exact (HM2.out.drew.keep hb6).held HF.out HE.out | go_keep)
      ((go_at_call 21; refine (HW.out _).mono ?_; rintro e w6 ⟨rfl, hb6⟩))
    go_wp2
    go_ret3
    exact ⟨rfl, bel_trans HM2.out.drew.bel hb6⟩
  · go_region_held3 (fun w' => w'.cell? ⟨w.heap.size, 0, none⟩ = some (.int .u8 k) ∧ w'.cell? ⟨w.heap.size, 1, none⟩ = some (.int .i64 n) ∧ w'.cell? ⟨w.heap.size + 1, 0, none⟩ = some (.int .i64 A) ∧ w'.cell? ⟨w.heap.size + 1, 1, none⟩ = some (.int .i64 B) ∧
      w'.cell? ⟨w.heap.size + 1 + 1, 0, none⟩ = some (.int .i64 U) ∧ w'.cell? ⟨w.heap.size + 1 + 1, 1, none⟩ = some (.int .i64 D) ∧ w'.cell? ⟨w.heap.size + 1 + 1, 2, none⟩ = some (.int .i64 X) ∧ w'.cell? ⟨w.heap.size + 1 + 1, 3, none⟩ = some (.int .i64 S) ∧ w'.cell? ⟨w.heap.size + 1 + 1, 4, none⟩ = some (.int .i64 H) ∧
      w'.cell? ⟨w1.heap.size, k * 2, none⟩ = some (.func (.func 22) #[] #[]) ∧ w'.cell? ⟨w1.heap.size, k * 2 + 1, none⟩ = some (.int .u8 d))
      (first | exact HM2.out.held HF.out HE.out | exact (HM2.out.drew.keep hb6).held HF.out HE.out | go_keep)
      ((go_at_call 22; refine (HW.out _).mono ?_; rintro e w6 ⟨rfl, hb6⟩))
    go_wp2
    go_ret3
    exact ⟨rfl, bel_trans HM2.out.drew.bel hb6⟩
  · go_region_held3 (fun w' => w'.cell? ⟨w.heap.size, 0, none⟩ = some (.int .u8 k) ∧ w'.cell? ⟨w.heap.size, 1, none⟩ = some (.int .i64 n) ∧ w'.cell? ⟨w.heap.size + 1, 0, none⟩ = some (.int .i64 A) ∧ w'.cell? ⟨w.heap.size + 1, 1, none⟩ = some (.int .i64 B) ∧
      w'.cell? ⟨w.heap.size + 1 + 1, 0, none⟩ = some (.int .i64 U) ∧ w'.cell? ⟨w.heap.size + 1 + 1, 1, none⟩ = some (.int .i64 D) ∧ w'.cell? ⟨w.heap.size + 1 + 1, 2, none⟩ = some (.int .i64 X) ∧ w'.cell? ⟨w.heap.size + 1 + 1, 3, none⟩ = some (.int .i64 S) ∧ w'.cell? ⟨w.heap.size + 1 + 1, 4, none⟩ = some (.int .i64 H) ∧
      w'.cell? ⟨w1.heap.size, k * 2, none⟩ = some (.func (.func 24) #[] #[]) ∧ w'.cell? ⟨w1.heap.size, k * 2 + 1, none⟩ = some (.int .u8 d))
      (first | exact HM2.out.held HF.out HE.out | exact (HM2.out.drew.keep hb6).held HF.out HE.out | go_keep)
      ((go_at_call 24; refine (HW.out _).mono ?_; rintro e w6 ⟨rfl, hb6⟩))
    go_wp2
    go_ret3
    exact ⟨rfl, bel_trans HM2.out.drew.bel hb6⟩
  · go_region_held3 (fun w' => w'.cell? ⟨w.heap.size, 0, none⟩ = some (.int .u8 k) ∧ w'.cell? ⟨w.heap.size, 1, none⟩ = some (.int .i64 n) ∧ w'.cell? ⟨w.heap.size + 1, 0, none⟩ = some (.int .i64 A) ∧ w'.cell? ⟨w.heap.size + 1, 1, none⟩ = some (.int .i64 B) ∧
      w'.cell? ⟨w.heap.size + 1 + 1, 0, none⟩ = some (.int .i64 U) ∧ w'.cell? ⟨w.heap.size + 1 + 1, 1, none⟩ = some (.int .i64 D) ∧ w'.cell? ⟨w.heap.size + 1 + 1, 2, none⟩ = some (.int .i64 X) ∧ w'.cell? ⟨w.heap.size + 1 + 1, 3, none⟩ = some (.int .i64 S) ∧ w'.cell? ⟨w.heap.size + 1 + 1, 4, none⟩ = some (.int .i64 H) ∧
      w'.cell? ⟨w1.heap.size, k * 2, none⟩ = some (.func (.func 25) #[] #[]) ∧ w'.cell? ⟨w1.heap.size, k * 2 + 1, none⟩ = some (.int .u8 d))
      (first | exact HM2.out.held HF.out HE.out | exact (HM2.out.drew.keep hb6).held HF.out HE.out | go_keep)
      ((go_at_call 25; refine (HW.out _).mono ?_; rintro e w6 ⟨rfl, hb6⟩))
    go_wp2
    go_ret3
    exact ⟨rfl, bel_trans HM2.out.drew.bel hb6⟩
end Go.Proofs.Ytdjbcbdgcejcmaa.Unit
