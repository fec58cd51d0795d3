/- UnitSums, walked: it returns true, for every input. No condition. -/
import Derived.Test.YthndfablbljhbaaUnitTurns
import Derived.Deep.RegionLaw
import Derived.Deep.DrawnRows
namespace Go.Proofs.Ythndfablbljhbaa.Unit
open Go.RowKit Go.Proofs.Ythndfablbljhbaa.Div
attribute [local go_sem ↓] Go.wp_at_zero Go.wp_at_succ
set_option linter.unusedVariables false

theorem sumI_append (a b : List Int) : sumI (a ++ b) = sumI a + sumI b := by
  induction a with
  | nil => simp [sumI]
  | cons x a ih => simp only [sumI, List.cons_append, List.foldr_cons] at ih ⊢; omega
theorem sumI_rot (l : List Int) (k : Nat) : sumI (l.drop k ++ l.take k) = sumI l := by
  rw [sumI_append]
  conv => rhs; rw [← List.take_append_drop k l, sumI_append]
  omega
theorem turn_cases (turn : Int) (n : Nat) (hn : 0 < n) (hn2 : n ≤ 1000) : ∃ k : Nat, k < n ∧ ((0 ≤ turn ∧ turn % (n : Int) = (k : Int)) ∨ (turn < 0 ∧ 0 < k ∧ turn.tmod (n : Int) = (k : Int) - n) ∨ (turn < 0 ∧ turn.tmod (n : Int) = (k : Int))) := by
  rcases Int.lt_or_le turn 0 with g | g
  · have t1 := Int.lt_tmod_of_pos turn (show (0 : Int) < n by omega)
    have a2 := Int.tmod_nonneg (a := -turn) n (by omega)
    rw [Int.neg_tmod] at a2
    generalize turn.tmod n = t at *
    by_cases h : t = 0
    · exact ⟨0, hn, .inr (.inr ⟨g, h⟩)⟩
    · exact ⟨(t + n).toNat, by omega, .inr (.inl ⟨g, by omega, by omega⟩)⟩
  · have r0 := Int.emod_nonneg turn (show (n : Int) ≠ 0 by omega)
    have r1 := Int.emod_lt_of_pos turn (show (0 : Int) < n by omega)
    exact ⟨(turn % n).toNat, by omega, .inl ⟨g, by omega⟩⟩

set_option maxHeartbeats 4000000 in
set_option maxRecDepth 100000 in
theorem sums_out (A : Option Addr) (n c : Nat) (t : Int) (hn : (n : Int) ≤ 9223372036854775807) (h : 1000 < n) (w : World) :
    Calls Try.prog 6 #[.slice A n c, .int .i64 t] w fun e w' => e = .returned (.bool true) ∧ Below w.heap.size w w' := by
  go_enter Try.func6, Try.ntmps6
  go_wp2_with (go_at_call 11; refine (head_any _).mono ?_; rintro e w3 ⟨rfl, hb3⟩)
  go_ret
  exact ⟨rfl, hb3⟩
set_option maxHeartbeats 4000000 in
set_option maxRecDepth 100000 in
theorem sums_nil (A : Option Addr) (c : Nat) (t : Int) (w : World) :
    Calls Try.prog 6 #[.slice A 0 c, .int .i64 t] w fun e w' => e = .returned (.bool true) ∧ Below w.heap.size w w' := by
  have C1 := Lib.hid (fun W => sum_any A 0 c [] W rfl ⟨rfl, fun h => absurd h (by omega)⟩ (fun x hx => by cases hx) (by omega))
  have C2 := Lib.hid (fun W => rsum_any A 0 c [] W rfl ⟨rfl, fun h => absurd h (by omega)⟩ (fun x hx => by cases hx) (by omega))
  have F := Lib.hid (show fitsV (sumI []) = 0 ∧ fitsE (sumI []) = 0 by decide)
  go_enter Try.func6, Try.ntmps6
  go_wp2_with (first
    | (go_at_call 16; ((with_reducible refine (C1.out _).mono ?_); rintro e w1 ⟨rfl, ⟨m1, rfl⟩⟩; rw [F.out.1, F.out.2]))
    | (go_at_call 17; ((with_reducible refine (C2.out _).mono ?_); rintro e w1 ⟨rfl, ⟨m2, rfl⟩⟩; rw [F.out.1, F.out.2]))
    | (go_at_call 11; refine (head_any _).mono ?_; rintro e w3 ⟨rfl, hb3⟩))
  go_ret
  exact ⟨rfl, bel_trans (bel_drewN (Below.refl _ _) _) hb3⟩

abbrev sumC (A : Option Addr) (n c : Nat) (B : Nat) (w : World) (v e : Int) : Prop := ∀ W, Below B w W → Calls Try.prog 16 #[.slice A n c] W fun x w' => x = .returned (.tuple #[.int .i64 v, .int .i64 e]) ∧ Drawn W w'
theorem bel_drew {B : Nat} {w w' : World} (h : Below B w w') : Below B w w'.drew := h.drew
theorem bel_lit1 {w W w1 : World} {o : Obj} (hbW : Below w.heap.size w W) (h : (W.alloc o).drew.grownBy w1 (some W.heap.size)) : Below w.heap.size w w1 :=
  (bel_drew (bel_alloc hbW o)).grown h (bel_drew (bel_alloc hbW o)).size (fun k e => by cases e; exact hbW.size)
theorem own_to {w : World} {B e m n : Nat} {v : Value} {Z X : List Value} (h : w.ownsRow B e 1 v m Z) (hm : m = n) (hZ : Z = X) : ∃ A c, v = .slice A n c ∧ Reads w w.heap.size 1 A n X := by
  subst hm
  subst hZ
  obtain ⟨A, c, rfl⟩ := own_shape h
  exact ⟨A, c, rfl, own_reads h⟩
theorem lit_size {W w1 : World} {o : Obj} {r : Option Nat} (h : (W.alloc o).drew.grownBy w1 r) : W.heap.size ≤ w1.heap.size := by
  have := h.size
  simp at this
  omega
theorem bel_lit2 {w W w1 w2 : World} {o : Obj} {v1 : Value} (hbW : Below w.heap.size w W) (h1 : (W.alloc o).drew.grownBy w1 (some W.heap.size)) (h2 : w1.grownBy w2 v1.ownBlock) (h3 : v1.ownBlock = some W.heap.size ∨ v1.ownBlock = some (W.alloc o).drew.heap.size) : Below w.heap.size w w2 := by
  refine (bel_lit1 hbW h1).grown h2 (bel_lit1 hbW h1).size (fun k e => ?_)
  have := hbW.size
  rcases h3 with h | h <;> rw [h] at e <;> cases e
  · exact hbW.size
  · simp; omega
theorem add_zero' (a : Addr) : a.add 0 = a := by simp [Addr.add]
theorem reads_take {w : World} {B n k : Nat} {A : Option Addr} {xs : List Value} (h : Reads w B 1 A n xs) (hk : k ≤ n) : Reads w B 1 A k (xs.take k) := by
  refine ⟨by rw [List.length_take, h.1]; omega, fun h0 => ?_⟩
  obtain ⟨ad, e, hb, hc⟩ := h.2 (by omega)
  refine ⟨ad, e, hb, fun j u hu => hc j u ?_⟩
  have hj : j < k := by
    have := (List.getElem?_eq_some_iff.1 hu).1
    simp at this
    omega
  rwa [List.getElem?_take, if_pos hj] at hu
theorem run_cut {P : Program} {t e : TypeId} (ht : P.underlying t = some (.slice e)) (hs : ∀ W, (sizeOf e).run P W = .ok 1 W) (A : Option Addr) (n c k : Nat) (hk : k ≤ n) (hc : n ≤ c) (W : World) :
    (Instr.slice t (.slice A n c) (some (.int .i64 (k : Int))) none none).run P W = .ok (.slice (if c = k then A else A.map (·.add (k * 1))) (n - k) (c - k)) W := by
  have he : P.elem t = e := by simp [Program.elem, ht]
  rw [run_slice_l W t A n c (by rw [he]; exact ht) .i64 (k : Int) (by omega) (by omega), he, hs]
  simp [Result.andThen, sliced]
theorem run_cut0 {P : Program} {t e : TypeId} (ht : P.underlying t = some (.slice e)) (hs : ∀ W, (sizeOf e).run P W = .ok 1 W) (A : Option Addr) (n c k : Nat) (hk : k ≤ c) (W : World) :
    (Instr.slice t (.slice A n c) none (some (.int .i64 (k : Int))) none).run P W = .ok (.slice A k c) W := by
  have he : P.elem t = e := by simp [Program.elem, ht]
  rw [run_slice_h W t A n c (by rw [he]; exact ht) .i64 (k : Int) (by omega) (by omega), he, hs]
  cases A <;> simp [Result.andThen, sliced, add_zero']
set_option maxHeartbeats 8000000 in
set_option maxRecDepth 100000 in
theorem sums_in (A : Option Addr) (n c : Nat) (xs : List Int) (turn : Int) (h0 : 0 < n) (hn : n ≤ 1000) (hc : n ≤ c) (hl : xs.length = n)
    (w : World) (hr : Reads w w.heap.size 1 A n (xs.map (Value.int .i64))) (hg : goodL xs) :
    Calls Try.prog 6 #[.slice A n c, .int .i64 turn] w fun e w' => e = .returned (.bool true) ∧ Below w.heap.size w w' := by
  obtain ⟨k, hk, hkc⟩ := turn_cases turn n h0 hn
  obtain ⟨A1, hA1, R1⟩ : ∃ A1, (∀ W, (Instr.slice 35 (.slice A n c) (some (.int .i64 (k : Int))) none none).run Try.prog W = .ok (.slice A1 (n - k) (c - k)) W) ∧ Reads w w.heap.size 1 A1 (n - k) ((xs.map (Value.int .i64)).drop (k * 1)) :=
    ⟨_, fun W => run_cut (P := Try.prog) Try.underlying35 (fun _ => by kernel_rfl) A n c k (by omega) hc W, hr.cut (by omega) hc⟩
  have hA2 : ∀ W, (Instr.slice 35 (.slice A n c) none (some (.int .i64 (k : Int))) none).run Try.prog W = .ok (.slice A k c) W := fun W => run_cut0 (P := Try.prog) Try.underlying35 (fun _ => by kernel_rfl) A n c k (by omega) W
  have RT := sumI_rot xs k
  obtain ⟨a, ha⟩ : ∃ a, fitsV (sumI xs) = a := ⟨_, rfl⟩
  obtain ⟨e0, he⟩ : ∃ a, fitsE (sumI xs) = a := ⟨_, rfl⟩
  have C1 : Hid (∀ W (hb : Below w.heap.size w W), Calls Try.prog 16 #[.slice A n c] W fun x w' => x = .returned (.tuple #[.int .i64 a, .int .i64 e0]) ∧ Drawn W w') := fun W hb => by
    have := sum_any A n c xs W hl ((hr.below hb).more hb.size) hg (by omega)
    rwa [ha, he] at this
  have C2 : Hid (∀ W (hb : Below w.heap.size w W), Calls Try.prog 17 #[.slice A n c] W fun x w' => x = .returned (.tuple #[.int .i64 a, .int .i64 e0]) ∧ Drawn W w') := fun W hb => by
    have := rsum_any A n c xs W hl ((hr.below hb).more hb.size) hg (by omega)
    rwa [ha, he] at this
  have hg2 : goodL (xs.drop k ++ xs.take k) := fun x hx => by
    rcases List.mem_append.1 hx with h | h
    · exact hg x (List.mem_of_mem_drop h)
    · exact hg x (List.mem_of_mem_take h)
  have C3 : Hid (∀ W A' c', Reads W W.heap.size 1 A' n ((xs.map (Value.int .i64)).drop (k * 1) ++ (xs.map (Value.int .i64)).take k) → Calls Try.prog 16 #[.slice A' n c'] W fun x w' => x = .returned (.tuple #[.int .i64 a, .int .i64 e0]) ∧ Drawn W w') := fun W A' c' hR => by
    have := sum_any A' n c' (xs.drop k ++ xs.take k) W (by rw [List.length_append, List.length_drop, List.length_take, hl]; omega) (by rw [List.map_append, List.map_drop, List.map_take, ← Nat.mul_one k]; simpa using hR) hg2 (by omega)
    rwa [RT, ha, he] at this
  clear hg2 ha he RT
  have HR1 := Lib.hid R1
  have HR := Lib.hid hr
  have HL := Lib.hid hl
  have HG := Lib.hid hg
  clear hl hr hg R1
  obtain ⟨i0, hi, hz0, hz1, hz2⟩ := info_parts infoI64
  have HI := Lib.hid hi
  have HZ0 := Lib.hid hz0
  have HZ1 := Lib.hid hz1
  have HZ2 := Lib.hid hz2
  clear hi hz0 hz1 hz2
  have ONE1 : Hid (∀ u ∈ (xs.map (Value.int .i64)).drop (k * 1), u.oneCell' = true) := fun u hu => by
    obtain ⟨x, _, rfl⟩ := List.mem_map.1 (List.mem_of_mem_drop hu)
    rfl
  have ONE2 : Hid (∀ u ∈ (xs.map (Value.int .i64)).take k, u.oneCell' = true) := fun u hu => by
    obtain ⟨x, _, rfl⟩ := List.mem_map.1 (List.mem_of_mem_take hu)
    rfl
  have B1 : Hid (0 + (n - k) ≤ maxLen ∧ (0 + (n - k)) * 8 ≤ 140737488355328) := ⟨by unfold maxLen; omega, by omega⟩
  have B2 : Hid (0 + (n - k) + k ≤ maxLen ∧ (0 + (n - k) + k) * 8 ≤ 140737488355328) := ⟨by unfold maxLen; omega, by omega⟩
  have NN : Hid (n - k + k = n) := Lib.hid (by omega)
  have HK : Hid (k ≤ n) := Lib.hid (Nat.le_of_lt hk)
  rcases hkc with ⟨g, q⟩ | ⟨g, g2, q⟩ | ⟨g, q⟩
  all_goals
    go_enter Try.func6, Try.ntmps6
    go_wp2_with (first
      | (go_at_call 16; ((with_reducible refine (C1.out _ (by first | exact Below.refl _ _)).mono ?_); rintro e w1 ⟨rfl, ⟨m1, rfl⟩⟩))
      | (go_at_call 17; ((with_reducible refine (C2.out _ (by first | exact bel_drewN (Below.refl _ _) _)).mono ?_); rintro e w1 ⟨rfl, ⟨m2, rfl⟩⟩)))
    (try simp only [q])
    have hbW : Below w.heap.size w (w.drewN (m1 + m2)) := bel_drewN (Below.refl _ _) _
    generalize w.drewN (m1 + m2) = W at *
    have own0 := World.ownsRow_lit (base := W.heap.size) (e := 2) (size := 1) W #[] 0 (Nat.le_refl _) (by simp [maxLen]) (by simp)
    have OWN0 := Lib.hid own0
    clear own0 q
    go_region_law (first
      | ((refine step_append_any _ (by rfl) (.tmp 57) (.tmp 60) _ (by rfl) W.heap.size 2 i0 (.int .i64 0) 1 8 Try.underlying35 HI.out HZ0.out HZ1.out HZ2.out rfl (by decide) (.slice (some ⟨W.heap.size, 0, none⟩) 0 0) 0 [] (by rfl) OWN0.out.drew w.heap.size A1 (n - k) (c - k) _ (by rfl) ((HR1.out.below hbW).alloc hbW.size _).drew ONE1.out B1.out.1 B1.out.2 (by simp) ?_); intro v1 w1 hown1 hg1 hat1)
      | ((refine step_append_any _ (by rfl) (.tmp 61) (.tmp 64) _ (by rfl) W.heap.size 2 i0 (.int .i64 0) 1 8 Try.underlying35 HI.out HZ0.out HZ1.out HZ2.out rfl (by decide) v1 (0 + (n - k)) _ (by rfl) hown1 w.heap.size A k c _ (by rfl) ((reads_take HR.out HK.out).below (bel_lit1 hbW hg1)) ONE2.out B2.out.1 B2.out.2 (lit_size hg1) ?_); intro v2 w2 hown2 hg2 hat2)
      | (go_simp; go_at_call 16; obtain ⟨A2, c2, rfl, hR2⟩ := own_to hown2 (show _ = n by omega) (show _ = (xs.map (Value.int .i64)).drop (k * 1) ++ (xs.map (Value.int .i64)).take k by simp); have hb2 := bel_lit2 hbW hg1 hg2 hat1; refine (C3.out _ A2 c2 hR2).mono ?_; rintro e w' ⟨rfl, ⟨m3, rfl⟩⟩))
    obtain ⟨ad, u, rfl, _, hu, hc0⟩ := HR.out.at_ h0
    obtain rfl : u = .int .i64 (xs[0]?.getD 0) := by
      rw [List.getElem?_map, List.getElem?_eq_getElem (by rw [HL.out]; omega)] at hu
      rw [List.getElem?_eq_getElem (by rw [HL.out]; omega)]
      simpa using hu.symm
    generalize xs[0]?.getD 0 = x at hc0
    clear hu
    have hc3 : w2.cell? (ad.add 0) = some (.int .i64 x) := (hb2.cell (by rw [block_of_add]; assumption)).trans hc0
    rw [add_zero'] at hc3
    go_wp2
    go_region_held3 (fun w' => w'.cell? ad = some (.int .i64 x)) (first | exact hc3 | exact (hb6.cell (World.block_lt_of_cell? w2 _ hc3)).trans hc3 | go_keep)
      (first
      | (go_at_call 18; refine (unitMay_any _ _).mono ?_; rintro e w5 ⟨rfl, rfl⟩)
      | (go_at_call 19; refine (refMay_any _ _).mono ?_; rintro e w5 ⟨rfl, rfl⟩)
      | (go_at_call 11; refine (head_any _).mono ?_; rintro e w6 ⟨rfl, hb6⟩))
    go_wp2
    go_ret
    exact ⟨rfl, bel_trans (bel_drewN hb2 _) hb6⟩
theorem UnitSums_any (A : Option Addr) (n c : Nat) (xs : List Int) (turn : Int) (hc : n ≤ c) (hm : c ≤ maxLen) (hl : xs.length = n)
    (w : World) (hr : Reads w w.heap.size 1 A n (xs.map (Value.int .i64))) (hg : ∀ x ∈ xs, (Lit.int .i64 x).wf = true) :
    Calls Try.prog 6 #[.slice A n c, .int .i64 turn] w fun e w' => e = .returned (.bool true) ∧ Below w.heap.size w w' := by
  rcases Nat.lt_or_ge 1000 n with h | h
  · unfold maxLen at hm
    exact sums_out A n c turn (by omega) h w
  · rcases Nat.eq_zero_or_pos n with rfl | h0
    · exact sums_nil A c turn w
    · exact sums_in A n c xs turn h0 h hc hl w hr (fun x hx => i64_wf (hg x hx))
theorem UnitTurns_any (A : Option Addr) (n c : Nat) (xs : List Int) (b o : Int) (hc : n ≤ c) (hm : c ≤ maxLen) (hl : xs.length = n) (hb : (Lit.int .i64 b).wf = true) (ho : (Lit.int .i64 o).wf = true)
    (w : World) (hr : Reads w w.heap.size 1 A n (xs.map (Value.int .i64))) (hg : ∀ x ∈ xs, (Lit.int .i64 x).wf = true) :
    Calls Try.prog 8 #[.slice A n c, .int .i64 b, .int .i64 o] w fun e w' => e = .returned (.bool true) ∧ Below w.heap.size w w' := by
  have M : ∀ x, cM x (mayU x) := fun x W => unitMay_any x W
  by_cases h : n ≤ 1000 ∧ mayU b = true ∧ mayU o = true ∧ 1 ≤ o
  · obtain ⟨h1, h2, h3, h4⟩ := h
    have b' : -1073741824 ≤ b ∧ b ≤ 1073741824 := by simpa [mayU] using h2
    have o' : -1073741824 ≤ o ∧ o ≤ 1073741824 := by simpa [mayU] using h3
    have M1 := M b
    have M2 := M o
    rw [h2] at M1
    rw [h3] at M2
    exact turns_in A n c xs b o h1 hl b'.1 b'.2 h4 o'.2 w hr (fun x hx => i64_wf (hg x hx)) (Lib.hid M1) (Lib.hid M2)
  · unfold maxLen at hm
    refine turns_out A n c b o _ _ (by omega) ?_ (Lib.hid (M b)) (Lib.hid (M o)) w
    rcases Nat.lt_or_ge 1000 n with h1 | h1
    · exact .inl h1
    · cases e1 : mayU b
      · exact .inr (.inl ⟨h1, rfl⟩)
      · cases e2 : mayU o
        · exact .inr (.inr (.inl ⟨h1, rfl, rfl⟩))
        · exact .inr (.inr (.inr ⟨h1, rfl, rfl, by simp_all⟩))
end Go.Proofs.Ythndfablbljhbaa.Unit
