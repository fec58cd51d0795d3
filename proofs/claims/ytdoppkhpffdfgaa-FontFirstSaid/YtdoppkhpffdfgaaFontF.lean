/- Chapter 5: FontFirst, walked: it returns true, for every input. No condition. -/
import Derived.Test.YtdoppkhpffdfgaaFontL
import Derived.Deep.RegionLaw
namespace Go.Proofs.Ytdoppkhpffdfgaa.Font
open Go.RowKit Go.Proofs.Ytdoppkhpffdfgaa.Unit
set_option linter.unusedVariables false

theorem atF_self {n : Int} (e : mayF n = true) : atV n 1024 = n := by
  rw [atV_in e (by omega) (by omega)]
  exact rnd_self _ _ (by omega)
theorem chk_ok {a d g x o : Int} {rs : List Rng} (h : chkV a d g x o rs = 0) : mayF o = true ∧ chainB 0 rs = true := by
  unfold chkV chkB at h
  cases e1 : allF [a, d, g, x, o] <;> cases e2 : chainB 0 rs <;> rw [e1, e2] at h <;> simp at h
  simp only [allF, List.all_cons, List.all_nil, Bool.and_true, Bool.and_eq_true] at e1
  exact ⟨e1.2.2.2.2, rfl⟩
theorem chain_cons {b : Int} {y : Rng} {rs : List Rng} (h : chainB b (y :: rs) = true) : b ≤ y.1 ∧ y.1 ≤ y.2.1 ∧ y.2.1 ≤ 1114111 ∧ mayF y.2.2 = true ∧ chainB (y.2.1 + 1) rs = true := by
  obtain ⟨f, t, v⟩ := y
  simp only [chainB, Bool.and_eq_true, decide_eq_true_eq] at h
  exact ⟨h.1.1.1.1, h.1.1.1.2, h.1.1.2, h.1.2, h.2⟩
theorem chain_at : ∀ (rs : List Rng) (b : Int) (k : Nat), chainB b rs = true → k < rs.length → b ≤ (rs[k]?.getD dA).1 ∧ (rs[k]?.getD dA).1 ≤ (rs[k]?.getD dA).2.1 ∧ (rs[k]?.getD dA).2.1 ≤ 1114111 ∧ mayF (rs[k]?.getD dA).2.2 = true
  | [], _, _, _, h => absurd h (by simp)
  | y :: rs, b, 0, hc, _ => by
    obtain ⟨h1, h2, h3, h4, _⟩ := chain_cons hc
    exact ⟨h1, h2, h3, h4⟩
  | y :: rs, b, k + 1, hc, h => by
    obtain ⟨h1, h2, h3, h4, h5⟩ := chain_cons hc
    have := chain_at rs (y.2.1 + 1) k h5 (by simpa using h)
    rw [List.getElem?_cons_succ]
    exact ⟨by omega, this.2⟩
theorem chain_first (r : Int) : ∀ (rs : List Rng) (b : Int) (k : Nat), chainB b rs = true → k < rs.length → (rs[k]?.getD dA).1 ≤ r → r ≤ (rs[k]?.getD dA).2.1 → rs.find? (ins r) = some (rs[k]?.getD dA)
  | [], _, _, _, h, _, _ => absurd h (by simp)
  | y :: rs, b, 0, hc, _, g1, g2 => by
    rw [List.find?_cons, show ins r y = true from ins_t g1 g2]
    rfl
  | y :: rs, b, k + 1, hc, h, g1, g2 => by
    obtain ⟨_, _, _, _, h5⟩ := chain_cons hc
    rw [List.getElem?_cons_succ] at g1 g2 ⊢
    have hk : k < rs.length := by simpa using h
    have := (chain_at rs (y.2.1 + 1) k h5 hk).1
    rw [List.find?_cons, show ins r y = false from by unfold ins; rw [decide_eq_false (p := r ≤ y.2.1) (by omega), Bool.and_false]]
    exact chain_first r rs (y.2.1 + 1) k h5 hk g1 g2
abbrev cAd (w : World) (a d g x o : Int) (A : Option Addr) (n c : Nat) (rs : List Rng) (r v : Int) : Prop := ∀ W, LM w a d g x o A n c rs W → Calls Try.prog 11 #[fontV a d g x o A n c, .int .i64 1024, .int .i32 r] W fun e w' => e = .returned (.int .i64 v) ∧ Below W.heap.size W w'
/-- A range lies in a box beside the font. -/
structure LX (w : World) (a d g x o : Int) (A : Option Addr) (n c : Nat) (rs : List Rng) (B : Nat) (f t v : Int) (W : World) : Prop where
  m : LM w a d g x o A n c rs W
  b : Blk W B 38 #[.int .i32 f, .int .i32 t, .int .i64 v]
section
variable {w W W' : World} {a d g x o : Int} {A : Option Addr} {n c : Nat} {rs : List Rng} {B : Nat} {f t v : Int}
theorem LX.keep (h : LX w a d g x o A n c rs B f t v W) (hb : Below W.heap.size W W') : LX w a d g x o A n c rs B f t v W' := ⟨h.m.keep hb, h.b.keep hb⟩
theorem LX.drew (h : LX w a d g x o A n c rs B f t v W) : LX w a d g x o A n c rs B f t v W.drew := ⟨h.m.drew, h.b.drew⟩
theorem LX.cells (h : LX w a d g x o A n c rs B f t v W) : W.cell? ⟨w.heap.size, 0, none⟩ = some (.int .i64 a) ∧ W.cell? ⟨w.heap.size, 1, none⟩ = some (.int .i64 d) ∧ W.cell? ⟨w.heap.size, 2, none⟩ = some (.int .i64 g) ∧ W.cell? ⟨w.heap.size, 3, none⟩ = some (.int .i64 x) ∧ W.cell? ⟨w.heap.size, 4, none⟩ = some (.int .i64 o) ∧ W.cell? ⟨w.heap.size, 5, none⟩ = some (.slice A n c) ∧
    W.cell? ⟨B, 0, none⟩ = some (.int .i32 f) ∧ W.cell? ⟨B, 1, none⟩ = some (.int .i32 t) ∧ W.cell? ⟨B, 2, none⟩ = some (.int .i64 v) ∧ LX w a d g x o A n c rs B f t v W :=
  ⟨h.m.k.cell 0, h.m.k.cell 1, h.m.k.cell 2, h.m.k.cell 3, h.m.k.cell 4, h.m.k.cell 5, h.b.cell 0, h.b.cell 1, h.b.cell 2, h⟩
theorem lx_of {p0 p1 p2 p3 p4 p5 p6 p7 p8 : Prop} (h : p0 ∧ p1 ∧ p2 ∧ p3 ∧ p4 ∧ p5 ∧ p6 ∧ p7 ∧ p8 ∧ LX w a d g x o A n c rs B f t v W) : LX w a d g x o A n c rs B f t v W := h.2.2.2.2.2.2.2.2.2
theorem heldx_keep {p0 p1 p2 p3 p4 p5 p6 p7 p8 : Prop} (hb : Below W.heap.size W W') (h : p0 ∧ p1 ∧ p2 ∧ p3 ∧ p4 ∧ p5 ∧ p6 ∧ p7 ∧ p8 ∧ LX w a d g x o A n c rs B f t v W) : W'.cell? ⟨w.heap.size, 0, none⟩ = some (.int .i64 a) ∧ W'.cell? ⟨w.heap.size, 1, none⟩ = some (.int .i64 d) ∧ W'.cell? ⟨w.heap.size, 2, none⟩ = some (.int .i64 g) ∧ W'.cell? ⟨w.heap.size, 3, none⟩ = some (.int .i64 x) ∧ W'.cell? ⟨w.heap.size, 4, none⟩ = some (.int .i64 o) ∧ W'.cell? ⟨w.heap.size, 5, none⟩ = some (.slice A n c) ∧
    W'.cell? ⟨B, 0, none⟩ = some (.int .i32 f) ∧ W'.cell? ⟨B, 1, none⟩ = some (.int .i32 t) ∧ W'.cell? ⟨B, 2, none⟩ = some (.int .i64 v) ∧ LX w a d g x o A n c rs B f t v W' :=
  ((lx_of h).keep hb).cells
end

set_option maxHeartbeats 4000000 in
theorem first_out (a d g x o : Int) (A : Option Addr) (n c : Nat) (rs : List Rng) (r : Int) (hc : (n : Int) ≤ 9223372036854775807) (w : World) (hr : RA w A n rs) (hw : ∀ y ∈ rs, wfA y) (h : 300 < n ∨ (n ≤ 300 ∧ chkV a d g x o rs ≠ 0)) :
    Calls Try.prog 6 #[fontV a d g x o A n c, .int .i32 r] w fun e w' => e = .returned (.bool true) ∧ Below w.heap.size w w' := by
  rcases h with hn | ⟨hn, h⟩
  · clear hr hw
    go_enter Try.func6, Try.ntmps6
    go_wp2_with (go_at_call 8; refine (head_any _).mono ?_; rintro e w2 ⟨rfl, hb2⟩)
    go_ret
    exact ⟨rfl, bel_trans (bel_alloc (Below.refl _ _) _) hb2⟩
  · have e50 : chkV a d g x o rs = 50 := by unfold chkV at h ⊢; split <;> simp_all
    have HN := Lib.hid (LM.new (a := a) (d := d) (g := g) (x := x) (o := o) (c := c) hr)
    have H1 : Hid (∀ W, LM w a d g x o A n c rs W → Calls Try.prog 9 #[fontV a d g x o A n c] W fun e w' => e = .returned (.int .i64 50) ∧ Below W.heap.size W w') := fun W m => by
      have := check_any a d g x o A n c rs (by omega) W m.r hw
      rwa [e50] at this
    clear hr hw h e50
    go_enter Try.func6, Try.ntmps6
    go_wp2_with (first
      | (go_at_call 9; refine (H1.out _ HN.out).mono ?_; rintro e w3 ⟨rfl, hb3⟩)
      | (go_at_call 8; refine (head_any _).mono ?_; rintro e w2 ⟨rfl, hb2⟩))
    go_ret
    exact ⟨rfl, bel_trans (bel_trans (bel_alloc (Below.refl _ _) _) hb3) hb2⟩
set_option maxHeartbeats 16000000 in
set_option maxRecDepth 100000 in
theorem first_in (a d g x o : Int) (A : Option Addr) (n c : Nat) (rs : List Rng) (r : Int) (hn : n ≤ 300) (w : World) (hr : RA w A n rs) (hw : ∀ y ∈ rs, wfA y) (hk : chkV a d g x o rs = 0) :
    Calls Try.prog 6 #[fontV a d g x o A n c, .int .i32 r] w fun e w' => e = .returned (.bool true) ∧ Below w.heap.size w w' := by
  have HN := Lib.hid (LM.new (a := a) (d := d) (g := g) (x := x) (o := o) (c := c) hr)
  have HC : Hid (∀ W, LM w a d g x o A n c rs W → Calls Try.prog 9 #[fontV a d g x o A n c] W fun e w' => e = .returned (.int .i64 0) ∧ Below W.heap.size W w') := fun W m => by
    have := check_any a d g x o A n c rs (by omega) W m.r hw
    rwa [hk] at this
  have HAd : Hid (∀ (y : Rng) (q : Int), rs.find? (ins q) = some y → mayF y.2.2 = true → cAd w a d g x o A n c rs q y.2.2) := fun y q h1 h2 W m => by
    have := adv_any a d g x o A n c rs 1024 q (by omega) W m.r
    rwa [show advOf rs o q = y.2.2 by rw [advOf, h1], atF_self h2] at this
  have HAo : Hid (mayF o = true → rs.find? (ins r) = none → cAd w a d g x o A n c rs r o) := fun h2 h1 W m => by
    have := adv_any a d g x o A n c rs 1024 r (by omega) W m.r
    rwa [show advOf rs o r = o by rw [advOf, h1], atF_self h2] at this
  have HK := Lib.hid (chk_ok hk)
  have HL := Lib.hid hr.1
  have q5 : (o == o) = true := by simp
  clear hr hw hk
  go_enter Try.func6, Try.ntmps6
  go_wp2_with (go_at_call 9; refine (HC.out _ HN.out).mono ?_; rintro e w3 ⟨rfl, hb3⟩; have M3 := Lib.hid (HN.out.keep hb3); obtain ⟨p0, p1, p2, p3, p4, p5, _⟩ := M3.out.cells)
  go_loopw [5, 6] (fun bv iv wr => ∃ (k : Nat) (b : Bool), bv = .bool b ∧ iv = .int .i64 k ∧ k ≤ n ∧ Hid ((rs.take k).any (ins r) = b) ∧ Hid (LM w a d g x o A n c rs wr)) (fun bv iv wr => n - (intOf iv).toNat)
  case atStart => exact ⟨0, false, rfl, rfl, by omega, Lib.hid rfl, M3⟩
  case round =>
    obtain ⟨k, b, rfl, rfl, hk, HB, HM⟩ := hrel
    clear p0 p1 p2 p3 p4 p5 hb3 M3
    obtain ⟨p0, p1, p2, p3, p4, p5, _⟩ := HM.out.cells
    by_cases hlt : k < n
    · obtain ⟨ad, rfl, had, h0, h1, h2⟩ := HM.out.r.at_ hlt
      have hkl : k < rs.length := by rw [HL.out]; exact hlt
      obtain ⟨f0, f1, f2, f3⟩ := chain_at rs 0 k HK.out.2 hkl
      have F := fun q => chain_first q rs 0 k HK.out.2 hkl
      have TA : (rs.take (k + 1)).any (ins r) = ((rs.take k).any (ins r) || ins r (rs[k]?.getD dA)) := by
        rw [List.take_succ_eq_append_getElem hkl, List.any_append, List.getElem?_eq_getElem hkl]
        simp
      rw [HB.out] at TA
      have hwf := HAd.out (rs[k]?.getD dA)
      generalize rs[k]?.getD dA = y at *
      obtain ⟨f, t, v⟩ := y
      simp only at f0 f1 f2 f3 F hwf h0 h1 h2
      obtain ⟨D, hD⟩ : ∃ D : Int, t - f = D := ⟨_, rfl⟩
      obtain ⟨h, hh⟩ : ∃ h : Int, D.tdiv 2 = h := ⟨_, rfl⟩
      have hh2 : D / 2 = h := by rw [← hh, Int.tdiv_eq_ediv_of_nonneg (by omega)]
      obtain ⟨mid, hmid⟩ : ∃ mid : Int, f + h = mid := ⟨_, rfl⟩
      have A1 := Lib.hid (hwf f (F f (Int.le_refl _) f1) f3)
      have A2 := Lib.hid (hwf t (F t f1 (Int.le_refl _)) f3)
      have A3 := Lib.hid (hwf mid (F mid (by omega) (by omega)) f3)
      have e1 : IntKind.i32.wrap (t - f) = D := by rw [hD]; simp [IntKind.wrap, IntKind.bits, IntKind.signed]; omega
      have e2 : IntKind.i32.wrap h = h := by simp [IntKind.wrap, IntKind.bits, IntKind.signed]; omega
      have e3 : IntKind.i32.wrap (f + h) = mid := by rw [hmid]; simp [IntKind.wrap, IntKind.bits, IntKind.signed]; omega
      have e4 : IntKind.i32.wrap (D.tdiv 2) = h := by rw [hh]; exact e2
      have q1 : (v == v) = true := by simp
      have q2 : (v != v) = false := by simp
      have HT := Lib.hid TA
      have HD := Lib.hid (And.intro hD hmid)
      clear hD hmid TA F hwf f0 f1 f2 f3 hkl
      have CX := (show LX w a d g x o (some ad) n c rs wr.heap.size f t v (wr.alloc (.cells #[.int .i32 f, .int .i32 t, .int .i64 v] 38)) from ⟨HM.out.keep (bel_alloc (Below.refl _ _) _), Blk.new _ _ _⟩)
      have C0 := CX.drew.cells
      clear CX
      obtain ⟨wo, rfl⟩ : ∃ wo : World, wo = wr := ⟨_, rfl⟩
      go_wp2
      go_region_held3 (fun w' => w'.cell? ⟨w.heap.size, 0, none⟩ = some (.int .i64 a) ∧ w'.cell? ⟨w.heap.size, 1, none⟩ = some (.int .i64 d) ∧ w'.cell? ⟨w.heap.size, 2, none⟩ = some (.int .i64 g) ∧ w'.cell? ⟨w.heap.size, 3, none⟩ = some (.int .i64 x) ∧ w'.cell? ⟨w.heap.size, 4, none⟩ = some (.int .i64 o) ∧ w'.cell? ⟨w.heap.size, 5, none⟩ = some (.slice (some ad) n c) ∧
          w'.cell? ⟨wo.heap.size, 0, none⟩ = some (.int .i32 f) ∧ w'.cell? ⟨wo.heap.size, 1, none⟩ = some (.int .i32 t) ∧ w'.cell? ⟨wo.heap.size, 2, none⟩ = some (.int .i64 v) ∧ LX w a d g x o (some ad) n c rs wo.heap.size f t v w')
        (first | exact C0 | exact heldx_keep (by assumption) (by assumption) | go_keep)
        (first | (go_at_call 11; first | ((with_reducible refine (A1.out _ (lx_of (by assumption)).m).mono ?_); rintro e v1 ⟨rfl, hb2⟩) | ((with_reducible refine (A2.out _ (lx_of (by assumption)).m).mono ?_); rintro e v1 ⟨rfl, hb2⟩) | ((with_reducible refine (A3.out _ (lx_of (by assumption)).m).mono ?_); rintro e v1 ⟨rfl, hb2⟩)))
      have X8 : LX w a d g x o (some ad) n c rs wo.heap.size f t v v1 := lx_of (by assumption)
      clear C0 p0 p1 p2 p3 p4 p5 h0 h1 h2 A1 A2 A3
      obtain ⟨_, _, _, _, _, p5, s0, s1, s2, _⟩ := X8.cells
      have M8 := Lib.hid X8.m
      cases b with
      | true =>
        go_wp2
        go_roundw
        case rel => exact ⟨k + 1, true, by go_num, by go_num, by omega, Lib.hid (by rw [HT.out]; rfl), M8⟩
        case measure => simp [intOf]; omega
      | false =>
        rcases ins_of r f t v with ⟨hi, g1, g2⟩ | ⟨hi, g1 | ⟨g1, g2⟩⟩
        · have HN2 : Hid ((rs.take (k + 1)).any (ins r) = true) := Lib.hid (by rw [HT.out, hi]; rfl)
          clear hi
          go_wp2
          go_roundw
          case rel => exact ⟨k + 1, true, by go_num, by go_num, by omega, HN2, M8⟩
          case measure => simp [intOf]; omega
        all_goals
          have HN2 : Hid ((rs.take (k + 1)).any (ins r) = false) := Lib.hid (by rw [HT.out, hi]; rfl)
          clear hi
          go_wp2
          go_roundw
          case rel => exact ⟨k + 1, false, by go_num, by go_num, by omega, HN2, M8⟩
          case measure => simp [intOf]; omega
    · obtain rfl : k = n := by omega
      have C0 := HM.out.drew.cells
      cases b with
      | true =>
        go_wp2
        (first | go_region_law (first | (go_simp; go_at_call 8; refine (head_any _).mono ?_; rintro e v1 ⟨rfl, hb2⟩)) | fail "no")
        all_goals
          go_wp2
          go_ret
          exact ⟨rfl, bel_trans HM.out.drew.bel hb2⟩
      | false =>
        have AO := Lib.hid (HAo.out HK.out.1 (by
          have h := HB.out
          rw [List.take_of_length_le (by rw [HL.out]; omega), List.any_eq_false] at h
          exact List.find?_eq_none.2 h))
        go_wp2
        go_region_held3 (fun w' => w'.cell? ⟨w.heap.size, 0, none⟩ = some (.int .i64 a) ∧ w'.cell? ⟨w.heap.size, 1, none⟩ = some (.int .i64 d) ∧ w'.cell? ⟨w.heap.size, 2, none⟩ = some (.int .i64 g) ∧ w'.cell? ⟨w.heap.size, 3, none⟩ = some (.int .i64 x) ∧ w'.cell? ⟨w.heap.size, 4, none⟩ = some (.int .i64 o) ∧ w'.cell? ⟨w.heap.size, 5, none⟩ = some (.slice A k c) ∧ LM w a d g x o A k c rs w')
          (first | exact C0 | exact held_keep (by assumption) (by assumption) | go_keep)
          (first
          | (go_at_call 8; refine (head_any _).mono ?_; rintro e v1 ⟨rfl, hb2⟩)
          | (go_at_call 11; ((with_reducible refine (AO.out _ (lm_of (by assumption))).mono ?_); rintro e v1 ⟨rfl, hb2⟩)))
        go_wp2
        go_ret
        exact ⟨rfl, (lm_of (by assumption)).bel⟩
theorem FontFirst_any (a d g x o : Int) (A : Option Addr) (n c : Nat) (xs : List (List Int)) (r : Int) (hl : xs.length = n) (hc : n ≤ c) (hm : c ≤ maxLen) (hw : ∀ y ∈ xs, wfR [.i32, .i32, .i64] y) (w : World) (hr : Reads w w.heap.size 3 A n (xs.flatMap (encR [.i32, .i32, .i64]))) :
    Calls Try.prog 6 #[fontV a d g x o A n c, .int .i32 r] w fun e w' => e = .returned (.bool true) ∧ Below w.heap.size w w' := by
  obtain ⟨rs, r1, r2, r3⟩ := rng_of xs hw
  rw [r3] at hr
  unfold maxLen at hm
  by_cases h : n ≤ 300 ∧ chkV a d g x o rs = 0
  · exact first_in a d g x o A n c rs r h.1 w ⟨by omega, hr⟩ r2 h.2
  · exact first_out a d g x o A n c rs r (by omega) w ⟨by omega, hr⟩ r2 (by
      rcases Nat.lt_or_ge 300 n with g | g
      · exact .inl g
      · exact .inr ⟨g, fun e => h ⟨g, e⟩⟩)
end Go.Proofs.Ytdoppkhpffdfgaa.Font
