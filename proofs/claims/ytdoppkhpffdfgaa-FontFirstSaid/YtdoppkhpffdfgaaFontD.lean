/- Chapter 5: Advance, Text and the measures: the program's and the reference's, walked. No condition but bounds on how many. -/
import Derived.Test.YtdoppkhpffdfgaaFontC
namespace Go.Proofs.Ytdoppkhpffdfgaa.Font
open Go.RowKit Go.Proofs.Ytdoppkhpffdfgaa.Unit
attribute [local go_sem] max2_int min2_int max_two min_two
set_option linter.unusedVariables false

def ins (r : Int) (x : Rng) : Bool := decide (x.1 ≤ r) && decide (r ≤ x.2.1)
def advOf (rs : List Rng) (o r : Int) : Int := match rs.find? (ins r) with
  | some x => x.2.2
  | none => o
theorem ins_t {r : Int} {x : Rng} (h : x.1 ≤ r) (g : r ≤ x.2.1) : ins r x = true := by simp [ins, h, g]
theorem ins_cases (r : Int) (x : Rng) : (ins r x = true ∧ x.1 ≤ r ∧ r ≤ x.2.1) ∨ (ins r x = false ∧ (r < x.1 ∨ (x.1 ≤ r ∧ x.2.1 < r))) := by
  unfold ins
  by_cases h : x.1 ≤ r <;> by_cases g : r ≤ x.2.1 <;> simp [h, g] <;> omega
theorem ins_of (r f t v : Int) : (ins r (f, t, v) = true ∧ f ≤ r ∧ r ≤ t) ∨ (ins r (f, t, v) = false ∧ (r < f ∨ (f ≤ r ∧ t < r))) := ins_cases r (f, t, v)
theorem find_hit {p : Rng → Bool} {rs : List Rng} {k : Nat} (hk : k < rs.length) (h : (rs.take k).find? p = none) (hp : p (rs[k]?.getD dA) = true) : rs.find? p = some (rs[k]?.getD dA) := by
  rw [List.getElem?_eq_getElem hk] at hp ⊢
  have e : rs = rs.take k ++ rs[k] :: rs.drop (k + 1) := by rw [← List.drop_eq_getElem_cons hk, List.take_append_drop]
  have e2 : rs.find? p = (rs.take k ++ rs[k] :: rs.drop (k + 1)).find? p := by rw [← e]
  rw [e2, List.find?_append, h, Option.none_or, List.find?_cons]
  simp only [Option.getD_some] at hp
  rw [hp]
  rfl
theorem find_miss {p : Rng → Bool} {rs : List Rng} {k : Nat} (hk : k < rs.length) (h : (rs.take k).find? p = none) (hp : p (rs[k]?.getD dA) = false) : (rs.take (k + 1)).find? p = none := by
  rw [List.getElem?_eq_getElem hk] at hp
  simp only [Option.getD_some] at hp
  rw [List.take_succ_eq_append_getElem hk, List.find?_append, h, Option.none_or]
  simp [hp]

theorem RA.adv {w : World} {ad : Addr} {n k : Nat} {rs : List Rng} (h : RA w (some ad) n rs) (hk : k < n) : w.cell? ⟨(ad.add (k * 3)).block, (ad.add (k * 3)).off + 2, none⟩ = some (.int .i64 (rs[k]?.getD dA).2.2) := by
  obtain ⟨ad', e, _, _, _, h2⟩ := h.at_ hk
  cases e
  exact h2
set_option maxHeartbeats 1000000 in
theorem clos_any (r : Int) (x : Rng) (B : Nat) (w : World) (hB : w.cell? ⟨B, 0, none⟩ = some (.int .i32 r)) :
    Calls Try.prog 24 #[.agg #[.int .i32 x.1, .int .i32 x.2.1, .int .i64 x.2.2], .pointer (some ⟨B, 0, none⟩)] w fun e w' => e = .returned (.bool (ins r x)) ∧ Below w.heap.size w w' := by
  have hlt := World.block_lt_of_cell? w _ hB
  obtain ⟨f, t, v⟩ := x
  rcases ins_cases r (f, t, v) with ⟨hi, h1, h2⟩ | ⟨hi, h1 | ⟨h1, h2⟩⟩
  all_goals
    have HI := Lib.hid hi
    clear hi
    go_enter Try.func24, Try.ntmps24
    go_wp2
    go_ret
    exact ⟨ret_bool (by rw [HI.out]; first | done | rfl | (simp; done) | (simp; omega)), bel_alloc (Below.refl _ _) _⟩

def FindEnd (rs : List Rng) (r : Int) (n : Nat) (w : World) (e : Ending) (w' : World) : Prop := ∃ i : Int, e = .returned (.int .i64 i) ∧ ((i = -1 ∧ rs.find? (ins r) = none) ∨ ∃ k : Nat, i = k ∧ k < n ∧ rs.find? (ins r) = some (rs[k]?.getD dA)) ∧ Below w.heap.size w w'
set_option maxHeartbeats 4000000 in
theorem find_any (A : Option Addr) (n c B : Nat) (rs : List Rng) (r : Int) (w : World) (hr : RA w A n rs) (hn : n ≤ 1000000) (hB : Blk w B 21 #[.int .i32 r]) :
    Calls Try.prog 23 #[.slice A n c, .func (.func 24) #[] #[.pointer (some ⟨B, 0, none⟩)]] w (FindEnd rs r n w) := by
  have HR := Lib.hid hr
  have HB := Lib.hid hB
  clear hr hB
  go_enter Try.func23, Try.ntmps23
  go_wp2
  go_loopw [8] (fun i wr => ∃ k : Nat, i = .int .i64 k ∧ k ≤ n ∧ Hid ((rs.take k).find? (ins r) = none) ∧ Below w.heap.size w wr) (fun i wr => n - (intOf i).toNat)
  case atStart => exact ⟨0, rfl, by omega, Lib.hid rfl, Below.refl _ _⟩
  case round =>
    obtain ⟨k, rfl, hk, HA, hb⟩ := hrel
    by_cases hlt : k < n
    · obtain ⟨ad, rfl, had, h0, h1, h2⟩ := (HR.out.keep hb).at_ hlt
      have hkl : k < rs.length := by rw [HR.out.1]; exact hlt
      have F1 := Lib.hid (find_hit (p := ins r) hkl HA.out)
      have F2 := Lib.hid (find_miss (p := ins r) hkl HA.out)
      have HC := Lib.hid (clos_any r (rs[k]?.getD dA) B wr ((HB.out.keep hb).cell 0))
      generalize hy : rs[k]?.getD dA = y at h0 h1 h2 F1 F2 HC
      have HY := Lib.hid hy
      clear hy hkl
      obtain ⟨wo, rfl⟩ : ∃ wo : World, wo = wr := ⟨_, rfl⟩
      cases hi : ins r y with
      | false =>
        have HI := Lib.hid hi
        have HN := Lib.hid (F2.out hi)
        clear hi
        go_wp2_with (go_at_call 24; refine HC.out.mono ?_; rintro e w1 ⟨rfl, hb1⟩; rw [HI.out])
        go_roundw
        case rel => exact ⟨k + 1, by go_num, by omega, HN, bel_trans hb hb1⟩
        case measure => simp [intOf]; omega
      | true =>
        have HI := Lib.hid hi
        have HN := Lib.hid (F1.out hi)
        clear hi
        go_wp2_with (go_at_call 24; refine HC.out.mono ?_; rintro e w1 ⟨rfl, hb1⟩; rw [HI.out])
        go_ret
        exact ⟨(k : Int), rfl, .inr ⟨k, rfl, hlt, by rw [HY.out]; exact HN.out⟩, bel_trans hb hb1⟩
    · obtain rfl : k = n := by omega
      have hA := HA.out
      rw [List.take_of_length_le (by rw [HR.out.1]; omega)] at hA
      have HF := Lib.hid hA
      clear hA
      go_wp2
      go_ret
      exact ⟨-1, rfl, .inl ⟨rfl, HF.out⟩, hb⟩

set_option maxHeartbeats 4000000 in
set_option maxRecDepth 100000 in
theorem adv_any (a d g x o : Int) (A : Option Addr) (n c : Nat) (rs : List Rng) (size r : Int) (hn : n ≤ 1000000) (w : World) (hr : RA w A n rs) :
    Calls Try.prog 11 #[fontV a d g x o A n c, .int .i64 size, .int .i32 r] w fun e w' => e = .returned (.int .i64 (atV (advOf rs o r) size)) ∧ Below w.heap.size w w' := by
  have HR := Lib.hid hr
  have hR2 : RA ((w.alloc (.cells (fontC a d g x o A n c) 24)).alloc (.cells #[.int .i32 r] 21)) A n rs := hr.keep (bel_alloc (bel_alloc (Below.refl _ _) _) _)
  have KF := (Blk.new w 24 (fontC a d g x o A n c)).alloc (.cells #[.int .i32 r] 21)
  have KR := Blk.new (w.alloc (.cells (fontC a d g x o A n c) 24)) 21 #[.int .i32 r]
  have bl := bel_alloc (bel_alloc (Below.refl w.heap.size w) (.cells (fontC a d g x o A n c) 24)) (.cells #[.int .i32 r] 21)
  rw [World.size_alloc] at KR
  have hC := find_any A n c (w.heap.size + 1) rs r _ hR2 hn KR
  have HKF := Lib.hid KF
  have HR2 := Lib.hid hR2
  cases hfd : rs.find? (ins r) with
  | none =>
    have HC : Hid (Calls Try.prog 23 #[.slice A n c, .func (.func 24) #[] #[.pointer (some ⟨w.heap.size + 1, 0, none⟩)]] ((w.alloc (.cells (fontC a d g x o A n c) 24)).alloc (.cells #[.int .i32 r] 21)) fun e w' => e = .returned (.int .i64 (-1)) ∧ Below ((w.alloc (.cells (fontC a d g x o A n c) 24)).alloc (.cells #[.int .i32 r] 21)).heap.size ((w.alloc (.cells (fontC a d g x o A n c) 24)).alloc (.cells #[.int .i32 r] 21)) w') := hC.mono (fun e w' ⟨i, he, hcase, hb⟩ => by
      rcases hcase with ⟨rfl, _⟩ | ⟨k, _, _, h⟩
      · exact ⟨he, hb⟩
      · rw [hfd] at h; cases h)
    have HV := Lib.hid (show advOf rs o r = o by rw [advOf, hfd])
    have HA := Lib.hid (fun W => at_any o size W)
    clear KF KR hr hR2 hC hfd
    go_enter Try.func11, Try.ntmps11
    go_wp2_with (first
      | (go_at_call 23; refine HC.out.mono ?_; rintro e w1 ⟨rfl, hb1⟩; have c4 : w1.cell? ⟨w.heap.size, 4, none⟩ = some (.int .i64 o) := (HKF.out.keep hb1).cell 4)
      | (go_at_call 25; refine (HA.out _).mono ?_; rintro e w2 ⟨rfl, hb2⟩))
    go_ret
    exact ⟨ret_int (by rw [HV.out]), bel_trans (bel_trans bl hb1) hb2⟩
  | some y =>
    have h0 : 0 < n := by
      rcases Nat.eq_zero_or_pos n with h | h
      · have := hr.1
        rw [h] at this
        rw [List.eq_nil_of_length_eq_zero this] at hfd
        cases hfd
      · exact h
    obtain ⟨ad, rfl, _⟩ := hr.at_ h0
    have HC : Hid (Calls Try.prog 23 #[.slice (some ad) n c, .func (.func 24) #[] #[.pointer (some ⟨w.heap.size + 1, 0, none⟩)]] ((w.alloc (.cells (fontC a d g x o (some ad) n c) 24)).alloc (.cells #[.int .i32 r] 21)) fun e w' => ∃ k : Nat, e = .returned (.int .i64 k) ∧ k < n ∧ Hid (rs[k]?.getD dA = y) ∧ Below ((w.alloc (.cells (fontC a d g x o (some ad) n c) 24)).alloc (.cells #[.int .i32 r] 21)).heap.size ((w.alloc (.cells (fontC a d g x o (some ad) n c) 24)).alloc (.cells #[.int .i32 r] 21)) w') := hC.mono (fun e w' ⟨i, he, hcase, hb⟩ => by
      rcases hcase with ⟨_, h⟩ | ⟨k, rfl, hk, h⟩
      · rw [hfd] at h; cases h
      · rw [hfd] at h
        exact ⟨k, he, hk, (Option.some.inj h).symm, hb⟩)
    have HV := Lib.hid (show advOf rs o r = y.2.2 by rw [advOf, hfd])
    have HA := Lib.hid (fun W => at_any y.2.2 size W)
    clear KF KR hr hR2 hC hfd h0
    go_enter Try.func11, Try.ntmps11
    go_wp2_with (first
      | (go_at_call 23; refine HC.out.mono ?_; rintro e w1 ⟨k, rfl, hk, hy, hb1⟩; have c5 : w1.cell? ⟨w.heap.size, 5, none⟩ = some (.slice (some ad) n c) := (HKF.out.keep hb1).cell 5; have c6 : w1.cell? ⟨(ad.add (k * 3)).block, (ad.add (k * 3)).off + 2, none⟩ = some (.int .i64 y.2.2) := (by (have := (HR2.out.keep hb1).adv hk; rwa [hy.out] at this)); have k0 : (0 : Int) ≤ k := (by omega); have k1 : (k : Int) < n := (by omega))
      | (go_at_call 25; refine (HA.out _).mono ?_; rintro e w2 ⟨rfl, hb2⟩))
    go_ret
    exact ⟨ret_int (by rw [HV.out]), bel_trans (bel_trans bl hb1) hb2⟩

set_option maxHeartbeats 4000000 in
set_option maxRecDepth 100000 in
theorem radv_any (a d g x o : Int) (A : Option Addr) (n c : Nat) (rs : List Rng) (size r : Int) (hn : n ≤ 1000000) (w : World) (hr : RA w A n rs) :
    Calls Try.prog 12 #[fontV a d g x o A n c, .int .i64 size, .int .i32 r] w fun e w' => e = .returned (.int .i64 (atV (advOf rs o r) size)) ∧ Below w.heap.size w w' := by
  have HR := Lib.hid hr
  have KF := Lib.hid (Blk.new w 24 (fontC a d g x o A n c))
  clear hr
  go_enter Try.func12, Try.ntmps12
  go_wp2
  go_loopw [7] (fun i wr => ∃ k : Nat, i = .int .i64 k ∧ k ≤ n ∧ Hid ((rs.take k).find? (ins r) = none) ∧ Below w.heap.size w wr ∧ Hid (Blk wr w.heap.size 24 (fontC a d g x o A n c))) (fun i wr => n - (intOf i).toNat)
  case atStart => exact ⟨0, rfl, by omega, Lib.hid rfl, bel_alloc (Below.refl _ _) _, KF⟩
  case round =>
    obtain ⟨k, rfl, hk, HA, hb, KB⟩ := hrel
    have c4 : wr.cell? ⟨w.heap.size, 4, none⟩ = some (.int .i64 o) := KB.out.cell 4
    have c5 : wr.cell? ⟨w.heap.size, 5, none⟩ = some (.slice A n c) := KB.out.cell 5
    by_cases hlt : k < n
    · obtain ⟨ad, rfl, had, h0, h1, h2⟩ := (HR.out.keep hb).at_ hlt
      have hkl : k < rs.length := by rw [HR.out.1]; exact hlt
      have F1 := Lib.hid (find_hit (p := ins r) hkl HA.out)
      have F2 := Lib.hid (find_miss (p := ins r) hkl HA.out)
      generalize hy : rs[k]?.getD dA = y at h0 h1 h2 F1 F2
      clear hy hkl
      obtain ⟨f, t, v⟩ := y
      obtain ⟨wo, rfl⟩ : ∃ wo : World, wo = wr := ⟨_, rfl⟩
      rcases ins_of r f t v with ⟨hi, q1, q2⟩ | ⟨hi, q1 | ⟨q1, q2⟩⟩
      · have HV := Lib.hid (show advOf rs o r = v by rw [advOf, F1.out hi])
        have HT := Lib.hid (fun W => refAt_any v size W)
        clear hi
        go_wp2_with (go_at_call 14; refine (HT.out _).mono ?_; rintro e w2 ⟨rfl, hb2⟩)
        go_ret
        exact ⟨ret_int (by rw [HV.out]), bel_trans hb hb2⟩
      all_goals
        have HN := Lib.hid (F2.out hi)
        clear hi
        go_wp2
        go_roundw
        case rel => exact ⟨k + 1, by go_num, by omega, HN, hb, KB⟩
        case measure => simp [intOf]; omega
    · obtain rfl : k = n := by omega
      have hA := HA.out
      rw [List.take_of_length_le (by rw [HR.out.1]; omega)] at hA
      have HV := Lib.hid (show advOf rs o r = o by rw [advOf, hA])
      have HT := Lib.hid (fun W => refAt_any o size W)
      clear hA
      go_wp2_with (go_at_call 14; refine (HT.out _).mono ?_; rintro e w2 ⟨rfl, hb2⟩)
      go_ret
      exact ⟨ret_int (by rw [HV.out]), bel_trans hb hb2⟩

/-! ### the measures -/
section
variable (a d g x o : Int) (A : Option Addr) (n c : Nat) (size : Int) (w : World)
theorem up_any : Calls Try.prog 13 #[fontV a d g x o A n c, .int .i64 size] w fun e w' => e = .returned (.int .i64 (atV a size)) ∧ Below w.heap.size w w' := by
  go_enter Try.func13, Try.ntmps13
  go_wp2_with (go_at_call 25; refine (at_any _ _ _).mono ?_; rintro e w2 ⟨rfl, hb2⟩)
  go_ret
  exact ⟨rfl, bel_trans (bel_alloc (Below.refl _ _) _) hb2⟩
theorem down_any : Calls Try.prog 15 #[fontV a d g x o A n c, .int .i64 size] w fun e w' => e = .returned (.int .i64 (atV d size)) ∧ Below w.heap.size w w' := by
  go_enter Try.func15, Try.ntmps15
  go_wp2_with (go_at_call 25; refine (at_any _ _ _).mono ?_; rintro e w2 ⟨rfl, hb2⟩)
  go_ret
  exact ⟨rfl, bel_trans (bel_alloc (Below.refl _ _) _) hb2⟩
theorem gap_any : Calls Try.prog 16 #[fontV a d g x o A n c, .int .i64 size] w fun e w' => e = .returned (.int .i64 (atV g size)) ∧ Below w.heap.size w w' := by
  go_enter Try.func16, Try.ntmps16
  go_wp2_with (go_at_call 25; refine (at_any _ _ _).mono ?_; rintro e w2 ⟨rfl, hb2⟩)
  go_ret
  exact ⟨rfl, bel_trans (bel_alloc (Below.refl _ _) _) hb2⟩
theorem x_any : Calls Try.prog 17 #[fontV a d g x o A n c, .int .i64 size] w fun e w' => e = .returned (.int .i64 (atV x size)) ∧ Below w.heap.size w w' := by
  go_enter Try.func17, Try.ntmps17
  go_wp2_with (go_at_call 25; refine (at_any _ _ _).mono ?_; rintro e w2 ⟨rfl, hb2⟩)
  go_ret
  exact ⟨rfl, bel_trans (bel_alloc (Below.refl _ _) _) hb2⟩
end
end Go.Proofs.Ytdoppkhpffdfgaa.Font
