/- Chapter 8: the reference's steps over a list, walked. No condition but bounds. -/
import Derived.Test.YtmjacmjogckihaaWhiteK
import Derived.Deep.WholeRow
namespace Go.Proofs.Ytmjacmjogckihaa.White
open Go.RowKit
set_option linter.unusedVariables false
set_option linter.unusedSimpArgs false
theorem own_setCell_ne {W : World} {base e size n : Nat} {v : Value} {xs : List Value} (h : W.ownsRow base e size v n xs) (p : Addr) (u : Value) (hne : v.ownBlock ≠ some p.block) : (W.setCell p u).ownsRow base e size v n xs :=
  h.kept (grown_set W p u p.block rfl) (by cases hv : v.ownBlock with
    | none => exact .inl rfl
    | some r => exact .inr (fun e => hne (by rw [hv]; exact e)))
theorem own_not_new {W : World} {base e size n : Nat} {v : Value} {xs : List Value} (h : W.ownsRow base e size v n xs) : v.ownBlock ≠ some W.heap.size := fun e => Nat.lt_irrefl _ (h.lt _ e).2
/-- The spec's step. -/
theorem spec_step {α β : Type} (q : List α → α → List α → Bool) (u : α → β) (cs : List α) (k : Nat) (m : α) (S pre : List β) (r : Bool) (hm : cs[k]? = some m) (h : S = pre ++ (filterZ q (cs.take k).reverse (cs.drop k)).map u) (hr : q (cs.take k).reverse m (cs.drop (k + 1)) = r) :
    S = (if r = true then pre else pre ++ [u m]) ++ (filterZ q (cs.take (k + 1)).reverse (cs.drop (k + 1))).map u := by
  rw [h, filterZ_step q cs k m hm, hr]
  cases r <;> simp
theorem spec_end {α β : Type} (q : List α → α → List α → Bool) (u : α → β) (cs : List α) (k : Nat) (S pre : List β) (h : S = pre ++ (filterZ q (cs.take k).reverse (cs.drop k)).map u) (hk : cs.length ≤ k) : S = pre := by
  rw [h, List.drop_of_length_le hk]
  simp [filterZ]
set_option maxHeartbeats 8000000 in
set_option maxRecDepth 20000 in
theorem pairs_any (A : Option Addr) (n c : Nat) (cs : List Cr) (hn : n ≤ 1000000000) (w : World) (hr : Reads w w.heap.size 5 A n (crL cs)) :
    Calls Try.prog 31 #[.slice A n c] w fun e w' => ∃ v, e = .returned v ∧ w'.ownsRow w.heap.size 38 5 v ((filterZ (q1) [] cs).map (id)).length (crL ((filterZ (q1) [] cs).map (id))) ∧ Below w.heap.size w w' := by
  have HL := Lib.hid (len_cr hr)
  have HR := Lib.hid hr
  obtain ⟨j0, hj, hy0, hy1, hy2⟩ := info_parts infoCr2
  obtain ⟨S, hS⟩ : ∃ S, (filterZ (q1) [] cs).map (id) = S := ⟨_, rfl⟩
  have HS := Lib.hid hS
  have nn : (n : Int) ≤ 1000000000 := by omega
  rw [hS]
  clear hr hS
  go_enter Try.func31, Try.ntmps31
  go_wp2_with (fail)
  go_loopw [3, 4] (fun o i wr => ∃ (k : Nat) (pre : List Cr) (A0 : Option Addr) (c0' : Nat), i = .int .i64 k ∧ o = .slice A0 pre.length c0' ∧ k ≤ n ∧ pre.length ≤ k ∧ Hid (S = pre ++ (filterZ (q1) (cs.take k).reverse (cs.drop k)).map (id)) ∧ Hid (wr.ownsRow w.heap.size 38 5 (.slice A0 pre.length c0') pre.length (crL pre)) ∧ Hid (Below w.heap.size w wr)) (fun o i _ => n - (intOf i).toNat)
  case atStart => exact ⟨0, [], none, 0, rfl, rfl, by omega, Nat.le_refl _, Lib.hid (by rw [← HS.out, List.drop_zero]; rfl), Lib.hid (own_nil _ _ _ _), Lib.hid (Below.refl _ _)⟩
  case round =>
    obtain ⟨k, pre, A0, c0', rfl, rfl, hk, hpk, HP, HO, HB⟩ := hrel
    by_cases hlt : k < n
    · have g1 : decide ((k : Int) < (n : Int)) = true := decide_eq_true (by omega)
      have g2 : (k : Int) < (n : Int) := by omega
      have g3 : (0 : Int) ≤ (k : Int) := by omega
      have lp : (pre.length : Int) ≤ 1000000000 := by omega
      obtain ⟨ad, _, rfl, _, _, _⟩ := reads_cr HR.out hlt
      obtain ⟨m, hm, hC⟩ := cellsAt HR.out hlt
      have HSP := Lib.hid (fun (r : Bool) (hr : (q1) (cs.take k).reverse m (cs.drop (k + 1)) = r) => spec_step _ (id) cs k m S pre r hm HP.out hr)
      obtain ⟨c0, c1, c2, c3, c4⟩ := hC _ HB.out
      have HWB := Lib.hid (Below.refl wr.heap.size wr)
      have HOB := HO
      have R0 := Lib.hid (Below.refl wr.heap.size wr)
      have HTo := Lib.hid (fun (V : World) (hV : Below wr.heap.size wr V) => bel_trans HB.out hV)
      have HC := Lib.hid (fun (V : World) (hV : Below wr.heap.size wr V) => hC V (bel_trans HB.out hV))
      have HM := Lib.hid hm
      clear hm hC
      have H1 := Lib.hid (fun V => is_any m 13 V)
      obtain ⟨a, ha⟩ : ∃ a, isT m 13 = a := ⟨_, rfl⟩
      rw [ha] at H1
      have HA := Lib.hid ha
      clear ha
      have wk : IntKind.i64.wrap ((k : Int) + 1) = (k : Int) + 1 := IntWalk.i64_in _ ⟨by omega, by omega⟩
      cases a with
      | false =>
        go_wp2_with (first
          | (go_at_call 56; (with_reducible refine (H1.out _).mono ?_); rintro e w1 ⟨rfl, b1⟩; have Rw1 := Lib.hid (bel_trans R0.out b1); obtain ⟨x0, x1, x2, x3, x4⟩ := HC.out _ Rw1.out; clear b1)
          | (at_builtin; refine wpList_append_own _ rfl (.tmp 33) (.tmp 38) 22 rfl w.heap.size 38 j0 (.agg #[.int .i32 0, .int .i64 0, .int .i64 0, .int .i64 0, .int .u8 0]) 5 40 Try.underlying22 hj hy0 hy1 hy2 rfl (by decide) (.slice A0 pre.length c0') _ _ rfl ((own_below HOB.out Rw1.out).alloc _) ⟨_, 0, none⟩ 1 1 (crC m) rfl rfl (reads_one5r _ _ m) (crC_one _) ?d1 ?e1 ?f1 ?_))
        case d1 => unfold maxLen; omega
        case e1 => omega
        case f1 => have := (bel_trans HB.out (bel_trans HWB.out Rw1.out)).size; simp only [World.size_alloc]; omega
        intro v' w7 hown' hg _
        have hb7 := Lib.hid (bel_grown (bel_alloc (bel_trans HB.out (bel_trans HWB.out Rw1.out)) _) ((own_below HOB.out Rw1.out).alloc _) hg)
        obtain ⟨A', c', rfl⟩ := own_shape hown'
        have HO7 := Lib.hid hown'
        clear hown' hg
        go_wp2
        go_roundw
        case rel => exact ⟨k + 1, pre ++ [m], A', c', by go_num, by rw [List.length_append]; rfl, by omega, by rw [List.length_append]; simp; omega, Lib.hid (by have h := HSP.out false (by unfold q1; rw [HA.out]; rfl); rwa [if_neg (by simp), id] at h), Lib.hid (by rw [crL_snoc, List.length_append]; exact HO7.out), hb7⟩
        case measure => simp [intOf] <;> omega
      | true =>
        by_cases h2 : k + 1 < n
        · have q2' : (((k : Int) + 1) == (n : Int)) = false := by simp; omega
          obtain ⟨m2, hm2, hC2⟩ := cellsAt HR.out h2
          have g4 : (k : Int) + 1 < (n : Int) := by omega
          have g5 : (0 : Int) ≤ (k : Int) + 1 := by omega
          have HC2 := Lib.hid (fun (V : World) (hV : Below wr.heap.size wr V) => hC2 V (bel_trans HB.out hV))
          have H2 := Lib.hid (fun V => is_any m2 10 V)
          have HB2 := Lib.hid (hd_dropS cs (k + 1) m2 (fun c => isT c 10) hm2)
          obtain ⟨b, hb⟩ : ∃ b, isT m2 10 = b := ⟨_, rfl⟩
          rw [hb] at H2
          simp only [hb] at HB2
          clear hb hm2 hC2
          cases b with
          | false =>
            go_wp2_with (first
              | (go_at_call 56; (with_reducible refine (H1.out _).mono ?_); rintro e w1 ⟨rfl, b1⟩; have Rw1 := Lib.hid (bel_trans R0.out b1); obtain ⟨x0, x1, x2, x3, x4⟩ := HC.out _ Rw1.out; obtain ⟨y0, y1, y2, y3, y4⟩ := HC2.out _ Rw1.out; clear b1)
              | (go_at_call 56; (with_reducible refine (H2.out _).mono ?_); rintro e w2 ⟨rfl, b1⟩; have Rw2 := Lib.hid (bel_trans Rw1.out b1); obtain ⟨x0, x1, x2, x3, x4⟩ := HC.out _ Rw2.out; clear b1)
              | (at_builtin; refine wpList_append_own _ rfl (.tmp 33) (.tmp 38) 22 rfl w.heap.size 38 j0 (.agg #[.int .i32 0, .int .i64 0, .int .i64 0, .int .i64 0, .int .u8 0]) 5 40 Try.underlying22 hj hy0 hy1 hy2 rfl (by decide) (.slice A0 pre.length c0') _ _ rfl ((own_below HOB.out Rw2.out).alloc _) ⟨_, 0, none⟩ 1 1 (crC m) rfl rfl (reads_one5r _ _ m) (crC_one _) ?d2 ?e2 ?f2 ?_))
            case d2 => unfold maxLen; omega
            case e2 => omega
            case f2 => have := (bel_trans HB.out (bel_trans HWB.out Rw2.out)).size; simp only [World.size_alloc]; omega
            intro v' w7 hown' hg _
            have hb7 := Lib.hid (bel_grown (bel_alloc (bel_trans HB.out (bel_trans HWB.out Rw2.out)) _) ((own_below HOB.out Rw2.out).alloc _) hg)
            obtain ⟨A', c', rfl⟩ := own_shape hown'
            have HO7 := Lib.hid hown'
            clear hown' hg
            go_wp2
            go_roundw
            case rel => exact ⟨k + 1, pre ++ [m], A', c', by go_num, by rw [List.length_append]; rfl, by omega, by rw [List.length_append]; simp; omega, Lib.hid (by have h := HSP.out false (by unfold q1; rw [HB2.out, Bool.and_false]); rwa [if_neg (by simp), id] at h), Lib.hid (by rw [crL_snoc, List.length_append]; exact HO7.out), hb7⟩
            case measure => simp [intOf] <;> omega
          | true =>
            go_wp2_with (first
              | (go_at_call 56; (with_reducible refine (H1.out _).mono ?_); rintro e w1 ⟨rfl, b1⟩; have Rw1 := Lib.hid (bel_trans R0.out b1); obtain ⟨x0, x1, x2, x3, x4⟩ := HC.out _ Rw1.out; obtain ⟨y0, y1, y2, y3, y4⟩ := HC2.out _ Rw1.out; clear b1)
              | (go_at_call 56; (with_reducible refine (H2.out _).mono ?_); rintro e w2 ⟨rfl, b1⟩; have Rw2 := Lib.hid (bel_trans Rw1.out b1); obtain ⟨x0, x1, x2, x3, x4⟩ := HC.out _ Rw2.out; clear b1))
            go_roundw
            case rel => exact ⟨k + 1, pre, A0, c0', by go_num, rfl, by omega, by omega, Lib.hid (by have h := HSP.out true (by unfold q1; rw [HB2.out, HA.out]; rfl); rwa [if_pos rfl] at h), Lib.hid (own_below HOB.out Rw2.out), Lib.hid (bel_trans HB.out (bel_trans HWB.out Rw2.out))⟩
            case measure => simp [intOf] <;> omega
        · have q2' : (((k : Int) + 1) == (n : Int)) = true := by simp; omega
          have HB2 := Lib.hid (hd_dropN cs (k + 1) (fun c => isT c 10) (by rw [HL.out]; omega))
          go_wp2_with (first
            | (go_at_call 56; (with_reducible refine (H1.out _).mono ?_); rintro e w1 ⟨rfl, b1⟩; have Rw1 := Lib.hid (bel_trans R0.out b1); obtain ⟨x0, x1, x2, x3, x4⟩ := HC.out _ Rw1.out; clear b1)
            | (at_builtin; refine wpList_append_own _ rfl (.tmp 33) (.tmp 38) 22 rfl w.heap.size 38 j0 (.agg #[.int .i32 0, .int .i64 0, .int .i64 0, .int .i64 0, .int .u8 0]) 5 40 Try.underlying22 hj hy0 hy1 hy2 rfl (by decide) (.slice A0 pre.length c0') _ _ rfl ((own_below HOB.out Rw1.out).alloc _) ⟨_, 0, none⟩ 1 1 (crC m) rfl rfl (reads_one5r _ _ m) (crC_one _) ?d3 ?e3 ?f3 ?_))
          case d3 => unfold maxLen; omega
          case e3 => omega
          case f3 => have := (bel_trans HB.out (bel_trans HWB.out Rw1.out)).size; simp only [World.size_alloc]; omega
          intro v' w7 hown' hg _
          have hb7 := Lib.hid (bel_grown (bel_alloc (bel_trans HB.out (bel_trans HWB.out Rw1.out)) _) ((own_below HOB.out Rw1.out).alloc _) hg)
          obtain ⟨A', c', rfl⟩ := own_shape hown'
          have HO7 := Lib.hid hown'
          clear hown' hg
          go_wp2
          go_roundw
          case rel => exact ⟨k + 1, pre ++ [m], A', c', by go_num, by rw [List.length_append]; rfl, by omega, by rw [List.length_append]; simp; omega, Lib.hid (by have h := HSP.out false (by unfold q1; rw [HB2.out, Bool.and_false]); rwa [if_neg (by simp), id] at h), Lib.hid (by rw [crL_snoc, List.length_append]; exact HO7.out), hb7⟩
          case measure => simp [intOf] <;> omega
    · obtain rfl : k = n := by omega
      have g1 : decide ((k : Int) < (k : Int)) = false := decide_eq_false (by omega)
      go_wp2
      go_ret
      have e := spec_end _ _ cs k S pre HP.out (by rw [HL.out]; omega)
      exact ⟨_, rfl, by rw [e]; exact HO.out, HB.out⟩
set_option maxHeartbeats 8000000 in
set_option maxRecDepth 20000 in
theorem around_any (A : Option Addr) (n c : Nat) (cs : List Cr) (AS : Option Addr) (nS cS : Nat) (ss : List St) (hn : n ≤ 1000000000) (hI : NodesIn nS cs) (w : World) (hr : Reads w w.heap.size 5 A n (crL cs)) (hrS : Reads w w.heap.size 9 AS nS (stL ss)) :
    Calls Try.prog 30 #[.slice A n c, .slice AS nS cS] w fun e w' => ∃ v, e = .returned v ∧ w'.ownsRow w.heap.size 38 5 v ((filterZ (q2 ss) [] cs).map (id)).length (crL ((filterZ (q2 ss) [] cs).map (id))) ∧ Below w.heap.size w w' := by
  have HL := Lib.hid (len_cr hr)
  have HR := Lib.hid hr
  obtain ⟨j0, hj, hy0, hy1, hy2⟩ := info_parts infoCr2
  obtain ⟨S, hS⟩ : ∃ S, (filterZ (q2 ss) [] cs).map (id) = S := ⟨_, rfl⟩
  have HS := Lib.hid hS
  have nn : (n : Int) ≤ 1000000000 := by omega
  rw [hS]
  clear hr hS
  go_enter Try.func30, Try.ntmps30
  go_wp2_with (fail)
  go_loopw [5, 6] (fun o i wr => ∃ (k : Nat) (pre : List Cr) (A0 : Option Addr) (c0' : Nat), i = .int .i64 k ∧ o = .slice A0 pre.length c0' ∧ k ≤ n ∧ pre.length ≤ k ∧ Hid (S = pre ++ (filterZ (q2 ss) (cs.take k).reverse (cs.drop k)).map (id)) ∧ Hid (wr.ownsRow w.heap.size 38 5 (.slice A0 pre.length c0') pre.length (crL pre)) ∧ Hid (Below w.heap.size w wr)) (fun o i _ => n - (intOf i).toNat)
  case atStart => exact ⟨0, [], none, 0, rfl, rfl, by omega, Nat.le_refl _, Lib.hid (by rw [← HS.out, List.drop_zero]; rfl), Lib.hid (own_nil _ _ _ _), Lib.hid (Below.refl _ _)⟩
  case round =>
    obtain ⟨k, pre, A0, c0', rfl, rfl, hk, hpk, HP, HO, HB⟩ := hrel
    by_cases hlt : k < n
    · have g1 : decide ((k : Int) < (n : Int)) = true := decide_eq_true (by omega)
      have g2 : (k : Int) < (n : Int) := by omega
      have g3 : (0 : Int) ≤ (k : Int) := by omega
      have lp : (pre.length : Int) ≤ 1000000000 := by omega
      obtain ⟨ad, _, rfl, _, _, _⟩ := reads_cr HR.out hlt
      obtain ⟨m, hm, hC⟩ := cellsAt HR.out hlt
      have HSP := Lib.hid (fun (r : Bool) (hr : (q2 ss) (cs.take k).reverse m (cs.drop (k + 1)) = r) => spec_step _ (id) cs k m S pre r hm HP.out hr)
      obtain ⟨c0, c1, c2, c3, c4⟩ := hC _ HB.out
      have HWB := Lib.hid (Below.refl wr.heap.size wr)
      have HOB := HO
      have R0 := Lib.hid (Below.refl wr.heap.size wr)
      have HTo := Lib.hid (fun (V : World) (hV : Below wr.heap.size wr V) => bel_trans HB.out hV)
      have HC := Lib.hid (fun (V : World) (hV : Below wr.heap.size wr V) => hC V (bel_trans HB.out hV))
      have HWh := Lib.hid (fun (i : Nat) (m : Cr) (hm : cs[i]? = some m) (V : World) (hV : Below wr.heap.size wr V) => rwhite_any m AS nS cS ss (hI.at_ hm).1 (hI.at_ hm).2 V ((hrS.below (HTo.out V hV)).more (HTo.out V hV).size))
      have HSo := Lib.hid (fun (i : Nat) (m : Cr) (hm : cs[i]? = some m) (V : World) (hV : Below wr.heap.size wr V) => rsoft_any m AS nS cS ss (hI.at_ hm).1 (hI.at_ hm).2 V ((hrS.below (HTo.out V hV)).more (HTo.out V hV).size))
      have HM := Lib.hid hm
      clear hm hC
      have H1 := Lib.hid (fun V hV => HWh.out k m HM.out V hV)
      have H2 := Lib.hid (fun (V : World) (hV : Below wr.heap.size wr V) => beside_any (some ad) n c cs AS nS cS ss k hlt hn hI V ((HR.out.below (HTo.out V hV)).more (HTo.out V hV).size) ((hrS.below (HTo.out V hV)).more (HTo.out V hV).size))
      obtain ⟨a, ha⟩ : ∃ a, whC ss m = a := ⟨_, rfl⟩
      rw [ha] at H1
      have HA := Lib.hid ha
      obtain ⟨b, hb⟩ : ∃ b, (hd ((cs.take k).reverse.dropWhile (whC ss)) enC || hd ((cs.drop (k + 1)).dropWhile (whC ss)) enC) = b := ⟨_, rfl⟩
      rw [hb] at H2
      have HBs := Lib.hid hb
      clear ha hb
      cases a with
      | false =>
        go_wp2_with (first
          | (go_at_call 55; (with_reducible refine (H1.out _ R0.out).mono ?_); rintro e w1 ⟨rfl, b1⟩; have Rw1 := Lib.hid (bel_trans R0.out b1); obtain ⟨x0, x1, x2, x3, x4⟩ := HC.out _ Rw1.out; clear b1)
          | (at_builtin; refine wpList_append_own _ rfl (.tmp 27) (.tmp 32) 22 rfl w.heap.size 38 j0 (.agg #[.int .i32 0, .int .i64 0, .int .i64 0, .int .i64 0, .int .u8 0]) 5 40 Try.underlying22 hj hy0 hy1 hy2 rfl (by decide) (.slice A0 pre.length c0') _ _ rfl ((own_below HOB.out Rw1.out).alloc _) ⟨_, 0, none⟩ 1 1 (crC m) rfl rfl (reads_one5r _ _ m) (crC_one _) ?d4 ?e4 ?f4 ?_))
        case d4 => unfold maxLen; omega
        case e4 => omega
        case f4 => have := (bel_trans HB.out (bel_trans HWB.out Rw1.out)).size; simp only [World.size_alloc]; omega
        intro v' w7 hown' hg _
        have hb7 := Lib.hid (bel_grown (bel_alloc (bel_trans HB.out (bel_trans HWB.out Rw1.out)) _) ((own_below HOB.out Rw1.out).alloc _) hg)
        obtain ⟨A', c', rfl⟩ := own_shape hown'
        have HO7 := Lib.hid hown'
        clear hown' hg
        go_wp2
        go_roundw
        case rel => exact ⟨k + 1, pre ++ [m], A', c', by go_num, by rw [List.length_append]; rfl, by omega, by rw [List.length_append]; simp; omega, Lib.hid (by have h := HSP.out false (by unfold q2; rw [HA.out]; rfl); rwa [if_neg (by simp), id] at h), Lib.hid (by rw [crL_snoc, List.length_append]; exact HO7.out), hb7⟩
        case measure => simp [intOf] <;> omega
      | true =>
        cases b with
        | false =>
          go_wp2_with (first
            | (go_at_call 55; (with_reducible refine (H1.out _ R0.out).mono ?_); rintro e w1 ⟨rfl, b1⟩; have Rw1 := Lib.hid (bel_trans R0.out b1); clear b1)
            | (go_at_call 61; (with_reducible refine (H2.out _ Rw1.out).mono ?_); rintro e w2 ⟨rfl, b1⟩; have Rw2 := Lib.hid (bel_trans Rw1.out b1); obtain ⟨x0, x1, x2, x3, x4⟩ := HC.out _ Rw2.out; clear b1)
            | (at_builtin; refine wpList_append_own _ rfl (.tmp 27) (.tmp 32) 22 rfl w.heap.size 38 j0 (.agg #[.int .i32 0, .int .i64 0, .int .i64 0, .int .i64 0, .int .u8 0]) 5 40 Try.underlying22 hj hy0 hy1 hy2 rfl (by decide) (.slice A0 pre.length c0') _ _ rfl ((own_below HOB.out Rw2.out).alloc _) ⟨_, 0, none⟩ 1 1 (crC m) rfl rfl (reads_one5r _ _ m) (crC_one _) ?d5 ?e5 ?f5 ?_))
          case d5 => unfold maxLen; omega
          case e5 => omega
          case f5 => have := (bel_trans HB.out (bel_trans HWB.out Rw2.out)).size; simp only [World.size_alloc]; omega
          intro v' w7 hown' hg _
          have hb7 := Lib.hid (bel_grown (bel_alloc (bel_trans HB.out (bel_trans HWB.out Rw2.out)) _) ((own_below HOB.out Rw2.out).alloc _) hg)
          obtain ⟨A', c', rfl⟩ := own_shape hown'
          have HO7 := Lib.hid hown'
          clear hown' hg
          go_wp2
          go_roundw
          case rel => exact ⟨k + 1, pre ++ [m], A', c', by go_num, by rw [List.length_append]; rfl, by omega, by rw [List.length_append]; simp; omega, Lib.hid (by have h := HSP.out false (by unfold q2; rw [HBs.out, HA.out]; rfl); rwa [if_neg (by simp), id] at h), Lib.hid (by rw [crL_snoc, List.length_append]; exact HO7.out), hb7⟩
          case measure => simp [intOf] <;> omega
        | true =>
          go_wp2_with (first
            | (go_at_call 55; (with_reducible refine (H1.out _ R0.out).mono ?_); rintro e w1 ⟨rfl, b1⟩; have Rw1 := Lib.hid (bel_trans R0.out b1); clear b1)
            | (go_at_call 61; (with_reducible refine (H2.out _ Rw1.out).mono ?_); rintro e w2 ⟨rfl, b1⟩; have Rw2 := Lib.hid (bel_trans Rw1.out b1); obtain ⟨x0, x1, x2, x3, x4⟩ := HC.out _ Rw2.out; clear b1))
          go_roundw
          case rel => exact ⟨k + 1, pre, A0, c0', by go_num, rfl, by omega, by omega, Lib.hid (by have h := HSP.out true (by unfold q2; rw [HBs.out, HA.out]; rfl); rwa [if_pos rfl] at h), Lib.hid (own_below HOB.out Rw2.out), Lib.hid (bel_trans HB.out (bel_trans HWB.out Rw2.out))⟩
          case measure => simp [intOf] <;> omega
    · obtain rfl : k = n := by omega
      have g1 : decide ((k : Int) < (k : Int)) = false := decide_eq_false (by omega)
      go_wp2
      go_ret
      have e := spec_end _ _ cs k S pre HP.out (by rw [HL.out]; omega)
      exact ⟨_, rfl, by rw [e]; exact HO.out, HB.out⟩
set_option maxHeartbeats 8000000 in
set_option maxRecDepth 20000 in
theorem several_any (A : Option Addr) (n c : Nat) (cs : List Cr) (AS : Option Addr) (nS cS : Nat) (ss : List St) (hn : n ≤ 1000000000) (hI : NodesIn nS cs) (w : World) (hr : Reads w w.heap.size 5 A n (crL cs)) (hrS : Reads w w.heap.size 9 AS nS (stL ss)) :
    Calls Try.prog 29 #[.slice A n c, .slice AS nS cS] w fun e w' => ∃ v, e = .returned v ∧ w'.ownsRow w.heap.size 38 5 v ((filterZ (q3 ss) [] cs).map (id)).length (crL ((filterZ (q3 ss) [] cs).map (id))) ∧ Below w.heap.size w w' := by
  have HL := Lib.hid (len_cr hr)
  have HR := Lib.hid hr
  obtain ⟨j0, hj, hy0, hy1, hy2⟩ := info_parts infoCr2
  obtain ⟨S, hS⟩ : ∃ S, (filterZ (q3 ss) [] cs).map (id) = S := ⟨_, rfl⟩
  have HS := Lib.hid hS
  have nn : (n : Int) ≤ 1000000000 := by omega
  rw [hS]
  clear hr hS
  go_enter Try.func29, Try.ntmps29
  go_wp2_with (fail)
  go_loopw [5, 6] (fun o i wr => ∃ (k : Nat) (pre : List Cr) (A0 : Option Addr) (c0' : Nat), i = .int .i64 k ∧ o = .slice A0 pre.length c0' ∧ k ≤ n ∧ pre.length ≤ k ∧ Hid (S = pre ++ (filterZ (q3 ss) (cs.take k).reverse (cs.drop k)).map (id)) ∧ Hid (wr.ownsRow w.heap.size 38 5 (.slice A0 pre.length c0') pre.length (crL pre)) ∧ Hid (Below w.heap.size w wr)) (fun o i _ => n - (intOf i).toNat)
  case atStart => exact ⟨0, [], none, 0, rfl, rfl, by omega, Nat.le_refl _, Lib.hid (by rw [← HS.out, List.drop_zero]; rfl), Lib.hid (own_nil _ _ _ _), Lib.hid (Below.refl _ _)⟩
  case round =>
    obtain ⟨k, pre, A0, c0', rfl, rfl, hk, hpk, HP, HO, HB⟩ := hrel
    by_cases hlt : k < n
    · have g1 : decide ((k : Int) < (n : Int)) = true := decide_eq_true (by omega)
      have g2 : (k : Int) < (n : Int) := by omega
      have g3 : (0 : Int) ≤ (k : Int) := by omega
      have lp : (pre.length : Int) ≤ 1000000000 := by omega
      obtain ⟨ad, _, rfl, _, _, _⟩ := reads_cr HR.out hlt
      obtain ⟨m, hm, hC⟩ := cellsAt HR.out hlt
      have HSP := Lib.hid (fun (r : Bool) (hr : (q3 ss) (cs.take k).reverse m (cs.drop (k + 1)) = r) => spec_step _ (id) cs k m S pre r hm HP.out hr)
      obtain ⟨c0, c1, c2, c3, c4⟩ := hC _ HB.out
      have HWB := Lib.hid (Below.refl wr.heap.size wr)
      have HOB := HO
      have R0 := Lib.hid (Below.refl wr.heap.size wr)
      have HTo := Lib.hid (fun (V : World) (hV : Below wr.heap.size wr V) => bel_trans HB.out hV)
      have HC := Lib.hid (fun (V : World) (hV : Below wr.heap.size wr V) => hC V (bel_trans HB.out hV))
      have HWh := Lib.hid (fun (i : Nat) (m : Cr) (hm : cs[i]? = some m) (V : World) (hV : Below wr.heap.size wr V) => rwhite_any m AS nS cS ss (hI.at_ hm).1 (hI.at_ hm).2 V ((hrS.below (HTo.out V hV)).more (HTo.out V hV).size))
      have HSo := Lib.hid (fun (i : Nat) (m : Cr) (hm : cs[i]? = some m) (V : World) (hV : Below wr.heap.size wr V) => rsoft_any m AS nS cS ss (hI.at_ hm).1 (hI.at_ hm).2 V ((hrS.below (HTo.out V hV)).more (HTo.out V hV).size))
      have HM := Lib.hid hm
      clear hm hC
      have H1 := Lib.hid (fun V hV => HSo.out k m HM.out V hV)
      have H2 := Lib.hid (fun (V : World) (hV : Below wr.heap.size wr V) => hard_any (some ad) n c cs AS nS cS ss k hlt hn hI V ((HR.out.below (HTo.out V hV)).more (HTo.out V hV).size) ((hrS.below (HTo.out V hV)).more (HTo.out V hV).size))
      obtain ⟨a, ha⟩ : ∃ a, sfC ss m = a := ⟨_, rfl⟩
      rw [ha] at H1
      have HA := Lib.hid ha
      obtain ⟨b, hb⟩ : ∃ b, (hd ((cs.take (k + 1)).reverse.dropWhile (sfC ss)) enC || hd ((cs.drop k).dropWhile (sfC ss)) enC) = b := ⟨_, rfl⟩
      rw [hb] at H2
      have HBs := Lib.hid (show (hd ((m :: (cs.take k).reverse).dropWhile (sfC ss)) enC || hd ((m :: cs.drop (k + 1)).dropWhile (sfC ss)) enC) = b by rw [← rev_step cs k m HM.out, ← drop_step cs k m HM.out]; exact hb)
      clear ha hb
      cases a with
      | false =>
        go_wp2_with (first
          | (go_at_call 57; (with_reducible refine (H1.out _ R0.out).mono ?_); rintro e w1 ⟨rfl, b1⟩; have Rw1 := Lib.hid (bel_trans R0.out b1); obtain ⟨x0, x1, x2, x3, x4⟩ := HC.out _ Rw1.out; clear b1)
          | (at_builtin; refine wpList_append_own _ rfl (.tmp 41) (.tmp 46) 22 rfl w.heap.size 38 j0 (.agg #[.int .i32 0, .int .i64 0, .int .i64 0, .int .i64 0, .int .u8 0]) 5 40 Try.underlying22 hj hy0 hy1 hy2 rfl (by decide) (.slice A0 pre.length c0') _ _ rfl ((own_below HOB.out Rw1.out).alloc _) ⟨_, 0, none⟩ 1 1 (crC m) rfl rfl (reads_one5r _ _ m) (crC_one _) ?d6 ?e6 ?f6 ?_))
        case d6 => unfold maxLen; omega
        case e6 => omega
        case f6 => have := (bel_trans HB.out (bel_trans HWB.out Rw1.out)).size; simp only [World.size_alloc]; omega
        intro v' w7 hown' hg _
        have hb7 := Lib.hid (bel_grown (bel_alloc (bel_trans HB.out (bel_trans HWB.out Rw1.out)) _) ((own_below HOB.out Rw1.out).alloc _) hg)
        obtain ⟨A', c', rfl⟩ := own_shape hown'
        have HO7 := Lib.hid hown'
        clear hown' hg
        go_wp2
        go_roundw
        case rel => exact ⟨k + 1, pre ++ [m], A', c', by go_num, by rw [List.length_append]; rfl, by omega, by rw [List.length_append]; simp; omega, Lib.hid (by have h := HSP.out false (by unfold q3; rw [HA.out]; rfl); rwa [if_neg (by simp), id] at h), Lib.hid (by rw [crL_snoc, List.length_append]; exact HO7.out), hb7⟩
        case measure => simp [intOf] <;> omega
      | true =>
        cases b with
        | true =>
          go_wp2_with (first
            | (go_at_call 57; (with_reducible refine (H1.out _ R0.out).mono ?_); rintro e w1 ⟨rfl, b1⟩; have Rw1 := Lib.hid (bel_trans R0.out b1); clear b1)
            | (go_at_call 60; (with_reducible refine (H2.out _ Rw1.out).mono ?_); rintro e w2 ⟨rfl, b1⟩; have Rw2 := Lib.hid (bel_trans Rw1.out b1); obtain ⟨x0, x1, x2, x3, x4⟩ := HC.out _ Rw2.out; try (obtain ⟨y0, y1, y2, y3, y4⟩ := HC2.out _ Rw2.out); clear b1))
          go_roundw
          case rel => exact ⟨k + 1, pre, A0, c0', by go_num, rfl, by omega, by omega, Lib.hid (by have h := HSP.out true (by unfold q3; rw [HBs.out, HA.out]; rfl); rwa [if_pos rfl] at h), Lib.hid (own_below HOB.out Rw2.out), Lib.hid (bel_trans HB.out (bel_trans HWB.out Rw2.out))⟩
          case measure => simp [intOf] <;> omega
        | false =>
          by_cases h0 : k = 0
          · have p0 : ((k : Int) == 0) = true := by simp [h0]
            have HZ := Lib.hid (show hd (cs.take k).reverse (sfC ss) = false by rw [h0]; rfl)
            clear h0
            go_wp2_with (first
              | (go_at_call 57; (with_reducible refine (H1.out _ R0.out).mono ?_); rintro e w1 ⟨rfl, b1⟩; have Rw1 := Lib.hid (bel_trans R0.out b1); clear b1)
              | (go_at_call 60; (with_reducible refine (H2.out _ Rw1.out).mono ?_); rintro e w2 ⟨rfl, b1⟩; have Rw2 := Lib.hid (bel_trans Rw1.out b1); obtain ⟨x0, x1, x2, x3, x4⟩ := HC.out _ Rw2.out; try (obtain ⟨y0, y1, y2, y3, y4⟩ := HC2.out _ Rw2.out); clear b1)
              | (at_builtin; refine wpList_append_own _ rfl (.tmp 41) (.tmp 46) 22 rfl w.heap.size 38 j0 (.agg #[.int .i32 0, .int .i64 0, .int .i64 0, .int .i64 0, .int .u8 0]) 5 40 Try.underlying22 hj hy0 hy1 hy2 rfl (by decide) (.slice A0 pre.length c0') _ _ rfl ((own_below HOB.out Rw2.out).alloc _) ⟨_, 0, none⟩ 1 1 (crC m) rfl rfl (reads_one5r _ _ m) (crC_one _) ?d7 ?e7 ?f7 ?_))
            case d7 => unfold maxLen; omega
            case e7 => omega
            case f7 => have := (bel_trans HB.out (bel_trans HWB.out Rw2.out)).size; simp only [World.size_alloc]; omega
            intro v' w7 hown' hg _
            have hb7 := Lib.hid (bel_grown (bel_alloc (bel_trans HB.out (bel_trans HWB.out Rw2.out)) _) ((own_below HOB.out Rw2.out).alloc _) hg)
            obtain ⟨A', c', rfl⟩ := own_shape hown'
            have HO7 := Lib.hid hown'
            clear hown' hg
            go_wp2
            go_roundw
            case rel => exact ⟨k + 1, pre ++ [m], A', c', by go_num, by rw [List.length_append]; rfl, by omega, by rw [List.length_append]; simp; omega, Lib.hid (by have h := HSP.out false (by unfold q3; rw [HBs.out, HA.out, HZ.out]; rfl); rwa [if_neg (by simp), id] at h), Lib.hid (by rw [crL_snoc, List.length_append]; exact HO7.out), hb7⟩
            case measure => simp [intOf] <;> omega
          · have p0 : ((k : Int) == 0) = false := by simp [h0]
            obtain ⟨J, hJ⟩ : ∃ J, k = J + 1 := ⟨k - 1, by omega⟩
            have wj : IntKind.i64.wrap ((k : Int) - 1) = (J : Int) := by rw [show (k : Int) - 1 = (J : Int) by omega]; exact IntWalk.i64_in _ ⟨by omega, by omega⟩
            have g6 : (0 : Int) ≤ (J : Int) := by omega
            have g7 : (J : Int) < (n : Int) := by omega
            obtain ⟨m2, hm2, hC2⟩ := cellsAt HR.out (show J < n by omega)
            have HC2 := Lib.hid (fun (V : World) (hV : Below wr.heap.size wr V) => hC2 V (bel_trans HB.out hV))
            have H3 := Lib.hid (fun V hV => HSo.out J m2 hm2 V hV)
            obtain ⟨d, hd⟩ : ∃ d, sfC ss m2 = d := ⟨_, rfl⟩
            rw [hd] at H3
            have HZ := Lib.hid (show White.hd (cs.take k).reverse (sfC ss) = d by rw [hJ, hd_takeS cs J m2 _ hm2, hd])
            clear h0 hJ hm2 hC2 hd
            cases d with
            | false =>
              go_wp2_with (first
                | (go_at_call 57; (with_reducible refine (H1.out _ R0.out).mono ?_); rintro e w1 ⟨rfl, b1⟩; have Rw1 := Lib.hid (bel_trans R0.out b1); clear b1)
                | (go_at_call 60; (with_reducible refine (H2.out _ Rw1.out).mono ?_); rintro e w2 ⟨rfl, b1⟩; have Rw2 := Lib.hid (bel_trans Rw1.out b1); obtain ⟨x0, x1, x2, x3, x4⟩ := HC.out _ Rw2.out; try (obtain ⟨y0, y1, y2, y3, y4⟩ := HC2.out _ Rw2.out); clear b1)
                | (go_at_call 57; (with_reducible refine (H3.out _ Rw2.out).mono ?_); rintro e w3 ⟨rfl, b1⟩; have Rw3 := Lib.hid (bel_trans Rw2.out b1); obtain ⟨x0, x1, x2, x3, x4⟩ := HC.out _ Rw3.out; clear b1)
                | (at_builtin; refine wpList_append_own _ rfl (.tmp 41) (.tmp 46) 22 rfl w.heap.size 38 j0 (.agg #[.int .i32 0, .int .i64 0, .int .i64 0, .int .i64 0, .int .u8 0]) 5 40 Try.underlying22 hj hy0 hy1 hy2 rfl (by decide) (.slice A0 pre.length c0') _ _ rfl ((own_below HOB.out Rw3.out).alloc _) ⟨_, 0, none⟩ 1 1 (crC m) rfl rfl (reads_one5r _ _ m) (crC_one _) ?d8 ?e8 ?f8 ?_))
              case d8 => unfold maxLen; omega
              case e8 => omega
              case f8 => have := (bel_trans HB.out (bel_trans HWB.out Rw3.out)).size; simp only [World.size_alloc]; omega
              intro v' w7 hown' hg _
              have hb7 := Lib.hid (bel_grown (bel_alloc (bel_trans HB.out (bel_trans HWB.out Rw3.out)) _) ((own_below HOB.out Rw3.out).alloc _) hg)
              obtain ⟨A', c', rfl⟩ := own_shape hown'
              have HO7 := Lib.hid hown'
              clear hown' hg
              go_wp2
              go_roundw
              case rel => exact ⟨k + 1, pre ++ [m], A', c', by go_num, by rw [List.length_append]; rfl, by omega, by rw [List.length_append]; simp; omega, Lib.hid (by have h := HSP.out false (by unfold q3; rw [HBs.out, HA.out, HZ.out]; rfl); rwa [if_neg (by simp), id] at h), Lib.hid (by rw [crL_snoc, List.length_append]; exact HO7.out), hb7⟩
              case measure => simp [intOf] <;> omega
            | true =>
              go_wp2_with (first
                | (go_at_call 57; (with_reducible refine (H1.out _ R0.out).mono ?_); rintro e w1 ⟨rfl, b1⟩; have Rw1 := Lib.hid (bel_trans R0.out b1); clear b1)
                | (go_at_call 60; (with_reducible refine (H2.out _ Rw1.out).mono ?_); rintro e w2 ⟨rfl, b1⟩; have Rw2 := Lib.hid (bel_trans Rw1.out b1); obtain ⟨x0, x1, x2, x3, x4⟩ := HC.out _ Rw2.out; try (obtain ⟨y0, y1, y2, y3, y4⟩ := HC2.out _ Rw2.out); clear b1)
                | (go_at_call 57; (with_reducible refine (H3.out _ Rw2.out).mono ?_); rintro e w3 ⟨rfl, b1⟩; have Rw3 := Lib.hid (bel_trans Rw2.out b1); obtain ⟨x0, x1, x2, x3, x4⟩ := HC.out _ Rw3.out; clear b1))
              go_roundw
              case rel => exact ⟨k + 1, pre, A0, c0', by go_num, rfl, by omega, by omega, Lib.hid (by have h := HSP.out true (by unfold q3; rw [HBs.out, HA.out, HZ.out]; rfl); rwa [if_pos rfl] at h), Lib.hid (own_below HOB.out Rw3.out), Lib.hid (bel_trans HB.out (bel_trans HWB.out Rw3.out))⟩
              case measure => simp [intOf] <;> omega
    · obtain rfl : k = n := by omega
      have g1 : decide ((k : Int) < (k : Int)) = false := decide_eq_false (by omega)
      go_wp2
      go_ret
      have e := spec_end _ _ cs k S pre HP.out (by rw [HL.out]; omega)
      exact ⟨_, rfl, by rw [e]; exact HO.out, HB.out⟩
set_option maxHeartbeats 8000000 in
set_option maxRecDepth 20000 in
theorem rows_any (A : Option Addr) (n c : Nat) (cs : List Cr) (AS : Option Addr) (nS cS : Nat) (ss : List St) (hn : n ≤ 1000000000) (hI : NodesIn nS cs) (w : World) (hr : Reads w w.heap.size 5 A n (crL cs)) (hrS : Reads w w.heap.size 9 AS nS (stL ss)) :
    Calls Try.prog 27 #[.slice A n c, .slice AS nS cS] w fun e w' => ∃ v, e = .returned v ∧ w'.ownsRow w.heap.size 38 5 v ((filterZ (q5 ss) [] cs).map (id)).length (crL ((filterZ (q5 ss) [] cs).map (id))) ∧ Below w.heap.size w w' := by
  have HL := Lib.hid (len_cr hr)
  have HR := Lib.hid hr
  obtain ⟨j0, hj, hy0, hy1, hy2⟩ := info_parts infoCr2
  obtain ⟨S, hS⟩ : ∃ S, (filterZ (q5 ss) [] cs).map (id) = S := ⟨_, rfl⟩
  have HS := Lib.hid hS
  have nn : (n : Int) ≤ 1000000000 := by omega
  rw [hS]
  clear hr hS
  go_enter Try.func27, Try.ntmps27
  go_wp2_with (fail)
  go_loopw [5, 6] (fun o i wr => ∃ (k : Nat) (pre : List Cr) (A0 : Option Addr) (c0' : Nat), i = .int .i64 k ∧ o = .slice A0 pre.length c0' ∧ k ≤ n ∧ pre.length ≤ k ∧ Hid (S = pre ++ (filterZ (q5 ss) (cs.take k).reverse (cs.drop k)).map (id)) ∧ Hid (wr.ownsRow w.heap.size 38 5 (.slice A0 pre.length c0') pre.length (crL pre)) ∧ Hid (Below w.heap.size w wr)) (fun o i _ => n - (intOf i).toNat)
  case atStart => exact ⟨0, [], none, 0, rfl, rfl, by omega, Nat.le_refl _, Lib.hid (by rw [← HS.out, List.drop_zero]; rfl), Lib.hid (own_nil _ _ _ _), Lib.hid (Below.refl _ _)⟩
  case round =>
    obtain ⟨k, pre, A0, c0', rfl, rfl, hk, hpk, HP, HO, HB⟩ := hrel
    by_cases hlt : k < n
    · have g1 : decide ((k : Int) < (n : Int)) = true := decide_eq_true (by omega)
      have g2 : (k : Int) < (n : Int) := by omega
      have g3 : (0 : Int) ≤ (k : Int) := by omega
      have lp : (pre.length : Int) ≤ 1000000000 := by omega
      obtain ⟨ad, _, rfl, _, _, _⟩ := reads_cr HR.out hlt
      obtain ⟨m, hm, hC⟩ := cellsAt HR.out hlt
      have HSP := Lib.hid (fun (r : Bool) (hr : (q5 ss) (cs.take k).reverse m (cs.drop (k + 1)) = r) => spec_step _ (id) cs k m S pre r hm HP.out hr)
      obtain ⟨c0, c1, c2, c3, c4⟩ := hC _ HB.out
      have HWB := Lib.hid (Below.refl wr.heap.size wr)
      have HOB := HO
      have R0 := Lib.hid (Below.refl wr.heap.size wr)
      have HTo := Lib.hid (fun (V : World) (hV : Below wr.heap.size wr V) => bel_trans HB.out hV)
      have HC := Lib.hid (fun (V : World) (hV : Below wr.heap.size wr V) => hC V (bel_trans HB.out hV))
      have HWh := Lib.hid (fun (i : Nat) (m : Cr) (hm : cs[i]? = some m) (V : World) (hV : Below wr.heap.size wr V) => rwhite_any m AS nS cS ss (hI.at_ hm).1 (hI.at_ hm).2 V ((hrS.below (HTo.out V hV)).more (HTo.out V hV).size))
      have HSo := Lib.hid (fun (i : Nat) (m : Cr) (hm : cs[i]? = some m) (V : World) (hV : Below wr.heap.size wr V) => rsoft_any m AS nS cS ss (hI.at_ hm).1 (hI.at_ hm).2 V ((hrS.below (HTo.out V hV)).more (HTo.out V hV).size))
      have HM := Lib.hid hm
      clear hm hC
      have H1 := Lib.hid (fun V hV => HWh.out k m HM.out V hV)
      obtain ⟨a, ha⟩ : ∃ a, whC ss m = a := ⟨_, rfl⟩
      rw [ha] at H1
      have HA := Lib.hid ha
      clear ha
      by_cases h0 : k = 0
      · have p0 : ((k : Int) == 0) = true := by simp [h0]
        have HZ := Lib.hid (show hd (cs.take k).reverse (whC ss) = false by rw [h0]; rfl)
        clear h0
        have Rwr := R0
        go_wp2_with (first
          | (fail)
          | (at_builtin; refine wpList_append_own _ rfl (.tmp 34) (.tmp 39) 22 rfl w.heap.size 38 j0 (.agg #[.int .i32 0, .int .i64 0, .int .i64 0, .int .i64 0, .int .u8 0]) 5 40 Try.underlying22 hj hy0 hy1 hy2 rfl (by decide) (.slice A0 pre.length c0') _ _ rfl ((own_below HOB.out Rwr.out).alloc _) ⟨_, 0, none⟩ 1 1 (crC m) rfl rfl (reads_one5r _ _ m) (crC_one _) ?d9 ?e9 ?f9 ?_))
        case d9 => unfold maxLen; omega
        case e9 => omega
        case f9 => have := (bel_trans HB.out (bel_trans HWB.out Rwr.out)).size; simp only [World.size_alloc]; omega
        intro v' w7 hown' hg _
        have hb7 := Lib.hid (bel_grown (bel_alloc (bel_trans HB.out (bel_trans HWB.out Rwr.out)) _) ((own_below HOB.out Rwr.out).alloc _) hg)
        obtain ⟨A', c', rfl⟩ := own_shape hown'
        have HO7 := Lib.hid hown'
        clear hown' hg
        go_wp2
        go_roundw
        case rel => exact ⟨k + 1, pre ++ [m], A', c', by go_num, by rw [List.length_append]; rfl, by omega, by rw [List.length_append]; simp; omega, Lib.hid (by have h := HSP.out false (by unfold q5; rw [HZ.out, Bool.and_false]); rwa [if_neg (by simp), id] at h), Lib.hid (by rw [crL_snoc, List.length_append]; exact HO7.out), hb7⟩
        case measure => simp [intOf] <;> omega
      · have p0 : ((k : Int) == 0) = false := by simp [h0]
        obtain ⟨J, hJ⟩ : ∃ J, k = J + 1 := ⟨k - 1, by omega⟩
        have wj : IntKind.i64.wrap ((k : Int) - 1) = (J : Int) := by rw [show (k : Int) - 1 = (J : Int) by omega]; exact IntWalk.i64_in _ ⟨by omega, by omega⟩
        have g6 : (0 : Int) ≤ (J : Int) := by omega
        have g7 : (J : Int) < (n : Int) := by omega
        obtain ⟨m2, hm2, hC2⟩ := cellsAt HR.out (show J < n by omega)
        have HC2 := Lib.hid (fun (V : World) (hV : Below wr.heap.size wr V) => hC2 V (bel_trans HB.out hV))
        have H3 := Lib.hid (fun V hV => HWh.out J m2 hm2 V hV)
        obtain ⟨d, hd⟩ : ∃ d, whC ss m2 = d := ⟨_, rfl⟩
        rw [hd] at H3
        have HZ := Lib.hid (show White.hd (cs.take k).reverse (whC ss) = d by rw [hJ, hd_takeS cs J m2 _ hm2, hd])
        clear h0 hJ hm2 hC2 hd
        cases a with
        | false =>
          go_wp2_with (first
            | (go_at_call 55; (with_reducible refine (H1.out _ R0.out).mono ?_); rintro e w1 ⟨rfl, b1⟩; have Rw1 := Lib.hid (bel_trans R0.out b1); obtain ⟨x0, x1, x2, x3, x4⟩ := HC.out _ Rw1.out; obtain ⟨y0, y1, y2, y3, y4⟩ := HC2.out _ Rw1.out; clear b1)
            | (at_builtin; refine wpList_append_own _ rfl (.tmp 34) (.tmp 39) 22 rfl w.heap.size 38 j0 (.agg #[.int .i32 0, .int .i64 0, .int .i64 0, .int .i64 0, .int .u8 0]) 5 40 Try.underlying22 hj hy0 hy1 hy2 rfl (by decide) (.slice A0 pre.length c0') _ _ rfl ((own_below HOB.out Rw1.out).alloc _) ⟨_, 0, none⟩ 1 1 (crC m) rfl rfl (reads_one5r _ _ m) (crC_one _) ?d10 ?e10 ?f10 ?_))
          case d10 => unfold maxLen; omega
          case e10 => omega
          case f10 => have := (bel_trans HB.out (bel_trans HWB.out Rw1.out)).size; simp only [World.size_alloc]; omega
          intro v' w7 hown' hg _
          have hb7 := Lib.hid (bel_grown (bel_alloc (bel_trans HB.out (bel_trans HWB.out Rw1.out)) _) ((own_below HOB.out Rw1.out).alloc _) hg)
          obtain ⟨A', c', rfl⟩ := own_shape hown'
          have HO7 := Lib.hid hown'
          clear hown' hg
          go_wp2
          go_roundw
          case rel => exact ⟨k + 1, pre ++ [m], A', c', by go_num, by rw [List.length_append]; rfl, by omega, by rw [List.length_append]; simp; omega, Lib.hid (by have h := HSP.out false (by unfold q5; rw [HA.out]; rfl); rwa [if_neg (by simp), id] at h), Lib.hid (by rw [crL_snoc, List.length_append]; exact HO7.out), hb7⟩
          case measure => simp [intOf] <;> omega
        | true =>
          cases d with
          | false =>
            go_wp2_with (first
              | (go_at_call 55; (with_reducible refine (H1.out _ R0.out).mono ?_); rintro e w1 ⟨rfl, b1⟩; have Rw1 := Lib.hid (bel_trans R0.out b1); obtain ⟨x0, x1, x2, x3, x4⟩ := HC.out _ Rw1.out; obtain ⟨y0, y1, y2, y3, y4⟩ := HC2.out _ Rw1.out; clear b1)
              | (go_at_call 55; (with_reducible refine (H3.out _ Rw1.out).mono ?_); rintro e w2 ⟨rfl, b1⟩; have Rw2 := Lib.hid (bel_trans Rw1.out b1); obtain ⟨x0, x1, x2, x3, x4⟩ := HC.out _ Rw2.out; clear b1)
              | (at_builtin; refine wpList_append_own _ rfl (.tmp 34) (.tmp 39) 22 rfl w.heap.size 38 j0 (.agg #[.int .i32 0, .int .i64 0, .int .i64 0, .int .i64 0, .int .u8 0]) 5 40 Try.underlying22 hj hy0 hy1 hy2 rfl (by decide) (.slice A0 pre.length c0') _ _ rfl ((own_below HOB.out Rw2.out).alloc _) ⟨_, 0, none⟩ 1 1 (crC m) rfl rfl (reads_one5r _ _ m) (crC_one _) ?d11 ?e11 ?f11 ?_))
            case d11 => unfold maxLen; omega
            case e11 => omega
            case f11 => have := (bel_trans HB.out (bel_trans HWB.out Rw2.out)).size; simp only [World.size_alloc]; omega
            intro v' w7 hown' hg _
            have hb7 := Lib.hid (bel_grown (bel_alloc (bel_trans HB.out (bel_trans HWB.out Rw2.out)) _) ((own_below HOB.out Rw2.out).alloc _) hg)
            obtain ⟨A', c', rfl⟩ := own_shape hown'
            have HO7 := Lib.hid hown'
            clear hown' hg
            go_wp2
            go_roundw
            case rel => exact ⟨k + 1, pre ++ [m], A', c', by go_num, by rw [List.length_append]; rfl, by omega, by rw [List.length_append]; simp; omega, Lib.hid (by have h := HSP.out false (by unfold q5; rw [HA.out, HZ.out]; rfl); rwa [if_neg (by simp), id] at h), Lib.hid (by rw [crL_snoc, List.length_append]; exact HO7.out), hb7⟩
            case measure => simp [intOf] <;> omega
          | true =>
            go_wp2_with (first
              | (go_at_call 55; (with_reducible refine (H1.out _ R0.out).mono ?_); rintro e w1 ⟨rfl, b1⟩; have Rw1 := Lib.hid (bel_trans R0.out b1); obtain ⟨x0, x1, x2, x3, x4⟩ := HC.out _ Rw1.out; obtain ⟨y0, y1, y2, y3, y4⟩ := HC2.out _ Rw1.out; clear b1)
              | (go_at_call 55; (with_reducible refine (H3.out _ Rw1.out).mono ?_); rintro e w2 ⟨rfl, b1⟩; have Rw2 := Lib.hid (bel_trans Rw1.out b1); obtain ⟨x0, x1, x2, x3, x4⟩ := HC.out _ Rw2.out; clear b1))
            go_roundw
            case rel => exact ⟨k + 1, pre, A0, c0', by go_num, rfl, by omega, by omega, Lib.hid (by have h := HSP.out true (by unfold q5; rw [HA.out, HZ.out]; rfl); rwa [if_pos rfl] at h), Lib.hid (own_below HOB.out Rw2.out), Lib.hid (bel_trans HB.out (bel_trans HWB.out Rw2.out))⟩
            case measure => simp [intOf] <;> omega
    · obtain rfl : k = n := by omega
      have g1 : decide ((k : Int) < (k : Int)) = false := decide_eq_false (by omega)
      go_wp2
      go_ret
      have e := spec_end _ _ cs k S pre HP.out (by rw [HL.out]; omega)
      exact ⟨_, rfl, by rw [e]; exact HO.out, HB.out⟩
end Go.Proofs.Ytmjacmjogckihaa.White
