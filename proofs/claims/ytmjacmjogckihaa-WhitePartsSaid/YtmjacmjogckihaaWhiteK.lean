/- Chapter 8: the reference's steps, walked. No condition but bounds. -/
import Derived.Test.YtmjacmjogckihaaWhiteJ
namespace Go.Proofs.Ytmjacmjogckihaa.White
open Go.RowKit
set_option linter.unusedVariables false
set_option linter.unusedSimpArgs false
def q1 (pre : List Cr) (x : Cr) (post : List Cr) : Bool := isT x 13 && hd post (fun c => isT c 10)
def q2 (ss : List St) (pre : List Cr) (x : Cr) (post : List Cr) : Bool := whC ss x && (hd (pre.dropWhile (whC ss)) enC || hd (post.dropWhile (whC ss)) enC)
def q3 (ss : List St) (pre : List Cr) (x : Cr) (post : List Cr) : Bool := sfC ss x && ((hd ((x :: pre).dropWhile (sfC ss)) enC || hd ((x :: post).dropWhile (sfC ss)) enC) || hd pre (sfC ss))
def goB (pre post : List Cr) : Bool := hd pre (fun c => isT c 8203) || (hd post (fun c => isT c 8203) || (hd pre wdC && hd post wdC))
def q4 (ss : List St) (pre : List Cr) (x : Cr) (post : List Cr) : Bool := sfC ss x && goB pre post
def q5 (ss : List St) (pre : List Cr) (x : Cr) (post : List Cr) : Bool := whC ss x && hd pre (whC ss)
def q6 (pre : List Cr) (x : Cr) (post : List Cr) : Bool := false
def u4 (ss : List St) (c : Cr) : Cr := if sfC ss c = true then { c with r := 32 } else if enC c = true then { c with r := 10, kind := 5 } else if whC ss c = true then { c with r := 32 } else c
def u6 (ss : List St) (c : Cr) : Cr := if whC ss c = true then { c with kind := 1 } else if isT c 9 = true then { c with kind := 4 } else if isT c 32 = true then (if whOf ss c.node = 3 then { c with kind := 2 } else { c with kind := 3 }) else c
theorem infoCr2 : (Try.prog.info? 38).map (fun i => (i.zero, i.size, i.bytes)) = some (some (.agg #[.int .i32 0, .int .i64 0, .int .i64 0, .int .i64 0, .int .u8 0]), 5, 40) := by kernel_rfl
theorem reads_one5r (w : World) (t : TypeId) (m : Cr) : ∀ j v, (crC m)[j]? = some v → (w.alloc (.cells (crC m).toArray t)).cell? ((⟨w.heap.size, 0, none⟩ : Addr).add j) = some v := by
  intro j v hv
  obtain ⟨ad, e, _, h⟩ := (reads_newK (k := 5) w t (crC m).toArray 1 (crC m) rfl rfl).2 (by omega)
  injection e with e
  subst e
  exact h j v hv
theorem crC_one (m : Cr) : ∀ u ∈ crC m, u.oneCell' = true := by simp [crC, Value.oneCell']
theorem crL_snoc (pre : List Cr) (m : Cr) : crL (pre ++ [m]) = crL pre ++ crC m := by rw [crL_app, crL_cons, show crL [] = [] from rfl, List.append_nil]
theorem cellsAt {w : World} {B n : Nat} {ad : Addr} {cs : List Cr} (hr : Reads w B 5 (some ad) n (crL cs)) {i : Nat} (hi : i < n) : ∃ m, cs[i]? = some m ∧ ∀ V, Below B w V → Cell5 V (ad.add (i * 5)) m := by
  obtain ⟨ad', m, e, hb, hm, hc⟩ := reads_cr hr hi
  injection e with e
  subst e
  exact ⟨m, hm, fun V hV => cell5_keep hc hV (by rw [block_of_add]; exact hb)⟩
theorem hd_take0 {α : Type} (cs : List α) (f : α → Bool) : hd (cs.take 0).reverse f = false := rfl
theorem hd_takeS {α : Type} (cs : List α) (j : Nat) (m : α) (f : α → Bool) (h : cs[j]? = some m) : hd (cs.take (j + 1)).reverse f = f m := by rw [rev_step cs j m h]; rfl
theorem hd_dropN {α : Type} (cs : List α) (j : Nat) (f : α → Bool) (h : cs.length ≤ j) : hd (cs.drop j) f = false := by rw [List.drop_of_length_le h]; rfl
theorem hd_dropS {α : Type} (cs : List α) (j : Nat) (m : α) (f : α → Bool) (h : cs[j]? = some m) : hd (cs.drop j) f = f m := by rw [drop_step cs j m h]; rfl
set_option maxHeartbeats 4000000 in
theorem goes_any (A : Option Addr) (n c : Nat) (cs : List Cr) (j : Nat) (hj : j < n) (hn : n ≤ 1000000000) (w : World) (hr : Reads w w.heap.size 5 A n (crL cs)) :
    Calls Try.prog 58 #[.slice A n c, .int .i64 j] w fun e w' => e = .returned (.bool (goB (cs.take j).reverse (cs.drop (j + 1)))) ∧ Below w.heap.size w w' := by
  have HL := Lib.hid (len_cr hr)
  obtain ⟨ad, _, rfl, _, _, _⟩ := reads_cr hr hj
  have HI := Lib.hid (fun (m : Cr) (V : World) => is_any m 8203 V)
  have HW := Lib.hid (fun (m : Cr) (V : World) => rwide_any m V)
  have R0 := Lib.hid (Below.refl w.heap.size w)
  have nn : (n : Int) ≤ 1000000000 := by omega
  match j, hj with
  | 0, hj =>
    have wk : IntKind.i64.wrap ((0 : Int) + 1) = 1 := by go_num
    by_cases h1 : 1 < n
    · obtain ⟨m2, hm2, C2⟩ := cellsAt hr (show 0 + 1 < n from h1)
      have HC2 := Lib.hid C2
      have q1' : decide (1 < n) = true := decide_eq_true h1
      have i1 : (1 : Int) < (n : Int) := by omega
      have HE := Lib.hid (show goB (cs.take 0).reverse (cs.drop (0 + 1)) = isT m2 8203 by unfold goB; rw [hd_take0, hd_take0, hd_dropS cs (0 + 1) m2 _ hm2]; simp)
      have H2 := Lib.hid (fun V => HI.out m2 V)
      obtain ⟨c0, c1, c2, c3, c4⟩ := C2 _ (Below.refl _ _)
      rw [HE.out]
      generalize isT m2 8203 = z at H2
      clear hr hm2 C2
      simp only [Nat.zero_add, Nat.one_mul, show ad.add 5 = ⟨ad.block, ad.off + 5, none⟩ from add_pos ad 4] at c0 c1 c2 c3 c4
      cases z
      all_goals
        go_enter Try.func58, Try.ntmps58
        go_wp2_with ((go_at_call 56; (with_reducible refine (H2.out _).mono ?_); rintro e w1 ⟨rfl, b1⟩; have Rw1 := Lib.hid (bel_trans R0.out b1); clear b1))
        go_ret
        exact ⟨rfl, Rw1.out⟩
    · have q1' : decide (1 < n) = false := decide_eq_false h1
      have HE := Lib.hid (show goB (cs.take 0).reverse (cs.drop (0 + 1)) = false by unfold goB; rw [hd_take0, hd_take0, hd_dropN cs (0 + 1) _ (by rw [HL.out]; omega)]; rfl)
      rw [HE.out]
      clear hr
      go_enter Try.func58, Try.ntmps58
      go_wp2
      go_ret
      exact ⟨rfl, R0.out⟩
  | j + 1, hj =>
    have q0 : decide (0 < j + 1) = true := decide_eq_true (by omega)
    have wj : IntKind.i64.wrap (((j + 1 : Nat) : Int) - 1) = (j : Int) := by rw [show ((j + 1 : Nat) : Int) - 1 = (j : Int) by omega]; exact IntWalk.i64_in _ ⟨by omega, by omega⟩
    obtain ⟨J, hJ⟩ : ∃ J, j + 1 = J := ⟨_, rfl⟩
    rw [hJ] at q0 wj
    obtain ⟨m1, hm1, C1⟩ := cellsAt hr (show j < n by omega)
    have HC1 := Lib.hid C1
    have H1 := Lib.hid (fun V => HI.out m1 V)
    have HW1 := Lib.hid (fun V => HW.out m1 V)
    have i0 : (0 : Int) ≤ (j : Int) := by omega
    have i0' : (j : Int) < (n : Int) := by omega
    obtain ⟨c0, c1, c2, c3, c4⟩ := C1 _ (Below.refl _ _)
    by_cases h1 : j + 1 + 1 < n
    · obtain ⟨m2, hm2, C2⟩ := cellsAt hr h1
      rw [hJ] at C2
      have HC2 := Lib.hid C2
      have wk : IntKind.i64.wrap ((J : Int) + 1) = (J : Int) + 1 := IntWalk.i64_in _ ⟨by omega, by omega⟩
      have q1' : decide ((J : Int) + 1 < (n : Int)) = true := decide_eq_true (by omega)
      have i1 : (J : Int) + 1 < (n : Int) := by omega
      have i2 : (0 : Int) ≤ (J : Int) + 1 := by omega
      have HE := Lib.hid (show goB (cs.take (j + 1)).reverse (cs.drop (j + 1 + 1)) = (isT m1 8203 || (isT m2 8203 || (wdC m1 && wdC m2))) by unfold goB; rw [hd_takeS cs j m1 _ hm1, hd_takeS cs j m1 _ hm1, hd_dropS cs (j + 1 + 1) m2 _ hm2, hd_dropS cs (j + 1 + 1) m2 _ hm2])
      have H2 := Lib.hid (fun V => HI.out m2 V)
      have HW2 := Lib.hid (fun V => HW.out m2 V)
      rw [HE.out, hJ]
      generalize isT m1 8203 = z1 at H1
      generalize isT m2 8203 = z2 at H2
      generalize wdC m1 = d1 at HW1
      generalize wdC m2 = d2 at HW2
      clear hr hm1 hm2 C1 C2 HE
      have HJ := Lib.hid hJ
      clear hJ
      cases z1 <;> cases z2 <;> cases d1
      all_goals
        go_enter Try.func58, Try.ntmps58
        go_wp2_with (first
          | (go_at_call 56; (with_reducible refine (H1.out _).mono ?_); rintro e w1 ⟨rfl, b1⟩; have Rw1 := Lib.hid (bel_trans R0.out b1); obtain ⟨x0, x1, x2, x3, x4⟩ := HC1.out _ Rw1.out; obtain ⟨y0, y1, y2, y3, y4⟩ := HC2.out _ Rw1.out; clear b1)
          | (go_at_call 56; (with_reducible refine (H2.out _).mono ?_); rintro e w2 ⟨rfl, b1⟩; have Rw2 := Lib.hid (bel_trans Rw1.out b1); obtain ⟨x0, x1, x2, x3, x4⟩ := HC1.out _ Rw2.out; obtain ⟨y0, y1, y2, y3, y4⟩ := HC2.out _ Rw2.out; clear b1)
          | (go_at_call 67; (with_reducible refine (HW1.out _).mono ?_); rintro e w3 ⟨rfl, b1⟩; have Rw3 := Lib.hid (bel_trans Rw2.out b1); obtain ⟨y0, y1, y2, y3, y4⟩ := HC2.out _ Rw3.out; clear b1)
          | (go_at_call 67; (with_reducible refine (HW2.out _).mono ?_); rintro e w4 ⟨rfl, b1⟩; have Rw4 := Lib.hid (bel_trans Rw3.out b1); clear b1))
        go_ret
        exact ⟨rfl, by first | exact Rw4.out | exact Rw3.out | exact Rw2.out | exact Rw1.out⟩
    · have wk : IntKind.i64.wrap ((J : Int) + 1) = (J : Int) + 1 := IntWalk.i64_in _ ⟨by omega, by omega⟩
      have q1' : decide ((J : Int) + 1 < (n : Int)) = false := decide_eq_false (by omega)
      have HE := Lib.hid (show goB (cs.take (j + 1)).reverse (cs.drop (j + 1 + 1)) = isT m1 8203 by unfold goB; rw [hd_takeS cs j m1 _ hm1, hd_takeS cs j m1 _ hm1, hd_dropN cs (j + 1 + 1) _ (by rw [HL.out]; omega), hd_dropN cs (j + 1 + 1) _ (by rw [HL.out]; omega)]; simp)
      rw [HE.out, hJ]
      generalize isT m1 8203 = z1 at H1
      clear hr hm1 C1 HE
      have HJ := Lib.hid hJ
      clear hJ
      cases z1
      all_goals
        go_enter Try.func58, Try.ntmps58
        go_wp2_with ((go_at_call 56; (with_reducible refine (H1.out _).mono ?_); rintro e w1 ⟨rfl, b1⟩; have Rw1 := Lib.hid (bel_trans R0.out b1); clear b1))
        go_ret
        exact ⟨rfl, Rw1.out⟩
end Go.Proofs.Ytmjacmjogckihaa.White
