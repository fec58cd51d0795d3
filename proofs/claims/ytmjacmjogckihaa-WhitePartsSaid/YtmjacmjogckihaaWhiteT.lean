/- Chapter 8: the law's own small functions, walked: great, text, becomes. No condition but bounds. -/
import Derived.Test.YtmjacmjogckihaaWhiteR
import Derived.Test.YtmjacmjogckihaaWhiteH
import Derived.BigQuiet
namespace Go.Proofs.Ytmjacmjogckihaa.White
open Go.RowKit Utf
set_option linter.unusedVariables false
set_option linter.unusedSimpArgs false
def greatB (n nS : Nat) : Bool := decide (150 < n) || decide (40 < nS)
theorem great_any (A : Option Addr) (n c : Nat) (AS : Option Addr) (nS cS : Nat) (w : World) : Calls Try.prog 8 #[.slice A n c, .slice AS nS cS] w fun e w' => e = .returned (.bool (greatB n nS)) ∧ w = w' := by
  by_cases h1 : 150 < n
  · have q1 : decide ((150 : Int) < (n : Int)) = true := decide_eq_true (by omega)
    have HE := Lib.hid (show greatB n nS = true by unfold greatB; rw [decide_eq_true h1]; rfl)
    clear h1
    go_enter Try.func8, Try.ntmps8
    go_wp2
    go_ret
    exact ⟨by rw [HE.out]; rfl, rfl⟩
  · have q1 : decide ((150 : Int) < (n : Int)) = false := decide_eq_false (by omega)
    by_cases h2 : 40 < nS
    · have q2 : decide ((40 : Int) < (nS : Int)) = true := decide_eq_true (by omega)
      have HE := Lib.hid (show greatB n nS = true by unfold greatB; rw [decide_eq_true h2, Bool.or_true])
      clear h1 h2
      go_enter Try.func8, Try.ntmps8
      go_wp2
      go_ret
      exact ⟨by rw [HE.out]; rfl, rfl⟩
    · have q2 : decide ((40 : Int) < (nS : Int)) = false := decide_eq_false (by omega)
      have HE := Lib.hid (show greatB n nS = false by unfold greatB; rw [decide_eq_false h1, decide_eq_false h2]; rfl)
      clear h1 h2
      go_enter Try.func8, Try.ntmps8
      go_wp2
      go_ret
      exact ⟨by rw [HE.out]; rfl, rfl⟩
/-- A text of a node. -/
def txt (nd : Int) (xs : List Int) : List Cr := (List.range xs.length).map fun (i : Nat) => ⟨xs.getD i 0, nd, (i : Int), 1, 0⟩
def txtK (nd : Int) (xs : List Int) (k : Nat) : List Cr := (List.range k).map fun (i : Nat) => ⟨xs.getD i 0, nd, (i : Int), 1, 0⟩
theorem txtK_len (nd : Int) (xs : List Int) (k : Nat) : (txtK nd xs k).length = k := by unfold txtK; simp
theorem txtK_succ (nd : Int) (xs : List Int) (k : Nat) (x : Int) (h : xs[k]? = some x) : txtK nd xs (k + 1) = txtK nd xs k ++ [⟨x, nd, k, 1, 0⟩] := by
  unfold txtK
  rw [List.range_succ, List.map_append]
  simp [List.getD, h]
set_option maxHeartbeats 4000000 in
theorem txt_any (nd : Int) (A : Option Addr) (n c : Nat) (xs : List Int) (hn : n ≤ 1000000) (w : World) (hr : Reads w w.heap.size 1 A n (xs.map (Value.int .i32))) (hx : xs.length = n) :
    Calls Try.prog 20 #[.int .i64 nd, .slice A n c] w fun e w' => ∃ v, e = .returned v ∧ w'.ownsRow w.heap.size 38 5 v n (crL (txt nd xs)) ∧ Below w.heap.size w w' := by
  have HR := Lib.hid hr
  have HX := Lib.hid hx
  have hn1 : (n : Int) ≤ 1000000 := by omega
  obtain ⟨j0, hj, hy0, hy1, hy2⟩ := info_parts infoCr2
  clear hr hx
  go_enter Try.func20, Try.ntmps20
  go_wp2_with (fail)
  go_loopw [5, 6] (fun o i wr => ∃ (k : Nat) (A0 : Option Addr) (c0' : Nat), i = .int .i64 k ∧ o = .slice A0 k c0' ∧ k ≤ n ∧ Hid (wr.ownsRow w.heap.size 38 5 (.slice A0 k c0') k (crL (txtK nd xs k))) ∧ Hid (Below w.heap.size w wr)) (fun o i _ => n - (intOf i).toNat)
  case atStart => exact ⟨0, none, 0, rfl, rfl, by omega, Lib.hid (own_nil _ _ _ _), Lib.hid (Below.refl _ _)⟩
  case round =>
    obtain ⟨k, A0, c0', rfl, rfl, hk, HO, HB⟩ := hrel
    by_cases hlt : k < n
    · have g1 : decide ((k : Int) < (n : Int)) = true := decide_eq_true (by omega)
      have g2 : (k : Int) < (n : Int) := by omega
      have g3 : (0 : Int) ≤ (k : Int) := by omega
      obtain ⟨ad, u, rfl, hb, hxu, hc⟩ := HR.out.at_ hlt
      rw [List.getElem?_map] at hxu
      obtain ⟨x, hxj, rfl⟩ := Option.map_eq_some_iff.1 hxu
      have c0 : wr.cell? (ad.add k) = some (.int .i32 x) := (HB.out.cell (by rw [block_of_add]; exact hb)).trans hc
      have HT := Lib.hid (txtK_succ nd xs k x hxj)
      clear hxu hc hxj
      go_wp2_with (at_builtin; refine wpList_append_own _ rfl (.tmp 13) (.tmp 21) 22 rfl w.heap.size 38 j0 (.agg #[.int .i32 0, .int .i64 0, .int .i64 0, .int .i64 0, .int .u8 0]) 5 40 Try.underlying22 hj hy0 hy1 hy2 rfl (by decide) (.slice A0 k c0') _ _ rfl (HO.out.alloc _) ⟨_, 0, none⟩ 1 1 (crC ⟨x, nd, k, 1, 0⟩) rfl rfl (reads_one5r _ _ ⟨x, nd, k, 1, 0⟩) (crC_one _) ?d1 ?e1 ?f1 ?_)
      case d1 => unfold maxLen; omega
      case e1 => omega
      case f1 => have := HB.out.size; simp only [World.size_alloc]; omega
      intro v' w7 hown' hg _
      have hb7 := Lib.hid (bel_grown (bel_alloc HB.out _) (HO.out.alloc _) hg)
      obtain ⟨A', c', rfl⟩ := own_shape hown'
      have HO7 := Lib.hid hown'
      clear hown' hg
      go_wp2
      go_roundw
      case rel => exact ⟨k + 1, A', c', by go_num, rfl, by omega, Lib.hid (by rw [HT.out, crL_snoc]; exact HO7.out), hb7⟩
      case measure => simp [intOf] <;> omega
    · obtain rfl : k = n := by omega
      have g1 : decide ((k : Int) < (k : Int)) = false := decide_eq_false (by omega)
      go_wp2
      go_ret
      refine ⟨_, rfl, ?_, HB.out⟩
      have e : txt nd xs = txtK nd xs k := by unfold txt txtK; rw [HX.out]
      rw [e]
      exact HO.out
def sty (w : Int) : St := ⟨w, 0, 0, 0, 0, 0, 0, 0, 0⟩
theorem len_out (ss : List St) (cs : List Cr) : (outL ss cs).length ≤ cs.length := by
  unfold outL
  rw [List.length_map]
  exact Nat.le_trans (stepsL_len _ 5) (Nat.le_of_eq (by rw [List.length_map]))
set_option maxHeartbeats 4000000 in
set_option maxRecDepth 20000 in
theorem becomes_any (s0 : Int) (A : Option Addr) (n c : Nat) (xs : List Int) (runes : List UInt8) (A2 : Option Addr) (n2 c2 : Nat) (ks : List Int) (zs : List Cr) (hn : n ≤ 1000) (w : World) (hr : Reads w w.heap.size 1 A n (xs.map (Value.int .i32))) (hx : xs.length = n)
    (hr2 : Reads w w.heap.size 1 A2 n2 (ks.map (Value.int .u8))) (hx2 : ks.length = n2) (h1 : okAll [sty s0] (txt 0 xs) = true) (h2 : outL [sty s0] (txt 0 xs) = zs) (h3 : zs.map Cr.kind = ks) (h4 : keptL zs = runes) (h5 : Runes zs) :
    Calls Try.prog 21 #[.int .u8 s0, .slice A n c, strV runes, .slice A2 n2 c2] w fun e w' => e = .returned (.bool true) ∧ Below w.heap.size w w' := by
  have hlz : zs.length = n2 := by rw [← hx2, ← h3, List.length_map]
  have hz1 : n2 ≤ 1000 := by
    have := len_out [sty s0] (txt 0 xs)
    rw [h2, hlz] at this
    have e : (txt 0 xs).length = n := by unfold txt; simp [hx]
    omega
  have HT := Lib.hid (txt_any 0 A n c xs (by omega) w hr hx)
  have HC := Lib.hid (fun (A1 : Option Addr) (c1 b1 : Nat) (V : World) (hV : Reads V V.heap.size 5 A1 n (crL (txt 0 xs))) (hS : Reads V V.heap.size 9 (some ⟨b1, 0, none⟩) 1 (stL [sty s0])) => (Collapse_any A1 n c1 (txt 0 xs) (some ⟨b1, 0, none⟩) 1 1 [sty s0] (by omega) (by omega) V hV hS).mono fun e w' h => (show ∃ A' c', e = .returned (.tuple #[.slice A' n2 c', .int .i64 0]) ∧ Reads w' w'.heap.size 5 A' n2 (crL zs) ∧ Below V.heap.size V w' by
    obtain ⟨hb, h⟩ := h
    rcases h with ⟨h, _⟩ | ⟨_, v, rfl, ho⟩
    · rw [h1] at h; cases h
    · rw [h2, hlz] at ho
      obtain ⟨A', c', rfl⟩ := own_shape ho
      exact ⟨A', c', rfl, own_reads ho, hb⟩))
  have HN := Lib.hid (fun (V : World) => reads_newK (k := 9) V 33 #[.int .u8 s0, .int .u8 0, .int .u8 0, .int .u8 0, .int .i64 0, .int .i64 0, .int .i64 0, .int .u8 0, .int .i64 0] 1 (stL [sty s0]) rfl rfl)
  have HK := Lib.hid (fun (A1 : Option Addr) (c1 : Nat) (V : World) (hV : Reads V V.heap.size 5 A1 n2 (crL zs)) => Kept_any A1 n2 c1 zs (by omega) h5 V hV)
  rw [h4] at HK
  have HR2 := Lib.hid hr2
  have HKS := Lib.hid h3
  have HX2 := Lib.hid hx2
  have nn : (n2 : Int) ≤ 1000 := by omega
  have q0 : ((n2 : Int) != (n2 : Int)) = false := by simp
  clear hr hr2 hx hx2 h1 h2 h3 h4 h5 hlz
  go_enter Try.func21, Try.ntmps21
  go_wp2_with (first
    | (go_at_call 20; (with_reducible refine HT.out.mono ?_); rintro e w1 ⟨v1, rfl, o1, b1⟩; obtain ⟨A1, c1, rfl⟩ := own_shape o1; have O1 := Lib.hid o1; have B1 := Lib.hid b1; clear o1 b1)
    | (go_at_call 10; (refine (HC.out A1 c1 w1.heap.size _ (own_reads (O1.out.alloc _)) (HN.out w1)).mono ?_); rintro e w3 ⟨A3, c3, rfl, o3, b3⟩; have O3 := Lib.hid o3; have B3 := Lib.hid (bel_trans (bel_alloc B1.out (.cells #[.int .u8 s0, .int .u8 0, .int .u8 0, .int .u8 0, .int .i64 0, .int .i64 0, .int .i64 0, .int .u8 0, .int .i64 0] 33)) b3); clear o3 b3)
    | (go_at_call 15; (with_reducible refine (HK.out A3 c3 _ O3.out).mono ?_); rintro e w4 ⟨rfl, b4⟩; have O4 := Lib.hid ((O3.out.below b4).more b4.size : Reads w4 w4.heap.size 5 A3 n2 (crL zs)); have B4 := Lib.hid (bel_trans B3.out b4); clear b4))
  go_loopw [11] (fun i wr => ∃ k : Nat, i = .int .i64 k ∧ k ≤ n2 ∧ Hid (Below w4.heap.size w4 wr)) (fun i _ => n2 - (intOf i).toNat)
  case atStart => exact ⟨0, rfl, by omega, Lib.hid (Below.refl _ _)⟩
  case round =>
    obtain ⟨k, rfl, hk, HB⟩ := hrel
    by_cases hlt : k < n2
    · have g1 : decide ((k : Int) < (n2 : Int)) = true := decide_eq_true (by omega)
      have g2 : (k : Int) < (n2 : Int) := by omega
      have g3 : (0 : Int) ≤ (k : Int) := by omega
      obtain ⟨ad, m, rfl, hb, hm, cc⟩ := reads_cr O4.out hlt
      obtain ⟨c0, c1', c2', c3', c4⟩ := cell5_keep cc HB.out (by rw [block_of_add]; exact hb)
      obtain ⟨ad2, u, rfl, hb2, hu, hc2⟩ := HR2.out.at_ hlt
      have e0 : wr.cell? (ad2.add k) = some u := ((bel_trans B4.out HB.out).cell (by rw [block_of_add]; exact hb2)).trans hc2
      have hu2 : u = .int .u8 m.kind := by
        rw [← HKS.out, List.getElem?_map, List.getElem?_map, hm] at hu
        injection hu with hu
        exact hu.symm
      subst hu2
      have p0 : (m.kind != m.kind) = false := by simp
      clear hm cc hu hc2
      go_wp2
      go_quiet (fail)
      go_wp2
      go_roundw
      case rel => exact ⟨k + 1, by go_num, by omega, Lib.hid (by first | exact HB.out | exact HB.out.drew | exact bel_drewN HB.out _)⟩
      case measure => simp [intOf] <;> omega
    · obtain rfl : k = n2 := by omega
      have g1 : decide ((k : Int) < (k : Int)) = false := decide_eq_false (by omega)
      go_wp2
      go_ret
      exact ⟨rfl, bel_trans B4.out HB.out⟩
end Go.Proofs.Ytmjacmjogckihaa.White
