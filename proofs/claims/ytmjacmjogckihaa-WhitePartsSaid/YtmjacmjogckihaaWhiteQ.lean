/- Chapter 8: the reference's Collapse, walked. No condition but bounds. -/
import Derived.Test.YtmjacmjogckihaaWhiteP
namespace Go.Proofs.Ytmjacmjogckihaa.White
open Go.RowKit
set_option linter.unusedVariables false
set_option linter.unusedSimpArgs false
theorem len_map_id (q : List Cr → Cr → List Cr → Bool) (l : List Cr) {α : Type} (u : Cr → α) : ((filterZ q [] l).map u).length ≤ l.length := by rw [List.length_map]; exact filterZ_len q [] l
theorem r1_len (cs : List Cr) : (r1 cs).length ≤ cs.length := len_map_id _ _ _
theorem r2_len (ss : List St) (cs : List Cr) : (r2 ss cs).length ≤ cs.length := Nat.le_trans (len_map_id _ _ _) (r1_len cs)
theorem r3_len (ss : List St) (cs : List Cr) : (r3 ss cs).length ≤ cs.length := Nat.le_trans (len_map_id _ _ _) (r2_len ss cs)
theorem r4_len (ss : List St) (cs : List Cr) : (r4 ss cs).length ≤ cs.length := Nat.le_trans (len_map_id _ _ _) (r3_len ss cs)
theorem r5_len (ss : List St) (cs : List Cr) : (r5 ss cs).length ≤ cs.length := Nat.le_trans (len_map_id _ _ _) (r4_len ss cs)
set_option maxHeartbeats 4000000 in
theorem refCollapse_any (A : Option Addr) (n c : Nat) (cs : List Cr) (AS : Option Addr) (nS cS : Nat) (ss : List St) (hn : n ≤ 1000000000) (hnS : nS ≤ 1000000000) (W : World) (hR : Reads W W.heap.size 5 A n (crL cs)) (hRS : Reads W W.heap.size 9 AS nS (stL ss)) :
    Calls Try.prog 11 #[.slice A n c, .slice AS nS cS] W fun e w' => Below W.heap.size W w' ∧
      ((okAll ss cs = false ∧ e = .returned (.tuple #[.slice none 0 0, .int .i64 2])) ∨
       (okAll ss cs = true ∧ ∃ v, e = .returned (.tuple #[v, .int .i64 0]) ∧ w'.ownsRow W.heap.size 38 5 v (outL ss cs).length (crL (outL ss cs)))) := by
  have HL := Lib.hid (len_cr hR)
  have HLS := Lib.hid (len_st hRS)
  have H0 := Lib.hid (May_any A n c cs AS nS cS ss hn hnS W hR hRS)
  have HS := Lib.hid (fun (V : World) (hV : Below W.heap.size W V) => ((hRS.below hV).more hV.size : Reads V V.heap.size 9 AS nS (stL ss)))
  have HP1 : Hid (∀ (V : World), Below W.heap.size W V → Calls Try.prog 31 #[.slice A n c] V fun e w' => ∃ v, e = .returned v ∧ w'.ownsRow V.heap.size 38 5 v (r1 cs).length (crL (r1 cs)) ∧ Below V.heap.size V w') := Lib.hid (fun V hV => pairs_any A n c cs hn V ((hR.below hV).more hV.size))
  obtain ⟨b, hb⟩ : ∃ b, okAll ss cs = b := ⟨_, rfl⟩
  rw [hb] at H0
  have HOK := Lib.hid hb
  have L1 := Lib.hid (r1_len cs)
  have L2 := Lib.hid (r2_len ss cs)
  have L3 := Lib.hid (r3_len ss cs)
  have L4 := Lib.hid (r4_len ss cs)
  have L5 := Lib.hid (r5_len ss cs)
  have HN := Lib.hid hn
  clear hR hRS hb
  cases b
  · go_enter Try.func11, Try.ntmps11
    go_wp2_with (go_at_call 25; (with_reducible refine H0.out.mono ?_); rintro e w1 ⟨rfl, b1⟩; have B1 := Lib.hid b1; clear b1)
    go_ret2
    exact ⟨B1.out, .inl ⟨HOK.out, rfl⟩⟩
  · have HI0 := Lib.hid (HLS.out ▸ nodes_ok HOK.out : NodesIn nS cs)
    have HI1 := Lib.hid (nodes_filter HI0.out q1 : NodesIn nS (r1 cs))
    have HI2 := Lib.hid (nodes_filter HI1.out (q2 ss) : NodesIn nS (r2 ss cs))
    have HI3 := Lib.hid (nodes_filter HI2.out (q3 ss) : NodesIn nS (r3 ss cs))
    have HI4 := Lib.hid (nodes_u4 HI3.out (q4 ss) : NodesIn nS (r4 ss cs))
    have HI5 := Lib.hid (nodes_filter HI4.out (q5 ss) : NodesIn nS (r5 ss cs))
    have HP2 : Hid (∀ (A' : Option Addr) (c' : Nat) (V : World), Below W.heap.size W V → Reads V V.heap.size 5 A' (r1 cs).length (crL (r1 cs)) → Calls Try.prog 30 #[.slice A' (r1 cs).length c', .slice AS nS cS] V fun e w' => ∃ v, e = .returned v ∧ w'.ownsRow V.heap.size 38 5 v (r2 ss cs).length (crL (r2 ss cs)) ∧ Below V.heap.size V w') := Lib.hid (fun A' c' V hV hO => around_any A' (r1 cs).length c' (r1 cs) AS nS cS ss (by have := L1.out; have := HL.out; have := HN.out; omega) HI1.out V hO (HS.out V hV))
    have HP3 : Hid (∀ (A' : Option Addr) (c' : Nat) (V : World), Below W.heap.size W V → Reads V V.heap.size 5 A' (r2 ss cs).length (crL (r2 ss cs)) → Calls Try.prog 29 #[.slice A' (r2 ss cs).length c', .slice AS nS cS] V fun e w' => ∃ v, e = .returned v ∧ w'.ownsRow V.heap.size 38 5 v (r3 ss cs).length (crL (r3 ss cs)) ∧ Below V.heap.size V w') := Lib.hid (fun A' c' V hV hO => several_any A' (r2 ss cs).length c' (r2 ss cs) AS nS cS ss (by have := L2.out; have := HL.out; have := HN.out; omega) HI2.out V hO (HS.out V hV))
    have HP4 : Hid (∀ (A' : Option Addr) (c' : Nat) (V : World), Below W.heap.size W V → Reads V V.heap.size 5 A' (r3 ss cs).length (crL (r3 ss cs)) → Calls Try.prog 28 #[.slice A' (r3 ss cs).length c', .slice AS nS cS] V fun e w' => ∃ v, e = .returned v ∧ w'.ownsRow V.heap.size 38 5 v (r4 ss cs).length (crL (r4 ss cs)) ∧ Below V.heap.size V w') := Lib.hid (fun A' c' V hV hO => turned_any A' (r3 ss cs).length c' (r3 ss cs) AS nS cS ss (by have := L3.out; have := HL.out; have := HN.out; omega) HI3.out V hO (HS.out V hV))
    have HP5 : Hid (∀ (A' : Option Addr) (c' : Nat) (V : World), Below W.heap.size W V → Reads V V.heap.size 5 A' (r4 ss cs).length (crL (r4 ss cs)) → Calls Try.prog 27 #[.slice A' (r4 ss cs).length c', .slice AS nS cS] V fun e w' => ∃ v, e = .returned v ∧ w'.ownsRow V.heap.size 38 5 v (r5 ss cs).length (crL (r5 ss cs)) ∧ Below V.heap.size V w') := Lib.hid (fun A' c' V hV hO => rows_any A' (r4 ss cs).length c' (r4 ss cs) AS nS cS ss (by have := L4.out; have := HL.out; have := HN.out; omega) HI4.out V hO (HS.out V hV))
    have HP6 : Hid (∀ (A' : Option Addr) (c' : Nat) (V : World), Below W.heap.size W V → Reads V V.heap.size 5 A' (r5 ss cs).length (crL (r5 ss cs)) → Calls Try.prog 26 #[.slice A' (r5 ss cs).length c', .slice AS nS cS] V fun e w' => ∃ v, e = .returned v ∧ w'.ownsRow V.heap.size 38 5 v (r6 ss cs).length (crL (r6 ss cs)) ∧ Below V.heap.size V w') := Lib.hid (fun A' c' V hV hO => kinds_any A' (r5 ss cs).length c' (r5 ss cs) AS nS cS ss (by have := L5.out; have := HL.out; have := HN.out; omega) HI5.out V hO (HS.out V hV))
    go_enter Try.func11, Try.ntmps11
    go_wp2_with (first
      | (go_at_call 25; (with_reducible refine H0.out.mono ?_); rintro e w1 ⟨rfl, b1⟩; have B1 := Lib.hid b1; clear b1)
      | (go_at_call 31; (with_reducible refine (HP1.out _ B1.out).mono ?_); rintro e w2 ⟨v2, rfl, o2, b2⟩; obtain ⟨A2, c2, rfl⟩ := own_shape o2; have B2 := Lib.hid (bel_trans B1.out b2); have O2 := Lib.hid (own_reads o2); clear o2 b2)
      | (go_at_call 30; (with_reducible refine (HP2.out A2 c2 _ B2.out O2.out).mono ?_); rintro e w3 ⟨v3, rfl, o3, b3⟩; obtain ⟨A3, c3, rfl⟩ := own_shape o3; have B3 := Lib.hid (bel_trans B2.out b3); have O3 := Lib.hid (own_reads o3); clear o3 b3)
      | (go_at_call 29; (with_reducible refine (HP3.out A3 c3 _ B3.out O3.out).mono ?_); rintro e w4 ⟨v4, rfl, o4, b4⟩; obtain ⟨A4, c4, rfl⟩ := own_shape o4; have B4 := Lib.hid (bel_trans B3.out b4); have O4 := Lib.hid (own_reads o4); clear o4 b4)
      | (go_at_call 28; (with_reducible refine (HP4.out A4 c4 _ B4.out O4.out).mono ?_); rintro e w5 ⟨v5, rfl, o5, b5⟩; obtain ⟨A5, c5, rfl⟩ := own_shape o5; have B5 := Lib.hid (bel_trans B4.out b5); have O5 := Lib.hid (own_reads o5); clear o5 b5)
      | (go_at_call 27; (with_reducible refine (HP5.out A5 c5 _ B5.out O5.out).mono ?_); rintro e w6 ⟨v6, rfl, o6, b6⟩; obtain ⟨A6, c6, rfl⟩ := own_shape o6; have B6 := Lib.hid (bel_trans B5.out b6); have O6 := Lib.hid (own_reads o6); clear o6 b6)
      | (go_at_call 26; (with_reducible refine (HP6.out A6 c6 _ B6.out O6.out).mono ?_); rintro e w7 ⟨v7, rfl, o7, b7⟩; obtain ⟨A7, c7, rfl⟩ := own_shape o7; have B7 := Lib.hid (bel_trans B6.out b7); have O7 := Lib.hid (own_le o7 B6.out.size); clear o7 b7))
    go_ret2
    refine ⟨B7.out, .inr ⟨HOK.out, _, rfl, ?_⟩⟩
    rw [← r6_eq]
    exact O7.out
end Go.Proofs.Ytmjacmjogckihaa.White
