/- Chapter 2: the law's calls whose answers the document fixes, walked. -/
import Derived.Test.YtbafdijklcoeoaaDoorUtfRc
namespace Go.Proofs.YtbafdijklcoeoaaDoor.Utf
open Go.RowKit
set_option linter.unusedVariables false
set_option linter.unusedSimpArgs false

def toCr (c : Ch) : Cr := ⟨c.r, 0, c.p, c.n, 0⟩
theorem chC_cr (l : List Ch) : l.flatMap chC = crL (l.map toCr) := by
  unfold crL
  induction l with
  | nil => rfl
  | cons c l ih => rw [List.flatMap_cons, List.map_cons, List.flatMap_cons, ih]; rfl
/-- A decoded text. -/
theorem Decode_cr (l : List UInt8) (hl : l.length ≤ 1000000000) (w : World) (hT : Tabs w) (h3 : 3 ≤ w.heap.size) (n : Nat) (cs : List Ch) (hc : chs l 0 = cs) (hn : cs.length = n) :
    Calls Tryd.prog 10 #[strV l] w fun e w' => ∃ A c, e = .returned (.slice A n c) ∧ w'.ownsRow w.heap.size 32 5 (.slice A n c) n (crL (cs.map toCr)) ∧ Below w.heap.size w w' := by
  refine (Decode_any l hl w hT h3).mono ?_
  rintro e w' ⟨v, rfl, ho, hb⟩
  rw [chC_cr, hc, hn] at ho
  obtain ⟨A, c, rfl⟩ := own_shape ho
  exact ⟨A, c, rfl, ho, hb⟩
def cA : List Ch := [⟨97, 0, 1, true⟩, ⟨228, 1, 2, true⟩]
def cB : List Ch := [⟨65533, 0, 2, false⟩, ⟨97, 2, 1, true⟩]
def cC : List Ch := [⟨65533, 0, 1, false⟩, ⟨65533, 1, 1, false⟩, ⟨65533, 2, 1, false⟩]
theorem chs_A : chs [97, 195, 164] 0 = cA := by kernel_rfl
theorem chs_B : chs [226, 130, 97] 0 = cB := by kernel_rfl
theorem chs_C : chs [240, 128, 128] 0 = cC := by kernel_rfl
theorem chs_D : (chs [237, 160, 128] 0).length = 3 := by kernel_rfl
theorem chs_E : (chs [192, 175] 0).length = 2 := by kernel_rfl
theorem chs_F : allOk (chs [226, 130] 0) = false := by kernel_rfl
theorem enc_G : encL [228, 55296, 1114112] = [195, 164, 239, 191, 189, 239, 191, 189] := by kernel_rfl
set_option maxHeartbeats 8000000 in
set_option maxRecDepth 100000 in
theorem head_any (w : World) (hT : Tabs w) (h3 : 3 ≤ w.heap.size) :
    Calls Tryd.prog 9 #[] w fun e w' => e = .returned (.bool true) ∧ Below w.heap.size w w' := by
  have DA := Lib.hid (fun (W : World) (h : Tabs W) (g : 3 ≤ W.heap.size) => Decode_cr [97, 195, 164] (by simp) W h g 2 cA chs_A rfl)
  have DB := Lib.hid (fun (W : World) (h : Tabs W) (g : 3 ≤ W.heap.size) => Decode_cr [226, 130, 97] (by simp) W h g 2 cB chs_B rfl)
  have DC := Lib.hid (fun (W : World) (h : Tabs W) (g : 3 ≤ W.heap.size) => Decode_cr [240, 128, 128] (by simp) W h g 3 cC chs_C rfl)
  have DD := Lib.hid (fun (W : World) (h : Tabs W) (g : 3 ≤ W.heap.size) => Count_any [237, 160, 128] (by simp) W h g)
  have DE := Lib.hid (fun (W : World) (h : Tabs W) (g : 3 ≤ W.heap.size) => Count_any [192, 175] (by simp) W h g)
  have DF := Lib.hid (fun (W : World) (h : Tabs W) (g : 3 ≤ W.heap.size) => Valid_any [226, 130] (by simp) W h g)
  rw [chs_D] at DD
  rw [chs_E] at DE
  rw [chs_F] at DF
  have DG := Lib.hid (fun (A : Option Addr) (c : Nat) (W : World) (hr : Reads W W.heap.size 1 A 3 ([228, 55296, 1114112].map (Value.int .i32))) => Encode_any A 3 c [228, 55296, 1114112] W hr rfl (by simp) (by omega))
  rw [enc_G] at DG
  have HS := Lib.hid (fun (A A2 : Option Addr) (c d : Nat) (xs : List Cr) (W : World) (hl : xs.length = 2) (hr : Reads W W.heap.size 5 A 2 (crL xs)) (hs : Reads W W.heap.size 5 A2 2 (crL xs)) => (same_any A A2 2 2 c d W.heap.size xs xs W hl hl hr hs (by omega) (by omega)).mono fun e w' h => (⟨by rw [h.1]; unfold sameCr; simp, h.2.below⟩ : e = .returned (.bool true) ∧ Below W.heap.size W w'))
  have NA := Lib.hid (fun (W : World) => reads_newK (k := 5) W 32 #[.int .i32 97, .int .i64 0, .int .i64 0, .int .i64 1, .int .u8 0, .int .i32 228, .int .i64 0, .int .i64 1, .int .i64 2, .int .u8 0] 2 (crL (cA.map toCr)) rfl rfl)
  have NB := Lib.hid (fun (W : World) => reads_newK (k := 5) W 32 #[.int .i32 65533, .int .i64 0, .int .i64 0, .int .i64 2, .int .u8 0, .int .i32 97, .int .i64 0, .int .i64 2, .int .i64 1, .int .u8 0] 2 (crL (cB.map toCr)) rfl rfl)
  have NG := Lib.hid (fun (W : World) => reads_new W 21 #[.int .i32 228, .int .i32 55296, .int .i32 1114112] 3 ([228, 55296, 1114112].map (Value.int .i32)) rfl rfl)
  have LA : (cA.map toCr).length = 2 := rfl
  have LB : (cB.map toCr).length = 2 := rfl
  have T0 := Lib.hid hT
  have G0 := Lib.hid h3
  clear hT h3
  go_enter Tryd.func9, Tryd.ntmps9
  go_wp2_with (first
    | (go_at_call 10; (with_reducible refine (DA.out _ T0.out G0.out).mono ?_); rintro e w1 ⟨A1, c1, rfl, o1, b1⟩; have O1 := Lib.hid o1; have T1 := Lib.hid (T0.out.below b1); have G1 := Lib.hid (Nat.le_trans G0.out b1.size); have B1 := Lib.hid b1; clear o1 b1)
    | (go_at_call 10; (with_reducible refine (DB.out _ T1.out G1.out).mono ?_); rintro e w2 ⟨A2, c2, rfl, o2, b2⟩; have O2 := Lib.hid o2; have T2 := Lib.hid (T1.out.below b2); have G2 := Lib.hid (Nat.le_trans G1.out b2.size); have B2 := Lib.hid (bel_trans B1.out b2); have P1 := Lib.hid (own_below O1.out b2); clear o2 b2)
    | (go_at_call 10; (with_reducible refine (DC.out _ T2.out G2.out).mono ?_); rintro e w3 ⟨A3, c3, rfl, o3, b3⟩; have O3 := Lib.hid o3; have T3 := Lib.hid (T2.out.below b3); have G3 := Lib.hid (Nat.le_trans G2.out b3.size); have B3 := Lib.hid (bel_trans B2.out b3); have Q1 := Lib.hid (own_below P1.out b3); have Q2 := Lib.hid (own_below O2.out b3); clear o3 b3))
  go_wp2_with (first
    | (go_at_call 11; have R1 := ((own_reads Q1.out).alloc (Nat.le_refl _) (.cells #[.int .i32 97, .int .i64 0, .int .i64 0, .int .i64 1, .int .u8 0, .int .i32 228, .int .i64 0, .int .i64 1, .int .i64 2, .int .u8 0] 32)).more (B' := (w3.alloc (.cells #[.int .i32 97, .int .i64 0, .int .i64 0, .int .i64 1, .int .u8 0, .int .i32 228, .int .i64 0, .int .i64 1, .int .i64 2, .int .u8 0] 32)).heap.size) (by simp); (with_reducible refine (HS.out A1 _ c1 _ (cA.map toCr) _ LA R1 (NA.out _)).mono ?_); rintro e w4 ⟨rfl, b4⟩; have B4 := Lib.hid (bel_trans (bel_alloc B3.out _) b4); have T4 := Lib.hid ((T3.out.below (bel_alloc (Below.refl _ _) _)).below b4); have G4 := Lib.hid (Nat.le_trans G0.out B4.out.size); have R2 := Lib.hid (own_below (Q2.out.alloc _) b4); clear b4)
    | (go_at_call 11; have R1 := ((own_reads R2.out).alloc (Nat.le_refl _) (.cells #[.int .i32 65533, .int .i64 0, .int .i64 0, .int .i64 2, .int .u8 0, .int .i32 97, .int .i64 0, .int .i64 2, .int .i64 1, .int .u8 0] 32)).more (B' := (w4.alloc (.cells #[.int .i32 65533, .int .i64 0, .int .i64 0, .int .i64 2, .int .u8 0, .int .i32 97, .int .i64 0, .int .i64 2, .int .i64 1, .int .u8 0] 32)).heap.size) (by simp); (with_reducible refine (HS.out A2 _ c2 _ (cB.map toCr) _ LB R1 (NB.out _)).mono ?_); rintro e w5 ⟨rfl, b5⟩; have B5 := Lib.hid (bel_trans (bel_alloc B4.out _) b5); have T5 := Lib.hid ((T4.out.below (bel_alloc (Below.refl _ _) _)).below b5); have G5 := Lib.hid (Nat.le_trans G0.out B5.out.size); clear b5)
    | (go_at_call 13; (with_reducible refine (DD.out _ T5.out G5.out).mono ?_); rintro e w6 ⟨rfl, b6⟩; have B6 := Lib.hid (bel_trans B5.out b6); have T6 := Lib.hid (T5.out.below b6); have G6 := Lib.hid (Nat.le_trans G0.out B6.out.size); clear b6)
    | (go_at_call 13; (with_reducible refine (DE.out _ T6.out G6.out).mono ?_); rintro e w7 ⟨rfl, b7⟩; have B7 := Lib.hid (bel_trans B6.out b7); have T7 := Lib.hid (T6.out.below b7); have G7 := Lib.hid (Nat.le_trans G0.out B7.out.size); clear b7)
    | (go_at_call 16; (with_reducible refine (DG.out _ _ _ (NG.out _)).mono ?_); rintro e w8 ⟨rfl, b8⟩; have B8 := Lib.hid (bel_trans (bel_alloc B7.out _) b8); have T8 := Lib.hid ((T7.out.below (bel_alloc (Below.refl _ _) _)).below b8); have G8 := Lib.hid (Nat.le_trans G0.out B8.out.size); clear b8)
    | (go_at_call 14; (with_reducible refine (DF.out _ T8.out G8.out).mono ?_); rintro e w9 ⟨rfl, b9⟩; have B9 := Lib.hid (bel_trans B8.out b9); clear b9))
  go_ret
  exact ⟨rfl, B9.out⟩
end Go.Proofs.YtbafdijklcoeoaaDoor.Utf
