/- Chapter 23: the law's calls whose answers the document fixes, walked. No condition. -/
import Derived.Test.YtglomkpnbdnnoaaFlexW
namespace Go.Proofs.Ytglomkpnbdnnoaa.Flex
open Go.RowKit Go.Proofs.Ytglomkpnbdnnoaa.Unit Go.Proofs.Ytglomkpnbdnnoaa.Div
set_option linter.unusedVariables false
set_option linter.unusedSimpArgs false
theorem reads_newK {k : Nat} (w : World) (t : TypeId) (cs : Array Value) (n : Nat) (xs : List Value) (h : cs.toList = xs) (hn : xs.length = n * k) :
    Reads (w.alloc (.cells cs t)) (w.alloc (.cells cs t)).heap.size k (some ⟨w.heap.size, 0, none⟩) n xs := by
  refine ⟨hn, fun _ => ⟨_, rfl, by rw [World.size_alloc]; exact Nat.lt_succ_self _, fun j u hu => ?_⟩⟩
  rw [add_new, (Blk.new w t cs).cell j, ← Array.getElem?_toList, h]
  exact hu
def hI1 : List It := [⟨10, 0, 1, 1⟩, ⟨20, 0, 2, 1⟩]
def hI2 : List It := [⟨30, 0, 0, 1⟩, ⟨30, 25, 0, 1⟩]
def hI3 : List It := [⟨10, 12, 1, 1⟩, ⟨5, 0, 1, 1⟩]
theorem hS (xs : List It) (room : Int) (ys : List Int) (cs : Array Value) (hc : cs.toList = itL xs) (h2 : xs.length = 2) (ha : ansS xs room = ys) (he : errS xs room = 0) (hy : ys.length = 2) (V : World) :
    Calls Try.prog 10 #[.slice (some ⟨V.heap.size, 0, none⟩) 2 2, .int .i64 room] (V.alloc (.cells cs 36)) fun e w' => (∃ A' c', e = .returned (.tuple #[.slice A' 2 c', .int .i64 0]) ∧ Reads w' w'.heap.size 1 A' 2 (ys.map (Value.int .i64))) ∧ Below V.heap.size V w' := by
  refine (Sizes_any (some ⟨V.heap.size, 0, none⟩) 2 2 xs (by omega) room (V.alloc (.cells cs 36)) (reads_newK V 36 cs 2 (itL xs) hc (by unfold itL; rw [fm_len itC 4 (fun _ => rfl), h2]))).mono ?_
  rintro e w' ⟨⟨A', c', rfl, hr⟩, hb⟩
  rw [ha, he, hy]
  rw [ha, hy] at hr
  exact ⟨⟨A', c', rfl, hr⟩, bel_trans (bel_alloc (Below.refl _ _) _) hb⟩
theorem hSame (xs : List Int) (n : Nat) (hx : xs.length = n) (hn : n ≤ 1000) (cs : Array Value) (hc : cs.toList = xs.map (Value.int .i64)) (A : Option Addr) (c : Nat) (V : World) (hr : Reads V V.heap.size 1 A n (xs.map (Value.int .i64))) :
    Calls Try.prog 12 #[.slice A n c, .slice (some ⟨V.heap.size, 0, none⟩) n n] (V.alloc (.cells cs 2)) fun e w' => e = .returned (.bool true) ∧ Below V.heap.size V w' := by
  refine (same_any A (some ⟨V.heap.size, 0, none⟩) n n c n (V.alloc (.cells cs 2)).heap.size xs xs (V.alloc (.cells cs 2)) hx hx ((hr.alloc (Nat.le_refl _) _).more (by rw [World.size_alloc]; omega)) (reads_new V 2 cs n _ hc (by rw [List.length_map, hx])) (by omega) (by omega)).mono ?_
  rintro e w' ⟨rfl, hd⟩
  exact ⟨by unfold same64; simp, bel_trans (bel_alloc (Below.refl _ _) _) hd.below⟩
theorem hShare (n : Int) (ws : List Int) (k : Nat) (hk : ws.length = k) (hk2 : k ≤ 100) (cs : Array Value) (hc : cs.toList = ws.map (Value.int .i64)) (V : World) :
    Calls Try.prog 13 #[.int .i64 n, .slice (some ⟨V.heap.size, 0, none⟩) k k] (V.alloc (.cells cs 2)) fun e w' => (∃ A' c', e = .returned (.tuple #[.slice A' (ansH n ws).length c', .int .i64 (errH n ws)]) ∧ Reads w' w'.heap.size 1 A' (ansH n ws).length ((ansH n ws).map (Value.int .i64))) ∧ Below V.heap.size V w' := by
  refine (Share_any n (some ⟨V.heap.size, 0, none⟩) k k ws (by omega) (V.alloc (.cells cs 2)) (reads_new V 2 cs k _ hc (by rw [List.length_map, hk]))).mono ?_
  rintro e w' ⟨h, hb⟩
  exact ⟨h, bel_trans (bel_alloc (Below.refl _ _) _) hb⟩
theorem hLine (xs : List Bx) (b : Bx) (hb : lineB xs = b) (k : Nat) (hk : xs.length = k) (hk2 : k ≤ 100) (cs : Array Value) (hc : cs.toList = bxL xs) (V : World) :
    Calls Try.prog 15 #[.slice (some ⟨V.heap.size, 0, none⟩) k k] (V.alloc (.cells cs 39)) fun e w' => e = .returned (bxV b) ∧ Below V.heap.size V w' := by
  refine (Line_any (some ⟨V.heap.size, 0, none⟩) k k xs (by omega) (Nat.le_refl _) (V.alloc (.cells cs 39)) (reads_newK V 39 cs k (bxL xs) hc (by unfold bxL; rw [fm_len bxC 2 (fun _ => rfl), hk]))).mono ?_
  rintro e w' ⟨rfl, h⟩
  exact ⟨by rw [hb], bel_trans (bel_alloc (Below.refl _ _) _) h⟩
theorem v1 : ansS hI1 60 = [20, 40] ∧ errS hI1 60 = 0 := ⟨by kernel_rfl, by kernel_rfl⟩
theorem v2 : ansS hI2 40 = [15, 25] ∧ errS hI2 40 = 0 := ⟨by kernel_rfl, by kernel_rfl⟩
theorem v3 : ansS hI3 20 = [14, 6] ∧ errS hI3 20 = 0 := ⟨by kernel_rfl, by kernel_rfl⟩
theorem v4 : ansH 10 [1, 1, 1] = [3, 4, 3] ∧ errH 10 [1, 1, 1] = 0 := ⟨by kernel_rfl, by kernel_rfl⟩
theorem v5 : ansH 10 [0] = [] ∧ errH 10 [0] = 2 := ⟨by kernel_rfl, by kernel_rfl⟩
theorem v6 : lineB [⟨3, -1⟩, ⟨2, 4⟩] = ⟨3, 4⟩ := by kernel_rfl
set_option maxHeartbeats 8000000 in
set_option maxRecDepth 100000 in
theorem head_any (w : World) : Calls Try.prog 9 #[] w fun e w' => e = .returned (.bool true) ∧ Below w.heap.size w w' := by
  have H1 := Lib.hid (fun V => hS hI1 60 [20, 40] #[.int .i64 10, .int .i64 0, .int .i64 1, .int .i64 1, .int .i64 20, .int .i64 0, .int .i64 2, .int .i64 1] rfl rfl v1.1 v1.2 rfl V)
  have H2 := Lib.hid (fun V => hS hI2 40 [15, 25] #[.int .i64 30, .int .i64 0, .int .i64 0, .int .i64 1, .int .i64 30, .int .i64 25, .int .i64 0, .int .i64 1] rfl rfl v2.1 v2.2 rfl V)
  have H3 := Lib.hid (fun V => hS hI3 20 [14, 6] #[.int .i64 10, .int .i64 12, .int .i64 1, .int .i64 1, .int .i64 5, .int .i64 0, .int .i64 1, .int .i64 1] rfl rfl v3.1 v3.2 rfl V)
  have H4 := Lib.hid (fun V => hShare 10 [1, 1, 1] 3 rfl (by omega) #[.int .i64 1, .int .i64 1, .int .i64 1] rfl V)
  have H5 := Lib.hid (fun V => hShare 10 [0] 1 rfl (by omega) #[.int .i64 0] rfl V)
  rw [v4.1, v4.2] at H4
  rw [v5.1, v5.2] at H5
  have H4 := Lib.hid (show ∀ V : World, Calls Try.prog 13 #[.int .i64 10, .slice (some ⟨V.heap.size, 0, none⟩) 3 3] (V.alloc (.cells #[.int .i64 1, .int .i64 1, .int .i64 1] 2)) fun e w' => (∃ A' c', e = .returned (.tuple #[.slice A' 3 c', .int .i64 0]) ∧ Reads w' w'.heap.size 1 A' 3 ([3, 4, 3].map (Value.int .i64))) ∧ Below V.heap.size V w' from H4.out)
  have S1 := Lib.hid (fun A c V h => hSame [20, 40] 2 rfl (by omega) #[.int .i64 20, .int .i64 40] rfl A c V h)
  have S2 := Lib.hid (fun A c V h => hSame [15, 25] 2 rfl (by omega) #[.int .i64 15, .int .i64 25] rfl A c V h)
  have S3 := Lib.hid (fun A c V h => hSame [14, 6] 2 rfl (by omega) #[.int .i64 14, .int .i64 6] rfl A c V h)
  have S4 := Lib.hid (fun A c V h => hSame [3, 4, 3] 3 rfl (by omega) #[.int .i64 3, .int .i64 4, .int .i64 3] rfl A c V h)
  have L1 := Lib.hid (fun V => hLine [⟨3, -1⟩, ⟨2, 4⟩] ⟨3, 4⟩ v6 2 rfl (by omega) #[.int .i64 3, .int .i64 (-1), .int .i64 2, .int .i64 4] rfl V)
  go_enter Try.func9, Try.ntmps9
  go_wp2_with (first
    | (go_at_call 10; (with_reducible refine (H1.out w).mono ?_); rintro e w1 ⟨⟨A1, c1, rfl, r⟩, b⟩; have R1 := Lib.hid r; have B1 := Lib.hid b; clear r b)
    | (go_at_call 10; (with_reducible refine (H2.out w1).mono ?_); rintro e w2 ⟨⟨A2, c2, rfl, r⟩, b⟩; have R2 := Lib.hid r; have B2 := Lib.hid b; clear r b)
    | (go_at_call 10; (with_reducible refine (H3.out w2).mono ?_); rintro e w3 ⟨⟨A3, c3, rfl, r⟩, b⟩; have R3 := Lib.hid r; have B3 := Lib.hid b; clear r b)
    | (go_at_call 13; (with_reducible refine (H4.out w3).mono ?_); rintro e w4 ⟨⟨A4, c4, rfl, r⟩, b⟩; have R4 := Lib.hid (show Reads w4 w4.heap.size 1 A4 3 ([3, 4, 3].map (Value.int .i64)) from r); have B4 := Lib.hid b; clear r b)
    | (go_at_call 13; (with_reducible refine (H5.out w4).mono ?_); rintro e w5 ⟨⟨A5, c5, rfl, r⟩, b⟩; have B5 := Lib.hid b; have E5 := Lib.hid (bel_trans (bel_trans (bel_trans (bel_trans B1.out B2.out) B3.out) B4.out) B5.out); clear r b)
    | (go_at_call 12; (with_reducible refine (S1.out A1 c1 w5 ((R1.out.below (bel_trans (bel_trans (bel_trans B2.out B3.out) B4.out) B5.out)).more (bel_trans (bel_trans (bel_trans B2.out B3.out) B4.out) B5.out).size)).mono ?_); rintro e w6 ⟨rfl, b⟩; have B6 := Lib.hid b; clear b)
    | (go_at_call 12; (with_reducible refine (S2.out A2 c2 w6 ((R2.out.below (bel_trans (bel_trans (bel_trans B3.out B4.out) B5.out) B6.out)).more (bel_trans (bel_trans (bel_trans B3.out B4.out) B5.out) B6.out).size)).mono ?_); rintro e w7 ⟨rfl, b⟩; have B7 := Lib.hid b; clear b)
    | (go_at_call 12; (with_reducible refine (S3.out A3 c3 w7 ((R3.out.below (bel_trans (bel_trans (bel_trans B4.out B5.out) B6.out) B7.out)).more (bel_trans (bel_trans (bel_trans B4.out B5.out) B6.out) B7.out).size)).mono ?_); rintro e w8 ⟨rfl, b⟩; have B8 := Lib.hid b; clear b)
    | (go_at_call 12; (with_reducible refine (S4.out A4 c4 w8 ((R4.out.below (bel_trans (bel_trans (bel_trans B5.out B6.out) B7.out) B8.out)).more (bel_trans (bel_trans (bel_trans B5.out B6.out) B7.out) B8.out).size)).mono ?_); rintro e w9 ⟨rfl, b⟩; have B9 := Lib.hid b; clear b)
    | (go_at_call 15; (with_reducible refine (L1.out w9).mono ?_); rintro e w10 ⟨rfl, b⟩; have B10 := Lib.hid b; clear b))
  go_ret
  exact ⟨rfl, bel_trans (bel_trans (bel_trans (bel_trans (bel_trans E5.out B6.out) B7.out) B8.out) B9.out) B10.out⟩
end Go.Proofs.Ytglomkpnbdnnoaa.Flex
