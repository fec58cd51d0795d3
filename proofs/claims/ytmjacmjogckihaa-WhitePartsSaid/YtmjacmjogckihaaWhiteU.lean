/- Chapter 8: the law's calls whose answers the document fixes, walked. -/
import Derived.Test.YtmjacmjogckihaaWhiteT
namespace Go.Proofs.Ytmjacmjogckihaa.White
open Go.RowKit Utf
set_option linter.unusedVariables false
set_option linter.unusedSimpArgs false
def runesB (cs : List Cr) : Bool := cs.all fun c => decide (-2147483648 ≤ c.r) && decide (c.r ≤ 2147483647)
theorem runes_of {cs : List Cr} (h : runesB cs = true) : Runes cs := fun c hc => by
  unfold runesB at h
  rw [List.all_eq_true] at h
  have := h c hc
  simp at this
  exact this
theorem bec (s0 : Int) (xs : List Int) (runes : List UInt8) (ks : List Int) (n n2 : Nat) (ca cb : Array Value) (hn : n ≤ 1000) (hx : xs.length = n) (hx2 : ks.length = n2) (ea : ca.toList = xs.map (Value.int .i32)) (eb : cb.toList = ks.map (Value.int .u8))
    (h1 : okAll [sty s0] (txt 0 xs) = true) (h3 : (outL [sty s0] (txt 0 xs)).map Cr.kind = ks) (h4 : keptL (outL [sty s0] (txt 0 xs)) = runes) (h5 : runesB (outL [sty s0] (txt 0 xs)) = true) (V : World) :
    Calls Try.prog 21 #[.int .u8 s0, .slice (some ⟨V.heap.size, 0, none⟩) n n, strV runes, .slice (some ⟨V.heap.size + 1, 0, none⟩) n2 n2] ((V.alloc (.cells ca 21)).alloc (.cells cb 5)) fun e w' => e = .returned (.bool true) ∧ Below V.heap.size V w' := by
  have hr := (reads_new V 21 ca n (xs.map (Value.int .i32)) ea (by rw [List.length_map, hx]))
  have hr2 := (reads_new (V.alloc (.cells ca 21)) 5 cb n2 (ks.map (Value.int .u8)) eb (by rw [List.length_map, hx2]))
  have hr' : Reads ((V.alloc (.cells ca 21)).alloc (.cells cb 5)) ((V.alloc (.cells ca 21)).alloc (.cells cb 5)).heap.size 1 (some ⟨V.heap.size, 0, none⟩) n (xs.map (Value.int .i32)) := (hr.alloc (Nat.le_refl _) _).more (by rw [World.size_alloc (V.alloc _)]; omega)
  have e1 : (V.alloc (.cells ca 21)).heap.size = V.heap.size + 1 := World.size_alloc _ _
  rw [e1] at hr2
  refine (becomes_any s0 (some ⟨V.heap.size, 0, none⟩) n n xs runes (some ⟨V.heap.size + 1, 0, none⟩) n2 n2 ks _ hn _ hr' hx hr2 hx2 h1 rfl h3 h4 (runes_of h5)).mono ?_
  rintro e w' ⟨rfl, hb⟩
  exact ⟨rfl, bel_trans (bel_alloc (bel_alloc (Below.refl _ _) _) _) hb⟩
theorem own_cellAt {V : World} {base e size n : Nat} {v : Value} {xs : List Value} (h : V.ownsRow base e size v n xs) (hn : 0 < n) : ∃ g cap, v = .slice (some ⟨g, 0, none⟩) n cap ∧ ∀ V', Below V.heap.size V V' → ∀ j u, xs[j]? = some u → V'.cell? ⟨g, j, none⟩ = some u := by
  rcases h.2 with ⟨_, h0⟩ | ⟨g, cap, cur, hv, hB, hg, _, _, _, hr⟩
  · omega
  · refine ⟨g, cap, hv, fun V' hV j u hu => ?_⟩
    have hb : Blk V g e cur := hg
    have := (hb.keep hV).cell j
    rw [this, ← Array.getElem?_toList]
    rw [← hr] at hu
    have hj := (List.getElem?_eq_some_iff.1 hu).1
    rw [List.length_take] at hj
    rwa [List.getElem?_take, if_pos (by omega)] at hu
def hdL : List Cr := txt 0 [97, 32] ++ txt 1 [32, 98]
theorem hd0 (V : World) : Calls Try.prog 21 #[.int .u8 0, .slice (some ⟨V.heap.size, 0, none⟩) 6 6, strV [97, 32, 98, 32], .slice (some ⟨V.heap.size + 1, 0, none⟩) 4 4] ((V.alloc (.cells #[.int .i32 97, .int .i32 32, .int .i32 32, .int .i32 9, .int .i32 98, .int .i32 32] 21)).alloc (.cells #[.int .u8 0, .int .u8 1, .int .u8 0, .int .u8 1] 5)) fun e w' => e = .returned (.bool true) ∧ Below V.heap.size V w' :=
  bec 0 [97, 32, 32, 9, 98, 32] [97, 32, 98, 32] [0, 1, 0, 1] 6 4 _ _ (by omega) rfl rfl rfl rfl (by kernel_rfl) (by kernel_rfl) (by kernel_rfl) (by kernel_rfl) V
theorem hd1 (V : World) : Calls Try.prog 21 #[.int .u8 0, .slice (some ⟨V.heap.size, 0, none⟩) 6 6, strV [97, 32, 98], .slice (some ⟨V.heap.size + 1, 0, none⟩) 3 3] ((V.alloc (.cells #[.int .i32 97, .int .i32 32, .int .i32 10, .int .i32 32, .int .i32 10, .int .i32 98] 21)).alloc (.cells #[.int .u8 0, .int .u8 1, .int .u8 0] 5)) fun e w' => e = .returned (.bool true) ∧ Below V.heap.size V w' :=
  bec 0 [97, 32, 10, 32, 10, 98] [97, 32, 98] [0, 1, 0] 6 3 _ _ (by omega) rfl rfl rfl rfl (by kernel_rfl) (by kernel_rfl) (by kernel_rfl) (by kernel_rfl) V
theorem hd2 (V : World) : Calls Try.prog 21 #[.int .u8 4, .slice (some ⟨V.heap.size, 0, none⟩) 5 5, strV [97, 10, 98], .slice (some ⟨V.heap.size + 1, 0, none⟩) 3 3] ((V.alloc (.cells #[.int .i32 97, .int .i32 32, .int .i32 10, .int .i32 32, .int .i32 98] 21)).alloc (.cells #[.int .u8 0, .int .u8 5, .int .u8 0] 5)) fun e w' => e = .returned (.bool true) ∧ Below V.heap.size V w' :=
  bec 4 [97, 32, 10, 32, 98] [97, 10, 98] [0, 5, 0] 5 3 _ _ (by omega) rfl rfl rfl rfl (by kernel_rfl) (by kernel_rfl) (by kernel_rfl) (by kernel_rfl) V
theorem hd3 (V : World) : Calls Try.prog 21 #[.int .u8 3, .slice (some ⟨V.heap.size, 0, none⟩) 4 4, strV [97, 32, 9, 10], .slice (some ⟨V.heap.size + 1, 0, none⟩) 4 4] ((V.alloc (.cells #[.int .i32 97, .int .i32 32, .int .i32 9, .int .i32 10] 21)).alloc (.cells #[.int .u8 0, .int .u8 2, .int .u8 4, .int .u8 5] 5)) fun e w' => e = .returned (.bool true) ∧ Below V.heap.size V w' :=
  bec 3 [97, 32, 9, 10] [97, 32, 9, 10] [0, 2, 4, 5] 4 4 _ _ (by omega) rfl rfl rfl rfl (by kernel_rfl) (by kernel_rfl) (by kernel_rfl) (by kernel_rfl) V
theorem hd4 (V : World) : Calls Try.prog 21 #[.int .u8 0, .slice (some ⟨V.heap.size, 0, none⟩) 3 3, strV [228, 184, 128, 228, 186, 140], .slice (some ⟨V.heap.size + 1, 0, none⟩) 2 2] ((V.alloc (.cells #[.int .i32 19968, .int .i32 10, .int .i32 20108] 21)).alloc (.cells #[.int .u8 0, .int .u8 0] 5)) fun e w' => e = .returned (.bool true) ∧ Below V.heap.size V w' :=
  bec 0 [19968, 10, 20108] [228, 184, 128, 228, 186, 140] [0, 0] 3 2 _ _ (by omega) rfl rfl rfl rfl (by kernel_rfl) (by kernel_rfl) (by kernel_rfl) (by kernel_rfl) V
theorem hd5 (V : World) : Calls Try.prog 21 #[.int .u8 0, .slice (some ⟨V.heap.size, 0, none⟩) 4 4, strV [97, 226, 128, 139, 98], .slice (some ⟨V.heap.size + 1, 0, none⟩) 3 3] ((V.alloc (.cells #[.int .i32 97, .int .i32 8203, .int .i32 10, .int .i32 98] 21)).alloc (.cells #[.int .u8 0, .int .u8 0, .int .u8 0] 5)) fun e w' => e = .returned (.bool true) ∧ Below V.heap.size V w' :=
  bec 0 [97, 8203, 10, 98] [97, 226, 128, 139, 98] [0, 0, 0] 4 3 _ _ (by omega) rfl rfl rfl rfl (by kernel_rfl) (by kernel_rfl) (by kernel_rfl) (by kernel_rfl) V
theorem hdC_ok : okAll [sty 0, sty 2] hdL = true := by kernel_rfl
theorem hdC_len : (outL [sty 0, sty 2] hdL).length = 4 := by kernel_rfl
theorem hdC_1 : (crL (outL [sty 0, sty 2] hdL))[9]? = some (.int .u8 1) := by kernel_rfl
theorem hdC_2 : (crL (outL [sty 0, sty 2] hdL))[14]? = some (.int .u8 3) := by kernel_rfl
theorem hdD_no : okAll [sty 0] (txt 1 [97]) = false := by kernel_rfl
set_option maxHeartbeats 8000000 in
set_option maxRecDepth 100000 in
theorem head_any (w : World) : Calls Try.prog 9 #[] w fun e w' => e = .returned (.bool true) ∧ Below w.heap.size w w' := by
  have HA := Lib.hid (fun (V : World) => txt_any 0 (some ⟨V.heap.size, 0, none⟩) 2 2 [97, 32] (by omega) (V.alloc (.cells #[.int .i32 97, .int .i32 32] 21)) (reads_new V 21 #[.int .i32 97, .int .i32 32] 2 _ rfl rfl) rfl)
  have HB := Lib.hid (fun (V : World) => txt_any 1 (some ⟨V.heap.size, 0, none⟩) 2 2 [32, 98] (by omega) (V.alloc (.cells #[.int .i32 32, .int .i32 98] 21)) (reads_new V 21 #[.int .i32 32, .int .i32 98] 2 _ rfl rfl) rfl)
  have HC := Lib.hid (fun (V : World) => txt_any 1 (some ⟨V.heap.size, 0, none⟩) 1 1 [97] (by omega) (V.alloc (.cells #[.int .i32 97] 21)) (reads_new V 21 #[.int .i32 97] 1 _ rfl rfl) rfl)
  have HD := Lib.hid (fun (A1 : Option Addr) (c1 : Nat) (V : World) (hV : Reads V V.heap.size 5 A1 4 (crL hdL)) => (Collapse_any A1 4 c1 hdL (some ⟨V.heap.size, 0, none⟩) 2 2 [sty 0, sty 2] (by omega) (by omega) (V.alloc (.cells #[.int .u8 0, .int .u8 0, .int .u8 0, .int .u8 0, .int .i64 0, .int .i64 0, .int .i64 0, .int .u8 0, .int .i64 0, .int .u8 2, .int .u8 0, .int .u8 0, .int .u8 0, .int .i64 0, .int .i64 0, .int .i64 0, .int .u8 0, .int .i64 0] 33)) ((hV.alloc (Nat.le_refl _) _).more (by rw [World.size_alloc]; omega)) (reads_newK (k := 9) V 33 #[.int .u8 0, .int .u8 0, .int .u8 0, .int .u8 0, .int .i64 0, .int .i64 0, .int .i64 0, .int .u8 0, .int .i64 0, .int .u8 2, .int .u8 0, .int .u8 0, .int .u8 0, .int .i64 0, .int .i64 0, .int .i64 0, .int .u8 0, .int .i64 0] 2 (stL [sty 0, sty 2]) rfl rfl)).mono fun e w' h => (show ∃ g cap, e = .returned (.tuple #[.slice (some ⟨g, 0, none⟩) 4 cap, .int .i64 0]) ∧ (∀ V', Below w'.heap.size w' V' → V'.cell? ⟨g, 9, none⟩ = some (.int .u8 1) ∧ V'.cell? ⟨g, 14, none⟩ = some (.int .u8 3)) ∧ Below V.heap.size V w' by
    obtain ⟨hb, h⟩ := h
    rcases h with ⟨h, _⟩ | ⟨_, v, rfl, ho⟩
    · rw [hdC_ok] at h; cases h
    · rw [hdC_len] at ho
      obtain ⟨g, cap, rfl, hc⟩ := own_cellAt ho (by omega)
      exact ⟨g, cap, rfl, fun V' hV' => ⟨hc V' hV' 9 _ hdC_1, hc V' hV' 14 _ hdC_2⟩, bel_trans (bel_alloc (Below.refl _ _) _) hb⟩))
  have HE := Lib.hid (fun (A1 : Option Addr) (c1 : Nat) (V : World) (hV : Reads V V.heap.size 5 A1 1 (crL (txt 1 [97]))) => (Collapse_any A1 1 c1 (txt 1 [97]) (some ⟨V.heap.size, 0, none⟩) 1 1 [sty 0] (by omega) (by omega) (V.alloc (.cells #[.int .u8 0, .int .u8 0, .int .u8 0, .int .u8 0, .int .i64 0, .int .i64 0, .int .i64 0, .int .u8 0, .int .i64 0] 33)) ((hV.alloc (Nat.le_refl _) _).more (by rw [World.size_alloc]; omega)) (reads_newK (k := 9) V 33 #[.int .u8 0, .int .u8 0, .int .u8 0, .int .u8 0, .int .i64 0, .int .i64 0, .int .i64 0, .int .u8 0, .int .i64 0] 1 (stL [sty 0]) rfl rfl)).mono fun e w' h => (show e = .returned (.tuple #[.slice none 0 0, .int .i64 2]) ∧ Below V.heap.size V w' by
    obtain ⟨hb, h⟩ := h
    rcases h with ⟨_, h⟩ | ⟨h, _⟩
    · exact ⟨h, bel_trans (bel_alloc (Below.refl _ _) _) hb⟩
    · rw [hdD_no] at h; cases h))
  obtain ⟨j0, hj, hy0, hy1, hy2⟩ := info_parts infoCr2
  go_enter Try.func9, Try.ntmps9
  go_wp2_with (first
    | (go_at_call 20; (with_reducible refine (HA.out w).mono ?_); rintro e w1 ⟨v1, rfl, o1, b1⟩; obtain ⟨A1, c1, rfl⟩ := own_shape o1; have O1 := Lib.hid o1; have S1 : w.heap.size + 1 ≤ w1.heap.size := (World.size_alloc w _ ▸ b1.size); have B1 := Lib.hid (bel_trans (bel_alloc (Below.refl w.heap.size w) _) b1); clear o1 b1)
    | (go_at_call 20; (with_reducible refine (HB.out w1).mono ?_); rintro e w2 ⟨v2, rfl, o2, b2⟩; obtain ⟨A2, c2, rfl⟩ := own_shape o2; have O2 := Lib.hid o2; have O1' := Lib.hid (own_below (O1.out.alloc _) b2); have R2 := bel_trans (bel_alloc (Below.refl w1.heap.size w1) _) b2; have S2 : w1.heap.size ≤ w2.heap.size := R2.size; have B2 := Lib.hid (bel_trans B1.out R2); clear o2 b2 R2)
    | (go_at_call 20; (with_reducible refine (HC.out w4).mono ?_); rintro e w5 ⟨v5, rfl, o5, b5⟩; obtain ⟨A5, c5, rfl⟩ := own_shape o5; have O5 := Lib.hid o5; have R5 := Lib.hid (bel_trans (bel_alloc (Below.refl w4.heap.size w4) _) b5); clear o5 b5)
    | (at_builtin; refine wpList_append_any _ rfl (.tmp 7) (.tmp 9) 22 rfl (w.heap.size + 1) 38 j0 (.agg #[.int .i32 0, .int .i64 0, .int .i64 0, .int .i64 0, .int .u8 0]) 5 40 Try.underlying22 hj hy0 hy1 hy2 rfl (by decide) (.slice A1 2 c1) 2 (crL (txt 0 [97, 32])) rfl (by have h := O1'.out; rw [World.size_alloc] at h; exact h) w2.heap.size A2 2 c2 (crL (txt 1 [32, 98])) rfl (own_reads O2.out) ?d1 ?e1 ?f1 ?g1 ?_))
  case d1 => simp [crL, crC, txt, Value.oneCell', List.range, List.range.loop]
  case e1 => unfold maxLen; omega
  case f1 => omega
  case g1 => omega
  intro v3 w3 o3 hg3 _
  obtain ⟨A3, c3, rfl⟩ := own_shape o3
  have B3 := Lib.hid (bel_grown B2.out (own_le (by have h := O1'.out; rw [World.size_alloc] at h; exact h) (by omega)) hg3)
  have O3 := Lib.hid (show Reads w3 w3.heap.size 5 A3 4 (crL hdL) by have h := own_reads o3; rw [← crL_app] at h; exact h)
  clear o3 hg3
  go_wp2_with (first
    | (go_at_call 10; (with_reducible refine (HD.out A3 c3 w3 O3.out).mono ?_); rintro e w4 ⟨g, cap, rfl, hc, b4⟩; have HCL := Lib.hid hc; have B4 := Lib.hid (bel_trans B3.out b4); clear hc b4)
    | (go_at_call 20; (with_reducible refine (HC.out w4).mono ?_); rintro e w5 ⟨v5, rfl, o5, b5⟩; obtain ⟨A5, c5, rfl⟩ := own_shape o5; have O5 := Lib.hid (own_reads o5); have R5 := Lib.hid (bel_trans (bel_alloc (Below.refl w4.heap.size w4) _) b5); clear o5 b5)
    | (go_at_call 10; (with_reducible refine (HE.out A5 c5 w5 O5.out).mono ?_); rintro e w6 ⟨rfl, b6⟩; have R6 := Lib.hid (bel_trans R5.out b6); clear b6)
    | (go_at_call 21; (with_reducible refine (hd0 w6).mono ?_); rintro e w7 ⟨rfl, b1⟩; have R7 := Lib.hid (bel_trans R6.out b1); clear b1)
    | (go_at_call 21; (with_reducible refine (hd1 w7).mono ?_); rintro e w8 ⟨rfl, b1⟩; have R8 := Lib.hid (bel_trans R7.out b1); clear b1)
    | (go_at_call 21; (with_reducible refine (hd2 w8).mono ?_); rintro e w9 ⟨rfl, b1⟩; have R9 := Lib.hid (bel_trans R8.out b1); clear b1)
    | (go_at_call 21; (with_reducible refine (hd3 w9).mono ?_); rintro e w10 ⟨rfl, b1⟩; have R10 := Lib.hid (bel_trans R9.out b1); clear b1)
    | (go_at_call 21; (with_reducible refine (hd4 w10).mono ?_); rintro e w11 ⟨rfl, b1⟩; have R11 := Lib.hid (bel_trans R10.out b1); clear b1)
    | (go_at_call 21; (with_reducible refine (hd5 w11).mono ?_); rintro e w12 ⟨rfl, b1⟩; have R12 := Lib.hid (bel_trans R11.out b1); obtain ⟨k9, k14⟩ := HCL.out _ R12.out; clear b1))
  go_ret
  exact ⟨rfl, bel_trans B4.out R12.out⟩
end Go.Proofs.Ytmjacmjogckihaa.White
