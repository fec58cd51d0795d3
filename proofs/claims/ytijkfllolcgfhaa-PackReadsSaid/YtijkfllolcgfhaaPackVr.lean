/- Chapter 3: PackReads, walked: it returns true, for every input. No condition but bounds. -/
import Derived.Test.YtijkfllolcgfhaaPackV
import Derived.Test.YtijkfllolcgfhaaPackH
namespace Go.Proofs.Ytijkfllolcgfhaa.Pack
open Go.RowKit
set_option linter.unusedVariables false
set_option linter.unusedSimpArgs false

/-- The memory of PackReads but for the reader. -/
structure QS (w : World) (sq : Option (List UInt8)) (a : Addr) (kv : Value) (W : World) : Prop where
  q : Blk W (w.heap.size + 1) 53 #[strV (sq.getD []), .bool sq.isSome]
  bel : Below w.heap.size w W
  c : w.cell? a = some kv
  lt : a.block < w.heap.size
section
variable {w W W' : World} {sq st : Option (List UInt8)} {a : Addr} {kv : Value}
theorem QS.far {S : Nat → Prop} (m : QS w sq a kv W) (h : Far S W W') (h1 : ¬ S (w.heap.size + 1)) (h2 : ∀ k, S k → w.heap.size ≤ k) : QS w sq a kv W' :=
  ⟨h.blk m.q h1, m.bel.trans (h.to_below m.bel.size h2), m.c, m.lt⟩
theorem QS.alloc (m : QS w sq a kv W) (o : Obj) : QS w sq a kv (W.alloc o) := m.far (S := fun _ => False) (Far.of_below (bel_alloc (Below.refl _ _) o)) (fun e => e) (fun _ e => e.elim)
theorem QS.drew (m : QS w sq a kv W) : QS w sq a kv W.drew := ⟨m.q.drew, m.bel.drew, m.c, m.lt⟩
theorem QS.two (m : QS w sq a kv W) (b : Nat) (hb : w.heap.size + 1 < b) (x y : Value) : QS w sq a kv ((W.setCell ⟨b, 0, none⟩ x).setCell ⟨b, 1, none⟩ y) :=
  m.far (S := fun k => k = b) (((Far.refl (fun k => k = b) _).setCell (p := ⟨b, 0, none⟩) rfl _).setCell (p := ⟨b, 1, none⟩) rfl _) (by omega) (fun k e => by omega)
theorem qs_start (m : QS w sq a kv W) : W.cell? ⟨w.heap.size + 1, 0, none⟩ = some (strV (sq.getD [])) ∧ W.cell? ⟨w.heap.size + 1, 1, none⟩ = some (.bool sq.isSome) ∧ W.cell? a = some kv ∧ QS w sq a kv W :=
  ⟨m.q.cell 0, m.q.cell 1, (m.bel.cell m.lt).trans m.c, m⟩
theorem qs_of {p0 p1 p2 : Prop} (h : p0 ∧ p1 ∧ p2 ∧ QS w sq a kv W) : QS w sq a kv W := h.2.2.2
theorem qs_alloc {p0 p1 p2 : Prop} {o : Obj} (h : p0 ∧ p1 ∧ p2 ∧ QS w sq a kv W) : (W.alloc o).cell? ⟨w.heap.size + 1, 0, none⟩ = some (strV (sq.getD [])) ∧ (W.alloc o).cell? ⟨w.heap.size + 1, 1, none⟩ = some (.bool sq.isSome) ∧ (W.alloc o).cell? a = some kv ∧ QS w sq a kv (W.alloc o) := qs_start ((qs_of h).alloc o)
theorem qs_allocd {o : Obj} (h : QS w sq a kv W) : (W.alloc o).drew.cell? ⟨w.heap.size + 1, 0, none⟩ = some (strV (sq.getD [])) ∧ (W.alloc o).drew.cell? ⟨w.heap.size + 1, 1, none⟩ = some (.bool sq.isSome) ∧ (W.alloc o).drew.cell? a = some kv ∧ QS w sq a kv (W.alloc o).drew := qs_start (h.alloc o).drew
end
theorem qs_halloc {w W : World} {sq : Option (List UInt8)} {a : Addr} {kv : Value} {o : Obj} (h : Hid (QS w sq a kv W)) : (W.alloc o).cell? ⟨w.heap.size + 1, 0, none⟩ = some (strV (sq.getD [])) ∧ (W.alloc o).cell? ⟨w.heap.size + 1, 1, none⟩ = some (.bool sq.isSome) ∧ (W.alloc o).cell? a = some kv ∧ QS w sq a kv (W.alloc o) := qs_start (h.out.alloc o)
theorem qs_htwo {w W : World} {sq : Option (List UInt8)} {a : Addr} {kv x y : Value} {b : Nat} (h : Hid (QS w sq a kv W)) (hb : w.heap.size + 1 < b) : ((W.setCell ⟨b, 0, none⟩ x).setCell ⟨b, 1, none⟩ y).cell? ⟨w.heap.size + 1, 0, none⟩ = some (strV (sq.getD [])) ∧ ((W.setCell ⟨b, 0, none⟩ x).setCell ⟨b, 1, none⟩ y).cell? ⟨w.heap.size + 1, 1, none⟩ = some (.bool sq.isSome) ∧ ((W.setCell ⟨b, 0, none⟩ x).setCell ⟨b, 1, none⟩ y).cell? a = some kv ∧ QS w sq a kv ((W.setCell ⟨b, 0, none⟩ x).setCell ⟨b, 1, none⟩ y) := qs_start (h.out.two b hb x y)
theorem rset_eq {g k : Nat} (h : RSet (some ⟨g, 0, none⟩) k) : k = g := by
  have := congrArg Addr.block (Option.some.inj h)
  exact this.symm
theorem QS.rd {w W W' : World} {sq : Option (List UInt8)} {a : Addr} {kv : Value} (m : QS w sq a kv W) (h : Far (RSet (some ⟨w.heap.size, 0, none⟩)) W W') : QS w sq a kv W' :=
  m.far h (fun e => by have := rset_eq e; omega) (fun k e => by rw [rset_eq e]; exact Nat.le_refl _)
theorem RdS.drew {w : World} {g : Nat} {p : Option Addr} {made : Bool} {st : Option (List UInt8)} (h : RdS w g p made st) : RdS w.drew g p made st := h.below (Below.refl _ _).drew
theorem RdS.allocd {w : World} {g : Nat} {p : Option Addr} {made : Bool} {st : Option (List UInt8)} (h : RdS w g p made st) (o : Obj) : RdS (w.alloc o).drew g p made st := h.below (bel_alloc (Below.refl _ _) o).drew
theorem blk_rd {w wr w3 : World} {t : TypeId} {cs : Array Value} (hw : w.heap.size + 1 < wr.heap.size) (h : Far (RSet (some ⟨w.heap.size, 0, none⟩)) (wr.alloc (.cells cs t)).drew w3) : Blk w3 wr.heap.size t cs :=
  h.blk (Blk.new wr t cs).drew (fun e => by have := rset_eq e; omega)
theorem rd_two {W : World} {g b : Nat} {p : Option Addr} {made : Bool} {st : Option (List UInt8)} (h : RdS W g p made st) (hb : g ≠ b) (x y : Value) : RdS ((W.setCell ⟨b, 0, none⟩ x).setCell ⟨b, 1, none⟩ y) g p made st :=
  h.far (S := fun k => k = b) (((Far.refl (fun k => k = b) _).setCell (p := ⟨b, 0, none⟩) rfl _).setCell (p := ⟨b, 1, none⟩) rfl _) (fun _ e => hb e)
theorem blk_cells {w : World} {b : Nat} {t : TypeId} {x y : Value} (h : Blk w b t #[x, y]) : w.cell? ⟨b, 0, none⟩ = some x ∧ w.cell? ⟨b, 1, none⟩ = some y ∧ w.frozen? ⟨b, 0, none⟩ = false ∧ w.frozen? ⟨b, 1, none⟩ = false :=
  ⟨h.cell 0, h.cell 1, h.frozen 0, h.frozen 1⟩
set_option maxHeartbeats 8000000 in
set_option maxRecDepth 20000 in
theorem PackReads_any (s : ByteArray) (A : Option Addr) (n c : Nat) (xs : List Int) (w : World) (hr : Reads w w.heap.size 1 A n (xs.map (Value.int .u8))) (hx : xs.length = n) (hk : ∀ x ∈ xs, 0 ≤ x ∧ x ≤ 255) (hn : n ≤ 140737488351232) (hs : s.size ≤ 140737488351232) :
    Calls Try.prog 6 #[.string s, .slice A n c] w fun e w' => e = .returned (.bool true) ∧ Below w.heap.size w w' := by
  have HR := Lib.hid hr
  have HX := Lib.hid hx
  have HK := Lib.hid hk
  have hn1 : (n : Int) ≤ 140737488351232 := by omega
  have hs1 : (s.size : Int) ≤ 140737488351232 := by omega
  clear hr hx hk hn hs
  go_enter Try.func6, Try.ntmps6
  by_cases hgt : 4000 < s.size ∨ 60 < n
  · by_cases h1 : 4000 < s.size
    · have q1 : decide ((4000 : Int) < (s.size : Int)) = true := by simp; omega
      clear hgt
      go_wp2_with (go_at_call 10; refine (head_any _).mono ?_; rintro e w2 ⟨rfl, hb2⟩)
      go_ret
      exact ⟨rfl, hb2⟩
    · have h2 : 60 < n := hgt.resolve_left h1
      have q1 : decide ((4000 : Int) < (s.size : Int)) = false := by simp; omega
      have q2 : decide ((60 : Int) < (n : Int)) = true := by simp; omega
      clear hgt
      go_wp2_with (go_at_call 10; refine (head_any _).mono ?_; rintro e w2 ⟨rfl, hb2⟩)
      go_ret
      exact ⟨rfl, hb2⟩
  · have q1 : decide ((4000 : Int) < (s.size : Int)) = false := by simp; omega
    have q2 : decide ((60 : Int) < (n : Int)) = false := by simp; omega
    have HS := Lib.hid (show s.size ≤ 4000 by omega)
    clear hgt
    have R0 := Lib.hid (new_rd s w)
    go_wp2_with (go_at_call 24; refine (newr_any _ _).mono ?_; rintro e w' ⟨rfl, rfl⟩)
    go_loopw [7] (fun i wr => ∃ (j : Nat) (st : Option (List UInt8)), i = .int .i64 j ∧ j ≤ n ∧ Hid (RdS wr w.heap.size (some ⟨w.heap.size, 0, none⟩) true st) ∧ Hid (Blk wr (w.heap.size + 1) 53 #[strV (st.getD []), .bool st.isSome]) ∧ Hid (Below w.heap.size w wr) ∧ Hid (rem st ≤ 4001)) (fun i _ => n - (intOf i).toNat)
    case atStart =>
      refine ⟨0, some s.data.toList, rfl, Nat.zero_le _, ?_, ?_, ?_, ?_⟩
      · exact Lib.hid (R0.out.below (bel_alloc (Below.refl _ _) _))
      · have := Blk.new (w.alloc (.cells #[.string s, .bool true, .bool true] 70)) 53 #[.string s, .bool true]
        rw [World.size_alloc] at this
        exact Lib.hid this
      · exact Lib.hid (bel_alloc (bel_alloc (Below.refl _ _) _) _)
      · exact Lib.hid (by have := HS.out; show s.data.toList.length + 1 ≤ 4001; simp; exact this)
    case round =>
      obtain ⟨j, st, rfl, hj, RD, QB, HB, HM⟩ := hrel
      by_cases hlt : j < n
      · obtain ⟨ad, u, rfl, hb, hxu, hc⟩ := HR.out.at_ hlt
        rw [List.getElem?_map] at hxu
        obtain ⟨k, hk, rfl⟩ := Option.map_eq_some_iff.1 hxu
        have KB := Lib.hid (HK.out k (List.mem_of_getElem? hk))
        have Q := Lib.hid (show QS w st (ad.add j) (.int .u8 k) wr from ⟨QB.out, HB.out, hc, by rw [block_of_add]; exact hb⟩)
        clear hxu hk hc
        have C0 := qs_start Q.out.drew
        have hrl := Lib.hid (show ∀ b, st = some b → b.length ≤ 1000000000000 from fun b e => by subst e; have := HM.out; have h2 : b.length + 1 ≤ 4001 := this; omega)
        have HW := Lib.hid Q.out.q.lt
        have HC : Hid (∀ W, RdS W w.heap.size (some ⟨w.heap.size, 0, none⟩) true st → Calls Try.prog 25 #[.pointer (some ⟨w.heap.size, 0, none⟩), .agg #[strV (st.getD []), .bool st.isSome], .int .u8 k] W (VPost W w.heap.size (some ⟨w.heap.size, 0, none⟩) true (readS k st))) := Lib.hid (fun W h => reads_any _ _ _ _ _ W h (.inl rfl) KB.out hrl)
        clear hrl
        go_upto_region 8 with fail
        go_cut [8, 9] (fun a t wx => ∃ b, a = .pointer (some ⟨b, 0, none⟩) ∧ t = .bool true ∧ Hid (w.heap.size + 1 < b) ∧ Hid (Blk wx b 53 #[strV ((readS k st).getD []), .bool (readS k st).isSome]) ∧ Hid (RdS wx w.heap.size (some ⟨w.heap.size, 0, none⟩) true (readS k st)) ∧ Hid (QS w st (ad.add j) (.int .u8 k) wx))
        case first =>
          go_region_held3 (fun w' => w'.cell? ⟨w.heap.size + 1, 0, none⟩ = some (strV (st.getD [])) ∧ w'.cell? ⟨w.heap.size + 1, 1, none⟩ = some (.bool st.isSome) ∧ w'.cell? (ad.add j) = some (.int .u8 k) ∧ QS w st (ad.add j) (.int .u8 k) w')
            (first | with_reducible exact C0 | with_reducible assumption | with_reducible exact qs_allocd Q.out | with_reducible exact qs_halloc (by assumption) | with_reducible exact qs_htwo (by assumption) HW.out | go_keep)
            (first
              | (go_at_call 25; (with_reducible refine (HC.out _ RD.out.drew).mono ?_); rintro e w3 ⟨rfl, hr3, hf3⟩; have R3 := Lib.hid hr3; have QA := Lib.hid (Q.out.drew.rd hf3); have C3 := qs_start QA.out; clear hr3 hf3)
              | (go_at_call 25; (with_reducible refine (HC.out _ (RD.out.allocd _)).mono ?_); rintro e w3 ⟨rfl, hr3, hf3⟩; have R3 := Lib.hid hr3; have QA := Lib.hid ((Q.out.alloc _).drew.rd hf3); have B3 := Lib.hid (blk_rd HW.out hf3); obtain ⟨b0, b1, b2, b3⟩ := blk_cells B3.out; have C3 := qs_start QA.out; clear hr3 hf3))
          all_goals (go_wp2_with fail)
          all_goals go_meet
          all_goals first
            | exact ⟨_, rfl, rfl, Lib.hid QA.out.q.lt, Lib.hid (Blk.new _ _ _), Lib.hid (R3.out.below (bel_alloc (Below.refl _ _) _)), Lib.hid (QA.out.alloc _)⟩
            | exact ⟨_, rfl, rfl, HW, Lib.hid (blk_two B3.out _ _), Lib.hid (rd_two R3.out (by have := HW.out; omega) _ _), Lib.hid (QA.out.two _ HW.out _ _)⟩
        case rest =>
          obtain ⟨b, rfl, rfl, HBb, BB, RD2, Q2⟩ := hcut
          obtain ⟨b0, b1, b2, b3⟩ := blk_cells BB.out
          obtain ⟨q0, q1', q2', q3⟩ := blk_cells Q2.out.q
          go_wp2_with fail
          go_roundw
          case rel => exact ⟨j + 1, readS k st, by go_num, by omega, Lib.hid (rd_two RD2.out (by omega) _ _), Lib.hid (blk_two Q2.out.q _ _), Lib.hid (bel_two Q2.out.bel (by omega) _ _), Lib.hid (Nat.le_trans (readS_rem k st) HM.out)⟩
          case measure => simp [intOf]; omega
      · obtain rfl : j = n := by omega
        go_wp2_with (go_at_call 10; refine (head_any _).mono ?_; rintro e w2 ⟨rfl, hb2⟩)
        go_ret
        exact ⟨rfl, bel_trans HB.out hb2⟩
end Go.Proofs.Ytijkfllolcgfhaa.Pack
