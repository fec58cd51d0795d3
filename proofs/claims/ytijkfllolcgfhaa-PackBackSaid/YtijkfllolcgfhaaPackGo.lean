/- Chapter 3: got walked: is a thing read as it was written? No condition but bounds. -/
import Derived.Test.YtijkfllolcgfhaaPackB
namespace Go.Proofs.Ytijkfllolcgfhaa.Pack
open Go.RowKit
set_option linter.unusedVariables false
set_option linter.unusedSimpArgs false

def GoPost (w : World) (g : Nat) (p : Option Addr) (made : Bool) (st : Option (List UInt8)) (x : It) (e : Ending) (w' : World) : Prop :=
  ∃ b : Bool, e = .returned (.bool b) ∧ (b = true ↔ gotP x st) ∧ RdS w' g p made (readS x.k st) ∧ Far (RSet p) w w'
theorem far_box {w w' : World} {p : Option Addr} {o : Obj} (h : Far (RSet p) (w.alloc o).drew w') : Far (RSet p) w w' := (Far.of_below (S := RSet p) (bel_alloc (Below.refl _ _) o).drew).trans h (fun _ _ e => e)
theorem blk_box {w w' : World} {p : Option Addr} {t : TypeId} {cs : Array Value} (hp : ∀ k, RSet p k → k < w.heap.size) (h : Far (RSet p) (w.alloc (.cells cs t)).drew w') : Blk w' w.heap.size t cs :=
  h.blk (Blk.new w t cs).drew (fun e => by have := hp _ e; omega)
theorem same_iff {a b : ByteArray} {c : Bool} (h : (a.toList == b.toList) = c) : c = true ↔ a = b := by
  subst h
  constructor
  · intro h
    by_cases e : a = b
    · exact e
    · rw [str_ne e] at h; cases h
  · rintro rfl; simp
theorem beq_iff' {α : Type} [BEq α] [LawfulBEq α] {a b : α} {c : Bool} (h : (a == b) = c) : c = true ↔ a = b := by subst h; exact beq_iff_eq
set_option maxHeartbeats 8000000 in
set_option maxRecDepth 20000 in
theorem got_1 (g : Nat) (p : Option Addr) (made : Bool) (st : Option (List UInt8)) (x : It) (B : Nat) (w : World) (h : RdS w g p made st) (hx : ItOk x w B) (hB : B ≤ w.heap.size) (hap : ∀ ad, (x.A1 = some ad ∧ 0 < x.n1) ∨ (x.A2 = some ad ∧ 0 < x.n2) ∨ (x.A3 = some ad ∧ 0 < x.n3) → ¬ RSet p ad.block) (hb : ∀ b, st = some b → b.length ≤ 1000000000000) (hd : x.k % 7 = 1) :
    Calls Try.prog 26 #[.pointer p, itV x] w (GoPost w g p made st x) := by
  have HR := Lib.hid (show RdS (w.alloc (.cells (itC x) 40)).drew g p made st from h.below (bel_alloc (Below.refl _ _) _).drew)
  have HL := Lib.hid (show ∀ k, RSet p k → k < w.heap.size from fun k hk => h.lt hk)
  have HX := Lib.hid hx
  have HA := Lib.hid hap
  have HB := Lib.hid hB
  have k0 := hx.k0.1
  have k1 := hx.k0.2
  have HK := Lib.hid (show ∀ W, RdS W g p made st → Calls Try.prog 30 #[.pointer p] W (RPost W g p made (.int .i64 (tiS st).1) (tiS st).2) from fun W hr => rdint_any g p made st W hr (fun b e => by have := hb b e; omega))
  have HS := Lib.hid (show readS x.k st = (tiS st).2 by unfold readS; simp only [hd]; rfl)
  have HG := Lib.hid (show gotP x st ↔ (tiS st).1 = x.i by unfold gotP; simp only [hd]; exact Iff.rfl)
  clear hb h hx hap hB
  generalize (tiS st).1 = y at *
  generalize (tiS st).2 = s' at *
  obtain ⟨bb, hbb⟩ : ∃ bb, (y == x.i) = bb := ⟨_, rfl⟩
  have HBB := Lib.hid (beq_iff' hbb)
  go_enter Try.func26, Try.ntmps26
  go_upto_region 3 with fail
  go_region_held3 (fun w' => w'.cell? ⟨w.heap.size, 2, none⟩ = some (.int .i64 x.i)) (first | with_reducible exact (Blk.new w 40 (itC x)).drew.cell 2 | with_reducible assumption | go_keep)
    ((go_at_call 30; (with_reducible refine (HK.out _ HR.out).mono ?_); rintro e w1 ⟨rfl, hr1, hf1⟩; have R1 := Lib.hid hr1; have F1 := Lib.hid hf1; have D1 : w1.cell? ⟨w.heap.size, 2, none⟩ = some (.int .i64 x.i) := (blk_box HL.out hf1).cell 2; clear hr1 hf1))
  go_wp2
  go_ret
  exact ⟨bb, rfl, HBB.out.trans HG.out.symm, by rw [HS.out]; exact R1.out, far_box F1.out⟩
set_option maxHeartbeats 8000000 in
set_option maxRecDepth 20000 in
theorem got_2 (g : Nat) (p : Option Addr) (made : Bool) (st : Option (List UInt8)) (x : It) (B : Nat) (w : World) (h : RdS w g p made st) (hx : ItOk x w B) (hB : B ≤ w.heap.size) (hap : ∀ ad, (x.A1 = some ad ∧ 0 < x.n1) ∨ (x.A2 = some ad ∧ 0 < x.n2) ∨ (x.A3 = some ad ∧ 0 < x.n3) → ¬ RSet p ad.block) (hb : ∀ b, st = some b → b.length ≤ 1000000000000) (hd : x.k % 7 = 2) :
    Calls Try.prog 26 #[.pointer p, itV x] w (GoPost w g p made st x) := by
  have HR := Lib.hid (show RdS (w.alloc (.cells (itC x) 40)).drew g p made st from h.below (bel_alloc (Below.refl _ _) _).drew)
  have HL := Lib.hid (show ∀ k, RSet p k → k < w.heap.size from fun k hk => h.lt hk)
  have HX := Lib.hid hx
  have HA := Lib.hid hap
  have HB := Lib.hid hB
  have k0 := hx.k0.1
  have k1 := hx.k0.2
  have HK := Lib.hid (show ∀ W, RdS W g p made st → Calls Try.prog 31 #[.pointer p] W (RPost W g p made (.bool (ttS st).1) (ttS st).2) from fun W hr => rdtruth_any g p made st W hr (fun b e => by have := hb b e; omega))
  have HS := Lib.hid (show readS x.k st = (ttS st).2 by unfold readS; simp only [hd]; rfl)
  have HG := Lib.hid (show gotP x st ↔ (ttS st).1 = x.is by unfold gotP; simp only [hd]; exact Iff.rfl)
  clear hb h hx hap hB
  generalize (ttS st).1 = y at *
  generalize (ttS st).2 = s' at *
  obtain ⟨bb, hbb⟩ : ∃ bb, (y == x.is) = bb := ⟨_, rfl⟩
  have HBB := Lib.hid (beq_iff' hbb)
  go_enter Try.func26, Try.ntmps26
  go_upto_region 5 with fail
  go_region_held3 (fun w' => w'.cell? ⟨w.heap.size, 3, none⟩ = some (.bool x.is)) (first | with_reducible exact (Blk.new w 40 (itC x)).drew.cell 3 | with_reducible assumption | go_keep)
    ((go_at_call 31; (with_reducible refine (HK.out _ HR.out).mono ?_); rintro e w1 ⟨rfl, hr1, hf1⟩; have R1 := Lib.hid hr1; have F1 := Lib.hid hf1; have D1 : w1.cell? ⟨w.heap.size, 3, none⟩ = some (.bool x.is) := (blk_box HL.out hf1).cell 3; clear hr1 hf1))
  go_wp2
  go_ret
  exact ⟨bb, rfl, HBB.out.trans HG.out.symm, by rw [HS.out]; exact R1.out, far_box F1.out⟩
set_option maxHeartbeats 8000000 in
set_option maxRecDepth 20000 in
theorem got_3 (g : Nat) (p : Option Addr) (made : Bool) (st : Option (List UInt8)) (x : It) (B : Nat) (w : World) (h : RdS w g p made st) (hx : ItOk x w B) (hB : B ≤ w.heap.size) (hap : ∀ ad, (x.A1 = some ad ∧ 0 < x.n1) ∨ (x.A2 = some ad ∧ 0 < x.n2) ∨ (x.A3 = some ad ∧ 0 < x.n3) → ¬ RSet p ad.block) (hb : ∀ b, st = some b → b.length ≤ 1000000000000) (hd : x.k % 7 = 3) :
    Calls Try.prog 26 #[.pointer p, itV x] w (GoPost w g p made st x) := by
  have HR := Lib.hid (show RdS (w.alloc (.cells (itC x) 40)).drew g p made st from h.below (bel_alloc (Below.refl _ _) _).drew)
  have HL := Lib.hid (show ∀ k, RSet p k → k < w.heap.size from fun k hk => h.lt hk)
  have HX := Lib.hid hx
  have HA := Lib.hid hap
  have HB := Lib.hid hB
  have k0 := hx.k0.1
  have k1 := hx.k0.2
  have HK := Lib.hid (show ∀ W, RdS W g p made st → Calls Try.prog 32 #[.pointer p] W (RPost W g p made (.string ⟨(txS st).1.toArray⟩) (txS st).2) from fun W hr => rdtext_any g p made st W hr (fun b e => by have := hb b e; omega))
  have HS := Lib.hid (show readS x.k st = (txS st).2 by unfold readS; simp only [hd]; rfl)
  have HG := Lib.hid (show gotP x st ↔ (⟨(txS st).1.toArray⟩ : ByteArray) = x.s by unfold gotP; simp only [hd]; exact Iff.rfl)
  clear hb h hx hap hB
  generalize (⟨(txS st).1.toArray⟩ : ByteArray) = y at *
  generalize (txS st).2 = s' at *
  obtain ⟨bb, hbb⟩ : ∃ bb, (y.toList == x.s.toList) = bb := ⟨_, rfl⟩
  have HBB := Lib.hid (same_iff hbb)
  go_enter Try.func26, Try.ntmps26
  go_upto_region 7 with fail
  go_region_held3 (fun w' => w'.cell? ⟨w.heap.size, 4, none⟩ = some (.string x.s)) (first | with_reducible exact (Blk.new w 40 (itC x)).drew.cell 4 | with_reducible assumption | go_keep)
    ((go_at_call 32; (with_reducible refine (HK.out _ HR.out).mono ?_); rintro e w1 ⟨rfl, hr1, hf1⟩; have R1 := Lib.hid hr1; have F1 := Lib.hid hf1; have D1 : w1.cell? ⟨w.heap.size, 4, none⟩ = some (.string x.s) := (blk_box HL.out hf1).cell 4; clear hr1 hf1))
  go_wp2
  go_ret
  exact ⟨bb, rfl, HBB.out.trans HG.out.symm, by rw [HS.out]; exact R1.out, far_box F1.out⟩
set_option maxHeartbeats 8000000 in
set_option maxRecDepth 20000 in
theorem got_0 (g : Nat) (p : Option Addr) (made : Bool) (st : Option (List UInt8)) (x : It) (B : Nat) (w : World) (h : RdS w g p made st) (hx : ItOk x w B) (hB : B ≤ w.heap.size) (hap : ∀ ad, (x.A1 = some ad ∧ 0 < x.n1) ∨ (x.A2 = some ad ∧ 0 < x.n2) ∨ (x.A3 = some ad ∧ 0 < x.n3) → ¬ RSet p ad.block) (hb : ∀ b, st = some b → b.length ≤ 1000000000000) (hd : x.k % 7 = 0) :
    Calls Try.prog 26 #[.pointer p, itV x] w (GoPost w g p made st x) := by
  have HR := Lib.hid (show RdS (w.alloc (.cells (itC x) 40)).drew g p made st from h.below (bel_alloc (Below.refl _ _) _).drew)
  have HL := Lib.hid (show ∀ k, RSet p k → k < w.heap.size from fun k hk => h.lt hk)
  have HX := Lib.hid hx
  have HA := Lib.hid hap
  have HB := Lib.hid hB
  have k0 := hx.k0.1
  have k1 := hx.k0.2
  have HK := Lib.hid (show ∀ W, RdS W g p made st → Calls Try.prog 36 #[.pointer p] W (RPost W g p made (.int .u64 (((tnS st).1 : Nat) : Int)) (tnS st).2) from fun W hr => rdnum_any g p made st W hr (fun b e => by have := hb b e; omega))
  have HS := Lib.hid (show readS x.k st = (tnS st).2 by unfold readS; simp only [hd]; rfl)
  have HG := Lib.hid (show gotP x st ↔ (((tnS st).1 : Nat) : Int) = x.n by unfold gotP; simp only [hd]; exact Iff.rfl)
  clear hb h hx hap hB
  generalize (((tnS st).1 : Nat) : Int) = y at *
  generalize (tnS st).2 = s' at *
  obtain ⟨bb, hbb⟩ : ∃ bb, (y == x.n) = bb := ⟨_, rfl⟩
  have HBB := Lib.hid (beq_iff' hbb)
  go_enter Try.func26, Try.ntmps26
  go_upto_region 14 with fail
  go_region_held3 (fun w' => w'.cell? ⟨w.heap.size, 1, none⟩ = some (.int .u64 x.n)) (first | with_reducible exact (Blk.new w 40 (itC x)).drew.cell 1 | with_reducible assumption | go_keep)
    ((go_at_call 36; (with_reducible refine (HK.out _ HR.out).mono ?_); rintro e w1 ⟨rfl, hr1, hf1⟩; have R1 := Lib.hid hr1; have F1 := Lib.hid hf1; have D1 : w1.cell? ⟨w.heap.size, 1, none⟩ = some (.int .u64 x.n) := (blk_box HL.out hf1).cell 1; clear hr1 hf1))
  go_wp2
  go_ret
  exact ⟨bb, rfl, HBB.out.trans HG.out.symm, by rw [HS.out]; exact R1.out, far_box F1.out⟩
set_option maxHeartbeats 8000000 in
set_option maxRecDepth 20000 in
theorem got_4 (g : Nat) (p : Option Addr) (made : Bool) (st : Option (List UInt8)) (x : It) (B : Nat) (w : World) (h : RdS w g p made st) (hx : ItOk x w B) (hB : B ≤ w.heap.size) (hap : ∀ ad, (x.A1 = some ad ∧ 0 < x.n1) ∨ (x.A2 = some ad ∧ 0 < x.n2) ∨ (x.A3 = some ad ∧ 0 < x.n3) → ¬ RSet p ad.block) (hb : ∀ b, st = some b → b.length ≤ 1000000000000) (hd : x.k % 7 = 4) :
    Calls Try.prog 26 #[.pointer p, itV x] w (GoPost w g p made st x) := by
  have HR := Lib.hid (show RdS (w.alloc (.cells (itC x) 40)).drew g p made st from h.below (bel_alloc (Below.refl _ _) _).drew)
  have HL := Lib.hid (show ∀ k, RSet p k → k < w.heap.size from fun k hk => h.lt hk)
  have HX := Lib.hid hx
  have HA := Lib.hid hap
  have HB := Lib.hid hB
  have k0 := hx.k0.1
  have k1 := hx.k0.2
  have HK := Lib.hid (show ∀ W, RdS W g p made st → Calls Try.prog 33 #[.pointer p] W (LPost (Value.int .u64) W g p made (listS tnI st)) from fun W hr => rdnums_any g p made st W hr (fun b e => by have := hb b e; omega))
  have HS := Lib.hid (show readS x.k st = (listS tnI st).2 by unfold readS; simp only [hd]; rfl)
  have HG := Lib.hid (show gotP x st ↔ (listS tnI st).1 = x.l by unfold gotP; simp only [hd]; exact Iff.rfl)
  have HN := Lib.hid (Nat.le_trans (listS_len (f := tnI) (fun st h => tnI_rem h) st) (rem_le' hb))
  clear hb h hx hap hB
  generalize listS tnI st = T at *
  obtain ⟨xs, s'⟩ := T
  have HK : Hid (∀ W, RdS W g p made st → Calls Try.prog 33 #[.pointer p] W (LPost (Value.int .u64) W g p made (xs, s'))) := HK
  have HS : Hid (readS x.k st = s') := HS
  have HG : Hid (gotP x st ↔ xs = x.l) := HG
  have HN : Hid (xs.length ≤ 1000000000000 + 1) := HN
  go_enter Try.func26, Try.ntmps26
  go_upto_region 9 with fail
  go_region_held3 (fun w' => w'.cell? ⟨w.heap.size, 5, none⟩ = some (.slice x.A1 x.n1 x.c1)) (first | with_reducible exact (Blk.new w 40 (itC x)).drew.cell 5 | with_reducible assumption | go_keep)
    (first
      | (go_at_call 33; (with_reducible refine (HK.out _ HR.out).mono ?_); rintro e w1 ⟨A1, k1', rfl, hq1, hz1, hr1, hf1⟩; have R1 := Lib.hid hr1; have F1 := Lib.hid hf1; have Q1 := Lib.hid hq1; have B1 := Lib.hid (blk_box HL.out hf1); have QX := Lib.hid (((far_box hf1).reads HX.out.r1 HB.out (fun hn ad e => HA.out ad (.inl ⟨e, hn⟩))).more (Nat.le_trans HB.out (far_box hf1).size)); have D1 : w1.cell? ⟨w.heap.size, 5, none⟩ = some (.slice x.A1 x.n1 x.c1) := B1.out.cell 5; clear hr1 hf1 hq1 hz1)
      | (go_at_call 54; (with_reducible refine (same_nums A1 x.A1 _ _ _ _ _ xs x.l (len9 HN.out) (by have := HX.out.z1; omega) _ Q1.out QX.out (Nat.le_refl _)).mono ?_); rintro e w2 ⟨bb, rfl, hbb, hb2⟩; have HBB := Lib.hid hbb; have R2 := Lib.hid (R1.out.below hb2); have F2 := Lib.hid ((far_box F1.out).trans (Far.of_below (S := RSet p) hb2) (fun _ _ e => e)); have D2 : w2.cell? ⟨w.heap.size, 5, none⟩ = some (.slice x.A1 x.n1 x.c1) := (B1.out.keep hb2).cell 5; clear hbb hb2))
  go_wp2
  go_ret
  exact ⟨bb, rfl, HBB.out.trans HG.out.symm, by rw [HS.out]; exact R2.out, F2.out⟩
set_option maxHeartbeats 8000000 in
set_option maxRecDepth 20000 in
theorem got_5 (g : Nat) (p : Option Addr) (made : Bool) (st : Option (List UInt8)) (x : It) (B : Nat) (w : World) (h : RdS w g p made st) (hx : ItOk x w B) (hB : B ≤ w.heap.size) (hap : ∀ ad, (x.A1 = some ad ∧ 0 < x.n1) ∨ (x.A2 = some ad ∧ 0 < x.n2) ∨ (x.A3 = some ad ∧ 0 < x.n3) → ¬ RSet p ad.block) (hb : ∀ b, st = some b → b.length ≤ 1000000000000) (hd : x.k % 7 = 5) :
    Calls Try.prog 26 #[.pointer p, itV x] w (GoPost w g p made st x) := by
  have HR := Lib.hid (show RdS (w.alloc (.cells (itC x) 40)).drew g p made st from h.below (bel_alloc (Below.refl _ _) _).drew)
  have HL := Lib.hid (show ∀ k, RSet p k → k < w.heap.size from fun k hk => h.lt hk)
  have HX := Lib.hid hx
  have HA := Lib.hid hap
  have HB := Lib.hid hB
  have k0 := hx.k0.1
  have k1 := hx.k0.2
  have HK := Lib.hid (show ∀ W, RdS W g p made st → Calls Try.prog 34 #[.pointer p] W (LPost (Value.int .i64) W g p made (listS tiS st)) from fun W hr => rdints_any g p made st W hr (fun b e => by have := hb b e; omega))
  have HS := Lib.hid (show readS x.k st = (listS tiS st).2 by unfold readS; simp only [hd]; rfl)
  have HG := Lib.hid (show gotP x st ↔ (listS tiS st).1 = x.m by unfold gotP; simp only [hd]; exact Iff.rfl)
  have HN := Lib.hid (Nat.le_trans (listS_len (f := tiS) (fun st h => tiS_rem h) st) (rem_le' hb))
  clear hb h hx hap hB
  generalize listS tiS st = T at *
  obtain ⟨xs, s'⟩ := T
  have HK : Hid (∀ W, RdS W g p made st → Calls Try.prog 34 #[.pointer p] W (LPost (Value.int .i64) W g p made (xs, s'))) := HK
  have HS : Hid (readS x.k st = s') := HS
  have HG : Hid (gotP x st ↔ xs = x.m) := HG
  have HN : Hid (xs.length ≤ 1000000000000 + 1) := HN
  go_enter Try.func26, Try.ntmps26
  go_upto_region 11 with fail
  go_region_held3 (fun w' => w'.cell? ⟨w.heap.size, 6, none⟩ = some (.slice x.A2 x.n2 x.c2)) (first | with_reducible exact (Blk.new w 40 (itC x)).drew.cell 6 | with_reducible assumption | go_keep)
    (first
      | (go_at_call 34; (with_reducible refine (HK.out _ HR.out).mono ?_); rintro e w1 ⟨A1, k1', rfl, hq1, hz1, hr1, hf1⟩; have R1 := Lib.hid hr1; have F1 := Lib.hid hf1; have Q1 := Lib.hid hq1; have B1 := Lib.hid (blk_box HL.out hf1); have QX := Lib.hid (((far_box hf1).reads HX.out.r2 HB.out (fun hn ad e => HA.out ad (.inr (.inl ⟨e, hn⟩)))).more (Nat.le_trans HB.out (far_box hf1).size)); have D1 : w1.cell? ⟨w.heap.size, 6, none⟩ = some (.slice x.A2 x.n2 x.c2) := B1.out.cell 6; clear hr1 hf1 hq1 hz1)
      | (go_at_call 56; (with_reducible refine (same_ints A1 x.A2 _ _ _ _ _ xs x.m (len9 HN.out) (by have := HX.out.z2; omega) _ Q1.out QX.out (Nat.le_refl _)).mono ?_); rintro e w2 ⟨bb, rfl, hbb, hb2⟩; have HBB := Lib.hid hbb; have R2 := Lib.hid (R1.out.below hb2); have F2 := Lib.hid ((far_box F1.out).trans (Far.of_below (S := RSet p) hb2) (fun _ _ e => e)); have D2 : w2.cell? ⟨w.heap.size, 6, none⟩ = some (.slice x.A2 x.n2 x.c2) := (B1.out.keep hb2).cell 6; clear hbb hb2))
  go_wp2
  go_ret
  exact ⟨bb, rfl, HBB.out.trans HG.out.symm, by rw [HS.out]; exact R2.out, F2.out⟩
set_option maxHeartbeats 8000000 in
set_option maxRecDepth 20000 in
theorem got_6 (g : Nat) (p : Option Addr) (made : Bool) (st : Option (List UInt8)) (x : It) (B : Nat) (w : World) (h : RdS w g p made st) (hx : ItOk x w B) (hB : B ≤ w.heap.size) (hap : ∀ ad, (x.A1 = some ad ∧ 0 < x.n1) ∨ (x.A2 = some ad ∧ 0 < x.n2) ∨ (x.A3 = some ad ∧ 0 < x.n3) → ¬ RSet p ad.block) (hb : ∀ b, st = some b → b.length ≤ 1000000000000) (hd : x.k % 7 = 6) :
    Calls Try.prog 26 #[.pointer p, itV x] w (GoPost w g p made st x) := by
  have HR := Lib.hid (show RdS (w.alloc (.cells (itC x) 40)).drew g p made st from h.below (bel_alloc (Below.refl _ _) _).drew)
  have HL := Lib.hid (show ∀ k, RSet p k → k < w.heap.size from fun k hk => h.lt hk)
  have HX := Lib.hid hx
  have HA := Lib.hid hap
  have HB := Lib.hid hB
  have k0 := hx.k0.1
  have k1 := hx.k0.2
  have HK := Lib.hid (show ∀ W, RdS W g p made st → Calls Try.prog 35 #[.pointer p] W (LPost (Value.string) W g p made (listS tbS st)) from fun W hr => rdtexts_any g p made st W hr (fun b e => by have := hb b e; omega))
  have HS := Lib.hid (show readS x.k st = (listS tbS st).2 by unfold readS; simp only [hd]; rfl)
  have HG := Lib.hid (show gotP x st ↔ (listS tbS st).1 = x.t by unfold gotP; simp only [hd]; exact Iff.rfl)
  have HN := Lib.hid (Nat.le_trans (listS_len (f := tbS) (fun st h => tbS_rem h) st) (rem_le' hb))
  clear hb h hx hap hB
  generalize listS tbS st = T at *
  obtain ⟨xs, s'⟩ := T
  have HK : Hid (∀ W, RdS W g p made st → Calls Try.prog 35 #[.pointer p] W (LPost (Value.string) W g p made (xs, s'))) := HK
  have HS : Hid (readS x.k st = s') := HS
  have HG : Hid (gotP x st ↔ xs = x.t) := HG
  have HN : Hid (xs.length ≤ 1000000000000 + 1) := HN
  go_enter Try.func26, Try.ntmps26
  go_upto_region 13 with fail
  go_region_held3 (fun w' => w'.cell? ⟨w.heap.size, 7, none⟩ = some (.slice x.A3 x.n3 x.c3)) (first | with_reducible exact (Blk.new w 40 (itC x)).drew.cell 7 | with_reducible assumption | go_keep)
    (first
      | (go_at_call 35; (with_reducible refine (HK.out _ HR.out).mono ?_); rintro e w1 ⟨A1, k1', rfl, hq1, hz1, hr1, hf1⟩; have R1 := Lib.hid hr1; have F1 := Lib.hid hf1; have Q1 := Lib.hid hq1; have B1 := Lib.hid (blk_box HL.out hf1); have QX := Lib.hid (((far_box hf1).reads HX.out.r3 HB.out (fun hn ad e => HA.out ad (.inr (.inr ⟨e, hn⟩)))).more (Nat.le_trans HB.out (far_box hf1).size)); have D1 : w1.cell? ⟨w.heap.size, 7, none⟩ = some (.slice x.A3 x.n3 x.c3) := B1.out.cell 7; clear hr1 hf1 hq1 hz1)
      | (go_at_call 58; (with_reducible refine (same_texts A1 x.A3 _ _ _ _ _ xs x.t (len9 HN.out) (by have := HX.out.z3; omega) _ Q1.out QX.out (Nat.le_refl _)).mono ?_); rintro e w2 ⟨bb, rfl, hbb, hb2⟩; have HBB := Lib.hid hbb; have R2 := Lib.hid (R1.out.below hb2); have F2 := Lib.hid ((far_box F1.out).trans (Far.of_below (S := RSet p) hb2) (fun _ _ e => e)); have D2 : w2.cell? ⟨w.heap.size, 7, none⟩ = some (.slice x.A3 x.n3 x.c3) := (B1.out.keep hb2).cell 7; clear hbb hb2))
  go_wp2
  go_ret
  exact ⟨bb, rfl, HBB.out.trans HG.out.symm, by rw [HS.out]; exact R2.out, F2.out⟩
theorem got_any (g : Nat) (p : Option Addr) (made : Bool) (st : Option (List UInt8)) (x : It) (B : Nat) (w : World) (h : RdS w g p made st) (hx : ItOk x w B) (hB : B ≤ w.heap.size) (hap : ∀ ad, (x.A1 = some ad ∧ 0 < x.n1) ∨ (x.A2 = some ad ∧ 0 < x.n2) ∨ (x.A3 = some ad ∧ 0 < x.n3) → ¬ RSet p ad.block) (hb : ∀ b, st = some b → b.length ≤ 1000000000000) :
    Calls Try.prog 26 #[.pointer p, itV x] w (GoPost w g p made st x) := by
  rcases kind_cases x.k with hd | hd | hd | hd | hd | hd | hd
  · exact got_1 g p made st x B w h hx hB hap hb hd
  · exact got_2 g p made st x B w h hx hB hap hb hd
  · exact got_3 g p made st x B w h hx hB hap hb hd
  · exact got_4 g p made st x B w h hx hB hap hb hd
  · exact got_5 g p made st x B w h hx hB hap hb hd
  · exact got_6 g p made st x B w h hx hB hap hb hd
  · exact got_0 g p made st x B w h hx hB hap hb hd
end Go.Proofs.Ytijkfllolcgfhaa.Pack
