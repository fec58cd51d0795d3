/- Chapter 3: items; an item written, walked. No condition but bounds. -/
import Derived.Test.YtijkfllolcgfhaaPackQ
namespace Go.Proofs.Ytijkfllolcgfhaa.Pack
open Go.RowKit
set_option linter.unusedVariables false
set_option linter.unusedSimpArgs false

/-- An item. -/
structure It where
  k : Int
  n : Int
  i : Int
  is : Bool
  s : ByteArray
  A1 : Option Addr
  n1 : Nat
  c1 : Nat
  l : List Int
  A2 : Option Addr
  n2 : Nat
  c2 : Nat
  m : List Int
  A3 : Option Addr
  n3 : Nat
  c3 : Nat
  t : List ByteArray
abbrev itC (x : It) : Array Value := #[.int .u8 x.k, .int .u64 x.n, .int .i64 x.i, .bool x.is, .string x.s, .slice x.A1 x.n1 x.c1, .slice x.A2 x.n2 x.c2, .slice x.A3 x.n3 x.c3]
abbrev itV (x : It) : Value := .agg (itC x)
/-- What an item is in a world, below a block. -/
structure ItOk (x : It) (w : World) (B : Nat) : Prop where
  k0 : 0 ≤ x.k ∧ x.k ≤ 255
  n0 : 0 ≤ x.n ∧ x.n < 18446744073709551616
  i0 : -9223372036854775808 ≤ x.i ∧ x.i ≤ 9223372036854775807
  s0 : x.s.size ≤ 10000000000000
  l0 : ∀ y ∈ x.l, 0 ≤ y ∧ y < 18446744073709551616
  m0 : ∀ y ∈ x.m, -9223372036854775808 ≤ y ∧ y ≤ 9223372036854775807
  t0 : ∀ y ∈ x.t, ByteArray.size y ≤ 10000000000000
  r1 : Reads w B 1 x.A1 x.n1 (x.l.map (Value.int .u64))
  r2 : Reads w B 1 x.A2 x.n2 (x.m.map (Value.int .i64))
  r3 : Reads w B 1 x.A3 x.n3 (x.t.map (Value.string))
  z1 : x.n1 ≤ 2000000
  z2 : x.n2 ≤ 2000000
  z3 : x.n3 ≤ 2000000
theorem ItOk.far {S : Nat → Prop} {x : It} {w w' : World} {B : Nat} (h : ItOk x w B) (hf : Far S w w') (hB : B ≤ w.heap.size) (ha : ∀ ad, (x.A1 = some ad ∧ 0 < x.n1) ∨ (x.A2 = some ad ∧ 0 < x.n2) ∨ (x.A3 = some ad ∧ 0 < x.n3) → ¬ S ad.block) : ItOk x w' B :=
  ⟨h.k0, h.n0, h.i0, h.s0, h.l0, h.m0, h.t0, hf.reads h.r1 hB (fun hn ad e => ha ad (.inl ⟨e, hn⟩)), hf.reads h.r2 hB (fun hn ad e => ha ad (.inr (.inl ⟨e, hn⟩))), hf.reads h.r3 hB (fun hn ad e => ha ad (.inr (.inr ⟨e, hn⟩))), h.z1, h.z2, h.z3⟩
theorem ItOk.below {x : It} {w w' : World} {B : Nat} (h : ItOk x w B) (hf : Below w.heap.size w w') (hB : B ≤ w.heap.size) : ItOk x w' B :=
  h.far (S := fun _ => False) (Far.of_below hf) hB (fun _ _ e => e)
/-- An item's bytes. -/
def itB (x : It) : List UInt8 :=
  if x.k % 7 = 1 then numB (zz x.i) else if x.k % 7 = 2 then numB (cond x.is 1 0) else if x.k % 7 = 3 then textB x.s else
  if x.k % 7 = 4 then allB (fun y => numB y.toNat) x.l else if x.k % 7 = 5 then allB (fun y => numB (zz y)) x.m else if x.k % 7 = 6 then allB textB x.t else numB x.n.toNat
/-- What the writing of an item leaves behind. -/
def IPost (w : World) (g : Nat) (r : Option Nat) (p : Option Addr) (o : Option (List UInt8)) (x : It) (e : Ending) (w' : World) : Prop :=
  e = .returned (strV (itB x)) ∧ ∃ r', WrS w' g r' p (o.map (· ++ itB x)) ∧ WF o.isSome g r w r' w'
theorem wf_map {o : Option (List UInt8)} {f : List UInt8 → List UInt8} {g : Nat} {r r' : Option Nat} {w w' : World} (h : WF (o.map f).isSome g r w r' w') : WF o.isSome g r w r' w' := by rwa [Option.isSome_map] at h
theorem kind_cases (k : Int) : k % 7 = 1 ∨ k % 7 = 2 ∨ k % 7 = 3 ∨ k % 7 = 4 ∨ k % 7 = 5 ∨ k % 7 = 6 ∨ k % 7 = 0 := by omega
set_option maxHeartbeats 4000000 in
theorem writes_any (g : Nat) (r : Option Nat) (p : Option Addr) (o : Option (List UInt8)) (x : It) (B : Nat) (w : World) (hs : WrS w g r p o) (hk : ItOk x w B) (hB : B ≤ w.heap.size)
    (hap : ∀ ad, (x.A1 = some ad ∧ 0 < x.n1) ∨ (x.A2 = some ad ∧ 0 < x.n2) ∨ (x.A3 = some ad ∧ 0 < x.n3) → ¬ WSet o.isSome g r ad.block) (hl : (itB x).length ≤ 10000000000000) (ho : ∀ l, o = some l → l.length ≤ 10000000000000) :
    Calls Try.prog 16 #[.pointer p, itV x] w (IPost w g r p o x) := by
  have HS := Lib.hid hs
  have HK := Lib.hid hk
  have HB := Lib.hid hB
  have HA := Lib.hid hap
  have HL := Lib.hid ho
  have HLI := Lib.hid hl
  have HG := Lib.hid (show ¬ WSet o.isSome g r w.heap.size from fun h => Nat.lt_irrefl _ (hs.lt h))
  have HN := Lib.hid (Blk.new w 40 (itC x))
  have k0 := hk.k0.1
  have k1 := hk.k0.2
  clear hs hk hB hap ho hl
  rcases kind_cases x.k with hd | hd | hd | hd | hd | hd | hd
  · have HI := Lib.hid (show itB x = numB (zz x.i) by unfold itB; simp only [hd]; rfl)
    go_enter Try.func16, Try.ntmps16
    go_wp2_with (first
      | (go_at_call 22; (with_reducible refine (int_any g r p o x.i _ (HS.out.below (bel_alloc (Below.refl _ _) _)) HK.out.i0.1 HK.out.i0.2 (fun l e => by have := HL.out l e; omega)).mono ?_); rintro e w1 ⟨rfl, r1, hs1, hf1⟩; have S1 := Lib.hid hs1; have F1 := Lib.hid (wf_map hf1); clear hs1 hf1; have z1 : w1.cell? ⟨w.heap.size, 2, none⟩ = some (.int .i64 x.i) := (F1.out.far.blk HN.out HG.out).cell 2)
      | (go_at_call 38; (with_reducible refine (rint_any x.i _ HK.out.i0.1 HK.out.i0.2).mono ?_); rintro e w2 ⟨rfl, hb2⟩; have B2 := Lib.hid hb2; clear hb2))
    go_ret
    refine ⟨ret_str HI.out.symm, r1, ?_, ((WF.of_below (bel_alloc (Below.refl _ _) _)).trans F1.out).trans (WF.of_below B2.out)⟩
    rw [HI.out]
    exact S1.out.below B2.out
  · have HI := Lib.hid (show itB x = numB (cond x.is 1 0) by unfold itB; simp only [hd]; rfl)
    go_enter Try.func16, Try.ntmps16
    go_wp2_with (first
      | (go_at_call 37; (with_reducible refine (truth_any g r p o x.is _ (HS.out.below (bel_alloc (Below.refl _ _) _)) (fun l e => by have := HL.out l e; omega)).mono ?_); rintro e w1 ⟨rfl, r1, hs1, hf1⟩; have S1 := Lib.hid hs1; have F1 := Lib.hid (wf_map hf1); clear hs1 hf1; have z1 : w1.cell? ⟨w.heap.size, 3, none⟩ = some (.bool x.is) := (F1.out.far.blk HN.out HG.out).cell 3)
      | (go_at_call 39; (with_reducible refine (rtruth_any x.is _).mono ?_); rintro e w2 ⟨rfl, hb2⟩; have B2 := Lib.hid hb2; clear hb2))
    go_ret
    refine ⟨ret_str HI.out.symm, r1, ?_, ((WF.of_below (bel_alloc (Below.refl _ _) _)).trans F1.out).trans (WF.of_below B2.out)⟩
    rw [HI.out]
    exact S1.out.below B2.out
  · have HI := Lib.hid (show itB x = textB x.s by unfold itB; simp only [hd]; rfl)
    go_enter Try.func16, Try.ntmps16
    go_wp2_with (first
      | (go_at_call 23; (with_reducible refine (text_any g r p o x.s _ (HS.out.below (bel_alloc (Below.refl _ _) _)) HK.out.s0 (fun l e => by have := HL.out l e; omega)).mono ?_); rintro e w1 ⟨rfl, r1, hs1, hf1⟩; have S1 := Lib.hid hs1; have F1 := Lib.hid (wf_map hf1); clear hs1 hf1; have z1 : w1.cell? ⟨w.heap.size, 4, none⟩ = some (.string x.s) := (F1.out.far.blk HN.out HG.out).cell 4)
      | (go_at_call 40; (with_reducible refine (rtext_any x.s _ HK.out.s0).mono ?_); rintro e w2 ⟨rfl, hb2⟩; have B2 := Lib.hid hb2; clear hb2))
    go_ret
    refine ⟨ret_str HI.out.symm, r1, ?_, ((WF.of_below (bel_alloc (Below.refl _ _) _)).trans F1.out).trans (WF.of_below B2.out)⟩
    rw [HI.out]
    exact S1.out.below B2.out
  · have HI := Lib.hid (show itB x = allB (fun y => numB y.toNat) x.l by unfold itB; simp only [hd]; rfl)
    have HLY := Lib.hid (show (itB x).length ≤ 40000000000000 by have := HLI.out; omega)
    have HLX := Lib.hid (show ∀ l, o = some l → l.length + (itB x).length ≤ 40000000000000 from fun l e => by have := HL.out l e; have := HLI.out; omega)
    rw [HI.out] at HLX HLY
    go_enter Try.func16, Try.ntmps16
    go_wp2_with (first
      | (go_at_call 18; (with_reducible refine (nums_any g r p o x.A1 x.n1 x.c1 B x.l _ (HS.out.below (bel_alloc (Below.refl _ _) _)) (HK.out.below (bel_alloc (Below.refl _ _) _) HB.out).r1 (Nat.le_trans HB.out (bel_alloc (Below.refl _ _) _).size) (fun hn ad e => HA.out ad (by first | exact .inl ⟨e, hn⟩ | exact .inr (.inl ⟨e, hn⟩) | exact .inr (.inr ⟨e, hn⟩))) HK.out.z1 HK.out.l0 (fun l e => HLX.out l e)).mono ?_); rintro e w1 ⟨rfl, r1, hs1, hf1⟩; have S1 := Lib.hid hs1; have F1 := Lib.hid (wf_map hf1); clear hs1 hf1; have z1 : w1.cell? ⟨w.heap.size, 5, none⟩ = some (.slice x.A1 x.n1 x.c1) := (F1.out.far.blk HN.out HG.out).cell 5)
      | (go_at_call 41; (with_reducible refine (rnums_any x.A1 x.n1 x.c1 B x.l _ (F1.out.far.reads (HK.out.below (bel_alloc (Below.refl _ _) _) HB.out).r1 (Nat.le_trans HB.out (bel_alloc (Below.refl _ _) _).size) (fun hn ad e => HA.out ad (by first | exact .inl ⟨e, hn⟩ | exact .inr (.inl ⟨e, hn⟩) | exact .inr (.inr ⟨e, hn⟩)))) (Nat.le_trans (Nat.le_trans HB.out (bel_alloc (Below.refl _ _) _).size) F1.out.far.size) HK.out.z1 HK.out.l0 HLY.out).mono ?_); rintro e w2 ⟨rfl, hb2⟩; have B2 := Lib.hid hb2; clear hb2))
    go_ret
    refine ⟨ret_str HI.out.symm, r1, ?_, ((WF.of_below (bel_alloc (Below.refl _ _) _)).trans F1.out).trans (WF.of_below B2.out)⟩
    rw [HI.out]
    exact S1.out.below B2.out
  · have HI := Lib.hid (show itB x = allB (fun y => numB (zz y)) x.m by unfold itB; simp only [hd]; rfl)
    have HLY := Lib.hid (show (itB x).length ≤ 40000000000000 by have := HLI.out; omega)
    have HLX := Lib.hid (show ∀ l, o = some l → l.length + (itB x).length ≤ 40000000000000 from fun l e => by have := HL.out l e; have := HLI.out; omega)
    rw [HI.out] at HLX HLY
    go_enter Try.func16, Try.ntmps16
    go_wp2_with (first
      | (go_at_call 19; (with_reducible refine (ints_any g r p o x.A2 x.n2 x.c2 B x.m _ (HS.out.below (bel_alloc (Below.refl _ _) _)) (HK.out.below (bel_alloc (Below.refl _ _) _) HB.out).r2 (Nat.le_trans HB.out (bel_alloc (Below.refl _ _) _).size) (fun hn ad e => HA.out ad (by first | exact .inl ⟨e, hn⟩ | exact .inr (.inl ⟨e, hn⟩) | exact .inr (.inr ⟨e, hn⟩))) HK.out.z2 HK.out.m0 (fun l e => HLX.out l e)).mono ?_); rintro e w1 ⟨rfl, r1, hs1, hf1⟩; have S1 := Lib.hid hs1; have F1 := Lib.hid (wf_map hf1); clear hs1 hf1; have z1 : w1.cell? ⟨w.heap.size, 6, none⟩ = some (.slice x.A2 x.n2 x.c2) := (F1.out.far.blk HN.out HG.out).cell 6)
      | (go_at_call 42; (with_reducible refine (rints_any x.A2 x.n2 x.c2 B x.m _ (F1.out.far.reads (HK.out.below (bel_alloc (Below.refl _ _) _) HB.out).r2 (Nat.le_trans HB.out (bel_alloc (Below.refl _ _) _).size) (fun hn ad e => HA.out ad (by first | exact .inl ⟨e, hn⟩ | exact .inr (.inl ⟨e, hn⟩) | exact .inr (.inr ⟨e, hn⟩)))) (Nat.le_trans (Nat.le_trans HB.out (bel_alloc (Below.refl _ _) _).size) F1.out.far.size) HK.out.z2 HK.out.m0 HLY.out).mono ?_); rintro e w2 ⟨rfl, hb2⟩; have B2 := Lib.hid hb2; clear hb2))
    go_ret
    refine ⟨ret_str HI.out.symm, r1, ?_, ((WF.of_below (bel_alloc (Below.refl _ _) _)).trans F1.out).trans (WF.of_below B2.out)⟩
    rw [HI.out]
    exact S1.out.below B2.out
  · have HI := Lib.hid (show itB x = allB textB x.t by unfold itB; simp only [hd]; rfl)
    have HLY := Lib.hid (show (itB x).length ≤ 40000000000000 by have := HLI.out; omega)
    have HLX := Lib.hid (show ∀ l, o = some l → l.length + (itB x).length ≤ 40000000000000 from fun l e => by have := HL.out l e; have := HLI.out; omega)
    rw [HI.out] at HLX HLY
    go_enter Try.func16, Try.ntmps16
    go_wp2_with (first
      | (go_at_call 20; (with_reducible refine (texts_any g r p o x.A3 x.n3 x.c3 B x.t _ (HS.out.below (bel_alloc (Below.refl _ _) _)) (HK.out.below (bel_alloc (Below.refl _ _) _) HB.out).r3 (Nat.le_trans HB.out (bel_alloc (Below.refl _ _) _).size) (fun hn ad e => HA.out ad (by first | exact .inl ⟨e, hn⟩ | exact .inr (.inl ⟨e, hn⟩) | exact .inr (.inr ⟨e, hn⟩))) HK.out.z3 HK.out.t0 (fun l e => HLX.out l e)).mono ?_); rintro e w1 ⟨rfl, r1, hs1, hf1⟩; have S1 := Lib.hid hs1; have F1 := Lib.hid (wf_map hf1); clear hs1 hf1; have z1 : w1.cell? ⟨w.heap.size, 7, none⟩ = some (.slice x.A3 x.n3 x.c3) := (F1.out.far.blk HN.out HG.out).cell 7)
      | (go_at_call 43; (with_reducible refine (rtexts_any x.A3 x.n3 x.c3 B x.t _ (F1.out.far.reads (HK.out.below (bel_alloc (Below.refl _ _) _) HB.out).r3 (Nat.le_trans HB.out (bel_alloc (Below.refl _ _) _).size) (fun hn ad e => HA.out ad (by first | exact .inl ⟨e, hn⟩ | exact .inr (.inl ⟨e, hn⟩) | exact .inr (.inr ⟨e, hn⟩)))) (Nat.le_trans (Nat.le_trans HB.out (bel_alloc (Below.refl _ _) _).size) F1.out.far.size) HK.out.z3 HK.out.t0 HLY.out).mono ?_); rintro e w2 ⟨rfl, hb2⟩; have B2 := Lib.hid hb2; clear hb2))
    go_ret
    refine ⟨ret_str HI.out.symm, r1, ?_, ((WF.of_below (bel_alloc (Below.refl _ _) _)).trans F1.out).trans (WF.of_below B2.out)⟩
    rw [HI.out]
    exact S1.out.below B2.out
  · have HI := Lib.hid (show itB x = numB x.n.toNat by unfold itB; simp only [hd]; rfl)
    go_enter Try.func16, Try.ntmps16
    go_wp2_with (first
      | (go_at_call 21; (with_reducible refine (num_any g r p o x.n _ (HS.out.below (bel_alloc (Below.refl _ _) _)) HK.out.n0.1 HK.out.n0.2 (fun l e => by have := HL.out l e; omega)).mono ?_); rintro e w1 ⟨rfl, r1, hs1, hf1⟩; have S1 := Lib.hid hs1; have F1 := Lib.hid (wf_map hf1); clear hs1 hf1; have z1 : w1.cell? ⟨w.heap.size, 1, none⟩ = some (.int .u64 x.n) := (F1.out.far.blk HN.out HG.out).cell 1)
      | (go_at_call 44; (with_reducible refine (rnum_any x.n _ HK.out.n0.1 HK.out.n0.2).mono ?_); rintro e w2 ⟨rfl, hb2⟩; have B2 := Lib.hid hb2; clear hb2))
    go_ret
    refine ⟨ret_str HI.out.symm, r1, ?_, ((WF.of_below (bel_alloc (Below.refl _ _) _)).trans F1.out).trans (WF.of_below B2.out)⟩
    rw [HI.out]
    exact S1.out.below B2.out
end Go.Proofs.Ytijkfllolcgfhaa.Pack
