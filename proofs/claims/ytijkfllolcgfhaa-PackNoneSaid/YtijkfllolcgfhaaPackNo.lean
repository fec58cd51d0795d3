/- Chapter 3: PackNone, walked: it returns true, for every input. No condition. -/
import Derived.Test.YtijkfllolcgfhaaPackV
import Derived.Test.YtijkfllolcgfhaaPackLa
namespace Go.Proofs.Ytijkfllolcgfhaa.Pack
open Go.RowKit
set_option linter.unusedVariables false
set_option linter.unusedSimpArgs false

theorem reads_lit {w : World} {t : TypeId} {cs : Array Value} {b n K : Nat} {xs : List Value} (hb : w.heap.size = b) (h : cs.toList = xs) (hn : xs.length = n * K) :
    Reads (w.alloc (.cells cs t)) (w.alloc (.cells cs t)).heap.size K (some ⟨b, 0, none⟩) n xs := by
  subst hb
  refine ⟨hn, fun _ => ⟨_, rfl, by simp, fun j u hu => ?_⟩⟩
  have := (Blk.new w t cs).cell j
  rw [← h, Array.getElem?_toList] at hu
  rw [show (⟨w.heap.size, 0, none⟩ : Addr).add j = ⟨w.heap.size, j, none⟩ by unfold Addr.add; split <;> simp_all, this, hu]
theorem ItRd.keep {x : It} {w w' : World} (h : ItRd x w) (hb : Below w.heap.size w w') : ItRd x w' :=
  ⟨h.k0, h.n0, h.i0, h.s0, h.l0, h.m0, h.t0, (h.r1.below hb).more hb.size, (h.r2.below hb).more hb.size, (h.r3.below hb).more hb.size, h.z1, h.z2, h.z3⟩
/-- The memory of PackNone. -/
structure NM (w : World) (x : It) (b : Nat) (t1 t2 : TypeId) (W : World) : Prop where
  it : Blk W w.heap.size 40 (itC x)
  bw : Blk W b 67 #[.slice none 0 0, .bool false]
  sw : Blk W (b + 1) t1 #[.pointer none, .pointer (some ⟨b, 0, none⟩)]
  br : Blk W (b + 2) 70 #[strV [], .bool false, .bool false]
  sr : Blk W (b + 3) t2 #[.pointer none, .pointer (some ⟨b + 2, 0, none⟩)]
  bel : Below w.heap.size w W
  lt : w.heap.size < b
section
variable {w W W' : World} {x : It} {b : Nat} {t1 t2 : TypeId} {p q : Option Addr}
theorem NM.below (m : NM w x b t1 t2 W) (h : Below W.heap.size W W') : NM w x b t1 t2 W' := ⟨m.it.keep h, m.bw.keep h, m.sw.keep h, m.br.keep h, m.sr.keep h, bel_trans m.bel h, m.lt⟩
theorem NM.drew (m : NM w x b t1 t2 W) : NM w x b t1 t2 W.drew := m.below (Below.refl _ _).drew
theorem NM.alloc (m : NM w x b t1 t2 W) (o : Obj) : NM w x b t1 t2 (W.alloc o) := m.below (bel_alloc (Below.refl _ _) o)
theorem rs_eq {g k : Nat} (h : RSet (some ⟨g, 0, none⟩) k) : k = g := (congrArg Addr.block (Option.some.inj h)).symm
theorem NM.rd (m : NM w x b t1 t2 W) (hf : Far (RSet q) W W') (hq : q = none ∨ q = some ⟨b + 2, 0, none⟩) (hr : RdS W' (b + 2) q false none) : NM w x b t1 t2 W' := by
  have l := m.lt
  have hk : ∀ k, k ≠ b + 2 → ¬ RSet q k := by
    intro k hk e
    rcases hq with rfl | rfl
    · cases e
    · exact hk (rs_eq e)
  refine ⟨hf.blk m.it (hk _ (by omega)), hf.blk m.bw (hk _ (by omega)), hf.blk m.sw (hk _ (by omega)), ?_, hf.blk m.sr (hk _ (by omega)), m.bel.trans (hf.to_below m.bel.size (fun k e => ?_)), l⟩
  · rcases hr with ⟨_, h⟩ | ⟨h, _⟩
    · exact h
    · subst h
      exact hf.blk m.br (fun e => by cases e)
  · by_cases h : k = b + 2
    · omega
    · exact absurd e (hk k h)
theorem nm_new {W : World} {tw tr : TypeId} (hi : Blk W w.heap.size 40 (itC x)) (hb : Below w.heap.size w W) (hl : w.heap.size < W.heap.size) :
    NM w x W.heap.size tw tr ((((W.alloc (.cells #[.slice none 0 0, .bool false] 67)).alloc (.cells #[.pointer none, .pointer (some ⟨W.heap.size, 0, none⟩)] tw)).alloc (.cells #[strV [], .bool false, .bool false] 70)).alloc (.cells #[.pointer none, .pointer (some ⟨W.heap.size + 2, 0, none⟩)] tr)) := by
  have e2 := Blk.new (W.alloc (.cells #[.slice none 0 0, .bool false] 67)) tw #[.pointer none, .pointer (some ⟨W.heap.size, 0, none⟩)]
  have e3 := Blk.new ((W.alloc (.cells #[.slice none 0 0, .bool false] 67)).alloc (.cells #[.pointer none, .pointer (some ⟨W.heap.size, 0, none⟩)] tw)) 70 #[strV [], .bool false, .bool false]
  have e4 := Blk.new (((W.alloc (.cells #[.slice none 0 0, .bool false] 67)).alloc (.cells #[.pointer none, .pointer (some ⟨W.heap.size, 0, none⟩)] tw)).alloc (.cells #[strV [], .bool false, .bool false] 70)) tr #[.pointer none, .pointer (some ⟨W.heap.size + 2, 0, none⟩)]
  simp only [World.size_alloc] at e2 e3 e4
  exact ⟨(((hi.alloc _).alloc _).alloc _).alloc _, (((Blk.new _ _ _).alloc _).alloc _).alloc _, (e2.alloc _).alloc _, e3.alloc _, e4, bel_trans hb (bel_alloc (bel_alloc (bel_alloc (bel_alloc (Below.refl _ _) _) _) _) _), hl⟩
/-- The writer and the reader of a round. -/
def PQ (b : Nat) (p q : Option Addr) : Prop := (p = none ∧ q = none) ∨ (p = some ⟨b, 0, none⟩ ∧ q = some ⟨b + 2, 0, none⟩)
theorem NM.wr (m : NM w x b t1 t2 W) (h : PQ b p q) : WrS W b none p none := by
  rcases h with ⟨rfl, _⟩ | ⟨rfl, _⟩
  · exact ⟨rfl, .inl rfl⟩
  · exact ⟨rfl, .inr ⟨rfl, m.bw⟩⟩
theorem NM.rr (m : NM w x b t1 t2 W) (h : PQ b p q) : RdS W (b + 2) q false none := by
  rcases h with ⟨_, rfl⟩ | ⟨_, rfl⟩
  · exact .inr ⟨rfl, rfl, rfl⟩
  · exact .inl ⟨rfl, m.br⟩
theorem pq_q (h : PQ b p q) : q = none ∨ q = some ⟨b + 2, 0, none⟩ := h.imp (·.2) (·.2)
theorem nm_writes (m : NM w x b t1 t2 W) (h : PQ b p q) (hk : ItOk x w w.heap.size) (hl : (itB x).length ≤ 10000000000000) :
    Calls Try.prog 16 #[.pointer p, itV x] W fun e W' => e = .returned (strV (itB x)) ∧ NM w x b t1 t2 W' := by
  refine (writes_any b none p none x w.heap.size W (m.wr h) ⟨hk.k0, hk.n0, hk.i0, hk.s0, hk.l0, hk.m0, hk.t0, hk.r1.below m.bel, hk.r2.below m.bel, hk.r3.below m.bel, hk.z1, hk.z2, hk.z3⟩ m.bel.size (fun ad _ hs => by have := hs.1; simp at this) hl (fun l e => by cases e)).mono ?_
  rintro e W' ⟨rfl, r', _, hf⟩
  exact ⟨rfl, m.below (hf.far.to_below (Nat.le_refl _) (fun k hk => by have := hk.1; simp at this))⟩
theorem nm_reads (m : NM w x b t1 t2 W) (h : PQ b p q) (k : Int) (hk : 0 ≤ k ∧ k ≤ 255) :
    Calls Try.prog 25 #[.pointer q, .agg #[strV [], .bool false], .int .u8 k] W fun e W' => e = .returned (.tuple #[rowV none, .bool true]) ∧ NM w x b t1 t2 W' := by
  refine (reads_any (b + 2) q false none k W (m.rr h) (.inr rfl) hk (fun b e => by cases e)).mono ?_
  rintro e W' ⟨rfl, hr, hf⟩
  rw [readS_none] at hr ⊢
  exact ⟨rfl, m.rd hf (pq_q h) hr⟩
theorem nm_bytes (m : NM w x b t1 t2 W) (h : PQ b p q) : Calls Try.prog 17 #[.pointer p] W fun e W' => e = .returned (.string ⟨#[]⟩) ∧ W = W' := bytes_any b none p none W (m.wr h)
theorem nm_end (m : NM w x b t1 t2 W) (h : PQ b p q) : Calls Try.prog 28 #[.pointer q] W fun e W' => e = .returned (.int .i64 1) ∧ W = W' := end_any (b + 2) q false none W (m.rr h)
theorem nm_fine (m : NM w x b t1 t2 W) (h : PQ b p q) : Calls Try.prog 27 #[.pointer q] W fun e W' => e = .returned (.bool false) ∧ W = W' := fine_any (b + 2) q false none W (m.rr h)
theorem nm_left (m : NM w x b t1 t2 W) (h : PQ b p q) : Calls Try.prog 29 #[.pointer q] W fun e W' => e = .returned (.int .i64 0) ∧ W = W' := left_any (b + 2) q false none W (m.rr h)
theorem NM.item (m : NM w x b t1 t2 W) : W.cell? ⟨w.heap.size, 0, none⟩ = some (.int .u8 x.k) ∧ W.cell? ⟨w.heap.size, 1, none⟩ = some (.int .u64 x.n) ∧ W.cell? ⟨w.heap.size, 2, none⟩ = some (.int .i64 x.i) ∧ W.cell? ⟨w.heap.size, 3, none⟩ = some (.bool x.is) ∧ W.cell? ⟨w.heap.size, 4, none⟩ = some (.string x.s) ∧
    W.cell? ⟨w.heap.size, 5, none⟩ = some (.slice x.A1 x.n1 x.c1) ∧ W.cell? ⟨w.heap.size, 6, none⟩ = some (.slice x.A2 x.n2 x.c2) ∧ W.cell? ⟨w.heap.size, 7, none⟩ = some (.slice x.A3 x.n3 x.c3) :=
  ⟨m.it.cell 0, m.it.cell 1, m.it.cell 2, m.it.cell 3, m.it.cell 4, m.it.cell 5, m.it.cell 6, m.it.cell 7⟩
end
set_option maxHeartbeats 8000000 in
set_option maxRecDepth 20000 in
theorem PackNone_any (x : It) (k : Int) (w : World) (hx : ItRd x w) (hk : 0 ≤ k ∧ k ≤ 255) :
    Calls Try.prog 9 #[itV x, .int .u8 k] w fun e w' => e = .returned (.bool true) ∧ Below w.heap.size w w' := by
  have HX := Lib.hid hx
  have HK := Lib.hid hk
  have k0 := hk.1
  have k1 := hk.2
  have HB0 := Lib.hid (bel_alloc (bel_alloc (Below.refl w.heap.size w) (.cells (itC x) 40)) (.cells (itC x) 40))
  have HR0 := Lib.hid (reads_lit (K := 8) (n := 1) (t := 40) (cs := itC x) (xs := [x].flatMap itL) (World.size_alloc w (.cells (itC x) 40)) (by simp [itL]) (by simp [itL_len]))
  have HGR := Lib.hid (great_any (some ⟨w.heap.size + 1, 0, none⟩) 1 1 [x] _ HR0.out rfl (fun y hy => by simp at hy; subst hy; exact HX.out.keep HB0.out) (by omega))
  clear hx hk
  go_enter Try.func9, Try.ntmps9
  go_wp2_with (go_at_call 14; (with_reducible refine HGR.out.mono ?_); rintro e w1 ⟨b, rfl, hb, hd⟩; have HB := Lib.hid hb; have HD := Lib.hid hd.below; clear hb hd)
  · go_wp2_with (go_at_call 10; refine (head_any _).mono ?_; rintro e w2 ⟨rfl, hb2⟩)
    go_ret
    exact ⟨rfl, bel_trans (bel_trans HB0.out HD.out) hb2⟩
  · have hbf : b = false := by assumption
    subst hbf
    obtain ⟨h40, h100, htot⟩ := HB.out rfl
    have HS := Lib.hid (show sizeI x ≤ 4000 from size_le (List.mem_cons_self ..) htot)
    clear h40 h100 htot
    have HO := Lib.hid (HX.out.ok HS.out)
    have HL := Lib.hid (show (itB x).length ≤ 10000000000000 by have := item_len HX.out; have := HS.out; omega)
    have HRD := Lib.hid (fun (t1 t2 : TypeId) (W : World) {p q : Option Addr} (m : NM w x w1.heap.size t1 t2 W) (h : PQ w1.heap.size p q) => nm_reads m h k HK.out)
    have HI := Lib.hid (show Blk w1 w.heap.size 40 (itC x) from ((Blk.new w _ _).alloc _).keep HD.out)
    have HW := Lib.hid (show w.heap.size < w1.heap.size from HI.out.lt)
    go_loopw [9] (fun i wr => ∃ (j : Nat) (t1 t2 : TypeId), i = .int .i64 j ∧ j ≤ 2 ∧ Hid (NM w x w1.heap.size t1 t2 wr)) (fun i _ => 2 - (intOf i).toNat)
    case atStart => exact ⟨0, _, _, rfl, by omega, Lib.hid (nm_new HI.out (bel_trans HB0.out HD.out) HW.out)⟩
    case round =>
      obtain ⟨j, t1, t2, rfl, hj, M⟩ := hrel
      have hj3 : j = 0 ∨ j = 1 ∨ j = 2 := by omega
      rcases hj3 with rfl | rfl | rfl
      · have HH := Lib.hid (show PQ w1.heap.size none none from .inl ⟨rfl, rfl⟩)
        have p0 : wr.cell? ⟨w1.heap.size + 1, 0, none⟩ = some (.pointer none) := M.out.sw.cell 0
        obtain ⟨i0, i1, i2, i3, i4, i5, i6, i7⟩ := M.out.item
        go_upto_region 9 with fail
        go_still_tail 5, (by kernel_rfl)
        change wpList _ _ _ _ _ wr.drew
        go_wp2_with (first
          | (go_at_call 16; (with_reducible refine (nm_writes M.out.drew HH.out HO.out HL.out).mono ?_); rintro e w2 ⟨rfl, m2⟩; have M2 := Lib.hid m2; clear m2; have r2 : w2.cell? ⟨w1.heap.size + 3, 0, none⟩ = some (.pointer none) := M2.out.sr.cell 0)
          | (go_at_call 25; (with_reducible refine (HRD.out _ _ _ M2.out HH.out).mono ?_); rintro e w3 ⟨rfl, m3⟩; have M3 := Lib.hid (m3.alloc (.cells #[.string ⟨#[]⟩, .bool false] 53)); clear m3; have p3 : (w3.alloc (.cells #[.string ⟨#[]⟩, .bool false] 53)).cell? ⟨w1.heap.size + 1, 0, none⟩ = some (.pointer none) := M3.out.sw.cell 0; have r3 : (w3.alloc (.cells #[.string ⟨#[]⟩, .bool false] 53)).cell? ⟨w1.heap.size + 3, 0, none⟩ = some (.pointer none) := M3.out.sr.cell 0)
          | (go_at_call 17; (with_reducible refine (nm_bytes M3.out HH.out).mono ?_); rintro e w' ⟨rfl, rfl⟩)
          | (go_at_call 28; (with_reducible refine (nm_end M3.out HH.out).mono ?_); rintro e w' ⟨rfl, rfl⟩)
          | (go_at_call 27; (with_reducible refine (nm_fine M3.out HH.out).mono ?_); rintro e w' ⟨rfl, rfl⟩)
          | (go_at_call 29; (with_reducible refine (nm_left M3.out HH.out).mono ?_); rintro e w' ⟨rfl, rfl⟩))
        go_roundw
        case rel => exact ⟨0 + 1, t1, t2, by go_num, by omega, M3⟩
        case measure => simp [intOf]
      · have HH := Lib.hid (show PQ w1.heap.size (some ⟨w1.heap.size, 0, none⟩) (some ⟨w1.heap.size + 2, 0, none⟩) from .inr ⟨rfl, rfl⟩)
        have p0 : wr.cell? ⟨w1.heap.size + 1, 1, none⟩ = some (.pointer (some ⟨w1.heap.size, 0, none⟩)) := M.out.sw.cell 1
        obtain ⟨i0, i1, i2, i3, i4, i5, i6, i7⟩ := M.out.item
        go_upto_region 9 with fail
        go_still_tail 5, (by kernel_rfl)
        change wpList _ _ _ _ _ wr.drew
        go_wp2_with (first
          | (go_at_call 16; (with_reducible refine (nm_writes M.out.drew HH.out HO.out HL.out).mono ?_); rintro e w2 ⟨rfl, m2⟩; have M2 := Lib.hid m2; clear m2; have r2 : w2.cell? ⟨w1.heap.size + 3, 1, none⟩ = some (.pointer (some ⟨w1.heap.size + 2, 0, none⟩)) := M2.out.sr.cell 1)
          | (go_at_call 25; (with_reducible refine (HRD.out _ _ _ M2.out HH.out).mono ?_); rintro e w3 ⟨rfl, m3⟩; have M3 := Lib.hid (m3.alloc (.cells #[.string ⟨#[]⟩, .bool false] 53)); clear m3; have p3 : (w3.alloc (.cells #[.string ⟨#[]⟩, .bool false] 53)).cell? ⟨w1.heap.size + 1, 1, none⟩ = some (.pointer (some ⟨w1.heap.size, 0, none⟩)) := M3.out.sw.cell 1; have r3 : (w3.alloc (.cells #[.string ⟨#[]⟩, .bool false] 53)).cell? ⟨w1.heap.size + 3, 1, none⟩ = some (.pointer (some ⟨w1.heap.size + 2, 0, none⟩)) := M3.out.sr.cell 1)
          | (go_at_call 17; (with_reducible refine (nm_bytes M3.out HH.out).mono ?_); rintro e w' ⟨rfl, rfl⟩)
          | (go_at_call 28; (with_reducible refine (nm_end M3.out HH.out).mono ?_); rintro e w' ⟨rfl, rfl⟩)
          | (go_at_call 27; (with_reducible refine (nm_fine M3.out HH.out).mono ?_); rintro e w' ⟨rfl, rfl⟩)
          | (go_at_call 29; (with_reducible refine (nm_left M3.out HH.out).mono ?_); rintro e w' ⟨rfl, rfl⟩))
        go_roundw
        case rel => exact ⟨1 + 1, t1, t2, by go_num, by omega, M3⟩
        case measure => simp [intOf]
      · go_wp2_with (go_at_call 10; refine (head_any _).mono ?_; rintro e w2 ⟨rfl, hb2⟩)
        go_ret
        exact ⟨rfl, bel_trans M.out.bel hb2⟩
end Go.Proofs.Ytijkfllolcgfhaa.Pack
