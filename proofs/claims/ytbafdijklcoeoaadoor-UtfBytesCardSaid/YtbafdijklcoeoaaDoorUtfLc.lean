/- Chapter 2: UtfWhole, walked. -/
import Derived.Test.YtbafdijklcoeoaaDoorUtfLb
namespace Go.Proofs.YtbafdijklcoeoaaDoor.Utf
open Go.RowKit
set_option linter.unusedVariables false
set_option linter.unusedSimpArgs false

theorem A_infoI32 : (Tryd.prog.info? 21).map (fun i => (i.zero, i.size, i.bytes)) = some (some (.int .i32 0), 1, 4) := by kernel_rfl
theorem Tabs.belowB {B : Nat} {w w' : World} (h : Tabs w) (hb : Below B w w') (h3 : 3 ≤ B) : Tabs w' :=
  ⟨⟨fun c hc => (hb.cell (by show 0 < B; omega)).trans (h.u8.1 c hc), fun i hi => ⟨(hb.cell (by show 1 < B; omega)).trans (h.u8.2 i hi).1, (hb.cell (by show 1 < B; omega)).trans (h.u8.2 i hi).2⟩⟩, fun i hi => (hb.cell (by show 2 < B; omega)).trans (h.sec i hi)⟩
/-- What lies while the loop goes. -/
structure WL (w : World) (B1 : Nat) (A1 : Option Addr) (n : Nat) (cs : List Value) (A2 : Option Addr) (c2 : Nat) (ps : List Int) (V : World) : Prop where
  rd : Reads V B1 5 A1 n cs
  lt : B1 ≤ V.heap.size
  l3 : 3 ≤ B1
  lw : w.heap.size ≤ B1
  own : V.ownsRow B1 21 1 (.slice A2 ps.length c2) ps.length (ps.map (Value.int .i32))
  tabs : Tabs V
  bel : Below w.heap.size w V
section
variable {w V V' : World} {B1 : Nat} {A1 A2 : Option Addr} {n c2 bc : Nat} {cs : List Value} {ps : List Int} {ce : Array Value}
theorem WL.keep (h : WL w B1 A1 n cs A2 c2 ps V) (hb : Below V.heap.size V V') : WL w B1 A1 n cs A2 c2 ps V' :=
  ⟨h.rd.below (hb.mono h.lt), Nat.le_trans h.lt hb.size, h.l3, h.lw, own_below h.own hb, h.tabs.below hb, bel_trans h.bel hb⟩
/-- A point more. -/
theorem WL.app {o : Obj} {r : Int} {A' : Option Addr} {c' : Nat} (h : WL w B1 A1 n cs A2 c2 ps V) (ho : V'.ownsRow B1 21 1 (.slice A' (ps.length + 1) c') (ps.length + 1) (ps.map (Value.int .i32) ++ [.int .i32 r])) (hg : (V.alloc o).grownBy V' (Value.slice A2 ps.length c2).ownBlock) : WL w B1 A1 n cs A' c' (ps ++ [r]) V' := by
  have o1 := h.own.alloc o
  have hlt : ∀ g, (Value.slice A2 ps.length c2).ownBlock = some g → B1 ≤ g := fun g e => (o1.lt g e).1
  have hb : Below B1 (V.alloc o) V' := (Below.refl B1 _).grown hg (by simp only [World.size_alloc]; have := h.lt; omega) hlt
  have hb2 : Below B1 V V' := ((bel_alloc (Below.refl V.heap.size V) o).mono h.lt).trans hb
  have hsz := hg.size
  refine ⟨h.rd.below hb2, ?_, h.l3, h.lw, by simpa using ho, h.tabs.belowB hb2 h.l3, h.bel.trans (hb2.mono h.lw)⟩
  simp only [World.size_alloc] at hsz
  have := h.lt
  omega
/-- .. and the box of the round's character. -/
structure WM (w : World) (B1 : Nat) (A1 : Option Addr) (n : Nat) (cs : List Value) (A2 : Option Addr) (c2 : Nat) (ps : List Int) (bc : Nat) (ce : Array Value) (V : World) : Prop where
  l : WL w B1 A1 n cs A2 c2 ps V
  b : Blk V bc 32 ce
theorem WM.keep (h : WM w B1 A1 n cs A2 c2 ps bc ce V) (hb : Below V.heap.size V V') : WM w B1 A1 n cs A2 c2 ps bc ce V' := ⟨h.l.keep hb, h.b.keep hb⟩
end
section
variable {w V V' : World} {B1 : Nat} {A1 A2 : Option Addr} {n c2 bc : Nat} {cs : List Value} {ps : List Int} {r p z : Int}
abbrev ce5 (r p z : Int) : Array Value := #[.int .i32 r, .int .i64 0, .int .i64 p, .int .i64 z, .int .u8 0]
theorem WM.cells (h : WM w B1 A1 n cs A2 c2 ps bc (ce5 r p z) V) : V.cell? ⟨bc, 0, none⟩ = some (.int .i32 r) ∧ V.cell? ⟨bc, 1, none⟩ = some (.int .i64 0) ∧ V.cell? ⟨bc, 2, none⟩ = some (.int .i64 p) ∧ V.cell? ⟨bc, 3, none⟩ = some (.int .i64 z) ∧ V.cell? ⟨bc, 4, none⟩ = some (.int .u8 0) ∧ WM w B1 A1 n cs A2 c2 ps bc (ce5 r p z) V :=
  ⟨h.b.cell 0, h.b.cell 1, h.b.cell 2, h.b.cell 3, h.b.cell 4, h⟩
theorem wm_of {p0 p1 p2 p3 p4 : Prop} (h : p0 ∧ p1 ∧ p2 ∧ p3 ∧ p4 ∧ WM w B1 A1 n cs A2 c2 ps bc (ce5 r p z) V) : WM w B1 A1 n cs A2 c2 ps bc (ce5 r p z) V := h.2.2.2.2.2
theorem wm_keep {p0 p1 p2 p3 p4 : Prop} (hb : Below V.heap.size V V') (h : p0 ∧ p1 ∧ p2 ∧ p3 ∧ p4 ∧ WM w B1 A1 n cs A2 c2 ps bc (ce5 r p z) V) : V'.cell? ⟨bc, 0, none⟩ = some (.int .i32 r) ∧ V'.cell? ⟨bc, 1, none⟩ = some (.int .i64 0) ∧ V'.cell? ⟨bc, 2, none⟩ = some (.int .i64 p) ∧ V'.cell? ⟨bc, 3, none⟩ = some (.int .i64 z) ∧ V'.cell? ⟨bc, 4, none⟩ = some (.int .u8 0) ∧ WM w B1 A1 n cs A2 c2 ps bc (ce5 r p z) V' :=
  ((wm_of h).keep hb).cells
end
theorem str_ne {a b : ByteArray} (h : a ≠ b) : (a.toList == b.toList) = false := by
  have key : ∀ s : ByteArray, s.toList = s.data.toList := fun s => by simp [ByteArray.toList_eq]
  rw [beq_eq_false_iff_ne]
  intro e
  rw [key, key] at e
  exact h (ByteArray.ext (Array.toList_inj.1 e))
theorem eqs_iff (a b : List UInt8) (c : Bool) (h : a = b ↔ c = true) : ((⟨a.toArray⟩ : ByteArray).toList == (⟨b.toArray⟩ : ByteArray).toList) = c := by
  cases c with
  | true => rw [h.2 rfl]; simp
  | false =>
    refine str_ne fun e => ?_
    have := congrArg (fun x : ByteArray => x.data.toList) e
    simp at this
    exact absurd (h.1 this) (by simp)
set_option maxHeartbeats 16000000 in
set_option maxRecDepth 100000 in
theorem UtfWhole_in (l : List UInt8) (hl : l.length ≤ 5000) (w : World) (hT : Tabs w) :
    Calls Tryd.prog 5 #[strV l] w fun e w' => e = .returned (.bool true) ∧ Below w.heap.size w w' := by
  obtain ⟨i0, hi, hz0, hz1, hz2⟩ := info_parts A_infoI32
  have gl : (⟨l.toArray⟩ : ByteArray).size = l.length := rfl
  have HH := Lib.hid (fun (W : World) (h : Tabs W) => head_any W h h.three)
  have T0 := Lib.hid hT
  have q1 : decide ((5000 : Int) < (l.length : Int)) = false := decide_eq_false (by omega)
  have q2 : ¬ (5000 < l.length) := by omega
  have ll : (l.length : Int) ≤ 5000 := by omega
  obtain ⟨n, hn⟩ : ∃ n, (chs l 0).length = n := ⟨_, rfl⟩
  have ln : n ≤ 5000 := by have := chs_len l 0; omega
  have D1 := Lib.hid (fun (W : World) (h : Tabs W) => Decode_cr l (by omega) W h h.three n (chs l 0) rfl hn)
  have D4 := Lib.hid (fun (W : World) (h : Tabs W) => Valid_any l (by omega) W h h.three)
  have DE := Lib.hid (fun (A : Option Addr) (c m : Nat) (xs : List Int) (hm : m ≤ 10000) (hx : xs.length = m) (h0 : ∀ x ∈ xs, -2147483648 ≤ x ∧ x ≤ 2147483647) (W : World) (hr : Reads W W.heap.size 1 A m (xs.map (Value.int .i32))) => Encode_any A m c xs W hr hx h0 (by omega))
  have HN := Lib.hid hn
  have S3 := str_cut l
  clear hT hl hn
  go_enter Tryd.func5, Tryd.ntmps5
  go_wp2_with (go_at_call 10; (with_reducible refine (D1.out _ T0.out).mono ?_); rintro e w1 ⟨A1, c1, rfl, o1, b1⟩; have W1 := Lib.hid (show WL w w1.heap.size A1 n (crL ((chs l 0).map toCr)) none 0 [] w1 from ⟨own_reads o1, Nat.le_refl _, Nat.le_trans T0.out.three b1.size, b1.size, own_nil _ _ _ _, T0.out.below b1, b1⟩); clear o1 b1)
  go_loopw [4, 5, 6, 7] (fun a pt i x wr => ∃ (k : Nat) (pre : List Ch) (A2 : Option Addr) (c2 : Nat), a = .int .i64 k ∧ i = .int .i64 (pre.length : Nat) ∧ pt = .slice A2 pre.length c2 ∧ k ≤ l.length ∧ pre.length ≤ n ∧ Hid (chs l 0 = pre ++ chs (l.drop k) k) ∧ Hid (WL w w1.heap.size A1 n (crL ((chs l 0).map toCr)) A2 c2 (pre.map (·.r)) wr)) (fun _ _ i _ _ => n - (intOf i).toNat)
  case atStart => exact ⟨0, [], none, 0, rfl, rfl, rfl, by omega, by simp, Lib.hid (by rw [List.drop_zero]; rfl), W1⟩
  case round =>
    obtain ⟨k, pre, A2, c2, rfl, rfl, rfl, hk, hi2, HP, WR⟩ := hrel
    obtain ⟨i, hil⟩ : ∃ i, pre.length = i := ⟨_, rfl⟩
    rw [hil] at hi2
    have HI := Lib.hid hil
    by_cases hlt : i < n
    · have hlk : k < l.length := by
        rcases Nat.lt_or_ge k l.length with h | h
        · exact h
        · have := congrArg List.length HP.out
          rw [List.drop_of_length_le h, chs_nil, List.append_nil, HN.out, hil] at this
          omega
      obtain ⟨hne, hs1, hs2, hs3, hs4⟩ := chs_split HP.out hlk
      have hci : (chs l 0)[i]? = some (Ch.mk (rS (l.drop k)) k (nS (l.drop k)) (okS (l.drop k))) := by
        rw [hs1, List.getElem?_append_left (by simp; omega), List.getElem?_append_right (by omega), hil]
        simp
      obtain ⟨ad, cr, rfl, hbk, hcr, cc⟩ := reads_cr WR.out.rd hlt
      rw [List.getElem?_map, hci] at hcr
      obtain rfl : cr = Cr.mk (rS (l.drop k)) 0 k (nS (l.drop k)) 0 := by cases hcr; rfl
      have hpt := rS_point hne
      have hown : rS (l.drop k) ≠ 65533 → oneL (rS (l.drop k)) = (l.drop k).take (nS (l.drop k)) := fun h => by
        cases hb : okS (l.drop k) with
        | true => exact ok_own hne hb
        | false => exact absurd (rS_bad hb) h
      have HS1 := Lib.hid hs1
      obtain ⟨a0, a1, a2, a3, a4⟩ := cc
      clear hcr hci hs1
      generalize okS (l.drop k) = ok at HS1
      generalize rS (l.drop k) = r at HS1 hpt hown a0 a1 a2 a3 a4
      generalize nS (l.drop k) = m at HS1 hown hs2 hs3 hs4 a0 a1 a2 a3 a4
      simp only at a0 a1 a2 a3 a4
      have HPT := Lib.hid hpt
      unfold isPoint at hpt
      have S4 := S3 k m
      have HEn := Lib.hid (fun (A : Option Addr) (c : Nat) (W : World) (hr : Reads W W.heap.size 1 A 1 [.int .i32 r]) (hx : oneL r = (l.drop k).take m) => (DE.out A c 1 [r] (by omega) rfl (by intro x hx; simp at hx; omega) W hr).mono fun e w' h => (⟨by rw [h.1]; rw [show encL [r] = (l.drop k).take m by rw [encL_cons, encL_nil, List.append_nil]; exact hx], h.2⟩ : e = .returned (strV ((l.drop k).take m)) ∧ Below W.heap.size W w'))
      have HRs : Reads (((wr.alloc (.cells (ce5 r k m) 32)).alloc (.cells #[.int .i32 r] 21)).drew) (((wr.alloc (.cells (ce5 r k m) 32)).alloc (.cells #[.int .i32 r] 21)).drew.heap.size) 1 (some ⟨wr.heap.size + 1, 0, none⟩) 1 [.int .i32 r] := by
        have := (reads_new (wr.alloc (.cells (ce5 r k m) 32)) 21 #[.int .i32 r] 1 [.int .i32 r] rfl rfl).drew
        rw [World.size_alloc wr] at this
        exact this
      have HOW := Lib.hid hown
      have i1 : (i : Int) < (n : Int) := by omega
      have k1 : (0 : Int) ≤ (k : Int) := by omega
      have k2 : (k : Int) + (m : Int) ≤ (l.length : Int) := by omega
      have kk : ((k : Int) != (k : Int)) = false := by simp
      have m1 : decide ((m : Int) < 1) = false := decide_eq_false (by omega)
      have m1n : ¬ m = 0 := by omega
      have m4 : decide ((4 : Int) < (m : Int)) = false := decide_eq_false (by omega)
      have m4n : ¬ 4 < m := by omega
      have km : decide ((l.length : Int) < (k : Int) + (m : Int)) = false := decide_eq_false (by omega)
      have kmn : ¬ l.length < k + m := by omega
      have kmd : decide (l.length < k + m) = false := decide_eq_false (by omega)
      have m1d : decide (m < 1) = false := decide_eq_false (by omega)
      have m1e : decide (m = 0) = false := decide_eq_false (by omega)
      have m4d : decide (4 < m) = false := decide_eq_false (by omega)
      have RS : ∀ W, (Instr.slice 9 (strV l) (some (.int .i64 (k : Int))) (some (.int .i64 ((k : Int) + (m : Int)))) none).run Tryd.prog W = .ok (strV ((l.drop k).take m)) W := fun W => by
        have := run_slice_string (P := Tryd.prog) W 9 ⟨l.toArray⟩ .i64 .i64 (k : Int) ((k : Int) + (m : Int)) Tryd.underlying9 (by omega) (by omega) (by rw [gl]; omega)
        rw [this, Int.toNat_natCast, show ((k : Int) + (m : Int)).toNat = k + m by omega, S4]
      have wkm : IntKind.i64.wrap ((k : Int) + (m : Int)) = (k : Int) + (m : Int) := IntWalk.i64_in _ ⟨by omega, by omega⟩
      obtain ⟨ps, hps⟩ : ∃ ps, pre.map (·.r) = ps := ⟨_, rfl⟩
      rw [hps] at WR
      have HPS := Lib.hid hps
      have HLP := Lib.hid (show ps.length = i by rw [← hps, List.length_map, hil])
      obtain ⟨cells, hcells⟩ : ∃ cells, crL ((chs l 0).map toCr) = cells := ⟨_, rfl⟩
      rw [hcells] at WR
      have HCe := Lib.hid hcells
      have HM := Lib.hid (⟨WR.out.keep (bel_alloc (Below.refl _ _) _), Blk.new wr _ _⟩ : WM w w1.heap.size (some ad) n cells A2 c2 ps wr.heap.size (ce5 r k m) (wr.alloc (.cells (ce5 r k m) 32)))
      clear hown hpt hil hps hcells hne hbk
      rw [HI.out]
      by_cases g : r = 65533
      · have g1 : (r != 65533) = false := by simp; exact g
        clear g
        go_wp2_with (fail)
        refine wp_region_held_drew (S := fun V => WM w w1.heap.size (some ad) n cells A2 c2 ps wr.heap.size (ce5 r k m) V) (by kernel_rfl) (HM.out.keep (Below.refl _ _).drew) (fun hS => ?_)
        refine wpAnyH_take (i := 0) (oi := _) (v := .pointer (some ⟨wr.heap.size, 2, none⟩)) rfl (by kernel_rfl) (by kernel_rfl) (by kernel_rfl) (fun _ _ _ h => h) (Or.inl ⟨by rfl, ?_⟩) hS ?_
        · intro wz hz
          clear hz
          go_simp
        try simp only [List.getElem_toArray, List.getElem_cons_zero, List.getElem_cons_succ, Act.put, List.setIfInBounds_toArray, List.set_cons_zero, List.set_cons_succ]
        refine wpAnyH_take (i := 1) (oi := _) (v := .int .i64 (k : Int)) rfl (by kernel_rfl) (by kernel_rfl) (by kernel_rfl) (fun _ _ _ h => h) (Or.inl ⟨by rfl, ?_⟩) hS ?_
        · intro wz hz
          obtain ⟨z0, z1, z2, z3, z4, _⟩ := WM.cells hz
          clear hz
          go_simp
        try simp only [List.getElem_toArray, List.getElem_cons_zero, List.getElem_cons_succ, Act.put, List.setIfInBounds_toArray, List.set_cons_zero, List.set_cons_succ]
        refine wpAnyH_take (i := 2) (oi := _) (v := .int .i64 (k : Int)) rfl (by kernel_rfl) (by kernel_rfl) (by kernel_rfl) (fun _ _ _ h => h) (Or.inl ⟨by rfl, ?_⟩) hS ?_
        · intro wz hz
          clear hz
          go_simp
        try simp only [List.getElem_toArray, List.getElem_cons_zero, List.getElem_cons_succ, Act.put, List.setIfInBounds_toArray, List.set_cons_zero, List.set_cons_succ]
        refine wpAnyH_take (i := 3) (oi := _) (v := .bool false) rfl (by kernel_rfl) (by kernel_rfl) (by kernel_rfl) (fun _ _ _ h => h) (Or.inl ⟨by rfl, ?_⟩) hS ?_
        · intro wz hz
          clear hz
          go_simp
        try simp only [List.getElem_toArray, List.getElem_cons_zero, List.getElem_cons_succ, Act.put, List.setIfInBounds_toArray, List.set_cons_zero, List.set_cons_succ]
        refine wpAnyH_take (i := 4) (oi := _) (v := .bool false) rfl (by kernel_rfl) (by kernel_rfl) (by kernel_rfl) (fun _ _ _ h => h) (Or.inl ⟨by rfl, ?_⟩) hS ?_
        · intro wz hz
          clear hz
          go_simp
        try simp only [List.getElem_toArray, List.getElem_cons_zero, List.getElem_cons_succ, Act.put, List.setIfInBounds_toArray, List.set_cons_zero, List.set_cons_succ]
        refine wpAnyH_take (i := 5) (oi := _) (v := .pointer (some ⟨wr.heap.size, 3, none⟩)) rfl (by kernel_rfl) (by kernel_rfl) (by kernel_rfl) (fun _ _ _ h => h) (Or.inl ⟨by rfl, ?_⟩) hS ?_
        · intro wz hz
          clear hz
          go_simp
        try simp only [List.getElem_toArray, List.getElem_cons_zero, List.getElem_cons_succ, Act.put, List.setIfInBounds_toArray, List.set_cons_zero, List.set_cons_succ]
        refine wpAnyH_take (i := 6) (oi := _) (v := .int .i64 (m : Int)) rfl (by kernel_rfl) (by kernel_rfl) (by kernel_rfl) (fun _ _ _ h => h) (Or.inl ⟨by rfl, ?_⟩) hS ?_
        · intro wz hz
          obtain ⟨z0, z1, z2, z3, z4, _⟩ := WM.cells hz
          clear hz
          go_simp
        try simp only [List.getElem_toArray, List.getElem_cons_zero, List.getElem_cons_succ, Act.put, List.setIfInBounds_toArray, List.set_cons_zero, List.set_cons_succ]
        refine wpAnyH_take (i := 7) (oi := _) (v := .bool false) rfl (by kernel_rfl) (by kernel_rfl) (by kernel_rfl) (fun _ _ _ h => h) (Or.inl ⟨by rfl, ?_⟩) hS ?_
        · intro wz hz
          clear hz
          go_simp
        try simp only [List.getElem_toArray, List.getElem_cons_zero, List.getElem_cons_succ, Act.put, List.setIfInBounds_toArray, List.set_cons_zero, List.set_cons_succ]
        refine wpAnyH_take (i := 8) (oi := _) (v := .bool false) rfl (by kernel_rfl) (by kernel_rfl) (by kernel_rfl) (fun _ _ _ h => h) (Or.inl ⟨by rfl, ?_⟩) hS ?_
        · intro wz hz
          clear hz
          go_simp
        try simp only [List.getElem_toArray, List.getElem_cons_zero, List.getElem_cons_succ, Act.put, List.setIfInBounds_toArray, List.set_cons_zero, List.set_cons_succ]
        refine wpAnyH_take (i := 9) (oi := _) (v := .bool false) rfl (by kernel_rfl) (by kernel_rfl) (by kernel_rfl) (fun _ _ _ h => h) (Or.inl ⟨by rfl, ?_⟩) hS ?_
        · intro wz hz
          clear hz
          go_simp
        try simp only [List.getElem_toArray, List.getElem_cons_zero, List.getElem_cons_succ, Act.put, List.setIfInBounds_toArray, List.set_cons_zero, List.set_cons_succ]
        refine wpAnyH_take (i := 10) (oi := _) (v := .pointer (some ⟨wr.heap.size, 3, none⟩)) rfl (by kernel_rfl) (by kernel_rfl) (by kernel_rfl) (fun _ _ _ h => h) (Or.inl ⟨by rfl, ?_⟩) hS ?_
        · intro wz hz
          clear hz
          go_simp
        try simp only [List.getElem_toArray, List.getElem_cons_zero, List.getElem_cons_succ, Act.put, List.setIfInBounds_toArray, List.set_cons_zero, List.set_cons_succ]
        refine wpAnyH_take (i := 11) (oi := _) (v := .int .i64 (m : Int)) rfl (by kernel_rfl) (by kernel_rfl) (by kernel_rfl) (fun _ _ _ h => h) (Or.inl ⟨by rfl, ?_⟩) hS ?_
        · intro wz hz
          obtain ⟨z0, z1, z2, z3, z4, _⟩ := WM.cells hz
          clear hz
          go_simp
        try simp only [List.getElem_toArray, List.getElem_cons_zero, List.getElem_cons_succ, Act.put, List.setIfInBounds_toArray, List.set_cons_zero, List.set_cons_succ]
        refine wpAnyH_take (i := 12) (oi := _) (v := .bool false) rfl (by kernel_rfl) (by kernel_rfl) (by kernel_rfl) (fun _ _ _ h => h) (Or.inl ⟨by rfl, ?_⟩) hS ?_
        · intro wz hz
          clear hz
          go_simp
        try simp only [List.getElem_toArray, List.getElem_cons_zero, List.getElem_cons_succ, Act.put, List.setIfInBounds_toArray, List.set_cons_zero, List.set_cons_succ]
        refine wpAnyH_take (i := 13) (oi := _) (v := .bool false) rfl (by kernel_rfl) (by kernel_rfl) (by kernel_rfl) (fun _ _ _ h => h) (Or.inl ⟨by rfl, ?_⟩) hS ?_
        · intro wz hz
          clear hz
          go_simp
        try simp only [List.getElem_toArray, List.getElem_cons_zero, List.getElem_cons_succ, Act.put, List.setIfInBounds_toArray, List.set_cons_zero, List.set_cons_succ]
        refine wpAnyH_take (i := 14) (oi := _) (v := .bool false) rfl (by kernel_rfl) (by kernel_rfl) (by kernel_rfl) (fun _ _ _ h => h) (Or.inl ⟨by rfl, ?_⟩) hS ?_
        · intro wz hz
          clear hz
          go_simp
        try simp only [List.getElem_toArray, List.getElem_cons_zero, List.getElem_cons_succ, Act.put, List.setIfInBounds_toArray, List.set_cons_zero, List.set_cons_succ]
        refine wpAnyH_take (i := 15) (oi := _) (v := .int .i64 (k : Int)) rfl (by kernel_rfl) (by kernel_rfl) (by kernel_rfl) (fun _ _ _ h => h) (Or.inl ⟨by rfl, ?_⟩) hS ?_
        · intro wz hz
          clear hz
          go_simp
        try simp only [List.getElem_toArray, List.getElem_cons_zero, List.getElem_cons_succ, Act.put, List.setIfInBounds_toArray, List.set_cons_zero, List.set_cons_succ]
        refine wpAnyH_take (i := 16) (oi := _) (v := .pointer (some ⟨wr.heap.size, 3, none⟩)) rfl (by kernel_rfl) (by kernel_rfl) (by kernel_rfl) (fun _ _ _ h => h) (Or.inl ⟨by rfl, ?_⟩) hS ?_
        · intro wz hz
          clear hz
          go_simp
        try simp only [List.getElem_toArray, List.getElem_cons_zero, List.getElem_cons_succ, Act.put, List.setIfInBounds_toArray, List.set_cons_zero, List.set_cons_succ]
        refine wpAnyH_take (i := 17) (oi := _) (v := .int .i64 (m : Int)) rfl (by kernel_rfl) (by kernel_rfl) (by kernel_rfl) (fun _ _ _ h => h) (Or.inl ⟨by rfl, ?_⟩) hS ?_
        · intro wz hz
          obtain ⟨z0, z1, z2, z3, z4, _⟩ := WM.cells hz
          clear hz
          go_simp
        try simp only [List.getElem_toArray, List.getElem_cons_zero, List.getElem_cons_succ, Act.put, List.setIfInBounds_toArray, List.set_cons_zero, List.set_cons_succ]
        refine wpAnyH_take (i := 18) (oi := _) (v := .int .i64 ((k : Int) + (m : Int))) rfl (by kernel_rfl) (by kernel_rfl) (by kernel_rfl) (fun _ _ _ h => h) (Or.inl ⟨by rfl, ?_⟩) hS ?_
        · intro wz hz
          clear hz
          go_simp
        try simp only [List.getElem_toArray, List.getElem_cons_zero, List.getElem_cons_succ, Act.put, List.setIfInBounds_toArray, List.set_cons_zero, List.set_cons_succ]
        refine wpAnyH_take (i := 19) (oi := _) (v := strV l) rfl (by kernel_rfl) (by kernel_rfl) (by kernel_rfl) (fun _ _ _ h => h) (Or.inl ⟨by rfl, ?_⟩) hS ?_
        · intro wz hz
          clear hz
          go_simp
        try simp only [List.getElem_toArray, List.getElem_cons_zero, List.getElem_cons_succ, Act.put, List.setIfInBounds_toArray, List.set_cons_zero, List.set_cons_succ]
        refine wpAnyH_take (i := 20) (oi := _) (v := .int .i64 (l.length : Int)) rfl (by kernel_rfl) (by kernel_rfl) (by kernel_rfl) (fun _ _ _ h => h) (Or.inl ⟨by rfl, ?_⟩) hS ?_
        · intro wz hz
          clear hz
          go_simp
        try simp only [List.getElem_toArray, List.getElem_cons_zero, List.getElem_cons_succ, Act.put, List.setIfInBounds_toArray, List.set_cons_zero, List.set_cons_succ]
        refine wpAnyH_take (i := 21) (oi := _) (v := .bool false) rfl (by kernel_rfl) (by kernel_rfl) (by kernel_rfl) (fun _ _ _ h => h) (Or.inl ⟨by rfl, ?_⟩) hS ?_
        · intro wz hz
          clear hz
          go_simp
        try simp only [List.getElem_toArray, List.getElem_cons_zero, List.getElem_cons_succ, Act.put, List.setIfInBounds_toArray, List.set_cons_zero, List.set_cons_succ]
        refine wpAnyH_take (i := 22) (oi := _) (v := .bool false) rfl (by kernel_rfl) (by kernel_rfl) (by kernel_rfl) (fun _ _ _ h => h) (Or.inl ⟨by rfl, ?_⟩) hS ?_
        · intro wz hz
          clear hz
          go_simp
        try simp only [List.getElem_toArray, List.getElem_cons_zero, List.getElem_cons_succ, Act.put, List.setIfInBounds_toArray, List.set_cons_zero, List.set_cons_succ]
        refine wpAnyH_take (i := 23) (oi := _) (v := .bool false) rfl (by kernel_rfl) (by kernel_rfl) (by kernel_rfl) (fun _ _ _ h => h) (Or.inl ⟨by rfl, ?_⟩) hS ?_
        · intro wz hz
          clear hz
          go_simp
        try simp only [List.getElem_toArray, List.getElem_cons_zero, List.getElem_cons_succ, Act.put, List.setIfInBounds_toArray, List.set_cons_zero, List.set_cons_succ]
        refine wpAnyH_take (i := 24) (oi := _) (v := .pointer (some ⟨wr.heap.size, 1, none⟩)) rfl (by kernel_rfl) (by kernel_rfl) (by kernel_rfl) (fun _ _ _ h => h) (Or.inl ⟨by rfl, ?_⟩) hS ?_
        · intro wz hz
          clear hz
          go_simp
        try simp only [List.getElem_toArray, List.getElem_cons_zero, List.getElem_cons_succ, Act.put, List.setIfInBounds_toArray, List.set_cons_zero, List.set_cons_succ]
        refine wpAnyH_take (i := 25) (oi := _) (v := .int .i64 0) rfl (by kernel_rfl) (by kernel_rfl) (by kernel_rfl) (fun _ _ _ h => h) (Or.inl ⟨by rfl, ?_⟩) hS ?_
        · intro wz hz
          obtain ⟨z0, z1, z2, z3, z4, _⟩ := WM.cells hz
          clear hz
          go_simp
        try simp only [List.getElem_toArray, List.getElem_cons_zero, List.getElem_cons_succ, Act.put, List.setIfInBounds_toArray, List.set_cons_zero, List.set_cons_succ]
        refine wpAnyH_take (i := 26) (oi := _) (v := .bool false) rfl (by kernel_rfl) (by kernel_rfl) (by kernel_rfl) (fun _ _ _ h => h) (Or.inl ⟨by rfl, ?_⟩) hS ?_
        · intro wz hz
          clear hz
          go_simp
        try simp only [List.getElem_toArray, List.getElem_cons_zero, List.getElem_cons_succ, Act.put, List.setIfInBounds_toArray, List.set_cons_zero, List.set_cons_succ]
        refine wpAnyH_take (i := 27) (oi := _) (v := .bool false) rfl (by kernel_rfl) (by kernel_rfl) (by kernel_rfl) (fun _ _ _ h => h) (Or.inl ⟨by rfl, ?_⟩) hS ?_
        · intro wz hz
          clear hz
          go_simp
        try simp only [List.getElem_toArray, List.getElem_cons_zero, List.getElem_cons_succ, Act.put, List.setIfInBounds_toArray, List.set_cons_zero, List.set_cons_succ]
        refine wpAnyH_take (i := 28) (oi := _) (v := .bool false) rfl (by kernel_rfl) (by kernel_rfl) (by kernel_rfl) (fun _ _ _ h => h) (Or.inl ⟨by rfl, ?_⟩) hS ?_
        · intro wz hz
          clear hz
          go_simp
        try simp only [List.getElem_toArray, List.getElem_cons_zero, List.getElem_cons_succ, Act.put, List.setIfInBounds_toArray, List.set_cons_zero, List.set_cons_succ]
        refine wpAnyH_take (i := 29) (oi := _) (v := .pointer (some ⟨wr.heap.size, 4, none⟩)) rfl (by kernel_rfl) (by kernel_rfl) (by kernel_rfl) (fun _ _ _ h => h) (Or.inl ⟨by rfl, ?_⟩) hS ?_
        · intro wz hz
          clear hz
          go_simp
        try simp only [List.getElem_toArray, List.getElem_cons_zero, List.getElem_cons_succ, Act.put, List.setIfInBounds_toArray, List.set_cons_zero, List.set_cons_succ]
        refine wpAnyH_take (i := 30) (oi := _) (v := .int .u8 0) rfl (by kernel_rfl) (by kernel_rfl) (by kernel_rfl) (fun _ _ _ h => h) (Or.inl ⟨by rfl, ?_⟩) hS ?_
        · intro wz hz
          obtain ⟨z0, z1, z2, z3, z4, _⟩ := WM.cells hz
          clear hz
          go_simp
        try simp only [List.getElem_toArray, List.getElem_cons_zero, List.getElem_cons_succ, Act.put, List.setIfInBounds_toArray, List.set_cons_zero, List.set_cons_succ]
        refine wpAnyH_take (i := 31) (oi := _) (v := .bool false) rfl (by kernel_rfl) (by kernel_rfl) (by kernel_rfl) (fun _ _ _ h => h) (Or.inl ⟨by rfl, ?_⟩) hS ?_
        · intro wz hz
          clear hz
          go_simp
        try simp only [List.getElem_toArray, List.getElem_cons_zero, List.getElem_cons_succ, Act.put, List.setIfInBounds_toArray, List.set_cons_zero, List.set_cons_succ]
        refine wpAnyH_take (i := 32) (oi := _) (v := .bool false) rfl (by kernel_rfl) (by kernel_rfl) (by kernel_rfl) (fun _ _ _ h => h) (Or.inl ⟨by rfl, ?_⟩) hS ?_
        · intro wz hz
          clear hz
          go_simp
        try simp only [List.getElem_toArray, List.getElem_cons_zero, List.getElem_cons_succ, Act.put, List.setIfInBounds_toArray, List.set_cons_zero, List.set_cons_succ]
        refine wpAnyH_take (i := 33) (oi := _) (v := .bool false) rfl (by kernel_rfl) (by kernel_rfl) (by kernel_rfl) (fun _ _ _ h => h) (Or.inl ⟨by rfl, ?_⟩) hS ?_
        · intro wz hz
          clear hz
          go_simp
        try simp only [List.getElem_toArray, List.getElem_cons_zero, List.getElem_cons_succ, Act.put, List.setIfInBounds_toArray, List.set_cons_zero, List.set_cons_succ]
        refine wpAnyH_take (i := 34) (oi := _) (v := .pointer (some ⟨wr.heap.size, 0, none⟩)) rfl (by kernel_rfl) (by kernel_rfl) (by kernel_rfl) (fun _ _ _ h => h) (Or.inl ⟨by rfl, ?_⟩) hS ?_
        · intro wz hz
          clear hz
          go_simp
        try simp only [List.getElem_toArray, List.getElem_cons_zero, List.getElem_cons_succ, Act.put, List.setIfInBounds_toArray, List.set_cons_zero, List.set_cons_succ]
        refine wpAnyH_take (i := 35) (oi := _) (v := .int .i32 r) rfl (by kernel_rfl) (by kernel_rfl) (by kernel_rfl) (fun _ _ _ h => h) (Or.inl ⟨by rfl, ?_⟩) hS ?_
        · intro wz hz
          obtain ⟨z0, z1, z2, z3, z4, _⟩ := WM.cells hz
          clear hz
          go_simp
        try simp only [List.getElem_toArray, List.getElem_cons_zero, List.getElem_cons_succ, Act.put, List.setIfInBounds_toArray, List.set_cons_zero, List.set_cons_succ]
        refine wpAnyH_take (i := 36) (oi := _) (v := .bool false) rfl (by kernel_rfl) (by kernel_rfl) (by kernel_rfl) (fun _ _ _ h => h) (Or.inl ⟨by rfl, ?_⟩) hS ?_
        · intro wz hz
          clear hz
          go_simp
        try simp only [List.getElem_toArray, List.getElem_cons_zero, List.getElem_cons_succ, Act.put, List.setIfInBounds_toArray, List.set_cons_zero, List.set_cons_succ]
        refine wpAnyH_take (i := 37) (oi := _) (v := .bool false) rfl (by kernel_rfl) (by kernel_rfl) (by kernel_rfl) (fun _ _ _ h => h) (Or.inl ⟨by rfl, ?_⟩) hS ?_
        · intro wz hz
          clear hz
          go_simp
        try simp only [List.getElem_toArray, List.getElem_cons_zero, List.getElem_cons_succ, Act.put, List.setIfInBounds_toArray, List.set_cons_zero, List.set_cons_succ]
        refine wpAnyH_take (i := 38) (oi := _) (v := undef) rfl (by kernel_rfl) (by kernel_rfl) (by kernel_rfl) (fun _ _ _ h => h) (Or.inr ⟨by rfl, rfl⟩) hS ?_
        try simp only [List.getElem_toArray, List.getElem_cons_zero, List.getElem_cons_succ, Act.put, List.setIfInBounds_toArray, List.set_cons_zero, List.set_cons_succ]
        refine wpAnyH_take (i := 39) (oi := _) (v := undef) rfl (by kernel_rfl) (by kernel_rfl) (by kernel_rfl) (fun _ _ _ h => h) (Or.inr ⟨by rfl, rfl⟩) hS ?_
        try simp only [List.getElem_toArray, List.getElem_cons_zero, List.getElem_cons_succ, Act.put, List.setIfInBounds_toArray, List.set_cons_zero, List.set_cons_succ]
        refine wpAnyH_take (i := 40) (oi := _) (v := undef) rfl (by kernel_rfl) (by kernel_rfl) (by kernel_rfl) (fun _ _ _ h => h) (Or.inr ⟨by rfl, rfl⟩) hS ?_
        try simp only [List.getElem_toArray, List.getElem_cons_zero, List.getElem_cons_succ, Act.put, List.setIfInBounds_toArray, List.set_cons_zero, List.set_cons_succ]
        refine wpAnyH_take (i := 41) (oi := _) (v := undef) rfl (by kernel_rfl) (by kernel_rfl) (by kernel_rfl) (fun _ _ _ h => h) (Or.inr ⟨by rfl, rfl⟩) hS ?_
        try simp only [List.getElem_toArray, List.getElem_cons_zero, List.getElem_cons_succ, Act.put, List.setIfInBounds_toArray, List.set_cons_zero, List.set_cons_succ]
        refine wpAnyH_take (i := 42) (oi := _) (v := undef) rfl (by kernel_rfl) (by kernel_rfl) (by kernel_rfl) (fun _ _ _ h => h) (Or.inr ⟨by rfl, rfl⟩) hS ?_
        try simp only [List.getElem_toArray, List.getElem_cons_zero, List.getElem_cons_succ, Act.put, List.setIfInBounds_toArray, List.set_cons_zero, List.set_cons_succ]
        refine wpAnyH_take (i := 43) (oi := _) (v := undef) rfl (by kernel_rfl) (by kernel_rfl) (by kernel_rfl) (fun _ _ _ h => h) (Or.inr ⟨by rfl, rfl⟩) hS ?_
        try simp only [List.getElem_toArray, List.getElem_cons_zero, List.getElem_cons_succ, Act.put, List.setIfInBounds_toArray, List.set_cons_zero, List.set_cons_succ]
        refine wpAnyH_take (i := 44) (oi := _) (v := undef) rfl (by kernel_rfl) (by kernel_rfl) (by kernel_rfl) (fun _ _ _ h => h) (Or.inr ⟨by rfl, rfl⟩) hS ?_
        try simp only [List.getElem_toArray, List.getElem_cons_zero, List.getElem_cons_succ, Act.put, List.setIfInBounds_toArray, List.set_cons_zero, List.set_cons_succ]
        refine wpAnyH_take (i := 45) (oi := _) (v := undef) rfl (by kernel_rfl) (by kernel_rfl) (by kernel_rfl) (fun _ _ _ h => h) (Or.inr ⟨by rfl, rfl⟩) hS ?_
        try simp only [List.getElem_toArray, List.getElem_cons_zero, List.getElem_cons_succ, Act.put, List.setIfInBounds_toArray, List.set_cons_zero, List.set_cons_succ]
        refine wpAnyH_take (i := 46) (oi := _) (v := undef) rfl (by kernel_rfl) (by kernel_rfl) (by kernel_rfl) (fun _ _ _ h => h) (Or.inr ⟨by rfl, rfl⟩) hS ?_
        try simp only [List.getElem_toArray, List.getElem_cons_zero, List.getElem_cons_succ, Act.put, List.setIfInBounds_toArray, List.set_cons_zero, List.set_cons_succ]
        refine wpAnyH_take (i := 47) (oi := _) (v := undef) rfl (by kernel_rfl) (by kernel_rfl) (by kernel_rfl) (fun _ _ _ h => h) (Or.inr ⟨by rfl, rfl⟩) hS ?_
        try simp only [List.getElem_toArray, List.getElem_cons_zero, List.getElem_cons_succ, Act.put, List.setIfInBounds_toArray, List.set_cons_zero, List.set_cons_succ]
        refine wpAnyH_take (i := 48) (oi := _) (v := undef) rfl (by kernel_rfl) (by kernel_rfl) (by kernel_rfl) (fun _ _ _ h => h) (Or.inr ⟨by rfl, rfl⟩) hS ?_
        try simp only [List.getElem_toArray, List.getElem_cons_zero, List.getElem_cons_succ, Act.put, List.setIfInBounds_toArray, List.set_cons_zero, List.set_cons_succ]
        refine wpAnyH_take (i := 49) (oi := _) (v := undef) rfl (by kernel_rfl) (by kernel_rfl) (by kernel_rfl) (fun _ _ _ h => h) (Or.inr ⟨by rfl, rfl⟩) hS ?_
        try simp only [List.getElem_toArray, List.getElem_cons_zero, List.getElem_cons_succ, Act.put, List.setIfInBounds_toArray, List.set_cons_zero, List.set_cons_succ]
        refine wpAnyH_take (i := 50) (oi := _) (v := .bool false) rfl (by kernel_rfl) (by kernel_rfl) (by kernel_rfl) (fun _ _ _ h => h) (Or.inl ⟨by rfl, ?_⟩) hS ?_
        · intro wz hz
          clear hz
          go_simp
        try simp only [List.getElem_toArray, List.getElem_cons_zero, List.getElem_cons_succ, Act.put, List.setIfInBounds_toArray, List.set_cons_zero, List.set_cons_succ]
        refine wpAnyH_take (i := 51) (oi := _) (v := .bool false) rfl (by kernel_rfl) (by kernel_rfl) (by kernel_rfl) (fun _ _ _ h => h) (Or.inl ⟨by rfl, ?_⟩) hS ?_
        · intro wz hz
          clear hz
          go_simp
        try simp only [List.getElem_toArray, List.getElem_cons_zero, List.getElem_cons_succ, Act.put, List.setIfInBounds_toArray, List.set_cons_zero, List.set_cons_succ]
        refine wpAnyH_done (by kernel_rfl) ?_ _
        generalize (wr.alloc (.cells (ce5 r k m) 32)).drew = v1 at hS ⊢
        obtain ⟨z0, z1, z2, z3, z4, hM⟩ := WM.cells hS
        have HQ := Lib.hid hM
        clear hM hS
        have hown := HQ.out.l.own
        rw [HLP.out] at hown
        go_wp2_with (at_builtin; refine wpList_append_own _ rfl (.tmp 80) (.tmp 83) 28 rfl w1.heap.size 21 i0 (.int .i32 0) 1 4 Tryd.underlying28 hi hz0 hz1 hz2 rfl (by decide) (.slice A2 i c2) _ _ rfl (hown.alloc _) ⟨_, 0, none⟩ 1 1 [.int .i32 r] rfl rfl (cell_one_new _ _ _) (by simp [Value.oneCell']) ?c4 ?c5 ?c6 ?_)
        case c4 => unfold maxLen; omega
        case c5 => omega
        case c6 => have := HQ.out.l.lt; simp only [World.size_alloc]; omega
        intro v' w7 hown' hg _
        obtain ⟨A', c', rfl⟩ := own_shape hown'
        rw [← HLP.out] at hown' hg
        have hW7 := Lib.hid (HQ.out.l.app hown' hg)
        rw [HLP.out] at hown'
        go_wp2
        go_roundw
        case rel => exact ⟨k + m, pre ++ [Ch.mk r k m ok], A', c', by go_num, by simp [HI.out], by simp [HI.out, HLP.out], by omega, by simp [HI.out]; omega, HS1, Lib.hid (by rw [HCe.out, List.map_append, HPS.out]; exact hW7.out)⟩
        case measure => simp [intOf]; omega
      · have g1 : (r != 65533) = true := by simpa using g
        have hx := HOW.out g
        clear g
        go_wp2_with (fail)
        refine wp_region_held_drew (S := fun V => WM w w1.heap.size (some ad) n cells A2 c2 ps wr.heap.size (ce5 r k m) V) (by kernel_rfl) (HM.out.keep (Below.refl _ _).drew) (fun hS => ?_)
        refine wpAnyH_take (i := 0) (oi := _) (v := .pointer (some ⟨wr.heap.size, 2, none⟩)) rfl (by kernel_rfl) (by kernel_rfl) (by kernel_rfl) (fun _ _ _ h => h) (Or.inl ⟨by rfl, ?_⟩) hS ?_
        · intro wz hz
          clear hz
          go_simp
        try simp only [List.getElem_toArray, List.getElem_cons_zero, List.getElem_cons_succ, Act.put, List.setIfInBounds_toArray, List.set_cons_zero, List.set_cons_succ]
        refine wpAnyH_take (i := 1) (oi := _) (v := .int .i64 (k : Int)) rfl (by kernel_rfl) (by kernel_rfl) (by kernel_rfl) (fun _ _ _ h => h) (Or.inl ⟨by rfl, ?_⟩) hS ?_
        · intro wz hz
          obtain ⟨z0, z1, z2, z3, z4, _⟩ := WM.cells hz
          clear hz
          go_simp
        try simp only [List.getElem_toArray, List.getElem_cons_zero, List.getElem_cons_succ, Act.put, List.setIfInBounds_toArray, List.set_cons_zero, List.set_cons_succ]
        refine wpAnyH_take (i := 2) (oi := _) (v := .int .i64 (k : Int)) rfl (by kernel_rfl) (by kernel_rfl) (by kernel_rfl) (fun _ _ _ h => h) (Or.inl ⟨by rfl, ?_⟩) hS ?_
        · intro wz hz
          clear hz
          go_simp
        try simp only [List.getElem_toArray, List.getElem_cons_zero, List.getElem_cons_succ, Act.put, List.setIfInBounds_toArray, List.set_cons_zero, List.set_cons_succ]
        refine wpAnyH_take (i := 3) (oi := _) (v := .bool false) rfl (by kernel_rfl) (by kernel_rfl) (by kernel_rfl) (fun _ _ _ h => h) (Or.inl ⟨by rfl, ?_⟩) hS ?_
        · intro wz hz
          clear hz
          go_simp
        try simp only [List.getElem_toArray, List.getElem_cons_zero, List.getElem_cons_succ, Act.put, List.setIfInBounds_toArray, List.set_cons_zero, List.set_cons_succ]
        refine wpAnyH_take (i := 4) (oi := _) (v := .bool false) rfl (by kernel_rfl) (by kernel_rfl) (by kernel_rfl) (fun _ _ _ h => h) (Or.inl ⟨by rfl, ?_⟩) hS ?_
        · intro wz hz
          clear hz
          go_simp
        try simp only [List.getElem_toArray, List.getElem_cons_zero, List.getElem_cons_succ, Act.put, List.setIfInBounds_toArray, List.set_cons_zero, List.set_cons_succ]
        refine wpAnyH_take (i := 5) (oi := _) (v := .pointer (some ⟨wr.heap.size, 3, none⟩)) rfl (by kernel_rfl) (by kernel_rfl) (by kernel_rfl) (fun _ _ _ h => h) (Or.inl ⟨by rfl, ?_⟩) hS ?_
        · intro wz hz
          clear hz
          go_simp
        try simp only [List.getElem_toArray, List.getElem_cons_zero, List.getElem_cons_succ, Act.put, List.setIfInBounds_toArray, List.set_cons_zero, List.set_cons_succ]
        refine wpAnyH_take (i := 6) (oi := _) (v := .int .i64 (m : Int)) rfl (by kernel_rfl) (by kernel_rfl) (by kernel_rfl) (fun _ _ _ h => h) (Or.inl ⟨by rfl, ?_⟩) hS ?_
        · intro wz hz
          obtain ⟨z0, z1, z2, z3, z4, _⟩ := WM.cells hz
          clear hz
          go_simp
        try simp only [List.getElem_toArray, List.getElem_cons_zero, List.getElem_cons_succ, Act.put, List.setIfInBounds_toArray, List.set_cons_zero, List.set_cons_succ]
        refine wpAnyH_take (i := 7) (oi := _) (v := .bool false) rfl (by kernel_rfl) (by kernel_rfl) (by kernel_rfl) (fun _ _ _ h => h) (Or.inl ⟨by rfl, ?_⟩) hS ?_
        · intro wz hz
          clear hz
          go_simp
        try simp only [List.getElem_toArray, List.getElem_cons_zero, List.getElem_cons_succ, Act.put, List.setIfInBounds_toArray, List.set_cons_zero, List.set_cons_succ]
        refine wpAnyH_take (i := 8) (oi := _) (v := .bool false) rfl (by kernel_rfl) (by kernel_rfl) (by kernel_rfl) (fun _ _ _ h => h) (Or.inl ⟨by rfl, ?_⟩) hS ?_
        · intro wz hz
          clear hz
          go_simp
        try simp only [List.getElem_toArray, List.getElem_cons_zero, List.getElem_cons_succ, Act.put, List.setIfInBounds_toArray, List.set_cons_zero, List.set_cons_succ]
        refine wpAnyH_take (i := 9) (oi := _) (v := .bool false) rfl (by kernel_rfl) (by kernel_rfl) (by kernel_rfl) (fun _ _ _ h => h) (Or.inl ⟨by rfl, ?_⟩) hS ?_
        · intro wz hz
          clear hz
          go_simp
        try simp only [List.getElem_toArray, List.getElem_cons_zero, List.getElem_cons_succ, Act.put, List.setIfInBounds_toArray, List.set_cons_zero, List.set_cons_succ]
        refine wpAnyH_take (i := 10) (oi := _) (v := .pointer (some ⟨wr.heap.size, 3, none⟩)) rfl (by kernel_rfl) (by kernel_rfl) (by kernel_rfl) (fun _ _ _ h => h) (Or.inl ⟨by rfl, ?_⟩) hS ?_
        · intro wz hz
          clear hz
          go_simp
        try simp only [List.getElem_toArray, List.getElem_cons_zero, List.getElem_cons_succ, Act.put, List.setIfInBounds_toArray, List.set_cons_zero, List.set_cons_succ]
        refine wpAnyH_take (i := 11) (oi := _) (v := .int .i64 (m : Int)) rfl (by kernel_rfl) (by kernel_rfl) (by kernel_rfl) (fun _ _ _ h => h) (Or.inl ⟨by rfl, ?_⟩) hS ?_
        · intro wz hz
          obtain ⟨z0, z1, z2, z3, z4, _⟩ := WM.cells hz
          clear hz
          go_simp
        try simp only [List.getElem_toArray, List.getElem_cons_zero, List.getElem_cons_succ, Act.put, List.setIfInBounds_toArray, List.set_cons_zero, List.set_cons_succ]
        refine wpAnyH_take (i := 12) (oi := _) (v := .bool false) rfl (by kernel_rfl) (by kernel_rfl) (by kernel_rfl) (fun _ _ _ h => h) (Or.inl ⟨by rfl, ?_⟩) hS ?_
        · intro wz hz
          clear hz
          go_simp
        try simp only [List.getElem_toArray, List.getElem_cons_zero, List.getElem_cons_succ, Act.put, List.setIfInBounds_toArray, List.set_cons_zero, List.set_cons_succ]
        refine wpAnyH_take (i := 13) (oi := _) (v := .bool false) rfl (by kernel_rfl) (by kernel_rfl) (by kernel_rfl) (fun _ _ _ h => h) (Or.inl ⟨by rfl, ?_⟩) hS ?_
        · intro wz hz
          clear hz
          go_simp
        try simp only [List.getElem_toArray, List.getElem_cons_zero, List.getElem_cons_succ, Act.put, List.setIfInBounds_toArray, List.set_cons_zero, List.set_cons_succ]
        refine wpAnyH_take (i := 14) (oi := _) (v := .bool false) rfl (by kernel_rfl) (by kernel_rfl) (by kernel_rfl) (fun _ _ _ h => h) (Or.inl ⟨by rfl, ?_⟩) hS ?_
        · intro wz hz
          clear hz
          go_simp
        try simp only [List.getElem_toArray, List.getElem_cons_zero, List.getElem_cons_succ, Act.put, List.setIfInBounds_toArray, List.set_cons_zero, List.set_cons_succ]
        refine wpAnyH_take (i := 15) (oi := _) (v := .int .i64 (k : Int)) rfl (by kernel_rfl) (by kernel_rfl) (by kernel_rfl) (fun _ _ _ h => h) (Or.inl ⟨by rfl, ?_⟩) hS ?_
        · intro wz hz
          clear hz
          go_simp
        try simp only [List.getElem_toArray, List.getElem_cons_zero, List.getElem_cons_succ, Act.put, List.setIfInBounds_toArray, List.set_cons_zero, List.set_cons_succ]
        refine wpAnyH_take (i := 16) (oi := _) (v := .pointer (some ⟨wr.heap.size, 3, none⟩)) rfl (by kernel_rfl) (by kernel_rfl) (by kernel_rfl) (fun _ _ _ h => h) (Or.inl ⟨by rfl, ?_⟩) hS ?_
        · intro wz hz
          clear hz
          go_simp
        try simp only [List.getElem_toArray, List.getElem_cons_zero, List.getElem_cons_succ, Act.put, List.setIfInBounds_toArray, List.set_cons_zero, List.set_cons_succ]
        refine wpAnyH_take (i := 17) (oi := _) (v := .int .i64 (m : Int)) rfl (by kernel_rfl) (by kernel_rfl) (by kernel_rfl) (fun _ _ _ h => h) (Or.inl ⟨by rfl, ?_⟩) hS ?_
        · intro wz hz
          obtain ⟨z0, z1, z2, z3, z4, _⟩ := WM.cells hz
          clear hz
          go_simp
        try simp only [List.getElem_toArray, List.getElem_cons_zero, List.getElem_cons_succ, Act.put, List.setIfInBounds_toArray, List.set_cons_zero, List.set_cons_succ]
        refine wpAnyH_take (i := 18) (oi := _) (v := .int .i64 ((k : Int) + (m : Int))) rfl (by kernel_rfl) (by kernel_rfl) (by kernel_rfl) (fun _ _ _ h => h) (Or.inl ⟨by rfl, ?_⟩) hS ?_
        · intro wz hz
          clear hz
          go_simp
        try simp only [List.getElem_toArray, List.getElem_cons_zero, List.getElem_cons_succ, Act.put, List.setIfInBounds_toArray, List.set_cons_zero, List.set_cons_succ]
        refine wpAnyH_take (i := 19) (oi := _) (v := strV l) rfl (by kernel_rfl) (by kernel_rfl) (by kernel_rfl) (fun _ _ _ h => h) (Or.inl ⟨by rfl, ?_⟩) hS ?_
        · intro wz hz
          clear hz
          go_simp
        try simp only [List.getElem_toArray, List.getElem_cons_zero, List.getElem_cons_succ, Act.put, List.setIfInBounds_toArray, List.set_cons_zero, List.set_cons_succ]
        refine wpAnyH_take (i := 20) (oi := _) (v := .int .i64 (l.length : Int)) rfl (by kernel_rfl) (by kernel_rfl) (by kernel_rfl) (fun _ _ _ h => h) (Or.inl ⟨by rfl, ?_⟩) hS ?_
        · intro wz hz
          clear hz
          go_simp
        try simp only [List.getElem_toArray, List.getElem_cons_zero, List.getElem_cons_succ, Act.put, List.setIfInBounds_toArray, List.set_cons_zero, List.set_cons_succ]
        refine wpAnyH_take (i := 21) (oi := _) (v := .bool false) rfl (by kernel_rfl) (by kernel_rfl) (by kernel_rfl) (fun _ _ _ h => h) (Or.inl ⟨by rfl, ?_⟩) hS ?_
        · intro wz hz
          clear hz
          go_simp
        try simp only [List.getElem_toArray, List.getElem_cons_zero, List.getElem_cons_succ, Act.put, List.setIfInBounds_toArray, List.set_cons_zero, List.set_cons_succ]
        refine wpAnyH_take (i := 22) (oi := _) (v := .bool false) rfl (by kernel_rfl) (by kernel_rfl) (by kernel_rfl) (fun _ _ _ h => h) (Or.inl ⟨by rfl, ?_⟩) hS ?_
        · intro wz hz
          clear hz
          go_simp
        try simp only [List.getElem_toArray, List.getElem_cons_zero, List.getElem_cons_succ, Act.put, List.setIfInBounds_toArray, List.set_cons_zero, List.set_cons_succ]
        refine wpAnyH_take (i := 23) (oi := _) (v := .bool false) rfl (by kernel_rfl) (by kernel_rfl) (by kernel_rfl) (fun _ _ _ h => h) (Or.inl ⟨by rfl, ?_⟩) hS ?_
        · intro wz hz
          clear hz
          go_simp
        try simp only [List.getElem_toArray, List.getElem_cons_zero, List.getElem_cons_succ, Act.put, List.setIfInBounds_toArray, List.set_cons_zero, List.set_cons_succ]
        refine wpAnyH_take (i := 24) (oi := _) (v := .pointer (some ⟨wr.heap.size, 1, none⟩)) rfl (by kernel_rfl) (by kernel_rfl) (by kernel_rfl) (fun _ _ _ h => h) (Or.inl ⟨by rfl, ?_⟩) hS ?_
        · intro wz hz
          clear hz
          go_simp
        try simp only [List.getElem_toArray, List.getElem_cons_zero, List.getElem_cons_succ, Act.put, List.setIfInBounds_toArray, List.set_cons_zero, List.set_cons_succ]
        refine wpAnyH_take (i := 25) (oi := _) (v := .int .i64 0) rfl (by kernel_rfl) (by kernel_rfl) (by kernel_rfl) (fun _ _ _ h => h) (Or.inl ⟨by rfl, ?_⟩) hS ?_
        · intro wz hz
          obtain ⟨z0, z1, z2, z3, z4, _⟩ := WM.cells hz
          clear hz
          go_simp
        try simp only [List.getElem_toArray, List.getElem_cons_zero, List.getElem_cons_succ, Act.put, List.setIfInBounds_toArray, List.set_cons_zero, List.set_cons_succ]
        refine wpAnyH_take (i := 26) (oi := _) (v := .bool false) rfl (by kernel_rfl) (by kernel_rfl) (by kernel_rfl) (fun _ _ _ h => h) (Or.inl ⟨by rfl, ?_⟩) hS ?_
        · intro wz hz
          clear hz
          go_simp
        try simp only [List.getElem_toArray, List.getElem_cons_zero, List.getElem_cons_succ, Act.put, List.setIfInBounds_toArray, List.set_cons_zero, List.set_cons_succ]
        refine wpAnyH_take (i := 27) (oi := _) (v := .bool false) rfl (by kernel_rfl) (by kernel_rfl) (by kernel_rfl) (fun _ _ _ h => h) (Or.inl ⟨by rfl, ?_⟩) hS ?_
        · intro wz hz
          clear hz
          go_simp
        try simp only [List.getElem_toArray, List.getElem_cons_zero, List.getElem_cons_succ, Act.put, List.setIfInBounds_toArray, List.set_cons_zero, List.set_cons_succ]
        refine wpAnyH_take (i := 28) (oi := _) (v := .bool false) rfl (by kernel_rfl) (by kernel_rfl) (by kernel_rfl) (fun _ _ _ h => h) (Or.inl ⟨by rfl, ?_⟩) hS ?_
        · intro wz hz
          clear hz
          go_simp
        try simp only [List.getElem_toArray, List.getElem_cons_zero, List.getElem_cons_succ, Act.put, List.setIfInBounds_toArray, List.set_cons_zero, List.set_cons_succ]
        refine wpAnyH_take (i := 29) (oi := _) (v := .pointer (some ⟨wr.heap.size, 4, none⟩)) rfl (by kernel_rfl) (by kernel_rfl) (by kernel_rfl) (fun _ _ _ h => h) (Or.inl ⟨by rfl, ?_⟩) hS ?_
        · intro wz hz
          clear hz
          go_simp
        try simp only [List.getElem_toArray, List.getElem_cons_zero, List.getElem_cons_succ, Act.put, List.setIfInBounds_toArray, List.set_cons_zero, List.set_cons_succ]
        refine wpAnyH_take (i := 30) (oi := _) (v := .int .u8 0) rfl (by kernel_rfl) (by kernel_rfl) (by kernel_rfl) (fun _ _ _ h => h) (Or.inl ⟨by rfl, ?_⟩) hS ?_
        · intro wz hz
          obtain ⟨z0, z1, z2, z3, z4, _⟩ := WM.cells hz
          clear hz
          go_simp
        try simp only [List.getElem_toArray, List.getElem_cons_zero, List.getElem_cons_succ, Act.put, List.setIfInBounds_toArray, List.set_cons_zero, List.set_cons_succ]
        refine wpAnyH_take (i := 31) (oi := _) (v := .bool false) rfl (by kernel_rfl) (by kernel_rfl) (by kernel_rfl) (fun _ _ _ h => h) (Or.inl ⟨by rfl, ?_⟩) hS ?_
        · intro wz hz
          clear hz
          go_simp
        try simp only [List.getElem_toArray, List.getElem_cons_zero, List.getElem_cons_succ, Act.put, List.setIfInBounds_toArray, List.set_cons_zero, List.set_cons_succ]
        refine wpAnyH_take (i := 32) (oi := _) (v := .bool false) rfl (by kernel_rfl) (by kernel_rfl) (by kernel_rfl) (fun _ _ _ h => h) (Or.inl ⟨by rfl, ?_⟩) hS ?_
        · intro wz hz
          clear hz
          go_simp
        try simp only [List.getElem_toArray, List.getElem_cons_zero, List.getElem_cons_succ, Act.put, List.setIfInBounds_toArray, List.set_cons_zero, List.set_cons_succ]
        refine wpAnyH_take (i := 33) (oi := _) (v := .bool false) rfl (by kernel_rfl) (by kernel_rfl) (by kernel_rfl) (fun _ _ _ h => h) (Or.inl ⟨by rfl, ?_⟩) hS ?_
        · intro wz hz
          clear hz
          go_simp
        try simp only [List.getElem_toArray, List.getElem_cons_zero, List.getElem_cons_succ, Act.put, List.setIfInBounds_toArray, List.set_cons_zero, List.set_cons_succ]
        refine wpAnyH_take (i := 34) (oi := _) (v := .pointer (some ⟨wr.heap.size, 0, none⟩)) rfl (by kernel_rfl) (by kernel_rfl) (by kernel_rfl) (fun _ _ _ h => h) (Or.inl ⟨by rfl, ?_⟩) hS ?_
        · intro wz hz
          clear hz
          go_simp
        try simp only [List.getElem_toArray, List.getElem_cons_zero, List.getElem_cons_succ, Act.put, List.setIfInBounds_toArray, List.set_cons_zero, List.set_cons_succ]
        refine wpAnyH_take (i := 35) (oi := _) (v := .int .i32 r) rfl (by kernel_rfl) (by kernel_rfl) (by kernel_rfl) (fun _ _ _ h => h) (Or.inl ⟨by rfl, ?_⟩) hS ?_
        · intro wz hz
          obtain ⟨z0, z1, z2, z3, z4, _⟩ := WM.cells hz
          clear hz
          go_simp
        try simp only [List.getElem_toArray, List.getElem_cons_zero, List.getElem_cons_succ, Act.put, List.setIfInBounds_toArray, List.set_cons_zero, List.set_cons_succ]
        refine wpAnyH_take (i := 36) (oi := _) (v := .bool true) rfl (by kernel_rfl) (by kernel_rfl) (by kernel_rfl) (fun _ _ _ h => h) (Or.inl ⟨by rfl, ?_⟩) hS ?_
        · intro wz hz
          clear hz
          go_simp
        try simp only [List.getElem_toArray, List.getElem_cons_zero, List.getElem_cons_succ, Act.put, List.setIfInBounds_toArray, List.set_cons_zero, List.set_cons_succ]
        refine wpAnyH_take (i := 37) (oi := _) (v := .bool true) rfl (by kernel_rfl) (by kernel_rfl) (by kernel_rfl) (fun _ _ _ h => h) (Or.inl ⟨by rfl, ?_⟩) hS ?_
        · intro wz hz
          clear hz
          go_simp
        try simp only [List.getElem_toArray, List.getElem_cons_zero, List.getElem_cons_succ, Act.put, List.setIfInBounds_toArray, List.set_cons_zero, List.set_cons_succ]
        refine wpAnyH_take (i := 38) (oi := _) (v := .pointer (some ⟨wr.heap.size, 0, none⟩)) rfl (by kernel_rfl) (by kernel_rfl) (by kernel_rfl) (fun _ _ _ h => h) (Or.inl ⟨by rfl, ?_⟩) hS ?_
        · intro wz hz
          clear hz
          go_simp
        try simp only [List.getElem_toArray, List.getElem_cons_zero, List.getElem_cons_succ, Act.put, List.setIfInBounds_toArray, List.set_cons_zero, List.set_cons_succ]
        refine wpAnyH_take (i := 39) (oi := _) (v := .int .i32 r) rfl (by kernel_rfl) (by kernel_rfl) (by kernel_rfl) (fun _ _ _ h => h) (Or.inl ⟨by rfl, ?_⟩) hS ?_
        · intro wz hz
          obtain ⟨z0, z1, z2, z3, z4, _⟩ := WM.cells hz
          clear hz
          go_simp
        try simp only [List.getElem_toArray, List.getElem_cons_zero, List.getElem_cons_succ, Act.put, List.setIfInBounds_toArray, List.set_cons_zero, List.set_cons_succ]
        refine wpAnyH_take (i := 42) (oi := _) (v := strV l) rfl (by kernel_rfl) (by kernel_rfl) (by kernel_rfl) (fun _ _ _ h => h) (Or.inl ⟨by rfl, ?_⟩) hS ?_
        · intro wz hz
          clear hz
          go_simp
        try simp only [List.getElem_toArray, List.getElem_cons_zero, List.getElem_cons_succ, Act.put, List.setIfInBounds_toArray, List.set_cons_zero, List.set_cons_succ]
        refine wpAnyH_take (i := 43) (oi := _) (v := .int .i64 (k : Int)) rfl (by kernel_rfl) (by kernel_rfl) (by kernel_rfl) (fun _ _ _ h => h) (Or.inl ⟨by rfl, ?_⟩) hS ?_
        · intro wz hz
          clear hz
          go_simp
        try simp only [List.getElem_toArray, List.getElem_cons_zero, List.getElem_cons_succ, Act.put, List.setIfInBounds_toArray, List.set_cons_zero, List.set_cons_succ]
        refine wpAnyH_take (i := 44) (oi := _) (v := .int .i64 (k : Int)) rfl (by kernel_rfl) (by kernel_rfl) (by kernel_rfl) (fun _ _ _ h => h) (Or.inl ⟨by rfl, ?_⟩) hS ?_
        · intro wz hz
          clear hz
          go_simp
        try simp only [List.getElem_toArray, List.getElem_cons_zero, List.getElem_cons_succ, Act.put, List.setIfInBounds_toArray, List.set_cons_zero, List.set_cons_succ]
        refine wpAnyH_take (i := 45) (oi := _) (v := .pointer (some ⟨wr.heap.size, 3, none⟩)) rfl (by kernel_rfl) (by kernel_rfl) (by kernel_rfl) (fun _ _ _ h => h) (Or.inl ⟨by rfl, ?_⟩) hS ?_
        · intro wz hz
          clear hz
          go_simp
        try simp only [List.getElem_toArray, List.getElem_cons_zero, List.getElem_cons_succ, Act.put, List.setIfInBounds_toArray, List.set_cons_zero, List.set_cons_succ]
        refine wpAnyH_take (i := 46) (oi := _) (v := .int .i64 (m : Int)) rfl (by kernel_rfl) (by kernel_rfl) (by kernel_rfl) (fun _ _ _ h => h) (Or.inl ⟨by rfl, ?_⟩) hS ?_
        · intro wz hz
          obtain ⟨z0, z1, z2, z3, z4, _⟩ := WM.cells hz
          clear hz
          go_simp
        try simp only [List.getElem_toArray, List.getElem_cons_zero, List.getElem_cons_succ, Act.put, List.setIfInBounds_toArray, List.set_cons_zero, List.set_cons_succ]
        refine wpAnyH_take (i := 47) (oi := _) (v := .int .i64 ((k : Int) + (m : Int))) rfl (by kernel_rfl) (by kernel_rfl) (by kernel_rfl) (fun _ _ _ h => h) (Or.inl ⟨by rfl, ?_⟩) hS ?_
        · intro wz hz
          clear hz
          go_simp
        try simp only [List.getElem_toArray, List.getElem_cons_zero, List.getElem_cons_succ, Act.put, List.setIfInBounds_toArray, List.set_cons_zero, List.set_cons_succ]
        refine wpAnyH_take (i := 48) (oi := _) (v := strV ((l.drop k).take m)) rfl (by kernel_rfl) (by kernel_rfl) (by kernel_rfl) (fun _ _ _ h => h) (Or.inl ⟨by rfl, ?_⟩) hS ?_
        · intro wz hz
          clear hz
          go_simp
        try simp only [List.getElem_toArray, List.getElem_cons_zero, List.getElem_cons_succ, Act.put, List.setIfInBounds_toArray, List.set_cons_zero, List.set_cons_succ]
        refine wpAnyH_ready (rs := [40]) (by kernel_rfl) (by simp) ?_
        refine AllReadyH.cons rfl (fun K hK => ?_) ?_
        · skip
          rw [if_pos (by rfl)]
          go_simp
          refine hK.out _ _ (hS.keep (bel_alloc (Below.refl _ _) _)) (fun hS => ?_)
          clear hK K
          try simp only [List.getElem_toArray, List.getElem_cons_zero, List.getElem_cons_succ, Act.put, List.setIfInBounds_toArray, List.set_cons_zero, List.set_cons_succ]
          refine wpAnyH_ready (rs := [41]) (by kernel_rfl) (by simp) ?_
          refine AllReadyH.cons rfl (fun K hK => ?_) ?_
          · skip
            rw [if_pos (by rfl)]
            go_simp
            (with_reducible refine (HEn.out _ _ _ HRs hx).mono ?_)
            rintro e v1 ⟨rfl, hb2⟩
            refine hK.out _ _ (hS.keep hb2) (fun hS => ?_)
            clear hK K
            try simp only [List.getElem_toArray, List.getElem_cons_zero, List.getElem_cons_succ, Act.put, List.setIfInBounds_toArray, List.set_cons_zero, List.set_cons_succ]
            refine wpAnyH_take (i := 49) (oi := _) (v := .bool false) rfl (by kernel_rfl) (by kernel_rfl) (by kernel_rfl) (fun _ _ _ h => h) (Or.inl ⟨by rfl, ?_⟩) hS ?_
            · intro wz hz
              clear hz
              go_simp
            try simp only [List.getElem_toArray, List.getElem_cons_zero, List.getElem_cons_succ, Act.put, List.setIfInBounds_toArray, List.set_cons_zero, List.set_cons_succ]
            refine wpAnyH_take (i := 50) (oi := _) (v := .bool false) rfl (by kernel_rfl) (by kernel_rfl) (by kernel_rfl) (fun _ _ _ h => h) (Or.inl ⟨by rfl, ?_⟩) hS ?_
            · intro wz hz
              clear hz
              go_simp
            try simp only [List.getElem_toArray, List.getElem_cons_zero, List.getElem_cons_succ, Act.put, List.setIfInBounds_toArray, List.set_cons_zero, List.set_cons_succ]
            refine wpAnyH_take (i := 51) (oi := _) (v := .bool false) rfl (by kernel_rfl) (by kernel_rfl) (by kernel_rfl) (fun _ _ _ h => h) (Or.inl ⟨by rfl, ?_⟩) hS ?_
            · intro wz hz
              clear hz
              go_simp
            try simp only [List.getElem_toArray, List.getElem_cons_zero, List.getElem_cons_succ, Act.put, List.setIfInBounds_toArray, List.set_cons_zero, List.set_cons_succ]
            refine wpAnyH_done (by kernel_rfl) ?_ _
            obtain ⟨z0, z1, z2, z3, z4, hM⟩ := WM.cells hS
            have HQ := Lib.hid hM
            clear hM hS
            have hown := HQ.out.l.own
            rw [HLP.out] at hown
            go_wp2_with (at_builtin; refine wpList_append_own _ rfl (.tmp 80) (.tmp 83) 28 rfl w1.heap.size 21 i0 (.int .i32 0) 1 4 Tryd.underlying28 hi hz0 hz1 hz2 rfl (by decide) (.slice A2 i c2) _ _ rfl (hown.alloc _) ⟨_, 0, none⟩ 1 1 [.int .i32 r] rfl rfl (cell_one_new _ _ _) (by simp [Value.oneCell']) ?c4 ?c5 ?c6 ?_)
            case c4 => unfold maxLen; omega
            case c5 => omega
            case c6 => have := HQ.out.l.lt; simp only [World.size_alloc]; omega
            intro v' w7 hown' hg _
            obtain ⟨A', c', rfl⟩ := own_shape hown'
            rw [← HLP.out] at hown' hg
            have hW7 := Lib.hid (HQ.out.l.app hown' hg)
            rw [HLP.out] at hown'
            go_wp2
            go_roundw
            case rel => exact ⟨k + m, pre ++ [Ch.mk r k m ok], A', c', by go_num, by simp [HI.out], by simp [HI.out, HLP.out], by omega, by simp [HI.out]; omega, HS1, Lib.hid (by rw [HCe.out, List.map_append, HPS.out]; exact hW7.out)⟩
            case measure => simp [intOf]; omega
          exact AllReadyH.nil
        exact AllReadyH.nil
    · obtain rfl : i = n := by omega
      have hpre : pre = chs l 0 := by
        have h := HP.out
        have h2 := congrArg List.length h
        rw [HN.out, List.length_append, hil] at h2
        rw [List.eq_nil_of_length_eq_zero (by omega : (chs (l.drop k) k).length = 0), List.append_nil] at h
        exact h.symm
      have hkl : k = l.length := by
        rcases Nat.lt_or_ge k l.length with h | h
        · have h1 := HP.out
          have hne : l.drop k ≠ [] := by
            intro g
            have := congrArg List.length g
            rw [List.length_drop, List.length_nil] at this
            omega
          rw [chs_cons hne, hpre] at h1
          have := congrArg List.length h1
          rw [List.length_append, List.length_cons] at this
          omega
        · omega
      have HEn := Lib.hid (fun (W : World) (hr : Reads W W.heap.size 1 A2 i ((pre.map (·.r)).map (Value.int .i32))) => DE.out A2 c2 i (pre.map (·.r)) (by omega) (by rw [List.length_map, hil]) (fun x hx => by
        rw [hpre] at hx
        have := points_of l 0 x hx
        unfold isPoint at this
        omega) W hr)
      have hown := WR.out.own
      rw [List.length_map, hil] at hown
      have HRd := Lib.hid (own_reads hown)
      have HTb := Lib.hid WR.out.tabs
      have HBe := Lib.hid WR.out.bel
      have HV := Lib.hid (eqs_iff (encL (pre.map (·.r))) l (allOk (chs l 0)) (by rw [hpre]; exact whole_iff l 0))
      have HV2 := HV.out
      have HV3 : (encL (pre.map (·.r)) == l) = allOk (chs l 0) := by
        have h := whole_iff l 0
        rw [← hpre] at h ⊢
        cases hb : (encL (pre.map (·.r)) == l) with
        | true => exact (h.1 (by simpa using hb)).symm
        | false =>
          cases ha : allOk pre with
          | false => rfl
          | true => rw [h.2 ha] at hb; simp at hb
      generalize allOk (chs l 0) = ok at D4 HV2 HV3
      have OO : (ok == ok) = true := by simp
      have KK : ((k : Int) == (l.length : Int)) = true := by simp; omega
      have KN : (k == l.length) = true := by simp; omega
      rw [hil]
      clear HV hown hpre hil HP WR HI hkl
      go_wp2_with (first
        | (go_at_call 16; (with_reducible refine (HEn.out _ HRd.out).mono ?_); rintro e v1 ⟨rfl, b1⟩; have HT1 := Lib.hid (HTb.out.below b1); have HB1 := Lib.hid (bel_trans HBe.out b1); clear b1)
        | (go_at_call 14; (with_reducible refine (D4.out _ HT1.out).mono ?_); rintro e v2 ⟨rfl, b2⟩; have HT2 := Lib.hid (HT1.out.below b2); have HB2 := Lib.hid (bel_trans HB1.out b2); clear b2)
        | (go_at_call 9; (with_reducible refine (HH.out _ HT2.out).mono ?_); rintro e v3 ⟨rfl, b3⟩; have HB3 := Lib.hid (bel_trans HB2.out b3); clear b3))
      go_ret
      exact ⟨rfl, HB3.out⟩
theorem UtfWhole_any (l : List UInt8) (hm : l.length ≤ 140737488351232) (w : World) (hT : Tabs w) :
    Calls Tryd.prog 5 #[strV l] w fun e w' => e = .returned (.bool true) ∧ Below w.heap.size w w' := by
  by_cases h : l.length ≤ 5000
  · exact UtfWhole_in l h w hT
  · have gl : (⟨l.toArray⟩ : ByteArray).size = l.length := rfl
    have q1 : decide ((5000 : Int) < (l.length : Int)) = true := decide_eq_true (by omega)
    have q2 : 5000 < l.length := by omega
    have HH := Lib.hid (fun (W : World) (h : Tabs W) => head_any W h h.three)
    have T0 := Lib.hid hT
    clear hT hm h
    go_enter Tryd.func5, Tryd.ntmps5
    go_wp2_with (go_at_call 9; (with_reducible refine (HH.out _ T0.out).mono ?_); rintro e w7 ⟨rfl, b7⟩; have B7 := Lib.hid b7; clear b7)
    go_ret
    exact ⟨rfl, B7.out⟩
theorem UtfWhole_row (s : ByteArray) (hm : s.size ≤ 140737488351232) (w : World) (hL : laidMetH Tryd.prog laidU w) :
    Calls Tryd.prog 5 #[.string s] w fun e w' => e = .returned (.bool true) ∧ Below w.heap.size w w' := by
  rw [← strV_of]
  exact UtfWhole_any _ (by rw [Array.length_toList]; exact hm) w (tabs_of_laid hL)
end Go.Proofs.YtbafdijklcoeoaaDoor.Utf
