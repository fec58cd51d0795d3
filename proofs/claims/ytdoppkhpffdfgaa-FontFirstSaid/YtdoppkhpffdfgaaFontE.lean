/- Chapter 5: how far a text goes: the program's and the reference's, walked. No condition but bounds on how many. -/
import Derived.Test.YtdoppkhpffdfgaaFontD
namespace Go.Proofs.Ytdoppkhpffdfgaa.Font
open Go.RowKit Go.Proofs.Ytdoppkhpffdfgaa.Unit
attribute [local go_sem] max2_int min2_int max_two min_two
set_option linter.unusedVariables false

theorem atV_rng (n size : Int) : 0 ≤ atV n size ∧ atV n size ≤ 8589934592 := by
  by_cases h : mayF n = true ∧ 0 ≤ size ∧ size ≤ 1073741824
  · obtain ⟨h1, h2, h3⟩ := h
    rw [atV_in h1 h2 h3]
    obtain ⟨n0, n1⟩ := mayF_parts h1
    have q0 := Int.mul_nonneg n0 h2
    have q1 := Int.mul_le_mul n1 h3 h2 (by omega)
    have a1 := rnd_mono (0 * 1024) (n * size) 1024 (by omega) (by omega)
    have a2 := rnd_mono (n * size) (8589934592 * 1024) 1024 (by omega) (by omega)
    rw [rnd_self _ _ (by omega)] at a1 a2
    exact ⟨a1, a2⟩
  · rw [atV_out (by cases e : mayF n <;> simp_all <;> omega)]
    omega
def tS (rs : List Rng) (o size : Int) (l : List Int) : Int := l.foldr (fun r s => atV (advOf rs o r) size + s) 0
theorem tS_append (rs : List Rng) (o size : Int) (a b : List Int) : tS rs o size (a ++ b) = tS rs o size a + tS rs o size b := by
  induction a with
  | nil => simp [tS]
  | cons x a ih => simp only [tS, List.cons_append, List.foldr_cons] at ih ⊢; omega
theorem tS_take (rs : List Rng) (o size : Int) (l : List Int) (k : Nat) (h : k < l.length) : tS rs o size (l.take (k + 1)) = tS rs o size (l.take k) + atV (advOf rs o (l[k]?.getD 0)) size := by
  rw [List.take_succ_eq_append_getElem h, tS_append, List.getElem?_eq_getElem h]
  simp [tS]
theorem tS_bd (rs : List Rng) (o size : Int) (l : List Int) : 0 ≤ tS rs o size l ∧ tS rs o size l ≤ 8589934592 * l.length := by
  induction l with
  | nil => simp [tS]
  | cons x a ih =>
    have := atV_rng (advOf rs o x) size
    simp only [tS, List.foldr_cons, List.length_cons] at ih ⊢
    omega

set_option maxHeartbeats 4000000 in
set_option maxRecDepth 100000 in
theorem text_any (a d g x o : Int) (A : Option Addr) (n c : Nat) (rs : List Rng) (size : Int) (L : Option Addr) (m cl : Nat) (l : List Int) (hn : n ≤ 1000000) (hm : m ≤ 1000) (w : World) (hr : RA w A n rs) (hl : l.length = m) (hL : Reads w w.heap.size 1 L m (l.map (Value.int .i32))) :
    Calls Try.prog 18 #[fontV a d g x o A n c, .int .i64 size, .slice L m cl] w fun e w' => e = .returned (.int .i64 (tS rs o size l)) ∧ Below w.heap.size w w' := by
  have HR := Lib.hid hr
  have HL := Lib.hid hL
  have HN := Lib.hid hl
  have KF := Lib.hid (Blk.new w 24 (fontC a d g x o A n c))
  clear hr hL hl
  go_enter Try.func18, Try.ntmps18
  go_wp2
  go_loopw [7, 12] (fun sv i wr => ∃ (k : Nat) (s : Int), sv = .int .i64 s ∧ i = .int .i64 k ∧ k ≤ m ∧ 0 ≤ s ∧ s ≤ 8589934592000 ∧ Hid (s = tS rs o size (l.take k)) ∧ Below w.heap.size w wr ∧ Hid (Blk wr w.heap.size 24 (fontC a d g x o A n c))) (fun sv i wr => m - (intOf i).toNat)
  case atStart => exact ⟨0, 0, rfl, rfl, by omega, by omega, by omega, Lib.hid rfl, bel_alloc (Below.refl _ _) _, KF⟩
  case round =>
    obtain ⟨k, s, rfl, rfl, hk, s0, s1, HS, hb, KB⟩ := hrel
    by_cases hlt : k < m
    · obtain ⟨ad, rfl, had, h0⟩ := reads_kind HN.out ((HL.out.below hb).more hb.size) hlt
      have TK := Lib.hid (tS_take rs o size l k (by rw [HN.out]; exact hlt))
      have TB := tS_bd rs o size (l.take (k + 1))
      rw [List.length_take] at TB
      have hA := fun W (hr : RA W A n rs) => adv_any a d g x o A n c rs size (l[k]?.getD 0) hn W hr
      generalize l[k]?.getD 0 = r at h0 TK hA
      have hv := atV_rng (advOf rs o r) size
      generalize atV (advOf rs o r) size = v at hA hv TK
      obtain ⟨v0, v1⟩ := hv
      have HA := Lib.hid hA
      have HSN : Hid (s + v = tS rs o size (l.take (k + 1))) := Lib.hid (by rw [TK.out, HS.out])
      have s2 : s + v ≤ 8589934592000 := by rw [HSN.out]; omega
      have c0 : wr.cell? ⟨w.heap.size, 0, none⟩ = some (.int .i64 a) := KB.out.cell 0
      have c1 : wr.cell? ⟨w.heap.size, 1, none⟩ = some (.int .i64 d) := KB.out.cell 1
      have c2 : wr.cell? ⟨w.heap.size, 2, none⟩ = some (.int .i64 g) := KB.out.cell 2
      have c3 : wr.cell? ⟨w.heap.size, 3, none⟩ = some (.int .i64 x) := KB.out.cell 3
      have c4 : wr.cell? ⟨w.heap.size, 4, none⟩ = some (.int .i64 o) := KB.out.cell 4
      have c5 : wr.cell? ⟨w.heap.size, 5, none⟩ = some (.slice A n c) := KB.out.cell 5
      clear hA TB
      obtain ⟨wo, rfl⟩ : ∃ wo : World, wo = wr := ⟨_, rfl⟩
      go_wp2_with (go_at_call 11; refine (HA.out _ (HR.out.keep hb)).mono ?_; rintro e w2 ⟨rfl, hb2⟩)
      go_roundw
      case rel => exact ⟨k + 1, s + v, by go_num, by go_num, by omega, by omega, by omega, HSN, bel_trans hb hb2, Lib.hid (KB.out.keep hb2)⟩
      case measure => simp [intOf]; omega
    · obtain rfl : k = m := by omega
      have hS := HS.out
      rw [List.take_of_length_le (by rw [HN.out]; omega)] at hS
      have HF := Lib.hid hS
      clear hS
      go_wp2
      go_ret
      exact ⟨ret_int HF.out, hb⟩

theorem cell_keep {W W' : World} (hb : Below W.drew.heap.size W.drew W') {p : Addr} {v : Value} (h : W.cell? p = some v) : W'.cell? p = some v := (hb.cell (World.block_lt_of_cell? W _ h)).trans h
theorem seven_keep {W W' : World} (hb : Below W.drew.heap.size W.drew W') {p0 p1 p2 p3 p4 p5 p6 : Addr} {v0 v1 v2 v3 v4 v5 v6 : Value} (h : W.cell? p0 = some v0 ∧ W.cell? p1 = some v1 ∧ W.cell? p2 = some v2 ∧ W.cell? p3 = some v3 ∧ W.cell? p4 = some v4 ∧ W.cell? p5 = some v5 ∧ W.cell? p6 = some v6) :
    W'.cell? p0 = some v0 ∧ W'.cell? p1 = some v1 ∧ W'.cell? p2 = some v2 ∧ W'.cell? p3 = some v3 ∧ W'.cell? p4 = some v4 ∧ W'.cell? p5 = some v5 ∧ W'.cell? p6 = some v6 :=
  ⟨cell_keep hb h.1, cell_keep hb h.2.1, cell_keep hb h.2.2.1, cell_keep hb h.2.2.2.1, cell_keep hb h.2.2.2.2.1, cell_keep hb h.2.2.2.2.2.1, cell_keep hb h.2.2.2.2.2.2⟩
set_option maxHeartbeats 4000000 in
set_option maxRecDepth 100000 in
theorem rtext_any (a d g x o : Int) (A : Option Addr) (n c : Nat) (rs : List Rng) (size : Int) (L : Option Addr) (m cl : Nat) (l : List Int) (hn : n ≤ 1000000) (hm : m ≤ 1000) (w : World) (hr : RA w A n rs) (hl : l.length = m) (hL : Reads w w.heap.size 1 L m (l.map (Value.int .i32))) :
    Calls Try.prog 19 #[fontV a d g x o A n c, .int .i64 size, .slice L m cl] w fun e w' => e = .returned (.int .i64 (tS rs o size l)) ∧ Below w.heap.size w w' := by
  have HR := Lib.hid hr
  have HL := Lib.hid hL
  have HN := Lib.hid hl
  have KF := Lib.hid (Blk.new w 24 (fontC a d g x o A n c))
  clear hr hL hl
  go_enter Try.func19, Try.ntmps19
  go_wp2
  go_loopw [7, 8] (fun sv i wr => ∃ (k : Nat) (s : Int), sv = .int .i64 s ∧ i = .int .i64 k ∧ k ≤ m ∧ 0 ≤ s ∧ s ≤ 8589934592000 ∧ Hid (s = tS rs o size (l.take k)) ∧ Below w.heap.size w wr ∧ Hid (Blk wr w.heap.size 24 (fontC a d g x o A n c))) (fun sv i wr => m - (intOf i).toNat)
  case atStart => exact ⟨0, 0, rfl, rfl, by omega, by omega, by omega, Lib.hid rfl, bel_alloc (Below.refl _ _) _, KF⟩
  case round =>
    obtain ⟨k, s, rfl, rfl, hk, s0, s1, HS, hb, KB⟩ := hrel
    by_cases hlt : k < m
    · obtain ⟨ad, rfl, had, h0⟩ := reads_kind HN.out ((HL.out.below hb).more hb.size) hlt
      have TK := Lib.hid (tS_take rs o size l k (by rw [HN.out]; exact hlt))
      have TB := tS_bd rs o size (l.take (k + 1))
      rw [List.length_take] at TB
      have hA := fun W (hr : RA W A n rs) => radv_any a d g x o A n c rs size (l[k]?.getD 0) hn W hr
      generalize l[k]?.getD 0 = r at h0 TK hA
      have hv := atV_rng (advOf rs o r) size
      generalize atV (advOf rs o r) size = v at hA hv TK
      obtain ⟨v0, v1⟩ := hv
      have HA := Lib.hid hA
      have HSN : Hid (s + v = tS rs o size (l.take (k + 1))) := Lib.hid (by rw [TK.out, HS.out])
      have s2 : s + v ≤ 8589934592000 := by rw [HSN.out]; omega
      have e1 : IntKind.i64.wrap (s + v) = s + v := by rw [IntKind.wrap_i64]; omega
      have hd : decide ((4611686018427387904 : Int) < s + v) = false := decide_eq_false (by omega)
      have C : Hid (wr.cell? ⟨w.heap.size, 0, none⟩ = some (.int .i64 a) ∧ wr.cell? ⟨w.heap.size, 1, none⟩ = some (.int .i64 d) ∧ wr.cell? ⟨w.heap.size, 2, none⟩ = some (.int .i64 g) ∧ wr.cell? ⟨w.heap.size, 3, none⟩ = some (.int .i64 x) ∧ wr.cell? ⟨w.heap.size, 4, none⟩ = some (.int .i64 o) ∧ wr.cell? ⟨w.heap.size, 5, none⟩ = some (.slice A n c) ∧ wr.cell? (ad.add k) = some (.int .i32 r)) :=
        ⟨KB.out.cell 0, KB.out.cell 1, KB.out.cell 2, KB.out.cell 3, KB.out.cell 4, KB.out.cell 5, h0⟩
      have k0 : (0 : Int) ≤ k := by omega
      have k1 : (k : Int) < m := by omega
      clear hA TB h0
      obtain ⟨wo, rfl⟩ : ∃ wo : World, wo = wr := ⟨_, rfl⟩
      go_wp2
      go_region_held3 (fun w' => w'.cell? ⟨w.heap.size, 0, none⟩ = some (.int .i64 a) ∧ w'.cell? ⟨w.heap.size, 1, none⟩ = some (.int .i64 d) ∧ w'.cell? ⟨w.heap.size, 2, none⟩ = some (.int .i64 g) ∧ w'.cell? ⟨w.heap.size, 3, none⟩ = some (.int .i64 x) ∧ w'.cell? ⟨w.heap.size, 4, none⟩ = some (.int .i64 o) ∧ w'.cell? ⟨w.heap.size, 5, none⟩ = some (.slice A n c) ∧ w'.cell? (ad.add k) = some (.int .i32 r))
        (first | exact C.out | exact seven_keep hb2 C.out | go_keep)
        ((go_at_call 12; refine (HA.out _ (HR.out.keep (bel_drewN hb 1))).mono ?_; rintro e w2 ⟨rfl, hb2⟩))
      go_wp2
      go_roundw
      case rel => exact ⟨k + 1, s + v, by go_num, by go_num, by omega, by omega, by omega, HSN, bel_trans (bel_drewN hb 1) hb2, Lib.hid ((KB.out.drewN 1).keep hb2)⟩
      case measure => simp [intOf]; omega
    · obtain rfl : k = m := by omega
      have hS := HS.out
      rw [List.take_of_length_le (by rw [HN.out]; omega)] at hS
      have HF := Lib.hid hS
      clear hS
      go_wp2
      go_ret
      exact ⟨ret_int HF.out, hb⟩
end Go.Proofs.Ytdoppkhpffdfgaa.Font
