/- Chapter 18: which sizes may be; a font and a style in memory. No condition but bounds. -/
import Derived.Test.YtedpmehggpomnaaFontM
import Derived.Test.YtedpmehggpomnaaHalf
import Derived.Deep.DrawnRows
import Derived.Deep.RegionLaw
namespace Go.Proofs.Ytedpmehggpomnaa.Lead
open Go.RowKit Go.Proofs.Ytedpmehggpomnaa.Unit Go.Proofs.Ytedpmehggpomnaa.Font
set_option linter.unusedVariables false

def mayS (n : Int) : Bool := decide (0 ≤ n) && decide (n ≤ 1073741824)
theorem mayS_cases (n : Int) : (mayS n = true ∧ 0 ≤ n ∧ n ≤ 1073741824) ∨ (mayS n = false ∧ (n < 0 ∨ (0 ≤ n ∧ 1073741824 < n))) := by
  unfold mayS
  by_cases h : 0 ≤ n <;> by_cases g : n ≤ 1073741824 <;> simp [h, g] <;> omega
def allS (l : List Int) : Bool := l.all mayS
theorem allS_take (l : List Int) (k : Nat) (h : k < l.length) : allS (l.take (k + 1)) = (allS (l.take k) && mayS (l[k]?.getD 0)) := by
  simp only [allS]
  rw [List.take_succ_eq_append_getElem h, List.getElem?_eq_getElem h, List.all_append]
  simp
theorem allS_not (l : List Int) (k : Nat) (h : k < l.length) (hx : mayS (l[k]?.getD 0) = false) : allS l = false := by
  rw [List.getElem?_eq_getElem h] at hx
  exact List.all_eq_false.2 ⟨_, List.getElem_mem h, by simpa using hx⟩
set_option maxHeartbeats 1000000 in
theorem lmay_any (A : Option Addr) (n c : Nat) (xs : List Int) (w : World) (hl : xs.length = n) (hr : Reads w w.heap.size 1 A n (xs.map (Value.int .i64))) (hn : n ≤ 1000000) :
    Calls Try.prog 36 #[.slice A n c] w fun e w' => e = .returned (.bool (allS xs)) ∧ w = w' := by
  have HL := Lib.hid hl
  have HR := Lib.hid hr
  clear hl hr
  go_enter Try.func36, Try.ntmps36
  go_wp2
  go_loopw [7] (fun i wr => ∃ k : Nat, i = .int .i64 k ∧ k ≤ n ∧ Hid (allS (xs.take k) = true) ∧ w = wr) (fun i wr => n - (intOf i).toNat)
  case atStart => exact ⟨0, rfl, by omega, Lib.hid rfl, rfl⟩
  case round =>
    obtain ⟨k, rfl, hk, HA, rfl⟩ := hrel
    by_cases hlt : k < n
    · obtain ⟨ad, rfl, _, hc0⟩ := reads_kind HL.out HR.out hlt
      have TK := Lib.hid (allS_take xs k (by rw [HL.out]; exact hlt))
      have TN := Lib.hid (allS_not xs k (by rw [HL.out]; exact hlt))
      generalize xs[k]?.getD 0 = x at hc0 TK TN
      rcases mayS_cases x with ⟨hm, x0, x1⟩ | ⟨hm, x0 | ⟨x0, x1⟩⟩
      · have HK : Hid (allS (xs.take (k + 1)) = true) := Lib.hid (by rw [TK.out, HA.out, hm]; rfl)
        clear hm
        go_wp2
        go_roundw
        case rel => exact ⟨k + 1, by go_num, by omega, HK, trivial⟩
        case measure => simp [intOf]; omega
      all_goals
        have HF := Lib.hid (TN.out hm)
        clear hm
        go_wp2
        go_ret
        exact ⟨ret_bool HF.out.symm, rfl⟩
    · obtain rfl : k = n := by omega
      have hA := HA.out
      rw [List.take_of_length_le (by rw [HL.out]; omega)] at hA
      have HF := Lib.hid hA
      clear hA
      go_wp2
      go_ret
      exact ⟨ret_bool HF.out.symm, rfl⟩
theorem rmay_any (n : Int) (w : World) : Calls Try.prog 31 #[.int .i64 n] w fun e w' => e = .returned (.bool (mayS n)) ∧ w = w' := by
  rcases mayS_cases n with ⟨hm, x0, x1⟩ | ⟨hm, x0 | ⟨x0, x1⟩⟩
  all_goals
    have HM := Lib.hid hm
    clear hm
    go_enter Try.func31, Try.ntmps31
    go_wp2
    go_ret
    exact ⟨ret_bool (by rw [HM.out]; first | done | rfl | (simp; done) | (simp; omega)), rfl⟩

abbrev styV (wh wo wr li tb fo sz hk ht : Int) : Value := .agg #[.int .u8 wh, .int .u8 wo, .int .u8 wr, .int .u8 li, .int .i64 tb, .int .i64 fo, .int .i64 sz, .int .u8 hk, .int .i64 ht]
abbrev styC (wh wo wr li tb fo sz hk ht : Int) : Array Value := #[.int .u8 wh, .int .u8 wo, .int .u8 wr, .int .u8 li, .int .i64 tb, .int .i64 fo, .int .i64 sz, .int .u8 hk, .int .i64 ht]
abbrev boxV (A B : Int) : Value := .agg #[.int .i64 A, .int .i64 B]
abbrev boxC (A B : Int) : Array Value := #[.int .i64 A, .int .i64 B]

/-- A font and a style lie in boxes. -/
structure LS (w : World) (F S : Nat) (fc sc : Array Value) (W : World) : Prop where
  f : Blk W F 24 fc
  s : Blk W S 26 sc
  bel : Below w.heap.size w W
section
variable {w W W' : World} {F S : Nat} {fc sc : Array Value}
theorem LS.keep (m : LS w F S fc sc W) (hb : Below W.heap.size W W') : LS w F S fc sc W' := ⟨m.f.keep hb, m.s.keep hb, bel_trans m.bel hb⟩
theorem LS.drew (m : LS w F S fc sc W) : LS w F S fc sc W.drew := ⟨m.f.drew, m.s.drew, m.bel.drew⟩
theorem LS.alloc (m : LS w F S fc sc W) (o : Obj) : LS w F S fc sc (W.alloc o) := m.keep (bel_alloc (Below.refl _ _) _)
theorem LS.set_ (m : LS w F S fc sc W) {p : Addr} (h1 : F ≠ p.block) (h2 : S ≠ p.block) (h3 : w.heap.size ≤ p.block) (u : Value) : LS w F S fc sc (W.setCell p u) := ⟨m.f.far h1 u, m.s.far h2 u, m.bel.setCell h3 u⟩
theorem LS.new : LS w w.heap.size (w.heap.size + 1) fc sc ((w.alloc (.cells fc 24)).alloc (.cells sc 26)) := by
  have h1 := Blk.new (w.alloc (.cells fc 24)) 26 sc
  rw [World.size_alloc] at h1
  exact ⟨(Blk.new w 24 fc).alloc _, h1, bel_alloc (bel_alloc (Below.refl _ _) _) _⟩
theorem new_res (fc sc rc : Array Value) (t : TypeId) : Blk (((w.alloc (.cells fc 24)).alloc (.cells sc 26)).alloc (.cells rc t)) (w.heap.size + 1 + 1) t rc := by
  have h := Blk.new ((w.alloc (.cells fc 24)).alloc (.cells sc 26)) t rc
  rwa [World.size_alloc, World.size_alloc] at h
variable {a d g x o : Int} {A : Option Addr} {n c : Nat} {wh wo wr li tb fo sz hk ht : Int}
/-- The cells of a font and a style. -/
abbrev FS (F S : Nat) (a d g x o : Int) (A : Option Addr) (n c : Nat) (wh wo wr li tb fo sz hk ht : Int) (W : World) : Prop :=
  W.cell? ⟨F, 0, none⟩ = some (.int .i64 a) ∧ W.cell? ⟨F, 1, none⟩ = some (.int .i64 d) ∧ W.cell? ⟨F, 2, none⟩ = some (.int .i64 g) ∧ W.cell? ⟨F, 3, none⟩ = some (.int .i64 x) ∧ W.cell? ⟨F, 4, none⟩ = some (.int .i64 o) ∧ W.cell? ⟨F, 5, none⟩ = some (.slice A n c) ∧
    W.cell? ⟨S, 0, none⟩ = some (.int .u8 wh) ∧ W.cell? ⟨S, 1, none⟩ = some (.int .u8 wo) ∧ W.cell? ⟨S, 2, none⟩ = some (.int .u8 wr) ∧ W.cell? ⟨S, 3, none⟩ = some (.int .u8 li) ∧ W.cell? ⟨S, 4, none⟩ = some (.int .i64 tb) ∧ W.cell? ⟨S, 5, none⟩ = some (.int .i64 fo) ∧ W.cell? ⟨S, 6, none⟩ = some (.int .i64 sz) ∧ W.cell? ⟨S, 7, none⟩ = some (.int .u8 hk) ∧ W.cell? ⟨S, 8, none⟩ = some (.int .i64 ht)
theorem LS.cells (m : LS w F S (fontC a d g x o A n c) (styC wh wo wr li tb fo sz hk ht) W) : FS F S a d g x o A n c wh wo wr li tb fo sz hk ht W :=
  ⟨m.f.cell 0, m.f.cell 1, m.f.cell 2, m.f.cell 3, m.f.cell 4, m.f.cell 5, m.s.cell 0, m.s.cell 1, m.s.cell 2, m.s.cell 3, m.s.cell 4, m.s.cell 5, m.s.cell 6, m.s.cell 7, m.s.cell 8⟩
end

/-- What a cell holds, if there is one. -/
def wit (w : World) (p : Addr) : Value := (w.cell? p).getD undef
theorem wit_of {w : World} {p : Addr} {v : Value} (h : w.cell? p = some v) : w.cell? p = some (wit w p) := by rw [wit, h]; rfl
/-- A block of so many cells. -/
def Has (W : World) (R : Nat) (t : TypeId) (k : Nat) : Prop := ∃ rc : Array Value, rc.size = k ∧ Blk W R t rc
section
variable {W W' : World} {R k : Nat} {t : TypeId}
theorem Has.keep (h : Has W R t k) (hb : Below W.heap.size W W') : Has W' R t k := let ⟨rc, e, b⟩ := h; ⟨rc, e, b.keep hb⟩
theorem Has.drew (h : Has W R t k) : Has W.drew R t k := h
theorem Has.far (h : Has W R t k) {p : Addr} (hp : R ≠ p.block) (u : Value) : Has (W.setCell p u) R t k := let ⟨rc, e, b⟩ := h; ⟨rc, e, b.far hp u⟩
theorem Has.set_ (h : Has W R t k) (j : Nat) (u : Value) : Has (W.setCell ⟨R, j, none⟩ u) R t k := let ⟨rc, e, b⟩ := h; ⟨_, by simpa using e, b.set_ j u⟩
theorem Has.wit (h : Has W R t k) (j : Nat) (hj : j < k) : W.cell? ⟨R, j, none⟩ = some (wit W ⟨R, j, none⟩) ∧ W.frozen? ⟨R, j, none⟩ = false := by
  obtain ⟨rc, e, b⟩ := h
  refine ⟨wit_of (v := rc[j]'(by omega)) ?_, b.frozen j⟩
  rw [b.cell j, Array.getElem?_eq_getElem (by omega)]
theorem Has.two (h : Has W R t 2) (u v : Value) : ((W.setCell ⟨R, 0, none⟩ u).setCell ⟨R, 1, none⟩ v).cell? ⟨R, 0, none⟩ = some u ∧ ((W.setCell ⟨R, 0, none⟩ u).setCell ⟨R, 1, none⟩ v).cell? ⟨R, 1, none⟩ = some v := by
  obtain ⟨rc, e, b⟩ := h
  have b2 := (b.set_ 0 u).set_ 1 v
  rw [b2.cell 0, b2.cell 1]
  simp [e]
theorem Has.five (h : Has W R t 5) (u0 u1 u2 u3 u4 : Value) {V : World} (hV : V = (((((W.setCell ⟨R, 0, none⟩ u0).setCell ⟨R, 1, none⟩ u1).setCell ⟨R, 2, none⟩ u2).setCell ⟨R, 3, none⟩ u3).setCell ⟨R, 4, none⟩ u4)) : V.cell? ⟨R, 0, none⟩ = some u0 ∧ V.cell? ⟨R, 1, none⟩ = some u1 ∧ V.cell? ⟨R, 2, none⟩ = some u2 ∧ V.cell? ⟨R, 3, none⟩ = some u3 ∧ V.cell? ⟨R, 4, none⟩ = some u4 := by
  obtain ⟨rc, e, b⟩ := h
  have b2 := ((((b.set_ 0 u0).set_ 1 u1).set_ 2 u2).set_ 3 u3).set_ 4 u4
  rw [← hV] at b2
  rw [b2.cell 0, b2.cell 1, b2.cell 2, b2.cell 3, b2.cell 4]
  simp [e]
theorem Blk.has {rc : Array Value} (h : Blk W R t rc) : Has W R t rc.size := ⟨rc, rfl, h⟩
end
end Go.Proofs.Ytedpmehggpomnaa.Lead
