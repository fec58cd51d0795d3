/- Chapter 3: how much items are, walked. No condition but bounds. -/
import Derived.Test.YtijkfllolcgfhaaPackH
import Derived.Test.YtijkfllolcgfhaaTree
namespace Go.Proofs.Ytijkfllolcgfhaa.Pack
open Go.RowKit
set_option linter.unusedVariables false
set_option linter.unusedSimpArgs false

/-- A thing of a list of structs: its cells. -/
theorem rec_at {α : Type} {f : α → List Value} {K : Nat} (hf : ∀ x, (f x).length = K) {w : World} {A : Option Addr} {n j B : Nat} {xs : List α} (hr : Reads w B K A n (xs.flatMap f)) (hx : xs.length = n) (hj : j < n) :
    ∃ ad x, A = some ad ∧ ad.block < B ∧ xs[j]? = some x ∧ (∀ u, (f x)[0]? = some u → w.cell? (ad.add (j * K)) = some u) ∧ ∀ d u, (f x)[d + 1]? = some u → w.cell? ⟨(ad.add (j * K)).block, (ad.add (j * K)).off + (d + 1), none⟩ = some u := by
  obtain ⟨ad, e, hb, hc⟩ := hr.2 (by omega)
  have hxj : xs[j]? = some (xs[j]'(by omega)) := List.getElem?_eq_getElem (by omega)
  refine ⟨ad, _, e, hb, hxj, fun u hu => ?_, fun d u hu => ?_⟩
  · refine hc (j * K) u ?_
    have hK : 0 < K := by have := (List.getElem?_eq_some_iff.1 hu).1; rwa [hf] at this
    have := flat_at hf 0 hK xs j (by omega)
    rw [Nat.add_zero] at this
    rw [this, hu]
  · have hK : d + 1 < K := by have := (List.getElem?_eq_some_iff.1 hu).1; rwa [hf] at this
    rw [← add_pos, add_of_add]
    refine hc (j * K + (d + 1)) u ?_
    rw [flat_at hf (d + 1) hK xs j (by omega), hu]
abbrev itL (x : It) : List Value := (itC x).toList
theorem itL_len (x : It) : (itL x).length = 8 := rfl
/-- An item as it came in. -/
structure ItRd (x : It) (w : World) : Prop where
  k0 : 0 ≤ x.k ∧ x.k ≤ 255
  n0 : 0 ≤ x.n ∧ x.n < 18446744073709551616
  i0 : -9223372036854775808 ≤ x.i ∧ x.i ≤ 9223372036854775807
  s0 : x.s.size ≤ 140737488351232
  l0 : ∀ y ∈ x.l, 0 ≤ y ∧ y < 18446744073709551616
  m0 : ∀ y ∈ x.m, -9223372036854775808 ≤ y ∧ y ≤ 9223372036854775807
  t0 : ∀ y ∈ x.t, ByteArray.size y ≤ 140737488351232
  r1 : Reads w w.heap.size 1 x.A1 x.n1 (x.l.map (Value.int .u64))
  r2 : Reads w w.heap.size 1 x.A2 x.n2 (x.m.map (Value.int .i64))
  r3 : Reads w w.heap.size 1 x.A3 x.n3 (x.t.map (Value.string))
  z1 : x.n1 * 8 ≤ 140737488351232
  z2 : x.n2 * 8 ≤ 140737488351232
  z3 : x.n3 * 16 ≤ 140737488351232
/-- The sizes of texts, and of an item, together. -/
def sumT (t : List ByteArray) : Nat := (t.map ByteArray.size).sum
def own (x : It) : Nat := x.s.size + x.n1 + x.n2 + x.n3
def sizeI (x : It) : Nat := own x + sumT x.t
def total (xs : List It) : Nat := (xs.map sizeI).sum
theorem sum_take {α : Type} (f : α → Nat) (xs : List α) {j : Nat} {x : α} (h : xs[j]? = some x) : ((xs.take (j + 1)).map f).sum = ((xs.take j).map f).sum + f x := by
  obtain ⟨hj, rfl⟩ := List.getElem?_eq_some_iff.1 h
  rw [List.take_succ_eq_append_getElem hj, List.map_append, List.sum_append]
  simp
theorem sum_le {α : Type} (f : α → Nat) (M : Nat) : ∀ (xs : List α), (∀ x ∈ xs, f x ≤ M) → (xs.map f).sum ≤ xs.length * M
  | [], _ => by simp
  | x :: xs, h => by
    have := sum_le f M xs (fun y hy => h y (List.mem_cons_of_mem _ hy))
    have := h x (List.mem_cons_self ..)
    rw [List.map_cons, List.sum_cons, List.length_cons, Nat.succ_mul]
    omega
/-- The answer of great: false only of few and small items. -/
def GPost (xs : List It) (w : World) (e : Ending) (w' : World) : Prop :=
  ∃ b : Bool, e = .returned (.bool b) ∧ (b = false → xs.length ≤ 40 ∧ (∀ x ∈ xs, x.n3 ≤ 100) ∧ total xs ≤ 4000) ∧ Drawn w w'
theorem wrap_in {x : Int} (h : -9223372036854775808 ≤ x ∧ x ≤ 9223372036854775807) : IntKind.i64.wrap x = x := IntWalk.i64_in _ h
theorem wrap4 {v a b c d : Int} (h0 : 0 ≤ v) (ha : 0 ≤ a) (hb : 0 ≤ b) (hc : 0 ≤ c) (hd : 0 ≤ d) (h : v + a + b + c + d ≤ 9223372036854775807) : wrap64 (wrap64 (wrap64 (wrap64 (v + a) + b) + c) + d) = v + a + b + c + d := by
  rw [wrap64_in (x := v + a) (by omega), wrap64_in (x := v + a + b) (by omega), wrap64_in (x := v + a + b + c) (by omega), wrap64_in (by omega)]
set_option maxHeartbeats 8000000 in
set_option maxRecDepth 100000 in
theorem great_any (A : Option Addr) (n c : Nat) (xs : List It) (w : World) (hr : Reads w w.heap.size 8 A n (xs.flatMap itL)) (hx : xs.length = n) (hk : ∀ x ∈ xs, ItRd x w) (hn : n * 120 ≤ 140737488351232) :
    Calls Try.prog 14 #[.slice A n c] w (GPost xs w) := by
  have HR := Lib.hid hr
  have HX := Lib.hid hx
  have HK := Lib.hid hk
  have hn1 : (n : Int) ≤ 1172812402960 := by omega
  clear hr hx hk hn
  go_enter Try.func14, Try.ntmps14
  go_wp2
  go_loopw [3, 4] (fun s i wr => ∃ (j : Nat) (v : Int), i = .int .i64 j ∧ j ≤ n ∧ s = .int .i64 v ∧ Hid (∀ x ∈ xs.take j, x.n3 ≤ 100) ∧ Hid (n ≤ 40 → v = (((xs.take j).map sizeI).sum : Nat)) ∧ Drawn w wr) (fun _ i _ => n - (intOf i).toNat)
  case atStart => exact ⟨0, 0, rfl, Nat.zero_le _, rfl, Lib.hid (by simp), Lib.hid (fun _ => by simp), Drawn.refl _⟩
  case round =>
    obtain ⟨j, v, rfl, hj, rfl, HT, HV, hd⟩ := hrel
    by_cases hlt : j < n
    · obtain ⟨ad, x, rfl, hb, hxj, h0, h1⟩ := rec_at itL_len HR.out HX.out hlt
      have X := Lib.hid (HK.out x (List.mem_of_getElem? hxj))
      obtain ⟨m, rfl⟩ := hd
      have c4 : (w.drewN m).cell? ⟨(ad.add (j * 8)).block, (ad.add (j * 8)).off + 4, none⟩ = some (.string x.s) := h1 3 _ rfl
      have c5 : (w.drewN m).cell? ⟨(ad.add (j * 8)).block, (ad.add (j * 8)).off + 5, none⟩ = some (.slice x.A1 x.n1 x.c1) := h1 4 _ rfl
      have c6 : (w.drewN m).cell? ⟨(ad.add (j * 8)).block, (ad.add (j * 8)).off + 6, none⟩ = some (.slice x.A2 x.n2 x.c2) := h1 5 _ rfl
      have c7 : (w.drewN m).cell? ⟨(ad.add (j * 8)).block, (ad.add (j * 8)).off + 7, none⟩ = some (.slice x.A3 x.n3 x.c3) := h1 6 _ rfl
      have HXJ := Lib.hid hxj
      clear h0 h1 hxj hb
      have i0 : (0 : Int) ≤ j := by omega
      have i1 : (j : Int) < n := by omega
      obtain ⟨V, hV⟩ : ∃ V, w.drewN m = V := ⟨_, rfl⟩
      have HVV := Lib.hid hV
      rw [hV] at c4 c5 c6 c7 ⊢
      clear hV
      go_wp2
      go_quiet (fail)
      go_wp2
      have z1 := X.out.z1
      have z2 := X.out.z2
      have z3 := X.out.z3
      have zs := X.out.s0
      have Z1 := Lib.hid z1
      have Z2 := Lib.hid z2
      have Z3 := Lib.hid z3
      have ZS := Lib.hid zs
      have n3b : (x.n3 : Int) ≤ 8796093022202 := by omega
      clear z1 z2 z3 zs
      have HT3 := Lib.hid (show x.t.length = x.n3 by have := X.out.r3.1; simpa using this)
      have HP := Lib.hid (show n ≤ 40 → ((xs.take j).map sizeI).sum ≤ 40 * 14777436277179904 from fun h40 => by
        refine Nat.le_trans (sum_le sizeI 14777436277179904 (xs.take j) (fun y hy => ?_)) (Nat.mul_le_mul_right _ (by rw [List.length_take]; omega))
        have Y := HK.out y (List.mem_of_mem_take hy)
        have h3 := HT.out y hy
        have := Y.z1
        have := Y.z2
        have := Y.s0
        have hs := sum_le ByteArray.size 140737488351232 y.t Y.t0
        have hl : y.t.length = y.n3 := by have := Y.r3.1; simpa using this
        rw [hl] at hs
        have : y.n3 * 140737488351232 ≤ 100 * 140737488351232 := Nat.mul_le_mul_right _ h3
        unfold sizeI own sumT
        omega)
      obtain ⟨u, hu⟩ : ∃ u, wrap64 (wrap64 (wrap64 (wrap64 (v + ↑x.s.size) + ↑x.n1) + ↑x.n2) + ↑x.n3) = u := ⟨_, rfl⟩
      have HU := Lib.hid hu
      rw [hu]
      have HUV := Lib.hid (show n ≤ 40 → u = (((xs.take j).map sizeI).sum + own x : Nat) from fun h40 => by
        have h1 := HV.out h40
        have h2 := HP.out h40
        have := Z1.out
        have := Z2.out
        have := Z3.out
        have := ZS.out
        rw [← HU.out, h1, wrap4 (by omega) (by omega) (by omega) (by omega) (by omega) (by omega)]
        unfold own
        omega)
      clear hu
      go_loop [3, 5] (fun s i => ∃ (k : Nat) (v' : Int), i = .int .i64 k ∧ k ≤ x.n3 ∧ k ≤ 100 ∧ s = .int .i64 v' ∧ Hid (n ≤ 40 → v' = (((xs.take j).map sizeI).sum + own x + ((x.t.take k).map ByteArray.size).sum : Nat))) (fun _ i => x.n3 - (intOf i).toNat)
      case atStart => exact ⟨0, u, rfl, Nat.zero_le _, Nat.zero_le _, rfl, Lib.hid (fun h => by rw [HUV.out h]; simp)⟩
      case round =>
        obtain ⟨k, v', rfl, hk, hk100, rfl, HW⟩ := hrel
        by_cases hlt2 : k < x.n3 ∧ k < 100
        · obtain ⟨hl1, hl2⟩ := hlt2
          obtain ⟨a3, y, e3, _, hy, g3⟩ := reads_f X.out.r3 hl1
          have c8 : V.cell? (a3.add k) = some (.string y) := by rw [← HVV.out]; exact g3
          have HY := Lib.hid hy
          have YS := Lib.hid (X.out.t0 y (List.mem_of_getElem? hy))
          rw [e3] at c7
          have E3 := Lib.hid e3
          clear hy g3 e3
          have q1 : decide (k < x.n3) = true := by simp; omega
          have q2 : decide ((k : Int) < 100) = true := by simp; omega
          have k0 : (0 : Int) ≤ (k : Int) := by omega
          have k1 : (k : Int) < (x.n3 : Int) := by omega
          go_wp2
          go_round
          case rel => exact ⟨k + 1, wrap64 (v' + y.size), by go_num, by omega, by omega, rfl, Lib.hid (fun h40 => by
            have h1 := HW.out h40
            have h2 := HP.out h40
            have := Z1.out
            have := Z2.out
            have := Z3.out
            have := ZS.out
            have := YS.out
            have hs := sum_le ByteArray.size 140737488351232 (x.t.take k) (fun y' hy' => X.out.t0 y' (List.mem_of_mem_take hy'))
            rw [List.length_take] at hs
            have hm : min k x.t.length * 140737488351232 ≤ 100 * 140737488351232 := Nat.mul_le_mul_right _ (by omega)
            have ho : own x ≤ 500000000000000 := by unfold own; omega
            have hs2 := Nat.le_trans hs hm
            rw [h1, sum_take ByteArray.size x.t HY.out, wrap64_in (by omega)]
            omega)⟩
          case measure => simp [intOf]; omega
        · by_cases h100 : x.n3 ≤ 100
          · have q4 : decide ((100 : Int) < (x.n3 : Int)) = false := by simp; omega
            have hkk := Lib.hid (show k = x.n3 ∨ k = 100 by omega)
            have ekn := Lib.hid (show k = x.n3 by omega)
            have HN := Lib.hid (show n ≤ 40 → v' = (((xs.take (j + 1)).map sizeI).sum : Nat) from fun h40 => by
              have e5 : x.t.take k = x.t := List.take_of_length_le (by rw [HT3.out]; have := ekn.out; omega)
              rw [HW.out h40, sum_take sizeI xs HXJ.out, e5, show sizeI x = own x + (x.t.map ByteArray.size).sum from rfl]
              omega)
            have HTN := Lib.hid (show ∀ z ∈ xs.take (j + 1), z.n3 ≤ 100 from fun z hz => by
              obtain ⟨hj', e⟩ := List.getElem?_eq_some_iff.1 HXJ.out
              rw [List.take_succ_eq_append_getElem hj', List.mem_append] at hz
              rcases hz with hz | hz
              · exact HT.out z hz
              · rw [List.mem_singleton] at hz
                rw [hz, e]; exact h100)
            rcases Nat.lt_or_ge k x.n3 with hq | hq
            · exact absurd ekn.out (by omega)
            · have q1 : decide (k < x.n3) = false := by simp; omega
              clear hlt2 h100
              go_wp2
              go_roundw
              case rel => exact ⟨j + 1, v', by go_num, by omega, rfl, HTN, HN, ⟨⟨m + nq, by rw [← HVV.out, World.drewN_drewN]⟩⟩⟩
              case measure => simp [intOf]; omega
          · have q4 : decide ((100 : Int) < (x.n3 : Int)) = true := by simp; omega
            have hkk := Lib.hid (show k = 100 by omega)
            have q1 : decide (k < x.n3) = true := by simp; omega
            have q2 : decide ((k : Int) < 100) = false := by simp; omega
            clear hlt2
            go_wp2
            go_ret
            exact ⟨true, rfl, (fun h => by cases h), ⟨⟨m + nq, by rw [← HVV.out, World.drewN_drewN]⟩⟩⟩
    · obtain rfl : j = n := by omega
      have HTX := Lib.hid (show ∀ x ∈ xs, x.n3 ≤ 100 from fun x hx => HT.out x (by rw [List.take_of_length_le (by rw [HX.out]; omega)]; exact hx))
      have HVX := Lib.hid (show j ≤ 40 → v = ((xs.map sizeI).sum : Nat) from fun h => by have := HV.out h; rwa [List.take_of_length_le (by rw [HX.out]; omega)] at this)
      by_cases h40 : j ≤ 40
      · have q1 : decide ((40 : Int) < (j : Int)) = false := by simp; omega
        by_cases h4000 : 4000 < v
        · have q2 : decide ((4000 : Int) < v) = true := by simpa using h4000
          go_wp2
          go_ret
          exact ⟨true, rfl, (fun h => by cases h), hd⟩
        · have q2 : decide ((4000 : Int) < v) = false := by simpa using h4000
          have H4 := Lib.hid h4000
          have HJ := Lib.hid h40
          clear h4000 h40
          go_wp2
          go_ret
          exact ⟨false, rfl, (fun _ => ⟨by rw [HX.out]; exact HJ.out, HTX.out, by have := HVX.out HJ.out; have := H4.out; unfold total; omega⟩), hd⟩
      · have q1 : decide ((40 : Int) < (j : Int)) = true := by simp; omega
        go_wp2
        go_ret
        exact ⟨true, rfl, (fun h => by cases h), hd⟩
end Go.Proofs.Ytijkfllolcgfhaa.Pack
