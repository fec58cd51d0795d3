/- Chapter 5: which fonts may be; how far a code point goes: the program's and the reference's, walked. No condition but a bound on how many ranges. -/
import Derived.Test.YtedpmehggpomnaaFont
namespace Go.Proofs.Ytedpmehggpomnaa.Font
open Go.RowKit Go.Proofs.Ytedpmehggpomnaa.Unit
set_option linter.unusedVariables false

theorem reads_at (w : World) (t : TypeId) (cs : Array Value) (n g : Nat) (xs : List Value) (h : cs.toList = xs) (hn : xs.length = n) (hg : w.heap.size = g) :
    Reads (w.alloc (.cells cs t)) (w.alloc (.cells cs t)).heap.size 1 (some ⟨g, 0, none⟩) n xs := by
  subst hg
  exact reads_new w t cs n xs h hn
abbrev Rng := Int × Int × Int
def encA (x : Rng) : List Value := [.int .i32 x.1, .int .i32 x.2.1, .int .i64 x.2.2]
def dA : Rng := (0, 0, 0)
def wfA (x : Rng) : Prop := (Lit.int .i32 x.1).wf = true ∧ (Lit.int .i32 x.2.1).wf = true ∧ (Lit.int .i64 x.2.2).wf = true
abbrev fontV (a d g x o : Int) (A : Option Addr) (n c : Nat) : Value := .agg #[.int .i64 a, .int .i64 d, .int .i64 g, .int .i64 x, .int .i64 o, .slice A n c]
/-- The ranges lie in memory. -/
def RA (w : World) (A : Option Addr) (n : Nat) (rs : List Rng) : Prop := rs.length = n ∧ Reads w w.heap.size 3 A n (rs.flatMap encA)
theorem RA.keep {w w' : World} {A : Option Addr} {n : Nat} {rs : List Rng} (h : RA w A n rs) (hb : Below w.heap.size w w') : RA w' A n rs := ⟨h.1, (h.2.below hb).more hb.size⟩
theorem RA.at_ {w : World} {A : Option Addr} {n k : Nat} {rs : List Rng} (h : RA w A n rs) (hk : k < n) : ∃ ad, A = some ad ∧ ad.block < w.heap.size ∧ w.cell? (ad.add (k * 3)) = some (.int .i32 (rs[k]?.getD dA).1) ∧ w.cell? ⟨(ad.add (k * 3)).block, (ad.add (k * 3)).off + 1, none⟩ = some (.int .i32 (rs[k]?.getD dA).2.1) ∧ w.cell? ⟨(ad.add (k * 3)).block, (ad.add (k * 3)).off + 2, none⟩ = some (.int .i64 (rs[k]?.getD dA).2.2) := by
  obtain ⟨hl, hlen, hr⟩ := h
  obtain ⟨ad, rfl, hb, hc⟩ := hr (by omega)
  have e : ∀ d, d < 3 → (rs.flatMap encA)[k * 3 + d]? = (encA (rs[k]'(by omega)))[d]? := fun d hd => flat_get d hd rs k (fun _ _ => rfl) (by omega)
  have eg : rs[k]?.getD dA = rs[k]'(by omega) := by rw [List.getElem?_eq_getElem (by omega)]; rfl
  rw [eg]
  exact ⟨ad, rfl, hb, hc _ _ (by have := e 0 (by omega); rw [Nat.add_zero] at this; rw [this]; rfl), by rw [← add_pos, add_of_add]; exact hc _ _ (by rw [e 1 (by omega)]; rfl), by rw [← add_pos, add_of_add]; exact hc _ _ (by rw [e 2 (by omega)]; rfl)⟩

def chainB : Int → List Rng → Bool
  | _, [] => true
  | b, (f, t, a) :: rs => decide (b ≤ f) && decide (f ≤ t) && decide (t ≤ 1114111) && mayF a && chainB (t + 1) rs
def chkB (a d g x o : Int) (rs : List Rng) : Bool := allF [a, d, g, x, o] && decide (rs.length ≤ 256) && chainB 0 rs
theorem chain_step (b : Int) (rs : List Rng) (k : Nat) (h : k < rs.length) : chainB b (rs.drop k) = (decide (b ≤ (rs[k]?.getD dA).1) && decide ((rs[k]?.getD dA).1 ≤ (rs[k]?.getD dA).2.1) && decide ((rs[k]?.getD dA).2.1 ≤ 1114111) && mayF (rs[k]?.getD dA).2.2 && chainB ((rs[k]?.getD dA).2.1 + 1) (rs.drop (k + 1))) := by
  rw [List.drop_eq_getElem_cons h, List.getElem?_eq_getElem h]
  rfl

theorem chk_end {b : Bool} (R : Int) (h : (if b then (0 : Int) else 50) = R) : (b = true → R = 0) ∧ (b = false → R = 50) := by
  subst h
  exact ⟨fun h => by rw [h]; rfl, fun h => by rw [h]; rfl⟩
def stepB (b f t v : Int) : Bool := decide (b ≤ f) && decide (f ≤ t) && decide (t ≤ 1114111) && mayF v
theorem step_cases (b f t v : Int) : (stepB b f t v = true ∧ b ≤ f ∧ f ≤ t ∧ t ≤ 1114111 ∧ mayF v = true) ∨ (stepB b f t v = false ∧ (f < b ∨ (b ≤ f ∧ t < f) ∨ (b ≤ f ∧ f ≤ t ∧ 1114111 < t) ∨ (b ≤ f ∧ f ≤ t ∧ t ≤ 1114111 ∧ mayF v = false))) := by
  unfold stepB
  by_cases h1 : b ≤ f <;> by_cases h2 : f ≤ t <;> by_cases h3 : t ≤ 1114111 <;> cases h4 : mayF v <;> simp [h1, h2, h3, h4] <;> omega
theorem i32_wf {n : Int} (h : (Lit.int .i32 n).wf = true) : -2147483648 ≤ n ∧ n ≤ 2147483647 := (Lit.wf_int_iff .i32 n).1 h
set_option maxHeartbeats 8000000 in
set_option maxRecDepth 100000 in
theorem check_x (a d g x o : Int) (A : Option Addr) (n c : Nat) (rs : List Rng) (hn : n ≤ 256) (ha : allF [a, d, g, x, o] = true) (R : Int) (hR : (if chainB 0 rs then (0 : Int) else 50) = R) (w : World) (hr : RA w A n rs) (hw : ∀ y ∈ rs, wfA y) :
    Calls Try.prog 35 #[fontV a d g x o A n c] w fun e w' => e = .returned (.int .i64 R) ∧ Below w.heap.size w w' := by
  have HR := Lib.hid hr
  have HW := Lib.hid hw
  have HA := Lib.hid ha
  have HE := Lib.hid (chk_end R hR)
  clear hr hw ha hR
  go_enter Try.func35, Try.ntmps35
  go_wp2_with (go_at_call 45; refine (may_any _ 5 5 [a, d, g, x, o] _ rfl ?_ (by omega)).mono ?_; exact reads_at _ _ _ _ _ _ rfl rfl (by simp); rintro e w2 ⟨rfl, ⟨m2, rfl⟩⟩; rw [HA.out])
  go_loopw [3, 28] (fun bv iv wr => ∃ (b : Int) (k : Nat), bv = .int .i32 b ∧ iv = .int .i64 k ∧ k ≤ n ∧ 0 ≤ b ∧ b ≤ 1114112 ∧ Hid (chainB 0 rs = chainB b (rs.drop k)) ∧ Below w.heap.size w wr) (fun bv iv wr => n - (intOf iv).toNat)
  case atStart => exact ⟨0, 0, rfl, rfl, by omega, by omega, by omega, Lib.hid rfl, by repeat (first | exact Below.refl _ _ | refine bel_alloc ?_ _ | refine bel_drewN ?_ _)⟩
  case round =>
    obtain ⟨b, k, rfl, rfl, hk, b0, b1, HC, hb⟩ := hrel
    by_cases hlt : k < n
    · obtain ⟨ad, rfl, had, h0, h1, h2⟩ := (HR.out.keep hb).at_ hlt
      have CS := Lib.hid (chain_step b rs k (by rw [HR.out.1]; exact hlt))
      generalize rs[k]?.getD dA = y at h0 h1 h2 CS
      obtain ⟨f, t, v⟩ := y
      obtain ⟨wo, rfl⟩ : ∃ wo : World, wo = wr := ⟨_, rfl⟩
      rcases step_cases b f t v with ⟨hs, s1, s2, s3, s4⟩ | ⟨hs, hcase⟩
      · have HCN : Hid (chainB 0 rs = chainB (t + 1) (rs.drop (k + 1))) := Lib.hid (by
          rw [HC.out, CS.out]
          show (stepB b f t v && _) = _
          rw [hs, Bool.true_and])
        have HM := Lib.hid (show allF [v] = true by simpa [allF] using s4)
        have t0 : 0 ≤ t := by omega
        have e1 : IntKind.i32.wrap (t + 1) = t + 1 := by simp [IntKind.wrap, IntKind.bits, IntKind.signed]; omega
        clear hs s4 CS
        go_wp2_with (go_at_call 45; refine (may_any _ 1 1 [v] _ rfl ?_ (by omega)).mono ?_; exact reads_at _ _ _ _ _ _ rfl rfl (by simp); rintro e w3 ⟨rfl, ⟨m3, rfl⟩⟩; rw [HM.out])
        go_roundw
        case rel => exact ⟨t + 1, k + 1, by go_num, by go_num, by omega, by omega, by omega, HCN, by repeat (first | exact hb | refine bel_alloc ?_ _ | refine bel_drewN ?_ _)⟩
        case measure => simp [intOf]; omega
      · have HF := Lib.hid (HE.out.2 (by
          rw [HC.out, CS.out]
          show (stepB b f t v && _) = _
          rw [hs, Bool.false_and]))
        clear hs CS
        rcases hcase with hq | ⟨q1, hq⟩ | ⟨q1, q2, hq⟩ | ⟨q1, q2, q3, hq⟩
        · go_wp2
          go_ret
          exact ⟨ret_int HF.out.symm, by repeat (first | exact hb | refine bel_alloc ?_ _ | refine bel_drewN ?_ _)⟩
        · go_wp2
          go_ret
          exact ⟨ret_int HF.out.symm, by repeat (first | exact hb | refine bel_alloc ?_ _ | refine bel_drewN ?_ _)⟩
        · go_wp2
          go_ret
          exact ⟨ret_int HF.out.symm, by repeat (first | exact hb | refine bel_alloc ?_ _ | refine bel_drewN ?_ _)⟩
        · have HM := Lib.hid (show allF [v] = false by simpa [allF] using hq)
          clear hq
          go_wp2_with (go_at_call 45; refine (may_any _ 1 1 [v] _ rfl ?_ (by omega)).mono ?_; exact reads_at _ _ _ _ _ _ rfl rfl (by simp); rintro e w3 ⟨rfl, ⟨m3, rfl⟩⟩; rw [HM.out])
          go_ret
          exact ⟨ret_int HF.out.symm, by repeat (first | exact hb | refine bel_alloc ?_ _ | refine bel_drewN ?_ _)⟩
    · obtain rfl : k = n := by omega
      have HF := Lib.hid (HE.out.1 (by
        rw [HC.out, List.drop_of_length_le (by rw [HR.out.1]; omega)]
        rfl))
      go_wp2
      go_ret
      exact ⟨ret_int HF.out.symm, hb⟩
end Go.Proofs.Ytedpmehggpomnaa.Font
