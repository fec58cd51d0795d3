/- Chapter 23: rounds of shrinking, in plain numbers. No condition but bounds. -/
import Derived.Test.YtglomkpnbdnnoaaFlexC
namespace Go.Proofs.Ytglomkpnbdnnoaa.Flex
open Go.RowKit Go.Proofs.Ytglomkpnbdnnoaa.Unit Go.Proofs.Ytglomkpnbdnnoaa.Div
set_option linter.unusedVariables false
set_option linter.unusedSimpArgs false
def szI (x : It) (b : Bool) : Int := if b then x.least else fiI x
def wtI (x : It) (b : Bool) : Int := if b then 0 else x.shrink * x.base
def szL (xs : List It) (fz : List Bool) : List Int := List.zipWith szI xs fz
def wtL (xs : List It) (fz : List Bool) : List Int := List.zipWith wtI xs fz
/-- How much is too much. -/
def ovN (xs : List It) (room : Int) (fz : List Bool) : Int := (szL xs fz).sum - room
def ptL (xs : List It) (room : Int) (fz : List Bool) : List Int := shareL (mxV (ovN xs room fz) 0) (wtL xs fz)
/-- What a round leaves. -/
def yL (xs : List It) (room : Int) (fz : List Bool) : List Int := if (wtL xs fz).sum = 0 then szL xs fz else List.zipWith (fun s p => s - p) (szL xs fz) (ptL xs room fz)
def loI (s : Int) (x : It) : Bool := decide (s < x.least)
/-- Which are too small by a round's shares; none, where there are none. -/
def loL (xs : List It) (room : Int) (fz : List Bool) : List Bool := if (wtL xs fz).sum = 0 then List.replicate xs.length false else List.zipWith loI (yL xs room fz) xs
def nxL (xs : List It) (room : Int) (fz : List Bool) : List Bool := List.zipWith (fun a b => a || b) fz (loL xs room fz)
def moB (xs : List It) (room : Int) (fz : List Bool) : Bool := (loL xs room fz).any id
def fzK (xs : List It) (room : Int) : Nat → List Bool
  | 0 => List.replicate xs.length false
  | k + 1 => nxL xs room (fzK xs room k)
def okI (x : It) : Prop := 0 ≤ x.base ∧ x.base ≤ 1073741824 ∧ 0 ≤ x.least ∧ x.least ≤ 1073741824 ∧ 0 ≤ x.grow ∧ x.grow ≤ 1000 ∧ 0 ≤ x.shrink ∧ x.shrink ≤ 1000
theorem okI_of {x : It} (h : maI x = true) : okI x := by
  unfold maI wiB at h
  unfold okI
  simp at h
  omega
section
variable {xs : List It} {room : Int} {fz : List Bool} {n : Nat}
theorem szL_len (hx : xs.length = n) (hf : fz.length = n) : (szL xs fz).length = n := by unfold szL; rw [List.length_zipWith]; omega
theorem wtL_len (hx : xs.length = n) (hf : fz.length = n) : (wtL xs fz).length = n := by unfold wtL; rw [List.length_zipWith]; omega
theorem ptL_len (hx : xs.length = n) (hf : fz.length = n) : (ptL xs room fz).length = n := by unfold ptL; rw [shareL_len, wtL_len hx hf]
theorem yL_len (hx : xs.length = n) (hf : fz.length = n) : (yL xs room fz).length = n := by
  unfold yL
  split
  · exact szL_len hx hf
  · rw [List.length_zipWith, szL_len hx hf, ptL_len hx hf]; omega
theorem loL_len (hx : xs.length = n) (hf : fz.length = n) : (loL xs room fz).length = n := by
  unfold loL
  split
  · rw [List.length_replicate, hx]
  · rw [List.length_zipWith, yL_len hx hf, hx]; omega
theorem nxL_len (hx : xs.length = n) (hf : fz.length = n) : (nxL xs room fz).length = n := by unfold nxL; rw [List.length_zipWith, loL_len hx hf]; omega
theorem fzK_len (hx : xs.length = n) : ∀ k, (fzK xs room k).length = n
  | 0 => by unfold fzK; rw [List.length_replicate, hx]
  | k + 1 => by unfold fzK; exact nxL_len hx (fzK_len hx k)
theorem zip_at {α β γ : Type} (f : α → β → γ) (la : List α) (lb : List β) (i : Nat) (a : α) (b : β) (ha : la[i]? = some a) (hb : lb[i]? = some b) : (List.zipWith f la lb)[i]? = some (f a b) := by
  rw [List.getElem?_zipWith, ha, hb]
theorem zip_mem {α β γ : Type} (f : α → β → γ) (la : List α) (lb : List β) (c : γ) (h : c ∈ List.zipWith f la lb) : ∃ a b, a ∈ la ∧ b ∈ lb ∧ c = f a b := by
  obtain ⟨i, hi⟩ := List.getElem?_of_mem h
  rw [List.getElem?_zipWith] at hi
  cases ha : la[i]? with
  | none => rw [ha] at hi; cases hi
  | some a =>
    cases hb : lb[i]? with
    | none => rw [ha, hb] at hi; cases hi
    | some b =>
      rw [ha, hb] at hi
      injection hi with hi
      exact ⟨a, b, List.mem_of_getElem? ha, List.mem_of_getElem? hb, hi.symm⟩
theorem szL_at {i : Nat} {x : It} {b : Bool} (hx : xs[i]? = some x) (hb : fz[i]? = some b) : (szL xs fz)[i]? = some (szI x b) := zip_at szI xs fz i x b hx hb
theorem wtL_at {i : Nat} {x : It} {b : Bool} (hx : xs[i]? = some x) (hb : fz[i]? = some b) : (wtL xs fz)[i]? = some (wtI x b) := zip_at wtI xs fz i x b hx hb
theorem szI_bd {x : It} (h : okI x) (b : Bool) : 0 ≤ szI x b ∧ szI x b ≤ 1073741824 ∧ x.least ≤ szI x b := by
  unfold szI fiI mxV
  unfold okI at h
  split
  · omega
  · split <;> omega
theorem wtI_bd {x : It} (h : okI x) (b : Bool) : 0 ≤ wtI x b ∧ wtI x b ≤ 1073741824000 := by
  unfold wtI
  unfold okI at h
  split
  · omega
  · have h1 := Int.mul_nonneg (show 0 ≤ x.shrink by omega) (show 0 ≤ x.base by omega)
    have h2 := Int.mul_le_mul (show x.shrink ≤ 1000 by omega) (show x.base ≤ 1073741824 by omega) (by omega) (by omega)
    omega
theorem szL_bd (h : ∀ x ∈ xs, okI x) : ∀ s ∈ szL xs fz, 0 ≤ s ∧ s ≤ 1073741824 := fun s hs => by
  obtain ⟨x, b, hx, _, rfl⟩ := zip_mem szI xs fz s hs
  have := szI_bd (h x hx) b
  omega
theorem wtL_bd (h : ∀ x ∈ xs, okI x) : ∀ s ∈ wtL xs fz, 0 ≤ s ∧ s ≤ 1073741824000 := fun s hs => by
  obtain ⟨x, b, hx, _, rfl⟩ := zip_mem wtI xs fz s hs
  exact wtI_bd (h x hx) b
theorem mxV_nonneg (a : Int) : 0 ≤ mxV a 0 := by unfold mxV; split <;> omega
theorem wt_pos (h : ∀ x ∈ xs, okI x) (hs : ¬ (wtL xs fz).sum = 0) : 1 ≤ (wtL xs fz).sum := by
  have := sT_nonneg (wtL xs fz) (fun x hx => (wtL_bd h x hx).1) (wtL xs fz).length
  rw [sT_all _ _ (Nat.le_refl _)] at this
  omega
/-- One that is frozen stays as it is. -/
theorem frozen_stays (h : ∀ x ∈ xs, okI x) (hlx : xs.length = n) (hlf : fz.length = n) {i : Nat} (hb : fz[i]? = some true) : (loL xs room fz)[i]? = some false := by
  have hi : i < n := by have := (List.getElem?_eq_some_iff.1 hb).1; omega
  unfold loL
  split
  · rw [List.getElem?_replicate]
    rw [if_pos (by omega)]
  · rename_i hs
    obtain ⟨x, hx⟩ : ∃ x, xs[i]? = some x := ⟨_, List.getElem?_eq_getElem (by omega)⟩
    have hw : (wtL xs fz)[i]? = some 0 := by rw [wtL_at hx hb]; rfl
    have hz : (szL xs fz)[i]? = some x.least := by rw [szL_at hx hb]; rfl
    have hp : (ptL xs room fz)[i]? = some 0 := by
      unfold ptL
      rw [shareL_at _ _ i (by rw [wtL_len hlx hlf]; exact hi), shN_none _ _ i hw]
    have hy : (yL xs room fz)[i]? = some (x.least - 0) := by
      unfold yL
      rw [if_neg hs]
      exact zip_at _ _ _ i _ _ hz hp
    rw [zip_at loI _ _ i _ _ hy hx]
    unfold loI
    rw [decide_eq_false (by omega)]
/-- How many are not frozen. -/
def cF (fz : List Bool) : Nat := (fz.filter (fun b => !b)).length
theorem cF_next (fs ls : List Bool) (hl : fs.length = ls.length) (hst : ∀ i : Nat, fs[i]? = some true → ls[i]? = some false) : cF (List.zipWith (fun a b => a || b) fs ls) + (ls.filter id).length = cF fs := by
  induction fs generalizing ls with
  | nil => cases ls with
    | nil => rfl
    | cons l ls => simp at hl
  | cons f fs ih => cases ls with
    | nil => simp at hl
    | cons l ls =>
      have ih := ih ls (by simpa using hl) (fun i hi => by simpa using hst (i + 1) (by simpa using hi))
      have h0 := hst 0
      unfold cF at ih ⊢
      rw [List.zipWith_cons_cons]
      cases f with
      | true =>
        have := h0 (by simp)
        simp at this
        subst this
        simpa using ih
      | false =>
        cases l with
        | true => simp at ih ⊢; omega
        | false => simp at ih ⊢; omega
theorem cF_less (h : ∀ x ∈ xs, okI x) (hlx : xs.length = n) (hlf : fz.length = n) (hm : moB xs room fz = true) : cF (nxL xs room fz) < cF fz := by
  have := cF_next fz (loL xs room fz) (by rw [loL_len hlx hlf, hlf]) (fun i hi => frozen_stays h hlx hlf hi)
  unfold nxL
  have hp : 0 < ((loL xs room fz).filter id).length := by
    unfold moB at hm
    rw [List.any_eq_true] at hm
    obtain ⟨b, hb, hb2⟩ := hm
    exact List.length_pos_of_mem (List.mem_filter.2 ⟨hb, hb2⟩)
  omega
/-- The rounds end. -/
theorem rounds_end_ (h : ∀ x ∈ xs, okI x) (hlx : xs.length = n) : ∀ (m k : Nat), cF (fzK xs room k) ≤ m → ∃ r, k ≤ r ∧ r ≤ k + m ∧ moB xs room (fzK xs room r) = false ∧ ∀ j, k ≤ j → j < r → moB xs room (fzK xs room j) = true
  | m, k, hc => by
    cases hm : moB xs room (fzK xs room k) with
    | false => exact ⟨k, Nat.le_refl _, by omega, hm, fun j h1 h2 => by omega⟩
    | true =>
      have hl := cF_less h hlx (fzK_len hlx k) hm
      have hl' : cF (fzK xs room (k + 1)) < cF (fzK xs room k) := hl
      cases m with
      | zero => omega
      | succ m =>
        obtain ⟨r, h1, h0, h2, h3⟩ := rounds_end_ h hlx m (k + 1) (by omega)
        refine ⟨r, by omega, by omega, h2, fun j j1 j2 => ?_⟩
        rcases Nat.eq_or_lt_of_le j1 with e | e
        · rw [← e]; exact hm
        · exact h3 j e j2
theorem cF_le (fs : List Bool) : cF fs ≤ fs.length := by unfold cF; exact List.length_filter_le _ _
theorem rounds_end (h : ∀ x ∈ xs, okI x) (room : Int) : ∃ r, r ≤ xs.length ∧ moB xs room (fzK xs room r) = false ∧ ∀ j, j < r → moB xs room (fzK xs room j) = true := by
  obtain ⟨r, _, h1, h2, h3⟩ := rounds_end_ (room := room) h rfl _ 0 (Nat.le_refl _)
  have := cF_le (fzK xs room 0)
  rw [fzK_len rfl 0] at this
  exact ⟨r, by omega, h2, fun j hj => h3 j (by omega) hj⟩
end
/-- The last round's sizes, within so many rounds. -/
def finL (xs : List It) (room : Int) : Nat → List Bool → List Int
  | 0, fz => yL xs room fz
  | m + 1, fz => if moB xs room fz = true then finL xs room m (nxL xs room fz) else yL xs room fz
theorem finL_eq (xs : List It) (room : Int) (r : Nat) (h1 : moB xs room (fzK xs room r) = false) (h2 : ∀ j, j < r → moB xs room (fzK xs room j) = true) : ∀ (m k : Nat), k ≤ r → r ≤ k + m → finL xs room m (fzK xs room k) = yL xs room (fzK xs room r)
  | 0, k, h3, h4 => by
    obtain rfl : k = r := by omega
    rfl
  | m + 1, k, h3, h4 => by
    unfold finL
    rcases Nat.lt_or_eq_of_le h3 with h | h
    · rw [if_pos (h2 k h)]
      exact finL_eq xs room r h1 h2 m (k + 1) h (by omega)
    · subst h
      rw [if_neg (by rw [h1]; simp)]
/-! ### what Sizes answers -/
def okS (xs : List It) (room : Int) : Bool := wiB room 1073741824 && !xs.any (fun x => !maI x)
def fsum (xs : List It) : Int := (xs.map fiI).sum
def sizesL (xs : List It) (room : Int) : List Int :=
  if fsum xs ≤ room then (if (xs.map It.grow).sum = 0 then xs.map fiI else List.zipWith (fun a b => a + b) (xs.map fiI) (shareL (room - fsum xs) (xs.map It.grow)))
  else finL xs room xs.length (List.replicate xs.length false)
def ansS (xs : List It) (room : Int) : List Int := if okS xs room = true then sizesL xs room else []
def errS (xs : List It) (room : Int) : Int := if okS xs room = true then 0 else 2
theorem okS_parts {xs : List It} {room : Int} (h : okS xs room = true) : 0 ≤ room ∧ room ≤ 1073741824 ∧ (∀ x ∈ xs, okI x) := by
  unfold okS wiB at h
  simp at h
  exact ⟨h.1.1, h.1.2, fun x hx => okI_of (h.2 x hx)⟩
theorem finL_len (xs : List It) (room : Int) : ∀ (m : Nat) (fz : List Bool), fz.length = xs.length → (finL xs room m fz).length = xs.length
  | 0, fz, h => yL_len rfl h
  | m + 1, fz, h => by
    unfold finL
    split
    · exact finL_len xs room m _ (nxL_len rfl h)
    · exact yL_len rfl h
theorem sizesL_len (xs : List It) (room : Int) : (sizesL xs room).length = xs.length := by
  unfold sizesL
  split
  · split
    · rw [List.length_map]
    · rw [List.length_zipWith, List.length_map, shareL_len, List.length_map]; omega
  · exact finL_len xs room _ _ (by rw [List.length_replicate])
/-- What the rounds hand over, k of them. -/
def ysL (xs : List It) (room : Int) (k : Nat) : List (List Int) := (List.range k).map fun j => yL xs room (fzK xs room j)
theorem ysL_succ (xs : List It) (room : Int) (k : Nat) : ysL xs room (k + 1) = ysL xs room k ++ [yL xs room (fzK xs room k)] := by
  unfold ysL
  rw [List.range_succ, List.map_append]
  rfl
theorem ysL_pre (xs : List It) (room : Int) (k r : Nat) (h : k ≤ r) : ysL xs room k <+: ysL xs room r := by
  have : List.range r = List.range k ++ (List.range (r - k)).map (k + ·) := by rw [← List.range_add, Nat.add_sub_cancel' h]
  unfold ysL
  rw [this, List.map_append]
  exact List.prefix_append _ _
end Go.Proofs.Ytglomkpnbdnnoaa.Flex
