/- Chapter 8: marks, styles, and what the steps of collapsing do to lists. No program but the types' numbers. -/
import Derived.Test.YtmjacmjogckihaaChar
import Derived.Test.YtmjacmjogckihaaWide
namespace Go.Proofs.Ytmjacmjogckihaa.White
open Go.RowKit
set_option linter.unusedVariables false
set_option linter.unusedSimpArgs false

/-! ### rows of records -/
theorem fm_len {α : Type} (f : α → List Value) (k : Nat) (hk : ∀ x, (f x).length = k) (xs : List α) : (xs.flatMap f).length = xs.length * k := by
  induction xs with
  | nil => simp
  | cons x xs ih => rw [List.flatMap_cons, List.length_append, ih, hk, List.length_cons, Nat.add_mul]; omega
theorem fm_at {α : Type} (f : α → List Value) (k : Nat) (hk : ∀ x, (f x).length = k) (xs : List α) (j : Nat) (c : α) (h : xs[j]? = some c) (q : Nat) (hq : q < k) : (xs.flatMap f)[j * k + q]? = (f c)[q]? := by
  induction xs generalizing j with
  | nil => simp at h
  | cons x xs ih =>
    rw [List.flatMap_cons]
    match j, h with
    | 0, h =>
      simp at h
      subst h
      rw [Nat.zero_mul, Nat.zero_add, List.getElem?_append_left (by rw [hk]; exact hq)]
    | j + 1, h =>
      have e : (j + 1) * k = j * k + k := by rw [Nat.add_mul]; omega
      rw [List.getElem?_append_right (by rw [hk, e]; omega), hk, show (j + 1) * k + q - k = j * k + q by omega]
      exact ih j (by simpa using h)
theorem reads_fm {α : Type} {f : α → List Value} {k : Nat} (hk : ∀ x, (f x).length = k) (h0 : 0 < k) {w : World} {B n : Nat} {A : Option Addr} {xs : List α} (hr : Reads w B k A n (xs.flatMap f)) {j : Nat} (hj : j < n) :
    ∃ ad c, A = some ad ∧ ad.block < B ∧ xs[j]? = some c ∧ ∀ q u, (f c)[q]? = some u → w.cell? ((ad.add (j * k)).add q) = some u := by
  obtain ⟨ad, e, hb, hc⟩ := hr.2 (by omega)
  have hl := hr.1
  rw [fm_len f k hk] at hl
  have hj2 : j < xs.length := by rw [Nat.eq_of_mul_eq_mul_right h0 hl]; exact hj
  have hx := List.getElem?_eq_getElem hj2
  refine ⟨ad, xs[j], e, hb, hx, fun q u hu => ?_⟩
  have hq : q < k := by have := (List.getElem?_eq_some_iff.1 hu).1; rwa [hk] at this
  rw [add_of_add]
  exact hc _ _ (by rw [fm_at f k hk xs j _ hx q hq]; exact hu)
theorem len_of_reads {α : Type} {f : α → List Value} {k : Nat} (hk : ∀ x, (f x).length = k) (h0 : 0 < k) {w : World} {B n : Nat} {A : Option Addr} {xs : List α} (hr : Reads w B k A n (xs.flatMap f)) : xs.length = n := by
  have hl := hr.1
  rw [fm_len f k hk] at hl
  exact Nat.eq_of_mul_eq_mul_right h0 hl

/-! ### marks -/
structure Mk where
  c : Cr
  st : Int
  fo : Bool
  en : Bool
  so : Bool
abbrev mkV (m : Mk) : Value := .agg #[.int .i32 m.c.r, .int .i64 m.c.node, .int .i64 m.c.p, .int .i64 m.c.n, .int .u8 m.c.kind, .int .u8 m.st, .bool m.fo, .bool m.en, .bool m.so]
def mkC (m : Mk) : List Value := [.int .i32 m.c.r, .int .i64 m.c.node, .int .i64 m.c.p, .int .i64 m.c.n, .int .u8 m.c.kind, .int .u8 m.st, .bool m.fo, .bool m.en, .bool m.so]
def mkL (ms : List Mk) : List Value := ms.flatMap mkC
/-- Nine cells in a row. -/
structure Cell9 (w : World) (a : Addr) (m : Mk) : Prop where
  c0 : w.cell? a = some (.int .i32 m.c.r)
  c1 : w.cell? ⟨a.block, a.off + 1, none⟩ = some (.int .i64 m.c.node)
  c2 : w.cell? ⟨a.block, a.off + 2, none⟩ = some (.int .i64 m.c.p)
  c3 : w.cell? ⟨a.block, a.off + 3, none⟩ = some (.int .i64 m.c.n)
  c4 : w.cell? ⟨a.block, a.off + 4, none⟩ = some (.int .u8 m.c.kind)
  c5 : w.cell? ⟨a.block, a.off + 5, none⟩ = some (.int .u8 m.st)
  c6 : w.cell? ⟨a.block, a.off + 6, none⟩ = some (.bool m.fo)
  c7 : w.cell? ⟨a.block, a.off + 7, none⟩ = some (.bool m.en)
  c8 : w.cell? ⟨a.block, a.off + 8, none⟩ = some (.bool m.so)
theorem cell9_of {w : World} {a : Addr} {m : Mk} (key : ∀ q u, (mkC m)[q]? = some u → w.cell? (a.add q) = some u) : Cell9 w a m := by
  have k0 := key 0 _ rfl
  have k1 := key 1 _ rfl
  have k2 := key 2 _ rfl
  have k3 := key 3 _ rfl
  have k4 := key 4 _ rfl
  have k5 := key 5 _ rfl
  have k6 := key 6 _ rfl
  have k7 := key 7 _ rfl
  have k8 := key 8 _ rfl
  rw [add_zero_] at k0
  rw [add_pos] at k1 k2 k3 k4 k5 k6 k7 k8
  exact ⟨k0, k1, k2, k3, k4, k5, k6, k7, k8⟩
theorem reads_mk {w : World} {B n : Nat} {A : Option Addr} {ms : List Mk} (hr : Reads w B 9 A n (mkL ms)) {j : Nat} (hj : j < n) :
    ∃ ad m, A = some ad ∧ ad.block < B ∧ ms[j]? = some m ∧ Cell9 w (ad.add (j * 9)) m := by
  obtain ⟨ad, m, e, hb, hm, key⟩ := reads_fm (f := mkC) (k := 9) (fun _ => rfl) (by omega) hr hj
  exact ⟨ad, m, e, hb, hm, cell9_of key⟩
theorem len_mk {w : World} {B n : Nat} {A : Option Addr} {ms : List Mk} (hr : Reads w B 9 A n (mkL ms)) : ms.length = n := len_of_reads (f := mkC) (fun _ => rfl) (by omega) hr

/-! ### styles -/
structure St where
  white : Int
  word : Int
  wrap : Int
  line : Int
  tab : Int
  font : Int
  size : Int
  hk : Int
  h : Int
abbrev stV (s : St) : Value := .agg #[.int .u8 s.white, .int .u8 s.word, .int .u8 s.wrap, .int .u8 s.line, .int .i64 s.tab, .int .i64 s.font, .int .i64 s.size, .int .u8 s.hk, .int .i64 s.h]
def stC (s : St) : List Value := [.int .u8 s.white, .int .u8 s.word, .int .u8 s.wrap, .int .u8 s.line, .int .i64 s.tab, .int .i64 s.font, .int .i64 s.size, .int .u8 s.hk, .int .i64 s.h]
def stL (ss : List St) : List Value := ss.flatMap stC
structure CellS (w : World) (a : Addr) (s : St) : Prop where
  c0 : w.cell? a = some (.int .u8 s.white)
  c1 : w.cell? ⟨a.block, a.off + 1, none⟩ = some (.int .u8 s.word)
  c2 : w.cell? ⟨a.block, a.off + 2, none⟩ = some (.int .u8 s.wrap)
  c3 : w.cell? ⟨a.block, a.off + 3, none⟩ = some (.int .u8 s.line)
  c4 : w.cell? ⟨a.block, a.off + 4, none⟩ = some (.int .i64 s.tab)
  c5 : w.cell? ⟨a.block, a.off + 5, none⟩ = some (.int .i64 s.font)
  c6 : w.cell? ⟨a.block, a.off + 6, none⟩ = some (.int .i64 s.size)
  c7 : w.cell? ⟨a.block, a.off + 7, none⟩ = some (.int .u8 s.hk)
  c8 : w.cell? ⟨a.block, a.off + 8, none⟩ = some (.int .i64 s.h)
theorem reads_st {w : World} {B n : Nat} {A : Option Addr} {ss : List St} (hr : Reads w B 9 A n (stL ss)) {j : Nat} (hj : j < n) :
    ∃ ad s, A = some ad ∧ ad.block < B ∧ ss[j]? = some s ∧ CellS w (ad.add (j * 9)) s := by
  obtain ⟨ad, s, e, hb, hm, key⟩ := reads_fm (f := stC) (k := 9) (fun _ => rfl) (by omega) hr hj
  have k0 := key 0 _ rfl
  have k1 := key 1 _ rfl
  have k2 := key 2 _ rfl
  have k3 := key 3 _ rfl
  have k4 := key 4 _ rfl
  have k5 := key 5 _ rfl
  have k6 := key 6 _ rfl
  have k7 := key 7 _ rfl
  have k8 := key 8 _ rfl
  rw [add_zero_] at k0
  rw [add_pos] at k1 k2 k3 k4 k5 k6 k7 k8
  exact ⟨ad, s, e, hb, hm, k0, k1, k2, k3, k4, k5, k6, k7, k8⟩
theorem len_st {w : World} {B n : Nat} {A : Option Addr} {ss : List St} (hr : Reads w B 9 A n (stL ss)) : ss.length = n := len_of_reads (f := stC) (fun _ => rfl) (by omega) hr

/-! ### what the steps do -/
/-- What is not taken out; 'pre': what stands ahead, the nearest first. -/
def filterZ {α : Type} (p : List α → α → List α → Bool) : List α → List α → List α
  | _, [] => []
  | pre, x :: post => if p pre x post = true then filterZ p (x :: pre) post else x :: filterZ p (x :: pre) post
def isT (c : Cr) (r : Int) : Bool := decide (c.kind = 0) && decide (c.r = r)
def whM (m : Mk) : Bool := m.fo && (isT m.c 32 || isT m.c 9)
def wideM (m : Mk) : Bool := decide (m.c.kind = 0) && (!m.en && Class.wideB m.c.r)
def hd {α : Type} (l : List α) (f : α → Bool) : Bool := l.head?.any f
def p1 (pre : List Mk) (x : Mk) (post : List Mk) : Bool := isT x.c 13 && hd post (fun m => isT m.c 10)
def p2 (pre : List Mk) (x : Mk) (post : List Mk) : Bool := whM x && (hd (pre.dropWhile whM) Mk.en || hd (post.dropWhile whM) Mk.en)
def p3 (pre : List Mk) (x : Mk) (post : List Mk) : Bool := x.so && (hd pre Mk.en || hd ((x :: post).dropWhile Mk.so) Mk.en)
def p4 (pre : List Mk) (x : Mk) (post : List Mk) : Bool := x.so && (hd pre (fun m => isT m.c 8203) || (hd post (fun m => isT m.c 8203) || (hd pre wideM && hd post wideM)))
def p5 (pre : List Mk) (x : Mk) (post : List Mk) : Bool := whM x && hd pre whM
def t1 (m : Mk) : Mk := { m with en := isT m.c 10 || isT m.c 13 }
def t2 (m : Mk) : Mk := { m with so := m.en && (m.fo && !decide (m.st = 4)) }
def t3 (m : Mk) : Mk := m
def t4 (m : Mk) : Mk := if (m.so || (m.fo && isT m.c 9)) = true then { m with c := { m.c with r := 32 } } else if m.en = true then { m with c := { m.c with r := 10, kind := 5 } } else m
def t5 (m : Mk) : Mk := if whM m = true then { m with c := { m.c with kind := 1 } } else if isT m.c 9 = true then { m with c := { m.c with kind := 4 } } else if isT m.c 32 = true then { m with c := { m.c with kind := if m.st = 3 then 2 else 3 } } else m
/-- The k-th step. -/
def stepP : Nat → List Mk → Mk → List Mk → Bool
  | 0 => p1 | 1 => p2 | 2 => p3 | 3 => p4 | _ => p5
def stepT : Nat → Mk → Mk
  | 0 => t1 | 1 => t2 | 2 => t3 | 3 => t4 | _ => t5
def stepL (k : Nat) (ms : List Mk) : List Mk := (filterZ (stepP k) [] ms).map (stepT k)
def stepsL : Nat → List Mk → List Mk
  | 0, ms => ms
  | k + 1, ms => stepL k (stepsL k ms)
theorem filterZ_len {α : Type} (p : List α → α → List α → Bool) : ∀ (pre l : List α), (filterZ p pre l).length ≤ l.length
  | _, [] => Nat.le_refl _
  | pre, x :: post => by
    unfold filterZ
    have := filterZ_len p (x :: pre) post
    split <;> simp <;> omega
theorem stepsL_len (ms : List Mk) : ∀ k, (stepsL k ms).length ≤ ms.length
  | 0 => Nat.le_refl _
  | k + 1 => by
    have := stepsL_len ms k
    have h2 := filterZ_len (stepP k) [] (stepsL k ms)
    show (stepL k (stepsL k ms)).length ≤ _
    unfold stepL
    rw [List.length_map]
    omega
/-- One more of the list. -/
theorem filterZ_step {α : Type} (p : List α → α → List α → Bool) (ms : List α) (j : Nat) (x : α) (h : ms[j]? = some x) :
    filterZ p (ms.take j).reverse (ms.drop j) = if p (ms.take j).reverse x (ms.drop (j + 1)) = true then filterZ p (ms.take (j + 1)).reverse (ms.drop (j + 1)) else x :: filterZ p (ms.take (j + 1)).reverse (ms.drop (j + 1)) := by
  obtain ⟨hj, rfl⟩ := List.getElem?_eq_some_iff.1 h
  rw [List.drop_eq_getElem_cons hj, List.take_succ_eq_append_getElem hj, List.reverse_append]
  rfl
/-! ### places -/
def geti {α : Type} (ms : List α) (i : Int) : Option α := if 0 ≤ i then ms[i.toNat]? else none
theorem geti_nat {α : Type} (ms : List α) (j : Nat) : geti ms (j : Int) = ms[j]? := by unfold geti; rw [if_pos (by omega), Int.toNat_natCast]
theorem geti_neg {α : Type} (ms : List α) (i : Int) (h : i < 0) : geti ms i = none := by unfold geti; rw [if_neg (by omega)]
theorem geti_big {α : Type} (ms : List α) (i : Int) (h : (ms.length : Int) ≤ i) : geti ms i = none := by
  unfold geti
  split
  · exact List.getElem?_eq_none (by omega)
  · rfl
def atB (ms : List Mk) (i : Int) (f : Mk → Bool) : Bool := (geti ms i).any f
theorem hd_next (ms : List Mk) (j : Nat) (f : Mk → Bool) : hd (ms.drop (j + 1)) f = atB ms ((j : Int) + 1) f := by
  unfold hd atB
  rw [List.head?_drop, show ((j : Int) + 1) = ((j + 1 : Nat) : Int) by omega, geti_nat]
theorem head_take {α : Type} (ms : List α) (j : Nat) (h : j ≤ ms.length) : (ms.take j).reverse.head? = geti ms ((j : Int) - 1) := by
  match j with
  | 0 => rfl
  | j + 1 =>
    rw [show (((j + 1 : Nat) : Int) - 1) = (j : Int) by omega, geti_nat, List.take_succ_eq_append_getElem (by omega), List.reverse_append, List.getElem?_eq_getElem (by omega)]
    rfl
theorem hd_prev (ms : List Mk) (j : Nat) (h : j ≤ ms.length) (f : Mk → Bool) : hd (ms.take j).reverse f = atB ms ((j : Int) - 1) f := by
  unfold hd atB
  rw [head_take ms j h]
theorem rev_step {α : Type} (ms : List α) (i : Nat) (x : α) (h : ms[i]? = some x) : (ms.take (i + 1)).reverse = x :: (ms.take i).reverse := by
  obtain ⟨hj, rfl⟩ := List.getElem?_eq_some_iff.1 h
  rw [List.take_succ_eq_append_getElem hj, List.reverse_append]
  rfl
theorem drop_step {α : Type} (ms : List α) (i : Nat) (x : α) (h : ms[i]? = some x) : ms.drop i = x :: ms.drop (i + 1) := by
  obtain ⟨hj, rfl⟩ := List.getElem?_eq_some_iff.1 h
  exact List.drop_eq_getElem_cons hj
end Go.Proofs.Ytmjacmjogckihaa.White
