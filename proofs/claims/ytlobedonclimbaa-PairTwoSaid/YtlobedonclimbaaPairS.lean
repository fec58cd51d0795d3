/- Chapter 9, in plain words: what characters count as, the places, the rules. No condition. -/
namespace Go.Proofs.Ytlobedonclimbaa.Pair
set_option linter.unusedVariables false

structure Pl where
  a : Int
  o : Int
  b : Int
  cl : Bool
deriving DecidableEq

def isL (c : Int) : List Int → Bool
  | [] => false
  | x :: l => c == x || isL c l
def bothL (a b : Int) : List Int → Bool
  | x :: y :: l => (a == x && b == y) || bothL a b l
  | _ => false
def cnt (c a : Int) : Int × Bool :=
  if c = 20 then (19, false) else if 26 < c then (0, false) else if c ≠ 9 then (c, false) else if isL a [255, 1, 2, 3, 4, 5, 6] then (0, false) else (a, true)
def lastO (a o : Int) : Int := if a ≠ 5 ∧ a ≠ 255 then a else o
def stepP (p : Pl) (c : Int) : Pl := ⟨p.b, lastO p.b p.o, (cnt c p.b).1, (cnt c p.b).2⟩
def pl0 : Pl := ⟨0, 255, 255, false⟩
def isR (k : Nat) (p : Pl) : Bool :=
  match k with
  | 0 => p.a == 1
  | 1 => bothL p.a p.b [2, 3]
  | 2 => isL p.a [2, 3, 4]
  | 3 => isL p.b [1, 2, 3, 4]
  | 4 => isL p.b [5, 6]
  | 5 => p.o == 6
  | 6 => p.cl
  | 7 => p.a == 7 || p.b == 7
  | 8 => p.a == 8 || p.b == 8 && !isL p.a [5, 10, 13]
  | 9 => isL p.b [15, 17, 18]
  | 10 => p.o == 14
  | 11 => p.o == 16 && p.b == 14
  | 12 => p.o == 15 && p.b == 19
  | 13 => p.o == 12 && p.b == 12
  | 14 => p.a == 5
  | 15 => p.a == 16 || p.b == 16
  | 16 => p.a == 26 || p.b == 26
  | 17 => isL p.b [10, 13, 19] || p.a == 11
  | 18 => p.b == 21
  | 19 => bothL p.a p.b [0, 22, 22, 0, 23, 25, 25, 24]
  | 20 => bothL p.a p.b [23, 0, 24, 0, 0, 23, 0, 24]
  | 21 => isL p.a [15, 22] && isL p.b [24, 23] || isL p.a [24, 23] && isL p.b [14, 22] || isL p.a [13, 18, 22] && p.b == 22
  | 22 => bothL p.a p.b [0, 0]
  | 23 => bothL p.a p.b [18, 0]
  | _ => true
def numR (k : Nat) : Int := [4, 5, 5, 6, 7, 8, 9, 11, 12, 13, 14, 15, 16, 17, 18, 19, 20, 21, 22, 23, 24, 25, 28, 29].getD k 31
def mayR (k : Nat) : Bool := k == 0 || k == 2 || k == 5 || k == 14 || k == 16 || k ≥ 24
def firstR (p : Pl) (k fuel : Nat) : Nat := match fuel with
  | 0 => k
  | fuel + 1 => if isR k p then k else firstR p (k + 1) fuel
def ruleP (p : Pl) : Nat := firstR p 0 24
theorem firstR_le (p : Pl) (fuel k : Nat) : k ≤ firstR p k fuel ∧ firstR p k fuel ≤ k + fuel := by
  induction fuel generalizing k with
  | zero => simp [firstR]
  | succ fuel ih =>
    unfold firstR
    split
    · omega
    · have := ih (k + 1); omega
theorem ruleP_lt (p : Pl) : ruleP p < 25 := by have := (firstR_le p 24 0).2; unfold ruleP; omega
theorem firstR_is (p : Pl) (fuel k : Nat) (h : k + fuel = 24) : isR (firstR p k fuel) p = true ∧ ∀ j, k ≤ j → j < firstR p k fuel → isR j p = false := by
  induction fuel generalizing k with
  | zero =>
    obtain rfl : k = 24 := by omega
    exact ⟨rfl, fun j h1 h2 => by simp [firstR] at h2; omega⟩
  | succ fuel ih =>
    unfold firstR
    by_cases hk : isR k p = true
    · rw [if_pos hk]
      exact ⟨hk, fun j h1 h2 => by omega⟩
    · rw [if_neg hk]
      obtain ⟨h1, h2⟩ := ih (k + 1) (by omega)
      refine ⟨h1, fun j h3 h4 => ?_⟩
      by_cases e : j = k
      · subst e; simpa using hk
      · exact h2 j (by omega) h4
theorem ruleP_is (p : Pl) : isR (ruleP p) p = true ∧ ∀ j, j < ruleP p → isR j p = false :=
  ⟨(firstR_is p 24 0 rfl).1, fun j h => (firstR_is p 24 0 rfl).2 j (Nat.zero_le _) h⟩

/-- The places' states, one behind each character. -/
def states (p : Pl) : List Int → List Pl
  | [] => []
  | c :: l => stepP p c :: states (stepP p c) l
theorem states_length (p : Pl) (l : List Int) : (states p l).length = l.length := by
  induction l generalizing p with
  | nil => rfl
  | cons c l ih => simp [states, ih]
def finalP (p : Pl) (l : List Int) : Pl := l.foldl stepP p
theorem states_append (p : Pl) (l m : List Int) : states p (l ++ m) = states p l ++ states (finalP p l) m := by
  induction l generalizing p with
  | nil => rfl
  | cons c l ih => simp [states, ih, finalP]
theorem finalP_snoc (p : Pl) (l : List Int) (c : Int) : finalP p (l ++ [c]) = stepP (finalP p l) c := by simp [finalP]
/-- What is told of each place: of the first one the zero, of the others what the rule says. -/
def tellL {β : Type} (z : β) (f : Nat → β) (l : List Int) : List β :=
  match states pl0 l with
  | [] => []
  | _ :: r => z :: r.map fun p => f (ruleP p)
theorem tellL_length {β : Type} (z : β) (f : Nat → β) (l : List Int) : (tellL z f l).length = l.length := by
  have := states_length pl0 l
  unfold tellL
  split
  · rename_i h; rw [h] at this; simpa using this
  · rename_i h; rw [h] at this; simp at this ⊢; omega
end Go.Proofs.Ytlobedonclimbaa.Pair
