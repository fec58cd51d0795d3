/- Chapter 8: the list of the steps, walked; a step asked of a place. No condition but bounds. -/
import Derived.Test.YtmjacmjogckihaaWhiteD
import Derived.Laws.EntriesVeiled
namespace Go.Proofs.Ytmjacmjogckihaa.White
open Go.RowKit
set_option linter.unusedVariables false
set_option linter.unusedSimpArgs false
/-- The function that takes out, of the k-th step. -/
def outF (B : Nat) : Nat → Value
  | 0 => .func (.func 40) #[] #[]
  | 1 => .func (.func 44) #[] #[.pointer (some ⟨B, 0, none⟩)]
  | 2 => .func (.func 48) #[] #[.pointer (some ⟨B, 0, none⟩)]
  | 3 => .func (.func 51) #[] #[.pointer (some ⟨B + 2, 0, none⟩), .pointer (some ⟨B + 1, 0, none⟩)]
  | _ => .func (.func 53) #[] #[]
def turnG : Nat → Nat
  | 0 => 43 | 1 => 47 | 2 => 50 | 3 => 52 | _ => 54
def turnF (k : Nat) : Value := .func (.func (turnG k)) #[] #[]
def stepRow (B : Nat) : Array Value := #[outF B 0, turnF 0, outF B 1, turnF 1, outF B 2, turnF 2, outF B 3, turnF 3, outF B 4, turnF 4]
/-- The boxes of the steps' functions, and their list. -/
structure SW (B : Nat) (V : World) : Prop where
  b1 : Blk V B 68 #[.func (.func 35) #[] #[]]
  b2 : Blk V (B + 1) 68 #[.func (.func 36) #[] #[]]
  b3 : Blk V (B + 2) 68 #[.func (.func 38) #[] #[]]
  b4 : Blk V (B + 3) 53 (stepRow B)
theorem SW.keep {B : Nat} {V V' : World} (h : SW B V) (hb : Below V.heap.size V V') : SW B V' := ⟨h.b1.keep hb, h.b2.keep hb, h.b3.keep hb, h.b4.keep hb⟩
theorem SW.new (w : World) : SW w.heap.size ((((w.alloc (.cells #[.func (.func 35) #[] #[]] 68)).alloc (.cells #[.func (.func 36) #[] #[]] 68)).alloc (.cells #[.func (.func 38) #[] #[]] 68)).alloc (.cells (stepRow w.heap.size) 53)) := by
  have e1 := World.size_alloc w (.cells #[.func (.func 35) #[] #[]] 68)
  have e2 := World.size_alloc (w.alloc (.cells #[.func (.func 35) #[] #[]] 68)) (.cells #[.func (.func 36) #[] #[]] 68)
  have e3 := World.size_alloc ((w.alloc (.cells #[.func (.func 35) #[] #[]] 68)).alloc (.cells #[.func (.func 36) #[] #[]] 68)) (.cells #[.func (.func 38) #[] #[]] 68)
  have n1 := Blk.new w 68 #[.func (.func 35) #[] #[]]
  have n2 := Blk.new (w.alloc (.cells #[.func (.func 35) #[] #[]] 68)) 68 #[.func (.func 36) #[] #[]]
  have n3 := Blk.new ((w.alloc (.cells #[.func (.func 35) #[] #[]] 68)).alloc (.cells #[.func (.func 36) #[] #[]] 68)) 68 #[.func (.func 38) #[] #[]]
  have n4 := Blk.new (((w.alloc (.cells #[.func (.func 35) #[] #[]] 68)).alloc (.cells #[.func (.func 36) #[] #[]] 68)).alloc (.cells #[.func (.func 38) #[] #[]] 68)) 53 (stepRow w.heap.size)
  rw [e1] at n2
  rw [e2, e1] at n3
  rw [e3, e2, e1] at n4
  exact ⟨((n1.alloc _).alloc _).alloc _, (n2.alloc _).alloc _, n3.alloc _, n4⟩
theorem steps_any (w : World) : Calls Try.prog 22 #[] w fun e w' => e = .returned (.slice (some ⟨w.heap.size + 3, 0, none⟩) 5 5) ∧ SW w.heap.size w' ∧ Below w.heap.size w w' := by
  have HN := Lib.hid (SW.new w)
  have HB := Lib.hid (bel_alloc (bel_alloc (bel_alloc (bel_alloc (Below.refl w.heap.size w) (.cells #[.func (.func 35) #[] #[]] 68)) (.cells #[.func (.func 36) #[] #[]] 68)) (.cells #[.func (.func 38) #[] #[]] 68)) (.cells (stepRow w.heap.size) 53))
  go_enter Try.func22, Try.ntmps22
  go_wp2
  go_ret
  exact ⟨rfl, HN.out, HB.out⟩

theorem coll0 (A : Option Addr) (n c : Nat) (ms : List Mk) (j : Nat) (hj : j < n) (hn : n ≤ 1000000000) (B bx ba : Nat) (V : World) (hR : Reads V V.heap.size 9 A n (mkL ms)) (hs : SW B V) (hx : Blk V bx 53 #[outF B 0, turnF 0]) (ha : Blk V ba 45 #[.slice A n c]) :
    Calls Try.prog 24 #[.int .i64 j, .pointer (some ⟨bx, 0, none⟩), .pointer (some ⟨ba, 0, none⟩)] V fun e w' => e = .returned (.bool (outAt (stepP 0) ms j)) ∧ Below V.heap.size V w' := by
  have H := Lib.hid (out1_any A n c ms j hj hn V hR)
  have x0 : V.cell? ⟨bx, 0, none⟩ = some (outF B 0) := hx.cell 0
  have a0 := ha.cell 0
  unfold outF at x0
  clear hR hs hx ha
  show Calls Try.prog 24 #[.int .i64 j, .pointer (some ⟨bx, 0, none⟩), .pointer (some ⟨ba, 0, none⟩)] V fun e w' => e = .returned (.bool (outAt p1 ms j)) ∧ Below V.heap.size V w'
  generalize outAt p1 ms j = r at H ⊢
  go_enter Try.func24, Try.ntmps24
  go_wp2_with (go_at_call 40; (with_reducible refine H.out.mono ?_); rintro e w1 ⟨rfl, b1⟩)
  go_ret
  exact ⟨rfl, b1⟩
theorem coll1 (A : Option Addr) (n c : Nat) (ms : List Mk) (j : Nat) (hj : j < n) (hn : n ≤ 1000000000) (B bx ba : Nat) (V : World) (hR : Reads V V.heap.size 9 A n (mkL ms)) (hs : SW B V) (hx : Blk V bx 53 #[outF B 1, turnF 1]) (ha : Blk V ba 45 #[.slice A n c]) :
    Calls Try.prog 24 #[.int .i64 j, .pointer (some ⟨bx, 0, none⟩), .pointer (some ⟨ba, 0, none⟩)] V fun e w' => e = .returned (.bool (outAt (stepP 1) ms j)) ∧ Below V.heap.size V w' := by
  have H := Lib.hid (out2_any A n c ms j hj hn B V hR hs.b1)
  have x0 : V.cell? ⟨bx, 0, none⟩ = some (outF B 1) := hx.cell 0
  have a0 := ha.cell 0
  unfold outF at x0
  clear hR hs hx ha
  show Calls Try.prog 24 #[.int .i64 j, .pointer (some ⟨bx, 0, none⟩), .pointer (some ⟨ba, 0, none⟩)] V fun e w' => e = .returned (.bool (outAt p2 ms j)) ∧ Below V.heap.size V w'
  generalize outAt p2 ms j = r at H ⊢
  go_enter Try.func24, Try.ntmps24
  go_wp2_with (go_at_call 44; (with_reducible refine H.out.mono ?_); rintro e w1 ⟨rfl, b1⟩)
  go_ret
  exact ⟨rfl, b1⟩
theorem coll2 (A : Option Addr) (n c : Nat) (ms : List Mk) (j : Nat) (hj : j < n) (hn : n ≤ 1000000000) (B bx ba : Nat) (V : World) (hR : Reads V V.heap.size 9 A n (mkL ms)) (hs : SW B V) (hx : Blk V bx 53 #[outF B 2, turnF 2]) (ha : Blk V ba 45 #[.slice A n c]) :
    Calls Try.prog 24 #[.int .i64 j, .pointer (some ⟨bx, 0, none⟩), .pointer (some ⟨ba, 0, none⟩)] V fun e w' => e = .returned (.bool (outAt (stepP 2) ms j)) ∧ Below V.heap.size V w' := by
  have H := Lib.hid (out3_any A n c ms j hj hn B V hR hs.b1)
  have x0 : V.cell? ⟨bx, 0, none⟩ = some (outF B 2) := hx.cell 0
  have a0 := ha.cell 0
  unfold outF at x0
  clear hR hs hx ha
  show Calls Try.prog 24 #[.int .i64 j, .pointer (some ⟨bx, 0, none⟩), .pointer (some ⟨ba, 0, none⟩)] V fun e w' => e = .returned (.bool (outAt p3 ms j)) ∧ Below V.heap.size V w'
  generalize outAt p3 ms j = r at H ⊢
  go_enter Try.func24, Try.ntmps24
  go_wp2_with (go_at_call 48; (with_reducible refine H.out.mono ?_); rintro e w1 ⟨rfl, b1⟩)
  go_ret
  exact ⟨rfl, b1⟩
theorem coll3 (A : Option Addr) (n c : Nat) (ms : List Mk) (j : Nat) (hj : j < n) (hn : n ≤ 1000000000) (B bx ba : Nat) (V : World) (hR : Reads V V.heap.size 9 A n (mkL ms)) (hs : SW B V) (hx : Blk V bx 53 #[outF B 3, turnF 3]) (ha : Blk V ba 45 #[.slice A n c]) :
    Calls Try.prog 24 #[.int .i64 j, .pointer (some ⟨bx, 0, none⟩), .pointer (some ⟨ba, 0, none⟩)] V fun e w' => e = .returned (.bool (outAt (stepP 3) ms j)) ∧ Below V.heap.size V w' := by
  have H := Lib.hid (out4_any A n c ms j hj hn (B + 2) (B + 1) V hR hs.b3 hs.b2)
  have x0 : V.cell? ⟨bx, 0, none⟩ = some (outF B 3) := hx.cell 0
  have a0 := ha.cell 0
  unfold outF at x0
  clear hR hs hx ha
  show Calls Try.prog 24 #[.int .i64 j, .pointer (some ⟨bx, 0, none⟩), .pointer (some ⟨ba, 0, none⟩)] V fun e w' => e = .returned (.bool (outAt p4 ms j)) ∧ Below V.heap.size V w'
  generalize outAt p4 ms j = r at H ⊢
  go_enter Try.func24, Try.ntmps24
  go_wp2_with (go_at_call 51; (with_reducible refine H.out.mono ?_); rintro e w1 ⟨rfl, b1⟩)
  go_ret
  exact ⟨rfl, b1⟩
theorem coll4 (A : Option Addr) (n c : Nat) (ms : List Mk) (j : Nat) (hj : j < n) (hn : n ≤ 1000000000) (B bx ba : Nat) (V : World) (hR : Reads V V.heap.size 9 A n (mkL ms)) (hs : SW B V) (hx : Blk V bx 53 #[outF B 4, turnF 4]) (ha : Blk V ba 45 #[.slice A n c]) :
    Calls Try.prog 24 #[.int .i64 j, .pointer (some ⟨bx, 0, none⟩), .pointer (some ⟨ba, 0, none⟩)] V fun e w' => e = .returned (.bool (outAt (stepP 4) ms j)) ∧ Below V.heap.size V w' := by
  have H := Lib.hid (out5_any A n c ms j hj hn V hR)
  have x0 : V.cell? ⟨bx, 0, none⟩ = some (outF B 4) := hx.cell 0
  have a0 := ha.cell 0
  unfold outF at x0
  clear hR hs hx ha
  show Calls Try.prog 24 #[.int .i64 j, .pointer (some ⟨bx, 0, none⟩), .pointer (some ⟨ba, 0, none⟩)] V fun e w' => e = .returned (.bool (outAt p5 ms j)) ∧ Below V.heap.size V w'
  generalize outAt p5 ms j = r at H ⊢
  go_enter Try.func24, Try.ntmps24
  go_wp2_with (go_at_call 53; (with_reducible refine H.out.mono ?_); rintro e w1 ⟨rfl, b1⟩)
  go_ret
  exact ⟨rfl, b1⟩
theorem coll_any (k : Nat) (A : Option Addr) (n c : Nat) (ms : List Mk) (j : Nat) (hj : j < n) (hn : n ≤ 1000000000) (B bx ba : Nat) (V : World) (hk : k < 5) (hR : Reads V V.heap.size 9 A n (mkL ms)) (hs : SW B V) (hx : Blk V bx 53 #[outF B k, turnF k]) (ha : Blk V ba 45 #[.slice A n c]) :
    Calls Try.prog 24 #[.int .i64 j, .pointer (some ⟨bx, 0, none⟩), .pointer (some ⟨ba, 0, none⟩)] V fun e w' => e = .returned (.bool (outAt (stepP k) ms j)) ∧ Below V.heap.size V w' := by
  match k, hk, hx with
  | 0, _, hx => exact coll0 A n c ms j hj hn B bx ba V hR hs hx ha
  | 1, _, hx => exact coll1 A n c ms j hj hn B bx ba V hR hs hx ha
  | 2, _, hx => exact coll2 A n c ms j hj hn B bx ba V hR hs hx ha
  | 3, _, hx => exact coll3 A n c ms j hj hn B bx ba V hR hs hx ha
  | 4, _, hx => exact coll4 A n c ms j hj hn B bx ba V hR hs hx ha
theorem turn_any (k : Nat) (hk : k < 5) : TurnFn (turnG k) (stepT k) := by
  match k, hk with
  | 0, _ => exact turn1
  | 1, _ => exact turn2
  | 2, _ => exact turn3
  | 3, _ => exact turn4
  | 4, _ => exact turn5
theorem turn_enter (k : Nat) (hk : k < 5) : ∀ args w, (callFunc (turnG k) args).run Try.prog w = .ok (.enter (turnG k) args) w := by
  match k, hk with
  | 0, _ => exact Go.Proofs.enters_of Try.func43 (by kernel_rfl) rfl
  | 1, _ => exact Go.Proofs.enters_of Try.func47 (by kernel_rfl) rfl
  | 2, _ => exact Go.Proofs.enters_of Try.func50 (by kernel_rfl) rfl
  | 3, _ => exact Go.Proofs.enters_of Try.func52 (by kernel_rfl) rfl
  | 4, _ => exact Go.Proofs.enters_of Try.func54 (by kernel_rfl) rfl
theorem coll_enter : ∀ args w, (callFunc 24 args).run Try.prog w = .ok (.enter 24 args) w := Go.Proofs.enters_of Try.func24 (by kernel_rfl) rfl
end Go.Proofs.Ytmjacmjogckihaa.White
