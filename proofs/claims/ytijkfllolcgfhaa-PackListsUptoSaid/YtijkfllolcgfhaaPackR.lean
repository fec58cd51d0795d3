/- Chapter 3: a reader in memory; taking bytes, and a number, walked. No condition but bounds. -/
import Derived.Test.YtijkfllolcgfhaaPackFm
namespace Go.Proofs.Ytijkfllolcgfhaa.Pack
open Go.RowKit
set_option linter.unusedVariables false
set_option linter.unusedSimpArgs false

/-- A reader: what is left, if all was fine. -/
def RdS (w : World) (g : Nat) (p : Option Addr) (made : Bool) (st : Option (List UInt8)) : Prop :=
  (p = some ⟨g, 0, none⟩ ∧ Blk w g 70 #[strV (st.getD []), .bool st.isSome, .bool made]) ∨ (p = none ∧ made = false ∧ st = none)
/-- A reader's own block. -/
def RSet (p : Option Addr) (k : Nat) : Prop := p = some ⟨k, 0, none⟩
section
variable {w w' : World} {g : Nat} {p : Option Addr} {made : Bool} {st : Option (List UInt8)}
theorem RdS.far {S : Nat → Prop} (h : RdS w g p made st) (hf : Far S w w') (hg : p ≠ none → ¬ S g) : RdS w' g p made st := by
  rcases h with ⟨rfl, hb⟩ | h
  · exact .inl ⟨rfl, hf.blk hb (hg (by simp))⟩
  · exact .inr h
theorem RdS.below (h : RdS w g p made st) (hf : Below w.heap.size w w') : RdS w' g p made st := h.far (S := fun _ => False) (Far.of_below hf) (fun _ e => e)
theorem RdS.lt (h : RdS w g p made st) {k : Nat} (hk : RSet p k) : k < w.heap.size := by
  rcases h with ⟨rfl, hb⟩ | ⟨rfl, _⟩
  · cases hk; exact hb.lt
  · cases hk
end
theorem rset_self (g i : Nat) : RSet (some ⟨g, 0, none⟩) (⟨g, i, none⟩ : Addr).block := rfl
/-- What a call on a reader leaves behind. -/
def RPost (w : World) (g : Nat) (p : Option Addr) (made : Bool) (v : Value) (st : Option (List UInt8)) (e : Ending) (w' : World) : Prop :=
  e = .returned v ∧ RdS w' g p made st ∧ Far (RSet p) w w'
theorem newr_any (s : ByteArray) (w : World) : Calls Try.prog 24 #[.string s] w fun e w' => e = .returned (.pointer (some ⟨w.heap.size, 0, none⟩)) ∧ w.alloc (.cells #[.string s, .bool true, .bool true] 70) = w' := by
  go_enter Try.func24, Try.ntmps24
  go_wp2
  go_ret
  exact ⟨rfl, rfl⟩
theorem new_rd (s : ByteArray) (w : World) : RdS (w.alloc (.cells #[.string s, .bool true, .bool true] 70)) w.heap.size (some ⟨w.heap.size, 0, none⟩) true (some s.data.toList) :=
  .inl ⟨rfl, Blk.new w _ _⟩
theorem fine_any (g : Nat) (p : Option Addr) (made : Bool) (st : Option (List UInt8)) (w : World) (h : RdS w g p made st) :
    Calls Try.prog 27 #[.pointer p] w fun e w' => e = .returned (.bool st.isSome) ∧ w = w' := by
  rcases h with ⟨rfl, hb⟩ | ⟨rfl, rfl, rfl⟩
  · have c1 : w.cell? ⟨g, 1, none⟩ = some (.bool st.isSome) := hb.cell 1
    clear hb
    go_enter Try.func27, Try.ntmps27
    go_wp2
    go_ret
    exact ⟨rfl, rfl⟩
  · go_enter Try.func27, Try.ntmps27
    go_wp2
    go_ret
    exact ⟨rfl, rfl⟩
theorem fail_any (g : Nat) (p : Option Addr) (made : Bool) (st : Option (List UInt8)) (w : World) (h : RdS w g p made st) :
    Calls Try.prog 60 #[.pointer p] w (RPost w g p made (.tuple #[]) none) := by
  rcases h with ⟨rfl, hb⟩ | ⟨rfl, rfl, rfl⟩
  · have HB := Lib.hid hb
    have f0 := hb.frozen 0
    have f1 := hb.frozen 1
    have c0 : w.cell? ⟨g, 0, none⟩ = some (strV (st.getD [])) := hb.cell 0
    have c1 : w.cell? ⟨g, 1, none⟩ = some (.bool st.isSome) := hb.cell 1
    clear hb
    go_enter Try.func60, Try.ntmps60
    go_wp2
    go_end0
    exact ⟨rfl, .inl ⟨rfl, (HB.out.set_ 0 _).set_ 1 _⟩, ((Far.refl _ _).setCell (p := ⟨g, 0, none⟩) (rset_self g 0) _).setCell (p := ⟨g, 1, none⟩) (rset_self g 1) _⟩
  · go_enter Try.func60, Try.ntmps60
    go_wp2
    go_end0
    exact ⟨rfl, .inr ⟨rfl, rfl, rfl⟩, Far.refl _ _⟩
theorem str_take (b : List UInt8) (m : Nat) : (⟨b.toArray⟩ : ByteArray).extract 0 m = ⟨(b.take m).toArray⟩ := by
  apply ByteArray.ext
  simp
theorem str_drop (b : List UInt8) (m : Nat) : (⟨b.toArray⟩ : ByteArray).extract m b.length = ⟨(b.drop m).toArray⟩ := by
  apply ByteArray.ext
  simp
  exact List.take_of_length_le (by simp)
/-- So many bytes taken. -/
def tk (n : Nat) : Option (List UInt8) → List UInt8 × Option (List UInt8)
  | some b => if n ≤ b.length then (b.take n, some (b.drop n)) else ([], none)
  | none => ([], none)
theorem str_size (l : List UInt8) : (⟨l.toArray⟩ : ByteArray).size = l.length := rfl
set_option maxHeartbeats 1000000 in
theorem take_any (g : Nat) (p : Option Addr) (made : Bool) (st : Option (List UInt8)) (n : Int) (w : World) (h : RdS w g p made st) (h0 : 0 ≤ n) (hn : n < 18446744073709551616) (hb : ∀ b, st = some b → b.length ≤ 10000000000000) :
    Calls Try.prog 61 #[.pointer p, .int .u64 n] w (RPost w g p made (strV (tk n.toNat st).1) (tk n.toNat st).2) := by
  have HR := Lib.hid h
  have HN := Lib.hid hn
  have HB := Lib.hid hb
  clear hn hb
  cases st with
  | none =>
    clear h
    go_enter Try.func61, Try.ntmps61
    go_wp2_with (first
      | (go_at_call 27; refine (fine_any g p made none _ HR.out).mono ?_; rintro e w' ⟨rfl, rfl⟩)
      | (go_at_call 60; refine (fail_any g p made none _ HR.out).mono ?_; rintro e w' ⟨rfl, hr1, hf1⟩))
    go_ret
    exact ⟨rfl, hr1, hf1⟩
  | some b =>
    rcases h with ⟨rfl, hb⟩ | ⟨_, _, h⟩
    · have c0 : w.cell? ⟨g, 0, none⟩ = some (strV b) := hb.cell 0
      have f0 := hb.frozen 0
      have HK := Lib.hid hb
      have hl : ((b.length : Nat) : Int) ≤ 10000000000000 := by have := HB.out b rfl; omega
      have hw : IntKind.u64.wrap (b.length : Int) = (b.length : Int) := by rw [IntKind.wrap_u64]; omega
      clear hb
      by_cases hlt : (b.length : Int) < n
      · have e1 := Lib.hid (show tk n.toNat (some b) = ([], none) by simp only [tk]; rw [if_neg (by omega)])
        go_enter Try.func61, Try.ntmps61
        go_wp2_with (first
          | (go_at_call 27; refine (fine_any g _ made (some b) _ HR.out).mono ?_; rintro e w' ⟨rfl, rfl⟩)
          | (go_at_call 60; refine (fail_any g _ made (some b) _ HR.out).mono ?_; rintro e w' ⟨rfl, hr1, hf1⟩))
        go_ret
        rw [e1.out]
        exact ⟨rfl, hr1, hf1⟩
      · obtain ⟨m, rfl⟩ := Int.eq_ofNat_of_zero_le h0
        have hm : m ≤ b.length := by omega
        have qd : decide (b.length < m) = false := by simp; omega
        clear hlt
        have S1 := str_take b m
        have S2 := str_drop b m
        have e1 := Lib.hid (show tk (m : Int).toNat (some b) = (b.take m, some (b.drop m)) by simp only [tk]; rw [Int.toNat_natCast, if_pos (by omega)])
        go_enter Try.func61, Try.ntmps61
        go_wp2_with (first
          | (go_at_call 27; refine (fine_any g _ made (some b) _ HR.out).mono ?_; rintro e w' ⟨rfl, rfl⟩))
        go_ret
        rw [e1.out]
        exact ⟨rfl, .inl ⟨rfl, HK.out.set_ 0 (strV (b.drop m))⟩, (Far.refl _ _).setCell (p := ⟨g, 0, none⟩) (rset_self g 0) _⟩
    · cases h
end Go.Proofs.Ytijkfllolcgfhaa.Pack
