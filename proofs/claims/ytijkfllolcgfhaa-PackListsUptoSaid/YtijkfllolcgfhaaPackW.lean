/- Chapter 3: a writer in memory; putting bytes behind the others, walked. No condition but bounds. -/
import Derived.Test.YtijkfllolcgfhaaMore
import Derived.Test.YtijkfllolcgfhaaPackN
import Derived.Test.YtijkfllolcgfhaaProg
import Derived.OneCell
namespace Go.Proofs.Ytijkfllolcgfhaa.Pack
open Go.RowKit
set_option linter.unusedVariables false
set_option linter.unusedSimpArgs false

/-- Off the blocks of S the world is as it was. -/
structure Far (S : Nat → Prop) (w w' : World) : Prop where
  os : w'.os = w.os
  tape : w'.tape = w.tape
  output : w'.output = w.output
  size : w.heap.size ≤ w'.heap.size
  block : ∀ k, k < w.heap.size → ¬ S k → w'.heap[k]? = w.heap[k]?
section
variable {S S' : Nat → Prop} {w w' w2 : World} {B g size n : Nat} {t : TypeId} {cs : Array Value} {A : Option Addr} {xs : List Value}
theorem Far.refl (S : Nat → Prop) (w : World) : Far S w w := ⟨rfl, rfl, rfl, Nat.le_refl _, fun _ _ _ => rfl⟩
theorem Far.trans (h : Far S w w') (k : Far S' w' w2) (hs : ∀ i, i < w.heap.size → S' i → S i) : Far S w w2 :=
  ⟨k.os.trans h.os, k.tape.trans h.tape, k.output.trans h.output, Nat.le_trans h.size k.size, fun i hi hn => (k.block i (Nat.lt_of_lt_of_le hi h.size) (fun e => hn (hs i hi e))).trans (h.block i hi hn)⟩
theorem Far.of_below (h : Below w.heap.size w w') : Far S w w' := ⟨h.os, h.tape, h.output, h.size, fun k hk _ => h.block k hk⟩
theorem Far.to_below (h : Far S w w') (hB : B ≤ w.heap.size) (hS : ∀ k, S k → B ≤ k) : Below B w w' := ⟨h.os, h.tape, h.output, h.size, fun k hk => h.block k (by omega) (fun e => by have := hS k e; omega)⟩
theorem Far.setCell {p : Addr} (h : Far S w w') (hp : S p.block) (u : Value) : Far S w (w'.setCell p u) :=
  h.trans (S' := fun k => k = p.block) ⟨rfl, rfl, rfl, by simp [World.setCell], fun k hk hn => Below.heap_setCell _ _ _ _ hn⟩ (fun i _ e => e ▸ hp)
theorem Far.alloc (h : Far S w w') (o : Obj) : Far S w (w'.alloc o) := h.trans (Far.of_below (S := S) (bel_alloc (Below.refl _ _) o)) (fun _ _ e => e)
theorem Far.grown {row : Option Nat} (h : Far S w w') (hg : w'.grownBy w2 row) (hr : ∀ k, k < w.heap.size → row = some k → S k) : Far S w w2 :=
  h.trans (S' := fun k => row = some k) ⟨hg.os, hg.tape, hg.output, hg.size, fun k hk hn => hg.block k hk (fun e => hn e.symm)⟩ hr
theorem Far.blk (h : Far S w w') (hb : Blk w g t cs) (hg : ¬ S g) : Blk w' g t cs := (h.block g hb.lt hg).trans hb
theorem Far.cell (h : Far S w w') {p : Addr} (hp : p.block < w.heap.size) (hg : ¬ S p.block) : w'.cell? p = w.cell? p := World.cell?_of_block (h.block p.block hp hg)
theorem Far.reads (h : Far S w w') (hr : Reads w B size A n xs) (hB : B ≤ w.heap.size) (ha : 0 < n → ∀ ad, A = some ad → ¬ S ad.block) : Reads w' B size A n xs :=
  ⟨hr.1, fun hn => by
    obtain ⟨ad, e, hb, hc⟩ := hr.2 hn
    exact ⟨ad, e, hb, fun j u hu => (h.cell (p := ad.add j) (by rw [block_of_add]; omega) (by rw [block_of_add]; exact ha hn ad e)).trans (hc j u hu)⟩⟩
theorem Far.own {base : Nat} {e : TypeId} {v : Value} (h : Far S w w') (ho : w.ownsRow base e size v n xs) (hv : ∀ k, v.ownBlock = some k → ¬ S k) : w'.ownsRow base e size v n xs := by
  refine ⟨ho.1, ?_⟩
  rcases ho.2 with h0 | ⟨k, cap, cur, hv', hB, hk, hr⟩
  · exact .inl h0
  · have hlt : k < w.heap.size := by
      rcases Nat.lt_or_ge k w.heap.size with h | h
      · exact h
      · rw [Array.getElem?_eq_none h] at hk; cases hk
    exact .inr ⟨k, cap, cur, hv', hB, (h.block k hlt (hv k (by rw [hv']; rfl))).trans hk, hr⟩
end

/-- A byte's cell. -/
abbrev byteV (b : UInt8) : Value := .int .u8 b.toNat
/-- A writer: block g, its bytes' block r; none: it writes nothing. -/
def WrS (w : World) (g : Nat) (r : Option Nat) (p : Option Addr) : Option (List UInt8) → Prop
  | some l => p = some ⟨g, 0, none⟩ ∧ ∃ v, Blk w g 67 #[v, .bool true] ∧ w.ownsRow 0 5 1 v l.length (l.map byteV) ∧ v.ownBlock = r
  | none => r = none ∧ (p = none ∨ (p = some ⟨g, 0, none⟩ ∧ Blk w g 67 #[.slice none 0 0, .bool false]))
/-- A writer's own blocks, if it is one. -/
def WSet (b : Bool) (g : Nat) (r : Option Nat) (k : Nat) : Prop := b = true ∧ (k = g ∨ r = some k)
/-- From a world to a later one a writer's own blocks alone were written; its bytes' block is the old one, or new. -/
structure WF (b : Bool) (g : Nat) (r : Option Nat) (w : World) (r' : Option Nat) (w' : World) : Prop where
  far : Far (WSet b g r) w w'
  row : r' = r ∨ ∃ k, r' = some k ∧ w.heap.size ≤ k
theorem WF.refl (b : Bool) (g : Nat) (r : Option Nat) (w : World) : WF b g r w r w := ⟨Far.refl _ _, .inl rfl⟩
theorem WF.trans {b : Bool} {g : Nat} {r r1 r2 : Option Nat} {w w1 w2 : World} (h : WF b g r w r1 w1) (k : WF b g r1 w1 r2 w2) : WF b g r w r2 w2 := by
  refine ⟨h.far.trans k.far ?_, ?_⟩
  · rintro i hi ⟨hb, rfl | h1⟩
    · exact ⟨hb, .inl rfl⟩
    · rcases h.row with rfl | ⟨j, rfl, hj⟩
      · exact ⟨hb, .inr h1⟩
      · cases h1; omega
  · rcases k.row with rfl | ⟨j, rfl, hj⟩
    · exact h.row
    · exact .inr ⟨j, rfl, Nat.le_trans h.far.size hj⟩
theorem WF.of_below {b : Bool} {g : Nat} {r : Option Nat} {w w' : World} (h : Below w.heap.size w w') : WF b g r w r w' := ⟨Far.of_below h, .inl rfl⟩
theorem WrS.lt {w : World} {g : Nat} {r : Option Nat} {p : Option Addr} {o : Option (List UInt8)} (h : WrS w g r p o) {k : Nat} (hk : WSet o.isSome g r k) : k < w.heap.size := by
  cases o with
  | some l =>
    obtain ⟨hp, v, hb, ho, rfl⟩ := h
    rcases hk.2 with rfl | hk
    · exact hb.lt
    · exact (ho.lt k hk).2
  | none => exact absurd hk.1 (by decide)
theorem WrS.far {S : Nat → Prop} {w w' : World} {g : Nat} {r : Option Nat} {p : Option Addr} {o : Option (List UInt8)} (h : WrS w g r p o) (hf : Far S w w') (hg : ¬ S g) (hr : ∀ k, r = some k → ¬ S k) : WrS w' g r p o := by
  cases o with
  | some l =>
    obtain ⟨hp, v, hb, ho, rfl⟩ := h
    exact ⟨hp, v, hf.blk hb hg, hf.own ho hr, rfl⟩
  | none =>
    obtain ⟨rfl, hp | ⟨hp, hb⟩⟩ := h
    · exact ⟨rfl, .inl hp⟩
    · exact ⟨rfl, .inr ⟨hp, hf.blk hb hg⟩⟩
theorem WrS.below {w w' : World} {g : Nat} {r : Option Nat} {p : Option Addr} {o : Option (List UInt8)} (h : WrS w g r p o) (hf : Below w.heap.size w w') : WrS w' g r p o :=
  h.far (S := fun _ => False) (Far.of_below hf) (fun e => e) (fun _ _ e => e)
/-- What a call on a writer leaves behind. -/
def WPost (w : World) (g : Nat) (r : Option Nat) (p : Option Addr) (o : Option (List UInt8)) (e : Ending) (w' : World) : Prop :=
  e = .returned (.tuple #[]) ∧ ∃ r', WrS w' g r' p o ∧ WF o.isSome g r w r' w'
theorem none_live (g : Nat) (v : Value) (w : World) (h : Blk w g 67 #[v, .bool true]) :
    Calls Try.prog 45 #[.pointer (some ⟨g, 0, none⟩)] w fun e w' => e = .returned (.bool false) ∧ w = w' := by
  have c1 : w.cell? ⟨g, 1, none⟩ = some (.bool true) := h.cell 1
  clear h
  go_enter Try.func45, Try.ntmps45
  go_wp2
  go_ret
  exact ⟨rfl, rfl⟩
theorem none_nil (w : World) :
    Calls Try.prog 45 #[.pointer none] w fun e w' => e = .returned (.bool true) ∧ w = w' := by
  go_enter Try.func45, Try.ntmps45
  go_wp2
  go_ret
  exact ⟨rfl, rfl⟩
theorem none_dead (g : Nat) (v : Value) (w : World) (h : Blk w g 67 #[v, .bool false]) :
    Calls Try.prog 45 #[.pointer (some ⟨g, 0, none⟩)] w fun e w' => e = .returned (.bool true) ∧ w = w' := by
  have c1 : w.cell? ⟨g, 1, none⟩ = some (.bool false) := h.cell 1
  clear h
  go_enter Try.func45, Try.ntmps45
  go_wp2
  go_ret
  exact ⟨rfl, rfl⟩
theorem info8 : (Try.prog.info? 5).map (fun i => (i.zero, i.size, i.bytes)) = some (some (.int .u8 0), 1, 1) := by kernel_rfl
theorem one8 (l : List UInt8) : ∀ u ∈ l.map byteV, u.oneCell' = true := by
  intro u hu
  obtain ⟨x, _, rfl⟩ := List.mem_map.1 hu
  rfl
set_option maxHeartbeats 1000000 in
theorem put_any (g : Nat) (r : Option Nat) (p : Option Addr) (o : Option (List UInt8)) (A : Option Addr) (n c B : Nat) (news : List UInt8) (w : World) (hs : WrS w g r p o) (hr : Reads w B 1 A n (news.map byteV)) (hn : n ≤ 70000000000000) (ho : ∀ l, o = some l → l.length ≤ 70000000000000) :
    Calls Try.prog 49 #[.pointer p, .slice A n c] w (WPost w g r p (o.map (· ++ news))) := by
  cases o with
  | none =>
    obtain ⟨rfl, rfl | ⟨rfl, hb⟩⟩ := hs
    · go_enter Try.func49, Try.ntmps49
      go_wp2_with (go_at_call 45; refine (none_nil _).mono ?_; rintro e w' ⟨rfl, rfl⟩)
      go_end0
      exact ⟨rfl, none, ⟨rfl, .inl rfl⟩, WF.refl _ _ _ _⟩
    · have HB := Lib.hid hb
      clear hb
      go_enter Try.func49, Try.ntmps49
      go_wp2_with (go_at_call 45; refine (none_dead _ _ _ HB.out).mono ?_; rintro e w' ⟨rfl, rfl⟩)
      go_end0
      exact ⟨rfl, none, ⟨rfl, .inr ⟨rfl, HB.out⟩⟩, WF.refl _ _ _ _⟩
  | some l =>
    obtain ⟨rfl, v, hb, hown, hv⟩ := hs
    obtain ⟨A0, c0, rfl⟩ := own_shape hown
    obtain ⟨i0, hi, hz0, hz1, hz2⟩ := info_parts info8
    have HI := Lib.hid hi
    have HZ0 := Lib.hid hz0
    have HZ1 := Lib.hid hz1
    have HZ2 := Lib.hid hz2
    have HL := Lib.hid (ho l rfl)
    have HN := Lib.hid hn
    have HB := Lib.hid hb
    have HO := Lib.hid hown
    have HR := Lib.hid hr
    have HV := Lib.hid hv
    have z0 : w.cell? ⟨g, 0, none⟩ = some (.slice A0 l.length c0) := hb.cell 0
    clear hb hown hr hv hi hz0 hz1 hz2 ho hn
    go_enter Try.func49, Try.ntmps49
    go_wp2_with (first
      | (go_at_call 45; refine (none_live _ _ _ HB.out).mono ?_; rintro e w' ⟨rfl, rfl⟩)
      | (at_builtin; refine wpList_append_any _ rfl (.tmp 11) (.tmp 12) 49 rfl 0 5 i0 (.int .u8 0) 1 1 Try.underlying49 HI.out HZ0.out HZ1.out HZ2.out rfl (by decide) _ _ _ rfl HO.out _ _ n _ _ rfl HR.out (one8 _) (by have := HL.out; have := HN.out; unfold maxLen; omega) (by have := HL.out; have := HN.out; omega) (Nat.zero_le _) ?_; intro v1 w1 hown1 hg1 hb1; obtain ⟨A1, c1, rfl⟩ := own_shape hown1; have NE : (Value.slice A0 l.length c0).ownBlock ≠ some g := own_blk_ne HO.out HB.out (by decide); have B1 := Lib.hid (HB.out.grown hg1 (fun e => NE e.symm)); have O1 := Lib.hid hown1; have G1 := Lib.hid hg1; have R1 := Lib.hid hb1; have NE' := Lib.hid NE; have f1 := B1.out.frozen 0; have z1 : w1.cell? ⟨g, 0, none⟩ = some (.slice A0 l.length c0) := B1.out.cell 0; clear hown1 hg1 hb1 NE))
    go_end0
    have hN : news.length = n := by have := HR.out.1; simpa using this
    have ne1 : (Value.slice A1 (l.length + n) c1).ownBlock ≠ some g := own_blk_ne O1.out B1.out (by decide)
    refine ⟨rfl, (Value.slice A1 (l.length + n) c1).ownBlock, ⟨rfl, _, B1.out.set_ 0 _, ?_, rfl⟩, ⟨?_, ?_⟩⟩
    · have := ownsRow_setCell_other O1.out (a := ⟨g, 0, none⟩) ne1 (Value.slice A1 (l.length + n) c1)
      simpa [hN, List.map_append] using this
    · exact ((Far.refl _ _).grown G1.out (fun k _ e => ⟨rfl, .inr (HV.out ▸ e)⟩)).setCell ⟨rfl, .inl rfl⟩ _
    · rcases R1.out with h | h
      · exact .inl (h.trans HV.out)
      · exact .inr ⟨_, h, Nat.le_refl _⟩
end Go.Proofs.Ytijkfllolcgfhaa.Pack
