/- Chapter 3: a thing read twice, walked: it is the same. No condition but bounds. -/
import Derived.Test.YtijkfllolcgfhaaPackI
import Derived.StillTailTactics
namespace Go.Proofs.Ytijkfllolcgfhaa.Pack
open Go.RowKit
set_option linter.unusedVariables false
set_option linter.unusedSimpArgs false

/-- What is left when a thing of a kind was read. -/
def readS (k : Int) (st : Option (List UInt8)) : Option (List UInt8) :=
  if k % 7 = 1 then (tiS st).2 else if k % 7 = 2 then (ttS st).2 else if k % 7 = 3 then (txS st).2 else if k % 7 = 4 then (listS tnI st).2 else if k % 7 = 5 then (listS tiS st).2 else if k % 7 = 6 then (listS tbS st).2 else (tnS st).2
theorem tnS_none' : tnS none = (0, none) := rfl
theorem readS_none (k : Int) : readS k none = none := by
  unfold readS
  have h1 : ∀ {α : Type} (f : Option (List UInt8) → α × Option (List UInt8)), (listS f none).2 = none := fun f => rfl
  repeat' split
  all_goals first | rfl | exact h1 _
theorem listS_rem {α : Type} {f : Option (List UInt8) → α × Option (List UInt8)} (hf : ∀ st, st ≠ none → rem (f st).2 + 1 ≤ rem st) (st : Option (List UInt8)) : rem (listS f st).2 ≤ rem st := by
  have key : ∀ (n : Nat) (s : Option (List UInt8)), rem (manyS f n s).2 ≤ rem s := by
    intro n
    induction n with
    | zero => intro s; exact Nat.le_refl _
    | succ n ih =>
      intro s
      cases s with
      | none => exact Nat.le_refl _
      | some b =>
        have h1 := hf (some b) (by simp)
        have h2 := ih (f (some b)).2
        show rem (manyS f n (f (some b)).2).2 ≤ _
        omega
  unfold listS
  split
  · exact Nat.le_trans (key _ _) tnS_rem.1
  · exact Nat.zero_le _
theorem readS_rem (k : Int) (st : Option (List UInt8)) : rem (readS k st) ≤ rem st := by
  unfold readS
  split
  · exact tnS_rem.1
  split
  · unfold ttS
    split
    · exact tnS_rem.1
    · exact Nat.zero_le _
  split
  · exact Nat.le_trans (tk_rem _ _) tnS_rem.1
  split
  · exact listS_rem (fun st h => tnI_rem h) st
  split
  · exact listS_rem (fun st h => tiS_rem h) st
  split
  · exact listS_rem (fun st h => tbS_rem h) st
  · exact tnS_rem.1
/-- The memory of a call of reads. -/
structure RM (w : World) (g : Nat) (p : Option Addr) (made : Bool) (sr sq : Option (List UInt8)) (W : World) : Prop where
  a : Blk W w.heap.size 53 #[strV (sq.getD []), .bool sq.isSome]
  b : Blk W (w.heap.size + 1) 53 #[strV [], .bool false]
  r : RdS W g p made sr
  f : Far (RSet p) w W
  lt : ∀ k, RSet p k → k < w.heap.size
section
variable {w W W' : World} {g : Nat} {p : Option Addr} {made : Bool} {sr sq s' : Option (List UInt8)}
theorem RM.new (w : World) (h : RdS w g p made sr) (sq : Option (List UInt8)) : RM w g p made sr sq ((w.alloc (.cells #[strV (sq.getD []), .bool sq.isSome] 53)).alloc (.cells #[strV [], .bool false] 53)) :=
  ⟨(TM.new w sq).a, (TM.new w sq).b, (h.below (bel_alloc (Below.refl _ _) _)).below (bel_alloc (Below.refl _ _) _), ((Far.refl _ _).alloc _).alloc _, fun k hk => h.lt hk⟩
theorem RM.below (m : RM w g p made sr sq W) (hb : Below W.heap.size W W') : RM w g p made sr sq W' := ⟨m.a.keep hb, m.b.keep hb, m.r.below hb, m.f.trans (Far.of_below (S := RSet p) hb) (fun _ _ h => h), m.lt⟩
theorem RM.rd (m : RM w g p made sr sq W) (hr : RdS W' g p made s') (hf : Far (RSet p) W W') : RM w g p made s' sq W' :=
  ⟨hf.blk m.a (fun h => by have := m.lt _ h; omega), hf.blk m.b (fun h => by have := m.lt _ h; omega), hr, m.f.trans hf (fun _ _ h => h), m.lt⟩
theorem RM.alloc (m : RM w g p made sr sq W) (o : Obj) : RM w g p made sr sq (W.alloc o) := m.below (bel_alloc (Below.refl _ _) o)
theorem RM.drew (m : RM w g p made sr sq W) : RM w g p made sr sq W.drew := m.below (Below.refl _ _).drew
theorem RM.g_ne (m : RM w g p made sr sq W) : p ≠ none → g ≠ w.heap.size ∧ g ≠ w.heap.size + 1 := by
  intro hp
  rcases m.r with ⟨rfl, _⟩ | ⟨rfl, _⟩
  · have := m.lt g rfl; omega
  · exact absurd rfl hp
theorem RM.seta (m : RM w g p made sr sq W) (s' : Option (List UInt8)) : RM w g p made sr s' ((W.setCell ⟨w.heap.size, 0, none⟩ (strV (s'.getD []))).setCell ⟨w.heap.size, 1, none⟩ (.bool s'.isSome)) := by
  have hf : Far (fun k => k = w.heap.size) W ((W.setCell ⟨w.heap.size, 0, none⟩ (strV (s'.getD []))).setCell ⟨w.heap.size, 1, none⟩ (.bool s'.isSome)) := ((Far.refl (fun k => k = w.heap.size) _).setCell (p := ⟨w.heap.size, 0, none⟩) rfl _).setCell (p := ⟨w.heap.size, 1, none⟩) rfl _
  refine ⟨blk_two m.a _ _, hf.blk m.b (by omega), m.r.far hf (fun hp => (m.g_ne hp).1), ?_, m.lt⟩
  refine m.f.trans hf (fun i hi h => ?_)
  subst h
  exact absurd hi (Nat.lt_irrefl _)
theorem RM.cells (m : RM w g p made sr sq W) : W.cell? ⟨w.heap.size, 0, none⟩ = some (strV (sq.getD [])) ∧ W.cell? ⟨w.heap.size, 1, none⟩ = some (.bool sq.isSome) ∧ W.frozen? ⟨w.heap.size, 0, none⟩ = false ∧ W.frozen? ⟨w.heap.size, 1, none⟩ = false ∧ W.cell? ⟨w.heap.size + 1, 0, none⟩ = some (strV []) ∧ W.cell? ⟨w.heap.size + 1, 1, none⟩ = some (.bool false) ∧ W.frozen? ⟨w.heap.size + 1, 0, none⟩ = false ∧ W.frozen? ⟨w.heap.size + 1, 1, none⟩ = false :=
  ⟨m.a.cell 0, m.a.cell 1, m.a.frozen 0, m.a.frozen 1, m.b.cell 0, m.b.cell 1, m.b.frozen 0, m.b.frozen 1⟩
/-- The result stored. -/
theorem RM.put (m : RM w g p made sr sq W) (x y : Value) : (W.setCell ⟨w.heap.size + 1, 0, none⟩ x).cell? ⟨w.heap.size + 1, 0, none⟩ = some x ∧ ((W.setCell ⟨w.heap.size + 1, 0, none⟩ x).setCell ⟨w.heap.size + 1, 1, none⟩ y).cell? ⟨w.heap.size + 1, 1, none⟩ = some y ∧
    RdS ((W.setCell ⟨w.heap.size + 1, 0, none⟩ x).setCell ⟨w.heap.size + 1, 1, none⟩ y) g p made sr ∧ Far (RSet p) w ((W.setCell ⟨w.heap.size + 1, 0, none⟩ x).setCell ⟨w.heap.size + 1, 1, none⟩ y) := by
  have hf : Far (fun k => k = w.heap.size + 1) W ((W.setCell ⟨w.heap.size + 1, 0, none⟩ x).setCell ⟨w.heap.size + 1, 1, none⟩ y) := ((Far.refl (fun k => k = w.heap.size + 1) _).setCell (p := ⟨w.heap.size + 1, 0, none⟩) rfl _).setCell (p := ⟨w.heap.size + 1, 1, none⟩) rfl _
  refine ⟨(m.b.set_ 0 x).cell 0, (blk_two m.b x y).cell 1, m.r.far hf (fun hp => (m.g_ne hp).2), ?_⟩
  refine m.f.trans hf (fun i hi h => ?_)
  subst h
  exact absurd hi (by omega)
end
def wit (w : World) (p : Addr) : Value := (w.cell? p).getD undef
/-- The memory while the result is stored. -/
structure RW (w : World) (g : Nat) (p : Option Addr) (made : Bool) (s : Option (List UInt8)) (W : World) : Prop where
  a : Blk W w.heap.size 53 #[strV (s.getD []), .bool s.isSome]
  b : ∃ x y, Blk W (w.heap.size + 1) 53 #[x, y]
  r : RdS W g p made s
  f : Far (RSet p) w W
  ne : p ≠ none → g ≠ w.heap.size + 1
section
variable {w W W' : World} {g : Nat} {p : Option Addr} {made : Bool} {s : Option (List UInt8)}
theorem RM.rw (m : RM w g p made s s W) : RW w g p made s W := ⟨m.a, ⟨_, _, m.b⟩, m.r, m.f, fun h => (m.g_ne h).2⟩
theorem RW.drew (m : RW w g p made s W) : RW w g p made s W.drew := ⟨m.a.drew, m.b, m.r.below (Below.refl _ _).drew, m.f.trans (Far.of_below (S := RSet p) (Below.refl _ _).drew) (fun _ _ h => h), m.ne⟩
theorem rw_start (m : RW w g p made s W) : W.cell? ⟨w.heap.size, 0, none⟩ = some (strV (s.getD [])) ∧ W.cell? ⟨w.heap.size, 1, none⟩ = some (.bool s.isSome) ∧ W.cell? ⟨w.heap.size + 1, 0, none⟩ = some (wit W ⟨w.heap.size + 1, 0, none⟩) ∧ W.cell? ⟨w.heap.size + 1, 1, none⟩ = some (wit W ⟨w.heap.size + 1, 1, none⟩) ∧ W.frozen? ⟨w.heap.size + 1, 0, none⟩ = false ∧ W.frozen? ⟨w.heap.size + 1, 1, none⟩ = false ∧ RW w g p made s W := by
  obtain ⟨x, y, hb⟩ := m.b
  have c0 : W.cell? ⟨w.heap.size + 1, 0, none⟩ = some x := hb.cell 0
  have c1 : W.cell? ⟨w.heap.size + 1, 1, none⟩ = some y := hb.cell 1
  exact ⟨m.a.cell 0, m.a.cell 1, by unfold wit; rw [c0]; rfl, by unfold wit; rw [c1]; rfl, hb.frozen 0, hb.frozen 1, m⟩
theorem rw_of {p0 p1 p2 p3 p4 p5 : Prop} (h : p0 ∧ p1 ∧ p2 ∧ p3 ∧ p4 ∧ p5 ∧ RW w g p made s W) : RW w g p made s W := h.2.2.2.2.2.2
theorem RW.set_ (m : RW w g p made s W) (x y : Value) : RW w g p made s ((W.setCell ⟨w.heap.size + 1, 0, none⟩ x).setCell ⟨w.heap.size + 1, 1, none⟩ y) := by
  have hf : Far (fun k => k = w.heap.size + 1) W ((W.setCell ⟨w.heap.size + 1, 0, none⟩ x).setCell ⟨w.heap.size + 1, 1, none⟩ y) := ((Far.refl (fun k => k = w.heap.size + 1) _).setCell (p := ⟨w.heap.size + 1, 0, none⟩) rfl _).setCell (p := ⟨w.heap.size + 1, 1, none⟩) rfl _
  obtain ⟨x0, y0, hb⟩ := m.b
  refine ⟨hf.blk m.a (by omega), ⟨x, y, blk_two hb x y⟩, m.r.far hf m.ne, ?_, m.ne⟩
  refine m.f.trans hf (fun i hi h => ?_)
  subst h
  exact absurd hi (by omega)
theorem rw_set {p0 p1 p2 p3 p4 p5 : Prop} {x y : Value} (h : p0 ∧ p1 ∧ p2 ∧ p3 ∧ p4 ∧ p5 ∧ RW w g p made s W) :
    ((W.setCell ⟨w.heap.size + 1, 0, none⟩ x).setCell ⟨w.heap.size + 1, 1, none⟩ y).cell? ⟨w.heap.size, 0, none⟩ = some (strV (s.getD [])) ∧ ((W.setCell ⟨w.heap.size + 1, 0, none⟩ x).setCell ⟨w.heap.size + 1, 1, none⟩ y).cell? ⟨w.heap.size, 1, none⟩ = some (.bool s.isSome) ∧ ((W.setCell ⟨w.heap.size + 1, 0, none⟩ x).setCell ⟨w.heap.size + 1, 1, none⟩ y).cell? ⟨w.heap.size + 1, 0, none⟩ = some (wit ((W.setCell ⟨w.heap.size + 1, 0, none⟩ x).setCell ⟨w.heap.size + 1, 1, none⟩ y) ⟨w.heap.size + 1, 0, none⟩) ∧ ((W.setCell ⟨w.heap.size + 1, 0, none⟩ x).setCell ⟨w.heap.size + 1, 1, none⟩ y).cell? ⟨w.heap.size + 1, 1, none⟩ = some (wit ((W.setCell ⟨w.heap.size + 1, 0, none⟩ x).setCell ⟨w.heap.size + 1, 1, none⟩ y) ⟨w.heap.size + 1, 1, none⟩) ∧ ((W.setCell ⟨w.heap.size + 1, 0, none⟩ x).setCell ⟨w.heap.size + 1, 1, none⟩ y).frozen? ⟨w.heap.size + 1, 0, none⟩ = false ∧ ((W.setCell ⟨w.heap.size + 1, 0, none⟩ x).setCell ⟨w.heap.size + 1, 1, none⟩ y).frozen? ⟨w.heap.size + 1, 1, none⟩ = false ∧ RW w g p made s ((W.setCell ⟨w.heap.size + 1, 0, none⟩ x).setCell ⟨w.heap.size + 1, 1, none⟩ y) :=
  rw_start ((rw_of h).set_ x y)
theorem RW.two (m : RW w g p made s W) (x y : Value) : (W.setCell ⟨w.heap.size + 1, 0, none⟩ x).cell? ⟨w.heap.size + 1, 0, none⟩ = some x ∧ ((W.setCell ⟨w.heap.size + 1, 0, none⟩ x).setCell ⟨w.heap.size + 1, 1, none⟩ y).cell? ⟨w.heap.size + 1, 1, none⟩ = some y := by
  obtain ⟨x0, y0, hb⟩ := m.b
  exact ⟨(hb.set_ 0 x).cell 0, (blk_two hb x y).cell 1⟩
end
/-- What a call of reads leaves behind. -/
def VPost (w : World) (g : Nat) (p : Option Addr) (made : Bool) (st' : Option (List UInt8)) (e : Ending) (w' : World) : Prop :=
  e = .returned (.tuple #[rowV st', .bool true]) ∧ RdS w' g p made st' ∧ Far (RSet p) w w'
theorem fine_still (g : Nat) (p : Option Addr) (made : Bool) (st : Option (List UInt8)) (w : World) (h : RdS w g p made st) : Calls Try.prog 27 #[.pointer p] w fun e w' => e = .returned (.bool st.isSome) ∧ w' = w := (fine_any g p made st w h).mono fun _ _ ⟨a, b⟩ => ⟨a, b.symm⟩
theorem left_still (g : Nat) (p : Option Addr) (made : Bool) (st : Option (List UInt8)) (w : World) (h : RdS w g p made st) : Calls Try.prog 29 #[.pointer p] w fun e w' => e = .returned (.int .i64 (((st.getD []).length : Nat) : Int)) ∧ w' = w := (left_any g p made st w h).mono fun _ _ ⟨a, b⟩ => ⟨a, b.symm⟩
theorem end_still (g : Nat) (p : Option Addr) (made : Bool) (st : Option (List UInt8)) (w : World) (h : RdS w g p made st) : Calls Try.prog 28 #[.pointer p] w fun e w' => e = .returned (.int .i64 (endS made st)) ∧ w' = w := (end_any g p made st w h).mono fun _ _ ⟨a, b⟩ => ⟨a, b.symm⟩
theorem end_fact {made : Bool} {st : Option (List UInt8)} (h : made = true ∨ st = none) : (endS made st == 0) = (st.isSome && ((((st.getD []).length : Nat) : Int) == 0)) := by
  unfold endS
  rcases h with rfl | rfl
  · cases st with
    | none => rfl
    | some b =>
      cases b with
      | nil => rfl
      | cons x l => simp; omega
  · cases made <;> rfl
theorem rw_start3 {w W : World} {g : Nat} {p : Option Addr} {made : Bool} (m : RW w g p made none W) : W.cell? ⟨w.heap.size, 0, none⟩ = some (.string ⟨#[]⟩) ∧ W.cell? ⟨w.heap.size, 1, none⟩ = some (.bool false) ∧ RW w g p made none W := ⟨m.a.cell 0, m.a.cell 1, m⟩
theorem manyS_len {α : Type} {f : Option (List UInt8) → α × Option (List UInt8)} (hf : ∀ st, st ≠ none → rem (f st).2 + 1 ≤ rem st) : ∀ (n : Nat) (st : Option (List UInt8)), (manyS f n st).1.length + rem (manyS f n st).2 ≤ rem st := by
  intro n
  induction n with
  | zero => intro st; show 0 + rem st ≤ rem st; omega
  | succ n ih =>
    intro st
    cases st with
    | none => exact Nat.le_refl _
    | some b =>
      have h1 := hf (some b) (by simp)
      have h2 := ih (f (some b)).2
      show ((f (some b)).1 :: (manyS f n (f (some b)).2).1).length + rem (manyS f n (f (some b)).2).2 ≤ _
      rw [List.length_cons]
      omega
theorem listS_len {α : Type} {f : Option (List UInt8) → α × Option (List UInt8)} (hf : ∀ st, st ≠ none → rem (f st).2 + 1 ≤ rem st) (st : Option (List UInt8)) : (listS f st).1.length ≤ rem st := by
  have h1 := manyS_len hf (tnS st).1 (tnS st).2
  have h2 := (tnS_rem (st := st)).1
  unfold listS
  split
  · omega
  · exact Nat.zero_le _
theorem rem_le' {st : Option (List UInt8)} {M : Nat} (h : ∀ b, st = some b → b.length ≤ M) : rem st ≤ M + 1 := by
  cases st with
  | none => exact Nat.zero_le _
  | some b => exact Nat.succ_le_succ (h b rfl)
/-- Two lists read, and the state stored: both stand. -/
theorem two_reads {w W0 w1 w2 : World} {g : Nat} {p : Option Addr} {made : Bool} {sr sq : Option (List UInt8)} {A1 A2 : Option Addr} {n1 n2 : Nat} {l1 l2 : List Value} {x y : Value} {o : Obj}
    (M : RM w g p made sr sq W0) (hf : Far (RSet p) W0 w1) (hr1 : Reads w1 w1.heap.size 1 A1 n1 l1) (f1 : ∀ ad, A1 = some ad → W0.heap.size ≤ ad.block) (hr2 : Reads w2 w2.heap.size 1 A2 n2 l2) (f2 : ∀ ad, A2 = some ad → w1.heap.size ≤ ad.block) (hb : Below w1.heap.size w1 w2) :
    Reads (((w2.alloc o).setCell ⟨w.heap.size, 0, none⟩ x).setCell ⟨w.heap.size, 1, none⟩ y) (((w2.alloc o).setCell ⟨w.heap.size, 0, none⟩ x).setCell ⟨w.heap.size, 1, none⟩ y).heap.size 1 A1 n1 l1 ∧ Reads (((w2.alloc o).setCell ⟨w.heap.size, 0, none⟩ x).setCell ⟨w.heap.size, 1, none⟩ y) (((w2.alloc o).setCell ⟨w.heap.size, 0, none⟩ x).setCell ⟨w.heap.size, 1, none⟩ y).heap.size 1 A2 n2 l2 := by
  have h0 : w.heap.size < W0.heap.size := M.a.lt
  have h1 := hf.size
  have h2 := hb.size
  have F : Far (fun k => k = w.heap.size) w2 (((w2.alloc o).setCell ⟨w.heap.size, 0, none⟩ x).setCell ⟨w.heap.size, 1, none⟩ y) := (((Far.refl (fun k => k = w.heap.size) _).alloc o).setCell (p := ⟨w.heap.size, 0, none⟩) rfl _).setCell (p := ⟨w.heap.size, 1, none⟩) rfl _
  exact ⟨(F.reads ((hr1.below hb).more h2) (Nat.le_refl _) (fun _ ad e h => by have := f1 ad e; omega)).more F.size, (F.reads hr2 (Nat.le_refl _) (fun _ ad e h => by have := f2 ad e; omega)).more F.size⟩
theorem len9 {n : Nat} (h : n ≤ 1000000000000 + 1) : n ≤ 9000000000000000 := by omega
set_option maxHeartbeats 16000000 in
set_option maxRecDepth 20000 in
theorem reads_any (g : Nat) (p : Option Addr) (made : Bool) (st : Option (List UInt8)) (k : Int) (w : World) (h : RdS w g p made st) (hm : made = true ∨ st = none) (hk : 0 ≤ k ∧ k ≤ 255) (hb : ∀ b, st = some b → b.length ≤ 1000000000000) :
    Calls Try.prog 25 #[.pointer p, rowV st, .int .u8 k] w (VPost w g p made (readS k st)) := by
  have M := Lib.hid (RM.new w h st)
  have k0 := hk.1
  have k1 := hk.2
  have HE : Hid ((endS made (readS k st) == 0) = ((readS k st).isSome && (((((readS k st).getD []).length : Nat) : Int) == 0))) := Lib.hid (end_fact (hm.imp id (fun e => by rw [e]; exact readS_none k)))
  clear hk hm
  obtain ⟨c0, c1, c2, c3, _⟩ := M.out.cells
  obtain ⟨m, hd, hm0, hm6⟩ : ∃ m, k % 7 = m ∧ 0 ≤ m ∧ m ≤ 6 := ⟨_, rfl, by omega, by omega⟩
  have hm7 : m = 0 ∨ m = 1 ∨ m = 2 ∨ m = 3 ∨ m = 4 ∨ m = 5 ∨ m = 6 := by omega
  clear hm0 hm6
  go_enter Try.func25, Try.ntmps25
  go_upto_block 0 with fail
  rw [hd]
  have HD := Lib.hid hd
  clear hd
  go_cut [8] (fun t wx => t = .bool true ∧ Hid (RM w g p made (readS k st) (readS k st) wx))
  case first =>
    clear HE
    rcases hm7 with rfl | rfl | rfl | rfl | rfl | rfl | rfl
    · as_aux_lemma =>
        have HK := Lib.hid (show ∀ W, RdS W g p made st → Calls Try.prog 36 #[.pointer p] W (RPost W g p made (.int .u64 (((tnS st).1 : Nat) : Int)) (tnS st).2) from fun W hr => rdnum_any g p made st W hr (fun b e => by have := hb b e; omega))
        have HT := Lib.hid (fun W => tnum_any st W (fun b e => by have := hb b e; omega))
        have HR := Lib.hid (show readS k st = (tnS st).2 by unfold readS; simp only [HD.out]; rfl)
        clear hb h
        generalize hv : tnS st = T at *
        clear hv
        obtain ⟨x, s'⟩ := T
        have HK : Hid (∀ W, RdS W g p made st → Calls Try.prog 36 #[.pointer p] W (RPost W g p made (.int .u64 ((x : Nat) : Int)) s')) := HK
        have HT : Hid (∀ W, Calls Try.prog 59 #[rowV st] W fun e w' => e = .returned (.tuple #[.int .u64 ((x : Nat) : Int), rowV s']) ∧ Below W.heap.size W w') := HT
        have HR : Hid (readS k st = s') := HR
        have q1 : (x == x) = true := by simp
        go_wp2_with (first
          | (go_at_call 36; (with_reducible refine (HK.out _ M.out.r).mono ?_); rintro e w1 ⟨rfl, hr1, hf1⟩; have M1 := Lib.hid (M.out.rd hr1 hf1); clear hr1 hf1; obtain ⟨d0, d1, _⟩ := M1.out.cells)
          | (go_at_call 59; (with_reducible refine (HT.out _).mono ?_); rintro e w2 ⟨rfl, hb2⟩; have M2 := Lib.hid ((M1.out.below hb2).alloc (.cells #[strV (s'.getD []), .bool s'.isSome] 53)); clear hb2; obtain ⟨e0, e1, e2, e3, _⟩ := M2.out.cells))
        go_meet
        case rel => exact ⟨rfl, Lib.hid (by rw [HR.out]; exact M2.out.seta s')⟩
    · as_aux_lemma =>
        have HK := Lib.hid (show ∀ W, RdS W g p made st → Calls Try.prog 30 #[.pointer p] W (RPost W g p made (.int .i64 (tiS st).1) (tiS st).2) from fun W hr => rdint_any g p made st W hr (fun b e => by have := hb b e; omega))
        have HT := Lib.hid (fun W => tint_any st W (fun b e => by have := hb b e; omega))
        have HR := Lib.hid (show readS k st = (tiS st).2 by unfold readS; simp only [HD.out]; rfl)
        clear hb h
        generalize hv : tiS st = T at *
        clear hv
        obtain ⟨x, s'⟩ := T
        have HK : Hid (∀ W, RdS W g p made st → Calls Try.prog 30 #[.pointer p] W (RPost W g p made (.int .i64 x) s')) := HK
        have HT : Hid (∀ W, Calls Try.prog 50 #[rowV st] W fun e w' => e = .returned (.tuple #[.int .i64 x, rowV s']) ∧ Below W.heap.size W w') := HT
        have HR : Hid (readS k st = s') := HR
        have q1 : (x == x) = true := by simp
        go_wp2_with (first
          | (go_at_call 30; (with_reducible refine (HK.out _ M.out.r).mono ?_); rintro e w1 ⟨rfl, hr1, hf1⟩; have M1 := Lib.hid (M.out.rd hr1 hf1); clear hr1 hf1; obtain ⟨d0, d1, _⟩ := M1.out.cells)
          | (go_at_call 50; (with_reducible refine (HT.out _).mono ?_); rintro e w2 ⟨rfl, hb2⟩; have M2 := Lib.hid ((M1.out.below hb2).alloc (.cells #[strV (s'.getD []), .bool s'.isSome] 53)); clear hb2; obtain ⟨e0, e1, e2, e3, _⟩ := M2.out.cells))
        go_meet
        case rel => exact ⟨rfl, Lib.hid (by rw [HR.out]; exact M2.out.seta s')⟩
    · as_aux_lemma =>
        have HK := Lib.hid (show ∀ W, RdS W g p made st → Calls Try.prog 31 #[.pointer p] W (RPost W g p made (.bool (ttS st).1) (ttS st).2) from fun W hr => rdtruth_any g p made st W hr (fun b e => by have := hb b e; omega))
        have HT := Lib.hid (fun W => ttruth_any st W (fun b e => by have := hb b e; omega))
        have HR := Lib.hid (show readS k st = (ttS st).2 by unfold readS; simp only [HD.out]; rfl)
        clear hb h
        generalize hv : ttS st = T at *
        clear hv
        obtain ⟨x, s'⟩ := T
        have HK : Hid (∀ W, RdS W g p made st → Calls Try.prog 31 #[.pointer p] W (RPost W g p made (.bool x) s')) := HK
        have HT : Hid (∀ W, Calls Try.prog 51 #[rowV st] W fun e w' => e = .returned (.tuple #[.bool x, rowV s']) ∧ Below W.heap.size W w') := HT
        have HR : Hid (readS k st = s') := HR
        have q1 : (x == x) = true := by simp
        go_wp2_with (first
          | (go_at_call 31; (with_reducible refine (HK.out _ M.out.r).mono ?_); rintro e w1 ⟨rfl, hr1, hf1⟩; have M1 := Lib.hid (M.out.rd hr1 hf1); clear hr1 hf1; obtain ⟨d0, d1, _⟩ := M1.out.cells)
          | (go_at_call 51; (with_reducible refine (HT.out _).mono ?_); rintro e w2 ⟨rfl, hb2⟩; have M2 := Lib.hid ((M1.out.below hb2).alloc (.cells #[strV (s'.getD []), .bool s'.isSome] 53)); clear hb2; obtain ⟨e0, e1, e2, e3, _⟩ := M2.out.cells))
        go_meet
        case rel => exact ⟨rfl, Lib.hid (by rw [HR.out]; exact M2.out.seta s')⟩
    · as_aux_lemma =>
        have HK := Lib.hid (show ∀ W, RdS W g p made st → Calls Try.prog 32 #[.pointer p] W (RPost W g p made (strV (txS st).1) (txS st).2) from fun W hr => rdtext_any g p made st W hr (fun b e => by have := hb b e; omega))
        have HT := Lib.hid (fun W => ttext_any st W (fun b e => by have := hb b e; omega))
        have HR := Lib.hid (show readS k st = (txS st).2 by unfold readS; simp only [HD.out]; rfl)
        clear hb h
        generalize hv : txS st = T at *
        clear hv
        obtain ⟨x, s'⟩ := T
        have HK : Hid (∀ W, RdS W g p made st → Calls Try.prog 32 #[.pointer p] W (RPost W g p made (strV x) s')) := HK
        have HT : Hid (∀ W, Calls Try.prog 52 #[rowV st] W fun e w' => e = .returned (.tuple #[strV x, rowV s']) ∧ Below W.heap.size W w') := HT
        have HR : Hid (readS k st = s') := HR
        have q1 : (x == x) = true := by simp
        go_wp2_with (first
          | (go_at_call 32; (with_reducible refine (HK.out _ M.out.r).mono ?_); rintro e w1 ⟨rfl, hr1, hf1⟩; have M1 := Lib.hid (M.out.rd hr1 hf1); clear hr1 hf1; obtain ⟨d0, d1, _⟩ := M1.out.cells)
          | (go_at_call 52; (with_reducible refine (HT.out _).mono ?_); rintro e w2 ⟨rfl, hb2⟩; have M2 := Lib.hid ((M1.out.below hb2).alloc (.cells #[strV (s'.getD []), .bool s'.isSome] 53)); clear hb2; obtain ⟨e0, e1, e2, e3, _⟩ := M2.out.cells))
        go_meet
        case rel => exact ⟨rfl, Lib.hid (by rw [HR.out]; exact M2.out.seta s')⟩
    · as_aux_lemma =>
        have HK := Lib.hid (show ∀ W, RdS W g p made st → Calls Try.prog 33 #[.pointer p] W (LPost (Value.int .u64) W g p made (listS tnI st)) from fun W hr => rdnums_any g p made st W hr (fun b e => by have := hb b e; omega))
        have HT := Lib.hid (fun W => tnums_any st W (fun b e => by have := hb b e; omega))
        have HR := Lib.hid (show readS k st = (listS tnI st).2 by unfold readS; simp only [HD.out]; rfl)
        have HL := Lib.hid (Nat.le_trans (listS_len (f := tnI) (fun st h => tnI_rem h) st) (rem_le' hb))
        clear hb h
        generalize hv : listS tnI st = T at *
        clear hv
        obtain ⟨xs, s'⟩ := T
        have HK : Hid (∀ W, RdS W g p made st → Calls Try.prog 33 #[.pointer p] W (LPost (Value.int .u64) W g p made (xs, s'))) := HK
        have HT : Hid (∀ W, Calls Try.prog 53 #[rowV st] W (TPost (Value.int .u64) W (xs, s'))) := HT
        have HR : Hid (readS k st = s') := HR
        have HL : Hid (xs.length ≤ 1000000000000 + 1) := HL
        go_wp2_with (first
          | (go_at_call 33; (with_reducible refine (HK.out _ M.out.r).mono ?_); rintro e w1 ⟨A1, k1, rfl, hq1, hz1, hr1, hf1⟩; have M1 := Lib.hid (M.out.rd hr1 hf1); have Q1 := Lib.hid hq1; have Z1 := Lib.hid hz1; have F1 := Lib.hid hf1; clear hr1 hf1 hq1 hz1; obtain ⟨d0, d1, _⟩ := M1.out.cells)
          | (go_at_call 53; (with_reducible refine (HT.out _).mono ?_); rintro e w2 ⟨A2, k2, rfl, hq2, hz2, hb2⟩; have M2 := Lib.hid ((M1.out.below hb2).alloc (.cells #[strV (s'.getD []), .bool s'.isSome] 53)); have QQ := Lib.hid (two_reads (x := strV (s'.getD [])) (y := .bool s'.isSome) (o := .cells #[strV (s'.getD []), .bool s'.isSome] 53) M.out F1.out Q1.out Z1.out hq2 hz2 hb2); clear hb2 hq2 hz2; obtain ⟨e0, e1, e2, e3, _⟩ := M2.out.cells)
          | (go_at_call 54; (with_reducible refine (same_nums A1 A2 _ _ _ _ _ xs xs (len9 HL.out) (len9 HL.out) _ QQ.out.1 QQ.out.2 (Nat.le_refl _)).mono ?_); rintro e w3 ⟨bs, rfl, hbs, hb3⟩; obtain rfl : bs = true := hbs.2 rfl; have M3 := Lib.hid ((M2.out.seta s').below hb3); clear hb3 hbs))
        go_meet
        case rel => exact ⟨rfl, Lib.hid (by rw [HR.out]; exact M3.out)⟩
    · as_aux_lemma =>
        have HK := Lib.hid (show ∀ W, RdS W g p made st → Calls Try.prog 34 #[.pointer p] W (LPost (Value.int .i64) W g p made (listS tiS st)) from fun W hr => rdints_any g p made st W hr (fun b e => by have := hb b e; omega))
        have HT := Lib.hid (fun W => tints_any st W (fun b e => by have := hb b e; omega))
        have HR := Lib.hid (show readS k st = (listS tiS st).2 by unfold readS; simp only [HD.out]; rfl)
        have HL := Lib.hid (Nat.le_trans (listS_len (f := tiS) (fun st h => tiS_rem h) st) (rem_le' hb))
        clear hb h
        generalize hv : listS tiS st = T at *
        clear hv
        obtain ⟨xs, s'⟩ := T
        have HK : Hid (∀ W, RdS W g p made st → Calls Try.prog 34 #[.pointer p] W (LPost (Value.int .i64) W g p made (xs, s'))) := HK
        have HT : Hid (∀ W, Calls Try.prog 55 #[rowV st] W (TPost (Value.int .i64) W (xs, s'))) := HT
        have HR : Hid (readS k st = s') := HR
        have HL : Hid (xs.length ≤ 1000000000000 + 1) := HL
        go_wp2_with (first
          | (go_at_call 34; (with_reducible refine (HK.out _ M.out.r).mono ?_); rintro e w1 ⟨A1, k1, rfl, hq1, hz1, hr1, hf1⟩; have M1 := Lib.hid (M.out.rd hr1 hf1); have Q1 := Lib.hid hq1; have Z1 := Lib.hid hz1; have F1 := Lib.hid hf1; clear hr1 hf1 hq1 hz1; obtain ⟨d0, d1, _⟩ := M1.out.cells)
          | (go_at_call 55; (with_reducible refine (HT.out _).mono ?_); rintro e w2 ⟨A2, k2, rfl, hq2, hz2, hb2⟩; have M2 := Lib.hid ((M1.out.below hb2).alloc (.cells #[strV (s'.getD []), .bool s'.isSome] 53)); have QQ := Lib.hid (two_reads (x := strV (s'.getD [])) (y := .bool s'.isSome) (o := .cells #[strV (s'.getD []), .bool s'.isSome] 53) M.out F1.out Q1.out Z1.out hq2 hz2 hb2); clear hb2 hq2 hz2; obtain ⟨e0, e1, e2, e3, _⟩ := M2.out.cells)
          | (go_at_call 56; (with_reducible refine (same_ints A1 A2 _ _ _ _ _ xs xs (len9 HL.out) (len9 HL.out) _ QQ.out.1 QQ.out.2 (Nat.le_refl _)).mono ?_); rintro e w3 ⟨bs, rfl, hbs, hb3⟩; obtain rfl : bs = true := hbs.2 rfl; have M3 := Lib.hid ((M2.out.seta s').below hb3); clear hb3 hbs))
        go_meet
        case rel => exact ⟨rfl, Lib.hid (by rw [HR.out]; exact M3.out)⟩
    · as_aux_lemma =>
        have HK := Lib.hid (show ∀ W, RdS W g p made st → Calls Try.prog 35 #[.pointer p] W (LPost (Value.string) W g p made (listS tbS st)) from fun W hr => rdtexts_any g p made st W hr (fun b e => by have := hb b e; omega))
        have HT := Lib.hid (fun W => ttexts_any st W (fun b e => by have := hb b e; omega))
        have HR := Lib.hid (show readS k st = (listS tbS st).2 by unfold readS; simp only [HD.out]; rfl)
        have HL := Lib.hid (Nat.le_trans (listS_len (f := tbS) (fun st h => tbS_rem h) st) (rem_le' hb))
        clear hb h
        generalize hv : listS tbS st = T at *
        clear hv
        obtain ⟨xs, s'⟩ := T
        have HK : Hid (∀ W, RdS W g p made st → Calls Try.prog 35 #[.pointer p] W (LPost (Value.string) W g p made (xs, s'))) := HK
        have HT : Hid (∀ W, Calls Try.prog 57 #[rowV st] W (TPost (Value.string) W (xs, s'))) := HT
        have HR : Hid (readS k st = s') := HR
        have HL : Hid (xs.length ≤ 1000000000000 + 1) := HL
        go_wp2_with (first
          | (go_at_call 35; (with_reducible refine (HK.out _ M.out.r).mono ?_); rintro e w1 ⟨A1, k1, rfl, hq1, hz1, hr1, hf1⟩; have M1 := Lib.hid (M.out.rd hr1 hf1); have Q1 := Lib.hid hq1; have Z1 := Lib.hid hz1; have F1 := Lib.hid hf1; clear hr1 hf1 hq1 hz1; obtain ⟨d0, d1, _⟩ := M1.out.cells)
          | (go_at_call 57; (with_reducible refine (HT.out _).mono ?_); rintro e w2 ⟨A2, k2, rfl, hq2, hz2, hb2⟩; have M2 := Lib.hid ((M1.out.below hb2).alloc (.cells #[strV (s'.getD []), .bool s'.isSome] 53)); have QQ := Lib.hid (two_reads (x := strV (s'.getD [])) (y := .bool s'.isSome) (o := .cells #[strV (s'.getD []), .bool s'.isSome] 53) M.out F1.out Q1.out Z1.out hq2 hz2 hb2); clear hb2 hq2 hz2; obtain ⟨e0, e1, e2, e3, _⟩ := M2.out.cells)
          | (go_at_call 58; (with_reducible refine (same_texts A1 A2 _ _ _ _ _ xs xs (len9 HL.out) (len9 HL.out) _ QQ.out.1 QQ.out.2 (Nat.le_refl _)).mono ?_); rintro e w3 ⟨bs, rfl, hbs, hb3⟩; obtain rfl : bs = true := hbs.2 rfl; have M3 := Lib.hid ((M2.out.seta s').below hb3); clear hb3 hbs))
        go_meet
        case rel => exact ⟨rfl, Lib.hid (by rw [HR.out]; exact M3.out)⟩
  case rest =>
  obtain ⟨rfl, M3⟩ := hcut
  clear M c0 c1 c2 c3 hm7 h hb
  generalize readS k st = s' at *
  generalize wc = V at *
  go_upto_region 37 with fail
  cases s' with
  | none =>
    have EF : (endS made none == 0) = false := HE.out
    have C0 := rw_start M3.out.rw.drew
    obtain ⟨f0, f1, f2, f3, f4, f5, RV⟩ := rw_start M3.out.rw
    obtain ⟨s0, s1⟩ := RV.two (.string ⟨#[]⟩) (.bool false)
    have RE : RW w g p made none ((V.setCell ⟨w.heap.size + 1, 0, none⟩ (.string ⟨#[]⟩)).setCell ⟨w.heap.size + 1, 1, none⟩ (.bool false)).drew := (RV.set_ _ _).drew
    have C1 := rw_start3 RE
    refine wp_region_noPanic ?_
    refine wp_region_held_drew (S := fun w' => w'.cell? ⟨w.heap.size, 0, none⟩ = some (.string ⟨#[]⟩) ∧ w'.cell? ⟨w.heap.size, 1, none⟩ = some (.bool false) ∧ RW w g p made none w') (by kernel_rfl) (rw_start3 RV.drew) (fun hS => ?_)
    clear C0
    refine wpAnyH_take (i := 0) (oi := _) (v := .agg #[.string ⟨#[]⟩, .bool false]) rfl (by kernel_rfl) (by kernel_rfl) (by kernel_rfl) (fun _ _ _ h => h) (Or.inl ⟨by rfl, ?_⟩) hS ?_
    · intro wz hz
      obtain ⟨z0, z1, z2⟩ := hz
      clear z2
      go_simp
    try simp only [List.getElem_toArray, List.getElem_cons_zero, List.getElem_cons_succ, Act.put, List.setIfInBounds_toArray, List.set_cons_zero, List.set_cons_succ]
    refine wpAnyH_take (i := 1) (oi := _) (v := .bool true) rfl (by kernel_rfl) (by kernel_rfl) (by kernel_rfl) (fun _ _ _ h => h) (Or.inl ⟨by rfl, ?_⟩) hS ?_
    · intro wz hz
      obtain ⟨z0, z1, z2⟩ := hz
      clear z2
      go_simp
    try simp only [List.getElem_toArray, List.getElem_cons_zero, List.getElem_cons_succ, Act.put, List.setIfInBounds_toArray, List.set_cons_zero, List.set_cons_succ]
    refine wpAnyH_take (i := 2) (oi := _) (v := .bool true) rfl (by kernel_rfl) (by kernel_rfl) (by kernel_rfl) (fun _ _ _ h => h) (Or.inl ⟨by rfl, ?_⟩) hS ?_
    · intro wz hz
      obtain ⟨z0, z1, z2⟩ := hz
      clear z2
      go_simp
    try simp only [List.getElem_toArray, List.getElem_cons_zero, List.getElem_cons_succ, Act.put, List.setIfInBounds_toArray, List.set_cons_zero, List.set_cons_succ]
    refine wpAnyH_take (i := 3) (oi := _) (v := .pointer p) rfl (by kernel_rfl) (by kernel_rfl) (by kernel_rfl) (fun _ _ _ h => h) (Or.inl ⟨by rfl, ?_⟩) hS ?_
    · intro wz hz
      obtain ⟨z0, z1, z2⟩ := hz
      clear z2
      go_simp
    try simp only [List.getElem_toArray, List.getElem_cons_zero, List.getElem_cons_succ, Act.put, List.setIfInBounds_toArray, List.set_cons_zero, List.set_cons_succ]
    refine wpAnyH_take (i := 5) (oi := _) (v := .pointer (some ⟨w.heap.size, 1, none⟩)) rfl (by kernel_rfl) (by kernel_rfl) (by kernel_rfl) (fun _ _ _ h => h) (Or.inl ⟨by rfl, ?_⟩) hS ?_
    · intro wz hz
      obtain ⟨z0, z1, z2⟩ := hz
      clear z2
      go_simp
    try simp only [List.getElem_toArray, List.getElem_cons_zero, List.getElem_cons_succ, Act.put, List.setIfInBounds_toArray, List.set_cons_zero, List.set_cons_succ]
    refine wpAnyH_take (i := 6) (oi := _) (v := .bool false) rfl (by kernel_rfl) (by kernel_rfl) (by kernel_rfl) (fun _ _ _ h => h) (Or.inl ⟨by rfl, ?_⟩) hS ?_
    · intro wz hz
      obtain ⟨z0, z1, z2⟩ := hz
      clear z2
      go_simp
    try simp only [List.getElem_toArray, List.getElem_cons_zero, List.getElem_cons_succ, Act.put, List.setIfInBounds_toArray, List.set_cons_zero, List.set_cons_succ]
    refine wpAnyH_ready (rs := [4]) (by kernel_rfl) (by simp) ?_
    refine AllReadyH.cons rfl (fun K hK => ?_) ?_
    · rw [if_pos (by rfl)]
      go_simp
      go_at_call 27
      refine (fine_any g p made none _ hS.2.2.r).mono ?_
      rintro e w' ⟨rfl, rfl⟩
      go_simp
      refine hK.out _ _ hS (fun hS => ?_)
      clear hK K
      try simp only [List.getElem_toArray, List.getElem_cons_zero, List.getElem_cons_succ, Act.put, List.setIfInBounds_toArray, List.set_cons_zero, List.set_cons_succ]
      refine wpAnyH_take (i := 7) (oi := _) (v := .bool true) rfl (by kernel_rfl) (by kernel_rfl) (by kernel_rfl) (fun _ _ _ h => h) (Or.inl ⟨by rfl, ?_⟩) hS ?_
      · intro wz hz
        obtain ⟨z0, z1, z2⟩ := hz
        clear z2
        go_simp
      try simp only [List.getElem_toArray, List.getElem_cons_zero, List.getElem_cons_succ, Act.put, List.setIfInBounds_toArray, List.set_cons_zero, List.set_cons_succ]
      refine wpAnyH_take (i := 8) (oi := _) (v := .bool true) rfl (by kernel_rfl) (by kernel_rfl) (by kernel_rfl) (fun _ _ _ h => h) (Or.inl ⟨by rfl, ?_⟩) hS ?_
      · intro wz hz
        obtain ⟨z0, z1, z2⟩ := hz
        clear z2
        go_simp
      try simp only [List.getElem_toArray, List.getElem_cons_zero, List.getElem_cons_succ, Act.put, List.setIfInBounds_toArray, List.set_cons_zero, List.set_cons_succ]
      refine wpAnyH_take (i := 9) (oi := _) (v := .bool true) rfl (by kernel_rfl) (by kernel_rfl) (by kernel_rfl) (fun _ _ _ h => h) (Or.inl ⟨by rfl, ?_⟩) hS ?_
      · intro wz hz
        obtain ⟨z0, z1, z2⟩ := hz
        clear z2
        go_simp
      try simp only [List.getElem_toArray, List.getElem_cons_zero, List.getElem_cons_succ, Act.put, List.setIfInBounds_toArray, List.set_cons_zero, List.set_cons_succ]
      refine wpAnyH_take (i := 10) (oi := _) (v := .pointer p) rfl (by kernel_rfl) (by kernel_rfl) (by kernel_rfl) (fun _ _ _ h => h) (Or.inl ⟨by rfl, ?_⟩) hS ?_
      · intro wz hz
        obtain ⟨z0, z1, z2⟩ := hz
        clear z2
        go_simp
      try simp only [List.getElem_toArray, List.getElem_cons_zero, List.getElem_cons_succ, Act.put, List.setIfInBounds_toArray, List.set_cons_zero, List.set_cons_succ]
      refine wpAnyH_take (i := 12) (oi := _) (v := .pointer (some ⟨w.heap.size, 0, none⟩)) rfl (by kernel_rfl) (by kernel_rfl) (by kernel_rfl) (fun _ _ _ h => h) (Or.inl ⟨by rfl, ?_⟩) hS ?_
      · intro wz hz
        obtain ⟨z0, z1, z2⟩ := hz
        clear z2
        go_simp
      try simp only [List.getElem_toArray, List.getElem_cons_zero, List.getElem_cons_succ, Act.put, List.setIfInBounds_toArray, List.set_cons_zero, List.set_cons_succ]
      refine wpAnyH_take (i := 13) (oi := _) (v := .string ⟨#[]⟩) rfl (by kernel_rfl) (by kernel_rfl) (by kernel_rfl) (fun _ _ _ h => h) (Or.inl ⟨by rfl, ?_⟩) hS ?_
      · intro wz hz
        obtain ⟨z0, z1, z2⟩ := hz
        clear z2
        go_simp
      try simp only [List.getElem_toArray, List.getElem_cons_zero, List.getElem_cons_succ, Act.put, List.setIfInBounds_toArray, List.set_cons_zero, List.set_cons_succ]
      refine wpAnyH_take (i := 14) (oi := _) (v := .int .i64 0) rfl (by kernel_rfl) (by kernel_rfl) (by kernel_rfl) (fun _ _ _ h => h) (Or.inl ⟨by rfl, ?_⟩) hS ?_
      · intro wz hz
        obtain ⟨z0, z1, z2⟩ := hz
        clear z2
        go_simp
      try simp only [List.getElem_toArray, List.getElem_cons_zero, List.getElem_cons_succ, Act.put, List.setIfInBounds_toArray, List.set_cons_zero, List.set_cons_succ]
      refine wpAnyH_ready (rs := [11]) (by kernel_rfl) (by simp) ?_
      refine AllReadyH.cons rfl (fun K hK => ?_) ?_
      · rw [if_pos (by rfl)]
        go_simp
        go_at_call 29
        refine (left_any g p made none _ hS.2.2.r).mono ?_
        rintro e w' ⟨rfl, rfl⟩
        go_simp
        refine hK.out _ _ hS (fun hS => ?_)
        clear hK K
        try simp only [List.getElem_toArray, List.getElem_cons_zero, List.getElem_cons_succ, Act.put, List.setIfInBounds_toArray, List.set_cons_zero, List.set_cons_succ]
        refine wpAnyH_take (i := 15) (oi := _) (v := .bool true) rfl (by kernel_rfl) (by kernel_rfl) (by kernel_rfl) (fun _ _ _ h => h) (Or.inl ⟨by rfl, ?_⟩) hS ?_
        · intro wz hz
          obtain ⟨z0, z1, z2⟩ := hz
          clear z2
          go_simp
        try simp only [List.getElem_toArray, List.getElem_cons_zero, List.getElem_cons_succ, Act.put, List.setIfInBounds_toArray, List.set_cons_zero, List.set_cons_succ]
        refine wpAnyH_take (i := 16) (oi := _) (v := .bool true) rfl (by kernel_rfl) (by kernel_rfl) (by kernel_rfl) (fun _ _ _ h => h) (Or.inl ⟨by rfl, ?_⟩) hS ?_
        · intro wz hz
          obtain ⟨z0, z1, z2⟩ := hz
          clear z2
          go_simp
        try simp only [List.getElem_toArray, List.getElem_cons_zero, List.getElem_cons_succ, Act.put, List.setIfInBounds_toArray, List.set_cons_zero, List.set_cons_succ]
        refine wpAnyH_take (i := 17) (oi := _) (v := .bool true) rfl (by kernel_rfl) (by kernel_rfl) (by kernel_rfl) (fun _ _ _ h => h) (Or.inl ⟨by rfl, ?_⟩) hS ?_
        · intro wz hz
          obtain ⟨z0, z1, z2⟩ := hz
          clear z2
          go_simp
        try simp only [List.getElem_toArray, List.getElem_cons_zero, List.getElem_cons_succ, Act.put, List.setIfInBounds_toArray, List.set_cons_zero, List.set_cons_succ]
        refine wpAnyH_take (i := 18) (oi := _) (v := .pointer p) rfl (by kernel_rfl) (by kernel_rfl) (by kernel_rfl) (fun _ _ _ h => h) (Or.inl ⟨by rfl, ?_⟩) hS ?_
        · intro wz hz
          obtain ⟨z0, z1, z2⟩ := hz
          clear z2
          go_simp
        try simp only [List.getElem_toArray, List.getElem_cons_zero, List.getElem_cons_succ, Act.put, List.setIfInBounds_toArray, List.set_cons_zero, List.set_cons_succ]
        refine wpAnyH_take (i := 21) (oi := _) (v := .pointer (some ⟨w.heap.size, 1, none⟩)) rfl (by kernel_rfl) (by kernel_rfl) (by kernel_rfl) (fun _ _ _ h => h) (Or.inl ⟨by rfl, ?_⟩) hS ?_
        · intro wz hz
          obtain ⟨z0, z1, z2⟩ := hz
          clear z2
          go_simp
        try simp only [List.getElem_toArray, List.getElem_cons_zero, List.getElem_cons_succ, Act.put, List.setIfInBounds_toArray, List.set_cons_zero, List.set_cons_succ]
        refine wpAnyH_take (i := 22) (oi := _) (v := .bool false) rfl (by kernel_rfl) (by kernel_rfl) (by kernel_rfl) (fun _ _ _ h => h) (Or.inl ⟨by rfl, ?_⟩) hS ?_
        · intro wz hz
          obtain ⟨z0, z1, z2⟩ := hz
          clear z2
          go_simp
        try simp only [List.getElem_toArray, List.getElem_cons_zero, List.getElem_cons_succ, Act.put, List.setIfInBounds_toArray, List.set_cons_zero, List.set_cons_succ]
        refine wpAnyH_ready (rs := [19]) (by kernel_rfl) (by simp) ?_
        refine AllReadyH.cons rfl (fun K hK => ?_) ?_
        · rw [if_pos (by rfl)]
          go_simp
          go_at_call 28
          refine (end_any g p made none _ hS.2.2.r).mono ?_
          rintro e w' ⟨rfl, rfl⟩
          go_simp
          refine hK.out _ _ hS (fun hS => ?_)
          clear hK K
          try simp only [List.getElem_toArray, List.getElem_cons_zero, List.getElem_cons_succ, Act.put, List.setIfInBounds_toArray, List.set_cons_zero, List.set_cons_succ]
          refine wpAnyH_take (i := 20) (oi := _) (v := .bool false) rfl (by kernel_rfl) (by kernel_rfl) (by kernel_rfl) (fun _ _ _ h => h) (Or.inl ⟨by rfl, ?_⟩) hS ?_
          · intro wz hz
            obtain ⟨z0, z1, z2⟩ := hz
            clear z2
            go_simp
          try simp only [List.getElem_toArray, List.getElem_cons_zero, List.getElem_cons_succ, Act.put, List.setIfInBounds_toArray, List.set_cons_zero, List.set_cons_succ]
          refine wpAnyH_take (i := 23) (oi := _) (v := .bool false) rfl (by kernel_rfl) (by kernel_rfl) (by kernel_rfl) (fun _ _ _ h => h) (Or.inl ⟨by rfl, ?_⟩) hS ?_
          · intro wz hz
            obtain ⟨z0, z1, z2⟩ := hz
            clear z2
            go_simp
          try simp only [List.getElem_toArray, List.getElem_cons_zero, List.getElem_cons_succ, Act.put, List.setIfInBounds_toArray, List.set_cons_zero, List.set_cons_succ]
          refine wpAnyH_take (i := 24) (oi := _) (v := undef) rfl (by kernel_rfl) (by kernel_rfl) (by kernel_rfl) (fun _ _ _ h => h) (Or.inr ⟨by rfl, rfl⟩) hS ?_
          try simp only [List.getElem_toArray, List.getElem_cons_zero, List.getElem_cons_succ, Act.put, List.setIfInBounds_toArray, List.set_cons_zero, List.set_cons_succ]
          refine wpAnyH_take (i := 25) (oi := _) (v := undef) rfl (by kernel_rfl) (by kernel_rfl) (by kernel_rfl) (fun _ _ _ h => h) (Or.inr ⟨by rfl, rfl⟩) hS ?_
          try simp only [List.getElem_toArray, List.getElem_cons_zero, List.getElem_cons_succ, Act.put, List.setIfInBounds_toArray, List.set_cons_zero, List.set_cons_succ]
          refine wpAnyH_take (i := 26) (oi := _) (v := undef) rfl (by kernel_rfl) (by kernel_rfl) (by kernel_rfl) (fun _ _ _ h => h) (Or.inr ⟨by rfl, rfl⟩) hS ?_
          try simp only [List.getElem_toArray, List.getElem_cons_zero, List.getElem_cons_succ, Act.put, List.setIfInBounds_toArray, List.set_cons_zero, List.set_cons_succ]
          refine wpAnyH_take (i := 27) (oi := _) (v := undef) rfl (by kernel_rfl) (by kernel_rfl) (by kernel_rfl) (fun _ _ _ h => h) (Or.inr ⟨by rfl, rfl⟩) hS ?_
          try simp only [List.getElem_toArray, List.getElem_cons_zero, List.getElem_cons_succ, Act.put, List.setIfInBounds_toArray, List.set_cons_zero, List.set_cons_succ]
          refine wpAnyH_take (i := 28) (oi := _) (v := .bool false) rfl (by kernel_rfl) (by kernel_rfl) (by kernel_rfl) (fun _ _ _ h => h) (Or.inl ⟨by rfl, ?_⟩) hS ?_
          · intro wz hz
            obtain ⟨z0, z1, z2⟩ := hz
            clear z2
            go_simp
          try simp only [List.getElem_toArray, List.getElem_cons_zero, List.getElem_cons_succ, Act.put, List.setIfInBounds_toArray, List.set_cons_zero, List.set_cons_succ]
          refine wpAnyH_take (i := 29) (oi := _) (v := .bool true) rfl (by kernel_rfl) (by kernel_rfl) (by kernel_rfl) (fun _ _ _ h => h) (Or.inl ⟨by rfl, ?_⟩) hS ?_
          · intro wz hz
            obtain ⟨z0, z1, z2⟩ := hz
            clear z2
            go_simp
          try simp only [List.getElem_toArray, List.getElem_cons_zero, List.getElem_cons_succ, Act.put, List.setIfInBounds_toArray, List.set_cons_zero, List.set_cons_succ]
          refine wpAnyH_take (i := 30) (oi := _) (v := .bool true) rfl (by kernel_rfl) (by kernel_rfl) (by kernel_rfl) (fun _ _ _ h => h) (Or.inl ⟨by rfl, ?_⟩) hS ?_
          · intro wz hz
            obtain ⟨z0, z1, z2⟩ := hz
            clear z2
            go_simp
          try simp only [List.getElem_toArray, List.getElem_cons_zero, List.getElem_cons_succ, Act.put, List.setIfInBounds_toArray, List.set_cons_zero, List.set_cons_succ]
          refine wpAnyH_ready (rs := [31]) (by kernel_rfl) (by simp) ?_
          refine AllReadyH.cons rfl (fun K hK => ?_) ?_
          · rw [if_pos (by rfl)]
            go_simp
            refine hK.out _ _ C1 (fun hS => ?_)
            clear hK K
            try simp only [List.getElem_toArray, List.getElem_cons_zero, List.getElem_cons_succ, Act.put, List.setIfInBounds_toArray, List.set_cons_zero, List.set_cons_succ]
            refine wpAnyH_take (i := 32) (oi := _) (v := .bool true) rfl (by kernel_rfl) (by kernel_rfl) (by kernel_rfl) (fun _ _ _ h => h) (Or.inl ⟨by rfl, ?_⟩) hS ?_
            · intro wz hz
              obtain ⟨z0, z1, z2⟩ := hz
              clear z2
              go_simp
            try simp only [List.getElem_toArray, List.getElem_cons_zero, List.getElem_cons_succ, Act.put, List.setIfInBounds_toArray, List.set_cons_zero, List.set_cons_succ]
            refine wpAnyH_done (by kernel_rfl) ?_ _
            refine NoPanic.normal ?_
            go_wp2_with fail
            exact bodyPost_ret (v := .tuple #[.agg #[.string ⟨#[]⟩, .bool false], .bool true]) (by simp [results, Try.results25, go_sem, s0, s1]) rfl ⟨rfl, RE.r, RE.f⟩
          exact AllReadyH.nil
        exact AllReadyH.nil
      exact AllReadyH.nil
    exact AllReadyH.nil
  | some b =>
    have EF : (endS made (some b) == 0) = (((b.length : Nat) : Int) == 0) := HE.out.trans rfl
    have C0 := rw_start M3.out.rw.drew
    obtain ⟨f0, f1, f2, f3, f4, f5, RV⟩ := rw_start M3.out.rw
    go_region_held3 (fun w' => w'.cell? ⟨w.heap.size, 0, none⟩ = some (strV ((some b).getD [])) ∧ w'.cell? ⟨w.heap.size, 1, none⟩ = some (.bool (some b).isSome) ∧ w'.cell? ⟨w.heap.size + 1, 0, none⟩ = some (wit w' ⟨w.heap.size + 1, 0, none⟩) ∧ w'.cell? ⟨w.heap.size + 1, 1, none⟩ = some (wit w' ⟨w.heap.size + 1, 1, none⟩) ∧ w'.frozen? ⟨w.heap.size + 1, 0, none⟩ = false ∧ w'.frozen? ⟨w.heap.size + 1, 1, none⟩ = false ∧ RW w g p made (some b) w')
      (first | with_reducible exact C0 | with_reducible assumption | with_reducible exact rw_start (RW.drew (RW.set_ RV _ _)) | go_keep)
      (first
        | (go_at_call 27; (with_reducible refine (fine_any g p made (some b) _ (rw_of (by assumption)).r).mono ?_); rintro e w' ⟨rfl, rfl⟩)
        | (go_at_call 29; (with_reducible refine (left_any g p made (some b) _ (rw_of (by assumption)).r).mono ?_); rintro e w' ⟨rfl, rfl⟩)
        | (go_at_call 28; (with_reducible refine (end_any g p made (some b) _ (rw_of (by assumption)).r).mono ?_); rintro e w' ⟨rfl, rfl⟩))
    all_goals (go_wp2_with fail)
    all_goals
      obtain ⟨s0, s1⟩ := RV.two (.string ⟨b.toArray⟩) (.bool true)
      have RE : RW w g p made (some b) ((V.setCell ⟨w.heap.size + 1, 0, none⟩ (.string ⟨b.toArray⟩)).setCell ⟨w.heap.size + 1, 1, none⟩ (.bool true)).drew := (RV.set_ _ _).drew
      exact bodyPost_ret (v := .tuple #[.agg #[.string ⟨b.toArray⟩, .bool true], .bool true]) (by simp [results, Try.results25, go_sem, s0, s1]) rfl ⟨rfl, RE.r, RE.f⟩
end Go.Proofs.Ytijkfllolcgfhaa.Pack
