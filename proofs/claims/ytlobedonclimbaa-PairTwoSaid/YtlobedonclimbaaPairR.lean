/- Chapter 9: the table of the rules, walked. No condition. -/
import Derived.Test.YtlobedonclimbaaPairC
import Derived.Great.CaseRows
import Derived.Great.Walk
namespace Go.Proofs.Ytlobedonclimbaa.Pair
open Go.Great Go.RowKit
set_option linter.unusedVariables false

def cellsU (x : Int × Nat × Bool) : List Value := [.int .u8 x.1, .func (.func x.2.1) #[] #[], .bool x.2.2]
def ruT : List (Int × Nat × Bool) := (List.range 25).map fun k => (numR k, gR k, mayR k)
def ruCells : Array Value := (ruT.flatMap cellsU).toArray
def ruOp (t : TypeId) (pos : String) (d : Nat) (x : Int × Nat × Bool) : Oper :=
  { dst := some d, op := .build t #[(0, .const (.int .u8 x.1)), (1, .func x.2.1), (2, .const (.bool x.2.2))], type := t, pos := pos, after := #[], guard := none }
def ruOps (t : TypeId) (pos : String) : Nat → List (Int × Nat × Bool) → List Oper
  | _, [] => []
  | d, x :: xs => ruOp t pos d x :: ruOps t pos (d + 1) xs
def ruVal (x : Int × Nat × Bool) : Value := .agg #[.int .u8 x.1, .func (.func x.2.1) #[] #[], .bool x.2.2]

theorem wpList_rus {P : Program} {ops : Array Oper} {rest : List Oper} {w : World} {Q : Exit → Act → World → Prop} (t : TypeId) (pos : String)
    (hb : ∀ (x : Int) (g : Nat) (b : Bool), P.built t [(0, .int .u8 x), (1, .func (.func g) #[] #[]), (2, .bool b)] = some #[.int .u8 x, .func (.func g) #[] #[], .bool b]) :
    ∀ (xs : List (Int × Nat × Bool)) (d : Nat) (a : Act), d + xs.length ≤ a.tmps.size →
      (∀ a' : Act, a'.tmps.size = a.tmps.size → a'.defers = a.defers → (∀ i (h : i < xs.length), a'.eval (.tmp (d + i)) = ruVal xs[i]) →
        (∀ j, j < d → a'.eval (.tmp j) = a.eval (.tmp j)) → wpList P ops Q rest a' w) →
      wpList P ops Q (ruOps t pos d xs ++ rest) a w
  | [], d, a, _, h => h a rfl rfl (fun i hi => absurd hi (by simp)) (fun _ _ => rfl)
  | x :: xs, d, a, hd, h => by
    have hlt : d < a.tmps.size := by simp at hd; omega
    show wpList P ops Q (ruOp t pos d x :: (ruOps t pos (d + 1) xs ++ rest)) a w
    refine wpList_buildTo rfl t _ rfl (some d) rfl #[.int .u8 x.1, .func (.func x.2.1) #[] #[], .bool x.2.2] (by simpa [Act.eval] using hb x.1 x.2.1 x.2.2) ?_
    refine wpList_rus t pos hb xs (d + 1) _ (by rw [Act.size_put]; simp at hd; omega) fun a' hs hdf hev hlow => ?_
    refine h a' (hs.trans (Act.size_put _ _ _)) (hdf.trans (Act.defers_put' _ _ _)) (fun i hi => ?_) (fun j hj => ?_)
    · cases i with
      | zero => rw [Nat.add_zero, hlow d (by omega), Act.eval_put_same _ _ _ hlt]; rfl
      | succ i =>
        have := hev i (by simpa using hi)
        rw [show d + (i + 1) = d + 1 + i by omega, this]
        rfl
    · rw [hlow j (by omega), Act.eval_put_ne _ _ _ _ (by omega)]

theorem parts_tmps (a : Act) (parts : Array (Nat × Operand)) (vs : List Value) (d : Nat) (hparts : parts.toList = (List.range vs.length).map fun i => (i, Operand.tmp (d + i)))
    (hev : ∀ i (h : i < vs.length), a.eval (.tmp (d + i)) = vs[i]) : (parts.map fun (i, x) => (i, a.eval x)).toList = (vs.zipIdx 0).map fun x => (x.2, x.1) := by
  rw [Array.toList_map, hparts, List.map_map]
  apply List.ext_getElem
  · simp
  · intro i h1 h2
    have hi : i < vs.length := by simpa using h1
    simp only [List.getElem_map, List.getElem_range, Function.comp, List.getElem_zipIdx, Nat.zero_add]
    rw [hev i hi]

theorem bel_setRow {B : Nat} {w w' : World} (h : Below B w w') (g : Nat) (cs : Array Value) (hg : B ≤ g) : Below B w (w'.setRow g cs) :=
  h.trans ⟨rfl, rfl, rfl, by simp [World.setRow], fun k hk => setRow_other _ _ _ _ (by omega)⟩

def ruZ : Array Value := (List.replicate 25 [Value.int .u8 0, Value.nilFunc, .bool false]).flatten.toArray
theorem ruT_length : ruT.length = 25 := by simp [ruT]
set_option maxRecDepth 1000000 in
set_option maxHeartbeats 4000000 in
theorem rules_any (w : World) : Calls Try.prog 26 #[] w fun e w' => e = .returned (.agg ruCells) ∧ Below w.heap.size w w' := by
  refine calls_of_wp Try.func26 rfl ?_
  refine wp_anyFrame 27 (by as_aux_lemma => kernel_rfl) rfl fun a0 hs0 hd0 => ?_
  apply wp_seq_k; intro K0 hK0
  apply wp_region_lit
  refine wpList_runTo rfl (some 0) rfl (.pointer (some ⟨w.heap.size, 0, none⟩)) (w.alloc (.cells ruZ 48)) (by as_aux_lemma => kernel_rfl) ?_
  apply wpList_nil
  refine hK0 _ _ ?_
  clear hK0 K0
  have hp : (a0.put (some 0) (.pointer (some ⟨w.heap.size, 0, none⟩))).eval (.tmp 0) = .pointer (some ⟨w.heap.size, 0, none⟩) := Act.eval_put_same _ _ _ (by omega)
  have hs1 : (a0.put (some 0) (.pointer (some ⟨w.heap.size, 0, none⟩))).tmps.size = 27 := by rw [Act.size_put, hs0]
  have hd1 : (a0.put (some 0) (.pointer (some ⟨w.heap.size, 0, none⟩))).defers = [] := by rw [Act.defers_put', hd0]
  generalize a0.put (some 0) (.pointer (some ⟨w.heap.size, 0, none⟩)) = a1 at hp hs1 hd1 ⊢
  apply wp_seq_k; intro K0 hK0
  apply wp_region_lit
  refine wpList_splitAt 25 (ruOps 42 "pair.go:73" 1 ruT) (by as_aux_lemma => kernel_rfl) ?_
  refine wpList_rus 42 "pair.go:73" (fun _ _ _ => by as_aux_lemma => kernel_rfl) ruT 1 _ (by rw [hs1, ruT_length]; omega) fun b hb hbd hev hlow => ?_
  have hev' : ∀ i (h : i < (ruT.map ruVal).length), b.eval (.tmp (1 + i)) = (ruT.map ruVal)[i] := fun i h => by rw [hev i (by simpa using h), List.getElem_map]
  refine wpList_buildTo rfl 48 _ rfl (some 26) rfl ruCells (by rw [parts_tmps b _ (ruT.map ruVal) 1 (by as_aux_lemma => kernel_rfl) hev']; as_aux_lemma => kernel_rfl) ?_
  refine wpList_store_rowTo rfl 48 _ _ rfl rfl w.heap.size ruCells (by rw [Act.eval_put_ne _ _ _ _ (by omega), hlow 0 (by omega), hp]) (Act.eval_put_same _ _ _ (by rw [hb, hs1]; omega)) 48 ruZ (heap_alloc_new w _) (by as_aux_lemma => kernel_rfl) (by as_aux_lemma => kernel_rfl) (by as_aux_lemma => kernel_rfl) ?_
  apply wpList_nil
  refine hK0 _ _ ?_
  apply wp_ret
  refine bodyPost_ret (v := .agg ruCells) (results_cell_row rfl _ _ w.heap.size 48 ruCells (0, 0) (.array 25 42) ?_ ?_ (by as_aux_lemma => kernel_rfl) rfl (by as_aux_lemma => kernel_rfl)) ?_ ⟨rfl, bel_setRow (bel_alloc (Below.refl _ _) _) _ _ (Nat.le_refl _)⟩
  · have := (Act.eval_put_ne b 26 0 (.agg ruCells) (by omega)).trans ((hlow 0 (by omega)).trans hp)
    exact this
  · exact setRow_heap _ _ ruZ _ _ _ (heap_alloc_new w _)
  · rw [Act.defers_put', hbd, hd1]
theorem ruCells_at (k d : Nat) (hk : k < 25) (hd : d < 3) : ruCells[k * 3 + d]? = (cellsU (numR k, gR k, mayR k))[d]? := by
  have h : ∀ (k : Fin 25) (d : Fin 3), ruCells[k.val * 3 + d.val]? = (cellsU (numR k.val, gR k.val, mayR k.val))[d.val]? := fun k d => by
    match k, d with
    | ⟨k, hk⟩, ⟨d, hd⟩ =>
      simp only
      rw [ruCells, List.getElem?_toArray]
      have hl : ∀ (l : List (Int × Nat × Bool)) (i : Nat) (h : i < l.length), (l.flatMap cellsU)[i * 3 + d]? = (cellsU l[i])[d]? := by
        intro l
        induction l with
        | nil => intro i h; simp at h
        | cons x l ih =>
          intro i h
          cases i with
          | zero =>
            rw [List.flatMap_cons, List.getElem?_append_left (by simp [cellsU]; omega)]
            simp
          | succ i =>
            rw [List.flatMap_cons, List.getElem?_append_right (by simp [cellsU]; omega)]
            rw [show (i + 1) * 3 + d - (cellsU x).length = i * 3 + d by simp [cellsU]; omega, ih i (by simpa using h)]
            rfl
      rw [hl ruT k (by rw [ruT_length]; exact hk)]
      simp [ruT]
  exact h ⟨k, hk⟩ ⟨d, hd⟩
end Go.Proofs.Ytlobedonclimbaa.Pair
