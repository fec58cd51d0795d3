/- The two great literals of chapter 4 (class.spans and the reference's rows), walked. No condition. -/
import Derived.Test.YtfpgmldgfgoboaaProg
import Derived.Test.YtfpgmldgfgoboaaClassT
import Derived.Great.CaseRows
import Derived.Great.Walk
namespace Go.Proofs.Ytfpgmldgfgoboaa.Class
open Go.Great Go.RowKit
set_option linter.unusedVariables false

def cellsS (x : Int × Int × Int) : List Value := [.int .i32 x.1, .int .i32 x.2.1, .int .u8 x.2.2]
def cellsR (x : Int × Int × Int) : List Value := [.int .i32 x.1, .int .i32 x.2.1, .int .i32 x.2.2]
def spanCells : Array Value := (spanT.flatMap cellsS).toArray
def rowCells : Array Value := (rowT.flatMap cellsR).toArray

/-- One row's operation: a struct or an array of three numbers. -/
def triOp (t : TypeId) (pos : String) (k : IntKind) (d : Nat) (x : Int × Int × Int) : Oper :=
  { dst := some d, op := .build t #[(0, .const (.int .i32 x.1)), (1, .const (.int .i32 x.2.1)), (2, .const (.int k x.2.2))], type := t, pos := pos, after := #[], guard := none }
def triOps (t : TypeId) (pos : String) (k : IntKind) : Nat → List (Int × Int × Int) → List Oper
  | _, [] => []
  | d, x :: xs => triOp t pos k d x :: triOps t pos k (d + 1) xs
def triVal (k : IntKind) (x : Int × Int × Int) : Value := .agg #[.int .i32 x.1, .int .i32 x.2.1, .int k x.2.2]

theorem wpList_tris {P : Program} {ops : Array Oper} {rest : List Oper} {w : World} {Q : Exit → Act → World → Prop} (t : TypeId) (pos : String) (k : IntKind)
    (hb : ∀ x y z : Int, P.built t [(0, .int .i32 x), (1, .int .i32 y), (2, .int k z)] = some #[.int .i32 x, .int .i32 y, .int k z]) :
    ∀ (xs : List (Int × Int × Int)) (d : Nat) (a : Act), d + xs.length ≤ a.tmps.size →
      (∀ a' : Act, a'.tmps.size = a.tmps.size → a'.defers = a.defers → (∀ i (h : i < xs.length), a'.eval (.tmp (d + i)) = triVal k xs[i]) →
        (∀ j, j < d → a'.eval (.tmp j) = a.eval (.tmp j)) → wpList P ops Q rest a' w) →
      wpList P ops Q (triOps t pos k d xs ++ rest) a w
  | [], d, a, _, h => h a rfl rfl (fun i hi => absurd hi (by simp)) (fun _ _ => rfl)
  | x :: xs, d, a, hd, h => by
    have hlt : d < a.tmps.size := by simp at hd; omega
    show wpList P ops Q (triOp t pos k d x :: (triOps t pos k (d + 1) xs ++ rest)) a w
    refine wpList_buildTo rfl t _ rfl (some d) rfl #[.int .i32 x.1, .int .i32 x.2.1, .int k x.2.2] (by simpa [Act.eval] using hb x.1 x.2.1 x.2.2) ?_
    refine wpList_tris t pos k hb xs (d + 1) _ (by rw [Act.size_put]; simp at hd; omega) fun a' hs hdf hev hlow => ?_
    refine h a' (hs.trans (Act.size_put _ _ _)) (hdf.trans (Act.defers_put' _ _ _)) (fun i hi => ?_) (fun j hj => ?_)
    · cases i with
      | zero => rw [Nat.add_zero, hlow d (by omega), Act.eval_put_same _ _ _ hlt]; rfl
      | succ i =>
        have := hev i (by simpa using hi)
        rw [show d + (i + 1) = d + 1 + i by omega, this]
        rfl
    · rw [hlow j (by omega), Act.eval_put_ne _ _ _ _ (by omega)]

theorem parts_tmps (a : Act) (parts : Array (Nat × Operand)) (vs : List Value) (d : Nat) (hparts : parts.toList = (List.range vs.length).map fun i => (i, Operand.tmp (d + i)))
    (hev : ∀ i (h : i < vs.length), a.eval (.tmp (d + i)) = vs[i]) : (parts.map fun (i, x) => (i, a.eval x)).toList = (vs.zipIdx 0).map fun x => (x.2, x.1) := by
  rw [Array.toList_map, hparts, List.map_map]
  apply List.ext_getElem
  · simp
  · intro i h1 h2
    have hi : i < vs.length := by simpa using h1
    simp only [List.getElem_map, List.getElem_range, Function.comp, List.getElem_zipIdx, Nat.zero_add]
    rw [hev i hi]

theorem bel_setRow {B : Nat} {w w' : World} (h : Below B w w') (g : Nat) (cs : Array Value) (hg : B ≤ g) : Below B w (w'.setRow g cs) :=
  h.trans ⟨rfl, rfl, rfl, by simp [World.setRow], fun k hk => setRow_other _ _ _ _ (by omega)⟩

def spanZ : Array Value := (List.replicate 188 [Value.int .i32 0, .int .i32 0, .int .u8 0]).flatten.toArray

set_option maxRecDepth 1000000 in
set_option maxHeartbeats 4000000 in
theorem spans_any (w : World) : Calls Try.prog 34 #[] w fun e w' => e = .returned (.agg spanCells) ∧ Below w.heap.size w w' := by
  refine calls_of_wp Try.func34 rfl ?_
  refine wp_anyFrame 190 (by as_aux_lemma => kernel_rfl) rfl fun a0 hs0 hd0 => ?_
  apply wp_seq_k; intro K0 hK0
  apply wp_region_lit
  refine wpList_runTo rfl (some 0) rfl (.pointer (some ⟨w.heap.size, 0, none⟩)) (w.alloc (.cells spanZ 52)) (by as_aux_lemma => kernel_rfl) ?_
  apply wpList_nil
  refine hK0 _ _ ?_
  clear hK0 K0
  have hp : (a0.put (some 0) (.pointer (some ⟨w.heap.size, 0, none⟩))).eval (.tmp 0) = .pointer (some ⟨w.heap.size, 0, none⟩) := Act.eval_put_same _ _ _ (by omega)
  have hs1 : (a0.put (some 0) (.pointer (some ⟨w.heap.size, 0, none⟩))).tmps.size = 190 := by rw [Act.size_put, hs0]
  have hd1 : (a0.put (some 0) (.pointer (some ⟨w.heap.size, 0, none⟩))).defers = [] := by rw [Act.defers_put', hd0]
  generalize a0.put (some 0) (.pointer (some ⟨w.heap.size, 0, none⟩)) = a1 at hp hs1 hd1 ⊢
  apply wp_seq_k; intro K0 hK0
  apply wp_region_lit
  refine wpList_splitAt 188 (triOps 51 "class.go:21" .u8 1 spanT) (by as_aux_lemma => kernel_rfl) ?_
  refine wpList_tris 51 "class.go:21" .u8 (fun _ _ _ => by as_aux_lemma => kernel_rfl) spanT 1 _ (by rw [hs1, spanT_length]; omega) fun b hb hbd hev hlow => ?_
  have hev' : ∀ i (h : i < (spanT.map (triVal .u8)).length), b.eval (.tmp (1 + i)) = (spanT.map (triVal .u8))[i] := fun i h => by rw [hev i (by simpa using h), List.getElem_map]
  refine wpList_buildTo rfl 52 _ rfl (some 189) rfl spanCells (by rw [parts_tmps b _ (spanT.map (triVal .u8)) 1 (by as_aux_lemma => kernel_rfl) hev']; as_aux_lemma => kernel_rfl) ?_
  refine wpList_store_rowTo rfl 52 _ _ rfl rfl w.heap.size spanCells (by rw [Act.eval_put_ne _ _ _ _ (by omega), hlow 0 (by omega), hp]) (Act.eval_put_same _ _ _ (by rw [hb, hs1]; omega)) 52 spanZ (heap_alloc_new w _) (by as_aux_lemma => kernel_rfl) (by as_aux_lemma => kernel_rfl) (by as_aux_lemma => kernel_rfl) ?_
  apply wpList_nil
  refine hK0 _ _ ?_
  apply wp_ret
  refine bodyPost_ret (v := .agg spanCells) (results_cell_row rfl _ _ w.heap.size 52 spanCells (0, 0) (.array 188 51) ?_ ?_ (by as_aux_lemma => kernel_rfl) rfl (by as_aux_lemma => kernel_rfl)) ?_ ⟨rfl, bel_setRow (bel_alloc (Below.refl _ _) _) _ _ (Nat.le_refl _)⟩
  · have := (Act.eval_put_ne b 189 0 (.agg spanCells) (by omega)).trans ((hlow 0 (by omega)).trans hp)
    exact this
  · exact setRow_heap _ _ spanZ _ _ _ (heap_alloc_new w _)
  · rw [Act.defers_put', hbd, hd1]

set_option maxRecDepth 1000000 in
set_option maxHeartbeats 4000000 in
theorem rows_any (w : World) : Calls Try.prog 37 #[] w fun e w' => e = .returned (.slice (some ⟨w.heap.size, 0, none⟩) 188 188) ∧ w' = w.alloc (.cells rowCells 58) := by
  refine calls_of_wp Try.func37 rfl ?_
  refine wp_anyFrame 190 (by as_aux_lemma => kernel_rfl) rfl fun a0 hs0 hd0 => ?_
  apply wp_seq_k; intro K0 hK0
  apply wp_region_lit
  refine wpList_runTo rfl (some 0) rfl (.slice none 0 0) w (by as_aux_lemma => kernel_rfl) ?_
  apply wpList_nil
  refine hK0 _ _ ?_
  clear hK0 K0
  have hs1 : (a0.put (some 0) (.slice none 0 0)).tmps.size = 190 := by rw [Act.size_put, hs0]
  have hd1 : (a0.put (some 0) (.slice none 0 0)).defers = [] := by rw [Act.defers_put', hd0]
  generalize a0.put (some 0) (.slice none 0 0) = a1 at hs1 hd1 ⊢
  apply wp_seq_k; intro K0 hK0
  apply wp_region_lit
  refine wpList_splitAt 188 (triOps 58 "ref.go:6" .i32 1 rowT) (by as_aux_lemma => kernel_rfl) ?_
  refine wpList_tris 58 "ref.go:6" .i32 (fun _ _ _ => by as_aux_lemma => kernel_rfl) rowT 1 _ (by rw [hs1, rowT_length]; omega) fun b hb hbd hev hlow => ?_
  have hev' : ∀ i (h : i < (rowT.map (triVal .i32)).length), b.eval (.tmp (1 + i)) = (rowT.map (triVal .i32))[i] := fun i h => by rw [hev i (by simpa using h), List.getElem_map]
  refine wpList_buildSliceTo rfl 56 58 188 _ rfl w.heap.size rfl (some 189) rfl (by as_aux_lemma => kernel_rfl) rowCells (by rw [parts_tmps b _ (rowT.map (triVal .i32)) 1 (by as_aux_lemma => kernel_rfl) hev']; as_aux_lemma => kernel_rfl) ?_
  have h9 : (b.put (some 189) (.slice (some ⟨w.heap.size, 0, none⟩) 188 188)).eval (.tmp 189) = .slice (some ⟨w.heap.size, 0, none⟩) 188 188 := Act.eval_put_same _ _ _ (by rw [hb, hs1]; omega)
  have hs2 : (b.put (some 189) (.slice (some ⟨w.heap.size, 0, none⟩) 188 188)).tmps.size = 190 := by rw [Act.size_put, hb, hs1]
  have hd2 : (b.put (some 189) (.slice (some ⟨w.heap.size, 0, none⟩) 188 188)).defers = [] := by rw [Act.defers_put', hbd, hd1]
  generalize b.put (some 189) (.slice (some ⟨w.heap.size, 0, none⟩) 188 188) = a2 at h9 hs2 hd2 ⊢
  refine wpList_runTo rfl (some 0) rfl (.slice (some ⟨w.heap.size, 0, none⟩) 188 188) (w.alloc (.cells rowCells 58)) (by unfold execOp; simp only [h9, Sem.run_pure, Sem.run_bind, Result.andThen_ok]) ?_
  apply wpList_nil
  refine hK0 _ _ ?_
  apply wp_ret
  refine bodyPost_ret (v := .slice (some ⟨w.heap.size, 0, none⟩) 188 188) (by rw [results_tmp rfl]; congr 1; exact Act.eval_put_same a2 0 _ (by omega)) ?_ ⟨rfl, rfl⟩
  rw [Act.defers_put', hd2]
end Go.Proofs.Ytfpgmldgfgoboaa.Class
