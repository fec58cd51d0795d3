/- Chapter 9: what is told of all places, walked. No condition but bounds. -/
import Derived.Test.YtlobedonclimbaaPairP2
import Derived.Deep.WholeRow
namespace Go.Proofs.Ytlobedonclimbaa.Pair
open Go.RowKit
set_option linter.unusedVariables false
def mnV (x y : Int) : Int := if y < x then y else x
def mxV (x y : Int) : Int := if x < y then y else x
theorem max2_V (k k' : IntKind) (x y : Int) : Builtin.max2 (.int k x) (.int k' y) = pure (.int k (mxV x y)) := by rw [max2_int]; rfl
theorem min2_V (k k' : IntKind) (x y : Int) : Builtin.min2 (.int k x) (.int k' y) = pure (.int k (mnV x y)) := by rw [min2_int]; rfl
attribute [local go_sem] Oper.semAt_some max2_V min2_V max_two min_two

theorem _root_.Go.Proofs.Ytlobedonclimbaa.Lies.setCell' {S : Nat → Prop} {W W' : World} (h : Lies S W W') (p : Addr) (v : Value) (hp : ¬ S p.block) : Lies S W (W'.setCell p v) := h.trans (Lies.setCell W' p v hp)
theorem keeps_below {B : Nat} {W W' : World} (h : Below W.heap.size W W') : KeepsFrom B W W' := ⟨h.size, fun k o _ hk _ => (h.block k (Array.getElem?_eq_some_iff.1 hk).1).trans hk⟩
theorem keeps_own {B base e size n : Nat} {W W' : World} {v : Value} {xs : List Value} (h : W.ownsRow base e size v n xs) (hg : W.grownBy W' v.ownBlock) : KeepsFrom B W W' :=
  ⟨hg.size, fun k o _ hk ho => (hg.block k (Array.getElem?_eq_some_iff.1 hk).1 (fun e => by
    rcases h.2 with ⟨rfl, _⟩ | ⟨g, cap, cur, rfl, _, hh, _⟩
    · simp [Value.ownBlock] at e
    · simp only [Value.ownBlock, Option.some.injEq] at e
      subst e
      rw [hh] at hk
      cases hk
      cases ho)).trans hk⟩
theorem A_info4 : (Try.prog.info? 4).map (fun i => (i.zero, i.size, i.bytes)) = some (some (.bool false), 1, 1) := by kernel_rfl
theorem A_info5 : (Try.prog.info? 5).map (fun i => (i.zero, i.size, i.bytes)) = some (some (.int .u8 0), 1, 1) := by kernel_rfl

theorem setCell_grown (W : World) (p : Addr) (v : Value) : W.grownBy (W.setCell p v) (some p.block) :=
  ⟨rfl, rfl, rfl, by rw [World.size_setCell]; exact Nat.le_refl _, fun k _ hk => Below.heap_setCell W p v k (fun e => hk (by rw [e]))⟩
theorem blk_grownN {W W' : World} {g : Nat} {t : TypeId} {cs : Array Value} {row : Option Nat} {B : Nat} (h : Blk W g t cs) (hg : W.grownBy W' row) (hr : ∀ r, row = some r → B ≤ r ∧ ∃ o : Obj, W.heap[r]? = some o ∧ o.isCells = false) : Blk W' g t cs :=
  h.grown hg (fun e => by obtain ⟨_, o, ho, hc⟩ := hr g e.symm; unfold Blk at h; rw [h] at ho; cases ho; cases hc)
theorem own_grownN {W W' : World} {base e size n : Nat} {v : Value} {xs : List Value} {row : Option Nat} {B : Nat} (h : W.ownsRow base e size v n xs) (hg : W.grownBy W' row) (hr : ∀ r, row = some r → B ≤ r ∧ ∃ o : Obj, W.heap[r]? = some o ∧ o.isCells = false) : W'.ownsRow base e size v n xs := by
  refine h.kept hg ?_
  rcases h.2 with ⟨rfl, _⟩ | ⟨g, cap, cur, rfl, _, hh, _⟩
  · left; rfl
  · right
    intro e
    obtain ⟨_, o, ho, hc⟩ := hr g (by rw [← e]; rfl)
    rw [hh] at ho; cases ho; cases hc
theorem own_setCell {W : World} {base e size n : Nat} {v : Value} {xs : List Value} (h : W.ownsRow base e size v n xs) (p : Addr) (u : Value) (hne : ∀ r, v.ownBlock = some r → r ≠ p.block) : (W.setCell p u).ownsRow base e size v n xs :=
  h.kept (setCell_grown W p u) (by cases hv : v.ownBlock with
    | none => exact .inl rfl
    | some r => exact .inr (fun e => hne r hv (by injection e)))
theorem made_take (z : Value) (cp m : Nat) (h : m ≤ cp) : (madeCells #[z] cp).toList.take m = List.replicate m z := by
  apply List.ext_getElem
  · simp [size_madeCells]; omega
  · intro i h1 h2
    simp [madeCells, Nat.mod_one]

/-- What a caller of the iterator holds between two rounds. -/
def IAll (w : World) (t e tc : TypeId) (z : Value) (f : Nat → Value) (clo : Value) (Bq bx b0 m0 : Nat) (pre : List (Nat × Pl)) (W : World) : Prop :=
  ∃ v, Blk W (w.heap.size + 1 + 1) t #[v] ∧ W.ownsRow w.heap.size e 1 v (m0 + pre.length) (List.replicate m0 z ++ pre.map fun x => f (ruleP x.2)) ∧ (∀ r, v.ownBlock = some r → r ≠ bx ∧ r ≠ b0) ∧
    Blk W w.heap.size tc #[clo] ∧ Blk W Bq 48 ruCells ∧ Below w.heap.size w W

section
variable {w W W' : World} {t e tc : TypeId} {z clo : Value} {f : Nat → Value} {Bq bx b0 m0 : Nat} {pre : List (Nat × Pl)}
theorem IAll.more (h : IAll w t e tc z f clo Bq bx b0 m0 pre W) (hb : Below W.heap.size W W') : IAll w t e tc z f clo Bq bx b0 m0 pre W' := by
  obtain ⟨v, h1, h2, h3, h4, h5, h6⟩ := h
  exact ⟨v, h1.keep hb, own_below h2 hb, h3, h4.keep hb, h5.keep hb, bel_trans h6 hb⟩
theorem IAll.own {B : Nat} (hB : w.heap.size ≤ B) : OwnFrom B (IAll w t e tc z f clo Bq bx b0 m0) := fun pre W W' row ⟨v, h1, h2, h3, h4, h5, h6⟩ hg hr =>
  ⟨v, blk_grownN h1 hg hr, own_grownN h2 hg hr, h3, blk_grownN h4 hg hr, blk_grownN h5 hg hr, h6.grown hg h6.size (fun k e => Nat.le_trans hB (hr k e).1)⟩
theorem IAll.set_ (hb : w.heap.size + 1 + 1 < b0) (hq : Bq < b0) (p : Addr) (u : Value) (hp : p.block = b0) (h : IAll w t e tc z f clo Bq bx b0 m0 pre W) : IAll w t e tc z f clo Bq bx b0 m0 pre (W.setCell p u) := by
  obtain ⟨v, h1, h2, h3, h4, h5, h6⟩ := h
  exact ⟨v, h1.far (by omega) u, own_setCell h2 p u (fun r hr => hp ▸ (h3 r hr).2), h3, h4.far (by omega) u, h5.far (by omega) u, h6.setCell (by omega) u⟩
end
theorem states_eq (p : Pl) (l : List Int) : states p l = (List.range l.length).map fun i => finalP p (l.take (i + 1)) := by
  induction l generalizing p with
  | nil => rfl
  | cons c l ih =>
    rw [states, ih, List.length_cons, List.range_succ_eq_map, List.map_cons, List.map_map]
    rfl
theorem tell_eq {β : Type} (enc : β → Value) (z : β) (f : Nat → β) (xs : List Int) : List.replicate (min xs.length 1) (enc z) ++ (yL xs).map (fun x => enc (f (ruleP x.2))) = (tellL z f xs).map enc := by
  unfold tellL yL yTo
  rw [states_eq]
  cases xs with
  | nil => rfl
  | cons c l =>
    rw [List.length_cons, List.range_succ_eq_map]
    simp only [List.map_cons, List.map_map, List.drop_succ_cons, List.drop_zero]
    rw [show min (l.length + 1) 1 = 1 by omega]
    rfl
/-- Behind a round: what is kept, and what the caller holds then. -/
theorem body_end {w W' W2 w7 : World} {t e tc : TypeId} {z clo v v' : Value} {f : Nat → Value} {Bq bx b0 m0 BL : Nat} {pre : List (Nat × Pl)} {x : Nat × Pl} {k : Nat} (hk : ruleP x.2 = k)
    (hI1 : Blk W' (w.heap.size + 1 + 1) t #[v]) (hI2 : W'.ownsRow w.heap.size e 1 v (m0 + pre.length) (List.replicate m0 z ++ pre.map fun x => f (ruleP x.2))) (hI3 : ∀ r, v.ownBlock = some r → r ≠ bx ∧ r ≠ b0)
    (hI4 : Blk W' w.heap.size tc #[clo]) (hI5 : Blk W' Bq 48 ruCells) (hI6 : Below w.heap.size w W') (hlt : b0 < W'.heap.size) (hbx : bx < W'.heap.size) (h1 : w.heap.size + 1 + 1 < bx) (h2 : bx < b0)
    (hn1 : e ≠ t) (hn2 : e ≠ tc) (hn3 : e ≠ 48) (hq : Bq ≠ w.heap.size + 1 + 1)
    (bel : Below W'.heap.size W' W2) (hown' : w7.ownsRow w.heap.size e 1 v' (m0 + pre.length + 1) (List.replicate m0 z ++ pre.map (fun x => f (ruleP x.2)) ++ [f k])) (hg : W2.grownBy w7 v.ownBlock)
    (hb' : v'.ownBlock = v.ownBlock ∨ v'.ownBlock = some W2.heap.size) :
    KeepsFrom BL W' (w7.setCell ⟨w.heap.size + 1 + 1, 0, none⟩ v') ∧ Lies (SP w.heap.size bx b0) W' (w7.setCell ⟨w.heap.size + 1 + 1, 0, none⟩ v') ∧ IAll w t e tc z f clo Bq bx b0 m0 (pre ++ [x]) (w7.setCell ⟨w.heap.size + 1 + 1, 0, none⟩ v') := by
  subst hk
  have o2 := own_below hI2 bel
  have k1 := (hI1.keep bel).grown hg (fun e => own_blk_ne o2 (hI1.keep bel) hn1 e.symm)
  have k4 := (hI4.keep bel).grown hg (fun e => own_blk_ne o2 (hI4.keep bel) hn2 e.symm)
  have k5 := (hI5.keep bel).grown hg (fun e => own_blk_ne o2 (hI5.keep bel) hn3 e.symm)
  have hs := bel.size
  have hbl : ∀ r, v'.ownBlock = some r → r ≠ bx ∧ r ≠ b0 := fun r hr => by
    rcases hb' with h | h
    · exact hI3 r (h ▸ hr)
    · rw [hr] at h
      injection h with h
      subst h
      omega
  have hne : v'.ownBlock ≠ some (w.heap.size + 1 + 1) := own_blk_ne hown' k1 hn1
  refine ⟨?_, ?_, v', ?_, ?_, hbl, ?_, ?_, ?_⟩
  · exact ((keeps_below bel).trans (keeps_own o2 hg)).trans ((KeepsOthers.setCell _ _ _).from _)
  · refine ((Lies.of_below bel).trans (Lies.grown hg (fun r hr => ?_))).setCell' _ _ ?_
    · have := hI3 r hr
      have l := (o2.lt r hr).1
      intro h
      rcases h with h | h | h <;> omega
    · intro h
      rcases h with h | h | h <;> simp only at h <;> omega
  · have := k1.set_ 0 v'
    simpa using this
  · have := own_setCell hown' ⟨w.heap.size + 1 + 1, 0, none⟩ v' (fun r hr e => hne (by rw [hr]; simp only at e; rw [e]))
    simpa [Nat.add_assoc] using this
  · exact k4.far (by simp only; omega) v'
  · exact k5.far (by simpa using hq) v'
  · exact ((bel_trans hI6 bel).grown hg (Nat.le_trans hI6.size bel.size) (fun k e => (o2.lt k e).1)).setCell (by simp only; omega) v'
set_option maxHeartbeats 4000000 in
set_option maxRecDepth 100000 in
theorem allB_any (A : Option Addr) (n c : Nat) (xs : List Int) (gt : Nat) (eg : ∀ args w, (callFunc gt args).run Try.prog w = .ok (.enter gt args) w) (f : Nat → Bool)
    (htell : ∀ k, k < 25 → ∀ W, Calls Try.prog gt #[ruV k] W fun e w' => e = .returned (.bool (f k)) ∧ Below W.heap.size W w')
    (hl : xs.length = n) (hn : n ≤ 1000000) (w : World) (hr : Reads w w.heap.size 1 A n (xs.map (Value.int .u8))) :
    Calls Try.prog 21 #[.slice A n c, .func (.func gt) #[] #[]] w fun e w' => ∃ v, e = .returned v ∧ w'.ownsRow w.heap.size 4 1 v n ((tellL false f xs).map Value.bool) ∧ Below w.heap.size w w' := by
  obtain ⟨m0, hm0⟩ : ∃ m0 : Nat, min n 1 = m0 := ⟨_, rfl⟩
  obtain ⟨cp, hcp⟩ : ∃ cp : Nat, max n 1 = cp := ⟨_, rfl⟩
  have e1 : mnV (n : Int) 1 = (m0 : Int) := by unfold mnV; split <;> omega
  have e2 : mxV (n : Int) 1 = (cp : Int) := by unfold mxV; split <;> omega
  have b1 : m0 ≤ cp := by omega
  have b2 : cp ≤ 1000000 := by omega
  have HM := Lib.hid hm0
  clear hm0 hcp
  obtain ⟨i0, hi, hz0, hz1, hz2⟩ := info_parts A_info4
  have hmk : ∀ W : World, (Instr.makeSlice 25 (.int .i64 (m0 : Int)) (.int .i64 (cp : Int))).run Try.prog W = .ok (.slice (some ⟨W.heap.size, 0, none⟩) m0 cp) (W.alloc (.cells (madeCells #[Value.bool false] cp) 4)) := fun W => by
    have := run_make (P := Try.prog) W 25 4 i0 (.bool false) Try.underlying25 hi hz0 .i64 .i64 m0 cp (by omega) (by omega) (by rw [hz2]; omega) (by omega)
    simp only [hz1, Nat.mul_one, Int.toNat_natCast] at this
    exact this
  refine (callsIn_wide (n := 10)).1 ?_
  refine callsIn_of_wp_marks Try.func21 rfl trivial ?_ rfl
  simp only [Try.ntmps21, List.size_toArray, List.length_cons, List.length_nil, Nat.reduceAdd, Nat.reduceSub, Array.replicate_succ, Array.replicate_zero, List.push_toArray, List.append_toArray, List.nil_append, List.cons_append]
  refine (wpIn_wide (n := 10)).2 ?_
  go_wp2_with fail
  refine (rules_any _).mono ?_
  rintro e w2 ⟨rfl, hb2⟩
  rename_i hK
  refine hK _ _ ?_
  clear hK
  have KC := (((Blk.new w 45 #[.func (.func gt) #[] #[]]).alloc (.cells (madeCells #[Value.bool false] cp) 4)).alloc (.cells #[.slice (some ⟨w.heap.size + 1, 0, none⟩) m0 cp] 25)).keep hb2
  have KO := (Blk.new ((w.alloc (.cells #[.func (.func gt) #[] #[]] 45)).alloc (.cells (madeCells #[Value.bool false] cp) 4)) 25 #[.slice (some ⟨w.heap.size + 1, 0, none⟩) m0 cp]).keep hb2
  have KR := ((Blk.new (w.alloc (.cells #[.func (.func gt) #[] #[]] 45)) 4 (madeCells #[Value.bool false] cp)).alloc (.cells #[.slice (some ⟨w.heap.size + 1, 0, none⟩) m0 cp] 25)).keep hb2
  have bel2 := bel_trans (bel_alloc (bel_alloc (bel_alloc (Below.refl w.heap.size w) (.cells #[.func (.func gt) #[] #[]] 45)) (.cells (madeCells #[Value.bool false] cp) 4)) (.cells #[.slice (some ⟨w.heap.size + 1, 0, none⟩) m0 cp] 25)) hb2
  simp only [World.size_alloc] at KO KR
  have l2 := KO.lt
  clear hb2
  refine Great.wpList_runTo rfl (some 6) rfl (.pointer (some ⟨w2.heap.size, 0, none⟩)) (w2.alloc (.cells ruZ 48)) (by kernel_rfl) ?_
  refine wpList_store_rowTo rfl 48 _ _ rfl rfl w2.heap.size ruCells rfl rfl 48 ruZ (heap_alloc_new w2 _) (by kernel_rfl) (by kernel_rfl) (by kernel_rfl) ?_
  rw [World.setRow_alloc_new]
  have KQ := Blk.new w2 48 ruCells
  have KC := KC.alloc (.cells ruCells 48)
  have KO := KO.alloc (.cells ruCells 48)
  have KR := KR.alloc (.cells ruCells 48)
  have bel3 := bel_alloc bel2 (.cells ruCells 48)
  have lo := KO.lt
  have lq := KQ.lt
  clear bel2
  generalize hW : w2.alloc (.cells ruCells 48) = W at KQ KC KO KR bel3 lo lq ⊢
  clear hW
  go_wp2_with (go_at_call 27; refine (places_any A n c _).mono ?_; rintro e w' ⟨rfl, rfl⟩)
  have KB := Blk.new W 22 #[.slice A n c]
  have KQ := KQ.alloc (.cells #[.slice A n c] 22)
  have KC := KC.alloc (.cells #[.slice A n c] 22)
  have KO := KO.alloc (.cells #[.slice A n c] 22)
  have KR := KR.alloc (.cells #[.slice A n c] 22)
  have bel4 := bel_alloc bel3 (.cells #[.slice A n c] 22)
  have hsz : (W.alloc (.cells #[.slice A n c] 22)).heap.size = W.heap.size + 1 := World.size_alloc _ _
  clear bel3
  generalize W.alloc (.cells #[.slice A n c] 22) = Wb at KB KQ KC KO KR bel4 hsz ⊢
  generalize W.heap.size = bx at KB lo lq hsz ⊢
  generalize w2.heap.size = Bq at KQ lq l2 ⊢
  have HR := Lib.hid (hr.below bel4)
  clear hr
  have HS := Lib.hid hsz
  clear hsz
  have j0 : IAll w 25 4 45 (.bool false) (fun k => .bool (f k)) (.func (.func gt) #[] #[]) Bq bx (Wb.heap.size + 2) m0 [] Wb :=
    ⟨_, KO, ⟨by simp, .inr ⟨w.heap.size + 1, cp, _, rfl, by omega, KR, by omega, by unfold maxLen; omega, by rw [size_madeCells]; omega, by simpa using made_take (.bool false) cp m0 b1⟩⟩, (fun r e => by simp only [Value.ownBlock, Option.some.injEq] at e; have := HS.out; omega), KC, KQ, bel4⟩
  clear KQ KC KO KR bel4
  refine (wpIn_wide (n := 10)).1 ?_
  refine wpIn_rangeT (gf := 59) (lb := #[.pointer (some ⟨bx, 0, none⟩)]) rfl (Go.Proofs.enters_of Try.func59 (by kernel_rfl) rfl)
    (encs := encP) (T := fun b => b = Wb.heap.size + 2) (Kp := Lies (SP w.heap.size bx (Wb.heap.size + 2))) (Pr := fun _ W => Wb.heap.size + 2 < W.heap.size) (xs := yL xs) (fun b hb => by omega)
    (fun o => by
      have h := places_seq A n c xs hl hn w.heap.size bx ((Wb.alloc (.deferred (some []))).alloc (.loop o)) (by simp; have := KB.lt; omega) (by simp; have := HS.out; omega) ((KB.alloc _).alloc _) ((HR.out.alloc (by have := HS.out; omega) _).alloc (by simp; have := HS.out; omega) _)
      simpa only [World.size_alloc, Nat.add_assoc, Nat.reduceAdd] using h)
    (fun h k => h.trans k) (fun W o o' _ => Lies.putObj W _ o' (fun h => by have := HS.out; rcases h with h | h | h <;> omega)) (fun x => rfl)
    (IAll w 25 4 45 (.bool false) (fun k => .bool (f k)) (.func (.func gt) #[] #[]) Bq bx (Wb.heap.size + 2) m0) (fun _ _ _ => False)
    (IAll.own (by have := HS.out; omega)) (fun _ _ _ _ _ h _ _ => h.elim) (fun s A p v hp h => IAll.set_ (by have := HS.out; omega) (by have := HS.out; omega) p v hp h) (fun _ _ _ _ _ _ h => h.elim) j0
    (fun x a' W => ∃ Bx, Wb.heap.size + 2 < Bx ∧ Blk W Bx 54 (plC x.2) ∧ a' = { tmps := #[.slice A n c, .func (.func gt) #[] #[], undef, .pointer (some ⟨w.heap.size, 0, none⟩), .slice none 0 0, .pointer (some ⟨w.heap.size + 1 + 1, 0, none⟩), .pointer (some ⟨Bq, 0, none⟩), undef, .pointer (some ⟨Bx, 0, none⟩), undef, .slice A n c, .int .i64 n, .int .i64 m0, .slice A n c, .int .i64 n, .int .i64 cp, .slice (some ⟨w.heap.size + 1, 0, none⟩) m0 cp, .agg ruCells, .slice A n c, .func (.func 59) #[] #[.pointer (some ⟨bx, 0, none⟩)], .int .i64 x.1, plV x.2, undef, undef, undef, undef, undef, undef, undef, undef, undef, undef, undef, undef], defers := [] })
    (fun x a' _ X Y row hs hg hr => by obtain ⟨Bx, h1, h2, h3⟩ := hs; exact ⟨Bx, h1, blk_grownN h2 hg hr, h3⟩)
    ?assign ?body ?done ?stop
  case assign =>
    rintro l pre x W' K hpr hi hK
    gi_wp2
    exact hK _ _ (keeps_below (bel_alloc (Below.refl _ _) _)) (Lies.of_below (bel_alloc (Below.refl _ _) _)) (hi.more (bel_alloc (Below.refl _ _) _)) ⟨W'.heap.size, hpr, Blk.new W' _ _, rfl⟩
  case body =>
    rintro l pre x a' W' hpre ⟨v, h1, h2, h3, h4, h5, h6⟩ ⟨Bx, hBx, bX, rfl⟩
    have lx := bX.lt
    have lp : pre.length + 1 ≤ n := by
      have := hpre.length_le
      simp only [yL, yTo, List.length_append, List.length_drop, List.length_map, List.length_range, List.length_cons, List.length_nil] at this
      omega
    have lqo : Bq ≠ w.heap.size + 1 + 1 := by omega
    have HX := Lib.hid (fun (V : World) (hb : Below W'.heap.size W' V) => indexF_any Bq x.2 30 #[.pointer (some ⟨Bx, 0, none⟩)] V (Go.Proofs.enters_of Try.func30 (by kernel_rfl) rfl) (fun k hk U hU => predB_any k hk Bx x.2 U ((bX.keep hb).keep hU)) (h5.keep hb))
    obtain ⟨k, hk⟩ : ∃ k, ruleP x.2 = k := ⟨_, rfl⟩
    have lk : k < 25 := by rw [← hk]; exact ruleP_lt _
    rw [hk] at HX
    have i1 : (0 : Int) ≤ (k : Int) := by omega
    have i2 : (k : Int) < 25 := by omega
    have HK := Lib.hid hk
    have HT := Lib.hid (htell k lk)
    have H2 := Lib.hid h2
    have H3 := Lib.hid h3
    have HP := Lib.hid hpre
    rw [show (fun x : Nat × Pl => Value.bool (f (ruleP x.2))) = (fun x => (fun k => Value.bool (f k)) (ruleP x.2)) from rfl] at H2
    clear hk h2 h3 hpre htell hmk e1 e2
    gi_wp2_with ((refine ⟨trivial, ?_⟩; gi_at_call 28; refine (CallsIn.inRound l (callsIn_wide.2 (HX.out _ (Below.refl _ _)))).mono ?_; rintro e w5 ⟨rfl, hb5⟩))
    refine region_round (S := fun V => Blk V w.heap.size 45 #[.func (.func gt) #[] #[]] ∧ Blk V Bq 48 ruCells) (by kernel_rfl) (by kernel_rfl) (fun ⟨_, _, h⟩ => h) ⟨(h4.keep hb5).drew, (h5.keep hb5).drew⟩ (fun hS => ?_)
    refine wpAnyH_take (i := 1) (oi := _) (v := .func (.func gt) #[] #[]) rfl (by kernel_rfl) (by kernel_rfl) (by kernel_rfl) (fun _ _ _ h => h) (Or.inl ⟨by rfl, ?_⟩) hS ?_
    · intro wz hz
      obtain ⟨z1, z2⟩ := hz
      have k0 : wz.cell? ⟨w.heap.size, 0, none⟩ = some (.func (.func gt) #[] #[]) := z1.cell 0
      have k1 : wz.cell? ⟨Bq, k * 3, none⟩ = some (.int .u8 (numR k)) := by rw [z2.cell, ← Nat.add_zero (k * 3), ruCells_at k 0 lk (by omega)]; rfl
      have k2 : wz.cell? ⟨Bq, k * 3 + 1, none⟩ = some (.func (.func (gR k)) #[] #[]) := by rw [z2.cell, ruCells_at k 1 lk (by omega)]; rfl
      have k3 : wz.cell? ⟨Bq, k * 3 + 2, none⟩ = some (.bool (mayR k)) := by rw [z2.cell, ruCells_at k 2 lk (by omega)]; rfl
      clear z1 z2
      go_simp
    try simp only [List.getElem_toArray, List.getElem_cons_zero, List.getElem_cons_succ, Act.put, List.setIfInBounds_toArray, List.set_cons_zero, List.set_cons_succ]
    refine wpAnyH_take (i := 2) (oi := _) (v := .int .i64 k) rfl (by kernel_rfl) (by kernel_rfl) (by kernel_rfl) (fun _ _ _ h => h) (Or.inl ⟨by rfl, ?_⟩) hS ?_
    · intro wz hz
      obtain ⟨z1, z2⟩ := hz
      have k0 : wz.cell? ⟨w.heap.size, 0, none⟩ = some (.func (.func gt) #[] #[]) := z1.cell 0
      have k1 : wz.cell? ⟨Bq, k * 3, none⟩ = some (.int .u8 (numR k)) := by rw [z2.cell, ← Nat.add_zero (k * 3), ruCells_at k 0 lk (by omega)]; rfl
      have k2 : wz.cell? ⟨Bq, k * 3 + 1, none⟩ = some (.func (.func (gR k)) #[] #[]) := by rw [z2.cell, ruCells_at k 1 lk (by omega)]; rfl
      have k3 : wz.cell? ⟨Bq, k * 3 + 2, none⟩ = some (.bool (mayR k)) := by rw [z2.cell, ruCells_at k 2 lk (by omega)]; rfl
      clear z1 z2
      go_simp
    try simp only [List.getElem_toArray, List.getElem_cons_zero, List.getElem_cons_succ, Act.put, List.setIfInBounds_toArray, List.set_cons_zero, List.set_cons_succ]
    refine wpAnyH_take (i := 3) (oi := _) (v := .pointer (some ⟨Bq, k * 3, none⟩)) rfl (by kernel_rfl) (by kernel_rfl) (by kernel_rfl) (fun _ _ _ h => h) (Or.inl ⟨by rfl, ?_⟩) hS ?_
    · intro wz hz
      obtain ⟨z1, z2⟩ := hz
      have k0 : wz.cell? ⟨w.heap.size, 0, none⟩ = some (.func (.func gt) #[] #[]) := z1.cell 0
      have k1 : wz.cell? ⟨Bq, k * 3, none⟩ = some (.int .u8 (numR k)) := by rw [z2.cell, ← Nat.add_zero (k * 3), ruCells_at k 0 lk (by omega)]; rfl
      have k2 : wz.cell? ⟨Bq, k * 3 + 1, none⟩ = some (.func (.func (gR k)) #[] #[]) := by rw [z2.cell, ruCells_at k 1 lk (by omega)]; rfl
      have k3 : wz.cell? ⟨Bq, k * 3 + 2, none⟩ = some (.bool (mayR k)) := by rw [z2.cell, ruCells_at k 2 lk (by omega)]; rfl
      clear z1 z2
      go_simp
    try simp only [List.getElem_toArray, List.getElem_cons_zero, List.getElem_cons_succ, Act.put, List.setIfInBounds_toArray, List.set_cons_zero, List.set_cons_succ]
    refine wpAnyH_take (i := 4) (oi := _) (v := ruV k) rfl (by kernel_rfl) (by kernel_rfl) (by kernel_rfl) (fun _ _ _ h => h) (Or.inl ⟨by rfl, ?_⟩) hS ?_
    · intro wz hz
      obtain ⟨z1, z2⟩ := hz
      have k0 : wz.cell? ⟨w.heap.size, 0, none⟩ = some (.func (.func gt) #[] #[]) := z1.cell 0
      have k1 : wz.cell? ⟨Bq, k * 3, none⟩ = some (.int .u8 (numR k)) := by rw [z2.cell, ← Nat.add_zero (k * 3), ruCells_at k 0 lk (by omega)]; rfl
      have k2 : wz.cell? ⟨Bq, k * 3 + 1, none⟩ = some (.func (.func (gR k)) #[] #[]) := by rw [z2.cell, ruCells_at k 1 lk (by omega)]; rfl
      have k3 : wz.cell? ⟨Bq, k * 3 + 2, none⟩ = some (.bool (mayR k)) := by rw [z2.cell, ruCells_at k 2 lk (by omega)]; rfl
      clear z1 z2
      go_simp
    try simp only [List.getElem_toArray, List.getElem_cons_zero, List.getElem_cons_succ, Act.put, List.setIfInBounds_toArray, List.set_cons_zero, List.set_cons_succ]
    refine wpAnyH_ready (rs := [0, 5]) (by kernel_rfl) (by simp) ?_
    refine AllReadyH.cons rfl (fun K hK => ?_) ?_
    · rw [if_pos (by rfl)]
      have cO : w5.drew.cell? ⟨w.heap.size + 1 + 1, 0, none⟩ = some v := Blk.cell ((h1.keep hb5).drew) 0
      go_simp
      refine hK.out _ _ hS (fun hS => ?_)
      clear hK K
      try simp only [List.getElem_toArray, List.getElem_cons_zero, List.getElem_cons_succ, Act.put, List.setIfInBounds_toArray, List.set_cons_zero, List.set_cons_succ]
      refine wpAnyH_ready (rs := [5]) (by kernel_rfl) (by simp) ?_
      refine AllReadyH.cons rfl (fun K hK => ?_) ?_
      · rw [if_pos (by rfl)]
        go_simp
        refine (HT.out _).mono ?_
        rintro e w6 ⟨rfl, hb6⟩
        have hO6 := ((h1.keep hb5).drew).keep hb6
        have o6 := own_below (own_drewN (own_below H2.out hb5) 1) hb6
        refine hK.out _ _ ⟨hS.1.keep hb6, hS.2.keep hb6⟩ (fun hS => ?_)
        clear hK K
        try simp only [List.getElem_toArray, List.getElem_cons_zero, List.getElem_cons_succ, Act.put, List.setIfInBounds_toArray, List.set_cons_zero, List.set_cons_succ]
        refine wpAnyH_ready (rs := [6]) (by kernel_rfl) (by simp) ?_
        refine AllReadyH.cons rfl (fun K hK => ?_) ?_
        · rw [if_pos (by rfl)]
          go_simp
          refine hK.out _ _ ⟨hS.1.alloc _, hS.2.alloc _⟩ (fun hS => ?_)
          clear hK K
          try simp only [List.getElem_toArray, List.getElem_cons_zero, List.getElem_cons_succ, Act.put, List.setIfInBounds_toArray, List.set_cons_zero, List.set_cons_succ]
          refine wpAnyH_ready (rs := [7]) (by kernel_rfl) (by simp) ?_
          refine AllReadyH.cons rfl (fun K hK => ?_) ?_
          · skip
            refine step_append_any _ rfl (.tmp 25) (.tmp 31) 25 rfl w.heap.size 4 i0 (.bool false) 1 1 Try.underlying25 hi hz0 hz1 hz2 rfl (by decide) v _ _ rfl (o6.alloc _) _ _ 1 1 [.bool (f k)] rfl (reads_new _ _ _ 1 _ rfl rfl) (by simp [Value.oneCell']) (by unfold maxLen; omega) (by omega) (by simp only [World.size_alloc]; have := h6.size; have := hb5.size; have := hb6.size; simp only [World.size_drew] at *; omega) (fun v' w7 hown' hg hb' => ?_)
            obtain ⟨A', c', rfl⟩ := own_shape hown'
            have hO7 := (hO6.alloc (.cells #[.bool (f k)] 4)).grown hg (fun e => own_blk_ne (o6.alloc (.cells #[.bool (f k)] 4)) (hO6.alloc (.cells #[.bool (f k)] 4)) (by decide) e.symm)
            refine hK.out _ _ ⟨hS.1.grown hg (fun e => own_blk_ne (o6.alloc (.cells #[.bool (f k)] 4)) hS.1 (by decide) e.symm), hS.2.grown hg (fun e => own_blk_ne (o6.alloc (.cells #[.bool (f k)] 4)) hS.2 (by decide) e.symm)⟩ (fun hS => ?_)
            clear hK K
            try simp only [List.getElem_toArray, List.getElem_cons_zero, List.getElem_cons_succ, Act.put, List.setIfInBounds_toArray, List.set_cons_zero, List.set_cons_succ]
            refine wpAnyH_ready (rs := [8]) (by kernel_rfl) (by simp) ?_
            refine AllReadyH.cons rfl (fun K hK => ?_) ?_
            · rw [if_pos (by rfl)]
              have cO := hO7.cell 0
              have fO := hO7.frozen 0
              go_simp
              refine hK.out _ _ ⟨hS.1.far (by simp only; omega) _, hS.2.far (by simpa using lqo) _⟩ (fun hS => ?_)
              clear hK K
              try simp only [List.getElem_toArray, List.getElem_cons_zero, List.getElem_cons_succ, Act.put, List.setIfInBounds_toArray, List.set_cons_zero, List.set_cons_succ]
              refine wpAnyH_done (by kernel_rfl) ?_ _
              gi_wp2
              exact body_end HK.out h1 H2.out H3.out h4 h5 h6 (by omega) (by have := HS.out; omega) lo (by have := HS.out; omega) (by decide) (by decide) (by decide) lqo (bel_alloc (bel_trans hb5.drew hb6) _) hown' hg hb'
            exact AllReadyH.nil
          exact AllReadyH.nil
        exact AllReadyH.nil
      exact AllReadyH.nil
    refine AllReadyH.cons rfl (fun K hK => ?_) ?_
    · rw [if_pos (by rfl)]
      go_simp
      refine (HT.out _).mono ?_
      rintro e w6 ⟨rfl, hb6⟩
      have hO6 := ((h1.keep hb5).drew).keep hb6
      have o6 := own_below (own_drewN (own_below H2.out hb5) 1) hb6
      refine hK.out _ _ ⟨hS.1.keep hb6, hS.2.keep hb6⟩ (fun hS => ?_)
      clear hK K
      try simp only [List.getElem_toArray, List.getElem_cons_zero, List.getElem_cons_succ, Act.put, List.setIfInBounds_toArray, List.set_cons_zero, List.set_cons_succ]
      refine wpAnyH_ready (rs := [0, 6]) (by kernel_rfl) (by simp) ?_
      refine AllReadyH.cons rfl (fun K hK => ?_) ?_
      · rw [if_pos (by rfl)]
        have cO : w6.cell? ⟨w.heap.size + 1 + 1, 0, none⟩ = some v := Blk.cell (hO6) 0
        go_simp
        refine hK.out _ _ hS (fun hS => ?_)
        clear hK K
        try simp only [List.getElem_toArray, List.getElem_cons_zero, List.getElem_cons_succ, Act.put, List.setIfInBounds_toArray, List.set_cons_zero, List.set_cons_succ]
        refine wpAnyH_ready (rs := [6]) (by kernel_rfl) (by simp) ?_
        refine AllReadyH.cons rfl (fun K hK => ?_) ?_
        · rw [if_pos (by rfl)]
          go_simp
          refine hK.out _ _ ⟨hS.1.alloc _, hS.2.alloc _⟩ (fun hS => ?_)
          clear hK K
          try simp only [List.getElem_toArray, List.getElem_cons_zero, List.getElem_cons_succ, Act.put, List.setIfInBounds_toArray, List.set_cons_zero, List.set_cons_succ]
          refine wpAnyH_ready (rs := [7]) (by kernel_rfl) (by simp) ?_
          refine AllReadyH.cons rfl (fun K hK => ?_) ?_
          · skip
            refine step_append_any _ rfl (.tmp 25) (.tmp 31) 25 rfl w.heap.size 4 i0 (.bool false) 1 1 Try.underlying25 hi hz0 hz1 hz2 rfl (by decide) v _ _ rfl (o6.alloc _) _ _ 1 1 [.bool (f k)] rfl (reads_new _ _ _ 1 _ rfl rfl) (by simp [Value.oneCell']) (by unfold maxLen; omega) (by omega) (by simp only [World.size_alloc]; have := h6.size; have := hb5.size; have := hb6.size; simp only [World.size_drew] at *; omega) (fun v' w7 hown' hg hb' => ?_)
            obtain ⟨A', c', rfl⟩ := own_shape hown'
            have hO7 := (hO6.alloc (.cells #[.bool (f k)] 4)).grown hg (fun e => own_blk_ne (o6.alloc (.cells #[.bool (f k)] 4)) (hO6.alloc (.cells #[.bool (f k)] 4)) (by decide) e.symm)
            refine hK.out _ _ ⟨hS.1.grown hg (fun e => own_blk_ne (o6.alloc (.cells #[.bool (f k)] 4)) hS.1 (by decide) e.symm), hS.2.grown hg (fun e => own_blk_ne (o6.alloc (.cells #[.bool (f k)] 4)) hS.2 (by decide) e.symm)⟩ (fun hS => ?_)
            clear hK K
            try simp only [List.getElem_toArray, List.getElem_cons_zero, List.getElem_cons_succ, Act.put, List.setIfInBounds_toArray, List.set_cons_zero, List.set_cons_succ]
            refine wpAnyH_ready (rs := [8]) (by kernel_rfl) (by simp) ?_
            refine AllReadyH.cons rfl (fun K hK => ?_) ?_
            · rw [if_pos (by rfl)]
              have cO := hO7.cell 0
              have fO := hO7.frozen 0
              go_simp
              refine hK.out _ _ ⟨hS.1.far (by simp only; omega) _, hS.2.far (by simpa using lqo) _⟩ (fun hS => ?_)
              clear hK K
              try simp only [List.getElem_toArray, List.getElem_cons_zero, List.getElem_cons_succ, Act.put, List.setIfInBounds_toArray, List.set_cons_zero, List.set_cons_succ]
              refine wpAnyH_done (by kernel_rfl) ?_ _
              gi_wp2
              exact body_end HK.out h1 H2.out H3.out h4 h5 h6 (by omega) (by have := HS.out; omega) lo (by have := HS.out; omega) (by decide) (by decide) (by decide) lqo (bel_alloc (bel_trans hb5.drew hb6) _) hown' hg hb'
            exact AllReadyH.nil
          exact AllReadyH.nil
        exact AllReadyH.nil
      refine AllReadyH.cons rfl (fun K hK => ?_) ?_
      · rw [if_pos (by rfl)]
        go_simp
        refine hK.out _ _ ⟨hS.1.alloc _, hS.2.alloc _⟩ (fun hS => ?_)
        clear hK K
        try simp only [List.getElem_toArray, List.getElem_cons_zero, List.getElem_cons_succ, Act.put, List.setIfInBounds_toArray, List.set_cons_zero, List.set_cons_succ]
        refine wpAnyH_ready (rs := [0]) (by kernel_rfl) (by simp) ?_
        refine AllReadyH.cons rfl (fun K hK => ?_) ?_
        · rw [if_pos (by rfl)]
          have cO : (w6.alloc (.cells #[.bool (f k)] 4)).cell? ⟨w.heap.size + 1 + 1, 0, none⟩ = some v := Blk.cell (hO6.alloc _) 0
          go_simp
          refine hK.out _ _ hS (fun hS => ?_)
          clear hK K
          try simp only [List.getElem_toArray, List.getElem_cons_zero, List.getElem_cons_succ, Act.put, List.setIfInBounds_toArray, List.set_cons_zero, List.set_cons_succ]
          refine wpAnyH_ready (rs := [7]) (by kernel_rfl) (by simp) ?_
          refine AllReadyH.cons rfl (fun K hK => ?_) ?_
          · skip
            refine step_append_any _ rfl (.tmp 25) (.tmp 31) 25 rfl w.heap.size 4 i0 (.bool false) 1 1 Try.underlying25 hi hz0 hz1 hz2 rfl (by decide) v _ _ rfl (o6.alloc _) _ _ 1 1 [.bool (f k)] rfl (reads_new _ _ _ 1 _ rfl rfl) (by simp [Value.oneCell']) (by unfold maxLen; omega) (by omega) (by simp only [World.size_alloc]; have := h6.size; have := hb5.size; have := hb6.size; simp only [World.size_drew] at *; omega) (fun v' w7 hown' hg hb' => ?_)
            obtain ⟨A', c', rfl⟩ := own_shape hown'
            have hO7 := (hO6.alloc (.cells #[.bool (f k)] 4)).grown hg (fun e => own_blk_ne (o6.alloc (.cells #[.bool (f k)] 4)) (hO6.alloc (.cells #[.bool (f k)] 4)) (by decide) e.symm)
            refine hK.out _ _ ⟨hS.1.grown hg (fun e => own_blk_ne (o6.alloc (.cells #[.bool (f k)] 4)) hS.1 (by decide) e.symm), hS.2.grown hg (fun e => own_blk_ne (o6.alloc (.cells #[.bool (f k)] 4)) hS.2 (by decide) e.symm)⟩ (fun hS => ?_)
            clear hK K
            try simp only [List.getElem_toArray, List.getElem_cons_zero, List.getElem_cons_succ, Act.put, List.setIfInBounds_toArray, List.set_cons_zero, List.set_cons_succ]
            refine wpAnyH_ready (rs := [8]) (by kernel_rfl) (by simp) ?_
            refine AllReadyH.cons rfl (fun K hK => ?_) ?_
            · rw [if_pos (by rfl)]
              have cO := hO7.cell 0
              have fO := hO7.frozen 0
              go_simp
              refine hK.out _ _ ⟨hS.1.far (by simp only; omega) _, hS.2.far (by simpa using lqo) _⟩ (fun hS => ?_)
              clear hK K
              try simp only [List.getElem_toArray, List.getElem_cons_zero, List.getElem_cons_succ, Act.put, List.setIfInBounds_toArray, List.set_cons_zero, List.set_cons_succ]
              refine wpAnyH_done (by kernel_rfl) ?_ _
              gi_wp2
              exact body_end HK.out h1 H2.out H3.out h4 h5 h6 (by omega) (by have := HS.out; omega) lo (by have := HS.out; omega) (by decide) (by decide) (by decide) lqo (bel_alloc (bel_trans hb5.drew hb6) _) hown' hg hb'
            exact AllReadyH.nil
          exact AllReadyH.nil
        exact AllReadyH.nil
      exact AllReadyH.nil
    exact AllReadyH.nil
  case done =>
    rintro W' ⟨v, h1, h2, h3, h4, h5, h6⟩ hK
    have cO : W'.cell? ⟨w.heap.size + 1 + 1, 0, none⟩ = some v := h1.cell 0
    go_wp2
    refine ⟨by simp, .inl ⟨_, _, rfl, run_takeDeferred hK, ?_⟩⟩
    have hne : v.ownBlock ≠ some Wb.heap.size := fun e => by
      rcases h2.2 with ⟨rfl, _⟩ | ⟨g, cap, cur, rfl, _, hh, _⟩
      · simp [Value.ownBlock] at e
      · simp only [Value.ownBlock, Option.some.injEq] at e
        subst e
        rw [hh] at hK
        cases hK
    have o' := h2.kept (grownBy_putObj' W' Wb.heap.size (.deferred none)) (.inr hne)
    have hlen : m0 + (yL xs).length = n := by
      have := HM.out
      simp only [yL, yTo, List.length_drop, List.length_map, List.length_range, hl]
      omega
    rw [hlen, ← HM.out, ← hl] at o'
    have ht := tell_eq Value.bool false f xs
    rw [ht, hl] at o'
    exact ⟨_, results_tmp rfl _ _ _, v, rfl, o', h6.grown (grownBy_putObj' W' Wb.heap.size (.deferred none)) h6.size (fun k e => by cases e; have := HS.out; omega)⟩
  case stop =>
    rintro c pre W' _ h _
    exact h.elim
end Go.Proofs.Ytlobedonclimbaa.Pair
