/- Chapter 23: the iterator over the rounds of shrinking, walked. No condition but bounds. -/
import Derived.Test.YtglomkpnbdnnoaaFlexS
namespace Go.Proofs.Ytglomkpnbdnnoaa.Flex
open Go.RowKit Go.Proofs.Ytglomkpnbdnnoaa.Unit Go.Proofs.Ytglomkpnbdnnoaa.Div
set_option linter.unusedVariables false
set_option linter.unusedSimpArgs false
attribute [local go_sem] Oper.semAt_some max2_V max_two
theorem A_bool : (Try.prog.info? 4).map (fun i => (i.zero, i.size, i.bytes)) = some (some (.bool false), 1, 1) := by kernel_rfl
theorem make_bool (n : Nat) (hn : n ≤ 1000000) (W : World) : (Instr.makeSlice 58 (.int .i64 (n : Int)) (.int .i64 (n : Int))).run Try.prog W = .ok (.slice (some ⟨W.heap.size, 0, none⟩) n n) (W.alloc (.cells (madeCells #[Value.bool false] n) 4)) := by
  obtain ⟨i0, hi, hz0, hz1, hz2⟩ := info_parts A_bool
  have := run_make (P := Try.prog) W 58 4 i0 (.bool false) Try.underlying58 hi hz0 .i64 .i64 n n (by omega) (by omega) (by rw [hz2]; omega) (by omega)
  simp only [hz1, Nat.mul_one, Int.toNat_natCast] at this
  exact this
/-- What must lie over a round of the caller's. -/
def SR (n0 p1 p2 f0 : Nat) (b : Nat) : Prop := b < n0 ∨ b = p1 ∨ b = p2 ∨ b = f0 ∨ b = f0 + 1
/-- What the iterator holds: its own row and box, the caller's. -/
structure Holds (n0 p1 p2 f0 : Nat) (AF A : Option Addr) (n c : Nat) (room : Int) (xs : List It) (fz : List Bool) (V : World) : Prop where
  row : V.ownsRow f0 4 1 (.slice AF n n) n (fz.map Value.bool)
  box : Blk V (f0 + 1) 58 #[.slice AF n n]
  b1 : Blk V p1 22 #[.slice A n c]
  b2 : Blk V p2 2 #[.int .i64 room]
  its : Reads V n0 4 A n (itL xs)
section
variable {n0 p1 p2 f0 n c : Nat} {AF A : Option Addr} {room : Int} {xs : List It} {fz : List Bool} {V V' : World}
theorem Holds.below (h : Holds n0 p1 p2 f0 AF A n c room xs fz V) (hn : n0 ≤ V.heap.size) (hb : Below V.heap.size V V') : Holds n0 p1 p2 f0 AF A n c room xs fz V' :=
  ⟨own_below h.row hb, h.box.keep hb, h.b1.keep hb, h.b2.keep hb, h.its.below (hb.mono hn)⟩
theorem Holds.far (h : Holds n0 p1 p2 f0 AF A n c room xs fz V) (p : Addr) (u : Value) (hp : ∀ b, SR n0 p1 p2 f0 b → b ≠ p.block) (hAF : ∀ ad, AF = some ad → ad.block = f0) : Holds n0 p1 p2 f0 AF A n c room xs fz (V.setCell p u) := by
  refine ⟨?_, h.box.far (hp _ (.inr (.inr (.inr (.inr rfl))))) u, h.b1.far (hp _ (.inr (.inl rfl))) u, h.b2.far (hp _ (.inr (.inr (.inl rfl)))) u, h.its.keep fun q hq => World.cell?_setCell_other V p q u (fun e => hp _ (.inl hq) (by rw [e]))⟩
  refine h.row.kept (row := some p.block) ⟨rfl, rfl, rfl, by rw [World.size_setCell]; exact Nat.le_refl _, fun k _ hk => Below.heap_setCell V p u k (fun e => hk (by rw [e]))⟩ ?_
  cases AF with
  | none => exact .inl rfl
  | some ad => exact .inr (fun e => by
      have := hAF ad rfl
      simp only [Value.ownBlock, Option.some.injEq] at e
      exact hp f0 (.inr (.inr (.inr (.inl rfl)))) (by rw [← this, e]))
theorem Holds.lies (h : Holds n0 p1 p2 f0 AF A n c room xs fz V) (hk : Lies (SR n0 p1 p2 f0) V V') (hn : n0 ≤ V.heap.size) (hAF : ∀ ad, AF = some ad → ad.block = f0) : Holds n0 p1 p2 f0 AF A n c room xs fz V' := by
  refine ⟨⟨h.row.1, ?_⟩, h.box.lies hk (.inr (.inr (.inr (.inr rfl)))), h.b1.lies hk (.inr (.inl rfl)), h.b2.lies hk (.inr (.inr (.inl rfl))), h.its.keep fun p hp => World.cell?_of_block (hk.same p.block (.inl hp) (by omega))⟩
  rcases h.row.2 with h0 | ⟨g, cap, cur, hv, hB, hg, hr⟩
  · exact .inl h0
  · have hb : Blk V g 4 cur := hg
    have hgf : g = f0 := by
      injection hv with i1
      exact hAF _ i1
    exact .inr ⟨g, cap, cur, hv, hB, (hk.same g (by rw [hgf]; exact .inr (.inr (.inr (.inl rfl)))) hb.lt).trans hg, hr⟩
/-- One more is frozen. -/
theorem Holds.put {fz' : List Bool} (h : Holds n0 p1 p2 f0 AF A n c room xs fz V) (p : Addr) (u : Value) (hp : p.block = f0) (hrow : (V.setCell p u).ownsRow f0 4 1 (.slice AF n n) n (fz'.map Value.bool)) (h1 : p1 ≠ f0) (h2 : p2 ≠ f0) (hn : n0 ≤ f0) : Holds n0 p1 p2 f0 AF A n c room xs fz' (V.setCell p u) :=
  ⟨hrow, h.box.far (by omega) u, h.b1.far (by omega) u, h.b2.far (by omega) u, h.its.keep fun q hq => World.cell?_setCell_other V p q u (fun e => by subst e; omega)⟩
end
/-- The first k of one list, the others of another. -/
def mixG {α : Type} (xs ys : List α) (k : Nat) : List α := xs.take k ++ ys.drop k
section
variable {α : Type}
theorem mixG_zero (xs ys : List α) : mixG xs ys 0 = ys := by unfold mixG; simp
theorem mixG_all (xs ys : List α) (n : Nat) (h1 : xs.length = n) (h2 : ys.length = n) : mixG xs ys n = xs := by unfold mixG; rw [List.take_of_length_le (by omega), List.drop_of_length_le (by omega), List.append_nil]
theorem mixG_at (xs ys : List α) (k : Nat) (y : α) (hx : k ≤ xs.length) (h : ys[k]? = some y) : (mixG xs ys k)[k]? = some y := by
  unfold mixG
  rw [List.getElem?_append_right (by rw [List.length_take]; omega), List.length_take, List.getElem?_drop, Nat.min_eq_left hx]
  simpa using h
theorem mixG_set (xs ys : List α) (k : Nat) (x : α) (h : xs[k]? = some x) (hy : k < ys.length) : (mixG xs ys k).set k x = mixG xs ys (k + 1) := by
  unfold mixG
  obtain ⟨hk, rfl⟩ := List.getElem?_eq_some_iff.1 h
  rw [List.drop_eq_getElem_cons hy, List.set_append_right _ _ (by rw [List.length_take]; omega), List.length_take, Nat.min_eq_left (by omega), Nat.sub_self, List.set_cons_zero, List.take_succ_eq_append_getElem hk, List.append_assoc]
  rfl
theorem mixG_same (xs ys : List α) (k : Nat) (x : α) (h : xs[k]? = some x) (hy : ys[k]? = some x) : mixG xs ys (k + 1) = mixG xs ys k := by
  rw [← mixG_set xs ys k x h (List.getElem?_eq_some_iff.1 hy).1]
  have hm := mixG_at xs ys k x (Nat.le_of_lt (List.getElem?_eq_some_iff.1 h).1) hy
  obtain ⟨hk, e⟩ := List.getElem?_eq_some_iff.1 hm
  rw [← e]
  exact List.set_getElem_self hk
end
/-- A row of one's own lies over a store into another block. -/
theorem own_far {W : World} {base e size m : Nat} {v : Value} {ys : List Value} (h : W.ownsRow base e size v m ys) (p : Addr) (u : Value) (hp : p.block < base) : (W.setCell p u).ownsRow base e size v m ys :=
  h.kept (row := some p.block) ⟨rfl, rfl, rfl, by rw [World.size_setCell]; exact Nat.le_refl _, fun k _ hk => Below.heap_setCell W p u k (fun e => hk (by rw [e]))⟩ (by
    cases hv : v.ownBlock with
    | none => exact .inl rfl
    | some r => exact .inr (fun e => by
        have := (h.lt r hv).1
        injection e with e
        omega))
theorem own_row_far {W : World} {b1 e1 s1 m1 : Nat} {v1 : Value} {y1 : List Value} (h : W.ownsRow b1 e1 s1 v1 m1 y1) (p : Addr) (u : Value) (hne : v1.ownBlock ≠ some p.block) : (W.setCell p u).ownsRow b1 e1 s1 v1 m1 y1 :=
  h.kept (row := some p.block) ⟨rfl, rfl, rfl, by rw [World.size_setCell]; exact Nat.le_refl _, fun k _ hk => Below.heap_setCell W p u k (fun e => hk (by rw [e]))⟩ (by
    cases hv : v1.ownBlock with
    | none => exact .inl rfl
    | some r => exact .inr (fun e => hne (by rw [hv, e])))
theorem any_step (ls : List Bool) (j : Nat) (b : Bool) (h : ls[j]? = some b) : (ls.take (j + 1)).any id = ((ls.take j).any id || b) := by
  obtain ⟨hj, rfl⟩ := List.getElem?_eq_some_iff.1 h
  rw [List.take_succ_eq_append_getElem hj, List.any_append]
  simp
theorem zip_or (ls : List Bool) : ∀ fs : List Bool, List.zipWith (fun a b => a || b) fs (List.replicate fs.length false) = fs
  | [] => rfl
  | f :: fs => by
    have ih := zip_or ls fs
    rw [List.length_cons, List.replicate_succ, List.zipWith_cons_cons, ih, Bool.or_false]
theorem any_rep (n : Nat) : (List.replicate n false).any id = false := by
  rw [List.any_eq_false]
  intro b hb
  rw [List.eq_of_mem_replicate hb]
  simp
theorem mo_dec {xs : List It} {room : Int} {R k : Nat} (h1 : moB xs room (fzK xs room R) = false) (h2 : ∀ j, j < R → moB xs room (fzK xs room j) = true) (hk : k ≤ R) : moB xs room (fzK xs room k) = decide (k + 1 ≤ R) := by
  rcases Nat.lt_or_eq_of_le hk with h | h
  · rw [h2 k h, decide_eq_true (by omega)]
  · rw [h, h1, decide_eq_false (by omega)]
theorem own_not_new {W : World} {base e size n : Nat} {v : Value} {xs : List Value} (h : W.ownsRow base e size v n xs) : v.ownBlock ≠ some W.heap.size := fun e => Nat.lt_irrefl _ (h.lt _ e).2
set_option maxHeartbeats 4000000 in
set_option maxRecDepth 100000 in
theorem rounds_seq (A : Option Addr) (n c : Nat) (xs : List It) (hok : ∀ x ∈ xs, okI x) (hl : xs.length = n) (hn : n ≤ 60) (room : Int) (r0 : 0 ≤ room) (r1 : room ≤ 1073741824) (n0 p1 p2 : Nat) (W0 : World) (hp1 : p1 < W0.heap.size) (hp2 : p2 < W0.heap.size) (hn0 : n0 ≤ W0.heap.size)
    (k1 : Blk W0 p1 22 #[.slice A n c]) (k2 : Blk W0 p2 2 #[.int .i64 room]) (hr : Reads W0 n0 4 A n (itL xs)) (R : Nat) (hR1 : moB xs room (fzK xs room R) = false) (hR2 : ∀ j, j < R → moB xs room (fzK xs room j) = true) :
    SeqR Try.prog 36 #[.pointer (some ⟨p1, 0, none⟩), .pointer (some ⟨p2, 0, none⟩)] (· = W0.heap.size) (Lies (SR n0 p1 p2 W0.heap.size)) (fun x args W => ∃ A' c', args = #[.slice A' n c'] ∧ W.ownsRow (W0.heap.size + 2) 2 1 (.slice A' n c') n (x.map (Value.int .i64))) (ysL xs room (R + 1)) W0 := by
  intro l J Jx hJ hJx hY h0
  have HL := Lib.hid hl
  have HY := Lib.hid hY
  have HJ := Lib.hid hJ
  have HOK := Lib.hid hok
  have HR1 := Lib.hid hR1
  have HR2 := Lib.hid hR2
  clear hl hY hJ hJx hok hR1 hR2
  have nn : (n : Int) ≤ 60 := by omega
  have hmk := make_bool n (by omega)
  have cb : W0.cell? ⟨p1, 0, none⟩ = some (.slice A n c) := k1.cell 0
  have H0 := Lib.hid (show Holds n0 p1 p2 W0.heap.size (some ⟨W0.heap.size, 0, none⟩) A n c room xs (fzK xs room 0) ((W0.alloc (.cells (madeCells #[Value.bool false] n) 4)).alloc (.cells #[.slice (some ⟨W0.heap.size, 0, none⟩) n n] 58)) from
    ⟨by
      have h := (made_own W0 4 (.bool false) n (by omega)).alloc (.cells #[.slice (some ⟨W0.heap.size, 0, none⟩) n n] 58)
      have e : (fzK xs room 0).map Value.bool = List.replicate n (.bool false) := by unfold fzK; rw [List.map_replicate, HL.out]
      rw [e]; exact h, by
      have := Blk.new (W0.alloc (.cells (madeCells #[Value.bool false] n) 4)) 58 #[.slice (some ⟨W0.heap.size, 0, none⟩) n n]
      rwa [World.size_alloc] at this, (k1.alloc _).alloc _, (k2.alloc _).alloc _, (hr.alloc hn0 _).alloc (by rw [World.size_alloc]; omega) _⟩)
  have J0 := Lib.hid (HJ.out _ _ _ h0 (Trail.of_below (bel_alloc (bel_alloc (Below.refl _ _) (.cells (madeCells #[Value.bool false] n) 4)) (.cells #[.slice (some ⟨W0.heap.size, 0, none⟩) n n] 58))))
  clear h0 k1 k2 hr
  refine callsIn_of_wp Try.func36 rfl trivial ?_ rfl
  simp only [Try.ntmps36, List.size_toArray, List.length_cons, List.length_nil, Nat.reduceAdd, Nat.reduceSub, Array.replicate_succ, Array.replicate_zero, List.push_toArray, List.append_toArray, List.nil_append, List.cons_append]
  gi_wp2
  generalize hAF : (some (⟨W0.heap.size, 0, none⟩ : Addr)) = AF at H0 J0 ⊢
  have HAF := Lib.hid (show ∀ ad, AF = some ad → ad.block = W0.heap.size from fun ad h => by rw [← hAF] at h; injection h with h; rw [← h])
  clear hAF hmk cb
  refine (wpIn_wide (n := 9)).2 ?_
  go_loopg [5, 6, 7, 8, 9, 10, 11] (R + 1) (fun m mo sz i x ov pt i2 wr => ∃ k : Nat, m + k = R + 1 ∧ mo = .bool (decide (k ≤ R)) ∧ Hid (Holds n0 p1 p2 W0.heap.size AF A n c room xs (fzK xs room k) wr) ∧ Hid (J (ysL xs room k) wr) ∧ Hid (W0.heap.size + 2 ≤ wr.heap.size))
  case atStart => exact ⟨0, by omega, by rw [decide_eq_true (by omega)], H0, J0, Lib.hid (by simp only [World.size_alloc]; omega)⟩
  case round =>
    obtain ⟨k, hmk, rfl, HH, JJ, HS⟩ := hrel
    clear H0 J0
    by_cases hk : k ≤ R
    · rw [decide_eq_true hk]
      have hfl := fzK_len (room := room) HL.out k
      obtain ⟨fz, hfz⟩ : ∃ fz, fzK xs room k = fz := ⟨_, rfl⟩
      rw [hfz] at HH hfl
      have HFZ := Lib.hid hfz
      have HFL := Lib.hid hfl
      clear hfz hfl
      obtain ⟨Wk, hWk⟩ : ∃ Wk, Wk = wr := ⟨_, rfl⟩
      subst hWk
      have cb1 : Wk.cell? ⟨p1, 0, none⟩ = some (.slice A n c) := HH.out.b1.cell 0
      have hn0k : n0 ≤ Wk.heap.size := by have := HS.out; omega
      have HF := Lib.hid (firsts_any A n c xs (by omega) Wk (HH.out.its.more hn0k))
      go_wp2_with (go_at_call 21; (with_reducible refine HF.out.mono ?_); rintro e w1 ⟨v6, rfl, o6, b6⟩; obtain ⟨A6, c6, rfl⟩ := own_shape o6; have O6 := Lib.hid (show w1.ownsRow Wk.heap.size 2 1 (.slice A6 n c6) n ((mixI (szL xs fz) (xs.map fiI) 0).map (Value.int .i64)) by rw [mixI_zero]; exact o6); have H1 := Lib.hid (HH.out.below hn0k b6); have T1 := Lib.hid (Trail.of_below b6 : Trail (· = W0.heap.size) Wk w1); have db1 : w1.cell? ⟨p1, 0, none⟩ = some (.slice A n c) := H1.out.b1.cell 0; clear o6 b6)
      go_loopw [7, 8, 20] (fun i x ix wv => ∃ j : Nat, ix = .int .i64 j ∧ j ≤ n ∧ Hid (wv.ownsRow Wk.heap.size 2 1 (.slice A6 n c6) n ((mixI (szL xs fz) (xs.map fiI) j).map (Value.int .i64))) ∧ Hid (Holds n0 p1 p2 W0.heap.size AF A n c room xs fz wv) ∧ Hid (Trail (· = W0.heap.size) Wk wv)) (fun _ _ ix _ => n - (intOf ix).toNat)
      case atStart => exact ⟨0, rfl, by omega, O6, H1, T1⟩
      case round =>
        obtain ⟨j, rfl, hj, HO, HHv, HT⟩ := hrel
        clear db1
        by_cases hlt : j < n
        · have q1 : decide ((j : Int) < (n : Int)) = true := decide_eq_true (by omega)
          have i0 : (0 : Int) ≤ (j : Int) := by omega
          have i1 : (j : Int) < (n : Int) := by omega
          obtain ⟨ad, m, rfl, _, hm, x0, x1, x2, x3⟩ := reads_it HHv.out.its hlt
          obtain ⟨adF, b, rfl, _, hb, cb⟩ := reads_of (own_reads HHv.out.row) hlt
          obtain ⟨ad6, _, rfl, _⟩ := own_cell HO.out hlt
          have hsz := szL_at hm hb
          have hfi : (xs.map fiI)[j]? = some (fiI m) := by rw [List.getElem?_map, hm]; rfl
          have HSZ := Lib.hid hsz
          have HFI := Lib.hid hfi
          have BA := Lib.hid (bel_alloc (Below.refl wr.heap.size wr) (.cells #[.int .i64 m.base, .int .i64 m.least, .int .i64 m.grow, .int .i64 m.shrink] 36))
          have KX := Lib.hid (Blk.new wr 36 #[.int .i64 m.base, .int .i64 m.least, .int .i64 m.grow, .int .i64 m.shrink])
          have hn0v : n0 ≤ wr.heap.size := by have := HT.out.size; omega
          go_upto_region 8 with fail
          obtain ⟨gx, hgx⟩ : ∃ gx, wr.heap.size = gx := ⟨_, rfl⟩
          rw [hgx] at KX
          rw [hgx]
          have HGX := Lib.hid hgx
          clear hgx
          generalize wr.alloc (.cells #[.int .i64 m.base, .int .i64 m.least, .int .i64 m.grow, .int .i64 m.shrink] 36) = WA at BA KX ⊢
          have H2 := Lib.hid (HHv.out.below hn0v BA.out)
          have O2 := Lib.hid (own_below HO.out BA.out)
          have T2 := Lib.hid (HT.out.more BA.out)
          obtain ⟨_, y, e6, Y⟩ := own_cell O2.out hlt
          injection e6 with e6
          subst e6
          have y0 := Y.cell
          have y1 := Y.free
          have PUT := Lib.hid Y.put
          have FAR := Lib.hid Y.far
          have HNE := Lib.hid (own_not_new HO.out)
          have d1 : WA.cell? ⟨W0.heap.size + 1, 0, none⟩ = some (.slice (some adF) n n) := H2.out.box.cell 0
          obtain ⟨adF', b', eF, _, hb', cb'⟩ := reads_of (own_reads H2.out.row) hlt
          injection eF with eF
          subst eF
          rw [hb] at hb'
          injection hb' with hb'
          subst hb'
          have l1 : WA.cell? ⟨gx, 1, none⟩ = some (.int .i64 m.least) := KX.out.cell 1
          clear hm hb hsz hfi Y cb x0 x1 x2 x3
          cases b
          · have HM := Lib.hid (mixI_same (szL xs fz) (xs.map fiI) j (fiI m) HSZ.out HFI.out)
            go_wp2
            go_roundw
            case rel => exact ⟨j + 1, by go_num, by omega, by rw [HM.out]; exact O2, H2, T2⟩
            case measure => simp [intOf]; omega
          · have HM := Lib.hid (mixI_set (szL xs fz) (xs.map fiI) j m.least HSZ.out (List.getElem?_eq_some_iff.1 HFI.out).1)
            go_wp2
            go_roundw
            case rel =>
              refine ⟨j + 1, by go_num, by omega, Lib.hid (by have h := PUT.out m.least; rwa [HM.out] at h), Lib.hid (H2.out.far _ _ (fun b hb e => ?_) HAF.out), Lib.hid (T2.out.setCell _ _ (.inr FAR.out))⟩
              have h1 := FAR.out
              have h2 := HS.out
              rw [← e] at h1
              rcases hb with h | h | h | h | h <;> omega
            case measure => simp [intOf]; omega
        · obtain rfl : n = j := by omega
          have q1 : decide ((n : Int) < (n : Int)) = false := decide_eq_false (by omega)
          clear O6 H1 T1 HF cb1
          obtain ⟨W2, hW2⟩ : ∃ W2, W2 = wr := ⟨_, rfl⟩
          subst hW2
          have hzl := szL_len HL.out HFL.out
          have O2 := Lib.hid (show W2.ownsRow Wk.heap.size 2 1 (.slice A6 n c6) n ((szL xs fz).map (Value.int .i64)) by have h := HO.out; rwa [mixI_all _ _ n hzl (by rw [List.length_map]; exact HL.out)] at h)
          clear HO
          have hsb := szL_bd (fz := fz) HOK.out
          have hbnd : ∀ k, 0 ≤ sT (szL xs fz) k ∧ sT (szL xs fz) k ≤ 64424509440 := fun k => by
            have := sT_bd (szL xs fz) k 1073741824 (by omega) hsb
            rw [hzl] at this
            omega
          have HSu := Lib.hid (fun (V : World) (hV : ∀ p, V.cell? p = W2.cell? p) => sum64_any 38 (Go.Proofs.enters_of Try.func38 (by kernel_rfl) rfl) id_rounds A6 n c6 (szL xs fz) hzl (by omega) (fun j _ => ⟨by have := hbnd j; omega, by have := hbnd j; omega⟩) _ V ((own_reads O2.out).keep fun p _ => hV p))
          obtain ⟨S, hS⟩ : ∃ S, (szL xs fz).sum = S := ⟨_, rfl⟩
          have hSb := hbnd n
          rw [sT_all _ _ (by omega), hS] at hSb
          rw [hS] at HSu
          have HSD := Lib.hid hS
          have d2 : W2.cell? ⟨p2, 0, none⟩ = some (.int .i64 room) := HHv.out.b2.cell 0
          obtain ⟨ov, hov⟩ : ∃ ov, S - room = ov := ⟨_, rfl⟩
          have wO : IntKind.i64.wrap (S - room) = ov := by rw [hov]; exact IntWalk.i64_in _ ⟨by omega, by omega⟩
          have HOV := Lib.hid (show ovN xs room fz = ov by unfold ovN; rw [hS, hov])
          have hob : ov ≤ 64424509440 := by omega
          clear hzl hsb hbnd hS hSb hov
          go_upto_region 11 with fail
          go_quiet ((go_at_call 37; exact Calls.quiet_of_same ((HSu.out (W2.drewN _) (fun p => rfl)).mono fun _ _ ⟨a, b⟩ => ⟨a, b.symm⟩)))
          go_upto_region 12 with fail
          have B3 := Lib.hid (bel_drewN (Below.refl W2.heap.size W2) nq)
          generalize W2.drewN nq = V3 at B3 ⊢
          have hn02 : n0 ≤ W2.heap.size := by have := HT.out.size; omega
          have H3 := Lib.hid (HHv.out.below hn02 B3.out)
          have O3 := Lib.hid (own_below O2.out B3.out)
          have T3 := Lib.hid (HT.out.more B3.out)
          have hn03 : n0 ≤ V3.heap.size := by have := B3.out.size; omega
          have e1 : V3.cell? ⟨p1, 0, none⟩ = some (.slice A n c) := H3.out.b1.cell 0
          have hwb := wtL_bd (fz := fz) HOK.out
          have HSh := Lib.hid (share_any 39 #[.pointer (some ⟨W0.heap.size + 1, 0, none⟩), .pointer (some ⟨p1, 0, none⟩)] (Go.Proofs.enters_of Try.func39 (by kernel_rfl) rfl) (wtL xs fz) n (wtL_len HL.out HFL.out) (by omega) (mxV ov 0) (mxV_nonneg ov) (by unfold mxV; split <;> omega) (fun x hx => by have := hwb x hx; omega) V3 (fun i x V hx hV => by
            have hi : i < n := by have := (List.getElem?_eq_some_iff.1 hx).1; rw [wtL_len HL.out HFL.out] at this; exact this
            have HV := H3.out.below hn03 hV
            refine (wt39_any (W0.heap.size + 1) p1 AF A n n c xs fz HOK.out i hi (by omega) n0 V.heap.size V HV.box HV.b1 (own_reads HV.row) HV.its HFL.out).mono ?_
            rintro e w' ⟨⟨x', hx', rfl⟩, hb⟩
            rw [hx] at hx'
            injection hx' with hx'
            exact ⟨by rw [hx'], hb⟩))
          clear hwb O2 HSu d2 wO B3
          by_cases hz : (wtL xs fz).sum = 0
          · have hyl : yL xs room fz = szL xs fz := by unfold yL; rw [if_pos hz]
            have hll : loL xs room fz = List.replicate xs.length false := by unfold loL; rw [if_pos hz]
            have hnl : nxL xs room fz = fz := by unfold nxL; rw [hll, show xs.length = fz.length by rw [HL.out, HFL.out]]; exact zip_or [] fz
            have hmb : moB xs room fz = false := by unfold moB; rw [hll]; exact any_rep _
            have HYL := Lib.hid hyl
            have HNL := Lib.hid hnl
            have HMB := Lib.hid hmb
            have HZ := Lib.hid hz
            clear hyl hll hnl hmb hz
            go_wp2_with (go_at_call 25; (with_reducible refine HSh.out.mono ?_); rintro e w4 ⟨⟨v4, rfl, h4⟩, b4⟩; obtain rfl : v4 = .slice none 0 0 := (by rcases h4 with h4 | h4; exact h4.2; exact absurd HZ.out (by omega)); have H4 := Lib.hid (H3.out.below hn03 b4); have O4 := Lib.hid (own_below O3.out b4); have T4 := Lib.hid (T3.out.more b4); clear b4 h4)
            go_loopw [5, 11, 47] (fun mo i ix wv => mo = .bool false ∧ ix = .int .i64 0 ∧ w4 = wv) (fun _ _ _ _ => 0)
            case atStart => exact ⟨rfl, rfl, rfl⟩
            case round =>
              obtain ⟨rfl, rfl, rfl⟩ := hrel
              obtain ⟨WV, hWV⟩ : ∃ WV, WV = w4 := ⟨_, rfl⟩
              subst hWV
              have OV := Lib.hid (show WV.ownsRow Wk.heap.size 2 1 (.slice A6 n c6) n ((yL xs room fz).map (Value.int .i64)) by rw [HYL.out]; exact O4.out)
              have HV := Lib.hid (show Holds n0 p1 p2 W0.heap.size AF A n c room xs (nxL xs room fz) WV by rw [HNL.out]; exact H4.out)
              have TV := T4
              have HMO := Lib.hid (show Value.bool false = .bool (moB xs room fz) by rw [HMB.out])
              obtain ⟨fn, tmps, assign, body, hy, hR⟩ := HY.out (ysL xs room k) (yL xs room fz) #[.slice A6 n c6] WV (by rw [← HFZ.out, ← ysL_succ]; exact ysL_pre xs room (k + 1) (R + 1) (by omega)) ⟨A6, c6, rfl, own_le OV.out HS.out⟩ (HJ.out _ _ _ JJ.out TV.out)
              go_upto_region 20 with fail
              refine (wpIn_wide (n := 9)).1 ?_
              gi_wp2
              refine hR.mono ?_
              rintro e W3 (⟨rfl, hJ3, hk3⟩ | ⟨rfl, hJx3⟩)
              · have HN := Lib.hid (HV.out.lies hk3 (by have := TV.out.size; omega) HAF.out)
                have JN := Lib.hid hJ3
                have hs3 := hk3.size
                have htv := TV.out.size
                have HSN := Lib.hid (show W0.heap.size + 2 ≤ W3.heap.size by have := HS.out; omega)
                clear hJ3 hk3 hs3 htv hR hy
                gi_wp2
                try go_wp2
                go_roundg (R + 1 - (k + 1))
                case measure => omega
                case rel => exact ⟨k + 1, by omega, by rw [HMO.out, ← HFZ.out, mo_dec HR1.out HR2.out hk], by rw [show fzK xs room (k + 1) = nxL xs room fz by rw [← HFZ.out]; rfl]; exact HN, by rw [ysL_succ, HFZ.out]; exact JN, HSN⟩
              · have JN := Lib.hid (show Jx (ysL xs room (k + 1)) W3 by rw [ysL_succ, HFZ.out]; exact hJx3)
                have PN := Lib.hid (ysL_pre xs room (k + 1) (R + 1) (by omega))
                clear hJx3 hR hy
                gi_wp2
                try go_wp2
                refine bodyPost_ret (results_none rfl _ _ _) rfl ?_
                exact ⟨⟨_, rfl⟩, .inr ⟨ysL xs room (k + 1), PN.out, JN.out⟩⟩
          · have hs1 := wt_pos HOK.out hz
            have hpt : ptL xs room fz = shareL (mxV ov 0) (wtL xs fz) := by unfold ptL; rw [HOV.out]
            have HZ := Lib.hid hz
            have HPB := Lib.hid (show ∀ x ∈ ptL xs room fz, 0 ≤ x ∧ x ≤ 64424509440 from fun x hx => by
              rw [hpt] at hx
              have := shareL_bd (mxV ov 0) (wtL xs fz) (mxV_nonneg ov) (fun x hx => (wtL_bd HOK.out x hx).1) hs1 x hx
              have h2 : mxV ov 0 ≤ 64424509440 := by unfold mxV; split <;> omega
              omega)
            have HYE := Lib.hid (show yL xs room fz = List.zipWith (fun s p => s - p) (szL xs fz) (ptL xs room fz) by unfold yL; rw [if_neg hz])
            have HLE := Lib.hid (show loL xs room fz = List.zipWith loI (yL xs room fz) xs by unfold loL; rw [if_neg hz])
            have HPT := Lib.hid hpt
            clear hz hpt hs1
            go_wp2_with (go_at_call 25; (with_reducible refine HSh.out.mono ?_); rintro e w4 ⟨⟨v4, rfl, h4⟩, b4⟩; obtain ⟨A7, c7, e7, o7⟩ : ∃ A7 c7, v4 = .slice A7 n c7 ∧ w4.ownsRow V3.heap.size 2 1 v4 n ((ptL xs room fz).map (Value.int .i64)) := (by rcases h4 with h4 | h4; exact absurd h4.1 HZ.out; obtain ⟨A7, c7, e7⟩ := own_shape h4.2; exact ⟨A7, c7, e7, by rw [HPT.out]; exact h4.2⟩); subst e7; have P4 := Lib.hid o7; have H4 := Lib.hid (H3.out.below hn03 b4); have O4 := Lib.hid (own_below O3.out b4); have T4 := Lib.hid (T3.out.more b4); clear b4 h4 o7)
            have L6 := Lib.hid (fun r hr => (World.ownsRow.lt O3.out r hr).2)
            go_loopw [5, 11, 47] (fun mo i ix wv => ∃ j : Nat, ix = .int .i64 j ∧ j ≤ n ∧ mo = .bool (((loL xs room fz).take j).any id) ∧ Hid (wv.ownsRow Wk.heap.size 2 1 (.slice A6 n c6) n ((mixI (yL xs room fz) (szL xs fz) j).map (Value.int .i64))) ∧ Hid (wv.ownsRow V3.heap.size 2 1 (.slice A7 n c7) n ((ptL xs room fz).map (Value.int .i64))) ∧ Hid (Holds n0 p1 p2 W0.heap.size AF A n c room xs (mixG (nxL xs room fz) fz j) wv) ∧ Hid (Trail (· = W0.heap.size) Wk wv)) (fun _ _ ix _ => n - (intOf ix).toNat)
            case atStart => exact ⟨0, rfl, by omega, rfl, by rw [mixI_zero]; exact O4, P4, by rw [mixG_zero]; exact H4, T4⟩
            case round =>
              obtain ⟨j, rfl, hj, rfl, HO, HP, HHv, HT⟩ := hrel
              clear O4 P4 H4 T4 e1
              by_cases hlt : j < n
              · have q1 : decide ((j : Int) < (n : Int)) = true := decide_eq_true (by omega)
                have i0 : (0 : Int) ≤ (j : Int) := by omega
                have i1 : (j : Int) < (n : Int) := by omega
                obtain ⟨ad6, s, rfl, Y⟩ := own_cell HO.out hlt
                obtain ⟨ad7, p, rfl, Z⟩ := own_cell HP.out hlt
                obtain ⟨ad, m, rfl, hbk, hm, _⟩ := reads_it HHv.out.its hlt
                obtain ⟨adF, b0, rfl, _⟩ := own_cell HHv.out.row hlt
                obtain ⟨b, hb⟩ : ∃ b, fz[j]? = some b := ⟨_, List.getElem?_eq_getElem (by have := HFL.out; omega)⟩
                have hsz : (szL xs fz)[j]? = some s := by
                  obtain ⟨s', hs'⟩ : ∃ s', (szL xs fz)[j]? = some s' := ⟨_, szL_at hm hb⟩
                  have := Y.at_
                  rw [mixI_at _ _ j s' (by rw [yL_len HL.out HFL.out]; omega) hs'] at this
                  rw [hs', this]
                have hyl : (yL xs room fz)[j]? = some (s - p) := by rw [HYE.out]; exact zip_at _ _ _ j _ _ hsz Z.at_
                have hlo : (loL xs room fz)[j]? = some (loI (s - p) m) := by rw [HLE.out]; exact zip_at _ _ _ j _ _ hyl hm
                have hnx : (nxL xs room fz)[j]? = some (b || loI (s - p) m) := zip_at _ _ _ j _ _ hb hlo
                have hsb := szL_bd HOK.out s (List.mem_of_getElem? hsz)
                have hpb := HPB.out p (List.mem_of_getElem? Z.at_)
                have wY : IntKind.i64.wrap (s - p) = s - p := IntWalk.i64_in _ ⟨by omega, by omega⟩
                have y0 := Y.cell
                have y1 := Y.free
                have z0 := Z.cell
                have PUT := Lib.hid (show (wr.setCell (ad6.add j) (.int .i64 (s - p))).ownsRow Wk.heap.size 2 1 (.slice (some ad6) n c6) n ((mixI (yL xs room fz) (szL xs fz) (j + 1)).map (Value.int .i64)) by
                  have h := Y.put (s - p)
                  rwa [mixI_set _ _ j _ hyl (by rw [szL_len HL.out HFL.out]; exact hlt)] at h)
                have HCE := Lib.hid (show ∀ V : World, V.ownsRow Wk.heap.size 2 1 (.slice (some ad6) n c6) n ((mixI (yL xs room fz) (szL xs fz) (j + 1)).map (Value.int .i64)) → V.cell? (ad6.add j) = some (.int .i64 (s - p)) from fun V hV => by
                  obtain ⟨ad', x, e, X⟩ := own_cell hV hlt
                  injection e with e
                  subst e
                  have h1 := X.at_
                  rw [← mixI_set _ _ j _ hyl (by rw [szL_len HL.out HFL.out]; exact hlt), List.getElem?_set_self (by rw [mixI_len _ _ j n (yL_len HL.out HFL.out) (szL_len HL.out HFL.out) hj]; exact hlt)] at h1
                  injection h1 with h1
                  rw [h1]; exact X.cell)
                have FAR := Lib.hid Y.far
                have NEA := Lib.hid (L6.out _ (show (Value.slice (some ad6) n c6).ownBlock = some (ad6.add j).block by rw [block_of_add]; rfl))
                have HBS := Lib.hid (show ∀ q, SR n0 p1 p2 W0.heap.size q → q ≠ (ad6.add j).block from fun q hq e => by
                  have h1 := FAR.out
                  have h2 := HS.out
                  rw [← e] at h1
                  rcases hq with h | h | h | h | h <;> omega)
                have HMm := Lib.hid hm
                have HNX := Lib.hid hnx
                have HLO := Lib.hid (any_step _ j _ hlo)
                have HBb := Lib.hid hb
                clear hbk hm hb hsz hyl hlo hnx hsb hpb Y Z
                go_upto_region 16 with fail
                go_still_tail 10, (by kernel_rfl)
                change wpList _ _ _ _ _ wr.drew
                go_upto_region 17 with fail
                have O5 := Lib.hid (show ((wr.setCell (ad6.add j) (.int .i64 (s - p))).drew).ownsRow Wk.heap.size 2 1 (.slice (some ad6) n c6) n ((mixI (yL xs room fz) (szL xs fz) (j + 1)).map (Value.int .i64)) from PUT.out)
                have P5 := Lib.hid (show ((wr.setCell (ad6.add j) (.int .i64 (s - p))).drew).ownsRow V3.heap.size 2 1 (.slice (some ad7) n c7) n ((ptL xs room fz).map (Value.int .i64)) from own_far HP.out _ _ NEA.out)
                have H5 := Lib.hid (((HHv.out.far (ad6.add j) (.int .i64 (s - p)) HBS.out HAF.out)).below (by rw [World.size_setCell]; have := HT.out.size; omega) ((Below.refl _ _).drew))
                have T5 := Lib.hid ((HT.out.setCell (ad6.add j) (.int .i64 (s - p)) (.inr FAR.out)).more ((Below.refl _ _).drew))
                generalize (wr.setCell (ad6.add j) (.int .i64 (s - p))).drew = WS at O5 P5 H5 T5 ⊢
                have l5 : WS.cell? ⟨p1, 0, none⟩ = some (.slice (some ad) n c) := H5.out.b1.cell 0
                have f5 := HCE.out WS O5.out
                obtain ⟨ad', m', ea, _, hm', x0, x1, x2, x3⟩ := reads_it H5.out.its hlt
                injection ea with ea
                subst ea
                rw [HMm.out] at hm'
                injection hm' with hm'
                subst hm'
                clear y0 y1 z0 x0 x2 x3 PUT HBS NEA FAR HCE HO HP HHv HT
                go_quiet (fail)
                have BQ := Lib.hid (bel_drewN (Below.refl WS.heap.size WS) nq)
                generalize WS.drewN nq = WQ at BQ ⊢
                have O6 := Lib.hid (own_below O5.out BQ.out)
                have P6 := Lib.hid (own_below P5.out BQ.out)
                have hn5 : n0 ≤ WS.heap.size := by have := T5.out.size; omega
                have H6 := Lib.hid (H5.out.below hn5 BQ.out)
                have T6 := Lib.hid (T5.out.more BQ.out)
                clear O5 P5 H5 T5 l5 f5 x1 BQ
                obtain ⟨lo, hlo⟩ : ∃ lo, loI (s - p) m = lo := ⟨_, rfl⟩
                have qlo : decide (s - p < m.least) = lo := hlo
                simp only [qlo]
                clear qlo
                rw [hlo] at HLO HNX
                clear hlo
                obtain ⟨_, _, eF, F⟩ := own_cell H6.out.row hlt
                injection eF with eF
                subst eF
                have g0 := F.cell
                have g1 := F.free
                have FP := Lib.hid F.put
                have FB := Lib.hid F.far
                have d6 : WQ.cell? ⟨W0.heap.size + 1, 0, none⟩ = some (.slice (some adF) n n) := H6.out.box.cell 0
                have HFb := Lib.hid (show (adF.add j).block = W0.heap.size by rw [block_of_add]; exact HAF.out adF rfl)
                clear F
                cases lo
                · have HMG := Lib.hid (mixG_same (nxL xs room fz) fz j b (by rw [HNX.out, Bool.or_false]) HBb.out)
                  have HLO2 := Lib.hid (show ((loL xs room fz).take (j + 1)).any id = ((loL xs room fz).take j).any id by rw [HLO.out, Bool.or_false])
                  generalize ((loL xs room fz).take j).any id = mo at HLO2 ⊢
                  go_wp2
                  go_roundw
                  case rel => exact ⟨j + 1, by go_num, by omega, by rw [HLO2.out], O6, P6, by rw [HMG.out]; exact H6, T6⟩
                  case measure => simp [intOf]; omega
                · have HMG := Lib.hid (mixG_set (nxL xs room fz) fz j true (by rw [HNX.out, Bool.or_true]) (List.getElem?_eq_some_iff.1 HBb.out).1)
                  have HLO2 := Lib.hid (show ((loL xs room fz).take (j + 1)).any id = true by rw [HLO.out, Bool.or_true])
                  generalize ((loL xs room fz).take j).any id = mo
                  go_wp2
                  go_roundw
                  case rel =>
                    refine ⟨j + 1, by go_num, by omega, by rw [HLO2.out], Lib.hid (own_row_far O6.out _ _ (fun e => ?_)), Lib.hid (own_row_far P6.out _ _ (fun e => ?_)), Lib.hid (H6.out.put _ _ HFb.out (by have h := FP.out true; rwa [HMG.out] at h) (by omega) (by omega) hn0), Lib.hid (T6.out.setCell _ _ (.inl HFb.out))⟩
                    · have := (O6.out.lt _ e).1
                      have h2 := HS.out
                      have h3 := HFb.out
                      omega
                    · have := (P6.out.lt _ e).1
                      have h2 := HS.out
                      have h3 := HFb.out
                      have h4 := T3.out.size
                      omega
                  case measure => simp [intOf]; omega
              · obtain rfl : n = j := by omega
                have q1 : decide ((n : Int) < (n : Int)) = false := decide_eq_false (by omega)
                obtain ⟨WV, hWV⟩ : ∃ WV, WV = wr := ⟨_, rfl⟩
                subst hWV
                have OV := Lib.hid (show WV.ownsRow Wk.heap.size 2 1 (.slice A6 n c6) n ((yL xs room fz).map (Value.int .i64)) by have h := HO.out; rwa [mixI_all _ _ n (yL_len HL.out HFL.out) (szL_len HL.out HFL.out)] at h)
                have HV := Lib.hid (show Holds n0 p1 p2 W0.heap.size AF A n c room xs (nxL xs room fz) WV by have h := HHv.out; rwa [mixG_all _ _ n (nxL_len HL.out HFL.out) HFL.out] at h)
                have TV := HT
                have HMO := Lib.hid (show Value.bool (((loL xs room fz).take n).any id) = .bool (moB xs room fz) by unfold moB; rw [List.take_of_length_le (by rw [loL_len HL.out HFL.out]; exact Nat.le_refl _)])
                clear HO HP HHv
                generalize ((loL xs room fz).take n).any id = mo at HMO ⊢
                obtain ⟨fn, tmps, assign, body, hy, hR⟩ := HY.out (ysL xs room k) (yL xs room fz) #[.slice A6 n c6] WV (by rw [← HFZ.out, ← ysL_succ]; exact ysL_pre xs room (k + 1) (R + 1) (by omega)) ⟨A6, c6, rfl, own_le OV.out HS.out⟩ (HJ.out _ _ _ JJ.out TV.out)
                go_upto_region 20 with fail
                refine (wpIn_wide (n := 9)).1 ?_
                gi_wp2
                refine hR.mono ?_
                rintro e W3 (⟨rfl, hJ3, hk3⟩ | ⟨rfl, hJx3⟩)
                · have HN := Lib.hid (HV.out.lies hk3 (by have := TV.out.size; omega) HAF.out)
                  have JN := Lib.hid hJ3
                  have hs3 := hk3.size
                  have htv := TV.out.size
                  have HSN := Lib.hid (show W0.heap.size + 2 ≤ W3.heap.size by have := HS.out; omega)
                  clear hJ3 hk3 hs3 htv hR hy
                  gi_wp2
                  try go_wp2
                  go_roundg (R + 1 - (k + 1))
                  case measure => omega
                  case rel => exact ⟨k + 1, by omega, by rw [HMO.out, ← HFZ.out, mo_dec HR1.out HR2.out hk], by rw [show fzK xs room (k + 1) = nxL xs room fz by rw [← HFZ.out]; rfl]; exact HN, by rw [ysL_succ, HFZ.out]; exact JN, HSN⟩
                · have JN := Lib.hid (show Jx (ysL xs room (k + 1)) W3 by rw [ysL_succ, HFZ.out]; exact hJx3)
                  have PN := Lib.hid (ysL_pre xs room (k + 1) (R + 1) (by omega))
                  clear hJx3 hR hy
                  gi_wp2
                  try go_wp2
                  refine bodyPost_ret (results_none rfl _ _ _) rfl ?_
                  exact ⟨⟨_, rfl⟩, .inr ⟨ysL xs room (k + 1), PN.out, JN.out⟩⟩
    · rw [decide_eq_false hk]
      obtain rfl : k = R + 1 := by omega
      go_wp2
      go_end0
      exact ⟨⟨_, rfl⟩, .inl JJ.out⟩
end Go.Proofs.Ytglomkpnbdnnoaa.Flex
