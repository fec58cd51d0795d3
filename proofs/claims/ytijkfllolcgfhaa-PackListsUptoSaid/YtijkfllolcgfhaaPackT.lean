/- Chapter 3: the reference takes a number, walked. No condition but bounds. -/
import Derived.Test.YtijkfllolcgfhaaPackRl
import Derived.Deep.DrawnRows
namespace Go.Proofs.Ytijkfllolcgfhaa.Pack
open Go.RowKit
set_option linter.unusedVariables false
set_option linter.unusedSimpArgs false

/-- The document's row: what is left, if all was fine. -/
abbrev rowV (st : Option (List UInt8)) : Value := .agg #[strV (st.getD []), .bool st.isSome]
theorem blk_two {w : World} {R : Nat} {T : TypeId} {a b : Value} (h : Blk w R T #[a, b]) (x y : Value) : Blk ((w.setCell ⟨R, 0, none⟩ x).setCell ⟨R, 1, none⟩ y) R T #[x, y] := (h.set_ 0 x).set_ 1 y
theorem bel_two {w W : World} {R : Nat} (h : Below w.heap.size w W) (hR : w.heap.size ≤ R) (x y : Value) : Below w.heap.size w ((W.setCell ⟨R, 0, none⟩ x).setCell ⟨R, 1, none⟩ y) :=
  (h.setCell (p := ⟨R, 0, none⟩) hR x).setCell (p := ⟨R, 1, none⟩) hR y
theorem bad_any (w : World) : Calls Try.prog 65 #[] w fun e w' => e = .returned (rowV none) ∧ Below w.heap.size w w' := by
  have bel := bel_alloc (Below.refl w.heap.size w) (.cells #[strV [], .bool false] 53)
  go_enter Try.func65, Try.ntmps65
  go_wp2
  exact bodyPost_ret (v := rowV none) (by simp [results, Try.results65, go_sem]) rfl ⟨rfl, bel⟩
/-- A row that came in, and a row for the result. -/
structure TM (w : World) (st : Option (List UInt8)) (W : World) : Prop where
  a : Blk W w.heap.size 53 #[strV (st.getD []), .bool st.isSome]
  b : Blk W (w.heap.size + 1) 53 #[strV [], .bool false]
  bel : Below w.heap.size w W
section
variable {w W W' : World} {st : Option (List UInt8)}
theorem TM.new (w : World) (st : Option (List UInt8)) : TM w st ((w.alloc (.cells #[strV (st.getD []), .bool st.isSome] 53)).alloc (.cells #[strV [], .bool false] 53)) :=
  ⟨(Blk.new _ _ _).alloc _, by have := Blk.new (w.alloc (.cells #[strV (st.getD []), .bool st.isSome] 53)) 53 #[strV [], .bool false]; rwa [World.size_alloc] at this, bel_alloc (bel_alloc (Below.refl _ _) _) _⟩
theorem TM.keep (m : TM w st W) (hb : Below W.heap.size W W') : TM w st W' := ⟨m.a.keep hb, m.b.keep hb, bel_trans m.bel hb⟩
theorem TM.drew (m : TM w st W) : TM w st W.drew := ⟨m.a.drew, m.b.drew, m.bel.drew⟩
theorem TM.cells (m : TM w st W) : W.cell? ⟨w.heap.size, 0, none⟩ = some (strV (st.getD [])) ∧ W.cell? ⟨w.heap.size, 1, none⟩ = some (.bool st.isSome) ∧ W.cell? ⟨w.heap.size + 1, 0, none⟩ = some (strV []) ∧ W.cell? ⟨w.heap.size + 1, 1, none⟩ = some (.bool false) ∧ W.frozen? ⟨w.heap.size + 1, 0, none⟩ = false ∧ W.frozen? ⟨w.heap.size + 1, 1, none⟩ = false :=
  ⟨m.a.cell 0, m.a.cell 1, m.b.cell 0, m.b.cell 1, m.b.frozen 0, m.b.frozen 1⟩
/-- The result stored. -/
theorem TM.put (m : TM w st W) (x y : Value) : (W.setCell ⟨w.heap.size + 1, 0, none⟩ x).cell? ⟨w.heap.size + 1, 0, none⟩ = some x ∧ ((W.setCell ⟨w.heap.size + 1, 0, none⟩ x).setCell ⟨w.heap.size + 1, 1, none⟩ y).cell? ⟨w.heap.size + 1, 1, none⟩ = some y ∧ Below w.heap.size w ((W.setCell ⟨w.heap.size + 1, 0, none⟩ x).setCell ⟨w.heap.size + 1, 1, none⟩ y) :=
  ⟨(m.b.set_ 0 x).cell 0, (blk_two m.b x y).cell 1, bel_two m.bel (by omega) x y⟩
end
theorem tm_start {w W : World} {l : List UInt8} (m : TM w (some l) W) : W.cell? ⟨w.heap.size, 0, none⟩ = some (strV l) ∧ TM w (some l) W := ⟨m.cells.1, m⟩
theorem tm_keep {w W W' : World} {l : List UInt8} {p : Prop} (hb : Below W.heap.size W W') (h : p ∧ TM w (some l) W) : W'.cell? ⟨w.heap.size, 0, none⟩ = some (strV l) ∧ TM w (some l) W' := tm_start (h.2.keep hb)
theorem tm_of {w W : World} {l : List UInt8} {p : Prop} (h : p ∧ TM w (some l) W) : TM w (some l) W := h.2
theorem tm_drew {w W : World} {l : List UInt8} {p : Prop} (h : p ∧ TM w (some l) W) : W.drew.cell? ⟨w.heap.size, 0, none⟩ = some (strV l) ∧ TM w (some l) W.drew := tm_start h.2.drew
theorem str_get (l : List UInt8) (i : Nat) (x : UInt8) (h : l[i]? = some x) : ∀ h', (⟨l.toArray⟩ : ByteArray)[i]'h' = x := by
  intro h'
  obtain ⟨h1, h2⟩ := List.getElem?_eq_some_iff.1 h
  exact h2
set_option maxHeartbeats 4000000 in
theorem tnum_bad (st : Option (List UInt8)) (hst : st = none ∨ st = some []) (w : World) :
    Calls Try.prog 59 #[rowV st] w fun e w' => e = .returned (.tuple #[.int .u64 0, rowV none]) ∧ Below w.heap.size w w' := by
  have M := Lib.hid (TM.new w st)
  obtain ⟨c0, c1, _⟩ := M.out.cells
  rcases hst with rfl | rfl
  all_goals
    go_enter Try.func59, Try.ntmps59
    go_wp2_with (go_at_call 65; refine (bad_any _).mono ?_; rintro e w1 ⟨rfl, hb1⟩; have M1 := Lib.hid (M.out.keep hb1); clear hb1; obtain ⟨d0, d1, d2, d3, d4, d5⟩ := M1.out.cells)
    obtain ⟨s0, s1, bel⟩ := M1.out.put (strV []) (.bool false)
    exact bodyPost_ret (v := .tuple #[.int .u64 0, rowV none]) (by simp [results, Try.results59, go_sem, s0, s1]) rfl ⟨rfl, bel⟩
theorem num_back (c : UInt8) (t : List UInt8) (x j : Nat) (hx : c.toNat = x) (hs : ¬ x < 248) (hj : x = j + 247) (hl : j ≤ t.length) :
    (numB (val (t.take j)) = c :: t.take j ∧ tnS (some (c :: t)) = (val (t.take j), some (t.drop j))) ∨ (numB (val (t.take j)) ≠ c :: t.take j ∧ tnS (some (c :: t)) = (0, none)) := by
  have hc := UInt8.toNat_lt c
  have hu : U64 (val (t.take j)) := val_u64 (by rw [List.length_take]; omega)
  have e : x - 247 = j := by omega
  cases h : tn (c :: t) with
  | some q =>
    obtain ⟨n, r⟩ := q
    have h0 := h
    rw [tn, hx, if_neg hs, e, if_neg (by omega)] at h
    by_cases h3 : (t.take j).head? = some 0 ∨ val (t.take j) < 248
    · rw [if_pos h3] at h; cases h
    · rw [if_neg h3] at h
      obtain ⟨rfl, rfl⟩ := Prod.mk.inj (Option.some.inj h)
      refine .inl ⟨?_, tnS_some h0⟩
      have h1 := (tn_inv h0).1
      have h2 : c :: t = (c :: t.take j) ++ t.drop j := by rw [List.cons_append, List.take_append_drop]
      rw [h2] at h1
      exact (List.append_cancel_right h1).symm
  | none =>
    refine .inr ⟨fun h1 => ?_, tnS_none h⟩
    have h2 : c :: t = numB (val (t.take j)) ++ t.drop j := by rw [h1, List.cons_append, List.take_append_drop]
    rw [h2, tn_num hu] at h
    cases h
set_option maxHeartbeats 4000000 in
theorem tnum_any (st : Option (List UInt8)) (w : World) (hb : ∀ b, st = some b → b.length ≤ 10000000000000) :
    Calls Try.prog 59 #[rowV st] w fun e w' => e = .returned (.tuple #[.int .u64 ((tnS st).1 : Int), rowV (tnS st).2]) ∧ Below w.heap.size w w' := by
  cases st with
  | none => exact tnum_bad none (.inl rfl) w
  | some b =>
    cases b with
    | nil => exact tnum_bad (some []) (.inr rfl) w
    | cons c t =>
      have hc : c.toNat < 256 := UInt8.toNat_lt c
      obtain ⟨x, hx⟩ : ∃ x, c.toNat = x := ⟨_, rfl⟩
      have gx : ∀ h, ((⟨(c :: t).toArray⟩ : ByteArray)[0]'h).toNat = x := fun _ => hx
      have HX := Lib.hid hx
      rw [hx] at hc
      clear hx
      obtain ⟨L, hL⟩ : ∃ L, (⟨(c :: t).toArray⟩ : ByteArray).size = L := ⟨_, rfl⟩
      have HLL := Lib.hid (show L = t.length + 1 by rw [← hL]; rfl)
      have hl : ((L : Nat) : Int) ≤ 10000000000000 := by have := hb _ rfl; rw [List.length_cons] at this; have := HLL.out; omega
      have hl1 : 1 ≤ L := by have := HLL.out; omega
      clear hb
      have M := Lib.hid (TM.new w (some (c :: t)))
      have C0 := M.out.cells
      obtain ⟨c0, c1, _⟩ := C0
      have c0 : ((w.alloc (.cells #[strV ((some (c :: t)).getD []), .bool (some (c :: t)).isSome] 53)).alloc (.cells #[strV [], .bool false] 53)).cell? ⟨w.heap.size, 0, none⟩ = some (strV (c :: t)) := c0
      by_cases hs : x < 248
      · have q0 : decide ((248 : Int) ≤ (x : Int)) = false := by simp; omega
        have q1 : decide (L < 1) = false := by simp; omega
        have hnx : numB x = [c] := by rw [numB_small hs, ← HX.out, UInt8.ofNat_toNat]
        have S1 : (⟨(c :: t).toArray⟩ : ByteArray).extract 0 1 = ⟨[c].toArray⟩ := by rw [str_take]; rfl
        have S2 : (⟨(c :: t).toArray⟩ : ByteArray).extract 1 L = ⟨t.toArray⟩ := by
          have := str_drop (c :: t) 1
          rw [List.length_cons, ← HLL.out] at this
          rw [this]; rfl
        have q6 : (numB x == [c]) = true := by rw [hnx]; simp
        have q7 : (!(numB x == [c])) = false := by rw [q6]; rfl
        have HE := Lib.hid (show tnS (some (c :: t)) = (x, some t) from tnS_some (by
            show tn (c :: t) = some (x, t)
            rw [tn, HX.out, if_pos hs]))
        clear hnx
        go_enter Try.func59, Try.ntmps59
        go_upto_region 10 with (fail)
        go_loop [5, 6] (fun n i => n = .int .u64 0 ∧ i = .int .i64 1) (fun _ _ => 0)
        case atStart => exact ⟨rfl, rfl⟩
        case round =>
          obtain ⟨rfl, rfl⟩ := hrel
          go_upto_region 15 with (fail)
          have C0 : ((w.alloc (.cells #[strV (c :: t), .bool true] 53)).alloc (.cells #[.string ⟨#[]⟩, .bool false] 53)).drew.cell? ⟨w.heap.size, 0, none⟩ = some (strV (c :: t)) ∧ TM w (some (c :: t)) ((w.alloc (.cells #[strV (c :: t), .bool true] 53)).alloc (.cells #[.string ⟨#[]⟩, .bool false] 53)).drew := tm_drew (tm_start M.out)
          go_region_held3 (fun w' => w'.cell? ⟨w.heap.size, 0, none⟩ = some (strV (c :: t)) ∧ TM w (some (c :: t)) w')
            (first | with_reducible exact C0 | with_reducible exact tm_drew (by assumption) | with_reducible exact tm_keep (by assumption) (by assumption) | go_keep)
            ((go_at_call 44; refine (rnum_any _ _ (by omega) (by omega)).mono ?_; rintro e w2 ⟨rfl, hb2⟩; have T2 := Lib.hid ((tm_of (by assumption) : TM w (some (c :: t)) _).keep hb2)))
          obtain ⟨d0, d1, d2, d3, d4, d5⟩ := T2.out.cells
          go_wp2_with (fail)
          have T3 := T2.out.drew
          have d0 : w2.cell? ⟨w.heap.size, 0, none⟩ = some (strV (c :: t)) := d0
          go_region
          all_goals
            go_wp2
            obtain ⟨s0, s1, bel⟩ := T2.out.put (strV t) (.bool true)
            exact bodyPost_ret (v := .tuple #[.int .u64 (x : Int), rowV (some t)]) (by simp [results, Try.results59, go_sem, s0, s1]) rfl ⟨by rw [HE.out], bel.drew⟩
      · obtain ⟨kN, hk⟩ : ∃ kN, x = kN + 246 := ⟨x - 246, by omega⟩
        have q0 : decide ((248 : Int) ≤ (x : Int)) = true := by simp; omega
        have e0 : (x : Int) - 246 = (kN : Int) := by omega
        have k2 : 2 ≤ kN := by omega
        have k9 : kN ≤ 9 := by omega
        have HKN := Lib.hid hk
        clear hk
        by_cases hlen : L < kN
        · have q2 : decide (L < kN) = true := by simp; omega
          go_enter Try.func59, Try.ntmps59
          go_wp2_with (go_at_call 65; refine (bad_any _).mono ?_; rintro e w1 ⟨rfl, hb1⟩; have M1 := Lib.hid (M.out.keep hb1); clear hb1; obtain ⟨d0, d1, d2, d3, d4, d5⟩ := M1.out.cells)
          have HE := Lib.hid (show tnS (some (c :: t)) = (0, none) from tnS_none (by
            show tn (c :: t) = none
            rw [tn, HX.out, if_neg hs, if_pos (by have := HLL.out; have := HKN.out; omega)]))
          rw [HE.out]
          obtain ⟨s0, s1, bel⟩ := M1.out.put (strV []) (.bool false)
          exact bodyPost_ret (v := .tuple #[.int .u64 0, rowV none]) (by simp [results, Try.results59, go_sem, s0, s1]) rfl ⟨rfl, bel⟩
        · have q2 : decide (L < kN) = false := by simp; omega
          have q3 : ((kN : Int) == 1) = false := by simp; omega
          go_enter Try.func59, Try.ntmps59
          go_upto_region 10 with (fail)
          go_loop [5, 6] (fun n i => ∃ j : Nat, j + 1 ≤ kN ∧ n = .int .u64 ((val (t.take j) : Nat) : Int) ∧ i = .int .i64 ((j + 1 : Nat) : Int)) (fun _ i => kN - (intOf i).toNat)
          case atStart => exact ⟨0, by omega, rfl, rfl⟩
          case round =>
            obtain ⟨j, hj, rfl, rfl⟩ := hrel
            by_cases hlt : j + 1 < kN
            · have hjt : j < t.length := by have := HLL.out; omega
              obtain ⟨d, hd⟩ : ∃ d, t[j]? = some d := ⟨_, List.getElem?_eq_getElem hjt⟩
              have gj := str_get (c :: t) (j + 1) d (by rw [List.getElem?_cons_succ]; exact hd)
              have HV := Lib.hid (val_take t hd)
              have hv := val_lt7 (t.take j) (by rw [List.length_take]; omega)
              generalize val (t.take j) = v at hv HV ⊢
              have d1 := UInt8.toNat_lt d
              have w1 : IntKind.u64.wrap (256 * (v : Int)) = 256 * (v : Int) := by rw [IntKind.wrap_u64]; omega
              have w2 : IntKind.u64.wrap (256 * (v : Int) + (d.toNat : Int)) = 256 * (v : Int) + (d.toNat : Int) := by rw [IntKind.wrap_u64]; omega
              have w3 : IntKind.u64.wrap (d.toNat : Int) = (d.toNat : Int) := by rw [IntKind.wrap_u64]; omega
              have q5 : decide (j + 1 < kN) = true := by simp; omega
              clear hd hjt hv d1
              go_wp2_with (fail)
              go_round
              case rel => exact ⟨j + 1, by omega, by rw [HV.out, Int.natCast_add, Int.natCast_mul]; rfl, by go_num⟩
              case measure => simp [intOf]; omega
            · have HK := Lib.hid (show kN = j + 1 by omega)
              have q5 : decide (j + 1 < kN) = false := by simp; omega
              go_upto_region 15 with (fail)
              have S1 : (⟨(c :: t).toArray⟩ : ByteArray).extract 0 kN = ⟨(c :: t.take j).toArray⟩ := by rw [HK.out, str_take]; rfl
              have S2 : (⟨(c :: t).toArray⟩ : ByteArray).extract kN L = ⟨(t.drop j).toArray⟩ := by
                rw [HK.out]
                have := str_drop (c :: t) (j + 1)
                rw [List.length_cons, ← HLL.out] at this
                rw [this]; rfl
              have NB := num_back c t x j HX.out hs (by have := HKN.out; have := HK.out; omega) (by have := HLL.out; have := HK.out; omega)
              have HU := Lib.hid (show ((val (t.take j) : Nat) : Int) < 18446744073709551616 by
                have := val_u64 (l := t.take j) (by rw [List.length_take]; have := HK.out; omega)
                unfold U64 at this
                omega)
              have C0 : ((w.alloc (.cells #[strV (c :: t), .bool true] 53)).alloc (.cells #[.string ⟨#[]⟩, .bool false] 53)).drew.cell? ⟨w.heap.size, 0, none⟩ = some (strV (c :: t)) ∧ TM w (some (c :: t)) ((w.alloc (.cells #[strV (c :: t), .bool true] 53)).alloc (.cells #[.string ⟨#[]⟩, .bool false] 53)).drew := tm_drew (tm_start M.out)
              have jL : (kN : Int) ≤ (L : Int) := by omega
              have jL' : kN ≤ L := by omega
              have k0 : (0 : Int) ≤ (kN : Int) := by omega
              generalize t.take j = l at *
              generalize t.drop j = rst at *
              rcases NB with ⟨hnb, htn⟩ | ⟨hnb, htn⟩
              · have q6 : (numB (val l) == c :: l) = true := by rw [hnb]; simp
                have q7 : (!(numB (val l) == c :: l)) = false := by rw [q6]; rfl
                have HE := Lib.hid htn
                clear hnb htn
                go_region_held3 (fun w' => w'.cell? ⟨w.heap.size, 0, none⟩ = some (strV (c :: t)) ∧ TM w (some (c :: t)) w')
                  (first | with_reducible exact C0 | with_reducible exact tm_drew (by assumption) | with_reducible exact tm_keep (by assumption) (by assumption) | go_keep)
                  ((go_at_call 44; refine (rnum_any _ _ (Int.natCast_nonneg _) HU.out).mono ?_; rintro e w2 ⟨rfl, hb2⟩; rw [Int.toNat_natCast]; have T2 := Lib.hid ((tm_of (by assumption) : TM w (some (c :: t)) _).keep hb2)))
                obtain ⟨d0, d1, d2, d3, d4, d5⟩ := T2.out.cells
                go_wp2_with (fail)
                have d0 : w2.cell? ⟨w.heap.size, 0, none⟩ = some (strV (c :: t)) := d0
                go_region
                all_goals
                  go_wp2
                  obtain ⟨s0, s1, bel⟩ := T2.out.put (strV rst) (.bool true)
                  exact bodyPost_ret (v := .tuple #[.int .u64 (val l : Int), rowV (some rst)]) (by simp [results, Try.results59, go_sem, s0, s1]) rfl ⟨by rw [HE.out], bel.drew⟩
              · have q6 : (numB (val l) == c :: l) = false := by simpa using hnb
                have q7 : (!(numB (val l) == c :: l)) = true := by rw [q6]; rfl
                have HE := Lib.hid htn
                clear hnb htn
                go_region_held3 (fun w' => w'.cell? ⟨w.heap.size, 0, none⟩ = some (strV (c :: t)) ∧ TM w (some (c :: t)) w')
                  (first | with_reducible exact C0 | with_reducible exact tm_drew (by assumption) | with_reducible exact tm_keep (by assumption) (by assumption) | go_keep)
                  ((go_at_call 44; refine (rnum_any _ _ (Int.natCast_nonneg _) HU.out).mono ?_; rintro e w2 ⟨rfl, hb2⟩; rw [Int.toNat_natCast]; have T2 := Lib.hid ((tm_of (by assumption) : TM w (some (c :: t)) _).keep hb2)))
                go_wp2_with (go_at_call 65; refine (bad_any _).mono ?_; rintro e w3 ⟨rfl, hb3⟩; have M1 := Lib.hid (T2.out.keep hb3); clear hb3; obtain ⟨d0, d1, d2, d3, d4, d5⟩ := M1.out.cells)
                obtain ⟨s0, s1, bel⟩ := M1.out.put (strV []) (.bool false)
                exact bodyPost_ret (v := .tuple #[.int .u64 0, rowV none]) (by simp [results, Try.results59, go_sem, s0, s1]) rfl ⟨by rw [HE.out]; rfl, bel⟩
end Go.Proofs.Ytijkfllolcgfhaa.Pack
