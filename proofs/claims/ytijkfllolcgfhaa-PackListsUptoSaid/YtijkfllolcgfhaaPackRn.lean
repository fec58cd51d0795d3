/- Chapter 3: a number read, walked. No condition but bounds. -/
import Derived.Test.YtijkfllolcgfhaaPackR
namespace Go.Proofs.Ytijkfllolcgfhaa.Pack
open Go.RowKit
set_option linter.unusedVariables false
set_option linter.unusedSimpArgs false

/-- A number read: 0, and no more, if there is none. -/
def tnS (st : Option (List UInt8)) : Nat × Option (List UInt8) := match st.bind tn with | some (n, r) => (n, some r) | none => (0, none)
theorem tnS_none {st : Option (List UInt8)} (h : st.bind tn = none) : tnS st = (0, none) := by unfold tnS; rw [h]
theorem tnS_some {st : Option (List UInt8)} {n : Nat} {r : List UInt8} (h : st.bind tn = some (n, r)) : tnS st = (n, some r) := by unfold tnS; rw [h]
theorem or_byte (v c : Nat) (hv : v < 72057594037927936) (hc : c < 256) : bits .or .u64 (IntKind.u64.wrap ((v : Int) * 256)) (c : Int) = ((256 * v + c : Nat) : Int) := by
  have e : IntKind.u64.wrap ((v : Int) * 256) = ((256 * v : Nat) : Int) := by rw [IntKind.wrap_u64]; omega
  rw [e]
  have h1 : (BitVec.ofInt 64 ((256 * v : Nat) : Int)).toNat = 256 * v := by
    rw [BitVec.ofInt_natCast, BitVec.toNat_ofNat]; exact Nat.mod_eq_of_lt (by omega)
  have h2 : (BitVec.ofInt 64 (c : Int)).toNat = c := by
    rw [BitVec.ofInt_natCast, BitVec.toNat_ofNat]; exact Nat.mod_eq_of_lt (by omega)
  show IntKind.u64.wrap ((BitVec.ofInt 64 ((256 * v : Nat) : Int) ||| BitVec.ofInt 64 (c : Int)).toNat : Int) = _
  rw [BitVec.toNat_or, h1, h2, IntKind.wrap_u64]
  have h3 : 256 * v ||| c = 256 * v + c := by
    have := Nat.shiftLeft_add_eq_or_of_lt (i := 8) (b := c) (by omega) v
    rw [Nat.shiftLeft_eq] at this
    rw [Nat.mul_comm 256 v]
    exact this.symm
  rw [h3]
  omega
theorem val_take (l : List UInt8) {k : Nat} {c : UInt8} (h : l[k]? = some c) : val (l.take (k + 1)) = 256 * val (l.take k) + c.toNat := by
  obtain ⟨hk, rfl⟩ := List.getElem?_eq_some_iff.1 h
  rw [List.take_succ_eq_append_getElem hk, val_snoc]
theorem addr_add (b k : Nat) : (⟨b, 0, none⟩ : Addr).add k = ⟨b, k, none⟩ := by
  unfold Addr.add
  split
  · subst_vars; rfl
  · simp
theorem val_lt7 (l : List UInt8) (h : l.length ≤ 7) : val l < 72057594037927936 := by
  have h1 := val_lt l
  have h2 : 256 ^ l.length ≤ 256 ^ 7 := Nat.pow_le_pow_right (by omega) h
  have h3 : 256 ^ 7 = 72057594037927936 := by decide
  rw [h3] at h2
  exact Nat.lt_of_lt_of_le h1 h2
theorem tk_len (n : Nat) (st : Option (List UInt8)) : (tk n st).1.length ≤ n := by
  cases st with
  | none => exact Nat.zero_le _
  | some b =>
    simp only [tk]
    by_cases h : n ≤ b.length
    · rw [if_pos h]; exact List.length_take_le _ _
    · rw [if_neg h]; exact Nat.zero_le _
/-- What a first byte from 248 on comes to. -/
theorem tn_cases (c : UInt8) (t : List UInt8) (x : Nat) (hx : c.toNat = x) (hs : ¬ x < 248) :
    ((tk (x - 247) (some t)).1 = [] ∧ tnS (some (c :: t)) = (0, none)) ∨
    (∃ d l', (tk (x - 247) (some t)).1 = d :: l' ∧ ((d.toNat = 0 ∨ val (d :: l') < 248) ∧ tnS (some (c :: t)) = (0, none) ∨
      (d.toNat ≠ 0 ∧ ¬ val (d :: l') < 248 ∧ tnS (some (c :: t)) = (val (d :: l'), (tk (x - 247) (some t)).2)))) := by
  have e : (some (c :: t)).bind tn = tn (c :: t) := rfl
  by_cases h : x - 247 ≤ t.length
  · have e1 : tk (x - 247) (some t) = (t.take (x - 247), some (t.drop (x - 247))) := by simp only [tk]; rw [if_pos h]
    rw [e1]
    cases hl : t.take (x - 247) with
    | nil =>
      exfalso
      have := congrArg List.length hl
      rw [List.length_take, List.length_nil] at this
      omega
    | cons d l' =>
      refine .inr ⟨d, l', rfl, ?_⟩
      by_cases h3 : d.toNat = 0 ∨ val (d :: l') < 248
      · refine .inl ⟨h3, tnS_none ?_⟩
        rw [e, tn, hx, if_neg hs, if_neg (by omega), hl, if_pos]
        rcases h3 with h3 | h3
        · left
          rw [List.head?_cons, show d = 0 from UInt8.toNat_inj.1 h3]
        · exact .inr h3
      · rw [not_or] at h3
        refine .inr ⟨h3.1, h3.2, tnS_some ?_⟩
        rw [e, tn, hx, if_neg hs, if_neg (by omega), hl, if_neg]
        rw [not_or]
        refine ⟨fun h => h3.1 ?_, h3.2⟩
        rw [List.head?_cons] at h
        rw [Option.some.inj h]
        rfl
  · have e1 : tk (x - 247) (some t) = ([], none) := by simp only [tk]; rw [if_neg h]
    rw [e1]
    refine .inl ⟨rfl, tnS_none ?_⟩
    rw [e, tn, hx, if_neg hs, if_pos (by omega)]
set_option maxHeartbeats 4000000 in
theorem rdnum_any (g : Nat) (p : Option Addr) (made : Bool) (st : Option (List UInt8)) (w : World) (h : RdS w g p made st) (hb : ∀ b, st = some b → b.length ≤ 10000000000000) :
    Calls Try.prog 36 #[.pointer p] w (RPost w g p made (.int .u64 ((tnS st).1 : Int)) (tnS st).2) := by
  have HR := Lib.hid h
  have HB := Lib.hid hb
  clear hb h
  by_cases hn : (tk 1 st).1 = []
  · have e1 := Lib.hid hn
    have e2 := Lib.hid (show (tk 1 st).2 = none ∧ tnS st = (0, none) by
      cases st with
      | none => exact ⟨rfl, rfl⟩
      | some b =>
        cases b with
        | nil => exact ⟨rfl, rfl⟩
        | cons c t => simp [tk] at hn)
    clear hn
    go_enter Try.func36, Try.ntmps36
    go_wp2_with (go_at_call 61; (with_reducible refine (take_any g p made st 1 _ HR.out (by decide) (by decide) HB.out).mono ?_); rintro e w1 ⟨rfl, hr1, hf1⟩; have R1 := Lib.hid hr1; have F1 := Lib.hid hf1; clear hr1 hf1; rw [show (tk (Int.toNat 1) st).1 = [] from e1.out])
    go_ret
    rw [e2.out.2]
    have r1 := R1.out
    rw [show (tk (Int.toNat 1) st).2 = none from e2.out.1] at r1
    exact ⟨rfl, r1, F1.out⟩
  · obtain ⟨c, t, rfl⟩ : ∃ c t, st = some (c :: t) := by
      cases st with
      | none => exact absurd rfl hn
      | some b =>
        cases b with
        | nil => exact absurd rfl hn
        | cons c t => exact ⟨c, t, rfl⟩
    have e1 := Lib.hid (show tk (Int.toNat 1) (some (c :: t)) = ([c], some t) by simp [tk])
    clear hn
    have hc : c.toNat < 256 := UInt8.toNat_lt c
    obtain ⟨x, hx⟩ : ∃ x, c.toNat = x := ⟨_, rfl⟩
    have gx : ∀ h, ((⟨#[c]⟩ : ByteArray)[0]'h).toNat = x := fun _ => hx
    have HX := Lib.hid hx
    rw [hx] at hc
    clear hx
    by_cases hs : x < 248
    · have e2 := Lib.hid (show tnS (some (c :: t)) = (x, some t) from tnS_some (by simp only [Option.bind_some, tn]; rw [if_pos (by rw [HX.out]; exact hs), HX.out]))
      have q0 : decide ((x : Int) < 248) = true := by simp; omega
      go_enter Try.func36, Try.ntmps36
      go_wp2_with (go_at_call 61; (with_reducible refine (take_any g p made _ 1 _ HR.out (by decide) (by decide) HB.out).mono ?_); rintro e w1 ⟨rfl, hr1, hf1⟩; have R1 := Lib.hid hr1; have F1 := Lib.hid hf1; clear hr1 hf1; rw [e1.out])
      go_ret
      rw [e2.out]
      have r1 := R1.out
      rw [e1.out] at r1
      exact ⟨rfl, r1, F1.out⟩
    · have q0 : decide ((x : Int) < 248) = false := by simp; omega
      have q1 : (248 : Int) ≤ x := by omega
      have HT := Lib.hid (show ∀ b, some t = some b → b.length ≤ 10000000000000 from fun b e => by cases e; have := HB.out _ rfl; simp at this; omega)
      have HK := Lib.hid (show ((x : Int) - 248 + 1).toNat = x - 247 by omega)
      have kl := tk_len (x - 247) (some t)
      have kc := Lib.hid (tn_cases c t x HX.out hs)
      go_enter Try.func36, Try.ntmps36
      go_upto_region 7 with (first
        | (go_at_call 61; (with_reducible refine (take_any g p made _ 1 _ HR.out (by decide) (by decide) HB.out).mono ?_); rintro e w1 ⟨rfl, hr1, hf1⟩; have R1 := Lib.hid (show RdS w1 g p made (some t) by rw [e1.out] at hr1; exact hr1); have F1 := Lib.hid hf1; clear hr1 hf1; rw [e1.out])
        | (go_at_call 61; (with_reducible refine (take_any g p made _ _ _ R1.out (by omega) (by omega) HT.out).mono ?_); rintro e w2 ⟨rfl, hr2, hf2⟩; rw [HK.out] at hr2 ⊢; have R2 := Lib.hid hr2; have F2 := Lib.hid hf2; clear hr2 hf2))
      generalize hT : tk (x - 247) (some t) = T at R2 kl kc ⊢
      clear hT
      obtain ⟨l, st2⟩ := T
      have hl8 : l.length ≤ 8 := by simp only at kl; omega
      have HC := fun w => Lib.run_convert_string_bytes (P := Try.prog) w 9 49 5 ⟨l.toArray⟩ Try.underlying9 Try.underlying49 Try.underlying5
      have HQ := Lib.hid (reads_bytes w2 5 ⟨l.toArray⟩)
      have R3 := Lib.hid (R2.out.below (below_bytes w2 5 ⟨l.toArray⟩))
      have F3 := Lib.hid ((F1.out.trans F2.out (fun _ _ h => h)).trans (Far.of_below (S := RSet p) (below_bytes w2 5 ⟨l.toArray⟩)) (fun _ _ h => h))
      have hs8 : (⟨l.toArray⟩ : ByteArray).size = l.length := rfl
      generalize hW : Lib.bytesWorld w2 5 ⟨l.toArray⟩ = w3 at R3 F3 HQ HC
      have HC' : (convert 9 49 (strV l)).run Try.prog w2 = .ok (.slice (some ⟨w2.heap.size, 0, none⟩) l.length (grownCap w2 (⟨l.toArray⟩ : ByteArray).size 0 5)) w3 := by rw [← hW]; exact HC w2
      clear HC hW hs8
      go_wp2_with (fail)
      go_loop [5, 32] (fun n i => ∃ k : Nat, i = .int .i64 k ∧ k ≤ l.length ∧ n = .int .u64 ((val (l.take k) : Nat) : Int)) (fun _ i => l.length - (intOf i).toNat)
      case atStart => exact ⟨0, rfl, Nat.zero_le _, rfl⟩
      case round =>
        obtain ⟨k, rfl, hk, rfl⟩ := hrel
        by_cases hlt : k < l.length
        · obtain ⟨ad, d, he, _, hx, hcell⟩ := reads_f HQ.out hlt
          cases he
          have hd := UInt8.toNat_lt d
          have ad1 := addr_add w2.heap.size k
          rw [ad1] at hcell
          have hv := val_lt7 (l.take k) (by rw [List.length_take]; omega)
          have hw0 : IntKind.u64.wrap (d.toNat : Int) = (d.toNat : Int) := by rw [IntKind.wrap_u64]; omega
          have HV := Lib.hid (val_take l hx)
          have ob := or_byte _ d.toNat hv hd
          clear hx ad1 hd hv
          go_wp2_with (fail)
          go_round
          case rel => exact ⟨k + 1, by go_num, by omega, by rw [HV.out, Int.natCast_add, Int.natCast_mul]; rfl⟩
          case measure => simp [intOf]; omega
        · obtain rfl : k = l.length := by omega
          rw [List.take_length]
          rcases kc.out with ⟨rfl, h0⟩ | ⟨d, l', rfl, ⟨h3, h0⟩ | ⟨h3, h4, h0⟩⟩
          · have H0 := Lib.hid h0
            clear h0
            go_wp2_with (go_at_call 60; (with_reducible refine (fail_any g p made _ _ R3.out).mono ?_); rintro e w4 ⟨rfl, hr4, hf4⟩; have R4 := Lib.hid hr4; have F4 := Lib.hid (F3.out.trans hf4 (fun _ _ h => h)); clear hr4 hf4)
            go_ret
            rw [H0.out]
            exact ⟨rfl, R4.out, F4.out⟩
          · have gy : ∀ h, ((⟨(d :: l').toArray⟩ : ByteArray)[0]'h) = d := fun _ => rfl
            have H0 := Lib.hid h0
            clear h0
            by_cases hd0 : d.toNat = 0
            · have q3 : ((d.toNat : Int) == 0) = true := by simp [hd0]
              clear hd0 h3
              go_wp2_with (go_at_call 60; (with_reducible refine (fail_any g p made _ _ R3.out).mono ?_); rintro e w4 ⟨rfl, hr4, hf4⟩; have R4 := Lib.hid hr4; have F4 := Lib.hid (F3.out.trans hf4 (fun _ _ h => h)); clear hr4 hf4)
              go_ret
              rw [H0.out]
              exact ⟨rfl, R4.out, F4.out⟩
            · have q3 : ((d.toNat : Int) == 0) = false := by simpa using hd0
              have h5 : val (d :: l') < 248 := h3.resolve_left hd0
              have q4 : decide ((val (d :: l') : Int) < 248) = true := by simp; omega
              clear hd0 h3
              go_wp2_with (go_at_call 60; (with_reducible refine (fail_any g p made _ _ R3.out).mono ?_); rintro e w4 ⟨rfl, hr4, hf4⟩; have R4 := Lib.hid hr4; have F4 := Lib.hid (F3.out.trans hf4 (fun _ _ h => h)); clear hr4 hf4)
              go_ret
              rw [H0.out]
              exact ⟨rfl, R4.out, F4.out⟩
          · have gy : ∀ h, ((⟨(d :: l').toArray⟩ : ByteArray)[0]'h) = d := fun _ => rfl
            have H0 := Lib.hid h0
            have q3 : ((d.toNat : Int) == 0) = false := by simpa using h3
            have q4 : decide ((val (d :: l') : Int) < 248) = false := by simp; omega
            clear h0 h3 h4
            go_wp2_with (fail)
            go_ret
            rw [H0.out]
            exact ⟨rfl, R3.out, F3.out⟩
end Go.Proofs.Ytijkfllolcgfhaa.Pack
