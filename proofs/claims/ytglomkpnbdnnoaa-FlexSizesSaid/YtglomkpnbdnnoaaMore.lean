/- More words on memory: rows of the call's own over calls, and read as lists. No condition. -/
import Derived.Test.YtglomkpnbdnnoaaBase
namespace Go.Proofs.Ytglomkpnbdnnoaa
open Go.RowKit
set_option linter.unusedVariables false
section
variable {w w' : World} {B e size n : Nat} {v : Value} {xs : List Value}
theorem own_below (h : w.ownsRow B e size v n xs) (hb : Below w.heap.size w w') : w'.ownsRow B e size v n xs := by
  refine ⟨h.1, ?_⟩
  rcases h.2 with h0 | ⟨g, cap, cur, hv, hB, hg, hr⟩
  · exact .inl h0
  · have hlt : g < w.heap.size := by
      rcases Nat.lt_or_ge g w.heap.size with h | h
      · exact h
      · rw [Array.getElem?_eq_none h] at hg; cases hg
    exact .inr ⟨g, cap, cur, hv, hB, (hb.block g hlt).trans hg, hr⟩
theorem own_shape (h : w.ownsRow B e size v n xs) : ∃ A c, v = .slice A n c := by
  rcases h.2 with ⟨hv, hn⟩ | ⟨g, cap, cur, hv, _⟩
  · exact ⟨none, 0, by rw [hv, hn]⟩
  · exact ⟨_, _, hv⟩
theorem own_reads {A : Option Addr} {c : Nat} (h : w.ownsRow B e size (.slice A n c) n xs) : Reads w w.heap.size size A n xs := Reads.of_own h
theorem own_le {B' : Nat} (h : w.ownsRow B e size v n xs) (hb : B' ≤ B) : w.ownsRow B' e size v n xs :=
  ⟨h.1, h.2.imp id fun ⟨g, cap, cur, h1, h2, h3⟩ => ⟨g, cap, cur, h1, Nat.le_trans hb h2, h3⟩⟩
theorem own_nil (w : World) (B e size : Nat) : w.ownsRow B e size (.slice none 0 0) 0 [] := ⟨by simp, .inl ⟨rfl, rfl⟩⟩
theorem own_drewN (h : w.ownsRow B e size v n xs) (m : Nat) : (w.drewN m).ownsRow B e size v n xs := h
/-- Behind an append the old blocks lie as they lay, the appended row but for. -/
theorem bel_grown {W w : World} (hb : Below W.heap.size W w) (hown : w.ownsRow W.heap.size e size v n xs) (hg : w.grownBy w' v.ownBlock) : Below W.heap.size W w' :=
  hb.grown hg hb.size fun k hk => (hown.lt k hk).1
end
end Go.Proofs.Ytglomkpnbdnnoaa
