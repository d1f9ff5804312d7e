/- Contracts: what FnFractionText asks of the program at a valid fraction's text. Conditions: the library's variables lie as laid. -/
import Derived.Test.YtggonihjnipobaaDoorSj
namespace Go.Proofs.YtggonihjnipobaaDoor
open Go.RowKit

theorem frac_bd {x y : Int} (h : fracB x y = true) : Bd x y := frac_bounds h
theorem impl_Parse_text_c (x y : Int) (hf : fracB x y = true) (w : World) (hg : Glob w) :
    Calls Tryd.prog 7 #[.string (fracText x y)] w fun e w' => e = .returned (.tuple #[.agg #[.int .i64 x, .int .i64 y], .bool true]) ∧ Below w.heap.size w w' := by
  have hz := text_small (frac_bd hf)
  refine (impl_ParseFraction_c (fracText x y) (by omega) w hg).mono ?_
  rintro e w' ⟨hb, ⟨x', y', rfl, h1, h2⟩ | ⟨rfl, hn⟩⟩
  · obtain ⟨rfl, rfl⟩ := fracText_inj h1 hf h2
    exact ⟨rfl, hb⟩
  · exact absurd rfl (hn x y hf)
theorem impl_Fractional_ok (x y : Int) (hf : fracB x y = true) (w : World) :
    Calls Tryd.prog 14 #[.int .i64 x, .int .i64 y] w fun e w' => e = .returned (.tuple #[.agg #[.int .i64 x, .int .i64 y], .bool true]) ∧ Below w.heap.size w w' := by
  obtain ⟨hx, hy, _⟩ := fracB_iff.1 hf
  obtain ⟨e1, e2, e3⟩ := lowB_of (a := x) (b := y) (x := x) (y := y) (by omega) hf rfl
  have e4 : nalB x y = true := by
    simp only [nalB, Bool.and_eq_true, Bool.not_eq_true', e3, and_true]
    refine ⟨by simp [partB]; omega, by simp [partB]; omega, by simp; omega⟩
  have := impl_Fractional_c x y w
  rw [e4, e1, e2] at this
  exact this
theorem parse_text (t : ByteArray) (ht : t.size ≤ 1048576) : ∃ X Y B, (∀ w, Glob w → Calls Tryd.prog 7 #[.string t] w fun e w' => e = .returned (.tuple #[.agg #[.int .i64 X, .int .i64 Y], .bool B]) ∧ Below w.heap.size w w') ∧
    (∀ w, Calls Tryd.prog 6 #[.string t] w fun e w' => e = .returned (.tuple #[.agg #[.int .i64 X, .int .i64 Y], .bool B]) ∧ Below w.heap.size w w') ∧ (B = true → formText X Y = t) := by
  obtain ⟨X, Y, B, h1, h2⟩ := parse_one t
  refine ⟨X, Y, B, fun w hg => (impl_ParseFraction_c t ht w hg).mono (h1 w), fun w => (spec_ParseFraction_c t ht w).mono (h1 w), fun hB => ?_⟩
  obtain ⟨h3, h4⟩ := h2 hB
  rw [formText, if_pos h3]
  exact h4
theorem bytes_some {s : ByteArray} (h : 1 ≤ s.size) : (s.toList == ([] : List UInt8)) = false := by
  rw [ByteArray.toList_eq, beq_eq_false_iff_ne]
  intro e
  have : s.data.toList.length = 0 := by rw [e]; rfl
  simp at this
  simp [ByteArray.size, this] at h
theorem QB.free {w W : World} {b : Nat} {x y : Int} (h : QB w W b x y) (o : Obj) : QB w (W.alloc o) b x y := h.step ((Below.refl _ _).alloc (Nat.le_refl _) _)
end Go.Proofs.YtggonihjnipobaaDoor
