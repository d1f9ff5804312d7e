/- FnExactFractionValid: for every input that can be read, the law returns true and its arguments read afterwards as before. Conditions: none. -/
import Derived.Test.YtkgbnagbeoeijaaMem
import Derived.Test.YtkgbnagbeoeijaaSigns
import Derived.Test.YtkgbnagbeoeijaaPlainB
import Derived.Test.YtkgbnagbeoeijaaWm
import Derived.Test.YtkgbnagbeoeijaaWc
import Derived.Test.YtkgbnagbeoeijaaWe
import Derived.Test.YtkgbnagbeoeijaaWf
namespace Go.Proofs.Ytkgbnagbeoeijaa.fnExactFractionValid
open Go.ChangeShapes Go.WideShapes Go.ChangeAt Go.RowKit
open Go.ChangeMaps (open_string shut_string)
set_option linter.unusedVariables false

theorem walk (x0 y0 : Int) (w : World) (wx0 : Fits x0) (wy0 : Fits y0) :
    Calls Try.prog 3 #[.agg #[.int .i64 x0, .int .i64 y0]] w fun e w' => e = .returned (.bool true) ∧ Below w.heap.size w w' := by
  obtain ⟨B, hB⟩ : ∃ B, B = fracB x0 y0 := ⟨_, rfl⟩
  have HB := Lib.hid hB
  clear hB
  go_enter Try.func3, Try.ntmps3
  go_wp2_with fail
  refine (toFraction_c _ _ _).mono ?_
  rintro e w1 ⟨rfl, hb⟩
  have hA : Below w.heap.size w w1 := ((Below.refl _ _).alloc (Nat.le_refl _) _).trans (hb.mono (by simp <;> omega))
  have a0 : w1.cell? ⟨w.heap.size, 0, none⟩ = some (.int .i64 x0) := (hb.cell (by simp <;> omega)).trans (by go_simp)
  have a1 : w1.cell? ⟨w.heap.size, 1, none⟩ = some (.int .i64 y0) := (hb.cell (by simp <;> omega)).trans (by go_simp)
  have hs : w.heap.size < w1.heap.size := by have := hb.size; simp at this; omega
  have HA := Lib.hid hA
  clear hb hA
  go_wp2_with fail
  refine (spec_FractionValid_c _ _ _).mono ?_
  rintro e w2 ⟨rfl, hb⟩
  replace a0 := (hb.cell (by show w.heap.size < _; omega)).trans a0
  replace a1 := (hb.cell (by show w.heap.size < _; omega)).trans a1
  have hA := HA.out.trans (hb.mono (by omega))
  have hs2 : w.heap.size < w2.heap.size := by have := hb.size; omega
  have HA2 := Lib.hid hA
  rw [← HB.out]
  clear hb hA HA hs
  go_wp2_with fail
  refine (toFraction_c _ _ _).mono ?_
  rintro e w3 ⟨rfl, hb⟩
  have hA := HA2.out.trans (hb.mono (by omega))
  have hs3 : w.heap.size < w3.heap.size := by have := hb.size; omega
  have HA3 := Lib.hid hA
  clear hb hA HA2 a0 a1
  go_wp2_with fail
  refine (impl_FractionValid_c _ _ _).mono ?_
  rintro e w4 ⟨rfl, hb⟩
  have hA := HA3.out.trans (hb.mono (by omega))
  have HA4 := Lib.hid hA
  rw [← HB.out]
  clear hb hA HA3 hs3
  go_wp2_with fail
  go_ret
  exact ⟨rfl, HA4.out⟩

set_option maxRecDepth 100000 in
theorem lifted (os : Os) (started : os.Started) (H : Type) (enc : TypeId × Value → H) :
    ReturnsInHanded {} Try.checked os 3 .any (Rows.fnExactFractionValidSpec.pre6 enc Try.prog Try.f3 Rows.fnExactFractionValidRow.domain false) (Rows.fnExactFractionValidSpec.post enc Try.prog Try.f3 false true false false) := by
  refine returnsInHanded_of_change (C := Try.checked) own started (by kernel_rfl) Try.func3
    (ChangeSpec.witness6 (enc := enc) (C := Try.checked) false ⟨#[], #[.agg #[.int .i64 0, .int .i64 0]], []⟩ 8 (by kernel_rfl) (by kernel_rfl) (by kernel_rfl) (by kernel_rfl)) ?_
  intro W base args ds gs before hval0 hW hcnd _
  have hval : ∀ (j : Nat) t v, Try.f3.params[j]? = some t → args[j]? = some v → Value.okWide Try.prog W .any base t v := hval0
  have hW' := hW
  obtain ⟨p, q, hA0, hV, rfl, hfz, hnd⟩ := hW
  have hA : DataW.TrodAll enc Try.prog W 0 (fun _ => true) true Try.f3.params.toList args.toList ds p := hA0
  rw [Try.params3] at hA hval
  obtain ⟨v0, vs0, d0, ds0, p0, q0, hargs, rfl, rfl, h0, r0⟩ := trodAll_cons hA
  obtain ⟨rfl, rfl, rfl⟩ := trodAll_nil r0
  obtain rfl : args = #[v0] := by cases args; simp_all
  obtain ⟨rfl, rfl⟩ := trodVars_none hV
  have k0 := h0
  have lt0 : ∀ x ∈ p0, x.block < W.heap.size := by obtain ⟨m, hm⟩ := k0; exact DataW.trod_lt m _ _ _ hm
  obtain ⟨x0, y0, rfl, wx0, wy0⟩ := get_frac Try.underlying23 (by kernel_rfl) (by kernel_rfl) Try.underlying3 (hval 0 23 v0 rfl rfl) h0
  clear hA0 hval0
  refine (walk x0 y0 W wx0 wy0).mono fun e W' ⟨he, bel⟩ => ?_
  subst he
  exact ⟨_, rfl, _, _, _, [], _, [], hW', trodAll_mk1 (shut_bool Try.underlying4 _), (trodAll_cons_mk (Below.trod laidOut (by kernel_rfl) (of_decide_eq_true (by kernel_rfl)) k0 bel lt0) trodAll_mk0), rfl, bel.frame _, fun h => by cases h⟩

theorem closed : joinedFacts Try.prog 3 Try.f3 Rows.fnExactFractionValidSpec Rows.fnExactFractionValidRow = true := by
  rw [joinedFacts.eq_1]
  simp only [Bool.and_eq_true]
  repeat' apply And.intro
  all_goals first | (with_reducible exact fact_enter) | (with_reducible exact laidOut) | (with_reducible exact fact_maps) | (with_reducible exact fact_heard) | (rw [fact_lifts]; try (as_aux_lemma => kernel_rfl)) | (rw [fact_make]; try (as_aux_lemma => kernel_rfl)) | (rw [fact_keys]; try (as_aux_lemma => kernel_rfl)) | (as_aux_lemma => kernel_rfl)

theorem holds : Rows.FnExactFractionValidSaid :=
  OpenClaim.holds_of_wide 3 Try.f3 rfl rfl rfl rfl rfl rfl rfl ⟨rfl, rfl, rfl, rfl, rfl⟩ rfl rfl rfl rfl rfl (by kernel_rfl) Try.func3 closed
    (of_decide_eq_true (by kernel_rfl)) (by unfold Func.isWrapper; rw [if_neg (of_decide_eq_false (by kernel_rfl))]; exact ⟨rfl, rfl⟩)
    (fun os started H enc _ => lifted os started H enc)
#print axioms holds
end Go.Proofs.Ytkgbnagbeoeijaa.fnExactFractionValid
