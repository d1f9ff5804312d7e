/- FnExactFractional: for every input that can be read, the law returns true and its arguments read afterwards as before. Conditions: none. -/
import Derived.Test.YtkgbnagbeoeijaaMem
import Derived.Test.YtkgbnagbeoeijaaSigns
import Derived.Test.YtkgbnagbeoeijaaPlainB
import Derived.Test.YtkgbnagbeoeijaaWm
import Derived.Test.YtkgbnagbeoeijaaWc
import Derived.Test.YtkgbnagbeoeijaaWe
import Derived.Test.YtkgbnagbeoeijaaWf
namespace Go.Proofs.Ytkgbnagbeoeijaa.fnExactFractional
open Go.ChangeShapes Go.WideShapes Go.ChangeAt Go.RowKit
open Go.ChangeMaps (open_string shut_string)
set_option linter.unusedVariables false

theorem walk (a0 : Int) (a1 : Int) (w : World) (w0 : Fits a0) (w1 : Fits a1) :
    Calls Try.prog 7 #[.int .i64 a0, .int .i64 a1] w fun e w' => e = .returned (.bool true) ∧ Below w.heap.size w w' := by
  obtain ⟨X, hX⟩ : ∃ X, X = sel (nalB a0 a1) (lowX a0 a1) := ⟨_, rfl⟩
  obtain ⟨Y, hY⟩ : ∃ Y, Y = sel (nalB a0 a1) (lowY a0 a1) := ⟨_, rfl⟩
  obtain ⟨B, hB⟩ : ∃ B, B = nalB a0 a1 := ⟨_, rfl⟩
  have HX := Lib.hid hX
  have HY := Lib.hid hY
  have HB := Lib.hid hB
  clear hX hY hB
  go_enter Try.func7, Try.ntmps7
  go_wp2_with fail
  refine (spec_Fractional_c _ _ _).mono ?_
  rintro e w1 ⟨rfl, hb⟩
  have HA := Lib.hid hb
  have hs := hb.size
  rw [← HX.out, ← HY.out, ← HB.out]
  clear hb
  go_wp2_with fail
  refine (impl_Fractional_c _ _ _).mono ?_
  rintro e w2 ⟨rfl, hb⟩
  have b0 : w2.cell? ⟨w1.heap.size, 0, none⟩ = some (.int .i64 X) := (hb.cell (by simp <;> omega)).trans (by go_simp)
  have b1 : w2.cell? ⟨w1.heap.size, 1, none⟩ = some (.int .i64 Y) := (hb.cell (by simp <;> omega)).trans (by go_simp)
  have hs3 : w1.heap.size < w2.heap.size := by have := hb.size; simp at this; omega
  have hA := (HA.out.alloc (by omega) (.cells #[.int .i64 X, .int .i64 Y] 25)).trans (hb.mono (by simp <;> omega))
  have HA2 := Lib.hid hA
  rw [← HX.out, ← HY.out, ← HB.out]
  clear hb hA HA
  go_wp2_with fail
  refine (eqFraction_c _ _ _).mono ?_
  rintro e w5 ⟨rfl, hb⟩
  have hA := (HA2.out.alloc (by omega) (.cells #[.int .i64 X, .int .i64 Y] 25)).trans (hb.mono (by simp <;> omega))
  have HA5 := Lib.hid hA
  clear hb hA HA2 b0 b1
  go_wp2_with fail
  go_ret
  exact ⟨rfl, HA5.out⟩

set_option maxRecDepth 100000 in
theorem lifted (os : Os) (started : os.Started) (H : Type) (enc : TypeId × Value → H) :
    ReturnsInHanded {} Try.checked os 7 .any (Rows.fnExactFractionalSpec.pre6 enc Try.prog Try.f7 Rows.fnExactFractionalRow.domain false) (Rows.fnExactFractionalSpec.post enc Try.prog Try.f7 false true false false) := by
  refine returnsInHanded_of_change (C := Try.checked) own started (by kernel_rfl) Try.func7
    (ChangeSpec.witness6 (enc := enc) (C := Try.checked) false ⟨#[], #[.int .i64 0, .int .i64 0], []⟩ 8 (by kernel_rfl) (by kernel_rfl) (by kernel_rfl) (by kernel_rfl)) ?_
  intro W base args ds gs before hval0 hW hcnd _
  have hval : ∀ (j : Nat) t v, Try.f7.params[j]? = some t → args[j]? = some v → Value.okWide Try.prog W .any base t v := hval0
  have hW' := hW
  obtain ⟨p, q, hA0, hV, rfl, hfz, hnd⟩ := hW
  have hA : DataW.TrodAll enc Try.prog W 0 (fun _ => true) true Try.f7.params.toList args.toList ds p := hA0
  rw [Try.params7] at hA hval
  obtain ⟨v0, vs0, d0, ds0, p0, q0, hargs, rfl, rfl, h0, r0⟩ := trodAll_cons hA
  obtain ⟨v1, vs1, d1, ds1, p1, q1, rfl, rfl, rfl, h1, r1⟩ := trodAll_cons r0
  obtain ⟨rfl, rfl, rfl⟩ := trodAll_nil r1
  obtain rfl : args = #[v0, v1] := by cases args; simp_all
  obtain ⟨rfl, rfl⟩ := trodVars_none hV
  have k0 := h0
  have lt0 : ∀ x ∈ p0, x.block < W.heap.size := by obtain ⟨m, hm⟩ := k0; exact DataW.trod_lt m _ _ _ hm
  obtain ⟨a0, rfl, w0⟩ := get_int Try.underlying3 (hval 0 3 v0 rfl rfl) h0
  have k1 := h1
  have lt1 : ∀ x ∈ p1, x.block < W.heap.size := by obtain ⟨m, hm⟩ := k1; exact DataW.trod_lt m _ _ _ hm
  obtain ⟨a1, rfl, w1⟩ := get_int Try.underlying3 (hval 1 3 v1 rfl rfl) h1
  clear hA0 hval0
  refine (walk a0 a1 W w0 w1).mono fun e W' ⟨he, bel⟩ => ?_
  subst he
  exact ⟨_, rfl, _, _, _, [], _, [], hW', trodAll_mk1 (shut_bool Try.underlying4 _), (trodAll_cons_mk (Below.trod laidOut (by kernel_rfl) (of_decide_eq_true (by kernel_rfl)) k0 bel lt0) (trodAll_cons_mk (Below.trod laidOut (by kernel_rfl) (of_decide_eq_true (by kernel_rfl)) k1 bel lt1) trodAll_mk0)), rfl, bel.frame _, fun h => by cases h⟩

theorem closed : joinedFacts Try.prog 7 Try.f7 Rows.fnExactFractionalSpec Rows.fnExactFractionalRow = true := by
  rw [joinedFacts.eq_1]
  simp only [Bool.and_eq_true]
  repeat' apply And.intro
  all_goals first | (with_reducible exact fact_enter) | (with_reducible exact laidOut) | (with_reducible exact fact_maps) | (with_reducible exact fact_heard) | (rw [fact_lifts]; try (as_aux_lemma => kernel_rfl)) | (rw [fact_make]; try (as_aux_lemma => kernel_rfl)) | (rw [fact_keys]; try (as_aux_lemma => kernel_rfl)) | (as_aux_lemma => kernel_rfl)

theorem holds : Rows.FnExactFractionalSaid :=
  OpenClaim.holds_of_wide 7 Try.f7 rfl rfl rfl rfl rfl rfl rfl ⟨rfl, rfl, rfl, rfl, rfl⟩ rfl rfl rfl rfl rfl (by kernel_rfl) Try.func7 closed
    (of_decide_eq_true (by kernel_rfl)) (by unfold Func.isWrapper; rw [if_neg (of_decide_eq_false (by kernel_rfl))]; exact ⟨rfl, rfl⟩)
    (fun os started H enc _ => lifted os started H enc)
#print axioms holds
end Go.Proofs.Ytkgbnagbeoeijaa.fnExactFractional
