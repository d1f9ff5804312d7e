/- FnExactGreatestDivisor: for every input that can be read, the law returns true and its arguments read afterwards as before. Conditions: none. -/
import Derived.Test.YtkgbnagbeoeijaaMem
import Derived.Test.YtkgbnagbeoeijaaSigns
import Derived.Test.YtkgbnagbeoeijaaPlainB
import Derived.Test.YtkgbnagbeoeijaaWm
import Derived.Test.YtkgbnagbeoeijaaWc
import Derived.Test.YtkgbnagbeoeijaaWh
namespace Go.Proofs.Ytkgbnagbeoeijaa.fnExactGreatestDivisor
open Go.ChangeShapes Go.WideShapes Go.ChangeAt Go.RowKit
open Go.ChangeMaps (open_string shut_string)
set_option linter.unusedVariables false

theorem walk (a0 : Option Addr) (len0 cap0 : Nat) (z0 : List Int) (w : World) (w0 : IsRow .i64 w a0 len0 cap0 z0) :
    Calls Try.prog 6 #[.slice a0 len0 cap0] w fun e w' => e = .returned (.bool true) ∧ Below w.heap.size w w' := by
  obtain rfl : z0.length = len0 := w0.len
  have hfit : z0.length ≤ 9223372036854775807 := Nat.le_trans w0.2.1 w0.2.2.1
  by_cases hn : z0.length ≤ 1048576
  · have hn2 : (z0.length : Int) ≤ 1048576 := by omega
    obtain ⟨G, hG⟩ : ∃ G, G = divG z0 := ⟨_, rfl⟩
    have HG := Lib.hid hG
    have HN := Lib.hid hn
    have HW := Lib.hid w0
    clear hG
    go_enter Try.func6, Try.ntmps6
    go_wp2_with fail
    refine (toIntS_c _ _ _ z0 HN.out _ HW.out).mono ?_
    rintro e w1 ⟨v, rfl, own1, b1⟩
    obtain ⟨p1, c1, rfl, row1, _⟩ := own1.form
    have HA := Lib.hid b1
    have HW1 := Lib.hid (HW.out.below b1)
    clear own1 b1
    go_wp2_with fail
    refine (spec_GD_c _ _ _ z0 _ row1).mono ?_
    rintro e w2 ⟨rfl, m2, rfl⟩
    rw [← HG.out]
    have HA2 := Lib.hid (below_drewN HA.out m2)
    have HW2 := Lib.hid (HW1.out.drewN m2)
    clear row1
    generalize w1.drewN m2 = w2 at *
    go_wp2_with fail
    refine (toIntS_c _ _ _ z0 HN.out _ HW2.out).mono ?_
    rintro e w3 ⟨v, rfl, own3, b3⟩
    obtain ⟨p3, c3, rfl, row3, _⟩ := own3.form
    have HA3 := Lib.hid (HA2.out.trans (b3.mono HA2.out.size))
    have HW3 := Lib.hid (HW2.out.below b3)
    clear own3 b3
    go_wp2_with fail
    refine (impl_GD_c _ _ _ z0 _ row3).mono ?_
    rintro e w4 ⟨rfl, m4, rfl⟩
    rw [← HG.out]
    have HA4 := Lib.hid (below_drewN HA3.out m4)
    have HW4 := Lib.hid (HW3.out.drewN m4)
    have row4 := row3.drewN m4
    clear row3
    generalize w3.drewN m4 = w4 at *
    go_wp2_with fail
    refine (toIntS_c _ _ _ z0 HN.out _ HW4.out).mono ?_
    rintro e w5 ⟨v, rfl, own5, b5⟩
    obtain ⟨p5, c5, rfl, row5, _⟩ := own5.form
    have HA5 := Lib.hid (HA4.out.trans (b5.mono HA4.out.size))
    have row4b := row4.below b5
    clear own5 b5 row4
    go_wp2_with fail
    refine (eqIntS_c _ _ _ _ _ z0 _ row4b row5).mono ?_
    rintro e w6 ⟨rfl, m6, rfl⟩
    have HA6 := Lib.hid (below_drewN HA5.out m6)
    clear row4b row5
    go_wp2_with fail
    go_ret
    exact ⟨rfl, HA6.out⟩
  · have hn2 : 1048576 < (z0.length : Int) := by omega
    go_enter Try.func6, Try.ntmps6
    go_wp2_with fail
    go_ret
    exact ⟨rfl, Below.refl _ _⟩

set_option maxRecDepth 100000 in
theorem lifted (os : Os) (started : os.Started) (H : Type) (enc : TypeId × Value → H) :
    ReturnsInHanded {} Try.checked os 6 .any (Rows.fnExactGreatestDivisorSpec.pre6 enc Try.prog Try.f6 Rows.fnExactGreatestDivisorRow.domain false) (Rows.fnExactGreatestDivisorSpec.post enc Try.prog Try.f6 false true false false) := by
  refine returnsInHanded_of_change (C := Try.checked) own started (by kernel_rfl) Try.func6
    (ChangeSpec.witness6 (enc := enc) (C := Try.checked) false ⟨#[], #[.slice none 0 0], []⟩ 8 (by kernel_rfl) (by kernel_rfl) (by kernel_rfl) (by kernel_rfl)) ?_
  intro W base args ds gs before hval0 hW hcnd _
  have hval : ∀ (j : Nat) t v, Try.f6.params[j]? = some t → args[j]? = some v → Value.okWide Try.prog W .any base t v := hval0
  have hW' := hW
  obtain ⟨p, q, hA0, hV, rfl, hfz, hnd⟩ := hW
  have hA : DataW.TrodAll enc Try.prog W 0 (fun _ => true) true Try.f6.params.toList args.toList ds p := hA0
  rw [Try.params6] at hA hval
  obtain ⟨v0, vs0, d0, ds0, p0, q0, hargs, rfl, rfl, h0, r0⟩ := trodAll_cons hA
  obtain ⟨rfl, rfl, rfl⟩ := trodAll_nil r0
  obtain rfl : args = #[v0] := by cases args; simp_all
  obtain ⟨rfl, rfl⟩ := trodVars_none hV
  have k0 := h0
  have lt0 : ∀ x ∈ p0, x.block < W.heap.size := by obtain ⟨m, hm⟩ := k0; exact DataW.trod_lt m _ _ _ hm
  obtain ⟨a0, len0, cap0, z0, rfl, w0⟩ := get_row Try.underlying32 Try.underlying3 (by kernel_rfl) (hval 0 32 v0 rfl rfl) h0
  clear hA0 hval0
  refine (walk a0 len0 cap0 z0 W w0).mono fun e W' ⟨he, bel⟩ => ?_
  subst he
  exact ⟨_, rfl, _, _, _, [], _, [], hW', trodAll_mk1 (shut_bool Try.underlying4 _), (trodAll_cons_mk (Below.trod laidOut (by kernel_rfl) (of_decide_eq_true (by kernel_rfl)) k0 bel lt0) trodAll_mk0), rfl, bel.frame _, fun h => by cases h⟩

theorem closed : joinedFacts Try.prog 6 Try.f6 Rows.fnExactGreatestDivisorSpec Rows.fnExactGreatestDivisorRow = true := by
  rw [joinedFacts.eq_1]
  simp only [Bool.and_eq_true]
  repeat' apply And.intro
  all_goals first | (with_reducible exact fact_enter) | (with_reducible exact laidOut) | (with_reducible exact fact_maps) | (with_reducible exact fact_heard) | (rw [fact_lifts]; try (as_aux_lemma => kernel_rfl)) | (rw [fact_make]; try (as_aux_lemma => kernel_rfl)) | (rw [fact_keys]; try (as_aux_lemma => kernel_rfl)) | (as_aux_lemma => kernel_rfl)

theorem holds : Rows.FnExactGreatestDivisorSaid :=
  OpenClaim.holds_of_wide 6 Try.f6 rfl rfl rfl rfl rfl rfl rfl ⟨rfl, rfl, rfl, rfl, rfl⟩ rfl rfl rfl rfl rfl (by kernel_rfl) Try.func6 closed
    (of_decide_eq_true (by kernel_rfl)) (by unfold Func.isWrapper; rw [if_neg (of_decide_eq_false (by kernel_rfl))]; exact ⟨rfl, rfl⟩)
    (fun os started H enc _ => lifted os started H enc)
#print axioms holds
end Go.Proofs.Ytkgbnagbeoeijaa.fnExactGreatestDivisor
