/- FnExactParseSet: for every input that can be read, the law returns true and its arguments read afterwards as before. Conditions: none. -/
import Derived.Test.YtmdlalpijomgiaaMem
import Derived.Test.YtmdlalpijomgiaaSigns
import Derived.Test.YtmdlalpijomgiaaPlainA
import Derived.Test.YtmdlalpijomgiaaWa
import Derived.Test.YtmdlalpijomgiaaWm
import Derived.Test.YtmdlalpijomgiaaWb
namespace Go.Proofs.Ytmdlalpijomgiaa.fnExactParseSet
open Go.ChangeShapes Go.WideShapes Go.ChangeAt Go.RowKit
open Go.ChangeMaps (open_string shut_string)
set_option linter.unusedVariables false

theorem walk (a0 : ByteArray) (w : World) (w0 : a0.size ≤ maxLen) :
    Calls Try.prog 9 #[.string a0] w fun e w' => e = .returned (.bool true) ∧ Below w.heap.size w w' := by
  by_cases hl : a0.size ≤ 1048576
  · have hl' : ¬ ((a0.size : Int) > 1048576) := by omega
    go_enter Try.func9, Try.ntmps9
    go_wp2_with fail
    refine (spec_ParseSet_c a0 _).mono ?_
    rintro e w1 ⟨rfl, h1⟩
    rcases h1 with ⟨a, ha, ea, na, rfl⟩ | ⟨na, rfl⟩
    · go_wp2_with fail
      refine (impl_ParseSet_c a0 _).mono ?_
      rintro e w2 ⟨rfl, h2⟩
      rcases h2 with ⟨b, hb, eb, nb, rfl⟩ | ⟨nb, rfl⟩
      · have hab : a = b := by
          rcases Nat.lt_trichotomy a b with h | h | h
          · exact absurd ea (nb a h)
          · exact h
          · exact absurd eb (na b h)
        subst hab
        clear ea eb na nb
        go_wp2
        go_ret
        exact ⟨rfl, Below.refl _ _⟩
      · exact absurd ea (nb a (by omega))
    · go_wp2_with fail
      refine (impl_ParseSet_c a0 _).mono ?_
      rintro e w2 ⟨rfl, h2⟩
      rcases h2 with ⟨b, hb, eb, nb, rfl⟩ | ⟨nb, rfl⟩
      · exact absurd eb (na b (by omega))
      · clear na nb
        go_wp2
        go_ret
        exact ⟨rfl, Below.refl _ _⟩
  · have hl' : ((a0.size : Int) > 1048576) := by omega
    go_enter Try.func9, Try.ntmps9
    go_wp2
    go_ret
    exact ⟨rfl, Below.refl _ _⟩

set_option maxRecDepth 100000 in
theorem lifted (os : Os) (started : os.Started) (H : Type) (enc : TypeId × Value → H) :
    ReturnsInHanded {} Try.checked os 9 .any (Rows.fnExactParseSetSpec.pre6 enc Try.prog Try.f9 Rows.fnExactParseSetRow.domain false) (Rows.fnExactParseSetSpec.post enc Try.prog Try.f9 false true false false) := by
  refine returnsInHanded_of_change (C := Try.checked) own started (by kernel_rfl) Try.func9
    (ChangeSpec.witness6 (enc := enc) (C := Try.checked) false ⟨#[], #[.string ByteArray.empty], []⟩ 8 (by kernel_rfl) (by kernel_rfl) (by kernel_rfl) (by kernel_rfl)) ?_
  intro W base args ds gs before hval0 hW hcnd _
  have hval : ∀ (j : Nat) t v, Try.f9.params[j]? = some t → args[j]? = some v → Value.okWide Try.prog W .any base t v := hval0
  have hW' := hW
  obtain ⟨p, q, hA0, hV, rfl, hfz, hnd⟩ := hW
  have hA : DataW.TrodAll enc Try.prog W 0 (fun _ => true) true Try.f9.params.toList args.toList ds p := hA0
  rw [Try.params9] at hA hval
  obtain ⟨v0, vs0, d0, ds0, p0, q0, hargs, rfl, rfl, h0, r0⟩ := trodAll_cons hA
  obtain ⟨rfl, rfl, rfl⟩ := trodAll_nil r0
  obtain rfl : args = #[v0] := by cases args; simp_all
  obtain ⟨rfl, rfl⟩ := trodVars_none hV
  have k0 := h0
  have lt0 : ∀ x ∈ p0, x.block < W.heap.size := by obtain ⟨m, hm⟩ := k0; exact DataW.trod_lt m _ _ _ hm
  obtain ⟨a0, rfl, w0⟩ := get_string Try.underlying9 (hval 0 9 v0 rfl rfl) h0
  clear hA0 hval0
  refine (walk a0 W w0).mono fun e W' ⟨he, bel⟩ => ?_
  subst he
  exact ⟨_, rfl, _, _, _, [], _, [], hW', trodAll_mk1 (shut_bool Try.underlying4 _), (trodAll_cons_mk (Below.trod laidOut (by kernel_rfl) (of_decide_eq_true (by kernel_rfl)) k0 bel lt0) trodAll_mk0), rfl, bel.frame _, fun h => by cases h⟩

theorem closed : joinedFacts Try.prog 9 Try.f9 Rows.fnExactParseSetSpec Rows.fnExactParseSetRow = true := by
  rw [joinedFacts.eq_1]
  simp only [Bool.and_eq_true]
  repeat' apply And.intro
  all_goals first | (with_reducible exact fact_enter) | (with_reducible exact laidOut) | (with_reducible exact fact_maps) | (with_reducible exact fact_heard) | (rw [fact_lifts]; try (as_aux_lemma => kernel_rfl)) | (rw [fact_make]; try (as_aux_lemma => kernel_rfl)) | (rw [fact_keys]; try (as_aux_lemma => kernel_rfl)) | (as_aux_lemma => kernel_rfl)

theorem holds : Rows.FnExactParseSetSaid :=
  OpenClaim.holds_of_wide 9 Try.f9 rfl rfl rfl rfl rfl rfl rfl ⟨rfl, rfl, rfl, rfl, rfl⟩ rfl rfl rfl rfl rfl (by kernel_rfl) Try.func9 closed
    (of_decide_eq_true (by kernel_rfl)) (by unfold Func.isWrapper; rw [if_neg (of_decide_eq_false (by kernel_rfl))]; exact ⟨rfl, rfl⟩)
    (fun os started H enc _ => lifted os started H enc)
#print axioms holds
end Go.Proofs.Ytmdlalpijomgiaa.fnExactParseSet
