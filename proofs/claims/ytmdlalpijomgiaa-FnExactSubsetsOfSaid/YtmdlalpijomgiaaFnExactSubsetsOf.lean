/- FnExactSubsetsOf: for every input that can be read, the law returns true and its arguments read afterwards as before. Conditions: none. -/
import Derived.Test.YtmdlalpijomgiaaMem
import Derived.Test.YtmdlalpijomgiaaSigns
import Derived.Test.YtmdlalpijomgiaaPlainA
import Derived.Test.YtmdlalpijomgiaaWa
import Derived.Test.YtmdlalpijomgiaaWm
import Derived.Test.YtmdlalpijomgiaaWb
namespace Go.Proofs.Ytmdlalpijomgiaa.fnExactSubsetsOf
open Go.ChangeShapes Go.WideShapes Go.ChangeAt Go.RowKit
open Go.ChangeMaps (open_string shut_string)
set_option linter.unusedVariables false

theorem walk (a0 : Int) (w : World) (w0 : Fits a0) :
    Calls Try.prog 10 #[.int .i64 a0] w fun e w' => e = .returned (.bool true) ∧ Below w.heap.size w w' := by
  have hl : (sbs a0).length ≤ 16 := by
    unfold sbs
    split
    · rename_i h
      have := setB4_iff.1 h
      exact Nat.le_trans (subs_len _ _) (by omega)
    · simp
  go_enter Try.func10, Try.ntmps10
  go_wp2_with fail
  refine (ret_own (spec_SubsetsOf_c a0 _)).mono ?_
  rintro e w1 ⟨p0, c0, rfl, own0, b1⟩
  go_wp2_with fail
  refine (ret_own (impl_SubsetsOf_c a0 _)).mono ?_
  rintro e w2 ⟨p1, c1, rfl, own1, b2⟩
  have hne := own_ne own0 own1 (Nat.le_refl _)
  have own0b := own0.below b2 (fun g hg => (own0.lt g hg).2)
  have hb2 : Below w.heap.size w w2 := b1.trans (b2.mono b1.size)
  have hlt1 : ∀ k, (Value.slice p1 (sbs a0).length c1).ownBlock = some k → w.heap.size ≤ k := fun k hk => Nat.le_trans b1.size (own1.lt k hk).1
  clear own0 b1 b2
  go_wp2_with fail
  refine (eqIntS_c _ _ _ _ _ _ _ own1.row own0b.row).mono ?_
  rintro e w3 ⟨rfl, m3, rfl⟩
  replace own1 := own1.drewN m3
  replace own0b := own0b.drewN m3
  replace hb2 := below_drewN hb2 m3
  generalize w2.drewN m3 = w3 at *
  go_wp2_with fail
  refine (markIntS_c _ _ _ _ _ 1 (by omega) (by omega) _ rfl own1).mono ?_
  rintro e w4 ⟨rfl, own1m, hg⟩
  replace own0b := own0b.grown hg hne
  have hb4 := hb2.grown hg hb2.size hlt1
  have own1r : IsRow .i64 w4 p1 (sbs a0).length c1 (marks 1 (sbs a0).length) := by
    have := own1m
    have hml := marks_len 1 (sbs a0).length
    generalize marks 1 (sbs a0).length = ms at *
    rw [← hml] at this ⊢
    exact this.row
  clear own1 hb2 hg
  go_wp2_with fail
  refine (heldIntS_c _ _ _ 1 (by omega) (by omega) _ own1r).mono ?_
  rintro e w5 ⟨rfl, rfl⟩
  go_wp2_with fail
  refine (ret_own (impl_SubsetsOf_c a0 _)).mono ?_
  rintro e w5 ⟨p2, c2, rfl, own2, b5⟩
  have own0c := own0b.below b5 (fun g hg => (own0b.lt g hg).2)
  have own1s : IsRow .i64 w5 p1 (sbs a0).length c1 (marks 1 (sbs a0).length) := own1r.below b5
  have hb5 : Below w.heap.size w w5 := hb4.trans (b5.mono hb4.size)
  clear own0b own1r b5 hb4 own1m
  go_wp2_with fail
  refine (eqIntS_c _ _ _ _ _ _ _ own2.row own0c.row).mono ?_
  rintro e w6 ⟨rfl, m6, rfl⟩
  replace own1s := own1s.drewN m6
  replace hb5 := below_drewN hb5 m6
  go_wp2_with fail
  refine (heldIntS_c _ _ _ 1 (by omega) (by omega) _ own1s).mono ?_
  rintro e w7 ⟨rfl, rfl⟩
  go_wp2_with fail
  go_ret
  exact ⟨rfl, hb5⟩

set_option maxRecDepth 100000 in
theorem lifted (os : Os) (started : os.Started) (H : Type) (enc : TypeId × Value → H) :
    ReturnsInHanded {} Try.checked os 10 .any (Rows.fnExactSubsetsOfSpec.pre6 enc Try.prog Try.f10 Rows.fnExactSubsetsOfRow.domain false) (Rows.fnExactSubsetsOfSpec.post enc Try.prog Try.f10 false true false false) := by
  refine returnsInHanded_of_change (C := Try.checked) own started (by kernel_rfl) Try.func10
    (ChangeSpec.witness6 (enc := enc) (C := Try.checked) false ⟨#[], #[.int .i64 0], []⟩ 8 (by kernel_rfl) (by kernel_rfl) (by kernel_rfl) (by kernel_rfl)) ?_
  intro W base args ds gs before hval0 hW hcnd _
  have hval : ∀ (j : Nat) t v, Try.f10.params[j]? = some t → args[j]? = some v → Value.okWide Try.prog W .any base t v := hval0
  have hW' := hW
  obtain ⟨p, q, hA0, hV, rfl, hfz, hnd⟩ := hW
  have hA : DataW.TrodAll enc Try.prog W 0 (fun _ => true) true Try.f10.params.toList args.toList ds p := hA0
  rw [Try.params10] at hA hval
  obtain ⟨v0, vs0, d0, ds0, p0, q0, hargs, rfl, rfl, h0, r0⟩ := trodAll_cons hA
  obtain ⟨rfl, rfl, rfl⟩ := trodAll_nil r0
  obtain rfl : args = #[v0] := by cases args; simp_all
  obtain ⟨rfl, rfl⟩ := trodVars_none hV
  have k0 := h0
  have lt0 : ∀ x ∈ p0, x.block < W.heap.size := by obtain ⟨m, hm⟩ := k0; exact DataW.trod_lt m _ _ _ hm
  obtain ⟨a0, rfl, w0⟩ := get_int Try.underlying3 (hval 0 3 v0 rfl rfl) h0
  clear hA0 hval0
  refine (walk a0 W w0).mono fun e W' ⟨he, bel⟩ => ?_
  subst he
  exact ⟨_, rfl, _, _, _, [], _, [], hW', trodAll_mk1 (shut_bool Try.underlying4 _), (trodAll_cons_mk (Below.trod laidOut (by kernel_rfl) (of_decide_eq_true (by kernel_rfl)) k0 bel lt0) trodAll_mk0), rfl, bel.frame _, fun h => by cases h⟩

theorem closed : joinedFacts Try.prog 10 Try.f10 Rows.fnExactSubsetsOfSpec Rows.fnExactSubsetsOfRow = true := by
  rw [joinedFacts.eq_1]
  simp only [Bool.and_eq_true]
  repeat' apply And.intro
  all_goals first | (with_reducible exact fact_enter) | (with_reducible exact laidOut) | (with_reducible exact fact_maps) | (with_reducible exact fact_heard) | (rw [fact_lifts]; try (as_aux_lemma => kernel_rfl)) | (rw [fact_make]; try (as_aux_lemma => kernel_rfl)) | (rw [fact_keys]; try (as_aux_lemma => kernel_rfl)) | (as_aux_lemma => kernel_rfl)

theorem holds : Rows.FnExactSubsetsOfSaid :=
  OpenClaim.holds_of_wide 10 Try.f10 rfl rfl rfl rfl rfl rfl rfl ⟨rfl, rfl, rfl, rfl, rfl⟩ rfl rfl rfl rfl rfl (by kernel_rfl) Try.func10 closed
    (of_decide_eq_true (by kernel_rfl)) (by unfold Func.isWrapper; rw [if_neg (of_decide_eq_false (by kernel_rfl))]; exact ⟨rfl, rfl⟩)
    (fun os started H enc _ => lifted os started H enc)
#print axioms holds
end Go.Proofs.Ytmdlalpijomgiaa.fnExactSubsetsOf
