/- FnExactMoveSet: for every input that can be read, the law returns true and its arguments read afterwards as before. Conditions: none. -/
import Derived.Test.YtmdlalpijomgiaaMem
import Derived.Test.YtmdlalpijomgiaaSigns
import Derived.Test.YtmdlalpijomgiaaPlainA
import Derived.Test.YtmdlalpijomgiaaPlainC
import Derived.Test.YtmdlalpijomgiaaWa
import Derived.Test.YtmdlalpijomgiaaWm
import Derived.Test.YtmdlalpijomgiaaWd
import Derived.Test.YtmdlalpijomgiaaWr
import Derived.Test.YtmdlalpijomgiaaWs
import Derived.Test.YtmdlalpijomgiaaWv
namespace Go.Proofs.Ytmdlalpijomgiaa.fnExactMoveSet
open Go.ChangeShapes Go.WideShapes Go.ChangeAt Go.RowKit
open Go.ChangeMaps (open_string shut_string)
set_option linter.unusedVariables false

set_option maxHeartbeats 4000000 in
theorem walk (a0 : Int) (a1 : Int) (a2 : Option Addr) (len2 cap2 : Nat) (z2 : List Int) (w : World) (w0 : Fits a0) (w1 : Fits a1) (w2 : IsRow .i64 w a2 len2 cap2 z2) :
    Calls Try.prog 13 #[.int .i64 a0, .int .i64 a1, .slice a2 len2 cap2] w fun e w' => e = .returned (.bool true) ∧ Below w.heap.size w w' := by
  obtain rfl : z2.length = len2 := w2.len
  have hfit : z2.length ≤ 9223372036854775807 := Nat.le_trans w2.2.1 w2.2.2.1
  by_cases hn : z2.length ≤ 1048576
  · have hn2 : (z2.length : Int) ≤ 1048576 := by omega
    obtain ⟨I, hI⟩ : ∃ I, I = movI a0 a1 z2.length z2 := ⟨_, rfl⟩
    obtain ⟨B, hB⟩ : ∃ B, B = movB a0 a1 z2.length z2 := ⟨_, rfl⟩
    have HI := Lib.hid hI
    have HB := Lib.hid hB
    have HN := Lib.hid hn
    have HW := Lib.hid w2
    clear hI hB
    go_enter Try.func13, Try.ntmps13
    go_wp2_with fail
    refine (toIntS_c _ _ _ z2 HN.out _ HW.out).mono ?_
    rintro e x1 ⟨v, rfl, own1, b1⟩
    obtain ⟨p1, c1, rfl, row1, _⟩ := own1.form
    have HA := Lib.hid b1
    have HW1 := Lib.hid (HW.out.below b1)
    clear own1 b1
    go_wp2_with fail
    refine (spec_MoveSet_c _ _ _ _ _ z2 _ row1).mono ?_
    rintro e x2 ⟨rfl, rfl⟩
    rw [← HI.out, ← HB.out]
    clear row1
    go_wp2_with fail
    refine (toIntS_c _ _ _ z2 HN.out _ HW1.out).mono ?_
    rintro e x3 ⟨v, rfl, own3, b3⟩
    obtain ⟨p3, c3, rfl, row3, _⟩ := own3.form
    have HA3 := Lib.hid (HA.out.trans (b3.mono HA.out.size))
    have HW3 := Lib.hid (HW1.out.below b3)
    clear own3 b3
    go_wp2_with fail
    refine (impl_MoveSet_c _ _ _ _ _ z2 _ row3).mono ?_
    rintro e x4 ⟨rfl, rfl⟩
    rw [← HI.out, ← HB.out]
    go_wp2_with fail
    refine (toIntS_c _ _ _ z2 HN.out _ HW3.out).mono ?_
    rintro e x5 ⟨v, rfl, own5, b5⟩
    obtain ⟨p5, c5, rfl, row5, _⟩ := own5.form
    have HA5 := Lib.hid (HA3.out.trans (b5.mono HA3.out.size))
    have row3b := row3.below b5
    clear own5 b5 row3
    go_wp2_with fail
    refine (eqIntS_c _ _ _ _ _ z2 _ row3b row5).mono ?_
    rintro e x6 ⟨rfl, m6, rfl⟩
    have HA6 := Lib.hid (below_drewN HA5.out m6)
    clear row3b row5
    go_wp2_with fail
    go_ret
    exact ⟨rfl, HA6.out⟩
  · have hn2 : 1048576 < (z2.length : Int) := by omega
    go_enter Try.func13, Try.ntmps13
    go_wp2_with fail
    go_ret
    exact ⟨rfl, Below.refl _ _⟩

set_option maxRecDepth 100000 in
theorem lifted (os : Os) (started : os.Started) (H : Type) (enc : TypeId × Value → H) :
    ReturnsInHanded {} Try.checked os 13 .any (Rows.fnExactMoveSetSpec.pre6 enc Try.prog Try.f13 Rows.fnExactMoveSetRow.domain false) (Rows.fnExactMoveSetSpec.post enc Try.prog Try.f13 false true false false) := by
  refine returnsInHanded_of_change (C := Try.checked) own started (by kernel_rfl) Try.func13
    (ChangeSpec.witness6 (enc := enc) (C := Try.checked) false ⟨#[], #[.int .i64 0, .int .i64 0, .slice none 0 0], []⟩ 8 (by kernel_rfl) (by kernel_rfl) (by kernel_rfl) (by kernel_rfl)) ?_
  intro W base args ds gs before hval0 hW hcnd _
  have hval : ∀ (j : Nat) t v, Try.f13.params[j]? = some t → args[j]? = some v → Value.okWide Try.prog W .any base t v := hval0
  have hW' := hW
  obtain ⟨p, q, hA0, hV, rfl, hfz, hnd⟩ := hW
  have hA : DataW.TrodAll enc Try.prog W 0 (fun _ => true) true Try.f13.params.toList args.toList ds p := hA0
  rw [Try.params13] at hA hval
  obtain ⟨v0, vs0, d0, ds0, p0, q0, hargs, rfl, rfl, h0, r0⟩ := trodAll_cons hA
  obtain ⟨v1, vs1, d1, ds1, p1, q1, rfl, rfl, rfl, h1, r1⟩ := trodAll_cons r0
  obtain ⟨v2, vs2, d2, ds2, p2, q2, rfl, rfl, rfl, h2, r2⟩ := trodAll_cons r1
  obtain ⟨rfl, rfl, rfl⟩ := trodAll_nil r2
  obtain rfl : args = #[v0, v1, v2] := by cases args; simp_all
  obtain ⟨rfl, rfl⟩ := trodVars_none hV
  have k0 := h0
  have lt0 : ∀ x ∈ p0, x.block < W.heap.size := by obtain ⟨m, hm⟩ := k0; exact DataW.trod_lt m _ _ _ hm
  obtain ⟨a0, rfl, w0⟩ := get_int Try.underlying3 (hval 0 3 v0 rfl rfl) h0
  have k1 := h1
  have lt1 : ∀ x ∈ p1, x.block < W.heap.size := by obtain ⟨m, hm⟩ := k1; exact DataW.trod_lt m _ _ _ hm
  obtain ⟨a1, rfl, w1⟩ := get_int Try.underlying3 (hval 1 3 v1 rfl rfl) h1
  have k2 := h2
  have lt2 : ∀ x ∈ p2, x.block < W.heap.size := by obtain ⟨m, hm⟩ := k2; exact DataW.trod_lt m _ _ _ hm
  obtain ⟨a2, len2, cap2, z2, rfl, w2⟩ := get_row Try.underlying30 Try.underlying3 (by kernel_rfl) (hval 2 30 v2 rfl rfl) h2
  clear hA0 hval0
  refine (walk a0 a1 a2 len2 cap2 z2 W w0 w1 w2).mono fun e W' ⟨he, bel⟩ => ?_
  subst he
  exact ⟨_, rfl, _, _, _, [], _, [], hW', trodAll_mk1 (shut_bool Try.underlying4 _), (trodAll_cons_mk (Below.trod laidOut (by kernel_rfl) (of_decide_eq_true (by kernel_rfl)) k0 bel lt0) (trodAll_cons_mk (Below.trod laidOut (by kernel_rfl) (of_decide_eq_true (by kernel_rfl)) k1 bel lt1) (trodAll_cons_mk (Below.trod laidOut (by kernel_rfl) (of_decide_eq_true (by kernel_rfl)) k2 bel lt2) trodAll_mk0))), rfl, bel.frame _, fun h => by cases h⟩

theorem closed : joinedFacts Try.prog 13 Try.f13 Rows.fnExactMoveSetSpec Rows.fnExactMoveSetRow = true := by
  rw [joinedFacts.eq_1]
  simp only [Bool.and_eq_true]
  repeat' apply And.intro
  all_goals first | (with_reducible exact fact_enter) | (with_reducible exact laidOut) | (with_reducible exact fact_maps) | (with_reducible exact fact_heard) | (rw [fact_lifts]; try (as_aux_lemma => kernel_rfl)) | (rw [fact_make]; try (as_aux_lemma => kernel_rfl)) | (rw [fact_keys]; try (as_aux_lemma => kernel_rfl)) | (as_aux_lemma => kernel_rfl)

theorem holds : Rows.FnExactMoveSetSaid :=
  OpenClaim.holds_of_wide 13 Try.f13 rfl rfl rfl rfl rfl rfl rfl ⟨rfl, rfl, rfl, rfl, rfl⟩ rfl rfl rfl rfl rfl (by kernel_rfl) Try.func13 closed
    (of_decide_eq_true (by kernel_rfl)) (by unfold Func.isWrapper; rw [if_neg (of_decide_eq_false (by kernel_rfl))]; exact ⟨rfl, rfl⟩)
    (fun os started H enc _ => lifted os started H enc)
#print axioms holds
end Go.Proofs.Ytmdlalpijomgiaa.fnExactMoveSet
