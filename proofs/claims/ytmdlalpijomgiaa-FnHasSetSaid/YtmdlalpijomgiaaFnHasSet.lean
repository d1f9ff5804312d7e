/- FnHasSet: for every input that can be read, the law returns true and its arguments read afterwards as before. Conditions: none. -/
import Derived.Test.YtmdlalpijomgiaaMem
import Derived.Test.YtmdlalpijomgiaaSigns
import Derived.Test.YtmdlalpijomgiaaPlainA
import Derived.Test.YtmdlalpijomgiaaPlainC
import Derived.Test.YtmdlalpijomgiaaWa
import Derived.Test.YtmdlalpijomgiaaWm
import Derived.Test.YtmdlalpijomgiaaWb
import Derived.Test.YtmdlalpijomgiaaPlainD
import Derived.Test.YtmdlalpijomgiaaWd
import Derived.Test.YtmdlalpijomgiaaWr
import Derived.Test.YtmdlalpijomgiaaWs
namespace Go.Proofs.Ytmdlalpijomgiaa.fnHasSet
open Go.ChangeShapes Go.WideShapes Go.ChangeAt Go.RowKit
open Go.ChangeMaps (open_string shut_string)
set_option linter.unusedVariables false

theorem walk (a0 : Option Addr) (len0 cap0 : Nat) (z0 : List Int) (w : World) (w0 : IsRow .u8 w a0 len0 cap0 z0) :
    Calls Try.prog 14 #[.slice a0 len0 cap0] w fun e w' => e = .returned (.bool true) ∧ Below w.heap.size w w' := by
  by_cases hn : len0 ≤ 1048576
  · have hn2 : (len0 : Int) ≤ 1048576 := by omega
    have HW := Lib.hid w0
    clear w0
    go_enter Try.func14, Try.ntmps14
    go_wp2_with fail
    refine (DrawHasSet_c _ _ _ _ _ HW.out).mono ?_
    rintro e w1 ⟨a, b, rfl, _, _, hbel⟩
    have HB := Lib.hid hbel
    clear hbel
    rcases hva : setB 4 a with _ | _
    · have hh : hasB a b = false := by simp [hasB, hva]
      have hc : cntI a = -1 := cntI_out hva
      go_wp2_with (first | (go_at_call 22; refine (impl_HasSet_c _ _ _).mono ?_; rintro e w' ⟨rfl, rfl⟩) | (go_at_call 21; refine (spec_HasSet_c _ _ _).mono ?_; rintro e w' ⟨rfl, rfl⟩) | (go_at_call 37; refine (impl_CountSet_c _ _).mono ?_; rintro e w' ⟨rfl, rfl⟩))
      go_ret
      exact ⟨rfl, HB.out⟩
    rcases hvb : setB 4 b with _ | _
    · have hh : hasB a b = false := by simp [hasB, hvb]
      have hc : 0 ≤ cntI a := cntI_in hva
      have hc2 : cntI b = -1 := cntI_out hvb
      go_wp2_with (first | (go_at_call 22; refine (impl_HasSet_c _ _ _).mono ?_; rintro e w' ⟨rfl, rfl⟩) | (go_at_call 21; refine (spec_HasSet_c _ _ _).mono ?_; rintro e w' ⟨rfl, rfl⟩) | (go_at_call 37; refine (impl_CountSet_c _ _).mono ?_; rintro e w' ⟨rfl, rfl⟩))
      go_ret
      exact ⟨rfl, HB.out⟩
    obtain ⟨l1, l2⟩ := has_law (setB4_iff.1 hva) (setB4_iff.1 hvb)
    have hca : 0 ≤ cntI a := cntI_in hva
    have hcb : 0 ≤ cntI b := cntI_in hvb
    have hcm := (cntI_range a).2
    have hcn := (cntI_range b).2
    have L1 := Lib.hid l1
    have L2 := Lib.hid l2
    clear l1 l2
    have hll := sbs_len a
    generalize hx : hasB a b = x
    go_wp2_with (first | (go_at_call 22; refine (impl_HasSet_c _ _ _).mono ?_; rintro e w' ⟨rfl, rfl⟩) | (go_at_call 21; refine (spec_HasSet_c _ _ _).mono ?_; rintro e w' ⟨rfl, rfl⟩) | (go_at_call 37; refine (impl_CountSet_c _ _).mono ?_; rintro e w' ⟨rfl, rfl⟩))
    refine (ret_own (impl_SubsetsOf_c a _)).mono ?_
    rintro e w2 ⟨p1, c1, rfl, own1, b2⟩
    have HB2 := Lib.hid (HB.out.trans (b2.mono HB.out.size))
    have hac := own1.row.at_
    clear own1 b2
    go_wp2_with fail
    go_loop [6, 8] (fun sm i => ∃ k : Nat, k ≤ (sbs a).length ∧ i = .int .i64 k ∧ sm = .bool (((sbs a).take k).any (fun y => y == b))) (fun _ i => (sbs a).length - (intOf i).toNat)
    case atStart => exact ⟨0, Nat.zero_le _, rfl, by simp⟩
    case round =>
      obtain ⟨k, hk, rfl, rfl⟩ := hrel
      by_cases hlt : k < (sbs a).length
      · obtain ⟨b1, o1, rfl, _, h1⟩ := hac (by omega)
        have g1 := h1 k hlt
        have hat := any_take (fun y => y == b) (sbs a) k hlt
        have HAT := Lib.hid hat
        clear h1 hac hat
        generalize hs : ((sbs a).take k).any (fun y => y == b) = sm at *
        generalize (sbs a).getD k 0 = z at *
        rcases sm with _ | _
        all_goals
          go_wp2_with fail
          go_round
          case rel => exact ⟨k + 1, by omega, by go_num, by rw [HAT.out]; simp⟩
          case measure => simp [intOf]; omega
      · have hkn : k = (sbs a).length := by omega
        subst hkn
        rw [List.take_of_length_le (Nat.le_refl _)]
        rcases x with _ | _
        · obtain ⟨e1, e2, e3⟩ := L2.out hx
          rw [e3]
          go_wp2_with (first | (go_at_call 37; refine (impl_CountSet_c _ _).mono ?_; rintro e w' ⟨rfl, rfl⟩))
          go_ret
          exact ⟨rfl, HB2.out⟩
        · obtain ⟨e1, e2, e3, e4⟩ := L1.out hx
          rw [e4]
          go_wp2_with (first | (go_at_call 37; refine (impl_CountSet_c _ _).mono ?_; rintro e w' ⟨rfl, rfl⟩))
          go_ret
          exact ⟨rfl, HB2.out⟩
  · have hn2 : 1048576 < (len0 : Int) := by omega
    go_enter Try.func14, Try.ntmps14
    go_wp2_with fail
    go_ret
    exact ⟨rfl, Below.refl _ _⟩

set_option maxRecDepth 100000 in
theorem lifted (os : Os) (started : os.Started) (H : Type) (enc : TypeId × Value → H) :
    ReturnsInHanded {} Try.checked os 14 .any (Rows.fnHasSetSpec.pre6 enc Try.prog Try.f14 Rows.fnHasSetRow.domain false) (Rows.fnHasSetSpec.post enc Try.prog Try.f14 false true false false) := by
  refine returnsInHanded_of_change (C := Try.checked) own started (by kernel_rfl) Try.func14
    (ChangeSpec.witness6 (enc := enc) (C := Try.checked) false ⟨#[], #[.slice none 0 0], []⟩ 8 (by kernel_rfl) (by kernel_rfl) (by kernel_rfl) (by kernel_rfl)) ?_
  intro W base args ds gs before hval0 hW hcnd _
  have hval : ∀ (j : Nat) t v, Try.f14.params[j]? = some t → args[j]? = some v → Value.okWide Try.prog W .any base t v := hval0
  have hW' := hW
  obtain ⟨p, q, hA0, hV, rfl, hfz, hnd⟩ := hW
  have hA : DataW.TrodAll enc Try.prog W 0 (fun _ => true) true Try.f14.params.toList args.toList ds p := hA0
  rw [Try.params14] at hA hval
  obtain ⟨v0, vs0, d0, ds0, p0, q0, hargs, rfl, rfl, h0, r0⟩ := trodAll_cons hA
  obtain ⟨rfl, rfl, rfl⟩ := trodAll_nil r0
  obtain rfl : args = #[v0] := by cases args; simp_all
  obtain ⟨rfl, rfl⟩ := trodVars_none hV
  have k0 := h0
  have lt0 : ∀ x ∈ p0, x.block < W.heap.size := by obtain ⟨m, hm⟩ := k0; exact DataW.trod_lt m _ _ _ hm
  obtain ⟨a0, len0, cap0, z0, rfl, w0⟩ := get_row Try.underlying38 Try.underlying5 (by kernel_rfl) (hval 0 38 v0 rfl rfl) h0
  clear hA0 hval0
  refine (walk a0 len0 cap0 z0 W w0).mono fun e W' ⟨he, bel⟩ => ?_
  subst he
  exact ⟨_, rfl, _, _, _, [], _, [], hW', trodAll_mk1 (shut_bool Try.underlying4 _), (trodAll_cons_mk (Below.trod laidOut (by kernel_rfl) (of_decide_eq_true (by kernel_rfl)) k0 bel lt0) trodAll_mk0), rfl, bel.frame _, fun h => by cases h⟩

theorem closed : joinedFacts Try.prog 14 Try.f14 Rows.fnHasSetSpec Rows.fnHasSetRow = true := by
  rw [joinedFacts.eq_1]
  simp only [Bool.and_eq_true]
  repeat' apply And.intro
  all_goals first | (with_reducible exact fact_enter) | (with_reducible exact laidOut) | (with_reducible exact fact_maps) | (with_reducible exact fact_heard) | (rw [fact_lifts]; try (as_aux_lemma => kernel_rfl)) | (rw [fact_make]; try (as_aux_lemma => kernel_rfl)) | (rw [fact_keys]; try (as_aux_lemma => kernel_rfl)) | (as_aux_lemma => kernel_rfl)

theorem holds : Rows.FnHasSetSaid :=
  OpenClaim.holds_of_wide 14 Try.f14 rfl rfl rfl rfl rfl rfl rfl ⟨rfl, rfl, rfl, rfl, rfl⟩ rfl rfl rfl rfl rfl (by kernel_rfl) Try.func14 closed
    (of_decide_eq_true (by kernel_rfl)) (by unfold Func.isWrapper; rw [if_neg (of_decide_eq_false (by kernel_rfl))]; exact ⟨rfl, rfl⟩)
    (fun os started H enc _ => lifted os started H enc)
#print axioms holds
end Go.Proofs.Ytmdlalpijomgiaa.fnHasSet
