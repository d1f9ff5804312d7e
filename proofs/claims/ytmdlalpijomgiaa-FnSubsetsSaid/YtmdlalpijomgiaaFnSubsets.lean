/- FnSubsets: for every input that can be read, the law returns true and its arguments read afterwards as before. Conditions: none. -/
import Derived.Test.YtmdlalpijomgiaaMem
import Derived.Test.YtmdlalpijomgiaaSigns
import Derived.Test.YtmdlalpijomgiaaPlainA
import Derived.Test.YtmdlalpijomgiaaPlainC
import Derived.Test.YtmdlalpijomgiaaWa
import Derived.Test.YtmdlalpijomgiaaWm
import Derived.Test.YtmdlalpijomgiaaWb
import Derived.Test.YtmdlalpijomgiaaPlainD
import Derived.Test.YtmdlalpijomgiaaWd
import Derived.Test.YtmdlalpijomgiaaWr
import Derived.Test.YtmdlalpijomgiaaWs
import Derived.Test.YtmdlalpijomgiaaWt
namespace Go.Proofs.Ytmdlalpijomgiaa.fnSubsets
open Go.ChangeShapes Go.WideShapes Go.ChangeAt Go.RowKit
open Go.ChangeMaps (open_string shut_string)
set_option linter.unusedVariables false

set_option maxHeartbeats 4000000 in
theorem walk (a0 : Option Addr) (len0 cap0 : Nat) (z0 : List Int) (w : World) (w0 : IsRow .u8 w a0 len0 cap0 z0) :
    Calls Try.prog 16 #[.slice a0 len0 cap0] w fun e w' => e = .returned (.bool true) ∧ Below w.heap.size w w' := by
  by_cases hn : len0 ≤ 1048576
  · have hn2 : (len0 : Int) ≤ 1048576 := by omega
    have HW := Lib.hid w0
    clear w0
    go_enter Try.func16, Try.ntmps16
    go_wp2_with fail
    refine (DrawSubsetsOf_c _ _ _ _ _ HW.out).mono ?_
    rintro e w1 ⟨a, rfl, _, hbel⟩
    have HB := Lib.hid hbel
    clear hbel
    have hll := sbs_len a
    go_wp2_with fail
    refine (ret_own (impl_SubsetsOf_c a _)).mono ?_
    rintro e w2 ⟨p1, c1, rfl, own1, b2⟩
    have HB2 := Lib.hid (HB.out.trans (b2.mono HB.out.size))
    have OWN1 := Lib.hid own1
    clear own1 b2
    go_wp2_with fail
    refine (ret_own (spec_SubsetsOf_c a _)).mono ?_
    rintro e w3 ⟨p2, c2, rfl, own2, b3⟩
    have HB3 := Lib.hid (HB2.out.trans (b3.mono HB2.out.size))
    have row1 := OWN1.out.row.below b3
    have ROW1 := Lib.hid row1
    have row2 := own2.row
    clear own2 b3 row1
    go_wp2_with fail
    rcases hv : setB 4 a with _ | _
    · have hs0 : sgnI a = 0 := by simp [sgnI, hv]
      have hl0 : (((sbs a).length : Int) == 0) = true := by rw [sbs_no hv]; rfl
      refine (weSame_c _ _ _ _ _ _ _ ROW1.out row2).mono ?_
      rintro e w4 ⟨rfl, m4, rfl⟩
      have HB4 := Lib.hid (below_drewN HB3.out m4)
      have row1b := ROW1.out.drewN m4
      have ROW1b := Lib.hid row1b
      clear row1b row2
      generalize w3.drewN m4 = w4 at *
      go_wp2_with fail
      refine (ret_own (spec_SubsetsOf_c a _)).mono ?_
      rintro e w5 ⟨p3, c3, rfl, own3, b5⟩
      have HB5 := Lib.hid (HB4.out.trans (b5.mono HB4.out.size))
      have row3 := own3.row
      have row1c := ROW1b.out.below b5
      have ROW1c := Lib.hid row1c
      clear own3 b5 row1c
      go_wp2_with fail
      refine (weSame_c _ _ _ _ _ _ _ ROW1c.out row3).mono ?_
      rintro e w6 ⟨rfl, m6, rfl⟩
      have HB6 := Lib.hid (below_drewN HB5.out m6)
      go_wp2_with (go_at_call 39; refine (impl_SignOf_c _ _).mono ?_; rintro e w' ⟨rfl, rfl⟩)
      go_ret
      exact ⟨rfl, HB6.out⟩
    · obtain ⟨l1, l2, l3, l4, l5, l6⟩ := subs_law hv
      have hpos : 0 < (sbs a).length := by omega
      have hne : (((sbs a).length : Int) == 0) = false := by rw [beq_eq_false_iff_ne]; omega
      refine (weSame_c _ _ _ _ _ _ _ ROW1.out row2).mono ?_
      rintro e w4 ⟨rfl, m4, rfl⟩
      have HB4 := Lib.hid (below_drewN HB3.out m4)
      have row1b := ROW1.out.drewN m4
      have hac := row1b.at_
      clear row1b row2
      generalize w3.drewN m4 = w4 at *
      obtain ⟨b1, o1, rfl, _, hc⟩ := hac hpos
      have HC := Lib.hid hc
      have L1 := Lib.hid l1
      have L2 := Lib.hid l2
      have L3 := Lib.hid l3
      have L4 := Lib.hid l4
      have L5 := Lib.hid l5
      have L6 := Lib.hid l6
      clear hac hc l1 l2 l3 l4 l5 l6
      go_wp2_with fail
      go_loopw [5, 6] (fun sm i wr => ∃ (k : Nat) (S : Int), k ≤ (sbs a).length ∧ i = .int .i64 k ∧ sm = .int .i64 S ∧ S = sumS ((sbs a).take k) ∧ -(k : Int) ≤ S ∧ S ≤ k ∧ ∃ m, wr = w4.drewN m) (fun _ i _ => (sbs a).length - (intOf i).toNat)
      case atStart => exact ⟨0, 0, Nat.zero_le _, rfl, rfl, rfl, by omega, by omega, 0, rfl⟩
      case round =>
        obtain ⟨k, S, hk, rfl, rfl, hS, hS1, hS2, m, rfl⟩ := hrel
        by_cases hlt : k < (sbs a).length
        · have g1 : (w4.drewN m).cell? ⟨b1, o1 + k, none⟩ = some (.int .i64 ((sbs a).getD k 0)) := HC.out k hlt
          have hlt' : (k : Int) < ((sbs a).length : Int) := by omega
          have hk0 : (0 : Int) ≤ (k : Int) := by omega
          have hh := L1.out k hlt
          have HS := Lib.hid hS
          have HT := Lib.hid (sumS_take (sbs a) k hlt)
          have hrs := sgnI_range ((sbs a).getD k 0)
          clear hS
          by_cases hz : k = 0
          · have hd : decide ((0 : Int) < (k : Int)) = false := by simp; omega
            have hdn : decide (0 < k) = false := by simp; omega
            clear hz
            generalize (sbs a).getD k 0 = x at *
            obtain ⟨wk, hwk⟩ : ∃ wk, wk = w4.drewN m := ⟨_, rfl⟩
            rw [← hwk] at g1 ⊢
            have HWK := Lib.hid hwk
            clear hwk
            go_wp2_with fail
            go_quiet ((go_at_call 22; exact quiet_my (impl_HasSet_c _ _ _)))
            go_wp2_with (go_at_call 39; refine (impl_SignOf_c _ _).mono ?_; rintro e w' ⟨rfl, rfl⟩)
            go_roundw
            case rel => exact ⟨k + 1, _, by omega, by go_num, rfl, by rw [HT.out, HS.out], by omega, by omega, _, by rw [HWK.out, World.drewN_drewN]⟩
            case measure => simp [intOf]; omega
          · have hd : decide ((0 : Int) < (k : Int)) = true := by simp; omega
            have hdn : 0 < k := by omega
            obtain ⟨j, hj⟩ : ∃ j, k = j + 1 := ⟨k - 1, by omega⟩
            have hw : IntKind.i64.wrap ((k : Int) - 1) = (j : Int) := by rw [IntWalk.i64_in _ (by omega)]; omega
            have hkj : (k : Int) - 1 = (j : Int) := by omega
            have g2 : (w4.drewN m).cell? ⟨b1, o1 + j, none⟩ = some (.int .i64 ((sbs a).getD j 0)) := HC.out j (by omega)
            have h21 := L2.out k hlt (by omega)
            rw [show k - 1 = j by omega] at h21
            have hle : decide ((sbs a).getD k 0 ≤ (sbs a).getD j 0) = false := by simp only [decide_eq_false_iff_not]; omega
            have hj1 : (j : Int) < ((sbs a).length : Int) := by omega
            have hj0 : (0 : Int) ≤ (j : Int) := by omega
            clear hz hj
            generalize (sbs a).getD k 0 = x at *
            generalize (sbs a).getD j 0 = y at *
            obtain ⟨wk, hwk⟩ : ∃ wk, wk = w4.drewN m := ⟨_, rfl⟩
            rw [← hwk] at g1 g2 ⊢
            have HWK := Lib.hid hwk
            clear hwk
            go_wp2_with fail
            go_quiet ((go_at_call 22; exact quiet_my (impl_HasSet_c _ _ _)))
            go_wp2_with (go_at_call 39; refine (impl_SignOf_c _ _).mono ?_; rintro e w' ⟨rfl, rfl⟩)
            go_roundw
            case rel => exact ⟨k + 1, _, by omega, by go_num, rfl, by rw [HT.out, HS.out], by omega, by omega, _, by rw [HWK.out, World.drewN_drewN]⟩
            case measure => simp [intOf]; omega
        · have hkn : k = (sbs a).length := by omega
          rw [hkn, List.take_of_length_le (Nat.le_refl _)] at hS
          have hge : ¬ (k : Int) < ((sbs a).length : Int) := by omega
          have gF : (w4.drewN m).cell? ⟨b1, o1 + 0, none⟩ = some (.int .i64 ((sbs a).getD 0 0)) := HC.out 0 hpos
          have gL : (w4.drewN m).cell? ⟨b1, o1 + ((sbs a).length - 1), none⟩ = some (.int .i64 ((sbs a).getD ((sbs a).length - 1) 0)) := HC.out _ (by omega)
          rw [L5.out] at gF
          rw [Nat.add_zero] at gF
          rw [L6.out] at gL
          have l4 := L4.out
          rw [← hS] at l4
          have l3 := L3.out
          have HB5 := Lib.hid (below_drewN HB4.out m)
          clear HC L1 L2 L3 L4 L5 L6 hS hpos hne hll ROW1 OWN1
          generalize (sbs a).length = n at *
          obtain ⟨l7, l8⟩ := l4
          by_cases hz : a = 0
          · have hS := l7 hz
            clear l7 l8
            subst hS
            subst hz
            clear hS1 hS2 hk
            go_wp2_with fail
            subst hkn
            rcases l3 with ⟨_, rfl, hcn⟩ | ⟨rfl, hcn⟩ | ⟨rfl, hcn⟩ | ⟨rfl, hcn⟩ | ⟨rfl, hcn⟩
            all_goals
              go_wp2_with (first | (go_at_call 37; refine (impl_CountSet_c _ _).mono ?_; rintro e w' ⟨rfl, rfl⟩) | (go_at_call 39; refine (impl_SignOf_c _ _).mono ?_; rintro e w' ⟨rfl, rfl⟩) | (go_at_call 38; refine (spec_SignOf_c _ _).mono ?_; rintro e w' ⟨rfl, rfl⟩))
              go_ret
              exact ⟨rfl, HB5.out⟩
          · have hS := l8 hz
            clear l7 l8
            subst hS
            have hz2 : (a == 0) = false := by simp [hz]
            have HZ := Lib.hid hz
            clear hz hS1 hS2 hk
            go_wp2_with fail
            subst hkn
            rcases l3 with ⟨h0, _⟩ | l3
            · exact absurd h0 HZ.out
            rcases l3 with ⟨rfl, hcn⟩ | ⟨rfl, hcn⟩ | ⟨rfl, hcn⟩ | ⟨rfl, hcn⟩
            all_goals
              go_wp2_with (first | (go_at_call 37; refine (impl_CountSet_c _ _).mono ?_; rintro e w' ⟨rfl, rfl⟩) | (go_at_call 39; refine (impl_SignOf_c _ _).mono ?_; rintro e w' ⟨rfl, rfl⟩) | (go_at_call 38; refine (spec_SignOf_c _ _).mono ?_; rintro e w' ⟨rfl, rfl⟩))
              go_ret
              exact ⟨rfl, HB5.out⟩
  · have hn2 : 1048576 < (len0 : Int) := by omega
    go_enter Try.func16, Try.ntmps16
    go_wp2_with fail
    go_ret
    exact ⟨rfl, Below.refl _ _⟩

set_option maxRecDepth 100000 in
theorem lifted (os : Os) (started : os.Started) (H : Type) (enc : TypeId × Value → H) :
    ReturnsInHanded {} Try.checked os 16 .any (Rows.fnSubsetsSpec.pre6 enc Try.prog Try.f16 Rows.fnSubsetsRow.domain false) (Rows.fnSubsetsSpec.post enc Try.prog Try.f16 false true false false) := by
  refine returnsInHanded_of_change (C := Try.checked) own started (by kernel_rfl) Try.func16
    (ChangeSpec.witness6 (enc := enc) (C := Try.checked) false ⟨#[], #[.slice none 0 0], []⟩ 8 (by kernel_rfl) (by kernel_rfl) (by kernel_rfl) (by kernel_rfl)) ?_
  intro W base args ds gs before hval0 hW hcnd _
  have hval : ∀ (j : Nat) t v, Try.f16.params[j]? = some t → args[j]? = some v → Value.okWide Try.prog W .any base t v := hval0
  have hW' := hW
  obtain ⟨p, q, hA0, hV, rfl, hfz, hnd⟩ := hW
  have hA : DataW.TrodAll enc Try.prog W 0 (fun _ => true) true Try.f16.params.toList args.toList ds p := hA0
  rw [Try.params16] at hA hval
  obtain ⟨v0, vs0, d0, ds0, p0, q0, hargs, rfl, rfl, h0, r0⟩ := trodAll_cons hA
  obtain ⟨rfl, rfl, rfl⟩ := trodAll_nil r0
  obtain rfl : args = #[v0] := by cases args; simp_all
  obtain ⟨rfl, rfl⟩ := trodVars_none hV
  have k0 := h0
  have lt0 : ∀ x ∈ p0, x.block < W.heap.size := by obtain ⟨m, hm⟩ := k0; exact DataW.trod_lt m _ _ _ hm
  obtain ⟨a0, len0, cap0, z0, rfl, w0⟩ := get_row Try.underlying38 Try.underlying5 (by kernel_rfl) (hval 0 38 v0 rfl rfl) h0
  clear hA0 hval0
  refine (walk a0 len0 cap0 z0 W w0).mono fun e W' ⟨he, bel⟩ => ?_
  subst he
  exact ⟨_, rfl, _, _, _, [], _, [], hW', trodAll_mk1 (shut_bool Try.underlying4 _), (trodAll_cons_mk (Below.trod laidOut (by kernel_rfl) (of_decide_eq_true (by kernel_rfl)) k0 bel lt0) trodAll_mk0), rfl, bel.frame _, fun h => by cases h⟩

theorem closed : joinedFacts Try.prog 16 Try.f16 Rows.fnSubsetsSpec Rows.fnSubsetsRow = true := by
  rw [joinedFacts.eq_1]
  simp only [Bool.and_eq_true]
  repeat' apply And.intro
  all_goals first | (with_reducible exact fact_enter) | (with_reducible exact laidOut) | (with_reducible exact fact_maps) | (with_reducible exact fact_heard) | (rw [fact_lifts]; try (as_aux_lemma => kernel_rfl)) | (rw [fact_make]; try (as_aux_lemma => kernel_rfl)) | (rw [fact_keys]; try (as_aux_lemma => kernel_rfl)) | (as_aux_lemma => kernel_rfl)

theorem holds : Rows.FnSubsetsSaid :=
  OpenClaim.holds_of_wide 16 Try.f16 rfl rfl rfl rfl rfl rfl rfl ⟨rfl, rfl, rfl, rfl, rfl⟩ rfl rfl rfl rfl rfl (by kernel_rfl) Try.func16 closed
    (of_decide_eq_true (by kernel_rfl)) (by unfold Func.isWrapper; rw [if_neg (of_decide_eq_false (by kernel_rfl))]; exact ⟨rfl, rfl⟩)
    (fun os started H enc _ => lifted os started H enc)
#print axioms holds
end Go.Proofs.Ytmdlalpijomgiaa.fnSubsets
