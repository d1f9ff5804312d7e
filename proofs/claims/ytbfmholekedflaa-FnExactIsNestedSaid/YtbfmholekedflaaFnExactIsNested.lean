/- FnExactIsNested: for every input that can be read, the law returns true and its arguments read afterwards as before. Conditions: none. -/
import Derived.Test.YtbfmholekedflaaMem
import Derived.Test.YtbfmholekedflaaSigns
import Derived.Test.YtbfmholekedflaaPlainE
import Derived.Test.YtbfmholekedflaaWm
import Derived.Test.YtbfmholekedflaaMa
import Derived.Test.YtbfmholekedflaaMb
import Derived.Test.YtbfmholekedflaaMc
import Derived.Test.YtbfmholekedflaaMd
import Derived.Test.YtbfmholekedflaaMe
import Derived.Test.YtbfmholekedflaaMf
import Derived.Test.YtbfmholekedflaaMg
import Derived.Deep.RegionWith
namespace Go.Proofs.Ytbfmholekedflaa.fnExactIsNested
open Go.ChangeShapes Go.WideShapes Go.ChangeAt Go.RowKit
open Go.ChangeMaps (open_string shut_string)
set_option linter.unusedVariables false

set_option maxHeartbeats 4000000 in
theorem walk (s0 : Int) (a0 : Option Addr) (len0 cap0 : Nat) (z0 : List Int) (w : World) (ws0 : Fits s0) (w0 : IsRow .i64 w a0 len0 cap0 z0) :
    Calls Try.prog 9 #[.agg #[.int .i64 s0, .slice a0 len0 cap0]] w fun e w' => e = .returned (.bool true) ∧ Below w.heap.size w w' := by
  have hmax : len0 ≤ 9223372036854775807 := Nat.le_trans w0.2.1 w0.2.2.1
  have HW := Lib.hid w0
  clear w0
  by_cases hn : len0 ≤ 1048576
  · have HE := Lib.hid (if_neg (by omega) : (if (1048576 : Int) < (len0 : Int) then (-1 : Int) else 1048576 - len0) = 1048576 - len0)
    have hz : ¬ (1048576 - (len0 : Int) < 0) := by omega
    go_enter Try.func9, Try.ntmps9
    go_wp2_with fail
    refine (szMass_c _ _ _ _ 1048576 (by omega) hmax _).mono ?_
    rintro e v1 ⟨rfl, hb⟩
    rw [HE.out]
    have k0 : v1.cell? ⟨w.heap.size, 0, none⟩ = some (.int .i64 s0) := (hb.cell (by simp)).trans (by go_simp)
    have k1 : v1.cell? ⟨w.heap.size, 1, none⟩ = some (.slice a0 len0 cap0) := (hb.cell (by simp)).trans (by go_simp)
    have z1 : w.heap.size < v1.heap.size := by have := hb.size; simp at this; omega
    have HB1 := Lib.hid (((Below.refl w.heap.size w).alloc (Nat.le_refl _) _).trans (hb.mono (by simp)))
    have HW1 := Lib.hid ((HW.out.alloc _).below hb)
    clear hb
    go_wp2_with fail
    refine (toMass_c _ _ _ _ z0 hn _ HW1.out).mono ?_
    rintro e v2 ⟨A, C, rfl, ho, hb⟩
    replace k0 : v2.cell? ⟨w.heap.size, 0, none⟩ = some (.int .i64 s0) := (hb.cell z1).trans k0
    replace k1 : v2.cell? ⟨w.heap.size, 1, none⟩ = some (.slice a0 len0 cap0) := (hb.cell z1).trans k1
    have z2 : w.heap.size < v2.heap.size := Nat.lt_of_lt_of_le z1 hb.size
    have HB2 := Lib.hid (HB1.out.trans (hb.mono HB1.out.size))
    have HW2 := Lib.hid (HW1.out.below hb)
    have HO := Lib.hid ho
    clear hb ho
    go_wp2_with fail
    refine (spec_IsNested_c _ _ _ _ z0 _ HO.out.row).mono ?_
    rintro e v3 ⟨rfl, hb⟩
    replace k0 : v3.cell? ⟨w.heap.size, 0, none⟩ = some (.int .i64 s0) := (hb.cell z2).trans k0
    replace k1 : v3.cell? ⟨w.heap.size, 1, none⟩ = some (.slice a0 len0 cap0) := (hb.cell z2).trans k1
    have z3 : w.heap.size < v3.heap.size := Nat.lt_of_lt_of_le z2 hb.size
    have HB3 := Lib.hid (HB2.out.trans (hb.mono HB2.out.size))
    have HW3 := Lib.hid (HW2.out.below hb)
    clear hb
    go_wp2_with fail
    refine (toMass_c _ _ _ _ z0 hn _ HW3.out).mono ?_
    rintro e v4 ⟨A2, C2, rfl, ho, hb⟩
    replace k0 : v4.cell? ⟨w.heap.size, 0, none⟩ = some (.int .i64 s0) := (hb.cell z3).trans k0
    replace k1 : v4.cell? ⟨w.heap.size, 1, none⟩ = some (.slice a0 len0 cap0) := (hb.cell z3).trans k1
    have z4 : w.heap.size < v4.heap.size := Nat.lt_of_lt_of_le z3 hb.size
    have HB4 := Lib.hid (HB3.out.trans (hb.mono HB3.out.size))
    have HW4 := Lib.hid (HW3.out.below hb)
    have HO2 := Lib.hid ho
    clear hb ho
    go_wp2_with fail
    refine (impl_IsNested_c _ _ _ _ z0 _ (HO2.out.row.alloc _)).mono ?_
    rintro e v5 ⟨rfl, hb⟩
    replace k0 : v5.cell? ⟨w.heap.size, 0, none⟩ = some (.int .i64 s0) := (hb.cell (by simp; omega)).trans (by go_simp)
    replace k1 : v5.cell? ⟨w.heap.size, 1, none⟩ = some (.slice a0 len0 cap0) := (hb.cell (by simp; omega)).trans (by go_simp)
    have j0 : v5.cell? ⟨v4.heap.size, 0, none⟩ = some (.int .i64 s0) := (hb.cell (by simp)).trans (by go_simp)
    have j1 : v5.cell? ⟨v4.heap.size, 1, none⟩ = some (.slice A2 z0.length C2) := (hb.cell (by simp)).trans (by go_simp)
    have z5 : w.heap.size < v5.heap.size := by have := hb.size; simp at this; omega
    have z6 : v4.heap.size < v5.heap.size := by have := hb.size; simp at this; omega
    have HB5 := Lib.hid ((HB4.out.alloc HB4.out.size _).trans (hb.mono (by simp; omega)))
    have HW5 := Lib.hid ((HW4.out.alloc _).below hb)
    have HO5 := Lib.hid ((HO2.out.row.alloc _).below hb)
    have HW5d : Hid (IsRow .i64 v5.drew a0 len0 cap0 z0) := Lib.hid HW5.out.drew
    have HB5d : Hid (Below w.heap.size w v5.drew) := Lib.hid HB5.out.drew
    have z6d : v4.heap.size < v5.drew.heap.size := z6
    clear hb
    go_wp2_with fail
    go_region_with (first
      | (go_at_call 21; refine (toMass_c _ _ _ _ z0 hn _ HW5d.out).mono ?_; rintro e v6 ⟨A3, C3, rfl, ho, hb⟩; have j0' := (hb.cell z6d).trans j0; have j1' := (hb.cell z6d).trans j1; have HB6 := Lib.hid (HB5d.out.trans (hb.mono HB5d.out.size)); have HO6 := Lib.hid (HO5.out.drew.below hb); have HO7 := Lib.hid ho; clear hb ho j0 j1)
      | (go_at_call 14; refine (eqMass_c _ _ _ _ _ _ z0 _ HO6.out HO7.out.row).mono ?_; rintro e v7 ⟨rfl, hb⟩; have HB7 := Lib.hid (HB6.out.trans (hb.mono HB6.out.size)); clear hb))
    all_goals
      go_wp2_with fail
      go_ret
      exact ⟨rfl, HB7.out⟩
  · have HE := Lib.hid (if_pos (by omega) : (if (1048576 : Int) < (len0 : Int) then (-1 : Int) else 1048576 - len0) = -1)
    go_enter Try.func9, Try.ntmps9
    go_wp2_with fail
    refine (szMass_c _ _ _ _ 1048576 (by omega) hmax _).mono ?_
    rintro e v1 ⟨rfl, hb⟩
    rw [HE.out]
    have HB1 := Lib.hid (((Below.refl w.heap.size w).alloc (Nat.le_refl _) _).trans (hb.mono (by simp)))
    clear hb
    go_wp2_with fail
    go_ret
    exact ⟨rfl, HB1.out⟩

set_option maxRecDepth 100000 in
theorem lifted (os : Os) (started : os.Started) (H : Type) (enc : TypeId × Value → H) :
    ReturnsInHanded {} Try.checked os 9 .any (Rows.fnExactIsNestedSpec.pre6 enc Try.prog Try.f9 Rows.fnExactIsNestedRow.domain false) (Rows.fnExactIsNestedSpec.post enc Try.prog Try.f9 false true false false) := by
  refine returnsInHanded_of_change (C := Try.checked) own started (by kernel_rfl) Try.func9
    (ChangeSpec.witness6 (enc := enc) (C := Try.checked) false ⟨#[], #[.agg #[.int .i64 0, .slice none 0 0]], []⟩ 8 (by kernel_rfl) (by kernel_rfl) (by kernel_rfl) (by kernel_rfl)) ?_
  intro W base args ds gs before hval0 hW hcnd _
  have hval : ∀ (j : Nat) t v, Try.f9.params[j]? = some t → args[j]? = some v → Value.okWide Try.prog W .any base t v := hval0
  have hW' := hW
  obtain ⟨p, q, hA0, hV, rfl, hfz, hnd⟩ := hW
  have hA : DataW.TrodAll enc Try.prog W 0 (fun _ => true) true Try.f9.params.toList args.toList ds p := hA0
  rw [Try.params9] at hA hval
  obtain ⟨v0, vs0, d0, ds0, p0, q0, hargs, rfl, rfl, h0, r0⟩ := trodAll_cons hA
  obtain ⟨rfl, rfl, rfl⟩ := trodAll_nil r0
  obtain rfl : args = #[v0] := by cases args; simp_all
  obtain ⟨rfl, rfl⟩ := trodVars_none hV
  have k0 := h0
  have lt0 : ∀ x ∈ p0, x.block < W.heap.size := by obtain ⟨m, hm⟩ := k0; exact DataW.trod_lt m _ _ _ hm
  obtain ⟨s0, a0, len0, cap0, z0, rfl, ws0, w0⟩ := get_mass Try.underlying32 (by kernel_rfl) (by kernel_rfl) Try.underlying3 Try.underlying22 (by kernel_rfl) (hval 0 32 v0 rfl rfl) h0
  clear hA0 hval0
  refine (walk s0 a0 len0 cap0 z0 W ws0 w0).mono fun e W' ⟨he, bel⟩ => ?_
  subst he
  exact ⟨_, rfl, _, _, _, [], _, [], hW', trodAll_mk1 (shut_bool Try.underlying4 _), (trodAll_cons_mk (Below.trod laidOut (by kernel_rfl) (of_decide_eq_true (by kernel_rfl)) k0 bel lt0) trodAll_mk0), rfl, bel.frame _, fun h => by cases h⟩

theorem closed : joinedFacts Try.prog 9 Try.f9 Rows.fnExactIsNestedSpec Rows.fnExactIsNestedRow = true := by
  rw [joinedFacts.eq_1]
  simp only [Bool.and_eq_true]
  repeat' apply And.intro
  all_goals first | (with_reducible exact fact_enter) | (with_reducible exact laidOut) | (with_reducible exact fact_maps) | (with_reducible exact fact_heard) | (rw [fact_lifts]; try (as_aux_lemma => kernel_rfl)) | (rw [fact_make]; try (as_aux_lemma => kernel_rfl)) | (rw [fact_keys]; try (as_aux_lemma => kernel_rfl)) | (as_aux_lemma => kernel_rfl)

theorem holds : Rows.FnExactIsNestedSaid :=
  OpenClaim.holds_of_wide 9 Try.f9 rfl rfl rfl rfl rfl rfl rfl ⟨rfl, rfl, rfl, rfl, rfl⟩ rfl rfl rfl rfl rfl (by kernel_rfl) Try.func9 closed
    (of_decide_eq_true (by kernel_rfl)) (by unfold Func.isWrapper; rw [if_neg (of_decide_eq_false (by kernel_rfl))]; exact ⟨rfl, rfl⟩)
    (fun os started H enc _ => lifted os started H enc)
#print axioms holds
end Go.Proofs.Ytbfmholekedflaa.fnExactIsNested
