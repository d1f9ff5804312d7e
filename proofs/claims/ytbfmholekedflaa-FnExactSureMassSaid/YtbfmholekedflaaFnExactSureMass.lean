/- FnExactSureMass: for every input that can be read, the law returns true and its arguments read afterwards as before. Conditions: none. -/
import Derived.Test.YtbfmholekedflaaMem
import Derived.Test.YtbfmholekedflaaSigns
import Derived.Test.YtbfmholekedflaaPlainE
import Derived.Test.YtbfmholekedflaaWm
import Derived.Test.YtbfmholekedflaaMa
import Derived.Test.YtbfmholekedflaaMb
import Derived.Test.YtbfmholekedflaaMh
import Derived.Test.YtbfmholekedflaaMi
import Derived.Test.YtbfmholekedflaaGl
namespace Go.Proofs.Ytbfmholekedflaa.fnExactSureMass
open Go.ChangeShapes Go.WideShapes Go.ChangeAt Go.RowKit
open Go.ChangeMaps (open_string shut_string)
set_option linter.unusedVariables false

set_option maxHeartbeats 4000000 in
theorem walk (a0 : Int) (a1 : Int) (w : World) (w0 : Fits a0) (w1 : Fits a1) :
    Calls Try.prog 4 #[.int .i64 a0, .int .i64 a1] w fun e w' => e = .returned (.bool true) ∧ Below w.heap.size w w' := by
  have hlen : (selL (validB a0 a1) (sureL a0 a1)).length ≤ 16 := by
    unfold selL
    split
    · rename_i h
      obtain ⟨N, hN, _, _, hN16⟩ := pow_form (s := a0) (validB_of h).1
      rw [sureL_len _ hN]
      exact hN16
    · simp
  obtain ⟨Z, hZ⟩ : ∃ Z, selL (validB a0 a1) (sureL a0 a1) = Z := ⟨_, rfl⟩
  obtain ⟨S, hS⟩ : ∃ S, sel (validB a0 a1) a0 = S := ⟨_, rfl⟩
  obtain ⟨b, hb0⟩ : ∃ b, validB a0 a1 = b := ⟨_, rfl⟩
  have HS := Lib.hid (show ∀ w e w', MassOk w (validB a0 a1) a0 (sureL a0 a1) e w' → ∃ A C, e = .returned (.tuple #[.agg #[.int .i64 S, .slice A Z.length C], .bool b]) ∧ Own w' w.heap.size (.slice A Z.length C) Z ∧ Below w.heap.size w w' from by intro w e w' h; unfold MassOk at h; rw [hZ, hS, hb0] at h; exact h)
  have hbb : (b != b) = false := by simp
  rw [hZ] at hlen
  clear hZ hS hb0
  have HB := Lib.hid (Below.refl w.heap.size w)
  go_enter Try.func4, Try.ntmps4
  go_wp2_with fail
  refine ((spec_SureMass_c a0 a1 _).mono (HS.out _)).mono ?_
  rintro e v1 ⟨A0, C0, rfl, ho, hb⟩
  have hA : Below w.heap.size w v1 := Below.trans (by repeat (first | exact Below.refl _ _ | (refine Below.alloc ?_ (by first | (simp <;> omega) | omega) _) | (refine Below.setCell ?_ (by first | (simp <;> omega) | omega) _) | (refine Below.drew ?_) | (refine below_drewN ?_ _))) (hb.mono (by first | exact Nat.le_refl _ | (simp <;> omega) | omega))
  have hsv1 : w.heap.size ≤ v1.heap.size := hA.size
  replace HB := Lib.hid (HB.out.trans (hA.mono HB.out.size))
  have LOw : Hid (∀ g, (.slice A0 Z.length C0 : Value).ownBlock = some g → w.heap.size + 0 ≤ g ∧ g < v1.heap.size) := Lib.hid (fun g hg => by have := ho.lt g hg; first | omega | (simp at this; omega) | (simp at this ⊢; omega))
  have Ow := Lib.hid ho
  clear hb hA ho
  go_wp2_with fail
  refine ((impl_SureMass_c a0 a1 _).mono (HS.out _)).mono ?_
  rintro e v2 ⟨A1, C1, rfl, ho, hb⟩
  have hA : Below v1.heap.size v1 v2 := Below.trans (by repeat (first | exact Below.refl _ _ | (refine Below.alloc ?_ (by first | (simp <;> omega) | omega) _) | (refine Below.setCell ?_ (by first | (simp <;> omega) | omega) _) | (refine Below.drew ?_) | (refine below_drewN ?_ _))) (hb.mono (by first | exact Nat.le_refl _ | (simp <;> omega) | omega))
  have hsv2 : v1.heap.size + 1 ≤ v2.heap.size := by have := hb.size; first | (simp at this; omega) | omega
  have kw0 : v2.cell? ⟨v1.heap.size, 0, none⟩ = some (.int .i64 S) := (hb.cell (by show v1.heap.size < _; first | (simp <;> omega) | omega)).trans (by go_simp)
  have kw1 : v2.cell? ⟨v1.heap.size, 1, none⟩ = some (.slice A0 Z.length C0) := (hb.cell (by show v1.heap.size < _; first | (simp <;> omega) | omega)).trans (by go_simp)
  replace Ow := Lib.hid (Ow.out.below hA (fun g hg => (Ow.out.lt g hg).2))
  replace HB := Lib.hid (HB.out.trans (hA.mono HB.out.size))
  have LOg : Hid (∀ g, (.slice A1 Z.length C1 : Value).ownBlock = some g → v1.heap.size + 1 ≤ g ∧ g < v2.heap.size) := Lib.hid (fun g hg => by have := ho.lt g hg; first | omega | (simp at this; omega) | (simp at this ⊢; omega))
  have Og := Lib.hid ho
  clear hb hA ho
  have z0v2 : v1.heap.size < v2.heap.size := by omega
  go_wp2_with fail
  refine (eqMass_c _ _ _ _ _ _ Z _ (Og.out.rowAt.alloc _) (Ow.out.rowAt.alloc _)).mono ?_
  rintro e v3 ⟨rfl, hb⟩
  have hA : Below v2.heap.size v2 v3 := Below.trans (by repeat (first | exact Below.refl _ _ | (refine Below.alloc ?_ (by first | (simp <;> omega) | omega) _) | (refine Below.setCell ?_ (by first | (simp <;> omega) | omega) _) | (refine Below.drew ?_) | (refine below_drewN ?_ _))) (hb.mono (by first | exact Nat.le_refl _ | (simp <;> omega) | omega))
  have hsv3 : v2.heap.size + 1 ≤ v3.heap.size := by have := hb.size; first | (simp at this; omega) | omega
  replace kw0 : v3.cell? ⟨v1.heap.size, 0, none⟩ = some (.int .i64 S) := (hA.cell (by show v1.heap.size < _; omega)).trans kw0
  replace kw1 : v3.cell? ⟨v1.heap.size, 1, none⟩ = some (.slice A0 Z.length C0) := (hA.cell (by show v1.heap.size < _; omega)).trans kw1
  have kg0 : v3.cell? ⟨v2.heap.size, 0, none⟩ = some (.int .i64 S) := (hb.cell (by show v2.heap.size < _; first | (simp <;> omega) | omega)).trans (by go_simp)
  have kg1 : v3.cell? ⟨v2.heap.size, 1, none⟩ = some (.slice A1 Z.length C1) := (hb.cell (by show v2.heap.size < _; first | (simp <;> omega) | omega)).trans (by go_simp)
  replace Ow := Lib.hid (Ow.out.below hA (fun g hg => (Ow.out.lt g hg).2))
  replace Og := Lib.hid (Og.out.below hA (fun g hg => (Og.out.lt g hg).2))
  replace HB := Lib.hid (HB.out.trans (hA.mono HB.out.size))
  clear hb hA
  have z0v3 : v1.heap.size < v3.heap.size := by omega
  have z1v3 : v2.heap.size < v3.heap.size := by omega
  clear z0v2
  go_wp2_with fail
  refine (markMass_c _ _ Z _ _ _ 1 (by omega) (by omega) _ rfl Og.out).mono ?_
  rintro e v4 ⟨rfl, ho, hg⟩
  have hsv4 : v3.heap.size ≤ v4.heap.size := hg.size
  replace kw0 : v4.cell? ⟨v1.heap.size, 0, none⟩ = some (.int .i64 S) := hg.cell kw0 (by intro e; have h1 := LOg.out _ e.symm; first | omega | (simp at h1; omega) | (simp at h1))
  replace kw1 : v4.cell? ⟨v1.heap.size, 1, none⟩ = some (.slice A0 Z.length C0) := hg.cell kw1 (by intro e; have h1 := LOg.out _ e.symm; first | omega | (simp at h1; omega) | (simp at h1))
  replace kg0 : v4.cell? ⟨v2.heap.size, 0, none⟩ = some (.int .i64 S) := hg.cell kg0 (by intro e; have h1 := LOg.out _ e.symm; first | omega | (simp at h1; omega) | (simp at h1))
  replace kg1 : v4.cell? ⟨v2.heap.size, 1, none⟩ = some (.slice A1 Z.length C1) := hg.cell kg1 (by intro e; have h1 := LOg.out _ e.symm; first | omega | (simp at h1; omega) | (simp at h1))
  replace Ow := Lib.hid (Ow.out.grown hg (by
    rcases hy : (.slice A0 Z.length C0 : Value).ownBlock with _ | g
    · exact .inl rfl
    · right; intro e; have h1 := LOw.out g hy; have h2 := LOg.out g e.symm; omega))
  replace HB := Lib.hid (HB.out.grown hg HB.out.size (fun k hk => by have h1 := LOg.out k hk; omega))
  replace Og := Lib.hid ho
  clear ho hg
  have z0v4 : v1.heap.size < v4.heap.size := by omega
  have z1v4 : v2.heap.size < v4.heap.size := by omega
  clear z0v3 z1v3
  go_wp2_with fail
  refine (heldMass_c _ _ _ _ 1 (by omega) (by omega) _ Og.out.rowAt).mono ?_
  rintro e v5 ⟨rfl, hb⟩
  have hA : Below v4.heap.size v4 v5 := Below.trans (by repeat (first | exact Below.refl _ _ | (refine Below.alloc ?_ (by first | (simp <;> omega) | omega) _) | (refine Below.setCell ?_ (by first | (simp <;> omega) | omega) _) | (refine Below.drew ?_) | (refine below_drewN ?_ _))) (hb.mono (by first | exact Nat.le_refl _ | (simp <;> omega) | omega))
  have hsv5 : v4.heap.size ≤ v5.heap.size := hA.size
  replace kw0 : v5.cell? ⟨v1.heap.size, 0, none⟩ = some (.int .i64 S) := (hA.cell (by show v1.heap.size < _; omega)).trans kw0
  replace kw1 : v5.cell? ⟨v1.heap.size, 1, none⟩ = some (.slice A0 Z.length C0) := (hA.cell (by show v1.heap.size < _; omega)).trans kw1
  replace kg0 : v5.cell? ⟨v2.heap.size, 0, none⟩ = some (.int .i64 S) := (hA.cell (by show v2.heap.size < _; omega)).trans kg0
  replace kg1 : v5.cell? ⟨v2.heap.size, 1, none⟩ = some (.slice A1 Z.length C1) := (hA.cell (by show v2.heap.size < _; omega)).trans kg1
  replace Ow := Lib.hid (Ow.out.below hA (fun g hg => (Ow.out.lt g hg).2))
  replace Og := Lib.hid (Og.out.below hA (fun g hg => (Og.out.lt g hg).2))
  replace HB := Lib.hid (HB.out.trans (hA.mono HB.out.size))
  clear hb hA
  have z0v5 : v1.heap.size < v5.heap.size := by omega
  have z1v5 : v2.heap.size < v5.heap.size := by omega
  clear z0v4 z1v4
  go_wp2_with fail
  refine ((impl_SureMass_c a0 a1 _).mono (HS.out _)).mono ?_
  rintro e v6 ⟨A2, C2, rfl, ho, hb⟩
  have hA : Below v5.heap.size v5 v6 := Below.trans (by repeat (first | exact Below.refl _ _ | (refine Below.alloc ?_ (by first | (simp <;> omega) | omega) _) | (refine Below.setCell ?_ (by first | (simp <;> omega) | omega) _) | (refine Below.drew ?_) | (refine below_drewN ?_ _))) (hb.mono (by first | exact Nat.le_refl _ | (simp <;> omega) | omega))
  have hsv6 : v5.heap.size ≤ v6.heap.size := hA.size
  replace kw0 : v6.cell? ⟨v1.heap.size, 0, none⟩ = some (.int .i64 S) := (hA.cell (by show v1.heap.size < _; omega)).trans kw0
  replace kw1 : v6.cell? ⟨v1.heap.size, 1, none⟩ = some (.slice A0 Z.length C0) := (hA.cell (by show v1.heap.size < _; omega)).trans kw1
  replace kg0 : v6.cell? ⟨v2.heap.size, 0, none⟩ = some (.int .i64 S) := (hA.cell (by show v2.heap.size < _; omega)).trans kg0
  replace kg1 : v6.cell? ⟨v2.heap.size, 1, none⟩ = some (.slice A1 Z.length C1) := (hA.cell (by show v2.heap.size < _; omega)).trans kg1
  replace Ow := Lib.hid (Ow.out.below hA (fun g hg => (Ow.out.lt g hg).2))
  replace Og := Lib.hid (Og.out.below hA (fun g hg => (Og.out.lt g hg).2))
  replace HB := Lib.hid (HB.out.trans (hA.mono HB.out.size))
  have LOh : Hid (∀ g, (.slice A2 Z.length C2 : Value).ownBlock = some g → v5.heap.size + 0 ≤ g ∧ g < v6.heap.size) := Lib.hid (fun g hg => by have := ho.lt g hg; first | omega | (simp at this; omega) | (simp at this ⊢; omega))
  have Oh := Lib.hid ho
  clear hb hA ho
  have z0v6 : v1.heap.size < v6.heap.size := by omega
  have z1v6 : v2.heap.size < v6.heap.size := by omega
  clear z0v5 z1v5
  go_wp2_with fail
  refine (eqMass_c _ _ _ _ _ _ Z _ (Oh.out.rowAt.alloc _) (Ow.out.rowAt.alloc _)).mono ?_
  rintro e v7 ⟨rfl, hb⟩
  have hA : Below v6.heap.size v6 v7 := Below.trans (by repeat (first | exact Below.refl _ _ | (refine Below.alloc ?_ (by first | (simp <;> omega) | omega) _) | (refine Below.setCell ?_ (by first | (simp <;> omega) | omega) _) | (refine Below.drew ?_) | (refine below_drewN ?_ _))) (hb.mono (by first | exact Nat.le_refl _ | (simp <;> omega) | omega))
  have hsv7 : v6.heap.size + 1 ≤ v7.heap.size := by have := hb.size; first | (simp at this; omega) | omega
  replace kw0 : v7.cell? ⟨v1.heap.size, 0, none⟩ = some (.int .i64 S) := (hA.cell (by show v1.heap.size < _; omega)).trans kw0
  replace kw1 : v7.cell? ⟨v1.heap.size, 1, none⟩ = some (.slice A0 Z.length C0) := (hA.cell (by show v1.heap.size < _; omega)).trans kw1
  replace kg0 : v7.cell? ⟨v2.heap.size, 0, none⟩ = some (.int .i64 S) := (hA.cell (by show v2.heap.size < _; omega)).trans kg0
  replace kg1 : v7.cell? ⟨v2.heap.size, 1, none⟩ = some (.slice A1 Z.length C1) := (hA.cell (by show v2.heap.size < _; omega)).trans kg1
  have kh0 : v7.cell? ⟨v6.heap.size, 0, none⟩ = some (.int .i64 S) := (hb.cell (by show v6.heap.size < _; first | (simp <;> omega) | omega)).trans (by go_simp)
  have kh1 : v7.cell? ⟨v6.heap.size, 1, none⟩ = some (.slice A2 Z.length C2) := (hb.cell (by show v6.heap.size < _; first | (simp <;> omega) | omega)).trans (by go_simp)
  replace Ow := Lib.hid (Ow.out.below hA (fun g hg => (Ow.out.lt g hg).2))
  replace Og := Lib.hid (Og.out.below hA (fun g hg => (Og.out.lt g hg).2))
  replace Oh := Lib.hid (Oh.out.below hA (fun g hg => (Oh.out.lt g hg).2))
  replace HB := Lib.hid (HB.out.trans (hA.mono HB.out.size))
  clear hb hA
  have z0v7 : v1.heap.size < v7.heap.size := by omega
  have z1v7 : v2.heap.size < v7.heap.size := by omega
  have z2v7 : v6.heap.size < v7.heap.size := by omega
  clear z0v6 z1v6
  go_wp2_with fail
  refine (heldMass_c _ _ _ _ 1 (by omega) (by omega) _ Og.out.rowAt).mono ?_
  rintro e v8 ⟨rfl, hb⟩
  have hA : Below v7.heap.size v7 v8 := Below.trans (by repeat (first | exact Below.refl _ _ | (refine Below.alloc ?_ (by first | (simp <;> omega) | omega) _) | (refine Below.setCell ?_ (by first | (simp <;> omega) | omega) _) | (refine Below.drew ?_) | (refine below_drewN ?_ _))) (hb.mono (by first | exact Nat.le_refl _ | (simp <;> omega) | omega))
  have hsv8 : v7.heap.size ≤ v8.heap.size := hA.size
  replace kw0 : v8.cell? ⟨v1.heap.size, 0, none⟩ = some (.int .i64 S) := (hA.cell (by show v1.heap.size < _; omega)).trans kw0
  replace kw1 : v8.cell? ⟨v1.heap.size, 1, none⟩ = some (.slice A0 Z.length C0) := (hA.cell (by show v1.heap.size < _; omega)).trans kw1
  replace kg0 : v8.cell? ⟨v2.heap.size, 0, none⟩ = some (.int .i64 S) := (hA.cell (by show v2.heap.size < _; omega)).trans kg0
  replace kg1 : v8.cell? ⟨v2.heap.size, 1, none⟩ = some (.slice A1 Z.length C1) := (hA.cell (by show v2.heap.size < _; omega)).trans kg1
  replace kh0 : v8.cell? ⟨v6.heap.size, 0, none⟩ = some (.int .i64 S) := (hA.cell (by show v6.heap.size < _; omega)).trans kh0
  replace kh1 : v8.cell? ⟨v6.heap.size, 1, none⟩ = some (.slice A2 Z.length C2) := (hA.cell (by show v6.heap.size < _; omega)).trans kh1
  replace Ow := Lib.hid (Ow.out.below hA (fun g hg => (Ow.out.lt g hg).2))
  replace Og := Lib.hid (Og.out.below hA (fun g hg => (Og.out.lt g hg).2))
  replace Oh := Lib.hid (Oh.out.below hA (fun g hg => (Oh.out.lt g hg).2))
  replace HB := Lib.hid (HB.out.trans (hA.mono HB.out.size))
  clear hb hA
  have z0v8 : v1.heap.size < v8.heap.size := by omega
  have z1v8 : v2.heap.size < v8.heap.size := by omega
  have z2v8 : v6.heap.size < v8.heap.size := by omega
  clear z0v7 z1v7 z2v7
  go_wp2_with fail
  go_ret
  exact ⟨rfl, HB.out⟩

set_option maxRecDepth 100000 in
theorem lifted (os : Os) (started : os.Started) (H : Type) (enc : TypeId × Value → H) :
    ReturnsInHanded {} Try.checked os 4 .any (Rows.fnExactSureMassSpec.pre6 enc Try.prog Try.f4 Rows.fnExactSureMassRow.domain false) (Rows.fnExactSureMassSpec.post enc Try.prog Try.f4 false true false false) := by
  refine returnsInHanded_of_change (C := Try.checked) own started (by kernel_rfl) Try.func4
    (ChangeSpec.witness6 (enc := enc) (C := Try.checked) false ⟨#[], #[.int .i64 0, .int .i64 0], []⟩ 8 (by kernel_rfl) (by kernel_rfl) (by kernel_rfl) (by kernel_rfl)) ?_
  intro W base args ds gs before hval0 hW hcnd _
  have hval : ∀ (j : Nat) t v, Try.f4.params[j]? = some t → args[j]? = some v → Value.okWide Try.prog W .any base t v := hval0
  have hW' := hW
  obtain ⟨p, q, hA0, hV, rfl, hfz, hnd⟩ := hW
  have hA : DataW.TrodAll enc Try.prog W 0 (fun _ => true) true Try.f4.params.toList args.toList ds p := hA0
  rw [Try.params4] at hA hval
  obtain ⟨v0, vs0, d0, ds0, p0, q0, hargs, rfl, rfl, h0, r0⟩ := trodAll_cons hA
  obtain ⟨v1, vs1, d1, ds1, p1, q1, rfl, rfl, rfl, h1, r1⟩ := trodAll_cons r0
  obtain ⟨rfl, rfl, rfl⟩ := trodAll_nil r1
  obtain rfl : args = #[v0, v1] := by cases args; simp_all
  obtain ⟨rfl, rfl⟩ := trodVars_none hV
  have k0 := h0
  have lt0 : ∀ x ∈ p0, x.block < W.heap.size := by obtain ⟨m, hm⟩ := k0; exact DataW.trod_lt m _ _ _ hm
  obtain ⟨a0, rfl, w0⟩ := get_int Try.underlying3 (hval 0 3 v0 rfl rfl) h0
  have k1 := h1
  have lt1 : ∀ x ∈ p1, x.block < W.heap.size := by obtain ⟨m, hm⟩ := k1; exact DataW.trod_lt m _ _ _ hm
  obtain ⟨a1, rfl, w1⟩ := get_int Try.underlying3 (hval 1 3 v1 rfl rfl) h1
  clear hA0 hval0
  refine (walk a0 a1 W w0 w1).mono fun e W' ⟨he, bel⟩ => ?_
  subst he
  exact ⟨_, rfl, _, _, _, [], _, [], hW', trodAll_mk1 (shut_bool Try.underlying4 _), (trodAll_cons_mk (Below.trod laidOut (by kernel_rfl) (of_decide_eq_true (by kernel_rfl)) k0 bel lt0) (trodAll_cons_mk (Below.trod laidOut (by kernel_rfl) (of_decide_eq_true (by kernel_rfl)) k1 bel lt1) trodAll_mk0)), rfl, bel.frame _, fun h => by cases h⟩

theorem closed : joinedFacts Try.prog 4 Try.f4 Rows.fnExactSureMassSpec Rows.fnExactSureMassRow = true := by
  rw [joinedFacts.eq_1]
  simp only [Bool.and_eq_true]
  repeat' apply And.intro
  all_goals first | (with_reducible exact fact_enter) | (with_reducible exact laidOut) | (with_reducible exact fact_maps) | (with_reducible exact fact_heard) | (rw [fact_lifts]; try (as_aux_lemma => kernel_rfl)) | (rw [fact_make]; try (as_aux_lemma => kernel_rfl)) | (rw [fact_keys]; try (as_aux_lemma => kernel_rfl)) | (as_aux_lemma => kernel_rfl)

theorem holds : Rows.FnExactSureMassSaid :=
  OpenClaim.holds_of_wide 4 Try.f4 rfl rfl rfl rfl rfl rfl rfl ⟨rfl, rfl, rfl, rfl, rfl⟩ rfl rfl rfl rfl rfl (by kernel_rfl) Try.func4 closed
    (of_decide_eq_true (by kernel_rfl)) (by unfold Func.isWrapper; rw [if_neg (of_decide_eq_false (by kernel_rfl))]; exact ⟨rfl, rfl⟩)
    (fun os started H enc _ => lifted os started H enc)
#print axioms holds
end Go.Proofs.Ytbfmholekedflaa.fnExactSureMass
