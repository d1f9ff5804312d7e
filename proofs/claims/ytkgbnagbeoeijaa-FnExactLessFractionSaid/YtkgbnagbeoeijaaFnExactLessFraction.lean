/- FnExactLessFraction: for every input that can be read, the law returns true and its arguments read afterwards as before. Conditions: none. -/
import Derived.Test.YtkgbnagbeoeijaaMem
import Derived.Test.YtkgbnagbeoeijaaSigns
import Derived.Test.YtkgbnagbeoeijaaPlainB
import Derived.Test.YtkgbnagbeoeijaaWm
import Derived.Test.YtkgbnagbeoeijaaWc
import Derived.Test.YtkgbnagbeoeijaaWe
import Derived.Test.YtkgbnagbeoeijaaWf
import Derived.Test.YtkgbnagbeoeijaaWg
import Derived.Deep.RegionHeld3
import Derived.Deep.DeepCutAuto
namespace Go.Proofs.Ytkgbnagbeoeijaa.fnExactLessFraction
open Go.ChangeShapes Go.WideShapes Go.ChangeAt Go.RowKit
open Go.ChangeMaps (open_string shut_string)
set_option linter.unusedVariables false

theorem walk (x0 y0 : Int) (x1 y1 : Int) (w : World) (wx0 : Fits x0) (wy0 : Fits y0) (wx1 : Fits x1) (wy1 : Fits y1) :
    Calls Try.prog 4 #[.agg #[.int .i64 x0, .int .i64 y0], .agg #[.int .i64 x1, .int .i64 y1]] w fun e w' => e = .returned (.bool true) ∧ Below w.heap.size w w' := by
  go_enter Try.func4, Try.ntmps4
  go_upto_region 1 with fail
  go_cut [5] (fun s3 wx => s3 = .bool (lessB x0 y0 x1 y1) ∧ C2 wx w.heap.size x0 y0 x1 y1 ∧ w.heap.size + 1 < wx.heap.size ∧ Below w.heap.size w wx)
  case first =>
    have HBEL := Lib.hid (Below.refl w.heap.size w)
    go_region_held3 (fun w' => w'.cell? ⟨w.heap.size, 0, none⟩ = some (.int .i64 x0) ∧ w'.cell? ⟨w.heap.size, 1, none⟩ = some (.int .i64 y0) ∧ w'.cell? ⟨w.heap.size + 1, 0, none⟩ = some (.int .i64 x1) ∧ w'.cell? ⟨w.heap.size + 1, 1, none⟩ = some (.int .i64 y1))
      (refine ⟨?_, ?_, ?_, ?_⟩ <;> go_simp)
      (first
        | (go_at_call 17; refine (toFraction_c _ _ _).mono ?_; rintro e w' ⟨rfl, hb⟩; (try (with_reducible replace hb := nodrew hb)); have hsz := hb.size; (try simp at hsz); have q0 : w.heap.size < w'.heap.size := (by omega); have q1 : w.heap.size + 1 < w'.heap.size := (by omega); (try have q2 : w.heap.size + 1 + 1 < w'.heap.size := (by omega)); (try have q3 := lt_of_alloc hb); obtain ⟨hc, hf⟩ := bcell hb)
        | (go_at_call 19; refine (spec_Less_c _ _ _ _ _).mono ?_; rintro e w' ⟨rfl, hb⟩; (try (with_reducible replace hb := nodrew hb)); have hsz := hb.size; (try simp at hsz); have q0 : w.heap.size < w'.heap.size := (by omega); have q1 : w.heap.size + 1 < w'.heap.size := (by omega); (try have q2 : w.heap.size + 1 + 1 < w'.heap.size := (by omega)); (try have q3 := lt_of_alloc hb); obtain ⟨hc, hf⟩ := bcell hb))
    all_goals
      go_wp2_with fail
      go_meet
      refine ⟨rfl, ?_, ?_, ?_⟩
      · exact c2_of (by assumption)
      · first | (simp <;> omega) | omega
      · (repeat (first | exact HBEL.out | exact Below.refl _ _ | (refine Below.setCell ?_ (by first | exact Nat.le_refl _ | (simp <;> omega) | omega) _) | (refine Below.alloc ?_ (by first | exact Nat.le_refl _ | (simp <;> omega) | omega) _) | (refine below_drewN ?_ _) | (refine Below.drew ?_) | (apply chain; assumption; (first | omega | (simp <;> omega)))))
  case rest =>
    obtain ⟨rfl, ⟨⟨a0, a1⟩, ⟨a2, a3⟩⟩, k2, hA⟩ := hcut
    have HBEL := Lib.hid hA
    have k3 : w.heap.size < wc.heap.size := by omega
    clear hA
    go_upto_region 2 with fail
    go_cut [6] (fun s3 wx => s3 = .bool (lessB x0 y0 x1 y1) ∧ Below w.heap.size w wx)
    case first =>
      go_region_held3 (fun w' => w'.cell? ⟨w.heap.size, 0, none⟩ = some (.int .i64 x0) ∧ w'.cell? ⟨w.heap.size, 1, none⟩ = some (.int .i64 y0) ∧ w'.cell? ⟨w.heap.size + 1, 0, none⟩ = some (.int .i64 x1) ∧ w'.cell? ⟨w.heap.size + 1, 1, none⟩ = some (.int .i64 y1))
        (refine ⟨?_, ?_, ?_, ?_⟩ <;> go_simp)
        (first
          | (go_at_call 17; refine (toFraction_c _ _ _).mono ?_; rintro e w' ⟨rfl, hb⟩; (try (with_reducible replace hb := nodrew hb)); have hsz := hb.size; (try simp at hsz); have q0 : w.heap.size < w'.heap.size := (by omega); have q1 : w.heap.size + 1 < w'.heap.size := (by omega); (try have q2 : w.heap.size + 1 + 1 < w'.heap.size := (by omega)); (try have q3 := lt_of_alloc hb); obtain ⟨hc, hf⟩ := bcell hb)
          | (go_at_call 20; refine (impl_Less_c _ _ _ _ _).mono ?_; rintro e w' ⟨rfl, hb⟩; (try (with_reducible replace hb := nodrew hb)); have hsz := hb.size; (try simp at hsz); have q0 : w.heap.size < w'.heap.size := (by omega); have q1 : w.heap.size + 1 < w'.heap.size := (by omega); (try have q2 : w.heap.size + 1 + 1 < w'.heap.size := (by omega)); (try have q3 := lt_of_alloc hb); obtain ⟨hc, hf⟩ := bcell hb))
      all_goals
        go_wp2_with fail
        go_meet
        refine ⟨rfl, ?_⟩
        · (repeat (first | exact HBEL.out | exact Below.refl _ _ | (refine Below.setCell ?_ (by first | exact Nat.le_refl _ | (simp <;> omega) | omega) _) | (refine Below.alloc ?_ (by first | exact Nat.le_refl _ | (simp <;> omega) | omega) _) | (refine below_drewN ?_ _) | (refine Below.drew ?_) | (apply chain; assumption; (first | omega | (simp <;> omega)))))
    case rest =>
      obtain ⟨rfl, hA⟩ := hcut
      have HA := Lib.hid hA
      clear hA HBEL
      go_wp2_with fail
      go_ret
      exact ⟨rfl, HA.out⟩

set_option maxRecDepth 100000 in
theorem lifted (os : Os) (started : os.Started) (H : Type) (enc : TypeId × Value → H) :
    ReturnsInHanded {} Try.checked os 4 .any (Rows.fnExactLessFractionSpec.pre6 enc Try.prog Try.f4 Rows.fnExactLessFractionRow.domain false) (Rows.fnExactLessFractionSpec.post enc Try.prog Try.f4 false true false false) := by
  refine returnsInHanded_of_change (C := Try.checked) own started (by kernel_rfl) Try.func4
    (ChangeSpec.witness6 (enc := enc) (C := Try.checked) false ⟨#[], #[.agg #[.int .i64 0, .int .i64 0], .agg #[.int .i64 0, .int .i64 0]], []⟩ 8 (by kernel_rfl) (by kernel_rfl) (by kernel_rfl) (by kernel_rfl)) ?_
  intro W base args ds gs before hval0 hW hcnd _
  have hval : ∀ (j : Nat) t v, Try.f4.params[j]? = some t → args[j]? = some v → Value.okWide Try.prog W .any base t v := hval0
  have hW' := hW
  obtain ⟨p, q, hA0, hV, rfl, hfz, hnd⟩ := hW
  have hA : DataW.TrodAll enc Try.prog W 0 (fun _ => true) true Try.f4.params.toList args.toList ds p := hA0
  rw [Try.params4] at hA hval
  obtain ⟨v0, vs0, d0, ds0, p0, q0, hargs, rfl, rfl, h0, r0⟩ := trodAll_cons hA
  obtain ⟨v1, vs1, d1, ds1, p1, q1, rfl, rfl, rfl, h1, r1⟩ := trodAll_cons r0
  obtain ⟨rfl, rfl, rfl⟩ := trodAll_nil r1
  obtain rfl : args = #[v0, v1] := by cases args; simp_all
  obtain ⟨rfl, rfl⟩ := trodVars_none hV
  have k0 := h0
  have lt0 : ∀ x ∈ p0, x.block < W.heap.size := by obtain ⟨m, hm⟩ := k0; exact DataW.trod_lt m _ _ _ hm
  obtain ⟨x0, y0, rfl, wx0, wy0⟩ := get_frac Try.underlying23 (by kernel_rfl) (by kernel_rfl) Try.underlying3 (hval 0 23 v0 rfl rfl) h0
  have k1 := h1
  have lt1 : ∀ x ∈ p1, x.block < W.heap.size := by obtain ⟨m, hm⟩ := k1; exact DataW.trod_lt m _ _ _ hm
  obtain ⟨x1, y1, rfl, wx1, wy1⟩ := get_frac Try.underlying23 (by kernel_rfl) (by kernel_rfl) Try.underlying3 (hval 1 23 v1 rfl rfl) h1
  clear hA0 hval0
  refine (walk x0 y0 x1 y1 W wx0 wy0 wx1 wy1).mono fun e W' ⟨he, bel⟩ => ?_
  subst he
  exact ⟨_, rfl, _, _, _, [], _, [], hW', trodAll_mk1 (shut_bool Try.underlying4 _), (trodAll_cons_mk (Below.trod laidOut (by kernel_rfl) (of_decide_eq_true (by kernel_rfl)) k0 bel lt0) (trodAll_cons_mk (Below.trod laidOut (by kernel_rfl) (of_decide_eq_true (by kernel_rfl)) k1 bel lt1) trodAll_mk0)), rfl, bel.frame _, fun h => by cases h⟩

theorem closed : joinedFacts Try.prog 4 Try.f4 Rows.fnExactLessFractionSpec Rows.fnExactLessFractionRow = true := by
  rw [joinedFacts.eq_1]
  simp only [Bool.and_eq_true]
  repeat' apply And.intro
  all_goals first | (with_reducible exact fact_enter) | (with_reducible exact laidOut) | (with_reducible exact fact_maps) | (with_reducible exact fact_heard) | (rw [fact_lifts]; try (as_aux_lemma => kernel_rfl)) | (rw [fact_make]; try (as_aux_lemma => kernel_rfl)) | (rw [fact_keys]; try (as_aux_lemma => kernel_rfl)) | (as_aux_lemma => kernel_rfl)

theorem holds : Rows.FnExactLessFractionSaid :=
  OpenClaim.holds_of_wide 4 Try.f4 rfl rfl rfl rfl rfl rfl rfl ⟨rfl, rfl, rfl, rfl, rfl⟩ rfl rfl rfl rfl rfl (by kernel_rfl) Try.func4 closed
    (of_decide_eq_true (by kernel_rfl)) (by unfold Func.isWrapper; rw [if_neg (of_decide_eq_false (by kernel_rfl))]; exact ⟨rfl, rfl⟩)
    (fun os started H enc _ => lifted os started H enc)
#print axioms holds
end Go.Proofs.Ytkgbnagbeoeijaa.fnExactLessFraction
