/- FnKinds: for every input that can be read, the law returns true and its arguments read afterwards as before. Conditions: none. -/
import Derived.Test.YtemollfejgmlcaaMem
import Derived.Test.YtemollfejgmlcaaSigns
import Derived.Test.YtemollfejgmlcaaPlainE
import Derived.Test.YtemollfejgmlcaaPlainJ
import Derived.Test.YtemollfejgmlcaaWm
import Derived.Test.YtemollfejgmlcaaWa
import Derived.Test.YtemollfejgmlcaaMa
import Derived.Test.YtemollfejgmlcaaMb
import Derived.Test.YtemollfejgmlcaaMc
import Derived.Test.YtemollfejgmlcaaMd
import Derived.Test.YtemollfejgmlcaaMe
import Derived.Test.YtemollfejgmlcaaMf
import Derived.Test.YtemollfejgmlcaaMg
import Derived.Test.YtemollfejgmlcaaGl
import Derived.Test.YtemollfejgmlcaaGm
import Derived.Test.YtemollfejgmlcaaMt
import Derived.Deep.RegionHeld3
import Derived.Deep.QuietTactic
import Derived.BigQuiet
namespace Go.Proofs.Ytemollfejgmlcaa.fnKinds
open Go.ChangeShapes Go.WideShapes Go.ChangeAt Go.RowKit
open Go.ChangeMaps (open_string shut_string)
set_option linter.unusedVariables false

set_option maxRecDepth 100000 in
set_option maxHeartbeats 4000000 in
theorem walk (a0 : Option Addr) (len0 cap0 : Nat) (z0 : List Int) (w : World) (w0 : IsRow .u8 w a0 len0 cap0 z0) :
    Calls Try.prog 3 #[.slice a0 len0 cap0] w fun e w' => e = .returned (.bool true) ∧ Below w.heap.size w w' := by
  by_cases hn : len0 ≤ 1048576
  · have hn2 : (len0 : Int) ≤ 1048576 := by omega
    have HW := Lib.hid w0
    clear w0
    have HB := Lib.hid (Below.refl w.heap.size w)
    go_enter Try.func3, Try.ntmps3
    go_wp2_with fail
    refine (DrawIsNested_c _ _ _ _ _ HW.out).mono ?_
    rintro e v1 ⟨s, ys, A, C, rfl, ⟨hF, hL, hE, ho⟩, hb⟩
    have hA : Below w.heap.size w v1 := Below.trans (by repeat (first | exact Below.refl _ _ | (refine Below.alloc ?_ (by first | (simp <;> omega) | omega) _) | (refine Below.setCell ?_ (by first | (simp <;> omega) | omega) _) | (refine Below.drew ?_) | (refine below_drewN ?_ _))) (hb.mono (by first | exact Nat.le_refl _ | (simp <;> omega) | omega))
    have hsv1 : w.heap.size ≤ v1.heap.size := hA.size
    replace HB := Lib.hid (HB.out.trans (hA.mono HB.out.size))
    have LM : Hid (∀ g, (.slice A ys.length C : Value).ownBlock = some g → w.heap.size + 0 ≤ g ∧ g < v1.heap.size) := Lib.hid (fun g hg => by have := ho.lt g hg; first | omega | (simp at this; omega) | (simp at this ⊢; omega))
    have M := Lib.hid ho
    clear hb hA ho
    clear hF hE
    go_wp2_with fail
    obtain ⟨v2, hv⟩ : ∃ x, x = v1.alloc (.cells #[.int .i64 s, .slice A ys.length C] 25) := ⟨_, rfl⟩
    rw [← hv]
    have hA : Below v1.heap.size v1 v2 := by rw [hv]; exact (Below.refl _ _).alloc (Nat.le_refl _) _
    have hsv2 : v1.heap.size + 1 ≤ v2.heap.size := by rw [hv]; simp
    have m0 : v2.cell? ⟨v1.heap.size, 0, none⟩ = some (.int .i64 s) := by rw [hv]; go_simp
    have m1 : v2.cell? ⟨v1.heap.size, 1, none⟩ = some (.slice A ys.length C) := by rw [hv]; go_simp
    replace M := Lib.hid (M.out.below hA (fun g hg => (M.out.lt g hg).2))
    replace HB := Lib.hid (HB.out.trans (hA.mono HB.out.size))
    clear hA hv
    have z0v2 : v1.heap.size < v2.heap.size := by omega
    rcases hm : massB s ys with _ | _
    · have EA := Lib.hid (show normalB s ys = false by simp [normalB, hm])
      have EB := Lib.hid (show chanceB s ys = false by simp [chanceB, hm])
      have EC := Lib.hid (show nestedB s ys = false by simp [nestedB, hm])
      have EM := Lib.hid hm
      clear hm
      have H0 : Hid (Below v2.heap.size v2 v2.drew) := Lib.hid (Below.refl _ _).drew
      have M_0 := Lib.hid M.out.drew
      go_region_held3 (fun w' => w'.cell? ⟨v1.heap.size, 0, none⟩ = some (.int .i64 s) ∧ w'.cell? ⟨v1.heap.size, 1, none⟩ = some (.slice A ys.length C))
        (first
          | with_reducible exact ⟨m0_1, m1_1⟩
          | with_reducible exact ⟨m0_2, m1_2⟩
          | with_reducible exact ⟨m0_3, m1_3⟩
          | exact ⟨m0, m1⟩)
        (first
          | (go_at_call 9; ((with_reducible refine (impl_IsNormal_c _ _ _ _ _ _ (M_0.out).rowAt).mono ?_)); rintro e v3 ⟨rfl, hb⟩; rw [EA.out]; have H1 := Lib.hid (nodrewG hb); have m0_1 : v3.cell? ⟨v1.heap.size, 0, none⟩ = some (.int .i64 s) := (H1.out.cell (by show v1.heap.size < _; omega)).trans m0; have m1_1 : v3.cell? ⟨v1.heap.size, 1, none⟩ = some (.slice A ys.length C) := (H1.out.cell (by show v1.heap.size < _; omega)).trans m1; have M_1 := Lib.hid (M.out.below H1.out (fun g hg => (M.out.lt g hg).2)); clear hb)
          | (go_at_call 10; ((with_reducible refine (impl_IsChance_c _ _ _ _ _ _ (M_1.out).rowAt).mono ?_)); rintro e v4 ⟨rfl, hb⟩; rw [EB.out]; have H2 := Lib.hid (H1.out.trans (hb.mono H1.out.size)); have m0_2 : v4.cell? ⟨v1.heap.size, 0, none⟩ = some (.int .i64 s) := (H2.out.cell (by show v1.heap.size < _; omega)).trans m0; have m1_2 : v4.cell? ⟨v1.heap.size, 1, none⟩ = some (.slice A ys.length C) := (H2.out.cell (by show v1.heap.size < _; omega)).trans m1; have M_2 := Lib.hid (M.out.below H2.out (fun g hg => (M.out.lt g hg).2)); clear hb)
          | (go_at_call 11; ((with_reducible refine (impl_IsNested_c _ _ _ _ _ _ (M_2.out).rowAt).mono ?_)); rintro e v5 ⟨rfl, hb⟩; rw [EC.out]; have H3 := Lib.hid (H2.out.trans (hb.mono H2.out.size)); have m0_3 : v5.cell? ⟨v1.heap.size, 0, none⟩ = some (.int .i64 s) := (H3.out.cell (by show v1.heap.size < _; omega)).trans m0; have m1_3 : v5.cell? ⟨v1.heap.size, 1, none⟩ = some (.slice A ys.length C) := (H3.out.cell (by show v1.heap.size < _; omega)).trans m1; have M_3 := Lib.hid (M.out.below H3.out (fun g hg => (M.out.lt g hg).2)); clear hb))
      have hsv5 : v2.heap.size ≤ v5.heap.size := H3.out.size
      replace m0 := m0_3
      replace m1 := m1_3
      replace M := Lib.hid M_3.out
      replace HB := Lib.hid (HB.out.trans (H3.out.mono HB.out.size))
      clear m0_1 m0_2 m0_3 m1_1 m1_2 m1_3 M_0 M_1 M_2 M_3 H0 H1 H2 H3
      have z0v5 : v1.heap.size < v5.heap.size := by omega
      clear z0v2
      go_wp2_with fail
      refine (spec_IsNormal_c _ _ _ _ _ _ M.out.rowAt).mono ?_
      rintro e v6 ⟨rfl, hb⟩
      have hA : Below v5.heap.size v5 v6 := Below.trans (by repeat (first | exact Below.refl _ _ | (refine Below.alloc ?_ (by first | (simp <;> omega) | omega) _) | (refine Below.setCell ?_ (by first | (simp <;> omega) | omega) _) | (refine Below.drew ?_) | (refine below_drewN ?_ _))) (hb.mono (by first | exact Nat.le_refl _ | (simp <;> omega) | omega))
      have hsv6 : v5.heap.size ≤ v6.heap.size := hA.size
      replace m0 : v6.cell? ⟨v1.heap.size, 0, none⟩ = some (.int .i64 s) := (hA.cell (by show v1.heap.size < _; omega)).trans m0
      replace m1 : v6.cell? ⟨v1.heap.size, 1, none⟩ = some (.slice A ys.length C) := (hA.cell (by show v1.heap.size < _; omega)).trans m1
      replace M := Lib.hid (M.out.below hA (fun g hg => (M.out.lt g hg).2))
      replace HB := Lib.hid (HB.out.trans (hA.mono HB.out.size))
      clear hb hA
      have z0v6 : v1.heap.size < v6.heap.size := by omega
      clear z0v5
      rw [EA.out]
      go_wp2_with fail
      refine (spec_IsChance_c _ _ _ _ _ _ M.out.rowAt).mono ?_
      rintro e v7 ⟨rfl, hb⟩
      have hA : Below v6.heap.size v6 v7 := Below.trans (by repeat (first | exact Below.refl _ _ | (refine Below.alloc ?_ (by first | (simp <;> omega) | omega) _) | (refine Below.setCell ?_ (by first | (simp <;> omega) | omega) _) | (refine Below.drew ?_) | (refine below_drewN ?_ _))) (hb.mono (by first | exact Nat.le_refl _ | (simp <;> omega) | omega))
      have hsv7 : v6.heap.size ≤ v7.heap.size := hA.size
      replace m0 : v7.cell? ⟨v1.heap.size, 0, none⟩ = some (.int .i64 s) := (hA.cell (by show v1.heap.size < _; omega)).trans m0
      replace m1 : v7.cell? ⟨v1.heap.size, 1, none⟩ = some (.slice A ys.length C) := (hA.cell (by show v1.heap.size < _; omega)).trans m1
      replace M := Lib.hid (M.out.below hA (fun g hg => (M.out.lt g hg).2))
      replace HB := Lib.hid (HB.out.trans (hA.mono HB.out.size))
      clear hb hA
      have z0v7 : v1.heap.size < v7.heap.size := by omega
      clear z0v6
      rw [EB.out]
      go_wp2_with fail
      refine (spec_IsNested_c _ _ _ _ _ _ M.out.rowAt).mono ?_
      rintro e v8 ⟨rfl, hb⟩
      have hA : Below v7.heap.size v7 v8 := Below.trans (by repeat (first | exact Below.refl _ _ | (refine Below.alloc ?_ (by first | (simp <;> omega) | omega) _) | (refine Below.setCell ?_ (by first | (simp <;> omega) | omega) _) | (refine Below.drew ?_) | (refine below_drewN ?_ _))) (hb.mono (by first | exact Nat.le_refl _ | (simp <;> omega) | omega))
      have hsv8 : v7.heap.size ≤ v8.heap.size := hA.size
      replace m0 : v8.cell? ⟨v1.heap.size, 0, none⟩ = some (.int .i64 s) := (hA.cell (by show v1.heap.size < _; omega)).trans m0
      replace m1 : v8.cell? ⟨v1.heap.size, 1, none⟩ = some (.slice A ys.length C) := (hA.cell (by show v1.heap.size < _; omega)).trans m1
      replace M := Lib.hid (M.out.below hA (fun g hg => (M.out.lt g hg).2))
      replace HB := Lib.hid (HB.out.trans (hA.mono HB.out.size))
      clear hb hA
      have z0v8 : v1.heap.size < v8.heap.size := by omega
      clear z0v7
      rw [EC.out]
      go_wp2_with fail
      refine (impl_MassValid_c _ _ _ _ _ _ M.out.rowAt).mono ?_
      rintro e v9 ⟨rfl, hb⟩
      have hA : Below v8.heap.size v8 v9 := Below.trans (by repeat (first | exact Below.refl _ _ | (refine Below.alloc ?_ (by first | (simp <;> omega) | omega) _) | (refine Below.setCell ?_ (by first | (simp <;> omega) | omega) _) | (refine Below.drew ?_) | (refine below_drewN ?_ _))) (hb.mono (by first | exact Nat.le_refl _ | (simp <;> omega) | omega))
      have hsv9 : v8.heap.size ≤ v9.heap.size := hA.size
      replace m0 : v9.cell? ⟨v1.heap.size, 0, none⟩ = some (.int .i64 s) := (hA.cell (by show v1.heap.size < _; omega)).trans m0
      replace m1 : v9.cell? ⟨v1.heap.size, 1, none⟩ = some (.slice A ys.length C) := (hA.cell (by show v1.heap.size < _; omega)).trans m1
      replace M := Lib.hid (M.out.below hA (fun g hg => (M.out.lt g hg).2))
      replace HB := Lib.hid (HB.out.trans (hA.mono HB.out.size))
      clear hb hA
      have z0v9 : v1.heap.size < v9.heap.size := by omega
      clear z0v8
      rw [EM.out]
      go_wp2_with fail
      refine (spec_IsNormal_c _ _ _ _ _ _ M.out.rowAt).mono ?_
      rintro e v10 ⟨rfl, hb⟩
      have hA : Below v9.heap.size v9 v10 := Below.trans (by repeat (first | exact Below.refl _ _ | (refine Below.alloc ?_ (by first | (simp <;> omega) | omega) _) | (refine Below.setCell ?_ (by first | (simp <;> omega) | omega) _) | (refine Below.drew ?_) | (refine below_drewN ?_ _))) (hb.mono (by first | exact Nat.le_refl _ | (simp <;> omega) | omega))
      have hsv10 : v9.heap.size ≤ v10.heap.size := hA.size
      replace m0 : v10.cell? ⟨v1.heap.size, 0, none⟩ = some (.int .i64 s) := (hA.cell (by show v1.heap.size < _; omega)).trans m0
      replace m1 : v10.cell? ⟨v1.heap.size, 1, none⟩ = some (.slice A ys.length C) := (hA.cell (by show v1.heap.size < _; omega)).trans m1
      replace M := Lib.hid (M.out.below hA (fun g hg => (M.out.lt g hg).2))
      replace HB := Lib.hid (HB.out.trans (hA.mono HB.out.size))
      clear hb hA
      have z0v10 : v1.heap.size < v10.heap.size := by omega
      clear z0v9
      rw [EA.out]
      go_wp2_with fail
      refine (spec_IsChance_c _ _ _ _ _ _ M.out.rowAt).mono ?_
      rintro e v11 ⟨rfl, hb⟩
      have hA : Below v10.heap.size v10 v11 := Below.trans (by repeat (first | exact Below.refl _ _ | (refine Below.alloc ?_ (by first | (simp <;> omega) | omega) _) | (refine Below.setCell ?_ (by first | (simp <;> omega) | omega) _) | (refine Below.drew ?_) | (refine below_drewN ?_ _))) (hb.mono (by first | exact Nat.le_refl _ | (simp <;> omega) | omega))
      have hsv11 : v10.heap.size ≤ v11.heap.size := hA.size
      replace m0 : v11.cell? ⟨v1.heap.size, 0, none⟩ = some (.int .i64 s) := (hA.cell (by show v1.heap.size < _; omega)).trans m0
      replace m1 : v11.cell? ⟨v1.heap.size, 1, none⟩ = some (.slice A ys.length C) := (hA.cell (by show v1.heap.size < _; omega)).trans m1
      replace M := Lib.hid (M.out.below hA (fun g hg => (M.out.lt g hg).2))
      replace HB := Lib.hid (HB.out.trans (hA.mono HB.out.size))
      clear hb hA
      have z0v11 : v1.heap.size < v11.heap.size := by omega
      clear z0v10
      rw [EB.out]
      go_wp2_with fail
      refine (spec_IsNested_c _ _ _ _ _ _ M.out.rowAt).mono ?_
      rintro e v12 ⟨rfl, hb⟩
      have hA : Below v11.heap.size v11 v12 := Below.trans (by repeat (first | exact Below.refl _ _ | (refine Below.alloc ?_ (by first | (simp <;> omega) | omega) _) | (refine Below.setCell ?_ (by first | (simp <;> omega) | omega) _) | (refine Below.drew ?_) | (refine below_drewN ?_ _))) (hb.mono (by first | exact Nat.le_refl _ | (simp <;> omega) | omega))
      have hsv12 : v11.heap.size ≤ v12.heap.size := hA.size
      replace m0 : v12.cell? ⟨v1.heap.size, 0, none⟩ = some (.int .i64 s) := (hA.cell (by show v1.heap.size < _; omega)).trans m0
      replace m1 : v12.cell? ⟨v1.heap.size, 1, none⟩ = some (.slice A ys.length C) := (hA.cell (by show v1.heap.size < _; omega)).trans m1
      replace M := Lib.hid (M.out.below hA (fun g hg => (M.out.lt g hg).2))
      replace HB := Lib.hid (HB.out.trans (hA.mono HB.out.size))
      clear hb hA
      have z0v12 : v1.heap.size < v12.heap.size := by omega
      clear z0v11
      rw [EC.out]
      go_wp2_with fail
      go_ret
      exact ⟨rfl, HB.out⟩
    · obtain ⟨⟨s1, s4⟩, t1, t2, t3, t4⟩ := massB_of hm
      clear t1 t2 t3 t4
      have g1 := focal_some hm
      have g2 : (focal ys ys.length).length ≤ 16 := Nat.le_trans (focal_len _ _) (massB_len hm).2
      have hno := kinds_normal hm
      have hch := @kinds_chance s ys
      have hon := @kinds_one s ys
      have hne := @kinds_nested s ys hm
      have hst := fun (h : nestedB s ys = true) k (h1 : 1 ≤ k) (h2 : k < (focal ys ys.length).length) => (kinds_step hm h (show k - 1 < k by omega) h2).1
      have HCI := fun a n c w (h : IsRow .i64 w a n c ys) => ret_own (impl_FocalSets_c s a n c ys w h)
      rw [focalI_yes hm] at HCI
      generalize focal ys ys.length = F at *
      have HCI := Lib.hid HCI
      have EM := Lib.hid hm
      clear hm
      rcases ha : normalB s ys with _ | _ <;> rcases hb0 : chanceB s ys with _ | _ <;> rcases hc : nestedB s ys with _ | _
      · have hF0 : (F.getD 0 0 != 0) = false := by rw [← hno]; exact ha
        clear hno hch hon hne hst
        have EA := Lib.hid ha
        have EB := Lib.hid hb0
        have EC := Lib.hid hc
        have HF0 := Lib.hid hF0
        clear ha hb0 hc hF0
        have H0 : Hid (Below v2.heap.size v2 v2.drew) := Lib.hid (Below.refl _ _).drew
        have M_0 := Lib.hid M.out.drew
        go_region_held3 (fun w' => w'.cell? ⟨v1.heap.size, 0, none⟩ = some (.int .i64 s) ∧ w'.cell? ⟨v1.heap.size, 1, none⟩ = some (.slice A ys.length C))
          (first
            | with_reducible exact ⟨m0_1, m1_1⟩
            | with_reducible exact ⟨m0_2, m1_2⟩
            | with_reducible exact ⟨m0_3, m1_3⟩
            | exact ⟨m0, m1⟩)
          (first
            | (go_at_call 9; ((with_reducible refine (impl_IsNormal_c _ _ _ _ _ _ (M_0.out).rowAt).mono ?_)); rintro e v3 ⟨rfl, hb⟩; rw [EA.out]; have H1 := Lib.hid (nodrewG hb); have m0_1 : v3.cell? ⟨v1.heap.size, 0, none⟩ = some (.int .i64 s) := (H1.out.cell (by show v1.heap.size < _; omega)).trans m0; have m1_1 : v3.cell? ⟨v1.heap.size, 1, none⟩ = some (.slice A ys.length C) := (H1.out.cell (by show v1.heap.size < _; omega)).trans m1; have M_1 := Lib.hid (M.out.below H1.out (fun g hg => (M.out.lt g hg).2)); clear hb)
            | (go_at_call 10; ((with_reducible refine (impl_IsChance_c _ _ _ _ _ _ (M_1.out).rowAt).mono ?_)); rintro e v4 ⟨rfl, hb⟩; rw [EB.out]; have H2 := Lib.hid (H1.out.trans (hb.mono H1.out.size)); have m0_2 : v4.cell? ⟨v1.heap.size, 0, none⟩ = some (.int .i64 s) := (H2.out.cell (by show v1.heap.size < _; omega)).trans m0; have m1_2 : v4.cell? ⟨v1.heap.size, 1, none⟩ = some (.slice A ys.length C) := (H2.out.cell (by show v1.heap.size < _; omega)).trans m1; have M_2 := Lib.hid (M.out.below H2.out (fun g hg => (M.out.lt g hg).2)); clear hb)
            | (go_at_call 11; ((with_reducible refine (impl_IsNested_c _ _ _ _ _ _ (M_2.out).rowAt).mono ?_)); rintro e v5 ⟨rfl, hb⟩; rw [EC.out]; have H3 := Lib.hid (H2.out.trans (hb.mono H2.out.size)); have m0_3 : v5.cell? ⟨v1.heap.size, 0, none⟩ = some (.int .i64 s) := (H3.out.cell (by show v1.heap.size < _; omega)).trans m0; have m1_3 : v5.cell? ⟨v1.heap.size, 1, none⟩ = some (.slice A ys.length C) := (H3.out.cell (by show v1.heap.size < _; omega)).trans m1; have M_3 := Lib.hid (M.out.below H3.out (fun g hg => (M.out.lt g hg).2)); clear hb))
        have hsv5 : v2.heap.size ≤ v5.heap.size := H3.out.size
        replace m0 := m0_3
        replace m1 := m1_3
        replace M := Lib.hid M_3.out
        replace HB := Lib.hid (HB.out.trans (H3.out.mono HB.out.size))
        clear m0_1 m0_2 m0_3 m1_1 m1_2 m1_3 M_0 M_1 M_2 M_3 H0 H1 H2 H3
        have z0v5 : v1.heap.size < v5.heap.size := by omega
        clear z0v2
        go_wp2_with fail
        refine (spec_IsNormal_c _ _ _ _ _ _ M.out.rowAt).mono ?_
        rintro e v6 ⟨rfl, hb⟩
        have hA : Below v5.heap.size v5 v6 := Below.trans (by repeat (first | exact Below.refl _ _ | (refine Below.alloc ?_ (by first | (simp <;> omega) | omega) _) | (refine Below.setCell ?_ (by first | (simp <;> omega) | omega) _) | (refine Below.drew ?_) | (refine below_drewN ?_ _))) (hb.mono (by first | exact Nat.le_refl _ | (simp <;> omega) | omega))
        have hsv6 : v5.heap.size ≤ v6.heap.size := hA.size
        replace m0 : v6.cell? ⟨v1.heap.size, 0, none⟩ = some (.int .i64 s) := (hA.cell (by show v1.heap.size < _; omega)).trans m0
        replace m1 : v6.cell? ⟨v1.heap.size, 1, none⟩ = some (.slice A ys.length C) := (hA.cell (by show v1.heap.size < _; omega)).trans m1
        replace M := Lib.hid (M.out.below hA (fun g hg => (M.out.lt g hg).2))
        replace HB := Lib.hid (HB.out.trans (hA.mono HB.out.size))
        clear hb hA
        have z0v6 : v1.heap.size < v6.heap.size := by omega
        clear z0v5
        rw [EA.out]
        go_wp2_with fail
        refine (spec_IsChance_c _ _ _ _ _ _ M.out.rowAt).mono ?_
        rintro e v7 ⟨rfl, hb⟩
        have hA : Below v6.heap.size v6 v7 := Below.trans (by repeat (first | exact Below.refl _ _ | (refine Below.alloc ?_ (by first | (simp <;> omega) | omega) _) | (refine Below.setCell ?_ (by first | (simp <;> omega) | omega) _) | (refine Below.drew ?_) | (refine below_drewN ?_ _))) (hb.mono (by first | exact Nat.le_refl _ | (simp <;> omega) | omega))
        have hsv7 : v6.heap.size ≤ v7.heap.size := hA.size
        replace m0 : v7.cell? ⟨v1.heap.size, 0, none⟩ = some (.int .i64 s) := (hA.cell (by show v1.heap.size < _; omega)).trans m0
        replace m1 : v7.cell? ⟨v1.heap.size, 1, none⟩ = some (.slice A ys.length C) := (hA.cell (by show v1.heap.size < _; omega)).trans m1
        replace M := Lib.hid (M.out.below hA (fun g hg => (M.out.lt g hg).2))
        replace HB := Lib.hid (HB.out.trans (hA.mono HB.out.size))
        clear hb hA
        have z0v7 : v1.heap.size < v7.heap.size := by omega
        clear z0v6
        rw [EB.out]
        go_wp2_with fail
        refine (spec_IsNested_c _ _ _ _ _ _ M.out.rowAt).mono ?_
        rintro e v8 ⟨rfl, hb⟩
        have hA : Below v7.heap.size v7 v8 := Below.trans (by repeat (first | exact Below.refl _ _ | (refine Below.alloc ?_ (by first | (simp <;> omega) | omega) _) | (refine Below.setCell ?_ (by first | (simp <;> omega) | omega) _) | (refine Below.drew ?_) | (refine below_drewN ?_ _))) (hb.mono (by first | exact Nat.le_refl _ | (simp <;> omega) | omega))
        have hsv8 : v7.heap.size ≤ v8.heap.size := hA.size
        replace m0 : v8.cell? ⟨v1.heap.size, 0, none⟩ = some (.int .i64 s) := (hA.cell (by show v1.heap.size < _; omega)).trans m0
        replace m1 : v8.cell? ⟨v1.heap.size, 1, none⟩ = some (.slice A ys.length C) := (hA.cell (by show v1.heap.size < _; omega)).trans m1
        replace M := Lib.hid (M.out.below hA (fun g hg => (M.out.lt g hg).2))
        replace HB := Lib.hid (HB.out.trans (hA.mono HB.out.size))
        clear hb hA
        have z0v8 : v1.heap.size < v8.heap.size := by omega
        clear z0v7
        rw [EC.out]
        go_wp2_with fail
        refine (impl_MassValid_c _ _ _ _ _ _ M.out.rowAt).mono ?_
        rintro e v9 ⟨rfl, hb⟩
        have hA : Below v8.heap.size v8 v9 := Below.trans (by repeat (first | exact Below.refl _ _ | (refine Below.alloc ?_ (by first | (simp <;> omega) | omega) _) | (refine Below.setCell ?_ (by first | (simp <;> omega) | omega) _) | (refine Below.drew ?_) | (refine below_drewN ?_ _))) (hb.mono (by first | exact Nat.le_refl _ | (simp <;> omega) | omega))
        have hsv9 : v8.heap.size ≤ v9.heap.size := hA.size
        replace m0 : v9.cell? ⟨v1.heap.size, 0, none⟩ = some (.int .i64 s) := (hA.cell (by show v1.heap.size < _; omega)).trans m0
        replace m1 : v9.cell? ⟨v1.heap.size, 1, none⟩ = some (.slice A ys.length C) := (hA.cell (by show v1.heap.size < _; omega)).trans m1
        replace M := Lib.hid (M.out.below hA (fun g hg => (M.out.lt g hg).2))
        replace HB := Lib.hid (HB.out.trans (hA.mono HB.out.size))
        clear hb hA
        have z0v9 : v1.heap.size < v9.heap.size := by omega
        clear z0v8
        rw [EM.out]
        go_wp2_with fail
        refine (HCI.out _ _ _ _ M.out.rowAt).mono ?_
        rintro e v10 ⟨A2, C2, rfl, ho, hb⟩
        have hA : Below v9.heap.size v9 v10 := Below.trans (by repeat (first | exact Below.refl _ _ | (refine Below.alloc ?_ (by first | (simp <;> omega) | omega) _) | (refine Below.setCell ?_ (by first | (simp <;> omega) | omega) _) | (refine Below.drew ?_) | (refine below_drewN ?_ _))) (hb.mono (by first | exact Nat.le_refl _ | (simp <;> omega) | omega))
        have hsv10 : v9.heap.size ≤ v10.heap.size := hA.size
        replace m0 : v10.cell? ⟨v1.heap.size, 0, none⟩ = some (.int .i64 s) := (hA.cell (by show v1.heap.size < _; omega)).trans m0
        replace m1 : v10.cell? ⟨v1.heap.size, 1, none⟩ = some (.slice A ys.length C) := (hA.cell (by show v1.heap.size < _; omega)).trans m1
        replace M := Lib.hid (M.out.below hA (fun g hg => (M.out.lt g hg).2))
        replace HB := Lib.hid (HB.out.trans (hA.mono HB.out.size))
        have LFO : Hid (∀ g, (.slice A2 F.length C2 : Value).ownBlock = some g → v9.heap.size + 0 ≤ g ∧ g < v10.heap.size) := Lib.hid (fun g hg => by have := ho.lt g hg; first | omega | (simp at this; omega) | (simp at this ⊢; omega))
        have FO := Lib.hid ho
        clear hb hA ho
        have z0v10 : v1.heap.size < v10.heap.size := by omega
        clear z0v9
        go_wp2_with fail
        obtain ⟨b1, o1, rfl, hb1, hcl⟩ := FO.out.rowAt.at_ (by omega)
        have hcap : F.length ≤ C2 := FO.out.rowAt.2.1
        have HCL := Lib.hid hcl
        clear hcl
        go_loopw [8] (fun i wr => i = .int .i64 1 ∧ wr = v10) (fun _ _ => 0)
        case atStart => exact ⟨rfl, rfl⟩
        case round =>
          obtain ⟨rfl, rfl⟩ := hrel
          have c0 := HCL.out 0 (by omega)
          rw [Nat.add_zero] at c0
          have hF0 := HF0.out
          generalize F.getD 0 0 = f0 at *
          by_cases hlt : (1 : Int) < (F.length : Int)
          all_goals
            go_wp2_with fail
            go_ret
            exact ⟨rfl, HB.out⟩
      · have hF0 : (F.getD 0 0 != 0) = false := by rw [← hno]; exact ha
        have hle := hne hc
        have hleb : decide ((F.length : Int) ≤ s + 1) = true := decide_eq_true hle
        have HST := Lib.hid (hst hc)
        clear hno hch hon hne hst
        have EA := Lib.hid ha
        have EB := Lib.hid hb0
        have EC := Lib.hid hc
        have HF0 := Lib.hid hF0
        clear ha hb0 hc hF0
        have H0 : Hid (Below v2.heap.size v2 v2.drew) := Lib.hid (Below.refl _ _).drew
        have M_0 := Lib.hid M.out.drew
        go_region_held3 (fun w' => w'.cell? ⟨v1.heap.size, 0, none⟩ = some (.int .i64 s) ∧ w'.cell? ⟨v1.heap.size, 1, none⟩ = some (.slice A ys.length C))
          (first
            | with_reducible exact ⟨m0_1, m1_1⟩
            | with_reducible exact ⟨m0_2, m1_2⟩
            | with_reducible exact ⟨m0_3, m1_3⟩
            | exact ⟨m0, m1⟩)
          (first
            | (go_at_call 9; ((with_reducible refine (impl_IsNormal_c _ _ _ _ _ _ (M_0.out).rowAt).mono ?_)); rintro e v3 ⟨rfl, hb⟩; rw [EA.out]; have H1 := Lib.hid (nodrewG hb); have m0_1 : v3.cell? ⟨v1.heap.size, 0, none⟩ = some (.int .i64 s) := (H1.out.cell (by show v1.heap.size < _; omega)).trans m0; have m1_1 : v3.cell? ⟨v1.heap.size, 1, none⟩ = some (.slice A ys.length C) := (H1.out.cell (by show v1.heap.size < _; omega)).trans m1; have M_1 := Lib.hid (M.out.below H1.out (fun g hg => (M.out.lt g hg).2)); clear hb)
            | (go_at_call 10; ((with_reducible refine (impl_IsChance_c _ _ _ _ _ _ (M_1.out).rowAt).mono ?_)); rintro e v4 ⟨rfl, hb⟩; rw [EB.out]; have H2 := Lib.hid (H1.out.trans (hb.mono H1.out.size)); have m0_2 : v4.cell? ⟨v1.heap.size, 0, none⟩ = some (.int .i64 s) := (H2.out.cell (by show v1.heap.size < _; omega)).trans m0; have m1_2 : v4.cell? ⟨v1.heap.size, 1, none⟩ = some (.slice A ys.length C) := (H2.out.cell (by show v1.heap.size < _; omega)).trans m1; have M_2 := Lib.hid (M.out.below H2.out (fun g hg => (M.out.lt g hg).2)); clear hb)
            | (go_at_call 11; ((with_reducible refine (impl_IsNested_c _ _ _ _ _ _ (M_2.out).rowAt).mono ?_)); rintro e v5 ⟨rfl, hb⟩; rw [EC.out]; have H3 := Lib.hid (H2.out.trans (hb.mono H2.out.size)); have m0_3 : v5.cell? ⟨v1.heap.size, 0, none⟩ = some (.int .i64 s) := (H3.out.cell (by show v1.heap.size < _; omega)).trans m0; have m1_3 : v5.cell? ⟨v1.heap.size, 1, none⟩ = some (.slice A ys.length C) := (H3.out.cell (by show v1.heap.size < _; omega)).trans m1; have M_3 := Lib.hid (M.out.below H3.out (fun g hg => (M.out.lt g hg).2)); clear hb))
        have hsv5 : v2.heap.size ≤ v5.heap.size := H3.out.size
        replace m0 := m0_3
        replace m1 := m1_3
        replace M := Lib.hid M_3.out
        replace HB := Lib.hid (HB.out.trans (H3.out.mono HB.out.size))
        clear m0_1 m0_2 m0_3 m1_1 m1_2 m1_3 M_0 M_1 M_2 M_3 H0 H1 H2 H3
        have z0v5 : v1.heap.size < v5.heap.size := by omega
        clear z0v2
        go_wp2_with fail
        refine (spec_IsNormal_c _ _ _ _ _ _ M.out.rowAt).mono ?_
        rintro e v6 ⟨rfl, hb⟩
        have hA : Below v5.heap.size v5 v6 := Below.trans (by repeat (first | exact Below.refl _ _ | (refine Below.alloc ?_ (by first | (simp <;> omega) | omega) _) | (refine Below.setCell ?_ (by first | (simp <;> omega) | omega) _) | (refine Below.drew ?_) | (refine below_drewN ?_ _))) (hb.mono (by first | exact Nat.le_refl _ | (simp <;> omega) | omega))
        have hsv6 : v5.heap.size ≤ v6.heap.size := hA.size
        replace m0 : v6.cell? ⟨v1.heap.size, 0, none⟩ = some (.int .i64 s) := (hA.cell (by show v1.heap.size < _; omega)).trans m0
        replace m1 : v6.cell? ⟨v1.heap.size, 1, none⟩ = some (.slice A ys.length C) := (hA.cell (by show v1.heap.size < _; omega)).trans m1
        replace M := Lib.hid (M.out.below hA (fun g hg => (M.out.lt g hg).2))
        replace HB := Lib.hid (HB.out.trans (hA.mono HB.out.size))
        clear hb hA
        have z0v6 : v1.heap.size < v6.heap.size := by omega
        clear z0v5
        rw [EA.out]
        go_wp2_with fail
        refine (spec_IsChance_c _ _ _ _ _ _ M.out.rowAt).mono ?_
        rintro e v7 ⟨rfl, hb⟩
        have hA : Below v6.heap.size v6 v7 := Below.trans (by repeat (first | exact Below.refl _ _ | (refine Below.alloc ?_ (by first | (simp <;> omega) | omega) _) | (refine Below.setCell ?_ (by first | (simp <;> omega) | omega) _) | (refine Below.drew ?_) | (refine below_drewN ?_ _))) (hb.mono (by first | exact Nat.le_refl _ | (simp <;> omega) | omega))
        have hsv7 : v6.heap.size ≤ v7.heap.size := hA.size
        replace m0 : v7.cell? ⟨v1.heap.size, 0, none⟩ = some (.int .i64 s) := (hA.cell (by show v1.heap.size < _; omega)).trans m0
        replace m1 : v7.cell? ⟨v1.heap.size, 1, none⟩ = some (.slice A ys.length C) := (hA.cell (by show v1.heap.size < _; omega)).trans m1
        replace M := Lib.hid (M.out.below hA (fun g hg => (M.out.lt g hg).2))
        replace HB := Lib.hid (HB.out.trans (hA.mono HB.out.size))
        clear hb hA
        have z0v7 : v1.heap.size < v7.heap.size := by omega
        clear z0v6
        rw [EB.out]
        go_wp2_with fail
        refine (spec_IsNested_c _ _ _ _ _ _ M.out.rowAt).mono ?_
        rintro e v8 ⟨rfl, hb⟩
        have hA : Below v7.heap.size v7 v8 := Below.trans (by repeat (first | exact Below.refl _ _ | (refine Below.alloc ?_ (by first | (simp <;> omega) | omega) _) | (refine Below.setCell ?_ (by first | (simp <;> omega) | omega) _) | (refine Below.drew ?_) | (refine below_drewN ?_ _))) (hb.mono (by first | exact Nat.le_refl _ | (simp <;> omega) | omega))
        have hsv8 : v7.heap.size ≤ v8.heap.size := hA.size
        replace m0 : v8.cell? ⟨v1.heap.size, 0, none⟩ = some (.int .i64 s) := (hA.cell (by show v1.heap.size < _; omega)).trans m0
        replace m1 : v8.cell? ⟨v1.heap.size, 1, none⟩ = some (.slice A ys.length C) := (hA.cell (by show v1.heap.size < _; omega)).trans m1
        replace M := Lib.hid (M.out.below hA (fun g hg => (M.out.lt g hg).2))
        replace HB := Lib.hid (HB.out.trans (hA.mono HB.out.size))
        clear hb hA
        have z0v8 : v1.heap.size < v8.heap.size := by omega
        clear z0v7
        rw [EC.out]
        go_wp2_with fail
        refine (impl_MassValid_c _ _ _ _ _ _ M.out.rowAt).mono ?_
        rintro e v9 ⟨rfl, hb⟩
        have hA : Below v8.heap.size v8 v9 := Below.trans (by repeat (first | exact Below.refl _ _ | (refine Below.alloc ?_ (by first | (simp <;> omega) | omega) _) | (refine Below.setCell ?_ (by first | (simp <;> omega) | omega) _) | (refine Below.drew ?_) | (refine below_drewN ?_ _))) (hb.mono (by first | exact Nat.le_refl _ | (simp <;> omega) | omega))
        have hsv9 : v8.heap.size ≤ v9.heap.size := hA.size
        replace m0 : v9.cell? ⟨v1.heap.size, 0, none⟩ = some (.int .i64 s) := (hA.cell (by show v1.heap.size < _; omega)).trans m0
        replace m1 : v9.cell? ⟨v1.heap.size, 1, none⟩ = some (.slice A ys.length C) := (hA.cell (by show v1.heap.size < _; omega)).trans m1
        replace M := Lib.hid (M.out.below hA (fun g hg => (M.out.lt g hg).2))
        replace HB := Lib.hid (HB.out.trans (hA.mono HB.out.size))
        clear hb hA
        have z0v9 : v1.heap.size < v9.heap.size := by omega
        clear z0v8
        rw [EM.out]
        go_wp2_with fail
        refine (HCI.out _ _ _ _ M.out.rowAt).mono ?_
        rintro e v10 ⟨A2, C2, rfl, ho, hb⟩
        have hA : Below v9.heap.size v9 v10 := Below.trans (by repeat (first | exact Below.refl _ _ | (refine Below.alloc ?_ (by first | (simp <;> omega) | omega) _) | (refine Below.setCell ?_ (by first | (simp <;> omega) | omega) _) | (refine Below.drew ?_) | (refine below_drewN ?_ _))) (hb.mono (by first | exact Nat.le_refl _ | (simp <;> omega) | omega))
        have hsv10 : v9.heap.size ≤ v10.heap.size := hA.size
        replace m0 : v10.cell? ⟨v1.heap.size, 0, none⟩ = some (.int .i64 s) := (hA.cell (by show v1.heap.size < _; omega)).trans m0
        replace m1 : v10.cell? ⟨v1.heap.size, 1, none⟩ = some (.slice A ys.length C) := (hA.cell (by show v1.heap.size < _; omega)).trans m1
        replace M := Lib.hid (M.out.below hA (fun g hg => (M.out.lt g hg).2))
        replace HB := Lib.hid (HB.out.trans (hA.mono HB.out.size))
        have LFO : Hid (∀ g, (.slice A2 F.length C2 : Value).ownBlock = some g → v9.heap.size + 0 ≤ g ∧ g < v10.heap.size) := Lib.hid (fun g hg => by have := ho.lt g hg; first | omega | (simp at this; omega) | (simp at this ⊢; omega))
        have FO := Lib.hid ho
        clear hb hA ho
        have z0v10 : v1.heap.size < v10.heap.size := by omega
        clear z0v9
        go_wp2_with fail
        obtain ⟨b1, o1, rfl, hb1, hcl⟩ := FO.out.rowAt.at_ (by omega)
        have hcap : F.length ≤ C2 := FO.out.rowAt.2.1
        have HCL := Lib.hid hcl
        clear hcl
        go_loopw [8] (fun i wr => ∃ k : Nat, 1 ≤ k ∧ k ≤ F.length ∧ i = .int .i64 k ∧ ∃ m, wr = v10.drewN m) (fun i _ => F.length - (intOf i).toNat)
        case atStart => exact ⟨1, Nat.le_refl _, g1, rfl, 0, rfl⟩
        case round =>
          obtain ⟨k, hk1, hk2, rfl, m, rfl⟩ := hrel
          by_cases hlt : k < F.length
          · have hlt' : (k : Int) < (F.length : Int) := by omega
            have hk0 : (0 : Int) ≤ (k : Int) := by omega
            obtain ⟨j, hj⟩ : ∃ j, k = j + 1 := ⟨k - 1, by omega⟩
            have hw : IntKind.i64.wrap ((k : Int) - 1) = (j : Int) := by rw [IntWalk.i64_in _ (by omega)]; omega
            have hkj : (k : Int) - 1 = (j : Int) := by omega
            have hj1 : (j : Int) < (F.length : Int) := by omega
            have hj0 : (0 : Int) ≤ (j : Int) := by omega
            have hh := HST.out k hk1 hlt
            rw [show k - 1 = j by omega] at hh
            have c1 : (v10.drewN m).cell? ⟨b1, o1 + k, none⟩ = some (.int .i64 (F.getD k 0)) := HCL.out k hlt
            have c2 : (v10.drewN m).cell? ⟨b1, o1 + j, none⟩ = some (.int .i64 (F.getD j 0)) := HCL.out j (by omega)
            clear hj
            generalize F.getD k 0 = x at *
            generalize F.getD j 0 = y at *
            obtain ⟨wk, hwk⟩ : ∃ wk, wk = v10.drewN m := ⟨_, rfl⟩
            rw [← hwk] at c1 c2 ⊢
            have HWK := Lib.hid hwk
            clear hwk
            go_wp2_with fail
            go_quiet ((go_at_call 17; exact quiet_my (impl_HasSet_c _ _ _)))
            go_wp2_with fail
            go_roundw
            case rel => exact ⟨k + 1, by omega, by omega, by go_num, _, by rw [HWK.out, World.drewN_drewN]⟩
            case measure => simp [intOf]; omega
          · obtain rfl : k = F.length := by omega
            have c0 : (v10.drewN m).cell? ⟨b1, o1 + 0, none⟩ = some (.int .i64 (F.getD 0 0)) := HCL.out 0 (by omega)
            rw [Nat.add_zero] at c0
            have hF0 := HF0.out
            generalize F.getD 0 0 = f0 at *
            have m0' : (v10.drewN m).cell? ⟨v1.heap.size, 0, none⟩ = some (.int .i64 s) := m0
            have HBD := Lib.hid (below_drewN HB.out m)
            go_wp2_with fail
            go_ret
            exact ⟨rfl, HBD.out⟩
      · exact absurd (hch hb0) (by rw [ha]; decide)
      · exact absurd (hch hb0) (by rw [ha]; decide)
      · have hF0 : (F.getD 0 0 != 0) = true := by rw [← hno]; exact ha
        clear hno hch hon hne hst
        have EA := Lib.hid ha
        have EB := Lib.hid hb0
        have EC := Lib.hid hc
        have HF0 := Lib.hid hF0
        clear ha hb0 hc hF0
        have H0 : Hid (Below v2.heap.size v2 v2.drew) := Lib.hid (Below.refl _ _).drew
        have M_0 := Lib.hid M.out.drew
        go_region_held3 (fun w' => w'.cell? ⟨v1.heap.size, 0, none⟩ = some (.int .i64 s) ∧ w'.cell? ⟨v1.heap.size, 1, none⟩ = some (.slice A ys.length C))
          (first
            | with_reducible exact ⟨m0_1, m1_1⟩
            | with_reducible exact ⟨m0_2, m1_2⟩
            | with_reducible exact ⟨m0_3, m1_3⟩
            | exact ⟨m0, m1⟩)
          (first
            | (go_at_call 9; ((with_reducible refine (impl_IsNormal_c _ _ _ _ _ _ (M_0.out).rowAt).mono ?_)); rintro e v3 ⟨rfl, hb⟩; rw [EA.out]; have H1 := Lib.hid (nodrewG hb); have m0_1 : v3.cell? ⟨v1.heap.size, 0, none⟩ = some (.int .i64 s) := (H1.out.cell (by show v1.heap.size < _; omega)).trans m0; have m1_1 : v3.cell? ⟨v1.heap.size, 1, none⟩ = some (.slice A ys.length C) := (H1.out.cell (by show v1.heap.size < _; omega)).trans m1; have M_1 := Lib.hid (M.out.below H1.out (fun g hg => (M.out.lt g hg).2)); clear hb)
            | (go_at_call 10; ((with_reducible refine (impl_IsChance_c _ _ _ _ _ _ (M_1.out).rowAt).mono ?_)); rintro e v4 ⟨rfl, hb⟩; rw [EB.out]; have H2 := Lib.hid (H1.out.trans (hb.mono H1.out.size)); have m0_2 : v4.cell? ⟨v1.heap.size, 0, none⟩ = some (.int .i64 s) := (H2.out.cell (by show v1.heap.size < _; omega)).trans m0; have m1_2 : v4.cell? ⟨v1.heap.size, 1, none⟩ = some (.slice A ys.length C) := (H2.out.cell (by show v1.heap.size < _; omega)).trans m1; have M_2 := Lib.hid (M.out.below H2.out (fun g hg => (M.out.lt g hg).2)); clear hb)
            | (go_at_call 11; ((with_reducible refine (impl_IsNested_c _ _ _ _ _ _ (M_2.out).rowAt).mono ?_)); rintro e v5 ⟨rfl, hb⟩; rw [EC.out]; have H3 := Lib.hid (H2.out.trans (hb.mono H2.out.size)); have m0_3 : v5.cell? ⟨v1.heap.size, 0, none⟩ = some (.int .i64 s) := (H3.out.cell (by show v1.heap.size < _; omega)).trans m0; have m1_3 : v5.cell? ⟨v1.heap.size, 1, none⟩ = some (.slice A ys.length C) := (H3.out.cell (by show v1.heap.size < _; omega)).trans m1; have M_3 := Lib.hid (M.out.below H3.out (fun g hg => (M.out.lt g hg).2)); clear hb))
        have hsv5 : v2.heap.size ≤ v5.heap.size := H3.out.size
        replace m0 := m0_3
        replace m1 := m1_3
        replace M := Lib.hid M_3.out
        replace HB := Lib.hid (HB.out.trans (H3.out.mono HB.out.size))
        clear m0_1 m0_2 m0_3 m1_1 m1_2 m1_3 M_0 M_1 M_2 M_3 H0 H1 H2 H3
        have z0v5 : v1.heap.size < v5.heap.size := by omega
        clear z0v2
        go_wp2_with fail
        refine (spec_IsNormal_c _ _ _ _ _ _ M.out.rowAt).mono ?_
        rintro e v6 ⟨rfl, hb⟩
        have hA : Below v5.heap.size v5 v6 := Below.trans (by repeat (first | exact Below.refl _ _ | (refine Below.alloc ?_ (by first | (simp <;> omega) | omega) _) | (refine Below.setCell ?_ (by first | (simp <;> omega) | omega) _) | (refine Below.drew ?_) | (refine below_drewN ?_ _))) (hb.mono (by first | exact Nat.le_refl _ | (simp <;> omega) | omega))
        have hsv6 : v5.heap.size ≤ v6.heap.size := hA.size
        replace m0 : v6.cell? ⟨v1.heap.size, 0, none⟩ = some (.int .i64 s) := (hA.cell (by show v1.heap.size < _; omega)).trans m0
        replace m1 : v6.cell? ⟨v1.heap.size, 1, none⟩ = some (.slice A ys.length C) := (hA.cell (by show v1.heap.size < _; omega)).trans m1
        replace M := Lib.hid (M.out.below hA (fun g hg => (M.out.lt g hg).2))
        replace HB := Lib.hid (HB.out.trans (hA.mono HB.out.size))
        clear hb hA
        have z0v6 : v1.heap.size < v6.heap.size := by omega
        clear z0v5
        rw [EA.out]
        go_wp2_with fail
        refine (spec_IsChance_c _ _ _ _ _ _ M.out.rowAt).mono ?_
        rintro e v7 ⟨rfl, hb⟩
        have hA : Below v6.heap.size v6 v7 := Below.trans (by repeat (first | exact Below.refl _ _ | (refine Below.alloc ?_ (by first | (simp <;> omega) | omega) _) | (refine Below.setCell ?_ (by first | (simp <;> omega) | omega) _) | (refine Below.drew ?_) | (refine below_drewN ?_ _))) (hb.mono (by first | exact Nat.le_refl _ | (simp <;> omega) | omega))
        have hsv7 : v6.heap.size ≤ v7.heap.size := hA.size
        replace m0 : v7.cell? ⟨v1.heap.size, 0, none⟩ = some (.int .i64 s) := (hA.cell (by show v1.heap.size < _; omega)).trans m0
        replace m1 : v7.cell? ⟨v1.heap.size, 1, none⟩ = some (.slice A ys.length C) := (hA.cell (by show v1.heap.size < _; omega)).trans m1
        replace M := Lib.hid (M.out.below hA (fun g hg => (M.out.lt g hg).2))
        replace HB := Lib.hid (HB.out.trans (hA.mono HB.out.size))
        clear hb hA
        have z0v7 : v1.heap.size < v7.heap.size := by omega
        clear z0v6
        rw [EB.out]
        go_wp2_with fail
        refine (spec_IsNested_c _ _ _ _ _ _ M.out.rowAt).mono ?_
        rintro e v8 ⟨rfl, hb⟩
        have hA : Below v7.heap.size v7 v8 := Below.trans (by repeat (first | exact Below.refl _ _ | (refine Below.alloc ?_ (by first | (simp <;> omega) | omega) _) | (refine Below.setCell ?_ (by first | (simp <;> omega) | omega) _) | (refine Below.drew ?_) | (refine below_drewN ?_ _))) (hb.mono (by first | exact Nat.le_refl _ | (simp <;> omega) | omega))
        have hsv8 : v7.heap.size ≤ v8.heap.size := hA.size
        replace m0 : v8.cell? ⟨v1.heap.size, 0, none⟩ = some (.int .i64 s) := (hA.cell (by show v1.heap.size < _; omega)).trans m0
        replace m1 : v8.cell? ⟨v1.heap.size, 1, none⟩ = some (.slice A ys.length C) := (hA.cell (by show v1.heap.size < _; omega)).trans m1
        replace M := Lib.hid (M.out.below hA (fun g hg => (M.out.lt g hg).2))
        replace HB := Lib.hid (HB.out.trans (hA.mono HB.out.size))
        clear hb hA
        have z0v8 : v1.heap.size < v8.heap.size := by omega
        clear z0v7
        rw [EC.out]
        go_wp2_with fail
        refine (impl_MassValid_c _ _ _ _ _ _ M.out.rowAt).mono ?_
        rintro e v9 ⟨rfl, hb⟩
        have hA : Below v8.heap.size v8 v9 := Below.trans (by repeat (first | exact Below.refl _ _ | (refine Below.alloc ?_ (by first | (simp <;> omega) | omega) _) | (refine Below.setCell ?_ (by first | (simp <;> omega) | omega) _) | (refine Below.drew ?_) | (refine below_drewN ?_ _))) (hb.mono (by first | exact Nat.le_refl _ | (simp <;> omega) | omega))
        have hsv9 : v8.heap.size ≤ v9.heap.size := hA.size
        replace m0 : v9.cell? ⟨v1.heap.size, 0, none⟩ = some (.int .i64 s) := (hA.cell (by show v1.heap.size < _; omega)).trans m0
        replace m1 : v9.cell? ⟨v1.heap.size, 1, none⟩ = some (.slice A ys.length C) := (hA.cell (by show v1.heap.size < _; omega)).trans m1
        replace M := Lib.hid (M.out.below hA (fun g hg => (M.out.lt g hg).2))
        replace HB := Lib.hid (HB.out.trans (hA.mono HB.out.size))
        clear hb hA
        have z0v9 : v1.heap.size < v9.heap.size := by omega
        clear z0v8
        rw [EM.out]
        go_wp2_with fail
        refine (HCI.out _ _ _ _ M.out.rowAt).mono ?_
        rintro e v10 ⟨A2, C2, rfl, ho, hb⟩
        have hA : Below v9.heap.size v9 v10 := Below.trans (by repeat (first | exact Below.refl _ _ | (refine Below.alloc ?_ (by first | (simp <;> omega) | omega) _) | (refine Below.setCell ?_ (by first | (simp <;> omega) | omega) _) | (refine Below.drew ?_) | (refine below_drewN ?_ _))) (hb.mono (by first | exact Nat.le_refl _ | (simp <;> omega) | omega))
        have hsv10 : v9.heap.size ≤ v10.heap.size := hA.size
        replace m0 : v10.cell? ⟨v1.heap.size, 0, none⟩ = some (.int .i64 s) := (hA.cell (by show v1.heap.size < _; omega)).trans m0
        replace m1 : v10.cell? ⟨v1.heap.size, 1, none⟩ = some (.slice A ys.length C) := (hA.cell (by show v1.heap.size < _; omega)).trans m1
        replace M := Lib.hid (M.out.below hA (fun g hg => (M.out.lt g hg).2))
        replace HB := Lib.hid (HB.out.trans (hA.mono HB.out.size))
        have LFO : Hid (∀ g, (.slice A2 F.length C2 : Value).ownBlock = some g → v9.heap.size + 0 ≤ g ∧ g < v10.heap.size) := Lib.hid (fun g hg => by have := ho.lt g hg; first | omega | (simp at this; omega) | (simp at this ⊢; omega))
        have FO := Lib.hid ho
        clear hb hA ho
        have z0v10 : v1.heap.size < v10.heap.size := by omega
        clear z0v9
        go_wp2_with fail
        obtain ⟨b1, o1, rfl, hb1, hcl⟩ := FO.out.rowAt.at_ (by omega)
        have hcap : F.length ≤ C2 := FO.out.rowAt.2.1
        have HCL := Lib.hid hcl
        clear hcl
        go_loopw [8] (fun i wr => i = .int .i64 1 ∧ wr = v10) (fun _ _ => 0)
        case atStart => exact ⟨rfl, rfl⟩
        case round =>
          obtain ⟨rfl, rfl⟩ := hrel
          have c0 := HCL.out 0 (by omega)
          rw [Nat.add_zero] at c0
          have hF0 := HF0.out
          generalize F.getD 0 0 = f0 at *
          by_cases hlt : (1 : Int) < (F.length : Int)
          all_goals
            go_wp2_with fail
            go_ret
            exact ⟨rfl, HB.out⟩
      · have hF0 : (F.getD 0 0 != 0) = true := by rw [← hno]; exact ha
        have hle := hne hc
        have hleb : decide ((F.length : Int) ≤ s + 1) = true := decide_eq_true hle
        have HST := Lib.hid (hst hc)
        clear hno hch hon hne hst
        have EA := Lib.hid ha
        have EB := Lib.hid hb0
        have EC := Lib.hid hc
        have HF0 := Lib.hid hF0
        clear ha hb0 hc hF0
        have H0 : Hid (Below v2.heap.size v2 v2.drew) := Lib.hid (Below.refl _ _).drew
        have M_0 := Lib.hid M.out.drew
        go_region_held3 (fun w' => w'.cell? ⟨v1.heap.size, 0, none⟩ = some (.int .i64 s) ∧ w'.cell? ⟨v1.heap.size, 1, none⟩ = some (.slice A ys.length C))
          (first
            | with_reducible exact ⟨m0_1, m1_1⟩
            | with_reducible exact ⟨m0_2, m1_2⟩
            | with_reducible exact ⟨m0_3, m1_3⟩
            | exact ⟨m0, m1⟩)
          (first
            | (go_at_call 9; ((with_reducible refine (impl_IsNormal_c _ _ _ _ _ _ (M_0.out).rowAt).mono ?_)); rintro e v3 ⟨rfl, hb⟩; rw [EA.out]; have H1 := Lib.hid (nodrewG hb); have m0_1 : v3.cell? ⟨v1.heap.size, 0, none⟩ = some (.int .i64 s) := (H1.out.cell (by show v1.heap.size < _; omega)).trans m0; have m1_1 : v3.cell? ⟨v1.heap.size, 1, none⟩ = some (.slice A ys.length C) := (H1.out.cell (by show v1.heap.size < _; omega)).trans m1; have M_1 := Lib.hid (M.out.below H1.out (fun g hg => (M.out.lt g hg).2)); clear hb)
            | (go_at_call 10; ((with_reducible refine (impl_IsChance_c _ _ _ _ _ _ (M_1.out).rowAt).mono ?_)); rintro e v4 ⟨rfl, hb⟩; rw [EB.out]; have H2 := Lib.hid (H1.out.trans (hb.mono H1.out.size)); have m0_2 : v4.cell? ⟨v1.heap.size, 0, none⟩ = some (.int .i64 s) := (H2.out.cell (by show v1.heap.size < _; omega)).trans m0; have m1_2 : v4.cell? ⟨v1.heap.size, 1, none⟩ = some (.slice A ys.length C) := (H2.out.cell (by show v1.heap.size < _; omega)).trans m1; have M_2 := Lib.hid (M.out.below H2.out (fun g hg => (M.out.lt g hg).2)); clear hb)
            | (go_at_call 11; ((with_reducible refine (impl_IsNested_c _ _ _ _ _ _ (M_2.out).rowAt).mono ?_)); rintro e v5 ⟨rfl, hb⟩; rw [EC.out]; have H3 := Lib.hid (H2.out.trans (hb.mono H2.out.size)); have m0_3 : v5.cell? ⟨v1.heap.size, 0, none⟩ = some (.int .i64 s) := (H3.out.cell (by show v1.heap.size < _; omega)).trans m0; have m1_3 : v5.cell? ⟨v1.heap.size, 1, none⟩ = some (.slice A ys.length C) := (H3.out.cell (by show v1.heap.size < _; omega)).trans m1; have M_3 := Lib.hid (M.out.below H3.out (fun g hg => (M.out.lt g hg).2)); clear hb))
        have hsv5 : v2.heap.size ≤ v5.heap.size := H3.out.size
        replace m0 := m0_3
        replace m1 := m1_3
        replace M := Lib.hid M_3.out
        replace HB := Lib.hid (HB.out.trans (H3.out.mono HB.out.size))
        clear m0_1 m0_2 m0_3 m1_1 m1_2 m1_3 M_0 M_1 M_2 M_3 H0 H1 H2 H3
        have z0v5 : v1.heap.size < v5.heap.size := by omega
        clear z0v2
        go_wp2_with fail
        refine (spec_IsNormal_c _ _ _ _ _ _ M.out.rowAt).mono ?_
        rintro e v6 ⟨rfl, hb⟩
        have hA : Below v5.heap.size v5 v6 := Below.trans (by repeat (first | exact Below.refl _ _ | (refine Below.alloc ?_ (by first | (simp <;> omega) | omega) _) | (refine Below.setCell ?_ (by first | (simp <;> omega) | omega) _) | (refine Below.drew ?_) | (refine below_drewN ?_ _))) (hb.mono (by first | exact Nat.le_refl _ | (simp <;> omega) | omega))
        have hsv6 : v5.heap.size ≤ v6.heap.size := hA.size
        replace m0 : v6.cell? ⟨v1.heap.size, 0, none⟩ = some (.int .i64 s) := (hA.cell (by show v1.heap.size < _; omega)).trans m0
        replace m1 : v6.cell? ⟨v1.heap.size, 1, none⟩ = some (.slice A ys.length C) := (hA.cell (by show v1.heap.size < _; omega)).trans m1
        replace M := Lib.hid (M.out.below hA (fun g hg => (M.out.lt g hg).2))
        replace HB := Lib.hid (HB.out.trans (hA.mono HB.out.size))
        clear hb hA
        have z0v6 : v1.heap.size < v6.heap.size := by omega
        clear z0v5
        rw [EA.out]
        go_wp2_with fail
        refine (spec_IsChance_c _ _ _ _ _ _ M.out.rowAt).mono ?_
        rintro e v7 ⟨rfl, hb⟩
        have hA : Below v6.heap.size v6 v7 := Below.trans (by repeat (first | exact Below.refl _ _ | (refine Below.alloc ?_ (by first | (simp <;> omega) | omega) _) | (refine Below.setCell ?_ (by first | (simp <;> omega) | omega) _) | (refine Below.drew ?_) | (refine below_drewN ?_ _))) (hb.mono (by first | exact Nat.le_refl _ | (simp <;> omega) | omega))
        have hsv7 : v6.heap.size ≤ v7.heap.size := hA.size
        replace m0 : v7.cell? ⟨v1.heap.size, 0, none⟩ = some (.int .i64 s) := (hA.cell (by show v1.heap.size < _; omega)).trans m0
        replace m1 : v7.cell? ⟨v1.heap.size, 1, none⟩ = some (.slice A ys.length C) := (hA.cell (by show v1.heap.size < _; omega)).trans m1
        replace M := Lib.hid (M.out.below hA (fun g hg => (M.out.lt g hg).2))
        replace HB := Lib.hid (HB.out.trans (hA.mono HB.out.size))
        clear hb hA
        have z0v7 : v1.heap.size < v7.heap.size := by omega
        clear z0v6
        rw [EB.out]
        go_wp2_with fail
        refine (spec_IsNested_c _ _ _ _ _ _ M.out.rowAt).mono ?_
        rintro e v8 ⟨rfl, hb⟩
        have hA : Below v7.heap.size v7 v8 := Below.trans (by repeat (first | exact Below.refl _ _ | (refine Below.alloc ?_ (by first | (simp <;> omega) | omega) _) | (refine Below.setCell ?_ (by first | (simp <;> omega) | omega) _) | (refine Below.drew ?_) | (refine below_drewN ?_ _))) (hb.mono (by first | exact Nat.le_refl _ | (simp <;> omega) | omega))
        have hsv8 : v7.heap.size ≤ v8.heap.size := hA.size
        replace m0 : v8.cell? ⟨v1.heap.size, 0, none⟩ = some (.int .i64 s) := (hA.cell (by show v1.heap.size < _; omega)).trans m0
        replace m1 : v8.cell? ⟨v1.heap.size, 1, none⟩ = some (.slice A ys.length C) := (hA.cell (by show v1.heap.size < _; omega)).trans m1
        replace M := Lib.hid (M.out.below hA (fun g hg => (M.out.lt g hg).2))
        replace HB := Lib.hid (HB.out.trans (hA.mono HB.out.size))
        clear hb hA
        have z0v8 : v1.heap.size < v8.heap.size := by omega
        clear z0v7
        rw [EC.out]
        go_wp2_with fail
        refine (impl_MassValid_c _ _ _ _ _ _ M.out.rowAt).mono ?_
        rintro e v9 ⟨rfl, hb⟩
        have hA : Below v8.heap.size v8 v9 := Below.trans (by repeat (first | exact Below.refl _ _ | (refine Below.alloc ?_ (by first | (simp <;> omega) | omega) _) | (refine Below.setCell ?_ (by first | (simp <;> omega) | omega) _) | (refine Below.drew ?_) | (refine below_drewN ?_ _))) (hb.mono (by first | exact Nat.le_refl _ | (simp <;> omega) | omega))
        have hsv9 : v8.heap.size ≤ v9.heap.size := hA.size
        replace m0 : v9.cell? ⟨v1.heap.size, 0, none⟩ = some (.int .i64 s) := (hA.cell (by show v1.heap.size < _; omega)).trans m0
        replace m1 : v9.cell? ⟨v1.heap.size, 1, none⟩ = some (.slice A ys.length C) := (hA.cell (by show v1.heap.size < _; omega)).trans m1
        replace M := Lib.hid (M.out.below hA (fun g hg => (M.out.lt g hg).2))
        replace HB := Lib.hid (HB.out.trans (hA.mono HB.out.size))
        clear hb hA
        have z0v9 : v1.heap.size < v9.heap.size := by omega
        clear z0v8
        rw [EM.out]
        go_wp2_with fail
        refine (HCI.out _ _ _ _ M.out.rowAt).mono ?_
        rintro e v10 ⟨A2, C2, rfl, ho, hb⟩
        have hA : Below v9.heap.size v9 v10 := Below.trans (by repeat (first | exact Below.refl _ _ | (refine Below.alloc ?_ (by first | (simp <;> omega) | omega) _) | (refine Below.setCell ?_ (by first | (simp <;> omega) | omega) _) | (refine Below.drew ?_) | (refine below_drewN ?_ _))) (hb.mono (by first | exact Nat.le_refl _ | (simp <;> omega) | omega))
        have hsv10 : v9.heap.size ≤ v10.heap.size := hA.size
        replace m0 : v10.cell? ⟨v1.heap.size, 0, none⟩ = some (.int .i64 s) := (hA.cell (by show v1.heap.size < _; omega)).trans m0
        replace m1 : v10.cell? ⟨v1.heap.size, 1, none⟩ = some (.slice A ys.length C) := (hA.cell (by show v1.heap.size < _; omega)).trans m1
        replace M := Lib.hid (M.out.below hA (fun g hg => (M.out.lt g hg).2))
        replace HB := Lib.hid (HB.out.trans (hA.mono HB.out.size))
        have LFO : Hid (∀ g, (.slice A2 F.length C2 : Value).ownBlock = some g → v9.heap.size + 0 ≤ g ∧ g < v10.heap.size) := Lib.hid (fun g hg => by have := ho.lt g hg; first | omega | (simp at this; omega) | (simp at this ⊢; omega))
        have FO := Lib.hid ho
        clear hb hA ho
        have z0v10 : v1.heap.size < v10.heap.size := by omega
        clear z0v9
        go_wp2_with fail
        obtain ⟨b1, o1, rfl, hb1, hcl⟩ := FO.out.rowAt.at_ (by omega)
        have hcap : F.length ≤ C2 := FO.out.rowAt.2.1
        have HCL := Lib.hid hcl
        clear hcl
        go_loopw [8] (fun i wr => ∃ k : Nat, 1 ≤ k ∧ k ≤ F.length ∧ i = .int .i64 k ∧ ∃ m, wr = v10.drewN m) (fun i _ => F.length - (intOf i).toNat)
        case atStart => exact ⟨1, Nat.le_refl _, g1, rfl, 0, rfl⟩
        case round =>
          obtain ⟨k, hk1, hk2, rfl, m, rfl⟩ := hrel
          by_cases hlt : k < F.length
          · have hlt' : (k : Int) < (F.length : Int) := by omega
            have hk0 : (0 : Int) ≤ (k : Int) := by omega
            obtain ⟨j, hj⟩ : ∃ j, k = j + 1 := ⟨k - 1, by omega⟩
            have hw : IntKind.i64.wrap ((k : Int) - 1) = (j : Int) := by rw [IntWalk.i64_in _ (by omega)]; omega
            have hkj : (k : Int) - 1 = (j : Int) := by omega
            have hj1 : (j : Int) < (F.length : Int) := by omega
            have hj0 : (0 : Int) ≤ (j : Int) := by omega
            have hh := HST.out k hk1 hlt
            rw [show k - 1 = j by omega] at hh
            have c1 : (v10.drewN m).cell? ⟨b1, o1 + k, none⟩ = some (.int .i64 (F.getD k 0)) := HCL.out k hlt
            have c2 : (v10.drewN m).cell? ⟨b1, o1 + j, none⟩ = some (.int .i64 (F.getD j 0)) := HCL.out j (by omega)
            clear hj
            generalize F.getD k 0 = x at *
            generalize F.getD j 0 = y at *
            obtain ⟨wk, hwk⟩ : ∃ wk, wk = v10.drewN m := ⟨_, rfl⟩
            rw [← hwk] at c1 c2 ⊢
            have HWK := Lib.hid hwk
            clear hwk
            go_wp2_with fail
            go_quiet ((go_at_call 17; exact quiet_my (impl_HasSet_c _ _ _)))
            go_wp2_with fail
            go_roundw
            case rel => exact ⟨k + 1, by omega, by omega, by go_num, _, by rw [HWK.out, World.drewN_drewN]⟩
            case measure => simp [intOf]; omega
          · obtain rfl : k = F.length := by omega
            have c0 : (v10.drewN m).cell? ⟨b1, o1 + 0, none⟩ = some (.int .i64 (F.getD 0 0)) := HCL.out 0 (by omega)
            rw [Nat.add_zero] at c0
            have hF0 := HF0.out
            generalize F.getD 0 0 = f0 at *
            have m0' : (v10.drewN m).cell? ⟨v1.heap.size, 0, none⟩ = some (.int .i64 s) := m0
            have HBD := Lib.hid (below_drewN HB.out m)
            go_wp2_with fail
            go_ret
            exact ⟨rfl, HBD.out⟩
      · have hF0 : (F.getD 0 0 != 0) = true := by rw [← hno]; exact ha
        clear hno hch hon hne hst
        have EA := Lib.hid ha
        have EB := Lib.hid hb0
        have EC := Lib.hid hc
        have HF0 := Lib.hid hF0
        clear ha hb0 hc hF0
        have H0 : Hid (Below v2.heap.size v2 v2.drew) := Lib.hid (Below.refl _ _).drew
        have M_0 := Lib.hid M.out.drew
        go_region_held3 (fun w' => w'.cell? ⟨v1.heap.size, 0, none⟩ = some (.int .i64 s) ∧ w'.cell? ⟨v1.heap.size, 1, none⟩ = some (.slice A ys.length C))
          (first
            | with_reducible exact ⟨m0_1, m1_1⟩
            | with_reducible exact ⟨m0_2, m1_2⟩
            | with_reducible exact ⟨m0_3, m1_3⟩
            | exact ⟨m0, m1⟩)
          (first
            | (go_at_call 9; ((with_reducible refine (impl_IsNormal_c _ _ _ _ _ _ (M_0.out).rowAt).mono ?_)); rintro e v3 ⟨rfl, hb⟩; rw [EA.out]; have H1 := Lib.hid (nodrewG hb); have m0_1 : v3.cell? ⟨v1.heap.size, 0, none⟩ = some (.int .i64 s) := (H1.out.cell (by show v1.heap.size < _; omega)).trans m0; have m1_1 : v3.cell? ⟨v1.heap.size, 1, none⟩ = some (.slice A ys.length C) := (H1.out.cell (by show v1.heap.size < _; omega)).trans m1; have M_1 := Lib.hid (M.out.below H1.out (fun g hg => (M.out.lt g hg).2)); clear hb)
            | (go_at_call 10; ((with_reducible refine (impl_IsChance_c _ _ _ _ _ _ (M_1.out).rowAt).mono ?_)); rintro e v4 ⟨rfl, hb⟩; rw [EB.out]; have H2 := Lib.hid (H1.out.trans (hb.mono H1.out.size)); have m0_2 : v4.cell? ⟨v1.heap.size, 0, none⟩ = some (.int .i64 s) := (H2.out.cell (by show v1.heap.size < _; omega)).trans m0; have m1_2 : v4.cell? ⟨v1.heap.size, 1, none⟩ = some (.slice A ys.length C) := (H2.out.cell (by show v1.heap.size < _; omega)).trans m1; have M_2 := Lib.hid (M.out.below H2.out (fun g hg => (M.out.lt g hg).2)); clear hb)
            | (go_at_call 11; ((with_reducible refine (impl_IsNested_c _ _ _ _ _ _ (M_2.out).rowAt).mono ?_)); rintro e v5 ⟨rfl, hb⟩; rw [EC.out]; have H3 := Lib.hid (H2.out.trans (hb.mono H2.out.size)); have m0_3 : v5.cell? ⟨v1.heap.size, 0, none⟩ = some (.int .i64 s) := (H3.out.cell (by show v1.heap.size < _; omega)).trans m0; have m1_3 : v5.cell? ⟨v1.heap.size, 1, none⟩ = some (.slice A ys.length C) := (H3.out.cell (by show v1.heap.size < _; omega)).trans m1; have M_3 := Lib.hid (M.out.below H3.out (fun g hg => (M.out.lt g hg).2)); clear hb))
        have hsv5 : v2.heap.size ≤ v5.heap.size := H3.out.size
        replace m0 := m0_3
        replace m1 := m1_3
        replace M := Lib.hid M_3.out
        replace HB := Lib.hid (HB.out.trans (H3.out.mono HB.out.size))
        clear m0_1 m0_2 m0_3 m1_1 m1_2 m1_3 M_0 M_1 M_2 M_3 H0 H1 H2 H3
        have z0v5 : v1.heap.size < v5.heap.size := by omega
        clear z0v2
        go_wp2_with fail
        refine (spec_IsNormal_c _ _ _ _ _ _ M.out.rowAt).mono ?_
        rintro e v6 ⟨rfl, hb⟩
        have hA : Below v5.heap.size v5 v6 := Below.trans (by repeat (first | exact Below.refl _ _ | (refine Below.alloc ?_ (by first | (simp <;> omega) | omega) _) | (refine Below.setCell ?_ (by first | (simp <;> omega) | omega) _) | (refine Below.drew ?_) | (refine below_drewN ?_ _))) (hb.mono (by first | exact Nat.le_refl _ | (simp <;> omega) | omega))
        have hsv6 : v5.heap.size ≤ v6.heap.size := hA.size
        replace m0 : v6.cell? ⟨v1.heap.size, 0, none⟩ = some (.int .i64 s) := (hA.cell (by show v1.heap.size < _; omega)).trans m0
        replace m1 : v6.cell? ⟨v1.heap.size, 1, none⟩ = some (.slice A ys.length C) := (hA.cell (by show v1.heap.size < _; omega)).trans m1
        replace M := Lib.hid (M.out.below hA (fun g hg => (M.out.lt g hg).2))
        replace HB := Lib.hid (HB.out.trans (hA.mono HB.out.size))
        clear hb hA
        have z0v6 : v1.heap.size < v6.heap.size := by omega
        clear z0v5
        rw [EA.out]
        go_wp2_with fail
        refine (spec_IsChance_c _ _ _ _ _ _ M.out.rowAt).mono ?_
        rintro e v7 ⟨rfl, hb⟩
        have hA : Below v6.heap.size v6 v7 := Below.trans (by repeat (first | exact Below.refl _ _ | (refine Below.alloc ?_ (by first | (simp <;> omega) | omega) _) | (refine Below.setCell ?_ (by first | (simp <;> omega) | omega) _) | (refine Below.drew ?_) | (refine below_drewN ?_ _))) (hb.mono (by first | exact Nat.le_refl _ | (simp <;> omega) | omega))
        have hsv7 : v6.heap.size ≤ v7.heap.size := hA.size
        replace m0 : v7.cell? ⟨v1.heap.size, 0, none⟩ = some (.int .i64 s) := (hA.cell (by show v1.heap.size < _; omega)).trans m0
        replace m1 : v7.cell? ⟨v1.heap.size, 1, none⟩ = some (.slice A ys.length C) := (hA.cell (by show v1.heap.size < _; omega)).trans m1
        replace M := Lib.hid (M.out.below hA (fun g hg => (M.out.lt g hg).2))
        replace HB := Lib.hid (HB.out.trans (hA.mono HB.out.size))
        clear hb hA
        have z0v7 : v1.heap.size < v7.heap.size := by omega
        clear z0v6
        rw [EB.out]
        go_wp2_with fail
        refine (spec_IsNested_c _ _ _ _ _ _ M.out.rowAt).mono ?_
        rintro e v8 ⟨rfl, hb⟩
        have hA : Below v7.heap.size v7 v8 := Below.trans (by repeat (first | exact Below.refl _ _ | (refine Below.alloc ?_ (by first | (simp <;> omega) | omega) _) | (refine Below.setCell ?_ (by first | (simp <;> omega) | omega) _) | (refine Below.drew ?_) | (refine below_drewN ?_ _))) (hb.mono (by first | exact Nat.le_refl _ | (simp <;> omega) | omega))
        have hsv8 : v7.heap.size ≤ v8.heap.size := hA.size
        replace m0 : v8.cell? ⟨v1.heap.size, 0, none⟩ = some (.int .i64 s) := (hA.cell (by show v1.heap.size < _; omega)).trans m0
        replace m1 : v8.cell? ⟨v1.heap.size, 1, none⟩ = some (.slice A ys.length C) := (hA.cell (by show v1.heap.size < _; omega)).trans m1
        replace M := Lib.hid (M.out.below hA (fun g hg => (M.out.lt g hg).2))
        replace HB := Lib.hid (HB.out.trans (hA.mono HB.out.size))
        clear hb hA
        have z0v8 : v1.heap.size < v8.heap.size := by omega
        clear z0v7
        rw [EC.out]
        go_wp2_with fail
        refine (impl_MassValid_c _ _ _ _ _ _ M.out.rowAt).mono ?_
        rintro e v9 ⟨rfl, hb⟩
        have hA : Below v8.heap.size v8 v9 := Below.trans (by repeat (first | exact Below.refl _ _ | (refine Below.alloc ?_ (by first | (simp <;> omega) | omega) _) | (refine Below.setCell ?_ (by first | (simp <;> omega) | omega) _) | (refine Below.drew ?_) | (refine below_drewN ?_ _))) (hb.mono (by first | exact Nat.le_refl _ | (simp <;> omega) | omega))
        have hsv9 : v8.heap.size ≤ v9.heap.size := hA.size
        replace m0 : v9.cell? ⟨v1.heap.size, 0, none⟩ = some (.int .i64 s) := (hA.cell (by show v1.heap.size < _; omega)).trans m0
        replace m1 : v9.cell? ⟨v1.heap.size, 1, none⟩ = some (.slice A ys.length C) := (hA.cell (by show v1.heap.size < _; omega)).trans m1
        replace M := Lib.hid (M.out.below hA (fun g hg => (M.out.lt g hg).2))
        replace HB := Lib.hid (HB.out.trans (hA.mono HB.out.size))
        clear hb hA
        have z0v9 : v1.heap.size < v9.heap.size := by omega
        clear z0v8
        rw [EM.out]
        go_wp2_with fail
        refine (HCI.out _ _ _ _ M.out.rowAt).mono ?_
        rintro e v10 ⟨A2, C2, rfl, ho, hb⟩
        have hA : Below v9.heap.size v9 v10 := Below.trans (by repeat (first | exact Below.refl _ _ | (refine Below.alloc ?_ (by first | (simp <;> omega) | omega) _) | (refine Below.setCell ?_ (by first | (simp <;> omega) | omega) _) | (refine Below.drew ?_) | (refine below_drewN ?_ _))) (hb.mono (by first | exact Nat.le_refl _ | (simp <;> omega) | omega))
        have hsv10 : v9.heap.size ≤ v10.heap.size := hA.size
        replace m0 : v10.cell? ⟨v1.heap.size, 0, none⟩ = some (.int .i64 s) := (hA.cell (by show v1.heap.size < _; omega)).trans m0
        replace m1 : v10.cell? ⟨v1.heap.size, 1, none⟩ = some (.slice A ys.length C) := (hA.cell (by show v1.heap.size < _; omega)).trans m1
        replace M := Lib.hid (M.out.below hA (fun g hg => (M.out.lt g hg).2))
        replace HB := Lib.hid (HB.out.trans (hA.mono HB.out.size))
        have LFO : Hid (∀ g, (.slice A2 F.length C2 : Value).ownBlock = some g → v9.heap.size + 0 ≤ g ∧ g < v10.heap.size) := Lib.hid (fun g hg => by have := ho.lt g hg; first | omega | (simp at this; omega) | (simp at this ⊢; omega))
        have FO := Lib.hid ho
        clear hb hA ho
        have z0v10 : v1.heap.size < v10.heap.size := by omega
        clear z0v9
        go_wp2_with fail
        obtain ⟨b1, o1, rfl, hb1, hcl⟩ := FO.out.rowAt.at_ (by omega)
        have hcap : F.length ≤ C2 := FO.out.rowAt.2.1
        have HCL := Lib.hid hcl
        clear hcl
        go_loopw [8] (fun i wr => i = .int .i64 1 ∧ wr = v10) (fun _ _ => 0)
        case atStart => exact ⟨rfl, rfl⟩
        case round =>
          obtain ⟨rfl, rfl⟩ := hrel
          have c0 := HCL.out 0 (by omega)
          rw [Nat.add_zero] at c0
          have hF0 := HF0.out
          generalize F.getD 0 0 = f0 at *
          by_cases hlt : (1 : Int) < (F.length : Int)
          all_goals
            go_wp2_with fail
            go_ret
            exact ⟨rfl, HB.out⟩
      · have hF0 : (F.getD 0 0 != 0) = true := by rw [← hno]; exact ha
        have hle := hne hc
        have hleb : decide ((F.length : Int) ≤ s + 1) = true := decide_eq_true hle
        have HST := Lib.hid (hst hc)
        have hone := hon hb0 hc
        have honeb : ((F.length : Int) == 1) = true := by rw [hone]; rfl
        clear hone
        clear hno hch hon hne hst
        have EA := Lib.hid ha
        have EB := Lib.hid hb0
        have EC := Lib.hid hc
        have HF0 := Lib.hid hF0
        clear ha hb0 hc hF0
        have H0 : Hid (Below v2.heap.size v2 v2.drew) := Lib.hid (Below.refl _ _).drew
        have M_0 := Lib.hid M.out.drew
        go_region_held3 (fun w' => w'.cell? ⟨v1.heap.size, 0, none⟩ = some (.int .i64 s) ∧ w'.cell? ⟨v1.heap.size, 1, none⟩ = some (.slice A ys.length C))
          (first
            | with_reducible exact ⟨m0_1, m1_1⟩
            | with_reducible exact ⟨m0_2, m1_2⟩
            | with_reducible exact ⟨m0_3, m1_3⟩
            | exact ⟨m0, m1⟩)
          (first
            | (go_at_call 9; ((with_reducible refine (impl_IsNormal_c _ _ _ _ _ _ (M_0.out).rowAt).mono ?_)); rintro e v3 ⟨rfl, hb⟩; rw [EA.out]; have H1 := Lib.hid (nodrewG hb); have m0_1 : v3.cell? ⟨v1.heap.size, 0, none⟩ = some (.int .i64 s) := (H1.out.cell (by show v1.heap.size < _; omega)).trans m0; have m1_1 : v3.cell? ⟨v1.heap.size, 1, none⟩ = some (.slice A ys.length C) := (H1.out.cell (by show v1.heap.size < _; omega)).trans m1; have M_1 := Lib.hid (M.out.below H1.out (fun g hg => (M.out.lt g hg).2)); clear hb)
            | (go_at_call 10; ((with_reducible refine (impl_IsChance_c _ _ _ _ _ _ (M_1.out).rowAt).mono ?_)); rintro e v4 ⟨rfl, hb⟩; rw [EB.out]; have H2 := Lib.hid (H1.out.trans (hb.mono H1.out.size)); have m0_2 : v4.cell? ⟨v1.heap.size, 0, none⟩ = some (.int .i64 s) := (H2.out.cell (by show v1.heap.size < _; omega)).trans m0; have m1_2 : v4.cell? ⟨v1.heap.size, 1, none⟩ = some (.slice A ys.length C) := (H2.out.cell (by show v1.heap.size < _; omega)).trans m1; have M_2 := Lib.hid (M.out.below H2.out (fun g hg => (M.out.lt g hg).2)); clear hb)
            | (go_at_call 11; ((with_reducible refine (impl_IsNested_c _ _ _ _ _ _ (M_2.out).rowAt).mono ?_)); rintro e v5 ⟨rfl, hb⟩; rw [EC.out]; have H3 := Lib.hid (H2.out.trans (hb.mono H2.out.size)); have m0_3 : v5.cell? ⟨v1.heap.size, 0, none⟩ = some (.int .i64 s) := (H3.out.cell (by show v1.heap.size < _; omega)).trans m0; have m1_3 : v5.cell? ⟨v1.heap.size, 1, none⟩ = some (.slice A ys.length C) := (H3.out.cell (by show v1.heap.size < _; omega)).trans m1; have M_3 := Lib.hid (M.out.below H3.out (fun g hg => (M.out.lt g hg).2)); clear hb))
        have hsv5 : v2.heap.size ≤ v5.heap.size := H3.out.size
        replace m0 := m0_3
        replace m1 := m1_3
        replace M := Lib.hid M_3.out
        replace HB := Lib.hid (HB.out.trans (H3.out.mono HB.out.size))
        clear m0_1 m0_2 m0_3 m1_1 m1_2 m1_3 M_0 M_1 M_2 M_3 H0 H1 H2 H3
        have z0v5 : v1.heap.size < v5.heap.size := by omega
        clear z0v2
        go_wp2_with fail
        refine (spec_IsNormal_c _ _ _ _ _ _ M.out.rowAt).mono ?_
        rintro e v6 ⟨rfl, hb⟩
        have hA : Below v5.heap.size v5 v6 := Below.trans (by repeat (first | exact Below.refl _ _ | (refine Below.alloc ?_ (by first | (simp <;> omega) | omega) _) | (refine Below.setCell ?_ (by first | (simp <;> omega) | omega) _) | (refine Below.drew ?_) | (refine below_drewN ?_ _))) (hb.mono (by first | exact Nat.le_refl _ | (simp <;> omega) | omega))
        have hsv6 : v5.heap.size ≤ v6.heap.size := hA.size
        replace m0 : v6.cell? ⟨v1.heap.size, 0, none⟩ = some (.int .i64 s) := (hA.cell (by show v1.heap.size < _; omega)).trans m0
        replace m1 : v6.cell? ⟨v1.heap.size, 1, none⟩ = some (.slice A ys.length C) := (hA.cell (by show v1.heap.size < _; omega)).trans m1
        replace M := Lib.hid (M.out.below hA (fun g hg => (M.out.lt g hg).2))
        replace HB := Lib.hid (HB.out.trans (hA.mono HB.out.size))
        clear hb hA
        have z0v6 : v1.heap.size < v6.heap.size := by omega
        clear z0v5
        rw [EA.out]
        go_wp2_with fail
        refine (spec_IsChance_c _ _ _ _ _ _ M.out.rowAt).mono ?_
        rintro e v7 ⟨rfl, hb⟩
        have hA : Below v6.heap.size v6 v7 := Below.trans (by repeat (first | exact Below.refl _ _ | (refine Below.alloc ?_ (by first | (simp <;> omega) | omega) _) | (refine Below.setCell ?_ (by first | (simp <;> omega) | omega) _) | (refine Below.drew ?_) | (refine below_drewN ?_ _))) (hb.mono (by first | exact Nat.le_refl _ | (simp <;> omega) | omega))
        have hsv7 : v6.heap.size ≤ v7.heap.size := hA.size
        replace m0 : v7.cell? ⟨v1.heap.size, 0, none⟩ = some (.int .i64 s) := (hA.cell (by show v1.heap.size < _; omega)).trans m0
        replace m1 : v7.cell? ⟨v1.heap.size, 1, none⟩ = some (.slice A ys.length C) := (hA.cell (by show v1.heap.size < _; omega)).trans m1
        replace M := Lib.hid (M.out.below hA (fun g hg => (M.out.lt g hg).2))
        replace HB := Lib.hid (HB.out.trans (hA.mono HB.out.size))
        clear hb hA
        have z0v7 : v1.heap.size < v7.heap.size := by omega
        clear z0v6
        rw [EB.out]
        go_wp2_with fail
        refine (spec_IsNested_c _ _ _ _ _ _ M.out.rowAt).mono ?_
        rintro e v8 ⟨rfl, hb⟩
        have hA : Below v7.heap.size v7 v8 := Below.trans (by repeat (first | exact Below.refl _ _ | (refine Below.alloc ?_ (by first | (simp <;> omega) | omega) _) | (refine Below.setCell ?_ (by first | (simp <;> omega) | omega) _) | (refine Below.drew ?_) | (refine below_drewN ?_ _))) (hb.mono (by first | exact Nat.le_refl _ | (simp <;> omega) | omega))
        have hsv8 : v7.heap.size ≤ v8.heap.size := hA.size
        replace m0 : v8.cell? ⟨v1.heap.size, 0, none⟩ = some (.int .i64 s) := (hA.cell (by show v1.heap.size < _; omega)).trans m0
        replace m1 : v8.cell? ⟨v1.heap.size, 1, none⟩ = some (.slice A ys.length C) := (hA.cell (by show v1.heap.size < _; omega)).trans m1
        replace M := Lib.hid (M.out.below hA (fun g hg => (M.out.lt g hg).2))
        replace HB := Lib.hid (HB.out.trans (hA.mono HB.out.size))
        clear hb hA
        have z0v8 : v1.heap.size < v8.heap.size := by omega
        clear z0v7
        rw [EC.out]
        go_wp2_with fail
        refine (impl_MassValid_c _ _ _ _ _ _ M.out.rowAt).mono ?_
        rintro e v9 ⟨rfl, hb⟩
        have hA : Below v8.heap.size v8 v9 := Below.trans (by repeat (first | exact Below.refl _ _ | (refine Below.alloc ?_ (by first | (simp <;> omega) | omega) _) | (refine Below.setCell ?_ (by first | (simp <;> omega) | omega) _) | (refine Below.drew ?_) | (refine below_drewN ?_ _))) (hb.mono (by first | exact Nat.le_refl _ | (simp <;> omega) | omega))
        have hsv9 : v8.heap.size ≤ v9.heap.size := hA.size
        replace m0 : v9.cell? ⟨v1.heap.size, 0, none⟩ = some (.int .i64 s) := (hA.cell (by show v1.heap.size < _; omega)).trans m0
        replace m1 : v9.cell? ⟨v1.heap.size, 1, none⟩ = some (.slice A ys.length C) := (hA.cell (by show v1.heap.size < _; omega)).trans m1
        replace M := Lib.hid (M.out.below hA (fun g hg => (M.out.lt g hg).2))
        replace HB := Lib.hid (HB.out.trans (hA.mono HB.out.size))
        clear hb hA
        have z0v9 : v1.heap.size < v9.heap.size := by omega
        clear z0v8
        rw [EM.out]
        go_wp2_with fail
        refine (HCI.out _ _ _ _ M.out.rowAt).mono ?_
        rintro e v10 ⟨A2, C2, rfl, ho, hb⟩
        have hA : Below v9.heap.size v9 v10 := Below.trans (by repeat (first | exact Below.refl _ _ | (refine Below.alloc ?_ (by first | (simp <;> omega) | omega) _) | (refine Below.setCell ?_ (by first | (simp <;> omega) | omega) _) | (refine Below.drew ?_) | (refine below_drewN ?_ _))) (hb.mono (by first | exact Nat.le_refl _ | (simp <;> omega) | omega))
        have hsv10 : v9.heap.size ≤ v10.heap.size := hA.size
        replace m0 : v10.cell? ⟨v1.heap.size, 0, none⟩ = some (.int .i64 s) := (hA.cell (by show v1.heap.size < _; omega)).trans m0
        replace m1 : v10.cell? ⟨v1.heap.size, 1, none⟩ = some (.slice A ys.length C) := (hA.cell (by show v1.heap.size < _; omega)).trans m1
        replace M := Lib.hid (M.out.below hA (fun g hg => (M.out.lt g hg).2))
        replace HB := Lib.hid (HB.out.trans (hA.mono HB.out.size))
        have LFO : Hid (∀ g, (.slice A2 F.length C2 : Value).ownBlock = some g → v9.heap.size + 0 ≤ g ∧ g < v10.heap.size) := Lib.hid (fun g hg => by have := ho.lt g hg; first | omega | (simp at this; omega) | (simp at this ⊢; omega))
        have FO := Lib.hid ho
        clear hb hA ho
        have z0v10 : v1.heap.size < v10.heap.size := by omega
        clear z0v9
        go_wp2_with fail
        obtain ⟨b1, o1, rfl, hb1, hcl⟩ := FO.out.rowAt.at_ (by omega)
        have hcap : F.length ≤ C2 := FO.out.rowAt.2.1
        have HCL := Lib.hid hcl
        clear hcl
        go_loopw [8] (fun i wr => ∃ k : Nat, 1 ≤ k ∧ k ≤ F.length ∧ i = .int .i64 k ∧ ∃ m, wr = v10.drewN m) (fun i _ => F.length - (intOf i).toNat)
        case atStart => exact ⟨1, Nat.le_refl _, g1, rfl, 0, rfl⟩
        case round =>
          obtain ⟨k, hk1, hk2, rfl, m, rfl⟩ := hrel
          by_cases hlt : k < F.length
          · have hlt' : (k : Int) < (F.length : Int) := by omega
            have hk0 : (0 : Int) ≤ (k : Int) := by omega
            obtain ⟨j, hj⟩ : ∃ j, k = j + 1 := ⟨k - 1, by omega⟩
            have hw : IntKind.i64.wrap ((k : Int) - 1) = (j : Int) := by rw [IntWalk.i64_in _ (by omega)]; omega
            have hkj : (k : Int) - 1 = (j : Int) := by omega
            have hj1 : (j : Int) < (F.length : Int) := by omega
            have hj0 : (0 : Int) ≤ (j : Int) := by omega
            have hh := HST.out k hk1 hlt
            rw [show k - 1 = j by omega] at hh
            have c1 : (v10.drewN m).cell? ⟨b1, o1 + k, none⟩ = some (.int .i64 (F.getD k 0)) := HCL.out k hlt
            have c2 : (v10.drewN m).cell? ⟨b1, o1 + j, none⟩ = some (.int .i64 (F.getD j 0)) := HCL.out j (by omega)
            clear hj
            generalize F.getD k 0 = x at *
            generalize F.getD j 0 = y at *
            obtain ⟨wk, hwk⟩ : ∃ wk, wk = v10.drewN m := ⟨_, rfl⟩
            rw [← hwk] at c1 c2 ⊢
            have HWK := Lib.hid hwk
            clear hwk
            go_wp2_with fail
            go_quiet ((go_at_call 17; exact quiet_my (impl_HasSet_c _ _ _)))
            go_wp2_with fail
            go_roundw
            case rel => exact ⟨k + 1, by omega, by omega, by go_num, _, by rw [HWK.out, World.drewN_drewN]⟩
            case measure => simp [intOf]; omega
          · obtain rfl : k = F.length := by omega
            have c0 : (v10.drewN m).cell? ⟨b1, o1 + 0, none⟩ = some (.int .i64 (F.getD 0 0)) := HCL.out 0 (by omega)
            rw [Nat.add_zero] at c0
            have hF0 := HF0.out
            generalize F.getD 0 0 = f0 at *
            have m0' : (v10.drewN m).cell? ⟨v1.heap.size, 0, none⟩ = some (.int .i64 s) := m0
            have HBD := Lib.hid (below_drewN HB.out m)
            go_wp2_with fail
            go_ret
            exact ⟨rfl, HBD.out⟩
  · have hn2 : 1048576 < (len0 : Int) := by omega
    go_enter Try.func3, Try.ntmps3
    go_wp2_with fail
    go_ret
    exact ⟨rfl, Below.refl _ _⟩

set_option maxRecDepth 100000 in
theorem lifted (os : Os) (started : os.Started) (H : Type) (enc : TypeId × Value → H) :
    ReturnsInHanded {} Try.checked os 3 .any (Rows.fnKindsSpec.pre6 enc Try.prog Try.f3 Rows.fnKindsRow.domain false) (Rows.fnKindsSpec.post enc Try.prog Try.f3 false true false false) := by
  refine returnsInHanded_of_change (C := Try.checked) own started (by kernel_rfl) Try.func3
    (ChangeSpec.witness6 (enc := enc) (C := Try.checked) false ⟨#[], #[.slice none 0 0], []⟩ 8 (by kernel_rfl) (by kernel_rfl) (by kernel_rfl) (by kernel_rfl)) ?_
  intro W base args ds gs before hval0 hW hcnd _
  have hval : ∀ (j : Nat) t v, Try.f3.params[j]? = some t → args[j]? = some v → Value.okWide Try.prog W .any base t v := hval0
  have hW' := hW
  obtain ⟨p, q, hA0, hV, rfl, hfz, hnd⟩ := hW
  have hA : DataW.TrodAll enc Try.prog W 0 (fun _ => true) true Try.f3.params.toList args.toList ds p := hA0
  rw [Try.params3] at hA hval
  obtain ⟨v0, vs0, d0, ds0, p0, q0, hargs, rfl, rfl, h0, r0⟩ := trodAll_cons hA
  obtain ⟨rfl, rfl, rfl⟩ := trodAll_nil r0
  obtain rfl : args = #[v0] := by cases args; simp_all
  obtain ⟨rfl, rfl⟩ := trodVars_none hV
  have k0 := h0
  have lt0 : ∀ x ∈ p0, x.block < W.heap.size := by obtain ⟨m, hm⟩ := k0; exact DataW.trod_lt m _ _ _ hm
  obtain ⟨a0, len0, cap0, z0, rfl, w0⟩ := get_row Try.underlying22 Try.underlying5 (by kernel_rfl) (hval 0 22 v0 rfl rfl) h0
  clear hA0 hval0
  refine (walk a0 len0 cap0 z0 W w0).mono fun e W' ⟨he, bel⟩ => ?_
  subst he
  exact ⟨_, rfl, _, _, _, [], _, [], hW', trodAll_mk1 (shut_bool Try.underlying4 _), (trodAll_cons_mk (Below.trod laidOut (by kernel_rfl) (of_decide_eq_true (by kernel_rfl)) k0 bel lt0) trodAll_mk0), rfl, bel.frame _, fun h => by cases h⟩

theorem closed : joinedFacts Try.prog 3 Try.f3 Rows.fnKindsSpec Rows.fnKindsRow = true := by
  rw [joinedFacts.eq_1]
  simp only [Bool.and_eq_true]
  repeat' apply And.intro
  all_goals first | (with_reducible exact fact_enter) | (with_reducible exact laidOut) | (with_reducible exact fact_maps) | (with_reducible exact fact_heard) | (rw [fact_lifts]; try (as_aux_lemma => kernel_rfl)) | (rw [fact_make]; try (as_aux_lemma => kernel_rfl)) | (rw [fact_keys]; try (as_aux_lemma => kernel_rfl)) | (as_aux_lemma => kernel_rfl)

theorem holds : Rows.FnKindsSaid :=
  OpenClaim.holds_of_wide 3 Try.f3 rfl rfl rfl rfl rfl rfl rfl ⟨rfl, rfl, rfl, rfl, rfl⟩ rfl rfl rfl rfl rfl (by kernel_rfl) Try.func3 closed
    (of_decide_eq_true (by kernel_rfl)) (by unfold Func.isWrapper; rw [if_neg (of_decide_eq_false (by kernel_rfl))]; exact ⟨rfl, rfl⟩)
    (fun os started H enc _ => lifted os started H enc)
#print axioms holds
end Go.Proofs.Ytemollfejgmlcaa.fnKinds
