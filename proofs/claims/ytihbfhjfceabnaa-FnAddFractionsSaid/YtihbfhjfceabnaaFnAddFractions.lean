/- FnAddFractions: for every input that can be read, the law returns true and its arguments read afterwards as before. Conditions: none. -/
import Derived.Test.YtihbfhjfceabnaaMem
import Derived.Test.YtihbfhjfceabnaaSigns
import Derived.Test.YtihbfhjfceabnaaPlainB
import Derived.Test.YtihbfhjfceabnaaWm
import Derived.Test.YtihbfhjfceabnaaWc
import Derived.Test.YtihbfhjfceabnaaWe
import Derived.Test.YtihbfhjfceabnaaWf
import Derived.Test.YtihbfhjfceabnaaWg
import Derived.Test.YtihbfhjfceabnaaWh
import Derived.Test.YtihbfhjfceabnaaWd
import Derived.Test.YtihbfhjfceabnaaWr
import Derived.Test.YtihbfhjfceabnaaWi
import Derived.Test.YtihbfhjfceabnaaWj
import Derived.Test.YtihbfhjfceabnaaWk
import Derived.Test.YtihbfhjfceabnaaWl
import Derived.Test.YtihbfhjfceabnaaWn
import Derived.Deep.RegionHeld3
import Derived.Deep.RegionWith
import Derived.BigGuardPart
import Derived.Deep.DeepCutAuto
import Derived.Test.YtihbfhjfceabnaaHr
namespace Go.Proofs.Ytihbfhjfceabnaa.fnAddFractions
open Go.ChangeShapes Go.WideShapes Go.ChangeAt Go.RowKit
open Go.ChangeMaps (open_string shut_string)
set_option linter.unusedVariables false

set_option maxRecDepth 100000 in
set_option maxHeartbeats 4000000 in
theorem walk (a0 : Option Addr) (len0 cap0 : Nat) (z0 : List Int) (a1 : Option Addr) (len1 cap1 : Nat) (z1 : List Int) (w : World) (w0 : IsRow .u8 w a0 len0 cap0 z0) (w1 : IsRow .u8 w a1 len1 cap1 z1) :
    Calls Try.prog 4 #[.slice a0 len0 cap0, .slice a1 len1 cap1] w fun e w' => e = .returned (.bool true) ∧ Below w.heap.size w w' := by
  by_cases hn : len0 ≤ 1048576
  · have hn2 : (len0 : Int) ≤ 1048576 := by omega
    have hn2d : decide ((1048576 : Int) < (len0 : Int)) = false := by simp; omega
    by_cases hm : len1 ≤ 1048576
    · have hm2 : (len1 : Int) ≤ 1048576 := by omega
      have hm2d : decide ((1048576 : Int) < (len1 : Int)) = false := by simp; omega
      have HW := Lib.hid w0
      have HV := Lib.hid w1
      clear w0 w1
      go_enter Try.func4, Try.ntmps4
      go_wp2_with fail
      refine (DrawAddFractions_c _ _ _ _ _ HW.out).mono ?_
      rintro e v0 ⟨a, b, c, d, rfl, hbel⟩
      have hwv0 := hbel.size
      have Hv0 := Lib.hid hbel
      clear hbel
      rcases hB : addB a b c d with _ | _
      · have hX : sel (addB a b c d) (lowX (a * d + c * b) (b * d)) = 0 := by rw [hB]; rfl
        have hY : sel (addB a b c d) (lowY (a * d + c * b) (b * d)) = 0 := by rw [hB]; rfl
        go_wp2_with fail
        refine (impl_Add_c _ _ _ _ _).mono ?_
        rintro e v1 ⟨rfl, hb⟩
        have f0 : v1.cell? ⟨v0.heap.size, 0, none⟩ = some (.int .i64 (a)) := (hb.cell (by show v0.heap.size < _; first | (simp <;> omega) | omega)).trans (by go_simp)
        have f1 : v1.cell? ⟨v0.heap.size, 1, none⟩ = some (.int .i64 (b)) := (hb.cell (by show v0.heap.size < _; first | (simp <;> omega) | omega)).trans (by go_simp)
        have g0 : v1.cell? ⟨v0.heap.size + 1, 0, none⟩ = some (.int .i64 (c)) := (hb.cell (by show v0.heap.size + 1 < _; first | (simp <;> omega) | omega)).trans (by go_simp)
        have g1 : v1.cell? ⟨v0.heap.size + 1, 1, none⟩ = some (.int .i64 (d)) := (hb.cell (by show v0.heap.size + 1 < _; first | (simp <;> omega) | omega)).trans (by go_simp)
        have hA : Below w.heap.size w v1 := by
          refine Below.trans ?_ (hb.mono (by first | (simp <;> omega) | omega))
          repeat (first | exact Hv0.out | (refine Below.alloc ?_ (by first | (simp <;> omega) | omega) _) | (refine Below.setCell ?_ (by first | (simp <;> omega) | omega) _) | (refine below_drewN ?_ _))
        have hzv1 : v0.heap.size ≤ v1.heap.size := by have := hb.size; first | (simp at this; omega) | omega
        have fs : v0.heap.size < v1.heap.size := by have := hb.size; first | (simp at this; omega) | omega
        have gs : v0.heap.size + 1 < v1.heap.size := by have := hb.size; first | (simp at this; omega) | omega
        have hwv1 : w.heap.size ≤ v1.heap.size := hA.size
        have Hv1 := Lib.hid hA
        clear hb hA Hv0
        rw [hX, hY, hB]
        go_wp2_with fail
        refine (spec_Add_c _ _ _ _ _).mono ?_
        rintro e v2 ⟨rfl, hb⟩
        replace f0 : v2.cell? ⟨v0.heap.size, 0, none⟩ = some (.int .i64 (a)) := (hb.cell (by show v0.heap.size < _; first | (simp <;> omega) | omega)).trans (by go_simp)
        replace f1 : v2.cell? ⟨v0.heap.size, 1, none⟩ = some (.int .i64 (b)) := (hb.cell (by show v0.heap.size < _; first | (simp <;> omega) | omega)).trans (by go_simp)
        replace g0 : v2.cell? ⟨v0.heap.size + 1, 0, none⟩ = some (.int .i64 (c)) := (hb.cell (by show v0.heap.size + 1 < _; first | (simp <;> omega) | omega)).trans (by go_simp)
        replace g1 : v2.cell? ⟨v0.heap.size + 1, 1, none⟩ = some (.int .i64 (d)) := (hb.cell (by show v0.heap.size + 1 < _; first | (simp <;> omega) | omega)).trans (by go_simp)
        have s0 : v2.cell? ⟨v1.heap.size, 0, none⟩ = some (.int .i64 (0)) := (hb.cell (by show v1.heap.size < _; first | (simp <;> omega) | omega)).trans (by go_simp)
        have s1 : v2.cell? ⟨v1.heap.size, 1, none⟩ = some (.int .i64 (0)) := (hb.cell (by show v1.heap.size < _; first | (simp <;> omega) | omega)).trans (by go_simp)
        have hA : Below w.heap.size w v2 := by
          refine Below.trans ?_ (hb.mono (by first | (simp <;> omega) | omega))
          repeat (first | exact Hv1.out | (refine Below.alloc ?_ (by first | (simp <;> omega) | omega) _) | (refine Below.setCell ?_ (by first | (simp <;> omega) | omega) _) | (refine below_drewN ?_ _))
        have hzv2 : v1.heap.size ≤ v2.heap.size := by have := hb.size; first | (simp at this; omega) | omega
        replace fs : v0.heap.size < v2.heap.size := by have := hb.size; first | (simp at this; omega) | omega
        replace gs : v0.heap.size + 1 < v2.heap.size := by have := hb.size; first | (simp at this; omega) | omega
        have ss : v1.heap.size < v2.heap.size := by have := hb.size; first | (simp at this; omega) | omega
        have hwv2 : w.heap.size ≤ v2.heap.size := hA.size
        have Hv2 := Lib.hid hA
        clear hb hA Hv1
        rw [hX, hY, hB]
        go_wp2_with fail
        go_ret
        exact ⟨rfl, (by repeat (first | exact Hv2.out | (refine Below.alloc ?_ (by first | (simp <;> omega) | omega) _) | (refine Below.setCell ?_ (by first | (simp <;> omega) | omega) _) | (refine below_drewN ?_ _)))⟩
      · obtain ⟨X, Y, eX, eY, hF, hG, hS, hcr⟩ := add_yes hB
        have hX : sel (addB a b c d) (lowX (a * d + c * b) (b * d)) = X := by rw [hB, eX]; rfl
        have hY : sel (addB a b c d) (lowY (a * d + c * b) (b * d)) = Y := by rw [hB, eY]; rfl
        obtain ⟨k1, k2, k3⟩ := add_back hF hG hS hcr
        obtain ⟨m1, m2, m3⟩ := @add_turn a b c d
        have hKB := k1
        have hKX : sel (addB X Y (-c) d) (lowX (X * d + -c * Y) (Y * d)) = a := by rw [k1, k2]; rfl
        have hKY : sel (addB X Y (-c) d) (lowY (X * d + -c * Y) (Y * d)) = b := by rw [k1, k3]; rfl
        have hMX : sel (addB c d a b) (lowX (c * b + a * d) (d * b)) = X := by rw [m1, m2, hX]
        have hMY : sel (addB c d a b) (lowY (c * b + a * d) (d * b)) = Y := by rw [m1, m3, hY]
        have hMB : addB c d a b = true := by rw [m1, hB]
        have hL := add_less hF hG hS hcr
        have hcp := (fracB_iff.1 hG).1
        clear k1 k2 k3 m1 m2 m3 eX eY
        have HX := Lib.hid hX
        have HY := Lib.hid hY
        have HB := Lib.hid hB
        have HKX := Lib.hid hKX
        have HKY := Lib.hid hKY
        have HKB := Lib.hid hKB
        have HMX := Lib.hid hMX
        have HMY := Lib.hid hMY
        have HMB := Lib.hid hMB
        have HF := Lib.hid hF
        have HG := Lib.hid hG
        have HS := Lib.hid hS
        have Hcr := Lib.hid hcr
        have HL := Lib.hid hL
        clear hX hY hB hKX hKY hKB hMX hMY hMB hF hG hS hcr hL
        go_wp2_with fail
        refine (impl_Add_c _ _ _ _ _).mono ?_
        rintro e v1 ⟨rfl, hb⟩
        have f0 : v1.cell? ⟨v0.heap.size, 0, none⟩ = some (.int .i64 (a)) := (hb.cell (by show v0.heap.size < _; first | (simp <;> omega) | omega)).trans (by go_simp)
        have f1 : v1.cell? ⟨v0.heap.size, 1, none⟩ = some (.int .i64 (b)) := (hb.cell (by show v0.heap.size < _; first | (simp <;> omega) | omega)).trans (by go_simp)
        have g0 : v1.cell? ⟨v0.heap.size + 1, 0, none⟩ = some (.int .i64 (c)) := (hb.cell (by show v0.heap.size + 1 < _; first | (simp <;> omega) | omega)).trans (by go_simp)
        have g1 : v1.cell? ⟨v0.heap.size + 1, 1, none⟩ = some (.int .i64 (d)) := (hb.cell (by show v0.heap.size + 1 < _; first | (simp <;> omega) | omega)).trans (by go_simp)
        have hA : Below w.heap.size w v1 := by
          refine Below.trans ?_ (hb.mono (by first | (simp <;> omega) | omega))
          repeat (first | exact Hv0.out | (refine Below.alloc ?_ (by first | (simp <;> omega) | omega) _) | (refine Below.setCell ?_ (by first | (simp <;> omega) | omega) _) | (refine below_drewN ?_ _))
        have hzv1 : v0.heap.size ≤ v1.heap.size := by have := hb.size; first | (simp at this; omega) | omega
        have fs : v0.heap.size < v1.heap.size := by have := hb.size; first | (simp at this; omega) | omega
        have gs : v0.heap.size + 1 < v1.heap.size := by have := hb.size; first | (simp at this; omega) | omega
        have hwv1 : w.heap.size ≤ v1.heap.size := hA.size
        have Hv1 := Lib.hid hA
        clear hb hA Hv0
        rw [HX.out, HY.out, HB.out]
        go_wp2_with fail
        refine (spec_Add_c _ _ _ _ _).mono ?_
        rintro e v2 ⟨rfl, hb⟩
        replace f0 : v2.cell? ⟨v0.heap.size, 0, none⟩ = some (.int .i64 (a)) := (hb.cell (by show v0.heap.size < _; first | (simp <;> omega) | omega)).trans (by go_simp)
        replace f1 : v2.cell? ⟨v0.heap.size, 1, none⟩ = some (.int .i64 (b)) := (hb.cell (by show v0.heap.size < _; first | (simp <;> omega) | omega)).trans (by go_simp)
        replace g0 : v2.cell? ⟨v0.heap.size + 1, 0, none⟩ = some (.int .i64 (c)) := (hb.cell (by show v0.heap.size + 1 < _; first | (simp <;> omega) | omega)).trans (by go_simp)
        replace g1 : v2.cell? ⟨v0.heap.size + 1, 1, none⟩ = some (.int .i64 (d)) := (hb.cell (by show v0.heap.size + 1 < _; first | (simp <;> omega) | omega)).trans (by go_simp)
        have s0 : v2.cell? ⟨v1.heap.size, 0, none⟩ = some (.int .i64 (X)) := (hb.cell (by show v1.heap.size < _; first | (simp <;> omega) | omega)).trans (by go_simp)
        have s1 : v2.cell? ⟨v1.heap.size, 1, none⟩ = some (.int .i64 (Y)) := (hb.cell (by show v1.heap.size < _; first | (simp <;> omega) | omega)).trans (by go_simp)
        have hA : Below w.heap.size w v2 := by
          refine Below.trans ?_ (hb.mono (by first | (simp <;> omega) | omega))
          repeat (first | exact Hv1.out | (refine Below.alloc ?_ (by first | (simp <;> omega) | omega) _) | (refine Below.setCell ?_ (by first | (simp <;> omega) | omega) _) | (refine below_drewN ?_ _))
        have hzv2 : v1.heap.size ≤ v2.heap.size := by have := hb.size; first | (simp at this; omega) | omega
        replace fs : v0.heap.size < v2.heap.size := by have := hb.size; first | (simp at this; omega) | omega
        replace gs : v0.heap.size + 1 < v2.heap.size := by have := hb.size; first | (simp at this; omega) | omega
        have ss : v1.heap.size < v2.heap.size := by have := hb.size; first | (simp at this; omega) | omega
        have hwv2 : w.heap.size ≤ v2.heap.size := hA.size
        have Hv2 := Lib.hid hA
        clear hb hA Hv1
        rw [HX.out, HY.out, HB.out]
        go_wp2_with fail
        refine (DrawMinusFraction_c _ _ _ _ _ (HV.out.below (by repeat (first | exact Hv2.out | (refine Below.alloc ?_ (by first | (simp <;> omega) | omega) _) | (refine Below.setCell ?_ (by first | (simp <;> omega) | omega) _) | (refine below_drewN ?_ _))))).mono ?_
        rintro e v3 ⟨e, k, rfl, hb⟩
        replace f0 : v3.cell? ⟨v0.heap.size, 0, none⟩ = some (.int .i64 (a)) := (hb.cell (by show v0.heap.size < _; first | (simp <;> omega) | omega)).trans (by go_simp)
        replace f1 : v3.cell? ⟨v0.heap.size, 1, none⟩ = some (.int .i64 (b)) := (hb.cell (by show v0.heap.size < _; first | (simp <;> omega) | omega)).trans (by go_simp)
        replace g0 : v3.cell? ⟨v0.heap.size + 1, 0, none⟩ = some (.int .i64 (c)) := (hb.cell (by show v0.heap.size + 1 < _; first | (simp <;> omega) | omega)).trans (by go_simp)
        replace g1 : v3.cell? ⟨v0.heap.size + 1, 1, none⟩ = some (.int .i64 (d)) := (hb.cell (by show v0.heap.size + 1 < _; first | (simp <;> omega) | omega)).trans (by go_simp)
        replace s0 : v3.cell? ⟨v1.heap.size, 0, none⟩ = some (.int .i64 (X)) := (hb.cell (by show v1.heap.size < _; first | (simp <;> omega) | omega)).trans (by go_simp)
        replace s1 : v3.cell? ⟨v1.heap.size, 1, none⟩ = some (.int .i64 (Y)) := (hb.cell (by show v1.heap.size < _; first | (simp <;> omega) | omega)).trans (by go_simp)
        have wn0 : v3.cell? ⟨v2.heap.size, 0, none⟩ = some (.int .i64 (X)) := (hb.cell (by show v2.heap.size < _; first | (simp <;> omega) | omega)).trans (by go_simp)
        have wn1 : v3.cell? ⟨v2.heap.size, 1, none⟩ = some (.int .i64 (Y)) := (hb.cell (by show v2.heap.size < _; first | (simp <;> omega) | omega)).trans (by go_simp)
        have hA : Below w.heap.size w v3 := by
          refine Below.trans ?_ (hb.mono (by first | (simp <;> omega) | omega))
          repeat (first | exact Hv2.out | (refine Below.alloc ?_ (by first | (simp <;> omega) | omega) _) | (refine Below.setCell ?_ (by first | (simp <;> omega) | omega) _) | (refine below_drewN ?_ _))
        have hzv3 : v2.heap.size ≤ v3.heap.size := by have := hb.size; first | (simp at this; omega) | omega
        replace fs : v0.heap.size < v3.heap.size := by have := hb.size; first | (simp at this; omega) | omega
        replace gs : v0.heap.size + 1 < v3.heap.size := by have := hb.size; first | (simp at this; omega) | omega
        replace ss : v1.heap.size < v3.heap.size := by have := hb.size; first | (simp at this; omega) | omega
        have wns : v2.heap.size < v3.heap.size := by have := hb.size; first | (simp at this; omega) | omega
        have hwv3 : w.heap.size ≤ v3.heap.size := hA.size
        have Hv3 := Lib.hid hA
        clear hb hA Hv2
        obtain ⟨B1, hB1⟩ : ∃ x, addB X Y e k = x := ⟨_, rfl⟩
        obtain ⟨A1, hA1⟩ : ∃ x, sel (addB X Y e k) (lowX (X * k + e * Y) (Y * k)) = x := ⟨_, rfl⟩
        obtain ⟨A2, hA2⟩ : ∃ x, sel (addB X Y e k) (lowY (X * k + e * Y) (Y * k)) = x := ⟨_, rfl⟩
        obtain ⟨B2, hB2⟩ : ∃ x, addB c d e k = x := ⟨_, rfl⟩
        obtain ⟨P, hP⟩ : ∃ x, sel (addB c d e k) (lowX (c * k + e * d) (d * k)) = x := ⟨_, rfl⟩
        obtain ⟨Q, hQ⟩ : ∃ x, sel (addB c d e k) (lowY (c * k + e * d) (d * k)) = x := ⟨_, rfl⟩
        obtain ⟨B3, hB3⟩ : ∃ x, addB a b P Q = x := ⟨_, rfl⟩
        obtain ⟨C1, hC1⟩ : ∃ x, sel (addB a b P Q) (lowX (a * Q + P * b) (b * Q)) = x := ⟨_, rfl⟩
        obtain ⟨C2, hC2⟩ : ∃ x, sel (addB a b P Q) (lowY (a * Q + P * b) (b * Q)) = x := ⟨_, rfl⟩
        have hAC : B1 = true → B2 = true → B3 = true → A1 = C1 ∧ A2 = C2 := by
          rintro rfl rfl rfl
          obtain ⟨_, _, q1, q2, _, q3, q4, q5⟩ := add_yes hB1
          rw [hB1, q1] at hA1
          rw [hB1, q2] at hA2
          obtain ⟨_, _, r1, r2, _, r3, r4, r5⟩ := add_yes hB2
          rw [hB2, r1] at hP
          rw [hB2, r2] at hQ
          rw [sel_true] at hA1 hA2 hP hQ
          subst hA1 hA2 hP hQ
          obtain ⟨_, _, s1, s2, _, s3, s4, s5⟩ := add_yes hB3
          rw [hB3, s1] at hC1
          rw [hB3, s2] at hC2
          rw [sel_true] at hC1 hC2
          subst hC1 hC2
          exact add_assoc' (frac_pos HF.out) (frac_pos HG.out) (frac_pos q3) (frac_pos HS.out) (frac_pos r4) Hcr.out r5 q5 s5 q4 s4
        have HB1 := Lib.hid hB1
        have HA1 := Lib.hid hA1
        have HA2 := Lib.hid hA2
        have HB2 := Lib.hid hB2
        have HP := Lib.hid hP
        have HQ := Lib.hid hQ
        have HB3 := Lib.hid hB3
        have HC1 := Lib.hid hC1
        have HC2 := Lib.hid hC2
        have HAC := Lib.hid hAC
        clear hB1 hA1 hA2 hB2 hP hQ hB3 hC1 hC2 hAC
        go_wp2_with fail
        refine (impl_Add_c _ _ _ _ _).mono ?_
        rintro e v4 ⟨rfl, hb⟩
        replace f0 : v4.cell? ⟨v0.heap.size, 0, none⟩ = some (.int .i64 (a)) := (hb.cell (by show v0.heap.size < _; first | (simp <;> omega) | omega)).trans (by go_simp)
        replace f1 : v4.cell? ⟨v0.heap.size, 1, none⟩ = some (.int .i64 (b)) := (hb.cell (by show v0.heap.size < _; first | (simp <;> omega) | omega)).trans (by go_simp)
        replace g0 : v4.cell? ⟨v0.heap.size + 1, 0, none⟩ = some (.int .i64 (c)) := (hb.cell (by show v0.heap.size + 1 < _; first | (simp <;> omega) | omega)).trans (by go_simp)
        replace g1 : v4.cell? ⟨v0.heap.size + 1, 1, none⟩ = some (.int .i64 (d)) := (hb.cell (by show v0.heap.size + 1 < _; first | (simp <;> omega) | omega)).trans (by go_simp)
        replace s0 : v4.cell? ⟨v1.heap.size, 0, none⟩ = some (.int .i64 (X)) := (hb.cell (by show v1.heap.size < _; first | (simp <;> omega) | omega)).trans (by go_simp)
        replace s1 : v4.cell? ⟨v1.heap.size, 1, none⟩ = some (.int .i64 (Y)) := (hb.cell (by show v1.heap.size < _; first | (simp <;> omega) | omega)).trans (by go_simp)
        replace wn0 : v4.cell? ⟨v2.heap.size, 0, none⟩ = some (.int .i64 (X)) := (hb.cell (by show v2.heap.size < _; first | (simp <;> omega) | omega)).trans (by go_simp)
        replace wn1 : v4.cell? ⟨v2.heap.size, 1, none⟩ = some (.int .i64 (Y)) := (hb.cell (by show v2.heap.size < _; first | (simp <;> omega) | omega)).trans (by go_simp)
        have h0 : v4.cell? ⟨v3.heap.size, 0, none⟩ = some (.int .i64 (e)) := (hb.cell (by show v3.heap.size < _; first | (simp <;> omega) | omega)).trans (by go_simp)
        have h1 : v4.cell? ⟨v3.heap.size, 1, none⟩ = some (.int .i64 (k)) := (hb.cell (by show v3.heap.size < _; first | (simp <;> omega) | omega)).trans (by go_simp)
        have hA : Below w.heap.size w v4 := by
          refine Below.trans ?_ (hb.mono (by first | (simp <;> omega) | omega))
          repeat (first | exact Hv3.out | (refine Below.alloc ?_ (by first | (simp <;> omega) | omega) _) | (refine Below.setCell ?_ (by first | (simp <;> omega) | omega) _) | (refine below_drewN ?_ _))
        have hzv4 : v3.heap.size ≤ v4.heap.size := by have := hb.size; first | (simp at this; omega) | omega
        replace fs : v0.heap.size < v4.heap.size := by have := hb.size; first | (simp at this; omega) | omega
        replace gs : v0.heap.size + 1 < v4.heap.size := by have := hb.size; first | (simp at this; omega) | omega
        replace ss : v1.heap.size < v4.heap.size := by have := hb.size; first | (simp at this; omega) | omega
        replace wns : v2.heap.size < v4.heap.size := by have := hb.size; first | (simp at this; omega) | omega
        have hs : v3.heap.size < v4.heap.size := by have := hb.size; first | (simp at this; omega) | omega
        have hwv4 : w.heap.size ≤ v4.heap.size := hA.size
        have Hv4 := Lib.hid hA
        clear hb hA Hv3
        rw [HA1.out, HA2.out, HB1.out]
        go_wp2_with fail
        refine (impl_Add_c _ _ _ _ _).mono ?_
        rintro e v5 ⟨rfl, hb⟩
        replace f0 : v5.cell? ⟨v0.heap.size, 0, none⟩ = some (.int .i64 (a)) := (hb.cell (by show v0.heap.size < _; first | (simp <;> omega) | omega)).trans (by go_simp)
        replace f1 : v5.cell? ⟨v0.heap.size, 1, none⟩ = some (.int .i64 (b)) := (hb.cell (by show v0.heap.size < _; first | (simp <;> omega) | omega)).trans (by go_simp)
        replace g0 : v5.cell? ⟨v0.heap.size + 1, 0, none⟩ = some (.int .i64 (c)) := (hb.cell (by show v0.heap.size + 1 < _; first | (simp <;> omega) | omega)).trans (by go_simp)
        replace g1 : v5.cell? ⟨v0.heap.size + 1, 1, none⟩ = some (.int .i64 (d)) := (hb.cell (by show v0.heap.size + 1 < _; first | (simp <;> omega) | omega)).trans (by go_simp)
        replace s0 : v5.cell? ⟨v1.heap.size, 0, none⟩ = some (.int .i64 (X)) := (hb.cell (by show v1.heap.size < _; first | (simp <;> omega) | omega)).trans (by go_simp)
        replace s1 : v5.cell? ⟨v1.heap.size, 1, none⟩ = some (.int .i64 (Y)) := (hb.cell (by show v1.heap.size < _; first | (simp <;> omega) | omega)).trans (by go_simp)
        replace wn0 : v5.cell? ⟨v2.heap.size, 0, none⟩ = some (.int .i64 (X)) := (hb.cell (by show v2.heap.size < _; first | (simp <;> omega) | omega)).trans (by go_simp)
        replace wn1 : v5.cell? ⟨v2.heap.size, 1, none⟩ = some (.int .i64 (Y)) := (hb.cell (by show v2.heap.size < _; first | (simp <;> omega) | omega)).trans (by go_simp)
        replace h0 : v5.cell? ⟨v3.heap.size, 0, none⟩ = some (.int .i64 (e)) := (hb.cell (by show v3.heap.size < _; first | (simp <;> omega) | omega)).trans (by go_simp)
        replace h1 : v5.cell? ⟨v3.heap.size, 1, none⟩ = some (.int .i64 (k)) := (hb.cell (by show v3.heap.size < _; first | (simp <;> omega) | omega)).trans (by go_simp)
        have ra0 : v5.cell? ⟨v4.heap.size, 0, none⟩ = some (.int .i64 (A1)) := (hb.cell (by show v4.heap.size < _; first | (simp <;> omega) | omega)).trans (by go_simp)
        have ra1 : v5.cell? ⟨v4.heap.size, 1, none⟩ = some (.int .i64 (A2)) := (hb.cell (by show v4.heap.size < _; first | (simp <;> omega) | omega)).trans (by go_simp)
        have hA : Below w.heap.size w v5 := by
          refine Below.trans ?_ (hb.mono (by first | (simp <;> omega) | omega))
          repeat (first | exact Hv4.out | (refine Below.alloc ?_ (by first | (simp <;> omega) | omega) _) | (refine Below.setCell ?_ (by first | (simp <;> omega) | omega) _) | (refine below_drewN ?_ _))
        have hzv5 : v4.heap.size ≤ v5.heap.size := by have := hb.size; first | (simp at this; omega) | omega
        replace fs : v0.heap.size < v5.heap.size := by have := hb.size; first | (simp at this; omega) | omega
        replace gs : v0.heap.size + 1 < v5.heap.size := by have := hb.size; first | (simp at this; omega) | omega
        replace ss : v1.heap.size < v5.heap.size := by have := hb.size; first | (simp at this; omega) | omega
        replace wns : v2.heap.size < v5.heap.size := by have := hb.size; first | (simp at this; omega) | omega
        replace hs : v3.heap.size < v5.heap.size := by have := hb.size; first | (simp at this; omega) | omega
        have ras : v4.heap.size < v5.heap.size := by have := hb.size; first | (simp at this; omega) | omega
        have hwv5 : w.heap.size ≤ v5.heap.size := hA.size
        have Hv5 := Lib.hid hA
        clear hb hA Hv4
        rw [HP.out, HQ.out, HB2.out]
        go_wp2_with fail
        refine (impl_Add_c _ _ _ _ _).mono ?_
        rintro e v6 ⟨rfl, hb⟩
        replace f0 : v6.cell? ⟨v0.heap.size, 0, none⟩ = some (.int .i64 (a)) := (hb.cell (by show v0.heap.size < _; first | (simp <;> omega) | omega)).trans (by go_simp)
        replace f1 : v6.cell? ⟨v0.heap.size, 1, none⟩ = some (.int .i64 (b)) := (hb.cell (by show v0.heap.size < _; first | (simp <;> omega) | omega)).trans (by go_simp)
        replace g0 : v6.cell? ⟨v0.heap.size + 1, 0, none⟩ = some (.int .i64 (c)) := (hb.cell (by show v0.heap.size + 1 < _; first | (simp <;> omega) | omega)).trans (by go_simp)
        replace g1 : v6.cell? ⟨v0.heap.size + 1, 1, none⟩ = some (.int .i64 (d)) := (hb.cell (by show v0.heap.size + 1 < _; first | (simp <;> omega) | omega)).trans (by go_simp)
        replace s0 : v6.cell? ⟨v1.heap.size, 0, none⟩ = some (.int .i64 (X)) := (hb.cell (by show v1.heap.size < _; first | (simp <;> omega) | omega)).trans (by go_simp)
        replace s1 : v6.cell? ⟨v1.heap.size, 1, none⟩ = some (.int .i64 (Y)) := (hb.cell (by show v1.heap.size < _; first | (simp <;> omega) | omega)).trans (by go_simp)
        replace wn0 : v6.cell? ⟨v2.heap.size, 0, none⟩ = some (.int .i64 (X)) := (hb.cell (by show v2.heap.size < _; first | (simp <;> omega) | omega)).trans (by go_simp)
        replace wn1 : v6.cell? ⟨v2.heap.size, 1, none⟩ = some (.int .i64 (Y)) := (hb.cell (by show v2.heap.size < _; first | (simp <;> omega) | omega)).trans (by go_simp)
        replace h0 : v6.cell? ⟨v3.heap.size, 0, none⟩ = some (.int .i64 (e)) := (hb.cell (by show v3.heap.size < _; first | (simp <;> omega) | omega)).trans (by go_simp)
        replace h1 : v6.cell? ⟨v3.heap.size, 1, none⟩ = some (.int .i64 (k)) := (hb.cell (by show v3.heap.size < _; first | (simp <;> omega) | omega)).trans (by go_simp)
        replace ra0 : v6.cell? ⟨v4.heap.size, 0, none⟩ = some (.int .i64 (A1)) := (hb.cell (by show v4.heap.size < _; first | (simp <;> omega) | omega)).trans (by go_simp)
        replace ra1 : v6.cell? ⟨v4.heap.size, 1, none⟩ = some (.int .i64 (A2)) := (hb.cell (by show v4.heap.size < _; first | (simp <;> omega) | omega)).trans (by go_simp)
        have rb0 : v6.cell? ⟨v5.heap.size, 0, none⟩ = some (.int .i64 (P)) := (hb.cell (by show v5.heap.size < _; first | (simp <;> omega) | omega)).trans (by go_simp)
        have rb1 : v6.cell? ⟨v5.heap.size, 1, none⟩ = some (.int .i64 (Q)) := (hb.cell (by show v5.heap.size < _; first | (simp <;> omega) | omega)).trans (by go_simp)
        have hA : Below w.heap.size w v6 := by
          refine Below.trans ?_ (hb.mono (by first | (simp <;> omega) | omega))
          repeat (first | exact Hv5.out | (refine Below.alloc ?_ (by first | (simp <;> omega) | omega) _) | (refine Below.setCell ?_ (by first | (simp <;> omega) | omega) _) | (refine below_drewN ?_ _))
        have hzv6 : v5.heap.size ≤ v6.heap.size := by have := hb.size; first | (simp at this; omega) | omega
        replace fs : v0.heap.size < v6.heap.size := by have := hb.size; first | (simp at this; omega) | omega
        replace gs : v0.heap.size + 1 < v6.heap.size := by have := hb.size; first | (simp at this; omega) | omega
        replace ss : v1.heap.size < v6.heap.size := by have := hb.size; first | (simp at this; omega) | omega
        replace wns : v2.heap.size < v6.heap.size := by have := hb.size; first | (simp at this; omega) | omega
        replace hs : v3.heap.size < v6.heap.size := by have := hb.size; first | (simp at this; omega) | omega
        replace ras : v4.heap.size < v6.heap.size := by have := hb.size; first | (simp at this; omega) | omega
        have rbs : v5.heap.size < v6.heap.size := by have := hb.size; first | (simp at this; omega) | omega
        have hwv6 : w.heap.size ≤ v6.heap.size := hA.size
        have Hv6 := Lib.hid hA
        clear hb hA Hv5
        rw [HC1.out, HC2.out, HB3.out]
        go_wp2_with fail
        refine (impl_Minus_c _ _ _).mono ?_
        rintro e v7 ⟨rfl, hb⟩
        replace f0 : v7.cell? ⟨v0.heap.size, 0, none⟩ = some (.int .i64 (a)) := (hb.cell (by show v0.heap.size < _; first | (simp <;> omega) | omega)).trans (by go_simp)
        replace f1 : v7.cell? ⟨v0.heap.size, 1, none⟩ = some (.int .i64 (b)) := (hb.cell (by show v0.heap.size < _; first | (simp <;> omega) | omega)).trans (by go_simp)
        replace g0 : v7.cell? ⟨v0.heap.size + 1, 0, none⟩ = some (.int .i64 (c)) := (hb.cell (by show v0.heap.size + 1 < _; first | (simp <;> omega) | omega)).trans (by go_simp)
        replace g1 : v7.cell? ⟨v0.heap.size + 1, 1, none⟩ = some (.int .i64 (d)) := (hb.cell (by show v0.heap.size + 1 < _; first | (simp <;> omega) | omega)).trans (by go_simp)
        replace s0 : v7.cell? ⟨v1.heap.size, 0, none⟩ = some (.int .i64 (X)) := (hb.cell (by show v1.heap.size < _; first | (simp <;> omega) | omega)).trans (by go_simp)
        replace s1 : v7.cell? ⟨v1.heap.size, 1, none⟩ = some (.int .i64 (Y)) := (hb.cell (by show v1.heap.size < _; first | (simp <;> omega) | omega)).trans (by go_simp)
        replace wn0 : v7.cell? ⟨v2.heap.size, 0, none⟩ = some (.int .i64 (X)) := (hb.cell (by show v2.heap.size < _; first | (simp <;> omega) | omega)).trans (by go_simp)
        replace wn1 : v7.cell? ⟨v2.heap.size, 1, none⟩ = some (.int .i64 (Y)) := (hb.cell (by show v2.heap.size < _; first | (simp <;> omega) | omega)).trans (by go_simp)
        replace h0 : v7.cell? ⟨v3.heap.size, 0, none⟩ = some (.int .i64 (e)) := (hb.cell (by show v3.heap.size < _; first | (simp <;> omega) | omega)).trans (by go_simp)
        replace h1 : v7.cell? ⟨v3.heap.size, 1, none⟩ = some (.int .i64 (k)) := (hb.cell (by show v3.heap.size < _; first | (simp <;> omega) | omega)).trans (by go_simp)
        replace ra0 : v7.cell? ⟨v4.heap.size, 0, none⟩ = some (.int .i64 (A1)) := (hb.cell (by show v4.heap.size < _; first | (simp <;> omega) | omega)).trans (by go_simp)
        replace ra1 : v7.cell? ⟨v4.heap.size, 1, none⟩ = some (.int .i64 (A2)) := (hb.cell (by show v4.heap.size < _; first | (simp <;> omega) | omega)).trans (by go_simp)
        replace rb0 : v7.cell? ⟨v5.heap.size, 0, none⟩ = some (.int .i64 (P)) := (hb.cell (by show v5.heap.size < _; first | (simp <;> omega) | omega)).trans (by go_simp)
        replace rb1 : v7.cell? ⟨v5.heap.size, 1, none⟩ = some (.int .i64 (Q)) := (hb.cell (by show v5.heap.size < _; first | (simp <;> omega) | omega)).trans (by go_simp)
        have rc0 : v7.cell? ⟨v6.heap.size, 0, none⟩ = some (.int .i64 (C1)) := (hb.cell (by show v6.heap.size < _; first | (simp <;> omega) | omega)).trans (by go_simp)
        have rc1 : v7.cell? ⟨v6.heap.size, 1, none⟩ = some (.int .i64 (C2)) := (hb.cell (by show v6.heap.size < _; first | (simp <;> omega) | omega)).trans (by go_simp)
        have hA : Below w.heap.size w v7 := by
          refine Below.trans ?_ (hb.mono (by first | (simp <;> omega) | omega))
          repeat (first | exact Hv6.out | (refine Below.alloc ?_ (by first | (simp <;> omega) | omega) _) | (refine Below.setCell ?_ (by first | (simp <;> omega) | omega) _) | (refine below_drewN ?_ _))
        have hzv7 : v6.heap.size ≤ v7.heap.size := by have := hb.size; first | (simp at this; omega) | omega
        replace fs : v0.heap.size < v7.heap.size := by have := hb.size; first | (simp at this; omega) | omega
        replace gs : v0.heap.size + 1 < v7.heap.size := by have := hb.size; first | (simp at this; omega) | omega
        replace ss : v1.heap.size < v7.heap.size := by have := hb.size; first | (simp at this; omega) | omega
        replace wns : v2.heap.size < v7.heap.size := by have := hb.size; first | (simp at this; omega) | omega
        replace hs : v3.heap.size < v7.heap.size := by have := hb.size; first | (simp at this; omega) | omega
        replace ras : v4.heap.size < v7.heap.size := by have := hb.size; first | (simp at this; omega) | omega
        replace rbs : v5.heap.size < v7.heap.size := by have := hb.size; first | (simp at this; omega) | omega
        have rcs : v6.heap.size < v7.heap.size := by have := hb.size; first | (simp at this; omega) | omega
        have hwv7 : w.heap.size ≤ v7.heap.size := hA.size
        have Hv7 := Lib.hid hA
        clear hb hA Hv6
        rw [HG.out, sel_true, sel_true]
        go_wp2_with fail
        refine (impl_Add_c _ _ _ _ _).mono ?_
        rintro e v8 ⟨rfl, hb⟩
        replace f0 : v8.cell? ⟨v0.heap.size, 0, none⟩ = some (.int .i64 (a)) := (hb.cell (by show v0.heap.size < _; first | (simp <;> omega) | omega)).trans (by go_simp)
        replace f1 : v8.cell? ⟨v0.heap.size, 1, none⟩ = some (.int .i64 (b)) := (hb.cell (by show v0.heap.size < _; first | (simp <;> omega) | omega)).trans (by go_simp)
        replace g0 : v8.cell? ⟨v0.heap.size + 1, 0, none⟩ = some (.int .i64 (c)) := (hb.cell (by show v0.heap.size + 1 < _; first | (simp <;> omega) | omega)).trans (by go_simp)
        replace g1 : v8.cell? ⟨v0.heap.size + 1, 1, none⟩ = some (.int .i64 (d)) := (hb.cell (by show v0.heap.size + 1 < _; first | (simp <;> omega) | omega)).trans (by go_simp)
        replace s0 : v8.cell? ⟨v1.heap.size, 0, none⟩ = some (.int .i64 (X)) := (hb.cell (by show v1.heap.size < _; first | (simp <;> omega) | omega)).trans (by go_simp)
        replace s1 : v8.cell? ⟨v1.heap.size, 1, none⟩ = some (.int .i64 (Y)) := (hb.cell (by show v1.heap.size < _; first | (simp <;> omega) | omega)).trans (by go_simp)
        replace wn0 : v8.cell? ⟨v2.heap.size, 0, none⟩ = some (.int .i64 (X)) := (hb.cell (by show v2.heap.size < _; first | (simp <;> omega) | omega)).trans (by go_simp)
        replace wn1 : v8.cell? ⟨v2.heap.size, 1, none⟩ = some (.int .i64 (Y)) := (hb.cell (by show v2.heap.size < _; first | (simp <;> omega) | omega)).trans (by go_simp)
        replace h0 : v8.cell? ⟨v3.heap.size, 0, none⟩ = some (.int .i64 (e)) := (hb.cell (by show v3.heap.size < _; first | (simp <;> omega) | omega)).trans (by go_simp)
        replace h1 : v8.cell? ⟨v3.heap.size, 1, none⟩ = some (.int .i64 (k)) := (hb.cell (by show v3.heap.size < _; first | (simp <;> omega) | omega)).trans (by go_simp)
        replace ra0 : v8.cell? ⟨v4.heap.size, 0, none⟩ = some (.int .i64 (A1)) := (hb.cell (by show v4.heap.size < _; first | (simp <;> omega) | omega)).trans (by go_simp)
        replace ra1 : v8.cell? ⟨v4.heap.size, 1, none⟩ = some (.int .i64 (A2)) := (hb.cell (by show v4.heap.size < _; first | (simp <;> omega) | omega)).trans (by go_simp)
        replace rb0 : v8.cell? ⟨v5.heap.size, 0, none⟩ = some (.int .i64 (P)) := (hb.cell (by show v5.heap.size < _; first | (simp <;> omega) | omega)).trans (by go_simp)
        replace rb1 : v8.cell? ⟨v5.heap.size, 1, none⟩ = some (.int .i64 (Q)) := (hb.cell (by show v5.heap.size < _; first | (simp <;> omega) | omega)).trans (by go_simp)
        replace rc0 : v8.cell? ⟨v6.heap.size, 0, none⟩ = some (.int .i64 (C1)) := (hb.cell (by show v6.heap.size < _; first | (simp <;> omega) | omega)).trans (by go_simp)
        replace rc1 : v8.cell? ⟨v6.heap.size, 1, none⟩ = some (.int .i64 (C2)) := (hb.cell (by show v6.heap.size < _; first | (simp <;> omega) | omega)).trans (by go_simp)
        have mi0 : v8.cell? ⟨v7.heap.size, 0, none⟩ = some (.int .i64 (-c)) := (hb.cell (by show v7.heap.size < _; first | (simp <;> omega) | omega)).trans (by go_simp)
        have mi1 : v8.cell? ⟨v7.heap.size, 1, none⟩ = some (.int .i64 (d)) := (hb.cell (by show v7.heap.size < _; first | (simp <;> omega) | omega)).trans (by go_simp)
        have hA : Below w.heap.size w v8 := by
          refine Below.trans ?_ (hb.mono (by first | (simp <;> omega) | omega))
          repeat (first | exact Hv7.out | (refine Below.alloc ?_ (by first | (simp <;> omega) | omega) _) | (refine Below.setCell ?_ (by first | (simp <;> omega) | omega) _) | (refine below_drewN ?_ _))
        have hzv8 : v7.heap.size ≤ v8.heap.size := by have := hb.size; first | (simp at this; omega) | omega
        replace fs : v0.heap.size < v8.heap.size := by have := hb.size; first | (simp at this; omega) | omega
        replace gs : v0.heap.size + 1 < v8.heap.size := by have := hb.size; first | (simp at this; omega) | omega
        replace ss : v1.heap.size < v8.heap.size := by have := hb.size; first | (simp at this; omega) | omega
        replace wns : v2.heap.size < v8.heap.size := by have := hb.size; first | (simp at this; omega) | omega
        replace hs : v3.heap.size < v8.heap.size := by have := hb.size; first | (simp at this; omega) | omega
        replace ras : v4.heap.size < v8.heap.size := by have := hb.size; first | (simp at this; omega) | omega
        replace rbs : v5.heap.size < v8.heap.size := by have := hb.size; first | (simp at this; omega) | omega
        replace rcs : v6.heap.size < v8.heap.size := by have := hb.size; first | (simp at this; omega) | omega
        have mis : v7.heap.size < v8.heap.size := by have := hb.size; first | (simp at this; omega) | omega
        have hwv8 : w.heap.size ≤ v8.heap.size := hA.size
        have Hv8 := Lib.hid hA
        clear hb hA Hv7
        rw [HKX.out, HKY.out, HKB.out]
        go_wp2_with fail
        refine (impl_Add_c _ _ _ _ _).mono ?_
        rintro e v9 ⟨rfl, hb⟩
        replace f0 : v9.cell? ⟨v0.heap.size, 0, none⟩ = some (.int .i64 (a)) := (hb.cell (by show v0.heap.size < _; first | (simp <;> omega) | omega)).trans (by go_simp)
        replace f1 : v9.cell? ⟨v0.heap.size, 1, none⟩ = some (.int .i64 (b)) := (hb.cell (by show v0.heap.size < _; first | (simp <;> omega) | omega)).trans (by go_simp)
        replace g0 : v9.cell? ⟨v0.heap.size + 1, 0, none⟩ = some (.int .i64 (c)) := (hb.cell (by show v0.heap.size + 1 < _; first | (simp <;> omega) | omega)).trans (by go_simp)
        replace g1 : v9.cell? ⟨v0.heap.size + 1, 1, none⟩ = some (.int .i64 (d)) := (hb.cell (by show v0.heap.size + 1 < _; first | (simp <;> omega) | omega)).trans (by go_simp)
        replace s0 : v9.cell? ⟨v1.heap.size, 0, none⟩ = some (.int .i64 (X)) := (hb.cell (by show v1.heap.size < _; first | (simp <;> omega) | omega)).trans (by go_simp)
        replace s1 : v9.cell? ⟨v1.heap.size, 1, none⟩ = some (.int .i64 (Y)) := (hb.cell (by show v1.heap.size < _; first | (simp <;> omega) | omega)).trans (by go_simp)
        replace wn0 : v9.cell? ⟨v2.heap.size, 0, none⟩ = some (.int .i64 (X)) := (hb.cell (by show v2.heap.size < _; first | (simp <;> omega) | omega)).trans (by go_simp)
        replace wn1 : v9.cell? ⟨v2.heap.size, 1, none⟩ = some (.int .i64 (Y)) := (hb.cell (by show v2.heap.size < _; first | (simp <;> omega) | omega)).trans (by go_simp)
        replace h0 : v9.cell? ⟨v3.heap.size, 0, none⟩ = some (.int .i64 (e)) := (hb.cell (by show v3.heap.size < _; first | (simp <;> omega) | omega)).trans (by go_simp)
        replace h1 : v9.cell? ⟨v3.heap.size, 1, none⟩ = some (.int .i64 (k)) := (hb.cell (by show v3.heap.size < _; first | (simp <;> omega) | omega)).trans (by go_simp)
        replace ra0 : v9.cell? ⟨v4.heap.size, 0, none⟩ = some (.int .i64 (A1)) := (hb.cell (by show v4.heap.size < _; first | (simp <;> omega) | omega)).trans (by go_simp)
        replace ra1 : v9.cell? ⟨v4.heap.size, 1, none⟩ = some (.int .i64 (A2)) := (hb.cell (by show v4.heap.size < _; first | (simp <;> omega) | omega)).trans (by go_simp)
        replace rb0 : v9.cell? ⟨v5.heap.size, 0, none⟩ = some (.int .i64 (P)) := (hb.cell (by show v5.heap.size < _; first | (simp <;> omega) | omega)).trans (by go_simp)
        replace rb1 : v9.cell? ⟨v5.heap.size, 1, none⟩ = some (.int .i64 (Q)) := (hb.cell (by show v5.heap.size < _; first | (simp <;> omega) | omega)).trans (by go_simp)
        replace rc0 : v9.cell? ⟨v6.heap.size, 0, none⟩ = some (.int .i64 (C1)) := (hb.cell (by show v6.heap.size < _; first | (simp <;> omega) | omega)).trans (by go_simp)
        replace rc1 : v9.cell? ⟨v6.heap.size, 1, none⟩ = some (.int .i64 (C2)) := (hb.cell (by show v6.heap.size < _; first | (simp <;> omega) | omega)).trans (by go_simp)
        replace mi0 : v9.cell? ⟨v7.heap.size, 0, none⟩ = some (.int .i64 (-c)) := (hb.cell (by show v7.heap.size < _; first | (simp <;> omega) | omega)).trans (by go_simp)
        replace mi1 : v9.cell? ⟨v7.heap.size, 1, none⟩ = some (.int .i64 (d)) := (hb.cell (by show v7.heap.size < _; first | (simp <;> omega) | omega)).trans (by go_simp)
        have bk0 : v9.cell? ⟨v8.heap.size, 0, none⟩ = some (.int .i64 (a)) := (hb.cell (by show v8.heap.size < _; first | (simp <;> omega) | omega)).trans (by go_simp)
        have bk1 : v9.cell? ⟨v8.heap.size, 1, none⟩ = some (.int .i64 (b)) := (hb.cell (by show v8.heap.size < _; first | (simp <;> omega) | omega)).trans (by go_simp)
        have hA : Below w.heap.size w v9 := by
          refine Below.trans ?_ (hb.mono (by first | (simp <;> omega) | omega))
          repeat (first | exact Hv8.out | (refine Below.alloc ?_ (by first | (simp <;> omega) | omega) _) | (refine Below.setCell ?_ (by first | (simp <;> omega) | omega) _) | (refine below_drewN ?_ _))
        have hzv9 : v8.heap.size ≤ v9.heap.size := by have := hb.size; first | (simp at this; omega) | omega
        replace fs : v0.heap.size < v9.heap.size := by have := hb.size; first | (simp at this; omega) | omega
        replace gs : v0.heap.size + 1 < v9.heap.size := by have := hb.size; first | (simp at this; omega) | omega
        replace ss : v1.heap.size < v9.heap.size := by have := hb.size; first | (simp at this; omega) | omega
        replace wns : v2.heap.size < v9.heap.size := by have := hb.size; first | (simp at this; omega) | omega
        replace hs : v3.heap.size < v9.heap.size := by have := hb.size; first | (simp at this; omega) | omega
        replace ras : v4.heap.size < v9.heap.size := by have := hb.size; first | (simp at this; omega) | omega
        replace rbs : v5.heap.size < v9.heap.size := by have := hb.size; first | (simp at this; omega) | omega
        replace rcs : v6.heap.size < v9.heap.size := by have := hb.size; first | (simp at this; omega) | omega
        replace mis : v7.heap.size < v9.heap.size := by have := hb.size; first | (simp at this; omega) | omega
        have bks : v8.heap.size < v9.heap.size := by have := hb.size; first | (simp at this; omega) | omega
        have hwv9 : w.heap.size ≤ v9.heap.size := hA.size
        have Hv9 := Lib.hid hA
        clear hb hA Hv8
        rw [HMX.out, HMY.out, HMB.out]
        have hL2 := HL.out
        go_upto_region 15 with fail
        rcases B1 with _ | _
        · refine wp_region_held_drew (S := (fun w' => w'.cell? ⟨v0.heap.size, 0, none⟩ = some (.int .i64 (a)) ∧ w'.cell? ⟨v0.heap.size, 1, none⟩ = some (.int .i64 (b)) ∧ w'.cell? ⟨v0.heap.size + 1, 0, none⟩ = some (.int .i64 (c)) ∧ w'.cell? ⟨v0.heap.size + 1, 1, none⟩ = some (.int .i64 (d)) ∧ w'.cell? ⟨v1.heap.size, 0, none⟩ = some (.int .i64 (X)) ∧ w'.cell? ⟨v1.heap.size, 1, none⟩ = some (.int .i64 (Y)) ∧ w'.cell? ⟨v4.heap.size, 0, none⟩ = some (.int .i64 (A1)) ∧ w'.cell? ⟨v4.heap.size, 1, none⟩ = some (.int .i64 (A2)) ∧ w'.cell? ⟨v6.heap.size, 0, none⟩ = some (.int .i64 (C1)) ∧ w'.cell? ⟨v6.heap.size, 1, none⟩ = some (.int .i64 (C2)) ∧ w'.cell? ⟨v8.heap.size, 0, none⟩ = some (.int .i64 (a)) ∧ w'.cell? ⟨v8.heap.size, 1, none⟩ = some (.int .i64 (b)) ∧ w'.cell? ⟨v9.heap.size, 0, none⟩ = some (.int .i64 (X)) ∧ w'.cell? ⟨v9.heap.size, 1, none⟩ = some (.int .i64 (Y)))) (by kernel_rfl) ?_ (fun hHeld => ?_)
          · (refine ⟨?_, ?_, ?_, ?_, ?_, ?_, ?_, ?_, ?_, ?_, ?_, ?_, ?_, ?_⟩ <;> go_simp)
          first
            | (refine take_yes (i := 0) (v := ?_) rfl (by kernel_rfl) (by kernel_rfl) (by kernel_rfl) (fun _ _ _ h => h) (by rfl) ?_ (by assumption) ?_; rotate_left 1; (focus (intro w hSw; (try dsimp only at hSw); go_simp; (try with_reducible rfl))); simp only [Act.put, List.setIfInBounds_toArray, List.set_cons_zero, List.set_cons_succ])
            | (refine take_no (i := 0) rfl (by kernel_rfl) (by kernel_rfl) (by kernel_rfl) (fun _ _ _ h => h) (by rfl) (by assumption) ?_; simp only [Act.put, List.setIfInBounds_toArray, List.set_cons_zero, List.set_cons_succ])
          first
            | (refine take_yes (i := 1) (v := ?_) rfl (by kernel_rfl) (by kernel_rfl) (by kernel_rfl) (fun _ _ _ h => h) (by rfl) ?_ (by assumption) ?_; rotate_left 1; (focus (intro w hSw; (try dsimp only at hSw); go_simp; (try with_reducible rfl))); simp only [Act.put, List.setIfInBounds_toArray, List.set_cons_zero, List.set_cons_succ])
            | (refine take_no (i := 1) rfl (by kernel_rfl) (by kernel_rfl) (by kernel_rfl) (fun _ _ _ h => h) (by rfl) (by assumption) ?_; simp only [Act.put, List.setIfInBounds_toArray, List.set_cons_zero, List.set_cons_succ])
          first
            | (refine take_yes (i := 2) (v := ?_) rfl (by kernel_rfl) (by kernel_rfl) (by kernel_rfl) (fun _ _ _ h => h) (by rfl) ?_ (by assumption) ?_; rotate_left 1; (focus (intro w hSw; (try dsimp only at hSw); go_simp; (try with_reducible rfl))); simp only [Act.put, List.setIfInBounds_toArray, List.set_cons_zero, List.set_cons_succ])
            | (refine take_no (i := 2) rfl (by kernel_rfl) (by kernel_rfl) (by kernel_rfl) (fun _ _ _ h => h) (by rfl) (by assumption) ?_; simp only [Act.put, List.setIfInBounds_toArray, List.set_cons_zero, List.set_cons_succ])
          first
            | (refine take_yes (i := 3) (v := ?_) rfl (by kernel_rfl) (by kernel_rfl) (by kernel_rfl) (fun _ _ _ h => h) (by rfl) ?_ (by assumption) ?_; rotate_left 1; (focus (intro w hSw; (try dsimp only at hSw); go_simp; (try with_reducible rfl))); simp only [Act.put, List.setIfInBounds_toArray, List.set_cons_zero, List.set_cons_succ])
            | (refine take_no (i := 3) rfl (by kernel_rfl) (by kernel_rfl) (by kernel_rfl) (fun _ _ _ h => h) (by rfl) (by assumption) ?_; simp only [Act.put, List.setIfInBounds_toArray, List.set_cons_zero, List.set_cons_succ])
          first
            | (refine take_yes (i := 4) (v := ?_) rfl (by kernel_rfl) (by kernel_rfl) (by kernel_rfl) (fun _ _ _ h => h) (by rfl) ?_ (by assumption) ?_; rotate_left 1; (focus (intro w hSw; (try dsimp only at hSw); go_simp; (try with_reducible rfl))); simp only [Act.put, List.setIfInBounds_toArray, List.set_cons_zero, List.set_cons_succ])
            | (refine take_no (i := 4) rfl (by kernel_rfl) (by kernel_rfl) (by kernel_rfl) (fun _ _ _ h => h) (by rfl) (by assumption) ?_; simp only [Act.put, List.setIfInBounds_toArray, List.set_cons_zero, List.set_cons_succ])
          first
            | (refine take_yes (i := 5) (v := ?_) rfl (by kernel_rfl) (by kernel_rfl) (by kernel_rfl) (fun _ _ _ h => h) (by rfl) ?_ (by assumption) ?_; rotate_left 1; (focus (intro w hSw; (try dsimp only at hSw); go_simp; (try with_reducible rfl))); simp only [Act.put, List.setIfInBounds_toArray, List.set_cons_zero, List.set_cons_succ])
            | (refine take_no (i := 5) rfl (by kernel_rfl) (by kernel_rfl) (by kernel_rfl) (fun _ _ _ h => h) (by rfl) (by assumption) ?_; simp only [Act.put, List.setIfInBounds_toArray, List.set_cons_zero, List.set_cons_succ])
          first
            | (refine take_yes (i := 6) (v := ?_) rfl (by kernel_rfl) (by kernel_rfl) (by kernel_rfl) (fun _ _ _ h => h) (by rfl) ?_ (by assumption) ?_; rotate_left 1; (focus (intro w hSw; (try dsimp only at hSw); go_simp; (try with_reducible rfl))); simp only [Act.put, List.setIfInBounds_toArray, List.set_cons_zero, List.set_cons_succ])
            | (refine take_no (i := 6) rfl (by kernel_rfl) (by kernel_rfl) (by kernel_rfl) (fun _ _ _ h => h) (by rfl) (by assumption) ?_; simp only [Act.put, List.setIfInBounds_toArray, List.set_cons_zero, List.set_cons_succ])
          first
            | (refine take_yes (i := 7) (v := ?_) rfl (by kernel_rfl) (by kernel_rfl) (by kernel_rfl) (fun _ _ _ h => h) (by rfl) ?_ (by assumption) ?_; rotate_left 1; (focus (intro w hSw; (try dsimp only at hSw); go_simp; (try with_reducible rfl))); simp only [Act.put, List.setIfInBounds_toArray, List.set_cons_zero, List.set_cons_succ])
            | (refine take_no (i := 7) rfl (by kernel_rfl) (by kernel_rfl) (by kernel_rfl) (fun _ _ _ h => h) (by rfl) (by assumption) ?_; simp only [Act.put, List.setIfInBounds_toArray, List.set_cons_zero, List.set_cons_succ])
          first
            | (refine take_yes (i := 8) (v := ?_) rfl (by kernel_rfl) (by kernel_rfl) (by kernel_rfl) (fun _ _ _ h => h) (by rfl) ?_ (by assumption) ?_; rotate_left 1; (focus (intro w hSw; (try dsimp only at hSw); go_simp; (try with_reducible rfl))); simp only [Act.put, List.setIfInBounds_toArray, List.set_cons_zero, List.set_cons_succ])
            | (refine take_no (i := 8) rfl (by kernel_rfl) (by kernel_rfl) (by kernel_rfl) (fun _ _ _ h => h) (by rfl) (by assumption) ?_; simp only [Act.put, List.setIfInBounds_toArray, List.set_cons_zero, List.set_cons_succ])
          first
            | (refine take_yes (i := 9) (v := ?_) rfl (by kernel_rfl) (by kernel_rfl) (by kernel_rfl) (fun _ _ _ h => h) (by rfl) ?_ (by assumption) ?_; rotate_left 1; (focus (intro w hSw; (try dsimp only at hSw); go_simp; (try with_reducible rfl))); simp only [Act.put, List.setIfInBounds_toArray, List.set_cons_zero, List.set_cons_succ])
            | (refine take_no (i := 9) rfl (by kernel_rfl) (by kernel_rfl) (by kernel_rfl) (fun _ _ _ h => h) (by rfl) (by assumption) ?_; simp only [Act.put, List.setIfInBounds_toArray, List.set_cons_zero, List.set_cons_succ])
          first
            | (refine take_yes (i := 10) (v := ?_) rfl (by kernel_rfl) (by kernel_rfl) (by kernel_rfl) (fun _ _ _ h => h) (by rfl) ?_ (by assumption) ?_; rotate_left 1; (focus (intro w hSw; (try dsimp only at hSw); go_simp; (try with_reducible rfl))); simp only [Act.put, List.setIfInBounds_toArray, List.set_cons_zero, List.set_cons_succ])
            | (refine take_no (i := 10) rfl (by kernel_rfl) (by kernel_rfl) (by kernel_rfl) (fun _ _ _ h => h) (by rfl) (by assumption) ?_; simp only [Act.put, List.setIfInBounds_toArray, List.set_cons_zero, List.set_cons_succ])
          first
            | (refine take_yes (i := 11) (v := ?_) rfl (by kernel_rfl) (by kernel_rfl) (by kernel_rfl) (fun _ _ _ h => h) (by rfl) ?_ (by assumption) ?_; rotate_left 1; (focus (intro w hSw; (try dsimp only at hSw); go_simp; (try with_reducible rfl))); simp only [Act.put, List.setIfInBounds_toArray, List.set_cons_zero, List.set_cons_succ])
            | (refine take_no (i := 11) rfl (by kernel_rfl) (by kernel_rfl) (by kernel_rfl) (fun _ _ _ h => h) (by rfl) (by assumption) ?_; simp only [Act.put, List.setIfInBounds_toArray, List.set_cons_zero, List.set_cons_succ])
          first
            | (refine take_yes (i := 12) (v := ?_) rfl (by kernel_rfl) (by kernel_rfl) (by kernel_rfl) (fun _ _ _ h => h) (by rfl) ?_ (by assumption) ?_; rotate_left 1; (focus (intro w hSw; (try dsimp only at hSw); go_simp; (try with_reducible rfl))); simp only [Act.put, List.setIfInBounds_toArray, List.set_cons_zero, List.set_cons_succ])
            | (refine take_no (i := 12) rfl (by kernel_rfl) (by kernel_rfl) (by kernel_rfl) (fun _ _ _ h => h) (by rfl) (by assumption) ?_; simp only [Act.put, List.setIfInBounds_toArray, List.set_cons_zero, List.set_cons_succ])
          first
            | (refine take_yes (i := 13) (v := ?_) rfl (by kernel_rfl) (by kernel_rfl) (by kernel_rfl) (fun _ _ _ h => h) (by rfl) ?_ (by assumption) ?_; rotate_left 1; (focus (intro w hSw; (try dsimp only at hSw); go_simp; (try with_reducible rfl))); simp only [Act.put, List.setIfInBounds_toArray, List.set_cons_zero, List.set_cons_succ])
            | (refine take_no (i := 13) rfl (by kernel_rfl) (by kernel_rfl) (by kernel_rfl) (fun _ _ _ h => h) (by rfl) (by assumption) ?_; simp only [Act.put, List.setIfInBounds_toArray, List.set_cons_zero, List.set_cons_succ])
          first
            | (refine take_yes (i := 14) (v := ?_) rfl (by kernel_rfl) (by kernel_rfl) (by kernel_rfl) (fun _ _ _ h => h) (by rfl) ?_ (by assumption) ?_; rotate_left 1; (focus (intro w hSw; (try dsimp only at hSw); go_simp; (try with_reducible rfl))); simp only [Act.put, List.setIfInBounds_toArray, List.set_cons_zero, List.set_cons_succ])
            | (refine take_no (i := 14) rfl (by kernel_rfl) (by kernel_rfl) (by kernel_rfl) (fun _ _ _ h => h) (by rfl) (by assumption) ?_; simp only [Act.put, List.setIfInBounds_toArray, List.set_cons_zero, List.set_cons_succ])
          first
            | (refine take_yes (i := 15) (v := ?_) rfl (by kernel_rfl) (by kernel_rfl) (by kernel_rfl) (fun _ _ _ h => h) (by rfl) ?_ (by assumption) ?_; rotate_left 1; (focus (intro w hSw; (try dsimp only at hSw); go_simp; (try with_reducible rfl))); simp only [Act.put, List.setIfInBounds_toArray, List.set_cons_zero, List.set_cons_succ])
            | (refine take_no (i := 15) rfl (by kernel_rfl) (by kernel_rfl) (by kernel_rfl) (fun _ _ _ h => h) (by rfl) (by assumption) ?_; simp only [Act.put, List.setIfInBounds_toArray, List.set_cons_zero, List.set_cons_succ])
          first
            | (refine take_yes (i := 16) (v := ?_) rfl (by kernel_rfl) (by kernel_rfl) (by kernel_rfl) (fun _ _ _ h => h) (by rfl) ?_ (by assumption) ?_; rotate_left 1; (focus (intro w hSw; (try dsimp only at hSw); go_simp; (try with_reducible rfl))); simp only [Act.put, List.setIfInBounds_toArray, List.set_cons_zero, List.set_cons_succ])
            | (refine take_no (i := 16) rfl (by kernel_rfl) (by kernel_rfl) (by kernel_rfl) (fun _ _ _ h => h) (by rfl) (by assumption) ?_; simp only [Act.put, List.setIfInBounds_toArray, List.set_cons_zero, List.set_cons_succ])
          first
            | (refine take_yes (i := 17) (v := ?_) rfl (by kernel_rfl) (by kernel_rfl) (by kernel_rfl) (fun _ _ _ h => h) (by rfl) ?_ (by assumption) ?_; rotate_left 1; (focus (intro w hSw; (try dsimp only at hSw); go_simp; (try with_reducible rfl))); simp only [Act.put, List.setIfInBounds_toArray, List.set_cons_zero, List.set_cons_succ])
            | (refine take_no (i := 17) rfl (by kernel_rfl) (by kernel_rfl) (by kernel_rfl) (fun _ _ _ h => h) (by rfl) (by assumption) ?_; simp only [Act.put, List.setIfInBounds_toArray, List.set_cons_zero, List.set_cons_succ])
          first
            | (refine take_yes (i := 18) (v := ?_) rfl (by kernel_rfl) (by kernel_rfl) (by kernel_rfl) (fun _ _ _ h => h) (by rfl) ?_ (by assumption) ?_; rotate_left 1; (focus (intro w hSw; (try dsimp only at hSw); go_simp; (try with_reducible rfl))); simp only [Act.put, List.setIfInBounds_toArray, List.set_cons_zero, List.set_cons_succ])
            | (refine take_no (i := 18) rfl (by kernel_rfl) (by kernel_rfl) (by kernel_rfl) (fun _ _ _ h => h) (by rfl) (by assumption) ?_; simp only [Act.put, List.setIfInBounds_toArray, List.set_cons_zero, List.set_cons_succ])
          first
            | (refine take_yes (i := 19) (v := ?_) rfl (by kernel_rfl) (by kernel_rfl) (by kernel_rfl) (fun _ _ _ h => h) (by rfl) ?_ (by assumption) ?_; rotate_left 1; (focus (intro w hSw; (try dsimp only at hSw); go_simp; (try with_reducible rfl))); simp only [Act.put, List.setIfInBounds_toArray, List.set_cons_zero, List.set_cons_succ])
            | (refine take_no (i := 19) rfl (by kernel_rfl) (by kernel_rfl) (by kernel_rfl) (fun _ _ _ h => h) (by rfl) (by assumption) ?_; simp only [Act.put, List.setIfInBounds_toArray, List.set_cons_zero, List.set_cons_succ])
          first
            | (refine take_yes (i := 20) (v := ?_) rfl (by kernel_rfl) (by kernel_rfl) (by kernel_rfl) (fun _ _ _ h => h) (by rfl) ?_ (by assumption) ?_; rotate_left 1; (focus (intro w hSw; (try dsimp only at hSw); go_simp; (try with_reducible rfl))); simp only [Act.put, List.setIfInBounds_toArray, List.set_cons_zero, List.set_cons_succ])
            | (refine take_no (i := 20) rfl (by kernel_rfl) (by kernel_rfl) (by kernel_rfl) (fun _ _ _ h => h) (by rfl) (by assumption) ?_; simp only [Act.put, List.setIfInBounds_toArray, List.set_cons_zero, List.set_cons_succ])
          first
            | (refine take_yes (i := 21) (v := ?_) rfl (by kernel_rfl) (by kernel_rfl) (by kernel_rfl) (fun _ _ _ h => h) (by rfl) ?_ (by assumption) ?_; rotate_left 1; (focus (intro w hSw; (try dsimp only at hSw); go_simp; (try with_reducible rfl))); simp only [Act.put, List.setIfInBounds_toArray, List.set_cons_zero, List.set_cons_succ])
            | (refine take_no (i := 21) rfl (by kernel_rfl) (by kernel_rfl) (by kernel_rfl) (fun _ _ _ h => h) (by rfl) (by assumption) ?_; simp only [Act.put, List.setIfInBounds_toArray, List.set_cons_zero, List.set_cons_succ])
          first
            | (refine take_yes (i := 22) (v := ?_) rfl (by kernel_rfl) (by kernel_rfl) (by kernel_rfl) (fun _ _ _ h => h) (by rfl) ?_ (by assumption) ?_; rotate_left 1; (focus (intro w hSw; (try dsimp only at hSw); go_simp; (try with_reducible rfl))); simp only [Act.put, List.setIfInBounds_toArray, List.set_cons_zero, List.set_cons_succ])
            | (refine take_no (i := 22) rfl (by kernel_rfl) (by kernel_rfl) (by kernel_rfl) (fun _ _ _ h => h) (by rfl) (by assumption) ?_; simp only [Act.put, List.setIfInBounds_toArray, List.set_cons_zero, List.set_cons_succ])
          first
            | (refine take_yes (i := 23) (v := ?_) rfl (by kernel_rfl) (by kernel_rfl) (by kernel_rfl) (fun _ _ _ h => h) (by rfl) ?_ (by assumption) ?_; rotate_left 1; (focus (intro w hSw; (try dsimp only at hSw); go_simp; (try with_reducible rfl))); simp only [Act.put, List.setIfInBounds_toArray, List.set_cons_zero, List.set_cons_succ])
            | (refine take_no (i := 23) rfl (by kernel_rfl) (by kernel_rfl) (by kernel_rfl) (fun _ _ _ h => h) (by rfl) (by assumption) ?_; simp only [Act.put, List.setIfInBounds_toArray, List.set_cons_zero, List.set_cons_succ])
          first
            | (refine take_yes (i := 24) (v := ?_) rfl (by kernel_rfl) (by kernel_rfl) (by kernel_rfl) (fun _ _ _ h => h) (by rfl) ?_ (by assumption) ?_; rotate_left 1; (focus (intro w hSw; (try dsimp only at hSw); go_simp; (try with_reducible rfl))); simp only [Act.put, List.setIfInBounds_toArray, List.set_cons_zero, List.set_cons_succ])
            | (refine take_no (i := 24) rfl (by kernel_rfl) (by kernel_rfl) (by kernel_rfl) (fun _ _ _ h => h) (by rfl) (by assumption) ?_; simp only [Act.put, List.setIfInBounds_toArray, List.set_cons_zero, List.set_cons_succ])
          first
            | (refine take_yes (i := 25) (v := ?_) rfl (by kernel_rfl) (by kernel_rfl) (by kernel_rfl) (fun _ _ _ h => h) (by rfl) ?_ (by assumption) ?_; rotate_left 1; (focus (intro w hSw; (try dsimp only at hSw); go_simp; (try with_reducible rfl))); simp only [Act.put, List.setIfInBounds_toArray, List.set_cons_zero, List.set_cons_succ])
            | (refine take_no (i := 25) rfl (by kernel_rfl) (by kernel_rfl) (by kernel_rfl) (fun _ _ _ h => h) (by rfl) (by assumption) ?_; simp only [Act.put, List.setIfInBounds_toArray, List.set_cons_zero, List.set_cons_succ])
          first
            | (refine take_yes (i := 26) (v := ?_) rfl (by kernel_rfl) (by kernel_rfl) (by kernel_rfl) (fun _ _ _ h => h) (by rfl) ?_ (by assumption) ?_; rotate_left 1; (focus (intro w hSw; (try dsimp only at hSw); go_simp; (try with_reducible rfl))); simp only [Act.put, List.setIfInBounds_toArray, List.set_cons_zero, List.set_cons_succ])
            | (refine take_no (i := 26) rfl (by kernel_rfl) (by kernel_rfl) (by kernel_rfl) (fun _ _ _ h => h) (by rfl) (by assumption) ?_; simp only [Act.put, List.setIfInBounds_toArray, List.set_cons_zero, List.set_cons_succ])
          first
            | (refine take_yes (i := 27) (v := ?_) rfl (by kernel_rfl) (by kernel_rfl) (by kernel_rfl) (fun _ _ _ h => h) (by rfl) ?_ (by assumption) ?_; rotate_left 1; (focus (intro w hSw; (try dsimp only at hSw); go_simp; (try with_reducible rfl))); simp only [Act.put, List.setIfInBounds_toArray, List.set_cons_zero, List.set_cons_succ])
            | (refine take_no (i := 27) rfl (by kernel_rfl) (by kernel_rfl) (by kernel_rfl) (fun _ _ _ h => h) (by rfl) (by assumption) ?_; simp only [Act.put, List.setIfInBounds_toArray, List.set_cons_zero, List.set_cons_succ])
          first
            | (refine take_yes (i := 28) (v := ?_) rfl (by kernel_rfl) (by kernel_rfl) (by kernel_rfl) (fun _ _ _ h => h) (by rfl) ?_ (by assumption) ?_; rotate_left 1; (focus (intro w hSw; (try dsimp only at hSw); go_simp; (try with_reducible rfl))); simp only [Act.put, List.setIfInBounds_toArray, List.set_cons_zero, List.set_cons_succ])
            | (refine take_no (i := 28) rfl (by kernel_rfl) (by kernel_rfl) (by kernel_rfl) (fun _ _ _ h => h) (by rfl) (by assumption) ?_; simp only [Act.put, List.setIfInBounds_toArray, List.set_cons_zero, List.set_cons_succ])
          first
            | (refine take_yes (i := 29) (v := ?_) rfl (by kernel_rfl) (by kernel_rfl) (by kernel_rfl) (fun _ _ _ h => h) (by rfl) ?_ (by assumption) ?_; rotate_left 1; (focus (intro w hSw; (try dsimp only at hSw); go_simp; (try with_reducible rfl))); simp only [Act.put, List.setIfInBounds_toArray, List.set_cons_zero, List.set_cons_succ])
            | (refine take_no (i := 29) rfl (by kernel_rfl) (by kernel_rfl) (by kernel_rfl) (fun _ _ _ h => h) (by rfl) (by assumption) ?_; simp only [Act.put, List.setIfInBounds_toArray, List.set_cons_zero, List.set_cons_succ])
          first
            | (refine take_yes (i := 30) (v := ?_) rfl (by kernel_rfl) (by kernel_rfl) (by kernel_rfl) (fun _ _ _ h => h) (by rfl) ?_ (by assumption) ?_; rotate_left 1; (focus (intro w hSw; (try dsimp only at hSw); go_simp; (try with_reducible rfl))); simp only [Act.put, List.setIfInBounds_toArray, List.set_cons_zero, List.set_cons_succ])
            | (refine take_no (i := 30) rfl (by kernel_rfl) (by kernel_rfl) (by kernel_rfl) (fun _ _ _ h => h) (by rfl) (by assumption) ?_; simp only [Act.put, List.setIfInBounds_toArray, List.set_cons_zero, List.set_cons_succ])
          first
            | (refine take_yes (i := 32) (v := ?_) rfl (by kernel_rfl) (by kernel_rfl) (by kernel_rfl) (fun _ _ _ h => h) (by rfl) ?_ (by assumption) ?_; rotate_left 1; (focus (intro w hSw; (try dsimp only at hSw); go_simp; (try with_reducible rfl))); simp only [Act.put, List.setIfInBounds_toArray, List.set_cons_zero, List.set_cons_succ])
            | (refine take_no (i := 32) rfl (by kernel_rfl) (by kernel_rfl) (by kernel_rfl) (fun _ _ _ h => h) (by rfl) (by assumption) ?_; simp only [Act.put, List.setIfInBounds_toArray, List.set_cons_zero, List.set_cons_succ])
          first
            | (refine take_yes (i := 33) (v := ?_) rfl (by kernel_rfl) (by kernel_rfl) (by kernel_rfl) (fun _ _ _ h => h) (by rfl) ?_ (by assumption) ?_; rotate_left 1; (focus (intro w hSw; (try dsimp only at hSw); go_simp; (try with_reducible rfl))); simp only [Act.put, List.setIfInBounds_toArray, List.set_cons_zero, List.set_cons_succ])
            | (refine take_no (i := 33) rfl (by kernel_rfl) (by kernel_rfl) (by kernel_rfl) (fun _ _ _ h => h) (by rfl) (by assumption) ?_; simp only [Act.put, List.setIfInBounds_toArray, List.set_cons_zero, List.set_cons_succ])
          first
            | (refine take_yes (i := 34) (v := ?_) rfl (by kernel_rfl) (by kernel_rfl) (by kernel_rfl) (fun _ _ _ h => h) (by rfl) ?_ (by assumption) ?_; rotate_left 1; (focus (intro w hSw; (try dsimp only at hSw); go_simp; (try with_reducible rfl))); simp only [Act.put, List.setIfInBounds_toArray, List.set_cons_zero, List.set_cons_succ])
            | (refine take_no (i := 34) rfl (by kernel_rfl) (by kernel_rfl) (by kernel_rfl) (fun _ _ _ h => h) (by rfl) (by assumption) ?_; simp only [Act.put, List.setIfInBounds_toArray, List.set_cons_zero, List.set_cons_succ])
          refine one_ready (i := 31) (by kernel_rfl) rfl (by rfl) (fun K hK => ?_)
          go_simp
          go_at_call 17
          refine (impl_Less_c _ _ _ _ _).mono ?_
          rintro e w' ⟨rfl, hb⟩
          rw [HL.out]
          go_simp
          replace hb := nodrew hb
          obtain ⟨hc, hf⟩ := bcell hb
          have e0 := fun o => hc (v0.heap.size) o (by first | (simp; omega) | simp | omega)
          have e1 := fun o => hc (v0.heap.size + 1) o (by first | (simp; omega) | simp | omega)
          have e2 := fun o => hc (v1.heap.size) o (by first | (simp; omega) | simp | omega)
          have e3 := fun o => hc (v4.heap.size) o (by first | (simp; omega) | simp | omega)
          have e4 := fun o => hc (v6.heap.size) o (by first | (simp; omega) | simp | omega)
          have e5 := fun o => hc (v8.heap.size) o (by first | (simp; omega) | simp | omega)
          have e6 := fun o => hc (v9.heap.size) o (by first | (simp; omega) | simp | omega)
          clear hc hf
          refine hK.out _ _ ?_ (fun hHeld2 => ?_)
          · (refine ⟨?_, ?_, ?_, ?_, ?_, ?_, ?_, ?_, ?_, ?_, ?_, ?_, ?_, ?_⟩ <;> go_simp)
          clear hK K hHeld
          (try simp only [Act.put, List.setIfInBounds_toArray, List.set_cons_zero, List.set_cons_succ])
          first
            | (refine take_yes (i := 35) (v := ?_) rfl (by kernel_rfl) (by kernel_rfl) (by kernel_rfl) (fun _ _ _ h => h) (by rfl) ?_ (by assumption) ?_; rotate_left 1; (focus (intro w hSw; (try dsimp only at hSw); go_simp; (try with_reducible rfl))); simp only [Act.put, List.setIfInBounds_toArray, List.set_cons_zero, List.set_cons_succ])
            | (refine take_no (i := 35) rfl (by kernel_rfl) (by kernel_rfl) (by kernel_rfl) (fun _ _ _ h => h) (by rfl) (by assumption) ?_; simp only [Act.put, List.setIfInBounds_toArray, List.set_cons_zero, List.set_cons_succ])
          first
            | (refine take_yes (i := 36) (v := ?_) rfl (by kernel_rfl) (by kernel_rfl) (by kernel_rfl) (fun _ _ _ h => h) (by rfl) ?_ (by assumption) ?_; rotate_left 1; (focus (intro w hSw; (try dsimp only at hSw); go_simp; (try with_reducible rfl))); simp only [Act.put, List.setIfInBounds_toArray, List.set_cons_zero, List.set_cons_succ])
            | (refine take_no (i := 36) rfl (by kernel_rfl) (by kernel_rfl) (by kernel_rfl) (fun _ _ _ h => h) (by rfl) (by assumption) ?_; simp only [Act.put, List.setIfInBounds_toArray, List.set_cons_zero, List.set_cons_succ])
          first
            | (refine take_yes (i := 37) (v := ?_) rfl (by kernel_rfl) (by kernel_rfl) (by kernel_rfl) (fun _ _ _ h => h) (by rfl) ?_ (by assumption) ?_; rotate_left 1; (focus (intro w hSw; (try dsimp only at hSw); go_simp; (try with_reducible rfl))); simp only [Act.put, List.setIfInBounds_toArray, List.set_cons_zero, List.set_cons_succ])
            | (refine take_no (i := 37) rfl (by kernel_rfl) (by kernel_rfl) (by kernel_rfl) (fun _ _ _ h => h) (by rfl) (by assumption) ?_; simp only [Act.put, List.setIfInBounds_toArray, List.set_cons_zero, List.set_cons_succ])
          refine wpAnyH_done (by kernel_rfl) ?_ _
          go_wp2_with fail
          go_ret
          exact ⟨rfl, Below.trans (by repeat (first | exact Hv9.out | (refine Below.alloc ?_ (by first | (simp <;> omega) | omega) _) | (refine Below.setCell ?_ (by first | (simp <;> omega) | omega) _) | (refine below_drewN ?_ _))) (hb.mono (by first | (simp <;> omega) | omega))⟩
        · rcases B2 with _ | _
          · refine wp_region_held_drew (S := (fun w' => w'.cell? ⟨v0.heap.size, 0, none⟩ = some (.int .i64 (a)) ∧ w'.cell? ⟨v0.heap.size, 1, none⟩ = some (.int .i64 (b)) ∧ w'.cell? ⟨v0.heap.size + 1, 0, none⟩ = some (.int .i64 (c)) ∧ w'.cell? ⟨v0.heap.size + 1, 1, none⟩ = some (.int .i64 (d)) ∧ w'.cell? ⟨v1.heap.size, 0, none⟩ = some (.int .i64 (X)) ∧ w'.cell? ⟨v1.heap.size, 1, none⟩ = some (.int .i64 (Y)) ∧ w'.cell? ⟨v4.heap.size, 0, none⟩ = some (.int .i64 (A1)) ∧ w'.cell? ⟨v4.heap.size, 1, none⟩ = some (.int .i64 (A2)) ∧ w'.cell? ⟨v6.heap.size, 0, none⟩ = some (.int .i64 (C1)) ∧ w'.cell? ⟨v6.heap.size, 1, none⟩ = some (.int .i64 (C2)) ∧ w'.cell? ⟨v8.heap.size, 0, none⟩ = some (.int .i64 (a)) ∧ w'.cell? ⟨v8.heap.size, 1, none⟩ = some (.int .i64 (b)) ∧ w'.cell? ⟨v9.heap.size, 0, none⟩ = some (.int .i64 (X)) ∧ w'.cell? ⟨v9.heap.size, 1, none⟩ = some (.int .i64 (Y)))) (by kernel_rfl) ?_ (fun hHeld => ?_)
            · (refine ⟨?_, ?_, ?_, ?_, ?_, ?_, ?_, ?_, ?_, ?_, ?_, ?_, ?_, ?_⟩ <;> go_simp)
            first
              | (refine take_yes (i := 0) (v := ?_) rfl (by kernel_rfl) (by kernel_rfl) (by kernel_rfl) (fun _ _ _ h => h) (by rfl) ?_ (by assumption) ?_; rotate_left 1; (focus (intro w hSw; (try dsimp only at hSw); go_simp; (try with_reducible rfl))); simp only [Act.put, List.setIfInBounds_toArray, List.set_cons_zero, List.set_cons_succ])
              | (refine take_no (i := 0) rfl (by kernel_rfl) (by kernel_rfl) (by kernel_rfl) (fun _ _ _ h => h) (by rfl) (by assumption) ?_; simp only [Act.put, List.setIfInBounds_toArray, List.set_cons_zero, List.set_cons_succ])
            first
              | (refine take_yes (i := 1) (v := ?_) rfl (by kernel_rfl) (by kernel_rfl) (by kernel_rfl) (fun _ _ _ h => h) (by rfl) ?_ (by assumption) ?_; rotate_left 1; (focus (intro w hSw; (try dsimp only at hSw); go_simp; (try with_reducible rfl))); simp only [Act.put, List.setIfInBounds_toArray, List.set_cons_zero, List.set_cons_succ])
              | (refine take_no (i := 1) rfl (by kernel_rfl) (by kernel_rfl) (by kernel_rfl) (fun _ _ _ h => h) (by rfl) (by assumption) ?_; simp only [Act.put, List.setIfInBounds_toArray, List.set_cons_zero, List.set_cons_succ])
            first
              | (refine take_yes (i := 2) (v := ?_) rfl (by kernel_rfl) (by kernel_rfl) (by kernel_rfl) (fun _ _ _ h => h) (by rfl) ?_ (by assumption) ?_; rotate_left 1; (focus (intro w hSw; (try dsimp only at hSw); go_simp; (try with_reducible rfl))); simp only [Act.put, List.setIfInBounds_toArray, List.set_cons_zero, List.set_cons_succ])
              | (refine take_no (i := 2) rfl (by kernel_rfl) (by kernel_rfl) (by kernel_rfl) (fun _ _ _ h => h) (by rfl) (by assumption) ?_; simp only [Act.put, List.setIfInBounds_toArray, List.set_cons_zero, List.set_cons_succ])
            first
              | (refine take_yes (i := 3) (v := ?_) rfl (by kernel_rfl) (by kernel_rfl) (by kernel_rfl) (fun _ _ _ h => h) (by rfl) ?_ (by assumption) ?_; rotate_left 1; (focus (intro w hSw; (try dsimp only at hSw); go_simp; (try with_reducible rfl))); simp only [Act.put, List.setIfInBounds_toArray, List.set_cons_zero, List.set_cons_succ])
              | (refine take_no (i := 3) rfl (by kernel_rfl) (by kernel_rfl) (by kernel_rfl) (fun _ _ _ h => h) (by rfl) (by assumption) ?_; simp only [Act.put, List.setIfInBounds_toArray, List.set_cons_zero, List.set_cons_succ])
            first
              | (refine take_yes (i := 4) (v := ?_) rfl (by kernel_rfl) (by kernel_rfl) (by kernel_rfl) (fun _ _ _ h => h) (by rfl) ?_ (by assumption) ?_; rotate_left 1; (focus (intro w hSw; (try dsimp only at hSw); go_simp; (try with_reducible rfl))); simp only [Act.put, List.setIfInBounds_toArray, List.set_cons_zero, List.set_cons_succ])
              | (refine take_no (i := 4) rfl (by kernel_rfl) (by kernel_rfl) (by kernel_rfl) (fun _ _ _ h => h) (by rfl) (by assumption) ?_; simp only [Act.put, List.setIfInBounds_toArray, List.set_cons_zero, List.set_cons_succ])
            first
              | (refine take_yes (i := 5) (v := ?_) rfl (by kernel_rfl) (by kernel_rfl) (by kernel_rfl) (fun _ _ _ h => h) (by rfl) ?_ (by assumption) ?_; rotate_left 1; (focus (intro w hSw; (try dsimp only at hSw); go_simp; (try with_reducible rfl))); simp only [Act.put, List.setIfInBounds_toArray, List.set_cons_zero, List.set_cons_succ])
              | (refine take_no (i := 5) rfl (by kernel_rfl) (by kernel_rfl) (by kernel_rfl) (fun _ _ _ h => h) (by rfl) (by assumption) ?_; simp only [Act.put, List.setIfInBounds_toArray, List.set_cons_zero, List.set_cons_succ])
            first
              | (refine take_yes (i := 6) (v := ?_) rfl (by kernel_rfl) (by kernel_rfl) (by kernel_rfl) (fun _ _ _ h => h) (by rfl) ?_ (by assumption) ?_; rotate_left 1; (focus (intro w hSw; (try dsimp only at hSw); go_simp; (try with_reducible rfl))); simp only [Act.put, List.setIfInBounds_toArray, List.set_cons_zero, List.set_cons_succ])
              | (refine take_no (i := 6) rfl (by kernel_rfl) (by kernel_rfl) (by kernel_rfl) (fun _ _ _ h => h) (by rfl) (by assumption) ?_; simp only [Act.put, List.setIfInBounds_toArray, List.set_cons_zero, List.set_cons_succ])
            first
              | (refine take_yes (i := 7) (v := ?_) rfl (by kernel_rfl) (by kernel_rfl) (by kernel_rfl) (fun _ _ _ h => h) (by rfl) ?_ (by assumption) ?_; rotate_left 1; (focus (intro w hSw; (try dsimp only at hSw); go_simp; (try with_reducible rfl))); simp only [Act.put, List.setIfInBounds_toArray, List.set_cons_zero, List.set_cons_succ])
              | (refine take_no (i := 7) rfl (by kernel_rfl) (by kernel_rfl) (by kernel_rfl) (fun _ _ _ h => h) (by rfl) (by assumption) ?_; simp only [Act.put, List.setIfInBounds_toArray, List.set_cons_zero, List.set_cons_succ])
            first
              | (refine take_yes (i := 8) (v := ?_) rfl (by kernel_rfl) (by kernel_rfl) (by kernel_rfl) (fun _ _ _ h => h) (by rfl) ?_ (by assumption) ?_; rotate_left 1; (focus (intro w hSw; (try dsimp only at hSw); go_simp; (try with_reducible rfl))); simp only [Act.put, List.setIfInBounds_toArray, List.set_cons_zero, List.set_cons_succ])
              | (refine take_no (i := 8) rfl (by kernel_rfl) (by kernel_rfl) (by kernel_rfl) (fun _ _ _ h => h) (by rfl) (by assumption) ?_; simp only [Act.put, List.setIfInBounds_toArray, List.set_cons_zero, List.set_cons_succ])
            first
              | (refine take_yes (i := 9) (v := ?_) rfl (by kernel_rfl) (by kernel_rfl) (by kernel_rfl) (fun _ _ _ h => h) (by rfl) ?_ (by assumption) ?_; rotate_left 1; (focus (intro w hSw; (try dsimp only at hSw); go_simp; (try with_reducible rfl))); simp only [Act.put, List.setIfInBounds_toArray, List.set_cons_zero, List.set_cons_succ])
              | (refine take_no (i := 9) rfl (by kernel_rfl) (by kernel_rfl) (by kernel_rfl) (fun _ _ _ h => h) (by rfl) (by assumption) ?_; simp only [Act.put, List.setIfInBounds_toArray, List.set_cons_zero, List.set_cons_succ])
            first
              | (refine take_yes (i := 10) (v := ?_) rfl (by kernel_rfl) (by kernel_rfl) (by kernel_rfl) (fun _ _ _ h => h) (by rfl) ?_ (by assumption) ?_; rotate_left 1; (focus (intro w hSw; (try dsimp only at hSw); go_simp; (try with_reducible rfl))); simp only [Act.put, List.setIfInBounds_toArray, List.set_cons_zero, List.set_cons_succ])
              | (refine take_no (i := 10) rfl (by kernel_rfl) (by kernel_rfl) (by kernel_rfl) (fun _ _ _ h => h) (by rfl) (by assumption) ?_; simp only [Act.put, List.setIfInBounds_toArray, List.set_cons_zero, List.set_cons_succ])
            first
              | (refine take_yes (i := 11) (v := ?_) rfl (by kernel_rfl) (by kernel_rfl) (by kernel_rfl) (fun _ _ _ h => h) (by rfl) ?_ (by assumption) ?_; rotate_left 1; (focus (intro w hSw; (try dsimp only at hSw); go_simp; (try with_reducible rfl))); simp only [Act.put, List.setIfInBounds_toArray, List.set_cons_zero, List.set_cons_succ])
              | (refine take_no (i := 11) rfl (by kernel_rfl) (by kernel_rfl) (by kernel_rfl) (fun _ _ _ h => h) (by rfl) (by assumption) ?_; simp only [Act.put, List.setIfInBounds_toArray, List.set_cons_zero, List.set_cons_succ])
            first
              | (refine take_yes (i := 12) (v := ?_) rfl (by kernel_rfl) (by kernel_rfl) (by kernel_rfl) (fun _ _ _ h => h) (by rfl) ?_ (by assumption) ?_; rotate_left 1; (focus (intro w hSw; (try dsimp only at hSw); go_simp; (try with_reducible rfl))); simp only [Act.put, List.setIfInBounds_toArray, List.set_cons_zero, List.set_cons_succ])
              | (refine take_no (i := 12) rfl (by kernel_rfl) (by kernel_rfl) (by kernel_rfl) (fun _ _ _ h => h) (by rfl) (by assumption) ?_; simp only [Act.put, List.setIfInBounds_toArray, List.set_cons_zero, List.set_cons_succ])
            first
              | (refine take_yes (i := 13) (v := ?_) rfl (by kernel_rfl) (by kernel_rfl) (by kernel_rfl) (fun _ _ _ h => h) (by rfl) ?_ (by assumption) ?_; rotate_left 1; (focus (intro w hSw; (try dsimp only at hSw); go_simp; (try with_reducible rfl))); simp only [Act.put, List.setIfInBounds_toArray, List.set_cons_zero, List.set_cons_succ])
              | (refine take_no (i := 13) rfl (by kernel_rfl) (by kernel_rfl) (by kernel_rfl) (fun _ _ _ h => h) (by rfl) (by assumption) ?_; simp only [Act.put, List.setIfInBounds_toArray, List.set_cons_zero, List.set_cons_succ])
            first
              | (refine take_yes (i := 14) (v := ?_) rfl (by kernel_rfl) (by kernel_rfl) (by kernel_rfl) (fun _ _ _ h => h) (by rfl) ?_ (by assumption) ?_; rotate_left 1; (focus (intro w hSw; (try dsimp only at hSw); go_simp; (try with_reducible rfl))); simp only [Act.put, List.setIfInBounds_toArray, List.set_cons_zero, List.set_cons_succ])
              | (refine take_no (i := 14) rfl (by kernel_rfl) (by kernel_rfl) (by kernel_rfl) (fun _ _ _ h => h) (by rfl) (by assumption) ?_; simp only [Act.put, List.setIfInBounds_toArray, List.set_cons_zero, List.set_cons_succ])
            first
              | (refine take_yes (i := 15) (v := ?_) rfl (by kernel_rfl) (by kernel_rfl) (by kernel_rfl) (fun _ _ _ h => h) (by rfl) ?_ (by assumption) ?_; rotate_left 1; (focus (intro w hSw; (try dsimp only at hSw); go_simp; (try with_reducible rfl))); simp only [Act.put, List.setIfInBounds_toArray, List.set_cons_zero, List.set_cons_succ])
              | (refine take_no (i := 15) rfl (by kernel_rfl) (by kernel_rfl) (by kernel_rfl) (fun _ _ _ h => h) (by rfl) (by assumption) ?_; simp only [Act.put, List.setIfInBounds_toArray, List.set_cons_zero, List.set_cons_succ])
            first
              | (refine take_yes (i := 16) (v := ?_) rfl (by kernel_rfl) (by kernel_rfl) (by kernel_rfl) (fun _ _ _ h => h) (by rfl) ?_ (by assumption) ?_; rotate_left 1; (focus (intro w hSw; (try dsimp only at hSw); go_simp; (try with_reducible rfl))); simp only [Act.put, List.setIfInBounds_toArray, List.set_cons_zero, List.set_cons_succ])
              | (refine take_no (i := 16) rfl (by kernel_rfl) (by kernel_rfl) (by kernel_rfl) (fun _ _ _ h => h) (by rfl) (by assumption) ?_; simp only [Act.put, List.setIfInBounds_toArray, List.set_cons_zero, List.set_cons_succ])
            first
              | (refine take_yes (i := 17) (v := ?_) rfl (by kernel_rfl) (by kernel_rfl) (by kernel_rfl) (fun _ _ _ h => h) (by rfl) ?_ (by assumption) ?_; rotate_left 1; (focus (intro w hSw; (try dsimp only at hSw); go_simp; (try with_reducible rfl))); simp only [Act.put, List.setIfInBounds_toArray, List.set_cons_zero, List.set_cons_succ])
              | (refine take_no (i := 17) rfl (by kernel_rfl) (by kernel_rfl) (by kernel_rfl) (fun _ _ _ h => h) (by rfl) (by assumption) ?_; simp only [Act.put, List.setIfInBounds_toArray, List.set_cons_zero, List.set_cons_succ])
            first
              | (refine take_yes (i := 18) (v := ?_) rfl (by kernel_rfl) (by kernel_rfl) (by kernel_rfl) (fun _ _ _ h => h) (by rfl) ?_ (by assumption) ?_; rotate_left 1; (focus (intro w hSw; (try dsimp only at hSw); go_simp; (try with_reducible rfl))); simp only [Act.put, List.setIfInBounds_toArray, List.set_cons_zero, List.set_cons_succ])
              | (refine take_no (i := 18) rfl (by kernel_rfl) (by kernel_rfl) (by kernel_rfl) (fun _ _ _ h => h) (by rfl) (by assumption) ?_; simp only [Act.put, List.setIfInBounds_toArray, List.set_cons_zero, List.set_cons_succ])
            first
              | (refine take_yes (i := 19) (v := ?_) rfl (by kernel_rfl) (by kernel_rfl) (by kernel_rfl) (fun _ _ _ h => h) (by rfl) ?_ (by assumption) ?_; rotate_left 1; (focus (intro w hSw; (try dsimp only at hSw); go_simp; (try with_reducible rfl))); simp only [Act.put, List.setIfInBounds_toArray, List.set_cons_zero, List.set_cons_succ])
              | (refine take_no (i := 19) rfl (by kernel_rfl) (by kernel_rfl) (by kernel_rfl) (fun _ _ _ h => h) (by rfl) (by assumption) ?_; simp only [Act.put, List.setIfInBounds_toArray, List.set_cons_zero, List.set_cons_succ])
            first
              | (refine take_yes (i := 20) (v := ?_) rfl (by kernel_rfl) (by kernel_rfl) (by kernel_rfl) (fun _ _ _ h => h) (by rfl) ?_ (by assumption) ?_; rotate_left 1; (focus (intro w hSw; (try dsimp only at hSw); go_simp; (try with_reducible rfl))); simp only [Act.put, List.setIfInBounds_toArray, List.set_cons_zero, List.set_cons_succ])
              | (refine take_no (i := 20) rfl (by kernel_rfl) (by kernel_rfl) (by kernel_rfl) (fun _ _ _ h => h) (by rfl) (by assumption) ?_; simp only [Act.put, List.setIfInBounds_toArray, List.set_cons_zero, List.set_cons_succ])
            first
              | (refine take_yes (i := 21) (v := ?_) rfl (by kernel_rfl) (by kernel_rfl) (by kernel_rfl) (fun _ _ _ h => h) (by rfl) ?_ (by assumption) ?_; rotate_left 1; (focus (intro w hSw; (try dsimp only at hSw); go_simp; (try with_reducible rfl))); simp only [Act.put, List.setIfInBounds_toArray, List.set_cons_zero, List.set_cons_succ])
              | (refine take_no (i := 21) rfl (by kernel_rfl) (by kernel_rfl) (by kernel_rfl) (fun _ _ _ h => h) (by rfl) (by assumption) ?_; simp only [Act.put, List.setIfInBounds_toArray, List.set_cons_zero, List.set_cons_succ])
            first
              | (refine take_yes (i := 22) (v := ?_) rfl (by kernel_rfl) (by kernel_rfl) (by kernel_rfl) (fun _ _ _ h => h) (by rfl) ?_ (by assumption) ?_; rotate_left 1; (focus (intro w hSw; (try dsimp only at hSw); go_simp; (try with_reducible rfl))); simp only [Act.put, List.setIfInBounds_toArray, List.set_cons_zero, List.set_cons_succ])
              | (refine take_no (i := 22) rfl (by kernel_rfl) (by kernel_rfl) (by kernel_rfl) (fun _ _ _ h => h) (by rfl) (by assumption) ?_; simp only [Act.put, List.setIfInBounds_toArray, List.set_cons_zero, List.set_cons_succ])
            first
              | (refine take_yes (i := 23) (v := ?_) rfl (by kernel_rfl) (by kernel_rfl) (by kernel_rfl) (fun _ _ _ h => h) (by rfl) ?_ (by assumption) ?_; rotate_left 1; (focus (intro w hSw; (try dsimp only at hSw); go_simp; (try with_reducible rfl))); simp only [Act.put, List.setIfInBounds_toArray, List.set_cons_zero, List.set_cons_succ])
              | (refine take_no (i := 23) rfl (by kernel_rfl) (by kernel_rfl) (by kernel_rfl) (fun _ _ _ h => h) (by rfl) (by assumption) ?_; simp only [Act.put, List.setIfInBounds_toArray, List.set_cons_zero, List.set_cons_succ])
            first
              | (refine take_yes (i := 24) (v := ?_) rfl (by kernel_rfl) (by kernel_rfl) (by kernel_rfl) (fun _ _ _ h => h) (by rfl) ?_ (by assumption) ?_; rotate_left 1; (focus (intro w hSw; (try dsimp only at hSw); go_simp; (try with_reducible rfl))); simp only [Act.put, List.setIfInBounds_toArray, List.set_cons_zero, List.set_cons_succ])
              | (refine take_no (i := 24) rfl (by kernel_rfl) (by kernel_rfl) (by kernel_rfl) (fun _ _ _ h => h) (by rfl) (by assumption) ?_; simp only [Act.put, List.setIfInBounds_toArray, List.set_cons_zero, List.set_cons_succ])
            first
              | (refine take_yes (i := 25) (v := ?_) rfl (by kernel_rfl) (by kernel_rfl) (by kernel_rfl) (fun _ _ _ h => h) (by rfl) ?_ (by assumption) ?_; rotate_left 1; (focus (intro w hSw; (try dsimp only at hSw); go_simp; (try with_reducible rfl))); simp only [Act.put, List.setIfInBounds_toArray, List.set_cons_zero, List.set_cons_succ])
              | (refine take_no (i := 25) rfl (by kernel_rfl) (by kernel_rfl) (by kernel_rfl) (fun _ _ _ h => h) (by rfl) (by assumption) ?_; simp only [Act.put, List.setIfInBounds_toArray, List.set_cons_zero, List.set_cons_succ])
            first
              | (refine take_yes (i := 26) (v := ?_) rfl (by kernel_rfl) (by kernel_rfl) (by kernel_rfl) (fun _ _ _ h => h) (by rfl) ?_ (by assumption) ?_; rotate_left 1; (focus (intro w hSw; (try dsimp only at hSw); go_simp; (try with_reducible rfl))); simp only [Act.put, List.setIfInBounds_toArray, List.set_cons_zero, List.set_cons_succ])
              | (refine take_no (i := 26) rfl (by kernel_rfl) (by kernel_rfl) (by kernel_rfl) (fun _ _ _ h => h) (by rfl) (by assumption) ?_; simp only [Act.put, List.setIfInBounds_toArray, List.set_cons_zero, List.set_cons_succ])
            first
              | (refine take_yes (i := 27) (v := ?_) rfl (by kernel_rfl) (by kernel_rfl) (by kernel_rfl) (fun _ _ _ h => h) (by rfl) ?_ (by assumption) ?_; rotate_left 1; (focus (intro w hSw; (try dsimp only at hSw); go_simp; (try with_reducible rfl))); simp only [Act.put, List.setIfInBounds_toArray, List.set_cons_zero, List.set_cons_succ])
              | (refine take_no (i := 27) rfl (by kernel_rfl) (by kernel_rfl) (by kernel_rfl) (fun _ _ _ h => h) (by rfl) (by assumption) ?_; simp only [Act.put, List.setIfInBounds_toArray, List.set_cons_zero, List.set_cons_succ])
            first
              | (refine take_yes (i := 28) (v := ?_) rfl (by kernel_rfl) (by kernel_rfl) (by kernel_rfl) (fun _ _ _ h => h) (by rfl) ?_ (by assumption) ?_; rotate_left 1; (focus (intro w hSw; (try dsimp only at hSw); go_simp; (try with_reducible rfl))); simp only [Act.put, List.setIfInBounds_toArray, List.set_cons_zero, List.set_cons_succ])
              | (refine take_no (i := 28) rfl (by kernel_rfl) (by kernel_rfl) (by kernel_rfl) (fun _ _ _ h => h) (by rfl) (by assumption) ?_; simp only [Act.put, List.setIfInBounds_toArray, List.set_cons_zero, List.set_cons_succ])
            first
              | (refine take_yes (i := 29) (v := ?_) rfl (by kernel_rfl) (by kernel_rfl) (by kernel_rfl) (fun _ _ _ h => h) (by rfl) ?_ (by assumption) ?_; rotate_left 1; (focus (intro w hSw; (try dsimp only at hSw); go_simp; (try with_reducible rfl))); simp only [Act.put, List.setIfInBounds_toArray, List.set_cons_zero, List.set_cons_succ])
              | (refine take_no (i := 29) rfl (by kernel_rfl) (by kernel_rfl) (by kernel_rfl) (fun _ _ _ h => h) (by rfl) (by assumption) ?_; simp only [Act.put, List.setIfInBounds_toArray, List.set_cons_zero, List.set_cons_succ])
            first
              | (refine take_yes (i := 30) (v := ?_) rfl (by kernel_rfl) (by kernel_rfl) (by kernel_rfl) (fun _ _ _ h => h) (by rfl) ?_ (by assumption) ?_; rotate_left 1; (focus (intro w hSw; (try dsimp only at hSw); go_simp; (try with_reducible rfl))); simp only [Act.put, List.setIfInBounds_toArray, List.set_cons_zero, List.set_cons_succ])
              | (refine take_no (i := 30) rfl (by kernel_rfl) (by kernel_rfl) (by kernel_rfl) (fun _ _ _ h => h) (by rfl) (by assumption) ?_; simp only [Act.put, List.setIfInBounds_toArray, List.set_cons_zero, List.set_cons_succ])
            first
              | (refine take_yes (i := 32) (v := ?_) rfl (by kernel_rfl) (by kernel_rfl) (by kernel_rfl) (fun _ _ _ h => h) (by rfl) ?_ (by assumption) ?_; rotate_left 1; (focus (intro w hSw; (try dsimp only at hSw); go_simp; (try with_reducible rfl))); simp only [Act.put, List.setIfInBounds_toArray, List.set_cons_zero, List.set_cons_succ])
              | (refine take_no (i := 32) rfl (by kernel_rfl) (by kernel_rfl) (by kernel_rfl) (fun _ _ _ h => h) (by rfl) (by assumption) ?_; simp only [Act.put, List.setIfInBounds_toArray, List.set_cons_zero, List.set_cons_succ])
            first
              | (refine take_yes (i := 33) (v := ?_) rfl (by kernel_rfl) (by kernel_rfl) (by kernel_rfl) (fun _ _ _ h => h) (by rfl) ?_ (by assumption) ?_; rotate_left 1; (focus (intro w hSw; (try dsimp only at hSw); go_simp; (try with_reducible rfl))); simp only [Act.put, List.setIfInBounds_toArray, List.set_cons_zero, List.set_cons_succ])
              | (refine take_no (i := 33) rfl (by kernel_rfl) (by kernel_rfl) (by kernel_rfl) (fun _ _ _ h => h) (by rfl) (by assumption) ?_; simp only [Act.put, List.setIfInBounds_toArray, List.set_cons_zero, List.set_cons_succ])
            first
              | (refine take_yes (i := 34) (v := ?_) rfl (by kernel_rfl) (by kernel_rfl) (by kernel_rfl) (fun _ _ _ h => h) (by rfl) ?_ (by assumption) ?_; rotate_left 1; (focus (intro w hSw; (try dsimp only at hSw); go_simp; (try with_reducible rfl))); simp only [Act.put, List.setIfInBounds_toArray, List.set_cons_zero, List.set_cons_succ])
              | (refine take_no (i := 34) rfl (by kernel_rfl) (by kernel_rfl) (by kernel_rfl) (fun _ _ _ h => h) (by rfl) (by assumption) ?_; simp only [Act.put, List.setIfInBounds_toArray, List.set_cons_zero, List.set_cons_succ])
            refine one_ready (i := 31) (by kernel_rfl) rfl (by rfl) (fun K hK => ?_)
            go_simp
            go_at_call 17
            refine (impl_Less_c _ _ _ _ _).mono ?_
            rintro e w' ⟨rfl, hb⟩
            rw [HL.out]
            go_simp
            replace hb := nodrew hb
            obtain ⟨hc, hf⟩ := bcell hb
            have e0 := fun o => hc (v0.heap.size) o (by first | (simp; omega) | simp | omega)
            have e1 := fun o => hc (v0.heap.size + 1) o (by first | (simp; omega) | simp | omega)
            have e2 := fun o => hc (v1.heap.size) o (by first | (simp; omega) | simp | omega)
            have e3 := fun o => hc (v4.heap.size) o (by first | (simp; omega) | simp | omega)
            have e4 := fun o => hc (v6.heap.size) o (by first | (simp; omega) | simp | omega)
            have e5 := fun o => hc (v8.heap.size) o (by first | (simp; omega) | simp | omega)
            have e6 := fun o => hc (v9.heap.size) o (by first | (simp; omega) | simp | omega)
            clear hc hf
            refine hK.out _ _ ?_ (fun hHeld2 => ?_)
            · (refine ⟨?_, ?_, ?_, ?_, ?_, ?_, ?_, ?_, ?_, ?_, ?_, ?_, ?_, ?_⟩ <;> go_simp)
            clear hK K hHeld
            (try simp only [Act.put, List.setIfInBounds_toArray, List.set_cons_zero, List.set_cons_succ])
            first
              | (refine take_yes (i := 35) (v := ?_) rfl (by kernel_rfl) (by kernel_rfl) (by kernel_rfl) (fun _ _ _ h => h) (by rfl) ?_ (by assumption) ?_; rotate_left 1; (focus (intro w hSw; (try dsimp only at hSw); go_simp; (try with_reducible rfl))); simp only [Act.put, List.setIfInBounds_toArray, List.set_cons_zero, List.set_cons_succ])
              | (refine take_no (i := 35) rfl (by kernel_rfl) (by kernel_rfl) (by kernel_rfl) (fun _ _ _ h => h) (by rfl) (by assumption) ?_; simp only [Act.put, List.setIfInBounds_toArray, List.set_cons_zero, List.set_cons_succ])
            first
              | (refine take_yes (i := 36) (v := ?_) rfl (by kernel_rfl) (by kernel_rfl) (by kernel_rfl) (fun _ _ _ h => h) (by rfl) ?_ (by assumption) ?_; rotate_left 1; (focus (intro w hSw; (try dsimp only at hSw); go_simp; (try with_reducible rfl))); simp only [Act.put, List.setIfInBounds_toArray, List.set_cons_zero, List.set_cons_succ])
              | (refine take_no (i := 36) rfl (by kernel_rfl) (by kernel_rfl) (by kernel_rfl) (fun _ _ _ h => h) (by rfl) (by assumption) ?_; simp only [Act.put, List.setIfInBounds_toArray, List.set_cons_zero, List.set_cons_succ])
            first
              | (refine take_yes (i := 37) (v := ?_) rfl (by kernel_rfl) (by kernel_rfl) (by kernel_rfl) (fun _ _ _ h => h) (by rfl) ?_ (by assumption) ?_; rotate_left 1; (focus (intro w hSw; (try dsimp only at hSw); go_simp; (try with_reducible rfl))); simp only [Act.put, List.setIfInBounds_toArray, List.set_cons_zero, List.set_cons_succ])
              | (refine take_no (i := 37) rfl (by kernel_rfl) (by kernel_rfl) (by kernel_rfl) (fun _ _ _ h => h) (by rfl) (by assumption) ?_; simp only [Act.put, List.setIfInBounds_toArray, List.set_cons_zero, List.set_cons_succ])
            refine wpAnyH_done (by kernel_rfl) ?_ _
            go_wp2_with fail
            go_ret
            exact ⟨rfl, Below.trans (by repeat (first | exact Hv9.out | (refine Below.alloc ?_ (by first | (simp <;> omega) | omega) _) | (refine Below.setCell ?_ (by first | (simp <;> omega) | omega) _) | (refine below_drewN ?_ _))) (hb.mono (by first | (simp <;> omega) | omega))⟩
          · rcases B3 with _ | _
            · refine wp_region_held_drew (S := (fun w' => w'.cell? ⟨v0.heap.size, 0, none⟩ = some (.int .i64 (a)) ∧ w'.cell? ⟨v0.heap.size, 1, none⟩ = some (.int .i64 (b)) ∧ w'.cell? ⟨v0.heap.size + 1, 0, none⟩ = some (.int .i64 (c)) ∧ w'.cell? ⟨v0.heap.size + 1, 1, none⟩ = some (.int .i64 (d)) ∧ w'.cell? ⟨v1.heap.size, 0, none⟩ = some (.int .i64 (X)) ∧ w'.cell? ⟨v1.heap.size, 1, none⟩ = some (.int .i64 (Y)) ∧ w'.cell? ⟨v4.heap.size, 0, none⟩ = some (.int .i64 (A1)) ∧ w'.cell? ⟨v4.heap.size, 1, none⟩ = some (.int .i64 (A2)) ∧ w'.cell? ⟨v6.heap.size, 0, none⟩ = some (.int .i64 (C1)) ∧ w'.cell? ⟨v6.heap.size, 1, none⟩ = some (.int .i64 (C2)) ∧ w'.cell? ⟨v8.heap.size, 0, none⟩ = some (.int .i64 (a)) ∧ w'.cell? ⟨v8.heap.size, 1, none⟩ = some (.int .i64 (b)) ∧ w'.cell? ⟨v9.heap.size, 0, none⟩ = some (.int .i64 (X)) ∧ w'.cell? ⟨v9.heap.size, 1, none⟩ = some (.int .i64 (Y)))) (by kernel_rfl) ?_ (fun hHeld => ?_)
              · (refine ⟨?_, ?_, ?_, ?_, ?_, ?_, ?_, ?_, ?_, ?_, ?_, ?_, ?_, ?_⟩ <;> go_simp)
              first
                | (refine take_yes (i := 0) (v := ?_) rfl (by kernel_rfl) (by kernel_rfl) (by kernel_rfl) (fun _ _ _ h => h) (by rfl) ?_ (by assumption) ?_; rotate_left 1; (focus (intro w hSw; (try dsimp only at hSw); go_simp; (try with_reducible rfl))); simp only [Act.put, List.setIfInBounds_toArray, List.set_cons_zero, List.set_cons_succ])
                | (refine take_no (i := 0) rfl (by kernel_rfl) (by kernel_rfl) (by kernel_rfl) (fun _ _ _ h => h) (by rfl) (by assumption) ?_; simp only [Act.put, List.setIfInBounds_toArray, List.set_cons_zero, List.set_cons_succ])
              first
                | (refine take_yes (i := 1) (v := ?_) rfl (by kernel_rfl) (by kernel_rfl) (by kernel_rfl) (fun _ _ _ h => h) (by rfl) ?_ (by assumption) ?_; rotate_left 1; (focus (intro w hSw; (try dsimp only at hSw); go_simp; (try with_reducible rfl))); simp only [Act.put, List.setIfInBounds_toArray, List.set_cons_zero, List.set_cons_succ])
                | (refine take_no (i := 1) rfl (by kernel_rfl) (by kernel_rfl) (by kernel_rfl) (fun _ _ _ h => h) (by rfl) (by assumption) ?_; simp only [Act.put, List.setIfInBounds_toArray, List.set_cons_zero, List.set_cons_succ])
              first
                | (refine take_yes (i := 2) (v := ?_) rfl (by kernel_rfl) (by kernel_rfl) (by kernel_rfl) (fun _ _ _ h => h) (by rfl) ?_ (by assumption) ?_; rotate_left 1; (focus (intro w hSw; (try dsimp only at hSw); go_simp; (try with_reducible rfl))); simp only [Act.put, List.setIfInBounds_toArray, List.set_cons_zero, List.set_cons_succ])
                | (refine take_no (i := 2) rfl (by kernel_rfl) (by kernel_rfl) (by kernel_rfl) (fun _ _ _ h => h) (by rfl) (by assumption) ?_; simp only [Act.put, List.setIfInBounds_toArray, List.set_cons_zero, List.set_cons_succ])
              first
                | (refine take_yes (i := 3) (v := ?_) rfl (by kernel_rfl) (by kernel_rfl) (by kernel_rfl) (fun _ _ _ h => h) (by rfl) ?_ (by assumption) ?_; rotate_left 1; (focus (intro w hSw; (try dsimp only at hSw); go_simp; (try with_reducible rfl))); simp only [Act.put, List.setIfInBounds_toArray, List.set_cons_zero, List.set_cons_succ])
                | (refine take_no (i := 3) rfl (by kernel_rfl) (by kernel_rfl) (by kernel_rfl) (fun _ _ _ h => h) (by rfl) (by assumption) ?_; simp only [Act.put, List.setIfInBounds_toArray, List.set_cons_zero, List.set_cons_succ])
              first
                | (refine take_yes (i := 4) (v := ?_) rfl (by kernel_rfl) (by kernel_rfl) (by kernel_rfl) (fun _ _ _ h => h) (by rfl) ?_ (by assumption) ?_; rotate_left 1; (focus (intro w hSw; (try dsimp only at hSw); go_simp; (try with_reducible rfl))); simp only [Act.put, List.setIfInBounds_toArray, List.set_cons_zero, List.set_cons_succ])
                | (refine take_no (i := 4) rfl (by kernel_rfl) (by kernel_rfl) (by kernel_rfl) (fun _ _ _ h => h) (by rfl) (by assumption) ?_; simp only [Act.put, List.setIfInBounds_toArray, List.set_cons_zero, List.set_cons_succ])
              first
                | (refine take_yes (i := 5) (v := ?_) rfl (by kernel_rfl) (by kernel_rfl) (by kernel_rfl) (fun _ _ _ h => h) (by rfl) ?_ (by assumption) ?_; rotate_left 1; (focus (intro w hSw; (try dsimp only at hSw); go_simp; (try with_reducible rfl))); simp only [Act.put, List.setIfInBounds_toArray, List.set_cons_zero, List.set_cons_succ])
                | (refine take_no (i := 5) rfl (by kernel_rfl) (by kernel_rfl) (by kernel_rfl) (fun _ _ _ h => h) (by rfl) (by assumption) ?_; simp only [Act.put, List.setIfInBounds_toArray, List.set_cons_zero, List.set_cons_succ])
              first
                | (refine take_yes (i := 6) (v := ?_) rfl (by kernel_rfl) (by kernel_rfl) (by kernel_rfl) (fun _ _ _ h => h) (by rfl) ?_ (by assumption) ?_; rotate_left 1; (focus (intro w hSw; (try dsimp only at hSw); go_simp; (try with_reducible rfl))); simp only [Act.put, List.setIfInBounds_toArray, List.set_cons_zero, List.set_cons_succ])
                | (refine take_no (i := 6) rfl (by kernel_rfl) (by kernel_rfl) (by kernel_rfl) (fun _ _ _ h => h) (by rfl) (by assumption) ?_; simp only [Act.put, List.setIfInBounds_toArray, List.set_cons_zero, List.set_cons_succ])
              first
                | (refine take_yes (i := 7) (v := ?_) rfl (by kernel_rfl) (by kernel_rfl) (by kernel_rfl) (fun _ _ _ h => h) (by rfl) ?_ (by assumption) ?_; rotate_left 1; (focus (intro w hSw; (try dsimp only at hSw); go_simp; (try with_reducible rfl))); simp only [Act.put, List.setIfInBounds_toArray, List.set_cons_zero, List.set_cons_succ])
                | (refine take_no (i := 7) rfl (by kernel_rfl) (by kernel_rfl) (by kernel_rfl) (fun _ _ _ h => h) (by rfl) (by assumption) ?_; simp only [Act.put, List.setIfInBounds_toArray, List.set_cons_zero, List.set_cons_succ])
              first
                | (refine take_yes (i := 8) (v := ?_) rfl (by kernel_rfl) (by kernel_rfl) (by kernel_rfl) (fun _ _ _ h => h) (by rfl) ?_ (by assumption) ?_; rotate_left 1; (focus (intro w hSw; (try dsimp only at hSw); go_simp; (try with_reducible rfl))); simp only [Act.put, List.setIfInBounds_toArray, List.set_cons_zero, List.set_cons_succ])
                | (refine take_no (i := 8) rfl (by kernel_rfl) (by kernel_rfl) (by kernel_rfl) (fun _ _ _ h => h) (by rfl) (by assumption) ?_; simp only [Act.put, List.setIfInBounds_toArray, List.set_cons_zero, List.set_cons_succ])
              first
                | (refine take_yes (i := 9) (v := ?_) rfl (by kernel_rfl) (by kernel_rfl) (by kernel_rfl) (fun _ _ _ h => h) (by rfl) ?_ (by assumption) ?_; rotate_left 1; (focus (intro w hSw; (try dsimp only at hSw); go_simp; (try with_reducible rfl))); simp only [Act.put, List.setIfInBounds_toArray, List.set_cons_zero, List.set_cons_succ])
                | (refine take_no (i := 9) rfl (by kernel_rfl) (by kernel_rfl) (by kernel_rfl) (fun _ _ _ h => h) (by rfl) (by assumption) ?_; simp only [Act.put, List.setIfInBounds_toArray, List.set_cons_zero, List.set_cons_succ])
              first
                | (refine take_yes (i := 10) (v := ?_) rfl (by kernel_rfl) (by kernel_rfl) (by kernel_rfl) (fun _ _ _ h => h) (by rfl) ?_ (by assumption) ?_; rotate_left 1; (focus (intro w hSw; (try dsimp only at hSw); go_simp; (try with_reducible rfl))); simp only [Act.put, List.setIfInBounds_toArray, List.set_cons_zero, List.set_cons_succ])
                | (refine take_no (i := 10) rfl (by kernel_rfl) (by kernel_rfl) (by kernel_rfl) (fun _ _ _ h => h) (by rfl) (by assumption) ?_; simp only [Act.put, List.setIfInBounds_toArray, List.set_cons_zero, List.set_cons_succ])
              first
                | (refine take_yes (i := 11) (v := ?_) rfl (by kernel_rfl) (by kernel_rfl) (by kernel_rfl) (fun _ _ _ h => h) (by rfl) ?_ (by assumption) ?_; rotate_left 1; (focus (intro w hSw; (try dsimp only at hSw); go_simp; (try with_reducible rfl))); simp only [Act.put, List.setIfInBounds_toArray, List.set_cons_zero, List.set_cons_succ])
                | (refine take_no (i := 11) rfl (by kernel_rfl) (by kernel_rfl) (by kernel_rfl) (fun _ _ _ h => h) (by rfl) (by assumption) ?_; simp only [Act.put, List.setIfInBounds_toArray, List.set_cons_zero, List.set_cons_succ])
              first
                | (refine take_yes (i := 12) (v := ?_) rfl (by kernel_rfl) (by kernel_rfl) (by kernel_rfl) (fun _ _ _ h => h) (by rfl) ?_ (by assumption) ?_; rotate_left 1; (focus (intro w hSw; (try dsimp only at hSw); go_simp; (try with_reducible rfl))); simp only [Act.put, List.setIfInBounds_toArray, List.set_cons_zero, List.set_cons_succ])
                | (refine take_no (i := 12) rfl (by kernel_rfl) (by kernel_rfl) (by kernel_rfl) (fun _ _ _ h => h) (by rfl) (by assumption) ?_; simp only [Act.put, List.setIfInBounds_toArray, List.set_cons_zero, List.set_cons_succ])
              first
                | (refine take_yes (i := 13) (v := ?_) rfl (by kernel_rfl) (by kernel_rfl) (by kernel_rfl) (fun _ _ _ h => h) (by rfl) ?_ (by assumption) ?_; rotate_left 1; (focus (intro w hSw; (try dsimp only at hSw); go_simp; (try with_reducible rfl))); simp only [Act.put, List.setIfInBounds_toArray, List.set_cons_zero, List.set_cons_succ])
                | (refine take_no (i := 13) rfl (by kernel_rfl) (by kernel_rfl) (by kernel_rfl) (fun _ _ _ h => h) (by rfl) (by assumption) ?_; simp only [Act.put, List.setIfInBounds_toArray, List.set_cons_zero, List.set_cons_succ])
              first
                | (refine take_yes (i := 14) (v := ?_) rfl (by kernel_rfl) (by kernel_rfl) (by kernel_rfl) (fun _ _ _ h => h) (by rfl) ?_ (by assumption) ?_; rotate_left 1; (focus (intro w hSw; (try dsimp only at hSw); go_simp; (try with_reducible rfl))); simp only [Act.put, List.setIfInBounds_toArray, List.set_cons_zero, List.set_cons_succ])
                | (refine take_no (i := 14) rfl (by kernel_rfl) (by kernel_rfl) (by kernel_rfl) (fun _ _ _ h => h) (by rfl) (by assumption) ?_; simp only [Act.put, List.setIfInBounds_toArray, List.set_cons_zero, List.set_cons_succ])
              first
                | (refine take_yes (i := 15) (v := ?_) rfl (by kernel_rfl) (by kernel_rfl) (by kernel_rfl) (fun _ _ _ h => h) (by rfl) ?_ (by assumption) ?_; rotate_left 1; (focus (intro w hSw; (try dsimp only at hSw); go_simp; (try with_reducible rfl))); simp only [Act.put, List.setIfInBounds_toArray, List.set_cons_zero, List.set_cons_succ])
                | (refine take_no (i := 15) rfl (by kernel_rfl) (by kernel_rfl) (by kernel_rfl) (fun _ _ _ h => h) (by rfl) (by assumption) ?_; simp only [Act.put, List.setIfInBounds_toArray, List.set_cons_zero, List.set_cons_succ])
              first
                | (refine take_yes (i := 16) (v := ?_) rfl (by kernel_rfl) (by kernel_rfl) (by kernel_rfl) (fun _ _ _ h => h) (by rfl) ?_ (by assumption) ?_; rotate_left 1; (focus (intro w hSw; (try dsimp only at hSw); go_simp; (try with_reducible rfl))); simp only [Act.put, List.setIfInBounds_toArray, List.set_cons_zero, List.set_cons_succ])
                | (refine take_no (i := 16) rfl (by kernel_rfl) (by kernel_rfl) (by kernel_rfl) (fun _ _ _ h => h) (by rfl) (by assumption) ?_; simp only [Act.put, List.setIfInBounds_toArray, List.set_cons_zero, List.set_cons_succ])
              first
                | (refine take_yes (i := 17) (v := ?_) rfl (by kernel_rfl) (by kernel_rfl) (by kernel_rfl) (fun _ _ _ h => h) (by rfl) ?_ (by assumption) ?_; rotate_left 1; (focus (intro w hSw; (try dsimp only at hSw); go_simp; (try with_reducible rfl))); simp only [Act.put, List.setIfInBounds_toArray, List.set_cons_zero, List.set_cons_succ])
                | (refine take_no (i := 17) rfl (by kernel_rfl) (by kernel_rfl) (by kernel_rfl) (fun _ _ _ h => h) (by rfl) (by assumption) ?_; simp only [Act.put, List.setIfInBounds_toArray, List.set_cons_zero, List.set_cons_succ])
              first
                | (refine take_yes (i := 18) (v := ?_) rfl (by kernel_rfl) (by kernel_rfl) (by kernel_rfl) (fun _ _ _ h => h) (by rfl) ?_ (by assumption) ?_; rotate_left 1; (focus (intro w hSw; (try dsimp only at hSw); go_simp; (try with_reducible rfl))); simp only [Act.put, List.setIfInBounds_toArray, List.set_cons_zero, List.set_cons_succ])
                | (refine take_no (i := 18) rfl (by kernel_rfl) (by kernel_rfl) (by kernel_rfl) (fun _ _ _ h => h) (by rfl) (by assumption) ?_; simp only [Act.put, List.setIfInBounds_toArray, List.set_cons_zero, List.set_cons_succ])
              first
                | (refine take_yes (i := 19) (v := ?_) rfl (by kernel_rfl) (by kernel_rfl) (by kernel_rfl) (fun _ _ _ h => h) (by rfl) ?_ (by assumption) ?_; rotate_left 1; (focus (intro w hSw; (try dsimp only at hSw); go_simp; (try with_reducible rfl))); simp only [Act.put, List.setIfInBounds_toArray, List.set_cons_zero, List.set_cons_succ])
                | (refine take_no (i := 19) rfl (by kernel_rfl) (by kernel_rfl) (by kernel_rfl) (fun _ _ _ h => h) (by rfl) (by assumption) ?_; simp only [Act.put, List.setIfInBounds_toArray, List.set_cons_zero, List.set_cons_succ])
              first
                | (refine take_yes (i := 20) (v := ?_) rfl (by kernel_rfl) (by kernel_rfl) (by kernel_rfl) (fun _ _ _ h => h) (by rfl) ?_ (by assumption) ?_; rotate_left 1; (focus (intro w hSw; (try dsimp only at hSw); go_simp; (try with_reducible rfl))); simp only [Act.put, List.setIfInBounds_toArray, List.set_cons_zero, List.set_cons_succ])
                | (refine take_no (i := 20) rfl (by kernel_rfl) (by kernel_rfl) (by kernel_rfl) (fun _ _ _ h => h) (by rfl) (by assumption) ?_; simp only [Act.put, List.setIfInBounds_toArray, List.set_cons_zero, List.set_cons_succ])
              first
                | (refine take_yes (i := 21) (v := ?_) rfl (by kernel_rfl) (by kernel_rfl) (by kernel_rfl) (fun _ _ _ h => h) (by rfl) ?_ (by assumption) ?_; rotate_left 1; (focus (intro w hSw; (try dsimp only at hSw); go_simp; (try with_reducible rfl))); simp only [Act.put, List.setIfInBounds_toArray, List.set_cons_zero, List.set_cons_succ])
                | (refine take_no (i := 21) rfl (by kernel_rfl) (by kernel_rfl) (by kernel_rfl) (fun _ _ _ h => h) (by rfl) (by assumption) ?_; simp only [Act.put, List.setIfInBounds_toArray, List.set_cons_zero, List.set_cons_succ])
              first
                | (refine take_yes (i := 22) (v := ?_) rfl (by kernel_rfl) (by kernel_rfl) (by kernel_rfl) (fun _ _ _ h => h) (by rfl) ?_ (by assumption) ?_; rotate_left 1; (focus (intro w hSw; (try dsimp only at hSw); go_simp; (try with_reducible rfl))); simp only [Act.put, List.setIfInBounds_toArray, List.set_cons_zero, List.set_cons_succ])
                | (refine take_no (i := 22) rfl (by kernel_rfl) (by kernel_rfl) (by kernel_rfl) (fun _ _ _ h => h) (by rfl) (by assumption) ?_; simp only [Act.put, List.setIfInBounds_toArray, List.set_cons_zero, List.set_cons_succ])
              first
                | (refine take_yes (i := 23) (v := ?_) rfl (by kernel_rfl) (by kernel_rfl) (by kernel_rfl) (fun _ _ _ h => h) (by rfl) ?_ (by assumption) ?_; rotate_left 1; (focus (intro w hSw; (try dsimp only at hSw); go_simp; (try with_reducible rfl))); simp only [Act.put, List.setIfInBounds_toArray, List.set_cons_zero, List.set_cons_succ])
                | (refine take_no (i := 23) rfl (by kernel_rfl) (by kernel_rfl) (by kernel_rfl) (fun _ _ _ h => h) (by rfl) (by assumption) ?_; simp only [Act.put, List.setIfInBounds_toArray, List.set_cons_zero, List.set_cons_succ])
              first
                | (refine take_yes (i := 24) (v := ?_) rfl (by kernel_rfl) (by kernel_rfl) (by kernel_rfl) (fun _ _ _ h => h) (by rfl) ?_ (by assumption) ?_; rotate_left 1; (focus (intro w hSw; (try dsimp only at hSw); go_simp; (try with_reducible rfl))); simp only [Act.put, List.setIfInBounds_toArray, List.set_cons_zero, List.set_cons_succ])
                | (refine take_no (i := 24) rfl (by kernel_rfl) (by kernel_rfl) (by kernel_rfl) (fun _ _ _ h => h) (by rfl) (by assumption) ?_; simp only [Act.put, List.setIfInBounds_toArray, List.set_cons_zero, List.set_cons_succ])
              first
                | (refine take_yes (i := 25) (v := ?_) rfl (by kernel_rfl) (by kernel_rfl) (by kernel_rfl) (fun _ _ _ h => h) (by rfl) ?_ (by assumption) ?_; rotate_left 1; (focus (intro w hSw; (try dsimp only at hSw); go_simp; (try with_reducible rfl))); simp only [Act.put, List.setIfInBounds_toArray, List.set_cons_zero, List.set_cons_succ])
                | (refine take_no (i := 25) rfl (by kernel_rfl) (by kernel_rfl) (by kernel_rfl) (fun _ _ _ h => h) (by rfl) (by assumption) ?_; simp only [Act.put, List.setIfInBounds_toArray, List.set_cons_zero, List.set_cons_succ])
              first
                | (refine take_yes (i := 26) (v := ?_) rfl (by kernel_rfl) (by kernel_rfl) (by kernel_rfl) (fun _ _ _ h => h) (by rfl) ?_ (by assumption) ?_; rotate_left 1; (focus (intro w hSw; (try dsimp only at hSw); go_simp; (try with_reducible rfl))); simp only [Act.put, List.setIfInBounds_toArray, List.set_cons_zero, List.set_cons_succ])
                | (refine take_no (i := 26) rfl (by kernel_rfl) (by kernel_rfl) (by kernel_rfl) (fun _ _ _ h => h) (by rfl) (by assumption) ?_; simp only [Act.put, List.setIfInBounds_toArray, List.set_cons_zero, List.set_cons_succ])
              first
                | (refine take_yes (i := 27) (v := ?_) rfl (by kernel_rfl) (by kernel_rfl) (by kernel_rfl) (fun _ _ _ h => h) (by rfl) ?_ (by assumption) ?_; rotate_left 1; (focus (intro w hSw; (try dsimp only at hSw); go_simp; (try with_reducible rfl))); simp only [Act.put, List.setIfInBounds_toArray, List.set_cons_zero, List.set_cons_succ])
                | (refine take_no (i := 27) rfl (by kernel_rfl) (by kernel_rfl) (by kernel_rfl) (fun _ _ _ h => h) (by rfl) (by assumption) ?_; simp only [Act.put, List.setIfInBounds_toArray, List.set_cons_zero, List.set_cons_succ])
              first
                | (refine take_yes (i := 28) (v := ?_) rfl (by kernel_rfl) (by kernel_rfl) (by kernel_rfl) (fun _ _ _ h => h) (by rfl) ?_ (by assumption) ?_; rotate_left 1; (focus (intro w hSw; (try dsimp only at hSw); go_simp; (try with_reducible rfl))); simp only [Act.put, List.setIfInBounds_toArray, List.set_cons_zero, List.set_cons_succ])
                | (refine take_no (i := 28) rfl (by kernel_rfl) (by kernel_rfl) (by kernel_rfl) (fun _ _ _ h => h) (by rfl) (by assumption) ?_; simp only [Act.put, List.setIfInBounds_toArray, List.set_cons_zero, List.set_cons_succ])
              first
                | (refine take_yes (i := 29) (v := ?_) rfl (by kernel_rfl) (by kernel_rfl) (by kernel_rfl) (fun _ _ _ h => h) (by rfl) ?_ (by assumption) ?_; rotate_left 1; (focus (intro w hSw; (try dsimp only at hSw); go_simp; (try with_reducible rfl))); simp only [Act.put, List.setIfInBounds_toArray, List.set_cons_zero, List.set_cons_succ])
                | (refine take_no (i := 29) rfl (by kernel_rfl) (by kernel_rfl) (by kernel_rfl) (fun _ _ _ h => h) (by rfl) (by assumption) ?_; simp only [Act.put, List.setIfInBounds_toArray, List.set_cons_zero, List.set_cons_succ])
              first
                | (refine take_yes (i := 30) (v := ?_) rfl (by kernel_rfl) (by kernel_rfl) (by kernel_rfl) (fun _ _ _ h => h) (by rfl) ?_ (by assumption) ?_; rotate_left 1; (focus (intro w hSw; (try dsimp only at hSw); go_simp; (try with_reducible rfl))); simp only [Act.put, List.setIfInBounds_toArray, List.set_cons_zero, List.set_cons_succ])
                | (refine take_no (i := 30) rfl (by kernel_rfl) (by kernel_rfl) (by kernel_rfl) (fun _ _ _ h => h) (by rfl) (by assumption) ?_; simp only [Act.put, List.setIfInBounds_toArray, List.set_cons_zero, List.set_cons_succ])
              first
                | (refine take_yes (i := 32) (v := ?_) rfl (by kernel_rfl) (by kernel_rfl) (by kernel_rfl) (fun _ _ _ h => h) (by rfl) ?_ (by assumption) ?_; rotate_left 1; (focus (intro w hSw; (try dsimp only at hSw); go_simp; (try with_reducible rfl))); simp only [Act.put, List.setIfInBounds_toArray, List.set_cons_zero, List.set_cons_succ])
                | (refine take_no (i := 32) rfl (by kernel_rfl) (by kernel_rfl) (by kernel_rfl) (fun _ _ _ h => h) (by rfl) (by assumption) ?_; simp only [Act.put, List.setIfInBounds_toArray, List.set_cons_zero, List.set_cons_succ])
              first
                | (refine take_yes (i := 33) (v := ?_) rfl (by kernel_rfl) (by kernel_rfl) (by kernel_rfl) (fun _ _ _ h => h) (by rfl) ?_ (by assumption) ?_; rotate_left 1; (focus (intro w hSw; (try dsimp only at hSw); go_simp; (try with_reducible rfl))); simp only [Act.put, List.setIfInBounds_toArray, List.set_cons_zero, List.set_cons_succ])
                | (refine take_no (i := 33) rfl (by kernel_rfl) (by kernel_rfl) (by kernel_rfl) (fun _ _ _ h => h) (by rfl) (by assumption) ?_; simp only [Act.put, List.setIfInBounds_toArray, List.set_cons_zero, List.set_cons_succ])
              first
                | (refine take_yes (i := 34) (v := ?_) rfl (by kernel_rfl) (by kernel_rfl) (by kernel_rfl) (fun _ _ _ h => h) (by rfl) ?_ (by assumption) ?_; rotate_left 1; (focus (intro w hSw; (try dsimp only at hSw); go_simp; (try with_reducible rfl))); simp only [Act.put, List.setIfInBounds_toArray, List.set_cons_zero, List.set_cons_succ])
                | (refine take_no (i := 34) rfl (by kernel_rfl) (by kernel_rfl) (by kernel_rfl) (fun _ _ _ h => h) (by rfl) (by assumption) ?_; simp only [Act.put, List.setIfInBounds_toArray, List.set_cons_zero, List.set_cons_succ])
              refine one_ready (i := 31) (by kernel_rfl) rfl (by rfl) (fun K hK => ?_)
              go_simp
              go_at_call 17
              refine (impl_Less_c _ _ _ _ _).mono ?_
              rintro e w' ⟨rfl, hb⟩
              rw [HL.out]
              go_simp
              replace hb := nodrew hb
              obtain ⟨hc, hf⟩ := bcell hb
              have e0 := fun o => hc (v0.heap.size) o (by first | (simp; omega) | simp | omega)
              have e1 := fun o => hc (v0.heap.size + 1) o (by first | (simp; omega) | simp | omega)
              have e2 := fun o => hc (v1.heap.size) o (by first | (simp; omega) | simp | omega)
              have e3 := fun o => hc (v4.heap.size) o (by first | (simp; omega) | simp | omega)
              have e4 := fun o => hc (v6.heap.size) o (by first | (simp; omega) | simp | omega)
              have e5 := fun o => hc (v8.heap.size) o (by first | (simp; omega) | simp | omega)
              have e6 := fun o => hc (v9.heap.size) o (by first | (simp; omega) | simp | omega)
              clear hc hf
              refine hK.out _ _ ?_ (fun hHeld2 => ?_)
              · (refine ⟨?_, ?_, ?_, ?_, ?_, ?_, ?_, ?_, ?_, ?_, ?_, ?_, ?_, ?_⟩ <;> go_simp)
              clear hK K hHeld
              (try simp only [Act.put, List.setIfInBounds_toArray, List.set_cons_zero, List.set_cons_succ])
              first
                | (refine take_yes (i := 35) (v := ?_) rfl (by kernel_rfl) (by kernel_rfl) (by kernel_rfl) (fun _ _ _ h => h) (by rfl) ?_ (by assumption) ?_; rotate_left 1; (focus (intro w hSw; (try dsimp only at hSw); go_simp; (try with_reducible rfl))); simp only [Act.put, List.setIfInBounds_toArray, List.set_cons_zero, List.set_cons_succ])
                | (refine take_no (i := 35) rfl (by kernel_rfl) (by kernel_rfl) (by kernel_rfl) (fun _ _ _ h => h) (by rfl) (by assumption) ?_; simp only [Act.put, List.setIfInBounds_toArray, List.set_cons_zero, List.set_cons_succ])
              first
                | (refine take_yes (i := 36) (v := ?_) rfl (by kernel_rfl) (by kernel_rfl) (by kernel_rfl) (fun _ _ _ h => h) (by rfl) ?_ (by assumption) ?_; rotate_left 1; (focus (intro w hSw; (try dsimp only at hSw); go_simp; (try with_reducible rfl))); simp only [Act.put, List.setIfInBounds_toArray, List.set_cons_zero, List.set_cons_succ])
                | (refine take_no (i := 36) rfl (by kernel_rfl) (by kernel_rfl) (by kernel_rfl) (fun _ _ _ h => h) (by rfl) (by assumption) ?_; simp only [Act.put, List.setIfInBounds_toArray, List.set_cons_zero, List.set_cons_succ])
              first
                | (refine take_yes (i := 37) (v := ?_) rfl (by kernel_rfl) (by kernel_rfl) (by kernel_rfl) (fun _ _ _ h => h) (by rfl) ?_ (by assumption) ?_; rotate_left 1; (focus (intro w hSw; (try dsimp only at hSw); go_simp; (try with_reducible rfl))); simp only [Act.put, List.setIfInBounds_toArray, List.set_cons_zero, List.set_cons_succ])
                | (refine take_no (i := 37) rfl (by kernel_rfl) (by kernel_rfl) (by kernel_rfl) (fun _ _ _ h => h) (by rfl) (by assumption) ?_; simp only [Act.put, List.setIfInBounds_toArray, List.set_cons_zero, List.set_cons_succ])
              refine wpAnyH_done (by kernel_rfl) ?_ _
              go_wp2_with fail
              go_ret
              exact ⟨rfl, Below.trans (by repeat (first | exact Hv9.out | (refine Below.alloc ?_ (by first | (simp <;> omega) | omega) _) | (refine Below.setCell ?_ (by first | (simp <;> omega) | omega) _) | (refine below_drewN ?_ _))) (hb.mono (by first | (simp <;> omega) | omega))⟩
            · obtain ⟨rfl, rfl⟩ := HAC.out rfl rfl rfl
              refine wp_region_held_drew (S := (fun w' => w'.cell? ⟨v0.heap.size, 0, none⟩ = some (.int .i64 (a)) ∧ w'.cell? ⟨v0.heap.size, 1, none⟩ = some (.int .i64 (b)) ∧ w'.cell? ⟨v0.heap.size + 1, 0, none⟩ = some (.int .i64 (c)) ∧ w'.cell? ⟨v0.heap.size + 1, 1, none⟩ = some (.int .i64 (d)) ∧ w'.cell? ⟨v1.heap.size, 0, none⟩ = some (.int .i64 (X)) ∧ w'.cell? ⟨v1.heap.size, 1, none⟩ = some (.int .i64 (Y)) ∧ w'.cell? ⟨v4.heap.size, 0, none⟩ = some (.int .i64 (A1)) ∧ w'.cell? ⟨v4.heap.size, 1, none⟩ = some (.int .i64 (A2)) ∧ w'.cell? ⟨v6.heap.size, 0, none⟩ = some (.int .i64 (A1)) ∧ w'.cell? ⟨v6.heap.size, 1, none⟩ = some (.int .i64 (A2)) ∧ w'.cell? ⟨v8.heap.size, 0, none⟩ = some (.int .i64 (a)) ∧ w'.cell? ⟨v8.heap.size, 1, none⟩ = some (.int .i64 (b)) ∧ w'.cell? ⟨v9.heap.size, 0, none⟩ = some (.int .i64 (X)) ∧ w'.cell? ⟨v9.heap.size, 1, none⟩ = some (.int .i64 (Y)))) (by kernel_rfl) ?_ (fun hHeld => ?_)
              · (refine ⟨?_, ?_, ?_, ?_, ?_, ?_, ?_, ?_, ?_, ?_, ?_, ?_, ?_, ?_⟩ <;> go_simp)
              first
                | (refine take_yes (i := 0) (v := ?_) rfl (by kernel_rfl) (by kernel_rfl) (by kernel_rfl) (fun _ _ _ h => h) (by rfl) ?_ (by assumption) ?_; rotate_left 1; (focus (intro w hSw; (try dsimp only at hSw); go_simp; (try with_reducible rfl))); simp only [Act.put, List.setIfInBounds_toArray, List.set_cons_zero, List.set_cons_succ])
                | (refine take_no (i := 0) rfl (by kernel_rfl) (by kernel_rfl) (by kernel_rfl) (fun _ _ _ h => h) (by rfl) (by assumption) ?_; simp only [Act.put, List.setIfInBounds_toArray, List.set_cons_zero, List.set_cons_succ])
              first
                | (refine take_yes (i := 1) (v := ?_) rfl (by kernel_rfl) (by kernel_rfl) (by kernel_rfl) (fun _ _ _ h => h) (by rfl) ?_ (by assumption) ?_; rotate_left 1; (focus (intro w hSw; (try dsimp only at hSw); go_simp; (try with_reducible rfl))); simp only [Act.put, List.setIfInBounds_toArray, List.set_cons_zero, List.set_cons_succ])
                | (refine take_no (i := 1) rfl (by kernel_rfl) (by kernel_rfl) (by kernel_rfl) (fun _ _ _ h => h) (by rfl) (by assumption) ?_; simp only [Act.put, List.setIfInBounds_toArray, List.set_cons_zero, List.set_cons_succ])
              first
                | (refine take_yes (i := 2) (v := ?_) rfl (by kernel_rfl) (by kernel_rfl) (by kernel_rfl) (fun _ _ _ h => h) (by rfl) ?_ (by assumption) ?_; rotate_left 1; (focus (intro w hSw; (try dsimp only at hSw); go_simp; (try with_reducible rfl))); simp only [Act.put, List.setIfInBounds_toArray, List.set_cons_zero, List.set_cons_succ])
                | (refine take_no (i := 2) rfl (by kernel_rfl) (by kernel_rfl) (by kernel_rfl) (fun _ _ _ h => h) (by rfl) (by assumption) ?_; simp only [Act.put, List.setIfInBounds_toArray, List.set_cons_zero, List.set_cons_succ])
              first
                | (refine take_yes (i := 3) (v := ?_) rfl (by kernel_rfl) (by kernel_rfl) (by kernel_rfl) (fun _ _ _ h => h) (by rfl) ?_ (by assumption) ?_; rotate_left 1; (focus (intro w hSw; (try dsimp only at hSw); go_simp; (try with_reducible rfl))); simp only [Act.put, List.setIfInBounds_toArray, List.set_cons_zero, List.set_cons_succ])
                | (refine take_no (i := 3) rfl (by kernel_rfl) (by kernel_rfl) (by kernel_rfl) (fun _ _ _ h => h) (by rfl) (by assumption) ?_; simp only [Act.put, List.setIfInBounds_toArray, List.set_cons_zero, List.set_cons_succ])
              first
                | (refine take_yes (i := 4) (v := ?_) rfl (by kernel_rfl) (by kernel_rfl) (by kernel_rfl) (fun _ _ _ h => h) (by rfl) ?_ (by assumption) ?_; rotate_left 1; (focus (intro w hSw; (try dsimp only at hSw); go_simp; (try with_reducible rfl))); simp only [Act.put, List.setIfInBounds_toArray, List.set_cons_zero, List.set_cons_succ])
                | (refine take_no (i := 4) rfl (by kernel_rfl) (by kernel_rfl) (by kernel_rfl) (fun _ _ _ h => h) (by rfl) (by assumption) ?_; simp only [Act.put, List.setIfInBounds_toArray, List.set_cons_zero, List.set_cons_succ])
              first
                | (refine take_yes (i := 5) (v := ?_) rfl (by kernel_rfl) (by kernel_rfl) (by kernel_rfl) (fun _ _ _ h => h) (by rfl) ?_ (by assumption) ?_; rotate_left 1; (focus (intro w hSw; (try dsimp only at hSw); go_simp; (try with_reducible rfl))); simp only [Act.put, List.setIfInBounds_toArray, List.set_cons_zero, List.set_cons_succ])
                | (refine take_no (i := 5) rfl (by kernel_rfl) (by kernel_rfl) (by kernel_rfl) (fun _ _ _ h => h) (by rfl) (by assumption) ?_; simp only [Act.put, List.setIfInBounds_toArray, List.set_cons_zero, List.set_cons_succ])
              first
                | (refine take_yes (i := 6) (v := ?_) rfl (by kernel_rfl) (by kernel_rfl) (by kernel_rfl) (fun _ _ _ h => h) (by rfl) ?_ (by assumption) ?_; rotate_left 1; (focus (intro w hSw; (try dsimp only at hSw); go_simp; (try with_reducible rfl))); simp only [Act.put, List.setIfInBounds_toArray, List.set_cons_zero, List.set_cons_succ])
                | (refine take_no (i := 6) rfl (by kernel_rfl) (by kernel_rfl) (by kernel_rfl) (fun _ _ _ h => h) (by rfl) (by assumption) ?_; simp only [Act.put, List.setIfInBounds_toArray, List.set_cons_zero, List.set_cons_succ])
              first
                | (refine take_yes (i := 7) (v := ?_) rfl (by kernel_rfl) (by kernel_rfl) (by kernel_rfl) (fun _ _ _ h => h) (by rfl) ?_ (by assumption) ?_; rotate_left 1; (focus (intro w hSw; (try dsimp only at hSw); go_simp; (try with_reducible rfl))); simp only [Act.put, List.setIfInBounds_toArray, List.set_cons_zero, List.set_cons_succ])
                | (refine take_no (i := 7) rfl (by kernel_rfl) (by kernel_rfl) (by kernel_rfl) (fun _ _ _ h => h) (by rfl) (by assumption) ?_; simp only [Act.put, List.setIfInBounds_toArray, List.set_cons_zero, List.set_cons_succ])
              first
                | (refine take_yes (i := 8) (v := ?_) rfl (by kernel_rfl) (by kernel_rfl) (by kernel_rfl) (fun _ _ _ h => h) (by rfl) ?_ (by assumption) ?_; rotate_left 1; (focus (intro w hSw; (try dsimp only at hSw); go_simp; (try with_reducible rfl))); simp only [Act.put, List.setIfInBounds_toArray, List.set_cons_zero, List.set_cons_succ])
                | (refine take_no (i := 8) rfl (by kernel_rfl) (by kernel_rfl) (by kernel_rfl) (fun _ _ _ h => h) (by rfl) (by assumption) ?_; simp only [Act.put, List.setIfInBounds_toArray, List.set_cons_zero, List.set_cons_succ])
              first
                | (refine take_yes (i := 9) (v := ?_) rfl (by kernel_rfl) (by kernel_rfl) (by kernel_rfl) (fun _ _ _ h => h) (by rfl) ?_ (by assumption) ?_; rotate_left 1; (focus (intro w hSw; (try dsimp only at hSw); go_simp; (try with_reducible rfl))); simp only [Act.put, List.setIfInBounds_toArray, List.set_cons_zero, List.set_cons_succ])
                | (refine take_no (i := 9) rfl (by kernel_rfl) (by kernel_rfl) (by kernel_rfl) (fun _ _ _ h => h) (by rfl) (by assumption) ?_; simp only [Act.put, List.setIfInBounds_toArray, List.set_cons_zero, List.set_cons_succ])
              first
                | (refine take_yes (i := 10) (v := ?_) rfl (by kernel_rfl) (by kernel_rfl) (by kernel_rfl) (fun _ _ _ h => h) (by rfl) ?_ (by assumption) ?_; rotate_left 1; (focus (intro w hSw; (try dsimp only at hSw); go_simp; (try with_reducible rfl))); simp only [Act.put, List.setIfInBounds_toArray, List.set_cons_zero, List.set_cons_succ])
                | (refine take_no (i := 10) rfl (by kernel_rfl) (by kernel_rfl) (by kernel_rfl) (fun _ _ _ h => h) (by rfl) (by assumption) ?_; simp only [Act.put, List.setIfInBounds_toArray, List.set_cons_zero, List.set_cons_succ])
              first
                | (refine take_yes (i := 11) (v := ?_) rfl (by kernel_rfl) (by kernel_rfl) (by kernel_rfl) (fun _ _ _ h => h) (by rfl) ?_ (by assumption) ?_; rotate_left 1; (focus (intro w hSw; (try dsimp only at hSw); go_simp; (try with_reducible rfl))); simp only [Act.put, List.setIfInBounds_toArray, List.set_cons_zero, List.set_cons_succ])
                | (refine take_no (i := 11) rfl (by kernel_rfl) (by kernel_rfl) (by kernel_rfl) (fun _ _ _ h => h) (by rfl) (by assumption) ?_; simp only [Act.put, List.setIfInBounds_toArray, List.set_cons_zero, List.set_cons_succ])
              first
                | (refine take_yes (i := 12) (v := ?_) rfl (by kernel_rfl) (by kernel_rfl) (by kernel_rfl) (fun _ _ _ h => h) (by rfl) ?_ (by assumption) ?_; rotate_left 1; (focus (intro w hSw; (try dsimp only at hSw); go_simp; (try with_reducible rfl))); simp only [Act.put, List.setIfInBounds_toArray, List.set_cons_zero, List.set_cons_succ])
                | (refine take_no (i := 12) rfl (by kernel_rfl) (by kernel_rfl) (by kernel_rfl) (fun _ _ _ h => h) (by rfl) (by assumption) ?_; simp only [Act.put, List.setIfInBounds_toArray, List.set_cons_zero, List.set_cons_succ])
              first
                | (refine take_yes (i := 13) (v := ?_) rfl (by kernel_rfl) (by kernel_rfl) (by kernel_rfl) (fun _ _ _ h => h) (by rfl) ?_ (by assumption) ?_; rotate_left 1; (focus (intro w hSw; (try dsimp only at hSw); go_simp; (try with_reducible rfl))); simp only [Act.put, List.setIfInBounds_toArray, List.set_cons_zero, List.set_cons_succ])
                | (refine take_no (i := 13) rfl (by kernel_rfl) (by kernel_rfl) (by kernel_rfl) (fun _ _ _ h => h) (by rfl) (by assumption) ?_; simp only [Act.put, List.setIfInBounds_toArray, List.set_cons_zero, List.set_cons_succ])
              first
                | (refine take_yes (i := 14) (v := ?_) rfl (by kernel_rfl) (by kernel_rfl) (by kernel_rfl) (fun _ _ _ h => h) (by rfl) ?_ (by assumption) ?_; rotate_left 1; (focus (intro w hSw; (try dsimp only at hSw); go_simp; (try with_reducible rfl))); simp only [Act.put, List.setIfInBounds_toArray, List.set_cons_zero, List.set_cons_succ])
                | (refine take_no (i := 14) rfl (by kernel_rfl) (by kernel_rfl) (by kernel_rfl) (fun _ _ _ h => h) (by rfl) (by assumption) ?_; simp only [Act.put, List.setIfInBounds_toArray, List.set_cons_zero, List.set_cons_succ])
              first
                | (refine take_yes (i := 15) (v := ?_) rfl (by kernel_rfl) (by kernel_rfl) (by kernel_rfl) (fun _ _ _ h => h) (by rfl) ?_ (by assumption) ?_; rotate_left 1; (focus (intro w hSw; (try dsimp only at hSw); go_simp; (try with_reducible rfl))); simp only [Act.put, List.setIfInBounds_toArray, List.set_cons_zero, List.set_cons_succ])
                | (refine take_no (i := 15) rfl (by kernel_rfl) (by kernel_rfl) (by kernel_rfl) (fun _ _ _ h => h) (by rfl) (by assumption) ?_; simp only [Act.put, List.setIfInBounds_toArray, List.set_cons_zero, List.set_cons_succ])
              first
                | (refine take_yes (i := 16) (v := ?_) rfl (by kernel_rfl) (by kernel_rfl) (by kernel_rfl) (fun _ _ _ h => h) (by rfl) ?_ (by assumption) ?_; rotate_left 1; (focus (intro w hSw; (try dsimp only at hSw); go_simp; (try with_reducible rfl))); simp only [Act.put, List.setIfInBounds_toArray, List.set_cons_zero, List.set_cons_succ])
                | (refine take_no (i := 16) rfl (by kernel_rfl) (by kernel_rfl) (by kernel_rfl) (fun _ _ _ h => h) (by rfl) (by assumption) ?_; simp only [Act.put, List.setIfInBounds_toArray, List.set_cons_zero, List.set_cons_succ])
              first
                | (refine take_yes (i := 17) (v := ?_) rfl (by kernel_rfl) (by kernel_rfl) (by kernel_rfl) (fun _ _ _ h => h) (by rfl) ?_ (by assumption) ?_; rotate_left 1; (focus (intro w hSw; (try dsimp only at hSw); go_simp; (try with_reducible rfl))); simp only [Act.put, List.setIfInBounds_toArray, List.set_cons_zero, List.set_cons_succ])
                | (refine take_no (i := 17) rfl (by kernel_rfl) (by kernel_rfl) (by kernel_rfl) (fun _ _ _ h => h) (by rfl) (by assumption) ?_; simp only [Act.put, List.setIfInBounds_toArray, List.set_cons_zero, List.set_cons_succ])
              first
                | (refine take_yes (i := 18) (v := ?_) rfl (by kernel_rfl) (by kernel_rfl) (by kernel_rfl) (fun _ _ _ h => h) (by rfl) ?_ (by assumption) ?_; rotate_left 1; (focus (intro w hSw; (try dsimp only at hSw); go_simp; (try with_reducible rfl))); simp only [Act.put, List.setIfInBounds_toArray, List.set_cons_zero, List.set_cons_succ])
                | (refine take_no (i := 18) rfl (by kernel_rfl) (by kernel_rfl) (by kernel_rfl) (fun _ _ _ h => h) (by rfl) (by assumption) ?_; simp only [Act.put, List.setIfInBounds_toArray, List.set_cons_zero, List.set_cons_succ])
              first
                | (refine take_yes (i := 19) (v := ?_) rfl (by kernel_rfl) (by kernel_rfl) (by kernel_rfl) (fun _ _ _ h => h) (by rfl) ?_ (by assumption) ?_; rotate_left 1; (focus (intro w hSw; (try dsimp only at hSw); go_simp; (try with_reducible rfl))); simp only [Act.put, List.setIfInBounds_toArray, List.set_cons_zero, List.set_cons_succ])
                | (refine take_no (i := 19) rfl (by kernel_rfl) (by kernel_rfl) (by kernel_rfl) (fun _ _ _ h => h) (by rfl) (by assumption) ?_; simp only [Act.put, List.setIfInBounds_toArray, List.set_cons_zero, List.set_cons_succ])
              first
                | (refine take_yes (i := 20) (v := ?_) rfl (by kernel_rfl) (by kernel_rfl) (by kernel_rfl) (fun _ _ _ h => h) (by rfl) ?_ (by assumption) ?_; rotate_left 1; (focus (intro w hSw; (try dsimp only at hSw); go_simp; (try with_reducible rfl))); simp only [Act.put, List.setIfInBounds_toArray, List.set_cons_zero, List.set_cons_succ])
                | (refine take_no (i := 20) rfl (by kernel_rfl) (by kernel_rfl) (by kernel_rfl) (fun _ _ _ h => h) (by rfl) (by assumption) ?_; simp only [Act.put, List.setIfInBounds_toArray, List.set_cons_zero, List.set_cons_succ])
              first
                | (refine take_yes (i := 21) (v := ?_) rfl (by kernel_rfl) (by kernel_rfl) (by kernel_rfl) (fun _ _ _ h => h) (by rfl) ?_ (by assumption) ?_; rotate_left 1; (focus (intro w hSw; (try dsimp only at hSw); go_simp; (try with_reducible rfl))); simp only [Act.put, List.setIfInBounds_toArray, List.set_cons_zero, List.set_cons_succ])
                | (refine take_no (i := 21) rfl (by kernel_rfl) (by kernel_rfl) (by kernel_rfl) (fun _ _ _ h => h) (by rfl) (by assumption) ?_; simp only [Act.put, List.setIfInBounds_toArray, List.set_cons_zero, List.set_cons_succ])
              first
                | (refine take_yes (i := 22) (v := ?_) rfl (by kernel_rfl) (by kernel_rfl) (by kernel_rfl) (fun _ _ _ h => h) (by rfl) ?_ (by assumption) ?_; rotate_left 1; (focus (intro w hSw; (try dsimp only at hSw); go_simp; (try with_reducible rfl))); simp only [Act.put, List.setIfInBounds_toArray, List.set_cons_zero, List.set_cons_succ])
                | (refine take_no (i := 22) rfl (by kernel_rfl) (by kernel_rfl) (by kernel_rfl) (fun _ _ _ h => h) (by rfl) (by assumption) ?_; simp only [Act.put, List.setIfInBounds_toArray, List.set_cons_zero, List.set_cons_succ])
              first
                | (refine take_yes (i := 23) (v := ?_) rfl (by kernel_rfl) (by kernel_rfl) (by kernel_rfl) (fun _ _ _ h => h) (by rfl) ?_ (by assumption) ?_; rotate_left 1; (focus (intro w hSw; (try dsimp only at hSw); go_simp; (try with_reducible rfl))); simp only [Act.put, List.setIfInBounds_toArray, List.set_cons_zero, List.set_cons_succ])
                | (refine take_no (i := 23) rfl (by kernel_rfl) (by kernel_rfl) (by kernel_rfl) (fun _ _ _ h => h) (by rfl) (by assumption) ?_; simp only [Act.put, List.setIfInBounds_toArray, List.set_cons_zero, List.set_cons_succ])
              first
                | (refine take_yes (i := 24) (v := ?_) rfl (by kernel_rfl) (by kernel_rfl) (by kernel_rfl) (fun _ _ _ h => h) (by rfl) ?_ (by assumption) ?_; rotate_left 1; (focus (intro w hSw; (try dsimp only at hSw); go_simp; (try with_reducible rfl))); simp only [Act.put, List.setIfInBounds_toArray, List.set_cons_zero, List.set_cons_succ])
                | (refine take_no (i := 24) rfl (by kernel_rfl) (by kernel_rfl) (by kernel_rfl) (fun _ _ _ h => h) (by rfl) (by assumption) ?_; simp only [Act.put, List.setIfInBounds_toArray, List.set_cons_zero, List.set_cons_succ])
              first
                | (refine take_yes (i := 25) (v := ?_) rfl (by kernel_rfl) (by kernel_rfl) (by kernel_rfl) (fun _ _ _ h => h) (by rfl) ?_ (by assumption) ?_; rotate_left 1; (focus (intro w hSw; (try dsimp only at hSw); go_simp; (try with_reducible rfl))); simp only [Act.put, List.setIfInBounds_toArray, List.set_cons_zero, List.set_cons_succ])
                | (refine take_no (i := 25) rfl (by kernel_rfl) (by kernel_rfl) (by kernel_rfl) (fun _ _ _ h => h) (by rfl) (by assumption) ?_; simp only [Act.put, List.setIfInBounds_toArray, List.set_cons_zero, List.set_cons_succ])
              first
                | (refine take_yes (i := 26) (v := ?_) rfl (by kernel_rfl) (by kernel_rfl) (by kernel_rfl) (fun _ _ _ h => h) (by rfl) ?_ (by assumption) ?_; rotate_left 1; (focus (intro w hSw; (try dsimp only at hSw); go_simp; (try with_reducible rfl))); simp only [Act.put, List.setIfInBounds_toArray, List.set_cons_zero, List.set_cons_succ])
                | (refine take_no (i := 26) rfl (by kernel_rfl) (by kernel_rfl) (by kernel_rfl) (fun _ _ _ h => h) (by rfl) (by assumption) ?_; simp only [Act.put, List.setIfInBounds_toArray, List.set_cons_zero, List.set_cons_succ])
              first
                | (refine take_yes (i := 27) (v := ?_) rfl (by kernel_rfl) (by kernel_rfl) (by kernel_rfl) (fun _ _ _ h => h) (by rfl) ?_ (by assumption) ?_; rotate_left 1; (focus (intro w hSw; (try dsimp only at hSw); go_simp; (try with_reducible rfl))); simp only [Act.put, List.setIfInBounds_toArray, List.set_cons_zero, List.set_cons_succ])
                | (refine take_no (i := 27) rfl (by kernel_rfl) (by kernel_rfl) (by kernel_rfl) (fun _ _ _ h => h) (by rfl) (by assumption) ?_; simp only [Act.put, List.setIfInBounds_toArray, List.set_cons_zero, List.set_cons_succ])
              first
                | (refine take_yes (i := 28) (v := ?_) rfl (by kernel_rfl) (by kernel_rfl) (by kernel_rfl) (fun _ _ _ h => h) (by rfl) ?_ (by assumption) ?_; rotate_left 1; (focus (intro w hSw; (try dsimp only at hSw); go_simp; (try with_reducible rfl))); simp only [Act.put, List.setIfInBounds_toArray, List.set_cons_zero, List.set_cons_succ])
                | (refine take_no (i := 28) rfl (by kernel_rfl) (by kernel_rfl) (by kernel_rfl) (fun _ _ _ h => h) (by rfl) (by assumption) ?_; simp only [Act.put, List.setIfInBounds_toArray, List.set_cons_zero, List.set_cons_succ])
              first
                | (refine take_yes (i := 29) (v := ?_) rfl (by kernel_rfl) (by kernel_rfl) (by kernel_rfl) (fun _ _ _ h => h) (by rfl) ?_ (by assumption) ?_; rotate_left 1; (focus (intro w hSw; (try dsimp only at hSw); go_simp; (try with_reducible rfl))); simp only [Act.put, List.setIfInBounds_toArray, List.set_cons_zero, List.set_cons_succ])
                | (refine take_no (i := 29) rfl (by kernel_rfl) (by kernel_rfl) (by kernel_rfl) (fun _ _ _ h => h) (by rfl) (by assumption) ?_; simp only [Act.put, List.setIfInBounds_toArray, List.set_cons_zero, List.set_cons_succ])
              first
                | (refine take_yes (i := 30) (v := ?_) rfl (by kernel_rfl) (by kernel_rfl) (by kernel_rfl) (fun _ _ _ h => h) (by rfl) ?_ (by assumption) ?_; rotate_left 1; (focus (intro w hSw; (try dsimp only at hSw); go_simp; (try with_reducible rfl))); simp only [Act.put, List.setIfInBounds_toArray, List.set_cons_zero, List.set_cons_succ])
                | (refine take_no (i := 30) rfl (by kernel_rfl) (by kernel_rfl) (by kernel_rfl) (fun _ _ _ h => h) (by rfl) (by assumption) ?_; simp only [Act.put, List.setIfInBounds_toArray, List.set_cons_zero, List.set_cons_succ])
              first
                | (refine take_yes (i := 32) (v := ?_) rfl (by kernel_rfl) (by kernel_rfl) (by kernel_rfl) (fun _ _ _ h => h) (by rfl) ?_ (by assumption) ?_; rotate_left 1; (focus (intro w hSw; (try dsimp only at hSw); go_simp; (try with_reducible rfl))); simp only [Act.put, List.setIfInBounds_toArray, List.set_cons_zero, List.set_cons_succ])
                | (refine take_no (i := 32) rfl (by kernel_rfl) (by kernel_rfl) (by kernel_rfl) (fun _ _ _ h => h) (by rfl) (by assumption) ?_; simp only [Act.put, List.setIfInBounds_toArray, List.set_cons_zero, List.set_cons_succ])
              first
                | (refine take_yes (i := 33) (v := ?_) rfl (by kernel_rfl) (by kernel_rfl) (by kernel_rfl) (fun _ _ _ h => h) (by rfl) ?_ (by assumption) ?_; rotate_left 1; (focus (intro w hSw; (try dsimp only at hSw); go_simp; (try with_reducible rfl))); simp only [Act.put, List.setIfInBounds_toArray, List.set_cons_zero, List.set_cons_succ])
                | (refine take_no (i := 33) rfl (by kernel_rfl) (by kernel_rfl) (by kernel_rfl) (fun _ _ _ h => h) (by rfl) (by assumption) ?_; simp only [Act.put, List.setIfInBounds_toArray, List.set_cons_zero, List.set_cons_succ])
              first
                | (refine take_yes (i := 34) (v := ?_) rfl (by kernel_rfl) (by kernel_rfl) (by kernel_rfl) (fun _ _ _ h => h) (by rfl) ?_ (by assumption) ?_; rotate_left 1; (focus (intro w hSw; (try dsimp only at hSw); go_simp; (try with_reducible rfl))); simp only [Act.put, List.setIfInBounds_toArray, List.set_cons_zero, List.set_cons_succ])
                | (refine take_no (i := 34) rfl (by kernel_rfl) (by kernel_rfl) (by kernel_rfl) (fun _ _ _ h => h) (by rfl) (by assumption) ?_; simp only [Act.put, List.setIfInBounds_toArray, List.set_cons_zero, List.set_cons_succ])
              refine one_ready (i := 31) (by kernel_rfl) rfl (by rfl) (fun K hK => ?_)
              go_simp
              go_at_call 17
              refine (impl_Less_c _ _ _ _ _).mono ?_
              rintro e w' ⟨rfl, hb⟩
              rw [HL.out]
              go_simp
              replace hb := nodrew hb
              obtain ⟨hc, hf⟩ := bcell hb
              have e0 := fun o => hc (v0.heap.size) o (by first | (simp; omega) | simp | omega)
              have e1 := fun o => hc (v0.heap.size + 1) o (by first | (simp; omega) | simp | omega)
              have e2 := fun o => hc (v1.heap.size) o (by first | (simp; omega) | simp | omega)
              have e3 := fun o => hc (v4.heap.size) o (by first | (simp; omega) | simp | omega)
              have e4 := fun o => hc (v6.heap.size) o (by first | (simp; omega) | simp | omega)
              have e5 := fun o => hc (v8.heap.size) o (by first | (simp; omega) | simp | omega)
              have e6 := fun o => hc (v9.heap.size) o (by first | (simp; omega) | simp | omega)
              clear hc hf
              refine hK.out _ _ ?_ (fun hHeld2 => ?_)
              · (refine ⟨?_, ?_, ?_, ?_, ?_, ?_, ?_, ?_, ?_, ?_, ?_, ?_, ?_, ?_⟩ <;> go_simp)
              clear hK K hHeld
              (try simp only [Act.put, List.setIfInBounds_toArray, List.set_cons_zero, List.set_cons_succ])
              first
                | (refine take_yes (i := 35) (v := ?_) rfl (by kernel_rfl) (by kernel_rfl) (by kernel_rfl) (fun _ _ _ h => h) (by rfl) ?_ (by assumption) ?_; rotate_left 1; (focus (intro w hSw; (try dsimp only at hSw); go_simp; (try with_reducible rfl))); simp only [Act.put, List.setIfInBounds_toArray, List.set_cons_zero, List.set_cons_succ])
                | (refine take_no (i := 35) rfl (by kernel_rfl) (by kernel_rfl) (by kernel_rfl) (fun _ _ _ h => h) (by rfl) (by assumption) ?_; simp only [Act.put, List.setIfInBounds_toArray, List.set_cons_zero, List.set_cons_succ])
              first
                | (refine take_yes (i := 36) (v := ?_) rfl (by kernel_rfl) (by kernel_rfl) (by kernel_rfl) (fun _ _ _ h => h) (by rfl) ?_ (by assumption) ?_; rotate_left 1; (focus (intro w hSw; (try dsimp only at hSw); go_simp; (try with_reducible rfl))); simp only [Act.put, List.setIfInBounds_toArray, List.set_cons_zero, List.set_cons_succ])
                | (refine take_no (i := 36) rfl (by kernel_rfl) (by kernel_rfl) (by kernel_rfl) (fun _ _ _ h => h) (by rfl) (by assumption) ?_; simp only [Act.put, List.setIfInBounds_toArray, List.set_cons_zero, List.set_cons_succ])
              first
                | (refine take_yes (i := 37) (v := ?_) rfl (by kernel_rfl) (by kernel_rfl) (by kernel_rfl) (fun _ _ _ h => h) (by rfl) ?_ (by assumption) ?_; rotate_left 1; (focus (intro w hSw; (try dsimp only at hSw); go_simp; (try with_reducible rfl))); simp only [Act.put, List.setIfInBounds_toArray, List.set_cons_zero, List.set_cons_succ])
                | (refine take_no (i := 37) rfl (by kernel_rfl) (by kernel_rfl) (by kernel_rfl) (fun _ _ _ h => h) (by rfl) (by assumption) ?_; simp only [Act.put, List.setIfInBounds_toArray, List.set_cons_zero, List.set_cons_succ])
              refine wpAnyH_done (by kernel_rfl) ?_ _
              go_wp2_with fail
              go_ret
              exact ⟨rfl, Below.trans (by repeat (first | exact Hv9.out | (refine Below.alloc ?_ (by first | (simp <;> omega) | omega) _) | (refine Below.setCell ?_ (by first | (simp <;> omega) | omega) _) | (refine below_drewN ?_ _))) (hb.mono (by first | (simp <;> omega) | omega))⟩
    · have hm2 : 1048576 < (len1 : Int) := by omega
      have hm2d : decide ((1048576 : Int) < (len1 : Int)) = true := by simp; omega
      go_enter Try.func4, Try.ntmps4
      go_wp2_with fail
      go_ret
      exact ⟨rfl, Below.refl _ _⟩
  · have hn2 : 1048576 < (len0 : Int) := by omega
    have hn2d : decide ((1048576 : Int) < (len0 : Int)) = true := by simp; omega
    go_enter Try.func4, Try.ntmps4
    go_wp2_with fail
    go_ret
    exact ⟨rfl, Below.refl _ _⟩

set_option maxRecDepth 100000 in
theorem lifted (os : Os) (started : os.Started) (H : Type) (enc : TypeId × Value → H) :
    ReturnsInHanded {} Try.checked os 4 .any (Rows.fnAddFractionsSpec.pre6 enc Try.prog Try.f4 Rows.fnAddFractionsRow.domain false) (Rows.fnAddFractionsSpec.post enc Try.prog Try.f4 false true false false) := by
  refine returnsInHanded_of_change (C := Try.checked) own started (by kernel_rfl) Try.func4
    (ChangeSpec.witness6 (enc := enc) (C := Try.checked) false ⟨#[], #[.slice none 0 0, .slice none 0 0], []⟩ 8 (by kernel_rfl) (by kernel_rfl) (by kernel_rfl) (by kernel_rfl)) ?_
  intro W base args ds gs before hval0 hW hcnd _
  have hval : ∀ (j : Nat) t v, Try.f4.params[j]? = some t → args[j]? = some v → Value.okWide Try.prog W .any base t v := hval0
  have hW' := hW
  obtain ⟨p, q, hA0, hV, rfl, hfz, hnd⟩ := hW
  have hA : DataW.TrodAll enc Try.prog W 0 (fun _ => true) true Try.f4.params.toList args.toList ds p := hA0
  rw [Try.params4] at hA hval
  obtain ⟨v0, vs0, d0, ds0, p0, q0, hargs, rfl, rfl, h0, r0⟩ := trodAll_cons hA
  obtain ⟨v1, vs1, d1, ds1, p1, q1, rfl, rfl, rfl, h1, r1⟩ := trodAll_cons r0
  obtain ⟨rfl, rfl, rfl⟩ := trodAll_nil r1
  obtain rfl : args = #[v0, v1] := by cases args; simp_all
  obtain ⟨rfl, rfl⟩ := trodVars_none hV
  have k0 := h0
  have lt0 : ∀ x ∈ p0, x.block < W.heap.size := by obtain ⟨m, hm⟩ := k0; exact DataW.trod_lt m _ _ _ hm
  obtain ⟨a0, len0, cap0, z0, rfl, w0⟩ := get_row Try.underlying22 Try.underlying5 (by kernel_rfl) (hval 0 22 v0 rfl rfl) h0
  have k1 := h1
  have lt1 : ∀ x ∈ p1, x.block < W.heap.size := by obtain ⟨m, hm⟩ := k1; exact DataW.trod_lt m _ _ _ hm
  obtain ⟨a1, len1, cap1, z1, rfl, w1⟩ := get_row Try.underlying22 Try.underlying5 (by kernel_rfl) (hval 1 22 v1 rfl rfl) h1
  clear hA0 hval0
  refine (walk a0 len0 cap0 z0 a1 len1 cap1 z1 W w0 w1).mono fun e W' ⟨he, bel⟩ => ?_
  subst he
  exact ⟨_, rfl, _, _, _, [], _, [], hW', trodAll_mk1 (shut_bool Try.underlying4 _), (trodAll_cons_mk (Below.trod laidOut (by kernel_rfl) (of_decide_eq_true (by kernel_rfl)) k0 bel lt0) (trodAll_cons_mk (Below.trod laidOut (by kernel_rfl) (of_decide_eq_true (by kernel_rfl)) k1 bel lt1) trodAll_mk0)), rfl, bel.frame _, fun h => by cases h⟩

theorem closed : joinedFacts Try.prog 4 Try.f4 Rows.fnAddFractionsSpec Rows.fnAddFractionsRow = true := by
  rw [joinedFacts.eq_1]
  simp only [Bool.and_eq_true]
  repeat' apply And.intro
  all_goals first | (with_reducible exact fact_enter) | (with_reducible exact laidOut) | (with_reducible exact fact_maps) | (with_reducible exact fact_heard) | (rw [fact_lifts]; try (as_aux_lemma => kernel_rfl)) | (rw [fact_make]; try (as_aux_lemma => kernel_rfl)) | (rw [fact_keys]; try (as_aux_lemma => kernel_rfl)) | (as_aux_lemma => kernel_rfl)

theorem holds : Rows.FnAddFractionsSaid :=
  OpenClaim.holds_of_wide 4 Try.f4 rfl rfl rfl rfl rfl rfl rfl ⟨rfl, rfl, rfl, rfl, rfl⟩ rfl rfl rfl rfl rfl (by kernel_rfl) Try.func4 closed
    (of_decide_eq_true (by kernel_rfl)) (by unfold Func.isWrapper; rw [if_neg (of_decide_eq_false (by kernel_rfl))]; exact ⟨rfl, rfl⟩)
    (fun os started H enc _ => lifted os started H enc)
#print axioms holds
end Go.Proofs.Ytihbfhjfceabnaa.fnAddFractions
