/- FnTimesFractions: for every input that can be read, the law returns true and its arguments read afterwards as before. Conditions: none. -/
import Derived.Test.YtihbfhjfceabnaaMem
import Derived.Test.YtihbfhjfceabnaaSigns
import Derived.Test.YtihbfhjfceabnaaPlainB
import Derived.Test.YtihbfhjfceabnaaWm
import Derived.Test.YtihbfhjfceabnaaWc
import Derived.Test.YtihbfhjfceabnaaWe
import Derived.Test.YtihbfhjfceabnaaWf
import Derived.Test.YtihbfhjfceabnaaWg
import Derived.Test.YtihbfhjfceabnaaWh
import Derived.Test.YtihbfhjfceabnaaWd
import Derived.Test.YtihbfhjfceabnaaWr
import Derived.Test.YtihbfhjfceabnaaWi
import Derived.Test.YtihbfhjfceabnaaWj
import Derived.Test.YtihbfhjfceabnaaWk
import Derived.Test.YtihbfhjfceabnaaWl
import Derived.Test.YtihbfhjfceabnaaWn
import Derived.Deep.RegionHeld3
import Derived.Deep.RegionWith
import Derived.BigGuardPart
import Derived.Deep.DeepCutAuto
namespace Go.Proofs.Ytihbfhjfceabnaa.fnTimesFractions
open Go.ChangeShapes Go.WideShapes Go.ChangeAt Go.RowKit
open Go.ChangeMaps (open_string shut_string)
set_option linter.unusedVariables false

set_option maxHeartbeats 4000000 in
theorem walk (a0 : Option Addr) (len0 cap0 : Nat) (z0 : List Int) (a1 : Option Addr) (len1 cap1 : Nat) (z1 : List Int) (w : World) (w0 : IsRow .u8 w a0 len0 cap0 z0) (w1 : IsRow .u8 w a1 len1 cap1 z1) :
    Calls Try.prog 5 #[.slice a0 len0 cap0, .slice a1 len1 cap1] w fun e w' => e = .returned (.bool true) ∧ Below w.heap.size w w' := by
  by_cases hn : len0 ≤ 1048576
  · have hn2 : (len0 : Int) ≤ 1048576 := by omega
    have hn2d : decide ((1048576 : Int) < (len0 : Int)) = false := by simp; omega
    by_cases hm : len1 ≤ 1048576
    · have hm2 : (len1 : Int) ≤ 1048576 := by omega
      have hm2d : decide ((1048576 : Int) < (len1 : Int)) = false := by simp; omega
      have HW := Lib.hid w0
      have HV := Lib.hid w1
      clear w0 w1
      go_enter Try.func5, Try.ntmps5
      go_wp2_with fail
      refine (DrawTimesFractions_c _ _ _ _ _ HW.out).mono ?_
      rintro e v0 ⟨a, b, c, d, rfl, hbel⟩
      have hwv0 := hbel.size
      have Hv0 := Lib.hid hbel
      clear hbel
      rcases hB : timesB a b c d with _ | _
      · have hX : sel (timesB a b c d) (lowX (a * c) (b * d)) = 0 := by rw [hB]; rfl
        have hY : sel (timesB a b c d) (lowY (a * c) (b * d)) = 0 := by rw [hB]; rfl
        go_wp2_with fail
        refine (impl_Times_c _ _ _ _ _).mono ?_
        rintro e v1 ⟨rfl, hb⟩
        have f0 : v1.cell? ⟨v0.heap.size, 0, none⟩ = some (.int .i64 (a)) := (hb.cell (by show v0.heap.size < _; first | (simp <;> omega) | omega)).trans (by go_simp)
        have f1 : v1.cell? ⟨v0.heap.size, 1, none⟩ = some (.int .i64 (b)) := (hb.cell (by show v0.heap.size < _; first | (simp <;> omega) | omega)).trans (by go_simp)
        have g0 : v1.cell? ⟨v0.heap.size + 1, 0, none⟩ = some (.int .i64 (c)) := (hb.cell (by show v0.heap.size + 1 < _; first | (simp <;> omega) | omega)).trans (by go_simp)
        have g1 : v1.cell? ⟨v0.heap.size + 1, 1, none⟩ = some (.int .i64 (d)) := (hb.cell (by show v0.heap.size + 1 < _; first | (simp <;> omega) | omega)).trans (by go_simp)
        have hA : Below w.heap.size w v1 := by
          refine Below.trans ?_ (hb.mono (by first | (simp <;> omega) | omega))
          repeat (first | exact Hv0.out | (refine Below.alloc ?_ (by first | (simp <;> omega) | omega) _) | (refine Below.setCell ?_ (by first | (simp <;> omega) | omega) _) | (refine below_drewN ?_ _))
        have hzv1 : v0.heap.size ≤ v1.heap.size := by have := hb.size; first | (simp at this; omega) | omega
        have fs : v0.heap.size < v1.heap.size := by have := hb.size; first | (simp at this; omega) | omega
        have gs : v0.heap.size + 1 < v1.heap.size := by have := hb.size; first | (simp at this; omega) | omega
        have hwv1 : w.heap.size ≤ v1.heap.size := hA.size
        have Hv1 := Lib.hid hA
        clear hb hA Hv0
        rw [hX, hY, hB]
        go_wp2_with fail
        refine (spec_Times_c _ _ _ _ _).mono ?_
        rintro e v2 ⟨rfl, hb⟩
        replace f0 : v2.cell? ⟨v0.heap.size, 0, none⟩ = some (.int .i64 (a)) := (hb.cell (by show v0.heap.size < _; first | (simp <;> omega) | omega)).trans (by go_simp)
        replace f1 : v2.cell? ⟨v0.heap.size, 1, none⟩ = some (.int .i64 (b)) := (hb.cell (by show v0.heap.size < _; first | (simp <;> omega) | omega)).trans (by go_simp)
        replace g0 : v2.cell? ⟨v0.heap.size + 1, 0, none⟩ = some (.int .i64 (c)) := (hb.cell (by show v0.heap.size + 1 < _; first | (simp <;> omega) | omega)).trans (by go_simp)
        replace g1 : v2.cell? ⟨v0.heap.size + 1, 1, none⟩ = some (.int .i64 (d)) := (hb.cell (by show v0.heap.size + 1 < _; first | (simp <;> omega) | omega)).trans (by go_simp)
        have s0 : v2.cell? ⟨v1.heap.size, 0, none⟩ = some (.int .i64 (0)) := (hb.cell (by show v1.heap.size < _; first | (simp <;> omega) | omega)).trans (by go_simp)
        have s1 : v2.cell? ⟨v1.heap.size, 1, none⟩ = some (.int .i64 (0)) := (hb.cell (by show v1.heap.size < _; first | (simp <;> omega) | omega)).trans (by go_simp)
        have hA : Below w.heap.size w v2 := by
          refine Below.trans ?_ (hb.mono (by first | (simp <;> omega) | omega))
          repeat (first | exact Hv1.out | (refine Below.alloc ?_ (by first | (simp <;> omega) | omega) _) | (refine Below.setCell ?_ (by first | (simp <;> omega) | omega) _) | (refine below_drewN ?_ _))
        have hzv2 : v1.heap.size ≤ v2.heap.size := by have := hb.size; first | (simp at this; omega) | omega
        replace fs : v0.heap.size < v2.heap.size := by have := hb.size; first | (simp at this; omega) | omega
        replace gs : v0.heap.size + 1 < v2.heap.size := by have := hb.size; first | (simp at this; omega) | omega
        have ss : v1.heap.size < v2.heap.size := by have := hb.size; first | (simp at this; omega) | omega
        have hwv2 : w.heap.size ≤ v2.heap.size := hA.size
        have Hv2 := Lib.hid hA
        clear hb hA Hv1
        rw [hX, hY, hB]
        go_wp2_with fail
        go_ret
        exact ⟨rfl, (by repeat (first | exact Hv2.out | (refine Below.alloc ?_ (by first | (simp <;> omega) | omega) _) | (refine Below.setCell ?_ (by first | (simp <;> omega) | omega) _) | (refine below_drewN ?_ _)))⟩
      · obtain ⟨X, Y, eX, eY, hF, hG, hS, hcr⟩ := times_yes hB
        have hX : sel (timesB a b c d) (lowX (a * c) (b * d)) = X := by rw [hB, eX]; rfl
        have hY : sel (timesB a b c d) (lowY (a * c) (b * d)) = Y := by rw [hB, eY]; rfl
        obtain ⟨m1, m2, m3⟩ := @times_turn a b c d
        have hMX : sel (timesB c d a b) (lowX (c * a) (d * b)) = X := by rw [m1, m2, hX]
        have hMY : sel (timesB c d a b) (lowY (c * a) (d * b)) = Y := by rw [m1, m3, hY]
        have hMB : timesB c d a b = true := by rw [m1, hB]
        have hcp := (fracB_iff.1 hG).1
        clear m1 m2 m3 eX eY
        have HX := Lib.hid hX
        have HY := Lib.hid hY
        have HB := Lib.hid hB
        have HMX := Lib.hid hMX
        have HMY := Lib.hid hMY
        have HMB := Lib.hid hMB
        have HF := Lib.hid hF
        have HG := Lib.hid hG
        have HSS := Lib.hid hS
        have Hcr := Lib.hid hcr
        clear hX hY hB hMX hMY hMB hF hG hS hcr
        go_wp2_with fail
        refine (impl_Times_c _ _ _ _ _).mono ?_
        rintro e v1 ⟨rfl, hb⟩
        have f0 : v1.cell? ⟨v0.heap.size, 0, none⟩ = some (.int .i64 (a)) := (hb.cell (by show v0.heap.size < _; first | (simp <;> omega) | omega)).trans (by go_simp)
        have f1 : v1.cell? ⟨v0.heap.size, 1, none⟩ = some (.int .i64 (b)) := (hb.cell (by show v0.heap.size < _; first | (simp <;> omega) | omega)).trans (by go_simp)
        have g0 : v1.cell? ⟨v0.heap.size + 1, 0, none⟩ = some (.int .i64 (c)) := (hb.cell (by show v0.heap.size + 1 < _; first | (simp <;> omega) | omega)).trans (by go_simp)
        have g1 : v1.cell? ⟨v0.heap.size + 1, 1, none⟩ = some (.int .i64 (d)) := (hb.cell (by show v0.heap.size + 1 < _; first | (simp <;> omega) | omega)).trans (by go_simp)
        have hA : Below w.heap.size w v1 := by
          refine Below.trans ?_ (hb.mono (by first | (simp <;> omega) | omega))
          repeat (first | exact Hv0.out | (refine Below.alloc ?_ (by first | (simp <;> omega) | omega) _) | (refine Below.setCell ?_ (by first | (simp <;> omega) | omega) _) | (refine below_drewN ?_ _))
        have hzv1 : v0.heap.size ≤ v1.heap.size := by have := hb.size; first | (simp at this; omega) | omega
        have fs : v0.heap.size < v1.heap.size := by have := hb.size; first | (simp at this; omega) | omega
        have gs : v0.heap.size + 1 < v1.heap.size := by have := hb.size; first | (simp at this; omega) | omega
        have hwv1 : w.heap.size ≤ v1.heap.size := hA.size
        have Hv1 := Lib.hid hA
        clear hb hA Hv0
        rw [HX.out, HY.out, HB.out]
        go_wp2_with fail
        refine (spec_Times_c _ _ _ _ _).mono ?_
        rintro e v2 ⟨rfl, hb⟩
        replace f0 : v2.cell? ⟨v0.heap.size, 0, none⟩ = some (.int .i64 (a)) := (hb.cell (by show v0.heap.size < _; first | (simp <;> omega) | omega)).trans (by go_simp)
        replace f1 : v2.cell? ⟨v0.heap.size, 1, none⟩ = some (.int .i64 (b)) := (hb.cell (by show v0.heap.size < _; first | (simp <;> omega) | omega)).trans (by go_simp)
        replace g0 : v2.cell? ⟨v0.heap.size + 1, 0, none⟩ = some (.int .i64 (c)) := (hb.cell (by show v0.heap.size + 1 < _; first | (simp <;> omega) | omega)).trans (by go_simp)
        replace g1 : v2.cell? ⟨v0.heap.size + 1, 1, none⟩ = some (.int .i64 (d)) := (hb.cell (by show v0.heap.size + 1 < _; first | (simp <;> omega) | omega)).trans (by go_simp)
        have s0 : v2.cell? ⟨v1.heap.size, 0, none⟩ = some (.int .i64 (X)) := (hb.cell (by show v1.heap.size < _; first | (simp <;> omega) | omega)).trans (by go_simp)
        have s1 : v2.cell? ⟨v1.heap.size, 1, none⟩ = some (.int .i64 (Y)) := (hb.cell (by show v1.heap.size < _; first | (simp <;> omega) | omega)).trans (by go_simp)
        have hA : Below w.heap.size w v2 := by
          refine Below.trans ?_ (hb.mono (by first | (simp <;> omega) | omega))
          repeat (first | exact Hv1.out | (refine Below.alloc ?_ (by first | (simp <;> omega) | omega) _) | (refine Below.setCell ?_ (by first | (simp <;> omega) | omega) _) | (refine below_drewN ?_ _))
        have hzv2 : v1.heap.size ≤ v2.heap.size := by have := hb.size; first | (simp at this; omega) | omega
        replace fs : v0.heap.size < v2.heap.size := by have := hb.size; first | (simp at this; omega) | omega
        replace gs : v0.heap.size + 1 < v2.heap.size := by have := hb.size; first | (simp at this; omega) | omega
        have ss : v1.heap.size < v2.heap.size := by have := hb.size; first | (simp at this; omega) | omega
        have hwv2 : w.heap.size ≤ v2.heap.size := hA.size
        have Hv2 := Lib.hid hA
        clear hb hA Hv1
        rw [HX.out, HY.out, HB.out]
        go_wp2_with fail
        refine (DrawMinusFraction_c _ _ _ _ _ (HV.out.below (by repeat (first | exact Hv2.out | (refine Below.alloc ?_ (by first | (simp <;> omega) | omega) _) | (refine Below.setCell ?_ (by first | (simp <;> omega) | omega) _) | (refine below_drewN ?_ _))))).mono ?_
        rintro e v3 ⟨e, k, rfl, hb⟩
        replace f0 : v3.cell? ⟨v0.heap.size, 0, none⟩ = some (.int .i64 (a)) := (hb.cell (by show v0.heap.size < _; first | (simp <;> omega) | omega)).trans (by go_simp)
        replace f1 : v3.cell? ⟨v0.heap.size, 1, none⟩ = some (.int .i64 (b)) := (hb.cell (by show v0.heap.size < _; first | (simp <;> omega) | omega)).trans (by go_simp)
        replace g0 : v3.cell? ⟨v0.heap.size + 1, 0, none⟩ = some (.int .i64 (c)) := (hb.cell (by show v0.heap.size + 1 < _; first | (simp <;> omega) | omega)).trans (by go_simp)
        replace g1 : v3.cell? ⟨v0.heap.size + 1, 1, none⟩ = some (.int .i64 (d)) := (hb.cell (by show v0.heap.size + 1 < _; first | (simp <;> omega) | omega)).trans (by go_simp)
        replace s0 : v3.cell? ⟨v1.heap.size, 0, none⟩ = some (.int .i64 (X)) := (hb.cell (by show v1.heap.size < _; first | (simp <;> omega) | omega)).trans (by go_simp)
        replace s1 : v3.cell? ⟨v1.heap.size, 1, none⟩ = some (.int .i64 (Y)) := (hb.cell (by show v1.heap.size < _; first | (simp <;> omega) | omega)).trans (by go_simp)
        have wn0 : v3.cell? ⟨v2.heap.size, 0, none⟩ = some (.int .i64 (X)) := (hb.cell (by show v2.heap.size < _; first | (simp <;> omega) | omega)).trans (by go_simp)
        have wn1 : v3.cell? ⟨v2.heap.size, 1, none⟩ = some (.int .i64 (Y)) := (hb.cell (by show v2.heap.size < _; first | (simp <;> omega) | omega)).trans (by go_simp)
        have hA : Below w.heap.size w v3 := by
          refine Below.trans ?_ (hb.mono (by first | (simp <;> omega) | omega))
          repeat (first | exact Hv2.out | (refine Below.alloc ?_ (by first | (simp <;> omega) | omega) _) | (refine Below.setCell ?_ (by first | (simp <;> omega) | omega) _) | (refine below_drewN ?_ _))
        have hzv3 : v2.heap.size ≤ v3.heap.size := by have := hb.size; first | (simp at this; omega) | omega
        replace fs : v0.heap.size < v3.heap.size := by have := hb.size; first | (simp at this; omega) | omega
        replace gs : v0.heap.size + 1 < v3.heap.size := by have := hb.size; first | (simp at this; omega) | omega
        replace ss : v1.heap.size < v3.heap.size := by have := hb.size; first | (simp at this; omega) | omega
        have wns : v2.heap.size < v3.heap.size := by have := hb.size; first | (simp at this; omega) | omega
        have hwv3 : w.heap.size ≤ v3.heap.size := hA.size
        have Hv3 := Lib.hid hA
        clear hb hA Hv2
        obtain ⟨B1, hB1⟩ : ∃ x, addB c d e k = x := ⟨_, rfl⟩
        obtain ⟨S, hS⟩ : ∃ x, sel (addB c d e k) (lowX (c * k + e * d) (d * k)) = x := ⟨_, rfl⟩
        obtain ⟨T, hT⟩ : ∃ x, sel (addB c d e k) (lowY (c * k + e * d) (d * k)) = x := ⟨_, rfl⟩
        obtain ⟨B2, hB2⟩ : ∃ x, timesB a b S T = x := ⟨_, rfl⟩
        obtain ⟨A1, hA1⟩ : ∃ x, sel (timesB a b S T) (lowX (a * S) (b * T)) = x := ⟨_, rfl⟩
        obtain ⟨A2, hA2⟩ : ∃ x, sel (timesB a b S T) (lowY (a * S) (b * T)) = x := ⟨_, rfl⟩
        obtain ⟨B3, hB3⟩ : ∃ x, timesB a b e k = x := ⟨_, rfl⟩
        obtain ⟨P, hP⟩ : ∃ x, sel (timesB a b e k) (lowX (a * e) (b * k)) = x := ⟨_, rfl⟩
        obtain ⟨Q, hQ⟩ : ∃ x, sel (timesB a b e k) (lowY (a * e) (b * k)) = x := ⟨_, rfl⟩
        obtain ⟨B4, hB4⟩ : ∃ x, addB X Y P Q = x := ⟨_, rfl⟩
        obtain ⟨C1, hC1⟩ : ∃ x, sel (addB X Y P Q) (lowX (X * Q + P * Y) (Y * Q)) = x := ⟨_, rfl⟩
        obtain ⟨C2, hC2⟩ : ∃ x, sel (addB X Y P Q) (lowY (X * Q + P * Y) (Y * Q)) = x := ⟨_, rfl⟩
        have hAC : B1 = true → B2 = true → B3 = true → B4 = true → A1 = C1 ∧ A2 = C2 := by
          rintro rfl rfl rfl rfl
          obtain ⟨_, _, q1, q2, _, q3, q4, q5⟩ := add_yes hB1
          rw [hB1, q1] at hS
          rw [hB1, q2] at hT
          rw [sel_true] at hS hT
          subst hS hT
          obtain ⟨_, _, r1, r2, _, r3, r4, r5⟩ := times_yes hB2
          rw [hB2, r1] at hA1
          rw [hB2, r2] at hA2
          obtain ⟨_, _, s1, s2, _, s3, s4, s5⟩ := times_yes hB3
          rw [hB3, s1] at hP
          rw [hB3, s2] at hQ
          rw [sel_true] at hA1 hA2 hP hQ
          subst hA1 hA2 hP hQ
          obtain ⟨_, _, t1, t2, _, t3, t4, t5⟩ := add_yes hB4
          rw [hB4, t1] at hC1
          rw [hB4, t2] at hC2
          rw [sel_true] at hC1 hC2
          subst hC1 hC2
          exact times_dist (frac_pos HF.out) (frac_pos HG.out) (frac_pos q3) (frac_pos HSS.out) (frac_pos q4) (frac_pos s4) Hcr.out q5 r5 s5 t5 r4 t4
        have HB1 := Lib.hid hB1
        have HS := Lib.hid hS
        have HT := Lib.hid hT
        have HA1 := Lib.hid hA1
        have HA2 := Lib.hid hA2
        have HB2 := Lib.hid hB2
        have HP := Lib.hid hP
        have HQ := Lib.hid hQ
        have HB3 := Lib.hid hB3
        have HC1 := Lib.hid hC1
        have HC2 := Lib.hid hC2
        have HB4 := Lib.hid hB4
        have HAC := Lib.hid hAC
        clear hB1 hS hT hA1 hA2 hB2 hP hQ hB3 hC1 hC2 hB4 hAC
        by_cases hc0 : c = 0
        · have hO := @over_no c d X Y hc0
          have hOX : sel (overB X Y c d) (lowX (X * d) (Y * c)) = 0 := by rw [hO]; rfl
          have hOY : sel (overB X Y c d) (lowY (X * d) (Y * c)) = 0 := by rw [hO]; rfl
          have hc0b : (c == 0) = true := by simpa using hc0
          have hc0n : (c != 0) = false := by simpa using hc0
          clear hc0
          have HO := Lib.hid hO
          have HOX := Lib.hid hOX
          have HOY := Lib.hid hOY
          clear hO hOX hOY
          go_wp2_with fail
          refine (impl_Add_c _ _ _ _ _).mono ?_
          rintro e v4 ⟨rfl, hb⟩
          replace f0 : v4.cell? ⟨v0.heap.size, 0, none⟩ = some (.int .i64 (a)) := (hb.cell (by show v0.heap.size < _; first | (simp <;> omega) | omega)).trans (by go_simp)
          replace f1 : v4.cell? ⟨v0.heap.size, 1, none⟩ = some (.int .i64 (b)) := (hb.cell (by show v0.heap.size < _; first | (simp <;> omega) | omega)).trans (by go_simp)
          replace g0 : v4.cell? ⟨v0.heap.size + 1, 0, none⟩ = some (.int .i64 (c)) := (hb.cell (by show v0.heap.size + 1 < _; first | (simp <;> omega) | omega)).trans (by go_simp)
          replace g1 : v4.cell? ⟨v0.heap.size + 1, 1, none⟩ = some (.int .i64 (d)) := (hb.cell (by show v0.heap.size + 1 < _; first | (simp <;> omega) | omega)).trans (by go_simp)
          replace s0 : v4.cell? ⟨v1.heap.size, 0, none⟩ = some (.int .i64 (X)) := (hb.cell (by show v1.heap.size < _; first | (simp <;> omega) | omega)).trans (by go_simp)
          replace s1 : v4.cell? ⟨v1.heap.size, 1, none⟩ = some (.int .i64 (Y)) := (hb.cell (by show v1.heap.size < _; first | (simp <;> omega) | omega)).trans (by go_simp)
          replace wn0 : v4.cell? ⟨v2.heap.size, 0, none⟩ = some (.int .i64 (X)) := (hb.cell (by show v2.heap.size < _; first | (simp <;> omega) | omega)).trans (by go_simp)
          replace wn1 : v4.cell? ⟨v2.heap.size, 1, none⟩ = some (.int .i64 (Y)) := (hb.cell (by show v2.heap.size < _; first | (simp <;> omega) | omega)).trans (by go_simp)
          have h0 : v4.cell? ⟨v3.heap.size, 0, none⟩ = some (.int .i64 (e)) := (hb.cell (by show v3.heap.size < _; first | (simp <;> omega) | omega)).trans (by go_simp)
          have h1 : v4.cell? ⟨v3.heap.size, 1, none⟩ = some (.int .i64 (k)) := (hb.cell (by show v3.heap.size < _; first | (simp <;> omega) | omega)).trans (by go_simp)
          have hA : Below w.heap.size w v4 := by
            refine Below.trans ?_ (hb.mono (by first | (simp <;> omega) | omega))
            repeat (first | exact Hv3.out | (refine Below.alloc ?_ (by first | (simp <;> omega) | omega) _) | (refine Below.setCell ?_ (by first | (simp <;> omega) | omega) _) | (refine below_drewN ?_ _))
          have hzv4 : v3.heap.size ≤ v4.heap.size := by have := hb.size; first | (simp at this; omega) | omega
          replace fs : v0.heap.size < v4.heap.size := by have := hb.size; first | (simp at this; omega) | omega
          replace gs : v0.heap.size + 1 < v4.heap.size := by have := hb.size; first | (simp at this; omega) | omega
          replace ss : v1.heap.size < v4.heap.size := by have := hb.size; first | (simp at this; omega) | omega
          replace wns : v2.heap.size < v4.heap.size := by have := hb.size; first | (simp at this; omega) | omega
          have hs : v3.heap.size < v4.heap.size := by have := hb.size; first | (simp at this; omega) | omega
          have hwv4 : w.heap.size ≤ v4.heap.size := hA.size
          have Hv4 := Lib.hid hA
          clear hb hA Hv3
          rw [HS.out, HT.out, HB1.out]
          go_wp2_with fail
          refine (impl_Times_c _ _ _ _ _).mono ?_
          rintro e v5 ⟨rfl, hb⟩
          replace f0 : v5.cell? ⟨v0.heap.size, 0, none⟩ = some (.int .i64 (a)) := (hb.cell (by show v0.heap.size < _; first | (simp <;> omega) | omega)).trans (by go_simp)
          replace f1 : v5.cell? ⟨v0.heap.size, 1, none⟩ = some (.int .i64 (b)) := (hb.cell (by show v0.heap.size < _; first | (simp <;> omega) | omega)).trans (by go_simp)
          replace g0 : v5.cell? ⟨v0.heap.size + 1, 0, none⟩ = some (.int .i64 (c)) := (hb.cell (by show v0.heap.size + 1 < _; first | (simp <;> omega) | omega)).trans (by go_simp)
          replace g1 : v5.cell? ⟨v0.heap.size + 1, 1, none⟩ = some (.int .i64 (d)) := (hb.cell (by show v0.heap.size + 1 < _; first | (simp <;> omega) | omega)).trans (by go_simp)
          replace s0 : v5.cell? ⟨v1.heap.size, 0, none⟩ = some (.int .i64 (X)) := (hb.cell (by show v1.heap.size < _; first | (simp <;> omega) | omega)).trans (by go_simp)
          replace s1 : v5.cell? ⟨v1.heap.size, 1, none⟩ = some (.int .i64 (Y)) := (hb.cell (by show v1.heap.size < _; first | (simp <;> omega) | omega)).trans (by go_simp)
          replace wn0 : v5.cell? ⟨v2.heap.size, 0, none⟩ = some (.int .i64 (X)) := (hb.cell (by show v2.heap.size < _; first | (simp <;> omega) | omega)).trans (by go_simp)
          replace wn1 : v5.cell? ⟨v2.heap.size, 1, none⟩ = some (.int .i64 (Y)) := (hb.cell (by show v2.heap.size < _; first | (simp <;> omega) | omega)).trans (by go_simp)
          replace h0 : v5.cell? ⟨v3.heap.size, 0, none⟩ = some (.int .i64 (e)) := (hb.cell (by show v3.heap.size < _; first | (simp <;> omega) | omega)).trans (by go_simp)
          replace h1 : v5.cell? ⟨v3.heap.size, 1, none⟩ = some (.int .i64 (k)) := (hb.cell (by show v3.heap.size < _; first | (simp <;> omega) | omega)).trans (by go_simp)
          have rs0 : v5.cell? ⟨v4.heap.size, 0, none⟩ = some (.int .i64 (S)) := (hb.cell (by show v4.heap.size < _; first | (simp <;> omega) | omega)).trans (by go_simp)
          have rs1 : v5.cell? ⟨v4.heap.size, 1, none⟩ = some (.int .i64 (T)) := (hb.cell (by show v4.heap.size < _; first | (simp <;> omega) | omega)).trans (by go_simp)
          have hA : Below w.heap.size w v5 := by
            refine Below.trans ?_ (hb.mono (by first | (simp <;> omega) | omega))
            repeat (first | exact Hv4.out | (refine Below.alloc ?_ (by first | (simp <;> omega) | omega) _) | (refine Below.setCell ?_ (by first | (simp <;> omega) | omega) _) | (refine below_drewN ?_ _))
          have hzv5 : v4.heap.size ≤ v5.heap.size := by have := hb.size; first | (simp at this; omega) | omega
          replace fs : v0.heap.size < v5.heap.size := by have := hb.size; first | (simp at this; omega) | omega
          replace gs : v0.heap.size + 1 < v5.heap.size := by have := hb.size; first | (simp at this; omega) | omega
          replace ss : v1.heap.size < v5.heap.size := by have := hb.size; first | (simp at this; omega) | omega
          replace wns : v2.heap.size < v5.heap.size := by have := hb.size; first | (simp at this; omega) | omega
          replace hs : v3.heap.size < v5.heap.size := by have := hb.size; first | (simp at this; omega) | omega
          have rss : v4.heap.size < v5.heap.size := by have := hb.size; first | (simp at this; omega) | omega
          have hwv5 : w.heap.size ≤ v5.heap.size := hA.size
          have Hv5 := Lib.hid hA
          clear hb hA Hv4
          rw [HA1.out, HA2.out, HB2.out]
          go_wp2_with fail
          refine (impl_Times_c _ _ _ _ _).mono ?_
          rintro e v6 ⟨rfl, hb⟩
          replace f0 : v6.cell? ⟨v0.heap.size, 0, none⟩ = some (.int .i64 (a)) := (hb.cell (by show v0.heap.size < _; first | (simp <;> omega) | omega)).trans (by go_simp)
          replace f1 : v6.cell? ⟨v0.heap.size, 1, none⟩ = some (.int .i64 (b)) := (hb.cell (by show v0.heap.size < _; first | (simp <;> omega) | omega)).trans (by go_simp)
          replace g0 : v6.cell? ⟨v0.heap.size + 1, 0, none⟩ = some (.int .i64 (c)) := (hb.cell (by show v0.heap.size + 1 < _; first | (simp <;> omega) | omega)).trans (by go_simp)
          replace g1 : v6.cell? ⟨v0.heap.size + 1, 1, none⟩ = some (.int .i64 (d)) := (hb.cell (by show v0.heap.size + 1 < _; first | (simp <;> omega) | omega)).trans (by go_simp)
          replace s0 : v6.cell? ⟨v1.heap.size, 0, none⟩ = some (.int .i64 (X)) := (hb.cell (by show v1.heap.size < _; first | (simp <;> omega) | omega)).trans (by go_simp)
          replace s1 : v6.cell? ⟨v1.heap.size, 1, none⟩ = some (.int .i64 (Y)) := (hb.cell (by show v1.heap.size < _; first | (simp <;> omega) | omega)).trans (by go_simp)
          replace wn0 : v6.cell? ⟨v2.heap.size, 0, none⟩ = some (.int .i64 (X)) := (hb.cell (by show v2.heap.size < _; first | (simp <;> omega) | omega)).trans (by go_simp)
          replace wn1 : v6.cell? ⟨v2.heap.size, 1, none⟩ = some (.int .i64 (Y)) := (hb.cell (by show v2.heap.size < _; first | (simp <;> omega) | omega)).trans (by go_simp)
          replace h0 : v6.cell? ⟨v3.heap.size, 0, none⟩ = some (.int .i64 (e)) := (hb.cell (by show v3.heap.size < _; first | (simp <;> omega) | omega)).trans (by go_simp)
          replace h1 : v6.cell? ⟨v3.heap.size, 1, none⟩ = some (.int .i64 (k)) := (hb.cell (by show v3.heap.size < _; first | (simp <;> omega) | omega)).trans (by go_simp)
          replace rs0 : v6.cell? ⟨v4.heap.size, 0, none⟩ = some (.int .i64 (S)) := (hb.cell (by show v4.heap.size < _; first | (simp <;> omega) | omega)).trans (by go_simp)
          replace rs1 : v6.cell? ⟨v4.heap.size, 1, none⟩ = some (.int .i64 (T)) := (hb.cell (by show v4.heap.size < _; first | (simp <;> omega) | omega)).trans (by go_simp)
          have ra0 : v6.cell? ⟨v5.heap.size, 0, none⟩ = some (.int .i64 (A1)) := (hb.cell (by show v5.heap.size < _; first | (simp <;> omega) | omega)).trans (by go_simp)
          have ra1 : v6.cell? ⟨v5.heap.size, 1, none⟩ = some (.int .i64 (A2)) := (hb.cell (by show v5.heap.size < _; first | (simp <;> omega) | omega)).trans (by go_simp)
          have hA : Below w.heap.size w v6 := by
            refine Below.trans ?_ (hb.mono (by first | (simp <;> omega) | omega))
            repeat (first | exact Hv5.out | (refine Below.alloc ?_ (by first | (simp <;> omega) | omega) _) | (refine Below.setCell ?_ (by first | (simp <;> omega) | omega) _) | (refine below_drewN ?_ _))
          have hzv6 : v5.heap.size ≤ v6.heap.size := by have := hb.size; first | (simp at this; omega) | omega
          replace fs : v0.heap.size < v6.heap.size := by have := hb.size; first | (simp at this; omega) | omega
          replace gs : v0.heap.size + 1 < v6.heap.size := by have := hb.size; first | (simp at this; omega) | omega
          replace ss : v1.heap.size < v6.heap.size := by have := hb.size; first | (simp at this; omega) | omega
          replace wns : v2.heap.size < v6.heap.size := by have := hb.size; first | (simp at this; omega) | omega
          replace hs : v3.heap.size < v6.heap.size := by have := hb.size; first | (simp at this; omega) | omega
          replace rss : v4.heap.size < v6.heap.size := by have := hb.size; first | (simp at this; omega) | omega
          have ras : v5.heap.size < v6.heap.size := by have := hb.size; first | (simp at this; omega) | omega
          have hwv6 : w.heap.size ≤ v6.heap.size := hA.size
          have Hv6 := Lib.hid hA
          clear hb hA Hv5
          rw [HP.out, HQ.out, HB3.out]
          go_wp2_with fail
          refine (impl_Add_c _ _ _ _ _).mono ?_
          rintro e v7 ⟨rfl, hb⟩
          replace f0 : v7.cell? ⟨v0.heap.size, 0, none⟩ = some (.int .i64 (a)) := (hb.cell (by show v0.heap.size < _; first | (simp <;> omega) | omega)).trans (by go_simp)
          replace f1 : v7.cell? ⟨v0.heap.size, 1, none⟩ = some (.int .i64 (b)) := (hb.cell (by show v0.heap.size < _; first | (simp <;> omega) | omega)).trans (by go_simp)
          replace g0 : v7.cell? ⟨v0.heap.size + 1, 0, none⟩ = some (.int .i64 (c)) := (hb.cell (by show v0.heap.size + 1 < _; first | (simp <;> omega) | omega)).trans (by go_simp)
          replace g1 : v7.cell? ⟨v0.heap.size + 1, 1, none⟩ = some (.int .i64 (d)) := (hb.cell (by show v0.heap.size + 1 < _; first | (simp <;> omega) | omega)).trans (by go_simp)
          replace s0 : v7.cell? ⟨v1.heap.size, 0, none⟩ = some (.int .i64 (X)) := (hb.cell (by show v1.heap.size < _; first | (simp <;> omega) | omega)).trans (by go_simp)
          replace s1 : v7.cell? ⟨v1.heap.size, 1, none⟩ = some (.int .i64 (Y)) := (hb.cell (by show v1.heap.size < _; first | (simp <;> omega) | omega)).trans (by go_simp)
          replace wn0 : v7.cell? ⟨v2.heap.size, 0, none⟩ = some (.int .i64 (X)) := (hb.cell (by show v2.heap.size < _; first | (simp <;> omega) | omega)).trans (by go_simp)
          replace wn1 : v7.cell? ⟨v2.heap.size, 1, none⟩ = some (.int .i64 (Y)) := (hb.cell (by show v2.heap.size < _; first | (simp <;> omega) | omega)).trans (by go_simp)
          replace h0 : v7.cell? ⟨v3.heap.size, 0, none⟩ = some (.int .i64 (e)) := (hb.cell (by show v3.heap.size < _; first | (simp <;> omega) | omega)).trans (by go_simp)
          replace h1 : v7.cell? ⟨v3.heap.size, 1, none⟩ = some (.int .i64 (k)) := (hb.cell (by show v3.heap.size < _; first | (simp <;> omega) | omega)).trans (by go_simp)
          replace rs0 : v7.cell? ⟨v4.heap.size, 0, none⟩ = some (.int .i64 (S)) := (hb.cell (by show v4.heap.size < _; first | (simp <;> omega) | omega)).trans (by go_simp)
          replace rs1 : v7.cell? ⟨v4.heap.size, 1, none⟩ = some (.int .i64 (T)) := (hb.cell (by show v4.heap.size < _; first | (simp <;> omega) | omega)).trans (by go_simp)
          replace ra0 : v7.cell? ⟨v5.heap.size, 0, none⟩ = some (.int .i64 (A1)) := (hb.cell (by show v5.heap.size < _; first | (simp <;> omega) | omega)).trans (by go_simp)
          replace ra1 : v7.cell? ⟨v5.heap.size, 1, none⟩ = some (.int .i64 (A2)) := (hb.cell (by show v5.heap.size < _; first | (simp <;> omega) | omega)).trans (by go_simp)
          have rb0 : v7.cell? ⟨v6.heap.size, 0, none⟩ = some (.int .i64 (P)) := (hb.cell (by show v6.heap.size < _; first | (simp <;> omega) | omega)).trans (by go_simp)
          have rb1 : v7.cell? ⟨v6.heap.size, 1, none⟩ = some (.int .i64 (Q)) := (hb.cell (by show v6.heap.size < _; first | (simp <;> omega) | omega)).trans (by go_simp)
          have hA : Below w.heap.size w v7 := by
            refine Below.trans ?_ (hb.mono (by first | (simp <;> omega) | omega))
            repeat (first | exact Hv6.out | (refine Below.alloc ?_ (by first | (simp <;> omega) | omega) _) | (refine Below.setCell ?_ (by first | (simp <;> omega) | omega) _) | (refine below_drewN ?_ _))
          have hzv7 : v6.heap.size ≤ v7.heap.size := by have := hb.size; first | (simp at this; omega) | omega
          replace fs : v0.heap.size < v7.heap.size := by have := hb.size; first | (simp at this; omega) | omega
          replace gs : v0.heap.size + 1 < v7.heap.size := by have := hb.size; first | (simp at this; omega) | omega
          replace ss : v1.heap.size < v7.heap.size := by have := hb.size; first | (simp at this; omega) | omega
          replace wns : v2.heap.size < v7.heap.size := by have := hb.size; first | (simp at this; omega) | omega
          replace hs : v3.heap.size < v7.heap.size := by have := hb.size; first | (simp at this; omega) | omega
          replace rss : v4.heap.size < v7.heap.size := by have := hb.size; first | (simp at this; omega) | omega
          replace ras : v5.heap.size < v7.heap.size := by have := hb.size; first | (simp at this; omega) | omega
          have rbs : v6.heap.size < v7.heap.size := by have := hb.size; first | (simp at this; omega) | omega
          have hwv7 : w.heap.size ≤ v7.heap.size := hA.size
          have Hv7 := Lib.hid hA
          clear hb hA Hv6
          rw [HC1.out, HC2.out, HB4.out]
          go_wp2_with fail
          refine (impl_Over_c _ _ _ _ _).mono ?_
          rintro e v8 ⟨rfl, hb⟩
          replace f0 : v8.cell? ⟨v0.heap.size, 0, none⟩ = some (.int .i64 (a)) := (hb.cell (by show v0.heap.size < _; first | (simp <;> omega) | omega)).trans (by go_simp)
          replace f1 : v8.cell? ⟨v0.heap.size, 1, none⟩ = some (.int .i64 (b)) := (hb.cell (by show v0.heap.size < _; first | (simp <;> omega) | omega)).trans (by go_simp)
          replace g0 : v8.cell? ⟨v0.heap.size + 1, 0, none⟩ = some (.int .i64 (c)) := (hb.cell (by show v0.heap.size + 1 < _; first | (simp <;> omega) | omega)).trans (by go_simp)
          replace g1 : v8.cell? ⟨v0.heap.size + 1, 1, none⟩ = some (.int .i64 (d)) := (hb.cell (by show v0.heap.size + 1 < _; first | (simp <;> omega) | omega)).trans (by go_simp)
          replace s0 : v8.cell? ⟨v1.heap.size, 0, none⟩ = some (.int .i64 (X)) := (hb.cell (by show v1.heap.size < _; first | (simp <;> omega) | omega)).trans (by go_simp)
          replace s1 : v8.cell? ⟨v1.heap.size, 1, none⟩ = some (.int .i64 (Y)) := (hb.cell (by show v1.heap.size < _; first | (simp <;> omega) | omega)).trans (by go_simp)
          replace wn0 : v8.cell? ⟨v2.heap.size, 0, none⟩ = some (.int .i64 (X)) := (hb.cell (by show v2.heap.size < _; first | (simp <;> omega) | omega)).trans (by go_simp)
          replace wn1 : v8.cell? ⟨v2.heap.size, 1, none⟩ = some (.int .i64 (Y)) := (hb.cell (by show v2.heap.size < _; first | (simp <;> omega) | omega)).trans (by go_simp)
          replace h0 : v8.cell? ⟨v3.heap.size, 0, none⟩ = some (.int .i64 (e)) := (hb.cell (by show v3.heap.size < _; first | (simp <;> omega) | omega)).trans (by go_simp)
          replace h1 : v8.cell? ⟨v3.heap.size, 1, none⟩ = some (.int .i64 (k)) := (hb.cell (by show v3.heap.size < _; first | (simp <;> omega) | omega)).trans (by go_simp)
          replace rs0 : v8.cell? ⟨v4.heap.size, 0, none⟩ = some (.int .i64 (S)) := (hb.cell (by show v4.heap.size < _; first | (simp <;> omega) | omega)).trans (by go_simp)
          replace rs1 : v8.cell? ⟨v4.heap.size, 1, none⟩ = some (.int .i64 (T)) := (hb.cell (by show v4.heap.size < _; first | (simp <;> omega) | omega)).trans (by go_simp)
          replace ra0 : v8.cell? ⟨v5.heap.size, 0, none⟩ = some (.int .i64 (A1)) := (hb.cell (by show v5.heap.size < _; first | (simp <;> omega) | omega)).trans (by go_simp)
          replace ra1 : v8.cell? ⟨v5.heap.size, 1, none⟩ = some (.int .i64 (A2)) := (hb.cell (by show v5.heap.size < _; first | (simp <;> omega) | omega)).trans (by go_simp)
          replace rb0 : v8.cell? ⟨v6.heap.size, 0, none⟩ = some (.int .i64 (P)) := (hb.cell (by show v6.heap.size < _; first | (simp <;> omega) | omega)).trans (by go_simp)
          replace rb1 : v8.cell? ⟨v6.heap.size, 1, none⟩ = some (.int .i64 (Q)) := (hb.cell (by show v6.heap.size < _; first | (simp <;> omega) | omega)).trans (by go_simp)
          have rc0 : v8.cell? ⟨v7.heap.size, 0, none⟩ = some (.int .i64 (C1)) := (hb.cell (by show v7.heap.size < _; first | (simp <;> omega) | omega)).trans (by go_simp)
          have rc1 : v8.cell? ⟨v7.heap.size, 1, none⟩ = some (.int .i64 (C2)) := (hb.cell (by show v7.heap.size < _; first | (simp <;> omega) | omega)).trans (by go_simp)
          have hA : Below w.heap.size w v8 := by
            refine Below.trans ?_ (hb.mono (by first | (simp <;> omega) | omega))
            repeat (first | exact Hv7.out | (refine Below.alloc ?_ (by first | (simp <;> omega) | omega) _) | (refine Below.setCell ?_ (by first | (simp <;> omega) | omega) _) | (refine below_drewN ?_ _))
          have hzv8 : v7.heap.size ≤ v8.heap.size := by have := hb.size; first | (simp at this; omega) | omega
          replace fs : v0.heap.size < v8.heap.size := by have := hb.size; first | (simp at this; omega) | omega
          replace gs : v0.heap.size + 1 < v8.heap.size := by have := hb.size; first | (simp at this; omega) | omega
          replace ss : v1.heap.size < v8.heap.size := by have := hb.size; first | (simp at this; omega) | omega
          replace wns : v2.heap.size < v8.heap.size := by have := hb.size; first | (simp at this; omega) | omega
          replace hs : v3.heap.size < v8.heap.size := by have := hb.size; first | (simp at this; omega) | omega
          replace rss : v4.heap.size < v8.heap.size := by have := hb.size; first | (simp at this; omega) | omega
          replace ras : v5.heap.size < v8.heap.size := by have := hb.size; first | (simp at this; omega) | omega
          replace rbs : v6.heap.size < v8.heap.size := by have := hb.size; first | (simp at this; omega) | omega
          have rcs : v7.heap.size < v8.heap.size := by have := hb.size; first | (simp at this; omega) | omega
          have hwv8 : w.heap.size ≤ v8.heap.size := hA.size
          have Hv8 := Lib.hid hA
          clear hb hA Hv7
          rw [HOX.out, HOY.out, HO.out]
          go_wp2_with fail
          refine (impl_Times_c _ _ _ _ _).mono ?_
          rintro e v9 ⟨rfl, hb⟩
          replace f0 : v9.cell? ⟨v0.heap.size, 0, none⟩ = some (.int .i64 (a)) := (hb.cell (by show v0.heap.size < _; first | (simp <;> omega) | omega)).trans (by go_simp)
          replace f1 : v9.cell? ⟨v0.heap.size, 1, none⟩ = some (.int .i64 (b)) := (hb.cell (by show v0.heap.size < _; first | (simp <;> omega) | omega)).trans (by go_simp)
          replace g0 : v9.cell? ⟨v0.heap.size + 1, 0, none⟩ = some (.int .i64 (c)) := (hb.cell (by show v0.heap.size + 1 < _; first | (simp <;> omega) | omega)).trans (by go_simp)
          replace g1 : v9.cell? ⟨v0.heap.size + 1, 1, none⟩ = some (.int .i64 (d)) := (hb.cell (by show v0.heap.size + 1 < _; first | (simp <;> omega) | omega)).trans (by go_simp)
          replace s0 : v9.cell? ⟨v1.heap.size, 0, none⟩ = some (.int .i64 (X)) := (hb.cell (by show v1.heap.size < _; first | (simp <;> omega) | omega)).trans (by go_simp)
          replace s1 : v9.cell? ⟨v1.heap.size, 1, none⟩ = some (.int .i64 (Y)) := (hb.cell (by show v1.heap.size < _; first | (simp <;> omega) | omega)).trans (by go_simp)
          replace wn0 : v9.cell? ⟨v2.heap.size, 0, none⟩ = some (.int .i64 (X)) := (hb.cell (by show v2.heap.size < _; first | (simp <;> omega) | omega)).trans (by go_simp)
          replace wn1 : v9.cell? ⟨v2.heap.size, 1, none⟩ = some (.int .i64 (Y)) := (hb.cell (by show v2.heap.size < _; first | (simp <;> omega) | omega)).trans (by go_simp)
          replace h0 : v9.cell? ⟨v3.heap.size, 0, none⟩ = some (.int .i64 (e)) := (hb.cell (by show v3.heap.size < _; first | (simp <;> omega) | omega)).trans (by go_simp)
          replace h1 : v9.cell? ⟨v3.heap.size, 1, none⟩ = some (.int .i64 (k)) := (hb.cell (by show v3.heap.size < _; first | (simp <;> omega) | omega)).trans (by go_simp)
          replace rs0 : v9.cell? ⟨v4.heap.size, 0, none⟩ = some (.int .i64 (S)) := (hb.cell (by show v4.heap.size < _; first | (simp <;> omega) | omega)).trans (by go_simp)
          replace rs1 : v9.cell? ⟨v4.heap.size, 1, none⟩ = some (.int .i64 (T)) := (hb.cell (by show v4.heap.size < _; first | (simp <;> omega) | omega)).trans (by go_simp)
          replace ra0 : v9.cell? ⟨v5.heap.size, 0, none⟩ = some (.int .i64 (A1)) := (hb.cell (by show v5.heap.size < _; first | (simp <;> omega) | omega)).trans (by go_simp)
          replace ra1 : v9.cell? ⟨v5.heap.size, 1, none⟩ = some (.int .i64 (A2)) := (hb.cell (by show v5.heap.size < _; first | (simp <;> omega) | omega)).trans (by go_simp)
          replace rb0 : v9.cell? ⟨v6.heap.size, 0, none⟩ = some (.int .i64 (P)) := (hb.cell (by show v6.heap.size < _; first | (simp <;> omega) | omega)).trans (by go_simp)
          replace rb1 : v9.cell? ⟨v6.heap.size, 1, none⟩ = some (.int .i64 (Q)) := (hb.cell (by show v6.heap.size < _; first | (simp <;> omega) | omega)).trans (by go_simp)
          replace rc0 : v9.cell? ⟨v7.heap.size, 0, none⟩ = some (.int .i64 (C1)) := (hb.cell (by show v7.heap.size < _; first | (simp <;> omega) | omega)).trans (by go_simp)
          replace rc1 : v9.cell? ⟨v7.heap.size, 1, none⟩ = some (.int .i64 (C2)) := (hb.cell (by show v7.heap.size < _; first | (simp <;> omega) | omega)).trans (by go_simp)
          have bk0 : v9.cell? ⟨v8.heap.size, 0, none⟩ = some (.int .i64 (0)) := (hb.cell (by show v8.heap.size < _; first | (simp <;> omega) | omega)).trans (by go_simp)
          have bk1 : v9.cell? ⟨v8.heap.size, 1, none⟩ = some (.int .i64 (0)) := (hb.cell (by show v8.heap.size < _; first | (simp <;> omega) | omega)).trans (by go_simp)
          have hA : Below w.heap.size w v9 := by
            refine Below.trans ?_ (hb.mono (by first | (simp <;> omega) | omega))
            repeat (first | exact Hv8.out | (refine Below.alloc ?_ (by first | (simp <;> omega) | omega) _) | (refine Below.setCell ?_ (by first | (simp <;> omega) | omega) _) | (refine below_drewN ?_ _))
          have hzv9 : v8.heap.size ≤ v9.heap.size := by have := hb.size; first | (simp at this; omega) | omega
          replace fs : v0.heap.size < v9.heap.size := by have := hb.size; first | (simp at this; omega) | omega
          replace gs : v0.heap.size + 1 < v9.heap.size := by have := hb.size; first | (simp at this; omega) | omega
          replace ss : v1.heap.size < v9.heap.size := by have := hb.size; first | (simp at this; omega) | omega
          replace wns : v2.heap.size < v9.heap.size := by have := hb.size; first | (simp at this; omega) | omega
          replace hs : v3.heap.size < v9.heap.size := by have := hb.size; first | (simp at this; omega) | omega
          replace rss : v4.heap.size < v9.heap.size := by have := hb.size; first | (simp at this; omega) | omega
          replace ras : v5.heap.size < v9.heap.size := by have := hb.size; first | (simp at this; omega) | omega
          replace rbs : v6.heap.size < v9.heap.size := by have := hb.size; first | (simp at this; omega) | omega
          replace rcs : v7.heap.size < v9.heap.size := by have := hb.size; first | (simp at this; omega) | omega
          have bks : v8.heap.size < v9.heap.size := by have := hb.size; first | (simp at this; omega) | omega
          have hwv9 : w.heap.size ≤ v9.heap.size := hA.size
          have Hv9 := Lib.hid hA
          clear hb hA Hv8
          rw [HMX.out, HMY.out, HMB.out]
          rcases B1 with _ | _ <;> rcases B2 with _ | _ <;> rcases B3 with _ | _ <;> rcases B4 with _ | _
          all_goals
            (try (obtain ⟨rfl, rfl⟩ := HAC.out rfl rfl rfl rfl))
            go_wp2_with fail
            go_ret
            exact ⟨rfl, (by repeat (first | exact Hv9.out | (refine Below.alloc ?_ (by first | (simp <;> omega) | omega) _) | (refine Below.setCell ?_ (by first | (simp <;> omega) | omega) _) | (refine below_drewN ?_ _)))⟩
        · obtain ⟨hO, o1, o2⟩ := over_back HF.out HG.out HSS.out Hcr.out hc0
          have hOX : sel (overB X Y c d) (lowX (X * d) (Y * c)) = a := by rw [hO, o1]; rfl
          have hOY : sel (overB X Y c d) (lowY (X * d) (Y * c)) = b := by rw [hO, o2]; rfl
          have hc0b : (c == 0) = false := by simpa using hc0
          have hc0n : (c != 0) = true := by simpa using hc0
          clear o1 o2 hc0
          have HO := Lib.hid hO
          have HOX := Lib.hid hOX
          have HOY := Lib.hid hOY
          clear hO hOX hOY
          go_wp2_with fail
          refine (impl_Add_c _ _ _ _ _).mono ?_
          rintro e v4 ⟨rfl, hb⟩
          replace f0 : v4.cell? ⟨v0.heap.size, 0, none⟩ = some (.int .i64 (a)) := (hb.cell (by show v0.heap.size < _; first | (simp <;> omega) | omega)).trans (by go_simp)
          replace f1 : v4.cell? ⟨v0.heap.size, 1, none⟩ = some (.int .i64 (b)) := (hb.cell (by show v0.heap.size < _; first | (simp <;> omega) | omega)).trans (by go_simp)
          replace g0 : v4.cell? ⟨v0.heap.size + 1, 0, none⟩ = some (.int .i64 (c)) := (hb.cell (by show v0.heap.size + 1 < _; first | (simp <;> omega) | omega)).trans (by go_simp)
          replace g1 : v4.cell? ⟨v0.heap.size + 1, 1, none⟩ = some (.int .i64 (d)) := (hb.cell (by show v0.heap.size + 1 < _; first | (simp <;> omega) | omega)).trans (by go_simp)
          replace s0 : v4.cell? ⟨v1.heap.size, 0, none⟩ = some (.int .i64 (X)) := (hb.cell (by show v1.heap.size < _; first | (simp <;> omega) | omega)).trans (by go_simp)
          replace s1 : v4.cell? ⟨v1.heap.size, 1, none⟩ = some (.int .i64 (Y)) := (hb.cell (by show v1.heap.size < _; first | (simp <;> omega) | omega)).trans (by go_simp)
          replace wn0 : v4.cell? ⟨v2.heap.size, 0, none⟩ = some (.int .i64 (X)) := (hb.cell (by show v2.heap.size < _; first | (simp <;> omega) | omega)).trans (by go_simp)
          replace wn1 : v4.cell? ⟨v2.heap.size, 1, none⟩ = some (.int .i64 (Y)) := (hb.cell (by show v2.heap.size < _; first | (simp <;> omega) | omega)).trans (by go_simp)
          have h0 : v4.cell? ⟨v3.heap.size, 0, none⟩ = some (.int .i64 (e)) := (hb.cell (by show v3.heap.size < _; first | (simp <;> omega) | omega)).trans (by go_simp)
          have h1 : v4.cell? ⟨v3.heap.size, 1, none⟩ = some (.int .i64 (k)) := (hb.cell (by show v3.heap.size < _; first | (simp <;> omega) | omega)).trans (by go_simp)
          have hA : Below w.heap.size w v4 := by
            refine Below.trans ?_ (hb.mono (by first | (simp <;> omega) | omega))
            repeat (first | exact Hv3.out | (refine Below.alloc ?_ (by first | (simp <;> omega) | omega) _) | (refine Below.setCell ?_ (by first | (simp <;> omega) | omega) _) | (refine below_drewN ?_ _))
          have hzv4 : v3.heap.size ≤ v4.heap.size := by have := hb.size; first | (simp at this; omega) | omega
          replace fs : v0.heap.size < v4.heap.size := by have := hb.size; first | (simp at this; omega) | omega
          replace gs : v0.heap.size + 1 < v4.heap.size := by have := hb.size; first | (simp at this; omega) | omega
          replace ss : v1.heap.size < v4.heap.size := by have := hb.size; first | (simp at this; omega) | omega
          replace wns : v2.heap.size < v4.heap.size := by have := hb.size; first | (simp at this; omega) | omega
          have hs : v3.heap.size < v4.heap.size := by have := hb.size; first | (simp at this; omega) | omega
          have hwv4 : w.heap.size ≤ v4.heap.size := hA.size
          have Hv4 := Lib.hid hA
          clear hb hA Hv3
          rw [HS.out, HT.out, HB1.out]
          go_wp2_with fail
          refine (impl_Times_c _ _ _ _ _).mono ?_
          rintro e v5 ⟨rfl, hb⟩
          replace f0 : v5.cell? ⟨v0.heap.size, 0, none⟩ = some (.int .i64 (a)) := (hb.cell (by show v0.heap.size < _; first | (simp <;> omega) | omega)).trans (by go_simp)
          replace f1 : v5.cell? ⟨v0.heap.size, 1, none⟩ = some (.int .i64 (b)) := (hb.cell (by show v0.heap.size < _; first | (simp <;> omega) | omega)).trans (by go_simp)
          replace g0 : v5.cell? ⟨v0.heap.size + 1, 0, none⟩ = some (.int .i64 (c)) := (hb.cell (by show v0.heap.size + 1 < _; first | (simp <;> omega) | omega)).trans (by go_simp)
          replace g1 : v5.cell? ⟨v0.heap.size + 1, 1, none⟩ = some (.int .i64 (d)) := (hb.cell (by show v0.heap.size + 1 < _; first | (simp <;> omega) | omega)).trans (by go_simp)
          replace s0 : v5.cell? ⟨v1.heap.size, 0, none⟩ = some (.int .i64 (X)) := (hb.cell (by show v1.heap.size < _; first | (simp <;> omega) | omega)).trans (by go_simp)
          replace s1 : v5.cell? ⟨v1.heap.size, 1, none⟩ = some (.int .i64 (Y)) := (hb.cell (by show v1.heap.size < _; first | (simp <;> omega) | omega)).trans (by go_simp)
          replace wn0 : v5.cell? ⟨v2.heap.size, 0, none⟩ = some (.int .i64 (X)) := (hb.cell (by show v2.heap.size < _; first | (simp <;> omega) | omega)).trans (by go_simp)
          replace wn1 : v5.cell? ⟨v2.heap.size, 1, none⟩ = some (.int .i64 (Y)) := (hb.cell (by show v2.heap.size < _; first | (simp <;> omega) | omega)).trans (by go_simp)
          replace h0 : v5.cell? ⟨v3.heap.size, 0, none⟩ = some (.int .i64 (e)) := (hb.cell (by show v3.heap.size < _; first | (simp <;> omega) | omega)).trans (by go_simp)
          replace h1 : v5.cell? ⟨v3.heap.size, 1, none⟩ = some (.int .i64 (k)) := (hb.cell (by show v3.heap.size < _; first | (simp <;> omega) | omega)).trans (by go_simp)
          have rs0 : v5.cell? ⟨v4.heap.size, 0, none⟩ = some (.int .i64 (S)) := (hb.cell (by show v4.heap.size < _; first | (simp <;> omega) | omega)).trans (by go_simp)
          have rs1 : v5.cell? ⟨v4.heap.size, 1, none⟩ = some (.int .i64 (T)) := (hb.cell (by show v4.heap.size < _; first | (simp <;> omega) | omega)).trans (by go_simp)
          have hA : Below w.heap.size w v5 := by
            refine Below.trans ?_ (hb.mono (by first | (simp <;> omega) | omega))
            repeat (first | exact Hv4.out | (refine Below.alloc ?_ (by first | (simp <;> omega) | omega) _) | (refine Below.setCell ?_ (by first | (simp <;> omega) | omega) _) | (refine below_drewN ?_ _))
          have hzv5 : v4.heap.size ≤ v5.heap.size := by have := hb.size; first | (simp at this; omega) | omega
          replace fs : v0.heap.size < v5.heap.size := by have := hb.size; first | (simp at this; omega) | omega
          replace gs : v0.heap.size + 1 < v5.heap.size := by have := hb.size; first | (simp at this; omega) | omega
          replace ss : v1.heap.size < v5.heap.size := by have := hb.size; first | (simp at this; omega) | omega
          replace wns : v2.heap.size < v5.heap.size := by have := hb.size; first | (simp at this; omega) | omega
          replace hs : v3.heap.size < v5.heap.size := by have := hb.size; first | (simp at this; omega) | omega
          have rss : v4.heap.size < v5.heap.size := by have := hb.size; first | (simp at this; omega) | omega
          have hwv5 : w.heap.size ≤ v5.heap.size := hA.size
          have Hv5 := Lib.hid hA
          clear hb hA Hv4
          rw [HA1.out, HA2.out, HB2.out]
          go_wp2_with fail
          refine (impl_Times_c _ _ _ _ _).mono ?_
          rintro e v6 ⟨rfl, hb⟩
          replace f0 : v6.cell? ⟨v0.heap.size, 0, none⟩ = some (.int .i64 (a)) := (hb.cell (by show v0.heap.size < _; first | (simp <;> omega) | omega)).trans (by go_simp)
          replace f1 : v6.cell? ⟨v0.heap.size, 1, none⟩ = some (.int .i64 (b)) := (hb.cell (by show v0.heap.size < _; first | (simp <;> omega) | omega)).trans (by go_simp)
          replace g0 : v6.cell? ⟨v0.heap.size + 1, 0, none⟩ = some (.int .i64 (c)) := (hb.cell (by show v0.heap.size + 1 < _; first | (simp <;> omega) | omega)).trans (by go_simp)
          replace g1 : v6.cell? ⟨v0.heap.size + 1, 1, none⟩ = some (.int .i64 (d)) := (hb.cell (by show v0.heap.size + 1 < _; first | (simp <;> omega) | omega)).trans (by go_simp)
          replace s0 : v6.cell? ⟨v1.heap.size, 0, none⟩ = some (.int .i64 (X)) := (hb.cell (by show v1.heap.size < _; first | (simp <;> omega) | omega)).trans (by go_simp)
          replace s1 : v6.cell? ⟨v1.heap.size, 1, none⟩ = some (.int .i64 (Y)) := (hb.cell (by show v1.heap.size < _; first | (simp <;> omega) | omega)).trans (by go_simp)
          replace wn0 : v6.cell? ⟨v2.heap.size, 0, none⟩ = some (.int .i64 (X)) := (hb.cell (by show v2.heap.size < _; first | (simp <;> omega) | omega)).trans (by go_simp)
          replace wn1 : v6.cell? ⟨v2.heap.size, 1, none⟩ = some (.int .i64 (Y)) := (hb.cell (by show v2.heap.size < _; first | (simp <;> omega) | omega)).trans (by go_simp)
          replace h0 : v6.cell? ⟨v3.heap.size, 0, none⟩ = some (.int .i64 (e)) := (hb.cell (by show v3.heap.size < _; first | (simp <;> omega) | omega)).trans (by go_simp)
          replace h1 : v6.cell? ⟨v3.heap.size, 1, none⟩ = some (.int .i64 (k)) := (hb.cell (by show v3.heap.size < _; first | (simp <;> omega) | omega)).trans (by go_simp)
          replace rs0 : v6.cell? ⟨v4.heap.size, 0, none⟩ = some (.int .i64 (S)) := (hb.cell (by show v4.heap.size < _; first | (simp <;> omega) | omega)).trans (by go_simp)
          replace rs1 : v6.cell? ⟨v4.heap.size, 1, none⟩ = some (.int .i64 (T)) := (hb.cell (by show v4.heap.size < _; first | (simp <;> omega) | omega)).trans (by go_simp)
          have ra0 : v6.cell? ⟨v5.heap.size, 0, none⟩ = some (.int .i64 (A1)) := (hb.cell (by show v5.heap.size < _; first | (simp <;> omega) | omega)).trans (by go_simp)
          have ra1 : v6.cell? ⟨v5.heap.size, 1, none⟩ = some (.int .i64 (A2)) := (hb.cell (by show v5.heap.size < _; first | (simp <;> omega) | omega)).trans (by go_simp)
          have hA : Below w.heap.size w v6 := by
            refine Below.trans ?_ (hb.mono (by first | (simp <;> omega) | omega))
            repeat (first | exact Hv5.out | (refine Below.alloc ?_ (by first | (simp <;> omega) | omega) _) | (refine Below.setCell ?_ (by first | (simp <;> omega) | omega) _) | (refine below_drewN ?_ _))
          have hzv6 : v5.heap.size ≤ v6.heap.size := by have := hb.size; first | (simp at this; omega) | omega
          replace fs : v0.heap.size < v6.heap.size := by have := hb.size; first | (simp at this; omega) | omega
          replace gs : v0.heap.size + 1 < v6.heap.size := by have := hb.size; first | (simp at this; omega) | omega
          replace ss : v1.heap.size < v6.heap.size := by have := hb.size; first | (simp at this; omega) | omega
          replace wns : v2.heap.size < v6.heap.size := by have := hb.size; first | (simp at this; omega) | omega
          replace hs : v3.heap.size < v6.heap.size := by have := hb.size; first | (simp at this; omega) | omega
          replace rss : v4.heap.size < v6.heap.size := by have := hb.size; first | (simp at this; omega) | omega
          have ras : v5.heap.size < v6.heap.size := by have := hb.size; first | (simp at this; omega) | omega
          have hwv6 : w.heap.size ≤ v6.heap.size := hA.size
          have Hv6 := Lib.hid hA
          clear hb hA Hv5
          rw [HP.out, HQ.out, HB3.out]
          go_wp2_with fail
          refine (impl_Add_c _ _ _ _ _).mono ?_
          rintro e v7 ⟨rfl, hb⟩
          replace f0 : v7.cell? ⟨v0.heap.size, 0, none⟩ = some (.int .i64 (a)) := (hb.cell (by show v0.heap.size < _; first | (simp <;> omega) | omega)).trans (by go_simp)
          replace f1 : v7.cell? ⟨v0.heap.size, 1, none⟩ = some (.int .i64 (b)) := (hb.cell (by show v0.heap.size < _; first | (simp <;> omega) | omega)).trans (by go_simp)
          replace g0 : v7.cell? ⟨v0.heap.size + 1, 0, none⟩ = some (.int .i64 (c)) := (hb.cell (by show v0.heap.size + 1 < _; first | (simp <;> omega) | omega)).trans (by go_simp)
          replace g1 : v7.cell? ⟨v0.heap.size + 1, 1, none⟩ = some (.int .i64 (d)) := (hb.cell (by show v0.heap.size + 1 < _; first | (simp <;> omega) | omega)).trans (by go_simp)
          replace s0 : v7.cell? ⟨v1.heap.size, 0, none⟩ = some (.int .i64 (X)) := (hb.cell (by show v1.heap.size < _; first | (simp <;> omega) | omega)).trans (by go_simp)
          replace s1 : v7.cell? ⟨v1.heap.size, 1, none⟩ = some (.int .i64 (Y)) := (hb.cell (by show v1.heap.size < _; first | (simp <;> omega) | omega)).trans (by go_simp)
          replace wn0 : v7.cell? ⟨v2.heap.size, 0, none⟩ = some (.int .i64 (X)) := (hb.cell (by show v2.heap.size < _; first | (simp <;> omega) | omega)).trans (by go_simp)
          replace wn1 : v7.cell? ⟨v2.heap.size, 1, none⟩ = some (.int .i64 (Y)) := (hb.cell (by show v2.heap.size < _; first | (simp <;> omega) | omega)).trans (by go_simp)
          replace h0 : v7.cell? ⟨v3.heap.size, 0, none⟩ = some (.int .i64 (e)) := (hb.cell (by show v3.heap.size < _; first | (simp <;> omega) | omega)).trans (by go_simp)
          replace h1 : v7.cell? ⟨v3.heap.size, 1, none⟩ = some (.int .i64 (k)) := (hb.cell (by show v3.heap.size < _; first | (simp <;> omega) | omega)).trans (by go_simp)
          replace rs0 : v7.cell? ⟨v4.heap.size, 0, none⟩ = some (.int .i64 (S)) := (hb.cell (by show v4.heap.size < _; first | (simp <;> omega) | omega)).trans (by go_simp)
          replace rs1 : v7.cell? ⟨v4.heap.size, 1, none⟩ = some (.int .i64 (T)) := (hb.cell (by show v4.heap.size < _; first | (simp <;> omega) | omega)).trans (by go_simp)
          replace ra0 : v7.cell? ⟨v5.heap.size, 0, none⟩ = some (.int .i64 (A1)) := (hb.cell (by show v5.heap.size < _; first | (simp <;> omega) | omega)).trans (by go_simp)
          replace ra1 : v7.cell? ⟨v5.heap.size, 1, none⟩ = some (.int .i64 (A2)) := (hb.cell (by show v5.heap.size < _; first | (simp <;> omega) | omega)).trans (by go_simp)
          have rb0 : v7.cell? ⟨v6.heap.size, 0, none⟩ = some (.int .i64 (P)) := (hb.cell (by show v6.heap.size < _; first | (simp <;> omega) | omega)).trans (by go_simp)
          have rb1 : v7.cell? ⟨v6.heap.size, 1, none⟩ = some (.int .i64 (Q)) := (hb.cell (by show v6.heap.size < _; first | (simp <;> omega) | omega)).trans (by go_simp)
          have hA : Below w.heap.size w v7 := by
            refine Below.trans ?_ (hb.mono (by first | (simp <;> omega) | omega))
            repeat (first | exact Hv6.out | (refine Below.alloc ?_ (by first | (simp <;> omega) | omega) _) | (refine Below.setCell ?_ (by first | (simp <;> omega) | omega) _) | (refine below_drewN ?_ _))
          have hzv7 : v6.heap.size ≤ v7.heap.size := by have := hb.size; first | (simp at this; omega) | omega
          replace fs : v0.heap.size < v7.heap.size := by have := hb.size; first | (simp at this; omega) | omega
          replace gs : v0.heap.size + 1 < v7.heap.size := by have := hb.size; first | (simp at this; omega) | omega
          replace ss : v1.heap.size < v7.heap.size := by have := hb.size; first | (simp at this; omega) | omega
          replace wns : v2.heap.size < v7.heap.size := by have := hb.size; first | (simp at this; omega) | omega
          replace hs : v3.heap.size < v7.heap.size := by have := hb.size; first | (simp at this; omega) | omega
          replace rss : v4.heap.size < v7.heap.size := by have := hb.size; first | (simp at this; omega) | omega
          replace ras : v5.heap.size < v7.heap.size := by have := hb.size; first | (simp at this; omega) | omega
          have rbs : v6.heap.size < v7.heap.size := by have := hb.size; first | (simp at this; omega) | omega
          have hwv7 : w.heap.size ≤ v7.heap.size := hA.size
          have Hv7 := Lib.hid hA
          clear hb hA Hv6
          rw [HC1.out, HC2.out, HB4.out]
          go_wp2_with fail
          refine (impl_Over_c _ _ _ _ _).mono ?_
          rintro e v8 ⟨rfl, hb⟩
          replace f0 : v8.cell? ⟨v0.heap.size, 0, none⟩ = some (.int .i64 (a)) := (hb.cell (by show v0.heap.size < _; first | (simp <;> omega) | omega)).trans (by go_simp)
          replace f1 : v8.cell? ⟨v0.heap.size, 1, none⟩ = some (.int .i64 (b)) := (hb.cell (by show v0.heap.size < _; first | (simp <;> omega) | omega)).trans (by go_simp)
          replace g0 : v8.cell? ⟨v0.heap.size + 1, 0, none⟩ = some (.int .i64 (c)) := (hb.cell (by show v0.heap.size + 1 < _; first | (simp <;> omega) | omega)).trans (by go_simp)
          replace g1 : v8.cell? ⟨v0.heap.size + 1, 1, none⟩ = some (.int .i64 (d)) := (hb.cell (by show v0.heap.size + 1 < _; first | (simp <;> omega) | omega)).trans (by go_simp)
          replace s0 : v8.cell? ⟨v1.heap.size, 0, none⟩ = some (.int .i64 (X)) := (hb.cell (by show v1.heap.size < _; first | (simp <;> omega) | omega)).trans (by go_simp)
          replace s1 : v8.cell? ⟨v1.heap.size, 1, none⟩ = some (.int .i64 (Y)) := (hb.cell (by show v1.heap.size < _; first | (simp <;> omega) | omega)).trans (by go_simp)
          replace wn0 : v8.cell? ⟨v2.heap.size, 0, none⟩ = some (.int .i64 (X)) := (hb.cell (by show v2.heap.size < _; first | (simp <;> omega) | omega)).trans (by go_simp)
          replace wn1 : v8.cell? ⟨v2.heap.size, 1, none⟩ = some (.int .i64 (Y)) := (hb.cell (by show v2.heap.size < _; first | (simp <;> omega) | omega)).trans (by go_simp)
          replace h0 : v8.cell? ⟨v3.heap.size, 0, none⟩ = some (.int .i64 (e)) := (hb.cell (by show v3.heap.size < _; first | (simp <;> omega) | omega)).trans (by go_simp)
          replace h1 : v8.cell? ⟨v3.heap.size, 1, none⟩ = some (.int .i64 (k)) := (hb.cell (by show v3.heap.size < _; first | (simp <;> omega) | omega)).trans (by go_simp)
          replace rs0 : v8.cell? ⟨v4.heap.size, 0, none⟩ = some (.int .i64 (S)) := (hb.cell (by show v4.heap.size < _; first | (simp <;> omega) | omega)).trans (by go_simp)
          replace rs1 : v8.cell? ⟨v4.heap.size, 1, none⟩ = some (.int .i64 (T)) := (hb.cell (by show v4.heap.size < _; first | (simp <;> omega) | omega)).trans (by go_simp)
          replace ra0 : v8.cell? ⟨v5.heap.size, 0, none⟩ = some (.int .i64 (A1)) := (hb.cell (by show v5.heap.size < _; first | (simp <;> omega) | omega)).trans (by go_simp)
          replace ra1 : v8.cell? ⟨v5.heap.size, 1, none⟩ = some (.int .i64 (A2)) := (hb.cell (by show v5.heap.size < _; first | (simp <;> omega) | omega)).trans (by go_simp)
          replace rb0 : v8.cell? ⟨v6.heap.size, 0, none⟩ = some (.int .i64 (P)) := (hb.cell (by show v6.heap.size < _; first | (simp <;> omega) | omega)).trans (by go_simp)
          replace rb1 : v8.cell? ⟨v6.heap.size, 1, none⟩ = some (.int .i64 (Q)) := (hb.cell (by show v6.heap.size < _; first | (simp <;> omega) | omega)).trans (by go_simp)
          have rc0 : v8.cell? ⟨v7.heap.size, 0, none⟩ = some (.int .i64 (C1)) := (hb.cell (by show v7.heap.size < _; first | (simp <;> omega) | omega)).trans (by go_simp)
          have rc1 : v8.cell? ⟨v7.heap.size, 1, none⟩ = some (.int .i64 (C2)) := (hb.cell (by show v7.heap.size < _; first | (simp <;> omega) | omega)).trans (by go_simp)
          have hA : Below w.heap.size w v8 := by
            refine Below.trans ?_ (hb.mono (by first | (simp <;> omega) | omega))
            repeat (first | exact Hv7.out | (refine Below.alloc ?_ (by first | (simp <;> omega) | omega) _) | (refine Below.setCell ?_ (by first | (simp <;> omega) | omega) _) | (refine below_drewN ?_ _))
          have hzv8 : v7.heap.size ≤ v8.heap.size := by have := hb.size; first | (simp at this; omega) | omega
          replace fs : v0.heap.size < v8.heap.size := by have := hb.size; first | (simp at this; omega) | omega
          replace gs : v0.heap.size + 1 < v8.heap.size := by have := hb.size; first | (simp at this; omega) | omega
          replace ss : v1.heap.size < v8.heap.size := by have := hb.size; first | (simp at this; omega) | omega
          replace wns : v2.heap.size < v8.heap.size := by have := hb.size; first | (simp at this; omega) | omega
          replace hs : v3.heap.size < v8.heap.size := by have := hb.size; first | (simp at this; omega) | omega
          replace rss : v4.heap.size < v8.heap.size := by have := hb.size; first | (simp at this; omega) | omega
          replace ras : v5.heap.size < v8.heap.size := by have := hb.size; first | (simp at this; omega) | omega
          replace rbs : v6.heap.size < v8.heap.size := by have := hb.size; first | (simp at this; omega) | omega
          have rcs : v7.heap.size < v8.heap.size := by have := hb.size; first | (simp at this; omega) | omega
          have hwv8 : w.heap.size ≤ v8.heap.size := hA.size
          have Hv8 := Lib.hid hA
          clear hb hA Hv7
          rw [HOX.out, HOY.out, HO.out]
          go_wp2_with fail
          refine (impl_Times_c _ _ _ _ _).mono ?_
          rintro e v9 ⟨rfl, hb⟩
          replace f0 : v9.cell? ⟨v0.heap.size, 0, none⟩ = some (.int .i64 (a)) := (hb.cell (by show v0.heap.size < _; first | (simp <;> omega) | omega)).trans (by go_simp)
          replace f1 : v9.cell? ⟨v0.heap.size, 1, none⟩ = some (.int .i64 (b)) := (hb.cell (by show v0.heap.size < _; first | (simp <;> omega) | omega)).trans (by go_simp)
          replace g0 : v9.cell? ⟨v0.heap.size + 1, 0, none⟩ = some (.int .i64 (c)) := (hb.cell (by show v0.heap.size + 1 < _; first | (simp <;> omega) | omega)).trans (by go_simp)
          replace g1 : v9.cell? ⟨v0.heap.size + 1, 1, none⟩ = some (.int .i64 (d)) := (hb.cell (by show v0.heap.size + 1 < _; first | (simp <;> omega) | omega)).trans (by go_simp)
          replace s0 : v9.cell? ⟨v1.heap.size, 0, none⟩ = some (.int .i64 (X)) := (hb.cell (by show v1.heap.size < _; first | (simp <;> omega) | omega)).trans (by go_simp)
          replace s1 : v9.cell? ⟨v1.heap.size, 1, none⟩ = some (.int .i64 (Y)) := (hb.cell (by show v1.heap.size < _; first | (simp <;> omega) | omega)).trans (by go_simp)
          replace wn0 : v9.cell? ⟨v2.heap.size, 0, none⟩ = some (.int .i64 (X)) := (hb.cell (by show v2.heap.size < _; first | (simp <;> omega) | omega)).trans (by go_simp)
          replace wn1 : v9.cell? ⟨v2.heap.size, 1, none⟩ = some (.int .i64 (Y)) := (hb.cell (by show v2.heap.size < _; first | (simp <;> omega) | omega)).trans (by go_simp)
          replace h0 : v9.cell? ⟨v3.heap.size, 0, none⟩ = some (.int .i64 (e)) := (hb.cell (by show v3.heap.size < _; first | (simp <;> omega) | omega)).trans (by go_simp)
          replace h1 : v9.cell? ⟨v3.heap.size, 1, none⟩ = some (.int .i64 (k)) := (hb.cell (by show v3.heap.size < _; first | (simp <;> omega) | omega)).trans (by go_simp)
          replace rs0 : v9.cell? ⟨v4.heap.size, 0, none⟩ = some (.int .i64 (S)) := (hb.cell (by show v4.heap.size < _; first | (simp <;> omega) | omega)).trans (by go_simp)
          replace rs1 : v9.cell? ⟨v4.heap.size, 1, none⟩ = some (.int .i64 (T)) := (hb.cell (by show v4.heap.size < _; first | (simp <;> omega) | omega)).trans (by go_simp)
          replace ra0 : v9.cell? ⟨v5.heap.size, 0, none⟩ = some (.int .i64 (A1)) := (hb.cell (by show v5.heap.size < _; first | (simp <;> omega) | omega)).trans (by go_simp)
          replace ra1 : v9.cell? ⟨v5.heap.size, 1, none⟩ = some (.int .i64 (A2)) := (hb.cell (by show v5.heap.size < _; first | (simp <;> omega) | omega)).trans (by go_simp)
          replace rb0 : v9.cell? ⟨v6.heap.size, 0, none⟩ = some (.int .i64 (P)) := (hb.cell (by show v6.heap.size < _; first | (simp <;> omega) | omega)).trans (by go_simp)
          replace rb1 : v9.cell? ⟨v6.heap.size, 1, none⟩ = some (.int .i64 (Q)) := (hb.cell (by show v6.heap.size < _; first | (simp <;> omega) | omega)).trans (by go_simp)
          replace rc0 : v9.cell? ⟨v7.heap.size, 0, none⟩ = some (.int .i64 (C1)) := (hb.cell (by show v7.heap.size < _; first | (simp <;> omega) | omega)).trans (by go_simp)
          replace rc1 : v9.cell? ⟨v7.heap.size, 1, none⟩ = some (.int .i64 (C2)) := (hb.cell (by show v7.heap.size < _; first | (simp <;> omega) | omega)).trans (by go_simp)
          have bk0 : v9.cell? ⟨v8.heap.size, 0, none⟩ = some (.int .i64 (a)) := (hb.cell (by show v8.heap.size < _; first | (simp <;> omega) | omega)).trans (by go_simp)
          have bk1 : v9.cell? ⟨v8.heap.size, 1, none⟩ = some (.int .i64 (b)) := (hb.cell (by show v8.heap.size < _; first | (simp <;> omega) | omega)).trans (by go_simp)
          have hA : Below w.heap.size w v9 := by
            refine Below.trans ?_ (hb.mono (by first | (simp <;> omega) | omega))
            repeat (first | exact Hv8.out | (refine Below.alloc ?_ (by first | (simp <;> omega) | omega) _) | (refine Below.setCell ?_ (by first | (simp <;> omega) | omega) _) | (refine below_drewN ?_ _))
          have hzv9 : v8.heap.size ≤ v9.heap.size := by have := hb.size; first | (simp at this; omega) | omega
          replace fs : v0.heap.size < v9.heap.size := by have := hb.size; first | (simp at this; omega) | omega
          replace gs : v0.heap.size + 1 < v9.heap.size := by have := hb.size; first | (simp at this; omega) | omega
          replace ss : v1.heap.size < v9.heap.size := by have := hb.size; first | (simp at this; omega) | omega
          replace wns : v2.heap.size < v9.heap.size := by have := hb.size; first | (simp at this; omega) | omega
          replace hs : v3.heap.size < v9.heap.size := by have := hb.size; first | (simp at this; omega) | omega
          replace rss : v4.heap.size < v9.heap.size := by have := hb.size; first | (simp at this; omega) | omega
          replace ras : v5.heap.size < v9.heap.size := by have := hb.size; first | (simp at this; omega) | omega
          replace rbs : v6.heap.size < v9.heap.size := by have := hb.size; first | (simp at this; omega) | omega
          replace rcs : v7.heap.size < v9.heap.size := by have := hb.size; first | (simp at this; omega) | omega
          have bks : v8.heap.size < v9.heap.size := by have := hb.size; first | (simp at this; omega) | omega
          have hwv9 : w.heap.size ≤ v9.heap.size := hA.size
          have Hv9 := Lib.hid hA
          clear hb hA Hv8
          rw [HMX.out, HMY.out, HMB.out]
          rcases B1 with _ | _ <;> rcases B2 with _ | _ <;> rcases B3 with _ | _ <;> rcases B4 with _ | _
          all_goals
            (try (obtain ⟨rfl, rfl⟩ := HAC.out rfl rfl rfl rfl))
            go_wp2_with fail
            go_ret
            exact ⟨rfl, (by repeat (first | exact Hv9.out | (refine Below.alloc ?_ (by first | (simp <;> omega) | omega) _) | (refine Below.setCell ?_ (by first | (simp <;> omega) | omega) _) | (refine below_drewN ?_ _)))⟩
    · have hm2 : 1048576 < (len1 : Int) := by omega
      have hm2d : decide ((1048576 : Int) < (len1 : Int)) = true := by simp; omega
      go_enter Try.func5, Try.ntmps5
      go_wp2_with fail
      go_ret
      exact ⟨rfl, Below.refl _ _⟩
  · have hn2 : 1048576 < (len0 : Int) := by omega
    have hn2d : decide ((1048576 : Int) < (len0 : Int)) = true := by simp; omega
    go_enter Try.func5, Try.ntmps5
    go_wp2_with fail
    go_ret
    exact ⟨rfl, Below.refl _ _⟩

set_option maxRecDepth 100000 in
theorem lifted (os : Os) (started : os.Started) (H : Type) (enc : TypeId × Value → H) :
    ReturnsInHanded {} Try.checked os 5 .any (Rows.fnTimesFractionsSpec.pre6 enc Try.prog Try.f5 Rows.fnTimesFractionsRow.domain false) (Rows.fnTimesFractionsSpec.post enc Try.prog Try.f5 false true false false) := by
  refine returnsInHanded_of_change (C := Try.checked) own started (by kernel_rfl) Try.func5
    (ChangeSpec.witness6 (enc := enc) (C := Try.checked) false ⟨#[], #[.slice none 0 0, .slice none 0 0], []⟩ 8 (by kernel_rfl) (by kernel_rfl) (by kernel_rfl) (by kernel_rfl)) ?_
  intro W base args ds gs before hval0 hW hcnd _
  have hval : ∀ (j : Nat) t v, Try.f5.params[j]? = some t → args[j]? = some v → Value.okWide Try.prog W .any base t v := hval0
  have hW' := hW
  obtain ⟨p, q, hA0, hV, rfl, hfz, hnd⟩ := hW
  have hA : DataW.TrodAll enc Try.prog W 0 (fun _ => true) true Try.f5.params.toList args.toList ds p := hA0
  rw [Try.params5] at hA hval
  obtain ⟨v0, vs0, d0, ds0, p0, q0, hargs, rfl, rfl, h0, r0⟩ := trodAll_cons hA
  obtain ⟨v1, vs1, d1, ds1, p1, q1, rfl, rfl, rfl, h1, r1⟩ := trodAll_cons r0
  obtain ⟨rfl, rfl, rfl⟩ := trodAll_nil r1
  obtain rfl : args = #[v0, v1] := by cases args; simp_all
  obtain ⟨rfl, rfl⟩ := trodVars_none hV
  have k0 := h0
  have lt0 : ∀ x ∈ p0, x.block < W.heap.size := by obtain ⟨m, hm⟩ := k0; exact DataW.trod_lt m _ _ _ hm
  obtain ⟨a0, len0, cap0, z0, rfl, w0⟩ := get_row Try.underlying22 Try.underlying5 (by kernel_rfl) (hval 0 22 v0 rfl rfl) h0
  have k1 := h1
  have lt1 : ∀ x ∈ p1, x.block < W.heap.size := by obtain ⟨m, hm⟩ := k1; exact DataW.trod_lt m _ _ _ hm
  obtain ⟨a1, len1, cap1, z1, rfl, w1⟩ := get_row Try.underlying22 Try.underlying5 (by kernel_rfl) (hval 1 22 v1 rfl rfl) h1
  clear hA0 hval0
  refine (walk a0 len0 cap0 z0 a1 len1 cap1 z1 W w0 w1).mono fun e W' ⟨he, bel⟩ => ?_
  subst he
  exact ⟨_, rfl, _, _, _, [], _, [], hW', trodAll_mk1 (shut_bool Try.underlying4 _), (trodAll_cons_mk (Below.trod laidOut (by kernel_rfl) (of_decide_eq_true (by kernel_rfl)) k0 bel lt0) (trodAll_cons_mk (Below.trod laidOut (by kernel_rfl) (of_decide_eq_true (by kernel_rfl)) k1 bel lt1) trodAll_mk0)), rfl, bel.frame _, fun h => by cases h⟩

theorem closed : joinedFacts Try.prog 5 Try.f5 Rows.fnTimesFractionsSpec Rows.fnTimesFractionsRow = true := by
  rw [joinedFacts.eq_1]
  simp only [Bool.and_eq_true]
  repeat' apply And.intro
  all_goals first | (with_reducible exact fact_enter) | (with_reducible exact laidOut) | (with_reducible exact fact_maps) | (with_reducible exact fact_heard) | (rw [fact_lifts]; try (as_aux_lemma => kernel_rfl)) | (rw [fact_make]; try (as_aux_lemma => kernel_rfl)) | (rw [fact_keys]; try (as_aux_lemma => kernel_rfl)) | (as_aux_lemma => kernel_rfl)

theorem holds : Rows.FnTimesFractionsSaid :=
  OpenClaim.holds_of_wide 5 Try.f5 rfl rfl rfl rfl rfl rfl rfl ⟨rfl, rfl, rfl, rfl, rfl⟩ rfl rfl rfl rfl rfl (by kernel_rfl) Try.func5 closed
    (of_decide_eq_true (by kernel_rfl)) (by unfold Func.isWrapper; rw [if_neg (of_decide_eq_false (by kernel_rfl))]; exact ⟨rfl, rfl⟩)
    (fun os started H enc _ => lifted os started H enc)
#print axioms holds
end Go.Proofs.Ytihbfhjfceabnaa.fnTimesFractions
