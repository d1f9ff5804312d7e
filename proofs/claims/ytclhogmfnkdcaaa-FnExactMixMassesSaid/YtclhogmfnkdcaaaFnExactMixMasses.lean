/- FnExactMixMasses: for every input that can be read, the law returns true and its arguments read afterwards as before. Conditions: none. -/
import Derived.Test.YtclhogmfnkdcaaaMem
import Derived.Test.YtclhogmfnkdcaaaSigns
import Derived.Test.YtclhogmfnkdcaaaPlainE
import Derived.Test.YtclhogmfnkdcaaaWm
import Derived.Test.YtclhogmfnkdcaaaMa
import Derived.Test.YtclhogmfnkdcaaaMb
import Derived.Test.YtclhogmfnkdcaaaMc
import Derived.Test.YtclhogmfnkdcaaaMh
import Derived.Test.YtclhogmfnkdcaaaMi
import Derived.Test.YtclhogmfnkdcaaaGl
import Derived.Test.YtclhogmfnkdcaaaGm
import Derived.Test.YtclhogmfnkdcaaaWe
import Derived.Test.YtclhogmfnkdcaaaWf
import Derived.Test.YtclhogmfnkdcaaaMj
import Derived.Test.YtclhogmfnkdcaaaMk
import Derived.Test.YtclhogmfnkdcaaaPlainF
import Derived.Test.YtclhogmfnkdcaaaMl
import Derived.Test.YtclhogmfnkdcaaaMm
import Derived.Test.YtclhogmfnkdcaaaMo
import Derived.Deep.RegionWith
import Derived.Deep.RegionHeld3
import Derived.Deep.DeepCutAuto
namespace Go.Proofs.Ytclhogmfnkdcaaa.fnExactMixMasses
open Go.ChangeShapes Go.WideShapes Go.ChangeAt Go.RowKit
open Go.ChangeMaps (open_string shut_string)
set_option linter.unusedVariables false

set_option maxRecDepth 100000 in
set_option maxHeartbeats 4000000 in
theorem walk (s0 : Int) (a0 : Option Addr) (len0 cap0 : Nat) (z0 : List Int) (s1 : Int) (a1 : Option Addr) (len1 cap1 : Nat) (z1 : List Int) (x2 y2 : Int) (w : World) (ws0 : Fits s0) (w0 : IsRow .i64 w a0 len0 cap0 z0) (ws1 : Fits s1) (w1 : IsRow .i64 w a1 len1 cap1 z1) (wx2 : Fits x2) (wy2 : Fits y2) :
    Calls Try.prog 7 #[.agg #[.int .i64 s0, .slice a0 len0 cap0], .agg #[.int .i64 s1, .slice a1 len1 cap1], .agg #[.int .i64 x2, .int .i64 y2]] w fun e w' => e = .returned (.bool true) ∧ Below w.heap.size w w' := by
  obtain rfl : z0.length = len0 := w0.len
  have hmax0 : z0.length ≤ 9223372036854775807 := Nat.le_trans w0.2.1 w0.2.2.1
  have HW0 := Lib.hid w0
  have WHW0 := Lib.hid w0.lowAt
  clear w0
  obtain rfl : z1.length = len1 := w1.len
  have hmax1 : z1.length ≤ 9223372036854775807 := Nat.le_trans w1.2.1 w1.2.2.1
  have HW1 := Lib.hid w1
  have WHW1 := Lib.hid w1.lowAt
  clear w1
  by_cases hn : z0.length + z1.length ≤ 1048576
  · have hn0 : z0.length ≤ 1048576 := by omega
    have hn1 : z1.length ≤ 1048576 := by omega
    have HE0 := Lib.hid (if_neg (by omega) : (if (1048576 : Int) < (z0.length : Int) then (-1 : Int) else 1048576 - z0.length) = 1048576 - z0.length)
    have HE1 := Lib.hid (if_neg (by omega) : (if (1048576 - z0.length : Int) < (z1.length : Int) then (-1 : Int) else 1048576 - z0.length - z1.length) = 1048576 - z0.length - z1.length)
    have hz0 : ¬ (1048576 - (z0.length : Int) < 0) := by omega
    have hz1 : ¬ (1048576 - (z0.length : Int) - (z1.length : Int) < 0) := by omega
    have hlen : (selL (mixB s0 z0 s1 z1 x2 y2) (madeL (mixL x2 y2 z0 z1))).length ≤ 1048576 := by
      unfold selL
      split
      · rw [madeL_len, mixL_len]; omega
      · simp
    obtain ⟨Z, hZ⟩ : ∃ Z, selL (mixB s0 z0 s1 z1 x2 y2) (madeL (mixL x2 y2 z0 z1)) = Z := ⟨_, rfl⟩
    obtain ⟨S, hS⟩ : ∃ S, sel (mixB s0 z0 s1 z1 x2 y2) s0 = S := ⟨_, rfl⟩
    obtain ⟨b, hb0⟩ : ∃ b, mixB s0 z0 s1 z1 x2 y2 = b := ⟨_, rfl⟩
    have HS := Lib.hid (show ∀ w e w', MassOk w (mixB s0 z0 s1 z1 x2 y2) s0 (madeL (mixL x2 y2 z0 z1)) e w' → ∃ A C, e = .returned (.tuple #[.agg #[.int .i64 S, .slice A Z.length C], .bool b]) ∧ Own w' w.heap.size (.slice A Z.length C) Z ∧ Below w.heap.size w w' from by intro w e w' h; unfold MassOk at h; rw [hZ, hS, hb0] at h; exact h)
    have hbb : (b != b) = false := by simp
    rw [hZ] at hlen
    clear hZ hS hb0
    have HB := Lib.hid (Below.refl w.heap.size w)
    go_enter Try.func7, Try.ntmps7
    go_wp2_with fail
    refine (szMass_c _ _ _ _ 1048576 (by omega) hmax0 _).mono ?_
    rintro e v1 ⟨rfl, hb⟩
    have hA : Below w.heap.size w v1 := Below.trans (by repeat (first | exact Below.refl _ _ | (refine Below.alloc ?_ (by first | (simp <;> omega) | omega) _) | (refine Below.setCell ?_ (by first | (simp <;> omega) | omega) _) | (refine Below.drew ?_) | (refine below_drewN ?_ _))) (hb.mono (by first | exact Nat.le_refl _ | (simp <;> omega) | omega))
    have hsv1 : w.heap.size + 3 ≤ v1.heap.size := by have := hb.size; first | (simp at this; omega) | omega
    have km0 : v1.cell? ⟨w.heap.size, 0, none⟩ = some (.int .i64 s0) := (hb.cell (by show w.heap.size < _; first | (simp <;> omega) | omega)).trans (by go_simp)
    have km1 : v1.cell? ⟨w.heap.size, 1, none⟩ = some (.slice a0 z0.length cap0) := (hb.cell (by show w.heap.size < _; first | (simp <;> omega) | omega)).trans (by go_simp)
    have kn0 : v1.cell? ⟨w.heap.size + 1, 0, none⟩ = some (.int .i64 s1) := (hb.cell (by show w.heap.size + 1 < _; first | (simp <;> omega) | omega)).trans (by go_simp)
    have kn1 : v1.cell? ⟨w.heap.size + 1, 1, none⟩ = some (.slice a1 z1.length cap1) := (hb.cell (by show w.heap.size + 1 < _; first | (simp <;> omega) | omega)).trans (by go_simp)
    have kf0 : v1.cell? ⟨w.heap.size + 2, 0, none⟩ = some (.int .i64 x2) := (hb.cell (by show w.heap.size + 2 < _; first | (simp <;> omega) | omega)).trans (by go_simp)
    have kf1 : v1.cell? ⟨w.heap.size + 2, 1, none⟩ = some (.int .i64 y2) := (hb.cell (by show w.heap.size + 2 < _; first | (simp <;> omega) | omega)).trans (by go_simp)
    replace HW0 := Lib.hid (HW0.out.below hA)
    replace HW1 := Lib.hid (HW1.out.below hA)
    replace HB := Lib.hid (HB.out.trans (hA.mono HB.out.size))
    clear hb hA
    have z0v1 : w.heap.size < v1.heap.size := by omega
    have z1v1 : w.heap.size + 1 < v1.heap.size := by omega
    have z2v1 : w.heap.size + 2 < v1.heap.size := by omega
    rw [HE0.out]
    go_wp2_with fail
    refine (szMass_c _ _ _ _ (1048576 - z0.length) (by omega) hmax1 _).mono ?_
    rintro e v2 ⟨rfl, hb⟩
    have hA : Below v1.heap.size v1 v2 := Below.trans (by repeat (first | exact Below.refl _ _ | (refine Below.alloc ?_ (by first | (simp <;> omega) | omega) _) | (refine Below.setCell ?_ (by first | (simp <;> omega) | omega) _) | (refine Below.drew ?_) | (refine below_drewN ?_ _))) (hb.mono (by first | exact Nat.le_refl _ | (simp <;> omega) | omega))
    have hsv2 : v1.heap.size ≤ v2.heap.size := hA.size
    replace km0 : v2.cell? ⟨w.heap.size, 0, none⟩ = some (.int .i64 s0) := (hA.cell (by show w.heap.size < _; omega)).trans km0
    replace km1 : v2.cell? ⟨w.heap.size, 1, none⟩ = some (.slice a0 z0.length cap0) := (hA.cell (by show w.heap.size < _; omega)).trans km1
    replace kn0 : v2.cell? ⟨w.heap.size + 1, 0, none⟩ = some (.int .i64 s1) := (hA.cell (by show w.heap.size + 1 < _; omega)).trans kn0
    replace kn1 : v2.cell? ⟨w.heap.size + 1, 1, none⟩ = some (.slice a1 z1.length cap1) := (hA.cell (by show w.heap.size + 1 < _; omega)).trans kn1
    replace kf0 : v2.cell? ⟨w.heap.size + 2, 0, none⟩ = some (.int .i64 x2) := (hA.cell (by show w.heap.size + 2 < _; omega)).trans kf0
    replace kf1 : v2.cell? ⟨w.heap.size + 2, 1, none⟩ = some (.int .i64 y2) := (hA.cell (by show w.heap.size + 2 < _; omega)).trans kf1
    replace HW0 := Lib.hid (HW0.out.below hA)
    replace HW1 := Lib.hid (HW1.out.below hA)
    replace HB := Lib.hid (HB.out.trans (hA.mono HB.out.size))
    clear hb hA
    have z0v2 : w.heap.size < v2.heap.size := by omega
    have z1v2 : w.heap.size + 1 < v2.heap.size := by omega
    have z2v2 : w.heap.size + 2 < v2.heap.size := by omega
    clear z0v1 z1v1 z2v1
    rw [HE1.out]
    go_upto_region 8 with fail
    go_cut [8, 9] (fun q0 q1 wx => ∃ (g : Nat) (A : Option Addr) (C : Nat), q0 = .pointer (some ⟨g, 0, none⟩) ∧ q1 = .bool b ∧ Below v2.heap.size v2 wx ∧ v2.heap.size ≤ g ∧ g < wx.heap.size ∧ wx.cell? ⟨g, 0, none⟩ = some (.int .i64 S) ∧ wx.cell? ⟨g, 1, none⟩ = some (.slice A Z.length C) ∧ Own wx v2.heap.size (.slice A Z.length C) Z ∧ ∀ j, (Value.slice A Z.length C).ownBlock = some j → j ≠ g)
    case first =>
      have HA : Hid (Below v2.heap.size v2 v2.drew) := Lib.hid (Below.refl _ _).drew
      have yy0 : w.heap.size < v2.heap.size := by omega
      have yy1 : w.heap.size < v2.heap.size := by omega
      have yy2 : w.heap.size + 1 < v2.heap.size := by omega
      have yy3 : w.heap.size + 1 < v2.heap.size := by omega
      have yy4 : w.heap.size + 2 < v2.heap.size := by omega
      have yy5 : w.heap.size + 2 < v2.heap.size := by omega
      have R0 : Hid (IsRow .i64 v2.drew a0 z0.length cap0 z0) := Lib.hid HW0.out.drew
      have R1 : Hid (IsRow .i64 v2.drew a1 z1.length cap1 z1) := Lib.hid HW1.out.drew
      go_region_held3 (fun w' => w'.cell? ⟨w.heap.size, 0, none⟩ = some (.int .i64 s0) ∧ w'.cell? ⟨w.heap.size, 1, none⟩ = some (.slice a0 z0.length cap0) ∧ w'.cell? ⟨w.heap.size + 1, 0, none⟩ = some (.int .i64 s1) ∧ w'.cell? ⟨w.heap.size + 1, 1, none⟩ = some (.slice a1 z1.length cap1) ∧ w'.cell? ⟨w.heap.size + 2, 0, none⟩ = some (.int .i64 x2) ∧ w'.cell? ⟨w.heap.size + 2, 1, none⟩ = some (.int .i64 y2))
        (first
          | with_reducible exact ⟨(HA.out.cell (p := ⟨w.heap.size, 0, none⟩) yy0).trans km0, (HA.out.cell (p := ⟨w.heap.size, 1, none⟩) yy1).trans km1, (HA.out.cell (p := ⟨w.heap.size + 1, 0, none⟩) yy2).trans kn0, (HA.out.cell (p := ⟨w.heap.size + 1, 1, none⟩) yy3).trans kn1, (HA.out.cell (p := ⟨w.heap.size + 2, 0, none⟩) yy4).trans kf0, (HA.out.cell (p := ⟨w.heap.size + 2, 1, none⟩) yy5).trans kf1⟩
          | with_reducible exact ⟨(World.cell?_alloc_lt tt _ ⟨w.heap.size, 0, none⟩ (Nat.lt_of_lt_of_le yy0 HA.out.size)).trans ((HA.out.cell (p := ⟨w.heap.size, 0, none⟩) yy0).trans km0), (World.cell?_alloc_lt tt _ ⟨w.heap.size, 1, none⟩ (Nat.lt_of_lt_of_le yy1 HA.out.size)).trans ((HA.out.cell (p := ⟨w.heap.size, 1, none⟩) yy1).trans km1), (World.cell?_alloc_lt tt _ ⟨w.heap.size + 1, 0, none⟩ (Nat.lt_of_lt_of_le yy2 HA.out.size)).trans ((HA.out.cell (p := ⟨w.heap.size + 1, 0, none⟩) yy2).trans kn0), (World.cell?_alloc_lt tt _ ⟨w.heap.size + 1, 1, none⟩ (Nat.lt_of_lt_of_le yy3 HA.out.size)).trans ((HA.out.cell (p := ⟨w.heap.size + 1, 1, none⟩) yy3).trans kn1), (World.cell?_alloc_lt tt _ ⟨w.heap.size + 2, 0, none⟩ (Nat.lt_of_lt_of_le yy4 HA.out.size)).trans ((HA.out.cell (p := ⟨w.heap.size + 2, 0, none⟩) yy4).trans kf0), (World.cell?_alloc_lt tt _ ⟨w.heap.size + 2, 1, none⟩ (Nat.lt_of_lt_of_le yy5 HA.out.size)).trans ((HA.out.cell (p := ⟨w.heap.size + 2, 1, none⟩) yy5).trans kf1)⟩
          | (go_split_ands; (refine ⟨?_, ?_, ?_, ?_, ?_, ?_⟩ <;> (rw [World.cell?_setCell_other _ _ _ _ (by intro e; injection e; omega), World.cell?_setCell_other _ _ _ _ (by intro e; injection e; omega)]; assumption)))
          | exact ⟨(World.cell?_alloc_lt v2 _ ⟨w.heap.size, 0, none⟩ yy0).trans km0, (World.cell?_alloc_lt v2 _ ⟨w.heap.size, 1, none⟩ yy1).trans km1, (World.cell?_alloc_lt v2 _ ⟨w.heap.size + 1, 0, none⟩ yy2).trans kn0, (World.cell?_alloc_lt v2 _ ⟨w.heap.size + 1, 1, none⟩ yy3).trans kn1, (World.cell?_alloc_lt v2 _ ⟨w.heap.size + 2, 0, none⟩ yy4).trans kf0, (World.cell?_alloc_lt v2 _ ⟨w.heap.size + 2, 1, none⟩ yy5).trans kf1⟩
          | exact ⟨km0, km1, kn0, kn1, kf0, kf1⟩)
        (first
          | (go_at_call 30; ((with_reducible refine (toMass_c s0 a0 z0.length cap0 z0 hn0 _ ?hr).mono ?_)); (case hr => (first | with_reducible exact R0.out | with_reducible exact R0.out.alloc _ | exact R0.out.alloc _)); rintro e tt ⟨AM, CM, rfl, ho, hb⟩; have hsz := HA.out.size; have hbs := hb.size; (try simp at hbs); (first | with_reducible replace HA := Lib.hid (HA.out.trans (hb.mono HA.out.size)) | replace HA := Lib.hid ((HA.out.alloc HA.out.size _).trans (hb.mono (Nat.le_trans HA.out.size (by simp))))); (try (have r0' := (hb.cell r4).trans r0; have r1' := (hb.cell r4).trans r1; have r2' := (hb.frozen r4).trans r2; have r3' := (hb.frozen r4).trans r3; have r4' := Nat.lt_of_lt_of_le r4 hb.size; clear r0 r1 r2 r3 r4; have r0 := r0'; have r1 := r1'; have r2 := r2'; have r3 := r3'; have r4 := r4'; clear r0' r1' r2' r3' r4')); (try ((with_reducible have r9 := boxfacts hb); obtain ⟨r0, r1, r2, r3, r4⟩ := r9)); (try ((with_reducible have r9 := boxfacts (nodrewG hb)); obtain ⟨r0, r1, r2, r3, r4⟩ := r9)); (try (first | (with_reducible replace R0 := Lib.hid (R0.out.below hb)) | (replace R0 := Lib.hid ((R0.out.alloc _).below hb)))); (try (first | (with_reducible replace R1 := Lib.hid (R1.out.below hb)) | (replace R1 := Lib.hid ((R1.out.alloc _).below hb)))); (try (first | (with_reducible replace PM := Lib.hid (PM.out.below hb)) | (replace PM := Lib.hid ((PM.out.alloc _).below hb)))); (try (first | (with_reducible replace PN := Lib.hid (PN.out.below hb)) | (replace PN := Lib.hid ((PN.out.alloc _).below hb)))); have PM := Lib.hid ho.rowAt; clear ho; clear hb)
          | (go_at_call 30; ((with_reducible refine (toMass_c s1 a1 z1.length cap1 z1 hn1 _ ?hr).mono ?_)); (case hr => (first | with_reducible exact R1.out | with_reducible exact R1.out.alloc _ | exact R1.out.alloc _)); rintro e tt ⟨AN, CN, rfl, ho, hb⟩; have hsz := HA.out.size; have hbs := hb.size; (try simp at hbs); (first | with_reducible replace HA := Lib.hid (HA.out.trans (hb.mono HA.out.size)) | replace HA := Lib.hid ((HA.out.alloc HA.out.size _).trans (hb.mono (Nat.le_trans HA.out.size (by simp))))); (try (have r0' := (hb.cell r4).trans r0; have r1' := (hb.cell r4).trans r1; have r2' := (hb.frozen r4).trans r2; have r3' := (hb.frozen r4).trans r3; have r4' := Nat.lt_of_lt_of_le r4 hb.size; clear r0 r1 r2 r3 r4; have r0 := r0'; have r1 := r1'; have r2 := r2'; have r3 := r3'; have r4 := r4'; clear r0' r1' r2' r3' r4')); (try ((with_reducible have r9 := boxfacts hb); obtain ⟨r0, r1, r2, r3, r4⟩ := r9)); (try ((with_reducible have r9 := boxfacts (nodrewG hb)); obtain ⟨r0, r1, r2, r3, r4⟩ := r9)); (try (first | (with_reducible replace R0 := Lib.hid (R0.out.below hb)) | (replace R0 := Lib.hid ((R0.out.alloc _).below hb)))); (try (first | (with_reducible replace R1 := Lib.hid (R1.out.below hb)) | (replace R1 := Lib.hid ((R1.out.alloc _).below hb)))); (try (first | (with_reducible replace PM := Lib.hid (PM.out.below hb)) | (replace PM := Lib.hid ((PM.out.alloc _).below hb)))); (try (first | (with_reducible replace PN := Lib.hid (PN.out.below hb)) | (replace PN := Lib.hid ((PN.out.alloc _).below hb)))); have PN := Lib.hid ho.rowAt; clear ho; clear hb)
          | (go_at_call 33; ((with_reducible refine (toFraction_c x2 y2 _).mono ?_)); rintro e tt ⟨rfl, hb⟩; have hsz := HA.out.size; have hbs := hb.size; (try simp at hbs); (first | with_reducible replace HA := Lib.hid (HA.out.trans (hb.mono HA.out.size)) | replace HA := Lib.hid ((HA.out.alloc HA.out.size _).trans (hb.mono (Nat.le_trans HA.out.size (by simp))))); (try (have r0' := (hb.cell r4).trans r0; have r1' := (hb.cell r4).trans r1; have r2' := (hb.frozen r4).trans r2; have r3' := (hb.frozen r4).trans r3; have r4' := Nat.lt_of_lt_of_le r4 hb.size; clear r0 r1 r2 r3 r4; have r0 := r0'; have r1 := r1'; have r2 := r2'; have r3 := r3'; have r4 := r4'; clear r0' r1' r2' r3' r4')); (try ((with_reducible have r9 := boxfacts hb); obtain ⟨r0, r1, r2, r3, r4⟩ := r9)); (try ((with_reducible have r9 := boxfacts (nodrewG hb)); obtain ⟨r0, r1, r2, r3, r4⟩ := r9)); (try (first | (with_reducible replace R0 := Lib.hid (R0.out.below hb)) | (replace R0 := Lib.hid ((R0.out.alloc _).below hb)))); (try (first | (with_reducible replace R1 := Lib.hid (R1.out.below hb)) | (replace R1 := Lib.hid ((R1.out.alloc _).below hb)))); (try (first | (with_reducible replace PM := Lib.hid (PM.out.below hb)) | (replace PM := Lib.hid ((PM.out.alloc _).below hb)))); (try (first | (with_reducible replace PN := Lib.hid (PN.out.below hb)) | (replace PN := Lib.hid ((PN.out.alloc _).below hb)))); clear hb)
          | (go_at_call 14; refine ((spec_MixMasses_c s0 _ _ _ z0 s1 _ _ _ z1 x2 y2 _ ?hp ?hq).mono (HS.out _)).mono ?_; (case hp => (first | with_reducible exact PM.out | with_reducible exact PM.out.alloc _)); (case hq => (first | with_reducible exact PN.out | with_reducible exact PN.out.alloc _)); rintro e tt ⟨A9, C9, rfl, ho, hb⟩; have HOL := ho.lt; (try simp only [World.size_alloc] at HOL); have HOL := Lib.hid HOL; have HOF := Lib.hid (ho.low (by first | exact HA.out.size | exact Nat.le_trans HA.out.size (by simp))); have hsz := HA.out.size; have hbs := hb.size; (try simp at hbs); (first | with_reducible replace HA := Lib.hid (HA.out.trans (hb.mono HA.out.size)) | replace HA := Lib.hid ((HA.out.alloc HA.out.size _).trans (hb.mono (Nat.le_trans HA.out.size (by simp))))); (try (have r0' := (hb.cell r4).trans r0; have r1' := (hb.cell r4).trans r1; have r2' := (hb.frozen r4).trans r2; have r3' := (hb.frozen r4).trans r3; have r4' := Nat.lt_of_lt_of_le r4 hb.size; clear r0 r1 r2 r3 r4; have r0 := r0'; have r1 := r1'; have r2 := r2'; have r3 := r3'; have r4 := r4'; clear r0' r1' r2' r3' r4')); (try ((with_reducible have r9 := boxfacts hb); obtain ⟨r0, r1, r2, r3, r4⟩ := r9)); (try ((with_reducible have r9 := boxfacts (nodrewG hb)); obtain ⟨r0, r1, r2, r3, r4⟩ := r9)); clear hb ho))
      all_goals
        go_wp2_with fail
        go_meet
        refine ⟨_, A9, C9, rfl, rfl, ?_, ?_, ?_, ?_, ?_, ?_, ?_⟩
        · repeat (first | exact HA.out | (refine Below.alloc ?_ HA.out.size _) | (refine Below.setCell ?_ (by first | assumption | (simp <;> omega) | omega) _))
        · first | assumption | omega | exact HA.out.size
        · first | (simp <;> omega) | omega
        · go_simp
        · go_simp
        · repeat (first | exact HOF.out | (refine Own.alloc ?_ _) | (refine Own.set ?_ _ (fun j hj => by have h9 := HOL.out j hj; first | omega | (simp; omega) | (show _ ≠ _; omega)) _))
        · intro j hj; have h9 := HOL.out j hj; first | omega | (simp; omega)
    case rest =>
      obtain ⟨gOw, AOw, COw, rfl, rfl, hA, hg1Ow, hg2Ow, kw0, kw1, ho, hl⟩ := hcut
      obtain ⟨v3, hv⟩ : ∃ v, v = wc := ⟨_, rfl⟩
      subst hv
      have hsv3 : v2.heap.size ≤ v3.heap.size := hA.size
      replace km0 : v3.cell? ⟨w.heap.size, 0, none⟩ = some (.int .i64 s0) := (hA.cell (by show w.heap.size < _; omega)).trans km0
      replace km1 : v3.cell? ⟨w.heap.size, 1, none⟩ = some (.slice a0 z0.length cap0) := (hA.cell (by show w.heap.size < _; omega)).trans km1
      replace kn0 : v3.cell? ⟨w.heap.size + 1, 0, none⟩ = some (.int .i64 s1) := (hA.cell (by show w.heap.size + 1 < _; omega)).trans kn0
      replace kn1 : v3.cell? ⟨w.heap.size + 1, 1, none⟩ = some (.slice a1 z1.length cap1) := (hA.cell (by show w.heap.size + 1 < _; omega)).trans kn1
      replace kf0 : v3.cell? ⟨w.heap.size + 2, 0, none⟩ = some (.int .i64 x2) := (hA.cell (by show w.heap.size + 2 < _; omega)).trans kf0
      replace kf1 : v3.cell? ⟨w.heap.size + 2, 1, none⟩ = some (.int .i64 y2) := (hA.cell (by show w.heap.size + 2 < _; omega)).trans kf1
      replace HW0 := Lib.hid (HW0.out.below hA)
      replace HW1 := Lib.hid (HW1.out.below hA)
      replace HB := Lib.hid (HB.out.trans (hA.mono HB.out.size))
      have LOw : Hid (∀ g, (.slice AOw Z.length COw : Value).ownBlock = some g → (v2.heap.size ≤ g ∧ g < v3.heap.size) ∧ g ≠ gOw) := Lib.hid (fun g hg => ⟨ho.lt g hg, hl g hg⟩)
      have Ow := Lib.hid ho
      clear hA ho hl
      have z0v3 : w.heap.size < v3.heap.size := by omega
      have z1v3 : w.heap.size + 1 < v3.heap.size := by omega
      have z2v3 : w.heap.size + 2 < v3.heap.size := by omega
      have z3v3 : gOw < v3.heap.size := by omega
      clear z0v2 z1v2 z2v2
      go_wp2_with fail
      refine (toMass_c _ _ _ _ z0 hn0 _ HW0.out).mono ?_
      rintro e v4 ⟨A2, C2, rfl, ho, hb⟩
      have hA : Below v3.heap.size v3 v4 := Below.trans (by repeat (first | exact Below.refl _ _ | (refine Below.alloc ?_ (by first | (simp <;> omega) | omega) _) | (refine Below.setCell ?_ (by first | (simp <;> omega) | omega) _) | (refine Below.drew ?_) | (refine below_drewN ?_ _))) (hb.mono (by first | exact Nat.le_refl _ | (simp <;> omega) | omega))
      have hsv4 : v3.heap.size ≤ v4.heap.size := hA.size
      replace km0 : v4.cell? ⟨w.heap.size, 0, none⟩ = some (.int .i64 s0) := (hA.cell (by show w.heap.size < _; omega)).trans km0
      replace km1 : v4.cell? ⟨w.heap.size, 1, none⟩ = some (.slice a0 z0.length cap0) := (hA.cell (by show w.heap.size < _; omega)).trans km1
      replace kn0 : v4.cell? ⟨w.heap.size + 1, 0, none⟩ = some (.int .i64 s1) := (hA.cell (by show w.heap.size + 1 < _; omega)).trans kn0
      replace kn1 : v4.cell? ⟨w.heap.size + 1, 1, none⟩ = some (.slice a1 z1.length cap1) := (hA.cell (by show w.heap.size + 1 < _; omega)).trans kn1
      replace kf0 : v4.cell? ⟨w.heap.size + 2, 0, none⟩ = some (.int .i64 x2) := (hA.cell (by show w.heap.size + 2 < _; omega)).trans kf0
      replace kf1 : v4.cell? ⟨w.heap.size + 2, 1, none⟩ = some (.int .i64 y2) := (hA.cell (by show w.heap.size + 2 < _; omega)).trans kf1
      replace kw0 : v4.cell? ⟨gOw, 0, none⟩ = some (.int .i64 S) := (hA.cell (by show gOw < _; omega)).trans kw0
      replace kw1 : v4.cell? ⟨gOw, 1, none⟩ = some (.slice AOw Z.length COw) := (hA.cell (by show gOw < _; omega)).trans kw1
      replace HW0 := Lib.hid (HW0.out.below hA)
      replace HW1 := Lib.hid (HW1.out.below hA)
      replace Ow := Lib.hid (Ow.out.below hA (fun g hg => (Ow.out.lt g hg).2))
      replace HB := Lib.hid (HB.out.trans (hA.mono HB.out.size))
      have LOx : Hid (∀ g, (.slice A2 z0.length C2 : Value).ownBlock = some g → v3.heap.size + 0 ≤ g ∧ g < v4.heap.size) := Lib.hid (fun g hg => by have := ho.lt g hg; first | omega | (simp at this; omega) | (simp at this ⊢; omega))
      have Ox := Lib.hid ho
      clear hb hA ho
      have z0v4 : w.heap.size < v4.heap.size := by omega
      have z1v4 : w.heap.size + 1 < v4.heap.size := by omega
      have z2v4 : w.heap.size + 2 < v4.heap.size := by omega
      have z3v4 : gOw < v4.heap.size := by omega
      clear z0v3 z1v3 z2v3 z3v3
      go_wp2_with fail
      refine (toMass_c _ _ _ _ z1 hn1 _ (HW1.out.alloc _)).mono ?_
      rintro e v5 ⟨A3, C3, rfl, ho, hb⟩
      have hA : Below v4.heap.size v4 v5 := Below.trans (by repeat (first | exact Below.refl _ _ | (refine Below.alloc ?_ (by first | (simp <;> omega) | omega) _) | (refine Below.setCell ?_ (by first | (simp <;> omega) | omega) _) | (refine Below.drew ?_) | (refine below_drewN ?_ _))) (hb.mono (by first | exact Nat.le_refl _ | (simp <;> omega) | omega))
      have hsv5 : v4.heap.size + 1 ≤ v5.heap.size := by have := hb.size; first | (simp at this; omega) | omega
      replace km0 : v5.cell? ⟨w.heap.size, 0, none⟩ = some (.int .i64 s0) := (hA.cell (by show w.heap.size < _; omega)).trans km0
      replace km1 : v5.cell? ⟨w.heap.size, 1, none⟩ = some (.slice a0 z0.length cap0) := (hA.cell (by show w.heap.size < _; omega)).trans km1
      replace kn0 : v5.cell? ⟨w.heap.size + 1, 0, none⟩ = some (.int .i64 s1) := (hA.cell (by show w.heap.size + 1 < _; omega)).trans kn0
      replace kn1 : v5.cell? ⟨w.heap.size + 1, 1, none⟩ = some (.slice a1 z1.length cap1) := (hA.cell (by show w.heap.size + 1 < _; omega)).trans kn1
      replace kf0 : v5.cell? ⟨w.heap.size + 2, 0, none⟩ = some (.int .i64 x2) := (hA.cell (by show w.heap.size + 2 < _; omega)).trans kf0
      replace kf1 : v5.cell? ⟨w.heap.size + 2, 1, none⟩ = some (.int .i64 y2) := (hA.cell (by show w.heap.size + 2 < _; omega)).trans kf1
      replace kw0 : v5.cell? ⟨gOw, 0, none⟩ = some (.int .i64 S) := (hA.cell (by show gOw < _; omega)).trans kw0
      replace kw1 : v5.cell? ⟨gOw, 1, none⟩ = some (.slice AOw Z.length COw) := (hA.cell (by show gOw < _; omega)).trans kw1
      have kx0 : v5.cell? ⟨v4.heap.size, 0, none⟩ = some (.int .i64 s0) := (hb.cell (by show v4.heap.size < _; first | (simp <;> omega) | omega)).trans (by go_simp)
      have kx1 : v5.cell? ⟨v4.heap.size, 1, none⟩ = some (.slice A2 z0.length C2) := (hb.cell (by show v4.heap.size < _; first | (simp <;> omega) | omega)).trans (by go_simp)
      replace HW0 := Lib.hid (HW0.out.below hA)
      replace HW1 := Lib.hid (HW1.out.below hA)
      replace Ow := Lib.hid (Ow.out.below hA (fun g hg => (Ow.out.lt g hg).2))
      replace Ox := Lib.hid (Ox.out.below hA (fun g hg => (Ox.out.lt g hg).2))
      replace HB := Lib.hid (HB.out.trans (hA.mono HB.out.size))
      have LOy : Hid (∀ g, (.slice A3 z1.length C3 : Value).ownBlock = some g → v4.heap.size + 1 ≤ g ∧ g < v5.heap.size) := Lib.hid (fun g hg => by have := ho.lt g hg; first | omega | (simp at this; omega) | (simp at this ⊢; omega))
      have Oy := Lib.hid ho
      clear hb hA ho
      have z0v5 : w.heap.size < v5.heap.size := by omega
      have z1v5 : w.heap.size + 1 < v5.heap.size := by omega
      have z2v5 : w.heap.size + 2 < v5.heap.size := by omega
      have z3v5 : gOw < v5.heap.size := by omega
      have z4v5 : v4.heap.size < v5.heap.size := by omega
      clear z0v4 z1v4 z2v4 z3v4
      go_upto_region 11 with fail
      obtain ⟨v6, hv⟩ : ∃ x, x = v5.alloc (.cells #[.int .i64 s1, .slice A3 z1.length C3] 25) := ⟨_, rfl⟩
      rw [← hv]
      have hA : Below v5.heap.size v5 v6 := by rw [hv]; exact (Below.refl _ _).alloc (Nat.le_refl _) _
      have hsv6 : v5.heap.size + 1 ≤ v6.heap.size := by rw [hv]; simp
      replace km0 : v6.cell? ⟨w.heap.size, 0, none⟩ = some (.int .i64 s0) := (hA.cell (by show w.heap.size < _; omega)).trans km0
      replace km1 : v6.cell? ⟨w.heap.size, 1, none⟩ = some (.slice a0 z0.length cap0) := (hA.cell (by show w.heap.size < _; omega)).trans km1
      replace kn0 : v6.cell? ⟨w.heap.size + 1, 0, none⟩ = some (.int .i64 s1) := (hA.cell (by show w.heap.size + 1 < _; omega)).trans kn0
      replace kn1 : v6.cell? ⟨w.heap.size + 1, 1, none⟩ = some (.slice a1 z1.length cap1) := (hA.cell (by show w.heap.size + 1 < _; omega)).trans kn1
      replace kf0 : v6.cell? ⟨w.heap.size + 2, 0, none⟩ = some (.int .i64 x2) := (hA.cell (by show w.heap.size + 2 < _; omega)).trans kf0
      replace kf1 : v6.cell? ⟨w.heap.size + 2, 1, none⟩ = some (.int .i64 y2) := (hA.cell (by show w.heap.size + 2 < _; omega)).trans kf1
      replace kw0 : v6.cell? ⟨gOw, 0, none⟩ = some (.int .i64 S) := (hA.cell (by show gOw < _; omega)).trans kw0
      replace kw1 : v6.cell? ⟨gOw, 1, none⟩ = some (.slice AOw Z.length COw) := (hA.cell (by show gOw < _; omega)).trans kw1
      replace kx0 : v6.cell? ⟨v4.heap.size, 0, none⟩ = some (.int .i64 s0) := (hA.cell (by show v4.heap.size < _; omega)).trans kx0
      replace kx1 : v6.cell? ⟨v4.heap.size, 1, none⟩ = some (.slice A2 z0.length C2) := (hA.cell (by show v4.heap.size < _; omega)).trans kx1
      have ky0 : v6.cell? ⟨v5.heap.size, 0, none⟩ = some (.int .i64 s1) := by rw [hv]; go_simp
      have ky1 : v6.cell? ⟨v5.heap.size, 1, none⟩ = some (.slice A3 z1.length C3) := by rw [hv]; go_simp
      replace HW0 := Lib.hid (HW0.out.below hA)
      replace HW1 := Lib.hid (HW1.out.below hA)
      replace Ow := Lib.hid (Ow.out.below hA (fun g hg => (Ow.out.lt g hg).2))
      replace Ox := Lib.hid (Ox.out.below hA (fun g hg => (Ox.out.lt g hg).2))
      replace Oy := Lib.hid (Oy.out.below hA (fun g hg => (Oy.out.lt g hg).2))
      replace HB := Lib.hid (HB.out.trans (hA.mono HB.out.size))
      clear hA hv
      have z0v6 : w.heap.size < v6.heap.size := by omega
      have z1v6 : w.heap.size + 1 < v6.heap.size := by omega
      have z2v6 : w.heap.size + 2 < v6.heap.size := by omega
      have z3v6 : gOw < v6.heap.size := by omega
      have z4v6 : v4.heap.size < v6.heap.size := by omega
      have z5v6 : v5.heap.size < v6.heap.size := by omega
      clear z0v5 z1v5 z2v5 z3v5 z4v5
      go_cut [12, 13] (fun q0 q1 wx => ∃ (g : Nat) (A : Option Addr) (C : Nat), q0 = .pointer (some ⟨g, 0, none⟩) ∧ q1 = .bool b ∧ Below v6.heap.size v6 wx ∧ v6.heap.size ≤ g ∧ g < wx.heap.size ∧ wx.cell? ⟨g, 0, none⟩ = some (.int .i64 S) ∧ wx.cell? ⟨g, 1, none⟩ = some (.slice A Z.length C) ∧ Own wx v6.heap.size (.slice A Z.length C) Z ∧ ∀ j, (Value.slice A Z.length C).ownBlock = some j → j ≠ g)
      case first =>
        have HA : Hid (Below v6.heap.size v6 v6.drew) := Lib.hid (Below.refl _ _).drew
        have yy0 : w.heap.size + 2 < v6.heap.size := by omega
        have yy1 : w.heap.size + 2 < v6.heap.size := by omega
        have yy2 : v4.heap.size < v6.heap.size := by omega
        have yy3 : v4.heap.size < v6.heap.size := by omega
        have yy4 : v5.heap.size < v6.heap.size := by omega
        have yy5 : v5.heap.size < v6.heap.size := by omega
        have PM : Hid (IsRow .i64 v6.drew A2 z0.length C2 z0) := Lib.hid Ox.out.rowAt.drew
        have PN : Hid (IsRow .i64 v6.drew A3 z1.length C3 z1) := Lib.hid Oy.out.rowAt.drew
        go_region_held3 (fun w' => w'.cell? ⟨w.heap.size + 2, 0, none⟩ = some (.int .i64 x2) ∧ w'.cell? ⟨w.heap.size + 2, 1, none⟩ = some (.int .i64 y2) ∧ w'.cell? ⟨v4.heap.size, 0, none⟩ = some (.int .i64 s0) ∧ w'.cell? ⟨v4.heap.size, 1, none⟩ = some (.slice A2 z0.length C2) ∧ w'.cell? ⟨v5.heap.size, 0, none⟩ = some (.int .i64 s1) ∧ w'.cell? ⟨v5.heap.size, 1, none⟩ = some (.slice A3 z1.length C3))
          (first
            | with_reducible exact ⟨(HA.out.cell (p := ⟨w.heap.size + 2, 0, none⟩) yy0).trans kf0, (HA.out.cell (p := ⟨w.heap.size + 2, 1, none⟩) yy1).trans kf1, (HA.out.cell (p := ⟨v4.heap.size, 0, none⟩) yy2).trans kx0, (HA.out.cell (p := ⟨v4.heap.size, 1, none⟩) yy3).trans kx1, (HA.out.cell (p := ⟨v5.heap.size, 0, none⟩) yy4).trans ky0, (HA.out.cell (p := ⟨v5.heap.size, 1, none⟩) yy5).trans ky1⟩
            | with_reducible exact ⟨(World.cell?_alloc_lt tt _ ⟨w.heap.size + 2, 0, none⟩ (Nat.lt_of_lt_of_le yy0 HA.out.size)).trans ((HA.out.cell (p := ⟨w.heap.size + 2, 0, none⟩) yy0).trans kf0), (World.cell?_alloc_lt tt _ ⟨w.heap.size + 2, 1, none⟩ (Nat.lt_of_lt_of_le yy1 HA.out.size)).trans ((HA.out.cell (p := ⟨w.heap.size + 2, 1, none⟩) yy1).trans kf1), (World.cell?_alloc_lt tt _ ⟨v4.heap.size, 0, none⟩ (Nat.lt_of_lt_of_le yy2 HA.out.size)).trans ((HA.out.cell (p := ⟨v4.heap.size, 0, none⟩) yy2).trans kx0), (World.cell?_alloc_lt tt _ ⟨v4.heap.size, 1, none⟩ (Nat.lt_of_lt_of_le yy3 HA.out.size)).trans ((HA.out.cell (p := ⟨v4.heap.size, 1, none⟩) yy3).trans kx1), (World.cell?_alloc_lt tt _ ⟨v5.heap.size, 0, none⟩ (Nat.lt_of_lt_of_le yy4 HA.out.size)).trans ((HA.out.cell (p := ⟨v5.heap.size, 0, none⟩) yy4).trans ky0), (World.cell?_alloc_lt tt _ ⟨v5.heap.size, 1, none⟩ (Nat.lt_of_lt_of_le yy5 HA.out.size)).trans ((HA.out.cell (p := ⟨v5.heap.size, 1, none⟩) yy5).trans ky1)⟩
            | (go_split_ands; (refine ⟨?_, ?_, ?_, ?_, ?_, ?_⟩ <;> (rw [World.cell?_setCell_other _ _ _ _ (by intro e; injection e; omega), World.cell?_setCell_other _ _ _ _ (by intro e; injection e; omega)]; assumption)))
            | exact ⟨(World.cell?_alloc_lt v6 _ ⟨w.heap.size + 2, 0, none⟩ yy0).trans kf0, (World.cell?_alloc_lt v6 _ ⟨w.heap.size + 2, 1, none⟩ yy1).trans kf1, (World.cell?_alloc_lt v6 _ ⟨v4.heap.size, 0, none⟩ yy2).trans kx0, (World.cell?_alloc_lt v6 _ ⟨v4.heap.size, 1, none⟩ yy3).trans kx1, (World.cell?_alloc_lt v6 _ ⟨v5.heap.size, 0, none⟩ yy4).trans ky0, (World.cell?_alloc_lt v6 _ ⟨v5.heap.size, 1, none⟩ yy5).trans ky1⟩
            | exact ⟨kf0, kf1, kx0, kx1, ky0, ky1⟩)
          (first
            | (go_at_call 33; ((with_reducible refine (toFraction_c x2 y2 _).mono ?_)); rintro e tt ⟨rfl, hb⟩; have hsz := HA.out.size; have hbs := hb.size; (try simp at hbs); (first | with_reducible replace HA := Lib.hid (HA.out.trans (hb.mono HA.out.size)) | replace HA := Lib.hid ((HA.out.alloc HA.out.size _).trans (hb.mono (Nat.le_trans HA.out.size (by simp))))); (try (have r0' := (hb.cell r4).trans r0; have r1' := (hb.cell r4).trans r1; have r2' := (hb.frozen r4).trans r2; have r3' := (hb.frozen r4).trans r3; have r4' := Nat.lt_of_lt_of_le r4 hb.size; clear r0 r1 r2 r3 r4; have r0 := r0'; have r1 := r1'; have r2 := r2'; have r3 := r3'; have r4 := r4'; clear r0' r1' r2' r3' r4')); (try ((with_reducible have r9 := boxfacts hb); obtain ⟨r0, r1, r2, r3, r4⟩ := r9)); (try ((with_reducible have r9 := boxfacts (nodrewG hb)); obtain ⟨r0, r1, r2, r3, r4⟩ := r9)); (try (first | (with_reducible replace PM := Lib.hid (PM.out.below hb)) | (replace PM := Lib.hid ((PM.out.alloc _).below hb)))); (try (first | (with_reducible replace PN := Lib.hid (PN.out.below hb)) | (replace PN := Lib.hid ((PN.out.alloc _).below hb)))); clear hb)
            | (go_at_call 13; refine ((impl_MixMasses_c s0 _ _ _ z0 s1 _ _ _ z1 x2 y2 _ ?hp ?hq).mono (HS.out _)).mono ?_; (case hp => (first | with_reducible exact PM.out | with_reducible exact PM.out.alloc _)); (case hq => (first | with_reducible exact PN.out | with_reducible exact PN.out.alloc _)); rintro e tt ⟨A9, C9, rfl, ho, hb⟩; have HOL := ho.lt; (try simp only [World.size_alloc] at HOL); have HOL := Lib.hid HOL; have HOF := Lib.hid (ho.low (by first | exact HA.out.size | exact Nat.le_trans HA.out.size (by simp))); have hsz := HA.out.size; have hbs := hb.size; (try simp at hbs); (first | with_reducible replace HA := Lib.hid (HA.out.trans (hb.mono HA.out.size)) | replace HA := Lib.hid ((HA.out.alloc HA.out.size _).trans (hb.mono (Nat.le_trans HA.out.size (by simp))))); (try (have r0' := (hb.cell r4).trans r0; have r1' := (hb.cell r4).trans r1; have r2' := (hb.frozen r4).trans r2; have r3' := (hb.frozen r4).trans r3; have r4' := Nat.lt_of_lt_of_le r4 hb.size; clear r0 r1 r2 r3 r4; have r0 := r0'; have r1 := r1'; have r2 := r2'; have r3 := r3'; have r4 := r4'; clear r0' r1' r2' r3' r4')); (try ((with_reducible have r9 := boxfacts hb); obtain ⟨r0, r1, r2, r3, r4⟩ := r9)); (try ((with_reducible have r9 := boxfacts (nodrewG hb)); obtain ⟨r0, r1, r2, r3, r4⟩ := r9)); clear hb ho))
        all_goals
          go_wp2_with fail
          go_meet
          refine ⟨_, A9, C9, rfl, rfl, ?_, ?_, ?_, ?_, ?_, ?_, ?_⟩
          · repeat (first | exact HA.out | (refine Below.alloc ?_ HA.out.size _) | (refine Below.setCell ?_ (by first | assumption | (simp <;> omega) | omega) _))
          · first | assumption | omega | exact HA.out.size
          · first | (simp <;> omega) | omega
          · go_simp
          · go_simp
          · repeat (first | exact HOF.out | (refine Own.alloc ?_ _) | (refine Own.set ?_ _ (fun j hj => by have h9 := HOL.out j hj; first | omega | (simp; omega) | (show _ ≠ _; omega)) _))
          · intro j hj; have h9 := HOL.out j hj; first | omega | (simp; omega)
      case rest =>
        obtain ⟨gOg, AOg, COg, rfl, rfl, hA, hg1Og, hg2Og, kg0, kg1, ho, hl⟩ := hcut
        obtain ⟨v7, hv⟩ : ∃ v, v = wc := ⟨_, rfl⟩
        subst hv
        have hsv7 : v6.heap.size ≤ v7.heap.size := hA.size
        replace km0 : v7.cell? ⟨w.heap.size, 0, none⟩ = some (.int .i64 s0) := (hA.cell (by show w.heap.size < _; omega)).trans km0
        replace km1 : v7.cell? ⟨w.heap.size, 1, none⟩ = some (.slice a0 z0.length cap0) := (hA.cell (by show w.heap.size < _; omega)).trans km1
        replace kn0 : v7.cell? ⟨w.heap.size + 1, 0, none⟩ = some (.int .i64 s1) := (hA.cell (by show w.heap.size + 1 < _; omega)).trans kn0
        replace kn1 : v7.cell? ⟨w.heap.size + 1, 1, none⟩ = some (.slice a1 z1.length cap1) := (hA.cell (by show w.heap.size + 1 < _; omega)).trans kn1
        replace kf0 : v7.cell? ⟨w.heap.size + 2, 0, none⟩ = some (.int .i64 x2) := (hA.cell (by show w.heap.size + 2 < _; omega)).trans kf0
        replace kf1 : v7.cell? ⟨w.heap.size + 2, 1, none⟩ = some (.int .i64 y2) := (hA.cell (by show w.heap.size + 2 < _; omega)).trans kf1
        replace kw0 : v7.cell? ⟨gOw, 0, none⟩ = some (.int .i64 S) := (hA.cell (by show gOw < _; omega)).trans kw0
        replace kw1 : v7.cell? ⟨gOw, 1, none⟩ = some (.slice AOw Z.length COw) := (hA.cell (by show gOw < _; omega)).trans kw1
        replace kx0 : v7.cell? ⟨v4.heap.size, 0, none⟩ = some (.int .i64 s0) := (hA.cell (by show v4.heap.size < _; omega)).trans kx0
        replace kx1 : v7.cell? ⟨v4.heap.size, 1, none⟩ = some (.slice A2 z0.length C2) := (hA.cell (by show v4.heap.size < _; omega)).trans kx1
        replace ky0 : v7.cell? ⟨v5.heap.size, 0, none⟩ = some (.int .i64 s1) := (hA.cell (by show v5.heap.size < _; omega)).trans ky0
        replace ky1 : v7.cell? ⟨v5.heap.size, 1, none⟩ = some (.slice A3 z1.length C3) := (hA.cell (by show v5.heap.size < _; omega)).trans ky1
        replace HW0 := Lib.hid (HW0.out.below hA)
        replace HW1 := Lib.hid (HW1.out.below hA)
        replace Ow := Lib.hid (Ow.out.below hA (fun g hg => (Ow.out.lt g hg).2))
        replace Ox := Lib.hid (Ox.out.below hA (fun g hg => (Ox.out.lt g hg).2))
        replace Oy := Lib.hid (Oy.out.below hA (fun g hg => (Oy.out.lt g hg).2))
        replace HB := Lib.hid (HB.out.trans (hA.mono HB.out.size))
        have LOg : Hid (∀ g, (.slice AOg Z.length COg : Value).ownBlock = some g → (v6.heap.size ≤ g ∧ g < v7.heap.size) ∧ g ≠ gOg) := Lib.hid (fun g hg => ⟨ho.lt g hg, hl g hg⟩)
        have Og := Lib.hid ho
        clear hA ho hl
        have z0v7 : w.heap.size < v7.heap.size := by omega
        have z1v7 : w.heap.size + 1 < v7.heap.size := by omega
        have z2v7 : w.heap.size + 2 < v7.heap.size := by omega
        have z3v7 : gOw < v7.heap.size := by omega
        have z4v7 : v4.heap.size < v7.heap.size := by omega
        have z5v7 : v5.heap.size < v7.heap.size := by omega
        have z6v7 : gOg < v7.heap.size := by omega
        clear z0v6 z1v6 z2v6 z3v6 z4v6 z5v6
        go_wp2_with fail
        refine (eqMass_c _ _ _ _ _ _ Z _ Og.out.rowAt Ow.out.rowAt).mono ?_
        rintro e v8 ⟨rfl, hb⟩
        have hA : Below v7.heap.size v7 v8 := Below.trans (by repeat (first | exact Below.refl _ _ | (refine Below.alloc ?_ (by first | (simp <;> omega) | omega) _) | (refine Below.setCell ?_ (by first | (simp <;> omega) | omega) _) | (refine Below.drew ?_) | (refine below_drewN ?_ _))) (hb.mono (by first | exact Nat.le_refl _ | (simp <;> omega) | omega))
        have hsv8 : v7.heap.size ≤ v8.heap.size := hA.size
        replace km0 : v8.cell? ⟨w.heap.size, 0, none⟩ = some (.int .i64 s0) := (hA.cell (by show w.heap.size < _; omega)).trans km0
        replace km1 : v8.cell? ⟨w.heap.size, 1, none⟩ = some (.slice a0 z0.length cap0) := (hA.cell (by show w.heap.size < _; omega)).trans km1
        replace kn0 : v8.cell? ⟨w.heap.size + 1, 0, none⟩ = some (.int .i64 s1) := (hA.cell (by show w.heap.size + 1 < _; omega)).trans kn0
        replace kn1 : v8.cell? ⟨w.heap.size + 1, 1, none⟩ = some (.slice a1 z1.length cap1) := (hA.cell (by show w.heap.size + 1 < _; omega)).trans kn1
        replace kf0 : v8.cell? ⟨w.heap.size + 2, 0, none⟩ = some (.int .i64 x2) := (hA.cell (by show w.heap.size + 2 < _; omega)).trans kf0
        replace kf1 : v8.cell? ⟨w.heap.size + 2, 1, none⟩ = some (.int .i64 y2) := (hA.cell (by show w.heap.size + 2 < _; omega)).trans kf1
        replace kw0 : v8.cell? ⟨gOw, 0, none⟩ = some (.int .i64 S) := (hA.cell (by show gOw < _; omega)).trans kw0
        replace kw1 : v8.cell? ⟨gOw, 1, none⟩ = some (.slice AOw Z.length COw) := (hA.cell (by show gOw < _; omega)).trans kw1
        replace kx0 : v8.cell? ⟨v4.heap.size, 0, none⟩ = some (.int .i64 s0) := (hA.cell (by show v4.heap.size < _; omega)).trans kx0
        replace kx1 : v8.cell? ⟨v4.heap.size, 1, none⟩ = some (.slice A2 z0.length C2) := (hA.cell (by show v4.heap.size < _; omega)).trans kx1
        replace ky0 : v8.cell? ⟨v5.heap.size, 0, none⟩ = some (.int .i64 s1) := (hA.cell (by show v5.heap.size < _; omega)).trans ky0
        replace ky1 : v8.cell? ⟨v5.heap.size, 1, none⟩ = some (.slice A3 z1.length C3) := (hA.cell (by show v5.heap.size < _; omega)).trans ky1
        replace kg0 : v8.cell? ⟨gOg, 0, none⟩ = some (.int .i64 S) := (hA.cell (by show gOg < _; omega)).trans kg0
        replace kg1 : v8.cell? ⟨gOg, 1, none⟩ = some (.slice AOg Z.length COg) := (hA.cell (by show gOg < _; omega)).trans kg1
        replace HW0 := Lib.hid (HW0.out.below hA)
        replace HW1 := Lib.hid (HW1.out.below hA)
        replace Ow := Lib.hid (Ow.out.below hA (fun g hg => (Ow.out.lt g hg).2))
        replace Ox := Lib.hid (Ox.out.below hA (fun g hg => (Ox.out.lt g hg).2))
        replace Oy := Lib.hid (Oy.out.below hA (fun g hg => (Oy.out.lt g hg).2))
        replace Og := Lib.hid (Og.out.below hA (fun g hg => (Og.out.lt g hg).2))
        replace HB := Lib.hid (HB.out.trans (hA.mono HB.out.size))
        clear hb hA
        have z0v8 : w.heap.size < v8.heap.size := by omega
        have z1v8 : w.heap.size + 1 < v8.heap.size := by omega
        have z2v8 : w.heap.size + 2 < v8.heap.size := by omega
        have z3v8 : gOw < v8.heap.size := by omega
        have z4v8 : v4.heap.size < v8.heap.size := by omega
        have z5v8 : v5.heap.size < v8.heap.size := by omega
        have z6v8 : gOg < v8.heap.size := by omega
        clear z0v7 z1v7 z2v7 z3v7 z4v7 z5v7 z6v7
        go_upto_region 14 with fail
        have HWd := Lib.hid HW0.out.drew
        have Z0 : v8.heap.size ≤ v8.heap.size := Nat.le_refl _
        go_cut [64] (fun q0 wx => q0 = .bool false ∧ Below v8.heap.size v8 wx)
        case first =>
          have H0 : Hid (Below v8.heap.size v8 v8.drew) := Lib.hid (Below.refl _ _).drew
          go_region_with (first
            | (go_at_call 30; refine (toMass_c _ _ _ _ z0 hn0 _ HWd.out).mono ?_; rintro e t1 ⟨At, Ct, rfl, ho, hb⟩; have H1 := Lib.hid (H0.out.trans (hb.mono H0.out.size)); have km0_ : t1.cell? ⟨w.heap.size, 0, none⟩ = some (.int .i64 s0) := (H1.out.cell (by show w.heap.size < _; omega)).trans km0; have km1_ : t1.cell? ⟨w.heap.size, 1, none⟩ = some (.slice a0 z0.length cap0) := (H1.out.cell (by show w.heap.size < _; omega)).trans km1; have kn0_ : t1.cell? ⟨w.heap.size + 1, 0, none⟩ = some (.int .i64 s1) := (H1.out.cell (by show w.heap.size + 1 < _; omega)).trans kn0; have kn1_ : t1.cell? ⟨w.heap.size + 1, 1, none⟩ = some (.slice a1 z1.length cap1) := (H1.out.cell (by show w.heap.size + 1 < _; omega)).trans kn1; have kf0_ : t1.cell? ⟨w.heap.size + 2, 0, none⟩ = some (.int .i64 x2) := (H1.out.cell (by show w.heap.size + 2 < _; omega)).trans kf0; have kf1_ : t1.cell? ⟨w.heap.size + 2, 1, none⟩ = some (.int .i64 y2) := (H1.out.cell (by show w.heap.size + 2 < _; omega)).trans kf1; have kw0_ : t1.cell? ⟨gOw, 0, none⟩ = some (.int .i64 S) := (H1.out.cell (by show gOw < _; omega)).trans kw0; have kw1_ : t1.cell? ⟨gOw, 1, none⟩ = some (.slice AOw Z.length COw) := (H1.out.cell (by show gOw < _; omega)).trans kw1; have kx0_ : t1.cell? ⟨v4.heap.size, 0, none⟩ = some (.int .i64 s0) := (H1.out.cell (by show v4.heap.size < _; omega)).trans kx0; have kx1_ : t1.cell? ⟨v4.heap.size, 1, none⟩ = some (.slice A2 z0.length C2) := (H1.out.cell (by show v4.heap.size < _; omega)).trans kx1; have ky0_ : t1.cell? ⟨v5.heap.size, 0, none⟩ = some (.int .i64 s1) := (H1.out.cell (by show v5.heap.size < _; omega)).trans ky0; have ky1_ : t1.cell? ⟨v5.heap.size, 1, none⟩ = some (.slice A3 z1.length C3) := (H1.out.cell (by show v5.heap.size < _; omega)).trans ky1; have kg0_ : t1.cell? ⟨gOg, 0, none⟩ = some (.int .i64 S) := (H1.out.cell (by show gOg < _; omega)).trans kg0; have kg1_ : t1.cell? ⟨gOg, 1, none⟩ = some (.slice AOg Z.length COg) := (H1.out.cell (by show gOg < _; omega)).trans kg1; have Ot := Lib.hid ho; clear ho; clear hb)
            | (go_at_call 23; refine (eqMass_c _ _ _ _ _ _ z0 _ (Ox.out.below H1.out (fun g hg => (Ox.out.lt g hg).2)).rowAt Ot.out.rowAt).mono ?_; rintro e t2 ⟨rfl, hb⟩; have H2 := Lib.hid (H1.out.trans (hb.mono H1.out.size)); have km0_ : t2.cell? ⟨w.heap.size, 0, none⟩ = some (.int .i64 s0) := (H2.out.cell (by show w.heap.size < _; omega)).trans km0; have km1_ : t2.cell? ⟨w.heap.size, 1, none⟩ = some (.slice a0 z0.length cap0) := (H2.out.cell (by show w.heap.size < _; omega)).trans km1; have kn0_ : t2.cell? ⟨w.heap.size + 1, 0, none⟩ = some (.int .i64 s1) := (H2.out.cell (by show w.heap.size + 1 < _; omega)).trans kn0; have kn1_ : t2.cell? ⟨w.heap.size + 1, 1, none⟩ = some (.slice a1 z1.length cap1) := (H2.out.cell (by show w.heap.size + 1 < _; omega)).trans kn1; have kf0_ : t2.cell? ⟨w.heap.size + 2, 0, none⟩ = some (.int .i64 x2) := (H2.out.cell (by show w.heap.size + 2 < _; omega)).trans kf0; have kf1_ : t2.cell? ⟨w.heap.size + 2, 1, none⟩ = some (.int .i64 y2) := (H2.out.cell (by show w.heap.size + 2 < _; omega)).trans kf1; have kw0_ : t2.cell? ⟨gOw, 0, none⟩ = some (.int .i64 S) := (H2.out.cell (by show gOw < _; omega)).trans kw0; have kw1_ : t2.cell? ⟨gOw, 1, none⟩ = some (.slice AOw Z.length COw) := (H2.out.cell (by show gOw < _; omega)).trans kw1; have kx0_ : t2.cell? ⟨v4.heap.size, 0, none⟩ = some (.int .i64 s0) := (H2.out.cell (by show v4.heap.size < _; omega)).trans kx0; have kx1_ : t2.cell? ⟨v4.heap.size, 1, none⟩ = some (.slice A2 z0.length C2) := (H2.out.cell (by show v4.heap.size < _; omega)).trans kx1; have ky0_ : t2.cell? ⟨v5.heap.size, 0, none⟩ = some (.int .i64 s1) := (H2.out.cell (by show v5.heap.size < _; omega)).trans ky0; have ky1_ : t2.cell? ⟨v5.heap.size, 1, none⟩ = some (.slice A3 z1.length C3) := (H2.out.cell (by show v5.heap.size < _; omega)).trans ky1; have kg0_ : t2.cell? ⟨gOg, 0, none⟩ = some (.int .i64 S) := (H2.out.cell (by show gOg < _; omega)).trans kg0; have kg1_ : t2.cell? ⟨gOg, 1, none⟩ = some (.slice AOg Z.length COg) := (H2.out.cell (by show gOg < _; omega)).trans kg1; clear hb))
          all_goals
            go_wp2_with fail
            go_meet
            exact ⟨rfl, H2.out⟩
        case rest =>
          obtain ⟨rfl, hA⟩ := hcut
          obtain ⟨v9, hv⟩ : ∃ v, v = wc := ⟨_, rfl⟩
          subst hv
          have hsv9 : v8.heap.size ≤ v9.heap.size := hA.size
          replace km0 : v9.cell? ⟨w.heap.size, 0, none⟩ = some (.int .i64 s0) := (hA.cell (by show w.heap.size < _; omega)).trans km0
          replace km1 : v9.cell? ⟨w.heap.size, 1, none⟩ = some (.slice a0 z0.length cap0) := (hA.cell (by show w.heap.size < _; omega)).trans km1
          replace kn0 : v9.cell? ⟨w.heap.size + 1, 0, none⟩ = some (.int .i64 s1) := (hA.cell (by show w.heap.size + 1 < _; omega)).trans kn0
          replace kn1 : v9.cell? ⟨w.heap.size + 1, 1, none⟩ = some (.slice a1 z1.length cap1) := (hA.cell (by show w.heap.size + 1 < _; omega)).trans kn1
          replace kf0 : v9.cell? ⟨w.heap.size + 2, 0, none⟩ = some (.int .i64 x2) := (hA.cell (by show w.heap.size + 2 < _; omega)).trans kf0
          replace kf1 : v9.cell? ⟨w.heap.size + 2, 1, none⟩ = some (.int .i64 y2) := (hA.cell (by show w.heap.size + 2 < _; omega)).trans kf1
          replace kw0 : v9.cell? ⟨gOw, 0, none⟩ = some (.int .i64 S) := (hA.cell (by show gOw < _; omega)).trans kw0
          replace kw1 : v9.cell? ⟨gOw, 1, none⟩ = some (.slice AOw Z.length COw) := (hA.cell (by show gOw < _; omega)).trans kw1
          replace kx0 : v9.cell? ⟨v4.heap.size, 0, none⟩ = some (.int .i64 s0) := (hA.cell (by show v4.heap.size < _; omega)).trans kx0
          replace kx1 : v9.cell? ⟨v4.heap.size, 1, none⟩ = some (.slice A2 z0.length C2) := (hA.cell (by show v4.heap.size < _; omega)).trans kx1
          replace ky0 : v9.cell? ⟨v5.heap.size, 0, none⟩ = some (.int .i64 s1) := (hA.cell (by show v5.heap.size < _; omega)).trans ky0
          replace ky1 : v9.cell? ⟨v5.heap.size, 1, none⟩ = some (.slice A3 z1.length C3) := (hA.cell (by show v5.heap.size < _; omega)).trans ky1
          replace kg0 : v9.cell? ⟨gOg, 0, none⟩ = some (.int .i64 S) := (hA.cell (by show gOg < _; omega)).trans kg0
          replace kg1 : v9.cell? ⟨gOg, 1, none⟩ = some (.slice AOg Z.length COg) := (hA.cell (by show gOg < _; omega)).trans kg1
          replace HW0 := Lib.hid (HW0.out.below hA)
          replace HW1 := Lib.hid (HW1.out.below hA)
          replace Ow := Lib.hid (Ow.out.below hA (fun g hg => (Ow.out.lt g hg).2))
          replace Ox := Lib.hid (Ox.out.below hA (fun g hg => (Ox.out.lt g hg).2))
          replace Oy := Lib.hid (Oy.out.below hA (fun g hg => (Oy.out.lt g hg).2))
          replace Og := Lib.hid (Og.out.below hA (fun g hg => (Og.out.lt g hg).2))
          replace HB := Lib.hid (HB.out.trans (hA.mono HB.out.size))
          clear hA Z0
          have z0v9 : w.heap.size < v9.heap.size := by omega
          have z1v9 : w.heap.size + 1 < v9.heap.size := by omega
          have z2v9 : w.heap.size + 2 < v9.heap.size := by omega
          have z3v9 : gOw < v9.heap.size := by omega
          have z4v9 : v4.heap.size < v9.heap.size := by omega
          have z5v9 : v5.heap.size < v9.heap.size := by omega
          have z6v9 : gOg < v9.heap.size := by omega
          clear z0v8 z1v8 z2v8 z3v8 z4v8 z5v8 z6v8
          go_upto_region 16 with fail
          have HWd := Lib.hid HW1.out.drew
          have Z0 : v9.heap.size ≤ v9.heap.size := Nat.le_refl _
          go_cut [69] (fun q0 wx => q0 = .bool false ∧ Below v9.heap.size v9 wx)
          case first =>
            have H0 : Hid (Below v9.heap.size v9 v9.drew) := Lib.hid (Below.refl _ _).drew
            go_region_with (first
              | (go_at_call 30; refine (toMass_c _ _ _ _ z1 hn1 _ HWd.out).mono ?_; rintro e t1 ⟨At, Ct, rfl, ho, hb⟩; have H1 := Lib.hid (H0.out.trans (hb.mono H0.out.size)); have km0_ : t1.cell? ⟨w.heap.size, 0, none⟩ = some (.int .i64 s0) := (H1.out.cell (by show w.heap.size < _; omega)).trans km0; have km1_ : t1.cell? ⟨w.heap.size, 1, none⟩ = some (.slice a0 z0.length cap0) := (H1.out.cell (by show w.heap.size < _; omega)).trans km1; have kn0_ : t1.cell? ⟨w.heap.size + 1, 0, none⟩ = some (.int .i64 s1) := (H1.out.cell (by show w.heap.size + 1 < _; omega)).trans kn0; have kn1_ : t1.cell? ⟨w.heap.size + 1, 1, none⟩ = some (.slice a1 z1.length cap1) := (H1.out.cell (by show w.heap.size + 1 < _; omega)).trans kn1; have kf0_ : t1.cell? ⟨w.heap.size + 2, 0, none⟩ = some (.int .i64 x2) := (H1.out.cell (by show w.heap.size + 2 < _; omega)).trans kf0; have kf1_ : t1.cell? ⟨w.heap.size + 2, 1, none⟩ = some (.int .i64 y2) := (H1.out.cell (by show w.heap.size + 2 < _; omega)).trans kf1; have kw0_ : t1.cell? ⟨gOw, 0, none⟩ = some (.int .i64 S) := (H1.out.cell (by show gOw < _; omega)).trans kw0; have kw1_ : t1.cell? ⟨gOw, 1, none⟩ = some (.slice AOw Z.length COw) := (H1.out.cell (by show gOw < _; omega)).trans kw1; have kx0_ : t1.cell? ⟨v4.heap.size, 0, none⟩ = some (.int .i64 s0) := (H1.out.cell (by show v4.heap.size < _; omega)).trans kx0; have kx1_ : t1.cell? ⟨v4.heap.size, 1, none⟩ = some (.slice A2 z0.length C2) := (H1.out.cell (by show v4.heap.size < _; omega)).trans kx1; have ky0_ : t1.cell? ⟨v5.heap.size, 0, none⟩ = some (.int .i64 s1) := (H1.out.cell (by show v5.heap.size < _; omega)).trans ky0; have ky1_ : t1.cell? ⟨v5.heap.size, 1, none⟩ = some (.slice A3 z1.length C3) := (H1.out.cell (by show v5.heap.size < _; omega)).trans ky1; have kg0_ : t1.cell? ⟨gOg, 0, none⟩ = some (.int .i64 S) := (H1.out.cell (by show gOg < _; omega)).trans kg0; have kg1_ : t1.cell? ⟨gOg, 1, none⟩ = some (.slice AOg Z.length COg) := (H1.out.cell (by show gOg < _; omega)).trans kg1; have Ot := Lib.hid ho; clear ho; clear hb)
              | (go_at_call 23; refine (eqMass_c _ _ _ _ _ _ z1 _ (Oy.out.below H1.out (fun g hg => (Oy.out.lt g hg).2)).rowAt Ot.out.rowAt).mono ?_; rintro e t2 ⟨rfl, hb⟩; have H2 := Lib.hid (H1.out.trans (hb.mono H1.out.size)); have km0_ : t2.cell? ⟨w.heap.size, 0, none⟩ = some (.int .i64 s0) := (H2.out.cell (by show w.heap.size < _; omega)).trans km0; have km1_ : t2.cell? ⟨w.heap.size, 1, none⟩ = some (.slice a0 z0.length cap0) := (H2.out.cell (by show w.heap.size < _; omega)).trans km1; have kn0_ : t2.cell? ⟨w.heap.size + 1, 0, none⟩ = some (.int .i64 s1) := (H2.out.cell (by show w.heap.size + 1 < _; omega)).trans kn0; have kn1_ : t2.cell? ⟨w.heap.size + 1, 1, none⟩ = some (.slice a1 z1.length cap1) := (H2.out.cell (by show w.heap.size + 1 < _; omega)).trans kn1; have kf0_ : t2.cell? ⟨w.heap.size + 2, 0, none⟩ = some (.int .i64 x2) := (H2.out.cell (by show w.heap.size + 2 < _; omega)).trans kf0; have kf1_ : t2.cell? ⟨w.heap.size + 2, 1, none⟩ = some (.int .i64 y2) := (H2.out.cell (by show w.heap.size + 2 < _; omega)).trans kf1; have kw0_ : t2.cell? ⟨gOw, 0, none⟩ = some (.int .i64 S) := (H2.out.cell (by show gOw < _; omega)).trans kw0; have kw1_ : t2.cell? ⟨gOw, 1, none⟩ = some (.slice AOw Z.length COw) := (H2.out.cell (by show gOw < _; omega)).trans kw1; have kx0_ : t2.cell? ⟨v4.heap.size, 0, none⟩ = some (.int .i64 s0) := (H2.out.cell (by show v4.heap.size < _; omega)).trans kx0; have kx1_ : t2.cell? ⟨v4.heap.size, 1, none⟩ = some (.slice A2 z0.length C2) := (H2.out.cell (by show v4.heap.size < _; omega)).trans kx1; have ky0_ : t2.cell? ⟨v5.heap.size, 0, none⟩ = some (.int .i64 s1) := (H2.out.cell (by show v5.heap.size < _; omega)).trans ky0; have ky1_ : t2.cell? ⟨v5.heap.size, 1, none⟩ = some (.slice A3 z1.length C3) := (H2.out.cell (by show v5.heap.size < _; omega)).trans ky1; have kg0_ : t2.cell? ⟨gOg, 0, none⟩ = some (.int .i64 S) := (H2.out.cell (by show gOg < _; omega)).trans kg0; have kg1_ : t2.cell? ⟨gOg, 1, none⟩ = some (.slice AOg Z.length COg) := (H2.out.cell (by show gOg < _; omega)).trans kg1; clear hb))
            all_goals
              go_wp2_with fail
              go_meet
              exact ⟨rfl, H2.out⟩
          case rest =>
            obtain ⟨rfl, hA⟩ := hcut
            obtain ⟨v10, hv⟩ : ∃ v, v = wc := ⟨_, rfl⟩
            subst hv
            have hsv10 : v9.heap.size ≤ v10.heap.size := hA.size
            replace km0 : v10.cell? ⟨w.heap.size, 0, none⟩ = some (.int .i64 s0) := (hA.cell (by show w.heap.size < _; omega)).trans km0
            replace km1 : v10.cell? ⟨w.heap.size, 1, none⟩ = some (.slice a0 z0.length cap0) := (hA.cell (by show w.heap.size < _; omega)).trans km1
            replace kn0 : v10.cell? ⟨w.heap.size + 1, 0, none⟩ = some (.int .i64 s1) := (hA.cell (by show w.heap.size + 1 < _; omega)).trans kn0
            replace kn1 : v10.cell? ⟨w.heap.size + 1, 1, none⟩ = some (.slice a1 z1.length cap1) := (hA.cell (by show w.heap.size + 1 < _; omega)).trans kn1
            replace kf0 : v10.cell? ⟨w.heap.size + 2, 0, none⟩ = some (.int .i64 x2) := (hA.cell (by show w.heap.size + 2 < _; omega)).trans kf0
            replace kf1 : v10.cell? ⟨w.heap.size + 2, 1, none⟩ = some (.int .i64 y2) := (hA.cell (by show w.heap.size + 2 < _; omega)).trans kf1
            replace kw0 : v10.cell? ⟨gOw, 0, none⟩ = some (.int .i64 S) := (hA.cell (by show gOw < _; omega)).trans kw0
            replace kw1 : v10.cell? ⟨gOw, 1, none⟩ = some (.slice AOw Z.length COw) := (hA.cell (by show gOw < _; omega)).trans kw1
            replace kx0 : v10.cell? ⟨v4.heap.size, 0, none⟩ = some (.int .i64 s0) := (hA.cell (by show v4.heap.size < _; omega)).trans kx0
            replace kx1 : v10.cell? ⟨v4.heap.size, 1, none⟩ = some (.slice A2 z0.length C2) := (hA.cell (by show v4.heap.size < _; omega)).trans kx1
            replace ky0 : v10.cell? ⟨v5.heap.size, 0, none⟩ = some (.int .i64 s1) := (hA.cell (by show v5.heap.size < _; omega)).trans ky0
            replace ky1 : v10.cell? ⟨v5.heap.size, 1, none⟩ = some (.slice A3 z1.length C3) := (hA.cell (by show v5.heap.size < _; omega)).trans ky1
            replace kg0 : v10.cell? ⟨gOg, 0, none⟩ = some (.int .i64 S) := (hA.cell (by show gOg < _; omega)).trans kg0
            replace kg1 : v10.cell? ⟨gOg, 1, none⟩ = some (.slice AOg Z.length COg) := (hA.cell (by show gOg < _; omega)).trans kg1
            replace HW0 := Lib.hid (HW0.out.below hA)
            replace HW1 := Lib.hid (HW1.out.below hA)
            replace Ow := Lib.hid (Ow.out.below hA (fun g hg => (Ow.out.lt g hg).2))
            replace Ox := Lib.hid (Ox.out.below hA (fun g hg => (Ox.out.lt g hg).2))
            replace Oy := Lib.hid (Oy.out.below hA (fun g hg => (Oy.out.lt g hg).2))
            replace Og := Lib.hid (Og.out.below hA (fun g hg => (Og.out.lt g hg).2))
            replace HB := Lib.hid (HB.out.trans (hA.mono HB.out.size))
            clear hA Z0
            have z0v10 : w.heap.size < v10.heap.size := by omega
            have z1v10 : w.heap.size + 1 < v10.heap.size := by omega
            have z2v10 : w.heap.size + 2 < v10.heap.size := by omega
            have z3v10 : gOw < v10.heap.size := by omega
            have z4v10 : v4.heap.size < v10.heap.size := by omega
            have z5v10 : v5.heap.size < v10.heap.size := by omega
            have z6v10 : gOg < v10.heap.size := by omega
            clear z0v9 z1v9 z2v9 z3v9 z4v9 z5v9 z6v9
            go_wp2_with fail
            refine (markMass_c _ _ z0 _ _ _ 1 (by omega) (by omega) _ rfl Ox.out).mono ?_
            rintro e v11 ⟨rfl, ho, hg⟩
            have hsv11 : v10.heap.size ≤ v11.heap.size := hg.size
            replace km0 : v11.cell? ⟨w.heap.size, 0, none⟩ = some (.int .i64 s0) := hg.cell km0 (by intro e; have h1 := LOx.out _ e.symm; first | omega | (simp at h1; omega) | (simp at h1))
            replace km1 : v11.cell? ⟨w.heap.size, 1, none⟩ = some (.slice a0 z0.length cap0) := hg.cell km1 (by intro e; have h1 := LOx.out _ e.symm; first | omega | (simp at h1; omega) | (simp at h1))
            replace kn0 : v11.cell? ⟨w.heap.size + 1, 0, none⟩ = some (.int .i64 s1) := hg.cell kn0 (by intro e; have h1 := LOx.out _ e.symm; first | omega | (simp at h1; omega) | (simp at h1))
            replace kn1 : v11.cell? ⟨w.heap.size + 1, 1, none⟩ = some (.slice a1 z1.length cap1) := hg.cell kn1 (by intro e; have h1 := LOx.out _ e.symm; first | omega | (simp at h1; omega) | (simp at h1))
            replace kf0 : v11.cell? ⟨w.heap.size + 2, 0, none⟩ = some (.int .i64 x2) := hg.cell kf0 (by intro e; have h1 := LOx.out _ e.symm; first | omega | (simp at h1; omega) | (simp at h1))
            replace kf1 : v11.cell? ⟨w.heap.size + 2, 1, none⟩ = some (.int .i64 y2) := hg.cell kf1 (by intro e; have h1 := LOx.out _ e.symm; first | omega | (simp at h1; omega) | (simp at h1))
            replace kw0 : v11.cell? ⟨gOw, 0, none⟩ = some (.int .i64 S) := hg.cell kw0 (by intro e; have h1 := LOx.out _ e.symm; first | omega | (simp at h1; omega) | (simp at h1))
            replace kw1 : v11.cell? ⟨gOw, 1, none⟩ = some (.slice AOw Z.length COw) := hg.cell kw1 (by intro e; have h1 := LOx.out _ e.symm; first | omega | (simp at h1; omega) | (simp at h1))
            replace kx0 : v11.cell? ⟨v4.heap.size, 0, none⟩ = some (.int .i64 s0) := hg.cell kx0 (by intro e; have h1 := LOx.out _ e.symm; first | omega | (simp at h1; omega) | (simp at h1))
            replace kx1 : v11.cell? ⟨v4.heap.size, 1, none⟩ = some (.slice A2 z0.length C2) := hg.cell kx1 (by intro e; have h1 := LOx.out _ e.symm; first | omega | (simp at h1; omega) | (simp at h1))
            replace ky0 : v11.cell? ⟨v5.heap.size, 0, none⟩ = some (.int .i64 s1) := hg.cell ky0 (by intro e; have h1 := LOx.out _ e.symm; first | omega | (simp at h1; omega) | (simp at h1))
            replace ky1 : v11.cell? ⟨v5.heap.size, 1, none⟩ = some (.slice A3 z1.length C3) := hg.cell ky1 (by intro e; have h1 := LOx.out _ e.symm; first | omega | (simp at h1; omega) | (simp at h1))
            replace kg0 : v11.cell? ⟨gOg, 0, none⟩ = some (.int .i64 S) := hg.cell kg0 (by intro e; have h1 := LOx.out _ e.symm; first | omega | (simp at h1; omega) | (simp at h1))
            replace kg1 : v11.cell? ⟨gOg, 1, none⟩ = some (.slice AOg Z.length COg) := hg.cell kg1 (by intro e; have h1 := LOx.out _ e.symm; first | omega | (simp at h1; omega) | (simp at h1))
            replace HW0 := Lib.hid (HW0.out.grown hg (fun hp b o e e2 => by have h1 := LOx.out b e2; have h2 := WHW0.out hp b o e; omega))
            replace HW1 := Lib.hid (HW1.out.grown hg (fun hp b o e e2 => by have h1 := LOx.out b e2; have h2 := WHW1.out hp b o e; omega))
            replace Ow := Lib.hid (Ow.out.grown hg (by
              rcases hy : (.slice AOw Z.length COw : Value).ownBlock with _ | g
              · exact .inl rfl
              · right; intro e; have h1 := LOw.out g hy; have h2 := LOx.out g e.symm; omega))
            replace Oy := Lib.hid (Oy.out.grown hg (by
              rcases hy : (.slice A3 z1.length C3 : Value).ownBlock with _ | g
              · exact .inl rfl
              · right; intro e; have h1 := LOy.out g hy; have h2 := LOx.out g e.symm; omega))
            replace Og := Lib.hid (Og.out.grown hg (by
              rcases hy : (.slice AOg Z.length COg : Value).ownBlock with _ | g
              · exact .inl rfl
              · right; intro e; have h1 := LOg.out g hy; have h2 := LOx.out g e.symm; omega))
            replace HB := Lib.hid (HB.out.grown hg HB.out.size (fun k hk => by have h1 := LOx.out k hk; omega))
            replace Ox := Lib.hid ho
            clear ho hg
            have z0v11 : w.heap.size < v11.heap.size := by omega
            have z1v11 : w.heap.size + 1 < v11.heap.size := by omega
            have z2v11 : w.heap.size + 2 < v11.heap.size := by omega
            have z3v11 : gOw < v11.heap.size := by omega
            have z4v11 : v4.heap.size < v11.heap.size := by omega
            have z5v11 : v5.heap.size < v11.heap.size := by omega
            have z6v11 : gOg < v11.heap.size := by omega
            clear z0v10 z1v10 z2v10 z3v10 z4v10 z5v10 z6v10
            go_wp2_with fail
            refine (markMass_c _ _ z1 _ _ _ (1 + z0.length) (by omega) (by omega) _ rfl Oy.out).mono ?_
            rintro e v12 ⟨rfl, ho, hg⟩
            have hsv12 : v11.heap.size ≤ v12.heap.size := hg.size
            replace km0 : v12.cell? ⟨w.heap.size, 0, none⟩ = some (.int .i64 s0) := hg.cell km0 (by intro e; have h1 := LOy.out _ e.symm; first | omega | (simp at h1; omega) | (simp at h1))
            replace km1 : v12.cell? ⟨w.heap.size, 1, none⟩ = some (.slice a0 z0.length cap0) := hg.cell km1 (by intro e; have h1 := LOy.out _ e.symm; first | omega | (simp at h1; omega) | (simp at h1))
            replace kn0 : v12.cell? ⟨w.heap.size + 1, 0, none⟩ = some (.int .i64 s1) := hg.cell kn0 (by intro e; have h1 := LOy.out _ e.symm; first | omega | (simp at h1; omega) | (simp at h1))
            replace kn1 : v12.cell? ⟨w.heap.size + 1, 1, none⟩ = some (.slice a1 z1.length cap1) := hg.cell kn1 (by intro e; have h1 := LOy.out _ e.symm; first | omega | (simp at h1; omega) | (simp at h1))
            replace kf0 : v12.cell? ⟨w.heap.size + 2, 0, none⟩ = some (.int .i64 x2) := hg.cell kf0 (by intro e; have h1 := LOy.out _ e.symm; first | omega | (simp at h1; omega) | (simp at h1))
            replace kf1 : v12.cell? ⟨w.heap.size + 2, 1, none⟩ = some (.int .i64 y2) := hg.cell kf1 (by intro e; have h1 := LOy.out _ e.symm; first | omega | (simp at h1; omega) | (simp at h1))
            replace kw0 : v12.cell? ⟨gOw, 0, none⟩ = some (.int .i64 S) := hg.cell kw0 (by intro e; have h1 := LOy.out _ e.symm; first | omega | (simp at h1; omega) | (simp at h1))
            replace kw1 : v12.cell? ⟨gOw, 1, none⟩ = some (.slice AOw Z.length COw) := hg.cell kw1 (by intro e; have h1 := LOy.out _ e.symm; first | omega | (simp at h1; omega) | (simp at h1))
            replace kx0 : v12.cell? ⟨v4.heap.size, 0, none⟩ = some (.int .i64 s0) := hg.cell kx0 (by intro e; have h1 := LOy.out _ e.symm; first | omega | (simp at h1; omega) | (simp at h1))
            replace kx1 : v12.cell? ⟨v4.heap.size, 1, none⟩ = some (.slice A2 z0.length C2) := hg.cell kx1 (by intro e; have h1 := LOy.out _ e.symm; first | omega | (simp at h1; omega) | (simp at h1))
            replace ky0 : v12.cell? ⟨v5.heap.size, 0, none⟩ = some (.int .i64 s1) := hg.cell ky0 (by intro e; have h1 := LOy.out _ e.symm; first | omega | (simp at h1; omega) | (simp at h1))
            replace ky1 : v12.cell? ⟨v5.heap.size, 1, none⟩ = some (.slice A3 z1.length C3) := hg.cell ky1 (by intro e; have h1 := LOy.out _ e.symm; first | omega | (simp at h1; omega) | (simp at h1))
            replace kg0 : v12.cell? ⟨gOg, 0, none⟩ = some (.int .i64 S) := hg.cell kg0 (by intro e; have h1 := LOy.out _ e.symm; first | omega | (simp at h1; omega) | (simp at h1))
            replace kg1 : v12.cell? ⟨gOg, 1, none⟩ = some (.slice AOg Z.length COg) := hg.cell kg1 (by intro e; have h1 := LOy.out _ e.symm; first | omega | (simp at h1; omega) | (simp at h1))
            replace HW0 := Lib.hid (HW0.out.grown hg (fun hp b o e e2 => by have h1 := LOy.out b e2; have h2 := WHW0.out hp b o e; omega))
            replace HW1 := Lib.hid (HW1.out.grown hg (fun hp b o e e2 => by have h1 := LOy.out b e2; have h2 := WHW1.out hp b o e; omega))
            replace Ow := Lib.hid (Ow.out.grown hg (by
              rcases hy : (.slice AOw Z.length COw : Value).ownBlock with _ | g
              · exact .inl rfl
              · right; intro e; have h1 := LOw.out g hy; have h2 := LOy.out g e.symm; omega))
            replace Ox := Lib.hid (Ox.out.grown hg (by
              rcases hy : (.slice A2 z0.length C2 : Value).ownBlock with _ | g
              · exact .inl rfl
              · right; intro e; have h1 := LOx.out g hy; have h2 := LOy.out g e.symm; omega))
            replace Og := Lib.hid (Og.out.grown hg (by
              rcases hy : (.slice AOg Z.length COg : Value).ownBlock with _ | g
              · exact .inl rfl
              · right; intro e; have h1 := LOg.out g hy; have h2 := LOy.out g e.symm; omega))
            replace HB := Lib.hid (HB.out.grown hg HB.out.size (fun k hk => by have h1 := LOy.out k hk; omega))
            replace Oy := Lib.hid ho
            clear ho hg
            have z0v12 : w.heap.size < v12.heap.size := by omega
            have z1v12 : w.heap.size + 1 < v12.heap.size := by omega
            have z2v12 : w.heap.size + 2 < v12.heap.size := by omega
            have z3v12 : gOw < v12.heap.size := by omega
            have z4v12 : v4.heap.size < v12.heap.size := by omega
            have z5v12 : v5.heap.size < v12.heap.size := by omega
            have z6v12 : gOg < v12.heap.size := by omega
            clear z0v11 z1v11 z2v11 z3v11 z4v11 z5v11 z6v11
            go_wp2_with fail
            refine (eqMass_c _ _ _ _ _ _ Z _ Og.out.rowAt Ow.out.rowAt).mono ?_
            rintro e v13 ⟨rfl, hb⟩
            have hA : Below v12.heap.size v12 v13 := Below.trans (by repeat (first | exact Below.refl _ _ | (refine Below.alloc ?_ (by first | (simp <;> omega) | omega) _) | (refine Below.setCell ?_ (by first | (simp <;> omega) | omega) _) | (refine Below.drew ?_) | (refine below_drewN ?_ _))) (hb.mono (by first | exact Nat.le_refl _ | (simp <;> omega) | omega))
            have hsv13 : v12.heap.size ≤ v13.heap.size := hA.size
            replace km0 : v13.cell? ⟨w.heap.size, 0, none⟩ = some (.int .i64 s0) := (hA.cell (by show w.heap.size < _; omega)).trans km0
            replace km1 : v13.cell? ⟨w.heap.size, 1, none⟩ = some (.slice a0 z0.length cap0) := (hA.cell (by show w.heap.size < _; omega)).trans km1
            replace kn0 : v13.cell? ⟨w.heap.size + 1, 0, none⟩ = some (.int .i64 s1) := (hA.cell (by show w.heap.size + 1 < _; omega)).trans kn0
            replace kn1 : v13.cell? ⟨w.heap.size + 1, 1, none⟩ = some (.slice a1 z1.length cap1) := (hA.cell (by show w.heap.size + 1 < _; omega)).trans kn1
            replace kf0 : v13.cell? ⟨w.heap.size + 2, 0, none⟩ = some (.int .i64 x2) := (hA.cell (by show w.heap.size + 2 < _; omega)).trans kf0
            replace kf1 : v13.cell? ⟨w.heap.size + 2, 1, none⟩ = some (.int .i64 y2) := (hA.cell (by show w.heap.size + 2 < _; omega)).trans kf1
            replace kw0 : v13.cell? ⟨gOw, 0, none⟩ = some (.int .i64 S) := (hA.cell (by show gOw < _; omega)).trans kw0
            replace kw1 : v13.cell? ⟨gOw, 1, none⟩ = some (.slice AOw Z.length COw) := (hA.cell (by show gOw < _; omega)).trans kw1
            replace kx0 : v13.cell? ⟨v4.heap.size, 0, none⟩ = some (.int .i64 s0) := (hA.cell (by show v4.heap.size < _; omega)).trans kx0
            replace kx1 : v13.cell? ⟨v4.heap.size, 1, none⟩ = some (.slice A2 z0.length C2) := (hA.cell (by show v4.heap.size < _; omega)).trans kx1
            replace ky0 : v13.cell? ⟨v5.heap.size, 0, none⟩ = some (.int .i64 s1) := (hA.cell (by show v5.heap.size < _; omega)).trans ky0
            replace ky1 : v13.cell? ⟨v5.heap.size, 1, none⟩ = some (.slice A3 z1.length C3) := (hA.cell (by show v5.heap.size < _; omega)).trans ky1
            replace kg0 : v13.cell? ⟨gOg, 0, none⟩ = some (.int .i64 S) := (hA.cell (by show gOg < _; omega)).trans kg0
            replace kg1 : v13.cell? ⟨gOg, 1, none⟩ = some (.slice AOg Z.length COg) := (hA.cell (by show gOg < _; omega)).trans kg1
            replace HW0 := Lib.hid (HW0.out.below hA)
            replace HW1 := Lib.hid (HW1.out.below hA)
            replace Ow := Lib.hid (Ow.out.below hA (fun g hg => (Ow.out.lt g hg).2))
            replace Ox := Lib.hid (Ox.out.below hA (fun g hg => (Ox.out.lt g hg).2))
            replace Oy := Lib.hid (Oy.out.below hA (fun g hg => (Oy.out.lt g hg).2))
            replace Og := Lib.hid (Og.out.below hA (fun g hg => (Og.out.lt g hg).2))
            replace HB := Lib.hid (HB.out.trans (hA.mono HB.out.size))
            clear hb hA
            have z0v13 : w.heap.size < v13.heap.size := by omega
            have z1v13 : w.heap.size + 1 < v13.heap.size := by omega
            have z2v13 : w.heap.size + 2 < v13.heap.size := by omega
            have z3v13 : gOw < v13.heap.size := by omega
            have z4v13 : v4.heap.size < v13.heap.size := by omega
            have z5v13 : v5.heap.size < v13.heap.size := by omega
            have z6v13 : gOg < v13.heap.size := by omega
            clear z0v12 z1v12 z2v12 z3v12 z4v12 z5v12 z6v12
            go_wp2_with fail
            refine (markMass_c _ _ Z _ _ _ 1 (by omega) (by omega) _ rfl Og.out).mono ?_
            rintro e v14 ⟨rfl, ho, hg⟩
            have hsv14 : v13.heap.size ≤ v14.heap.size := hg.size
            replace km0 : v14.cell? ⟨w.heap.size, 0, none⟩ = some (.int .i64 s0) := hg.cell km0 (by intro e; have h1 := LOg.out _ e.symm; first | omega | (simp at h1; omega) | (simp at h1))
            replace km1 : v14.cell? ⟨w.heap.size, 1, none⟩ = some (.slice a0 z0.length cap0) := hg.cell km1 (by intro e; have h1 := LOg.out _ e.symm; first | omega | (simp at h1; omega) | (simp at h1))
            replace kn0 : v14.cell? ⟨w.heap.size + 1, 0, none⟩ = some (.int .i64 s1) := hg.cell kn0 (by intro e; have h1 := LOg.out _ e.symm; first | omega | (simp at h1; omega) | (simp at h1))
            replace kn1 : v14.cell? ⟨w.heap.size + 1, 1, none⟩ = some (.slice a1 z1.length cap1) := hg.cell kn1 (by intro e; have h1 := LOg.out _ e.symm; first | omega | (simp at h1; omega) | (simp at h1))
            replace kf0 : v14.cell? ⟨w.heap.size + 2, 0, none⟩ = some (.int .i64 x2) := hg.cell kf0 (by intro e; have h1 := LOg.out _ e.symm; first | omega | (simp at h1; omega) | (simp at h1))
            replace kf1 : v14.cell? ⟨w.heap.size + 2, 1, none⟩ = some (.int .i64 y2) := hg.cell kf1 (by intro e; have h1 := LOg.out _ e.symm; first | omega | (simp at h1; omega) | (simp at h1))
            replace kw0 : v14.cell? ⟨gOw, 0, none⟩ = some (.int .i64 S) := hg.cell kw0 (by intro e; have h1 := LOg.out _ e.symm; first | omega | (simp at h1; omega) | (simp at h1))
            replace kw1 : v14.cell? ⟨gOw, 1, none⟩ = some (.slice AOw Z.length COw) := hg.cell kw1 (by intro e; have h1 := LOg.out _ e.symm; first | omega | (simp at h1; omega) | (simp at h1))
            replace kx0 : v14.cell? ⟨v4.heap.size, 0, none⟩ = some (.int .i64 s0) := hg.cell kx0 (by intro e; have h1 := LOg.out _ e.symm; first | omega | (simp at h1; omega) | (simp at h1))
            replace kx1 : v14.cell? ⟨v4.heap.size, 1, none⟩ = some (.slice A2 z0.length C2) := hg.cell kx1 (by intro e; have h1 := LOg.out _ e.symm; first | omega | (simp at h1; omega) | (simp at h1))
            replace ky0 : v14.cell? ⟨v5.heap.size, 0, none⟩ = some (.int .i64 s1) := hg.cell ky0 (by intro e; have h1 := LOg.out _ e.symm; first | omega | (simp at h1; omega) | (simp at h1))
            replace ky1 : v14.cell? ⟨v5.heap.size, 1, none⟩ = some (.slice A3 z1.length C3) := hg.cell ky1 (by intro e; have h1 := LOg.out _ e.symm; first | omega | (simp at h1; omega) | (simp at h1))
            replace kg0 : v14.cell? ⟨gOg, 0, none⟩ = some (.int .i64 S) := hg.cell kg0 (by intro e; have h1 := LOg.out _ e.symm; first | omega | (simp at h1; omega) | (simp at h1))
            replace kg1 : v14.cell? ⟨gOg, 1, none⟩ = some (.slice AOg Z.length COg) := hg.cell kg1 (by intro e; have h1 := LOg.out _ e.symm; first | omega | (simp at h1; omega) | (simp at h1))
            replace HW0 := Lib.hid (HW0.out.grown hg (fun hp b o e e2 => by have h1 := LOg.out b e2; have h2 := WHW0.out hp b o e; omega))
            replace HW1 := Lib.hid (HW1.out.grown hg (fun hp b o e e2 => by have h1 := LOg.out b e2; have h2 := WHW1.out hp b o e; omega))
            replace Ow := Lib.hid (Ow.out.grown hg (by
              rcases hy : (.slice AOw Z.length COw : Value).ownBlock with _ | g
              · exact .inl rfl
              · right; intro e; have h1 := LOw.out g hy; have h2 := LOg.out g e.symm; omega))
            replace Ox := Lib.hid (Ox.out.grown hg (by
              rcases hy : (.slice A2 z0.length C2 : Value).ownBlock with _ | g
              · exact .inl rfl
              · right; intro e; have h1 := LOx.out g hy; have h2 := LOg.out g e.symm; omega))
            replace Oy := Lib.hid (Oy.out.grown hg (by
              rcases hy : (.slice A3 z1.length C3 : Value).ownBlock with _ | g
              · exact .inl rfl
              · right; intro e; have h1 := LOy.out g hy; have h2 := LOg.out g e.symm; omega))
            replace HB := Lib.hid (HB.out.grown hg HB.out.size (fun k hk => by have h1 := LOg.out k hk; omega))
            replace Og := Lib.hid ho
            clear ho hg
            have z0v14 : w.heap.size < v14.heap.size := by omega
            have z1v14 : w.heap.size + 1 < v14.heap.size := by omega
            have z2v14 : w.heap.size + 2 < v14.heap.size := by omega
            have z3v14 : gOw < v14.heap.size := by omega
            have z4v14 : v4.heap.size < v14.heap.size := by omega
            have z5v14 : v5.heap.size < v14.heap.size := by omega
            have z6v14 : gOg < v14.heap.size := by omega
            clear z0v13 z1v13 z2v13 z3v13 z4v13 z5v13 z6v13
            go_wp2_with fail
            refine (heldMass_c _ _ _ _ 1 (by omega) (by omega) _ Og.out.rowAt).mono ?_
            rintro e v15 ⟨rfl, hb⟩
            have hA : Below v14.heap.size v14 v15 := Below.trans (by repeat (first | exact Below.refl _ _ | (refine Below.alloc ?_ (by first | (simp <;> omega) | omega) _) | (refine Below.setCell ?_ (by first | (simp <;> omega) | omega) _) | (refine Below.drew ?_) | (refine below_drewN ?_ _))) (hb.mono (by first | exact Nat.le_refl _ | (simp <;> omega) | omega))
            have hsv15 : v14.heap.size ≤ v15.heap.size := hA.size
            replace km0 : v15.cell? ⟨w.heap.size, 0, none⟩ = some (.int .i64 s0) := (hA.cell (by show w.heap.size < _; omega)).trans km0
            replace km1 : v15.cell? ⟨w.heap.size, 1, none⟩ = some (.slice a0 z0.length cap0) := (hA.cell (by show w.heap.size < _; omega)).trans km1
            replace kn0 : v15.cell? ⟨w.heap.size + 1, 0, none⟩ = some (.int .i64 s1) := (hA.cell (by show w.heap.size + 1 < _; omega)).trans kn0
            replace kn1 : v15.cell? ⟨w.heap.size + 1, 1, none⟩ = some (.slice a1 z1.length cap1) := (hA.cell (by show w.heap.size + 1 < _; omega)).trans kn1
            replace kf0 : v15.cell? ⟨w.heap.size + 2, 0, none⟩ = some (.int .i64 x2) := (hA.cell (by show w.heap.size + 2 < _; omega)).trans kf0
            replace kf1 : v15.cell? ⟨w.heap.size + 2, 1, none⟩ = some (.int .i64 y2) := (hA.cell (by show w.heap.size + 2 < _; omega)).trans kf1
            replace kw0 : v15.cell? ⟨gOw, 0, none⟩ = some (.int .i64 S) := (hA.cell (by show gOw < _; omega)).trans kw0
            replace kw1 : v15.cell? ⟨gOw, 1, none⟩ = some (.slice AOw Z.length COw) := (hA.cell (by show gOw < _; omega)).trans kw1
            replace kx0 : v15.cell? ⟨v4.heap.size, 0, none⟩ = some (.int .i64 s0) := (hA.cell (by show v4.heap.size < _; omega)).trans kx0
            replace kx1 : v15.cell? ⟨v4.heap.size, 1, none⟩ = some (.slice A2 z0.length C2) := (hA.cell (by show v4.heap.size < _; omega)).trans kx1
            replace ky0 : v15.cell? ⟨v5.heap.size, 0, none⟩ = some (.int .i64 s1) := (hA.cell (by show v5.heap.size < _; omega)).trans ky0
            replace ky1 : v15.cell? ⟨v5.heap.size, 1, none⟩ = some (.slice A3 z1.length C3) := (hA.cell (by show v5.heap.size < _; omega)).trans ky1
            replace kg0 : v15.cell? ⟨gOg, 0, none⟩ = some (.int .i64 S) := (hA.cell (by show gOg < _; omega)).trans kg0
            replace kg1 : v15.cell? ⟨gOg, 1, none⟩ = some (.slice AOg Z.length COg) := (hA.cell (by show gOg < _; omega)).trans kg1
            replace HW0 := Lib.hid (HW0.out.below hA)
            replace HW1 := Lib.hid (HW1.out.below hA)
            replace Ow := Lib.hid (Ow.out.below hA (fun g hg => (Ow.out.lt g hg).2))
            replace Ox := Lib.hid (Ox.out.below hA (fun g hg => (Ox.out.lt g hg).2))
            replace Oy := Lib.hid (Oy.out.below hA (fun g hg => (Oy.out.lt g hg).2))
            replace Og := Lib.hid (Og.out.below hA (fun g hg => (Og.out.lt g hg).2))
            replace HB := Lib.hid (HB.out.trans (hA.mono HB.out.size))
            clear hb hA
            have z0v15 : w.heap.size < v15.heap.size := by omega
            have z1v15 : w.heap.size + 1 < v15.heap.size := by omega
            have z2v15 : w.heap.size + 2 < v15.heap.size := by omega
            have z3v15 : gOw < v15.heap.size := by omega
            have z4v15 : v4.heap.size < v15.heap.size := by omega
            have z5v15 : v5.heap.size < v15.heap.size := by omega
            have z6v15 : gOg < v15.heap.size := by omega
            clear z0v14 z1v14 z2v14 z3v14 z4v14 z5v14 z6v14
            go_upto_region 31 with fail
            go_cut [17, 18] (fun q0 q1 wx => ∃ (g : Nat) (A : Option Addr) (C : Nat), q0 = .pointer (some ⟨g, 0, none⟩) ∧ q1 = .bool b ∧ Below v15.heap.size v15 wx ∧ v15.heap.size ≤ g ∧ g < wx.heap.size ∧ wx.cell? ⟨g, 0, none⟩ = some (.int .i64 S) ∧ wx.cell? ⟨g, 1, none⟩ = some (.slice A Z.length C) ∧ Own wx v15.heap.size (.slice A Z.length C) Z ∧ ∀ j, (Value.slice A Z.length C).ownBlock = some j → j ≠ g)
            case first =>
              have HA : Hid (Below v15.heap.size v15 v15.drew) := Lib.hid (Below.refl _ _).drew
              have yy0 : w.heap.size < v15.heap.size := by omega
              have yy1 : w.heap.size < v15.heap.size := by omega
              have yy2 : w.heap.size + 1 < v15.heap.size := by omega
              have yy3 : w.heap.size + 1 < v15.heap.size := by omega
              have yy4 : w.heap.size + 2 < v15.heap.size := by omega
              have yy5 : w.heap.size + 2 < v15.heap.size := by omega
              have R0 : Hid (IsRow .i64 v15.drew a0 z0.length cap0 z0) := Lib.hid HW0.out.drew
              have R1 : Hid (IsRow .i64 v15.drew a1 z1.length cap1 z1) := Lib.hid HW1.out.drew
              go_region_held3 (fun w' => w'.cell? ⟨w.heap.size, 0, none⟩ = some (.int .i64 s0) ∧ w'.cell? ⟨w.heap.size, 1, none⟩ = some (.slice a0 z0.length cap0) ∧ w'.cell? ⟨w.heap.size + 1, 0, none⟩ = some (.int .i64 s1) ∧ w'.cell? ⟨w.heap.size + 1, 1, none⟩ = some (.slice a1 z1.length cap1) ∧ w'.cell? ⟨w.heap.size + 2, 0, none⟩ = some (.int .i64 x2) ∧ w'.cell? ⟨w.heap.size + 2, 1, none⟩ = some (.int .i64 y2))
                (first
                  | with_reducible exact ⟨(HA.out.cell (p := ⟨w.heap.size, 0, none⟩) yy0).trans km0, (HA.out.cell (p := ⟨w.heap.size, 1, none⟩) yy1).trans km1, (HA.out.cell (p := ⟨w.heap.size + 1, 0, none⟩) yy2).trans kn0, (HA.out.cell (p := ⟨w.heap.size + 1, 1, none⟩) yy3).trans kn1, (HA.out.cell (p := ⟨w.heap.size + 2, 0, none⟩) yy4).trans kf0, (HA.out.cell (p := ⟨w.heap.size + 2, 1, none⟩) yy5).trans kf1⟩
                  | with_reducible exact ⟨(World.cell?_alloc_lt tt _ ⟨w.heap.size, 0, none⟩ (Nat.lt_of_lt_of_le yy0 HA.out.size)).trans ((HA.out.cell (p := ⟨w.heap.size, 0, none⟩) yy0).trans km0), (World.cell?_alloc_lt tt _ ⟨w.heap.size, 1, none⟩ (Nat.lt_of_lt_of_le yy1 HA.out.size)).trans ((HA.out.cell (p := ⟨w.heap.size, 1, none⟩) yy1).trans km1), (World.cell?_alloc_lt tt _ ⟨w.heap.size + 1, 0, none⟩ (Nat.lt_of_lt_of_le yy2 HA.out.size)).trans ((HA.out.cell (p := ⟨w.heap.size + 1, 0, none⟩) yy2).trans kn0), (World.cell?_alloc_lt tt _ ⟨w.heap.size + 1, 1, none⟩ (Nat.lt_of_lt_of_le yy3 HA.out.size)).trans ((HA.out.cell (p := ⟨w.heap.size + 1, 1, none⟩) yy3).trans kn1), (World.cell?_alloc_lt tt _ ⟨w.heap.size + 2, 0, none⟩ (Nat.lt_of_lt_of_le yy4 HA.out.size)).trans ((HA.out.cell (p := ⟨w.heap.size + 2, 0, none⟩) yy4).trans kf0), (World.cell?_alloc_lt tt _ ⟨w.heap.size + 2, 1, none⟩ (Nat.lt_of_lt_of_le yy5 HA.out.size)).trans ((HA.out.cell (p := ⟨w.heap.size + 2, 1, none⟩) yy5).trans kf1)⟩
                  | (go_split_ands; (refine ⟨?_, ?_, ?_, ?_, ?_, ?_⟩ <;> (rw [World.cell?_setCell_other _ _ _ _ (by intro e; injection e; omega), World.cell?_setCell_other _ _ _ _ (by intro e; injection e; omega)]; assumption)))
                  | exact ⟨(World.cell?_alloc_lt v15 _ ⟨w.heap.size, 0, none⟩ yy0).trans km0, (World.cell?_alloc_lt v15 _ ⟨w.heap.size, 1, none⟩ yy1).trans km1, (World.cell?_alloc_lt v15 _ ⟨w.heap.size + 1, 0, none⟩ yy2).trans kn0, (World.cell?_alloc_lt v15 _ ⟨w.heap.size + 1, 1, none⟩ yy3).trans kn1, (World.cell?_alloc_lt v15 _ ⟨w.heap.size + 2, 0, none⟩ yy4).trans kf0, (World.cell?_alloc_lt v15 _ ⟨w.heap.size + 2, 1, none⟩ yy5).trans kf1⟩
                  | exact ⟨km0, km1, kn0, kn1, kf0, kf1⟩)
                (first
                  | (go_at_call 30; ((with_reducible refine (toMass_c s0 a0 z0.length cap0 z0 hn0 _ ?hr).mono ?_)); (case hr => (first | with_reducible exact R0.out | with_reducible exact R0.out.alloc _ | exact R0.out.alloc _)); rintro e tt ⟨AM, CM, rfl, ho, hb⟩; have hsz := HA.out.size; have hbs := hb.size; (try simp at hbs); (first | with_reducible replace HA := Lib.hid (HA.out.trans (hb.mono HA.out.size)) | replace HA := Lib.hid ((HA.out.alloc HA.out.size _).trans (hb.mono (Nat.le_trans HA.out.size (by simp))))); (try (have r0' := (hb.cell r4).trans r0; have r1' := (hb.cell r4).trans r1; have r2' := (hb.frozen r4).trans r2; have r3' := (hb.frozen r4).trans r3; have r4' := Nat.lt_of_lt_of_le r4 hb.size; clear r0 r1 r2 r3 r4; have r0 := r0'; have r1 := r1'; have r2 := r2'; have r3 := r3'; have r4 := r4'; clear r0' r1' r2' r3' r4')); (try ((with_reducible have r9 := boxfacts hb); obtain ⟨r0, r1, r2, r3, r4⟩ := r9)); (try ((with_reducible have r9 := boxfacts (nodrewG hb)); obtain ⟨r0, r1, r2, r3, r4⟩ := r9)); (try (first | (with_reducible replace R0 := Lib.hid (R0.out.below hb)) | (replace R0 := Lib.hid ((R0.out.alloc _).below hb)))); (try (first | (with_reducible replace R1 := Lib.hid (R1.out.below hb)) | (replace R1 := Lib.hid ((R1.out.alloc _).below hb)))); (try (first | (with_reducible replace PM := Lib.hid (PM.out.below hb)) | (replace PM := Lib.hid ((PM.out.alloc _).below hb)))); (try (first | (with_reducible replace PN := Lib.hid (PN.out.below hb)) | (replace PN := Lib.hid ((PN.out.alloc _).below hb)))); have PM := Lib.hid ho.rowAt; clear ho; clear hb)
                  | (go_at_call 30; ((with_reducible refine (toMass_c s1 a1 z1.length cap1 z1 hn1 _ ?hr).mono ?_)); (case hr => (first | with_reducible exact R1.out | with_reducible exact R1.out.alloc _ | exact R1.out.alloc _)); rintro e tt ⟨AN, CN, rfl, ho, hb⟩; have hsz := HA.out.size; have hbs := hb.size; (try simp at hbs); (first | with_reducible replace HA := Lib.hid (HA.out.trans (hb.mono HA.out.size)) | replace HA := Lib.hid ((HA.out.alloc HA.out.size _).trans (hb.mono (Nat.le_trans HA.out.size (by simp))))); (try (have r0' := (hb.cell r4).trans r0; have r1' := (hb.cell r4).trans r1; have r2' := (hb.frozen r4).trans r2; have r3' := (hb.frozen r4).trans r3; have r4' := Nat.lt_of_lt_of_le r4 hb.size; clear r0 r1 r2 r3 r4; have r0 := r0'; have r1 := r1'; have r2 := r2'; have r3 := r3'; have r4 := r4'; clear r0' r1' r2' r3' r4')); (try ((with_reducible have r9 := boxfacts hb); obtain ⟨r0, r1, r2, r3, r4⟩ := r9)); (try ((with_reducible have r9 := boxfacts (nodrewG hb)); obtain ⟨r0, r1, r2, r3, r4⟩ := r9)); (try (first | (with_reducible replace R0 := Lib.hid (R0.out.below hb)) | (replace R0 := Lib.hid ((R0.out.alloc _).below hb)))); (try (first | (with_reducible replace R1 := Lib.hid (R1.out.below hb)) | (replace R1 := Lib.hid ((R1.out.alloc _).below hb)))); (try (first | (with_reducible replace PM := Lib.hid (PM.out.below hb)) | (replace PM := Lib.hid ((PM.out.alloc _).below hb)))); (try (first | (with_reducible replace PN := Lib.hid (PN.out.below hb)) | (replace PN := Lib.hid ((PN.out.alloc _).below hb)))); have PN := Lib.hid ho.rowAt; clear ho; clear hb)
                  | (go_at_call 33; ((with_reducible refine (toFraction_c x2 y2 _).mono ?_)); rintro e tt ⟨rfl, hb⟩; have hsz := HA.out.size; have hbs := hb.size; (try simp at hbs); (first | with_reducible replace HA := Lib.hid (HA.out.trans (hb.mono HA.out.size)) | replace HA := Lib.hid ((HA.out.alloc HA.out.size _).trans (hb.mono (Nat.le_trans HA.out.size (by simp))))); (try (have r0' := (hb.cell r4).trans r0; have r1' := (hb.cell r4).trans r1; have r2' := (hb.frozen r4).trans r2; have r3' := (hb.frozen r4).trans r3; have r4' := Nat.lt_of_lt_of_le r4 hb.size; clear r0 r1 r2 r3 r4; have r0 := r0'; have r1 := r1'; have r2 := r2'; have r3 := r3'; have r4 := r4'; clear r0' r1' r2' r3' r4')); (try ((with_reducible have r9 := boxfacts hb); obtain ⟨r0, r1, r2, r3, r4⟩ := r9)); (try ((with_reducible have r9 := boxfacts (nodrewG hb)); obtain ⟨r0, r1, r2, r3, r4⟩ := r9)); (try (first | (with_reducible replace R0 := Lib.hid (R0.out.below hb)) | (replace R0 := Lib.hid ((R0.out.alloc _).below hb)))); (try (first | (with_reducible replace R1 := Lib.hid (R1.out.below hb)) | (replace R1 := Lib.hid ((R1.out.alloc _).below hb)))); (try (first | (with_reducible replace PM := Lib.hid (PM.out.below hb)) | (replace PM := Lib.hid ((PM.out.alloc _).below hb)))); (try (first | (with_reducible replace PN := Lib.hid (PN.out.below hb)) | (replace PN := Lib.hid ((PN.out.alloc _).below hb)))); clear hb)
                  | (go_at_call 13; refine ((impl_MixMasses_c s0 _ _ _ z0 s1 _ _ _ z1 x2 y2 _ ?hp ?hq).mono (HS.out _)).mono ?_; (case hp => (first | with_reducible exact PM.out | with_reducible exact PM.out.alloc _)); (case hq => (first | with_reducible exact PN.out | with_reducible exact PN.out.alloc _)); rintro e tt ⟨A9, C9, rfl, ho, hb⟩; have HOL := ho.lt; (try simp only [World.size_alloc] at HOL); have HOL := Lib.hid HOL; have HOF := Lib.hid (ho.low (by first | exact HA.out.size | exact Nat.le_trans HA.out.size (by simp))); have hsz := HA.out.size; have hbs := hb.size; (try simp at hbs); (first | with_reducible replace HA := Lib.hid (HA.out.trans (hb.mono HA.out.size)) | replace HA := Lib.hid ((HA.out.alloc HA.out.size _).trans (hb.mono (Nat.le_trans HA.out.size (by simp))))); (try (have r0' := (hb.cell r4).trans r0; have r1' := (hb.cell r4).trans r1; have r2' := (hb.frozen r4).trans r2; have r3' := (hb.frozen r4).trans r3; have r4' := Nat.lt_of_lt_of_le r4 hb.size; clear r0 r1 r2 r3 r4; have r0 := r0'; have r1 := r1'; have r2 := r2'; have r3 := r3'; have r4 := r4'; clear r0' r1' r2' r3' r4')); (try ((with_reducible have r9 := boxfacts hb); obtain ⟨r0, r1, r2, r3, r4⟩ := r9)); (try ((with_reducible have r9 := boxfacts (nodrewG hb)); obtain ⟨r0, r1, r2, r3, r4⟩ := r9)); clear hb ho))
              all_goals
                go_wp2_with fail
                go_meet
                refine ⟨_, A9, C9, rfl, rfl, ?_, ?_, ?_, ?_, ?_, ?_, ?_⟩
                · repeat (first | exact HA.out | (refine Below.alloc ?_ HA.out.size _) | (refine Below.setCell ?_ (by first | assumption | (simp <;> omega) | omega) _))
                · first | assumption | omega | exact HA.out.size
                · first | (simp <;> omega) | omega
                · go_simp
                · go_simp
                · repeat (first | exact HOF.out | (refine Own.alloc ?_ _) | (refine Own.set ?_ _ (fun j hj => by have h9 := HOL.out j hj; first | omega | (simp; omega) | (show _ ≠ _; omega)) _))
                · intro j hj; have h9 := HOL.out j hj; first | omega | (simp; omega)
            case rest =>
              obtain ⟨gOh, AOh, COh, rfl, rfl, hA, hg1Oh, hg2Oh, kh0, kh1, ho, hl⟩ := hcut
              obtain ⟨v16, hv⟩ : ∃ v, v = wc := ⟨_, rfl⟩
              subst hv
              have hsv16 : v15.heap.size ≤ v16.heap.size := hA.size
              replace km0 : v16.cell? ⟨w.heap.size, 0, none⟩ = some (.int .i64 s0) := (hA.cell (by show w.heap.size < _; omega)).trans km0
              replace km1 : v16.cell? ⟨w.heap.size, 1, none⟩ = some (.slice a0 z0.length cap0) := (hA.cell (by show w.heap.size < _; omega)).trans km1
              replace kn0 : v16.cell? ⟨w.heap.size + 1, 0, none⟩ = some (.int .i64 s1) := (hA.cell (by show w.heap.size + 1 < _; omega)).trans kn0
              replace kn1 : v16.cell? ⟨w.heap.size + 1, 1, none⟩ = some (.slice a1 z1.length cap1) := (hA.cell (by show w.heap.size + 1 < _; omega)).trans kn1
              replace kf0 : v16.cell? ⟨w.heap.size + 2, 0, none⟩ = some (.int .i64 x2) := (hA.cell (by show w.heap.size + 2 < _; omega)).trans kf0
              replace kf1 : v16.cell? ⟨w.heap.size + 2, 1, none⟩ = some (.int .i64 y2) := (hA.cell (by show w.heap.size + 2 < _; omega)).trans kf1
              replace kw0 : v16.cell? ⟨gOw, 0, none⟩ = some (.int .i64 S) := (hA.cell (by show gOw < _; omega)).trans kw0
              replace kw1 : v16.cell? ⟨gOw, 1, none⟩ = some (.slice AOw Z.length COw) := (hA.cell (by show gOw < _; omega)).trans kw1
              replace kx0 : v16.cell? ⟨v4.heap.size, 0, none⟩ = some (.int .i64 s0) := (hA.cell (by show v4.heap.size < _; omega)).trans kx0
              replace kx1 : v16.cell? ⟨v4.heap.size, 1, none⟩ = some (.slice A2 z0.length C2) := (hA.cell (by show v4.heap.size < _; omega)).trans kx1
              replace ky0 : v16.cell? ⟨v5.heap.size, 0, none⟩ = some (.int .i64 s1) := (hA.cell (by show v5.heap.size < _; omega)).trans ky0
              replace ky1 : v16.cell? ⟨v5.heap.size, 1, none⟩ = some (.slice A3 z1.length C3) := (hA.cell (by show v5.heap.size < _; omega)).trans ky1
              replace kg0 : v16.cell? ⟨gOg, 0, none⟩ = some (.int .i64 S) := (hA.cell (by show gOg < _; omega)).trans kg0
              replace kg1 : v16.cell? ⟨gOg, 1, none⟩ = some (.slice AOg Z.length COg) := (hA.cell (by show gOg < _; omega)).trans kg1
              replace HW0 := Lib.hid (HW0.out.below hA)
              replace HW1 := Lib.hid (HW1.out.below hA)
              replace Ow := Lib.hid (Ow.out.below hA (fun g hg => (Ow.out.lt g hg).2))
              replace Ox := Lib.hid (Ox.out.below hA (fun g hg => (Ox.out.lt g hg).2))
              replace Oy := Lib.hid (Oy.out.below hA (fun g hg => (Oy.out.lt g hg).2))
              replace Og := Lib.hid (Og.out.below hA (fun g hg => (Og.out.lt g hg).2))
              replace HB := Lib.hid (HB.out.trans (hA.mono HB.out.size))
              have LOh : Hid (∀ g, (.slice AOh Z.length COh : Value).ownBlock = some g → (v15.heap.size ≤ g ∧ g < v16.heap.size) ∧ g ≠ gOh) := Lib.hid (fun g hg => ⟨ho.lt g hg, hl g hg⟩)
              have Oh := Lib.hid ho
              clear hA ho hl
              have z0v16 : w.heap.size < v16.heap.size := by omega
              have z1v16 : w.heap.size + 1 < v16.heap.size := by omega
              have z2v16 : w.heap.size + 2 < v16.heap.size := by omega
              have z3v16 : gOw < v16.heap.size := by omega
              have z4v16 : v4.heap.size < v16.heap.size := by omega
              have z5v16 : v5.heap.size < v16.heap.size := by omega
              have z6v16 : gOg < v16.heap.size := by omega
              have z7v16 : gOh < v16.heap.size := by omega
              clear z0v15 z1v15 z2v15 z3v15 z4v15 z5v15 z6v15
              go_wp2_with fail
              refine (eqMass_c _ _ _ _ _ _ Z _ Oh.out.rowAt Ow.out.rowAt).mono ?_
              rintro e v17 ⟨rfl, hb⟩
              have hA : Below v16.heap.size v16 v17 := Below.trans (by repeat (first | exact Below.refl _ _ | (refine Below.alloc ?_ (by first | (simp <;> omega) | omega) _) | (refine Below.setCell ?_ (by first | (simp <;> omega) | omega) _) | (refine Below.drew ?_) | (refine below_drewN ?_ _))) (hb.mono (by first | exact Nat.le_refl _ | (simp <;> omega) | omega))
              have hsv17 : v16.heap.size ≤ v17.heap.size := hA.size
              replace km0 : v17.cell? ⟨w.heap.size, 0, none⟩ = some (.int .i64 s0) := (hA.cell (by show w.heap.size < _; omega)).trans km0
              replace km1 : v17.cell? ⟨w.heap.size, 1, none⟩ = some (.slice a0 z0.length cap0) := (hA.cell (by show w.heap.size < _; omega)).trans km1
              replace kn0 : v17.cell? ⟨w.heap.size + 1, 0, none⟩ = some (.int .i64 s1) := (hA.cell (by show w.heap.size + 1 < _; omega)).trans kn0
              replace kn1 : v17.cell? ⟨w.heap.size + 1, 1, none⟩ = some (.slice a1 z1.length cap1) := (hA.cell (by show w.heap.size + 1 < _; omega)).trans kn1
              replace kf0 : v17.cell? ⟨w.heap.size + 2, 0, none⟩ = some (.int .i64 x2) := (hA.cell (by show w.heap.size + 2 < _; omega)).trans kf0
              replace kf1 : v17.cell? ⟨w.heap.size + 2, 1, none⟩ = some (.int .i64 y2) := (hA.cell (by show w.heap.size + 2 < _; omega)).trans kf1
              replace kw0 : v17.cell? ⟨gOw, 0, none⟩ = some (.int .i64 S) := (hA.cell (by show gOw < _; omega)).trans kw0
              replace kw1 : v17.cell? ⟨gOw, 1, none⟩ = some (.slice AOw Z.length COw) := (hA.cell (by show gOw < _; omega)).trans kw1
              replace kx0 : v17.cell? ⟨v4.heap.size, 0, none⟩ = some (.int .i64 s0) := (hA.cell (by show v4.heap.size < _; omega)).trans kx0
              replace kx1 : v17.cell? ⟨v4.heap.size, 1, none⟩ = some (.slice A2 z0.length C2) := (hA.cell (by show v4.heap.size < _; omega)).trans kx1
              replace ky0 : v17.cell? ⟨v5.heap.size, 0, none⟩ = some (.int .i64 s1) := (hA.cell (by show v5.heap.size < _; omega)).trans ky0
              replace ky1 : v17.cell? ⟨v5.heap.size, 1, none⟩ = some (.slice A3 z1.length C3) := (hA.cell (by show v5.heap.size < _; omega)).trans ky1
              replace kg0 : v17.cell? ⟨gOg, 0, none⟩ = some (.int .i64 S) := (hA.cell (by show gOg < _; omega)).trans kg0
              replace kg1 : v17.cell? ⟨gOg, 1, none⟩ = some (.slice AOg Z.length COg) := (hA.cell (by show gOg < _; omega)).trans kg1
              replace kh0 : v17.cell? ⟨gOh, 0, none⟩ = some (.int .i64 S) := (hA.cell (by show gOh < _; omega)).trans kh0
              replace kh1 : v17.cell? ⟨gOh, 1, none⟩ = some (.slice AOh Z.length COh) := (hA.cell (by show gOh < _; omega)).trans kh1
              replace HW0 := Lib.hid (HW0.out.below hA)
              replace HW1 := Lib.hid (HW1.out.below hA)
              replace Ow := Lib.hid (Ow.out.below hA (fun g hg => (Ow.out.lt g hg).2))
              replace Ox := Lib.hid (Ox.out.below hA (fun g hg => (Ox.out.lt g hg).2))
              replace Oy := Lib.hid (Oy.out.below hA (fun g hg => (Oy.out.lt g hg).2))
              replace Og := Lib.hid (Og.out.below hA (fun g hg => (Og.out.lt g hg).2))
              replace Oh := Lib.hid (Oh.out.below hA (fun g hg => (Oh.out.lt g hg).2))
              replace HB := Lib.hid (HB.out.trans (hA.mono HB.out.size))
              clear hb hA
              have z0v17 : w.heap.size < v17.heap.size := by omega
              have z1v17 : w.heap.size + 1 < v17.heap.size := by omega
              have z2v17 : w.heap.size + 2 < v17.heap.size := by omega
              have z3v17 : gOw < v17.heap.size := by omega
              have z4v17 : v4.heap.size < v17.heap.size := by omega
              have z5v17 : v5.heap.size < v17.heap.size := by omega
              have z6v17 : gOg < v17.heap.size := by omega
              have z7v17 : gOh < v17.heap.size := by omega
              clear z0v16 z1v16 z2v16 z3v16 z4v16 z5v16 z6v16 z7v16
              go_wp2_with fail
              refine (heldMass_c _ _ _ _ 1 (by omega) (by omega) _ Og.out.rowAt).mono ?_
              rintro e v18 ⟨rfl, hb⟩
              have hA : Below v17.heap.size v17 v18 := Below.trans (by repeat (first | exact Below.refl _ _ | (refine Below.alloc ?_ (by first | (simp <;> omega) | omega) _) | (refine Below.setCell ?_ (by first | (simp <;> omega) | omega) _) | (refine Below.drew ?_) | (refine below_drewN ?_ _))) (hb.mono (by first | exact Nat.le_refl _ | (simp <;> omega) | omega))
              have hsv18 : v17.heap.size ≤ v18.heap.size := hA.size
              replace km0 : v18.cell? ⟨w.heap.size, 0, none⟩ = some (.int .i64 s0) := (hA.cell (by show w.heap.size < _; omega)).trans km0
              replace km1 : v18.cell? ⟨w.heap.size, 1, none⟩ = some (.slice a0 z0.length cap0) := (hA.cell (by show w.heap.size < _; omega)).trans km1
              replace kn0 : v18.cell? ⟨w.heap.size + 1, 0, none⟩ = some (.int .i64 s1) := (hA.cell (by show w.heap.size + 1 < _; omega)).trans kn0
              replace kn1 : v18.cell? ⟨w.heap.size + 1, 1, none⟩ = some (.slice a1 z1.length cap1) := (hA.cell (by show w.heap.size + 1 < _; omega)).trans kn1
              replace kf0 : v18.cell? ⟨w.heap.size + 2, 0, none⟩ = some (.int .i64 x2) := (hA.cell (by show w.heap.size + 2 < _; omega)).trans kf0
              replace kf1 : v18.cell? ⟨w.heap.size + 2, 1, none⟩ = some (.int .i64 y2) := (hA.cell (by show w.heap.size + 2 < _; omega)).trans kf1
              replace kw0 : v18.cell? ⟨gOw, 0, none⟩ = some (.int .i64 S) := (hA.cell (by show gOw < _; omega)).trans kw0
              replace kw1 : v18.cell? ⟨gOw, 1, none⟩ = some (.slice AOw Z.length COw) := (hA.cell (by show gOw < _; omega)).trans kw1
              replace kx0 : v18.cell? ⟨v4.heap.size, 0, none⟩ = some (.int .i64 s0) := (hA.cell (by show v4.heap.size < _; omega)).trans kx0
              replace kx1 : v18.cell? ⟨v4.heap.size, 1, none⟩ = some (.slice A2 z0.length C2) := (hA.cell (by show v4.heap.size < _; omega)).trans kx1
              replace ky0 : v18.cell? ⟨v5.heap.size, 0, none⟩ = some (.int .i64 s1) := (hA.cell (by show v5.heap.size < _; omega)).trans ky0
              replace ky1 : v18.cell? ⟨v5.heap.size, 1, none⟩ = some (.slice A3 z1.length C3) := (hA.cell (by show v5.heap.size < _; omega)).trans ky1
              replace kg0 : v18.cell? ⟨gOg, 0, none⟩ = some (.int .i64 S) := (hA.cell (by show gOg < _; omega)).trans kg0
              replace kg1 : v18.cell? ⟨gOg, 1, none⟩ = some (.slice AOg Z.length COg) := (hA.cell (by show gOg < _; omega)).trans kg1
              replace kh0 : v18.cell? ⟨gOh, 0, none⟩ = some (.int .i64 S) := (hA.cell (by show gOh < _; omega)).trans kh0
              replace kh1 : v18.cell? ⟨gOh, 1, none⟩ = some (.slice AOh Z.length COh) := (hA.cell (by show gOh < _; omega)).trans kh1
              replace HW0 := Lib.hid (HW0.out.below hA)
              replace HW1 := Lib.hid (HW1.out.below hA)
              replace Ow := Lib.hid (Ow.out.below hA (fun g hg => (Ow.out.lt g hg).2))
              replace Ox := Lib.hid (Ox.out.below hA (fun g hg => (Ox.out.lt g hg).2))
              replace Oy := Lib.hid (Oy.out.below hA (fun g hg => (Oy.out.lt g hg).2))
              replace Og := Lib.hid (Og.out.below hA (fun g hg => (Og.out.lt g hg).2))
              replace Oh := Lib.hid (Oh.out.below hA (fun g hg => (Oh.out.lt g hg).2))
              replace HB := Lib.hid (HB.out.trans (hA.mono HB.out.size))
              clear hb hA
              have z0v18 : w.heap.size < v18.heap.size := by omega
              have z1v18 : w.heap.size + 1 < v18.heap.size := by omega
              have z2v18 : w.heap.size + 2 < v18.heap.size := by omega
              have z3v18 : gOw < v18.heap.size := by omega
              have z4v18 : v4.heap.size < v18.heap.size := by omega
              have z5v18 : v5.heap.size < v18.heap.size := by omega
              have z6v18 : gOg < v18.heap.size := by omega
              have z7v18 : gOh < v18.heap.size := by omega
              clear z0v17 z1v17 z2v17 z3v17 z4v17 z5v17 z6v17 z7v17
              go_wp2_with fail
              go_ret
              exact ⟨rfl, HB.out⟩
  · by_cases hn0 : z0.length ≤ 1048576
    · have HE0 := Lib.hid (if_neg (by omega) : (if (1048576 : Int) < (z0.length : Int) then (-1 : Int) else 1048576 - z0.length) = 1048576 - z0.length)
      have HE1 := Lib.hid (if_pos (by omega) : (if (1048576 - z0.length : Int) < (z1.length : Int) then (-1 : Int) else 1048576 - z0.length - z1.length) = -1)
      have hz0 : ¬ (1048576 - (z0.length : Int) < 0) := by omega
      go_enter Try.func7, Try.ntmps7
      go_wp2_with fail
      refine (szMass_c _ _ _ _ 1048576 (by omega) hmax0 _).mono ?_
      rintro e v1 ⟨rfl, hb⟩
      rw [HE0.out]
      have kn0 : v1.cell? ⟨w.heap.size + 1, 0, none⟩ = some (.int .i64 s1) := (hb.cell (by show w.heap.size + 1 < _; simp <;> omega)).trans (by go_simp)
      have kn1 : v1.cell? ⟨w.heap.size + 1, 1, none⟩ = some (.slice a1 z1.length cap1) := (hb.cell (by show w.heap.size + 1 < _; simp <;> omega)).trans (by go_simp)
      have HB1 := Lib.hid (((((Below.refl w.heap.size w).alloc (Nat.le_refl _) _).alloc (by simp) _).alloc (by simp <;> omega) _).trans (hb.mono (by simp <;> omega)))
      clear hb
      go_wp2_with fail
      refine (szMass_c _ _ _ _ (1048576 - z0.length) (by omega) hmax1 _).mono ?_
      rintro e v2 ⟨rfl, hb⟩
      rw [HE1.out]
      have HB2 := Lib.hid (HB1.out.trans (hb.mono HB1.out.size))
      clear hb
      go_wp2_with fail
      go_ret
      exact ⟨rfl, HB2.out⟩
    · have HE := Lib.hid (if_pos (by omega) : (if (1048576 : Int) < (z0.length : Int) then (-1 : Int) else 1048576 - z0.length) = -1)
      go_enter Try.func7, Try.ntmps7
      go_wp2_with fail
      refine (szMass_c _ _ _ _ 1048576 (by omega) hmax0 _).mono ?_
      rintro e v1 ⟨rfl, hb⟩
      rw [HE.out]
      have HB1 := Lib.hid (((((Below.refl w.heap.size w).alloc (Nat.le_refl _) _).alloc (by simp) _).alloc (by simp <;> omega) _).trans (hb.mono (by simp <;> omega)))
      clear hb
      go_wp2_with fail
      go_ret
      exact ⟨rfl, HB1.out⟩

set_option maxRecDepth 100000 in
theorem lifted (os : Os) (started : os.Started) (H : Type) (enc : TypeId × Value → H) :
    ReturnsInHanded {} Try.checked os 7 .any (Rows.fnExactMixMassesSpec.pre6 enc Try.prog Try.f7 Rows.fnExactMixMassesRow.domain false) (Rows.fnExactMixMassesSpec.post enc Try.prog Try.f7 false true false false) := by
  refine returnsInHanded_of_change (C := Try.checked) own started (by kernel_rfl) Try.func7
    (ChangeSpec.witness6 (enc := enc) (C := Try.checked) false ⟨#[], #[.agg #[.int .i64 0, .slice none 0 0], .agg #[.int .i64 0, .slice none 0 0], .agg #[.int .i64 0, .int .i64 0]], []⟩ 8 (by kernel_rfl) (by kernel_rfl) (by kernel_rfl) (by kernel_rfl)) ?_
  intro W base args ds gs before hval0 hW hcnd _
  have hval : ∀ (j : Nat) t v, Try.f7.params[j]? = some t → args[j]? = some v → Value.okWide Try.prog W .any base t v := hval0
  have hW' := hW
  obtain ⟨p, q, hA0, hV, rfl, hfz, hnd⟩ := hW
  have hA : DataW.TrodAll enc Try.prog W 0 (fun _ => true) true Try.f7.params.toList args.toList ds p := hA0
  rw [Try.params7] at hA hval
  obtain ⟨v0, vs0, d0, ds0, p0, q0, hargs, rfl, rfl, h0, r0⟩ := trodAll_cons hA
  obtain ⟨v1, vs1, d1, ds1, p1, q1, rfl, rfl, rfl, h1, r1⟩ := trodAll_cons r0
  obtain ⟨v2, vs2, d2, ds2, p2, q2, rfl, rfl, rfl, h2, r2⟩ := trodAll_cons r1
  obtain ⟨rfl, rfl, rfl⟩ := trodAll_nil r2
  obtain rfl : args = #[v0, v1, v2] := by cases args; simp_all
  obtain ⟨rfl, rfl⟩ := trodVars_none hV
  have k0 := h0
  have lt0 : ∀ x ∈ p0, x.block < W.heap.size := by obtain ⟨m, hm⟩ := k0; exact DataW.trod_lt m _ _ _ hm
  obtain ⟨s0, a0, len0, cap0, z0, rfl, ws0, w0⟩ := get_mass Try.underlying44 (by kernel_rfl) (by kernel_rfl) Try.underlying3 Try.underlying23 (by kernel_rfl) (hval 0 44 v0 rfl rfl) h0
  have k1 := h1
  have lt1 : ∀ x ∈ p1, x.block < W.heap.size := by obtain ⟨m, hm⟩ := k1; exact DataW.trod_lt m _ _ _ hm
  obtain ⟨s1, a1, len1, cap1, z1, rfl, ws1, w1⟩ := get_mass Try.underlying44 (by kernel_rfl) (by kernel_rfl) Try.underlying3 Try.underlying23 (by kernel_rfl) (hval 1 44 v1 rfl rfl) h1
  have k2 := h2
  have lt2 : ∀ x ∈ p2, x.block < W.heap.size := by obtain ⟨m, hm⟩ := k2; exact DataW.trod_lt m _ _ _ hm
  obtain ⟨x2, y2, rfl, wx2, wy2⟩ := get_frac Try.underlying49 (by kernel_rfl) (by kernel_rfl) Try.underlying3 (hval 2 49 v2 rfl rfl) h2
  clear hA0 hval0
  refine (walk s0 a0 len0 cap0 z0 s1 a1 len1 cap1 z1 x2 y2 W ws0 w0 ws1 w1 wx2 wy2).mono fun e W' ⟨he, bel⟩ => ?_
  subst he
  exact ⟨_, rfl, _, _, _, [], _, [], hW', trodAll_mk1 (shut_bool Try.underlying4 _), (trodAll_cons_mk (Below.trod laidOut (by kernel_rfl) (of_decide_eq_true (by kernel_rfl)) k0 bel lt0) (trodAll_cons_mk (Below.trod laidOut (by kernel_rfl) (of_decide_eq_true (by kernel_rfl)) k1 bel lt1) (trodAll_cons_mk (Below.trod laidOut (by kernel_rfl) (of_decide_eq_true (by kernel_rfl)) k2 bel lt2) trodAll_mk0))), rfl, bel.frame _, fun h => by cases h⟩

theorem closed : joinedFacts Try.prog 7 Try.f7 Rows.fnExactMixMassesSpec Rows.fnExactMixMassesRow = true := by
  rw [joinedFacts.eq_1]
  simp only [Bool.and_eq_true]
  repeat' apply And.intro
  all_goals first | (with_reducible exact fact_enter) | (with_reducible exact laidOut) | (with_reducible exact fact_maps) | (with_reducible exact fact_heard) | (rw [fact_lifts]; try (as_aux_lemma => kernel_rfl)) | (rw [fact_make]; try (as_aux_lemma => kernel_rfl)) | (rw [fact_keys]; try (as_aux_lemma => kernel_rfl)) | (as_aux_lemma => kernel_rfl)

theorem holds : Rows.FnExactMixMassesSaid :=
  OpenClaim.holds_of_wide 7 Try.f7 rfl rfl rfl rfl rfl rfl rfl ⟨rfl, rfl, rfl, rfl, rfl⟩ rfl rfl rfl rfl rfl (by kernel_rfl) Try.func7 closed
    (of_decide_eq_true (by kernel_rfl)) (by unfold Func.isWrapper; rw [if_neg (of_decide_eq_false (by kernel_rfl))]; exact ⟨rfl, rfl⟩)
    (fun os started H enc _ => lifted os started H enc)
#print axioms holds
end Go.Proofs.Ytclhogmfnkdcaaa.fnExactMixMasses
