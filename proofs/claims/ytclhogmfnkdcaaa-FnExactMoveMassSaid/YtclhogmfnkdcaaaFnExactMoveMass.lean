/- FnExactMoveMass: for every input that can be read, the law returns true and its arguments read afterwards as before. Conditions: none. -/
import Derived.Test.YtclhogmfnkdcaaaMem
import Derived.Test.YtclhogmfnkdcaaaSigns
import Derived.Test.YtclhogmfnkdcaaaPlainE
import Derived.Test.YtclhogmfnkdcaaaWm
import Derived.Test.YtclhogmfnkdcaaaMa
import Derived.Test.YtclhogmfnkdcaaaMb
import Derived.Test.YtclhogmfnkdcaaaMc
import Derived.Test.YtclhogmfnkdcaaaMh
import Derived.Test.YtclhogmfnkdcaaaMi
import Derived.Test.YtclhogmfnkdcaaaGl
import Derived.Test.YtclhogmfnkdcaaaPlainC
import Derived.Test.YtclhogmfnkdcaaaWr
import Derived.Test.YtclhogmfnkdcaaaWs
import Derived.Test.YtclhogmfnkdcaaaWv
import Derived.Test.YtclhogmfnkdcaaaPlainF
import Derived.Test.YtclhogmfnkdcaaaPlainG
import Derived.Test.YtclhogmfnkdcaaaWe
import Derived.Test.YtclhogmfnkdcaaaMj
import Derived.Test.YtclhogmfnkdcaaaMk
import Derived.Test.YtclhogmfnkdcaaaMl
import Derived.Test.YtclhogmfnkdcaaaMn
import Derived.Test.YtclhogmfnkdcaaaMp
import Derived.Deep.RegionWith
import Derived.Deep.DeepCutAuto
namespace Go.Proofs.Ytclhogmfnkdcaaa.fnExactMoveMass
open Go.ChangeShapes Go.WideShapes Go.ChangeAt Go.RowKit
open Go.ChangeMaps (open_string shut_string)
set_option linter.unusedVariables false

set_option maxRecDepth 100000 in
set_option maxHeartbeats 4000000 in
theorem walk (s0 : Int) (a0 : Option Addr) (len0 cap0 : Nat) (z0 : List Int) (a1 : Option Addr) (len1 cap1 : Nat) (z1 : List Int) (w : World) (ws0 : Fits s0) (w0 : IsRow .i64 w a0 len0 cap0 z0) (w1 : IsRow .i64 w a1 len1 cap1 z1) :
    Calls Try.prog 8 #[.agg #[.int .i64 s0, .slice a0 len0 cap0], .slice a1 len1 cap1] w fun e w' => e = .returned (.bool true) ∧ Below w.heap.size w w' := by
  obtain rfl : z0.length = len0 := w0.len
  have hmax0 : z0.length ≤ 9223372036854775807 := Nat.le_trans w0.2.1 w0.2.2.1
  have HW0 := Lib.hid w0
  have WHW0 := Lib.hid w0.lowAt
  clear w0
  obtain rfl : z1.length = len1 := w1.len
  have hmax1 : z1.length ≤ 9223372036854775807 := Nat.le_trans w1.2.1 w1.2.2.1
  have HW1 := Lib.hid w1
  have WHW1 := Lib.hid w1.lowAt
  clear w1
  by_cases hn1 : z1.length ≤ 1048576
  rotate_left
  · have hn2 : 1048576 < (z1.length : Int) := by omega
    go_enter Try.func8, Try.ntmps8
    go_wp2_with fail
    go_ret
    exact ⟨rfl, (Below.refl _ _).alloc (Nat.le_refl _) _⟩
  have hn12 : (z1.length : Int) ≤ 1048576 := by omega
  by_cases hn0 : z0.length ≤ 1048576
  · have HE0 := Lib.hid (if_neg (by omega) : (if (1048576 : Int) < (z0.length : Int) then (-1 : Int) else 1048576 - z0.length) = 1048576 - z0.length)
    have hz0 : ¬ (1048576 - (z0.length : Int) < 0) := by omega
    have hlen : (selL (movMB s0 z0 z1) (movML z0 z1)).length ≤ 1048576 := by
      unfold selL
      split
      · unfold movML movL; rw [movF_len]; exact hn0
      · simp
    obtain ⟨Z, hZ⟩ : ∃ Z, selL (movMB s0 z0 z1) (movML z0 z1) = Z := ⟨_, rfl⟩
    obtain ⟨S, hS⟩ : ∃ S, sel (movMB s0 z0 z1) s0 = S := ⟨_, rfl⟩
    obtain ⟨b, hb0⟩ : ∃ b, movMB s0 z0 z1 = b := ⟨_, rfl⟩
    have HS := Lib.hid (show ∀ w e w', MassOk w (movMB s0 z0 z1) s0 (movML z0 z1) e w' → ∃ A C, e = .returned (.tuple #[.agg #[.int .i64 S, .slice A Z.length C], .bool b]) ∧ Own w' w.heap.size (.slice A Z.length C) Z ∧ Below w.heap.size w w' from by intro w e w' h; unfold MassOk at h; rw [hZ, hS, hb0] at h; exact h)
    have hbb : (b != b) = false := by simp
    rw [hZ] at hlen
    clear hZ hS hb0
    have HB := Lib.hid (Below.refl w.heap.size w)
    go_enter Try.func8, Try.ntmps8
    go_wp2_with fail
    refine (szMass_c _ _ _ _ 1048576 (by omega) hmax0 _).mono ?_
    rintro e v1 ⟨rfl, hb⟩
    have hA : Below w.heap.size w v1 := Below.trans (by repeat (first | exact Below.refl _ _ | (refine Below.alloc ?_ (by first | (simp <;> omega) | omega) _) | (refine Below.setCell ?_ (by first | (simp <;> omega) | omega) _) | (refine Below.drew ?_) | (refine below_drewN ?_ _))) (hb.mono (by first | exact Nat.le_refl _ | (simp <;> omega) | omega))
    have hsv1 : w.heap.size + 1 ≤ v1.heap.size := by have := hb.size; first | (simp at this; omega) | omega
    have km0 : v1.cell? ⟨w.heap.size, 0, none⟩ = some (.int .i64 s0) := (hb.cell (by show w.heap.size < _; first | (simp <;> omega) | omega)).trans (by go_simp)
    have km1 : v1.cell? ⟨w.heap.size, 1, none⟩ = some (.slice a0 z0.length cap0) := (hb.cell (by show w.heap.size < _; first | (simp <;> omega) | omega)).trans (by go_simp)
    replace HW0 := Lib.hid (HW0.out.below hA)
    replace HW1 := Lib.hid (HW1.out.below hA)
    replace HB := Lib.hid (HB.out.trans (hA.mono HB.out.size))
    clear hb hA
    have z0v1 : w.heap.size < v1.heap.size := by omega
    rw [HE0.out]
    go_wp2_with fail
    refine (toMass_c _ _ _ _ z0 hn0 _ HW0.out).mono ?_
    rintro e v2 ⟨A0, C0, rfl, ho, hb⟩
    have hA : Below v1.heap.size v1 v2 := Below.trans (by repeat (first | exact Below.refl _ _ | (refine Below.alloc ?_ (by first | (simp <;> omega) | omega) _) | (refine Below.setCell ?_ (by first | (simp <;> omega) | omega) _) | (refine Below.drew ?_) | (refine below_drewN ?_ _))) (hb.mono (by first | exact Nat.le_refl _ | (simp <;> omega) | omega))
    have hsv2 : v1.heap.size ≤ v2.heap.size := hA.size
    replace km0 : v2.cell? ⟨w.heap.size, 0, none⟩ = some (.int .i64 s0) := (hA.cell (by show w.heap.size < _; omega)).trans km0
    replace km1 : v2.cell? ⟨w.heap.size, 1, none⟩ = some (.slice a0 z0.length cap0) := (hA.cell (by show w.heap.size < _; omega)).trans km1
    replace HW0 := Lib.hid (HW0.out.below hA)
    replace HW1 := Lib.hid (HW1.out.below hA)
    replace HB := Lib.hid (HB.out.trans (hA.mono HB.out.size))
    have LOt : Hid (∀ g, (.slice A0 z0.length C0 : Value).ownBlock = some g → v1.heap.size + 0 ≤ g ∧ g < v2.heap.size) := Lib.hid (fun g hg => by have := ho.lt g hg; first | omega | (simp at this; omega) | (simp at this ⊢; omega))
    have Ot := Lib.hid ho
    clear hb hA ho
    have z0v2 : w.heap.size < v2.heap.size := by omega
    clear z0v1
    go_wp2_with fail
    refine (ret_own (toIntS_c _ _ _ z1 hn1 _ HW1.out)).mono ?_
    rintro e v3 ⟨A1, C1, rfl, ho, hb⟩
    have hA : Below v2.heap.size v2 v3 := Below.trans (by repeat (first | exact Below.refl _ _ | (refine Below.alloc ?_ (by first | (simp <;> omega) | omega) _) | (refine Below.setCell ?_ (by first | (simp <;> omega) | omega) _) | (refine Below.drew ?_) | (refine below_drewN ?_ _))) (hb.mono (by first | exact Nat.le_refl _ | (simp <;> omega) | omega))
    have hsv3 : v2.heap.size ≤ v3.heap.size := hA.size
    replace km0 : v3.cell? ⟨w.heap.size, 0, none⟩ = some (.int .i64 s0) := (hA.cell (by show w.heap.size < _; omega)).trans km0
    replace km1 : v3.cell? ⟨w.heap.size, 1, none⟩ = some (.slice a0 z0.length cap0) := (hA.cell (by show w.heap.size < _; omega)).trans km1
    replace HW0 := Lib.hid (HW0.out.below hA)
    replace HW1 := Lib.hid (HW1.out.below hA)
    replace Ot := Lib.hid (Ot.out.below hA (fun g hg => (Ot.out.lt g hg).2))
    replace HB := Lib.hid (HB.out.trans (hA.mono HB.out.size))
    have LOu : Hid (∀ g, (.slice A1 z1.length C1 : Value).ownBlock = some g → v2.heap.size + 0 ≤ g ∧ g < v3.heap.size) := Lib.hid (fun g hg => by have := ho.lt g hg; first | omega | (simp at this; omega) | (simp at this ⊢; omega))
    have Ou := Lib.hid ho
    clear hb hA ho
    have z0v3 : w.heap.size < v3.heap.size := by omega
    clear z0v2
    go_wp2_with fail
    refine ((spec_MoveMass_c s0 _ _ _ z0 _ _ _ z1 _ Ot.out.rowAt Ou.out.rowAt).mono (HS.out _)).mono ?_
    rintro e v4 ⟨A2, C2, rfl, ho, hb⟩
    have hA : Below v3.heap.size v3 v4 := Below.trans (by repeat (first | exact Below.refl _ _ | (refine Below.alloc ?_ (by first | (simp <;> omega) | omega) _) | (refine Below.setCell ?_ (by first | (simp <;> omega) | omega) _) | (refine Below.drew ?_) | (refine below_drewN ?_ _))) (hb.mono (by first | exact Nat.le_refl _ | (simp <;> omega) | omega))
    have hsv4 : v3.heap.size ≤ v4.heap.size := hA.size
    replace km0 : v4.cell? ⟨w.heap.size, 0, none⟩ = some (.int .i64 s0) := (hA.cell (by show w.heap.size < _; omega)).trans km0
    replace km1 : v4.cell? ⟨w.heap.size, 1, none⟩ = some (.slice a0 z0.length cap0) := (hA.cell (by show w.heap.size < _; omega)).trans km1
    replace HW0 := Lib.hid (HW0.out.below hA)
    replace HW1 := Lib.hid (HW1.out.below hA)
    replace Ot := Lib.hid (Ot.out.below hA (fun g hg => (Ot.out.lt g hg).2))
    replace Ou := Lib.hid (Ou.out.below hA (fun g hg => (Ou.out.lt g hg).2))
    replace HB := Lib.hid (HB.out.trans (hA.mono HB.out.size))
    have LOw : Hid (∀ g, (.slice A2 Z.length C2 : Value).ownBlock = some g → v3.heap.size + 0 ≤ g ∧ g < v4.heap.size) := Lib.hid (fun g hg => by have := ho.lt g hg; first | omega | (simp at this; omega) | (simp at this ⊢; omega))
    have Ow := Lib.hid ho
    clear hb hA ho
    have z0v4 : w.heap.size < v4.heap.size := by omega
    clear z0v3
    clear Ot Ou
    go_wp2_with fail
    refine (toMass_c _ _ _ _ z0 hn0 _ (HW0.out.alloc _)).mono ?_
    rintro e v5 ⟨A3, C3, rfl, ho, hb⟩
    have hA : Below v4.heap.size v4 v5 := Below.trans (by repeat (first | exact Below.refl _ _ | (refine Below.alloc ?_ (by first | (simp <;> omega) | omega) _) | (refine Below.setCell ?_ (by first | (simp <;> omega) | omega) _) | (refine Below.drew ?_) | (refine below_drewN ?_ _))) (hb.mono (by first | exact Nat.le_refl _ | (simp <;> omega) | omega))
    have hsv5 : v4.heap.size + 1 ≤ v5.heap.size := by have := hb.size; first | (simp at this; omega) | omega
    replace km0 : v5.cell? ⟨w.heap.size, 0, none⟩ = some (.int .i64 s0) := (hA.cell (by show w.heap.size < _; omega)).trans km0
    replace km1 : v5.cell? ⟨w.heap.size, 1, none⟩ = some (.slice a0 z0.length cap0) := (hA.cell (by show w.heap.size < _; omega)).trans km1
    have kw0 : v5.cell? ⟨v4.heap.size, 0, none⟩ = some (.int .i64 S) := (hb.cell (by show v4.heap.size < _; first | (simp <;> omega) | omega)).trans (by go_simp)
    have kw1 : v5.cell? ⟨v4.heap.size, 1, none⟩ = some (.slice A2 Z.length C2) := (hb.cell (by show v4.heap.size < _; first | (simp <;> omega) | omega)).trans (by go_simp)
    replace HW0 := Lib.hid (HW0.out.below hA)
    replace HW1 := Lib.hid (HW1.out.below hA)
    replace Ow := Lib.hid (Ow.out.below hA (fun g hg => (Ow.out.lt g hg).2))
    replace HB := Lib.hid (HB.out.trans (hA.mono HB.out.size))
    have LOx : Hid (∀ g, (.slice A3 z0.length C3 : Value).ownBlock = some g → v4.heap.size + 1 ≤ g ∧ g < v5.heap.size) := Lib.hid (fun g hg => by have := ho.lt g hg; first | omega | (simp at this; omega) | (simp at this ⊢; omega))
    have Ox := Lib.hid ho
    clear hb hA ho
    have z0v5 : w.heap.size < v5.heap.size := by omega
    have z1v5 : v4.heap.size < v5.heap.size := by omega
    clear z0v4
    go_wp2_with fail
    refine (ret_own (toIntS_c _ _ _ z1 hn1 _ (HW1.out.alloc _))).mono ?_
    rintro e v6 ⟨A4, C4, rfl, ho, hb⟩
    have hA : Below v5.heap.size v5 v6 := Below.trans (by repeat (first | exact Below.refl _ _ | (refine Below.alloc ?_ (by first | (simp <;> omega) | omega) _) | (refine Below.setCell ?_ (by first | (simp <;> omega) | omega) _) | (refine Below.drew ?_) | (refine below_drewN ?_ _))) (hb.mono (by first | exact Nat.le_refl _ | (simp <;> omega) | omega))
    have hsv6 : v5.heap.size + 1 ≤ v6.heap.size := by have := hb.size; first | (simp at this; omega) | omega
    replace km0 : v6.cell? ⟨w.heap.size, 0, none⟩ = some (.int .i64 s0) := (hA.cell (by show w.heap.size < _; omega)).trans km0
    replace km1 : v6.cell? ⟨w.heap.size, 1, none⟩ = some (.slice a0 z0.length cap0) := (hA.cell (by show w.heap.size < _; omega)).trans km1
    replace kw0 : v6.cell? ⟨v4.heap.size, 0, none⟩ = some (.int .i64 S) := (hA.cell (by show v4.heap.size < _; omega)).trans kw0
    replace kw1 : v6.cell? ⟨v4.heap.size, 1, none⟩ = some (.slice A2 Z.length C2) := (hA.cell (by show v4.heap.size < _; omega)).trans kw1
    have kx0 : v6.cell? ⟨v5.heap.size, 0, none⟩ = some (.int .i64 s0) := (hb.cell (by show v5.heap.size < _; first | (simp <;> omega) | omega)).trans (by go_simp)
    have kx1 : v6.cell? ⟨v5.heap.size, 1, none⟩ = some (.slice A3 z0.length C3) := (hb.cell (by show v5.heap.size < _; first | (simp <;> omega) | omega)).trans (by go_simp)
    replace HW0 := Lib.hid (HW0.out.below hA)
    replace HW1 := Lib.hid (HW1.out.below hA)
    replace Ow := Lib.hid (Ow.out.below hA (fun g hg => (Ow.out.lt g hg).2))
    replace Ox := Lib.hid (Ox.out.below hA (fun g hg => (Ox.out.lt g hg).2))
    replace HB := Lib.hid (HB.out.trans (hA.mono HB.out.size))
    have LOy : Hid (∀ g, (.slice A4 z1.length C4 : Value).ownBlock = some g → v5.heap.size + 1 ≤ g ∧ g < v6.heap.size) := Lib.hid (fun g hg => by have := ho.lt g hg; first | omega | (simp at this; omega) | (simp at this ⊢; omega))
    have Oy := Lib.hid ho
    clear hb hA ho
    have z0v6 : w.heap.size < v6.heap.size := by omega
    have z1v6 : v4.heap.size < v6.heap.size := by omega
    have z2v6 : v5.heap.size < v6.heap.size := by omega
    clear z0v5 z1v5
    go_wp2_with fail
    refine ((impl_MoveMass_c s0 _ _ _ z0 _ _ _ z1 _ Ox.out.rowAt Oy.out.rowAt).mono (HS.out _)).mono ?_
    rintro e v7 ⟨A5, C5, rfl, ho, hb⟩
    have hA : Below v6.heap.size v6 v7 := Below.trans (by repeat (first | exact Below.refl _ _ | (refine Below.alloc ?_ (by first | (simp <;> omega) | omega) _) | (refine Below.setCell ?_ (by first | (simp <;> omega) | omega) _) | (refine Below.drew ?_) | (refine below_drewN ?_ _))) (hb.mono (by first | exact Nat.le_refl _ | (simp <;> omega) | omega))
    have hsv7 : v6.heap.size ≤ v7.heap.size := hA.size
    replace km0 : v7.cell? ⟨w.heap.size, 0, none⟩ = some (.int .i64 s0) := (hA.cell (by show w.heap.size < _; omega)).trans km0
    replace km1 : v7.cell? ⟨w.heap.size, 1, none⟩ = some (.slice a0 z0.length cap0) := (hA.cell (by show w.heap.size < _; omega)).trans km1
    replace kw0 : v7.cell? ⟨v4.heap.size, 0, none⟩ = some (.int .i64 S) := (hA.cell (by show v4.heap.size < _; omega)).trans kw0
    replace kw1 : v7.cell? ⟨v4.heap.size, 1, none⟩ = some (.slice A2 Z.length C2) := (hA.cell (by show v4.heap.size < _; omega)).trans kw1
    replace kx0 : v7.cell? ⟨v5.heap.size, 0, none⟩ = some (.int .i64 s0) := (hA.cell (by show v5.heap.size < _; omega)).trans kx0
    replace kx1 : v7.cell? ⟨v5.heap.size, 1, none⟩ = some (.slice A3 z0.length C3) := (hA.cell (by show v5.heap.size < _; omega)).trans kx1
    replace HW0 := Lib.hid (HW0.out.below hA)
    replace HW1 := Lib.hid (HW1.out.below hA)
    replace Ow := Lib.hid (Ow.out.below hA (fun g hg => (Ow.out.lt g hg).2))
    replace Ox := Lib.hid (Ox.out.below hA (fun g hg => (Ox.out.lt g hg).2))
    replace Oy := Lib.hid (Oy.out.below hA (fun g hg => (Oy.out.lt g hg).2))
    replace HB := Lib.hid (HB.out.trans (hA.mono HB.out.size))
    have LOg : Hid (∀ g, (.slice A5 Z.length C5 : Value).ownBlock = some g → v6.heap.size + 0 ≤ g ∧ g < v7.heap.size) := Lib.hid (fun g hg => by have := ho.lt g hg; first | omega | (simp at this; omega) | (simp at this ⊢; omega))
    have Og := Lib.hid ho
    clear hb hA ho
    have z0v7 : w.heap.size < v7.heap.size := by omega
    have z1v7 : v4.heap.size < v7.heap.size := by omega
    have z2v7 : v5.heap.size < v7.heap.size := by omega
    clear z0v6 z1v6 z2v6
    go_wp2_with fail
    refine (eqMass_c _ _ _ _ _ _ Z _ (Og.out.rowAt.alloc _) (Ow.out.rowAt.alloc _)).mono ?_
    rintro e v8 ⟨rfl, hb⟩
    have hA : Below v7.heap.size v7 v8 := Below.trans (by repeat (first | exact Below.refl _ _ | (refine Below.alloc ?_ (by first | (simp <;> omega) | omega) _) | (refine Below.setCell ?_ (by first | (simp <;> omega) | omega) _) | (refine Below.drew ?_) | (refine below_drewN ?_ _))) (hb.mono (by first | exact Nat.le_refl _ | (simp <;> omega) | omega))
    have hsv8 : v7.heap.size + 1 ≤ v8.heap.size := by have := hb.size; first | (simp at this; omega) | omega
    replace km0 : v8.cell? ⟨w.heap.size, 0, none⟩ = some (.int .i64 s0) := (hA.cell (by show w.heap.size < _; omega)).trans km0
    replace km1 : v8.cell? ⟨w.heap.size, 1, none⟩ = some (.slice a0 z0.length cap0) := (hA.cell (by show w.heap.size < _; omega)).trans km1
    replace kw0 : v8.cell? ⟨v4.heap.size, 0, none⟩ = some (.int .i64 S) := (hA.cell (by show v4.heap.size < _; omega)).trans kw0
    replace kw1 : v8.cell? ⟨v4.heap.size, 1, none⟩ = some (.slice A2 Z.length C2) := (hA.cell (by show v4.heap.size < _; omega)).trans kw1
    replace kx0 : v8.cell? ⟨v5.heap.size, 0, none⟩ = some (.int .i64 s0) := (hA.cell (by show v5.heap.size < _; omega)).trans kx0
    replace kx1 : v8.cell? ⟨v5.heap.size, 1, none⟩ = some (.slice A3 z0.length C3) := (hA.cell (by show v5.heap.size < _; omega)).trans kx1
    have kg0 : v8.cell? ⟨v7.heap.size, 0, none⟩ = some (.int .i64 S) := (hb.cell (by show v7.heap.size < _; first | (simp <;> omega) | omega)).trans (by go_simp)
    have kg1 : v8.cell? ⟨v7.heap.size, 1, none⟩ = some (.slice A5 Z.length C5) := (hb.cell (by show v7.heap.size < _; first | (simp <;> omega) | omega)).trans (by go_simp)
    replace HW0 := Lib.hid (HW0.out.below hA)
    replace HW1 := Lib.hid (HW1.out.below hA)
    replace Ow := Lib.hid (Ow.out.below hA (fun g hg => (Ow.out.lt g hg).2))
    replace Ox := Lib.hid (Ox.out.below hA (fun g hg => (Ox.out.lt g hg).2))
    replace Oy := Lib.hid (Oy.out.below hA (fun g hg => (Oy.out.lt g hg).2))
    replace Og := Lib.hid (Og.out.below hA (fun g hg => (Og.out.lt g hg).2))
    replace HB := Lib.hid (HB.out.trans (hA.mono HB.out.size))
    clear hb hA
    have z0v8 : w.heap.size < v8.heap.size := by omega
    have z1v8 : v4.heap.size < v8.heap.size := by omega
    have z2v8 : v5.heap.size < v8.heap.size := by omega
    have z3v8 : v7.heap.size < v8.heap.size := by omega
    clear z0v7 z1v7 z2v7
    go_upto_region 13 with fail
    have HWd := Lib.hid HW0.out.drew
    have Z0 : v8.heap.size ≤ v8.heap.size := Nat.le_refl _
    go_cut [56] (fun q0 wx => q0 = .bool false ∧ Below v8.heap.size v8 wx)
    case first =>
      have H0 : Hid (Below v8.heap.size v8 v8.drew) := Lib.hid (Below.refl _ _).drew
      go_region_with (first
        | (go_at_call 30; refine (toMass_c _ _ _ _ z0 hn0 _ HWd.out).mono ?_; rintro e t1 ⟨At, Ct, rfl, ho, hb⟩; have H1 := Lib.hid (H0.out.trans (hb.mono H0.out.size)); have km0_ : t1.cell? ⟨w.heap.size, 0, none⟩ = some (.int .i64 s0) := (H1.out.cell (by show w.heap.size < _; omega)).trans km0; have km1_ : t1.cell? ⟨w.heap.size, 1, none⟩ = some (.slice a0 z0.length cap0) := (H1.out.cell (by show w.heap.size < _; omega)).trans km1; have kw0_ : t1.cell? ⟨v4.heap.size, 0, none⟩ = some (.int .i64 S) := (H1.out.cell (by show v4.heap.size < _; omega)).trans kw0; have kw1_ : t1.cell? ⟨v4.heap.size, 1, none⟩ = some (.slice A2 Z.length C2) := (H1.out.cell (by show v4.heap.size < _; omega)).trans kw1; have kx0_ : t1.cell? ⟨v5.heap.size, 0, none⟩ = some (.int .i64 s0) := (H1.out.cell (by show v5.heap.size < _; omega)).trans kx0; have kx1_ : t1.cell? ⟨v5.heap.size, 1, none⟩ = some (.slice A3 z0.length C3) := (H1.out.cell (by show v5.heap.size < _; omega)).trans kx1; have kg0_ : t1.cell? ⟨v7.heap.size, 0, none⟩ = some (.int .i64 S) := (H1.out.cell (by show v7.heap.size < _; omega)).trans kg0; have kg1_ : t1.cell? ⟨v7.heap.size, 1, none⟩ = some (.slice A5 Z.length C5) := (H1.out.cell (by show v7.heap.size < _; omega)).trans kg1; have Ot := Lib.hid ho; clear ho; clear hb)
        | (go_at_call 23; refine (eqMass_c _ _ _ _ _ _ z0 _ (Ox.out.below H1.out (fun g hg => (Ox.out.lt g hg).2)).rowAt Ot.out.rowAt).mono ?_; rintro e t2 ⟨rfl, hb⟩; have H2 := Lib.hid (H1.out.trans (hb.mono H1.out.size)); have km0_ : t2.cell? ⟨w.heap.size, 0, none⟩ = some (.int .i64 s0) := (H2.out.cell (by show w.heap.size < _; omega)).trans km0; have km1_ : t2.cell? ⟨w.heap.size, 1, none⟩ = some (.slice a0 z0.length cap0) := (H2.out.cell (by show w.heap.size < _; omega)).trans km1; have kw0_ : t2.cell? ⟨v4.heap.size, 0, none⟩ = some (.int .i64 S) := (H2.out.cell (by show v4.heap.size < _; omega)).trans kw0; have kw1_ : t2.cell? ⟨v4.heap.size, 1, none⟩ = some (.slice A2 Z.length C2) := (H2.out.cell (by show v4.heap.size < _; omega)).trans kw1; have kx0_ : t2.cell? ⟨v5.heap.size, 0, none⟩ = some (.int .i64 s0) := (H2.out.cell (by show v5.heap.size < _; omega)).trans kx0; have kx1_ : t2.cell? ⟨v5.heap.size, 1, none⟩ = some (.slice A3 z0.length C3) := (H2.out.cell (by show v5.heap.size < _; omega)).trans kx1; have kg0_ : t2.cell? ⟨v7.heap.size, 0, none⟩ = some (.int .i64 S) := (H2.out.cell (by show v7.heap.size < _; omega)).trans kg0; have kg1_ : t2.cell? ⟨v7.heap.size, 1, none⟩ = some (.slice A5 Z.length C5) := (H2.out.cell (by show v7.heap.size < _; omega)).trans kg1; clear hb))
      all_goals
        go_wp2_with fail
        go_meet
        exact ⟨rfl, H2.out⟩
    case rest =>
      obtain ⟨rfl, hA⟩ := hcut
      obtain ⟨v9, hv⟩ : ∃ v, v = wc := ⟨_, rfl⟩
      subst hv
      have hsv9 : v8.heap.size ≤ v9.heap.size := hA.size
      replace km0 : v9.cell? ⟨w.heap.size, 0, none⟩ = some (.int .i64 s0) := (hA.cell (by show w.heap.size < _; omega)).trans km0
      replace km1 : v9.cell? ⟨w.heap.size, 1, none⟩ = some (.slice a0 z0.length cap0) := (hA.cell (by show w.heap.size < _; omega)).trans km1
      replace kw0 : v9.cell? ⟨v4.heap.size, 0, none⟩ = some (.int .i64 S) := (hA.cell (by show v4.heap.size < _; omega)).trans kw0
      replace kw1 : v9.cell? ⟨v4.heap.size, 1, none⟩ = some (.slice A2 Z.length C2) := (hA.cell (by show v4.heap.size < _; omega)).trans kw1
      replace kx0 : v9.cell? ⟨v5.heap.size, 0, none⟩ = some (.int .i64 s0) := (hA.cell (by show v5.heap.size < _; omega)).trans kx0
      replace kx1 : v9.cell? ⟨v5.heap.size, 1, none⟩ = some (.slice A3 z0.length C3) := (hA.cell (by show v5.heap.size < _; omega)).trans kx1
      replace kg0 : v9.cell? ⟨v7.heap.size, 0, none⟩ = some (.int .i64 S) := (hA.cell (by show v7.heap.size < _; omega)).trans kg0
      replace kg1 : v9.cell? ⟨v7.heap.size, 1, none⟩ = some (.slice A5 Z.length C5) := (hA.cell (by show v7.heap.size < _; omega)).trans kg1
      replace HW0 := Lib.hid (HW0.out.below hA)
      replace HW1 := Lib.hid (HW1.out.below hA)
      replace Ow := Lib.hid (Ow.out.below hA (fun g hg => (Ow.out.lt g hg).2))
      replace Ox := Lib.hid (Ox.out.below hA (fun g hg => (Ox.out.lt g hg).2))
      replace Oy := Lib.hid (Oy.out.below hA (fun g hg => (Oy.out.lt g hg).2))
      replace Og := Lib.hid (Og.out.below hA (fun g hg => (Og.out.lt g hg).2))
      replace HB := Lib.hid (HB.out.trans (hA.mono HB.out.size))
      clear hA Z0
      have z0v9 : w.heap.size < v9.heap.size := by omega
      have z1v9 : v4.heap.size < v9.heap.size := by omega
      have z2v9 : v5.heap.size < v9.heap.size := by omega
      have z3v9 : v7.heap.size < v9.heap.size := by omega
      clear z0v8 z1v8 z2v8 z3v8
      go_wp2_with fail
      refine (ret_own (toIntS_c _ _ _ z1 hn1 _ HW1.out)).mono ?_
      rintro e v10 ⟨A6, C6, rfl, ho, hb⟩
      have hA : Below v9.heap.size v9 v10 := Below.trans (by repeat (first | exact Below.refl _ _ | (refine Below.alloc ?_ (by first | (simp <;> omega) | omega) _) | (refine Below.setCell ?_ (by first | (simp <;> omega) | omega) _) | (refine Below.drew ?_) | (refine below_drewN ?_ _))) (hb.mono (by first | exact Nat.le_refl _ | (simp <;> omega) | omega))
      have hsv10 : v9.heap.size ≤ v10.heap.size := hA.size
      replace km0 : v10.cell? ⟨w.heap.size, 0, none⟩ = some (.int .i64 s0) := (hA.cell (by show w.heap.size < _; omega)).trans km0
      replace km1 : v10.cell? ⟨w.heap.size, 1, none⟩ = some (.slice a0 z0.length cap0) := (hA.cell (by show w.heap.size < _; omega)).trans km1
      replace kw0 : v10.cell? ⟨v4.heap.size, 0, none⟩ = some (.int .i64 S) := (hA.cell (by show v4.heap.size < _; omega)).trans kw0
      replace kw1 : v10.cell? ⟨v4.heap.size, 1, none⟩ = some (.slice A2 Z.length C2) := (hA.cell (by show v4.heap.size < _; omega)).trans kw1
      replace kx0 : v10.cell? ⟨v5.heap.size, 0, none⟩ = some (.int .i64 s0) := (hA.cell (by show v5.heap.size < _; omega)).trans kx0
      replace kx1 : v10.cell? ⟨v5.heap.size, 1, none⟩ = some (.slice A3 z0.length C3) := (hA.cell (by show v5.heap.size < _; omega)).trans kx1
      replace kg0 : v10.cell? ⟨v7.heap.size, 0, none⟩ = some (.int .i64 S) := (hA.cell (by show v7.heap.size < _; omega)).trans kg0
      replace kg1 : v10.cell? ⟨v7.heap.size, 1, none⟩ = some (.slice A5 Z.length C5) := (hA.cell (by show v7.heap.size < _; omega)).trans kg1
      replace HW0 := Lib.hid (HW0.out.below hA)
      replace HW1 := Lib.hid (HW1.out.below hA)
      replace Ow := Lib.hid (Ow.out.below hA (fun g hg => (Ow.out.lt g hg).2))
      replace Ox := Lib.hid (Ox.out.below hA (fun g hg => (Ox.out.lt g hg).2))
      replace Oy := Lib.hid (Oy.out.below hA (fun g hg => (Oy.out.lt g hg).2))
      replace Og := Lib.hid (Og.out.below hA (fun g hg => (Og.out.lt g hg).2))
      replace HB := Lib.hid (HB.out.trans (hA.mono HB.out.size))
      have LOq : Hid (∀ g, (.slice A6 z1.length C6 : Value).ownBlock = some g → v9.heap.size + 0 ≤ g ∧ g < v10.heap.size) := Lib.hid (fun g hg => by have := ho.lt g hg; first | omega | (simp at this; omega) | (simp at this ⊢; omega))
      have Oq := Lib.hid ho
      clear hb hA ho
      have z0v10 : w.heap.size < v10.heap.size := by omega
      have z1v10 : v4.heap.size < v10.heap.size := by omega
      have z2v10 : v5.heap.size < v10.heap.size := by omega
      have z3v10 : v7.heap.size < v10.heap.size := by omega
      clear z0v9 z1v9 z2v9 z3v9
      go_wp2_with fail
      refine (bel_drew (eqIntS_c _ _ _ _ _ z1 _ Oy.out.rowAt Oq.out.rowAt)).mono ?_
      rintro e v11 ⟨rfl, hb⟩
      have hA : Below v10.heap.size v10 v11 := Below.trans (by repeat (first | exact Below.refl _ _ | (refine Below.alloc ?_ (by first | (simp <;> omega) | omega) _) | (refine Below.setCell ?_ (by first | (simp <;> omega) | omega) _) | (refine Below.drew ?_) | (refine below_drewN ?_ _))) (hb.mono (by first | exact Nat.le_refl _ | (simp <;> omega) | omega))
      have hsv11 : v10.heap.size ≤ v11.heap.size := hA.size
      replace km0 : v11.cell? ⟨w.heap.size, 0, none⟩ = some (.int .i64 s0) := (hA.cell (by show w.heap.size < _; omega)).trans km0
      replace km1 : v11.cell? ⟨w.heap.size, 1, none⟩ = some (.slice a0 z0.length cap0) := (hA.cell (by show w.heap.size < _; omega)).trans km1
      replace kw0 : v11.cell? ⟨v4.heap.size, 0, none⟩ = some (.int .i64 S) := (hA.cell (by show v4.heap.size < _; omega)).trans kw0
      replace kw1 : v11.cell? ⟨v4.heap.size, 1, none⟩ = some (.slice A2 Z.length C2) := (hA.cell (by show v4.heap.size < _; omega)).trans kw1
      replace kx0 : v11.cell? ⟨v5.heap.size, 0, none⟩ = some (.int .i64 s0) := (hA.cell (by show v5.heap.size < _; omega)).trans kx0
      replace kx1 : v11.cell? ⟨v5.heap.size, 1, none⟩ = some (.slice A3 z0.length C3) := (hA.cell (by show v5.heap.size < _; omega)).trans kx1
      replace kg0 : v11.cell? ⟨v7.heap.size, 0, none⟩ = some (.int .i64 S) := (hA.cell (by show v7.heap.size < _; omega)).trans kg0
      replace kg1 : v11.cell? ⟨v7.heap.size, 1, none⟩ = some (.slice A5 Z.length C5) := (hA.cell (by show v7.heap.size < _; omega)).trans kg1
      replace HW0 := Lib.hid (HW0.out.below hA)
      replace HW1 := Lib.hid (HW1.out.below hA)
      replace Ow := Lib.hid (Ow.out.below hA (fun g hg => (Ow.out.lt g hg).2))
      replace Ox := Lib.hid (Ox.out.below hA (fun g hg => (Ox.out.lt g hg).2))
      replace Oy := Lib.hid (Oy.out.below hA (fun g hg => (Oy.out.lt g hg).2))
      replace Og := Lib.hid (Og.out.below hA (fun g hg => (Og.out.lt g hg).2))
      replace Oq := Lib.hid (Oq.out.below hA (fun g hg => (Oq.out.lt g hg).2))
      replace HB := Lib.hid (HB.out.trans (hA.mono HB.out.size))
      clear hb hA
      have z0v11 : w.heap.size < v11.heap.size := by omega
      have z1v11 : v4.heap.size < v11.heap.size := by omega
      have z2v11 : v5.heap.size < v11.heap.size := by omega
      have z3v11 : v7.heap.size < v11.heap.size := by omega
      clear z0v10 z1v10 z2v10 z3v10
      clear Oq
      go_wp2_with fail
      refine (markMass_c _ _ z0 _ _ _ 1 (by omega) (by omega) _ rfl Ox.out).mono ?_
      rintro e v12 ⟨rfl, ho, hg⟩
      have hsv12 : v11.heap.size ≤ v12.heap.size := hg.size
      replace km0 : v12.cell? ⟨w.heap.size, 0, none⟩ = some (.int .i64 s0) := hg.cell km0 (by intro e; have h1 := LOx.out _ e.symm; first | omega | (simp at h1; omega) | (simp at h1))
      replace km1 : v12.cell? ⟨w.heap.size, 1, none⟩ = some (.slice a0 z0.length cap0) := hg.cell km1 (by intro e; have h1 := LOx.out _ e.symm; first | omega | (simp at h1; omega) | (simp at h1))
      replace kw0 : v12.cell? ⟨v4.heap.size, 0, none⟩ = some (.int .i64 S) := hg.cell kw0 (by intro e; have h1 := LOx.out _ e.symm; first | omega | (simp at h1; omega) | (simp at h1))
      replace kw1 : v12.cell? ⟨v4.heap.size, 1, none⟩ = some (.slice A2 Z.length C2) := hg.cell kw1 (by intro e; have h1 := LOx.out _ e.symm; first | omega | (simp at h1; omega) | (simp at h1))
      replace kx0 : v12.cell? ⟨v5.heap.size, 0, none⟩ = some (.int .i64 s0) := hg.cell kx0 (by intro e; have h1 := LOx.out _ e.symm; first | omega | (simp at h1; omega) | (simp at h1))
      replace kx1 : v12.cell? ⟨v5.heap.size, 1, none⟩ = some (.slice A3 z0.length C3) := hg.cell kx1 (by intro e; have h1 := LOx.out _ e.symm; first | omega | (simp at h1; omega) | (simp at h1))
      replace kg0 : v12.cell? ⟨v7.heap.size, 0, none⟩ = some (.int .i64 S) := hg.cell kg0 (by intro e; have h1 := LOx.out _ e.symm; first | omega | (simp at h1; omega) | (simp at h1))
      replace kg1 : v12.cell? ⟨v7.heap.size, 1, none⟩ = some (.slice A5 Z.length C5) := hg.cell kg1 (by intro e; have h1 := LOx.out _ e.symm; first | omega | (simp at h1; omega) | (simp at h1))
      replace HW0 := Lib.hid (HW0.out.grown hg (fun hp b o e e2 => by have h1 := LOx.out b e2; have h2 := WHW0.out hp b o e; omega))
      replace HW1 := Lib.hid (HW1.out.grown hg (fun hp b o e e2 => by have h1 := LOx.out b e2; have h2 := WHW1.out hp b o e; omega))
      replace Ow := Lib.hid (Ow.out.grown hg (by
        rcases hy : (.slice A2 Z.length C2 : Value).ownBlock with _ | g
        · exact .inl rfl
        · right; intro e; have h1 := LOw.out g hy; have h2 := LOx.out g e.symm; omega))
      replace Oy := Lib.hid (Oy.out.grown hg (by
        rcases hy : (.slice A4 z1.length C4 : Value).ownBlock with _ | g
        · exact .inl rfl
        · right; intro e; have h1 := LOy.out g hy; have h2 := LOx.out g e.symm; omega))
      replace Og := Lib.hid (Og.out.grown hg (by
        rcases hy : (.slice A5 Z.length C5 : Value).ownBlock with _ | g
        · exact .inl rfl
        · right; intro e; have h1 := LOg.out g hy; have h2 := LOx.out g e.symm; omega))
      replace HB := Lib.hid (HB.out.grown hg HB.out.size (fun k hk => by have h1 := LOx.out k hk; omega))
      replace Ox := Lib.hid ho
      clear ho hg
      have z0v12 : w.heap.size < v12.heap.size := by omega
      have z1v12 : v4.heap.size < v12.heap.size := by omega
      have z2v12 : v5.heap.size < v12.heap.size := by omega
      have z3v12 : v7.heap.size < v12.heap.size := by omega
      clear z0v11 z1v11 z2v11 z3v11
      go_wp2_with fail
      refine (markIntS_c _ z1 _ _ _ (1 + z0.length) (by omega) (by omega) _ rfl Oy.out).mono ?_
      rintro e v13 ⟨rfl, ho, hg⟩
      have hsv13 : v12.heap.size ≤ v13.heap.size := hg.size
      replace km0 : v13.cell? ⟨w.heap.size, 0, none⟩ = some (.int .i64 s0) := hg.cell km0 (by intro e; have h1 := LOy.out _ e.symm; first | omega | (simp at h1; omega) | (simp at h1))
      replace km1 : v13.cell? ⟨w.heap.size, 1, none⟩ = some (.slice a0 z0.length cap0) := hg.cell km1 (by intro e; have h1 := LOy.out _ e.symm; first | omega | (simp at h1; omega) | (simp at h1))
      replace kw0 : v13.cell? ⟨v4.heap.size, 0, none⟩ = some (.int .i64 S) := hg.cell kw0 (by intro e; have h1 := LOy.out _ e.symm; first | omega | (simp at h1; omega) | (simp at h1))
      replace kw1 : v13.cell? ⟨v4.heap.size, 1, none⟩ = some (.slice A2 Z.length C2) := hg.cell kw1 (by intro e; have h1 := LOy.out _ e.symm; first | omega | (simp at h1; omega) | (simp at h1))
      replace kx0 : v13.cell? ⟨v5.heap.size, 0, none⟩ = some (.int .i64 s0) := hg.cell kx0 (by intro e; have h1 := LOy.out _ e.symm; first | omega | (simp at h1; omega) | (simp at h1))
      replace kx1 : v13.cell? ⟨v5.heap.size, 1, none⟩ = some (.slice A3 z0.length C3) := hg.cell kx1 (by intro e; have h1 := LOy.out _ e.symm; first | omega | (simp at h1; omega) | (simp at h1))
      replace kg0 : v13.cell? ⟨v7.heap.size, 0, none⟩ = some (.int .i64 S) := hg.cell kg0 (by intro e; have h1 := LOy.out _ e.symm; first | omega | (simp at h1; omega) | (simp at h1))
      replace kg1 : v13.cell? ⟨v7.heap.size, 1, none⟩ = some (.slice A5 Z.length C5) := hg.cell kg1 (by intro e; have h1 := LOy.out _ e.symm; first | omega | (simp at h1; omega) | (simp at h1))
      replace HW0 := Lib.hid (HW0.out.grown hg (fun hp b o e e2 => by have h1 := LOy.out b e2; have h2 := WHW0.out hp b o e; omega))
      replace HW1 := Lib.hid (HW1.out.grown hg (fun hp b o e e2 => by have h1 := LOy.out b e2; have h2 := WHW1.out hp b o e; omega))
      replace Ow := Lib.hid (Ow.out.grown hg (by
        rcases hy : (.slice A2 Z.length C2 : Value).ownBlock with _ | g
        · exact .inl rfl
        · right; intro e; have h1 := LOw.out g hy; have h2 := LOy.out g e.symm; omega))
      replace Ox := Lib.hid (Ox.out.grown hg (by
        rcases hy : (.slice A3 z0.length C3 : Value).ownBlock with _ | g
        · exact .inl rfl
        · right; intro e; have h1 := LOx.out g hy; have h2 := LOy.out g e.symm; omega))
      replace Og := Lib.hid (Og.out.grown hg (by
        rcases hy : (.slice A5 Z.length C5 : Value).ownBlock with _ | g
        · exact .inl rfl
        · right; intro e; have h1 := LOg.out g hy; have h2 := LOy.out g e.symm; omega))
      replace HB := Lib.hid (HB.out.grown hg HB.out.size (fun k hk => by have h1 := LOy.out k hk; omega))
      replace Oy := Lib.hid ho
      clear ho hg
      have z0v13 : w.heap.size < v13.heap.size := by omega
      have z1v13 : v4.heap.size < v13.heap.size := by omega
      have z2v13 : v5.heap.size < v13.heap.size := by omega
      have z3v13 : v7.heap.size < v13.heap.size := by omega
      clear z0v12 z1v12 z2v12 z3v12
      go_wp2_with fail
      refine (eqMass_c _ _ _ _ _ _ Z _ Og.out.rowAt Ow.out.rowAt).mono ?_
      rintro e v14 ⟨rfl, hb⟩
      have hA : Below v13.heap.size v13 v14 := Below.trans (by repeat (first | exact Below.refl _ _ | (refine Below.alloc ?_ (by first | (simp <;> omega) | omega) _) | (refine Below.setCell ?_ (by first | (simp <;> omega) | omega) _) | (refine Below.drew ?_) | (refine below_drewN ?_ _))) (hb.mono (by first | exact Nat.le_refl _ | (simp <;> omega) | omega))
      have hsv14 : v13.heap.size ≤ v14.heap.size := hA.size
      replace km0 : v14.cell? ⟨w.heap.size, 0, none⟩ = some (.int .i64 s0) := (hA.cell (by show w.heap.size < _; omega)).trans km0
      replace km1 : v14.cell? ⟨w.heap.size, 1, none⟩ = some (.slice a0 z0.length cap0) := (hA.cell (by show w.heap.size < _; omega)).trans km1
      replace kw0 : v14.cell? ⟨v4.heap.size, 0, none⟩ = some (.int .i64 S) := (hA.cell (by show v4.heap.size < _; omega)).trans kw0
      replace kw1 : v14.cell? ⟨v4.heap.size, 1, none⟩ = some (.slice A2 Z.length C2) := (hA.cell (by show v4.heap.size < _; omega)).trans kw1
      replace kx0 : v14.cell? ⟨v5.heap.size, 0, none⟩ = some (.int .i64 s0) := (hA.cell (by show v5.heap.size < _; omega)).trans kx0
      replace kx1 : v14.cell? ⟨v5.heap.size, 1, none⟩ = some (.slice A3 z0.length C3) := (hA.cell (by show v5.heap.size < _; omega)).trans kx1
      replace kg0 : v14.cell? ⟨v7.heap.size, 0, none⟩ = some (.int .i64 S) := (hA.cell (by show v7.heap.size < _; omega)).trans kg0
      replace kg1 : v14.cell? ⟨v7.heap.size, 1, none⟩ = some (.slice A5 Z.length C5) := (hA.cell (by show v7.heap.size < _; omega)).trans kg1
      replace HW0 := Lib.hid (HW0.out.below hA)
      replace HW1 := Lib.hid (HW1.out.below hA)
      replace Ow := Lib.hid (Ow.out.below hA (fun g hg => (Ow.out.lt g hg).2))
      replace Ox := Lib.hid (Ox.out.below hA (fun g hg => (Ox.out.lt g hg).2))
      replace Oy := Lib.hid (Oy.out.below hA (fun g hg => (Oy.out.lt g hg).2))
      replace Og := Lib.hid (Og.out.below hA (fun g hg => (Og.out.lt g hg).2))
      replace HB := Lib.hid (HB.out.trans (hA.mono HB.out.size))
      clear hb hA
      have z0v14 : w.heap.size < v14.heap.size := by omega
      have z1v14 : v4.heap.size < v14.heap.size := by omega
      have z2v14 : v5.heap.size < v14.heap.size := by omega
      have z3v14 : v7.heap.size < v14.heap.size := by omega
      clear z0v13 z1v13 z2v13 z3v13
      go_wp2_with fail
      refine (markMass_c _ _ Z _ _ _ 1 (by omega) (by omega) _ rfl Og.out).mono ?_
      rintro e v15 ⟨rfl, ho, hg⟩
      have hsv15 : v14.heap.size ≤ v15.heap.size := hg.size
      replace km0 : v15.cell? ⟨w.heap.size, 0, none⟩ = some (.int .i64 s0) := hg.cell km0 (by intro e; have h1 := LOg.out _ e.symm; first | omega | (simp at h1; omega) | (simp at h1))
      replace km1 : v15.cell? ⟨w.heap.size, 1, none⟩ = some (.slice a0 z0.length cap0) := hg.cell km1 (by intro e; have h1 := LOg.out _ e.symm; first | omega | (simp at h1; omega) | (simp at h1))
      replace kw0 : v15.cell? ⟨v4.heap.size, 0, none⟩ = some (.int .i64 S) := hg.cell kw0 (by intro e; have h1 := LOg.out _ e.symm; first | omega | (simp at h1; omega) | (simp at h1))
      replace kw1 : v15.cell? ⟨v4.heap.size, 1, none⟩ = some (.slice A2 Z.length C2) := hg.cell kw1 (by intro e; have h1 := LOg.out _ e.symm; first | omega | (simp at h1; omega) | (simp at h1))
      replace kx0 : v15.cell? ⟨v5.heap.size, 0, none⟩ = some (.int .i64 s0) := hg.cell kx0 (by intro e; have h1 := LOg.out _ e.symm; first | omega | (simp at h1; omega) | (simp at h1))
      replace kx1 : v15.cell? ⟨v5.heap.size, 1, none⟩ = some (.slice A3 z0.length C3) := hg.cell kx1 (by intro e; have h1 := LOg.out _ e.symm; first | omega | (simp at h1; omega) | (simp at h1))
      replace kg0 : v15.cell? ⟨v7.heap.size, 0, none⟩ = some (.int .i64 S) := hg.cell kg0 (by intro e; have h1 := LOg.out _ e.symm; first | omega | (simp at h1; omega) | (simp at h1))
      replace kg1 : v15.cell? ⟨v7.heap.size, 1, none⟩ = some (.slice A5 Z.length C5) := hg.cell kg1 (by intro e; have h1 := LOg.out _ e.symm; first | omega | (simp at h1; omega) | (simp at h1))
      replace HW0 := Lib.hid (HW0.out.grown hg (fun hp b o e e2 => by have h1 := LOg.out b e2; have h2 := WHW0.out hp b o e; omega))
      replace HW1 := Lib.hid (HW1.out.grown hg (fun hp b o e e2 => by have h1 := LOg.out b e2; have h2 := WHW1.out hp b o e; omega))
      replace Ow := Lib.hid (Ow.out.grown hg (by
        rcases hy : (.slice A2 Z.length C2 : Value).ownBlock with _ | g
        · exact .inl rfl
        · right; intro e; have h1 := LOw.out g hy; have h2 := LOg.out g e.symm; omega))
      replace Ox := Lib.hid (Ox.out.grown hg (by
        rcases hy : (.slice A3 z0.length C3 : Value).ownBlock with _ | g
        · exact .inl rfl
        · right; intro e; have h1 := LOx.out g hy; have h2 := LOg.out g e.symm; omega))
      replace Oy := Lib.hid (Oy.out.grown hg (by
        rcases hy : (.slice A4 z1.length C4 : Value).ownBlock with _ | g
        · exact .inl rfl
        · right; intro e; have h1 := LOy.out g hy; have h2 := LOg.out g e.symm; omega))
      replace HB := Lib.hid (HB.out.grown hg HB.out.size (fun k hk => by have h1 := LOg.out k hk; omega))
      replace Og := Lib.hid ho
      clear ho hg
      have z0v15 : w.heap.size < v15.heap.size := by omega
      have z1v15 : v4.heap.size < v15.heap.size := by omega
      have z2v15 : v5.heap.size < v15.heap.size := by omega
      have z3v15 : v7.heap.size < v15.heap.size := by omega
      clear z0v14 z1v14 z2v14 z3v14
      go_wp2_with fail
      refine (heldMass_c _ _ _ _ 1 (by omega) (by omega) _ Og.out.rowAt).mono ?_
      rintro e v16 ⟨rfl, hb⟩
      have hA : Below v15.heap.size v15 v16 := Below.trans (by repeat (first | exact Below.refl _ _ | (refine Below.alloc ?_ (by first | (simp <;> omega) | omega) _) | (refine Below.setCell ?_ (by first | (simp <;> omega) | omega) _) | (refine Below.drew ?_) | (refine below_drewN ?_ _))) (hb.mono (by first | exact Nat.le_refl _ | (simp <;> omega) | omega))
      have hsv16 : v15.heap.size ≤ v16.heap.size := hA.size
      replace km0 : v16.cell? ⟨w.heap.size, 0, none⟩ = some (.int .i64 s0) := (hA.cell (by show w.heap.size < _; omega)).trans km0
      replace km1 : v16.cell? ⟨w.heap.size, 1, none⟩ = some (.slice a0 z0.length cap0) := (hA.cell (by show w.heap.size < _; omega)).trans km1
      replace kw0 : v16.cell? ⟨v4.heap.size, 0, none⟩ = some (.int .i64 S) := (hA.cell (by show v4.heap.size < _; omega)).trans kw0
      replace kw1 : v16.cell? ⟨v4.heap.size, 1, none⟩ = some (.slice A2 Z.length C2) := (hA.cell (by show v4.heap.size < _; omega)).trans kw1
      replace kx0 : v16.cell? ⟨v5.heap.size, 0, none⟩ = some (.int .i64 s0) := (hA.cell (by show v5.heap.size < _; omega)).trans kx0
      replace kx1 : v16.cell? ⟨v5.heap.size, 1, none⟩ = some (.slice A3 z0.length C3) := (hA.cell (by show v5.heap.size < _; omega)).trans kx1
      replace kg0 : v16.cell? ⟨v7.heap.size, 0, none⟩ = some (.int .i64 S) := (hA.cell (by show v7.heap.size < _; omega)).trans kg0
      replace kg1 : v16.cell? ⟨v7.heap.size, 1, none⟩ = some (.slice A5 Z.length C5) := (hA.cell (by show v7.heap.size < _; omega)).trans kg1
      replace HW0 := Lib.hid (HW0.out.below hA)
      replace HW1 := Lib.hid (HW1.out.below hA)
      replace Ow := Lib.hid (Ow.out.below hA (fun g hg => (Ow.out.lt g hg).2))
      replace Ox := Lib.hid (Ox.out.below hA (fun g hg => (Ox.out.lt g hg).2))
      replace Oy := Lib.hid (Oy.out.below hA (fun g hg => (Oy.out.lt g hg).2))
      replace Og := Lib.hid (Og.out.below hA (fun g hg => (Og.out.lt g hg).2))
      replace HB := Lib.hid (HB.out.trans (hA.mono HB.out.size))
      clear hb hA
      have z0v16 : w.heap.size < v16.heap.size := by omega
      have z1v16 : v4.heap.size < v16.heap.size := by omega
      have z2v16 : v5.heap.size < v16.heap.size := by omega
      have z3v16 : v7.heap.size < v16.heap.size := by omega
      clear z0v15 z1v15 z2v15 z3v15
      go_wp2_with fail
      refine (toMass_c _ _ _ _ z0 hn0 _ HW0.out).mono ?_
      rintro e v17 ⟨A7, C7, rfl, ho, hb⟩
      have hA : Below v16.heap.size v16 v17 := Below.trans (by repeat (first | exact Below.refl _ _ | (refine Below.alloc ?_ (by first | (simp <;> omega) | omega) _) | (refine Below.setCell ?_ (by first | (simp <;> omega) | omega) _) | (refine Below.drew ?_) | (refine below_drewN ?_ _))) (hb.mono (by first | exact Nat.le_refl _ | (simp <;> omega) | omega))
      have hsv17 : v16.heap.size ≤ v17.heap.size := hA.size
      replace km0 : v17.cell? ⟨w.heap.size, 0, none⟩ = some (.int .i64 s0) := (hA.cell (by show w.heap.size < _; omega)).trans km0
      replace km1 : v17.cell? ⟨w.heap.size, 1, none⟩ = some (.slice a0 z0.length cap0) := (hA.cell (by show w.heap.size < _; omega)).trans km1
      replace kw0 : v17.cell? ⟨v4.heap.size, 0, none⟩ = some (.int .i64 S) := (hA.cell (by show v4.heap.size < _; omega)).trans kw0
      replace kw1 : v17.cell? ⟨v4.heap.size, 1, none⟩ = some (.slice A2 Z.length C2) := (hA.cell (by show v4.heap.size < _; omega)).trans kw1
      replace kx0 : v17.cell? ⟨v5.heap.size, 0, none⟩ = some (.int .i64 s0) := (hA.cell (by show v5.heap.size < _; omega)).trans kx0
      replace kx1 : v17.cell? ⟨v5.heap.size, 1, none⟩ = some (.slice A3 z0.length C3) := (hA.cell (by show v5.heap.size < _; omega)).trans kx1
      replace kg0 : v17.cell? ⟨v7.heap.size, 0, none⟩ = some (.int .i64 S) := (hA.cell (by show v7.heap.size < _; omega)).trans kg0
      replace kg1 : v17.cell? ⟨v7.heap.size, 1, none⟩ = some (.slice A5 Z.length C5) := (hA.cell (by show v7.heap.size < _; omega)).trans kg1
      replace HW0 := Lib.hid (HW0.out.below hA)
      replace HW1 := Lib.hid (HW1.out.below hA)
      replace Ow := Lib.hid (Ow.out.below hA (fun g hg => (Ow.out.lt g hg).2))
      replace Ox := Lib.hid (Ox.out.below hA (fun g hg => (Ox.out.lt g hg).2))
      replace Oy := Lib.hid (Oy.out.below hA (fun g hg => (Oy.out.lt g hg).2))
      replace Og := Lib.hid (Og.out.below hA (fun g hg => (Og.out.lt g hg).2))
      replace HB := Lib.hid (HB.out.trans (hA.mono HB.out.size))
      have LOt : Hid (∀ g, (.slice A7 z0.length C7 : Value).ownBlock = some g → v16.heap.size + 0 ≤ g ∧ g < v17.heap.size) := Lib.hid (fun g hg => by have := ho.lt g hg; first | omega | (simp at this; omega) | (simp at this ⊢; omega))
      have Ot := Lib.hid ho
      clear hb hA ho
      have z0v17 : w.heap.size < v17.heap.size := by omega
      have z1v17 : v4.heap.size < v17.heap.size := by omega
      have z2v17 : v5.heap.size < v17.heap.size := by omega
      have z3v17 : v7.heap.size < v17.heap.size := by omega
      clear z0v16 z1v16 z2v16 z3v16
      go_wp2_with fail
      refine (ret_own (toIntS_c _ _ _ z1 hn1 _ HW1.out)).mono ?_
      rintro e v18 ⟨A8, C8, rfl, ho, hb⟩
      have hA : Below v17.heap.size v17 v18 := Below.trans (by repeat (first | exact Below.refl _ _ | (refine Below.alloc ?_ (by first | (simp <;> omega) | omega) _) | (refine Below.setCell ?_ (by first | (simp <;> omega) | omega) _) | (refine Below.drew ?_) | (refine below_drewN ?_ _))) (hb.mono (by first | exact Nat.le_refl _ | (simp <;> omega) | omega))
      have hsv18 : v17.heap.size ≤ v18.heap.size := hA.size
      replace km0 : v18.cell? ⟨w.heap.size, 0, none⟩ = some (.int .i64 s0) := (hA.cell (by show w.heap.size < _; omega)).trans km0
      replace km1 : v18.cell? ⟨w.heap.size, 1, none⟩ = some (.slice a0 z0.length cap0) := (hA.cell (by show w.heap.size < _; omega)).trans km1
      replace kw0 : v18.cell? ⟨v4.heap.size, 0, none⟩ = some (.int .i64 S) := (hA.cell (by show v4.heap.size < _; omega)).trans kw0
      replace kw1 : v18.cell? ⟨v4.heap.size, 1, none⟩ = some (.slice A2 Z.length C2) := (hA.cell (by show v4.heap.size < _; omega)).trans kw1
      replace kx0 : v18.cell? ⟨v5.heap.size, 0, none⟩ = some (.int .i64 s0) := (hA.cell (by show v5.heap.size < _; omega)).trans kx0
      replace kx1 : v18.cell? ⟨v5.heap.size, 1, none⟩ = some (.slice A3 z0.length C3) := (hA.cell (by show v5.heap.size < _; omega)).trans kx1
      replace kg0 : v18.cell? ⟨v7.heap.size, 0, none⟩ = some (.int .i64 S) := (hA.cell (by show v7.heap.size < _; omega)).trans kg0
      replace kg1 : v18.cell? ⟨v7.heap.size, 1, none⟩ = some (.slice A5 Z.length C5) := (hA.cell (by show v7.heap.size < _; omega)).trans kg1
      replace HW0 := Lib.hid (HW0.out.below hA)
      replace HW1 := Lib.hid (HW1.out.below hA)
      replace Ow := Lib.hid (Ow.out.below hA (fun g hg => (Ow.out.lt g hg).2))
      replace Ox := Lib.hid (Ox.out.below hA (fun g hg => (Ox.out.lt g hg).2))
      replace Oy := Lib.hid (Oy.out.below hA (fun g hg => (Oy.out.lt g hg).2))
      replace Og := Lib.hid (Og.out.below hA (fun g hg => (Og.out.lt g hg).2))
      replace Ot := Lib.hid (Ot.out.below hA (fun g hg => (Ot.out.lt g hg).2))
      replace HB := Lib.hid (HB.out.trans (hA.mono HB.out.size))
      have LOu : Hid (∀ g, (.slice A8 z1.length C8 : Value).ownBlock = some g → v17.heap.size + 0 ≤ g ∧ g < v18.heap.size) := Lib.hid (fun g hg => by have := ho.lt g hg; first | omega | (simp at this; omega) | (simp at this ⊢; omega))
      have Ou := Lib.hid ho
      clear hb hA ho
      have z0v18 : w.heap.size < v18.heap.size := by omega
      have z1v18 : v4.heap.size < v18.heap.size := by omega
      have z2v18 : v5.heap.size < v18.heap.size := by omega
      have z3v18 : v7.heap.size < v18.heap.size := by omega
      clear z0v17 z1v17 z2v17 z3v17
      go_wp2_with fail
      refine ((impl_MoveMass_c s0 _ _ _ z0 _ _ _ z1 _ Ot.out.rowAt Ou.out.rowAt).mono (HS.out _)).mono ?_
      rintro e v19 ⟨A9, C9, rfl, ho, hb⟩
      have hA : Below v18.heap.size v18 v19 := Below.trans (by repeat (first | exact Below.refl _ _ | (refine Below.alloc ?_ (by first | (simp <;> omega) | omega) _) | (refine Below.setCell ?_ (by first | (simp <;> omega) | omega) _) | (refine Below.drew ?_) | (refine below_drewN ?_ _))) (hb.mono (by first | exact Nat.le_refl _ | (simp <;> omega) | omega))
      have hsv19 : v18.heap.size ≤ v19.heap.size := hA.size
      replace km0 : v19.cell? ⟨w.heap.size, 0, none⟩ = some (.int .i64 s0) := (hA.cell (by show w.heap.size < _; omega)).trans km0
      replace km1 : v19.cell? ⟨w.heap.size, 1, none⟩ = some (.slice a0 z0.length cap0) := (hA.cell (by show w.heap.size < _; omega)).trans km1
      replace kw0 : v19.cell? ⟨v4.heap.size, 0, none⟩ = some (.int .i64 S) := (hA.cell (by show v4.heap.size < _; omega)).trans kw0
      replace kw1 : v19.cell? ⟨v4.heap.size, 1, none⟩ = some (.slice A2 Z.length C2) := (hA.cell (by show v4.heap.size < _; omega)).trans kw1
      replace kx0 : v19.cell? ⟨v5.heap.size, 0, none⟩ = some (.int .i64 s0) := (hA.cell (by show v5.heap.size < _; omega)).trans kx0
      replace kx1 : v19.cell? ⟨v5.heap.size, 1, none⟩ = some (.slice A3 z0.length C3) := (hA.cell (by show v5.heap.size < _; omega)).trans kx1
      replace kg0 : v19.cell? ⟨v7.heap.size, 0, none⟩ = some (.int .i64 S) := (hA.cell (by show v7.heap.size < _; omega)).trans kg0
      replace kg1 : v19.cell? ⟨v7.heap.size, 1, none⟩ = some (.slice A5 Z.length C5) := (hA.cell (by show v7.heap.size < _; omega)).trans kg1
      replace HW0 := Lib.hid (HW0.out.below hA)
      replace HW1 := Lib.hid (HW1.out.below hA)
      replace Ow := Lib.hid (Ow.out.below hA (fun g hg => (Ow.out.lt g hg).2))
      replace Ox := Lib.hid (Ox.out.below hA (fun g hg => (Ox.out.lt g hg).2))
      replace Oy := Lib.hid (Oy.out.below hA (fun g hg => (Oy.out.lt g hg).2))
      replace Og := Lib.hid (Og.out.below hA (fun g hg => (Og.out.lt g hg).2))
      replace Ot := Lib.hid (Ot.out.below hA (fun g hg => (Ot.out.lt g hg).2))
      replace Ou := Lib.hid (Ou.out.below hA (fun g hg => (Ou.out.lt g hg).2))
      replace HB := Lib.hid (HB.out.trans (hA.mono HB.out.size))
      have LOh : Hid (∀ g, (.slice A9 Z.length C9 : Value).ownBlock = some g → v18.heap.size + 0 ≤ g ∧ g < v19.heap.size) := Lib.hid (fun g hg => by have := ho.lt g hg; first | omega | (simp at this; omega) | (simp at this ⊢; omega))
      have Oh := Lib.hid ho
      clear hb hA ho
      have z0v19 : w.heap.size < v19.heap.size := by omega
      have z1v19 : v4.heap.size < v19.heap.size := by omega
      have z2v19 : v5.heap.size < v19.heap.size := by omega
      have z3v19 : v7.heap.size < v19.heap.size := by omega
      clear z0v18 z1v18 z2v18 z3v18
      clear Ot Ou
      go_wp2_with fail
      refine (eqMass_c _ _ _ _ _ _ Z _ (Oh.out.rowAt.alloc _) (Ow.out.rowAt.alloc _)).mono ?_
      rintro e v20 ⟨rfl, hb⟩
      have hA : Below v19.heap.size v19 v20 := Below.trans (by repeat (first | exact Below.refl _ _ | (refine Below.alloc ?_ (by first | (simp <;> omega) | omega) _) | (refine Below.setCell ?_ (by first | (simp <;> omega) | omega) _) | (refine Below.drew ?_) | (refine below_drewN ?_ _))) (hb.mono (by first | exact Nat.le_refl _ | (simp <;> omega) | omega))
      have hsv20 : v19.heap.size + 1 ≤ v20.heap.size := by have := hb.size; first | (simp at this; omega) | omega
      replace km0 : v20.cell? ⟨w.heap.size, 0, none⟩ = some (.int .i64 s0) := (hA.cell (by show w.heap.size < _; omega)).trans km0
      replace km1 : v20.cell? ⟨w.heap.size, 1, none⟩ = some (.slice a0 z0.length cap0) := (hA.cell (by show w.heap.size < _; omega)).trans km1
      replace kw0 : v20.cell? ⟨v4.heap.size, 0, none⟩ = some (.int .i64 S) := (hA.cell (by show v4.heap.size < _; omega)).trans kw0
      replace kw1 : v20.cell? ⟨v4.heap.size, 1, none⟩ = some (.slice A2 Z.length C2) := (hA.cell (by show v4.heap.size < _; omega)).trans kw1
      replace kx0 : v20.cell? ⟨v5.heap.size, 0, none⟩ = some (.int .i64 s0) := (hA.cell (by show v5.heap.size < _; omega)).trans kx0
      replace kx1 : v20.cell? ⟨v5.heap.size, 1, none⟩ = some (.slice A3 z0.length C3) := (hA.cell (by show v5.heap.size < _; omega)).trans kx1
      replace kg0 : v20.cell? ⟨v7.heap.size, 0, none⟩ = some (.int .i64 S) := (hA.cell (by show v7.heap.size < _; omega)).trans kg0
      replace kg1 : v20.cell? ⟨v7.heap.size, 1, none⟩ = some (.slice A5 Z.length C5) := (hA.cell (by show v7.heap.size < _; omega)).trans kg1
      have kh0 : v20.cell? ⟨v19.heap.size, 0, none⟩ = some (.int .i64 S) := (hb.cell (by show v19.heap.size < _; first | (simp <;> omega) | omega)).trans (by go_simp)
      have kh1 : v20.cell? ⟨v19.heap.size, 1, none⟩ = some (.slice A9 Z.length C9) := (hb.cell (by show v19.heap.size < _; first | (simp <;> omega) | omega)).trans (by go_simp)
      replace HW0 := Lib.hid (HW0.out.below hA)
      replace HW1 := Lib.hid (HW1.out.below hA)
      replace Ow := Lib.hid (Ow.out.below hA (fun g hg => (Ow.out.lt g hg).2))
      replace Ox := Lib.hid (Ox.out.below hA (fun g hg => (Ox.out.lt g hg).2))
      replace Oy := Lib.hid (Oy.out.below hA (fun g hg => (Oy.out.lt g hg).2))
      replace Og := Lib.hid (Og.out.below hA (fun g hg => (Og.out.lt g hg).2))
      replace Oh := Lib.hid (Oh.out.below hA (fun g hg => (Oh.out.lt g hg).2))
      replace HB := Lib.hid (HB.out.trans (hA.mono HB.out.size))
      clear hb hA
      have z0v20 : w.heap.size < v20.heap.size := by omega
      have z1v20 : v4.heap.size < v20.heap.size := by omega
      have z2v20 : v5.heap.size < v20.heap.size := by omega
      have z3v20 : v7.heap.size < v20.heap.size := by omega
      have z4v20 : v19.heap.size < v20.heap.size := by omega
      clear z0v19 z1v19 z2v19 z3v19
      go_wp2_with fail
      refine (heldMass_c _ _ _ _ 1 (by omega) (by omega) _ Og.out.rowAt).mono ?_
      rintro e v21 ⟨rfl, hb⟩
      have hA : Below v20.heap.size v20 v21 := Below.trans (by repeat (first | exact Below.refl _ _ | (refine Below.alloc ?_ (by first | (simp <;> omega) | omega) _) | (refine Below.setCell ?_ (by first | (simp <;> omega) | omega) _) | (refine Below.drew ?_) | (refine below_drewN ?_ _))) (hb.mono (by first | exact Nat.le_refl _ | (simp <;> omega) | omega))
      have hsv21 : v20.heap.size ≤ v21.heap.size := hA.size
      replace km0 : v21.cell? ⟨w.heap.size, 0, none⟩ = some (.int .i64 s0) := (hA.cell (by show w.heap.size < _; omega)).trans km0
      replace km1 : v21.cell? ⟨w.heap.size, 1, none⟩ = some (.slice a0 z0.length cap0) := (hA.cell (by show w.heap.size < _; omega)).trans km1
      replace kw0 : v21.cell? ⟨v4.heap.size, 0, none⟩ = some (.int .i64 S) := (hA.cell (by show v4.heap.size < _; omega)).trans kw0
      replace kw1 : v21.cell? ⟨v4.heap.size, 1, none⟩ = some (.slice A2 Z.length C2) := (hA.cell (by show v4.heap.size < _; omega)).trans kw1
      replace kx0 : v21.cell? ⟨v5.heap.size, 0, none⟩ = some (.int .i64 s0) := (hA.cell (by show v5.heap.size < _; omega)).trans kx0
      replace kx1 : v21.cell? ⟨v5.heap.size, 1, none⟩ = some (.slice A3 z0.length C3) := (hA.cell (by show v5.heap.size < _; omega)).trans kx1
      replace kg0 : v21.cell? ⟨v7.heap.size, 0, none⟩ = some (.int .i64 S) := (hA.cell (by show v7.heap.size < _; omega)).trans kg0
      replace kg1 : v21.cell? ⟨v7.heap.size, 1, none⟩ = some (.slice A5 Z.length C5) := (hA.cell (by show v7.heap.size < _; omega)).trans kg1
      replace kh0 : v21.cell? ⟨v19.heap.size, 0, none⟩ = some (.int .i64 S) := (hA.cell (by show v19.heap.size < _; omega)).trans kh0
      replace kh1 : v21.cell? ⟨v19.heap.size, 1, none⟩ = some (.slice A9 Z.length C9) := (hA.cell (by show v19.heap.size < _; omega)).trans kh1
      replace HW0 := Lib.hid (HW0.out.below hA)
      replace HW1 := Lib.hid (HW1.out.below hA)
      replace Ow := Lib.hid (Ow.out.below hA (fun g hg => (Ow.out.lt g hg).2))
      replace Ox := Lib.hid (Ox.out.below hA (fun g hg => (Ox.out.lt g hg).2))
      replace Oy := Lib.hid (Oy.out.below hA (fun g hg => (Oy.out.lt g hg).2))
      replace Og := Lib.hid (Og.out.below hA (fun g hg => (Og.out.lt g hg).2))
      replace Oh := Lib.hid (Oh.out.below hA (fun g hg => (Oh.out.lt g hg).2))
      replace HB := Lib.hid (HB.out.trans (hA.mono HB.out.size))
      clear hb hA
      have z0v21 : w.heap.size < v21.heap.size := by omega
      have z1v21 : v4.heap.size < v21.heap.size := by omega
      have z2v21 : v5.heap.size < v21.heap.size := by omega
      have z3v21 : v7.heap.size < v21.heap.size := by omega
      have z4v21 : v19.heap.size < v21.heap.size := by omega
      clear z0v20 z1v20 z2v20 z3v20 z4v20
      go_wp2_with fail
      go_ret
      exact ⟨rfl, HB.out⟩
  · have HE := Lib.hid (if_pos (by omega) : (if (1048576 : Int) < (z0.length : Int) then (-1 : Int) else 1048576 - z0.length) = -1)
    go_enter Try.func8, Try.ntmps8
    go_wp2_with fail
    refine (szMass_c _ _ _ _ 1048576 (by omega) hmax0 _).mono ?_
    rintro e v1 ⟨rfl, hb⟩
    rw [HE.out]
    have HB1 := Lib.hid (((Below.refl w.heap.size w).alloc (Nat.le_refl _) _).trans (hb.mono (by simp)))
    clear hb
    go_wp2_with fail
    go_ret
    exact ⟨rfl, HB1.out⟩

set_option maxRecDepth 100000 in
theorem lifted (os : Os) (started : os.Started) (H : Type) (enc : TypeId × Value → H) :
    ReturnsInHanded {} Try.checked os 8 .any (Rows.fnExactMoveMassSpec.pre6 enc Try.prog Try.f8 Rows.fnExactMoveMassRow.domain false) (Rows.fnExactMoveMassSpec.post enc Try.prog Try.f8 false true false false) := by
  refine returnsInHanded_of_change (C := Try.checked) own started (by kernel_rfl) Try.func8
    (ChangeSpec.witness6 (enc := enc) (C := Try.checked) false ⟨#[], #[.agg #[.int .i64 0, .slice none 0 0], .slice none 0 0], []⟩ 8 (by kernel_rfl) (by kernel_rfl) (by kernel_rfl) (by kernel_rfl)) ?_
  intro W base args ds gs before hval0 hW hcnd _
  have hval : ∀ (j : Nat) t v, Try.f8.params[j]? = some t → args[j]? = some v → Value.okWide Try.prog W .any base t v := hval0
  have hW' := hW
  obtain ⟨p, q, hA0, hV, rfl, hfz, hnd⟩ := hW
  have hA : DataW.TrodAll enc Try.prog W 0 (fun _ => true) true Try.f8.params.toList args.toList ds p := hA0
  rw [Try.params8] at hA hval
  obtain ⟨v0, vs0, d0, ds0, p0, q0, hargs, rfl, rfl, h0, r0⟩ := trodAll_cons hA
  obtain ⟨v1, vs1, d1, ds1, p1, q1, rfl, rfl, rfl, h1, r1⟩ := trodAll_cons r0
  obtain ⟨rfl, rfl, rfl⟩ := trodAll_nil r1
  obtain rfl : args = #[v0, v1] := by cases args; simp_all
  obtain ⟨rfl, rfl⟩ := trodVars_none hV
  have k0 := h0
  have lt0 : ∀ x ∈ p0, x.block < W.heap.size := by obtain ⟨m, hm⟩ := k0; exact DataW.trod_lt m _ _ _ hm
  obtain ⟨s0, a0, len0, cap0, z0, rfl, ws0, w0⟩ := get_mass Try.underlying44 (by kernel_rfl) (by kernel_rfl) Try.underlying3 Try.underlying23 (by kernel_rfl) (hval 0 44 v0 rfl rfl) h0
  have k1 := h1
  have lt1 : ∀ x ∈ p1, x.block < W.heap.size := by obtain ⟨m, hm⟩ := k1; exact DataW.trod_lt m _ _ _ hm
  obtain ⟨a1, len1, cap1, z1, rfl, w1⟩ := get_row Try.underlying23 Try.underlying3 (by kernel_rfl) (hval 1 23 v1 rfl rfl) h1
  clear hA0 hval0
  refine (walk s0 a0 len0 cap0 z0 a1 len1 cap1 z1 W ws0 w0 w1).mono fun e W' ⟨he, bel⟩ => ?_
  subst he
  exact ⟨_, rfl, _, _, _, [], _, [], hW', trodAll_mk1 (shut_bool Try.underlying4 _), (trodAll_cons_mk (Below.trod laidOut (by kernel_rfl) (of_decide_eq_true (by kernel_rfl)) k0 bel lt0) (trodAll_cons_mk (Below.trod laidOut (by kernel_rfl) (of_decide_eq_true (by kernel_rfl)) k1 bel lt1) trodAll_mk0)), rfl, bel.frame _, fun h => by cases h⟩

theorem closed : joinedFacts Try.prog 8 Try.f8 Rows.fnExactMoveMassSpec Rows.fnExactMoveMassRow = true := by
  rw [joinedFacts.eq_1]
  simp only [Bool.and_eq_true]
  repeat' apply And.intro
  all_goals first | (with_reducible exact fact_enter) | (with_reducible exact laidOut) | (with_reducible exact fact_maps) | (with_reducible exact fact_heard) | (rw [fact_lifts]; try (as_aux_lemma => kernel_rfl)) | (rw [fact_make]; try (as_aux_lemma => kernel_rfl)) | (rw [fact_keys]; try (as_aux_lemma => kernel_rfl)) | (as_aux_lemma => kernel_rfl)

theorem holds : Rows.FnExactMoveMassSaid :=
  OpenClaim.holds_of_wide 8 Try.f8 rfl rfl rfl rfl rfl rfl rfl ⟨rfl, rfl, rfl, rfl, rfl⟩ rfl rfl rfl rfl rfl (by kernel_rfl) Try.func8 closed
    (of_decide_eq_true (by kernel_rfl)) (by unfold Func.isWrapper; rw [if_neg (of_decide_eq_false (by kernel_rfl))]; exact ⟨rfl, rfl⟩)
    (fun os started H enc _ => lifted os started H enc)
#print axioms holds
end Go.Proofs.Ytclhogmfnkdcaaa.fnExactMoveMass
