/- FnExactSimpleMass: for every input that can be read, the law returns true and its arguments read afterwards as before. Conditions: none. -/
import Derived.Test.YtclhogmfnkdcaaaMem
import Derived.Test.YtclhogmfnkdcaaaSigns
import Derived.Test.YtclhogmfnkdcaaaPlainE
import Derived.Test.YtclhogmfnkdcaaaWm
import Derived.Test.YtclhogmfnkdcaaaMa
import Derived.Test.YtclhogmfnkdcaaaMb
import Derived.Test.YtclhogmfnkdcaaaMc
import Derived.Test.YtclhogmfnkdcaaaMh
import Derived.Test.YtclhogmfnkdcaaaMi
import Derived.Test.YtclhogmfnkdcaaaGl
import Derived.Test.YtclhogmfnkdcaaaWe
import Derived.Test.YtclhogmfnkdcaaaWf
import Derived.Test.YtclhogmfnkdcaaaMj
import Derived.Test.YtclhogmfnkdcaaaMk
import Derived.Test.YtclhogmfnkdcaaaPlainF
import Derived.Test.YtclhogmfnkdcaaaMl
import Derived.Deep.RegionWith
import Derived.Deep.DeepCutAuto
namespace Go.Proofs.Ytclhogmfnkdcaaa.fnExactSimpleMass
open Go.ChangeShapes Go.WideShapes Go.ChangeAt Go.RowKit
open Go.ChangeMaps (open_string shut_string)
set_option linter.unusedVariables false

set_option maxHeartbeats 4000000 in
theorem walk (a0 : Int) (a1 : Int) (x2 y2 : Int) (w : World) (w0 : Fits a0) (w1 : Fits a1) (wx2 : Fits x2) (wy2 : Fits y2) :
    Calls Try.prog 6 #[.int .i64 a0, .int .i64 a1, .agg #[.int .i64 x2, .int .i64 y2]] w fun e w' => e = .returned (.bool true) ∧ Below w.heap.size w w' := by
  have hlen : (selL (simB a0 a1 x2 y2) (madeL (simZ a0 a1 x2 y2))).length ≤ 16 := by
    unfold selL
    split
    · rename_i h
      have hv : validB a0 a1 = true := by
        rcases hv : validB a0 a1 with _ | _
        · rw [simB_no1 hv] at h; cases h
        · rfl
      obtain ⟨N, hN, _, _, hN16⟩ := pow_form (validB_of hv).1
      rw [madeL_len]
      unfold simZ
      rw [simL_len, hN]
      omega
    · simp
  obtain ⟨Z, hZ⟩ : ∃ Z, selL (simB a0 a1 x2 y2) (madeL (simZ a0 a1 x2 y2)) = Z := ⟨_, rfl⟩
  obtain ⟨S, hS⟩ : ∃ S, sel (simB a0 a1 x2 y2) a0 = S := ⟨_, rfl⟩
  obtain ⟨b, hb0⟩ : ∃ b, simB a0 a1 x2 y2 = b := ⟨_, rfl⟩
  have HS := Lib.hid (show ∀ w e w', MassOk w (simB a0 a1 x2 y2) a0 (madeL (simZ a0 a1 x2 y2)) e w' → ∃ A C, e = .returned (.tuple #[.agg #[.int .i64 S, .slice A Z.length C], .bool b]) ∧ Own w' w.heap.size (.slice A Z.length C) Z ∧ Below w.heap.size w w' from by intro w e w' h; unfold MassOk at h; rw [hZ, hS, hb0] at h; exact h)
  have hbb : (b != b) = false := by simp
  rw [hZ] at hlen
  clear hZ hS hb0
  have HB := Lib.hid (Below.refl w.heap.size w)
  go_enter Try.func6, Try.ntmps6
  go_wp2_with fail
  refine (toFraction_c _ _ _).mono ?_
  rintro e v1 ⟨rfl, hb⟩
  have hA : Below w.heap.size w v1 := Below.trans (by repeat (first | exact Below.refl _ _ | (refine Below.alloc ?_ (by first | (simp <;> omega) | omega) _) | (refine Below.setCell ?_ (by first | (simp <;> omega) | omega) _) | (refine Below.drew ?_) | (refine below_drewN ?_ _))) (hb.mono (by first | exact Nat.le_refl _ | (simp <;> omega) | omega))
  have hsv1 : w.heap.size + 1 ≤ v1.heap.size := by have := hb.size; first | (simp at this; omega) | omega
  have kx0 : v1.cell? ⟨w.heap.size, 0, none⟩ = some (.int .i64 x2) := (hb.cell (by show w.heap.size < _; first | (simp <;> omega) | omega)).trans (by go_simp)
  have kx1 : v1.cell? ⟨w.heap.size, 1, none⟩ = some (.int .i64 y2) := (hb.cell (by show w.heap.size < _; first | (simp <;> omega) | omega)).trans (by go_simp)
  replace HB := Lib.hid (HB.out.trans (hA.mono HB.out.size))
  clear hb hA
  have z0v1 : w.heap.size < v1.heap.size := by omega
  go_wp2_with fail
  refine ((spec_SimpleMass_c a0 a1 x2 y2 _).mono (HS.out _)).mono ?_
  rintro e v2 ⟨A1, C1, rfl, ho, hb⟩
  have hA : Below v1.heap.size v1 v2 := Below.trans (by repeat (first | exact Below.refl _ _ | (refine Below.alloc ?_ (by first | (simp <;> omega) | omega) _) | (refine Below.setCell ?_ (by first | (simp <;> omega) | omega) _) | (refine Below.drew ?_) | (refine below_drewN ?_ _))) (hb.mono (by first | exact Nat.le_refl _ | (simp <;> omega) | omega))
  have hsv2 : v1.heap.size ≤ v2.heap.size := hA.size
  replace kx0 : v2.cell? ⟨w.heap.size, 0, none⟩ = some (.int .i64 x2) := (hA.cell (by show w.heap.size < _; omega)).trans kx0
  replace kx1 : v2.cell? ⟨w.heap.size, 1, none⟩ = some (.int .i64 y2) := (hA.cell (by show w.heap.size < _; omega)).trans kx1
  replace HB := Lib.hid (HB.out.trans (hA.mono HB.out.size))
  have LOw : Hid (∀ g, (.slice A1 Z.length C1 : Value).ownBlock = some g → v1.heap.size + 0 ≤ g ∧ g < v2.heap.size) := Lib.hid (fun g hg => by have := ho.lt g hg; first | omega | (simp at this; omega) | (simp at this ⊢; omega))
  have Ow := Lib.hid ho
  clear hb hA ho
  have z0v2 : w.heap.size < v2.heap.size := by omega
  clear z0v1
  go_wp2_with fail
  refine (toFraction_c _ _ _).mono ?_
  rintro e v3 ⟨rfl, hb⟩
  have hA : Below v2.heap.size v2 v3 := Below.trans (by repeat (first | exact Below.refl _ _ | (refine Below.alloc ?_ (by first | (simp <;> omega) | omega) _) | (refine Below.setCell ?_ (by first | (simp <;> omega) | omega) _) | (refine Below.drew ?_) | (refine below_drewN ?_ _))) (hb.mono (by first | exact Nat.le_refl _ | (simp <;> omega) | omega))
  have hsv3 : v2.heap.size + 1 ≤ v3.heap.size := by have := hb.size; first | (simp at this; omega) | omega
  replace kx0 : v3.cell? ⟨w.heap.size, 0, none⟩ = some (.int .i64 x2) := (hA.cell (by show w.heap.size < _; omega)).trans kx0
  replace kx1 : v3.cell? ⟨w.heap.size, 1, none⟩ = some (.int .i64 y2) := (hA.cell (by show w.heap.size < _; omega)).trans kx1
  have kw0 : v3.cell? ⟨v2.heap.size, 0, none⟩ = some (.int .i64 S) := (hb.cell (by show v2.heap.size < _; first | (simp <;> omega) | omega)).trans (by go_simp)
  have kw1 : v3.cell? ⟨v2.heap.size, 1, none⟩ = some (.slice A1 Z.length C1) := (hb.cell (by show v2.heap.size < _; first | (simp <;> omega) | omega)).trans (by go_simp)
  replace Ow := Lib.hid (Ow.out.below hA (fun g hg => (Ow.out.lt g hg).2))
  replace HB := Lib.hid (HB.out.trans (hA.mono HB.out.size))
  clear hb hA
  have z0v3 : w.heap.size < v3.heap.size := by omega
  have z1v3 : v2.heap.size < v3.heap.size := by omega
  clear z0v2
  go_wp2_with fail
  refine ((impl_SimpleMass_c a0 a1 x2 y2 _).mono (HS.out _)).mono ?_
  rintro e v4 ⟨A3, C3, rfl, ho, hb⟩
  have hA : Below v3.heap.size v3 v4 := Below.trans (by repeat (first | exact Below.refl _ _ | (refine Below.alloc ?_ (by first | (simp <;> omega) | omega) _) | (refine Below.setCell ?_ (by first | (simp <;> omega) | omega) _) | (refine Below.drew ?_) | (refine below_drewN ?_ _))) (hb.mono (by first | exact Nat.le_refl _ | (simp <;> omega) | omega))
  have hsv4 : v3.heap.size ≤ v4.heap.size := hA.size
  replace kx0 : v4.cell? ⟨w.heap.size, 0, none⟩ = some (.int .i64 x2) := (hA.cell (by show w.heap.size < _; omega)).trans kx0
  replace kx1 : v4.cell? ⟨w.heap.size, 1, none⟩ = some (.int .i64 y2) := (hA.cell (by show w.heap.size < _; omega)).trans kx1
  replace kw0 : v4.cell? ⟨v2.heap.size, 0, none⟩ = some (.int .i64 S) := (hA.cell (by show v2.heap.size < _; omega)).trans kw0
  replace kw1 : v4.cell? ⟨v2.heap.size, 1, none⟩ = some (.slice A1 Z.length C1) := (hA.cell (by show v2.heap.size < _; omega)).trans kw1
  replace Ow := Lib.hid (Ow.out.below hA (fun g hg => (Ow.out.lt g hg).2))
  replace HB := Lib.hid (HB.out.trans (hA.mono HB.out.size))
  have LOg : Hid (∀ g, (.slice A3 Z.length C3 : Value).ownBlock = some g → v3.heap.size + 0 ≤ g ∧ g < v4.heap.size) := Lib.hid (fun g hg => by have := ho.lt g hg; first | omega | (simp at this; omega) | (simp at this ⊢; omega))
  have Og := Lib.hid ho
  clear hb hA ho
  have z0v4 : w.heap.size < v4.heap.size := by omega
  have z1v4 : v2.heap.size < v4.heap.size := by omega
  clear z0v3 z1v3
  go_wp2_with fail
  refine (eqMass_c _ _ _ _ _ _ Z _ (Og.out.rowAt.alloc _) (Ow.out.rowAt.alloc _)).mono ?_
  rintro e v5 ⟨rfl, hb⟩
  have hA : Below v4.heap.size v4 v5 := Below.trans (by repeat (first | exact Below.refl _ _ | (refine Below.alloc ?_ (by first | (simp <;> omega) | omega) _) | (refine Below.setCell ?_ (by first | (simp <;> omega) | omega) _) | (refine Below.drew ?_) | (refine below_drewN ?_ _))) (hb.mono (by first | exact Nat.le_refl _ | (simp <;> omega) | omega))
  have hsv5 : v4.heap.size + 1 ≤ v5.heap.size := by have := hb.size; first | (simp at this; omega) | omega
  replace kx0 : v5.cell? ⟨w.heap.size, 0, none⟩ = some (.int .i64 x2) := (hA.cell (by show w.heap.size < _; omega)).trans kx0
  replace kx1 : v5.cell? ⟨w.heap.size, 1, none⟩ = some (.int .i64 y2) := (hA.cell (by show w.heap.size < _; omega)).trans kx1
  replace kw0 : v5.cell? ⟨v2.heap.size, 0, none⟩ = some (.int .i64 S) := (hA.cell (by show v2.heap.size < _; omega)).trans kw0
  replace kw1 : v5.cell? ⟨v2.heap.size, 1, none⟩ = some (.slice A1 Z.length C1) := (hA.cell (by show v2.heap.size < _; omega)).trans kw1
  have kg0 : v5.cell? ⟨v4.heap.size, 0, none⟩ = some (.int .i64 S) := (hb.cell (by show v4.heap.size < _; first | (simp <;> omega) | omega)).trans (by go_simp)
  have kg1 : v5.cell? ⟨v4.heap.size, 1, none⟩ = some (.slice A3 Z.length C3) := (hb.cell (by show v4.heap.size < _; first | (simp <;> omega) | omega)).trans (by go_simp)
  replace Ow := Lib.hid (Ow.out.below hA (fun g hg => (Ow.out.lt g hg).2))
  replace Og := Lib.hid (Og.out.below hA (fun g hg => (Og.out.lt g hg).2))
  replace HB := Lib.hid (HB.out.trans (hA.mono HB.out.size))
  clear hb hA
  have z0v5 : w.heap.size < v5.heap.size := by omega
  have z1v5 : v2.heap.size < v5.heap.size := by omega
  have z2v5 : v4.heap.size < v5.heap.size := by omega
  clear z0v4 z1v4
  go_wp2_with fail
  refine (markMass_c _ _ Z _ _ _ 1 (by omega) (by omega) _ rfl Og.out).mono ?_
  rintro e v6 ⟨rfl, ho, hg⟩
  have hsv6 : v5.heap.size ≤ v6.heap.size := hg.size
  replace kx0 : v6.cell? ⟨w.heap.size, 0, none⟩ = some (.int .i64 x2) := hg.cell kx0 (by intro e; have h1 := LOg.out _ e.symm; first | omega | (simp at h1; omega) | (simp at h1))
  replace kx1 : v6.cell? ⟨w.heap.size, 1, none⟩ = some (.int .i64 y2) := hg.cell kx1 (by intro e; have h1 := LOg.out _ e.symm; first | omega | (simp at h1; omega) | (simp at h1))
  replace kw0 : v6.cell? ⟨v2.heap.size, 0, none⟩ = some (.int .i64 S) := hg.cell kw0 (by intro e; have h1 := LOg.out _ e.symm; first | omega | (simp at h1; omega) | (simp at h1))
  replace kw1 : v6.cell? ⟨v2.heap.size, 1, none⟩ = some (.slice A1 Z.length C1) := hg.cell kw1 (by intro e; have h1 := LOg.out _ e.symm; first | omega | (simp at h1; omega) | (simp at h1))
  replace kg0 : v6.cell? ⟨v4.heap.size, 0, none⟩ = some (.int .i64 S) := hg.cell kg0 (by intro e; have h1 := LOg.out _ e.symm; first | omega | (simp at h1; omega) | (simp at h1))
  replace kg1 : v6.cell? ⟨v4.heap.size, 1, none⟩ = some (.slice A3 Z.length C3) := hg.cell kg1 (by intro e; have h1 := LOg.out _ e.symm; first | omega | (simp at h1; omega) | (simp at h1))
  replace Ow := Lib.hid (Ow.out.grown hg (by
    rcases hy : (.slice A1 Z.length C1 : Value).ownBlock with _ | g
    · exact .inl rfl
    · right; intro e; have h1 := LOw.out g hy; have h2 := LOg.out g e.symm; omega))
  replace HB := Lib.hid (HB.out.grown hg HB.out.size (fun k hk => by have h1 := LOg.out k hk; omega))
  replace Og := Lib.hid ho
  clear ho hg
  have z0v6 : w.heap.size < v6.heap.size := by omega
  have z1v6 : v2.heap.size < v6.heap.size := by omega
  have z2v6 : v4.heap.size < v6.heap.size := by omega
  clear z0v5 z1v5 z2v5
  go_wp2_with fail
  refine (heldMass_c _ _ _ _ 1 (by omega) (by omega) _ Og.out.rowAt).mono ?_
  rintro e v7 ⟨rfl, hb⟩
  have hA : Below v6.heap.size v6 v7 := Below.trans (by repeat (first | exact Below.refl _ _ | (refine Below.alloc ?_ (by first | (simp <;> omega) | omega) _) | (refine Below.setCell ?_ (by first | (simp <;> omega) | omega) _) | (refine Below.drew ?_) | (refine below_drewN ?_ _))) (hb.mono (by first | exact Nat.le_refl _ | (simp <;> omega) | omega))
  have hsv7 : v6.heap.size ≤ v7.heap.size := hA.size
  replace kx0 : v7.cell? ⟨w.heap.size, 0, none⟩ = some (.int .i64 x2) := (hA.cell (by show w.heap.size < _; omega)).trans kx0
  replace kx1 : v7.cell? ⟨w.heap.size, 1, none⟩ = some (.int .i64 y2) := (hA.cell (by show w.heap.size < _; omega)).trans kx1
  replace kw0 : v7.cell? ⟨v2.heap.size, 0, none⟩ = some (.int .i64 S) := (hA.cell (by show v2.heap.size < _; omega)).trans kw0
  replace kw1 : v7.cell? ⟨v2.heap.size, 1, none⟩ = some (.slice A1 Z.length C1) := (hA.cell (by show v2.heap.size < _; omega)).trans kw1
  replace kg0 : v7.cell? ⟨v4.heap.size, 0, none⟩ = some (.int .i64 S) := (hA.cell (by show v4.heap.size < _; omega)).trans kg0
  replace kg1 : v7.cell? ⟨v4.heap.size, 1, none⟩ = some (.slice A3 Z.length C3) := (hA.cell (by show v4.heap.size < _; omega)).trans kg1
  replace Ow := Lib.hid (Ow.out.below hA (fun g hg => (Ow.out.lt g hg).2))
  replace Og := Lib.hid (Og.out.below hA (fun g hg => (Og.out.lt g hg).2))
  replace HB := Lib.hid (HB.out.trans (hA.mono HB.out.size))
  clear hb hA
  have z0v7 : w.heap.size < v7.heap.size := by omega
  have z1v7 : v2.heap.size < v7.heap.size := by omega
  have z2v7 : v4.heap.size < v7.heap.size := by omega
  clear z0v6 z1v6 z2v6
  go_wp2_with fail
  refine (toFraction_c _ _ _).mono ?_
  rintro e v8 ⟨rfl, hb⟩
  have hA : Below v7.heap.size v7 v8 := Below.trans (by repeat (first | exact Below.refl _ _ | (refine Below.alloc ?_ (by first | (simp <;> omega) | omega) _) | (refine Below.setCell ?_ (by first | (simp <;> omega) | omega) _) | (refine Below.drew ?_) | (refine below_drewN ?_ _))) (hb.mono (by first | exact Nat.le_refl _ | (simp <;> omega) | omega))
  have hsv8 : v7.heap.size ≤ v8.heap.size := hA.size
  replace kx0 : v8.cell? ⟨w.heap.size, 0, none⟩ = some (.int .i64 x2) := (hA.cell (by show w.heap.size < _; omega)).trans kx0
  replace kx1 : v8.cell? ⟨w.heap.size, 1, none⟩ = some (.int .i64 y2) := (hA.cell (by show w.heap.size < _; omega)).trans kx1
  replace kw0 : v8.cell? ⟨v2.heap.size, 0, none⟩ = some (.int .i64 S) := (hA.cell (by show v2.heap.size < _; omega)).trans kw0
  replace kw1 : v8.cell? ⟨v2.heap.size, 1, none⟩ = some (.slice A1 Z.length C1) := (hA.cell (by show v2.heap.size < _; omega)).trans kw1
  replace kg0 : v8.cell? ⟨v4.heap.size, 0, none⟩ = some (.int .i64 S) := (hA.cell (by show v4.heap.size < _; omega)).trans kg0
  replace kg1 : v8.cell? ⟨v4.heap.size, 1, none⟩ = some (.slice A3 Z.length C3) := (hA.cell (by show v4.heap.size < _; omega)).trans kg1
  replace Ow := Lib.hid (Ow.out.below hA (fun g hg => (Ow.out.lt g hg).2))
  replace Og := Lib.hid (Og.out.below hA (fun g hg => (Og.out.lt g hg).2))
  replace HB := Lib.hid (HB.out.trans (hA.mono HB.out.size))
  clear hb hA
  have z0v8 : w.heap.size < v8.heap.size := by omega
  have z1v8 : v2.heap.size < v8.heap.size := by omega
  have z2v8 : v4.heap.size < v8.heap.size := by omega
  clear z0v7 z1v7 z2v7
  go_wp2_with fail
  refine ((impl_SimpleMass_c a0 a1 x2 y2 _).mono (HS.out _)).mono ?_
  rintro e v9 ⟨A6, C6, rfl, ho, hb⟩
  have hA : Below v8.heap.size v8 v9 := Below.trans (by repeat (first | exact Below.refl _ _ | (refine Below.alloc ?_ (by first | (simp <;> omega) | omega) _) | (refine Below.setCell ?_ (by first | (simp <;> omega) | omega) _) | (refine Below.drew ?_) | (refine below_drewN ?_ _))) (hb.mono (by first | exact Nat.le_refl _ | (simp <;> omega) | omega))
  have hsv9 : v8.heap.size ≤ v9.heap.size := hA.size
  replace kx0 : v9.cell? ⟨w.heap.size, 0, none⟩ = some (.int .i64 x2) := (hA.cell (by show w.heap.size < _; omega)).trans kx0
  replace kx1 : v9.cell? ⟨w.heap.size, 1, none⟩ = some (.int .i64 y2) := (hA.cell (by show w.heap.size < _; omega)).trans kx1
  replace kw0 : v9.cell? ⟨v2.heap.size, 0, none⟩ = some (.int .i64 S) := (hA.cell (by show v2.heap.size < _; omega)).trans kw0
  replace kw1 : v9.cell? ⟨v2.heap.size, 1, none⟩ = some (.slice A1 Z.length C1) := (hA.cell (by show v2.heap.size < _; omega)).trans kw1
  replace kg0 : v9.cell? ⟨v4.heap.size, 0, none⟩ = some (.int .i64 S) := (hA.cell (by show v4.heap.size < _; omega)).trans kg0
  replace kg1 : v9.cell? ⟨v4.heap.size, 1, none⟩ = some (.slice A3 Z.length C3) := (hA.cell (by show v4.heap.size < _; omega)).trans kg1
  replace Ow := Lib.hid (Ow.out.below hA (fun g hg => (Ow.out.lt g hg).2))
  replace Og := Lib.hid (Og.out.below hA (fun g hg => (Og.out.lt g hg).2))
  replace HB := Lib.hid (HB.out.trans (hA.mono HB.out.size))
  have LOh : Hid (∀ g, (.slice A6 Z.length C6 : Value).ownBlock = some g → v8.heap.size + 0 ≤ g ∧ g < v9.heap.size) := Lib.hid (fun g hg => by have := ho.lt g hg; first | omega | (simp at this; omega) | (simp at this ⊢; omega))
  have Oh := Lib.hid ho
  clear hb hA ho
  have z0v9 : w.heap.size < v9.heap.size := by omega
  have z1v9 : v2.heap.size < v9.heap.size := by omega
  have z2v9 : v4.heap.size < v9.heap.size := by omega
  clear z0v8 z1v8 z2v8
  go_wp2_with fail
  refine (eqMass_c _ _ _ _ _ _ Z _ (Oh.out.rowAt.alloc _) (Ow.out.rowAt.alloc _)).mono ?_
  rintro e v10 ⟨rfl, hb⟩
  have hA : Below v9.heap.size v9 v10 := Below.trans (by repeat (first | exact Below.refl _ _ | (refine Below.alloc ?_ (by first | (simp <;> omega) | omega) _) | (refine Below.setCell ?_ (by first | (simp <;> omega) | omega) _) | (refine Below.drew ?_) | (refine below_drewN ?_ _))) (hb.mono (by first | exact Nat.le_refl _ | (simp <;> omega) | omega))
  have hsv10 : v9.heap.size + 1 ≤ v10.heap.size := by have := hb.size; first | (simp at this; omega) | omega
  replace kx0 : v10.cell? ⟨w.heap.size, 0, none⟩ = some (.int .i64 x2) := (hA.cell (by show w.heap.size < _; omega)).trans kx0
  replace kx1 : v10.cell? ⟨w.heap.size, 1, none⟩ = some (.int .i64 y2) := (hA.cell (by show w.heap.size < _; omega)).trans kx1
  replace kw0 : v10.cell? ⟨v2.heap.size, 0, none⟩ = some (.int .i64 S) := (hA.cell (by show v2.heap.size < _; omega)).trans kw0
  replace kw1 : v10.cell? ⟨v2.heap.size, 1, none⟩ = some (.slice A1 Z.length C1) := (hA.cell (by show v2.heap.size < _; omega)).trans kw1
  replace kg0 : v10.cell? ⟨v4.heap.size, 0, none⟩ = some (.int .i64 S) := (hA.cell (by show v4.heap.size < _; omega)).trans kg0
  replace kg1 : v10.cell? ⟨v4.heap.size, 1, none⟩ = some (.slice A3 Z.length C3) := (hA.cell (by show v4.heap.size < _; omega)).trans kg1
  have kh0 : v10.cell? ⟨v9.heap.size, 0, none⟩ = some (.int .i64 S) := (hb.cell (by show v9.heap.size < _; first | (simp <;> omega) | omega)).trans (by go_simp)
  have kh1 : v10.cell? ⟨v9.heap.size, 1, none⟩ = some (.slice A6 Z.length C6) := (hb.cell (by show v9.heap.size < _; first | (simp <;> omega) | omega)).trans (by go_simp)
  replace Ow := Lib.hid (Ow.out.below hA (fun g hg => (Ow.out.lt g hg).2))
  replace Og := Lib.hid (Og.out.below hA (fun g hg => (Og.out.lt g hg).2))
  replace Oh := Lib.hid (Oh.out.below hA (fun g hg => (Oh.out.lt g hg).2))
  replace HB := Lib.hid (HB.out.trans (hA.mono HB.out.size))
  clear hb hA
  have z0v10 : w.heap.size < v10.heap.size := by omega
  have z1v10 : v2.heap.size < v10.heap.size := by omega
  have z2v10 : v4.heap.size < v10.heap.size := by omega
  have z3v10 : v9.heap.size < v10.heap.size := by omega
  clear z0v9 z1v9 z2v9
  go_wp2_with fail
  refine (heldMass_c _ _ _ _ 1 (by omega) (by omega) _ Og.out.rowAt).mono ?_
  rintro e v11 ⟨rfl, hb⟩
  have hA : Below v10.heap.size v10 v11 := Below.trans (by repeat (first | exact Below.refl _ _ | (refine Below.alloc ?_ (by first | (simp <;> omega) | omega) _) | (refine Below.setCell ?_ (by first | (simp <;> omega) | omega) _) | (refine Below.drew ?_) | (refine below_drewN ?_ _))) (hb.mono (by first | exact Nat.le_refl _ | (simp <;> omega) | omega))
  have hsv11 : v10.heap.size ≤ v11.heap.size := hA.size
  replace kx0 : v11.cell? ⟨w.heap.size, 0, none⟩ = some (.int .i64 x2) := (hA.cell (by show w.heap.size < _; omega)).trans kx0
  replace kx1 : v11.cell? ⟨w.heap.size, 1, none⟩ = some (.int .i64 y2) := (hA.cell (by show w.heap.size < _; omega)).trans kx1
  replace kw0 : v11.cell? ⟨v2.heap.size, 0, none⟩ = some (.int .i64 S) := (hA.cell (by show v2.heap.size < _; omega)).trans kw0
  replace kw1 : v11.cell? ⟨v2.heap.size, 1, none⟩ = some (.slice A1 Z.length C1) := (hA.cell (by show v2.heap.size < _; omega)).trans kw1
  replace kg0 : v11.cell? ⟨v4.heap.size, 0, none⟩ = some (.int .i64 S) := (hA.cell (by show v4.heap.size < _; omega)).trans kg0
  replace kg1 : v11.cell? ⟨v4.heap.size, 1, none⟩ = some (.slice A3 Z.length C3) := (hA.cell (by show v4.heap.size < _; omega)).trans kg1
  replace kh0 : v11.cell? ⟨v9.heap.size, 0, none⟩ = some (.int .i64 S) := (hA.cell (by show v9.heap.size < _; omega)).trans kh0
  replace kh1 : v11.cell? ⟨v9.heap.size, 1, none⟩ = some (.slice A6 Z.length C6) := (hA.cell (by show v9.heap.size < _; omega)).trans kh1
  replace Ow := Lib.hid (Ow.out.below hA (fun g hg => (Ow.out.lt g hg).2))
  replace Og := Lib.hid (Og.out.below hA (fun g hg => (Og.out.lt g hg).2))
  replace Oh := Lib.hid (Oh.out.below hA (fun g hg => (Oh.out.lt g hg).2))
  replace HB := Lib.hid (HB.out.trans (hA.mono HB.out.size))
  clear hb hA
  have z0v11 : w.heap.size < v11.heap.size := by omega
  have z1v11 : v2.heap.size < v11.heap.size := by omega
  have z2v11 : v4.heap.size < v11.heap.size := by omega
  have z3v11 : v9.heap.size < v11.heap.size := by omega
  clear z0v10 z1v10 z2v10 z3v10
  go_wp2_with fail
  go_ret
  exact ⟨rfl, HB.out⟩

set_option maxRecDepth 100000 in
theorem lifted (os : Os) (started : os.Started) (H : Type) (enc : TypeId × Value → H) :
    ReturnsInHanded {} Try.checked os 6 .any (Rows.fnExactSimpleMassSpec.pre6 enc Try.prog Try.f6 Rows.fnExactSimpleMassRow.domain false) (Rows.fnExactSimpleMassSpec.post enc Try.prog Try.f6 false true false false) := by
  refine returnsInHanded_of_change (C := Try.checked) own started (by kernel_rfl) Try.func6
    (ChangeSpec.witness6 (enc := enc) (C := Try.checked) false ⟨#[], #[.int .i64 0, .int .i64 0, .agg #[.int .i64 0, .int .i64 0]], []⟩ 8 (by kernel_rfl) (by kernel_rfl) (by kernel_rfl) (by kernel_rfl)) ?_
  intro W base args ds gs before hval0 hW hcnd _
  have hval : ∀ (j : Nat) t v, Try.f6.params[j]? = some t → args[j]? = some v → Value.okWide Try.prog W .any base t v := hval0
  have hW' := hW
  obtain ⟨p, q, hA0, hV, rfl, hfz, hnd⟩ := hW
  have hA : DataW.TrodAll enc Try.prog W 0 (fun _ => true) true Try.f6.params.toList args.toList ds p := hA0
  rw [Try.params6] at hA hval
  obtain ⟨v0, vs0, d0, ds0, p0, q0, hargs, rfl, rfl, h0, r0⟩ := trodAll_cons hA
  obtain ⟨v1, vs1, d1, ds1, p1, q1, rfl, rfl, rfl, h1, r1⟩ := trodAll_cons r0
  obtain ⟨v2, vs2, d2, ds2, p2, q2, rfl, rfl, rfl, h2, r2⟩ := trodAll_cons r1
  obtain ⟨rfl, rfl, rfl⟩ := trodAll_nil r2
  obtain rfl : args = #[v0, v1, v2] := by cases args; simp_all
  obtain ⟨rfl, rfl⟩ := trodVars_none hV
  have k0 := h0
  have lt0 : ∀ x ∈ p0, x.block < W.heap.size := by obtain ⟨m, hm⟩ := k0; exact DataW.trod_lt m _ _ _ hm
  obtain ⟨a0, rfl, w0⟩ := get_int Try.underlying3 (hval 0 3 v0 rfl rfl) h0
  have k1 := h1
  have lt1 : ∀ x ∈ p1, x.block < W.heap.size := by obtain ⟨m, hm⟩ := k1; exact DataW.trod_lt m _ _ _ hm
  obtain ⟨a1, rfl, w1⟩ := get_int Try.underlying3 (hval 1 3 v1 rfl rfl) h1
  have k2 := h2
  have lt2 : ∀ x ∈ p2, x.block < W.heap.size := by obtain ⟨m, hm⟩ := k2; exact DataW.trod_lt m _ _ _ hm
  obtain ⟨x2, y2, rfl, wx2, wy2⟩ := get_frac Try.underlying49 (by kernel_rfl) (by kernel_rfl) Try.underlying3 (hval 2 49 v2 rfl rfl) h2
  clear hA0 hval0
  refine (walk a0 a1 x2 y2 W w0 w1 wx2 wy2).mono fun e W' ⟨he, bel⟩ => ?_
  subst he
  exact ⟨_, rfl, _, _, _, [], _, [], hW', trodAll_mk1 (shut_bool Try.underlying4 _), (trodAll_cons_mk (Below.trod laidOut (by kernel_rfl) (of_decide_eq_true (by kernel_rfl)) k0 bel lt0) (trodAll_cons_mk (Below.trod laidOut (by kernel_rfl) (of_decide_eq_true (by kernel_rfl)) k1 bel lt1) (trodAll_cons_mk (Below.trod laidOut (by kernel_rfl) (of_decide_eq_true (by kernel_rfl)) k2 bel lt2) trodAll_mk0))), rfl, bel.frame _, fun h => by cases h⟩

theorem closed : joinedFacts Try.prog 6 Try.f6 Rows.fnExactSimpleMassSpec Rows.fnExactSimpleMassRow = true := by
  rw [joinedFacts.eq_1]
  simp only [Bool.and_eq_true]
  repeat' apply And.intro
  all_goals first | (with_reducible exact fact_enter) | (with_reducible exact laidOut) | (with_reducible exact fact_maps) | (with_reducible exact fact_heard) | (rw [fact_lifts]; try (as_aux_lemma => kernel_rfl)) | (rw [fact_make]; try (as_aux_lemma => kernel_rfl)) | (rw [fact_keys]; try (as_aux_lemma => kernel_rfl)) | (as_aux_lemma => kernel_rfl)

theorem holds : Rows.FnExactSimpleMassSaid :=
  OpenClaim.holds_of_wide 6 Try.f6 rfl rfl rfl rfl rfl rfl rfl ⟨rfl, rfl, rfl, rfl, rfl⟩ rfl rfl rfl rfl rfl (by kernel_rfl) Try.func6 closed
    (of_decide_eq_true (by kernel_rfl)) (by unfold Func.isWrapper; rw [if_neg (of_decide_eq_false (by kernel_rfl))]; exact ⟨rfl, rfl⟩)
    (fun os started H enc _ => lifted os started H enc)
#print axioms holds
end Go.Proofs.Ytclhogmfnkdcaaa.fnExactSimpleMass
