/- FnExactMakeMass: for every input that can be read, the law returns true and its arguments read afterwards as before. Conditions: none. -/
import Derived.Test.YtclhogmfnkdcaaaMem
import Derived.Test.YtclhogmfnkdcaaaSigns
import Derived.Test.YtclhogmfnkdcaaaPlainE
import Derived.Test.YtclhogmfnkdcaaaWm
import Derived.Test.YtclhogmfnkdcaaaMa
import Derived.Test.YtclhogmfnkdcaaaMb
import Derived.Test.YtclhogmfnkdcaaaMc
import Derived.Test.YtclhogmfnkdcaaaMh
import Derived.Test.YtclhogmfnkdcaaaMi
import Derived.Test.YtclhogmfnkdcaaaGl
import Derived.Test.YtclhogmfnkdcaaaMj
import Derived.Test.YtclhogmfnkdcaaaMk
import Derived.Deep.RegionWith
import Derived.Deep.DeepCutAuto
namespace Go.Proofs.Ytclhogmfnkdcaaa.fnExactMakeMass
open Go.ChangeShapes Go.WideShapes Go.ChangeAt Go.RowKit
open Go.ChangeMaps (open_string shut_string)
set_option linter.unusedVariables false

set_option maxHeartbeats 4000000 in
theorem walk (a0 : Int) (a1 : Option Addr) (len1 cap1 : Nat) (z1 : List Int) (w : World) (w0 : Fits a0) (w1 : IsRow .i64 w a1 len1 cap1 z1) :
    Calls Try.prog 4 #[.int .i64 a0, .slice a1 len1 cap1] w fun e w' => e = .returned (.bool true) ∧ Below w.heap.size w w' := by
  obtain rfl : z1.length = len1 := w1.len
  have hmax1 : z1.length ≤ 9223372036854775807 := Nat.le_trans w1.2.1 w1.2.2.1
  have HW1 := Lib.hid w1
  have WHW1 := Lib.hid w1.lowAt
  clear w1
  by_cases hn : z1.length ≤ 1048576
  · have hn2 : (z1.length : Int) ≤ 1048576 := by omega
    have hlen : (selL (mkB a0 z1) (madeL z1)).length ≤ 1048576 := by
      unfold selL
      split
      · rw [madeL_len]; exact hn
      · simp
    obtain ⟨Z, hZ⟩ : ∃ Z, selL (mkB a0 z1) (madeL z1) = Z := ⟨_, rfl⟩
    obtain ⟨S, hS⟩ : ∃ S, sel (mkB a0 z1) a0 = S := ⟨_, rfl⟩
    obtain ⟨b, hb0⟩ : ∃ b, mkB a0 z1 = b := ⟨_, rfl⟩
    have HS := Lib.hid (show ∀ w e w', MassOk w (mkB a0 z1) a0 (madeL z1) e w' → ∃ A C, e = .returned (.tuple #[.agg #[.int .i64 S, .slice A Z.length C], .bool b]) ∧ Own w' w.heap.size (.slice A Z.length C) Z ∧ Below w.heap.size w w' from by intro w e w' h; unfold MassOk at h; rw [hZ, hS, hb0] at h; exact h)
    have hbb : (b != b) = false := by simp
    rw [hZ] at hlen
    clear hZ hS hb0
    have HB := Lib.hid (Below.refl w.heap.size w)
    go_enter Try.func4, Try.ntmps4
    go_wp2_with fail
    refine (ret_own (toIntS_c _ _ _ z1 hn _ HW1.out)).mono ?_
    rintro e v1 ⟨A0, C0, rfl, ho, hb⟩
    have hA : Below w.heap.size w v1 := Below.trans (by repeat (first | exact Below.refl _ _ | (refine Below.alloc ?_ (by first | (simp <;> omega) | omega) _) | (refine Below.setCell ?_ (by first | (simp <;> omega) | omega) _) | (refine Below.drew ?_) | (refine below_drewN ?_ _))) (hb.mono (by first | exact Nat.le_refl _ | (simp <;> omega) | omega))
    have hsv1 : w.heap.size ≤ v1.heap.size := hA.size
    replace HW1 := Lib.hid (HW1.out.below hA)
    replace HB := Lib.hid (HB.out.trans (hA.mono HB.out.size))
    have LOt : Hid (∀ g, (.slice A0 z1.length C0 : Value).ownBlock = some g → w.heap.size + 0 ≤ g ∧ g < v1.heap.size) := Lib.hid (fun g hg => by have := ho.lt g hg; first | omega | (simp at this; omega) | (simp at this ⊢; omega))
    have Ot := Lib.hid ho
    clear hb hA ho
    go_wp2_with fail
    refine ((spec_MakeMass_c a0 _ _ _ z1 _ Ot.out.rowAt).mono (HS.out _)).mono ?_
    rintro e v2 ⟨A1, C1, rfl, ho, hb⟩
    have hA : Below v1.heap.size v1 v2 := Below.trans (by repeat (first | exact Below.refl _ _ | (refine Below.alloc ?_ (by first | (simp <;> omega) | omega) _) | (refine Below.setCell ?_ (by first | (simp <;> omega) | omega) _) | (refine Below.drew ?_) | (refine below_drewN ?_ _))) (hb.mono (by first | exact Nat.le_refl _ | (simp <;> omega) | omega))
    have hsv2 : v1.heap.size ≤ v2.heap.size := hA.size
    replace HW1 := Lib.hid (HW1.out.below hA)
    replace Ot := Lib.hid (Ot.out.below hA (fun g hg => (Ot.out.lt g hg).2))
    replace HB := Lib.hid (HB.out.trans (hA.mono HB.out.size))
    have LOw : Hid (∀ g, (.slice A1 Z.length C1 : Value).ownBlock = some g → v1.heap.size + 0 ≤ g ∧ g < v2.heap.size) := Lib.hid (fun g hg => by have := ho.lt g hg; first | omega | (simp at this; omega) | (simp at this ⊢; omega))
    have Ow := Lib.hid ho
    clear hb hA ho
    clear Ot
    go_wp2_with fail
    refine (ret_own (toIntS_c _ _ _ z1 hn _ (HW1.out.alloc _))).mono ?_
    rintro e v3 ⟨A2, C2, rfl, ho, hb⟩
    have hA : Below v2.heap.size v2 v3 := Below.trans (by repeat (first | exact Below.refl _ _ | (refine Below.alloc ?_ (by first | (simp <;> omega) | omega) _) | (refine Below.setCell ?_ (by first | (simp <;> omega) | omega) _) | (refine Below.drew ?_) | (refine below_drewN ?_ _))) (hb.mono (by first | exact Nat.le_refl _ | (simp <;> omega) | omega))
    have hsv3 : v2.heap.size + 1 ≤ v3.heap.size := by have := hb.size; first | (simp at this; omega) | omega
    have kw0 : v3.cell? ⟨v2.heap.size, 0, none⟩ = some (.int .i64 S) := (hb.cell (by show v2.heap.size < _; first | (simp <;> omega) | omega)).trans (by go_simp)
    have kw1 : v3.cell? ⟨v2.heap.size, 1, none⟩ = some (.slice A1 Z.length C1) := (hb.cell (by show v2.heap.size < _; first | (simp <;> omega) | omega)).trans (by go_simp)
    replace HW1 := Lib.hid (HW1.out.below hA)
    replace Ow := Lib.hid (Ow.out.below hA (fun g hg => (Ow.out.lt g hg).2))
    replace HB := Lib.hid (HB.out.trans (hA.mono HB.out.size))
    have LOx : Hid (∀ g, (.slice A2 z1.length C2 : Value).ownBlock = some g → v2.heap.size + 1 ≤ g ∧ g < v3.heap.size) := Lib.hid (fun g hg => by have := ho.lt g hg; first | omega | (simp at this; omega) | (simp at this ⊢; omega))
    have Ox := Lib.hid ho
    clear hb hA ho
    have z0v3 : v2.heap.size < v3.heap.size := by omega
    go_wp2_with fail
    refine ((impl_MakeMass_c a0 _ _ _ z1 _ Ox.out.rowAt).mono (HS.out _)).mono ?_
    rintro e v4 ⟨A3, C3, rfl, ho, hb⟩
    have hA : Below v3.heap.size v3 v4 := Below.trans (by repeat (first | exact Below.refl _ _ | (refine Below.alloc ?_ (by first | (simp <;> omega) | omega) _) | (refine Below.setCell ?_ (by first | (simp <;> omega) | omega) _) | (refine Below.drew ?_) | (refine below_drewN ?_ _))) (hb.mono (by first | exact Nat.le_refl _ | (simp <;> omega) | omega))
    have hsv4 : v3.heap.size ≤ v4.heap.size := hA.size
    replace kw0 : v4.cell? ⟨v2.heap.size, 0, none⟩ = some (.int .i64 S) := (hA.cell (by show v2.heap.size < _; omega)).trans kw0
    replace kw1 : v4.cell? ⟨v2.heap.size, 1, none⟩ = some (.slice A1 Z.length C1) := (hA.cell (by show v2.heap.size < _; omega)).trans kw1
    replace HW1 := Lib.hid (HW1.out.below hA)
    replace Ow := Lib.hid (Ow.out.below hA (fun g hg => (Ow.out.lt g hg).2))
    replace Ox := Lib.hid (Ox.out.below hA (fun g hg => (Ox.out.lt g hg).2))
    replace HB := Lib.hid (HB.out.trans (hA.mono HB.out.size))
    have LOg : Hid (∀ g, (.slice A3 Z.length C3 : Value).ownBlock = some g → v3.heap.size + 0 ≤ g ∧ g < v4.heap.size) := Lib.hid (fun g hg => by have := ho.lt g hg; first | omega | (simp at this; omega) | (simp at this ⊢; omega))
    have Og := Lib.hid ho
    clear hb hA ho
    have z0v4 : v2.heap.size < v4.heap.size := by omega
    clear z0v3
    go_wp2_with fail
    refine (eqMass_c _ _ _ _ _ _ Z _ (Og.out.rowAt.alloc _) (Ow.out.rowAt.alloc _)).mono ?_
    rintro e v5 ⟨rfl, hb⟩
    have hA : Below v4.heap.size v4 v5 := Below.trans (by repeat (first | exact Below.refl _ _ | (refine Below.alloc ?_ (by first | (simp <;> omega) | omega) _) | (refine Below.setCell ?_ (by first | (simp <;> omega) | omega) _) | (refine Below.drew ?_) | (refine below_drewN ?_ _))) (hb.mono (by first | exact Nat.le_refl _ | (simp <;> omega) | omega))
    have hsv5 : v4.heap.size + 1 ≤ v5.heap.size := by have := hb.size; first | (simp at this; omega) | omega
    replace kw0 : v5.cell? ⟨v2.heap.size, 0, none⟩ = some (.int .i64 S) := (hA.cell (by show v2.heap.size < _; omega)).trans kw0
    replace kw1 : v5.cell? ⟨v2.heap.size, 1, none⟩ = some (.slice A1 Z.length C1) := (hA.cell (by show v2.heap.size < _; omega)).trans kw1
    have kg0 : v5.cell? ⟨v4.heap.size, 0, none⟩ = some (.int .i64 S) := (hb.cell (by show v4.heap.size < _; first | (simp <;> omega) | omega)).trans (by go_simp)
    have kg1 : v5.cell? ⟨v4.heap.size, 1, none⟩ = some (.slice A3 Z.length C3) := (hb.cell (by show v4.heap.size < _; first | (simp <;> omega) | omega)).trans (by go_simp)
    replace HW1 := Lib.hid (HW1.out.below hA)
    replace Ow := Lib.hid (Ow.out.below hA (fun g hg => (Ow.out.lt g hg).2))
    replace Ox := Lib.hid (Ox.out.below hA (fun g hg => (Ox.out.lt g hg).2))
    replace Og := Lib.hid (Og.out.below hA (fun g hg => (Og.out.lt g hg).2))
    replace HB := Lib.hid (HB.out.trans (hA.mono HB.out.size))
    clear hb hA
    have z0v5 : v2.heap.size < v5.heap.size := by omega
    have z1v5 : v4.heap.size < v5.heap.size := by omega
    clear z0v4
    go_wp2_with fail
    refine (ret_own (toIntS_c _ _ _ z1 hn _ HW1.out)).mono ?_
    rintro e v6 ⟨A4, C4, rfl, ho, hb⟩
    have hA : Below v5.heap.size v5 v6 := Below.trans (by repeat (first | exact Below.refl _ _ | (refine Below.alloc ?_ (by first | (simp <;> omega) | omega) _) | (refine Below.setCell ?_ (by first | (simp <;> omega) | omega) _) | (refine Below.drew ?_) | (refine below_drewN ?_ _))) (hb.mono (by first | exact Nat.le_refl _ | (simp <;> omega) | omega))
    have hsv6 : v5.heap.size ≤ v6.heap.size := hA.size
    replace kw0 : v6.cell? ⟨v2.heap.size, 0, none⟩ = some (.int .i64 S) := (hA.cell (by show v2.heap.size < _; omega)).trans kw0
    replace kw1 : v6.cell? ⟨v2.heap.size, 1, none⟩ = some (.slice A1 Z.length C1) := (hA.cell (by show v2.heap.size < _; omega)).trans kw1
    replace kg0 : v6.cell? ⟨v4.heap.size, 0, none⟩ = some (.int .i64 S) := (hA.cell (by show v4.heap.size < _; omega)).trans kg0
    replace kg1 : v6.cell? ⟨v4.heap.size, 1, none⟩ = some (.slice A3 Z.length C3) := (hA.cell (by show v4.heap.size < _; omega)).trans kg1
    replace HW1 := Lib.hid (HW1.out.below hA)
    replace Ow := Lib.hid (Ow.out.below hA (fun g hg => (Ow.out.lt g hg).2))
    replace Ox := Lib.hid (Ox.out.below hA (fun g hg => (Ox.out.lt g hg).2))
    replace Og := Lib.hid (Og.out.below hA (fun g hg => (Og.out.lt g hg).2))
    replace HB := Lib.hid (HB.out.trans (hA.mono HB.out.size))
    have LOq : Hid (∀ g, (.slice A4 z1.length C4 : Value).ownBlock = some g → v5.heap.size + 0 ≤ g ∧ g < v6.heap.size) := Lib.hid (fun g hg => by have := ho.lt g hg; first | omega | (simp at this; omega) | (simp at this ⊢; omega))
    have Oq := Lib.hid ho
    clear hb hA ho
    have z0v6 : v2.heap.size < v6.heap.size := by omega
    have z1v6 : v4.heap.size < v6.heap.size := by omega
    clear z0v5 z1v5
    go_wp2_with fail
    refine (bel_drew (eqIntS_c _ _ _ _ _ z1 _ Ox.out.rowAt Oq.out.rowAt)).mono ?_
    rintro e v7 ⟨rfl, hb⟩
    have hA : Below v6.heap.size v6 v7 := Below.trans (by repeat (first | exact Below.refl _ _ | (refine Below.alloc ?_ (by first | (simp <;> omega) | omega) _) | (refine Below.setCell ?_ (by first | (simp <;> omega) | omega) _) | (refine Below.drew ?_) | (refine below_drewN ?_ _))) (hb.mono (by first | exact Nat.le_refl _ | (simp <;> omega) | omega))
    have hsv7 : v6.heap.size ≤ v7.heap.size := hA.size
    replace kw0 : v7.cell? ⟨v2.heap.size, 0, none⟩ = some (.int .i64 S) := (hA.cell (by show v2.heap.size < _; omega)).trans kw0
    replace kw1 : v7.cell? ⟨v2.heap.size, 1, none⟩ = some (.slice A1 Z.length C1) := (hA.cell (by show v2.heap.size < _; omega)).trans kw1
    replace kg0 : v7.cell? ⟨v4.heap.size, 0, none⟩ = some (.int .i64 S) := (hA.cell (by show v4.heap.size < _; omega)).trans kg0
    replace kg1 : v7.cell? ⟨v4.heap.size, 1, none⟩ = some (.slice A3 Z.length C3) := (hA.cell (by show v4.heap.size < _; omega)).trans kg1
    replace HW1 := Lib.hid (HW1.out.below hA)
    replace Ow := Lib.hid (Ow.out.below hA (fun g hg => (Ow.out.lt g hg).2))
    replace Ox := Lib.hid (Ox.out.below hA (fun g hg => (Ox.out.lt g hg).2))
    replace Og := Lib.hid (Og.out.below hA (fun g hg => (Og.out.lt g hg).2))
    replace Oq := Lib.hid (Oq.out.below hA (fun g hg => (Oq.out.lt g hg).2))
    replace HB := Lib.hid (HB.out.trans (hA.mono HB.out.size))
    clear hb hA
    have z0v7 : v2.heap.size < v7.heap.size := by omega
    have z1v7 : v4.heap.size < v7.heap.size := by omega
    clear z0v6 z1v6
    clear Oq
    go_wp2_with fail
    refine (markIntS_c _ z1 _ _ _ 1 (by omega) (by omega) _ rfl Ox.out).mono ?_
    rintro e v8 ⟨rfl, ho, hg⟩
    have hsv8 : v7.heap.size ≤ v8.heap.size := hg.size
    replace kw0 : v8.cell? ⟨v2.heap.size, 0, none⟩ = some (.int .i64 S) := hg.cell kw0 (by intro e; have h1 := LOx.out _ e.symm; first | omega | (simp at h1; omega) | (simp at h1))
    replace kw1 : v8.cell? ⟨v2.heap.size, 1, none⟩ = some (.slice A1 Z.length C1) := hg.cell kw1 (by intro e; have h1 := LOx.out _ e.symm; first | omega | (simp at h1; omega) | (simp at h1))
    replace kg0 : v8.cell? ⟨v4.heap.size, 0, none⟩ = some (.int .i64 S) := hg.cell kg0 (by intro e; have h1 := LOx.out _ e.symm; first | omega | (simp at h1; omega) | (simp at h1))
    replace kg1 : v8.cell? ⟨v4.heap.size, 1, none⟩ = some (.slice A3 Z.length C3) := hg.cell kg1 (by intro e; have h1 := LOx.out _ e.symm; first | omega | (simp at h1; omega) | (simp at h1))
    replace HW1 := Lib.hid (HW1.out.grown hg (fun hp b o e e2 => by have h1 := LOx.out b e2; have h2 := WHW1.out hp b o e; omega))
    replace Ow := Lib.hid (Ow.out.grown hg (by
      rcases hy : (.slice A1 Z.length C1 : Value).ownBlock with _ | g
      · exact .inl rfl
      · right; intro e; have h1 := LOw.out g hy; have h2 := LOx.out g e.symm; omega))
    replace Og := Lib.hid (Og.out.grown hg (by
      rcases hy : (.slice A3 Z.length C3 : Value).ownBlock with _ | g
      · exact .inl rfl
      · right; intro e; have h1 := LOg.out g hy; have h2 := LOx.out g e.symm; omega))
    replace HB := Lib.hid (HB.out.grown hg HB.out.size (fun k hk => by have h1 := LOx.out k hk; omega))
    replace Ox := Lib.hid ho
    clear ho hg
    have z0v8 : v2.heap.size < v8.heap.size := by omega
    have z1v8 : v4.heap.size < v8.heap.size := by omega
    clear z0v7 z1v7
    go_wp2_with fail
    refine (eqMass_c _ _ _ _ _ _ Z _ Og.out.rowAt Ow.out.rowAt).mono ?_
    rintro e v9 ⟨rfl, hb⟩
    have hA : Below v8.heap.size v8 v9 := Below.trans (by repeat (first | exact Below.refl _ _ | (refine Below.alloc ?_ (by first | (simp <;> omega) | omega) _) | (refine Below.setCell ?_ (by first | (simp <;> omega) | omega) _) | (refine Below.drew ?_) | (refine below_drewN ?_ _))) (hb.mono (by first | exact Nat.le_refl _ | (simp <;> omega) | omega))
    have hsv9 : v8.heap.size ≤ v9.heap.size := hA.size
    replace kw0 : v9.cell? ⟨v2.heap.size, 0, none⟩ = some (.int .i64 S) := (hA.cell (by show v2.heap.size < _; omega)).trans kw0
    replace kw1 : v9.cell? ⟨v2.heap.size, 1, none⟩ = some (.slice A1 Z.length C1) := (hA.cell (by show v2.heap.size < _; omega)).trans kw1
    replace kg0 : v9.cell? ⟨v4.heap.size, 0, none⟩ = some (.int .i64 S) := (hA.cell (by show v4.heap.size < _; omega)).trans kg0
    replace kg1 : v9.cell? ⟨v4.heap.size, 1, none⟩ = some (.slice A3 Z.length C3) := (hA.cell (by show v4.heap.size < _; omega)).trans kg1
    replace HW1 := Lib.hid (HW1.out.below hA)
    replace Ow := Lib.hid (Ow.out.below hA (fun g hg => (Ow.out.lt g hg).2))
    replace Ox := Lib.hid (Ox.out.below hA (fun g hg => (Ox.out.lt g hg).2))
    replace Og := Lib.hid (Og.out.below hA (fun g hg => (Og.out.lt g hg).2))
    replace HB := Lib.hid (HB.out.trans (hA.mono HB.out.size))
    clear hb hA
    have z0v9 : v2.heap.size < v9.heap.size := by omega
    have z1v9 : v4.heap.size < v9.heap.size := by omega
    clear z0v8 z1v8
    go_wp2_with fail
    refine (markMass_c _ _ Z _ _ _ 1 (by omega) (by omega) _ rfl Og.out).mono ?_
    rintro e v10 ⟨rfl, ho, hg⟩
    have hsv10 : v9.heap.size ≤ v10.heap.size := hg.size
    replace kw0 : v10.cell? ⟨v2.heap.size, 0, none⟩ = some (.int .i64 S) := hg.cell kw0 (by intro e; have h1 := LOg.out _ e.symm; first | omega | (simp at h1; omega) | (simp at h1))
    replace kw1 : v10.cell? ⟨v2.heap.size, 1, none⟩ = some (.slice A1 Z.length C1) := hg.cell kw1 (by intro e; have h1 := LOg.out _ e.symm; first | omega | (simp at h1; omega) | (simp at h1))
    replace kg0 : v10.cell? ⟨v4.heap.size, 0, none⟩ = some (.int .i64 S) := hg.cell kg0 (by intro e; have h1 := LOg.out _ e.symm; first | omega | (simp at h1; omega) | (simp at h1))
    replace kg1 : v10.cell? ⟨v4.heap.size, 1, none⟩ = some (.slice A3 Z.length C3) := hg.cell kg1 (by intro e; have h1 := LOg.out _ e.symm; first | omega | (simp at h1; omega) | (simp at h1))
    replace HW1 := Lib.hid (HW1.out.grown hg (fun hp b o e e2 => by have h1 := LOg.out b e2; have h2 := WHW1.out hp b o e; omega))
    replace Ow := Lib.hid (Ow.out.grown hg (by
      rcases hy : (.slice A1 Z.length C1 : Value).ownBlock with _ | g
      · exact .inl rfl
      · right; intro e; have h1 := LOw.out g hy; have h2 := LOg.out g e.symm; omega))
    replace Ox := Lib.hid (Ox.out.grown hg (by
      rcases hy : (.slice A2 z1.length C2 : Value).ownBlock with _ | g
      · exact .inl rfl
      · right; intro e; have h1 := LOx.out g hy; have h2 := LOg.out g e.symm; omega))
    replace HB := Lib.hid (HB.out.grown hg HB.out.size (fun k hk => by have h1 := LOg.out k hk; omega))
    replace Og := Lib.hid ho
    clear ho hg
    have z0v10 : v2.heap.size < v10.heap.size := by omega
    have z1v10 : v4.heap.size < v10.heap.size := by omega
    clear z0v9 z1v9
    go_wp2_with fail
    refine (heldMass_c _ _ _ _ 1 (by omega) (by omega) _ Og.out.rowAt).mono ?_
    rintro e v11 ⟨rfl, hb⟩
    have hA : Below v10.heap.size v10 v11 := Below.trans (by repeat (first | exact Below.refl _ _ | (refine Below.alloc ?_ (by first | (simp <;> omega) | omega) _) | (refine Below.setCell ?_ (by first | (simp <;> omega) | omega) _) | (refine Below.drew ?_) | (refine below_drewN ?_ _))) (hb.mono (by first | exact Nat.le_refl _ | (simp <;> omega) | omega))
    have hsv11 : v10.heap.size ≤ v11.heap.size := hA.size
    replace kw0 : v11.cell? ⟨v2.heap.size, 0, none⟩ = some (.int .i64 S) := (hA.cell (by show v2.heap.size < _; omega)).trans kw0
    replace kw1 : v11.cell? ⟨v2.heap.size, 1, none⟩ = some (.slice A1 Z.length C1) := (hA.cell (by show v2.heap.size < _; omega)).trans kw1
    replace kg0 : v11.cell? ⟨v4.heap.size, 0, none⟩ = some (.int .i64 S) := (hA.cell (by show v4.heap.size < _; omega)).trans kg0
    replace kg1 : v11.cell? ⟨v4.heap.size, 1, none⟩ = some (.slice A3 Z.length C3) := (hA.cell (by show v4.heap.size < _; omega)).trans kg1
    replace HW1 := Lib.hid (HW1.out.below hA)
    replace Ow := Lib.hid (Ow.out.below hA (fun g hg => (Ow.out.lt g hg).2))
    replace Ox := Lib.hid (Ox.out.below hA (fun g hg => (Ox.out.lt g hg).2))
    replace Og := Lib.hid (Og.out.below hA (fun g hg => (Og.out.lt g hg).2))
    replace HB := Lib.hid (HB.out.trans (hA.mono HB.out.size))
    clear hb hA
    have z0v11 : v2.heap.size < v11.heap.size := by omega
    have z1v11 : v4.heap.size < v11.heap.size := by omega
    clear z0v10 z1v10
    go_wp2_with fail
    refine (ret_own (toIntS_c _ _ _ z1 hn _ HW1.out)).mono ?_
    rintro e v12 ⟨A5, C5, rfl, ho, hb⟩
    have hA : Below v11.heap.size v11 v12 := Below.trans (by repeat (first | exact Below.refl _ _ | (refine Below.alloc ?_ (by first | (simp <;> omega) | omega) _) | (refine Below.setCell ?_ (by first | (simp <;> omega) | omega) _) | (refine Below.drew ?_) | (refine below_drewN ?_ _))) (hb.mono (by first | exact Nat.le_refl _ | (simp <;> omega) | omega))
    have hsv12 : v11.heap.size ≤ v12.heap.size := hA.size
    replace kw0 : v12.cell? ⟨v2.heap.size, 0, none⟩ = some (.int .i64 S) := (hA.cell (by show v2.heap.size < _; omega)).trans kw0
    replace kw1 : v12.cell? ⟨v2.heap.size, 1, none⟩ = some (.slice A1 Z.length C1) := (hA.cell (by show v2.heap.size < _; omega)).trans kw1
    replace kg0 : v12.cell? ⟨v4.heap.size, 0, none⟩ = some (.int .i64 S) := (hA.cell (by show v4.heap.size < _; omega)).trans kg0
    replace kg1 : v12.cell? ⟨v4.heap.size, 1, none⟩ = some (.slice A3 Z.length C3) := (hA.cell (by show v4.heap.size < _; omega)).trans kg1
    replace HW1 := Lib.hid (HW1.out.below hA)
    replace Ow := Lib.hid (Ow.out.below hA (fun g hg => (Ow.out.lt g hg).2))
    replace Ox := Lib.hid (Ox.out.below hA (fun g hg => (Ox.out.lt g hg).2))
    replace Og := Lib.hid (Og.out.below hA (fun g hg => (Og.out.lt g hg).2))
    replace HB := Lib.hid (HB.out.trans (hA.mono HB.out.size))
    have LOy : Hid (∀ g, (.slice A5 z1.length C5 : Value).ownBlock = some g → v11.heap.size + 0 ≤ g ∧ g < v12.heap.size) := Lib.hid (fun g hg => by have := ho.lt g hg; first | omega | (simp at this; omega) | (simp at this ⊢; omega))
    have Oy := Lib.hid ho
    clear hb hA ho
    have z0v12 : v2.heap.size < v12.heap.size := by omega
    have z1v12 : v4.heap.size < v12.heap.size := by omega
    clear z0v11 z1v11
    go_wp2_with fail
    refine ((impl_MakeMass_c a0 _ _ _ z1 _ Oy.out.rowAt).mono (HS.out _)).mono ?_
    rintro e v13 ⟨A6, C6, rfl, ho, hb⟩
    have hA : Below v12.heap.size v12 v13 := Below.trans (by repeat (first | exact Below.refl _ _ | (refine Below.alloc ?_ (by first | (simp <;> omega) | omega) _) | (refine Below.setCell ?_ (by first | (simp <;> omega) | omega) _) | (refine Below.drew ?_) | (refine below_drewN ?_ _))) (hb.mono (by first | exact Nat.le_refl _ | (simp <;> omega) | omega))
    have hsv13 : v12.heap.size ≤ v13.heap.size := hA.size
    replace kw0 : v13.cell? ⟨v2.heap.size, 0, none⟩ = some (.int .i64 S) := (hA.cell (by show v2.heap.size < _; omega)).trans kw0
    replace kw1 : v13.cell? ⟨v2.heap.size, 1, none⟩ = some (.slice A1 Z.length C1) := (hA.cell (by show v2.heap.size < _; omega)).trans kw1
    replace kg0 : v13.cell? ⟨v4.heap.size, 0, none⟩ = some (.int .i64 S) := (hA.cell (by show v4.heap.size < _; omega)).trans kg0
    replace kg1 : v13.cell? ⟨v4.heap.size, 1, none⟩ = some (.slice A3 Z.length C3) := (hA.cell (by show v4.heap.size < _; omega)).trans kg1
    replace HW1 := Lib.hid (HW1.out.below hA)
    replace Ow := Lib.hid (Ow.out.below hA (fun g hg => (Ow.out.lt g hg).2))
    replace Ox := Lib.hid (Ox.out.below hA (fun g hg => (Ox.out.lt g hg).2))
    replace Og := Lib.hid (Og.out.below hA (fun g hg => (Og.out.lt g hg).2))
    replace Oy := Lib.hid (Oy.out.below hA (fun g hg => (Oy.out.lt g hg).2))
    replace HB := Lib.hid (HB.out.trans (hA.mono HB.out.size))
    have LOh : Hid (∀ g, (.slice A6 Z.length C6 : Value).ownBlock = some g → v12.heap.size + 0 ≤ g ∧ g < v13.heap.size) := Lib.hid (fun g hg => by have := ho.lt g hg; first | omega | (simp at this; omega) | (simp at this ⊢; omega))
    have Oh := Lib.hid ho
    clear hb hA ho
    have z0v13 : v2.heap.size < v13.heap.size := by omega
    have z1v13 : v4.heap.size < v13.heap.size := by omega
    clear z0v12 z1v12
    go_wp2_with fail
    refine (eqMass_c _ _ _ _ _ _ Z _ (Oh.out.rowAt.alloc _) (Ow.out.rowAt.alloc _)).mono ?_
    rintro e v14 ⟨rfl, hb⟩
    have hA : Below v13.heap.size v13 v14 := Below.trans (by repeat (first | exact Below.refl _ _ | (refine Below.alloc ?_ (by first | (simp <;> omega) | omega) _) | (refine Below.setCell ?_ (by first | (simp <;> omega) | omega) _) | (refine Below.drew ?_) | (refine below_drewN ?_ _))) (hb.mono (by first | exact Nat.le_refl _ | (simp <;> omega) | omega))
    have hsv14 : v13.heap.size + 1 ≤ v14.heap.size := by have := hb.size; first | (simp at this; omega) | omega
    replace kw0 : v14.cell? ⟨v2.heap.size, 0, none⟩ = some (.int .i64 S) := (hA.cell (by show v2.heap.size < _; omega)).trans kw0
    replace kw1 : v14.cell? ⟨v2.heap.size, 1, none⟩ = some (.slice A1 Z.length C1) := (hA.cell (by show v2.heap.size < _; omega)).trans kw1
    replace kg0 : v14.cell? ⟨v4.heap.size, 0, none⟩ = some (.int .i64 S) := (hA.cell (by show v4.heap.size < _; omega)).trans kg0
    replace kg1 : v14.cell? ⟨v4.heap.size, 1, none⟩ = some (.slice A3 Z.length C3) := (hA.cell (by show v4.heap.size < _; omega)).trans kg1
    have kh0 : v14.cell? ⟨v13.heap.size, 0, none⟩ = some (.int .i64 S) := (hb.cell (by show v13.heap.size < _; first | (simp <;> omega) | omega)).trans (by go_simp)
    have kh1 : v14.cell? ⟨v13.heap.size, 1, none⟩ = some (.slice A6 Z.length C6) := (hb.cell (by show v13.heap.size < _; first | (simp <;> omega) | omega)).trans (by go_simp)
    replace HW1 := Lib.hid (HW1.out.below hA)
    replace Ow := Lib.hid (Ow.out.below hA (fun g hg => (Ow.out.lt g hg).2))
    replace Ox := Lib.hid (Ox.out.below hA (fun g hg => (Ox.out.lt g hg).2))
    replace Og := Lib.hid (Og.out.below hA (fun g hg => (Og.out.lt g hg).2))
    replace Oy := Lib.hid (Oy.out.below hA (fun g hg => (Oy.out.lt g hg).2))
    replace Oh := Lib.hid (Oh.out.below hA (fun g hg => (Oh.out.lt g hg).2))
    replace HB := Lib.hid (HB.out.trans (hA.mono HB.out.size))
    clear hb hA
    have z0v14 : v2.heap.size < v14.heap.size := by omega
    have z1v14 : v4.heap.size < v14.heap.size := by omega
    have z2v14 : v13.heap.size < v14.heap.size := by omega
    clear z0v13 z1v13
    go_wp2_with fail
    refine (heldMass_c _ _ _ _ 1 (by omega) (by omega) _ Og.out.rowAt).mono ?_
    rintro e v15 ⟨rfl, hb⟩
    have hA : Below v14.heap.size v14 v15 := Below.trans (by repeat (first | exact Below.refl _ _ | (refine Below.alloc ?_ (by first | (simp <;> omega) | omega) _) | (refine Below.setCell ?_ (by first | (simp <;> omega) | omega) _) | (refine Below.drew ?_) | (refine below_drewN ?_ _))) (hb.mono (by first | exact Nat.le_refl _ | (simp <;> omega) | omega))
    have hsv15 : v14.heap.size ≤ v15.heap.size := hA.size
    replace kw0 : v15.cell? ⟨v2.heap.size, 0, none⟩ = some (.int .i64 S) := (hA.cell (by show v2.heap.size < _; omega)).trans kw0
    replace kw1 : v15.cell? ⟨v2.heap.size, 1, none⟩ = some (.slice A1 Z.length C1) := (hA.cell (by show v2.heap.size < _; omega)).trans kw1
    replace kg0 : v15.cell? ⟨v4.heap.size, 0, none⟩ = some (.int .i64 S) := (hA.cell (by show v4.heap.size < _; omega)).trans kg0
    replace kg1 : v15.cell? ⟨v4.heap.size, 1, none⟩ = some (.slice A3 Z.length C3) := (hA.cell (by show v4.heap.size < _; omega)).trans kg1
    replace kh0 : v15.cell? ⟨v13.heap.size, 0, none⟩ = some (.int .i64 S) := (hA.cell (by show v13.heap.size < _; omega)).trans kh0
    replace kh1 : v15.cell? ⟨v13.heap.size, 1, none⟩ = some (.slice A6 Z.length C6) := (hA.cell (by show v13.heap.size < _; omega)).trans kh1
    replace HW1 := Lib.hid (HW1.out.below hA)
    replace Ow := Lib.hid (Ow.out.below hA (fun g hg => (Ow.out.lt g hg).2))
    replace Ox := Lib.hid (Ox.out.below hA (fun g hg => (Ox.out.lt g hg).2))
    replace Og := Lib.hid (Og.out.below hA (fun g hg => (Og.out.lt g hg).2))
    replace Oy := Lib.hid (Oy.out.below hA (fun g hg => (Oy.out.lt g hg).2))
    replace Oh := Lib.hid (Oh.out.below hA (fun g hg => (Oh.out.lt g hg).2))
    replace HB := Lib.hid (HB.out.trans (hA.mono HB.out.size))
    clear hb hA
    have z0v15 : v2.heap.size < v15.heap.size := by omega
    have z1v15 : v4.heap.size < v15.heap.size := by omega
    have z2v15 : v13.heap.size < v15.heap.size := by omega
    clear z0v14 z1v14 z2v14
    go_wp2_with fail
    go_ret
    exact ⟨rfl, HB.out⟩
  · have hn2 : 1048576 < (z1.length : Int) := by omega
    go_enter Try.func4, Try.ntmps4
    go_wp2_with fail
    go_ret
    exact ⟨rfl, Below.refl _ _⟩

set_option maxRecDepth 100000 in
theorem lifted (os : Os) (started : os.Started) (H : Type) (enc : TypeId × Value → H) :
    ReturnsInHanded {} Try.checked os 4 .any (Rows.fnExactMakeMassSpec.pre6 enc Try.prog Try.f4 Rows.fnExactMakeMassRow.domain false) (Rows.fnExactMakeMassSpec.post enc Try.prog Try.f4 false true false false) := by
  refine returnsInHanded_of_change (C := Try.checked) own started (by kernel_rfl) Try.func4
    (ChangeSpec.witness6 (enc := enc) (C := Try.checked) false ⟨#[], #[.int .i64 0, .slice none 0 0], []⟩ 8 (by kernel_rfl) (by kernel_rfl) (by kernel_rfl) (by kernel_rfl)) ?_
  intro W base args ds gs before hval0 hW hcnd _
  have hval : ∀ (j : Nat) t v, Try.f4.params[j]? = some t → args[j]? = some v → Value.okWide Try.prog W .any base t v := hval0
  have hW' := hW
  obtain ⟨p, q, hA0, hV, rfl, hfz, hnd⟩ := hW
  have hA : DataW.TrodAll enc Try.prog W 0 (fun _ => true) true Try.f4.params.toList args.toList ds p := hA0
  rw [Try.params4] at hA hval
  obtain ⟨v0, vs0, d0, ds0, p0, q0, hargs, rfl, rfl, h0, r0⟩ := trodAll_cons hA
  obtain ⟨v1, vs1, d1, ds1, p1, q1, rfl, rfl, rfl, h1, r1⟩ := trodAll_cons r0
  obtain ⟨rfl, rfl, rfl⟩ := trodAll_nil r1
  obtain rfl : args = #[v0, v1] := by cases args; simp_all
  obtain ⟨rfl, rfl⟩ := trodVars_none hV
  have k0 := h0
  have lt0 : ∀ x ∈ p0, x.block < W.heap.size := by obtain ⟨m, hm⟩ := k0; exact DataW.trod_lt m _ _ _ hm
  obtain ⟨a0, rfl, w0⟩ := get_int Try.underlying3 (hval 0 3 v0 rfl rfl) h0
  have k1 := h1
  have lt1 : ∀ x ∈ p1, x.block < W.heap.size := by obtain ⟨m, hm⟩ := k1; exact DataW.trod_lt m _ _ _ hm
  obtain ⟨a1, len1, cap1, z1, rfl, w1⟩ := get_row Try.underlying23 Try.underlying3 (by kernel_rfl) (hval 1 23 v1 rfl rfl) h1
  clear hA0 hval0
  refine (walk a0 a1 len1 cap1 z1 W w0 w1).mono fun e W' ⟨he, bel⟩ => ?_
  subst he
  exact ⟨_, rfl, _, _, _, [], _, [], hW', trodAll_mk1 (shut_bool Try.underlying4 _), (trodAll_cons_mk (Below.trod laidOut (by kernel_rfl) (of_decide_eq_true (by kernel_rfl)) k0 bel lt0) (trodAll_cons_mk (Below.trod laidOut (by kernel_rfl) (of_decide_eq_true (by kernel_rfl)) k1 bel lt1) trodAll_mk0)), rfl, bel.frame _, fun h => by cases h⟩

theorem closed : joinedFacts Try.prog 4 Try.f4 Rows.fnExactMakeMassSpec Rows.fnExactMakeMassRow = true := by
  rw [joinedFacts.eq_1]
  simp only [Bool.and_eq_true]
  repeat' apply And.intro
  all_goals first | (with_reducible exact fact_enter) | (with_reducible exact laidOut) | (with_reducible exact fact_maps) | (with_reducible exact fact_heard) | (rw [fact_lifts]; try (as_aux_lemma => kernel_rfl)) | (rw [fact_make]; try (as_aux_lemma => kernel_rfl)) | (rw [fact_keys]; try (as_aux_lemma => kernel_rfl)) | (as_aux_lemma => kernel_rfl)

theorem holds : Rows.FnExactMakeMassSaid :=
  OpenClaim.holds_of_wide 4 Try.f4 rfl rfl rfl rfl rfl rfl rfl ⟨rfl, rfl, rfl, rfl, rfl⟩ rfl rfl rfl rfl rfl (by kernel_rfl) Try.func4 closed
    (of_decide_eq_true (by kernel_rfl)) (by unfold Func.isWrapper; rw [if_neg (of_decide_eq_false (by kernel_rfl))]; exact ⟨rfl, rfl⟩)
    (fun os started H enc _ => lifted os started H enc)
#print axioms holds
end Go.Proofs.Ytclhogmfnkdcaaa.fnExactMakeMass
