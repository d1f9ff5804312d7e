/- FnSimpleMass: for every input that can be read, the law returns true and its arguments read afterwards as before. Conditions: none. -/
import Derived.Test.YtemollfejgmlcaaMem
import Derived.Test.YtemollfejgmlcaaSigns
import Derived.Test.YtemollfejgmlcaaPlainE
import Derived.Test.YtemollfejgmlcaaPlainK
import Derived.Test.YtemollfejgmlcaaWm
import Derived.Test.YtemollfejgmlcaaWa
import Derived.Test.YtemollfejgmlcaaMa
import Derived.Test.YtemollfejgmlcaaMb
import Derived.Test.YtemollfejgmlcaaMc
import Derived.Test.YtemollfejgmlcaaMd
import Derived.Test.YtemollfejgmlcaaMe
import Derived.Test.YtemollfejgmlcaaMf
import Derived.Test.YtemollfejgmlcaaMg
import Derived.Test.YtemollfejgmlcaaMh
import Derived.Test.YtemollfejgmlcaaMi
import Derived.Test.YtemollfejgmlcaaGl
import Derived.Test.YtemollfejgmlcaaGm
import Derived.Test.YtemollfejgmlcaaMj
import Derived.Test.YtemollfejgmlcaaMk
import Derived.Test.YtemollfejgmlcaaMl
import Derived.Test.YtemollfejgmlcaaMm
import Derived.Test.YtemollfejgmlcaaMu
namespace Go.Proofs.Ytemollfejgmlcaa.fnSimpleMass
open Go.ChangeShapes Go.WideShapes Go.ChangeAt Go.RowKit
open Go.ChangeMaps (open_string shut_string)
set_option linter.unusedVariables false

set_option maxRecDepth 100000 in
set_option maxHeartbeats 4000000 in
theorem walk (a0 : Option Addr) (len0 cap0 : Nat) (z0 : List Int) (w : World) (w0 : IsRow .u8 w a0 len0 cap0 z0) :
    Calls Try.prog 6 #[.slice a0 len0 cap0] w fun e w' => e = .returned (.bool true) ∧ Below w.heap.size w w' := by
  by_cases hn : len0 ≤ 1048576
  · have hn2 : (len0 : Int) ≤ 1048576 := by omega
    have HW := Lib.hid w0
    clear w0
    have HB := Lib.hid (Below.refl w.heap.size w)
    go_enter Try.func6, Try.ntmps6
    go_wp2_with fail
    refine (DrawSimpleMass_c _ _ _ _ _ HW.out).mono ?_
    rintro e v1 ⟨s, a, p, q, rfl, hb⟩
    have hA : Below w.heap.size w v1 := Below.trans (by repeat (first | exact Below.refl _ _ | (refine Below.alloc ?_ (by first | (simp <;> omega) | omega) _) | (refine Below.setCell ?_ (by first | (simp <;> omega) | omega) _) | (refine Below.drew ?_) | (refine below_drewN ?_ _))) (hb.mono (by first | exact Nat.le_refl _ | (simp <;> omega) | omega))
    have hsv1 : w.heap.size ≤ v1.heap.size := hA.size
    replace HB := Lib.hid (HB.out.trans (hA.mono HB.out.size))
    clear hb hA
    go_wp2_with fail
    rcases hB : simB s a p q with _ | _
    · obtain ⟨Z, hZ⟩ : ∃ Z, selL false (madeL (simZ s a p q)) = Z := ⟨_, rfl⟩
      have HS := Lib.hid (show ∀ w e w', MassOk w (simB s a p q) s (madeL (simZ s a p q)) e w' → ∃ A C, e = .returned (.tuple #[.agg #[.int .i64 0, .slice A Z.length C], .bool false]) ∧ Own w' w.heap.size (.slice A Z.length C) Z ∧ Below w.heap.size w w' from by intro w e w' h; unfold MassOk at h; rw [hB, hZ] at h; exact h)
      clear hZ hB
      refine ((impl_SimpleMass_c s a p q _).mono (HS.out _)).mono ?_
      rintro e v2 ⟨AOM, COM, rfl, ho, hb⟩
      have hA : Below v1.heap.size v1 v2 := Below.trans (by repeat (first | exact Below.refl _ _ | (refine Below.alloc ?_ (by first | (simp <;> omega) | omega) _) | (refine Below.setCell ?_ (by first | (simp <;> omega) | omega) _) | (refine Below.drew ?_) | (refine below_drewN ?_ _))) (hb.mono (by first | exact Nat.le_refl _ | (simp <;> omega) | omega))
      have hsv2 : v1.heap.size + 1 ≤ v2.heap.size := by have := hb.size; first | (simp at this; omega) | omega
      have f0 : v2.cell? ⟨v1.heap.size, 0, none⟩ = some (.int .i64 p) := (hb.cell (by show v1.heap.size < _; first | (simp <;> omega) | omega)).trans (by go_simp)
      have f1 : v2.cell? ⟨v1.heap.size, 1, none⟩ = some (.int .i64 q) := (hb.cell (by show v1.heap.size < _; first | (simp <;> omega) | omega)).trans (by go_simp)
      replace HB := Lib.hid (HB.out.trans (hA.mono HB.out.size))
      have LOM : Hid (∀ g, (.slice AOM Z.length COM : Value).ownBlock = some g → v1.heap.size + 1 ≤ g ∧ g < v2.heap.size) := Lib.hid (fun g hg => by have := ho.lt g hg; first | omega | (simp at this; omega) | (simp at this ⊢; omega))
      have OM := Lib.hid ho
      clear hb hA ho
      have z0v2 : v1.heap.size < v2.heap.size := by omega
      go_wp2_with fail
      refine ((spec_SimpleMass_c s a p q _).mono (HS.out _)).mono ?_
      rintro e v3 ⟨AOW, COW, rfl, ho, hb⟩
      have hA : Below v2.heap.size v2 v3 := Below.trans (by repeat (first | exact Below.refl _ _ | (refine Below.alloc ?_ (by first | (simp <;> omega) | omega) _) | (refine Below.setCell ?_ (by first | (simp <;> omega) | omega) _) | (refine Below.drew ?_) | (refine below_drewN ?_ _))) (hb.mono (by first | exact Nat.le_refl _ | (simp <;> omega) | omega))
      have hsv3 : v2.heap.size + 1 ≤ v3.heap.size := by have := hb.size; first | (simp at this; omega) | omega
      replace f0 : v3.cell? ⟨v1.heap.size, 0, none⟩ = some (.int .i64 p) := (hA.cell (by show v1.heap.size < _; omega)).trans f0
      replace f1 : v3.cell? ⟨v1.heap.size, 1, none⟩ = some (.int .i64 q) := (hA.cell (by show v1.heap.size < _; omega)).trans f1
      have k0 : v3.cell? ⟨v2.heap.size, 0, none⟩ = some (.int .i64 0) := (hb.cell (by show v2.heap.size < _; first | (simp <;> omega) | omega)).trans (by go_simp)
      have k1 : v3.cell? ⟨v2.heap.size, 1, none⟩ = some (.slice AOM Z.length COM) := (hb.cell (by show v2.heap.size < _; first | (simp <;> omega) | omega)).trans (by go_simp)
      replace OM := Lib.hid (OM.out.below hA (fun g hg => (OM.out.lt g hg).2))
      replace HB := Lib.hid (HB.out.trans (hA.mono HB.out.size))
      have LOW : Hid (∀ g, (.slice AOW Z.length COW : Value).ownBlock = some g → v2.heap.size + 1 ≤ g ∧ g < v3.heap.size) := Lib.hid (fun g hg => by have := ho.lt g hg; first | omega | (simp at this; omega) | (simp at this ⊢; omega))
      have OW := Lib.hid ho
      clear hb hA ho
      have z0v3 : v1.heap.size < v3.heap.size := by omega
      have z1v3 : v2.heap.size < v3.heap.size := by omega
      clear z0v2
      go_wp2_with fail
      refine (weEqual_c _ _ _ _ _ _ Z _ (OM.out.rowAt.alloc _) (OW.out.rowAt.alloc _)).mono ?_
      rintro e v4 ⟨rfl, hb⟩
      have hA : Below v3.heap.size v3 v4 := Below.trans (by repeat (first | exact Below.refl _ _ | (refine Below.alloc ?_ (by first | (simp <;> omega) | omega) _) | (refine Below.setCell ?_ (by first | (simp <;> omega) | omega) _) | (refine Below.drew ?_) | (refine below_drewN ?_ _))) (hb.mono (by first | exact Nat.le_refl _ | (simp <;> omega) | omega))
      have hsv4 : v3.heap.size + 1 ≤ v4.heap.size := by have := hb.size; first | (simp at this; omega) | omega
      replace f0 : v4.cell? ⟨v1.heap.size, 0, none⟩ = some (.int .i64 p) := (hA.cell (by show v1.heap.size < _; omega)).trans f0
      replace f1 : v4.cell? ⟨v1.heap.size, 1, none⟩ = some (.int .i64 q) := (hA.cell (by show v1.heap.size < _; omega)).trans f1
      replace k0 : v4.cell? ⟨v2.heap.size, 0, none⟩ = some (.int .i64 0) := (hA.cell (by show v2.heap.size < _; omega)).trans k0
      replace k1 : v4.cell? ⟨v2.heap.size, 1, none⟩ = some (.slice AOM Z.length COM) := (hA.cell (by show v2.heap.size < _; omega)).trans k1
      have l0 : v4.cell? ⟨v3.heap.size, 0, none⟩ = some (.int .i64 0) := (hb.cell (by show v3.heap.size < _; first | (simp <;> omega) | omega)).trans (by go_simp)
      have l1 : v4.cell? ⟨v3.heap.size, 1, none⟩ = some (.slice AOW Z.length COW) := (hb.cell (by show v3.heap.size < _; first | (simp <;> omega) | omega)).trans (by go_simp)
      replace OM := Lib.hid (OM.out.below hA (fun g hg => (OM.out.lt g hg).2))
      replace OW := Lib.hid (OW.out.below hA (fun g hg => (OW.out.lt g hg).2))
      replace HB := Lib.hid (HB.out.trans (hA.mono HB.out.size))
      clear hb hA
      have z0v4 : v1.heap.size < v4.heap.size := by omega
      have z1v4 : v2.heap.size < v4.heap.size := by omega
      have z2v4 : v3.heap.size < v4.heap.size := by omega
      clear z0v3 z1v3
      go_wp2_with fail
      refine (weEqual_c _ _ _ _ _ _ Z _ (OM.out.rowAt) (OW.out.rowAt)).mono ?_
      rintro e v5 ⟨rfl, hb⟩
      have hA : Below v4.heap.size v4 v5 := Below.trans (by repeat (first | exact Below.refl _ _ | (refine Below.alloc ?_ (by first | (simp <;> omega) | omega) _) | (refine Below.setCell ?_ (by first | (simp <;> omega) | omega) _) | (refine Below.drew ?_) | (refine below_drewN ?_ _))) (hb.mono (by first | exact Nat.le_refl _ | (simp <;> omega) | omega))
      have hsv5 : v4.heap.size ≤ v5.heap.size := hA.size
      replace f0 : v5.cell? ⟨v1.heap.size, 0, none⟩ = some (.int .i64 p) := (hA.cell (by show v1.heap.size < _; omega)).trans f0
      replace f1 : v5.cell? ⟨v1.heap.size, 1, none⟩ = some (.int .i64 q) := (hA.cell (by show v1.heap.size < _; omega)).trans f1
      replace k0 : v5.cell? ⟨v2.heap.size, 0, none⟩ = some (.int .i64 0) := (hA.cell (by show v2.heap.size < _; omega)).trans k0
      replace k1 : v5.cell? ⟨v2.heap.size, 1, none⟩ = some (.slice AOM Z.length COM) := (hA.cell (by show v2.heap.size < _; omega)).trans k1
      replace l0 : v5.cell? ⟨v3.heap.size, 0, none⟩ = some (.int .i64 0) := (hA.cell (by show v3.heap.size < _; omega)).trans l0
      replace l1 : v5.cell? ⟨v3.heap.size, 1, none⟩ = some (.slice AOW Z.length COW) := (hA.cell (by show v3.heap.size < _; omega)).trans l1
      replace OM := Lib.hid (OM.out.below hA (fun g hg => (OM.out.lt g hg).2))
      replace OW := Lib.hid (OW.out.below hA (fun g hg => (OW.out.lt g hg).2))
      replace HB := Lib.hid (HB.out.trans (hA.mono HB.out.size))
      clear hb hA
      have z0v5 : v1.heap.size < v5.heap.size := by omega
      have z1v5 : v2.heap.size < v5.heap.size := by omega
      have z2v5 : v3.heap.size < v5.heap.size := by omega
      clear z0v4 z1v4 z2v4
      go_wp2_with fail
      go_ret
      exact ⟨rfl, HB.out⟩
    · have hnest := sim_nested hB
      have hnorm := fun h => sim_normal hB (a := a) h
      have hv := (simB_of hB).1
      have hz : sizeB s = true := sizeB_yes (validB_of hv).1
      have hmix := sim_mix (p := p) (q := q) hv
      obtain ⟨Z, hZ⟩ : ∃ Z, madeL (simZ s a p q) = Z := ⟨_, rfl⟩
      obtain ⟨U, hU⟩ : ∃ U, sureL s a = U := ⟨_, rfl⟩
      obtain ⟨V, hV⟩ : ∃ V, sureL s (2 ^ s.toNat - 1) = V := ⟨_, rfl⟩
      rw [hU, hV] at hmix
      rw [hZ] at hnest hnorm
      have HS := Lib.hid (show ∀ w e w', MassOk w (simB s a p q) s (madeL (simZ s a p q)) e w' → ∃ A C, e = .returned (.tuple #[.agg #[.int .i64 s, .slice A Z.length C], .bool true]) ∧ Own w' w.heap.size (.slice A Z.length C) Z ∧ Below w.heap.size w w' from by intro w e w' h; unfold MassOk at h; rw [hB, hZ] at h; exact h)
      have HU := Lib.hid (show ∀ w e w', MassOk w (validB s a) s (sureL s a) e w' → ∃ A C, e = .returned (.tuple #[.agg #[.int .i64 s, .slice A U.length C], .bool true]) ∧ Own w' w.heap.size (.slice A U.length C) U ∧ Below w.heap.size w w' from by intro w e w' h; unfold MassOk at h; rw [hv, hU] at h; exact h)
      have HV := Lib.hid (show ∀ w e w', MassOk w (sizeB s) s (sureL s (2 ^ s.toNat - 1)) e w' → ∃ A C, e = .returned (.tuple #[.agg #[.int .i64 s, .slice A V.length C], .bool true]) ∧ Own w' w.heap.size (.slice A V.length C) V ∧ Below w.heap.size w w' from by intro w e w' h; unfold MassOk at h; rw [hz, hV] at h; exact h)
      have HN := Lib.hid hnest
      have HNO := Lib.hid hnorm
      clear hnest hnorm
      rcases hb0 : mixB s U s V p q with _ | _
      · obtain ⟨W, hW⟩ : ∃ W, selL false (madeL (mixL p q U V)) = W := ⟨_, rfl⟩
        have HX := Lib.hid (show ∀ w e w', MassOk w (mixB s U s V p q) s (madeL (mixL p q U V)) e w' → ∃ A C, e = .returned (.tuple #[.agg #[.int .i64 0, .slice A W.length C], .bool false]) ∧ Own w' w.heap.size (.slice A W.length C) W ∧ Below w.heap.size w w' from by intro w e w' h; unfold MassOk at h; rw [hb0, hW] at h; exact h)
        clear hW
        clear hZ hU hV hmix hB hv hz hb0
        refine ((impl_SimpleMass_c s a p q _).mono (HS.out _)).mono ?_
        rintro e v2 ⟨AOM, COM, rfl, ho, hb⟩
        have hA : Below v1.heap.size v1 v2 := Below.trans (by repeat (first | exact Below.refl _ _ | (refine Below.alloc ?_ (by first | (simp <;> omega) | omega) _) | (refine Below.setCell ?_ (by first | (simp <;> omega) | omega) _) | (refine Below.drew ?_) | (refine below_drewN ?_ _))) (hb.mono (by first | exact Nat.le_refl _ | (simp <;> omega) | omega))
        have hsv2 : v1.heap.size + 1 ≤ v2.heap.size := by have := hb.size; first | (simp at this; omega) | omega
        have f0 : v2.cell? ⟨v1.heap.size, 0, none⟩ = some (.int .i64 p) := (hb.cell (by show v1.heap.size < _; first | (simp <;> omega) | omega)).trans (by go_simp)
        have f1 : v2.cell? ⟨v1.heap.size, 1, none⟩ = some (.int .i64 q) := (hb.cell (by show v1.heap.size < _; first | (simp <;> omega) | omega)).trans (by go_simp)
        replace HB := Lib.hid (HB.out.trans (hA.mono HB.out.size))
        have LOM : Hid (∀ g, (.slice AOM Z.length COM : Value).ownBlock = some g → v1.heap.size + 1 ≤ g ∧ g < v2.heap.size) := Lib.hid (fun g hg => by have := ho.lt g hg; first | omega | (simp at this; omega) | (simp at this ⊢; omega))
        have OM := Lib.hid ho
        clear hb hA ho
        have z0v2 : v1.heap.size < v2.heap.size := by omega
        go_wp2_with fail
        refine ((spec_SimpleMass_c s a p q _).mono (HS.out _)).mono ?_
        rintro e v3 ⟨AOW, COW, rfl, ho, hb⟩
        have hA : Below v2.heap.size v2 v3 := Below.trans (by repeat (first | exact Below.refl _ _ | (refine Below.alloc ?_ (by first | (simp <;> omega) | omega) _) | (refine Below.setCell ?_ (by first | (simp <;> omega) | omega) _) | (refine Below.drew ?_) | (refine below_drewN ?_ _))) (hb.mono (by first | exact Nat.le_refl _ | (simp <;> omega) | omega))
        have hsv3 : v2.heap.size + 1 ≤ v3.heap.size := by have := hb.size; first | (simp at this; omega) | omega
        replace f0 : v3.cell? ⟨v1.heap.size, 0, none⟩ = some (.int .i64 p) := (hA.cell (by show v1.heap.size < _; omega)).trans f0
        replace f1 : v3.cell? ⟨v1.heap.size, 1, none⟩ = some (.int .i64 q) := (hA.cell (by show v1.heap.size < _; omega)).trans f1
        have k0 : v3.cell? ⟨v2.heap.size, 0, none⟩ = some (.int .i64 s) := (hb.cell (by show v2.heap.size < _; first | (simp <;> omega) | omega)).trans (by go_simp)
        have k1 : v3.cell? ⟨v2.heap.size, 1, none⟩ = some (.slice AOM Z.length COM) := (hb.cell (by show v2.heap.size < _; first | (simp <;> omega) | omega)).trans (by go_simp)
        replace OM := Lib.hid (OM.out.below hA (fun g hg => (OM.out.lt g hg).2))
        replace HB := Lib.hid (HB.out.trans (hA.mono HB.out.size))
        have LOW : Hid (∀ g, (.slice AOW Z.length COW : Value).ownBlock = some g → v2.heap.size + 1 ≤ g ∧ g < v3.heap.size) := Lib.hid (fun g hg => by have := ho.lt g hg; first | omega | (simp at this; omega) | (simp at this ⊢; omega))
        have OW := Lib.hid ho
        clear hb hA ho
        have z0v3 : v1.heap.size < v3.heap.size := by omega
        have z1v3 : v2.heap.size < v3.heap.size := by omega
        clear z0v2
        go_wp2_with fail
        refine (weEqual_c _ _ _ _ _ _ Z _ (OM.out.rowAt.alloc _) (OW.out.rowAt.alloc _)).mono ?_
        rintro e v4 ⟨rfl, hb⟩
        have hA : Below v3.heap.size v3 v4 := Below.trans (by repeat (first | exact Below.refl _ _ | (refine Below.alloc ?_ (by first | (simp <;> omega) | omega) _) | (refine Below.setCell ?_ (by first | (simp <;> omega) | omega) _) | (refine Below.drew ?_) | (refine below_drewN ?_ _))) (hb.mono (by first | exact Nat.le_refl _ | (simp <;> omega) | omega))
        have hsv4 : v3.heap.size + 1 ≤ v4.heap.size := by have := hb.size; first | (simp at this; omega) | omega
        replace f0 : v4.cell? ⟨v1.heap.size, 0, none⟩ = some (.int .i64 p) := (hA.cell (by show v1.heap.size < _; omega)).trans f0
        replace f1 : v4.cell? ⟨v1.heap.size, 1, none⟩ = some (.int .i64 q) := (hA.cell (by show v1.heap.size < _; omega)).trans f1
        replace k0 : v4.cell? ⟨v2.heap.size, 0, none⟩ = some (.int .i64 s) := (hA.cell (by show v2.heap.size < _; omega)).trans k0
        replace k1 : v4.cell? ⟨v2.heap.size, 1, none⟩ = some (.slice AOM Z.length COM) := (hA.cell (by show v2.heap.size < _; omega)).trans k1
        have l0 : v4.cell? ⟨v3.heap.size, 0, none⟩ = some (.int .i64 s) := (hb.cell (by show v3.heap.size < _; first | (simp <;> omega) | omega)).trans (by go_simp)
        have l1 : v4.cell? ⟨v3.heap.size, 1, none⟩ = some (.slice AOW Z.length COW) := (hb.cell (by show v3.heap.size < _; first | (simp <;> omega) | omega)).trans (by go_simp)
        replace OM := Lib.hid (OM.out.below hA (fun g hg => (OM.out.lt g hg).2))
        replace OW := Lib.hid (OW.out.below hA (fun g hg => (OW.out.lt g hg).2))
        replace HB := Lib.hid (HB.out.trans (hA.mono HB.out.size))
        clear hb hA
        have z0v4 : v1.heap.size < v4.heap.size := by omega
        have z1v4 : v2.heap.size < v4.heap.size := by omega
        have z2v4 : v3.heap.size < v4.heap.size := by omega
        clear z0v3 z1v3
        go_wp2_with fail
        clear OW l0 l1
        refine ((impl_SureMass_c s a _).mono (HU.out _)).mono ?_
        rintro e v5 ⟨AOU, COU, rfl, ho, hb⟩
        have hA : Below v4.heap.size v4 v5 := Below.trans (by repeat (first | exact Below.refl _ _ | (refine Below.alloc ?_ (by first | (simp <;> omega) | omega) _) | (refine Below.setCell ?_ (by first | (simp <;> omega) | omega) _) | (refine Below.drew ?_) | (refine below_drewN ?_ _))) (hb.mono (by first | exact Nat.le_refl _ | (simp <;> omega) | omega))
        have hsv5 : v4.heap.size ≤ v5.heap.size := hA.size
        replace f0 : v5.cell? ⟨v1.heap.size, 0, none⟩ = some (.int .i64 p) := (hA.cell (by show v1.heap.size < _; omega)).trans f0
        replace f1 : v5.cell? ⟨v1.heap.size, 1, none⟩ = some (.int .i64 q) := (hA.cell (by show v1.heap.size < _; omega)).trans f1
        replace k0 : v5.cell? ⟨v2.heap.size, 0, none⟩ = some (.int .i64 s) := (hA.cell (by show v2.heap.size < _; omega)).trans k0
        replace k1 : v5.cell? ⟨v2.heap.size, 1, none⟩ = some (.slice AOM Z.length COM) := (hA.cell (by show v2.heap.size < _; omega)).trans k1
        replace OM := Lib.hid (OM.out.below hA (fun g hg => (OM.out.lt g hg).2))
        replace HB := Lib.hid (HB.out.trans (hA.mono HB.out.size))
        have LOU : Hid (∀ g, (.slice AOU U.length COU : Value).ownBlock = some g → v4.heap.size + 0 ≤ g ∧ g < v5.heap.size) := Lib.hid (fun g hg => by have := ho.lt g hg; first | omega | (simp at this; omega) | (simp at this ⊢; omega))
        have OU := Lib.hid ho
        clear hb hA ho
        have z0v5 : v1.heap.size < v5.heap.size := by omega
        have z1v5 : v2.heap.size < v5.heap.size := by omega
        clear z0v4 z1v4 z2v4
        go_wp2_with fail
        refine ((impl_NoEvidence_c s _).mono (HV.out _)).mono ?_
        rintro e v6 ⟨AOV, COV, rfl, ho, hb⟩
        have hA : Below v5.heap.size v5 v6 := Below.trans (by repeat (first | exact Below.refl _ _ | (refine Below.alloc ?_ (by first | (simp <;> omega) | omega) _) | (refine Below.setCell ?_ (by first | (simp <;> omega) | omega) _) | (refine Below.drew ?_) | (refine below_drewN ?_ _))) (hb.mono (by first | exact Nat.le_refl _ | (simp <;> omega) | omega))
        have hsv6 : v5.heap.size + 1 ≤ v6.heap.size := by have := hb.size; first | (simp at this; omega) | omega
        replace f0 : v6.cell? ⟨v1.heap.size, 0, none⟩ = some (.int .i64 p) := (hA.cell (by show v1.heap.size < _; omega)).trans f0
        replace f1 : v6.cell? ⟨v1.heap.size, 1, none⟩ = some (.int .i64 q) := (hA.cell (by show v1.heap.size < _; omega)).trans f1
        replace k0 : v6.cell? ⟨v2.heap.size, 0, none⟩ = some (.int .i64 s) := (hA.cell (by show v2.heap.size < _; omega)).trans k0
        replace k1 : v6.cell? ⟨v2.heap.size, 1, none⟩ = some (.slice AOM Z.length COM) := (hA.cell (by show v2.heap.size < _; omega)).trans k1
        have u0 : v6.cell? ⟨v5.heap.size, 0, none⟩ = some (.int .i64 s) := (hb.cell (by show v5.heap.size < _; first | (simp <;> omega) | omega)).trans (by go_simp)
        have u1 : v6.cell? ⟨v5.heap.size, 1, none⟩ = some (.slice AOU U.length COU) := (hb.cell (by show v5.heap.size < _; first | (simp <;> omega) | omega)).trans (by go_simp)
        replace OM := Lib.hid (OM.out.below hA (fun g hg => (OM.out.lt g hg).2))
        replace OU := Lib.hid (OU.out.below hA (fun g hg => (OU.out.lt g hg).2))
        replace HB := Lib.hid (HB.out.trans (hA.mono HB.out.size))
        have LOV : Hid (∀ g, (.slice AOV V.length COV : Value).ownBlock = some g → v5.heap.size + 1 ≤ g ∧ g < v6.heap.size) := Lib.hid (fun g hg => by have := ho.lt g hg; first | omega | (simp at this; omega) | (simp at this ⊢; omega))
        have OV := Lib.hid ho
        clear hb hA ho
        have z0v6 : v1.heap.size < v6.heap.size := by omega
        have z1v6 : v2.heap.size < v6.heap.size := by omega
        have z2v6 : v5.heap.size < v6.heap.size := by omega
        clear z0v5 z1v5
        go_wp2_with fail
        refine ((spec_SureMass_c s a _).mono (HU.out _)).mono ?_
        rintro e v7 ⟨AOA, COA, rfl, ho, hb⟩
        have hA : Below v6.heap.size v6 v7 := Below.trans (by repeat (first | exact Below.refl _ _ | (refine Below.alloc ?_ (by first | (simp <;> omega) | omega) _) | (refine Below.setCell ?_ (by first | (simp <;> omega) | omega) _) | (refine Below.drew ?_) | (refine below_drewN ?_ _))) (hb.mono (by first | exact Nat.le_refl _ | (simp <;> omega) | omega))
        have hsv7 : v6.heap.size + 1 ≤ v7.heap.size := by have := hb.size; first | (simp at this; omega) | omega
        replace f0 : v7.cell? ⟨v1.heap.size, 0, none⟩ = some (.int .i64 p) := (hA.cell (by show v1.heap.size < _; omega)).trans f0
        replace f1 : v7.cell? ⟨v1.heap.size, 1, none⟩ = some (.int .i64 q) := (hA.cell (by show v1.heap.size < _; omega)).trans f1
        replace k0 : v7.cell? ⟨v2.heap.size, 0, none⟩ = some (.int .i64 s) := (hA.cell (by show v2.heap.size < _; omega)).trans k0
        replace k1 : v7.cell? ⟨v2.heap.size, 1, none⟩ = some (.slice AOM Z.length COM) := (hA.cell (by show v2.heap.size < _; omega)).trans k1
        replace u0 : v7.cell? ⟨v5.heap.size, 0, none⟩ = some (.int .i64 s) := (hA.cell (by show v5.heap.size < _; omega)).trans u0
        replace u1 : v7.cell? ⟨v5.heap.size, 1, none⟩ = some (.slice AOU U.length COU) := (hA.cell (by show v5.heap.size < _; omega)).trans u1
        have w0 : v7.cell? ⟨v6.heap.size, 0, none⟩ = some (.int .i64 s) := (hb.cell (by show v6.heap.size < _; first | (simp <;> omega) | omega)).trans (by go_simp)
        have w1 : v7.cell? ⟨v6.heap.size, 1, none⟩ = some (.slice AOV V.length COV) := (hb.cell (by show v6.heap.size < _; first | (simp <;> omega) | omega)).trans (by go_simp)
        replace OM := Lib.hid (OM.out.below hA (fun g hg => (OM.out.lt g hg).2))
        replace OU := Lib.hid (OU.out.below hA (fun g hg => (OU.out.lt g hg).2))
        replace OV := Lib.hid (OV.out.below hA (fun g hg => (OV.out.lt g hg).2))
        replace HB := Lib.hid (HB.out.trans (hA.mono HB.out.size))
        have LOA : Hid (∀ g, (.slice AOA U.length COA : Value).ownBlock = some g → v6.heap.size + 1 ≤ g ∧ g < v7.heap.size) := Lib.hid (fun g hg => by have := ho.lt g hg; first | omega | (simp at this; omega) | (simp at this ⊢; omega))
        have OA := Lib.hid ho
        clear hb hA ho
        have z0v7 : v1.heap.size < v7.heap.size := by omega
        have z1v7 : v2.heap.size < v7.heap.size := by omega
        have z2v7 : v5.heap.size < v7.heap.size := by omega
        have z3v7 : v6.heap.size < v7.heap.size := by omega
        clear z0v6 z1v6 z2v6
        go_wp2_with fail
        refine ((spec_NoEvidence_c s _).mono (HV.out _)).mono ?_
        rintro e v8 ⟨AOB, COB, rfl, ho, hb⟩
        have hA : Below v7.heap.size v7 v8 := Below.trans (by repeat (first | exact Below.refl _ _ | (refine Below.alloc ?_ (by first | (simp <;> omega) | omega) _) | (refine Below.setCell ?_ (by first | (simp <;> omega) | omega) _) | (refine Below.drew ?_) | (refine below_drewN ?_ _))) (hb.mono (by first | exact Nat.le_refl _ | (simp <;> omega) | omega))
        have hsv8 : v7.heap.size + 1 ≤ v8.heap.size := by have := hb.size; first | (simp at this; omega) | omega
        replace f0 : v8.cell? ⟨v1.heap.size, 0, none⟩ = some (.int .i64 p) := (hA.cell (by show v1.heap.size < _; omega)).trans f0
        replace f1 : v8.cell? ⟨v1.heap.size, 1, none⟩ = some (.int .i64 q) := (hA.cell (by show v1.heap.size < _; omega)).trans f1
        replace k0 : v8.cell? ⟨v2.heap.size, 0, none⟩ = some (.int .i64 s) := (hA.cell (by show v2.heap.size < _; omega)).trans k0
        replace k1 : v8.cell? ⟨v2.heap.size, 1, none⟩ = some (.slice AOM Z.length COM) := (hA.cell (by show v2.heap.size < _; omega)).trans k1
        replace u0 : v8.cell? ⟨v5.heap.size, 0, none⟩ = some (.int .i64 s) := (hA.cell (by show v5.heap.size < _; omega)).trans u0
        replace u1 : v8.cell? ⟨v5.heap.size, 1, none⟩ = some (.slice AOU U.length COU) := (hA.cell (by show v5.heap.size < _; omega)).trans u1
        replace w0 : v8.cell? ⟨v6.heap.size, 0, none⟩ = some (.int .i64 s) := (hA.cell (by show v6.heap.size < _; omega)).trans w0
        replace w1 : v8.cell? ⟨v6.heap.size, 1, none⟩ = some (.slice AOV V.length COV) := (hA.cell (by show v6.heap.size < _; omega)).trans w1
        have x0 : v8.cell? ⟨v7.heap.size, 0, none⟩ = some (.int .i64 s) := (hb.cell (by show v7.heap.size < _; first | (simp <;> omega) | omega)).trans (by go_simp)
        have x1 : v8.cell? ⟨v7.heap.size, 1, none⟩ = some (.slice AOA U.length COA) := (hb.cell (by show v7.heap.size < _; first | (simp <;> omega) | omega)).trans (by go_simp)
        replace OM := Lib.hid (OM.out.below hA (fun g hg => (OM.out.lt g hg).2))
        replace OU := Lib.hid (OU.out.below hA (fun g hg => (OU.out.lt g hg).2))
        replace OV := Lib.hid (OV.out.below hA (fun g hg => (OV.out.lt g hg).2))
        replace OA := Lib.hid (OA.out.below hA (fun g hg => (OA.out.lt g hg).2))
        replace HB := Lib.hid (HB.out.trans (hA.mono HB.out.size))
        have LOB : Hid (∀ g, (.slice AOB V.length COB : Value).ownBlock = some g → v7.heap.size + 1 ≤ g ∧ g < v8.heap.size) := Lib.hid (fun g hg => by have := ho.lt g hg; first | omega | (simp at this; omega) | (simp at this ⊢; omega))
        have OB := Lib.hid ho
        clear hb hA ho
        have z0v8 : v1.heap.size < v8.heap.size := by omega
        have z1v8 : v2.heap.size < v8.heap.size := by omega
        have z2v8 : v5.heap.size < v8.heap.size := by omega
        have z3v8 : v6.heap.size < v8.heap.size := by omega
        have z4v8 : v7.heap.size < v8.heap.size := by omega
        clear z0v7 z1v7 z2v7 z3v7
        go_wp2_with fail
        refine ((impl_MixMasses_c _ _ _ _ U _ _ _ _ V _ _ _ (OU.out.rowAt.alloc _) (OV.out.rowAt.alloc _)).mono (HX.out _)).mono ?_
        rintro e v9 ⟨AOX, COX, rfl, ho, hb⟩
        have hA : Below v8.heap.size v8 v9 := Below.trans (by repeat (first | exact Below.refl _ _ | (refine Below.alloc ?_ (by first | (simp <;> omega) | omega) _) | (refine Below.setCell ?_ (by first | (simp <;> omega) | omega) _) | (refine Below.drew ?_) | (refine below_drewN ?_ _))) (hb.mono (by first | exact Nat.le_refl _ | (simp <;> omega) | omega))
        have hsv9 : v8.heap.size + 1 ≤ v9.heap.size := by have := hb.size; first | (simp at this; omega) | omega
        replace f0 : v9.cell? ⟨v1.heap.size, 0, none⟩ = some (.int .i64 p) := (hA.cell (by show v1.heap.size < _; omega)).trans f0
        replace f1 : v9.cell? ⟨v1.heap.size, 1, none⟩ = some (.int .i64 q) := (hA.cell (by show v1.heap.size < _; omega)).trans f1
        replace k0 : v9.cell? ⟨v2.heap.size, 0, none⟩ = some (.int .i64 s) := (hA.cell (by show v2.heap.size < _; omega)).trans k0
        replace k1 : v9.cell? ⟨v2.heap.size, 1, none⟩ = some (.slice AOM Z.length COM) := (hA.cell (by show v2.heap.size < _; omega)).trans k1
        replace u0 : v9.cell? ⟨v5.heap.size, 0, none⟩ = some (.int .i64 s) := (hA.cell (by show v5.heap.size < _; omega)).trans u0
        replace u1 : v9.cell? ⟨v5.heap.size, 1, none⟩ = some (.slice AOU U.length COU) := (hA.cell (by show v5.heap.size < _; omega)).trans u1
        replace w0 : v9.cell? ⟨v6.heap.size, 0, none⟩ = some (.int .i64 s) := (hA.cell (by show v6.heap.size < _; omega)).trans w0
        replace w1 : v9.cell? ⟨v6.heap.size, 1, none⟩ = some (.slice AOV V.length COV) := (hA.cell (by show v6.heap.size < _; omega)).trans w1
        replace x0 : v9.cell? ⟨v7.heap.size, 0, none⟩ = some (.int .i64 s) := (hA.cell (by show v7.heap.size < _; omega)).trans x0
        replace x1 : v9.cell? ⟨v7.heap.size, 1, none⟩ = some (.slice AOA U.length COA) := (hA.cell (by show v7.heap.size < _; omega)).trans x1
        have y0 : v9.cell? ⟨v8.heap.size, 0, none⟩ = some (.int .i64 s) := (hb.cell (by show v8.heap.size < _; first | (simp <;> omega) | omega)).trans (by go_simp)
        have y1 : v9.cell? ⟨v8.heap.size, 1, none⟩ = some (.slice AOB V.length COB) := (hb.cell (by show v8.heap.size < _; first | (simp <;> omega) | omega)).trans (by go_simp)
        replace OM := Lib.hid (OM.out.below hA (fun g hg => (OM.out.lt g hg).2))
        replace OU := Lib.hid (OU.out.below hA (fun g hg => (OU.out.lt g hg).2))
        replace OV := Lib.hid (OV.out.below hA (fun g hg => (OV.out.lt g hg).2))
        replace OA := Lib.hid (OA.out.below hA (fun g hg => (OA.out.lt g hg).2))
        replace OB := Lib.hid (OB.out.below hA (fun g hg => (OB.out.lt g hg).2))
        replace HB := Lib.hid (HB.out.trans (hA.mono HB.out.size))
        have LOX : Hid (∀ g, (.slice AOX W.length COX : Value).ownBlock = some g → v8.heap.size + 1 ≤ g ∧ g < v9.heap.size) := Lib.hid (fun g hg => by have := ho.lt g hg; first | omega | (simp at this; omega) | (simp at this ⊢; omega))
        have OX := Lib.hid ho
        clear hb hA ho
        have z0v9 : v1.heap.size < v9.heap.size := by omega
        have z1v9 : v2.heap.size < v9.heap.size := by omega
        have z2v9 : v5.heap.size < v9.heap.size := by omega
        have z3v9 : v6.heap.size < v9.heap.size := by omega
        have z4v9 : v7.heap.size < v9.heap.size := by omega
        have z5v9 : v8.heap.size < v9.heap.size := by omega
        clear z0v8 z1v8 z2v8 z3v8 z4v8
        go_wp2_with fail
        refine (weEqual_c _ _ _ _ _ _ U _ (OU.out.rowAt.alloc _) (OA.out.rowAt.alloc _)).mono ?_
        rintro e v10 ⟨rfl, hb⟩
        have hA : Below v9.heap.size v9 v10 := Below.trans (by repeat (first | exact Below.refl _ _ | (refine Below.alloc ?_ (by first | (simp <;> omega) | omega) _) | (refine Below.setCell ?_ (by first | (simp <;> omega) | omega) _) | (refine Below.drew ?_) | (refine below_drewN ?_ _))) (hb.mono (by first | exact Nat.le_refl _ | (simp <;> omega) | omega))
        have hsv10 : v9.heap.size + 1 ≤ v10.heap.size := by have := hb.size; first | (simp at this; omega) | omega
        replace f0 : v10.cell? ⟨v1.heap.size, 0, none⟩ = some (.int .i64 p) := (hA.cell (by show v1.heap.size < _; omega)).trans f0
        replace f1 : v10.cell? ⟨v1.heap.size, 1, none⟩ = some (.int .i64 q) := (hA.cell (by show v1.heap.size < _; omega)).trans f1
        replace k0 : v10.cell? ⟨v2.heap.size, 0, none⟩ = some (.int .i64 s) := (hA.cell (by show v2.heap.size < _; omega)).trans k0
        replace k1 : v10.cell? ⟨v2.heap.size, 1, none⟩ = some (.slice AOM Z.length COM) := (hA.cell (by show v2.heap.size < _; omega)).trans k1
        replace u0 : v10.cell? ⟨v5.heap.size, 0, none⟩ = some (.int .i64 s) := (hA.cell (by show v5.heap.size < _; omega)).trans u0
        replace u1 : v10.cell? ⟨v5.heap.size, 1, none⟩ = some (.slice AOU U.length COU) := (hA.cell (by show v5.heap.size < _; omega)).trans u1
        replace w0 : v10.cell? ⟨v6.heap.size, 0, none⟩ = some (.int .i64 s) := (hA.cell (by show v6.heap.size < _; omega)).trans w0
        replace w1 : v10.cell? ⟨v6.heap.size, 1, none⟩ = some (.slice AOV V.length COV) := (hA.cell (by show v6.heap.size < _; omega)).trans w1
        replace x0 : v10.cell? ⟨v7.heap.size, 0, none⟩ = some (.int .i64 s) := (hA.cell (by show v7.heap.size < _; omega)).trans x0
        replace x1 : v10.cell? ⟨v7.heap.size, 1, none⟩ = some (.slice AOA U.length COA) := (hA.cell (by show v7.heap.size < _; omega)).trans x1
        replace y0 : v10.cell? ⟨v8.heap.size, 0, none⟩ = some (.int .i64 s) := (hA.cell (by show v8.heap.size < _; omega)).trans y0
        replace y1 : v10.cell? ⟨v8.heap.size, 1, none⟩ = some (.slice AOB V.length COB) := (hA.cell (by show v8.heap.size < _; omega)).trans y1
        have m0 : v10.cell? ⟨v9.heap.size, 0, none⟩ = some (.int .i64 0) := (hb.cell (by show v9.heap.size < _; first | (simp <;> omega) | omega)).trans (by go_simp)
        have m1 : v10.cell? ⟨v9.heap.size, 1, none⟩ = some (.slice AOX W.length COX) := (hb.cell (by show v9.heap.size < _; first | (simp <;> omega) | omega)).trans (by go_simp)
        replace OM := Lib.hid (OM.out.below hA (fun g hg => (OM.out.lt g hg).2))
        replace OU := Lib.hid (OU.out.below hA (fun g hg => (OU.out.lt g hg).2))
        replace OV := Lib.hid (OV.out.below hA (fun g hg => (OV.out.lt g hg).2))
        replace OA := Lib.hid (OA.out.below hA (fun g hg => (OA.out.lt g hg).2))
        replace OB := Lib.hid (OB.out.below hA (fun g hg => (OB.out.lt g hg).2))
        replace OX := Lib.hid (OX.out.below hA (fun g hg => (OX.out.lt g hg).2))
        replace HB := Lib.hid (HB.out.trans (hA.mono HB.out.size))
        clear hb hA
        have z0v10 : v1.heap.size < v10.heap.size := by omega
        have z1v10 : v2.heap.size < v10.heap.size := by omega
        have z2v10 : v5.heap.size < v10.heap.size := by omega
        have z3v10 : v6.heap.size < v10.heap.size := by omega
        have z4v10 : v7.heap.size < v10.heap.size := by omega
        have z5v10 : v8.heap.size < v10.heap.size := by omega
        have z6v10 : v9.heap.size < v10.heap.size := by omega
        clear z0v9 z1v9 z2v9 z3v9 z4v9 z5v9
        go_wp2_with fail
        refine (weEqual_c _ _ _ _ _ _ V _ (OV.out.rowAt) (OB.out.rowAt)).mono ?_
        rintro e v11 ⟨rfl, hb⟩
        have hA : Below v10.heap.size v10 v11 := Below.trans (by repeat (first | exact Below.refl _ _ | (refine Below.alloc ?_ (by first | (simp <;> omega) | omega) _) | (refine Below.setCell ?_ (by first | (simp <;> omega) | omega) _) | (refine Below.drew ?_) | (refine below_drewN ?_ _))) (hb.mono (by first | exact Nat.le_refl _ | (simp <;> omega) | omega))
        have hsv11 : v10.heap.size ≤ v11.heap.size := hA.size
        replace f0 : v11.cell? ⟨v1.heap.size, 0, none⟩ = some (.int .i64 p) := (hA.cell (by show v1.heap.size < _; omega)).trans f0
        replace f1 : v11.cell? ⟨v1.heap.size, 1, none⟩ = some (.int .i64 q) := (hA.cell (by show v1.heap.size < _; omega)).trans f1
        replace k0 : v11.cell? ⟨v2.heap.size, 0, none⟩ = some (.int .i64 s) := (hA.cell (by show v2.heap.size < _; omega)).trans k0
        replace k1 : v11.cell? ⟨v2.heap.size, 1, none⟩ = some (.slice AOM Z.length COM) := (hA.cell (by show v2.heap.size < _; omega)).trans k1
        replace u0 : v11.cell? ⟨v5.heap.size, 0, none⟩ = some (.int .i64 s) := (hA.cell (by show v5.heap.size < _; omega)).trans u0
        replace u1 : v11.cell? ⟨v5.heap.size, 1, none⟩ = some (.slice AOU U.length COU) := (hA.cell (by show v5.heap.size < _; omega)).trans u1
        replace w0 : v11.cell? ⟨v6.heap.size, 0, none⟩ = some (.int .i64 s) := (hA.cell (by show v6.heap.size < _; omega)).trans w0
        replace w1 : v11.cell? ⟨v6.heap.size, 1, none⟩ = some (.slice AOV V.length COV) := (hA.cell (by show v6.heap.size < _; omega)).trans w1
        replace x0 : v11.cell? ⟨v7.heap.size, 0, none⟩ = some (.int .i64 s) := (hA.cell (by show v7.heap.size < _; omega)).trans x0
        replace x1 : v11.cell? ⟨v7.heap.size, 1, none⟩ = some (.slice AOA U.length COA) := (hA.cell (by show v7.heap.size < _; omega)).trans x1
        replace y0 : v11.cell? ⟨v8.heap.size, 0, none⟩ = some (.int .i64 s) := (hA.cell (by show v8.heap.size < _; omega)).trans y0
        replace y1 : v11.cell? ⟨v8.heap.size, 1, none⟩ = some (.slice AOB V.length COB) := (hA.cell (by show v8.heap.size < _; omega)).trans y1
        replace m0 : v11.cell? ⟨v9.heap.size, 0, none⟩ = some (.int .i64 0) := (hA.cell (by show v9.heap.size < _; omega)).trans m0
        replace m1 : v11.cell? ⟨v9.heap.size, 1, none⟩ = some (.slice AOX W.length COX) := (hA.cell (by show v9.heap.size < _; omega)).trans m1
        replace OM := Lib.hid (OM.out.below hA (fun g hg => (OM.out.lt g hg).2))
        replace OU := Lib.hid (OU.out.below hA (fun g hg => (OU.out.lt g hg).2))
        replace OV := Lib.hid (OV.out.below hA (fun g hg => (OV.out.lt g hg).2))
        replace OA := Lib.hid (OA.out.below hA (fun g hg => (OA.out.lt g hg).2))
        replace OB := Lib.hid (OB.out.below hA (fun g hg => (OB.out.lt g hg).2))
        replace OX := Lib.hid (OX.out.below hA (fun g hg => (OX.out.lt g hg).2))
        replace HB := Lib.hid (HB.out.trans (hA.mono HB.out.size))
        clear hb hA
        have z0v11 : v1.heap.size < v11.heap.size := by omega
        have z1v11 : v2.heap.size < v11.heap.size := by omega
        have z2v11 : v5.heap.size < v11.heap.size := by omega
        have z3v11 : v6.heap.size < v11.heap.size := by omega
        have z4v11 : v7.heap.size < v11.heap.size := by omega
        have z5v11 : v8.heap.size < v11.heap.size := by omega
        have z6v11 : v9.heap.size < v11.heap.size := by omega
        clear z0v10 z1v10 z2v10 z3v10 z4v10 z5v10 z6v10
        go_wp2_with fail
        refine (impl_IsNested_c _ _ _ _ Z _ (OM.out.rowAt)).mono ?_
        rintro e v12 ⟨rfl, hb⟩
        have hA : Below v11.heap.size v11 v12 := Below.trans (by repeat (first | exact Below.refl _ _ | (refine Below.alloc ?_ (by first | (simp <;> omega) | omega) _) | (refine Below.setCell ?_ (by first | (simp <;> omega) | omega) _) | (refine Below.drew ?_) | (refine below_drewN ?_ _))) (hb.mono (by first | exact Nat.le_refl _ | (simp <;> omega) | omega))
        have hsv12 : v11.heap.size ≤ v12.heap.size := hA.size
        replace f0 : v12.cell? ⟨v1.heap.size, 0, none⟩ = some (.int .i64 p) := (hA.cell (by show v1.heap.size < _; omega)).trans f0
        replace f1 : v12.cell? ⟨v1.heap.size, 1, none⟩ = some (.int .i64 q) := (hA.cell (by show v1.heap.size < _; omega)).trans f1
        replace k0 : v12.cell? ⟨v2.heap.size, 0, none⟩ = some (.int .i64 s) := (hA.cell (by show v2.heap.size < _; omega)).trans k0
        replace k1 : v12.cell? ⟨v2.heap.size, 1, none⟩ = some (.slice AOM Z.length COM) := (hA.cell (by show v2.heap.size < _; omega)).trans k1
        replace u0 : v12.cell? ⟨v5.heap.size, 0, none⟩ = some (.int .i64 s) := (hA.cell (by show v5.heap.size < _; omega)).trans u0
        replace u1 : v12.cell? ⟨v5.heap.size, 1, none⟩ = some (.slice AOU U.length COU) := (hA.cell (by show v5.heap.size < _; omega)).trans u1
        replace w0 : v12.cell? ⟨v6.heap.size, 0, none⟩ = some (.int .i64 s) := (hA.cell (by show v6.heap.size < _; omega)).trans w0
        replace w1 : v12.cell? ⟨v6.heap.size, 1, none⟩ = some (.slice AOV V.length COV) := (hA.cell (by show v6.heap.size < _; omega)).trans w1
        replace x0 : v12.cell? ⟨v7.heap.size, 0, none⟩ = some (.int .i64 s) := (hA.cell (by show v7.heap.size < _; omega)).trans x0
        replace x1 : v12.cell? ⟨v7.heap.size, 1, none⟩ = some (.slice AOA U.length COA) := (hA.cell (by show v7.heap.size < _; omega)).trans x1
        replace y0 : v12.cell? ⟨v8.heap.size, 0, none⟩ = some (.int .i64 s) := (hA.cell (by show v8.heap.size < _; omega)).trans y0
        replace y1 : v12.cell? ⟨v8.heap.size, 1, none⟩ = some (.slice AOB V.length COB) := (hA.cell (by show v8.heap.size < _; omega)).trans y1
        replace m0 : v12.cell? ⟨v9.heap.size, 0, none⟩ = some (.int .i64 0) := (hA.cell (by show v9.heap.size < _; omega)).trans m0
        replace m1 : v12.cell? ⟨v9.heap.size, 1, none⟩ = some (.slice AOX W.length COX) := (hA.cell (by show v9.heap.size < _; omega)).trans m1
        replace OM := Lib.hid (OM.out.below hA (fun g hg => (OM.out.lt g hg).2))
        replace OU := Lib.hid (OU.out.below hA (fun g hg => (OU.out.lt g hg).2))
        replace OV := Lib.hid (OV.out.below hA (fun g hg => (OV.out.lt g hg).2))
        replace OA := Lib.hid (OA.out.below hA (fun g hg => (OA.out.lt g hg).2))
        replace OB := Lib.hid (OB.out.below hA (fun g hg => (OB.out.lt g hg).2))
        replace OX := Lib.hid (OX.out.below hA (fun g hg => (OX.out.lt g hg).2))
        replace HB := Lib.hid (HB.out.trans (hA.mono HB.out.size))
        clear hb hA
        have z0v12 : v1.heap.size < v12.heap.size := by omega
        have z1v12 : v2.heap.size < v12.heap.size := by omega
        have z2v12 : v5.heap.size < v12.heap.size := by omega
        have z3v12 : v6.heap.size < v12.heap.size := by omega
        have z4v12 : v7.heap.size < v12.heap.size := by omega
        have z5v12 : v8.heap.size < v12.heap.size := by omega
        have z6v12 : v9.heap.size < v12.heap.size := by omega
        clear z0v11 z1v11 z2v11 z3v11 z4v11 z5v11 z6v11
        rw [HN.out]
        by_cases h0 : a = 0
        · have h0b : (a == 0) = true := by simpa using h0
          clear h0
          go_wp2_with fail
          go_ret
          exact ⟨rfl, HB.out⟩
        · have h0b : (a == 0) = false := by simpa using h0
          have HN2 := Lib.hid (HNO.out h0)
          clear h0
          go_wp2_with fail
          refine (impl_IsNormal_c _ _ _ _ Z _ (OM.out.rowAt)).mono ?_
          rintro e v13 ⟨rfl, hb⟩
          have hA : Below v12.heap.size v12 v13 := Below.trans (by repeat (first | exact Below.refl _ _ | (refine Below.alloc ?_ (by first | (simp <;> omega) | omega) _) | (refine Below.setCell ?_ (by first | (simp <;> omega) | omega) _) | (refine Below.drew ?_) | (refine below_drewN ?_ _))) (hb.mono (by first | exact Nat.le_refl _ | (simp <;> omega) | omega))
          have hsv13 : v12.heap.size ≤ v13.heap.size := hA.size
          replace f0 : v13.cell? ⟨v1.heap.size, 0, none⟩ = some (.int .i64 p) := (hA.cell (by show v1.heap.size < _; omega)).trans f0
          replace f1 : v13.cell? ⟨v1.heap.size, 1, none⟩ = some (.int .i64 q) := (hA.cell (by show v1.heap.size < _; omega)).trans f1
          replace k0 : v13.cell? ⟨v2.heap.size, 0, none⟩ = some (.int .i64 s) := (hA.cell (by show v2.heap.size < _; omega)).trans k0
          replace k1 : v13.cell? ⟨v2.heap.size, 1, none⟩ = some (.slice AOM Z.length COM) := (hA.cell (by show v2.heap.size < _; omega)).trans k1
          replace u0 : v13.cell? ⟨v5.heap.size, 0, none⟩ = some (.int .i64 s) := (hA.cell (by show v5.heap.size < _; omega)).trans u0
          replace u1 : v13.cell? ⟨v5.heap.size, 1, none⟩ = some (.slice AOU U.length COU) := (hA.cell (by show v5.heap.size < _; omega)).trans u1
          replace w0 : v13.cell? ⟨v6.heap.size, 0, none⟩ = some (.int .i64 s) := (hA.cell (by show v6.heap.size < _; omega)).trans w0
          replace w1 : v13.cell? ⟨v6.heap.size, 1, none⟩ = some (.slice AOV V.length COV) := (hA.cell (by show v6.heap.size < _; omega)).trans w1
          replace x0 : v13.cell? ⟨v7.heap.size, 0, none⟩ = some (.int .i64 s) := (hA.cell (by show v7.heap.size < _; omega)).trans x0
          replace x1 : v13.cell? ⟨v7.heap.size, 1, none⟩ = some (.slice AOA U.length COA) := (hA.cell (by show v7.heap.size < _; omega)).trans x1
          replace y0 : v13.cell? ⟨v8.heap.size, 0, none⟩ = some (.int .i64 s) := (hA.cell (by show v8.heap.size < _; omega)).trans y0
          replace y1 : v13.cell? ⟨v8.heap.size, 1, none⟩ = some (.slice AOB V.length COB) := (hA.cell (by show v8.heap.size < _; omega)).trans y1
          replace m0 : v13.cell? ⟨v9.heap.size, 0, none⟩ = some (.int .i64 0) := (hA.cell (by show v9.heap.size < _; omega)).trans m0
          replace m1 : v13.cell? ⟨v9.heap.size, 1, none⟩ = some (.slice AOX W.length COX) := (hA.cell (by show v9.heap.size < _; omega)).trans m1
          replace OM := Lib.hid (OM.out.below hA (fun g hg => (OM.out.lt g hg).2))
          replace OU := Lib.hid (OU.out.below hA (fun g hg => (OU.out.lt g hg).2))
          replace OV := Lib.hid (OV.out.below hA (fun g hg => (OV.out.lt g hg).2))
          replace OA := Lib.hid (OA.out.below hA (fun g hg => (OA.out.lt g hg).2))
          replace OB := Lib.hid (OB.out.below hA (fun g hg => (OB.out.lt g hg).2))
          replace OX := Lib.hid (OX.out.below hA (fun g hg => (OX.out.lt g hg).2))
          replace HB := Lib.hid (HB.out.trans (hA.mono HB.out.size))
          clear hb hA
          have z0v13 : v1.heap.size < v13.heap.size := by omega
          have z1v13 : v2.heap.size < v13.heap.size := by omega
          have z2v13 : v5.heap.size < v13.heap.size := by omega
          have z3v13 : v6.heap.size < v13.heap.size := by omega
          have z4v13 : v7.heap.size < v13.heap.size := by omega
          have z5v13 : v8.heap.size < v13.heap.size := by omega
          have z6v13 : v9.heap.size < v13.heap.size := by omega
          clear z0v12 z1v12 z2v12 z3v12 z4v12 z5v12 z6v12
          rw [HN2.out]
          go_wp2_with fail
          go_ret
          exact ⟨rfl, HB.out⟩
      · have HX := Lib.hid (show ∀ w e w', MassOk w (mixB s U s V p q) s (madeL (mixL p q U V)) e w' → ∃ A C, e = .returned (.tuple #[.agg #[.int .i64 s, .slice A Z.length C], .bool true]) ∧ Own w' w.heap.size (.slice A Z.length C) Z ∧ Below w.heap.size w w' from by intro w e w' h; unfold MassOk at h; rw [hb0, hmix, hZ] at h; exact h)
        clear hZ hU hV hmix hB hv hz hb0
        refine ((impl_SimpleMass_c s a p q _).mono (HS.out _)).mono ?_
        rintro e v2 ⟨AOM, COM, rfl, ho, hb⟩
        have hA : Below v1.heap.size v1 v2 := Below.trans (by repeat (first | exact Below.refl _ _ | (refine Below.alloc ?_ (by first | (simp <;> omega) | omega) _) | (refine Below.setCell ?_ (by first | (simp <;> omega) | omega) _) | (refine Below.drew ?_) | (refine below_drewN ?_ _))) (hb.mono (by first | exact Nat.le_refl _ | (simp <;> omega) | omega))
        have hsv2 : v1.heap.size + 1 ≤ v2.heap.size := by have := hb.size; first | (simp at this; omega) | omega
        have f0 : v2.cell? ⟨v1.heap.size, 0, none⟩ = some (.int .i64 p) := (hb.cell (by show v1.heap.size < _; first | (simp <;> omega) | omega)).trans (by go_simp)
        have f1 : v2.cell? ⟨v1.heap.size, 1, none⟩ = some (.int .i64 q) := (hb.cell (by show v1.heap.size < _; first | (simp <;> omega) | omega)).trans (by go_simp)
        replace HB := Lib.hid (HB.out.trans (hA.mono HB.out.size))
        have LOM : Hid (∀ g, (.slice AOM Z.length COM : Value).ownBlock = some g → v1.heap.size + 1 ≤ g ∧ g < v2.heap.size) := Lib.hid (fun g hg => by have := ho.lt g hg; first | omega | (simp at this; omega) | (simp at this ⊢; omega))
        have OM := Lib.hid ho
        clear hb hA ho
        have z0v2 : v1.heap.size < v2.heap.size := by omega
        go_wp2_with fail
        refine ((spec_SimpleMass_c s a p q _).mono (HS.out _)).mono ?_
        rintro e v3 ⟨AOW, COW, rfl, ho, hb⟩
        have hA : Below v2.heap.size v2 v3 := Below.trans (by repeat (first | exact Below.refl _ _ | (refine Below.alloc ?_ (by first | (simp <;> omega) | omega) _) | (refine Below.setCell ?_ (by first | (simp <;> omega) | omega) _) | (refine Below.drew ?_) | (refine below_drewN ?_ _))) (hb.mono (by first | exact Nat.le_refl _ | (simp <;> omega) | omega))
        have hsv3 : v2.heap.size + 1 ≤ v3.heap.size := by have := hb.size; first | (simp at this; omega) | omega
        replace f0 : v3.cell? ⟨v1.heap.size, 0, none⟩ = some (.int .i64 p) := (hA.cell (by show v1.heap.size < _; omega)).trans f0
        replace f1 : v3.cell? ⟨v1.heap.size, 1, none⟩ = some (.int .i64 q) := (hA.cell (by show v1.heap.size < _; omega)).trans f1
        have k0 : v3.cell? ⟨v2.heap.size, 0, none⟩ = some (.int .i64 s) := (hb.cell (by show v2.heap.size < _; first | (simp <;> omega) | omega)).trans (by go_simp)
        have k1 : v3.cell? ⟨v2.heap.size, 1, none⟩ = some (.slice AOM Z.length COM) := (hb.cell (by show v2.heap.size < _; first | (simp <;> omega) | omega)).trans (by go_simp)
        replace OM := Lib.hid (OM.out.below hA (fun g hg => (OM.out.lt g hg).2))
        replace HB := Lib.hid (HB.out.trans (hA.mono HB.out.size))
        have LOW : Hid (∀ g, (.slice AOW Z.length COW : Value).ownBlock = some g → v2.heap.size + 1 ≤ g ∧ g < v3.heap.size) := Lib.hid (fun g hg => by have := ho.lt g hg; first | omega | (simp at this; omega) | (simp at this ⊢; omega))
        have OW := Lib.hid ho
        clear hb hA ho
        have z0v3 : v1.heap.size < v3.heap.size := by omega
        have z1v3 : v2.heap.size < v3.heap.size := by omega
        clear z0v2
        go_wp2_with fail
        refine (weEqual_c _ _ _ _ _ _ Z _ (OM.out.rowAt.alloc _) (OW.out.rowAt.alloc _)).mono ?_
        rintro e v4 ⟨rfl, hb⟩
        have hA : Below v3.heap.size v3 v4 := Below.trans (by repeat (first | exact Below.refl _ _ | (refine Below.alloc ?_ (by first | (simp <;> omega) | omega) _) | (refine Below.setCell ?_ (by first | (simp <;> omega) | omega) _) | (refine Below.drew ?_) | (refine below_drewN ?_ _))) (hb.mono (by first | exact Nat.le_refl _ | (simp <;> omega) | omega))
        have hsv4 : v3.heap.size + 1 ≤ v4.heap.size := by have := hb.size; first | (simp at this; omega) | omega
        replace f0 : v4.cell? ⟨v1.heap.size, 0, none⟩ = some (.int .i64 p) := (hA.cell (by show v1.heap.size < _; omega)).trans f0
        replace f1 : v4.cell? ⟨v1.heap.size, 1, none⟩ = some (.int .i64 q) := (hA.cell (by show v1.heap.size < _; omega)).trans f1
        replace k0 : v4.cell? ⟨v2.heap.size, 0, none⟩ = some (.int .i64 s) := (hA.cell (by show v2.heap.size < _; omega)).trans k0
        replace k1 : v4.cell? ⟨v2.heap.size, 1, none⟩ = some (.slice AOM Z.length COM) := (hA.cell (by show v2.heap.size < _; omega)).trans k1
        have l0 : v4.cell? ⟨v3.heap.size, 0, none⟩ = some (.int .i64 s) := (hb.cell (by show v3.heap.size < _; first | (simp <;> omega) | omega)).trans (by go_simp)
        have l1 : v4.cell? ⟨v3.heap.size, 1, none⟩ = some (.slice AOW Z.length COW) := (hb.cell (by show v3.heap.size < _; first | (simp <;> omega) | omega)).trans (by go_simp)
        replace OM := Lib.hid (OM.out.below hA (fun g hg => (OM.out.lt g hg).2))
        replace OW := Lib.hid (OW.out.below hA (fun g hg => (OW.out.lt g hg).2))
        replace HB := Lib.hid (HB.out.trans (hA.mono HB.out.size))
        clear hb hA
        have z0v4 : v1.heap.size < v4.heap.size := by omega
        have z1v4 : v2.heap.size < v4.heap.size := by omega
        have z2v4 : v3.heap.size < v4.heap.size := by omega
        clear z0v3 z1v3
        go_wp2_with fail
        clear OW l0 l1
        refine ((impl_SureMass_c s a _).mono (HU.out _)).mono ?_
        rintro e v5 ⟨AOU, COU, rfl, ho, hb⟩
        have hA : Below v4.heap.size v4 v5 := Below.trans (by repeat (first | exact Below.refl _ _ | (refine Below.alloc ?_ (by first | (simp <;> omega) | omega) _) | (refine Below.setCell ?_ (by first | (simp <;> omega) | omega) _) | (refine Below.drew ?_) | (refine below_drewN ?_ _))) (hb.mono (by first | exact Nat.le_refl _ | (simp <;> omega) | omega))
        have hsv5 : v4.heap.size ≤ v5.heap.size := hA.size
        replace f0 : v5.cell? ⟨v1.heap.size, 0, none⟩ = some (.int .i64 p) := (hA.cell (by show v1.heap.size < _; omega)).trans f0
        replace f1 : v5.cell? ⟨v1.heap.size, 1, none⟩ = some (.int .i64 q) := (hA.cell (by show v1.heap.size < _; omega)).trans f1
        replace k0 : v5.cell? ⟨v2.heap.size, 0, none⟩ = some (.int .i64 s) := (hA.cell (by show v2.heap.size < _; omega)).trans k0
        replace k1 : v5.cell? ⟨v2.heap.size, 1, none⟩ = some (.slice AOM Z.length COM) := (hA.cell (by show v2.heap.size < _; omega)).trans k1
        replace OM := Lib.hid (OM.out.below hA (fun g hg => (OM.out.lt g hg).2))
        replace HB := Lib.hid (HB.out.trans (hA.mono HB.out.size))
        have LOU : Hid (∀ g, (.slice AOU U.length COU : Value).ownBlock = some g → v4.heap.size + 0 ≤ g ∧ g < v5.heap.size) := Lib.hid (fun g hg => by have := ho.lt g hg; first | omega | (simp at this; omega) | (simp at this ⊢; omega))
        have OU := Lib.hid ho
        clear hb hA ho
        have z0v5 : v1.heap.size < v5.heap.size := by omega
        have z1v5 : v2.heap.size < v5.heap.size := by omega
        clear z0v4 z1v4 z2v4
        go_wp2_with fail
        refine ((impl_NoEvidence_c s _).mono (HV.out _)).mono ?_
        rintro e v6 ⟨AOV, COV, rfl, ho, hb⟩
        have hA : Below v5.heap.size v5 v6 := Below.trans (by repeat (first | exact Below.refl _ _ | (refine Below.alloc ?_ (by first | (simp <;> omega) | omega) _) | (refine Below.setCell ?_ (by first | (simp <;> omega) | omega) _) | (refine Below.drew ?_) | (refine below_drewN ?_ _))) (hb.mono (by first | exact Nat.le_refl _ | (simp <;> omega) | omega))
        have hsv6 : v5.heap.size + 1 ≤ v6.heap.size := by have := hb.size; first | (simp at this; omega) | omega
        replace f0 : v6.cell? ⟨v1.heap.size, 0, none⟩ = some (.int .i64 p) := (hA.cell (by show v1.heap.size < _; omega)).trans f0
        replace f1 : v6.cell? ⟨v1.heap.size, 1, none⟩ = some (.int .i64 q) := (hA.cell (by show v1.heap.size < _; omega)).trans f1
        replace k0 : v6.cell? ⟨v2.heap.size, 0, none⟩ = some (.int .i64 s) := (hA.cell (by show v2.heap.size < _; omega)).trans k0
        replace k1 : v6.cell? ⟨v2.heap.size, 1, none⟩ = some (.slice AOM Z.length COM) := (hA.cell (by show v2.heap.size < _; omega)).trans k1
        have u0 : v6.cell? ⟨v5.heap.size, 0, none⟩ = some (.int .i64 s) := (hb.cell (by show v5.heap.size < _; first | (simp <;> omega) | omega)).trans (by go_simp)
        have u1 : v6.cell? ⟨v5.heap.size, 1, none⟩ = some (.slice AOU U.length COU) := (hb.cell (by show v5.heap.size < _; first | (simp <;> omega) | omega)).trans (by go_simp)
        replace OM := Lib.hid (OM.out.below hA (fun g hg => (OM.out.lt g hg).2))
        replace OU := Lib.hid (OU.out.below hA (fun g hg => (OU.out.lt g hg).2))
        replace HB := Lib.hid (HB.out.trans (hA.mono HB.out.size))
        have LOV : Hid (∀ g, (.slice AOV V.length COV : Value).ownBlock = some g → v5.heap.size + 1 ≤ g ∧ g < v6.heap.size) := Lib.hid (fun g hg => by have := ho.lt g hg; first | omega | (simp at this; omega) | (simp at this ⊢; omega))
        have OV := Lib.hid ho
        clear hb hA ho
        have z0v6 : v1.heap.size < v6.heap.size := by omega
        have z1v6 : v2.heap.size < v6.heap.size := by omega
        have z2v6 : v5.heap.size < v6.heap.size := by omega
        clear z0v5 z1v5
        go_wp2_with fail
        refine ((spec_SureMass_c s a _).mono (HU.out _)).mono ?_
        rintro e v7 ⟨AOA, COA, rfl, ho, hb⟩
        have hA : Below v6.heap.size v6 v7 := Below.trans (by repeat (first | exact Below.refl _ _ | (refine Below.alloc ?_ (by first | (simp <;> omega) | omega) _) | (refine Below.setCell ?_ (by first | (simp <;> omega) | omega) _) | (refine Below.drew ?_) | (refine below_drewN ?_ _))) (hb.mono (by first | exact Nat.le_refl _ | (simp <;> omega) | omega))
        have hsv7 : v6.heap.size + 1 ≤ v7.heap.size := by have := hb.size; first | (simp at this; omega) | omega
        replace f0 : v7.cell? ⟨v1.heap.size, 0, none⟩ = some (.int .i64 p) := (hA.cell (by show v1.heap.size < _; omega)).trans f0
        replace f1 : v7.cell? ⟨v1.heap.size, 1, none⟩ = some (.int .i64 q) := (hA.cell (by show v1.heap.size < _; omega)).trans f1
        replace k0 : v7.cell? ⟨v2.heap.size, 0, none⟩ = some (.int .i64 s) := (hA.cell (by show v2.heap.size < _; omega)).trans k0
        replace k1 : v7.cell? ⟨v2.heap.size, 1, none⟩ = some (.slice AOM Z.length COM) := (hA.cell (by show v2.heap.size < _; omega)).trans k1
        replace u0 : v7.cell? ⟨v5.heap.size, 0, none⟩ = some (.int .i64 s) := (hA.cell (by show v5.heap.size < _; omega)).trans u0
        replace u1 : v7.cell? ⟨v5.heap.size, 1, none⟩ = some (.slice AOU U.length COU) := (hA.cell (by show v5.heap.size < _; omega)).trans u1
        have w0 : v7.cell? ⟨v6.heap.size, 0, none⟩ = some (.int .i64 s) := (hb.cell (by show v6.heap.size < _; first | (simp <;> omega) | omega)).trans (by go_simp)
        have w1 : v7.cell? ⟨v6.heap.size, 1, none⟩ = some (.slice AOV V.length COV) := (hb.cell (by show v6.heap.size < _; first | (simp <;> omega) | omega)).trans (by go_simp)
        replace OM := Lib.hid (OM.out.below hA (fun g hg => (OM.out.lt g hg).2))
        replace OU := Lib.hid (OU.out.below hA (fun g hg => (OU.out.lt g hg).2))
        replace OV := Lib.hid (OV.out.below hA (fun g hg => (OV.out.lt g hg).2))
        replace HB := Lib.hid (HB.out.trans (hA.mono HB.out.size))
        have LOA : Hid (∀ g, (.slice AOA U.length COA : Value).ownBlock = some g → v6.heap.size + 1 ≤ g ∧ g < v7.heap.size) := Lib.hid (fun g hg => by have := ho.lt g hg; first | omega | (simp at this; omega) | (simp at this ⊢; omega))
        have OA := Lib.hid ho
        clear hb hA ho
        have z0v7 : v1.heap.size < v7.heap.size := by omega
        have z1v7 : v2.heap.size < v7.heap.size := by omega
        have z2v7 : v5.heap.size < v7.heap.size := by omega
        have z3v7 : v6.heap.size < v7.heap.size := by omega
        clear z0v6 z1v6 z2v6
        go_wp2_with fail
        refine ((spec_NoEvidence_c s _).mono (HV.out _)).mono ?_
        rintro e v8 ⟨AOB, COB, rfl, ho, hb⟩
        have hA : Below v7.heap.size v7 v8 := Below.trans (by repeat (first | exact Below.refl _ _ | (refine Below.alloc ?_ (by first | (simp <;> omega) | omega) _) | (refine Below.setCell ?_ (by first | (simp <;> omega) | omega) _) | (refine Below.drew ?_) | (refine below_drewN ?_ _))) (hb.mono (by first | exact Nat.le_refl _ | (simp <;> omega) | omega))
        have hsv8 : v7.heap.size + 1 ≤ v8.heap.size := by have := hb.size; first | (simp at this; omega) | omega
        replace f0 : v8.cell? ⟨v1.heap.size, 0, none⟩ = some (.int .i64 p) := (hA.cell (by show v1.heap.size < _; omega)).trans f0
        replace f1 : v8.cell? ⟨v1.heap.size, 1, none⟩ = some (.int .i64 q) := (hA.cell (by show v1.heap.size < _; omega)).trans f1
        replace k0 : v8.cell? ⟨v2.heap.size, 0, none⟩ = some (.int .i64 s) := (hA.cell (by show v2.heap.size < _; omega)).trans k0
        replace k1 : v8.cell? ⟨v2.heap.size, 1, none⟩ = some (.slice AOM Z.length COM) := (hA.cell (by show v2.heap.size < _; omega)).trans k1
        replace u0 : v8.cell? ⟨v5.heap.size, 0, none⟩ = some (.int .i64 s) := (hA.cell (by show v5.heap.size < _; omega)).trans u0
        replace u1 : v8.cell? ⟨v5.heap.size, 1, none⟩ = some (.slice AOU U.length COU) := (hA.cell (by show v5.heap.size < _; omega)).trans u1
        replace w0 : v8.cell? ⟨v6.heap.size, 0, none⟩ = some (.int .i64 s) := (hA.cell (by show v6.heap.size < _; omega)).trans w0
        replace w1 : v8.cell? ⟨v6.heap.size, 1, none⟩ = some (.slice AOV V.length COV) := (hA.cell (by show v6.heap.size < _; omega)).trans w1
        have x0 : v8.cell? ⟨v7.heap.size, 0, none⟩ = some (.int .i64 s) := (hb.cell (by show v7.heap.size < _; first | (simp <;> omega) | omega)).trans (by go_simp)
        have x1 : v8.cell? ⟨v7.heap.size, 1, none⟩ = some (.slice AOA U.length COA) := (hb.cell (by show v7.heap.size < _; first | (simp <;> omega) | omega)).trans (by go_simp)
        replace OM := Lib.hid (OM.out.below hA (fun g hg => (OM.out.lt g hg).2))
        replace OU := Lib.hid (OU.out.below hA (fun g hg => (OU.out.lt g hg).2))
        replace OV := Lib.hid (OV.out.below hA (fun g hg => (OV.out.lt g hg).2))
        replace OA := Lib.hid (OA.out.below hA (fun g hg => (OA.out.lt g hg).2))
        replace HB := Lib.hid (HB.out.trans (hA.mono HB.out.size))
        have LOB : Hid (∀ g, (.slice AOB V.length COB : Value).ownBlock = some g → v7.heap.size + 1 ≤ g ∧ g < v8.heap.size) := Lib.hid (fun g hg => by have := ho.lt g hg; first | omega | (simp at this; omega) | (simp at this ⊢; omega))
        have OB := Lib.hid ho
        clear hb hA ho
        have z0v8 : v1.heap.size < v8.heap.size := by omega
        have z1v8 : v2.heap.size < v8.heap.size := by omega
        have z2v8 : v5.heap.size < v8.heap.size := by omega
        have z3v8 : v6.heap.size < v8.heap.size := by omega
        have z4v8 : v7.heap.size < v8.heap.size := by omega
        clear z0v7 z1v7 z2v7 z3v7
        go_wp2_with fail
        refine ((impl_MixMasses_c _ _ _ _ U _ _ _ _ V _ _ _ (OU.out.rowAt.alloc _) (OV.out.rowAt.alloc _)).mono (HX.out _)).mono ?_
        rintro e v9 ⟨AOX, COX, rfl, ho, hb⟩
        have hA : Below v8.heap.size v8 v9 := Below.trans (by repeat (first | exact Below.refl _ _ | (refine Below.alloc ?_ (by first | (simp <;> omega) | omega) _) | (refine Below.setCell ?_ (by first | (simp <;> omega) | omega) _) | (refine Below.drew ?_) | (refine below_drewN ?_ _))) (hb.mono (by first | exact Nat.le_refl _ | (simp <;> omega) | omega))
        have hsv9 : v8.heap.size + 1 ≤ v9.heap.size := by have := hb.size; first | (simp at this; omega) | omega
        replace f0 : v9.cell? ⟨v1.heap.size, 0, none⟩ = some (.int .i64 p) := (hA.cell (by show v1.heap.size < _; omega)).trans f0
        replace f1 : v9.cell? ⟨v1.heap.size, 1, none⟩ = some (.int .i64 q) := (hA.cell (by show v1.heap.size < _; omega)).trans f1
        replace k0 : v9.cell? ⟨v2.heap.size, 0, none⟩ = some (.int .i64 s) := (hA.cell (by show v2.heap.size < _; omega)).trans k0
        replace k1 : v9.cell? ⟨v2.heap.size, 1, none⟩ = some (.slice AOM Z.length COM) := (hA.cell (by show v2.heap.size < _; omega)).trans k1
        replace u0 : v9.cell? ⟨v5.heap.size, 0, none⟩ = some (.int .i64 s) := (hA.cell (by show v5.heap.size < _; omega)).trans u0
        replace u1 : v9.cell? ⟨v5.heap.size, 1, none⟩ = some (.slice AOU U.length COU) := (hA.cell (by show v5.heap.size < _; omega)).trans u1
        replace w0 : v9.cell? ⟨v6.heap.size, 0, none⟩ = some (.int .i64 s) := (hA.cell (by show v6.heap.size < _; omega)).trans w0
        replace w1 : v9.cell? ⟨v6.heap.size, 1, none⟩ = some (.slice AOV V.length COV) := (hA.cell (by show v6.heap.size < _; omega)).trans w1
        replace x0 : v9.cell? ⟨v7.heap.size, 0, none⟩ = some (.int .i64 s) := (hA.cell (by show v7.heap.size < _; omega)).trans x0
        replace x1 : v9.cell? ⟨v7.heap.size, 1, none⟩ = some (.slice AOA U.length COA) := (hA.cell (by show v7.heap.size < _; omega)).trans x1
        have y0 : v9.cell? ⟨v8.heap.size, 0, none⟩ = some (.int .i64 s) := (hb.cell (by show v8.heap.size < _; first | (simp <;> omega) | omega)).trans (by go_simp)
        have y1 : v9.cell? ⟨v8.heap.size, 1, none⟩ = some (.slice AOB V.length COB) := (hb.cell (by show v8.heap.size < _; first | (simp <;> omega) | omega)).trans (by go_simp)
        replace OM := Lib.hid (OM.out.below hA (fun g hg => (OM.out.lt g hg).2))
        replace OU := Lib.hid (OU.out.below hA (fun g hg => (OU.out.lt g hg).2))
        replace OV := Lib.hid (OV.out.below hA (fun g hg => (OV.out.lt g hg).2))
        replace OA := Lib.hid (OA.out.below hA (fun g hg => (OA.out.lt g hg).2))
        replace OB := Lib.hid (OB.out.below hA (fun g hg => (OB.out.lt g hg).2))
        replace HB := Lib.hid (HB.out.trans (hA.mono HB.out.size))
        have LOX : Hid (∀ g, (.slice AOX Z.length COX : Value).ownBlock = some g → v8.heap.size + 1 ≤ g ∧ g < v9.heap.size) := Lib.hid (fun g hg => by have := ho.lt g hg; first | omega | (simp at this; omega) | (simp at this ⊢; omega))
        have OX := Lib.hid ho
        clear hb hA ho
        have z0v9 : v1.heap.size < v9.heap.size := by omega
        have z1v9 : v2.heap.size < v9.heap.size := by omega
        have z2v9 : v5.heap.size < v9.heap.size := by omega
        have z3v9 : v6.heap.size < v9.heap.size := by omega
        have z4v9 : v7.heap.size < v9.heap.size := by omega
        have z5v9 : v8.heap.size < v9.heap.size := by omega
        clear z0v8 z1v8 z2v8 z3v8 z4v8
        go_wp2_with fail
        refine (weEqual_c _ _ _ _ _ _ U _ (OU.out.rowAt.alloc _) (OA.out.rowAt.alloc _)).mono ?_
        rintro e v10 ⟨rfl, hb⟩
        have hA : Below v9.heap.size v9 v10 := Below.trans (by repeat (first | exact Below.refl _ _ | (refine Below.alloc ?_ (by first | (simp <;> omega) | omega) _) | (refine Below.setCell ?_ (by first | (simp <;> omega) | omega) _) | (refine Below.drew ?_) | (refine below_drewN ?_ _))) (hb.mono (by first | exact Nat.le_refl _ | (simp <;> omega) | omega))
        have hsv10 : v9.heap.size + 1 ≤ v10.heap.size := by have := hb.size; first | (simp at this; omega) | omega
        replace f0 : v10.cell? ⟨v1.heap.size, 0, none⟩ = some (.int .i64 p) := (hA.cell (by show v1.heap.size < _; omega)).trans f0
        replace f1 : v10.cell? ⟨v1.heap.size, 1, none⟩ = some (.int .i64 q) := (hA.cell (by show v1.heap.size < _; omega)).trans f1
        replace k0 : v10.cell? ⟨v2.heap.size, 0, none⟩ = some (.int .i64 s) := (hA.cell (by show v2.heap.size < _; omega)).trans k0
        replace k1 : v10.cell? ⟨v2.heap.size, 1, none⟩ = some (.slice AOM Z.length COM) := (hA.cell (by show v2.heap.size < _; omega)).trans k1
        replace u0 : v10.cell? ⟨v5.heap.size, 0, none⟩ = some (.int .i64 s) := (hA.cell (by show v5.heap.size < _; omega)).trans u0
        replace u1 : v10.cell? ⟨v5.heap.size, 1, none⟩ = some (.slice AOU U.length COU) := (hA.cell (by show v5.heap.size < _; omega)).trans u1
        replace w0 : v10.cell? ⟨v6.heap.size, 0, none⟩ = some (.int .i64 s) := (hA.cell (by show v6.heap.size < _; omega)).trans w0
        replace w1 : v10.cell? ⟨v6.heap.size, 1, none⟩ = some (.slice AOV V.length COV) := (hA.cell (by show v6.heap.size < _; omega)).trans w1
        replace x0 : v10.cell? ⟨v7.heap.size, 0, none⟩ = some (.int .i64 s) := (hA.cell (by show v7.heap.size < _; omega)).trans x0
        replace x1 : v10.cell? ⟨v7.heap.size, 1, none⟩ = some (.slice AOA U.length COA) := (hA.cell (by show v7.heap.size < _; omega)).trans x1
        replace y0 : v10.cell? ⟨v8.heap.size, 0, none⟩ = some (.int .i64 s) := (hA.cell (by show v8.heap.size < _; omega)).trans y0
        replace y1 : v10.cell? ⟨v8.heap.size, 1, none⟩ = some (.slice AOB V.length COB) := (hA.cell (by show v8.heap.size < _; omega)).trans y1
        have m0 : v10.cell? ⟨v9.heap.size, 0, none⟩ = some (.int .i64 s) := (hb.cell (by show v9.heap.size < _; first | (simp <;> omega) | omega)).trans (by go_simp)
        have m1 : v10.cell? ⟨v9.heap.size, 1, none⟩ = some (.slice AOX Z.length COX) := (hb.cell (by show v9.heap.size < _; first | (simp <;> omega) | omega)).trans (by go_simp)
        replace OM := Lib.hid (OM.out.below hA (fun g hg => (OM.out.lt g hg).2))
        replace OU := Lib.hid (OU.out.below hA (fun g hg => (OU.out.lt g hg).2))
        replace OV := Lib.hid (OV.out.below hA (fun g hg => (OV.out.lt g hg).2))
        replace OA := Lib.hid (OA.out.below hA (fun g hg => (OA.out.lt g hg).2))
        replace OB := Lib.hid (OB.out.below hA (fun g hg => (OB.out.lt g hg).2))
        replace OX := Lib.hid (OX.out.below hA (fun g hg => (OX.out.lt g hg).2))
        replace HB := Lib.hid (HB.out.trans (hA.mono HB.out.size))
        clear hb hA
        have z0v10 : v1.heap.size < v10.heap.size := by omega
        have z1v10 : v2.heap.size < v10.heap.size := by omega
        have z2v10 : v5.heap.size < v10.heap.size := by omega
        have z3v10 : v6.heap.size < v10.heap.size := by omega
        have z4v10 : v7.heap.size < v10.heap.size := by omega
        have z5v10 : v8.heap.size < v10.heap.size := by omega
        have z6v10 : v9.heap.size < v10.heap.size := by omega
        clear z0v9 z1v9 z2v9 z3v9 z4v9 z5v9
        go_wp2_with fail
        refine (weEqual_c _ _ _ _ _ _ V _ (OV.out.rowAt) (OB.out.rowAt)).mono ?_
        rintro e v11 ⟨rfl, hb⟩
        have hA : Below v10.heap.size v10 v11 := Below.trans (by repeat (first | exact Below.refl _ _ | (refine Below.alloc ?_ (by first | (simp <;> omega) | omega) _) | (refine Below.setCell ?_ (by first | (simp <;> omega) | omega) _) | (refine Below.drew ?_) | (refine below_drewN ?_ _))) (hb.mono (by first | exact Nat.le_refl _ | (simp <;> omega) | omega))
        have hsv11 : v10.heap.size ≤ v11.heap.size := hA.size
        replace f0 : v11.cell? ⟨v1.heap.size, 0, none⟩ = some (.int .i64 p) := (hA.cell (by show v1.heap.size < _; omega)).trans f0
        replace f1 : v11.cell? ⟨v1.heap.size, 1, none⟩ = some (.int .i64 q) := (hA.cell (by show v1.heap.size < _; omega)).trans f1
        replace k0 : v11.cell? ⟨v2.heap.size, 0, none⟩ = some (.int .i64 s) := (hA.cell (by show v2.heap.size < _; omega)).trans k0
        replace k1 : v11.cell? ⟨v2.heap.size, 1, none⟩ = some (.slice AOM Z.length COM) := (hA.cell (by show v2.heap.size < _; omega)).trans k1
        replace u0 : v11.cell? ⟨v5.heap.size, 0, none⟩ = some (.int .i64 s) := (hA.cell (by show v5.heap.size < _; omega)).trans u0
        replace u1 : v11.cell? ⟨v5.heap.size, 1, none⟩ = some (.slice AOU U.length COU) := (hA.cell (by show v5.heap.size < _; omega)).trans u1
        replace w0 : v11.cell? ⟨v6.heap.size, 0, none⟩ = some (.int .i64 s) := (hA.cell (by show v6.heap.size < _; omega)).trans w0
        replace w1 : v11.cell? ⟨v6.heap.size, 1, none⟩ = some (.slice AOV V.length COV) := (hA.cell (by show v6.heap.size < _; omega)).trans w1
        replace x0 : v11.cell? ⟨v7.heap.size, 0, none⟩ = some (.int .i64 s) := (hA.cell (by show v7.heap.size < _; omega)).trans x0
        replace x1 : v11.cell? ⟨v7.heap.size, 1, none⟩ = some (.slice AOA U.length COA) := (hA.cell (by show v7.heap.size < _; omega)).trans x1
        replace y0 : v11.cell? ⟨v8.heap.size, 0, none⟩ = some (.int .i64 s) := (hA.cell (by show v8.heap.size < _; omega)).trans y0
        replace y1 : v11.cell? ⟨v8.heap.size, 1, none⟩ = some (.slice AOB V.length COB) := (hA.cell (by show v8.heap.size < _; omega)).trans y1
        replace m0 : v11.cell? ⟨v9.heap.size, 0, none⟩ = some (.int .i64 s) := (hA.cell (by show v9.heap.size < _; omega)).trans m0
        replace m1 : v11.cell? ⟨v9.heap.size, 1, none⟩ = some (.slice AOX Z.length COX) := (hA.cell (by show v9.heap.size < _; omega)).trans m1
        replace OM := Lib.hid (OM.out.below hA (fun g hg => (OM.out.lt g hg).2))
        replace OU := Lib.hid (OU.out.below hA (fun g hg => (OU.out.lt g hg).2))
        replace OV := Lib.hid (OV.out.below hA (fun g hg => (OV.out.lt g hg).2))
        replace OA := Lib.hid (OA.out.below hA (fun g hg => (OA.out.lt g hg).2))
        replace OB := Lib.hid (OB.out.below hA (fun g hg => (OB.out.lt g hg).2))
        replace OX := Lib.hid (OX.out.below hA (fun g hg => (OX.out.lt g hg).2))
        replace HB := Lib.hid (HB.out.trans (hA.mono HB.out.size))
        clear hb hA
        have z0v11 : v1.heap.size < v11.heap.size := by omega
        have z1v11 : v2.heap.size < v11.heap.size := by omega
        have z2v11 : v5.heap.size < v11.heap.size := by omega
        have z3v11 : v6.heap.size < v11.heap.size := by omega
        have z4v11 : v7.heap.size < v11.heap.size := by omega
        have z5v11 : v8.heap.size < v11.heap.size := by omega
        have z6v11 : v9.heap.size < v11.heap.size := by omega
        clear z0v10 z1v10 z2v10 z3v10 z4v10 z5v10 z6v10
        go_wp2_with fail
        refine (weEqual_c _ _ _ _ _ _ Z _ (OX.out.rowAt) (OM.out.rowAt)).mono ?_
        rintro e v12 ⟨rfl, hb⟩
        have hA : Below v11.heap.size v11 v12 := Below.trans (by repeat (first | exact Below.refl _ _ | (refine Below.alloc ?_ (by first | (simp <;> omega) | omega) _) | (refine Below.setCell ?_ (by first | (simp <;> omega) | omega) _) | (refine Below.drew ?_) | (refine below_drewN ?_ _))) (hb.mono (by first | exact Nat.le_refl _ | (simp <;> omega) | omega))
        have hsv12 : v11.heap.size ≤ v12.heap.size := hA.size
        replace f0 : v12.cell? ⟨v1.heap.size, 0, none⟩ = some (.int .i64 p) := (hA.cell (by show v1.heap.size < _; omega)).trans f0
        replace f1 : v12.cell? ⟨v1.heap.size, 1, none⟩ = some (.int .i64 q) := (hA.cell (by show v1.heap.size < _; omega)).trans f1
        replace k0 : v12.cell? ⟨v2.heap.size, 0, none⟩ = some (.int .i64 s) := (hA.cell (by show v2.heap.size < _; omega)).trans k0
        replace k1 : v12.cell? ⟨v2.heap.size, 1, none⟩ = some (.slice AOM Z.length COM) := (hA.cell (by show v2.heap.size < _; omega)).trans k1
        replace u0 : v12.cell? ⟨v5.heap.size, 0, none⟩ = some (.int .i64 s) := (hA.cell (by show v5.heap.size < _; omega)).trans u0
        replace u1 : v12.cell? ⟨v5.heap.size, 1, none⟩ = some (.slice AOU U.length COU) := (hA.cell (by show v5.heap.size < _; omega)).trans u1
        replace w0 : v12.cell? ⟨v6.heap.size, 0, none⟩ = some (.int .i64 s) := (hA.cell (by show v6.heap.size < _; omega)).trans w0
        replace w1 : v12.cell? ⟨v6.heap.size, 1, none⟩ = some (.slice AOV V.length COV) := (hA.cell (by show v6.heap.size < _; omega)).trans w1
        replace x0 : v12.cell? ⟨v7.heap.size, 0, none⟩ = some (.int .i64 s) := (hA.cell (by show v7.heap.size < _; omega)).trans x0
        replace x1 : v12.cell? ⟨v7.heap.size, 1, none⟩ = some (.slice AOA U.length COA) := (hA.cell (by show v7.heap.size < _; omega)).trans x1
        replace y0 : v12.cell? ⟨v8.heap.size, 0, none⟩ = some (.int .i64 s) := (hA.cell (by show v8.heap.size < _; omega)).trans y0
        replace y1 : v12.cell? ⟨v8.heap.size, 1, none⟩ = some (.slice AOB V.length COB) := (hA.cell (by show v8.heap.size < _; omega)).trans y1
        replace m0 : v12.cell? ⟨v9.heap.size, 0, none⟩ = some (.int .i64 s) := (hA.cell (by show v9.heap.size < _; omega)).trans m0
        replace m1 : v12.cell? ⟨v9.heap.size, 1, none⟩ = some (.slice AOX Z.length COX) := (hA.cell (by show v9.heap.size < _; omega)).trans m1
        replace OM := Lib.hid (OM.out.below hA (fun g hg => (OM.out.lt g hg).2))
        replace OU := Lib.hid (OU.out.below hA (fun g hg => (OU.out.lt g hg).2))
        replace OV := Lib.hid (OV.out.below hA (fun g hg => (OV.out.lt g hg).2))
        replace OA := Lib.hid (OA.out.below hA (fun g hg => (OA.out.lt g hg).2))
        replace OB := Lib.hid (OB.out.below hA (fun g hg => (OB.out.lt g hg).2))
        replace OX := Lib.hid (OX.out.below hA (fun g hg => (OX.out.lt g hg).2))
        replace HB := Lib.hid (HB.out.trans (hA.mono HB.out.size))
        clear hb hA
        have z0v12 : v1.heap.size < v12.heap.size := by omega
        have z1v12 : v2.heap.size < v12.heap.size := by omega
        have z2v12 : v5.heap.size < v12.heap.size := by omega
        have z3v12 : v6.heap.size < v12.heap.size := by omega
        have z4v12 : v7.heap.size < v12.heap.size := by omega
        have z5v12 : v8.heap.size < v12.heap.size := by omega
        have z6v12 : v9.heap.size < v12.heap.size := by omega
        clear z0v11 z1v11 z2v11 z3v11 z4v11 z5v11 z6v11
        go_wp2_with fail
        refine (impl_IsNested_c _ _ _ _ Z _ (OM.out.rowAt)).mono ?_
        rintro e v13 ⟨rfl, hb⟩
        have hA : Below v12.heap.size v12 v13 := Below.trans (by repeat (first | exact Below.refl _ _ | (refine Below.alloc ?_ (by first | (simp <;> omega) | omega) _) | (refine Below.setCell ?_ (by first | (simp <;> omega) | omega) _) | (refine Below.drew ?_) | (refine below_drewN ?_ _))) (hb.mono (by first | exact Nat.le_refl _ | (simp <;> omega) | omega))
        have hsv13 : v12.heap.size ≤ v13.heap.size := hA.size
        replace f0 : v13.cell? ⟨v1.heap.size, 0, none⟩ = some (.int .i64 p) := (hA.cell (by show v1.heap.size < _; omega)).trans f0
        replace f1 : v13.cell? ⟨v1.heap.size, 1, none⟩ = some (.int .i64 q) := (hA.cell (by show v1.heap.size < _; omega)).trans f1
        replace k0 : v13.cell? ⟨v2.heap.size, 0, none⟩ = some (.int .i64 s) := (hA.cell (by show v2.heap.size < _; omega)).trans k0
        replace k1 : v13.cell? ⟨v2.heap.size, 1, none⟩ = some (.slice AOM Z.length COM) := (hA.cell (by show v2.heap.size < _; omega)).trans k1
        replace u0 : v13.cell? ⟨v5.heap.size, 0, none⟩ = some (.int .i64 s) := (hA.cell (by show v5.heap.size < _; omega)).trans u0
        replace u1 : v13.cell? ⟨v5.heap.size, 1, none⟩ = some (.slice AOU U.length COU) := (hA.cell (by show v5.heap.size < _; omega)).trans u1
        replace w0 : v13.cell? ⟨v6.heap.size, 0, none⟩ = some (.int .i64 s) := (hA.cell (by show v6.heap.size < _; omega)).trans w0
        replace w1 : v13.cell? ⟨v6.heap.size, 1, none⟩ = some (.slice AOV V.length COV) := (hA.cell (by show v6.heap.size < _; omega)).trans w1
        replace x0 : v13.cell? ⟨v7.heap.size, 0, none⟩ = some (.int .i64 s) := (hA.cell (by show v7.heap.size < _; omega)).trans x0
        replace x1 : v13.cell? ⟨v7.heap.size, 1, none⟩ = some (.slice AOA U.length COA) := (hA.cell (by show v7.heap.size < _; omega)).trans x1
        replace y0 : v13.cell? ⟨v8.heap.size, 0, none⟩ = some (.int .i64 s) := (hA.cell (by show v8.heap.size < _; omega)).trans y0
        replace y1 : v13.cell? ⟨v8.heap.size, 1, none⟩ = some (.slice AOB V.length COB) := (hA.cell (by show v8.heap.size < _; omega)).trans y1
        replace m0 : v13.cell? ⟨v9.heap.size, 0, none⟩ = some (.int .i64 s) := (hA.cell (by show v9.heap.size < _; omega)).trans m0
        replace m1 : v13.cell? ⟨v9.heap.size, 1, none⟩ = some (.slice AOX Z.length COX) := (hA.cell (by show v9.heap.size < _; omega)).trans m1
        replace OM := Lib.hid (OM.out.below hA (fun g hg => (OM.out.lt g hg).2))
        replace OU := Lib.hid (OU.out.below hA (fun g hg => (OU.out.lt g hg).2))
        replace OV := Lib.hid (OV.out.below hA (fun g hg => (OV.out.lt g hg).2))
        replace OA := Lib.hid (OA.out.below hA (fun g hg => (OA.out.lt g hg).2))
        replace OB := Lib.hid (OB.out.below hA (fun g hg => (OB.out.lt g hg).2))
        replace OX := Lib.hid (OX.out.below hA (fun g hg => (OX.out.lt g hg).2))
        replace HB := Lib.hid (HB.out.trans (hA.mono HB.out.size))
        clear hb hA
        have z0v13 : v1.heap.size < v13.heap.size := by omega
        have z1v13 : v2.heap.size < v13.heap.size := by omega
        have z2v13 : v5.heap.size < v13.heap.size := by omega
        have z3v13 : v6.heap.size < v13.heap.size := by omega
        have z4v13 : v7.heap.size < v13.heap.size := by omega
        have z5v13 : v8.heap.size < v13.heap.size := by omega
        have z6v13 : v9.heap.size < v13.heap.size := by omega
        clear z0v12 z1v12 z2v12 z3v12 z4v12 z5v12 z6v12
        rw [HN.out]
        by_cases h0 : a = 0
        · have h0b : (a == 0) = true := by simpa using h0
          clear h0
          go_wp2_with fail
          go_ret
          exact ⟨rfl, HB.out⟩
        · have h0b : (a == 0) = false := by simpa using h0
          have HN2 := Lib.hid (HNO.out h0)
          clear h0
          go_wp2_with fail
          refine (impl_IsNormal_c _ _ _ _ Z _ (OM.out.rowAt)).mono ?_
          rintro e v14 ⟨rfl, hb⟩
          have hA : Below v13.heap.size v13 v14 := Below.trans (by repeat (first | exact Below.refl _ _ | (refine Below.alloc ?_ (by first | (simp <;> omega) | omega) _) | (refine Below.setCell ?_ (by first | (simp <;> omega) | omega) _) | (refine Below.drew ?_) | (refine below_drewN ?_ _))) (hb.mono (by first | exact Nat.le_refl _ | (simp <;> omega) | omega))
          have hsv14 : v13.heap.size ≤ v14.heap.size := hA.size
          replace f0 : v14.cell? ⟨v1.heap.size, 0, none⟩ = some (.int .i64 p) := (hA.cell (by show v1.heap.size < _; omega)).trans f0
          replace f1 : v14.cell? ⟨v1.heap.size, 1, none⟩ = some (.int .i64 q) := (hA.cell (by show v1.heap.size < _; omega)).trans f1
          replace k0 : v14.cell? ⟨v2.heap.size, 0, none⟩ = some (.int .i64 s) := (hA.cell (by show v2.heap.size < _; omega)).trans k0
          replace k1 : v14.cell? ⟨v2.heap.size, 1, none⟩ = some (.slice AOM Z.length COM) := (hA.cell (by show v2.heap.size < _; omega)).trans k1
          replace u0 : v14.cell? ⟨v5.heap.size, 0, none⟩ = some (.int .i64 s) := (hA.cell (by show v5.heap.size < _; omega)).trans u0
          replace u1 : v14.cell? ⟨v5.heap.size, 1, none⟩ = some (.slice AOU U.length COU) := (hA.cell (by show v5.heap.size < _; omega)).trans u1
          replace w0 : v14.cell? ⟨v6.heap.size, 0, none⟩ = some (.int .i64 s) := (hA.cell (by show v6.heap.size < _; omega)).trans w0
          replace w1 : v14.cell? ⟨v6.heap.size, 1, none⟩ = some (.slice AOV V.length COV) := (hA.cell (by show v6.heap.size < _; omega)).trans w1
          replace x0 : v14.cell? ⟨v7.heap.size, 0, none⟩ = some (.int .i64 s) := (hA.cell (by show v7.heap.size < _; omega)).trans x0
          replace x1 : v14.cell? ⟨v7.heap.size, 1, none⟩ = some (.slice AOA U.length COA) := (hA.cell (by show v7.heap.size < _; omega)).trans x1
          replace y0 : v14.cell? ⟨v8.heap.size, 0, none⟩ = some (.int .i64 s) := (hA.cell (by show v8.heap.size < _; omega)).trans y0
          replace y1 : v14.cell? ⟨v8.heap.size, 1, none⟩ = some (.slice AOB V.length COB) := (hA.cell (by show v8.heap.size < _; omega)).trans y1
          replace m0 : v14.cell? ⟨v9.heap.size, 0, none⟩ = some (.int .i64 s) := (hA.cell (by show v9.heap.size < _; omega)).trans m0
          replace m1 : v14.cell? ⟨v9.heap.size, 1, none⟩ = some (.slice AOX Z.length COX) := (hA.cell (by show v9.heap.size < _; omega)).trans m1
          replace OM := Lib.hid (OM.out.below hA (fun g hg => (OM.out.lt g hg).2))
          replace OU := Lib.hid (OU.out.below hA (fun g hg => (OU.out.lt g hg).2))
          replace OV := Lib.hid (OV.out.below hA (fun g hg => (OV.out.lt g hg).2))
          replace OA := Lib.hid (OA.out.below hA (fun g hg => (OA.out.lt g hg).2))
          replace OB := Lib.hid (OB.out.below hA (fun g hg => (OB.out.lt g hg).2))
          replace OX := Lib.hid (OX.out.below hA (fun g hg => (OX.out.lt g hg).2))
          replace HB := Lib.hid (HB.out.trans (hA.mono HB.out.size))
          clear hb hA
          have z0v14 : v1.heap.size < v14.heap.size := by omega
          have z1v14 : v2.heap.size < v14.heap.size := by omega
          have z2v14 : v5.heap.size < v14.heap.size := by omega
          have z3v14 : v6.heap.size < v14.heap.size := by omega
          have z4v14 : v7.heap.size < v14.heap.size := by omega
          have z5v14 : v8.heap.size < v14.heap.size := by omega
          have z6v14 : v9.heap.size < v14.heap.size := by omega
          clear z0v13 z1v13 z2v13 z3v13 z4v13 z5v13 z6v13
          rw [HN2.out]
          go_wp2_with fail
          go_ret
          exact ⟨rfl, HB.out⟩
  · have hn2 : 1048576 < (len0 : Int) := by omega
    go_enter Try.func6, Try.ntmps6
    go_wp2_with fail
    go_ret
    exact ⟨rfl, Below.refl _ _⟩

set_option maxRecDepth 100000 in
theorem lifted (os : Os) (started : os.Started) (H : Type) (enc : TypeId × Value → H) :
    ReturnsInHanded {} Try.checked os 6 .any (Rows.fnSimpleMassSpec.pre6 enc Try.prog Try.f6 Rows.fnSimpleMassRow.domain false) (Rows.fnSimpleMassSpec.post enc Try.prog Try.f6 false true false false) := by
  refine returnsInHanded_of_change (C := Try.checked) own started (by kernel_rfl) Try.func6
    (ChangeSpec.witness6 (enc := enc) (C := Try.checked) false ⟨#[], #[.slice none 0 0], []⟩ 8 (by kernel_rfl) (by kernel_rfl) (by kernel_rfl) (by kernel_rfl)) ?_
  intro W base args ds gs before hval0 hW hcnd _
  have hval : ∀ (j : Nat) t v, Try.f6.params[j]? = some t → args[j]? = some v → Value.okWide Try.prog W .any base t v := hval0
  have hW' := hW
  obtain ⟨p, q, hA0, hV, rfl, hfz, hnd⟩ := hW
  have hA : DataW.TrodAll enc Try.prog W 0 (fun _ => true) true Try.f6.params.toList args.toList ds p := hA0
  rw [Try.params6] at hA hval
  obtain ⟨v0, vs0, d0, ds0, p0, q0, hargs, rfl, rfl, h0, r0⟩ := trodAll_cons hA
  obtain ⟨rfl, rfl, rfl⟩ := trodAll_nil r0
  obtain rfl : args = #[v0] := by cases args; simp_all
  obtain ⟨rfl, rfl⟩ := trodVars_none hV
  have k0 := h0
  have lt0 : ∀ x ∈ p0, x.block < W.heap.size := by obtain ⟨m, hm⟩ := k0; exact DataW.trod_lt m _ _ _ hm
  obtain ⟨a0, len0, cap0, z0, rfl, w0⟩ := get_row Try.underlying22 Try.underlying5 (by kernel_rfl) (hval 0 22 v0 rfl rfl) h0
  clear hA0 hval0
  refine (walk a0 len0 cap0 z0 W w0).mono fun e W' ⟨he, bel⟩ => ?_
  subst he
  exact ⟨_, rfl, _, _, _, [], _, [], hW', trodAll_mk1 (shut_bool Try.underlying4 _), (trodAll_cons_mk (Below.trod laidOut (by kernel_rfl) (of_decide_eq_true (by kernel_rfl)) k0 bel lt0) trodAll_mk0), rfl, bel.frame _, fun h => by cases h⟩

theorem closed : joinedFacts Try.prog 6 Try.f6 Rows.fnSimpleMassSpec Rows.fnSimpleMassRow = true := by
  rw [joinedFacts.eq_1]
  simp only [Bool.and_eq_true]
  repeat' apply And.intro
  all_goals first | (with_reducible exact fact_enter) | (with_reducible exact laidOut) | (with_reducible exact fact_maps) | (with_reducible exact fact_heard) | (rw [fact_lifts]; try (as_aux_lemma => kernel_rfl)) | (rw [fact_make]; try (as_aux_lemma => kernel_rfl)) | (rw [fact_keys]; try (as_aux_lemma => kernel_rfl)) | (as_aux_lemma => kernel_rfl)

theorem holds : Rows.FnSimpleMassSaid :=
  OpenClaim.holds_of_wide 6 Try.f6 rfl rfl rfl rfl rfl rfl rfl ⟨rfl, rfl, rfl, rfl, rfl⟩ rfl rfl rfl rfl rfl (by kernel_rfl) Try.func6 closed
    (of_decide_eq_true (by kernel_rfl)) (by unfold Func.isWrapper; rw [if_neg (of_decide_eq_false (by kernel_rfl))]; exact ⟨rfl, rfl⟩)
    (fun os started H enc _ => lifted os started H enc)
#print axioms holds
end Go.Proofs.Ytemollfejgmlcaa.fnSimpleMass
