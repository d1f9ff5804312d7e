/- FnMakeMass: for every input that can be read, the law returns true and its arguments read afterwards as before. Conditions: none. -/
import Derived.Test.YtemollfejgmlcaaMem
import Derived.Test.YtemollfejgmlcaaSigns
import Derived.Test.YtemollfejgmlcaaPlainE
import Derived.Test.YtemollfejgmlcaaPlainK
import Derived.Test.YtemollfejgmlcaaWm
import Derived.Test.YtemollfejgmlcaaWa
import Derived.Test.YtemollfejgmlcaaWh
import Derived.Test.YtemollfejgmlcaaPlainI
import Derived.Test.YtemollfejgmlcaaMa
import Derived.Test.YtemollfejgmlcaaMb
import Derived.Test.YtemollfejgmlcaaMc
import Derived.Test.YtemollfejgmlcaaMd
import Derived.Test.YtemollfejgmlcaaMe
import Derived.Test.YtemollfejgmlcaaMf
import Derived.Test.YtemollfejgmlcaaMg
import Derived.Test.YtemollfejgmlcaaMh
import Derived.Test.YtemollfejgmlcaaMi
import Derived.Test.YtemollfejgmlcaaGl
import Derived.Test.YtemollfejgmlcaaGm
import Derived.Test.YtemollfejgmlcaaMj
import Derived.Test.YtemollfejgmlcaaMk
import Derived.Test.YtemollfejgmlcaaMu
import Derived.Test.YtemollfejgmlcaaMw
import Derived.Test.YtemollfejgmlcaaMx
import Derived.Deep.QuietTactic
import Derived.BigQuiet
namespace Go.Proofs.Ytemollfejgmlcaa.fnMakeMass
open Go.ChangeShapes Go.WideShapes Go.ChangeAt Go.RowKit
open Go.ChangeMaps (open_string shut_string)
set_option linter.unusedVariables false

set_option maxRecDepth 100000 in
set_option maxHeartbeats 4000000 in
theorem walk (a0 : Option Addr) (len0 cap0 : Nat) (z0 : List Int) (w : World) (w0 : IsRow .u8 w a0 len0 cap0 z0) :
    Calls Try.prog 4 #[.slice a0 len0 cap0] w fun e w' => e = .returned (.bool true) ∧ Below w.heap.size w w' := by
  by_cases hn : len0 ≤ 1048576
  · have hn2 : (len0 : Int) ≤ 1048576 := by omega
    have HW := Lib.hid w0
    clear w0
    have HB := Lib.hid (Below.refl w.heap.size w)
    go_enter Try.func4, Try.ntmps4
    go_wp2_with fail
    refine (DrawMakeMass_c _ _ _ _ _ HW.out).mono ?_
    rintro e v1 ⟨s, xs, A, n, C, rfl, hrow, hn17, hb⟩
    have hA : Below w.heap.size w v1 := Below.trans (by repeat (first | exact Below.refl _ _ | (refine Below.alloc ?_ (by first | (simp <;> omega) | omega) _) | (refine Below.setCell ?_ (by first | (simp <;> omega) | omega) _) | (refine Below.drew ?_) | (refine below_drewN ?_ _))) (hb.mono (by first | exact Nat.le_refl _ | (simp <;> omega) | omega))
    have hsv1 : w.heap.size ≤ v1.heap.size := hA.size
    replace HB := Lib.hid (HB.out.trans (hA.mono HB.out.size))
    clear hb hA
    obtain rfl : xs.length = n := hrow.len
    have hcap : xs.length ≤ C := hrow.2.1
    have XR := Lib.hid hrow
    clear hrow
    go_wp2_with fail
    rcases hB : mkB s xs with _ | _
    · obtain ⟨Z, hZ⟩ : ∃ Z, selL false (madeL xs) = Z := ⟨_, rfl⟩
      have HS := Lib.hid (show ∀ w e w', MassOk w (mkB s xs) s (madeL xs) e w' → ∃ A C, e = .returned (.tuple #[.agg #[.int .i64 0, .slice A Z.length C], .bool false]) ∧ Own w' w.heap.size (.slice A Z.length C) Z ∧ Below w.heap.size w w' from by intro w e w' h; unfold MassOk at h; rw [hB, hZ] at h; exact h)
      clear hZ hB
      refine ((impl_MakeMass_c s _ _ _ xs _ XR.out).mono (HS.out _)).mono ?_
      rintro e v2 ⟨AOM, COM, rfl, ho, hb⟩
      have hA : Below v1.heap.size v1 v2 := Below.trans (by repeat (first | exact Below.refl _ _ | (refine Below.alloc ?_ (by first | (simp <;> omega) | omega) _) | (refine Below.setCell ?_ (by first | (simp <;> omega) | omega) _) | (refine Below.drew ?_) | (refine below_drewN ?_ _))) (hb.mono (by first | exact Nat.le_refl _ | (simp <;> omega) | omega))
      have hsv2 : v1.heap.size ≤ v2.heap.size := hA.size
      replace XR := Lib.hid (XR.out.below hA)
      replace HB := Lib.hid (HB.out.trans (hA.mono HB.out.size))
      have LOM : Hid (∀ g, (.slice AOM Z.length COM : Value).ownBlock = some g → v1.heap.size + 0 ≤ g ∧ g < v2.heap.size) := Lib.hid (fun g hg => by have := ho.lt g hg; first | omega | (simp at this; omega) | (simp at this ⊢; omega))
      have OM := Lib.hid ho
      clear hb hA ho
      go_wp2_with fail
      refine ((spec_MakeMass_c s _ _ _ xs _ (XR.out.alloc _)).mono (HS.out _)).mono ?_
      rintro e v3 ⟨AOW, COW, rfl, ho, hb⟩
      have hA : Below v2.heap.size v2 v3 := Below.trans (by repeat (first | exact Below.refl _ _ | (refine Below.alloc ?_ (by first | (simp <;> omega) | omega) _) | (refine Below.setCell ?_ (by first | (simp <;> omega) | omega) _) | (refine Below.drew ?_) | (refine below_drewN ?_ _))) (hb.mono (by first | exact Nat.le_refl _ | (simp <;> omega) | omega))
      have hsv3 : v2.heap.size + 1 ≤ v3.heap.size := by have := hb.size; first | (simp at this; omega) | omega
      have k0 : v3.cell? ⟨v2.heap.size, 0, none⟩ = some (.int .i64 0) := (hb.cell (by show v2.heap.size < _; first | (simp <;> omega) | omega)).trans (by go_simp)
      have k1 : v3.cell? ⟨v2.heap.size, 1, none⟩ = some (.slice AOM Z.length COM) := (hb.cell (by show v2.heap.size < _; first | (simp <;> omega) | omega)).trans (by go_simp)
      replace XR := Lib.hid (XR.out.below hA)
      replace OM := Lib.hid (OM.out.below hA (fun g hg => (OM.out.lt g hg).2))
      replace HB := Lib.hid (HB.out.trans (hA.mono HB.out.size))
      have LOW : Hid (∀ g, (.slice AOW Z.length COW : Value).ownBlock = some g → v2.heap.size + 1 ≤ g ∧ g < v3.heap.size) := Lib.hid (fun g hg => by have := ho.lt g hg; first | omega | (simp at this; omega) | (simp at this ⊢; omega))
      have OW := Lib.hid ho
      clear hb hA ho
      have z0v3 : v2.heap.size < v3.heap.size := by omega
      go_wp2_with fail
      refine (weEqual_c _ _ _ _ _ _ Z _ (OM.out.rowAt.alloc _) (OW.out.rowAt.alloc _)).mono ?_
      rintro e v4 ⟨rfl, hb⟩
      have hA : Below v3.heap.size v3 v4 := Below.trans (by repeat (first | exact Below.refl _ _ | (refine Below.alloc ?_ (by first | (simp <;> omega) | omega) _) | (refine Below.setCell ?_ (by first | (simp <;> omega) | omega) _) | (refine Below.drew ?_) | (refine below_drewN ?_ _))) (hb.mono (by first | exact Nat.le_refl _ | (simp <;> omega) | omega))
      have hsv4 : v3.heap.size + 1 ≤ v4.heap.size := by have := hb.size; first | (simp at this; omega) | omega
      replace k0 : v4.cell? ⟨v2.heap.size, 0, none⟩ = some (.int .i64 0) := (hA.cell (by show v2.heap.size < _; omega)).trans k0
      replace k1 : v4.cell? ⟨v2.heap.size, 1, none⟩ = some (.slice AOM Z.length COM) := (hA.cell (by show v2.heap.size < _; omega)).trans k1
      have l0 : v4.cell? ⟨v3.heap.size, 0, none⟩ = some (.int .i64 0) := (hb.cell (by show v3.heap.size < _; first | (simp <;> omega) | omega)).trans (by go_simp)
      have l1 : v4.cell? ⟨v3.heap.size, 1, none⟩ = some (.slice AOW Z.length COW) := (hb.cell (by show v3.heap.size < _; first | (simp <;> omega) | omega)).trans (by go_simp)
      replace XR := Lib.hid (XR.out.below hA)
      replace OM := Lib.hid (OM.out.below hA (fun g hg => (OM.out.lt g hg).2))
      replace OW := Lib.hid (OW.out.below hA (fun g hg => (OW.out.lt g hg).2))
      replace HB := Lib.hid (HB.out.trans (hA.mono HB.out.size))
      clear hb hA
      have z0v4 : v2.heap.size < v4.heap.size := by omega
      have z1v4 : v3.heap.size < v4.heap.size := by omega
      clear z0v3
      go_wp2_with fail
      refine (weEqual_c _ _ _ _ _ _ Z _ (OM.out.rowAt) (OW.out.rowAt)).mono ?_
      rintro e v5 ⟨rfl, hb⟩
      have hA : Below v4.heap.size v4 v5 := Below.trans (by repeat (first | exact Below.refl _ _ | (refine Below.alloc ?_ (by first | (simp <;> omega) | omega) _) | (refine Below.setCell ?_ (by first | (simp <;> omega) | omega) _) | (refine Below.drew ?_) | (refine below_drewN ?_ _))) (hb.mono (by first | exact Nat.le_refl _ | (simp <;> omega) | omega))
      have hsv5 : v4.heap.size ≤ v5.heap.size := hA.size
      replace k0 : v5.cell? ⟨v2.heap.size, 0, none⟩ = some (.int .i64 0) := (hA.cell (by show v2.heap.size < _; omega)).trans k0
      replace k1 : v5.cell? ⟨v2.heap.size, 1, none⟩ = some (.slice AOM Z.length COM) := (hA.cell (by show v2.heap.size < _; omega)).trans k1
      replace l0 : v5.cell? ⟨v3.heap.size, 0, none⟩ = some (.int .i64 0) := (hA.cell (by show v3.heap.size < _; omega)).trans l0
      replace l1 : v5.cell? ⟨v3.heap.size, 1, none⟩ = some (.slice AOW Z.length COW) := (hA.cell (by show v3.heap.size < _; omega)).trans l1
      replace XR := Lib.hid (XR.out.below hA)
      replace OM := Lib.hid (OM.out.below hA (fun g hg => (OM.out.lt g hg).2))
      replace OW := Lib.hid (OW.out.below hA (fun g hg => (OW.out.lt g hg).2))
      replace HB := Lib.hid (HB.out.trans (hA.mono HB.out.size))
      clear hb hA
      have z0v5 : v2.heap.size < v5.heap.size := by omega
      have z1v5 : v3.heap.size < v5.heap.size := by omega
      clear z0v4 z1v4
      go_wp2_with fail
      go_ret
      exact ⟨rfl, HB.out⟩
    · obtain ⟨hs, hparts, hmz, hg0⟩ := mkB_of hB
      obtain ⟨ha1, ha2⟩ := mk_again hmz
      have hdv : divG xs = (gcdL xs : Int) := (divG_yes fun j hj => by have := partsB_get hparts hj; simp only [partB, decide_eq_true_eq]; omega).1
      have hd1 : 1 ≤ divG xs := by omega
      have hd2 := (divG_parts hd1).2.2
      have hback : ∀ k, k < xs.length → (madeL xs).getD k 0 * divG xs = xs.getD k 0 := fun k hk => by rw [hdv]; exact made_back k hk
      have hxr : ∀ k, k < xs.length → 0 ≤ xs.getD k 0 ∧ xs.getD k 0 ≤ 1000000000 := fun k hk => partsB_get hparts hk
      have hzl : (madeL xs).length = xs.length := madeL_len xs
      obtain ⟨Z, hZ⟩ : ∃ Z, madeL xs = Z := ⟨_, rfl⟩
      rw [hZ] at ha1 ha2 hmz hzl
      have hback2 : ∀ k, k < xs.length → Z.getD k 0 * divG xs = xs.getD k 0 := fun k hk => by rw [← hZ]; exact hback k hk
      obtain ⟨D, hD⟩ : ∃ D, divG xs = D := ⟨_, rfl⟩
      rw [hD] at hd1 hd2 hback2
      have HS := Lib.hid (show ∀ w e w', MassOk w (mkB s xs) s (madeL xs) e w' → ∃ A C, e = .returned (.tuple #[.agg #[.int .i64 s, .slice A Z.length C], .bool true]) ∧ Own w' w.heap.size (.slice A Z.length C) Z ∧ Below w.heap.size w w' from by intro w e w' h; unfold MassOk at h; rw [hB, hZ] at h; exact h)
      have HA := Lib.hid (show ∀ w e w', MassOk w (mkB s Z) s (madeL Z) e w' → ∃ A C, e = .returned (.tuple #[.agg #[.int .i64 s, .slice A Z.length C], .bool true]) ∧ Own w' w.heap.size (.slice A Z.length C) Z ∧ Below w.heap.size w w' from by intro w e w' h; unfold MassOk at h; rw [ha1, ha2] at h; exact h)
      have HD := Lib.hid hD
      have HBK := Lib.hid hback2
      have HXR := Lib.hid hxr
      have EM := Lib.hid hmz
      have HZL := Lib.hid hzl
      clear hs hparts hmz hg0 ha1 ha2 hdv hback hxr hzl hZ hback2 hD hB
      refine ((impl_MakeMass_c s _ _ _ xs _ XR.out).mono (HS.out _)).mono ?_
      rintro e v2 ⟨AOM, COM, rfl, ho, hb⟩
      have hA : Below v1.heap.size v1 v2 := Below.trans (by repeat (first | exact Below.refl _ _ | (refine Below.alloc ?_ (by first | (simp <;> omega) | omega) _) | (refine Below.setCell ?_ (by first | (simp <;> omega) | omega) _) | (refine Below.drew ?_) | (refine below_drewN ?_ _))) (hb.mono (by first | exact Nat.le_refl _ | (simp <;> omega) | omega))
      have hsv2 : v1.heap.size ≤ v2.heap.size := hA.size
      replace XR := Lib.hid (XR.out.below hA)
      replace HB := Lib.hid (HB.out.trans (hA.mono HB.out.size))
      have LOM : Hid (∀ g, (.slice AOM Z.length COM : Value).ownBlock = some g → v1.heap.size + 0 ≤ g ∧ g < v2.heap.size) := Lib.hid (fun g hg => by have := ho.lt g hg; first | omega | (simp at this; omega) | (simp at this ⊢; omega))
      have OM := Lib.hid ho
      clear hb hA ho
      go_wp2_with fail
      refine ((spec_MakeMass_c s _ _ _ xs _ (XR.out.alloc _)).mono (HS.out _)).mono ?_
      rintro e v3 ⟨AOW, COW, rfl, ho, hb⟩
      have hA : Below v2.heap.size v2 v3 := Below.trans (by repeat (first | exact Below.refl _ _ | (refine Below.alloc ?_ (by first | (simp <;> omega) | omega) _) | (refine Below.setCell ?_ (by first | (simp <;> omega) | omega) _) | (refine Below.drew ?_) | (refine below_drewN ?_ _))) (hb.mono (by first | exact Nat.le_refl _ | (simp <;> omega) | omega))
      have hsv3 : v2.heap.size + 1 ≤ v3.heap.size := by have := hb.size; first | (simp at this; omega) | omega
      have k0 : v3.cell? ⟨v2.heap.size, 0, none⟩ = some (.int .i64 s) := (hb.cell (by show v2.heap.size < _; first | (simp <;> omega) | omega)).trans (by go_simp)
      have k1 : v3.cell? ⟨v2.heap.size, 1, none⟩ = some (.slice AOM Z.length COM) := (hb.cell (by show v2.heap.size < _; first | (simp <;> omega) | omega)).trans (by go_simp)
      replace XR := Lib.hid (XR.out.below hA)
      replace OM := Lib.hid (OM.out.below hA (fun g hg => (OM.out.lt g hg).2))
      replace HB := Lib.hid (HB.out.trans (hA.mono HB.out.size))
      have LOW : Hid (∀ g, (.slice AOW Z.length COW : Value).ownBlock = some g → v2.heap.size + 1 ≤ g ∧ g < v3.heap.size) := Lib.hid (fun g hg => by have := ho.lt g hg; first | omega | (simp at this; omega) | (simp at this ⊢; omega))
      have OW := Lib.hid ho
      clear hb hA ho
      have z0v3 : v2.heap.size < v3.heap.size := by omega
      go_wp2_with fail
      refine (weEqual_c _ _ _ _ _ _ Z _ (OM.out.rowAt.alloc _) (OW.out.rowAt.alloc _)).mono ?_
      rintro e v4 ⟨rfl, hb⟩
      have hA : Below v3.heap.size v3 v4 := Below.trans (by repeat (first | exact Below.refl _ _ | (refine Below.alloc ?_ (by first | (simp <;> omega) | omega) _) | (refine Below.setCell ?_ (by first | (simp <;> omega) | omega) _) | (refine Below.drew ?_) | (refine below_drewN ?_ _))) (hb.mono (by first | exact Nat.le_refl _ | (simp <;> omega) | omega))
      have hsv4 : v3.heap.size + 1 ≤ v4.heap.size := by have := hb.size; first | (simp at this; omega) | omega
      replace k0 : v4.cell? ⟨v2.heap.size, 0, none⟩ = some (.int .i64 s) := (hA.cell (by show v2.heap.size < _; omega)).trans k0
      replace k1 : v4.cell? ⟨v2.heap.size, 1, none⟩ = some (.slice AOM Z.length COM) := (hA.cell (by show v2.heap.size < _; omega)).trans k1
      have l0 : v4.cell? ⟨v3.heap.size, 0, none⟩ = some (.int .i64 s) := (hb.cell (by show v3.heap.size < _; first | (simp <;> omega) | omega)).trans (by go_simp)
      have l1 : v4.cell? ⟨v3.heap.size, 1, none⟩ = some (.slice AOW Z.length COW) := (hb.cell (by show v3.heap.size < _; first | (simp <;> omega) | omega)).trans (by go_simp)
      replace XR := Lib.hid (XR.out.below hA)
      replace OM := Lib.hid (OM.out.below hA (fun g hg => (OM.out.lt g hg).2))
      replace OW := Lib.hid (OW.out.below hA (fun g hg => (OW.out.lt g hg).2))
      replace HB := Lib.hid (HB.out.trans (hA.mono HB.out.size))
      clear hb hA
      have z0v4 : v2.heap.size < v4.heap.size := by omega
      have z1v4 : v3.heap.size < v4.heap.size := by omega
      clear z0v3
      go_wp2_with fail
      clear OW l0 l1
      refine (bel_drew (impl_GD_c _ _ _ xs _ XR.out)).mono ?_
      rintro e v5 ⟨rfl, hb⟩
      have hA : Below v4.heap.size v4 v5 := Below.trans (by repeat (first | exact Below.refl _ _ | (refine Below.alloc ?_ (by first | (simp <;> omega) | omega) _) | (refine Below.setCell ?_ (by first | (simp <;> omega) | omega) _) | (refine Below.drew ?_) | (refine below_drewN ?_ _))) (hb.mono (by first | exact Nat.le_refl _ | (simp <;> omega) | omega))
      have hsv5 : v4.heap.size ≤ v5.heap.size := hA.size
      replace k0 : v5.cell? ⟨v2.heap.size, 0, none⟩ = some (.int .i64 s) := (hA.cell (by show v2.heap.size < _; omega)).trans k0
      replace k1 : v5.cell? ⟨v2.heap.size, 1, none⟩ = some (.slice AOM Z.length COM) := (hA.cell (by show v2.heap.size < _; omega)).trans k1
      replace XR := Lib.hid (XR.out.below hA)
      replace OM := Lib.hid (OM.out.below hA (fun g hg => (OM.out.lt g hg).2))
      replace HB := Lib.hid (HB.out.trans (hA.mono HB.out.size))
      clear hb hA
      have z0v5 : v2.heap.size < v5.heap.size := by omega
      clear z0v4 z1v4
      rw [HD.out]
      go_wp2_with fail
      go_loopw [10] (fun i wr => ∃ k : Nat, k ≤ xs.length ∧ i = .int .i64 k ∧ ∃ m, wr = v5.drewN m) (fun i _ => xs.length - (intOf i).toNat)
      case atStart => exact ⟨0, Nat.zero_le _, rfl, 0, rfl⟩
      case round =>
        obtain ⟨k, hk, rfl, m, rfl⟩ := hrel
        by_cases hlt : k < xs.length
        · have hlt' : (k : Int) < (xs.length : Int) := by omega
          have hk0 : (0 : Int) ≤ (k : Int) := by omega
          have hzk : k < Z.length := by rw [HZL.out]; exact hlt
          have hlz : (k : Int) < (Z.length : Int) := by omega
          obtain ⟨b1, o1, rfl, hb1, hc1⟩ := XR.out.at_ (by omega)
          obtain ⟨b2, o2, rfl, hb2, hc2⟩ := OM.out.rowAt.at_ (by omega)
          have hcz : Z.length ≤ COM := OM.out.rowAt.2.1
          have c1 : (v5.drewN m).cell? ⟨b1, o1 + k, none⟩ = some (.int .i64 (xs.getD k 0)) := hc1 k hlt
          have c2 : (v5.drewN m).cell? ⟨b2, o2 + k, none⟩ = some (.int .i64 (Z.getD k 0)) := hc2 k hzk
          have c3 : (v5.drewN m).cell? ⟨v2.heap.size, 1, none⟩ = some (.slice (some ⟨b2, o2, none⟩) Z.length COM) := k1
          have hbk := HBK.out k hlt
          obtain ⟨x0, x1⟩ := HXR.out k hlt
          clear hc1 hc2 k0 k1
          generalize xs.getD k 0 = x at *
          generalize Z.getD k 0 = z at *
          have hw : IntKind.i64.wrap (z * D) = x := by rw [hbk]; exact IntWalk.i64_in _ (by omega)
          have HBK2 := Lib.hid hbk
          clear hbk
          obtain ⟨wk, hwk⟩ : ∃ wk, wk = v5.drewN m := ⟨_, rfl⟩
          rw [← hwk] at c1 c2 c3 ⊢
          have HWK := Lib.hid hwk
          have hxx : (x != x) = false := by simp
          clear hwk
          go_wp2_with fail
          go_quiet (fail)
          go_wp2_with fail
          go_roundw
          case rel => exact ⟨k + 1, by omega, by go_num, _, by rw [HWK.out, World.drewN_drewN]⟩
          case measure => simp [intOf]; omega
        · obtain rfl : k = xs.length := by omega
          obtain ⟨v6, hv⟩ : ∃ x, x = v5.drewN m := ⟨_, rfl⟩
          rw [← hv]
          have hA : Below v5.heap.size v5 v6 := by rw [hv]; exact below_drewN (Below.refl _ _) m
          have hsv6 : v5.heap.size ≤ v6.heap.size := hA.size
          replace k0 : v6.cell? ⟨v2.heap.size, 0, none⟩ = some (.int .i64 s) := (hA.cell (by show v2.heap.size < _; omega)).trans k0
          replace k1 : v6.cell? ⟨v2.heap.size, 1, none⟩ = some (.slice AOM Z.length COM) := (hA.cell (by show v2.heap.size < _; omega)).trans k1
          replace XR := Lib.hid (XR.out.below hA)
          replace OM := Lib.hid (OM.out.below hA (fun g hg => (OM.out.lt g hg).2))
          replace HB := Lib.hid (HB.out.trans (hA.mono HB.out.size))
          clear hA hv
          have z0v6 : v2.heap.size < v6.heap.size := by omega
          clear z0v5
          go_wp2_with fail
          refine ((impl_MakeMass_c s _ _ _ Z _ OM.out.rowAt).mono (HA.out _)).mono ?_
          rintro e v7 ⟨AOA, COA, rfl, ho, hb⟩
          have hA : Below v6.heap.size v6 v7 := Below.trans (by repeat (first | exact Below.refl _ _ | (refine Below.alloc ?_ (by first | (simp <;> omega) | omega) _) | (refine Below.setCell ?_ (by first | (simp <;> omega) | omega) _) | (refine Below.drew ?_) | (refine below_drewN ?_ _))) (hb.mono (by first | exact Nat.le_refl _ | (simp <;> omega) | omega))
          have hsv7 : v6.heap.size ≤ v7.heap.size := hA.size
          replace k0 : v7.cell? ⟨v2.heap.size, 0, none⟩ = some (.int .i64 s) := (hA.cell (by show v2.heap.size < _; omega)).trans k0
          replace k1 : v7.cell? ⟨v2.heap.size, 1, none⟩ = some (.slice AOM Z.length COM) := (hA.cell (by show v2.heap.size < _; omega)).trans k1
          replace XR := Lib.hid (XR.out.below hA)
          replace OM := Lib.hid (OM.out.below hA (fun g hg => (OM.out.lt g hg).2))
          replace HB := Lib.hid (HB.out.trans (hA.mono HB.out.size))
          have LOA : Hid (∀ g, (.slice AOA Z.length COA : Value).ownBlock = some g → v6.heap.size + 0 ≤ g ∧ g < v7.heap.size) := Lib.hid (fun g hg => by have := ho.lt g hg; first | omega | (simp at this; omega) | (simp at this ⊢; omega))
          have OA := Lib.hid ho
          clear hb hA ho
          have z0v7 : v2.heap.size < v7.heap.size := by omega
          clear z0v6
          go_wp2_with fail
          refine (impl_MassValid_c s _ _ _ Z _ (OM.out.rowAt.alloc _)).mono ?_
          rintro e v8 ⟨rfl, hb⟩
          have hA : Below v7.heap.size v7 v8 := Below.trans (by repeat (first | exact Below.refl _ _ | (refine Below.alloc ?_ (by first | (simp <;> omega) | omega) _) | (refine Below.setCell ?_ (by first | (simp <;> omega) | omega) _) | (refine Below.drew ?_) | (refine below_drewN ?_ _))) (hb.mono (by first | exact Nat.le_refl _ | (simp <;> omega) | omega))
          have hsv8 : v7.heap.size + 1 ≤ v8.heap.size := by have := hb.size; first | (simp at this; omega) | omega
          replace k0 : v8.cell? ⟨v2.heap.size, 0, none⟩ = some (.int .i64 s) := (hA.cell (by show v2.heap.size < _; omega)).trans k0
          replace k1 : v8.cell? ⟨v2.heap.size, 1, none⟩ = some (.slice AOM Z.length COM) := (hA.cell (by show v2.heap.size < _; omega)).trans k1
          have p0 : v8.cell? ⟨v7.heap.size, 0, none⟩ = some (.int .i64 s) := (hb.cell (by show v7.heap.size < _; first | (simp <;> omega) | omega)).trans (by go_simp)
          have p1 : v8.cell? ⟨v7.heap.size, 1, none⟩ = some (.slice AOA Z.length COA) := (hb.cell (by show v7.heap.size < _; first | (simp <;> omega) | omega)).trans (by go_simp)
          replace XR := Lib.hid (XR.out.below hA)
          replace OM := Lib.hid (OM.out.below hA (fun g hg => (OM.out.lt g hg).2))
          replace OA := Lib.hid (OA.out.below hA (fun g hg => (OA.out.lt g hg).2))
          replace HB := Lib.hid (HB.out.trans (hA.mono HB.out.size))
          clear hb hA
          have z0v8 : v2.heap.size < v8.heap.size := by omega
          have z1v8 : v7.heap.size < v8.heap.size := by omega
          clear z0v7
          rw [EM.out]
          go_wp2_with fail
          refine (weEqual_c _ _ _ _ _ _ Z _ (OA.out.rowAt) (OM.out.rowAt)).mono ?_
          rintro e v9 ⟨rfl, hb⟩
          have hA : Below v8.heap.size v8 v9 := Below.trans (by repeat (first | exact Below.refl _ _ | (refine Below.alloc ?_ (by first | (simp <;> omega) | omega) _) | (refine Below.setCell ?_ (by first | (simp <;> omega) | omega) _) | (refine Below.drew ?_) | (refine below_drewN ?_ _))) (hb.mono (by first | exact Nat.le_refl _ | (simp <;> omega) | omega))
          have hsv9 : v8.heap.size ≤ v9.heap.size := hA.size
          replace k0 : v9.cell? ⟨v2.heap.size, 0, none⟩ = some (.int .i64 s) := (hA.cell (by show v2.heap.size < _; omega)).trans k0
          replace k1 : v9.cell? ⟨v2.heap.size, 1, none⟩ = some (.slice AOM Z.length COM) := (hA.cell (by show v2.heap.size < _; omega)).trans k1
          replace p0 : v9.cell? ⟨v7.heap.size, 0, none⟩ = some (.int .i64 s) := (hA.cell (by show v7.heap.size < _; omega)).trans p0
          replace p1 : v9.cell? ⟨v7.heap.size, 1, none⟩ = some (.slice AOA Z.length COA) := (hA.cell (by show v7.heap.size < _; omega)).trans p1
          replace XR := Lib.hid (XR.out.below hA)
          replace OM := Lib.hid (OM.out.below hA (fun g hg => (OM.out.lt g hg).2))
          replace OA := Lib.hid (OA.out.below hA (fun g hg => (OA.out.lt g hg).2))
          replace HB := Lib.hid (HB.out.trans (hA.mono HB.out.size))
          clear hb hA
          have z0v9 : v2.heap.size < v9.heap.size := by omega
          have z1v9 : v7.heap.size < v9.heap.size := by omega
          clear z0v8 z1v8
          go_wp2_with fail
          go_ret
          exact ⟨rfl, HB.out⟩
  · have hn2 : 1048576 < (len0 : Int) := by omega
    go_enter Try.func4, Try.ntmps4
    go_wp2_with fail
    go_ret
    exact ⟨rfl, Below.refl _ _⟩

set_option maxRecDepth 100000 in
theorem lifted (os : Os) (started : os.Started) (H : Type) (enc : TypeId × Value → H) :
    ReturnsInHanded {} Try.checked os 4 .any (Rows.fnMakeMassSpec.pre6 enc Try.prog Try.f4 Rows.fnMakeMassRow.domain false) (Rows.fnMakeMassSpec.post enc Try.prog Try.f4 false true false false) := by
  refine returnsInHanded_of_change (C := Try.checked) own started (by kernel_rfl) Try.func4
    (ChangeSpec.witness6 (enc := enc) (C := Try.checked) false ⟨#[], #[.slice none 0 0], []⟩ 8 (by kernel_rfl) (by kernel_rfl) (by kernel_rfl) (by kernel_rfl)) ?_
  intro W base args ds gs before hval0 hW hcnd _
  have hval : ∀ (j : Nat) t v, Try.f4.params[j]? = some t → args[j]? = some v → Value.okWide Try.prog W .any base t v := hval0
  have hW' := hW
  obtain ⟨p, q, hA0, hV, rfl, hfz, hnd⟩ := hW
  have hA : DataW.TrodAll enc Try.prog W 0 (fun _ => true) true Try.f4.params.toList args.toList ds p := hA0
  rw [Try.params4] at hA hval
  obtain ⟨v0, vs0, d0, ds0, p0, q0, hargs, rfl, rfl, h0, r0⟩ := trodAll_cons hA
  obtain ⟨rfl, rfl, rfl⟩ := trodAll_nil r0
  obtain rfl : args = #[v0] := by cases args; simp_all
  obtain ⟨rfl, rfl⟩ := trodVars_none hV
  have k0 := h0
  have lt0 : ∀ x ∈ p0, x.block < W.heap.size := by obtain ⟨m, hm⟩ := k0; exact DataW.trod_lt m _ _ _ hm
  obtain ⟨a0, len0, cap0, z0, rfl, w0⟩ := get_row Try.underlying22 Try.underlying5 (by kernel_rfl) (hval 0 22 v0 rfl rfl) h0
  clear hA0 hval0
  refine (walk a0 len0 cap0 z0 W w0).mono fun e W' ⟨he, bel⟩ => ?_
  subst he
  exact ⟨_, rfl, _, _, _, [], _, [], hW', trodAll_mk1 (shut_bool Try.underlying4 _), (trodAll_cons_mk (Below.trod laidOut (by kernel_rfl) (of_decide_eq_true (by kernel_rfl)) k0 bel lt0) trodAll_mk0), rfl, bel.frame _, fun h => by cases h⟩

theorem closed : joinedFacts Try.prog 4 Try.f4 Rows.fnMakeMassSpec Rows.fnMakeMassRow = true := by
  rw [joinedFacts.eq_1]
  simp only [Bool.and_eq_true]
  repeat' apply And.intro
  all_goals first | (with_reducible exact fact_enter) | (with_reducible exact laidOut) | (with_reducible exact fact_maps) | (with_reducible exact fact_heard) | (rw [fact_lifts]; try (as_aux_lemma => kernel_rfl)) | (rw [fact_make]; try (as_aux_lemma => kernel_rfl)) | (rw [fact_keys]; try (as_aux_lemma => kernel_rfl)) | (as_aux_lemma => kernel_rfl)

theorem holds : Rows.FnMakeMassSaid :=
  OpenClaim.holds_of_wide 4 Try.f4 rfl rfl rfl rfl rfl rfl rfl ⟨rfl, rfl, rfl, rfl, rfl⟩ rfl rfl rfl rfl rfl (by kernel_rfl) Try.func4 closed
    (of_decide_eq_true (by kernel_rfl)) (by unfold Func.isWrapper; rw [if_neg (of_decide_eq_false (by kernel_rfl))]; exact ⟨rfl, rfl⟩)
    (fun os started H enc _ => lifted os started H enc)
#print axioms holds
end Go.Proofs.Ytemollfejgmlcaa.fnMakeMass
