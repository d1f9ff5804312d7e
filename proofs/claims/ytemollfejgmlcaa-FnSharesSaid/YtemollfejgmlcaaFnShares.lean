/- FnShares: for every input that can be read, the law returns true and its arguments read afterwards as before. Conditions: none. -/
import Derived.Test.YtemollfejgmlcaaMem
import Derived.Test.YtemollfejgmlcaaSigns
import Derived.Test.YtemollfejgmlcaaPlainE
import Derived.Test.YtemollfejgmlcaaPlainK
import Derived.Test.YtemollfejgmlcaaWm
import Derived.Test.YtemollfejgmlcaaWa
import Derived.Test.YtemollfejgmlcaaMa
import Derived.Test.YtemollfejgmlcaaMb
import Derived.Test.YtemollfejgmlcaaMc
import Derived.Test.YtemollfejgmlcaaMd
import Derived.Test.YtemollfejgmlcaaMe
import Derived.Test.YtemollfejgmlcaaMf
import Derived.Test.YtemollfejgmlcaaMg
import Derived.Test.YtemollfejgmlcaaMh
import Derived.Test.YtemollfejgmlcaaMi
import Derived.Test.YtemollfejgmlcaaGl
import Derived.Test.YtemollfejgmlcaaGm
import Derived.Test.YtemollfejgmlcaaMj
import Derived.Test.YtemollfejgmlcaaMk
import Derived.Test.YtemollfejgmlcaaMu
import Derived.Test.YtemollfejgmlcaaMv
import Derived.Test.YtemollfejgmlcaaMw
import Derived.Deep.RegionHeld3
import Derived.Deep.QuietTactic
import Derived.BigQuiet
namespace Go.Proofs.Ytemollfejgmlcaa.fnShares
open Go.ChangeShapes Go.WideShapes Go.ChangeAt Go.RowKit
open Go.ChangeMaps (open_string shut_string)
set_option linter.unusedVariables false

set_option maxRecDepth 100000 in
set_option maxHeartbeats 4000000 in
theorem walk (a0 : Option Addr) (len0 cap0 : Nat) (z0 : List Int) (w : World) (w0 : IsRow .u8 w a0 len0 cap0 z0) :
    Calls Try.prog 5 #[.slice a0 len0 cap0] w fun e w' => e = .returned (.bool true) ∧ Below w.heap.size w w' := by
  by_cases hn : len0 ≤ 1048576
  · have hn2 : (len0 : Int) ≤ 1048576 := by omega
    have HW := Lib.hid w0
    clear w0
    have HB := Lib.hid (Below.refl w.heap.size w)
    obtain ⟨i0, hi, hz0, hz1, hz2⟩ := info_parts Try.infoInt
    go_enter Try.func5, Try.ntmps5
    go_wp2_with fail
    refine (DrawShareOf_c _ _ _ _ _ HW.out).mono ?_
    rintro e v1 ⟨s, ys, A, C, a, rfl, ⟨hF, hL, hE, ho⟩, hb⟩
    have hA : Below w.heap.size w v1 := Below.trans (by repeat (first | exact Below.refl _ _ | (refine Below.alloc ?_ (by first | (simp <;> omega) | omega) _) | (refine Below.setCell ?_ (by first | (simp <;> omega) | omega) _) | (refine Below.drew ?_) | (refine below_drewN ?_ _))) (hb.mono (by first | exact Nat.le_refl _ | (simp <;> omega) | omega))
    have hsv1 : w.heap.size ≤ v1.heap.size := hA.size
    replace HB := Lib.hid (HB.out.trans (hA.mono HB.out.size))
    have LM : Hid (∀ g, (.slice A ys.length C : Value).ownBlock = some g → w.heap.size + 0 ≤ g ∧ g < v1.heap.size) := Lib.hid (fun g hg => by have := ho.lt g hg; first | omega | (simp at this; omega) | (simp at this ⊢; omega))
    have M := Lib.hid ho
    clear hb hA ho
    clear hF hE
    go_wp2_with fail
    rcases hm : massB s ys with _ | _
    · have P0 := Lib.hid (show sel (shareB s ys a) (lowX (ys.getD a.toNat 0) (whole ys)) = 0 by simp [shareB, hm, sel])
      have P1 := Lib.hid (show sel (shareB s ys a) (lowY (ys.getD a.toNat 0) (whole ys)) = 0 by simp [shareB, hm, sel])
      have P2 := Lib.hid (show shareB s ys a = false by simp [shareB, hm])
      have P3 := Lib.hid (show wholeI s ys = -1 by simp [wholeI, hm])
      have EM := Lib.hid hm
      clear hm
      refine (impl_ShareOf_c s _ _ _ ys a _ (M.out.rowAt.alloc _)).mono ?_
      rintro e v2 ⟨rfl, hb⟩
      have hA : Below v1.heap.size v1 v2 := Below.trans (by repeat (first | exact Below.refl _ _ | (refine Below.alloc ?_ (by first | (simp <;> omega) | omega) _) | (refine Below.setCell ?_ (by first | (simp <;> omega) | omega) _) | (refine Below.drew ?_) | (refine below_drewN ?_ _))) (hb.mono (by first | exact Nat.le_refl _ | (simp <;> omega) | omega))
      have hsv2 : v1.heap.size + 1 ≤ v2.heap.size := by have := hb.size; first | (simp at this; omega) | omega
      have m0 : v2.cell? ⟨v1.heap.size, 0, none⟩ = some (.int .i64 s) := (hb.cell (by show v1.heap.size < _; first | (simp <;> omega) | omega)).trans (by go_simp)
      have m1 : v2.cell? ⟨v1.heap.size, 1, none⟩ = some (.slice A ys.length C) := (hb.cell (by show v1.heap.size < _; first | (simp <;> omega) | omega)).trans (by go_simp)
      replace M := Lib.hid (M.out.below hA (fun g hg => (M.out.lt g hg).2))
      replace HB := Lib.hid (HB.out.trans (hA.mono HB.out.size))
      clear hb hA
      have z0v2 : v1.heap.size < v2.heap.size := by omega
      rw [P0.out, P1.out, P2.out]
      go_wp2_with fail
      refine (spec_ShareOf_c s _ _ _ ys a _ (M.out.rowAt.alloc _)).mono ?_
      rintro e v3 ⟨rfl, hb⟩
      have hA : Below v2.heap.size v2 v3 := Below.trans (by repeat (first | exact Below.refl _ _ | (refine Below.alloc ?_ (by first | (simp <;> omega) | omega) _) | (refine Below.setCell ?_ (by first | (simp <;> omega) | omega) _) | (refine Below.drew ?_) | (refine below_drewN ?_ _))) (hb.mono (by first | exact Nat.le_refl _ | (simp <;> omega) | omega))
      have hsv3 : v2.heap.size + 1 ≤ v3.heap.size := by have := hb.size; first | (simp at this; omega) | omega
      replace m0 : v3.cell? ⟨v1.heap.size, 0, none⟩ = some (.int .i64 s) := (hA.cell (by show v1.heap.size < _; omega)).trans m0
      replace m1 : v3.cell? ⟨v1.heap.size, 1, none⟩ = some (.slice A ys.length C) := (hA.cell (by show v1.heap.size < _; omega)).trans m1
      have f0 : v3.cell? ⟨v2.heap.size, 0, none⟩ = some (.int .i64 0) := (hb.cell (by show v2.heap.size < _; first | (simp <;> omega) | omega)).trans (by go_simp)
      have f1 : v3.cell? ⟨v2.heap.size, 1, none⟩ = some (.int .i64 0) := (hb.cell (by show v2.heap.size < _; first | (simp <;> omega) | omega)).trans (by go_simp)
      replace M := Lib.hid (M.out.below hA (fun g hg => (M.out.lt g hg).2))
      replace HB := Lib.hid (HB.out.trans (hA.mono HB.out.size))
      clear hb hA
      have z0v3 : v1.heap.size < v3.heap.size := by omega
      have z1v3 : v2.heap.size < v3.heap.size := by omega
      clear z0v2
      rw [P0.out, P1.out, P2.out]
      go_wp2_with fail
      refine (impl_MassValid_c s _ _ _ ys _ (M.out.rowAt.alloc _)).mono ?_
      rintro e v4 ⟨rfl, hb⟩
      have hA : Below v3.heap.size v3 v4 := Below.trans (by repeat (first | exact Below.refl _ _ | (refine Below.alloc ?_ (by first | (simp <;> omega) | omega) _) | (refine Below.setCell ?_ (by first | (simp <;> omega) | omega) _) | (refine Below.drew ?_) | (refine below_drewN ?_ _))) (hb.mono (by first | exact Nat.le_refl _ | (simp <;> omega) | omega))
      have hsv4 : v3.heap.size + 1 ≤ v4.heap.size := by have := hb.size; first | (simp at this; omega) | omega
      replace m0 : v4.cell? ⟨v1.heap.size, 0, none⟩ = some (.int .i64 s) := (hA.cell (by show v1.heap.size < _; omega)).trans m0
      replace m1 : v4.cell? ⟨v1.heap.size, 1, none⟩ = some (.slice A ys.length C) := (hA.cell (by show v1.heap.size < _; omega)).trans m1
      replace f0 : v4.cell? ⟨v2.heap.size, 0, none⟩ = some (.int .i64 0) := (hA.cell (by show v2.heap.size < _; omega)).trans f0
      replace f1 : v4.cell? ⟨v2.heap.size, 1, none⟩ = some (.int .i64 0) := (hA.cell (by show v2.heap.size < _; omega)).trans f1
      have g0 : v4.cell? ⟨v3.heap.size, 0, none⟩ = some (.int .i64 0) := (hb.cell (by show v3.heap.size < _; first | (simp <;> omega) | omega)).trans (by go_simp)
      have g1 : v4.cell? ⟨v3.heap.size, 1, none⟩ = some (.int .i64 0) := (hb.cell (by show v3.heap.size < _; first | (simp <;> omega) | omega)).trans (by go_simp)
      replace M := Lib.hid (M.out.below hA (fun g hg => (M.out.lt g hg).2))
      replace HB := Lib.hid (HB.out.trans (hA.mono HB.out.size))
      clear hb hA
      have z0v4 : v1.heap.size < v4.heap.size := by omega
      have z1v4 : v2.heap.size < v4.heap.size := by omega
      have z2v4 : v3.heap.size < v4.heap.size := by omega
      clear z0v3 z1v3
      rw [EM.out]
      go_wp2_with fail
      refine (impl_WholeOf_c s _ _ _ ys _ (M.out.rowAt)).mono ?_
      rintro e v5 ⟨rfl, hb⟩
      have hA : Below v4.heap.size v4 v5 := Below.trans (by repeat (first | exact Below.refl _ _ | (refine Below.alloc ?_ (by first | (simp <;> omega) | omega) _) | (refine Below.setCell ?_ (by first | (simp <;> omega) | omega) _) | (refine Below.drew ?_) | (refine below_drewN ?_ _))) (hb.mono (by first | exact Nat.le_refl _ | (simp <;> omega) | omega))
      have hsv5 : v4.heap.size ≤ v5.heap.size := hA.size
      replace m0 : v5.cell? ⟨v1.heap.size, 0, none⟩ = some (.int .i64 s) := (hA.cell (by show v1.heap.size < _; omega)).trans m0
      replace m1 : v5.cell? ⟨v1.heap.size, 1, none⟩ = some (.slice A ys.length C) := (hA.cell (by show v1.heap.size < _; omega)).trans m1
      replace f0 : v5.cell? ⟨v2.heap.size, 0, none⟩ = some (.int .i64 0) := (hA.cell (by show v2.heap.size < _; omega)).trans f0
      replace f1 : v5.cell? ⟨v2.heap.size, 1, none⟩ = some (.int .i64 0) := (hA.cell (by show v2.heap.size < _; omega)).trans f1
      replace g0 : v5.cell? ⟨v3.heap.size, 0, none⟩ = some (.int .i64 0) := (hA.cell (by show v3.heap.size < _; omega)).trans g0
      replace g1 : v5.cell? ⟨v3.heap.size, 1, none⟩ = some (.int .i64 0) := (hA.cell (by show v3.heap.size < _; omega)).trans g1
      replace M := Lib.hid (M.out.below hA (fun g hg => (M.out.lt g hg).2))
      replace HB := Lib.hid (HB.out.trans (hA.mono HB.out.size))
      clear hb hA
      have z0v5 : v1.heap.size < v5.heap.size := by omega
      have z1v5 : v2.heap.size < v5.heap.size := by omega
      have z2v5 : v3.heap.size < v5.heap.size := by omega
      clear z0v4 z1v4 z2v4
      rw [P3.out]
      go_wp2_with fail
      refine (spec_WholeOf_c s _ _ _ ys _ (M.out.rowAt)).mono ?_
      rintro e v6 ⟨rfl, hb⟩
      have hA : Below v5.heap.size v5 v6 := Below.trans (by repeat (first | exact Below.refl _ _ | (refine Below.alloc ?_ (by first | (simp <;> omega) | omega) _) | (refine Below.setCell ?_ (by first | (simp <;> omega) | omega) _) | (refine Below.drew ?_) | (refine below_drewN ?_ _))) (hb.mono (by first | exact Nat.le_refl _ | (simp <;> omega) | omega))
      have hsv6 : v5.heap.size ≤ v6.heap.size := hA.size
      replace m0 : v6.cell? ⟨v1.heap.size, 0, none⟩ = some (.int .i64 s) := (hA.cell (by show v1.heap.size < _; omega)).trans m0
      replace m1 : v6.cell? ⟨v1.heap.size, 1, none⟩ = some (.slice A ys.length C) := (hA.cell (by show v1.heap.size < _; omega)).trans m1
      replace f0 : v6.cell? ⟨v2.heap.size, 0, none⟩ = some (.int .i64 0) := (hA.cell (by show v2.heap.size < _; omega)).trans f0
      replace f1 : v6.cell? ⟨v2.heap.size, 1, none⟩ = some (.int .i64 0) := (hA.cell (by show v2.heap.size < _; omega)).trans f1
      replace g0 : v6.cell? ⟨v3.heap.size, 0, none⟩ = some (.int .i64 0) := (hA.cell (by show v3.heap.size < _; omega)).trans g0
      replace g1 : v6.cell? ⟨v3.heap.size, 1, none⟩ = some (.int .i64 0) := (hA.cell (by show v3.heap.size < _; omega)).trans g1
      replace M := Lib.hid (M.out.below hA (fun g hg => (M.out.lt g hg).2))
      replace HB := Lib.hid (HB.out.trans (hA.mono HB.out.size))
      clear hb hA
      have z0v6 : v1.heap.size < v6.heap.size := by omega
      have z1v6 : v2.heap.size < v6.heap.size := by omega
      have z2v6 : v3.heap.size < v6.heap.size := by omega
      clear z0v5 z1v5 z2v5
      rw [P3.out]
      go_wp2_with fail
      go_ret
      exact ⟨rfl, HB.out⟩
    · have hl16 := (massB_len hm).2
      have hWne : whole ys ≠ 0 := by have := (massB_of hm).2.2.2.1; omega
      have hsh := fun (k : Nat) (hk : k < ys.length) => share_in hm hk
      have hge := fun (k : Nat) => mass_get hm k
      have hadd := fun (k : Nat) (hk : k < ys.length) => shares_next hm hk
      have hz0' : ∀ k : Nat, lowX (ys.getD k 0) (whole ys) = 0 ↔ ys.getD k 0 = 0 := fun k => low_zero hWne
      have hst0 : lowX (whole (ys.take 0)) (whole ys) = 0 ∧ lowY (whole (ys.take 0)) (whole ys) = 1 := low_nil hWne
      have hend : lowX (whole (ys.take ys.length)) (whole ys) = 1 ∧ lowY (whole (ys.take ys.length)) (whole ys) = 1 := by rw [List.take_length]; exact low_one hWne
      have HCI := fun a n c w (h : IsRow .i64 w a n c ys) => ret_own (impl_FocalSets_c s a n c ys w h)
      have HCS := fun a n c w (h : IsRow .i64 w a n c ys) => ret_own (spec_FocalSets_c s a n c ys w h)
      rw [focalI_yes hm] at HCI HCS
      have hF16 := Nat.le_trans (focal_len ys ys.length) hl16
      have EM := Lib.hid hm
      have HSH := Lib.hid hsh
      have HGE := Lib.hid hge
      have HADD := Lib.hid hadd
      have HZ := Lib.hid hz0'
      have HST := Lib.hid hst0
      have HEND := Lib.hid hend
      have HCI := Lib.hid HCI
      have HCS := Lib.hid HCS
      clear hm hsh hge hadd hz0' hst0 hend hWne
      obtain ⟨X0, hX0⟩ : ∃ x, sel (shareB s ys a) (lowX (ys.getD a.toNat 0) (whole ys)) = x := ⟨_, rfl⟩
      obtain ⟨Y0, hY0⟩ : ∃ x, sel (shareB s ys a) (lowY (ys.getD a.toNat 0) (whole ys)) = x := ⟨_, rfl⟩
      obtain ⟨B0, hB0⟩ : ∃ x, shareB s ys a = x := ⟨_, rfl⟩
      have P0 := Lib.hid hX0
      have P1 := Lib.hid hY0
      have P2 := Lib.hid hB0
      clear hX0 hY0 hB0
      refine (impl_ShareOf_c s _ _ _ ys a _ (M.out.rowAt.alloc _)).mono ?_
      rintro e v2 ⟨rfl, hb⟩
      have hA : Below v1.heap.size v1 v2 := Below.trans (by repeat (first | exact Below.refl _ _ | (refine Below.alloc ?_ (by first | (simp <;> omega) | omega) _) | (refine Below.setCell ?_ (by first | (simp <;> omega) | omega) _) | (refine Below.drew ?_) | (refine below_drewN ?_ _))) (hb.mono (by first | exact Nat.le_refl _ | (simp <;> omega) | omega))
      have hsv2 : v1.heap.size + 1 ≤ v2.heap.size := by have := hb.size; first | (simp at this; omega) | omega
      have m0 : v2.cell? ⟨v1.heap.size, 0, none⟩ = some (.int .i64 s) := (hb.cell (by show v1.heap.size < _; first | (simp <;> omega) | omega)).trans (by go_simp)
      have m1 : v2.cell? ⟨v1.heap.size, 1, none⟩ = some (.slice A ys.length C) := (hb.cell (by show v1.heap.size < _; first | (simp <;> omega) | omega)).trans (by go_simp)
      replace M := Lib.hid (M.out.below hA (fun g hg => (M.out.lt g hg).2))
      replace HB := Lib.hid (HB.out.trans (hA.mono HB.out.size))
      clear hb hA
      have z0v2 : v1.heap.size < v2.heap.size := by omega
      rw [P0.out, P1.out, P2.out]
      go_wp2_with fail
      refine (spec_ShareOf_c s _ _ _ ys a _ (M.out.rowAt.alloc _)).mono ?_
      rintro e v3 ⟨rfl, hb⟩
      have hA : Below v2.heap.size v2 v3 := Below.trans (by repeat (first | exact Below.refl _ _ | (refine Below.alloc ?_ (by first | (simp <;> omega) | omega) _) | (refine Below.setCell ?_ (by first | (simp <;> omega) | omega) _) | (refine Below.drew ?_) | (refine below_drewN ?_ _))) (hb.mono (by first | exact Nat.le_refl _ | (simp <;> omega) | omega))
      have hsv3 : v2.heap.size + 1 ≤ v3.heap.size := by have := hb.size; first | (simp at this; omega) | omega
      replace m0 : v3.cell? ⟨v1.heap.size, 0, none⟩ = some (.int .i64 s) := (hA.cell (by show v1.heap.size < _; omega)).trans m0
      replace m1 : v3.cell? ⟨v1.heap.size, 1, none⟩ = some (.slice A ys.length C) := (hA.cell (by show v1.heap.size < _; omega)).trans m1
      have f0 : v3.cell? ⟨v2.heap.size, 0, none⟩ = some (.int .i64 X0) := (hb.cell (by show v2.heap.size < _; first | (simp <;> omega) | omega)).trans (by go_simp)
      have f1 : v3.cell? ⟨v2.heap.size, 1, none⟩ = some (.int .i64 Y0) := (hb.cell (by show v2.heap.size < _; first | (simp <;> omega) | omega)).trans (by go_simp)
      replace M := Lib.hid (M.out.below hA (fun g hg => (M.out.lt g hg).2))
      replace HB := Lib.hid (HB.out.trans (hA.mono HB.out.size))
      clear hb hA
      have z0v3 : v1.heap.size < v3.heap.size := by omega
      have z1v3 : v2.heap.size < v3.heap.size := by omega
      clear z0v2
      rw [P0.out, P1.out, P2.out]
      go_wp2_with fail
      refine (impl_MassValid_c s _ _ _ ys _ (M.out.rowAt.alloc _)).mono ?_
      rintro e v4 ⟨rfl, hb⟩
      have hA : Below v3.heap.size v3 v4 := Below.trans (by repeat (first | exact Below.refl _ _ | (refine Below.alloc ?_ (by first | (simp <;> omega) | omega) _) | (refine Below.setCell ?_ (by first | (simp <;> omega) | omega) _) | (refine Below.drew ?_) | (refine below_drewN ?_ _))) (hb.mono (by first | exact Nat.le_refl _ | (simp <;> omega) | omega))
      have hsv4 : v3.heap.size + 1 ≤ v4.heap.size := by have := hb.size; first | (simp at this; omega) | omega
      replace m0 : v4.cell? ⟨v1.heap.size, 0, none⟩ = some (.int .i64 s) := (hA.cell (by show v1.heap.size < _; omega)).trans m0
      replace m1 : v4.cell? ⟨v1.heap.size, 1, none⟩ = some (.slice A ys.length C) := (hA.cell (by show v1.heap.size < _; omega)).trans m1
      replace f0 : v4.cell? ⟨v2.heap.size, 0, none⟩ = some (.int .i64 X0) := (hA.cell (by show v2.heap.size < _; omega)).trans f0
      replace f1 : v4.cell? ⟨v2.heap.size, 1, none⟩ = some (.int .i64 Y0) := (hA.cell (by show v2.heap.size < _; omega)).trans f1
      have g0 : v4.cell? ⟨v3.heap.size, 0, none⟩ = some (.int .i64 X0) := (hb.cell (by show v3.heap.size < _; first | (simp <;> omega) | omega)).trans (by go_simp)
      have g1 : v4.cell? ⟨v3.heap.size, 1, none⟩ = some (.int .i64 Y0) := (hb.cell (by show v3.heap.size < _; first | (simp <;> omega) | omega)).trans (by go_simp)
      replace M := Lib.hid (M.out.below hA (fun g hg => (M.out.lt g hg).2))
      replace HB := Lib.hid (HB.out.trans (hA.mono HB.out.size))
      clear hb hA
      have z0v4 : v1.heap.size < v4.heap.size := by omega
      have z1v4 : v2.heap.size < v4.heap.size := by omega
      have z2v4 : v3.heap.size < v4.heap.size := by omega
      clear z0v3 z1v3
      rw [EM.out]
      go_wp2_with fail
      go_loopw [10, 11] (fun lv i wr => ∃ k : Nat, k ≤ ys.length ∧ i = .int .i64 k ∧ ShInv w v1.heap.size (v4.heap.size) s ys A C k k lv wr) (fun _ i _ => ys.length - (intOf i).toNat)
      case atStart =>
        refine ⟨0, Nat.zero_le _, rfl, ?_⟩
        have hmn := LM.out
        have hls := own_lit (v4.alloc (.cells #[.int .i64 0, .int .i64 1] 40)) [] (by simp) (by simp) (v4.heap.size + 1) (by simp)
        rw [World.size_alloc] at hls
        exact ⟨((HB.out.alloc HB.out.size _).alloc (by have := HB.out.size; simp; omega) _), by omega, by omega, by simp; omega, (World.cell?_alloc_lt _ _ _ (by show _ < _; simp; omega)).trans ((World.cell?_alloc_lt _ _ _ (by show _ < _; omega)).trans m0), (World.cell?_alloc_lt _ _ _ (by show _ < _; simp; omega)).trans ((World.cell?_alloc_lt _ _ _ (by show _ < _; omega)).trans m1), (M.out.alloc _).alloc _, fun g hg => by have := hmn g hg; omega, by rw [HST.out.1]; go_simp, by rw [HST.out.2]; go_simp, by go_simp, by go_simp, hls⟩
      case round =>
        obtain ⟨k, hk, rfl, hI⟩ := hrel
        clear m0 m1 f0 f1 g0 g1
        have h1 := hI.le
        have h2 := hI.lt
        have m0 := hI.m0
        have m1 := hI.m1
        have q0 := hI.s0
        have q1 := hI.s1
        have z1 := hI.sz
        generalize hSB : v4.heap.size = SB at *
        have HSB := Lib.hid hSB
        clear hSB
        by_cases hlt : k < ys.length
        · obtain ⟨ha1, ha2, ha3⟩ := HADD.out k hlt
          have hzz := HZ.out k
          obtain ⟨x0, x1⟩ := HGE.out k
          have hshk := HSH.out k hlt
          obtain ⟨X, hX⟩ : ∃ X, lowX (whole (ys.take k)) (whole ys) = X := ⟨_, rfl⟩
          obtain ⟨Y, hY⟩ : ∃ Y, lowY (whole (ys.take k)) (whole ys) = Y := ⟨_, rfl⟩
          obtain ⟨P, hP⟩ : ∃ P, lowX (ys.getD k 0) (whole ys) = P := ⟨_, rfl⟩
          obtain ⟨Q, hQ⟩ : ∃ Q, lowY (ys.getD k 0) (whole ys) = Q := ⟨_, rfl⟩
          obtain ⟨X', hX'⟩ : ∃ X', lowX (whole (ys.take (k + 1))) (whole ys) = X' := ⟨_, rfl⟩
          obtain ⟨Y', hY'⟩ : ∃ Y', lowY (whole (ys.take (k + 1))) (whole ys) = Y' := ⟨_, rfl⟩
          rw [hX, hY, hP, hQ, hX'] at ha2
          rw [hX, hY, hP, hQ, hY'] at ha3
          rw [hX, hY, hP, hQ] at ha1
          rw [hX] at q0
          rw [hY] at q1
          rw [hP] at hzz
          have HX := Lib.hid hX
          have HY := Lib.hid hY
          have PX := Lib.hid hP
          have PY := Lib.hid hQ
          have EX := Lib.hid hX'
          have EY := Lib.hid hY'
          have HA1 := Lib.hid ha1
          have HA2 := Lib.hid ha2
          have HA3 := Lib.hid ha3
          have HK := Lib.hid hshk
          have I0 := Lib.hid hI
          clear hX hY hP hQ hX' hY' ha1 ha2 ha3 hshk hI
          obtain ⟨V, hV⟩ : ∃ V, ys.getD k 0 = V := ⟨_, rfl⟩
          rw [hV] at hzz x0 x1
          have HV := Lib.hid hV
          clear hV
          have hbr : (V = 0 ∧ P = 0) ∨ ((V == 0) = false ∧ (P == 0) = false ∧ decide (0 < V) = true) := by
            by_cases h0 : V = 0
            · exact .inl ⟨h0, hzz.2 h0⟩
            · exact .inr ⟨by simpa using h0, by simpa using fun h => h0 (hzz.1 h), decide_eq_true (by omega)⟩
          have HBR := Lib.hid hbr
          clear hzz hbr
          go_wp2_with fail
          refine (impl_ShareOf_c s _ _ _ ys (k : Int) _ I0.out.mm.rowAt).mono ?_
          rintro e w1 ⟨rfl, hb1⟩
          rw [HK.out, sel_true, sel_true, Int.toNat_natCast, PX.out, PY.out]
          have I1 := Lib.hid (I0.out.below hb1)
          have z2 : SB < w1.heap.size := I1.out.sz
          clear hb1 m0 m1 q0 q1
          have m0 := I1.out.m0
          have m1 := I1.out.m1
          have q0 := I1.out.s0
          have q1 := I1.out.s1
          rw [HX.out] at q0
          rw [HY.out] at q1
          have hmb : v1.heap.size < w1.heap.size := by omega
          go_wp2_with fail
          refine (impl_Add_c _ _ _ _ _).mono ?_
          rintro e w2 ⟨rfl, hb2⟩
          rw [HA1.out, HA2.out, HA3.out, sel_true, sel_true]
          have I2 := Lib.hid ((I1.out.alloc _).below hb2)
          have z3 : w1.heap.size < w2.heap.size := by have := hb2.size; simp at this; omega
          have p0 : w2.cell? ⟨w1.heap.size, 0, none⟩ = some (.int .i64 P) := (hb2.cell (by show w1.heap.size < _; simp)).trans (by go_simp)
          have p1 : w2.cell? ⟨w1.heap.size, 1, none⟩ = some (.int .i64 Q) := (hb2.cell (by show w1.heap.size < _; simp)).trans (by go_simp)
          clear hb2 m0 m1 q0 q1
          have z4 : SB < w2.heap.size := by omega
          have z5 : v1.heap.size < w2.heap.size := by omega
          go_upto_region 15 with fail
          obtain ⟨w3, hw3⟩ : ∃ x, x = w2.alloc (.cells #[.int .i64 X', .int .i64 Y'] 40) := ⟨_, rfl⟩
          rw [← hw3]
          have I3 : Hid (ShInv w v1.heap.size SB s ys A C k k _ w3) := Lib.hid (by rw [hw3]; exact I2.out.alloc _)
          have r0 : w3.cell? ⟨w2.heap.size, 0, none⟩ = some (.int .i64 X') := by rw [hw3]; go_simp
          have r1 : w3.cell? ⟨w2.heap.size, 1, none⟩ = some (.int .i64 Y') := by rw [hw3]; go_simp
          have u0 : w3.cell? ⟨w1.heap.size, 0, none⟩ = some (.int .i64 P) := by rw [hw3]; go_simp
          have z6 : w2.heap.size < w3.heap.size := by rw [hw3]; simp
          clear hw3 p0 p1
          have m1 := I3.out.m1
          have hrow := I3.out.mm.rowAt
          obtain ⟨b1, o1, rfl, hb1, hcl⟩ := hrow.at_ (by omega)
          have hbm : b1 < v1.heap.size := I3.out.mn b1 rfl
          have hcap : ys.length ≤ C := hrow.2.1
          have c1 := hcl k hlt
          rw [HV.out] at c1
          have hlt' : (k : Int) < (ys.length : Int) := by omega
          have hk0 : (0 : Int) ≤ (k : Int) := by omega
          clear hrow hcl
          rcases HBR.out with ⟨rfl, rfl⟩ | ⟨e1, e2, e3⟩
          all_goals
            go_quiet (fail)
            go_upto_region 17 with fail
            obtain ⟨w4, hw4⟩ : ∃ x, x = w3.drewN nq := ⟨_, rfl⟩
            rw [← hw4]
            have I4 : Hid (ShInv w v1.heap.size SB s ys (some ⟨b1, o1, none⟩) C k k _ w4) := Lib.hid (by rw [hw4]; exact I3.out.drewN nq)
            replace r0 : w4.cell? ⟨w2.heap.size, 0, none⟩ = some (.int .i64 X') := by rw [hw4]; exact r0
            replace r1 : w4.cell? ⟨w2.heap.size, 1, none⟩ = some (.int .i64 Y') := by rw [hw4]; exact r1
            clear hw4 m1 u0 c1
            have I5 := Lib.hid I4.out.store
            rw [EX.out, EY.out] at I5
            have q0 := I4.out.s0
            have q1 := I4.out.s1
            have f0 := I4.out.f0
            have f1 := I4.out.f1
            go_upto_region 18 with fail
            revert I5
            generalize (w4.setCell ⟨SB, 0, none⟩ (.int .i64 X')).setCell ⟨SB, 1, none⟩ (.int .i64 Y') = w5
            intro I5
            clear q0 q1 f0 f1 r0 r1
            have m1 := I5.out.m1
            have c1 := row_cell I5.out.mm.rowAt hlt
            rw [HV.out] at c1
          · go_wp2_with fail
            go_roundw
            case rel => exact ⟨k + 1, by omega, by go_num, I5.out.skip (focal_no HV.out)⟩
            case measure => simp [intOf]; omega
          · have hfl := focal_len ys k
            have HFY := Lib.hid (focal_yes (zs := ys) (k := k) (by rw [HV.out]; exact fun h => by rw [h] at e1; simp at e1))
            go_wp2_with (at_builtin; refine wpList_append_own _ rfl _ _ 23 rfl (SB + 1) 3 i0 (.int .i64 0) 1 8 Try.underlying23 hi hz0 hz1 hz2 rfl (by decide) _ _ _ rfl (I5.out.ls.1.alloc _) ⟨w5.heap.size, 0, none⟩ 1 1 [.int .i64 (k : Int)] rfl rfl ?c1 ?c2 ?c3 ?c4 ?c5 ?_)
            case c1 =>
              intro j u hj
              match j, hj with
              | 0, hj => simp at hj; subst hj; simp [Addr.add]
            case c2 => intro u hu; simp at hu; subst hu; rfl
            case c3 => unfold maxLen; omega
            case c4 => omega
            case c5 => have := I5.out.sz; simp; omega
            intro v' w6 hown' hgrow _
            have HO6 : Own w6 (SB + 1) v' (focal ys (k + 1)) := ⟨by rw [HFY.out]; simpa using hown', focal_fits (by omega)⟩
            have I6 := Lib.hid ((I5.out.alloc (.cells #[.int .i64 (k : Int)] 3)).push HO6 hgrow)
            clear hown' hgrow HO6 m1 c1
            go_wp2
            go_roundw
            case rel => exact ⟨k + 1, by omega, by go_num, I6.out⟩
            case measure => simp [intOf]; omega
        · obtain rfl : k = ys.length := by omega
          obtain ⟨LA, LC, rfl, _, _⟩ := hI.ls.form
          rw [HEND.out.1] at q0
          rw [HEND.out.2] at q1
          have M2 := Lib.hid hI.mm
          have OL := Lib.hid hI.ls
          have HB2 := Lib.hid hI.bel
          have hmb : v1.heap.size < wr.heap.size := by omega
          clear hI HB M LM HADD HGE HZ HST HEND HSH
          generalize focal ys ys.length = F at *
          have hkk : ¬ (ys.length : Int) < (ys.length : Int) := by omega
          go_wp2_with fail
          have H0 : Hid (Below wr.heap.size wr wr.drew) := Lib.hid (Below.refl _ _).drew
          have M2_0 := Lib.hid M2.out.drew
          have OL_0 := Lib.hid OL.out.drew
          go_region_held3 (fun w' => w'.cell? ⟨v1.heap.size, 0, none⟩ = some (.int .i64 s) ∧ w'.cell? ⟨v1.heap.size, 1, none⟩ = some (.slice A ys.length C) ∧ w'.cell? ⟨SB, 0, none⟩ = some (.int .i64 1) ∧ w'.cell? ⟨SB, 1, none⟩ = some (.int .i64 1))
            (first
              | with_reducible exact ⟨m0_1, m1_1, q0_1, q1_1⟩
              | with_reducible exact ⟨m0_2, m1_2, q0_2, q1_2⟩
              | with_reducible exact ⟨m0_3, m1_3, q0_3, q1_3⟩
              | with_reducible exact ⟨m0_4, m1_4, q0_4, q1_4⟩
              | with_reducible exact ⟨m0_5, m1_5, q0_5, q1_5⟩
              | with_reducible exact ⟨m0_6, m1_6, q0_6, q1_6⟩
              | exact ⟨m0, m1, q0, q1⟩)
            (first
              | (go_at_call 16; ((with_reducible refine (HCI.out _ _ _ _ (M2_0.out).rowAt).mono ?_)); rintro e v21 ⟨A2, C2, rfl, ho, hb⟩; have H1 := Lib.hid (nodrewG hb); have m0_1 : v21.cell? ⟨v1.heap.size, 0, none⟩ = some (.int .i64 s) := (H1.out.cell (by show v1.heap.size < _; omega)).trans m0; have m1_1 : v21.cell? ⟨v1.heap.size, 1, none⟩ = some (.slice A ys.length C) := (H1.out.cell (by show v1.heap.size < _; omega)).trans m1; have q0_1 : v21.cell? ⟨SB, 0, none⟩ = some (.int .i64 1) := (H1.out.cell (by show SB < _; omega)).trans q0; have q1_1 : v21.cell? ⟨SB, 1, none⟩ = some (.int .i64 1) := (H1.out.cell (by show SB < _; omega)).trans q1; have M2_1 := Lib.hid (M2_0.out.below hb (fun g hg => (M2_0.out.lt g hg).2)); have OL_1 := Lib.hid (OL_0.out.below hb (fun g hg => (OL_0.out.lt g hg).2)); have O2_1 := Lib.hid ho; clear ho; clear hb)
              | (go_at_call 29; ((with_reducible refine (bel_drew (weSame_c A2 LA F.length C2 LC F _ (O2_1.out).rowAt (OL_1.out).rowAt)).mono ?_)); rintro e v22 ⟨rfl, hb⟩; have H2 := Lib.hid (H1.out.trans (hb.mono H1.out.size)); have m0_2 : v22.cell? ⟨v1.heap.size, 0, none⟩ = some (.int .i64 s) := (H2.out.cell (by show v1.heap.size < _; omega)).trans m0; have m1_2 : v22.cell? ⟨v1.heap.size, 1, none⟩ = some (.slice A ys.length C) := (H2.out.cell (by show v1.heap.size < _; omega)).trans m1; have q0_2 : v22.cell? ⟨SB, 0, none⟩ = some (.int .i64 1) := (H2.out.cell (by show SB < _; omega)).trans q0; have q1_2 : v22.cell? ⟨SB, 1, none⟩ = some (.int .i64 1) := (H2.out.cell (by show SB < _; omega)).trans q1; have M2_2 := Lib.hid (M2_1.out.below hb (fun g hg => (M2_1.out.lt g hg).2)); have OL_2 := Lib.hid (OL_1.out.below hb (fun g hg => (OL_1.out.lt g hg).2)); have O2_2 := Lib.hid (O2_1.out.below hb (fun g hg => (O2_1.out.lt g hg).2)); clear hb)
              | (go_at_call 30; ((with_reducible refine (HCS.out _ _ _ _ (M2_2.out).rowAt).mono ?_)); rintro e v23 ⟨A3, C3, rfl, ho, hb⟩; have H3 := Lib.hid (H2.out.trans (hb.mono H2.out.size)); have m0_3 : v23.cell? ⟨v1.heap.size, 0, none⟩ = some (.int .i64 s) := (H3.out.cell (by show v1.heap.size < _; omega)).trans m0; have m1_3 : v23.cell? ⟨v1.heap.size, 1, none⟩ = some (.slice A ys.length C) := (H3.out.cell (by show v1.heap.size < _; omega)).trans m1; have q0_3 : v23.cell? ⟨SB, 0, none⟩ = some (.int .i64 1) := (H3.out.cell (by show SB < _; omega)).trans q0; have q1_3 : v23.cell? ⟨SB, 1, none⟩ = some (.int .i64 1) := (H3.out.cell (by show SB < _; omega)).trans q1; have M2_3 := Lib.hid (M2_2.out.below hb (fun g hg => (M2_2.out.lt g hg).2)); have OL_3 := Lib.hid (OL_2.out.below hb (fun g hg => (OL_2.out.lt g hg).2)); have O2_3 := Lib.hid (O2_2.out.below hb (fun g hg => (O2_2.out.lt g hg).2)); have O3_3 := Lib.hid ho; clear ho; clear hb)
              | (go_at_call 29; ((with_reducible refine (bel_drew (weSame_c LA A3 F.length LC C3 F _ (OL_3.out).rowAt (O3_3.out).rowAt)).mono ?_)); rintro e v24 ⟨rfl, hb⟩; have H4 := Lib.hid (H3.out.trans (hb.mono H3.out.size)); have m0_4 : v24.cell? ⟨v1.heap.size, 0, none⟩ = some (.int .i64 s) := (H4.out.cell (by show v1.heap.size < _; omega)).trans m0; have m1_4 : v24.cell? ⟨v1.heap.size, 1, none⟩ = some (.slice A ys.length C) := (H4.out.cell (by show v1.heap.size < _; omega)).trans m1; have q0_4 : v24.cell? ⟨SB, 0, none⟩ = some (.int .i64 1) := (H4.out.cell (by show SB < _; omega)).trans q0; have q1_4 : v24.cell? ⟨SB, 1, none⟩ = some (.int .i64 1) := (H4.out.cell (by show SB < _; omega)).trans q1; have M2_4 := Lib.hid (M2_3.out.below hb (fun g hg => (M2_3.out.lt g hg).2)); have OL_4 := Lib.hid (OL_3.out.below hb (fun g hg => (OL_3.out.lt g hg).2)); have O2_4 := Lib.hid (O2_3.out.below hb (fun g hg => (O2_3.out.lt g hg).2)); have O3_4 := Lib.hid (O3_3.out.below hb (fun g hg => (O3_3.out.lt g hg).2)); clear hb)
              | (go_at_call 26; ((with_reducible refine (impl_WholeOf_c s _ _ _ ys _ (M2_4.out).rowAt).mono ?_)); rintro e v25 ⟨rfl, hb⟩; have H5 := Lib.hid (H4.out.trans (hb.mono H4.out.size)); have m0_5 : v25.cell? ⟨v1.heap.size, 0, none⟩ = some (.int .i64 s) := (H5.out.cell (by show v1.heap.size < _; omega)).trans m0; have m1_5 : v25.cell? ⟨v1.heap.size, 1, none⟩ = some (.slice A ys.length C) := (H5.out.cell (by show v1.heap.size < _; omega)).trans m1; have q0_5 : v25.cell? ⟨SB, 0, none⟩ = some (.int .i64 1) := (H5.out.cell (by show SB < _; omega)).trans q0; have q1_5 : v25.cell? ⟨SB, 1, none⟩ = some (.int .i64 1) := (H5.out.cell (by show SB < _; omega)).trans q1; have M2_5 := Lib.hid (M2_4.out.below hb (fun g hg => (M2_4.out.lt g hg).2)); have OL_5 := Lib.hid (OL_4.out.below hb (fun g hg => (OL_4.out.lt g hg).2)); have O2_5 := Lib.hid (O2_4.out.below hb (fun g hg => (O2_4.out.lt g hg).2)); have O3_5 := Lib.hid (O3_4.out.below hb (fun g hg => (O3_4.out.lt g hg).2)); clear hb)
              | (go_at_call 27; ((with_reducible refine (spec_WholeOf_c s _ _ _ ys _ (M2_5.out).rowAt).mono ?_)); rintro e v26 ⟨rfl, hb⟩; have H6 := Lib.hid (H5.out.trans (hb.mono H5.out.size)); have m0_6 : v26.cell? ⟨v1.heap.size, 0, none⟩ = some (.int .i64 s) := (H6.out.cell (by show v1.heap.size < _; omega)).trans m0; have m1_6 : v26.cell? ⟨v1.heap.size, 1, none⟩ = some (.slice A ys.length C) := (H6.out.cell (by show v1.heap.size < _; omega)).trans m1; have q0_6 : v26.cell? ⟨SB, 0, none⟩ = some (.int .i64 1) := (H6.out.cell (by show SB < _; omega)).trans q0; have q1_6 : v26.cell? ⟨SB, 1, none⟩ = some (.int .i64 1) := (H6.out.cell (by show SB < _; omega)).trans q1; have M2_6 := Lib.hid (M2_5.out.below hb (fun g hg => (M2_5.out.lt g hg).2)); have OL_6 := Lib.hid (OL_5.out.below hb (fun g hg => (OL_5.out.lt g hg).2)); have O2_6 := Lib.hid (O2_5.out.below hb (fun g hg => (O2_5.out.lt g hg).2)); have O3_6 := Lib.hid (O3_5.out.below hb (fun g hg => (O3_5.out.lt g hg).2)); clear hb))
          go_wp2_with fail
          go_ret
          exact ⟨rfl, HB2.out.trans (H6.out.mono HB2.out.size)⟩
  · have hn2 : 1048576 < (len0 : Int) := by omega
    go_enter Try.func5, Try.ntmps5
    go_wp2_with fail
    go_ret
    exact ⟨rfl, Below.refl _ _⟩

set_option maxRecDepth 100000 in
theorem lifted (os : Os) (started : os.Started) (H : Type) (enc : TypeId × Value → H) :
    ReturnsInHanded {} Try.checked os 5 .any (Rows.fnSharesSpec.pre6 enc Try.prog Try.f5 Rows.fnSharesRow.domain false) (Rows.fnSharesSpec.post enc Try.prog Try.f5 false true false false) := by
  refine returnsInHanded_of_change (C := Try.checked) own started (by kernel_rfl) Try.func5
    (ChangeSpec.witness6 (enc := enc) (C := Try.checked) false ⟨#[], #[.slice none 0 0], []⟩ 8 (by kernel_rfl) (by kernel_rfl) (by kernel_rfl) (by kernel_rfl)) ?_
  intro W base args ds gs before hval0 hW hcnd _
  have hval : ∀ (j : Nat) t v, Try.f5.params[j]? = some t → args[j]? = some v → Value.okWide Try.prog W .any base t v := hval0
  have hW' := hW
  obtain ⟨p, q, hA0, hV, rfl, hfz, hnd⟩ := hW
  have hA : DataW.TrodAll enc Try.prog W 0 (fun _ => true) true Try.f5.params.toList args.toList ds p := hA0
  rw [Try.params5] at hA hval
  obtain ⟨v0, vs0, d0, ds0, p0, q0, hargs, rfl, rfl, h0, r0⟩ := trodAll_cons hA
  obtain ⟨rfl, rfl, rfl⟩ := trodAll_nil r0
  obtain rfl : args = #[v0] := by cases args; simp_all
  obtain ⟨rfl, rfl⟩ := trodVars_none hV
  have k0 := h0
  have lt0 : ∀ x ∈ p0, x.block < W.heap.size := by obtain ⟨m, hm⟩ := k0; exact DataW.trod_lt m _ _ _ hm
  obtain ⟨a0, len0, cap0, z0, rfl, w0⟩ := get_row Try.underlying22 Try.underlying5 (by kernel_rfl) (hval 0 22 v0 rfl rfl) h0
  clear hA0 hval0
  refine (walk a0 len0 cap0 z0 W w0).mono fun e W' ⟨he, bel⟩ => ?_
  subst he
  exact ⟨_, rfl, _, _, _, [], _, [], hW', trodAll_mk1 (shut_bool Try.underlying4 _), (trodAll_cons_mk (Below.trod laidOut (by kernel_rfl) (of_decide_eq_true (by kernel_rfl)) k0 bel lt0) trodAll_mk0), rfl, bel.frame _, fun h => by cases h⟩

theorem closed : joinedFacts Try.prog 5 Try.f5 Rows.fnSharesSpec Rows.fnSharesRow = true := by
  rw [joinedFacts.eq_1]
  simp only [Bool.and_eq_true]
  repeat' apply And.intro
  all_goals first | (with_reducible exact fact_enter) | (with_reducible exact laidOut) | (with_reducible exact fact_maps) | (with_reducible exact fact_heard) | (rw [fact_lifts]; try (as_aux_lemma => kernel_rfl)) | (rw [fact_make]; try (as_aux_lemma => kernel_rfl)) | (rw [fact_keys]; try (as_aux_lemma => kernel_rfl)) | (as_aux_lemma => kernel_rfl)

theorem holds : Rows.FnSharesSaid :=
  OpenClaim.holds_of_wide 5 Try.f5 rfl rfl rfl rfl rfl rfl rfl ⟨rfl, rfl, rfl, rfl, rfl⟩ rfl rfl rfl rfl rfl (by kernel_rfl) Try.func5 closed
    (of_decide_eq_true (by kernel_rfl)) (by unfold Func.isWrapper; rw [if_neg (of_decide_eq_false (by kernel_rfl))]; exact ⟨rfl, rfl⟩)
    (fun os started H enc _ => lifted os started H enc)
#print axioms holds
end Go.Proofs.Ytemollfejgmlcaa.fnShares
