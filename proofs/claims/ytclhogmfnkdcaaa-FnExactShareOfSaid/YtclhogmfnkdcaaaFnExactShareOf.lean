/- FnExactShareOf: for every input that can be read, the law returns true and its arguments read afterwards as before. Conditions: none. -/
import Derived.Test.YtclhogmfnkdcaaaMem
import Derived.Test.YtclhogmfnkdcaaaSigns
import Derived.Test.YtclhogmfnkdcaaaPlainE
import Derived.Test.YtclhogmfnkdcaaaWm
import Derived.Test.YtclhogmfnkdcaaaMa
import Derived.Test.YtclhogmfnkdcaaaMb
import Derived.Test.YtclhogmfnkdcaaaMc
import Derived.Test.YtclhogmfnkdcaaaMh
import Derived.Test.YtclhogmfnkdcaaaMi
import Derived.Test.YtclhogmfnkdcaaaGl
import Derived.Test.YtclhogmfnkdcaaaWe
import Derived.Test.YtclhogmfnkdcaaaWf
import Derived.Test.YtclhogmfnkdcaaaMj
import Derived.Test.YtclhogmfnkdcaaaMk
import Derived.Deep.RegionWith
import Derived.Deep.DeepCutAuto
namespace Go.Proofs.Ytclhogmfnkdcaaa.fnExactShareOf
open Go.ChangeShapes Go.WideShapes Go.ChangeAt Go.RowKit
open Go.ChangeMaps (open_string shut_string)
set_option linter.unusedVariables false

set_option maxHeartbeats 4000000 in
theorem walk (s0 : Int) (a0 : Option Addr) (len0 cap0 : Nat) (z0 : List Int) (a1 : Int) (w : World) (ws0 : Fits s0) (w0 : IsRow .i64 w a0 len0 cap0 z0) (w1 : Fits a1) :
    Calls Try.prog 5 #[.agg #[.int .i64 s0, .slice a0 len0 cap0], .int .i64 a1] w fun e w' => e = .returned (.bool true) ∧ Below w.heap.size w w' := by
  obtain rfl : z0.length = len0 := w0.len
  have hmax0 : z0.length ≤ 9223372036854775807 := Nat.le_trans w0.2.1 w0.2.2.1
  have HW0 := Lib.hid w0
  have WHW0 := Lib.hid w0.lowAt
  clear w0
  by_cases hn : z0.length ≤ 1048576
  · have HE := Lib.hid (if_neg (by omega) : (if (1048576 : Int) < (z0.length : Int) then (-1 : Int) else 1048576 - z0.length) = 1048576 - z0.length)
    have hz : ¬ (1048576 - (z0.length : Int) < 0) := by omega
    have HCS := Lib.hid (fun a n c w (h : IsRow .i64 w a n c z0) => spec_ShareOf_c s0 a n c z0 a1 w h)
    have HCI := Lib.hid (fun a n c w (h : IsRow .i64 w a n c z0) => impl_ShareOf_c s0 a n c z0 a1 w h)
    generalize sel (shareB s0 z0 a1) (lowX (z0.getD a1.toNat 0) (whole z0)) = X at *
    generalize sel (shareB s0 z0 a1) (lowY (z0.getD a1.toNat 0) (whole z0)) = Y at *
    generalize shareB s0 z0 a1 = b at *
    have hbb : (b != b) = false := by simp
    have HB := Lib.hid (Below.refl w.heap.size w)
    go_enter Try.func5, Try.ntmps5
    go_wp2_with fail
    refine (szMass_c _ _ _ _ 1048576 (by omega) hmax0 _).mono ?_
    rintro e v1 ⟨rfl, hb⟩
    have hA : Below w.heap.size w v1 := Below.trans (by repeat (first | exact Below.refl _ _ | (refine Below.alloc ?_ (by first | (simp <;> omega) | omega) _) | (refine Below.setCell ?_ (by first | (simp <;> omega) | omega) _) | (refine Below.drew ?_) | (refine below_drewN ?_ _))) (hb.mono (by first | exact Nat.le_refl _ | (simp <;> omega) | omega))
    have hsv1 : w.heap.size + 1 ≤ v1.heap.size := by have := hb.size; first | (simp at this; omega) | omega
    have kx0 : v1.cell? ⟨w.heap.size, 0, none⟩ = some (.int .i64 s0) := (hb.cell (by show w.heap.size < _; first | (simp <;> omega) | omega)).trans (by go_simp)
    have kx1 : v1.cell? ⟨w.heap.size, 1, none⟩ = some (.slice a0 z0.length cap0) := (hb.cell (by show w.heap.size < _; first | (simp <;> omega) | omega)).trans (by go_simp)
    replace HW0 := Lib.hid (HW0.out.below hA)
    replace HB := Lib.hid (HB.out.trans (hA.mono HB.out.size))
    clear hb hA
    have z0v1 : w.heap.size < v1.heap.size := by omega
    rw [HE.out]
    go_wp2_with fail
    refine (toMass_c _ _ _ _ z0 hn _ HW0.out).mono ?_
    rintro e v2 ⟨A0, C0, rfl, ho, hb⟩
    have hA : Below v1.heap.size v1 v2 := Below.trans (by repeat (first | exact Below.refl _ _ | (refine Below.alloc ?_ (by first | (simp <;> omega) | omega) _) | (refine Below.setCell ?_ (by first | (simp <;> omega) | omega) _) | (refine Below.drew ?_) | (refine below_drewN ?_ _))) (hb.mono (by first | exact Nat.le_refl _ | (simp <;> omega) | omega))
    have hsv2 : v1.heap.size ≤ v2.heap.size := hA.size
    replace kx0 : v2.cell? ⟨w.heap.size, 0, none⟩ = some (.int .i64 s0) := (hA.cell (by show w.heap.size < _; omega)).trans kx0
    replace kx1 : v2.cell? ⟨w.heap.size, 1, none⟩ = some (.slice a0 z0.length cap0) := (hA.cell (by show w.heap.size < _; omega)).trans kx1
    replace HW0 := Lib.hid (HW0.out.below hA)
    replace HB := Lib.hid (HB.out.trans (hA.mono HB.out.size))
    have LOt : Hid (∀ g, (.slice A0 z0.length C0 : Value).ownBlock = some g → v1.heap.size + 0 ≤ g ∧ g < v2.heap.size) := Lib.hid (fun g hg => by have := ho.lt g hg; first | omega | (simp at this; omega) | (simp at this ⊢; omega))
    have Ot := Lib.hid ho
    clear hb hA ho
    have z0v2 : w.heap.size < v2.heap.size := by omega
    clear z0v1
    go_wp2_with fail
    refine (HCS.out _ _ _ _ Ot.out.rowAt).mono ?_
    rintro e v3 ⟨rfl, hb⟩
    have hA : Below v2.heap.size v2 v3 := Below.trans (by repeat (first | exact Below.refl _ _ | (refine Below.alloc ?_ (by first | (simp <;> omega) | omega) _) | (refine Below.setCell ?_ (by first | (simp <;> omega) | omega) _) | (refine Below.drew ?_) | (refine below_drewN ?_ _))) (hb.mono (by first | exact Nat.le_refl _ | (simp <;> omega) | omega))
    have hsv3 : v2.heap.size ≤ v3.heap.size := hA.size
    replace kx0 : v3.cell? ⟨w.heap.size, 0, none⟩ = some (.int .i64 s0) := (hA.cell (by show w.heap.size < _; omega)).trans kx0
    replace kx1 : v3.cell? ⟨w.heap.size, 1, none⟩ = some (.slice a0 z0.length cap0) := (hA.cell (by show w.heap.size < _; omega)).trans kx1
    replace HW0 := Lib.hid (HW0.out.below hA)
    replace Ot := Lib.hid (Ot.out.below hA (fun g hg => (Ot.out.lt g hg).2))
    replace HB := Lib.hid (HB.out.trans (hA.mono HB.out.size))
    clear hb hA
    have z0v3 : w.heap.size < v3.heap.size := by omega
    clear z0v2
    clear Ot
    go_wp2_with fail
    refine (toMass_c _ _ _ _ z0 hn _ (HW0.out.alloc _)).mono ?_
    rintro e v4 ⟨A2, C2, rfl, ho, hb⟩
    have hA : Below v3.heap.size v3 v4 := Below.trans (by repeat (first | exact Below.refl _ _ | (refine Below.alloc ?_ (by first | (simp <;> omega) | omega) _) | (refine Below.setCell ?_ (by first | (simp <;> omega) | omega) _) | (refine Below.drew ?_) | (refine below_drewN ?_ _))) (hb.mono (by first | exact Nat.le_refl _ | (simp <;> omega) | omega))
    have hsv4 : v3.heap.size + 1 ≤ v4.heap.size := by have := hb.size; first | (simp at this; omega) | omega
    replace kx0 : v4.cell? ⟨w.heap.size, 0, none⟩ = some (.int .i64 s0) := (hA.cell (by show w.heap.size < _; omega)).trans kx0
    replace kx1 : v4.cell? ⟨w.heap.size, 1, none⟩ = some (.slice a0 z0.length cap0) := (hA.cell (by show w.heap.size < _; omega)).trans kx1
    have kw0 : v4.cell? ⟨v3.heap.size, 0, none⟩ = some (.int .i64 X) := (hb.cell (by show v3.heap.size < _; first | (simp <;> omega) | omega)).trans (by go_simp)
    have kw1 : v4.cell? ⟨v3.heap.size, 1, none⟩ = some (.int .i64 Y) := (hb.cell (by show v3.heap.size < _; first | (simp <;> omega) | omega)).trans (by go_simp)
    replace HW0 := Lib.hid (HW0.out.below hA)
    replace HB := Lib.hid (HB.out.trans (hA.mono HB.out.size))
    have LOx : Hid (∀ g, (.slice A2 z0.length C2 : Value).ownBlock = some g → v3.heap.size + 1 ≤ g ∧ g < v4.heap.size) := Lib.hid (fun g hg => by have := ho.lt g hg; first | omega | (simp at this; omega) | (simp at this ⊢; omega))
    have Ox := Lib.hid ho
    clear hb hA ho
    have z0v4 : w.heap.size < v4.heap.size := by omega
    have z1v4 : v3.heap.size < v4.heap.size := by omega
    clear z0v3
    go_wp2_with fail
    refine (HCI.out _ _ _ _ (Ox.out.rowAt.alloc _)).mono ?_
    rintro e v5 ⟨rfl, hb⟩
    have hA : Below v4.heap.size v4 v5 := Below.trans (by repeat (first | exact Below.refl _ _ | (refine Below.alloc ?_ (by first | (simp <;> omega) | omega) _) | (refine Below.setCell ?_ (by first | (simp <;> omega) | omega) _) | (refine Below.drew ?_) | (refine below_drewN ?_ _))) (hb.mono (by first | exact Nat.le_refl _ | (simp <;> omega) | omega))
    have hsv5 : v4.heap.size + 1 ≤ v5.heap.size := by have := hb.size; first | (simp at this; omega) | omega
    replace kx0 : v5.cell? ⟨w.heap.size, 0, none⟩ = some (.int .i64 s0) := (hA.cell (by show w.heap.size < _; omega)).trans kx0
    replace kx1 : v5.cell? ⟨w.heap.size, 1, none⟩ = some (.slice a0 z0.length cap0) := (hA.cell (by show w.heap.size < _; omega)).trans kx1
    replace kw0 : v5.cell? ⟨v3.heap.size, 0, none⟩ = some (.int .i64 X) := (hA.cell (by show v3.heap.size < _; omega)).trans kw0
    replace kw1 : v5.cell? ⟨v3.heap.size, 1, none⟩ = some (.int .i64 Y) := (hA.cell (by show v3.heap.size < _; omega)).trans kw1
    have kb0 : v5.cell? ⟨v4.heap.size, 0, none⟩ = some (.int .i64 s0) := (hb.cell (by show v4.heap.size < _; first | (simp <;> omega) | omega)).trans (by go_simp)
    have kb1 : v5.cell? ⟨v4.heap.size, 1, none⟩ = some (.slice A2 z0.length C2) := (hb.cell (by show v4.heap.size < _; first | (simp <;> omega) | omega)).trans (by go_simp)
    replace HW0 := Lib.hid (HW0.out.below hA)
    replace Ox := Lib.hid (Ox.out.below hA (fun g hg => (Ox.out.lt g hg).2))
    replace HB := Lib.hid (HB.out.trans (hA.mono HB.out.size))
    clear hb hA
    have z0v5 : w.heap.size < v5.heap.size := by omega
    have z1v5 : v3.heap.size < v5.heap.size := by omega
    have z2v5 : v4.heap.size < v5.heap.size := by omega
    clear z0v4 z1v4
    go_wp2_with fail
    refine (eqFraction_c _ _ _).mono ?_
    rintro e v6 ⟨rfl, hb⟩
    have hA : Below v5.heap.size v5 v6 := Below.trans (by repeat (first | exact Below.refl _ _ | (refine Below.alloc ?_ (by first | (simp <;> omega) | omega) _) | (refine Below.setCell ?_ (by first | (simp <;> omega) | omega) _) | (refine Below.drew ?_) | (refine below_drewN ?_ _))) (hb.mono (by first | exact Nat.le_refl _ | (simp <;> omega) | omega))
    have hsv6 : v5.heap.size + 1 ≤ v6.heap.size := by have := hb.size; first | (simp at this; omega) | omega
    replace kx0 : v6.cell? ⟨w.heap.size, 0, none⟩ = some (.int .i64 s0) := (hA.cell (by show w.heap.size < _; omega)).trans kx0
    replace kx1 : v6.cell? ⟨w.heap.size, 1, none⟩ = some (.slice a0 z0.length cap0) := (hA.cell (by show w.heap.size < _; omega)).trans kx1
    replace kw0 : v6.cell? ⟨v3.heap.size, 0, none⟩ = some (.int .i64 X) := (hA.cell (by show v3.heap.size < _; omega)).trans kw0
    replace kw1 : v6.cell? ⟨v3.heap.size, 1, none⟩ = some (.int .i64 Y) := (hA.cell (by show v3.heap.size < _; omega)).trans kw1
    replace kb0 : v6.cell? ⟨v4.heap.size, 0, none⟩ = some (.int .i64 s0) := (hA.cell (by show v4.heap.size < _; omega)).trans kb0
    replace kb1 : v6.cell? ⟨v4.heap.size, 1, none⟩ = some (.slice A2 z0.length C2) := (hA.cell (by show v4.heap.size < _; omega)).trans kb1
    have kg0 : v6.cell? ⟨v5.heap.size, 0, none⟩ = some (.int .i64 X) := (hb.cell (by show v5.heap.size < _; first | (simp <;> omega) | omega)).trans (by go_simp)
    have kg1 : v6.cell? ⟨v5.heap.size, 1, none⟩ = some (.int .i64 Y) := (hb.cell (by show v5.heap.size < _; first | (simp <;> omega) | omega)).trans (by go_simp)
    replace HW0 := Lib.hid (HW0.out.below hA)
    replace Ox := Lib.hid (Ox.out.below hA (fun g hg => (Ox.out.lt g hg).2))
    replace HB := Lib.hid (HB.out.trans (hA.mono HB.out.size))
    clear hb hA
    have z0v6 : w.heap.size < v6.heap.size := by omega
    have z1v6 : v3.heap.size < v6.heap.size := by omega
    have z2v6 : v4.heap.size < v6.heap.size := by omega
    have z3v6 : v5.heap.size < v6.heap.size := by omega
    clear z0v5 z1v5 z2v5
    go_upto_region 10 with fail
    have HWd := Lib.hid HW0.out.drew
    have Z0 : v6.heap.size ≤ v6.heap.size := Nat.le_refl _
    go_cut [44] (fun q0 wx => q0 = .bool false ∧ Below v6.heap.size v6 wx)
    case first =>
      have H0 : Hid (Below v6.heap.size v6 v6.drew) := Lib.hid (Below.refl _ _).drew
      go_region_with (first
        | (go_at_call 30; refine (toMass_c _ _ _ _ z0 hn _ HWd.out).mono ?_; rintro e t1 ⟨At, Ct, rfl, ho, hb⟩; have H1 := Lib.hid (H0.out.trans (hb.mono H0.out.size)); have kx0_ : t1.cell? ⟨w.heap.size, 0, none⟩ = some (.int .i64 s0) := (H1.out.cell (by show w.heap.size < _; omega)).trans kx0; have kx1_ : t1.cell? ⟨w.heap.size, 1, none⟩ = some (.slice a0 z0.length cap0) := (H1.out.cell (by show w.heap.size < _; omega)).trans kx1; have kw0_ : t1.cell? ⟨v3.heap.size, 0, none⟩ = some (.int .i64 X) := (H1.out.cell (by show v3.heap.size < _; omega)).trans kw0; have kw1_ : t1.cell? ⟨v3.heap.size, 1, none⟩ = some (.int .i64 Y) := (H1.out.cell (by show v3.heap.size < _; omega)).trans kw1; have kb0_ : t1.cell? ⟨v4.heap.size, 0, none⟩ = some (.int .i64 s0) := (H1.out.cell (by show v4.heap.size < _; omega)).trans kb0; have kb1_ : t1.cell? ⟨v4.heap.size, 1, none⟩ = some (.slice A2 z0.length C2) := (H1.out.cell (by show v4.heap.size < _; omega)).trans kb1; have kg0_ : t1.cell? ⟨v5.heap.size, 0, none⟩ = some (.int .i64 X) := (H1.out.cell (by show v5.heap.size < _; omega)).trans kg0; have kg1_ : t1.cell? ⟨v5.heap.size, 1, none⟩ = some (.int .i64 Y) := (H1.out.cell (by show v5.heap.size < _; omega)).trans kg1; have Ot := Lib.hid ho; clear ho; clear hb)
        | (go_at_call 23; refine (eqMass_c _ _ _ _ _ _ z0 _ (Ox.out.below H1.out (fun g hg => (Ox.out.lt g hg).2)).rowAt Ot.out.rowAt).mono ?_; rintro e t2 ⟨rfl, hb⟩; have H2 := Lib.hid (H1.out.trans (hb.mono H1.out.size)); have kx0_ : t2.cell? ⟨w.heap.size, 0, none⟩ = some (.int .i64 s0) := (H2.out.cell (by show w.heap.size < _; omega)).trans kx0; have kx1_ : t2.cell? ⟨w.heap.size, 1, none⟩ = some (.slice a0 z0.length cap0) := (H2.out.cell (by show w.heap.size < _; omega)).trans kx1; have kw0_ : t2.cell? ⟨v3.heap.size, 0, none⟩ = some (.int .i64 X) := (H2.out.cell (by show v3.heap.size < _; omega)).trans kw0; have kw1_ : t2.cell? ⟨v3.heap.size, 1, none⟩ = some (.int .i64 Y) := (H2.out.cell (by show v3.heap.size < _; omega)).trans kw1; have kb0_ : t2.cell? ⟨v4.heap.size, 0, none⟩ = some (.int .i64 s0) := (H2.out.cell (by show v4.heap.size < _; omega)).trans kb0; have kb1_ : t2.cell? ⟨v4.heap.size, 1, none⟩ = some (.slice A2 z0.length C2) := (H2.out.cell (by show v4.heap.size < _; omega)).trans kb1; have kg0_ : t2.cell? ⟨v5.heap.size, 0, none⟩ = some (.int .i64 X) := (H2.out.cell (by show v5.heap.size < _; omega)).trans kg0; have kg1_ : t2.cell? ⟨v5.heap.size, 1, none⟩ = some (.int .i64 Y) := (H2.out.cell (by show v5.heap.size < _; omega)).trans kg1; clear hb))
      all_goals
        go_wp2_with fail
        go_meet
        exact ⟨rfl, H2.out⟩
    case rest =>
      obtain ⟨rfl, hA⟩ := hcut
      obtain ⟨v7, hv⟩ : ∃ v, v = wc := ⟨_, rfl⟩
      subst hv
      have hsv7 : v6.heap.size ≤ v7.heap.size := hA.size
      replace kx0 : v7.cell? ⟨w.heap.size, 0, none⟩ = some (.int .i64 s0) := (hA.cell (by show w.heap.size < _; omega)).trans kx0
      replace kx1 : v7.cell? ⟨w.heap.size, 1, none⟩ = some (.slice a0 z0.length cap0) := (hA.cell (by show w.heap.size < _; omega)).trans kx1
      replace kw0 : v7.cell? ⟨v3.heap.size, 0, none⟩ = some (.int .i64 X) := (hA.cell (by show v3.heap.size < _; omega)).trans kw0
      replace kw1 : v7.cell? ⟨v3.heap.size, 1, none⟩ = some (.int .i64 Y) := (hA.cell (by show v3.heap.size < _; omega)).trans kw1
      replace kb0 : v7.cell? ⟨v4.heap.size, 0, none⟩ = some (.int .i64 s0) := (hA.cell (by show v4.heap.size < _; omega)).trans kb0
      replace kb1 : v7.cell? ⟨v4.heap.size, 1, none⟩ = some (.slice A2 z0.length C2) := (hA.cell (by show v4.heap.size < _; omega)).trans kb1
      replace kg0 : v7.cell? ⟨v5.heap.size, 0, none⟩ = some (.int .i64 X) := (hA.cell (by show v5.heap.size < _; omega)).trans kg0
      replace kg1 : v7.cell? ⟨v5.heap.size, 1, none⟩ = some (.int .i64 Y) := (hA.cell (by show v5.heap.size < _; omega)).trans kg1
      replace HW0 := Lib.hid (HW0.out.below hA)
      replace Ox := Lib.hid (Ox.out.below hA (fun g hg => (Ox.out.lt g hg).2))
      replace HB := Lib.hid (HB.out.trans (hA.mono HB.out.size))
      clear hA Z0
      have z0v7 : w.heap.size < v7.heap.size := by omega
      have z1v7 : v3.heap.size < v7.heap.size := by omega
      have z2v7 : v4.heap.size < v7.heap.size := by omega
      have z3v7 : v5.heap.size < v7.heap.size := by omega
      clear z0v6 z1v6 z2v6 z3v6
      go_wp2_with fail
      go_ret
      exact ⟨rfl, HB.out⟩
  · have HE := Lib.hid (if_pos (by omega) : (if (1048576 : Int) < (z0.length : Int) then (-1 : Int) else 1048576 - z0.length) = -1)
    go_enter Try.func5, Try.ntmps5
    go_wp2_with fail
    refine (szMass_c _ _ _ _ 1048576 (by omega) hmax0 _).mono ?_
    rintro e v1 ⟨rfl, hb⟩
    rw [HE.out]
    have HB1 := Lib.hid (((Below.refl w.heap.size w).alloc (Nat.le_refl _) _).trans (hb.mono (by simp)))
    clear hb
    go_wp2_with fail
    go_ret
    exact ⟨rfl, HB1.out⟩

set_option maxRecDepth 100000 in
theorem lifted (os : Os) (started : os.Started) (H : Type) (enc : TypeId × Value → H) :
    ReturnsInHanded {} Try.checked os 5 .any (Rows.fnExactShareOfSpec.pre6 enc Try.prog Try.f5 Rows.fnExactShareOfRow.domain false) (Rows.fnExactShareOfSpec.post enc Try.prog Try.f5 false true false false) := by
  refine returnsInHanded_of_change (C := Try.checked) own started (by kernel_rfl) Try.func5
    (ChangeSpec.witness6 (enc := enc) (C := Try.checked) false ⟨#[], #[.agg #[.int .i64 0, .slice none 0 0], .int .i64 0], []⟩ 8 (by kernel_rfl) (by kernel_rfl) (by kernel_rfl) (by kernel_rfl)) ?_
  intro W base args ds gs before hval0 hW hcnd _
  have hval : ∀ (j : Nat) t v, Try.f5.params[j]? = some t → args[j]? = some v → Value.okWide Try.prog W .any base t v := hval0
  have hW' := hW
  obtain ⟨p, q, hA0, hV, rfl, hfz, hnd⟩ := hW
  have hA : DataW.TrodAll enc Try.prog W 0 (fun _ => true) true Try.f5.params.toList args.toList ds p := hA0
  rw [Try.params5] at hA hval
  obtain ⟨v0, vs0, d0, ds0, p0, q0, hargs, rfl, rfl, h0, r0⟩ := trodAll_cons hA
  obtain ⟨v1, vs1, d1, ds1, p1, q1, rfl, rfl, rfl, h1, r1⟩ := trodAll_cons r0
  obtain ⟨rfl, rfl, rfl⟩ := trodAll_nil r1
  obtain rfl : args = #[v0, v1] := by cases args; simp_all
  obtain ⟨rfl, rfl⟩ := trodVars_none hV
  have k0 := h0
  have lt0 : ∀ x ∈ p0, x.block < W.heap.size := by obtain ⟨m, hm⟩ := k0; exact DataW.trod_lt m _ _ _ hm
  obtain ⟨s0, a0, len0, cap0, z0, rfl, ws0, w0⟩ := get_mass Try.underlying44 (by kernel_rfl) (by kernel_rfl) Try.underlying3 Try.underlying23 (by kernel_rfl) (hval 0 44 v0 rfl rfl) h0
  have k1 := h1
  have lt1 : ∀ x ∈ p1, x.block < W.heap.size := by obtain ⟨m, hm⟩ := k1; exact DataW.trod_lt m _ _ _ hm
  obtain ⟨a1, rfl, w1⟩ := get_int Try.underlying3 (hval 1 3 v1 rfl rfl) h1
  clear hA0 hval0
  refine (walk s0 a0 len0 cap0 z0 a1 W ws0 w0 w1).mono fun e W' ⟨he, bel⟩ => ?_
  subst he
  exact ⟨_, rfl, _, _, _, [], _, [], hW', trodAll_mk1 (shut_bool Try.underlying4 _), (trodAll_cons_mk (Below.trod laidOut (by kernel_rfl) (of_decide_eq_true (by kernel_rfl)) k0 bel lt0) (trodAll_cons_mk (Below.trod laidOut (by kernel_rfl) (of_decide_eq_true (by kernel_rfl)) k1 bel lt1) trodAll_mk0)), rfl, bel.frame _, fun h => by cases h⟩

theorem closed : joinedFacts Try.prog 5 Try.f5 Rows.fnExactShareOfSpec Rows.fnExactShareOfRow = true := by
  rw [joinedFacts.eq_1]
  simp only [Bool.and_eq_true]
  repeat' apply And.intro
  all_goals first | (with_reducible exact fact_enter) | (with_reducible exact laidOut) | (with_reducible exact fact_maps) | (with_reducible exact fact_heard) | (rw [fact_lifts]; try (as_aux_lemma => kernel_rfl)) | (rw [fact_make]; try (as_aux_lemma => kernel_rfl)) | (rw [fact_keys]; try (as_aux_lemma => kernel_rfl)) | (as_aux_lemma => kernel_rfl)

theorem holds : Rows.FnExactShareOfSaid :=
  OpenClaim.holds_of_wide 5 Try.f5 rfl rfl rfl rfl rfl rfl rfl ⟨rfl, rfl, rfl, rfl, rfl⟩ rfl rfl rfl rfl rfl (by kernel_rfl) Try.func5 closed
    (of_decide_eq_true (by kernel_rfl)) (by unfold Func.isWrapper; rw [if_neg (of_decide_eq_false (by kernel_rfl))]; exact ⟨rfl, rfl⟩)
    (fun os started H enc _ => lifted os started H enc)
#print axioms holds
end Go.Proofs.Ytclhogmfnkdcaaa.fnExactShareOf
