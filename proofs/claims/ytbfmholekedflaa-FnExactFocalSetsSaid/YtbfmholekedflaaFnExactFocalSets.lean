/- FnExactFocalSets: for every input that can be read, the law returns true and its arguments read afterwards as before. Conditions: none. -/
import Derived.Test.YtbfmholekedflaaMem
import Derived.Test.YtbfmholekedflaaSigns
import Derived.Test.YtbfmholekedflaaPlainE
import Derived.Test.YtbfmholekedflaaWm
import Derived.Test.YtbfmholekedflaaMa
import Derived.Test.YtbfmholekedflaaMb
import Derived.Test.YtbfmholekedflaaMc
import Derived.Test.YtbfmholekedflaaMd
import Derived.Test.YtbfmholekedflaaMe
import Derived.Test.YtbfmholekedflaaGl
import Derived.Deep.RegionWith
import Derived.Deep.DeepCutAuto
namespace Go.Proofs.Ytbfmholekedflaa.fnExactFocalSets
open Go.ChangeShapes Go.WideShapes Go.ChangeAt Go.RowKit
open Go.ChangeMaps (open_string shut_string)
set_option linter.unusedVariables false

set_option maxHeartbeats 4000000 in
theorem walk (s0 : Int) (a0 : Option Addr) (len0 cap0 : Nat) (z0 : List Int) (w : World) (ws0 : Fits s0) (w0 : IsRow .i64 w a0 len0 cap0 z0) :
    Calls Try.prog 10 #[.agg #[.int .i64 s0, .slice a0 len0 cap0]] w fun e w' => e = .returned (.bool true) ∧ Below w.heap.size w w' := by
  obtain rfl : z0.length = len0 := w0.len
  have hmax : z0.length ≤ 9223372036854775807 := Nat.le_trans w0.2.1 w0.2.2.1
  have HW := Lib.hid w0
  have WHW := Lib.hid w0.lowAt
  clear w0
  by_cases hn : z0.length ≤ 1048576
  · have HE := Lib.hid (if_neg (by omega) : (if (1048576 : Int) < (z0.length : Int) then (-1 : Int) else 1048576 - z0.length) = 1048576 - z0.length)
    have hz : ¬ (1048576 - (z0.length : Int) < 0) := by omega
    have hlen : (focalI s0 z0).length ≤ 16 := by
      unfold focalI
      split
      · rename_i hm
        exact Nat.le_trans (focal_len _ _) (massB_len hm).2
      · simp
    have HCS := Lib.hid (fun a n c w (h : IsRow .i64 w a n c z0) => ret_own (spec_FocalSets_c s0 a n c z0 w h))
    have HCI := Lib.hid (fun a n c w (h : IsRow .i64 w a n c z0) => ret_own (impl_FocalSets_c s0 a n c z0 w h))
    generalize focalI s0 z0 = F at *
    have HB := Lib.hid (Below.refl w.heap.size w)
    go_enter Try.func10, Try.ntmps10
    go_wp2_with fail
    refine (szMass_c _ _ _ _ 1048576 (by omega) hmax _).mono ?_
    rintro e v1 ⟨rfl, hb⟩
    have hA : Below w.heap.size w v1 := Below.trans (by repeat (first | exact Below.refl _ _ | (refine Below.alloc ?_ (by first | (simp <;> omega) | omega) _) | (refine Below.setCell ?_ (by first | (simp <;> omega) | omega) _) | (refine Below.drew ?_) | (refine below_drewN ?_ _))) (hb.mono (by first | exact Nat.le_refl _ | (simp <;> omega) | omega))
    have hsv1 : w.heap.size + 1 ≤ v1.heap.size := by have := hb.size; first | (simp at this; omega) | omega
    have kx0 : v1.cell? ⟨w.heap.size, 0, none⟩ = some (.int .i64 s0) := (hb.cell (by show w.heap.size < _; first | (simp <;> omega) | omega)).trans (by go_simp)
    have kx1 : v1.cell? ⟨w.heap.size, 1, none⟩ = some (.slice a0 z0.length cap0) := (hb.cell (by show w.heap.size < _; first | (simp <;> omega) | omega)).trans (by go_simp)
    replace HW := Lib.hid (HW.out.below hA)
    replace HB := Lib.hid (HB.out.trans (hA.mono HB.out.size))
    clear hb hA
    have z0v1 : w.heap.size < v1.heap.size := by omega
    rw [HE.out]
    go_wp2_with fail
    refine (toMass_c _ _ _ _ z0 hn _ HW.out).mono ?_
    rintro e v2 ⟨A0, C0, rfl, ho, hb⟩
    have hA : Below v1.heap.size v1 v2 := Below.trans (by repeat (first | exact Below.refl _ _ | (refine Below.alloc ?_ (by first | (simp <;> omega) | omega) _) | (refine Below.setCell ?_ (by first | (simp <;> omega) | omega) _) | (refine Below.drew ?_) | (refine below_drewN ?_ _))) (hb.mono (by first | exact Nat.le_refl _ | (simp <;> omega) | omega))
    have hsv2 : v1.heap.size ≤ v2.heap.size := hA.size
    replace kx0 : v2.cell? ⟨w.heap.size, 0, none⟩ = some (.int .i64 s0) := (hA.cell (by show w.heap.size < _; omega)).trans kx0
    replace kx1 : v2.cell? ⟨w.heap.size, 1, none⟩ = some (.slice a0 z0.length cap0) := (hA.cell (by show w.heap.size < _; omega)).trans kx1
    replace HW := Lib.hid (HW.out.below hA)
    replace HB := Lib.hid (HB.out.trans (hA.mono HB.out.size))
    have LOt : Hid (∀ g, (.slice A0 z0.length C0 : Value).ownBlock = some g → v1.heap.size + 0 ≤ g ∧ g < v2.heap.size) := Lib.hid (fun g hg => by have := ho.lt g hg; first | omega | (simp at this; omega) | (simp at this ⊢; omega))
    have Ot := Lib.hid ho
    clear hb hA ho
    have z0v2 : w.heap.size < v2.heap.size := by omega
    clear z0v1
    go_wp2_with fail
    refine (HCS.out _ _ _ _ Ot.out.rowAt).mono ?_
    rintro e v3 ⟨A1, C1, rfl, ho, hb⟩
    have hA : Below v2.heap.size v2 v3 := Below.trans (by repeat (first | exact Below.refl _ _ | (refine Below.alloc ?_ (by first | (simp <;> omega) | omega) _) | (refine Below.setCell ?_ (by first | (simp <;> omega) | omega) _) | (refine Below.drew ?_) | (refine below_drewN ?_ _))) (hb.mono (by first | exact Nat.le_refl _ | (simp <;> omega) | omega))
    have hsv3 : v2.heap.size ≤ v3.heap.size := hA.size
    replace kx0 : v3.cell? ⟨w.heap.size, 0, none⟩ = some (.int .i64 s0) := (hA.cell (by show w.heap.size < _; omega)).trans kx0
    replace kx1 : v3.cell? ⟨w.heap.size, 1, none⟩ = some (.slice a0 z0.length cap0) := (hA.cell (by show w.heap.size < _; omega)).trans kx1
    replace HW := Lib.hid (HW.out.below hA)
    replace Ot := Lib.hid (Ot.out.below hA (fun g hg => (Ot.out.lt g hg).2))
    replace HB := Lib.hid (HB.out.trans (hA.mono HB.out.size))
    have LOw : Hid (∀ g, (.slice A1 F.length C1 : Value).ownBlock = some g → v2.heap.size + 0 ≤ g ∧ g < v3.heap.size) := Lib.hid (fun g hg => by have := ho.lt g hg; first | omega | (simp at this; omega) | (simp at this ⊢; omega))
    have Ow := Lib.hid ho
    clear hb hA ho
    have z0v3 : w.heap.size < v3.heap.size := by omega
    clear z0v2
    go_wp2_with fail
    clear Ot
    refine (toMass_c _ _ _ _ z0 hn _ HW.out).mono ?_
    rintro e v4 ⟨A2, C2, rfl, ho, hb⟩
    have hA : Below v3.heap.size v3 v4 := Below.trans (by repeat (first | exact Below.refl _ _ | (refine Below.alloc ?_ (by first | (simp <;> omega) | omega) _) | (refine Below.setCell ?_ (by first | (simp <;> omega) | omega) _) | (refine Below.drew ?_) | (refine below_drewN ?_ _))) (hb.mono (by first | exact Nat.le_refl _ | (simp <;> omega) | omega))
    have hsv4 : v3.heap.size ≤ v4.heap.size := hA.size
    replace kx0 : v4.cell? ⟨w.heap.size, 0, none⟩ = some (.int .i64 s0) := (hA.cell (by show w.heap.size < _; omega)).trans kx0
    replace kx1 : v4.cell? ⟨w.heap.size, 1, none⟩ = some (.slice a0 z0.length cap0) := (hA.cell (by show w.heap.size < _; omega)).trans kx1
    replace HW := Lib.hid (HW.out.below hA)
    replace Ow := Lib.hid (Ow.out.below hA (fun g hg => (Ow.out.lt g hg).2))
    replace HB := Lib.hid (HB.out.trans (hA.mono HB.out.size))
    have LOx : Hid (∀ g, (.slice A2 z0.length C2 : Value).ownBlock = some g → v3.heap.size + 0 ≤ g ∧ g < v4.heap.size) := Lib.hid (fun g hg => by have := ho.lt g hg; first | omega | (simp at this; omega) | (simp at this ⊢; omega))
    have Ox := Lib.hid ho
    clear hb hA ho
    have z0v4 : w.heap.size < v4.heap.size := by omega
    clear z0v3
    go_wp2_with fail
    refine (HCI.out _ _ _ _ (Ox.out.rowAt.alloc _)).mono ?_
    rintro e v5 ⟨A3, C3, rfl, ho, hb⟩
    have hA : Below v4.heap.size v4 v5 := Below.trans (by repeat (first | exact Below.refl _ _ | (refine Below.alloc ?_ (by first | (simp <;> omega) | omega) _) | (refine Below.setCell ?_ (by first | (simp <;> omega) | omega) _) | (refine Below.drew ?_) | (refine below_drewN ?_ _))) (hb.mono (by first | exact Nat.le_refl _ | (simp <;> omega) | omega))
    have hsv5 : v4.heap.size + 1 ≤ v5.heap.size := by have := hb.size; first | (simp at this; omega) | omega
    replace kx0 : v5.cell? ⟨w.heap.size, 0, none⟩ = some (.int .i64 s0) := (hA.cell (by show w.heap.size < _; omega)).trans kx0
    replace kx1 : v5.cell? ⟨w.heap.size, 1, none⟩ = some (.slice a0 z0.length cap0) := (hA.cell (by show w.heap.size < _; omega)).trans kx1
    have kb0 : v5.cell? ⟨v4.heap.size, 0, none⟩ = some (.int .i64 s0) := (hb.cell (by show v4.heap.size < _; first | (simp <;> omega) | omega)).trans (by go_simp)
    have kb1 : v5.cell? ⟨v4.heap.size, 1, none⟩ = some (.slice A2 z0.length C2) := (hb.cell (by show v4.heap.size < _; first | (simp <;> omega) | omega)).trans (by go_simp)
    replace HW := Lib.hid (HW.out.below hA)
    replace Ow := Lib.hid (Ow.out.below hA (fun g hg => (Ow.out.lt g hg).2))
    replace Ox := Lib.hid (Ox.out.below hA (fun g hg => (Ox.out.lt g hg).2))
    replace HB := Lib.hid (HB.out.trans (hA.mono HB.out.size))
    have LOg : Hid (∀ g, (.slice A3 F.length C3 : Value).ownBlock = some g → v4.heap.size + 1 ≤ g ∧ g < v5.heap.size) := Lib.hid (fun g hg => by have := ho.lt g hg; first | omega | (simp at this; omega) | (simp at this ⊢; omega))
    have Og := Lib.hid ho
    clear hb hA ho
    have z0v5 : w.heap.size < v5.heap.size := by omega
    have z1v5 : v4.heap.size < v5.heap.size := by omega
    clear z0v4
    go_wp2_with fail
    refine (bel_drew (eqIntS_c _ _ _ _ _ F _ Og.out.rowAt Ow.out.rowAt)).mono ?_
    rintro e v6 ⟨rfl, hb⟩
    have hA : Below v5.heap.size v5 v6 := Below.trans (by repeat (first | exact Below.refl _ _ | (refine Below.alloc ?_ (by first | (simp <;> omega) | omega) _) | (refine Below.setCell ?_ (by first | (simp <;> omega) | omega) _) | (refine Below.drew ?_) | (refine below_drewN ?_ _))) (hb.mono (by first | exact Nat.le_refl _ | (simp <;> omega) | omega))
    have hsv6 : v5.heap.size ≤ v6.heap.size := hA.size
    replace kx0 : v6.cell? ⟨w.heap.size, 0, none⟩ = some (.int .i64 s0) := (hA.cell (by show w.heap.size < _; omega)).trans kx0
    replace kx1 : v6.cell? ⟨w.heap.size, 1, none⟩ = some (.slice a0 z0.length cap0) := (hA.cell (by show w.heap.size < _; omega)).trans kx1
    replace kb0 : v6.cell? ⟨v4.heap.size, 0, none⟩ = some (.int .i64 s0) := (hA.cell (by show v4.heap.size < _; omega)).trans kb0
    replace kb1 : v6.cell? ⟨v4.heap.size, 1, none⟩ = some (.slice A2 z0.length C2) := (hA.cell (by show v4.heap.size < _; omega)).trans kb1
    replace HW := Lib.hid (HW.out.below hA)
    replace Ow := Lib.hid (Ow.out.below hA (fun g hg => (Ow.out.lt g hg).2))
    replace Ox := Lib.hid (Ox.out.below hA (fun g hg => (Ox.out.lt g hg).2))
    replace Og := Lib.hid (Og.out.below hA (fun g hg => (Og.out.lt g hg).2))
    replace HB := Lib.hid (HB.out.trans (hA.mono HB.out.size))
    clear hb hA
    have z0v6 : w.heap.size < v6.heap.size := by omega
    have z1v6 : v4.heap.size < v6.heap.size := by omega
    clear z0v5 z1v5
    go_upto_region 10 with fail
    have HWd := Lib.hid HW.out.drew
    have Z0 : v6.heap.size ≤ v6.heap.size := Nat.le_refl _
    go_cut [31] (fun q0 wx => q0 = .bool false ∧ Below v6.heap.size v6 wx)
    case first =>
      have H0 : Hid (Below v6.heap.size v6 v6.drew) := Lib.hid (Below.refl _ _).drew
      go_region_with (first
        | (go_at_call 21; refine (toMass_c _ _ _ _ z0 hn _ HWd.out).mono ?_; rintro e t1 ⟨At, Ct, rfl, ho, hb⟩; have H1 := Lib.hid (H0.out.trans (hb.mono H0.out.size)); have kx0_ : t1.cell? ⟨w.heap.size, 0, none⟩ = some (.int .i64 s0) := (H1.out.cell (by show w.heap.size < _; omega)).trans kx0; have kx1_ : t1.cell? ⟨w.heap.size, 1, none⟩ = some (.slice a0 z0.length cap0) := (H1.out.cell (by show w.heap.size < _; omega)).trans kx1; have kb0_ : t1.cell? ⟨v4.heap.size, 0, none⟩ = some (.int .i64 s0) := (H1.out.cell (by show v4.heap.size < _; omega)).trans kb0; have kb1_ : t1.cell? ⟨v4.heap.size, 1, none⟩ = some (.slice A2 z0.length C2) := (H1.out.cell (by show v4.heap.size < _; omega)).trans kb1; have Ot := Lib.hid ho; clear ho; clear hb)
        | (go_at_call 14; refine (eqMass_c _ _ _ _ _ _ z0 _ (Ox.out.below H1.out (fun g hg => (Ox.out.lt g hg).2)).rowAt Ot.out.rowAt).mono ?_; rintro e t2 ⟨rfl, hb⟩; have H2 := Lib.hid (H1.out.trans (hb.mono H1.out.size)); have kx0_ : t2.cell? ⟨w.heap.size, 0, none⟩ = some (.int .i64 s0) := (H2.out.cell (by show w.heap.size < _; omega)).trans kx0; have kx1_ : t2.cell? ⟨w.heap.size, 1, none⟩ = some (.slice a0 z0.length cap0) := (H2.out.cell (by show w.heap.size < _; omega)).trans kx1; have kb0_ : t2.cell? ⟨v4.heap.size, 0, none⟩ = some (.int .i64 s0) := (H2.out.cell (by show v4.heap.size < _; omega)).trans kb0; have kb1_ : t2.cell? ⟨v4.heap.size, 1, none⟩ = some (.slice A2 z0.length C2) := (H2.out.cell (by show v4.heap.size < _; omega)).trans kb1; clear hb))
      all_goals
        go_wp2_with fail
        go_meet
        exact ⟨rfl, H2.out⟩
    case rest =>
      obtain ⟨rfl, hA⟩ := hcut
      obtain ⟨v7, hv⟩ : ∃ v, v = wc := ⟨_, rfl⟩
      subst hv
      have hsv7 : v6.heap.size ≤ v7.heap.size := hA.size
      replace kx0 : v7.cell? ⟨w.heap.size, 0, none⟩ = some (.int .i64 s0) := (hA.cell (by show w.heap.size < _; omega)).trans kx0
      replace kx1 : v7.cell? ⟨w.heap.size, 1, none⟩ = some (.slice a0 z0.length cap0) := (hA.cell (by show w.heap.size < _; omega)).trans kx1
      replace kb0 : v7.cell? ⟨v4.heap.size, 0, none⟩ = some (.int .i64 s0) := (hA.cell (by show v4.heap.size < _; omega)).trans kb0
      replace kb1 : v7.cell? ⟨v4.heap.size, 1, none⟩ = some (.slice A2 z0.length C2) := (hA.cell (by show v4.heap.size < _; omega)).trans kb1
      replace HW := Lib.hid (HW.out.below hA)
      replace Ow := Lib.hid (Ow.out.below hA (fun g hg => (Ow.out.lt g hg).2))
      replace Ox := Lib.hid (Ox.out.below hA (fun g hg => (Ox.out.lt g hg).2))
      replace Og := Lib.hid (Og.out.below hA (fun g hg => (Og.out.lt g hg).2))
      replace HB := Lib.hid (HB.out.trans (hA.mono HB.out.size))
      clear hA Z0
      have z0v7 : w.heap.size < v7.heap.size := by omega
      have z1v7 : v4.heap.size < v7.heap.size := by omega
      clear z0v6 z1v6
      go_wp2_with fail
      refine (markMass_c _ _ z0 _ _ _ 1 (by omega) (by omega) _ rfl Ox.out).mono ?_
      rintro e v8 ⟨rfl, ho, hg⟩
      have hsv8 : v7.heap.size ≤ v8.heap.size := hg.size
      replace kx0 : v8.cell? ⟨w.heap.size, 0, none⟩ = some (.int .i64 s0) := hg.cell kx0 (by intro e; have h1 := LOx.out _ e.symm; first | omega | (simp at h1; omega) | (simp at h1))
      replace kx1 : v8.cell? ⟨w.heap.size, 1, none⟩ = some (.slice a0 z0.length cap0) := hg.cell kx1 (by intro e; have h1 := LOx.out _ e.symm; first | omega | (simp at h1; omega) | (simp at h1))
      replace kb0 : v8.cell? ⟨v4.heap.size, 0, none⟩ = some (.int .i64 s0) := hg.cell kb0 (by intro e; have h1 := LOx.out _ e.symm; first | omega | (simp at h1; omega) | (simp at h1))
      replace kb1 : v8.cell? ⟨v4.heap.size, 1, none⟩ = some (.slice A2 z0.length C2) := hg.cell kb1 (by intro e; have h1 := LOx.out _ e.symm; first | omega | (simp at h1; omega) | (simp at h1))
      replace HW := Lib.hid (HW.out.grown hg (fun hp b o e e2 => by have h1 := LOx.out b e2; have h2 := WHW.out hp b o e; omega))
      replace Ow := Lib.hid (Ow.out.grown hg (by
        rcases hy : (.slice A1 F.length C1 : Value).ownBlock with _ | g
        · exact .inl rfl
        · right; intro e; have h1 := LOw.out g hy; have h2 := LOx.out g e.symm; omega))
      replace Og := Lib.hid (Og.out.grown hg (by
        rcases hy : (.slice A3 F.length C3 : Value).ownBlock with _ | g
        · exact .inl rfl
        · right; intro e; have h1 := LOg.out g hy; have h2 := LOx.out g e.symm; omega))
      replace HB := Lib.hid (HB.out.grown hg HB.out.size (fun k hk => by have h1 := LOx.out k hk; omega))
      replace Ox := Lib.hid ho
      clear ho hg
      have z0v8 : w.heap.size < v8.heap.size := by omega
      have z1v8 : v4.heap.size < v8.heap.size := by omega
      clear z0v7 z1v7
      go_wp2_with fail
      refine (bel_drew (eqIntS_c _ _ _ _ _ F _ Og.out.rowAt Ow.out.rowAt)).mono ?_
      rintro e v9 ⟨rfl, hb⟩
      have hA : Below v8.heap.size v8 v9 := Below.trans (by repeat (first | exact Below.refl _ _ | (refine Below.alloc ?_ (by first | (simp <;> omega) | omega) _) | (refine Below.setCell ?_ (by first | (simp <;> omega) | omega) _) | (refine Below.drew ?_) | (refine below_drewN ?_ _))) (hb.mono (by first | exact Nat.le_refl _ | (simp <;> omega) | omega))
      have hsv9 : v8.heap.size ≤ v9.heap.size := hA.size
      replace kx0 : v9.cell? ⟨w.heap.size, 0, none⟩ = some (.int .i64 s0) := (hA.cell (by show w.heap.size < _; omega)).trans kx0
      replace kx1 : v9.cell? ⟨w.heap.size, 1, none⟩ = some (.slice a0 z0.length cap0) := (hA.cell (by show w.heap.size < _; omega)).trans kx1
      replace kb0 : v9.cell? ⟨v4.heap.size, 0, none⟩ = some (.int .i64 s0) := (hA.cell (by show v4.heap.size < _; omega)).trans kb0
      replace kb1 : v9.cell? ⟨v4.heap.size, 1, none⟩ = some (.slice A2 z0.length C2) := (hA.cell (by show v4.heap.size < _; omega)).trans kb1
      replace HW := Lib.hid (HW.out.below hA)
      replace Ow := Lib.hid (Ow.out.below hA (fun g hg => (Ow.out.lt g hg).2))
      replace Ox := Lib.hid (Ox.out.below hA (fun g hg => (Ox.out.lt g hg).2))
      replace Og := Lib.hid (Og.out.below hA (fun g hg => (Og.out.lt g hg).2))
      replace HB := Lib.hid (HB.out.trans (hA.mono HB.out.size))
      clear hb hA
      have z0v9 : w.heap.size < v9.heap.size := by omega
      have z1v9 : v4.heap.size < v9.heap.size := by omega
      clear z0v8 z1v8
      go_wp2_with fail
      refine (markIntS_c _ F _ _ _ 1 (by omega) (by omega) _ rfl Og.out).mono ?_
      rintro e v10 ⟨rfl, ho, hg⟩
      have hsv10 : v9.heap.size ≤ v10.heap.size := hg.size
      replace kx0 : v10.cell? ⟨w.heap.size, 0, none⟩ = some (.int .i64 s0) := hg.cell kx0 (by intro e; have h1 := LOg.out _ e.symm; first | omega | (simp at h1; omega) | (simp at h1))
      replace kx1 : v10.cell? ⟨w.heap.size, 1, none⟩ = some (.slice a0 z0.length cap0) := hg.cell kx1 (by intro e; have h1 := LOg.out _ e.symm; first | omega | (simp at h1; omega) | (simp at h1))
      replace kb0 : v10.cell? ⟨v4.heap.size, 0, none⟩ = some (.int .i64 s0) := hg.cell kb0 (by intro e; have h1 := LOg.out _ e.symm; first | omega | (simp at h1; omega) | (simp at h1))
      replace kb1 : v10.cell? ⟨v4.heap.size, 1, none⟩ = some (.slice A2 z0.length C2) := hg.cell kb1 (by intro e; have h1 := LOg.out _ e.symm; first | omega | (simp at h1; omega) | (simp at h1))
      replace HW := Lib.hid (HW.out.grown hg (fun hp b o e e2 => by have h1 := LOg.out b e2; have h2 := WHW.out hp b o e; omega))
      replace Ow := Lib.hid (Ow.out.grown hg (by
        rcases hy : (.slice A1 F.length C1 : Value).ownBlock with _ | g
        · exact .inl rfl
        · right; intro e; have h1 := LOw.out g hy; have h2 := LOg.out g e.symm; omega))
      replace Ox := Lib.hid (Ox.out.grown hg (by
        rcases hy : (.slice A2 z0.length C2 : Value).ownBlock with _ | g
        · exact .inl rfl
        · right; intro e; have h1 := LOx.out g hy; have h2 := LOg.out g e.symm; omega))
      replace HB := Lib.hid (HB.out.grown hg HB.out.size (fun k hk => by have h1 := LOg.out k hk; omega))
      replace Og := Lib.hid ho
      clear ho hg
      have z0v10 : w.heap.size < v10.heap.size := by omega
      have z1v10 : v4.heap.size < v10.heap.size := by omega
      clear z0v9 z1v9
      go_wp2_with fail
      refine (bel_same (heldIntS_c _ _ _ 1 (by omega) (by omega) _ Og.out.rowAt)).mono ?_
      rintro e v11 ⟨rfl, hb⟩
      have hA : Below v10.heap.size v10 v11 := Below.trans (by repeat (first | exact Below.refl _ _ | (refine Below.alloc ?_ (by first | (simp <;> omega) | omega) _) | (refine Below.setCell ?_ (by first | (simp <;> omega) | omega) _) | (refine Below.drew ?_) | (refine below_drewN ?_ _))) (hb.mono (by first | exact Nat.le_refl _ | (simp <;> omega) | omega))
      have hsv11 : v10.heap.size ≤ v11.heap.size := hA.size
      replace kx0 : v11.cell? ⟨w.heap.size, 0, none⟩ = some (.int .i64 s0) := (hA.cell (by show w.heap.size < _; omega)).trans kx0
      replace kx1 : v11.cell? ⟨w.heap.size, 1, none⟩ = some (.slice a0 z0.length cap0) := (hA.cell (by show w.heap.size < _; omega)).trans kx1
      replace kb0 : v11.cell? ⟨v4.heap.size, 0, none⟩ = some (.int .i64 s0) := (hA.cell (by show v4.heap.size < _; omega)).trans kb0
      replace kb1 : v11.cell? ⟨v4.heap.size, 1, none⟩ = some (.slice A2 z0.length C2) := (hA.cell (by show v4.heap.size < _; omega)).trans kb1
      replace HW := Lib.hid (HW.out.below hA)
      replace Ow := Lib.hid (Ow.out.below hA (fun g hg => (Ow.out.lt g hg).2))
      replace Ox := Lib.hid (Ox.out.below hA (fun g hg => (Ox.out.lt g hg).2))
      replace Og := Lib.hid (Og.out.below hA (fun g hg => (Og.out.lt g hg).2))
      replace HB := Lib.hid (HB.out.trans (hA.mono HB.out.size))
      clear hb hA
      have z0v11 : w.heap.size < v11.heap.size := by omega
      have z1v11 : v4.heap.size < v11.heap.size := by omega
      clear z0v10 z1v10
      go_wp2_with fail
      refine (toMass_c _ _ _ _ z0 hn _ HW.out).mono ?_
      rintro e v12 ⟨A4, C4, rfl, ho, hb⟩
      have hA : Below v11.heap.size v11 v12 := Below.trans (by repeat (first | exact Below.refl _ _ | (refine Below.alloc ?_ (by first | (simp <;> omega) | omega) _) | (refine Below.setCell ?_ (by first | (simp <;> omega) | omega) _) | (refine Below.drew ?_) | (refine below_drewN ?_ _))) (hb.mono (by first | exact Nat.le_refl _ | (simp <;> omega) | omega))
      have hsv12 : v11.heap.size ≤ v12.heap.size := hA.size
      replace kx0 : v12.cell? ⟨w.heap.size, 0, none⟩ = some (.int .i64 s0) := (hA.cell (by show w.heap.size < _; omega)).trans kx0
      replace kx1 : v12.cell? ⟨w.heap.size, 1, none⟩ = some (.slice a0 z0.length cap0) := (hA.cell (by show w.heap.size < _; omega)).trans kx1
      replace kb0 : v12.cell? ⟨v4.heap.size, 0, none⟩ = some (.int .i64 s0) := (hA.cell (by show v4.heap.size < _; omega)).trans kb0
      replace kb1 : v12.cell? ⟨v4.heap.size, 1, none⟩ = some (.slice A2 z0.length C2) := (hA.cell (by show v4.heap.size < _; omega)).trans kb1
      replace HW := Lib.hid (HW.out.below hA)
      replace Ow := Lib.hid (Ow.out.below hA (fun g hg => (Ow.out.lt g hg).2))
      replace Ox := Lib.hid (Ox.out.below hA (fun g hg => (Ox.out.lt g hg).2))
      replace Og := Lib.hid (Og.out.below hA (fun g hg => (Og.out.lt g hg).2))
      replace HB := Lib.hid (HB.out.trans (hA.mono HB.out.size))
      have LOy : Hid (∀ g, (.slice A4 z0.length C4 : Value).ownBlock = some g → v11.heap.size + 0 ≤ g ∧ g < v12.heap.size) := Lib.hid (fun g hg => by have := ho.lt g hg; first | omega | (simp at this; omega) | (simp at this ⊢; omega))
      have Oy := Lib.hid ho
      clear hb hA ho
      have z0v12 : w.heap.size < v12.heap.size := by omega
      have z1v12 : v4.heap.size < v12.heap.size := by omega
      clear z0v11 z1v11
      go_wp2_with fail
      refine (HCI.out _ _ _ _ Oy.out.rowAt).mono ?_
      rintro e v13 ⟨A5, C5, rfl, ho, hb⟩
      have hA : Below v12.heap.size v12 v13 := Below.trans (by repeat (first | exact Below.refl _ _ | (refine Below.alloc ?_ (by first | (simp <;> omega) | omega) _) | (refine Below.setCell ?_ (by first | (simp <;> omega) | omega) _) | (refine Below.drew ?_) | (refine below_drewN ?_ _))) (hb.mono (by first | exact Nat.le_refl _ | (simp <;> omega) | omega))
      have hsv13 : v12.heap.size ≤ v13.heap.size := hA.size
      replace kx0 : v13.cell? ⟨w.heap.size, 0, none⟩ = some (.int .i64 s0) := (hA.cell (by show w.heap.size < _; omega)).trans kx0
      replace kx1 : v13.cell? ⟨w.heap.size, 1, none⟩ = some (.slice a0 z0.length cap0) := (hA.cell (by show w.heap.size < _; omega)).trans kx1
      replace kb0 : v13.cell? ⟨v4.heap.size, 0, none⟩ = some (.int .i64 s0) := (hA.cell (by show v4.heap.size < _; omega)).trans kb0
      replace kb1 : v13.cell? ⟨v4.heap.size, 1, none⟩ = some (.slice A2 z0.length C2) := (hA.cell (by show v4.heap.size < _; omega)).trans kb1
      replace HW := Lib.hid (HW.out.below hA)
      replace Ow := Lib.hid (Ow.out.below hA (fun g hg => (Ow.out.lt g hg).2))
      replace Ox := Lib.hid (Ox.out.below hA (fun g hg => (Ox.out.lt g hg).2))
      replace Og := Lib.hid (Og.out.below hA (fun g hg => (Og.out.lt g hg).2))
      replace Oy := Lib.hid (Oy.out.below hA (fun g hg => (Oy.out.lt g hg).2))
      replace HB := Lib.hid (HB.out.trans (hA.mono HB.out.size))
      have LOh : Hid (∀ g, (.slice A5 F.length C5 : Value).ownBlock = some g → v12.heap.size + 0 ≤ g ∧ g < v13.heap.size) := Lib.hid (fun g hg => by have := ho.lt g hg; first | omega | (simp at this; omega) | (simp at this ⊢; omega))
      have Oh := Lib.hid ho
      clear hb hA ho
      have z0v13 : w.heap.size < v13.heap.size := by omega
      have z1v13 : v4.heap.size < v13.heap.size := by omega
      clear z0v12 z1v12
      go_wp2_with fail
      refine (bel_drew (eqIntS_c _ _ _ _ _ F _ Oh.out.rowAt Ow.out.rowAt)).mono ?_
      rintro e v14 ⟨rfl, hb⟩
      have hA : Below v13.heap.size v13 v14 := Below.trans (by repeat (first | exact Below.refl _ _ | (refine Below.alloc ?_ (by first | (simp <;> omega) | omega) _) | (refine Below.setCell ?_ (by first | (simp <;> omega) | omega) _) | (refine Below.drew ?_) | (refine below_drewN ?_ _))) (hb.mono (by first | exact Nat.le_refl _ | (simp <;> omega) | omega))
      have hsv14 : v13.heap.size ≤ v14.heap.size := hA.size
      replace kx0 : v14.cell? ⟨w.heap.size, 0, none⟩ = some (.int .i64 s0) := (hA.cell (by show w.heap.size < _; omega)).trans kx0
      replace kx1 : v14.cell? ⟨w.heap.size, 1, none⟩ = some (.slice a0 z0.length cap0) := (hA.cell (by show w.heap.size < _; omega)).trans kx1
      replace kb0 : v14.cell? ⟨v4.heap.size, 0, none⟩ = some (.int .i64 s0) := (hA.cell (by show v4.heap.size < _; omega)).trans kb0
      replace kb1 : v14.cell? ⟨v4.heap.size, 1, none⟩ = some (.slice A2 z0.length C2) := (hA.cell (by show v4.heap.size < _; omega)).trans kb1
      replace HW := Lib.hid (HW.out.below hA)
      replace Ow := Lib.hid (Ow.out.below hA (fun g hg => (Ow.out.lt g hg).2))
      replace Ox := Lib.hid (Ox.out.below hA (fun g hg => (Ox.out.lt g hg).2))
      replace Og := Lib.hid (Og.out.below hA (fun g hg => (Og.out.lt g hg).2))
      replace Oy := Lib.hid (Oy.out.below hA (fun g hg => (Oy.out.lt g hg).2))
      replace Oh := Lib.hid (Oh.out.below hA (fun g hg => (Oh.out.lt g hg).2))
      replace HB := Lib.hid (HB.out.trans (hA.mono HB.out.size))
      clear hb hA
      have z0v14 : w.heap.size < v14.heap.size := by omega
      have z1v14 : v4.heap.size < v14.heap.size := by omega
      clear z0v13 z1v13
      go_wp2_with fail
      refine (bel_same (heldIntS_c _ _ _ 1 (by omega) (by omega) _ Og.out.rowAt)).mono ?_
      rintro e v15 ⟨rfl, hb⟩
      have hA : Below v14.heap.size v14 v15 := Below.trans (by repeat (first | exact Below.refl _ _ | (refine Below.alloc ?_ (by first | (simp <;> omega) | omega) _) | (refine Below.setCell ?_ (by first | (simp <;> omega) | omega) _) | (refine Below.drew ?_) | (refine below_drewN ?_ _))) (hb.mono (by first | exact Nat.le_refl _ | (simp <;> omega) | omega))
      have hsv15 : v14.heap.size ≤ v15.heap.size := hA.size
      replace kx0 : v15.cell? ⟨w.heap.size, 0, none⟩ = some (.int .i64 s0) := (hA.cell (by show w.heap.size < _; omega)).trans kx0
      replace kx1 : v15.cell? ⟨w.heap.size, 1, none⟩ = some (.slice a0 z0.length cap0) := (hA.cell (by show w.heap.size < _; omega)).trans kx1
      replace kb0 : v15.cell? ⟨v4.heap.size, 0, none⟩ = some (.int .i64 s0) := (hA.cell (by show v4.heap.size < _; omega)).trans kb0
      replace kb1 : v15.cell? ⟨v4.heap.size, 1, none⟩ = some (.slice A2 z0.length C2) := (hA.cell (by show v4.heap.size < _; omega)).trans kb1
      replace HW := Lib.hid (HW.out.below hA)
      replace Ow := Lib.hid (Ow.out.below hA (fun g hg => (Ow.out.lt g hg).2))
      replace Ox := Lib.hid (Ox.out.below hA (fun g hg => (Ox.out.lt g hg).2))
      replace Og := Lib.hid (Og.out.below hA (fun g hg => (Og.out.lt g hg).2))
      replace Oy := Lib.hid (Oy.out.below hA (fun g hg => (Oy.out.lt g hg).2))
      replace Oh := Lib.hid (Oh.out.below hA (fun g hg => (Oh.out.lt g hg).2))
      replace HB := Lib.hid (HB.out.trans (hA.mono HB.out.size))
      clear hb hA
      have z0v15 : w.heap.size < v15.heap.size := by omega
      have z1v15 : v4.heap.size < v15.heap.size := by omega
      clear z0v14 z1v14
      go_wp2_with fail
      go_ret
      exact ⟨rfl, HB.out⟩
  · have HE := Lib.hid (if_pos (by omega) : (if (1048576 : Int) < (z0.length : Int) then (-1 : Int) else 1048576 - z0.length) = -1)
    go_enter Try.func10, Try.ntmps10
    go_wp2_with fail
    refine (szMass_c _ _ _ _ 1048576 (by omega) hmax _).mono ?_
    rintro e v1 ⟨rfl, hb⟩
    rw [HE.out]
    have HB1 := Lib.hid (((Below.refl w.heap.size w).alloc (Nat.le_refl _) _).trans (hb.mono (by simp)))
    clear hb
    go_wp2_with fail
    go_ret
    exact ⟨rfl, HB1.out⟩

set_option maxRecDepth 100000 in
theorem lifted (os : Os) (started : os.Started) (H : Type) (enc : TypeId × Value → H) :
    ReturnsInHanded {} Try.checked os 10 .any (Rows.fnExactFocalSetsSpec.pre6 enc Try.prog Try.f10 Rows.fnExactFocalSetsRow.domain false) (Rows.fnExactFocalSetsSpec.post enc Try.prog Try.f10 false true false false) := by
  refine returnsInHanded_of_change (C := Try.checked) own started (by kernel_rfl) Try.func10
    (ChangeSpec.witness6 (enc := enc) (C := Try.checked) false ⟨#[], #[.agg #[.int .i64 0, .slice none 0 0]], []⟩ 8 (by kernel_rfl) (by kernel_rfl) (by kernel_rfl) (by kernel_rfl)) ?_
  intro W base args ds gs before hval0 hW hcnd _
  have hval : ∀ (j : Nat) t v, Try.f10.params[j]? = some t → args[j]? = some v → Value.okWide Try.prog W .any base t v := hval0
  have hW' := hW
  obtain ⟨p, q, hA0, hV, rfl, hfz, hnd⟩ := hW
  have hA : DataW.TrodAll enc Try.prog W 0 (fun _ => true) true Try.f10.params.toList args.toList ds p := hA0
  rw [Try.params10] at hA hval
  obtain ⟨v0, vs0, d0, ds0, p0, q0, hargs, rfl, rfl, h0, r0⟩ := trodAll_cons hA
  obtain ⟨rfl, rfl, rfl⟩ := trodAll_nil r0
  obtain rfl : args = #[v0] := by cases args; simp_all
  obtain ⟨rfl, rfl⟩ := trodVars_none hV
  have k0 := h0
  have lt0 : ∀ x ∈ p0, x.block < W.heap.size := by obtain ⟨m, hm⟩ := k0; exact DataW.trod_lt m _ _ _ hm
  obtain ⟨s0, a0, len0, cap0, z0, rfl, ws0, w0⟩ := get_mass Try.underlying32 (by kernel_rfl) (by kernel_rfl) Try.underlying3 Try.underlying22 (by kernel_rfl) (hval 0 32 v0 rfl rfl) h0
  clear hA0 hval0
  refine (walk s0 a0 len0 cap0 z0 W ws0 w0).mono fun e W' ⟨he, bel⟩ => ?_
  subst he
  exact ⟨_, rfl, _, _, _, [], _, [], hW', trodAll_mk1 (shut_bool Try.underlying4 _), (trodAll_cons_mk (Below.trod laidOut (by kernel_rfl) (of_decide_eq_true (by kernel_rfl)) k0 bel lt0) trodAll_mk0), rfl, bel.frame _, fun h => by cases h⟩

theorem closed : joinedFacts Try.prog 10 Try.f10 Rows.fnExactFocalSetsSpec Rows.fnExactFocalSetsRow = true := by
  rw [joinedFacts.eq_1]
  simp only [Bool.and_eq_true]
  repeat' apply And.intro
  all_goals first | (with_reducible exact fact_enter) | (with_reducible exact laidOut) | (with_reducible exact fact_maps) | (with_reducible exact fact_heard) | (rw [fact_lifts]; try (as_aux_lemma => kernel_rfl)) | (rw [fact_make]; try (as_aux_lemma => kernel_rfl)) | (rw [fact_keys]; try (as_aux_lemma => kernel_rfl)) | (as_aux_lemma => kernel_rfl)

theorem holds : Rows.FnExactFocalSetsSaid :=
  OpenClaim.holds_of_wide 10 Try.f10 rfl rfl rfl rfl rfl rfl rfl ⟨rfl, rfl, rfl, rfl, rfl⟩ rfl rfl rfl rfl rfl (by kernel_rfl) Try.func10 closed
    (of_decide_eq_true (by kernel_rfl)) (by unfold Func.isWrapper; rw [if_neg (of_decide_eq_false (by kernel_rfl))]; exact ⟨rfl, rfl⟩)
    (fun os started H enc _ => lifted os started H enc)
#print axioms holds
end Go.Proofs.Ytbfmholekedflaa.fnExactFocalSets
