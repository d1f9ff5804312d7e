/- FnMixMasses: for every input that can be read, the law returns true and its arguments read afterwards as before. Conditions: none. -/
import Derived.Test.YtemollfejgmlcaaMem
import Derived.Test.YtemollfejgmlcaaSigns
import Derived.Test.YtemollfejgmlcaaPlainE
import Derived.Test.YtemollfejgmlcaaPlainL
import Derived.Test.YtemollfejgmlcaaWm
import Derived.Test.YtemollfejgmlcaaWa
import Derived.Test.YtemollfejgmlcaaMa
import Derived.Test.YtemollfejgmlcaaMb
import Derived.Test.YtemollfejgmlcaaMc
import Derived.Test.YtemollfejgmlcaaMd
import Derived.Test.YtemollfejgmlcaaMe
import Derived.Test.YtemollfejgmlcaaMh
import Derived.Test.YtemollfejgmlcaaMi
import Derived.Test.YtemollfejgmlcaaGl
import Derived.Test.YtemollfejgmlcaaGm
import Derived.Test.YtemollfejgmlcaaMj
import Derived.Test.YtemollfejgmlcaaMk
import Derived.Test.YtemollfejgmlcaaMm
import Derived.Test.YtemollfejgmlcaaMo
import Derived.Test.YtemollfejgmlcaaMu
import Derived.Test.YtemollfejgmlcaaMz
namespace Go.Proofs.Ytemollfejgmlcaa.fnMixMasses
open Go.ChangeShapes Go.WideShapes Go.ChangeAt Go.RowKit
open Go.ChangeMaps (open_string shut_string)
set_option linter.unusedVariables false

set_option maxRecDepth 100000 in
set_option maxHeartbeats 4000000 in
theorem walk (a0 : Option Addr) (len0 cap0 : Nat) (z0 : List Int) (w : World) (w0 : IsRow .u8 w a0 len0 cap0 z0) :
    Calls Try.prog 7 #[.slice a0 len0 cap0] w fun e w' => e = .returned (.bool true) ∧ Below w.heap.size w w' := by
  by_cases hn : len0 ≤ 1048576
  · have hn2 : (len0 : Int) ≤ 1048576 := by omega
    have HW := Lib.hid w0
    clear w0
    have HB := Lib.hid (Below.refl w.heap.size w)
    go_enter Try.func7, Try.ntmps7
    go_wp2_with fail
    refine (DrawMixMasses_c _ _ _ _ _ HW.out).mono ?_
    rintro e v1 ⟨s, ms, A, C, t, ns, A', C', p, q, rfl, ⟨hF, hL, hE, ho1⟩, ⟨hF2, hL2, hE2, ho2⟩, hb⟩
    have hA : Below w.heap.size w v1 := Below.trans (by repeat (first | exact Below.refl _ _ | (refine Below.alloc ?_ (by first | (simp <;> omega) | omega) _) | (refine Below.setCell ?_ (by first | (simp <;> omega) | omega) _) | (refine Below.drew ?_) | (refine below_drewN ?_ _))) (hb.mono (by first | exact Nat.le_refl _ | (simp <;> omega) | omega))
    have hsv1 : w.heap.size ≤ v1.heap.size := hA.size
    replace HB := Lib.hid (HB.out.trans (hA.mono HB.out.size))
    have LOM : Hid (∀ g, (.slice A ms.length C : Value).ownBlock = some g → w.heap.size + 0 ≤ g ∧ g < v1.heap.size) := Lib.hid (fun g hg => by have := ho1.lt g hg; first | omega | (simp at this; omega) | (simp at this ⊢; omega))
    have OM := Lib.hid ho1
    have LON : Hid (∀ g, (.slice A' ns.length C' : Value).ownBlock = some g → w.heap.size + 0 ≤ g ∧ g < v1.heap.size) := Lib.hid (fun g hg => by have := ho2.lt g hg; first | omega | (simp at this; omega) | (simp at this ⊢; omega))
    have ON := Lib.hid ho2
    clear hb hA ho1 ho2
    clear hF hE hF2 hE2
    go_wp2_with fail
    rcases hB : mixB s ms t ns p q with _ | _
    · obtain ⟨Z, hZ⟩ : ∃ Z, selL false (madeL (mixL p q ms ns)) = Z := ⟨_, rfl⟩
      have HS := Lib.hid (show ∀ w e w', MassOk w (mixB s ms t ns p q) s (madeL (mixL p q ms ns)) e w' → ∃ A C, e = .returned (.tuple #[.agg #[.int .i64 0, .slice A Z.length C], .bool false]) ∧ Own w' w.heap.size (.slice A Z.length C) Z ∧ Below w.heap.size w w' from by intro w e w' h; unfold MassOk at h; rw [hB, hZ] at h; exact h)
      clear hZ hB
      refine ((impl_MixMasses_c _ _ _ _ ms _ _ _ _ ns _ _ _ ((((OM.out.rowAt.alloc _).alloc _).alloc _)) ((((ON.out.rowAt.alloc _).alloc _).alloc _))).mono (HS.out _)).mono ?_
      rintro e v2 ⟨AOK, COK, rfl, ho, hb⟩
      have hA : Below v1.heap.size v1 v2 := Below.trans (by repeat (first | exact Below.refl _ _ | (refine Below.alloc ?_ (by first | (simp <;> omega) | omega) _) | (refine Below.setCell ?_ (by first | (simp <;> omega) | omega) _) | (refine Below.drew ?_) | (refine below_drewN ?_ _))) (hb.mono (by first | exact Nat.le_refl _ | (simp <;> omega) | omega))
      have hsv2 : v1.heap.size + 3 ≤ v2.heap.size := by have := hb.size; first | (simp at this; omega) | omega
      have m0 : v2.cell? ⟨v1.heap.size, 0, none⟩ = some (.int .i64 s) := (hb.cell (by show v1.heap.size < _; first | (simp <;> omega) | omega)).trans (by go_simp)
      have m1 : v2.cell? ⟨v1.heap.size, 1, none⟩ = some (.slice A ms.length C) := (hb.cell (by show v1.heap.size < _; first | (simp <;> omega) | omega)).trans (by go_simp)
      have n0 : v2.cell? ⟨v1.heap.size + 1, 0, none⟩ = some (.int .i64 t) := (hb.cell (by show v1.heap.size + 1 < _; first | (simp <;> omega) | omega)).trans (by go_simp)
      have n1 : v2.cell? ⟨v1.heap.size + 1, 1, none⟩ = some (.slice A' ns.length C') := (hb.cell (by show v1.heap.size + 1 < _; first | (simp <;> omega) | omega)).trans (by go_simp)
      have f0 : v2.cell? ⟨v1.heap.size + 2, 0, none⟩ = some (.int .i64 p) := (hb.cell (by show v1.heap.size + 2 < _; first | (simp <;> omega) | omega)).trans (by go_simp)
      have f1 : v2.cell? ⟨v1.heap.size + 2, 1, none⟩ = some (.int .i64 q) := (hb.cell (by show v1.heap.size + 2 < _; first | (simp <;> omega) | omega)).trans (by go_simp)
      replace OM := Lib.hid (OM.out.below hA (fun g hg => (OM.out.lt g hg).2))
      replace ON := Lib.hid (ON.out.below hA (fun g hg => (ON.out.lt g hg).2))
      replace HB := Lib.hid (HB.out.trans (hA.mono HB.out.size))
      have LOK : Hid (∀ g, (.slice AOK Z.length COK : Value).ownBlock = some g → v1.heap.size + 3 ≤ g ∧ g < v2.heap.size) := Lib.hid (fun g hg => by have := ho.lt g hg; first | omega | (simp at this; omega) | (simp at this ⊢; omega))
      have OK := Lib.hid ho
      clear hb hA ho
      have z0v2 : v1.heap.size < v2.heap.size := by omega
      have z1v2 : v1.heap.size + 1 < v2.heap.size := by omega
      have z2v2 : v1.heap.size + 2 < v2.heap.size := by omega
      go_wp2_with fail
      refine ((spec_MixMasses_c _ _ _ _ ms _ _ _ _ ns _ _ _ ((OM.out.rowAt.alloc _)) ((ON.out.rowAt.alloc _))).mono (HS.out _)).mono ?_
      rintro e v3 ⟨AOW, COW, rfl, ho, hb⟩
      have hA : Below v2.heap.size v2 v3 := Below.trans (by repeat (first | exact Below.refl _ _ | (refine Below.alloc ?_ (by first | (simp <;> omega) | omega) _) | (refine Below.setCell ?_ (by first | (simp <;> omega) | omega) _) | (refine Below.drew ?_) | (refine below_drewN ?_ _))) (hb.mono (by first | exact Nat.le_refl _ | (simp <;> omega) | omega))
      have hsv3 : v2.heap.size + 1 ≤ v3.heap.size := by have := hb.size; first | (simp at this; omega) | omega
      replace m0 : v3.cell? ⟨v1.heap.size, 0, none⟩ = some (.int .i64 s) := (hA.cell (by show v1.heap.size < _; omega)).trans m0
      replace m1 : v3.cell? ⟨v1.heap.size, 1, none⟩ = some (.slice A ms.length C) := (hA.cell (by show v1.heap.size < _; omega)).trans m1
      replace n0 : v3.cell? ⟨v1.heap.size + 1, 0, none⟩ = some (.int .i64 t) := (hA.cell (by show v1.heap.size + 1 < _; omega)).trans n0
      replace n1 : v3.cell? ⟨v1.heap.size + 1, 1, none⟩ = some (.slice A' ns.length C') := (hA.cell (by show v1.heap.size + 1 < _; omega)).trans n1
      replace f0 : v3.cell? ⟨v1.heap.size + 2, 0, none⟩ = some (.int .i64 p) := (hA.cell (by show v1.heap.size + 2 < _; omega)).trans f0
      replace f1 : v3.cell? ⟨v1.heap.size + 2, 1, none⟩ = some (.int .i64 q) := (hA.cell (by show v1.heap.size + 2 < _; omega)).trans f1
      have k0 : v3.cell? ⟨v2.heap.size, 0, none⟩ = some (.int .i64 0) := (hb.cell (by show v2.heap.size < _; first | (simp <;> omega) | omega)).trans (by go_simp)
      have k1 : v3.cell? ⟨v2.heap.size, 1, none⟩ = some (.slice AOK Z.length COK) := (hb.cell (by show v2.heap.size < _; first | (simp <;> omega) | omega)).trans (by go_simp)
      replace OM := Lib.hid (OM.out.below hA (fun g hg => (OM.out.lt g hg).2))
      replace ON := Lib.hid (ON.out.below hA (fun g hg => (ON.out.lt g hg).2))
      replace OK := Lib.hid (OK.out.below hA (fun g hg => (OK.out.lt g hg).2))
      replace HB := Lib.hid (HB.out.trans (hA.mono HB.out.size))
      have LOW : Hid (∀ g, (.slice AOW Z.length COW : Value).ownBlock = some g → v2.heap.size + 1 ≤ g ∧ g < v3.heap.size) := Lib.hid (fun g hg => by have := ho.lt g hg; first | omega | (simp at this; omega) | (simp at this ⊢; omega))
      have OW := Lib.hid ho
      clear hb hA ho
      have z0v3 : v1.heap.size < v3.heap.size := by omega
      have z1v3 : v1.heap.size + 1 < v3.heap.size := by omega
      have z2v3 : v1.heap.size + 2 < v3.heap.size := by omega
      have z3v3 : v2.heap.size < v3.heap.size := by omega
      clear z0v2 z1v2 z2v2
      go_wp2_with fail
      refine (weEqual_c _ _ _ _ _ _ Z _ ((OK.out.rowAt.alloc _)) ((OW.out.rowAt.alloc _))).mono ?_
      rintro e v4 ⟨rfl, hb⟩
      have hA : Below v3.heap.size v3 v4 := Below.trans (by repeat (first | exact Below.refl _ _ | (refine Below.alloc ?_ (by first | (simp <;> omega) | omega) _) | (refine Below.setCell ?_ (by first | (simp <;> omega) | omega) _) | (refine Below.drew ?_) | (refine below_drewN ?_ _))) (hb.mono (by first | exact Nat.le_refl _ | (simp <;> omega) | omega))
      have hsv4 : v3.heap.size + 1 ≤ v4.heap.size := by have := hb.size; first | (simp at this; omega) | omega
      replace m0 : v4.cell? ⟨v1.heap.size, 0, none⟩ = some (.int .i64 s) := (hA.cell (by show v1.heap.size < _; omega)).trans m0
      replace m1 : v4.cell? ⟨v1.heap.size, 1, none⟩ = some (.slice A ms.length C) := (hA.cell (by show v1.heap.size < _; omega)).trans m1
      replace n0 : v4.cell? ⟨v1.heap.size + 1, 0, none⟩ = some (.int .i64 t) := (hA.cell (by show v1.heap.size + 1 < _; omega)).trans n0
      replace n1 : v4.cell? ⟨v1.heap.size + 1, 1, none⟩ = some (.slice A' ns.length C') := (hA.cell (by show v1.heap.size + 1 < _; omega)).trans n1
      replace f0 : v4.cell? ⟨v1.heap.size + 2, 0, none⟩ = some (.int .i64 p) := (hA.cell (by show v1.heap.size + 2 < _; omega)).trans f0
      replace f1 : v4.cell? ⟨v1.heap.size + 2, 1, none⟩ = some (.int .i64 q) := (hA.cell (by show v1.heap.size + 2 < _; omega)).trans f1
      replace k0 : v4.cell? ⟨v2.heap.size, 0, none⟩ = some (.int .i64 0) := (hA.cell (by show v2.heap.size < _; omega)).trans k0
      replace k1 : v4.cell? ⟨v2.heap.size, 1, none⟩ = some (.slice AOK Z.length COK) := (hA.cell (by show v2.heap.size < _; omega)).trans k1
      have l0 : v4.cell? ⟨v3.heap.size, 0, none⟩ = some (.int .i64 0) := (hb.cell (by show v3.heap.size < _; first | (simp <;> omega) | omega)).trans (by go_simp)
      have l1 : v4.cell? ⟨v3.heap.size, 1, none⟩ = some (.slice AOW Z.length COW) := (hb.cell (by show v3.heap.size < _; first | (simp <;> omega) | omega)).trans (by go_simp)
      replace OM := Lib.hid (OM.out.below hA (fun g hg => (OM.out.lt g hg).2))
      replace ON := Lib.hid (ON.out.below hA (fun g hg => (ON.out.lt g hg).2))
      replace OK := Lib.hid (OK.out.below hA (fun g hg => (OK.out.lt g hg).2))
      replace OW := Lib.hid (OW.out.below hA (fun g hg => (OW.out.lt g hg).2))
      replace HB := Lib.hid (HB.out.trans (hA.mono HB.out.size))
      clear hb hA
      have z0v4 : v1.heap.size < v4.heap.size := by omega
      have z1v4 : v1.heap.size + 1 < v4.heap.size := by omega
      have z2v4 : v1.heap.size + 2 < v4.heap.size := by omega
      have z3v4 : v2.heap.size < v4.heap.size := by omega
      have z4v4 : v3.heap.size < v4.heap.size := by omega
      clear z0v3 z1v3 z2v3 z3v3
      go_wp2_with fail
      refine (weEqual_c _ _ _ _ _ _ Z _ (OK.out.rowAt) (OW.out.rowAt)).mono ?_
      rintro e v5 ⟨rfl, hb⟩
      have hA : Below v4.heap.size v4 v5 := Below.trans (by repeat (first | exact Below.refl _ _ | (refine Below.alloc ?_ (by first | (simp <;> omega) | omega) _) | (refine Below.setCell ?_ (by first | (simp <;> omega) | omega) _) | (refine Below.drew ?_) | (refine below_drewN ?_ _))) (hb.mono (by first | exact Nat.le_refl _ | (simp <;> omega) | omega))
      have hsv5 : v4.heap.size ≤ v5.heap.size := hA.size
      replace m0 : v5.cell? ⟨v1.heap.size, 0, none⟩ = some (.int .i64 s) := (hA.cell (by show v1.heap.size < _; omega)).trans m0
      replace m1 : v5.cell? ⟨v1.heap.size, 1, none⟩ = some (.slice A ms.length C) := (hA.cell (by show v1.heap.size < _; omega)).trans m1
      replace n0 : v5.cell? ⟨v1.heap.size + 1, 0, none⟩ = some (.int .i64 t) := (hA.cell (by show v1.heap.size + 1 < _; omega)).trans n0
      replace n1 : v5.cell? ⟨v1.heap.size + 1, 1, none⟩ = some (.slice A' ns.length C') := (hA.cell (by show v1.heap.size + 1 < _; omega)).trans n1
      replace f0 : v5.cell? ⟨v1.heap.size + 2, 0, none⟩ = some (.int .i64 p) := (hA.cell (by show v1.heap.size + 2 < _; omega)).trans f0
      replace f1 : v5.cell? ⟨v1.heap.size + 2, 1, none⟩ = some (.int .i64 q) := (hA.cell (by show v1.heap.size + 2 < _; omega)).trans f1
      replace k0 : v5.cell? ⟨v2.heap.size, 0, none⟩ = some (.int .i64 0) := (hA.cell (by show v2.heap.size < _; omega)).trans k0
      replace k1 : v5.cell? ⟨v2.heap.size, 1, none⟩ = some (.slice AOK Z.length COK) := (hA.cell (by show v2.heap.size < _; omega)).trans k1
      replace l0 : v5.cell? ⟨v3.heap.size, 0, none⟩ = some (.int .i64 0) := (hA.cell (by show v3.heap.size < _; omega)).trans l0
      replace l1 : v5.cell? ⟨v3.heap.size, 1, none⟩ = some (.slice AOW Z.length COW) := (hA.cell (by show v3.heap.size < _; omega)).trans l1
      replace OM := Lib.hid (OM.out.below hA (fun g hg => (OM.out.lt g hg).2))
      replace ON := Lib.hid (ON.out.below hA (fun g hg => (ON.out.lt g hg).2))
      replace OK := Lib.hid (OK.out.below hA (fun g hg => (OK.out.lt g hg).2))
      replace OW := Lib.hid (OW.out.below hA (fun g hg => (OW.out.lt g hg).2))
      replace HB := Lib.hid (HB.out.trans (hA.mono HB.out.size))
      clear hb hA
      have z0v5 : v1.heap.size < v5.heap.size := by omega
      have z1v5 : v1.heap.size + 1 < v5.heap.size := by omega
      have z2v5 : v1.heap.size + 2 < v5.heap.size := by omega
      have z3v5 : v2.heap.size < v5.heap.size := by omega
      have z4v5 : v3.heap.size < v5.heap.size := by omega
      clear z0v4 z1v4 z2v4 z3v4 z4v4
      go_wp2_with fail
      go_ret
      exact ⟨rfl, HB.out⟩
    · obtain ⟨h1, h2, h3, h4, h5, h6⟩ := mixB_of hB
      subst h3
      obtain ⟨hfr, had, hr1, hr2, _⟩ := rest_frac h4
      obtain ⟨ht1, ht2⟩ := mixB_turn hB
      obtain ⟨hs1, hs2⟩ := mix_self h1 h4 h5
      have hmk := (madeB_of h6).2
      have hl := mass_len h1 h2
      have hlk : (madeL (mixL p q ms ns)).length = ms.length := by rw [madeL_len, mixL_len]
      have hst := fun (k : Nat) (hk : k < ms.length) => @mean_step s p q ms ns k
      have hshm := fun (k : Nat) (hk : k < ms.length) => share_in h1 hk
      have hshn := fun (k : Nat) (hk : k < ms.length) => share_in h2 (show k < ns.length by omega)
      have hshk := fun (k : Nat) (hk : k < ms.length) => share_in hmk (show k < (madeL (mixL p q ms ns)).length by omega)
      have hl16 := (massB_len h1).2
      obtain ⟨Z, hZ⟩ : ∃ Z, madeL (mixL p q ms ns) = Z := ⟨_, rfl⟩
      rw [hZ] at hst hshk hlk
      have hsa : sel (addB 1 1 (-p) q) (lowX (1 * q + -p * 1) (1 * q)) = q - p := by rw [had, hr1]; rfl
      have hsb : sel (addB 1 1 (-p) q) (lowY (1 * q + -p * 1) (1 * q)) = q := by rw [had, hr2]; rfl
      have HS := Lib.hid (show ∀ w e w', MassOk w (mixB s ms s ns p q) s (madeL (mixL p q ms ns)) e w' → ∃ A C, e = .returned (.tuple #[.agg #[.int .i64 s, .slice A Z.length C], .bool true]) ∧ Own w' w.heap.size (.slice A Z.length C) Z ∧ Below w.heap.size w w' from by intro w e w' h; unfold MassOk at h; rw [hB, hZ] at h; exact h)
      have HT := Lib.hid (show ∀ w e w', MassOk w (mixB s ns s ms (q - p) q) s (madeL (mixL (q - p) q ns ms)) e w' → ∃ A C, e = .returned (.tuple #[.agg #[.int .i64 s, .slice A Z.length C], .bool true]) ∧ Own w' w.heap.size (.slice A Z.length C) Z ∧ Below w.heap.size w w' from by intro w e w' h; unfold MassOk at h; rw [ht1, ht2, hZ] at h; exact h)
      have HU := Lib.hid (show ∀ w e w', MassOk w (mixB s ms s ms p q) s (madeL (mixL p q ms ms)) e w' → ∃ A C, e = .returned (.tuple #[.agg #[.int .i64 s, .slice A ms.length C], .bool true]) ∧ Own w' w.heap.size (.slice A ms.length C) ms ∧ Below w.heap.size w w' from by intro w e w' h; unfold MassOk at h; rw [hs1, hs2] at h; exact h)
      have hpq := (shB_of h4).1
      have hqq := (shB_of h4).2.1
      have HFR := Lib.hid hfr
      have HSA := Lib.hid hsa
      have HSB := Lib.hid hsb
      have HAD := Lib.hid had
      have HST := Lib.hid (fun k hk => @hst k hk)
      have HSM := Lib.hid hshm
      have HSN := Lib.hid hshn
      have HSK := Lib.hid hshk
      have HMB := Lib.hid hB
      clear hfr hsa hsb had hst hshm hshn hshk hZ ht1 ht2 hs1 hs2 hmk hl hlk hr1 hr2 h1 h2 h4 h6 hB
      refine ((impl_MixMasses_c _ _ _ _ ms _ _ _ _ ns _ _ _ ((((OM.out.rowAt.alloc _).alloc _).alloc _)) ((((ON.out.rowAt.alloc _).alloc _).alloc _))).mono (HS.out _)).mono ?_
      rintro e v2 ⟨AOK, COK, rfl, ho, hb⟩
      have hA : Below v1.heap.size v1 v2 := Below.trans (by repeat (first | exact Below.refl _ _ | (refine Below.alloc ?_ (by first | (simp <;> omega) | omega) _) | (refine Below.setCell ?_ (by first | (simp <;> omega) | omega) _) | (refine Below.drew ?_) | (refine below_drewN ?_ _))) (hb.mono (by first | exact Nat.le_refl _ | (simp <;> omega) | omega))
      have hsv2 : v1.heap.size + 3 ≤ v2.heap.size := by have := hb.size; first | (simp at this; omega) | omega
      have m0 : v2.cell? ⟨v1.heap.size, 0, none⟩ = some (.int .i64 s) := (hb.cell (by show v1.heap.size < _; first | (simp <;> omega) | omega)).trans (by go_simp)
      have m1 : v2.cell? ⟨v1.heap.size, 1, none⟩ = some (.slice A ms.length C) := (hb.cell (by show v1.heap.size < _; first | (simp <;> omega) | omega)).trans (by go_simp)
      have n0 : v2.cell? ⟨v1.heap.size + 1, 0, none⟩ = some (.int .i64 s) := (hb.cell (by show v1.heap.size + 1 < _; first | (simp <;> omega) | omega)).trans (by go_simp)
      have n1 : v2.cell? ⟨v1.heap.size + 1, 1, none⟩ = some (.slice A' ns.length C') := (hb.cell (by show v1.heap.size + 1 < _; first | (simp <;> omega) | omega)).trans (by go_simp)
      have f0 : v2.cell? ⟨v1.heap.size + 2, 0, none⟩ = some (.int .i64 p) := (hb.cell (by show v1.heap.size + 2 < _; first | (simp <;> omega) | omega)).trans (by go_simp)
      have f1 : v2.cell? ⟨v1.heap.size + 2, 1, none⟩ = some (.int .i64 q) := (hb.cell (by show v1.heap.size + 2 < _; first | (simp <;> omega) | omega)).trans (by go_simp)
      replace OM := Lib.hid (OM.out.below hA (fun g hg => (OM.out.lt g hg).2))
      replace ON := Lib.hid (ON.out.below hA (fun g hg => (ON.out.lt g hg).2))
      replace HB := Lib.hid (HB.out.trans (hA.mono HB.out.size))
      have LOK : Hid (∀ g, (.slice AOK Z.length COK : Value).ownBlock = some g → v1.heap.size + 3 ≤ g ∧ g < v2.heap.size) := Lib.hid (fun g hg => by have := ho.lt g hg; first | omega | (simp at this; omega) | (simp at this ⊢; omega))
      have OK := Lib.hid ho
      clear hb hA ho
      have z0v2 : v1.heap.size < v2.heap.size := by omega
      have z1v2 : v1.heap.size + 1 < v2.heap.size := by omega
      have z2v2 : v1.heap.size + 2 < v2.heap.size := by omega
      go_wp2_with fail
      refine ((spec_MixMasses_c _ _ _ _ ms _ _ _ _ ns _ _ _ ((OM.out.rowAt.alloc _)) ((ON.out.rowAt.alloc _))).mono (HS.out _)).mono ?_
      rintro e v3 ⟨AOW, COW, rfl, ho, hb⟩
      have hA : Below v2.heap.size v2 v3 := Below.trans (by repeat (first | exact Below.refl _ _ | (refine Below.alloc ?_ (by first | (simp <;> omega) | omega) _) | (refine Below.setCell ?_ (by first | (simp <;> omega) | omega) _) | (refine Below.drew ?_) | (refine below_drewN ?_ _))) (hb.mono (by first | exact Nat.le_refl _ | (simp <;> omega) | omega))
      have hsv3 : v2.heap.size + 1 ≤ v3.heap.size := by have := hb.size; first | (simp at this; omega) | omega
      replace m0 : v3.cell? ⟨v1.heap.size, 0, none⟩ = some (.int .i64 s) := (hA.cell (by show v1.heap.size < _; omega)).trans m0
      replace m1 : v3.cell? ⟨v1.heap.size, 1, none⟩ = some (.slice A ms.length C) := (hA.cell (by show v1.heap.size < _; omega)).trans m1
      replace n0 : v3.cell? ⟨v1.heap.size + 1, 0, none⟩ = some (.int .i64 s) := (hA.cell (by show v1.heap.size + 1 < _; omega)).trans n0
      replace n1 : v3.cell? ⟨v1.heap.size + 1, 1, none⟩ = some (.slice A' ns.length C') := (hA.cell (by show v1.heap.size + 1 < _; omega)).trans n1
      replace f0 : v3.cell? ⟨v1.heap.size + 2, 0, none⟩ = some (.int .i64 p) := (hA.cell (by show v1.heap.size + 2 < _; omega)).trans f0
      replace f1 : v3.cell? ⟨v1.heap.size + 2, 1, none⟩ = some (.int .i64 q) := (hA.cell (by show v1.heap.size + 2 < _; omega)).trans f1
      have k0 : v3.cell? ⟨v2.heap.size, 0, none⟩ = some (.int .i64 s) := (hb.cell (by show v2.heap.size < _; first | (simp <;> omega) | omega)).trans (by go_simp)
      have k1 : v3.cell? ⟨v2.heap.size, 1, none⟩ = some (.slice AOK Z.length COK) := (hb.cell (by show v2.heap.size < _; first | (simp <;> omega) | omega)).trans (by go_simp)
      replace OM := Lib.hid (OM.out.below hA (fun g hg => (OM.out.lt g hg).2))
      replace ON := Lib.hid (ON.out.below hA (fun g hg => (ON.out.lt g hg).2))
      replace OK := Lib.hid (OK.out.below hA (fun g hg => (OK.out.lt g hg).2))
      replace HB := Lib.hid (HB.out.trans (hA.mono HB.out.size))
      have LOW : Hid (∀ g, (.slice AOW Z.length COW : Value).ownBlock = some g → v2.heap.size + 1 ≤ g ∧ g < v3.heap.size) := Lib.hid (fun g hg => by have := ho.lt g hg; first | omega | (simp at this; omega) | (simp at this ⊢; omega))
      have OW := Lib.hid ho
      clear hb hA ho
      have z0v3 : v1.heap.size < v3.heap.size := by omega
      have z1v3 : v1.heap.size + 1 < v3.heap.size := by omega
      have z2v3 : v1.heap.size + 2 < v3.heap.size := by omega
      have z3v3 : v2.heap.size < v3.heap.size := by omega
      clear z0v2 z1v2 z2v2
      go_wp2_with fail
      refine (weEqual_c _ _ _ _ _ _ Z _ ((OK.out.rowAt.alloc _)) ((OW.out.rowAt.alloc _))).mono ?_
      rintro e v4 ⟨rfl, hb⟩
      have hA : Below v3.heap.size v3 v4 := Below.trans (by repeat (first | exact Below.refl _ _ | (refine Below.alloc ?_ (by first | (simp <;> omega) | omega) _) | (refine Below.setCell ?_ (by first | (simp <;> omega) | omega) _) | (refine Below.drew ?_) | (refine below_drewN ?_ _))) (hb.mono (by first | exact Nat.le_refl _ | (simp <;> omega) | omega))
      have hsv4 : v3.heap.size + 1 ≤ v4.heap.size := by have := hb.size; first | (simp at this; omega) | omega
      replace m0 : v4.cell? ⟨v1.heap.size, 0, none⟩ = some (.int .i64 s) := (hA.cell (by show v1.heap.size < _; omega)).trans m0
      replace m1 : v4.cell? ⟨v1.heap.size, 1, none⟩ = some (.slice A ms.length C) := (hA.cell (by show v1.heap.size < _; omega)).trans m1
      replace n0 : v4.cell? ⟨v1.heap.size + 1, 0, none⟩ = some (.int .i64 s) := (hA.cell (by show v1.heap.size + 1 < _; omega)).trans n0
      replace n1 : v4.cell? ⟨v1.heap.size + 1, 1, none⟩ = some (.slice A' ns.length C') := (hA.cell (by show v1.heap.size + 1 < _; omega)).trans n1
      replace f0 : v4.cell? ⟨v1.heap.size + 2, 0, none⟩ = some (.int .i64 p) := (hA.cell (by show v1.heap.size + 2 < _; omega)).trans f0
      replace f1 : v4.cell? ⟨v1.heap.size + 2, 1, none⟩ = some (.int .i64 q) := (hA.cell (by show v1.heap.size + 2 < _; omega)).trans f1
      replace k0 : v4.cell? ⟨v2.heap.size, 0, none⟩ = some (.int .i64 s) := (hA.cell (by show v2.heap.size < _; omega)).trans k0
      replace k1 : v4.cell? ⟨v2.heap.size, 1, none⟩ = some (.slice AOK Z.length COK) := (hA.cell (by show v2.heap.size < _; omega)).trans k1
      have l0 : v4.cell? ⟨v3.heap.size, 0, none⟩ = some (.int .i64 s) := (hb.cell (by show v3.heap.size < _; first | (simp <;> omega) | omega)).trans (by go_simp)
      have l1 : v4.cell? ⟨v3.heap.size, 1, none⟩ = some (.slice AOW Z.length COW) := (hb.cell (by show v3.heap.size < _; first | (simp <;> omega) | omega)).trans (by go_simp)
      replace OM := Lib.hid (OM.out.below hA (fun g hg => (OM.out.lt g hg).2))
      replace ON := Lib.hid (ON.out.below hA (fun g hg => (ON.out.lt g hg).2))
      replace OK := Lib.hid (OK.out.below hA (fun g hg => (OK.out.lt g hg).2))
      replace OW := Lib.hid (OW.out.below hA (fun g hg => (OW.out.lt g hg).2))
      replace HB := Lib.hid (HB.out.trans (hA.mono HB.out.size))
      clear hb hA
      have z0v4 : v1.heap.size < v4.heap.size := by omega
      have z1v4 : v1.heap.size + 1 < v4.heap.size := by omega
      have z2v4 : v1.heap.size + 2 < v4.heap.size := by omega
      have z3v4 : v2.heap.size < v4.heap.size := by omega
      have z4v4 : v3.heap.size < v4.heap.size := by omega
      clear z0v3 z1v3 z2v3 z3v3
      go_wp2_with fail
      clear OW l0 l1
      refine (impl_Minus_c _ _ _).mono ?_
      rintro e v5 ⟨rfl, hb⟩
      have hA : Below v4.heap.size v4 v5 := Below.trans (by repeat (first | exact Below.refl _ _ | (refine Below.alloc ?_ (by first | (simp <;> omega) | omega) _) | (refine Below.setCell ?_ (by first | (simp <;> omega) | omega) _) | (refine Below.drew ?_) | (refine below_drewN ?_ _))) (hb.mono (by first | exact Nat.le_refl _ | (simp <;> omega) | omega))
      have hsv5 : v4.heap.size ≤ v5.heap.size := hA.size
      replace m0 : v5.cell? ⟨v1.heap.size, 0, none⟩ = some (.int .i64 s) := (hA.cell (by show v1.heap.size < _; omega)).trans m0
      replace m1 : v5.cell? ⟨v1.heap.size, 1, none⟩ = some (.slice A ms.length C) := (hA.cell (by show v1.heap.size < _; omega)).trans m1
      replace n0 : v5.cell? ⟨v1.heap.size + 1, 0, none⟩ = some (.int .i64 s) := (hA.cell (by show v1.heap.size + 1 < _; omega)).trans n0
      replace n1 : v5.cell? ⟨v1.heap.size + 1, 1, none⟩ = some (.slice A' ns.length C') := (hA.cell (by show v1.heap.size + 1 < _; omega)).trans n1
      replace f0 : v5.cell? ⟨v1.heap.size + 2, 0, none⟩ = some (.int .i64 p) := (hA.cell (by show v1.heap.size + 2 < _; omega)).trans f0
      replace f1 : v5.cell? ⟨v1.heap.size + 2, 1, none⟩ = some (.int .i64 q) := (hA.cell (by show v1.heap.size + 2 < _; omega)).trans f1
      replace k0 : v5.cell? ⟨v2.heap.size, 0, none⟩ = some (.int .i64 s) := (hA.cell (by show v2.heap.size < _; omega)).trans k0
      replace k1 : v5.cell? ⟨v2.heap.size, 1, none⟩ = some (.slice AOK Z.length COK) := (hA.cell (by show v2.heap.size < _; omega)).trans k1
      replace OM := Lib.hid (OM.out.below hA (fun g hg => (OM.out.lt g hg).2))
      replace ON := Lib.hid (ON.out.below hA (fun g hg => (ON.out.lt g hg).2))
      replace OK := Lib.hid (OK.out.below hA (fun g hg => (OK.out.lt g hg).2))
      replace HB := Lib.hid (HB.out.trans (hA.mono HB.out.size))
      clear hb hA
      have z0v5 : v1.heap.size < v5.heap.size := by omega
      have z1v5 : v1.heap.size + 1 < v5.heap.size := by omega
      have z2v5 : v1.heap.size + 2 < v5.heap.size := by omega
      have z3v5 : v2.heap.size < v5.heap.size := by omega
      clear z0v4 z1v4 z2v4 z3v4 z4v4
      rw [HFR.out, sel_true, sel_true]
      go_wp2_with fail
      refine (impl_Add_c _ _ _ _ _).mono ?_
      rintro e v6 ⟨rfl, hb⟩
      have hA : Below v5.heap.size v5 v6 := Below.trans (by repeat (first | exact Below.refl _ _ | (refine Below.alloc ?_ (by first | (simp <;> omega) | omega) _) | (refine Below.setCell ?_ (by first | (simp <;> omega) | omega) _) | (refine Below.drew ?_) | (refine below_drewN ?_ _))) (hb.mono (by first | exact Nat.le_refl _ | (simp <;> omega) | omega))
      have hsv6 : v5.heap.size + 1 ≤ v6.heap.size := by have := hb.size; first | (simp at this; omega) | omega
      replace m0 : v6.cell? ⟨v1.heap.size, 0, none⟩ = some (.int .i64 s) := (hA.cell (by show v1.heap.size < _; omega)).trans m0
      replace m1 : v6.cell? ⟨v1.heap.size, 1, none⟩ = some (.slice A ms.length C) := (hA.cell (by show v1.heap.size < _; omega)).trans m1
      replace n0 : v6.cell? ⟨v1.heap.size + 1, 0, none⟩ = some (.int .i64 s) := (hA.cell (by show v1.heap.size + 1 < _; omega)).trans n0
      replace n1 : v6.cell? ⟨v1.heap.size + 1, 1, none⟩ = some (.slice A' ns.length C') := (hA.cell (by show v1.heap.size + 1 < _; omega)).trans n1
      replace f0 : v6.cell? ⟨v1.heap.size + 2, 0, none⟩ = some (.int .i64 p) := (hA.cell (by show v1.heap.size + 2 < _; omega)).trans f0
      replace f1 : v6.cell? ⟨v1.heap.size + 2, 1, none⟩ = some (.int .i64 q) := (hA.cell (by show v1.heap.size + 2 < _; omega)).trans f1
      replace k0 : v6.cell? ⟨v2.heap.size, 0, none⟩ = some (.int .i64 s) := (hA.cell (by show v2.heap.size < _; omega)).trans k0
      replace k1 : v6.cell? ⟨v2.heap.size, 1, none⟩ = some (.slice AOK Z.length COK) := (hA.cell (by show v2.heap.size < _; omega)).trans k1
      have c0 : v6.cell? ⟨v5.heap.size, 0, none⟩ = some (.int .i64 (-p)) := (hb.cell (by show v5.heap.size < _; first | (simp <;> omega) | omega)).trans (by go_simp)
      have c1 : v6.cell? ⟨v5.heap.size, 1, none⟩ = some (.int .i64 (q)) := (hb.cell (by show v5.heap.size < _; first | (simp <;> omega) | omega)).trans (by go_simp)
      replace OM := Lib.hid (OM.out.below hA (fun g hg => (OM.out.lt g hg).2))
      replace ON := Lib.hid (ON.out.below hA (fun g hg => (ON.out.lt g hg).2))
      replace OK := Lib.hid (OK.out.below hA (fun g hg => (OK.out.lt g hg).2))
      replace HB := Lib.hid (HB.out.trans (hA.mono HB.out.size))
      clear hb hA
      have z0v6 : v1.heap.size < v6.heap.size := by omega
      have z1v6 : v1.heap.size + 1 < v6.heap.size := by omega
      have z2v6 : v1.heap.size + 2 < v6.heap.size := by omega
      have z3v6 : v2.heap.size < v6.heap.size := by omega
      have z4v6 : v5.heap.size < v6.heap.size := by omega
      clear z0v5 z1v5 z2v5 z3v5
      rw [HSA.out, HSB.out, HAD.out]
      go_wp2_with fail
      obtain ⟨v7, hv⟩ : ∃ x, x = v6.alloc (.cells #[.int .i64 (q - p), .int .i64 q] 40) := ⟨_, rfl⟩
      rw [← hv]
      have hA : Below v6.heap.size v6 v7 := by rw [hv]; exact (Below.refl _ _).alloc (Nat.le_refl _) _
      have hsv7 : v6.heap.size + 1 ≤ v7.heap.size := by rw [hv]; simp
      replace m0 : v7.cell? ⟨v1.heap.size, 0, none⟩ = some (.int .i64 s) := (hA.cell (by show v1.heap.size < _; omega)).trans m0
      replace m1 : v7.cell? ⟨v1.heap.size, 1, none⟩ = some (.slice A ms.length C) := (hA.cell (by show v1.heap.size < _; omega)).trans m1
      replace n0 : v7.cell? ⟨v1.heap.size + 1, 0, none⟩ = some (.int .i64 s) := (hA.cell (by show v1.heap.size + 1 < _; omega)).trans n0
      replace n1 : v7.cell? ⟨v1.heap.size + 1, 1, none⟩ = some (.slice A' ns.length C') := (hA.cell (by show v1.heap.size + 1 < _; omega)).trans n1
      replace f0 : v7.cell? ⟨v1.heap.size + 2, 0, none⟩ = some (.int .i64 p) := (hA.cell (by show v1.heap.size + 2 < _; omega)).trans f0
      replace f1 : v7.cell? ⟨v1.heap.size + 2, 1, none⟩ = some (.int .i64 q) := (hA.cell (by show v1.heap.size + 2 < _; omega)).trans f1
      replace k0 : v7.cell? ⟨v2.heap.size, 0, none⟩ = some (.int .i64 s) := (hA.cell (by show v2.heap.size < _; omega)).trans k0
      replace k1 : v7.cell? ⟨v2.heap.size, 1, none⟩ = some (.slice AOK Z.length COK) := (hA.cell (by show v2.heap.size < _; omega)).trans k1
      replace c0 : v7.cell? ⟨v5.heap.size, 0, none⟩ = some (.int .i64 (-p)) := (hA.cell (by show v5.heap.size < _; omega)).trans c0
      replace c1 : v7.cell? ⟨v5.heap.size, 1, none⟩ = some (.int .i64 (q)) := (hA.cell (by show v5.heap.size < _; omega)).trans c1
      have r0 : v7.cell? ⟨v6.heap.size, 0, none⟩ = some (.int .i64 (q - p)) := by rw [hv]; go_simp
      have r1 : v7.cell? ⟨v6.heap.size, 1, none⟩ = some (.int .i64 q) := by rw [hv]; go_simp
      replace OM := Lib.hid (OM.out.below hA (fun g hg => (OM.out.lt g hg).2))
      replace ON := Lib.hid (ON.out.below hA (fun g hg => (ON.out.lt g hg).2))
      replace OK := Lib.hid (OK.out.below hA (fun g hg => (OK.out.lt g hg).2))
      replace HB := Lib.hid (HB.out.trans (hA.mono HB.out.size))
      clear hA hv
      have z0v7 : v1.heap.size < v7.heap.size := by omega
      have z1v7 : v1.heap.size + 1 < v7.heap.size := by omega
      have z2v7 : v1.heap.size + 2 < v7.heap.size := by omega
      have z3v7 : v2.heap.size < v7.heap.size := by omega
      have z4v7 : v5.heap.size < v7.heap.size := by omega
      have z5v7 : v6.heap.size < v7.heap.size := by omega
      clear z0v6 z1v6 z2v6 z3v6 z4v6
      go_loopw [14] (fun i wr => ∃ k : Nat, k ≤ ms.length ∧ i = .int .i64 k ∧ Below v7.heap.size v7 wr) (fun i _ => ms.length - (intOf i).toNat)
      case atStart => exact ⟨0, Nat.zero_le _, rfl, Below.refl _ _⟩
      case round =>
        obtain ⟨k, hk, rfl, hbw⟩ := hrel
        have HBW := HB
        clear HB
        have HB := Lib.hid hbw
        have hA := hbw
        have hswr : v7.heap.size ≤ wr.heap.size := hA.size
        replace m0 : wr.cell? ⟨v1.heap.size, 0, none⟩ = some (.int .i64 s) := (hA.cell (by show v1.heap.size < _; omega)).trans m0
        replace m1 : wr.cell? ⟨v1.heap.size, 1, none⟩ = some (.slice A ms.length C) := (hA.cell (by show v1.heap.size < _; omega)).trans m1
        replace n0 : wr.cell? ⟨v1.heap.size + 1, 0, none⟩ = some (.int .i64 s) := (hA.cell (by show v1.heap.size + 1 < _; omega)).trans n0
        replace n1 : wr.cell? ⟨v1.heap.size + 1, 1, none⟩ = some (.slice A' ns.length C') := (hA.cell (by show v1.heap.size + 1 < _; omega)).trans n1
        replace f0 : wr.cell? ⟨v1.heap.size + 2, 0, none⟩ = some (.int .i64 p) := (hA.cell (by show v1.heap.size + 2 < _; omega)).trans f0
        replace f1 : wr.cell? ⟨v1.heap.size + 2, 1, none⟩ = some (.int .i64 q) := (hA.cell (by show v1.heap.size + 2 < _; omega)).trans f1
        replace k0 : wr.cell? ⟨v2.heap.size, 0, none⟩ = some (.int .i64 s) := (hA.cell (by show v2.heap.size < _; omega)).trans k0
        replace k1 : wr.cell? ⟨v2.heap.size, 1, none⟩ = some (.slice AOK Z.length COK) := (hA.cell (by show v2.heap.size < _; omega)).trans k1
        replace c0 : wr.cell? ⟨v5.heap.size, 0, none⟩ = some (.int .i64 (-p)) := (hA.cell (by show v5.heap.size < _; omega)).trans c0
        replace c1 : wr.cell? ⟨v5.heap.size, 1, none⟩ = some (.int .i64 (q)) := (hA.cell (by show v5.heap.size < _; omega)).trans c1
        replace r0 : wr.cell? ⟨v6.heap.size, 0, none⟩ = some (.int .i64 (q - p)) := (hA.cell (by show v6.heap.size < _; omega)).trans r0
        replace r1 : wr.cell? ⟨v6.heap.size, 1, none⟩ = some (.int .i64 q) := (hA.cell (by show v6.heap.size < _; omega)).trans r1
        replace OM := Lib.hid (OM.out.below hA (fun g hg => (OM.out.lt g hg).2))
        replace ON := Lib.hid (ON.out.below hA (fun g hg => (ON.out.lt g hg).2))
        replace OK := Lib.hid (OK.out.below hA (fun g hg => (OK.out.lt g hg).2))
        have z0wr : v1.heap.size < wr.heap.size := by omega
        have z1wr : v1.heap.size + 1 < wr.heap.size := by omega
        have z2wr : v1.heap.size + 2 < wr.heap.size := by omega
        have z3wr : v2.heap.size < wr.heap.size := by omega
        have z4wr : v5.heap.size < wr.heap.size := by omega
        have z5wr : v6.heap.size < wr.heap.size := by omega
        clear z0v7 z1v7 z2v7 z3v7 z4v7 z5v7
        clear hA hbw
        by_cases hlt : k < ms.length
        · have hsm := HSM.out k hlt
          have hsn := HSN.out k hlt
          have hsk := HSK.out k hlt
          obtain ⟨X1, hX1⟩ : ∃ x, lowX (ms.getD k 0) (whole ms) = x := ⟨_, rfl⟩
          obtain ⟨X2, hX2⟩ : ∃ x, lowY (ms.getD k 0) (whole ms) = x := ⟨_, rfl⟩
          obtain ⟨Y1, hY1⟩ : ∃ x, lowX (ns.getD k 0) (whole ns) = x := ⟨_, rfl⟩
          obtain ⟨Y2, hY2⟩ : ∃ x, lowY (ns.getD k 0) (whole ns) = x := ⟨_, rfl⟩
          obtain ⟨Z1, hZ1⟩ : ∃ x, lowX (Z.getD k 0) (whole Z) = x := ⟨_, rfl⟩
          obtain ⟨Z2, hZ2⟩ : ∃ x, lowY (Z.getD k 0) (whole Z) = x := ⟨_, rfl⟩
          obtain ⟨B1, hB1⟩ : ∃ x, timesB p q X1 X2 = x := ⟨_, rfl⟩
          obtain ⟨P1, hP1⟩ : ∃ x, sel (timesB p q X1 X2) (lowX (p * X1) (q * X2)) = x := ⟨_, rfl⟩
          obtain ⟨P2, hP2⟩ : ∃ x, sel (timesB p q X1 X2) (lowY (p * X1) (q * X2)) = x := ⟨_, rfl⟩
          obtain ⟨B2, hB2⟩ : ∃ x, timesB (q - p) q Y1 Y2 = x := ⟨_, rfl⟩
          obtain ⟨Q1, hQ1⟩ : ∃ x, sel (timesB (q - p) q Y1 Y2) (lowX ((q - p) * Y1) (q * Y2)) = x := ⟨_, rfl⟩
          obtain ⟨Q2, hQ2⟩ : ∃ x, sel (timesB (q - p) q Y1 Y2) (lowY ((q - p) * Y1) (q * Y2)) = x := ⟨_, rfl⟩
          obtain ⟨B3, hB3⟩ : ∃ x, addB P1 P2 Q1 Q2 = x := ⟨_, rfl⟩
          obtain ⟨S1, hS1⟩ : ∃ x, sel (addB P1 P2 Q1 Q2) (lowX (P1 * Q2 + Q1 * P2) (P2 * Q2)) = x := ⟨_, rfl⟩
          obtain ⟨S2, hS2⟩ : ∃ x, sel (addB P1 P2 Q1 Q2) (lowY (P1 * Q2 + Q1 * P2) (P2 * Q2)) = x := ⟨_, rfl⟩
          have heq : B1 = true → B2 = true → B3 = true → S1 = Z1 ∧ S2 = Z2 := by
            rintro rfl rfl rfl
            rw [hB1, sel_true] at hP1 hP2
            rw [hB2, sel_true] at hQ1 hQ2
            rw [hB3, sel_true] at hS1 hS2
            exact HST.out k hlt HMB.out hlt hX1 hX2 hY1 hY2 hZ1 hZ2 hP1 hP2 hQ1 hQ2 hS1 hS2 hB3
          have HX1 := Lib.hid hX1
          have HX2 := Lib.hid hX2
          have HY1 := Lib.hid hY1
          have HY2 := Lib.hid hY2
          have HZ1 := Lib.hid hZ1
          have HZ2 := Lib.hid hZ2
          have HB1 := Lib.hid hB1
          have HP1 := Lib.hid hP1
          have HP2 := Lib.hid hP2
          have HB2 := Lib.hid hB2
          have HQ1 := Lib.hid hQ1
          have HQ2 := Lib.hid hQ2
          have HB3 := Lib.hid hB3
          have HS1 := Lib.hid hS1
          have HS2 := Lib.hid hS2
          have KM := Lib.hid hsm
          have KN := Lib.hid hsn
          have KK := Lib.hid hsk
          have HEQ := Lib.hid heq
          clear hX1 hX2 hY1 hY2 hZ1 hZ2 hB1 hP1 hP2 hB2 hQ1 hQ2 hB3 hS1 hS2 hsm hsn hsk heq
          go_wp2_with fail
          refine (impl_ShareOf_c s _ _ _ ms (k : Int) _ (OM.out.rowAt)).mono ?_
          rintro e v31 ⟨rfl, hb⟩
          have hA : Below wr.heap.size wr v31 := Below.trans (by repeat (first | exact Below.refl _ _ | (refine Below.alloc ?_ (by first | (simp <;> omega) | omega) _) | (refine Below.setCell ?_ (by first | (simp <;> omega) | omega) _) | (refine Below.drew ?_) | (refine below_drewN ?_ _))) (hb.mono (by first | exact Nat.le_refl _ | (simp <;> omega) | omega))
          have hsv31 : wr.heap.size ≤ v31.heap.size := hA.size
          replace m0 : v31.cell? ⟨v1.heap.size, 0, none⟩ = some (.int .i64 s) := (hA.cell (by show v1.heap.size < _; omega)).trans m0
          replace m1 : v31.cell? ⟨v1.heap.size, 1, none⟩ = some (.slice A ms.length C) := (hA.cell (by show v1.heap.size < _; omega)).trans m1
          replace n0 : v31.cell? ⟨v1.heap.size + 1, 0, none⟩ = some (.int .i64 s) := (hA.cell (by show v1.heap.size + 1 < _; omega)).trans n0
          replace n1 : v31.cell? ⟨v1.heap.size + 1, 1, none⟩ = some (.slice A' ns.length C') := (hA.cell (by show v1.heap.size + 1 < _; omega)).trans n1
          replace f0 : v31.cell? ⟨v1.heap.size + 2, 0, none⟩ = some (.int .i64 p) := (hA.cell (by show v1.heap.size + 2 < _; omega)).trans f0
          replace f1 : v31.cell? ⟨v1.heap.size + 2, 1, none⟩ = some (.int .i64 q) := (hA.cell (by show v1.heap.size + 2 < _; omega)).trans f1
          replace k0 : v31.cell? ⟨v2.heap.size, 0, none⟩ = some (.int .i64 s) := (hA.cell (by show v2.heap.size < _; omega)).trans k0
          replace k1 : v31.cell? ⟨v2.heap.size, 1, none⟩ = some (.slice AOK Z.length COK) := (hA.cell (by show v2.heap.size < _; omega)).trans k1
          replace c0 : v31.cell? ⟨v5.heap.size, 0, none⟩ = some (.int .i64 (-p)) := (hA.cell (by show v5.heap.size < _; omega)).trans c0
          replace c1 : v31.cell? ⟨v5.heap.size, 1, none⟩ = some (.int .i64 (q)) := (hA.cell (by show v5.heap.size < _; omega)).trans c1
          replace r0 : v31.cell? ⟨v6.heap.size, 0, none⟩ = some (.int .i64 (q - p)) := (hA.cell (by show v6.heap.size < _; omega)).trans r0
          replace r1 : v31.cell? ⟨v6.heap.size, 1, none⟩ = some (.int .i64 q) := (hA.cell (by show v6.heap.size < _; omega)).trans r1
          replace OM := Lib.hid (OM.out.below hA (fun g hg => (OM.out.lt g hg).2))
          replace ON := Lib.hid (ON.out.below hA (fun g hg => (ON.out.lt g hg).2))
          replace OK := Lib.hid (OK.out.below hA (fun g hg => (OK.out.lt g hg).2))
          replace HB := Lib.hid (HB.out.trans (hA.mono HB.out.size))
          clear hb hA
          have z0v31 : v1.heap.size < v31.heap.size := by omega
          have z1v31 : v1.heap.size + 1 < v31.heap.size := by omega
          have z2v31 : v1.heap.size + 2 < v31.heap.size := by omega
          have z3v31 : v2.heap.size < v31.heap.size := by omega
          have z4v31 : v5.heap.size < v31.heap.size := by omega
          have z5v31 : v6.heap.size < v31.heap.size := by omega
          clear z0wr z1wr z2wr z3wr z4wr z5wr
          rw [KM.out, sel_true, sel_true, Int.toNat_natCast, HX1.out, HX2.out]
          go_wp2_with fail
          refine (impl_ShareOf_c s _ _ _ ns (k : Int) _ ((ON.out.rowAt.alloc _))).mono ?_
          rintro e v32 ⟨rfl, hb⟩
          have hA : Below v31.heap.size v31 v32 := Below.trans (by repeat (first | exact Below.refl _ _ | (refine Below.alloc ?_ (by first | (simp <;> omega) | omega) _) | (refine Below.setCell ?_ (by first | (simp <;> omega) | omega) _) | (refine Below.drew ?_) | (refine below_drewN ?_ _))) (hb.mono (by first | exact Nat.le_refl _ | (simp <;> omega) | omega))
          have hsv32 : v31.heap.size + 1 ≤ v32.heap.size := by have := hb.size; first | (simp at this; omega) | omega
          replace m0 : v32.cell? ⟨v1.heap.size, 0, none⟩ = some (.int .i64 s) := (hA.cell (by show v1.heap.size < _; omega)).trans m0
          replace m1 : v32.cell? ⟨v1.heap.size, 1, none⟩ = some (.slice A ms.length C) := (hA.cell (by show v1.heap.size < _; omega)).trans m1
          replace n0 : v32.cell? ⟨v1.heap.size + 1, 0, none⟩ = some (.int .i64 s) := (hA.cell (by show v1.heap.size + 1 < _; omega)).trans n0
          replace n1 : v32.cell? ⟨v1.heap.size + 1, 1, none⟩ = some (.slice A' ns.length C') := (hA.cell (by show v1.heap.size + 1 < _; omega)).trans n1
          replace f0 : v32.cell? ⟨v1.heap.size + 2, 0, none⟩ = some (.int .i64 p) := (hA.cell (by show v1.heap.size + 2 < _; omega)).trans f0
          replace f1 : v32.cell? ⟨v1.heap.size + 2, 1, none⟩ = some (.int .i64 q) := (hA.cell (by show v1.heap.size + 2 < _; omega)).trans f1
          replace k0 : v32.cell? ⟨v2.heap.size, 0, none⟩ = some (.int .i64 s) := (hA.cell (by show v2.heap.size < _; omega)).trans k0
          replace k1 : v32.cell? ⟨v2.heap.size, 1, none⟩ = some (.slice AOK Z.length COK) := (hA.cell (by show v2.heap.size < _; omega)).trans k1
          replace c0 : v32.cell? ⟨v5.heap.size, 0, none⟩ = some (.int .i64 (-p)) := (hA.cell (by show v5.heap.size < _; omega)).trans c0
          replace c1 : v32.cell? ⟨v5.heap.size, 1, none⟩ = some (.int .i64 (q)) := (hA.cell (by show v5.heap.size < _; omega)).trans c1
          replace r0 : v32.cell? ⟨v6.heap.size, 0, none⟩ = some (.int .i64 (q - p)) := (hA.cell (by show v6.heap.size < _; omega)).trans r0
          replace r1 : v32.cell? ⟨v6.heap.size, 1, none⟩ = some (.int .i64 q) := (hA.cell (by show v6.heap.size < _; omega)).trans r1
          have x0 : v32.cell? ⟨v31.heap.size, 0, none⟩ = some (.int .i64 (X1)) := (hb.cell (by show v31.heap.size < _; first | (simp <;> omega) | omega)).trans (by go_simp)
          have x1 : v32.cell? ⟨v31.heap.size, 1, none⟩ = some (.int .i64 (X2)) := (hb.cell (by show v31.heap.size < _; first | (simp <;> omega) | omega)).trans (by go_simp)
          replace OM := Lib.hid (OM.out.below hA (fun g hg => (OM.out.lt g hg).2))
          replace ON := Lib.hid (ON.out.below hA (fun g hg => (ON.out.lt g hg).2))
          replace OK := Lib.hid (OK.out.below hA (fun g hg => (OK.out.lt g hg).2))
          replace HB := Lib.hid (HB.out.trans (hA.mono HB.out.size))
          clear hb hA
          have z0v32 : v1.heap.size < v32.heap.size := by omega
          have z1v32 : v1.heap.size + 1 < v32.heap.size := by omega
          have z2v32 : v1.heap.size + 2 < v32.heap.size := by omega
          have z3v32 : v2.heap.size < v32.heap.size := by omega
          have z4v32 : v5.heap.size < v32.heap.size := by omega
          have z5v32 : v6.heap.size < v32.heap.size := by omega
          have z6v32 : v31.heap.size < v32.heap.size := by omega
          clear z0v31 z1v31 z2v31 z3v31 z4v31 z5v31
          rw [KN.out, sel_true, sel_true, Int.toNat_natCast, HY1.out, HY2.out]
          go_wp2_with fail
          refine (impl_ShareOf_c s _ _ _ Z (k : Int) _ ((OK.out.rowAt.alloc _))).mono ?_
          rintro e v33 ⟨rfl, hb⟩
          have hA : Below v32.heap.size v32 v33 := Below.trans (by repeat (first | exact Below.refl _ _ | (refine Below.alloc ?_ (by first | (simp <;> omega) | omega) _) | (refine Below.setCell ?_ (by first | (simp <;> omega) | omega) _) | (refine Below.drew ?_) | (refine below_drewN ?_ _))) (hb.mono (by first | exact Nat.le_refl _ | (simp <;> omega) | omega))
          have hsv33 : v32.heap.size + 1 ≤ v33.heap.size := by have := hb.size; first | (simp at this; omega) | omega
          replace m0 : v33.cell? ⟨v1.heap.size, 0, none⟩ = some (.int .i64 s) := (hA.cell (by show v1.heap.size < _; omega)).trans m0
          replace m1 : v33.cell? ⟨v1.heap.size, 1, none⟩ = some (.slice A ms.length C) := (hA.cell (by show v1.heap.size < _; omega)).trans m1
          replace n0 : v33.cell? ⟨v1.heap.size + 1, 0, none⟩ = some (.int .i64 s) := (hA.cell (by show v1.heap.size + 1 < _; omega)).trans n0
          replace n1 : v33.cell? ⟨v1.heap.size + 1, 1, none⟩ = some (.slice A' ns.length C') := (hA.cell (by show v1.heap.size + 1 < _; omega)).trans n1
          replace f0 : v33.cell? ⟨v1.heap.size + 2, 0, none⟩ = some (.int .i64 p) := (hA.cell (by show v1.heap.size + 2 < _; omega)).trans f0
          replace f1 : v33.cell? ⟨v1.heap.size + 2, 1, none⟩ = some (.int .i64 q) := (hA.cell (by show v1.heap.size + 2 < _; omega)).trans f1
          replace k0 : v33.cell? ⟨v2.heap.size, 0, none⟩ = some (.int .i64 s) := (hA.cell (by show v2.heap.size < _; omega)).trans k0
          replace k1 : v33.cell? ⟨v2.heap.size, 1, none⟩ = some (.slice AOK Z.length COK) := (hA.cell (by show v2.heap.size < _; omega)).trans k1
          replace c0 : v33.cell? ⟨v5.heap.size, 0, none⟩ = some (.int .i64 (-p)) := (hA.cell (by show v5.heap.size < _; omega)).trans c0
          replace c1 : v33.cell? ⟨v5.heap.size, 1, none⟩ = some (.int .i64 (q)) := (hA.cell (by show v5.heap.size < _; omega)).trans c1
          replace r0 : v33.cell? ⟨v6.heap.size, 0, none⟩ = some (.int .i64 (q - p)) := (hA.cell (by show v6.heap.size < _; omega)).trans r0
          replace r1 : v33.cell? ⟨v6.heap.size, 1, none⟩ = some (.int .i64 q) := (hA.cell (by show v6.heap.size < _; omega)).trans r1
          replace x0 : v33.cell? ⟨v31.heap.size, 0, none⟩ = some (.int .i64 (X1)) := (hA.cell (by show v31.heap.size < _; omega)).trans x0
          replace x1 : v33.cell? ⟨v31.heap.size, 1, none⟩ = some (.int .i64 (X2)) := (hA.cell (by show v31.heap.size < _; omega)).trans x1
          have y0 : v33.cell? ⟨v32.heap.size, 0, none⟩ = some (.int .i64 (Y1)) := (hb.cell (by show v32.heap.size < _; first | (simp <;> omega) | omega)).trans (by go_simp)
          have y1 : v33.cell? ⟨v32.heap.size, 1, none⟩ = some (.int .i64 (Y2)) := (hb.cell (by show v32.heap.size < _; first | (simp <;> omega) | omega)).trans (by go_simp)
          replace OM := Lib.hid (OM.out.below hA (fun g hg => (OM.out.lt g hg).2))
          replace ON := Lib.hid (ON.out.below hA (fun g hg => (ON.out.lt g hg).2))
          replace OK := Lib.hid (OK.out.below hA (fun g hg => (OK.out.lt g hg).2))
          replace HB := Lib.hid (HB.out.trans (hA.mono HB.out.size))
          clear hb hA
          have z0v33 : v1.heap.size < v33.heap.size := by omega
          have z1v33 : v1.heap.size + 1 < v33.heap.size := by omega
          have z2v33 : v1.heap.size + 2 < v33.heap.size := by omega
          have z3v33 : v2.heap.size < v33.heap.size := by omega
          have z4v33 : v5.heap.size < v33.heap.size := by omega
          have z5v33 : v6.heap.size < v33.heap.size := by omega
          have z6v33 : v31.heap.size < v33.heap.size := by omega
          have z7v33 : v32.heap.size < v33.heap.size := by omega
          clear z0v32 z1v32 z2v32 z3v32 z4v32 z5v32 z6v32
          rw [KK.out, sel_true, sel_true, Int.toNat_natCast, HZ1.out, HZ2.out]
          go_wp2_with fail
          refine (impl_Times_c _ _ _ _ _).mono ?_
          rintro e v34 ⟨rfl, hb⟩
          have hA : Below v33.heap.size v33 v34 := Below.trans (by repeat (first | exact Below.refl _ _ | (refine Below.alloc ?_ (by first | (simp <;> omega) | omega) _) | (refine Below.setCell ?_ (by first | (simp <;> omega) | omega) _) | (refine Below.drew ?_) | (refine below_drewN ?_ _))) (hb.mono (by first | exact Nat.le_refl _ | (simp <;> omega) | omega))
          have hsv34 : v33.heap.size + 1 ≤ v34.heap.size := by have := hb.size; first | (simp at this; omega) | omega
          replace m0 : v34.cell? ⟨v1.heap.size, 0, none⟩ = some (.int .i64 s) := (hA.cell (by show v1.heap.size < _; omega)).trans m0
          replace m1 : v34.cell? ⟨v1.heap.size, 1, none⟩ = some (.slice A ms.length C) := (hA.cell (by show v1.heap.size < _; omega)).trans m1
          replace n0 : v34.cell? ⟨v1.heap.size + 1, 0, none⟩ = some (.int .i64 s) := (hA.cell (by show v1.heap.size + 1 < _; omega)).trans n0
          replace n1 : v34.cell? ⟨v1.heap.size + 1, 1, none⟩ = some (.slice A' ns.length C') := (hA.cell (by show v1.heap.size + 1 < _; omega)).trans n1
          replace f0 : v34.cell? ⟨v1.heap.size + 2, 0, none⟩ = some (.int .i64 p) := (hA.cell (by show v1.heap.size + 2 < _; omega)).trans f0
          replace f1 : v34.cell? ⟨v1.heap.size + 2, 1, none⟩ = some (.int .i64 q) := (hA.cell (by show v1.heap.size + 2 < _; omega)).trans f1
          replace k0 : v34.cell? ⟨v2.heap.size, 0, none⟩ = some (.int .i64 s) := (hA.cell (by show v2.heap.size < _; omega)).trans k0
          replace k1 : v34.cell? ⟨v2.heap.size, 1, none⟩ = some (.slice AOK Z.length COK) := (hA.cell (by show v2.heap.size < _; omega)).trans k1
          replace c0 : v34.cell? ⟨v5.heap.size, 0, none⟩ = some (.int .i64 (-p)) := (hA.cell (by show v5.heap.size < _; omega)).trans c0
          replace c1 : v34.cell? ⟨v5.heap.size, 1, none⟩ = some (.int .i64 (q)) := (hA.cell (by show v5.heap.size < _; omega)).trans c1
          replace r0 : v34.cell? ⟨v6.heap.size, 0, none⟩ = some (.int .i64 (q - p)) := (hA.cell (by show v6.heap.size < _; omega)).trans r0
          replace r1 : v34.cell? ⟨v6.heap.size, 1, none⟩ = some (.int .i64 q) := (hA.cell (by show v6.heap.size < _; omega)).trans r1
          replace x0 : v34.cell? ⟨v31.heap.size, 0, none⟩ = some (.int .i64 (X1)) := (hA.cell (by show v31.heap.size < _; omega)).trans x0
          replace x1 : v34.cell? ⟨v31.heap.size, 1, none⟩ = some (.int .i64 (X2)) := (hA.cell (by show v31.heap.size < _; omega)).trans x1
          replace y0 : v34.cell? ⟨v32.heap.size, 0, none⟩ = some (.int .i64 (Y1)) := (hA.cell (by show v32.heap.size < _; omega)).trans y0
          replace y1 : v34.cell? ⟨v32.heap.size, 1, none⟩ = some (.int .i64 (Y2)) := (hA.cell (by show v32.heap.size < _; omega)).trans y1
          have zz0 : v34.cell? ⟨v33.heap.size, 0, none⟩ = some (.int .i64 (Z1)) := (hb.cell (by show v33.heap.size < _; first | (simp <;> omega) | omega)).trans (by go_simp)
          have zz1 : v34.cell? ⟨v33.heap.size, 1, none⟩ = some (.int .i64 (Z2)) := (hb.cell (by show v33.heap.size < _; first | (simp <;> omega) | omega)).trans (by go_simp)
          replace OM := Lib.hid (OM.out.below hA (fun g hg => (OM.out.lt g hg).2))
          replace ON := Lib.hid (ON.out.below hA (fun g hg => (ON.out.lt g hg).2))
          replace OK := Lib.hid (OK.out.below hA (fun g hg => (OK.out.lt g hg).2))
          replace HB := Lib.hid (HB.out.trans (hA.mono HB.out.size))
          clear hb hA
          have z0v34 : v1.heap.size < v34.heap.size := by omega
          have z1v34 : v1.heap.size + 1 < v34.heap.size := by omega
          have z2v34 : v1.heap.size + 2 < v34.heap.size := by omega
          have z3v34 : v2.heap.size < v34.heap.size := by omega
          have z4v34 : v5.heap.size < v34.heap.size := by omega
          have z5v34 : v6.heap.size < v34.heap.size := by omega
          have z6v34 : v31.heap.size < v34.heap.size := by omega
          have z7v34 : v32.heap.size < v34.heap.size := by omega
          have z8v34 : v33.heap.size < v34.heap.size := by omega
          clear z0v33 z1v33 z2v33 z3v33 z4v33 z5v33 z6v33 z7v33
          rw [HP1.out, HP2.out, HB1.out]
          go_wp2_with fail
          refine (impl_Times_c _ _ _ _ _).mono ?_
          rintro e v35 ⟨rfl, hb⟩
          have hA : Below v34.heap.size v34 v35 := Below.trans (by repeat (first | exact Below.refl _ _ | (refine Below.alloc ?_ (by first | (simp <;> omega) | omega) _) | (refine Below.setCell ?_ (by first | (simp <;> omega) | omega) _) | (refine Below.drew ?_) | (refine below_drewN ?_ _))) (hb.mono (by first | exact Nat.le_refl _ | (simp <;> omega) | omega))
          have hsv35 : v34.heap.size + 1 ≤ v35.heap.size := by have := hb.size; first | (simp at this; omega) | omega
          replace m0 : v35.cell? ⟨v1.heap.size, 0, none⟩ = some (.int .i64 s) := (hA.cell (by show v1.heap.size < _; omega)).trans m0
          replace m1 : v35.cell? ⟨v1.heap.size, 1, none⟩ = some (.slice A ms.length C) := (hA.cell (by show v1.heap.size < _; omega)).trans m1
          replace n0 : v35.cell? ⟨v1.heap.size + 1, 0, none⟩ = some (.int .i64 s) := (hA.cell (by show v1.heap.size + 1 < _; omega)).trans n0
          replace n1 : v35.cell? ⟨v1.heap.size + 1, 1, none⟩ = some (.slice A' ns.length C') := (hA.cell (by show v1.heap.size + 1 < _; omega)).trans n1
          replace f0 : v35.cell? ⟨v1.heap.size + 2, 0, none⟩ = some (.int .i64 p) := (hA.cell (by show v1.heap.size + 2 < _; omega)).trans f0
          replace f1 : v35.cell? ⟨v1.heap.size + 2, 1, none⟩ = some (.int .i64 q) := (hA.cell (by show v1.heap.size + 2 < _; omega)).trans f1
          replace k0 : v35.cell? ⟨v2.heap.size, 0, none⟩ = some (.int .i64 s) := (hA.cell (by show v2.heap.size < _; omega)).trans k0
          replace k1 : v35.cell? ⟨v2.heap.size, 1, none⟩ = some (.slice AOK Z.length COK) := (hA.cell (by show v2.heap.size < _; omega)).trans k1
          replace c0 : v35.cell? ⟨v5.heap.size, 0, none⟩ = some (.int .i64 (-p)) := (hA.cell (by show v5.heap.size < _; omega)).trans c0
          replace c1 : v35.cell? ⟨v5.heap.size, 1, none⟩ = some (.int .i64 (q)) := (hA.cell (by show v5.heap.size < _; omega)).trans c1
          replace r0 : v35.cell? ⟨v6.heap.size, 0, none⟩ = some (.int .i64 (q - p)) := (hA.cell (by show v6.heap.size < _; omega)).trans r0
          replace r1 : v35.cell? ⟨v6.heap.size, 1, none⟩ = some (.int .i64 q) := (hA.cell (by show v6.heap.size < _; omega)).trans r1
          replace x0 : v35.cell? ⟨v31.heap.size, 0, none⟩ = some (.int .i64 (X1)) := (hA.cell (by show v31.heap.size < _; omega)).trans x0
          replace x1 : v35.cell? ⟨v31.heap.size, 1, none⟩ = some (.int .i64 (X2)) := (hA.cell (by show v31.heap.size < _; omega)).trans x1
          replace y0 : v35.cell? ⟨v32.heap.size, 0, none⟩ = some (.int .i64 (Y1)) := (hA.cell (by show v32.heap.size < _; omega)).trans y0
          replace y1 : v35.cell? ⟨v32.heap.size, 1, none⟩ = some (.int .i64 (Y2)) := (hA.cell (by show v32.heap.size < _; omega)).trans y1
          replace zz0 : v35.cell? ⟨v33.heap.size, 0, none⟩ = some (.int .i64 (Z1)) := (hA.cell (by show v33.heap.size < _; omega)).trans zz0
          replace zz1 : v35.cell? ⟨v33.heap.size, 1, none⟩ = some (.int .i64 (Z2)) := (hA.cell (by show v33.heap.size < _; omega)).trans zz1
          have p0 : v35.cell? ⟨v34.heap.size, 0, none⟩ = some (.int .i64 (P1)) := (hb.cell (by show v34.heap.size < _; first | (simp <;> omega) | omega)).trans (by go_simp)
          have p1 : v35.cell? ⟨v34.heap.size, 1, none⟩ = some (.int .i64 (P2)) := (hb.cell (by show v34.heap.size < _; first | (simp <;> omega) | omega)).trans (by go_simp)
          replace OM := Lib.hid (OM.out.below hA (fun g hg => (OM.out.lt g hg).2))
          replace ON := Lib.hid (ON.out.below hA (fun g hg => (ON.out.lt g hg).2))
          replace OK := Lib.hid (OK.out.below hA (fun g hg => (OK.out.lt g hg).2))
          replace HB := Lib.hid (HB.out.trans (hA.mono HB.out.size))
          clear hb hA
          have z0v35 : v1.heap.size < v35.heap.size := by omega
          have z1v35 : v1.heap.size + 1 < v35.heap.size := by omega
          have z2v35 : v1.heap.size + 2 < v35.heap.size := by omega
          have z3v35 : v2.heap.size < v35.heap.size := by omega
          have z4v35 : v5.heap.size < v35.heap.size := by omega
          have z5v35 : v6.heap.size < v35.heap.size := by omega
          have z6v35 : v31.heap.size < v35.heap.size := by omega
          have z7v35 : v32.heap.size < v35.heap.size := by omega
          have z8v35 : v33.heap.size < v35.heap.size := by omega
          have z9v35 : v34.heap.size < v35.heap.size := by omega
          clear z0v34 z1v34 z2v34 z3v34 z4v34 z5v34 z6v34 z7v34 z8v34
          rw [HQ1.out, HQ2.out, HB2.out]
          go_wp2_with fail
          refine (impl_Add_c _ _ _ _ _).mono ?_
          rintro e v36 ⟨rfl, hb⟩
          have hA : Below v35.heap.size v35 v36 := Below.trans (by repeat (first | exact Below.refl _ _ | (refine Below.alloc ?_ (by first | (simp <;> omega) | omega) _) | (refine Below.setCell ?_ (by first | (simp <;> omega) | omega) _) | (refine Below.drew ?_) | (refine below_drewN ?_ _))) (hb.mono (by first | exact Nat.le_refl _ | (simp <;> omega) | omega))
          have hsv36 : v35.heap.size + 1 ≤ v36.heap.size := by have := hb.size; first | (simp at this; omega) | omega
          replace m0 : v36.cell? ⟨v1.heap.size, 0, none⟩ = some (.int .i64 s) := (hA.cell (by show v1.heap.size < _; omega)).trans m0
          replace m1 : v36.cell? ⟨v1.heap.size, 1, none⟩ = some (.slice A ms.length C) := (hA.cell (by show v1.heap.size < _; omega)).trans m1
          replace n0 : v36.cell? ⟨v1.heap.size + 1, 0, none⟩ = some (.int .i64 s) := (hA.cell (by show v1.heap.size + 1 < _; omega)).trans n0
          replace n1 : v36.cell? ⟨v1.heap.size + 1, 1, none⟩ = some (.slice A' ns.length C') := (hA.cell (by show v1.heap.size + 1 < _; omega)).trans n1
          replace f0 : v36.cell? ⟨v1.heap.size + 2, 0, none⟩ = some (.int .i64 p) := (hA.cell (by show v1.heap.size + 2 < _; omega)).trans f0
          replace f1 : v36.cell? ⟨v1.heap.size + 2, 1, none⟩ = some (.int .i64 q) := (hA.cell (by show v1.heap.size + 2 < _; omega)).trans f1
          replace k0 : v36.cell? ⟨v2.heap.size, 0, none⟩ = some (.int .i64 s) := (hA.cell (by show v2.heap.size < _; omega)).trans k0
          replace k1 : v36.cell? ⟨v2.heap.size, 1, none⟩ = some (.slice AOK Z.length COK) := (hA.cell (by show v2.heap.size < _; omega)).trans k1
          replace c0 : v36.cell? ⟨v5.heap.size, 0, none⟩ = some (.int .i64 (-p)) := (hA.cell (by show v5.heap.size < _; omega)).trans c0
          replace c1 : v36.cell? ⟨v5.heap.size, 1, none⟩ = some (.int .i64 (q)) := (hA.cell (by show v5.heap.size < _; omega)).trans c1
          replace r0 : v36.cell? ⟨v6.heap.size, 0, none⟩ = some (.int .i64 (q - p)) := (hA.cell (by show v6.heap.size < _; omega)).trans r0
          replace r1 : v36.cell? ⟨v6.heap.size, 1, none⟩ = some (.int .i64 q) := (hA.cell (by show v6.heap.size < _; omega)).trans r1
          replace x0 : v36.cell? ⟨v31.heap.size, 0, none⟩ = some (.int .i64 (X1)) := (hA.cell (by show v31.heap.size < _; omega)).trans x0
          replace x1 : v36.cell? ⟨v31.heap.size, 1, none⟩ = some (.int .i64 (X2)) := (hA.cell (by show v31.heap.size < _; omega)).trans x1
          replace y0 : v36.cell? ⟨v32.heap.size, 0, none⟩ = some (.int .i64 (Y1)) := (hA.cell (by show v32.heap.size < _; omega)).trans y0
          replace y1 : v36.cell? ⟨v32.heap.size, 1, none⟩ = some (.int .i64 (Y2)) := (hA.cell (by show v32.heap.size < _; omega)).trans y1
          replace zz0 : v36.cell? ⟨v33.heap.size, 0, none⟩ = some (.int .i64 (Z1)) := (hA.cell (by show v33.heap.size < _; omega)).trans zz0
          replace zz1 : v36.cell? ⟨v33.heap.size, 1, none⟩ = some (.int .i64 (Z2)) := (hA.cell (by show v33.heap.size < _; omega)).trans zz1
          replace p0 : v36.cell? ⟨v34.heap.size, 0, none⟩ = some (.int .i64 (P1)) := (hA.cell (by show v34.heap.size < _; omega)).trans p0
          replace p1 : v36.cell? ⟨v34.heap.size, 1, none⟩ = some (.int .i64 (P2)) := (hA.cell (by show v34.heap.size < _; omega)).trans p1
          have q0 : v36.cell? ⟨v35.heap.size, 0, none⟩ = some (.int .i64 (Q1)) := (hb.cell (by show v35.heap.size < _; first | (simp <;> omega) | omega)).trans (by go_simp)
          have q1 : v36.cell? ⟨v35.heap.size, 1, none⟩ = some (.int .i64 (Q2)) := (hb.cell (by show v35.heap.size < _; first | (simp <;> omega) | omega)).trans (by go_simp)
          replace OM := Lib.hid (OM.out.below hA (fun g hg => (OM.out.lt g hg).2))
          replace ON := Lib.hid (ON.out.below hA (fun g hg => (ON.out.lt g hg).2))
          replace OK := Lib.hid (OK.out.below hA (fun g hg => (OK.out.lt g hg).2))
          replace HB := Lib.hid (HB.out.trans (hA.mono HB.out.size))
          clear hb hA
          have z0v36 : v1.heap.size < v36.heap.size := by omega
          have z1v36 : v1.heap.size + 1 < v36.heap.size := by omega
          have z2v36 : v1.heap.size + 2 < v36.heap.size := by omega
          have z3v36 : v2.heap.size < v36.heap.size := by omega
          have z4v36 : v5.heap.size < v36.heap.size := by omega
          have z5v36 : v6.heap.size < v36.heap.size := by omega
          have z6v36 : v31.heap.size < v36.heap.size := by omega
          have z7v36 : v32.heap.size < v36.heap.size := by omega
          have z8v36 : v33.heap.size < v36.heap.size := by omega
          have z9v36 : v34.heap.size < v36.heap.size := by omega
          have z10v36 : v35.heap.size < v36.heap.size := by omega
          clear z0v35 z1v35 z2v35 z3v35 z4v35 z5v35 z6v35 z7v35 z8v35 z9v35
          rw [HS1.out, HS2.out, HB3.out]
          rcases B1 with _ | _
          · go_wp2_with fail
            go_roundw
            case rel => exact ⟨k + 1, by omega, by go_num, HB.out.alloc HB.out.size _⟩
            case measure => simp [intOf]; omega
          · rcases B2 with _ | _
            · go_wp2_with fail
              go_roundw
              case rel => exact ⟨k + 1, by omega, by go_num, HB.out.alloc HB.out.size _⟩
              case measure => simp [intOf]; omega
            · rcases B3 with _ | _
              · go_wp2_with fail
                go_roundw
                case rel => exact ⟨k + 1, by omega, by go_num, HB.out.alloc HB.out.size _⟩
                case measure => simp [intOf]; omega
              · obtain ⟨rfl, rfl⟩ := HEQ.out rfl rfl rfl
                go_wp2_with fail
                go_roundw
                case rel => exact ⟨k + 1, by omega, by go_num, HB.out.alloc HB.out.size _⟩
                case measure => simp [intOf]; omega
        · obtain rfl : k = ms.length := by omega
          have hkk : ¬ (ms.length : Int) < (ms.length : Int) := by omega
          go_wp2_with fail
          refine ((impl_MixMasses_c _ _ _ _ ns _ _ _ _ ms _ _ _ (ON.out.rowAt) (OM.out.rowAt)).mono (HT.out _)).mono ?_
          rintro e v31 ⟨AOT, COT, rfl, ho, hb⟩
          have hA : Below wr.heap.size wr v31 := Below.trans (by repeat (first | exact Below.refl _ _ | (refine Below.alloc ?_ (by first | (simp <;> omega) | omega) _) | (refine Below.setCell ?_ (by first | (simp <;> omega) | omega) _) | (refine Below.drew ?_) | (refine below_drewN ?_ _))) (hb.mono (by first | exact Nat.le_refl _ | (simp <;> omega) | omega))
          have hsv31 : wr.heap.size ≤ v31.heap.size := hA.size
          replace m0 : v31.cell? ⟨v1.heap.size, 0, none⟩ = some (.int .i64 s) := (hA.cell (by show v1.heap.size < _; omega)).trans m0
          replace m1 : v31.cell? ⟨v1.heap.size, 1, none⟩ = some (.slice A ms.length C) := (hA.cell (by show v1.heap.size < _; omega)).trans m1
          replace n0 : v31.cell? ⟨v1.heap.size + 1, 0, none⟩ = some (.int .i64 s) := (hA.cell (by show v1.heap.size + 1 < _; omega)).trans n0
          replace n1 : v31.cell? ⟨v1.heap.size + 1, 1, none⟩ = some (.slice A' ns.length C') := (hA.cell (by show v1.heap.size + 1 < _; omega)).trans n1
          replace f0 : v31.cell? ⟨v1.heap.size + 2, 0, none⟩ = some (.int .i64 p) := (hA.cell (by show v1.heap.size + 2 < _; omega)).trans f0
          replace f1 : v31.cell? ⟨v1.heap.size + 2, 1, none⟩ = some (.int .i64 q) := (hA.cell (by show v1.heap.size + 2 < _; omega)).trans f1
          replace k0 : v31.cell? ⟨v2.heap.size, 0, none⟩ = some (.int .i64 s) := (hA.cell (by show v2.heap.size < _; omega)).trans k0
          replace k1 : v31.cell? ⟨v2.heap.size, 1, none⟩ = some (.slice AOK Z.length COK) := (hA.cell (by show v2.heap.size < _; omega)).trans k1
          replace c0 : v31.cell? ⟨v5.heap.size, 0, none⟩ = some (.int .i64 (-p)) := (hA.cell (by show v5.heap.size < _; omega)).trans c0
          replace c1 : v31.cell? ⟨v5.heap.size, 1, none⟩ = some (.int .i64 (q)) := (hA.cell (by show v5.heap.size < _; omega)).trans c1
          replace r0 : v31.cell? ⟨v6.heap.size, 0, none⟩ = some (.int .i64 (q - p)) := (hA.cell (by show v6.heap.size < _; omega)).trans r0
          replace r1 : v31.cell? ⟨v6.heap.size, 1, none⟩ = some (.int .i64 q) := (hA.cell (by show v6.heap.size < _; omega)).trans r1
          replace OM := Lib.hid (OM.out.below hA (fun g hg => (OM.out.lt g hg).2))
          replace ON := Lib.hid (ON.out.below hA (fun g hg => (ON.out.lt g hg).2))
          replace OK := Lib.hid (OK.out.below hA (fun g hg => (OK.out.lt g hg).2))
          replace HB := Lib.hid (HB.out.trans (hA.mono HB.out.size))
          have LOT : Hid (∀ g, (.slice AOT Z.length COT : Value).ownBlock = some g → wr.heap.size + 0 ≤ g ∧ g < v31.heap.size) := Lib.hid (fun g hg => by have := ho.lt g hg; first | omega | (simp at this; omega) | (simp at this ⊢; omega))
          have OT := Lib.hid ho
          clear hb hA ho
          have z0v31 : v1.heap.size < v31.heap.size := by omega
          have z1v31 : v1.heap.size + 1 < v31.heap.size := by omega
          have z2v31 : v1.heap.size + 2 < v31.heap.size := by omega
          have z3v31 : v2.heap.size < v31.heap.size := by omega
          have z4v31 : v5.heap.size < v31.heap.size := by omega
          have z5v31 : v6.heap.size < v31.heap.size := by omega
          clear z0wr z1wr z2wr z3wr z4wr z5wr
          go_wp2_with fail
          refine ((impl_MixMasses_c _ _ _ _ ms _ _ _ _ ms _ _ _ ((OM.out.rowAt.alloc _)) ((OM.out.rowAt.alloc _))).mono (HU.out _)).mono ?_
          rintro e v32 ⟨AOS, COS, rfl, ho, hb⟩
          have hA : Below v31.heap.size v31 v32 := Below.trans (by repeat (first | exact Below.refl _ _ | (refine Below.alloc ?_ (by first | (simp <;> omega) | omega) _) | (refine Below.setCell ?_ (by first | (simp <;> omega) | omega) _) | (refine Below.drew ?_) | (refine below_drewN ?_ _))) (hb.mono (by first | exact Nat.le_refl _ | (simp <;> omega) | omega))
          have hsv32 : v31.heap.size + 1 ≤ v32.heap.size := by have := hb.size; first | (simp at this; omega) | omega
          replace m0 : v32.cell? ⟨v1.heap.size, 0, none⟩ = some (.int .i64 s) := (hA.cell (by show v1.heap.size < _; omega)).trans m0
          replace m1 : v32.cell? ⟨v1.heap.size, 1, none⟩ = some (.slice A ms.length C) := (hA.cell (by show v1.heap.size < _; omega)).trans m1
          replace n0 : v32.cell? ⟨v1.heap.size + 1, 0, none⟩ = some (.int .i64 s) := (hA.cell (by show v1.heap.size + 1 < _; omega)).trans n0
          replace n1 : v32.cell? ⟨v1.heap.size + 1, 1, none⟩ = some (.slice A' ns.length C') := (hA.cell (by show v1.heap.size + 1 < _; omega)).trans n1
          replace f0 : v32.cell? ⟨v1.heap.size + 2, 0, none⟩ = some (.int .i64 p) := (hA.cell (by show v1.heap.size + 2 < _; omega)).trans f0
          replace f1 : v32.cell? ⟨v1.heap.size + 2, 1, none⟩ = some (.int .i64 q) := (hA.cell (by show v1.heap.size + 2 < _; omega)).trans f1
          replace k0 : v32.cell? ⟨v2.heap.size, 0, none⟩ = some (.int .i64 s) := (hA.cell (by show v2.heap.size < _; omega)).trans k0
          replace k1 : v32.cell? ⟨v2.heap.size, 1, none⟩ = some (.slice AOK Z.length COK) := (hA.cell (by show v2.heap.size < _; omega)).trans k1
          replace c0 : v32.cell? ⟨v5.heap.size, 0, none⟩ = some (.int .i64 (-p)) := (hA.cell (by show v5.heap.size < _; omega)).trans c0
          replace c1 : v32.cell? ⟨v5.heap.size, 1, none⟩ = some (.int .i64 (q)) := (hA.cell (by show v5.heap.size < _; omega)).trans c1
          replace r0 : v32.cell? ⟨v6.heap.size, 0, none⟩ = some (.int .i64 (q - p)) := (hA.cell (by show v6.heap.size < _; omega)).trans r0
          replace r1 : v32.cell? ⟨v6.heap.size, 1, none⟩ = some (.int .i64 q) := (hA.cell (by show v6.heap.size < _; omega)).trans r1
          have t0 : v32.cell? ⟨v31.heap.size, 0, none⟩ = some (.int .i64 s) := (hb.cell (by show v31.heap.size < _; first | (simp <;> omega) | omega)).trans (by go_simp)
          have t1 : v32.cell? ⟨v31.heap.size, 1, none⟩ = some (.slice AOT Z.length COT) := (hb.cell (by show v31.heap.size < _; first | (simp <;> omega) | omega)).trans (by go_simp)
          replace OM := Lib.hid (OM.out.below hA (fun g hg => (OM.out.lt g hg).2))
          replace ON := Lib.hid (ON.out.below hA (fun g hg => (ON.out.lt g hg).2))
          replace OK := Lib.hid (OK.out.below hA (fun g hg => (OK.out.lt g hg).2))
          replace OT := Lib.hid (OT.out.below hA (fun g hg => (OT.out.lt g hg).2))
          replace HB := Lib.hid (HB.out.trans (hA.mono HB.out.size))
          have LOS : Hid (∀ g, (.slice AOS ms.length COS : Value).ownBlock = some g → v31.heap.size + 1 ≤ g ∧ g < v32.heap.size) := Lib.hid (fun g hg => by have := ho.lt g hg; first | omega | (simp at this; omega) | (simp at this ⊢; omega))
          have OS := Lib.hid ho
          clear hb hA ho
          have z0v32 : v1.heap.size < v32.heap.size := by omega
          have z1v32 : v1.heap.size + 1 < v32.heap.size := by omega
          have z2v32 : v1.heap.size + 2 < v32.heap.size := by omega
          have z3v32 : v2.heap.size < v32.heap.size := by omega
          have z4v32 : v5.heap.size < v32.heap.size := by omega
          have z5v32 : v6.heap.size < v32.heap.size := by omega
          have z6v32 : v31.heap.size < v32.heap.size := by omega
          clear z0v31 z1v31 z2v31 z3v31 z4v31 z5v31
          go_wp2_with fail
          refine (weEqual_c _ _ _ _ _ _ Z _ ((OT.out.rowAt.alloc _)) ((OK.out.rowAt.alloc _))).mono ?_
          rintro e v33 ⟨rfl, hb⟩
          have hA : Below v32.heap.size v32 v33 := Below.trans (by repeat (first | exact Below.refl _ _ | (refine Below.alloc ?_ (by first | (simp <;> omega) | omega) _) | (refine Below.setCell ?_ (by first | (simp <;> omega) | omega) _) | (refine Below.drew ?_) | (refine below_drewN ?_ _))) (hb.mono (by first | exact Nat.le_refl _ | (simp <;> omega) | omega))
          have hsv33 : v32.heap.size + 1 ≤ v33.heap.size := by have := hb.size; first | (simp at this; omega) | omega
          replace m0 : v33.cell? ⟨v1.heap.size, 0, none⟩ = some (.int .i64 s) := (hA.cell (by show v1.heap.size < _; omega)).trans m0
          replace m1 : v33.cell? ⟨v1.heap.size, 1, none⟩ = some (.slice A ms.length C) := (hA.cell (by show v1.heap.size < _; omega)).trans m1
          replace n0 : v33.cell? ⟨v1.heap.size + 1, 0, none⟩ = some (.int .i64 s) := (hA.cell (by show v1.heap.size + 1 < _; omega)).trans n0
          replace n1 : v33.cell? ⟨v1.heap.size + 1, 1, none⟩ = some (.slice A' ns.length C') := (hA.cell (by show v1.heap.size + 1 < _; omega)).trans n1
          replace f0 : v33.cell? ⟨v1.heap.size + 2, 0, none⟩ = some (.int .i64 p) := (hA.cell (by show v1.heap.size + 2 < _; omega)).trans f0
          replace f1 : v33.cell? ⟨v1.heap.size + 2, 1, none⟩ = some (.int .i64 q) := (hA.cell (by show v1.heap.size + 2 < _; omega)).trans f1
          replace k0 : v33.cell? ⟨v2.heap.size, 0, none⟩ = some (.int .i64 s) := (hA.cell (by show v2.heap.size < _; omega)).trans k0
          replace k1 : v33.cell? ⟨v2.heap.size, 1, none⟩ = some (.slice AOK Z.length COK) := (hA.cell (by show v2.heap.size < _; omega)).trans k1
          replace c0 : v33.cell? ⟨v5.heap.size, 0, none⟩ = some (.int .i64 (-p)) := (hA.cell (by show v5.heap.size < _; omega)).trans c0
          replace c1 : v33.cell? ⟨v5.heap.size, 1, none⟩ = some (.int .i64 (q)) := (hA.cell (by show v5.heap.size < _; omega)).trans c1
          replace r0 : v33.cell? ⟨v6.heap.size, 0, none⟩ = some (.int .i64 (q - p)) := (hA.cell (by show v6.heap.size < _; omega)).trans r0
          replace r1 : v33.cell? ⟨v6.heap.size, 1, none⟩ = some (.int .i64 q) := (hA.cell (by show v6.heap.size < _; omega)).trans r1
          replace t0 : v33.cell? ⟨v31.heap.size, 0, none⟩ = some (.int .i64 s) := (hA.cell (by show v31.heap.size < _; omega)).trans t0
          replace t1 : v33.cell? ⟨v31.heap.size, 1, none⟩ = some (.slice AOT Z.length COT) := (hA.cell (by show v31.heap.size < _; omega)).trans t1
          have u0 : v33.cell? ⟨v32.heap.size, 0, none⟩ = some (.int .i64 s) := (hb.cell (by show v32.heap.size < _; first | (simp <;> omega) | omega)).trans (by go_simp)
          have u1 : v33.cell? ⟨v32.heap.size, 1, none⟩ = some (.slice AOS ms.length COS) := (hb.cell (by show v32.heap.size < _; first | (simp <;> omega) | omega)).trans (by go_simp)
          replace OM := Lib.hid (OM.out.below hA (fun g hg => (OM.out.lt g hg).2))
          replace ON := Lib.hid (ON.out.below hA (fun g hg => (ON.out.lt g hg).2))
          replace OK := Lib.hid (OK.out.below hA (fun g hg => (OK.out.lt g hg).2))
          replace OT := Lib.hid (OT.out.below hA (fun g hg => (OT.out.lt g hg).2))
          replace OS := Lib.hid (OS.out.below hA (fun g hg => (OS.out.lt g hg).2))
          replace HB := Lib.hid (HB.out.trans (hA.mono HB.out.size))
          clear hb hA
          have z0v33 : v1.heap.size < v33.heap.size := by omega
          have z1v33 : v1.heap.size + 1 < v33.heap.size := by omega
          have z2v33 : v1.heap.size + 2 < v33.heap.size := by omega
          have z3v33 : v2.heap.size < v33.heap.size := by omega
          have z4v33 : v5.heap.size < v33.heap.size := by omega
          have z5v33 : v6.heap.size < v33.heap.size := by omega
          have z6v33 : v31.heap.size < v33.heap.size := by omega
          have z7v33 : v32.heap.size < v33.heap.size := by omega
          clear z0v32 z1v32 z2v32 z3v32 z4v32 z5v32 z6v32
          go_wp2_with fail
          refine (weEqual_c _ _ _ _ _ _ ms _ (OS.out.rowAt) (OM.out.rowAt)).mono ?_
          rintro e v34 ⟨rfl, hb⟩
          have hA : Below v33.heap.size v33 v34 := Below.trans (by repeat (first | exact Below.refl _ _ | (refine Below.alloc ?_ (by first | (simp <;> omega) | omega) _) | (refine Below.setCell ?_ (by first | (simp <;> omega) | omega) _) | (refine Below.drew ?_) | (refine below_drewN ?_ _))) (hb.mono (by first | exact Nat.le_refl _ | (simp <;> omega) | omega))
          have hsv34 : v33.heap.size ≤ v34.heap.size := hA.size
          replace m0 : v34.cell? ⟨v1.heap.size, 0, none⟩ = some (.int .i64 s) := (hA.cell (by show v1.heap.size < _; omega)).trans m0
          replace m1 : v34.cell? ⟨v1.heap.size, 1, none⟩ = some (.slice A ms.length C) := (hA.cell (by show v1.heap.size < _; omega)).trans m1
          replace n0 : v34.cell? ⟨v1.heap.size + 1, 0, none⟩ = some (.int .i64 s) := (hA.cell (by show v1.heap.size + 1 < _; omega)).trans n0
          replace n1 : v34.cell? ⟨v1.heap.size + 1, 1, none⟩ = some (.slice A' ns.length C') := (hA.cell (by show v1.heap.size + 1 < _; omega)).trans n1
          replace f0 : v34.cell? ⟨v1.heap.size + 2, 0, none⟩ = some (.int .i64 p) := (hA.cell (by show v1.heap.size + 2 < _; omega)).trans f0
          replace f1 : v34.cell? ⟨v1.heap.size + 2, 1, none⟩ = some (.int .i64 q) := (hA.cell (by show v1.heap.size + 2 < _; omega)).trans f1
          replace k0 : v34.cell? ⟨v2.heap.size, 0, none⟩ = some (.int .i64 s) := (hA.cell (by show v2.heap.size < _; omega)).trans k0
          replace k1 : v34.cell? ⟨v2.heap.size, 1, none⟩ = some (.slice AOK Z.length COK) := (hA.cell (by show v2.heap.size < _; omega)).trans k1
          replace c0 : v34.cell? ⟨v5.heap.size, 0, none⟩ = some (.int .i64 (-p)) := (hA.cell (by show v5.heap.size < _; omega)).trans c0
          replace c1 : v34.cell? ⟨v5.heap.size, 1, none⟩ = some (.int .i64 (q)) := (hA.cell (by show v5.heap.size < _; omega)).trans c1
          replace r0 : v34.cell? ⟨v6.heap.size, 0, none⟩ = some (.int .i64 (q - p)) := (hA.cell (by show v6.heap.size < _; omega)).trans r0
          replace r1 : v34.cell? ⟨v6.heap.size, 1, none⟩ = some (.int .i64 q) := (hA.cell (by show v6.heap.size < _; omega)).trans r1
          replace t0 : v34.cell? ⟨v31.heap.size, 0, none⟩ = some (.int .i64 s) := (hA.cell (by show v31.heap.size < _; omega)).trans t0
          replace t1 : v34.cell? ⟨v31.heap.size, 1, none⟩ = some (.slice AOT Z.length COT) := (hA.cell (by show v31.heap.size < _; omega)).trans t1
          replace u0 : v34.cell? ⟨v32.heap.size, 0, none⟩ = some (.int .i64 s) := (hA.cell (by show v32.heap.size < _; omega)).trans u0
          replace u1 : v34.cell? ⟨v32.heap.size, 1, none⟩ = some (.slice AOS ms.length COS) := (hA.cell (by show v32.heap.size < _; omega)).trans u1
          replace OM := Lib.hid (OM.out.below hA (fun g hg => (OM.out.lt g hg).2))
          replace ON := Lib.hid (ON.out.below hA (fun g hg => (ON.out.lt g hg).2))
          replace OK := Lib.hid (OK.out.below hA (fun g hg => (OK.out.lt g hg).2))
          replace OT := Lib.hid (OT.out.below hA (fun g hg => (OT.out.lt g hg).2))
          replace OS := Lib.hid (OS.out.below hA (fun g hg => (OS.out.lt g hg).2))
          replace HB := Lib.hid (HB.out.trans (hA.mono HB.out.size))
          clear hb hA
          have z0v34 : v1.heap.size < v34.heap.size := by omega
          have z1v34 : v1.heap.size + 1 < v34.heap.size := by omega
          have z2v34 : v1.heap.size + 2 < v34.heap.size := by omega
          have z3v34 : v2.heap.size < v34.heap.size := by omega
          have z4v34 : v5.heap.size < v34.heap.size := by omega
          have z5v34 : v6.heap.size < v34.heap.size := by omega
          have z6v34 : v31.heap.size < v34.heap.size := by omega
          have z7v34 : v32.heap.size < v34.heap.size := by omega
          clear z0v33 z1v33 z2v33 z3v33 z4v33 z5v33 z6v33 z7v33
          go_wp2_with fail
          go_ret
          exact ⟨rfl, HBW.out.trans (HB.out.mono HBW.out.size)⟩
  · have hn2 : 1048576 < (len0 : Int) := by omega
    go_enter Try.func7, Try.ntmps7
    go_wp2_with fail
    go_ret
    exact ⟨rfl, Below.refl _ _⟩

set_option maxRecDepth 100000 in
theorem lifted (os : Os) (started : os.Started) (H : Type) (enc : TypeId × Value → H) :
    ReturnsInHanded {} Try.checked os 7 .any (Rows.fnMixMassesSpec.pre6 enc Try.prog Try.f7 Rows.fnMixMassesRow.domain false) (Rows.fnMixMassesSpec.post enc Try.prog Try.f7 false true false false) := by
  refine returnsInHanded_of_change (C := Try.checked) own started (by kernel_rfl) Try.func7
    (ChangeSpec.witness6 (enc := enc) (C := Try.checked) false ⟨#[], #[.slice none 0 0], []⟩ 8 (by kernel_rfl) (by kernel_rfl) (by kernel_rfl) (by kernel_rfl)) ?_
  intro W base args ds gs before hval0 hW hcnd _
  have hval : ∀ (j : Nat) t v, Try.f7.params[j]? = some t → args[j]? = some v → Value.okWide Try.prog W .any base t v := hval0
  have hW' := hW
  obtain ⟨p, q, hA0, hV, rfl, hfz, hnd⟩ := hW
  have hA : DataW.TrodAll enc Try.prog W 0 (fun _ => true) true Try.f7.params.toList args.toList ds p := hA0
  rw [Try.params7] at hA hval
  obtain ⟨v0, vs0, d0, ds0, p0, q0, hargs, rfl, rfl, h0, r0⟩ := trodAll_cons hA
  obtain ⟨rfl, rfl, rfl⟩ := trodAll_nil r0
  obtain rfl : args = #[v0] := by cases args; simp_all
  obtain ⟨rfl, rfl⟩ := trodVars_none hV
  have k0 := h0
  have lt0 : ∀ x ∈ p0, x.block < W.heap.size := by obtain ⟨m, hm⟩ := k0; exact DataW.trod_lt m _ _ _ hm
  obtain ⟨a0, len0, cap0, z0, rfl, w0⟩ := get_row Try.underlying22 Try.underlying5 (by kernel_rfl) (hval 0 22 v0 rfl rfl) h0
  clear hA0 hval0
  refine (walk a0 len0 cap0 z0 W w0).mono fun e W' ⟨he, bel⟩ => ?_
  subst he
  exact ⟨_, rfl, _, _, _, [], _, [], hW', trodAll_mk1 (shut_bool Try.underlying4 _), (trodAll_cons_mk (Below.trod laidOut (by kernel_rfl) (of_decide_eq_true (by kernel_rfl)) k0 bel lt0) trodAll_mk0), rfl, bel.frame _, fun h => by cases h⟩

theorem closed : joinedFacts Try.prog 7 Try.f7 Rows.fnMixMassesSpec Rows.fnMixMassesRow = true := by
  rw [joinedFacts.eq_1]
  simp only [Bool.and_eq_true]
  repeat' apply And.intro
  all_goals first | (with_reducible exact fact_enter) | (with_reducible exact laidOut) | (with_reducible exact fact_maps) | (with_reducible exact fact_heard) | (rw [fact_lifts]; try (as_aux_lemma => kernel_rfl)) | (rw [fact_make]; try (as_aux_lemma => kernel_rfl)) | (rw [fact_keys]; try (as_aux_lemma => kernel_rfl)) | (as_aux_lemma => kernel_rfl)

theorem holds : Rows.FnMixMassesSaid :=
  OpenClaim.holds_of_wide 7 Try.f7 rfl rfl rfl rfl rfl rfl rfl ⟨rfl, rfl, rfl, rfl, rfl⟩ rfl rfl rfl rfl rfl (by kernel_rfl) Try.func7 closed
    (of_decide_eq_true (by kernel_rfl)) (by unfold Func.isWrapper; rw [if_neg (of_decide_eq_false (by kernel_rfl))]; exact ⟨rfl, rfl⟩)
    (fun os started H enc _ => lifted os started H enc)
#print axioms holds
end Go.Proofs.Ytemollfejgmlcaa.fnMixMasses
