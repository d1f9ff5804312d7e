/- Contracts of the functions on a mass that only look at it: the program's and the reference's. Conditions: as stated. -/
import Derived.Test.YtemollfejgmlcaaMc
namespace Go.Proofs.Ytemollfejgmlcaa
open Go.RowKit

set_option maxHeartbeats 1000000 in
theorem impl_MassValid_c (s : Int) (a : Option Addr) (n c : Nat) (zs : List Int) (w : World) (ha : IsRow .i64 w a n c zs) :
    Calls Try.prog 15 #[.agg #[.int .i64 s, .slice a n c]] w fun e w' => e = .returned (.bool (massB s zs)) ∧ Below w.heap.size w w' := by
  have HR := Lib.hid ha
  clear ha
  go_enter Try.func15, Try.ntmps15
  go_wp2_with fail
  refine (isMass_c _ _ _ _ zs _ (HR.out.alloc _)).mono ?_
  rintro e w1 ⟨rfl, hb⟩
  have HB := Lib.hid (((Below.refl w.heap.size w).alloc (Nat.le_refl _) _).trans (hb.mono (by simp)))
  clear hb
  go_wp2_with fail
  go_ret
  exact ⟨rfl, HB.out⟩
set_option maxHeartbeats 1000000 in
theorem isNormal_c (s : Int) (a : Option Addr) (n c : Nat) (zs : List Int) (w : World) (ha : IsRow .i64 w a n c zs) :
    Calls Try.prog 45 #[.agg #[.int .i64 s, .slice a n c]] w fun e w' => e = .returned (.bool (normalB s zs)) ∧ Below w.heap.size w w' := by
  have HR := Lib.hid ha
  clear ha
  rcases hm : massB s zs with _ | _
  · have HE : Hid (normalB s zs = false) := Lib.hid (by simp [normalB, hm])
    go_enter Try.func45, Try.ntmps45
    go_wp2_with fail
    refine (isMass_c _ _ _ _ zs _ (HR.out.alloc _)).mono ?_
    rintro e w1 ⟨rfl, hb⟩
    have HB := Lib.hid (((Below.refl w.heap.size w).alloc (Nat.le_refl _) _).trans (hb.mono (by simp)))
    clear hb
    go_wp2_with fail
    go_ret
    exact ⟨ret_bool HE.out.symm, HB.out⟩
  · have HE : Hid (normalB s zs = (zs.getD 0 0 == 0)) := Lib.hid (by simp [normalB, hm])
    have hl := massB_len hm
    rw [HR.out.len] at hl
    obtain ⟨l1, l2⟩ := hl
    go_enter Try.func45, Try.ntmps45
    go_wp2_with fail
    refine (isMass_c _ _ _ _ zs _ (HR.out.alloc _)).mono ?_
    rintro e w1 ⟨rfl, hb⟩
    have HB := Lib.hid (((Below.refl w.heap.size w).alloc (Nat.le_refl _) _).trans (hb.mono (by simp)))
    have c1 : w1.cell? ⟨w.heap.size, 1, none⟩ = some (.slice a n c) := (hb.cell (by simp)).trans (by go_simp)
    obtain ⟨b1, o1, rfl, _, h1⟩ := ((HR.out.alloc _).below hb).at_ (by omega)
    have g1 := h1 0 (by omega)
    rw [Nat.add_zero] at g1
    clear hb h1
    generalize zs.getD 0 0 = x at *
    go_wp2_with fail
    go_ret
    exact ⟨ret_bool HE.out.symm, HB.out⟩
set_option maxHeartbeats 1000000 in
theorem impl_IsNormal_c (s : Int) (a : Option Addr) (n c : Nat) (zs : List Int) (w : World) (ha : IsRow .i64 w a n c zs) :
    Calls Try.prog 9 #[.agg #[.int .i64 s, .slice a n c]] w fun e w' => e = .returned (.bool (normalB s zs)) ∧ Below w.heap.size w w' := by
  have HR := Lib.hid ha
  clear ha
  go_enter Try.func9, Try.ntmps9
  go_wp2_with fail
  refine (isNormal_c _ _ _ _ zs _ (HR.out.alloc _)).mono ?_
  rintro e w1 ⟨rfl, hb⟩
  have HB := Lib.hid (((Below.refl w.heap.size w).alloc (Nat.le_refl _) _).trans (hb.mono (by simp)))
  clear hb
  go_wp2_with fail
  go_ret
  exact ⟨rfl, HB.out⟩
set_option maxHeartbeats 1000000 in
theorem spec_IsNormal_c (s : Int) (a : Option Addr) (n c : Nat) (zs : List Int) (w : World) (ha : IsRow .i64 w a n c zs) :
    Calls Try.prog 12 #[.agg #[.int .i64 s, .slice a n c]] w fun e w' => e = .returned (.bool (normalB s zs)) ∧ Below w.heap.size w w' := by
  have HR := Lib.hid ha
  clear ha
  rcases hm : massB s zs with _ | _
  · have HE : Hid (normalB s zs = false) := Lib.hid (by simp [normalB, hm])
    go_enter Try.func12, Try.ntmps12
    go_wp2_with fail
    refine (spec_MassValid_c _ _ _ _ zs _ (HR.out.alloc _)).mono ?_
    rintro e w1 ⟨rfl, hb⟩
    have HB := Lib.hid (((Below.refl w.heap.size w).alloc (Nat.le_refl _) _).trans (hb.mono (by simp)))
    clear hb
    go_wp2_with fail
    go_ret
    exact ⟨ret_bool HE.out.symm, HB.out⟩
  · have HE : Hid (normalB s zs = (zs.getD 0 0 == 0)) := Lib.hid (by simp [normalB, hm])
    have hl := massB_len hm
    rw [HR.out.len] at hl
    obtain ⟨l1, l2⟩ := hl
    go_enter Try.func12, Try.ntmps12
    go_wp2_with fail
    refine (spec_MassValid_c _ _ _ _ zs _ (HR.out.alloc _)).mono ?_
    rintro e w1 ⟨rfl, hb⟩
    have HB := Lib.hid (((Below.refl w.heap.size w).alloc (Nat.le_refl _) _).trans (hb.mono (by simp)))
    have c1 : w1.cell? ⟨w.heap.size, 1, none⟩ = some (.slice a n c) := (hb.cell (by simp)).trans (by go_simp)
    obtain ⟨b1, o1, rfl, _, h1⟩ := ((HR.out.alloc _).below hb).at_ (by omega)
    have g1 := h1 0 (by omega)
    rw [Nat.add_zero] at g1
    clear hb h1
    generalize zs.getD 0 0 = x at *
    go_wp2_with fail
    go_ret
    exact ⟨ret_bool HE.out.symm, HB.out⟩
set_option maxHeartbeats 1000000 in
theorem l3Whole_c (s : Int) (a : Option Addr) (n c : Nat) (zs : List Int) (hm : massB s zs = true) (w : World) (ha : IsRow .i64 w a n c zs) :
    Calls Try.prog 66 #[.agg #[.int .i64 s, .slice a n c]] w fun e w' => e = .returned (.int .i64 (whole zs)) ∧ Below w.heap.size w w' := by
  have HR := Lib.hid ha
  have hl := massB_len hm
  rw [ha.len] at hl
  have HE : Hid (sumM 1000000 zs = whole zs) := Lib.hid (by unfold sumM; rw [(massB_of hm).2.2.1]; rfl)
  clear ha hm
  go_enter Try.func66, Try.ntmps66
  go_wp2_with fail
  refine (l3Sum_c 1000000 _ _ _ zs (by omega) hl.2 _ (HR.out.alloc _)).mono ?_
  rintro e w1 ⟨rfl, rfl⟩
  rw [HE.out]
  go_wp2_with fail
  go_ret
  exact ⟨rfl, (Below.refl w.heap.size w).alloc (Nat.le_refl _) _⟩
set_option maxHeartbeats 1000000 in
theorem impl_WholeOf_c (s : Int) (a : Option Addr) (n c : Nat) (zs : List Int) (w : World) (ha : IsRow .i64 w a n c zs) :
    Calls Try.prog 26 #[.agg #[.int .i64 s, .slice a n c]] w fun e w' => e = .returned (.int .i64 (wholeI s zs)) ∧ Below w.heap.size w w' := by
  have HR := Lib.hid ha
  clear ha
  rcases hm : massB s zs with _ | _
  · have HE : Hid (wholeI s zs = -1) := Lib.hid (by simp [wholeI, hm])
    go_enter Try.func26, Try.ntmps26
    go_wp2_with fail
    refine (isMass_c _ _ _ _ zs _ (HR.out.alloc _)).mono ?_
    rintro e w1 ⟨rfl, hb⟩
    have HB := Lib.hid (((Below.refl w.heap.size w).alloc (Nat.le_refl _) _).trans (hb.mono (by simp)))
    clear hb
    go_wp2_with fail
    go_ret
    exact ⟨ret_int HE.out.symm, HB.out⟩
  · have HE : Hid (wholeI s zs = whole zs) := Lib.hid (by simp [wholeI, hm])
    have hl := massB_len hm
    rw [HR.out.len] at hl
    have HP := Lib.hid (parts_more (massB_of hm).2.2.1)
    obtain ⟨l1, l2⟩ := hl
    go_enter Try.func26, Try.ntmps26
    go_wp2_with fail
    refine (isMass_c _ _ _ _ zs _ (HR.out.alloc _)).mono ?_
    rintro e w1 ⟨rfl, hb⟩
    have HB := Lib.hid (((Below.refl w.heap.size w).alloc (Nat.le_refl _) _).trans (hb.mono (by simp)))
    have c0 : w1.cell? ⟨w.heap.size, 0, none⟩ = some (.int .i64 s) := (hb.cell (by simp)).trans (by go_simp)
    have c1 : w1.cell? ⟨w.heap.size, 1, none⟩ = some (.slice a n c) := (hb.cell (by simp)).trans (by go_simp)
    have HR1 := Lib.hid ((HR.out.alloc _).below hb)
    clear hb
    go_wp2_with fail
    refine (wholeOf_c _ _ _ _ zs HP.out l2 _ HR1.out).mono ?_
    rintro e w2 ⟨rfl, hb⟩
    have HB2 := Lib.hid (HB.out.trans (hb.mono HB.out.size))
    clear hb
    go_wp2_with fail
    go_ret
    exact ⟨ret_int HE.out.symm, HB2.out⟩
set_option maxHeartbeats 1000000 in
theorem spec_WholeOf_c (s : Int) (a : Option Addr) (n c : Nat) (zs : List Int) (w : World) (ha : IsRow .i64 w a n c zs) :
    Calls Try.prog 27 #[.agg #[.int .i64 s, .slice a n c]] w fun e w' => e = .returned (.int .i64 (wholeI s zs)) ∧ Below w.heap.size w w' := by
  have HR := Lib.hid ha
  clear ha
  rcases hm : massB s zs with _ | _
  · have HE : Hid (wholeI s zs = -1) := Lib.hid (by simp [wholeI, hm])
    go_enter Try.func27, Try.ntmps27
    go_wp2_with fail
    refine (spec_MassValid_c _ _ _ _ zs _ (HR.out.alloc _)).mono ?_
    rintro e w1 ⟨rfl, hb⟩
    have HB := Lib.hid (((Below.refl w.heap.size w).alloc (Nat.le_refl _) _).trans (hb.mono (by simp)))
    clear hb
    go_wp2_with fail
    go_ret
    exact ⟨ret_int HE.out.symm, HB.out⟩
  · have HE : Hid (wholeI s zs = whole zs) := Lib.hid (by simp [wholeI, hm])
    have HM := Lib.hid hm
    go_enter Try.func27, Try.ntmps27
    go_wp2_with fail
    refine (spec_MassValid_c _ _ _ _ zs _ (HR.out.alloc _)).mono ?_
    rintro e w1 ⟨rfl, hb⟩
    have HB := Lib.hid (((Below.refl w.heap.size w).alloc (Nat.le_refl _) _).trans (hb.mono (by simp)))
    have c0 : w1.cell? ⟨w.heap.size, 0, none⟩ = some (.int .i64 s) := (hb.cell (by simp)).trans (by go_simp)
    have c1 : w1.cell? ⟨w.heap.size, 1, none⟩ = some (.slice a n c) := (hb.cell (by simp)).trans (by go_simp)
    have HR1 := Lib.hid ((HR.out.alloc _).below hb)
    clear hb
    go_wp2_with fail
    refine (l3Whole_c _ _ _ _ zs HM.out _ HR1.out).mono ?_
    rintro e w2 ⟨rfl, hb⟩
    have HB2 := Lib.hid (HB.out.trans (hb.mono HB.out.size))
    clear hb
    go_wp2_with fail
    go_ret
    exact ⟨ret_int HE.out.symm, HB2.out⟩
end Go.Proofs.Ytemollfejgmlcaa
