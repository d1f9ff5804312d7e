/- FnLessFraction: for every input that can be read, the law returns true and its arguments read afterwards as before. Conditions: none. -/
import Derived.Test.YtkgbnagbeoeijaaMem
import Derived.Test.YtkgbnagbeoeijaaSigns
import Derived.Test.YtkgbnagbeoeijaaPlainB
import Derived.Test.YtkgbnagbeoeijaaWm
import Derived.Test.YtkgbnagbeoeijaaWc
import Derived.Test.YtkgbnagbeoeijaaWe
import Derived.Test.YtkgbnagbeoeijaaWf
import Derived.Test.YtkgbnagbeoeijaaWg
import Derived.Test.YtkgbnagbeoeijaaWh
import Derived.Test.YtkgbnagbeoeijaaWd
import Derived.Test.YtkgbnagbeoeijaaWr
import Derived.Test.YtkgbnagbeoeijaaWi
import Derived.Test.YtkgbnagbeoeijaaWj
import Derived.Test.YtkgbnagbeoeijaaWk
import Derived.Test.YtkgbnagbeoeijaaWl
namespace Go.Proofs.Ytkgbnagbeoeijaa.fnLessFraction
open Go.ChangeShapes Go.WideShapes Go.ChangeAt Go.RowKit
open Go.ChangeMaps (open_string shut_string)
set_option linter.unusedVariables false

set_option maxHeartbeats 4000000 in
theorem walk (a0 : Option Addr) (len0 cap0 : Nat) (z0 : List Int) (w : World) (w0 : IsRow .u8 w a0 len0 cap0 z0) :
    Calls Try.prog 13 #[.slice a0 len0 cap0] w fun e w' => e = .returned (.bool true) ∧ Below w.heap.size w w' := by
  by_cases hn : len0 ≤ 1048576
  · have hn2 : (len0 : Int) ≤ 1048576 := by omega
    have HW := Lib.hid w0
    clear w0
    go_enter Try.func13, Try.ntmps13
    go_wp2_with fail
    refine (DrawLessFraction_c _ _ _ _ _ HW.out).mono ?_
    rintro e v0 ⟨a, b, c, d, rfl, hbel⟩
    have hwv0 := hbel.size
    have Hv0 := Lib.hid hbel
    clear hbel
    rcases hV : fracB a b with _ | _
    · have hL : lessB a b c d = false := by simp [lessB, hV]
      go_wp2_with fail
      refine (impl_Less_c _ _ _ _ _).mono ?_
      rintro e v1 ⟨rfl, hb⟩
      have f0 : v1.cell? ⟨v0.heap.size, 0, none⟩ = some (.int .i64 (a)) := (hb.cell (by show v0.heap.size < _; first | (simp <;> omega) | omega)).trans (by go_simp)
      have f1 : v1.cell? ⟨v0.heap.size, 1, none⟩ = some (.int .i64 (b)) := (hb.cell (by show v0.heap.size < _; first | (simp <;> omega) | omega)).trans (by go_simp)
      have g0 : v1.cell? ⟨v0.heap.size + 1, 0, none⟩ = some (.int .i64 (c)) := (hb.cell (by show v0.heap.size + 1 < _; first | (simp <;> omega) | omega)).trans (by go_simp)
      have g1 : v1.cell? ⟨v0.heap.size + 1, 1, none⟩ = some (.int .i64 (d)) := (hb.cell (by show v0.heap.size + 1 < _; first | (simp <;> omega) | omega)).trans (by go_simp)
      have hA : Below w.heap.size w v1 := by
        refine Below.trans ?_ (hb.mono (by first | (simp <;> omega) | omega))
        repeat (first | exact Hv0.out | (refine Below.alloc ?_ (by first | (simp <;> omega) | omega) _) | (refine Below.setCell ?_ (by first | (simp <;> omega) | omega) _) | (refine below_drewN ?_ _))
      have hzv1 : v0.heap.size ≤ v1.heap.size := by have := hb.size; first | (simp at this; omega) | omega
      have fs : v0.heap.size < v1.heap.size := by have := hb.size; first | (simp at this; omega) | omega
      have gs : v0.heap.size + 1 < v1.heap.size := by have := hb.size; first | (simp at this; omega) | omega
      have hwv1 : w.heap.size ≤ v1.heap.size := hA.size
      have Hv1 := Lib.hid hA
      clear hb hA Hv0
      rw [hL]
      go_wp2_with fail
      refine (spec_Less_c _ _ _ _ _).mono ?_
      rintro e v2 ⟨rfl, hb⟩
      replace f0 : v2.cell? ⟨v0.heap.size, 0, none⟩ = some (.int .i64 (a)) := (hb.cell (by show v0.heap.size < _; first | (simp <;> omega) | omega)).trans (by go_simp)
      replace f1 : v2.cell? ⟨v0.heap.size, 1, none⟩ = some (.int .i64 (b)) := (hb.cell (by show v0.heap.size < _; first | (simp <;> omega) | omega)).trans (by go_simp)
      replace g0 : v2.cell? ⟨v0.heap.size + 1, 0, none⟩ = some (.int .i64 (c)) := (hb.cell (by show v0.heap.size + 1 < _; first | (simp <;> omega) | omega)).trans (by go_simp)
      replace g1 : v2.cell? ⟨v0.heap.size + 1, 1, none⟩ = some (.int .i64 (d)) := (hb.cell (by show v0.heap.size + 1 < _; first | (simp <;> omega) | omega)).trans (by go_simp)
      have hA : Below w.heap.size w v2 := by
        refine Below.trans ?_ (hb.mono (by first | (simp <;> omega) | omega))
        repeat (first | exact Hv1.out | (refine Below.alloc ?_ (by first | (simp <;> omega) | omega) _) | (refine Below.setCell ?_ (by first | (simp <;> omega) | omega) _) | (refine below_drewN ?_ _))
      have hzv2 : v1.heap.size ≤ v2.heap.size := by have := hb.size; first | (simp at this; omega) | omega
      replace fs : v0.heap.size < v2.heap.size := by have := hb.size; first | (simp at this; omega) | omega
      replace gs : v0.heap.size + 1 < v2.heap.size := by have := hb.size; first | (simp at this; omega) | omega
      have hwv2 : w.heap.size ≤ v2.heap.size := hA.size
      have Hv2 := Lib.hid hA
      clear hb hA Hv1
      rw [hL]
      go_wp2_with fail
      refine (impl_FractionValid_c _ _ _).mono ?_
      rintro e v3 ⟨rfl, hb⟩
      replace f0 : v3.cell? ⟨v0.heap.size, 0, none⟩ = some (.int .i64 (a)) := (hb.cell (by show v0.heap.size < _; first | (simp <;> omega) | omega)).trans (by go_simp)
      replace f1 : v3.cell? ⟨v0.heap.size, 1, none⟩ = some (.int .i64 (b)) := (hb.cell (by show v0.heap.size < _; first | (simp <;> omega) | omega)).trans (by go_simp)
      replace g0 : v3.cell? ⟨v0.heap.size + 1, 0, none⟩ = some (.int .i64 (c)) := (hb.cell (by show v0.heap.size + 1 < _; first | (simp <;> omega) | omega)).trans (by go_simp)
      replace g1 : v3.cell? ⟨v0.heap.size + 1, 1, none⟩ = some (.int .i64 (d)) := (hb.cell (by show v0.heap.size + 1 < _; first | (simp <;> omega) | omega)).trans (by go_simp)
      have hA : Below w.heap.size w v3 := by
        refine Below.trans ?_ (hb.mono (by first | (simp <;> omega) | omega))
        repeat (first | exact Hv2.out | (refine Below.alloc ?_ (by first | (simp <;> omega) | omega) _) | (refine Below.setCell ?_ (by first | (simp <;> omega) | omega) _) | (refine below_drewN ?_ _))
      have hzv3 : v2.heap.size ≤ v3.heap.size := by have := hb.size; first | (simp at this; omega) | omega
      replace fs : v0.heap.size < v3.heap.size := by have := hb.size; first | (simp at this; omega) | omega
      replace gs : v0.heap.size + 1 < v3.heap.size := by have := hb.size; first | (simp at this; omega) | omega
      have hwv3 : w.heap.size ≤ v3.heap.size := hA.size
      have Hv3 := Lib.hid hA
      clear hb hA Hv2
      rw [hV]
      go_wp2_with fail
      refine (spec_Less_c _ _ _ _ _).mono ?_
      rintro e v4 ⟨rfl, hb⟩
      replace f0 : v4.cell? ⟨v0.heap.size, 0, none⟩ = some (.int .i64 (a)) := (hb.cell (by show v0.heap.size < _; first | (simp <;> omega) | omega)).trans (by go_simp)
      replace f1 : v4.cell? ⟨v0.heap.size, 1, none⟩ = some (.int .i64 (b)) := (hb.cell (by show v0.heap.size < _; first | (simp <;> omega) | omega)).trans (by go_simp)
      replace g0 : v4.cell? ⟨v0.heap.size + 1, 0, none⟩ = some (.int .i64 (c)) := (hb.cell (by show v0.heap.size + 1 < _; first | (simp <;> omega) | omega)).trans (by go_simp)
      replace g1 : v4.cell? ⟨v0.heap.size + 1, 1, none⟩ = some (.int .i64 (d)) := (hb.cell (by show v0.heap.size + 1 < _; first | (simp <;> omega) | omega)).trans (by go_simp)
      have hA : Below w.heap.size w v4 := by
        refine Below.trans ?_ (hb.mono (by first | (simp <;> omega) | omega))
        repeat (first | exact Hv3.out | (refine Below.alloc ?_ (by first | (simp <;> omega) | omega) _) | (refine Below.setCell ?_ (by first | (simp <;> omega) | omega) _) | (refine below_drewN ?_ _))
      have hzv4 : v3.heap.size ≤ v4.heap.size := by have := hb.size; first | (simp at this; omega) | omega
      replace fs : v0.heap.size < v4.heap.size := by have := hb.size; first | (simp at this; omega) | omega
      replace gs : v0.heap.size + 1 < v4.heap.size := by have := hb.size; first | (simp at this; omega) | omega
      have hwv4 : w.heap.size ≤ v4.heap.size := hA.size
      have Hv4 := Lib.hid hA
      clear hb hA Hv3
      rw [hL]
      go_wp2_with fail
      go_ret
      exact ⟨rfl, (by repeat (first | exact Hv4.out | (refine Below.alloc ?_ (by first | (simp <;> omega) | omega) _)))⟩
    rcases hU : fracB c d with _ | _
    · have hL : lessB a b c d = false := by simp [lessB, hU]
      go_wp2_with fail
      refine (impl_Less_c _ _ _ _ _).mono ?_
      rintro e v1 ⟨rfl, hb⟩
      have f0 : v1.cell? ⟨v0.heap.size, 0, none⟩ = some (.int .i64 (a)) := (hb.cell (by show v0.heap.size < _; first | (simp <;> omega) | omega)).trans (by go_simp)
      have f1 : v1.cell? ⟨v0.heap.size, 1, none⟩ = some (.int .i64 (b)) := (hb.cell (by show v0.heap.size < _; first | (simp <;> omega) | omega)).trans (by go_simp)
      have g0 : v1.cell? ⟨v0.heap.size + 1, 0, none⟩ = some (.int .i64 (c)) := (hb.cell (by show v0.heap.size + 1 < _; first | (simp <;> omega) | omega)).trans (by go_simp)
      have g1 : v1.cell? ⟨v0.heap.size + 1, 1, none⟩ = some (.int .i64 (d)) := (hb.cell (by show v0.heap.size + 1 < _; first | (simp <;> omega) | omega)).trans (by go_simp)
      have hA : Below w.heap.size w v1 := by
        refine Below.trans ?_ (hb.mono (by first | (simp <;> omega) | omega))
        repeat (first | exact Hv0.out | (refine Below.alloc ?_ (by first | (simp <;> omega) | omega) _) | (refine Below.setCell ?_ (by first | (simp <;> omega) | omega) _) | (refine below_drewN ?_ _))
      have hzv1 : v0.heap.size ≤ v1.heap.size := by have := hb.size; first | (simp at this; omega) | omega
      have fs : v0.heap.size < v1.heap.size := by have := hb.size; first | (simp at this; omega) | omega
      have gs : v0.heap.size + 1 < v1.heap.size := by have := hb.size; first | (simp at this; omega) | omega
      have hwv1 : w.heap.size ≤ v1.heap.size := hA.size
      have Hv1 := Lib.hid hA
      clear hb hA Hv0
      rw [hL]
      go_wp2_with fail
      refine (spec_Less_c _ _ _ _ _).mono ?_
      rintro e v2 ⟨rfl, hb⟩
      replace f0 : v2.cell? ⟨v0.heap.size, 0, none⟩ = some (.int .i64 (a)) := (hb.cell (by show v0.heap.size < _; first | (simp <;> omega) | omega)).trans (by go_simp)
      replace f1 : v2.cell? ⟨v0.heap.size, 1, none⟩ = some (.int .i64 (b)) := (hb.cell (by show v0.heap.size < _; first | (simp <;> omega) | omega)).trans (by go_simp)
      replace g0 : v2.cell? ⟨v0.heap.size + 1, 0, none⟩ = some (.int .i64 (c)) := (hb.cell (by show v0.heap.size + 1 < _; first | (simp <;> omega) | omega)).trans (by go_simp)
      replace g1 : v2.cell? ⟨v0.heap.size + 1, 1, none⟩ = some (.int .i64 (d)) := (hb.cell (by show v0.heap.size + 1 < _; first | (simp <;> omega) | omega)).trans (by go_simp)
      have hA : Below w.heap.size w v2 := by
        refine Below.trans ?_ (hb.mono (by first | (simp <;> omega) | omega))
        repeat (first | exact Hv1.out | (refine Below.alloc ?_ (by first | (simp <;> omega) | omega) _) | (refine Below.setCell ?_ (by first | (simp <;> omega) | omega) _) | (refine below_drewN ?_ _))
      have hzv2 : v1.heap.size ≤ v2.heap.size := by have := hb.size; first | (simp at this; omega) | omega
      replace fs : v0.heap.size < v2.heap.size := by have := hb.size; first | (simp at this; omega) | omega
      replace gs : v0.heap.size + 1 < v2.heap.size := by have := hb.size; first | (simp at this; omega) | omega
      have hwv2 : w.heap.size ≤ v2.heap.size := hA.size
      have Hv2 := Lib.hid hA
      clear hb hA Hv1
      rw [hL]
      go_wp2_with fail
      refine (impl_FractionValid_c _ _ _).mono ?_
      rintro e v3 ⟨rfl, hb⟩
      replace f0 : v3.cell? ⟨v0.heap.size, 0, none⟩ = some (.int .i64 (a)) := (hb.cell (by show v0.heap.size < _; first | (simp <;> omega) | omega)).trans (by go_simp)
      replace f1 : v3.cell? ⟨v0.heap.size, 1, none⟩ = some (.int .i64 (b)) := (hb.cell (by show v0.heap.size < _; first | (simp <;> omega) | omega)).trans (by go_simp)
      replace g0 : v3.cell? ⟨v0.heap.size + 1, 0, none⟩ = some (.int .i64 (c)) := (hb.cell (by show v0.heap.size + 1 < _; first | (simp <;> omega) | omega)).trans (by go_simp)
      replace g1 : v3.cell? ⟨v0.heap.size + 1, 1, none⟩ = some (.int .i64 (d)) := (hb.cell (by show v0.heap.size + 1 < _; first | (simp <;> omega) | omega)).trans (by go_simp)
      have hA : Below w.heap.size w v3 := by
        refine Below.trans ?_ (hb.mono (by first | (simp <;> omega) | omega))
        repeat (first | exact Hv2.out | (refine Below.alloc ?_ (by first | (simp <;> omega) | omega) _) | (refine Below.setCell ?_ (by first | (simp <;> omega) | omega) _) | (refine below_drewN ?_ _))
      have hzv3 : v2.heap.size ≤ v3.heap.size := by have := hb.size; first | (simp at this; omega) | omega
      replace fs : v0.heap.size < v3.heap.size := by have := hb.size; first | (simp at this; omega) | omega
      replace gs : v0.heap.size + 1 < v3.heap.size := by have := hb.size; first | (simp at this; omega) | omega
      have hwv3 : w.heap.size ≤ v3.heap.size := hA.size
      have Hv3 := Lib.hid hA
      clear hb hA Hv2
      rw [hV]
      go_wp2_with fail
      refine (impl_FractionValid_c _ _ _).mono ?_
      rintro e v4 ⟨rfl, hb⟩
      replace f0 : v4.cell? ⟨v0.heap.size, 0, none⟩ = some (.int .i64 (a)) := (hb.cell (by show v0.heap.size < _; first | (simp <;> omega) | omega)).trans (by go_simp)
      replace f1 : v4.cell? ⟨v0.heap.size, 1, none⟩ = some (.int .i64 (b)) := (hb.cell (by show v0.heap.size < _; first | (simp <;> omega) | omega)).trans (by go_simp)
      replace g0 : v4.cell? ⟨v0.heap.size + 1, 0, none⟩ = some (.int .i64 (c)) := (hb.cell (by show v0.heap.size + 1 < _; first | (simp <;> omega) | omega)).trans (by go_simp)
      replace g1 : v4.cell? ⟨v0.heap.size + 1, 1, none⟩ = some (.int .i64 (d)) := (hb.cell (by show v0.heap.size + 1 < _; first | (simp <;> omega) | omega)).trans (by go_simp)
      have hA : Below w.heap.size w v4 := by
        refine Below.trans ?_ (hb.mono (by first | (simp <;> omega) | omega))
        repeat (first | exact Hv3.out | (refine Below.alloc ?_ (by first | (simp <;> omega) | omega) _) | (refine Below.setCell ?_ (by first | (simp <;> omega) | omega) _) | (refine below_drewN ?_ _))
      have hzv4 : v3.heap.size ≤ v4.heap.size := by have := hb.size; first | (simp at this; omega) | omega
      replace fs : v0.heap.size < v4.heap.size := by have := hb.size; first | (simp at this; omega) | omega
      replace gs : v0.heap.size + 1 < v4.heap.size := by have := hb.size; first | (simp at this; omega) | omega
      have hwv4 : w.heap.size ≤ v4.heap.size := hA.size
      have Hv4 := Lib.hid hA
      clear hb hA Hv3
      rw [hU]
      go_wp2_with fail
      refine (spec_Less_c _ _ _ _ _).mono ?_
      rintro e v5 ⟨rfl, hb⟩
      replace f0 : v5.cell? ⟨v0.heap.size, 0, none⟩ = some (.int .i64 (a)) := (hb.cell (by show v0.heap.size < _; first | (simp <;> omega) | omega)).trans (by go_simp)
      replace f1 : v5.cell? ⟨v0.heap.size, 1, none⟩ = some (.int .i64 (b)) := (hb.cell (by show v0.heap.size < _; first | (simp <;> omega) | omega)).trans (by go_simp)
      replace g0 : v5.cell? ⟨v0.heap.size + 1, 0, none⟩ = some (.int .i64 (c)) := (hb.cell (by show v0.heap.size + 1 < _; first | (simp <;> omega) | omega)).trans (by go_simp)
      replace g1 : v5.cell? ⟨v0.heap.size + 1, 1, none⟩ = some (.int .i64 (d)) := (hb.cell (by show v0.heap.size + 1 < _; first | (simp <;> omega) | omega)).trans (by go_simp)
      have hA : Below w.heap.size w v5 := by
        refine Below.trans ?_ (hb.mono (by first | (simp <;> omega) | omega))
        repeat (first | exact Hv4.out | (refine Below.alloc ?_ (by first | (simp <;> omega) | omega) _) | (refine Below.setCell ?_ (by first | (simp <;> omega) | omega) _) | (refine below_drewN ?_ _))
      have hzv5 : v4.heap.size ≤ v5.heap.size := by have := hb.size; first | (simp at this; omega) | omega
      replace fs : v0.heap.size < v5.heap.size := by have := hb.size; first | (simp at this; omega) | omega
      replace gs : v0.heap.size + 1 < v5.heap.size := by have := hb.size; first | (simp at this; omega) | omega
      have hwv5 : w.heap.size ≤ v5.heap.size := hA.size
      have Hv5 := Lib.hid hA
      clear hb hA Hv4
      rw [hL]
      go_wp2_with fail
      go_ret
      exact ⟨rfl, (by repeat (first | exact Hv5.out | (refine Below.alloc ?_ (by first | (simp <;> omega) | omega) _)))⟩
    have ha := (fracB_iff.1 hV).1
    have hc := (fracB_iff.1 hU).1
    rcases less_cases hV hU with ⟨l1, l2, l3, l4⟩ | ⟨l1, l2, l3, l4⟩ | ⟨⟨rfl, rfl⟩, l1, l2, l3, l4⟩
    all_goals
      have HV := Lib.hid hV
      have HU := Lib.hid hU
      have L1 := Lib.hid l1
      have L2 := Lib.hid l2
      have L3 := Lib.hid l3
      clear hV hU l1 l2 l3
    · rcases hok : addB c d (-a) b with _ | _
      · have hX : sel (addB c d (-a) b) (lowX (c * b + -a * d) (d * b)) = 0 := by rw [hok]; rfl
        obtain ⟨E, hE⟩ : ∃ E, sel (addB c d (-a) b) (lowY (c * b + -a * d) (d * b)) = E := ⟨_, rfl⟩
        have HX := Lib.hid hX
        have HE := Lib.hid hE
        have HOK := Lib.hid hok
        clear hX hE hok
        go_wp2_with fail
        refine (impl_Less_c _ _ _ _ _).mono ?_
        rintro e v1 ⟨rfl, hb⟩
        have f0 : v1.cell? ⟨v0.heap.size, 0, none⟩ = some (.int .i64 (a)) := (hb.cell (by show v0.heap.size < _; first | (simp <;> omega) | omega)).trans (by go_simp)
        have f1 : v1.cell? ⟨v0.heap.size, 1, none⟩ = some (.int .i64 (b)) := (hb.cell (by show v0.heap.size < _; first | (simp <;> omega) | omega)).trans (by go_simp)
        have g0 : v1.cell? ⟨v0.heap.size + 1, 0, none⟩ = some (.int .i64 (c)) := (hb.cell (by show v0.heap.size + 1 < _; first | (simp <;> omega) | omega)).trans (by go_simp)
        have g1 : v1.cell? ⟨v0.heap.size + 1, 1, none⟩ = some (.int .i64 (d)) := (hb.cell (by show v0.heap.size + 1 < _; first | (simp <;> omega) | omega)).trans (by go_simp)
        have hA : Below w.heap.size w v1 := by
          refine Below.trans ?_ (hb.mono (by first | (simp <;> omega) | omega))
          repeat (first | exact Hv0.out | (refine Below.alloc ?_ (by first | (simp <;> omega) | omega) _) | (refine Below.setCell ?_ (by first | (simp <;> omega) | omega) _) | (refine below_drewN ?_ _))
        have hzv1 : v0.heap.size ≤ v1.heap.size := by have := hb.size; first | (simp at this; omega) | omega
        have fs : v0.heap.size < v1.heap.size := by have := hb.size; first | (simp at this; omega) | omega
        have gs : v0.heap.size + 1 < v1.heap.size := by have := hb.size; first | (simp at this; omega) | omega
        have hwv1 : w.heap.size ≤ v1.heap.size := hA.size
        have Hv1 := Lib.hid hA
        clear hb hA Hv0
        rw [L1.out]
        go_wp2_with fail
        refine (spec_Less_c _ _ _ _ _).mono ?_
        rintro e v2 ⟨rfl, hb⟩
        replace f0 : v2.cell? ⟨v0.heap.size, 0, none⟩ = some (.int .i64 (a)) := (hb.cell (by show v0.heap.size < _; first | (simp <;> omega) | omega)).trans (by go_simp)
        replace f1 : v2.cell? ⟨v0.heap.size, 1, none⟩ = some (.int .i64 (b)) := (hb.cell (by show v0.heap.size < _; first | (simp <;> omega) | omega)).trans (by go_simp)
        replace g0 : v2.cell? ⟨v0.heap.size + 1, 0, none⟩ = some (.int .i64 (c)) := (hb.cell (by show v0.heap.size + 1 < _; first | (simp <;> omega) | omega)).trans (by go_simp)
        replace g1 : v2.cell? ⟨v0.heap.size + 1, 1, none⟩ = some (.int .i64 (d)) := (hb.cell (by show v0.heap.size + 1 < _; first | (simp <;> omega) | omega)).trans (by go_simp)
        have hA : Below w.heap.size w v2 := by
          refine Below.trans ?_ (hb.mono (by first | (simp <;> omega) | omega))
          repeat (first | exact Hv1.out | (refine Below.alloc ?_ (by first | (simp <;> omega) | omega) _) | (refine Below.setCell ?_ (by first | (simp <;> omega) | omega) _) | (refine below_drewN ?_ _))
        have hzv2 : v1.heap.size ≤ v2.heap.size := by have := hb.size; first | (simp at this; omega) | omega
        replace fs : v0.heap.size < v2.heap.size := by have := hb.size; first | (simp at this; omega) | omega
        replace gs : v0.heap.size + 1 < v2.heap.size := by have := hb.size; first | (simp at this; omega) | omega
        have hwv2 : w.heap.size ≤ v2.heap.size := hA.size
        have Hv2 := Lib.hid hA
        clear hb hA Hv1
        rw [L1.out]
        go_wp2_with fail
        refine (impl_FractionValid_c _ _ _).mono ?_
        rintro e v3 ⟨rfl, hb⟩
        replace f0 : v3.cell? ⟨v0.heap.size, 0, none⟩ = some (.int .i64 (a)) := (hb.cell (by show v0.heap.size < _; first | (simp <;> omega) | omega)).trans (by go_simp)
        replace f1 : v3.cell? ⟨v0.heap.size, 1, none⟩ = some (.int .i64 (b)) := (hb.cell (by show v0.heap.size < _; first | (simp <;> omega) | omega)).trans (by go_simp)
        replace g0 : v3.cell? ⟨v0.heap.size + 1, 0, none⟩ = some (.int .i64 (c)) := (hb.cell (by show v0.heap.size + 1 < _; first | (simp <;> omega) | omega)).trans (by go_simp)
        replace g1 : v3.cell? ⟨v0.heap.size + 1, 1, none⟩ = some (.int .i64 (d)) := (hb.cell (by show v0.heap.size + 1 < _; first | (simp <;> omega) | omega)).trans (by go_simp)
        have hA : Below w.heap.size w v3 := by
          refine Below.trans ?_ (hb.mono (by first | (simp <;> omega) | omega))
          repeat (first | exact Hv2.out | (refine Below.alloc ?_ (by first | (simp <;> omega) | omega) _) | (refine Below.setCell ?_ (by first | (simp <;> omega) | omega) _) | (refine below_drewN ?_ _))
        have hzv3 : v2.heap.size ≤ v3.heap.size := by have := hb.size; first | (simp at this; omega) | omega
        replace fs : v0.heap.size < v3.heap.size := by have := hb.size; first | (simp at this; omega) | omega
        replace gs : v0.heap.size + 1 < v3.heap.size := by have := hb.size; first | (simp at this; omega) | omega
        have hwv3 : w.heap.size ≤ v3.heap.size := hA.size
        have Hv3 := Lib.hid hA
        clear hb hA Hv2
        rw [HV.out]
        go_wp2_with fail
        refine (impl_FractionValid_c _ _ _).mono ?_
        rintro e v4 ⟨rfl, hb⟩
        replace f0 : v4.cell? ⟨v0.heap.size, 0, none⟩ = some (.int .i64 (a)) := (hb.cell (by show v0.heap.size < _; first | (simp <;> omega) | omega)).trans (by go_simp)
        replace f1 : v4.cell? ⟨v0.heap.size, 1, none⟩ = some (.int .i64 (b)) := (hb.cell (by show v0.heap.size < _; first | (simp <;> omega) | omega)).trans (by go_simp)
        replace g0 : v4.cell? ⟨v0.heap.size + 1, 0, none⟩ = some (.int .i64 (c)) := (hb.cell (by show v0.heap.size + 1 < _; first | (simp <;> omega) | omega)).trans (by go_simp)
        replace g1 : v4.cell? ⟨v0.heap.size + 1, 1, none⟩ = some (.int .i64 (d)) := (hb.cell (by show v0.heap.size + 1 < _; first | (simp <;> omega) | omega)).trans (by go_simp)
        have hA : Below w.heap.size w v4 := by
          refine Below.trans ?_ (hb.mono (by first | (simp <;> omega) | omega))
          repeat (first | exact Hv3.out | (refine Below.alloc ?_ (by first | (simp <;> omega) | omega) _) | (refine Below.setCell ?_ (by first | (simp <;> omega) | omega) _) | (refine below_drewN ?_ _))
        have hzv4 : v3.heap.size ≤ v4.heap.size := by have := hb.size; first | (simp at this; omega) | omega
        replace fs : v0.heap.size < v4.heap.size := by have := hb.size; first | (simp at this; omega) | omega
        replace gs : v0.heap.size + 1 < v4.heap.size := by have := hb.size; first | (simp at this; omega) | omega
        have hwv4 : w.heap.size ≤ v4.heap.size := hA.size
        have Hv4 := Lib.hid hA
        clear hb hA Hv3
        rw [HU.out]
        go_wp2_with fail
        refine (impl_Minus_c _ _ _).mono ?_
        rintro e v5 ⟨rfl, hb⟩
        replace f0 : v5.cell? ⟨v0.heap.size, 0, none⟩ = some (.int .i64 (a)) := (hb.cell (by show v0.heap.size < _; first | (simp <;> omega) | omega)).trans (by go_simp)
        replace f1 : v5.cell? ⟨v0.heap.size, 1, none⟩ = some (.int .i64 (b)) := (hb.cell (by show v0.heap.size < _; first | (simp <;> omega) | omega)).trans (by go_simp)
        replace g0 : v5.cell? ⟨v0.heap.size + 1, 0, none⟩ = some (.int .i64 (c)) := (hb.cell (by show v0.heap.size + 1 < _; first | (simp <;> omega) | omega)).trans (by go_simp)
        replace g1 : v5.cell? ⟨v0.heap.size + 1, 1, none⟩ = some (.int .i64 (d)) := (hb.cell (by show v0.heap.size + 1 < _; first | (simp <;> omega) | omega)).trans (by go_simp)
        have hA : Below w.heap.size w v5 := by
          refine Below.trans ?_ (hb.mono (by first | (simp <;> omega) | omega))
          repeat (first | exact Hv4.out | (refine Below.alloc ?_ (by first | (simp <;> omega) | omega) _) | (refine Below.setCell ?_ (by first | (simp <;> omega) | omega) _) | (refine below_drewN ?_ _))
        have hzv5 : v4.heap.size ≤ v5.heap.size := by have := hb.size; first | (simp at this; omega) | omega
        replace fs : v0.heap.size < v5.heap.size := by have := hb.size; first | (simp at this; omega) | omega
        replace gs : v0.heap.size + 1 < v5.heap.size := by have := hb.size; first | (simp at this; omega) | omega
        have hwv5 : w.heap.size ≤ v5.heap.size := hA.size
        have Hv5 := Lib.hid hA
        clear hb hA Hv4
        rw [HV.out, sel_true, sel_true]
        go_wp2_with fail
        refine (impl_Add_c _ _ _ _ _).mono ?_
        rintro e v6 ⟨rfl, hb⟩
        replace f0 : v6.cell? ⟨v0.heap.size, 0, none⟩ = some (.int .i64 (a)) := (hb.cell (by show v0.heap.size < _; first | (simp <;> omega) | omega)).trans (by go_simp)
        replace f1 : v6.cell? ⟨v0.heap.size, 1, none⟩ = some (.int .i64 (b)) := (hb.cell (by show v0.heap.size < _; first | (simp <;> omega) | omega)).trans (by go_simp)
        replace g0 : v6.cell? ⟨v0.heap.size + 1, 0, none⟩ = some (.int .i64 (c)) := (hb.cell (by show v0.heap.size + 1 < _; first | (simp <;> omega) | omega)).trans (by go_simp)
        replace g1 : v6.cell? ⟨v0.heap.size + 1, 1, none⟩ = some (.int .i64 (d)) := (hb.cell (by show v0.heap.size + 1 < _; first | (simp <;> omega) | omega)).trans (by go_simp)
        have m0 : v6.cell? ⟨v5.heap.size, 0, none⟩ = some (.int .i64 (-a)) := (hb.cell (by show v5.heap.size < _; first | (simp <;> omega) | omega)).trans (by go_simp)
        have m1 : v6.cell? ⟨v5.heap.size, 1, none⟩ = some (.int .i64 (b)) := (hb.cell (by show v5.heap.size < _; first | (simp <;> omega) | omega)).trans (by go_simp)
        have hA : Below w.heap.size w v6 := by
          refine Below.trans ?_ (hb.mono (by first | (simp <;> omega) | omega))
          repeat (first | exact Hv5.out | (refine Below.alloc ?_ (by first | (simp <;> omega) | omega) _) | (refine Below.setCell ?_ (by first | (simp <;> omega) | omega) _) | (refine below_drewN ?_ _))
        have hzv6 : v5.heap.size ≤ v6.heap.size := by have := hb.size; first | (simp at this; omega) | omega
        replace fs : v0.heap.size < v6.heap.size := by have := hb.size; first | (simp at this; omega) | omega
        replace gs : v0.heap.size + 1 < v6.heap.size := by have := hb.size; first | (simp at this; omega) | omega
        have ms : v5.heap.size < v6.heap.size := by have := hb.size; first | (simp at this; omega) | omega
        have hwv6 : w.heap.size ≤ v6.heap.size := hA.size
        have Hv6 := Lib.hid hA
        clear hb hA Hv5
        rw [HX.out, HE.out, HOK.out]
        go_wp2_with fail
        refine (impl_Minus_c _ _ _).mono ?_
        rintro e v7 ⟨rfl, hb⟩
        replace f0 : v7.cell? ⟨v0.heap.size, 0, none⟩ = some (.int .i64 (a)) := (hb.cell (by show v0.heap.size < _; first | (simp <;> omega) | omega)).trans (by go_simp)
        replace f1 : v7.cell? ⟨v0.heap.size, 1, none⟩ = some (.int .i64 (b)) := (hb.cell (by show v0.heap.size < _; first | (simp <;> omega) | omega)).trans (by go_simp)
        replace g0 : v7.cell? ⟨v0.heap.size + 1, 0, none⟩ = some (.int .i64 (c)) := (hb.cell (by show v0.heap.size + 1 < _; first | (simp <;> omega) | omega)).trans (by go_simp)
        replace g1 : v7.cell? ⟨v0.heap.size + 1, 1, none⟩ = some (.int .i64 (d)) := (hb.cell (by show v0.heap.size + 1 < _; first | (simp <;> omega) | omega)).trans (by go_simp)
        replace m0 : v7.cell? ⟨v5.heap.size, 0, none⟩ = some (.int .i64 (-a)) := (hb.cell (by show v5.heap.size < _; first | (simp <;> omega) | omega)).trans (by go_simp)
        replace m1 : v7.cell? ⟨v5.heap.size, 1, none⟩ = some (.int .i64 (b)) := (hb.cell (by show v5.heap.size < _; first | (simp <;> omega) | omega)).trans (by go_simp)
        have s0 : v7.cell? ⟨v6.heap.size, 0, none⟩ = some (.int .i64 (0)) := (hb.cell (by show v6.heap.size < _; first | (simp <;> omega) | omega)).trans (by go_simp)
        have s1 : v7.cell? ⟨v6.heap.size, 1, none⟩ = some (.int .i64 (E)) := (hb.cell (by show v6.heap.size < _; first | (simp <;> omega) | omega)).trans (by go_simp)
        have hA : Below w.heap.size w v7 := by
          refine Below.trans ?_ (hb.mono (by first | (simp <;> omega) | omega))
          repeat (first | exact Hv6.out | (refine Below.alloc ?_ (by first | (simp <;> omega) | omega) _) | (refine Below.setCell ?_ (by first | (simp <;> omega) | omega) _) | (refine below_drewN ?_ _))
        have hzv7 : v6.heap.size ≤ v7.heap.size := by have := hb.size; first | (simp at this; omega) | omega
        replace fs : v0.heap.size < v7.heap.size := by have := hb.size; first | (simp at this; omega) | omega
        replace gs : v0.heap.size + 1 < v7.heap.size := by have := hb.size; first | (simp at this; omega) | omega
        replace ms : v5.heap.size < v7.heap.size := by have := hb.size; first | (simp at this; omega) | omega
        have ss : v6.heap.size < v7.heap.size := by have := hb.size; first | (simp at this; omega) | omega
        have hwv7 : w.heap.size ≤ v7.heap.size := hA.size
        have Hv7 := Lib.hid hA
        clear hb hA Hv6
        rw [HU.out, sel_true, sel_true]
        go_wp2_with fail
        refine (impl_Less_c _ _ _ _ _).mono ?_
        rintro e v8 ⟨rfl, hb⟩
        replace f0 : v8.cell? ⟨v0.heap.size, 0, none⟩ = some (.int .i64 (a)) := (hb.cell (by show v0.heap.size < _; first | (simp <;> omega) | omega)).trans (by go_simp)
        replace f1 : v8.cell? ⟨v0.heap.size, 1, none⟩ = some (.int .i64 (b)) := (hb.cell (by show v0.heap.size < _; first | (simp <;> omega) | omega)).trans (by go_simp)
        replace g0 : v8.cell? ⟨v0.heap.size + 1, 0, none⟩ = some (.int .i64 (c)) := (hb.cell (by show v0.heap.size + 1 < _; first | (simp <;> omega) | omega)).trans (by go_simp)
        replace g1 : v8.cell? ⟨v0.heap.size + 1, 1, none⟩ = some (.int .i64 (d)) := (hb.cell (by show v0.heap.size + 1 < _; first | (simp <;> omega) | omega)).trans (by go_simp)
        replace m0 : v8.cell? ⟨v5.heap.size, 0, none⟩ = some (.int .i64 (-a)) := (hb.cell (by show v5.heap.size < _; first | (simp <;> omega) | omega)).trans (by go_simp)
        replace m1 : v8.cell? ⟨v5.heap.size, 1, none⟩ = some (.int .i64 (b)) := (hb.cell (by show v5.heap.size < _; first | (simp <;> omega) | omega)).trans (by go_simp)
        replace s0 : v8.cell? ⟨v6.heap.size, 0, none⟩ = some (.int .i64 (0)) := (hb.cell (by show v6.heap.size < _; first | (simp <;> omega) | omega)).trans (by go_simp)
        replace s1 : v8.cell? ⟨v6.heap.size, 1, none⟩ = some (.int .i64 (E)) := (hb.cell (by show v6.heap.size < _; first | (simp <;> omega) | omega)).trans (by go_simp)
        have n0 : v8.cell? ⟨v7.heap.size, 0, none⟩ = some (.int .i64 (-c)) := (hb.cell (by show v7.heap.size < _; first | (simp <;> omega) | omega)).trans (by go_simp)
        have n1 : v8.cell? ⟨v7.heap.size, 1, none⟩ = some (.int .i64 (d)) := (hb.cell (by show v7.heap.size < _; first | (simp <;> omega) | omega)).trans (by go_simp)
        have hA : Below w.heap.size w v8 := by
          refine Below.trans ?_ (hb.mono (by first | (simp <;> omega) | omega))
          repeat (first | exact Hv7.out | (refine Below.alloc ?_ (by first | (simp <;> omega) | omega) _) | (refine Below.setCell ?_ (by first | (simp <;> omega) | omega) _) | (refine below_drewN ?_ _))
        have hzv8 : v7.heap.size ≤ v8.heap.size := by have := hb.size; first | (simp at this; omega) | omega
        replace fs : v0.heap.size < v8.heap.size := by have := hb.size; first | (simp at this; omega) | omega
        replace gs : v0.heap.size + 1 < v8.heap.size := by have := hb.size; first | (simp at this; omega) | omega
        replace ms : v5.heap.size < v8.heap.size := by have := hb.size; first | (simp at this; omega) | omega
        replace ss : v6.heap.size < v8.heap.size := by have := hb.size; first | (simp at this; omega) | omega
        have ns : v7.heap.size < v8.heap.size := by have := hb.size; first | (simp at this; omega) | omega
        have hwv8 : w.heap.size ≤ v8.heap.size := hA.size
        have Hv8 := Lib.hid hA
        clear hb hA Hv7
        rw [L2.out]
        go_wp2_with fail
        refine (impl_Less_c _ _ _ _ _).mono ?_
        rintro e v9 ⟨rfl, hb⟩
        replace f0 : v9.cell? ⟨v0.heap.size, 0, none⟩ = some (.int .i64 (a)) := (hb.cell (by show v0.heap.size < _; first | (simp <;> omega) | omega)).trans (by go_simp)
        replace f1 : v9.cell? ⟨v0.heap.size, 1, none⟩ = some (.int .i64 (b)) := (hb.cell (by show v0.heap.size < _; first | (simp <;> omega) | omega)).trans (by go_simp)
        replace g0 : v9.cell? ⟨v0.heap.size + 1, 0, none⟩ = some (.int .i64 (c)) := (hb.cell (by show v0.heap.size + 1 < _; first | (simp <;> omega) | omega)).trans (by go_simp)
        replace g1 : v9.cell? ⟨v0.heap.size + 1, 1, none⟩ = some (.int .i64 (d)) := (hb.cell (by show v0.heap.size + 1 < _; first | (simp <;> omega) | omega)).trans (by go_simp)
        replace m0 : v9.cell? ⟨v5.heap.size, 0, none⟩ = some (.int .i64 (-a)) := (hb.cell (by show v5.heap.size < _; first | (simp <;> omega) | omega)).trans (by go_simp)
        replace m1 : v9.cell? ⟨v5.heap.size, 1, none⟩ = some (.int .i64 (b)) := (hb.cell (by show v5.heap.size < _; first | (simp <;> omega) | omega)).trans (by go_simp)
        replace s0 : v9.cell? ⟨v6.heap.size, 0, none⟩ = some (.int .i64 (0)) := (hb.cell (by show v6.heap.size < _; first | (simp <;> omega) | omega)).trans (by go_simp)
        replace s1 : v9.cell? ⟨v6.heap.size, 1, none⟩ = some (.int .i64 (E)) := (hb.cell (by show v6.heap.size < _; first | (simp <;> omega) | omega)).trans (by go_simp)
        replace n0 : v9.cell? ⟨v7.heap.size, 0, none⟩ = some (.int .i64 (-c)) := (hb.cell (by show v7.heap.size < _; first | (simp <;> omega) | omega)).trans (by go_simp)
        replace n1 : v9.cell? ⟨v7.heap.size, 1, none⟩ = some (.int .i64 (d)) := (hb.cell (by show v7.heap.size < _; first | (simp <;> omega) | omega)).trans (by go_simp)
        have hA : Below w.heap.size w v9 := by
          refine Below.trans ?_ (hb.mono (by first | (simp <;> omega) | omega))
          repeat (first | exact Hv8.out | (refine Below.alloc ?_ (by first | (simp <;> omega) | omega) _) | (refine Below.setCell ?_ (by first | (simp <;> omega) | omega) _) | (refine below_drewN ?_ _))
        have hzv9 : v8.heap.size ≤ v9.heap.size := by have := hb.size; first | (simp at this; omega) | omega
        replace fs : v0.heap.size < v9.heap.size := by have := hb.size; first | (simp at this; omega) | omega
        replace gs : v0.heap.size + 1 < v9.heap.size := by have := hb.size; first | (simp at this; omega) | omega
        replace ms : v5.heap.size < v9.heap.size := by have := hb.size; first | (simp at this; omega) | omega
        replace ss : v6.heap.size < v9.heap.size := by have := hb.size; first | (simp at this; omega) | omega
        replace ns : v7.heap.size < v9.heap.size := by have := hb.size; first | (simp at this; omega) | omega
        have hwv9 : w.heap.size ≤ v9.heap.size := hA.size
        have Hv9 := Lib.hid hA
        clear hb hA Hv8
        rw [L3.out]
        go_wp2_with fail
        go_ret
        exact ⟨rfl, (by repeat (first | exact Hv9.out | (refine Below.alloc ?_ (by first | (simp <;> omega) | omega) _)))⟩
      · obtain ⟨Z, hZ⟩ : ∃ Z, lowX (c * b + -a * d) (d * b) = Z := ⟨_, rfl⟩
        rw [hZ] at l4
        have hX : sel (addB c d (-a) b) (lowX (c * b + -a * d) (d * b)) = Z := by rw [hok, hZ]; rfl
        obtain ⟨E, hE⟩ : ∃ E, sel (addB c d (-a) b) (lowY (c * b + -a * d) (d * b)) = E := ⟨_, rfl⟩
        have HX := Lib.hid hX
        have HE := Lib.hid hE
        have HOK := Lib.hid hok
        clear hX hE hok
        clear hZ
        go_wp2_with fail
        refine (impl_Less_c _ _ _ _ _).mono ?_
        rintro e v1 ⟨rfl, hb⟩
        have f0 : v1.cell? ⟨v0.heap.size, 0, none⟩ = some (.int .i64 (a)) := (hb.cell (by show v0.heap.size < _; first | (simp <;> omega) | omega)).trans (by go_simp)
        have f1 : v1.cell? ⟨v0.heap.size, 1, none⟩ = some (.int .i64 (b)) := (hb.cell (by show v0.heap.size < _; first | (simp <;> omega) | omega)).trans (by go_simp)
        have g0 : v1.cell? ⟨v0.heap.size + 1, 0, none⟩ = some (.int .i64 (c)) := (hb.cell (by show v0.heap.size + 1 < _; first | (simp <;> omega) | omega)).trans (by go_simp)
        have g1 : v1.cell? ⟨v0.heap.size + 1, 1, none⟩ = some (.int .i64 (d)) := (hb.cell (by show v0.heap.size + 1 < _; first | (simp <;> omega) | omega)).trans (by go_simp)
        have hA : Below w.heap.size w v1 := by
          refine Below.trans ?_ (hb.mono (by first | (simp <;> omega) | omega))
          repeat (first | exact Hv0.out | (refine Below.alloc ?_ (by first | (simp <;> omega) | omega) _) | (refine Below.setCell ?_ (by first | (simp <;> omega) | omega) _) | (refine below_drewN ?_ _))
        have hzv1 : v0.heap.size ≤ v1.heap.size := by have := hb.size; first | (simp at this; omega) | omega
        have fs : v0.heap.size < v1.heap.size := by have := hb.size; first | (simp at this; omega) | omega
        have gs : v0.heap.size + 1 < v1.heap.size := by have := hb.size; first | (simp at this; omega) | omega
        have hwv1 : w.heap.size ≤ v1.heap.size := hA.size
        have Hv1 := Lib.hid hA
        clear hb hA Hv0
        rw [L1.out]
        go_wp2_with fail
        refine (spec_Less_c _ _ _ _ _).mono ?_
        rintro e v2 ⟨rfl, hb⟩
        replace f0 : v2.cell? ⟨v0.heap.size, 0, none⟩ = some (.int .i64 (a)) := (hb.cell (by show v0.heap.size < _; first | (simp <;> omega) | omega)).trans (by go_simp)
        replace f1 : v2.cell? ⟨v0.heap.size, 1, none⟩ = some (.int .i64 (b)) := (hb.cell (by show v0.heap.size < _; first | (simp <;> omega) | omega)).trans (by go_simp)
        replace g0 : v2.cell? ⟨v0.heap.size + 1, 0, none⟩ = some (.int .i64 (c)) := (hb.cell (by show v0.heap.size + 1 < _; first | (simp <;> omega) | omega)).trans (by go_simp)
        replace g1 : v2.cell? ⟨v0.heap.size + 1, 1, none⟩ = some (.int .i64 (d)) := (hb.cell (by show v0.heap.size + 1 < _; first | (simp <;> omega) | omega)).trans (by go_simp)
        have hA : Below w.heap.size w v2 := by
          refine Below.trans ?_ (hb.mono (by first | (simp <;> omega) | omega))
          repeat (first | exact Hv1.out | (refine Below.alloc ?_ (by first | (simp <;> omega) | omega) _) | (refine Below.setCell ?_ (by first | (simp <;> omega) | omega) _) | (refine below_drewN ?_ _))
        have hzv2 : v1.heap.size ≤ v2.heap.size := by have := hb.size; first | (simp at this; omega) | omega
        replace fs : v0.heap.size < v2.heap.size := by have := hb.size; first | (simp at this; omega) | omega
        replace gs : v0.heap.size + 1 < v2.heap.size := by have := hb.size; first | (simp at this; omega) | omega
        have hwv2 : w.heap.size ≤ v2.heap.size := hA.size
        have Hv2 := Lib.hid hA
        clear hb hA Hv1
        rw [L1.out]
        go_wp2_with fail
        refine (impl_FractionValid_c _ _ _).mono ?_
        rintro e v3 ⟨rfl, hb⟩
        replace f0 : v3.cell? ⟨v0.heap.size, 0, none⟩ = some (.int .i64 (a)) := (hb.cell (by show v0.heap.size < _; first | (simp <;> omega) | omega)).trans (by go_simp)
        replace f1 : v3.cell? ⟨v0.heap.size, 1, none⟩ = some (.int .i64 (b)) := (hb.cell (by show v0.heap.size < _; first | (simp <;> omega) | omega)).trans (by go_simp)
        replace g0 : v3.cell? ⟨v0.heap.size + 1, 0, none⟩ = some (.int .i64 (c)) := (hb.cell (by show v0.heap.size + 1 < _; first | (simp <;> omega) | omega)).trans (by go_simp)
        replace g1 : v3.cell? ⟨v0.heap.size + 1, 1, none⟩ = some (.int .i64 (d)) := (hb.cell (by show v0.heap.size + 1 < _; first | (simp <;> omega) | omega)).trans (by go_simp)
        have hA : Below w.heap.size w v3 := by
          refine Below.trans ?_ (hb.mono (by first | (simp <;> omega) | omega))
          repeat (first | exact Hv2.out | (refine Below.alloc ?_ (by first | (simp <;> omega) | omega) _) | (refine Below.setCell ?_ (by first | (simp <;> omega) | omega) _) | (refine below_drewN ?_ _))
        have hzv3 : v2.heap.size ≤ v3.heap.size := by have := hb.size; first | (simp at this; omega) | omega
        replace fs : v0.heap.size < v3.heap.size := by have := hb.size; first | (simp at this; omega) | omega
        replace gs : v0.heap.size + 1 < v3.heap.size := by have := hb.size; first | (simp at this; omega) | omega
        have hwv3 : w.heap.size ≤ v3.heap.size := hA.size
        have Hv3 := Lib.hid hA
        clear hb hA Hv2
        rw [HV.out]
        go_wp2_with fail
        refine (impl_FractionValid_c _ _ _).mono ?_
        rintro e v4 ⟨rfl, hb⟩
        replace f0 : v4.cell? ⟨v0.heap.size, 0, none⟩ = some (.int .i64 (a)) := (hb.cell (by show v0.heap.size < _; first | (simp <;> omega) | omega)).trans (by go_simp)
        replace f1 : v4.cell? ⟨v0.heap.size, 1, none⟩ = some (.int .i64 (b)) := (hb.cell (by show v0.heap.size < _; first | (simp <;> omega) | omega)).trans (by go_simp)
        replace g0 : v4.cell? ⟨v0.heap.size + 1, 0, none⟩ = some (.int .i64 (c)) := (hb.cell (by show v0.heap.size + 1 < _; first | (simp <;> omega) | omega)).trans (by go_simp)
        replace g1 : v4.cell? ⟨v0.heap.size + 1, 1, none⟩ = some (.int .i64 (d)) := (hb.cell (by show v0.heap.size + 1 < _; first | (simp <;> omega) | omega)).trans (by go_simp)
        have hA : Below w.heap.size w v4 := by
          refine Below.trans ?_ (hb.mono (by first | (simp <;> omega) | omega))
          repeat (first | exact Hv3.out | (refine Below.alloc ?_ (by first | (simp <;> omega) | omega) _) | (refine Below.setCell ?_ (by first | (simp <;> omega) | omega) _) | (refine below_drewN ?_ _))
        have hzv4 : v3.heap.size ≤ v4.heap.size := by have := hb.size; first | (simp at this; omega) | omega
        replace fs : v0.heap.size < v4.heap.size := by have := hb.size; first | (simp at this; omega) | omega
        replace gs : v0.heap.size + 1 < v4.heap.size := by have := hb.size; first | (simp at this; omega) | omega
        have hwv4 : w.heap.size ≤ v4.heap.size := hA.size
        have Hv4 := Lib.hid hA
        clear hb hA Hv3
        rw [HU.out]
        go_wp2_with fail
        refine (impl_Minus_c _ _ _).mono ?_
        rintro e v5 ⟨rfl, hb⟩
        replace f0 : v5.cell? ⟨v0.heap.size, 0, none⟩ = some (.int .i64 (a)) := (hb.cell (by show v0.heap.size < _; first | (simp <;> omega) | omega)).trans (by go_simp)
        replace f1 : v5.cell? ⟨v0.heap.size, 1, none⟩ = some (.int .i64 (b)) := (hb.cell (by show v0.heap.size < _; first | (simp <;> omega) | omega)).trans (by go_simp)
        replace g0 : v5.cell? ⟨v0.heap.size + 1, 0, none⟩ = some (.int .i64 (c)) := (hb.cell (by show v0.heap.size + 1 < _; first | (simp <;> omega) | omega)).trans (by go_simp)
        replace g1 : v5.cell? ⟨v0.heap.size + 1, 1, none⟩ = some (.int .i64 (d)) := (hb.cell (by show v0.heap.size + 1 < _; first | (simp <;> omega) | omega)).trans (by go_simp)
        have hA : Below w.heap.size w v5 := by
          refine Below.trans ?_ (hb.mono (by first | (simp <;> omega) | omega))
          repeat (first | exact Hv4.out | (refine Below.alloc ?_ (by first | (simp <;> omega) | omega) _) | (refine Below.setCell ?_ (by first | (simp <;> omega) | omega) _) | (refine below_drewN ?_ _))
        have hzv5 : v4.heap.size ≤ v5.heap.size := by have := hb.size; first | (simp at this; omega) | omega
        replace fs : v0.heap.size < v5.heap.size := by have := hb.size; first | (simp at this; omega) | omega
        replace gs : v0.heap.size + 1 < v5.heap.size := by have := hb.size; first | (simp at this; omega) | omega
        have hwv5 : w.heap.size ≤ v5.heap.size := hA.size
        have Hv5 := Lib.hid hA
        clear hb hA Hv4
        rw [HV.out, sel_true, sel_true]
        go_wp2_with fail
        refine (impl_Add_c _ _ _ _ _).mono ?_
        rintro e v6 ⟨rfl, hb⟩
        replace f0 : v6.cell? ⟨v0.heap.size, 0, none⟩ = some (.int .i64 (a)) := (hb.cell (by show v0.heap.size < _; first | (simp <;> omega) | omega)).trans (by go_simp)
        replace f1 : v6.cell? ⟨v0.heap.size, 1, none⟩ = some (.int .i64 (b)) := (hb.cell (by show v0.heap.size < _; first | (simp <;> omega) | omega)).trans (by go_simp)
        replace g0 : v6.cell? ⟨v0.heap.size + 1, 0, none⟩ = some (.int .i64 (c)) := (hb.cell (by show v0.heap.size + 1 < _; first | (simp <;> omega) | omega)).trans (by go_simp)
        replace g1 : v6.cell? ⟨v0.heap.size + 1, 1, none⟩ = some (.int .i64 (d)) := (hb.cell (by show v0.heap.size + 1 < _; first | (simp <;> omega) | omega)).trans (by go_simp)
        have m0 : v6.cell? ⟨v5.heap.size, 0, none⟩ = some (.int .i64 (-a)) := (hb.cell (by show v5.heap.size < _; first | (simp <;> omega) | omega)).trans (by go_simp)
        have m1 : v6.cell? ⟨v5.heap.size, 1, none⟩ = some (.int .i64 (b)) := (hb.cell (by show v5.heap.size < _; first | (simp <;> omega) | omega)).trans (by go_simp)
        have hA : Below w.heap.size w v6 := by
          refine Below.trans ?_ (hb.mono (by first | (simp <;> omega) | omega))
          repeat (first | exact Hv5.out | (refine Below.alloc ?_ (by first | (simp <;> omega) | omega) _) | (refine Below.setCell ?_ (by first | (simp <;> omega) | omega) _) | (refine below_drewN ?_ _))
        have hzv6 : v5.heap.size ≤ v6.heap.size := by have := hb.size; first | (simp at this; omega) | omega
        replace fs : v0.heap.size < v6.heap.size := by have := hb.size; first | (simp at this; omega) | omega
        replace gs : v0.heap.size + 1 < v6.heap.size := by have := hb.size; first | (simp at this; omega) | omega
        have ms : v5.heap.size < v6.heap.size := by have := hb.size; first | (simp at this; omega) | omega
        have hwv6 : w.heap.size ≤ v6.heap.size := hA.size
        have Hv6 := Lib.hid hA
        clear hb hA Hv5
        rw [HX.out, HE.out, HOK.out]
        go_wp2_with fail
        refine (impl_Minus_c _ _ _).mono ?_
        rintro e v7 ⟨rfl, hb⟩
        replace f0 : v7.cell? ⟨v0.heap.size, 0, none⟩ = some (.int .i64 (a)) := (hb.cell (by show v0.heap.size < _; first | (simp <;> omega) | omega)).trans (by go_simp)
        replace f1 : v7.cell? ⟨v0.heap.size, 1, none⟩ = some (.int .i64 (b)) := (hb.cell (by show v0.heap.size < _; first | (simp <;> omega) | omega)).trans (by go_simp)
        replace g0 : v7.cell? ⟨v0.heap.size + 1, 0, none⟩ = some (.int .i64 (c)) := (hb.cell (by show v0.heap.size + 1 < _; first | (simp <;> omega) | omega)).trans (by go_simp)
        replace g1 : v7.cell? ⟨v0.heap.size + 1, 1, none⟩ = some (.int .i64 (d)) := (hb.cell (by show v0.heap.size + 1 < _; first | (simp <;> omega) | omega)).trans (by go_simp)
        replace m0 : v7.cell? ⟨v5.heap.size, 0, none⟩ = some (.int .i64 (-a)) := (hb.cell (by show v5.heap.size < _; first | (simp <;> omega) | omega)).trans (by go_simp)
        replace m1 : v7.cell? ⟨v5.heap.size, 1, none⟩ = some (.int .i64 (b)) := (hb.cell (by show v5.heap.size < _; first | (simp <;> omega) | omega)).trans (by go_simp)
        have s0 : v7.cell? ⟨v6.heap.size, 0, none⟩ = some (.int .i64 (Z)) := (hb.cell (by show v6.heap.size < _; first | (simp <;> omega) | omega)).trans (by go_simp)
        have s1 : v7.cell? ⟨v6.heap.size, 1, none⟩ = some (.int .i64 (E)) := (hb.cell (by show v6.heap.size < _; first | (simp <;> omega) | omega)).trans (by go_simp)
        have hA : Below w.heap.size w v7 := by
          refine Below.trans ?_ (hb.mono (by first | (simp <;> omega) | omega))
          repeat (first | exact Hv6.out | (refine Below.alloc ?_ (by first | (simp <;> omega) | omega) _) | (refine Below.setCell ?_ (by first | (simp <;> omega) | omega) _) | (refine below_drewN ?_ _))
        have hzv7 : v6.heap.size ≤ v7.heap.size := by have := hb.size; first | (simp at this; omega) | omega
        replace fs : v0.heap.size < v7.heap.size := by have := hb.size; first | (simp at this; omega) | omega
        replace gs : v0.heap.size + 1 < v7.heap.size := by have := hb.size; first | (simp at this; omega) | omega
        replace ms : v5.heap.size < v7.heap.size := by have := hb.size; first | (simp at this; omega) | omega
        have ss : v6.heap.size < v7.heap.size := by have := hb.size; first | (simp at this; omega) | omega
        have hwv7 : w.heap.size ≤ v7.heap.size := hA.size
        have Hv7 := Lib.hid hA
        clear hb hA Hv6
        rw [HU.out, sel_true, sel_true]
        go_wp2_with fail
        refine (impl_Less_c _ _ _ _ _).mono ?_
        rintro e v8 ⟨rfl, hb⟩
        replace f0 : v8.cell? ⟨v0.heap.size, 0, none⟩ = some (.int .i64 (a)) := (hb.cell (by show v0.heap.size < _; first | (simp <;> omega) | omega)).trans (by go_simp)
        replace f1 : v8.cell? ⟨v0.heap.size, 1, none⟩ = some (.int .i64 (b)) := (hb.cell (by show v0.heap.size < _; first | (simp <;> omega) | omega)).trans (by go_simp)
        replace g0 : v8.cell? ⟨v0.heap.size + 1, 0, none⟩ = some (.int .i64 (c)) := (hb.cell (by show v0.heap.size + 1 < _; first | (simp <;> omega) | omega)).trans (by go_simp)
        replace g1 : v8.cell? ⟨v0.heap.size + 1, 1, none⟩ = some (.int .i64 (d)) := (hb.cell (by show v0.heap.size + 1 < _; first | (simp <;> omega) | omega)).trans (by go_simp)
        replace m0 : v8.cell? ⟨v5.heap.size, 0, none⟩ = some (.int .i64 (-a)) := (hb.cell (by show v5.heap.size < _; first | (simp <;> omega) | omega)).trans (by go_simp)
        replace m1 : v8.cell? ⟨v5.heap.size, 1, none⟩ = some (.int .i64 (b)) := (hb.cell (by show v5.heap.size < _; first | (simp <;> omega) | omega)).trans (by go_simp)
        replace s0 : v8.cell? ⟨v6.heap.size, 0, none⟩ = some (.int .i64 (Z)) := (hb.cell (by show v6.heap.size < _; first | (simp <;> omega) | omega)).trans (by go_simp)
        replace s1 : v8.cell? ⟨v6.heap.size, 1, none⟩ = some (.int .i64 (E)) := (hb.cell (by show v6.heap.size < _; first | (simp <;> omega) | omega)).trans (by go_simp)
        have n0 : v8.cell? ⟨v7.heap.size, 0, none⟩ = some (.int .i64 (-c)) := (hb.cell (by show v7.heap.size < _; first | (simp <;> omega) | omega)).trans (by go_simp)
        have n1 : v8.cell? ⟨v7.heap.size, 1, none⟩ = some (.int .i64 (d)) := (hb.cell (by show v7.heap.size < _; first | (simp <;> omega) | omega)).trans (by go_simp)
        have hA : Below w.heap.size w v8 := by
          refine Below.trans ?_ (hb.mono (by first | (simp <;> omega) | omega))
          repeat (first | exact Hv7.out | (refine Below.alloc ?_ (by first | (simp <;> omega) | omega) _) | (refine Below.setCell ?_ (by first | (simp <;> omega) | omega) _) | (refine below_drewN ?_ _))
        have hzv8 : v7.heap.size ≤ v8.heap.size := by have := hb.size; first | (simp at this; omega) | omega
        replace fs : v0.heap.size < v8.heap.size := by have := hb.size; first | (simp at this; omega) | omega
        replace gs : v0.heap.size + 1 < v8.heap.size := by have := hb.size; first | (simp at this; omega) | omega
        replace ms : v5.heap.size < v8.heap.size := by have := hb.size; first | (simp at this; omega) | omega
        replace ss : v6.heap.size < v8.heap.size := by have := hb.size; first | (simp at this; omega) | omega
        have ns : v7.heap.size < v8.heap.size := by have := hb.size; first | (simp at this; omega) | omega
        have hwv8 : w.heap.size ≤ v8.heap.size := hA.size
        have Hv8 := Lib.hid hA
        clear hb hA Hv7
        rw [L2.out]
        go_wp2_with fail
        refine (impl_Less_c _ _ _ _ _).mono ?_
        rintro e v9 ⟨rfl, hb⟩
        replace f0 : v9.cell? ⟨v0.heap.size, 0, none⟩ = some (.int .i64 (a)) := (hb.cell (by show v0.heap.size < _; first | (simp <;> omega) | omega)).trans (by go_simp)
        replace f1 : v9.cell? ⟨v0.heap.size, 1, none⟩ = some (.int .i64 (b)) := (hb.cell (by show v0.heap.size < _; first | (simp <;> omega) | omega)).trans (by go_simp)
        replace g0 : v9.cell? ⟨v0.heap.size + 1, 0, none⟩ = some (.int .i64 (c)) := (hb.cell (by show v0.heap.size + 1 < _; first | (simp <;> omega) | omega)).trans (by go_simp)
        replace g1 : v9.cell? ⟨v0.heap.size + 1, 1, none⟩ = some (.int .i64 (d)) := (hb.cell (by show v0.heap.size + 1 < _; first | (simp <;> omega) | omega)).trans (by go_simp)
        replace m0 : v9.cell? ⟨v5.heap.size, 0, none⟩ = some (.int .i64 (-a)) := (hb.cell (by show v5.heap.size < _; first | (simp <;> omega) | omega)).trans (by go_simp)
        replace m1 : v9.cell? ⟨v5.heap.size, 1, none⟩ = some (.int .i64 (b)) := (hb.cell (by show v5.heap.size < _; first | (simp <;> omega) | omega)).trans (by go_simp)
        replace s0 : v9.cell? ⟨v6.heap.size, 0, none⟩ = some (.int .i64 (Z)) := (hb.cell (by show v6.heap.size < _; first | (simp <;> omega) | omega)).trans (by go_simp)
        replace s1 : v9.cell? ⟨v6.heap.size, 1, none⟩ = some (.int .i64 (E)) := (hb.cell (by show v6.heap.size < _; first | (simp <;> omega) | omega)).trans (by go_simp)
        replace n0 : v9.cell? ⟨v7.heap.size, 0, none⟩ = some (.int .i64 (-c)) := (hb.cell (by show v7.heap.size < _; first | (simp <;> omega) | omega)).trans (by go_simp)
        replace n1 : v9.cell? ⟨v7.heap.size, 1, none⟩ = some (.int .i64 (d)) := (hb.cell (by show v7.heap.size < _; first | (simp <;> omega) | omega)).trans (by go_simp)
        have hA : Below w.heap.size w v9 := by
          refine Below.trans ?_ (hb.mono (by first | (simp <;> omega) | omega))
          repeat (first | exact Hv8.out | (refine Below.alloc ?_ (by first | (simp <;> omega) | omega) _) | (refine Below.setCell ?_ (by first | (simp <;> omega) | omega) _) | (refine below_drewN ?_ _))
        have hzv9 : v8.heap.size ≤ v9.heap.size := by have := hb.size; first | (simp at this; omega) | omega
        replace fs : v0.heap.size < v9.heap.size := by have := hb.size; first | (simp at this; omega) | omega
        replace gs : v0.heap.size + 1 < v9.heap.size := by have := hb.size; first | (simp at this; omega) | omega
        replace ms : v5.heap.size < v9.heap.size := by have := hb.size; first | (simp at this; omega) | omega
        replace ss : v6.heap.size < v9.heap.size := by have := hb.size; first | (simp at this; omega) | omega
        replace ns : v7.heap.size < v9.heap.size := by have := hb.size; first | (simp at this; omega) | omega
        have hwv9 : w.heap.size ≤ v9.heap.size := hA.size
        have Hv9 := Lib.hid hA
        clear hb hA Hv8
        rw [L3.out]
        go_wp2_with fail
        go_ret
        exact ⟨rfl, (by repeat (first | exact Hv9.out | (refine Below.alloc ?_ (by first | (simp <;> omega) | omega) _)))⟩
    · rcases hok : addB c d (-a) b with _ | _
      · have hX : sel (addB c d (-a) b) (lowX (c * b + -a * d) (d * b)) = 0 := by rw [hok]; rfl
        obtain ⟨E, hE⟩ : ∃ E, sel (addB c d (-a) b) (lowY (c * b + -a * d) (d * b)) = E := ⟨_, rfl⟩
        have HX := Lib.hid hX
        have HE := Lib.hid hE
        have HOK := Lib.hid hok
        clear hX hE hok
        go_wp2_with fail
        refine (impl_Less_c _ _ _ _ _).mono ?_
        rintro e v1 ⟨rfl, hb⟩
        have f0 : v1.cell? ⟨v0.heap.size, 0, none⟩ = some (.int .i64 (a)) := (hb.cell (by show v0.heap.size < _; first | (simp <;> omega) | omega)).trans (by go_simp)
        have f1 : v1.cell? ⟨v0.heap.size, 1, none⟩ = some (.int .i64 (b)) := (hb.cell (by show v0.heap.size < _; first | (simp <;> omega) | omega)).trans (by go_simp)
        have g0 : v1.cell? ⟨v0.heap.size + 1, 0, none⟩ = some (.int .i64 (c)) := (hb.cell (by show v0.heap.size + 1 < _; first | (simp <;> omega) | omega)).trans (by go_simp)
        have g1 : v1.cell? ⟨v0.heap.size + 1, 1, none⟩ = some (.int .i64 (d)) := (hb.cell (by show v0.heap.size + 1 < _; first | (simp <;> omega) | omega)).trans (by go_simp)
        have hA : Below w.heap.size w v1 := by
          refine Below.trans ?_ (hb.mono (by first | (simp <;> omega) | omega))
          repeat (first | exact Hv0.out | (refine Below.alloc ?_ (by first | (simp <;> omega) | omega) _) | (refine Below.setCell ?_ (by first | (simp <;> omega) | omega) _) | (refine below_drewN ?_ _))
        have hzv1 : v0.heap.size ≤ v1.heap.size := by have := hb.size; first | (simp at this; omega) | omega
        have fs : v0.heap.size < v1.heap.size := by have := hb.size; first | (simp at this; omega) | omega
        have gs : v0.heap.size + 1 < v1.heap.size := by have := hb.size; first | (simp at this; omega) | omega
        have hwv1 : w.heap.size ≤ v1.heap.size := hA.size
        have Hv1 := Lib.hid hA
        clear hb hA Hv0
        rw [L1.out]
        go_wp2_with fail
        refine (spec_Less_c _ _ _ _ _).mono ?_
        rintro e v2 ⟨rfl, hb⟩
        replace f0 : v2.cell? ⟨v0.heap.size, 0, none⟩ = some (.int .i64 (a)) := (hb.cell (by show v0.heap.size < _; first | (simp <;> omega) | omega)).trans (by go_simp)
        replace f1 : v2.cell? ⟨v0.heap.size, 1, none⟩ = some (.int .i64 (b)) := (hb.cell (by show v0.heap.size < _; first | (simp <;> omega) | omega)).trans (by go_simp)
        replace g0 : v2.cell? ⟨v0.heap.size + 1, 0, none⟩ = some (.int .i64 (c)) := (hb.cell (by show v0.heap.size + 1 < _; first | (simp <;> omega) | omega)).trans (by go_simp)
        replace g1 : v2.cell? ⟨v0.heap.size + 1, 1, none⟩ = some (.int .i64 (d)) := (hb.cell (by show v0.heap.size + 1 < _; first | (simp <;> omega) | omega)).trans (by go_simp)
        have hA : Below w.heap.size w v2 := by
          refine Below.trans ?_ (hb.mono (by first | (simp <;> omega) | omega))
          repeat (first | exact Hv1.out | (refine Below.alloc ?_ (by first | (simp <;> omega) | omega) _) | (refine Below.setCell ?_ (by first | (simp <;> omega) | omega) _) | (refine below_drewN ?_ _))
        have hzv2 : v1.heap.size ≤ v2.heap.size := by have := hb.size; first | (simp at this; omega) | omega
        replace fs : v0.heap.size < v2.heap.size := by have := hb.size; first | (simp at this; omega) | omega
        replace gs : v0.heap.size + 1 < v2.heap.size := by have := hb.size; first | (simp at this; omega) | omega
        have hwv2 : w.heap.size ≤ v2.heap.size := hA.size
        have Hv2 := Lib.hid hA
        clear hb hA Hv1
        rw [L1.out]
        go_wp2_with fail
        refine (impl_FractionValid_c _ _ _).mono ?_
        rintro e v3 ⟨rfl, hb⟩
        replace f0 : v3.cell? ⟨v0.heap.size, 0, none⟩ = some (.int .i64 (a)) := (hb.cell (by show v0.heap.size < _; first | (simp <;> omega) | omega)).trans (by go_simp)
        replace f1 : v3.cell? ⟨v0.heap.size, 1, none⟩ = some (.int .i64 (b)) := (hb.cell (by show v0.heap.size < _; first | (simp <;> omega) | omega)).trans (by go_simp)
        replace g0 : v3.cell? ⟨v0.heap.size + 1, 0, none⟩ = some (.int .i64 (c)) := (hb.cell (by show v0.heap.size + 1 < _; first | (simp <;> omega) | omega)).trans (by go_simp)
        replace g1 : v3.cell? ⟨v0.heap.size + 1, 1, none⟩ = some (.int .i64 (d)) := (hb.cell (by show v0.heap.size + 1 < _; first | (simp <;> omega) | omega)).trans (by go_simp)
        have hA : Below w.heap.size w v3 := by
          refine Below.trans ?_ (hb.mono (by first | (simp <;> omega) | omega))
          repeat (first | exact Hv2.out | (refine Below.alloc ?_ (by first | (simp <;> omega) | omega) _) | (refine Below.setCell ?_ (by first | (simp <;> omega) | omega) _) | (refine below_drewN ?_ _))
        have hzv3 : v2.heap.size ≤ v3.heap.size := by have := hb.size; first | (simp at this; omega) | omega
        replace fs : v0.heap.size < v3.heap.size := by have := hb.size; first | (simp at this; omega) | omega
        replace gs : v0.heap.size + 1 < v3.heap.size := by have := hb.size; first | (simp at this; omega) | omega
        have hwv3 : w.heap.size ≤ v3.heap.size := hA.size
        have Hv3 := Lib.hid hA
        clear hb hA Hv2
        rw [HV.out]
        go_wp2_with fail
        refine (impl_FractionValid_c _ _ _).mono ?_
        rintro e v4 ⟨rfl, hb⟩
        replace f0 : v4.cell? ⟨v0.heap.size, 0, none⟩ = some (.int .i64 (a)) := (hb.cell (by show v0.heap.size < _; first | (simp <;> omega) | omega)).trans (by go_simp)
        replace f1 : v4.cell? ⟨v0.heap.size, 1, none⟩ = some (.int .i64 (b)) := (hb.cell (by show v0.heap.size < _; first | (simp <;> omega) | omega)).trans (by go_simp)
        replace g0 : v4.cell? ⟨v0.heap.size + 1, 0, none⟩ = some (.int .i64 (c)) := (hb.cell (by show v0.heap.size + 1 < _; first | (simp <;> omega) | omega)).trans (by go_simp)
        replace g1 : v4.cell? ⟨v0.heap.size + 1, 1, none⟩ = some (.int .i64 (d)) := (hb.cell (by show v0.heap.size + 1 < _; first | (simp <;> omega) | omega)).trans (by go_simp)
        have hA : Below w.heap.size w v4 := by
          refine Below.trans ?_ (hb.mono (by first | (simp <;> omega) | omega))
          repeat (first | exact Hv3.out | (refine Below.alloc ?_ (by first | (simp <;> omega) | omega) _) | (refine Below.setCell ?_ (by first | (simp <;> omega) | omega) _) | (refine below_drewN ?_ _))
        have hzv4 : v3.heap.size ≤ v4.heap.size := by have := hb.size; first | (simp at this; omega) | omega
        replace fs : v0.heap.size < v4.heap.size := by have := hb.size; first | (simp at this; omega) | omega
        replace gs : v0.heap.size + 1 < v4.heap.size := by have := hb.size; first | (simp at this; omega) | omega
        have hwv4 : w.heap.size ≤ v4.heap.size := hA.size
        have Hv4 := Lib.hid hA
        clear hb hA Hv3
        rw [HU.out]
        go_wp2_with fail
        refine (impl_Minus_c _ _ _).mono ?_
        rintro e v5 ⟨rfl, hb⟩
        replace f0 : v5.cell? ⟨v0.heap.size, 0, none⟩ = some (.int .i64 (a)) := (hb.cell (by show v0.heap.size < _; first | (simp <;> omega) | omega)).trans (by go_simp)
        replace f1 : v5.cell? ⟨v0.heap.size, 1, none⟩ = some (.int .i64 (b)) := (hb.cell (by show v0.heap.size < _; first | (simp <;> omega) | omega)).trans (by go_simp)
        replace g0 : v5.cell? ⟨v0.heap.size + 1, 0, none⟩ = some (.int .i64 (c)) := (hb.cell (by show v0.heap.size + 1 < _; first | (simp <;> omega) | omega)).trans (by go_simp)
        replace g1 : v5.cell? ⟨v0.heap.size + 1, 1, none⟩ = some (.int .i64 (d)) := (hb.cell (by show v0.heap.size + 1 < _; first | (simp <;> omega) | omega)).trans (by go_simp)
        have hA : Below w.heap.size w v5 := by
          refine Below.trans ?_ (hb.mono (by first | (simp <;> omega) | omega))
          repeat (first | exact Hv4.out | (refine Below.alloc ?_ (by first | (simp <;> omega) | omega) _) | (refine Below.setCell ?_ (by first | (simp <;> omega) | omega) _) | (refine below_drewN ?_ _))
        have hzv5 : v4.heap.size ≤ v5.heap.size := by have := hb.size; first | (simp at this; omega) | omega
        replace fs : v0.heap.size < v5.heap.size := by have := hb.size; first | (simp at this; omega) | omega
        replace gs : v0.heap.size + 1 < v5.heap.size := by have := hb.size; first | (simp at this; omega) | omega
        have hwv5 : w.heap.size ≤ v5.heap.size := hA.size
        have Hv5 := Lib.hid hA
        clear hb hA Hv4
        rw [HV.out, sel_true, sel_true]
        go_wp2_with fail
        refine (impl_Add_c _ _ _ _ _).mono ?_
        rintro e v6 ⟨rfl, hb⟩
        replace f0 : v6.cell? ⟨v0.heap.size, 0, none⟩ = some (.int .i64 (a)) := (hb.cell (by show v0.heap.size < _; first | (simp <;> omega) | omega)).trans (by go_simp)
        replace f1 : v6.cell? ⟨v0.heap.size, 1, none⟩ = some (.int .i64 (b)) := (hb.cell (by show v0.heap.size < _; first | (simp <;> omega) | omega)).trans (by go_simp)
        replace g0 : v6.cell? ⟨v0.heap.size + 1, 0, none⟩ = some (.int .i64 (c)) := (hb.cell (by show v0.heap.size + 1 < _; first | (simp <;> omega) | omega)).trans (by go_simp)
        replace g1 : v6.cell? ⟨v0.heap.size + 1, 1, none⟩ = some (.int .i64 (d)) := (hb.cell (by show v0.heap.size + 1 < _; first | (simp <;> omega) | omega)).trans (by go_simp)
        have m0 : v6.cell? ⟨v5.heap.size, 0, none⟩ = some (.int .i64 (-a)) := (hb.cell (by show v5.heap.size < _; first | (simp <;> omega) | omega)).trans (by go_simp)
        have m1 : v6.cell? ⟨v5.heap.size, 1, none⟩ = some (.int .i64 (b)) := (hb.cell (by show v5.heap.size < _; first | (simp <;> omega) | omega)).trans (by go_simp)
        have hA : Below w.heap.size w v6 := by
          refine Below.trans ?_ (hb.mono (by first | (simp <;> omega) | omega))
          repeat (first | exact Hv5.out | (refine Below.alloc ?_ (by first | (simp <;> omega) | omega) _) | (refine Below.setCell ?_ (by first | (simp <;> omega) | omega) _) | (refine below_drewN ?_ _))
        have hzv6 : v5.heap.size ≤ v6.heap.size := by have := hb.size; first | (simp at this; omega) | omega
        replace fs : v0.heap.size < v6.heap.size := by have := hb.size; first | (simp at this; omega) | omega
        replace gs : v0.heap.size + 1 < v6.heap.size := by have := hb.size; first | (simp at this; omega) | omega
        have ms : v5.heap.size < v6.heap.size := by have := hb.size; first | (simp at this; omega) | omega
        have hwv6 : w.heap.size ≤ v6.heap.size := hA.size
        have Hv6 := Lib.hid hA
        clear hb hA Hv5
        rw [HX.out, HE.out, HOK.out]
        go_wp2_with fail
        refine (impl_Minus_c _ _ _).mono ?_
        rintro e v7 ⟨rfl, hb⟩
        replace f0 : v7.cell? ⟨v0.heap.size, 0, none⟩ = some (.int .i64 (a)) := (hb.cell (by show v0.heap.size < _; first | (simp <;> omega) | omega)).trans (by go_simp)
        replace f1 : v7.cell? ⟨v0.heap.size, 1, none⟩ = some (.int .i64 (b)) := (hb.cell (by show v0.heap.size < _; first | (simp <;> omega) | omega)).trans (by go_simp)
        replace g0 : v7.cell? ⟨v0.heap.size + 1, 0, none⟩ = some (.int .i64 (c)) := (hb.cell (by show v0.heap.size + 1 < _; first | (simp <;> omega) | omega)).trans (by go_simp)
        replace g1 : v7.cell? ⟨v0.heap.size + 1, 1, none⟩ = some (.int .i64 (d)) := (hb.cell (by show v0.heap.size + 1 < _; first | (simp <;> omega) | omega)).trans (by go_simp)
        replace m0 : v7.cell? ⟨v5.heap.size, 0, none⟩ = some (.int .i64 (-a)) := (hb.cell (by show v5.heap.size < _; first | (simp <;> omega) | omega)).trans (by go_simp)
        replace m1 : v7.cell? ⟨v5.heap.size, 1, none⟩ = some (.int .i64 (b)) := (hb.cell (by show v5.heap.size < _; first | (simp <;> omega) | omega)).trans (by go_simp)
        have s0 : v7.cell? ⟨v6.heap.size, 0, none⟩ = some (.int .i64 (0)) := (hb.cell (by show v6.heap.size < _; first | (simp <;> omega) | omega)).trans (by go_simp)
        have s1 : v7.cell? ⟨v6.heap.size, 1, none⟩ = some (.int .i64 (E)) := (hb.cell (by show v6.heap.size < _; first | (simp <;> omega) | omega)).trans (by go_simp)
        have hA : Below w.heap.size w v7 := by
          refine Below.trans ?_ (hb.mono (by first | (simp <;> omega) | omega))
          repeat (first | exact Hv6.out | (refine Below.alloc ?_ (by first | (simp <;> omega) | omega) _) | (refine Below.setCell ?_ (by first | (simp <;> omega) | omega) _) | (refine below_drewN ?_ _))
        have hzv7 : v6.heap.size ≤ v7.heap.size := by have := hb.size; first | (simp at this; omega) | omega
        replace fs : v0.heap.size < v7.heap.size := by have := hb.size; first | (simp at this; omega) | omega
        replace gs : v0.heap.size + 1 < v7.heap.size := by have := hb.size; first | (simp at this; omega) | omega
        replace ms : v5.heap.size < v7.heap.size := by have := hb.size; first | (simp at this; omega) | omega
        have ss : v6.heap.size < v7.heap.size := by have := hb.size; first | (simp at this; omega) | omega
        have hwv7 : w.heap.size ≤ v7.heap.size := hA.size
        have Hv7 := Lib.hid hA
        clear hb hA Hv6
        rw [HU.out, sel_true, sel_true]
        go_wp2_with fail
        refine (impl_Less_c _ _ _ _ _).mono ?_
        rintro e v8 ⟨rfl, hb⟩
        replace f0 : v8.cell? ⟨v0.heap.size, 0, none⟩ = some (.int .i64 (a)) := (hb.cell (by show v0.heap.size < _; first | (simp <;> omega) | omega)).trans (by go_simp)
        replace f1 : v8.cell? ⟨v0.heap.size, 1, none⟩ = some (.int .i64 (b)) := (hb.cell (by show v0.heap.size < _; first | (simp <;> omega) | omega)).trans (by go_simp)
        replace g0 : v8.cell? ⟨v0.heap.size + 1, 0, none⟩ = some (.int .i64 (c)) := (hb.cell (by show v0.heap.size + 1 < _; first | (simp <;> omega) | omega)).trans (by go_simp)
        replace g1 : v8.cell? ⟨v0.heap.size + 1, 1, none⟩ = some (.int .i64 (d)) := (hb.cell (by show v0.heap.size + 1 < _; first | (simp <;> omega) | omega)).trans (by go_simp)
        replace m0 : v8.cell? ⟨v5.heap.size, 0, none⟩ = some (.int .i64 (-a)) := (hb.cell (by show v5.heap.size < _; first | (simp <;> omega) | omega)).trans (by go_simp)
        replace m1 : v8.cell? ⟨v5.heap.size, 1, none⟩ = some (.int .i64 (b)) := (hb.cell (by show v5.heap.size < _; first | (simp <;> omega) | omega)).trans (by go_simp)
        replace s0 : v8.cell? ⟨v6.heap.size, 0, none⟩ = some (.int .i64 (0)) := (hb.cell (by show v6.heap.size < _; first | (simp <;> omega) | omega)).trans (by go_simp)
        replace s1 : v8.cell? ⟨v6.heap.size, 1, none⟩ = some (.int .i64 (E)) := (hb.cell (by show v6.heap.size < _; first | (simp <;> omega) | omega)).trans (by go_simp)
        have n0 : v8.cell? ⟨v7.heap.size, 0, none⟩ = some (.int .i64 (-c)) := (hb.cell (by show v7.heap.size < _; first | (simp <;> omega) | omega)).trans (by go_simp)
        have n1 : v8.cell? ⟨v7.heap.size, 1, none⟩ = some (.int .i64 (d)) := (hb.cell (by show v7.heap.size < _; first | (simp <;> omega) | omega)).trans (by go_simp)
        have hA : Below w.heap.size w v8 := by
          refine Below.trans ?_ (hb.mono (by first | (simp <;> omega) | omega))
          repeat (first | exact Hv7.out | (refine Below.alloc ?_ (by first | (simp <;> omega) | omega) _) | (refine Below.setCell ?_ (by first | (simp <;> omega) | omega) _) | (refine below_drewN ?_ _))
        have hzv8 : v7.heap.size ≤ v8.heap.size := by have := hb.size; first | (simp at this; omega) | omega
        replace fs : v0.heap.size < v8.heap.size := by have := hb.size; first | (simp at this; omega) | omega
        replace gs : v0.heap.size + 1 < v8.heap.size := by have := hb.size; first | (simp at this; omega) | omega
        replace ms : v5.heap.size < v8.heap.size := by have := hb.size; first | (simp at this; omega) | omega
        replace ss : v6.heap.size < v8.heap.size := by have := hb.size; first | (simp at this; omega) | omega
        have ns : v7.heap.size < v8.heap.size := by have := hb.size; first | (simp at this; omega) | omega
        have hwv8 : w.heap.size ≤ v8.heap.size := hA.size
        have Hv8 := Lib.hid hA
        clear hb hA Hv7
        rw [L2.out]
        go_wp2_with fail
        refine (impl_Less_c _ _ _ _ _).mono ?_
        rintro e v9 ⟨rfl, hb⟩
        replace f0 : v9.cell? ⟨v0.heap.size, 0, none⟩ = some (.int .i64 (a)) := (hb.cell (by show v0.heap.size < _; first | (simp <;> omega) | omega)).trans (by go_simp)
        replace f1 : v9.cell? ⟨v0.heap.size, 1, none⟩ = some (.int .i64 (b)) := (hb.cell (by show v0.heap.size < _; first | (simp <;> omega) | omega)).trans (by go_simp)
        replace g0 : v9.cell? ⟨v0.heap.size + 1, 0, none⟩ = some (.int .i64 (c)) := (hb.cell (by show v0.heap.size + 1 < _; first | (simp <;> omega) | omega)).trans (by go_simp)
        replace g1 : v9.cell? ⟨v0.heap.size + 1, 1, none⟩ = some (.int .i64 (d)) := (hb.cell (by show v0.heap.size + 1 < _; first | (simp <;> omega) | omega)).trans (by go_simp)
        replace m0 : v9.cell? ⟨v5.heap.size, 0, none⟩ = some (.int .i64 (-a)) := (hb.cell (by show v5.heap.size < _; first | (simp <;> omega) | omega)).trans (by go_simp)
        replace m1 : v9.cell? ⟨v5.heap.size, 1, none⟩ = some (.int .i64 (b)) := (hb.cell (by show v5.heap.size < _; first | (simp <;> omega) | omega)).trans (by go_simp)
        replace s0 : v9.cell? ⟨v6.heap.size, 0, none⟩ = some (.int .i64 (0)) := (hb.cell (by show v6.heap.size < _; first | (simp <;> omega) | omega)).trans (by go_simp)
        replace s1 : v9.cell? ⟨v6.heap.size, 1, none⟩ = some (.int .i64 (E)) := (hb.cell (by show v6.heap.size < _; first | (simp <;> omega) | omega)).trans (by go_simp)
        replace n0 : v9.cell? ⟨v7.heap.size, 0, none⟩ = some (.int .i64 (-c)) := (hb.cell (by show v7.heap.size < _; first | (simp <;> omega) | omega)).trans (by go_simp)
        replace n1 : v9.cell? ⟨v7.heap.size, 1, none⟩ = some (.int .i64 (d)) := (hb.cell (by show v7.heap.size < _; first | (simp <;> omega) | omega)).trans (by go_simp)
        have hA : Below w.heap.size w v9 := by
          refine Below.trans ?_ (hb.mono (by first | (simp <;> omega) | omega))
          repeat (first | exact Hv8.out | (refine Below.alloc ?_ (by first | (simp <;> omega) | omega) _) | (refine Below.setCell ?_ (by first | (simp <;> omega) | omega) _) | (refine below_drewN ?_ _))
        have hzv9 : v8.heap.size ≤ v9.heap.size := by have := hb.size; first | (simp at this; omega) | omega
        replace fs : v0.heap.size < v9.heap.size := by have := hb.size; first | (simp at this; omega) | omega
        replace gs : v0.heap.size + 1 < v9.heap.size := by have := hb.size; first | (simp at this; omega) | omega
        replace ms : v5.heap.size < v9.heap.size := by have := hb.size; first | (simp at this; omega) | omega
        replace ss : v6.heap.size < v9.heap.size := by have := hb.size; first | (simp at this; omega) | omega
        replace ns : v7.heap.size < v9.heap.size := by have := hb.size; first | (simp at this; omega) | omega
        have hwv9 : w.heap.size ≤ v9.heap.size := hA.size
        have Hv9 := Lib.hid hA
        clear hb hA Hv8
        rw [L3.out]
        go_wp2_with fail
        go_ret
        exact ⟨rfl, (by repeat (first | exact Hv9.out | (refine Below.alloc ?_ (by first | (simp <;> omega) | omega) _)))⟩
      · obtain ⟨Z, hZ⟩ : ∃ Z, lowX (c * b + -a * d) (d * b) = Z := ⟨_, rfl⟩
        rw [hZ] at l4
        have hX : sel (addB c d (-a) b) (lowX (c * b + -a * d) (d * b)) = Z := by rw [hok, hZ]; rfl
        obtain ⟨E, hE⟩ : ∃ E, sel (addB c d (-a) b) (lowY (c * b + -a * d) (d * b)) = E := ⟨_, rfl⟩
        have HX := Lib.hid hX
        have HE := Lib.hid hE
        have HOK := Lib.hid hok
        clear hX hE hok
        clear hZ
        have hz5 : decide (0 < Z) = false := by rw [decide_eq_false_iff_not]; omega
        have hz6 : (!decide (0 < Z)) = true := by rw [hz5]; rfl
        go_wp2_with fail
        refine (impl_Less_c _ _ _ _ _).mono ?_
        rintro e v1 ⟨rfl, hb⟩
        have f0 : v1.cell? ⟨v0.heap.size, 0, none⟩ = some (.int .i64 (a)) := (hb.cell (by show v0.heap.size < _; first | (simp <;> omega) | omega)).trans (by go_simp)
        have f1 : v1.cell? ⟨v0.heap.size, 1, none⟩ = some (.int .i64 (b)) := (hb.cell (by show v0.heap.size < _; first | (simp <;> omega) | omega)).trans (by go_simp)
        have g0 : v1.cell? ⟨v0.heap.size + 1, 0, none⟩ = some (.int .i64 (c)) := (hb.cell (by show v0.heap.size + 1 < _; first | (simp <;> omega) | omega)).trans (by go_simp)
        have g1 : v1.cell? ⟨v0.heap.size + 1, 1, none⟩ = some (.int .i64 (d)) := (hb.cell (by show v0.heap.size + 1 < _; first | (simp <;> omega) | omega)).trans (by go_simp)
        have hA : Below w.heap.size w v1 := by
          refine Below.trans ?_ (hb.mono (by first | (simp <;> omega) | omega))
          repeat (first | exact Hv0.out | (refine Below.alloc ?_ (by first | (simp <;> omega) | omega) _) | (refine Below.setCell ?_ (by first | (simp <;> omega) | omega) _) | (refine below_drewN ?_ _))
        have hzv1 : v0.heap.size ≤ v1.heap.size := by have := hb.size; first | (simp at this; omega) | omega
        have fs : v0.heap.size < v1.heap.size := by have := hb.size; first | (simp at this; omega) | omega
        have gs : v0.heap.size + 1 < v1.heap.size := by have := hb.size; first | (simp at this; omega) | omega
        have hwv1 : w.heap.size ≤ v1.heap.size := hA.size
        have Hv1 := Lib.hid hA
        clear hb hA Hv0
        rw [L1.out]
        go_wp2_with fail
        refine (spec_Less_c _ _ _ _ _).mono ?_
        rintro e v2 ⟨rfl, hb⟩
        replace f0 : v2.cell? ⟨v0.heap.size, 0, none⟩ = some (.int .i64 (a)) := (hb.cell (by show v0.heap.size < _; first | (simp <;> omega) | omega)).trans (by go_simp)
        replace f1 : v2.cell? ⟨v0.heap.size, 1, none⟩ = some (.int .i64 (b)) := (hb.cell (by show v0.heap.size < _; first | (simp <;> omega) | omega)).trans (by go_simp)
        replace g0 : v2.cell? ⟨v0.heap.size + 1, 0, none⟩ = some (.int .i64 (c)) := (hb.cell (by show v0.heap.size + 1 < _; first | (simp <;> omega) | omega)).trans (by go_simp)
        replace g1 : v2.cell? ⟨v0.heap.size + 1, 1, none⟩ = some (.int .i64 (d)) := (hb.cell (by show v0.heap.size + 1 < _; first | (simp <;> omega) | omega)).trans (by go_simp)
        have hA : Below w.heap.size w v2 := by
          refine Below.trans ?_ (hb.mono (by first | (simp <;> omega) | omega))
          repeat (first | exact Hv1.out | (refine Below.alloc ?_ (by first | (simp <;> omega) | omega) _) | (refine Below.setCell ?_ (by first | (simp <;> omega) | omega) _) | (refine below_drewN ?_ _))
        have hzv2 : v1.heap.size ≤ v2.heap.size := by have := hb.size; first | (simp at this; omega) | omega
        replace fs : v0.heap.size < v2.heap.size := by have := hb.size; first | (simp at this; omega) | omega
        replace gs : v0.heap.size + 1 < v2.heap.size := by have := hb.size; first | (simp at this; omega) | omega
        have hwv2 : w.heap.size ≤ v2.heap.size := hA.size
        have Hv2 := Lib.hid hA
        clear hb hA Hv1
        rw [L1.out]
        go_wp2_with fail
        refine (impl_FractionValid_c _ _ _).mono ?_
        rintro e v3 ⟨rfl, hb⟩
        replace f0 : v3.cell? ⟨v0.heap.size, 0, none⟩ = some (.int .i64 (a)) := (hb.cell (by show v0.heap.size < _; first | (simp <;> omega) | omega)).trans (by go_simp)
        replace f1 : v3.cell? ⟨v0.heap.size, 1, none⟩ = some (.int .i64 (b)) := (hb.cell (by show v0.heap.size < _; first | (simp <;> omega) | omega)).trans (by go_simp)
        replace g0 : v3.cell? ⟨v0.heap.size + 1, 0, none⟩ = some (.int .i64 (c)) := (hb.cell (by show v0.heap.size + 1 < _; first | (simp <;> omega) | omega)).trans (by go_simp)
        replace g1 : v3.cell? ⟨v0.heap.size + 1, 1, none⟩ = some (.int .i64 (d)) := (hb.cell (by show v0.heap.size + 1 < _; first | (simp <;> omega) | omega)).trans (by go_simp)
        have hA : Below w.heap.size w v3 := by
          refine Below.trans ?_ (hb.mono (by first | (simp <;> omega) | omega))
          repeat (first | exact Hv2.out | (refine Below.alloc ?_ (by first | (simp <;> omega) | omega) _) | (refine Below.setCell ?_ (by first | (simp <;> omega) | omega) _) | (refine below_drewN ?_ _))
        have hzv3 : v2.heap.size ≤ v3.heap.size := by have := hb.size; first | (simp at this; omega) | omega
        replace fs : v0.heap.size < v3.heap.size := by have := hb.size; first | (simp at this; omega) | omega
        replace gs : v0.heap.size + 1 < v3.heap.size := by have := hb.size; first | (simp at this; omega) | omega
        have hwv3 : w.heap.size ≤ v3.heap.size := hA.size
        have Hv3 := Lib.hid hA
        clear hb hA Hv2
        rw [HV.out]
        go_wp2_with fail
        refine (impl_FractionValid_c _ _ _).mono ?_
        rintro e v4 ⟨rfl, hb⟩
        replace f0 : v4.cell? ⟨v0.heap.size, 0, none⟩ = some (.int .i64 (a)) := (hb.cell (by show v0.heap.size < _; first | (simp <;> omega) | omega)).trans (by go_simp)
        replace f1 : v4.cell? ⟨v0.heap.size, 1, none⟩ = some (.int .i64 (b)) := (hb.cell (by show v0.heap.size < _; first | (simp <;> omega) | omega)).trans (by go_simp)
        replace g0 : v4.cell? ⟨v0.heap.size + 1, 0, none⟩ = some (.int .i64 (c)) := (hb.cell (by show v0.heap.size + 1 < _; first | (simp <;> omega) | omega)).trans (by go_simp)
        replace g1 : v4.cell? ⟨v0.heap.size + 1, 1, none⟩ = some (.int .i64 (d)) := (hb.cell (by show v0.heap.size + 1 < _; first | (simp <;> omega) | omega)).trans (by go_simp)
        have hA : Below w.heap.size w v4 := by
          refine Below.trans ?_ (hb.mono (by first | (simp <;> omega) | omega))
          repeat (first | exact Hv3.out | (refine Below.alloc ?_ (by first | (simp <;> omega) | omega) _) | (refine Below.setCell ?_ (by first | (simp <;> omega) | omega) _) | (refine below_drewN ?_ _))
        have hzv4 : v3.heap.size ≤ v4.heap.size := by have := hb.size; first | (simp at this; omega) | omega
        replace fs : v0.heap.size < v4.heap.size := by have := hb.size; first | (simp at this; omega) | omega
        replace gs : v0.heap.size + 1 < v4.heap.size := by have := hb.size; first | (simp at this; omega) | omega
        have hwv4 : w.heap.size ≤ v4.heap.size := hA.size
        have Hv4 := Lib.hid hA
        clear hb hA Hv3
        rw [HU.out]
        go_wp2_with fail
        refine (impl_Minus_c _ _ _).mono ?_
        rintro e v5 ⟨rfl, hb⟩
        replace f0 : v5.cell? ⟨v0.heap.size, 0, none⟩ = some (.int .i64 (a)) := (hb.cell (by show v0.heap.size < _; first | (simp <;> omega) | omega)).trans (by go_simp)
        replace f1 : v5.cell? ⟨v0.heap.size, 1, none⟩ = some (.int .i64 (b)) := (hb.cell (by show v0.heap.size < _; first | (simp <;> omega) | omega)).trans (by go_simp)
        replace g0 : v5.cell? ⟨v0.heap.size + 1, 0, none⟩ = some (.int .i64 (c)) := (hb.cell (by show v0.heap.size + 1 < _; first | (simp <;> omega) | omega)).trans (by go_simp)
        replace g1 : v5.cell? ⟨v0.heap.size + 1, 1, none⟩ = some (.int .i64 (d)) := (hb.cell (by show v0.heap.size + 1 < _; first | (simp <;> omega) | omega)).trans (by go_simp)
        have hA : Below w.heap.size w v5 := by
          refine Below.trans ?_ (hb.mono (by first | (simp <;> omega) | omega))
          repeat (first | exact Hv4.out | (refine Below.alloc ?_ (by first | (simp <;> omega) | omega) _) | (refine Below.setCell ?_ (by first | (simp <;> omega) | omega) _) | (refine below_drewN ?_ _))
        have hzv5 : v4.heap.size ≤ v5.heap.size := by have := hb.size; first | (simp at this; omega) | omega
        replace fs : v0.heap.size < v5.heap.size := by have := hb.size; first | (simp at this; omega) | omega
        replace gs : v0.heap.size + 1 < v5.heap.size := by have := hb.size; first | (simp at this; omega) | omega
        have hwv5 : w.heap.size ≤ v5.heap.size := hA.size
        have Hv5 := Lib.hid hA
        clear hb hA Hv4
        rw [HV.out, sel_true, sel_true]
        go_wp2_with fail
        refine (impl_Add_c _ _ _ _ _).mono ?_
        rintro e v6 ⟨rfl, hb⟩
        replace f0 : v6.cell? ⟨v0.heap.size, 0, none⟩ = some (.int .i64 (a)) := (hb.cell (by show v0.heap.size < _; first | (simp <;> omega) | omega)).trans (by go_simp)
        replace f1 : v6.cell? ⟨v0.heap.size, 1, none⟩ = some (.int .i64 (b)) := (hb.cell (by show v0.heap.size < _; first | (simp <;> omega) | omega)).trans (by go_simp)
        replace g0 : v6.cell? ⟨v0.heap.size + 1, 0, none⟩ = some (.int .i64 (c)) := (hb.cell (by show v0.heap.size + 1 < _; first | (simp <;> omega) | omega)).trans (by go_simp)
        replace g1 : v6.cell? ⟨v0.heap.size + 1, 1, none⟩ = some (.int .i64 (d)) := (hb.cell (by show v0.heap.size + 1 < _; first | (simp <;> omega) | omega)).trans (by go_simp)
        have m0 : v6.cell? ⟨v5.heap.size, 0, none⟩ = some (.int .i64 (-a)) := (hb.cell (by show v5.heap.size < _; first | (simp <;> omega) | omega)).trans (by go_simp)
        have m1 : v6.cell? ⟨v5.heap.size, 1, none⟩ = some (.int .i64 (b)) := (hb.cell (by show v5.heap.size < _; first | (simp <;> omega) | omega)).trans (by go_simp)
        have hA : Below w.heap.size w v6 := by
          refine Below.trans ?_ (hb.mono (by first | (simp <;> omega) | omega))
          repeat (first | exact Hv5.out | (refine Below.alloc ?_ (by first | (simp <;> omega) | omega) _) | (refine Below.setCell ?_ (by first | (simp <;> omega) | omega) _) | (refine below_drewN ?_ _))
        have hzv6 : v5.heap.size ≤ v6.heap.size := by have := hb.size; first | (simp at this; omega) | omega
        replace fs : v0.heap.size < v6.heap.size := by have := hb.size; first | (simp at this; omega) | omega
        replace gs : v0.heap.size + 1 < v6.heap.size := by have := hb.size; first | (simp at this; omega) | omega
        have ms : v5.heap.size < v6.heap.size := by have := hb.size; first | (simp at this; omega) | omega
        have hwv6 : w.heap.size ≤ v6.heap.size := hA.size
        have Hv6 := Lib.hid hA
        clear hb hA Hv5
        rw [HX.out, HE.out, HOK.out]
        go_wp2_with fail
        refine (impl_Minus_c _ _ _).mono ?_
        rintro e v7 ⟨rfl, hb⟩
        replace f0 : v7.cell? ⟨v0.heap.size, 0, none⟩ = some (.int .i64 (a)) := (hb.cell (by show v0.heap.size < _; first | (simp <;> omega) | omega)).trans (by go_simp)
        replace f1 : v7.cell? ⟨v0.heap.size, 1, none⟩ = some (.int .i64 (b)) := (hb.cell (by show v0.heap.size < _; first | (simp <;> omega) | omega)).trans (by go_simp)
        replace g0 : v7.cell? ⟨v0.heap.size + 1, 0, none⟩ = some (.int .i64 (c)) := (hb.cell (by show v0.heap.size + 1 < _; first | (simp <;> omega) | omega)).trans (by go_simp)
        replace g1 : v7.cell? ⟨v0.heap.size + 1, 1, none⟩ = some (.int .i64 (d)) := (hb.cell (by show v0.heap.size + 1 < _; first | (simp <;> omega) | omega)).trans (by go_simp)
        replace m0 : v7.cell? ⟨v5.heap.size, 0, none⟩ = some (.int .i64 (-a)) := (hb.cell (by show v5.heap.size < _; first | (simp <;> omega) | omega)).trans (by go_simp)
        replace m1 : v7.cell? ⟨v5.heap.size, 1, none⟩ = some (.int .i64 (b)) := (hb.cell (by show v5.heap.size < _; first | (simp <;> omega) | omega)).trans (by go_simp)
        have s0 : v7.cell? ⟨v6.heap.size, 0, none⟩ = some (.int .i64 (Z)) := (hb.cell (by show v6.heap.size < _; first | (simp <;> omega) | omega)).trans (by go_simp)
        have s1 : v7.cell? ⟨v6.heap.size, 1, none⟩ = some (.int .i64 (E)) := (hb.cell (by show v6.heap.size < _; first | (simp <;> omega) | omega)).trans (by go_simp)
        have hA : Below w.heap.size w v7 := by
          refine Below.trans ?_ (hb.mono (by first | (simp <;> omega) | omega))
          repeat (first | exact Hv6.out | (refine Below.alloc ?_ (by first | (simp <;> omega) | omega) _) | (refine Below.setCell ?_ (by first | (simp <;> omega) | omega) _) | (refine below_drewN ?_ _))
        have hzv7 : v6.heap.size ≤ v7.heap.size := by have := hb.size; first | (simp at this; omega) | omega
        replace fs : v0.heap.size < v7.heap.size := by have := hb.size; first | (simp at this; omega) | omega
        replace gs : v0.heap.size + 1 < v7.heap.size := by have := hb.size; first | (simp at this; omega) | omega
        replace ms : v5.heap.size < v7.heap.size := by have := hb.size; first | (simp at this; omega) | omega
        have ss : v6.heap.size < v7.heap.size := by have := hb.size; first | (simp at this; omega) | omega
        have hwv7 : w.heap.size ≤ v7.heap.size := hA.size
        have Hv7 := Lib.hid hA
        clear hb hA Hv6
        rw [HU.out, sel_true, sel_true]
        go_wp2_with fail
        refine (impl_Less_c _ _ _ _ _).mono ?_
        rintro e v8 ⟨rfl, hb⟩
        replace f0 : v8.cell? ⟨v0.heap.size, 0, none⟩ = some (.int .i64 (a)) := (hb.cell (by show v0.heap.size < _; first | (simp <;> omega) | omega)).trans (by go_simp)
        replace f1 : v8.cell? ⟨v0.heap.size, 1, none⟩ = some (.int .i64 (b)) := (hb.cell (by show v0.heap.size < _; first | (simp <;> omega) | omega)).trans (by go_simp)
        replace g0 : v8.cell? ⟨v0.heap.size + 1, 0, none⟩ = some (.int .i64 (c)) := (hb.cell (by show v0.heap.size + 1 < _; first | (simp <;> omega) | omega)).trans (by go_simp)
        replace g1 : v8.cell? ⟨v0.heap.size + 1, 1, none⟩ = some (.int .i64 (d)) := (hb.cell (by show v0.heap.size + 1 < _; first | (simp <;> omega) | omega)).trans (by go_simp)
        replace m0 : v8.cell? ⟨v5.heap.size, 0, none⟩ = some (.int .i64 (-a)) := (hb.cell (by show v5.heap.size < _; first | (simp <;> omega) | omega)).trans (by go_simp)
        replace m1 : v8.cell? ⟨v5.heap.size, 1, none⟩ = some (.int .i64 (b)) := (hb.cell (by show v5.heap.size < _; first | (simp <;> omega) | omega)).trans (by go_simp)
        replace s0 : v8.cell? ⟨v6.heap.size, 0, none⟩ = some (.int .i64 (Z)) := (hb.cell (by show v6.heap.size < _; first | (simp <;> omega) | omega)).trans (by go_simp)
        replace s1 : v8.cell? ⟨v6.heap.size, 1, none⟩ = some (.int .i64 (E)) := (hb.cell (by show v6.heap.size < _; first | (simp <;> omega) | omega)).trans (by go_simp)
        have n0 : v8.cell? ⟨v7.heap.size, 0, none⟩ = some (.int .i64 (-c)) := (hb.cell (by show v7.heap.size < _; first | (simp <;> omega) | omega)).trans (by go_simp)
        have n1 : v8.cell? ⟨v7.heap.size, 1, none⟩ = some (.int .i64 (d)) := (hb.cell (by show v7.heap.size < _; first | (simp <;> omega) | omega)).trans (by go_simp)
        have hA : Below w.heap.size w v8 := by
          refine Below.trans ?_ (hb.mono (by first | (simp <;> omega) | omega))
          repeat (first | exact Hv7.out | (refine Below.alloc ?_ (by first | (simp <;> omega) | omega) _) | (refine Below.setCell ?_ (by first | (simp <;> omega) | omega) _) | (refine below_drewN ?_ _))
        have hzv8 : v7.heap.size ≤ v8.heap.size := by have := hb.size; first | (simp at this; omega) | omega
        replace fs : v0.heap.size < v8.heap.size := by have := hb.size; first | (simp at this; omega) | omega
        replace gs : v0.heap.size + 1 < v8.heap.size := by have := hb.size; first | (simp at this; omega) | omega
        replace ms : v5.heap.size < v8.heap.size := by have := hb.size; first | (simp at this; omega) | omega
        replace ss : v6.heap.size < v8.heap.size := by have := hb.size; first | (simp at this; omega) | omega
        have ns : v7.heap.size < v8.heap.size := by have := hb.size; first | (simp at this; omega) | omega
        have hwv8 : w.heap.size ≤ v8.heap.size := hA.size
        have Hv8 := Lib.hid hA
        clear hb hA Hv7
        rw [L2.out]
        go_wp2_with fail
        refine (impl_Less_c _ _ _ _ _).mono ?_
        rintro e v9 ⟨rfl, hb⟩
        replace f0 : v9.cell? ⟨v0.heap.size, 0, none⟩ = some (.int .i64 (a)) := (hb.cell (by show v0.heap.size < _; first | (simp <;> omega) | omega)).trans (by go_simp)
        replace f1 : v9.cell? ⟨v0.heap.size, 1, none⟩ = some (.int .i64 (b)) := (hb.cell (by show v0.heap.size < _; first | (simp <;> omega) | omega)).trans (by go_simp)
        replace g0 : v9.cell? ⟨v0.heap.size + 1, 0, none⟩ = some (.int .i64 (c)) := (hb.cell (by show v0.heap.size + 1 < _; first | (simp <;> omega) | omega)).trans (by go_simp)
        replace g1 : v9.cell? ⟨v0.heap.size + 1, 1, none⟩ = some (.int .i64 (d)) := (hb.cell (by show v0.heap.size + 1 < _; first | (simp <;> omega) | omega)).trans (by go_simp)
        replace m0 : v9.cell? ⟨v5.heap.size, 0, none⟩ = some (.int .i64 (-a)) := (hb.cell (by show v5.heap.size < _; first | (simp <;> omega) | omega)).trans (by go_simp)
        replace m1 : v9.cell? ⟨v5.heap.size, 1, none⟩ = some (.int .i64 (b)) := (hb.cell (by show v5.heap.size < _; first | (simp <;> omega) | omega)).trans (by go_simp)
        replace s0 : v9.cell? ⟨v6.heap.size, 0, none⟩ = some (.int .i64 (Z)) := (hb.cell (by show v6.heap.size < _; first | (simp <;> omega) | omega)).trans (by go_simp)
        replace s1 : v9.cell? ⟨v6.heap.size, 1, none⟩ = some (.int .i64 (E)) := (hb.cell (by show v6.heap.size < _; first | (simp <;> omega) | omega)).trans (by go_simp)
        replace n0 : v9.cell? ⟨v7.heap.size, 0, none⟩ = some (.int .i64 (-c)) := (hb.cell (by show v7.heap.size < _; first | (simp <;> omega) | omega)).trans (by go_simp)
        replace n1 : v9.cell? ⟨v7.heap.size, 1, none⟩ = some (.int .i64 (d)) := (hb.cell (by show v7.heap.size < _; first | (simp <;> omega) | omega)).trans (by go_simp)
        have hA : Below w.heap.size w v9 := by
          refine Below.trans ?_ (hb.mono (by first | (simp <;> omega) | omega))
          repeat (first | exact Hv8.out | (refine Below.alloc ?_ (by first | (simp <;> omega) | omega) _) | (refine Below.setCell ?_ (by first | (simp <;> omega) | omega) _) | (refine below_drewN ?_ _))
        have hzv9 : v8.heap.size ≤ v9.heap.size := by have := hb.size; first | (simp at this; omega) | omega
        replace fs : v0.heap.size < v9.heap.size := by have := hb.size; first | (simp at this; omega) | omega
        replace gs : v0.heap.size + 1 < v9.heap.size := by have := hb.size; first | (simp at this; omega) | omega
        replace ms : v5.heap.size < v9.heap.size := by have := hb.size; first | (simp at this; omega) | omega
        replace ss : v6.heap.size < v9.heap.size := by have := hb.size; first | (simp at this; omega) | omega
        replace ns : v7.heap.size < v9.heap.size := by have := hb.size; first | (simp at this; omega) | omega
        have hwv9 : w.heap.size ≤ v9.heap.size := hA.size
        have Hv9 := Lib.hid hA
        clear hb hA Hv8
        rw [L3.out]
        go_wp2_with fail
        go_ret
        exact ⟨rfl, (by repeat (first | exact Hv9.out | (refine Below.alloc ?_ (by first | (simp <;> omega) | omega) _)))⟩
    · rcases hok : addB c d (-c) d with _ | _
      · have hX : sel (addB c d (-c) d) (lowX (c * d + -c * d) (d * d)) = 0 := by rw [hok]; rfl
        obtain ⟨E, hE⟩ : ∃ E, sel (addB c d (-c) d) (lowY (c * d + -c * d) (d * d)) = E := ⟨_, rfl⟩
        have HX := Lib.hid hX
        have HE := Lib.hid hE
        have HOK := Lib.hid hok
        clear hX hE hok
        go_wp2_with fail
        refine (impl_Less_c _ _ _ _ _).mono ?_
        rintro e v1 ⟨rfl, hb⟩
        have f0 : v1.cell? ⟨v0.heap.size, 0, none⟩ = some (.int .i64 (c)) := (hb.cell (by show v0.heap.size < _; first | (simp <;> omega) | omega)).trans (by go_simp)
        have f1 : v1.cell? ⟨v0.heap.size, 1, none⟩ = some (.int .i64 (d)) := (hb.cell (by show v0.heap.size < _; first | (simp <;> omega) | omega)).trans (by go_simp)
        have g0 : v1.cell? ⟨v0.heap.size + 1, 0, none⟩ = some (.int .i64 (c)) := (hb.cell (by show v0.heap.size + 1 < _; first | (simp <;> omega) | omega)).trans (by go_simp)
        have g1 : v1.cell? ⟨v0.heap.size + 1, 1, none⟩ = some (.int .i64 (d)) := (hb.cell (by show v0.heap.size + 1 < _; first | (simp <;> omega) | omega)).trans (by go_simp)
        have hA : Below w.heap.size w v1 := by
          refine Below.trans ?_ (hb.mono (by first | (simp <;> omega) | omega))
          repeat (first | exact Hv0.out | (refine Below.alloc ?_ (by first | (simp <;> omega) | omega) _) | (refine Below.setCell ?_ (by first | (simp <;> omega) | omega) _) | (refine below_drewN ?_ _))
        have hzv1 : v0.heap.size ≤ v1.heap.size := by have := hb.size; first | (simp at this; omega) | omega
        have fs : v0.heap.size < v1.heap.size := by have := hb.size; first | (simp at this; omega) | omega
        have gs : v0.heap.size + 1 < v1.heap.size := by have := hb.size; first | (simp at this; omega) | omega
        have hwv1 : w.heap.size ≤ v1.heap.size := hA.size
        have Hv1 := Lib.hid hA
        clear hb hA Hv0
        rw [L1.out]
        go_wp2_with fail
        refine (spec_Less_c _ _ _ _ _).mono ?_
        rintro e v2 ⟨rfl, hb⟩
        replace f0 : v2.cell? ⟨v0.heap.size, 0, none⟩ = some (.int .i64 (c)) := (hb.cell (by show v0.heap.size < _; first | (simp <;> omega) | omega)).trans (by go_simp)
        replace f1 : v2.cell? ⟨v0.heap.size, 1, none⟩ = some (.int .i64 (d)) := (hb.cell (by show v0.heap.size < _; first | (simp <;> omega) | omega)).trans (by go_simp)
        replace g0 : v2.cell? ⟨v0.heap.size + 1, 0, none⟩ = some (.int .i64 (c)) := (hb.cell (by show v0.heap.size + 1 < _; first | (simp <;> omega) | omega)).trans (by go_simp)
        replace g1 : v2.cell? ⟨v0.heap.size + 1, 1, none⟩ = some (.int .i64 (d)) := (hb.cell (by show v0.heap.size + 1 < _; first | (simp <;> omega) | omega)).trans (by go_simp)
        have hA : Below w.heap.size w v2 := by
          refine Below.trans ?_ (hb.mono (by first | (simp <;> omega) | omega))
          repeat (first | exact Hv1.out | (refine Below.alloc ?_ (by first | (simp <;> omega) | omega) _) | (refine Below.setCell ?_ (by first | (simp <;> omega) | omega) _) | (refine below_drewN ?_ _))
        have hzv2 : v1.heap.size ≤ v2.heap.size := by have := hb.size; first | (simp at this; omega) | omega
        replace fs : v0.heap.size < v2.heap.size := by have := hb.size; first | (simp at this; omega) | omega
        replace gs : v0.heap.size + 1 < v2.heap.size := by have := hb.size; first | (simp at this; omega) | omega
        have hwv2 : w.heap.size ≤ v2.heap.size := hA.size
        have Hv2 := Lib.hid hA
        clear hb hA Hv1
        rw [L1.out]
        go_wp2_with fail
        refine (impl_FractionValid_c _ _ _).mono ?_
        rintro e v3 ⟨rfl, hb⟩
        replace f0 : v3.cell? ⟨v0.heap.size, 0, none⟩ = some (.int .i64 (c)) := (hb.cell (by show v0.heap.size < _; first | (simp <;> omega) | omega)).trans (by go_simp)
        replace f1 : v3.cell? ⟨v0.heap.size, 1, none⟩ = some (.int .i64 (d)) := (hb.cell (by show v0.heap.size < _; first | (simp <;> omega) | omega)).trans (by go_simp)
        replace g0 : v3.cell? ⟨v0.heap.size + 1, 0, none⟩ = some (.int .i64 (c)) := (hb.cell (by show v0.heap.size + 1 < _; first | (simp <;> omega) | omega)).trans (by go_simp)
        replace g1 : v3.cell? ⟨v0.heap.size + 1, 1, none⟩ = some (.int .i64 (d)) := (hb.cell (by show v0.heap.size + 1 < _; first | (simp <;> omega) | omega)).trans (by go_simp)
        have hA : Below w.heap.size w v3 := by
          refine Below.trans ?_ (hb.mono (by first | (simp <;> omega) | omega))
          repeat (first | exact Hv2.out | (refine Below.alloc ?_ (by first | (simp <;> omega) | omega) _) | (refine Below.setCell ?_ (by first | (simp <;> omega) | omega) _) | (refine below_drewN ?_ _))
        have hzv3 : v2.heap.size ≤ v3.heap.size := by have := hb.size; first | (simp at this; omega) | omega
        replace fs : v0.heap.size < v3.heap.size := by have := hb.size; first | (simp at this; omega) | omega
        replace gs : v0.heap.size + 1 < v3.heap.size := by have := hb.size; first | (simp at this; omega) | omega
        have hwv3 : w.heap.size ≤ v3.heap.size := hA.size
        have Hv3 := Lib.hid hA
        clear hb hA Hv2
        rw [HV.out]
        go_wp2_with fail
        refine (impl_FractionValid_c _ _ _).mono ?_
        rintro e v4 ⟨rfl, hb⟩
        replace f0 : v4.cell? ⟨v0.heap.size, 0, none⟩ = some (.int .i64 (c)) := (hb.cell (by show v0.heap.size < _; first | (simp <;> omega) | omega)).trans (by go_simp)
        replace f1 : v4.cell? ⟨v0.heap.size, 1, none⟩ = some (.int .i64 (d)) := (hb.cell (by show v0.heap.size < _; first | (simp <;> omega) | omega)).trans (by go_simp)
        replace g0 : v4.cell? ⟨v0.heap.size + 1, 0, none⟩ = some (.int .i64 (c)) := (hb.cell (by show v0.heap.size + 1 < _; first | (simp <;> omega) | omega)).trans (by go_simp)
        replace g1 : v4.cell? ⟨v0.heap.size + 1, 1, none⟩ = some (.int .i64 (d)) := (hb.cell (by show v0.heap.size + 1 < _; first | (simp <;> omega) | omega)).trans (by go_simp)
        have hA : Below w.heap.size w v4 := by
          refine Below.trans ?_ (hb.mono (by first | (simp <;> omega) | omega))
          repeat (first | exact Hv3.out | (refine Below.alloc ?_ (by first | (simp <;> omega) | omega) _) | (refine Below.setCell ?_ (by first | (simp <;> omega) | omega) _) | (refine below_drewN ?_ _))
        have hzv4 : v3.heap.size ≤ v4.heap.size := by have := hb.size; first | (simp at this; omega) | omega
        replace fs : v0.heap.size < v4.heap.size := by have := hb.size; first | (simp at this; omega) | omega
        replace gs : v0.heap.size + 1 < v4.heap.size := by have := hb.size; first | (simp at this; omega) | omega
        have hwv4 : w.heap.size ≤ v4.heap.size := hA.size
        have Hv4 := Lib.hid hA
        clear hb hA Hv3
        rw [HU.out]
        go_wp2_with fail
        refine (impl_Minus_c _ _ _).mono ?_
        rintro e v5 ⟨rfl, hb⟩
        replace f0 : v5.cell? ⟨v0.heap.size, 0, none⟩ = some (.int .i64 (c)) := (hb.cell (by show v0.heap.size < _; first | (simp <;> omega) | omega)).trans (by go_simp)
        replace f1 : v5.cell? ⟨v0.heap.size, 1, none⟩ = some (.int .i64 (d)) := (hb.cell (by show v0.heap.size < _; first | (simp <;> omega) | omega)).trans (by go_simp)
        replace g0 : v5.cell? ⟨v0.heap.size + 1, 0, none⟩ = some (.int .i64 (c)) := (hb.cell (by show v0.heap.size + 1 < _; first | (simp <;> omega) | omega)).trans (by go_simp)
        replace g1 : v5.cell? ⟨v0.heap.size + 1, 1, none⟩ = some (.int .i64 (d)) := (hb.cell (by show v0.heap.size + 1 < _; first | (simp <;> omega) | omega)).trans (by go_simp)
        have hA : Below w.heap.size w v5 := by
          refine Below.trans ?_ (hb.mono (by first | (simp <;> omega) | omega))
          repeat (first | exact Hv4.out | (refine Below.alloc ?_ (by first | (simp <;> omega) | omega) _) | (refine Below.setCell ?_ (by first | (simp <;> omega) | omega) _) | (refine below_drewN ?_ _))
        have hzv5 : v4.heap.size ≤ v5.heap.size := by have := hb.size; first | (simp at this; omega) | omega
        replace fs : v0.heap.size < v5.heap.size := by have := hb.size; first | (simp at this; omega) | omega
        replace gs : v0.heap.size + 1 < v5.heap.size := by have := hb.size; first | (simp at this; omega) | omega
        have hwv5 : w.heap.size ≤ v5.heap.size := hA.size
        have Hv5 := Lib.hid hA
        clear hb hA Hv4
        rw [HV.out, sel_true, sel_true]
        go_wp2_with fail
        refine (impl_Add_c _ _ _ _ _).mono ?_
        rintro e v6 ⟨rfl, hb⟩
        replace f0 : v6.cell? ⟨v0.heap.size, 0, none⟩ = some (.int .i64 (c)) := (hb.cell (by show v0.heap.size < _; first | (simp <;> omega) | omega)).trans (by go_simp)
        replace f1 : v6.cell? ⟨v0.heap.size, 1, none⟩ = some (.int .i64 (d)) := (hb.cell (by show v0.heap.size < _; first | (simp <;> omega) | omega)).trans (by go_simp)
        replace g0 : v6.cell? ⟨v0.heap.size + 1, 0, none⟩ = some (.int .i64 (c)) := (hb.cell (by show v0.heap.size + 1 < _; first | (simp <;> omega) | omega)).trans (by go_simp)
        replace g1 : v6.cell? ⟨v0.heap.size + 1, 1, none⟩ = some (.int .i64 (d)) := (hb.cell (by show v0.heap.size + 1 < _; first | (simp <;> omega) | omega)).trans (by go_simp)
        have m0 : v6.cell? ⟨v5.heap.size, 0, none⟩ = some (.int .i64 (-c)) := (hb.cell (by show v5.heap.size < _; first | (simp <;> omega) | omega)).trans (by go_simp)
        have m1 : v6.cell? ⟨v5.heap.size, 1, none⟩ = some (.int .i64 (d)) := (hb.cell (by show v5.heap.size < _; first | (simp <;> omega) | omega)).trans (by go_simp)
        have hA : Below w.heap.size w v6 := by
          refine Below.trans ?_ (hb.mono (by first | (simp <;> omega) | omega))
          repeat (first | exact Hv5.out | (refine Below.alloc ?_ (by first | (simp <;> omega) | omega) _) | (refine Below.setCell ?_ (by first | (simp <;> omega) | omega) _) | (refine below_drewN ?_ _))
        have hzv6 : v5.heap.size ≤ v6.heap.size := by have := hb.size; first | (simp at this; omega) | omega
        replace fs : v0.heap.size < v6.heap.size := by have := hb.size; first | (simp at this; omega) | omega
        replace gs : v0.heap.size + 1 < v6.heap.size := by have := hb.size; first | (simp at this; omega) | omega
        have ms : v5.heap.size < v6.heap.size := by have := hb.size; first | (simp at this; omega) | omega
        have hwv6 : w.heap.size ≤ v6.heap.size := hA.size
        have Hv6 := Lib.hid hA
        clear hb hA Hv5
        rw [HX.out, HE.out, HOK.out]
        go_wp2_with fail
        refine (impl_Minus_c _ _ _).mono ?_
        rintro e v7 ⟨rfl, hb⟩
        replace f0 : v7.cell? ⟨v0.heap.size, 0, none⟩ = some (.int .i64 (c)) := (hb.cell (by show v0.heap.size < _; first | (simp <;> omega) | omega)).trans (by go_simp)
        replace f1 : v7.cell? ⟨v0.heap.size, 1, none⟩ = some (.int .i64 (d)) := (hb.cell (by show v0.heap.size < _; first | (simp <;> omega) | omega)).trans (by go_simp)
        replace g0 : v7.cell? ⟨v0.heap.size + 1, 0, none⟩ = some (.int .i64 (c)) := (hb.cell (by show v0.heap.size + 1 < _; first | (simp <;> omega) | omega)).trans (by go_simp)
        replace g1 : v7.cell? ⟨v0.heap.size + 1, 1, none⟩ = some (.int .i64 (d)) := (hb.cell (by show v0.heap.size + 1 < _; first | (simp <;> omega) | omega)).trans (by go_simp)
        replace m0 : v7.cell? ⟨v5.heap.size, 0, none⟩ = some (.int .i64 (-c)) := (hb.cell (by show v5.heap.size < _; first | (simp <;> omega) | omega)).trans (by go_simp)
        replace m1 : v7.cell? ⟨v5.heap.size, 1, none⟩ = some (.int .i64 (d)) := (hb.cell (by show v5.heap.size < _; first | (simp <;> omega) | omega)).trans (by go_simp)
        have s0 : v7.cell? ⟨v6.heap.size, 0, none⟩ = some (.int .i64 (0)) := (hb.cell (by show v6.heap.size < _; first | (simp <;> omega) | omega)).trans (by go_simp)
        have s1 : v7.cell? ⟨v6.heap.size, 1, none⟩ = some (.int .i64 (E)) := (hb.cell (by show v6.heap.size < _; first | (simp <;> omega) | omega)).trans (by go_simp)
        have hA : Below w.heap.size w v7 := by
          refine Below.trans ?_ (hb.mono (by first | (simp <;> omega) | omega))
          repeat (first | exact Hv6.out | (refine Below.alloc ?_ (by first | (simp <;> omega) | omega) _) | (refine Below.setCell ?_ (by first | (simp <;> omega) | omega) _) | (refine below_drewN ?_ _))
        have hzv7 : v6.heap.size ≤ v7.heap.size := by have := hb.size; first | (simp at this; omega) | omega
        replace fs : v0.heap.size < v7.heap.size := by have := hb.size; first | (simp at this; omega) | omega
        replace gs : v0.heap.size + 1 < v7.heap.size := by have := hb.size; first | (simp at this; omega) | omega
        replace ms : v5.heap.size < v7.heap.size := by have := hb.size; first | (simp at this; omega) | omega
        have ss : v6.heap.size < v7.heap.size := by have := hb.size; first | (simp at this; omega) | omega
        have hwv7 : w.heap.size ≤ v7.heap.size := hA.size
        have Hv7 := Lib.hid hA
        clear hb hA Hv6
        rw [HU.out, sel_true, sel_true]
        go_wp2_with fail
        refine (impl_Less_c _ _ _ _ _).mono ?_
        rintro e v8 ⟨rfl, hb⟩
        replace f0 : v8.cell? ⟨v0.heap.size, 0, none⟩ = some (.int .i64 (c)) := (hb.cell (by show v0.heap.size < _; first | (simp <;> omega) | omega)).trans (by go_simp)
        replace f1 : v8.cell? ⟨v0.heap.size, 1, none⟩ = some (.int .i64 (d)) := (hb.cell (by show v0.heap.size < _; first | (simp <;> omega) | omega)).trans (by go_simp)
        replace g0 : v8.cell? ⟨v0.heap.size + 1, 0, none⟩ = some (.int .i64 (c)) := (hb.cell (by show v0.heap.size + 1 < _; first | (simp <;> omega) | omega)).trans (by go_simp)
        replace g1 : v8.cell? ⟨v0.heap.size + 1, 1, none⟩ = some (.int .i64 (d)) := (hb.cell (by show v0.heap.size + 1 < _; first | (simp <;> omega) | omega)).trans (by go_simp)
        replace m0 : v8.cell? ⟨v5.heap.size, 0, none⟩ = some (.int .i64 (-c)) := (hb.cell (by show v5.heap.size < _; first | (simp <;> omega) | omega)).trans (by go_simp)
        replace m1 : v8.cell? ⟨v5.heap.size, 1, none⟩ = some (.int .i64 (d)) := (hb.cell (by show v5.heap.size < _; first | (simp <;> omega) | omega)).trans (by go_simp)
        replace s0 : v8.cell? ⟨v6.heap.size, 0, none⟩ = some (.int .i64 (0)) := (hb.cell (by show v6.heap.size < _; first | (simp <;> omega) | omega)).trans (by go_simp)
        replace s1 : v8.cell? ⟨v6.heap.size, 1, none⟩ = some (.int .i64 (E)) := (hb.cell (by show v6.heap.size < _; first | (simp <;> omega) | omega)).trans (by go_simp)
        have n0 : v8.cell? ⟨v7.heap.size, 0, none⟩ = some (.int .i64 (-c)) := (hb.cell (by show v7.heap.size < _; first | (simp <;> omega) | omega)).trans (by go_simp)
        have n1 : v8.cell? ⟨v7.heap.size, 1, none⟩ = some (.int .i64 (d)) := (hb.cell (by show v7.heap.size < _; first | (simp <;> omega) | omega)).trans (by go_simp)
        have hA : Below w.heap.size w v8 := by
          refine Below.trans ?_ (hb.mono (by first | (simp <;> omega) | omega))
          repeat (first | exact Hv7.out | (refine Below.alloc ?_ (by first | (simp <;> omega) | omega) _) | (refine Below.setCell ?_ (by first | (simp <;> omega) | omega) _) | (refine below_drewN ?_ _))
        have hzv8 : v7.heap.size ≤ v8.heap.size := by have := hb.size; first | (simp at this; omega) | omega
        replace fs : v0.heap.size < v8.heap.size := by have := hb.size; first | (simp at this; omega) | omega
        replace gs : v0.heap.size + 1 < v8.heap.size := by have := hb.size; first | (simp at this; omega) | omega
        replace ms : v5.heap.size < v8.heap.size := by have := hb.size; first | (simp at this; omega) | omega
        replace ss : v6.heap.size < v8.heap.size := by have := hb.size; first | (simp at this; omega) | omega
        have ns : v7.heap.size < v8.heap.size := by have := hb.size; first | (simp at this; omega) | omega
        have hwv8 : w.heap.size ≤ v8.heap.size := hA.size
        have Hv8 := Lib.hid hA
        clear hb hA Hv7
        rw [L2.out]
        go_wp2_with fail
        refine (impl_Less_c _ _ _ _ _).mono ?_
        rintro e v9 ⟨rfl, hb⟩
        replace f0 : v9.cell? ⟨v0.heap.size, 0, none⟩ = some (.int .i64 (c)) := (hb.cell (by show v0.heap.size < _; first | (simp <;> omega) | omega)).trans (by go_simp)
        replace f1 : v9.cell? ⟨v0.heap.size, 1, none⟩ = some (.int .i64 (d)) := (hb.cell (by show v0.heap.size < _; first | (simp <;> omega) | omega)).trans (by go_simp)
        replace g0 : v9.cell? ⟨v0.heap.size + 1, 0, none⟩ = some (.int .i64 (c)) := (hb.cell (by show v0.heap.size + 1 < _; first | (simp <;> omega) | omega)).trans (by go_simp)
        replace g1 : v9.cell? ⟨v0.heap.size + 1, 1, none⟩ = some (.int .i64 (d)) := (hb.cell (by show v0.heap.size + 1 < _; first | (simp <;> omega) | omega)).trans (by go_simp)
        replace m0 : v9.cell? ⟨v5.heap.size, 0, none⟩ = some (.int .i64 (-c)) := (hb.cell (by show v5.heap.size < _; first | (simp <;> omega) | omega)).trans (by go_simp)
        replace m1 : v9.cell? ⟨v5.heap.size, 1, none⟩ = some (.int .i64 (d)) := (hb.cell (by show v5.heap.size < _; first | (simp <;> omega) | omega)).trans (by go_simp)
        replace s0 : v9.cell? ⟨v6.heap.size, 0, none⟩ = some (.int .i64 (0)) := (hb.cell (by show v6.heap.size < _; first | (simp <;> omega) | omega)).trans (by go_simp)
        replace s1 : v9.cell? ⟨v6.heap.size, 1, none⟩ = some (.int .i64 (E)) := (hb.cell (by show v6.heap.size < _; first | (simp <;> omega) | omega)).trans (by go_simp)
        replace n0 : v9.cell? ⟨v7.heap.size, 0, none⟩ = some (.int .i64 (-c)) := (hb.cell (by show v7.heap.size < _; first | (simp <;> omega) | omega)).trans (by go_simp)
        replace n1 : v9.cell? ⟨v7.heap.size, 1, none⟩ = some (.int .i64 (d)) := (hb.cell (by show v7.heap.size < _; first | (simp <;> omega) | omega)).trans (by go_simp)
        have hA : Below w.heap.size w v9 := by
          refine Below.trans ?_ (hb.mono (by first | (simp <;> omega) | omega))
          repeat (first | exact Hv8.out | (refine Below.alloc ?_ (by first | (simp <;> omega) | omega) _) | (refine Below.setCell ?_ (by first | (simp <;> omega) | omega) _) | (refine below_drewN ?_ _))
        have hzv9 : v8.heap.size ≤ v9.heap.size := by have := hb.size; first | (simp at this; omega) | omega
        replace fs : v0.heap.size < v9.heap.size := by have := hb.size; first | (simp at this; omega) | omega
        replace gs : v0.heap.size + 1 < v9.heap.size := by have := hb.size; first | (simp at this; omega) | omega
        replace ms : v5.heap.size < v9.heap.size := by have := hb.size; first | (simp at this; omega) | omega
        replace ss : v6.heap.size < v9.heap.size := by have := hb.size; first | (simp at this; omega) | omega
        replace ns : v7.heap.size < v9.heap.size := by have := hb.size; first | (simp at this; omega) | omega
        have hwv9 : w.heap.size ≤ v9.heap.size := hA.size
        have Hv9 := Lib.hid hA
        clear hb hA Hv8
        rw [L3.out]
        go_wp2_with fail
        go_ret
        exact ⟨rfl, (by repeat (first | exact Hv9.out | (refine Below.alloc ?_ (by first | (simp <;> omega) | omega) _)))⟩
      · obtain ⟨Z, hZ⟩ : ∃ Z, lowX (c * d + -c * d) (d * d) = Z := ⟨_, rfl⟩
        rw [hZ] at l4
        have hX : sel (addB c d (-c) d) (lowX (c * d + -c * d) (d * d)) = Z := by rw [hok, hZ]; rfl
        obtain ⟨E, hE⟩ : ∃ E, sel (addB c d (-c) d) (lowY (c * d + -c * d) (d * d)) = E := ⟨_, rfl⟩
        have HX := Lib.hid hX
        have HE := Lib.hid hE
        have HOK := Lib.hid hok
        clear hX hE hok
        clear hZ
        have hz5 : decide (0 < Z) = false := by rw [decide_eq_false_iff_not]; omega
        have hz6 : (!decide (0 < Z)) = true := by rw [hz5]; rfl
        go_wp2_with fail
        refine (impl_Less_c _ _ _ _ _).mono ?_
        rintro e v1 ⟨rfl, hb⟩
        have f0 : v1.cell? ⟨v0.heap.size, 0, none⟩ = some (.int .i64 (c)) := (hb.cell (by show v0.heap.size < _; first | (simp <;> omega) | omega)).trans (by go_simp)
        have f1 : v1.cell? ⟨v0.heap.size, 1, none⟩ = some (.int .i64 (d)) := (hb.cell (by show v0.heap.size < _; first | (simp <;> omega) | omega)).trans (by go_simp)
        have g0 : v1.cell? ⟨v0.heap.size + 1, 0, none⟩ = some (.int .i64 (c)) := (hb.cell (by show v0.heap.size + 1 < _; first | (simp <;> omega) | omega)).trans (by go_simp)
        have g1 : v1.cell? ⟨v0.heap.size + 1, 1, none⟩ = some (.int .i64 (d)) := (hb.cell (by show v0.heap.size + 1 < _; first | (simp <;> omega) | omega)).trans (by go_simp)
        have hA : Below w.heap.size w v1 := by
          refine Below.trans ?_ (hb.mono (by first | (simp <;> omega) | omega))
          repeat (first | exact Hv0.out | (refine Below.alloc ?_ (by first | (simp <;> omega) | omega) _) | (refine Below.setCell ?_ (by first | (simp <;> omega) | omega) _) | (refine below_drewN ?_ _))
        have hzv1 : v0.heap.size ≤ v1.heap.size := by have := hb.size; first | (simp at this; omega) | omega
        have fs : v0.heap.size < v1.heap.size := by have := hb.size; first | (simp at this; omega) | omega
        have gs : v0.heap.size + 1 < v1.heap.size := by have := hb.size; first | (simp at this; omega) | omega
        have hwv1 : w.heap.size ≤ v1.heap.size := hA.size
        have Hv1 := Lib.hid hA
        clear hb hA Hv0
        rw [L1.out]
        go_wp2_with fail
        refine (spec_Less_c _ _ _ _ _).mono ?_
        rintro e v2 ⟨rfl, hb⟩
        replace f0 : v2.cell? ⟨v0.heap.size, 0, none⟩ = some (.int .i64 (c)) := (hb.cell (by show v0.heap.size < _; first | (simp <;> omega) | omega)).trans (by go_simp)
        replace f1 : v2.cell? ⟨v0.heap.size, 1, none⟩ = some (.int .i64 (d)) := (hb.cell (by show v0.heap.size < _; first | (simp <;> omega) | omega)).trans (by go_simp)
        replace g0 : v2.cell? ⟨v0.heap.size + 1, 0, none⟩ = some (.int .i64 (c)) := (hb.cell (by show v0.heap.size + 1 < _; first | (simp <;> omega) | omega)).trans (by go_simp)
        replace g1 : v2.cell? ⟨v0.heap.size + 1, 1, none⟩ = some (.int .i64 (d)) := (hb.cell (by show v0.heap.size + 1 < _; first | (simp <;> omega) | omega)).trans (by go_simp)
        have hA : Below w.heap.size w v2 := by
          refine Below.trans ?_ (hb.mono (by first | (simp <;> omega) | omega))
          repeat (first | exact Hv1.out | (refine Below.alloc ?_ (by first | (simp <;> omega) | omega) _) | (refine Below.setCell ?_ (by first | (simp <;> omega) | omega) _) | (refine below_drewN ?_ _))
        have hzv2 : v1.heap.size ≤ v2.heap.size := by have := hb.size; first | (simp at this; omega) | omega
        replace fs : v0.heap.size < v2.heap.size := by have := hb.size; first | (simp at this; omega) | omega
        replace gs : v0.heap.size + 1 < v2.heap.size := by have := hb.size; first | (simp at this; omega) | omega
        have hwv2 : w.heap.size ≤ v2.heap.size := hA.size
        have Hv2 := Lib.hid hA
        clear hb hA Hv1
        rw [L1.out]
        go_wp2_with fail
        refine (impl_FractionValid_c _ _ _).mono ?_
        rintro e v3 ⟨rfl, hb⟩
        replace f0 : v3.cell? ⟨v0.heap.size, 0, none⟩ = some (.int .i64 (c)) := (hb.cell (by show v0.heap.size < _; first | (simp <;> omega) | omega)).trans (by go_simp)
        replace f1 : v3.cell? ⟨v0.heap.size, 1, none⟩ = some (.int .i64 (d)) := (hb.cell (by show v0.heap.size < _; first | (simp <;> omega) | omega)).trans (by go_simp)
        replace g0 : v3.cell? ⟨v0.heap.size + 1, 0, none⟩ = some (.int .i64 (c)) := (hb.cell (by show v0.heap.size + 1 < _; first | (simp <;> omega) | omega)).trans (by go_simp)
        replace g1 : v3.cell? ⟨v0.heap.size + 1, 1, none⟩ = some (.int .i64 (d)) := (hb.cell (by show v0.heap.size + 1 < _; first | (simp <;> omega) | omega)).trans (by go_simp)
        have hA : Below w.heap.size w v3 := by
          refine Below.trans ?_ (hb.mono (by first | (simp <;> omega) | omega))
          repeat (first | exact Hv2.out | (refine Below.alloc ?_ (by first | (simp <;> omega) | omega) _) | (refine Below.setCell ?_ (by first | (simp <;> omega) | omega) _) | (refine below_drewN ?_ _))
        have hzv3 : v2.heap.size ≤ v3.heap.size := by have := hb.size; first | (simp at this; omega) | omega
        replace fs : v0.heap.size < v3.heap.size := by have := hb.size; first | (simp at this; omega) | omega
        replace gs : v0.heap.size + 1 < v3.heap.size := by have := hb.size; first | (simp at this; omega) | omega
        have hwv3 : w.heap.size ≤ v3.heap.size := hA.size
        have Hv3 := Lib.hid hA
        clear hb hA Hv2
        rw [HV.out]
        go_wp2_with fail
        refine (impl_FractionValid_c _ _ _).mono ?_
        rintro e v4 ⟨rfl, hb⟩
        replace f0 : v4.cell? ⟨v0.heap.size, 0, none⟩ = some (.int .i64 (c)) := (hb.cell (by show v0.heap.size < _; first | (simp <;> omega) | omega)).trans (by go_simp)
        replace f1 : v4.cell? ⟨v0.heap.size, 1, none⟩ = some (.int .i64 (d)) := (hb.cell (by show v0.heap.size < _; first | (simp <;> omega) | omega)).trans (by go_simp)
        replace g0 : v4.cell? ⟨v0.heap.size + 1, 0, none⟩ = some (.int .i64 (c)) := (hb.cell (by show v0.heap.size + 1 < _; first | (simp <;> omega) | omega)).trans (by go_simp)
        replace g1 : v4.cell? ⟨v0.heap.size + 1, 1, none⟩ = some (.int .i64 (d)) := (hb.cell (by show v0.heap.size + 1 < _; first | (simp <;> omega) | omega)).trans (by go_simp)
        have hA : Below w.heap.size w v4 := by
          refine Below.trans ?_ (hb.mono (by first | (simp <;> omega) | omega))
          repeat (first | exact Hv3.out | (refine Below.alloc ?_ (by first | (simp <;> omega) | omega) _) | (refine Below.setCell ?_ (by first | (simp <;> omega) | omega) _) | (refine below_drewN ?_ _))
        have hzv4 : v3.heap.size ≤ v4.heap.size := by have := hb.size; first | (simp at this; omega) | omega
        replace fs : v0.heap.size < v4.heap.size := by have := hb.size; first | (simp at this; omega) | omega
        replace gs : v0.heap.size + 1 < v4.heap.size := by have := hb.size; first | (simp at this; omega) | omega
        have hwv4 : w.heap.size ≤ v4.heap.size := hA.size
        have Hv4 := Lib.hid hA
        clear hb hA Hv3
        rw [HU.out]
        go_wp2_with fail
        refine (impl_Minus_c _ _ _).mono ?_
        rintro e v5 ⟨rfl, hb⟩
        replace f0 : v5.cell? ⟨v0.heap.size, 0, none⟩ = some (.int .i64 (c)) := (hb.cell (by show v0.heap.size < _; first | (simp <;> omega) | omega)).trans (by go_simp)
        replace f1 : v5.cell? ⟨v0.heap.size, 1, none⟩ = some (.int .i64 (d)) := (hb.cell (by show v0.heap.size < _; first | (simp <;> omega) | omega)).trans (by go_simp)
        replace g0 : v5.cell? ⟨v0.heap.size + 1, 0, none⟩ = some (.int .i64 (c)) := (hb.cell (by show v0.heap.size + 1 < _; first | (simp <;> omega) | omega)).trans (by go_simp)
        replace g1 : v5.cell? ⟨v0.heap.size + 1, 1, none⟩ = some (.int .i64 (d)) := (hb.cell (by show v0.heap.size + 1 < _; first | (simp <;> omega) | omega)).trans (by go_simp)
        have hA : Below w.heap.size w v5 := by
          refine Below.trans ?_ (hb.mono (by first | (simp <;> omega) | omega))
          repeat (first | exact Hv4.out | (refine Below.alloc ?_ (by first | (simp <;> omega) | omega) _) | (refine Below.setCell ?_ (by first | (simp <;> omega) | omega) _) | (refine below_drewN ?_ _))
        have hzv5 : v4.heap.size ≤ v5.heap.size := by have := hb.size; first | (simp at this; omega) | omega
        replace fs : v0.heap.size < v5.heap.size := by have := hb.size; first | (simp at this; omega) | omega
        replace gs : v0.heap.size + 1 < v5.heap.size := by have := hb.size; first | (simp at this; omega) | omega
        have hwv5 : w.heap.size ≤ v5.heap.size := hA.size
        have Hv5 := Lib.hid hA
        clear hb hA Hv4
        rw [HV.out, sel_true, sel_true]
        go_wp2_with fail
        refine (impl_Add_c _ _ _ _ _).mono ?_
        rintro e v6 ⟨rfl, hb⟩
        replace f0 : v6.cell? ⟨v0.heap.size, 0, none⟩ = some (.int .i64 (c)) := (hb.cell (by show v0.heap.size < _; first | (simp <;> omega) | omega)).trans (by go_simp)
        replace f1 : v6.cell? ⟨v0.heap.size, 1, none⟩ = some (.int .i64 (d)) := (hb.cell (by show v0.heap.size < _; first | (simp <;> omega) | omega)).trans (by go_simp)
        replace g0 : v6.cell? ⟨v0.heap.size + 1, 0, none⟩ = some (.int .i64 (c)) := (hb.cell (by show v0.heap.size + 1 < _; first | (simp <;> omega) | omega)).trans (by go_simp)
        replace g1 : v6.cell? ⟨v0.heap.size + 1, 1, none⟩ = some (.int .i64 (d)) := (hb.cell (by show v0.heap.size + 1 < _; first | (simp <;> omega) | omega)).trans (by go_simp)
        have m0 : v6.cell? ⟨v5.heap.size, 0, none⟩ = some (.int .i64 (-c)) := (hb.cell (by show v5.heap.size < _; first | (simp <;> omega) | omega)).trans (by go_simp)
        have m1 : v6.cell? ⟨v5.heap.size, 1, none⟩ = some (.int .i64 (d)) := (hb.cell (by show v5.heap.size < _; first | (simp <;> omega) | omega)).trans (by go_simp)
        have hA : Below w.heap.size w v6 := by
          refine Below.trans ?_ (hb.mono (by first | (simp <;> omega) | omega))
          repeat (first | exact Hv5.out | (refine Below.alloc ?_ (by first | (simp <;> omega) | omega) _) | (refine Below.setCell ?_ (by first | (simp <;> omega) | omega) _) | (refine below_drewN ?_ _))
        have hzv6 : v5.heap.size ≤ v6.heap.size := by have := hb.size; first | (simp at this; omega) | omega
        replace fs : v0.heap.size < v6.heap.size := by have := hb.size; first | (simp at this; omega) | omega
        replace gs : v0.heap.size + 1 < v6.heap.size := by have := hb.size; first | (simp at this; omega) | omega
        have ms : v5.heap.size < v6.heap.size := by have := hb.size; first | (simp at this; omega) | omega
        have hwv6 : w.heap.size ≤ v6.heap.size := hA.size
        have Hv6 := Lib.hid hA
        clear hb hA Hv5
        rw [HX.out, HE.out, HOK.out]
        go_wp2_with fail
        refine (impl_Minus_c _ _ _).mono ?_
        rintro e v7 ⟨rfl, hb⟩
        replace f0 : v7.cell? ⟨v0.heap.size, 0, none⟩ = some (.int .i64 (c)) := (hb.cell (by show v0.heap.size < _; first | (simp <;> omega) | omega)).trans (by go_simp)
        replace f1 : v7.cell? ⟨v0.heap.size, 1, none⟩ = some (.int .i64 (d)) := (hb.cell (by show v0.heap.size < _; first | (simp <;> omega) | omega)).trans (by go_simp)
        replace g0 : v7.cell? ⟨v0.heap.size + 1, 0, none⟩ = some (.int .i64 (c)) := (hb.cell (by show v0.heap.size + 1 < _; first | (simp <;> omega) | omega)).trans (by go_simp)
        replace g1 : v7.cell? ⟨v0.heap.size + 1, 1, none⟩ = some (.int .i64 (d)) := (hb.cell (by show v0.heap.size + 1 < _; first | (simp <;> omega) | omega)).trans (by go_simp)
        replace m0 : v7.cell? ⟨v5.heap.size, 0, none⟩ = some (.int .i64 (-c)) := (hb.cell (by show v5.heap.size < _; first | (simp <;> omega) | omega)).trans (by go_simp)
        replace m1 : v7.cell? ⟨v5.heap.size, 1, none⟩ = some (.int .i64 (d)) := (hb.cell (by show v5.heap.size < _; first | (simp <;> omega) | omega)).trans (by go_simp)
        have s0 : v7.cell? ⟨v6.heap.size, 0, none⟩ = some (.int .i64 (Z)) := (hb.cell (by show v6.heap.size < _; first | (simp <;> omega) | omega)).trans (by go_simp)
        have s1 : v7.cell? ⟨v6.heap.size, 1, none⟩ = some (.int .i64 (E)) := (hb.cell (by show v6.heap.size < _; first | (simp <;> omega) | omega)).trans (by go_simp)
        have hA : Below w.heap.size w v7 := by
          refine Below.trans ?_ (hb.mono (by first | (simp <;> omega) | omega))
          repeat (first | exact Hv6.out | (refine Below.alloc ?_ (by first | (simp <;> omega) | omega) _) | (refine Below.setCell ?_ (by first | (simp <;> omega) | omega) _) | (refine below_drewN ?_ _))
        have hzv7 : v6.heap.size ≤ v7.heap.size := by have := hb.size; first | (simp at this; omega) | omega
        replace fs : v0.heap.size < v7.heap.size := by have := hb.size; first | (simp at this; omega) | omega
        replace gs : v0.heap.size + 1 < v7.heap.size := by have := hb.size; first | (simp at this; omega) | omega
        replace ms : v5.heap.size < v7.heap.size := by have := hb.size; first | (simp at this; omega) | omega
        have ss : v6.heap.size < v7.heap.size := by have := hb.size; first | (simp at this; omega) | omega
        have hwv7 : w.heap.size ≤ v7.heap.size := hA.size
        have Hv7 := Lib.hid hA
        clear hb hA Hv6
        rw [HU.out, sel_true, sel_true]
        go_wp2_with fail
        refine (impl_Less_c _ _ _ _ _).mono ?_
        rintro e v8 ⟨rfl, hb⟩
        replace f0 : v8.cell? ⟨v0.heap.size, 0, none⟩ = some (.int .i64 (c)) := (hb.cell (by show v0.heap.size < _; first | (simp <;> omega) | omega)).trans (by go_simp)
        replace f1 : v8.cell? ⟨v0.heap.size, 1, none⟩ = some (.int .i64 (d)) := (hb.cell (by show v0.heap.size < _; first | (simp <;> omega) | omega)).trans (by go_simp)
        replace g0 : v8.cell? ⟨v0.heap.size + 1, 0, none⟩ = some (.int .i64 (c)) := (hb.cell (by show v0.heap.size + 1 < _; first | (simp <;> omega) | omega)).trans (by go_simp)
        replace g1 : v8.cell? ⟨v0.heap.size + 1, 1, none⟩ = some (.int .i64 (d)) := (hb.cell (by show v0.heap.size + 1 < _; first | (simp <;> omega) | omega)).trans (by go_simp)
        replace m0 : v8.cell? ⟨v5.heap.size, 0, none⟩ = some (.int .i64 (-c)) := (hb.cell (by show v5.heap.size < _; first | (simp <;> omega) | omega)).trans (by go_simp)
        replace m1 : v8.cell? ⟨v5.heap.size, 1, none⟩ = some (.int .i64 (d)) := (hb.cell (by show v5.heap.size < _; first | (simp <;> omega) | omega)).trans (by go_simp)
        replace s0 : v8.cell? ⟨v6.heap.size, 0, none⟩ = some (.int .i64 (Z)) := (hb.cell (by show v6.heap.size < _; first | (simp <;> omega) | omega)).trans (by go_simp)
        replace s1 : v8.cell? ⟨v6.heap.size, 1, none⟩ = some (.int .i64 (E)) := (hb.cell (by show v6.heap.size < _; first | (simp <;> omega) | omega)).trans (by go_simp)
        have n0 : v8.cell? ⟨v7.heap.size, 0, none⟩ = some (.int .i64 (-c)) := (hb.cell (by show v7.heap.size < _; first | (simp <;> omega) | omega)).trans (by go_simp)
        have n1 : v8.cell? ⟨v7.heap.size, 1, none⟩ = some (.int .i64 (d)) := (hb.cell (by show v7.heap.size < _; first | (simp <;> omega) | omega)).trans (by go_simp)
        have hA : Below w.heap.size w v8 := by
          refine Below.trans ?_ (hb.mono (by first | (simp <;> omega) | omega))
          repeat (first | exact Hv7.out | (refine Below.alloc ?_ (by first | (simp <;> omega) | omega) _) | (refine Below.setCell ?_ (by first | (simp <;> omega) | omega) _) | (refine below_drewN ?_ _))
        have hzv8 : v7.heap.size ≤ v8.heap.size := by have := hb.size; first | (simp at this; omega) | omega
        replace fs : v0.heap.size < v8.heap.size := by have := hb.size; first | (simp at this; omega) | omega
        replace gs : v0.heap.size + 1 < v8.heap.size := by have := hb.size; first | (simp at this; omega) | omega
        replace ms : v5.heap.size < v8.heap.size := by have := hb.size; first | (simp at this; omega) | omega
        replace ss : v6.heap.size < v8.heap.size := by have := hb.size; first | (simp at this; omega) | omega
        have ns : v7.heap.size < v8.heap.size := by have := hb.size; first | (simp at this; omega) | omega
        have hwv8 : w.heap.size ≤ v8.heap.size := hA.size
        have Hv8 := Lib.hid hA
        clear hb hA Hv7
        rw [L2.out]
        go_wp2_with fail
        refine (impl_Less_c _ _ _ _ _).mono ?_
        rintro e v9 ⟨rfl, hb⟩
        replace f0 : v9.cell? ⟨v0.heap.size, 0, none⟩ = some (.int .i64 (c)) := (hb.cell (by show v0.heap.size < _; first | (simp <;> omega) | omega)).trans (by go_simp)
        replace f1 : v9.cell? ⟨v0.heap.size, 1, none⟩ = some (.int .i64 (d)) := (hb.cell (by show v0.heap.size < _; first | (simp <;> omega) | omega)).trans (by go_simp)
        replace g0 : v9.cell? ⟨v0.heap.size + 1, 0, none⟩ = some (.int .i64 (c)) := (hb.cell (by show v0.heap.size + 1 < _; first | (simp <;> omega) | omega)).trans (by go_simp)
        replace g1 : v9.cell? ⟨v0.heap.size + 1, 1, none⟩ = some (.int .i64 (d)) := (hb.cell (by show v0.heap.size + 1 < _; first | (simp <;> omega) | omega)).trans (by go_simp)
        replace m0 : v9.cell? ⟨v5.heap.size, 0, none⟩ = some (.int .i64 (-c)) := (hb.cell (by show v5.heap.size < _; first | (simp <;> omega) | omega)).trans (by go_simp)
        replace m1 : v9.cell? ⟨v5.heap.size, 1, none⟩ = some (.int .i64 (d)) := (hb.cell (by show v5.heap.size < _; first | (simp <;> omega) | omega)).trans (by go_simp)
        replace s0 : v9.cell? ⟨v6.heap.size, 0, none⟩ = some (.int .i64 (Z)) := (hb.cell (by show v6.heap.size < _; first | (simp <;> omega) | omega)).trans (by go_simp)
        replace s1 : v9.cell? ⟨v6.heap.size, 1, none⟩ = some (.int .i64 (E)) := (hb.cell (by show v6.heap.size < _; first | (simp <;> omega) | omega)).trans (by go_simp)
        replace n0 : v9.cell? ⟨v7.heap.size, 0, none⟩ = some (.int .i64 (-c)) := (hb.cell (by show v7.heap.size < _; first | (simp <;> omega) | omega)).trans (by go_simp)
        replace n1 : v9.cell? ⟨v7.heap.size, 1, none⟩ = some (.int .i64 (d)) := (hb.cell (by show v7.heap.size < _; first | (simp <;> omega) | omega)).trans (by go_simp)
        have hA : Below w.heap.size w v9 := by
          refine Below.trans ?_ (hb.mono (by first | (simp <;> omega) | omega))
          repeat (first | exact Hv8.out | (refine Below.alloc ?_ (by first | (simp <;> omega) | omega) _) | (refine Below.setCell ?_ (by first | (simp <;> omega) | omega) _) | (refine below_drewN ?_ _))
        have hzv9 : v8.heap.size ≤ v9.heap.size := by have := hb.size; first | (simp at this; omega) | omega
        replace fs : v0.heap.size < v9.heap.size := by have := hb.size; first | (simp at this; omega) | omega
        replace gs : v0.heap.size + 1 < v9.heap.size := by have := hb.size; first | (simp at this; omega) | omega
        replace ms : v5.heap.size < v9.heap.size := by have := hb.size; first | (simp at this; omega) | omega
        replace ss : v6.heap.size < v9.heap.size := by have := hb.size; first | (simp at this; omega) | omega
        replace ns : v7.heap.size < v9.heap.size := by have := hb.size; first | (simp at this; omega) | omega
        have hwv9 : w.heap.size ≤ v9.heap.size := hA.size
        have Hv9 := Lib.hid hA
        clear hb hA Hv8
        rw [L3.out]
        go_wp2_with fail
        go_ret
        exact ⟨rfl, (by repeat (first | exact Hv9.out | (refine Below.alloc ?_ (by first | (simp <;> omega) | omega) _)))⟩
  · have hn2 : 1048576 < (len0 : Int) := by omega
    go_enter Try.func13, Try.ntmps13
    go_wp2_with fail
    go_ret
    exact ⟨rfl, Below.refl _ _⟩

set_option maxRecDepth 100000 in
theorem lifted (os : Os) (started : os.Started) (H : Type) (enc : TypeId × Value → H) :
    ReturnsInHanded {} Try.checked os 13 .any (Rows.fnLessFractionSpec.pre6 enc Try.prog Try.f13 Rows.fnLessFractionRow.domain false) (Rows.fnLessFractionSpec.post enc Try.prog Try.f13 false true false false) := by
  refine returnsInHanded_of_change (C := Try.checked) own started (by kernel_rfl) Try.func13
    (ChangeSpec.witness6 (enc := enc) (C := Try.checked) false ⟨#[], #[.slice none 0 0], []⟩ 8 (by kernel_rfl) (by kernel_rfl) (by kernel_rfl) (by kernel_rfl)) ?_
  intro W base args ds gs before hval0 hW hcnd _
  have hval : ∀ (j : Nat) t v, Try.f13.params[j]? = some t → args[j]? = some v → Value.okWide Try.prog W .any base t v := hval0
  have hW' := hW
  obtain ⟨p, q, hA0, hV, rfl, hfz, hnd⟩ := hW
  have hA : DataW.TrodAll enc Try.prog W 0 (fun _ => true) true Try.f13.params.toList args.toList ds p := hA0
  rw [Try.params13] at hA hval
  obtain ⟨v0, vs0, d0, ds0, p0, q0, hargs, rfl, rfl, h0, r0⟩ := trodAll_cons hA
  obtain ⟨rfl, rfl, rfl⟩ := trodAll_nil r0
  obtain rfl : args = #[v0] := by cases args; simp_all
  obtain ⟨rfl, rfl⟩ := trodVars_none hV
  have k0 := h0
  have lt0 : ∀ x ∈ p0, x.block < W.heap.size := by obtain ⟨m, hm⟩ := k0; exact DataW.trod_lt m _ _ _ hm
  obtain ⟨a0, len0, cap0, z0, rfl, w0⟩ := get_row Try.underlying39 Try.underlying5 (by kernel_rfl) (hval 0 39 v0 rfl rfl) h0
  clear hA0 hval0
  refine (walk a0 len0 cap0 z0 W w0).mono fun e W' ⟨he, bel⟩ => ?_
  subst he
  exact ⟨_, rfl, _, _, _, [], _, [], hW', trodAll_mk1 (shut_bool Try.underlying4 _), (trodAll_cons_mk (Below.trod laidOut (by kernel_rfl) (of_decide_eq_true (by kernel_rfl)) k0 bel lt0) trodAll_mk0), rfl, bel.frame _, fun h => by cases h⟩

theorem closed : joinedFacts Try.prog 13 Try.f13 Rows.fnLessFractionSpec Rows.fnLessFractionRow = true := by
  rw [joinedFacts.eq_1]
  simp only [Bool.and_eq_true]
  repeat' apply And.intro
  all_goals first | (with_reducible exact fact_enter) | (with_reducible exact laidOut) | (with_reducible exact fact_maps) | (with_reducible exact fact_heard) | (rw [fact_lifts]; try (as_aux_lemma => kernel_rfl)) | (rw [fact_make]; try (as_aux_lemma => kernel_rfl)) | (rw [fact_keys]; try (as_aux_lemma => kernel_rfl)) | (as_aux_lemma => kernel_rfl)

theorem holds : Rows.FnLessFractionSaid :=
  OpenClaim.holds_of_wide 13 Try.f13 rfl rfl rfl rfl rfl rfl rfl ⟨rfl, rfl, rfl, rfl, rfl⟩ rfl rfl rfl rfl rfl (by kernel_rfl) Try.func13 closed
    (of_decide_eq_true (by kernel_rfl)) (by unfold Func.isWrapper; rw [if_neg (of_decide_eq_false (by kernel_rfl))]; exact ⟨rfl, rfl⟩)
    (fun os started H enc _ => lifted os started H enc)
#print axioms holds
end Go.Proofs.Ytkgbnagbeoeijaa.fnLessFraction
