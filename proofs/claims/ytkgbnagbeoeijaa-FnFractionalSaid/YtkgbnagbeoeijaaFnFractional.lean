/- FnFractional: for every input that can be read, the law returns true and its arguments read afterwards as before. Conditions: none. -/
import Derived.Test.YtkgbnagbeoeijaaMem
import Derived.Test.YtkgbnagbeoeijaaSigns
import Derived.Test.YtkgbnagbeoeijaaPlainB
import Derived.Test.YtkgbnagbeoeijaaWm
import Derived.Test.YtkgbnagbeoeijaaWc
import Derived.Test.YtkgbnagbeoeijaaWe
import Derived.Test.YtkgbnagbeoeijaaWf
import Derived.Test.YtkgbnagbeoeijaaWg
import Derived.Test.YtkgbnagbeoeijaaWh
import Derived.Test.YtkgbnagbeoeijaaWd
import Derived.Test.YtkgbnagbeoeijaaWr
import Derived.Test.YtkgbnagbeoeijaaWi
namespace Go.Proofs.Ytkgbnagbeoeijaa.fnFractional
open Go.ChangeShapes Go.WideShapes Go.ChangeAt Go.RowKit
open Go.ChangeMaps (open_string shut_string)
set_option linter.unusedVariables false

set_option maxHeartbeats 4000000 in
theorem walk (a0 : Option Addr) (len0 cap0 : Nat) (z0 : List Int) (w : World) (w0 : IsRow .u8 w a0 len0 cap0 z0) :
    Calls Try.prog 12 #[.slice a0 len0 cap0] w fun e w' => e = .returned (.bool true) ∧ Below w.heap.size w w' := by
  by_cases hn : len0 ≤ 1048576
  · have hn2 : (len0 : Int) ≤ 1048576 := by omega
    have HW := Lib.hid w0
    clear w0
    go_enter Try.func12, Try.ntmps12
    go_wp2_with fail
    refine (DrawFractional_c _ _ _ _ _ HW.out).mono ?_
    rintro e v0 ⟨p, q, rfl, hbel⟩
    have hwv0 := hbel.size
    have Hv0 := Lib.hid hbel
    clear hbel
    rcases hB : nalB p q with _ | _
    · have hX : sel (nalB p q) (lowX p q) = 0 := by rw [hB]; rfl
      have hY : sel (nalB p q) (lowY p q) = 0 := by rw [hB]; rfl
      go_wp2_with fail
      refine (impl_Fractional_c _ _ _).mono ?_
      rintro e v1 ⟨rfl, hb⟩
      have hA : Below w.heap.size w v1 := by
        refine Below.trans ?_ (hb.mono (by first | (simp <;> omega) | omega))
        repeat (first | exact Hv0.out | (refine Below.alloc ?_ (by first | (simp <;> omega) | omega) _) | (refine Below.setCell ?_ (by first | (simp <;> omega) | omega) _) | (refine below_drewN ?_ _))
      have hzv1 : v0.heap.size ≤ v1.heap.size := by have := hb.size; first | (simp at this; omega) | omega
      have hwv1 : w.heap.size ≤ v1.heap.size := hA.size
      have Hv1 := Lib.hid hA
      clear hb hA Hv0
      rw [hX, hY, hB]
      go_wp2_with fail
      refine (spec_Fractional_c _ _ _).mono ?_
      rintro e v2 ⟨rfl, hb⟩
      have f0 : v2.cell? ⟨v1.heap.size, 0, none⟩ = some (.int .i64 (0)) := (hb.cell (by show v1.heap.size < _; first | (simp <;> omega) | omega)).trans (by go_simp)
      have f1 : v2.cell? ⟨v1.heap.size, 1, none⟩ = some (.int .i64 (0)) := (hb.cell (by show v1.heap.size < _; first | (simp <;> omega) | omega)).trans (by go_simp)
      have hA : Below w.heap.size w v2 := by
        refine Below.trans ?_ (hb.mono (by first | (simp <;> omega) | omega))
        repeat (first | exact Hv1.out | (refine Below.alloc ?_ (by first | (simp <;> omega) | omega) _) | (refine Below.setCell ?_ (by first | (simp <;> omega) | omega) _) | (refine below_drewN ?_ _))
      have hzv2 : v1.heap.size ≤ v2.heap.size := by have := hb.size; first | (simp at this; omega) | omega
      have fs : v1.heap.size < v2.heap.size := by have := hb.size; first | (simp at this; omega) | omega
      have hwv2 : w.heap.size ≤ v2.heap.size := hA.size
      have Hv2 := Lib.hid hA
      clear hb hA Hv1
      rw [hX, hY, hB]
      go_wp2_with fail
      go_ret
      exact ⟨rfl, (by repeat (first | exact Hv2.out | (refine Below.alloc ?_ (by first | (simp <;> omega) | omega) _)))⟩
    · obtain ⟨X, Y, hX, hY, hF, hcr, ⟨p1, p2⟩, ⟨q1, q2⟩, ⟨⟨x1, x2⟩, ⟨y1, y2⟩⟩, ⟨hn1, hn3, hn4⟩, ⟨hm1, hm3, hm4⟩, hdv⟩ := nal_facts hB
      have sX : sel (nalB p q) (lowX p q) = X := by rw [hB, hX]; rfl
      have sY : sel (nalB p q) (lowY p q) = Y := by rw [hB, hY]; rfl
      have nX : sel (nalB (-p) (-q)) (lowX (-p) (-q)) = X := by rw [hn1, hn3]; rfl
      have nY : sel (nalB (-p) (-q)) (lowY (-p) (-q)) = Y := by rw [hn1, hn4]; rfl
      have mX : sel (nalB (-p) q) (lowX (-p) q) = -X := by rw [hm1, hm3]; rfl
      have mY : sel (nalB (-p) q) (lowY (-p) q) = Y := by rw [hm1, hm4]; rfl
      obtain ⟨k1, k2⟩ := prod_le (A := 1000000000) (B := 1000000000) x1 x2 q1 q2
      obtain ⟨k3, k4⟩ := prod_le (A := 1000000000) (B := 1000000000) p1 p2 (show -1000000000 ≤ Y by omega) y2
      have HR := Lib.hid (fun (w' : World) => two_row w' X Y (by unfold Fits; omega) (by unfold Fits; omega))
      clear hX hY hn3 hn4 hm3 hm4
      have HSX := Lib.hid sX
      have HSY := Lib.hid sY
      have HNX := Lib.hid nX
      have HNY := Lib.hid nY
      have HMX := Lib.hid mX
      have HMY := Lib.hid mY
      have HB := Lib.hid hB
      have HN1 := Lib.hid hn1
      have HM1 := Lib.hid hm1
      have HFF := Lib.hid hF
      have HDV := Lib.hid hdv
      clear sX sY nX nY mX mY hB hn1 hm1 hF hdv
      go_wp2_with fail
      refine (impl_Fractional_c _ _ _).mono ?_
      rintro e v1 ⟨rfl, hb⟩
      have hA : Below w.heap.size w v1 := by
        refine Below.trans ?_ (hb.mono (by first | (simp <;> omega) | omega))
        repeat (first | exact Hv0.out | (refine Below.alloc ?_ (by first | (simp <;> omega) | omega) _) | (refine Below.setCell ?_ (by first | (simp <;> omega) | omega) _) | (refine below_drewN ?_ _))
      have hzv1 : v0.heap.size ≤ v1.heap.size := by have := hb.size; first | (simp at this; omega) | omega
      have hwv1 : w.heap.size ≤ v1.heap.size := hA.size
      have Hv1 := Lib.hid hA
      clear hb hA Hv0
      rw [HSX.out, HSY.out, HB.out]
      go_wp2_with fail
      refine (spec_Fractional_c _ _ _).mono ?_
      rintro e v2 ⟨rfl, hb⟩
      have f0 : v2.cell? ⟨v1.heap.size, 0, none⟩ = some (.int .i64 (X)) := (hb.cell (by show v1.heap.size < _; first | (simp <;> omega) | omega)).trans (by go_simp)
      have f1 : v2.cell? ⟨v1.heap.size, 1, none⟩ = some (.int .i64 (Y)) := (hb.cell (by show v1.heap.size < _; first | (simp <;> omega) | omega)).trans (by go_simp)
      have hA : Below w.heap.size w v2 := by
        refine Below.trans ?_ (hb.mono (by first | (simp <;> omega) | omega))
        repeat (first | exact Hv1.out | (refine Below.alloc ?_ (by first | (simp <;> omega) | omega) _) | (refine Below.setCell ?_ (by first | (simp <;> omega) | omega) _) | (refine below_drewN ?_ _))
      have hzv2 : v1.heap.size ≤ v2.heap.size := by have := hb.size; first | (simp at this; omega) | omega
      have fs : v1.heap.size < v2.heap.size := by have := hb.size; first | (simp at this; omega) | omega
      have hwv2 : w.heap.size ≤ v2.heap.size := hA.size
      have Hv2 := Lib.hid hA
      clear hb hA Hv1
      rw [HSX.out, HSY.out, HB.out]
      go_wp2_with fail
      refine (impl_Fractional_c _ _ _).mono ?_
      rintro e v3 ⟨rfl, hb⟩
      replace f0 : v3.cell? ⟨v1.heap.size, 0, none⟩ = some (.int .i64 (X)) := (hb.cell (by show v1.heap.size < _; first | (simp <;> omega) | omega)).trans (by go_simp)
      replace f1 : v3.cell? ⟨v1.heap.size, 1, none⟩ = some (.int .i64 (Y)) := (hb.cell (by show v1.heap.size < _; first | (simp <;> omega) | omega)).trans (by go_simp)
      have wn0 : v3.cell? ⟨v2.heap.size, 0, none⟩ = some (.int .i64 (X)) := (hb.cell (by show v2.heap.size < _; first | (simp <;> omega) | omega)).trans (by go_simp)
      have wn1 : v3.cell? ⟨v2.heap.size, 1, none⟩ = some (.int .i64 (Y)) := (hb.cell (by show v2.heap.size < _; first | (simp <;> omega) | omega)).trans (by go_simp)
      have hA : Below w.heap.size w v3 := by
        refine Below.trans ?_ (hb.mono (by first | (simp <;> omega) | omega))
        repeat (first | exact Hv2.out | (refine Below.alloc ?_ (by first | (simp <;> omega) | omega) _) | (refine Below.setCell ?_ (by first | (simp <;> omega) | omega) _) | (refine below_drewN ?_ _))
      have hzv3 : v2.heap.size ≤ v3.heap.size := by have := hb.size; first | (simp at this; omega) | omega
      replace fs : v1.heap.size < v3.heap.size := by have := hb.size; first | (simp at this; omega) | omega
      have wns : v2.heap.size < v3.heap.size := by have := hb.size; first | (simp at this; omega) | omega
      have hwv3 : w.heap.size ≤ v3.heap.size := hA.size
      have Hv3 := Lib.hid hA
      clear hb hA Hv2
      rw [HNX.out, HNY.out, HN1.out]
      go_wp2_with fail
      refine (impl_Minus_c _ _ _).mono ?_
      rintro e v4 ⟨rfl, hb⟩
      replace f0 : v4.cell? ⟨v1.heap.size, 0, none⟩ = some (.int .i64 (X)) := (hb.cell (by show v1.heap.size < _; first | (simp <;> omega) | omega)).trans (by go_simp)
      replace f1 : v4.cell? ⟨v1.heap.size, 1, none⟩ = some (.int .i64 (Y)) := (hb.cell (by show v1.heap.size < _; first | (simp <;> omega) | omega)).trans (by go_simp)
      replace wn0 : v4.cell? ⟨v2.heap.size, 0, none⟩ = some (.int .i64 (X)) := (hb.cell (by show v2.heap.size < _; first | (simp <;> omega) | omega)).trans (by go_simp)
      replace wn1 : v4.cell? ⟨v2.heap.size, 1, none⟩ = some (.int .i64 (Y)) := (hb.cell (by show v2.heap.size < _; first | (simp <;> omega) | omega)).trans (by go_simp)
      have g0 : v4.cell? ⟨v3.heap.size, 0, none⟩ = some (.int .i64 (X)) := (hb.cell (by show v3.heap.size < _; first | (simp <;> omega) | omega)).trans (by go_simp)
      have g1 : v4.cell? ⟨v3.heap.size, 1, none⟩ = some (.int .i64 (Y)) := (hb.cell (by show v3.heap.size < _; first | (simp <;> omega) | omega)).trans (by go_simp)
      have hA : Below w.heap.size w v4 := by
        refine Below.trans ?_ (hb.mono (by first | (simp <;> omega) | omega))
        repeat (first | exact Hv3.out | (refine Below.alloc ?_ (by first | (simp <;> omega) | omega) _) | (refine Below.setCell ?_ (by first | (simp <;> omega) | omega) _) | (refine below_drewN ?_ _))
      have hzv4 : v3.heap.size ≤ v4.heap.size := by have := hb.size; first | (simp at this; omega) | omega
      replace fs : v1.heap.size < v4.heap.size := by have := hb.size; first | (simp at this; omega) | omega
      replace wns : v2.heap.size < v4.heap.size := by have := hb.size; first | (simp at this; omega) | omega
      have gs : v3.heap.size < v4.heap.size := by have := hb.size; first | (simp at this; omega) | omega
      have hwv4 : w.heap.size ≤ v4.heap.size := hA.size
      have Hv4 := Lib.hid hA
      clear hb hA Hv3
      rw [HFF.out, sel_true, sel_true]
      go_wp2_with fail
      refine (impl_Fractional_c _ _ _).mono ?_
      rintro e v5 ⟨rfl, hb⟩
      replace f0 : v5.cell? ⟨v1.heap.size, 0, none⟩ = some (.int .i64 (X)) := (hb.cell (by show v1.heap.size < _; first | (simp <;> omega) | omega)).trans (by go_simp)
      replace f1 : v5.cell? ⟨v1.heap.size, 1, none⟩ = some (.int .i64 (Y)) := (hb.cell (by show v1.heap.size < _; first | (simp <;> omega) | omega)).trans (by go_simp)
      replace wn0 : v5.cell? ⟨v2.heap.size, 0, none⟩ = some (.int .i64 (X)) := (hb.cell (by show v2.heap.size < _; first | (simp <;> omega) | omega)).trans (by go_simp)
      replace wn1 : v5.cell? ⟨v2.heap.size, 1, none⟩ = some (.int .i64 (Y)) := (hb.cell (by show v2.heap.size < _; first | (simp <;> omega) | omega)).trans (by go_simp)
      replace g0 : v5.cell? ⟨v3.heap.size, 0, none⟩ = some (.int .i64 (X)) := (hb.cell (by show v3.heap.size < _; first | (simp <;> omega) | omega)).trans (by go_simp)
      replace g1 : v5.cell? ⟨v3.heap.size, 1, none⟩ = some (.int .i64 (Y)) := (hb.cell (by show v3.heap.size < _; first | (simp <;> omega) | omega)).trans (by go_simp)
      have h0 : v5.cell? ⟨v4.heap.size, 0, none⟩ = some (.int .i64 (-X)) := (hb.cell (by show v4.heap.size < _; first | (simp <;> omega) | omega)).trans (by go_simp)
      have h1 : v5.cell? ⟨v4.heap.size, 1, none⟩ = some (.int .i64 (Y)) := (hb.cell (by show v4.heap.size < _; first | (simp <;> omega) | omega)).trans (by go_simp)
      have hA : Below w.heap.size w v5 := by
        refine Below.trans ?_ (hb.mono (by first | (simp <;> omega) | omega))
        repeat (first | exact Hv4.out | (refine Below.alloc ?_ (by first | (simp <;> omega) | omega) _) | (refine Below.setCell ?_ (by first | (simp <;> omega) | omega) _) | (refine below_drewN ?_ _))
      have hzv5 : v4.heap.size ≤ v5.heap.size := by have := hb.size; first | (simp at this; omega) | omega
      replace fs : v1.heap.size < v5.heap.size := by have := hb.size; first | (simp at this; omega) | omega
      replace wns : v2.heap.size < v5.heap.size := by have := hb.size; first | (simp at this; omega) | omega
      replace gs : v3.heap.size < v5.heap.size := by have := hb.size; first | (simp at this; omega) | omega
      have hs : v4.heap.size < v5.heap.size := by have := hb.size; first | (simp at this; omega) | omega
      have hwv5 : w.heap.size ≤ v5.heap.size := hA.size
      have Hv5 := Lib.hid hA
      clear hb hA Hv4
      rw [HMX.out, HMY.out, HM1.out]
      go_wp2_with fail
      refine (impl_FractionValid_c _ _ _).mono ?_
      rintro e v6 ⟨rfl, hb⟩
      replace f0 : v6.cell? ⟨v1.heap.size, 0, none⟩ = some (.int .i64 (X)) := (hb.cell (by show v1.heap.size < _; first | (simp <;> omega) | omega)).trans (by go_simp)
      replace f1 : v6.cell? ⟨v1.heap.size, 1, none⟩ = some (.int .i64 (Y)) := (hb.cell (by show v1.heap.size < _; first | (simp <;> omega) | omega)).trans (by go_simp)
      replace wn0 : v6.cell? ⟨v2.heap.size, 0, none⟩ = some (.int .i64 (X)) := (hb.cell (by show v2.heap.size < _; first | (simp <;> omega) | omega)).trans (by go_simp)
      replace wn1 : v6.cell? ⟨v2.heap.size, 1, none⟩ = some (.int .i64 (Y)) := (hb.cell (by show v2.heap.size < _; first | (simp <;> omega) | omega)).trans (by go_simp)
      replace g0 : v6.cell? ⟨v3.heap.size, 0, none⟩ = some (.int .i64 (X)) := (hb.cell (by show v3.heap.size < _; first | (simp <;> omega) | omega)).trans (by go_simp)
      replace g1 : v6.cell? ⟨v3.heap.size, 1, none⟩ = some (.int .i64 (Y)) := (hb.cell (by show v3.heap.size < _; first | (simp <;> omega) | omega)).trans (by go_simp)
      replace h0 : v6.cell? ⟨v4.heap.size, 0, none⟩ = some (.int .i64 (-X)) := (hb.cell (by show v4.heap.size < _; first | (simp <;> omega) | omega)).trans (by go_simp)
      replace h1 : v6.cell? ⟨v4.heap.size, 1, none⟩ = some (.int .i64 (Y)) := (hb.cell (by show v4.heap.size < _; first | (simp <;> omega) | omega)).trans (by go_simp)
      have k0 : v6.cell? ⟨v5.heap.size, 0, none⟩ = some (.int .i64 (-X)) := (hb.cell (by show v5.heap.size < _; first | (simp <;> omega) | omega)).trans (by go_simp)
      have k1 : v6.cell? ⟨v5.heap.size, 1, none⟩ = some (.int .i64 (Y)) := (hb.cell (by show v5.heap.size < _; first | (simp <;> omega) | omega)).trans (by go_simp)
      have hA : Below w.heap.size w v6 := by
        refine Below.trans ?_ (hb.mono (by first | (simp <;> omega) | omega))
        repeat (first | exact Hv5.out | (refine Below.alloc ?_ (by first | (simp <;> omega) | omega) _) | (refine Below.setCell ?_ (by first | (simp <;> omega) | omega) _) | (refine below_drewN ?_ _))
      have hzv6 : v5.heap.size ≤ v6.heap.size := by have := hb.size; first | (simp at this; omega) | omega
      replace fs : v1.heap.size < v6.heap.size := by have := hb.size; first | (simp at this; omega) | omega
      replace wns : v2.heap.size < v6.heap.size := by have := hb.size; first | (simp at this; omega) | omega
      replace gs : v3.heap.size < v6.heap.size := by have := hb.size; first | (simp at this; omega) | omega
      replace hs : v4.heap.size < v6.heap.size := by have := hb.size; first | (simp at this; omega) | omega
      have ks : v5.heap.size < v6.heap.size := by have := hb.size; first | (simp at this; omega) | omega
      have hwv6 : w.heap.size ≤ v6.heap.size := hA.size
      have Hv6 := Lib.hid hA
      clear hb hA Hv5
      rw [HFF.out]
      go_wp2_with fail
      refine (impl_GD_c _ 2 2 [X, Y] _ (HR.out _)).mono ?_
      rintro e u ⟨rfl, m, rfl⟩
      rw [HDV.out]
      go_wp2_with fail
      go_ret
      exact ⟨rfl, (by repeat (first | exact Hv6.out | (refine below_drewN ?_ _) | (refine Below.alloc ?_ (by first | (simp <;> omega) | omega) _)))⟩
  · have hn2 : 1048576 < (len0 : Int) := by omega
    go_enter Try.func12, Try.ntmps12
    go_wp2_with fail
    go_ret
    exact ⟨rfl, Below.refl _ _⟩

set_option maxRecDepth 100000 in
theorem lifted (os : Os) (started : os.Started) (H : Type) (enc : TypeId × Value → H) :
    ReturnsInHanded {} Try.checked os 12 .any (Rows.fnFractionalSpec.pre6 enc Try.prog Try.f12 Rows.fnFractionalRow.domain false) (Rows.fnFractionalSpec.post enc Try.prog Try.f12 false true false false) := by
  refine returnsInHanded_of_change (C := Try.checked) own started (by kernel_rfl) Try.func12
    (ChangeSpec.witness6 (enc := enc) (C := Try.checked) false ⟨#[], #[.slice none 0 0], []⟩ 8 (by kernel_rfl) (by kernel_rfl) (by kernel_rfl) (by kernel_rfl)) ?_
  intro W base args ds gs before hval0 hW hcnd _
  have hval : ∀ (j : Nat) t v, Try.f12.params[j]? = some t → args[j]? = some v → Value.okWide Try.prog W .any base t v := hval0
  have hW' := hW
  obtain ⟨p, q, hA0, hV, rfl, hfz, hnd⟩ := hW
  have hA : DataW.TrodAll enc Try.prog W 0 (fun _ => true) true Try.f12.params.toList args.toList ds p := hA0
  rw [Try.params12] at hA hval
  obtain ⟨v0, vs0, d0, ds0, p0, q0, hargs, rfl, rfl, h0, r0⟩ := trodAll_cons hA
  obtain ⟨rfl, rfl, rfl⟩ := trodAll_nil r0
  obtain rfl : args = #[v0] := by cases args; simp_all
  obtain ⟨rfl, rfl⟩ := trodVars_none hV
  have k0 := h0
  have lt0 : ∀ x ∈ p0, x.block < W.heap.size := by obtain ⟨m, hm⟩ := k0; exact DataW.trod_lt m _ _ _ hm
  obtain ⟨a0, len0, cap0, z0, rfl, w0⟩ := get_row Try.underlying39 Try.underlying5 (by kernel_rfl) (hval 0 39 v0 rfl rfl) h0
  clear hA0 hval0
  refine (walk a0 len0 cap0 z0 W w0).mono fun e W' ⟨he, bel⟩ => ?_
  subst he
  exact ⟨_, rfl, _, _, _, [], _, [], hW', trodAll_mk1 (shut_bool Try.underlying4 _), (trodAll_cons_mk (Below.trod laidOut (by kernel_rfl) (of_decide_eq_true (by kernel_rfl)) k0 bel lt0) trodAll_mk0), rfl, bel.frame _, fun h => by cases h⟩

theorem closed : joinedFacts Try.prog 12 Try.f12 Rows.fnFractionalSpec Rows.fnFractionalRow = true := by
  rw [joinedFacts.eq_1]
  simp only [Bool.and_eq_true]
  repeat' apply And.intro
  all_goals first | (with_reducible exact fact_enter) | (with_reducible exact laidOut) | (with_reducible exact fact_maps) | (with_reducible exact fact_heard) | (rw [fact_lifts]; try (as_aux_lemma => kernel_rfl)) | (rw [fact_make]; try (as_aux_lemma => kernel_rfl)) | (rw [fact_keys]; try (as_aux_lemma => kernel_rfl)) | (as_aux_lemma => kernel_rfl)

theorem holds : Rows.FnFractionalSaid :=
  OpenClaim.holds_of_wide 12 Try.f12 rfl rfl rfl rfl rfl rfl rfl ⟨rfl, rfl, rfl, rfl, rfl⟩ rfl rfl rfl rfl rfl (by kernel_rfl) Try.func12 closed
    (of_decide_eq_true (by kernel_rfl)) (by unfold Func.isWrapper; rw [if_neg (of_decide_eq_false (by kernel_rfl))]; exact ⟨rfl, rfl⟩)
    (fun os started H enc _ => lifted os started H enc)
#print axioms holds
end Go.Proofs.Ytkgbnagbeoeijaa.fnFractional
