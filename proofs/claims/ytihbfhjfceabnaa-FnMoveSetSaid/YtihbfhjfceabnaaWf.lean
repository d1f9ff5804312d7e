/- Contracts of chapter 2: sums, products, quotients, the other sign, order, made and compared, the program's and the reference's. Conditions: as stated. -/
import Derived.Test.YtihbfhjfceabnaaWe
namespace Go.Proofs.Ytihbfhjfceabnaa
open Go.RowKit

theorem bcell {W w1 : World} (hb : Below W.heap.size W w1) : (∀ b o, b < W.heap.size → w1.cell? ⟨b, o, none⟩ = W.cell? ⟨b, o, none⟩) ∧ (∀ b o, b < W.heap.size → w1.frozen? ⟨b, o, none⟩ = W.frozen? ⟨b, o, none⟩) :=
  ⟨fun b o h => hb.cell (p := ⟨b, o, none⟩) h, fun b o h => hb.frozen (p := ⟨b, o, none⟩) h⟩
theorem lt_of_alloc {W w1 : World} {o : Obj} (hb : Below (W.alloc o).heap.size (W.alloc o) w1) : W.heap.size < w1.heap.size := by
  have := hb.size
  simp at this
  omega
theorem lt_step {W w1 : World} (hb : Below W.heap.size W w1) : ∀ g, g < W.heap.size → g < w1.heap.size := fun _ h => Nat.lt_of_lt_of_le h hb.size
def addB (x1 y1 x2 y2 : Int) : Bool := fracB x1 y1 && (fracB x2 y2 && lowB (x1 * y2 + x2 * y1) (y1 * y2))
def timesB (x1 y1 x2 y2 : Int) : Bool := fracB x1 y1 && (fracB x2 y2 && lowB (x1 * x2) (y1 * y2))
def overB (x1 y1 x2 y2 : Int) : Bool := fracB x1 y1 && (fracB x2 y2 && (!(x2 == 0) && lowB (x1 * y2) (y1 * x2)))
def nalB (num den : Int) : Bool := partB num && (partB den && (!(den == 0) && lowB num den))
def lessB (x1 y1 x2 y2 : Int) : Bool := fracB x1 y1 && (fracB x2 y2 && decide (x1 * y2 < x2 * y1))
theorem prods {x1 y1 x2 y2 : Int} (h : fracB x1 y1 = true) (k : fracB x2 y2 = true) :
    (-1000000000000000000 ≤ x1 * y2 ∧ x1 * y2 ≤ 1000000000000000000) ∧ (-1000000000000000000 ≤ x2 * y1 ∧ x2 * y1 ≤ 1000000000000000000) ∧
    (-1000000000000000000 ≤ x1 * x2 ∧ x1 * x2 ≤ 1000000000000000000) ∧ (1 ≤ y1 * y2 ∧ y1 * y2 ≤ 1000000000000000000) ∧ (-1000000000000000000 ≤ y1 * x2 ∧ y1 * x2 ≤ 1000000000000000000) := by
  obtain ⟨⟨a1, a2⟩, ⟨a3, a4⟩, _⟩ := fracB_iff.1 h
  obtain ⟨⟨b1, b2⟩, ⟨b3, b4⟩, _⟩ := fracB_iff.1 k
  have p1 := prod_le (A := 1000000000) (B := 1000000000) a1 a2 (show -1000000000 ≤ y2 by omega) b4
  have p2 := prod_le (A := 1000000000) (B := 1000000000) b1 b2 (show -1000000000 ≤ y1 by omega) a4
  have p3 := prod_le (A := 1000000000) (B := 1000000000) a1 a2 b1 b2
  have p4 := prod_le (A := 1000000000) (B := 1000000000) (show -1000000000 ≤ y1 by omega) a4 (show -1000000000 ≤ y2 by omega) b4
  have p5 := prod_le (A := 1000000000) (B := 1000000000) (show -1000000000 ≤ y1 by omega) a4 b1 b2
  have p6 : 0 < y1 * y2 := Int.mul_pos (by omega) (by omega)
  refine ⟨by omega, by omega, by omega, by omega, by omega⟩

/-- Two fractions' own cells from block b on. -/
def C2 (W : World) (b : Nat) (x1 y1 x2 y2 : Int) : Prop :=
  (W.cell? ⟨b, 0, none⟩ = some (.int .i64 x1) ∧ W.cell? ⟨b, 1, none⟩ = some (.int .i64 y1)) ∧ (W.cell? ⟨b + 1, 0, none⟩ = some (.int .i64 x2) ∧ W.cell? ⟨b + 1, 1, none⟩ = some (.int .i64 y2))
theorem c2_of {W : World} {b : Nat} {x1 y1 x2 y2 : Int} (h : W.cell? ⟨b, 0, none⟩ = some (.int .i64 x1) ∧ W.cell? ⟨b, 1, none⟩ = some (.int .i64 y1) ∧ W.cell? ⟨b + 1, 0, none⟩ = some (.int .i64 x2) ∧ W.cell? ⟨b + 1, 1, none⟩ = some (.int .i64 y2)) : C2 W b x1 y1 x2 y2 :=
  ⟨⟨h.1, h.2.1⟩, ⟨h.2.2.1, h.2.2.2⟩⟩
/-- A result's cells. -/
def C0 (W : World) (b : Nat) : Prop :=
  (W.cell? ⟨b, 0, none⟩ = some (.int .i64 0) ∧ W.cell? ⟨b, 1, none⟩ = some (.int .i64 0)) ∧ (W.frozen? ⟨b, 0, none⟩ = false ∧ W.frozen? ⟨b, 1, none⟩ = false)
theorem C2.below {W W' : World} {b : Nat} {x1 y1 x2 y2 : Int} (h : C2 W b x1 y1 x2 y2) (hb : Below W.heap.size W W') (hlt : b + 1 < W.heap.size) : C2 W' b x1 y1 x2 y2 :=
  ⟨⟨(hb.cell (by show b < _; omega)).trans h.1.1, (hb.cell (by show b < _; omega)).trans h.1.2⟩, ⟨(hb.cell (by show b + 1 < _; omega)).trans h.2.1, (hb.cell (by show b + 1 < _; omega)).trans h.2.2⟩⟩
theorem C0.below {W W' : World} {b : Nat} (h : C0 W b) (hb : Below W.heap.size W W') (hlt : b < W.heap.size) : C0 W' b :=
  ⟨⟨(hb.cell (by show b < _; omega)).trans h.1.1, (hb.cell (by show b < _; omega)).trans h.1.2⟩, ⟨(hb.frozen (by show b < _; omega)).trans h.2.1, (hb.frozen (by show b < _; omega)).trans h.2.2⟩⟩
set_option maxHeartbeats 1000000 in
theorem l2Both_c (x1 y1 x2 y2 : Int) (w : World) : Calls Try.prog 43 #[.agg #[.int .i64 x1, .int .i64 y1], .agg #[.int .i64 x2, .int .i64 y2]] w fun e w' => e = .returned (.bool (fracB x1 y1 && fracB x2 y2)) ∧ Below w.heap.size w w' := by
  rcases h1 : fracB x1 y1 with _ | _
  · go_enter Try.func43, Try.ntmps43
    go_wp2_with fail
    refine (spec_FractionValid_c _ _ _).mono ?_
    rintro e w1 ⟨rfl, hb1⟩
    rw [h1]
    have hA : Below w.heap.size w w1 := Below.trans (by repeat (first | exact Below.refl _ _ | exact Below.refl _ _ | (refine Below.setCell ?_ (by first | exact Nat.le_refl _ | (simp <;> omega) | omega) _) | (refine Below.alloc ?_ (by first | exact Nat.le_refl _ | (simp <;> omega) | omega) _) | (refine below_drewN ?_ _) | (refine Below.drew ?_))) (hb1.mono (by simp <;> omega))
    have HA := Lib.hid hA
    clear hb1 hA
    go_wp2_with fail
    go_ret
    exact ⟨rfl, HA.out⟩
  · go_enter Try.func43, Try.ntmps43
    go_wp2_with fail
    refine (spec_FractionValid_c _ _ _).mono ?_
    rintro e w1 ⟨rfl, hb1⟩
    rw [h1]
    have hA : Below w.heap.size w w1 := Below.trans (by repeat (first | exact Below.refl _ _ | exact Below.refl _ _ | (refine Below.setCell ?_ (by first | exact Nat.le_refl _ | (simp <;> omega) | omega) _) | (refine Below.alloc ?_ (by first | exact Nat.le_refl _ | (simp <;> omega) | omega) _) | (refine below_drewN ?_ _) | (refine Below.drew ?_))) (hb1.mono (by simp <;> omega))
    have c0 : w1.cell? ⟨w.heap.size + 1, 0, none⟩ = some (.int .i64 x2) := (hb1.cell (by simp <;> omega)).trans (by go_simp)
    have c1 : w1.cell? ⟨w.heap.size + 1, 1, none⟩ = some (.int .i64 y2) := (hb1.cell (by simp <;> omega)).trans (by go_simp)
    have hsz := hA.size
    have HA := Lib.hid hA
    clear hb1 hA
    go_wp2_with fail
    refine (spec_FractionValid_c _ _ _).mono ?_
    rintro e w2 ⟨rfl, hb2⟩
    have hA2 : Below w.heap.size w w2 := HA.out.trans (hb2.mono hsz)
    have HA2 := Lib.hid hA2
    clear hb2 hA2
    go_wp2_with fail
    go_ret
    exact ⟨rfl, HA2.out⟩
set_option maxHeartbeats 4000000 in
theorem impl_Add_c (x1 y1 x2 y2 : Int) (w : World) : Calls Try.prog 13 #[.agg #[.int .i64 x1, .int .i64 y1], .agg #[.int .i64 x2, .int .i64 y2]] w fun e w' => e = .returned (.tuple #[.agg #[.int .i64 (sel (addB x1 y1 x2 y2) (lowX (x1 * y2 + x2 * y1) (y1 * y2))), .int .i64 (sel (addB x1 y1 x2 y2) (lowY (x1 * y2 + x2 * y1) (y1 * y2)))], .bool (addB x1 y1 x2 y2)]) ∧ Below w.heap.size w w' := by
  rcases h1 : fracB x1 y1 with _ | _
  · have hE : Ending.returned (.tuple #[.agg #[.int .i64 (0), .int .i64 (0)], .bool (false)]) = Ending.returned (.tuple #[.agg #[.int .i64 (sel (addB x1 y1 x2 y2) (lowX (x1 * y2 + x2 * y1) (y1 * y2))), .int .i64 (sel (addB x1 y1 x2 y2) (lowY (x1 * y2 + x2 * y1) (y1 * y2)))], .bool (addB x1 y1 x2 y2)]) := by simp [addB, sel, h1]
    have HE := Lib.hid hE
    clear hE
    go_enter Try.func13, Try.ntmps13
    go_wp2_with fail
    refine (isFraction_c _ _ _).mono ?_
    rintro e w1 ⟨rfl, hb⟩
    rw [h1]
    have hA : Below w.heap.size w w1 := Below.trans (by repeat (first | exact Below.refl _ _ | exact Below.refl _ _ | (refine Below.setCell ?_ (by first | exact Nat.le_refl _ | (simp <;> omega) | omega) _) | (refine Below.alloc ?_ (by first | exact Nat.le_refl _ | (simp <;> omega) | omega) _) | (refine below_drewN ?_ _) | (refine Below.drew ?_))) (hb.mono (by simp <;> omega))
    have hD : C2 w1 w.heap.size x1 y1 x2 y2 := C2.below ⟨⟨by go_simp, by go_simp⟩, ⟨by go_simp, by go_simp⟩⟩ hb (by simp <;> omega)
    have hC : C0 w1 (w.heap.size + 1 + 1) := C0.below ⟨⟨by go_simp, by go_simp⟩, ⟨by go_simp, by go_simp⟩⟩ hb (by simp <;> omega)
    have hs := hb.size
    simp at hs
    clear hb
    have HA := Lib.hid hA
    have HC := Lib.hid hC
    have HD := Lib.hid hD
    obtain ⟨⟨a0, a1⟩, ⟨a2, a3⟩⟩ := hD
    obtain ⟨⟨c0, c1⟩, ⟨f0, f1⟩⟩ := hC
    clear hA
    go_wp2_with fail
    exact bodyPost_ret (v := .tuple #[.agg #[.int .i64 (0), .int .i64 (0)], .bool (false)]) (by simp [results, Try.results13, go_sem, c0, c1]) rfl ⟨HE.out, (by repeat (first | exact HA.out | exact Below.refl _ _ | (refine Below.setCell ?_ (by first | exact Nat.le_refl _ | (simp <;> omega) | omega) _) | (refine Below.alloc ?_ (by first | exact Nat.le_refl _ | (simp <;> omega) | omega) _) | (refine below_drewN ?_ _) | (refine Below.drew ?_)))⟩
  rcases h2 : fracB x2 y2 with _ | _
  · have hE : Ending.returned (.tuple #[.agg #[.int .i64 (0), .int .i64 (0)], .bool (false)]) = Ending.returned (.tuple #[.agg #[.int .i64 (sel (addB x1 y1 x2 y2) (lowX (x1 * y2 + x2 * y1) (y1 * y2))), .int .i64 (sel (addB x1 y1 x2 y2) (lowY (x1 * y2 + x2 * y1) (y1 * y2)))], .bool (addB x1 y1 x2 y2)]) := by simp [addB, sel, h1, h2]
    have HE := Lib.hid hE
    clear hE
    go_enter Try.func13, Try.ntmps13
    go_wp2_with fail
    refine (isFraction_c _ _ _).mono ?_
    rintro e w1 ⟨rfl, hb⟩
    rw [h1]
    have hA : Below w.heap.size w w1 := Below.trans (by repeat (first | exact Below.refl _ _ | exact Below.refl _ _ | (refine Below.setCell ?_ (by first | exact Nat.le_refl _ | (simp <;> omega) | omega) _) | (refine Below.alloc ?_ (by first | exact Nat.le_refl _ | (simp <;> omega) | omega) _) | (refine below_drewN ?_ _) | (refine Below.drew ?_))) (hb.mono (by simp <;> omega))
    have hD : C2 w1 w.heap.size x1 y1 x2 y2 := C2.below ⟨⟨by go_simp, by go_simp⟩, ⟨by go_simp, by go_simp⟩⟩ hb (by simp <;> omega)
    have hC : C0 w1 (w.heap.size + 1 + 1) := C0.below ⟨⟨by go_simp, by go_simp⟩, ⟨by go_simp, by go_simp⟩⟩ hb (by simp <;> omega)
    have hs := hb.size
    simp at hs
    clear hb
    have HA := Lib.hid hA
    have HC := Lib.hid hC
    have HD := Lib.hid hD
    obtain ⟨⟨a0, a1⟩, ⟨a2, a3⟩⟩ := hD
    obtain ⟨⟨c0, c1⟩, ⟨f0, f1⟩⟩ := hC
    clear hA
    go_wp2_with fail
    clear c0 c1 f0 f1 a0 a1 a2 a3
    refine (isFraction_c _ _ _).mono ?_
    rintro e w2 ⟨rfl, hb⟩
    rw [h2]
    have hA : Below w.heap.size w w2 := HA.out.trans (hb.mono (by omega))
    have hD : C2 w2 w.heap.size x1 y1 x2 y2 := HD.out.below hb (by omega)
    have hC : C0 w2 (w.heap.size + 1 + 1) := HC.out.below hb (by omega)
    replace hs := Nat.le_trans hs hb.size
    clear hb HA HC HD
    have HA := Lib.hid hA
    have HC := Lib.hid hC
    have HD := Lib.hid hD
    obtain ⟨⟨a0, a1⟩, ⟨a2, a3⟩⟩ := hD
    obtain ⟨⟨c0, c1⟩, ⟨f0, f1⟩⟩ := hC
    clear hA
    go_wp2_with fail
    exact bodyPost_ret (v := .tuple #[.agg #[.int .i64 (0), .int .i64 (0)], .bool (false)]) (by simp [results, Try.results13, go_sem, c0, c1]) rfl ⟨HE.out, (by repeat (first | exact HA.out | exact Below.refl _ _ | (refine Below.setCell ?_ (by first | exact Nat.le_refl _ | (simp <;> omega) | omega) _) | (refine Below.alloc ?_ (by first | exact Nat.le_refl _ | (simp <;> omega) | omega) _) | (refine below_drewN ?_ _) | (refine Below.drew ?_)))⟩
  obtain ⟨⟨q1, q2⟩, ⟨q3, q4⟩, ⟨q5, q6⟩, ⟨q7, q8⟩, q9, q10⟩ := prods h1 h2
  · have hS1 : Small (x1 * y2 + x2 * y1) := by unfold Small; omega
    have hS2 : Small (y1 * y2) := by unfold Small; omega
    have hE : Ending.returned (.tuple #[.agg #[.int .i64 (sel (lowB (x1 * y2 + x2 * y1) (y1 * y2)) (lowX (x1 * y2 + x2 * y1) (y1 * y2))), .int .i64 (sel (lowB (x1 * y2 + x2 * y1) (y1 * y2)) (lowY (x1 * y2 + x2 * y1) (y1 * y2)))], .bool (lowB (x1 * y2 + x2 * y1) (y1 * y2))]) = Ending.returned (.tuple #[.agg #[.int .i64 (sel (addB x1 y1 x2 y2) (lowX (x1 * y2 + x2 * y1) (y1 * y2))), .int .i64 (sel (addB x1 y1 x2 y2) (lowY (x1 * y2 + x2 * y1) (y1 * y2)))], .bool (addB x1 y1 x2 y2)]) := by simp [addB, sel, h1, h2]
    have HE := Lib.hid hE
    clear hE
    have HS1 := Lib.hid hS1
    have HS2 := Lib.hid hS2
    clear hS1 hS2
    go_enter Try.func13, Try.ntmps13
    go_wp2_with fail
    refine (isFraction_c _ _ _).mono ?_
    rintro e w1 ⟨rfl, hb⟩
    rw [h1]
    have hA : Below w.heap.size w w1 := Below.trans (by repeat (first | exact Below.refl _ _ | exact Below.refl _ _ | (refine Below.setCell ?_ (by first | exact Nat.le_refl _ | (simp <;> omega) | omega) _) | (refine Below.alloc ?_ (by first | exact Nat.le_refl _ | (simp <;> omega) | omega) _) | (refine below_drewN ?_ _) | (refine Below.drew ?_))) (hb.mono (by simp <;> omega))
    have hD : C2 w1 w.heap.size x1 y1 x2 y2 := C2.below ⟨⟨by go_simp, by go_simp⟩, ⟨by go_simp, by go_simp⟩⟩ hb (by simp <;> omega)
    have hC : C0 w1 (w.heap.size + 1 + 1) := C0.below ⟨⟨by go_simp, by go_simp⟩, ⟨by go_simp, by go_simp⟩⟩ hb (by simp <;> omega)
    have hs := hb.size
    simp at hs
    clear hb
    have HA := Lib.hid hA
    have HC := Lib.hid hC
    have HD := Lib.hid hD
    obtain ⟨⟨a0, a1⟩, ⟨a2, a3⟩⟩ := hD
    obtain ⟨⟨c0, c1⟩, ⟨f0, f1⟩⟩ := hC
    clear hA
    go_wp2_with fail
    clear c0 c1 f0 f1 a0 a1 a2 a3
    refine (isFraction_c _ _ _).mono ?_
    rintro e w2 ⟨rfl, hb⟩
    rw [h2]
    have hA : Below w.heap.size w w2 := HA.out.trans (hb.mono (by omega))
    have hD : C2 w2 w.heap.size x1 y1 x2 y2 := HD.out.below hb (by omega)
    have hC : C0 w2 (w.heap.size + 1 + 1) := HC.out.below hb (by omega)
    replace hs := Nat.le_trans hs hb.size
    clear hb HA HC HD
    have HA := Lib.hid hA
    have HC := Lib.hid hC
    have HD := Lib.hid hD
    obtain ⟨⟨a0, a1⟩, ⟨a2, a3⟩⟩ := hD
    obtain ⟨⟨c0, c1⟩, ⟨f0, f1⟩⟩ := hC
    clear hA
    go_wp2_with fail
    clear c0 c1 f0 f1 a0 a1 a2 a3
    refine (lowest_c (x1 * y2 + x2 * y1) (y1 * y2) HS1.out HS2.out (by omega) _).mono ?_
    rintro e w3 ⟨rfl, hb⟩
    have hA : Below w.heap.size w w3 := HA.out.trans (hb.mono (by omega))
    have hD : C2 w3 w.heap.size x1 y1 x2 y2 := HD.out.below hb (by omega)
    have hC : C0 w3 (w.heap.size + 1 + 1) := HC.out.below hb (by omega)
    replace hs := Nat.le_trans hs hb.size
    clear hb HA HC HD
    have HA := Lib.hid hA
    have HC := Lib.hid hC
    have HD := Lib.hid hD
    obtain ⟨⟨a0, a1⟩, ⟨a2, a3⟩⟩ := hD
    obtain ⟨⟨c0, c1⟩, ⟨f0, f1⟩⟩ := hC
    clear hA
    go_wp2_with fail
    exact bodyPost_ret (v := .tuple #[.agg #[.int .i64 (sel (lowB (x1 * y2 + x2 * y1) (y1 * y2)) (lowX (x1 * y2 + x2 * y1) (y1 * y2))), .int .i64 (sel (lowB (x1 * y2 + x2 * y1) (y1 * y2)) (lowY (x1 * y2 + x2 * y1) (y1 * y2)))], .bool (lowB (x1 * y2 + x2 * y1) (y1 * y2))]) (by simp [results, Try.results13, go_sem, c0, c1]) rfl ⟨HE.out, (by repeat (first | exact HA.out | exact Below.refl _ _ | (refine Below.setCell ?_ (by first | exact Nat.le_refl _ | (simp <;> omega) | omega) _) | (refine Below.alloc ?_ (by first | exact Nat.le_refl _ | (simp <;> omega) | omega) _) | (refine below_drewN ?_ _) | (refine Below.drew ?_)))⟩
set_option maxHeartbeats 4000000 in
theorem spec_Add_c (x1 y1 x2 y2 : Int) (w : World) : Calls Try.prog 14 #[.agg #[.int .i64 x1, .int .i64 y1], .agg #[.int .i64 x2, .int .i64 y2]] w fun e w' => e = .returned (.tuple #[.agg #[.int .i64 (sel (addB x1 y1 x2 y2) (lowX (x1 * y2 + x2 * y1) (y1 * y2))), .int .i64 (sel (addB x1 y1 x2 y2) (lowY (x1 * y2 + x2 * y1) (y1 * y2)))], .bool (addB x1 y1 x2 y2)]) ∧ Below w.heap.size w w' := by
  rcases h1 : fracB x1 y1 with _ | _
  · have hE : Ending.returned (.tuple #[.agg #[.int .i64 (0), .int .i64 (0)], .bool (false)]) = Ending.returned (.tuple #[.agg #[.int .i64 (sel (addB x1 y1 x2 y2) (lowX (x1 * y2 + x2 * y1) (y1 * y2))), .int .i64 (sel (addB x1 y1 x2 y2) (lowY (x1 * y2 + x2 * y1) (y1 * y2)))], .bool (addB x1 y1 x2 y2)]) := by simp [addB, sel, h1]
    have HE := Lib.hid hE
    clear hE
    have hB : (fracB x1 y1 && fracB x2 y2) = false := by simp [h1]
    go_enter Try.func14, Try.ntmps14
    go_wp2_with fail
    refine (l2Both_c _ _ _ _ _).mono ?_
    rintro e w2 ⟨rfl, hb⟩
    rw [hB]
    have hA : Below w.heap.size w w2 := Below.trans (by repeat (first | exact Below.refl _ _ | exact Below.refl _ _ | (refine Below.setCell ?_ (by first | exact Nat.le_refl _ | (simp <;> omega) | omega) _) | (refine Below.alloc ?_ (by first | exact Nat.le_refl _ | (simp <;> omega) | omega) _) | (refine below_drewN ?_ _) | (refine Below.drew ?_))) (hb.mono (by simp <;> omega))
    have hD : C2 w2 w.heap.size x1 y1 x2 y2 := C2.below ⟨⟨by go_simp, by go_simp⟩, ⟨by go_simp, by go_simp⟩⟩ hb (by simp <;> omega)
    have hC : C0 w2 (w.heap.size + 1 + 1) := C0.below ⟨⟨by go_simp, by go_simp⟩, ⟨by go_simp, by go_simp⟩⟩ hb (by simp <;> omega)
    have hs := hb.size
    simp at hs
    clear hb
    have HA := Lib.hid hA
    have HC := Lib.hid hC
    have HD := Lib.hid hD
    obtain ⟨⟨a0, a1⟩, ⟨a2, a3⟩⟩ := hD
    obtain ⟨⟨c0, c1⟩, ⟨f0, f1⟩⟩ := hC
    clear hA
    go_wp2_with fail
    exact bodyPost_ret (v := .tuple #[.agg #[.int .i64 (0), .int .i64 (0)], .bool (false)]) (by simp [results, Try.results14, go_sem, c0, c1]) rfl ⟨HE.out, (by repeat (first | exact HA.out | exact Below.refl _ _ | (refine Below.setCell ?_ (by first | exact Nat.le_refl _ | (simp <;> omega) | omega) _) | (refine Below.alloc ?_ (by first | exact Nat.le_refl _ | (simp <;> omega) | omega) _) | (refine below_drewN ?_ _) | (refine Below.drew ?_)))⟩
  rcases h2 : fracB x2 y2 with _ | _
  · have hE : Ending.returned (.tuple #[.agg #[.int .i64 (0), .int .i64 (0)], .bool (false)]) = Ending.returned (.tuple #[.agg #[.int .i64 (sel (addB x1 y1 x2 y2) (lowX (x1 * y2 + x2 * y1) (y1 * y2))), .int .i64 (sel (addB x1 y1 x2 y2) (lowY (x1 * y2 + x2 * y1) (y1 * y2)))], .bool (addB x1 y1 x2 y2)]) := by simp [addB, sel, h1, h2]
    have HE := Lib.hid hE
    clear hE
    have hB : (fracB x1 y1 && fracB x2 y2) = false := by simp [h1, h2]
    go_enter Try.func14, Try.ntmps14
    go_wp2_with fail
    refine (l2Both_c _ _ _ _ _).mono ?_
    rintro e w2 ⟨rfl, hb⟩
    rw [hB]
    have hA : Below w.heap.size w w2 := Below.trans (by repeat (first | exact Below.refl _ _ | exact Below.refl _ _ | (refine Below.setCell ?_ (by first | exact Nat.le_refl _ | (simp <;> omega) | omega) _) | (refine Below.alloc ?_ (by first | exact Nat.le_refl _ | (simp <;> omega) | omega) _) | (refine below_drewN ?_ _) | (refine Below.drew ?_))) (hb.mono (by simp <;> omega))
    have hD : C2 w2 w.heap.size x1 y1 x2 y2 := C2.below ⟨⟨by go_simp, by go_simp⟩, ⟨by go_simp, by go_simp⟩⟩ hb (by simp <;> omega)
    have hC : C0 w2 (w.heap.size + 1 + 1) := C0.below ⟨⟨by go_simp, by go_simp⟩, ⟨by go_simp, by go_simp⟩⟩ hb (by simp <;> omega)
    have hs := hb.size
    simp at hs
    clear hb
    have HA := Lib.hid hA
    have HC := Lib.hid hC
    have HD := Lib.hid hD
    obtain ⟨⟨a0, a1⟩, ⟨a2, a3⟩⟩ := hD
    obtain ⟨⟨c0, c1⟩, ⟨f0, f1⟩⟩ := hC
    clear hA
    go_wp2_with fail
    exact bodyPost_ret (v := .tuple #[.agg #[.int .i64 (0), .int .i64 (0)], .bool (false)]) (by simp [results, Try.results14, go_sem, c0, c1]) rfl ⟨HE.out, (by repeat (first | exact HA.out | exact Below.refl _ _ | (refine Below.setCell ?_ (by first | exact Nat.le_refl _ | (simp <;> omega) | omega) _) | (refine Below.alloc ?_ (by first | exact Nat.le_refl _ | (simp <;> omega) | omega) _) | (refine below_drewN ?_ _) | (refine Below.drew ?_)))⟩
  obtain ⟨⟨q1, q2⟩, ⟨q3, q4⟩, ⟨q5, q6⟩, ⟨q7, q8⟩, q9, q10⟩ := prods h1 h2
  · have hS1 : Small (x1 * y2 + x2 * y1) := by unfold Small; omega
    have hS2 : Small (y1 * y2) := by unfold Small; omega
    have hB : (fracB x1 y1 && fracB x2 y2) = true := by simp [h1, h2]
    have hE : Ending.returned (.tuple #[.agg #[.int .i64 (sel (lowB (x1 * y2 + x2 * y1) (y1 * y2)) (lowX (x1 * y2 + x2 * y1) (y1 * y2))), .int .i64 (sel (lowB (x1 * y2 + x2 * y1) (y1 * y2)) (lowY (x1 * y2 + x2 * y1) (y1 * y2)))], .bool (lowB (x1 * y2 + x2 * y1) (y1 * y2))]) = Ending.returned (.tuple #[.agg #[.int .i64 (sel (addB x1 y1 x2 y2) (lowX (x1 * y2 + x2 * y1) (y1 * y2))), .int .i64 (sel (addB x1 y1 x2 y2) (lowY (x1 * y2 + x2 * y1) (y1 * y2)))], .bool (addB x1 y1 x2 y2)]) := by simp [addB, sel, h1, h2]
    have HE := Lib.hid hE
    clear hE
    have HS1 := Lib.hid hS1
    have HS2 := Lib.hid hS2
    clear hS1 hS2
    go_enter Try.func14, Try.ntmps14
    go_wp2_with fail
    refine (l2Both_c _ _ _ _ _).mono ?_
    rintro e w2 ⟨rfl, hb⟩
    rw [hB]
    have hA : Below w.heap.size w w2 := Below.trans (by repeat (first | exact Below.refl _ _ | exact Below.refl _ _ | (refine Below.setCell ?_ (by first | exact Nat.le_refl _ | (simp <;> omega) | omega) _) | (refine Below.alloc ?_ (by first | exact Nat.le_refl _ | (simp <;> omega) | omega) _) | (refine below_drewN ?_ _) | (refine Below.drew ?_))) (hb.mono (by simp <;> omega))
    have hD : C2 w2 w.heap.size x1 y1 x2 y2 := C2.below ⟨⟨by go_simp, by go_simp⟩, ⟨by go_simp, by go_simp⟩⟩ hb (by simp <;> omega)
    have hC : C0 w2 (w.heap.size + 1 + 1) := C0.below ⟨⟨by go_simp, by go_simp⟩, ⟨by go_simp, by go_simp⟩⟩ hb (by simp <;> omega)
    have hs := hb.size
    simp at hs
    clear hb
    have HA := Lib.hid hA
    have HC := Lib.hid hC
    have HD := Lib.hid hD
    obtain ⟨⟨a0, a1⟩, ⟨a2, a3⟩⟩ := hD
    obtain ⟨⟨c0, c1⟩, ⟨f0, f1⟩⟩ := hC
    clear hA
    go_wp2_with fail
    clear c0 c1 f0 f1 a0 a1 a2 a3
    refine (l2Made_c (x1 * y2 + x2 * y1) (y1 * y2) HS1.out HS2.out (by omega) _).mono ?_
    rintro e w3 ⟨rfl, hb⟩
    have hA : Below w.heap.size w w3 := HA.out.trans (hb.mono (by omega))
    have hD : C2 w3 w.heap.size x1 y1 x2 y2 := HD.out.below hb (by omega)
    have hC : C0 w3 (w.heap.size + 1 + 1) := HC.out.below hb (by omega)
    replace hs := Nat.le_trans hs hb.size
    clear hb HA HC HD
    have HA := Lib.hid hA
    have HC := Lib.hid hC
    have HD := Lib.hid hD
    obtain ⟨⟨a0, a1⟩, ⟨a2, a3⟩⟩ := hD
    obtain ⟨⟨c0, c1⟩, ⟨f0, f1⟩⟩ := hC
    clear hA
    go_wp2_with fail
    exact bodyPost_ret (v := .tuple #[.agg #[.int .i64 (sel (lowB (x1 * y2 + x2 * y1) (y1 * y2)) (lowX (x1 * y2 + x2 * y1) (y1 * y2))), .int .i64 (sel (lowB (x1 * y2 + x2 * y1) (y1 * y2)) (lowY (x1 * y2 + x2 * y1) (y1 * y2)))], .bool (lowB (x1 * y2 + x2 * y1) (y1 * y2))]) (by simp [results, Try.results14, go_sem, c0, c1]) rfl ⟨HE.out, (by repeat (first | exact HA.out | exact Below.refl _ _ | (refine Below.setCell ?_ (by first | exact Nat.le_refl _ | (simp <;> omega) | omega) _) | (refine Below.alloc ?_ (by first | exact Nat.le_refl _ | (simp <;> omega) | omega) _) | (refine below_drewN ?_ _) | (refine Below.drew ?_)))⟩
set_option maxHeartbeats 4000000 in
theorem impl_Times_c (x1 y1 x2 y2 : Int) (w : World) : Calls Try.prog 19 #[.agg #[.int .i64 x1, .int .i64 y1], .agg #[.int .i64 x2, .int .i64 y2]] w fun e w' => e = .returned (.tuple #[.agg #[.int .i64 (sel (timesB x1 y1 x2 y2) (lowX (x1 * x2) (y1 * y2))), .int .i64 (sel (timesB x1 y1 x2 y2) (lowY (x1 * x2) (y1 * y2)))], .bool (timesB x1 y1 x2 y2)]) ∧ Below w.heap.size w w' := by
  rcases h1 : fracB x1 y1 with _ | _
  · have hE : Ending.returned (.tuple #[.agg #[.int .i64 (0), .int .i64 (0)], .bool (false)]) = Ending.returned (.tuple #[.agg #[.int .i64 (sel (timesB x1 y1 x2 y2) (lowX (x1 * x2) (y1 * y2))), .int .i64 (sel (timesB x1 y1 x2 y2) (lowY (x1 * x2) (y1 * y2)))], .bool (timesB x1 y1 x2 y2)]) := by simp [timesB, sel, h1]
    have HE := Lib.hid hE
    clear hE
    go_enter Try.func19, Try.ntmps19
    go_wp2_with fail
    refine (isFraction_c _ _ _).mono ?_
    rintro e w1 ⟨rfl, hb⟩
    rw [h1]
    have hA : Below w.heap.size w w1 := Below.trans (by repeat (first | exact Below.refl _ _ | exact Below.refl _ _ | (refine Below.setCell ?_ (by first | exact Nat.le_refl _ | (simp <;> omega) | omega) _) | (refine Below.alloc ?_ (by first | exact Nat.le_refl _ | (simp <;> omega) | omega) _) | (refine below_drewN ?_ _) | (refine Below.drew ?_))) (hb.mono (by simp <;> omega))
    have hD : C2 w1 w.heap.size x1 y1 x2 y2 := C2.below ⟨⟨by go_simp, by go_simp⟩, ⟨by go_simp, by go_simp⟩⟩ hb (by simp <;> omega)
    have hC : C0 w1 (w.heap.size + 1 + 1) := C0.below ⟨⟨by go_simp, by go_simp⟩, ⟨by go_simp, by go_simp⟩⟩ hb (by simp <;> omega)
    have hs := hb.size
    simp at hs
    clear hb
    have HA := Lib.hid hA
    have HC := Lib.hid hC
    have HD := Lib.hid hD
    obtain ⟨⟨a0, a1⟩, ⟨a2, a3⟩⟩ := hD
    obtain ⟨⟨c0, c1⟩, ⟨f0, f1⟩⟩ := hC
    clear hA
    go_wp2_with fail
    exact bodyPost_ret (v := .tuple #[.agg #[.int .i64 (0), .int .i64 (0)], .bool (false)]) (by simp [results, Try.results19, go_sem, c0, c1]) rfl ⟨HE.out, (by repeat (first | exact HA.out | exact Below.refl _ _ | (refine Below.setCell ?_ (by first | exact Nat.le_refl _ | (simp <;> omega) | omega) _) | (refine Below.alloc ?_ (by first | exact Nat.le_refl _ | (simp <;> omega) | omega) _) | (refine below_drewN ?_ _) | (refine Below.drew ?_)))⟩
  rcases h2 : fracB x2 y2 with _ | _
  · have hE : Ending.returned (.tuple #[.agg #[.int .i64 (0), .int .i64 (0)], .bool (false)]) = Ending.returned (.tuple #[.agg #[.int .i64 (sel (timesB x1 y1 x2 y2) (lowX (x1 * x2) (y1 * y2))), .int .i64 (sel (timesB x1 y1 x2 y2) (lowY (x1 * x2) (y1 * y2)))], .bool (timesB x1 y1 x2 y2)]) := by simp [timesB, sel, h1, h2]
    have HE := Lib.hid hE
    clear hE
    go_enter Try.func19, Try.ntmps19
    go_wp2_with fail
    refine (isFraction_c _ _ _).mono ?_
    rintro e w1 ⟨rfl, hb⟩
    rw [h1]
    have hA : Below w.heap.size w w1 := Below.trans (by repeat (first | exact Below.refl _ _ | exact Below.refl _ _ | (refine Below.setCell ?_ (by first | exact Nat.le_refl _ | (simp <;> omega) | omega) _) | (refine Below.alloc ?_ (by first | exact Nat.le_refl _ | (simp <;> omega) | omega) _) | (refine below_drewN ?_ _) | (refine Below.drew ?_))) (hb.mono (by simp <;> omega))
    have hD : C2 w1 w.heap.size x1 y1 x2 y2 := C2.below ⟨⟨by go_simp, by go_simp⟩, ⟨by go_simp, by go_simp⟩⟩ hb (by simp <;> omega)
    have hC : C0 w1 (w.heap.size + 1 + 1) := C0.below ⟨⟨by go_simp, by go_simp⟩, ⟨by go_simp, by go_simp⟩⟩ hb (by simp <;> omega)
    have hs := hb.size
    simp at hs
    clear hb
    have HA := Lib.hid hA
    have HC := Lib.hid hC
    have HD := Lib.hid hD
    obtain ⟨⟨a0, a1⟩, ⟨a2, a3⟩⟩ := hD
    obtain ⟨⟨c0, c1⟩, ⟨f0, f1⟩⟩ := hC
    clear hA
    go_wp2_with fail
    clear c0 c1 f0 f1 a0 a1 a2 a3
    refine (isFraction_c _ _ _).mono ?_
    rintro e w2 ⟨rfl, hb⟩
    rw [h2]
    have hA : Below w.heap.size w w2 := HA.out.trans (hb.mono (by omega))
    have hD : C2 w2 w.heap.size x1 y1 x2 y2 := HD.out.below hb (by omega)
    have hC : C0 w2 (w.heap.size + 1 + 1) := HC.out.below hb (by omega)
    replace hs := Nat.le_trans hs hb.size
    clear hb HA HC HD
    have HA := Lib.hid hA
    have HC := Lib.hid hC
    have HD := Lib.hid hD
    obtain ⟨⟨a0, a1⟩, ⟨a2, a3⟩⟩ := hD
    obtain ⟨⟨c0, c1⟩, ⟨f0, f1⟩⟩ := hC
    clear hA
    go_wp2_with fail
    exact bodyPost_ret (v := .tuple #[.agg #[.int .i64 (0), .int .i64 (0)], .bool (false)]) (by simp [results, Try.results19, go_sem, c0, c1]) rfl ⟨HE.out, (by repeat (first | exact HA.out | exact Below.refl _ _ | (refine Below.setCell ?_ (by first | exact Nat.le_refl _ | (simp <;> omega) | omega) _) | (refine Below.alloc ?_ (by first | exact Nat.le_refl _ | (simp <;> omega) | omega) _) | (refine below_drewN ?_ _) | (refine Below.drew ?_)))⟩
  obtain ⟨⟨q1, q2⟩, ⟨q3, q4⟩, ⟨q5, q6⟩, ⟨q7, q8⟩, q9, q10⟩ := prods h1 h2
  · have hS1 : Small (x1 * x2) := by unfold Small; omega
    have hS2 : Small (y1 * y2) := by unfold Small; omega
    have hE : Ending.returned (.tuple #[.agg #[.int .i64 (sel (lowB (x1 * x2) (y1 * y2)) (lowX (x1 * x2) (y1 * y2))), .int .i64 (sel (lowB (x1 * x2) (y1 * y2)) (lowY (x1 * x2) (y1 * y2)))], .bool (lowB (x1 * x2) (y1 * y2))]) = Ending.returned (.tuple #[.agg #[.int .i64 (sel (timesB x1 y1 x2 y2) (lowX (x1 * x2) (y1 * y2))), .int .i64 (sel (timesB x1 y1 x2 y2) (lowY (x1 * x2) (y1 * y2)))], .bool (timesB x1 y1 x2 y2)]) := by simp [timesB, sel, h1, h2]
    have HE := Lib.hid hE
    clear hE
    have HS1 := Lib.hid hS1
    have HS2 := Lib.hid hS2
    clear hS1 hS2
    go_enter Try.func19, Try.ntmps19
    go_wp2_with fail
    refine (isFraction_c _ _ _).mono ?_
    rintro e w1 ⟨rfl, hb⟩
    rw [h1]
    have hA : Below w.heap.size w w1 := Below.trans (by repeat (first | exact Below.refl _ _ | exact Below.refl _ _ | (refine Below.setCell ?_ (by first | exact Nat.le_refl _ | (simp <;> omega) | omega) _) | (refine Below.alloc ?_ (by first | exact Nat.le_refl _ | (simp <;> omega) | omega) _) | (refine below_drewN ?_ _) | (refine Below.drew ?_))) (hb.mono (by simp <;> omega))
    have hD : C2 w1 w.heap.size x1 y1 x2 y2 := C2.below ⟨⟨by go_simp, by go_simp⟩, ⟨by go_simp, by go_simp⟩⟩ hb (by simp <;> omega)
    have hC : C0 w1 (w.heap.size + 1 + 1) := C0.below ⟨⟨by go_simp, by go_simp⟩, ⟨by go_simp, by go_simp⟩⟩ hb (by simp <;> omega)
    have hs := hb.size
    simp at hs
    clear hb
    have HA := Lib.hid hA
    have HC := Lib.hid hC
    have HD := Lib.hid hD
    obtain ⟨⟨a0, a1⟩, ⟨a2, a3⟩⟩ := hD
    obtain ⟨⟨c0, c1⟩, ⟨f0, f1⟩⟩ := hC
    clear hA
    go_wp2_with fail
    clear c0 c1 f0 f1 a0 a1 a2 a3
    refine (isFraction_c _ _ _).mono ?_
    rintro e w2 ⟨rfl, hb⟩
    rw [h2]
    have hA : Below w.heap.size w w2 := HA.out.trans (hb.mono (by omega))
    have hD : C2 w2 w.heap.size x1 y1 x2 y2 := HD.out.below hb (by omega)
    have hC : C0 w2 (w.heap.size + 1 + 1) := HC.out.below hb (by omega)
    replace hs := Nat.le_trans hs hb.size
    clear hb HA HC HD
    have HA := Lib.hid hA
    have HC := Lib.hid hC
    have HD := Lib.hid hD
    obtain ⟨⟨a0, a1⟩, ⟨a2, a3⟩⟩ := hD
    obtain ⟨⟨c0, c1⟩, ⟨f0, f1⟩⟩ := hC
    clear hA
    go_wp2_with fail
    clear c0 c1 f0 f1 a0 a1 a2 a3
    refine (lowest_c (x1 * x2) (y1 * y2) HS1.out HS2.out (by omega) _).mono ?_
    rintro e w3 ⟨rfl, hb⟩
    have hA : Below w.heap.size w w3 := HA.out.trans (hb.mono (by omega))
    have hD : C2 w3 w.heap.size x1 y1 x2 y2 := HD.out.below hb (by omega)
    have hC : C0 w3 (w.heap.size + 1 + 1) := HC.out.below hb (by omega)
    replace hs := Nat.le_trans hs hb.size
    clear hb HA HC HD
    have HA := Lib.hid hA
    have HC := Lib.hid hC
    have HD := Lib.hid hD
    obtain ⟨⟨a0, a1⟩, ⟨a2, a3⟩⟩ := hD
    obtain ⟨⟨c0, c1⟩, ⟨f0, f1⟩⟩ := hC
    clear hA
    go_wp2_with fail
    exact bodyPost_ret (v := .tuple #[.agg #[.int .i64 (sel (lowB (x1 * x2) (y1 * y2)) (lowX (x1 * x2) (y1 * y2))), .int .i64 (sel (lowB (x1 * x2) (y1 * y2)) (lowY (x1 * x2) (y1 * y2)))], .bool (lowB (x1 * x2) (y1 * y2))]) (by simp [results, Try.results19, go_sem, c0, c1]) rfl ⟨HE.out, (by repeat (first | exact HA.out | exact Below.refl _ _ | (refine Below.setCell ?_ (by first | exact Nat.le_refl _ | (simp <;> omega) | omega) _) | (refine Below.alloc ?_ (by first | exact Nat.le_refl _ | (simp <;> omega) | omega) _) | (refine below_drewN ?_ _) | (refine Below.drew ?_)))⟩
set_option maxHeartbeats 4000000 in
theorem spec_Times_c (x1 y1 x2 y2 : Int) (w : World) : Calls Try.prog 20 #[.agg #[.int .i64 x1, .int .i64 y1], .agg #[.int .i64 x2, .int .i64 y2]] w fun e w' => e = .returned (.tuple #[.agg #[.int .i64 (sel (timesB x1 y1 x2 y2) (lowX (x1 * x2) (y1 * y2))), .int .i64 (sel (timesB x1 y1 x2 y2) (lowY (x1 * x2) (y1 * y2)))], .bool (timesB x1 y1 x2 y2)]) ∧ Below w.heap.size w w' := by
  rcases h1 : fracB x1 y1 with _ | _
  · have hE : Ending.returned (.tuple #[.agg #[.int .i64 (0), .int .i64 (0)], .bool (false)]) = Ending.returned (.tuple #[.agg #[.int .i64 (sel (timesB x1 y1 x2 y2) (lowX (x1 * x2) (y1 * y2))), .int .i64 (sel (timesB x1 y1 x2 y2) (lowY (x1 * x2) (y1 * y2)))], .bool (timesB x1 y1 x2 y2)]) := by simp [timesB, sel, h1]
    have HE := Lib.hid hE
    clear hE
    have hB : (fracB x1 y1 && fracB x2 y2) = false := by simp [h1]
    go_enter Try.func20, Try.ntmps20
    go_wp2_with fail
    refine (l2Both_c _ _ _ _ _).mono ?_
    rintro e w2 ⟨rfl, hb⟩
    rw [hB]
    have hA : Below w.heap.size w w2 := Below.trans (by repeat (first | exact Below.refl _ _ | exact Below.refl _ _ | (refine Below.setCell ?_ (by first | exact Nat.le_refl _ | (simp <;> omega) | omega) _) | (refine Below.alloc ?_ (by first | exact Nat.le_refl _ | (simp <;> omega) | omega) _) | (refine below_drewN ?_ _) | (refine Below.drew ?_))) (hb.mono (by simp <;> omega))
    have hD : C2 w2 w.heap.size x1 y1 x2 y2 := C2.below ⟨⟨by go_simp, by go_simp⟩, ⟨by go_simp, by go_simp⟩⟩ hb (by simp <;> omega)
    have hC : C0 w2 (w.heap.size + 1 + 1) := C0.below ⟨⟨by go_simp, by go_simp⟩, ⟨by go_simp, by go_simp⟩⟩ hb (by simp <;> omega)
    have hs := hb.size
    simp at hs
    clear hb
    have HA := Lib.hid hA
    have HC := Lib.hid hC
    have HD := Lib.hid hD
    obtain ⟨⟨a0, a1⟩, ⟨a2, a3⟩⟩ := hD
    obtain ⟨⟨c0, c1⟩, ⟨f0, f1⟩⟩ := hC
    clear hA
    go_wp2_with fail
    exact bodyPost_ret (v := .tuple #[.agg #[.int .i64 (0), .int .i64 (0)], .bool (false)]) (by simp [results, Try.results20, go_sem, c0, c1]) rfl ⟨HE.out, (by repeat (first | exact HA.out | exact Below.refl _ _ | (refine Below.setCell ?_ (by first | exact Nat.le_refl _ | (simp <;> omega) | omega) _) | (refine Below.alloc ?_ (by first | exact Nat.le_refl _ | (simp <;> omega) | omega) _) | (refine below_drewN ?_ _) | (refine Below.drew ?_)))⟩
  rcases h2 : fracB x2 y2 with _ | _
  · have hE : Ending.returned (.tuple #[.agg #[.int .i64 (0), .int .i64 (0)], .bool (false)]) = Ending.returned (.tuple #[.agg #[.int .i64 (sel (timesB x1 y1 x2 y2) (lowX (x1 * x2) (y1 * y2))), .int .i64 (sel (timesB x1 y1 x2 y2) (lowY (x1 * x2) (y1 * y2)))], .bool (timesB x1 y1 x2 y2)]) := by simp [timesB, sel, h1, h2]
    have HE := Lib.hid hE
    clear hE
    have hB : (fracB x1 y1 && fracB x2 y2) = false := by simp [h1, h2]
    go_enter Try.func20, Try.ntmps20
    go_wp2_with fail
    refine (l2Both_c _ _ _ _ _).mono ?_
    rintro e w2 ⟨rfl, hb⟩
    rw [hB]
    have hA : Below w.heap.size w w2 := Below.trans (by repeat (first | exact Below.refl _ _ | exact Below.refl _ _ | (refine Below.setCell ?_ (by first | exact Nat.le_refl _ | (simp <;> omega) | omega) _) | (refine Below.alloc ?_ (by first | exact Nat.le_refl _ | (simp <;> omega) | omega) _) | (refine below_drewN ?_ _) | (refine Below.drew ?_))) (hb.mono (by simp <;> omega))
    have hD : C2 w2 w.heap.size x1 y1 x2 y2 := C2.below ⟨⟨by go_simp, by go_simp⟩, ⟨by go_simp, by go_simp⟩⟩ hb (by simp <;> omega)
    have hC : C0 w2 (w.heap.size + 1 + 1) := C0.below ⟨⟨by go_simp, by go_simp⟩, ⟨by go_simp, by go_simp⟩⟩ hb (by simp <;> omega)
    have hs := hb.size
    simp at hs
    clear hb
    have HA := Lib.hid hA
    have HC := Lib.hid hC
    have HD := Lib.hid hD
    obtain ⟨⟨a0, a1⟩, ⟨a2, a3⟩⟩ := hD
    obtain ⟨⟨c0, c1⟩, ⟨f0, f1⟩⟩ := hC
    clear hA
    go_wp2_with fail
    exact bodyPost_ret (v := .tuple #[.agg #[.int .i64 (0), .int .i64 (0)], .bool (false)]) (by simp [results, Try.results20, go_sem, c0, c1]) rfl ⟨HE.out, (by repeat (first | exact HA.out | exact Below.refl _ _ | (refine Below.setCell ?_ (by first | exact Nat.le_refl _ | (simp <;> omega) | omega) _) | (refine Below.alloc ?_ (by first | exact Nat.le_refl _ | (simp <;> omega) | omega) _) | (refine below_drewN ?_ _) | (refine Below.drew ?_)))⟩
  obtain ⟨⟨q1, q2⟩, ⟨q3, q4⟩, ⟨q5, q6⟩, ⟨q7, q8⟩, q9, q10⟩ := prods h1 h2
  · have hS1 : Small (x1 * x2) := by unfold Small; omega
    have hS2 : Small (y1 * y2) := by unfold Small; omega
    have hB : (fracB x1 y1 && fracB x2 y2) = true := by simp [h1, h2]
    have hE : Ending.returned (.tuple #[.agg #[.int .i64 (sel (lowB (x1 * x2) (y1 * y2)) (lowX (x1 * x2) (y1 * y2))), .int .i64 (sel (lowB (x1 * x2) (y1 * y2)) (lowY (x1 * x2) (y1 * y2)))], .bool (lowB (x1 * x2) (y1 * y2))]) = Ending.returned (.tuple #[.agg #[.int .i64 (sel (timesB x1 y1 x2 y2) (lowX (x1 * x2) (y1 * y2))), .int .i64 (sel (timesB x1 y1 x2 y2) (lowY (x1 * x2) (y1 * y2)))], .bool (timesB x1 y1 x2 y2)]) := by simp [timesB, sel, h1, h2]
    have HE := Lib.hid hE
    clear hE
    have HS1 := Lib.hid hS1
    have HS2 := Lib.hid hS2
    clear hS1 hS2
    go_enter Try.func20, Try.ntmps20
    go_wp2_with fail
    refine (l2Both_c _ _ _ _ _).mono ?_
    rintro e w2 ⟨rfl, hb⟩
    rw [hB]
    have hA : Below w.heap.size w w2 := Below.trans (by repeat (first | exact Below.refl _ _ | exact Below.refl _ _ | (refine Below.setCell ?_ (by first | exact Nat.le_refl _ | (simp <;> omega) | omega) _) | (refine Below.alloc ?_ (by first | exact Nat.le_refl _ | (simp <;> omega) | omega) _) | (refine below_drewN ?_ _) | (refine Below.drew ?_))) (hb.mono (by simp <;> omega))
    have hD : C2 w2 w.heap.size x1 y1 x2 y2 := C2.below ⟨⟨by go_simp, by go_simp⟩, ⟨by go_simp, by go_simp⟩⟩ hb (by simp <;> omega)
    have hC : C0 w2 (w.heap.size + 1 + 1) := C0.below ⟨⟨by go_simp, by go_simp⟩, ⟨by go_simp, by go_simp⟩⟩ hb (by simp <;> omega)
    have hs := hb.size
    simp at hs
    clear hb
    have HA := Lib.hid hA
    have HC := Lib.hid hC
    have HD := Lib.hid hD
    obtain ⟨⟨a0, a1⟩, ⟨a2, a3⟩⟩ := hD
    obtain ⟨⟨c0, c1⟩, ⟨f0, f1⟩⟩ := hC
    clear hA
    go_wp2_with fail
    clear c0 c1 f0 f1 a0 a1 a2 a3
    refine (l2Made_c (x1 * x2) (y1 * y2) HS1.out HS2.out (by omega) _).mono ?_
    rintro e w3 ⟨rfl, hb⟩
    have hA : Below w.heap.size w w3 := HA.out.trans (hb.mono (by omega))
    have hD : C2 w3 w.heap.size x1 y1 x2 y2 := HD.out.below hb (by omega)
    have hC : C0 w3 (w.heap.size + 1 + 1) := HC.out.below hb (by omega)
    replace hs := Nat.le_trans hs hb.size
    clear hb HA HC HD
    have HA := Lib.hid hA
    have HC := Lib.hid hC
    have HD := Lib.hid hD
    obtain ⟨⟨a0, a1⟩, ⟨a2, a3⟩⟩ := hD
    obtain ⟨⟨c0, c1⟩, ⟨f0, f1⟩⟩ := hC
    clear hA
    go_wp2_with fail
    exact bodyPost_ret (v := .tuple #[.agg #[.int .i64 (sel (lowB (x1 * x2) (y1 * y2)) (lowX (x1 * x2) (y1 * y2))), .int .i64 (sel (lowB (x1 * x2) (y1 * y2)) (lowY (x1 * x2) (y1 * y2)))], .bool (lowB (x1 * x2) (y1 * y2))]) (by simp [results, Try.results20, go_sem, c0, c1]) rfl ⟨HE.out, (by repeat (first | exact HA.out | exact Below.refl _ _ | (refine Below.setCell ?_ (by first | exact Nat.le_refl _ | (simp <;> omega) | omega) _) | (refine Below.alloc ?_ (by first | exact Nat.le_refl _ | (simp <;> omega) | omega) _) | (refine below_drewN ?_ _) | (refine Below.drew ?_)))⟩
set_option maxHeartbeats 4000000 in
theorem impl_Over_c (x1 y1 x2 y2 : Int) (w : World) : Calls Try.prog 21 #[.agg #[.int .i64 x1, .int .i64 y1], .agg #[.int .i64 x2, .int .i64 y2]] w fun e w' => e = .returned (.tuple #[.agg #[.int .i64 (sel (overB x1 y1 x2 y2) (lowX (x1 * y2) (y1 * x2))), .int .i64 (sel (overB x1 y1 x2 y2) (lowY (x1 * y2) (y1 * x2)))], .bool (overB x1 y1 x2 y2)]) ∧ Below w.heap.size w w' := by
  rcases h1 : fracB x1 y1 with _ | _
  · have hE : Ending.returned (.tuple #[.agg #[.int .i64 (0), .int .i64 (0)], .bool (false)]) = Ending.returned (.tuple #[.agg #[.int .i64 (sel (overB x1 y1 x2 y2) (lowX (x1 * y2) (y1 * x2))), .int .i64 (sel (overB x1 y1 x2 y2) (lowY (x1 * y2) (y1 * x2)))], .bool (overB x1 y1 x2 y2)]) := by simp [overB, sel, h1]
    have HE := Lib.hid hE
    clear hE
    go_enter Try.func21, Try.ntmps21
    go_wp2_with fail
    refine (isFraction_c _ _ _).mono ?_
    rintro e w1 ⟨rfl, hb⟩
    rw [h1]
    have hA : Below w.heap.size w w1 := Below.trans (by repeat (first | exact Below.refl _ _ | exact Below.refl _ _ | (refine Below.setCell ?_ (by first | exact Nat.le_refl _ | (simp <;> omega) | omega) _) | (refine Below.alloc ?_ (by first | exact Nat.le_refl _ | (simp <;> omega) | omega) _) | (refine below_drewN ?_ _) | (refine Below.drew ?_))) (hb.mono (by simp <;> omega))
    have hD : C2 w1 w.heap.size x1 y1 x2 y2 := C2.below ⟨⟨by go_simp, by go_simp⟩, ⟨by go_simp, by go_simp⟩⟩ hb (by simp <;> omega)
    have hC : C0 w1 (w.heap.size + 1 + 1) := C0.below ⟨⟨by go_simp, by go_simp⟩, ⟨by go_simp, by go_simp⟩⟩ hb (by simp <;> omega)
    have hs := hb.size
    simp at hs
    clear hb
    have HA := Lib.hid hA
    have HC := Lib.hid hC
    have HD := Lib.hid hD
    obtain ⟨⟨a0, a1⟩, ⟨a2, a3⟩⟩ := hD
    obtain ⟨⟨c0, c1⟩, ⟨f0, f1⟩⟩ := hC
    clear hA
    go_wp2_with fail
    exact bodyPost_ret (v := .tuple #[.agg #[.int .i64 (0), .int .i64 (0)], .bool (false)]) (by simp [results, Try.results21, go_sem, c0, c1]) rfl ⟨HE.out, (by repeat (first | exact HA.out | exact Below.refl _ _ | (refine Below.setCell ?_ (by first | exact Nat.le_refl _ | (simp <;> omega) | omega) _) | (refine Below.alloc ?_ (by first | exact Nat.le_refl _ | (simp <;> omega) | omega) _) | (refine below_drewN ?_ _) | (refine Below.drew ?_)))⟩
  rcases h2 : fracB x2 y2 with _ | _
  · have hE : Ending.returned (.tuple #[.agg #[.int .i64 (0), .int .i64 (0)], .bool (false)]) = Ending.returned (.tuple #[.agg #[.int .i64 (sel (overB x1 y1 x2 y2) (lowX (x1 * y2) (y1 * x2))), .int .i64 (sel (overB x1 y1 x2 y2) (lowY (x1 * y2) (y1 * x2)))], .bool (overB x1 y1 x2 y2)]) := by simp [overB, sel, h1, h2]
    have HE := Lib.hid hE
    clear hE
    go_enter Try.func21, Try.ntmps21
    go_wp2_with fail
    refine (isFraction_c _ _ _).mono ?_
    rintro e w1 ⟨rfl, hb⟩
    rw [h1]
    have hA : Below w.heap.size w w1 := Below.trans (by repeat (first | exact Below.refl _ _ | exact Below.refl _ _ | (refine Below.setCell ?_ (by first | exact Nat.le_refl _ | (simp <;> omega) | omega) _) | (refine Below.alloc ?_ (by first | exact Nat.le_refl _ | (simp <;> omega) | omega) _) | (refine below_drewN ?_ _) | (refine Below.drew ?_))) (hb.mono (by simp <;> omega))
    have hD : C2 w1 w.heap.size x1 y1 x2 y2 := C2.below ⟨⟨by go_simp, by go_simp⟩, ⟨by go_simp, by go_simp⟩⟩ hb (by simp <;> omega)
    have hC : C0 w1 (w.heap.size + 1 + 1) := C0.below ⟨⟨by go_simp, by go_simp⟩, ⟨by go_simp, by go_simp⟩⟩ hb (by simp <;> omega)
    have hs := hb.size
    simp at hs
    clear hb
    have HA := Lib.hid hA
    have HC := Lib.hid hC
    have HD := Lib.hid hD
    obtain ⟨⟨a0, a1⟩, ⟨a2, a3⟩⟩ := hD
    obtain ⟨⟨c0, c1⟩, ⟨f0, f1⟩⟩ := hC
    clear hA
    go_wp2_with fail
    clear c0 c1 f0 f1 a0 a1 a2 a3
    refine (isFraction_c _ _ _).mono ?_
    rintro e w2 ⟨rfl, hb⟩
    rw [h2]
    have hA : Below w.heap.size w w2 := HA.out.trans (hb.mono (by omega))
    have hD : C2 w2 w.heap.size x1 y1 x2 y2 := HD.out.below hb (by omega)
    have hC : C0 w2 (w.heap.size + 1 + 1) := HC.out.below hb (by omega)
    replace hs := Nat.le_trans hs hb.size
    clear hb HA HC HD
    have HA := Lib.hid hA
    have HC := Lib.hid hC
    have HD := Lib.hid hD
    obtain ⟨⟨a0, a1⟩, ⟨a2, a3⟩⟩ := hD
    obtain ⟨⟨c0, c1⟩, ⟨f0, f1⟩⟩ := hC
    clear hA
    go_wp2_with fail
    exact bodyPost_ret (v := .tuple #[.agg #[.int .i64 (0), .int .i64 (0)], .bool (false)]) (by simp [results, Try.results21, go_sem, c0, c1]) rfl ⟨HE.out, (by repeat (first | exact HA.out | exact Below.refl _ _ | (refine Below.setCell ?_ (by first | exact Nat.le_refl _ | (simp <;> omega) | omega) _) | (refine Below.alloc ?_ (by first | exact Nat.le_refl _ | (simp <;> omega) | omega) _) | (refine below_drewN ?_ _) | (refine Below.drew ?_)))⟩
  obtain ⟨⟨q1, q2⟩, ⟨q3, q4⟩, ⟨q5, q6⟩, ⟨q7, q8⟩, q9, q10⟩ := prods h1 h2
  obtain ⟨_, ⟨y1p, _⟩, _⟩ := fracB_iff.1 h1
  rcases h3 : (x2 == 0) with _ | _
  · have hne : y1 * x2 ≠ 0 := Int.mul_ne_zero (by omega) (by simpa using h3)
    have HN := Lib.hid hne
    clear hne
    have hS1 : Small (x1 * y2) := by unfold Small; omega
    have hS2 : Small (y1 * x2) := by unfold Small; omega
    have hE : Ending.returned (.tuple #[.agg #[.int .i64 (sel (lowB (x1 * y2) (y1 * x2)) (lowX (x1 * y2) (y1 * x2))), .int .i64 (sel (lowB (x1 * y2) (y1 * x2)) (lowY (x1 * y2) (y1 * x2)))], .bool (lowB (x1 * y2) (y1 * x2))]) = Ending.returned (.tuple #[.agg #[.int .i64 (sel (overB x1 y1 x2 y2) (lowX (x1 * y2) (y1 * x2))), .int .i64 (sel (overB x1 y1 x2 y2) (lowY (x1 * y2) (y1 * x2)))], .bool (overB x1 y1 x2 y2)]) := by simp [overB, sel, h1, h2, h3]
    have HE := Lib.hid hE
    clear hE
    have HS1 := Lib.hid hS1
    have HS2 := Lib.hid hS2
    clear hS1 hS2
    go_enter Try.func21, Try.ntmps21
    go_wp2_with fail
    refine (isFraction_c _ _ _).mono ?_
    rintro e w1 ⟨rfl, hb⟩
    rw [h1]
    have hA : Below w.heap.size w w1 := Below.trans (by repeat (first | exact Below.refl _ _ | exact Below.refl _ _ | (refine Below.setCell ?_ (by first | exact Nat.le_refl _ | (simp <;> omega) | omega) _) | (refine Below.alloc ?_ (by first | exact Nat.le_refl _ | (simp <;> omega) | omega) _) | (refine below_drewN ?_ _) | (refine Below.drew ?_))) (hb.mono (by simp <;> omega))
    have hD : C2 w1 w.heap.size x1 y1 x2 y2 := C2.below ⟨⟨by go_simp, by go_simp⟩, ⟨by go_simp, by go_simp⟩⟩ hb (by simp <;> omega)
    have hC : C0 w1 (w.heap.size + 1 + 1) := C0.below ⟨⟨by go_simp, by go_simp⟩, ⟨by go_simp, by go_simp⟩⟩ hb (by simp <;> omega)
    have hs := hb.size
    simp at hs
    clear hb
    have HA := Lib.hid hA
    have HC := Lib.hid hC
    have HD := Lib.hid hD
    obtain ⟨⟨a0, a1⟩, ⟨a2, a3⟩⟩ := hD
    obtain ⟨⟨c0, c1⟩, ⟨f0, f1⟩⟩ := hC
    clear hA
    go_wp2_with fail
    clear c0 c1 f0 f1 a0 a1 a2 a3
    refine (isFraction_c _ _ _).mono ?_
    rintro e w2 ⟨rfl, hb⟩
    rw [h2]
    have hA : Below w.heap.size w w2 := HA.out.trans (hb.mono (by omega))
    have hD : C2 w2 w.heap.size x1 y1 x2 y2 := HD.out.below hb (by omega)
    have hC : C0 w2 (w.heap.size + 1 + 1) := HC.out.below hb (by omega)
    replace hs := Nat.le_trans hs hb.size
    clear hb HA HC HD
    have HA := Lib.hid hA
    have HC := Lib.hid hC
    have HD := Lib.hid hD
    obtain ⟨⟨a0, a1⟩, ⟨a2, a3⟩⟩ := hD
    obtain ⟨⟨c0, c1⟩, ⟨f0, f1⟩⟩ := hC
    clear hA
    go_wp2_with fail
    clear c0 c1 f0 f1 a0 a1 a2 a3
    refine (lowest_c (x1 * y2) (y1 * x2) HS1.out HS2.out HN.out _).mono ?_
    rintro e w3 ⟨rfl, hb⟩
    have hA : Below w.heap.size w w3 := HA.out.trans (hb.mono (by omega))
    have hD : C2 w3 w.heap.size x1 y1 x2 y2 := HD.out.below hb (by omega)
    have hC : C0 w3 (w.heap.size + 1 + 1) := HC.out.below hb (by omega)
    replace hs := Nat.le_trans hs hb.size
    clear hb HA HC HD
    have HA := Lib.hid hA
    have HC := Lib.hid hC
    have HD := Lib.hid hD
    obtain ⟨⟨a0, a1⟩, ⟨a2, a3⟩⟩ := hD
    obtain ⟨⟨c0, c1⟩, ⟨f0, f1⟩⟩ := hC
    clear hA
    go_wp2_with fail
    exact bodyPost_ret (v := .tuple #[.agg #[.int .i64 (sel (lowB (x1 * y2) (y1 * x2)) (lowX (x1 * y2) (y1 * x2))), .int .i64 (sel (lowB (x1 * y2) (y1 * x2)) (lowY (x1 * y2) (y1 * x2)))], .bool (lowB (x1 * y2) (y1 * x2))]) (by simp [results, Try.results21, go_sem, c0, c1]) rfl ⟨HE.out, (by repeat (first | exact HA.out | exact Below.refl _ _ | (refine Below.setCell ?_ (by first | exact Nat.le_refl _ | (simp <;> omega) | omega) _) | (refine Below.alloc ?_ (by first | exact Nat.le_refl _ | (simp <;> omega) | omega) _) | (refine below_drewN ?_ _) | (refine Below.drew ?_)))⟩
  · have hE : Ending.returned (.tuple #[.agg #[.int .i64 (0), .int .i64 (0)], .bool (false)]) = Ending.returned (.tuple #[.agg #[.int .i64 (sel (overB x1 y1 x2 y2) (lowX (x1 * y2) (y1 * x2))), .int .i64 (sel (overB x1 y1 x2 y2) (lowY (x1 * y2) (y1 * x2)))], .bool (overB x1 y1 x2 y2)]) := by simp [overB, sel, h1, h2, h3]
    have HE := Lib.hid hE
    clear hE
    go_enter Try.func21, Try.ntmps21
    go_wp2_with fail
    refine (isFraction_c _ _ _).mono ?_
    rintro e w1 ⟨rfl, hb⟩
    rw [h1]
    have hA : Below w.heap.size w w1 := Below.trans (by repeat (first | exact Below.refl _ _ | exact Below.refl _ _ | (refine Below.setCell ?_ (by first | exact Nat.le_refl _ | (simp <;> omega) | omega) _) | (refine Below.alloc ?_ (by first | exact Nat.le_refl _ | (simp <;> omega) | omega) _) | (refine below_drewN ?_ _) | (refine Below.drew ?_))) (hb.mono (by simp <;> omega))
    have hD : C2 w1 w.heap.size x1 y1 x2 y2 := C2.below ⟨⟨by go_simp, by go_simp⟩, ⟨by go_simp, by go_simp⟩⟩ hb (by simp <;> omega)
    have hC : C0 w1 (w.heap.size + 1 + 1) := C0.below ⟨⟨by go_simp, by go_simp⟩, ⟨by go_simp, by go_simp⟩⟩ hb (by simp <;> omega)
    have hs := hb.size
    simp at hs
    clear hb
    have HA := Lib.hid hA
    have HC := Lib.hid hC
    have HD := Lib.hid hD
    obtain ⟨⟨a0, a1⟩, ⟨a2, a3⟩⟩ := hD
    obtain ⟨⟨c0, c1⟩, ⟨f0, f1⟩⟩ := hC
    clear hA
    go_wp2_with fail
    clear c0 c1 f0 f1 a0 a1 a2 a3
    refine (isFraction_c _ _ _).mono ?_
    rintro e w2 ⟨rfl, hb⟩
    rw [h2]
    have hA : Below w.heap.size w w2 := HA.out.trans (hb.mono (by omega))
    have hD : C2 w2 w.heap.size x1 y1 x2 y2 := HD.out.below hb (by omega)
    have hC : C0 w2 (w.heap.size + 1 + 1) := HC.out.below hb (by omega)
    replace hs := Nat.le_trans hs hb.size
    clear hb HA HC HD
    have HA := Lib.hid hA
    have HC := Lib.hid hC
    have HD := Lib.hid hD
    obtain ⟨⟨a0, a1⟩, ⟨a2, a3⟩⟩ := hD
    obtain ⟨⟨c0, c1⟩, ⟨f0, f1⟩⟩ := hC
    clear hA
    go_wp2_with fail
    exact bodyPost_ret (v := .tuple #[.agg #[.int .i64 (0), .int .i64 (0)], .bool (false)]) (by simp [results, Try.results21, go_sem, c0, c1]) rfl ⟨HE.out, (by repeat (first | exact HA.out | exact Below.refl _ _ | (refine Below.setCell ?_ (by first | exact Nat.le_refl _ | (simp <;> omega) | omega) _) | (refine Below.alloc ?_ (by first | exact Nat.le_refl _ | (simp <;> omega) | omega) _) | (refine below_drewN ?_ _) | (refine Below.drew ?_)))⟩
set_option maxHeartbeats 2000000 in
theorem impl_Minus_c (x1 y1 : Int) (w : World) : Calls Try.prog 16 #[.agg #[.int .i64 x1, .int .i64 y1]] w fun e w' => e = .returned (.tuple #[.agg #[.int .i64 (sel (fracB x1 y1) (-x1)), .int .i64 (sel (fracB x1 y1) y1)], .bool (fracB x1 y1)]) ∧ Below w.heap.size w w' := by
  rcases h1 : fracB x1 y1 with _ | _
  all_goals
    have hx : fracB x1 y1 = true → -1000000000 ≤ x1 ∧ x1 ≤ 1000000000 := fun h => (fracB_iff.1 h).1
    have HX := Lib.hid hx
    clear hx
    go_enter Try.func16, Try.ntmps16
    go_wp2_with fail
    refine (isFraction_c _ _ _).mono ?_
    rintro e w1 ⟨rfl, hb⟩
    rw [h1]
    have hA : Below w.heap.size w w1 := Below.trans (by repeat (first | exact Below.refl _ _ | exact Below.refl _ _ | (refine Below.setCell ?_ (by first | exact Nat.le_refl _ | (simp <;> omega) | omega) _) | (refine Below.alloc ?_ (by first | exact Nat.le_refl _ | (simp <;> omega) | omega) _) | (refine below_drewN ?_ _) | (refine Below.drew ?_))) (hb.mono (by simp <;> omega))
    have a0 : w1.cell? ⟨w.heap.size, 0, none⟩ = some (.int .i64 x1) := (hb.cell (by simp <;> omega)).trans (by go_simp)
    have a1 : w1.cell? ⟨w.heap.size, 1, none⟩ = some (.int .i64 y1) := (hb.cell (by simp <;> omega)).trans (by go_simp)
    have hC : C0 w1 (w.heap.size + 1) := C0.below ⟨⟨by go_simp, by go_simp⟩, ⟨by go_simp, by go_simp⟩⟩ hb (by simp <;> omega)
    obtain ⟨⟨c0, c1⟩, ⟨f0, f1⟩⟩ := hC
    have hs := hb.size
    simp at hs
    have HA := Lib.hid hA
    clear hb hA
  · go_wp2_with fail
    exact bodyPost_ret (v := .tuple #[.agg #[.int .i64 0, .int .i64 0], .bool false]) (by simp [results, Try.results16, go_sem, c0, c1]) rfl ⟨rfl, (by repeat (first | exact HA.out | exact Below.refl _ _ | (refine Below.setCell ?_ (by first | exact Nat.le_refl _ | (simp <;> omega) | omega) _) | (refine Below.alloc ?_ (by first | exact Nat.le_refl _ | (simp <;> omega) | omega) _) | (refine below_drewN ?_ _) | (refine Below.drew ?_)))⟩
  · obtain ⟨hx1, hx2⟩ := HX.out h1
    go_wp2_with fail
    exact bodyPost_ret (v := .tuple #[.agg #[.int .i64 (-x1), .int .i64 y1], .bool true]) (by simp [results, Try.results16, go_sem, c0, c1]) rfl ⟨rfl, (by repeat (first | exact HA.out | exact Below.refl _ _ | (refine Below.setCell ?_ (by first | exact Nat.le_refl _ | (simp <;> omega) | omega) _) | (refine Below.alloc ?_ (by first | exact Nat.le_refl _ | (simp <;> omega) | omega) _) | (refine below_drewN ?_ _) | (refine Below.drew ?_)))⟩
set_option maxHeartbeats 2000000 in
theorem impl_Less_c (x1 y1 x2 y2 : Int) (w : World) : Calls Try.prog 17 #[.agg #[.int .i64 x1, .int .i64 y1], .agg #[.int .i64 x2, .int .i64 y2]] w fun e w' => e = .returned (.bool (lessB x1 y1 x2 y2)) ∧ Below w.heap.size w w' := by
  rcases h1 : fracB x1 y1 with _ | _
  · go_enter Try.func17, Try.ntmps17
    go_wp2_with fail
    refine (isFraction_c _ _ _).mono ?_
    rintro e w1 ⟨rfl, hb⟩
    rw [h1]
    have hA : Below w.heap.size w w1 := Below.trans (by repeat (first | exact Below.refl _ _ | exact Below.refl _ _ | (refine Below.setCell ?_ (by first | exact Nat.le_refl _ | (simp <;> omega) | omega) _) | (refine Below.alloc ?_ (by first | exact Nat.le_refl _ | (simp <;> omega) | omega) _) | (refine below_drewN ?_ _) | (refine Below.drew ?_))) (hb.mono (by simp <;> omega))
    have hD : C2 w1 w.heap.size x1 y1 x2 y2 := C2.below ⟨⟨by go_simp, by go_simp⟩, ⟨by go_simp, by go_simp⟩⟩ hb (by simp <;> omega)
    have hs := hb.size
    simp at hs
    clear hb
    have HA := Lib.hid hA
    have HD := Lib.hid hD
    obtain ⟨⟨a0, a1⟩, ⟨a2, a3⟩⟩ := hD
    clear hA
    go_wp2_with fail
    go_ret
    exact ⟨ret_bool (by simp [lessB, h1]), HA.out⟩
  rcases h2 : fracB x2 y2 with _ | _
  · go_enter Try.func17, Try.ntmps17
    go_wp2_with fail
    refine (isFraction_c _ _ _).mono ?_
    rintro e w1 ⟨rfl, hb⟩
    rw [h1]
    have hA : Below w.heap.size w w1 := Below.trans (by repeat (first | exact Below.refl _ _ | exact Below.refl _ _ | (refine Below.setCell ?_ (by first | exact Nat.le_refl _ | (simp <;> omega) | omega) _) | (refine Below.alloc ?_ (by first | exact Nat.le_refl _ | (simp <;> omega) | omega) _) | (refine below_drewN ?_ _) | (refine Below.drew ?_))) (hb.mono (by simp <;> omega))
    have hD : C2 w1 w.heap.size x1 y1 x2 y2 := C2.below ⟨⟨by go_simp, by go_simp⟩, ⟨by go_simp, by go_simp⟩⟩ hb (by simp <;> omega)
    have hs := hb.size
    simp at hs
    clear hb
    have HA := Lib.hid hA
    have HD := Lib.hid hD
    obtain ⟨⟨a0, a1⟩, ⟨a2, a3⟩⟩ := hD
    clear hA
    go_wp2_with fail
    clear a0 a1 a2 a3
    refine (isFraction_c _ _ _).mono ?_
    rintro e w2 ⟨rfl, hb⟩
    rw [h2]
    have hA : Below w.heap.size w w2 := HA.out.trans (hb.mono (by omega))
    have hD : C2 w2 w.heap.size x1 y1 x2 y2 := HD.out.below hb (by omega)
    replace hs := Nat.le_trans hs hb.size
    clear hb HA HD
    have HA := Lib.hid hA
    have HD := Lib.hid hD
    obtain ⟨⟨a0, a1⟩, ⟨a2, a3⟩⟩ := hD
    clear hA
    go_wp2_with fail
    go_ret
    exact ⟨ret_bool (by simp [lessB, h1, h2]), HA.out⟩
  obtain ⟨⟨q1, q2⟩, ⟨q3, q4⟩, ⟨q5, q6⟩, ⟨q7, q8⟩, q9, q10⟩ := prods h1 h2
  · go_enter Try.func17, Try.ntmps17
    go_wp2_with fail
    refine (isFraction_c _ _ _).mono ?_
    rintro e w1 ⟨rfl, hb⟩
    rw [h1]
    have hA : Below w.heap.size w w1 := Below.trans (by repeat (first | exact Below.refl _ _ | exact Below.refl _ _ | (refine Below.setCell ?_ (by first | exact Nat.le_refl _ | (simp <;> omega) | omega) _) | (refine Below.alloc ?_ (by first | exact Nat.le_refl _ | (simp <;> omega) | omega) _) | (refine below_drewN ?_ _) | (refine Below.drew ?_))) (hb.mono (by simp <;> omega))
    have hD : C2 w1 w.heap.size x1 y1 x2 y2 := C2.below ⟨⟨by go_simp, by go_simp⟩, ⟨by go_simp, by go_simp⟩⟩ hb (by simp <;> omega)
    have hs := hb.size
    simp at hs
    clear hb
    have HA := Lib.hid hA
    have HD := Lib.hid hD
    obtain ⟨⟨a0, a1⟩, ⟨a2, a3⟩⟩ := hD
    clear hA
    go_wp2_with fail
    clear a0 a1 a2 a3
    refine (isFraction_c _ _ _).mono ?_
    rintro e w2 ⟨rfl, hb⟩
    rw [h2]
    have hA : Below w.heap.size w w2 := HA.out.trans (hb.mono (by omega))
    have hD : C2 w2 w.heap.size x1 y1 x2 y2 := HD.out.below hb (by omega)
    replace hs := Nat.le_trans hs hb.size
    clear hb HA HD
    have HA := Lib.hid hA
    have HD := Lib.hid hD
    obtain ⟨⟨a0, a1⟩, ⟨a2, a3⟩⟩ := hD
    clear hA
    go_wp2_with fail
    go_ret
    exact ⟨ret_bool (by simp [lessB, h1, h2]), HA.out⟩
end Go.Proofs.Ytihbfhjfceabnaa
