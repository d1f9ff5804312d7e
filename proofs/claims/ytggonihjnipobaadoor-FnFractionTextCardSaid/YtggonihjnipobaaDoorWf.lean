/- Contracts of chapter 2: sums, products, quotients, the other sign, order, made and compared, the program's and the reference's. Conditions: as stated. -/
import Derived.Test.YtggonihjnipobaaDoorWe
namespace Go.Proofs.YtggonihjnipobaaDoor
open Go.RowKit

theorem bcell {W w1 : World} (hb : Below W.heap.size W w1) : (∀ b o, b < W.heap.size → w1.cell? ⟨b, o, none⟩ = W.cell? ⟨b, o, none⟩) ∧ (∀ b o, b < W.heap.size → w1.frozen? ⟨b, o, none⟩ = W.frozen? ⟨b, o, none⟩) :=
  ⟨fun b o h => hb.cell (p := ⟨b, o, none⟩) h, fun b o h => hb.frozen (p := ⟨b, o, none⟩) h⟩
theorem lt_of_alloc {W w1 : World} {o : Obj} (hb : Below (W.alloc o).heap.size (W.alloc o) w1) : W.heap.size < w1.heap.size := by
  have := hb.size
  simp at this
  omega
theorem lt_step {W w1 : World} (hb : Below W.heap.size W w1) : ∀ g, g < W.heap.size → g < w1.heap.size := fun _ h => Nat.lt_of_lt_of_le h hb.size
def addB (x1 y1 x2 y2 : Int) : Bool := fracB x1 y1 && (fracB x2 y2 && lowB (x1 * y2 + x2 * y1) (y1 * y2))
def timesB (x1 y1 x2 y2 : Int) : Bool := fracB x1 y1 && (fracB x2 y2 && lowB (x1 * x2) (y1 * y2))
def overB (x1 y1 x2 y2 : Int) : Bool := fracB x1 y1 && (fracB x2 y2 && (!(x2 == 0) && lowB (x1 * y2) (y1 * x2)))
def nalB (num den : Int) : Bool := partB num && (partB den && (!(den == 0) && lowB num den))
def lessB (x1 y1 x2 y2 : Int) : Bool := fracB x1 y1 && (fracB x2 y2 && decide (x1 * y2 < x2 * y1))
theorem prods {x1 y1 x2 y2 : Int} (h : fracB x1 y1 = true) (k : fracB x2 y2 = true) :
    (-1000000000000000000 ≤ x1 * y2 ∧ x1 * y2 ≤ 1000000000000000000) ∧ (-1000000000000000000 ≤ x2 * y1 ∧ x2 * y1 ≤ 1000000000000000000) ∧
    (-1000000000000000000 ≤ x1 * x2 ∧ x1 * x2 ≤ 1000000000000000000) ∧ (1 ≤ y1 * y2 ∧ y1 * y2 ≤ 1000000000000000000) ∧ (-1000000000000000000 ≤ y1 * x2 ∧ y1 * x2 ≤ 1000000000000000000) := by
  obtain ⟨⟨a1, a2⟩, ⟨a3, a4⟩, _⟩ := fracB_iff.1 h
  obtain ⟨⟨b1, b2⟩, ⟨b3, b4⟩, _⟩ := fracB_iff.1 k
  have p1 := prod_le (A := 1000000000) (B := 1000000000) a1 a2 (show -1000000000 ≤ y2 by omega) b4
  have p2 := prod_le (A := 1000000000) (B := 1000000000) b1 b2 (show -1000000000 ≤ y1 by omega) a4
  have p3 := prod_le (A := 1000000000) (B := 1000000000) a1 a2 b1 b2
  have p4 := prod_le (A := 1000000000) (B := 1000000000) (show -1000000000 ≤ y1 by omega) a4 (show -1000000000 ≤ y2 by omega) b4
  have p5 := prod_le (A := 1000000000) (B := 1000000000) (show -1000000000 ≤ y1 by omega) a4 b1 b2
  have p6 : 0 < y1 * y2 := Int.mul_pos (by omega) (by omega)
  refine ⟨by omega, by omega, by omega, by omega, by omega⟩

/-- Two fractions' own cells from block b on. -/
def C2 (W : World) (b : Nat) (x1 y1 x2 y2 : Int) : Prop :=
  (W.cell? ⟨b, 0, none⟩ = some (.int .i64 x1) ∧ W.cell? ⟨b, 1, none⟩ = some (.int .i64 y1)) ∧ (W.cell? ⟨b + 1, 0, none⟩ = some (.int .i64 x2) ∧ W.cell? ⟨b + 1, 1, none⟩ = some (.int .i64 y2))
theorem c2_of {W : World} {b : Nat} {x1 y1 x2 y2 : Int} (h : W.cell? ⟨b, 0, none⟩ = some (.int .i64 x1) ∧ W.cell? ⟨b, 1, none⟩ = some (.int .i64 y1) ∧ W.cell? ⟨b + 1, 0, none⟩ = some (.int .i64 x2) ∧ W.cell? ⟨b + 1, 1, none⟩ = some (.int .i64 y2)) : C2 W b x1 y1 x2 y2 :=
  ⟨⟨h.1, h.2.1⟩, ⟨h.2.2.1, h.2.2.2⟩⟩
/-- A result's cells. -/
def C0 (W : World) (b : Nat) : Prop :=
  (W.cell? ⟨b, 0, none⟩ = some (.int .i64 0) ∧ W.cell? ⟨b, 1, none⟩ = some (.int .i64 0)) ∧ (W.frozen? ⟨b, 0, none⟩ = false ∧ W.frozen? ⟨b, 1, none⟩ = false)
theorem C2.below {W W' : World} {b : Nat} {x1 y1 x2 y2 : Int} (h : C2 W b x1 y1 x2 y2) (hb : Below W.heap.size W W') (hlt : b + 1 < W.heap.size) : C2 W' b x1 y1 x2 y2 :=
  ⟨⟨(hb.cell (by show b < _; omega)).trans h.1.1, (hb.cell (by show b < _; omega)).trans h.1.2⟩, ⟨(hb.cell (by show b + 1 < _; omega)).trans h.2.1, (hb.cell (by show b + 1 < _; omega)).trans h.2.2⟩⟩
theorem C0.below {W W' : World} {b : Nat} (h : C0 W b) (hb : Below W.heap.size W W') (hlt : b < W.heap.size) : C0 W' b :=
  ⟨⟨(hb.cell (by show b < _; omega)).trans h.1.1, (hb.cell (by show b < _; omega)).trans h.1.2⟩, ⟨(hb.frozen (by show b < _; omega)).trans h.2.1, (hb.frozen (by show b < _; omega)).trans h.2.2⟩⟩
set_option maxHeartbeats 2000000 in
theorem impl_Fractional_c (num den : Int) (w : World) : Calls Tryd.prog 14 #[.int .i64 num, .int .i64 den] w fun e w' => e = .returned (.tuple #[.agg #[.int .i64 (sel (nalB num den) (lowX num den)), .int .i64 (sel (nalB num den) (lowY num den))], .bool (nalB num den)]) ∧ Below w.heap.size w w' := by
  rcases h1 : partB num with _ | _
  · have hE : Ending.returned (.tuple #[.agg #[.int .i64 (0), .int .i64 (0)], .bool (false)]) = Ending.returned (.tuple #[.agg #[.int .i64 (sel (nalB num den) (lowX (num) (den))), .int .i64 (sel (nalB num den) (lowY (num) (den)))], .bool (nalB num den)]) := by simp [nalB, sel, h1]
    have HE := Lib.hid hE
    clear hE
    go_enter Tryd.func14, Tryd.ntmps14
    go_wp2_with (go_at_call 29; refine (isPart_c _ _).mono ?_; rintro e w' ⟨rfl, rfl⟩)
    exact bodyPost_ret (v := .tuple #[.agg #[.int .i64 0, .int .i64 0], .bool false]) (by simp [results, Tryd.results14, go_sem]) rfl ⟨HE.out, (by repeat (first | exact Below.refl _ _ | exact Below.refl _ _ | (refine Below.setCell ?_ (by first | exact Nat.le_refl _ | (simp <;> omega) | omega) _) | (refine Below.alloc ?_ (by first | exact Nat.le_refl _ | (simp <;> omega) | omega) _) | (refine below_drewN ?_ _) | (refine Below.drew ?_)))⟩
  rcases h2 : partB den with _ | _
  · have hE : Ending.returned (.tuple #[.agg #[.int .i64 (0), .int .i64 (0)], .bool (false)]) = Ending.returned (.tuple #[.agg #[.int .i64 (sel (nalB num den) (lowX (num) (den))), .int .i64 (sel (nalB num den) (lowY (num) (den)))], .bool (nalB num den)]) := by simp [nalB, sel, h1, h2]
    have HE := Lib.hid hE
    clear hE
    go_enter Tryd.func14, Tryd.ntmps14
    go_wp2_with (go_at_call 29; refine (isPart_c _ _).mono ?_; rintro e w' ⟨rfl, rfl⟩)
    exact bodyPost_ret (v := .tuple #[.agg #[.int .i64 0, .int .i64 0], .bool false]) (by simp [results, Tryd.results14, go_sem]) rfl ⟨HE.out, (by repeat (first | exact Below.refl _ _ | exact Below.refl _ _ | (refine Below.setCell ?_ (by first | exact Nat.le_refl _ | (simp <;> omega) | omega) _) | (refine Below.alloc ?_ (by first | exact Nat.le_refl _ | (simp <;> omega) | omega) _) | (refine below_drewN ?_ _) | (refine Below.drew ?_)))⟩
  rcases h3 : (den == 0) with _ | _
  · have hne : den ≠ 0 := by simpa using h3
    have HN := Lib.hid hne
    have HS1 := Lib.hid (small_part h1)
    have HS2 := Lib.hid (small_part h2)
    clear hne
    have hE : Ending.returned (.tuple #[.agg #[.int .i64 (sel (lowB num den) (lowX num den)), .int .i64 (sel (lowB num den) (lowY num den))], .bool (lowB num den)]) = Ending.returned (.tuple #[.agg #[.int .i64 (sel (nalB num den) (lowX (num) (den))), .int .i64 (sel (nalB num den) (lowY (num) (den)))], .bool (nalB num den)]) := by simp [nalB, sel, h1, h2, h3]
    have HE := Lib.hid hE
    clear hE
    go_enter Tryd.func14, Tryd.ntmps14
    go_wp2_with (go_at_call 29; refine (isPart_c _ _).mono ?_; rintro e w' ⟨rfl, rfl⟩)
    refine (lowest_c num den HS1.out HS2.out HN.out _).mono ?_
    rintro e w1 ⟨rfl, hb⟩
    have hA : Below w.heap.size w w1 := Below.trans (by repeat (first | exact Below.refl _ _ | exact Below.refl _ _ | (refine Below.setCell ?_ (by first | exact Nat.le_refl _ | (simp <;> omega) | omega) _) | (refine Below.alloc ?_ (by first | exact Nat.le_refl _ | (simp <;> omega) | omega) _) | (refine below_drewN ?_ _) | (refine Below.drew ?_))) (hb.mono (by simp <;> omega))
    have hC : C0 w1 (w.heap.size) := C0.below ⟨⟨by go_simp, by go_simp⟩, ⟨by go_simp, by go_simp⟩⟩ hb (by simp <;> omega)
    have hs := hb.size
    simp at hs
    clear hb
    have HA := Lib.hid hA
    have HC := Lib.hid hC
    obtain ⟨⟨c0, c1⟩, ⟨f0, f1⟩⟩ := hC
    clear hA
    go_wp2_with fail
    exact bodyPost_ret (v := .tuple #[.agg #[.int .i64 (sel (lowB num den) (lowX num den)), .int .i64 (sel (lowB num den) (lowY num den))], .bool (lowB num den)]) (by simp [results, Tryd.results14, go_sem, c0, c1]) rfl ⟨HE.out, (by repeat (first | exact HA.out | exact Below.refl _ _ | (refine Below.setCell ?_ (by first | exact Nat.le_refl _ | (simp <;> omega) | omega) _) | (refine Below.alloc ?_ (by first | exact Nat.le_refl _ | (simp <;> omega) | omega) _) | (refine below_drewN ?_ _) | (refine Below.drew ?_)))⟩
  · have hE : Ending.returned (.tuple #[.agg #[.int .i64 (0), .int .i64 (0)], .bool (false)]) = Ending.returned (.tuple #[.agg #[.int .i64 (sel (nalB num den) (lowX (num) (den))), .int .i64 (sel (nalB num den) (lowY (num) (den)))], .bool (nalB num den)]) := by simp [nalB, sel, h1, h2, h3]
    have HE := Lib.hid hE
    clear hE
    go_enter Tryd.func14, Tryd.ntmps14
    go_wp2_with (go_at_call 29; refine (isPart_c _ _).mono ?_; rintro e w' ⟨rfl, rfl⟩)
    exact bodyPost_ret (v := .tuple #[.agg #[.int .i64 0, .int .i64 0], .bool false]) (by simp [results, Tryd.results14, go_sem]) rfl ⟨HE.out, (by repeat (first | exact Below.refl _ _ | exact Below.refl _ _ | (refine Below.setCell ?_ (by first | exact Nat.le_refl _ | (simp <;> omega) | omega) _) | (refine Below.alloc ?_ (by first | exact Nat.le_refl _ | (simp <;> omega) | omega) _) | (refine below_drewN ?_ _) | (refine Below.drew ?_)))⟩
set_option maxHeartbeats 1000000 in
theorem impl_FractionValid_c (x y : Int) (w : World) : Calls Tryd.prog 12 #[.agg #[.int .i64 x, .int .i64 y]] w fun e w' => e = .returned (.bool (fracB x y)) ∧ Below w.heap.size w w' := by
  go_enter Tryd.func12, Tryd.ntmps12
  go_wp2_with fail
  refine (isFraction_c _ _ _).mono ?_
  rintro e w1 ⟨rfl, hb⟩
  have hA : Below w.heap.size w w1 := Below.trans (by repeat (first | exact Below.refl _ _ | exact Below.refl _ _ | (refine Below.setCell ?_ (by first | exact Nat.le_refl _ | (simp <;> omega) | omega) _) | (refine Below.alloc ?_ (by first | exact Nat.le_refl _ | (simp <;> omega) | omega) _) | (refine below_drewN ?_ _) | (refine Below.drew ?_))) (hb.mono (by simp <;> omega))
  have HA := Lib.hid hA
  clear hb hA
  go_wp2_with fail
  go_ret
  exact ⟨rfl, HA.out⟩
set_option maxHeartbeats 1000000 in
theorem toFraction_c (x y : Int) (w : World) : Calls Tryd.prog 16 #[.agg #[.int .i64 x, .int .i64 y]] w fun e w' => e = .returned (.agg #[.int .i64 x, .int .i64 y]) ∧ Below w.heap.size w w' := by
  go_enter Tryd.func16, Tryd.ntmps16
  go_wp2
  exact bodyPost_ret (v := .agg #[.int .i64 x, .int .i64 y]) (by simp [results, Tryd.results16, go_sem]) rfl ⟨rfl, (by repeat (first | exact Below.refl _ _ | exact Below.refl _ _ | (refine Below.setCell ?_ (by first | exact Nat.le_refl _ | (simp <;> omega) | omega) _) | (refine Below.alloc ?_ (by first | exact Nat.le_refl _ | (simp <;> omega) | omega) _) | (refine below_drewN ?_ _) | (refine Below.drew ?_)))⟩
set_option maxHeartbeats 1000000 in
theorem eqFraction_c (x y : Int) (w : World) : Calls Tryd.prog 8 #[.agg #[.int .i64 x, .int .i64 y], .agg #[.int .i64 x, .int .i64 y]] w fun e w' => e = .returned (.bool true) ∧ Below w.heap.size w w' := by
  go_enter Tryd.func8, Tryd.ntmps8
  go_wp2
  go_ret
  exact ⟨rfl, (by repeat (first | exact Below.refl _ _ | exact Below.refl _ _ | (refine Below.setCell ?_ (by first | exact Nat.le_refl _ | (simp <;> omega) | omega) _) | (refine Below.alloc ?_ (by first | exact Nat.le_refl _ | (simp <;> omega) | omega) _) | (refine below_drewN ?_ _) | (refine Below.drew ?_)))⟩
end Go.Proofs.YtggonihjnipobaaDoor
