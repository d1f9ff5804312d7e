/- Contract of the draw of a quotient; what FnFractional asks. Conditions: as stated. -/
import Derived.Test.YtkgbnagbeoeijaaWr
import Derived.Test.YtkgbnagbeoeijaaWg
import Derived.Test.YtkgbnagbeoeijaaWh
namespace Go.Proofs.Ytkgbnagbeoeijaa
open Go.RowKit

theorem some_ne {a b o : Nat} (h : a ≠ b) : ∀ x y, some (⟨a, o, none⟩ : Addr) = some ⟨x, y, none⟩ → x ≠ b := by
  intro x y e
  injection e with e
  injection e with e1 e2
  omega
theorem sel_true (x : Int) : sel true x = x := rfl
theorem nal_facts {p q : Int} (h : nalB p q = true) : ∃ X Y, lowX p q = X ∧ lowY p q = Y ∧ fracB X Y = true ∧ X * q = p * Y ∧ (-1000000000 ≤ p ∧ p ≤ 1000000000) ∧ (-1000000000 ≤ q ∧ q ≤ 1000000000) ∧
    ((-1000000000 ≤ X ∧ X ≤ 1000000000) ∧ (1 ≤ Y ∧ Y ≤ 1000000000)) ∧
    (nalB (-p) (-q) = true ∧ lowX (-p) (-q) = X ∧ lowY (-p) (-q) = Y) ∧ (nalB (-p) q = true ∧ lowX (-p) q = -X ∧ lowY (-p) q = Y) ∧ divG [X, Y] = 1 := by
  simp only [nalB, Bool.and_eq_true, Bool.not_eq_true'] at h
  obtain ⟨hp, hq, h0, hl⟩ := h
  have hq0 : q ≠ 0 := by simpa using h0
  have hc := low_cross p q
  have hl2 : fracB (lowX p q) (lowY p q) = true := hl
  obtain ⟨⟨x1, x2⟩, ⟨y1, y2⟩, hg⟩ := fracB_iff.1 hl2
  have p1 : -1000000000 ≤ p ∧ p ≤ 1000000000 := by simpa [partB] using hp
  have q1 : -1000000000 ≤ q ∧ q ≤ 1000000000 := by simpa [partB] using hq
  refine ⟨lowX p q, lowY p q, rfl, rfl, hl2, hc, p1, q1, ⟨⟨x1, x2⟩, ⟨y1, y2⟩⟩, ?_, ?_, ?_⟩
  · obtain ⟨e1, e2, e3⟩ := lowB_of (a := -p) (b := -q) (x := lowX p q) (y := lowY p q) (by omega) hl2 (by rw [Int.mul_neg, hc, Int.neg_mul])
    refine ⟨?_, e1, e2⟩
    simp only [nalB, Bool.and_eq_true, Bool.not_eq_true', e3, and_true]
    refine ⟨by simp [partB]; omega, by simp [partB]; omega, by simpa using hq0⟩
  · have hf : fracB (-(lowX p q)) (lowY p q) = true := fracB_iff.2 ⟨by omega, by omega, by rw [Int.neg_gcd]; exact hg⟩
    obtain ⟨e1, e2, e3⟩ := lowB_of (a := -p) (b := q) (x := -(lowX p q)) (y := lowY p q) hq0 hf (by rw [Int.neg_mul, hc, Int.neg_mul])
    refine ⟨?_, e1, e2⟩
    simp only [nalB, Bool.and_eq_true, Bool.not_eq_true', e3, and_true]
    refine ⟨by simp [partB]; omega, hq, by simpa using hq0⟩
  · have := (divG_yes (zs := [lowX p q, lowY p q]) (by
      intro j hj
      match j with
      | 0 => simp [partB]; omega
      | 1 => simp [partB]; omega
      | k + 2 => exact absurd hj (by simp))).1
    rw [this, gcdL_two, hg]
    rfl
set_option maxHeartbeats 2000000 in
theorem DrawFractional_c (A : Option Addr) (n c : Nat) (zs : List Int) (w : World) (ha : IsRow .u8 w A n c zs) :
    Calls Try.prog 37 #[.slice A n c] w fun e w' => ∃ p q, e = .returned (.tuple #[.int .i64 p, .int .i64 q]) ∧ Below w.heap.size w w' := by
  have HA := Lib.hid ha
  clear ha
  go_enter Try.func37, Try.ntmps37
  go_wp2_with fail
  refine (l14Open_c _ _ _ _ _ HA.out).mono ?_
  rintro e w1 ⟨rfl, hr1, hb1⟩
  have HR1 := Lib.hid hr1
  have HB1 := Lib.hid hb1
  clear hr1 hb1
  go_wp2_with fail
  refine (pick_c _ 0 _ (by omega) (by omega) _ HR1.out).mono ?_
  rintro e w2 ⟨x, rfl, x0, x1, hr2, hg2⟩
  have HR2 := Lib.hid hr2
  have HB2 := Lib.hid (HB1.out.trans (below_of_grown hg2 (Nat.le_refl _) HB1.out.size))
  clear hr2 hg2
  have x2 : x < 20 := by omega
  clear x1
  go_wp2_with fail
  refine (pick_c _ 1 _ (by omega) (by omega) _ HR2.out).mono ?_
  rintro e w3 ⟨y, rfl, y0, y1, hr3, hg3⟩
  have HR3 := Lib.hid hr3
  have HB3 := Lib.hid (HB2.out.trans (below_of_grown hg3 (Nat.le_refl _) HB2.out.size))
  have hlt3 := hr3.lt
  clear hr3 hg3
  have y2 : y < 20 := by omega
  clear y1
  go_wp2_with fail
  refine (num_c _ 2 _ 5 5 [x, -y, 1000000000, 1000000001, -9223372036854775808] (by omega) (by decide) (by decide) _ (HR3.out.alloc _) (lit_row w3 [x, -y, 1000000000, 1000000001, -9223372036854775808] (by unfold Fits; simp; omega) (by simp)) (some_ne (by omega))).mono ?_
  rintro e w4 ⟨i, hi, rfl, hr4, hg4⟩
  generalize List.getD [x, -y, 1000000000, 1000000001, -9223372036854775808] i 0 = p at *
  have HR4 := Lib.hid hr4
  have HB4 := Lib.hid (HB3.out.trans (below_of_grown (grown_trans_row (grown_alloc ⟨rfl, rfl, rfl, Nat.le_refl _, fun _ _ _ => rfl⟩ _) hg4) (Nat.le_refl _) HB3.out.size))
  clear hr4 hg4 hi
  go_wp2_with fail
  refine (pick_c _ 3 _ (by omega) (by omega) _ HR4.out).mono ?_
  rintro e w5 ⟨z, rfl, z0, z1, hr5, hg5⟩
  have HR5 := Lib.hid hr5
  have HB5 := Lib.hid (HB4.out.trans (below_of_grown hg5 (Nat.le_refl _) HB4.out.size))
  clear hr5 hg5
  have z2 : z < 12 := by omega
  clear z1
  go_wp2_with fail
  refine (pick_c _ 4 _ (by omega) (by omega) _ HR5.out).mono ?_
  rintro e w6 ⟨u, rfl, u0, u1, hr6, hg6⟩
  have HR6 := Lib.hid hr6
  have HB6 := Lib.hid (HB5.out.trans (below_of_grown hg6 (Nat.le_refl _) HB5.out.size))
  have hlt6 := hr6.lt
  clear hr6 hg6
  have u2 : u < 12 := by omega
  clear u1
  go_wp2_with fail
  refine (num_c _ 5 _ 5 5 [1 + z, -1 - u, 0, 1000000000, 9223372036854775807] (by omega) (by decide) (by decide) _ (HR6.out.alloc _) (lit_row w6 [1 + z, -1 - u, 0, 1000000000, 9223372036854775807] (by unfold Fits; simp; omega) (by simp)) (some_ne (by omega))).mono ?_
  rintro e w7 ⟨j, hj, rfl, hr7, hg7⟩
  generalize List.getD [1 + z, -1 - u, 0, 1000000000, 9223372036854775807] j 0 = q at *
  have HB7 := Lib.hid (HB6.out.trans (below_of_grown (grown_trans_row (grown_alloc ⟨rfl, rfl, rfl, Nat.le_refl _, fun _ _ _ => rfl⟩ _) hg7) (Nat.le_refl _) HB6.out.size))
  clear hr7 hg7 hj
  go_wp2_with fail
  go_ret2
  exact ⟨p, q, rfl, HB7.out⟩
end Go.Proofs.Ytkgbnagbeoeijaa
