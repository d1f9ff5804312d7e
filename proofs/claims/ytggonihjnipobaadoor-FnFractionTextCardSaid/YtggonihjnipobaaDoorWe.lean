/- Contracts of chapter 2: lowest terms and what is reckoned by them, the program's and the reference's. Conditions: as stated. -/
import Derived.Test.YtggonihjnipobaaDoorWc
namespace Go.Proofs.YtggonihjnipobaaDoor
open Go.RowKit

/-- A number that is kept only if the flag says so. -/
def sel (b : Bool) (x : Int) : Int := if b then x else 0

theorem quo_small {a d : Int} (h : -4611686018427387904 ≤ a ∧ a ≤ 4611686018427387904) : IntKind.i64.wrap (a.tdiv d) = a.tdiv d := by
  have h1 : (a.tdiv d).natAbs ≤ a.natAbs := by
    rw [Int.natAbs_tdiv]
    exact Nat.div_le_self _ _
  exact IntWalk.i64_in _ (by omega)
theorem dv_neg {a b : Int} (h : b < 0) : dv a b = -(Int.gcd a b : Int) := by simp [dv, h]
theorem dv_pos {a b : Int} (h : ¬ b < 0) : dv a b = (Int.gcd a b : Int) := by simp [dv, h]
theorem gcd_small {a b : Int} (h : b ≠ 0) (hb : Small b) : 1 ≤ (Int.gcd a b : Int) ∧ (Int.gcd a b : Int) ≤ 4611686018427387904 := by
  have h1 := gcd_pos_right (a := a) h
  have h2 : Int.gcd a b ≤ b.natAbs := Nat.le_of_dvd (by omega) (Int.gcd_dvd_natAbs_right a b)
  unfold Small at hb
  omega

theorem tdiv_small {a : Int} {G : Nat} (h : -4611686018427387904 ≤ a ∧ a ≤ 4611686018427387904) : -4611686018427387904 ≤ a.tdiv (G : Int) ∧ a.tdiv (G : Int) ≤ 4611686018427387904 := by
  have h1 : (a.tdiv (G : Int)).natAbs ≤ a.natAbs := by
    rw [Int.natAbs_tdiv]
    exact Nat.div_le_self _ _
  omega
set_option maxHeartbeats 2000000 in
theorem lowest_c (num den : Int) (hn : Small num) (hd : Small den) (h0 : den ≠ 0) (w : World) :
    Calls Tryd.prog 30 #[.int .i64 num, .int .i64 den] w fun e w' =>
      e = .returned (.tuple #[.agg #[.int .i64 (sel (lowB num den) (lowX num den)), .int .i64 (sel (lowB num den) (lowY num den))], .bool (lowB num den)]) ∧ Below w.heap.size w w' := by
  have hbel : ∀ o, Below w.heap.size w (w.alloc o) := fun o => (Below.refl _ _).alloc (Nat.le_refl _) o
  have hr := fun o => two_row_behind w o num den (fits_small hn) (fits_small hd)
  have hs2 := small_two hn hd
  have HR := Lib.hid hr
  have HS := Lib.hid hs2
  clear hr hs2
  have hg := gcd_small (a := num) h0 hd
  have HB := Lib.hid hbel
  clear hbel
  obtain ⟨G, hG⟩ : ∃ G, G = Int.gcd num den := ⟨_, rfl⟩
  rw [← hG] at hg
  obtain ⟨hg1, hg2⟩ := hg
  have hGL : gcdL [num, den] = G := by rw [gcdL_two, hG]
  have HGL := Lib.hid hGL
  clear hGL
  have HN := Lib.hid hn
  have HD := Lib.hid hd
  have HG := Lib.hid hG
  unfold Small at hn hd
  obtain ⟨hq1, hq2⟩ := tdiv_small (G := G) hn
  obtain ⟨hq3, hq4⟩ := tdiv_small (G := G) hd
  by_cases hneg : den < 0
  · have e1 : lowX num den = -(num.tdiv (G : Int)) := by unfold lowX; rw [dv_neg hneg, ← hG, Int.tdiv_neg]
    have e2 : lowY num den = -(den.tdiv (G : Int)) := by unfold lowY; rw [dv_neg hneg, ← hG, Int.tdiv_neg]
    have e3 : lowB num den = fracB (-(num.tdiv (G : Int))) (-(den.tdiv (G : Int))) := by unfold lowB; rw [e1, e2]
    rw [e1, e2, e3]
    clear e1 e2 e3 hG
    rcases hf : fracB (-(num.tdiv (G : Int))) (-(den.tdiv (G : Int))) with _ | _
    all_goals
      have hz : (-(G : Int) == 0) = false := by rw [beq_eq_false_iff_ne]; omega
      go_enter Tryd.func30, Tryd.ntmps30
      go_wp2_with fail
      refine (divisorOf_c _ _ _ [num, den] HS.out _ (HR.out _)).mono ?_
      rintro e w' ⟨rfl, m, rfl⟩
      rw [HGL.out]
      go_wp2_with fail
      go_region
      go_wp2_with fail
      refine (isFraction_c _ _ _).mono ?_
      rintro e w1 ⟨rfl, hb1⟩
      have c0 : w1.cell? ⟨w.heap.size, 0, none⟩ = some (.int .i64 0) := (hb1.cell (by simp <;> omega)).trans (by go_simp)
      have c1 : w1.cell? ⟨w.heap.size, 1, none⟩ = some (.int .i64 0) := (hb1.cell (by simp <;> omega)).trans (by go_simp)
      have c2 : w1.cell? ⟨w.heap.size + 1 + 1, 0, none⟩ = some (.int .i64 (-(num.tdiv (G : Int)))) := (hb1.cell (by simp <;> omega)).trans (by go_simp)
      have c3 : w1.cell? ⟨w.heap.size + 1 + 1, 1, none⟩ = some (.int .i64 (-(den.tdiv (G : Int)))) := (hb1.cell (by simp <;> omega)).trans (by go_simp)
      have f0 : w1.frozen? ⟨w.heap.size, 0, none⟩ = false := (hb1.frozen (by simp <;> omega)).trans (by go_simp)
      have f1 : w1.frozen? ⟨w.heap.size, 1, none⟩ = false := (hb1.frozen (by simp <;> omega)).trans (by go_simp)
      have hbA : Below w.heap.size w w1 := ((below_drewN ((HB.out (.cells #[.int .i64 0, .int .i64 0] 23)).alloc (by simp) (.cells #[.int .i64 num, .int .i64 den] 3)) (m + 1)).alloc (by simp <;> omega) _).trans (hb1.mono (by simp <;> omega))
      have HBA := Lib.hid hbA
      clear hb1 hbA
      go_wp2_with fail
      first
        | exact bodyPost_ret (v := .tuple #[.agg #[.int .i64 0, .int .i64 0], .bool false]) (by simp [results, Tryd.results30, go_sem, c0, c1]) rfl ⟨rfl, (HBA.out.setCell (Nat.le_refl _) _).setCell (Nat.le_refl _) _⟩
        | exact bodyPost_ret (v := .tuple #[.agg #[.int .i64 (-(num.tdiv (G : Int))), .int .i64 (-(den.tdiv (G : Int)))], .bool true]) (by simp [results, Tryd.results30, go_sem, c0, c1]) rfl ⟨rfl, (HBA.out.setCell (Nat.le_refl _) _).setCell (Nat.le_refl _) _⟩
  · have hpos : 0 ≤ den := by omega
    have e1 : lowX num den = num.tdiv (G : Int) := by unfold lowX; rw [dv_pos hneg, ← hG]
    have e2 : lowY num den = den / (G : Int) := by unfold lowY; rw [dv_pos hneg, ← hG, Int.tdiv_eq_ediv_of_nonneg hpos]
    have e3 : lowB num den = fracB (num.tdiv (G : Int)) (den / (G : Int)) := by unfold lowB; rw [e1, e2]
    rw [e1, e2, e3]
    rw [Int.tdiv_eq_ediv_of_nonneg hpos] at hq3 hq4
    clear e1 e2 e3 hG
    rcases hf : fracB (num.tdiv (G : Int)) (den / (G : Int)) with _ | _
    all_goals
      have hz : ((G : Int) == 0) = false := by rw [beq_eq_false_iff_ne]; omega
      go_enter Tryd.func30, Tryd.ntmps30
      go_wp2_with fail
      refine (divisorOf_c _ _ _ [num, den] HS.out _ (HR.out _)).mono ?_
      rintro e w' ⟨rfl, m, rfl⟩
      rw [HGL.out]
      go_wp2_with fail
      go_region
      go_wp2_with fail
      refine (isFraction_c _ _ _).mono ?_
      rintro e w1 ⟨rfl, hb1⟩
      have c0 : w1.cell? ⟨w.heap.size, 0, none⟩ = some (.int .i64 0) := (hb1.cell (by simp <;> omega)).trans (by go_simp)
      have c1 : w1.cell? ⟨w.heap.size, 1, none⟩ = some (.int .i64 0) := (hb1.cell (by simp <;> omega)).trans (by go_simp)
      have c2 : w1.cell? ⟨w.heap.size + 1 + 1, 0, none⟩ = some (.int .i64 (num.tdiv (G : Int))) := (hb1.cell (by simp <;> omega)).trans (by go_simp)
      have c3 : w1.cell? ⟨w.heap.size + 1 + 1, 1, none⟩ = some (.int .i64 (den / (G : Int))) := (hb1.cell (by simp <;> omega)).trans (by go_simp)
      have f0 : w1.frozen? ⟨w.heap.size, 0, none⟩ = false := (hb1.frozen (by simp <;> omega)).trans (by go_simp)
      have f1 : w1.frozen? ⟨w.heap.size, 1, none⟩ = false := (hb1.frozen (by simp <;> omega)).trans (by go_simp)
      have hbA : Below w.heap.size w w1 := ((below_drewN ((HB.out (.cells #[.int .i64 0, .int .i64 0] 23)).alloc (by simp) (.cells #[.int .i64 num, .int .i64 den] 3)) (m + 1)).alloc (by simp <;> omega) _).trans (hb1.mono (by simp <;> omega))
      have HBA := Lib.hid hbA
      clear hb1 hbA
      go_wp2_with fail
      first
        | exact bodyPost_ret (v := .tuple #[.agg #[.int .i64 0, .int .i64 0], .bool false]) (by simp [results, Tryd.results30, go_sem, c0, c1]) rfl ⟨rfl, (HBA.out.setCell (Nat.le_refl _) _).setCell (Nat.le_refl _) _⟩
        | exact bodyPost_ret (v := .tuple #[.agg #[.int .i64 (num.tdiv (G : Int)), .int .i64 (den / (G : Int))], .bool true]) (by simp [results, Tryd.results30, go_sem, c0, c1]) rfl ⟨rfl, (HBA.out.setCell (Nat.le_refl _) _).setCell (Nat.le_refl _) _⟩
set_option maxHeartbeats 2000000 in
theorem l2Made_c (num den : Int) (hn : Small num) (hd : Small den) (h0 : den ≠ 0) (w : World) :
    Calls Tryd.prog 41 #[.int .i64 num, .int .i64 den] w fun e w' =>
      e = .returned (.tuple #[.agg #[.int .i64 (sel (lowB num den) (lowX num den)), .int .i64 (sel (lowB num den) (lowY num den))], .bool (lowB num den)]) ∧ Below w.heap.size w w' := by
  have hbel : ∀ o, Below w.heap.size w (w.alloc o) := fun o => (Below.refl _ _).alloc (Nat.le_refl _) o
  have hg := gcd_small (a := num) h0 hd
  have HB := Lib.hid hbel
  clear hbel
  obtain ⟨G, hG⟩ : ∃ G, G = Int.gcd num den := ⟨_, rfl⟩
  rw [← hG] at hg
  obtain ⟨hg1, hg2⟩ := hg
  have HN := Lib.hid hn
  have HD := Lib.hid hd
  have HG := Lib.hid hG
  unfold Small at hn hd
  obtain ⟨hq1, hq2⟩ := tdiv_small (G := G) hn
  obtain ⟨hq3, hq4⟩ := tdiv_small (G := G) hd
  by_cases hneg : den < 0
  · have e1 : lowX num den = -(num.tdiv (G : Int)) := by unfold lowX; rw [dv_neg hneg, ← hG, Int.tdiv_neg]
    have e2 : lowY num den = -(den.tdiv (G : Int)) := by unfold lowY; rw [dv_neg hneg, ← hG, Int.tdiv_neg]
    have e3 : lowB num den = fracB (-(num.tdiv (G : Int))) (-(den.tdiv (G : Int))) := by unfold lowB; rw [e1, e2]
    rw [e1, e2, e3]
    clear e1 e2 e3 hG
    rcases hf : fracB (-(num.tdiv (G : Int))) (-(den.tdiv (G : Int))) with _ | _
    all_goals
      have hz : (-(G : Int) == 0) = false := by rw [beq_eq_false_iff_ne]; omega
      go_enter Tryd.func41, Tryd.ntmps41
      go_wp2_with fail
      refine (l2Divisor_c _ _ HN.out HD.out _).mono ?_
      rintro e w' ⟨rfl, rfl⟩
      rw [← HG.out]
      go_wp2_with fail
      go_region
      go_wp2_with fail
      refine (spec_FractionValid_c _ _ _).mono ?_
      rintro e w1 ⟨rfl, hb1⟩
      have c0 : w1.cell? ⟨w.heap.size, 0, none⟩ = some (.int .i64 0) := (hb1.cell (by simp <;> omega)).trans (by go_simp)
      have c1 : w1.cell? ⟨w.heap.size, 1, none⟩ = some (.int .i64 0) := (hb1.cell (by simp <;> omega)).trans (by go_simp)
      have c2 : w1.cell? ⟨w.heap.size + 1, 0, none⟩ = some (.int .i64 (-(num.tdiv (G : Int)))) := (hb1.cell (by simp <;> omega)).trans (by go_simp)
      have c3 : w1.cell? ⟨w.heap.size + 1, 1, none⟩ = some (.int .i64 (-(den.tdiv (G : Int)))) := (hb1.cell (by simp <;> omega)).trans (by go_simp)
      have f0 : w1.frozen? ⟨w.heap.size, 0, none⟩ = false := (hb1.frozen (by simp <;> omega)).trans (by go_simp)
      have f1 : w1.frozen? ⟨w.heap.size, 1, none⟩ = false := (hb1.frozen (by simp <;> omega)).trans (by go_simp)
      have hbA : Below w.heap.size w w1 := ((HB.out (.cells #[.int .i64 0, .int .i64 0] 23)).drew.alloc (by simp <;> omega) _).trans (hb1.mono (by simp <;> omega))
      have HBA := Lib.hid hbA
      clear hb1 hbA
      go_wp2_with fail
      first
        | exact bodyPost_ret (v := .tuple #[.agg #[.int .i64 0, .int .i64 0], .bool false]) (by simp [results, Tryd.results41, go_sem, c0, c1]) rfl ⟨rfl, (HBA.out.setCell (Nat.le_refl _) _).setCell (Nat.le_refl _) _⟩
        | exact bodyPost_ret (v := .tuple #[.agg #[.int .i64 (-(num.tdiv (G : Int))), .int .i64 (-(den.tdiv (G : Int)))], .bool true]) (by simp [results, Tryd.results41, go_sem, c0, c1]) rfl ⟨rfl, (HBA.out.setCell (Nat.le_refl _) _).setCell (Nat.le_refl _) _⟩
  · have hpos : 0 ≤ den := by omega
    have e1 : lowX num den = num.tdiv (G : Int) := by unfold lowX; rw [dv_pos hneg, ← hG]
    have e2 : lowY num den = den / (G : Int) := by unfold lowY; rw [dv_pos hneg, ← hG, Int.tdiv_eq_ediv_of_nonneg hpos]
    have e3 : lowB num den = fracB (num.tdiv (G : Int)) (den / (G : Int)) := by unfold lowB; rw [e1, e2]
    rw [e1, e2, e3]
    rw [Int.tdiv_eq_ediv_of_nonneg hpos] at hq3 hq4
    clear e1 e2 e3 hG
    rcases hf : fracB (num.tdiv (G : Int)) (den / (G : Int)) with _ | _
    all_goals
      have hz : ((G : Int) == 0) = false := by rw [beq_eq_false_iff_ne]; omega
      go_enter Tryd.func41, Tryd.ntmps41
      go_wp2_with fail
      refine (l2Divisor_c _ _ HN.out HD.out _).mono ?_
      rintro e w' ⟨rfl, rfl⟩
      rw [← HG.out]
      go_wp2_with fail
      go_region
      go_wp2_with fail
      refine (spec_FractionValid_c _ _ _).mono ?_
      rintro e w1 ⟨rfl, hb1⟩
      have c0 : w1.cell? ⟨w.heap.size, 0, none⟩ = some (.int .i64 0) := (hb1.cell (by simp <;> omega)).trans (by go_simp)
      have c1 : w1.cell? ⟨w.heap.size, 1, none⟩ = some (.int .i64 0) := (hb1.cell (by simp <;> omega)).trans (by go_simp)
      have c2 : w1.cell? ⟨w.heap.size + 1, 0, none⟩ = some (.int .i64 (num.tdiv (G : Int))) := (hb1.cell (by simp <;> omega)).trans (by go_simp)
      have c3 : w1.cell? ⟨w.heap.size + 1, 1, none⟩ = some (.int .i64 (den / (G : Int))) := (hb1.cell (by simp <;> omega)).trans (by go_simp)
      have f0 : w1.frozen? ⟨w.heap.size, 0, none⟩ = false := (hb1.frozen (by simp <;> omega)).trans (by go_simp)
      have f1 : w1.frozen? ⟨w.heap.size, 1, none⟩ = false := (hb1.frozen (by simp <;> omega)).trans (by go_simp)
      have hbA : Below w.heap.size w w1 := ((HB.out (.cells #[.int .i64 0, .int .i64 0] 23)).drew.alloc (by simp <;> omega) _).trans (hb1.mono (by simp <;> omega))
      have HBA := Lib.hid hbA
      clear hb1 hbA
      go_wp2_with fail
      first
        | exact bodyPost_ret (v := .tuple #[.agg #[.int .i64 0, .int .i64 0], .bool false]) (by simp [results, Tryd.results41, go_sem, c0, c1]) rfl ⟨rfl, (HBA.out.setCell (Nat.le_refl _) _).setCell (Nat.le_refl _) _⟩
        | exact bodyPost_ret (v := .tuple #[.agg #[.int .i64 (num.tdiv (G : Int)), .int .i64 (den / (G : Int))], .bool true]) (by simp [results, Tryd.results41, go_sem, c0, c1]) rfl ⟨rfl, (HBA.out.setCell (Nat.le_refl _) _).setCell (Nat.le_refl _) _⟩
end Go.Proofs.YtggonihjnipobaaDoor
