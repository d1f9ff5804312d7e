/- Contracts of chapter 1's functions on numbers, the program's and the reference's. No condition but those stated. -/
import Derived.Test.YtclhogmfnkdcaaaPlainA
namespace Go.Proofs.Ytclhogmfnkdcaaa
open Go.RowKit

theorem isSize_c (x : Int) (w : World) : Calls Try.prog 70 #[.int .i64 x] w fun e w' => e = .returned (.bool (sizeB x)) ∧ w = w' := by
  by_cases h : 1 ≤ x ∧ x ≤ 4
  · rw [sizeB_yes h]
    obtain ⟨h1, h2⟩ := h
    go_enter Try.func70, Try.ntmps70
    go_wp2
    go_ret
    exact ⟨rfl, rfl⟩
  · rw [sizeB_no h]
    by_cases h1 : 1 ≤ x
    · have h2 : ¬ x ≤ 4 := fun k => h ⟨h1, k⟩
      clear h
      go_enter Try.func70, Try.ntmps70
      go_wp2
      go_ret
      exact ⟨rfl, rfl⟩
    · clear h
      go_enter Try.func70, Try.ntmps70
      go_wp2
      go_ret
      exact ⟨rfl, rfl⟩
theorem isSetOf_c (s a : Int) (hs : 1 ≤ s ∧ s ≤ 4) (w : World) : Calls Try.prog 67 #[.int .i64 s, .int .i64 a] w fun e w' => e = .returned (.bool (setB s a)) ∧ w = w' := by
  by_cases h : 0 ≤ a ∧ a < 2 ^ s.toNat
  · have e : setB s a = true := by simp only [setB, decide_eq_true_eq]; exact h
    rw [e]
    clear e
    obtain ⟨h1, h2⟩ := h
    rcases four hs with rfl | rfl | rfl | rfl <;> clear hs <;> simp at h2
    all_goals
      go_enter Try.func67, Try.ntmps67
      go_wp2
      go_ret
      exact ⟨rfl, rfl⟩
  · have e : setB s a = false := by simp only [setB, decide_eq_false_iff_not]; exact h
    rw [e]
    clear e
    by_cases h1 : 0 ≤ a
    · have h2 : ¬ a < 2 ^ s.toNat := fun k => h ⟨h1, k⟩
      clear h
      rcases four hs with rfl | rfl | rfl | rfl <;> clear hs <;> simp at h2
      all_goals
        go_enter Try.func67, Try.ntmps67
        go_wp2
        go_ret
        exact ⟨ret_bool (by simp; omega), rfl⟩
    · clear h
      go_enter Try.func67, Try.ntmps67
      go_wp2
      go_ret
      exact ⟨rfl, rfl⟩
theorem fullSet_c (s : Int) (hs : 1 ≤ s ∧ s ≤ 4) (w : World) : Calls Try.prog 76 #[.int .i64 s] w fun e w' => e = .returned (.int .i64 (2 ^ s.toNat - 1)) ∧ w = w' := by
  rcases four hs with rfl | rfl | rfl | rfl
  all_goals
    clear hs
    go_enter Try.func76, Try.ntmps76
    go_wp2
    go_ret
    exact ⟨rfl, rfl⟩
theorem l1In_c (n lo hi : Int) (w : World) : Calls Try.prog 101 #[.int .i64 n, .int .i64 lo, .int .i64 hi] w fun e w' => e = .returned (.bool (decide (lo ≤ n ∧ n ≤ hi))) ∧ w = w' := by
  by_cases h1 : lo ≤ n
  · by_cases h2 : n ≤ hi
    · have e : decide (lo ≤ n ∧ n ≤ hi) = true := by simp [h1, h2]
      rw [e]
      clear e
      go_enter Try.func101, Try.ntmps101
      go_wp2
      go_ret
      exact ⟨rfl, rfl⟩
    · have e : decide (lo ≤ n ∧ n ≤ hi) = false := by simp [h2]
      rw [e]
      clear e
      go_enter Try.func101, Try.ntmps101
      go_wp2
      go_ret
      exact ⟨rfl, rfl⟩
  · have e : decide (lo ≤ n ∧ n ≤ hi) = false := by simp [h1]
    rw [e]
    clear e
    go_enter Try.func101, Try.ntmps101
    go_wp2
    go_ret
    exact ⟨rfl, rfl⟩
theorem spec_SizeValid_c (x : Int) (w : World) : Calls Try.prog 68 #[.int .i64 x] w fun e w' => e = .returned (.bool (sizeB x)) ∧ w = w' := by
  go_enter Try.func68, Try.ntmps68
  go_wp2_with (go_at_call 101; refine (l1In_c _ _ _ _).mono ?_; rintro e w' ⟨rfl, rfl⟩)
  go_ret
  exact ⟨ret_bool (by simp [sizeB]), rfl⟩
theorem l1Any_c (a : Int) (w : World) : Calls Try.prog 93 #[.int .i64 a] w fun e w' => e = .returned (.bool (setB 4 a)) ∧ w = w' := by
  go_enter Try.func93, Try.ntmps93
  go_wp2_with (go_at_call 101; refine (l1In_c _ _ _ _).mono ?_; rintro e w' ⟨rfl, rfl⟩)
  go_ret
  refine ⟨ret_bool ?_, rfl⟩
  by_cases h : 0 ≤ a ∧ a ≤ 15
  · rw [set4_yes h]; simp [h]
  · rw [set4_no h]
    simp only [Bool.and_eq_false_iff, decide_eq_false_iff_not]
    omega
theorem spec_SetValid_c (s a : Int) (w : World) : Calls Try.prog 75 #[.int .i64 s, .int .i64 a] w fun e w' => e = .returned (.bool (validB s a)) ∧ w = w' := by
  by_cases h : 1 ≤ s ∧ s ≤ 4
  · have hs := sizeB_yes h
    rcases four h with rfl | rfl | rfl | rfl
    all_goals
      clear h
      go_enter Try.func75, Try.ntmps75
      go_wp2_with (first | (go_at_call 68; refine (spec_SizeValid_c _ _).mono ?_; rintro e w' ⟨rfl, rfl⟩) | (go_at_call 101; refine (l1In_c _ _ _ _).mono ?_; rintro e w' ⟨rfl, rfl⟩))
      go_ret
      refine ⟨ret_bool ?_, rfl⟩
      rw [Bool.eq_iff_iff]
      simp [validB, hs, setB]
      try omega
  · have hs := sizeB_no h
    clear h
    go_enter Try.func75, Try.ntmps75
    go_wp2_with (go_at_call 68; refine (spec_SizeValid_c _ _).mono ?_; rintro e w' ⟨rfl, rfl⟩)
    go_ret
    exact ⟨ret_bool (by simp [validB, hs]), rfl⟩
end Go.Proofs.Ytclhogmfnkdcaaa
