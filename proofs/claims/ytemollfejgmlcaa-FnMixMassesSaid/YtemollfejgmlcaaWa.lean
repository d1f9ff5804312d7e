/- Contracts of chapter 1's functions on numbers, the program's and the reference's. No condition but those stated. -/
import Derived.Test.YtemollfejgmlcaaPlainA
namespace Go.Proofs.Ytemollfejgmlcaa
open Go.RowKit

theorem isSize_c (x : Int) (w : World) : Calls Try.prog 54 #[.int .i64 x] w fun e w' => e = .returned (.bool (sizeB x)) ∧ w = w' := by
  by_cases h : 1 ≤ x ∧ x ≤ 4
  · rw [sizeB_yes h]
    obtain ⟨h1, h2⟩ := h
    go_enter Try.func54, Try.ntmps54
    go_wp2
    go_ret
    exact ⟨rfl, rfl⟩
  · rw [sizeB_no h]
    by_cases h1 : 1 ≤ x
    · have h2 : ¬ x ≤ 4 := fun k => h ⟨h1, k⟩
      clear h
      go_enter Try.func54, Try.ntmps54
      go_wp2
      go_ret
      exact ⟨rfl, rfl⟩
    · clear h
      go_enter Try.func54, Try.ntmps54
      go_wp2
      go_ret
      exact ⟨rfl, rfl⟩
theorem isSetOf_c (s a : Int) (hs : 1 ≤ s ∧ s ≤ 4) (w : World) : Calls Try.prog 51 #[.int .i64 s, .int .i64 a] w fun e w' => e = .returned (.bool (setB s a)) ∧ w = w' := by
  by_cases h : 0 ≤ a ∧ a < 2 ^ s.toNat
  · have e : setB s a = true := by simp only [setB, decide_eq_true_eq]; exact h
    rw [e]
    clear e
    obtain ⟨h1, h2⟩ := h
    rcases four hs with rfl | rfl | rfl | rfl <;> clear hs <;> simp at h2
    all_goals
      go_enter Try.func51, Try.ntmps51
      go_wp2
      go_ret
      exact ⟨rfl, rfl⟩
  · have e : setB s a = false := by simp only [setB, decide_eq_false_iff_not]; exact h
    rw [e]
    clear e
    by_cases h1 : 0 ≤ a
    · have h2 : ¬ a < 2 ^ s.toNat := fun k => h ⟨h1, k⟩
      clear h
      rcases four hs with rfl | rfl | rfl | rfl <;> clear hs <;> simp at h2
      all_goals
        go_enter Try.func51, Try.ntmps51
        go_wp2
        go_ret
        exact ⟨ret_bool (by simp; omega), rfl⟩
    · clear h
      go_enter Try.func51, Try.ntmps51
      go_wp2
      go_ret
      exact ⟨rfl, rfl⟩
theorem fullSet_c (s : Int) (hs : 1 ≤ s ∧ s ≤ 4) (w : World) : Calls Try.prog 73 #[.int .i64 s] w fun e w' => e = .returned (.int .i64 (2 ^ s.toNat - 1)) ∧ w = w' := by
  rcases four hs with rfl | rfl | rfl | rfl
  all_goals
    clear hs
    go_enter Try.func73, Try.ntmps73
    go_wp2
    go_ret
    exact ⟨rfl, rfl⟩
theorem l1In_c (n lo hi : Int) (w : World) : Calls Try.prog 83 #[.int .i64 n, .int .i64 lo, .int .i64 hi] w fun e w' => e = .returned (.bool (decide (lo ≤ n ∧ n ≤ hi))) ∧ w = w' := by
  by_cases h1 : lo ≤ n
  · by_cases h2 : n ≤ hi
    · have e : decide (lo ≤ n ∧ n ≤ hi) = true := by simp [h1, h2]
      rw [e]
      clear e
      go_enter Try.func83, Try.ntmps83
      go_wp2
      go_ret
      exact ⟨rfl, rfl⟩
    · have e : decide (lo ≤ n ∧ n ≤ hi) = false := by simp [h2]
      rw [e]
      clear e
      go_enter Try.func83, Try.ntmps83
      go_wp2
      go_ret
      exact ⟨rfl, rfl⟩
  · have e : decide (lo ≤ n ∧ n ≤ hi) = false := by simp [h1]
    rw [e]
    clear e
    go_enter Try.func83, Try.ntmps83
    go_wp2
    go_ret
    exact ⟨rfl, rfl⟩
theorem spec_SizeValid_c (x : Int) (w : World) : Calls Try.prog 56 #[.int .i64 x] w fun e w' => e = .returned (.bool (sizeB x)) ∧ w = w' := by
  go_enter Try.func56, Try.ntmps56
  go_wp2_with (go_at_call 83; refine (l1In_c _ _ _ _).mono ?_; rintro e w' ⟨rfl, rfl⟩)
  go_ret
  exact ⟨ret_bool (by simp [sizeB]), rfl⟩
theorem l1Any_c (a : Int) (w : World) : Calls Try.prog 70 #[.int .i64 a] w fun e w' => e = .returned (.bool (setB 4 a)) ∧ w = w' := by
  go_enter Try.func70, Try.ntmps70
  go_wp2_with (go_at_call 83; refine (l1In_c _ _ _ _).mono ?_; rintro e w' ⟨rfl, rfl⟩)
  go_ret
  refine ⟨ret_bool ?_, rfl⟩
  by_cases h : 0 ≤ a ∧ a ≤ 15
  · rw [set4_yes h]; simp [h]
  · rw [set4_no h]
    simp only [Bool.and_eq_false_iff, decide_eq_false_iff_not]
    omega
theorem spec_SetValid_c (s a : Int) (w : World) : Calls Try.prog 74 #[.int .i64 s, .int .i64 a] w fun e w' => e = .returned (.bool (validB s a)) ∧ w = w' := by
  by_cases h : 1 ≤ s ∧ s ≤ 4
  · have hs := sizeB_yes h
    rcases four h with rfl | rfl | rfl | rfl
    all_goals
      clear h
      go_enter Try.func74, Try.ntmps74
      go_wp2_with (first | (go_at_call 56; refine (spec_SizeValid_c _ _).mono ?_; rintro e w' ⟨rfl, rfl⟩) | (go_at_call 83; refine (l1In_c _ _ _ _).mono ?_; rintro e w' ⟨rfl, rfl⟩))
      go_ret
      refine ⟨ret_bool ?_, rfl⟩
      rw [Bool.eq_iff_iff]
      simp [validB, hs, setB]
      try omega
  · have hs := sizeB_no h
    clear h
    go_enter Try.func74, Try.ntmps74
    go_wp2_with (go_at_call 56; refine (spec_SizeValid_c _ _).mono ?_; rintro e w' ⟨rfl, rfl⟩)
    go_ret
    exact ⟨ret_bool (by simp [validB, hs]), rfl⟩
theorem l1Count_c (a : Int) (h : 0 ≤ a ∧ a ≤ 15) (w : World) : Calls Try.prog 50 #[.int .i64 a] w fun e w' => e = .returned (.int .i64 (cnt a)) ∧ w = w' := by
  rcases sixteen h with rfl | rfl | rfl | rfl | rfl | rfl | rfl | rfl | rfl | rfl | rfl | rfl | rfl | rfl | rfl | rfl
  · exact calls_of_run (P := Try.prog) (f := 50) (args := #[.int .i64 0]) (w := w) (v := .int .i64 (cnt 0)) 400 Try.f50 Try.func50 (fun cs => by as_aux_lemma => kernel_rfl)
  · exact calls_of_run (P := Try.prog) (f := 50) (args := #[.int .i64 1]) (w := w) (v := .int .i64 (cnt 1)) 400 Try.f50 Try.func50 (fun cs => by as_aux_lemma => kernel_rfl)
  · exact calls_of_run (P := Try.prog) (f := 50) (args := #[.int .i64 2]) (w := w) (v := .int .i64 (cnt 2)) 400 Try.f50 Try.func50 (fun cs => by as_aux_lemma => kernel_rfl)
  · exact calls_of_run (P := Try.prog) (f := 50) (args := #[.int .i64 3]) (w := w) (v := .int .i64 (cnt 3)) 400 Try.f50 Try.func50 (fun cs => by as_aux_lemma => kernel_rfl)
  · exact calls_of_run (P := Try.prog) (f := 50) (args := #[.int .i64 4]) (w := w) (v := .int .i64 (cnt 4)) 400 Try.f50 Try.func50 (fun cs => by as_aux_lemma => kernel_rfl)
  · exact calls_of_run (P := Try.prog) (f := 50) (args := #[.int .i64 5]) (w := w) (v := .int .i64 (cnt 5)) 400 Try.f50 Try.func50 (fun cs => by as_aux_lemma => kernel_rfl)
  · exact calls_of_run (P := Try.prog) (f := 50) (args := #[.int .i64 6]) (w := w) (v := .int .i64 (cnt 6)) 400 Try.f50 Try.func50 (fun cs => by as_aux_lemma => kernel_rfl)
  · exact calls_of_run (P := Try.prog) (f := 50) (args := #[.int .i64 7]) (w := w) (v := .int .i64 (cnt 7)) 400 Try.f50 Try.func50 (fun cs => by as_aux_lemma => kernel_rfl)
  · exact calls_of_run (P := Try.prog) (f := 50) (args := #[.int .i64 8]) (w := w) (v := .int .i64 (cnt 8)) 400 Try.f50 Try.func50 (fun cs => by as_aux_lemma => kernel_rfl)
  · exact calls_of_run (P := Try.prog) (f := 50) (args := #[.int .i64 9]) (w := w) (v := .int .i64 (cnt 9)) 400 Try.f50 Try.func50 (fun cs => by as_aux_lemma => kernel_rfl)
  · exact calls_of_run (P := Try.prog) (f := 50) (args := #[.int .i64 10]) (w := w) (v := .int .i64 (cnt 10)) 400 Try.f50 Try.func50 (fun cs => by as_aux_lemma => kernel_rfl)
  · exact calls_of_run (P := Try.prog) (f := 50) (args := #[.int .i64 11]) (w := w) (v := .int .i64 (cnt 11)) 400 Try.f50 Try.func50 (fun cs => by as_aux_lemma => kernel_rfl)
  · exact calls_of_run (P := Try.prog) (f := 50) (args := #[.int .i64 12]) (w := w) (v := .int .i64 (cnt 12)) 400 Try.f50 Try.func50 (fun cs => by as_aux_lemma => kernel_rfl)
  · exact calls_of_run (P := Try.prog) (f := 50) (args := #[.int .i64 13]) (w := w) (v := .int .i64 (cnt 13)) 400 Try.f50 Try.func50 (fun cs => by as_aux_lemma => kernel_rfl)
  · exact calls_of_run (P := Try.prog) (f := 50) (args := #[.int .i64 14]) (w := w) (v := .int .i64 (cnt 14)) 400 Try.f50 Try.func50 (fun cs => by as_aux_lemma => kernel_rfl)
  · exact calls_of_run (P := Try.prog) (f := 50) (args := #[.int .i64 15]) (w := w) (v := .int .i64 (cnt 15)) 400 Try.f50 Try.func50 (fun cs => by as_aux_lemma => kernel_rfl)
theorem impl_HasSet_c (a b : Int) (w : World) : Calls Try.prog 17 #[.int .i64 a, .int .i64 b] w fun e w' => e = .returned (.bool (hasB a b)) ∧ w = w' := by
  rcases ha : setB 4 a with _ | _
  · go_enter Try.func17, Try.ntmps17
    go_wp2_with (go_at_call 51; refine (isSetOf_c _ _ (by omega) _).mono ?_; rintro e w' ⟨rfl, rfl⟩)
    go_ret
    exact ⟨ret_bool (by simp [hasB, ha]), rfl⟩
  · rcases hb : setB 4 b with _ | _
    all_goals
      go_enter Try.func17, Try.ntmps17
      go_wp2_with (go_at_call 51; refine (isSetOf_c _ _ (by omega) _).mono ?_; rintro e w' ⟨rfl, rfl⟩)
      go_ret
      exact ⟨ret_bool (by simp [hasB, ha, hb, lessI]), rfl⟩
end Go.Proofs.Ytemollfejgmlcaa
