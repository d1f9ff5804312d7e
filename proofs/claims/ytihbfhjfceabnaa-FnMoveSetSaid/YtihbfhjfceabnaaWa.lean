/- Contracts of chapter 1's functions on numbers, the program's and the reference's. No condition but those stated. -/
import Derived.Test.YtihbfhjfceabnaaPlainA
namespace Go.Proofs.Ytihbfhjfceabnaa
open Go.RowKit

theorem isSize_c (x : Int) (w : World) : Calls Try.prog 31 #[.int .i64 x] w fun e w' => e = .returned (.bool (sizeB x)) ∧ w = w' := by
  by_cases h : 1 ≤ x ∧ x ≤ 4
  · rw [sizeB_yes h]
    obtain ⟨h1, h2⟩ := h
    go_enter Try.func31, Try.ntmps31
    go_wp2
    go_ret
    exact ⟨rfl, rfl⟩
  · rw [sizeB_no h]
    by_cases h1 : 1 ≤ x
    · have h2 : ¬ x ≤ 4 := fun k => h ⟨h1, k⟩
      clear h
      go_enter Try.func31, Try.ntmps31
      go_wp2
      go_ret
      exact ⟨rfl, rfl⟩
    · clear h
      go_enter Try.func31, Try.ntmps31
      go_wp2
      go_ret
      exact ⟨rfl, rfl⟩
theorem isSetOf_c (s a : Int) (hs : 1 ≤ s ∧ s ≤ 4) (w : World) : Calls Try.prog 32 #[.int .i64 s, .int .i64 a] w fun e w' => e = .returned (.bool (setB s a)) ∧ w = w' := by
  by_cases h : 0 ≤ a ∧ a < 2 ^ s.toNat
  · have e : setB s a = true := by simp only [setB, decide_eq_true_eq]; exact h
    rw [e]
    clear e
    obtain ⟨h1, h2⟩ := h
    rcases four hs with rfl | rfl | rfl | rfl <;> clear hs <;> simp at h2
    all_goals
      go_enter Try.func32, Try.ntmps32
      go_wp2
      go_ret
      exact ⟨rfl, rfl⟩
  · have e : setB s a = false := by simp only [setB, decide_eq_false_iff_not]; exact h
    rw [e]
    clear e
    by_cases h1 : 0 ≤ a
    · have h2 : ¬ a < 2 ^ s.toNat := fun k => h ⟨h1, k⟩
      clear h
      rcases four hs with rfl | rfl | rfl | rfl <;> clear hs <;> simp at h2
      all_goals
        go_enter Try.func32, Try.ntmps32
        go_wp2
        go_ret
        exact ⟨ret_bool (by simp; omega), rfl⟩
    · clear h
      go_enter Try.func32, Try.ntmps32
      go_wp2
      go_ret
      exact ⟨rfl, rfl⟩
theorem fullSet_c (s : Int) (hs : 1 ≤ s ∧ s ≤ 4) (w : World) : Calls Try.prog 38 #[.int .i64 s] w fun e w' => e = .returned (.int .i64 (2 ^ s.toNat - 1)) ∧ w = w' := by
  rcases four hs with rfl | rfl | rfl | rfl
  all_goals
    clear hs
    go_enter Try.func38, Try.ntmps38
    go_wp2
    go_ret
    exact ⟨rfl, rfl⟩
theorem l1In_c (n lo hi : Int) (w : World) : Calls Try.prog 52 #[.int .i64 n, .int .i64 lo, .int .i64 hi] w fun e w' => e = .returned (.bool (decide (lo ≤ n ∧ n ≤ hi))) ∧ w = w' := by
  by_cases h1 : lo ≤ n
  · by_cases h2 : n ≤ hi
    · have e : decide (lo ≤ n ∧ n ≤ hi) = true := by simp [h1, h2]
      rw [e]
      clear e
      go_enter Try.func52, Try.ntmps52
      go_wp2
      go_ret
      exact ⟨rfl, rfl⟩
    · have e : decide (lo ≤ n ∧ n ≤ hi) = false := by simp [h2]
      rw [e]
      clear e
      go_enter Try.func52, Try.ntmps52
      go_wp2
      go_ret
      exact ⟨rfl, rfl⟩
  · have e : decide (lo ≤ n ∧ n ≤ hi) = false := by simp [h1]
    rw [e]
    clear e
    go_enter Try.func52, Try.ntmps52
    go_wp2
    go_ret
    exact ⟨rfl, rfl⟩
theorem spec_SizeValid_c (x : Int) (w : World) : Calls Try.prog 28 #[.int .i64 x] w fun e w' => e = .returned (.bool (sizeB x)) ∧ w = w' := by
  go_enter Try.func28, Try.ntmps28
  go_wp2_with (go_at_call 52; refine (l1In_c _ _ _ _).mono ?_; rintro e w' ⟨rfl, rfl⟩)
  go_ret
  exact ⟨ret_bool (by simp [sizeB]), rfl⟩
theorem l1Any_c (a : Int) (w : World) : Calls Try.prog 29 #[.int .i64 a] w fun e w' => e = .returned (.bool (setB 4 a)) ∧ w = w' := by
  go_enter Try.func29, Try.ntmps29
  go_wp2_with (go_at_call 52; refine (l1In_c _ _ _ _).mono ?_; rintro e w' ⟨rfl, rfl⟩)
  go_ret
  refine ⟨ret_bool ?_, rfl⟩
  by_cases h : 0 ≤ a ∧ a ≤ 15
  · rw [set4_yes h]; simp [h]
  · rw [set4_no h]
    simp only [Bool.and_eq_false_iff, decide_eq_false_iff_not]
    omega
theorem spec_SetValid_c (s a : Int) (w : World) : Calls Try.prog 35 #[.int .i64 s, .int .i64 a] w fun e w' => e = .returned (.bool (validB s a)) ∧ w = w' := by
  by_cases h : 1 ≤ s ∧ s ≤ 4
  · have hs := sizeB_yes h
    rcases four h with rfl | rfl | rfl | rfl
    all_goals
      clear h
      go_enter Try.func35, Try.ntmps35
      go_wp2_with (first | (go_at_call 28; refine (spec_SizeValid_c _ _).mono ?_; rintro e w' ⟨rfl, rfl⟩) | (go_at_call 52; refine (l1In_c _ _ _ _).mono ?_; rintro e w' ⟨rfl, rfl⟩))
      go_ret
      refine ⟨ret_bool ?_, rfl⟩
      rw [Bool.eq_iff_iff]
      simp [validB, hs, setB]
      try omega
  · have hs := sizeB_no h
    clear h
    go_enter Try.func35, Try.ntmps35
    go_wp2_with (go_at_call 28; refine (spec_SizeValid_c _ _).mono ?_; rintro e w' ⟨rfl, rfl⟩)
    go_ret
    exact ⟨ret_bool (by simp [validB, hs]), rfl⟩
theorem OnesCount_c (a : Int) (h : 0 ≤ a ∧ a ≤ 15) (w : World) : Calls Try.prog 39 #[.int .u64 a] w fun e w' => e = .returned (.int .i64 (cnt a)) ∧ w = w' := by
  rcases sixteen h with rfl | rfl | rfl | rfl | rfl | rfl | rfl | rfl | rfl | rfl | rfl | rfl | rfl | rfl | rfl | rfl
  · exact calls_of_run (P := Try.prog) (f := 39) (args := #[.int .u64 0]) (w := w) (v := .int .i64 (cnt 0)) 400 Try.f39 Try.func39 (fun cs => by as_aux_lemma => kernel_rfl)
  · exact calls_of_run (P := Try.prog) (f := 39) (args := #[.int .u64 1]) (w := w) (v := .int .i64 (cnt 1)) 400 Try.f39 Try.func39 (fun cs => by as_aux_lemma => kernel_rfl)
  · exact calls_of_run (P := Try.prog) (f := 39) (args := #[.int .u64 2]) (w := w) (v := .int .i64 (cnt 2)) 400 Try.f39 Try.func39 (fun cs => by as_aux_lemma => kernel_rfl)
  · exact calls_of_run (P := Try.prog) (f := 39) (args := #[.int .u64 3]) (w := w) (v := .int .i64 (cnt 3)) 400 Try.f39 Try.func39 (fun cs => by as_aux_lemma => kernel_rfl)
  · exact calls_of_run (P := Try.prog) (f := 39) (args := #[.int .u64 4]) (w := w) (v := .int .i64 (cnt 4)) 400 Try.f39 Try.func39 (fun cs => by as_aux_lemma => kernel_rfl)
  · exact calls_of_run (P := Try.prog) (f := 39) (args := #[.int .u64 5]) (w := w) (v := .int .i64 (cnt 5)) 400 Try.f39 Try.func39 (fun cs => by as_aux_lemma => kernel_rfl)
  · exact calls_of_run (P := Try.prog) (f := 39) (args := #[.int .u64 6]) (w := w) (v := .int .i64 (cnt 6)) 400 Try.f39 Try.func39 (fun cs => by as_aux_lemma => kernel_rfl)
  · exact calls_of_run (P := Try.prog) (f := 39) (args := #[.int .u64 7]) (w := w) (v := .int .i64 (cnt 7)) 400 Try.f39 Try.func39 (fun cs => by as_aux_lemma => kernel_rfl)
  · exact calls_of_run (P := Try.prog) (f := 39) (args := #[.int .u64 8]) (w := w) (v := .int .i64 (cnt 8)) 400 Try.f39 Try.func39 (fun cs => by as_aux_lemma => kernel_rfl)
  · exact calls_of_run (P := Try.prog) (f := 39) (args := #[.int .u64 9]) (w := w) (v := .int .i64 (cnt 9)) 400 Try.f39 Try.func39 (fun cs => by as_aux_lemma => kernel_rfl)
  · exact calls_of_run (P := Try.prog) (f := 39) (args := #[.int .u64 10]) (w := w) (v := .int .i64 (cnt 10)) 400 Try.f39 Try.func39 (fun cs => by as_aux_lemma => kernel_rfl)
  · exact calls_of_run (P := Try.prog) (f := 39) (args := #[.int .u64 11]) (w := w) (v := .int .i64 (cnt 11)) 400 Try.f39 Try.func39 (fun cs => by as_aux_lemma => kernel_rfl)
  · exact calls_of_run (P := Try.prog) (f := 39) (args := #[.int .u64 12]) (w := w) (v := .int .i64 (cnt 12)) 400 Try.f39 Try.func39 (fun cs => by as_aux_lemma => kernel_rfl)
  · exact calls_of_run (P := Try.prog) (f := 39) (args := #[.int .u64 13]) (w := w) (v := .int .i64 (cnt 13)) 400 Try.f39 Try.func39 (fun cs => by as_aux_lemma => kernel_rfl)
  · exact calls_of_run (P := Try.prog) (f := 39) (args := #[.int .u64 14]) (w := w) (v := .int .i64 (cnt 14)) 400 Try.f39 Try.func39 (fun cs => by as_aux_lemma => kernel_rfl)
  · exact calls_of_run (P := Try.prog) (f := 39) (args := #[.int .u64 15]) (w := w) (v := .int .i64 (cnt 15)) 400 Try.f39 Try.func39 (fun cs => by as_aux_lemma => kernel_rfl)
theorem impl_CountSet_c (a : Int) (w : World) : Calls Try.prog 11 #[.int .i64 a] w fun e w' => e = .returned (.int .i64 (cntI a)) ∧ w = w' := by
  by_cases h : 0 ≤ a ∧ a ≤ 15
  · have hs := set4_yes h
    obtain ⟨h1, h2⟩ := h
    go_enter Try.func11, Try.ntmps11
    go_wp2_with (first | (go_at_call 32; refine (isSetOf_c _ _ (by omega) _).mono ?_; rintro e w' ⟨rfl, rfl⟩) | (go_at_call 39; refine (OnesCount_c _ ⟨h1, h2⟩ _).mono ?_; rintro e w' ⟨rfl, rfl⟩))
    go_ret
    exact ⟨ret_int (by simp [cntI, hs]), rfl⟩
  · have hs := set4_no h
    clear h
    go_enter Try.func11, Try.ntmps11
    go_wp2_with (go_at_call 32; refine (isSetOf_c _ _ (by omega) _).mono ?_; rintro e w' ⟨rfl, rfl⟩)
    go_ret
    exact ⟨ret_int (by simp [cntI, hs]), rfl⟩
theorem impl_OtherSet_c (s a : Int) (w : World) : Calls Try.prog 10 #[.int .i64 s, .int .i64 a] w fun e w' => e = .returned (.int .i64 (otherI s a)) ∧ w = w' := by
  rcases h1 : sizeB s with _ | _
  · go_enter Try.func10, Try.ntmps10
    go_wp2_with (go_at_call 31; refine (isSize_c _ _).mono ?_; rintro e w' ⟨rfl, rfl⟩)
    go_ret
    exact ⟨ret_int (by simp [otherI, validB, h1]), rfl⟩
  · have hs := sizeB_iff.1 h1
    rcases h2 : setB s a with _ | _
    · go_enter Try.func10, Try.ntmps10
      go_wp2_with (first | (go_at_call 31; refine (isSize_c _ _).mono ?_; rintro e w' ⟨rfl, rfl⟩) | (go_at_call 32; refine (isSetOf_c _ _ hs _).mono ?_; rintro e w' ⟨rfl, rfl⟩))
      go_ret
      exact ⟨ret_int (by simp [otherI, validB, h1, h2]), rfl⟩
    · have hv : validB s a = true := by simp [validB, h1, h2]
      obtain ⟨_, ha, hb⟩ := validB_of hv
      go_enter Try.func10, Try.ntmps10
      go_wp2_with (first | (go_at_call 31; refine (isSize_c _ _).mono ?_; rintro e w' ⟨rfl, rfl⟩) | (go_at_call 32; refine (isSetOf_c _ _ hs _).mono ?_; rintro e w' ⟨rfl, rfl⟩) | (go_at_call 38; refine (fullSet_c _ hs _).mono ?_; rintro e w' ⟨rfl, rfl⟩))
      go_ret
      refine ⟨ret_int ?_, rfl⟩
      simp only [otherI, hv, if_true]
      have h15 := setB_of hs h2
      clear h1 h2 hv
      rcases four hs with rfl | rfl | rfl | rfl <;> rcases sixteen h15 with rfl | rfl | rfl | rfl | rfl | rfl | rfl | rfl | rfl | rfl | rfl | rfl | rfl | rfl | rfl | rfl <;> first | rfl | (simp at hb)
end Go.Proofs.Ytihbfhjfceabnaa
