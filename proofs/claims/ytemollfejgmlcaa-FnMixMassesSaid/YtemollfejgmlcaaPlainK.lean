/- What FnSimpleMass, FnMakeMass, FnShares and FnMixMasses ask. No program here. No condition but those stated. -/
import Derived.Test.YtemollfejgmlcaaPlainG
import Derived.Test.YtemollfejgmlcaaPlainJ
import Derived.Test.YtemollfejgmlcaaWf
namespace Go.Proofs.Ytemollfejgmlcaa
open Go.RowKit

/-! A simple mass -/
theorem sure_get {s a : Int} {k : Nat} (hs : 1 ≤ s ∧ s ≤ 4) (ha : 0 ≤ a ∧ a < 2 ^ s.toNat) : (sureL s a).getD k 0 = if k = a.toNat then 1 else 0 := by
  unfold sureL
  rcases two_pow_cases hs with ⟨_, h⟩ | ⟨_, h⟩ | ⟨_, h⟩ | ⟨_, h⟩ <;> (rw [getD_set (by rw [List.length_replicate, h]; omega), getD_replicate])
theorem sure_whole {s a : Int} (hs : 1 ≤ s ∧ s ≤ 4) (ha : 0 ≤ a ∧ a < 2 ^ s.toNat) : whole (sureL s a) = 1 := by
  have h : ∀ s : Fin 5, 1 ≤ s.val → ∀ a : Fin 16, a.val < 2 ^ s.val → whole (sureL (s.val : Int) (a.val : Int)) = 1 := by decide +kernel
  have h2 := two_pow_cases hs
  have := h ⟨s.toNat, by omega⟩ (by show 1 ≤ s.toNat; omega) ⟨a.toNat, by omega⟩ (by
    show a.toNat < 2 ^ s.toNat
    have e : ((2 ^ s.toNat : Nat) : Int) = (2 : Int) ^ s.toNat := by rw [Int.natCast_pow]; rfl
    omega)
  rwa [show ((s.toNat : Nat) : Int) = s by omega, show ((a.toNat : Nat) : Int) = a by omega] at this
theorem sure_len (s a : Int) : (sureL s a).length = ((2 : Int) ^ s.toNat).toNat := by unfold sureL; rw [List.length_set, List.length_replicate]
theorem top_set {s : Int} (hs : 1 ≤ s ∧ s ≤ 4) : 0 ≤ (2 : Int) ^ s.toNat - 1 ∧ (2 : Int) ^ s.toNat - 1 < 2 ^ s.toNat := by
  have := two_pow_cases hs
  omega
theorem sim_mix {s a p q : Int} (hv : validB s a = true) : mixL p q (sureL s a) (sureL s (2 ^ s.toNat - 1)) = simZ s a p q := by
  obtain ⟨hs, ha⟩ := validB_of hv
  have ht := top_set hs
  unfold simZ
  apply ext_getD
  · rw [mixL_len, sure_len, simL_len]
  · intro k hk
    rw [mixL_len] at hk
    rw [mixL_get hk, sure_whole hs ha, sure_whole hs ht, sure_get hs ha, sure_get hs ht]
    rw [sure_len] at hk
    rw [simL_get hk]
    have e : ((2 : Int) ^ s.toNat - 1).toNat = ((2 : Int) ^ s.toNat).toNat - 1 := by omega
    rw [e]
    split <;> split <;> simp
theorem simB_of {s a p q : Int} (h : simB s a p q = true) : validB s a = true ∧ shB p q = true ∧ massB s (madeL (simZ s a p q)) = true := by
  unfold simB madeB at h
  simp only [Bool.and_eq_true] at h
  exact ⟨h.1, h.2.1, h.2.2.2⟩
theorem sim_zero {s a p q : Int} (hv : validB s a = true) {k : Nat} (hk : k < (madeL (simZ s a p q)).length) (h1 : (k : Int) ≠ a) (h2 : (k : Int) ≠ 2 ^ s.toNat - 1) : (madeL (simZ s a p q)).getD k 0 = 0 := by
  obtain ⟨hs, ha⟩ := validB_of hv
  rw [madeL_len] at hk
  rw [madeL_get _ _ hk]
  unfold simZ at hk ⊢
  rw [simL_len] at hk
  rw [simL_get hk, if_neg (by omega), if_neg (by omega)]
  simp
theorem sim_focal {s a p q : Int} (hv : validB s a = true) : ∀ x ∈ focal (madeL (simZ s a p q)) (madeL (simZ s a p q)).length, x = a ∨ x = 2 ^ s.toNat - 1 := by
  intro x hx
  obtain ⟨j, rfl, hj, hz⟩ := focal_mem x hx
  by_cases h1 : (j : Int) = a
  · exact .inl h1
  · by_cases h2 : (j : Int) = 2 ^ s.toNat - 1
    · exact .inr h2
    · exact absurd (sim_zero hv hj h1 h2) hz
theorem comp_top {s a : Int} (hs : 1 ≤ s ∧ s ≤ 4) (ha : 0 ≤ a ∧ a < 2 ^ s.toNat) : compB a (2 ^ s.toNat - 1) = true := by
  have h : ∀ s : Fin 5, 1 ≤ s.val → ∀ a : Fin 16, a.val < 2 ^ s.val → compB (a.val : Int) (2 ^ s.val - 1) = true := by decide +kernel
  have h2 := two_pow_cases hs
  have := h ⟨s.toNat, by omega⟩ (by show 1 ≤ s.toNat; omega) ⟨a.toNat, by omega⟩ (by
    show a.toNat < 2 ^ s.toNat
    have e : ((2 ^ s.toNat : Nat) : Int) = (2 : Int) ^ s.toNat := by rw [Int.natCast_pow]; rfl
    omega)
  rwa [show ((a.toNat : Nat) : Int) = a by omega] at this
theorem sim_nested {s a p q : Int} (h : simB s a p q = true) : nestedB s (madeL (simZ s a p q)) = true := by
  obtain ⟨hv, _, hm⟩ := simB_of h
  obtain ⟨hs, ha⟩ := validB_of hv
  have hr : 0 ≤ a ∧ a ≤ 15 := setB_of hs (by simp [setB, ha])
  have ht := top_set hs
  have hr2 : 0 ≤ (2 : Int) ^ s.toNat - 1 ∧ (2 : Int) ^ s.toNat - 1 ≤ 15 := setB_of hs (by simp only [setB, decide_eq_true_eq]; exact ht)
  unfold nestedB
  rw [hm, Bool.true_and]
  unfold nestL
  rw [List.all_eq_true]
  intro x hx
  rw [List.all_eq_true]
  intro y hy
  rcases sim_focal hv x hx with rfl | rfl <;> rcases sim_focal hv y hy with rfl | rfl
  · exact comp_self hr
  · exact comp_top hs ha
  · rw [comp_symm]; exact comp_top hs ha
  · exact comp_self hr2
theorem sim_normal {s a p q : Int} (h : simB s a p q = true) (h0 : a ≠ 0) : normalB s (madeL (simZ s a p q)) = true := by
  obtain ⟨hv, _, hm⟩ := simB_of h
  obtain ⟨hs, ha⟩ := validB_of hv
  have hl := massB_len hm
  have h2 := two_pow_cases hs
  unfold normalB
  rw [hm, Bool.true_and, sim_zero hv (by omega) (by show ((0 : Nat) : Int) ≠ a; omega) (by show ((0 : Nat) : Int) ≠ _; omega)]
  rfl
/-! A mass that is made -/
theorem mkB_of {s : Int} {zs : List Int} (h : mkB s zs = true) : (1 ≤ s ∧ s ≤ 4) ∧ partsB 1000000000 zs = true ∧ massB s (madeL zs) = true ∧ 0 < gcdL zs := by
  unfold mkB madeB at h
  simp only [Bool.and_eq_true, Bool.not_eq_true'] at h
  have := h.2.2.2.1
  simp only [beq_eq_false_iff_ne, ne_eq] at this
  exact ⟨sizeB_iff.1 h.1, h.2.2.1, h.2.2.2.2, by omega⟩
theorem made_back {zs : List Int} (k : Nat) (hk : k < zs.length) : (madeL zs).getD k 0 * (gcdL zs : Int) = zs.getD k 0 := by
  rw [madeL_get zs k hk]
  exact Int.ediv_mul_cancel (gcdL_dvd _ (getD_mem hk))
theorem mk_again {s : Int} {zs : List Int} (h : massB s zs = true) : mkB s zs = true ∧ madeL zs = zs := by
  obtain ⟨h1, h2⟩ := made_self h
  obtain ⟨hs, hl, hp, _, _⟩ := massB_of h
  refine ⟨?_, h2⟩
  unfold mkB
  rw [h1, sizeB_yes hs]
  simp only [Bool.and_true, Bool.true_and, Bool.and_eq_true]
  exact ⟨by simp [lenB, hl], partsB_yes fun k hk => inB_iff.2 (by have := partsB_get hp hk; omega)⟩
/-! Shares -/
theorem low_one {W : Int} (hW : W ≠ 0) : lowX W W = 1 ∧ lowY W W = 1 := by
  obtain ⟨h1, h2, _⟩ := lowB_of (a := W) (b := W) (x := 1) (y := 1) hW (by decide) (by omega)
  exact ⟨h1, h2⟩
theorem low_nil {W : Int} (hW : W ≠ 0) : lowX 0 W = 0 ∧ lowY 0 W = 1 := by
  obtain ⟨h1, h2, _⟩ := lowB_of (a := 0) (b := W) (x := 0) (y := 1) hW (by decide) (by omega)
  exact ⟨h1, h2⟩
theorem low_zero {x W : Int} (hW : W ≠ 0) : lowX x W = 0 ↔ x = 0 := by
  have hc := low_cross x W
  have hp := lowY_pos (a := x) hW
  constructor
  · intro h
    rw [h, Int.zero_mul] at hc
    rcases Int.mul_eq_zero.1 hc.symm with h1 | h1
    · exact h1
    · omega
  · rintro rfl
    exact (low_nil hW).1
theorem shares_add {x y W : Int} (hx : 0 ≤ x ∧ x ≤ 1000000) (hy : 0 ≤ y ∧ y ≤ 1000000) (hs : x + y ≤ 1000000) (hW : 1 ≤ W ∧ W ≤ 1000000) :
    addB (lowX x W) (lowY x W) (lowX y W) (lowY y W) = true ∧ lowX (lowX x W * lowY y W + lowX y W * lowY x W) (lowY x W * lowY y W) = lowX (x + y) W ∧ lowY (lowX x W * lowY y W + lowX y W * lowY x W) (lowY x W * lowY y W) = lowY (x + y) W := by
  have fx : fracB (lowX x W) (lowY x W) = true := low_share hx hW
  have fy : fracB (lowX y W) (lowY y W) = true := low_share hy hW
  have fz : fracB (lowX (x + y) W) (lowY (x + y) W) = true := low_share (x := x + y) ⟨by omega, hs⟩ hW
  have px := lowY_pos (a := x) (b := W) (by omega)
  have py := lowY_pos (a := y) (b := W) (by omega)
  have cx := low_cross x W
  have cy := low_cross y W
  have cz := low_cross (x + y) W
  generalize lowX x W = X at *
  generalize lowY x W = Y at *
  generalize lowX y W = P at *
  generalize lowY y W = Q at *
  generalize lowX (x + y) W = A at *
  generalize lowY (x + y) W = B at *
  have hM : 0 < Y * Q := Int.mul_pos px py
  have hc : A * (Y * Q) = (X * Q + P * Y) * B := by
    have h1 : A * (Y * Q) * W = (X * Q + P * Y) * B * W := by grind
    exact Int.eq_of_mul_eq_mul_right (by omega) h1
  obtain ⟨e1, e2, e3⟩ := lowB_of (a := X * Q + P * Y) (b := Y * Q) (by omega) fz hc
  refine ⟨?_, e1, e2⟩
  unfold addB
  rw [fx, fy, e3]
  rfl
theorem take_whole {s : Int} {ys : List Int} (hm : massB s ys = true) (k : Nat) : 0 ≤ whole (ys.take k) ∧ whole (ys.take k) ≤ 1000000 := by
  obtain ⟨_, _, hparts, ⟨_, hw2⟩, _⟩ := massB_of hm
  have h1 : whole (ys.take k) + whole (ys.drop k) = whole ys := by unfold whole; rw [← List.sum_append, List.take_append_drop]
  have h2 := whole_nn (zs := ys.drop k) (fun x hx => (partsB_mem hparts x (List.mem_of_mem_drop hx)).1)
  have h3 := whole_nn (zs := ys.take k) (fun x hx => (partsB_mem hparts x (List.mem_of_mem_take hx)).1)
  omega
theorem shares_next {s : Int} {ys : List Int} (hm : massB s ys = true) {k : Nat} (hk : k < ys.length) : addB (lowX (whole (ys.take k)) (whole ys)) (lowY (whole (ys.take k)) (whole ys)) (lowX (ys.getD k 0) (whole ys)) (lowY (ys.getD k 0) (whole ys)) = true ∧
    lowX (lowX (whole (ys.take k)) (whole ys) * lowY (ys.getD k 0) (whole ys) + lowX (ys.getD k 0) (whole ys) * lowY (whole (ys.take k)) (whole ys)) (lowY (whole (ys.take k)) (whole ys) * lowY (ys.getD k 0) (whole ys)) = lowX (whole (ys.take (k + 1))) (whole ys) ∧
    lowY (lowX (whole (ys.take k)) (whole ys) * lowY (ys.getD k 0) (whole ys) + lowX (ys.getD k 0) (whole ys) * lowY (whole (ys.take k)) (whole ys)) (lowY (whole (ys.take k)) (whole ys) * lowY (ys.getD k 0) (whole ys)) = lowY (whole (ys.take (k + 1))) (whole ys) := by
  have h1 := take_whole hm k
  have h2 := take_whole hm (k + 1)
  have h3 := (massB_of hm).2.2.2.1
  rw [whole_take hk] at h2 ⊢
  exact shares_add h1 (mass_get hm k) h2.2 h3
theorem share_in {s : Int} {ys : List Int} (hm : massB s ys = true) {k : Nat} (hk : k < ys.length) : shareB s ys (k : Int) = true := by
  have hl := (massB_of hm).2.1
  unfold shareB
  rw [hm, Bool.true_and]
  simp only [setB, decide_eq_true_eq]
  omega
end Go.Proofs.Ytemollfejgmlcaa
