/- Contracts: no evidence; sure of a set: the program's and the reference's. Conditions: none. -/
import Derived.Test.YtemollfejgmlcaaMh
namespace Go.Proofs.Ytemollfejgmlcaa
open Go.RowKit

theorem own_nil0 (w : World) (B : Nat) : Own w B (.slice none 0 0) [] := ⟨World.ownsRow_nil _ _ _ _, by simp⟩
theorem validE {s : Int} (h : sizeB s = true) : (1 ≤ s ∧ s ≤ 4) ∧ (0 ≤ (2 : Int) ^ s.toNat - 1 ∧ (2 : Int) ^ s.toNat - 1 < 2 ^ s.toNat) := by
  have hs := sizeB_iff.1 h
  refine ⟨hs, ?_⟩
  rcases two_pow_cases hs with ⟨_, e⟩ | ⟨_, e⟩ | ⟨_, e⟩ | ⟨_, e⟩ <;> rw [e] <;> omega
theorem pow_wrap {s : Int} (hs : 1 ≤ s ∧ s ≤ 4) : wrap64 (2 ^ s.toNat) = (2 : Int) ^ s.toNat := by
  obtain ⟨N, h1, h2, _⟩ := pow_form hs
  rw [h2, h1]
set_option maxHeartbeats 1000000 in
theorem impl_NoEvidence_c (s : Int) (w : World) : Calls Try.prog 35 #[.int .i64 s] w (MassOk w (sizeB s) s (sureL s (2 ^ s.toNat - 1))) := by
  rcases hb : sizeB s with _ | _
  · go_enter Try.func35, Try.ntmps35
    go_wp2_with (first | (go_at_call 54; refine (isSize_c _ _).mono ?_; rintro e w' ⟨rfl, rfl⟩))
    exact bodyPost_ret (v := .tuple #[.agg #[.int .i64 0, .slice none 0 0], .bool false]) (by simp [results, Try.results35, go_sem]) rfl ⟨none, 0, rfl, own_nil0 _ _, (by repeat (first | exact Below.refl _ _ | (refine Below.alloc ?_ (by first | (simp <;> omega) | omega) _) | (refine Below.setCell ?_ (by first | (simp <;> omega) | omega) _)))⟩
  · obtain ⟨hsr, har⟩ := validE hb
    have hsz : sizeB s = true := sizeB_yes hsr
    go_enter Try.func35, Try.ntmps35
    go_wp2_with (first | (go_at_call 54; refine (isSize_c _ _).mono ?_; rintro e w' ⟨rfl, rfl⟩) | (go_at_call 73; refine (fullSet_c _ hsr _).mono ?_; rintro e w' ⟨rfl, rfl⟩))
    refine (sureMass_c s _ hsr har _).mono ?_
    rintro e w1 ⟨A, C, rfl, ho, hb1⟩
    have c0 : w1.cell? ⟨w.heap.size, 0, none⟩ = some (.int .i64 0) := (hb1.cell (by simp)).trans (by go_simp)
    have c1 : w1.cell? ⟨w.heap.size, 1, none⟩ = some (.slice none 0 0) := (hb1.cell (by simp)).trans (by go_simp)
    have f0 : w1.frozen? ⟨w.heap.size, 0, none⟩ = false := (hb1.frozen (by simp)).trans (by go_simp)
    have f1 : w1.frozen? ⟨w.heap.size, 1, none⟩ = false := (hb1.frozen (by simp)).trans (by go_simp)
    have HLt := Lib.hid (fun g hg => (ho.lt g hg).1)
    have HO := Lib.hid ho
    have HB := Lib.hid (((Below.refl w.heap.size w).alloc (Nat.le_refl _) _).trans (hb1.mono (by simp)))
    clear ho hb1
    go_wp2_with fail
    refine bodyPost_ret (v := .tuple #[.agg #[.int .i64 s, .slice A (sureL s (2 ^ s.toNat - 1)).length C], .bool true]) (by simp [results, Try.results35, go_sem, c0, c1]) rfl ⟨A, C, rfl, ?_, ?_⟩
    · refine Own.low (B := w.heap.size + 1) ?_ (Nat.le_succ _)
      have ho := HO.out
      rw [World.size_alloc] at ho
      have hl : ∀ g, (Value.slice A (sureL s (2 ^ s.toNat - 1)).length C).ownBlock = some g → w.heap.size + 1 ≤ g := fun g hg => (ho.lt g hg).1
      exact (ho.set ⟨w.heap.size, 0, none⟩ (fun g hg => by have := hl g hg; show g ≠ w.heap.size; omega) _).set ⟨w.heap.size, 1, none⟩ (fun g hg => by have := hl g hg; show g ≠ w.heap.size; omega) _
    · exact (HB.out.setCell (Nat.le_refl _) _).setCell (Nat.le_refl _) _
set_option maxHeartbeats 1000000 in
theorem spec_NoEvidence_c (s : Int) (w : World) : Calls Try.prog 37 #[.int .i64 s] w (MassOk w (sizeB s) s (sureL s (2 ^ s.toNat - 1))) := by
  rcases hb : sizeB s with _ | _
  · go_enter Try.func37, Try.ntmps37
    go_wp2_with (first | (go_at_call 56; refine (spec_SizeValid_c _ _).mono ?_; rintro e w' ⟨rfl, rfl⟩))
    exact bodyPost_ret (v := .tuple #[.agg #[.int .i64 0, .slice none 0 0], .bool false]) (by simp [results, Try.results37, go_sem]) rfl ⟨none, 0, rfl, own_nil0 _ _, (by repeat (first | exact Below.refl _ _ | (refine Below.alloc ?_ (by first | (simp <;> omega) | omega) _) | (refine Below.setCell ?_ (by first | (simp <;> omega) | omega) _)))⟩
  · obtain ⟨hsr, har⟩ := validE hb
    obtain ⟨N, hN, hW, hN2, hN16⟩ := pow_form hsr
    rw [hN] at har ⊢
    go_enter Try.func37, Try.ntmps37
    go_wp2_with (first | (go_at_call 56; refine (spec_SizeValid_c _ _).mono ?_; rintro e w' ⟨rfl, rfl⟩))
    refine (l3Sure_c s ((N : Int) - 1) hsr (by rw [hN]; exact har) _).mono ?_
    rintro e w1 ⟨A, C, rfl, ho, hb1⟩
    have c0 : w1.cell? ⟨w.heap.size, 0, none⟩ = some (.int .i64 0) := (hb1.cell (by simp)).trans (by go_simp)
    have c1 : w1.cell? ⟨w.heap.size, 1, none⟩ = some (.slice none 0 0) := (hb1.cell (by simp)).trans (by go_simp)
    have f0 : w1.frozen? ⟨w.heap.size, 0, none⟩ = false := (hb1.frozen (by simp)).trans (by go_simp)
    have f1 : w1.frozen? ⟨w.heap.size, 1, none⟩ = false := (hb1.frozen (by simp)).trans (by go_simp)
    have HLt := Lib.hid (fun g hg => (ho.lt g hg).1)
    have HO := Lib.hid ho
    have HB := Lib.hid (((Below.refl w.heap.size w).alloc (Nat.le_refl _) _).trans (hb1.mono (by simp)))
    clear ho hb1
    go_wp2_with fail
    refine bodyPost_ret (v := .tuple #[.agg #[.int .i64 s, .slice A (sureL s ((N : Int) - 1)).length C], .bool true]) (by simp [results, Try.results37, go_sem, c0, c1]) rfl ⟨A, C, rfl, ?_, ?_⟩
    · refine Own.low (B := w.heap.size + 1) ?_ (Nat.le_succ _)
      have ho := HO.out
      rw [World.size_alloc] at ho
      have hl : ∀ g, (Value.slice A (sureL s ((N : Int) - 1)).length C).ownBlock = some g → w.heap.size + 1 ≤ g := fun g hg => (ho.lt g hg).1
      exact (ho.set ⟨w.heap.size, 0, none⟩ (fun g hg => by have := hl g hg; show g ≠ w.heap.size; omega) _).set ⟨w.heap.size, 1, none⟩ (fun g hg => by have := hl g hg; show g ≠ w.heap.size; omega) _
    · exact (HB.out.setCell (Nat.le_refl _) _).setCell (Nat.le_refl _) _
set_option maxHeartbeats 1000000 in
theorem impl_SureMass_c (s a : Int) (w : World) : Calls Try.prog 34 #[.int .i64 s, .int .i64 a] w (MassOk w (validB s a) s (sureL s a)) := by
  rcases hb : validB s a with _ | _
  · rcases hs : sizeB s with _ | _
    · go_enter Try.func34, Try.ntmps34
      go_wp2_with (first | (go_at_call 54; refine (isSize_c _ _).mono ?_; rintro e w' ⟨rfl, rfl⟩) | (go_at_call 51; refine (isSetOf_c _ _ hsr _).mono ?_; rintro e w' ⟨rfl, rfl⟩))
      exact bodyPost_ret (v := .tuple #[.agg #[.int .i64 0, .slice none 0 0], .bool false]) (by simp [results, Try.results34, go_sem]) rfl ⟨none, 0, rfl, own_nil0 _ _, (by repeat (first | exact Below.refl _ _ | (refine Below.alloc ?_ (by first | (simp <;> omega) | omega) _) | (refine Below.setCell ?_ (by first | (simp <;> omega) | omega) _)))⟩
    · have ht : setB s a = false := by unfold validB at hb; rw [hs] at hb; exact hb
      have hsr := sizeB_iff.1 hs
      clear hb
      go_enter Try.func34, Try.ntmps34
      go_wp2_with (first | (go_at_call 54; refine (isSize_c _ _).mono ?_; rintro e w' ⟨rfl, rfl⟩) | (go_at_call 51; refine (isSetOf_c _ _ hsr _).mono ?_; rintro e w' ⟨rfl, rfl⟩))
      exact bodyPost_ret (v := .tuple #[.agg #[.int .i64 0, .slice none 0 0], .bool false]) (by simp [results, Try.results34, go_sem]) rfl ⟨none, 0, rfl, own_nil0 _ _, (by repeat (first | exact Below.refl _ _ | (refine Below.alloc ?_ (by first | (simp <;> omega) | omega) _) | (refine Below.setCell ?_ (by first | (simp <;> omega) | omega) _)))⟩
  · obtain ⟨hsr, har⟩ := validB_of hb
    have hsz : sizeB s = true := sizeB_yes hsr
    have hst : setB s a = true := by simp [setB, har]
    go_enter Try.func34, Try.ntmps34
    go_wp2_with (first | (go_at_call 54; refine (isSize_c _ _).mono ?_; rintro e w' ⟨rfl, rfl⟩) | (go_at_call 51; refine (isSetOf_c _ _ hsr _).mono ?_; rintro e w' ⟨rfl, rfl⟩))
    refine (sureMass_c s _ hsr har _).mono ?_
    rintro e w1 ⟨A, C, rfl, ho, hb1⟩
    have c0 : w1.cell? ⟨w.heap.size, 0, none⟩ = some (.int .i64 0) := (hb1.cell (by simp)).trans (by go_simp)
    have c1 : w1.cell? ⟨w.heap.size, 1, none⟩ = some (.slice none 0 0) := (hb1.cell (by simp)).trans (by go_simp)
    have f0 : w1.frozen? ⟨w.heap.size, 0, none⟩ = false := (hb1.frozen (by simp)).trans (by go_simp)
    have f1 : w1.frozen? ⟨w.heap.size, 1, none⟩ = false := (hb1.frozen (by simp)).trans (by go_simp)
    have HLt := Lib.hid (fun g hg => (ho.lt g hg).1)
    have HO := Lib.hid ho
    have HB := Lib.hid (((Below.refl w.heap.size w).alloc (Nat.le_refl _) _).trans (hb1.mono (by simp)))
    clear ho hb1
    go_wp2_with fail
    refine bodyPost_ret (v := .tuple #[.agg #[.int .i64 s, .slice A (sureL s a).length C], .bool true]) (by simp [results, Try.results34, go_sem, c0, c1]) rfl ⟨A, C, rfl, ?_, ?_⟩
    · refine Own.low (B := w.heap.size + 1) ?_ (Nat.le_succ _)
      have ho := HO.out
      rw [World.size_alloc] at ho
      have hl : ∀ g, (Value.slice A (sureL s a).length C).ownBlock = some g → w.heap.size + 1 ≤ g := fun g hg => (ho.lt g hg).1
      exact (ho.set ⟨w.heap.size, 0, none⟩ (fun g hg => by have := hl g hg; show g ≠ w.heap.size; omega) _).set ⟨w.heap.size, 1, none⟩ (fun g hg => by have := hl g hg; show g ≠ w.heap.size; omega) _
    · exact (HB.out.setCell (Nat.le_refl _) _).setCell (Nat.le_refl _) _
set_option maxHeartbeats 1000000 in
theorem spec_SureMass_c (s a : Int) (w : World) : Calls Try.prog 36 #[.int .i64 s, .int .i64 a] w (MassOk w (validB s a) s (sureL s a)) := by
  rcases hb : validB s a with _ | _
  · go_enter Try.func36, Try.ntmps36
    go_wp2_with (first | (go_at_call 74; refine (spec_SetValid_c _ _ _).mono ?_; rintro e w' ⟨rfl, rfl⟩))
    exact bodyPost_ret (v := .tuple #[.agg #[.int .i64 0, .slice none 0 0], .bool false]) (by simp [results, Try.results36, go_sem]) rfl ⟨none, 0, rfl, own_nil0 _ _, (by repeat (first | exact Below.refl _ _ | (refine Below.alloc ?_ (by first | (simp <;> omega) | omega) _) | (refine Below.setCell ?_ (by first | (simp <;> omega) | omega) _)))⟩
  · obtain ⟨hsr, har⟩ := validB_of hb
    go_enter Try.func36, Try.ntmps36
    go_wp2_with (first | (go_at_call 74; refine (spec_SetValid_c _ _ _).mono ?_; rintro e w' ⟨rfl, rfl⟩))
    refine (l3Sure_c s _ hsr har _).mono ?_
    rintro e w1 ⟨A, C, rfl, ho, hb1⟩
    have c0 : w1.cell? ⟨w.heap.size, 0, none⟩ = some (.int .i64 0) := (hb1.cell (by simp)).trans (by go_simp)
    have c1 : w1.cell? ⟨w.heap.size, 1, none⟩ = some (.slice none 0 0) := (hb1.cell (by simp)).trans (by go_simp)
    have f0 : w1.frozen? ⟨w.heap.size, 0, none⟩ = false := (hb1.frozen (by simp)).trans (by go_simp)
    have f1 : w1.frozen? ⟨w.heap.size, 1, none⟩ = false := (hb1.frozen (by simp)).trans (by go_simp)
    have HLt := Lib.hid (fun g hg => (ho.lt g hg).1)
    have HO := Lib.hid ho
    have HB := Lib.hid (((Below.refl w.heap.size w).alloc (Nat.le_refl _) _).trans (hb1.mono (by simp)))
    clear ho hb1
    go_wp2_with fail
    refine bodyPost_ret (v := .tuple #[.agg #[.int .i64 s, .slice A (sureL s a).length C], .bool true]) (by simp [results, Try.results36, go_sem, c0, c1]) rfl ⟨A, C, rfl, ?_, ?_⟩
    · refine Own.low (B := w.heap.size + 1) ?_ (Nat.le_succ _)
      have ho := HO.out
      rw [World.size_alloc] at ho
      have hl : ∀ g, (Value.slice A (sureL s a).length C).ownBlock = some g → w.heap.size + 1 ≤ g := fun g hg => (ho.lt g hg).1
      exact (ho.set ⟨w.heap.size, 0, none⟩ (fun g hg => by have := hl g hg; show g ≠ w.heap.size; omega) _).set ⟨w.heap.size, 1, none⟩ (fun g hg => by have := hl g hg; show g ≠ w.heap.size; omega) _
    · exact (HB.out.setCell (Nat.le_refl _) _).setCell (Nat.le_refl _) _
end Go.Proofs.Ytemollfejgmlcaa
