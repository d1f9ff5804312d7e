/- Contract of the draw of a set and an order. Conditions: as stated. -/
import Derived.Test.YtihbfhjfceabnaaWp
import Derived.Test.YtihbfhjfceabnaaWv
namespace Go.Proofs.Ytihbfhjfceabnaa
open Go.RowKit

theorem row_cell0 {kd : IntKind} {w : World} {b n c : Nat} {zs : List Int} (h : IsRow kd w (some ⟨b, 0, none⟩) n c zs) {k : Nat} (hk : k < n) : w.cell? ⟨b, k, none⟩ = some (.int kd (zs.getD k 0)) := by
  obtain ⟨b', o', e, _, hc⟩ := h.at_ (by omega)
  injection e with e
  injection e with e1 e2
  subst e1 e2
  have := hc k hk
  rwa [Nat.zero_add] at this
theorem own_set0 {w : World} {B pb n c : Nat} {xs : List Int} (h : Own w B (.slice (some ⟨pb, 0, none⟩) n c) xs) (hl : xs.length = n) (k : Nat) (v : Int) (hv : Fits v) : Own (w.setCell ⟨pb, k, none⟩ (.int .i64 v)) B (.slice (some ⟨pb, 0, none⟩) n c) (xs.set k v) := by
  subst hl
  have hst := (h.1.stored k (.int .i64 v)).1
  rw [← List.map_set] at hst
  refine ⟨by rw [List.length_set]; exact hst, fun x hx => ?_⟩
  rcases List.mem_or_eq_of_mem_set hx with h9 | h9
  · exact h.2 x h9
  · rw [h9]; exact hv
theorem own_fz {w : World} {B pb n c : Nat} {xs : List Int} (h : Own w B (.slice (some ⟨pb, 0, none⟩) n c) xs) (hl : xs.length = n) (k : Nat) : w.frozen? ⟨pb, k, none⟩ = false := by
  subst hl
  exact h.1.frozenAt k
set_option maxRecDepth 100000 in
set_option maxHeartbeats 4000000 in
theorem DrawMoveSet_c (A0 : Option Addr) (n0 c0 : Nat) (zs0 : List Int) (w : World) (ha : IsRow .u8 w A0 n0 c0 zs0) :
    Calls Try.prog 7 #[.slice A0 n0 c0] w fun e w' => ∃ s a xs A C, e = .returned (.tuple #[.int .i64 s, .int .i64 a, .slice A xs.length C]) ∧ Own w' w.heap.size (.slice A xs.length C) xs ∧ xs.length ≤ 6 ∧ Below w.heap.size w w' := by
  have HA := Lib.hid ha
  clear ha
  go_enter Try.func7, Try.ntmps7
  go_wp2_with fail
  refine (l14Open_c _ _ _ _ _ HA.out).mono ?_
  rintro e w1 ⟨rfl, hr1, hb1⟩
  have HR1 := Lib.hid hr1
  have HB1 := Lib.hid hb1
  clear hr1 hb1
  go_wp2_with fail
  refine (l1Size_c _ 0 (by omega) _ HR1.out).mono ?_
  rintro e w2 ⟨s, rfl, hs, hr2, hg2⟩
  have HR2 := Lib.hid hr2
  have HB2 := Lib.hid (HB1.out.trans (below_of_grown hg2 (Nat.le_refl _) HB1.out.size))
  clear hr2 hg2
  go_wp2_with fail
  refine (l1Set_c _ _ (by omega) _ HR2.out).mono ?_
  rintro e w3 ⟨a, rfl, hsa, hr3, hg3⟩
  have HR3 := Lib.hid hr3
  have HB3 := Lib.hid (HB2.out.trans (below_of_grown hg3 (Nat.le_refl _) HB2.out.size))
  clear hr3 hg3 hsa
  obtain ⟨q1, q5⟩ := hs
  by_cases h0 : s < 0
  · have h1 : sizeB s = false := sizeB_no (by omega)
    go_wp2_with (go_at_call 28; refine (spec_SizeValid_c _ _).mono ?_; rintro e w' ⟨rfl, rfl⟩)
    refine (l1Order_c _ _ 0 (by omega) (by omega) w _ HB3.out (Nat.le_refl _) HR3.out).mono ?_
    rintro e w4 ⟨xs, A, C, rfl, ho, hl, hb⟩
    have HO := Lib.hid ho
    have HB4 := Lib.hid hb
    clear ho hb
    go_wp2_with fail
    go_ret3
    exact ⟨_, _, xs, A, C, rfl, HO.out.low (by omega), hl, HB4.out⟩
  rcases h1 : sizeB s with _ | _
  · go_wp2_with (go_at_call 28; refine (spec_SizeValid_c _ _).mono ?_; rintro e w' ⟨rfl, rfl⟩)
    refine (l1Order_c _ _ s (by omega) (by omega) w _ HB3.out (Nat.le_refl _) HR3.out).mono ?_
    rintro e w4 ⟨xs, A, C, rfl, ho, hl, hb⟩
    have HO := Lib.hid ho
    have HB4 := Lib.hid hb
    clear ho hb
    go_wp2_with fail
    go_ret3
    exact ⟨_, _, xs, A, C, rfl, HO.out.low (by omega), hl, HB4.out⟩
  obtain ⟨p1, p4⟩ := sizeB_iff.1 h1
  rcases h2 : setB 4 a with _ | _
  all_goals
    go_wp2_with (first | (go_at_call 28; refine (spec_SizeValid_c _ _).mono ?_; rintro e w' ⟨rfl, rfl⟩) | (go_at_call 29; refine (l1Any_c _ _).mono ?_; rintro e w' ⟨rfl, rfl⟩))
    refine (l1Order_c _ _ s (by omega) (by omega) w _ HB3.out (Nat.le_refl _) HR3.out).mono ?_
    rintro e w4 ⟨xs, A, C, rfl, ho, hl, hb⟩
    have HO := Lib.hid ho
    have HB4 := Lib.hid hb
    clear ho hb
    go_wp2_with fail
    go_ret3
    exact ⟨_, _, xs, A, C, rfl, HO.out.low (by omega), hl, HB4.out⟩
end Go.Proofs.Ytihbfhjfceabnaa
