/- Contracts: a mass made of parts, shares. Conditions: as stated. -/
import Derived.Test.YtemollfejgmlcaaMj
import Derived.Deep.RegionWith
namespace Go.Proofs.Ytemollfejgmlcaa
open Go.RowKit

theorem mkB_no1 {s : Int} {zs : List Int} (h : sizeB s = false) : mkB s zs = false := by simp [mkB, h]
theorem mkB_no2 {s : Int} {zs : List Int} (h : lenB s zs = false) : mkB s zs = false := by simp [mkB, h]
theorem mkB_no3 {s : Int} {zs : List Int} (h : partsB 1000000000 zs = false) : mkB s zs = false := by simp [mkB, h]
theorem mkB_yes {s : Int} {zs : List Int} (h1 : sizeB s = true) (h2 : lenB s zs = true) (h3 : partsB 1000000000 zs = true) : mkB s zs = madeB s zs := by simp [mkB, h1, h2, h3]
set_option maxHeartbeats 2000000 in
theorem impl_MakeMass_c (s : Int) (a : Option Addr) (n c : Nat) (zs : List Int) (w : World) (ha : IsRow .i64 w a n c zs) :
    Calls Try.prog 19 #[.int .i64 s, .slice a n c] w (MassOk w (mkB s zs) s (madeL zs)) := by
  have HL := Lib.hid ha.len
  have hac := (ha.alloc (.cells #[.int .i64 0, .slice none 0 0] 25)).at_
  have HR := Lib.hid ha
  clear ha
  rcases hs : sizeB s with _ | _
  · have HN := Lib.hid (mkB_no1 (zs := zs) hs)
    go_enter Try.func19, Try.ntmps19
    go_wp2_with (go_at_call 54; refine (isSize_c _ _).mono ?_; rintro e w' ⟨rfl, rfl⟩)
    refine bodyPost_ret (v := .tuple #[.agg #[.int .i64 0, .slice none 0 0], .bool false]) (by simp [results, Try.results19, go_sem]) rfl ?_
    rw [HN.out]
    exact ⟨none, 0, rfl, own_nil0 _ _, (by repeat (first | exact Below.refl _ _ | (refine Below.alloc ?_ (by first | (simp <;> omega) | omega) _) | (refine Below.setCell ?_ (by first | exact Nat.le_refl _ | (simp <;> omega) | omega) _)))⟩
  have hsr := sizeB_iff.1 hs
  obtain ⟨N, hN, hW, hN2, hN16⟩ := pow_form hsr
  obtain ⟨s0, s1⟩ := hsr
  by_cases hlen : n = N
  · subst hlen
    have hnn : ((n : Int) != (n : Int)) = false := by simp
    have hlb : lenB s zs = true := by unfold lenB; rw [decide_eq_true_eq, HL.out, hN]
    have HY := Lib.hid (fun h => mkB_yes (zs := zs) hs hlb h)
    clear hN hlb
    go_enter Try.func19, Try.ntmps19
    go_wp2_with (go_at_call 54; refine (isSize_c _ _).mono ?_; rintro e w' ⟨rfl, rfl⟩)
    clear hW hnn
    go_loop [21] (fun i => ∃ k : Nat, k ≤ n ∧ i = .int .i64 k ∧ ∀ j, j < k → inB 0 1000000000 (zs.getD j 0) = true) (fun i => n - (intOf i).toNat)
    case atStart => exact ⟨0, Nat.zero_le _, rfl, fun j hj => absurd hj (by omega)⟩
    case round =>
      obtain ⟨k, hk, rfl, hall⟩ := hrel
      have HALL := Lib.hid hall
      clear hall
      by_cases hlt : k < n
      · obtain ⟨b1, o1, rfl, _, h1⟩ := hac (by omega)
        have g1 := h1 k hlt
        clear h1 hac
        rcases hx : inB 0 1000000000 (zs.getD k 0) with _ | _
        · have HN := Lib.hid (mkB_no3 (s := s) (partsB_no (by have := HL.out; omega) hx))
          have hx2 := inB_no.1 hx
          clear hx HALL
          generalize zs.getD k 0 = x at *
          by_cases hx0 : x < 0
          · have hx0d : decide (x < 0) = true := by simpa using hx0
            clear hx2
            go_wp2_with fail
            refine bodyPost_ret (v := .tuple #[.agg #[.int .i64 0, .slice none 0 0], .bool false]) (by simp [results, Try.results19, go_sem]) rfl ?_
            rw [HN.out]
            exact ⟨none, 0, rfl, own_nil0 _ _, (by repeat (first | exact Below.refl _ _ | (refine Below.alloc ?_ (by first | (simp <;> omega) | omega) _) | (refine Below.setCell ?_ (by first | exact Nat.le_refl _ | (simp <;> omega) | omega) _)))⟩
          · have hx0d : decide (x < 0) = false := by simpa using hx0
            have hx3 : 1000000000 < x := by omega
            clear hx2
            go_wp2_with fail
            refine bodyPost_ret (v := .tuple #[.agg #[.int .i64 0, .slice none 0 0], .bool false]) (by simp [results, Try.results19, go_sem]) rfl ?_
            rw [HN.out]
            exact ⟨none, 0, rfl, own_nil0 _ _, (by repeat (first | exact Below.refl _ _ | (refine Below.alloc ?_ (by first | (simp <;> omega) | omega) _) | (refine Below.setCell ?_ (by first | exact Nat.le_refl _ | (simp <;> omega) | omega) _)))⟩
        · have HQ : Hid (∀ j, j < k + 1 → inB 0 1000000000 (zs.getD j 0) = true) := Lib.hid (by
            intro j hj
            by_cases h : j = k
            · rw [h]; exact hx
            · exact HALL.out j (by omega))
          obtain ⟨x1, x2⟩ := inB_iff.1 hx
          clear hx HALL
          generalize zs.getD k 0 = x at *
          have hx0d : decide (x < 0) = false := by simpa using x1
          go_wp2_with fail
          go_round
          case rel => exact ⟨k + 1, by omega, by go_num, HQ.out⟩
          case measure => simp [intOf]; omega
      · have hkn : k = n := by omega
        subst hkn
        have HP := Lib.hid (partsB_yes (zs := zs) (by rw [HL.out]; exact HALL.out))
        have HN := Lib.hid (HY.out HP.out)
        have HS := Lib.hid (nns_of_parts HP.out (by omega))
        clear hac
        go_wp2_with fail
        refine (makeMass_c _ _ _ _ zs HS.out hN16 _ (HR.out.alloc _)).mono ?_
        rintro e w1 ⟨B, C, rfl, ho, hb⟩
        have c0 : w1.cell? ⟨w.heap.size, 0, none⟩ = some (.int .i64 0) := (hb.cell (by simp)).trans (by go_simp)
        have c1 : w1.cell? ⟨w.heap.size, 1, none⟩ = some (.slice none 0 0) := (hb.cell (by simp)).trans (by go_simp)
        have f0 : w1.frozen? ⟨w.heap.size, 0, none⟩ = false := (hb.frozen (by simp)).trans (by go_simp)
        have f1 : w1.frozen? ⟨w.heap.size, 1, none⟩ = false := (hb.frozen (by simp)).trans (by go_simp)
        have HO : Hid (Own w1 (w.heap.size + 1) (.slice B (selL (madeB s zs) (madeL zs)).length C) (selL (madeB s zs) (madeL zs))) := Lib.hid (ho.low (by simp))
        have HB := Lib.hid (((Below.refl w.heap.size w).alloc (Nat.le_refl _) _).trans (hb.mono (by simp)))
        clear ho hb
        go_wp2_with fail
        refine bodyPost_ret (v := .tuple #[.agg #[.int .i64 (sel (madeB s zs) s), .slice B (selL (madeB s zs) (madeL zs)).length C], .bool (madeB s zs)]) (by simp [results, Try.results19, go_sem, c0, c1]) rfl ?_
        rw [HN.out]
        refine ⟨B, C, rfl, ?_, (HB.out.setCell (Nat.le_refl _) _).setCell (Nat.le_refl _) _⟩
        refine Own.low (B := w.heap.size + 1) ?_ (Nat.le_succ _)
        exact (HO.out.set ⟨w.heap.size, 0, none⟩ (fun g hg => by have h1 := (HO.out.lt g hg).1; show g ≠ w.heap.size; omega) _).set ⟨w.heap.size, 1, none⟩ (fun g hg => by have h1 := (HO.out.lt g hg).1; show g ≠ w.heap.size; omega) _
  · have hlb : lenB s zs = false := by unfold lenB; rw [decide_eq_false_iff_not, HL.out, hN]; omega
    have HN := Lib.hid (mkB_no2 hlb)
    have hne : ((n : Int) != (N : Int)) = true := by simp; omega
    clear hlb hN hlen
    go_enter Try.func19, Try.ntmps19
    go_wp2_with (go_at_call 54; refine (isSize_c _ _).mono ?_; rintro e w' ⟨rfl, rfl⟩)
    refine bodyPost_ret (v := .tuple #[.agg #[.int .i64 0, .slice none 0 0], .bool false]) (by simp [results, Try.results19, go_sem]) rfl ?_
    rw [HN.out]
    exact ⟨none, 0, rfl, own_nil0 _ _, (by repeat (first | exact Below.refl _ _ | (refine Below.alloc ?_ (by first | (simp <;> omega) | omega) _) | (refine Below.setCell ?_ (by first | exact Nat.le_refl _ | (simp <;> omega) | omega) _)))⟩
set_option maxHeartbeats 2000000 in
theorem spec_MakeMass_c (s : Int) (a : Option Addr) (n c : Nat) (zs : List Int) (w : World) (ha : IsRow .i64 w a n c zs) :
    Calls Try.prog 20 #[.int .i64 s, .slice a n c] w (MassOk w (mkB s zs) s (madeL zs)) := by
  have HL := Lib.hid ha.len
  have HR := Lib.hid ha
  clear ha
  rcases hs : sizeB s with _ | _
  · have HN := Lib.hid (mkB_no1 (zs := zs) hs)
    go_enter Try.func20, Try.ntmps20
    go_wp2_with (go_at_call 56; refine (spec_SizeValid_c _ _).mono ?_; rintro e w' ⟨rfl, rfl⟩)
    refine bodyPost_ret (v := .tuple #[.agg #[.int .i64 0, .slice none 0 0], .bool false]) (by simp [results, Try.results20, go_sem]) rfl ?_
    rw [HN.out]
    exact ⟨none, 0, rfl, own_nil0 _ _, (by repeat (first | exact Below.refl _ _ | (refine Below.alloc ?_ (by first | (simp <;> omega) | omega) _) | (refine Below.setCell ?_ (by first | exact Nat.le_refl _ | (simp <;> omega) | omega) _)))⟩
  have hsr := sizeB_iff.1 hs
  obtain ⟨N, hN, hW, hN2, hN16⟩ := pow_form hsr
  obtain ⟨s0, s1⟩ := hsr
  by_cases hlen : n = N
  · subst hlen
    have hnn : ((n : Int) != (n : Int)) = false := by simp
    have hlb : lenB s zs = true := by unfold lenB; rw [decide_eq_true_eq, HL.out, hN]
    have HY := Lib.hid (fun h => mkB_yes (zs := zs) hs hlb h)
    have HN16 := Lib.hid hN16
    clear hN hlb
    rcases hp : partsB 1000000000 zs with _ | _
    · have HN := Lib.hid (mkB_no3 (s := s) hp)
      have hsm : sumM 1000000000 zs = -1 := by unfold sumM; rw [hp]; rfl
      go_enter Try.func20, Try.ntmps20
      go_wp2_with (first | (go_at_call 56; refine (spec_SizeValid_c _ _).mono ?_; rintro e w' ⟨rfl, rfl⟩) | (go_at_call 57; refine (l3Sum_c _ _ _ _ zs (by omega) HN16.out _ (HR.out.alloc _)).mono ?_; rintro e w' ⟨rfl, rfl⟩))
      refine bodyPost_ret (v := .tuple #[.agg #[.int .i64 0, .slice none 0 0], .bool false]) (by simp [results, Try.results20, go_sem]) rfl ?_
      rw [HN.out]
      exact ⟨none, 0, rfl, own_nil0 _ _, (by repeat (first | exact Below.refl _ _ | (refine Below.alloc ?_ (by first | (simp <;> omega) | omega) _) | (refine Below.setCell ?_ (by first | exact Nat.le_refl _ | (simp <;> omega) | omega) _)))⟩
    · have HP := Lib.hid hp
      have HN := Lib.hid (HY.out hp)
      have HS := Lib.hid (nns_of_parts hp (by omega))
      have hsm : 0 ≤ sumM 1000000000 zs := by unfold sumM; rw [hp, if_pos rfl]; exact whole_nn fun x hx => (partsB_mem hp x hx).1
      have hsd : decide (sumM 1000000000 zs < 0) = false := by simpa using hsm
      clear hp
      go_enter Try.func20, Try.ntmps20
      go_wp2_with (first | (go_at_call 56; refine (spec_SizeValid_c _ _).mono ?_; rintro e w' ⟨rfl, rfl⟩) | (go_at_call 57; refine (l3Sum_c _ _ _ _ zs (by omega) HN16.out _ (HR.out.alloc _)).mono ?_; rintro e w' ⟨rfl, rfl⟩))
      refine (l3Made_c _ _ _ _ zs HS.out HN16.out _ (HR.out.alloc _)).mono ?_
      rintro e w1 ⟨B, C, rfl, ho, hb⟩
      have c0 : w1.cell? ⟨w.heap.size, 0, none⟩ = some (.int .i64 0) := (hb.cell (by simp)).trans (by go_simp)
      have c1 : w1.cell? ⟨w.heap.size, 1, none⟩ = some (.slice none 0 0) := (hb.cell (by simp)).trans (by go_simp)
      have f0 : w1.frozen? ⟨w.heap.size, 0, none⟩ = false := (hb.frozen (by simp)).trans (by go_simp)
      have f1 : w1.frozen? ⟨w.heap.size, 1, none⟩ = false := (hb.frozen (by simp)).trans (by go_simp)
      have HO : Hid (Own w1 (w.heap.size + 1) (.slice B (selL (madeB s zs) (madeL zs)).length C) (selL (madeB s zs) (madeL zs))) := Lib.hid (ho.low (by simp))
      have HB := Lib.hid (((Below.refl w.heap.size w).alloc (Nat.le_refl _) _).trans (hb.mono (by simp)))
      clear ho hb
      go_wp2_with fail
      refine bodyPost_ret (v := .tuple #[.agg #[.int .i64 (sel (madeB s zs) s), .slice B (selL (madeB s zs) (madeL zs)).length C], .bool (madeB s zs)]) (by simp [results, Try.results20, go_sem, c0, c1]) rfl ?_
      rw [HN.out]
      refine ⟨B, C, rfl, ?_, (HB.out.setCell (Nat.le_refl _) _).setCell (Nat.le_refl _) _⟩
      refine Own.low (B := w.heap.size + 1) ?_ (Nat.le_succ _)
      exact (HO.out.set ⟨w.heap.size, 0, none⟩ (fun g hg => by have h1 := (HO.out.lt g hg).1; show g ≠ w.heap.size; omega) _).set ⟨w.heap.size, 1, none⟩ (fun g hg => by have h1 := (HO.out.lt g hg).1; show g ≠ w.heap.size; omega) _
  · have hlb : lenB s zs = false := by unfold lenB; rw [decide_eq_false_iff_not, HL.out, hN]; omega
    have HN := Lib.hid (mkB_no2 hlb)
    have hne : ((n : Int) != (N : Int)) = true := by simp; omega
    clear hlb hN hlen
    go_enter Try.func20, Try.ntmps20
    go_wp2_with (go_at_call 56; refine (spec_SizeValid_c _ _).mono ?_; rintro e w' ⟨rfl, rfl⟩)
    refine bodyPost_ret (v := .tuple #[.agg #[.int .i64 0, .slice none 0 0], .bool false]) (by simp [results, Try.results20, go_sem]) rfl ?_
    rw [HN.out]
    exact ⟨none, 0, rfl, own_nil0 _ _, (by repeat (first | exact Below.refl _ _ | (refine Below.alloc ?_ (by first | (simp <;> omega) | omega) _) | (refine Below.setCell ?_ (by first | exact Nat.le_refl _ | (simp <;> omega) | omega) _)))⟩
set_option maxHeartbeats 1000000 in
theorem isShare_c (x y : Int) (w : World) : Calls Try.prog 72 #[.agg #[.int .i64 x, .int .i64 y]] w fun e w' => e = .returned (.bool (shB x y)) ∧ Below w.heap.size w w' := by
  rcases hf : fracB x y with _ | _
  · have HE : Hid (shB x y = false) := Lib.hid (by simp [shB, hf])
    go_enter Try.func72, Try.ntmps72
    go_wp2_with fail
    refine (isFraction_c _ _ _).mono ?_
    rintro e w1 ⟨rfl, hb⟩
    have HB := Lib.hid (((Below.refl w.heap.size w).alloc (Nat.le_refl _) _).trans (hb.mono (by simp)))
    clear hb
    go_wp2_with fail
    go_ret
    exact ⟨ret_bool HE.out.symm, HB.out⟩
  · have HE : Hid (shB x y = decide (0 ≤ x ∧ x ≤ y)) := Lib.hid (by simp [shB, hf, inB])
    by_cases h1 : 0 ≤ x
    · by_cases h2 : x ≤ y
      · have HD : Hid (decide (0 ≤ x ∧ x ≤ y) = true) := Lib.hid (by simp [h1, h2])
        have hd := HD.out
        go_enter Try.func72, Try.ntmps72
        go_wp2_with fail
        refine (isFraction_c _ _ _).mono ?_
        rintro e w1 ⟨rfl, hb⟩
        have HB := Lib.hid (((Below.refl w.heap.size w).alloc (Nat.le_refl _) _).trans (hb.mono (by simp)))
        have k0 : w1.cell? ⟨w.heap.size, 0, none⟩ = some (.int .i64 x) := (hb.cell (by simp)).trans (by go_simp)
        have k1 : w1.cell? ⟨w.heap.size, 1, none⟩ = some (.int .i64 y) := (hb.cell (by simp)).trans (by go_simp)
        clear hb
        go_wp2_with fail
        go_ret
        exact ⟨ret_bool (by rw [HE.out, HD.out]; try (simp; omega)), HB.out⟩
      · have HD : Hid (decide (0 ≤ x ∧ x ≤ y) = false) := Lib.hid (by simp [h2])
        have hd := HD.out
        go_enter Try.func72, Try.ntmps72
        go_wp2_with fail
        refine (isFraction_c _ _ _).mono ?_
        rintro e w1 ⟨rfl, hb⟩
        have HB := Lib.hid (((Below.refl w.heap.size w).alloc (Nat.le_refl _) _).trans (hb.mono (by simp)))
        have k0 : w1.cell? ⟨w.heap.size, 0, none⟩ = some (.int .i64 x) := (hb.cell (by simp)).trans (by go_simp)
        have k1 : w1.cell? ⟨w.heap.size, 1, none⟩ = some (.int .i64 y) := (hb.cell (by simp)).trans (by go_simp)
        clear hb
        go_wp2_with fail
        go_ret
        exact ⟨ret_bool (by rw [HE.out, HD.out]; try (simp; omega)), HB.out⟩
    · have HD : Hid (decide (0 ≤ x ∧ x ≤ y) = false) := Lib.hid (by simp [h1])
      have hd := HD.out
      go_enter Try.func72, Try.ntmps72
      go_wp2_with fail
      refine (isFraction_c _ _ _).mono ?_
      rintro e w1 ⟨rfl, hb⟩
      have HB := Lib.hid (((Below.refl w.heap.size w).alloc (Nat.le_refl _) _).trans (hb.mono (by simp)))
      have k0 : w1.cell? ⟨w.heap.size, 0, none⟩ = some (.int .i64 x) := (hb.cell (by simp)).trans (by go_simp)
      have k1 : w1.cell? ⟨w.heap.size, 1, none⟩ = some (.int .i64 y) := (hb.cell (by simp)).trans (by go_simp)
      clear hb
      go_wp2_with fail
      go_ret
      exact ⟨ret_bool (by rw [HE.out, HD.out]; try (simp; omega)), HB.out⟩
set_option maxHeartbeats 1000000 in
theorem l3Share_c (x y : Int) (w : World) : Calls Try.prog 75 #[.agg #[.int .i64 x, .int .i64 y]] w fun e w' => e = .returned (.bool (shB x y)) ∧ Below w.heap.size w w' := by
  rcases hf : fracB x y with _ | _
  · have HE : Hid (shB x y = false) := Lib.hid (by simp [shB, hf])
    go_enter Try.func75, Try.ntmps75
    go_wp2_with fail
    refine (spec_FractionValid_c _ _ _).mono ?_
    rintro e w1 ⟨rfl, hb⟩
    have HB := Lib.hid (((Below.refl w.heap.size w).alloc (Nat.le_refl _) _).trans (hb.mono (by simp)))
    clear hb
    go_wp2_with fail
    go_ret
    exact ⟨ret_bool HE.out.symm, HB.out⟩
  · have HE : Hid (shB x y = decide (0 ≤ x ∧ x ≤ y)) := Lib.hid (by simp [shB, hf, inB])
    by_cases h1 : 0 ≤ x
    · by_cases h2 : x ≤ y
      · have HD : Hid (decide (0 ≤ x ∧ x ≤ y) = true) := Lib.hid (by simp [h1, h2])
        have hd := HD.out
        go_enter Try.func75, Try.ntmps75
        go_wp2_with fail
        refine (spec_FractionValid_c _ _ _).mono ?_
        rintro e w1 ⟨rfl, hb⟩
        have HB := Lib.hid (((Below.refl w.heap.size w).alloc (Nat.le_refl _) _).trans (hb.mono (by simp)))
        have k0 : w1.cell? ⟨w.heap.size, 0, none⟩ = some (.int .i64 x) := (hb.cell (by simp)).trans (by go_simp)
        have k1 : w1.cell? ⟨w.heap.size, 1, none⟩ = some (.int .i64 y) := (hb.cell (by simp)).trans (by go_simp)
        clear hb
        go_wp2_with (go_at_call 83; refine (l1In_c _ _ _ _).mono ?_; rintro e w' ⟨rfl, rfl⟩)
        go_ret
        exact ⟨ret_bool (by rw [HE.out, HD.out]; try (simp; omega)), HB.out⟩
      · have HD : Hid (decide (0 ≤ x ∧ x ≤ y) = false) := Lib.hid (by simp [h2])
        have hd := HD.out
        go_enter Try.func75, Try.ntmps75
        go_wp2_with fail
        refine (spec_FractionValid_c _ _ _).mono ?_
        rintro e w1 ⟨rfl, hb⟩
        have HB := Lib.hid (((Below.refl w.heap.size w).alloc (Nat.le_refl _) _).trans (hb.mono (by simp)))
        have k0 : w1.cell? ⟨w.heap.size, 0, none⟩ = some (.int .i64 x) := (hb.cell (by simp)).trans (by go_simp)
        have k1 : w1.cell? ⟨w.heap.size, 1, none⟩ = some (.int .i64 y) := (hb.cell (by simp)).trans (by go_simp)
        clear hb
        go_wp2_with (go_at_call 83; refine (l1In_c _ _ _ _).mono ?_; rintro e w' ⟨rfl, rfl⟩)
        go_ret
        exact ⟨ret_bool (by rw [HE.out, HD.out]; try (simp; omega)), HB.out⟩
    · have HD : Hid (decide (0 ≤ x ∧ x ≤ y) = false) := Lib.hid (by simp [h1])
      have hd := HD.out
      go_enter Try.func75, Try.ntmps75
      go_wp2_with fail
      refine (spec_FractionValid_c _ _ _).mono ?_
      rintro e w1 ⟨rfl, hb⟩
      have HB := Lib.hid (((Below.refl w.heap.size w).alloc (Nat.le_refl _) _).trans (hb.mono (by simp)))
      have k0 : w1.cell? ⟨w.heap.size, 0, none⟩ = some (.int .i64 x) := (hb.cell (by simp)).trans (by go_simp)
      have k1 : w1.cell? ⟨w.heap.size, 1, none⟩ = some (.int .i64 y) := (hb.cell (by simp)).trans (by go_simp)
      clear hb
      go_wp2_with (go_at_call 83; refine (l1In_c _ _ _ _).mono ?_; rintro e w' ⟨rfl, rfl⟩)
      go_ret
      exact ⟨ret_bool (by rw [HE.out, HD.out]; try (simp; omega)), HB.out⟩
set_option maxHeartbeats 1000000 in
theorem l3Set_c (s : Int) (a : Option Addr) (n c : Nat) (zs : List Int) (A : Int) (w : World) (ha : IsRow .i64 w a n c zs) :
    Calls Try.prog 64 #[.agg #[.int .i64 s, .slice a n c], .int .i64 A] w fun e w' => e = .returned (.bool (shareB s zs A)) ∧ Below w.heap.size w w' := by
  have HR := Lib.hid ha
  clear ha
  rcases hm : massB s zs with _ | _
  · have HE : Hid (shareB s zs A = false) := Lib.hid (by simp [shareB, hm])
    go_enter Try.func64, Try.ntmps64
    go_wp2_with fail
    refine (spec_MassValid_c _ _ _ _ zs _ (HR.out.alloc _)).mono ?_
    rintro e w1 ⟨rfl, hb⟩
    have HB := Lib.hid (((Below.refl w.heap.size w).alloc (Nat.le_refl _) _).trans (hb.mono (by simp)))
    clear hb
    go_wp2_with fail
    go_ret
    exact ⟨ret_bool HE.out.symm, HB.out⟩
  · have HE : Hid (shareB s zs A = validB s A) := Lib.hid (by simp [shareB, validB, hm, sizeB_yes (massB_of hm).1])
    go_enter Try.func64, Try.ntmps64
    go_wp2_with fail
    refine (spec_MassValid_c _ _ _ _ zs _ (HR.out.alloc _)).mono ?_
    rintro e w1 ⟨rfl, hb⟩
    have HB := Lib.hid (((Below.refl w.heap.size w).alloc (Nat.le_refl _) _).trans (hb.mono (by simp)))
    have k0 : w1.cell? ⟨w.heap.size, 0, none⟩ = some (.int .i64 s) := (hb.cell (by simp)).trans (by go_simp)
    clear hb
    go_wp2_with (go_at_call 74; refine (spec_SetValid_c _ _ _).mono ?_; rintro e w' ⟨rfl, rfl⟩)
    go_ret
    exact ⟨ret_bool HE.out.symm, HB.out⟩
set_option maxHeartbeats 4000000 in
theorem impl_ShareOf_c (s : Int) (a : Option Addr) (n c : Nat) (zs : List Int) (A : Int) (w : World) (ha : IsRow .i64 w a n c zs) :
    Calls Try.prog 24 #[.agg #[.int .i64 s, .slice a n c], .int .i64 A] w fun e w' => e = .returned (.tuple #[.agg #[.int .i64 (sel (shareB s zs A) (lowX (zs.getD A.toNat 0) (whole zs))), .int .i64 (sel (shareB s zs A) (lowY (zs.getD A.toNat 0) (whole zs)))], .bool (shareB s zs A)]) ∧ Below w.heap.size w w' := by
  have HR := Lib.hid ha
  clear ha
  rcases hm : massB s zs with _ | _
  · have HN : Hid (shareB s zs A = false) := Lib.hid (by simp [shareB, hm])
    go_enter Try.func24, Try.ntmps24
    go_wp2_with fail
    refine (isMass_c _ _ _ _ zs _ ((HR.out.alloc _).alloc _)).mono ?_
    rintro e w1 ⟨rfl, hb⟩
    have c0 : w1.cell? ⟨w.heap.size + 1, 0, none⟩ = some (.int .i64 0) := (hb.cell (by simp)).trans (by go_simp)
    have c1 : w1.cell? ⟨w.heap.size + 1, 1, none⟩ = some (.int .i64 0) := (hb.cell (by simp)).trans (by go_simp)
    have f0 : w1.frozen? ⟨w.heap.size + 1, 0, none⟩ = false := (hb.frozen (by simp)).trans (by go_simp)
    have f1 : w1.frozen? ⟨w.heap.size + 1, 1, none⟩ = false := (hb.frozen (by simp)).trans (by go_simp)
    have k0 : w1.cell? ⟨w.heap.size, 0, none⟩ = some (.int .i64 s) := (hb.cell (by simp <;> omega)).trans (by go_simp)
    have k1 : w1.cell? ⟨w.heap.size, 1, none⟩ = some (.slice a n c) := (hb.cell (by simp <;> omega)).trans (by go_simp)
    have HB := Lib.hid ((((Below.refl w.heap.size w).alloc (Nat.le_refl _) _).alloc (by simp) _).trans (hb.mono (by simp <;> omega)))
    have hz : w.heap.size + 1 < w1.heap.size := by have := hb.size; simp at this; omega
    have hz0 : w.heap.size < w1.heap.size := by omega
    clear hb
    go_wp2_with fail
    refine bodyPost_ret (v := .tuple #[.agg #[.int .i64 0, .int .i64 0], .bool false]) (by simp [results, Try.results24, go_sem, c0, c1]) rfl ?_
    rw [HN.out]
    exact ⟨rfl, (by repeat (first | exact HB.out | (refine Below.setCell ?_ (by first | exact Nat.le_refl _ | (simp <;> omega) | omega) _)))⟩
  have hsr := (massB_of hm).1
  rcases ht : setB s A with _ | _
  · have HN : Hid (shareB s zs A = false) := Lib.hid (by simp [shareB, ht])
    go_enter Try.func24, Try.ntmps24
    go_wp2_with fail
    refine (isMass_c _ _ _ _ zs _ ((HR.out.alloc _).alloc _)).mono ?_
    rintro e w1 ⟨rfl, hb⟩
    have c0 : w1.cell? ⟨w.heap.size + 1, 0, none⟩ = some (.int .i64 0) := (hb.cell (by simp)).trans (by go_simp)
    have c1 : w1.cell? ⟨w.heap.size + 1, 1, none⟩ = some (.int .i64 0) := (hb.cell (by simp)).trans (by go_simp)
    have f0 : w1.frozen? ⟨w.heap.size + 1, 0, none⟩ = false := (hb.frozen (by simp)).trans (by go_simp)
    have f1 : w1.frozen? ⟨w.heap.size + 1, 1, none⟩ = false := (hb.frozen (by simp)).trans (by go_simp)
    have k0 : w1.cell? ⟨w.heap.size, 0, none⟩ = some (.int .i64 s) := (hb.cell (by simp <;> omega)).trans (by go_simp)
    have k1 : w1.cell? ⟨w.heap.size, 1, none⟩ = some (.slice a n c) := (hb.cell (by simp <;> omega)).trans (by go_simp)
    have HB := Lib.hid ((((Below.refl w.heap.size w).alloc (Nat.le_refl _) _).alloc (by simp) _).trans (hb.mono (by simp <;> omega)))
    have hz : w.heap.size + 1 < w1.heap.size := by have := hb.size; simp at this; omega
    have hz0 : w.heap.size < w1.heap.size := by omega
    clear hb
    go_wp2_with (go_at_call 51; refine (isSetOf_c _ _ hsr _).mono ?_; rintro e w' ⟨rfl, rfl⟩)
    refine bodyPost_ret (v := .tuple #[.agg #[.int .i64 0, .int .i64 0], .bool false]) (by simp [results, Try.results24, go_sem, c0, c1]) rfl ?_
    rw [HN.out]
    exact ⟨rfl, (by repeat (first | exact HB.out | (refine Below.setCell ?_ (by first | exact Nat.le_refl _ | (simp <;> omega) | omega) _)))⟩
  · have HN : Hid (shareB s zs A = true) := Lib.hid (by simp [shareB, hm, ht])
    have HMM := Lib.hid hm
    have HP := Lib.hid (parts_more (massB_of hm).2.2.1)
    have hl := massB_len hm
    have hW := (massB_of hm).2.2.2.1
    obtain ⟨hA0, hA1⟩ : 0 ≤ A ∧ A < 2 ^ s.toNat := by simpa [setB] using ht
    rw [← (massB_of hm).2.1, HR.out.len] at hA1
    obtain ⟨k, rfl⟩ := Int.eq_ofNat_of_zero_le hA0
    have hk : k < n := by omega
    have hx := partsB_get (massB_of hm).2.2.1 (k := k) (by rw [HR.out.len]; exact hk)
    have hlow := low_share hx hW
    rw [HR.out.len] at hl
    obtain ⟨l1, l2⟩ := hl
    rw [Int.toNat_natCast]
    obtain ⟨x, hxx⟩ : ∃ x, x = zs.getD k 0 := ⟨_, rfl⟩
    have HX := Lib.hid hxx
    rw [← hxx] at hx hlow ⊢
    clear hxx
    have HSX := Lib.hid (show Small x by unfold Small; omega)
    have HSW := Lib.hid (show Small (whole zs) by unfold Small; omega)
    have HNE := Lib.hid (show whole zs ≠ 0 by omega)
    have HLOW := Lib.hid hlow
    obtain ⟨X, hX⟩ : ∃ X, X = lowX x (whole zs) := ⟨_, rfl⟩
    obtain ⟨Y, hY⟩ : ∃ Y, Y = lowY x (whole zs) := ⟨_, rfl⟩
    have HXX := Lib.hid hX
    have HYY := Lib.hid hY
    rw [← hX, ← hY]
    clear hW hx hlow hX hY 
    go_enter Try.func24, Try.ntmps24
    go_wp2_with fail
    refine (isMass_c _ _ _ _ zs _ ((HR.out.alloc _).alloc _)).mono ?_
    rintro e w1 ⟨rfl, hb⟩
    have c0 : w1.cell? ⟨w.heap.size + 1, 0, none⟩ = some (.int .i64 0) := (hb.cell (by simp)).trans (by go_simp)
    have c1 : w1.cell? ⟨w.heap.size + 1, 1, none⟩ = some (.int .i64 0) := (hb.cell (by simp)).trans (by go_simp)
    have f0 : w1.frozen? ⟨w.heap.size + 1, 0, none⟩ = false := (hb.frozen (by simp)).trans (by go_simp)
    have f1 : w1.frozen? ⟨w.heap.size + 1, 1, none⟩ = false := (hb.frozen (by simp)).trans (by go_simp)
    have k0 : w1.cell? ⟨w.heap.size, 0, none⟩ = some (.int .i64 s) := (hb.cell (by simp <;> omega)).trans (by go_simp)
    have k1 : w1.cell? ⟨w.heap.size, 1, none⟩ = some (.slice a n c) := (hb.cell (by simp <;> omega)).trans (by go_simp)
    have HB := Lib.hid ((((Below.refl w.heap.size w).alloc (Nat.le_refl _) _).alloc (by simp) _).trans (hb.mono (by simp <;> omega)))
    have hz : w.heap.size + 1 < w1.heap.size := by have := hb.size; simp at this; omega
    have hz0 : w.heap.size < w1.heap.size := by omega
    have HR1 := Lib.hid (((HR.out.alloc _).alloc _).below hb)
    have HR1d := Lib.hid HR1.out.drew
    have hat := HR1.out.at_ (by omega)
    clear hb
    obtain ⟨b1, o1, rfl, hb1, h1⟩ := hat
    have g1 := h1 k hk
    rw [← HX.out] at g1
    clear h1
    go_wp2_with (go_at_call 51; refine (isSetOf_c _ _ hsr _).mono ?_; rintro e w' ⟨rfl, rfl⟩)
    go_region_with (first
      | (go_at_call 63; refine (wholeOf_c _ _ _ _ zs HP.out l2 _ HR1d.out).mono ?_; rintro e t1 ⟨rfl, hb⟩; have H1 := Lib.hid ((show Below w1.heap.size w1 w1.drew from (Below.refl _ _).drew).trans hb); have c0_ := (H1.out.cell (p := ⟨w.heap.size + 1, 0, none⟩) hz).trans c0; have c1_ := (H1.out.cell (p := ⟨w.heap.size + 1, 1, none⟩) hz).trans c1; have f0_ := (H1.out.frozen (p := ⟨w.heap.size + 1, 0, none⟩) hz).trans f0; have f1_ := (H1.out.frozen (p := ⟨w.heap.size + 1, 1, none⟩) hz).trans f1; have k1_ := (H1.out.cell (p := ⟨w.heap.size, 1, none⟩) hz0).trans k1; have g1_ := (H1.out.cell (p := ⟨b1, o1 + k, none⟩) hb1).trans g1; have hz_ := Nat.lt_of_lt_of_le hz H1.out.size; clear hb)
      | (go_at_call 62; refine (lowest_c _ _ HSX.out HSW.out HNE.out _).mono ?_; rintro e t2 ⟨rfl, hb⟩; rw [HLOW.out, ← HXX.out, ← HYY.out]; have d0 := (hb.cell (p := ⟨w.heap.size + 1, 0, none⟩) hz_).trans c0_; have d1 := (hb.cell (p := ⟨w.heap.size + 1, 1, none⟩) hz_).trans c1_; have e0 := (hb.frozen (p := ⟨w.heap.size + 1, 0, none⟩) hz_).trans f0_; have e1 := (hb.frozen (p := ⟨w.heap.size + 1, 1, none⟩) hz_).trans f1_; have HB2 := Lib.hid (HB.out.trans ((H1.out.trans (hb.mono H1.out.size)).mono HB.out.size)); clear hb))
    all_goals
      go_wp2_with fail
      refine bodyPost_ret (v := .tuple #[.agg #[.int .i64 X, .int .i64 Y], .bool true]) (by simp [results, Try.results24, go_sem, d0, d1, sel]) rfl ?_
      rw [HN.out]
      exact ⟨rfl, (HB2.out.setCell (Nat.le_succ _) _).setCell (Nat.le_succ _) _⟩
set_option maxHeartbeats 4000000 in
theorem spec_ShareOf_c (s : Int) (a : Option Addr) (n c : Nat) (zs : List Int) (A : Int) (w : World) (ha : IsRow .i64 w a n c zs) :
    Calls Try.prog 25 #[.agg #[.int .i64 s, .slice a n c], .int .i64 A] w fun e w' => e = .returned (.tuple #[.agg #[.int .i64 (sel (shareB s zs A) (lowX (zs.getD A.toNat 0) (whole zs))), .int .i64 (sel (shareB s zs A) (lowY (zs.getD A.toNat 0) (whole zs)))], .bool (shareB s zs A)]) ∧ Below w.heap.size w w' := by
  have HR := Lib.hid ha
  clear ha
  rcases hv : shareB s zs A with _ | _
  · have HN : Hid (shareB s zs A = false) := Lib.hid hv
    rw [← HN.out]
    go_enter Try.func25, Try.ntmps25
    go_wp2_with fail
    refine (l3Set_c _ _ _ _ zs A _ ((HR.out.alloc _).alloc _)).mono ?_
    rintro e w1 ⟨rfl, hb⟩
    have c0 : w1.cell? ⟨w.heap.size + 1, 0, none⟩ = some (.int .i64 0) := (hb.cell (by simp)).trans (by go_simp)
    have c1 : w1.cell? ⟨w.heap.size + 1, 1, none⟩ = some (.int .i64 0) := (hb.cell (by simp)).trans (by go_simp)
    have f0 : w1.frozen? ⟨w.heap.size + 1, 0, none⟩ = false := (hb.frozen (by simp)).trans (by go_simp)
    have f1 : w1.frozen? ⟨w.heap.size + 1, 1, none⟩ = false := (hb.frozen (by simp)).trans (by go_simp)
    have k0 : w1.cell? ⟨w.heap.size, 0, none⟩ = some (.int .i64 s) := (hb.cell (by simp <;> omega)).trans (by go_simp)
    have k1 : w1.cell? ⟨w.heap.size, 1, none⟩ = some (.slice a n c) := (hb.cell (by simp <;> omega)).trans (by go_simp)
    have HB := Lib.hid ((((Below.refl w.heap.size w).alloc (Nat.le_refl _) _).alloc (by simp) _).trans (hb.mono (by simp <;> omega)))
    have hz : w.heap.size + 1 < w1.heap.size := by have := hb.size; simp at this; omega
    have hz0 : w.heap.size < w1.heap.size := by omega
    clear hb
    go_wp2_with fail
    refine bodyPost_ret (v := .tuple #[.agg #[.int .i64 0, .int .i64 0], .bool false]) (by simp [results, Try.results25, go_sem, c0, c1]) rfl ?_
    rw [HN.out]
    exact ⟨rfl, (by repeat (first | exact HB.out | (refine Below.setCell ?_ (by first | exact Nat.le_refl _ | (simp <;> omega) | omega) _)))⟩
  · have HN : Hid (shareB s zs A = true) := Lib.hid hv
    have hm : massB s zs = true := (Bool.and_eq_true_iff.1 hv).1
    have ht : setB s A = true := (Bool.and_eq_true_iff.1 hv).2
    have hsr := (massB_of hm).1
    rw [← HN.out]
    have HMM := Lib.hid hm
    have HP := Lib.hid (parts_more (massB_of hm).2.2.1)
    have hl := massB_len hm
    have hW := (massB_of hm).2.2.2.1
    obtain ⟨hA0, hA1⟩ : 0 ≤ A ∧ A < 2 ^ s.toNat := by simpa [setB] using ht
    rw [← (massB_of hm).2.1, HR.out.len] at hA1
    obtain ⟨k, rfl⟩ := Int.eq_ofNat_of_zero_le hA0
    have hk : k < n := by omega
    have hx := partsB_get (massB_of hm).2.2.1 (k := k) (by rw [HR.out.len]; exact hk)
    have hlow := low_share hx hW
    rw [HR.out.len] at hl
    obtain ⟨l1, l2⟩ := hl
    rw [Int.toNat_natCast]
    obtain ⟨x, hxx⟩ : ∃ x, x = zs.getD k 0 := ⟨_, rfl⟩
    have HX := Lib.hid hxx
    rw [← hxx] at hx hlow ⊢
    clear hxx
    have HSX := Lib.hid (show Small x by unfold Small; omega)
    have HSW := Lib.hid (show Small (whole zs) by unfold Small; omega)
    have HNE := Lib.hid (show whole zs ≠ 0 by omega)
    have HLOW := Lib.hid hlow
    obtain ⟨X, hX⟩ : ∃ X, X = lowX x (whole zs) := ⟨_, rfl⟩
    obtain ⟨Y, hY⟩ : ∃ Y, Y = lowY x (whole zs) := ⟨_, rfl⟩
    have HXX := Lib.hid hX
    have HYY := Lib.hid hY
    rw [← hX, ← hY]
    clear hW hx hlow hX hY hm hv
    go_enter Try.func25, Try.ntmps25
    go_wp2_with fail
    refine (l3Set_c _ _ _ _ zs (k : Int) _ ((HR.out.alloc _).alloc _)).mono ?_
    rintro e w1 ⟨rfl, hb⟩
    rw [HN.out]
    have c0 : w1.cell? ⟨w.heap.size + 1, 0, none⟩ = some (.int .i64 0) := (hb.cell (by simp)).trans (by go_simp)
    have c1 : w1.cell? ⟨w.heap.size + 1, 1, none⟩ = some (.int .i64 0) := (hb.cell (by simp)).trans (by go_simp)
    have f0 : w1.frozen? ⟨w.heap.size + 1, 0, none⟩ = false := (hb.frozen (by simp)).trans (by go_simp)
    have f1 : w1.frozen? ⟨w.heap.size + 1, 1, none⟩ = false := (hb.frozen (by simp)).trans (by go_simp)
    have k0 : w1.cell? ⟨w.heap.size, 0, none⟩ = some (.int .i64 s) := (hb.cell (by simp <;> omega)).trans (by go_simp)
    have k1 : w1.cell? ⟨w.heap.size, 1, none⟩ = some (.slice a n c) := (hb.cell (by simp <;> omega)).trans (by go_simp)
    have HB := Lib.hid ((((Below.refl w.heap.size w).alloc (Nat.le_refl _) _).alloc (by simp) _).trans (hb.mono (by simp <;> omega)))
    have hz : w.heap.size + 1 < w1.heap.size := by have := hb.size; simp at this; omega
    have hz0 : w.heap.size < w1.heap.size := by omega
    have HR1 := Lib.hid (((HR.out.alloc _).alloc _).below hb)
    have HR1d := Lib.hid HR1.out.drew
    have hat := HR1.out.at_ (by omega)
    clear hb
    obtain ⟨b1, o1, rfl, hb1, h1⟩ := hat
    have g1 := h1 k hk
    rw [← HX.out] at g1
    clear h1
    go_wp2_with fail
    go_region_with (first
      | (go_at_call 66; refine (l3Whole_c _ _ _ _ zs HMM.out _ HR1d.out).mono ?_; rintro e t1 ⟨rfl, hb⟩; have H1 := Lib.hid ((show Below w1.heap.size w1 w1.drew from (Below.refl _ _).drew).trans hb); have c0_ := (H1.out.cell (p := ⟨w.heap.size + 1, 0, none⟩) hz).trans c0; have c1_ := (H1.out.cell (p := ⟨w.heap.size + 1, 1, none⟩) hz).trans c1; have f0_ := (H1.out.frozen (p := ⟨w.heap.size + 1, 0, none⟩) hz).trans f0; have f1_ := (H1.out.frozen (p := ⟨w.heap.size + 1, 1, none⟩) hz).trans f1; have k1_ := (H1.out.cell (p := ⟨w.heap.size, 1, none⟩) hz0).trans k1; have g1_ := (H1.out.cell (p := ⟨b1, o1 + k, none⟩) hb1).trans g1; have hz_ := Nat.lt_of_lt_of_le hz H1.out.size; clear hb)
      | (go_at_call 65; refine (l2Made_c _ _ HSX.out HSW.out HNE.out _).mono ?_; rintro e t2 ⟨rfl, hb⟩; rw [HLOW.out, ← HXX.out, ← HYY.out]; have d0 := (hb.cell (p := ⟨w.heap.size + 1, 0, none⟩) hz_).trans c0_; have d1 := (hb.cell (p := ⟨w.heap.size + 1, 1, none⟩) hz_).trans c1_; have e0 := (hb.frozen (p := ⟨w.heap.size + 1, 0, none⟩) hz_).trans f0_; have e1 := (hb.frozen (p := ⟨w.heap.size + 1, 1, none⟩) hz_).trans f1_; have HB2 := Lib.hid (HB.out.trans ((H1.out.trans (hb.mono H1.out.size)).mono HB.out.size)); clear hb))
    all_goals
      go_wp2_with fail
      refine bodyPost_ret (v := .tuple #[.agg #[.int .i64 X, .int .i64 Y], .bool true]) (by simp [results, Try.results25, go_sem, d0, d1, sel]) rfl ?_
      rw [HN.out]
      exact ⟨rfl, (HB2.out.setCell (Nat.le_succ _) _).setCell (Nat.le_succ _) _⟩
end Go.Proofs.Ytemollfejgmlcaa
