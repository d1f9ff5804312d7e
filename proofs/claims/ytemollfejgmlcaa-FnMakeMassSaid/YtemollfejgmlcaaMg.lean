/- Contracts: whether of any two sets with parts one has the other. Conditions: as stated. -/
import Derived.Test.YtemollfejgmlcaaMf
namespace Go.Proofs.Ytemollfejgmlcaa
open Go.RowKit

set_option maxHeartbeats 4000000 in
theorem impl_IsNested_c (s : Int) (a : Option Addr) (n c : Nat) (zs : List Int) (w : World) (ha : IsRow .i64 w a n c zs) :
    Calls Try.prog 11 #[.agg #[.int .i64 s, .slice a n c]] w fun e w' => e = .returned (.bool (nestedB s zs)) ∧ Below w.heap.size w w' := by
  have HR := Lib.hid ha
  clear ha
  rcases hm : massB s zs with _ | _
  · have HE := Lib.hid (nested_mass_no hm)
    go_enter Try.func11, Try.ntmps11
    go_wp2_with fail
    refine (isMass_c _ _ _ _ zs _ (HR.out.alloc _)).mono ?_
    rintro e w1 ⟨rfl, hb⟩
    have HB := Lib.hid (((Below.refl w.heap.size w).alloc (Nat.le_refl _) _).trans (hb.mono (by simp)))
    clear hb
    go_wp2_with fail
    go_ret
    exact ⟨ret_bool HE.out.symm, HB.out⟩
  · have HE := Lib.hid (nested_mass_yes hm)
    have HL := Lib.hid HR.out.len
    have hl := massB_len hm
    rw [HL.out] at hl
    rw [HL.out] at HE
    obtain ⟨l1, l2⟩ := hl
    go_enter Try.func11, Try.ntmps11
    go_wp2_with fail
    refine (isMass_c _ _ _ _ zs _ (HR.out.alloc _)).mono ?_
    rintro e w1 ⟨rfl, hb⟩
    have HB := Lib.hid (((Below.refl w.heap.size w).alloc (Nat.le_refl _) _).trans (hb.mono (by simp)))
    have c0 : w1.cell? ⟨w.heap.size, 0, none⟩ = some (.int .i64 s) := (hb.cell (by simp)).trans (by go_simp)
    have c1 : w1.cell? ⟨w.heap.size, 1, none⟩ = some (.slice a n c) := (hb.cell (by simp)).trans (by go_simp)
    have hz1 : w.heap.size < w1.heap.size := by have := hb.size; simp at this; omega
    have HR1 := Lib.hid ((HR.out.alloc _).below hb)
    clear hb
    go_wp2_with fail
    refine (ret_own (focalSets_c _ _ _ _ zs l2 _ HR1.out)).mono ?_
    rintro e w2 ⟨A, C, rfl, ho, hb⟩
    have HB2 := Lib.hid (HB.out.trans (hb.mono HB.out.size))
    have HR2 := Lib.hid (HR1.out.below hb)
    have HA := Lib.hid ho.row
    replace c0 : w2.cell? ⟨w.heap.size, 0, none⟩ = some (.int .i64 s) := (hb.cell hz1).trans c0
    replace c1 : w2.cell? ⟨w.heap.size, 1, none⟩ = some (.slice a n c) := (hb.cell hz1).trans c1
    have hz2 : w.heap.size < w2.heap.size := Nat.lt_of_lt_of_le hz1 hb.size
    have HF := Lib.hid (fun k (hk : k < (focal zs n).length) => focal_range l2 hk)
    have fl := Nat.le_trans (focal_len zs n) l2
    obtain ⟨F, hF⟩ : ∃ F, F = focal zs n := ⟨_, rfl⟩
    have HFF := Lib.hid hF
    rw [← hF] at HF HA HE fl ⊢
    clear hb ho hF
    obtain ⟨N, hN⟩ : ∃ N, N = F.length := ⟨_, rfl⟩
    have HN := Lib.hid hN
    rw [← hN] at HF HA fl ⊢
    clear hN
    go_wp2_with fail
    go_loopw [13] (fun i wr => ∃ k : Nat, k ≤ N ∧ i = .int .i64 k ∧ Below w.heap.size w wr ∧ IsRow .i64 wr a n c zs ∧ IsRow .i64 wr A N C F ∧ (w.heap.size < wr.heap.size ∧ wr.cell? ⟨w.heap.size, 0, none⟩ = some (.int .i64 s) ∧ wr.cell? ⟨w.heap.size, 1, none⟩ = some (.slice a n c)) ∧ ∀ j, j < k → ∀ l, l < N → compB (F.getD j 0) (F.getD l 0) = true) (fun i _ => N - (intOf i).toNat)
    case atStart => exact ⟨0, Nat.zero_le _, rfl, HB2.out, HR2.out, HA.out, ⟨hz2, c0, c1⟩, fun j hj => absurd hj (by omega)⟩
    case round =>
      obtain ⟨k, hk, rfl, hb0, hr0, ha0, ⟨hz, k0, k1⟩, hall⟩ := hrel
      have HB0 := Lib.hid hb0
      have HR0 := Lib.hid hr0
      have HA0 := Lib.hid ha0
      have HALL := Lib.hid hall
      clear hb0 hr0 ha0 hall c0 c1
      by_cases hlt : k < N
      · obtain ⟨b1, o1, rfl, _, h1⟩ := HA0.out.at_ (by omega)
        have g1 := h1 k hlt
        obtain ⟨x0, x1⟩ := HF.out k hlt
        obtain ⟨x, hx⟩ : ∃ x, x = F.getD k 0 := ⟨_, rfl⟩
        have HX := Lib.hid hx
        rw [← hx] at g1 x0 x1
        clear h1 hx
        go_wp2_with fail
        refine (ret_own (focalSets_c _ _ _ _ zs l2 _ HR0.out)).mono ?_
        rintro e w3 ⟨A3, C3, rfl, ho, hb⟩
        rw [← HFF.out] at ho ⊢
        rw [← HN.out] at ho ⊢
        have HB3 := Lib.hid (HB0.out.trans (hb.mono HB0.out.size))
        have HR3 := Lib.hid (HR0.out.below hb)
        have HA3 := Lib.hid (HA0.out.below hb)
        have hac := (show IsRow .i64 w3 A3 N C3 F from by have := ho; rw [HN.out] at this ⊢; exact this.row).at_
        replace k0 := (hb.cell (p := ⟨w.heap.size, 0, none⟩) hz).trans k0
        replace k1 := (hb.cell (p := ⟨w.heap.size, 1, none⟩) hz).trans k1
        replace hz := Nat.lt_of_lt_of_le hz hb.size
        clear hb ho g1
        go_wp2_with fail
        go_loop [20] (fun i => ∃ l : Nat, l ≤ N ∧ i = .int .i64 l ∧ ∀ m, m < l → compB x (F.getD m 0) = true) (fun i => N - (intOf i).toNat)
        case atStart => exact ⟨0, Nat.zero_le _, rfl, fun j hj => absurd hj (by omega)⟩
        case round =>
          obtain ⟨l, hl, rfl, hal⟩ := hrel
          have HAL := Lib.hid hal
          clear hal
          by_cases hll : l < N
          · obtain ⟨b2, o2, rfl, _, h2⟩ := hac (by omega)
            have g2 := h2 l hll
            clear h2 hac
            rcases hc : compB x (F.getD l 0) with _ | _
            · have HNO := Lib.hid (nestL_no (F := F) (k := k) (l := l) (by rw [← HN.out]; exact hlt) (by rw [← HN.out]; exact hll) (by rw [← HX.out]; exact hc))
              generalize F.getD l 0 = y at *
              have e1 : (bits .andNot .i64 x y == 0) = false := (Bool.or_eq_false_iff.1 hc).1
              have e2 : (bits .andNot .i64 y x == 0) = false := (Bool.or_eq_false_iff.1 hc).2
              have e3 : (bits .andNot .i64 x y != 0) = true := by rw [bne, e1]; rfl
              have e4 : (bits .andNot .i64 y x != 0) = true := by rw [bne, e2]; rfl
              clear hc
              go_wp2_with fail
              go_ret
              exact ⟨ret_bool (by rw [HE.out, HNO.out]), HB3.out⟩
            · have HQ : Hid (∀ m, m < l + 1 → compB x (F.getD m 0) = true) := Lib.hid (by
                intro j hj
                by_cases h : j = l
                · rw [h]; exact hc
                · exact HAL.out j (by omega))
              generalize F.getD l 0 = y at *
              rcases e1 : (bits .andNot .i64 x y == 0) with _ | _
              · have e2 : (bits .andNot .i64 y x == 0) = true := by
                  have h : ((bits .andNot .i64 x y == 0) || (bits .andNot .i64 y x == 0)) = true := hc
                  rw [e1] at h
                  exact h
                have e3 : (bits .andNot .i64 x y != 0) = true := by rw [bne, e1]; rfl
                have e4 : (bits .andNot .i64 y x != 0) = false := by rw [bne, e2]; rfl
                clear hc
                go_wp2_with fail
                go_round
                case rel => exact ⟨l + 1, by omega, by go_num, HQ.out⟩
                case measure => simp [intOf]; omega
              · have e3 : (bits .andNot .i64 x y != 0) = false := by rw [bne, e1]; rfl
                clear hc
                go_wp2_with fail
                go_round
                case rel => exact ⟨l + 1, by omega, by go_num, HQ.out⟩
                case measure => simp [intOf]; omega
          · have hlN : l = N := by omega
            subst hlN
            have HQ : Hid (∀ j, j < k + 1 → ∀ m, m < l → compB (F.getD j 0) (F.getD m 0) = true) := Lib.hid (by
              intro j hj
              by_cases h : j = k
              · rw [h, ← HX.out]; exact HAL.out
              · exact HALL.out j (by omega))
            go_wp2_with fail
            go_roundw
            case rel => exact ⟨k + 1, by omega, by go_num, HB3.out, HR3.out, HA3.out, ⟨hz, k0, k1⟩, HQ.out⟩
            case measure => simp [intOf]; omega
      · have hkn : k = N := by omega
        subst hkn
        have HY := Lib.hid (nestL_yes (F := F) (by rw [← HN.out]; exact HALL.out))
        go_wp2_with fail
        go_ret
        exact ⟨ret_bool (by rw [HE.out, HY.out]), HB0.out⟩
set_option maxHeartbeats 4000000 in
theorem spec_IsNested_c (s : Int) (a : Option Addr) (n c : Nat) (zs : List Int) (w : World) (ha : IsRow .i64 w a n c zs) :
    Calls Try.prog 14 #[.agg #[.int .i64 s, .slice a n c]] w fun e w' => e = .returned (.bool (nestedB s zs)) ∧ Below w.heap.size w w' := by
  have HR := Lib.hid ha
  have hfl : (focalI s zs).length ≤ 16 := by
    unfold focalI
    split
    · rename_i hm
      exact Nat.le_trans (focal_len _ _) (massB_len hm).2
    · simp
  have HFR : Hid (∀ k, k < (focalI s zs).length → 0 ≤ (focalI s zs).getD k 0 ∧ (focalI s zs).getD k 0 ≤ 15) := Lib.hid (by
    unfold focalI
    split
    · rename_i hm
      exact fun k hk => focal_range (massB_len hm).2 hk
    · intro k hk; simp at hk)
  have HEN : Hid (nestedB s zs = (massB s zs && nestL (focalI s zs))) := Lib.hid (by
    rcases hm : massB s zs with _ | _
    · simp [nestedB, hm]
    · simp [nestedB, focalI, hm])
  have HEM : Hid (∀ k, k < (focalI s zs).length → massB s zs = true) := Lib.hid (by
    intro k hk
    rcases hm : massB s zs with _ | _
    · simp [focalI, hm] at hk
    · rfl)
  clear ha
  go_enter Try.func14, Try.ntmps14
  go_wp2_with fail
  refine (ret_own (spec_FocalSets_c _ _ _ _ zs _ (HR.out.alloc _))).mono ?_
  rintro e w1 ⟨A, C, rfl, ho, hb⟩
  have HB := Lib.hid (((Below.refl w.heap.size w).alloc (Nat.le_refl _) _).trans (hb.mono (by simp)))
  have c0 : w1.cell? ⟨w.heap.size, 0, none⟩ = some (.int .i64 s) := (hb.cell (by simp)).trans (by go_simp)
  have c1 : w1.cell? ⟨w.heap.size, 1, none⟩ = some (.slice a n c) := (hb.cell (by simp)).trans (by go_simp)
  have HR1 := Lib.hid ((HR.out.alloc _).below hb)
  have hac := ho.row.at_
  clear hb ho
  generalize focalI s zs = F at *
  obtain ⟨N, hN⟩ : ∃ N, N = F.length := ⟨_, rfl⟩
  have HN := Lib.hid hN
  rw [← hN] at HFR HEM hfl hac ⊢
  clear hN
  go_wp2_with fail
  go_loopw [4] (fun i wr => ∃ k : Nat, k ≤ N ∧ i = .int .i64 k ∧ (∃ m, wr = w1.drewN m) ∧ ∀ j, j < k → ∀ l, l < j → compB (F.getD j 0) (F.getD l 0) = true) (fun i _ => N - (intOf i).toNat)
  case atStart => exact ⟨0, Nat.zero_le _, rfl, ⟨0, rfl⟩, fun j hj => absurd hj (by omega)⟩
  case round =>
    obtain ⟨k, hk, rfl, ⟨m, rfl⟩, hall⟩ := hrel
    have HALL := Lib.hid hall
    clear hall
    by_cases hlt : k < N
    · obtain ⟨b1, o1, rfl, _, h1⟩ := hac (by omega)
      have g1 := h1 k hlt
      obtain ⟨x0, x1⟩ := HFR.out k hlt
      obtain ⟨x, hx⟩ : ∃ x, x = F.getD k 0 := ⟨_, rfl⟩
      have HX := Lib.hid hx
      rw [← hx] at g1 x0 x1
      clear hx
      have H1 := Lib.hid h1
      clear h1 hac
      go_wp2_with fail
      obtain ⟨wo, hwo⟩ : ∃ wo : World, wo = w := ⟨_, rfl⟩
      go_loopw [5] (fun i wq => ∃ l : Nat, l ≤ k ∧ i = .int .i64 l ∧ (∃ m, wq = w1.drewN m) ∧ ∀ m, m < l → compB x (F.getD m 0) = true) (fun i _ => k - (intOf i).toNat)
      case atStart => exact ⟨0, Nat.zero_le _, rfl, ⟨m, rfl⟩, fun j hj => absurd hj (by omega)⟩
      case round =>
        obtain ⟨l, hl, rfl, ⟨m1, rfl⟩, hal⟩ := hrel
        have HAL := Lib.hid hal
        clear hal
        by_cases hll : l < k
        · have g2 := H1.out l (by omega)
          obtain ⟨y0, y1⟩ := HFR.out l (by omega)
          have ht := comp_test (a := x) (b := F.getD l 0) ⟨x0, x1⟩ ⟨y0, y1⟩
          have hlN : (l : Int) < (N : Int) := by omega
          have hkN : (k : Int) < (N : Int) := by omega
          have hl0 : (0 : Int) ≤ (l : Int) := by omega
          have hk0 : (0 : Int) ≤ (k : Int) := by omega
          rcases hc : compB x (F.getD l 0) with _ | _
          · have HNO := Lib.hid (nestL_no (F := F) (k := k) (l := l) (by rw [← HN.out]; exact hlt) (by rw [← HN.out]; omega) (by rw [← HX.out]; exact hc))
            have HMT := Lib.hid (HEM.out k hlt)
            rw [hc] at ht
            generalize F.getD l 0 = y at *
            obtain ⟨e1, e2⟩ := Bool.and_eq_true_iff.1 ht
            clear hc ht
            go_wp2_with fail
            go_quiet (fail)
            go_wp2_with fail
            go_ret
            exact ⟨ret_bool (by rw [HEN.out, HNO.out, Bool.and_false]), below_drewN (below_drewN HB.out _) _⟩
          · have HQ : Hid (∀ m, m < l + 1 → compB x (F.getD m 0) = true) := Lib.hid (by
              intro j hj
              by_cases h : j = l
              · rw [h]; exact hc
              · exact HAL.out j (by omega))
            rw [hc] at ht
            generalize F.getD l 0 = y at *
            rcases e1 : (bits .and .i64 x y != x) with _ | _
            · clear hc ht
              go_wp2_with fail
              go_quiet (fail)
              go_wp2_with fail
              go_roundw
              case rel => exact ⟨l + 1, by omega, by go_num, ⟨_, rfl⟩, HQ.out⟩
              case measure => simp [intOf]; omega
            · rw [e1] at ht
              have e2 : (bits .and .i64 x y != y) = false := by simpa using ht
              clear hc ht
              go_wp2_with fail
              go_quiet (fail)
              go_wp2_with fail
              go_roundw
              case rel => exact ⟨l + 1, by omega, by go_num, ⟨_, rfl⟩, HQ.out⟩
              case measure => simp [intOf]; omega
        · have hlk : l = k := by omega
          subst hlk
          have HQ : Hid (∀ j, j < l + 1 → ∀ m, m < j → compB (F.getD j 0) (F.getD m 0) = true) := Lib.hid (by
            intro j hj
            by_cases h : j = l
            · rw [h, ← HX.out]; exact HAL.out
            · exact HALL.out j (by omega))
          go_wp2_with fail
          go_roundw
          case rel => exact ⟨l + 1, by omega, by go_num, ⟨_, rfl⟩, HQ.out⟩
          case measure => simp [intOf]; omega
    · have hkn : k = N := by omega
      subst hkn
      have HY := Lib.hid (nestL_half (F := F) (by rw [← HN.out]; exact HFR.out) (by rw [← HN.out]; exact HALL.out))
      clear hac
      go_wp2_with fail
      refine (spec_MassValid_c _ _ _ _ zs _ (HR1.out.drewN m)).mono ?_
      rintro e w2 ⟨rfl, hb⟩
      have HB2 := Lib.hid ((below_drewN HB.out m).trans (hb.mono (below_drewN HB.out m).size))
      clear hb
      go_wp2_with fail
      go_ret
      exact ⟨ret_bool (by rw [HEN.out, HY.out, Bool.and_true]), HB2.out⟩
end Go.Proofs.Ytemollfejgmlcaa
