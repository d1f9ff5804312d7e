/- Contracts: single answers; nested sets. Conditions: as stated. -/
import Derived.Test.YtemollfejgmlcaaMe
namespace Go.Proofs.Ytemollfejgmlcaa
open Go.RowKit

theorem chance_mass_no {s : Int} {zs : List Int} (h : massB s zs = false) : chanceB s zs = false := by simp [chanceB, h]
theorem chance_mass_yes {s : Int} {zs : List Int} (h : massB s zs = true) : chanceB s zs = (focal zs zs.length).all oneB := by simp [chanceB, h]
theorem nested_mass_no {s : Int} {zs : List Int} (h : massB s zs = false) : nestedB s zs = false := by simp [nestedB, h]
theorem nested_mass_yes {s : Int} {zs : List Int} (h : massB s zs = true) : nestedB s zs = nestL (focal zs zs.length) := by simp [nestedB, h]
set_option maxHeartbeats 2000000 in
theorem isChance_c (s : Int) (a : Option Addr) (n c : Nat) (zs : List Int) (w : World) (ha : IsRow .i64 w a n c zs) :
    Calls Try.prog 46 #[.agg #[.int .i64 s, .slice a n c]] w fun e w' => e = .returned (.bool (chanceB s zs)) ∧ Below w.heap.size w w' := by
  have HR := Lib.hid ha
  clear ha
  rcases hm : massB s zs with _ | _
  · have HE := Lib.hid (chance_mass_no hm)
    go_enter Try.func46, Try.ntmps46
    go_wp2_with fail
    refine (isMass_c _ _ _ _ zs _ (HR.out.alloc _)).mono ?_
    rintro e w1 ⟨rfl, hb⟩
    have HB := Lib.hid (((Below.refl w.heap.size w).alloc (Nat.le_refl _) _).trans (hb.mono (by simp)))
    clear hb
    go_wp2_with fail
    go_ret
    exact ⟨ret_bool HE.out.symm, HB.out⟩
  · have HE := Lib.hid (chance_mass_yes hm)
    have HL := Lib.hid HR.out.len
    have hl := massB_len hm
    rw [HL.out] at hl
    obtain ⟨l1, l2⟩ := hl
    go_enter Try.func46, Try.ntmps46
    go_wp2_with fail
    refine (isMass_c _ _ _ _ zs _ (HR.out.alloc _)).mono ?_
    rintro e w1 ⟨rfl, hb⟩
    have HB := Lib.hid (((Below.refl w.heap.size w).alloc (Nat.le_refl _) _).trans (hb.mono (by simp)))
    have c0 : w1.cell? ⟨w.heap.size, 0, none⟩ = some (.int .i64 s) := (hb.cell (by simp)).trans (by go_simp)
    have c1 : w1.cell? ⟨w.heap.size, 1, none⟩ = some (.slice a n c) := (hb.cell (by simp)).trans (by go_simp)
    have HR1 := Lib.hid ((HR.out.alloc _).below hb)
    clear hb
    go_wp2_with fail
    refine (ret_own (focalSets_c _ _ _ _ zs l2 _ HR1.out)).mono ?_
    rintro e w2 ⟨A, C, rfl, ho, hb⟩
    have HB2 := Lib.hid (HB.out.trans (hb.mono HB.out.size))
    have hac := ho.row.at_
    have HF := Lib.hid (fun k (hk : k < (focal zs n).length) => focal_range l2 hk)
    have fl := Nat.le_trans (focal_len zs n) l2
    rw [HL.out] at HE
    clear hb ho
    generalize focal zs n = F at *
    generalize hN : F.length = N at *
    have HN := Lib.hid hN
    clear hN
    go_wp2_with fail
    go_loop [11] (fun i => ∃ k : Nat, k ≤ N ∧ i = .int .i64 k ∧ ∀ j, j < k → oneB (F.getD j 0) = true) (fun i => N - (intOf i).toNat)
    case atStart => exact ⟨0, Nat.zero_le _, rfl, fun j hj => absurd hj (by omega)⟩
    case round =>
      obtain ⟨k, hk, rfl, hall⟩ := hrel
      by_cases hlt : k < N
      · obtain ⟨b1, o1, rfl, _, h1⟩ := hac (by omega)
        have g1 := h1 k hlt
        have HALL := Lib.hid hall
        obtain ⟨x0, x1⟩ := HF.out k hlt
        have ht := one_test ⟨x0, x1⟩
        clear h1 hac hall
        rcases ho : oneB (F.getD k 0) with _ | _
        · have HNO := Lib.hid (all_no (p := oneB) (by rw [HN.out]; exact hlt) ho)
          rw [ho] at ht
          clear ho HALL
          generalize F.getD k 0 = x at *
          rcases hz : (x == 0) with _ | _
          · rw [hz] at ht
            have ht2 : (bits .and .i64 x (x - 1) != 0) = true := ht
            clear ht
            go_wp2_with fail
            go_ret
            exact ⟨ret_bool (by rw [HE.out, HNO.out]), HB2.out⟩
          · clear ht
            go_wp2_with fail
            go_ret
            exact ⟨ret_bool (by rw [HE.out, HNO.out]), HB2.out⟩
        · have HQ : Hid (∀ j, j < k + 1 → oneB (F.getD j 0) = true) := Lib.hid (by
            intro j hj
            by_cases h : j = k
            · rw [h]; exact ho
            · exact HALL.out j (by omega))
          rw [ho] at ht
          clear ho HALL
          generalize F.getD k 0 = x at *
          have hz : (x == 0) = false := by
            rcases hz : (x == 0) with _ | _
            · rfl
            · rw [hz] at ht; cases ht
          rw [hz] at ht
          have ht2 : (bits .and .i64 x (x - 1) != 0) = false := ht
          clear ht
          go_wp2_with fail
          go_round
          case rel => exact ⟨k + 1, by omega, by go_num, HQ.out⟩
          case measure => simp [intOf]; omega
      · have hkn : k = N := by omega
        subst hkn
        have HY := Lib.hid (all_yes (p := oneB) (F := F) (by rw [HN.out]; exact hall))
        clear hall
        go_wp2_with fail
        go_ret
        exact ⟨ret_bool (by rw [HE.out, HY.out]), HB2.out⟩
set_option maxHeartbeats 1000000 in
theorem impl_IsChance_c (s : Int) (a : Option Addr) (n c : Nat) (zs : List Int) (w : World) (ha : IsRow .i64 w a n c zs) :
    Calls Try.prog 10 #[.agg #[.int .i64 s, .slice a n c]] w fun e w' => e = .returned (.bool (chanceB s zs)) ∧ Below w.heap.size w w' := by
  have HR := Lib.hid ha
  clear ha
  go_enter Try.func10, Try.ntmps10
  go_wp2_with fail
  refine (isChance_c _ _ _ _ zs _ (HR.out.alloc _)).mono ?_
  rintro e w1 ⟨rfl, hb⟩
  have HB := Lib.hid (((Below.refl w.heap.size w).alloc (Nat.le_refl _) _).trans (hb.mono (by simp)))
  clear hb
  go_wp2_with fail
  go_ret
  exact ⟨rfl, HB.out⟩
set_option maxHeartbeats 2000000 in
theorem spec_IsChance_c (s : Int) (a : Option Addr) (n c : Nat) (zs : List Int) (w : World) (ha : IsRow .i64 w a n c zs) :
    Calls Try.prog 13 #[.agg #[.int .i64 s, .slice a n c]] w fun e w' => e = .returned (.bool (chanceB s zs)) ∧ Below w.heap.size w w' := by
  have HR := Lib.hid ha
  clear ha
  rcases hm : massB s zs with _ | _
  · have HE := Lib.hid (chance_mass_no hm)
    go_enter Try.func13, Try.ntmps13
    go_wp2_with fail
    refine wp_loop_rounds 1 ?_
    rw [rounds_succ]
    go_wp2_with fail
    refine (spec_MassValid_c _ _ _ _ zs _ (HR.out.alloc _)).mono ?_
    rintro e w1 ⟨rfl, hb⟩
    have HB := Lib.hid (((Below.refl w.heap.size w).alloc (Nat.le_refl _) _).trans (hb.mono (by simp)))
    have c0 : w1.cell? ⟨w.heap.size, 0, none⟩ = some (.int .i64 s) := (hb.cell (by simp)).trans (by go_simp)
    have c1 : w1.cell? ⟨w.heap.size, 1, none⟩ = some (.slice a n c) := (hb.cell (by simp)).trans (by go_simp)
    have HR1 := Lib.hid ((HR.out.alloc _).below hb)
    clear hb
    go_wp2_with fail
    refine (spec_MassValid_c _ _ _ _ zs _ HR1.out).mono ?_
    rintro e w2 ⟨rfl, hb⟩
    have HB2 := Lib.hid (HB.out.trans (hb.mono HB.out.size))
    clear hb
    go_wp2_with fail
    go_ret
    exact ⟨ret_bool HE.out.symm, HB2.out⟩
  · have HE := Lib.hid (chance_mass_yes hm)
    have HM := Lib.hid (massB_of hm)
    have HL := Lib.hid HR.out.len
    have hl := massB_len hm
    rw [HL.out] at hl
    rw [HL.out] at HE
    obtain ⟨l1, l2⟩ := hl
    go_enter Try.func13, Try.ntmps13
    go_wp2_with fail
    go_loopw [3] (fun i wr => ∃ k : Nat, k ≤ n ∧ i = .int .i64 k ∧ Below w.heap.size w wr ∧ (w.heap.size < wr.heap.size ∧ wr.cell? ⟨w.heap.size, 0, none⟩ = some (.int .i64 s) ∧ wr.cell? ⟨w.heap.size, 1, none⟩ = some (.slice a n c)) ∧ ∀ j, j < k → zs.getD j 0 ≠ 0 → oneB (j : Int) = true) (fun i _ => n - (intOf i).toNat)
    case atStart => exact ⟨0, by omega, rfl, (Below.refl _ _).alloc (Nat.le_refl _) _, ⟨by simp, by go_simp, by go_simp⟩, fun j hj => absurd hj (by omega)⟩
    case round =>
      obtain ⟨k, hk, rfl, hb0, ⟨hsz, k0, k1⟩, hall⟩ := hrel
      have HB0 := Lib.hid hb0
      have HALL := Lib.hid hall
      clear hb0 hall
      by_cases hlt : k < n
      · go_wp2_with fail
        refine (spec_MassValid_c _ _ _ _ zs _ (HR.out.below HB0.out)).mono ?_
        rintro e w1 ⟨rfl, hb⟩
        obtain ⟨b1, o1, rfl, _, h1⟩ := ((HR.out.below HB0.out).below hb).at_ (by omega)
        have g1 := h1 k hlt
        have HB := Lib.hid (HB0.out.trans (hb.mono (by omega)))
        replace k0 := (hb.cell (p := ⟨w.heap.size, 0, none⟩) (by show w.heap.size < _; omega)).trans k0
        replace k1 := (hb.cell (p := ⟨w.heap.size, 1, none⟩) (by show w.heap.size < _; omega)).trans k1
        have hsz1 : w.heap.size < w1.heap.size := Nat.lt_of_lt_of_le hsz hb.size
        clear h1 hb
        by_cases hx : zs.getD k 0 = 0
        · have HQ : Hid (∀ j, j < k + 1 → zs.getD j 0 ≠ 0 → oneB (j : Int) = true) := Lib.hid (by
            intro j hj hne
            by_cases h : j = k
            · rw [h] at hne; exact absurd hx hne
            · exact HALL.out j (by omega) hne)
          rw [hx] at g1
          clear hx
          go_wp2_with fail
          go_roundw
          case rel => exact ⟨k + 1, by omega, by go_num, HB.out, ⟨hsz1, k0, k1⟩, HQ.out⟩
          case measure => simp [intOf]; omega
        · have hx2 : 0 < zs.getD k 0 := by have := partsB_get HM.out.2.2.1 (k := k) (by rw [HL.out]; exact hlt); omega
          have HX := Lib.hid hx
          clear hx
          rcases ho : oneB (k : Int) with _ | _
          · have HNO := Lib.hid (chance_no hlt HX.out ho)
            have ho2 : (cnt (k : Int) == 1) = false := ho
            have ho3 : (cnt (k : Int) != 1) = true := by rw [bne, ho2]; rfl
            clear ho
            generalize zs.getD k 0 = x at *
            go_wp2_with (go_at_call 50; refine (l1Count_c _ (by omega) _).mono ?_; rintro e w' ⟨rfl, rfl⟩)
            go_ret
            exact ⟨ret_bool (by rw [HE.out, HNO.out]), HB.out⟩
          · have HQ : Hid (∀ j, j < k + 1 → zs.getD j 0 ≠ 0 → oneB (j : Int) = true) := Lib.hid (by
              intro j hj hne
              by_cases h : j = k
              · rw [h]; exact ho
              · exact HALL.out j (by omega) hne)
            have ho2 : (cnt (k : Int) == 1) = true := ho
            have ho3 : (cnt (k : Int) != 1) = false := by rw [bne, ho2]; rfl
            clear ho
            generalize zs.getD k 0 = x at *
            go_wp2_with (go_at_call 50; refine (l1Count_c _ (by omega) _).mono ?_; rintro e w' ⟨rfl, rfl⟩)
            go_roundw
            case rel => exact ⟨k + 1, by omega, by go_num, HB.out, ⟨hsz1, k0, k1⟩, HQ.out⟩
            case measure => simp [intOf]; omega
      · have hkn : k = n := by omega
        subst hkn
        have HY := Lib.hid (chance_yes HALL.out)
        go_wp2_with fail
        refine (spec_MassValid_c _ _ _ _ zs _ (HR.out.below HB0.out)).mono ?_
        rintro e w1 ⟨rfl, hb⟩
        have HR1 := Lib.hid ((HR.out.below HB0.out).below hb)
        have HB := Lib.hid (HB0.out.trans (hb.mono (by omega)))
        replace k0 := (hb.cell (p := ⟨w.heap.size, 0, none⟩) (by show w.heap.size < _; omega)).trans k0
        replace k1 := (hb.cell (p := ⟨w.heap.size, 1, none⟩) (by show w.heap.size < _; omega)).trans k1
        clear hb
        go_wp2_with fail
        refine (spec_MassValid_c _ _ _ _ zs _ HR1.out).mono ?_
        rintro e w2 ⟨rfl, hb⟩
        have HB2 := Lib.hid (HB.out.trans (hb.mono HB.out.size))
        clear hb
        go_wp2_with fail
        go_ret
        exact ⟨ret_bool (by rw [HE.out, HY.out]), HB2.out⟩
end Go.Proofs.Ytemollfejgmlcaa
