/- Contracts: parts brought to lowest terms. Conditions: as stated. -/
import Derived.Test.YtemollfejgmlcaaMi
import Derived.Test.YtemollfejgmlcaaGl
import Derived.Deep.RegionLaw
import Derived.Deep.AppendLies
import Derived.Deep.DeepCutAuto
namespace Go.Proofs.Ytemollfejgmlcaa
open Go.RowKit

set_option maxHeartbeats 4000000 in
theorem makeMass_c (s : Int) (a : Option Addr) (n c : Nat) (zs : List Int) (hs : Nns zs) (hn : n ≤ 16) (w : World) (ha : IsRow .i64 w a n c zs) :
    Calls Try.prog 55 #[.int .i64 s, .slice a n c] w (MassOk w (madeB s zs) s (madeL zs)) := by
  obtain ⟨i0, hi, hz0, hz1, hz2⟩ := info_parts Try.infoInt
  have HR := Lib.hid ha
  have HL := Lib.hid ha.len
  have HS := Lib.hid hs
  have HG := Lib.hid (gcdL_le hs (by omega))
  have HM : Hid (madeB s zs = ((!((gcdL zs : Int) == 0)) && massB s (madeL zs))) := Lib.hid rfl
  clear ha hs
  go_enter Try.func55, Try.ntmps55
  go_wp2_with fail
  refine (bel_drew (divisorOf_c _ _ _ zs HS.out.small _ (HR.out.alloc _))).mono ?_
  rintro e w1 ⟨rfl, hb⟩
  have c0 : w1.cell? ⟨w.heap.size, 0, none⟩ = some (.int .i64 0) := (hb.cell (by simp)).trans (by go_simp)
  have c1 : w1.cell? ⟨w.heap.size, 1, none⟩ = some (.slice none 0 0) := (hb.cell (by simp)).trans (by go_simp)
  have f0 : w1.frozen? ⟨w.heap.size, 0, none⟩ = false := (hb.frozen (by simp)).trans (by go_simp)
  have f1 : w1.frozen? ⟨w.heap.size, 1, none⟩ = false := (hb.frozen (by simp)).trans (by go_simp)
  have hz : w.heap.size < w1.heap.size := by have := hb.size; simp at this; omega
  have HB1 := Lib.hid (((Below.refl w.heap.size w).alloc (Nat.le_refl _) _).trans (hb.mono (by simp)))
  have HR1 := Lib.hid ((HR.out.alloc _).below hb)
  clear hb
  obtain ⟨D, hD⟩ : ∃ D : Nat, D = gcdL zs := ⟨_, rfl⟩
  rw [← hD] at HG HM ⊢
  have HD := Lib.hid hD
  clear hD
  by_cases h0 : D = 0
  · subst h0
    have HN : Hid (madeB s zs = false) := Lib.hid (by rw [HM.out]; rfl)
    go_wp2_with fail
    refine bodyPost_ret (v := .tuple #[.agg #[.int .i64 0, .slice none 0 0], .bool false]) (by simp [results, Try.results55, go_sem, c0, c1]) rfl ?_
    rw [HN.out]
    exact ⟨none, 0, rfl, own_nil0 _ _, (by repeat (first | exact HB1.out | (refine Below.setCell ?_ (by first | exact Nat.le_refl _ | (simp <;> omega) | omega) _)))⟩
  · have hd1 : (1 : Int) ≤ (D : Int) := by omega
    have hd0 : ((D : Int) == 0) = false := by rw [beq_eq_false_iff_ne]; omega
    have hd2 := HG.out
    have HMM : Hid (madeB s zs = massB s (madeL zs)) := Lib.hid (by rw [HM.out, hd0]; rfl)
    have HMG : Hid (∀ k, k < n → (madeL zs).getD k 0 = zs.getD k 0 / (D : Int)) := Lib.hid (by intro k hk; rw [HD.out]; exact madeL_get zs k (by rw [HL.out]; exact hk))
    have HML : Hid ((madeL zs).length = n) := Lib.hid ((madeL_len zs).trans HL.out)
    have HMF : Hid (∀ x ∈ madeL zs, Fits x) := Lib.hid (by
      intro x hx
      obtain ⟨i, hi, rfl⟩ := List.getElem_of_mem hx
      have e := HMG.out i (by rw [← HML.out]; exact hi)
      rw [List.getD_eq_getElem?_getD, List.getElem?_eq_getElem hi, Option.getD_some] at e
      rw [e]
      have := HS.out.get i
      have h1 : 0 ≤ zs.getD i 0 / (D : Int) := Int.ediv_nonneg this.1 (by omega)
      have h2 : zs.getD i 0 / (D : Int) ≤ zs.getD i 0 := Int.ediv_le_self _ this.1
      unfold Fits
      omega)
    go_wp2_with fail
    go_loopw [19] (fun i wr => ∃ (k : Nat) (A : Option Addr) (C : Nat), k ≤ n ∧ i = .int .i64 k ∧ wr.ownsRow (w1.heap.size + 1) 3 1 (.slice A k C) k (((madeL zs).take k).map (Value.int .i64)) ∧ Below w1.heap.size w1 wr ∧ w1.heap.size < wr.heap.size ∧ wr.cell? ⟨w1.heap.size, 0, none⟩ = some (.int .i64 s) ∧ wr.cell? ⟨w1.heap.size, 1, none⟩ = some (.slice A k C) ∧ wr.frozen? ⟨w1.heap.size, 1, none⟩ = false) (fun i _ => n - (intOf i).toNat)
    case atStart => exact ⟨0, none, 0, by omega, rfl, World.ownsRow_nil _ _ _ _, (Below.refl _ _).alloc (Nat.le_refl _) _, by simp, by go_simp, by go_simp, by go_simp⟩
    case round =>
      obtain ⟨k, A, C, hk, rfl, hown, hbl, hsz, k0, k1, kf⟩ := hrel
      have HBL := Lib.hid hbl
      clear hbl
      by_cases hlt : k < n
      · obtain ⟨b1, o1, rfl, hb1, h1⟩ := HR1.out.at_ (by omega)
        have g1 := (HBL.out.cell (p := ⟨b1, o1 + k, none⟩) hb1).trans (h1 k hlt)
        obtain ⟨x0, x1⟩ := HS.out.get k
        have HMK := Lib.hid (HMG.out k hlt)
        have HTK := Lib.hid (take_snoc_int (zs := madeL zs) (k := k) (by rw [HML.out]; exact hlt))
        have hlen : ((madeL zs).take k).length = k := by rw [List.length_take, HML.out]; omega
        have HLEN := Lib.hid hlen
        clear h1 hlen
        generalize zs.getD k 0 = x at *
        have q0 : 0 ≤ x / (D : Int) := Int.ediv_nonneg x0 (by omega)
        have q1 : x / (D : Int) ≤ 4611686018427387904 := Int.le_trans (Int.ediv_le_self _ x0) x1
        have hqw : IntKind.i64.wrap (x.tdiv (D : Int)) = x / (D : Int) := by rw [Int.tdiv_eq_ediv_of_nonneg x0]; exact IntWalk.i64_in _ (by omega)
        have hbr : b1 < wr.heap.size := Nat.lt_of_lt_of_le hb1 HBL.out.size
        have hne : ∀ g, (Value.slice A k C).ownBlock = some g → w1.heap.size + 1 ≤ g := fun g hg => (hown.lt g hg).1
        have HNE := Lib.hid hne
        clear hne
        go_wp2_with fail
        go_region_law
          ((refine step_append_lies _ (by rfl) _ _ _ (by rfl) (w1.heap.size + 1) 3 i0 _ 1 8 Try.underlying23 hi hz0 hz1 hz2 rfl (by omega) (.slice A k C) k _ (by rfl) ((hown.alloc _).drew)
              ⟨wr.heap.size, 0, none⟩ 1 1 [.int .i64 (x / (D : Int))] (by rfl) (by rfl) (World.news_of_block (cs := #[.int .i64 (x / (D : Int))]) (t := 3) (fr := (0, 0)) (heap_alloc_new wr _)) (by simp [Value.oneCell'])
              (by omega) (by unfold maxLen; omega) (by omega) (by simp; omega) (wr.heap.size + 1) (by simp) ?_; intro gg cap w2 hown2 hgrow hat hlt2
            have e1 : w2.cell? ⟨w1.heap.size, 1, none⟩ = some (.slice A k C) := (hgrow.cell_far _ (by simp; omega) (fun e => by have := HNE.out _ e.symm; first | omega | (simp at this; omega) | (simp at this))).trans (by go_simp)
            have e0 : w2.cell? ⟨w1.heap.size, 0, none⟩ = some (.int .i64 s) := (hgrow.cell_far _ (by simp; omega) (fun e => by have := HNE.out _ e.symm; first | omega | (simp at this; omega) | (simp at this))).trans (by go_simp)
            have ef : w2.frozen? ⟨w1.heap.size, 1, none⟩ = false := (hgrow.frozen_far _ (by simp; omega) (fun e => by have := HNE.out _ e.symm; first | omega | (simp at this; omega) | (simp at this))).trans (by go_simp)))
        all_goals
          have HL2 := Lib.hid (show ((madeL zs).take (k + 1)).length = k + 1 by rw [List.length_take, HML.out]; omega)
          have O2 : Hid (Own w2 (w1.heap.size + 1) (.slice (some ⟨gg, 0, none⟩) (k + 1) cap) ((madeL zs).take (k + 1))) := Lib.hid ⟨by rw [HL2.out, HTK.out, HMK.out, List.map_append]; exact hown2, fun y hy => HMF.out y (List.mem_of_mem_take hy)⟩
          have HB2 := Lib.hid (((HBL.out.alloc HBL.out.size (.cells #[.int .i64 (x / (D : Int))] 3)).drew).grown hgrow (by have := HBL.out.size; simp; omega) (fun j hj => by have := HNE.out j hj; omega))
          have hs2 : w1.heap.size < w2.heap.size := by have := hgrow.size; simp at this; omega
          clear hown hown2 hgrow hat k0 k1 kf hqw
          go_wp2_with fail
          go_roundw
          case rel =>
            refine ⟨k + 1, some ⟨gg, 0, none⟩, cap, by omega, by go_num, ?_, ?_, ?_, ?_, ?_, ?_⟩
            · have := ((O2.out.set ⟨w1.heap.size, 1, none⟩ (fun g hg => by have h1 := (O2.out.lt g hg).1; show g ≠ w1.heap.size; omega) (.slice (some ⟨gg, 0, none⟩) (k + 1) cap))).1
              rw [HL2.out] at this
              exact this
            · exact HB2.out.setCell (Nat.le_refl _) _
            · simpa [World.setCell] using hs2
            · go_simp
            · go_simp
            · go_simp
          case measure => simp [intOf]; omega
      · have hkn : k = n := by omega
        subst hkn
        have HO : Hid (Own wr (w1.heap.size + 1) (.slice A k C) (madeL zs)) := Lib.hid (by
          have := hown
          rw [List.take_of_length_le (by rw [HML.out]; exact Nat.le_refl _)] at this
          refine ⟨?_, HMF.out⟩
          rw [HML.out]
          exact this)
        clear hown
        go_wp2_with fail
        refine (isMass_c _ _ _ _ (madeL zs) _ HO.out.rowAt).mono ?_
        rintro e w2 ⟨rfl, hb⟩
        replace c0 := (hb.cell (p := ⟨w.heap.size, 0, none⟩) (by show w.heap.size < _; omega)).trans ((HBL.out.cell (p := ⟨w.heap.size, 0, none⟩) hz).trans c0)
        replace c1 := (hb.cell (p := ⟨w.heap.size, 1, none⟩) (by show w.heap.size < _; omega)).trans ((HBL.out.cell (p := ⟨w.heap.size, 1, none⟩) hz).trans c1)
        replace f0 := (hb.frozen (p := ⟨w.heap.size, 0, none⟩) (by show w.heap.size < _; omega)).trans ((HBL.out.frozen (p := ⟨w.heap.size, 0, none⟩) hz).trans f0)
        replace f1 := (hb.frozen (p := ⟨w.heap.size, 1, none⟩) (by show w.heap.size < _; omega)).trans ((HBL.out.frozen (p := ⟨w.heap.size, 1, none⟩) hz).trans f1)
        replace k0 := (hb.cell (p := ⟨w1.heap.size, 0, none⟩) (by show w1.heap.size < _; omega)).trans k0
        replace k1 := (hb.cell (p := ⟨w1.heap.size, 1, none⟩) (by show w1.heap.size < _; omega)).trans k1
        have HO2 := Lib.hid (HO.out.below hb (fun g hg => (HO.out.lt g hg).2))
        have HB2 := Lib.hid ((HB1.out.trans (HBL.out.mono (by omega))).trans (hb.mono (by omega)))
        have hsz2 : w1.heap.size < w2.heap.size := Nat.lt_of_lt_of_le hsz hb.size
        clear hb kf
        rcases hm : massB s (madeL zs) with _ | _
        · have HN : Hid (madeB s zs = false) := Lib.hid (HMM.out.trans hm)
          go_wp2_with fail
          refine bodyPost_ret (v := .tuple #[.agg #[.int .i64 0, .slice none 0 0], .bool false]) (by simp [results, Try.results55, go_sem, c0, c1]) rfl ?_
          rw [HN.out]
          exact ⟨none, 0, rfl, own_nil0 _ _, (by repeat (first | exact HB2.out | (refine Below.setCell ?_ (by first | exact Nat.le_refl _ | (simp <;> omega) | omega) _)))⟩
        · have HN : Hid (madeB s zs = true) := Lib.hid (HMM.out.trans hm)
          go_wp2_with fail
          refine bodyPost_ret (v := .tuple #[.agg #[.int .i64 s, .slice A k C], .bool true]) (by simp [results, Try.results55, go_sem, c0, c1]) rfl ?_
          rw [HN.out]
          refine ⟨A, C, by rw [selL_true, HML.out]; rfl, ?_, (by repeat (first | exact HB2.out | (refine Below.setCell ?_ (by first | exact Nat.le_refl _ | (simp <;> omega) | omega) _)))⟩
          rw [selL_true, HML.out]
          refine Own.low (B := w1.heap.size + 1) ?_ (by omega)
          repeat (first | exact HO2.out | (refine Own.set ?_ _ (fun g hg => by have h1 := (HO2.out.lt g hg).1; show g ≠ w.heap.size; omega) _))
set_option maxHeartbeats 4000000 in
theorem l3Made_c (s : Int) (a : Option Addr) (n c : Nat) (zs : List Int) (hs : Nns zs) (hn : n ≤ 16) (w : World) (ha : IsRow .i64 w a n c zs) :
    Calls Try.prog 58 #[.int .i64 s, .slice a n c] w (MassOk w (madeB s zs) s (madeL zs)) := by
  obtain ⟨i0, hi, hz0, hz1, hz2⟩ := info_parts Try.infoInt
  have HR := Lib.hid ha
  have HL := Lib.hid ha.len
  have HS := Lib.hid hs
  have HG := Lib.hid (gcdL_le hs (by omega))
  have HM : Hid (madeB s zs = ((!((gcdL zs : Int) == 0)) && massB s (madeL zs))) := Lib.hid rfl
  clear ha hs
  go_enter Try.func58, Try.ntmps58
  go_wp2_with fail
  refine (bel_same (l3Lowest_c _ _ _ zs HS.out _ (HR.out.alloc _))).mono ?_
  rintro e w1 ⟨rfl, hb⟩
  have c0 : w1.cell? ⟨w.heap.size, 0, none⟩ = some (.int .i64 0) := (hb.cell (by simp)).trans (by go_simp)
  have c1 : w1.cell? ⟨w.heap.size, 1, none⟩ = some (.slice none 0 0) := (hb.cell (by simp)).trans (by go_simp)
  have f0 : w1.frozen? ⟨w.heap.size, 0, none⟩ = false := (hb.frozen (by simp)).trans (by go_simp)
  have f1 : w1.frozen? ⟨w.heap.size, 1, none⟩ = false := (hb.frozen (by simp)).trans (by go_simp)
  have hz : w.heap.size < w1.heap.size := by have := hb.size; simp at this; omega
  have HB1 := Lib.hid (((Below.refl w.heap.size w).alloc (Nat.le_refl _) _).trans (hb.mono (by simp)))
  have HR1 := Lib.hid ((HR.out.alloc _).below hb)
  clear hb
  obtain ⟨D, hD⟩ : ∃ D : Nat, D = gcdL zs := ⟨_, rfl⟩
  rw [← hD] at HG HM ⊢
  have HD := Lib.hid hD
  clear hD
  by_cases h0 : D = 0
  · subst h0
    have HN : Hid (madeB s zs = false) := Lib.hid (by rw [HM.out]; rfl)
    go_wp2_with fail
    refine bodyPost_ret (v := .tuple #[.agg #[.int .i64 0, .slice none 0 0], .bool false]) (by simp [results, Try.results58, go_sem, c0, c1]) rfl ?_
    rw [HN.out]
    exact ⟨none, 0, rfl, own_nil0 _ _, (by repeat (first | exact HB1.out | (refine Below.setCell ?_ (by first | exact Nat.le_refl _ | (simp <;> omega) | omega) _)))⟩
  · have hd1 : (1 : Int) ≤ (D : Int) := by omega
    have hd0 : ((D : Int) == 0) = false := by rw [beq_eq_false_iff_ne]; omega
    have hd2 := HG.out
    have HMM : Hid (madeB s zs = massB s (madeL zs)) := Lib.hid (by rw [HM.out, hd0]; rfl)
    have HMG : Hid (∀ k, k < n → (madeL zs).getD k 0 = zs.getD k 0 / (D : Int)) := Lib.hid (by intro k hk; rw [HD.out]; exact madeL_get zs k (by rw [HL.out]; exact hk))
    have HML : Hid ((madeL zs).length = n) := Lib.hid ((madeL_len zs).trans HL.out)
    have HMF : Hid (∀ x ∈ madeL zs, Fits x) := Lib.hid (by
      intro x hx
      obtain ⟨i, hi, rfl⟩ := List.getElem_of_mem hx
      have e := HMG.out i (by rw [← HML.out]; exact hi)
      rw [List.getD_eq_getElem?_getD, List.getElem?_eq_getElem hi, Option.getD_some] at e
      rw [e]
      have := HS.out.get i
      have h1 : 0 ≤ zs.getD i 0 / (D : Int) := Int.ediv_nonneg this.1 (by omega)
      have h2 : zs.getD i 0 / (D : Int) ≤ zs.getD i 0 := Int.ediv_le_self _ this.1
      unfold Fits
      omega)
    go_wp2_with fail
    go_loopw [8] (fun i wr => ∃ (k : Nat) (A : Option Addr) (C : Nat), k ≤ n ∧ i = .int .i64 k ∧ wr.ownsRow (w1.heap.size + 1) 3 1 (.slice A k C) k (((madeL zs).take k).map (Value.int .i64)) ∧ Below w1.heap.size w1 wr ∧ w1.heap.size < wr.heap.size ∧ wr.cell? ⟨w1.heap.size, 0, none⟩ = some (.int .i64 s) ∧ wr.cell? ⟨w1.heap.size, 1, none⟩ = some (.slice A k C) ∧ wr.frozen? ⟨w1.heap.size, 1, none⟩ = false) (fun i _ => n - (intOf i).toNat)
    case atStart => exact ⟨0, none, 0, by omega, rfl, World.ownsRow_nil _ _ _ _, (Below.refl _ _).alloc (Nat.le_refl _) _, by simp, by go_simp, by go_simp, by go_simp⟩
    case round =>
      obtain ⟨k, A, C, hk, rfl, hown, hbl, hsz, k0, k1, kf⟩ := hrel
      have HBL := Lib.hid hbl
      clear hbl
      by_cases hlt : k < n
      · obtain ⟨b1, o1, rfl, hb1, h1⟩ := HR1.out.at_ (by omega)
        have g1 := (HBL.out.cell (p := ⟨b1, o1 + k, none⟩) hb1).trans (h1 k hlt)
        obtain ⟨x0, x1⟩ := HS.out.get k
        have HMK := Lib.hid (HMG.out k hlt)
        have HTK := Lib.hid (take_snoc_int (zs := madeL zs) (k := k) (by rw [HML.out]; exact hlt))
        have hlen : ((madeL zs).take k).length = k := by rw [List.length_take, HML.out]; omega
        have HLEN := Lib.hid hlen
        clear h1 hlen
        generalize zs.getD k 0 = x at *
        have q0 : 0 ≤ x / (D : Int) := Int.ediv_nonneg x0 (by omega)
        have q1 : x / (D : Int) ≤ 4611686018427387904 := Int.le_trans (Int.ediv_le_self _ x0) x1
        have hqw : IntKind.i64.wrap (x.tdiv (D : Int)) = x / (D : Int) := by rw [Int.tdiv_eq_ediv_of_nonneg x0]; exact IntWalk.i64_in _ (by omega)
        have hbr : b1 < wr.heap.size := Nat.lt_of_lt_of_le hb1 HBL.out.size
        have hne : ∀ g, (Value.slice A k C).ownBlock = some g → w1.heap.size + 1 ≤ g := fun g hg => (hown.lt g hg).1
        have HNE := Lib.hid hne
        clear hne
        go_wp2_with fail
        go_region_law
          ((refine step_append_lies _ (by rfl) _ _ _ (by rfl) (w1.heap.size + 1) 3 i0 _ 1 8 Try.underlying23 hi hz0 hz1 hz2 rfl (by omega) (.slice A k C) k _ (by rfl) ((hown.alloc _).drew)
              ⟨wr.heap.size, 0, none⟩ 1 1 [.int .i64 (x / (D : Int))] (by rfl) (by rfl) (World.news_of_block (cs := #[.int .i64 (x / (D : Int))]) (t := 3) (fr := (0, 0)) (heap_alloc_new wr _)) (by simp [Value.oneCell'])
              (by omega) (by unfold maxLen; omega) (by omega) (by simp; omega) (wr.heap.size + 1) (by simp) ?_; intro gg cap w2 hown2 hgrow hat hlt2
            have e1 : w2.cell? ⟨w1.heap.size, 1, none⟩ = some (.slice A k C) := (hgrow.cell_far _ (by simp; omega) (fun e => by have := HNE.out _ e.symm; first | omega | (simp at this; omega) | (simp at this))).trans (by go_simp)
            have e0 : w2.cell? ⟨w1.heap.size, 0, none⟩ = some (.int .i64 s) := (hgrow.cell_far _ (by simp; omega) (fun e => by have := HNE.out _ e.symm; first | omega | (simp at this; omega) | (simp at this))).trans (by go_simp)
            have ef : w2.frozen? ⟨w1.heap.size, 1, none⟩ = false := (hgrow.frozen_far _ (by simp; omega) (fun e => by have := HNE.out _ e.symm; first | omega | (simp at this; omega) | (simp at this))).trans (by go_simp)))
        all_goals
          have HL2 := Lib.hid (show ((madeL zs).take (k + 1)).length = k + 1 by rw [List.length_take, HML.out]; omega)
          have O2 : Hid (Own w2 (w1.heap.size + 1) (.slice (some ⟨gg, 0, none⟩) (k + 1) cap) ((madeL zs).take (k + 1))) := Lib.hid ⟨by rw [HL2.out, HTK.out, HMK.out, List.map_append]; exact hown2, fun y hy => HMF.out y (List.mem_of_mem_take hy)⟩
          have HB2 := Lib.hid (((HBL.out.alloc HBL.out.size (.cells #[.int .i64 (x / (D : Int))] 3)).drew).grown hgrow (by have := HBL.out.size; simp; omega) (fun j hj => by have := HNE.out j hj; omega))
          have hs2 : w1.heap.size < w2.heap.size := by have := hgrow.size; simp at this; omega
          clear hown hown2 hgrow hat k0 k1 kf hqw
          go_wp2_with fail
          go_roundw
          case rel =>
            refine ⟨k + 1, some ⟨gg, 0, none⟩, cap, by omega, by go_num, ?_, ?_, ?_, ?_, ?_, ?_⟩
            · have := ((O2.out.set ⟨w1.heap.size, 1, none⟩ (fun g hg => by have h1 := (O2.out.lt g hg).1; show g ≠ w1.heap.size; omega) (.slice (some ⟨gg, 0, none⟩) (k + 1) cap))).1
              rw [HL2.out] at this
              exact this
            · exact HB2.out.setCell (Nat.le_refl _) _
            · simpa [World.setCell] using hs2
            · go_simp
            · go_simp
            · go_simp
          case measure => simp [intOf]; omega
      · have hkn : k = n := by omega
        subst hkn
        have HO : Hid (Own wr (w1.heap.size + 1) (.slice A k C) (madeL zs)) := Lib.hid (by
          have := hown
          rw [List.take_of_length_le (by rw [HML.out]; exact Nat.le_refl _)] at this
          refine ⟨?_, HMF.out⟩
          rw [HML.out]
          exact this)
        clear hown
        go_wp2_with fail
        refine (spec_MassValid_c _ _ _ _ (madeL zs) _ HO.out.rowAt).mono ?_
        rintro e w2 ⟨rfl, hb⟩
        replace c0 := (hb.cell (p := ⟨w.heap.size, 0, none⟩) (by show w.heap.size < _; omega)).trans ((HBL.out.cell (p := ⟨w.heap.size, 0, none⟩) hz).trans c0)
        replace c1 := (hb.cell (p := ⟨w.heap.size, 1, none⟩) (by show w.heap.size < _; omega)).trans ((HBL.out.cell (p := ⟨w.heap.size, 1, none⟩) hz).trans c1)
        replace f0 := (hb.frozen (p := ⟨w.heap.size, 0, none⟩) (by show w.heap.size < _; omega)).trans ((HBL.out.frozen (p := ⟨w.heap.size, 0, none⟩) hz).trans f0)
        replace f1 := (hb.frozen (p := ⟨w.heap.size, 1, none⟩) (by show w.heap.size < _; omega)).trans ((HBL.out.frozen (p := ⟨w.heap.size, 1, none⟩) hz).trans f1)
        replace k0 := (hb.cell (p := ⟨w1.heap.size, 0, none⟩) (by show w1.heap.size < _; omega)).trans k0
        replace k1 := (hb.cell (p := ⟨w1.heap.size, 1, none⟩) (by show w1.heap.size < _; omega)).trans k1
        have HO2 := Lib.hid (HO.out.below hb (fun g hg => (HO.out.lt g hg).2))
        have HB2 := Lib.hid ((HB1.out.trans (HBL.out.mono (by omega))).trans (hb.mono (by omega)))
        have hsz2 : w1.heap.size < w2.heap.size := Nat.lt_of_lt_of_le hsz hb.size
        clear hb kf
        rcases hm : massB s (madeL zs) with _ | _
        · have HN : Hid (madeB s zs = false) := Lib.hid (HMM.out.trans hm)
          go_wp2_with fail
          refine bodyPost_ret (v := .tuple #[.agg #[.int .i64 0, .slice none 0 0], .bool false]) (by simp [results, Try.results58, go_sem, c0, c1]) rfl ?_
          rw [HN.out]
          exact ⟨none, 0, rfl, own_nil0 _ _, (by repeat (first | exact HB2.out | (refine Below.setCell ?_ (by first | exact Nat.le_refl _ | (simp <;> omega) | omega) _)))⟩
        · have HN : Hid (madeB s zs = true) := Lib.hid (HMM.out.trans hm)
          go_wp2_with fail
          refine bodyPost_ret (v := .tuple #[.agg #[.int .i64 s, .slice A k C], .bool true]) (by simp [results, Try.results58, go_sem, c0, c1]) rfl ?_
          rw [HN.out]
          refine ⟨A, C, by rw [selL_true, HML.out]; rfl, ?_, (by repeat (first | exact HB2.out | (refine Below.setCell ?_ (by first | exact Nat.le_refl _ | (simp <;> omega) | omega) _)))⟩
          rw [selL_true, HML.out]
          refine Own.low (B := w1.heap.size + 1) ?_ (by omega)
          repeat (first | exact HO2.out | (refine Own.set ?_ _ (fun g hg => by have h1 := (HO2.out.lt g hg).1; show g ≠ w.heap.size; omega) _))
end Go.Proofs.Ytemollfejgmlcaa
