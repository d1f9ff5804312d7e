/- Contracts: the sets that have parts; single answers; nested sets. Conditions: as stated. -/
import Derived.Test.YtemollfejgmlcaaMd
namespace Go.Proofs.Ytemollfejgmlcaa
open Go.RowKit

theorem Fits.nat {k : Nat} (h : k ≤ 1048576) : Fits (k : Int) := by unfold Fits; omega
set_option maxHeartbeats 2000000 in
theorem focalSets_c (s : Int) (a : Option Addr) (n c : Nat) (zs : List Int) (hn : n ≤ 16) (w : World) (ha : IsRow .i64 w a n c zs) :
    Calls Try.prog 48 #[.agg #[.int .i64 s, .slice a n c]] w fun e w' => ∃ v, e = .returned v ∧ Own w' w.heap.size v (focal zs n) ∧ Below w.heap.size w w' := by
  obtain ⟨i0, hi, hz0, hz1, hz2⟩ := info_parts Try.infoInt
  have HR := Lib.hid ha
  clear ha
  go_enter Try.func48, Try.ntmps48
  go_wp2
  go_loopw [3, 10] (fun v i wr => ∃ k : Nat, k ≤ n ∧ i = .int .i64 k ∧ wr.ownsRow w.heap.size 3 1 v (focal zs k).length ((focal zs k).map (Value.int .i64)) ∧ Below w.heap.size w wr) (fun _ i _ => n - (intOf i).toNat)
  case atStart =>
    refine ⟨0, by omega, rfl, ?_, ((Below.refl _ _).alloc (Nat.le_refl _) _).alloc (by simp) _⟩
    have e0 : focal zs 0 = [] := rfl
    rw [e0]
    have := World.ownsRow_lit (w.alloc (.cells #[.int .i64 s, .slice a n c] 25)) #[] 0 (base := w.heap.size) (size := 1) (e := 3) (by simp) (by unfold maxLen; omega) rfl
    simpa using this
  case round =>
    obtain ⟨k, hk, rfl, hown, hb⟩ := hrel
    have hsl := focal_len zs k
    by_cases hlt : k < n
    · obtain ⟨b1, o1, rfl, _, h1⟩ := (HR.out.below hb).at_ (by omega)
      have g1 := h1 k hlt
      clear h1
      by_cases hx : zs.getD k 0 = 0
      · have HE := Lib.hid (focal_no hx)
        have HO := Lib.hid hown
        rw [hx] at g1
        clear hx hown
        go_wp2
        go_roundw
        case rel => exact ⟨k + 1, by omega, by go_num, by rw [HE.out]; exact HO.out, hb⟩
        case measure => simp [intOf]; omega
      · have HE := Lib.hid (focal_yes hx)
        have hxb : (zs.getD k 0 != 0) = true := by simpa using hx
        clear hx
        generalize zs.getD k 0 = x at *
        go_wp2_with (at_builtin; refine wpList_append_own _ rfl _ _ 23 rfl w.heap.size 3 i0 (.int .i64 0) 1 8 Try.underlying23 hi hz0 hz1 hz2 rfl (by decide) _ _ _ rfl (hown.alloc _) ⟨wr.heap.size, 0, none⟩ 1 1 [.int .i64 (k : Int)] rfl rfl ?c1 ?c2 ?c3 ?c4 ?c5 ?_)
        case c1 =>
          intro j u hj
          match j, hj with
          | 0, hj => simp at hj; subst hj; simp [Addr.add]
        case c2 => intro u hu; simp at hu; subst hu; rfl
        case c3 => unfold maxLen; omega
        case c4 => omega
        case c5 => have := hb.size; simp; omega
        intro v' w1 hown' hgrow _
        have HO := Lib.hid hown'
        have HB := Lib.hid ((hb.alloc hb.size (.cells #[.int .i64 (k : Int)] 3)).grown hgrow (by have := hb.size; simp; omega) (fun j hj => (hown.lt j hj).1))
        clear hown hown' hgrow hb
        go_wp2
        go_roundw
        case rel => exact ⟨k + 1, by omega, by go_num, by rw [HE.out]; simpa using HO.out, HB.out⟩
        case measure => simp [intOf]; omega
    · have hkn : k = n := by omega
      subst hkn
      go_wp2
      go_ret
      exact ⟨_, rfl, ⟨hown, focal_fits (by omega)⟩, hb⟩
theorem focalI_no {s : Int} {zs : List Int} (h : massB s zs = false) : focalI s zs = [] := by simp [focalI, h]
theorem focalI_yes {s : Int} {zs : List Int} (h : massB s zs = true) : focalI s zs = focal zs zs.length := by simp [focalI, h]
theorem own_nil (w : World) (B : Nat) : Own w B (.slice none 0 0) [] := ⟨World.ownsRow_nil _ _ _ _, by simp⟩
set_option maxHeartbeats 1000000 in
theorem impl_FocalSets_c (s : Int) (a : Option Addr) (n c : Nat) (zs : List Int) (w : World) (ha : IsRow .i64 w a n c zs) :
    Calls Try.prog 16 #[.agg #[.int .i64 s, .slice a n c]] w fun e w' => ∃ v, e = .returned v ∧ Own w' w.heap.size v (focalI s zs) ∧ Below w.heap.size w w' := by
  have HR := Lib.hid ha
  clear ha
  rcases hm : massB s zs with _ | _
  · have HE := Lib.hid (focalI_no hm)
    go_enter Try.func16, Try.ntmps16
    go_wp2_with fail
    refine (isMass_c _ _ _ _ zs _ (HR.out.alloc _)).mono ?_
    rintro e w1 ⟨rfl, hb⟩
    have HB := Lib.hid (((Below.refl w.heap.size w).alloc (Nat.le_refl _) _).trans (hb.mono (by simp)))
    clear hb
    go_wp2_with fail
    go_ret
    exact ⟨_, rfl, by rw [HE.out]; exact own_nil _ _, HB.out⟩
  · have HE := Lib.hid (focalI_yes hm)
    have HL := Lib.hid HR.out.len
    have hl := massB_len hm
    rw [HL.out] at hl
    obtain ⟨l1, l2⟩ := hl
    go_enter Try.func16, Try.ntmps16
    go_wp2_with fail
    refine (isMass_c _ _ _ _ zs _ (HR.out.alloc _)).mono ?_
    rintro e w1 ⟨rfl, hb⟩
    have HB := Lib.hid (((Below.refl w.heap.size w).alloc (Nat.le_refl _) _).trans (hb.mono (by simp)))
    have c0 : w1.cell? ⟨w.heap.size, 0, none⟩ = some (.int .i64 s) := (hb.cell (by simp)).trans (by go_simp)
    have c1 : w1.cell? ⟨w.heap.size, 1, none⟩ = some (.slice a n c) := (hb.cell (by simp)).trans (by go_simp)
    have HR1 := Lib.hid ((HR.out.alloc _).below hb)
    clear hb
    go_wp2_with fail
    refine (focalSets_c _ _ _ _ zs l2 _ HR1.out).mono ?_
    rintro e w2 ⟨v, rfl, ho, hb⟩
    have HB2 := Lib.hid (HB.out.trans (hb.mono HB.out.size))
    have HO := Lib.hid (ho.low HB.out.size)
    clear hb ho
    go_wp2_with fail
    go_ret
    exact ⟨_, rfl, by rw [HE.out, HL.out]; exact HO.out, HB2.out⟩
set_option maxHeartbeats 2000000 in
theorem spec_FocalSets_c (s : Int) (a : Option Addr) (n c : Nat) (zs : List Int) (w : World) (ha : IsRow .i64 w a n c zs) :
    Calls Try.prog 30 #[.agg #[.int .i64 s, .slice a n c]] w fun e w' => ∃ v, e = .returned v ∧ Own w' w.heap.size v (focalI s zs) ∧ Below w.heap.size w w' := by
  have HR := Lib.hid ha
  have HLit : Hid (((w.alloc (.cells #[.int .i64 s, .slice a n c] 25)).alloc (.cells #[] 3)).ownsRow (w.heap.size + 1) 3 1 (.slice (some ⟨w.heap.size + 1, 0, none⟩) 0 0) 0 []) := Lib.hid (by
    have := World.ownsRow_lit (w.alloc (.cells #[.int .i64 s, .slice a n c] 25)) #[] 0 (base := w.heap.size + 1) (size := 1) (e := 3) (by simp) (by unfold maxLen; omega) rfl
    simpa using this)
  clear ha
  rcases hm : massB s zs with _ | _
  · have HE := Lib.hid (focalI_no hm)
    go_enter Try.func30, Try.ntmps30
    go_wp2_with fail
    refine wp_loop_rounds 1 ?_
    rw [rounds_succ]
    go_wp2_with fail
    refine (spec_MassValid_c _ _ _ _ zs _ ((HR.out.alloc _).alloc _)).mono ?_
    rintro e w1 ⟨rfl, hb⟩
    have HB := Lib.hid ((((Below.refl w.heap.size w).alloc (Nat.le_refl _) _).alloc (by simp) _).trans (hb.mono (by simp <;> omega)))
    have HO : Hid (w1.ownsRow (w.heap.size + 1) 3 1 (.slice (some ⟨w.heap.size + 1, 0, none⟩) 0 0) 0 []) := Lib.hid ((show Own _ _ _ [] from ⟨HLit.out, by simp⟩).below hb (fun g hg => by simp [Value.ownBlock] at hg; simp; omega)).1
    clear hb
    go_wp2_with fail
    go_ret
    exact ⟨_, rfl, by rw [HE.out]; exact Own.low ⟨HO.out, by simp⟩ (Nat.le_succ _), HB.out⟩
  · have HE := Lib.hid (focalI_yes hm)
    have HM := Lib.hid (massB_of hm)
    have HL := Lib.hid HR.out.len
    have hl := massB_len hm
    rw [HL.out] at hl
    obtain ⟨l1, l2⟩ := hl
    obtain ⟨i0, hi, hz0, hz1, hz2⟩ := info_parts Try.infoInt
    go_enter Try.func30, Try.ntmps30
    go_wp2_with fail
    go_loopw [3, 4] (fun v i wr => ∃ k : Nat, k ≤ n ∧ i = .int .i64 k ∧ wr.ownsRow (w.heap.size + 1) 3 1 v (focal zs k).length ((focal zs k).map (Value.int .i64)) ∧ Below w.heap.size w wr ∧ (w.heap.size + 1 < wr.heap.size ∧ wr.cell? ⟨w.heap.size, 0, none⟩ = some (.int .i64 s) ∧ wr.cell? ⟨w.heap.size, 1, none⟩ = some (.slice a n c))) (fun _ i _ => n - (intOf i).toNat)
    case atStart => exact ⟨0, by omega, rfl, HLit.out, ((Below.refl _ _).alloc (Nat.le_refl _) _).alloc (by simp) _, by simp, by go_simp, by go_simp⟩
    case round =>
      obtain ⟨k, hk, rfl, hown, hb, hsz, k0, k1⟩ := hrel
      have hsl := focal_len zs k
      have HO0 := Lib.hid hown
      have HB0 := Lib.hid hb
      clear hown hb
      by_cases hlt : k < n
      · by_cases hx : zs.getD k 0 = 0
        · have HEN := Lib.hid (focal_no hx)
          have HX := Lib.hid hx
          clear hx
          go_wp2_with fail
          refine (spec_MassValid_c _ _ _ _ zs _ (HR.out.below HB0.out)).mono ?_
          rintro e w1 ⟨rfl, hb⟩
          obtain ⟨b1, o1, rfl, _, h1⟩ := ((HR.out.below HB0.out).below hb).at_ (by omega)
          have g1 := h1 k hlt
          rw [HX.out] at g1
          have hlg := (show Own _ _ _ (focal zs k) from ⟨HO0.out, focal_fits (by omega)⟩)
          have HO := Lib.hid (hlg.below hb (fun g hg => (hlg.lt g hg).2)).1
          have HB := Lib.hid (HB0.out.trans (hb.mono (by omega)))
          replace k0 := (hb.cell (p := ⟨w.heap.size, 0, none⟩) (by show w.heap.size < _; omega)).trans k0
          replace k1 := (hb.cell (p := ⟨w.heap.size, 1, none⟩) (by show w.heap.size < _; omega)).trans k1
          have hsz1 : w.heap.size + 1 < w1.heap.size := Nat.lt_of_lt_of_le hsz hb.size
          clear h1 hb hlg
          go_wp2_with fail
          go_roundw
          case rel => exact ⟨k + 1, by omega, by go_num, by rw [HEN.out]; exact HO.out, HB.out, hsz1, k0, k1⟩
          case measure => simp [intOf]; omega
        · have HEN := Lib.hid (focal_yes hx)
          have hx2 : 0 < zs.getD k 0 := by have := partsB_get HM.out.2.2.1 (k := k) (by rw [HL.out]; exact hlt); omega
          clear hx
          go_wp2_with fail
          refine (spec_MassValid_c _ _ _ _ zs _ (HR.out.below HB0.out)).mono ?_
          rintro e w1 ⟨rfl, hb⟩
          obtain ⟨b1, o1, rfl, _, h1⟩ := ((HR.out.below HB0.out).below hb).at_ (by omega)
          have g1 := h1 k hlt
          have hlg := (show Own _ _ _ (focal zs k) from ⟨HO0.out, focal_fits (by omega)⟩)
          have hown := (hlg.below hb (fun g hg => (hlg.lt g hg).2)).1
          have HB := Lib.hid (HB0.out.trans (hb.mono (by omega)))
          replace k0 := (hb.cell (p := ⟨w.heap.size, 0, none⟩) (by show w.heap.size < _; omega)).trans k0
          replace k1 := (hb.cell (p := ⟨w.heap.size, 1, none⟩) (by show w.heap.size < _; omega)).trans k1
          have hsz1 : w.heap.size + 1 < w1.heap.size := Nat.lt_of_lt_of_le hsz hb.size
          clear h1 hb hlg
          generalize zs.getD k 0 = x at *
          go_wp2_with (at_builtin; refine wpList_append_own _ rfl _ _ 23 rfl (w.heap.size + 1) 3 i0 (.int .i64 0) 1 8 Try.underlying23 hi hz0 hz1 hz2 rfl (by decide) _ _ _ rfl (hown.alloc _) ⟨w1.heap.size, 0, none⟩ 1 1 [.int .i64 (k : Int)] rfl rfl ?c1 ?c2 ?c3 ?c4 ?c5 ?_)
          case c1 =>
            intro j u hj
            match j, hj with
            | 0, hj => simp at hj; subst hj; simp [Addr.add]
          case c2 => intro u hu; simp at hu; subst hu; rfl
          case c3 => unfold maxLen; omega
          case c4 => omega
          case c5 => simp; omega
          intro v' w2 hown' hgrow _
          have HO := Lib.hid hown'
          have hne := fun g hg => (hown.lt g hg).1
          have HB2 := Lib.hid ((HB.out.alloc HB.out.size (.cells #[.int .i64 (k : Int)] 3)).grown hgrow (by have := HB.out.size; simp; omega) (fun j hj => by have := hne j hj; omega))
          have hsz2 : w.heap.size + 1 < w2.heap.size := by have := hgrow.size; simp at this; omega
          have k0' : w2.cell? ⟨w.heap.size, 0, none⟩ = some (.int .i64 s) := hgrow.cell ((World.cell?_alloc_lt w1 _ ⟨w.heap.size, 0, none⟩ (by show w.heap.size < _; omega)).trans k0) (by intro e; have := hne _ e.symm; simp at this; try omega)
          have k1' : w2.cell? ⟨w.heap.size, 1, none⟩ = some (.slice (some ⟨b1, o1, none⟩) n c) := hgrow.cell ((World.cell?_alloc_lt w1 _ ⟨w.heap.size, 1, none⟩ (by show w.heap.size < _; omega)).trans k1) (by intro e; have := hne _ e.symm; simp at this; try omega)
          clear hown hown' hgrow hne k0 k1
          go_wp2_with fail
          go_roundw
          case rel => exact ⟨k + 1, by omega, by go_num, by rw [HEN.out]; simpa using HO.out, HB2.out, hsz2, k0', k1'⟩
          case measure => simp [intOf]; omega
      · have hkn : k = n := by omega
        subst hkn
        go_wp2_with fail
        refine (spec_MassValid_c _ _ _ _ zs _ (HR.out.below HB0.out)).mono ?_
        rintro e w1 ⟨rfl, hb⟩
        have hlg := (show Own _ _ _ (focal zs k) from ⟨HO0.out, focal_fits (by omega)⟩)
        have HO := Lib.hid (hlg.below hb (fun g hg => (hlg.lt g hg).2))
        have HB := Lib.hid (HB0.out.trans (hb.mono (by omega)))
        replace k1 := (hb.cell (p := ⟨w.heap.size, 1, none⟩) (by show w.heap.size < _; omega)).trans k1
        clear hb hlg
        go_wp2_with fail
        go_ret
        exact ⟨_, rfl, by rw [HE.out, HL.out]; exact HO.out.low (Nat.le_succ _), HB.out⟩
end Go.Proofs.Ytemollfejgmlcaa
