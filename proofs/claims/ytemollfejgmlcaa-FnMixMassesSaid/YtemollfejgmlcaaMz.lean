/- Contracts of chapter 3's draws: the arguments of a mean. Conditions: as stated. -/
import Derived.Test.YtemollfejgmlcaaMy
namespace Go.Proofs.Ytemollfejgmlcaa
open Go.RowKit

set_option maxRecDepth 100000 in
set_option maxHeartbeats 4000000 in
theorem DrawMixMasses_c (A0 : Option Addr) (n0 c0 : Nat) (zs0 : List Int) (w : World) (ha : IsRow .u8 w A0 n0 c0 zs0) :
    Calls Try.prog 39 #[.slice A0 n0 c0] w fun e w' => ∃ s ys A C t zs A' C' x y, e = .returned (.tuple #[.agg #[.int .i64 s, .slice A ys.length C], .agg #[.int .i64 t, .slice A' zs.length C'], .agg #[.int .i64 x, .int .i64 y]]) ∧
      MassDrawn w' w.heap.size s A C ys ∧ MassDrawn w' w.heap.size t A' C' zs ∧ Below w.heap.size w w' := by
  have HA := Lib.hid ha
  clear ha
  go_enter Try.func39, Try.ntmps39
  go_wp2_with fail
  refine (l14Open_c _ _ _ _ _ (((HA.out.alloc _).alloc _).alloc _)).mono ?_
  rintro e w1 ⟨rfl, hr1, hb1⟩
  have hx := ((((BX.new w (.int .i64 0) (.slice none 0 0) 25).alloc (by simp) (.cells #[.int .i64 0, .slice none 0 0] 25)).alloc (by simp; omega) (.cells #[.int .i64 0, .int .i64 0] 40))).below hb1 (by simp; omega)
  have hy := ((BX.new (w.alloc (.cells #[.int .i64 0, .slice none 0 0] 25)) (.int .i64 0) (.slice none 0 0) 25).alloc (by simp) (.cells #[.int .i64 0, .int .i64 0] 40)).below hb1 (by simp)
  have hz := (BX.new ((w.alloc (.cells #[.int .i64 0, .slice none 0 0] 25)).alloc (.cells #[.int .i64 0, .slice none 0 0] 25)) (.int .i64 0) (.int .i64 0) 40).below hb1 (by simp)
  rw [World.size_alloc] at hy
  rw [World.size_alloc, World.size_alloc] at hz
  rw [World.size_alloc, World.size_alloc, World.size_alloc] at hr1 hb1 ⊢
  have s1 : w.heap.size + 1 + 1 + 1 ≤ w1.heap.size := by have := hb1.size; simp at this; omega
  have HX1 := Lib.hid hx
  have HY1 := Lib.hid hy
  have HZ1 := Lib.hid hz
  have HR1 := Lib.hid hr1
  have HB1 : Hid (Below w.heap.size w w1) := Lib.hid (((((Below.refl _ _).alloc (Nat.le_refl _) _).alloc (by simp) _).alloc (by simp; omega) _).trans (hb1.mono (by omega)))
  clear hx hy hz hr1 hb1
  go_wp2_with fail
  refine (l3Pair_c _ 0 (by omega) _ HR1.out).mono ?_
  rintro e w2 ⟨s, ys, A, C, t, zs, A', C', rfl, hm, hn, hr2, hg2⟩
  have s2 : w.heap.size + 1 + 1 + 1 ≤ w2.heap.size := Nat.le_trans s1 hg2.size
  have HX2 := Lib.hid (HX1.out.grown hg2 (by omega) (by omega))
  have HY2 := Lib.hid (HY1.out.grown hg2 (by omega) (by omega))
  have HZ2 := Lib.hid (HZ1.out.grown hg2 (by omega) (by omega))
  have HB2 := Lib.hid (HB1.out.trans (below_of_grown hg2 (by omega) HB1.out.size))
  have HM2 := Lib.hid (hm.low s1)
  have HN2 := Lib.hid (hn.low s1)
  have HR2 := Lib.hid hr2
  have hgl := HR1.out.lt
  have hg2s := hg2.size
  have HMB := Lib.hid (fun j hj => (hm.2.2.2.lt j hj).1)
  have HNB := Lib.hid (fun j hj => (hn.2.2.2.lt j hj).1)
  have HM2' := Lib.hid hm
  have HN2' := Lib.hid hn
  clear hm hn hr2 hg2
  go_upto_region 3 with fail
  obtain ⟨w3, hw3⟩ : ∃ x, x = (w2.alloc (.cells #[.int .i64 s, .slice A ys.length C] 25)).alloc (.cells #[.int .i64 t, .slice A' zs.length C'] 25) := ⟨_, rfl⟩
  rw [← hw3]
  have s3 : w2.heap.size + 1 < w3.heap.size := by rw [hw3]; simp
  have HX3 : Hid (BX w3 w.heap.size _ _) := Lib.hid (by rw [hw3]; exact (HX2.out.alloc (by omega) _).alloc (by simp; omega) _)
  have HY3 : Hid (BX w3 (w.heap.size + 1) _ _) := Lib.hid (by rw [hw3]; exact (HY2.out.alloc (by omega) _).alloc (by simp; omega) _)
  have HZ3 : Hid (BX w3 (w.heap.size + 1 + 1) _ _) := Lib.hid (by rw [hw3]; exact (HZ2.out.alloc (by omega) _).alloc (by simp; omega) _)
  have hm3 : BX w3 w2.heap.size (.int .i64 s) (.slice A ys.length C) := by rw [hw3]; exact (BX.new _ _ _ _).alloc (by simp) _
  have hn3 : BX w3 (w2.heap.size + 1) (.int .i64 t) (.slice A' zs.length C') := by
    rw [hw3]
    have h := BX.new (w2.alloc (.cells #[.int .i64 s, .slice A ys.length C] 25)) (.int .i64 t) (.slice A' zs.length C') 25
    rwa [World.size_alloc] at h
  have HM3 : Hid (MassDrawn w3 w1.heap.size s A C ys) := Lib.hid (by rw [hw3]; exact (HM2'.out.alloc _).alloc _)
  have HN3 : Hid (MassDrawn w3 w1.heap.size t A' C' zs) := Lib.hid (by rw [hw3]; exact (HN2'.out.alloc _).alloc _)
  have HR3 : Hid (Reader w3 (w.heap.size + 1 + 1 + 1) 100) := Lib.hid (by rw [hw3]; exact ((HR2.out.more (by omega)).alloc _).alloc _)
  have HB3 : Hid (Below w.heap.size w w3) := Lib.hid (by rw [hw3]; exact (HB2.out.alloc HB2.out.size _).alloc (by have := HB2.out.size; simp; omega) _)
  have b0 := hm3.1.1
  have b1 := hm3.1.2
  have d0 := hn3.1.1
  have d1 := hn3.1.2
  have HMX := Lib.hid hm3
  have HNX := Lib.hid hn3
  clear hw3 hm3 hn3
  have n1 : w.heap.size ≠ w2.heap.size := by omega
  have n2 : w.heap.size + 1 ≠ w2.heap.size := by omega
  have n3 : w.heap.size + 1 + 1 ≠ w2.heap.size := by omega
  have n4 : w.heap.size ≠ w2.heap.size + 1 := by omega
  have n5 : w.heap.size + 1 ≠ w2.heap.size + 1 := by omega
  have n6 : w.heap.size + 1 + 1 ≠ w2.heap.size + 1 := by omega
  go_region_held3 (fun w' => w'.cell? ⟨w2.heap.size, 0, none⟩ = some (.int .i64 s) ∧ w'.cell? ⟨w2.heap.size, 1, none⟩ = some (.slice A ys.length C) ∧ w'.cell? ⟨w2.heap.size + 1, 0, none⟩ = some (.int .i64 t) ∧ w'.cell? ⟨w2.heap.size + 1, 1, none⟩ = some (.slice A' zs.length C'))
    (first | with_reducible exact ⟨e0, e1, e2, e3⟩ | (go_split_ands; refine ⟨?_, ?_, ?_, ?_⟩ <;> ((with_reducible refine (World.cell?_setCell_far _ _ _ _ (by first | exact n1 | exact n2 | exact n3 | exact n4 | exact n5 | exact n6)).trans ((World.cell?_setCell_far _ _ _ _ (by first | exact n1 | exact n2 | exact n3 | exact n4 | exact n5 | exact n6)).trans ?_)); with_reducible assumption)) | exact ⟨b0, b1, d0, d1⟩)
    ((go_at_call 71; refine (l3Part_c (w.heap.size + 1 + 1 + 1) 100 (by omega) w3.drew HR3.out).mono ?_; rintro e w4 ⟨x, y, rfl, hg4⟩; replace hg4 := nodrew_grown hg4; have h1 := HMX.out.grown hg4 (by omega) (by omega); have h2 := HNX.out.grown hg4 (by omega) (by omega); have e0 := h1.1.1; have e1 := h1.1.2; have e2 := h2.1.1; have e3 := h2.1.2; clear h1 h2;
      have h1 := HX3.out.grown hg4 (by omega) (by omega); have h2 := HY3.out.grown hg4 (by omega) (by omega); have h3 := HZ3.out.grown hg4 (by omega) (by omega); have c0 := h1.1.1; have c1 := h1.1.2; have f0 := h1.2.1; have f1 := h1.2.2; have c2 := h2.1.1; have c3 := h2.1.2; have f2 := h2.2.1; have f3 := h2.2.2; have c4 := h3.1.1; have c5 := h3.1.2; have f4 := h3.2.1; have f5 := h3.2.2; clear h1 h2 h3;
      have HM4 := Lib.hid (HM3.out.far hg4 (by omega)); have HN4 := Lib.hid (HN3.out.far hg4 (by omega)); have HB4 := Lib.hid (HB3.out.trans (below_of_grown hg4 (by omega) HB3.out.size)); clear hg4))
  all_goals
    go_wp2_with fail
    refine bodyPost_ret (v := .tuple #[.agg #[.int .i64 s, .slice A ys.length C], .agg #[.int .i64 t, .slice A' zs.length C'], .agg #[.int .i64 x, .int .i64 y]]) (by simp [results, Try.results39, go_sem, c0, c1, c2, c3, c4, c5]) rfl ⟨s, ys, A, C, t, zs, A', C', x, y, rfl, ?_, ?_, ?_⟩
    · refine MassDrawn.low (B := w1.heap.size) ?_ (by omega)
      repeat (first | with_reducible exact HM4.out | (refine MassDrawn.set ?_ _ (by first | (show w.heap.size < _; omega) | (show w.heap.size + 1 < _; omega) | (show w.heap.size + 1 + 1 < _; omega)) _))
    · refine MassDrawn.low (B := w1.heap.size) ?_ (by omega)
      repeat (first | with_reducible exact HN4.out | (refine MassDrawn.set ?_ _ (by first | (show w.heap.size < _; omega) | (show w.heap.size + 1 < _; omega) | (show w.heap.size + 1 + 1 < _; omega)) _))
    · repeat (first | with_reducible exact HB4.out | (refine Below.setCell ?_ (by first | (show w.heap.size ≤ w.heap.size; omega) | (show w.heap.size ≤ w.heap.size + 1; omega) | (show w.heap.size ≤ w.heap.size + 1 + 1; omega)) _))
end Go.Proofs.Ytemollfejgmlcaa
