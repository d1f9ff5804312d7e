/- Contracts of chapter 3's draws: a mass and a set of its answers. Conditions: as stated. -/
import Derived.Test.YtemollfejgmlcaaMu
namespace Go.Proofs.Ytemollfejgmlcaa
open Go.RowKit

theorem MassDrawn.below {w w' : World} {B : Nat} {s : Int} {A : Option Addr} {C : Nat} {ys : List Int} (h : MassDrawn w B s A C ys) (hb : Below w.heap.size w w') : MassDrawn w' B s A C ys :=
  ⟨h.1, h.2.1, h.2.2.1, h.2.2.2.below hb (fun g hg => (h.2.2.2.lt g hg).2)⟩
theorem MassDrawn.alloc {w : World} {B : Nat} {s : Int} {A : Option Addr} {C : Nat} {ys : List Int} (h : MassDrawn w B s A C ys) (o : Obj) : MassDrawn (w.alloc o) B s A C ys :=
  ⟨h.1, h.2.1, h.2.2.1, h.2.2.2.alloc o⟩
theorem MassDrawn.far {w w' : World} {B g : Nat} {s : Int} {A : Option Addr} {C : Nat} {ys : List Int} (h : MassDrawn w B s A C ys) (hg : w.grownBy w' (some g)) (hB : g < B) : MassDrawn w' B s A C ys :=
  ⟨h.1, h.2.1, h.2.2.1, own_far h.2.2.2 hg hB⟩
theorem MassDrawn.low {w : World} {B B' : Nat} {s : Int} {A : Option Addr} {C : Nat} {ys : List Int} (h : MassDrawn w B s A C ys) (hB : B' ≤ B) : MassDrawn w B' s A C ys :=
  ⟨h.1, h.2.1, h.2.2.1, h.2.2.2.low hB⟩
theorem MassDrawn.set {w : World} {B : Nat} {s : Int} {A : Option Addr} {C : Nat} {ys : List Int} (h : MassDrawn w B s A C ys) (p : Addr) (hp : p.block < B) (v : Value) : MassDrawn (w.setCell p v) B s A C ys :=
  ⟨h.1, h.2.1, h.2.2.1, h.2.2.2.set p (fun j hj => by have := (h.2.2.2.lt j hj).1; omega) v⟩
set_option maxRecDepth 100000 in
set_option maxHeartbeats 4000000 in
theorem l3With_c (g q : Nat) (hq : q ≤ 500000) (w : World) (hr : Reader w g q) :
    Calls Try.prog 61 #[.pointer (some ⟨g, 0, none⟩)] w fun e w' => ∃ s ys A C a, e = .returned (.tuple #[.agg #[.int .i64 s, .slice A ys.length C], .int .i64 a]) ∧ MassDrawn w' w.heap.size s A C ys ∧ w.grownBy w' (some g) := by
  have hlt := hr.lt
  have HR := Lib.hid hr
  clear hr
  go_enter Try.func61, Try.ntmps61
  go_wp2_with fail
  refine (l3Open_c g q (by omega) _ (HR.out.alloc _)).mono ?_
  rintro e w1 ⟨s, ys, A, C, rfl, hm, hr1, hg1⟩
  have hx := (BX.new w (.int .i64 0) (.slice none 0 0) 25).grown hg1 (by omega) (by simp)
  have s1 : w.heap.size < w1.heap.size := by have := hg1.size; simp at this; omega
  rw [World.size_alloc] at hm
  have hl := hm.2.1
  have hcap := hm.2.2.2.rowAt.2.2.1
  have HX1 := Lib.hid hx
  have HM1 := Lib.hid hm
  have HR1 := Lib.hid hr1
  have HG1 := Lib.hid (grown_trans_row (grown_alloc (grown_refl w _) _) hg1)
  clear hx hm hr1 hg1
  go_wp2_with fail
  refine (l1Set_c g (q + 20) (by omega) _ (HR1.out.alloc _)).mono ?_
  rintro e w2 ⟨a, rfl, hsa, hr2, hg2⟩
  have n2 : w1.heap.size < w2.heap.size := by have := hg2.size; simp at this; omega
  have s2 : w.heap.size < w2.heap.size := by omega
  obtain ⟨⟨b0, b1⟩, _⟩ := (BX.new w1 (.int .i64 s) (.slice A ys.length C) 25).grown hg2 (by omega) (by simp)
  have HX2 := Lib.hid ((HX1.out.alloc s1 (.cells #[.int .i64 s, .slice A ys.length C] 25)).grown hg2 (by omega) (by simp; omega))
  have HM2 := Lib.hid ((HM1.out.alloc (.cells #[.int .i64 s, .slice A ys.length C] 25)).far hg2 (by omega))
  have HR2 := Lib.hid hr2
  have HG2 := Lib.hid (grown_trans_row (grown_alloc HG1.out _) hg2)
  clear hr2 hg2
  go_wp2_with fail
  refine (spec_MassValid_c _ _ _ _ ys _ HM2.out.2.2.2.rowAt).mono ?_
  rintro e w3 ⟨rfl, hb3⟩
  have n3 : w1.heap.size < w3.heap.size := Nat.lt_of_lt_of_le n2 hb3.size
  have s3 : w.heap.size < w3.heap.size := by omega
  replace b0 := (hb3.cell (p := ⟨w1.heap.size, 0, none⟩) n2).trans b0
  replace b1 := (hb3.cell (p := ⟨w1.heap.size, 1, none⟩) n2).trans b1
  have HX3 := Lib.hid (HX2.out.below hb3 s2)
  have HM3 := Lib.hid (HM2.out.below hb3)
  have HR3 := Lib.hid (HR2.out.below hb3)
  have HG3 := Lib.hid (grown_below HG2.out hb3)
  have HSA := Lib.hid hsa
  clear hb3 hsa
  rcases hv : massB s ys with _ | _
  · obtain ⟨⟨c0, c1⟩, ⟨f0, f1⟩⟩ := HX3.out
    go_wp2_with fail
    refine bodyPost_ret (v := .tuple #[.agg #[.int .i64 s, .slice A ys.length C], .int .i64 a]) (by simp [results, Try.results61, go_sem, c0, c1]) rfl ⟨_, _, _, _, _, rfl, ?_, ?_⟩
    · refine MassDrawn.low (B := w.heap.size + 1) ?_ (by omega)
      repeat (first | exact HM3.out | (refine MassDrawn.set ?_ _ (by show w.heap.size < w.heap.size + 1; omega) _))
    · repeat (first | exact HG3.out | (refine grown_set ?_ _ (Nat.le_refl _) _))
  rcases ha : setB 4 a with _ | _
  · obtain ⟨⟨c0, c1⟩, ⟨f0, f1⟩⟩ := HX3.out
    go_wp2_with (go_at_call 70; refine (l1Any_c _ _).mono ?_; rintro e w' ⟨rfl, rfl⟩)
    refine bodyPost_ret (v := .tuple #[.agg #[.int .i64 s, .slice A ys.length C], .int .i64 a]) (by simp [results, Try.results61, go_sem, c0, c1]) rfl ⟨_, _, _, _, _, rfl, ?_, ?_⟩
    · refine MassDrawn.low (B := w.heap.size + 1) ?_ (by omega)
      repeat (first | exact HM3.out | (refine MassDrawn.set ?_ _ (by show w.heap.size < w.heap.size + 1; omega) _))
    · repeat (first | exact HG3.out | (refine grown_set ?_ _ (Nat.le_refl _) _))
  go_wp2_with (go_at_call 70; refine (l1Any_c _ _).mono ?_; rintro e w' ⟨rfl, rfl⟩)
  refine (pick_c g (q + 20 + 3) 16 (by omega) (by omega) _ HR3.out).mono ?_
  rintro e w4 ⟨z, rfl, z0, z1, hr4, hg4⟩
  have n4 : w1.heap.size < w4.heap.size := Nat.lt_of_lt_of_le n3 hg4.size
  have s4 : w.heap.size < w4.heap.size := by omega
  obtain ⟨k1, _⟩ := gcell hg4 (b := w1.heap.size) (by omega) n3
  replace b0 := (k1 0).trans b0
  replace b1 := (k1 1).trans b1
  obtain ⟨⟨c0, c1⟩, ⟨f0, f1⟩⟩ := HX3.out.grown hg4 (by omega) s3
  have HM4 := Lib.hid (HM3.out.far hg4 (by omega))
  have HG4 := Lib.hid (grown_trans_row HG3.out hg4)
  clear hr4 hg4 k1 z1 hv ha
  by_cases hz : 0 < z
  all_goals
    go_wp2_with fail
    refine bodyPost_ret (v := .tuple #[.agg #[.int .i64 s, .slice A ys.length C], .int .i64 _]) (by simp [results, Try.results61, go_sem, c0, c1]; rfl) rfl ⟨_, _, _, _, _, rfl, ?_, ?_⟩
    · refine MassDrawn.low (B := w.heap.size + 1) ?_ (by omega)
      repeat (first | exact HM4.out | (refine MassDrawn.set ?_ _ (by show w.heap.size < w.heap.size + 1; omega) _))
    · repeat (first | exact HG4.out | (refine grown_set ?_ _ (Nat.le_refl _) _))
set_option maxRecDepth 100000 in
set_option maxHeartbeats 4000000 in
theorem DrawShareOf_c (A0 : Option Addr) (n0 c0 : Nat) (zs0 : List Int) (w : World) (ha : IsRow .u8 w A0 n0 c0 zs0) :
    Calls Try.prog 23 #[.slice A0 n0 c0] w fun e w' => ∃ s ys A C a, e = .returned (.tuple #[.agg #[.int .i64 s, .slice A ys.length C], .int .i64 a]) ∧ MassDrawn w' w.heap.size s A C ys ∧ Below w.heap.size w w' := by
  have HA := Lib.hid ha
  clear ha
  go_enter Try.func23, Try.ntmps23
  go_wp2_with fail
  refine (l14Open_c _ _ _ _ _ (HA.out.alloc _)).mono ?_
  rintro e w1 ⟨rfl, hr1, hb1⟩
  have hx := (BX.new w (.int .i64 0) (.slice none 0 0) 25).below hb1 (by simp)
  rw [World.size_alloc] at hr1 hb1 ⊢
  have s1 : w.heap.size < w1.heap.size := by have := hb1.size; simp at this; omega
  have HX := Lib.hid hx
  have HR1 := Lib.hid hr1
  have HB1 : Hid (Below w.heap.size w w1) := Lib.hid (((Below.refl _ _).alloc (Nat.le_refl _) _).trans (hb1.mono (by omega)))
  clear hx hr1 hb1
  go_wp2_with fail
  refine (l3With_c _ 0 (by omega) _ HR1.out).mono ?_
  rintro e w2 ⟨s, ys, A, C, a, rfl, hm, hg2⟩
  obtain ⟨⟨k0, k1⟩, ⟨f0, f1⟩⟩ := HX.out.grown hg2 (by omega) s1
  have s2 : w.heap.size < w2.heap.size := Nat.lt_of_lt_of_le s1 hg2.size
  have HM := Lib.hid hm
  have HB2 := Lib.hid (HB1.out.trans (below_of_grown hg2 (by omega) HB1.out.size))
  clear hm hg2
  go_wp2_with fail
  refine bodyPost_ret (v := .tuple #[.agg #[.int .i64 s, .slice A ys.length C], .int .i64 a]) (by simp [results, Try.results23, go_sem, k0, k1]) rfl ?_
  refine ⟨s, ys, A, C, a, rfl, ?_, ?_⟩
  · refine MassDrawn.low (B := w1.heap.size) ?_ (by omega)
    repeat (first | exact HM.out | (refine MassDrawn.set ?_ _ (by show w.heap.size < w1.heap.size; omega) _))
  · repeat (first | exact HB2.out | (refine Below.setCell ?_ (by show w.heap.size ≤ w.heap.size; omega) _))
end Go.Proofs.Ytemollfejgmlcaa
