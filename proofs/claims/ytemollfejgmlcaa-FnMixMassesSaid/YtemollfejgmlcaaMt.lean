/- Contracts of chapter 3's draws: a mass, a mass that is sometimes not valid. Conditions: as stated. -/
import Derived.Test.YtemollfejgmlcaaMs
namespace Go.Proofs.Ytemollfejgmlcaa
open Go.RowKit

/-- A block's own two cells. -/
def BX (W : World) (b : Nat) (u v : Value) : Prop :=
  (W.cell? ⟨b, 0, none⟩ = some u ∧ W.cell? ⟨b, 1, none⟩ = some v) ∧ (W.frozen? ⟨b, 0, none⟩ = false ∧ W.frozen? ⟨b, 1, none⟩ = false)
theorem BX.new (w : World) (u v : Value) (t : TypeId) : BX (w.alloc (.cells #[u, v] t)) w.heap.size u v := ⟨⟨by go_simp, by go_simp⟩, ⟨by go_simp, by go_simp⟩⟩
theorem BX.alloc {w : World} {b : Nat} {u v : Value} (h : BX w b u v) (hb : b < w.heap.size) (o : Obj) : BX (w.alloc o) b u v :=
  ⟨⟨(World.cell?_alloc_lt w o ⟨b, 0, none⟩ hb).trans h.1.1, (World.cell?_alloc_lt w o ⟨b, 1, none⟩ hb).trans h.1.2⟩, ⟨(frozen_of_block (a := ⟨b, 0, none⟩) (Below.heap_alloc w o b hb)).trans h.2.1, (frozen_of_block (a := ⟨b, 1, none⟩) (Below.heap_alloc w o b hb)).trans h.2.2⟩⟩
theorem BX.below {W W' : World} {b : Nat} {u v : Value} (h : BX W b u v) (hb : Below W.heap.size W W') (hlt : b < W.heap.size) : BX W' b u v :=
  ⟨⟨(hb.cell (by show b < _; omega)).trans h.1.1, (hb.cell (by show b < _; omega)).trans h.1.2⟩, ⟨(hb.frozen (by show b < _; omega)).trans h.2.1, (hb.frozen (by show b < _; omega)).trans h.2.2⟩⟩
theorem BX.grown {W W' : World} {b g : Nat} {u v : Value} (h : BX W b u v) (hg : W.grownBy W' (some g)) (hne : b ≠ g) (hlt : b < W.heap.size) : BX W' b u v := by
  have e := hg.block b hlt (by intro e; injection e with e; omega)
  exact ⟨⟨(World.cell?_of_block (a := ⟨b, 0, none⟩) e).trans h.1.1, (World.cell?_of_block (a := ⟨b, 1, none⟩) e).trans h.1.2⟩, ⟨(frozen_of_block (a := ⟨b, 0, none⟩) e).trans h.2.1, (frozen_of_block (a := ⟨b, 1, none⟩) e).trans h.2.2⟩⟩
theorem BX.set {w : World} {b : Nat} {u v : Value} (h : BX w b u v) (p : Addr) (hp : p.block ≠ b) (x : Value) : BX (w.setCell p x) b u v :=
  ⟨⟨(World.cell?_setCell_far w p ⟨b, 0, none⟩ x hp).trans h.1.1, (World.cell?_setCell_far w p ⟨b, 1, none⟩ x hp).trans h.1.2⟩, ⟨(frozen_of_block (a := ⟨b, 0, none⟩) (Below.heap_setCell w p x b (Ne.symm hp))).trans h.2.1, (frozen_of_block (a := ⟨b, 1, none⟩) (Below.heap_setCell w p x b (Ne.symm hp))).trans h.2.2⟩⟩
theorem own_far {w w' : World} {B g : Nat} {v : Value} {zs : List Int} (h : Own w B v zs) (hg : w.grownBy w' (some g)) (hB : g < B) : Own w' B v zs := by
  refine h.grown hg ?_
  rcases hj : v.ownBlock with _ | j
  · exact .inl rfl
  · right
    intro e
    have := (h.lt j hj).1
    injection e with e
    omega
set_option maxRecDepth 100000 in
set_option maxHeartbeats 4000000 in
theorem l3Some_c (g q : Nat) (hq : q ≤ 700000) (w : World) (hr : Reader w g q) :
    Calls Try.prog 82 #[.pointer (some ⟨g, 0, none⟩)] w fun e w' => ∃ s zs A C, e = .returned (.agg #[.int .i64 s, .slice A zs.length C]) ∧ massB s zs = true ∧ Own w' w.heap.size (.slice A zs.length C) zs ∧ Reader w' g (q + 17) ∧ w.grownBy w' (some g) := by
  have hlt := hr.lt
  have HR := Lib.hid hr
  clear hr
  go_enter Try.func82, Try.ntmps82
  go_wp2_with fail
  have hlit := lit_row (w.alloc (.cells #[.int .i64 0, .slice none 0 0] 25)) [3, 2, 3, 1, 4, 3] (by intro y hy; simp at hy; unfold Fits; omega) (by simp)
  rw [World.size_alloc] at hlit
  have HLT := Lib.hid hlit
  clear hlit
  refine (num_c g q _ 6 6 [3, 2, 3, 1, 4, 3] (by omega) (by omega) (by omega) _ ((HR.out.alloc _).alloc _) HLT.out (some_ne (by omega))).mono ?_
  rintro e w1 ⟨i, hi, rfl, hr1, hg1⟩
  have hv : 1 ≤ List.getD [3, 2, 3, 1, 4, 3] i (0 : Int) ∧ List.getD [3, 2, 3, 1, 4, 3] i (0 : Int) ≤ 4 := lit_pick (Q := fun v => 1 ≤ v ∧ v ≤ 4) (by intro y hy; simp at hy; omega) hi
  generalize List.getD [3, 2, 3, 1, 4, 3] i (0 : Int) = n at *
  have s1 : w.heap.size < w1.heap.size := by have := hg1.size; simp at this; omega
  have HX1 := Lib.hid (((BX.new w (.int .i64 0) (.slice none 0 0) 25).alloc (by simp) (.cells #[.int .i64 3, .int .i64 2, .int .i64 3, .int .i64 1, .int .i64 4, .int .i64 3] 3)).grown hg1 (by omega) (by simp; omega))
  have HG1 := Lib.hid (grown_trans_row (grown_alloc (grown_alloc (grown_refl w _) _) _) hg1)
  have HR1 := Lib.hid hr1
  clear hr1 hg1 hi
  go_wp2_with fail
  refine (l3Draw_c g (q + 1) n (by omega) hv _ HR1.out).mono ?_
  rintro e w2 ⟨zs, A, C, rfl, hm, ho, hr2, hg2⟩
  obtain ⟨⟨c0, c1⟩, ⟨f0, f1⟩⟩ := HX1.out.grown hg2 (by omega) s1
  have s2 : w.heap.size < w2.heap.size := Nat.lt_of_lt_of_le s1 hg2.size
  have HO := Lib.hid ho
  have HM := Lib.hid hm
  have HR2 := Lib.hid (hr2.more (show q + 1 + 16 ≤ q + 17 by omega))
  have HG2 := Lib.hid (grown_trans_row HG1.out hg2)
  clear ho hm hr2 hg2
  go_wp2_with fail
  refine bodyPost_ret (v := .agg #[.int .i64 n, .slice A zs.length C]) (by simp [results, Try.results82, go_sem, c0, c1]) rfl ?_
  refine ⟨n, zs, A, C, rfl, HM.out, ?_, ?_, ?_⟩
  · refine Own.low (B := w1.heap.size) ?_ (by omega)
    repeat (first | exact HO.out | (refine Own.set ?_ _ (fun j hj => by have h1 := (HO.out.lt j hj).1; show j ≠ w.heap.size; omega) _))
  · repeat (first | exact HR2.out | (refine reader_set ?_ _ (by show g < w.heap.size; omega) _))
  · repeat (first | exact HG2.out | (refine grown_set ?_ _ (Nat.le_refl _) _))
/-- What a draw of a mass that is sometimes not valid leaves. -/
def MassDrawn (w : World) (B : Nat) (s : Int) (A : Option Addr) (C : Nat) (ys : List Int) : Prop :=
  Fits s ∧ (2 ≤ ys.length ∧ ys.length ≤ 17) ∧ (∀ y ∈ ys, -1 ≤ y) ∧ Own w B (.slice A ys.length C) ys
set_option maxRecDepth 100000 in
set_option maxHeartbeats 4000000 in
theorem l3Open_c (g q : Nat) (hq : q ≤ 600000) (w : World) (hr : Reader w g q) :
    Calls Try.prog 43 #[.pointer (some ⟨g, 0, none⟩)] w fun e w' => ∃ s ys A C, e = .returned (.agg #[.int .i64 s, .slice A ys.length C]) ∧ MassDrawn w' w.heap.size s A C ys ∧ Reader w' g (q + 20) ∧ w.grownBy w' (some g) := by
  have hlt := hr.lt
  have HR := Lib.hid hr
  clear hr
  go_enter Try.func43, Try.ntmps43
  go_wp2_with fail
  refine (l3Some_c g q (by omega) _ (HR.out.alloc _)).mono ?_
  rintro e w1 ⟨s, zs, A, C, rfl, hm, ho, hr1, hg1⟩
  have HM := Lib.hid hm
  have HO := Lib.hid ho
  have HR1 := Lib.hid hr1
  have HG1 := Lib.hid hg1
  clear hm ho hr1 hg1
  go_wp2_with fail
  refine (l3Bad_c g (q + 17) s zs A C (by omega) HM.out _ _ (by simp; omega) HG1.out HR1.out HO.out).mono ?_
  rintro e w2 ⟨s', ys, A', C', rfl, h1, h2, h3, ho, hr2, hg2⟩
  obtain ⟨⟨c0, c1⟩, ⟨f0, f1⟩⟩ := (BX.new w (.int .i64 0) (.slice none 0 0) 25).grown hg2 (by omega) (by simp)
  have s2 : w.heap.size < w2.heap.size := by have := hg2.size; simp at this; omega
  have HO2 := Lib.hid ho
  have HF := Lib.hid h1
  have HL := Lib.hid h2
  have HE := Lib.hid h3
  have HR2 := Lib.hid (hr2.more (show q + 17 + 2 ≤ q + 20 by omega))
  have HG2 := Lib.hid (grown_trans_row (grown_alloc (grown_refl w _) _) hg2)
  clear ho h1 h2 h3 hr2 hg2
  go_wp2_with fail
  refine bodyPost_ret (v := .agg #[.int .i64 s', .slice A' ys.length C']) (by simp [results, Try.results43, go_sem, c0, c1]) rfl ?_
  refine ⟨s', ys, A', C', rfl, ⟨HF.out, HL.out, HE.out, ?_⟩, ?_, ?_⟩
  · refine Own.low (B := w.heap.size + 1) ?_ (by omega)
    have := HO2.out
    rw [World.size_alloc] at this
    have HO3 := Lib.hid this
    repeat (first | exact HO3.out | (refine Own.set ?_ _ (fun j hj => by have h1 := (HO3.out.lt j hj).1; show j ≠ w.heap.size; omega) _))
  · repeat (first | exact HR2.out | (refine reader_set ?_ _ (by show g < w.heap.size; omega) _))
  · repeat (first | exact HG2.out | (refine grown_set ?_ _ (Nat.le_refl _) _))
set_option maxRecDepth 100000 in
set_option maxHeartbeats 4000000 in
theorem DrawIsNested_c (A0 : Option Addr) (n0 c0 : Nat) (zs0 : List Int) (w : World) (ha : IsRow .u8 w A0 n0 c0 zs0) :
    Calls Try.prog 8 #[.slice A0 n0 c0] w fun e w' => ∃ s ys A C, e = .returned (.agg #[.int .i64 s, .slice A ys.length C]) ∧ MassDrawn w' w.heap.size s A C ys ∧ Below w.heap.size w w' := by
  have HA := Lib.hid ha
  clear ha
  go_enter Try.func8, Try.ntmps8
  go_wp2_with fail
  refine (l14Open_c _ _ _ _ _ (HA.out.alloc _)).mono ?_
  rintro e w1 ⟨rfl, hr1, hb1⟩
  have hx := (BX.new w (.int .i64 0) (.slice none 0 0) 25).below hb1 (by simp)
  rw [World.size_alloc] at hr1 hb1 ⊢
  have s1 : w.heap.size < w1.heap.size := by have := hb1.size; simp at this; omega
  have HX := Lib.hid hx
  have HR1 := Lib.hid hr1
  have HB1 : Hid (Below w.heap.size w w1) := Lib.hid (((Below.refl _ _).alloc (Nat.le_refl _) _).trans (hb1.mono (by omega)))
  clear hx hr1 hb1
  go_wp2_with fail
  refine (l3Open_c _ 0 (by omega) _ HR1.out).mono ?_
  rintro e w2 ⟨s', ys, A', C', rfl, ⟨h1, h2, h3, ho⟩, hr2, hg2⟩
  obtain ⟨⟨k0, k1⟩, ⟨f0, f1⟩⟩ := HX.out.grown hg2 (by omega) s1
  have s2 : w.heap.size < w2.heap.size := Nat.lt_of_lt_of_le s1 hg2.size
  have HO2 := Lib.hid ho
  have HF := Lib.hid h1
  have HL := Lib.hid h2
  have HE := Lib.hid h3
  have HB2 := Lib.hid (HB1.out.trans (below_of_grown hg2 (by omega) HB1.out.size))
  clear ho h1 h2 h3 hr2 hg2
  go_wp2_with fail
  refine bodyPost_ret (v := .agg #[.int .i64 s', .slice A' ys.length C']) (by simp [results, Try.results8, go_sem, k0, k1]) rfl ?_
  refine ⟨s', ys, A', C', rfl, ⟨HF.out, HL.out, HE.out, ?_⟩, ?_⟩
  · refine Own.low (B := w1.heap.size) ?_ (by omega)
    repeat (first | exact HO2.out | (refine Own.set ?_ _ (fun j hj => by have h1 := (HO2.out.lt j hj).1; show j ≠ w.heap.size; omega) _))
  · repeat (first | exact HB2.out | (refine Below.setCell ?_ (by show w.heap.size ≤ w.heap.size; omega) _))
end Go.Proofs.Ytemollfejgmlcaa
