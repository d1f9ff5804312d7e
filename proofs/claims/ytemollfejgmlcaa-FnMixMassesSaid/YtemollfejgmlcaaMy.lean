/- Contracts of chapter 3's draws: two masses and a share. Conditions: as stated. -/
import Derived.Test.YtemollfejgmlcaaMv
import Derived.Deep.RegionHeld3
namespace Go.Proofs.Ytemollfejgmlcaa
open Go.RowKit

theorem BX.drew {w : World} {b : Nat} {u v : Value} (h : BX w b u v) : BX w.drew b u v := h
theorem MassDrawn.drew {w : World} {B : Nat} {s : Int} {A : Option Addr} {C : Nat} {ys : List Int} (h : MassDrawn w B s A C ys) : MassDrawn w.drew B s A C ys := h
/-- Behind a call of a draw: two boxes of results, the mass in its box, its parts. -/
structure Pair (w : World) (g q rb mb : Nat) (s : Int) (A : Option Addr) (C : Nat) (ys : List Int) (wr : World) : Prop where
  gr : w.grownBy wr (some g)
  lt : g < w.heap.size
  le : w.heap.size ≤ rb
  rm : rb + 1 < mb
  sz : mb < wr.heap.size
  rd : Reader wr g q
  x0 : BX wr rb (.int .i64 0) (.slice none 0 0)
  x1 : BX wr (rb + 1) (.int .i64 0) (.slice none 0 0)
  mx : BX wr mb (.int .i64 s) (.slice A ys.length C)
  md : MassDrawn wr (rb + 2) s A C ys
section
variable {w wr w' : World} {g q q' rb mb : Nat} {s : Int} {A : Option Addr} {C : Nat} {ys : List Int}
theorem Pair.kept (h : Pair w g q rb mb s A C ys wr) (hr : Reader w' g q') (hg : wr.grownBy w' (some g)) : Pair w g q' rb mb s A C ys w' := by
  have h1 := h.lt
  have h2 := h.le
  have h3 := h.rm
  have h4 := h.sz
  exact ⟨grown_trans_row h.gr hg, h1, h2, h3, Nat.lt_of_lt_of_le h4 hg.size, hr, h.x0.grown hg (by omega) (by omega), h.x1.grown hg (by omega) (by omega), h.mx.grown hg (by omega) (by omega), h.md.far hg (by omega)⟩
theorem Pair.below (h : Pair w g q rb mb s A C ys wr) (hb : Below wr.heap.size wr w') : Pair w g q rb mb s A C ys w' :=
  h.kept (h.rd.below hb) (grown_below (grown_refl wr _) hb)
theorem Pair.drew (h : Pair w g q rb mb s A C ys wr) : Pair w g q rb mb s A C ys wr.drew :=
  ⟨grown_drew h.gr, h.lt, h.le, h.rm, h.sz, h.rd, h.x0, h.x1, h.mx, h.md⟩
end
set_option maxRecDepth 100000 in
set_option maxHeartbeats 4000000 in
theorem l3Pair_c (g q : Nat) (hq : q ≤ 400000) (w : World) (hr : Reader w g q) :
    Calls Try.prog 79 #[.pointer (some ⟨g, 0, none⟩)] w fun e w' => ∃ s ys A C t zs A' C', e = .returned (.tuple #[.agg #[.int .i64 s, .slice A ys.length C], .agg #[.int .i64 t, .slice A' zs.length C']]) ∧
      MassDrawn w' w.heap.size s A C ys ∧ MassDrawn w' w.heap.size t A' C' zs ∧ Reader w' g (q + 100) ∧ w.grownBy w' (some g) := by
  have hlt := hr.lt
  have HR := Lib.hid hr
  clear hr
  go_enter Try.func79, Try.ntmps79
  go_wp2_with fail
  refine (l3Open_c g q (by omega) _ ((HR.out.alloc _).alloc _)).mono ?_
  rintro e w1 ⟨s, ys, A, C, rfl, hm, hr1, hg1⟩
  have hx := ((BX.new w (.int .i64 0) (.slice none 0 0) 25).alloc (by simp) (.cells #[.int .i64 0, .slice none 0 0] 25)).grown hg1 (by omega) (by simp; omega)
  have hy := (BX.new (w.alloc (.cells #[.int .i64 0, .slice none 0 0] 25)) (.int .i64 0) (.slice none 0 0) 25).grown hg1 (by simp; omega) (by simp)
  have s1 : w.heap.size + 1 < w1.heap.size := by have := hg1.size; simp at this; omega
  rw [World.size_alloc] at hy
  rw [World.size_alloc, World.size_alloc] at hm
  have hg1' := grown_trans_row (grown_alloc (grown_alloc (grown_refl w (some g)) _) _) hg1
  go_upto_region 2 with fail
  obtain ⟨w2, hw2⟩ : ∃ x, x = w1.alloc (.cells #[.int .i64 s, .slice A ys.length C] 25) := ⟨_, rfl⟩
  rw [← hw2]
  have P2 : Hid (Pair w g (q + 20) w.heap.size w1.heap.size s A C ys w2) := Lib.hid (by
    rw [hw2]
    exact ⟨grown_alloc hg1' _, hlt, Nat.le_refl _, s1, by simp, hr1.alloc _, hx.alloc (by omega) _, hy.alloc s1 _, BX.new _ _ _ _, hm.alloc _⟩)
  clear hw2 hg1' hm hx hy hr1 hg1
  have b0 := P2.out.mx.1.1
  have b1 := P2.out.mx.1.2
  go_wp2_with fail
  refine (spec_MassValid_c _ _ _ _ ys _ P2.out.md.2.2.2.rowAt).mono ?_
  rintro e w3 ⟨rfl, hb3⟩
  have P3 := Lib.hid (P2.out.below hb3)
  clear hb3 b0 b1
  have n1 : w.heap.size ≠ w1.heap.size := by omega
  have n2 : w.heap.size + 1 ≠ w1.heap.size := by omega
  have n3 : w1.heap.size ≠ w.heap.size := by omega
  have n4 : w1.heap.size ≠ w.heap.size + 1 := by omega
  rcases hv : massB s ys with _ | _
  · have nn : w1.heap.size < w3.heap.size := P3.out.sz
    go_upto_region 4 with fail
    have b0 := P3.out.mx.1.1
    have b1 := P3.out.mx.1.2
    go_region_held3 (fun w' => w'.cell? ⟨w1.heap.size, 0, none⟩ = some (.int .i64 s) ∧ w'.cell? ⟨w1.heap.size, 1, none⟩ = some (.slice A ys.length C))
      (first | with_reducible exact ⟨e0, e1⟩ | (go_split_ands; refine ⟨?_, ?_⟩ <;> ((with_reducible refine (World.cell?_setCell_far _ _ _ _ (by first | exact n1 | exact n2 | exact n3 | exact n4)).trans ((World.cell?_setCell_far _ _ _ _ (by first | exact n1 | exact n2 | exact n3 | exact n4)).trans ?_)); with_reducible assumption)) | exact ⟨b0, b1⟩)
      ((go_at_call 43; refine (l3Open_c g _ (by omega) _ P3.out.drew.rd).mono ?_; rintro e w6 ⟨t, zs, A2, C2, rfl, hm6, hr6, hg6⟩; have P6 := Lib.hid (P3.out.drew.kept (hr6.more (show _ ≤ q + 100 by omega)) hg6); have HM6 := Lib.hid hm6; clear hm6 hr6 hg6; have e0 := P6.out.mx.1.1; have e1 := P6.out.mx.1.2; have c0 := P6.out.x0.1.1; have c1 := P6.out.x0.1.2; have f0 := P6.out.x0.2.1; have f1 := P6.out.x0.2.2; have d0 := P6.out.x1.1.1; have d1 := P6.out.x1.1.2; have g0 := P6.out.x1.2.1; have g1 := P6.out.x1.2.2))
    all_goals
      go_wp2_with fail
      have hW : w1.heap.size < w3.drew.heap.size := nn
      refine bodyPost_ret (v := .tuple #[.agg #[.int .i64 s, .slice A ys.length C], .agg #[.int .i64 t, .slice A2 zs.length C2]]) (by simp [results, Try.results79, go_sem, c0, c1, d0, d1]) rfl ⟨s, ys, A, C, t, zs, A2, C2, rfl, ?_, ?_, ?_, ?_⟩
      · refine MassDrawn.low (B := w.heap.size + 2) ?_ (by omega)
        repeat (first | with_reducible exact P6.out.md | (refine MassDrawn.set ?_ _ (by first | (show w.heap.size < w.heap.size + 2; omega) | (show w.heap.size + 1 < w.heap.size + 2; omega)) _))
      · refine MassDrawn.low (B := w3.drew.heap.size) ?_ (by omega)
        repeat (first | with_reducible exact HM6.out | (refine MassDrawn.set ?_ _ (by first | (show w.heap.size < _; omega) | (show w.heap.size + 1 < _; omega)) _))
      · repeat (first | with_reducible exact P6.out.rd | (refine reader_set ?_ _ (by first | (show g < w.heap.size; omega) | (show g < w.heap.size + 1; omega)) _))
      · repeat (first | with_reducible exact P6.out.gr | (refine grown_set ?_ _ (by first | (show w.heap.size ≤ w.heap.size; omega) | (show w.heap.size ≤ w.heap.size + 1; omega)) _))
  obtain ⟨q1, q4⟩ := (massB_of hv).1
  clear hv
  go_wp2_with fail
  refine (pick_c g (q + 20) 16 (by omega) (by omega) _ P3.out.rd).mono ?_
  rintro e w4 ⟨x, rfl, x0, x1, hr4, hg4⟩
  have P4 := Lib.hid (P3.out.kept hr4 hg4)
  clear hr4 hg4 x1
  have nn : w1.heap.size < w4.heap.size := P4.out.sz
  by_cases hx : 0 < x
  · go_upto_region 3 with fail
    have b0 := P4.out.mx.1.1
    have b1 := P4.out.mx.1.2
    have hlt4 : g < w4.drew.heap.size := by have := P4.out.rd.lt; exact this
    go_region_held3 (fun w' => w'.cell? ⟨w1.heap.size, 0, none⟩ = some (.int .i64 s) ∧ w'.cell? ⟨w1.heap.size, 1, none⟩ = some (.slice A ys.length C))
      (first | with_reducible exact ⟨e0, e1⟩ | with_reducible exact ⟨a0, a1⟩ | (go_split_ands; refine ⟨?_, ?_⟩ <;> ((with_reducible refine (World.cell?_setCell_far _ _ _ _ (by first | exact n1 | exact n2 | exact n3 | exact n4)).trans ((World.cell?_setCell_far _ _ _ _ (by first | exact n1 | exact n2 | exact n3 | exact n4)).trans ?_)); with_reducible assumption)) | exact ⟨b0, b1⟩)
      (first
        | (go_at_call 88; refine (l3Draw_c g _ s (by omega) ⟨q1, q4⟩ _ P4.out.drew.rd).mono ?_; rintro e w5 ⟨zs0, A', C', rfl, hm5, ho5, hr5, hg5⟩; have P5 := Lib.hid (P4.out.drew.kept hr5 hg5); have HM5 := Lib.hid hm5; have HO5 := Lib.hid ho5; have HG5 := Lib.hid hg5; clear hm5 ho5 hr5 hg5; have a0 := P5.out.mx.1.1; have a1 := P5.out.mx.1.2)
        | (go_at_call 81; refine (l3Bad_c g _ s zs0 A' C' (by omega) HM5.out _ _ hlt4 HG5.out P5.out.rd HO5.out).mono ?_; rintro e w6 ⟨t, zs, A2, C2, rfl, t1, t2, t3, ho6, hr6, hg6⟩; have HM6 := Lib.hid (show MassDrawn w6 w4.drew.heap.size t A2 C2 zs from ⟨t1, t2, t3, ho6⟩); have P6 := Lib.hid (P4.out.drew.kept (hr6.more (show _ ≤ q + 100 by omega)) hg6); clear t1 t2 t3 ho6 hr6 hg6; have e0 := P6.out.mx.1.1; have e1 := P6.out.mx.1.2; have c0 := P6.out.x0.1.1; have c1 := P6.out.x0.1.2; have f0 := P6.out.x0.2.1; have f1 := P6.out.x0.2.2; have d0 := P6.out.x1.1.1; have d1 := P6.out.x1.1.2; have g0 := P6.out.x1.2.1; have g1 := P6.out.x1.2.2))
    all_goals
      go_wp2_with fail
      have hW : w1.heap.size < w4.drew.heap.size := nn
      refine bodyPost_ret (v := .tuple #[.agg #[.int .i64 s, .slice A ys.length C], .agg #[.int .i64 t, .slice A2 zs.length C2]]) (by simp [results, Try.results79, go_sem, c0, c1, d0, d1]) rfl ⟨s, ys, A, C, t, zs, A2, C2, rfl, ?_, ?_, ?_, ?_⟩
      · refine MassDrawn.low (B := w.heap.size + 2) ?_ (by omega)
        repeat (first | with_reducible exact P6.out.md | (refine MassDrawn.set ?_ _ (by first | (show w.heap.size < w.heap.size + 2; omega) | (show w.heap.size + 1 < w.heap.size + 2; omega)) _))
      · refine MassDrawn.low (B := w4.drew.heap.size) ?_ (by omega)
        repeat (first | with_reducible exact HM6.out | (refine MassDrawn.set ?_ _ (by first | (show w.heap.size < _; omega) | (show w.heap.size + 1 < _; omega)) _))
      · repeat (first | with_reducible exact P6.out.rd | (refine reader_set ?_ _ (by first | (show g < w.heap.size; omega) | (show g < w.heap.size + 1; omega)) _))
      · repeat (first | with_reducible exact P6.out.gr | (refine grown_set ?_ _ (by first | (show w.heap.size ≤ w.heap.size; omega) | (show w.heap.size ≤ w.heap.size + 1; omega)) _))
  · clear x0
    go_upto_region 4 with fail
    have b0 := P4.out.mx.1.1
    have b1 := P4.out.mx.1.2
    go_region_held3 (fun w' => w'.cell? ⟨w1.heap.size, 0, none⟩ = some (.int .i64 s) ∧ w'.cell? ⟨w1.heap.size, 1, none⟩ = some (.slice A ys.length C))
      (first | with_reducible exact ⟨e0, e1⟩ | (go_split_ands; refine ⟨?_, ?_⟩ <;> ((with_reducible refine (World.cell?_setCell_far _ _ _ _ (by first | exact n1 | exact n2 | exact n3 | exact n4)).trans ((World.cell?_setCell_far _ _ _ _ (by first | exact n1 | exact n2 | exact n3 | exact n4)).trans ?_)); with_reducible assumption)) | exact ⟨b0, b1⟩)
      ((go_at_call 43; refine (l3Open_c g _ (by omega) _ P4.out.drew.rd).mono ?_; rintro e w6 ⟨t, zs, A2, C2, rfl, hm6, hr6, hg6⟩; have P6 := Lib.hid (P4.out.drew.kept (hr6.more (show _ ≤ q + 100 by omega)) hg6); have HM6 := Lib.hid hm6; clear hm6 hr6 hg6; have e0 := P6.out.mx.1.1; have e1 := P6.out.mx.1.2; have c0 := P6.out.x0.1.1; have c1 := P6.out.x0.1.2; have f0 := P6.out.x0.2.1; have f1 := P6.out.x0.2.2; have d0 := P6.out.x1.1.1; have d1 := P6.out.x1.1.2; have g0 := P6.out.x1.2.1; have g1 := P6.out.x1.2.2))
    all_goals
      go_wp2_with fail
      have hW : w1.heap.size < w4.drew.heap.size := nn
      refine bodyPost_ret (v := .tuple #[.agg #[.int .i64 s, .slice A ys.length C], .agg #[.int .i64 t, .slice A2 zs.length C2]]) (by simp [results, Try.results79, go_sem, c0, c1, d0, d1]) rfl ⟨s, ys, A, C, t, zs, A2, C2, rfl, ?_, ?_, ?_, ?_⟩
      · refine MassDrawn.low (B := w.heap.size + 2) ?_ (by omega)
        repeat (first | with_reducible exact P6.out.md | (refine MassDrawn.set ?_ _ (by first | (show w.heap.size < w.heap.size + 2; omega) | (show w.heap.size + 1 < w.heap.size + 2; omega)) _))
      · refine MassDrawn.low (B := w4.drew.heap.size) ?_ (by omega)
        repeat (first | with_reducible exact HM6.out | (refine MassDrawn.set ?_ _ (by first | (show w.heap.size < _; omega) | (show w.heap.size + 1 < _; omega)) _))
      · repeat (first | with_reducible exact P6.out.rd | (refine reader_set ?_ _ (by first | (show g < w.heap.size; omega) | (show g < w.heap.size + 1; omega)) _))
      · repeat (first | with_reducible exact P6.out.gr | (refine grown_set ?_ _ (by first | (show w.heap.size ≤ w.heap.size; omega) | (show w.heap.size ≤ w.heap.size + 1; omega)) _))
end Go.Proofs.Ytemollfejgmlcaa
