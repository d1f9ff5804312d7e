/- Contracts of the draws of one and two fractions. Conditions: as stated. -/
import Derived.Test.YtihbfhjfceabnaaWj
namespace Go.Proofs.Ytihbfhjfceabnaa
open Go.RowKit

theorem gcell {W w' : World} {b g : Nat} (hg : W.grownBy w' (some g)) (hne : b ≠ g) (hlt : b < W.heap.size) : (∀ o, w'.cell? ⟨b, o, none⟩ = W.cell? ⟨b, o, none⟩) ∧ (∀ o, w'.frozen? ⟨b, o, none⟩ = W.frozen? ⟨b, o, none⟩) := by
  have e := hg.block b hlt (by intro e; injection e with e; omega)
  exact ⟨fun o => World.cell?_of_block (a := ⟨b, o, none⟩) e, fun o => frozen_of_block (a := ⟨b, o, none⟩) e⟩
theorem nodrew_grown {W w1 : World} {g : Nat} (h : W.drew.grownBy w1 (some g)) : W.grownBy w1 (some g) := ⟨h.os, h.tape, h.output, h.size, h.block⟩
theorem grown_drew {a w : World} {row : Option Nat} (h : a.grownBy w row) : a.grownBy w.drew row := ⟨h.os, h.tape, h.output, h.size, h.block⟩
set_option maxHeartbeats 4000000 in
theorem l2Two_c (g q : Nat) (hq : q ≤ 700000) (w : World) (hr : Reader w g q) :
    Calls Try.prog 40 #[.pointer (some ⟨g, 0, none⟩)] w fun e w' => ∃ x y x' y', e = .returned (.tuple #[.agg #[.int .i64 x, .int .i64 y], .agg #[.int .i64 x', .int .i64 y']]) ∧ w.grownBy w' (some g) := by
  have hlt := hr.lt
  have HR := Lib.hid hr
  clear hr
  go_enter Try.func40, Try.ntmps40
  go_wp2_with fail
  refine (l2Open_c g q (by omega) _ ((HR.out.alloc _).alloc _)).mono ?_
  rintro e w1 ⟨X, Y, rfl, hr1, hg1⟩
  have s1 : w.heap.size < w1.heap.size := by have := hg1.size; simp at this; omega
  have s2 : w.heap.size + 1 < w1.heap.size := by have := hg1.size; simp at this; omega
  have HR1 := Lib.hid hr1
  have HG1 := Lib.hid (grown_trans_row (grown_alloc (grown_alloc (grown_refl w _) _) _) hg1)
  obtain ⟨⟨c0, c1⟩, ⟨f0, f1⟩⟩ := ((CX.new w 0 0 32).alloc (by simp) (.cells #[.int .i64 0, .int .i64 0] 32)).grown hg1 (by omega) (by simp; omega)
  obtain ⟨⟨d0, d1⟩, ⟨g0, g1⟩⟩ := (CX.new (w.alloc (.cells #[.int .i64 0, .int .i64 0] 32)) 0 0 32).grown hg1 (by simp; omega) (by simp)
  rw [World.size_alloc] at d0 d1 g0 g1
  clear hr1 hg1
  go_upto_region 2 with fail
  have n1 : w.heap.size ≠ g := by omega
  have n2 : w.heap.size + 1 ≠ g := by omega
  have n3 : w1.heap.size ≠ g := by omega
  go_region_held3 (fun w' => w'.cell? ⟨w1.heap.size, 0, none⟩ = some (.int .i64 X) ∧ w'.cell? ⟨w1.heap.size, 1, none⟩ = some (.int .i64 Y))
    (refine ⟨?_, ?_⟩ <;> go_simp)
    ((go_at_call 45; refine (l2Open_c g (q + 6) (by omega) _ (by repeat (first | exact HR1.out | (refine reader_set ?_ _ (by first | (simp; omega) | simp | omega) _) | (refine Reader.alloc ?_ _)))).mono ?_; rintro e w' ⟨X2, Y2, rfl, _, hg2⟩; (try with_reducible replace hg2 := nodrew_grown hg2); have hsz := hg2.size; (try simp at hsz); have q0 : w.heap.size < w'.heap.size := (by omega); have q1 : w.heap.size + 1 < w'.heap.size := (by omega); have q2 : w1.heap.size < w'.heap.size := (by omega); obtain ⟨e1, h1⟩ := gcell hg2 n1 (by first | (simp; omega) | omega); obtain ⟨e2, h2⟩ := gcell hg2 n2 (by first | (simp; omega) | omega); obtain ⟨e3, h3⟩ := gcell hg2 n3 (by first | (simp; omega) | simp | omega)))
  all_goals
    go_wp2_with fail
    have k0 : w'.cell? ⟨w.heap.size, 0, none⟩ = some (.int .i64 0) := by rw [e1]; go_simp
    have k1 : w'.cell? ⟨w.heap.size, 1, none⟩ = some (.int .i64 0) := by rw [e1]; go_simp
    have k2 : w'.cell? ⟨w.heap.size + 1, 0, none⟩ = some (.int .i64 0) := by rw [e2]; go_simp
    have k3 : w'.cell? ⟨w.heap.size + 1, 1, none⟩ = some (.int .i64 0) := by rw [e2]; go_simp
    have HG2 := Lib.hid (grown_trans_row (grown_alloc HG1.out _) hg2)
    clear e1 e2 e3 h1 h2 h3 hg2
    exact bodyPost_ret (v := .tuple #[.agg #[.int .i64 X, .int .i64 Y], .agg #[.int .i64 X2, .int .i64 Y2]]) (by simp [results, Try.results40, go_sem, k0, k1, k2, k3]) rfl ⟨_, _, _, _, rfl, (by repeat (first | exact HG2.out | (refine grown_set ?_ _ (by first | (simp; omega) | simp | omega) _) | (refine grown_drew ?_) | (refine grown_drewN ?_ _)))⟩
set_option maxHeartbeats 2000000 in
theorem DrawAddFractions_c (A : Option Addr) (n c : Nat) (zs : List Int) (w : World) (ha : IsRow .u8 w A n c zs) :
    Calls Try.prog 12 #[.slice A n c] w fun e w' => ∃ x y x' y', e = .returned (.tuple #[.agg #[.int .i64 x, .int .i64 y], .agg #[.int .i64 x', .int .i64 y']]) ∧ Below w.heap.size w w' := by
  have HA := Lib.hid ha
  clear ha
  go_enter Try.func12, Try.ntmps12
  go_wp2_with fail
  refine (l14Open_c _ _ _ _ _ ((HA.out.alloc _).alloc _)).mono ?_
  rintro e w1 ⟨rfl, hr1, hb1⟩
  rw [World.size_alloc, World.size_alloc] at hr1 hb1 ⊢
  have s1 : w.heap.size < w1.heap.size := by have := hb1.size; simp at this; omega
  have s2 : w.heap.size + 1 < w1.heap.size := by have := hb1.size; simp at this; omega
  have HR1 := Lib.hid hr1
  have HB1 : Hid (Below w.heap.size w w1) := Lib.hid (((Below.refl _ _).alloc (Nat.le_refl _) _ |>.alloc (by simp) _).trans (hb1.mono (by first | omega | (simp <;> omega))))
  have hb1' : Below ((w.alloc (.cells #[.int .i64 0, .int .i64 0] 32)).alloc (.cells #[.int .i64 0, .int .i64 0] 32)).heap.size ((w.alloc (.cells #[.int .i64 0, .int .i64 0] 32)).alloc (.cells #[.int .i64 0, .int .i64 0] 32)) w1 := by
    rw [World.size_alloc, World.size_alloc]
    exact hb1
  have hc := ((CX.new w 0 0 32).alloc (by simp) (.cells #[.int .i64 0, .int .i64 0] 32)).below hb1' (by simp; omega)
  have hd := (CX.new (w.alloc (.cells #[.int .i64 0, .int .i64 0] 32)) 0 0 32).below hb1' (by simp)
  rw [World.size_alloc] at hd
  have HC := Lib.hid hc
  have HD := Lib.hid hd
  clear hr1 hb1 hb1' hc hd
  go_wp2_with fail
  refine (l2Two_c _ 0 (by omega) _ HR1.out).mono ?_
  rintro e w2 ⟨x, y, x', y', rfl, hg2⟩
  obtain ⟨⟨c0, c1⟩, ⟨f0, f1⟩⟩ := HC.out.grown hg2 (by omega) s1
  obtain ⟨⟨d0, d1⟩, ⟨g0, g1⟩⟩ := HD.out.grown hg2 (by omega) s2
  have HB2 := Lib.hid (HB1.out.trans (below_of_grown hg2 (by omega) HB1.out.size))
  have q0 : w.heap.size < w2.heap.size := by have := hg2.size; omega
  have q1 : w.heap.size + 1 < w2.heap.size := by have := hg2.size; omega
  clear hg2
  go_wp2_with fail
  exact bodyPost_ret (v := .tuple #[.agg #[.int .i64 x, .int .i64 y], .agg #[.int .i64 x', .int .i64 y']]) (by simp [results, Try.results12, go_sem, c0, c1, d0, d1]) rfl ⟨_, _, _, _, rfl, (by repeat (first | exact HB2.out | (refine Below.setCell ?_ (by first | exact Nat.le_refl _ | (simp <;> omega) | omega) _)))⟩
set_option maxHeartbeats 2000000 in
theorem DrawTimesFractions_c (A : Option Addr) (n c : Nat) (zs : List Int) (w : World) (ha : IsRow .u8 w A n c zs) :
    Calls Try.prog 18 #[.slice A n c] w fun e w' => ∃ x y x' y', e = .returned (.tuple #[.agg #[.int .i64 x, .int .i64 y], .agg #[.int .i64 x', .int .i64 y']]) ∧ Below w.heap.size w w' := by
  have HA := Lib.hid ha
  clear ha
  go_enter Try.func18, Try.ntmps18
  go_wp2_with fail
  refine (l14Open_c _ _ _ _ _ ((HA.out.alloc _).alloc _)).mono ?_
  rintro e w1 ⟨rfl, hr1, hb1⟩
  rw [World.size_alloc, World.size_alloc] at hr1 hb1 ⊢
  have s1 : w.heap.size < w1.heap.size := by have := hb1.size; simp at this; omega
  have s2 : w.heap.size + 1 < w1.heap.size := by have := hb1.size; simp at this; omega
  have HR1 := Lib.hid hr1
  have HB1 : Hid (Below w.heap.size w w1) := Lib.hid (((Below.refl _ _).alloc (Nat.le_refl _) _ |>.alloc (by simp) _).trans (hb1.mono (by first | omega | (simp <;> omega))))
  have hb1' : Below ((w.alloc (.cells #[.int .i64 0, .int .i64 0] 32)).alloc (.cells #[.int .i64 0, .int .i64 0] 32)).heap.size ((w.alloc (.cells #[.int .i64 0, .int .i64 0] 32)).alloc (.cells #[.int .i64 0, .int .i64 0] 32)) w1 := by
    rw [World.size_alloc, World.size_alloc]
    exact hb1
  have hc := ((CX.new w 0 0 32).alloc (by simp) (.cells #[.int .i64 0, .int .i64 0] 32)).below hb1' (by simp; omega)
  have hd := (CX.new (w.alloc (.cells #[.int .i64 0, .int .i64 0] 32)) 0 0 32).below hb1' (by simp)
  rw [World.size_alloc] at hd
  have HC := Lib.hid hc
  have HD := Lib.hid hd
  clear hr1 hb1 hb1' hc hd
  go_wp2_with fail
  refine (l2Two_c _ 0 (by omega) _ HR1.out).mono ?_
  rintro e w2 ⟨x, y, x', y', rfl, hg2⟩
  obtain ⟨⟨c0, c1⟩, ⟨f0, f1⟩⟩ := HC.out.grown hg2 (by omega) s1
  obtain ⟨⟨d0, d1⟩, ⟨g0, g1⟩⟩ := HD.out.grown hg2 (by omega) s2
  have HB2 := Lib.hid (HB1.out.trans (below_of_grown hg2 (by omega) HB1.out.size))
  have q0 : w.heap.size < w2.heap.size := by have := hg2.size; omega
  have q1 : w.heap.size + 1 < w2.heap.size := by have := hg2.size; omega
  clear hg2
  go_wp2_with fail
  exact bodyPost_ret (v := .tuple #[.agg #[.int .i64 x, .int .i64 y], .agg #[.int .i64 x', .int .i64 y']]) (by simp [results, Try.results18, go_sem, c0, c1, d0, d1]) rfl ⟨_, _, _, _, rfl, (by repeat (first | exact HB2.out | (refine Below.setCell ?_ (by first | exact Nat.le_refl _ | (simp <;> omega) | omega) _)))⟩
set_option maxHeartbeats 2000000 in
theorem DrawMinusFraction_c (A : Option Addr) (n c : Nat) (zs : List Int) (w : World) (ha : IsRow .u8 w A n c zs) :
    Calls Try.prog 15 #[.slice A n c] w fun e w' => ∃ x y, e = .returned (.agg #[.int .i64 x, .int .i64 y]) ∧ Below w.heap.size w w' := by
  have HA := Lib.hid ha
  clear ha
  go_enter Try.func15, Try.ntmps15
  go_wp2_with fail
  refine (l14Open_c _ _ _ _ _ (HA.out.alloc _)).mono ?_
  rintro e w1 ⟨rfl, hr1, hb1⟩
  have hc := (CX.new w 0 0 32).below hb1 (by simp)
  rw [World.size_alloc] at hr1 hb1 ⊢
  have s1 : w.heap.size < w1.heap.size := by have := hb1.size; simp at this; omega
  have HR1 := Lib.hid hr1
  have HB1 : Hid (Below w.heap.size w w1) := Lib.hid (((Below.refl _ _).alloc (Nat.le_refl _) _).trans (hb1.mono (by omega)))
  have HC := Lib.hid hc
  clear hr1 hb1 hc
  go_wp2_with fail
  refine (l2Open_c _ 0 (by omega) _ HR1.out).mono ?_
  rintro e w2 ⟨x, y, rfl, _, hg2⟩
  obtain ⟨⟨c0, c1⟩, ⟨f0, f1⟩⟩ := HC.out.grown hg2 (by omega) s1
  have HB2 := Lib.hid (HB1.out.trans (below_of_grown hg2 (by omega) HB1.out.size))
  have q0 : w.heap.size < w2.heap.size := by have := hg2.size; omega
  clear hg2
  go_wp2_with fail
  exact bodyPost_ret (v := .agg #[.int .i64 x, .int .i64 y]) (by simp [results, Try.results15, go_sem, c0, c1]) rfl ⟨_, _, rfl, (by repeat (first | exact HB2.out | (refine Below.setCell ?_ (by first | exact Nat.le_refl _ | (simp <;> omega) | omega) _)))⟩
end Go.Proofs.Ytihbfhjfceabnaa
