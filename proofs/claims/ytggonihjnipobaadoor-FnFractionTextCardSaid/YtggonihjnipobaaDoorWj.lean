/- Contracts of the draws of fractions. Conditions: as stated. -/
import Derived.Test.YtggonihjnipobaaDoorWi
import Derived.Deep.RegionHeld3
import Derived.Deep.DeepCutAuto
namespace Go.Proofs.YtggonihjnipobaaDoor
open Go.RowKit

/-- A fraction's own two cells. -/
def CX (W : World) (b : Nat) (x y : Int) : Prop :=
  (W.cell? ⟨b, 0, none⟩ = some (.int .i64 x) ∧ W.cell? ⟨b, 1, none⟩ = some (.int .i64 y)) ∧ (W.frozen? ⟨b, 0, none⟩ = false ∧ W.frozen? ⟨b, 1, none⟩ = false)
theorem CX.new (w : World) (x y : Int) (t : TypeId) : CX (w.alloc (.cells #[.int .i64 x, .int .i64 y] t)) w.heap.size x y := ⟨⟨by go_simp, by go_simp⟩, ⟨by go_simp, by go_simp⟩⟩
theorem frozen_of_block {w w' : World} {a : Addr} (h : w'.heap[a.block]? = w.heap[a.block]?) : w'.frozen? a = w.frozen? a := by
  unfold World.frozen?
  rw [h]
theorem CX.alloc {w : World} {b : Nat} {x y : Int} (h : CX w b x y) (hb : b < w.heap.size) (o : Obj) : CX (w.alloc o) b x y :=
  ⟨⟨(World.cell?_alloc_lt w o ⟨b, 0, none⟩ hb).trans h.1.1, (World.cell?_alloc_lt w o ⟨b, 1, none⟩ hb).trans h.1.2⟩, ⟨(frozen_of_block (a := ⟨b, 0, none⟩) (Below.heap_alloc w o b hb)).trans h.2.1, (frozen_of_block (a := ⟨b, 1, none⟩) (Below.heap_alloc w o b hb)).trans h.2.2⟩⟩
theorem CX.below {W W' : World} {b : Nat} {x y : Int} (h : CX W b x y) (hb : Below W.heap.size W W') (hlt : b < W.heap.size) : CX W' b x y :=
  ⟨⟨(hb.cell (by show b < _; omega)).trans h.1.1, (hb.cell (by show b < _; omega)).trans h.1.2⟩, ⟨(hb.frozen (by show b < _; omega)).trans h.2.1, (hb.frozen (by show b < _; omega)).trans h.2.2⟩⟩
theorem CX.grown {W W' : World} {b g : Nat} {x y : Int} (h : CX W b x y) (hg : W.grownBy W' (some g)) (hne : b ≠ g) (hlt : b < W.heap.size) : CX W' b x y := by
  have e := hg.block b hlt (by intro e; injection e with e; omega)
  exact ⟨⟨(World.cell?_of_block (a := ⟨b, 0, none⟩) e).trans h.1.1, (World.cell?_of_block (a := ⟨b, 1, none⟩) e).trans h.1.2⟩, ⟨(frozen_of_block (a := ⟨b, 0, none⟩) e).trans h.2.1, (frozen_of_block (a := ⟨b, 1, none⟩) e).trans h.2.2⟩⟩
theorem Reader.below {w w' : World} {g q : Nat} (h : Reader w g q) (hb : Below w.heap.size w w') : Reader w' g q :=
  h.kept (row := none) ⟨hb.os, hb.tape, hb.output, hb.size, fun k hk _ => hb.block k hk⟩ (fun k e => by cases e)
theorem grown_below {a w w' : World} {row : Option Nat} (h : a.grownBy w row) (hb : Below w.heap.size w w') : a.grownBy w' row :=
  ⟨hb.os.trans h.os, hb.tape.trans h.tape, hb.output.trans h.output, Nat.le_trans h.size hb.size, fun i hi hne => (hb.block i (Nat.lt_of_lt_of_le hi h.size)).trans (h.block i hi hne)⟩
theorem grown_set {a w : World} {row : Option Nat} (h : a.grownBy w row) (p : Addr) (hp : a.heap.size ≤ p.block) (v : Value) : a.grownBy (w.setCell p v) row :=
  ⟨h.os, h.tape, h.output, by simpa [World.setCell] using h.size, fun i hi hne => (Below.heap_setCell w p v i (by omega)).trans (h.block i hi hne)⟩
theorem grown_refl (w : World) (row : Option Nat) : w.grownBy w row := ⟨rfl, rfl, rfl, Nat.le_refl _, fun _ _ _ => rfl⟩
theorem reader_set {w : World} {g q : Nat} (h : Reader w g q) (p : Addr) (hp : g < p.block) (v : Value) : Reader (w.setCell p v) g q :=
  h.kept (row := some p.block) (grown_setCell (grown_refl _ _) p rfl v) (fun k e => by injection e with e; omega)
set_option maxHeartbeats 4000000 in
theorem l2Some_c (g q : Nat) (hq : q ≤ 900000) (w : World) (hr : Reader w g q) :
    Calls Tryd.prog 31 #[.pointer (some ⟨g, 0, none⟩)] w fun e w' => ∃ x y, e = .returned (.agg #[.int .i64 x, .int .i64 y]) ∧ Reader w' g (q + 4) ∧ w.grownBy w' (some g) := by
  have hlt := hr.lt
  have HR := Lib.hid hr
  clear hr
  go_enter Tryd.func31, Tryd.ntmps31
  go_wp2_with fail
  refine (pick_c g q _ (by omega) (by omega) _ (HR.out.alloc _)).mono ?_
  rintro e w1 ⟨x, rfl, x0, x1, hr1, hg1⟩
  have s1 : w.heap.size < w1.heap.size := by have := hg1.size; simp at this; omega
  have HR1 := Lib.hid hr1
  have HC1 := Lib.hid ((CX.new w 0 0 _).grown hg1 (by omega) (by simp))
  have HG1 := Lib.hid (grown_trans_row (grown_alloc (grown_refl w _) _) hg1)
  have x2 : x < 13 := by omega
  clear hr1 hg1 x1
  go_wp2_with fail
  refine (pick_c g (q + 1) _ (by omega) (by omega) _ HR1.out).mono ?_
  rintro e w2 ⟨y, rfl, y0, y1, hr2, hg2⟩
  have s2 : w.heap.size < w2.heap.size := by have := hg2.size; omega
  have HR2 := Lib.hid hr2
  have HC2 := Lib.hid (HC1.out.grown hg2 (by omega) s1)
  have HG2 := Lib.hid (grown_trans_row HG1.out hg2)
  have y2 : y < 12 := by omega
  clear hr2 hg2 y1
  go_wp2_with fail
  refine (l2Made_c _ _ (by unfold Small; omega) (by unfold Small; omega) (by omega) _).mono ?_
  rintro e w3 ⟨rfl, hb3⟩
  generalize sel _ _ = X
  generalize sel _ _ = Y
  generalize lowB _ _ = B
  have s3 : w.heap.size < w3.heap.size := by have := hb3.size; omega
  have HR3 := Lib.hid (HR2.out.below hb3)
  have HC3 := Lib.hid (HC2.out.below hb3 s2)
  have HG3 := Lib.hid (grown_below HG2.out hb3)
  clear hb3
  go_wp2_with fail
  refine (pick_c g (q + 1 + 1) _ (by omega) (by omega) _ (HR3.out.alloc _)).mono ?_
  rintro e w4 ⟨z, rfl, z0, z1, hr4, hg4⟩
  have sF4 : w3.heap.size < w4.heap.size := by have := hg4.size; simp at this; omega
  have s4 : w.heap.size < w4.heap.size := by omega
  have HR4 := Lib.hid hr4
  have HF4 := Lib.hid ((CX.new w3 X Y _).grown hg4 (by omega) (by simp))
  have HC4 := Lib.hid ((HC3.out.alloc s3 _).grown hg4 (by omega) (by simp; omega))
  have HG4 := Lib.hid (grown_trans_row (grown_alloc HG3.out _) hg4)
  clear hr4 hg4 z1
  by_cases h0 : z = 0
  · subst h0
    go_wp2_with fail
    refine (num_c g _ _ 2 2 [1000000000, -999999999] (by omega) (by decide) (by decide) _ (HR4.out.alloc _) (lit_row w4 [1000000000, -999999999] (by unfold Fits; decide) (by decide)) (some_ne (by omega))).mono ?_
    rintro e w5 ⟨i, hi, rfl, hr5, hg5⟩
    generalize List.getD [1000000000, -999999999] i 0 = V at *
    have sF5 : w3.heap.size < w5.heap.size := by have := hg5.size; simp at this; omega
    have HR5 := Lib.hid (hr5.more (show _ ≤ q + 4 by omega))
    have HF5 := Lib.hid ((HF4.out.alloc sF4 _).grown hg5 (by omega) (by simp; omega))
    have HC5 := Lib.hid ((HC4.out.alloc s4 _).grown hg5 (by omega) (by simp; omega))
    have HG5 := Lib.hid (grown_trans_row (grown_alloc HG4.out _) hg5)
    clear hr5 hg5 hi
    obtain ⟨⟨c0, c1⟩, ⟨f0, f1⟩⟩ := HC5.out
    obtain ⟨⟨a0, a1⟩, ⟨b0, b1⟩⟩ := HF5.out
    go_wp2_with fail
    exact bodyPost_ret (v := .agg #[.int .i64 (V), .int .i64 (1)]) (by simp [results, Tryd.results31, go_sem, c0, c1]) rfl ⟨_, _, rfl, (by repeat (first | exact HR5.out | (refine reader_set ?_ _ (by first | (simp; omega) | simp | omega) _))), (by repeat (first | exact HG5.out | (refine grown_set ?_ _ (by first | (simp; omega) | simp | omega) _)))⟩
  · have h0b : (z == 0) = false := by simpa using h0
    by_cases h1 : z = 1
    · subst h1
      have HR5 := Lib.hid (HR4.out.more (show _ ≤ q + 4 by omega))
      obtain ⟨⟨c0, c1⟩, ⟨f0, f1⟩⟩ := HC4.out
      obtain ⟨⟨a0, a1⟩, ⟨b0, b1⟩⟩ := HF4.out
      go_wp2_with fail
      exact bodyPost_ret (v := .agg #[.int .i64 (1), .int .i64 (999999999)]) (by simp [results, Tryd.results31, go_sem, c0, c1]) rfl ⟨_, _, rfl, (by repeat (first | exact HR5.out | (refine reader_set ?_ _ (by first | (simp; omega) | simp | omega) _))), (by repeat (first | exact HG4.out | (refine grown_set ?_ _ (by first | (simp; omega) | simp | omega) _)))⟩
    · have h1b : (z == 1) = false := by simpa using h1
      have HR5 := Lib.hid (HR4.out.more (show _ ≤ q + 4 by omega))
      obtain ⟨⟨c0, c1⟩, ⟨f0, f1⟩⟩ := HC4.out
      obtain ⟨⟨a0, a1⟩, ⟨b0, b1⟩⟩ := HF4.out
      go_wp2_with fail
      exact bodyPost_ret (v := .agg #[.int .i64 (X), .int .i64 (Y)]) (by simp [results, Tryd.results31, go_sem, c0, c1]) rfl ⟨_, _, rfl, (by repeat (first | exact HR5.out | (refine reader_set ?_ _ (by first | (simp; omega) | simp | omega) _))), (by repeat (first | exact HG4.out | (refine grown_set ?_ _ (by first | (simp; omega) | simp | omega) _)))⟩
set_option maxHeartbeats 4000000 in
theorem l2Open_c (g q : Nat) (hq : q ≤ 800000) (w : World) (hr : Reader w g q) :
    Calls Tryd.prog 22 #[.pointer (some ⟨g, 0, none⟩)] w fun e w' => ∃ x y, e = .returned (.agg #[.int .i64 x, .int .i64 y]) ∧ Reader w' g (q + 6) ∧ w.grownBy w' (some g) := by
  have hlt := hr.lt
  have HR := Lib.hid hr
  clear hr
  go_enter Tryd.func22, Tryd.ntmps22
  go_wp2_with fail
  refine (l2Some_c g q (by omega) _ (HR.out.alloc _)).mono ?_
  rintro e w1 ⟨X, Y, rfl, hr1, hg1⟩
  have s1 : w.heap.size < w1.heap.size := by have := hg1.size; simp at this; omega
  have HR1 := Lib.hid hr1
  have HC1 := Lib.hid ((CX.new w 0 0 _).grown hg1 (by omega) (by simp))
  have HG1 := Lib.hid (grown_trans_row (grown_alloc (grown_refl w _) _) hg1)
  clear hr1 hg1
  go_wp2_with fail
  refine (pick_c g (q + 4) _ (by omega) (by omega) _ (HR1.out.alloc _)).mono ?_
  rintro e w2 ⟨z, rfl, z0, z1, hr2, hg2⟩
  have sF2 : w1.heap.size < w2.heap.size := by have := hg2.size; simp at this; omega
  have s2 : w.heap.size < w2.heap.size := by omega
  have HR2 := Lib.hid hr2
  have HF2 := Lib.hid ((CX.new w1 X Y _).grown hg2 (by omega) (by simp))
  have HC2 := Lib.hid ((HC1.out.alloc s1 _).grown hg2 (by omega) (by simp; omega))
  have HG2 := Lib.hid (grown_trans_row (grown_alloc HG1.out _) hg2)
  clear hr2 hg2 z1
  by_cases h0 : z = 0
  · subst h0
    go_wp2_with fail
    refine (num_c g _ _ 3 3 [0, -1, 1000000001] (by omega) (by decide) (by decide) _ (HR2.out.alloc _) (lit_row w2 [0, -1, 1000000001] (by unfold Fits; decide) (by decide)) (some_ne (by omega))).mono ?_
    rintro e w5 ⟨i, hi, rfl, hr5, hg5⟩
    generalize List.getD [0, -1, 1000000001] i 0 = V at *
    have sF5 : w1.heap.size < w5.heap.size := by have := hg5.size; simp at this; omega
    have HR5 := Lib.hid (hr5.more (show _ ≤ q + 6 by omega))
    have HF5 := Lib.hid ((HF2.out.alloc sF2 _).grown hg5 (by omega) (by simp; omega))
    have HC5 := Lib.hid ((HC2.out.alloc s2 _).grown hg5 (by omega) (by simp; omega))
    have HG5 := Lib.hid (grown_trans_row (grown_alloc HG2.out _) hg5)
    clear hr5 hg5 hi
    obtain ⟨⟨c0, c1⟩, ⟨f0, f1⟩⟩ := HC5.out
    obtain ⟨⟨a0, a1⟩, ⟨b0, b1⟩⟩ := HF5.out
    go_wp2_with fail
    exact bodyPost_ret (v := .agg #[.int .i64 (X), .int .i64 (V)]) (by simp [results, Tryd.results22, go_sem, c0, c1]) rfl ⟨_, _, rfl, (by repeat (first | exact HR5.out | (refine reader_set ?_ _ (by first | (simp; omega) | simp | omega) _))), (by repeat (first | exact HG5.out | (refine grown_set ?_ _ (by first | (simp; omega) | simp | omega) _)))⟩
  · have h0b : (z == 0) = false := by simpa using h0
    by_cases h1 : z = 1
    · subst h1
      go_wp2_with fail
      refine (pick_c g _ _ (by omega) (by omega) _ HR2.out).mono ?_
      rintro e w5 ⟨u, rfl, u0, u1, hr5, hg5⟩
      have u2 : u < 3 := by omega
      have sF5 : w1.heap.size < w5.heap.size := by have := hg5.size; omega
      have HR5 := Lib.hid (hr5.more (show _ ≤ q + 6 by omega))
      have HF5 := Lib.hid (HF2.out.grown hg5 (by omega) (by omega))
      have HC5 := Lib.hid (HC2.out.grown hg5 (by omega) (by omega))
      have HG5 := Lib.hid (grown_trans_row HG2.out hg5)
      clear hr5 hg5 u1
      obtain ⟨⟨c0, c1⟩, ⟨f0, f1⟩⟩ := HC5.out
      obtain ⟨⟨a0, a1⟩, ⟨b0, b1⟩⟩ := HF5.out
      go_wp2_with fail
      exact bodyPost_ret (v := .agg #[.int .i64 (2 * (1 + u)), .int .i64 (2)]) (by simp [results, Tryd.results22, go_sem, c0, c1]) rfl ⟨_, _, rfl, (by repeat (first | exact HR5.out | (refine reader_set ?_ _ (by first | (simp; omega) | simp | omega) _))), (by repeat (first | exact HG5.out | (refine grown_set ?_ _ (by first | (simp; omega) | simp | omega) _)))⟩
    · have h1b : (z == 1) = false := by simpa using h1
      by_cases h2 : z = 2
      · subst h2
        go_wp2_with fail
        refine (num_c g _ _ 2 2 [1000000001, -9223372036854775808] (by omega) (by decide) (by decide) _ (HR2.out.alloc _) (lit_row w2 [1000000001, -9223372036854775808] (by unfold Fits; decide) (by decide)) (some_ne (by omega))).mono ?_
        rintro e w5 ⟨i, hi, rfl, hr5, hg5⟩
        generalize List.getD [1000000001, -9223372036854775808] i 0 = V at *
        have sF5 : w1.heap.size < w5.heap.size := by have := hg5.size; simp at this; omega
        have HR5 := Lib.hid (hr5.more (show _ ≤ q + 6 by omega))
        have HF5 := Lib.hid ((HF2.out.alloc sF2 _).grown hg5 (by omega) (by simp; omega))
        have HC5 := Lib.hid ((HC2.out.alloc s2 _).grown hg5 (by omega) (by simp; omega))
        have HG5 := Lib.hid (grown_trans_row (grown_alloc HG2.out _) hg5)
        clear hr5 hg5 hi
        obtain ⟨⟨c0, c1⟩, ⟨f0, f1⟩⟩ := HC5.out
        obtain ⟨⟨a0, a1⟩, ⟨b0, b1⟩⟩ := HF5.out
        go_wp2_with fail
        exact bodyPost_ret (v := .agg #[.int .i64 (V), .int .i64 (Y)]) (by simp [results, Tryd.results22, go_sem, c0, c1]) rfl ⟨_, _, rfl, (by repeat (first | exact HR5.out | (refine reader_set ?_ _ (by first | (simp; omega) | simp | omega) _))), (by repeat (first | exact HG5.out | (refine grown_set ?_ _ (by first | (simp; omega) | simp | omega) _)))⟩
      · have h2b : (z == 2) = false := by simpa using h2
        have HR5 := Lib.hid (HR2.out.more (show _ ≤ q + 6 by omega))
        obtain ⟨⟨c0, c1⟩, ⟨f0, f1⟩⟩ := HC2.out
        obtain ⟨⟨a0, a1⟩, ⟨b0, b1⟩⟩ := HF2.out
        go_wp2_with fail
        exact bodyPost_ret (v := .agg #[.int .i64 (X), .int .i64 (Y)]) (by simp [results, Tryd.results22, go_sem, c0, c1]) rfl ⟨_, _, rfl, (by repeat (first | exact HR5.out | (refine reader_set ?_ _ (by first | (simp; omega) | simp | omega) _))), (by repeat (first | exact HG2.out | (refine grown_set ?_ _ (by first | (simp; omega) | simp | omega) _)))⟩
end Go.Proofs.YtggonihjnipobaaDoor
