/- Contracts: MoveMass, the program's and the reference's. Conditions: as stated. -/
import Derived.Test.YtclhogmfnkdcaaaMn
namespace Go.Proofs.Ytclhogmfnkdcaaa
open Go.RowKit

theorem movMB_no1 {s : Int} {zs ts : List Int} (h : massB s zs = false) : movMB s zs ts = false := by simp [movMB, h]
theorem movMB_no2 {s : Int} {zs ts : List Int} (h : ordI s ts.length ts = false) : movMB s zs ts = false := by simp [movMB, h]
theorem movMB_yes {s : Int} {zs ts : List Int} (h1 : massB s zs = true) (h2 : ordI s ts.length ts = true) : movMB s zs ts = true := by simp [movMB, h1, h2]
set_option maxHeartbeats 2000000 in
theorem impl_MoveMass_c (s : Int) (a : Option Addr) (n c : Nat) (zs : List Int) (A : Option Addr) (m cm : Nat) (ts : List Int) (w : World) (ha : IsRow .i64 w a n c zs) (hr : IsRow .i64 w A m cm ts) :
    Calls Try.prog 36 #[.agg #[.int .i64 s, .slice a n c], .slice A m cm] w (MassOk w (movMB s zs ts) s (movML zs ts)) := by
  have hl := hr.len
  subst hl
  have hmf : ∀ (fn : Fn) (first cap : Array Value) (w : World), (Instr.makeFunc fn first cap).run Try.prog w = .ok (.func fn first cap) w := fun _ _ _ _ => rfl
  have HR := Lib.hid ha
  have HT := Lib.hid hr
  clear ha hr
  rcases hm : massB s zs with _ | _
  · have HN := Lib.hid (movMB_no1 (ts := ts) hm)
    go_enter Try.func36, Try.ntmps36
    go_wp2_with fail
    refine (isMass_c _ _ _ _ zs _ (((HR.out.alloc _).alloc _).alloc _)).mono ?_
    rintro e w1 ⟨rfl, hb⟩
    have c0 : w1.cell? ⟨w.heap.size + 2, 0, none⟩ = some (.int .i64 0) := (hb.cell (by show w.heap.size + 2 < _; simp <;> omega)).trans (by go_simp)
    have c1 : w1.cell? ⟨w.heap.size + 2, 1, none⟩ = some (.slice none 0 0) := (hb.cell (by show w.heap.size + 2 < _; simp <;> omega)).trans (by go_simp)
    have f0 : w1.frozen? ⟨w.heap.size + 2, 0, none⟩ = false := (hb.frozen (by show w.heap.size + 2 < _; simp <;> omega)).trans (by go_simp)
    have f1 : w1.frozen? ⟨w.heap.size + 2, 1, none⟩ = false := (hb.frozen (by show w.heap.size + 2 < _; simp <;> omega)).trans (by go_simp)
    have k0 : w1.cell? ⟨w.heap.size, 0, none⟩ = some (.int .i64 s) := (hb.cell (by show w.heap.size < _; simp <;> omega)).trans (by go_simp)
    have k1 : w1.cell? ⟨w.heap.size, 1, none⟩ = some (.slice a n c) := (hb.cell (by show w.heap.size < _; simp <;> omega)).trans (by go_simp)
    have kt : w1.cell? ⟨w.heap.size + 1, 0, none⟩ = some (.slice A ts.length cm) := (hb.cell (by show w.heap.size + 1 < _; simp <;> omega)).trans (by go_simp)
    have HB := Lib.hid (((((Below.refl w.heap.size w).alloc (Nat.le_refl _) _).alloc (by simp) _).alloc (by simp <;> omega) _).trans (hb.mono (by simp <;> omega)))
    have hz : w.heap.size + 2 < w1.heap.size := by have := hb.size; simp at this; omega
    have HR1 := Lib.hid ((((HR.out.alloc _).alloc _).alloc _).below hb)
    have HT1 := Lib.hid ((((HT.out.alloc _).alloc _).alloc _).below hb)
    clear hb
    go_wp2_with fail
    refine bodyPost_ret (v := .tuple #[.agg #[.int .i64 0, .slice none 0 0], .bool false]) (by simp [results, Try.results36, go_sem, c0, c1]) rfl ?_
    rw [HN.out]
    exact ⟨none, 0, rfl, own_nil0 _ _, (by repeat (first | exact HB.out | (refine Below.setCell ?_ (by first | exact Nat.le_refl _ | (simp <;> omega) | omega) _)))⟩
  have hsr := (massB_of hm).1
  rcases ho : ordI s ts.length ts with _ | _
  · have HN := Lib.hid (movMB_no2 (zs := zs) ho)
    go_enter Try.func36, Try.ntmps36
    go_wp2_with fail
    refine (isMass_c _ _ _ _ zs _ (((HR.out.alloc _).alloc _).alloc _)).mono ?_
    rintro e w1 ⟨rfl, hb⟩
    have c0 : w1.cell? ⟨w.heap.size + 2, 0, none⟩ = some (.int .i64 0) := (hb.cell (by show w.heap.size + 2 < _; simp <;> omega)).trans (by go_simp)
    have c1 : w1.cell? ⟨w.heap.size + 2, 1, none⟩ = some (.slice none 0 0) := (hb.cell (by show w.heap.size + 2 < _; simp <;> omega)).trans (by go_simp)
    have f0 : w1.frozen? ⟨w.heap.size + 2, 0, none⟩ = false := (hb.frozen (by show w.heap.size + 2 < _; simp <;> omega)).trans (by go_simp)
    have f1 : w1.frozen? ⟨w.heap.size + 2, 1, none⟩ = false := (hb.frozen (by show w.heap.size + 2 < _; simp <;> omega)).trans (by go_simp)
    have k0 : w1.cell? ⟨w.heap.size, 0, none⟩ = some (.int .i64 s) := (hb.cell (by show w.heap.size < _; simp <;> omega)).trans (by go_simp)
    have k1 : w1.cell? ⟨w.heap.size, 1, none⟩ = some (.slice a n c) := (hb.cell (by show w.heap.size < _; simp <;> omega)).trans (by go_simp)
    have kt : w1.cell? ⟨w.heap.size + 1, 0, none⟩ = some (.slice A ts.length cm) := (hb.cell (by show w.heap.size + 1 < _; simp <;> omega)).trans (by go_simp)
    have HB := Lib.hid (((((Below.refl w.heap.size w).alloc (Nat.le_refl _) _).alloc (by simp) _).alloc (by simp <;> omega) _).trans (hb.mono (by simp <;> omega)))
    have hz : w.heap.size + 2 < w1.heap.size := by have := hb.size; simp at this; omega
    have HR1 := Lib.hid ((((HR.out.alloc _).alloc _).alloc _).below hb)
    have HT1 := Lib.hid ((((HT.out.alloc _).alloc _).alloc _).below hb)
    clear hb
    go_wp2_with (go_at_call 80; refine (isOrder_c _ _ _ _ ts hsr _ HT1.out).mono ?_; rintro e w' ⟨rfl, rfl⟩)
    refine bodyPost_ret (v := .tuple #[.agg #[.int .i64 0, .slice none 0 0], .bool false]) (by simp [results, Try.results36, go_sem, c0, c1]) rfl ?_
    rw [HN.out]
    exact ⟨none, 0, rfl, own_nil0 _ _, (by repeat (first | exact HB.out | (refine Below.setCell ?_ (by first | exact Nat.le_refl _ | (simp <;> omega) | omega) _)))⟩
  · have HN := Lib.hid (movMB_yes hm ho)
    go_enter Try.func36, Try.ntmps36
    go_wp2_with fail
    refine (isMass_c _ _ _ _ zs _ (((HR.out.alloc _).alloc _).alloc _)).mono ?_
    rintro e w1 ⟨rfl, hb⟩
    have c0 : w1.cell? ⟨w.heap.size + 2, 0, none⟩ = some (.int .i64 0) := (hb.cell (by show w.heap.size + 2 < _; simp <;> omega)).trans (by go_simp)
    have c1 : w1.cell? ⟨w.heap.size + 2, 1, none⟩ = some (.slice none 0 0) := (hb.cell (by show w.heap.size + 2 < _; simp <;> omega)).trans (by go_simp)
    have f0 : w1.frozen? ⟨w.heap.size + 2, 0, none⟩ = false := (hb.frozen (by show w.heap.size + 2 < _; simp <;> omega)).trans (by go_simp)
    have f1 : w1.frozen? ⟨w.heap.size + 2, 1, none⟩ = false := (hb.frozen (by show w.heap.size + 2 < _; simp <;> omega)).trans (by go_simp)
    have k0 : w1.cell? ⟨w.heap.size, 0, none⟩ = some (.int .i64 s) := (hb.cell (by show w.heap.size < _; simp <;> omega)).trans (by go_simp)
    have k1 : w1.cell? ⟨w.heap.size, 1, none⟩ = some (.slice a n c) := (hb.cell (by show w.heap.size < _; simp <;> omega)).trans (by go_simp)
    have kt : w1.cell? ⟨w.heap.size + 1, 0, none⟩ = some (.slice A ts.length cm) := (hb.cell (by show w.heap.size + 1 < _; simp <;> omega)).trans (by go_simp)
    have HB := Lib.hid (((((Below.refl w.heap.size w).alloc (Nat.le_refl _) _).alloc (by simp) _).alloc (by simp <;> omega) _).trans (hb.mono (by simp <;> omega)))
    have hz : w.heap.size + 2 < w1.heap.size := by have := hb.size; simp at this; omega
    have HR1 := Lib.hid ((((HR.out.alloc _).alloc _).alloc _).below hb)
    have HT1 := Lib.hid ((((HT.out.alloc _).alloc _).alloc _).below hb)
    clear hb
    go_wp2_with (go_at_call 80; refine (isOrder_c _ _ _ _ ts hsr _ HT1.out).mono ?_; rintro e w' ⟨rfl, rfl⟩)
    refine (mapped_c s _ _ _ zs ts _ _ _ (w.heap.size + 1) HN.out rfl _ HR1.out HT1.out kt (by omega)).mono ?_
    rintro e w2 ⟨B, C', rfl, ho2, hb⟩
    replace c0 := (hb.cell (p := ⟨w.heap.size + 2, 0, none⟩) hz).trans c0
    replace c1 := (hb.cell (p := ⟨w.heap.size + 2, 1, none⟩) hz).trans c1
    replace f0 := (hb.frozen (p := ⟨w.heap.size + 2, 0, none⟩) hz).trans f0
    replace f1 := (hb.frozen (p := ⟨w.heap.size + 2, 1, none⟩) hz).trans f1
    have HO5 : Hid (Own w2 (w.heap.size + 3) (.slice B (selL true (movML zs ts)).length C') (selL true (movML zs ts))) := Lib.hid (ho2.low (by omega))
    have HB5 : Hid (Below w.heap.size w w2) := Lib.hid (HB.out.trans (hb.mono HB.out.size))
    clear ho2 hb
    go_wp2_with fail
    refine bodyPost_ret (v := .tuple #[.agg #[.int .i64 (sel true s), .slice B (selL true (movML zs ts)).length C'], .bool true]) (by simp [results, Try.results36, go_sem, c0, c1]) rfl ?_
    rw [HN.out]
    refine ⟨B, C', rfl, ?_, (HB5.out.setCell (by show w.heap.size ≤ w.heap.size + 2; omega) _).setCell (by show w.heap.size ≤ w.heap.size + 2; omega) _⟩
    refine Own.low (B := w.heap.size + 3) ?_ (by omega)
    exact (HO5.out.set ⟨w.heap.size + 2, 0, none⟩ (fun g hg => by have h1 := (HO5.out.lt g hg).1; show g ≠ w.heap.size + 2; omega) _).set ⟨w.heap.size + 2, 1, none⟩ (fun g hg => by have h1 := (HO5.out.lt g hg).1; show g ≠ w.heap.size + 2; omega) _
theorem make_lit2 (w : World) : (Instr.makeSlice 23 (.int .i64 ((2 : Nat) : Int)) (.int .i64 ((2 : Nat) : Int))).run Try.prog w = .ok (.slice (some ⟨w.heap.size, 0, none⟩) 2 2) (w.alloc (.cells (Array.replicate 2 (.int .i64 0)) 3)) := by kernel_rfl
theorem make_lit4 (w : World) : (Instr.makeSlice 23 (.int .i64 ((4 : Nat) : Int)) (.int .i64 ((4 : Nat) : Int))).run Try.prog w = .ok (.slice (some ⟨w.heap.size, 0, none⟩) 4 4) (w.alloc (.cells (Array.replicate 4 (.int .i64 0)) 3)) := by kernel_rfl
theorem make_lit8 (w : World) : (Instr.makeSlice 23 (.int .i64 ((8 : Nat) : Int)) (.int .i64 ((8 : Nat) : Int))).run Try.prog w = .ok (.slice (some ⟨w.heap.size, 0, none⟩) 8 8) (w.alloc (.cells (Array.replicate 8 (.int .i64 0)) 3)) := by kernel_rfl
theorem make_lit16 (w : World) : (Instr.makeSlice 23 (.int .i64 ((16 : Nat) : Int)) (.int .i64 ((16 : Nat) : Int))).run Try.prog w = .ok (.slice (some ⟨w.heap.size, 0, none⟩) 16 16) (w.alloc (.cells (Array.replicate 16 (.int .i64 0)) 3)) := by kernel_rfl
theorem make_lit {n : Nat} (h : n = 2 ∨ n = 4 ∨ n = 8 ∨ n = 16) : ∀ w : World, (Instr.makeSlice 23 (.int .i64 (n : Int)) (.int .i64 (n : Int))).run Try.prog w = .ok (.slice (some ⟨w.heap.size, 0, none⟩) n n) (w.alloc (.cells (Array.replicate n (.int .i64 0)) 3)) := by
  rcases h with rfl | rfl | rfl | rfl
  · exact make_lit2
  · exact make_lit4
  · exact make_lit8
  · exact make_lit16
theorem own_made (W : World) (zs : List Int) (f : Nat → Nat) (n B : Nat) (hn : n ≤ 16) (hB : B ≤ W.heap.size) :
    (W.alloc (.cells (Array.replicate n (.int .i64 0)) 3)).ownsRow B 3 1 (.slice (some ⟨W.heap.size, 0, none⟩) n n) n ((movF zs f n 0).map (Value.int .i64)) := by
  have := World.ownsRow_lit W (Array.replicate n (Value.int .i64 0)) n (base := B) (size := 1) (e := 3) hB (by unfold maxLen; omega) (by simp)
  rw [movF, List.map_replicate]
  simpa using this
theorem mass_sizes {s : Int} {zs : List Int} (h : massB s zs = true) : zs.length = 2 ∨ zs.length = 4 ∨ zs.length = 8 ∨ zs.length = 16 := by
  obtain ⟨h1, h2, _⟩ := massB_of h
  rcases two_pow_cases h1 with ⟨_, e⟩ | ⟨_, e⟩ | ⟨_, e⟩ | ⟨_, e⟩ <;> omega
set_option maxRecDepth 100000 in
set_option maxHeartbeats 4000000 in
theorem spec_MoveMass_c (s : Int) (a : Option Addr) (n c : Nat) (zs : List Int) (A : Option Addr) (m cm : Nat) (ts : List Int) (w : World) (ha : IsRow .i64 w a n c zs) (hr : IsRow .i64 w A m cm ts) :
    Calls Try.prog 35 #[.agg #[.int .i64 s, .slice a n c], .slice A m cm] w (MassOk w (movMB s zs ts) s (movML zs ts)) := by
  have hl := hr.len
  subst hl
  have HR := Lib.hid ha
  have HT := Lib.hid hr
  clear ha hr
  rcases hm : massB s zs with _ | _
  · have HN := Lib.hid (movMB_no1 (ts := ts) hm)
    go_enter Try.func35, Try.ntmps35
    go_wp2_with fail
    refine (spec_MassValid_c _ _ _ _ zs _ ((HR.out.alloc _).alloc _)).mono ?_
    rintro e w1 ⟨rfl, hb⟩
    have c0 : w1.cell? ⟨w.heap.size + 1, 0, none⟩ = some (.int .i64 0) := (hb.cell (by show w.heap.size + 1 < _; simp <;> omega)).trans (by go_simp)
    have c1 : w1.cell? ⟨w.heap.size + 1, 1, none⟩ = some (.slice none 0 0) := (hb.cell (by show w.heap.size + 1 < _; simp <;> omega)).trans (by go_simp)
    have f0 : w1.frozen? ⟨w.heap.size + 1, 0, none⟩ = false := (hb.frozen (by show w.heap.size + 1 < _; simp <;> omega)).trans (by go_simp)
    have f1 : w1.frozen? ⟨w.heap.size + 1, 1, none⟩ = false := (hb.frozen (by show w.heap.size + 1 < _; simp <;> omega)).trans (by go_simp)
    have k0 : w1.cell? ⟨w.heap.size, 0, none⟩ = some (.int .i64 s) := (hb.cell (by show w.heap.size < _; simp <;> omega)).trans (by go_simp)
    have k1 : w1.cell? ⟨w.heap.size, 1, none⟩ = some (.slice a n c) := (hb.cell (by show w.heap.size < _; simp <;> omega)).trans (by go_simp)
    have HB := Lib.hid ((((Below.refl w.heap.size w).alloc (Nat.le_refl _) _).alloc (by simp) _).trans (hb.mono (by simp <;> omega)))
    have hz : w.heap.size + 1 < w1.heap.size := by have := hb.size; simp at this; omega
    have HR1 := Lib.hid (((HR.out.alloc _).alloc _).below hb)
    have HT1 := Lib.hid (((HT.out.alloc _).alloc _).below hb)
    clear hb
    go_wp2_with fail
    refine bodyPost_ret (v := .tuple #[.agg #[.int .i64 0, .slice none 0 0], .bool false]) (by simp [results, Try.results35, go_sem, c0, c1]) rfl ?_
    rw [HN.out]
    exact ⟨none, 0, rfl, own_nil0 _ _, (by repeat (first | exact HB.out | (refine Below.setCell ?_ (by first | exact Nat.le_refl _ | (simp <;> omega) | omega) _)))⟩
  have hsr := (massB_of hm).1
  have hos := ord_same hsr (zs := ts) (n := ts.length) rfl
  rcases ho : ordI s ts.length ts with _ | _
  · have HN := Lib.hid (movMB_no2 (zs := zs) ho)
    rw [ho] at hos
    go_enter Try.func35, Try.ntmps35
    go_wp2_with fail
    refine (spec_MassValid_c _ _ _ _ zs _ ((HR.out.alloc _).alloc _)).mono ?_
    rintro e w1 ⟨rfl, hb⟩
    have c0 : w1.cell? ⟨w.heap.size + 1, 0, none⟩ = some (.int .i64 0) := (hb.cell (by show w.heap.size + 1 < _; simp <;> omega)).trans (by go_simp)
    have c1 : w1.cell? ⟨w.heap.size + 1, 1, none⟩ = some (.slice none 0 0) := (hb.cell (by show w.heap.size + 1 < _; simp <;> omega)).trans (by go_simp)
    have f0 : w1.frozen? ⟨w.heap.size + 1, 0, none⟩ = false := (hb.frozen (by show w.heap.size + 1 < _; simp <;> omega)).trans (by go_simp)
    have f1 : w1.frozen? ⟨w.heap.size + 1, 1, none⟩ = false := (hb.frozen (by show w.heap.size + 1 < _; simp <;> omega)).trans (by go_simp)
    have k0 : w1.cell? ⟨w.heap.size, 0, none⟩ = some (.int .i64 s) := (hb.cell (by show w.heap.size < _; simp <;> omega)).trans (by go_simp)
    have k1 : w1.cell? ⟨w.heap.size, 1, none⟩ = some (.slice a n c) := (hb.cell (by show w.heap.size < _; simp <;> omega)).trans (by go_simp)
    have HB := Lib.hid ((((Below.refl w.heap.size w).alloc (Nat.le_refl _) _).alloc (by simp) _).trans (hb.mono (by simp <;> omega)))
    have hz : w.heap.size + 1 < w1.heap.size := by have := hb.size; simp at this; omega
    have HR1 := Lib.hid (((HR.out.alloc _).alloc _).below hb)
    have HT1 := Lib.hid (((HT.out.alloc _).alloc _).below hb)
    clear hb
    go_wp2_with (go_at_call 78; refine (l1Moves_c _ _ _ _ ts hsr _ HT1.out).mono ?_; rintro e w' ⟨rfl, rfl⟩)
    refine bodyPost_ret (v := .tuple #[.agg #[.int .i64 0, .slice none 0 0], .bool false]) (by simp [results, Try.results35, go_sem, c0, c1]) rfl ?_
    rw [HN.out]
    exact ⟨none, 0, rfl, own_nil0 _ _, (by repeat (first | exact HB.out | (refine Below.setCell ?_ (by first | exact Nat.le_refl _ | (simp <;> omega) | omega) _)))⟩
  · have HN := Lib.hid (movMB_yes hm ho)
    rw [ho] at hos
    have HMV : Hid (Moves (imgN ts ts.length) n) := Lib.hid (by have := mov_moves HN.out; rw [HR.out.len] at this; exact this)
    have HML : Hid (movML zs ts = movF zs (imgN ts ts.length) n n) := Lib.hid (by unfold movML movL; rw [HR.out.len])
    have HX := Lib.hid (mass_get hm)
    have HFF : Hid (∀ i, Fits (zs.getD i 0)) := Lib.hid (fun i => by have := mass_get hm i; unfold Fits; omega)
    obtain ⟨e1, e2⟩ := ordI_range ho
    have HZ := Lib.hid (fun i (hi : i < ts.length) => (⟨(e2 i hi).1, by have := (e2 i hi).2; omega⟩ : 0 ≤ ts.getD i 0 ∧ ts.getD i 0 ≤ 3))
    have hm4 : ts.length ≤ 4 := by omega
    have HM4 := Lib.hid hm4
    have hsz := mass_sizes hm
    rw [HR.out.len] at hsz
    have hn2 : 2 ≤ n := by omega
    have hn16 : n ≤ 16 := by omega
    have hmk := make_lit hsz
    have HMK := Lib.hid hmk
    have HCL : Hid (∀ (k : Nat), k ≤ 15 → ∀ W : World, IsRow .i64 W A ts.length cm ts → Calls Try.prog 79 #[.int .i64 (k : Int), .slice A ts.length cm] W fun e w' => e = .returned (.int .i64 ((imgN ts ts.length k : Nat) : Int)) ∧ w' = W) := Lib.hid (fun k hk W hW => calls_flip ((l1Move_c (k : Int) A _ cm ts (by omega) HM4.out HZ.out W hW).mono fun e w' ⟨he, hw⟩ => ⟨by rw [he, imgI_nat HZ.out], hw⟩))
    clear e1 e2 hm4 hsz
    go_enter Try.func35, Try.ntmps35
    go_wp2_with fail
    refine (spec_MassValid_c _ _ _ _ zs _ ((HR.out.alloc _).alloc _)).mono ?_
    rintro e w1 ⟨rfl, hb⟩
    have c0 : w1.cell? ⟨w.heap.size + 1, 0, none⟩ = some (.int .i64 0) := (hb.cell (by show w.heap.size + 1 < _; simp <;> omega)).trans (by go_simp)
    have c1 : w1.cell? ⟨w.heap.size + 1, 1, none⟩ = some (.slice none 0 0) := (hb.cell (by show w.heap.size + 1 < _; simp <;> omega)).trans (by go_simp)
    have f0 : w1.frozen? ⟨w.heap.size + 1, 0, none⟩ = false := (hb.frozen (by show w.heap.size + 1 < _; simp <;> omega)).trans (by go_simp)
    have f1 : w1.frozen? ⟨w.heap.size + 1, 1, none⟩ = false := (hb.frozen (by show w.heap.size + 1 < _; simp <;> omega)).trans (by go_simp)
    have k0 : w1.cell? ⟨w.heap.size, 0, none⟩ = some (.int .i64 s) := (hb.cell (by show w.heap.size < _; simp <;> omega)).trans (by go_simp)
    have k1 : w1.cell? ⟨w.heap.size, 1, none⟩ = some (.slice a n c) := (hb.cell (by show w.heap.size < _; simp <;> omega)).trans (by go_simp)
    have HB := Lib.hid ((((Below.refl w.heap.size w).alloc (Nat.le_refl _) _).alloc (by simp) _).trans (hb.mono (by simp <;> omega)))
    have hz : w.heap.size + 1 < w1.heap.size := by have := hb.size; simp at this; omega
    have HR1 := Lib.hid (((HR.out.alloc _).alloc _).below hb)
    have HT1 := Lib.hid (((HT.out.alloc _).alloc _).below hb)
    clear hb
    go_wp2_with (go_at_call 78; refine (l1Moves_c _ _ _ _ ts hsr _ HT1.out).mono ?_; rintro e w' ⟨rfl, rfl⟩)
    have hz0 : w.heap.size < w1.heap.size := by omega
    have HLR := Lib.hid HR1.out.lowAt
    have HLT := Lib.hid HT1.out.lowAt
    go_upto_region 3 with fail
    go_cut [6] (fun q wx => ∃ g R : Nat, q = .pointer (some ⟨R, 0, none⟩) ∧ wx.ownsRow w1.heap.size 3 1 (.slice (some ⟨g, 0, none⟩) n n) n ((movF zs (imgN ts ts.length) n 0).map (Value.int .i64)) ∧ Below w1.heap.size w1 wx ∧ (w1.heap.size ≤ g ∧ g < wx.heap.size) ∧ (w1.heap.size ≤ R ∧ R < wx.heap.size ∧ R ≠ g) ∧ wx.cell? ⟨R, 0, none⟩ = some (.int .i64 s) ∧ wx.cell? ⟨R, 1, none⟩ = some (.slice (some ⟨g, 0, none⟩) n n))
    case first =>
      go_region
      all_goals
        go_wp2_with fail
        go_meet
        first
          | (refine ⟨w1.heap.size, w1.heap.size + 1, rfl, ?_, ?_, ?_, ?_, ?_, ?_⟩
             · exact (own_made w1 zs _ n _ hn16 (Nat.le_refl _)).alloc _
             · exact (((Below.refl _ _).alloc (Nat.le_refl _) _).alloc (by simp) _).drew
             · exact ⟨by omega, by first | (simp; done) | (simp; omega)⟩
             · exact ⟨by omega, by first | (simp; done) | (simp; omega), by omega⟩
             · go_simp
             · go_simp)
          | (refine ⟨w1.heap.size + 1, w1.heap.size, rfl, ?_, ?_, ?_, ?_, ?_, ?_⟩
             · have := own_made (w1.alloc (.cells #[.int .i64 s, .slice (some ⟨w1.heap.size + 1, 0, none⟩) n n] 25)) zs (imgN ts ts.length) n w1.heap.size hn16 (by simp)
               rw [World.size_alloc] at this
               exact this
             · exact (((Below.refl _ _).alloc (Nat.le_refl _) _).alloc (by simp) _).drew
             · exact ⟨by omega, by first | (simp; done) | (simp; omega)⟩
             · exact ⟨by omega, by first | (simp; done) | (simp; omega), by omega⟩
             · go_simp
             · go_simp)
    case rest =>
      obtain ⟨g, R, rfl, hown, hbl, ⟨g0, g1⟩, ⟨R0, R1, R2⟩, kr0, kr1⟩ := hcut
      have HBW := Lib.hid (HB.out.trans (hbl.mono (by omega)))
      replace c0 := (hbl.cell (p := ⟨w.heap.size + 1, 0, none⟩) hz).trans c0
      replace c1 := (hbl.cell (p := ⟨w.heap.size + 1, 1, none⟩) hz).trans c1
      replace f0 := (hbl.frozen (p := ⟨w.heap.size + 1, 0, none⟩) hz).trans f0
      replace f1 := (hbl.frozen (p := ⟨w.heap.size + 1, 1, none⟩) hz).trans f1
      replace k1 := (hbl.cell (p := ⟨w.heap.size, 1, none⟩) hz0).trans k1
      have HR2 := Lib.hid (HR1.out.below hbl)
      have HT2 := Lib.hid (HT1.out.below hbl)
      have HOWN := Lib.hid hown
      have HMM := Lib.hid hm
      clear hown hbl k0 hmk hos ho hm
      go_wp2_with fail
      go_loopw [7] (fun i wr => ∃ k : Nat, k ≤ n ∧ i = .int .i64 k ∧ wr.ownsRow w1.heap.size 3 1 (.slice (some ⟨g, 0, none⟩) n n) n ((movF zs (imgN ts ts.length) n k).map (Value.int .i64)) ∧ wc.grownBy wr (some g)) (fun i _ => n - (intOf i).toNat)
      case atStart => exact ⟨0, Nat.zero_le _, rfl, HOWN.out, World.grownBy.refl _ _⟩
      case round =>
        obtain ⟨k, hk, rfl, hown, hgr⟩ := hrel
        have HG := Lib.hid hgr
        have HO := Lib.hid hown
        have HR3 := Lib.hid (HR2.out.grown hgr (fun hp b o e e2 => by have h1 := HLR.out hp b o e; injection e2 with e2; omega))
        have HT3 := Lib.hid (HT2.out.grown hgr (fun hp b o e e2 => by have h1 := HLT.out hp b o e; injection e2 with e2; omega))
        replace k1 : wr.cell? ⟨w.heap.size, 1, none⟩ = some (.slice a n c) := hgr.cell k1 (by intro e; injection e with e; simp at e; omega)
        replace kr0 : wr.cell? ⟨R, 0, none⟩ = some (.int .i64 s) := hgr.cell kr0 (by intro e; injection e with e; simp at e; omega)
        replace kr1 : wr.cell? ⟨R, 1, none⟩ = some (.slice (some ⟨g, 0, none⟩) n n) := hgr.cell kr1 (by intro e; injection e with e; simp at e; omega)
        have hsr2 := hgr.size
        clear hown hgr
        by_cases hlt : k < n
        · obtain ⟨b1, o1, rfl, hbl, h1⟩ := HR3.out.at_ (by omega)
          have gx := h1 k hlt
          have hfl := HMV.out.lt hlt
          have hc := own_cell (k := imgN ts ts.length k) HO.out hfl (movF_len _ _ _ _)
          have hfz := HO.out.frozenAt (imgN ts ts.length k)
          have HMK2 : Hid (movF zs (imgN ts ts.length) n (k + 1) = (movF zs (imgN ts ts.length) n k).set (imgN ts ts.length k) (zs.getD k 0)) := Lib.hid rfl
          have hst := own_store (k := imgN ts ts.length k) (v := zs.getD k 0) HO.out
          rw [← HMK2.out] at hst
          have HST := Lib.hid hst
          have HCK := Lib.hid (HCL.out k (by omega))
          clear h1 hst
          obtain ⟨x, hx⟩ : ∃ x, x = zs.getD k 0 := ⟨_, rfl⟩
          rw [← hx] at gx HST
          clear hx
          obtain ⟨y, hy⟩ : ∃ y, y = (movF zs (imgN ts ts.length) n k).getD (imgN ts ts.length k) 0 := ⟨_, rfl⟩
          rw [← hy] at hc
          clear hy
          obtain ⟨j, hj⟩ : ∃ j, j = imgN ts ts.length k := ⟨_, rfl⟩
          rw [← hj] at hc hfz HST HCK hfl
          clear hj
          have hjn : (j : Int) < (n : Int) := by omega
          have hj0 : (0 : Int) ≤ (j : Int) := by omega
          have hkn : (k : Int) < (n : Int) := by omega
          have hk0 : (0 : Int) ≤ (k : Int) := by omega
          go_wp2_with fail
          refine wp_region_still_tail 11 (by kernel_rfl) (by kernel_rfl) ?_
          simp only [List.take_succ_cons, List.take_zero, List.drop_succ_cons, List.drop_zero]
          still_step
          still_step
          still_step
          still_step
          refine wpStill_step (fun K hK => ?_)
          go_simp
          refine ⟨_, HCK.out _ ?hr9, hK _ ?_⟩
          case hr9 => exact HT3.out.drew
          clear hK K
          repeat still_step
          try refine wpStill_nil ?_
          change wpList _ _ _ _ _ (World.drew _)
          go_wp2_with fail
          go_roundw
          case rel => exact ⟨k + 1, by omega, by go_num, HST.out, gdrewN (grown_setCell HG.out _ rfl _) 1⟩
          case measure => simp [intOf]; omega
        · have hkn : k = n := by omega
          subst hkn
          have HOW : Hid (Own wr w1.heap.size (.slice (some ⟨g, 0, none⟩) (selL true (movML zs ts)).length k) (selL true (movML zs ts))) := Lib.hid (by
            rw [selL_true, HML.out]
            refine ⟨?_, movF_fits HFF.out⟩
            rw [movF_len]
            exact HO.out)
          have HLN : Hid ((selL true (movML zs ts)).length = k) := Lib.hid (by rw [selL_true, HML.out, movF_len])
          replace c0 : wr.cell? ⟨w.heap.size + 1, 0, none⟩ = some (.int .i64 0) := HG.out.cell c0 (by intro e; injection e with e; simp at e; omega)
          replace c1 : wr.cell? ⟨w.heap.size + 1, 1, none⟩ = some (.slice none 0 0) := HG.out.cell c1 (by intro e; injection e with e; simp at e; omega)
          have e1 := HG.out.block (w.heap.size + 1) (by omega) (by intro e; injection e with e; omega)
          replace f0 : wr.frozen? ⟨w.heap.size + 1, 0, none⟩ = false := (frozen_of_block2 (a := ⟨w.heap.size + 1, 0, none⟩) e1).trans f0
          replace f1 : wr.frozen? ⟨w.heap.size + 1, 1, none⟩ = false := (frozen_of_block2 (a := ⟨w.heap.size + 1, 1, none⟩) e1).trans f1
          have HBR := Lib.hid (HBW.out.grown HG.out HBW.out.size (fun q hq => by injection hq with hq; omega))
          clear e1
          go_wp2_with fail
          refine bodyPost_ret (v := .tuple #[.agg #[.int .i64 s, .slice (some ⟨g, 0, none⟩) k k], .bool true]) (by simp [results, Try.results35, go_sem, c0, c1]) rfl ?_
          rw [HN.out]
          refine ⟨some ⟨g, 0, none⟩, k, by rw [HLN.out]; rfl, ?_, (HBR.out.setCell (by show w.heap.size ≤ w.heap.size + 1; omega) _).setCell (by show w.heap.size ≤ w.heap.size + 1; omega) _⟩
          refine Own.low (B := w1.heap.size) ?_ (by omega)
          exact (HOW.out.setAt ⟨w.heap.size + 1, 0, none⟩ (by show w.heap.size + 1 ≠ g; omega) _).setAt ⟨w.heap.size + 1, 1, none⟩ (by show w.heap.size + 1 ≠ g; omega) _
end Go.Proofs.Ytclhogmfnkdcaaa
