/- Contracts: a mass that supports one set by a fraction. Conditions: as stated. -/
import Derived.Test.YtemollfejgmlcaaMk
import Derived.Test.YtemollfejgmlcaaPlainF
import Derived.StillTailTactics
namespace Go.Proofs.Ytemollfejgmlcaa
open Go.RowKit

theorem simB_no1 {s a p q : Int} (h : validB s a = false) : simB s a p q = false := by simp [simB, h]
theorem simB_no2 {s a p q : Int} (h : shB p q = false) : simB s a p q = false := by simp [simB, h]
theorem simB_yes {s a p q : Int} (h1 : validB s a = true) (h2 : shB p q = true) : simB s a p q = madeB s (simZ s a p q) := by simp [simB, h1, h2]
theorem simZ_form {s : Int} {M A : Nat} {p q : Int} (h : (2 : Int) ^ s.toNat = ((M + 1 : Nat) : Int)) : simZ s (A : Int) p q = simL (M + 1) A p q := by
  unfold simZ
  rw [h, Int.toNat_natCast, Int.toNat_natCast]
theorem calls_flip {P : Program} {f : FuncId} {args : Array Value} {W : World} {v : Value}
    (h : Calls P f args W fun e w' => e = .returned v ∧ W = w') : Calls P f args W fun e w' => e = .returned v ∧ w' = W := h.mono fun _ _ ⟨he, hm⟩ => ⟨he, hm.symm⟩
/-- A store into an owned row. -/
theorem own_store {w : World} {B g N : Nat} {xs : List Int} {k : Nat} {v : Int} (h : w.ownsRow B 3 1 (.slice (some ⟨g, 0, none⟩) N N) N (xs.map (Value.int .i64))) :
    (w.setCell ⟨g, k, none⟩ (.int .i64 v)).ownsRow B 3 1 (.slice (some ⟨g, 0, none⟩) N N) N ((xs.set k v).map (Value.int .i64)) := by
  have := (h.stored k (.int .i64 v)).1
  rwa [← List.map_set] at this
theorem own_cell {w : World} {B g N : Nat} {xs : List Int} {k : Nat} (h : w.ownsRow B 3 1 (.slice (some ⟨g, 0, none⟩) N N) N (xs.map (Value.int .i64))) (hk : k < N) (hx : xs.length = N) :
    w.cell? ⟨g, k, none⟩ = some (.int .i64 (xs.getD k 0)) := by
  have := h.cellAt k (by omega)
  rw [this, List.getElem?_map, List.getElem?_eq_getElem (by omega), List.getD_eq_getElem?_getD, List.getElem?_eq_getElem (by omega)]
  rfl
set_option maxRecDepth 100000 in
set_option maxHeartbeats 4000000 in
theorem impl_SimpleMass_c (s a p q : Int) (w : World) : Calls Try.prog 32 #[.int .i64 s, .int .i64 a, .agg #[.int .i64 p, .int .i64 q]] w (MassOk w (simB s a p q) s (madeL (simZ s a p q))) := by
  rcases hs : sizeB s with _ | _
  · have HN : Hid (simB s a p q = false) := Lib.hid (simB_no1 (by simp [validB, hs]))
    go_enter Try.func32, Try.ntmps32
    go_wp2_with (go_at_call 54; refine (isSize_c _ _).mono ?_; rintro e w' ⟨rfl, rfl⟩)
    refine bodyPost_ret (v := .tuple #[.agg #[.int .i64 0, .slice none 0 0], .bool false]) (by simp [results, Try.results32, go_sem]) rfl ?_
    rw [HN.out]
    exact ⟨none, 0, rfl, own_nil0 _ _, (by repeat (first | exact Below.refl _ _ | (refine Below.alloc ?_ (by first | (simp <;> omega) | omega) _) | (refine Below.setCell ?_ (by first | exact Nat.le_refl _ | (simp <;> omega) | omega) _)))⟩
  have hsr := sizeB_iff.1 hs
  rcases ht : setB s a with _ | _
  · have HN : Hid (simB s a p q = false) := Lib.hid (simB_no1 (by simp [validB, ht]))
    go_enter Try.func32, Try.ntmps32
    go_wp2_with (first | (go_at_call 54; refine (isSize_c _ _).mono ?_; rintro e w' ⟨rfl, rfl⟩) | (go_at_call 51; refine (isSetOf_c _ _ hsr _).mono ?_; rintro e w' ⟨rfl, rfl⟩))
    refine bodyPost_ret (v := .tuple #[.agg #[.int .i64 0, .slice none 0 0], .bool false]) (by simp [results, Try.results32, go_sem]) rfl ?_
    rw [HN.out]
    exact ⟨none, 0, rfl, own_nil0 _ _, (by repeat (first | exact Below.refl _ _ | (refine Below.alloc ?_ (by first | (simp <;> omega) | omega) _) | (refine Below.setCell ?_ (by first | exact Nat.le_refl _ | (simp <;> omega) | omega) _)))⟩
  have hv : validB s a = true := by simp [validB, hs, ht]
  rcases hh : shB p q with _ | _
  · have HN : Hid (simB s a p q = false) := Lib.hid (simB_no2 hh)
    go_enter Try.func32, Try.ntmps32
    go_wp2_with (first | (go_at_call 54; refine (isSize_c _ _).mono ?_; rintro e w' ⟨rfl, rfl⟩) | (go_at_call 51; refine (isSetOf_c _ _ hsr _).mono ?_; rintro e w' ⟨rfl, rfl⟩))
    refine (isShare_c _ _ _).mono ?_
    rintro e w1 ⟨rfl, hb⟩
    have c0 : w1.cell? ⟨w.heap.size + 1, 0, none⟩ = some (.int .i64 0) := (hb.cell (by simp)).trans (by go_simp)
    have c1 : w1.cell? ⟨w.heap.size + 1, 1, none⟩ = some (.slice none 0 0) := (hb.cell (by simp)).trans (by go_simp)
    have f0 : w1.frozen? ⟨w.heap.size + 1, 0, none⟩ = false := (hb.frozen (by simp)).trans (by go_simp)
    have f1 : w1.frozen? ⟨w.heap.size + 1, 1, none⟩ = false := (hb.frozen (by simp)).trans (by go_simp)
    have k0 : w1.cell? ⟨w.heap.size, 0, none⟩ = some (.int .i64 p) := (hb.cell (by simp <;> omega)).trans (by go_simp)
    have k1 : w1.cell? ⟨w.heap.size, 1, none⟩ = some (.int .i64 q) := (hb.cell (by simp <;> omega)).trans (by go_simp)
    have HB := Lib.hid ((((Below.refl w.heap.size w).alloc (Nat.le_refl _) _).alloc (by simp) _).trans (hb.mono (by simp <;> omega)))
    have hz : w.heap.size + 1 < w1.heap.size := by have := hb.size; simp at this; omega
    have hz0 : w.heap.size < w1.heap.size := by omega
    clear hb
    go_wp2_with fail
    refine bodyPost_ret (v := .tuple #[.agg #[.int .i64 0, .slice none 0 0], .bool false]) (by simp [results, Try.results32, go_sem, c0, c1]) rfl ?_
    rw [HN.out]
    exact ⟨none, 0, rfl, own_nil0 _ _, (by repeat (first | exact HB.out | exact Below.refl _ _ | (refine Below.alloc ?_ (by first | (simp <;> omega) | omega) _) | (refine Below.setCell ?_ (by first | exact Nat.le_refl _ | (simp <;> omega) | omega) _)))⟩
  · have HY := Lib.hid (simB_yes hv hh)
    obtain ⟨hsr2, har⟩ := validB_of hv
    obtain ⟨hp, hq, _⟩ := shB_of hh
    obtain ⟨N, hN, hW, hN2, hN16⟩ := pow_form hsr2
    obtain ⟨M, rfl⟩ : ∃ M, N = M + 1 := ⟨N - 1, by omega⟩
    rw [hN] at har
    obtain ⟨ha0, ha1⟩ := har
    obtain ⟨A, rfl⟩ := Int.eq_ofNat_of_zero_le ha0
    have hAN : A < M + 1 := by omega
    have HZ := Lib.hid (simZ_form (A := A) (p := p) (q := q) hN)
    have HNN := Lib.hid (simL_nns (N := M + 1) (a := A) hh)
    have HNN := HNN.out
    have HFS := Lib.hid (fun w => calls_flip (show Calls Try.prog 73 #[.int .i64 s] w (fun e w' => e = .returned (.int .i64 (M : Int)) ∧ w = w') from by have := fullSet_c s hsr2 w; rw [hN] at this; rwa [show ((M + 1 : Nat) : Int) - 1 = (M : Int) by omega] at this))
    obtain ⟨p0, p1⟩ := hp
    obtain ⟨q0, q1⟩ := hq
    obtain ⟨i0, hi, hz0', hz1, hz2⟩ := info_parts Try.infoInt
    have HNN := Lib.hid HNN
    clear hN
    go_enter Try.func32, Try.ntmps32
    go_wp2_with (first | (go_at_call 54; refine (isSize_c _ _).mono ?_; rintro e w' ⟨rfl, rfl⟩) | (go_at_call 51; refine (isSetOf_c _ _ hsr _).mono ?_; rintro e w' ⟨rfl, rfl⟩))
    refine (isShare_c _ _ _).mono ?_
    rintro e w1 ⟨rfl, hb⟩
    have c0 : w1.cell? ⟨w.heap.size + 1, 0, none⟩ = some (.int .i64 0) := (hb.cell (by simp)).trans (by go_simp)
    have c1 : w1.cell? ⟨w.heap.size + 1, 1, none⟩ = some (.slice none 0 0) := (hb.cell (by simp)).trans (by go_simp)
    have f0 : w1.frozen? ⟨w.heap.size + 1, 0, none⟩ = false := (hb.frozen (by simp)).trans (by go_simp)
    have f1 : w1.frozen? ⟨w.heap.size + 1, 1, none⟩ = false := (hb.frozen (by simp)).trans (by go_simp)
    have k0 : w1.cell? ⟨w.heap.size, 0, none⟩ = some (.int .i64 p) := (hb.cell (by simp <;> omega)).trans (by go_simp)
    have k1 : w1.cell? ⟨w.heap.size, 1, none⟩ = some (.int .i64 q) := (hb.cell (by simp <;> omega)).trans (by go_simp)
    have HB := Lib.hid ((((Below.refl w.heap.size w).alloc (Nat.le_refl _) _).alloc (by simp) _).trans (hb.mono (by simp <;> omega)))
    have hz : w.heap.size + 1 < w1.heap.size := by have := hb.size; simp at this; omega
    have hz0 : w.heap.size < w1.heap.size := by omega
    clear hb
    go_wp2_with (at_make; rw [hW]; refine wpList_make_full _ rfl _ _ 23 rfl w1.heap.size 3 i0 (.int .i64 0) 1 Try.underlying23 hi hz0' hz1 _ _ _ _ (M + 1) rfl rfl rfl rfl ?b2 ?b3 (Nat.le_refl _) ?_)
    case b2 => rw [hz2]; omega
    case b3 => unfold maxLen; omega
    intro w2 hown2 hgrow2
    have hb2 : Below w1.heap.size w1 w2 := (Below.refl _ _).grown hgrow2 (Nat.le_refl _) (fun k h => by cases h)
    rw [toList_madeCells_one] at hown2
    replace hown2 : w2.ownsRow w1.heap.size 3 1 (.slice (some ⟨w1.heap.size, 0, none⟩) (M + 1) (M + 1)) (M + 1) ((List.replicate (M + 1) (0 : Int)).map (Value.int .i64)) := by rw [List.map_replicate]; exact hown2
    replace c0 := (hb2.cell (p := ⟨w.heap.size + 1, 0, none⟩) hz).trans c0
    replace c1 := (hb2.cell (p := ⟨w.heap.size + 1, 1, none⟩) hz).trans c1
    replace f0 := (hb2.frozen (p := ⟨w.heap.size + 1, 0, none⟩) hz).trans f0
    replace f1 := (hb2.frozen (p := ⟨w.heap.size + 1, 1, none⟩) hz).trans f1
    replace k0 := (hb2.cell (p := ⟨w.heap.size, 0, none⟩) hz0).trans k0
    replace k1 := (hb2.cell (p := ⟨w.heap.size, 1, none⟩) hz0).trans k1
    have hg2 : w1.heap.size < w2.heap.size := (hown2.lt w1.heap.size rfl).2
    have HB2 := Lib.hid (HB.out.trans (hb2.mono (by omega)))
    clear hb2 hgrow2 hW hz2 hz1 hz0' hi
    have hc := own_cell (k := A) hown2 (by omega) (by simp)
    rw [getD_replicate] at hc
    have hfz := hown2.frozenAt A
    have hst := own_store (k := A) (v := p) hown2
    have HST := Lib.hid hst
    clear hst hown2
    have hMi : (M : Int) < ((M + 1 : Nat) : Int) := by omega
    have hM0 : (0 : Int) ≤ (M : Int) := by omega
    have hMi2 : (M : Int) < (M : Int) + 1 := by omega
    have hAi2 : (A : Int) < (M : Int) + 1 := by omega
    have hA0 : (0 : Int) ≤ (A : Int) := by omega
    have hqp0 : 0 ≤ q - p := by omega
    have hqw : IntKind.i64.wrap (q - p) = q - p := IntWalk.i64_in _ (by omega)
    have hpw : IntKind.i64.wrap (0 + p) = p := by rw [Int.zero_add]; exact IntWalk.i64_in _ (by omega)
    go_upto_region 4 with fail
    go_still_tail 8, (by kernel_rfl)
    change wpList _ _ _ _ _ (World.drew _)
    obtain ⟨w2d, hd⟩ : ∃ x, x = w2.drew := ⟨_, rfl⟩
    rw [← hd]
    replace c0 : w2d.cell? ⟨w.heap.size + 1, 0, none⟩ = some (.int .i64 0) := by rw [hd]; exact c0
    replace c1 : w2d.cell? ⟨w.heap.size + 1, 1, none⟩ = some (.slice none 0 0) := by rw [hd]; exact c1
    replace f0 : w2d.frozen? ⟨w.heap.size + 1, 0, none⟩ = false := by rw [hd]; exact f0
    replace f1 : w2d.frozen? ⟨w.heap.size + 1, 1, none⟩ = false := by rw [hd]; exact f1
    replace k0 : w2d.cell? ⟨w.heap.size, 0, none⟩ = some (.int .i64 p) := by rw [hd]; exact k0
    replace k1 : w2d.cell? ⟨w.heap.size, 1, none⟩ = some (.int .i64 q) := by rw [hd]; exact k1
    replace hc : w2d.cell? ⟨w1.heap.size, A, none⟩ = some (.int .i64 0) := by rw [hd]; exact hc
    replace hfz : w2d.frozen? ⟨w1.heap.size, A, none⟩ = false := by rw [hd]; exact hfz
    replace hg2 : w1.heap.size < w2d.heap.size := by rw [hd]; exact hg2
    replace HST : Hid ((w2d.setCell ⟨w1.heap.size, A, none⟩ (.int .i64 p)).ownsRow w1.heap.size 3 1 (.slice (some ⟨w1.heap.size, 0, none⟩) (M + 1) (M + 1)) (M + 1) (((List.replicate (M + 1) (0 : Int)).set A p).map (Value.int .i64))) := Lib.hid (by rw [hd]; exact HST.out)
    replace HB2 : Hid (Below w.heap.size w w2d) := Lib.hid (by rw [hd]; exact HB2.out.drew)
    clear hd
    go_upto_region 5 with fail
    have HST2 := HST.out
    generalize hw3 : w2d.setCell ⟨w1.heap.size, A, none⟩ (.int .i64 (p)) = w3 at *
    replace c0 : w3.cell? ⟨w.heap.size + 1, 0, none⟩ = some (.int .i64 0) := by rw [← hw3]; exact (World.cell?_setCell_other _ _ _ _ (by intro e; injection e; omega)).trans c0
    replace c1 : w3.cell? ⟨w.heap.size + 1, 1, none⟩ = some (.slice none 0 0) := by rw [← hw3]; exact (World.cell?_setCell_other _ _ _ _ (by intro e; injection e; omega)).trans c1
    replace k0 : w3.cell? ⟨w.heap.size, 0, none⟩ = some (.int .i64 p) := by rw [← hw3]; exact (World.cell?_setCell_other _ _ _ _ (by intro e; injection e; omega)).trans k0
    replace k1 : w3.cell? ⟨w.heap.size, 1, none⟩ = some (.int .i64 q) := by rw [← hw3]; exact (World.cell?_setCell_other _ _ _ _ (by intro e; injection e; omega)).trans k1
    replace f0 : w3.frozen? ⟨w.heap.size + 1, 0, none⟩ = false := by rw [← hw3, World.frozen?_setCell]; assumption
    replace f1 : w3.frozen? ⟨w.heap.size + 1, 1, none⟩ = false := by rw [← hw3, World.frozen?_setCell]; assumption
    have hg3 : w1.heap.size < w3.heap.size := by rw [← hw3]; simpa [World.setCell] using hg2
    have HB3 : Hid (Below w.heap.size w w3) := Lib.hid (by rw [← hw3]; exact HB2.out.setCell (by show w.heap.size ≤ w1.heap.size; omega) _)
    clear HST hc hfz hg2 hw3
    have hc := own_cell (k := M) HST2 (by omega) (by simp)
    have hfz := HST2.frozenAt M
    obtain ⟨y, hy⟩ : ∃ y, y = ((List.replicate (M + 1) (0 : Int)).set A p).getD M 0 := ⟨_, rfl⟩
    rw [← hy] at hc
    have hyr : 0 ≤ y ∧ y ≤ 1000000000 := by
      rw [hy, getD_set (by rw [List.length_replicate]; omega), getD_replicate]
      split <;> omega
    obtain ⟨hy0, hy1⟩ := hyr
    have hyw : IntKind.i64.wrap (y + (q - p)) = y + (q - p) := IntWalk.i64_in _ (by omega)
    have hst2 := own_store (k := M) (v := y + (q - p)) HST2
    have HOWN : Hid (Own (w3.setCell ⟨w1.heap.size, M, none⟩ (.int .i64 (y + (q - p)))) w1.heap.size (.slice (some ⟨w1.heap.size, 0, none⟩) (M + 1) (M + 1)) (simL (M + 1) A p q)) := Lib.hid (by
      have e := sim_impl (p := p) (q := q) hAN
      try rw [Nat.add_sub_cancel] at e
      refine ⟨?_, fun x hx => by have := HNN.out x hx; unfold Fits; omega⟩
      rw [simL_len, ← e, ← hy]
      exact hst2)
    clear hst2 HST2 hy
    refine wp_region_still_tail 12 (by kernel_rfl) (by kernel_rfl) ?_
    simp only [List.take_succ_cons, List.take_zero, List.drop_succ_cons, List.drop_zero]
    still_step
    still_step
    refine wpStill_step (fun K hK => ?_)
    go_simp
    refine ⟨_, HFS.out _, hK _ ?_⟩
    clear hK K
    repeat still_step
    try refine wpStill_nil ?_
    change wpList _ _ _ _ _ (World.drew _)
    go_wp2_with fail
    refine (makeMass_c _ _ _ _ (simL (M + 1) A p q) HNN.out hN16 _ ?hrow).mono ?_
    case hrow => exact HOWN.out.rowAt
    rintro e w5 ⟨B, C, rfl, ho, hb⟩
    replace c0 : w5.cell? ⟨w.heap.size + 1, 0, none⟩ = some (.int .i64 0) := (hb.cell (by show w.heap.size + 1 < _; simp [World.setCell]; omega)).trans (by go_simp)
    replace c1 : w5.cell? ⟨w.heap.size + 1, 1, none⟩ = some (.slice none 0 0) := (hb.cell (by show w.heap.size + 1 < _; simp [World.setCell]; omega)).trans (by go_simp)
    replace f0 : w5.frozen? ⟨w.heap.size + 1, 0, none⟩ = false := (hb.frozen (by show w.heap.size + 1 < _; simp [World.setCell]; omega)).trans (by go_simp)
    replace f1 : w5.frozen? ⟨w.heap.size + 1, 1, none⟩ = false := (hb.frozen (by show w.heap.size + 1 < _; simp [World.setCell]; omega)).trans (by go_simp)
    have HO : Hid (Own w5 w1.heap.size (.slice B (selL (madeB s (simL (M + 1) A p q)) (madeL (simL (M + 1) A p q))).length C) (selL (madeB s (simL (M + 1) A p q)) (madeL (simL (M + 1) A p q)))) := Lib.hid (ho.low (by simp [World.setCell]; omega))
    have HB5 : Hid (Below w.heap.size w w5) := Lib.hid (Below.trans (by repeat (first | exact HB3.out | (refine Below.drew ?_) | (refine Below.setCell ?_ (by show w.heap.size ≤ w1.heap.size; omega) _))) (hb.mono (by simp [World.setCell]; omega)))
    have HN : Hid (simB s (A : Int) p q = madeB s (simL (M + 1) A p q)) := Lib.hid (by rw [HY.out, HZ.out])
    clear ho hb
    go_wp2_with fail
    refine bodyPost_ret (v := .tuple #[.agg #[.int .i64 (sel (madeB s (simL (M + 1) A p q)) s), .slice B (selL (madeB s (simL (M + 1) A p q)) (madeL (simL (M + 1) A p q))).length C], .bool (madeB s (simL (M + 1) A p q))]) (by simp [results, Try.results32, go_sem, c0, c1]) rfl ?_
    rw [HN.out, HZ.out]
    refine ⟨B, C, rfl, ?_, (HB5.out.setCell (Nat.le_succ _) _).setCell (Nat.le_succ _) _⟩
    refine Own.low (B := w1.heap.size) ?_ (by omega)
    exact (HO.out.set ⟨w.heap.size + 1, 0, none⟩ (fun g hg => by have h1 := (HO.out.lt g hg).1; show g ≠ w.heap.size + 1; omega) _).set ⟨w.heap.size + 1, 1, none⟩ (fun g hg => by have h1 := (HO.out.lt g hg).1; show g ≠ w.heap.size + 1; omega) _
set_option maxRecDepth 100000 in
set_option maxHeartbeats 4000000 in
theorem spec_SimpleMass_c (s a p q : Int) (w : World) : Calls Try.prog 33 #[.int .i64 s, .int .i64 a, .agg #[.int .i64 p, .int .i64 q]] w (MassOk w (simB s a p q) s (madeL (simZ s a p q))) := by
  rcases hv : validB s a with _ | _
  · have HN : Hid (simB s a p q = false) := Lib.hid (simB_no1 hv)
    go_enter Try.func33, Try.ntmps33
    go_wp2_with (go_at_call 74; refine (spec_SetValid_c _ _ _).mono ?_; rintro e w' ⟨rfl, rfl⟩)
    refine bodyPost_ret (v := .tuple #[.agg #[.int .i64 0, .slice none 0 0], .bool false]) (by simp [results, Try.results33, go_sem]) rfl ?_
    rw [HN.out]
    exact ⟨none, 0, rfl, own_nil0 _ _, (by repeat (first | exact Below.refl _ _ | (refine Below.alloc ?_ (by first | (simp <;> omega) | omega) _) | (refine Below.setCell ?_ (by first | exact Nat.le_refl _ | (simp <;> omega) | omega) _)))⟩
  rcases hh : shB p q with _ | _
  · have HN : Hid (simB s a p q = false) := Lib.hid (simB_no2 hh)
    go_enter Try.func33, Try.ntmps33
    go_wp2_with (go_at_call 74; refine (spec_SetValid_c _ _ _).mono ?_; rintro e w' ⟨rfl, rfl⟩)
    refine (l3Share_c _ _ _).mono ?_
    rintro e w1 ⟨rfl, hb⟩
    have c0 : w1.cell? ⟨w.heap.size + 1, 0, none⟩ = some (.int .i64 0) := (hb.cell (by simp)).trans (by go_simp)
    have c1 : w1.cell? ⟨w.heap.size + 1, 1, none⟩ = some (.slice none 0 0) := (hb.cell (by simp)).trans (by go_simp)
    have f0 : w1.frozen? ⟨w.heap.size + 1, 0, none⟩ = false := (hb.frozen (by simp)).trans (by go_simp)
    have f1 : w1.frozen? ⟨w.heap.size + 1, 1, none⟩ = false := (hb.frozen (by simp)).trans (by go_simp)
    have k0 : w1.cell? ⟨w.heap.size, 0, none⟩ = some (.int .i64 p) := (hb.cell (by simp <;> omega)).trans (by go_simp)
    have k1 : w1.cell? ⟨w.heap.size, 1, none⟩ = some (.int .i64 q) := (hb.cell (by simp <;> omega)).trans (by go_simp)
    have HB := Lib.hid ((((Below.refl w.heap.size w).alloc (Nat.le_refl _) _).alloc (by simp) _).trans (hb.mono (by simp <;> omega)))
    have hz : w.heap.size + 1 < w1.heap.size := by have := hb.size; simp at this; omega
    have hz0 : w.heap.size < w1.heap.size := by omega
    clear hb
    go_wp2_with fail
    refine bodyPost_ret (v := .tuple #[.agg #[.int .i64 0, .slice none 0 0], .bool false]) (by simp [results, Try.results33, go_sem, c0, c1]) rfl ?_
    rw [HN.out]
    exact ⟨none, 0, rfl, own_nil0 _ _, (by repeat (first | exact HB.out | exact Below.refl _ _ | (refine Below.alloc ?_ (by first | (simp <;> omega) | omega) _) | (refine Below.setCell ?_ (by first | exact Nat.le_refl _ | (simp <;> omega) | omega) _)))⟩
  · have HY := Lib.hid (simB_yes hv hh)
    obtain ⟨hsr2, har⟩ := validB_of hv
    obtain ⟨hp, hq, _⟩ := shB_of hh
    obtain ⟨N, hN, hW, hN2, hN16⟩ := pow_form hsr2
    obtain ⟨M, rfl⟩ : ∃ M, N = M + 1 := ⟨N - 1, by omega⟩
    rw [hN] at har
    obtain ⟨ha0, ha1⟩ := har
    obtain ⟨A, rfl⟩ := Int.eq_ofNat_of_zero_le ha0
    have hAN : A < M + 1 := by omega
    have HZ := Lib.hid (simZ_form (A := A) (p := p) (q := q) hN)
    have HNN := Lib.hid (simL_nns (N := M + 1) (a := A) hh)
    have HNN := HNN.out
    obtain ⟨p0, p1⟩ := hp
    obtain ⟨q0, q1⟩ := hq
    obtain ⟨i0, hi, hz0', hz1, hz2⟩ := info_parts Try.infoInt
    have HNN := Lib.hid HNN
    clear hN
    go_enter Try.func33, Try.ntmps33
    go_wp2_with (go_at_call 74; refine (spec_SetValid_c _ _ _).mono ?_; rintro e w' ⟨rfl, rfl⟩)
    refine (l3Share_c _ _ _).mono ?_
    rintro e w1 ⟨rfl, hb⟩
    have c0 : w1.cell? ⟨w.heap.size + 1, 0, none⟩ = some (.int .i64 0) := (hb.cell (by simp)).trans (by go_simp)
    have c1 : w1.cell? ⟨w.heap.size + 1, 1, none⟩ = some (.slice none 0 0) := (hb.cell (by simp)).trans (by go_simp)
    have f0 : w1.frozen? ⟨w.heap.size + 1, 0, none⟩ = false := (hb.frozen (by simp)).trans (by go_simp)
    have f1 : w1.frozen? ⟨w.heap.size + 1, 1, none⟩ = false := (hb.frozen (by simp)).trans (by go_simp)
    have k0 : w1.cell? ⟨w.heap.size, 0, none⟩ = some (.int .i64 p) := (hb.cell (by simp <;> omega)).trans (by go_simp)
    have k1 : w1.cell? ⟨w.heap.size, 1, none⟩ = some (.int .i64 q) := (hb.cell (by simp <;> omega)).trans (by go_simp)
    have HB := Lib.hid ((((Below.refl w.heap.size w).alloc (Nat.le_refl _) _).alloc (by simp) _).trans (hb.mono (by simp <;> omega)))
    have hz : w.heap.size + 1 < w1.heap.size := by have := hb.size; simp at this; omega
    have hz0 : w.heap.size < w1.heap.size := by omega
    clear hb
    go_wp2_with (at_make; rw [hW]; refine wpList_make_full _ rfl _ _ 23 rfl w1.heap.size 3 i0 (.int .i64 0) 1 Try.underlying23 hi hz0' hz1 _ _ _ _ (M + 1) rfl rfl rfl rfl ?b2 ?b3 (Nat.le_refl _) ?_)
    case b2 => rw [hz2]; omega
    case b3 => unfold maxLen; omega
    intro w2 hown2 hgrow2
    have hb2 : Below w1.heap.size w1 w2 := (Below.refl _ _).grown hgrow2 (Nat.le_refl _) (fun k h => by cases h)
    rw [toList_madeCells_one] at hown2
    replace hown2 : w2.ownsRow w1.heap.size 3 1 (.slice (some ⟨w1.heap.size, 0, none⟩) (M + 1) (M + 1)) (M + 1) ((List.replicate (M + 1) (0 : Int)).map (Value.int .i64)) := by rw [List.map_replicate]; exact hown2
    replace c0 := (hb2.cell (p := ⟨w.heap.size + 1, 0, none⟩) hz).trans c0
    replace c1 := (hb2.cell (p := ⟨w.heap.size + 1, 1, none⟩) hz).trans c1
    replace f0 := (hb2.frozen (p := ⟨w.heap.size + 1, 0, none⟩) hz).trans f0
    replace f1 := (hb2.frozen (p := ⟨w.heap.size + 1, 1, none⟩) hz).trans f1
    replace k0 := (hb2.cell (p := ⟨w.heap.size, 0, none⟩) hz0).trans k0
    replace k1 := (hb2.cell (p := ⟨w.heap.size, 1, none⟩) hz0).trans k1
    have hg2 : w1.heap.size < w2.heap.size := (hown2.lt w1.heap.size rfl).2
    have HB2 := Lib.hid (HB.out.trans (hb2.mono (by omega)))
    clear hb2 hgrow2 hW hz2 hz1 hz0' hi
    have hc := own_cell (k := M) hown2 (by omega) (by simp)
    rw [getD_replicate] at hc
    have hfz := hown2.frozenAt M
    have hst := own_store (k := M) (v := q - p) hown2
    have HST := Lib.hid hst
    clear hst hown2
    have hMi : (M : Int) < ((M + 1 : Nat) : Int) := by omega
    have hM0 : (0 : Int) ≤ (M : Int) := by omega
    have hMi2 : (M : Int) < (M : Int) + 1 := by omega
    have hAi2 : (A : Int) < (M : Int) + 1 := by omega
    have hA0 : (0 : Int) ≤ (A : Int) := by omega
    have hqp0 : 0 ≤ q - p := by omega
    have hqw : IntKind.i64.wrap (q - p) = q - p := IntWalk.i64_in _ (by omega)
    have hpw : IntKind.i64.wrap (0 + p) = p := by rw [Int.zero_add]; exact IntWalk.i64_in _ (by omega)
    go_upto_region 5 with fail
    have HST2 := HST.out
    generalize hw3 : w2.setCell ⟨w1.heap.size, M, none⟩ (.int .i64 (q - p)) = w3 at *
    replace c0 : w3.cell? ⟨w.heap.size + 1, 0, none⟩ = some (.int .i64 0) := by rw [← hw3]; exact (World.cell?_setCell_other _ _ _ _ (by intro e; injection e; omega)).trans c0
    replace c1 : w3.cell? ⟨w.heap.size + 1, 1, none⟩ = some (.slice none 0 0) := by rw [← hw3]; exact (World.cell?_setCell_other _ _ _ _ (by intro e; injection e; omega)).trans c1
    replace k0 : w3.cell? ⟨w.heap.size, 0, none⟩ = some (.int .i64 p) := by rw [← hw3]; exact (World.cell?_setCell_other _ _ _ _ (by intro e; injection e; omega)).trans k0
    replace k1 : w3.cell? ⟨w.heap.size, 1, none⟩ = some (.int .i64 q) := by rw [← hw3]; exact (World.cell?_setCell_other _ _ _ _ (by intro e; injection e; omega)).trans k1
    replace f0 : w3.frozen? ⟨w.heap.size + 1, 0, none⟩ = false := by rw [← hw3, World.frozen?_setCell]; assumption
    replace f1 : w3.frozen? ⟨w.heap.size + 1, 1, none⟩ = false := by rw [← hw3, World.frozen?_setCell]; assumption
    have hg3 : w1.heap.size < w3.heap.size := by rw [← hw3]; simpa [World.setCell] using hg2
    have HB3 : Hid (Below w.heap.size w w3) := Lib.hid (by rw [← hw3]; exact HB2.out.setCell (by show w.heap.size ≤ w1.heap.size; omega) _)
    clear HST hc hfz hg2 hw3
    have hc := own_cell (k := A) HST2 (by omega) (by simp)
    have hfz := HST2.frozenAt A
    obtain ⟨y, hy⟩ : ∃ y, y = ((List.replicate (M + 1) (0 : Int)).set M (q - p)).getD A 0 := ⟨_, rfl⟩
    rw [← hy] at hc
    have hyr : 0 ≤ y ∧ y ≤ 1000000000 := by
      rw [hy, getD_set (by rw [List.length_replicate]; omega), getD_replicate]
      split <;> omega
    obtain ⟨hy0, hy1⟩ := hyr
    have hyw : IntKind.i64.wrap (y + p) = y + p := IntWalk.i64_in _ (by omega)
    have hst2 := own_store (k := A) (v := y + p) HST2
    have HOWN : Hid (Own (w3.setCell ⟨w1.heap.size, A, none⟩ (.int .i64 (y + p))) w1.heap.size (.slice (some ⟨w1.heap.size, 0, none⟩) (M + 1) (M + 1)) (simL (M + 1) A p q)) := Lib.hid (by
      have e := sim_spec (p := p) (q := q) hAN
      try rw [Nat.add_sub_cancel] at e
      refine ⟨?_, fun x hx => by have := HNN.out x hx; unfold Fits; omega⟩
      rw [simL_len, ← e, ← hy]
      exact hst2)
    clear hst2 HST2 hy
    go_still_tail 10, (by kernel_rfl)
    change wpList _ _ _ _ _ (World.drew _)
    go_wp2_with fail
    refine (l3Made_c _ _ _ _ (simL (M + 1) A p q) HNN.out hN16 _ ?hrow).mono ?_
    case hrow => exact HOWN.out.rowAt
    rintro e w5 ⟨B, C, rfl, ho, hb⟩
    replace c0 : w5.cell? ⟨w.heap.size + 1, 0, none⟩ = some (.int .i64 0) := (hb.cell (by show w.heap.size + 1 < _; simp [World.setCell]; omega)).trans (by go_simp)
    replace c1 : w5.cell? ⟨w.heap.size + 1, 1, none⟩ = some (.slice none 0 0) := (hb.cell (by show w.heap.size + 1 < _; simp [World.setCell]; omega)).trans (by go_simp)
    replace f0 : w5.frozen? ⟨w.heap.size + 1, 0, none⟩ = false := (hb.frozen (by show w.heap.size + 1 < _; simp [World.setCell]; omega)).trans (by go_simp)
    replace f1 : w5.frozen? ⟨w.heap.size + 1, 1, none⟩ = false := (hb.frozen (by show w.heap.size + 1 < _; simp [World.setCell]; omega)).trans (by go_simp)
    have HO : Hid (Own w5 w1.heap.size (.slice B (selL (madeB s (simL (M + 1) A p q)) (madeL (simL (M + 1) A p q))).length C) (selL (madeB s (simL (M + 1) A p q)) (madeL (simL (M + 1) A p q)))) := Lib.hid (ho.low (by simp [World.setCell]; omega))
    have HB5 : Hid (Below w.heap.size w w5) := Lib.hid (Below.trans (by repeat (first | exact HB3.out | (refine Below.drew ?_) | (refine Below.setCell ?_ (by show w.heap.size ≤ w1.heap.size; omega) _))) (hb.mono (by simp [World.setCell]; omega)))
    have HN : Hid (simB s (A : Int) p q = madeB s (simL (M + 1) A p q)) := Lib.hid (by rw [HY.out, HZ.out])
    clear ho hb
    go_wp2_with fail
    refine bodyPost_ret (v := .tuple #[.agg #[.int .i64 (sel (madeB s (simL (M + 1) A p q)) s), .slice B (selL (madeB s (simL (M + 1) A p q)) (madeL (simL (M + 1) A p q))).length C], .bool (madeB s (simL (M + 1) A p q))]) (by simp [results, Try.results33, go_sem, c0, c1]) rfl ?_
    rw [HN.out, HZ.out]
    refine ⟨B, C, rfl, ?_, (HB5.out.setCell (Nat.le_succ _) _).setCell (Nat.le_succ _) _⟩
    refine Own.low (B := w1.heap.size) ?_ (by omega)
    exact (HO.out.set ⟨w.heap.size + 1, 0, none⟩ (fun g hg => by have h1 := (HO.out.lt g hg).1; show g ≠ w.heap.size + 1; omega) _).set ⟨w.heap.size + 1, 1, none⟩ (fun g hg => by have h1 := (HO.out.lt g hg).1; show g ≠ w.heap.size + 1; omega) _
end Go.Proofs.Ytemollfejgmlcaa
