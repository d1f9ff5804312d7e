/- Contracts: a mass whose answers are moved. Conditions: as stated. -/
import Derived.Test.YtclhogmfnkdcaaaPlainG
import Derived.Test.YtclhogmfnkdcaaaMl
namespace Go.Proofs.Ytclhogmfnkdcaaa
open Go.RowKit

theorem imgI_range {a : Int} {ts : List Int} : ∀ n, (∀ i, i < n → 0 ≤ ts.getD i 0 ∧ ts.getD i 0 ≤ 3) → 0 ≤ imgI a ts n ∧ imgI a ts n ≤ 15 := by
  intro n
  induction n with
  | zero => intro _; exact ⟨Int.le_refl _, by show (0 : Int) ≤ 15; decide⟩
  | succ n ih =>
    intro h
    have h1 := ih fun i hi => h i (by omega)
    unfold imgI
    split
    · exact addM_range h1 (h n (by omega))
    · exact h1
theorem imgI_nat {ts : List Int} {n k : Nat} (h : ∀ i, i < n → 0 ≤ ts.getD i 0 ∧ ts.getD i 0 ≤ 3) : imgI (k : Int) ts n = ((imgN ts n k : Nat) : Int) := by
  unfold imgN
  have := (imgI_range (a := (k : Int)) n h).1
  omega
theorem movF_fits {zs : List Int} {f : Nat → Nat} {n k : Nat} (h : ∀ i, Fits (zs.getD i 0)) : ∀ x ∈ movF zs f n k, Fits x := by
  induction k with
  | zero =>
    intro x hx
    have := List.eq_of_mem_replicate hx
    subst this
    unfold Fits
    omega
  | succ k ih =>
    intro x hx
    rcases List.mem_or_eq_of_mem_set hx with h1 | h1
    · exact ih x h1
    · rw [h1]; exact h k
theorem frozen_of_block2 {w w' : World} {a : Addr} (h : w'.heap[a.block]? = w.heap[a.block]?) : w'.frozen? a = w.frozen? a := by
  unfold World.frozen?
  rw [h]
set_option maxHeartbeats 1000000 in
theorem mover_c (ts : List Int) (n c g : Nat) (A : Option Addr) (k : Nat) (hk : k ≤ 15) (hn : n ≤ 4) (hz : ∀ i, i < n → 0 ≤ ts.getD i 0 ∧ ts.getD i 0 ≤ 3) (w : World) (hg : w.cell? ⟨g, 0, none⟩ = some (.slice A n c)) (hr : IsRow .i64 w A n c ts) :
    Calls Try.prog 82 #[.int .i64 (k : Int), .pointer (some ⟨g, 0, none⟩)] w fun e w' => e = .returned (.int .i64 ((imgN ts n k : Nat) : Int)) ∧ w = w' := by
  have HZ := Lib.hid hz
  have HE := Lib.hid (imgI_nat (k := k) hz)
  have HR := Lib.hid hr
  clear hz hr
  go_enter Try.func82, Try.ntmps82
  go_wp2_with (go_at_call 83; refine (imageOf_c _ _ _ _ ts (by omega) hn HZ.out _ HR.out).mono ?_; rintro e w' ⟨rfl, rfl⟩)
  go_ret
  exact ⟨ret_int HE.out, rfl⟩
set_option maxHeartbeats 4000000 in
theorem mapped_c (s : Int) (a : Option Addr) (n c : Nat) (zs : List Int) (ts : List Int) (A : Option Addr) (m cm g : Nat) (hm : movMB s zs ts = true) (hl : ts.length = m) (w : World) (ha : IsRow .i64 w a n c zs) (hr : IsRow .i64 w A m cm ts) (hg : w.cell? ⟨g, 0, none⟩ = some (.slice A m cm)) (hgl : g < w.heap.size) :
    Calls Try.prog 81 #[.agg #[.int .i64 s, .slice a n c], .int .i64 s, .func (.func 82) #[] #[.pointer (some ⟨g, 0, none⟩)]] w (MassOk w true s (movML zs ts)) := by
  obtain ⟨i0, hi, hz0, hz1, hz2⟩ := info_parts Try.infoInt
  obtain ⟨m1, m2⟩ := movMB_of hm
  have HM := Lib.hid hm
  have hsr := (massB_of m1).1
  obtain ⟨N, hN, hW, hN2, hN16⟩ := pow_form hsr
  have hnN : n = N := by have h1 := (massB_of m1).2.1; rw [ha.len, hN] at h1; omega
  subst hnN
  obtain ⟨e1, e2⟩ := ordI_range m2
  rw [hl] at e1 e2
  have HZ := Lib.hid (fun i (hi : i < m) => (⟨(e2 i hi).1, by have := (e2 i hi).2; omega⟩ : 0 ≤ ts.getD i 0 ∧ ts.getD i 0 ≤ 3))
  have hm4 : m ≤ 4 := by omega
  have HMV : Hid (Moves (imgN ts m) n) := Lib.hid (by have := mov_moves hm; rw [hl, ha.len] at this; exact this)
  have HR := Lib.hid ha
  have HT := Lib.hid hr
  have HML : Hid (movML zs ts = movF zs (imgN ts m) n n) := Lib.hid (by unfold movML movL; rw [hl, ha.len])
  have HX := Lib.hid (mass_get m1)
  have HFF : Hid (∀ i, Fits (zs.getD i 0)) := Lib.hid (fun i => by have := mass_get m1 i; unfold Fits; omega)
  obtain ⟨s0, s1⟩ := hsr
  clear ha hr m1 m2 e1 e2 hm hN hl
  go_enter Try.func81, Try.ntmps81
  go_wp2_with (at_make; rw [hW]; refine wpList_make_full _ rfl _ _ 23 rfl (w.heap.size + 2) 3 i0 (.int .i64 0) 1 Try.underlying23 hi hz0 hz1 _ _ _ _ n rfl rfl rfl rfl ?b2 ?b3 ?b4 ?_)
  case b4 => simp
  case b2 => rw [hz2]; omega
  case b3 => unfold maxLen; omega
  intro w1 hown1 hgrow1
  have hb1 : Below (w.heap.size + 2) ((w.alloc (.cells #[.int .i64 s, .slice a n c] 25)).alloc (.cells #[.int .i64 0, .slice none 0 0] 25)) w1 := by
    have := (Below.refl ((w.alloc (.cells #[.int .i64 s, .slice a n c] 25)).alloc (.cells #[.int .i64 0, .slice none 0 0] 25)).heap.size ((w.alloc (.cells #[.int .i64 s, .slice a n c] 25)).alloc (.cells #[.int .i64 0, .slice none 0 0] 25))).grown hgrow1 (Nat.le_refl _) (fun k h => by cases h)
    simpa using this
  rw [toList_madeCells_one] at hown1
  replace hown1 : w1.ownsRow (w.heap.size + 2) 3 1 (.slice (some ⟨w.heap.size + 2, 0, none⟩) n n) n ((movF zs (imgN ts m) n 0).map (Value.int .i64)) := by rw [movF, List.map_replicate]; simpa using hown1
  have c0 : w1.cell? ⟨w.heap.size + 1, 0, none⟩ = some (.int .i64 0) := (hb1.cell (by show w.heap.size + 1 < _; omega)).trans (by go_simp)
  have c1 : w1.cell? ⟨w.heap.size + 1, 1, none⟩ = some (.slice none 0 0) := (hb1.cell (by show w.heap.size + 1 < _; omega)).trans (by go_simp)
  have f0 : w1.frozen? ⟨w.heap.size + 1, 0, none⟩ = false := (hb1.frozen (by show w.heap.size + 1 < _; omega)).trans (by go_simp)
  have f1 : w1.frozen? ⟨w.heap.size + 1, 1, none⟩ = false := (hb1.frozen (by show w.heap.size + 1 < _; omega)).trans (by go_simp)
  have k1 : w1.cell? ⟨w.heap.size, 1, none⟩ = some (.slice a n c) := (hb1.cell (by show w.heap.size < _; omega)).trans (by go_simp)
  have HBW : Hid (Below w.heap.size w w1) := Lib.hid ((((Below.refl w.heap.size w).alloc (Nat.le_refl _) _).alloc (by simp) _).trans (hb1.mono (by omega)))
  have kg : w1.cell? ⟨g, 0, none⟩ = some (.slice A m cm) := (HBW.out.cell (p := ⟨g, 0, none⟩) hgl).trans hg
  have hg1 : w.heap.size + 2 < w1.heap.size := (hown1.lt (w.heap.size + 2) rfl).2
  have HR1 := Lib.hid (HR.out.below HBW.out)
  have HT1 := Lib.hid (HT.out.below HBW.out)
  have HLR := Lib.hid HR1.out.lowAt
  have HLR0 := Lib.hid HR.out.lowAt
  have HOWN1 := Lib.hid hown1
  clear hown1 hgrow1 hb1 hW hg hz2 hz1 hz0 hi
  go_wp2_with fail
  go_loopw [17] (fun i wr => ∃ k : Nat, k ≤ n ∧ i = .int .i64 k ∧ wr.ownsRow (w.heap.size + 2) 3 1 (.slice (some ⟨w.heap.size + 2, 0, none⟩) n n) n ((movF zs (imgN ts m) n k).map (Value.int .i64)) ∧ w1.grownBy wr (some (w.heap.size + 2))) (fun i _ => n - (intOf i).toNat)
  case atStart => exact ⟨0, Nat.zero_le _, rfl, HOWN1.out, World.grownBy.refl _ _⟩
  case round =>
    obtain ⟨k, hk, rfl, hown, hgr⟩ := hrel
    have HG := Lib.hid hgr
    have HO := Lib.hid hown
    have HR2 := Lib.hid (HR1.out.grown hgr (fun hp b o e e2 => by have h1 := HLR0.out hp b o e; injection e2 with e2; omega))
    have HT2 := Lib.hid (HT1.out.grown hgr (fun hp b o e e2 => by have h1 := HT.out.lowAt hp b o e; injection e2 with e2; omega))
    replace kg : wr.cell? ⟨g, 0, none⟩ = some (.slice A m cm) := hgr.cell kg (by intro e; injection e with e; simp at e; omega)
    clear hown hgr
    by_cases hlt : k < n
    · obtain ⟨b1, o1, rfl, hbl, h1⟩ := HR2.out.at_ (by omega)
      have g1 := h1 k hlt
      obtain ⟨x0, x1⟩ := HX.out k
      have hfl := HMV.out.lt hlt
      have hfr := movF_free (zs := zs) HMV.out hlt
      have hc := own_cell (k := imgN ts m k) HO.out hfl (movF_len _ _ _ _)
      rw [hfr] at hc
      have hfz := HO.out.frozenAt (imgN ts m k)
      have HMK : Hid (movF zs (imgN ts m) n (k + 1) = (movF zs (imgN ts m) n k).set (imgN ts m k) (zs.getD k 0)) := Lib.hid rfl
      clear h1 hfr
      have HJ15 := Lib.hid (show k ≤ 15 by omega)
      have hst := own_store (k := imgN ts m k) (v := zs.getD k 0) HO.out
      rw [← HMK.out] at hst
      have HST := Lib.hid hst
      have hjn : ((imgN ts m k : Nat) : Int) < (n : Int) := by omega
      clear hst
      obtain ⟨x, hx⟩ : ∃ x, x = zs.getD k 0 := ⟨_, rfl⟩
      rw [← hx] at g1 HST x0 x1
      clear hx
      have HCL := Lib.hid (fun w' => mover_c ts m cm g A k HJ15.out hm4 HZ.out w')
      obtain ⟨j, hj⟩ : ∃ j, j = imgN ts m k := ⟨_, rfl⟩
      rw [← hj] at hc hfz hjn HST HCL hfl
      clear hj
      go_wp2_with (go_at_call 82; refine (HCL.out _ kg HT2.out).mono ?_; rintro e w' ⟨rfl, rfl⟩)
      go_roundw
      case rel => exact ⟨k + 1, by omega, by go_num, HST.out, grown_setCell HG.out _ rfl _⟩
      case measure => simp [intOf]; omega
    · have hkn : k = n := by omega
      subst hkn
      have HOW : Hid (Own wr (w.heap.size + 2) (.slice (some ⟨w.heap.size + 2, 0, none⟩) k k) (movML zs ts)) := Lib.hid (by
        rw [HML.out]
        refine ⟨?_, movF_fits HFF.out⟩
        rw [movF_len]
        exact HO.out)
      have HMS := Lib.hid (mov_mass HM.out)
      have HSF := Lib.hid (made_self HMS.out)
      have HNN := Lib.hid (nns_of_parts (massB_of HMS.out).2.2.1 (by omega))
      have hzr : w.heap.size + 2 < wr.heap.size := (HO.out.lt (w.heap.size + 2) rfl).2
      have hzr1 : w.heap.size + 1 < wr.heap.size := by omega
      replace c0 : wr.cell? ⟨w.heap.size + 1, 0, none⟩ = some (.int .i64 0) := HG.out.cell c0 (by intro e; injection e with e; simp at e; try omega)
      replace c1 : wr.cell? ⟨w.heap.size + 1, 1, none⟩ = some (.slice none 0 0) := HG.out.cell c1 (by intro e; injection e with e; simp at e; try omega)
      have e1 := HG.out.block (w.heap.size + 1) (by omega) (by intro e; injection e with e; omega)
      replace f0 : wr.frozen? ⟨w.heap.size + 1, 0, none⟩ = false := (frozen_of_block2 (a := ⟨w.heap.size + 1, 0, none⟩) e1).trans f0
      replace f1 : wr.frozen? ⟨w.heap.size + 1, 1, none⟩ = false := (frozen_of_block2 (a := ⟨w.heap.size + 1, 1, none⟩) e1).trans f1
      have HBR := Lib.hid (HBW.out.grown HG.out HBW.out.size (fun q hq => by injection hq with hq; omega))
      clear e1 kg k1
      go_wp2_with fail
      refine (makeMass_c _ _ _ _ (movML zs ts) HNN.out hN16 _ HOW.out.rowAt).mono ?_
      rintro e w5 ⟨B, C', rfl, ho, hb⟩
      rw [HSF.out.1, HSF.out.2] at ho ⊢
      replace c0 := (hb.cell (p := ⟨w.heap.size + 1, 0, none⟩) hzr1).trans c0
      replace c1 := (hb.cell (p := ⟨w.heap.size + 1, 1, none⟩) hzr1).trans c1
      replace f0 := (hb.frozen (p := ⟨w.heap.size + 1, 0, none⟩) hzr1).trans f0
      replace f1 := (hb.frozen (p := ⟨w.heap.size + 1, 1, none⟩) hzr1).trans f1
      have HO5 : Hid (Own w5 (w.heap.size + 2) (.slice B (selL true (movML zs ts)).length C') (selL true (movML zs ts))) := Lib.hid (ho.low (by omega))
      have HB5 : Hid (Below w.heap.size w w5) := Lib.hid (HBR.out.trans (hb.mono HBR.out.size))
      clear ho hb
      go_wp2_with fail
      refine bodyPost_ret (v := .tuple #[.agg #[.int .i64 (sel true s), .slice B (selL true (movML zs ts)).length C'], .bool true]) (by simp [results, Try.results81, go_sem, c0, c1]) rfl ?_
      refine ⟨B, C', rfl, ?_, (HB5.out.setCell (by show w.heap.size ≤ w.heap.size + 1; omega) _).setCell (by show w.heap.size ≤ w.heap.size + 1; omega) _⟩
      refine Own.low (B := w.heap.size + 2) ?_ (by omega)
      exact (HO5.out.set ⟨w.heap.size + 1, 0, none⟩ (fun g hg => by have h1 := (HO5.out.lt g hg).1; show g ≠ w.heap.size + 1; omega) _).set ⟨w.heap.size + 1, 1, none⟩ (fun g hg => by have h1 := (HO5.out.lt g hg).1; show g ≠ w.heap.size + 1; omega) _
end Go.Proofs.Ytclhogmfnkdcaaa
