/- Contracts: the mean of two masses: the reference's. Conditions: as stated. -/
import Derived.Test.YtemollfejgmlcaaMm
import Derived.Deep.AppendLies
namespace Go.Proofs.Ytemollfejgmlcaa
open Go.RowKit

set_option maxRecDepth 100000 in
set_option maxHeartbeats 8000000 in
theorem spec_MixMasses_c (s : Int) (a : Option Addr) (n c : Nat) (zs : List Int) (t : Int) (a' : Option Addr) (n' c' : Nat) (ys : List Int) (p q : Int) (w : World) (ha : IsRow .i64 w a n c zs) (hb : IsRow .i64 w a' n' c' ys) :
    Calls Try.prog 40 #[.agg #[.int .i64 s, .slice a n c], .agg #[.int .i64 t, .slice a' n' c'], .agg #[.int .i64 p, .int .i64 q]] w (MassOk w (mixB s zs t ys p q) s (madeL (mixL p q zs ys))) := by
  have HR := Lib.hid ha
  have HR' := Lib.hid hb
  clear ha hb
  rcases hbo : bothB s zs t ys with _ | _
  · have HN := Lib.hid (mixB_no1 (p := p) (q := q) hbo)
    go_enter Try.func40, Try.ntmps40
    go_wp2_with fail
    refine (l3Both_c _ _ _ _ zs _ _ _ _ ys _ ((((HR.out.alloc _).alloc _).alloc _).alloc _) ((((HR'.out.alloc _).alloc _).alloc _).alloc _)).mono ?_
    rintro e w1 ⟨rfl, hb⟩
    have hz : w.heap.size + 3 < w1.heap.size := by have := hb.size; simp at this; omega
    have km0 : w1.cell? ⟨w.heap.size, 0, none⟩ = some (.int .i64 s) := (hb.cell (by show w.heap.size < _; simp <;> omega)).trans (by go_simp)
    have km1 : w1.cell? ⟨w.heap.size, 1, none⟩ = some (.slice a n c) := (hb.cell (by show w.heap.size < _; simp <;> omega)).trans (by go_simp)
    have kn0 : w1.cell? ⟨w.heap.size + 1, 0, none⟩ = some (.int .i64 t) := (hb.cell (by show w.heap.size + 1 < _; simp <;> omega)).trans (by go_simp)
    have kn1 : w1.cell? ⟨w.heap.size + 1, 1, none⟩ = some (.slice a' n' c') := (hb.cell (by show w.heap.size + 1 < _; simp <;> omega)).trans (by go_simp)
    have kf0 : w1.cell? ⟨w.heap.size + 2, 0, none⟩ = some (.int .i64 p) := (hb.cell (by show w.heap.size + 2 < _; simp <;> omega)).trans (by go_simp)
    have kf1 : w1.cell? ⟨w.heap.size + 2, 1, none⟩ = some (.int .i64 q) := (hb.cell (by show w.heap.size + 2 < _; simp <;> omega)).trans (by go_simp)
    have c0 : w1.cell? ⟨w.heap.size + 3, 0, none⟩ = some (.int .i64 0) := (hb.cell (by show w.heap.size + 3 < _; simp <;> omega)).trans (by go_simp)
    have c1 : w1.cell? ⟨w.heap.size + 3, 1, none⟩ = some (.slice none 0 0) := (hb.cell (by show w.heap.size + 3 < _; simp <;> omega)).trans (by go_simp)
    have f0 : w1.frozen? ⟨w.heap.size + 3, 0, none⟩ = false := (hb.frozen (by show w.heap.size + 3 < _; simp <;> omega)).trans (by go_simp)
    have f1 : w1.frozen? ⟨w.heap.size + 3, 1, none⟩ = false := (hb.frozen (by show w.heap.size + 3 < _; simp <;> omega)).trans (by go_simp)
    have HB := Lib.hid ((((((Below.refl w.heap.size w).alloc (Nat.le_refl _) _).alloc (by simp) _).alloc (by simp <;> omega) _).alloc (by simp <;> omega) _).trans (hb.mono (by simp <;> omega)))
    have HR1 := Lib.hid (((((HR.out.alloc _).alloc _).alloc _).alloc _).below hb)
    have HR1' := Lib.hid (((((HR'.out.alloc _).alloc _).alloc _).alloc _).below hb)
    clear hb
    go_wp2_with fail
    refine bodyPost_ret (v := .tuple #[.agg #[.int .i64 0, .slice none 0 0], .bool false]) (by simp [results, Try.results40, go_sem, c0, c1]) rfl ?_
    rw [HN.out]
    exact ⟨none, 0, rfl, own_nil0 _ _, (by repeat (first | exact HB.out | (refine Below.setCell ?_ (by first | exact Nat.le_refl _ | (simp <;> omega) | omega) _)))⟩
  rcases hh : shB p q with _ | _
  · have HN : Hid (mixB s zs t ys p q = false) := Lib.hid (mixB_no2 hh)
    go_enter Try.func40, Try.ntmps40
    go_wp2_with fail
    refine (l3Both_c _ _ _ _ zs _ _ _ _ ys _ ((((HR.out.alloc _).alloc _).alloc _).alloc _) ((((HR'.out.alloc _).alloc _).alloc _).alloc _)).mono ?_
    rintro e w1 ⟨rfl, hb⟩
    have hz : w.heap.size + 3 < w1.heap.size := by have := hb.size; simp at this; omega
    have km0 : w1.cell? ⟨w.heap.size, 0, none⟩ = some (.int .i64 s) := (hb.cell (by show w.heap.size < _; simp <;> omega)).trans (by go_simp)
    have km1 : w1.cell? ⟨w.heap.size, 1, none⟩ = some (.slice a n c) := (hb.cell (by show w.heap.size < _; simp <;> omega)).trans (by go_simp)
    have kn0 : w1.cell? ⟨w.heap.size + 1, 0, none⟩ = some (.int .i64 t) := (hb.cell (by show w.heap.size + 1 < _; simp <;> omega)).trans (by go_simp)
    have kn1 : w1.cell? ⟨w.heap.size + 1, 1, none⟩ = some (.slice a' n' c') := (hb.cell (by show w.heap.size + 1 < _; simp <;> omega)).trans (by go_simp)
    have kf0 : w1.cell? ⟨w.heap.size + 2, 0, none⟩ = some (.int .i64 p) := (hb.cell (by show w.heap.size + 2 < _; simp <;> omega)).trans (by go_simp)
    have kf1 : w1.cell? ⟨w.heap.size + 2, 1, none⟩ = some (.int .i64 q) := (hb.cell (by show w.heap.size + 2 < _; simp <;> omega)).trans (by go_simp)
    have c0 : w1.cell? ⟨w.heap.size + 3, 0, none⟩ = some (.int .i64 0) := (hb.cell (by show w.heap.size + 3 < _; simp <;> omega)).trans (by go_simp)
    have c1 : w1.cell? ⟨w.heap.size + 3, 1, none⟩ = some (.slice none 0 0) := (hb.cell (by show w.heap.size + 3 < _; simp <;> omega)).trans (by go_simp)
    have f0 : w1.frozen? ⟨w.heap.size + 3, 0, none⟩ = false := (hb.frozen (by show w.heap.size + 3 < _; simp <;> omega)).trans (by go_simp)
    have f1 : w1.frozen? ⟨w.heap.size + 3, 1, none⟩ = false := (hb.frozen (by show w.heap.size + 3 < _; simp <;> omega)).trans (by go_simp)
    have HB := Lib.hid ((((((Below.refl w.heap.size w).alloc (Nat.le_refl _) _).alloc (by simp) _).alloc (by simp <;> omega) _).alloc (by simp <;> omega) _).trans (hb.mono (by simp <;> omega)))
    have HR1 := Lib.hid (((((HR.out.alloc _).alloc _).alloc _).alloc _).below hb)
    have HR1' := Lib.hid (((((HR'.out.alloc _).alloc _).alloc _).alloc _).below hb)
    clear hb
    go_wp2_with fail
    refine (l3Share_c _ _ _).mono ?_
    rintro e w2 ⟨rfl, hb⟩
    replace km0 : w2.cell? ⟨w.heap.size, 0, none⟩ = some (.int .i64 s) := (hb.cell (p := ⟨w.heap.size, 0, none⟩) (by show w.heap.size < _; omega)).trans km0
    replace km1 : w2.cell? ⟨w.heap.size, 1, none⟩ = some (.slice a n c) := (hb.cell (p := ⟨w.heap.size, 1, none⟩) (by show w.heap.size < _; omega)).trans km1
    replace kn0 : w2.cell? ⟨w.heap.size + 1, 0, none⟩ = some (.int .i64 t) := (hb.cell (p := ⟨w.heap.size + 1, 0, none⟩) (by show w.heap.size + 1 < _; omega)).trans kn0
    replace kn1 : w2.cell? ⟨w.heap.size + 1, 1, none⟩ = some (.slice a' n' c') := (hb.cell (p := ⟨w.heap.size + 1, 1, none⟩) (by show w.heap.size + 1 < _; omega)).trans kn1
    replace kf0 : w2.cell? ⟨w.heap.size + 2, 0, none⟩ = some (.int .i64 p) := (hb.cell (p := ⟨w.heap.size + 2, 0, none⟩) (by show w.heap.size + 2 < _; omega)).trans kf0
    replace kf1 : w2.cell? ⟨w.heap.size + 2, 1, none⟩ = some (.int .i64 q) := (hb.cell (p := ⟨w.heap.size + 2, 1, none⟩) (by show w.heap.size + 2 < _; omega)).trans kf1
    replace c0 : w2.cell? ⟨w.heap.size + 3, 0, none⟩ = some (.int .i64 0) := (hb.cell (p := ⟨w.heap.size + 3, 0, none⟩) (by show w.heap.size + 3 < _; omega)).trans c0
    replace c1 : w2.cell? ⟨w.heap.size + 3, 1, none⟩ = some (.slice none 0 0) := (hb.cell (p := ⟨w.heap.size + 3, 1, none⟩) (by show w.heap.size + 3 < _; omega)).trans c1
    replace f0 : w2.frozen? ⟨w.heap.size + 3, 0, none⟩ = false := (hb.frozen (p := ⟨w.heap.size + 3, 0, none⟩) (by show w.heap.size + 3 < _; omega)).trans f0
    replace f1 : w2.frozen? ⟨w.heap.size + 3, 1, none⟩ = false := (hb.frozen (p := ⟨w.heap.size + 3, 1, none⟩) (by show w.heap.size + 3 < _; omega)).trans f1
    replace HB := Lib.hid (HB.out.trans (hb.mono HB.out.size))
    replace HR1 := Lib.hid (HR1.out.below hb)
    replace HR1' := Lib.hid (HR1'.out.below hb)
    replace hz : w.heap.size + 3 < w2.heap.size := Nat.lt_of_lt_of_le hz hb.size
    clear hb
    go_wp2_with fail
    refine bodyPost_ret (v := .tuple #[.agg #[.int .i64 0, .slice none 0 0], .bool false]) (by simp [results, Try.results40, go_sem, c0, c1]) rfl ?_
    rw [HN.out]
    exact ⟨none, 0, rfl, own_nil0 _ _, (by repeat (first | exact HB.out | (refine Below.setCell ?_ (by first | exact Nat.le_refl _ | (simp <;> omega) | omega) _)))⟩
  by_cases hq : q ≤ 1000
  rotate_left
  · have HN : Hid (mixB s zs t ys p q = false) := Lib.hid (mixB_no3 hq)
    have hq2 : 1000 < q := by omega
    go_enter Try.func40, Try.ntmps40
    go_wp2_with fail
    refine (l3Both_c _ _ _ _ zs _ _ _ _ ys _ ((((HR.out.alloc _).alloc _).alloc _).alloc _) ((((HR'.out.alloc _).alloc _).alloc _).alloc _)).mono ?_
    rintro e w1 ⟨rfl, hb⟩
    have hz : w.heap.size + 3 < w1.heap.size := by have := hb.size; simp at this; omega
    have km0 : w1.cell? ⟨w.heap.size, 0, none⟩ = some (.int .i64 s) := (hb.cell (by show w.heap.size < _; simp <;> omega)).trans (by go_simp)
    have km1 : w1.cell? ⟨w.heap.size, 1, none⟩ = some (.slice a n c) := (hb.cell (by show w.heap.size < _; simp <;> omega)).trans (by go_simp)
    have kn0 : w1.cell? ⟨w.heap.size + 1, 0, none⟩ = some (.int .i64 t) := (hb.cell (by show w.heap.size + 1 < _; simp <;> omega)).trans (by go_simp)
    have kn1 : w1.cell? ⟨w.heap.size + 1, 1, none⟩ = some (.slice a' n' c') := (hb.cell (by show w.heap.size + 1 < _; simp <;> omega)).trans (by go_simp)
    have kf0 : w1.cell? ⟨w.heap.size + 2, 0, none⟩ = some (.int .i64 p) := (hb.cell (by show w.heap.size + 2 < _; simp <;> omega)).trans (by go_simp)
    have kf1 : w1.cell? ⟨w.heap.size + 2, 1, none⟩ = some (.int .i64 q) := (hb.cell (by show w.heap.size + 2 < _; simp <;> omega)).trans (by go_simp)
    have c0 : w1.cell? ⟨w.heap.size + 3, 0, none⟩ = some (.int .i64 0) := (hb.cell (by show w.heap.size + 3 < _; simp <;> omega)).trans (by go_simp)
    have c1 : w1.cell? ⟨w.heap.size + 3, 1, none⟩ = some (.slice none 0 0) := (hb.cell (by show w.heap.size + 3 < _; simp <;> omega)).trans (by go_simp)
    have f0 : w1.frozen? ⟨w.heap.size + 3, 0, none⟩ = false := (hb.frozen (by show w.heap.size + 3 < _; simp <;> omega)).trans (by go_simp)
    have f1 : w1.frozen? ⟨w.heap.size + 3, 1, none⟩ = false := (hb.frozen (by show w.heap.size + 3 < _; simp <;> omega)).trans (by go_simp)
    have HB := Lib.hid ((((((Below.refl w.heap.size w).alloc (Nat.le_refl _) _).alloc (by simp) _).alloc (by simp <;> omega) _).alloc (by simp <;> omega) _).trans (hb.mono (by simp <;> omega)))
    have HR1 := Lib.hid (((((HR.out.alloc _).alloc _).alloc _).alloc _).below hb)
    have HR1' := Lib.hid (((((HR'.out.alloc _).alloc _).alloc _).alloc _).below hb)
    clear hb
    go_wp2_with fail
    refine (l3Share_c _ _ _).mono ?_
    rintro e w2 ⟨rfl, hb⟩
    replace km0 : w2.cell? ⟨w.heap.size, 0, none⟩ = some (.int .i64 s) := (hb.cell (p := ⟨w.heap.size, 0, none⟩) (by show w.heap.size < _; omega)).trans km0
    replace km1 : w2.cell? ⟨w.heap.size, 1, none⟩ = some (.slice a n c) := (hb.cell (p := ⟨w.heap.size, 1, none⟩) (by show w.heap.size < _; omega)).trans km1
    replace kn0 : w2.cell? ⟨w.heap.size + 1, 0, none⟩ = some (.int .i64 t) := (hb.cell (p := ⟨w.heap.size + 1, 0, none⟩) (by show w.heap.size + 1 < _; omega)).trans kn0
    replace kn1 : w2.cell? ⟨w.heap.size + 1, 1, none⟩ = some (.slice a' n' c') := (hb.cell (p := ⟨w.heap.size + 1, 1, none⟩) (by show w.heap.size + 1 < _; omega)).trans kn1
    replace kf0 : w2.cell? ⟨w.heap.size + 2, 0, none⟩ = some (.int .i64 p) := (hb.cell (p := ⟨w.heap.size + 2, 0, none⟩) (by show w.heap.size + 2 < _; omega)).trans kf0
    replace kf1 : w2.cell? ⟨w.heap.size + 2, 1, none⟩ = some (.int .i64 q) := (hb.cell (p := ⟨w.heap.size + 2, 1, none⟩) (by show w.heap.size + 2 < _; omega)).trans kf1
    replace c0 : w2.cell? ⟨w.heap.size + 3, 0, none⟩ = some (.int .i64 0) := (hb.cell (p := ⟨w.heap.size + 3, 0, none⟩) (by show w.heap.size + 3 < _; omega)).trans c0
    replace c1 : w2.cell? ⟨w.heap.size + 3, 1, none⟩ = some (.slice none 0 0) := (hb.cell (p := ⟨w.heap.size + 3, 1, none⟩) (by show w.heap.size + 3 < _; omega)).trans c1
    replace f0 : w2.frozen? ⟨w.heap.size + 3, 0, none⟩ = false := (hb.frozen (p := ⟨w.heap.size + 3, 0, none⟩) (by show w.heap.size + 3 < _; omega)).trans f0
    replace f1 : w2.frozen? ⟨w.heap.size + 3, 1, none⟩ = false := (hb.frozen (p := ⟨w.heap.size + 3, 1, none⟩) (by show w.heap.size + 3 < _; omega)).trans f1
    replace HB := Lib.hid (HB.out.trans (hb.mono HB.out.size))
    replace HR1 := Lib.hid (HR1.out.below hb)
    replace HR1' := Lib.hid (HR1'.out.below hb)
    replace hz : w.heap.size + 3 < w2.heap.size := Nat.lt_of_lt_of_le hz hb.size
    clear hb
    go_wp2_with fail
    refine bodyPost_ret (v := .tuple #[.agg #[.int .i64 0, .slice none 0 0], .bool false]) (by simp [results, Try.results40, go_sem, c0, c1]) rfl ?_
    rw [HN.out]
    exact ⟨none, 0, rfl, own_nil0 _ _, (by repeat (first | exact HB.out | (refine Below.setCell ?_ (by first | exact Nat.le_refl _ | (simp <;> omega) | omega) _)))⟩
  · have HY := Lib.hid (mixB_yes hbo hh hq)
    obtain ⟨m1, m2, hst⟩ := bothB_of hbo
    have HM1 := Lib.hid m1
    have HM2 := Lib.hid m2
    obtain ⟨hp, hq1, _⟩ := shB_of hh
    have hW1 := (massB_of m1).2.2.2.1
    have hW2 := (massB_of m2).2.2.2.1
    have HP1 := Lib.hid (parts_more (massB_of m1).2.2.1)
    have HP2 := Lib.hid (parts_more (massB_of m2).2.2.1)
    have HNN := Lib.hid (mixL_nns m1 m2 hh hq)
    have hl1 := massB_len m1
    have hl2 := massB_len m2
    have hll : ys.length = zs.length := by
      have e1 := (massB_of m1).2.1
      have e2 := (massB_of m2).2.1
      rw [← hst] at e2
      omega
    rw [HR.out.len] at hl1
    have HZL := Lib.hid HR.out.len
    have HNL : Hid (n' = n) := Lib.hid (by have h1 := HR.out.len; have h2 := HR'.out.len; omega)
    have hn'n := HNL.out
    obtain ⟨n2, n16⟩ := hl1
    have n16' : n' ≤ 16 := by omega
    clear m1 m2 hl2 hll
    obtain ⟨V, hV⟩ : ∃ V, V = whole zs := ⟨_, rfl⟩
    obtain ⟨W, hW⟩ : ∃ W, W = whole ys := ⟨_, rfl⟩
    rw [← hV] at hW1
    rw [← hW] at hW2
    have HV := Lib.hid hV
    have HWW := Lib.hid hW
    have HBD := Lib.hid (fun k => mix_bounds (p := p) (q := q) (V := V) (W := W) hp hq (mass_get HM1.out k) (mass_get HM2.out k) ⟨by omega, hW1.2⟩ ⟨by omega, hW2.2⟩)
    have HMG : Hid (∀ k, k < n → (mixL p q zs ys).getD k 0 = p * zs.getD k 0 * W + (q - p) * ys.getD k 0 * V) := Lib.hid (by intro k hk; rw [mixL_get (by rw [HZL.out]; exact hk), ← HV.out, ← HWW.out])
    have hnn : n = n' := hn'n.symm
    clear hn'n
    subst hnn
    clear hV hW HNL hst
    obtain ⟨hp0, hp1⟩ := hp
    obtain ⟨hq0, _⟩ := hq1
    clear hW1 hW2
    obtain ⟨i0, hi, hz0', hz1, hz2⟩ := info_parts Try.infoInt
    go_enter Try.func40, Try.ntmps40
    go_wp2_with fail
    refine (l3Both_c _ _ _ _ zs _ _ _ _ ys _ ((((HR.out.alloc _).alloc _).alloc _).alloc _) ((((HR'.out.alloc _).alloc _).alloc _).alloc _)).mono ?_
    rintro e w1 ⟨rfl, hb⟩
    have hz : w.heap.size + 3 < w1.heap.size := by have := hb.size; simp at this; omega
    have km0 : w1.cell? ⟨w.heap.size, 0, none⟩ = some (.int .i64 s) := (hb.cell (by show w.heap.size < _; simp <;> omega)).trans (by go_simp)
    have km1 : w1.cell? ⟨w.heap.size, 1, none⟩ = some (.slice a n c) := (hb.cell (by show w.heap.size < _; simp <;> omega)).trans (by go_simp)
    have kn0 : w1.cell? ⟨w.heap.size + 1, 0, none⟩ = some (.int .i64 t) := (hb.cell (by show w.heap.size + 1 < _; simp <;> omega)).trans (by go_simp)
    have kn1 : w1.cell? ⟨w.heap.size + 1, 1, none⟩ = some (.slice a' n c') := (hb.cell (by show w.heap.size + 1 < _; simp <;> omega)).trans (by go_simp)
    have kf0 : w1.cell? ⟨w.heap.size + 2, 0, none⟩ = some (.int .i64 p) := (hb.cell (by show w.heap.size + 2 < _; simp <;> omega)).trans (by go_simp)
    have kf1 : w1.cell? ⟨w.heap.size + 2, 1, none⟩ = some (.int .i64 q) := (hb.cell (by show w.heap.size + 2 < _; simp <;> omega)).trans (by go_simp)
    have c0 : w1.cell? ⟨w.heap.size + 3, 0, none⟩ = some (.int .i64 0) := (hb.cell (by show w.heap.size + 3 < _; simp <;> omega)).trans (by go_simp)
    have c1 : w1.cell? ⟨w.heap.size + 3, 1, none⟩ = some (.slice none 0 0) := (hb.cell (by show w.heap.size + 3 < _; simp <;> omega)).trans (by go_simp)
    have f0 : w1.frozen? ⟨w.heap.size + 3, 0, none⟩ = false := (hb.frozen (by show w.heap.size + 3 < _; simp <;> omega)).trans (by go_simp)
    have f1 : w1.frozen? ⟨w.heap.size + 3, 1, none⟩ = false := (hb.frozen (by show w.heap.size + 3 < _; simp <;> omega)).trans (by go_simp)
    have HB := Lib.hid ((((((Below.refl w.heap.size w).alloc (Nat.le_refl _) _).alloc (by simp) _).alloc (by simp <;> omega) _).alloc (by simp <;> omega) _).trans (hb.mono (by simp <;> omega)))
    have HR1 := Lib.hid (((((HR.out.alloc _).alloc _).alloc _).alloc _).below hb)
    have HR1' := Lib.hid (((((HR'.out.alloc _).alloc _).alloc _).alloc _).below hb)
    clear hb
    go_wp2_with fail
    refine (l3Share_c _ _ _).mono ?_
    rintro e w2 ⟨rfl, hb⟩
    replace km0 : w2.cell? ⟨w.heap.size, 0, none⟩ = some (.int .i64 s) := (hb.cell (p := ⟨w.heap.size, 0, none⟩) (by show w.heap.size < _; omega)).trans km0
    replace km1 : w2.cell? ⟨w.heap.size, 1, none⟩ = some (.slice a n c) := (hb.cell (p := ⟨w.heap.size, 1, none⟩) (by show w.heap.size < _; omega)).trans km1
    replace kn0 : w2.cell? ⟨w.heap.size + 1, 0, none⟩ = some (.int .i64 t) := (hb.cell (p := ⟨w.heap.size + 1, 0, none⟩) (by show w.heap.size + 1 < _; omega)).trans kn0
    replace kn1 : w2.cell? ⟨w.heap.size + 1, 1, none⟩ = some (.slice a' n c') := (hb.cell (p := ⟨w.heap.size + 1, 1, none⟩) (by show w.heap.size + 1 < _; omega)).trans kn1
    replace kf0 : w2.cell? ⟨w.heap.size + 2, 0, none⟩ = some (.int .i64 p) := (hb.cell (p := ⟨w.heap.size + 2, 0, none⟩) (by show w.heap.size + 2 < _; omega)).trans kf0
    replace kf1 : w2.cell? ⟨w.heap.size + 2, 1, none⟩ = some (.int .i64 q) := (hb.cell (p := ⟨w.heap.size + 2, 1, none⟩) (by show w.heap.size + 2 < _; omega)).trans kf1
    replace c0 : w2.cell? ⟨w.heap.size + 3, 0, none⟩ = some (.int .i64 0) := (hb.cell (p := ⟨w.heap.size + 3, 0, none⟩) (by show w.heap.size + 3 < _; omega)).trans c0
    replace c1 : w2.cell? ⟨w.heap.size + 3, 1, none⟩ = some (.slice none 0 0) := (hb.cell (p := ⟨w.heap.size + 3, 1, none⟩) (by show w.heap.size + 3 < _; omega)).trans c1
    replace f0 : w2.frozen? ⟨w.heap.size + 3, 0, none⟩ = false := (hb.frozen (p := ⟨w.heap.size + 3, 0, none⟩) (by show w.heap.size + 3 < _; omega)).trans f0
    replace f1 : w2.frozen? ⟨w.heap.size + 3, 1, none⟩ = false := (hb.frozen (p := ⟨w.heap.size + 3, 1, none⟩) (by show w.heap.size + 3 < _; omega)).trans f1
    replace HB := Lib.hid (HB.out.trans (hb.mono HB.out.size))
    replace HR1 := Lib.hid (HR1.out.below hb)
    replace HR1' := Lib.hid (HR1'.out.below hb)
    replace hz : w.heap.size + 3 < w2.heap.size := Nat.lt_of_lt_of_le hz hb.size
    clear hb
    have HL1 := Lib.hid HR1.out.lowAt
    have HL2 := Lib.hid HR1'.out.lowAt
    have HOWN3 : Hid ((w2.alloc (.cells #[] 3)).ownsRow w2.heap.size 3 1 (.slice (some ⟨w2.heap.size, 0, none⟩) 0 0) 0 []) := Lib.hid (by
      have := World.ownsRow_lit w2 #[] 0 (base := w2.heap.size) (size := 1) (e := 3) (Nat.le_refl _) (by unfold maxLen; omega) rfl
      simpa using this)
    go_wp2_with fail
    go_loopw [8, 9] (fun v i wr => ∃ (k : Nat) (A : Option Addr) (C : Nat), k ≤ n ∧ i = .int .i64 k ∧ v = .slice A k C ∧ wr.ownsRow w2.heap.size 3 1 (.slice A k C) k (((mixL p q zs ys).take k).map (Value.int .i64)) ∧ Below w2.heap.size w2 wr) (fun _ i _ => n - (intOf i).toNat)
    case atStart => exact ⟨0, _, _, Nat.zero_le _, rfl, rfl, HOWN3.out, (Below.refl _ _).alloc (Nat.le_refl _) _⟩
    case round =>
      obtain ⟨k, A, C, hk, rfl, rfl, hown, hbr⟩ := hrel
      have HBR := Lib.hid hbr
      have HOWN := Lib.hid hown
      replace km0 : wr.cell? ⟨w.heap.size, 0, none⟩ = some (.int .i64 s) := (hbr.cell (p := ⟨w.heap.size, 0, none⟩) (by show w.heap.size < _; omega)).trans km0
      replace km1 : wr.cell? ⟨w.heap.size, 1, none⟩ = some (.slice a n c) := (hbr.cell (p := ⟨w.heap.size, 1, none⟩) (by show w.heap.size < _; omega)).trans km1
      replace kn0 : wr.cell? ⟨w.heap.size + 1, 0, none⟩ = some (.int .i64 t) := (hbr.cell (p := ⟨w.heap.size + 1, 0, none⟩) (by show w.heap.size + 1 < _; omega)).trans kn0
      replace kn1 : wr.cell? ⟨w.heap.size + 1, 1, none⟩ = some (.slice a' n c') := (hbr.cell (p := ⟨w.heap.size + 1, 1, none⟩) (by show w.heap.size + 1 < _; omega)).trans kn1
      replace kf0 : wr.cell? ⟨w.heap.size + 2, 0, none⟩ = some (.int .i64 p) := (hbr.cell (p := ⟨w.heap.size + 2, 0, none⟩) (by show w.heap.size + 2 < _; omega)).trans kf0
      replace kf1 : wr.cell? ⟨w.heap.size + 2, 1, none⟩ = some (.int .i64 q) := (hbr.cell (p := ⟨w.heap.size + 2, 1, none⟩) (by show w.heap.size + 2 < _; omega)).trans kf1
      replace c0 : wr.cell? ⟨w.heap.size + 3, 0, none⟩ = some (.int .i64 0) := (hbr.cell (p := ⟨w.heap.size + 3, 0, none⟩) (by show w.heap.size + 3 < _; omega)).trans c0
      replace c1 : wr.cell? ⟨w.heap.size + 3, 1, none⟩ = some (.slice none 0 0) := (hbr.cell (p := ⟨w.heap.size + 3, 1, none⟩) (by show w.heap.size + 3 < _; omega)).trans c1
      replace f0 : wr.frozen? ⟨w.heap.size + 3, 0, none⟩ = false := (hbr.frozen (p := ⟨w.heap.size + 3, 0, none⟩) (by show w.heap.size + 3 < _; omega)).trans f0
      replace f1 : wr.frozen? ⟨w.heap.size + 3, 1, none⟩ = false := (hbr.frozen (p := ⟨w.heap.size + 3, 1, none⟩) (by show w.heap.size + 3 < _; omega)).trans f1
      replace HR1 := Lib.hid (HR1.out.below hbr)
      replace HR1' := Lib.hid (HR1'.out.below hbr)
      have hzr : w.heap.size + 3 < wr.heap.size := Nat.lt_of_lt_of_le hz hbr.size
      have zz0 : w.heap.size < wr.heap.size := by omega
      have zz1 : w.heap.size + 1 < wr.heap.size := by omega
      have zz2 : w.heap.size + 2 < wr.heap.size := by omega
      clear hbr hown
      by_cases hlt : k < n
      · have hr1 := HR1.out.at_ (by omega)
        have hr2 := HR1'.out.at_ (by omega)
        have hl1 := HL1.out (by omega)
        have hl2 := HL2.out (by omega)
        obtain ⟨bm, om, rfl, hbm, h1⟩ := hr1
        obtain ⟨bn, on, rfl, hbn, h2⟩ := hr2
        have hbm2 := hl1 bm om rfl
        have hbn2 := hl2 bn on rfl
        clear hl1 hl2
        have gm := h1 k hlt
        have gn := h2 k hlt
        obtain ⟨⟨e1, e2⟩, ⟨e3, e4⟩, ⟨e5, e6⟩, ⟨e7, e8⟩, ⟨e9, e10⟩, ⟨e11, e12⟩, e13, e14⟩ := HBD.out k
        have HMK := Lib.hid (HMG.out k hlt)
        clear h1 h2
        generalize zs.getD k 0 = x at *
        generalize ys.getD k 0 = y at *
        have HE13 := Lib.hid e13
        have HE14 := Lib.hid e14
        clear e13 e14
        have w1a : IntKind.i64.wrap (q - p) = q - p := IntWalk.i64_in _ (by omega)
        have w1b : IntKind.i64.wrap (x * W) = x * W := IntWalk.i64_in _ (by omega)
        have w1c : IntKind.i64.wrap (x * W * p) = x * W * p := by rw [HE13.out]; exact IntWalk.i64_in _ (by omega)
        have w1d : IntKind.i64.wrap (y * V) = y * V := IntWalk.i64_in _ (by omega)
        have w1e : IntKind.i64.wrap (y * V * (q - p)) = y * V * (q - p) := by rw [HE14.out]; exact IntWalk.i64_in _ (by omega)
        have w1f : IntKind.i64.wrap (x * W * p + y * V * (q - p)) = x * W * p + y * V * (q - p) := by rw [HE13.out, HE14.out]; exact IntWalk.i64_in _ (by omega)
        have hkn : (k : Int) < (n : Int) := by omega
        have hk0 : (0 : Int) ≤ (k : Int) := by omega
        have HNE := Lib.hid (fun g hg => (HOWN.out.lt g hg).1)
        have HNX := Lib.hid (fun (b : Nat) (hb : b < w2.heap.size) (e : some b = (Value.slice A k C).ownBlock) => (show False by have := (HOWN.out.lt b e.symm).1; omega))
        have zw0 : w.heap.size < w2.heap.size := by omega
        have zw1 : w.heap.size + 1 < w2.heap.size := by omega
        have zw2 : w.heap.size + 2 < w2.heap.size := by omega
        have H0 : Hid (Below wr.heap.size wr wr.drew) := Lib.hid (Below.refl _ _).drew
        go_wp2_with fail
        go_region_held3 (fun w' => w'.cell? ⟨w.heap.size, 0, none⟩ = some (.int .i64 s) ∧ w'.cell? ⟨w.heap.size, 1, none⟩ = some (.slice (some ⟨bm, om, none⟩) n c) ∧ w'.cell? ⟨w.heap.size + 1, 0, none⟩ = some (.int .i64 t) ∧ w'.cell? ⟨w.heap.size + 1, 1, none⟩ = some (.slice (some ⟨bn, on, none⟩) n c') ∧ w'.cell? ⟨w.heap.size + 2, 0, none⟩ = some (.int .i64 p) ∧ w'.cell? ⟨w.heap.size + 2, 1, none⟩ = some (.int .i64 q) ∧ w'.cell? ⟨bm, om + k, none⟩ = some (.int .i64 x) ∧ w'.cell? ⟨bn, on + k, none⟩ = some (.int .i64 y))
          (first
            | with_reducible exact ⟨(H2.out.cell (p := ⟨w.heap.size, 0, none⟩) zz0).trans km0, (H2.out.cell (p := ⟨w.heap.size, 1, none⟩) zz0).trans km1, (H2.out.cell (p := ⟨w.heap.size + 1, 0, none⟩) zz1).trans kn0, (H2.out.cell (p := ⟨w.heap.size + 1, 1, none⟩) zz1).trans kn1, (H2.out.cell (p := ⟨w.heap.size + 2, 0, none⟩) zz2).trans kf0, (H2.out.cell (p := ⟨w.heap.size + 2, 1, none⟩) zz2).trans kf1, (H2.out.cell (p := ⟨bm, om + k, none⟩) hbm).trans gm, (H2.out.cell (p := ⟨bn, on + k, none⟩) hbn).trans gn⟩
            | with_reducible exact ⟨(H1.out.cell (p := ⟨w.heap.size, 0, none⟩) zz0).trans km0, (H1.out.cell (p := ⟨w.heap.size, 1, none⟩) zz0).trans km1, (H1.out.cell (p := ⟨w.heap.size + 1, 0, none⟩) zz1).trans kn0, (H1.out.cell (p := ⟨w.heap.size + 1, 1, none⟩) zz1).trans kn1, (H1.out.cell (p := ⟨w.heap.size + 2, 0, none⟩) zz2).trans kf0, (H1.out.cell (p := ⟨w.heap.size + 2, 1, none⟩) zz2).trans kf1, (H1.out.cell (p := ⟨bm, om + k, none⟩) hbm).trans gm, (H1.out.cell (p := ⟨bn, on + k, none⟩) hbn).trans gn⟩
            | (have hs2 := H2.out.size
               with_reducible exact ⟨(World.cell?_alloc_lt tt _ ⟨w.heap.size, 0, none⟩ (Nat.lt_of_lt_of_le zz0 hs2)).trans ((H2.out.cell (p := ⟨w.heap.size, 0, none⟩) zz0).trans km0), (World.cell?_alloc_lt tt _ ⟨w.heap.size, 1, none⟩ (Nat.lt_of_lt_of_le zz0 hs2)).trans ((H2.out.cell (p := ⟨w.heap.size, 1, none⟩) zz0).trans km1), (World.cell?_alloc_lt tt _ ⟨w.heap.size + 1, 0, none⟩ (Nat.lt_of_lt_of_le zz1 hs2)).trans ((H2.out.cell (p := ⟨w.heap.size + 1, 0, none⟩) zz1).trans kn0), (World.cell?_alloc_lt tt _ ⟨w.heap.size + 1, 1, none⟩ (Nat.lt_of_lt_of_le zz1 hs2)).trans ((H2.out.cell (p := ⟨w.heap.size + 1, 1, none⟩) zz1).trans kn1), (World.cell?_alloc_lt tt _ ⟨w.heap.size + 2, 0, none⟩ (Nat.lt_of_lt_of_le zz2 hs2)).trans ((H2.out.cell (p := ⟨w.heap.size + 2, 0, none⟩) zz2).trans kf0), (World.cell?_alloc_lt tt _ ⟨w.heap.size + 2, 1, none⟩ (Nat.lt_of_lt_of_le zz2 hs2)).trans ((H2.out.cell (p := ⟨w.heap.size + 2, 1, none⟩) zz2).trans kf1), (World.cell?_alloc_lt tt _ ⟨bm, om + k, none⟩ (Nat.lt_of_lt_of_le hbm hs2)).trans ((H2.out.cell (p := ⟨bm, om + k, none⟩) hbm).trans gm), (World.cell?_alloc_lt tt _ ⟨bn, on + k, none⟩ (Nat.lt_of_lt_of_le hbn hs2)).trans ((H2.out.cell (p := ⟨bn, on + k, none⟩) hbn).trans gn)⟩)
            | (have hs2 := H2.out.size
               have hz3 : tt.heap.size < (tt.alloc (.cells #[.int .i64 (x * W * p + y * V * (q - p))] 3)).heap.size := by simp
               exact ⟨(hgrow.cell_far ⟨w.heap.size, 0, none⟩ (Nat.lt_trans (Nat.lt_of_lt_of_le zz0 hs2) hz3) (HNX.out _ zw0)).trans ((World.cell?_alloc_lt tt _ ⟨w.heap.size, 0, none⟩ (Nat.lt_of_lt_of_le zz0 hs2)).trans ((H2.out.cell (p := ⟨w.heap.size, 0, none⟩) zz0).trans km0)), (hgrow.cell_far ⟨w.heap.size, 1, none⟩ (Nat.lt_trans (Nat.lt_of_lt_of_le zz0 hs2) hz3) (HNX.out _ zw0)).trans ((World.cell?_alloc_lt tt _ ⟨w.heap.size, 1, none⟩ (Nat.lt_of_lt_of_le zz0 hs2)).trans ((H2.out.cell (p := ⟨w.heap.size, 1, none⟩) zz0).trans km1)), (hgrow.cell_far ⟨w.heap.size + 1, 0, none⟩ (Nat.lt_trans (Nat.lt_of_lt_of_le zz1 hs2) hz3) (HNX.out _ zw1)).trans ((World.cell?_alloc_lt tt _ ⟨w.heap.size + 1, 0, none⟩ (Nat.lt_of_lt_of_le zz1 hs2)).trans ((H2.out.cell (p := ⟨w.heap.size + 1, 0, none⟩) zz1).trans kn0)), (hgrow.cell_far ⟨w.heap.size + 1, 1, none⟩ (Nat.lt_trans (Nat.lt_of_lt_of_le zz1 hs2) hz3) (HNX.out _ zw1)).trans ((World.cell?_alloc_lt tt _ ⟨w.heap.size + 1, 1, none⟩ (Nat.lt_of_lt_of_le zz1 hs2)).trans ((H2.out.cell (p := ⟨w.heap.size + 1, 1, none⟩) zz1).trans kn1)), (hgrow.cell_far ⟨w.heap.size + 2, 0, none⟩ (Nat.lt_trans (Nat.lt_of_lt_of_le zz2 hs2) hz3) (HNX.out _ zw2)).trans ((World.cell?_alloc_lt tt _ ⟨w.heap.size + 2, 0, none⟩ (Nat.lt_of_lt_of_le zz2 hs2)).trans ((H2.out.cell (p := ⟨w.heap.size + 2, 0, none⟩) zz2).trans kf0)), (hgrow.cell_far ⟨w.heap.size + 2, 1, none⟩ (Nat.lt_trans (Nat.lt_of_lt_of_le zz2 hs2) hz3) (HNX.out _ zw2)).trans ((World.cell?_alloc_lt tt _ ⟨w.heap.size + 2, 1, none⟩ (Nat.lt_of_lt_of_le zz2 hs2)).trans ((H2.out.cell (p := ⟨w.heap.size + 2, 1, none⟩) zz2).trans kf1)), (hgrow.cell_far ⟨bm, om + k, none⟩ (Nat.lt_trans (Nat.lt_of_lt_of_le hbm hs2) hz3) (HNX.out _ hbm2)).trans ((World.cell?_alloc_lt tt _ ⟨bm, om + k, none⟩ (Nat.lt_of_lt_of_le hbm hs2)).trans ((H2.out.cell (p := ⟨bm, om + k, none⟩) hbm).trans gm)), (hgrow.cell_far ⟨bn, on + k, none⟩ (Nat.lt_trans (Nat.lt_of_lt_of_le hbn hs2) hz3) (HNX.out _ hbn2)).trans ((World.cell?_alloc_lt tt _ ⟨bn, on + k, none⟩ (Nat.lt_of_lt_of_le hbn hs2)).trans ((H2.out.cell (p := ⟨bn, on + k, none⟩) hbn).trans gn))⟩)
            | exact ⟨km0, km1, kn0, kn1, kf0, kf1, gm, gn⟩)
          (first
            | (go_at_call 66; ((with_reducible refine (l3Whole_c s (some ⟨bm, om, none⟩) n c zs HM1.out _ ?hr).mono ?_)); (case hr => (first | exact HR1.out.below H1.out | exact HR1.out.below H0.out)); rintro e tt ⟨rfl, hb⟩; rw [← HV.out]; (first | (have H2 := Lib.hid (H1.out.trans (hb.mono H1.out.size)); clear hb) | (have H1 := Lib.hid (H0.out.trans (hb.mono H0.out.size)); clear hb)))
            | (go_at_call 66; ((with_reducible refine (l3Whole_c t (some ⟨bn, on, none⟩) n c' ys HM2.out _ ?hr).mono ?_)); (case hr => (first | exact HR1'.out.below H1.out | exact HR1'.out.below H0.out)); rintro e tt ⟨rfl, hb⟩; rw [← HWW.out]; (first | (have H2 := Lib.hid (H1.out.trans (hb.mono H1.out.size)); clear hb) | (have H1 := Lib.hid (H0.out.trans (hb.mono H0.out.size)); clear hb)))
            | (refine step_append_lies _ (by rfl) _ _ _ (by rfl) w2.heap.size 3 i0 _ 1 8 Try.underlying23 hi hz0' hz1 hz2 rfl (by omega) (.slice A k C) k _ (by rfl) ((rows_below HOWN.out H2.out (fun g hg => (HOWN.out.lt g hg).2)).alloc _) ⟨tt.heap.size, 0, none⟩ 1 1 [.int .i64 (x * W * p + y * V * (q - p))] (by rfl) (by rfl) (World.news_of_block (cs := #[.int .i64 (x * W * p + y * V * (q - p))]) (t := 3) (fr := (0, 0)) (heap_alloc_new tt _)) (by simp [Value.oneCell']) (by omega) (by unfold maxLen; omega) (by omega) (by have h1 := HBR.out.size; have h2 := H2.out.size; simp; omega) (tt.heap.size + 1) (by simp) ?_; intro gg cap w5 hown5 hgrow hat hlt5))
        all_goals
          have HO5 : Hid (w5.ownsRow w2.heap.size 3 1 (.slice (some ⟨gg, 0, none⟩) (k + 1) cap) (k + 1) (((mixL p q zs ys).take (k + 1)).map (Value.int .i64))) := Lib.hid (by
            rw [take_snoc_int (by rw [mixL_len, HZL.out]; exact hlt), HMK.out, List.map_append, ← HE13.out, ← HE14.out]
            exact hown5)
          have HB5 := Lib.hid (((HBR.out.trans (H2.out.mono HBR.out.size)).alloc (Nat.le_trans HBR.out.size H2.out.size) (.cells #[.int .i64 (x * W * p + y * V * (q - p))] 3)).grown hgrow (by have h1 := HBR.out.size; have h2 := H2.out.size; simp; omega) (fun j hj => by have := HNE.out j hj; omega))
          clear hown5 hgrow hat w1a w1b w1c w1d w1e w1f
          go_wp2_with fail
          go_roundw
          case rel => exact ⟨k + 1, some ⟨gg, 0, none⟩, cap, by omega, by go_num, rfl, HO5.out, HB5.out⟩
          case measure => simp [intOf]; omega
      · have hkn : k = n := by omega
        subst hkn
        have HOW : Hid (Own wr w2.heap.size (.slice A k C) (mixL p q zs ys)) := Lib.hid (by
          have := HOWN.out
          rw [List.take_of_length_le (by rw [mixL_len, HZL.out]; exact Nat.le_refl _)] at this
          refine ⟨?_, fun y hy => by have := HNN.out y hy; unfold Fits; omega⟩
          rw [mixL_len, HZL.out]
          exact this)
        go_wp2_with fail
        refine (l3Made_c _ _ _ _ (mixL p q zs ys) HNN.out n16 _ HOW.out.rowAt).mono ?_
        rintro e w5 ⟨B, C', rfl, ho, hb⟩
        have HBW := Lib.hid (HB.out.trans (HBR.out.mono (by omega)))
        replace c0 := (hb.cell (p := ⟨w.heap.size + 3, 0, none⟩) (by show w.heap.size + 3 < _; omega)).trans c0
        replace c1 := (hb.cell (p := ⟨w.heap.size + 3, 1, none⟩) (by show w.heap.size + 3 < _; omega)).trans c1
        replace f0 := (hb.frozen (p := ⟨w.heap.size + 3, 0, none⟩) (by show w.heap.size + 3 < _; omega)).trans f0
        replace f1 := (hb.frozen (p := ⟨w.heap.size + 3, 1, none⟩) (by show w.heap.size + 3 < _; omega)).trans f1
        have HO : Hid (Own w5 (w.heap.size + 4) (.slice B (selL (madeB s (mixL p q zs ys)) (madeL (mixL p q zs ys))).length C') (selL (madeB s (mixL p q zs ys)) (madeL (mixL p q zs ys)))) := Lib.hid (ho.low (by omega))
        have HB5 : Hid (Below w.heap.size w w5) := Lib.hid (HBW.out.trans (hb.mono (by omega)))
        clear ho hb
        go_wp2_with fail
        refine bodyPost_ret (v := .tuple #[.agg #[.int .i64 (sel (madeB s (mixL p q zs ys)) s), .slice B (selL (madeB s (mixL p q zs ys)) (madeL (mixL p q zs ys))).length C'], .bool (madeB s (mixL p q zs ys))]) (by simp [results, Try.results40, go_sem, c0, c1]) rfl ?_
        rw [HY.out]
        refine ⟨B, C', rfl, ?_, (HB5.out.setCell (by show w.heap.size ≤ w.heap.size + 3; omega) _).setCell (by show w.heap.size ≤ w.heap.size + 3; omega) _⟩
        refine Own.low (B := w.heap.size + 4) ?_ (by omega)
        exact (HO.out.set ⟨w.heap.size + 3, 0, none⟩ (fun g hg => by have h1 := (HO.out.lt g hg).1; show g ≠ w.heap.size + 3; omega) _).set ⟨w.heap.size + 3, 1, none⟩ (fun g hg => by have h1 := (HO.out.lt g hg).1; show g ≠ w.heap.size + 3; omega) _
end Go.Proofs.Ytemollfejgmlcaa
