/- Contracts: the mean of two masses. Conditions: as stated. -/
import Derived.Test.YtemollfejgmlcaaMl
import Derived.Deep.RegionHeld3
namespace Go.Proofs.Ytemollfejgmlcaa
open Go.RowKit

def bothB (s : Int) (zs : List Int) (t : Int) (ys : List Int) : Bool := massB s zs && (massB t ys && (s == t))
theorem mixB_no1 {s : Int} {zs : List Int} {t : Int} {ys : List Int} {p q : Int} (h : bothB s zs t ys = false) : mixB s zs t ys p q = false := by
  unfold bothB at h
  unfold mixB
  rcases h1 : massB s zs with _ | _
  · rfl
  · rcases h2 : massB t ys with _ | _
    · rfl
    · rw [h1, h2] at h
      have h3 : (s == t) = false := h
      rw [h3]
      rfl
theorem mixB_no2 {s : Int} {zs : List Int} {t : Int} {ys : List Int} {p q : Int} (h : shB p q = false) : mixB s zs t ys p q = false := by simp [mixB, h]
theorem mixB_no3 {s : Int} {zs : List Int} {t : Int} {ys : List Int} {p q : Int} (h : ¬ q ≤ 1000) : mixB s zs t ys p q = false := by simp [mixB, h]
theorem mixB_yes {s : Int} {zs : List Int} {t : Int} {ys : List Int} {p q : Int} (h1 : bothB s zs t ys = true) (h2 : shB p q = true) (h3 : q ≤ 1000) : mixB s zs t ys p q = madeB s (mixL p q zs ys) := by
  unfold bothB at h1
  unfold mixB
  rw [Bool.and_eq_true, Bool.and_eq_true] at h1
  obtain ⟨e1, e2, e3⟩ := h1
  rw [e1, e2, e3, h2, decide_eq_true h3]
  rfl
theorem bothB_of {s : Int} {zs : List Int} {t : Int} {ys : List Int} (h : bothB s zs t ys = true) : massB s zs = true ∧ massB t ys = true ∧ s = t := by
  unfold bothB at h
  rw [Bool.and_eq_true, Bool.and_eq_true] at h
  exact ⟨h.1, h.2.1, by simpa using h.2.2⟩
def mixT (p q : Int) (zs ys : List Int) (n k : Nat) : List Int := (mixL p q zs ys).take k ++ List.replicate (n - k) 0
theorem mixT_step {p q : Int} {zs ys : List Int} {n k : Nat} (hn : zs.length = n) (hk : k < n) : (mixT p q zs ys n k).set k ((mixL p q zs ys).getD k 0) = mixT p q zs ys n (k + 1) := by
  have hl : ((mixL p q zs ys).take k).length = k := by rw [List.length_take, mixL_len]; omega
  unfold mixT
  rw [List.set_append_right _ _ (by omega), hl, Nat.sub_self, show n - k = (n - (k + 1)) + 1 by omega, List.replicate_succ, List.set_cons_zero, take_snoc_int (by rw [mixL_len]; omega), List.append_assoc]
  rfl
theorem mixT_len {p q : Int} {zs ys : List Int} {n k : Nat} (hn : zs.length = n) (hk : k ≤ n) : (mixT p q zs ys n k).length = n := by
  unfold mixT
  rw [List.length_append, List.length_take, mixL_len, List.length_replicate]
  omega
theorem mixT_end {p q : Int} {zs ys : List Int} {n : Nat} (hn : zs.length = n) : mixT p q zs ys n n = mixL p q zs ys := by
  unfold mixT
  rw [Nat.sub_self, List.take_of_length_le (by rw [mixL_len]; omega)]
  simp
theorem mixT_zero {p q : Int} {zs ys : List Int} {n : Nat} : mixT p q zs ys n 0 = List.replicate n 0 := by
  unfold mixT
  simp
theorem rows_below {w w' : World} {B C n : Nat} {v : Value} {xs : List Value} (h : w.ownsRow B 3 1 v n xs) (hb : Below C w w') (hC : ∀ g, v.ownBlock = some g → g < C) : w'.ownsRow B 3 1 v n xs := by
  obtain ⟨h1, h2⟩ := h
  refine ⟨h1, ?_⟩
  rcases h2 with h2 | ⟨g, cap, cur, hv, hb2, hh, hr⟩
  · exact .inl h2
  · exact .inr ⟨g, cap, cur, hv, hb2, (hb.block g (hC g (by rw [hv]; rfl))).trans hh, hr⟩
set_option maxHeartbeats 1000000 in
theorem ofOneQuestion_c (s : Int) (a : Option Addr) (n c : Nat) (zs : List Int) (t : Int) (a' : Option Addr) (n' c' : Nat) (ys : List Int) (w : World) (ha : IsRow .i64 w a n c zs) (hb : IsRow .i64 w a' n' c' ys) :
    Calls Try.prog 78 #[.agg #[.int .i64 s, .slice a n c], .agg #[.int .i64 t, .slice a' n' c']] w fun e w' => e = .returned (.bool (bothB s zs t ys)) ∧ Below w.heap.size w w' := by
  have HR := Lib.hid ha
  have HR' := Lib.hid hb
  clear ha hb
  rcases hm : massB s zs with _ | _
  · have HE : Hid (bothB s zs t ys = false) := Lib.hid (by simp [bothB, hm])
    go_enter Try.func78, Try.ntmps78
    go_wp2_with fail
    refine (isMass_c _ _ _ _ zs _ ((HR.out.alloc _).alloc _)).mono ?_
    rintro e w1 ⟨rfl, hb⟩
    have HB := Lib.hid ((((Below.refl w.heap.size w).alloc (Nat.le_refl _) _).alloc (by simp) _).trans (hb.mono (by simp <;> omega)))
    clear hb
    go_wp2_with fail
    go_ret
    exact ⟨ret_bool HE.out.symm, HB.out⟩
  rcases hm2 : massB t ys with _ | _
  all_goals
    have HE : Hid (bothB s zs t ys = (massB t ys && (s == t))) := Lib.hid (by simp [bothB, hm])
    go_enter Try.func78, Try.ntmps78
    go_wp2_with fail
    refine (isMass_c _ _ _ _ zs _ ((HR.out.alloc _).alloc _)).mono ?_
    rintro e w1 ⟨rfl, hb⟩
    have HB := Lib.hid ((((Below.refl w.heap.size w).alloc (Nat.le_refl _) _).alloc (by simp) _).trans (hb.mono (by simp <;> omega)))
    have k0 : w1.cell? ⟨w.heap.size, 0, none⟩ = some (.int .i64 s) := (hb.cell (by simp <;> omega)).trans (by go_simp)
    have j0 : w1.cell? ⟨w.heap.size + 1, 0, none⟩ = some (.int .i64 t) := (hb.cell (by simp <;> omega)).trans (by go_simp)
    have j1 : w1.cell? ⟨w.heap.size + 1, 1, none⟩ = some (.slice a' n' c') := (hb.cell (by simp <;> omega)).trans (by go_simp)
    have HR1 := Lib.hid (((HR'.out.alloc _).alloc _).below hb)
    have hz : w.heap.size + 1 < w1.heap.size := by have := hb.size; simp at this; omega
    clear hb
    go_wp2_with fail
    refine (isMass_c _ _ _ _ ys _ HR1.out).mono ?_
    rintro e w2 ⟨rfl, hb⟩
    have HB2 := Lib.hid (HB.out.trans (hb.mono HB.out.size))
    replace k0 := (hb.cell (p := ⟨w.heap.size, 0, none⟩) (by show w.heap.size < _; omega)).trans k0
    replace j0 := (hb.cell (p := ⟨w.heap.size + 1, 0, none⟩) hz).trans j0
    clear hb
    go_wp2_with fail
    go_ret
    exact ⟨ret_bool (by rw [HE.out, hm2]; rfl), HB2.out⟩
set_option maxHeartbeats 1000000 in
theorem l3Both_c (s : Int) (a : Option Addr) (n c : Nat) (zs : List Int) (t : Int) (a' : Option Addr) (n' c' : Nat) (ys : List Int) (w : World) (ha : IsRow .i64 w a n c zs) (hb : IsRow .i64 w a' n' c' ys) :
    Calls Try.prog 80 #[.agg #[.int .i64 s, .slice a n c], .agg #[.int .i64 t, .slice a' n' c']] w fun e w' => e = .returned (.bool (bothB s zs t ys)) ∧ Below w.heap.size w w' := by
  have HR := Lib.hid ha
  have HR' := Lib.hid hb
  clear ha hb
  rcases hm : massB s zs with _ | _
  · have HE : Hid (bothB s zs t ys = false) := Lib.hid (by simp [bothB, hm])
    go_enter Try.func80, Try.ntmps80
    go_wp2_with fail
    refine (spec_MassValid_c _ _ _ _ zs _ ((HR.out.alloc _).alloc _)).mono ?_
    rintro e w1 ⟨rfl, hb⟩
    have HB := Lib.hid ((((Below.refl w.heap.size w).alloc (Nat.le_refl _) _).alloc (by simp) _).trans (hb.mono (by simp <;> omega)))
    clear hb
    go_wp2_with fail
    go_ret
    exact ⟨ret_bool HE.out.symm, HB.out⟩
  rcases hm2 : massB t ys with _ | _
  all_goals
    have HE : Hid (bothB s zs t ys = (massB t ys && (s == t))) := Lib.hid (by simp [bothB, hm])
    go_enter Try.func80, Try.ntmps80
    go_wp2_with fail
    refine (spec_MassValid_c _ _ _ _ zs _ ((HR.out.alloc _).alloc _)).mono ?_
    rintro e w1 ⟨rfl, hb⟩
    have HB := Lib.hid ((((Below.refl w.heap.size w).alloc (Nat.le_refl _) _).alloc (by simp) _).trans (hb.mono (by simp <;> omega)))
    have k0 : w1.cell? ⟨w.heap.size, 0, none⟩ = some (.int .i64 s) := (hb.cell (by simp <;> omega)).trans (by go_simp)
    have j0 : w1.cell? ⟨w.heap.size + 1, 0, none⟩ = some (.int .i64 t) := (hb.cell (by simp <;> omega)).trans (by go_simp)
    have j1 : w1.cell? ⟨w.heap.size + 1, 1, none⟩ = some (.slice a' n' c') := (hb.cell (by simp <;> omega)).trans (by go_simp)
    have HR1 := Lib.hid (((HR'.out.alloc _).alloc _).below hb)
    have hz : w.heap.size + 1 < w1.heap.size := by have := hb.size; simp at this; omega
    clear hb
    go_wp2_with fail
    refine (spec_MassValid_c _ _ _ _ ys _ HR1.out).mono ?_
    rintro e w2 ⟨rfl, hb⟩
    have HB2 := Lib.hid (HB.out.trans (hb.mono HB.out.size))
    replace k0 := (hb.cell (p := ⟨w.heap.size, 0, none⟩) (by show w.heap.size < _; omega)).trans k0
    replace j0 := (hb.cell (p := ⟨w.heap.size + 1, 0, none⟩) hz).trans j0
    clear hb
    go_wp2_with fail
    go_ret
    exact ⟨ret_bool (by rw [HE.out, hm2]; rfl), HB2.out⟩
set_option maxRecDepth 100000 in
set_option maxHeartbeats 8000000 in
theorem impl_MixMasses_c (s : Int) (a : Option Addr) (n c : Nat) (zs : List Int) (t : Int) (a' : Option Addr) (n' c' : Nat) (ys : List Int) (p q : Int) (w : World) (ha : IsRow .i64 w a n c zs) (hb : IsRow .i64 w a' n' c' ys) :
    Calls Try.prog 38 #[.agg #[.int .i64 s, .slice a n c], .agg #[.int .i64 t, .slice a' n' c'], .agg #[.int .i64 p, .int .i64 q]] w (MassOk w (mixB s zs t ys p q) s (madeL (mixL p q zs ys))) := by
  have HR := Lib.hid ha
  have HR' := Lib.hid hb
  clear ha hb
  rcases hbo : bothB s zs t ys with _ | _
  · have HN := Lib.hid (mixB_no1 (p := p) (q := q) hbo)
    go_enter Try.func38, Try.ntmps38
    go_wp2_with fail
    refine (ofOneQuestion_c _ _ _ _ zs _ _ _ _ ys _ ((((HR.out.alloc _).alloc _).alloc _).alloc _) ((((HR'.out.alloc _).alloc _).alloc _).alloc _)).mono ?_
    rintro e w1 ⟨rfl, hb⟩
    have hz : w.heap.size + 3 < w1.heap.size := by have := hb.size; simp at this; omega
    have km0 : w1.cell? ⟨w.heap.size, 0, none⟩ = some (.int .i64 s) := (hb.cell (by show w.heap.size < _; simp <;> omega)).trans (by go_simp)
    have km1 : w1.cell? ⟨w.heap.size, 1, none⟩ = some (.slice a n c) := (hb.cell (by show w.heap.size < _; simp <;> omega)).trans (by go_simp)
    have kn0 : w1.cell? ⟨w.heap.size + 1, 0, none⟩ = some (.int .i64 t) := (hb.cell (by show w.heap.size + 1 < _; simp <;> omega)).trans (by go_simp)
    have kn1 : w1.cell? ⟨w.heap.size + 1, 1, none⟩ = some (.slice a' n' c') := (hb.cell (by show w.heap.size + 1 < _; simp <;> omega)).trans (by go_simp)
    have kf0 : w1.cell? ⟨w.heap.size + 2, 0, none⟩ = some (.int .i64 p) := (hb.cell (by show w.heap.size + 2 < _; simp <;> omega)).trans (by go_simp)
    have kf1 : w1.cell? ⟨w.heap.size + 2, 1, none⟩ = some (.int .i64 q) := (hb.cell (by show w.heap.size + 2 < _; simp <;> omega)).trans (by go_simp)
    have c0 : w1.cell? ⟨w.heap.size + 3, 0, none⟩ = some (.int .i64 0) := (hb.cell (by show w.heap.size + 3 < _; simp <;> omega)).trans (by go_simp)
    have c1 : w1.cell? ⟨w.heap.size + 3, 1, none⟩ = some (.slice none 0 0) := (hb.cell (by show w.heap.size + 3 < _; simp <;> omega)).trans (by go_simp)
    have f0 : w1.frozen? ⟨w.heap.size + 3, 0, none⟩ = false := (hb.frozen (by show w.heap.size + 3 < _; simp <;> omega)).trans (by go_simp)
    have f1 : w1.frozen? ⟨w.heap.size + 3, 1, none⟩ = false := (hb.frozen (by show w.heap.size + 3 < _; simp <;> omega)).trans (by go_simp)
    have HB := Lib.hid ((((((Below.refl w.heap.size w).alloc (Nat.le_refl _) _).alloc (by simp) _).alloc (by simp <;> omega) _).alloc (by simp <;> omega) _).trans (hb.mono (by simp <;> omega)))
    have HR1 := Lib.hid (((((HR.out.alloc _).alloc _).alloc _).alloc _).below hb)
    have HR1' := Lib.hid (((((HR'.out.alloc _).alloc _).alloc _).alloc _).below hb)
    clear hb
    go_wp2_with fail
    refine bodyPost_ret (v := .tuple #[.agg #[.int .i64 0, .slice none 0 0], .bool false]) (by simp [results, Try.results38, go_sem, c0, c1]) rfl ?_
    rw [HN.out]
    exact ⟨none, 0, rfl, own_nil0 _ _, (by repeat (first | exact HB.out | (refine Below.setCell ?_ (by first | exact Nat.le_refl _ | (simp <;> omega) | omega) _)))⟩
  rcases hh : shB p q with _ | _
  · have HN : Hid (mixB s zs t ys p q = false) := Lib.hid (mixB_no2 hh)
    go_enter Try.func38, Try.ntmps38
    go_wp2_with fail
    refine (ofOneQuestion_c _ _ _ _ zs _ _ _ _ ys _ ((((HR.out.alloc _).alloc _).alloc _).alloc _) ((((HR'.out.alloc _).alloc _).alloc _).alloc _)).mono ?_
    rintro e w1 ⟨rfl, hb⟩
    have hz : w.heap.size + 3 < w1.heap.size := by have := hb.size; simp at this; omega
    have km0 : w1.cell? ⟨w.heap.size, 0, none⟩ = some (.int .i64 s) := (hb.cell (by show w.heap.size < _; simp <;> omega)).trans (by go_simp)
    have km1 : w1.cell? ⟨w.heap.size, 1, none⟩ = some (.slice a n c) := (hb.cell (by show w.heap.size < _; simp <;> omega)).trans (by go_simp)
    have kn0 : w1.cell? ⟨w.heap.size + 1, 0, none⟩ = some (.int .i64 t) := (hb.cell (by show w.heap.size + 1 < _; simp <;> omega)).trans (by go_simp)
    have kn1 : w1.cell? ⟨w.heap.size + 1, 1, none⟩ = some (.slice a' n' c') := (hb.cell (by show w.heap.size + 1 < _; simp <;> omega)).trans (by go_simp)
    have kf0 : w1.cell? ⟨w.heap.size + 2, 0, none⟩ = some (.int .i64 p) := (hb.cell (by show w.heap.size + 2 < _; simp <;> omega)).trans (by go_simp)
    have kf1 : w1.cell? ⟨w.heap.size + 2, 1, none⟩ = some (.int .i64 q) := (hb.cell (by show w.heap.size + 2 < _; simp <;> omega)).trans (by go_simp)
    have c0 : w1.cell? ⟨w.heap.size + 3, 0, none⟩ = some (.int .i64 0) := (hb.cell (by show w.heap.size + 3 < _; simp <;> omega)).trans (by go_simp)
    have c1 : w1.cell? ⟨w.heap.size + 3, 1, none⟩ = some (.slice none 0 0) := (hb.cell (by show w.heap.size + 3 < _; simp <;> omega)).trans (by go_simp)
    have f0 : w1.frozen? ⟨w.heap.size + 3, 0, none⟩ = false := (hb.frozen (by show w.heap.size + 3 < _; simp <;> omega)).trans (by go_simp)
    have f1 : w1.frozen? ⟨w.heap.size + 3, 1, none⟩ = false := (hb.frozen (by show w.heap.size + 3 < _; simp <;> omega)).trans (by go_simp)
    have HB := Lib.hid ((((((Below.refl w.heap.size w).alloc (Nat.le_refl _) _).alloc (by simp) _).alloc (by simp <;> omega) _).alloc (by simp <;> omega) _).trans (hb.mono (by simp <;> omega)))
    have HR1 := Lib.hid (((((HR.out.alloc _).alloc _).alloc _).alloc _).below hb)
    have HR1' := Lib.hid (((((HR'.out.alloc _).alloc _).alloc _).alloc _).below hb)
    clear hb
    go_wp2_with fail
    refine (isShare_c _ _ _).mono ?_
    rintro e w2 ⟨rfl, hb⟩
    replace km0 : w2.cell? ⟨w.heap.size, 0, none⟩ = some (.int .i64 s) := (hb.cell (p := ⟨w.heap.size, 0, none⟩) (by show w.heap.size < _; omega)).trans km0
    replace km1 : w2.cell? ⟨w.heap.size, 1, none⟩ = some (.slice a n c) := (hb.cell (p := ⟨w.heap.size, 1, none⟩) (by show w.heap.size < _; omega)).trans km1
    replace kn0 : w2.cell? ⟨w.heap.size + 1, 0, none⟩ = some (.int .i64 t) := (hb.cell (p := ⟨w.heap.size + 1, 0, none⟩) (by show w.heap.size + 1 < _; omega)).trans kn0
    replace kn1 : w2.cell? ⟨w.heap.size + 1, 1, none⟩ = some (.slice a' n' c') := (hb.cell (p := ⟨w.heap.size + 1, 1, none⟩) (by show w.heap.size + 1 < _; omega)).trans kn1
    replace kf0 : w2.cell? ⟨w.heap.size + 2, 0, none⟩ = some (.int .i64 p) := (hb.cell (p := ⟨w.heap.size + 2, 0, none⟩) (by show w.heap.size + 2 < _; omega)).trans kf0
    replace kf1 : w2.cell? ⟨w.heap.size + 2, 1, none⟩ = some (.int .i64 q) := (hb.cell (p := ⟨w.heap.size + 2, 1, none⟩) (by show w.heap.size + 2 < _; omega)).trans kf1
    replace c0 : w2.cell? ⟨w.heap.size + 3, 0, none⟩ = some (.int .i64 0) := (hb.cell (p := ⟨w.heap.size + 3, 0, none⟩) (by show w.heap.size + 3 < _; omega)).trans c0
    replace c1 : w2.cell? ⟨w.heap.size + 3, 1, none⟩ = some (.slice none 0 0) := (hb.cell (p := ⟨w.heap.size + 3, 1, none⟩) (by show w.heap.size + 3 < _; omega)).trans c1
    replace f0 : w2.frozen? ⟨w.heap.size + 3, 0, none⟩ = false := (hb.frozen (p := ⟨w.heap.size + 3, 0, none⟩) (by show w.heap.size + 3 < _; omega)).trans f0
    replace f1 : w2.frozen? ⟨w.heap.size + 3, 1, none⟩ = false := (hb.frozen (p := ⟨w.heap.size + 3, 1, none⟩) (by show w.heap.size + 3 < _; omega)).trans f1
    replace HB := Lib.hid (HB.out.trans (hb.mono HB.out.size))
    replace HR1 := Lib.hid (HR1.out.below hb)
    replace HR1' := Lib.hid (HR1'.out.below hb)
    replace hz : w.heap.size + 3 < w2.heap.size := Nat.lt_of_lt_of_le hz hb.size
    clear hb
    go_wp2_with fail
    refine bodyPost_ret (v := .tuple #[.agg #[.int .i64 0, .slice none 0 0], .bool false]) (by simp [results, Try.results38, go_sem, c0, c1]) rfl ?_
    rw [HN.out]
    exact ⟨none, 0, rfl, own_nil0 _ _, (by repeat (first | exact HB.out | (refine Below.setCell ?_ (by first | exact Nat.le_refl _ | (simp <;> omega) | omega) _)))⟩
  by_cases hq : q ≤ 1000
  rotate_left
  · have HN : Hid (mixB s zs t ys p q = false) := Lib.hid (mixB_no3 hq)
    have hq2 : 1000 < q := by omega
    go_enter Try.func38, Try.ntmps38
    go_wp2_with fail
    refine (ofOneQuestion_c _ _ _ _ zs _ _ _ _ ys _ ((((HR.out.alloc _).alloc _).alloc _).alloc _) ((((HR'.out.alloc _).alloc _).alloc _).alloc _)).mono ?_
    rintro e w1 ⟨rfl, hb⟩
    have hz : w.heap.size + 3 < w1.heap.size := by have := hb.size; simp at this; omega
    have km0 : w1.cell? ⟨w.heap.size, 0, none⟩ = some (.int .i64 s) := (hb.cell (by show w.heap.size < _; simp <;> omega)).trans (by go_simp)
    have km1 : w1.cell? ⟨w.heap.size, 1, none⟩ = some (.slice a n c) := (hb.cell (by show w.heap.size < _; simp <;> omega)).trans (by go_simp)
    have kn0 : w1.cell? ⟨w.heap.size + 1, 0, none⟩ = some (.int .i64 t) := (hb.cell (by show w.heap.size + 1 < _; simp <;> omega)).trans (by go_simp)
    have kn1 : w1.cell? ⟨w.heap.size + 1, 1, none⟩ = some (.slice a' n' c') := (hb.cell (by show w.heap.size + 1 < _; simp <;> omega)).trans (by go_simp)
    have kf0 : w1.cell? ⟨w.heap.size + 2, 0, none⟩ = some (.int .i64 p) := (hb.cell (by show w.heap.size + 2 < _; simp <;> omega)).trans (by go_simp)
    have kf1 : w1.cell? ⟨w.heap.size + 2, 1, none⟩ = some (.int .i64 q) := (hb.cell (by show w.heap.size + 2 < _; simp <;> omega)).trans (by go_simp)
    have c0 : w1.cell? ⟨w.heap.size + 3, 0, none⟩ = some (.int .i64 0) := (hb.cell (by show w.heap.size + 3 < _; simp <;> omega)).trans (by go_simp)
    have c1 : w1.cell? ⟨w.heap.size + 3, 1, none⟩ = some (.slice none 0 0) := (hb.cell (by show w.heap.size + 3 < _; simp <;> omega)).trans (by go_simp)
    have f0 : w1.frozen? ⟨w.heap.size + 3, 0, none⟩ = false := (hb.frozen (by show w.heap.size + 3 < _; simp <;> omega)).trans (by go_simp)
    have f1 : w1.frozen? ⟨w.heap.size + 3, 1, none⟩ = false := (hb.frozen (by show w.heap.size + 3 < _; simp <;> omega)).trans (by go_simp)
    have HB := Lib.hid ((((((Below.refl w.heap.size w).alloc (Nat.le_refl _) _).alloc (by simp) _).alloc (by simp <;> omega) _).alloc (by simp <;> omega) _).trans (hb.mono (by simp <;> omega)))
    have HR1 := Lib.hid (((((HR.out.alloc _).alloc _).alloc _).alloc _).below hb)
    have HR1' := Lib.hid (((((HR'.out.alloc _).alloc _).alloc _).alloc _).below hb)
    clear hb
    go_wp2_with fail
    refine (isShare_c _ _ _).mono ?_
    rintro e w2 ⟨rfl, hb⟩
    replace km0 : w2.cell? ⟨w.heap.size, 0, none⟩ = some (.int .i64 s) := (hb.cell (p := ⟨w.heap.size, 0, none⟩) (by show w.heap.size < _; omega)).trans km0
    replace km1 : w2.cell? ⟨w.heap.size, 1, none⟩ = some (.slice a n c) := (hb.cell (p := ⟨w.heap.size, 1, none⟩) (by show w.heap.size < _; omega)).trans km1
    replace kn0 : w2.cell? ⟨w.heap.size + 1, 0, none⟩ = some (.int .i64 t) := (hb.cell (p := ⟨w.heap.size + 1, 0, none⟩) (by show w.heap.size + 1 < _; omega)).trans kn0
    replace kn1 : w2.cell? ⟨w.heap.size + 1, 1, none⟩ = some (.slice a' n' c') := (hb.cell (p := ⟨w.heap.size + 1, 1, none⟩) (by show w.heap.size + 1 < _; omega)).trans kn1
    replace kf0 : w2.cell? ⟨w.heap.size + 2, 0, none⟩ = some (.int .i64 p) := (hb.cell (p := ⟨w.heap.size + 2, 0, none⟩) (by show w.heap.size + 2 < _; omega)).trans kf0
    replace kf1 : w2.cell? ⟨w.heap.size + 2, 1, none⟩ = some (.int .i64 q) := (hb.cell (p := ⟨w.heap.size + 2, 1, none⟩) (by show w.heap.size + 2 < _; omega)).trans kf1
    replace c0 : w2.cell? ⟨w.heap.size + 3, 0, none⟩ = some (.int .i64 0) := (hb.cell (p := ⟨w.heap.size + 3, 0, none⟩) (by show w.heap.size + 3 < _; omega)).trans c0
    replace c1 : w2.cell? ⟨w.heap.size + 3, 1, none⟩ = some (.slice none 0 0) := (hb.cell (p := ⟨w.heap.size + 3, 1, none⟩) (by show w.heap.size + 3 < _; omega)).trans c1
    replace f0 : w2.frozen? ⟨w.heap.size + 3, 0, none⟩ = false := (hb.frozen (p := ⟨w.heap.size + 3, 0, none⟩) (by show w.heap.size + 3 < _; omega)).trans f0
    replace f1 : w2.frozen? ⟨w.heap.size + 3, 1, none⟩ = false := (hb.frozen (p := ⟨w.heap.size + 3, 1, none⟩) (by show w.heap.size + 3 < _; omega)).trans f1
    replace HB := Lib.hid (HB.out.trans (hb.mono HB.out.size))
    replace HR1 := Lib.hid (HR1.out.below hb)
    replace HR1' := Lib.hid (HR1'.out.below hb)
    replace hz : w.heap.size + 3 < w2.heap.size := Nat.lt_of_lt_of_le hz hb.size
    clear hb
    go_wp2_with fail
    refine bodyPost_ret (v := .tuple #[.agg #[.int .i64 0, .slice none 0 0], .bool false]) (by simp [results, Try.results38, go_sem, c0, c1]) rfl ?_
    rw [HN.out]
    exact ⟨none, 0, rfl, own_nil0 _ _, (by repeat (first | exact HB.out | (refine Below.setCell ?_ (by first | exact Nat.le_refl _ | (simp <;> omega) | omega) _)))⟩
  · have HY := Lib.hid (mixB_yes hbo hh hq)
    obtain ⟨m1, m2, hst⟩ := bothB_of hbo
    have HM1 := Lib.hid m1
    have HM2 := Lib.hid m2
    obtain ⟨hp, hq1, _⟩ := shB_of hh
    have hW1 := (massB_of m1).2.2.2.1
    have hW2 := (massB_of m2).2.2.2.1
    have HP1 := Lib.hid (parts_more (massB_of m1).2.2.1)
    have HP2 := Lib.hid (parts_more (massB_of m2).2.2.1)
    have HNN := Lib.hid (mixL_nns m1 m2 hh hq)
    have hl1 := massB_len m1
    have hl2 := massB_len m2
    have hll : ys.length = zs.length := by
      have e1 := (massB_of m1).2.1
      have e2 := (massB_of m2).2.1
      rw [← hst] at e2
      omega
    rw [HR.out.len] at hl1
    have HZL := Lib.hid HR.out.len
    have HNL : Hid (n' = n) := Lib.hid (by have h1 := HR.out.len; have h2 := HR'.out.len; omega)
    have hn'n := HNL.out
    obtain ⟨n2, n16⟩ := hl1
    have n16' : n' ≤ 16 := by omega
    clear m1 m2 hl2 hll
    obtain ⟨V, hV⟩ : ∃ V, V = whole zs := ⟨_, rfl⟩
    obtain ⟨W, hW⟩ : ∃ W, W = whole ys := ⟨_, rfl⟩
    rw [← hV] at hW1
    rw [← hW] at hW2
    have HV := Lib.hid hV
    have HWW := Lib.hid hW
    have HBD := Lib.hid (fun k => mix_bounds (p := p) (q := q) (V := V) (W := W) hp hq (mass_get HM1.out k) (mass_get HM2.out k) ⟨by omega, hW1.2⟩ ⟨by omega, hW2.2⟩)
    have HMG : Hid (∀ k, k < n → (mixL p q zs ys).getD k 0 = p * zs.getD k 0 * W + (q - p) * ys.getD k 0 * V) := Lib.hid (by intro k hk; rw [mixL_get (by rw [HZL.out]; exact hk), ← HV.out, ← HWW.out])
    have hnn : n = n' := hn'n.symm
    clear hn'n
    subst hnn
    clear hV hW HNL hst
    obtain ⟨hp0, hp1⟩ := hp
    obtain ⟨hq0, _⟩ := hq1
    clear hW1 hW2
    obtain ⟨i0, hi, hz0', hz1, hz2⟩ := info_parts Try.infoInt
    go_enter Try.func38, Try.ntmps38
    go_wp2_with fail
    refine (ofOneQuestion_c _ _ _ _ zs _ _ _ _ ys _ ((((HR.out.alloc _).alloc _).alloc _).alloc _) ((((HR'.out.alloc _).alloc _).alloc _).alloc _)).mono ?_
    rintro e w1 ⟨rfl, hb⟩
    have hz : w.heap.size + 3 < w1.heap.size := by have := hb.size; simp at this; omega
    have km0 : w1.cell? ⟨w.heap.size, 0, none⟩ = some (.int .i64 s) := (hb.cell (by show w.heap.size < _; simp <;> omega)).trans (by go_simp)
    have km1 : w1.cell? ⟨w.heap.size, 1, none⟩ = some (.slice a n c) := (hb.cell (by show w.heap.size < _; simp <;> omega)).trans (by go_simp)
    have kn0 : w1.cell? ⟨w.heap.size + 1, 0, none⟩ = some (.int .i64 t) := (hb.cell (by show w.heap.size + 1 < _; simp <;> omega)).trans (by go_simp)
    have kn1 : w1.cell? ⟨w.heap.size + 1, 1, none⟩ = some (.slice a' n c') := (hb.cell (by show w.heap.size + 1 < _; simp <;> omega)).trans (by go_simp)
    have kf0 : w1.cell? ⟨w.heap.size + 2, 0, none⟩ = some (.int .i64 p) := (hb.cell (by show w.heap.size + 2 < _; simp <;> omega)).trans (by go_simp)
    have kf1 : w1.cell? ⟨w.heap.size + 2, 1, none⟩ = some (.int .i64 q) := (hb.cell (by show w.heap.size + 2 < _; simp <;> omega)).trans (by go_simp)
    have c0 : w1.cell? ⟨w.heap.size + 3, 0, none⟩ = some (.int .i64 0) := (hb.cell (by show w.heap.size + 3 < _; simp <;> omega)).trans (by go_simp)
    have c1 : w1.cell? ⟨w.heap.size + 3, 1, none⟩ = some (.slice none 0 0) := (hb.cell (by show w.heap.size + 3 < _; simp <;> omega)).trans (by go_simp)
    have f0 : w1.frozen? ⟨w.heap.size + 3, 0, none⟩ = false := (hb.frozen (by show w.heap.size + 3 < _; simp <;> omega)).trans (by go_simp)
    have f1 : w1.frozen? ⟨w.heap.size + 3, 1, none⟩ = false := (hb.frozen (by show w.heap.size + 3 < _; simp <;> omega)).trans (by go_simp)
    have HB := Lib.hid ((((((Below.refl w.heap.size w).alloc (Nat.le_refl _) _).alloc (by simp) _).alloc (by simp <;> omega) _).alloc (by simp <;> omega) _).trans (hb.mono (by simp <;> omega)))
    have HR1 := Lib.hid (((((HR.out.alloc _).alloc _).alloc _).alloc _).below hb)
    have HR1' := Lib.hid (((((HR'.out.alloc _).alloc _).alloc _).alloc _).below hb)
    clear hb
    go_wp2_with fail
    refine (isShare_c _ _ _).mono ?_
    rintro e w2 ⟨rfl, hb⟩
    replace km0 : w2.cell? ⟨w.heap.size, 0, none⟩ = some (.int .i64 s) := (hb.cell (p := ⟨w.heap.size, 0, none⟩) (by show w.heap.size < _; omega)).trans km0
    replace km1 : w2.cell? ⟨w.heap.size, 1, none⟩ = some (.slice a n c) := (hb.cell (p := ⟨w.heap.size, 1, none⟩) (by show w.heap.size < _; omega)).trans km1
    replace kn0 : w2.cell? ⟨w.heap.size + 1, 0, none⟩ = some (.int .i64 t) := (hb.cell (p := ⟨w.heap.size + 1, 0, none⟩) (by show w.heap.size + 1 < _; omega)).trans kn0
    replace kn1 : w2.cell? ⟨w.heap.size + 1, 1, none⟩ = some (.slice a' n c') := (hb.cell (p := ⟨w.heap.size + 1, 1, none⟩) (by show w.heap.size + 1 < _; omega)).trans kn1
    replace kf0 : w2.cell? ⟨w.heap.size + 2, 0, none⟩ = some (.int .i64 p) := (hb.cell (p := ⟨w.heap.size + 2, 0, none⟩) (by show w.heap.size + 2 < _; omega)).trans kf0
    replace kf1 : w2.cell? ⟨w.heap.size + 2, 1, none⟩ = some (.int .i64 q) := (hb.cell (p := ⟨w.heap.size + 2, 1, none⟩) (by show w.heap.size + 2 < _; omega)).trans kf1
    replace c0 : w2.cell? ⟨w.heap.size + 3, 0, none⟩ = some (.int .i64 0) := (hb.cell (p := ⟨w.heap.size + 3, 0, none⟩) (by show w.heap.size + 3 < _; omega)).trans c0
    replace c1 : w2.cell? ⟨w.heap.size + 3, 1, none⟩ = some (.slice none 0 0) := (hb.cell (p := ⟨w.heap.size + 3, 1, none⟩) (by show w.heap.size + 3 < _; omega)).trans c1
    replace f0 : w2.frozen? ⟨w.heap.size + 3, 0, none⟩ = false := (hb.frozen (p := ⟨w.heap.size + 3, 0, none⟩) (by show w.heap.size + 3 < _; omega)).trans f0
    replace f1 : w2.frozen? ⟨w.heap.size + 3, 1, none⟩ = false := (hb.frozen (p := ⟨w.heap.size + 3, 1, none⟩) (by show w.heap.size + 3 < _; omega)).trans f1
    replace HB := Lib.hid (HB.out.trans (hb.mono HB.out.size))
    replace HR1 := Lib.hid (HR1.out.below hb)
    replace HR1' := Lib.hid (HR1'.out.below hb)
    replace hz : w.heap.size + 3 < w2.heap.size := Nat.lt_of_lt_of_le hz hb.size
    clear hb
    have HL1 := Lib.hid HR1.out.lowAt
    have HL2 := Lib.hid HR1'.out.lowAt
    go_wp2_with (at_make; refine wpList_make_full _ rfl _ _ 23 rfl w2.heap.size 3 i0 (.int .i64 0) 1 Try.underlying23 hi hz0' hz1 _ _ _ _ n rfl rfl rfl rfl ?b2 ?b3 (Nat.le_refl _) ?_)
    case b2 => rw [hz2]; omega
    case b3 => unfold maxLen; omega
    intro w3 hown3 hgrow3
    have hb3 : Below w2.heap.size w2 w3 := (Below.refl _ _).grown hgrow3 (Nat.le_refl _) (fun k h => by cases h)
    rw [toList_madeCells_one] at hown3
    replace hown3 : w3.ownsRow w2.heap.size 3 1 (.slice (some ⟨w2.heap.size, 0, none⟩) n n) n ((mixT p q zs ys n 0).map (Value.int .i64)) := by rw [mixT_zero, List.map_replicate]; exact hown3
    have HOWN3 := Lib.hid hown3
    have HB3 := Lib.hid hb3
    clear hown3 hgrow3 hb3 hz2 hz1 hz0' hi
    go_wp2_with fail
    go_loopw [31] (fun i wr => ∃ k : Nat, k ≤ n ∧ i = .int .i64 k ∧ wr.ownsRow w2.heap.size 3 1 (.slice (some ⟨w2.heap.size, 0, none⟩) n n) n ((mixT p q zs ys n k).map (Value.int .i64)) ∧ Below w2.heap.size w2 wr) (fun i _ => n - (intOf i).toNat)
    case atStart => exact ⟨0, Nat.zero_le _, rfl, HOWN3.out, HB3.out⟩
    case round =>
      obtain ⟨k, hk, rfl, hown, hbr⟩ := hrel
      have HBR := Lib.hid hbr
      have HOWN := Lib.hid hown
      have hg : w2.heap.size < wr.heap.size := (hown.lt w2.heap.size rfl).2
      replace km0 : wr.cell? ⟨w.heap.size, 0, none⟩ = some (.int .i64 s) := (hbr.cell (p := ⟨w.heap.size, 0, none⟩) (by show w.heap.size < _; omega)).trans km0
      replace km1 : wr.cell? ⟨w.heap.size, 1, none⟩ = some (.slice a n c) := (hbr.cell (p := ⟨w.heap.size, 1, none⟩) (by show w.heap.size < _; omega)).trans km1
      replace kn0 : wr.cell? ⟨w.heap.size + 1, 0, none⟩ = some (.int .i64 t) := (hbr.cell (p := ⟨w.heap.size + 1, 0, none⟩) (by show w.heap.size + 1 < _; omega)).trans kn0
      replace kn1 : wr.cell? ⟨w.heap.size + 1, 1, none⟩ = some (.slice a' n c') := (hbr.cell (p := ⟨w.heap.size + 1, 1, none⟩) (by show w.heap.size + 1 < _; omega)).trans kn1
      replace kf0 : wr.cell? ⟨w.heap.size + 2, 0, none⟩ = some (.int .i64 p) := (hbr.cell (p := ⟨w.heap.size + 2, 0, none⟩) (by show w.heap.size + 2 < _; omega)).trans kf0
      replace kf1 : wr.cell? ⟨w.heap.size + 2, 1, none⟩ = some (.int .i64 q) := (hbr.cell (p := ⟨w.heap.size + 2, 1, none⟩) (by show w.heap.size + 2 < _; omega)).trans kf1
      replace c0 : wr.cell? ⟨w.heap.size + 3, 0, none⟩ = some (.int .i64 0) := (hbr.cell (p := ⟨w.heap.size + 3, 0, none⟩) (by show w.heap.size + 3 < _; omega)).trans c0
      replace c1 : wr.cell? ⟨w.heap.size + 3, 1, none⟩ = some (.slice none 0 0) := (hbr.cell (p := ⟨w.heap.size + 3, 1, none⟩) (by show w.heap.size + 3 < _; omega)).trans c1
      replace f0 : wr.frozen? ⟨w.heap.size + 3, 0, none⟩ = false := (hbr.frozen (p := ⟨w.heap.size + 3, 0, none⟩) (by show w.heap.size + 3 < _; omega)).trans f0
      replace f1 : wr.frozen? ⟨w.heap.size + 3, 1, none⟩ = false := (hbr.frozen (p := ⟨w.heap.size + 3, 1, none⟩) (by show w.heap.size + 3 < _; omega)).trans f1
      replace HR1 := Lib.hid (HR1.out.below hbr)
      replace HR1' := Lib.hid (HR1'.out.below hbr)
      have hzr : w.heap.size + 3 < wr.heap.size := Nat.lt_of_lt_of_le hz hbr.size
      have zz0 : w.heap.size < wr.heap.size := by omega
      have zz1 : w.heap.size + 1 < wr.heap.size := by omega
      have zz2 : w.heap.size + 2 < wr.heap.size := by omega
      clear hbr hown
      by_cases hlt : k < n
      · have hr1 := HR1.out.at_ (by omega)
        have hr2 := HR1'.out.at_ (by omega)
        have hl1 := HL1.out (by omega)
        have hl2 := HL2.out (by omega)
        obtain ⟨bm, om, rfl, hbm, h1⟩ := hr1
        obtain ⟨bn, on, rfl, hbn, h2⟩ := hr2
        have hbm2 := hl1 bm om rfl
        have hbn2 := hl2 bn on rfl
        clear hl1 hl2
        have gm := h1 k hlt
        have gn := h2 k hlt
        obtain ⟨⟨e1, e2⟩, ⟨e3, e4⟩, ⟨e5, e6⟩, ⟨e7, e8⟩, ⟨e9, e10⟩, ⟨e11, e12⟩, e13, e14⟩ := HBD.out k
        have HMK := Lib.hid (HMG.out k hlt)
        clear h1 h2
        generalize zs.getD k 0 = x at *
        generalize ys.getD k 0 = y at *
        have HE13 := Lib.hid e13
        have HE14 := Lib.hid e14
        clear e13 e14
        have w1a : IntKind.i64.wrap (q - p) = q - p := IntWalk.i64_in _ (by omega)
        have w1b : IntKind.i64.wrap (p * x) = p * x := IntWalk.i64_in _ (by omega)
        have w1c : IntKind.i64.wrap (p * x * W) = p * x * W := IntWalk.i64_in _ (by omega)
        have w1d : IntKind.i64.wrap ((q - p) * y) = (q - p) * y := IntWalk.i64_in _ (by omega)
        have w1e : IntKind.i64.wrap ((q - p) * y * V) = (q - p) * y * V := IntWalk.i64_in _ (by omega)
        have w1f : IntKind.i64.wrap (p * x * W + (q - p) * y * V) = p * x * W + (q - p) * y * V := IntWalk.i64_in _ (by omega)
        have hc := own_cell (k := k) HOWN.out (by omega) (mixT_len HZL.out hk)
        have hfz := HOWN.out.frozenAt k
        have hkn : (k : Int) < (n : Int) := by omega
        have hk0 : (0 : Int) ≤ (k : Int) := by omega
        have H0 : Hid (Below wr.heap.size wr wr.drew) := Lib.hid (Below.refl _ _).drew
        go_wp2_with fail
        go_region_held3 (fun w' => w'.cell? ⟨w.heap.size, 0, none⟩ = some (.int .i64 s) ∧ w'.cell? ⟨w.heap.size, 1, none⟩ = some (.slice (some ⟨bm, om, none⟩) n c) ∧ w'.cell? ⟨w.heap.size + 1, 0, none⟩ = some (.int .i64 t) ∧ w'.cell? ⟨w.heap.size + 1, 1, none⟩ = some (.slice (some ⟨bn, on, none⟩) n c') ∧ w'.cell? ⟨w.heap.size + 2, 0, none⟩ = some (.int .i64 p) ∧ w'.cell? ⟨w.heap.size + 2, 1, none⟩ = some (.int .i64 q) ∧ w'.cell? ⟨bm, om + k, none⟩ = some (.int .i64 x) ∧ w'.cell? ⟨bn, on + k, none⟩ = some (.int .i64 y))
          (first
            | (refine ⟨?_, ?_, ?_, ?_, ?_, ?_, ?_, ?_⟩ <;> go_simp; done)
            | exact ⟨(H2.out.cell (p := ⟨w.heap.size, 0, none⟩) zz0).trans km0, (H2.out.cell (p := ⟨w.heap.size, 1, none⟩) zz0).trans km1, (H2.out.cell (p := ⟨w.heap.size + 1, 0, none⟩) zz1).trans kn0, (H2.out.cell (p := ⟨w.heap.size + 1, 1, none⟩) zz1).trans kn1, (H2.out.cell (p := ⟨w.heap.size + 2, 0, none⟩) zz2).trans kf0, (H2.out.cell (p := ⟨w.heap.size + 2, 1, none⟩) zz2).trans kf1, (H2.out.cell (p := ⟨bm, om + k, none⟩) hbm).trans gm, (H2.out.cell (p := ⟨bn, on + k, none⟩) hbn).trans gn⟩
            | exact ⟨(H1.out.cell (p := ⟨w.heap.size, 0, none⟩) zz0).trans km0, (H1.out.cell (p := ⟨w.heap.size, 1, none⟩) zz0).trans km1, (H1.out.cell (p := ⟨w.heap.size + 1, 0, none⟩) zz1).trans kn0, (H1.out.cell (p := ⟨w.heap.size + 1, 1, none⟩) zz1).trans kn1, (H1.out.cell (p := ⟨w.heap.size + 2, 0, none⟩) zz2).trans kf0, (H1.out.cell (p := ⟨w.heap.size + 2, 1, none⟩) zz2).trans kf1, (H1.out.cell (p := ⟨bm, om + k, none⟩) hbm).trans gm, (H1.out.cell (p := ⟨bn, on + k, none⟩) hbn).trans gn⟩
            | (go_split_ands
               refine ⟨?_, ?_, ?_, ?_, ?_, ?_, ?_, ?_⟩ <;> (rw [World.cell?_setCell_other _ _ _ _ (by intro e; injection e; omega)]; assumption)))
          (first
            | (go_at_call 63; ((with_reducible refine (wholeOf_c s (some ⟨bm, om, none⟩) n c zs HP1.out n16' _ ?hr).mono ?_)); (case hr => (first | exact HR1.out.below H1.out | exact HR1.out.below H0.out)); rintro e tt ⟨rfl, hb⟩; rw [← HV.out]; (first | (have H2 := Lib.hid (H1.out.trans (hb.mono H1.out.size)); have hc2 := (H2.out.cell (p := ⟨w2.heap.size, k, none⟩) hg).trans hc; have hf2 := (H2.out.frozen (p := ⟨w2.heap.size, k, none⟩) hg).trans hfz; clear hb) | (have H1 := Lib.hid (H0.out.trans (hb.mono H0.out.size)); clear hb)))
            | (go_at_call 63; ((with_reducible refine (wholeOf_c t (some ⟨bn, on, none⟩) n c' ys HP2.out n16' _ ?hr).mono ?_)); (case hr => (first | exact HR1'.out.below H1.out | exact HR1'.out.below H0.out)); rintro e tt ⟨rfl, hb⟩; rw [← HWW.out]; (first | (have H2 := Lib.hid (H1.out.trans (hb.mono H1.out.size)); have hc2 := (H2.out.cell (p := ⟨w2.heap.size, k, none⟩) hg).trans hc; have hf2 := (H2.out.frozen (p := ⟨w2.heap.size, k, none⟩) hg).trans hfz; clear hb) | (have H1 := Lib.hid (H0.out.trans (hb.mono H0.out.size)); clear hb))))
        all_goals
          have hst := own_store (k := k) (v := p * x * W + (q - p) * y * V) (rows_below HOWN.out H2.out (fun g hg => (HOWN.out.lt g hg).2))
          rw [← HMK.out, mixT_step HZL.out hlt] at hst
          have HST := Lib.hid hst
          have HBT := Lib.hid (HBR.out.trans (H2.out.mono HBR.out.size))
          clear hst hc hfz hc2 hf2 w1a w1b w1c w1d w1e w1f
          have hgt : w2.heap.size < tt.heap.size := Nat.lt_of_lt_of_le hg H2.out.size
          go_wp2_with fail
          go_roundw
          case rel =>
            refine ⟨k + 1, by omega, by go_num, ?_, ?_⟩
            · have := HST.out
              rw [HMK.out] at this
              exact this
            · exact HBT.out.setCell (Nat.le_refl _) _
          case measure => simp [intOf]; omega
      · have hkn : k = n := by omega
        subst hkn
        have HOW : Hid (Own wr w2.heap.size (.slice (some ⟨w2.heap.size, 0, none⟩) k k) (mixL p q zs ys)) := Lib.hid (by
          have := HOWN.out
          rw [mixT_end HZL.out] at this
          refine ⟨?_, fun y hy => by have := HNN.out y hy; unfold Fits; omega⟩
          rw [mixL_len, HZL.out]
          exact this)
        go_wp2_with fail
        refine (makeMass_c _ _ _ _ (mixL p q zs ys) HNN.out n16 _ HOW.out.rowAt).mono ?_
        rintro e w5 ⟨B, C', rfl, ho, hb⟩
        have HBW := Lib.hid (HB.out.trans (HBR.out.mono (by omega)))
        replace c0 := (hb.cell (p := ⟨w.heap.size + 3, 0, none⟩) (by show w.heap.size + 3 < _; omega)).trans c0
        replace c1 := (hb.cell (p := ⟨w.heap.size + 3, 1, none⟩) (by show w.heap.size + 3 < _; omega)).trans c1
        replace f0 := (hb.frozen (p := ⟨w.heap.size + 3, 0, none⟩) (by show w.heap.size + 3 < _; omega)).trans f0
        replace f1 := (hb.frozen (p := ⟨w.heap.size + 3, 1, none⟩) (by show w.heap.size + 3 < _; omega)).trans f1
        have HO : Hid (Own w5 (w.heap.size + 4) (.slice B (selL (madeB s (mixL p q zs ys)) (madeL (mixL p q zs ys))).length C') (selL (madeB s (mixL p q zs ys)) (madeL (mixL p q zs ys)))) := Lib.hid (ho.low (by omega))
        have HB5 : Hid (Below w.heap.size w w5) := Lib.hid (HBW.out.trans (hb.mono (by omega)))
        clear ho hb
        go_wp2_with fail
        refine bodyPost_ret (v := .tuple #[.agg #[.int .i64 (sel (madeB s (mixL p q zs ys)) s), .slice B (selL (madeB s (mixL p q zs ys)) (madeL (mixL p q zs ys))).length C'], .bool (madeB s (mixL p q zs ys))]) (by simp [results, Try.results38, go_sem, c0, c1]) rfl ?_
        rw [HY.out]
        refine ⟨B, C', rfl, ?_, (HB5.out.setCell (by show w.heap.size ≤ w.heap.size + 3; omega) _).setCell (by show w.heap.size ≤ w.heap.size + 3; omega) _⟩
        refine Own.low (B := w.heap.size + 4) ?_ (by omega)
        exact (HO.out.set ⟨w.heap.size + 3, 0, none⟩ (fun g hg => by have h1 := (HO.out.lt g hg).1; show g ≠ w.heap.size + 3; omega) _).set ⟨w.heap.size + 3, 1, none⟩ (fun g hg => by have h1 := (HO.out.lt g hg).1; show g ≠ w.heap.size + 3; omega) _
end Go.Proofs.Ytemollfejgmlcaa
