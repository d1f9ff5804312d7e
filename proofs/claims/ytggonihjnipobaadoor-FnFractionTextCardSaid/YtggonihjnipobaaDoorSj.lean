/- Contracts: the two draws of FnFractionText. Conditions: none. -/
import Derived.Test.YtggonihjnipobaaDoorSi
import Derived.Deep.RegionHeld3
namespace Go.Proofs.YtggonihjnipobaaDoor
open Go.RowKit

set_option maxRecDepth 100000 in
set_option maxHeartbeats 4000000 in
theorem DrawFormat_c (A : Option Addr) (n c : Nat) (zs : List Int) (w : World) (ha : IsRow .u8 w A n c zs) :
    Calls Tryd.prog 9 #[.slice A n c] w fun e w' => ∃ x y, e = .returned (.agg #[.int .i64 x, .int .i64 y]) ∧ Below w.heap.size w w' := by
  have HA := Lib.hid ha
  clear ha
  go_enter Tryd.func9, Tryd.ntmps9
  go_wp2_with fail
  refine (l14Open_c _ _ _ _ _ (HA.out.alloc _)).mono ?_
  rintro e w1 ⟨rfl, hr1, hb1⟩
  have s1 : w.heap.size < w1.heap.size := Nat.lt_of_lt_of_le (by simp) hb1.size
  have HC1 := Lib.hid ((CX.new w 0 0 23).below hb1 (by simp))
  have HB1 := Lib.hid (chain hb1 (by simp) ((Below.refl w.heap.size w).alloc (Nat.le_refl _) _))
  rw [World.size_alloc] at hr1 hb1 ⊢
  have HR1 := Lib.hid hr1
  clear hr1 hb1
  go_wp2_with fail
  refine (l2Open_c _ 0 (by omega) _ HR1.out).mono ?_
  rintro e w2 ⟨X, Y, rfl, _, hg2⟩
  have HB2 := Lib.hid (HB1.out.trans (below_of_grown hg2 (by omega) HB1.out.size))
  obtain ⟨⟨c0, c1⟩, ⟨f0, f1⟩⟩ := HC1.out.grown hg2 (by omega) s1
  clear hg2
  go_wp2_with fail
  exact bodyPost_ret (v := .agg #[.int .i64 X, .int .i64 Y]) (by simp [results, Tryd.results9, go_sem, c0, c1]) rfl ⟨_, _, rfl, (by repeat (first | exact HB2.out | (refine Below.setCell ?_ (by show w.heap.size ≤ w.heap.size; omega) _)))⟩
theorem quo_wrap {x : Int} (h : 0 ≤ x ∧ x ≤ 4611686018427387904) : IntKind.i64.wrap x = x := by rw [IntKind.wrap_i64]; omega
theorem draw_tail (s s1 t : ByteArray) (k : Nat) (hk : k < s.size) (hs : s.size ≤ 23) (h1 : s1.size ≤ 23) (ht : t.size ≤ 1) (p : Int) (p0 : 0 ≤ p) (p1 : p < 2 ∨ p = 0) :
    ∃ (j : Nat) (s2 : ByteArray), IntKind.i64.wrap ((k : Int) + p) = (j : Int) ∧ (0 : Int) ≤ (j : Int) ∧ (j : Int) ≤ (s.size : Int) ∧ s.extract j s.size = s2 ∧ s2.size ≤ 23 ∧ ¬ 9223372036854775807 < s1.size + t.size + s2.size := by
  have hz : (s.extract ((k : Int) + p).toNat s.size).size ≤ 23 := by rw [ByteArray.size_extract]; omega
  refine ⟨((k : Int) + p).toNat, s.extract ((k : Int) + p).toNat s.size, ?_, by omega, by omega, rfl, hz, by omega⟩
  rw [quo_wrap (by omega)]
  omega
theorem undrew {a b : World} {row : Option Nat} (h : a.drew.grownBy b row) : a.grownBy b row := ⟨h.os, h.tape, h.output, h.size, h.block⟩
theorem reader_drew {w : World} {g q : Nat} (h : Reader w g q) : Reader w.drew g q := h
theorem pickd_c (W w : World) (g q : Nat) (hq : q ≤ 1000000) (hr : Reader w g q) (hW : W = w ∨ W = w.drew) :
    Calls Tryd.prog 32 #[.pointer (some ⟨g, 0, none⟩), .int .i64 2] W fun e w' => ∃ x : Int, e = .returned (.int .i64 x) ∧ 0 ≤ x ∧ (x < 2 ∨ x = 0) ∧ w.grownBy w' (some g) := by
  rcases hW with rfl | rfl
  · refine (pick_c g q 2 hq (by omega) _ hr).mono ?_
    rintro e w' ⟨x, rfl, x0, x1, _, hg⟩
    exact ⟨x, rfl, x0, x1, hg⟩
  · refine (pick_c g q 2 hq (by omega) _ (reader_drew hr)).mono ?_
    rintro e w' ⟨x, rfl, x0, x1, _, hg⟩
    exact ⟨x, rfl, x0, x1, undrew hg⟩
theorem of5_c (W : World) (g q : Nat) (hq : q ≤ 1000000) (w : World) (hr : Reader w g q) (hW : W = w.alloc (.cells #[.string ⟨#[]⟩, .string ⟨#[48]⟩, .string ⟨#[47]⟩, .string ⟨#[45]⟩, .string ⟨#[50]⟩] 9) ∨ W = (w.alloc (.cells #[.string ⟨#[]⟩, .string ⟨#[48]⟩, .string ⟨#[47]⟩, .string ⟨#[45]⟩, .string ⟨#[50]⟩] 9)).drew) :
    Calls Tryd.prog 33 #[.pointer (some ⟨g, 0, none⟩), .slice (some ⟨w.heap.size, 0, none⟩) 5 5] W fun e w' => ∃ t, t.size ≤ 1 ∧ e = .returned (.string t) ∧ Reader w' g (q + 1) ∧ w.grownBy w' (some g) := by
  have h0 : Reader W g q ∧ W.heap.size = w.heap.size + 1 ∧ w.grownBy W (some g) ∧ ∀ i, i < 5 → W.cell? ⟨w.heap.size, i, none⟩ = some (.string (List.getD [⟨#[]⟩, ⟨#[48]⟩, ⟨#[47]⟩, ⟨#[45]⟩, ⟨#[50]⟩] i ⟨#[]⟩)) := by
    have hc : ∀ i, i < 5 → (w.alloc (.cells #[.string ⟨#[]⟩, .string ⟨#[48]⟩, .string ⟨#[47]⟩, .string ⟨#[45]⟩, .string ⟨#[50]⟩] 9)).cell? ⟨w.heap.size, i, none⟩ = some (.string (List.getD [⟨#[]⟩, ⟨#[48]⟩, ⟨#[47]⟩, ⟨#[45]⟩, ⟨#[50]⟩] i ⟨#[]⟩)) := by
      intro i hi
      match i, hi with
      | 0, _ => go_simp
      | 1, _ => go_simp
      | 2, _ => go_simp
      | 3, _ => go_simp
      | 4, _ => go_simp
    rcases hW with rfl | rfl
    · exact ⟨hr.alloc _, World.size_alloc _ _, grown_alloc (grown_refl w _) _, hc⟩
    · exact ⟨reader_drew (hr.alloc _), World.size_alloc _ _, grown_drewN (grown_alloc (grown_refl w _) _) 1, hc⟩
  obtain ⟨h1, h2, h3, h4⟩ := h0
  refine (of_c g q w.heap.size 5 5 [⟨#[]⟩, ⟨#[48]⟩, ⟨#[47]⟩, ⟨#[45]⟩, ⟨#[50]⟩] hq (by decide) (by decide) rfl _ h1 (by omega) h4 (by have := hr.lt; omega)).mono ?_
  rintro e w' ⟨i, hi, rfl, hr1, hg1⟩
  refine ⟨_, ?_, rfl, hr1, grown_trans_row h3 hg1⟩
  match i, hi with
  | 0, _ => decide
  | 1, _ => decide
  | 2, _ => decide
  | 3, _ => decide
  | 4, _ => decide
set_option maxRecDepth 100000 in
set_option maxHeartbeats 4000000 in
theorem DrawParse_c (A : Option Addr) (n c : Nat) (zs : List Int) (w : World) (ha : IsRow .u8 w A n c zs) :
    Calls Tryd.prog 15 #[.slice A n c] w fun e w' => ∃ t, t.size ≤ 1048576 ∧ e = .returned (.string t) ∧ Below w.heap.size w w' := by
  have HA := Lib.hid ha
  clear ha
  go_enter Tryd.func15, Tryd.ntmps15
  go_wp2_with fail
  refine (l14Open_c _ _ _ _ _ HA.out).mono ?_
  rintro e w1 ⟨rfl, hr1, hb1⟩
  have HR1 := Lib.hid hr1
  have HB1 := Lib.hid hb1
  clear hr1 hb1
  go_wp2_with fail
  refine (l2SomeB_c _ 0 (by omega) _ HR1.out).mono ?_
  rintro e w2 ⟨X, Y, hbd, rfl, hr2, hg2⟩
  have HR2 := Lib.hid hr2
  have HB2 := Lib.hid (HB1.out.trans (below_of_grown hg2 (Nat.le_refl _) HB1.out.size))
  have HBd := Lib.hid hbd
  clear hr2 hg2 hbd
  go_wp2_with fail
  refine (l2Text_c X Y HBd.out.1 HBd.out.2 _).mono ?_
  rintro e w3 ⟨rfl, hb3⟩
  obtain ⟨z1, z2⟩ := text_small HBd.out
  generalize fracText X Y = s at *
  have HR3 := Lib.hid (HR2.out.below hb3)
  have HB3 := Lib.hid (chain hb3 HB2.out.size HB2.out)
  clear hb3
  go_wp2_with fail
  refine (pick_c _ 4 _ (by omega) (by omega) _ HR3.out).mono ?_
  rintro e w4 ⟨x, rfl, x0, x1, hr4, hg4⟩
  have HR4 := Lib.hid hr4
  have HB4 := Lib.hid (HB3.out.trans (below_of_grown hg4 (Nat.le_refl _) HB3.out.size))
  clear hr4 hg4
  by_cases h0 : x = 0
  · subst h0
    go_wp2_with fail
    go_ret
    exact ⟨s, by omega, rfl, HB4.out⟩
  · have h0b : (x == 0) = false := by simpa using h0
    go_wp2_with fail
    refine (pick_c _ 5 _ (by omega) (by omega) _ HR4.out).mono ?_
    rintro e w5 ⟨k0, rfl, k1, k2, hr5, hg5⟩
    obtain ⟨k, rfl⟩ : ∃ k : Nat, k0 = (k : Int) := ⟨k0.toNat, by omega⟩
    have hk : k < s.size := by omega
    obtain ⟨s1, hE⟩ : ∃ s1, s.extract 0 k = s1 := ⟨_, rfl⟩
    have zs1 : s1.size ≤ 23 := by rw [← hE, ByteArray.size_extract]; omega
    have kk0 : (0 : Int) ≤ (k : Int) := by omega
    have kk1 : (k : Int) ≤ (s.size : Int) := by omega
    have HR5 := Lib.hid hr5
    have hlt5 := hr5.lt
    have HB5 := Lib.hid (HB4.out.trans (below_of_grown hg5 (Nat.le_refl _) HB4.out.size))
    clear hr5 hg5 k2
    go_wp2_with fail
    go_region_held3 (fun _ => True)
      (first | exact True.intro)
      (first
        | (go_at_call 33; refine Calls.mono (by first | with_reducible exact of5_c _ _ 6 (by omega) _ HR5.out (Or.inl rfl) | with_reducible exact of5_c _ _ 6 (by omega) _ HR5.out (Or.inr rfl)) ?_; rintro e w6 ⟨t, ht, rfl, hr6, hg6⟩; have g1 : ¬ 9223372036854775807 < s1.size + t.size := (by omega); have HR6 := Lib.hid hr6; have HB6 := Lib.hid (HB5.out.trans (below_of_grown hg6 (Nat.le_refl _) HB5.out.size)); clear hr6 hg6)
        | (go_at_call 32; refine Calls.mono (by first | with_reducible exact pickd_c _ _ _ 7 (by omega) HR6.out (Or.inl rfl) | with_reducible exact pickd_c _ _ _ 7 (by omega) HR6.out (Or.inr rfl)) ?_; rintro e w7 ⟨p, rfl, p0, p1, hg7⟩; obtain ⟨j, s2, pw, pk0, pk1, hE2, zs2, g2⟩ := draw_tail s s1 t k hk z2 zs1 ht p p0 p1; have HB7 := Lib.hid (HB6.out.trans (below_of_grown hg7 (Nat.le_refl _) HB6.out.size)); clear hg7))
    all_goals
      go_wp2_with fail
      go_ret
      exact ⟨_, by simp; omega, rfl, HB7.out⟩
end Go.Proofs.YtggonihjnipobaaDoor
