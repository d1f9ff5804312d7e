/- Contracts of chapter 3's draws: a share, a mass with a set; two masses compared. Conditions: as stated. -/
import Derived.Test.YtemollfejgmlcaaMt
import Derived.Test.YtemollfejgmlcaaGl
import Derived.Deep.QuietTactic
import Derived.BigQuiet
namespace Go.Proofs.Ytemollfejgmlcaa
open Go.RowKit

set_option maxHeartbeats 1000000 in
theorem weSame_c (a b : Option Addr) (n c d : Nat) (zs : List Int) (w : World) (ha : IsRow .i64 w a n c zs) (hb : IsRow .i64 w b n d zs) :
    Calls Try.prog 29 #[.slice a n c, .slice b n d] w fun e w' => e = .returned (.bool true) ∧ ∃ m, w' = w.drewN m := by
  have hmax : n ≤ 9223372036854775807 := Nat.le_trans ha.2.1 ha.2.2.1
  have hac := ha.at_
  have hbc := hb.at_
  have hnn : ((n : Int) != (n : Int)) = false := by simp
  clear ha hb
  go_enter Try.func29, Try.ntmps29
  go_wp2
  go_loopw [5] (fun i wr => ∃ k : Nat, k ≤ n ∧ i = .int .i64 k ∧ ∃ m, wr = w.drewN m) (fun i _ => n - (intOf i).toNat)
  case atStart => exact ⟨0, Nat.zero_le _, rfl, 0, rfl⟩
  case round =>
    obtain ⟨k, hk, rfl, m, rfl⟩ := hrel
    by_cases hlt : k < n
    · obtain ⟨b1, o1, rfl, _, h1⟩ := hac (by omega)
      obtain ⟨b2, o2, rfl, _, h2⟩ := hbc (by omega)
      have g1 := h1 k hlt
      have g2 := h2 k hlt
      clear h1 h2 hac hbc
      generalize zs.getD k 0 = x at g1 g2
      have hlt' : (k : Int) < (n : Int) := by omega
      have hk0 : (0 : Int) ≤ (k : Int) := by omega
      have hxx : (x != x) = false := by simp
      go_wp2
      go_quiet (fail)
      go_wp2
      go_roundw
      case rel => exact ⟨k + 1, by omega, by go_num, _, rfl⟩
      case measure => simp [intOf]; omega
    · have hge : ¬ (k : Int) < (n : Int) := by omega
      go_wp2
      go_ret
      exact ⟨rfl, m, rfl⟩
set_option maxHeartbeats 1000000 in
theorem weEqual_c (s : Int) (a b : Option Addr) (n c d : Nat) (zs : List Int) (w : World) (ha : IsRow .i64 w a n c zs) (hb : IsRow .i64 w b n d zs) :
    Calls Try.prog 21 #[.agg #[.int .i64 s, .slice a n c], .agg #[.int .i64 s, .slice b n d]] w fun e w' => e = .returned (.bool true) ∧ Below w.heap.size w w' := by
  have HA := Lib.hid ha
  have HB := Lib.hid hb
  have hss : (s == s) = true := by simp
  clear ha hb
  go_enter Try.func21, Try.ntmps21
  go_wp2_with fail
  refine (weSame_c _ _ _ _ _ zs _ ((HA.out.alloc _).alloc _) ((HB.out.alloc _).alloc _)).mono ?_
  rintro e w1 ⟨rfl, m, rfl⟩
  go_wp2_with fail
  go_ret
  exact ⟨rfl, below_drewN (((Below.refl _ _).alloc (Nat.le_refl _) _).alloc (by simp) _) m⟩
set_option maxHeartbeats 4000000 in
theorem l3Part_c (g q : Nat) (hq : q ≤ 700000) (w : World) (hr : Reader w g q) :
    Calls Try.prog 71 #[.pointer (some ⟨g, 0, none⟩)] w fun e w' => ∃ x y, e = .returned (.agg #[.int .i64 x, .int .i64 y]) ∧ w.grownBy w' (some g) := by
  have hlt := hr.lt
  have HR := Lib.hid hr
  clear hr
  go_enter Try.func71, Try.ntmps71
  go_wp2_with fail
  refine (pick_c g q 16 (by omega) (by omega) _ (HR.out.alloc _)).mono ?_
  rintro e w1 ⟨x, rfl, x0, x1, hr1, hg1⟩
  have s1 : w.heap.size < w1.heap.size := by have := hg1.size; simp at this; omega
  have HR1 := Lib.hid hr1
  have HC1 := Lib.hid ((CX.new w 0 0 _).grown hg1 (by omega) (by simp))
  have HG1 := Lib.hid (grown_trans_row (grown_alloc (grown_refl w _) _) hg1)
  clear hr1 hg1 x1
  by_cases hx : x = 0
  · subst hx
    go_wp2_with fail
    refine (l2Open_c g (q + 1) (by omega) _ HR1.out).mono ?_
    rintro e w2 ⟨X, Y, rfl, _, hg2⟩
    obtain ⟨⟨c0, c1⟩, ⟨f0, f1⟩⟩ := HC1.out.grown hg2 (by omega) s1
    have HG2 := Lib.hid (grown_trans_row HG1.out hg2)
    clear hg2
    go_wp2_with fail
    exact bodyPost_ret (v := .agg #[.int .i64 (X), .int .i64 (Y)]) (by simp [results, Try.results71, go_sem, c0, c1]) rfl ⟨_, _, rfl, (by repeat (first | exact HG2.out | (refine grown_set ?_ _ (by first | (simp; omega) | simp | omega) _)))⟩
  · have hxb : (x == 0) = false := by simpa using hx
    go_wp2_with fail
    refine (pick_c g (q + 1) 6 (by omega) (by omega) _ HR1.out).mono ?_
    rintro e w2 ⟨y, rfl, y0, y1, hr2, hg2⟩
    have s2 : w.heap.size < w2.heap.size := Nat.lt_of_lt_of_le s1 hg2.size
    have y2 : y < 6 := by omega
    have HR2 := Lib.hid hr2
    have HC2 := Lib.hid (HC1.out.grown hg2 (by omega) s1)
    have HG2 := Lib.hid (grown_trans_row HG1.out hg2)
    clear hr2 hg2 y1
    go_wp2_with fail
    refine (pick_c g (q + 1 + 1) _ (by omega) (by omega) _ HR2.out).mono ?_
    rintro e w3 ⟨z, rfl, z0, z1, hr3, hg3⟩
    have s3 : w.heap.size < w3.heap.size := Nat.lt_of_lt_of_le s2 hg3.size
    have z2 : z < 8 := by omega
    have HC3 := Lib.hid (HC2.out.grown hg3 (by omega) s2)
    have HG3 := Lib.hid (grown_trans_row HG2.out hg3)
    clear hr3 hg3 z1
    go_wp2_with fail
    refine (l2Made_c _ _ (by unfold Small; omega) (by unfold Small; omega) (by omega) _).mono ?_
    rintro e w4 ⟨rfl, hb4⟩
    generalize sel _ _ = X
    generalize sel _ _ = Y
    generalize lowB _ _ = B
    have s4 : w.heap.size < w4.heap.size := by have := hb4.size; omega
    obtain ⟨⟨c0, c1⟩, ⟨f0, f1⟩⟩ := HC3.out.below hb4 s3
    have HG4 := Lib.hid (grown_below HG3.out hb4)
    clear hb4
    go_wp2_with fail
    exact bodyPost_ret (v := .agg #[.int .i64 (X), .int .i64 (Y)]) (by simp [results, Try.results71, go_sem, c0, c1, s4]) rfl ⟨_, _, rfl, (by repeat (first | exact HG4.out | (refine grown_alloc ?_ _) | (refine grown_set ?_ _ (by first | (simp; omega) | simp | omega) _)))⟩
set_option maxHeartbeats 4000000 in
theorem DrawSimpleMass_c (A : Option Addr) (n c : Nat) (zs : List Int) (w : World) (ha : IsRow .u8 w A n c zs) :
    Calls Try.prog 31 #[.slice A n c] w fun e w' => ∃ s a x y, e = .returned (.tuple #[.int .i64 s, .int .i64 a, .agg #[.int .i64 x, .int .i64 y]]) ∧ Below w.heap.size w w' := by
  have HA := Lib.hid ha
  clear ha
  go_enter Try.func31, Try.ntmps31
  go_wp2_with fail
  refine (l14Open_c _ _ _ _ _ (HA.out.alloc _)).mono ?_
  rintro e w1 ⟨rfl, hr1, hb1⟩
  have hx := (CX.new w 0 0 40).below hb1 (by simp)
  rw [World.size_alloc] at hr1 hb1 ⊢
  have s1 : w.heap.size < w1.heap.size := by have := hb1.size; simp at this; omega
  have HX1 := Lib.hid hx
  have HR1 := Lib.hid hr1
  have HB1 : Hid (Below w.heap.size w w1) := Lib.hid (((Below.refl _ _).alloc (Nat.le_refl _) _).trans (hb1.mono (by omega)))
  clear hx hr1 hb1
  go_wp2_with fail
  refine (l1Size_c _ 0 (by omega) _ HR1.out).mono ?_
  rintro e w2 ⟨s, rfl, hs, hr2, hg2⟩
  have s2 : w.heap.size < w2.heap.size := Nat.lt_of_lt_of_le s1 hg2.size
  have HR2 := Lib.hid hr2
  have HX2 := Lib.hid (HX1.out.grown hg2 (by omega) s1)
  have HB2 := Lib.hid (HB1.out.trans (below_of_grown hg2 (by omega) HB1.out.size))
  clear hr2 hg2
  go_wp2_with fail
  refine (l1Set_c _ _ (by omega) _ HR2.out).mono ?_
  rintro e w3 ⟨a, rfl, hsa, hr3, hg3⟩
  have s3 : w.heap.size < w3.heap.size := Nat.lt_of_lt_of_le s2 hg3.size
  have HR3 := Lib.hid hr3
  have HX3 := Lib.hid (HX2.out.grown hg3 (by omega) s2)
  have HB3 := Lib.hid (HB2.out.trans (below_of_grown hg3 (by omega) HB2.out.size))
  have HSS := Lib.hid hs
  clear hr3 hg3 hsa hs
  rcases h1 : sizeB s with _ | _
  · go_wp2_with (go_at_call 56; refine (spec_SizeValid_c _ _).mono ?_; rintro e w' ⟨rfl, rfl⟩)
    refine (l3Part_c _ _ (by omega) _ HR3.out).mono ?_
    rintro e w4 ⟨x, y, rfl, hg4⟩
    obtain ⟨⟨c0, c1⟩, ⟨f0, f1⟩⟩ := HX3.out.grown hg4 (by omega) s3
    have HB4 := Lib.hid (HB3.out.trans (below_of_grown hg4 (by omega) HB3.out.size))
    clear hg4
    go_wp2_with fail
    exact bodyPost_ret (v := .tuple #[.int .i64 s, .int .i64 a, .agg #[.int .i64 x, .int .i64 y]]) (by simp [results, Try.results31, go_sem, c0, c1]) rfl ⟨_, _, _, _, rfl, (by repeat (first | exact HB4.out | (refine Below.setCell ?_ (by show w.heap.size ≤ w.heap.size; omega) _)))⟩
  rcases h2 : setB 4 a with _ | _
  · go_wp2_with (first | (go_at_call 56; refine (spec_SizeValid_c _ _).mono ?_; rintro e w' ⟨rfl, rfl⟩) | (go_at_call 70; refine (l1Any_c _ _).mono ?_; rintro e w' ⟨rfl, rfl⟩))
    refine (l3Part_c _ _ (by omega) _ HR3.out).mono ?_
    rintro e w4 ⟨x, y, rfl, hg4⟩
    obtain ⟨⟨c0, c1⟩, ⟨f0, f1⟩⟩ := HX3.out.grown hg4 (by omega) s3
    have HB4 := Lib.hid (HB3.out.trans (below_of_grown hg4 (by omega) HB3.out.size))
    clear hg4
    go_wp2_with fail
    exact bodyPost_ret (v := .tuple #[.int .i64 s, .int .i64 a, .agg #[.int .i64 x, .int .i64 y]]) (by simp [results, Try.results31, go_sem, c0, c1]) rfl ⟨_, _, _, _, rfl, (by repeat (first | exact HB4.out | (refine Below.setCell ?_ (by show w.heap.size ≤ w.heap.size; omega) _)))⟩
  obtain ⟨q1, q4⟩ := sizeB_iff.1 h1
  go_wp2_with (first | (go_at_call 56; refine (spec_SizeValid_c _ _).mono ?_; rintro e w' ⟨rfl, rfl⟩) | (go_at_call 70; refine (l1Any_c _ _).mono ?_; rintro e w' ⟨rfl, rfl⟩))
  refine (pick_c _ _ 12 (by omega) (by omega) _ HR3.out).mono ?_
  rintro e w5 ⟨z, rfl, z0, z1, hr5, hg5⟩
  have s5 : w.heap.size < w5.heap.size := Nat.lt_of_lt_of_le s3 hg5.size
  have HR5 := Lib.hid hr5
  have HX5 := Lib.hid (HX3.out.grown hg5 (by omega) s3)
  have HB5 := Lib.hid (HB3.out.trans (below_of_grown hg5 (by omega) HB3.out.size))
  clear hr5 hg5 z1
  by_cases hz : 0 < z
  all_goals
    go_wp2_with fail
    refine (l3Part_c _ _ (by omega) _ HR5.out).mono ?_
    rintro e w4 ⟨x, y, rfl, hg4⟩
    obtain ⟨⟨c0, c1⟩, ⟨f0, f1⟩⟩ := HX5.out.grown hg4 (by omega) s5
    have HB4 := Lib.hid (HB5.out.trans (below_of_grown hg4 (by omega) HB5.out.size))
    clear hg4
    go_wp2_with fail
    refine bodyPost_ret (v := .tuple #[.int .i64 s, .int .i64 _, .agg #[.int .i64 x, .int .i64 y]]) (by simp [results, Try.results31, go_sem, c0, c1]; rfl) rfl ⟨_, _, _, _, rfl, (by repeat (first | exact HB4.out | (refine Below.setCell ?_ (by show w.heap.size ≤ w.heap.size; omega) _)))⟩
end Go.Proofs.Ytemollfejgmlcaa
