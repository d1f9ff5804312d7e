/- Contracts of chapter 3's draws: a mass drawn. Conditions: as stated. -/
import Derived.Test.YtemollfejgmlcaaMj
import Derived.Test.YtemollfejgmlcaaWj
import Derived.Test.YtemollfejgmlcaaMh
import Derived.Test.YtemollfejgmlcaaWs
import Derived.Deep.DeepCutAuto
import Derived.StillTailTactics
import Derived.Deep.CutBlock
namespace Go.Proofs.Ytemollfejgmlcaa
open Go.RowKit

/-- While a mass is drawn: the reader, and the parts that the draw owns. -/
structure Drawing (w w' : World) (g q pb N : Nat) (M : Int) (xs : List Int) : Prop where
  rd : Reader w' g q
  gr : w.grownBy w' (some g)
  own : w'.ownsRow w.heap.size 3 1 (.slice (some ⟨pb, 0, none⟩) N N) N (xs.map (Value.int .i64))
  len : xs.length = N
  bd : ∀ x ∈ xs, 0 ≤ x ∧ x ≤ M
theorem grown_none {a b : World} (h : a.grownBy b none) (row : Option Nat) : a.grownBy b row := ⟨h.os, h.tape, h.output, h.size, fun i hi _ => h.block i hi (by simp)⟩
section
variable {w w' w'' : World} {g q pb N : Nat} {M M' : Int} {xs : List Int}
theorem Drawing.pbg (h : Drawing w w' g q pb N M xs) : w.heap.size ≤ pb ∧ pb < w'.heap.size := h.own.lt pb rfl
theorem Drawing.pick (h : Drawing w w' g q pb N M xs) (hlt : g < w.heap.size) (hr : Reader w'' g (q + 1)) (hg : w'.grownBy w'' (some g)) : Drawing w w'' g (q + 1) pb N M xs :=
  ⟨hr, grown_trans_row h.gr hg, h.own.kept hg (.inr (by have := h.pbg.1; intro e; have e2 : pb = g := (by simpa [Value.ownBlock] using e); omega)), h.len, h.bd⟩
theorem Drawing.drew (h : Drawing w w' g q pb N M xs) : Drawing w w'.drew g q pb N M xs := ⟨h.rd, ⟨h.gr.os, h.gr.tape, h.gr.output, h.gr.size, h.gr.block⟩, h.own, h.len, h.bd⟩
theorem Drawing.store (h : Drawing w w' g q pb N M xs) (hlt : g < w.heap.size) (k : Nat) (v : Int) (hv : 0 ≤ v ∧ v ≤ M') (hM : M ≤ M') : Drawing w (w'.setCell ⟨pb, k, none⟩ (.int .i64 v)) g q pb N M' (xs.set k v) := by
  have hp := h.pbg
  have hst := (h.own.stored k (.int .i64 v)).1
  rw [← List.map_set] at hst
  refine ⟨reader_set h.rd _ (by show g < pb; omega) _, grown_set h.gr _ (by show w.heap.size ≤ pb; omega) _, hst, by rw [List.length_set]; exact h.len, fun x hx => ?_⟩
  rcases List.mem_or_eq_of_mem_set hx with h1 | h1
  · have := h.bd x h1; omega
  · rw [h1]; exact hv
theorem Drawing.cell (h : Drawing w w' g q pb N M xs) {k : Nat} (hk : k < N) : ∃ v, (0 ≤ v ∧ v ≤ M) ∧ w'.cell? ⟨pb, k, none⟩ = some (.int .i64 v) := by
  have hl := h.len
  refine ⟨xs.getD k 0, h.bd _ (getD_mem (by omega)), ?_⟩
  have := h.own.cellAt k (by omega)
  rw [this, List.getElem?_map, List.getElem?_eq_getElem (by omega), List.getD_eq_getElem?_getD, List.getElem?_eq_getElem (by omega)]
  rfl
theorem Drawing.more (h : Drawing w w' g q pb N M xs) {q' : Nat} (hq : q ≤ q') (hM : M ≤ M') : Drawing w w' g q' pb N M' xs :=
  ⟨h.rd.more hq, h.gr, h.own, h.len, fun x hx => by have := h.bd x hx; omega⟩
end
theorem or_lt {a b : Nat} {n : Nat} (hn : n ≤ 4) (ha : a < 2 ^ n) (hb : b < 2 ^ n) : bits .or .i64 (a : Int) (b : Int) = ((a ||| b : Nat) : Int) ∧ (a ||| b) < 2 ^ n := by
  have h16 : 2 ^ n ≤ 2 ^ 4 := Nat.pow_le_pow_right (by omega) hn
  have e := or_nat (a := (a : Int)) (b := (b : Int)) (by omega) (by omega)
  rw [Int.toNat_natCast, Int.toNat_natCast] at e
  exact ⟨e, Nat.or_lt_two_pow ha hb⟩
theorem four_sizes {s : Int} {N : Nat} (hs : 1 ≤ s ∧ s ≤ 4) (h : (2 : Int) ^ s.toNat = (N : Int)) : (s = 1 ∧ N = 2) ∨ (s = 2 ∧ N = 4) ∨ (s = 3 ∧ N = 8) ∨ (s = 4 ∧ N = 16) := by
  rcases two_pow_cases hs with ⟨h1, e⟩ | ⟨h1, e⟩ | ⟨h1, e⟩ | ⟨h1, e⟩ <;> omega
theorem sure_mass {s a : Int} (hs : 1 ≤ s ∧ s ≤ 4) (ha : 0 ≤ a ∧ a < 2 ^ s.toNat) : massB s (sureL s a) = true := by
  have h : ∀ s : Fin 5, 1 ≤ s.val → ∀ a : Fin 16, a.val < 2 ^ s.val → massB (s.val : Int) (sureL (s.val : Int) (a.val : Int)) = true := by decide +kernel
  have h2 := two_pow_cases hs
  have := h ⟨s.toNat, by omega⟩ (by show 1 ≤ s.toNat; omega) ⟨a.toNat, by omega⟩ (by
    show a.toNat < 2 ^ s.toNat
    have e : ((2 ^ s.toNat : Nat) : Int) = (2 : Int) ^ s.toNat := by rw [Int.natCast_pow]; rfl
    omega)
  rwa [show ((s.toNat : Nat) : Int) = s by omega, show ((a.toNat : Nat) : Int) = a by omega] at this
set_option maxRecDepth 100000 in
set_option maxHeartbeats 4000000 in
theorem l3Draw_c (g q : Nat) (s : Int) (hq : q ≤ 800000) (hs : 1 ≤ s ∧ s ≤ 4) (w : World) (hr : Reader w g q) :
    Calls Try.prog 88 #[.pointer (some ⟨g, 0, none⟩), .int .i64 s] w fun e w' => ∃ zs A C, e = .returned (.agg #[.int .i64 s, .slice A zs.length C]) ∧ massB s zs = true ∧ Own w' w.heap.size (.slice A zs.length C) zs ∧ Reader w' g (q + 16) ∧ w.grownBy w' (some g) := by
  obtain ⟨i0, hi, hz0, hz1, hz2⟩ := info_parts Try.infoInt
  obtain ⟨N, hN, hW, hN2, hN16⟩ := pow_form hs
  have h4 := four_sizes hs hN
  have HN := Lib.hid hN
  obtain ⟨s0, s1⟩ := hs
  have hlt := hr.lt
  have HR := Lib.hid hr
  clear hr
  go_enter Try.func88, Try.ntmps88
  go_wp2_with (at_make; (try rw [hW]); refine wpList_make_full _ rfl _ _ 23 rfl (w.heap.size + 1) 3 i0 (.int .i64 0) 1 Try.underlying23 hi hz0 hz1 _ _ _ _ N rfl rfl rfl rfl ?b2 ?b3 ?b4 ?_)
  case b4 => simp
  case b2 => rw [hz2]; omega
  case b3 => unfold maxLen; omega
  intro w1 hown1 hgrow1
  obtain ⟨W0, hW0⟩ : ∃ x, x = w.alloc (.cells #[.int .i64 0, .slice none 0 0] 25) := ⟨_, rfl⟩
  have hWs : W0.heap.size = w.heap.size + 1 := by rw [hW0]; simp
  have HWG : Hid (w.grownBy W0 (some g)) := Lib.hid (by rw [hW0]; exact grown_alloc (grown_refl _ _) _)
  have HC0 : Hid (W0.cell? ⟨w.heap.size, 0, none⟩ = some (.int .i64 0)) := Lib.hid (by rw [hW0]; go_simp)
  have HC1 : Hid (W0.cell? ⟨w.heap.size, 1, none⟩ = some (.slice none 0 0)) := Lib.hid (by rw [hW0]; go_simp)
  have HF0 : Hid (W0.frozen? ⟨w.heap.size, 0, none⟩ = false) := Lib.hid (by rw [hW0]; go_simp)
  have HF1 : Hid (W0.frozen? ⟨w.heap.size, 1, none⟩ = false) := Lib.hid (by rw [hW0]; go_simp)
  have hlt0 : g < W0.heap.size := by omega
  have D1 : Hid (Drawing W0 w1 g q (w.heap.size + 1) N 0 (List.replicate N 0)) := Lib.hid (by
    rw [toList_madeCells_one] at hown1
    rw [← hW0] at hgrow1
    refine ⟨(show Reader W0 g q by rw [hW0]; exact HR.out.alloc _).kept hgrow1 (fun k e => by cases e), grown_none hgrow1 _, ?_, by simp, fun x hx => by have := List.eq_of_mem_replicate hx; omega⟩
    rw [List.map_replicate, hWs]
    simpa using hown1)
  have HWS := Lib.hid hWs
  have hb1 : True := trivial
  clear hW0 hWs
  clear hown1 hgrow1 hb1 hz2 hz1 hz0 hi hW
  go_wp2_with fail
  refine (pick_c g q 6 (by omega) (by omega) _ D1.out.rd).mono ?_
  rintro e w2 ⟨x, rfl, x0, x1, hr2, hg2⟩
  have D2 := Lib.hid (D1.out.pick hlt0 hr2 hg2)
  clear hr2 hg2
  go_upto_block 0 with fail
  go_cut [7] (fun v wx => ∃ xs, Drawing W0 wx g (q + 15) (w.heap.size + 1) N 1000 xs)
  case first =>
    by_cases hx0 : x = 0
    · subst hx0
      go_wp2_with fail
      go_loopw [7] (fun i wr => ∃ k : Nat, (k : Int) ≤ s ∧ i = .int .i64 k ∧ ∃ xs, Drawing W0 wr g (q + 1 + k) (w.heap.size + 1) N 3 xs) (fun i _ => (s - intOf i).toNat)
      case atStart => exact ⟨0, by omega, rfl, _, D2.out.more (Nat.le_refl _) (by omega)⟩
      case round =>
        obtain ⟨k, hk, rfl, xs, hd⟩ := hrel
        have DK := Lib.hid hd
        clear hd
        by_cases hlk : (k : Int) < s
        · have hk4 : k = 0 ∨ k = 1 ∨ k = 2 ∨ k = 3 := by omega
          rcases hk4 with rfl | rfl | rfl | rfl
          all_goals
            go_wp2_with fail
            refine (pick_c g _ 4 (by omega) (by omega) _ DK.out.rd).mono ?_
            rintro e w3 ⟨y, rfl, y0, y1, hr3, hg3⟩
            have D3 := Lib.hid (DK.out.pick hlt0 hr3 hg3)
            clear hr3 hg3
            first
              | (obtain ⟨v, hv, hc⟩ := D3.out.cell (k := 1) (by omega)
                 have hf := D3.out.own.frozenAt 1
                 have D4 := Lib.hid (D3.out.store hlt0 1 y (M' := 3) ⟨y0, by omega⟩ (Int.le_refl _))
                 go_wp2_with fail
                 go_roundw
                 case rel => exact ⟨1, by omega, by go_num, _, D4.out⟩
                 case measure => simp [intOf]; omega)
              | (obtain ⟨v, hv, hc⟩ := D3.out.cell (k := 2) (by omega)
                 have hf := D3.out.own.frozenAt 2
                 have D4 := Lib.hid (D3.out.store hlt0 2 y (M' := 3) ⟨y0, by omega⟩ (Int.le_refl _))
                 go_wp2_with fail
                 go_roundw
                 case rel => exact ⟨2, by omega, by go_num, _, D4.out⟩
                 case measure => simp [intOf]; omega)
              | (obtain ⟨v, hv, hc⟩ := D3.out.cell (k := 4) (by omega)
                 have hf := D3.out.own.frozenAt 4
                 have D4 := Lib.hid (D3.out.store hlt0 4 y (M' := 3) ⟨y0, by omega⟩ (Int.le_refl _))
                 go_wp2_with fail
                 go_roundw
                 case rel => exact ⟨3, by omega, by go_num, _, D4.out⟩
                 case measure => simp [intOf]; omega)
              | (obtain ⟨v, hv, hc⟩ := D3.out.cell (k := 8) (by omega)
                 have hf := D3.out.own.frozenAt 8
                 have D4 := Lib.hid (D3.out.store hlt0 8 y (M' := 3) ⟨y0, by omega⟩ (Int.le_refl _))
                 go_wp2_with fail
                 go_roundw
                 case rel => exact ⟨4, by omega, by go_num, _, D4.out⟩
                 case measure => simp [intOf]; omega)
        · go_wp2_with fail
          go_meet
          exact ⟨_, DK.out.more (by omega) (by omega)⟩
    · have hx0b : (x == 0) = false := by simpa using hx0
      by_cases hx1 : x = 1
      · subst hx1
        have hNn : 2 ^ s.toNat = N := by
          have e : ((2 ^ s.toNat : Nat) : Int) = (2 : Int) ^ s.toNat := by rw [Int.natCast_pow]; rfl
          omega
        have HNN := Lib.hid hNn
        clear hNn
        go_upto_region 16 with fail
        go_cut [8] (fun a wx => ∃ A : Nat, a = .int .i64 (A : Int) ∧ A < N ∧ Drawing W0 wx g (q + 2) (w.heap.size + 1) N 0 (List.replicate N 0))
        case first =>
          go_wp2_with fail
          refine (pick_c g _ _ (by omega) (by omega) _ D2.out.rd).mono ?_
          rintro e w3 ⟨y, rfl, y0, y1, hr3, hg3⟩
          have D3 := Lib.hid (D2.out.pick hlt0 hr3 hg3)
          clear hr3 hg3
          obtain ⟨Y, rfl⟩ := Int.eq_ofNat_of_zero_le y0
          have hY : Y = 0 ∨ Y = 1 ∨ Y = 2 ∨ Y = 3 := by omega
          rcases hY with rfl | rfl | rfl | rfl
          · go_wp2_with fail
            go_meet
            exact ⟨1, rfl, by omega, D3.out⟩
          · go_wp2_with fail
            go_meet
            exact ⟨2, rfl, by omega, D3.out⟩
          · go_wp2_with fail
            go_meet
            exact ⟨4, rfl, by omega, D3.out⟩
          · go_wp2_with fail
            go_meet
            exact ⟨8, rfl, by omega, D3.out⟩
        case rest =>
          obtain ⟨A, rfl, hA, hd⟩ := hcut
          have D3 := Lib.hid hd
          clear hd
          go_wp2_with fail
          go_loopw [8, 9] (fun a i wr => ∃ k A : Nat, (k : Int) ≤ s ∧ i = .int .i64 k ∧ a = .int .i64 (A : Int) ∧ A < N ∧ ∃ xs, Drawing W0 wr g (q + 2 + 2 * k) (w.heap.size + 1) N (3 * k) xs) (fun _ i _ => (s - intOf i).toNat)
          case atStart => exact ⟨0, A, by omega, rfl, rfl, hA, _, D3.out.more (by omega) (by omega)⟩
          case round =>
            obtain ⟨k, A, hk, rfl, rfl, hA, xs, hd⟩ := hrel
            have DK := Lib.hid hd
            clear hd
            by_cases hlk : (k : Int) < s
            · go_upto_region 20 with fail
              go_cut [8] (fun a wx => a = .int .i64 (A : Int) ∧ ∃ xs, Drawing W0 wx g (q + 2 + 2 * k + 1) (w.heap.size + 1) N (3 * k + 3) xs)
              case first =>
                obtain ⟨u, hu, hc⟩ := DK.out.cell (k := A) (by omega)
                have hf := DK.out.own.frozenAt A
                go_region_with (go_at_call 52; refine (pick_c g _ 4 (by omega) (by omega) _ DK.out.drew.rd).mono ?_; rintro e w6 ⟨t, rfl, t0, t1, hr6, hg6⟩; have D6 := Lib.hid (DK.out.drew.pick hlt0 hr6 hg6); clear hr6 hg6; obtain ⟨u2, hu2, hc2⟩ := D6.out.cell (k := A) (by omega); have hf2 := D6.out.own.frozenAt A)
                all_goals
                  first
                    | (have D7 := Lib.hid (D6.out.store hlt0 A (IntKind.i64.wrap (u2 + t)) (M' := 3 * k + 3) (by rw [IntWalk.i64_in _ (by omega)]; omega) (by omega))
                       go_wp2_with fail
                       go_meet
                       exact ⟨rfl, _, D7.out⟩)
                    | (have D7 := Lib.hid (D6.out.store hlt0 A (IntKind.i64.wrap (u + t)) (M' := 3 * k + 3) (by rw [IntWalk.i64_in _ (by omega)]; omega) (by omega))
                       go_wp2_with fail
                       go_meet
                       exact ⟨rfl, _, D7.out⟩)
              case rest =>
                obtain ⟨rfl, xs, hd⟩ := hcut
                have D6 := Lib.hid hd
                clear hd
                go_wp2_with fail
                refine (pick_c g _ _ (by omega) (by omega) _ D6.out.rd).mono ?_
                rintro e w7 ⟨y, rfl, y0, y1, hr7, hg7⟩
                have D7 := Lib.hid (D6.out.pick hlt0 hr7 hg7)
                clear hr7 hg7
                obtain ⟨Y, rfl⟩ := Int.eq_ofNat_of_zero_le y0
                have hY : Y = 0 ∨ Y = 1 ∨ Y = 2 ∨ Y = 3 := by omega
                have hor : ∀ b : Nat, b < N → bits .or .i64 (A : Int) (b : Int) = ((A ||| b : Nat) : Int) ∧ (A ||| b) < N := by
                  have e := HNN.out
                  intro b hb
                  rw [← e] at hA hb ⊢
                  exact or_lt (by omega) hA hb
                rcases hY with rfl | rfl | rfl | rfl
                · obtain ⟨ho, hl⟩ := hor 1 (by omega)
                  go_wp2_with fail
                  go_roundw
                  case rel => exact ⟨k + 1, A ||| 1, by omega, by go_num, by rw [← ho]; rfl, hl, _, D7.out.more (by omega) (by omega)⟩
                  case measure => simp [intOf]; omega
                · obtain ⟨ho, hl⟩ := hor 2 (by omega)
                  go_wp2_with fail
                  go_roundw
                  case rel => exact ⟨k + 1, A ||| 2, by omega, by go_num, by rw [← ho]; rfl, hl, _, D7.out.more (by omega) (by omega)⟩
                  case measure => simp [intOf]; omega
                · obtain ⟨ho, hl⟩ := hor 4 (by omega)
                  go_wp2_with fail
                  go_roundw
                  case rel => exact ⟨k + 1, A ||| 4, by omega, by go_num, by rw [← ho]; rfl, hl, _, D7.out.more (by omega) (by omega)⟩
                  case measure => simp [intOf]; omega
                · obtain ⟨ho, hl⟩ := hor 8 (by omega)
                  go_wp2_with fail
                  go_roundw
                  case rel => exact ⟨k + 1, A ||| 8, by omega, by go_num, by rw [← ho]; rfl, hl, _, D7.out.more (by omega) (by omega)⟩
                  case measure => simp [intOf]; omega
            · go_wp2_with fail
              go_meet
              exact ⟨_, DK.out.more (by omega) (by omega)⟩
      · have hx1b : (x == 1) = false := by simpa using hx1
        by_cases hx2 : x = 2
        · subst hx2
          go_wp2_with fail
          refine (pick_c g _ _ (by omega) (by omega) _ D2.out.rd).mono ?_
          rintro e w3 ⟨y, rfl, y0, y1, hr3, hg3⟩
          have D3 := Lib.hid (D2.out.pick hlt0 hr3 hg3)
          clear hr3 hg3
          obtain ⟨Y, rfl⟩ := Int.eq_ofNat_of_zero_le y0
          go_wp2_with fail
          refine (pick_c g _ 3 (by omega) (by omega) _ D3.out.rd).mono ?_
          rintro e w4 ⟨z, rfl, z0, z1, hr4, hg4⟩
          have D4 := Lib.hid (D3.out.pick hlt0 hr4 hg4)
          clear hr4 hg4
          obtain ⟨v, hv, hc⟩ := D4.out.cell (k := Y) (by omega)
          have hf := D4.out.own.frozenAt Y
          have D5 := Lib.hid (D4.out.store hlt0 Y (1 + z) (M' := 3) (by omega) (by omega))
          go_upto_region 24 with fail
          revert D5
          generalize w4.setCell ⟨w.heap.size + 1, Y, none⟩ (.int .i64 (1 + z)) = w5
          intro D5
          clear hc hf
          obtain ⟨T, rfl⟩ : ∃ T, N = T + 1 := ⟨N - 1, by omega⟩
          have hT : ((T + 1 : Nat) : Int) - 1 = (T : Int) := by omega
          rw [hT]
          obtain ⟨u, hu, hc⟩ := D5.out.cell (k := T) (by omega)
          have hf := D5.out.own.frozenAt T
          go_region_with (go_at_call 52; refine (pick_c g _ 4 (by omega) (by omega) _ D5.out.drew.rd).mono ?_; rintro e w6 ⟨t, rfl, t0, t1, hr6, hg6⟩; have D6 := Lib.hid (D5.out.drew.pick hlt0 hr6 hg6); clear hr6 hg6; obtain ⟨u2, hu2, hc2⟩ := D6.out.cell (k := T) (by omega); have hf2 := D6.out.own.frozenAt T)
          all_goals
            first
              | (have D7 := Lib.hid (D6.out.store hlt0 T (IntKind.i64.wrap (u2 + t)) (M' := 6) (by rw [IntWalk.i64_in _ (by omega)]; omega) (by omega))
                 go_wp2_with fail
                 rw [← hT]
                 go_meet
                 exact ⟨_, D7.out.more (by omega) (by omega)⟩)
              | (have D7 := Lib.hid (D6.out.store hlt0 T (IntKind.i64.wrap (u + t)) (M' := 6) (by rw [IntWalk.i64_in _ (by omega)]; omega) (by omega))
                 go_wp2_with fail
                 rw [← hT]
                 go_meet
                 exact ⟨_, D7.out.more (by omega) (by omega)⟩)
        · have hx2b : (x == 2) = false := by simpa using hx2
          go_wp2_with fail
          refine (pick_c g _ 3 (by omega) (by omega) _ D2.out.rd).mono ?_
          rintro e w3 ⟨y, rfl, y0, y1, hr3, hg3⟩
          have D3 := Lib.hid (D2.out.pick hlt0 hr3 hg3)
          clear hr3 hg3
          go_wp2_with fail
          go_loopw [10] (fun i wr => ∃ k : Nat, (k : Int) ≤ 4 ∧ i = .int .i64 k ∧ ∃ xs, Drawing W0 wr g (q + 2 + 2 * (4 - k)) (w.heap.size + 1) N 4 xs) (fun i _ => (intOf i).toNat)
          case atStart => exact ⟨(2 + y).toNat, by omega, by rw [show (((2 + y).toNat : Nat) : Int) = 2 + y by omega], _, D3.out.more (by omega) (by omega)⟩
          case round =>
            obtain ⟨k, hk, rfl, xs, hd⟩ := hrel
            have DK := Lib.hid hd
            clear hd
            by_cases hlk : 0 < (k : Int)
            · go_wp2_with fail
              refine (pick_c g _ _ (by omega) (by omega) _ DK.out.rd).mono ?_
              rintro e w4 ⟨y, rfl, y0, y1, hr4, hg4⟩
              have D4 := Lib.hid (DK.out.pick hlt0 hr4 hg4)
              clear hr4 hg4
              obtain ⟨Y, rfl⟩ := Int.eq_ofNat_of_zero_le y0
              go_wp2_with fail
              refine (pick_c g _ 5 (by omega) (by omega) _ D4.out.rd).mono ?_
              rintro e w5 ⟨z, rfl, z0, z1, hr5, hg5⟩
              have D5 := Lib.hid (D4.out.pick hlt0 hr5 hg5)
              clear hr5 hg5
              obtain ⟨v, hv, hc⟩ := D5.out.cell (k := Y) (by omega)
              have hf := D5.out.own.frozenAt Y
              have D6 := Lib.hid (D5.out.store hlt0 Y z (M' := 4) (by omega) (by omega))
              go_wp2_with fail
              go_roundw
              case rel => exact ⟨k - 1, by omega, by go_num, _, D6.out.more (by omega) (by omega)⟩
              case measure => simp [intOf]; omega
            · go_wp2_with fail
              refine (pick_c g _ 3 (by omega) (by omega) _ DK.out.rd).mono ?_
              rintro e w4 ⟨y, rfl, y0, y1, hr4, hg4⟩
              have D4 := Lib.hid (DK.out.pick hlt0 hr4 hg4)
              clear hr4 hg4
              obtain ⟨v, hv, hc⟩ := D4.out.cell (k := 0) (by omega)
              have hf := D4.out.own.frozenAt 0
              have D5 := Lib.hid (D4.out.store hlt0 0 0 (M' := 4) (by omega) (by omega))
              by_cases hy : 0 < y
              · go_wp2_with fail
                go_meet
                exact ⟨_, D5.out.more (by omega) (by omega)⟩
              · go_wp2_with fail
                go_meet
                exact ⟨_, D4.out.more (by omega) (by omega)⟩
  case rest =>
    obtain ⟨xs, hd⟩ := hcut
    have DX := Lib.hid hd
    have hpb := hd.pbg
    have HOX : Hid (Own wc W0.heap.size (.slice (some ⟨w.heap.size + 1, 0, none⟩) N N) xs) := Lib.hid ⟨by rw [hd.len]; exact hd.own, fun y hy => by have := hd.bd y hy; unfold Fits; omega⟩
    have HNS : Hid (Nns xs) := Lib.hid (fun y hy => by have := hd.bd y hy; omega)
    clear hd
    go_wp2_with fail
    refine (l3Made_c s _ _ _ xs HNS.out hN16 _ HOX.out.rowAt).mono ?_
    rintro e w5 ⟨B, C, rfl, ho, hb⟩
    have hws := HWS.out
    have hgz : w.heap.size < wc.heap.size := by omega
    have c0 : w5.cell? ⟨w.heap.size, 0, none⟩ = some (.int .i64 0) := (hb.cell (p := ⟨w.heap.size, 0, none⟩) hgz).trans (DX.out.gr.cell HC0.out (by intro e; injection e with e; simp at e; omega))
    have c1 : w5.cell? ⟨w.heap.size, 1, none⟩ = some (.slice none 0 0) := (hb.cell (p := ⟨w.heap.size, 1, none⟩) hgz).trans (DX.out.gr.cell HC1.out (by intro e; injection e with e; simp at e; omega))
    have eb := DX.out.gr.block w.heap.size (by omega) (by intro e; injection e with e; omega)
    have f0 : w5.frozen? ⟨w.heap.size, 0, none⟩ = false := (hb.frozen (p := ⟨w.heap.size, 0, none⟩) hgz).trans ((frozen_of_block (a := ⟨w.heap.size, 0, none⟩) eb).trans HF0.out)
    have f1 : w5.frozen? ⟨w.heap.size, 1, none⟩ = false := (hb.frozen (p := ⟨w.heap.size, 1, none⟩) hgz).trans ((frozen_of_block (a := ⟨w.heap.size, 1, none⟩) eb).trans HF1.out)
    have HRD := Lib.hid ((DX.out.rd.more (show q + 15 ≤ q + 16 by omega)).below hb)
    have HGR := Lib.hid (grown_below (grown_trans_row HWG.out DX.out.gr) hb)
    have hg5 : w.heap.size < w5.heap.size := Nat.lt_of_lt_of_le hgz hb.size
    rcases hmb : madeB s xs with _ | _
    · try rw [hmb] at ho
      have HTOP := Lib.hid (show 0 ≤ (N : Int) - 1 ∧ (N : Int) - 1 < 2 ^ s.toNat by rw [HN.out]; omega)
      have HSM := Lib.hid (sure_mass ⟨s0, s1⟩ HTOP.out)
      clear ho hb eb
      go_wp2_with fail
      refine (l3Sure_c s ((N : Int) - 1) ⟨s0, s1⟩ HTOP.out _).mono ?_
      rintro e w6 ⟨A6, C6, rfl, ho, hb⟩
      replace c0 := (hb.cell (p := ⟨w.heap.size, 0, none⟩) (by show w.heap.size < _; simp; omega)).trans (show World.cell? _ ⟨w.heap.size, 0, none⟩ = some (.int .i64 0) by go_simp)
      replace c1 := (hb.cell (p := ⟨w.heap.size, 1, none⟩) (by show w.heap.size < _; simp; omega)).trans (show World.cell? _ ⟨w.heap.size, 1, none⟩ = some (.slice none 0 0) by go_simp)
      replace f0 := (hb.frozen (p := ⟨w.heap.size, 0, none⟩) (by show w.heap.size < _; simp; omega)).trans (show World.frozen? _ ⟨w.heap.size, 0, none⟩ = false by go_simp)
      replace f1 := (hb.frozen (p := ⟨w.heap.size, 1, none⟩) (by show w.heap.size < _; simp; omega)).trans (show World.frozen? _ ⟨w.heap.size, 1, none⟩ = false by go_simp)
      have HO6 : Hid (Own w6 (w.heap.size + 1) (.slice A6 (sureL s ((N : Int) - 1)).length C6) (sureL s ((N : Int) - 1))) := Lib.hid (ho.low (by simp; omega))
      have HRD6 := Lib.hid ((HRD.out.alloc _).below hb)
      have HGR6 := Lib.hid (grown_below (grown_alloc HGR.out _) hb)
      clear ho hb
      go_wp2_with fail
      refine bodyPost_ret (v := .agg #[.int .i64 s, .slice A6 (sureL s ((N : Int) - 1)).length C6]) (by simp [results, Try.results88, go_sem, c0, c1]) rfl ?_
      refine ⟨_, A6, C6, rfl, HSM.out, ?_, ?_, ?_⟩
      · refine Own.low (B := w.heap.size + 1) ?_ (by omega)
        exact (HO6.out.set ⟨w.heap.size, 0, none⟩ (fun j hj => by have h1 := (HO6.out.lt j hj).1; show j ≠ w.heap.size; omega) _).set ⟨w.heap.size, 1, none⟩ (fun j hj => by have h1 := (HO6.out.lt j hj).1; show j ≠ w.heap.size; omega) _
      · exact reader_set (reader_set HRD6.out _ hlt _) _ hlt _
      · exact grown_set (grown_set HGR6.out _ (Nat.le_refl _) _) _ (Nat.le_refl _) _
    · try rw [hmb] at ho
      have HMS : Hid (massB s (madeL xs) = true) := Lib.hid (by unfold madeB at hmb; rw [Bool.and_eq_true] at hmb; exact hmb.2)
      have HO5 : Hid (Own w5 (w.heap.size + 1) (.slice B (madeL xs).length C) (madeL xs)) := Lib.hid (ho.low (by omega))
      have hsel : sel true s = s := rfl
      have hsll : (selL true (madeL xs)).length = (madeL xs).length := rfl
      rw [hsel, hsll]
      clear ho hb eb hsel hsll
      go_wp2_with fail
      refine bodyPost_ret (v := .agg #[.int .i64 s, .slice B (madeL xs).length C]) (by simp [results, Try.results88, go_sem, c0, c1, hg5]) rfl ?_
      refine ⟨_, B, C, rfl, HMS.out, ?_, ?_, ?_⟩
      · refine Own.low (B := w.heap.size + 1) ?_ (by omega)
        repeat (first | exact HO5.out | (refine Own.alloc ?_ _) | (refine Own.set ?_ _ (fun j hj => by have h1 := (HO5.out.lt j hj).1; show j ≠ w.heap.size; omega) _))
      · repeat (first | exact HRD.out | (refine Reader.alloc ?_ _) | (refine reader_set ?_ _ hlt _))
      · repeat (first | exact HGR.out | (refine grown_alloc ?_ _) | (refine grown_set ?_ _ (Nat.le_refl _) _))
end Go.Proofs.Ytemollfejgmlcaa
