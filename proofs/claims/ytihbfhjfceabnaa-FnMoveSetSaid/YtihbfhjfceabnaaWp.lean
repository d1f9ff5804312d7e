/- Contract of the draw of an order. Conditions: as stated. -/
import Derived.Test.YtihbfhjfceabnaaWo
import Derived.Deep.RegionHeld3
namespace Go.Proofs.Ytihbfhjfceabnaa
open Go.RowKit

theorem IsRow.drop {kd : IntKind} {w : World} {b o n c : Nat} {zs : List Int} (h : IsRow kd w (some ⟨b, o, none⟩) n c zs) (m : Nat) (hm : m ≤ n) : IsRow kd w (some ⟨b, o + m, none⟩) (n - m) (c - m) (zs.drop m) := by
  have hl := h.len
  have h1 : n ≤ c := h.2.1
  have h2 : c ≤ maxLen := h.2.2.1
  refine ⟨by rw [List.length_drop, hl], by omega, Nat.le_trans (Nat.sub_le _ _) h2, fun x hx => h.2.2.2.1 x (List.mem_of_mem_drop hx), fun hn => ?_⟩
  obtain ⟨b', o', e, hb, hc⟩ := h.at_ (by omega)
  injection e with e
  injection e with e1 e2
  subst e1 e2
  refine ⟨b, o + m, rfl, hb, fun i hi => ?_⟩
  rw [Nat.add_assoc, hc (m + i) (by omega)]
  congr 2
  rw [List.getD_eq_getElem?_getD, List.getD_eq_getElem?_getD, List.getElem?_drop]
theorem row_none {kd : IntKind} (w : World) (A : Option Addr) (c : Nat) (hc : c ≤ maxLen) : IsRow kd w A 0 c [] := ⟨rfl, Nat.zero_le _, hc, by simp, fun h => absurd h (by omega)⟩
theorem own_row {w : World} {B g n c : Nat} {zs : List Int} (h : Own w B (.slice (some ⟨g, 0, none⟩) n c) zs) (hl : zs.length = n) : IsRow .i64 w (some ⟨g, 0, none⟩) n c zs := by
  subst hl
  exact h.row
theorem row_far {kd : IntKind} {w w' : World} {b o n c r : Nat} {zs : List Int} (h : IsRow kd w (some ⟨b, o, none⟩) n c zs) (hg : w.grownBy w' (some r)) (hne : b ≠ r) : IsRow kd w' (some ⟨b, o, none⟩) n c zs := by
  refine ⟨h.1, h.2.1, h.2.2.1, h.2.2.2.1, fun hn => ?_⟩
  obtain ⟨b', o', e, hb, hc⟩ := h.at_ hn
  injection e with e
  injection e with e1 e2
  subst e1 e2
  exact ⟨b, o, rfl, Nat.lt_of_lt_of_le hb hg.size, fun i hi => (hg.cell_far _ hb (by intro e; injection e with e; exact hne e)).trans (hc i hi)⟩
theorem step_push3 {ops : Array Oper} {o : Oper} {a : Act} {w : World} {K : Act → World → Prop} {Q : Exit → Act → World → Prop} {E : Prop} (hgd : o.guard = none) (s x : Operand)
    (ho : o.op = .call { callee := .builtin .append, args := #[s, x], argTypes := #[23, 23] })
    (B g n c : Nat) (zs : List Int) (hs : a.eval s = .slice (some ⟨g, 0, none⟩) n c) (hl : zs.length = n) (hown : Own w B (.slice (some ⟨g, 0, none⟩) n c) zs)
    (A : Addr) (m c' : Nat) (ys : List Int) (hx : a.eval x = .slice (some A) m c') (hr : IsRow .i64 w (some A) m c' ys) (N : Nat) (hN : n + m = N) (hnm : N ≤ 1048576) (hB : B ≤ w.heap.size)
    (h : ∀ g' c'' w', Own w' B (.slice (some ⟨g', 0, none⟩) N c'') (zs ++ ys) → w.grownBy w' (some g) → K (a.put o.dst (.slice (some ⟨g', 0, none⟩) N c'')) w') :
    if Region.wanted o (yielded ops a.tmps) = true then Oper.wp Try.prog o a w K Q else E := by
  subst hN
  exact step_push hgd s x ho B g n c zs hs hl hown A m c' ys hx hr hnm hB h
theorem ret_slice {a : Option Addr} {n m c : Nat} (h : n = m) : Ending.returned (.slice a n c) = .returned (.slice a m c) := by rw [h]
theorem own_block {w : World} {B g n c : Nat} {zs : List Int} (h : Own w B (.slice (some ⟨g, 0, none⟩) n c) zs) : B ≤ g ∧ g < w.heap.size := h.lt g rfl
set_option maxRecDepth 100000 in
set_option maxHeartbeats 4000000 in
theorem l1Order_c (g q : Nat) (s : Int) (hq : q ≤ 500000) (hs : 0 ≤ s ∧ s ≤ 5) (W w : World) (hb : Below W.heap.size W w) (hle : W.heap.size ≤ g) (hr : Reader w g q) :
    Calls Try.prog 30 #[.pointer (some ⟨g, 0, none⟩), .int .i64 s] w fun e w' => ∃ xs A C, e = .returned (.slice A xs.length C) ∧ Own w' (g + 1) (.slice A xs.length C) xs ∧ xs.length ≤ 6 ∧ Below W.heap.size W w' := by
  obtain ⟨i0, hi, hz0, hz1, hz2⟩ := info_parts Try.infoInt
  obtain ⟨s0, s5⟩ := hs
  have hlt := hr.lt
  have HR := Lib.hid hr
  have HB := Lib.hid hb
  clear hr hb
  go_enter Try.func30, Try.ntmps30
  go_upto_region 2 with fail
  obtain ⟨w2, hw2⟩ : ∃ x, x = w.alloc (.cells #[] 3) := ⟨_, rfl⟩
  rw [← hw2]
  have D2 : Hid (Drawn W g q (.slice (some ⟨w.heap.size, 0, none⟩) 0 0) [] w2) := Lib.hid (by
    rw [hw2]
    exact ⟨HB.out.alloc HB.out.size _, hle, HR.out.alloc _, own_lit w [] (by simp) (by simp) _ (by omega)⟩)
  clear hw2
  go_wp2_with fail
  go_loopw [5, 6] (fun v i wr => ∃ k : Nat, (k : Int) ≤ s ∧ i = .int .i64 k ∧ ∃ (xs : List Int) (pb C : Nat), xs.length = k ∧ v = .slice (some ⟨pb, 0, none⟩) k C ∧ Drawn W g (q + k) v xs wr) (fun _ i _ => (s - intOf i).toNat)
  case atStart => exact ⟨0, by omega, rfl, [], _, _, rfl, rfl, D2.out⟩
  case round =>
    obtain ⟨k, hk, rfl, xs, pb, C, hxl, rfl, hD⟩ := hrel
    have DK := Lib.hid hD
    have HXL := Lib.hid hxl
    clear hD hxl
    by_cases hlk : (k : Int) < s
    · go_wp2_with fail
      refine (pick_c g _ _ (by omega) (by omega) _ DK.out.rd).mono ?_
      rintro e w5 ⟨y, rfl, y0, y1, hr5, hg5⟩
      obtain ⟨Y, rfl⟩ := Int.eq_ofNat_of_zero_le y0
      have hY : Y ≤ k := by omega
      have D5 := Lib.hid (DK.out.kept hr5 hg5)
      have hkC : k ≤ C := (own_row D5.out.ls HXL.out).2.1
      have hlt5 : g < w5.heap.size := D5.out.rd.lt
      clear hr5 hg5 y1 y0
      have i1 : (0 : Int) ≤ (Y : Int) := by omega
      have i2 : (Y : Int) ≤ (k : Int) := by omega
      have i3 : (Y : Int) ≤ (C : Int) := by omega
      go_upto_region 6 with fail
      have hpb := own_block D5.out.ls
      have RX := Lib.hid ((own_row D5.out.ls HXL.out).take Y hY)
      have HLY : Hid (([] ++ xs.take Y : List Int).length = Y) := Lib.hid (by simp [HXL.out]; omega)
      have HLZ : Hid (([] ++ xs.take Y ++ [(k : Int)] : List Int).length = Y + 1) := Lib.hid (by simp [HXL.out]; omega)
      have OA : Hid (Own (w5.alloc (.cells #[] 3)).drew w5.heap.size (.slice (some ⟨w5.heap.size, 0, none⟩) 0 0) []) := Lib.hid (own_lit w5 [] (by simp) (by simp) w5.heap.size (Nat.le_refl _)).drew
      have OB : Hid (Own ((w5.alloc (.cells #[] 3)).alloc (.cells #[.int .i64 (k : Int)] 3)).drew w5.heap.size (.slice (some ⟨w5.heap.size, 0, none⟩) 0 0) []) := Lib.hid ((own_lit w5 [] (by simp) (by simp) w5.heap.size (Nat.le_refl _)).alloc _).drew
      have OC : Hid (Own ((w5.alloc (.cells #[.int .i64 (k : Int)] 3)).alloc (.cells #[] 3)).drew w5.heap.size (.slice (some ⟨w5.heap.size + 1, 0, none⟩) 0 0) []) := Lib.hid (by
        have h := own_lit (w5.alloc (.cells #[.int .i64 (k : Int)] 3)) [] (by simp) (by simp) w5.heap.size (by simp)
        rw [World.size_alloc] at h
        exact h.drew)
      have RB : Hid (IsRow .i64 ((w5.alloc (.cells #[] 3)).alloc (.cells #[.int .i64 (k : Int)] 3)).drew (some ⟨w5.heap.size + 1, 0, none⟩) 1 1 [(k : Int)]) := Lib.hid (by
        have h := lit_row (w5.alloc (.cells #[] 3)) [(k : Int)] (by intro y hy; simp at hy; unfold Fits; omega) (by simp)
        rw [World.size_alloc] at h
        exact h.drew)
      have RC : Hid (IsRow .i64 ((w5.alloc (.cells #[.int .i64 (k : Int)] 3)).alloc (.cells #[] 3)).drew (some ⟨w5.heap.size, 0, none⟩) 1 1 [(k : Int)]) := Lib.hid ((lit_row w5 [(k : Int)] (by intro y hy; simp at hy; unfold Fits; omega) (by simp)).alloc _).drew
      by_cases hC : C = Y
      · obtain rfl : k = Y := by omega
        subst hC
        have RZ : Hid (IsRow .i64 w5 (some ⟨pb, 0, none⟩) 0 0 (xs.drop C)) := Lib.hid (by
          rw [List.drop_eq_nil_of_le (by rw [HXL.out]; exact Nat.le_refl _)]
          exact row_none _ _ 0 (Nat.zero_le _))
        go_region_held3 (fun _ => True) (trivial)
          (first
            | ((refine step_push3 (by rfl) _ _ (by rfl) w5.heap.size w5.heap.size 0 0 [] (by rfl) rfl OA.out ⟨pb, 0, none⟩ C C (xs.take C) (by rfl) (RX.out.alloc _).drew C (by omega) (by omega) (by first | (simp; omega) | simp | omega) ?_); intro g1 c1 w6 ho6 hg6; have O6 := Lib.hid ho6; have G1 := (own_block ho6).1; have RZ6 := Lib.hid (row_far (w := (w5.alloc (.cells #[] 3)).drew) (RZ.out.alloc _).drew hg6 (by omega)); have BL6 := Lib.hid (Below.grown (w := (w5.alloc (.cells #[] 3)).drew) (D5.out.alloc _).drew.bel hg6 (by simp; omega) (fun j hj => by injection hj with hj; omega)); have RD6 := Lib.hid (Reader.kept (w := (w5.alloc (.cells #[] 3)).drew) (D5.out.alloc _).drew.rd hg6 (fun j hj => by injection hj with hj; omega)); have Z6 : w5.heap.size + 1 ≤ w6.heap.size := (by have := hg6.size; simp at this; omega); clear ho6 hg6)
            | ((refine step_push3 (by rfl) _ _ (by rfl) w5.heap.size w5.heap.size 0 0 [] (by rfl) rfl OB.out ⟨pb, 0, none⟩ C C (xs.take C) (by rfl) ((RX.out.alloc _).alloc _).drew C (by omega) (by omega) (by first | (simp; omega) | simp | omega) ?_); intro g1 c1 w6 ho6 hg6; have O6 := Lib.hid ho6; have G1 := (own_block ho6).1; have RZ6 := Lib.hid (row_far (w := ((w5.alloc (.cells #[] 3)).alloc (.cells #[.int .i64 (C : Int)] 3)).drew) ((RZ.out.alloc _).alloc _).drew hg6 (by omega)); have BL6 := Lib.hid (Below.grown (w := ((w5.alloc (.cells #[] 3)).alloc (.cells #[.int .i64 (C : Int)] 3)).drew) ((D5.out.alloc _).alloc _).drew.bel hg6 (by simp; omega) (fun j hj => by injection hj with hj; omega)); have RD6 := Lib.hid (Reader.kept (w := ((w5.alloc (.cells #[] 3)).alloc (.cells #[.int .i64 (C : Int)] 3)).drew) ((D5.out.alloc _).alloc _).drew.rd hg6 (fun j hj => by injection hj with hj; omega)); have Z6 : w5.heap.size + 2 ≤ w6.heap.size := (by have := hg6.size; simp at this; omega); have RL6 := Lib.hid (row_far (w := ((w5.alloc (.cells #[] 3)).alloc (.cells #[.int .i64 (C : Int)] 3)).drew) RB.out hg6 (by omega)); clear ho6 hg6)
            | ((refine step_push3 (by rfl) _ _ (by rfl) w5.heap.size (w5.heap.size + 1) 0 0 [] (by rfl) rfl OC.out ⟨pb, 0, none⟩ C C (xs.take C) (by rfl) ((RX.out.alloc _).alloc _).drew C (by omega) (by omega) (by first | (simp; omega) | simp | omega) ?_); intro g1 c1 w6 ho6 hg6; have O6 := Lib.hid ho6; have G1 := (own_block ho6).1; have RZ6 := Lib.hid (row_far (w := ((w5.alloc (.cells #[.int .i64 (C : Int)] 3)).alloc (.cells #[] 3)).drew) ((RZ.out.alloc _).alloc _).drew hg6 (by omega)); have BL6 := Lib.hid (Below.grown (w := ((w5.alloc (.cells #[.int .i64 (C : Int)] 3)).alloc (.cells #[] 3)).drew) ((D5.out.alloc _).alloc _).drew.bel hg6 (by simp; omega) (fun j hj => by injection hj with hj; omega)); have RD6 := Lib.hid (Reader.kept (w := ((w5.alloc (.cells #[.int .i64 (C : Int)] 3)).alloc (.cells #[] 3)).drew) ((D5.out.alloc _).alloc _).drew.rd hg6 (fun j hj => by injection hj with hj; omega)); have Z6 : w5.heap.size + 2 ≤ w6.heap.size := (by have := hg6.size; simp at this; omega); have RL6 := Lib.hid (row_far (w := ((w5.alloc (.cells #[.int .i64 (C : Int)] 3)).alloc (.cells #[] 3)).drew) RC.out hg6 (by omega)); clear ho6 hg6)
            | ((refine step_push3 (by rfl) _ _ (by rfl) w5.heap.size g1 C c1 ([] ++ xs.take C) (by rfl) HLY.out (O6.out.alloc _) ⟨w6.heap.size, 0, none⟩ 1 1 [(C : Int)] (by rfl) (lit_row w6 [(C : Int)] (by intro y hy; simp at hy; unfold Fits; omega) (by simp)) (C + 1) (by omega) (by omega) (by simp; omega) ?_); intro g2 c2 w7 ho7 hg7; have O7 := Lib.hid ho7; have G2 := (own_block ho7).1; have RZ7 := Lib.hid (row_far (w := w6.alloc (.cells #[.int .i64 (C : Int)] 3)) (RZ6.out.alloc _) hg7 (by omega)); have BL7 := Lib.hid (Below.grown (w := w6.alloc (.cells #[.int .i64 (C : Int)] 3)) (BL6.out.alloc BL6.out.size _) hg7 (by first | (simp; omega) | omega) (fun j hj => by injection hj with hj; omega)); have RD7 := Lib.hid (Reader.kept (w := w6.alloc (.cells #[.int .i64 (C : Int)] 3)) (RD6.out.alloc _) hg7 (fun j hj => by injection hj with hj; omega)); have Z7 : w6.heap.size ≤ w7.heap.size := (by have := hg7.size; first | (simp at this; omega) | omega); clear ho7 hg7)
            | ((refine step_push3 (by rfl) _ _ (by rfl) w5.heap.size g1 C c1 ([] ++ xs.take C) (by rfl) HLY.out O6.out _ 1 1 [(C : Int)] (by rfl) RL6.out (C + 1) (by omega) (by omega) (by omega) ?_); intro g2 c2 w7 ho7 hg7; have O7 := Lib.hid ho7; have G2 := (own_block ho7).1; have RZ7 := Lib.hid (row_far (w := w6) RZ6.out hg7 (by omega)); have BL7 := Lib.hid (Below.grown (w := w6) BL6.out hg7 (by first | (simp; omega) | omega) (fun j hj => by injection hj with hj; omega)); have RD7 := Lib.hid (Reader.kept (w := w6) RD6.out hg7 (fun j hj => by injection hj with hj; omega)); have Z7 : w6.heap.size ≤ w7.heap.size := (by have := hg7.size; first | (simp at this; omega) | omega); clear ho7 hg7)
            | ((refine step_push3 (by rfl) _ _ (by rfl) w5.heap.size g2 (C + 1) c2 ([] ++ xs.take C ++ [(C : Int)]) (by rfl) HLZ.out O7.out ⟨pb, 0, none⟩ 0 0 (xs.drop C) (by rfl) RZ7.out (C + 1) (by omega) (by omega) (by omega) ?_); intro g3 c3 w8 ho8 hg8; have O8 := Lib.hid ho8; have BL8 := Lib.hid (BL7.out.grown hg8 (by omega) (fun j hj => by injection hj with hj; omega)); have RD8 := Lib.hid (RD7.out.kept hg8 (fun j hj => by injection hj with hj; omega)); clear ho8 hg8))
        all_goals
          go_wp2_with fail
          go_roundw
          case rel => exact ⟨C + 1, by omega, by go_num, _, _, _, by first | (simp [HXL.out]; omega) | simp [HXL.out], rfl, ⟨BL8.out, hle, RD8.out.more (by omega), O8.out.low (by omega)⟩⟩
          case measure => simp [intOf]; omega
      · have RZ : Hid (IsRow .i64 w5 (some ⟨pb, Y, none⟩) (k - Y) (C - Y) (xs.drop Y)) := Lib.hid (by
          have h := (own_row D5.out.ls HXL.out).drop Y hY
          rwa [Nat.zero_add] at h)
        go_region_held3 (fun _ => True) (trivial)
          (first
            | ((refine step_push3 (by rfl) _ _ (by rfl) w5.heap.size w5.heap.size 0 0 [] (by rfl) rfl OA.out ⟨pb, 0, none⟩ Y C (xs.take Y) (by rfl) (RX.out.alloc _).drew Y (by omega) (by omega) (by first | (simp; omega) | simp | omega) ?_); intro g1 c1 w6 ho6 hg6; have O6 := Lib.hid ho6; have G1 := (own_block ho6).1; have RZ6 := Lib.hid (row_far (w := (w5.alloc (.cells #[] 3)).drew) (RZ.out.alloc _).drew hg6 (by omega)); have BL6 := Lib.hid (Below.grown (w := (w5.alloc (.cells #[] 3)).drew) (D5.out.alloc _).drew.bel hg6 (by simp; omega) (fun j hj => by injection hj with hj; omega)); have RD6 := Lib.hid (Reader.kept (w := (w5.alloc (.cells #[] 3)).drew) (D5.out.alloc _).drew.rd hg6 (fun j hj => by injection hj with hj; omega)); have Z6 : w5.heap.size + 1 ≤ w6.heap.size := (by have := hg6.size; simp at this; omega); clear ho6 hg6)
            | ((refine step_push3 (by rfl) _ _ (by rfl) w5.heap.size w5.heap.size 0 0 [] (by rfl) rfl OB.out ⟨pb, 0, none⟩ Y C (xs.take Y) (by rfl) ((RX.out.alloc _).alloc _).drew Y (by omega) (by omega) (by first | (simp; omega) | simp | omega) ?_); intro g1 c1 w6 ho6 hg6; have O6 := Lib.hid ho6; have G1 := (own_block ho6).1; have RZ6 := Lib.hid (row_far (w := ((w5.alloc (.cells #[] 3)).alloc (.cells #[.int .i64 (k : Int)] 3)).drew) ((RZ.out.alloc _).alloc _).drew hg6 (by omega)); have BL6 := Lib.hid (Below.grown (w := ((w5.alloc (.cells #[] 3)).alloc (.cells #[.int .i64 (k : Int)] 3)).drew) ((D5.out.alloc _).alloc _).drew.bel hg6 (by simp; omega) (fun j hj => by injection hj with hj; omega)); have RD6 := Lib.hid (Reader.kept (w := ((w5.alloc (.cells #[] 3)).alloc (.cells #[.int .i64 (k : Int)] 3)).drew) ((D5.out.alloc _).alloc _).drew.rd hg6 (fun j hj => by injection hj with hj; omega)); have Z6 : w5.heap.size + 2 ≤ w6.heap.size := (by have := hg6.size; simp at this; omega); have RL6 := Lib.hid (row_far (w := ((w5.alloc (.cells #[] 3)).alloc (.cells #[.int .i64 (k : Int)] 3)).drew) RB.out hg6 (by omega)); clear ho6 hg6)
            | ((refine step_push3 (by rfl) _ _ (by rfl) w5.heap.size (w5.heap.size + 1) 0 0 [] (by rfl) rfl OC.out ⟨pb, 0, none⟩ Y C (xs.take Y) (by rfl) ((RX.out.alloc _).alloc _).drew Y (by omega) (by omega) (by first | (simp; omega) | simp | omega) ?_); intro g1 c1 w6 ho6 hg6; have O6 := Lib.hid ho6; have G1 := (own_block ho6).1; have RZ6 := Lib.hid (row_far (w := ((w5.alloc (.cells #[.int .i64 (k : Int)] 3)).alloc (.cells #[] 3)).drew) ((RZ.out.alloc _).alloc _).drew hg6 (by omega)); have BL6 := Lib.hid (Below.grown (w := ((w5.alloc (.cells #[.int .i64 (k : Int)] 3)).alloc (.cells #[] 3)).drew) ((D5.out.alloc _).alloc _).drew.bel hg6 (by simp; omega) (fun j hj => by injection hj with hj; omega)); have RD6 := Lib.hid (Reader.kept (w := ((w5.alloc (.cells #[.int .i64 (k : Int)] 3)).alloc (.cells #[] 3)).drew) ((D5.out.alloc _).alloc _).drew.rd hg6 (fun j hj => by injection hj with hj; omega)); have Z6 : w5.heap.size + 2 ≤ w6.heap.size := (by have := hg6.size; simp at this; omega); have RL6 := Lib.hid (row_far (w := ((w5.alloc (.cells #[.int .i64 (k : Int)] 3)).alloc (.cells #[] 3)).drew) RC.out hg6 (by omega)); clear ho6 hg6)
            | ((refine step_push3 (by rfl) _ _ (by rfl) w5.heap.size g1 Y c1 ([] ++ xs.take Y) (by rfl) HLY.out (O6.out.alloc _) ⟨w6.heap.size, 0, none⟩ 1 1 [(k : Int)] (by rfl) (lit_row w6 [(k : Int)] (by intro y hy; simp at hy; unfold Fits; omega) (by simp)) (Y + 1) (by omega) (by omega) (by simp; omega) ?_); intro g2 c2 w7 ho7 hg7; have O7 := Lib.hid ho7; have G2 := (own_block ho7).1; have RZ7 := Lib.hid (row_far (w := w6.alloc (.cells #[.int .i64 (k : Int)] 3)) (RZ6.out.alloc _) hg7 (by omega)); have BL7 := Lib.hid (Below.grown (w := w6.alloc (.cells #[.int .i64 (k : Int)] 3)) (BL6.out.alloc BL6.out.size _) hg7 (by first | (simp; omega) | omega) (fun j hj => by injection hj with hj; omega)); have RD7 := Lib.hid (Reader.kept (w := w6.alloc (.cells #[.int .i64 (k : Int)] 3)) (RD6.out.alloc _) hg7 (fun j hj => by injection hj with hj; omega)); have Z7 : w6.heap.size ≤ w7.heap.size := (by have := hg7.size; first | (simp at this; omega) | omega); clear ho7 hg7)
            | ((refine step_push3 (by rfl) _ _ (by rfl) w5.heap.size g1 Y c1 ([] ++ xs.take Y) (by rfl) HLY.out O6.out _ 1 1 [(k : Int)] (by rfl) RL6.out (Y + 1) (by omega) (by omega) (by omega) ?_); intro g2 c2 w7 ho7 hg7; have O7 := Lib.hid ho7; have G2 := (own_block ho7).1; have RZ7 := Lib.hid (row_far (w := w6) RZ6.out hg7 (by omega)); have BL7 := Lib.hid (Below.grown (w := w6) BL6.out hg7 (by first | (simp; omega) | omega) (fun j hj => by injection hj with hj; omega)); have RD7 := Lib.hid (Reader.kept (w := w6) RD6.out hg7 (fun j hj => by injection hj with hj; omega)); have Z7 : w6.heap.size ≤ w7.heap.size := (by have := hg7.size; first | (simp at this; omega) | omega); clear ho7 hg7)
            | ((refine step_push3 (by rfl) _ _ (by rfl) w5.heap.size g2 (Y + 1) c2 ([] ++ xs.take Y ++ [(k : Int)]) (by rfl) HLZ.out O7.out ⟨pb, Y, none⟩ (k - Y) (C - Y) (xs.drop Y) (by rfl) RZ7.out (k + 1) (by omega) (by omega) (by omega) ?_); intro g3 c3 w8 ho8 hg8; have O8 := Lib.hid ho8; have BL8 := Lib.hid (BL7.out.grown hg8 (by omega) (fun j hj => by injection hj with hj; omega)); have RD8 := Lib.hid (RD7.out.kept hg8 (fun j hj => by injection hj with hj; omega)); clear ho8 hg8))
        all_goals
          go_wp2_with fail
          go_roundw
          case rel => exact ⟨k + 1, by omega, by go_num, _, _, _, by first | (simp [HXL.out]; omega) | simp [HXL.out], rfl, ⟨BL8.out, hle, RD8.out.more (by omega), O8.out.low (by omega)⟩⟩
          case measure => simp [intOf]; omega
    · go_wp2_with fail
      refine (pick_c g _ 16 (by omega) (by omega) _ DK.out.rd).mono ?_
      rintro e w5 ⟨x, rfl, x0, x1, hr5, hg5⟩
      have D5 := Lib.hid (DK.out.kept hr5 hg5)
      clear hr5 hg5 x1
      by_cases hx0 : x = 0
      · subst hx0
        go_upto_region 8 with fail
        refine wp_region_lit ?_
        refine wpList_plain rfl (fun K hK => ?_)
        go_simp
        refine hK _ _ ?_
        clear hK K
        refine wpList_plain rfl (fun K hK => ?_)
        go_simp
        refine hK _ _ ?_
        clear hK K
        refine wpList_plain rfl (fun K hK => ?_)
        go_simp
        refine hK _ _ ?_
        clear hK K
        refine wpList_plain rfl (fun K hK => ?_)
        go_simp
        go_at_call 47
        have n5 := D5.out.rd.lt
        refine (num_c g _ _ 3 3 [0, 4, -1] (by omega) (by omega) (by omega) _ (D5.out.alloc _).rd (lit_row w5 [0, 4, -1] (by intro y hy; simp at hy; unfold Fits; omega) (by simp)) (some_ne (by omega))).mono ?_
        rintro e w6 ⟨i, hi2, rfl, hr6, hg6⟩
        have hv : Fits (List.getD [0, 4, -1] i (0 : Int)) := lit_pick (by intro y hy; simp at hy; unfold Fits; omega) hi2
        generalize List.getD [0, 4, -1] i (0 : Int) = V at *
        have D6 := Lib.hid ((D5.out.alloc _).kept hr6 hg6)
        have HV := Lib.hid hv
        clear hr6 hg6 hi2 hv
        go_simp
        refine hK _ _ ?_
        clear hK K
        refine wpList_plain rfl (fun K hK => ?_)
        go_simp
        refine hK _ _ ?_
        clear hK K
        have n6 := D6.out.rd.lt
        refine wpList_push rfl _ _ rfl (g + 1) pb k C xs rfl HXL.out (D6.out.ls.alloc _) _ 1 1 [V] rfl (lit_row w6 [V] (by intro y hy; simp at hy; subst hy; exact HV.out) (by simp)) (by omega) (by simp; omega) ?_
        intro g7 c7 w7 ho7 hg7
        have D7 := Lib.hid ((D6.out.alloc (.cells #[.int .i64 V] 3)).push (v' := .slice (some ⟨g7, 0, none⟩) (k + 1) c7) (xs' := xs ++ [V]) ho7 hg7)
        have HL7 : Hid ((xs ++ [V]).length = k + 1) := Lib.hid (by simp [HXL.out])
        clear ho7 hg7
        go_wp2_with fail
        go_ret
        exact ⟨xs ++ [V], some ⟨g7, 0, none⟩, c7, ret_slice HL7.out.symm, by rw [HL7.out]; exact D7.out.ls, by rw [HL7.out]; omega, D7.out.bel⟩
      · have hx0b : (x == 0) = false := by simpa using hx0
        go_wp2_with fail
        go_ret
        exact ⟨xs, some ⟨pb, 0, none⟩, C, ret_slice HXL.out.symm, by rw [HXL.out]; exact D5.out.ls, by rw [HXL.out]; omega, D5.out.bel⟩
end Go.Proofs.Ytihbfhjfceabnaa
