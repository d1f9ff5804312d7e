/- Contract of the draw of some numbers. Conditions: as stated. -/
import Derived.Test.YtihbfhjfceabnaaWk
import Derived.Test.YtihbfhjfceabnaaHs
import Derived.Test.YtihbfhjfceabnaaWs
namespace Go.Proofs.Ytihbfhjfceabnaa
open Go.RowKit

theorem bel_dr {P : Program} {f : FuncId} {args : Array Value} {W : World} {v : Value}
    (h : Calls P f args W fun e w' => e = .returned v ∧ ∃ m, w' = W.drewN m) : Calls P f args W fun e w' => e = .returned v ∧ Below W.heap.size W w' :=
  h.mono fun e w' ⟨he, m, hm⟩ => ⟨he, by rw [hm]; exact below_drewN (Below.refl _ _) m⟩
theorem Own.rowAt0 {w : World} {B : Nat} {a : Option Addr} {c : Nat} {zs : List Int} (h : Own w B (.slice a zs.length c) zs) : IsRow .i64 w a zs.length c zs := h.row
/-- While a list is drawn: the reader, the list so far. -/
structure Drawn (w : World) (g q : Nat) (v : Value) (xs : List Int) (wr : World) : Prop where
  bel : Below w.heap.size w wr
  le : w.heap.size ≤ g
  rd : Reader wr g q
  ls : Own wr (g + 1) v xs
section
variable {w wr w' : World} {g q q' : Nat} {xs xs' : List Int} {v v' : Value}
theorem Drawn.kept (h : Drawn w g q v xs wr) (hr : Reader w' g q') (hg : wr.grownBy w' (some g)) : Drawn w g q' v xs w' := by
  refine ⟨h.bel.trans (below_of_grown hg h.le h.bel.size), h.le, hr, h.ls.grown hg ?_⟩
  rcases hj : v.ownBlock with _ | j
  · exact .inl rfl
  · right
    intro e
    have := (h.ls.lt j hj).1
    injection e with e
    omega
theorem Drawn.alloc (h : Drawn w g q v xs wr) (o : Obj) : Drawn w g q v xs (wr.alloc o) := h.kept (h.rd.alloc o) (grown_alloc (grown_refl wr _) o)
theorem Drawn.drew (h : Drawn w g q v xs wr) : Drawn w g q v xs wr.drew := h.kept h.rd (grown_drew (grown_refl wr _))
theorem Drawn.more (h : Drawn w g q v xs wr) (hq : q ≤ q') : Drawn w g q' v xs wr := ⟨h.bel, h.le, h.rd.more hq, h.ls⟩
theorem Drawn.push (h : Drawn w g q v xs wr) (ho : Own w' (g + 1) v' xs') (hg : wr.grownBy w' v.ownBlock) : Drawn w g q v' xs' w' := by
  have hl := h.le
  have hlo : ∀ i, v.ownBlock = some i → g + 1 ≤ i := fun i hi => (h.ls.lt i hi).1
  exact ⟨h.bel.grown hg h.bel.size (fun i hi => by have := hlo i hi; omega), h.le, h.rd.kept hg (fun i hi => by have := hlo i hi; omega), ho⟩
end
set_option maxRecDepth 100000 in
set_option maxHeartbeats 4000000 in
theorem DrawGreatestDivisor_c (A0 : Option Addr) (n0 c0 : Nat) (zs0 : List Int) (w : World) (ha : IsRow .u8 w A0 n0 c0 zs0) :
    Calls Try.prog 22 #[.slice A0 n0 c0] w fun e w' => ∃ xs A C, e = .returned (.slice A xs.length C) ∧ Own w' w.heap.size (.slice A xs.length C) xs ∧ xs.length ≤ 4 ∧ Below w.heap.size w w' := by
  obtain ⟨i0, hi, hz0, hz1, hz2⟩ := info_parts Try.infoInt
  have HA := Lib.hid ha
  clear ha
  go_enter Try.func22, Try.ntmps22
  go_wp2_with fail
  refine (l14Open_c _ _ _ _ _ HA.out).mono ?_
  rintro e w1 ⟨rfl, hr1, hb1⟩
  have HR1 := Lib.hid hr1
  have HB1 := Lib.hid hb1
  clear hr1 hb1
  go_upto_region 3 with fail
  obtain ⟨w2, hw2⟩ : ∃ x, x = w1.alloc (.cells #[] 3) := ⟨_, rfl⟩
  rw [← hw2]
  have D2 : Hid (Drawn w w.heap.size 0 (.slice (some ⟨w1.heap.size, 0, none⟩) 0 0) [] w2) := Lib.hid (by
    rw [hw2]
    have h1 := HR1.out.lt
    exact ⟨HB1.out.alloc HB1.out.size _, Nat.le_refl _, HR1.out.alloc _, own_lit w1 [] (by simp) (by simp) _ (by omega)⟩)
  clear hw2
  go_wp2_with fail
  refine (pick_c _ _ 4 (by omega) (by omega) _ D2.out.rd).mono ?_
  rintro e w3 ⟨k, rfl, k0, k1, hr3, hg3⟩
  have k2 : k < 4 := by omega
  have D3 := Lib.hid (D2.out.kept hr3 hg3)
  clear hr3 hg3 k1
  go_wp2_with fail
  refine (pick_c _ _ 4 (by omega) (by omega) _ D3.out.rd).mono ?_
  rintro e w4 ⟨m, rfl, m0, m1, hr4, hg4⟩
  have m2 : m < 4 := by omega
  have D4 := Lib.hid (D3.out.kept hr4 hg4)
  clear hr4 hg4 m1
  go_wp2_with fail
  have K1 : 1 ≤ 1 + k := by omega
  have K4 : 1 + k ≤ 4 := by omega
  generalize 1 + k = K at *
  clear k0 k2
  go_loopw [4, 6] (fun v i wr => ∃ j : Nat, (j : Int) ≤ 3 ∧ i = .int .i64 j ∧ ∃ xs : List Int, xs.length + j ≤ 3 ∧ Drawn w w.heap.size (2 + (3 - j)) v xs wr) (fun _ i _ => (intOf i).toNat)
  case atStart => exact ⟨m.toNat, by omega, by rw [show ((m.toNat : Nat) : Int) = m by omega], [], by simp; omega, D4.out.more (by omega)⟩
  case round =>
    obtain ⟨j, hj, rfl, xs, hxl, hD⟩ := hrel
    have DK := Lib.hid hD
    have HXL := Lib.hid hxl
    clear hD hxl
    by_cases hlt : 0 < (j : Int)
    · go_wp2_with fail
      refine (pick_c _ _ 12 (by omega) (by omega) _ DK.out.rd).mono ?_
      rintro e w5 ⟨x, rfl, x0, x1, hr5, hg5⟩
      have x2 : x < 12 := by omega
      have D5 := Lib.hid (DK.out.kept hr5 hg5)
      clear hr5 hg5 x1
      have hp : -12 ≤ K * (x - 3) ∧ K * (x - 3) ≤ 36 := by
        have hK : K = 1 ∨ K = 2 ∨ K = 3 ∨ K = 4 := by omega
        rcases hK with rfl | rfl | rfl | rfl <;> omega
      obtain ⟨hp0, hp1⟩ := hp
      have hqw : IntKind.i64.wrap (K * (x - 3)) = K * (x - 3) := IntWalk.i64_in _ (by omega)
      go_wp2_with (at_builtin; refine wpList_append_own _ rfl _ _ 23 rfl (w.heap.size + 1) 3 i0 (.int .i64 0) 1 8 Try.underlying23 hi hz0 hz1 hz2 rfl (by decide) _ _ _ rfl (D5.out.ls.1.alloc _) ⟨w5.heap.size, 0, none⟩ 1 1 [.int .i64 (K * (x - 3))] rfl rfl ?d1 ?d2 ?d3 ?d4 ?d5 ?_)
      case d1 =>
        intro j u hj
        match j, hj with
        | 0, hj => simp at hj; subst hj; simp [Addr.add]
      case d2 => first | rfl | (intro u hu; simp at hu; subst hu; rfl)
      case d3 => have := HXL.out; unfold maxLen; omega
      case d4 => have := HXL.out; omega
      case d5 => have := D5.out.rd.lt; first | omega | (simp; omega)
      intro v' w6 hown' hgrow _
      have HO6 : Own w6 (w.heap.size + 1) v' (xs ++ [K * (x - 3)]) := ⟨by simpa using hown', fun y hy => by
        rcases List.mem_append.1 hy with h | h
        · exact D5.out.ls.2 y h
        · simp at h; unfold Fits; omega⟩
      have D6 := Lib.hid ((D5.out.alloc (.cells #[.int .i64 (K * (x - 3))] 3)).push HO6 hgrow)
      clear hown' hgrow HO6 hqw
      go_wp2_with fail
      go_roundw
      case rel => exact ⟨j - 1, by omega, by go_num, _, by have := HXL.out; simp; omega, D6.out.more (by omega)⟩
      case measure => simp [intOf]; omega
    · go_wp2_with fail
      refine (pick_c _ _ 20 (by omega) (by omega) _ DK.out.rd).mono ?_
      rintro e w5 ⟨x, rfl, x0, x1, hr5, hg5⟩
      have D5 := Lib.hid (DK.out.kept hr5 hg5)
      clear hr5 hg5 x1
      by_cases hx0 : x = 0
      · subst hx0
        go_wp2_with fail
        have n5 := D5.out.rd.lt
        refine (num_c _ _ _ 3 3 [1000000001, -9223372036854775808, 1000000000] (by omega) (by omega) (by omega) _ (D5.out.alloc _).rd (lit_row w5 [1000000001, -9223372036854775808, 1000000000] (by intro y hy; simp at hy; unfold Fits; omega) (by simp)) (some_ne (by omega))).mono ?_
        rintro e w6 ⟨i, hi2, rfl, hr6, hg6⟩
        have hv : Fits (List.getD [1000000001, -9223372036854775808, 1000000000] i 0) := lit_pick (by intro y hy; simp at hy; unfold Fits; omega) hi2
        generalize List.getD [1000000001, -9223372036854775808, 1000000000] i 0 = V at *
        have D6 := Lib.hid ((D5.out.alloc _).kept hr6 hg6)
        have HV := Lib.hid hv
        clear hr6 hg6 hi2 hv
        go_wp2_with (at_builtin; refine wpList_append_own _ rfl _ _ 23 rfl (w.heap.size + 1) 3 i0 (.int .i64 0) 1 8 Try.underlying23 hi hz0 hz1 hz2 rfl (by decide) _ _ _ rfl (D6.out.ls.1.alloc _) ⟨w6.heap.size, 0, none⟩ 1 1 [.int .i64 V] rfl rfl ?e1 ?e2 ?e3 ?e4 ?e5 ?_)
        case e1 =>
          intro j u hj
          match j, hj with
          | 0, hj => simp at hj; subst hj; simp [Addr.add]
        case e2 => first | rfl | (intro u hu; simp at hu; subst hu; rfl)
        case e3 => have := HXL.out; unfold maxLen; omega
        case e4 => have := HXL.out; omega
        case e5 => have := D6.out.rd.lt; first | omega | (simp; omega)
        intro v' w7 hown' hgrow _
        have HO7 : Own w7 (w.heap.size + 1) v' (xs ++ [V]) := ⟨by simpa using hown', fun y hy => by
          rcases List.mem_append.1 hy with h | h
          · exact D6.out.ls.2 y h
          · simp at h; subst h; exact HV.out⟩
        have D7 := Lib.hid ((D6.out.alloc (.cells #[.int .i64 V] 3)).push HO7 hgrow)
        clear hown' hgrow HO7
        go_wp2_with fail
        obtain ⟨A, C, rfl, _, _⟩ := D7.out.ls.form
        go_ret
        exact ⟨_, A, C, rfl, D7.out.ls.low (by omega), by have := HXL.out; simp; omega, D7.out.bel⟩
      · have hx0b : (x == 0) = false := by simpa using hx0
        go_wp2_with fail
        obtain ⟨A, C, rfl, _, _⟩ := D5.out.ls.form
        go_ret
        exact ⟨_, A, C, rfl, D5.out.ls.low (by omega), by have := HXL.out; omega, D5.out.bel⟩
end Go.Proofs.Ytihbfhjfceabnaa
