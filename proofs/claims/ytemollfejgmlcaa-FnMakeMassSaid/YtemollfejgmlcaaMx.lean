/- Contracts of chapter 3's draws: parts to make a mass of. Conditions: as stated. -/
import Derived.Test.YtemollfejgmlcaaMv
import Derived.Test.YtemollfejgmlcaaMw
namespace Go.Proofs.Ytemollfejgmlcaa
open Go.RowKit

/-- While the parts are drawn: the reader, the mass in its box mb, the parts so far. -/
structure Parts (w : World) (g q mb : Nat) (s : Int) (A : Option Addr) (C : Nat) (ys : List Int) (v : Value) (xs : List Int) (wr : World) : Prop where
  bel : Below w.heap.size w wr
  wg : w.heap.size ≤ g
  lt : g < mb
  sz : mb < wr.heap.size
  rd : Reader wr g q
  m0 : wr.cell? ⟨mb, 0, none⟩ = some (.int .i64 s)
  m1 : wr.cell? ⟨mb, 1, none⟩ = some (.slice A ys.length C)
  md : MassDrawn wr (g + 1) s A C ys
  mn : ∀ j, (Value.slice A ys.length C).ownBlock = some j → j < mb
  ls : Own wr (mb + 1) v xs
section
variable {w wr w' : World} {g q q' mb : Nat} {s : Int} {A : Option Addr} {C : Nat} {ys xs xs' : List Int} {v v' : Value}
theorem Parts.kept (h : Parts w g q mb s A C ys v xs wr) (hr : Reader w' g q') (hg : wr.grownBy w' (some g)) : Parts w g q' mb s A C ys v xs w' := by
  have h1 := h.lt
  have h2 := h.sz
  obtain ⟨c1, _⟩ := gcell hg (b := mb) (by omega) (by omega)
  exact ⟨h.bel.trans (below_of_grown hg h.wg h.bel.size), h.wg, h.lt, Nat.lt_of_lt_of_le h2 hg.size, hr, (c1 0).trans h.m0, (c1 1).trans h.m1, h.md.far hg (by omega), h.mn, own_far h.ls hg (by omega)⟩
theorem Parts.alloc (h : Parts w g q mb s A C ys v xs wr) (o : Obj) : Parts w g q mb s A C ys v xs (wr.alloc o) :=
  h.kept (h.rd.alloc o) (grown_alloc (grown_refl wr _) o)
theorem Parts.push (h : Parts w g q mb s A C ys v xs wr) (ho : Own w' (mb + 1) v' xs') (hg : wr.grownBy w' v.ownBlock) : Parts w g q mb s A C ys v' xs' w' := by
  have h0 := h.wg
  have h1 := h.lt
  have h2 := h.sz
  have hlo : ∀ i, v.ownBlock = some i → mb + 1 ≤ i := fun i hi => (h.ls.lt i hi).1
  have cf : ∀ p : Addr, p.block ≤ mb → w'.cell? p = wr.cell? p := fun p hp => hg.cell_far p (by omega) (fun e => by have := hlo p.block e.symm; omega)
  refine ⟨h.bel.grown hg h.bel.size (fun i hi => by have := hlo i hi; omega), h0, h1, Nat.lt_of_lt_of_le h2 hg.size, h.rd.kept hg (fun i hi => by have := hlo i hi; omega), (cf _ (Nat.le_refl _)).trans h.m0, (cf _ (Nat.le_refl _)).trans h.m1,
    ⟨h.md.1, h.md.2.1, h.md.2.2.1, h.md.2.2.2.grown hg ?_⟩, h.mn, ho⟩
  rcases hj : (Value.slice A ys.length C).ownBlock with _ | i
  · exact .inl rfl
  · right
    intro e
    have := h.mn i hj
    have := hlo i e.symm
    omega
end
theorem own_set {w : World} {B pb n c : Nat} {xs : List Int} (h : Own w B (.slice (some ⟨pb, 0, none⟩) n c) xs) (hl : xs.length = n) (k : Nat) (v : Int) (hv : Fits v) : Own (w.setCell ⟨pb, k, none⟩ (.int .i64 v)) B (.slice (some ⟨pb, 0, none⟩) n c) (xs.set k v) := by
  subst hl
  have hst := (h.1.stored k (.int .i64 v)).1
  rw [← List.map_set] at hst
  refine ⟨by rw [List.length_set]; exact hst, fun x hx => ?_⟩
  rcases List.mem_or_eq_of_mem_set hx with h9 | h9
  · exact h.2 x h9
  · rw [h9]; exact hv
theorem own_frozen {w : World} {B pb n c : Nat} {xs : List Int} (h : Own w B (.slice (some ⟨pb, 0, none⟩) n c) xs) (hl : xs.length = n) (k : Nat) : w.frozen? ⟨pb, k, none⟩ = false := by
  subst hl
  exact h.1.frozenAt k
set_option maxRecDepth 100000 in
set_option maxHeartbeats 4000000 in
theorem DrawMakeMass_c (A0 : Option Addr) (n0 c0 : Nat) (zs0 : List Int) (w : World) (ha : IsRow .u8 w A0 n0 c0 zs0) :
    Calls Try.prog 18 #[.slice A0 n0 c0] w fun e w' => ∃ s xs A n C, e = .returned (.tuple #[.int .i64 s, .slice A n C]) ∧ IsRow .i64 w' A n C xs ∧ n ≤ 17 ∧ Below w.heap.size w w' := by
  obtain ⟨i0, hi, hz0, hz1, hz2⟩ := info_parts Try.infoInt
  have HA := Lib.hid ha
  clear ha
  go_enter Try.func18, Try.ntmps18
  go_wp2_with fail
  refine (l14Open_c _ _ _ _ _ HA.out).mono ?_
  rintro e w1 ⟨rfl, hr1, hb1⟩
  have HR1 := Lib.hid hr1
  have HB1 := Lib.hid hb1
  clear hr1 hb1
  go_wp2_with fail
  refine (l3Open_c _ 0 (by omega) _ HR1.out).mono ?_
  rintro e w2 ⟨s, ys, A, C, rfl, hm, hr2, hg2⟩
  have s1 : w.heap.size < w1.heap.size := HR1.out.lt
  have s2 : w1.heap.size ≤ w2.heap.size := hg2.size
  have hl := hm.2.1
  have hcap : ys.length ≤ C := hm.2.2.2.rowAt.2.1
  have HMN := Lib.hid (fun j hj => (hm.2.2.2.lt j hj).2)
  have HM2 := Lib.hid (hm.low (show w.heap.size + 1 ≤ w1.heap.size by omega))
  have HR2 := Lib.hid hr2
  have HB2 := Lib.hid (HB1.out.trans (below_of_grown hg2 (by omega) HB1.out.size))
  clear hm hr2 hg2
  go_wp2_with fail
  refine (pick_c _ _ 3 (by omega) (by omega) _ (HR2.out.alloc _)).mono ?_
  rintro e w3 ⟨k, rfl, k0, k1, hr3, hg3⟩
  have k2 : k < 3 := by omega
  have n3 : w2.heap.size < w3.heap.size := by have := hg3.size; simp at this; omega
  have P3 : Hid (Parts w w.heap.size 21 w2.heap.size s A C ys (.slice none 0 0) [] w3) := Lib.hid (by
    obtain ⟨⟨b0, b1⟩, _⟩ := (BX.new w2 (.int .i64 s) (.slice A ys.length C) 25).grown hg3 (by omega) (by simp)
    exact ⟨HB2.out.trans ((below_of_grown (grown_trans_row (grown_alloc (grown_refl w2 _) _) hg3) (Nat.le_refl _) HB2.out.size)), Nat.le_refl _, by omega, n3, hr3.more (by omega), b0, b1, (HM2.out.alloc _).far hg3 (by omega), HMN.out, own_nil0 _ _⟩)
  clear hr3 hg3 k1
  go_upto_region 5 with fail
  obtain ⟨w4, hw4⟩ : ∃ x, x = w3.alloc (.cells #[] 3) := ⟨_, rfl⟩
  rw [← hw4]
  have P4 : Hid (Parts w w.heap.size 21 w2.heap.size s A C ys (.slice (some ⟨w3.heap.size, 0, none⟩) 0 0) [] w4) := Lib.hid (by
    have h := P3.out.alloc (.cells #[] 3)
    have hls := own_lit w3 [] (by simp) (by simp) (w2.heap.size + 1) (by omega)
    rw [hw4]
    exact ⟨h.bel, h.wg, h.lt, h.sz, h.rd, h.m0, h.m1, h.md, h.mn, hls⟩)
  clear hw4
  have K1 : 1 ≤ 1 + k := by omega
  have K3 : 1 + k ≤ 3 := by omega
  generalize 1 + k = K at *
  clear k0 k2
  go_wp2_with fail
  go_loopw [7, 8] (fun v i wr => ∃ j : Nat, j ≤ ys.length ∧ i = .int .i64 j ∧ ∃ xs : List Int, xs.length = j ∧ Parts w w.heap.size 21 w2.heap.size s A C ys v xs wr) (fun _ i _ => ys.length - (intOf i).toNat)
  case atStart => exact ⟨0, Nat.zero_le _, rfl, [], rfl, P4.out⟩
  case round =>
    obtain ⟨j, hj, rfl, xs, hxl, hP⟩ := hrel
    have m1 := hP.m1
    have n1 := hP.sz
    have PK := Lib.hid hP
    have HXL := Lib.hid hxl
    clear hP hxl
    by_cases hlt : j < ys.length
    · have hj40 : (j : Int) < 40 := by omega
      obtain ⟨b1, o1, rfl, hb1, hcl⟩ := PK.out.md.2.2.2.rowAt.at_ (by omega)
      have hbm : b1 < w2.heap.size := PK.out.mn b1 rfl
      have c1 := hcl j hlt
      have y0 : -1 ≤ ys.getD j 0 := PK.out.md.2.2.1 _ (getD_mem hlt)
      obtain ⟨_, y1⟩ : Fits (ys.getD j 0) := PK.out.md.2.2.2.2 _ (getD_mem hlt)
      clear hcl
      generalize ys.getD j 0 = Y at *
      by_cases hy : 1000 < Y
      · go_wp2_with (at_builtin; refine wpList_append_own _ rfl _ _ 23 rfl (w2.heap.size + 1) 3 i0 (.int .i64 0) 1 8 Try.underlying23 hi hz0 hz1 hz2 rfl (by decide) _ _ _ rfl (PK.out.ls.1.alloc _) ⟨wr.heap.size, 0, none⟩ 1 1 [.int .i64 (K * 1000)] rfl rfl ?c1 ?c2 ?c3 ?c4 ?c5 ?_)
        case c1 =>
          intro j u hj
          match j, hj with
          | 0, hj => simp at hj; subst hj; simp [Addr.add]
        case c2 => intro u hu; simp at hu; subst hu; rfl
        case c3 => have := HXL.out; unfold maxLen; omega
        case c4 => have := HXL.out; omega
        case c5 => simp; omega
        intro v' w6 hown' hgrow _
        have HO6 : Own w6 (w2.heap.size + 1) v' (xs ++ [K * 1000]) := ⟨by simpa using hown', fun x hx => by
          rcases List.mem_append.1 hx with h | h
          · exact PK.out.ls.2 x h
          · simp at h; unfold Fits; omega⟩
        have P6 := Lib.hid ((PK.out.alloc (.cells #[.int .i64 (K * 1000)] 3)).push HO6 hgrow)
        clear hown' hgrow HO6 m1 c1
        go_wp2
        go_roundw
        case rel => exact ⟨j + 1, by omega, by go_num, _, by simp [HXL.out], P6.out⟩
        case measure => simp [intOf]; omega
      · have hp : -3 ≤ K * Y ∧ K * Y ≤ 3000 := by
          have hK : K = 1 ∨ K = 2 ∨ K = 3 := by omega
          rcases hK with rfl | rfl | rfl <;> omega
        obtain ⟨hp0, hp1⟩ := hp
        have hqw : IntKind.i64.wrap (K * Y) = K * Y := IntWalk.i64_in _ (by omega)
        go_wp2_with (at_builtin; refine wpList_append_own _ rfl _ _ 23 rfl (w2.heap.size + 1) 3 i0 (.int .i64 0) 1 8 Try.underlying23 hi hz0 hz1 hz2 rfl (by decide) _ _ _ rfl (PK.out.ls.1.alloc _) ⟨wr.heap.size, 0, none⟩ 1 1 [.int .i64 (K * Y)] rfl rfl ?d1 ?d2 ?d3 ?d4 ?d5 ?_)
        case d2 => rfl
        case d3 => have := HXL.out; unfold maxLen; omega
        case d4 => have := HXL.out; omega
        case d5 => omega
        intro v' w6 hown' hgrow _
        have HO6 : Own w6 (w2.heap.size + 1) v' (xs ++ [K * Y]) := ⟨by simpa using hown', fun x hx => by
          rcases List.mem_append.1 hx with h | h
          · exact PK.out.ls.2 x h
          · simp at h; unfold Fits; omega⟩
        have P6 := Lib.hid ((PK.out.alloc (.cells #[.int .i64 (K * Y)] 3)).push HO6 hgrow)
        clear hown' hgrow HO6 m1 c1 hqw
        go_wp2
        go_roundw
        case rel => exact ⟨j + 1, by omega, by go_num, _, by simp [HXL.out], P6.out⟩
        case measure => simp [intOf]; omega
    · obtain rfl : j = ys.length := by omega
      go_wp2_with fail
      refine (pick_c _ _ 16 (by omega) (by omega) _ PK.out.rd).mono ?_
      rintro e w5 ⟨x, rfl, x0, x1, hr5, hg5⟩
      have P5 := Lib.hid (PK.out.kept hr5 hg5)
      clear hr5 hg5 m1 x1
      obtain ⟨pb, c, rfl, hp1, hp2⟩ := P5.out.ls.1.form (by rw [HXL.out]; omega)
      rw [HXL.out] at P5 ⊢
      have hpc : ys.length ≤ c := P5.out.ls.rowAt.2.1
      have m0 := P5.out.m0
      have n5 := P5.out.sz
      by_cases hx0 : x = 0
      · subst hx0
        go_wp2_with fail
        refine (num_c _ _ _ 3 3 [1000000000, 1000000001, -1] (by omega) (by omega) (by omega) _ (P5.out.alloc _).rd (lit_row w5 [1000000000, 1000000001, -1] (by intro y hy; simp at hy; unfold Fits; omega) (by simp)) (some_ne (by omega))).mono ?_
        rintro e w6 ⟨i, hi2, rfl, hr6, hg6⟩
        have hv : Fits (List.getD [1000000000, 1000000001, -1] i 0) := lit_pick (by intro y hy; simp at hy; unfold Fits; omega) hi2
        generalize List.getD [1000000000, 1000000001, -1] i 0 = v at *
        have P6 := Lib.hid ((P5.out.alloc _).kept hr6 hg6)
        clear hr6 hg6 hi2 m0
        have m0 := P6.out.m0
        have n6 := P6.out.sz
        have c0 : w6.cell? ⟨pb, 0, none⟩ = some (.int .i64 (xs.getD 0 0)) := by
          have := row_cell P6.out.ls.rowAt (k := 0) (by omega)
          rwa [Nat.zero_add] at this
        have cf : w6.frozen? ⟨pb, 0, none⟩ = false := own_frozen P6.out.ls HXL.out 0
        have hne : pb ≠ w2.heap.size := by omega
        have hne2 : w2.heap.size ≠ pb := by omega
        have O7 := Lib.hid (own_set P6.out.ls HXL.out 0 v hv)
        have B7 := Lib.hid (P6.out.bel.setCell (p := ⟨pb, 0, none⟩) (by show w.heap.size ≤ pb; omega) (.int .i64 v))
        go_wp2_with fail
        go_ret2
        exact ⟨s, _, _, _, _, rfl, O7.out.rowAt, hl.2, B7.out⟩
      have hx0b : (x == 0) = false := by simpa using hx0
      by_cases hx1 : x = 1
      · subst hx1
        obtain ⟨T, hT⟩ : ∃ T, ys.length = T + 1 := ⟨ys.length - 1, by omega⟩
        have hT2 : ((ys.length : Nat) : Int) - 1 = (T : Int) := by omega
        have hTc : (T : Int) ≤ (c : Int) := by omega
        have O7 := Lib.hid (P5.out.ls.rowAt.take T (by omega))
        go_wp2_with fail
        go_ret2
        exact ⟨s, _, _, _, _, rfl, O7.out, by omega, P5.out.bel⟩
      have hx1b : (x == 1) = false := by simpa using hx1
      go_wp2_with fail
      go_ret2
      exact ⟨s, _, _, _, _, rfl, P5.out.ls.rowAt, hl.2, P5.out.bel⟩
end Go.Proofs.Ytemollfejgmlcaa
