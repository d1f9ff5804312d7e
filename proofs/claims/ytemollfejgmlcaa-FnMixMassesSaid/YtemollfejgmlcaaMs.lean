/- Contracts of chapter 3's draws: l3Bad. Conditions: as stated. -/
import Derived.Test.YtemollfejgmlcaaMr
namespace Go.Proofs.Ytemollfejgmlcaa
open Go.RowKit

def BadE (W0 : World) (g q mb : Nat) (w : World) : Prop := ∃ s ys A C, Bad W0 g q mb s ys A C w
theorem ge_of_mass {s : Int} {zs : List Int} (h : massB s zs = true) : ∀ y ∈ zs, -1 ≤ y := fun y hy => by
  have := partsB_mem (massB_of h).2.2.1 y hy; omega
set_option maxRecDepth 100000 in
set_option maxHeartbeats 4000000 in
theorem l3Bad_c (g q : Nat) (s : Int) (zs : List Int) (A : Option Addr) (C : Nat) (hq : q ≤ 700000) (hm : massB s zs = true) (W0 w : World) (hlt : g < W0.heap.size) (hw : W0.grownBy w (some g)) (hr : Reader w g q) (ho : Own w W0.heap.size (.slice A zs.length C) zs) :
    Calls Try.prog 81 #[.pointer (some ⟨g, 0, none⟩), .agg #[.int .i64 s, .slice A zs.length C]] w fun e w' => ∃ s' ys A' C', e = .returned (.agg #[.int .i64 s', .slice A' ys.length C']) ∧ Fits s' ∧ (2 ≤ ys.length ∧ ys.length ≤ 17) ∧ (∀ y ∈ ys, -1 ≤ y) ∧ Own w' W0.heap.size (.slice A' ys.length C') ys ∧ Reader w' g (q + 2) ∧ W0.grownBy w' (some g) := by
  obtain ⟨i0, hi, hz0, hz1, hz2⟩ := info_parts Try.infoInt
  obtain ⟨⟨s1, s4⟩, t1, hpb, t2, t3⟩ := massB_of hm
  clear t1 t2 t3
  obtain ⟨l2, l16⟩ := massB_len hm
  have HGE := Lib.hid (ge_of_mass hm)
  have HPB := Lib.hid hpb
  have hsz := hw.size
  have HO := Lib.hid ho
  have HR := Lib.hid hr
  have HW := Lib.hid hw
  clear ho hr hw hm hpb
  go_enter Try.func81, Try.ntmps81
  go_wp2_with fail
  refine (pick_c g q 40 (by omega) (by omega) _ ((HR.out.alloc _).alloc _)).mono ?_
  rintro e w2 ⟨x, rfl, x0, x1, hr2, hg2⟩
  have D : Hid (Bad W0 g (q + 1) w.heap.size s zs A C w2) := Lib.hid (by
    refine Bad.kept (q := q) (w := (w.alloc (.cells #[.int .i64 s, .slice A zs.length C] 25)).alloc (.cells #[.int .i64 0, .slice none 0 0] 25)) ⟨by unfold Fits; omega, by omega, HGE.out, by go_simp, by go_simp, by go_simp, by go_simp, by go_simp, by go_simp, by go_simp, by go_simp, (HO.out.alloc _).alloc _, fun j hj => ?_, (HR.out.alloc _).alloc _, grown_alloc (grown_alloc HW.out _) _, hlt, hsz, by simp⟩ hr2 hg2
    have := (HO.out.lt j hj).2
    omega)
  clear hr2 hg2
  have HP : Hid (∀ k, k < zs.length → 0 ≤ zs.getD k 0 ∧ zs.getD k 0 ≤ 1000000) := Lib.hid (fun k hk => partsB_get HPB.out hk)
  have b0 := D.out.b0
  have b1 := D.out.b1
  have f0 := D.out.f0
  have f1 := D.out.f1
  have hs2 := D.out.sz
  have hs1 : w.heap.size < w2.heap.size := by omega
  go_upto_block 0 with fail
  go_cut [5] (fun v wx => BadE W0 g (q + 2) w.heap.size wx)
  case first =>
    by_cases hx0 : x = 0
    · subst hx0
      go_wp2_with fail
      refine (num_c g (q + 1) _ 5 5 [0, 5, -1, s + 1, 9223372036854775807] (by omega) (by omega) (by omega) _ (D.out.rd.alloc _) (lit_row w2 [0, 5, -1, s + 1, 9223372036854775807] (by intro y hy; simp at hy; unfold Fits; omega) (by simp)) (some_ne (by omega))).mono ?_
      rintro e w3 ⟨i, hi2, rfl, hr3, hg3⟩
      have hv : Fits (List.getD [0, 5, -1, s + 1, 9223372036854775807] i 0) := lit_pick (by intro y hy; simp at hy; unfold Fits; omega) hi2
      generalize List.getD [0, 5, -1, s + 1, 9223372036854775807] i 0 = v at *
      have D3 := Lib.hid ((D.out.alloc _).kept hr3 hg3)
      have D4 := Lib.hid (D3.out.setSize v hv)
      clear b0 b1 f0 f1 hr3 hg3 hi2 hs2 hs1
      have b0 := D3.out.b0
      have f0 := D3.out.f0
      have hs3 := D3.out.sz
      have hs4 : w.heap.size < w3.heap.size := by omega
      go_wp2_with fail
      go_meet
      exact ⟨_, _, _, _, D4.out⟩
    have hx0b : (x == 0) = false := by simpa using hx0
    by_cases hx1 : x = 1
    · subst hx1
      obtain ⟨pb, rfl, p1, p2, p3, p4⟩ := D.out.form
      have hrow : IsRow .i64 (w2.alloc (.cells #[] 3)) (some ⟨pb, 0, none⟩) zs.length C zs := D.out.own.rowAt.alloc _
      have HRW := Lib.hid hrow
      have hcs : zs.length ≤ C := hrow.2.1
      clear hrow
      go_upto_region 5 with fail
      refine wp_region_lit ?_
      refine wpList_plain rfl (fun K hK => ?_)
      go_simp
      refine hK _ _ ?_
      clear hK K
      refine wpList_plain rfl (fun K hK => ?_)
      go_simp
      refine hK _ _ ?_
      clear hK K
      refine wpList_plain rfl (fun K hK => ?_)
      go_simp
      refine hK _ _ ?_
      clear hK K
      refine wpList_push rfl _ _ rfl w2.heap.size w2.heap.size 0 0 [] rfl rfl (own_lit w2 [] (by simp) (by simp) _ (Nat.le_refl _)) _ zs.length C zs rfl HRW.out (by omega) (by simp) ?_
      intro g1 c1 w3 ho3 hg3
      rw [Nat.zero_add, List.nil_append] at ho3
      have hz3 : w2.heap.size + 1 ≤ w3.heap.size := by have := hg3.size; simp at this; omega
      have D3 := Lib.hid ((D.out.alloc (.cells #[] 3)).grownAt hg3 (by omega) (fun j hj => by have e := (by simpa [Value.ownBlock] using hj : pb = j); omega))
      have hg1 := ho3.lt g1 rfl
      have HO3 := Lib.hid ho3
      clear ho3 hg3 b0 b1 f0 f1
      refine wpList_plain rfl (fun K hK => ?_)
      go_simp
      refine hK _ _ ?_
      clear hK K
      refine wpList_push rfl _ _ rfl w2.heap.size g1 zs.length c1 zs rfl rfl (HO3.out.alloc _) _ 1 1 [0] rfl (lit_row w3 [0] (by intro y hy; simp at hy; unfold Fits; omega) (by simp)) (by omega) (by simp; omega) ?_
      intro g2 c2 w4 ho4 hg4
      have hz4 : w3.heap.size + 1 ≤ w4.heap.size := by have := hg4.size; simp at this; omega
      have D4 := Lib.hid ((D3.out.alloc (.cells #[.int .i64 0] 3)).grownAt hg4 (by omega) (fun j hj => by have e := (by simpa [Value.ownBlock] using hj : pb = j); omega))
      have hg2' := ho4.lt g2 rfl
      have HL : Hid ((zs ++ [0]).length = zs.length + 1) := Lib.hid (by simp)
      have D5 : Hid (Bad W0 g (q + 1) w.heap.size s (zs ++ [0]) (some ⟨g2, 0, none⟩) c2 (w4.setCell ⟨w.heap.size, 1, none⟩ (.slice (some ⟨g2, 0, none⟩) (zs.length + 1) c2))) := Lib.hid (by
        have h := D4.out.setParts (xs := zs ++ [0]) (A' := some ⟨g2, 0, none⟩) (C' := c2) (by rw [HL.out]; omega) (fun y hy => by
          rcases List.mem_append.1 hy with h1 | h1
          · exact HGE.out y h1
          · simp at h1; omega) (by rw [HL.out]; exact ho4.low (by omega)) (fun j hj => by have e := (by simpa [Value.ownBlock] using hj : g2 = j); omega)
        rwa [HL.out] at h)
      clear ho4 hg4
      have b1 := D4.out.b1
      have f1 := D4.out.f1
      have hs4 := D4.out.sz
      go_wp2_with fail
      go_meet
      exact ⟨_, _, _, _, D5.out.more (by omega)⟩
    have hx1b : (x == 1) = false := by simpa using hx1
    by_cases hx2 : x = 2
    · subst hx2
      obtain ⟨pb, rfl, p1, p2, p3, p4⟩ := D.out.form
      have hcs : zs.length ≤ C := D.out.own.rowAt.2.1
      have q0 := D.out.cell (k := 0) (by omega)
      have qf := D.out.own.1.frozenAt 0
      go_upto_region 7 with fail
      go_region_with (go_at_call 53; refine (num_c g (q + 1) _ 3 3 [-1, 1000001, 9223372036854775807] (by omega) (by omega) (by omega) _ (D.out.alloc _).drew.rd (lit_row w2 [-1, 1000001, 9223372036854775807] (by intro y hy; simp at hy; unfold Fits; omega) (by simp)).drew (some_ne (by omega))).mono ?_; rintro e w3 ⟨i, hi2, rfl, hr3, hg3⟩; have hv : -1 ≤ List.getD [-1, 1000001, 9223372036854775807] i 0 ∧ List.getD [-1, 1000001, 9223372036854775807] i 0 ≤ 9223372036854775807 := lit_pick (Q := fun v => -1 ≤ v ∧ v ≤ 9223372036854775807) (by intro y hy; simp at hy; omega) hi2; generalize List.getD [-1, 1000001, 9223372036854775807] i 0 = v at *; have D3 := Lib.hid ((D.out.alloc _).drew.kept hr3 hg3); clear hr3 hg3 hi2; have b1' := D3.out.b1; have q0' := D3.out.cell (k := 0) (by omega); have qf' := D3.out.own.1.frozenAt 0)
      all_goals
        have D4 := Lib.hid (D3.out.setPart 0 v hv)
        go_wp2_with fail
        go_meet
        exact ⟨_, _, _, _, D4.out⟩
    have hx2b : (x == 2) = false := by simpa using hx2
    by_cases hx3 : x = 3
    · subst hx3
      obtain ⟨pb, rfl, p1, p2, p3, p4⟩ := D.out.form
      have hcs : zs.length ≤ C := D.out.own.rowAt.2.1
      go_wp2_with fail
      clear b0 b1 f0 f1
      go_loopw [5] (fun i wr => ∃ k : Nat, k ≤ zs.length ∧ i = .int .i64 k ∧ ∃ ys : List Int, ys.length = zs.length ∧ (∀ j, k ≤ j → j < zs.length → ys.getD j 0 = zs.getD j 0) ∧ Bad W0 g (q + 1) w.heap.size s ys (some ⟨pb, 0, none⟩) C wr) (fun i _ => zs.length - (intOf i).toNat)
      case atStart => exact ⟨0, by omega, rfl, zs, rfl, fun j _ _ => rfl, D.out⟩
      case round =>
        obtain ⟨k, hk, rfl, ys, hyl, hys, hd⟩ := hrel
        have c1 := hd.b1
        rw [hyl] at c1
        have hk2 := hd.sz
        have hk1 : w.heap.size < wr.heap.size := by omega
        by_cases hlt2 : k < zs.length
        · obtain ⟨z0, z1⟩ := HP.out k hlt2
          have c2 := hd.cell (k := k) (by omega)
          rw [hys k (Nat.le_refl _) hlt2] at c2
          have cf := hd.own.1.frozenAt k
          have HYS := Lib.hid hys
          have HYL := Lib.hid hyl
          have DK := Lib.hid hd
          clear hys hyl hd
          generalize zs.getD k 0 = z at *
          have D4 := Lib.hid (DK.out.setPart k (2 * z) (by omega))
          have hw2 : IntKind.i64.wrap (2 * z) = 2 * z := IntWalk.i64_in _ (by omega)
          go_upto_region 12 with fail
          go_region
          go_wp2_with fail
          go_roundw
          case rel =>
            refine ⟨k + 1, by omega, by go_num, ys.set k (2 * z), by rw [List.length_set]; exact HYL.out, fun j h1 h2 => ?_, D4.out.drew⟩
            rw [List.getD_eq_getElem?_getD, List.getElem?_set_ne (by omega), ← List.getD_eq_getElem?_getD]
            exact HYS.out j (by omega) h2
          case measure => simp [intOf]; omega
        · have DK := Lib.hid hd
          clear hd hys
          go_wp2_with fail
          go_meet
          exact ⟨_, _, _, _, DK.out.more (by omega)⟩
    have hx3b : (x == 3) = false := by simpa using hx3
    by_cases hx4 : x = 4
    · subst hx4
      go_wp2_with (at_make; refine wpList_make_full _ rfl _ _ 23 rfl w2.heap.size 3 i0 (.int .i64 0) 1 Try.underlying23 hi hz0 hz1 _ _ _ _ zs.length rfl rfl rfl rfl ?b2 ?b3 ?b4 ?_)
      case b4 => exact Nat.le_refl _
      case b2 => rw [hz2]; omega
      case b3 => unfold maxLen; omega
      intro w3 hown3 hgrow3
      rw [toList_madeCells_one] at hown3
      have hz3 : w2.heap.size ≤ w3.heap.size := hgrow3.size
      have D3 := Lib.hid (D.out.kept (D.out.rd.kept hgrow3 (fun k e => by cases e)) (grown_none hgrow3 _))
      have HL : Hid ((List.replicate zs.length (0 : Int)).length = zs.length) := Lib.hid (by simp)
      have ho3 : Own w3 W0.heap.size (.slice (some ⟨w2.heap.size, 0, none⟩) zs.length zs.length) (List.replicate zs.length 0) := by
        refine Own.low (B := w2.heap.size) ⟨?_, fun y hy => by have := List.eq_of_mem_replicate hy; unfold Fits; omega⟩ (by omega)
        rw [HL.out, List.map_replicate]
        simpa using hown3
      have D5 : Hid (Bad W0 g (q + 1) w.heap.size s (List.replicate zs.length 0) (some ⟨w2.heap.size, 0, none⟩) zs.length (w3.setCell ⟨w.heap.size, 1, none⟩ (.slice (some ⟨w2.heap.size, 0, none⟩) zs.length zs.length))) := Lib.hid (by
        have h := D3.out.setParts (xs := List.replicate zs.length 0) (A' := some ⟨w2.heap.size, 0, none⟩) (C' := zs.length) (by rw [HL.out]; omega) (fun y hy => by have := List.eq_of_mem_replicate hy; omega) (by rw [HL.out]; exact ho3) (fun j hj => by have e := (by simpa [Value.ownBlock] using hj : w2.heap.size = j); omega)
        rwa [HL.out] at h)
      clear hown3 hgrow3 ho3 b0 b1 f0 f1
      have b1 := D3.out.b1
      have f1 := D3.out.f1
      have hs4 := D3.out.sz
      go_wp2_with fail
      go_meet
      exact ⟨_, _, _, _, D5.out.more (by omega)⟩
    have hx4b : (x == 4) = false := by simpa using hx4
    go_wp2_with fail
    go_meet
    exact ⟨_, _, _, _, D.out.more (by omega)⟩
  case rest =>
    obtain ⟨s', ys, A', C', hd⟩ := hcut
    clear b0 b1 f0 f1 hs2 hs1
    have b0 := hd.b0
    have b1 := hd.b1
    have r0 := hd.r0
    have r1 := hd.r1
    have k0 := hd.k0
    have k1 := hd.k1
    have hs2 := hd.sz
    have hs1 : w.heap.size < wc.heap.size := by omega
    have DX := Lib.hid hd
    clear hd
    go_wp2_with fail
    refine bodyPost_ret (v := .agg #[.int .i64 s', .slice A' ys.length C']) (by simp [results, Try.results81, go_sem, r0, r1]) rfl ?_
    have hl2 := DX.out.lt
    have hl3 := DX.out.le
    refine ⟨s', ys, A', C', rfl, DX.out.fs, DX.out.len, DX.out.ge, ?_, ?_, ?_⟩
    · repeat (first | exact DX.out.own | (refine Own.set ?_ _ (fun j hj => (DX.out.ne j hj).2) _))
    · repeat (first | exact DX.out.rd | (refine reader_set ?_ _ (by show g < w.heap.size + 1; omega) _))
    · repeat (first | exact DX.out.gr | (refine grown_set ?_ _ (by show W0.heap.size ≤ w.heap.size + 1; omega) _))
end Go.Proofs.Ytemollfejgmlcaa
