/- FnDivisor: for every input that can be read, the law returns true and its arguments read afterwards as before. Conditions: none. -/
import Derived.Test.YtihbfhjfceabnaaMem
import Derived.Test.YtihbfhjfceabnaaSigns
import Derived.Test.YtihbfhjfceabnaaPlainB
import Derived.Test.YtihbfhjfceabnaaPlainI
import Derived.Test.YtihbfhjfceabnaaWm
import Derived.Test.YtihbfhjfceabnaaWh
import Derived.Test.YtihbfhjfceabnaaWo
import Derived.BigFrame
namespace Go.Proofs.Ytihbfhjfceabnaa.fnDivisor
open Go.ChangeShapes Go.WideShapes Go.ChangeAt Go.RowKit
open Go.ChangeMaps (open_string shut_string)
set_option linter.unusedVariables false

set_option maxRecDepth 100000 in
set_option maxHeartbeats 4000000 in
theorem walk (a0 : Option Addr) (len0 cap0 : Nat) (z0 : List Int) (w : World) (w0 : IsRow .u8 w a0 len0 cap0 z0) :
    Calls Try.prog 6 #[.slice a0 len0 cap0] w fun e w' => e = .returned (.bool true) ∧ Below w.heap.size w w' := by
  by_cases hn : len0 ≤ 1048576
  · have hn2 : (len0 : Int) ≤ 1048576 := by omega
    have HW := Lib.hid w0
    clear w0
    have HB := Lib.hid (Below.refl w.heap.size w)
    obtain ⟨i0, hi, hz0, hz1, hz2⟩ := info_parts Try.infoInt
    go_enter Try.func6, Try.ntmps6
    go_wp2_with fail
    refine (DrawGreatestDivisor_c _ _ _ _ _ HW.out).mono ?_
    rintro e v1 ⟨xs, A, C, rfl, ho, hlen, hb⟩
    have hA : Below w.heap.size w v1 := Below.trans (by repeat (first | exact Below.refl _ _ | (refine Below.alloc ?_ (by first | (simp <;> omega) | omega) _) | (refine Below.setCell ?_ (by first | (simp <;> omega) | omega) _) | (refine Below.drew ?_) | (refine below_drewN ?_ _))) (hb.mono (by first | exact Nat.le_refl _ | (simp <;> omega) | omega))
    have hsv1 : w.heap.size ≤ v1.heap.size := hA.size
    replace HB := Lib.hid (HB.out.trans (hA.mono HB.out.size))
    have LOL : Hid (∀ g, (.slice A xs.length C : Value).ownBlock = some g → w.heap.size + 0 ≤ g ∧ g < v1.heap.size) := Lib.hid (fun g hg => by have := ho.lt g hg; first | omega | (simp at this; omega) | (simp at this ⊢; omega))
    have OL := Lib.hid ho
    clear hb hA ho
    obtain ⟨D, hD⟩ : ∃ D, divG xs = D := ⟨_, rfl⟩
    have HD := Lib.hid hD
    have hmod := @div_mod xs
    have hone := @div_one xs
    have hmore := @div_more xs
    have hpt := @divG_parts xs
    rw [hD] at hmod hone hmore hpt
    clear hD
    by_cases hd : D < 1
    · clear hmod hone hmore hpt
      go_wp2_with fail
      refine (bel_dr (impl_GD_c _ _ _ xs _ OL.out.rowAt0)).mono ?_
      rintro e v2 ⟨rfl, hb⟩
      have hA : Below v1.heap.size v1 v2 := Below.trans (by repeat (first | exact Below.refl _ _ | (refine Below.alloc ?_ (by first | (simp <;> omega) | omega) _) | (refine Below.setCell ?_ (by first | (simp <;> omega) | omega) _) | (refine Below.drew ?_) | (refine below_drewN ?_ _))) (hb.mono (by first | exact Nat.le_refl _ | (simp <;> omega) | omega))
      have hsv2 : v1.heap.size ≤ v2.heap.size := hA.size
      replace OL := Lib.hid (OL.out.below hA (fun g hg => (OL.out.lt g hg).2))
      replace HB := Lib.hid (HB.out.trans (hA.mono HB.out.size))
      clear hb hA
      rw [HD.out]
      go_wp2_with fail
      refine (bel_dr (spec_GD_c _ _ _ xs _ OL.out.rowAt0)).mono ?_
      rintro e v3 ⟨rfl, hb⟩
      have hA : Below v2.heap.size v2 v3 := Below.trans (by repeat (first | exact Below.refl _ _ | (refine Below.alloc ?_ (by first | (simp <;> omega) | omega) _) | (refine Below.setCell ?_ (by first | (simp <;> omega) | omega) _) | (refine Below.drew ?_) | (refine below_drewN ?_ _))) (hb.mono (by first | exact Nat.le_refl _ | (simp <;> omega) | omega))
      have hsv3 : v2.heap.size ≤ v3.heap.size := hA.size
      replace OL := Lib.hid (OL.out.below hA (fun g hg => (OL.out.lt g hg).2))
      replace HB := Lib.hid (HB.out.trans (hA.mono HB.out.size))
      clear hb hA
      rw [HD.out]
      go_wp2_with fail
      refine (bel_dr (spec_GD_c _ _ _ xs _ OL.out.rowAt0)).mono ?_
      rintro e v4 ⟨rfl, hb⟩
      have hA : Below v3.heap.size v3 v4 := Below.trans (by repeat (first | exact Below.refl _ _ | (refine Below.alloc ?_ (by first | (simp <;> omega) | omega) _) | (refine Below.setCell ?_ (by first | (simp <;> omega) | omega) _) | (refine Below.drew ?_) | (refine below_drewN ?_ _))) (hb.mono (by first | exact Nat.le_refl _ | (simp <;> omega) | omega))
      have hsv4 : v3.heap.size ≤ v4.heap.size := hA.size
      replace OL := Lib.hid (OL.out.below hA (fun g hg => (OL.out.lt g hg).2))
      replace HB := Lib.hid (HB.out.trans (hA.mono HB.out.size))
      clear hb hA
      rw [HD.out]
      go_wp2_with fail
      go_ret
      exact ⟨rfl, HB.out⟩
    · have hd1 : 1 ≤ D := by omega
      obtain ⟨hp, heq, hd2⟩ := hpt hd1
      clear heq
      have HMOD := Lib.hid (hmod hd1)
      have HONE := Lib.hid (hone hd1)
      have HMORE := Lib.hid (hmore hd1)
      have HP := Lib.hid hp
      clear hmod hone hmore hpt hp
      go_wp2_with fail
      refine (bel_dr (impl_GD_c _ _ _ xs _ OL.out.rowAt0)).mono ?_
      rintro e v2 ⟨rfl, hb⟩
      have hA : Below v1.heap.size v1 v2 := Below.trans (by repeat (first | exact Below.refl _ _ | (refine Below.alloc ?_ (by first | (simp <;> omega) | omega) _) | (refine Below.setCell ?_ (by first | (simp <;> omega) | omega) _) | (refine Below.drew ?_) | (refine below_drewN ?_ _))) (hb.mono (by first | exact Nat.le_refl _ | (simp <;> omega) | omega))
      have hsv2 : v1.heap.size ≤ v2.heap.size := hA.size
      replace OL := Lib.hid (OL.out.below hA (fun g hg => (OL.out.lt g hg).2))
      replace HB := Lib.hid (HB.out.trans (hA.mono HB.out.size))
      clear hb hA
      rw [HD.out]
      go_wp2_with fail
      refine (bel_dr (spec_GD_c _ _ _ xs _ OL.out.rowAt0)).mono ?_
      rintro e v3 ⟨rfl, hb⟩
      have hA : Below v2.heap.size v2 v3 := Below.trans (by repeat (first | exact Below.refl _ _ | (refine Below.alloc ?_ (by first | (simp <;> omega) | omega) _) | (refine Below.setCell ?_ (by first | (simp <;> omega) | omega) _) | (refine Below.drew ?_) | (refine below_drewN ?_ _))) (hb.mono (by first | exact Nat.le_refl _ | (simp <;> omega) | omega))
      have hsv3 : v2.heap.size ≤ v3.heap.size := hA.size
      replace OL := Lib.hid (OL.out.below hA (fun g hg => (OL.out.lt g hg).2))
      replace HB := Lib.hid (HB.out.trans (hA.mono HB.out.size))
      clear hb hA
      rw [HD.out]
      go_wp2_with fail
      go_loopw [5, 6] (fun v i wr => ∃ k : Nat, k ≤ xs.length ∧ i = .int .i64 k ∧ Own wr v3.heap.size v (divL xs D k) ∧ Below v3.heap.size v3 wr) (fun _ i _ => xs.length - (intOf i).toNat)
      case atStart => exact ⟨0, Nat.zero_le _, rfl, own_lit v3 [] (by simp) (by simp) _ (Nat.le_refl _), (Below.refl _ _).alloc (Nat.le_refl _) _⟩
      case round =>
        obtain ⟨k, hk, rfl, hP, hbw⟩ := hrel
        have hws := hbw.size
        have OR := Lib.hid (OL.out.below hbw (fun g hg => (OL.out.lt g hg).2))
        have hdl := divL_len xs D k hk
        by_cases hlt : k < xs.length
        · have hmem := getD_mem hlt
          have hmd := HMOD.out _ hmem
          obtain ⟨t0, t1⟩ := tdiv_part (d := D) (HP.out _ hmem)
          have HDS := Lib.hid (divL_succ (d := D) hlt)
          obtain ⟨b1, o1, rfl, hb1, hcl⟩ := OR.out.rowAt0.at_ (by omega)
          have c1 := hcl k hlt
          have PO := Lib.hid hP
          have HBV := Lib.hid hbw
          have HDL := Lib.hid hdl
          clear hcl hmem hP hbw hdl
          generalize xs.getD k 0 = x at *
          have hDD : (D == 0) = false := by simp; omega
          go_wp2_with (at_builtin; refine wpList_append_own _ rfl _ _ 23 rfl v3.heap.size 3 i0 (.int .i64 0) 1 8 Try.underlying23 hi hz0 hz1 hz2 rfl (by decide) _ _ _ rfl (PO.out.1.alloc _) ⟨wr.heap.size, 0, none⟩ 1 1 [.int .i64 (x.tdiv D)] rfl rfl ?d1 ?d2 ?d3 ?d4 ?d5 ?_)
          case d1 =>
            intro j u hj
            match j, hj with
            | 0, hj => simp at hj; subst hj; simp [Addr.add]
          case d2 => first | rfl | (intro u hu; simp at hu; subst hu; rfl)
          case d3 => have := HDL.out; unfold maxLen; omega
          case d4 => have := HDL.out; omega
          case d5 => first | omega | (simp; omega)
          intro v' w6 hown' hgrow _
          have HO6 : Own w6 v3.heap.size v' (divL xs D (k + 1)) := by
            rw [HDS.out]
            exact ⟨by simpa using hown', fun y hy => by
              rcases List.mem_append.1 hy with h | h
              · exact PO.out.2 y h
              · simp at h; subst h; unfold Fits; omega⟩
          have HB6 := Lib.hid ((HBV.out.alloc hws (.cells #[.int .i64 (x.tdiv D)] 3)).grown hgrow (by simp; omega) (fun j hj => (PO.out.lt j hj).1))
          have HO6 := Lib.hid HO6
          clear hown' hgrow
          go_wp2_with fail
          go_roundw
          case rel => exact ⟨k + 1, by omega, by go_num, HO6.out, HB6.out⟩
          case measure => simp [intOf]; omega
        · obtain rfl : k = xs.length := by omega
          obtain ⟨PA, PC, rfl, hprow, _⟩ := hP.form
          rw [hdl]
          have PR := Lib.hid hprow
          have HDL := Lib.hid hdl
          have HBV := Lib.hid hbw
          clear hP hprow hbw hdl
          have hkk : ¬ (xs.length : Int) < (xs.length : Int) := by omega
          go_upto_region 14 with fail
          refine wp_region_lit ?_
          refine wpList_plain rfl (fun K hK => ?_)
          go_simp
          refine hK _ _ ?_
          clear hK K
          refine wpList_plain rfl (fun K hK => ?_)
          go_simp
          go_at_call 23
          refine (bel_dr (impl_GD_c PA xs.length PC (divL xs D xs.length) _ (by have h := PR.out; rwa [HDL.out] at h))).mono ?_
          rintro e w2 ⟨rfl, hb⟩
          rw [HONE.out]
          go_simp
          refine hK _ _ ?_
          clear hK K
          have OR2 := Lib.hid (OR.out.below hb (fun g hg => (OR.out.lt g hg).2))
          have HB2 := Lib.hid (HBV.out.trans (hb.mono HBV.out.size))
          have hs2 : wr.heap.size ≤ w2.heap.size := hb.size
          clear hb
          refine wpList_plain rfl (fun K hK => ?_)
          go_simp
          refine hK _ _ ?_
          clear hK K
          refine wpList_plain rfl (fun K hK => ?_)
          go_simp
          refine hK _ _ ?_
          clear hK K
          refine BigFrame.wpList_want (by rfl) (fun K hK => ?_)
          go_simp
          refine hK _ _ ?_
          clear hK K
          have h0 : 0 < xs.length := by
            rcases Nat.eq_zero_or_pos xs.length with h | h
            · exfalso
              have e := HD.out
              rw [List.length_eq_zero_iff.1 h] at e
              have e2 : divG [] = 0 := rfl
              omega
            · exact h
          obtain ⟨b1, o1, rfl, _, _⟩ := OR2.out.rowAt0.at_ h0
          have HBW := Lib.hid (HB.out.trans (HB2.out.mono HB.out.size))
          have hww : w.heap.size ≤ w2.heap.size := HBW.out.size
          refine BigFrame.wpList_want (by rfl) (fun K hK => ?_)
          go_simp
          refine hK _ _ ?_
          clear hK K
          refine wpList_pushw (by rfl) _ _ rfl w2.heap.size w2.heap.size 0 0 [] rfl rfl (own_lit w2 [] (by simp) (by simp) _ (Nat.le_refl _)) _ xs.length C xs rfl (OR2.out.rowAt0.alloc _) (by omega) (by simp) ?_
          intro g1 c1 w3 ho3 hg3
          rw [Nat.zero_add, List.nil_append] at ho3
          have hz3 : w2.heap.size + 1 ≤ w3.heap.size := by have := hg3.size; simp at this; omega
          have hg1 := ho3.lt g1 rfl
          have HO3 := Lib.hid ho3
          have HB3 := Lib.hid ((HBW.out.alloc HBW.out.size (.cells #[] 3)).grown hg3 (by simp; omega) (fun j hj => by injection hj with hj; omega))
          clear ho3 hg3
          refine BigFrame.wpList_want (by rfl) (fun K hK => ?_)
          go_simp
          refine hK _ _ ?_
          clear hK K
          refine BigFrame.wpList_want (by rfl) (fun K hK => ?_)
          go_simp
          refine hK _ _ ?_
          clear hK K
          refine wpList_pushw (by rfl) _ _ rfl w2.heap.size g1 xs.length c1 xs rfl rfl (HO3.out.alloc _) _ 1 1 [D] rfl (lit_row w3 [D] (by intro y hy; simp at hy; unfold Fits; omega) (by simp)) (by omega) (by simp; omega) ?_
          intro g2 c2 w4 ho4 hg4
          have hz4 : w3.heap.size + 1 ≤ w4.heap.size := by have := hg4.size; simp at this; omega
          have hl : (xs ++ [D]).length = xs.length + 1 := by simp
          have hrow4 : IsRow .i64 w4 (some ⟨g2, 0, none⟩) (xs.length + 1) c2 (xs ++ [D]) := by
            have h : Own w4 w2.heap.size (.slice (some ⟨g2, 0, none⟩) (xs ++ [D]).length c2) (xs ++ [D]) := by rw [hl]; exact ho4
            have h2 := h.row
            rwa [hl] at h2
          have HR4 := Lib.hid hrow4
          have HB4 := Lib.hid ((HB3.out.alloc HB3.out.size (.cells #[.int .i64 D] 3)).grown hg4 (by simp; omega) (fun j hj => by injection hj with hj; omega))
          clear ho4 hg4 hrow4 hl
          refine BigFrame.wpList_want (by rfl) (fun K hK => ?_)
          go_simp
          go_at_call 23
          refine (bel_dr (impl_GD_c _ _ _ (xs ++ [D]) _ HR4.out)).mono ?_
          rintro e w5 ⟨rfl, hb⟩
          rw [HMORE.out]
          have HB5 := Lib.hid (HB4.out.trans (hb.mono HB4.out.size))
          clear hb
          go_simp
          refine hK _ _ ?_
          clear hK K
          go_wp2_with fail
          go_ret
          exact ⟨rfl, HB5.out⟩
  · have hn2 : 1048576 < (len0 : Int) := by omega
    go_enter Try.func6, Try.ntmps6
    go_wp2_with fail
    go_ret
    exact ⟨rfl, Below.refl _ _⟩

set_option maxRecDepth 100000 in
theorem lifted (os : Os) (started : os.Started) (H : Type) (enc : TypeId × Value → H) :
    ReturnsInHanded {} Try.checked os 6 .any (Rows.fnDivisorSpec.pre6 enc Try.prog Try.f6 Rows.fnDivisorRow.domain false) (Rows.fnDivisorSpec.post enc Try.prog Try.f6 false true false false) := by
  refine returnsInHanded_of_change (C := Try.checked) own started (by kernel_rfl) Try.func6
    (ChangeSpec.witness6 (enc := enc) (C := Try.checked) false ⟨#[], #[.slice none 0 0], []⟩ 8 (by kernel_rfl) (by kernel_rfl) (by kernel_rfl) (by kernel_rfl)) ?_
  intro W base args ds gs before hval0 hW hcnd _
  have hval : ∀ (j : Nat) t v, Try.f6.params[j]? = some t → args[j]? = some v → Value.okWide Try.prog W .any base t v := hval0
  have hW' := hW
  obtain ⟨p, q, hA0, hV, rfl, hfz, hnd⟩ := hW
  have hA : DataW.TrodAll enc Try.prog W 0 (fun _ => true) true Try.f6.params.toList args.toList ds p := hA0
  rw [Try.params6] at hA hval
  obtain ⟨v0, vs0, d0, ds0, p0, q0, hargs, rfl, rfl, h0, r0⟩ := trodAll_cons hA
  obtain ⟨rfl, rfl, rfl⟩ := trodAll_nil r0
  obtain rfl : args = #[v0] := by cases args; simp_all
  obtain ⟨rfl, rfl⟩ := trodVars_none hV
  have k0 := h0
  have lt0 : ∀ x ∈ p0, x.block < W.heap.size := by obtain ⟨m, hm⟩ := k0; exact DataW.trod_lt m _ _ _ hm
  obtain ⟨a0, len0, cap0, z0, rfl, w0⟩ := get_row Try.underlying22 Try.underlying5 (by kernel_rfl) (hval 0 22 v0 rfl rfl) h0
  clear hA0 hval0
  refine (walk a0 len0 cap0 z0 W w0).mono fun e W' ⟨he, bel⟩ => ?_
  subst he
  exact ⟨_, rfl, _, _, _, [], _, [], hW', trodAll_mk1 (shut_bool Try.underlying4 _), (trodAll_cons_mk (Below.trod laidOut (by kernel_rfl) (of_decide_eq_true (by kernel_rfl)) k0 bel lt0) trodAll_mk0), rfl, bel.frame _, fun h => by cases h⟩

theorem closed : joinedFacts Try.prog 6 Try.f6 Rows.fnDivisorSpec Rows.fnDivisorRow = true := by
  rw [joinedFacts.eq_1]
  simp only [Bool.and_eq_true]
  repeat' apply And.intro
  all_goals first | (with_reducible exact fact_enter) | (with_reducible exact laidOut) | (with_reducible exact fact_maps) | (with_reducible exact fact_heard) | (rw [fact_lifts]; try (as_aux_lemma => kernel_rfl)) | (rw [fact_make]; try (as_aux_lemma => kernel_rfl)) | (rw [fact_keys]; try (as_aux_lemma => kernel_rfl)) | (as_aux_lemma => kernel_rfl)

theorem holds : Rows.FnDivisorSaid :=
  OpenClaim.holds_of_wide 6 Try.f6 rfl rfl rfl rfl rfl rfl rfl ⟨rfl, rfl, rfl, rfl, rfl⟩ rfl rfl rfl rfl rfl (by kernel_rfl) Try.func6 closed
    (of_decide_eq_true (by kernel_rfl)) (by unfold Func.isWrapper; rw [if_neg (of_decide_eq_false (by kernel_rfl))]; exact ⟨rfl, rfl⟩)
    (fun os started H enc _ => lifted os started H enc)
#print axioms holds
end Go.Proofs.Ytihbfhjfceabnaa.fnDivisor
