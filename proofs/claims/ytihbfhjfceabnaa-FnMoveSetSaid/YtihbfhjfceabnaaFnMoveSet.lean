/- FnMoveSet: for every input that can be read, the law returns true and its arguments read afterwards as before. Conditions: none. -/
import Derived.Test.YtihbfhjfceabnaaMem
import Derived.Test.YtihbfhjfceabnaaSigns
import Derived.Test.YtihbfhjfceabnaaWa
import Derived.Test.YtihbfhjfceabnaaWv
import Derived.Test.YtihbfhjfceabnaaPlainH
import Derived.Test.YtihbfhjfceabnaaWq
namespace Go.Proofs.Ytihbfhjfceabnaa.fnMoveSet
open Go.ChangeShapes Go.WideShapes Go.ChangeAt Go.RowKit
open Go.ChangeMaps (open_string shut_string)
set_option linter.unusedVariables false

set_option maxRecDepth 100000 in
set_option maxHeartbeats 4000000 in
theorem walk (a0 : Option Addr) (len0 cap0 : Nat) (z0 : List Int) (w : World) (w0 : IsRow .u8 w a0 len0 cap0 z0) :
    Calls Try.prog 3 #[.slice a0 len0 cap0] w fun e w' => e = .returned (.bool true) ∧ Below w.heap.size w w' := by
  by_cases hn : len0 ≤ 1048576
  · have hn2 : (len0 : Int) ≤ 1048576 := by omega
    have HW := Lib.hid w0
    clear w0
    have HB := Lib.hid (Below.refl w.heap.size w)
    obtain ⟨i0, hi, hz0, hz1, hz2⟩ := info_parts Try.infoInt
    go_enter Try.func3, Try.ntmps3
    go_wp2_with fail
    refine (DrawMoveSet_c _ _ _ _ _ HW.out).mono ?_
    rintro e v1 ⟨s, a, xs, A, C, rfl, ho, hlen, hb⟩
    have hA : Below w.heap.size w v1 := Below.trans (by repeat (first | exact Below.refl _ _ | (refine Below.alloc ?_ (by first | (simp <;> omega) | omega) _) | (refine Below.setCell ?_ (by first | (simp <;> omega) | omega) _) | (refine Below.drew ?_) | (refine below_drewN ?_ _))) (hb.mono (by first | exact Nat.le_refl _ | (simp <;> omega) | omega))
    have hsv1 : w.heap.size ≤ v1.heap.size := hA.size
    replace HB := Lib.hid (HB.out.trans (hA.mono HB.out.size))
    have LOL : Hid (∀ g, (.slice A xs.length C : Value).ownBlock = some g → w.heap.size + 0 ≤ g ∧ g < v1.heap.size) := Lib.hid (fun g hg => by have := ho.lt g hg; first | omega | (simp at this; omega) | (simp at this ⊢; omega))
    have OL := Lib.hid ho
    clear hb hA ho
    rcases hB : movB s a xs.length xs with _ | _
    · have hI : movI s a xs.length xs = 0 := by simp [movI, hB]
      have HBB := Lib.hid hB
      have HI := Lib.hid hI
      clear hB hI
      go_wp2_with fail
      refine (impl_MoveSet_c s a A xs.length C xs _ OL.out.row).mono ?_
      rintro e w2 ⟨rfl, rfl⟩
      rw [HI.out, HBB.out]
      go_wp2_with fail
      refine (spec_MoveSet_c s a A xs.length C xs _ OL.out.row).mono ?_
      rintro e w2 ⟨rfl, rfl⟩
      rw [HI.out, HBB.out]
      go_wp2_with fail
      go_ret
      exact ⟨rfl, HB.out⟩
    · obtain ⟨l1, l2, l3, l4⟩ := mov_law rfl hB
      have hord : ordI s xs.length xs = true := by unfold movB at hB; rw [Bool.and_eq_true] at hB; exact hB.2
      have hval : validB s a = true := by unfold movB at hB; rw [Bool.and_eq_true] at hB; exact hB.1
      have hs14 := (validB_of hval).1
      obtain ⟨hsn, hrg⟩ := ordI_range hord
      obtain ⟨s1, s4⟩ := hs14
      obtain ⟨b, hb0⟩ : ∃ b, movI s a xs.length xs = b := ⟨_, rfl⟩
      rw [hb0] at l1 l2 l3 l4
      have HBB := Lib.hid hB
      have HI := Lib.hid hb0
      have L1 := Lib.hid l1
      have L2 := Lib.hid l2
      have L3 := Lib.hid l3
      have L4 := Lib.hid l4
      have HSN := Lib.hid hsn
      have HRG := Lib.hid hrg
      have hl1 : 1 ≤ xs.length := by omega
      clear hB hb0 l1 l2 l3 l4 hord hval hrg hsn
      go_wp2_with fail
      refine (impl_MoveSet_c s a A xs.length C xs _ OL.out.row).mono ?_
      rintro e w2 ⟨rfl, rfl⟩
      rw [HI.out, HBB.out]
      go_wp2_with fail
      refine (spec_MoveSet_c s a A xs.length C xs _ OL.out.row).mono ?_
      rintro e w2 ⟨rfl, rfl⟩
      rw [HI.out, HBB.out]
      go_wp2_with (at_make; refine wpList_make_full _ rfl _ _ 23 rfl v1.heap.size 3 i0 (.int .i64 0) 1 Try.underlying23 hi hz0 hz1 _ _ _ _ xs.length rfl rfl HSN.out.symm HSN.out.symm ?b2 ?b3 ?b4 ?_)
      case b4 => exact Nat.le_refl _
      case b2 => rw [hz2]; omega
      case b3 => unfold maxLen; omega
      intro w2 hown2 hgrow2
      rw [toList_madeCells_one] at hown2
      have hz3 : v1.heap.size ≤ w2.heap.size := hgrow2.size
      have HLR : Hid ((List.replicate xs.length (0 : Int)).length = xs.length) := Lib.hid (by simp)
      have O2 : Hid (Own w2 v1.heap.size (.slice (some ⟨v1.heap.size, 0, none⟩) xs.length xs.length) (backL xs xs.length 0)) := Lib.hid (by
        refine ⟨?_, fun y hy => by have := List.eq_of_mem_replicate hy; unfold Fits; omega⟩
        show w2.ownsRow v1.heap.size 3 1 _ (List.replicate xs.length (0 : Int)).length ((List.replicate xs.length (0 : Int)).map (Value.int .i64))
        rw [HLR.out, List.map_replicate]
        simpa using hown2)
      have B2 := Lib.hid (show Below v1.heap.size v1 w2 from ⟨hgrow2.os, hgrow2.tape, hgrow2.output, hgrow2.size, fun k hk => hgrow2.block k hk (by simp)⟩)
      clear hown2 hgrow2
      go_wp2_with fail
      go_loopw [11] (fun i wr => ∃ k : Nat, k ≤ xs.length ∧ i = .int .i64 k ∧ Own wr v1.heap.size (.slice (some ⟨v1.heap.size, 0, none⟩) xs.length xs.length) (backL xs xs.length k) ∧ Below v1.heap.size v1 wr) (fun i _ => xs.length - (intOf i).toNat)
      case atStart => exact ⟨0, Nat.zero_le _, rfl, O2.out, B2.out⟩
      case round =>
        obtain ⟨k, hk, rfl, hO, hbw⟩ := hrel
        have hbs := hbw.size
        have hbl := backL_len xs xs.length k
        have OX := Lib.hid (OL.out.below hbw (fun g hg => (OL.out.lt g hg).2))
        by_cases hlt : k < xs.length
        · have hlts : (k : Int) < s := by have := HSN.out; omega
          obtain ⟨t0, t1⟩ := HRG.out k hlt
          obtain ⟨b1, o1, rfl, hb1, hcl⟩ := OX.out.row.at_ (by omega)
          have c1 := hcl k hlt
          have hb1v : b1 < v1.heap.size := (OL.out.lt b1 rfl).2
          obtain ⟨T, hT⟩ := Int.eq_ofNat_of_zero_le t0
          have hTn : T < xs.length := by have := HSN.out; omega
          have HS : Hid (backL xs xs.length (k + 1) = (backL xs xs.length k).set T (k : Int)) := Lib.hid (by show (backL xs xs.length k).set (xs.getD k 0).toNat (k : Int) = _; rw [hT]; rfl)
          rw [hT] at c1
          have c2 := row_cell0 (own_row hO hbl) hTn
          have cf := own_fz hO hbl T
          have hcx : xs.length ≤ C := OL.out.row.2.1
          have O3 := Lib.hid (own_set0 hO hbl T (k : Int) (by unfold Fits; omega))
          have B3 := Lib.hid (hbw.setCell (p := ⟨v1.heap.size, T, none⟩) (Nat.le_refl _) (.int .i64 (k : Int)))
          have hne : b1 ≠ v1.heap.size := by omega
          clear hcl hO hbw hT t0 t1
          have hT0 : (0 : Int) ≤ (T : Int) := by omega
          have hT1 : (T : Int) < (xs.length : Int) := by omega
          have hk1 : (k : Int) < (xs.length : Int) := by omega
          go_wp2_with fail
          go_roundw
          case rel => exact ⟨k + 1, by omega, by go_num, by rw [HS.out]; exact O3.out, B3.out⟩
          case measure => simp [intOf]; omega
        · obtain rfl : k = xs.length := by omega
          have hge : ¬ (xs.length : Int) < s := by have := HSN.out; omega
          have RB := Lib.hid (own_row hO hbl)
          have B3 := Lib.hid hbw
          clear hO hbw hbl
          go_wp2_with fail
          refine (impl_MoveSet_c s b _ xs.length _ (backL xs xs.length xs.length) _ RB.out).mono ?_
          rintro e w3 ⟨rfl, rfl⟩
          have hmi : movI s b xs.length (backL xs xs.length xs.length) = a := L2.out
          rw [hmi, L1.out]
          clear hmi
          go_wp2_with (go_at_call 10; refine (impl_OtherSet_c _ _ _).mono ?_; rintro e w' ⟨rfl, rfl⟩)
          refine (impl_MoveSet_c s (otherI s a) A xs.length C xs _ OX.out.row).mono ?_
          rintro e w3 ⟨rfl, rfl⟩
          rw [L4.out]
          go_wp2_with (first | (go_at_call 11; refine (impl_CountSet_c _ _).mono ?_; rintro e w' ⟨rfl, rfl⟩; try rw [L3.out]) | (go_at_call 10; refine (impl_OtherSet_c _ _ _).mono ?_; rintro e w' ⟨rfl, rfl⟩))
          go_ret
          exact ⟨rfl, HB.out.trans (B3.out.mono HB.out.size)⟩
  · have hn2 : 1048576 < (len0 : Int) := by omega
    go_enter Try.func3, Try.ntmps3
    go_wp2_with fail
    go_ret
    exact ⟨rfl, Below.refl _ _⟩

set_option maxRecDepth 100000 in
theorem lifted (os : Os) (started : os.Started) (H : Type) (enc : TypeId × Value → H) :
    ReturnsInHanded {} Try.checked os 3 .any (Rows.fnMoveSetSpec.pre6 enc Try.prog Try.f3 Rows.fnMoveSetRow.domain false) (Rows.fnMoveSetSpec.post enc Try.prog Try.f3 false true false false) := by
  refine returnsInHanded_of_change (C := Try.checked) own started (by kernel_rfl) Try.func3
    (ChangeSpec.witness6 (enc := enc) (C := Try.checked) false ⟨#[], #[.slice none 0 0], []⟩ 8 (by kernel_rfl) (by kernel_rfl) (by kernel_rfl) (by kernel_rfl)) ?_
  intro W base args ds gs before hval0 hW hcnd _
  have hval : ∀ (j : Nat) t v, Try.f3.params[j]? = some t → args[j]? = some v → Value.okWide Try.prog W .any base t v := hval0
  have hW' := hW
  obtain ⟨p, q, hA0, hV, rfl, hfz, hnd⟩ := hW
  have hA : DataW.TrodAll enc Try.prog W 0 (fun _ => true) true Try.f3.params.toList args.toList ds p := hA0
  rw [Try.params3] at hA hval
  obtain ⟨v0, vs0, d0, ds0, p0, q0, hargs, rfl, rfl, h0, r0⟩ := trodAll_cons hA
  obtain ⟨rfl, rfl, rfl⟩ := trodAll_nil r0
  obtain rfl : args = #[v0] := by cases args; simp_all
  obtain ⟨rfl, rfl⟩ := trodVars_none hV
  have k0 := h0
  have lt0 : ∀ x ∈ p0, x.block < W.heap.size := by obtain ⟨m, hm⟩ := k0; exact DataW.trod_lt m _ _ _ hm
  obtain ⟨a0, len0, cap0, z0, rfl, w0⟩ := get_row Try.underlying22 Try.underlying5 (by kernel_rfl) (hval 0 22 v0 rfl rfl) h0
  clear hA0 hval0
  refine (walk a0 len0 cap0 z0 W w0).mono fun e W' ⟨he, bel⟩ => ?_
  subst he
  exact ⟨_, rfl, _, _, _, [], _, [], hW', trodAll_mk1 (shut_bool Try.underlying4 _), (trodAll_cons_mk (Below.trod laidOut (by kernel_rfl) (of_decide_eq_true (by kernel_rfl)) k0 bel lt0) trodAll_mk0), rfl, bel.frame _, fun h => by cases h⟩

theorem closed : joinedFacts Try.prog 3 Try.f3 Rows.fnMoveSetSpec Rows.fnMoveSetRow = true := by
  rw [joinedFacts.eq_1]
  simp only [Bool.and_eq_true]
  repeat' apply And.intro
  all_goals first | (with_reducible exact fact_enter) | (with_reducible exact laidOut) | (with_reducible exact fact_maps) | (with_reducible exact fact_heard) | (rw [fact_lifts]; try (as_aux_lemma => kernel_rfl)) | (rw [fact_make]; try (as_aux_lemma => kernel_rfl)) | (rw [fact_keys]; try (as_aux_lemma => kernel_rfl)) | (as_aux_lemma => kernel_rfl)

theorem holds : Rows.FnMoveSetSaid :=
  OpenClaim.holds_of_wide 3 Try.f3 rfl rfl rfl rfl rfl rfl rfl ⟨rfl, rfl, rfl, rfl, rfl⟩ rfl rfl rfl rfl rfl (by kernel_rfl) Try.func3 closed
    (of_decide_eq_true (by kernel_rfl)) (by unfold Func.isWrapper; rw [if_neg (of_decide_eq_false (by kernel_rfl))]; exact ⟨rfl, rfl⟩)
    (fun os started H enc _ => lifted os started H enc)
#print axioms holds
end Go.Proofs.Ytihbfhjfceabnaa.fnMoveSet
