/- FnSetText: for every input that can be read, the law returns true and its arguments read afterwards as before. Conditions: none. -/
import Derived.Test.YtmdlalpijomgiaaMem
import Derived.Test.YtmdlalpijomgiaaSigns
import Derived.Test.YtmdlalpijomgiaaPlainA
import Derived.Test.YtmdlalpijomgiaaPlainC
import Derived.Test.YtmdlalpijomgiaaWa
import Derived.Test.YtmdlalpijomgiaaWm
import Derived.Test.YtmdlalpijomgiaaWb
import Derived.Test.YtmdlalpijomgiaaPlainD
import Derived.Test.YtmdlalpijomgiaaWd
import Derived.Test.YtmdlalpijomgiaaWr
import Derived.Test.YtmdlalpijomgiaaWs
import Derived.Test.YtmdlalpijomgiaaWu
import Derived.Deep.DeepCutAuto
namespace Go.Proofs.Ytmdlalpijomgiaa.fnSetText
open Go.ChangeShapes Go.WideShapes Go.ChangeAt Go.RowKit
open Go.ChangeMaps (open_string shut_string)
set_option linter.unusedVariables false

theorem parse_one {s : ByteArray} {w w3 w4 : World} {e e' : Ending} (h : ParsePost s w e w3) (h' : ParsePost s w3 e' w4) : w = w4 ∧ ∃ (k : Int) (b : Bool), e = .returned (.tuple #[.int .i64 k, .bool b]) ∧ e' = .returned (.tuple #[.int .i64 k, .bool b]) ∧ (b = true → fmt k = s) ∧ 0 ≤ k ∧ k ≤ 15 := by
  obtain ⟨rfl, h⟩ := h
  obtain ⟨rfl, h'⟩ := h'
  refine ⟨rfl, ?_⟩
  rcases h with ⟨k, hk, hf, hno, rfl⟩ | ⟨hno, rfl⟩ <;> rcases h' with ⟨k', hk', hf', hno', rfl⟩ | ⟨hno', rfl⟩
  · have e : k = k' := by
      rcases Nat.lt_trichotomy k k' with h | h | h
      · exact absurd hf (hno' k h)
      · exact h
      · exact absurd hf' (hno k' h)
    subst e
    exact ⟨_, _, rfl, rfl, fun _ => hf, by omega, by omega⟩
  · exact absurd hf (hno' k (by omega))
  · exact absurd hf' (hno k' (by omega))
  · exact ⟨_, _, rfl, rfl, fun e => absurd e (by decide), by omega, by omega⟩
theorem parse_txt {a : Int} (ha : 0 ≤ a ∧ a ≤ 15) {w w3 : World} {e : Ending} (h : ParsePost (txt a) w e w3) : w = w3 ∧ e = .returned (.tuple #[.int .i64 a, .bool true]) := by
  obtain ⟨rfl, h⟩ := h
  refine ⟨rfl, ?_⟩
  rcases h with ⟨k, hk, hf, hno, rfl⟩ | ⟨hno, rfl⟩
  · rw [fmt_in (by omega)] at hf
    rw [txt_inj (by omega) ha hf]
  · have h2 := hno a.toNat (by omega)
    rw [show ((a.toNat : Nat) : Int) = a by omega, fmt_in ha] at h2
    exact absurd rfl h2

set_option maxHeartbeats 4000000 in
theorem walk (a0 : Option Addr) (len0 cap0 : Nat) (z0 : List Int) (a1 : Option Addr) (len1 cap1 : Nat) (z1 : List Int) (w : World) (w0 : IsRow .u8 w a0 len0 cap0 z0) (w1 : IsRow .u8 w a1 len1 cap1 z1) :
    Calls Try.prog 17 #[.slice a0 len0 cap0, .slice a1 len1 cap1] w fun e w' => e = .returned (.bool true) ∧ Below w.heap.size w w' := by
  by_cases hn : len0 ≤ 1048576
  · have hn2 : (len0 : Int) ≤ 1048576 := by omega
    have hn2d : decide ((1048576 : Int) < (len0 : Int)) = false := by simp; omega
    by_cases hm : len1 ≤ 1048576
    · have hm2 : (len1 : Int) ≤ 1048576 := by omega
      have hm2d : decide ((1048576 : Int) < (len1 : Int)) = false := by simp; omega
      have HW := Lib.hid w0
      have HV := Lib.hid w1
      clear w0 w1
      go_enter Try.func17, Try.ntmps17
      go_wp2_with fail
      refine (DrawFormatSet_c _ _ _ _ _ HW.out).mono ?_
      rintro e w2 ⟨a, rfl, _, hbel⟩
      have HB := Lib.hid hbel
      clear hbel
      have HV2 := Lib.hid (HV.out.below HB.out)
      rcases hv : setB 4 a with _ | _
      · have hE : (fmt a).toList.isEmpty = true := by rw [fmt_out hv, ByteArray.toList_eq]; rfl
        have hc : cntI a = -1 := cntI_out hv
        go_wp2_with (first | (go_at_call 28; refine (impl_FormatSet_c _ _).mono ?_; rintro e w' ⟨rfl, rfl⟩) | (go_at_call 37; refine (impl_CountSet_c _ _).mono ?_; rintro e w' ⟨rfl, rfl⟩) | (go_at_call 27; refine (spec_FormatSet_c _ _).mono ?_; rintro e w' ⟨rfl, rfl⟩) | (go_at_call 36; refine (spec_CountSet_c _ _).mono ?_; rintro e w' ⟨rfl, rfl⟩))
        refine (DrawParseSet_c _ _ _ _ _ HV2.out).mono ?_
        rintro e w4 ⟨t, rfl, ht, hb4⟩
        have HB4 := Lib.hid (HB.out.trans (hb4.mono HB.out.size))
        clear hb4
        go_wp2_with fail
        refine (impl_ParseSet_c _ _).mono ?_
        intro e1 w5 hp1
        have hp1' := hp1
        obtain ⟨rfl, _⟩ := hp1'
        obtain ⟨k, bb, rfl, hall, hk0, hk1, hbk⟩ : ∃ (k : Int) (b : Bool), e1 = .returned (.tuple #[.int .i64 k, .bool b]) ∧ (∀ e' w6, ParsePost t w4 e' w6 → w4 = w6 ∧ e' = .returned (.tuple #[.int .i64 k, .bool b])) ∧ 0 ≤ k ∧ k ≤ 15 ∧ (b = true → fmt k = t) := by
          obtain ⟨_, k, b, h1, _, h3, h4, h5⟩ := parse_one hp1 hp1
          refine ⟨k, b, h1, fun e' w6 hp => ?_, h4, h5, h3⟩
          obtain ⟨h6, k', b', h7, h8, _⟩ := parse_one hp1 hp
          rw [h1] at h7
          simp at h7
          obtain ⟨rfl, rfl⟩ := h7
          exact ⟨h6, h8⟩
        clear hp1
        have HALL := Lib.hid hall
        have HBK := Lib.hid hbk
        clear hall hbk
        go_wp2_with fail
        refine (spec_ParseSet_c _ _).mono ?_
        intro e2 w6 hp2
        obtain ⟨rfl, rfl⟩ := HALL.out _ _ hp2
        clear hp2
        rcases bb with _ | _
        · go_wp2_with fail
          go_ret
          exact ⟨rfl, HB4.out⟩
        · have hft := HBK.out rfl
          go_wp2_with (go_at_call 28; refine (impl_FormatSet_c _ _).mono ?_; rintro e w' ⟨rfl, rfl⟩)
          go_ret
          exact ⟨rfl, HB4.out⟩
      · have har := setB4_iff.1 hv
        obtain ⟨t1, t2, t3⟩ := txt_law har
        have hc : 0 ≤ cntI a := cntI_in hv
        have hcr := (cntI_range a).2
        have ef : fmt a = txt a := fmt_in har
        have hE : (txt a).toList.isEmpty = false := by
          rcases h : (txt a).toList.isEmpty with _ | _
          · rfl
          · exfalso
            apply t1
            rw [ByteArray.toList_eq] at h
            have h2 := List.isEmpty_iff.1 h
            generalize txt a = s at *
            obtain ⟨⟨x⟩⟩ := s
            have : x = [] := h2
            subst this
            rfl
        have hs0 : 0 ≤ ((txt a).size : Int) := by omega
        have t2b : ((txt a).size : Int) = if cntI a < 1 then 1 else cntI a := by rw [t2]; split <;> omega
        clear t2
        by_cases hlt1 : cntI a < 1
        all_goals
          simp only [hlt1, if_true, if_false] at t2b
          go_wp2_with (first | (go_at_call 28; refine (impl_FormatSet_c _ _).mono ?_; rintro e w' ⟨rfl, rfl⟩) | (go_at_call 37; refine (impl_CountSet_c _ _).mono ?_; rintro e w' ⟨rfl, rfl⟩) | (go_at_call 27; refine (spec_FormatSet_c _ _).mono ?_; rintro e w' ⟨rfl, rfl⟩) | (go_at_call 36; refine (spec_CountSet_c _ _).mono ?_; rintro e w' ⟨rfl, rfl⟩))
          refine (impl_ParseSet_c _ _).mono ?_
          intro e3 w3 hp3
          obtain ⟨rfl, rfl⟩ := parse_txt har hp3
          clear hp3 t1
          go_wp2_with fail
          refine (DrawParseSet_c _ _ _ _ _ HV2.out).mono ?_
          rintro e w4 ⟨t, rfl, ht, hb4⟩
          have HB4 := Lib.hid (HB.out.trans (hb4.mono HB.out.size))
          clear hb4
          go_wp2_with fail
          refine (impl_ParseSet_c _ _).mono ?_
          intro e1 w5 hp1
          have hp1' := hp1
          obtain ⟨rfl, _⟩ := hp1'
          obtain ⟨k, bb, rfl, hall, hk0, hk1, hbk⟩ : ∃ (k : Int) (b : Bool), e1 = .returned (.tuple #[.int .i64 k, .bool b]) ∧ (∀ e' w6, ParsePost t w4 e' w6 → w4 = w6 ∧ e' = .returned (.tuple #[.int .i64 k, .bool b])) ∧ 0 ≤ k ∧ k ≤ 15 ∧ (b = true → fmt k = t) := by
            obtain ⟨_, k, b, h1, _, h3, h4, h5⟩ := parse_one hp1 hp1
            refine ⟨k, b, h1, fun e' w6 hp => ?_, h4, h5, h3⟩
            obtain ⟨h6, k', b', h7, h8, _⟩ := parse_one hp1 hp
            rw [h1] at h7
            simp at h7
            obtain ⟨rfl, rfl⟩ := h7
            exact ⟨h6, h8⟩
          clear hp1
          have HALL := Lib.hid hall
          have HBK := Lib.hid hbk
          clear hall hbk
          go_wp2_with fail
          refine (spec_ParseSet_c _ _).mono ?_
          intro e2 w6 hp2
          obtain ⟨rfl, rfl⟩ := HALL.out _ _ hp2
          clear hp2
          rcases bb with _ | _
          · go_wp2_with fail
            go_ret
            exact ⟨rfl, HB4.out⟩
          · have hft := HBK.out rfl
            go_wp2_with (go_at_call 28; refine (impl_FormatSet_c _ _).mono ?_; rintro e w' ⟨rfl, rfl⟩)
            go_ret
            exact ⟨rfl, HB4.out⟩
    · have hm2 : 1048576 < (len1 : Int) := by omega
      have hm2d : decide ((1048576 : Int) < (len1 : Int)) = true := by simp; omega
      go_enter Try.func17, Try.ntmps17
      go_wp2_with fail
      go_ret
      exact ⟨rfl, Below.refl _ _⟩
  · have hn2 : 1048576 < (len0 : Int) := by omega
    have hn2d : decide ((1048576 : Int) < (len0 : Int)) = true := by simp; omega
    go_enter Try.func17, Try.ntmps17
    go_wp2_with fail
    go_ret
    exact ⟨rfl, Below.refl _ _⟩

set_option maxRecDepth 100000 in
theorem lifted (os : Os) (started : os.Started) (H : Type) (enc : TypeId × Value → H) :
    ReturnsInHanded {} Try.checked os 17 .any (Rows.fnSetTextSpec.pre6 enc Try.prog Try.f17 Rows.fnSetTextRow.domain false) (Rows.fnSetTextSpec.post enc Try.prog Try.f17 false true false false) := by
  refine returnsInHanded_of_change (C := Try.checked) own started (by kernel_rfl) Try.func17
    (ChangeSpec.witness6 (enc := enc) (C := Try.checked) false ⟨#[], #[.slice none 0 0, .slice none 0 0], []⟩ 8 (by kernel_rfl) (by kernel_rfl) (by kernel_rfl) (by kernel_rfl)) ?_
  intro W base args ds gs before hval0 hW hcnd _
  have hval : ∀ (j : Nat) t v, Try.f17.params[j]? = some t → args[j]? = some v → Value.okWide Try.prog W .any base t v := hval0
  have hW' := hW
  obtain ⟨p, q, hA0, hV, rfl, hfz, hnd⟩ := hW
  have hA : DataW.TrodAll enc Try.prog W 0 (fun _ => true) true Try.f17.params.toList args.toList ds p := hA0
  rw [Try.params17] at hA hval
  obtain ⟨v0, vs0, d0, ds0, p0, q0, hargs, rfl, rfl, h0, r0⟩ := trodAll_cons hA
  obtain ⟨v1, vs1, d1, ds1, p1, q1, rfl, rfl, rfl, h1, r1⟩ := trodAll_cons r0
  obtain ⟨rfl, rfl, rfl⟩ := trodAll_nil r1
  obtain rfl : args = #[v0, v1] := by cases args; simp_all
  obtain ⟨rfl, rfl⟩ := trodVars_none hV
  have k0 := h0
  have lt0 : ∀ x ∈ p0, x.block < W.heap.size := by obtain ⟨m, hm⟩ := k0; exact DataW.trod_lt m _ _ _ hm
  obtain ⟨a0, len0, cap0, z0, rfl, w0⟩ := get_row Try.underlying38 Try.underlying5 (by kernel_rfl) (hval 0 38 v0 rfl rfl) h0
  have k1 := h1
  have lt1 : ∀ x ∈ p1, x.block < W.heap.size := by obtain ⟨m, hm⟩ := k1; exact DataW.trod_lt m _ _ _ hm
  obtain ⟨a1, len1, cap1, z1, rfl, w1⟩ := get_row Try.underlying38 Try.underlying5 (by kernel_rfl) (hval 1 38 v1 rfl rfl) h1
  clear hA0 hval0
  refine (walk a0 len0 cap0 z0 a1 len1 cap1 z1 W w0 w1).mono fun e W' ⟨he, bel⟩ => ?_
  subst he
  exact ⟨_, rfl, _, _, _, [], _, [], hW', trodAll_mk1 (shut_bool Try.underlying4 _), (trodAll_cons_mk (Below.trod laidOut (by kernel_rfl) (of_decide_eq_true (by kernel_rfl)) k0 bel lt0) (trodAll_cons_mk (Below.trod laidOut (by kernel_rfl) (of_decide_eq_true (by kernel_rfl)) k1 bel lt1) trodAll_mk0)), rfl, bel.frame _, fun h => by cases h⟩

theorem closed : joinedFacts Try.prog 17 Try.f17 Rows.fnSetTextSpec Rows.fnSetTextRow = true := by
  rw [joinedFacts.eq_1]
  simp only [Bool.and_eq_true]
  repeat' apply And.intro
  all_goals first | (with_reducible exact fact_enter) | (with_reducible exact laidOut) | (with_reducible exact fact_maps) | (with_reducible exact fact_heard) | (rw [fact_lifts]; try (as_aux_lemma => kernel_rfl)) | (rw [fact_make]; try (as_aux_lemma => kernel_rfl)) | (rw [fact_keys]; try (as_aux_lemma => kernel_rfl)) | (as_aux_lemma => kernel_rfl)

theorem holds : Rows.FnSetTextSaid :=
  OpenClaim.holds_of_wide 17 Try.f17 rfl rfl rfl rfl rfl rfl rfl ⟨rfl, rfl, rfl, rfl, rfl⟩ rfl rfl rfl rfl rfl (by kernel_rfl) Try.func17 closed
    (of_decide_eq_true (by kernel_rfl)) (by unfold Func.isWrapper; rw [if_neg (of_decide_eq_false (by kernel_rfl))]; exact ⟨rfl, rfl⟩)
    (fun os started H enc _ => lifted os started H enc)
#print axioms holds
end Go.Proofs.Ytmdlalpijomgiaa.fnSetText
