/- Contracts of chapter 1: subsets, the text of a set parsed. Conditions: as stated. -/
import Derived.Test.YtmdlalpijomgiaaWa
import Derived.Test.YtmdlalpijomgiaaWm
namespace Go.Proofs.Ytmdlalpijomgiaa
open Go.RowKit

/-- The sets below k whose answers are all in a. -/
def subs (a : Int) (k : Nat) : List Int := ((List.range k).map fun (j : Nat) => (j : Int)).filter fun b => lessI b a == 0
def sbs (a : Int) : List Int := if setB 4 a then subs a (a.toNat + 1) else []
theorem subs_succ (a : Int) (k : Nat) : subs a (k + 1) = subs a k ++ (if lessI (k : Int) a == 0 then [(k : Int)] else []) := by
  unfold subs
  rw [List.range_succ, List.map_append, List.filter_append]
  simp only [List.map_cons, List.map_nil, List.filter_cons, List.filter_nil]
theorem subs_yes {a : Int} {k : Nat} (h : (lessI (k : Int) a == 0) = true) : subs a (k + 1) = subs a k ++ [(k : Int)] := by rw [subs_succ, if_pos h]
theorem subs_no {a : Int} {k : Nat} (h : (lessI (k : Int) a == 0) = false) : subs a (k + 1) = subs a k := by rw [subs_succ, if_neg (by simp [h])]; simp
theorem subs_len (a : Int) (k : Nat) : (subs a k).length ≤ k := by
  unfold subs
  exact Nat.le_trans (List.length_filter_le _ _) (by simp)
theorem subs_fits {a : Int} {k : Nat} (hk : k ≤ 17) : ∀ x ∈ subs a k, Fits x := by
  intro x hx
  unfold subs at hx
  obtain ⟨j, hj, rfl⟩ := List.mem_map.1 (List.mem_filter.1 hx).1
  have := List.mem_range.1 hj
  unfold Fits
  omega

set_option maxHeartbeats 1000000 in
theorem impl_SubsetsOf_c (a : Int) (w : World) : Calls Try.prog 32 #[.int .i64 a] w fun e w' => ∃ v, e = .returned v ∧ Own w' w.heap.size v (sbs a) ∧ Below w.heap.size w w' := by
  by_cases h : 0 ≤ a ∧ a ≤ 15
  · have hs := set4_yes h
    have es : sbs a = subs a (a.toNat + 1) := by simp [sbs, hs]
    rw [es]
    clear es
    obtain ⟨ha0, ha15⟩ := h
    obtain ⟨A, rfl⟩ := Int.eq_ofNat_of_zero_le ha0
    rw [Int.toNat_natCast]
    obtain ⟨i0, hi, hz0, hz1, hz2⟩ := info_parts Try.infoInt
    go_enter Try.func32, Try.ntmps32
    go_wp2_with (go_at_call 53; refine (isSetOf_c _ _ (by omega) _).mono ?_; rintro e w' ⟨rfl, rfl⟩)
    go_loopw [3, 11] (fun v i wr => ∃ k : Nat, k ≤ A + 1 ∧ i = .int .i64 k ∧ wr.ownsRow w.heap.size 3 1 v (subs A k).length ((subs A k).map (Value.int .i64)) ∧ Below w.heap.size w wr) (fun _ i _ => A + 1 - (intOf i).toNat)
    case atStart =>
      refine ⟨0, by omega, rfl, ?_, (Below.refl _ _).alloc (Nat.le_refl _) _⟩
      have e0 : subs A 0 = [] := rfl
      rw [e0]
      exact World.ownsRow_lit w #[] 0 (Nat.le_refl _) (by unfold maxLen; omega) rfl
    case round =>
      obtain ⟨k, hk, rfl, hown, hb⟩ := hrel
      have hsl := subs_len A k
      by_cases hlt : k < A + 1
      · rcases ht : (lessI (k : Int) (A : Int) == 0) with _ | _
        · have es := subs_no ht
          have HE := Lib.hid es
          have HT : (bits .andNot .i64 (k : Int) (A : Int) == 0) = false := ht
          have HO := Lib.hid hown
          clear es ht hown
          go_wp2
          go_roundw
          case rel => exact ⟨k + 1, by omega, by go_num, by rw [HE.out]; exact HO.out, hb⟩
          case measure => simp [intOf]; omega
        · have es := subs_yes ht
          have HE := Lib.hid es
          have HT : (bits .andNot .i64 (k : Int) (A : Int) == 0) = true := ht
          clear es ht
          go_wp2_with (at_builtin; refine wpList_append_own _ rfl _ _ 30 rfl w.heap.size 3 i0 (.int .i64 0) 1 8 Try.underlying30 hi hz0 hz1 hz2 rfl (by decide) _ _ _ rfl (hown.alloc _) ⟨wr.heap.size, 0, none⟩ 1 1 [.int .i64 (k : Int)] rfl rfl ?c1 ?c2 ?c3 ?c4 ?c5 ?_)
          case c1 =>
            intro j u hj
            match j, hj with
            | 0, hj => simp at hj; subst hj; simp [Addr.add]
          case c2 => intro u hu; simp at hu; subst hu; rfl
          case c3 => unfold maxLen; omega
          case c4 => omega
          case c5 => have := hb.size; simp; omega
          intro v' w1 hown' hgrow _
          have HO := Lib.hid hown'
          have HB := Lib.hid ((hb.alloc hb.size (.cells #[.int .i64 (k : Int)] 3)).grown hgrow (by have := hb.size; simp; omega) (fun j hj => (hown.lt j hj).1))
          clear hown hown' hgrow hb
          go_wp2
          go_roundw
          case rel => exact ⟨k + 1, by omega, by go_num, by rw [HE.out]; simpa using HO.out, HB.out⟩
          case measure => simp [intOf]; omega
      · have hkA : k = A + 1 := by omega
        subst hkA
        go_wp2
        go_ret
        exact ⟨_, rfl, ⟨hown, subs_fits (by omega)⟩, hb⟩
  · have hs := set4_no h
    have es : sbs a = [] := by simp [sbs, hs]
    rw [es]
    clear es h
    go_enter Try.func32, Try.ntmps32
    go_wp2_with (go_at_call 53; refine (isSetOf_c _ _ (by omega) _).mono ?_; rintro e w' ⟨rfl, rfl⟩)
    go_ret
    exact ⟨_, rfl, ⟨World.ownsRow_nil _ _ _ _, by simp⟩, Below.refl _ _⟩
set_option maxHeartbeats 1000000 in
theorem spec_SubsetsOf_c (a : Int) (w : World) : Calls Try.prog 31 #[.int .i64 a] w fun e w' => ∃ v, e = .returned v ∧ Own w' w.heap.size v (sbs a) ∧ Below w.heap.size w w' := by
  have hlit : (w.alloc (.cells #[] 3)).ownsRow w.heap.size 3 1 (.slice (some ⟨w.heap.size, 0, none⟩) 0 0) 0 [] := World.ownsRow_lit w #[] 0 (Nat.le_refl _) (by unfold maxLen; omega) rfl
  by_cases h : 0 ≤ a ∧ a ≤ 15
  · have hs := set4_yes h
    have es : sbs a = subs a (a.toNat + 1) := by simp [sbs, hs]
    rw [es]
    clear es
    obtain ⟨ha0, ha15⟩ := h
    obtain ⟨A, rfl⟩ := Int.eq_ofNat_of_zero_le ha0
    rw [Int.toNat_natCast]
    obtain ⟨i0, hi, hz0, hz1, hz2⟩ := info_parts Try.infoInt
    have HLit := Lib.hid hlit
    clear hlit
    go_enter Try.func31, Try.ntmps31
    go_wp2
    go_loopw [3, 4] (fun v i wr => ∃ k : Nat, k ≤ A + 1 ∧ i = .int .i64 k ∧ wr.ownsRow w.heap.size 3 1 v (subs A k).length ((subs A k).map (Value.int .i64)) ∧ Below w.heap.size w wr) (fun _ i _ => A + 1 - (intOf i).toNat)
    case atStart => exact ⟨0, by omega, rfl, HLit.out, (Below.refl _ _).alloc (Nat.le_refl _) _⟩
    case round =>
      obtain ⟨k, hk, rfl, hown, hb⟩ := hrel
      have hsl := subs_len A k
      by_cases hlt : k < A + 1
      · rcases ht : (lessI (k : Int) (A : Int) == 0) with _ | _
        · have es := subs_no ht
          have HE := Lib.hid es
          have HT : (bits .andNot .i64 (k : Int) (A : Int) == 0) = false := ht
          have HO := Lib.hid hown
          clear es ht hown
          go_wp2_with (go_at_call 52; refine (l1Any_c _ _).mono ?_; rintro e w' ⟨rfl, rfl⟩)
          go_roundw
          case rel => exact ⟨k + 1, by omega, by go_num, by rw [HE.out]; exact HO.out, hb⟩
          case measure => simp [intOf]; omega
        · have es := subs_yes ht
          have HE := Lib.hid es
          have HT : (bits .andNot .i64 (k : Int) (A : Int) == 0) = true := ht
          clear es ht
          go_wp2_with (first | (go_at_call 52; refine (l1Any_c _ _).mono ?_; rintro e w' ⟨rfl, rfl⟩) | (at_builtin; refine wpList_append_own _ rfl _ _ 30 rfl w.heap.size 3 i0 (.int .i64 0) 1 8 Try.underlying30 hi hz0 hz1 hz2 rfl (by decide) _ _ _ rfl (hown.alloc _) ⟨wr.heap.size, 0, none⟩ 1 1 [.int .i64 (k : Int)] rfl rfl ?c1 ?c2 ?c3 ?c4 ?c5 ?_))
          case c1 =>
            intro j u hj
            match j, hj with
            | 0, hj => simp at hj; subst hj; simp [Addr.add]
          case c2 => intro u hu; simp at hu; subst hu; rfl
          case c3 => unfold maxLen; omega
          case c4 => omega
          case c5 => have := hb.size; simp; omega
          intro v' w1 hown' hgrow _
          have HO := Lib.hid hown'
          have HB := Lib.hid ((hb.alloc hb.size (.cells #[.int .i64 (k : Int)] 3)).grown hgrow (by have := hb.size; simp; omega) (fun j hj => (hown.lt j hj).1))
          clear hown hown' hgrow hb
          go_wp2
          go_roundw
          case rel => exact ⟨k + 1, by omega, by go_num, by rw [HE.out]; simpa using HO.out, HB.out⟩
          case measure => simp [intOf]; omega
      · have hkA : k = A + 1 := by omega
        subst hkA
        go_wp2
        go_ret
        exact ⟨_, rfl, ⟨hown, subs_fits (by omega)⟩, hb⟩
  · have hs := set4_no h
    have es : sbs a = [] := by simp [sbs, hs]
    rw [es]
    clear es
    have hfin : Own (w.alloc (.cells #[] 3)) w.heap.size (.slice (some ⟨w.heap.size, 0, none⟩) 0 0) [] := ⟨hlit, by simp⟩
    have hbel : Below w.heap.size w (w.alloc (.cells #[] 3)) := (Below.refl _ _).alloc (Nat.le_refl _) _
    have HF := Lib.hid hfin
    have HB := Lib.hid hbel
    clear hlit hfin hbel
    by_cases h0 : 0 ≤ a
    · clear h
      go_enter Try.func31, Try.ntmps31
      go_wp2
      refine wp_loop_rounds 1 ?_
      rw [rounds_succ]
      go_wp2_with (go_at_call 52; refine (l1Any_c _ _).mono ?_; rintro e w' ⟨rfl, rfl⟩)
      go_ret
      exact ⟨_, rfl, HF.out, HB.out⟩
    · clear h
      go_enter Try.func31, Try.ntmps31
      go_wp2
      refine wp_loop_rounds 1 ?_
      rw [rounds_succ]
      go_wp2
      go_ret
      exact ⟨_, rfl, HF.out, HB.out⟩
/-- No set below k has this text. -/
def NoTxt (s : ByteArray) (k : Nat) : Prop := ∀ j : Nat, j < k → fmt (j : Int) ≠ s
/-- The result of parsing. -/
def ParsePost (s : ByteArray) (w : World) (e : Ending) (w' : World) : Prop :=
  w = w' ∧ ((∃ a : Nat, a ≤ 15 ∧ fmt (a : Int) = s ∧ NoTxt s a ∧ e = .returned (.tuple #[.int .i64 (a : Int), .bool true])) ∨ (NoTxt s 16 ∧ e = .returned (.tuple #[.int .i64 0, .bool false])))
theorem NoTxt.next {s : ByteArray} {k : Nat} (h : NoTxt s k) (hk : fmt (k : Int) ≠ s) : NoTxt s (k + 1) := by
  intro j hj
  rcases Nat.lt_or_ge j k with h1 | h1
  · exact h j h1
  · have : j = k := by omega
    subst this
    exact hk
theorem fmt_in {a : Int} (h : 0 ≤ a ∧ a ≤ 15) : fmt a = txt a := by simp [fmt, set4_yes h]
set_option maxHeartbeats 1000000 in
theorem spec_ParseSet_c (s : ByteArray) (w : World) : Calls Try.prog 29 #[.string s] w (ParsePost s w) := by
  go_enter Try.func29, Try.ntmps29
  go_wp2
  go_loop [4] (fun i => ∃ k : Nat, k ≤ 16 ∧ i = .int .i64 k ∧ NoTxt s k) (fun i => 16 - (intOf i).toNat)
  case atStart => exact ⟨0, by omega, rfl, fun j hj => by omega⟩
  case round =>
    obtain ⟨k, hk, rfl, hno⟩ := hrel
    by_cases hlt : k < 16
    · by_cases ht : fmt (k : Int) = s
      · subst ht
        go_wp2_with (go_at_call 27; refine (spec_FormatSet_c _ _).mono ?_; rintro e w' ⟨rfl, rfl⟩)
        go_ret2
        exact ⟨rfl, .inl ⟨k, by omega, rfl, hno, rfl⟩⟩
      · have hno2 := hno.next ht
        have h2 := str_ne ht
        clear hno ht
        go_wp2_with (go_at_call 27; refine (spec_FormatSet_c _ _).mono ?_; rintro e w' ⟨rfl, rfl⟩)
        go_round
        case rel => exact ⟨k + 1, by omega, by go_num, hno2⟩
        case measure => simp [intOf]; omega
    · have : k = 16 := by omega
      subst this
      go_wp2
      go_ret2
      exact ⟨rfl, .inr ⟨hno, rfl⟩⟩
set_option maxHeartbeats 1000000 in
theorem impl_ParseSet_c (s : ByteArray) (w : World) : Calls Try.prog 30 #[.string s] w (ParsePost s w) := by
  go_enter Try.func30, Try.ntmps30
  go_wp2
  go_loop [5] (fun i => ∃ k : Nat, k ≤ 16 ∧ i = .int .i64 k ∧ NoTxt s k) (fun i => 16 - (intOf i).toNat)
  case atStart => exact ⟨0, by omega, rfl, fun j hj => by omega⟩
  case round =>
    obtain ⟨k, hk, rfl, hno⟩ := hrel
    by_cases hlt : k < 16
    · by_cases ht : fmt (k : Int) = s
      · have ef := fmt_in (a := (k : Int)) (by omega)
        rw [ef] at ht
        have HE := Lib.hid ef
        clear ef
        subst ht
        go_wp2_with (go_at_call 56; refine (setText_c _ (by omega) _).mono ?_; rintro e w' ⟨rfl, rfl⟩)
        go_ret2
        exact ⟨rfl, .inl ⟨k, by omega, HE.out, hno, rfl⟩⟩
      · have hno2 := hno.next ht
        have ef := fmt_in (a := (k : Int)) (by omega)
        rw [ef] at ht
        have h2 := str_ne ht
        clear ef
        clear hno ht
        go_wp2_with (go_at_call 56; refine (setText_c _ (by omega) _).mono ?_; rintro e w' ⟨rfl, rfl⟩)
        go_round
        case rel => exact ⟨k + 1, by omega, by go_num, hno2⟩
        case measure => simp [intOf]; omega
    · have : k = 16 := by omega
      subst this
      go_wp2
      go_ret2
      exact ⟨rfl, .inr ⟨hno, rfl⟩⟩
end Go.Proofs.Ytmdlalpijomgiaa
