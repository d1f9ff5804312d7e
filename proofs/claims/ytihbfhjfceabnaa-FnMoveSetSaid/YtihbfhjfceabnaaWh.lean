/- Contracts of the greatest divisor of a list, the program's and the reference's. Conditions: as stated. -/
import Derived.Test.YtihbfhjfceabnaaWc
namespace Go.Proofs.Ytihbfhjfceabnaa
open Go.RowKit

def divG (zs : List Int) : Int := if zs.all partB then (gcdL zs : Int) else -1
theorem divG_no {zs : List Int} {k : Nat} (h : k < zs.length) (hp : partB (zs.getD k 0) = false) : divG zs = -1 := by
  have e : zs.all partB = false := by
    rw [List.all_eq_false]
    refine ⟨zs.getD k 0, ?_, by rw [hp]; decide⟩
    rw [List.getD_eq_getElem?_getD, List.getElem?_eq_getElem h, Option.getD_some]
    exact List.getElem_mem h
  unfold divG
  rw [e]
  rfl
theorem divG_yes {zs : List Int} (h : ∀ j, j < zs.length → partB (zs.getD j 0) = true) : divG zs = (gcdL zs : Int) ∧ ∀ i, Small (zs.getD i 0) := by
  refine ⟨?_, fun i => ?_⟩
  · have e : zs.all partB = true := by
      rw [List.all_eq_true]
      intro x hx
      obtain ⟨i, hi, rfl⟩ := List.getElem_of_mem hx
      have := h i hi
      rwa [List.getD_eq_getElem?_getD, List.getElem?_eq_getElem hi, Option.getD_some] at this
    unfold divG
    rw [e]
    rfl
  · by_cases hi : i < zs.length
    · exact small_part (h i hi)
    · rw [List.getD_eq_getElem?_getD, List.getElem?_eq_none (by omega)]
      exact ⟨by simp, by simp⟩
theorem gcd_part {D : Nat} {x : Int} (hD : D ≤ 1000000000) (hx : partB x = true) : Int.gcd (D : Int) x ≤ 1000000000 := by
  by_cases h : x = 0
  · subst h
    simpa using hD
  · have := Nat.le_of_dvd (by omega) (Int.gcd_dvd_natAbs_right (D : Int) x)
    simp [partB] at hx
    omega
set_option maxHeartbeats 2000000 in
theorem impl_GD_c (a : Option Addr) (n c : Nat) (zs : List Int) (w : World) (ha : IsRow .i64 w a n c zs) :
    Calls Try.prog 23 #[.slice a n c] w fun e w' => e = .returned (.int .i64 (divG zs)) ∧ ∃ m, w' = w.drewN m := by
  have hmax : n ≤ 9223372036854775807 := Nat.le_trans ha.2.1 ha.2.2.1
  have hac := ha.at_
  have hlen := ha.len
  have HL := Lib.hid hlen
  have HR := Lib.hid ha
  clear ha hlen
  go_enter Try.func23, Try.ntmps23
  go_wp2
  go_loopw [7] (fun i wr => ∃ k : Nat, k ≤ n ∧ i = .int .i64 k ∧ (∀ j, j < k → partB (zs.getD j 0) = true) ∧ ∃ m, wr = w.drewN m) (fun i _ => n - (intOf i).toNat)
  case atStart => exact ⟨0, Nat.zero_le _, rfl, fun j hj => absurd hj (by omega), 0, rfl⟩
  case round =>
    obtain ⟨k, hk, rfl, hp, m, rfl⟩ := hrel
    by_cases hlt : k < n
    · obtain ⟨b1, o1, rfl, _, h1⟩ := hac (by omega)
      have g1 := h1 k hlt
      have HP := Lib.hid hp
      clear h1 hac hp
      rcases hx : partB (zs.getD k 0) with _ | _
      · have hno := divG_no (by have := HL.out; omega) hx
        have HNO := Lib.hid hno
        clear hno
        generalize zs.getD k 0 = x at *
        go_wp2_with (go_at_call 48; refine (isPart_c _ _).mono ?_; rintro e w' ⟨rfl, rfl⟩)
        go_ret
        exact ⟨ret_int HNO.out.symm, _, rfl⟩
      · have hq : ∀ j, j < k + 1 → partB (zs.getD j 0) = true := by
          intro j hj
          by_cases h : j = k
          · rw [h]; exact hx
          · exact HP.out j (by omega)
        have HQ := Lib.hid hq
        clear hq
        generalize zs.getD k 0 = x at *
        go_wp2_with (go_at_call 48; refine (isPart_c _ _).mono ?_; rintro e w' ⟨rfl, rfl⟩)
        go_roundw
        case rel => exact ⟨k + 1, by omega, by go_num, HQ.out, _, rfl⟩
        case measure => simp [intOf]; omega
    · have hkn : k = n := by omega
      subst hkn
      obtain ⟨e1, e2⟩ := divG_yes (zs := zs) (by rw [HL.out]; exact hp)
      have HE := Lib.hid e1
      have HS := Lib.hid e2
      clear hp e1 e2
      go_wp2_with fail
      refine (divisorOf_c _ _ _ zs HS.out _ (HR.out.drewN m)).mono ?_
      rintro e w' ⟨rfl, m2, rfl⟩
      go_wp2_with fail
      go_ret
      exact ⟨ret_int HE.out.symm, _, rfl⟩
set_option maxHeartbeats 2000000 in
theorem spec_GD_c (a : Option Addr) (n c : Nat) (zs : List Int) (w : World) (ha : IsRow .i64 w a n c zs) :
    Calls Try.prog 24 #[.slice a n c] w fun e w' => e = .returned (.int .i64 (divG zs)) ∧ ∃ m, w' = w.drewN m := by
  have hmax : n ≤ 9223372036854775807 := Nat.le_trans ha.2.1 ha.2.2.1
  have hac := ha.at_
  have hlen := ha.len
  have HL := Lib.hid hlen
  clear ha hlen
  go_enter Try.func24, Try.ntmps24
  go_wp2
  go_loopw [3, 4] (fun d i wr => ∃ (k D : Nat), k ≤ n ∧ i = .int .i64 k ∧ d = .int .i64 (D : Int) ∧ D ≤ 1000000000 ∧ D = gcdL (zs.take k) ∧ (∀ j, j < k → partB (zs.getD j 0) = true) ∧ ∃ m, wr = w.drewN m) (fun _ i _ => n - (intOf i).toNat)
  case atStart => exact ⟨0, 0, Nat.zero_le _, rfl, rfl, by omega, rfl, fun j hj => absurd hj (by omega), 0, rfl⟩
  case round =>
    obtain ⟨k, D, hk, rfl, rfl, hD, hg, hp, m, rfl⟩ := hrel
    by_cases hlt : k < n
    · obtain ⟨b1, o1, rfl, _, h1⟩ := hac (by omega)
      have g1 := h1 k hlt
      have HP := Lib.hid hp
      clear h1 hac hp
      rcases hx : partB (zs.getD k 0) with _ | _
      · have hno := divG_no (by have := HL.out; omega) hx
        have HNO := Lib.hid hno
        clear hno hg
        generalize zs.getD k 0 = x at *
        go_wp2_with (go_at_call 50; refine (l2Part_c _ _).mono ?_; rintro e w' ⟨rfl, rfl⟩)
        go_ret
        exact ⟨ret_int HNO.out.symm, _, rfl⟩
      · have hq : ∀ j, j < k + 1 → partB (zs.getD j 0) = true := by
          intro j hj
          by_cases h : j = k
          · rw [h]; exact hx
          · exact HP.out j (by omega)
        have hg2 : Int.gcd (D : Int) (zs.getD k 0) = gcdL (zs.take (k + 1)) := by
          rw [take_succ_int zs k (by have := HL.out; omega), gcdL_snoc, hg]
        have hb2 := gcd_part hD hx
        have hsx := small_part hx
        have hsD : Small (D : Int) := by unfold Small; omega
        have HQ := Lib.hid hq
        have HG := Lib.hid hg2
        have HB := Lib.hid hb2
        have HSX := Lib.hid hsx
        have HSD := Lib.hid hsD
        clear hq hg hg2 hb2 hsx hsD
        generalize zs.getD k 0 = x at *
        go_wp2_with (first | (go_at_call 50; refine (l2Part_c _ _).mono ?_; rintro e w' ⟨rfl, rfl⟩) | (go_at_call 51; refine (l2Divisor_c _ _ HSD.out HSX.out _).mono ?_; rintro e w' ⟨rfl, rfl⟩))
        go_roundw
        case rel => exact ⟨k + 1, _, by omega, by go_num, rfl, HB.out, HG.out, HQ.out, _, rfl⟩
        case measure => simp [intOf]; omega
    · have hkn : k = n := by omega
      subst hkn
      obtain ⟨e1, e2⟩ := divG_yes (zs := zs) (by rw [HL.out]; exact hp)
      have hl := HL.out
      rw [List.take_of_length_le (by omega)] at hg
      have e3 : divG zs = (D : Int) := by rw [e1, hg]
      have HE := Lib.hid e3
      clear e3
      clear hp e1 e2 hg hl
      go_wp2_with fail
      go_ret
      exact ⟨ret_int HE.out.symm, _, rfl⟩
end Go.Proofs.Ytihbfhjfceabnaa
