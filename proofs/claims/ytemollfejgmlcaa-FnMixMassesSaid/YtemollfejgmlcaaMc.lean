/- Contracts: whether a mass is valid, the program's and the reference's. Conditions: as stated. -/
import Derived.Test.YtemollfejgmlcaaMb
import Derived.BigGuardPart
namespace Go.Proofs.Ytemollfejgmlcaa
open Go.RowKit

theorem quiet_my {P : Program} {f : FuncId} {args : Array Value} {w : World} {n : Nat} {v : Value}
    (h : Calls P f args (w.drewN n) fun e w' => e = .returned v ∧ w.drewN n = w') : Calls P f args (w.drewN n) fun e w'' => e = .returned v ∧ ∃ m, w'' = w.drewN m :=
  h.mono fun _ _ ⟨he, hm⟩ => ⟨he, n, hm.symm⟩
theorem pow_form {s : Int} (h : 1 ≤ s ∧ s ≤ 4) : ∃ N : Nat, (2 : Int) ^ s.toNat = (N : Int) ∧ wrap64 (2 ^ s.toNat) = (N : Int) ∧ 2 ≤ N ∧ N ≤ 16 := by
  rcases four h with rfl | rfl | rfl | rfl
  · exact ⟨2, rfl, by decide +kernel, by omega, by omega⟩
  · exact ⟨4, rfl, by decide +kernel, by omega, by omega⟩
  · exact ⟨8, rfl, by decide +kernel, by omega, by omega⟩
  · exact ⟨16, rfl, by decide +kernel, by omega, by omega⟩
theorem parts_more {zs : List Int} (h : partsB 1000000 zs = true) : partsB 1000000000 zs = true :=
  partsB_yes fun k hk => inB_iff.2 (by have := partsB_get h hk; omega)
set_option maxHeartbeats 2000000 in
theorem isMass_c (s : Int) (a : Option Addr) (n c : Nat) (zs : List Int) (w : World) (ha : IsRow .i64 w a n c zs) :
    Calls Try.prog 47 #[.agg #[.int .i64 s, .slice a n c]] w fun e w' => e = .returned (.bool (massB s zs)) ∧ Below w.heap.size w w' := by
  have HL := Lib.hid ha.len
  have HB0 : Hid (∀ o, Below w.heap.size w (w.alloc o)) := Lib.hid fun o => (Below.refl _ _).alloc (Nat.le_refl _) o
  rcases hs : sizeB s with _ | _
  · have e : massB s zs = false := by simp [massB, hs]
    rw [e]
    clear e ha
    go_enter Try.func47, Try.ntmps47
    go_wp2_with fail
    go_quiet ((go_at_call 54; exact quiet_my (isSize_c _ _)))
    go_wp2_with fail
    go_ret
    exact ⟨rfl, below_drewN (HB0.out _) _⟩
  have hsr := sizeB_iff.1 hs
  obtain ⟨N, hN, hW, hN2, hN16⟩ := pow_form hsr
  obtain ⟨s0, s1⟩ := hsr
  by_cases hlen : n = N
  · subst hlen
    have hnn : ((n : Int) != (n : Int)) = false := by simp
    have hlb : lenB s zs = true := by unfold lenB; rw [decide_eq_true_eq, HL.out, hN]
    have hac := (ha.alloc (.cells #[.int .i64 s, .slice a n c] 25)).at_
    have HR := Lib.hid ha
    have HM : Hid (massB s zs = (partsB 1000000 zs && (inB 1 1000000 (whole zs) && ((gcdL zs : Int) == 1)))) := Lib.hid (by simp [massB, hs, hlb])
    clear ha hN hlb
    go_enter Try.func47, Try.ntmps47
    go_wp2_with fail
    go_quiet ((go_at_call 54; exact quiet_my (isSize_c _ _)))
    clear hW hnn hs
    go_wp2_with fail
    go_loop [22] (fun i => ∃ k : Nat, k ≤ n ∧ i = .int .i64 k ∧ ∀ j, j < k → inB 0 1000000 (zs.getD j 0) = true) (fun i => n - (intOf i).toNat)
    case atStart => exact ⟨0, Nat.zero_le _, rfl, fun j hj => absurd hj (by omega)⟩
    case round =>
      obtain ⟨k, hk, rfl, hall⟩ := hrel
      by_cases hlt : k < n
      · obtain ⟨b1, o1, rfl, _, h1⟩ := hac (by omega)
        have g1 := h1 k hlt
        have HALL := Lib.hid hall
        clear h1 hac hall
        rcases hx : inB 0 1000000 (zs.getD k 0) with _ | _
        · have HNO := Lib.hid (partsB_no (by have := HL.out; omega) hx)
          have hx2 := inB_no.1 hx
          clear hx HALL
          generalize zs.getD k 0 = x at *
          by_cases hx0 : x < 0
          · have hx0d : decide (x < 0) = true := by simpa using hx0
            clear hx2
            go_wp2_with fail
            go_ret
            exact ⟨ret_bool (by rw [HM.out, HNO.out]; rfl), below_drewN (HB0.out _) _⟩
          · have hx0d : decide (x < 0) = false := by simpa using hx0
            have hx3 : 1000000 < x := by omega
            clear hx2
            go_wp2_with fail
            go_ret
            exact ⟨ret_bool (by rw [HM.out, HNO.out]; rfl), below_drewN (HB0.out _) _⟩
        · have hq : ∀ j, j < k + 1 → inB 0 1000000 (zs.getD j 0) = true := by
            intro j hj
            by_cases h : j = k
            · rw [h]; exact hx
            · exact HALL.out j (by omega)
          have HQ := Lib.hid hq
          obtain ⟨x1, x2⟩ := inB_iff.1 hx
          clear hx hq HALL
          generalize zs.getD k 0 = x at *
          have hx0d : decide (x < 0) = false := by simpa using x1
          go_wp2_with fail
          go_round
          case rel => exact ⟨k + 1, by omega, by go_num, HQ.out⟩
          case measure => simp [intOf]; omega
      · have hkn : k = n := by omega
        subst hkn
        have hp := partsB_yes (zs := zs) (by rw [HL.out]; exact hall)
        have HP := Lib.hid (parts_more hp)
        have HP2 := Lib.hid hp
        have hnn := nns_of_parts hp (by omega)
        have HS := Lib.hid hnn.small
        have HM2 : Hid (massB s zs = (inB 1 1000000 (whole zs) && ((gcdL zs : Int) == 1))) := Lib.hid (by rw [HM.out, hp]; rfl)
        clear hall hp hnn hac HM
        go_wp2_with fail
        refine (wholeOf_c _ _ _ _ zs HP.out hN16 _ ((HR.out.alloc _).drewN _)).mono ?_
        rintro e w1 ⟨rfl, hb⟩
        have c1 : w1.cell? ⟨w.heap.size, 1, none⟩ = some (.slice a k c) := (hb.cell (by simp)).trans (by go_simp)
        have HR1 : Hid (IsRow .i64 w1 a k c zs) := Lib.hid (((HR.out.alloc _).drewN _).below hb)
        have HB1 : Hid (Below w.heap.size w w1) := Lib.hid ((below_drewN (HB0.out _) _).trans (hb.mono (by simp)))
        clear hb
        by_cases h1 : 1 ≤ whole zs
        · by_cases h2 : whole zs ≤ 1000000
          · have HI : Hid (massB s zs = ((gcdL zs : Int) == 1)) := Lib.hid (by rw [HM2.out, inB_iff.2 ⟨h1, h2⟩]; rfl)
            go_wp2_with fail
            refine (divisorOf_c _ _ _ zs HS.out _ HR1.out).mono ?_
            rintro e w2 ⟨rfl, m, rfl⟩
            go_wp2_with fail
            go_ret
            exact ⟨ret_bool HI.out.symm, below_drewN HB1.out _⟩
          · have HI : Hid (massB s zs = false) := Lib.hid (by rw [HM2.out, inB_no.2 (by omega)]; rfl)
            go_wp2_with fail
            go_ret
            exact ⟨ret_bool HI.out.symm, HB1.out⟩
        · have HI : Hid (massB s zs = false) := Lib.hid (by rw [HM2.out, inB_no.2 (by omega)]; rfl)
          go_wp2_with fail
          go_ret
          exact ⟨ret_bool HI.out.symm, HB1.out⟩
  · have hlb : lenB s zs = false := by unfold lenB; rw [decide_eq_false_iff_not, HL.out, hN]; omega
    have e : massB s zs = false := by simp [massB, hs, hlb]
    rw [e]
    have hne : ((n : Int) != (N : Int)) = true := by simp; omega
    clear e ha hlb hN hlen
    go_enter Try.func47, Try.ntmps47
    go_wp2_with fail
    go_quiet ((go_at_call 54; exact quiet_my (isSize_c _ _)))
    go_wp2_with fail
    go_ret
    exact ⟨rfl, below_drewN (HB0.out _) _⟩
set_option maxHeartbeats 2000000 in
theorem spec_MassValid_c (s : Int) (a : Option Addr) (n c : Nat) (zs : List Int) (w : World) (ha : IsRow .i64 w a n c zs) :
    Calls Try.prog 49 #[.agg #[.int .i64 s, .slice a n c]] w fun e w' => e = .returned (.bool (massB s zs)) ∧ Below w.heap.size w w' := by
  have HL := Lib.hid ha.len
  have HB0 : Hid (∀ o, Below w.heap.size w (w.alloc o)) := Lib.hid fun o => (Below.refl _ _).alloc (Nat.le_refl _) o
  have HR := Lib.hid ha
  clear ha
  rcases hs : sizeB s with _ | _
  · have e : massB s zs = false := by simp [massB, hs]
    rw [e]
    clear e
    go_enter Try.func49, Try.ntmps49
    go_wp2_with (go_at_call 56; refine (spec_SizeValid_c _ _).mono ?_; rintro e w' ⟨rfl, rfl⟩)
    go_ret
    exact ⟨rfl, HB0.out _⟩
  have hsr := sizeB_iff.1 hs
  obtain ⟨N, hN, hW, hN2, hN16⟩ := pow_form hsr
  obtain ⟨s0, s1⟩ := hsr
  by_cases hlen : n = N
  · subst hlen
    have hnn : ((n : Int) == (n : Int)) = true := by simp
    have hlb : lenB s zs = true := by unfold lenB; rw [decide_eq_true_eq, HL.out, hN]
    have HM : Hid (massB s zs = (partsB 1000000 zs && (inB 1 1000000 (whole zs) && ((gcdL zs : Int) == 1)))) := Lib.hid (by simp [massB, hs, hlb])
    clear hN hlb
    have HN := Lib.hid hN16
    rcases hd : decide (1 ≤ sumM 1000000 zs ∧ sumM 1000000 zs ≤ 1000000) with _ | _
    · have HE : Hid (massB s zs = false) := Lib.hid (by
        rw [HM.out]
        rcases hp : partsB 1000000 zs with _ | _
        · rfl
        · unfold sumM at hd
          rw [hp, if_pos rfl] at hd
          have : inB 1 1000000 (whole zs) = false := hd
          rw [this]
          rfl)
      go_enter Try.func49, Try.ntmps49
      go_wp2_with (first | (go_at_call 56; refine (spec_SizeValid_c _ _).mono ?_; rintro e w' ⟨rfl, rfl⟩) | (go_at_call 57; refine (l3Sum_c _ _ _ _ zs (by omega) HN.out _ (HR.out.alloc _)).mono ?_; rintro e w' ⟨rfl, rfl⟩) | (go_at_call 83; refine (l1In_c _ _ _ _).mono ?_; rintro e w' ⟨rfl, rfl⟩))
      go_ret
      exact ⟨ret_bool HE.out.symm, HB0.out _⟩
    · have hd2 := of_decide_eq_true hd
      have hp : partsB 1000000 zs = true := by
        rcases hp : partsB 1000000 zs with _ | _
        · unfold sumM at hd2
          rw [hp] at hd2
          simp at hd2
        · rfl
      have hi : inB 1 1000000 (whole zs) = true := by
        unfold sumM at hd2
        rw [hp, if_pos rfl] at hd2
        exact inB_iff.2 hd2
      have HE : Hid (massB s zs = ((gcdL zs : Int) == 1)) := Lib.hid (by rw [HM.out, hp, hi]; rfl)
      have HS := Lib.hid (nns_of_parts hp (by omega))
      clear hd2 hp hi
      go_enter Try.func49, Try.ntmps49
      go_wp2_with (first | (go_at_call 56; refine (spec_SizeValid_c _ _).mono ?_; rintro e w' ⟨rfl, rfl⟩) | (go_at_call 57; refine (l3Sum_c _ _ _ _ zs (by omega) HN.out _ (HR.out.alloc _)).mono ?_; rintro e w' ⟨rfl, rfl⟩) | (go_at_call 83; refine (l1In_c _ _ _ _).mono ?_; rintro e w' ⟨rfl, rfl⟩) | (go_at_call 84; refine (l3Lowest_c _ _ _ zs HS.out _ (HR.out.alloc _)).mono ?_; rintro e w' ⟨rfl, rfl⟩))
      go_ret
      exact ⟨ret_bool HE.out.symm, HB0.out _⟩
  · have hlb : lenB s zs = false := by unfold lenB; rw [decide_eq_false_iff_not, HL.out, hN]; omega
    have e : massB s zs = false := by simp [massB, hs, hlb]
    rw [e]
    have hne : ((n : Int) == (N : Int)) = false := by simp; omega
    clear e hlb hN hlen
    go_enter Try.func49, Try.ntmps49
    go_wp2_with (go_at_call 56; refine (spec_SizeValid_c _ _).mono ?_; rintro e w' ⟨rfl, rfl⟩)
    go_ret
    exact ⟨rfl, HB0.out _⟩
end Go.Proofs.Ytemollfejgmlcaa
