/- Contracts: sets whose answers are moved. Conditions: as stated. -/
import Derived.Test.YtihbfhjfceabnaaWs
import Derived.Test.YtihbfhjfceabnaaPlainC
namespace Go.Proofs.Ytihbfhjfceabnaa
open Go.RowKit

/-- The walk's own form: a set has an answer. -/
def bitB (a : Int) (k : Nat) : Bool := bits .and .i64 (a / 2 ^ k) 1 == 1
/-- The walk's own form: a set with an answer more. -/
def addM (M z : Int) : Int := bits .or .i64 M (wrap64 (2 ^ z.toNat))
theorem addM_range {M z : Int} (hM : 0 ≤ M ∧ M ≤ 15) (hz : 0 ≤ z ∧ z ≤ 3) : 0 ≤ addM M z ∧ addM M z ≤ 15 := by
  have h : z = 0 ∨ z = 1 ∨ z = 2 ∨ z = 3 := by omega
  unfold addM
  rcases h with rfl | rfl | rfl | rfl
  · exact or_range hM (by decide +kernel)
  · exact or_range hM (by decide +kernel)
  · exact or_range hM (by decide +kernel)
  · exact or_range hM (by decide +kernel)
def imgI (a : Int) (zs : List Int) : Nat → Int
  | 0 => 0
  | k + 1 => if bitB a k then addM (imgI a zs k) (zs.getD k 0) else imgI a zs k
def seenI (zs : List Int) : Nat → Int
  | 0 => 0
  | k + 1 => addM (seenI zs k) (zs.getD k 0)
def ordI (s : Int) (n : Nat) (zs : List Int) : Bool := decide (∀ i, i < n → 0 ≤ zs.getD i 0 ∧ zs.getD i 0 < s) && (decide ((n : Int) = s) && decide (seenI zs n = 2 ^ s.toNat - 1))
def ordS (s : Int) (n : Nat) (zs : List Int) : Bool := decide (∀ i, i < n → (0 ≤ zs.getD i 0 ∧ zs.getD i 0 < s) ∧ bitB (seenI zs i) (zs.getD i 0).toNat = false) && decide ((n : Int) = s)
theorem fin_of {s : Nat} {Q : Int → Prop} (h : ∀ k : Fin s, Q ((k.val : Nat) : Int)) {a : Int} (ha : 0 ≤ a ∧ a < (s : Int)) : Q a := by
  have := h ⟨a.toNat, by omega⟩
  rwa [show ((a.toNat : Nat) : Int) = a by omega] at this
theorem ord_same {s : Int} {n : Nat} {zs : List Int} (hs : 1 ≤ s ∧ s ≤ 4) (hl : zs.length = n) : ordS s n zs = ordI s n zs := by
  by_cases hr : ∀ i, i < n → 0 ≤ zs.getD i 0 ∧ zs.getD i 0 < s
  · by_cases hn : (n : Int) = s
    · subst hn
      rcases four hs with h | h | h | h
      · obtain rfl : n = 1 := by omega
        match zs, hl with
        | [a], _ => exact fin_of (s := 1) (Q := fun a => ordS 1 1 [a] = ordI 1 1 [a]) (by decide +kernel) (hr 0 (by omega))
      · obtain rfl : n = 2 := by omega
        match zs, hl with
        | [a, b], _ => exact fin_of (s := 2) (Q := fun a => ∀ b, 0 ≤ b ∧ b < 2 → ordS 2 2 [a, b] = ordI 2 2 [a, b]) (fun a b hb => fin_of (s := 2) (Q := fun b => ordS 2 2 [a, b] = ordI 2 2 [a, b]) (by revert a; decide +kernel) hb) (hr 0 (by omega)) _ (hr 1 (by omega))
      · obtain rfl : n = 3 := by omega
        match zs, hl with
        | [a, b, c], _ =>
          have h3 : ∀ a b c : Fin 3, ordS 3 3 [((a.val : Nat) : Int), ((b.val : Nat) : Int), ((c.val : Nat) : Int)] = ordI 3 3 [((a.val : Nat) : Int), ((b.val : Nat) : Int), ((c.val : Nat) : Int)] := by decide +kernel
          exact fin_of (s := 3) (Q := fun a => ∀ b, 0 ≤ b ∧ b < 3 → ∀ c, 0 ≤ c ∧ c < 3 → ordS 3 3 [a, b, c] = ordI 3 3 [a, b, c])
            (fun a b hb => fin_of (s := 3) (Q := fun b => ∀ c, 0 ≤ c ∧ c < 3 → ordS 3 3 [((a.val : Nat) : Int), b, c] = ordI 3 3 [((a.val : Nat) : Int), b, c])
              (fun b c hc => fin_of (s := 3) (Q := fun c => ordS 3 3 [((a.val : Nat) : Int), ((b.val : Nat) : Int), c] = ordI 3 3 [((a.val : Nat) : Int), ((b.val : Nat) : Int), c]) (fun c => h3 a b c) hc) hb)
            (hr 0 (by omega)) _ (hr 1 (by omega)) _ (hr 2 (by omega))
      · obtain rfl : n = 4 := by omega
        match zs, hl with
        | [a, b, c, d], _ =>
          have h4 : ∀ a b c d : Fin 4, ordS 4 4 [((a.val : Nat) : Int), ((b.val : Nat) : Int), ((c.val : Nat) : Int), ((d.val : Nat) : Int)] = ordI 4 4 [((a.val : Nat) : Int), ((b.val : Nat) : Int), ((c.val : Nat) : Int), ((d.val : Nat) : Int)] := by decide +kernel
          exact fin_of (s := 4) (Q := fun a => ∀ b, 0 ≤ b ∧ b < 4 → ∀ c, 0 ≤ c ∧ c < 4 → ∀ d, 0 ≤ d ∧ d < 4 → ordS 4 4 [a, b, c, d] = ordI 4 4 [a, b, c, d])
            (fun a b hb => fin_of (s := 4) (Q := fun b => ∀ c, 0 ≤ c ∧ c < 4 → ∀ d, 0 ≤ d ∧ d < 4 → ordS 4 4 [((a.val : Nat) : Int), b, c, d] = ordI 4 4 [((a.val : Nat) : Int), b, c, d])
              (fun b c hc => fin_of (s := 4) (Q := fun c => ∀ d, 0 ≤ d ∧ d < 4 → ordS 4 4 [((a.val : Nat) : Int), ((b.val : Nat) : Int), c, d] = ordI 4 4 [((a.val : Nat) : Int), ((b.val : Nat) : Int), c, d])
                (fun c d hd => fin_of (s := 4) (Q := fun d => ordS 4 4 [((a.val : Nat) : Int), ((b.val : Nat) : Int), ((c.val : Nat) : Int), d] = ordI 4 4 [((a.val : Nat) : Int), ((b.val : Nat) : Int), ((c.val : Nat) : Int), d]) (fun d => h4 a b c d) hd) hc) hb)
            (hr 0 (by omega)) _ (hr 1 (by omega)) _ (hr 2 (by omega)) _ (hr 3 (by omega))
    · simp [ordS, ordI, hn]
  · have h1 : decide (∀ i, i < n → 0 ≤ zs.getD i 0 ∧ zs.getD i 0 < s) = false := by simpa using hr
    have h2 : decide (∀ i, i < n → (0 ≤ zs.getD i 0 ∧ zs.getD i 0 < s) ∧ bitB (seenI zs i) (zs.getD i 0).toNat = false) = false := by
      rw [decide_eq_false_iff_not]
      intro h
      exact hr fun i hi => (h i hi).1
    rw [ordS, ordI, h1, h2]
    rfl
theorem ordI_range {s : Int} {n : Nat} {zs : List Int} (h : ordI s n zs = true) : (n : Int) = s ∧ ∀ i, i < n → 0 ≤ zs.getD i 0 ∧ zs.getD i 0 < s := by
  unfold ordI at h
  simp only [Bool.and_eq_true, decide_eq_true_eq] at h
  exact ⟨h.2.1, h.1⟩
theorem l1Has_c (a x : Int) (h : 0 ≤ a ∧ a ≤ 15) (hx : 0 ≤ x ∧ x ≤ 3) (w : World) : Calls Try.prog 53 #[.int .i64 a, .int .i64 x] w fun e w' => e = .returned (.bool (bitB a x.toNat)) ∧ w = w' := by
  obtain ⟨h0, h1⟩ := h
  obtain ⟨x0, x1⟩ := hx
  go_enter Try.func53, Try.ntmps53
  go_wp2
  go_ret
  exact ⟨rfl, rfl⟩
set_option maxHeartbeats 2000000 in
theorem imageOf_c (a : Int) (A : Option Addr) (n c : Nat) (zs : List Int) (h : 0 ≤ a ∧ a ≤ 15) (hn : n ≤ 4) (hz : ∀ i, i < n → 0 ≤ zs.getD i 0 ∧ zs.getD i 0 ≤ 3) (w : World) (hr : IsRow .i64 w A n c zs) :
    Calls Try.prog 34 #[.int .i64 a, .slice A n c] w fun e w' => e = .returned (.int .i64 (imgI a zs n)) ∧ w = w' := by
  obtain ⟨h0, h1⟩ := h
  have hac := hr.at_
  have HZ := Lib.hid hz
  clear hz hr
  go_enter Try.func34, Try.ntmps34
  go_wp2
  go_loop [5, 10] (fun m i => ∃ k : Nat, k ≤ n ∧ i = .int .i64 k ∧ m = .int .i64 (imgI a zs k) ∧ 0 ≤ imgI a zs k ∧ imgI a zs k ≤ 15) (fun _ i => n - (intOf i).toNat)
  case atStart => exact ⟨0, Nat.zero_le _, rfl, rfl, Int.le_refl _, by show (0 : Int) ≤ 15; decide⟩
  case round =>
    obtain ⟨k, hk, rfl, rfl, hM0, hM1⟩ := hrel
    by_cases hlt : k < n
    · obtain ⟨b1, o1, rfl, _, hc⟩ := hac (by omega)
      have g1 := hc k hlt
      obtain ⟨z0, z1⟩ := HZ.out k hlt
      clear hc hac
      have hst : imgI a zs (k + 1) = if bitB a k then addM (imgI a zs k) (zs.getD k 0) else imgI a zs k := rfl
      have har := addM_range ⟨hM0, hM1⟩ ⟨z0, z1⟩
      have hun : addM (imgI a zs k) (zs.getD k 0) = bits .or .i64 (imgI a zs k) (wrap64 (2 ^ (zs.getD k 0).toNat)) := rfl
      have HST := Lib.hid hst
      have HAR := Lib.hid har
      have HUN := Lib.hid hun
      clear hst har hun
      generalize zs.getD k 0 = z at *
      rcases hb : bits .and .i64 (a / 2 ^ k) 1 == 1 with _ | _
      · have hi : imgI a zs (k + 1) = imgI a zs k := by rw [HST.out, show bitB a k = false from hb]; rfl
        have HI := Lib.hid hi
        clear hi
        generalize imgI a zs k = M at *
        go_wp2
        go_round
        case rel => exact ⟨k + 1, by omega, by go_num, by rw [HI.out], by rw [HI.out]; omega, by rw [HI.out]; omega⟩
        case measure => simp [intOf]; omega
      · have hi : imgI a zs (k + 1) = addM (imgI a zs k) z := by rw [HST.out, show bitB a k = true from hb]; rfl
        have HI := Lib.hid hi
        clear hi
        generalize imgI a zs k = M at *
        go_wp2
        go_round
        case rel => exact ⟨k + 1, by omega, by go_num, by rw [HI.out, HUN.out], by rw [HI.out]; exact HAR.out.1, by rw [HI.out]; exact HAR.out.2⟩
        case measure => simp [intOf]; omega
    · have hkn : k = n := by omega
      subst hkn
      obtain ⟨M, hM⟩ : ∃ M, M = imgI a zs k := ⟨_, rfl⟩
      rw [← hM] at hM0 hM1 ⊢
      have HM := Lib.hid hM
      clear hM
      go_wp2
      go_ret
      exact ⟨ret_int HM.out, rfl⟩
set_option maxHeartbeats 2000000 in
theorem l1Move_c (a : Int) (A : Option Addr) (n c : Nat) (zs : List Int) (h : 0 ≤ a ∧ a ≤ 15) (hn : n ≤ 4) (hz : ∀ i, i < n → 0 ≤ zs.getD i 0 ∧ zs.getD i 0 ≤ 3) (w : World) (hr : IsRow .i64 w A n c zs) :
    Calls Try.prog 37 #[.int .i64 a, .slice A n c] w fun e w' => e = .returned (.int .i64 (imgI a zs n)) ∧ w = w' := by
  obtain ⟨h0, h1⟩ := h
  have hac := hr.at_
  have HZ := Lib.hid hz
  clear hz hr
  go_enter Try.func37, Try.ntmps37
  go_wp2
  go_loop [5, 6] (fun m i => ∃ k : Nat, k ≤ n ∧ i = .int .i64 k ∧ m = .int .i64 (imgI a zs k) ∧ 0 ≤ imgI a zs k ∧ imgI a zs k ≤ 15) (fun _ i => n - (intOf i).toNat)
  case atStart => exact ⟨0, Nat.zero_le _, rfl, rfl, Int.le_refl _, by show (0 : Int) ≤ 15; decide⟩
  case round =>
    obtain ⟨k, hk, rfl, rfl, hM0, hM1⟩ := hrel
    by_cases hlt : k < n
    · obtain ⟨b1, o1, rfl, _, hc⟩ := hac (by omega)
      have g1 := hc k hlt
      obtain ⟨z0, z1⟩ := HZ.out k hlt
      clear hc hac
      have hst : imgI a zs (k + 1) = if bitB a k then addM (imgI a zs k) (zs.getD k 0) else imgI a zs k := rfl
      have har := addM_range ⟨hM0, hM1⟩ ⟨z0, z1⟩
      have hun : addM (imgI a zs k) (zs.getD k 0) = bits .or .i64 (imgI a zs k) (wrap64 (2 ^ (zs.getD k 0).toNat)) := rfl
      have HST := Lib.hid hst
      have HAR := Lib.hid har
      have HUN := Lib.hid hun
      clear hst har hun
      generalize zs.getD k 0 = z at *
      rcases hb : bitB a k with _ | _
      · have hi : imgI a zs (k + 1) = imgI a zs k := by rw [HST.out, hb]; rfl
        have HI := Lib.hid hi
        clear hi
        generalize imgI a zs k = M at *
        go_wp2_with (go_at_call 53; refine (l1Has_c _ _ ⟨h0, h1⟩ (by omega) _).mono ?_; rintro e w' ⟨rfl, rfl⟩)
        go_round
        case rel => exact ⟨k + 1, by omega, by go_num, by rw [HI.out], by rw [HI.out]; omega, by rw [HI.out]; omega⟩
        case measure => simp [intOf]; omega
      · have hi : imgI a zs (k + 1) = addM (imgI a zs k) z := by rw [HST.out, hb]; rfl
        have HI := Lib.hid hi
        clear hi
        generalize imgI a zs k = M at *
        go_wp2_with (go_at_call 53; refine (l1Has_c _ _ ⟨h0, h1⟩ (by omega) _).mono ?_; rintro e w' ⟨rfl, rfl⟩)
        go_round
        case rel => exact ⟨k + 1, by omega, by go_num, by rw [HI.out, HUN.out], by rw [HI.out]; exact HAR.out.1, by rw [HI.out]; exact HAR.out.2⟩
        case measure => simp [intOf]; omega
    · have hkn : k = n := by omega
      subst hkn
      obtain ⟨M, hM⟩ : ∃ M, M = imgI a zs k := ⟨_, rfl⟩
      rw [← hM] at hM0 hM1 ⊢
      have HM := Lib.hid hM
      clear hM
      go_wp2
      go_ret
      exact ⟨ret_int HM.out, rfl⟩
theorem ordI_no {s : Int} {n : Nat} {zs : List Int} {k : Nat} (hk : k < n) (h : ¬ (0 ≤ zs.getD k 0 ∧ zs.getD k 0 < s)) : ordI s n zs = false := by
  have h1 : decide (∀ i, i < n → 0 ≤ zs.getD i 0 ∧ zs.getD i 0 < s) = false := by
    rw [decide_eq_false_iff_not]
    intro hh
    exact h (hh k hk)
  rw [ordI, h1]
  rfl
theorem ordS_no {s : Int} {n : Nat} {zs : List Int} {k : Nat} (hk : k < n) (h : ¬ ((0 ≤ zs.getD k 0 ∧ zs.getD k 0 < s) ∧ bitB (seenI zs k) (zs.getD k 0).toNat = false)) : ordS s n zs = false := by
  have h1 : decide (∀ i, i < n → (0 ≤ zs.getD i 0 ∧ zs.getD i 0 < s) ∧ bitB (seenI zs i) (zs.getD i 0).toNat = false) = false := by
    rw [decide_eq_false_iff_not]
    intro hh
    exact h (hh k hk)
  rw [ordS, h1]
  rfl
set_option maxHeartbeats 2000000 in
theorem isOrder_c (s : Int) (A : Option Addr) (n c : Nat) (zs : List Int) (hs : 1 ≤ s ∧ s ≤ 4) (w : World) (hr : IsRow .i64 w A n c zs) :
    Calls Try.prog 33 #[.int .i64 s, .slice A n c] w fun e w' => e = .returned (.bool (ordI s n zs)) ∧ w = w' := by
  have hmax : n ≤ 9223372036854775807 := Nat.le_trans hr.2.1 hr.2.2.1
  obtain ⟨s0, s1⟩ := hs
  have hac := hr.at_
  clear hr
  go_enter Try.func33, Try.ntmps33
  go_wp2
  go_loop [5, 10] (fun m i => ∃ k : Nat, k ≤ n ∧ i = .int .i64 k ∧ m = .int .i64 (seenI zs k) ∧ (0 ≤ seenI zs k ∧ seenI zs k ≤ 15) ∧ ∀ j, j < k → 0 ≤ zs.getD j 0 ∧ zs.getD j 0 < s) (fun _ i => n - (intOf i).toNat)
  case atStart => exact ⟨0, Nat.zero_le _, rfl, rfl, ⟨Int.le_refl _, by show (0 : Int) ≤ 15; decide⟩, fun j hj => absurd hj (by omega)⟩
  case round =>
    obtain ⟨k, hk, rfl, rfl, hM, hall⟩ := hrel
    by_cases hlt : k < n
    · obtain ⟨b1, o1, rfl, _, hc⟩ := hac (by omega)
      have g1 := hc k hlt
      have HALL := Lib.hid hall
      clear hc hac hall
      by_cases hin : 0 ≤ zs.getD k 0 ∧ zs.getD k 0 < s
      · have hq : ∀ j, j < k + 1 → 0 ≤ zs.getD j 0 ∧ zs.getD j 0 < s := by
          intro j hj
          by_cases h : j = k
          · rw [h]; exact hin
          · exact HALL.out j (by omega)
        have har := addM_range hM (z := zs.getD k 0) (by omega)
        have hun : seenI zs (k + 1) = bits .or .i64 (seenI zs k) (wrap64 (2 ^ (zs.getD k 0).toNat)) := rfl
        have har2 : 0 ≤ seenI zs (k + 1) ∧ seenI zs (k + 1) ≤ 15 := har
        have HQ := Lib.hid hq
        have HAR := Lib.hid har2
        have HUN := Lib.hid hun
        obtain ⟨z0, z1⟩ := hin
        obtain ⟨M0, M1⟩ := hM
        clear har har2 hun hq HALL
        generalize zs.getD k 0 = z at *
        generalize seenI zs k = M at *
        go_wp2
        go_round
        case rel => exact ⟨k + 1, by omega, by go_num, by rw [HUN.out], HAR.out, HQ.out⟩
        case measure => simp [intOf]; omega
      · have HNO := Lib.hid (ordI_no hlt hin)
        clear HALL
        obtain ⟨M0, M1⟩ := hM
        generalize zs.getD k 0 = z at *
        generalize seenI zs k = M at *
        by_cases hz : z < 0
        · have hzd : decide (z < 0) = true := by simp [hz]
          clear hin
          go_wp2
          go_ret
          exact ⟨ret_bool HNO.out.symm, rfl⟩
        · have hzd : decide (z < 0) = false := by simp; omega
          have hzs : s ≤ z := by omega
          clear hin
          go_wp2
          go_ret
          exact ⟨ret_bool HNO.out.symm, rfl⟩
    · have hkn : k = n := by omega
      subst hkn
      have hd : decide (∀ i, i < k → 0 ≤ zs.getD i 0 ∧ zs.getD i 0 < s) = true := by rw [decide_eq_true_eq]; exact hall
      have ho : ordI s k zs = (decide ((k : Int) = s) && decide (seenI zs k = 2 ^ s.toNat - 1)) := by rw [ordI, hd]; rfl
      have HO := Lib.hid ho
      clear hd hall ho
      by_cases hn : (k : Int) = s
      · have hnb : ((k : Int) == s) = true := by simp [hn]
        have HN := Lib.hid hn
        clear hn
        obtain ⟨M, hM2⟩ : ∃ M, M = seenI zs k := ⟨_, rfl⟩
        rw [← hM2] at hM ⊢
        have HM := Lib.hid hM2
        clear hM2
        go_wp2_with (go_at_call 38; refine (fullSet_c _ ⟨s0, s1⟩ _).mono ?_; rintro e w' ⟨rfl, rfl⟩)
        go_ret
        refine ⟨ret_bool ?_, rfl⟩
        rw [HO.out, decide_eq_true HN.out, ← HM.out]
        simp [BEq.beq]
      · have hnb : ((k : Int) == s) = false := by simp [hn]
        have HN := Lib.hid hn
        clear hn
        generalize seenI zs k = M at *
        go_wp2_with (go_at_call 38; refine (fullSet_c _ ⟨s0, s1⟩ _).mono ?_; rintro e w' ⟨rfl, rfl⟩)
        go_ret
        refine ⟨ret_bool ?_, rfl⟩
        rw [HO.out, decide_eq_false HN.out]
        rfl
set_option maxHeartbeats 2000000 in
theorem l1Moves_c (s : Int) (A : Option Addr) (n c : Nat) (zs : List Int) (hs : 1 ≤ s ∧ s ≤ 4) (w : World) (hr : IsRow .i64 w A n c zs) :
    Calls Try.prog 36 #[.int .i64 s, .slice A n c] w fun e w' => e = .returned (.bool (ordS s n zs)) ∧ w = w' := by
  have hmax : n ≤ 9223372036854775807 := Nat.le_trans hr.2.1 hr.2.2.1
  have hsb := sizeB_yes hs
  obtain ⟨s0, s1⟩ := hs
  have hac := hr.at_
  clear hr
  go_enter Try.func36, Try.ntmps36
  go_wp2
  go_loop [5, 6] (fun m i => ∃ k : Nat, k ≤ n ∧ i = .int .i64 k ∧ m = .int .i64 (seenI zs k) ∧ (0 ≤ seenI zs k ∧ seenI zs k ≤ 15) ∧ ∀ j, j < k → (0 ≤ zs.getD j 0 ∧ zs.getD j 0 < s) ∧ bitB (seenI zs j) (zs.getD j 0).toNat = false) (fun _ i => n - (intOf i).toNat)
  case atStart => exact ⟨0, Nat.zero_le _, rfl, rfl, ⟨Int.le_refl _, by show (0 : Int) ≤ 15; decide⟩, fun j hj => absurd hj (by omega)⟩
  case round =>
    obtain ⟨k, hk, rfl, rfl, hM, hall⟩ := hrel
    by_cases hlt : k < n
    · obtain ⟨b1, o1, rfl, _, hc⟩ := hac (by omega)
      have g1 := hc k hlt
      have HALL := Lib.hid hall
      clear hc hac hall
      by_cases hin : 0 ≤ zs.getD k 0 ∧ zs.getD k 0 < s
      · have har := addM_range hM (z := zs.getD k 0) (by omega)
        have hun : seenI zs (k + 1) = bits .or .i64 (seenI zs k) (wrap64 (2 ^ (zs.getD k 0).toNat)) := rfl
        have har2 : 0 ≤ seenI zs (k + 1) ∧ seenI zs (k + 1) ≤ 15 := har
        have HAR := Lib.hid har2
        have HUN := Lib.hid hun
        clear har har2 hun
        rcases hb : bitB (seenI zs k) (zs.getD k 0).toNat with _ | _
        · have hq : ∀ j, j < k + 1 → (0 ≤ zs.getD j 0 ∧ zs.getD j 0 < s) ∧ bitB (seenI zs j) (zs.getD j 0).toNat = false := by
            intro j hj
            by_cases h : j = k
            · rw [h]; exact ⟨hin, hb⟩
            · exact HALL.out j (by omega)
          have HQ := Lib.hid hq
          have hdin : decide (0 ≤ zs.getD k 0 ∧ zs.getD k 0 ≤ s - 1) = true := by rw [decide_eq_true_eq]; omega
          obtain ⟨z0, z1⟩ := hin
          clear hq HALL
          generalize zs.getD k 0 = z at *
          generalize seenI zs k = M at *
          have z2 : z ≤ s - 1 := by omega
          go_wp2_with (first | (go_at_call 52; refine (l1In_c _ _ _ _).mono ?_; rintro e w' ⟨rfl, rfl⟩) | (go_at_call 53; refine (l1Has_c _ _ hM (by omega) _).mono ?_; rintro e w' ⟨rfl, rfl⟩))
          go_round
          case rel => exact ⟨k + 1, by omega, by go_num, by rw [HUN.out], HAR.out, HQ.out⟩
          case measure => simp [intOf]; omega
        · have HNO := Lib.hid (ordS_no (s := s) hlt (by rintro ⟨_, h⟩; rw [hb] at h; cases h))
          have hdin : decide (0 ≤ zs.getD k 0 ∧ zs.getD k 0 ≤ s - 1) = true := by rw [decide_eq_true_eq]; omega
          obtain ⟨z0, z1⟩ := hin
          clear HALL
          generalize zs.getD k 0 = z at *
          generalize seenI zs k = M at *
          have z2 : z ≤ s - 1 := by omega
          go_wp2_with (first | (go_at_call 52; refine (l1In_c _ _ _ _).mono ?_; rintro e w' ⟨rfl, rfl⟩) | (go_at_call 53; refine (l1Has_c _ _ hM (by omega) _).mono ?_; rintro e w' ⟨rfl, rfl⟩))
          go_ret
          exact ⟨ret_bool HNO.out.symm, rfl⟩
      · have HNO := Lib.hid (ordS_no (s := s) hlt (by rintro ⟨h, _⟩; exact hin h))
        have hdin : decide (0 ≤ zs.getD k 0 ∧ zs.getD k 0 ≤ s - 1) = false := by rw [decide_eq_false_iff_not]; omega
        clear HALL hin
        generalize zs.getD k 0 = z at *
        generalize seenI zs k = M at *
        go_wp2_with (go_at_call 52; refine (l1In_c _ _ _ _).mono ?_; rintro e w' ⟨rfl, rfl⟩)
        go_ret
        exact ⟨ret_bool HNO.out.symm, rfl⟩
    · have hkn : k = n := by omega
      subst hkn
      have hd : decide (∀ i, i < k → (0 ≤ zs.getD i 0 ∧ zs.getD i 0 < s) ∧ bitB (seenI zs i) (zs.getD i 0).toNat = false) = true := by rw [decide_eq_true_eq]; exact hall
      have ho : ordS s k zs = decide ((k : Int) = s) := by rw [ordS, hd]; rfl
      have HO := Lib.hid ho
      clear hd hall ho
      generalize seenI zs k = M at *
      go_wp2_with (go_at_call 28; refine (spec_SizeValid_c _ _).mono ?_; rintro e w' ⟨rfl, rfl⟩)
      go_ret
      refine ⟨ret_bool ?_, rfl⟩
      rw [HO.out]
      simp [BEq.beq]
/-- Whether MoveSet moves, and what. -/
def movB (s a : Int) (n : Nat) (zs : List Int) : Bool := validB s a && ordI s n zs
def movI (s a : Int) (n : Nat) (zs : List Int) : Int := if movB s a n zs then imgI a zs n else 0
set_option maxHeartbeats 1000000 in
theorem impl_MoveSet_c (s a : Int) (A : Option Addr) (n c : Nat) (zs : List Int) (w : World) (hr : IsRow .i64 w A n c zs) :
    Calls Try.prog 8 #[.int .i64 s, .int .i64 a, .slice A n c] w fun e w' => e = .returned (.tuple #[.int .i64 (movI s a n zs), .bool (movB s a n zs)]) ∧ w = w' := by
  have HR := Lib.hid hr
  clear hr
  rcases hs : sizeB s with _ | _
  · have h1 : movB s a n zs = false := by simp [movB, validB, hs]
    have h2 : movI s a n zs = 0 := by simp [movI, h1]
    rw [h1, h2]
    clear h1 h2
    go_enter Try.func8, Try.ntmps8
    go_wp2_with (go_at_call 31; refine (isSize_c _ _).mono ?_; rintro e w' ⟨rfl, rfl⟩)
    go_ret2
    exact ⟨rfl, rfl⟩
  have hsr := sizeB_iff.1 hs
  rcases ha : setB s a with _ | _
  · have h1 : movB s a n zs = false := by simp [movB, validB, ha]
    have h2 : movI s a n zs = 0 := by simp [movI, h1]
    rw [h1, h2]
    clear h1 h2
    go_enter Try.func8, Try.ntmps8
    go_wp2_with (first | (go_at_call 31; refine (isSize_c _ _).mono ?_; rintro e w' ⟨rfl, rfl⟩) | (go_at_call 32; refine (isSetOf_c _ _ hsr _).mono ?_; rintro e w' ⟨rfl, rfl⟩))
    go_ret2
    exact ⟨rfl, rfl⟩
  have har := setB_of hsr ha
  rcases ho : ordI s n zs with _ | _
  · have h1 : movB s a n zs = false := by simp [movB, ho]
    have h2 : movI s a n zs = 0 := by simp [movI, h1]
    rw [h1, h2]
    clear h1 h2
    go_enter Try.func8, Try.ntmps8
    go_wp2_with (first | (go_at_call 31; refine (isSize_c _ _).mono ?_; rintro e w' ⟨rfl, rfl⟩) | (go_at_call 32; refine (isSetOf_c _ _ hsr _).mono ?_; rintro e w' ⟨rfl, rfl⟩) | (go_at_call 33; refine (isOrder_c _ _ _ _ zs hsr _ HR.out).mono ?_; rintro e w' ⟨rfl, rfl⟩))
    go_ret2
    exact ⟨rfl, rfl⟩
  · obtain ⟨e1, e2⟩ := ordI_range ho
    have h1 : movB s a n zs = true := by simp [movB, validB, hs, ha, ho]
    have h2 : movI s a n zs = imgI a zs n := by simp [movI, h1]
    rw [h1, h2]
    have HZ := Lib.hid (fun i (hi : i < n) => (⟨(e2 i hi).1, by have := (e2 i hi).2; omega⟩ : 0 ≤ zs.getD i 0 ∧ zs.getD i 0 ≤ 3))
    have hn4 : n ≤ 4 := by omega
    have HN4 := Lib.hid hn4
    clear hn4
    clear h1 h2 e1 e2
    go_enter Try.func8, Try.ntmps8
    go_wp2_with (first | (go_at_call 31; refine (isSize_c _ _).mono ?_; rintro e w' ⟨rfl, rfl⟩) | (go_at_call 32; refine (isSetOf_c _ _ hsr _).mono ?_; rintro e w' ⟨rfl, rfl⟩) | (go_at_call 33; refine (isOrder_c _ _ _ _ zs hsr _ HR.out).mono ?_; rintro e w' ⟨rfl, rfl⟩) | (go_at_call 34; refine (imageOf_c _ _ _ _ zs har HN4.out HZ.out _ HR.out).mono ?_; rintro e w' ⟨rfl, rfl⟩))
    go_ret2
    exact ⟨rfl, rfl⟩
set_option maxHeartbeats 1000000 in
theorem spec_MoveSet_c (s a : Int) (A : Option Addr) (n c : Nat) (zs : List Int) (w : World) (hr : IsRow .i64 w A n c zs) :
    Calls Try.prog 9 #[.int .i64 s, .int .i64 a, .slice A n c] w fun e w' => e = .returned (.tuple #[.int .i64 (movI s a n zs), .bool (movB s a n zs)]) ∧ w = w' := by
  have hlen := hr.len
  have HR := Lib.hid hr
  clear hr
  rcases hv : validB s a with _ | _
  · have h1 : movB s a n zs = false := by simp [movB, hv]
    have h2 : movI s a n zs = 0 := by simp [movI, h1]
    rw [h1, h2]
    clear h1 h2
    go_enter Try.func9, Try.ntmps9
    go_wp2_with (go_at_call 35; refine (spec_SetValid_c _ _ _).mono ?_; rintro e w' ⟨rfl, rfl⟩)
    go_ret2
    exact ⟨rfl, rfl⟩
  obtain ⟨hsr, hsa⟩ := validB_of hv
  have har : 0 ≤ a ∧ a ≤ 15 := setB_of hsr (by simpa [setB] using hsa)
  have hos := ord_same hsr hlen
  clear hsa hlen
  rcases ho : ordI s n zs with _ | _
  · have h1 : movB s a n zs = false := by simp [movB, ho]
    have h2 : movI s a n zs = 0 := by simp [movI, h1]
    rw [h1, h2]
    clear h1 h2
    rw [ho] at hos
    go_enter Try.func9, Try.ntmps9
    go_wp2_with (first | (go_at_call 35; refine (spec_SetValid_c _ _ _).mono ?_; rintro e w' ⟨rfl, rfl⟩) | (go_at_call 36; refine (l1Moves_c _ _ _ _ zs hsr _ HR.out).mono ?_; rintro e w' ⟨rfl, rfl⟩))
    go_ret2
    exact ⟨rfl, rfl⟩
  · obtain ⟨e1, e2⟩ := ordI_range ho
    have h1 : movB s a n zs = true := by simp [movB, hv, ho]
    have h2 : movI s a n zs = imgI a zs n := by simp [movI, h1]
    rw [h1, h2]
    rw [ho] at hos
    have HZ := Lib.hid (fun i (hi : i < n) => (⟨(e2 i hi).1, by have := (e2 i hi).2; omega⟩ : 0 ≤ zs.getD i 0 ∧ zs.getD i 0 ≤ 3))
    have hn4 : n ≤ 4 := by omega
    have HN4 := Lib.hid hn4
    clear hn4
    clear h1 h2 e1 e2
    go_enter Try.func9, Try.ntmps9
    go_wp2_with (first | (go_at_call 35; refine (spec_SetValid_c _ _ _).mono ?_; rintro e w' ⟨rfl, rfl⟩) | (go_at_call 36; refine (l1Moves_c _ _ _ _ zs hsr _ HR.out).mono ?_; rintro e w' ⟨rfl, rfl⟩) | (go_at_call 37; refine (l1Move_c _ _ _ _ zs har HN4.out HZ.out _ HR.out).mono ?_; rintro e w' ⟨rfl, rfl⟩))
    go_ret2
    exact ⟨rfl, rfl⟩
end Go.Proofs.Ytihbfhjfceabnaa
