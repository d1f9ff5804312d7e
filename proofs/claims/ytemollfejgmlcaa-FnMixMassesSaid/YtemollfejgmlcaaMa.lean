/- Contracts of chapter 3's small functions on masses: sums, divisors, the laws' own helpers. Conditions: as stated. -/
import Derived.Test.YtemollfejgmlcaaPlainE
import Derived.Test.YtemollfejgmlcaaWa
import Derived.Test.YtemollfejgmlcaaWc
namespace Go.Proofs.Ytemollfejgmlcaa
open Go.RowKit

/-- The world behind a mass that was handed over by value. -/
def boxM (w : World) (s : Int) (a : Option Addr) (n c : Nat) : World := w.alloc (.cells #[.int .i64 s, .slice a n c] 25)
theorem take_bound {zs : List Int} (h : partsB 1000000000 zs = true) (hl : zs.length ≤ 16) (k : Nat) : 0 ≤ whole (zs.take k) ∧ whole (zs.take k) ≤ 16000000000 := by
  have hm : ∀ x ∈ zs.take k, 0 ≤ x ∧ x ≤ 1000000000 := fun x hx => partsB_mem h x (List.mem_of_mem_take hx)
  have h1 := whole_nn (zs := zs.take k) fun x hx => (hm x hx).1
  have h2 := whole_le (zs := zs.take k) fun x hx => (hm x hx).2
  have h3 : (zs.take k).length ≤ 16 := by rw [List.length_take]; omega
  omega
set_option maxHeartbeats 1000000 in
theorem wholeOf_c (s : Int) (a : Option Addr) (n c : Nat) (zs : List Int) (hp : partsB 1000000000 zs = true) (hn : n ≤ 16) (w : World) (ha : IsRow .i64 w a n c zs) :
    Calls Try.prog 63 #[.agg #[.int .i64 s, .slice a n c]] w fun e w' => e = .returned (.int .i64 (whole zs)) ∧ Below w.heap.size w w' := by
  have hlen := ha.len
  have HL := Lib.hid hlen
  have hac := (ha.alloc (.cells #[.int .i64 s, .slice a n c] 25)).at_
  have HT := Lib.hid (take_bound hp (by omega))
  have HP := Lib.hid hp
  clear ha hlen hp
  go_enter Try.func63, Try.ntmps63
  go_wp2
  go_loop [3, 9] (fun t i => ∃ k : Nat, k ≤ n ∧ i = .int .i64 k ∧ t = .int .i64 (whole (zs.take k))) (fun _ i => n - (intOf i).toNat)
  case atStart => exact ⟨0, Nat.zero_le _, rfl, rfl⟩
  case round =>
    obtain ⟨k, hk, rfl, rfl⟩ := hrel
    by_cases hlt : k < n
    · obtain ⟨b1, o1, rfl, _, h1⟩ := hac (by omega)
      have g1 := h1 k hlt
      have HS := Lib.hid (whole_take (zs := zs) (k := k) (by have := HL.out; omega))
      have t1 := HT.out k
      have t2 := HT.out (k + 1)
      rw [HS.out] at t2
      obtain ⟨t1a, t1b⟩ := t1
      obtain ⟨t2a, t2b⟩ := t2
      have hx : -1000000000000 ≤ zs.getD k 0 ∧ zs.getD k 0 ≤ 1000000000000 := by omega
      obtain ⟨x1, x2⟩ := hx
      clear h1 hac
      generalize zs.getD k 0 = x at *
      generalize whole (zs.take k) = W at *
      go_wp2
      go_round
      case rel => exact ⟨k + 1, by omega, by go_num, by rw [HS.out]⟩
      case measure => simp [intOf]; omega
    · have hkn : k = n := by omega
      subst hkn
      have hl := HL.out
      rw [List.take_of_length_le (by omega)]
      clear hl
      go_wp2
      go_ret
      exact ⟨rfl, (Below.refl _ _).alloc (Nat.le_refl _) _⟩
theorem sumM_no {most : Int} {zs : List Int} {k : Nat} (hk : k < zs.length) (h : inB 0 most (zs.getD k 0) = false) : sumM most zs = -1 := by
  unfold sumM
  rw [partsB_no hk h]
  rfl
theorem sumM_yes {most : Int} {zs : List Int} (h : ∀ k, k < zs.length → inB 0 most (zs.getD k 0) = true) : sumM most zs = whole zs := by
  unfold sumM
  rw [partsB_yes h]
  rfl
set_option maxHeartbeats 1000000 in
theorem l3Sum_c (most : Int) (a : Option Addr) (n c : Nat) (zs : List Int) (hm : 0 ≤ most ∧ most ≤ 1000000000) (hn : n ≤ 16) (w : World) (ha : IsRow .i64 w a n c zs) :
    Calls Try.prog 57 #[.slice a n c, .int .i64 most] w fun e w' => e = .returned (.int .i64 (sumM most zs)) ∧ w = w' := by
  have hlen := ha.len
  have HL := Lib.hid hlen
  have hac := ha.at_
  obtain ⟨m0, m1⟩ := hm
  clear ha hlen
  go_enter Try.func57, Try.ntmps57
  go_wp2
  go_loop [5, 6] (fun t i => ∃ k : Nat, k ≤ n ∧ i = .int .i64 k ∧ t = .int .i64 (whole (zs.take k)) ∧ (0 ≤ whole (zs.take k) ∧ whole (zs.take k) ≤ 1000000000 * k) ∧ ∀ j, j < k → inB 0 most (zs.getD j 0) = true) (fun _ i => n - (intOf i).toNat)
  case atStart => exact ⟨0, Nat.zero_le _, rfl, rfl, ⟨by simp [whole], by simp [whole]⟩, fun j hj => absurd hj (by omega)⟩
  case round =>
    obtain ⟨k, hk, rfl, rfl, hW, hall⟩ := hrel
    by_cases hlt : k < n
    · obtain ⟨b1, o1, rfl, _, h1⟩ := hac (by omega)
      have g1 := h1 k hlt
      have HALL := Lib.hid hall
      have HS := Lib.hid (whole_take (zs := zs) (k := k) (by have := HL.out; omega))
      clear h1 hac hall
      rcases hx : inB 0 most (zs.getD k 0) with _ | _
      · have HNO := Lib.hid (sumM_no (by have := HL.out; omega) hx)
        have hd : decide (0 ≤ zs.getD k 0 ∧ zs.getD k 0 ≤ most) = false := hx
        clear hx HALL
        generalize zs.getD k 0 = x at *
        generalize whole (zs.take k) = W at *
        go_wp2_with (go_at_call 83; refine (l1In_c _ _ _ _).mono ?_; rintro e w' ⟨rfl, rfl⟩)
        go_ret
        exact ⟨ret_int HNO.out.symm, rfl⟩
      · have hq : ∀ j, j < k + 1 → inB 0 most (zs.getD j 0) = true := by
          intro j hj
          by_cases h : j = k
          · rw [h]; exact hx
          · exact HALL.out j (by omega)
        have HQ := Lib.hid hq
        have hd : decide (0 ≤ zs.getD k 0 ∧ zs.getD k 0 ≤ most) = true := hx
        obtain ⟨x1, x2⟩ := inB_iff.1 hx
        obtain ⟨W1, W2⟩ := hW
        clear hx hq HALL
        generalize zs.getD k 0 = x at *
        generalize whole (zs.take k) = W at *
        go_wp2_with (go_at_call 83; refine (l1In_c _ _ _ _).mono ?_; rintro e w' ⟨rfl, rfl⟩)
        go_round
        case rel => exact ⟨k + 1, by omega, by go_num, by rw [HS.out], by rw [HS.out]; omega, HQ.out⟩
        case measure => simp [intOf]; omega
    · have hkn : k = n := by omega
      subst hkn
      have HY := Lib.hid (sumM_yes (most := most) (zs := zs) (by rw [HL.out]; exact hall))
      have hl := HL.out
      rw [List.take_of_length_le (by omega)]
      clear hl hall hW
      go_wp2
      go_ret
      exact ⟨ret_int HY.out.symm, rfl⟩
set_option maxHeartbeats 1000000 in
theorem l3Lowest_c (a : Option Addr) (n c : Nat) (zs : List Int) (hs : Nns zs) (w : World) (ha : IsRow .i64 w a n c zs) :
    Calls Try.prog 84 #[.slice a n c] w fun e w' => e = .returned (.int .i64 (gcdL zs)) ∧ w = w' := by
  have hmax : n ≤ 9223372036854775807 := Nat.le_trans ha.2.1 ha.2.2.1
  have hac := ha.at_
  have HL := Lib.hid ha.len
  have HS := Lib.hid hs
  clear ha hs
  go_enter Try.func84, Try.ntmps84
  go_wp2
  go_loop [3, 4] (fun d i => ∃ (k : Nat) (D : Nat), k ≤ n ∧ i = .int .i64 k ∧ d = .int .i64 (D : Int) ∧ D = gcdL (zs.take k)) (fun _ i => n - (intOf i).toNat)
  case atStart => exact ⟨0, 0, Nat.zero_le _, rfl, rfl, rfl⟩
  case round =>
    obtain ⟨k, D, hk, rfl, rfl, hD⟩ := hrel
    by_cases hlt : k < n
    · obtain ⟨b1, o1, rfl, _, h1⟩ := hac (by omega)
      have g1 := h1 k hlt
      have hx := HS.out.small k
      have hsD : Small (D : Int) := by have := gcdL_take_le HS.out k; unfold Small; omega
      have hg2 : Int.gcd (D : Int) (zs.getD k 0) = gcdL (zs.take (k + 1)) := by rw [take_snoc_int (by have := HL.out; omega), gcdL_snoc, hD]
      have HG := Lib.hid hg2
      have HX := Lib.hid hx
      have HD := Lib.hid hsD
      clear h1 hac hx hsD hg2 hD
      generalize zs.getD k 0 = x at *
      go_wp2_with (go_at_call 85; refine (l2Divisor_c _ _ HD.out HX.out _).mono ?_; rintro e w' ⟨rfl, rfl⟩)
      go_round
      case rel => exact ⟨k + 1, _, by omega, by go_num, rfl, HG.out⟩
      case measure => simp [intOf]; omega
    · have hkn : k = n := by omega
      subst hkn
      have hl := HL.out
      rw [List.take_of_length_le (by omega)] at hD
      have HD := Lib.hid hD
      clear hl hD
      go_wp2
      go_ret
      exact ⟨ret_int (by rw [HD.out]), rfl⟩
end Go.Proofs.Ytemollfejgmlcaa
