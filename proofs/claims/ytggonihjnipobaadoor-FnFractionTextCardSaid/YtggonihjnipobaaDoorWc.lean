/- Contracts of chapter 2's functions on fractions, the program's and the reference's. Conditions: as stated. -/
import Derived.Test.YtggonihjnipobaaDoorPlainB
import Derived.Test.YtggonihjnipobaaDoorWm
import Derived.Deep.RegionWith
namespace Go.Proofs.YtggonihjnipobaaDoor
open Go.RowKit

theorem isPart_c (x : Int) (w : World) : Calls Tryd.prog 29 #[.int .i64 x] w fun e w' => e = .returned (.bool (partB x)) ∧ w = w' := by
  by_cases h1 : -1000000000 ≤ x
  · by_cases h2 : x ≤ 1000000000
    · have e : partB x = true := by simp [partB, h1, h2]
      rw [e]
      clear e
      go_enter Tryd.func29, Tryd.ntmps29
      go_wp2
      go_ret
      exact ⟨rfl, rfl⟩
    · have e : partB x = false := by simp [partB, h2]
      rw [e]
      clear e
      go_enter Tryd.func29, Tryd.ntmps29
      go_wp2
      go_ret
      exact ⟨rfl, rfl⟩
  · have e : partB x = false := by simp [partB, h1]
    rw [e]
    clear e
    go_enter Tryd.func29, Tryd.ntmps29
    go_wp2
    go_ret
    exact ⟨rfl, rfl⟩
theorem l2In_c (n lo hi : Int) (w : World) : Calls Tryd.prog 27 #[.int .i64 n, .int .i64 lo, .int .i64 hi] w fun e w' => e = .returned (.bool (decide (lo ≤ n ∧ n ≤ hi))) ∧ w = w' := by
  by_cases h1 : lo ≤ n
  · by_cases h2 : n ≤ hi
    · have e : decide (lo ≤ n ∧ n ≤ hi) = true := by simp [h1, h2]
      rw [e]
      clear e
      go_enter Tryd.func27, Tryd.ntmps27
      go_wp2
      go_ret
      exact ⟨rfl, rfl⟩
    · have e : decide (lo ≤ n ∧ n ≤ hi) = false := by simp [h2]
      rw [e]
      clear e
      go_enter Tryd.func27, Tryd.ntmps27
      go_wp2
      go_ret
      exact ⟨rfl, rfl⟩
  · have e : decide (lo ≤ n ∧ n ≤ hi) = false := by simp [h1]
    rw [e]
    clear e
    go_enter Tryd.func27, Tryd.ntmps27
    go_wp2
    go_ret
    exact ⟨rfl, rfl⟩
theorem l2Part_c (x : Int) (w : World) : Calls Tryd.prog 26 #[.int .i64 x] w fun e w' => e = .returned (.bool (partB x)) ∧ w = w' := by
  go_enter Tryd.func26, Tryd.ntmps26
  go_wp2_with (go_at_call 27; refine (l2In_c _ _ _ _).mono ?_; rintro e w' ⟨rfl, rfl⟩)
  go_ret
  exact ⟨ret_bool (by simp [partB]), rfl⟩
theorem take_succ_int (zs : List Int) (k : Nat) (h : k < zs.length) : zs.take (k + 1) = zs.take k ++ [zs.getD k 0] := by
  rw [List.take_succ_eq_append_getElem h, List.getD_eq_getElem?_getD, List.getElem?_eq_getElem h, Option.getD_some]
theorem gcd_abs_left {D x : Int} {g : Nat} (h : D.natAbs = g) : Int.gcd (g : Int) x = Int.gcd D x := by
  subst h
  unfold Int.gcd
  simp
set_option maxHeartbeats 2000000 in
theorem divisorOf_c (a : Option Addr) (n c : Nat) (zs : List Int) (hs : ∀ i, Small (zs.getD i 0)) (w : World) (ha : IsRow .i64 w a n c zs) :
    Calls Tryd.prog 37 #[.slice a n c] w fun e w' => e = .returned (.int .i64 (gcdL zs)) ∧ ∃ m, w' = w.drewN m := by
  have hmax : n ≤ 9223372036854775807 := Nat.le_trans ha.2.1 ha.2.2.1
  have hac := ha.at_
  have hlen := ha.len
  have HL := Lib.hid hlen
  have HS := Lib.hid hs
  clear ha hlen hs
  go_enter Tryd.func37, Tryd.ntmps37
  go_wp2
  go_loopw [3, 8] (fun d i wr => ∃ (k : Nat) (D : Int), k ≤ n ∧ i = .int .i64 k ∧ d = .int .i64 D ∧ Small D ∧ D.natAbs = gcdL (zs.take k) ∧ ∃ m, wr = w.drewN m) (fun _ i _ => n - (intOf i).toNat)
  case atStart => exact ⟨0, 0, Nat.zero_le _, rfl, rfl, by unfold Small; omega, rfl, 0, rfl⟩
  case round =>
    obtain ⟨k, D, hk, rfl, rfl, hD, hg, m, rfl⟩ := hrel
    by_cases hlt : k < n
    · obtain ⟨b1, o1, rfl, _, h1⟩ := hac (by omega)
      have g1 := h1 k hlt
      have hx : Small (zs.getD k 0) := HS.out k
      have hg2 : gcdL (zs.take (k + 1)) = Int.gcd D (zs.getD k 0) := by
        rw [take_succ_int zs k (by have := HL.out; omega), gcdL_snoc, gcd_abs_left hg]
      have HG := Lib.hid hg2
      clear h1 hac hg hg2
      generalize zs.getD k 0 = x at *
      obtain ⟨G, hGe⟩ : ∃ G, G = gcdL (zs.take (k + 1)) := ⟨_, rfl⟩
      rw [← hGe] at HG
      have HE := Lib.hid hGe
      clear hGe
      go_wp2
      obtain ⟨wo, hwo⟩ : ∃ wo : World, wo = w := ⟨_, rfl⟩
      go_loopw [3, 5] (fun d i wq => ∃ (D1 x1 : Int), d = .int .i64 D1 ∧ i = .int .i64 x1 ∧ Small D1 ∧ Small x1 ∧ G = Int.gcd D1 x1 ∧ ∃ m, wq = w.drewN m) (fun _ i _ => (intOf i).natAbs)
      case atStart => exact ⟨D, x, rfl, rfl, hD, hx, HG.out, m, rfl⟩
      case round =>
        obtain ⟨D1, x1, rfl, rfl, hD1, hx1, hG1, m1, rfl⟩ := hrel
        unfold Small at hD1 hx1
        obtain ⟨hDa, hDb⟩ := hD1
        obtain ⟨hxa, hxb⟩ := hx1
        by_cases h0 : x1 = 0
        · subst h0
          have hf : D1.natAbs = G := by
            rw [hG1]
            simp
          have HF := Lib.hid hf
          clear hf hG1 HG
          go_wp2
          go_roundw
          case rel => exact ⟨k + 1, D1, by omega, by go_num, rfl, ⟨hDa, hDb⟩, HF.out.trans HE.out, m1, rfl⟩
          case measure => simp [intOf]; omega
        · have hne : (x1 == 0) = false := by simpa using h0
          have hne2 : (x1 != 0) = true := by simpa using h0
          have hlt2 := tmod_abs_lt D1 x1 h0
          have hst : G = Int.gcd x1 (D1.tmod x1) := by rw [gcd_step]; exact hG1
          have hb : -4611686018427387904 ≤ D1.tmod x1 ∧ D1.tmod x1 ≤ 4611686018427387904 := by omega
          have HS2 := Lib.hid hst
          have HM := Lib.hid hlt2
          obtain ⟨hb1, hb2⟩ := hb
          have hw : IntKind.i64.wrap (D1.tmod x1) = D1.tmod x1 := IntWalk.i64_in _ (by omega)
          clear hst hG1 HG hlt2
          go_wp2
          go_quiet (fail)
          clear hw
          go_wp2
          go_roundw
          case rel => exact ⟨x1, D1.tmod x1, rfl, rfl, ⟨hxa, hxb⟩, ⟨hb1, hb2⟩, HS2.out, _, World.drewN_drewN _ _ _⟩
          case measure => simpa [intOf] using HM.out
    · have hkn : k = n := by omega
      subst hkn
      have hl := HL.out
      rw [List.take_of_length_le (by omega)] at hg
      unfold Small at hD
      obtain ⟨hD1, hD2⟩ := hD
      have HG := Lib.hid hg
      clear hg
      go_wp2
      all_goals
        go_ret
        have := HG.out
        exact ⟨ret_int (by omega), m, rfl⟩
set_option maxHeartbeats 1000000 in
theorem l2Divisor_c (a b : Int) (ha : Small a) (hb : Small b) (w : World) :
    Calls Tryd.prog 28 #[.int .i64 a, .int .i64 b] w fun e w' => e = .returned (.int .i64 (Int.gcd a b)) ∧ w = w' := by
  unfold Small at ha hb
  obtain ⟨ha1, ha2⟩ := ha
  obtain ⟨hb1, hb2⟩ := hb
  obtain ⟨G, hG⟩ : ∃ G, G = Int.gcd a b := ⟨_, rfl⟩
  have HG := Lib.hid hG
  rw [← hG]
  clear hG
  by_cases h1 : 0 ≤ a <;> by_cases h2 : 0 ≤ b
  all_goals
    go_enter Tryd.func28, Tryd.ntmps28
    go_wp2
    go_loop [0, 1] (fun p q => ∃ A B : Int, p = .int .i64 A ∧ q = .int .i64 B ∧ 0 ≤ A ∧ 0 ≤ B ∧ Small A ∧ Small B ∧ G = Int.gcd A B) (fun _ q => (intOf q).natAbs)
    case atStart =>
      refine ⟨_, _, rfl, rfl, ?_, ?_, ?_, ?_, ?_⟩
      · omega
      · omega
      · unfold Small; omega
      · unfold Small; omega
      · rw [HG.out]
        try simp [Int.gcd]
    case round =>
      obtain ⟨A, B, rfl, rfl, hA, hB, hsA, hsB, hg⟩ := hrel
      unfold Small at hsA hsB
      obtain ⟨hA1, hA2⟩ := hsA
      obtain ⟨hB1, hB2⟩ := hsB
      by_cases h0 : 0 < B
      · have hst : G = Int.gcd B (A % B) := by
          have := gcd_step A B
          rw [Int.tmod_eq_emod_of_nonneg hA] at this
          rw [this]
          exact hg
        have hm1 : 0 ≤ A % B := Int.emod_nonneg _ (by omega)
        have hm2 : A % B < B := Int.emod_lt_of_pos _ h0
        have HS := Lib.hid hst
        clear hst hg
        go_wp2
        go_round
        case rel => exact ⟨B, A % B, rfl, rfl, hB, hm1, ⟨hB1, hB2⟩, ⟨by omega, by omega⟩, HS.out⟩
        case measure => simp [intOf]; omega
      · have hB0 : B = 0 := by omega
        subst hB0
        have hf : A = (G : Int) := by
          rw [hg]
          simp
          omega
        have HF := Lib.hid hf
        clear hf hg
        go_wp2
        go_ret
        exact ⟨ret_int HF.out, rfl⟩
theorem two_row (w : World) (x y : Int) (hx : Fits x) (hy : Fits y) : IsRow .i64 (w.alloc (.cells #[.int .i64 x, .int .i64 y] 3)) (some ⟨w.heap.size, 0, none⟩) 2 2 [x, y] := by
  refine ⟨rfl, by omega, by omega, ?_, fun _ => ⟨_, _, rfl, by simp, ?_⟩⟩
  · intro z hz
    simp at hz
    rcases hz with rfl | rfl
    · exact wf_of_fits hx
    · exact wf_of_fits hy
  · intro i hi
    have : i = 0 ∨ i = 1 := by omega
    rcases this with rfl | rfl
    · go_simp
    · go_simp
theorem two_row_behind (w : World) (o : Obj) (x y : Int) (hx : Fits x) (hy : Fits y) : IsRow .i64 ((w.alloc o).alloc (.cells #[.int .i64 x, .int .i64 y] 3)) (some ⟨w.heap.size + 1, 0, none⟩) 2 2 [x, y] := by
  have e : (w.alloc o).heap.size = w.heap.size + 1 := by simp
  rw [← e]
  exact two_row _ x y hx hy
theorem small_two {x y : Int} (hx : Small x) (hy : Small y) : ∀ i, Small ([x, y].getD i 0) := by
  intro i
  match i with
  | 0 => exact hx
  | 1 => exact hy
  | _ + 2 => exact ⟨by simp, by simp⟩
theorem small_part {x : Int} (h : partB x = true) : Small x := by
  simp [partB] at h
  unfold Small
  omega
theorem fits_small {x : Int} (h : Small x) : Fits x := by
  unfold Small at h
  unfold Fits
  omega
set_option maxHeartbeats 1000000 in
theorem isFraction_c (x y : Int) (w : World) : Calls Tryd.prog 21 #[.agg #[.int .i64 x, .int .i64 y]] w fun e w' => e = .returned (.bool (fracB x y)) ∧ Below w.heap.size w w' := by
  have hbel : ∀ o, Below w.heap.size w (w.alloc o) := fun o => (Below.refl _ _).alloc (Nat.le_refl _) o
  rcases hp : partB x with _ | _
  · have hf : fracB x y = false := by
      simp only [partB, decide_eq_false_iff_not] at hp
      simp only [fracB, decide_eq_false_iff_not]
      omega
    rw [hf]
    have HB := Lib.hid hbel
    clear hbel hf
    go_enter Tryd.func21, Tryd.ntmps21
    go_wp2_with (go_at_call 29; refine (isPart_c _ _).mono ?_; rintro e w' ⟨rfl, rfl⟩)
    go_ret
    exact ⟨rfl, HB.out _⟩
  · by_cases h1 : 1 ≤ y
    · by_cases h2 : y ≤ 1000000000
      · have hsx := small_part hp
        have hsy : Small y := by unfold Small; omega
        have hf : fracB x y = ((gcdL [x, y] : Int) == 1) := by
          rw [gcdL_two]
          simp [partB] at hp
          rw [Bool.eq_iff_iff]
          simp [fracB, hp, h1, h2]
          omega
        rw [hf]
        have HB := Lib.hid hbel
        have hr := fun o => two_row_behind w o x y (fits_small hsx) (fits_small hsy)
        have hs2 := small_two hsx hsy
        have HR := Lib.hid hr
        have HS := Lib.hid hs2
        clear hbel hf hsx hsy hr hs2
        go_enter Tryd.func21, Tryd.ntmps21
        go_wp2_with (go_at_call 29; refine (isPart_c _ _).mono ?_; rintro e w' ⟨rfl, rfl⟩)
        refine (divisorOf_c _ _ _ [x, y] HS.out _ (HR.out _)).mono ?_
        rintro e w' ⟨rfl, m, rfl⟩
        go_wp2_with fail
        go_ret
        exact ⟨rfl, below_drewN ((HB.out _).alloc (by simp) _) m⟩
      · have hf : fracB x y = false := by
          simp only [fracB, decide_eq_false_iff_not]
          omega
        rw [hf]
        have HB := Lib.hid hbel
        clear hbel hf
        go_enter Tryd.func21, Tryd.ntmps21
        go_wp2_with (go_at_call 29; refine (isPart_c _ _).mono ?_; rintro e w' ⟨rfl, rfl⟩)
        go_ret
        exact ⟨rfl, HB.out _⟩
    · have hf : fracB x y = false := by
        simp only [fracB, decide_eq_false_iff_not]
        omega
      rw [hf]
      have HB := Lib.hid hbel
      clear hbel hf
      go_enter Tryd.func21, Tryd.ntmps21
      go_wp2_with (go_at_call 29; refine (isPart_c _ _).mono ?_; rintro e w' ⟨rfl, rfl⟩)
      go_ret
      exact ⟨rfl, HB.out _⟩
set_option maxHeartbeats 1000000 in
theorem spec_FractionValid_c (x y : Int) (w : World) : Calls Tryd.prog 13 #[.agg #[.int .i64 x, .int .i64 y]] w fun e w' => e = .returned (.bool (fracB x y)) ∧ Below w.heap.size w w' := by
  have hbel : ∀ o, Below w.heap.size w (w.alloc o) := fun o => (Below.refl _ _).alloc (Nat.le_refl _) o
  have HB := Lib.hid hbel
  clear hbel
  rcases hp : partB x with _ | _
  · have hf : fracB x y = false := by
      simp only [partB, decide_eq_false_iff_not] at hp
      simp only [fracB, decide_eq_false_iff_not]
      omega
    rw [hf]
    clear hf
    go_enter Tryd.func13, Tryd.ntmps13
    go_wp2_with (go_at_call 26; refine (l2Part_c _ _).mono ?_; rintro e w' ⟨rfl, rfl⟩)
    go_ret
    exact ⟨rfl, HB.out _⟩
  · by_cases h1 : 1 ≤ y ∧ y ≤ 1000000000
    · have hsx := small_part hp
      have hsy : Small y := by unfold Small; omega
      have hf : fracB x y = ((Int.gcd x y : Int) == 1) := by
        simp [partB] at hp
        rw [Bool.eq_iff_iff]
        simp [fracB, hp, h1]
        omega
      rw [hf]
      have hd : decide (1 ≤ y ∧ y ≤ 1000000000) = true := by simp [h1]
      clear hf h1
      go_enter Tryd.func13, Tryd.ntmps13
      go_wp2_with (first | (go_at_call 26; refine (l2Part_c _ _).mono ?_; rintro e w' ⟨rfl, rfl⟩) | (go_at_call 27; refine (l2In_c _ _ _ _).mono ?_; rintro e w' ⟨rfl, rfl⟩) | (go_at_call 28; refine (l2Divisor_c _ _ hsx hsy _).mono ?_; rintro e w' ⟨rfl, rfl⟩))
      go_ret
      exact ⟨rfl, HB.out _⟩
    · have hf : fracB x y = false := by
        simp only [fracB, decide_eq_false_iff_not]
        omega
      rw [hf]
      have hd : decide (1 ≤ y ∧ y ≤ 1000000000) = false := by simp only [decide_eq_false_iff_not]; exact h1
      clear hf h1
      go_enter Tryd.func13, Tryd.ntmps13
      go_wp2_with (first | (go_at_call 26; refine (l2Part_c _ _).mono ?_; rintro e w' ⟨rfl, rfl⟩) | (go_at_call 27; refine (l2In_c _ _ _ _).mono ?_; rintro e w' ⟨rfl, rfl⟩))
      go_ret
      exact ⟨rfl, HB.out _⟩
end Go.Proofs.YtggonihjnipobaaDoor
