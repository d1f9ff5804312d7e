/- Contracts of chapter 1's draws: in which range what is drawn lies. Conditions: as stated. -/
import Derived.Test.YtmdlalpijomgiaaWr
import Derived.Test.YtmdlalpijomgiaaWa
namespace Go.Proofs.Ytmdlalpijomgiaa
open Go.RowKit

def SetOr (a : Int) : Prop := (0 ≤ a ∧ a ≤ 15) ∨ a = -1 ∨ a = 16 ∨ a = 9223372036854775807
def SizeOr (n : Int) : Prop := -1 ≤ n ∧ n ≤ 5
theorem lit_pick {xs : List Int} {Q : Int → Prop} (h : ∀ x ∈ xs, Q x) {i : Nat} (hi : i < xs.length) : Q (xs.getD i 0) := by
  rw [List.getD_eq_getElem?_getD, List.getElem?_eq_getElem hi, Option.getD_some]
  exact h _ (List.getElem_mem hi)
theorem some_ne {a b o : Nat} (h : a ≠ b) : ∀ x y, some (⟨a, o, none⟩ : Addr) = some ⟨x, y, none⟩ → x ≠ b := by
  intro x y e
  injection e with e
  injection e with e1 e2
  omega
theorem or_nat {a b : Int} (ha : 0 ≤ a ∧ a ≤ 4611686018427387904) (hb : 0 ≤ b ∧ b ≤ 4611686018427387904) : bits .or .i64 a b = ((a.toNat ||| b.toNat : Nat) : Int) := by
  have e1 : (BitVec.ofInt 64 a).toNat = a.toNat := by
    rw [BitVec.toNat_ofInt]; omega
  have e2 : (BitVec.ofInt 64 b).toNat = b.toNat := by
    rw [BitVec.toNat_ofInt]; omega
  have hx : a.toNat ||| b.toNat < 2 ^ 63 := Nat.or_lt_two_pow (by omega) (by omega)
  show IntKind.i64.wrap ((BitVec.ofInt 64 a ||| BitVec.ofInt 64 b).toNat : Int) = _
  rw [BitVec.toNat_or, e1, e2, IntKind.wrap_i64]
  omega
theorem and_nat {a b : Int} (ha : 0 ≤ a ∧ a ≤ 4611686018427387904) (hb : 0 ≤ b ∧ b ≤ 4611686018427387904) : bits .and .i64 a b = ((a.toNat &&& b.toNat : Nat) : Int) := by
  have e1 : (BitVec.ofInt 64 a).toNat = a.toNat := by
    rw [BitVec.toNat_ofInt]; omega
  have e2 : (BitVec.ofInt 64 b).toNat = b.toNat := by
    rw [BitVec.toNat_ofInt]; omega
  have hx : a.toNat &&& b.toNat ≤ a.toNat := Nat.and_le_left
  show IntKind.i64.wrap ((BitVec.ofInt 64 a &&& BitVec.ofInt 64 b).toNat : Int) = _
  rw [BitVec.toNat_and, e1, e2, IntKind.wrap_i64]
  omega
theorem or_range {a b : Int} (ha : 0 ≤ a ∧ a ≤ 15) (hb : 0 ≤ b ∧ b ≤ 15) : 0 ≤ bits .or .i64 a b ∧ bits .or .i64 a b ≤ 15 := by
  rw [or_nat (by omega) (by omega)]
  have hx : a.toNat ||| b.toNat < 2 ^ 4 := Nat.or_lt_two_pow (by omega) (by omega)
  omega
set_option maxHeartbeats 1000000 in
theorem l1Size_c (g q : Nat) (hq : q ≤ 1000000) (w : World) (hr : Reader w g q) :
    Calls Try.prog 68 #[.pointer (some ⟨g, 0, none⟩)] w fun e w' => ∃ n, e = .returned (.int .i64 n) ∧ SizeOr n ∧ Reader w' g (q + 1) ∧ w.grownBy w' (some g) := by
  have hlt := hr.lt
  have HR := Lib.hid hr
  clear hr
  go_enter Try.func68, Try.ntmps68
  go_wp2_with fail
  refine (num_c g q _ _ _ [3, 2, 3, 1, 4, 3, 2, 3, 0, 5, -1] hq (by decide) (by decide) _ (HR.out.alloc _) (lit_row w [3, 2, 3, 1, 4, 3, 2, 3, 0, 5, -1] (by unfold Fits; decide) (by decide)) (some_ne (by omega))).mono ?_
  rintro e w1 ⟨i, hi, rfl, hr1, hg1⟩
  have hx := lit_pick (Q := SizeOr) (by unfold SizeOr; decide) hi
  generalize List.getD [3, 2, 3, 1, 4, 3, 2, 3, 0, 5, -1] i 0 = x at *
  have HR1 := Lib.hid hr1
  have HG1 := Lib.hid (grown_trans_row (grown_alloc ⟨rfl, rfl, rfl, Nat.le_refl _, fun _ _ _ => rfl⟩ _) hg1)
  clear hr1 hg1 hi
  go_wp2_with fail
  go_ret
  exact ⟨x, rfl, hx, HR1.out, HG1.out⟩
set_option maxHeartbeats 1000000 in
theorem l1Set_c (g q : Nat) (hq : q ≤ 900000) (w : World) (hr : Reader w g q) :
    Calls Try.prog 66 #[.pointer (some ⟨g, 0, none⟩)] w fun e w' => ∃ a, e = .returned (.int .i64 a) ∧ SetOr a ∧ Reader w' g (q + 3) ∧ w.grownBy w' (some g) := by
  have hlt := hr.lt
  have HR := Lib.hid hr
  clear hr
  go_enter Try.func66, Try.ntmps66
  go_wp2_with fail
  refine (pick_c g q _ (by omega) (by omega) _ HR.out).mono ?_
  rintro e w1 ⟨x, rfl, x0, x1, hr1, hg1⟩
  have hlt1 := hr1.lt
  have HR1 := Lib.hid hr1
  have HG1 := Lib.hid hg1
  clear hr1 hg1 HR
  by_cases hx : x = 0
  · subst hx
    go_wp2_with fail
    refine (num_c g (q + 1) _ _ _ [-1, 16, 9223372036854775807] (by omega) (by decide) (by decide) _ (HR1.out.alloc _) (lit_row w1 [-1, 16, 9223372036854775807] (by unfold Fits; decide) (by decide)) (some_ne (by omega))).mono ?_
    rintro e w2 ⟨i, hi, rfl, hr2, hg2⟩
    have hx := lit_pick (Q := SetOr) (by unfold SetOr; decide) hi
    generalize List.getD [-1, 16, 9223372036854775807] i 0 = x at *
    have HR2 := Lib.hid hr2
    have HG2 := Lib.hid (grown_trans_row (grown_alloc HG1.out _) hg2)
    clear hr2 hg2 hi
    go_wp2_with fail
    go_ret
    exact ⟨x, rfl, hx, HR2.out.more (by omega), HG2.out⟩
  · have hxb : (x == 0) = false := by simpa using hx
    go_wp2_with fail
    refine (pick_c g (q + 1) _ (by omega) (by omega) _ HR1.out).mono ?_
    rintro e w2 ⟨y, rfl, y0, y1, hr2, hg2⟩
    have HR2 := Lib.hid hr2
    have HG2 := Lib.hid (grown_trans_row HG1.out hg2)
    clear hr2 hg2
    go_wp2_with fail
    refine (pick_c g (q + 2) _ (by omega) (by omega) _ HR2.out).mono ?_
    rintro e w3 ⟨z, rfl, z0, z1, hr3, hg3⟩
    have HR3 := Lib.hid hr3
    have HG3 := Lib.hid (grown_trans_row HG2.out hg3)
    clear hr3 hg3
    have y2 : y < 8 := by omega
    have z2 : z < 4 := by omega
    clear y1 z1 x1
    go_wp2_with fail
    go_ret
    refine ⟨_, rfl, Or.inl ?_, HR3.out, HG3.out⟩
    omega
set_option maxHeartbeats 1000000 in
theorem DrawSetValid_c (A : Option Addr) (n c : Nat) (zs : List Int) (w : World) (ha : IsRow .u8 w A n c zs) :
    Calls Try.prog 44 #[.slice A n c] w fun e w' => ∃ s a, e = .returned (.tuple #[.int .i64 s, .int .i64 a]) ∧ SizeOr s ∧ SetOr a ∧ Below w.heap.size w w' := by
  have HA := Lib.hid ha
  clear ha
  go_enter Try.func44, Try.ntmps44
  go_wp2_with fail
  refine (l14Open_c _ _ _ _ _ HA.out).mono ?_
  rintro e w1 ⟨rfl, hr1, hb1⟩
  have HR1 := Lib.hid hr1
  have HB1 := Lib.hid hb1
  clear hr1 hb1
  go_wp2_with fail
  refine (l1Size_c _ 0 (by omega) _ HR1.out).mono ?_
  rintro e w2 ⟨s, rfl, hs, hr2, hg2⟩
  have HR2 := Lib.hid hr2
  have HB2 := Lib.hid (HB1.out.trans (below_of_grown hg2 (Nat.le_refl _) HB1.out.size))
  clear hr2 hg2
  go_wp2_with fail
  refine (l1Set_c _ _ (by omega) _ HR2.out).mono ?_
  rintro e w3 ⟨a, rfl, hsa, hr3, hg3⟩
  have HB3 := Lib.hid (HB2.out.trans (below_of_grown hg3 (Nat.le_refl _) HB2.out.size))
  clear hr3 hg3
  go_wp2_with fail
  go_ret2
  exact ⟨s, a, rfl, hs, hsa, HB3.out⟩
set_option maxHeartbeats 1000000 in
theorem DrawFormatSet_c (A : Option Addr) (n c : Nat) (zs : List Int) (w : World) (ha : IsRow .u8 w A n c zs) :
    Calls Try.prog 47 #[.slice A n c] w fun e w' => ∃ a, e = .returned (.int .i64 a) ∧ SetOr a ∧ Below w.heap.size w w' := by
  have HA := Lib.hid ha
  clear ha
  go_enter Try.func47, Try.ntmps47
  go_wp2_with fail
  refine (l14Open_c _ _ _ _ _ HA.out).mono ?_
  rintro e w1 ⟨rfl, hr1, hb1⟩
  have HR1 := Lib.hid hr1
  have HB1 := Lib.hid hb1
  clear hr1 hb1
  go_wp2_with fail
  refine (l1Set_c _ _ (by omega) _ HR1.out).mono ?_
  rintro e w3 ⟨a, rfl, hsa, hr3, hg3⟩
  have HB3 := Lib.hid (HB1.out.trans (below_of_grown hg3 (Nat.le_refl _) HB1.out.size))
  clear hr3 hg3
  go_wp2_with fail
  go_ret
  exact ⟨a, rfl, hsa, HB3.out⟩
set_option maxHeartbeats 1000000 in
theorem DrawSubsetsOf_c (A : Option Addr) (n c : Nat) (zs : List Int) (w : World) (ha : IsRow .u8 w A n c zs) :
    Calls Try.prog 45 #[.slice A n c] w fun e w' => ∃ a, e = .returned (.int .i64 a) ∧ SetOr a ∧ Below w.heap.size w w' := by
  have HA := Lib.hid ha
  clear ha
  go_enter Try.func45, Try.ntmps45
  go_wp2_with fail
  refine (l14Open_c _ _ _ _ _ HA.out).mono ?_
  rintro e w1 ⟨rfl, hr1, hb1⟩
  have HR1 := Lib.hid hr1
  have HB1 := Lib.hid hb1
  clear hr1 hb1
  go_wp2_with fail
  refine (l1Set_c _ _ (by omega) _ HR1.out).mono ?_
  rintro e w3 ⟨a, rfl, hsa, hr3, hg3⟩
  have HB3 := Lib.hid (HB1.out.trans (below_of_grown hg3 (Nat.le_refl _) HB1.out.size))
  clear hr3 hg3
  go_wp2_with fail
  go_ret
  exact ⟨a, rfl, hsa, HB3.out⟩
set_option maxHeartbeats 2000000 in
theorem DrawHasSet_c (A : Option Addr) (n c : Nat) (zs : List Int) (w : World) (ha : IsRow .u8 w A n c zs) :
    Calls Try.prog 43 #[.slice A n c] w fun e w' => ∃ a b, e = .returned (.tuple #[.int .i64 a, .int .i64 b]) ∧ SetOr a ∧ SetOr b ∧ Below w.heap.size w w' := by
  have HA := Lib.hid ha
  clear ha
  go_enter Try.func43, Try.ntmps43
  go_wp2_with fail
  refine (l14Open_c _ _ _ _ _ HA.out).mono ?_
  rintro e w1 ⟨rfl, hr1, hb1⟩
  have HR1 := Lib.hid hr1
  have HB1 := Lib.hid hb1
  clear hr1 hb1
  go_wp2_with fail
  refine (l1Set_c _ _ (by omega) _ HR1.out).mono ?_
  rintro e w2 ⟨a, rfl, hsa, hr2, hg2⟩
  have HR2 := Lib.hid hr2
  have HB2 := Lib.hid (HB1.out.trans (below_of_grown hg2 (Nat.le_refl _) HB1.out.size))
  clear hr2 hg2
  go_wp2_with fail
  refine (l1Set_c _ _ (by omega) _ HR2.out).mono ?_
  rintro e w3 ⟨b, rfl, hsb, hr3, hg3⟩
  have HR3 := Lib.hid hr3
  have HB3 := Lib.hid (HB2.out.trans (below_of_grown hg3 (Nat.le_refl _) HB2.out.size))
  have HSA := Lib.hid hsa
  have HSB := Lib.hid hsb
  clear hr3 hg3 hsa hsb
  rcases ha : setB 4 a with _ | _
  · go_wp2_with (go_at_call 52; refine (l1Any_c _ _).mono ?_; rintro e w' ⟨rfl, rfl⟩)
    go_ret2
    exact ⟨a, b, rfl, HSA.out, HSB.out, HB3.out⟩
  rcases hb : setB 4 b with _ | _
  · go_wp2_with (go_at_call 52; refine (l1Any_c _ _).mono ?_; rintro e w' ⟨rfl, rfl⟩)
    go_ret2
    exact ⟨a, b, rfl, HSA.out, HSB.out, HB3.out⟩
  go_wp2_with (go_at_call 52; refine (l1Any_c _ _).mono ?_; rintro e w' ⟨rfl, rfl⟩)
  refine (pick_c _ _ _ (by omega) (by omega) _ HR3.out).mono ?_
  rintro e w4 ⟨x, rfl, x0, x1, hr4, hg4⟩
  have HB4 := Lib.hid (HB3.out.trans (below_of_grown hg4 (Nat.le_refl _) HB3.out.size))
  have HO := Lib.hid (or_range (setB4_iff.1 ha) (setB4_iff.1 hb))
  clear hr4 hg4 ha hb x1
  by_cases hx : x = 0
  · subst hx
    go_wp2_with fail
    go_ret2
    exact ⟨_, b, rfl, Or.inl HO.out, HSB.out, HB4.out⟩
  · have hxb : (x == 0) = false := by simpa using hx
    go_wp2_with fail
    go_ret2
    exact ⟨a, b, rfl, HSA.out, HSB.out, HB4.out⟩
end Go.Proofs.Ytmdlalpijomgiaa
