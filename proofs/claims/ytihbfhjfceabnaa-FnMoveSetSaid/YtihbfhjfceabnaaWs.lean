/- Contracts of chapter 1's draws: in which range what is drawn lies. Conditions: as stated. -/
import Derived.Test.YtihbfhjfceabnaaWr
import Derived.Test.YtihbfhjfceabnaaWa
namespace Go.Proofs.Ytihbfhjfceabnaa
open Go.RowKit

def SetOr (a : Int) : Prop := (0 ≤ a ∧ a ≤ 15) ∨ a = -1 ∨ a = 16 ∨ a = 9223372036854775807
def SizeOr (n : Int) : Prop := -1 ≤ n ∧ n ≤ 5
theorem lit_pick {xs : List Int} {Q : Int → Prop} (h : ∀ x ∈ xs, Q x) {i : Nat} (hi : i < xs.length) : Q (xs.getD i 0) := by
  rw [List.getD_eq_getElem?_getD, List.getElem?_eq_getElem hi, Option.getD_some]
  exact h _ (List.getElem_mem hi)
theorem some_ne {a b o : Nat} (h : a ≠ b) : ∀ x y, some (⟨a, o, none⟩ : Addr) = some ⟨x, y, none⟩ → x ≠ b := by
  intro x y e
  injection e with e
  injection e with e1 e2
  omega
theorem or_nat {a b : Int} (ha : 0 ≤ a ∧ a ≤ 4611686018427387904) (hb : 0 ≤ b ∧ b ≤ 4611686018427387904) : bits .or .i64 a b = ((a.toNat ||| b.toNat : Nat) : Int) := by
  have e1 : (BitVec.ofInt 64 a).toNat = a.toNat := by
    rw [BitVec.toNat_ofInt]; omega
  have e2 : (BitVec.ofInt 64 b).toNat = b.toNat := by
    rw [BitVec.toNat_ofInt]; omega
  have hx : a.toNat ||| b.toNat < 2 ^ 63 := Nat.or_lt_two_pow (by omega) (by omega)
  show IntKind.i64.wrap ((BitVec.ofInt 64 a ||| BitVec.ofInt 64 b).toNat : Int) = _
  rw [BitVec.toNat_or, e1, e2, IntKind.wrap_i64]
  omega
theorem and_nat {a b : Int} (ha : 0 ≤ a ∧ a ≤ 4611686018427387904) (hb : 0 ≤ b ∧ b ≤ 4611686018427387904) : bits .and .i64 a b = ((a.toNat &&& b.toNat : Nat) : Int) := by
  have e1 : (BitVec.ofInt 64 a).toNat = a.toNat := by
    rw [BitVec.toNat_ofInt]; omega
  have e2 : (BitVec.ofInt 64 b).toNat = b.toNat := by
    rw [BitVec.toNat_ofInt]; omega
  have hx : a.toNat &&& b.toNat ≤ a.toNat := Nat.and_le_left
  show IntKind.i64.wrap ((BitVec.ofInt 64 a &&& BitVec.ofInt 64 b).toNat : Int) = _
  rw [BitVec.toNat_and, e1, e2, IntKind.wrap_i64]
  omega
theorem or_range {a b : Int} (ha : 0 ≤ a ∧ a ≤ 15) (hb : 0 ≤ b ∧ b ≤ 15) : 0 ≤ bits .or .i64 a b ∧ bits .or .i64 a b ≤ 15 := by
  rw [or_nat (by omega) (by omega)]
  have hx : a.toNat ||| b.toNat < 2 ^ 4 := Nat.or_lt_two_pow (by omega) (by omega)
  omega
set_option maxHeartbeats 1000000 in
theorem l1Size_c (g q : Nat) (hq : q ≤ 1000000) (w : World) (hr : Reader w g q) :
    Calls Try.prog 26 #[.pointer (some ⟨g, 0, none⟩)] w fun e w' => ∃ n, e = .returned (.int .i64 n) ∧ SizeOr n ∧ Reader w' g (q + 1) ∧ w.grownBy w' (some g) := by
  have hlt := hr.lt
  have HR := Lib.hid hr
  clear hr
  go_enter Try.func26, Try.ntmps26
  go_wp2_with fail
  refine (num_c g q _ _ _ [3, 2, 3, 1, 4, 3, 2, 3, 0, 5, -1] hq (by decide) (by decide) _ (HR.out.alloc _) (lit_row w [3, 2, 3, 1, 4, 3, 2, 3, 0, 5, -1] (by unfold Fits; decide) (by decide)) (some_ne (by omega))).mono ?_
  rintro e w1 ⟨i, hi, rfl, hr1, hg1⟩
  have hx := lit_pick (Q := SizeOr) (by unfold SizeOr; decide) hi
  generalize List.getD [3, 2, 3, 1, 4, 3, 2, 3, 0, 5, -1] i 0 = x at *
  have HR1 := Lib.hid hr1
  have HG1 := Lib.hid (grown_trans_row (grown_alloc ⟨rfl, rfl, rfl, Nat.le_refl _, fun _ _ _ => rfl⟩ _) hg1)
  clear hr1 hg1 hi
  go_wp2_with fail
  go_ret
  exact ⟨x, rfl, hx, HR1.out, HG1.out⟩
set_option maxHeartbeats 1000000 in
theorem l1Set_c (g q : Nat) (hq : q ≤ 900000) (w : World) (hr : Reader w g q) :
    Calls Try.prog 27 #[.pointer (some ⟨g, 0, none⟩)] w fun e w' => ∃ a, e = .returned (.int .i64 a) ∧ SetOr a ∧ Reader w' g (q + 3) ∧ w.grownBy w' (some g) := by
  have hlt := hr.lt
  have HR := Lib.hid hr
  clear hr
  go_enter Try.func27, Try.ntmps27
  go_wp2_with fail
  refine (pick_c g q _ (by omega) (by omega) _ HR.out).mono ?_
  rintro e w1 ⟨x, rfl, x0, x1, hr1, hg1⟩
  have hlt1 := hr1.lt
  have HR1 := Lib.hid hr1
  have HG1 := Lib.hid hg1
  clear hr1 hg1 HR
  by_cases hx : x = 0
  · subst hx
    go_wp2_with fail
    refine (num_c g (q + 1) _ _ _ [-1, 16, 9223372036854775807] (by omega) (by decide) (by decide) _ (HR1.out.alloc _) (lit_row w1 [-1, 16, 9223372036854775807] (by unfold Fits; decide) (by decide)) (some_ne (by omega))).mono ?_
    rintro e w2 ⟨i, hi, rfl, hr2, hg2⟩
    have hx := lit_pick (Q := SetOr) (by unfold SetOr; decide) hi
    generalize List.getD [-1, 16, 9223372036854775807] i 0 = x at *
    have HR2 := Lib.hid hr2
    have HG2 := Lib.hid (grown_trans_row (grown_alloc HG1.out _) hg2)
    clear hr2 hg2 hi
    go_wp2_with fail
    go_ret
    exact ⟨x, rfl, hx, HR2.out.more (by omega), HG2.out⟩
  · have hxb : (x == 0) = false := by simpa using hx
    go_wp2_with fail
    refine (pick_c g (q + 1) _ (by omega) (by omega) _ HR1.out).mono ?_
    rintro e w2 ⟨y, rfl, y0, y1, hr2, hg2⟩
    have HR2 := Lib.hid hr2
    have HG2 := Lib.hid (grown_trans_row HG1.out hg2)
    clear hr2 hg2
    go_wp2_with fail
    refine (pick_c g (q + 2) _ (by omega) (by omega) _ HR2.out).mono ?_
    rintro e w3 ⟨z, rfl, z0, z1, hr3, hg3⟩
    have HR3 := Lib.hid hr3
    have HG3 := Lib.hid (grown_trans_row HG2.out hg3)
    clear hr3 hg3
    have y2 : y < 8 := by omega
    have z2 : z < 4 := by omega
    clear y1 z1 x1
    go_wp2_with fail
    go_ret
    refine ⟨_, rfl, Or.inl ?_, HR3.out, HG3.out⟩
    omega
end Go.Proofs.Ytihbfhjfceabnaa
