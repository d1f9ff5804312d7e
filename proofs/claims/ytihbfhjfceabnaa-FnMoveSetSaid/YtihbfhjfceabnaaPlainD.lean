/- Finite facts on a set's subsets. No program here. No condition. -/
import Derived.Test.YtihbfhjfceabnaaPlainC
import Derived.Test.YtihbfhjfceabnaaWb
namespace Go.Proofs.Ytihbfhjfceabnaa
open Go.RowKit

theorem any_take (p : Int → Bool) (zs : List Int) (k : Nat) (h : k < zs.length) : (zs.take (k + 1)).any p = ((zs.take k).any p || p (zs.getD k 0)) := by
  rw [List.take_succ_eq_append_getElem h, List.any_append, List.getD_eq_getElem?_getD, List.getElem?_eq_getElem h, Option.getD_some]
  simp
/-- What FnHasSet asks of two sets. -/
def HasLaw (a b : Int) : Prop :=
  (hasB a b = true → bits .or .i64 a b = a ∧ bits .and .i64 a b = b ∧ cntI b ≤ cntI a ∧ (sbs a).any (fun x => x == b) = true) ∧
  (hasB a b = false → ¬ (bits .or .i64 a b = a) ∧ ¬ (bits .and .i64 a b = b) ∧ (sbs a).any (fun x => x == b) = false)
instance (a b : Int) : Decidable (HasLaw a b) := by unfold HasLaw; infer_instance
theorem has_law {a b : Int} (ha : 0 ≤ a ∧ a ≤ 15) (hb : 0 ≤ b ∧ b ≤ 15) : HasLaw a b := fin16b (Q := HasLaw) (by decide +kernel) ha hb
theorem cntI_in {a : Int} (h : setB 4 a = true) : 0 ≤ cntI a := by
  have := @cnt_range a
  simp [cntI, h]
  omega
theorem cntI_out {a : Int} (h : setB 4 a = false) : cntI a = -1 := by simp [cntI, h]
theorem sbs_len (a : Int) : (sbs a).length ≤ 16 := by
  unfold sbs
  split
  · rename_i h
    have := setB4_iff.1 h
    exact Nat.le_trans (subs_len _ _) (by omega)
  · exact Nat.zero_le _
end Go.Proofs.Ytihbfhjfceabnaa
