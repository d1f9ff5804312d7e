/- Contract of weSame, and what FnSubsets asks of a set's subsets. Conditions: as stated. -/
import Derived.Test.YtmdlalpijomgiaaPlainD
namespace Go.Proofs.Ytmdlalpijomgiaa
open Go.RowKit

theorem quiet_my {P : Program} {f : FuncId} {args : Array Value} {w : World} {n : Nat} {v : Value}
    (h : Calls P f args (w.drewN n) fun e w' => e = .returned v ∧ w.drewN n = w') : Calls P f args (w.drewN n) fun e w'' => e = .returned v ∧ ∃ m, w'' = w.drewN m :=
  h.mono fun _ _ ⟨he, hm⟩ => ⟨he, n, hm.symm⟩
def sumS (zs : List Int) : Int := (zs.map sgnI).sum
theorem sumS_take (zs : List Int) (k : Nat) (h : k < zs.length) : sumS (zs.take (k + 1)) = sumS (zs.take k) + sgnI (zs.getD k 0) := by
  unfold sumS
  rw [List.take_succ_eq_append_getElem h, List.map_append, List.sum_append, List.getD_eq_getElem?_getD, List.getElem?_eq_getElem h, Option.getD_some]
  simp
/-- What FnSubsets asks of a set's subsets. -/
def SubsLaw (a : Int) : Prop :=
  (∀ k, k < (sbs a).length → hasB a ((sbs a).getD k 0) = true) ∧ (∀ k, k < (sbs a).length → 0 < k → (sbs a).getD (k - 1) 0 < (sbs a).getD k 0) ∧
  ((a = 0 ∧ (sbs a).length = 1 ∧ cntI a = 0) ∨ ((sbs a).length = 2 ∧ cntI a = 1) ∨ ((sbs a).length = 4 ∧ cntI a = 2) ∨ ((sbs a).length = 8 ∧ cntI a = 3) ∨ ((sbs a).length = 16 ∧ cntI a = 4)) ∧
  ((a = 0 → sumS (sbs a) = 1) ∧ (a ≠ 0 → sumS (sbs a) = 0)) ∧ (sbs a).getD 0 0 = 0 ∧ (sbs a).getD ((sbs a).length - 1) 0 = a
instance (a : Int) : Decidable (SubsLaw a) := by unfold SubsLaw; infer_instance
theorem subs_law {a : Int} (h : setB 4 a = true) : SubsLaw a := fin16 (Q := SubsLaw) (by decide +kernel) (setB4_iff.1 h)
theorem sbs_no {a : Int} (h : setB 4 a = false) : sbs a = [] := by simp [sbs, h]
set_option maxHeartbeats 1000000 in
theorem weSame_c (a b : Option Addr) (n c d : Nat) (zs : List Int) (w : World) (ha : IsRow .i64 w a n c zs) (hb : IsRow .i64 w b n d zs) :
    Calls Try.prog 46 #[.slice a n c, .slice b n d] w fun e w' => e = .returned (.bool true) ∧ ∃ m, w' = w.drewN m := by
  have hmax : n ≤ 9223372036854775807 := Nat.le_trans ha.2.1 ha.2.2.1
  have hac := ha.at_
  have hbc := hb.at_
  have hnn : ((n : Int) != (n : Int)) = false := by simp
  clear ha hb
  go_enter Try.func46, Try.ntmps46
  go_wp2
  go_loopw [5] (fun i wr => ∃ k : Nat, k ≤ n ∧ i = .int .i64 k ∧ ∃ m, wr = w.drewN m) (fun i _ => n - (intOf i).toNat)
  case atStart => exact ⟨0, Nat.zero_le _, rfl, 0, rfl⟩
  case round =>
    obtain ⟨k, hk, rfl, m, rfl⟩ := hrel
    by_cases hlt : k < n
    · obtain ⟨b1, o1, rfl, _, h1⟩ := hac (by omega)
      obtain ⟨b2, o2, rfl, _, h2⟩ := hbc (by omega)
      have g1 := h1 k hlt
      have g2 := h2 k hlt
      clear h1 h2 hac hbc
      generalize zs.getD k 0 = x at g1 g2
      have hlt' : (k : Int) < (n : Int) := by omega
      have hk0 : (0 : Int) ≤ (k : Int) := by omega
      have hxx : (x != x) = false := by simp
      go_wp2
      go_quiet (fail)
      go_wp2
      go_roundw
      case rel => exact ⟨k + 1, by omega, by go_num, _, rfl⟩
      case measure => simp [intOf]; omega
    · have hge : ¬ (k : Int) < (n : Int) := by omega
      go_wp2
      go_ret
      exact ⟨rfl, m, rfl⟩
end Go.Proofs.Ytmdlalpijomgiaa
