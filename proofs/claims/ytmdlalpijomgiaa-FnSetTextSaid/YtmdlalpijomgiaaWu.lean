/- Contracts: one of a list of texts, the draw of a set's text; finite facts on texts. Conditions: as stated. -/
import Derived.Test.YtmdlalpijomgiaaWs
import Derived.Test.YtmdlalpijomgiaaPlainD
namespace Go.Proofs.Ytmdlalpijomgiaa
open Go.RowKit

theorem txt_inj {a b : Int} (ha : 0 ≤ a ∧ a ≤ 15) (hb : 0 ≤ b ∧ b ≤ 15) (h : txt a = txt b) : a = b := by
  have := fin16b (Q := fun a b => txtL a.toNat = txtL b.toNat → a = b) (by decide +kernel) ha hb
  apply this
  unfold txt at h
  have h2 := congrArg ByteArray.data h
  exact Array.toList_inj.2 h2 |> fun e => by simpa using e
def TxtLaw (a : Int) : Prop := txtL a.toNat ≠ [] ∧ ((txtL a.toNat).length : Int) = max (cntI a) 1
instance (a : Int) : Decidable (TxtLaw a) := by unfold TxtLaw; infer_instance
theorem txt_law {a : Int} (h : 0 ≤ a ∧ a ≤ 15) : txt a ≠ ByteArray.empty ∧ ((txt a).size : Int) = max (cntI a) 1 ∧ (txt a).size ≤ 4 := by
  obtain ⟨h1, h2⟩ := fin16 (Q := TxtLaw) (by decide +kernel) h
  have h3 := cntI_range a
  have e : ((txt a).size : Int) = ((txtL a.toNat).length : Int) := by
    unfold txt
    simp [ByteArray.size]
  refine ⟨fun e2 => h1 ?_, by rw [e, h2], by omega⟩
  unfold txt at e2
  have h4 := congrArg ByteArray.data e2
  simpa using h4
theorem fmt_out {a : Int} (h : setB 4 a = false) : fmt a = ByteArray.empty := by simp [fmt, h]
theorem fmt_size (a : Int) : (fmt a).size ≤ 4 := by
  rcases h : setB 4 a with _ | _
  · rw [fmt_out h]; exact Nat.zero_le _
  · rw [fmt_in (setB4_iff.1 h)]
    exact (txt_law (setB4_iff.1 h)).2.2
set_option maxHeartbeats 1000000 in
theorem of_c (g q : Nat) (b o : Nat) (n c : Nat) (S : Nat → ByteArray) (hq : q ≤ 1000000) (hn : 0 < n) (hn1 : n ≤ 1000) (_ : n ≤ c) (_ : c ≤ 1000) (w : World) (hr : Reader w g q) (hb : b < w.heap.size) (hc : ∀ i, i < n → w.cell? ⟨b, o + i, none⟩ = some (.string (S i))) (hbg : b ≠ g) :
    Calls Try.prog 69 #[.pointer (some ⟨g, 0, none⟩), .slice (some ⟨b, o, none⟩) n c] w fun e w' => ∃ i, i < n ∧ e = .returned (.string (S i)) ∧ Reader w' g (q + 1) ∧ w.grownBy w' (some g) := by
  have HR := Lib.hid hr
  have HC := Lib.hid hc
  clear hr hc
  go_enter Try.func69, Try.ntmps69
  go_wp2_with fail
  refine (pick_c g q _ hq (by omega) _ HR.out).mono ?_
  rintro e w1 ⟨x, rfl, hx0, hx1, hr1, hg1⟩
  obtain ⟨i, rfl⟩ : ∃ i : Nat, x = (i : Int) := ⟨x.toNat, by omega⟩
  have hi : i < n := by omega
  have hci : w1.cell? ⟨b, o + i, none⟩ = some (.string (S i)) := by
    rw [World.cell?_of_block (hg1.block b hb (by intro e; injection e with e; omega))]
    exact HC.out i hi
  have HR1 := Lib.hid hr1
  have HG1 := Lib.hid hg1
  clear hr1 hg1 HC hx1
  go_wp2_with fail
  go_ret
  exact ⟨i, hi, rfl, HR1.out, HG1.out⟩
def sixT (i : Nat) : ByteArray := match i with
  | 0 => ⟨#[]⟩
  | 1 => ⟨#[97]⟩
  | 2 => ⟨#[100]⟩
  | 3 => ⟨#[45]⟩
  | 4 => ⟨#[101]⟩
  | _ => ⟨#[32]⟩
theorem sixT_size (i : Nat) : (sixT i).size ≤ 1 := by
  unfold sixT
  split <;> decide
theorem six_row (w : World) : ∀ i, i < 6 → (w.alloc (.cells #[.string ⟨#[]⟩, .string ⟨#[97]⟩, .string ⟨#[100]⟩, .string ⟨#[45]⟩, .string ⟨#[101]⟩, .string ⟨#[32]⟩] 9)).cell? ⟨w.heap.size, 0 + i, none⟩ = some (.string (sixT i)) := by
  intro i hi
  rw [Nat.zero_add, World.cell?_alloc_new]
  match i with
  | 0 => rfl
  | 1 => rfl
  | 2 => rfl
  | 3 => rfl
  | 4 => rfl
  | 5 => rfl
  | k + 6 => omega
set_option maxHeartbeats 1000000 in
theorem DrawParseSet_c (A : Option Addr) (n c : Nat) (zs : List Int) (w : World) (ha : IsRow .u8 w A n c zs) :
    Calls Try.prog 48 #[.slice A n c] w fun e w' => ∃ s : ByteArray, e = .returned (.string s) ∧ s.size ≤ 5 ∧ Below w.heap.size w w' := by
  have HA := Lib.hid ha
  clear ha
  go_enter Try.func48, Try.ntmps48
  go_wp2_with fail
  refine (l14Open_c _ _ _ _ _ HA.out).mono ?_
  rintro e w1 ⟨rfl, hr1, hb1⟩
  have HR1 := Lib.hid hr1
  have HB1 := Lib.hid hb1
  clear hr1 hb1
  go_wp2_with fail
  refine (pick_c _ 0 _ (by omega) (by omega) _ HR1.out).mono ?_
  rintro e w2 ⟨x, rfl, _, _, hr2, hg2⟩
  have HR2 := Lib.hid hr2
  have HB2 := Lib.hid (HB1.out.trans (below_of_grown hg2 (Nat.le_refl _) HB1.out.size))
  have hlt := hr2.lt
  clear hr2 hg2
  go_wp2_with fail
  refine (spec_FormatSet_c _ _).mono ?_
  rintro e w2' ⟨rfl, rfl⟩
  have hfs := fmt_size x
  generalize fmt x = s at *
  go_wp2_with fail
  refine (pick_c _ _ _ (by omega) (by omega) _ HR2.out).mono ?_
  rintro e w3 ⟨y, rfl, _, _, hr3, hg3⟩
  have HR3 := Lib.hid hr3
  have HB3 := Lib.hid (HB2.out.trans (below_of_grown hg3 (Nat.le_refl _) HB2.out.size))
  have hlt3 := hr3.lt
  clear hr3 hg3
  by_cases hy : y = 0
  · subst hy
    go_wp2_with fail
    go_ret
    exact ⟨s, rfl, by omega, HB3.out⟩
  · have hyb : (y == 0) = false := by simpa using hy
    go_wp2_with fail
    refine (of_c _ _ w3.heap.size 0 6 6 sixT (by omega) (by decide) (by decide) (by decide) (by decide) _ (HR3.out.alloc _) (by simp) (six_row w3) (by omega)).mono ?_
    rintro e w4 ⟨i, hi, rfl, hr4, hg4⟩
    have HB4 := Lib.hid (HB3.out.trans (below_of_grown (grown_trans_row (grown_alloc ⟨rfl, rfl, rfl, Nat.le_refl _, fun _ _ _ => rfl⟩ _) hg4) (Nat.le_refl _) HB3.out.size))
    have h6 := sixT_size i
    generalize sixT i = t at *
    clear hr4 hg4
    go_wp2_with fail
    go_ret
    exact ⟨_, rfl, by simp; omega, HB4.out⟩
end Go.Proofs.Ytmdlalpijomgiaa
