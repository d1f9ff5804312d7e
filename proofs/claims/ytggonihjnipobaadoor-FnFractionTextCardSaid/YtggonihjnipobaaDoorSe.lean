/- Contract: a number read from its digits. Conditions: no more than 2^20 bytes. -/
import Derived.Test.YtggonihjnipobaaDoorSa
import Derived.Deep.RegionHeld3
import Derived.Deep.Cut
namespace Go.Proofs.YtggonihjnipobaaDoor
open Go.RowKit

def numFrom (acc : Nat) : List UInt8 → Option Nat
  | [] => some acc
  | b :: r => if b.toNat < 48 ∨ 57 < b.toNat then none else numFrom (acc * 10 + (b.toNat - 48)) r
/-- What is read of the digits behind the sign. -/
def numTail (neg : Bool) (t : List UInt8) : Int × Bool :=
  if t.length = 0 ∨ 17 < t.length ∨ (t.head? = some 48 ∧ (1 < t.length ∨ neg = true)) then (0, false)
  else match numFrom 0 t with
    | none => (0, false)
    | some v => (if neg then -(v : Int) else v, true)
def numV (l : List UInt8) : Int × Bool := if l.head? = some 45 then numTail true l.tail else numTail false l
theorem numTail_bad {neg : Bool} {t : List UInt8} (h : t.length = 0 ∨ 17 < t.length ∨ (t.head? = some 48 ∧ (1 < t.length ∨ neg = true))) : numTail neg t = (0, false) := if_pos h
theorem numTail_none {neg : Bool} {t : List UInt8} (h : numFrom 0 t = none) : numTail neg t = (0, false) := by
  unfold numTail
  split
  · rfl
  · rw [h]
theorem numTail_some {neg : Bool} {t : List UInt8} {v : Nat} (hb : ¬ (t.length = 0 ∨ 17 < t.length ∨ (t.head? = some 48 ∧ (1 < t.length ∨ neg = true)))) (h : numFrom 0 t = some v) : numTail neg t = (if neg then -(v : Int) else v, true) := by
  unfold numTail
  rw [if_neg hb, h]
theorem numFrom_bad {l : List UInt8} {i acc : Nat} (hi : i < l.length) (h : numFrom 0 l = numFrom acc (l.drop i)) (hb : l[i].toNat < 48 ∨ 57 < l[i].toNat) : numFrom 0 l = none := by
  rw [h, List.drop_eq_getElem_cons hi, numFrom, if_pos hb]
theorem numFrom_good {l : List UInt8} {i acc : Nat} (hi : i < l.length) (h : numFrom 0 l = numFrom acc (l.drop i)) (hb : ¬ (l[i].toNat < 48 ∨ 57 < l[i].toNat)) : numFrom 0 l = numFrom (acc * 10 + (l[i].toNat - 48)) (l.drop (i + 1)) := by
  rw [h, List.drop_eq_getElem_cons hi, numFrom, if_neg hb]
theorem numFrom_end {l : List UInt8} {acc : Nat} (h : numFrom 0 l = numFrom acc (l.drop l.length)) : numFrom 0 l = some acc := by
  rw [h]; simp [numFrom]
theorem head_at {t : ByteArray} (h : 0 < t.size) : t.data.toList.head? = some t[0] := by
  obtain ⟨⟨l⟩⟩ := t
  cases l with
  | nil => simp [ByteArray.size] at h
  | cons a r => rfl
theorem at_list {t : ByteArray} {i : Nat} (_h : i < t.size) (h' : i < t.data.toList.length) : t.data.toList[i] = t[i] := by
  simp; rfl
set_option maxRecDepth 100000 in
set_option maxHeartbeats 2000000 in
theorem l14Num_pos (t : ByteArray) (hs : t.size ≤ 1048576) (hd : ∀ h : 0 < t.size, ((t[0].toNat : Int) == 45) = false) (w : World) :
    Calls Tryd.prog 18 #[.string t] w fun e w' => e = .returned (.tuple #[.int .i64 (numTail false t.data.toList).1, .bool (numTail false t.data.toList).2]) ∧ w = w' := by
  have zt : t.data.toList.length = t.size := by simp
  by_cases h0 : t.size = 0
  · have HR := Lib.hid (numTail_bad (neg := false) (Or.inl (zt.trans h0)))
    clear hd
    go_enter Tryd.func18, Tryd.ntmps18
    go_wp2_with fail
    exact bodyPost_ret (v := .tuple #[.int .i64 0, .bool false]) (by simp [results, Tryd.results18, go_sem]) rfl ⟨(by rw [HR.out]), rfl⟩
  have hp : 0 < t.size := by omega
  have hd0 := hd hp
  clear hd
  by_cases h17 : 17 < t.size
  · have HR := Lib.hid (numTail_bad (neg := false) (Or.inr (Or.inl (zt ▸ h17))))
    go_enter Tryd.func18, Tryd.ntmps18
    go_wp2_with fail
    exact bodyPost_ret (v := .tuple #[.int .i64 0, .bool false]) (by simp [results, Tryd.results18, go_sem]) rfl ⟨(by rw [HR.out]), rfl⟩
  have HH := Lib.hid (head_at hp)
  by_cases h48 : t[0] = 48
  · have g0 : ((t[0].toNat : Int) == 48) = true := by rw [h48]; rfl
    by_cases h1 : 1 < t.size
    · have HR := Lib.hid (numTail_bad (neg := false) (t := t.data.toList) (Or.inr (Or.inr ⟨HH.out.trans (congrArg some h48), Or.inl (zt ▸ h1)⟩)))
      clear h48
      go_enter Tryd.func18, Tryd.ntmps18
      go_wp2_with fail
      exact bodyPost_ret (v := .tuple #[.int .i64 0, .bool false]) (by simp [results, Tryd.results18, go_sem]) rfl ⟨(by rw [HR.out]), rfl⟩
    have HB := Lib.hid (show ¬ (t.data.toList.length = 0 ∨ 17 < t.data.toList.length ∨ (t.data.toList.head? = some 48 ∧ (1 < t.data.toList.length ∨ false = true))) by
      rw [zt]
      rintro (h | h | ⟨_, h | h⟩)
      · exact h0 h
      · exact h17 h
      · exact h1 h
      · cases h)
    clear h48
    go_enter Tryd.func18, Tryd.ntmps18
    have q0 : ((t.size : Int) == 0) = false := by rw [beq_eq_false_iff_ne]; omega
    have q1 : ¬ (17 : Int) < (t.size : Int) := by omega
    have q2 : ¬ (1 : Int) < (t.size : Int) := by omega
    go_wp2_with fail
    go_loopw [5, 6] (fun acc i wr => ∃ (a k : Nat), acc = .int .i64 (a : Int) ∧ i = .int .i64 (k : Int) ∧ k ≤ t.size ∧ a < 10 ^ k ∧ numFrom 0 t.data.toList = numFrom a (t.data.toList.drop k) ∧ wr = w) (fun _ i _ => t.size - (intOf i).toNat)
    case atStart => exact ⟨0, 0, rfl, rfl, Nat.zero_le _, by simp, by simp, rfl⟩
    case round =>
      obtain ⟨a, k, rfl, rfl, hk, ha, hn, rfl⟩ := hrel
      have HN := Lib.hid hn
      have HA := Lib.hid ha
      have ha1 : a < 100000000000000000 := Nat.lt_of_lt_of_le ha (Nat.pow_le_pow_right (n := 10) (by omega) (show k ≤ 17 by omega))
      clear hn ha
      by_cases hk1 : k < t.size
      · have hk2 : k < t.data.toList.length := by omega
        have ea := at_list hk1 hk2
        by_cases lo : t[k].toNat < 48 ∨ 57 < t[k].toNat
        · have HR := Lib.hid (numTail_none (neg := false) (numFrom_bad hk2 HN.out (by rw [ea]; exact lo)))
          clear ea
          rcases lo with lo | lo
          · go_wp2_with fail
            exact bodyPost_ret (v := .tuple #[.int .i64 0, .bool false]) (by simp [results, Tryd.results18, go_sem]) rfl ⟨(by rw [HR.out]), rfl⟩
          · go_wp2_with fail
            exact bodyPost_ret (v := .tuple #[.int .i64 0, .bool false]) (by simp [results, Tryd.results18, go_sem]) rfl ⟨(by rw [HR.out]), rfl⟩
        · have HS := Lib.hid (numFrom_good hk2 HN.out (by rw [ea]; exact lo))
          rw [ea] at HS
          clear ea
          have lo1 : ¬ t[k].toNat < 48 := fun h => lo (Or.inl h)
          have lo2 : ¬ 57 < t[k].toNat := fun h => lo (Or.inr h)
          clear lo
          go_wp2_with fail
          refine ⟨⟨a * 10 + (t[k].toNat - 48), k + 1, by push_cast; congr 1; omega, by push_cast; rfl, by omega, ?_, HS.out, trivial⟩, ?_⟩
          · have := HA.out
            rw [Nat.pow_succ]
            omega
          · simp only [intOf]; omega
      · have hke : k = t.data.toList.length := by omega
        have HE := Lib.hid (numTail_some (neg := false) (t := t.data.toList) (by first | exact HB.out | simpa using HB.out) (numFrom_end (by rw [← hke]; exact HN.out)))
        clear hke
        go_wp2_with fail
        exact bodyPost_ret (v := .tuple #[.int .i64 ((a : Int)), .bool true]) (by simp [results, Tryd.results18, go_sem]) rfl ⟨(by rw [HE.out]; rfl), rfl⟩
  have g0 : ((t[0].toNat : Int) == 48) = false := by
    have : t[0].toNat ≠ 48 := fun h => h48 (UInt8.toNat_inj.1 h)
    simp; omega
  have HB := Lib.hid (show ¬ (t.data.toList.length = 0 ∨ 17 < t.data.toList.length ∨ (t.data.toList.head? = some 48 ∧ (1 < t.data.toList.length ∨ false = true))) by
    rw [zt, HH.out]
    rintro (h | h | ⟨h, _⟩)
    · exact h0 h
    · exact h17 h
    · exact h48 (Option.some.inj h))
  clear h48
  go_enter Tryd.func18, Tryd.ntmps18
  have q0 : ((t.size : Int) == 0) = false := by rw [beq_eq_false_iff_ne]; omega
  have q1 : ¬ (17 : Int) < (t.size : Int) := by omega
  go_wp2_with fail
  go_loopw [5, 6] (fun acc i wr => ∃ (a k : Nat), acc = .int .i64 (a : Int) ∧ i = .int .i64 (k : Int) ∧ k ≤ t.size ∧ a < 10 ^ k ∧ numFrom 0 t.data.toList = numFrom a (t.data.toList.drop k) ∧ wr = w) (fun _ i _ => t.size - (intOf i).toNat)
  case atStart => exact ⟨0, 0, rfl, rfl, Nat.zero_le _, by simp, by simp, rfl⟩
  case round =>
    obtain ⟨a, k, rfl, rfl, hk, ha, hn, rfl⟩ := hrel
    have HN := Lib.hid hn
    have HA := Lib.hid ha
    have ha1 : a < 100000000000000000 := Nat.lt_of_lt_of_le ha (Nat.pow_le_pow_right (n := 10) (by omega) (show k ≤ 17 by omega))
    clear hn ha
    by_cases hk1 : k < t.size
    · have hk2 : k < t.data.toList.length := by omega
      have ea := at_list hk1 hk2
      by_cases lo : t[k].toNat < 48 ∨ 57 < t[k].toNat
      · have HR := Lib.hid (numTail_none (neg := false) (numFrom_bad hk2 HN.out (by rw [ea]; exact lo)))
        clear ea
        rcases lo with lo | lo
        · go_wp2_with fail
          exact bodyPost_ret (v := .tuple #[.int .i64 0, .bool false]) (by simp [results, Tryd.results18, go_sem]) rfl ⟨(by rw [HR.out]), rfl⟩
        · go_wp2_with fail
          exact bodyPost_ret (v := .tuple #[.int .i64 0, .bool false]) (by simp [results, Tryd.results18, go_sem]) rfl ⟨(by rw [HR.out]), rfl⟩
      · have HS := Lib.hid (numFrom_good hk2 HN.out (by rw [ea]; exact lo))
        rw [ea] at HS
        clear ea
        have lo1 : ¬ t[k].toNat < 48 := fun h => lo (Or.inl h)
        have lo2 : ¬ 57 < t[k].toNat := fun h => lo (Or.inr h)
        clear lo
        go_wp2_with fail
        refine ⟨⟨a * 10 + (t[k].toNat - 48), k + 1, by push_cast; congr 1; omega, by push_cast; rfl, by omega, ?_, HS.out, trivial⟩, ?_⟩
        · have := HA.out
          rw [Nat.pow_succ]
          omega
        · simp only [intOf]; omega
    · have hke : k = t.data.toList.length := by omega
      have HE := Lib.hid (numTail_some (neg := false) (t := t.data.toList) (by first | exact HB.out | simpa using HB.out) (numFrom_end (by rw [← hke]; exact HN.out)))
      clear hke
      go_wp2_with fail
      exact bodyPost_ret (v := .tuple #[.int .i64 ((a : Int)), .bool true]) (by simp [results, Tryd.results18, go_sem]) rfl ⟨(by rw [HE.out]; rfl), rfl⟩
set_option maxRecDepth 100000 in
set_option maxHeartbeats 2000000 in
theorem l14Num_neg (s t : ByteArray) (hs : s.size ≤ 1048576) (hs0 : 0 < s.size) (hd0 : ((s[0].toNat : Int) == 45) = true) (ht : s.extract 1 s.size = t) (w : World) :
    Calls Tryd.prog 18 #[.string s] w fun e w' => e = .returned (.tuple #[.int .i64 (numTail true t.data.toList).1, .bool (numTail true t.data.toList).2]) ∧ w = w' := by
  have zt : t.data.toList.length = t.size := by simp
  have zs : t.size ≤ 1048576 := by rw [← ht, ByteArray.size_extract]; omega
  by_cases h0 : t.size = 0
  · have HR := Lib.hid (numTail_bad (neg := true) (Or.inl (zt.trans h0)))
    go_enter Tryd.func18, Tryd.ntmps18
    go_wp2_with fail
    exact bodyPost_ret (v := .tuple #[.int .i64 0, .bool false]) (by simp [results, Tryd.results18, go_sem]) rfl ⟨(by rw [HR.out]), rfl⟩
  have hp : 0 < t.size := by omega
  by_cases h17 : 17 < t.size
  · have HR := Lib.hid (numTail_bad (neg := true) (Or.inr (Or.inl (zt ▸ h17))))
    go_enter Tryd.func18, Tryd.ntmps18
    go_wp2_with fail
    exact bodyPost_ret (v := .tuple #[.int .i64 0, .bool false]) (by simp [results, Tryd.results18, go_sem]) rfl ⟨(by rw [HR.out]), rfl⟩
  have HH := Lib.hid (head_at hp)
  by_cases h48 : t[0] = 48
  · have g0 : ((t[0].toNat : Int) == 48) = true := by rw [h48]; rfl
    have HR := Lib.hid (numTail_bad (neg := true) (t := t.data.toList) (Or.inr (Or.inr ⟨HH.out.trans (congrArg some h48), Or.inr rfl⟩)))
    clear h48
    by_cases h1 : 1 < t.size
    · go_enter Tryd.func18, Tryd.ntmps18
      go_wp2_with fail
      exact bodyPost_ret (v := .tuple #[.int .i64 0, .bool false]) (by simp [results, Tryd.results18, go_sem]) rfl ⟨(by rw [HR.out]), rfl⟩
    · go_enter Tryd.func18, Tryd.ntmps18
      go_wp2_with fail
      exact bodyPost_ret (v := .tuple #[.int .i64 0, .bool false]) (by simp [results, Tryd.results18, go_sem]) rfl ⟨(by rw [HR.out]), rfl⟩
  have g0 : ((t[0].toNat : Int) == 48) = false := by
    have : t[0].toNat ≠ 48 := fun h => h48 (UInt8.toNat_inj.1 h)
    simp; omega
  have HB := Lib.hid (show ¬ (t.data.toList.length = 0 ∨ 17 < t.data.toList.length ∨ (t.data.toList.head? = some 48 ∧ (1 < t.data.toList.length ∨ true = true))) by
    rw [zt, HH.out]
    rintro (h | h | ⟨h, _⟩)
    · exact h0 h
    · exact h17 h
    · exact h48 (Option.some.inj h))
  clear h48
  go_enter Tryd.func18, Tryd.ntmps18
  have q0 : ((t.size : Int) == 0) = false := by rw [beq_eq_false_iff_ne]; omega
  have q1 : ¬ (17 : Int) < (t.size : Int) := by omega
  go_wp2_with fail
  go_loopw [5, 6] (fun acc i wr => ∃ (a k : Nat), acc = .int .i64 (a : Int) ∧ i = .int .i64 (k : Int) ∧ k ≤ t.size ∧ a < 10 ^ k ∧ numFrom 0 t.data.toList = numFrom a (t.data.toList.drop k) ∧ wr = w) (fun _ i _ => t.size - (intOf i).toNat)
  case atStart => exact ⟨0, 0, rfl, rfl, Nat.zero_le _, by simp, by simp, rfl⟩
  case round =>
    obtain ⟨a, k, rfl, rfl, hk, ha, hn, rfl⟩ := hrel
    have HN := Lib.hid hn
    have HA := Lib.hid ha
    have ha1 : a < 100000000000000000 := Nat.lt_of_lt_of_le ha (Nat.pow_le_pow_right (n := 10) (by omega) (show k ≤ 17 by omega))
    clear hn ha
    by_cases hk1 : k < t.size
    · have hk2 : k < t.data.toList.length := by omega
      have ea := at_list hk1 hk2
      by_cases lo : t[k].toNat < 48 ∨ 57 < t[k].toNat
      · have HR := Lib.hid (numTail_none (neg := true) (numFrom_bad hk2 HN.out (by rw [ea]; exact lo)))
        clear ea
        rcases lo with lo | lo
        · go_wp2_with fail
          exact bodyPost_ret (v := .tuple #[.int .i64 0, .bool false]) (by simp [results, Tryd.results18, go_sem]) rfl ⟨(by rw [HR.out]), rfl⟩
        · go_wp2_with fail
          exact bodyPost_ret (v := .tuple #[.int .i64 0, .bool false]) (by simp [results, Tryd.results18, go_sem]) rfl ⟨(by rw [HR.out]), rfl⟩
      · have HS := Lib.hid (numFrom_good hk2 HN.out (by rw [ea]; exact lo))
        rw [ea] at HS
        clear ea
        have lo1 : ¬ t[k].toNat < 48 := fun h => lo (Or.inl h)
        have lo2 : ¬ 57 < t[k].toNat := fun h => lo (Or.inr h)
        clear lo
        go_wp2_with fail
        refine ⟨⟨a * 10 + (t[k].toNat - 48), k + 1, by push_cast; congr 1; omega, by push_cast; rfl, by omega, ?_, HS.out, trivial⟩, ?_⟩
        · have := HA.out
          rw [Nat.pow_succ]
          omega
        · simp only [intOf]; omega
    · have hke : k = t.data.toList.length := by omega
      have HE := Lib.hid (numTail_some (neg := true) (t := t.data.toList) (by first | exact HB.out | simpa using HB.out) (numFrom_end (by rw [← hke]; exact HN.out)))
      clear hke
      go_wp2_with fail
      exact bodyPost_ret (v := .tuple #[.int .i64 (-(a : Int)), .bool true]) (by simp [results, Tryd.results18, go_sem]) rfl ⟨(by rw [HE.out]; rfl), rfl⟩
theorem l14Num_c (s : ByteArray) (hs : s.size ≤ 1048576) (w : World) :
    Calls Tryd.prog 18 #[.string s] w fun e w' => e = .returned (.tuple #[.int .i64 (numV s.data.toList).1, .bool (numV s.data.toList).2]) ∧ w = w' := by
  by_cases h : ∃ h0 : 0 < s.size, s[0] = 45
  · obtain ⟨h0, h1⟩ := h
    have e : numV s.data.toList = numTail true (s.extract 1 s.size).data.toList := by
      rw [numV, if_pos ((head_at h0).trans (congrArg some h1))]
      congr 1
      obtain ⟨⟨l⟩⟩ := s
      cases l with
      | nil => simp [ByteArray.size] at h0
      | cons a r => simp [ByteArray.size]
    rw [e]
    exact l14Num_neg s _ hs h0 (by rw [h1]; rfl) rfl w
  · have e : numV s.data.toList = numTail false s.data.toList := by
      rw [numV, if_neg]
      intro h2
      by_cases h0 : 0 < s.size
      · exact h ⟨h0, Option.some.inj ((head_at h0).symm.trans h2)⟩
      · have : s.data.toList = [] := by
          apply List.eq_nil_of_length_eq_zero
          have hz : s.data.toList.length = s.size := by simp
          rw [hz]
          omega
        rw [this] at h2
        cases h2
    rw [e]
    refine l14Num_pos s hs (fun h0 => ?_) w
    have : s[0].toNat ≠ 45 := fun h2 => h ⟨h0, UInt8.toNat_inj.1 h2⟩
    simp; omega
end Go.Proofs.YtggonihjnipobaaDoor
