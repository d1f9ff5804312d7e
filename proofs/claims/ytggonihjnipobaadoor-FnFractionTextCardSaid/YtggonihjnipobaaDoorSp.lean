/- Plain laws: the text of a fraction is cut and read back. No program in sight. -/
import Derived.Test.YtggonihjnipobaaDoorSd
import Derived.Test.YtggonihjnipobaaDoorSe
import Derived.Test.YtggonihjnipobaaDoorSb
import Derived.Lib.AtoiAll
import Derived.Lib.IndexMore
namespace Go.Proofs.YtggonihjnipobaaDoor
open Go.RowKit

theorem digit_byte {d : Nat} (h : d < 10) : (UInt8.ofNat (48 + d)).toNat = 48 + d := by
  simp [UInt8.toNat_ofNat']; omega
theorem digits_all (u : Nat) : ∀ b ∈ Lib.decDigits u, 48 ≤ b.toNat ∧ b.toNat ≤ 57 := by
  induction u using Nat.strongRecOn with
  | ind u ih =>
    intro b hb
    by_cases h : u < 10
    · rw [digits_last h] at hb
      simp only [List.mem_singleton] at hb
      subst hb
      rw [digit_byte h]; omega
    · rw [digits_step h] at hb
      rcases List.mem_append.1 hb with hb | hb
      · exact ih (u / 10) (by omega) b hb
      · simp only [List.mem_singleton] at hb
        subst hb
        rw [digit_byte (by omega)]; omega
theorem numFrom_append (l r : List UInt8) (acc : Nat) : numFrom acc (l ++ r) = (numFrom acc l).bind fun v => numFrom v r := by
  induction l generalizing acc with
  | nil => rfl
  | cons a l ih =>
    simp only [List.cons_append, numFrom]
    split
    · rfl
    · exact ih _
theorem numFrom_digits (u : Nat) : numFrom 0 (Lib.decDigits u) = some u := by
  induction u using Nat.strongRecOn with
  | ind u ih =>
    by_cases h : u < 10
    · rw [digits_last h]
      simp only [numFrom, digit_byte h]
      rw [if_neg (by omega)]
      simp
    · rw [digits_step h, numFrom_append, ih (u / 10) (by omega)]
      simp only [Option.bind_some, numFrom, digit_byte (show u % 10 < 10 by omega)]
      rw [if_neg (by omega)]
      congr 1
      omega
theorem digits_ne (u : Nat) : Lib.decDigits u ≠ [] := by
  by_cases h : u < 10
  · rw [digits_last h]; simp
  · rw [digits_step h]; simp
theorem digits_head (u : Nat) (hu : 0 < u) : (Lib.decDigits u).head? ≠ some 48 := by
  induction u using Nat.strongRecOn with
  | ind u ih =>
    by_cases h : u < 10
    · rw [digits_last h]
      intro e
      have e1 := congrArg UInt8.toNat (Option.some.inj e)
      rw [digit_byte h] at e1
      have : (48 : UInt8).toNat = 48 := rfl
      omega
    · rw [digits_step h, List.head?_append]
      have := ih (u / 10) (by omega) (by omega)
      cases hc : (Lib.decDigits (u / 10)).head? with
      | none => exact absurd (List.head?_eq_none_iff.1 hc) (digits_ne _)
      | some a => rw [hc] at this; simpa using this
theorem digits_len10 (u : Nat) (h : u ≤ 1000000000) : (Lib.decDigits u).length ≤ 10 := by
  rw [Lib.decDigits_length]
  have step : ∀ (k v : Nat), v < 10 ^ (k + 1) → Lib.nDigits v ≤ k + 1 := by
    intro k
    induction k with
    | zero => intro v hv; rw [Lib.nDigits_small (by simpa using hv)]; omega
    | succ k ih =>
      intro v hv
      by_cases h10 : v < 10
      · rw [Lib.nDigits_small h10]; omega
      · rw [Lib.nDigits_big h10]
        have := ih (v / 10) (by rw [Nat.pow_succ] at hv; omega)
        omega
  have := step 9 u (by omega)
  omega
theorem numTail_dec (neg : Bool) (u : Nat) (h : u ≤ 1000000000) (hz : neg = true → 0 < u) : numTail neg (Lib.decDigits u) = (if neg then -(u : Int) else u, true) := by
  refine numTail_some ?_ (numFrom_digits u)
  have h1 := digits_len10 u h
  have h2 : (Lib.decDigits u).length ≠ 0 := fun e => digits_ne u (List.eq_nil_of_length_eq_zero e)
  rintro (h3 | h3 | ⟨h3, h4⟩)
  · exact h2 h3
  · omega
  · by_cases hu : 0 < u
    · exact digits_head u hu h3
    · obtain rfl : u = 0 := by omega
      rcases h4 with h4 | h4
      · rw [digits_last (by omega)] at h4; simp at h4
      · exact absurd (hz h4) (by omega)
theorem head_not {l : List UInt8} {c : UInt8} (h : ∀ b ∈ l, 48 ≤ b.toNat ∧ b.toNat ≤ 57) (hc : c.toNat < 48) : l.head? ≠ some c := by
  intro e
  cases l with
  | nil => cases e
  | cons a r =>
    have := h a (by simp)
    obtain rfl : a = c := Option.some.inj e
    omega
/-- The specification's reader gives the number back. -/
theorem numV_dec (x : Int) (h : -1000000000 ≤ x ∧ x ≤ 1000000000) : numV (dec x).data.toList = (x, true) := by
  by_cases hx : x < 0
  · have e : (dec x).data.toList = 45 :: Lib.decDigits x.natAbs := by simp [dec, Lib.itoa, hx]
    rw [e, numV, if_pos (show (45 :: Lib.decDigits x.natAbs).head? = some (45 : UInt8) from rfl), List.tail_cons, numTail_dec true _ (by omega) (fun _ => by omega)]
    simp only [if_pos]
    congr 1
    omega
  · have e : (dec x).data.toList = Lib.decDigits x.toNat := by simp [dec, Lib.itoa, hx]
    rw [e, numV, if_neg (head_not (digits_all _) (by decide)), numTail_dec false _ (by omega) (fun h => by cases h)]
    simp only [Bool.false_eq_true, if_false]
    congr 1
    omega
theorem dec_no_sign (x : Int) : ∀ b ∈ (dec x).data.toList, b ≠ 47 := by
  intro b hb e
  subst e
  have h47 : (47 : UInt8).toNat = 47 := rfl
  by_cases hx : x < 0
  · have e : (dec x).data.toList = 45 :: Lib.decDigits x.natAbs := by simp [dec, Lib.itoa, hx]
    rw [e] at hb
    rcases List.mem_cons.1 hb with hb | hb
    · exact absurd hb (by decide)
    · have := digits_all _ _ hb; omega
  · have e : (dec x).data.toList = Lib.decDigits x.toNat := by simp [dec, Lib.itoa, hx]
    rw [e] at hb
    have := digits_all _ _ hb; omega
theorem pieces_plain (l : List UInt8) (h : ∀ b ∈ l, b ≠ 47) : ∀ cur, pieces cur l = [cur ++ l] := by
  induction l with
  | nil => intro cur; simp [pieces]
  | cons a r ih =>
    intro cur
    rw [pieces, if_neg (h a (by simp)), ih (fun b hb => h b (by simp [hb]))]
    simp
theorem pieces_two (l r : List UInt8) (h : ∀ b ∈ l, b ≠ 47) : ∀ cur, pieces cur (l ++ 47 :: r) = (cur ++ l) :: pieces [] r := by
  induction l with
  | nil => intro cur; simp [pieces]
  | cons a l ih =>
    intro cur
    rw [List.cons_append, pieces, if_neg (h a (by simp)), ih (fun b hb => h b (by simp [hb]))]
    simp
theorem pieces_dec (x : Int) : pieces [] (dec x).data.toList = [(dec x).data.toList] := by
  rw [pieces_plain _ (dec_no_sign x)]; simp
theorem pieces_fracText (x y : Int) : pieces [] (fracText x y).data.toList = if y = 1 then [(dec x).data.toList] else [(dec x).data.toList, (dec y).data.toList] := by
  unfold fracText
  split
  · exact pieces_dec x
  · have e : (dec x ++ (⟨#[47]⟩ : ByteArray) ++ dec y).data.toList = (dec x).data.toList ++ 47 :: (dec y).data.toList := by simp
    rw [e, pieces_two _ _ (dec_no_sign x), pieces_dec]
    simp
end Go.Proofs.YtggonihjnipobaaDoor
