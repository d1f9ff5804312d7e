/- Plain laws: the text of a fraction is cut and read back by the library's functions. No program in sight. -/
import Derived.Test.YtggonihjnipobaaDoorSp
namespace Go.Proofs.YtggonihjnipobaaDoor
open Go.RowKit

theorem numFrom_mono (l : List UInt8) : ∀ acc v, numFrom acc l = some v → acc ≤ v := by
  induction l with
  | nil => intro acc v h; simp only [numFrom, Option.some.injEq] at h; omega
  | cons a r ih =>
    intro acc v h
    simp only [numFrom] at h
    split at h
    · cases h
    · have := ih _ _ h
      omega
theorem parse_num (l : List UInt8) : ∀ acc v, numFrom acc l = some v → v ≤ 1000000000 → Lib.parseUint10 acc l = .ok v := by
  induction l with
  | nil => intro acc v h _; simp only [numFrom, Option.some.injEq] at h; rw [Lib.parseUint10, h]
  | cons a r ih =>
    intro acc v h hv
    have hm := numFrom_mono _ _ _ h
    simp only [numFrom] at h
    split at h
    · cases h
    · rename_i hb
      have hm2 := numFrom_mono _ _ _ h
      rw [Lib.parseUint10, if_pos (by omega), if_neg (by omega), if_neg (by omega)]
      exact ih _ _ h hv
theorem parseMag_digits (u : Nat) (h : u ≤ 1000000000) : Lib.parseMag (Lib.decDigits u) = .ok u := by
  rw [Lib.parseMag, if_neg (digits_ne u)]
  exact parse_num _ _ _ (numFrom_digits u) h
/-- strconv.Atoi gives back what strconv.Itoa wrote. -/
theorem atoi_dec (x : Int) (h : -1000000000 ≤ x ∧ x ≤ 1000000000) : Lib.atoiAll (dec x).data.toList = .ok x := by
  by_cases hx : x < 0
  · have e : (dec x).data.toList = 45 :: Lib.decDigits x.natAbs := by simp [dec, Lib.itoa, hx]
    have h45 : (45 : UInt8).toNat = 45 := rfl
    rw [e, Lib.atoiAll]
    simp only [h45, or_true, if_true, parseMag_digits x.natAbs (by omega), not_true, false_and, true_and, if_false]
    rw [if_neg (by omega)]
    congr 1
    omega
  · have e : (dec x).data.toList = Lib.decDigits x.toNat := by simp [dec, Lib.itoa, hx]
    have hd := digits_all x.toNat
    have hn := digits_ne x.toNat
    have hp := parseMag_digits x.toNat (by omega)
    rw [e]
    cases hc : Lib.decDigits x.toNat with
    | nil => exact absurd hc hn
    | cons c r =>
      have hc1 := hd c (by rw [hc]; simp)
      rw [hc] at hp
      rw [Lib.atoiAll]
      have n1 : ¬ c.toNat = 43 := by omega
      have n2 : ¬ c.toNat = 45 := by omega
      simp only [n1, n2, or_self, if_false, hp, not_false_eq_true, true_and, false_and]
      rw [if_neg (by omega)]
      congr 1
      omega
theorem index_none (l : List UInt8) (h : ∀ b ∈ l, b ≠ 47) : Lib.index l [47] = -1 := by
  induction l with
  | nil => rfl
  | cons a r ih =>
    have ha := h a (by simp)
    rw [Lib.index, if_neg (by simp [List.isPrefixOf]; exact fun e => ha e.symm), ih (fun b hb => h b (by simp [hb]))]
    rfl
theorem index_at (l r : List UInt8) (h : ∀ b ∈ l, b ≠ 47) : Lib.index (l ++ 47 :: r) [47] = (l.length : Int) := by
  induction l with
  | nil => simp [Lib.index, List.isPrefixOf]
  | cons a l ih =>
    have ha := h a (by simp)
    rw [List.cons_append, Lib.index, if_neg (by simp [List.isPrefixOf]; exact fun e => ha e.symm), ih (fun b hb => h b (by simp [hb]))]
    rw [if_neg (by simp <;> omega)]
    simp
theorem drop_past (l r : List UInt8) : (l ++ 47 :: r).drop (l.length + 1) = r := by
  induction l with
  | nil => rfl
  | cons a l _ => simp
theorem cut_dec (x : Int) : Lib.cut (dec x).data.toList [47] = ((dec x).data.toList, [], false) := by
  rw [Lib.cut, index_none _ (dec_no_sign x), if_neg (by omega)]
theorem cut_two (x : Int) (r : List UInt8) : Lib.cut ((dec x).data.toList ++ 47 :: r) [47] = ((dec x).data.toList, r, true) := by
  rw [Lib.cut, index_at _ _ (dec_no_sign x), if_pos (by omega), Int.toNat_natCast, List.take_left, show [(47 : UInt8)].length = 1 from rfl, drop_past]
theorem cut_fracText (x y : Int) : Lib.cut (fracText x y).data.toList [47] = if y = 1 then ((dec x).data.toList, [], false) else ((dec x).data.toList, (dec y).data.toList, true) := by
  unfold fracText
  split
  · exact cut_dec x
  · have e : (dec x ++ (⟨#[47]⟩ : ByteArray) ++ dec y).data.toList = (dec x).data.toList ++ 47 :: (dec y).data.toList := by simp
    rw [e, cut_two]
/-- The text says which fraction it is. -/
theorem fracText_inj {x y x' y' : Int} (h : fracB x y = true) (h' : fracB x' y' = true) (e : fracText x y = fracText x' y') : x = x' ∧ y = y' := by
  have c := congrArg (fun s : ByteArray => Lib.cut s.data.toList [47]) e
  simp only [cut_fracText] at c
  have bx := atoi_dec x (frac_bounds h).1
  have bx' := atoi_dec x' (frac_bounds h').1
  have by_ := atoi_dec y (frac_bounds h).2
  have by' := atoi_dec y' (frac_bounds h').2
  split at c <;> split at c
  · have e1 := congrArg (fun t => Lib.atoiAll t.1) c
    simp only [bx, bx'] at e1
    exact ⟨by injection e1, by omega⟩
  · have := congrArg (fun t => t.2.2) c
    cases this
  · have := congrArg (fun t => t.2.2) c
    cases this
  · have e1 := congrArg (fun t => Lib.atoiAll t.1) c
    have e2 := congrArg (fun t => Lib.atoiAll t.2.1) c
    simp only [bx, bx', by_, by'] at e1 e2
    exact ⟨by injection e1, by injection e2⟩
end Go.Proofs.YtggonihjnipobaaDoor
