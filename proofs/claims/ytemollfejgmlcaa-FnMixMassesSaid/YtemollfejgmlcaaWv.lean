/- Contracts: sets whose answers are moved. Conditions: as stated. -/
import Derived.Test.YtemollfejgmlcaaWs
import Derived.Test.YtemollfejgmlcaaPlainC
namespace Go.Proofs.Ytemollfejgmlcaa
open Go.RowKit

/-- The walk's own form: a set has an answer. -/
def bitB (a : Int) (k : Nat) : Bool := bits .and .i64 (a / 2 ^ k) 1 == 1
/-- The walk's own form: a set with an answer more. -/
def addM (M z : Int) : Int := bits .or .i64 M (wrap64 (2 ^ z.toNat))
theorem addM_range {M z : Int} (hM : 0 ≤ M ∧ M ≤ 15) (hz : 0 ≤ z ∧ z ≤ 3) : 0 ≤ addM M z ∧ addM M z ≤ 15 := by
  have h : z = 0 ∨ z = 1 ∨ z = 2 ∨ z = 3 := by omega
  unfold addM
  rcases h with rfl | rfl | rfl | rfl
  · exact or_range hM (by decide +kernel)
  · exact or_range hM (by decide +kernel)
  · exact or_range hM (by decide +kernel)
  · exact or_range hM (by decide +kernel)
def imgI (a : Int) (zs : List Int) : Nat → Int
  | 0 => 0
  | k + 1 => if bitB a k then addM (imgI a zs k) (zs.getD k 0) else imgI a zs k
def seenI (zs : List Int) : Nat → Int
  | 0 => 0
  | k + 1 => addM (seenI zs k) (zs.getD k 0)
def ordI (s : Int) (n : Nat) (zs : List Int) : Bool := decide (∀ i, i < n → 0 ≤ zs.getD i 0 ∧ zs.getD i 0 < s) && (decide ((n : Int) = s) && decide (seenI zs n = 2 ^ s.toNat - 1))
def ordS (s : Int) (n : Nat) (zs : List Int) : Bool := decide (∀ i, i < n → (0 ≤ zs.getD i 0 ∧ zs.getD i 0 < s) ∧ bitB (seenI zs i) (zs.getD i 0).toNat = false) && decide ((n : Int) = s)
theorem fin_of {s : Nat} {Q : Int → Prop} (h : ∀ k : Fin s, Q ((k.val : Nat) : Int)) {a : Int} (ha : 0 ≤ a ∧ a < (s : Int)) : Q a := by
  have := h ⟨a.toNat, by omega⟩
  rwa [show ((a.toNat : Nat) : Int) = a by omega] at this
theorem ord_same {s : Int} {n : Nat} {zs : List Int} (hs : 1 ≤ s ∧ s ≤ 4) (hl : zs.length = n) : ordS s n zs = ordI s n zs := by
  by_cases hr : ∀ i, i < n → 0 ≤ zs.getD i 0 ∧ zs.getD i 0 < s
  · by_cases hn : (n : Int) = s
    · subst hn
      rcases four hs with h | h | h | h
      · obtain rfl : n = 1 := by omega
        match zs, hl with
        | [a], _ => exact fin_of (s := 1) (Q := fun a => ordS 1 1 [a] = ordI 1 1 [a]) (by decide +kernel) (hr 0 (by omega))
      · obtain rfl : n = 2 := by omega
        match zs, hl with
        | [a, b], _ => exact fin_of (s := 2) (Q := fun a => ∀ b, 0 ≤ b ∧ b < 2 → ordS 2 2 [a, b] = ordI 2 2 [a, b]) (fun a b hb => fin_of (s := 2) (Q := fun b => ordS 2 2 [a, b] = ordI 2 2 [a, b]) (by revert a; decide +kernel) hb) (hr 0 (by omega)) _ (hr 1 (by omega))
      · obtain rfl : n = 3 := by omega
        match zs, hl with
        | [a, b, c], _ =>
          have h3 : ∀ a b c : Fin 3, ordS 3 3 [((a.val : Nat) : Int), ((b.val : Nat) : Int), ((c.val : Nat) : Int)] = ordI 3 3 [((a.val : Nat) : Int), ((b.val : Nat) : Int), ((c.val : Nat) : Int)] := by decide +kernel
          exact fin_of (s := 3) (Q := fun a => ∀ b, 0 ≤ b ∧ b < 3 → ∀ c, 0 ≤ c ∧ c < 3 → ordS 3 3 [a, b, c] = ordI 3 3 [a, b, c])
            (fun a b hb => fin_of (s := 3) (Q := fun b => ∀ c, 0 ≤ c ∧ c < 3 → ordS 3 3 [((a.val : Nat) : Int), b, c] = ordI 3 3 [((a.val : Nat) : Int), b, c])
              (fun b c hc => fin_of (s := 3) (Q := fun c => ordS 3 3 [((a.val : Nat) : Int), ((b.val : Nat) : Int), c] = ordI 3 3 [((a.val : Nat) : Int), ((b.val : Nat) : Int), c]) (fun c => h3 a b c) hc) hb)
            (hr 0 (by omega)) _ (hr 1 (by omega)) _ (hr 2 (by omega))
      · obtain rfl : n = 4 := by omega
        match zs, hl with
        | [a, b, c, d], _ =>
          have h4 : ∀ a b c d : Fin 4, ordS 4 4 [((a.val : Nat) : Int), ((b.val : Nat) : Int), ((c.val : Nat) : Int), ((d.val : Nat) : Int)] = ordI 4 4 [((a.val : Nat) : Int), ((b.val : Nat) : Int), ((c.val : Nat) : Int), ((d.val : Nat) : Int)] := by decide +kernel
          exact fin_of (s := 4) (Q := fun a => ∀ b, 0 ≤ b ∧ b < 4 → ∀ c, 0 ≤ c ∧ c < 4 → ∀ d, 0 ≤ d ∧ d < 4 → ordS 4 4 [a, b, c, d] = ordI 4 4 [a, b, c, d])
            (fun a b hb => fin_of (s := 4) (Q := fun b => ∀ c, 0 ≤ c ∧ c < 4 → ∀ d, 0 ≤ d ∧ d < 4 → ordS 4 4 [((a.val : Nat) : Int), b, c, d] = ordI 4 4 [((a.val : Nat) : Int), b, c, d])
              (fun b c hc => fin_of (s := 4) (Q := fun c => ∀ d, 0 ≤ d ∧ d < 4 → ordS 4 4 [((a.val : Nat) : Int), ((b.val : Nat) : Int), c, d] = ordI 4 4 [((a.val : Nat) : Int), ((b.val : Nat) : Int), c, d])
                (fun c d hd => fin_of (s := 4) (Q := fun d => ordS 4 4 [((a.val : Nat) : Int), ((b.val : Nat) : Int), ((c.val : Nat) : Int), d] = ordI 4 4 [((a.val : Nat) : Int), ((b.val : Nat) : Int), ((c.val : Nat) : Int), d]) (fun d => h4 a b c d) hd) hc) hb)
            (hr 0 (by omega)) _ (hr 1 (by omega)) _ (hr 2 (by omega)) _ (hr 3 (by omega))
    · simp [ordS, ordI, hn]
  · have h1 : decide (∀ i, i < n → 0 ≤ zs.getD i 0 ∧ zs.getD i 0 < s) = false := by simpa using hr
    have h2 : decide (∀ i, i < n → (0 ≤ zs.getD i 0 ∧ zs.getD i 0 < s) ∧ bitB (seenI zs i) (zs.getD i 0).toNat = false) = false := by
      rw [decide_eq_false_iff_not]
      intro h
      exact hr fun i hi => (h i hi).1
    rw [ordS, ordI, h1, h2]
    rfl
theorem ordI_range {s : Int} {n : Nat} {zs : List Int} (h : ordI s n zs = true) : (n : Int) = s ∧ ∀ i, i < n → 0 ≤ zs.getD i 0 ∧ zs.getD i 0 < s := by
  unfold ordI at h
  simp only [Bool.and_eq_true, decide_eq_true_eq] at h
  exact ⟨h.2.1, h.1⟩
theorem ordI_no {s : Int} {n : Nat} {zs : List Int} {k : Nat} (hk : k < n) (h : ¬ (0 ≤ zs.getD k 0 ∧ zs.getD k 0 < s)) : ordI s n zs = false := by
  have h1 : decide (∀ i, i < n → 0 ≤ zs.getD i 0 ∧ zs.getD i 0 < s) = false := by
    rw [decide_eq_false_iff_not]
    intro hh
    exact h (hh k hk)
  rw [ordI, h1]
  rfl
theorem ordS_no {s : Int} {n : Nat} {zs : List Int} {k : Nat} (hk : k < n) (h : ¬ ((0 ≤ zs.getD k 0 ∧ zs.getD k 0 < s) ∧ bitB (seenI zs k) (zs.getD k 0).toNat = false)) : ordS s n zs = false := by
  have h1 : decide (∀ i, i < n → (0 ≤ zs.getD i 0 ∧ zs.getD i 0 < s) ∧ bitB (seenI zs i) (zs.getD i 0).toNat = false) = false := by
    rw [decide_eq_false_iff_not]
    intro hh
    exact h (hh k hk)
  rw [ordS, h1]
  rfl
/-- Whether MoveSet moves, and what. -/
def movB (s a : Int) (n : Nat) (zs : List Int) : Bool := validB s a && ordI s n zs
def movI (s a : Int) (n : Nat) (zs : List Int) : Int := if movB s a n zs then imgI a zs n else 0
end Go.Proofs.Ytemollfejgmlcaa
