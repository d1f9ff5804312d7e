/- Plain words of chapter 3: masses: what its functions compute. No program here. No condition. -/
import Derived.Test.YtihbfhjfceabnaaPlainA
import Derived.Test.YtihbfhjfceabnaaPlainB
namespace Go.Proofs.Ytihbfhjfceabnaa
open Go.RowKit

def inB (lo hi x : Int) : Bool := decide (lo ≤ x ∧ x ≤ hi)
/-- All parts are from 0 to the greatest. -/
def partsB (most : Int) (zs : List Int) : Bool := zs.all (inB 0 most)
/-- The sum of all parts. -/
def whole (zs : List Int) : Int := zs.sum
/-- The reference's sum: -1 if a part is out of its range. -/
def sumM (most : Int) (zs : List Int) : Int := if partsB most zs then whole zs else -1
def lenB (s : Int) (zs : List Int) : Bool := decide ((zs.length : Int) = 2 ^ s.toNat)
/-- A valid mass. -/
def massB (s : Int) (zs : List Int) : Bool := sizeB s && (lenB s zs && (partsB 1000000 zs && (inB 1 1000000 (whole zs) && ((gcdL zs : Int) == 1))))

theorem inB_iff {lo hi x : Int} : inB lo hi x = true ↔ lo ≤ x ∧ x ≤ hi := by simp [inB]
theorem inB_no {lo hi x : Int} : inB lo hi x = false ↔ ¬ (lo ≤ x ∧ x ≤ hi) := by unfold inB; rw [decide_eq_false_iff_not]
theorem getD_mem {zs : List Int} {k : Nat} (h : k < zs.length) : zs.getD k 0 ∈ zs := by
  rw [List.getD_eq_getElem?_getD, List.getElem?_eq_getElem h, Option.getD_some]
  exact List.getElem_mem h
theorem partsB_get {most : Int} {zs : List Int} (h : partsB most zs = true) {k : Nat} (hk : k < zs.length) : 0 ≤ zs.getD k 0 ∧ zs.getD k 0 ≤ most :=
  inB_iff.1 (List.all_eq_true.1 h _ (getD_mem hk))
theorem partsB_no {most : Int} {zs : List Int} {k : Nat} (hk : k < zs.length) (h : inB 0 most (zs.getD k 0) = false) : partsB most zs = false := by
  unfold partsB
  rw [List.all_eq_false]
  exact ⟨_, getD_mem hk, by rw [h]; decide⟩
theorem partsB_yes {most : Int} {zs : List Int} (h : ∀ k, k < zs.length → inB 0 most (zs.getD k 0) = true) : partsB most zs = true := by
  unfold partsB
  rw [List.all_eq_true]
  intro x hx
  obtain ⟨i, hi, rfl⟩ := List.getElem_of_mem hx
  have := h i hi
  rwa [List.getD_eq_getElem?_getD, List.getElem?_eq_getElem hi, Option.getD_some] at this
theorem take_snoc_int {zs : List Int} {k : Nat} (h : k < zs.length) : zs.take (k + 1) = zs.take k ++ [zs.getD k 0] := by
  rw [List.take_succ_eq_append_getElem h, List.getD_eq_getElem?_getD, List.getElem?_eq_getElem h, Option.getD_some]
theorem whole_snoc (zs : List Int) (x : Int) : whole (zs ++ [x]) = whole zs + x := by simp [whole]
theorem whole_take {zs : List Int} {k : Nat} (h : k < zs.length) : whole (zs.take (k + 1)) = whole (zs.take k) + zs.getD k 0 := by
  rw [take_snoc_int h, whole_snoc]
theorem whole_nn {zs : List Int} (h : ∀ x ∈ zs, 0 ≤ x) : 0 ≤ whole zs := by
  induction zs with
  | nil => simp [whole]
  | cons a t ih =>
    have h1 := h a (by simp)
    have h2 := ih (fun x hx => h x (by simp [hx]))
    unfold whole at *
    rw [List.sum_cons]
    omega
theorem whole_le {zs : List Int} {M : Int} (h : ∀ x ∈ zs, x ≤ M) : whole zs ≤ M * zs.length := by
  induction zs with
  | nil => simp [whole]
  | cons a t ih =>
    have h1 := h a (by simp)
    have h2 := ih (fun x hx => h x (by simp [hx]))
    unfold whole at *
    rw [List.sum_cons, List.length_cons]
    have : M * ((t.length + 1 : Nat) : Int) = M * (t.length : Int) + M := by
      rw [Int.natCast_add, Int.mul_add]; simp
    omega
theorem partsB_mem {most : Int} {zs : List Int} (h : partsB most zs = true) : ∀ x ∈ zs, 0 ≤ x ∧ x ≤ most := fun x hx => inB_iff.1 (List.all_eq_true.1 h x hx)
theorem whole_mem {zs : List Int} (h : ∀ x ∈ zs, 0 ≤ x) : ∀ x ∈ zs, x ≤ whole zs := by
  induction zs with
  | nil => simp
  | cons a t ih =>
    intro x hx
    have hn := whole_nn (zs := t) (fun y hy => h y (by simp [hy]))
    have h0 := h a (by simp)
    have e : whole (a :: t) = a + whole t := by simp [whole]
    rw [e]
    rcases List.mem_cons.1 hx with rfl | hx
    · omega
    · have := ih (fun y hy => h y (by simp [hy])) x hx
      omega

/-- The parts brought to lowest terms. -/
def madeL (zs : List Int) : List Int := zs.map fun x => x / (gcdL zs : Int)
def madeB (s : Int) (zs : List Int) : Bool := (!((gcdL zs : Int) == 0)) && massB s (madeL zs)
/-- A list that is kept only if the flag says so. -/
def selL (b : Bool) (zs : List Int) : List Int := if b then zs else []
theorem selL_true (zs : List Int) : selL true zs = zs := rfl
theorem selL_false (zs : List Int) : selL false zs = [] := rfl
/-- All numbers are not negative, and small. -/
def Nns (zs : List Int) : Prop := ∀ x ∈ zs, 0 ≤ x ∧ x ≤ 4611686018427387904
theorem Nns.get {zs : List Int} (h : Nns zs) (i : Nat) : 0 ≤ zs.getD i 0 ∧ zs.getD i 0 ≤ 4611686018427387904 := by
  rcases Nat.lt_or_ge i zs.length with hi | hi
  · exact h _ (getD_mem hi)
  · rw [List.getD_eq_getElem?_getD, List.getElem?_eq_none hi, Option.getD_none]
    omega
theorem Nns.small {zs : List Int} (h : Nns zs) (i : Nat) : Small (zs.getD i 0) := by
  have := h.get i
  unfold Small
  omega
theorem nns_of_parts {zs : List Int} {most : Int} (h : partsB most zs = true) (hm : most ≤ 4611686018427387904) : Nns zs := fun x hx => by
  have := partsB_mem h x hx
  omega
theorem foldl_gcd (zs : List Int) (d : Nat) : zs.foldl (fun d x => Int.gcd (d : Int) x) d = Nat.gcd d (gcdL zs) := by
  induction zs generalizing d with
  | nil => simp [gcdL]
  | cons a t ih =>
    unfold gcdL
    rw [List.foldl_cons, List.foldl_cons, ih, ih]
    unfold Int.gcd
    simp only [Int.natAbs_natCast, Nat.gcd_zero_left]
    rw [Nat.gcd_assoc]
theorem gcdL_cons (a : Int) (t : List Int) : gcdL (a :: t) = Nat.gcd a.natAbs (gcdL t) := by
  show (a :: t).foldl (fun d x => Int.gcd (d : Int) x) 0 = _
  rw [List.foldl_cons, foldl_gcd]
  unfold Int.gcd
  simp
theorem gcdL_dvd {zs : List Int} : ∀ x ∈ zs, (gcdL zs : Int) ∣ x := by
  induction zs with
  | nil => simp
  | cons a t ih =>
    intro x hx
    rw [gcdL_cons]
    rcases List.mem_cons.1 hx with rfl | hx
    · rw [Int.ofNat_dvd_left]
      exact Nat.gcd_dvd_left _ _
    · exact Int.dvd_trans (Int.natCast_dvd_natCast.2 (Nat.gcd_dvd_right _ _)) (ih x hx)
theorem gcdL_greatest {zs : List Int} {d : Nat} (h : ∀ x ∈ zs, (d : Int) ∣ x) : d ∣ gcdL zs := by
  induction zs with
  | nil => simp [gcdL]
  | cons a t ih =>
    rw [gcdL_cons]
    exact Nat.dvd_gcd (Int.ofNat_dvd_left.1 (h a (by simp))) (ih fun x hx => h x (by simp [hx]))
theorem gcdL_zero_iff {zs : List Int} : gcdL zs = 0 ↔ ∀ x ∈ zs, x = 0 := by
  constructor
  · intro h x hx
    have := gcdL_dvd x hx
    rw [h] at this
    exact Int.zero_dvd.1 this
  · intro h
    have : (0 : Nat) ∣ gcdL zs := gcdL_greatest fun x hx => by rw [h x hx]; exact Int.dvd_zero _
    exact Nat.eq_zero_of_zero_dvd this
theorem gcdL_le {zs : List Int} {M : Int} (h : ∀ x ∈ zs, 0 ≤ x ∧ x ≤ M) (hM : 0 ≤ M) : (gcdL zs : Int) ≤ M := by
  by_cases h0 : ∀ x ∈ zs, x = 0
  · rw [gcdL_zero_iff.2 h0]
    exact hM
  · simp only [Classical.not_forall] at h0
    obtain ⟨x, hx, hne⟩ := h0
    have h1 := Int.le_of_dvd (by have := h x hx; omega) (gcdL_dvd x hx)
    have := h x hx
    omega
theorem gcdL_take_le {zs : List Int} (h : Nns zs) (k : Nat) : (gcdL (zs.take k) : Int) ≤ 4611686018427387904 :=
  gcdL_le (fun x hx => h x (List.mem_of_mem_take hx)) (by omega)
theorem madeL_len (zs : List Int) : (madeL zs).length = zs.length := by simp [madeL]
theorem madeL_get (zs : List Int) (k : Nat) (h : k < zs.length) : (madeL zs).getD k 0 = zs.getD k 0 / (gcdL zs : Int) := by
  unfold madeL
  rw [List.getD_eq_getElem?_getD, List.getElem?_map, List.getElem?_eq_getElem h, List.getD_eq_getElem?_getD, List.getElem?_eq_getElem h]
  rfl
theorem massB_of {s : Int} {zs : List Int} (h : massB s zs = true) : (1 ≤ s ∧ s ≤ 4) ∧ (zs.length : Int) = 2 ^ s.toNat ∧ partsB 1000000 zs = true ∧ (1 ≤ whole zs ∧ whole zs ≤ 1000000) ∧ gcdL zs = 1 := by
  unfold massB lenB at h
  simp only [Bool.and_eq_true, decide_eq_true_eq, beq_iff_eq, sizeB_iff, inB_iff] at h
  obtain ⟨h1, h2, h3, h4, h5⟩ := h
  exact ⟨h1, h2, h3, h4, by omega⟩
theorem two_pow_cases {s : Int} (h : 1 ≤ s ∧ s ≤ 4) : (s = 1 ∧ (2 : Int) ^ s.toNat = 2) ∨ (s = 2 ∧ (2 : Int) ^ s.toNat = 4) ∨ (s = 3 ∧ (2 : Int) ^ s.toNat = 8) ∨ (s = 4 ∧ (2 : Int) ^ s.toNat = 16) := by
  rcases four h with rfl | rfl | rfl | rfl
  · exact .inl ⟨rfl, rfl⟩
  · exact .inr (.inl ⟨rfl, rfl⟩)
  · exact .inr (.inr (.inl ⟨rfl, rfl⟩))
  · exact .inr (.inr (.inr ⟨rfl, rfl⟩))
theorem massB_len {s : Int} {zs : List Int} (h : massB s zs = true) : 2 ≤ zs.length ∧ zs.length ≤ 16 := by
  obtain ⟨h1, h2, _⟩ := massB_of h
  rcases two_pow_cases h1 with ⟨_, e⟩ | ⟨_, e⟩ | ⟨_, e⟩ | ⟨_, e⟩ <;> omega
/-- The sets that have a part. -/
def focal (zs : List Int) (k : Nat) : List Int := ((List.range k).filter fun j => zs.getD j 0 != 0).map fun (j : Nat) => (j : Int)
def focalI (s : Int) (zs : List Int) : List Int := if massB s zs then focal zs zs.length else []
theorem focal_succ (zs : List Int) (k : Nat) : focal zs (k + 1) = focal zs k ++ (if zs.getD k 0 != 0 then [(k : Int)] else []) := by
  unfold focal
  rw [List.range_succ, List.filter_append, List.map_append]
  congr 1
  simp only [List.filter_cons, List.filter_nil]
  split <;> rfl
theorem focal_yes {zs : List Int} {k : Nat} (h : zs.getD k 0 ≠ 0) : focal zs (k + 1) = focal zs k ++ [(k : Int)] := by rw [focal_succ, if_pos (by simpa using h)]
theorem focal_no {zs : List Int} {k : Nat} (h : zs.getD k 0 = 0) : focal zs (k + 1) = focal zs k := by
  rw [focal_succ, if_neg (by simp [List.getD_eq_getElem?_getD] at h ⊢; exact h)]; simp
theorem focal_len (zs : List Int) (k : Nat) : (focal zs k).length ≤ k := by
  unfold focal
  rw [List.length_map]
  exact Nat.le_trans (List.length_filter_le _ _) (by simp)
theorem focal_mem {zs : List Int} {k : Nat} : ∀ x ∈ focal zs k, ∃ j : Nat, x = (j : Int) ∧ j < k ∧ zs.getD j 0 ≠ 0 := by
  intro x hx
  unfold focal at hx
  obtain ⟨j, hj, rfl⟩ := List.mem_map.1 hx
  obtain ⟨h1, h2⟩ := List.mem_filter.1 hj
  exact ⟨j, rfl, List.mem_range.1 h1, by simpa using h2⟩
theorem focal_of {zs : List Int} {k j : Nat} (hj : j < k) (h : zs.getD j 0 ≠ 0) : (j : Int) ∈ focal zs k := by
  unfold focal
  exact List.mem_map.2 ⟨j, List.mem_filter.2 ⟨List.mem_range.2 hj, by simpa using h⟩, rfl⟩
theorem focal_fits {zs : List Int} {k : Nat} (hk : k ≤ 1048576) : ∀ x ∈ focal zs k, Fits x := by
  intro x hx
  obtain ⟨j, rfl, hj, _⟩ := focal_mem x hx
  unfold Fits
  omega
/-- One answer alone. -/
def oneB (a : Int) : Bool := cnt a == 1
def normalB (s : Int) (zs : List Int) : Bool := massB s zs && (zs.getD 0 0 == 0)
def chanceB (s : Int) (zs : List Int) : Bool := massB s zs && (focal zs zs.length).all oneB
/-- Of two sets one has the other. -/
def compB (a b : Int) : Bool := (lessI a b == 0) || (lessI b a == 0)
def nestL (zs : List Int) : Bool := zs.all fun a => zs.all fun b => compB a b
def nestedB (s : Int) (zs : List Int) : Bool := massB s zs && nestL (focal zs zs.length)
def wholeI (s : Int) (zs : List Int) : Int := if massB s zs then whole zs else -1
def sureL (s a : Int) : List Int := (List.replicate ((2 : Int) ^ s.toNat).toNat 0).set a.toNat 1
theorem all_no {p : Int → Bool} {F : List Int} {k : Nat} (hk : k < F.length) (h : p (F.getD k 0) = false) : F.all p = false := by
  rw [List.all_eq_false]
  exact ⟨_, getD_mem hk, by rw [h]; decide⟩
theorem all_yes {p : Int → Bool} {F : List Int} (h : ∀ k, k < F.length → p (F.getD k 0) = true) : F.all p = true := by
  rw [List.all_eq_true]
  intro x hx
  obtain ⟨i, hi, rfl⟩ := List.getElem_of_mem hx
  have := h i hi
  rwa [List.getD_eq_getElem?_getD, List.getElem?_eq_getElem hi, Option.getD_some] at this
theorem focal_get {zs : List Int} {n k : Nat} (hk : k < (focal zs n).length) : ∃ j : Nat, (focal zs n).getD k 0 = (j : Int) ∧ j < n := by
  obtain ⟨j, e, h1, _⟩ := focal_mem _ (getD_mem hk)
  exact ⟨j, e, h1⟩
theorem focal_range {zs : List Int} {n k : Nat} (hn : n ≤ 16) (hk : k < (focal zs n).length) : 0 ≤ (focal zs n).getD k 0 ∧ (focal zs n).getD k 0 ≤ 15 := by
  obtain ⟨j, e, h1⟩ := focal_get hk
  rw [e]
  omega
theorem fin16' {Q : Int → Prop} (h : ∀ k : Fin 16, Q ((k.val : Nat) : Int)) {a : Int} (ha : 0 ≤ a ∧ a ≤ 15) : Q a := by
  have := h ⟨a.toNat, by omega⟩
  rwa [show ((a.toNat : Nat) : Int) = a by omega] at this
theorem fin16b' {Q : Int → Int → Prop} (h : ∀ k j : Fin 16, Q ((k.val : Nat) : Int) ((j.val : Nat) : Int)) {a b : Int} (ha : 0 ≤ a ∧ a ≤ 15) (hb : 0 ≤ b ∧ b ≤ 15) : Q a b := by
  have := h ⟨a.toNat, by omega⟩ ⟨b.toNat, by omega⟩
  rwa [show ((a.toNat : Nat) : Int) = a by omega, show ((b.toNat : Nat) : Int) = b by omega] at this
theorem one_test {a : Int} (ha : 0 ≤ a ∧ a ≤ 15) : ((a == 0) || (bits .and .i64 a (a - 1) != 0)) = !oneB a := fin16' (Q := fun a => ((a == 0) || (bits .and .i64 a (a - 1) != 0)) = !oneB a) (by decide +kernel) ha
theorem comp_test {a b : Int} (ha : 0 ≤ a ∧ a ≤ 15) (hb : 0 ≤ b ∧ b ≤ 15) : ((bits .and .i64 a b != a) && (bits .and .i64 a b != b)) = !compB a b := fin16b' (Q := fun a b => ((bits .and .i64 a b != a) && (bits .and .i64 a b != b)) = !compB a b) (by decide +kernel) ha hb
theorem comp_symm (a b : Int) : compB a b = compB b a := by unfold compB; rw [Bool.or_comm]
theorem comp_self {a : Int} (ha : 0 ≤ a ∧ a ≤ 15) : compB a a = true := fin16' (Q := fun a => compB a a = true) (by decide +kernel) ha
theorem nestL_no {F : List Int} {k l : Nat} (hk : k < F.length) (hl : l < F.length) (h : compB (F.getD k 0) (F.getD l 0) = false) : nestL F = false := by
  unfold nestL
  exact all_no hk (all_no hl h)
theorem nestL_yes {F : List Int} (h : ∀ k, k < F.length → ∀ l, l < F.length → compB (F.getD k 0) (F.getD l 0) = true) : nestL F = true := by
  unfold nestL
  exact all_yes fun k hk => all_yes fun l hl => h k hk l hl
/-- It is enough to look at the pairs in which the first stands behind the second. -/
theorem nestL_half {F : List Int} (hr : ∀ k, k < F.length → 0 ≤ F.getD k 0 ∧ F.getD k 0 ≤ 15) (h : ∀ k, k < F.length → ∀ l, l < k → compB (F.getD k 0) (F.getD l 0) = true) : nestL F = true := by
  refine nestL_yes fun k hk l hl => ?_
  rcases Nat.lt_trichotomy l k with h1 | h1 | h1
  · exact h k hk l h1
  · rw [h1]
    exact comp_self (hr k hk)
  · rw [comp_symm]
    exact h l hl k h1
/-- The reference's way to ask whether single answers alone have parts. -/
theorem chance_no {zs : List Int} {n k : Nat} (hk : k < n) (h : zs.getD k 0 ≠ 0) (ho : oneB (k : Int) = false) : (focal zs n).all oneB = false := by
  rw [List.all_eq_false]
  exact ⟨_, focal_of hk h, by rw [ho]; decide⟩
theorem chance_yes {zs : List Int} {n : Nat} (h : ∀ k, k < n → zs.getD k 0 ≠ 0 → oneB (k : Int) = true) : (focal zs n).all oneB = true := by
  rw [List.all_eq_true]
  intro x hx
  obtain ⟨j, rfl, h1, h2⟩ := focal_mem x hx
  exact h j h1 h2
/-- Parts of which a mass can be made. -/
def mkB (s : Int) (zs : List Int) : Bool := sizeB s && (lenB s zs && (partsB 1000000000 zs && madeB s zs))
/-- A fraction from 0 to 1. -/
def shB (p q : Int) : Bool := fracB p q && inB 0 q p
/-- The share of a set. -/
def shareB (s : Int) (zs : List Int) (a : Int) : Bool := massB s zs && setB s a
theorem low_share {x W : Int} (hx : 0 ≤ x ∧ x ≤ 1000000) (hW : 1 ≤ W ∧ W ≤ 1000000) : lowB x W = true := by
  have hy := lowY_pos (a := x) (b := W) (by omega)
  have hg := low_gcd (a := x) (b := W) (by omega)
  have e : dv x W = (Int.gcd x W : Int) := by unfold dv; rw [if_neg (by omega)]
  have hp := gcd_pos_right (a := x) (b := W) (by omega)
  have h1 : lowX x W = x / (Int.gcd x W : Int) := by unfold lowX; rw [e, Int.tdiv_eq_ediv_of_nonneg hx.1]
  have h2 : lowY x W = W / (Int.gcd x W : Int) := by unfold lowY; rw [e, Int.tdiv_eq_ediv_of_nonneg (by omega)]
  have h3 : x / (Int.gcd x W : Int) ≤ x := Int.ediv_le_self _ hx.1
  have h4 : W / (Int.gcd x W : Int) ≤ W := Int.ediv_le_self _ (by omega)
  have h5 : 0 ≤ x / (Int.gcd x W : Int) := Int.ediv_nonneg hx.1 (by omega)
  unfold lowB
  exact fracB_iff.2 ⟨by rw [h1]; omega, ⟨by omega, by rw [h2]; omega⟩, hg⟩
end Go.Proofs.Ytihbfhjfceabnaa
