/- Plain words of chapter 3: a mass whose answers are moved: the parts stand in another order. No program here. No condition but those stated. -/
import Derived.Test.YtemollfejgmlcaaPlainF
import Derived.Test.YtemollfejgmlcaaWv
namespace Go.Proofs.Ytemollfejgmlcaa
open Go.RowKit

/-- Where a set goes. -/
def imgN (ts : List Int) (n k : Nat) : Nat := (imgI (k : Int) ts n).toNat
def permB (s : Nat) (ts : List Int) : Bool := ((List.range (2 ^ s)).map (imgN ts s)).isPerm (List.range (2 ^ s))
def PermOk (s : Int) (n : Nat) (ts : List Int) : Prop := ordI s n ts = true → permB n ts = true
instance (s : Int) (n : Nat) (ts : List Int) : Decidable (PermOk s n ts) := by unfold PermOk; infer_instance
theorem perm_ok {s : Int} {n : Nat} {ts : List Int} (hs : 1 ≤ s ∧ s ≤ 4) (hl : ts.length = n) (h : ordI s n ts = true) : permB n ts = true := by
  obtain ⟨e1, e2⟩ := ordI_range h
  subst e1
  rcases four hs with h4 | h4 | h4 | h4
  · obtain rfl : n = 1 := by omega
    match ts, hl with
    | [a], _ => exact fin_of (s := 1) (Q := fun a => PermOk 1 1 [a]) (by decide +kernel) (e2 0 (by omega)) h
  · obtain rfl : n = 2 := by omega
    match ts, hl with
    | [a, b], _ => exact fin_of (s := 2) (Q := fun a => ∀ b, 0 ≤ b ∧ b < 2 → PermOk 2 2 [a, b]) (fun a b hb => fin_of (s := 2) (Q := fun b => PermOk 2 2 [a, b]) (by revert a; decide +kernel) hb) (e2 0 (by omega)) _ (e2 1 (by omega)) h
  · obtain rfl : n = 3 := by omega
    match ts, hl with
    | [a, b, c], _ =>
      have h3 : ∀ a b c : Fin 3, PermOk 3 3 [((a.val : Nat) : Int), ((b.val : Nat) : Int), ((c.val : Nat) : Int)] := by decide +kernel
      exact fin_of (s := 3) (Q := fun a => ∀ b, 0 ≤ b ∧ b < 3 → ∀ c, 0 ≤ c ∧ c < 3 → PermOk 3 3 [a, b, c])
        (fun a b hb => fin_of (s := 3) (Q := fun b => ∀ c, 0 ≤ c ∧ c < 3 → PermOk 3 3 [((a.val : Nat) : Int), b, c])
          (fun b c hc => fin_of (s := 3) (Q := fun c => PermOk 3 3 [((a.val : Nat) : Int), ((b.val : Nat) : Int), c]) (fun c => h3 a b c) hc) hb)
        (e2 0 (by omega)) _ (e2 1 (by omega)) _ (e2 2 (by omega)) h
  · obtain rfl : n = 4 := by omega
    match ts, hl with
    | [a, b, c, d], _ =>
      have h4 : ∀ a b c d : Fin 4, PermOk 4 4 [((a.val : Nat) : Int), ((b.val : Nat) : Int), ((c.val : Nat) : Int), ((d.val : Nat) : Int)] := by decide +kernel
      exact fin_of (s := 4) (Q := fun a => ∀ b, 0 ≤ b ∧ b < 4 → ∀ c, 0 ≤ c ∧ c < 4 → ∀ d, 0 ≤ d ∧ d < 4 → PermOk 4 4 [a, b, c, d])
        (fun a b hb => fin_of (s := 4) (Q := fun b => ∀ c, 0 ≤ c ∧ c < 4 → ∀ d, 0 ≤ d ∧ d < 4 → PermOk 4 4 [((a.val : Nat) : Int), b, c, d])
          (fun b c hc => fin_of (s := 4) (Q := fun c => ∀ d, 0 ≤ d ∧ d < 4 → PermOk 4 4 [((a.val : Nat) : Int), ((b.val : Nat) : Int), c, d])
            (fun c d hd => fin_of (s := 4) (Q := fun d => PermOk 4 4 [((a.val : Nat) : Int), ((b.val : Nat) : Int), ((c.val : Nat) : Int), d]) (fun d => h4 a b c d) hd) hc) hb)
        (e2 0 (by omega)) _ (e2 1 (by omega)) _ (e2 2 (by omega)) _ (e2 3 (by omega)) h
/-- The moved sets are all sets, each once. -/
structure Moves (f : Nat → Nat) (n : Nat) : Prop where
  perm : ((List.range n).map f).Perm (List.range n)
theorem Moves.lt {f : Nat → Nat} {n k : Nat} (h : Moves f n) (hk : k < n) : f k < n :=
  List.mem_range.1 (h.perm.mem_iff.1 (List.mem_map.2 ⟨k, List.mem_range.2 hk, rfl⟩))
theorem Moves.inj {f : Nat → Nat} {n i j : Nat} (h : Moves f n) (hi : i < n) (hj : j < n) (e : f i = f j) : i = j := by
  have hn : ((List.range n).map f).Nodup := h.perm.nodup_iff.2 List.nodup_range
  have hp := List.pairwise_iff_getElem.1 hn
  rcases Nat.lt_trichotomy i j with h1 | h1 | h1
  · exact absurd (by rw [List.getElem_map, List.getElem_map, List.getElem_range, List.getElem_range]; exact e) (hp i j (by simpa using hi) (by simpa using hj) h1)
  · exact h1
  · exact absurd (by rw [List.getElem_map, List.getElem_map, List.getElem_range, List.getElem_range]; exact e.symm) (hp j i (by simpa using hj) (by simpa using hi) h1)
theorem moves_of {s : Int} {n : Nat} {ts : List Int} (hs : 1 ≤ s ∧ s ≤ 4) (hl : ts.length = n) (h : ordI s n ts = true) : Moves (imgN ts n) (2 ^ n) :=
  ⟨List.isPerm_iff.1 (perm_ok hs hl h)⟩
/-- The parts after so many sets were moved. -/
def movF (zs : List Int) (f : Nat → Nat) (n : Nat) : Nat → List Int
  | 0 => List.replicate n 0
  | k + 1 => (movF zs f n k).set (f k) (zs.getD k 0)
theorem movF_len (zs : List Int) (f : Nat → Nat) (n k : Nat) : (movF zs f n k).length = n := by
  induction k with
  | zero => simp [movF]
  | succ k ih => rw [movF, List.length_set, ih]
theorem movF_get {zs : List Int} {f : Nat → Nat} {n : Nat} (h : Moves f n) : ∀ k, k ≤ n → (∀ i, i < k → (movF zs f n k).getD (f i) 0 = zs.getD i 0) ∧ (∀ j, j < n → (∀ i, i < k → f i ≠ j) → (movF zs f n k).getD j 0 = 0) := by
  intro k
  induction k with
  | zero =>
    intro _
    refine ⟨fun i hi => absurd hi (by omega), fun j _ _ => ?_⟩
    rw [movF, getD_replicate]
  | succ k ih =>
    intro hk
    obtain ⟨h1, h2⟩ := ih (by omega)
    have hf := h.lt (k := k) (by omega)
    refine ⟨fun i hi => ?_, fun j hj hne => ?_⟩
    · rw [movF, getD_set (by rw [movF_len]; exact hf)]
      by_cases e : f i = f k
      · rw [if_pos e, h.inj (by omega) (by omega) e]
      · rw [if_neg e]
        refine h1 i ?_
        rcases Nat.lt_or_ge i k with h3 | h3
        · exact h3
        · exact absurd (congrArg f (show i = k by omega)) e
    · rw [movF, getD_set (by rw [movF_len]; exact hf), if_neg (fun e => hne k (by omega) e.symm)]
      exact h2 j hj fun i hi => hne i (by omega)
/-- What the program adds to is still 0. -/
theorem movF_free {zs : List Int} {f : Nat → Nat} {n k : Nat} (h : Moves f n) (hk : k < n) : (movF zs f n k).getD (f k) 0 = 0 :=
  (movF_get h k (by omega)).2 _ (h.lt hk) fun i hi e => by have := h.inj (by omega) hk e; omega
def movL (zs : List Int) (f : Nat → Nat) : List Int := movF zs f zs.length zs.length
theorem map_getD_range (xs : List Int) : (List.range xs.length).map (fun j => xs.getD j 0) = xs := by
  apply ext_getD
  · simp
  · intro k hk
    rw [getD_range_map _ (by simpa using hk)]
theorem movL_perm {zs : List Int} {f : Nat → Nat} (h : Moves f zs.length) : (movL zs f).Perm zs := by
  have e1 : (List.range zs.length).map (fun j => (movL zs f).getD j 0) = movL zs f := by
    have := map_getD_range (movL zs f)
    unfold movL at this ⊢
    rwa [movF_len] at this
  have e2 : ((List.range zs.length).map f).map (fun j => (movL zs f).getD j 0) = zs := by
    rw [List.map_map]
    conv => rhs; rw [← map_getD_range zs]
    apply List.map_congr_left
    intro i hi
    exact (movF_get h _ (Nat.le_refl _)).1 i (List.mem_range.1 hi)
  have := (h.perm.map (fun j => (movL zs f).getD j 0)).symm
  rwa [e1, e2] at this
theorem whole_perm {xs ys : List Int} (h : xs.Perm ys) : whole xs = whole ys := by
  unfold whole
  induction h with
  | nil => rfl
  | cons x _ ih => rw [List.sum_cons, List.sum_cons, ih]
  | swap x y l => rw [List.sum_cons, List.sum_cons, List.sum_cons, List.sum_cons]; omega
  | trans _ _ ih1 ih2 => rw [ih1, ih2]
theorem gcdL_perm {xs ys : List Int} (h : xs.Perm ys) : gcdL xs = gcdL ys :=
  Nat.dvd_antisymm (gcdL_greatest fun x hx => gcdL_dvd x (h.mem_iff.2 hx)) (gcdL_greatest fun x hx => gcdL_dvd x (h.mem_iff.1 hx))
theorem parts_perm {most : Int} {xs ys : List Int} (h : xs.Perm ys) (hp : partsB most ys = true) : partsB most xs = true := by
  unfold partsB
  rw [List.all_eq_true]
  intro x hx
  exact List.all_eq_true.1 hp x (h.mem_iff.1 hx)
theorem mass_perm {s : Int} {xs ys : List Int} (h : xs.Perm ys) (hm : massB s ys = true) : massB s xs = true := by
  obtain ⟨h1, h2, h3, h4, h5⟩ := massB_of hm
  unfold massB lenB
  rw [sizeB_yes h1, h.length_eq, decide_eq_true h2, parts_perm h h3, whole_perm h, inB_iff.2 h4, gcdL_perm h, h5]
  rfl
/-- A valid mass is made of its own parts. -/
theorem made_self {s : Int} {zs : List Int} (hm : massB s zs = true) : madeB s zs = true ∧ madeL zs = zs := by
  have h5 := (massB_of hm).2.2.2.2
  have e : madeL zs = zs := by
    unfold madeL
    rw [h5]
    simp
  refine ⟨?_, e⟩
  unfold madeB
  rw [e, hm, h5]
  rfl
def movMB (s : Int) (zs ts : List Int) : Bool := massB s zs && ordI s ts.length ts
def movML (zs ts : List Int) : List Int := movL zs (imgN ts ts.length)
theorem movMB_of {s : Int} {zs ts : List Int} (h : movMB s zs ts = true) : massB s zs = true ∧ ordI s ts.length ts = true := by
  unfold movMB at h
  rwa [Bool.and_eq_true] at h
theorem mov_moves {s : Int} {zs ts : List Int} (h : movMB s zs ts = true) : Moves (imgN ts ts.length) zs.length := by
  obtain ⟨h1, h2⟩ := movMB_of h
  have hs := (massB_of h1).1
  have e1 := (ordI_range h2).1
  have e2 := (massB_of h1).2.1
  have e3 : zs.length = 2 ^ ts.length := by
    rw [← e1, Int.toNat_natCast] at e2
    have : ((2 ^ ts.length : Nat) : Int) = (2 : Int) ^ ts.length := by rw [Int.natCast_pow]; rfl
    omega
  rw [e3]
  exact moves_of hs rfl h2
theorem mov_mass {s : Int} {zs ts : List Int} (h : movMB s zs ts = true) : massB s (movML zs ts) = true := mass_perm (movL_perm (mov_moves h)) (movMB_of h).1
end Go.Proofs.Ytemollfejgmlcaa
