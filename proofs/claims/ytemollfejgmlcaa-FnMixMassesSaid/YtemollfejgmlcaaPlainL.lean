/- What FnMixMasses asks: the mean of two masses. No program here. No condition but those stated. -/
import Derived.Test.YtemollfejgmlcaaPlainK
import Derived.Test.YtemollfejgmlcaaPlainI
namespace Go.Proofs.Ytemollfejgmlcaa
open Go.RowKit

theorem cancelR {x y z : Int} (hz : 0 < z) (h : x * z = y * z) : x = y := Int.eq_of_mul_eq_mul_right (by omega) h
theorem fracN {x y : Int} (h : fracB x y = true) : fracB (-x) y = true := by
  obtain ⟨h1, h2, h3⟩ := fracB_iff.1 h
  exact fracB_iff.2 ⟨by omega, h2, by rw [Int.neg_gcd]; exact h3⟩
theorem sum_lin (c d : Int) (u v : Nat → Int) (l : List Nat) : whole (l.map fun k => c * u k + d * v k) = c * whole (l.map u) + d * whole (l.map v) := by
  induction l with
  | nil => simp [whole]
  | cons a t ih =>
    unfold whole at *
    simp only [List.map_cons, List.sum_cons, ih]
    grind
theorem mix_whole {p q : Int} {zs ys : List Int} (hl : ys.length = zs.length) : whole (mixL p q zs ys) = q * (whole zs * whole ys) := by
  have h1 := map_getD_range zs
  have h2 := map_getD_range ys
  rw [hl] at h2
  have e : mixL p q zs ys = (List.range zs.length).map fun k => (p * whole ys) * zs.getD k 0 + ((q - p) * whole zs) * ys.getD k 0 := by
    unfold mixL
    exact List.map_congr_left fun k _ => by grind
  rw [e, sum_lin (p * whole ys) ((q - p) * whole zs) (fun k => zs.getD k 0) (fun k => ys.getD k 0), h1, h2]
  grind
theorem mixB_of {s : Int} {zs : List Int} {t : Int} {ys : List Int} {p q : Int} (h : mixB s zs t ys p q = true) :
    massB s zs = true ∧ massB t ys = true ∧ s = t ∧ shB p q = true ∧ q ≤ 1000 ∧ madeB s (mixL p q zs ys) = true := by
  unfold mixB at h
  simp only [Bool.and_eq_true, beq_iff_eq, decide_eq_true_eq] at h
  exact ⟨h.1, h.2.1, h.2.2.1, h.2.2.2.1, h.2.2.2.2.1, h.2.2.2.2.2⟩
theorem mass_len {s : Int} {zs ys : List Int} (h1 : massB s zs = true) (h2 : massB s ys = true) : ys.length = zs.length := by
  have := (massB_of h1).2.1
  have := (massB_of h2).2.1
  omega
theorem madeB_of {s : Int} {zs : List Int} (h : madeB s zs = true) : 0 < gcdL zs ∧ massB s (madeL zs) = true := by
  unfold madeB at h
  simp only [Bool.and_eq_true, Bool.not_eq_true'] at h
  have := h.1
  simp only [beq_eq_false_iff_ne, ne_eq] at this
  exact ⟨by omega, h.2⟩
theorem made_scale {zs : List Int} : (madeL zs).map (fun x => x * (gcdL zs : Int)) = zs := by
  unfold madeL
  rw [List.map_map]
  conv => rhs; rw [← List.map_id zs]
  exact List.map_congr_left fun x hx => Int.ediv_mul_cancel (gcdL_dvd x hx)
theorem whole_scale (zs : List Int) (d : Int) : whole (zs.map fun x => x * d) = whole zs * d := by
  induction zs with
  | nil => simp [whole]
  | cons a t ih =>
    unfold whole at *
    simp only [List.map_cons, List.sum_cons, ih]
    grind
theorem made_whole {zs : List Int} : whole (madeL zs) * (gcdL zs : Int) = whole zs := by
  rw [← whole_scale, made_scale]
/-- The other mass has the rest of the fraction. -/
theorem rest_frac {p q : Int} (h : shB p q = true) : fracB p q = true ∧ addB 1 1 (-p) q = true ∧ lowX (1 * q + -p * 1) (1 * q) = q - p ∧ lowY (1 * q + -p * 1) (1 * q) = q ∧ shB (q - p) q = true := by
  obtain ⟨h1, h2, h3⟩ := shB_of h
  have hf : fracB p q = true := by unfold shB at h; rw [Bool.and_eq_true] at h; exact h.1
  have hg : Int.gcd (q - p) q = 1 := by
    have : Int.gcd (q - p) q = Int.gcd p q := by
      rw [Int.gcd_comm (q - p) q, Int.gcd_comm p q, Int.sub_eq_add_neg, Int.add_comm, Int.gcd_add_self_right, Int.gcd_neg]
    rw [this, h3]
  have hr : fracB (q - p) q = true := fracB_iff.2 ⟨by omega, h2, hg⟩
  obtain ⟨e1, e2, e3⟩ := lowB_of (a := 1 * q + -p * 1) (b := 1 * q) (x := q - p) (y := q) (by omega) hr (by grind)
  refine ⟨hf, ?_, e1, e2, ?_⟩
  · unfold addB
    rw [fracN hf, e3]
    rfl
  · unfold shB
    rw [hr, Bool.true_and]
    exact inB_iff.2 (by omega)
theorem mix_turn {p q : Int} {zs ys : List Int} (hl : ys.length = zs.length) : mixL (q - p) q ys zs = mixL p q zs ys := by
  unfold mixL
  rw [hl]
  exact List.map_congr_left fun k _ => by grind
theorem mixB_turn {s : Int} {zs : List Int} {t : Int} {ys : List Int} {p q : Int} (h : mixB s zs t ys p q = true) : mixB t ys s zs (q - p) q = true ∧ mixL (q - p) q ys zs = mixL p q zs ys := by
  obtain ⟨h1, h2, rfl, h4, h5, h6⟩ := mixB_of h
  have e := mix_turn (p := p) (q := q) (mass_len h1 h2)
  refine ⟨?_, e⟩
  unfold mixB
  rw [h1, h2, (rest_frac h4).2.2.2.2, e, h6]
  simp [h5]
theorem mix_self {s : Int} {zs : List Int} {p q : Int} (h1 : massB s zs = true) (h4 : shB p q = true) (h5 : q ≤ 1000) : mixB s zs s zs p q = true ∧ madeL (mixL p q zs zs) = zs := by
  have hw := (massB_of h1).2.2.2.1
  have hg := (massB_of h1).2.2.2.2
  have hq := (shB_of h4).2.1
  have hd : 0 < q * whole zs := Int.mul_pos (by omega) (by omega)
  obtain ⟨d, hd2⟩ : ∃ d : Nat, q * whole zs = (d : Int) := ⟨(q * whole zs).toNat, by omega⟩
  have e : mixL p q zs zs = zs.map fun x => x * (d : Int) := by
    have h := map_getD_range zs
    conv => rhs; rw [← h]
    unfold mixL
    rw [List.map_map]
    exact List.map_congr_left fun k _ => by
      show _ = zs.getD k 0 * (d : Int)
      rw [← hd2]; grind
  have hgc : gcdL (mixL p q zs zs) = d := by rw [e, gcdL_scale, hg, Nat.one_mul]
  have hm : madeL (mixL p q zs zs) = zs := by
    unfold madeL
    rw [hgc, e, List.map_map]
    conv => rhs; rw [← List.map_id zs]
    exact List.map_congr_left fun x _ => Int.mul_ediv_cancel x (by omega)
  refine ⟨?_, hm⟩
  have hmb : madeB s (mixL p q zs zs) = true := by
    unfold madeB
    rw [hm, h1, hgc]
    simp; omega
  unfold mixB
  rw [h1, h4, hmb]
  simp [h5]
theorem share_of {p q X1 X2 P1 P2 x W : Int} (hX : 0 < X2) (e1 : X1 * W = x * X2) (e3 : P1 * (q * X2) = (p * X1) * P2) : P1 * (q * W) = p * x * P2 := by
  refine cancelR hX ?_
  have a1 : P1 * (q * W) * X2 = (P1 * (q * X2)) * W := by grind
  have a2 : p * X1 * P2 * W = (p * P2) * (X1 * W) := by grind
  rw [a1, e3, a2, e1]
  grind
theorem sum_of {q P1 P2 Q1 Q2 S1 S2 A B W V : Int} (hPQ : 0 < P2 * Q2) (r1 : P1 * (q * W) = A * P2) (r2 : Q1 * (q * V) = B * Q2) (e5 : S1 * (P2 * Q2) = (P1 * Q2 + Q1 * P2) * S2) : S1 * (q * W * V) = (A * V + B * W) * S2 := by
  refine cancelR hPQ ?_
  have a1 : S1 * (q * W * V) * (P2 * Q2) = (S1 * (P2 * Q2)) * (q * W * V) := by grind
  have a2 : (P1 * Q2 + Q1 * P2) * S2 * (q * W * V) = ((P1 * (q * W)) * (V * Q2) + (Q1 * (q * V)) * (W * P2)) * S2 := by grind
  rw [a1, e5, a2, r1, r2]
  grind
theorem mean_of {q Z1 Z2 W V K U G M : Int} (e6 : Z1 * U = K * Z2) (e7 : K * G = M) (e8 : U * G = q * (W * V)) : Z1 * (q * W * V) = M * Z2 := by
  have a1 : Z1 * (q * W * V) = (Z1 * U) * G := by
    have : q * W * V = U * G := by rw [e8]; grind
    rw [this]; grind
  rw [a1, e6, ← e7]
  grind
/-- Each share is the mean of both. -/
theorem mean_eq {p q X1 X2 Y1 Y2 P1 P2 Q1 Q2 S1 S2 Z1 Z2 x y W V K U G : Int} (hq : 0 < q) (hX : 0 < X2) (hY : 0 < Y2) (hP : 0 < P2) (hQ : 0 < Q2) (hW : 0 < W) (hV : 0 < V)
    (e1 : X1 * W = x * X2) (e2 : Y1 * V = y * Y2) (e3 : P1 * (q * X2) = (p * X1) * P2) (e4 : Q1 * (q * Y2) = ((q - p) * Y1) * Q2) (e5 : S1 * (P2 * Q2) = (P1 * Q2 + Q1 * P2) * S2) (e6 : Z1 * U = K * Z2)
    (e7 : K * G = p * x * V + (q - p) * y * W) (e8 : U * G = q * (W * V)) (f1 : fracB S1 S2 = true) (f2 : fracB Z1 Z2 = true) : S1 = Z1 ∧ S2 = Z2 := by
  apply same_frac f1 f2
  have r3 := sum_of (Int.mul_pos hP hQ) (share_of hX e1 e3) (share_of hY e2 e4) e5
  have r4 := mean_of e6 e7 e8
  have hz : 0 < q * W * V := Int.mul_pos (Int.mul_pos hq hW) hV
  refine cancelR hz ?_
  have b1 : S1 * Z2 * (q * W * V) = (S1 * (q * W * V)) * Z2 := Int.mul_right_comm _ _ _
  have b2 : Z1 * S2 * (q * W * V) = (Z1 * (q * W * V)) * S2 := Int.mul_right_comm _ _ _
  rw [b1, b2, r3, r4]
  exact Int.mul_right_comm _ _ _
theorem mean_step {s p q : Int} {ms ns : List Int} {k : Nat} {X1 X2 Y1 Y2 Z1 Z2 P1 P2 Q1 Q2 S1 S2 : Int} (hB : mixB s ms s ns p q = true) (hk : k < ms.length)
    (hX1 : lowX (ms.getD k 0) (whole ms) = X1) (hX2 : lowY (ms.getD k 0) (whole ms) = X2) (hY1 : lowX (ns.getD k 0) (whole ns) = Y1) (hY2 : lowY (ns.getD k 0) (whole ns) = Y2)
    (hZ1 : lowX ((madeL (mixL p q ms ns)).getD k 0) (whole (madeL (mixL p q ms ns))) = Z1) (hZ2 : lowY ((madeL (mixL p q ms ns)).getD k 0) (whole (madeL (mixL p q ms ns))) = Z2)
    (hP1 : lowX (p * X1) (q * X2) = P1) (hP2 : lowY (p * X1) (q * X2) = P2) (hQ1 : lowX ((q - p) * Y1) (q * Y2) = Q1) (hQ2 : lowY ((q - p) * Y1) (q * Y2) = Q2)
    (hS1 : lowX (P1 * Q2 + Q1 * P2) (P2 * Q2) = S1) (hS2 : lowY (P1 * Q2 + Q1 * P2) (P2 * Q2) = S2) (h3 : addB P1 P2 Q1 Q2 = true) : S1 = Z1 ∧ S2 = Z2 := by
  obtain ⟨h1, h2, _, h4, h5, h6⟩ := mixB_of hB
  obtain ⟨g0, hmk⟩ := madeB_of h6
  have hq := (shB_of h4).2.1
  have w1 := (massB_of h1).2.2.2.1
  have w2 := (massB_of h2).2.2.2.1
  have w3 := (massB_of hmk).2.2.2.1
  have pX : 0 < X2 := by rw [← hX2]; exact lowY_pos (by omega)
  have pY : 0 < Y2 := by rw [← hY2]; exact lowY_pos (by omega)
  have qX : 0 < q * X2 := Int.mul_pos (by omega) pX
  have qY : 0 < q * Y2 := Int.mul_pos (by omega) pY
  have pP : 0 < P2 := by rw [← hP2]; exact lowY_pos (by omega)
  have pQ : 0 < Q2 := by rw [← hQ2]; exact lowY_pos (by omega)
  have f1 : fracB S1 S2 = true := by
    unfold addB at h3
    simp only [Bool.and_eq_true] at h3
    have := h3.2.2
    unfold lowB at this
    rwa [hS1, hS2] at this
  have f2 : fracB Z1 Z2 = true := by
    have := low_share (mass_get hmk k) w3
    unfold lowB at this
    rwa [hZ1, hZ2] at this
  have e1 := low_cross (ms.getD k 0) (whole ms)
  have e2 := low_cross (ns.getD k 0) (whole ns)
  have e3 := low_cross (p * X1) (q * X2)
  have e4 := low_cross ((q - p) * Y1) (q * Y2)
  have e5 := low_cross (P1 * Q2 + Q1 * P2) (P2 * Q2)
  have e6 := low_cross ((madeL (mixL p q ms ns)).getD k 0) (whole (madeL (mixL p q ms ns)))
  rw [hX1, hX2] at e1
  rw [hY1, hY2] at e2
  rw [hP1, hP2] at e3
  rw [hQ1, hQ2] at e4
  rw [hS1, hS2] at e5
  rw [hZ1, hZ2] at e6
  have e7 := made_back (zs := mixL p q ms ns) k (by rw [mixL_len]; exact hk)
  rw [mixL_get hk] at e7
  have e8 := made_whole (zs := mixL p q ms ns)
  rw [mix_whole (mass_len h1 h2)] at e8
  exact mean_eq (by omega) pX pY pP pQ (by omega) (by omega) e1 e2 e3 e4 e5 e6 e7 e8 f1 f2
end Go.Proofs.Ytemollfejgmlcaa
