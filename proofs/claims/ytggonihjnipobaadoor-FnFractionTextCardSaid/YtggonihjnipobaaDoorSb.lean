/- Contracts: the text of a fraction, by the specification and by the program. Conditions: as stated. -/
import Derived.Test.YtggonihjnipobaaDoorSa
import Derived.Test.YtggonihjnipobaaDoorWf
import Derived.Test.YtggonihjnipobaaDoorWg
import Derived.Test.YtggonihjnipobaaDoorShelf
import Derived.Deep.RegionHeld3
import Derived.Lib.AppendIntMem
import Derived.Shelf.Unicode.PredsPay
namespace Go.Proofs.YtggonihjnipobaaDoor
open Go.RowKit

/-- A fraction's text. -/
def fracText (x y : Int) : ByteArray := if y = 1 then dec x else dec x ++ (⟨#[47]⟩ : ByteArray) ++ dec y
def formText (x y : Int) : ByteArray := if fracB x y then fracText x y else ⟨#[]⟩
theorem fracText_other (x y : Int) (h : ¬ y = 1) : dec x ++ ((⟨#[47]⟩ : ByteArray) ++ dec y) = fracText x y := by
  rw [fracText, if_neg h]
  apply ByteArray.ext
  simp
theorem dec_le {x : Int} (h : -1000000000 ≤ x ∧ x ≤ 1000000000) : (dec x).size ≤ 1000000002 := by
  have := dec_len x
  omega
set_option maxRecDepth 100000 in
set_option maxHeartbeats 2000000 in
theorem l2Text_c (x y : Int) (hx : -1000000000 ≤ x ∧ x ≤ 1000000000) (hy : -1000000000 ≤ y ∧ y ≤ 1000000000) (w : World) :
    Calls Tryd.prog 25 #[.agg #[.int .i64 x, .int .i64 y]] w fun e w' => e = .returned (.string (fracText x y)) ∧ Below w.heap.size w w' := by
  have zx := dec_le hx
  have zy := dec_le hy
  have HX := Lib.hid hx
  have HY := Lib.hid hy
  clear hx hy
  by_cases h1 : y = 1
  · subst h1
    have HT : Hid (dec x = fracText x 1) := Lib.hid (by rw [fracText, if_pos rfl])
    go_enter Tryd.func25, Tryd.ntmps25
    go_wp2_with (go_at_call 40; refine (l14Dec_c x HX.out _).mono ?_; rintro e w1 ⟨rfl, hb⟩)
    have HB := Lib.hid hb
    clear hb
    go_ret
    refine ⟨congrArg (fun b => Ending.returned (Value.string b)) HT.out, (Below.refl _ _).alloc (Nat.le_refl _) _ |>.trans (HB.out.mono (by simp))⟩
  · have HT : Hid (dec x ++ (⟨#[47]⟩ : ByteArray) ++ dec y = fracText x y) := Lib.hid (by rw [fracText, if_neg h1])
    go_enter Tryd.func25, Tryd.ntmps25
    go_wp2_with fail
    have b0 : (w.alloc (.cells #[.int .i64 x, .int .i64 y] 23)).cell? ⟨w.heap.size, 0, none⟩ = some (.int .i64 x) := by go_simp
    have b1 : (w.alloc (.cells #[.int .i64 x, .int .i64 y] 23)).cell? ⟨w.heap.size, 1, none⟩ = some (.int .i64 y) := by go_simp
    have g1 : ¬ 9223372036854775807 < (dec x).size + 1 := by omega
    have g2 : ¬ 9223372036854775807 < (dec x).size + 1 + (dec y).size := by omega
    have zz : w.heap.size < (w.alloc (.cells #[.int .i64 x, .int .i64 y] 23)).heap.size := by simp
    have HW := Lib.hid (((Below.refl w.heap.size w).alloc (Nat.le_refl _) (.cells #[.int .i64 x, .int .i64 y] 23)))
    go_region_held3 (fun w' => w'.cell? ⟨w.heap.size, 0, none⟩ = some (.int .i64 x) ∧ w'.cell? ⟨w.heap.size, 1, none⟩ = some (.int .i64 y))
      (first | with_reducible exact ⟨e0, e1⟩ | with_reducible exact ⟨c0, c1⟩ | exact ⟨b0, b1⟩)
      (first
        | (go_at_call 40; refine Calls.mono (by with_reducible exact l14Dec_c x HX.out _) ?_; rintro e w1 ⟨rfl, hb⟩; (try with_reducible replace hb := nodrew hb); have c0 := (hb.cell (p := ⟨w.heap.size, 0, none⟩) zz).trans b0; have c1 := (hb.cell (p := ⟨w.heap.size, 1, none⟩) zz).trans b1; have zz1 := Nat.lt_of_lt_of_le zz hb.size; have HB := Lib.hid hb; clear hb)
        | (go_at_call 40; refine Calls.mono (by with_reducible exact l14Dec_c y HY.out _) ?_; rintro e w2 ⟨rfl, hb2⟩; (try with_reducible replace hb2 := nodrew hb2); have e0 := (hb2.cell (p := ⟨w.heap.size, 0, none⟩) zz1).trans c0; have e1 := (hb2.cell (p := ⟨w.heap.size, 1, none⟩) zz1).trans c1; have HB2 := Lib.hid hb2; clear hb2))
    all_goals
      go_wp2_with fail
      have H1 : Below w.heap.size w w1 := by first | exact chain (nodrew HB.out) (by simp) HW.out | exact chain HB.out (by simp) HW.out
      have H2 : Below w.heap.size w w2 := chain HB2.out H1.size H1
      exact bodyPost_ret (v := .string (dec x ++ (⟨#[47]⟩ : ByteArray) ++ dec y)) (by simp [results, Tryd.results25, go_sem]) rfl ⟨congrArg (fun b => Ending.returned (Value.string b)) HT.out, H2⟩
theorem frac_bounds {x y : Int} (h : fracB x y = true) : (-1000000000 ≤ x ∧ x ≤ 1000000000) ∧ (-1000000000 ≤ y ∧ y ≤ 1000000000) := by
  simp only [fracB, decide_eq_true_eq] at h
  omega
set_option maxRecDepth 100000 in
set_option maxHeartbeats 2000000 in
theorem spec_FormatFraction_c (x y : Int) (w : World) :
    Calls Tryd.prog 11 #[.agg #[.int .i64 x, .int .i64 y]] w fun e w' => e = .returned (.string (formText x y)) ∧ Below w.heap.size w w' := by
  rcases hf : fracB x y with _ | _
  · have HT : Hid ((⟨#[]⟩ : ByteArray) = formText x y) := Lib.hid (by rw [formText, hf]; rfl)
    go_enter Tryd.func11, Tryd.ntmps11
    go_wp2_with (go_at_call 13; refine (spec_FractionValid_c x y _).mono ?_; rintro e w1 ⟨rfl, hb⟩)
    have HB := Lib.hid hb
    clear hb
    go_ret
    exact ⟨congrArg (fun b => Ending.returned (Value.string b)) HT.out, chain HB.out (by simp) ((Below.refl _ _).alloc (Nat.le_refl _) _)⟩
  · have HT : Hid (fracText x y = formText x y) := Lib.hid (by rw [formText, hf]; rfl)
    have HF := Lib.hid (frac_bounds hf)
    go_enter Tryd.func11, Tryd.ntmps11
    go_wp2_with (first | (go_at_call 13; refine (spec_FractionValid_c x y _).mono ?_; rintro e w1 ⟨rfl, hb⟩; have c0 := (hb.cell (p := ⟨w.heap.size, 0, none⟩) (by simp)).trans (show _ = some (Value.int .i64 x) by go_simp); have c1 := (hb.cell (p := ⟨w.heap.size, 1, none⟩) (by simp)).trans (show _ = some (Value.int .i64 y) by go_simp); have HB := Lib.hid hb; clear hb) | (go_at_call 25; refine (l2Text_c x y HF.out.1 HF.out.2 _).mono ?_; rintro e w2 ⟨rfl, hb2⟩; have HB2 := Lib.hid hb2; clear hb2))
    have H1 : Below w.heap.size w w1 := by first | exact chain (nodrew HB.out) (by simp) ((Below.refl _ _).alloc (Nat.le_refl _) _) | exact chain HB.out (by simp) ((Below.refl _ _).alloc (Nat.le_refl _) _)
    have H2 : Below w.heap.size w w2 := by first | exact chain HB2.out H1.size H1 | exact chain (nodrew HB2.out) H1.size H1
    have HH := Lib.hid H2
    clear H1 H2
    go_ret
    exact ⟨congrArg (fun b => Ending.returned (Value.string b)) HT.out, HH.out⟩
end Go.Proofs.YtggonihjnipobaaDoor
