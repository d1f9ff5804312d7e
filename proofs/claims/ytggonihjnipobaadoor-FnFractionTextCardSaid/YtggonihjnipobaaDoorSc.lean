/- Contracts: impl.FormatFraction and the law's function. Conditions: the table of powers of ten lies as laid. -/
import Derived.Test.YtggonihjnipobaaDoorSb
namespace Go.Proofs.YtggonihjnipobaaDoor
open Go.RowKit

def HasTab (w : World) : Prop := Lib.TabIs Tryd.prog w "internal/strconv.uint64pow10" .u64 Lib.pow10Tab
theorem HasTab.below {w w' : World} (h : HasTab w) (hb : Below w.heap.size w w') : HasTab w' := by
  obtain ⟨g, hg⟩ : ∃ g, Tryd.prog.globalNamed "internal/strconv.uint64pow10" = some g := Option.isSome_iff_exists.1 (by kernel_rfl)
  exact TabIs_below hg h hb
theorem Itoa_c (n : Int) (h : -1000000000 ≤ n ∧ n ≤ 1000000000) (w : World) (ht : HasTab w) :
    Calls Tryd.prog 24 #[.int .i64 n] w fun e w' => e = .returned (.string (dec n)) ∧ Below w.heap.size w w' := by
  refine (Tryd.strconv_Itoa n (by omega) (by omega) w ht).mono ?_
  rintro e w' ⟨rfl, k, os, rfl⟩
  exact ⟨rfl, Lib.below_grow _ _ (Nat.le_refl _) k os⟩
/-- A box of two numbers behind w, and the table, in W. -/
structure BoxT (w W : World) (x y : Int) : Prop where
  bel : Below w.heap.size w W
  lt : w.heap.size < W.heap.size
  c0 : W.cell? ⟨w.heap.size, 0, none⟩ = some (.int .i64 x)
  c1 : W.cell? ⟨w.heap.size, 1, none⟩ = some (.int .i64 y)
  tab : HasTab W
theorem BoxT.new {w : World} (h : HasTab w) (x y : Int) (t : TypeId) : BoxT w (w.alloc (.cells #[.int .i64 x, .int .i64 y] t)) x y :=
  ⟨(Below.refl _ _).alloc (Nat.le_refl _) _, by simp, by go_simp, by go_simp, h.below ((Below.refl _ _).alloc (Nat.le_refl _) _)⟩
theorem BoxT.step {w W W' : World} {x y : Int} (h : BoxT w W x y) (hb : Below W.heap.size W W') : BoxT w W' x y :=
  ⟨chain hb h.bel.size h.bel, Nat.lt_of_lt_of_le h.lt hb.size, (hb.cell (p := ⟨w.heap.size, 0, none⟩) h.lt).trans h.c0, (hb.cell (p := ⟨w.heap.size, 1, none⟩) h.lt).trans h.c1, h.tab.below hb⟩
theorem BoxT.call {w W : World} {x y : Int} {P : Program} {f : FuncId} {args : Array Value} {v : Value} (h : BoxT w W x y) (hc : Calls P f args W fun e w' => e = .returned v ∧ Below W.heap.size W w') :
    Calls P f args W fun e w' => e = .returned v ∧ BoxT w w' x y :=
  hc.mono fun _ _ hr => ⟨hr.1, h.step hr.2⟩
set_option maxRecDepth 100000 in
set_option maxHeartbeats 400000 in
theorem impl_form_no (x y : Int) (w : World) (ht : HasTab w) (hf : fracB x y = false) :
    Calls Tryd.prog 10 #[.agg #[.int .i64 x, .int .i64 y]] w fun e w' => e = .returned (.string ⟨#[]⟩) ∧ Below w.heap.size w w' := by
  have K0 := Lib.hid (BoxT.new ht x y 23)
  clear ht
  go_enter Tryd.func10, Tryd.ntmps10
  go_wp2_with (go_at_call 21; refine Calls.mono (by with_reducible exact K0.out.call (isFraction_c x y _)) ?_; rintro e w1 ⟨rfl, hk⟩; have c0K1 := hk.c0; have c1K1 := hk.c1; have K1 := Lib.hid hk; clear hk)
  go_ret
  exact ⟨rfl, K1.out.bel⟩
set_option maxRecDepth 100000 in
set_option maxHeartbeats 400000 in
theorem impl_form_one (x y : Int) (w : World) (ht : HasTab w) (hf : fracB x y = true) (h1 : y = 1) :
    Calls Tryd.prog 10 #[.agg #[.int .i64 x, .int .i64 y]] w fun e w' => e = .returned (.string (dec x)) ∧ Below w.heap.size w w' := by
  have K0 := Lib.hid (BoxT.new ht x y 23)
  have HF := Lib.hid (frac_bounds hf)
  clear ht
  have hyb : (y == 1) = true := by simp [h1]
  clear h1
  go_enter Tryd.func10, Tryd.ntmps10
  go_wp2_with (first | (go_at_call 21; refine Calls.mono (by with_reducible exact K0.out.call (isFraction_c x y _)) ?_; rintro e w1 ⟨rfl, hk⟩; have c0K1 := hk.c0; have c1K1 := hk.c1; have K1 := Lib.hid hk; clear hk) | (go_at_call 24; refine Calls.mono (by with_reducible exact K1.out.call (Itoa_c x HF.out.1 _ K1.out.tab)) ?_; rintro e w2 ⟨rfl, hk⟩; have c0K2 := hk.c0; have c1K2 := hk.c1; have K2 := Lib.hid hk; clear hk))
  go_ret
  exact ⟨rfl, K2.out.bel⟩
set_option maxRecDepth 100000 in
set_option maxHeartbeats 800000 in
theorem impl_form_two (x y : Int) (w : World) (ht : HasTab w) (hf : fracB x y = true) (h1 : ¬ y = 1) :
    Calls Tryd.prog 10 #[.agg #[.int .i64 x, .int .i64 y]] w fun e w' => e = .returned (.string (dec x ++ ((⟨#[47]⟩ : ByteArray) ++ dec y))) ∧ Below w.heap.size w w' := by
  have K0 := Lib.hid (BoxT.new ht x y 23)
  have HF := Lib.hid (frac_bounds hf)
  clear ht
  have zx := dec_le HF.out.1
  have zy := dec_le HF.out.2
  have g1 : ¬ 9223372036854775807 < 1 + (dec y).size := by omega
  have g2 : ¬ 9223372036854775807 < (dec x).size + (1 + (dec y).size) := by omega
  clear zx zy
  have hyb : (y == 1) = false := by simp [h1]
  clear h1
  go_enter Tryd.func10, Tryd.ntmps10
  go_wp2_with (first | (go_at_call 21; refine Calls.mono (by with_reducible exact K0.out.call (isFraction_c x y _)) ?_; rintro e w1 ⟨rfl, hk⟩; have c0K1 := hk.c0; have c1K1 := hk.c1; have K1 := Lib.hid hk; clear hk) | (go_at_call 24; refine Calls.mono (by with_reducible exact K1.out.call (Itoa_c x HF.out.1 _ K1.out.tab)) ?_; rintro e w2 ⟨rfl, hk⟩; have c0K2 := hk.c0; have c1K2 := hk.c1; have K2 := Lib.hid hk; clear hk) | (go_at_call 24; refine Calls.mono (by with_reducible exact K2.out.call (Itoa_c y HF.out.2 _ K2.out.tab)) ?_; rintro e w3 ⟨rfl, hk⟩; have c0K3 := hk.c0; have c1K3 := hk.c1; have K3 := Lib.hid hk; clear hk))
  go_ret
  exact ⟨rfl, K3.out.bel⟩
theorem impl_FormatFraction_c (x y : Int) (w : World) (ht : HasTab w) :
    Calls Tryd.prog 10 #[.agg #[.int .i64 x, .int .i64 y]] w fun e w' => e = .returned (.string (formText x y)) ∧ Below w.heap.size w w' := by
  rcases hf : fracB x y with _ | _
  · rw [show formText x y = ⟨#[]⟩ by rw [formText, hf]; rfl]
    exact impl_form_no x y w ht hf
  · by_cases h1 : y = 1
    · rw [show formText x y = dec x by rw [formText, hf, fracText, if_pos h1]; rfl]
      exact impl_form_one x y w ht hf h1
    · rw [show formText x y = dec x ++ ((⟨#[47]⟩ : ByteArray) ++ dec y) by rw [formText, hf, fracText_other x y h1]; rfl]
      exact impl_form_two x y w ht hf h1
set_option maxRecDepth 100000 in
set_option maxHeartbeats 800000 in
theorem formLaw_c (x y : Int) (w : World) (ht : HasTab w) :
    Calls Tryd.prog 5 #[.agg #[.int .i64 x, .int .i64 y]] w fun e w' => e = .returned (.bool true) ∧ Below w.heap.size w w' := by
  have K0 := Lib.hid (BoxT.new ht x y 35)
  clear ht
  go_enter Tryd.func5, Tryd.ntmps5
  go_wp2_with (first | (go_at_call 16; refine Calls.mono (by with_reducible exact K0.out.call (toFraction_c x y _)) ?_; rintro e w1 ⟨rfl, hk⟩; have c0K1 := hk.c0; have c1K1 := hk.c1; have K1 := Lib.hid hk; clear hk) | (go_at_call 11; refine Calls.mono (by with_reducible exact K1.out.call (spec_FormatFraction_c x y _)) ?_; rintro e w2 ⟨rfl, hk⟩; have c0K2 := hk.c0; have c1K2 := hk.c1; have K2 := Lib.hid hk; clear hk) | (go_at_call 16; refine Calls.mono (by with_reducible exact K2.out.call (toFraction_c x y _)) ?_; rintro e w3 ⟨rfl, hk⟩; have c0K3 := hk.c0; have c1K3 := hk.c1; have K3 := Lib.hid hk; clear hk) | (go_at_call 10; refine Calls.mono (by with_reducible exact K3.out.call (impl_FormatFraction_c x y _ K3.out.tab)) ?_; rintro e w4 ⟨rfl, hk⟩; have c0K4 := hk.c0; have c1K4 := hk.c1; have K4 := Lib.hid hk; clear hk))
  go_ret
  exact ⟨rfl, K4.out.bel⟩
end Go.Proofs.YtggonihjnipobaaDoor
