/- Contract: impl.ParseFraction. Conditions: no more than 2^20 bytes; the table of powers of ten and the library's variables lie as laid. -/
import Derived.Test.YtggonihjnipobaaDoorSc
import Derived.Test.YtggonihjnipobaaDoorSf
import Derived.Lib.AtoiErrMem
namespace Go.Proofs.YtggonihjnipobaaDoor
open Go.RowKit

/-- What the library's functions want of a world. -/
structure Glob (w : World) : Prop where
  tab : HasTab w
  max : ∃ m, w.cell? ⟨0, 0, none⟩ = some (.int .i64 m)
  syn : ∃ v, w.cell? ⟨1, 0, none⟩ = some v ∧ (v = .nilIface ∨ ∃ te pe, v = .iface te pe)
  rng : ∃ v, w.cell? ⟨2, 0, none⟩ = some v ∧ (v = .nilIface ∨ ∃ te pe, v = .iface te pe)
theorem Glob.below {w w' : World} (h : Glob w) (hb : Below w.heap.size w w') : Glob w' := by
  obtain ⟨m, hm⟩ := h.max
  obtain ⟨v, hv, hv'⟩ := h.syn
  obtain ⟨u, hu, hu'⟩ := h.rng
  exact ⟨h.tab.below hb, ⟨m, (hb.cell (World.block_lt_of_cell? w _ hm)).trans hm⟩, ⟨v, (hb.cell (World.block_lt_of_cell? w _ hv)).trans hv, hv'⟩, ⟨u, (hb.cell (World.block_lt_of_cell? w _ hu)).trans hu, hu'⟩⟩
theorem cut_len {l p a b : List UInt8} {h : Bool} (e : Lib.cut l p = (a, b, h)) : a.length ≤ l.length ∧ b.length ≤ l.length := by
  unfold Lib.cut at e
  split at e <;> (simp only [Prod.mk.injEq] at e; obtain ⟨rfl, rfl, rfl⟩ := e; simp <;> omega)
theorem Cut_c (s : ByteArray) (hs : s.size ≤ 1048576) (l r : List UInt8) (h : Bool) (hc : Lib.cut s.data.toList [47] = (l, r, h)) (w : World) (hg : Glob w) :
    Calls Tryd.prog 19 #[.string s, .string ⟨#[47]⟩] w fun e w' => e = .returned (.tuple #[.string ⟨l.toArray⟩, .string ⟨r.toArray⟩, .bool h]) ∧ Below w.heap.size w w' := by
  obtain ⟨m, hm⟩ := hg.max
  refine (Tryd.strings_Cut s ⟨#[47]⟩ m w (by omega) hm).mono ?_
  rintro e w' ⟨rfl, n, rfl⟩
  have hc' : Lib.cut s.data.toList (⟨#[47]⟩ : ByteArray).data.toList = (l, r, h) := hc
  rw [hc']
  exact ⟨rfl, below_drewN (Below.refl _ _) n⟩
theorem Atoi_ok_c (l : List UInt8) (hl : l.length ≤ 1048576) (x : Int) (h : Lib.atoiAll l = .ok x) (w : World) :
    Calls Tryd.prog 20 #[.string ⟨l.toArray⟩] w fun e w' => e = .returned (.tuple #[.int .i64 x, .nilIface]) ∧ Below w.heap.size w w' := by
  refine (Tryd.strconv_Atoi_ok ⟨l.toArray⟩ (by simp only [ByteArray.size, List.size_toArray]; omega) x h w).mono ?_
  rintro e w' ⟨rfl, rfl | ⟨t, rfl⟩⟩
  · exact ⟨rfl, Below.refl _ _⟩
  · exact ⟨rfl, Lib.bytesWorld_below w 5 t⟩
theorem Atoi_no_c (l : List UInt8) (hl : l.length ≤ 1048576) (h : ∀ x, Lib.atoiAll l ≠ .ok x) (w : World) (hg : Glob w) :
    Calls Tryd.prog 20 #[.string ⟨l.toArray⟩] w fun e w' => (∃ x N, e = .returned (.tuple #[.int .i64 x, .iface 66 (.pointer (some ⟨N, 0, none⟩))])) ∧ Below w.heap.size w w' := by
  have hz : (⟨l.toArray⟩ : ByteArray).size ≤ 281474976710656 := by simp only [ByteArray.size, List.size_toArray]; omega
  rcases ha : Lib.atoiAll l with x | _ | _
  · exact absurd ha (h x)
  · obtain ⟨v, hv, hv'⟩ := hg.syn
    refine (Tryd.strconv_Atoi_syntax ⟨l.toArray⟩ hz ha v w hv hv').mono ?_
    rintro e w' ⟨N, rfl, _, _, hb⟩
    exact ⟨⟨0, N, rfl⟩, hb⟩
  · obtain ⟨v, hv, hv'⟩ := hg.rng
    refine (Tryd.strconv_Atoi_range ⟨l.toArray⟩ hz ha v w hv hv').mono ?_
    rintro e w' ⟨N, rfl, _, _, hb⟩
    exact ⟨⟨_, N, rfl⟩, hb⟩
theorem Atoi_any_c (l : List UInt8) (hl : l.length ≤ 1048576) (w : World) (hg : Glob w) :
    Calls Tryd.prog 20 #[.string ⟨l.toArray⟩] w fun e w' => (∃ x v, e = .returned (.tuple #[.int .i64 x, v])) ∧ Below w.heap.size w w' := by
  by_cases h : ∃ x, Lib.atoiAll l = .ok x
  · obtain ⟨x, hx⟩ := h
    refine (Atoi_ok_c l hl x hx w).mono ?_
    rintro e w' ⟨rfl, hb⟩
    exact ⟨⟨x, _, rfl⟩, hb⟩
  · refine (Atoi_no_c l hl (fun x hx => h ⟨x, hx⟩) w hg).mono ?_
    rintro e w' ⟨⟨x, N, rfl⟩, hb⟩
    exact ⟨⟨x, _, rfl⟩, hb⟩

/-- No fraction has this text: no sign. -/
theorem none_cut_one {s : ByteArray} {l r : List UInt8} (hc : Lib.cut s.data.toList [47] = (l, r, false)) (hbad : ∀ x, Lib.atoiAll l = .ok x → fracB x 1 = true → formText x 1 ≠ s) :
    ∀ x y, fracB x y = true → fracText x y ≠ s := by
  intro x y h e
  have hb := frac_bounds h
  rw [← e, cut_fracText] at hc
  by_cases hy : y = 1
  · rw [if_pos hy] at hc
    simp only [Prod.mk.injEq] at hc
    rw [hy] at h e
    exact hbad x (by rw [← hc.1]; exact atoi_dec x hb.1) h (by rw [formText, if_pos h]; exact e)
  · rw [if_neg hy] at hc
    simp at hc
/-- No fraction has this text: one sign at least. -/
theorem none_cut_two {s : ByteArray} {l r : List UInt8} (hc : Lib.cut s.data.toList [47] = (l, r, true)) (hbad : ∀ x y, Lib.atoiAll l = .ok x → Lib.atoiAll r = .ok y → fracB x y = true → formText x y ≠ s) :
    ∀ x y, fracB x y = true → fracText x y ≠ s := by
  intro x y h e
  have hb := frac_bounds h
  rw [← e, cut_fracText] at hc
  by_cases hy : y = 1
  · rw [if_pos hy] at hc
    simp at hc
  · rw [if_neg hy] at hc
    simp only [Prod.mk.injEq] at hc
    exact hbad x y (by rw [← hc.1]; exact atoi_dec x hb.1) (by rw [← hc.2.1]; exact atoi_dec y hb.2) h (by rw [formText, if_pos h]; exact e)

/-- The result's box behind w, in W. -/
structure PW (w W : World) : Prop where
  bel : Below w.heap.size w W
  lt : w.heap.size < W.heap.size
  box : CX W w.heap.size 0 0
  first : Glob w
theorem PW.glob {w W : World} (h : PW w W) : Glob W := h.first.below h.bel
theorem PW.new {w : World} (h : Glob w) (t : TypeId) : PW w (w.alloc (.cells #[.int .i64 0, .int .i64 0] t)) :=
  ⟨(Below.refl _ _).alloc (Nat.le_refl _) _, by simp, CX.new _ _ _ _, h⟩
theorem PW.step {w W W' : World} (h : PW w W) (hb : Below W.heap.size W W') : PW w W' :=
  ⟨chain hb h.bel.size h.bel, Nat.lt_of_lt_of_le h.lt hb.size, h.box.below hb h.lt, h.first⟩
theorem PW.call {w W : World} {P : Program} {f : FuncId} {args : Array Value} {R : Ending → Prop} (h : PW w W) (hc : Calls P f args W fun e w' => R e ∧ Below W.heap.size W w') :
    Calls P f args W fun e w' => R e ∧ PW w w' :=
  hc.mono fun _ _ hr => ⟨hr.1, h.step hr.2⟩
/-- The fraction's own box beside it. -/
structure PB (w W : World) (b : Nat) (x y : Int) : Prop where
  pw : PW w W
  ne : w.heap.size < b
  lt : b < W.heap.size
  own : CX W b x y
theorem PB.new {w W : World} (h : PW w W) (x y : Int) (t : TypeId) : PB w (W.alloc (.cells #[.int .i64 x, .int .i64 y] t)) W.heap.size x y :=
  ⟨h.step ((Below.refl _ _).alloc (Nat.le_refl _) _), h.lt, by simp, CX.new _ _ _ _⟩
theorem PB.step {w W W' : World} {b : Nat} {x y : Int} (h : PB w W b x y) (hb : Below W.heap.size W W') : PB w W' b x y :=
  ⟨h.pw.step hb, h.ne, Nat.lt_of_lt_of_le h.lt hb.size, h.own.below hb h.lt⟩
theorem PB.call {w W : World} {b : Nat} {x y : Int} {P : Program} {f : FuncId} {args : Array Value} {R : Ending → Prop} (h : PB w W b x y) (hc : Calls P f args W fun e w' => R e ∧ Below W.heap.size W w') :
    Calls P f args W fun e w' => R e ∧ PB w w' b x y :=
  hc.mono fun _ _ hr => ⟨hr.1, h.step hr.2⟩
/-- The denominator written. -/
theorem PB.set {w W : World} {b : Nat} {x y : Int} (h : PB w W b x y) (y' : Int) : PB w (W.setCell ⟨b, 1, none⟩ (.int .i64 y')) b x y' := by
  have hne := h.ne
  have hlt := h.lt
  obtain ⟨⟨c0, c1⟩, ⟨f0, f1⟩⟩ := h.own
  have hbs : Below b W (W.setCell ⟨b, 1, none⟩ (.int .i64 y')) := (Below.refl b W).setCell (Nat.le_refl _) _
  refine ⟨⟨h.pw.bel.setCell (Nat.le_of_lt hne) _, by simpa using h.pw.lt, ⟨⟨(hbs.cell hne).trans h.pw.box.1.1, (hbs.cell hne).trans h.pw.box.1.2⟩, ⟨(hbs.frozen hne).trans h.pw.box.2.1, (hbs.frozen hne).trans h.pw.box.2.2⟩⟩, h.pw.first⟩, hne, by simpa using hlt, ⟨⟨?_, ?_⟩, ⟨?_, ?_⟩⟩⟩
  · go_simp
  · go_simp
  · go_simp
  · go_simp
theorem NumEnd_inj {x y : Int} (h : (Lib.NumEnd.ok x) = Lib.NumEnd.ok y) : x = y := by injection h
set_option maxRecDepth 100000 in
set_option maxHeartbeats 1000000 in
theorem impl_Parse_one_no (s : ByteArray) (hs : s.size ≤ 1048576) (l r : List UInt8) (hc : Lib.cut s.data.toList [47] = (l, r, false)) (ha : ∀ x, Lib.atoiAll l ≠ .ok x) (w : World) (hg : Glob w) : Calls Tryd.prog 7 #[.string s] w (ParsePost s w) := by
  have hlr := cut_len hc
  have hz : s.data.toList.length = s.size := by simp
  have hl : l.length ≤ 1048576 := by omega
  have hr : r.length ≤ 1048576 := by omega
  clear hlr hz
  have HN := Lib.hid (none_cut_one hc (fun X hX hF => absurd hX (ha X)))
  have HC := Lib.hid hc
  have HL := Lib.hid ha
  have K0 := Lib.hid (PW.new hg 23)
  have hl' := Lib.hid hl
  have hr' := Lib.hid hr
  have hs' := Lib.hid hs
  clear hc ha hg hl hr hs
  go_enter Tryd.func7, Tryd.ntmps7
  go_wp2_with (first | (go_at_call 19; refine Calls.mono (by with_reducible exact K0.out.call (Cut_c s hs'.out l r false HC.out _ K0.out.glob)) ?_; rintro e W1 ⟨rfl, hk⟩; have r0_1 := hk.box.1.1; have r1_1 := hk.box.1.2; have f0_1 := hk.box.2.1; have f1_1 := hk.box.2.2; have zz1 := hk.lt; have K1 := Lib.hid hk; clear hk) | (go_at_call 20; refine Calls.mono (by with_reducible exact K1.out.call (Atoi_no_c l hl'.out HL.out _ K1.out.glob)) ?_; rintro e W2 ⟨⟨x, N, rfl⟩, hk⟩; have r0_2 := hk.box.1.1; have r1_2 := hk.box.1.2; have f0_2 := hk.box.2.1; have f1_2 := hk.box.2.2; have zz2 := hk.lt; have K2w := Lib.hid hk; have K2 := Lib.hid (PB.new hk x 1 23); clear hk))
  exact bodyPost_ret (v := .tuple #[.agg #[.int .i64 0, .int .i64 0], .bool false]) (by simp [results, Tryd.results7, go_sem, r0_2, r1_2, zz2]) rfl ⟨(by repeat (first | exact K2.out.pw.bel | exact K2w.out.bel | (refine Below.setCell ?_ (by first | exact Nat.le_refl _ | exact Nat.le_of_lt (by assumption) | (simp <;> omega)) _) | (refine Below.alloc ?_ (by simp <;> omega) _))), Or.inr ⟨rfl, HN.out⟩⟩
set_option maxRecDepth 100000 in
set_option maxHeartbeats 1000000 in
theorem impl_Parse_one_out (s : ByteArray) (hs : s.size ≤ 1048576) (l r : List UInt8) (hc : Lib.cut s.data.toList [47] = (l, r, false)) (x : Int) (ha : Lib.atoiAll l = .ok x) (hfr : fracB x 1 = false) (w : World) (hg : Glob w) : Calls Tryd.prog 7 #[.string s] w (ParsePost s w) := by
  have hlr := cut_len hc
  have hz : s.data.toList.length = s.size := by simp
  have hl : l.length ≤ 1048576 := by omega
  have hr : r.length ≤ 1048576 := by omega
  clear hlr hz
  have HN := Lib.hid (none_cut_one hc (fun X hX hF => by have e1 := NumEnd_inj (hX.symm.trans ha); subst e1; rw [hfr] at hF; cases hF))
  have HC := Lib.hid hc
  have HL := Lib.hid ha
  have K0 := Lib.hid (PW.new hg 23)
  have hl' := Lib.hid hl
  have hr' := Lib.hid hr
  have hs' := Lib.hid hs
  clear hc ha hg hl hr hs
  go_enter Tryd.func7, Tryd.ntmps7
  go_wp2_with (first | (go_at_call 19; refine Calls.mono (by with_reducible exact K0.out.call (Cut_c s hs'.out l r false HC.out _ K0.out.glob)) ?_; rintro e W1 ⟨rfl, hk⟩; have r0_1 := hk.box.1.1; have r1_1 := hk.box.1.2; have f0_1 := hk.box.2.1; have f1_1 := hk.box.2.2; have zz1 := hk.lt; have K1 := Lib.hid hk; clear hk) | (go_at_call 20; refine Calls.mono (by with_reducible exact K1.out.call (Atoi_ok_c l hl'.out x HL.out _)) ?_; rintro e W2 ⟨rfl, hk⟩; have r0_2 := hk.box.1.1; have r1_2 := hk.box.1.2; have f0_2 := hk.box.2.1; have f1_2 := hk.box.2.2; have zz2 := hk.lt; have K2w := Lib.hid hk; have K2 := Lib.hid (PB.new hk x 1 23); clear hk) | (go_at_call 21; refine Calls.mono (by with_reducible exact K2.out.call (isFraction_c x 1 _)) ?_; rintro e W4 ⟨rfl, hk⟩; have r0_4 := hk.pw.box.1.1; have r1_4 := hk.pw.box.1.2; have f0_4 := hk.pw.box.2.1; have f1_4 := hk.pw.box.2.2; have zz4 := hk.pw.lt; have c0_4 := hk.own.1.1; have c1_4 := hk.own.1.2; have g0_4 := hk.own.2.1; have g1_4 := hk.own.2.2; have lt4 := hk.lt; have ne4 := Nat.ne_of_gt hk.ne; have K4 := Lib.hid hk; clear hk))
  exact bodyPost_ret (v := .tuple #[.agg #[.int .i64 0, .int .i64 0], .bool false]) (by simp [results, Tryd.results7, go_sem, r0_4, r1_4]) rfl ⟨(by repeat (first | exact K4.out.pw.bel | (refine Below.setCell ?_ (by first | exact Nat.le_refl _ | exact Nat.le_of_lt (by assumption) | (simp <;> omega)) _) | (refine Below.alloc ?_ (by simp <;> omega) _))), Or.inr ⟨rfl, HN.out⟩⟩
set_option maxRecDepth 100000 in
set_option maxHeartbeats 1000000 in
theorem impl_Parse_one_ne (s : ByteArray) (hs : s.size ≤ 1048576) (l r : List UInt8) (hc : Lib.cut s.data.toList [47] = (l, r, false)) (x : Int) (ha : Lib.atoiAll l = .ok x) (hfr : fracB x 1 = true) (hf : ¬ formText x 1 = s) (w : World) (hg : Glob w) : Calls Tryd.prog 7 #[.string s] w (ParsePost s w) := by
  have hlr := cut_len hc
  have hz : s.data.toList.length = s.size := by simp
  have hl : l.length ≤ 1048576 := by omega
  have hr : r.length ≤ 1048576 := by omega
  clear hlr hz
  have HN := Lib.hid (none_cut_one hc (fun X hX hF => by have e1 := NumEnd_inj (hX.symm.trans ha); subst e1; exact hf))
  have HK := Lib.hid hfr
  have hq : ((formText x 1).toList == s.toList) = false := by first | exact bytes_ne hf | exact bytes_eq hf
  clear hf
  have HC := Lib.hid hc
  have HL := Lib.hid ha
  have K0 := Lib.hid (PW.new hg 23)
  have hl' := Lib.hid hl
  have hr' := Lib.hid hr
  have hs' := Lib.hid hs
  clear hc ha hg hl hr hs
  go_enter Tryd.func7, Tryd.ntmps7
  go_wp2_with (first | (go_at_call 19; refine Calls.mono (by with_reducible exact K0.out.call (Cut_c s hs'.out l r false HC.out _ K0.out.glob)) ?_; rintro e W1 ⟨rfl, hk⟩; have r0_1 := hk.box.1.1; have r1_1 := hk.box.1.2; have f0_1 := hk.box.2.1; have f1_1 := hk.box.2.2; have zz1 := hk.lt; have K1 := Lib.hid hk; clear hk) | (go_at_call 20; refine Calls.mono (by with_reducible exact K1.out.call (Atoi_ok_c l hl'.out x HL.out _)) ?_; rintro e W2 ⟨rfl, hk⟩; have r0_2 := hk.box.1.1; have r1_2 := hk.box.1.2; have f0_2 := hk.box.2.1; have f1_2 := hk.box.2.2; have zz2 := hk.lt; have K2w := Lib.hid hk; have K2 := Lib.hid (PB.new hk x 1 23); clear hk) | (go_at_call 21; refine Calls.mono (by with_reducible exact K2.out.call (isFraction_c x 1 _)) ?_; rintro e W4 ⟨rfl, hk⟩; have r0_4 := hk.pw.box.1.1; have r1_4 := hk.pw.box.1.2; have f0_4 := hk.pw.box.2.1; have f1_4 := hk.pw.box.2.2; have zz4 := hk.pw.lt; have c0_4 := hk.own.1.1; have c1_4 := hk.own.1.2; have g0_4 := hk.own.2.1; have g1_4 := hk.own.2.2; have lt4 := hk.lt; have ne4 := Nat.ne_of_gt hk.ne; have K4 := Lib.hid hk; clear hk) | (go_at_call 10; refine Calls.mono (by with_reducible exact K4.out.call (impl_FormatFraction_c x 1 _ K4.out.pw.glob.tab)) ?_; rintro e W5 ⟨rfl, hk⟩; have r0_5 := hk.pw.box.1.1; have r1_5 := hk.pw.box.1.2; have f0_5 := hk.pw.box.2.1; have f1_5 := hk.pw.box.2.2; have zz5 := hk.pw.lt; have c0_5 := hk.own.1.1; have c1_5 := hk.own.1.2; have g0_5 := hk.own.2.1; have g1_5 := hk.own.2.2; have lt5 := hk.lt; have ne5 := Nat.ne_of_gt hk.ne; have K5 := Lib.hid hk; clear hk))
  exact bodyPost_ret (v := .tuple #[.agg #[.int .i64 0, .int .i64 0], .bool false]) (by simp [results, Tryd.results7, go_sem, r0_5, r1_5]) rfl ⟨(by repeat (first | exact K5.out.pw.bel | (refine Below.setCell ?_ (by first | exact Nat.le_refl _ | exact Nat.le_of_lt (by assumption) | (simp <;> omega)) _) | (refine Below.alloc ?_ (by simp <;> omega) _))), Or.inr ⟨rfl, HN.out⟩⟩
set_option maxRecDepth 100000 in
set_option maxHeartbeats 1000000 in
theorem impl_Parse_one_eq (s : ByteArray) (hs : s.size ≤ 1048576) (l r : List UInt8) (hc : Lib.cut s.data.toList [47] = (l, r, false)) (x : Int) (ha : Lib.atoiAll l = .ok x) (hfr : fracB x 1 = true) (hf : formText x 1 = s) (w : World) (hg : Glob w) : Calls Tryd.prog 7 #[.string s] w (ParsePost s w) := by
  have hlr := cut_len hc
  have hz : s.data.toList.length = s.size := by simp
  have hl : l.length ≤ 1048576 := by omega
  have hr : r.length ≤ 1048576 := by omega
  clear hlr hz
  have HN := Lib.hid (show fracText x 1 = s by rw [← hf, formText, if_pos hfr])
  have HK := Lib.hid hfr
  have hq : ((formText x 1).toList == s.toList) = true := by first | exact bytes_ne hf | exact bytes_eq hf
  clear hf
  have HC := Lib.hid hc
  have HL := Lib.hid ha
  have K0 := Lib.hid (PW.new hg 23)
  have hl' := Lib.hid hl
  have hr' := Lib.hid hr
  have hs' := Lib.hid hs
  clear hc ha hg hl hr hs
  go_enter Tryd.func7, Tryd.ntmps7
  go_wp2_with (first | (go_at_call 19; refine Calls.mono (by with_reducible exact K0.out.call (Cut_c s hs'.out l r false HC.out _ K0.out.glob)) ?_; rintro e W1 ⟨rfl, hk⟩; have r0_1 := hk.box.1.1; have r1_1 := hk.box.1.2; have f0_1 := hk.box.2.1; have f1_1 := hk.box.2.2; have zz1 := hk.lt; have K1 := Lib.hid hk; clear hk) | (go_at_call 20; refine Calls.mono (by with_reducible exact K1.out.call (Atoi_ok_c l hl'.out x HL.out _)) ?_; rintro e W2 ⟨rfl, hk⟩; have r0_2 := hk.box.1.1; have r1_2 := hk.box.1.2; have f0_2 := hk.box.2.1; have f1_2 := hk.box.2.2; have zz2 := hk.lt; have K2w := Lib.hid hk; have K2 := Lib.hid (PB.new hk x 1 23); clear hk) | (go_at_call 21; refine Calls.mono (by with_reducible exact K2.out.call (isFraction_c x 1 _)) ?_; rintro e W4 ⟨rfl, hk⟩; have r0_4 := hk.pw.box.1.1; have r1_4 := hk.pw.box.1.2; have f0_4 := hk.pw.box.2.1; have f1_4 := hk.pw.box.2.2; have zz4 := hk.pw.lt; have c0_4 := hk.own.1.1; have c1_4 := hk.own.1.2; have g0_4 := hk.own.2.1; have g1_4 := hk.own.2.2; have lt4 := hk.lt; have ne4 := Nat.ne_of_gt hk.ne; have K4 := Lib.hid hk; clear hk) | (go_at_call 10; refine Calls.mono (by with_reducible exact K4.out.call (impl_FormatFraction_c x 1 _ K4.out.pw.glob.tab)) ?_; rintro e W5 ⟨rfl, hk⟩; have r0_5 := hk.pw.box.1.1; have r1_5 := hk.pw.box.1.2; have f0_5 := hk.pw.box.2.1; have f1_5 := hk.pw.box.2.2; have zz5 := hk.pw.lt; have c0_5 := hk.own.1.1; have c1_5 := hk.own.1.2; have g0_5 := hk.own.2.1; have g1_5 := hk.own.2.2; have lt5 := hk.lt; have ne5 := Nat.ne_of_gt hk.ne; have K5 := Lib.hid hk; clear hk))
  exact bodyPost_ret (v := .tuple #[.agg #[.int .i64 x, .int .i64 1], .bool true]) (by simp [results, Tryd.results7, go_sem, r0_5, r1_5]) rfl ⟨(by repeat (first | exact K5.out.pw.bel | (refine Below.setCell ?_ (by first | exact Nat.le_refl _ | exact Nat.le_of_lt (by assumption) | (simp <;> omega)) _) | (refine Below.alloc ?_ (by simp <;> omega) _))), Or.inl ⟨x, 1, rfl, HK.out, HN.out⟩⟩
set_option maxRecDepth 100000 in
set_option maxHeartbeats 1000000 in
theorem impl_Parse_two_no (s : ByteArray) (hs : s.size ≤ 1048576) (l r : List UInt8) (hc : Lib.cut s.data.toList [47] = (l, r, true)) (ha : ∀ x, Lib.atoiAll l ≠ .ok x) (w : World) (hg : Glob w) : Calls Tryd.prog 7 #[.string s] w (ParsePost s w) := by
  have hlr := cut_len hc
  have hz : s.data.toList.length = s.size := by simp
  have hl : l.length ≤ 1048576 := by omega
  have hr : r.length ≤ 1048576 := by omega
  clear hlr hz
  have HN := Lib.hid (none_cut_two hc (fun X Y hX hY hF => absurd hX (ha X)))
  have HC := Lib.hid hc
  have HL := Lib.hid ha
  have K0 := Lib.hid (PW.new hg 23)
  have hl' := Lib.hid hl
  have hr' := Lib.hid hr
  have hs' := Lib.hid hs
  clear hc ha hg hl hr hs
  go_enter Tryd.func7, Tryd.ntmps7
  go_wp2_with (first | (go_at_call 19; refine Calls.mono (by with_reducible exact K0.out.call (Cut_c s hs'.out l r true HC.out _ K0.out.glob)) ?_; rintro e W1 ⟨rfl, hk⟩; have r0_1 := hk.box.1.1; have r1_1 := hk.box.1.2; have f0_1 := hk.box.2.1; have f1_1 := hk.box.2.2; have zz1 := hk.lt; have K1 := Lib.hid hk; clear hk) | (go_at_call 20; refine Calls.mono (by with_reducible exact K1.out.call (Atoi_no_c l hl'.out HL.out _ K1.out.glob)) ?_; rintro e W2 ⟨⟨x, N, rfl⟩, hk⟩; have r0_2 := hk.box.1.1; have r1_2 := hk.box.1.2; have f0_2 := hk.box.2.1; have f1_2 := hk.box.2.2; have zz2 := hk.lt; have K2w := Lib.hid hk; have K2 := Lib.hid (PB.new hk x 1 23); clear hk) | (go_at_call 20; refine Calls.mono (by with_reducible exact K2.out.call (Atoi_any_c r hr'.out _ K2.out.pw.glob)) ?_; rintro e W3 ⟨⟨y, v, rfl⟩, hk⟩; have r0_3 := hk.pw.box.1.1; have r1_3 := hk.pw.box.1.2; have f0_3 := hk.pw.box.2.1; have f1_3 := hk.pw.box.2.2; have zz3 := hk.pw.lt; have c0_3 := hk.own.1.1; have c1_3 := hk.own.1.2; have g0_3 := hk.own.2.1; have g1_3 := hk.own.2.2; have lt3 := hk.lt; have ne3 := Nat.ne_of_gt hk.ne; have K3w := Lib.hid hk.pw; have K3 := Lib.hid (PB.set hk y); clear hk))
  exact bodyPost_ret (v := .tuple #[.agg #[.int .i64 0, .int .i64 0], .bool false]) (by simp [results, Tryd.results7, go_sem, r0_3, r1_3]) rfl ⟨(by repeat (first | exact K3.out.pw.bel | exact K3w.out.bel | (refine Below.setCell ?_ (by first | exact Nat.le_refl _ | exact Nat.le_of_lt (by assumption) | (simp <;> omega)) _) | (refine Below.alloc ?_ (by simp <;> omega) _))), Or.inr ⟨rfl, HN.out⟩⟩
set_option maxRecDepth 100000 in
set_option maxHeartbeats 1000000 in
theorem impl_Parse_two_okno (s : ByteArray) (hs : s.size ≤ 1048576) (l r : List UInt8) (hc : Lib.cut s.data.toList [47] = (l, r, true)) (x : Int) (ha : Lib.atoiAll l = .ok x) (hb : ∀ x, Lib.atoiAll r ≠ .ok x) (w : World) (hg : Glob w) : Calls Tryd.prog 7 #[.string s] w (ParsePost s w) := by
  have hlr := cut_len hc
  have hz : s.data.toList.length = s.size := by simp
  have hl : l.length ≤ 1048576 := by omega
  have hr : r.length ≤ 1048576 := by omega
  clear hlr hz
  have HN := Lib.hid (none_cut_two hc (fun X Y hX hY hF => absurd hY (hb Y)))
  have HC := Lib.hid hc
  have HL := Lib.hid ha
  have HR := Lib.hid hb
  clear hb
  have K0 := Lib.hid (PW.new hg 23)
  have hl' := Lib.hid hl
  have hr' := Lib.hid hr
  have hs' := Lib.hid hs
  clear hc ha hg hl hr hs
  go_enter Tryd.func7, Tryd.ntmps7
  go_wp2_with (first | (go_at_call 19; refine Calls.mono (by with_reducible exact K0.out.call (Cut_c s hs'.out l r true HC.out _ K0.out.glob)) ?_; rintro e W1 ⟨rfl, hk⟩; have r0_1 := hk.box.1.1; have r1_1 := hk.box.1.2; have f0_1 := hk.box.2.1; have f1_1 := hk.box.2.2; have zz1 := hk.lt; have K1 := Lib.hid hk; clear hk) | (go_at_call 20; refine Calls.mono (by with_reducible exact K1.out.call (Atoi_ok_c l hl'.out x HL.out _)) ?_; rintro e W2 ⟨rfl, hk⟩; have r0_2 := hk.box.1.1; have r1_2 := hk.box.1.2; have f0_2 := hk.box.2.1; have f1_2 := hk.box.2.2; have zz2 := hk.lt; have K2w := Lib.hid hk; have K2 := Lib.hid (PB.new hk x 1 23); clear hk) | (go_at_call 20; refine Calls.mono (by with_reducible exact K2.out.call (Atoi_no_c r hr'.out HR.out _ K2.out.pw.glob)) ?_; rintro e W3 ⟨⟨y, N, rfl⟩, hk⟩; have r0_3 := hk.pw.box.1.1; have r1_3 := hk.pw.box.1.2; have f0_3 := hk.pw.box.2.1; have f1_3 := hk.pw.box.2.2; have zz3 := hk.pw.lt; have c0_3 := hk.own.1.1; have c1_3 := hk.own.1.2; have g0_3 := hk.own.2.1; have g1_3 := hk.own.2.2; have lt3 := hk.lt; have ne3 := Nat.ne_of_gt hk.ne; have K3w := Lib.hid hk.pw; have K3 := Lib.hid (PB.set hk y); clear hk))
  exact bodyPost_ret (v := .tuple #[.agg #[.int .i64 0, .int .i64 0], .bool false]) (by simp [results, Tryd.results7, go_sem, r0_3, r1_3]) rfl ⟨(by repeat (first | exact K3.out.pw.bel | exact K3w.out.bel | (refine Below.setCell ?_ (by first | exact Nat.le_refl _ | exact Nat.le_of_lt (by assumption) | (simp <;> omega)) _) | (refine Below.alloc ?_ (by simp <;> omega) _))), Or.inr ⟨rfl, HN.out⟩⟩
set_option maxRecDepth 100000 in
set_option maxHeartbeats 1000000 in
theorem impl_Parse_two_out (s : ByteArray) (hs : s.size ≤ 1048576) (l r : List UInt8) (hc : Lib.cut s.data.toList [47] = (l, r, true)) (x : Int) (ha : Lib.atoiAll l = .ok x) (y : Int) (hb : Lib.atoiAll r = .ok y) (hfr : fracB x y = false) (w : World) (hg : Glob w) : Calls Tryd.prog 7 #[.string s] w (ParsePost s w) := by
  have hlr := cut_len hc
  have hz : s.data.toList.length = s.size := by simp
  have hl : l.length ≤ 1048576 := by omega
  have hr : r.length ≤ 1048576 := by omega
  clear hlr hz
  have HN := Lib.hid (none_cut_two hc (fun X Y hX hY hF => by have e1 := NumEnd_inj (hX.symm.trans ha); have e2 := NumEnd_inj (hY.symm.trans hb); subst e1; subst e2; rw [hfr] at hF; cases hF))
  have HC := Lib.hid hc
  have HL := Lib.hid ha
  have HR := Lib.hid hb
  clear hb
  have K0 := Lib.hid (PW.new hg 23)
  have hl' := Lib.hid hl
  have hr' := Lib.hid hr
  have hs' := Lib.hid hs
  clear hc ha hg hl hr hs
  go_enter Tryd.func7, Tryd.ntmps7
  go_wp2_with (first | (go_at_call 19; refine Calls.mono (by with_reducible exact K0.out.call (Cut_c s hs'.out l r true HC.out _ K0.out.glob)) ?_; rintro e W1 ⟨rfl, hk⟩; have r0_1 := hk.box.1.1; have r1_1 := hk.box.1.2; have f0_1 := hk.box.2.1; have f1_1 := hk.box.2.2; have zz1 := hk.lt; have K1 := Lib.hid hk; clear hk) | (go_at_call 20; refine Calls.mono (by with_reducible exact K1.out.call (Atoi_ok_c l hl'.out x HL.out _)) ?_; rintro e W2 ⟨rfl, hk⟩; have r0_2 := hk.box.1.1; have r1_2 := hk.box.1.2; have f0_2 := hk.box.2.1; have f1_2 := hk.box.2.2; have zz2 := hk.lt; have K2w := Lib.hid hk; have K2 := Lib.hid (PB.new hk x 1 23); clear hk) | (go_at_call 20; refine Calls.mono (by with_reducible exact K2.out.call (Atoi_ok_c r hr'.out y HR.out _)) ?_; rintro e W3 ⟨rfl, hk⟩; have r0_3 := hk.pw.box.1.1; have r1_3 := hk.pw.box.1.2; have f0_3 := hk.pw.box.2.1; have f1_3 := hk.pw.box.2.2; have zz3 := hk.pw.lt; have c0_3 := hk.own.1.1; have c1_3 := hk.own.1.2; have g0_3 := hk.own.2.1; have g1_3 := hk.own.2.2; have lt3 := hk.lt; have ne3 := Nat.ne_of_gt hk.ne; have K3w := Lib.hid hk.pw; have K3 := Lib.hid (PB.set hk y); clear hk) | (go_at_call 21; refine Calls.mono (by with_reducible exact K3.out.call (isFraction_c x y _)) ?_; rintro e W4 ⟨rfl, hk⟩; have r0_4 := hk.pw.box.1.1; have r1_4 := hk.pw.box.1.2; have f0_4 := hk.pw.box.2.1; have f1_4 := hk.pw.box.2.2; have zz4 := hk.pw.lt; have c0_4 := hk.own.1.1; have c1_4 := hk.own.1.2; have g0_4 := hk.own.2.1; have g1_4 := hk.own.2.2; have lt4 := hk.lt; have ne4 := Nat.ne_of_gt hk.ne; have K4 := Lib.hid hk; clear hk))
  exact bodyPost_ret (v := .tuple #[.agg #[.int .i64 0, .int .i64 0], .bool false]) (by simp [results, Tryd.results7, go_sem, r0_4, r1_4]) rfl ⟨(by repeat (first | exact K4.out.pw.bel | (refine Below.setCell ?_ (by first | exact Nat.le_refl _ | exact Nat.le_of_lt (by assumption) | (simp <;> omega)) _) | (refine Below.alloc ?_ (by simp <;> omega) _))), Or.inr ⟨rfl, HN.out⟩⟩
set_option maxRecDepth 100000 in
set_option maxHeartbeats 1000000 in
theorem impl_Parse_two_ne (s : ByteArray) (hs : s.size ≤ 1048576) (l r : List UInt8) (hc : Lib.cut s.data.toList [47] = (l, r, true)) (x : Int) (ha : Lib.atoiAll l = .ok x) (y : Int) (hb : Lib.atoiAll r = .ok y) (hfr : fracB x y = true) (hf : ¬ formText x y = s) (w : World) (hg : Glob w) : Calls Tryd.prog 7 #[.string s] w (ParsePost s w) := by
  have hlr := cut_len hc
  have hz : s.data.toList.length = s.size := by simp
  have hl : l.length ≤ 1048576 := by omega
  have hr : r.length ≤ 1048576 := by omega
  clear hlr hz
  have HN := Lib.hid (none_cut_two hc (fun X Y hX hY hF => by have e1 := NumEnd_inj (hX.symm.trans ha); have e2 := NumEnd_inj (hY.symm.trans hb); subst e1; subst e2; exact hf))
  have HK := Lib.hid hfr
  have hq : ((formText x y).toList == s.toList) = false := by first | exact bytes_ne hf | exact bytes_eq hf
  clear hf
  have HC := Lib.hid hc
  have HL := Lib.hid ha
  have HR := Lib.hid hb
  clear hb
  have K0 := Lib.hid (PW.new hg 23)
  have hl' := Lib.hid hl
  have hr' := Lib.hid hr
  have hs' := Lib.hid hs
  clear hc ha hg hl hr hs
  go_enter Tryd.func7, Tryd.ntmps7
  go_wp2_with (first | (go_at_call 19; refine Calls.mono (by with_reducible exact K0.out.call (Cut_c s hs'.out l r true HC.out _ K0.out.glob)) ?_; rintro e W1 ⟨rfl, hk⟩; have r0_1 := hk.box.1.1; have r1_1 := hk.box.1.2; have f0_1 := hk.box.2.1; have f1_1 := hk.box.2.2; have zz1 := hk.lt; have K1 := Lib.hid hk; clear hk) | (go_at_call 20; refine Calls.mono (by with_reducible exact K1.out.call (Atoi_ok_c l hl'.out x HL.out _)) ?_; rintro e W2 ⟨rfl, hk⟩; have r0_2 := hk.box.1.1; have r1_2 := hk.box.1.2; have f0_2 := hk.box.2.1; have f1_2 := hk.box.2.2; have zz2 := hk.lt; have K2w := Lib.hid hk; have K2 := Lib.hid (PB.new hk x 1 23); clear hk) | (go_at_call 20; refine Calls.mono (by with_reducible exact K2.out.call (Atoi_ok_c r hr'.out y HR.out _)) ?_; rintro e W3 ⟨rfl, hk⟩; have r0_3 := hk.pw.box.1.1; have r1_3 := hk.pw.box.1.2; have f0_3 := hk.pw.box.2.1; have f1_3 := hk.pw.box.2.2; have zz3 := hk.pw.lt; have c0_3 := hk.own.1.1; have c1_3 := hk.own.1.2; have g0_3 := hk.own.2.1; have g1_3 := hk.own.2.2; have lt3 := hk.lt; have ne3 := Nat.ne_of_gt hk.ne; have K3w := Lib.hid hk.pw; have K3 := Lib.hid (PB.set hk y); clear hk) | (go_at_call 21; refine Calls.mono (by with_reducible exact K3.out.call (isFraction_c x y _)) ?_; rintro e W4 ⟨rfl, hk⟩; have r0_4 := hk.pw.box.1.1; have r1_4 := hk.pw.box.1.2; have f0_4 := hk.pw.box.2.1; have f1_4 := hk.pw.box.2.2; have zz4 := hk.pw.lt; have c0_4 := hk.own.1.1; have c1_4 := hk.own.1.2; have g0_4 := hk.own.2.1; have g1_4 := hk.own.2.2; have lt4 := hk.lt; have ne4 := Nat.ne_of_gt hk.ne; have K4 := Lib.hid hk; clear hk) | (go_at_call 10; refine Calls.mono (by with_reducible exact K4.out.call (impl_FormatFraction_c x y _ K4.out.pw.glob.tab)) ?_; rintro e W5 ⟨rfl, hk⟩; have r0_5 := hk.pw.box.1.1; have r1_5 := hk.pw.box.1.2; have f0_5 := hk.pw.box.2.1; have f1_5 := hk.pw.box.2.2; have zz5 := hk.pw.lt; have c0_5 := hk.own.1.1; have c1_5 := hk.own.1.2; have g0_5 := hk.own.2.1; have g1_5 := hk.own.2.2; have lt5 := hk.lt; have ne5 := Nat.ne_of_gt hk.ne; have K5 := Lib.hid hk; clear hk))
  exact bodyPost_ret (v := .tuple #[.agg #[.int .i64 0, .int .i64 0], .bool false]) (by simp [results, Tryd.results7, go_sem, r0_5, r1_5]) rfl ⟨(by repeat (first | exact K5.out.pw.bel | (refine Below.setCell ?_ (by first | exact Nat.le_refl _ | exact Nat.le_of_lt (by assumption) | (simp <;> omega)) _) | (refine Below.alloc ?_ (by simp <;> omega) _))), Or.inr ⟨rfl, HN.out⟩⟩
set_option maxRecDepth 100000 in
set_option maxHeartbeats 1000000 in
theorem impl_Parse_two_eq (s : ByteArray) (hs : s.size ≤ 1048576) (l r : List UInt8) (hc : Lib.cut s.data.toList [47] = (l, r, true)) (x : Int) (ha : Lib.atoiAll l = .ok x) (y : Int) (hb : Lib.atoiAll r = .ok y) (hfr : fracB x y = true) (hf : formText x y = s) (w : World) (hg : Glob w) : Calls Tryd.prog 7 #[.string s] w (ParsePost s w) := by
  have hlr := cut_len hc
  have hz : s.data.toList.length = s.size := by simp
  have hl : l.length ≤ 1048576 := by omega
  have hr : r.length ≤ 1048576 := by omega
  clear hlr hz
  have HN := Lib.hid (show fracText x y = s by rw [← hf, formText, if_pos hfr])
  have HK := Lib.hid hfr
  have hq : ((formText x y).toList == s.toList) = true := by first | exact bytes_ne hf | exact bytes_eq hf
  clear hf
  have HC := Lib.hid hc
  have HL := Lib.hid ha
  have HR := Lib.hid hb
  clear hb
  have K0 := Lib.hid (PW.new hg 23)
  have hl' := Lib.hid hl
  have hr' := Lib.hid hr
  have hs' := Lib.hid hs
  clear hc ha hg hl hr hs
  go_enter Tryd.func7, Tryd.ntmps7
  go_wp2_with (first | (go_at_call 19; refine Calls.mono (by with_reducible exact K0.out.call (Cut_c s hs'.out l r true HC.out _ K0.out.glob)) ?_; rintro e W1 ⟨rfl, hk⟩; have r0_1 := hk.box.1.1; have r1_1 := hk.box.1.2; have f0_1 := hk.box.2.1; have f1_1 := hk.box.2.2; have zz1 := hk.lt; have K1 := Lib.hid hk; clear hk) | (go_at_call 20; refine Calls.mono (by with_reducible exact K1.out.call (Atoi_ok_c l hl'.out x HL.out _)) ?_; rintro e W2 ⟨rfl, hk⟩; have r0_2 := hk.box.1.1; have r1_2 := hk.box.1.2; have f0_2 := hk.box.2.1; have f1_2 := hk.box.2.2; have zz2 := hk.lt; have K2w := Lib.hid hk; have K2 := Lib.hid (PB.new hk x 1 23); clear hk) | (go_at_call 20; refine Calls.mono (by with_reducible exact K2.out.call (Atoi_ok_c r hr'.out y HR.out _)) ?_; rintro e W3 ⟨rfl, hk⟩; have r0_3 := hk.pw.box.1.1; have r1_3 := hk.pw.box.1.2; have f0_3 := hk.pw.box.2.1; have f1_3 := hk.pw.box.2.2; have zz3 := hk.pw.lt; have c0_3 := hk.own.1.1; have c1_3 := hk.own.1.2; have g0_3 := hk.own.2.1; have g1_3 := hk.own.2.2; have lt3 := hk.lt; have ne3 := Nat.ne_of_gt hk.ne; have K3w := Lib.hid hk.pw; have K3 := Lib.hid (PB.set hk y); clear hk) | (go_at_call 21; refine Calls.mono (by with_reducible exact K3.out.call (isFraction_c x y _)) ?_; rintro e W4 ⟨rfl, hk⟩; have r0_4 := hk.pw.box.1.1; have r1_4 := hk.pw.box.1.2; have f0_4 := hk.pw.box.2.1; have f1_4 := hk.pw.box.2.2; have zz4 := hk.pw.lt; have c0_4 := hk.own.1.1; have c1_4 := hk.own.1.2; have g0_4 := hk.own.2.1; have g1_4 := hk.own.2.2; have lt4 := hk.lt; have ne4 := Nat.ne_of_gt hk.ne; have K4 := Lib.hid hk; clear hk) | (go_at_call 10; refine Calls.mono (by with_reducible exact K4.out.call (impl_FormatFraction_c x y _ K4.out.pw.glob.tab)) ?_; rintro e W5 ⟨rfl, hk⟩; have r0_5 := hk.pw.box.1.1; have r1_5 := hk.pw.box.1.2; have f0_5 := hk.pw.box.2.1; have f1_5 := hk.pw.box.2.2; have zz5 := hk.pw.lt; have c0_5 := hk.own.1.1; have c1_5 := hk.own.1.2; have g0_5 := hk.own.2.1; have g1_5 := hk.own.2.2; have lt5 := hk.lt; have ne5 := Nat.ne_of_gt hk.ne; have K5 := Lib.hid hk; clear hk))
  exact bodyPost_ret (v := .tuple #[.agg #[.int .i64 x, .int .i64 y], .bool true]) (by simp [results, Tryd.results7, go_sem, r0_5, r1_5]) rfl ⟨(by repeat (first | exact K5.out.pw.bel | (refine Below.setCell ?_ (by first | exact Nat.le_refl _ | exact Nat.le_of_lt (by assumption) | (simp <;> omega)) _) | (refine Below.alloc ?_ (by simp <;> omega) _))), Or.inl ⟨x, y, rfl, HK.out, HN.out⟩⟩
end Go.Proofs.YtggonihjnipobaaDoor
