/- Contracts: the two parsers, and the law's function. Conditions: the library's variables lie as laid. -/
import Derived.Test.YtggonihjnipobaaDoorSg
namespace Go.Proofs.YtggonihjnipobaaDoor
open Go.RowKit

/-- What both parsers give is one. -/
theorem parse_one (s : ByteArray) : ∃ X Y B, (∀ w e w', ParsePost s w e w' → e = .returned (.tuple #[.agg #[.int .i64 X, .int .i64 Y], .bool B]) ∧ Below w.heap.size w w') ∧ (B = true → fracB X Y = true ∧ fracText X Y = s) := by
  by_cases h : ∃ x y, fracB x y = true ∧ fracText x y = s
  · obtain ⟨x, y, h1, h2⟩ := h
    refine ⟨x, y, true, fun w e w' hp => ?_, fun _ => ⟨h1, h2⟩⟩
    rcases hp with ⟨hb, ⟨x', y', rfl, h1', h2'⟩ | ⟨rfl, hn⟩⟩
    · obtain ⟨rfl, rfl⟩ := fracText_inj h1 h1' (h2.trans h2'.symm)
      exact ⟨rfl, hb⟩
    · exact absurd h2 (hn x y h1)
  · refine ⟨0, 0, false, fun w e w' hp => ?_, fun e => by cases e⟩
    rcases hp with ⟨hb, ⟨x', y', rfl, h1', h2'⟩ | ⟨rfl, hn⟩⟩
    · exact absurd ⟨x', y', h1', h2'⟩ h
    · exact ⟨rfl, hb⟩
theorem impl_ParseFraction_c (s : ByteArray) (hs : s.size ≤ 1048576) (w : World) (hg : Glob w) : Calls Tryd.prog 7 #[.string s] w (ParsePost s w) := by
  rcases hc : Lib.cut s.data.toList [47] with ⟨l, r, _ | _⟩
  · by_cases h : ∃ x, Lib.atoiAll l = .ok x
    · obtain ⟨x, ha⟩ := h
      rcases hfr : fracB x 1 with _ | _
      · exact impl_Parse_one_out s hs l r hc x ha hfr w hg
      · by_cases hf : formText x 1 = s
        · exact impl_Parse_one_eq s hs l r hc x ha hfr hf w hg
        · exact impl_Parse_one_ne s hs l r hc x ha hfr hf w hg
    · exact impl_Parse_one_no s hs l r hc (fun x hx => h ⟨x, hx⟩) w hg
  · by_cases h : ∃ x, Lib.atoiAll l = .ok x
    · obtain ⟨x, ha⟩ := h
      by_cases h' : ∃ y, Lib.atoiAll r = .ok y
      · obtain ⟨y, hb⟩ := h'
        rcases hfr : fracB x y with _ | _
        · exact impl_Parse_two_out s hs l r hc x ha y hb hfr w hg
        · by_cases hf : formText x y = s
          · exact impl_Parse_two_eq s hs l r hc x ha y hb hfr hf w hg
          · exact impl_Parse_two_ne s hs l r hc x ha y hb hfr hf w hg
      · exact impl_Parse_two_okno s hs l r hc x ha (fun x hx => h' ⟨x, hx⟩) w hg
    · exact impl_Parse_two_no s hs l r hc (fun x hx => h ⟨x, hx⟩) w hg
/-- A box that lies behind w. -/
structure QB (w W : World) (b : Nat) (x y : Int) : Prop where
  bel : Below w.heap.size w W
  first : Glob w
  lt : b < W.heap.size
  own : CX W b x y
theorem QB.glob {w W : World} {b : Nat} {x y : Int} (h : QB w W b x y) : Glob W := h.first.below h.bel
theorem QB.new {w W : World} (h : Below w.heap.size w W) (hg : Glob w) (x y : Int) (t : TypeId) : QB w (W.alloc (.cells #[.int .i64 x, .int .i64 y] t)) W.heap.size x y :=
  ⟨h.alloc h.size _, hg, by simp, CX.new _ _ _ _⟩
theorem QB.step {w W W' : World} {b : Nat} {x y : Int} (h : QB w W b x y) (hb : Below W.heap.size W W') : QB w W' b x y :=
  ⟨chain hb h.bel.size h.bel, h.first, Nat.lt_of_lt_of_le h.lt hb.size, h.own.below hb h.lt⟩
theorem QB.call {w W : World} {b : Nat} {x y : Int} {P : Program} {f : FuncId} {args : Array Value} {R : Ending → Prop} (h : QB w W b x y) (hc : Calls P f args W fun e w' => R e ∧ Below W.heap.size W w') :
    Calls P f args W fun e w' => R e ∧ QB w w' b x y :=
  hc.mono fun _ _ hr => ⟨hr.1, h.step hr.2⟩
set_option maxRecDepth 100000 in
set_option maxHeartbeats 1000000 in
theorem parseLaw_true (s : ByteArray) (hs : s.size ≤ 1048576) (X Y : Int) (hX : ∀ w e w', ParsePost s w e w' → e = .returned (.tuple #[.agg #[.int .i64 X, .int .i64 Y], .bool true]) ∧ Below w.heap.size w w') (w : World) (hg : Glob w) :
    Calls Tryd.prog 3 #[.string s] w fun e w' => e = .returned (.bool true) ∧ Below w.heap.size w w' := by
  have HS := Lib.hid hs
  have HX := Lib.hid hX
  have HG := Lib.hid hg
  have q1 : ¬ 1048576 < (s.size : Int) := by omega
  clear hs hX hg
  go_enter Tryd.func3, Tryd.ntmps3
  go_wp2_with (first | (go_at_call 6; refine Calls.mono (by with_reducible exact (spec_ParseFraction_c s HS.out _).mono (HX.out _)) ?_; rintro e W1 ⟨rfl, hb⟩; have K1 := Lib.hid (QB.new hb HG.out X Y 23); clear hb) | (go_at_call 7; refine Calls.mono (by with_reducible exact K1.out.call ((impl_ParseFraction_c s HS.out _ K1.out.glob).mono (HX.out _))) ?_; rintro e W2 ⟨rfl, hk⟩; have c0 := hk.own.1.1; have c1 := hk.own.1.2; have lt2 := hk.lt; have ne2 := Nat.ne_of_lt hk.lt; have K2 := Lib.hid (hk.step ((Below.refl _ _).alloc (Nat.le_refl _) (.cells #[.int .i64 X, .int .i64 Y] 23))); clear hk) | (go_at_call 8; refine Calls.mono (by with_reducible exact K2.out.call (eqFraction_c X Y _)) ?_; rintro e W3 ⟨rfl, hk⟩; have K3 := Lib.hid hk; clear hk))
  go_ret
  exact ⟨rfl, K3.out.bel⟩
set_option maxRecDepth 100000 in
set_option maxHeartbeats 1000000 in
theorem parseLaw_false (s : ByteArray) (hs : s.size ≤ 1048576) (X Y : Int) (hX : ∀ w e w', ParsePost s w e w' → e = .returned (.tuple #[.agg #[.int .i64 X, .int .i64 Y], .bool false]) ∧ Below w.heap.size w w') (w : World) (hg : Glob w) :
    Calls Tryd.prog 3 #[.string s] w fun e w' => e = .returned (.bool true) ∧ Below w.heap.size w w' := by
  have HS := Lib.hid hs
  have HX := Lib.hid hX
  have HG := Lib.hid hg
  have q1 : ¬ 1048576 < (s.size : Int) := by omega
  clear hs hX hg
  go_enter Tryd.func3, Tryd.ntmps3
  go_wp2_with (first | (go_at_call 6; refine Calls.mono (by with_reducible exact (spec_ParseFraction_c s HS.out _).mono (HX.out _)) ?_; rintro e W1 ⟨rfl, hb⟩; have K1 := Lib.hid (QB.new hb HG.out X Y 23); clear hb) | (go_at_call 7; refine Calls.mono (by with_reducible exact K1.out.call ((impl_ParseFraction_c s HS.out _ K1.out.glob).mono (HX.out _))) ?_; rintro e W2 ⟨rfl, hk⟩; have c0 := hk.own.1.1; have c1 := hk.own.1.2; have lt2 := hk.lt; have ne2 := Nat.ne_of_lt hk.lt; have K2 := Lib.hid (hk.step ((Below.refl _ _).alloc (Nat.le_refl _) (.cells #[.int .i64 X, .int .i64 Y] 23))); clear hk) | (go_at_call 8; refine Calls.mono (by with_reducible exact K2.out.call (eqFraction_c X Y _)) ?_; rintro e W3 ⟨rfl, hk⟩; have K3 := Lib.hid hk; clear hk))
  go_ret
  exact ⟨rfl, K3.out.bel⟩
theorem parseLaw_c (s : ByteArray) (w : World) (hg : Glob w) :
    Calls Tryd.prog 3 #[.string s] w fun e w' => e = .returned (.bool true) ∧ Below w.heap.size w w' := by
  by_cases hs : s.size ≤ 1048576
  · obtain ⟨X, Y, _ | _, hX, _⟩ := parse_one s
    · exact parseLaw_false s hs X Y hX w hg
    · exact parseLaw_true s hs X Y hX w hg
  · have q1 : 1048576 < (s.size : Int) := by omega
    go_enter Tryd.func3, Tryd.ntmps3
    go_wp2_with fail
    go_ret
    exact ⟨rfl, Below.refl _ _⟩
end Go.Proofs.YtggonihjnipobaaDoor
