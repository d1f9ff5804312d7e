/- Contract: laws.FnFractionText. Conditions: the library's variables lie as laid. -/
import Derived.Test.YtggonihjnipobaaDoorSk
import Derived.Deep.RegionHeld3
import Derived.BigGuardPart
namespace Go.Proofs.YtggonihjnipobaaDoor
open Go.RowKit

set_option maxRecDepth 100000 in
set_option maxHeartbeats 4000000 in
theorem textLaw_c (A0 : Option Addr) (n0 c0 : Nat) (z0 : List Int) (A1 : Option Addr) (n1 c1 : Nat) (z1 : List Int) (w : World) (hg : Glob w) (h0 : IsRow .u8 w A0 n0 c0 z0) (h1 : IsRow .u8 w A1 n1 c1 z1) :
    Calls Tryd.prog 4 #[.slice A0 n0 c0, .slice A1 n1 c1] w fun e w' => e = .returned (.bool true) ∧ Below w.heap.size w w' := by
  by_cases hn : n0 ≤ 1048576
  · have hn2 : (n0 : Int) ≤ 1048576 := by omega
    have hn2d : decide ((1048576 : Int) < (n0 : Int)) = false := by simp; omega
    by_cases hm : n1 ≤ 1048576
    · have hm2 : (n1 : Int) ≤ 1048576 := by omega
      have hm2d : decide ((1048576 : Int) < (n1 : Int)) = false := by simp; omega
      have H0 := Lib.hid h0
      have H1 := Lib.hid h1
      have HG := Lib.hid hg
      clear h0 h1 hg
      go_enter Tryd.func4, Tryd.ntmps4
      go_wp2_with fail
      refine (DrawFormat_c _ _ _ _ _ H0.out).mono ?_
      rintro e W1 ⟨x, y, rfl, hb1⟩
      have K1 := Lib.hid (QB.new hb1 HG.out x y 23)
      clear hb1
      rcases hv : fracB x y with _ | _
      · have hs : formText x y = ⟨#[]⟩ := by rw [formText, hv]; rfl
        go_wp2_with fail
        refine Calls.mono (by with_reducible exact K1.out.call (impl_FormatFraction_c x y _ K1.out.glob.tab)) ?_
        rintro e W2 ⟨rfl, hk⟩
        have c0_2 := hk.own.1.1
        have c1_2 := hk.own.1.2
        have lt_2 := hk.lt
        have ne_2 := Nat.ne_of_lt hk.lt
        have K2 := Lib.hid hk
        clear hk
        go_wp2_with fail
        go_region_held3 (fun w' => w'.cell? ⟨W1.heap.size, 0, none⟩ = some (.int .i64 x) ∧ w'.cell? ⟨W1.heap.size, 1, none⟩ = some (.int .i64 y))
          (first | with_reducible exact ⟨c0_6, c1_6⟩ | with_reducible exact ⟨c0_5, c1_5⟩ | with_reducible exact ⟨c0_4, c1_4⟩ | with_reducible exact ⟨c0_3, c1_3⟩ | exact ⟨c0_2, c1_2⟩)
          (first | (go_at_call 11; refine Calls.mono (by with_reducible exact spec_FormatFraction_c x y _) ?_; rintro e W3 ⟨rfl, hb⟩; (try with_reducible replace hb := nodrew hb); have hk := K2.out.step hb; clear hb; have c0_3 := hk.own.1.1; have c1_3 := hk.own.1.2; have lt_3 := hk.lt; have ne_3 := Nat.ne_of_lt hk.lt; have K3 := Lib.hid hk; clear hk) | (go_at_call 12; refine Calls.mono (by with_reducible exact impl_FractionValid_c x y _) ?_; rintro e W4 ⟨rfl, hb⟩; (try with_reducible replace hb := nodrew hb); have hk := K3.out.step hb; clear hb; have c0_4 := hk.own.1.1; have c1_4 := hk.own.1.2; have lt_4 := hk.lt; have ne_4 := Nat.ne_of_lt hk.lt; have K4 := Lib.hid hk; clear hk) | (go_at_call 12; refine Calls.mono (by with_reducible exact impl_FractionValid_c x y _) ?_; rintro e W5 ⟨rfl, hb⟩; (try with_reducible replace hb := nodrew hb); have hk := K4.out.step hb; clear hb; have c0_5 := hk.own.1.1; have c1_5 := hk.own.1.2; have lt_5 := hk.lt; have ne_5 := Nat.ne_of_lt hk.lt; have K5 := Lib.hid hk; clear hk) | (go_at_call 13; refine Calls.mono (by with_reducible exact spec_FractionValid_c x y _) ?_; rintro e W6 ⟨rfl, hb⟩; (try with_reducible replace hb := nodrew hb); have hk := K5.out.step hb; clear hb; have c0_6 := hk.own.1.1; have c1_6 := hk.own.1.2; have lt_6 := hk.lt; have ne_6 := Nat.ne_of_lt hk.lt; have K6 := Lib.hid hk; clear hk))
        clear c0_2 c1_2 c0_3 c1_3 c0_4 c1_4 c0_5 c1_5

        go_wp2_with fail
        refine (DrawParse_c _ _ _ _ _ (H1.out.below K6.out.bel)).mono ?_
        rintro e V1 ⟨t, ht, rfl, hb⟩
        have HL1 := Lib.hid (chain hb K6.out.bel.size K6.out.bel)
        clear hb
        obtain ⟨X, Y, B, hi, hsp, hB⟩ := parse_text t ht
        have HI := Lib.hid hi
        have HS := Lib.hid hsp
        clear hi hsp
        rcases B with _ | _
        · clear hB
          go_wp2_with fail
          refine Calls.mono (HI.out _ (HG.out.below HL1.out)) ?_
          rintro e V2 ⟨rfl, hb⟩
          have M2 := Lib.hid (QB.new (chain hb HL1.out.size HL1.out) HG.out X Y 23)
          clear hb
          go_wp2_with fail
          refine Calls.mono (by with_reducible exact M2.out.call (HS.out _)) ?_
          rintro e V3 ⟨rfl, hk⟩
          have u0 := hk.own.1.1
          have u1 := hk.own.1.2
          have ul := hk.lt
          have un := Nat.ne_of_lt hk.lt
          have M3 := Lib.hid (hk.free (.cells #[.int .i64 X, .int .i64 Y] 23))
          clear hk
          go_wp2_with fail
          go_ret
          exact ⟨rfl, M3.out.bel⟩
        · have hT : formText X Y = t := hB rfl
          have hE : (t.toList == t.toList) = true := beq_self_eq_true _
          clear hB
          go_wp2_with fail
          refine Calls.mono (HI.out _ (HG.out.below HL1.out)) ?_
          rintro e V2 ⟨rfl, hb⟩
          have M2 := Lib.hid (QB.new (chain hb HL1.out.size HL1.out) HG.out X Y 23)
          clear hb
          go_wp2_with fail
          refine Calls.mono (by with_reducible exact M2.out.call (HS.out _)) ?_
          rintro e V3 ⟨rfl, hk⟩
          have u0 := hk.own.1.1
          have u1 := hk.own.1.2
          have ul := hk.lt
          have un := Nat.ne_of_lt hk.lt
          have M3 := Lib.hid (hk.free (.cells #[.int .i64 X, .int .i64 Y] 23))
          clear hk
          go_wp2_with (go_at_call 10; refine Calls.mono (by with_reducible exact M3.out.call (impl_FormatFraction_c X Y _ M3.out.glob.tab)) ?_; rintro e V4 ⟨rfl, hk⟩; have M4 := Lib.hid hk; clear hk)
          go_ret
          exact ⟨rfl, M4.out.bel⟩
      · have HV := Lib.hid hv
        have HP := Lib.hid (impl_Parse_text_c x y hv)
        have hz := text_small (frac_bd hv)
        have hs : formText x y = fracText x y := by rw [formText, if_pos hv]
        generalize fracText x y = s at *
        have hq : (s.toList == ([] : List UInt8)) = false := bytes_some hz.1
        clear hz
        go_wp2_with fail
        refine Calls.mono (by with_reducible exact K1.out.call (impl_FormatFraction_c x y _ K1.out.glob.tab)) ?_
        rintro e W2 ⟨rfl, hk⟩
        have c0_2 := hk.own.1.1
        have c1_2 := hk.own.1.2
        have lt_2 := hk.lt
        have ne_2 := Nat.ne_of_lt hk.lt
        have K2 := Lib.hid hk
        clear hk
        go_wp2_with fail
        go_region_held3 (fun w' => w'.cell? ⟨W1.heap.size, 0, none⟩ = some (.int .i64 x) ∧ w'.cell? ⟨W1.heap.size, 1, none⟩ = some (.int .i64 y))
          (first | with_reducible exact ⟨c0_6, c1_6⟩ | with_reducible exact ⟨c0_5, c1_5⟩ | with_reducible exact ⟨c0_4, c1_4⟩ | with_reducible exact ⟨c0_3, c1_3⟩ | exact ⟨c0_2, c1_2⟩)
          (first | (go_at_call 11; refine Calls.mono (by with_reducible exact spec_FormatFraction_c x y _) ?_; rintro e W3 ⟨rfl, hb⟩; (try with_reducible replace hb := nodrew hb); have hk := K2.out.step hb; clear hb; have c0_3 := hk.own.1.1; have c1_3 := hk.own.1.2; have lt_3 := hk.lt; have ne_3 := Nat.ne_of_lt hk.lt; have K3 := Lib.hid hk; clear hk) | (go_at_call 12; refine Calls.mono (by with_reducible exact impl_FractionValid_c x y _) ?_; rintro e W4 ⟨rfl, hb⟩; (try with_reducible replace hb := nodrew hb); have hk := K3.out.step hb; clear hb; have c0_4 := hk.own.1.1; have c1_4 := hk.own.1.2; have lt_4 := hk.lt; have ne_4 := Nat.ne_of_lt hk.lt; have K4 := Lib.hid hk; clear hk) | (go_at_call 12; refine Calls.mono (by with_reducible exact impl_FractionValid_c x y _) ?_; rintro e W5 ⟨rfl, hb⟩; (try with_reducible replace hb := nodrew hb); have hk := K4.out.step hb; clear hb; have c0_5 := hk.own.1.1; have c1_5 := hk.own.1.2; have lt_5 := hk.lt; have ne_5 := Nat.ne_of_lt hk.lt; have K5 := Lib.hid hk; clear hk) | (go_at_call 13; refine Calls.mono (by with_reducible exact spec_FractionValid_c x y _) ?_; rintro e W6 ⟨rfl, hb⟩; (try with_reducible replace hb := nodrew hb); have hk := K5.out.step hb; clear hb; have c0_6 := hk.own.1.1; have c1_6 := hk.own.1.2; have lt_6 := hk.lt; have ne_6 := Nat.ne_of_lt hk.lt; have K6 := Lib.hid hk; clear hk))
        clear c0_2 c1_2 c0_3 c1_3 c0_4 c1_4 c0_5 c1_5

        go_wp2_with fail
        refine Calls.mono (by with_reducible exact K6.out.call (HP.out _ K6.out.glob)) ?_
        rintro e W7 ⟨rfl, hk⟩
        have c0_7 := hk.own.1.1
        have c1_7 := hk.own.1.2
        have lt_7 := hk.lt
        have ne_7 := Nat.ne_of_lt hk.lt
        have K7 := Lib.hid (hk.free (.cells #[.int .i64 x, .int .i64 y] 23))
        have Q7 := Lib.hid (QB.new hk.bel HG.out x y 23)
        clear hk
        go_wp2_with fail
        refine Calls.mono (impl_Fractional_ok x y HV.out _) ?_
        rintro e W8 ⟨rfl, hb⟩
        have hk := K7.out.step hb
        have c0_8 := hk.own.1.1
        have c1_8 := hk.own.1.2
        have lt_8 := hk.lt
        have ne_8 := Nat.ne_of_lt hk.lt
        have K8 := Lib.hid (hk.free (.cells #[.int .i64 x, .int .i64 y] 23))
        clear hk
        have hk := Q7.out.step hb
        have d0_8 := hk.own.1.1
        have d1_8 := hk.own.1.2
        have ld_8 := hk.lt
        have nd_8 := Nat.ne_of_lt hk.lt
        clear hk hb

        go_wp2_with fail
        refine (DrawParse_c _ _ _ _ _ (H1.out.below K8.out.bel)).mono ?_
        rintro e V1 ⟨t, ht, rfl, hb⟩
        have HL1 := Lib.hid (chain hb K8.out.bel.size K8.out.bel)
        clear hb
        obtain ⟨X, Y, B, hi, hsp, hB⟩ := parse_text t ht
        have HI := Lib.hid hi
        have HS := Lib.hid hsp
        clear hi hsp
        rcases B with _ | _
        · clear hB
          go_wp2_with fail
          refine Calls.mono (HI.out _ (HG.out.below HL1.out)) ?_
          rintro e V2 ⟨rfl, hb⟩
          have M2 := Lib.hid (QB.new (chain hb HL1.out.size HL1.out) HG.out X Y 23)
          clear hb
          go_wp2_with fail
          refine Calls.mono (by with_reducible exact M2.out.call (HS.out _)) ?_
          rintro e V3 ⟨rfl, hk⟩
          have u0 := hk.own.1.1
          have u1 := hk.own.1.2
          have ul := hk.lt
          have un := Nat.ne_of_lt hk.lt
          have M3 := Lib.hid (hk.free (.cells #[.int .i64 X, .int .i64 Y] 23))
          clear hk
          go_wp2_with fail
          go_ret
          exact ⟨rfl, M3.out.bel⟩
        · have hT : formText X Y = t := hB rfl
          have hE : (t.toList == t.toList) = true := beq_self_eq_true _
          clear hB
          go_wp2_with fail
          refine Calls.mono (HI.out _ (HG.out.below HL1.out)) ?_
          rintro e V2 ⟨rfl, hb⟩
          have M2 := Lib.hid (QB.new (chain hb HL1.out.size HL1.out) HG.out X Y 23)
          clear hb
          go_wp2_with fail
          refine Calls.mono (by with_reducible exact M2.out.call (HS.out _)) ?_
          rintro e V3 ⟨rfl, hk⟩
          have u0 := hk.own.1.1
          have u1 := hk.own.1.2
          have ul := hk.lt
          have un := Nat.ne_of_lt hk.lt
          have M3 := Lib.hid (hk.free (.cells #[.int .i64 X, .int .i64 Y] 23))
          clear hk
          go_wp2_with (go_at_call 10; refine Calls.mono (by with_reducible exact M3.out.call (impl_FormatFraction_c X Y _ M3.out.glob.tab)) ?_; rintro e V4 ⟨rfl, hk⟩; have M4 := Lib.hid hk; clear hk)
          go_ret
          exact ⟨rfl, M4.out.bel⟩
    · have hm2 : 1048576 < (n1 : Int) := by omega
      have hm2d : decide ((1048576 : Int) < (n1 : Int)) = true := by simp; omega
      go_enter Tryd.func4, Tryd.ntmps4
      go_wp2_with fail
      go_ret
      exact ⟨rfl, Below.refl _ _⟩
  · have hn2 : 1048576 < (n0 : Int) := by omega
    have hn2d : decide ((1048576 : Int) < (n0 : Int)) = true := by simp; omega
    go_enter Tryd.func4, Tryd.ntmps4
    go_wp2_with fail
    go_ret
    exact ⟨rfl, Below.refl _ _⟩
end Go.Proofs.YtggonihjnipobaaDoor
