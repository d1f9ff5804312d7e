/- Contracts: what FnFractionText draws. Conditions: as stated. -/
import Derived.Test.YtggonihjnipobaaDoorSh
import Derived.Test.YtggonihjnipobaaDoorWj
namespace Go.Proofs.YtggonihjnipobaaDoor
open Go.RowKit

def Bd (x y : Int) : Prop := (-1000000000 ≤ x ∧ x ≤ 1000000000) ∧ (-1000000000 ≤ y ∧ y ≤ 1000000000)
theorem low_bd (p q : Int) : Bd (sel (lowB p q) (lowX p q)) (sel (lowB p q) (lowY p q)) := by
  rcases h : lowB p q with _ | _
  · exact (show Bd 0 0 from ⟨by decide, by decide⟩)
  · exact frac_bounds h
theorem l2MadeB_c (num den : Int) (hn : Small num) (hd : Small den) (h0 : den ≠ 0) (w : World) :
    Calls Tryd.prog 41 #[.int .i64 num, .int .i64 den] w fun e w' => ∃ X Y B, Bd X Y ∧ e = .returned (.tuple #[.agg #[.int .i64 X, .int .i64 Y], .bool B]) ∧ Below w.heap.size w w' := by
  refine (l2Made_c num den hn hd h0 w).mono ?_
  rintro e w' ⟨rfl, hb⟩
  exact ⟨_, _, _, low_bd num den, rfl, hb⟩
set_option maxHeartbeats 4000000 in
theorem l2SomeB_c (g q : Nat) (hq : q ≤ 900000) (w : World) (hr : Reader w g q) :
    Calls Tryd.prog 31 #[.pointer (some ⟨g, 0, none⟩)] w fun e w' => ∃ x y, Bd x y ∧ e = .returned (.agg #[.int .i64 x, .int .i64 y]) ∧ Reader w' g (q + 4) ∧ w.grownBy w' (some g) := by
  have hlt := hr.lt
  have HR := Lib.hid hr
  clear hr
  go_enter Tryd.func31, Tryd.ntmps31
  go_wp2_with fail
  refine (pick_c g q _ (by omega) (by omega) _ (HR.out.alloc _)).mono ?_
  rintro e w1 ⟨x, rfl, x0, x1, hr1, hg1⟩
  have s1 : w.heap.size < w1.heap.size := by have := hg1.size; simp at this; omega
  have HR1 := Lib.hid hr1
  have HC1 := Lib.hid ((CX.new w 0 0 _).grown hg1 (by omega) (by simp))
  have HG1 := Lib.hid (grown_trans_row (grown_alloc (grown_refl w _) _) hg1)
  have x2 : x < 13 := by omega
  clear hr1 hg1 x1
  go_wp2_with fail
  refine (pick_c g (q + 1) _ (by omega) (by omega) _ HR1.out).mono ?_
  rintro e w2 ⟨y, rfl, y0, y1, hr2, hg2⟩
  have s2 : w.heap.size < w2.heap.size := by have := hg2.size; omega
  have HR2 := Lib.hid hr2
  have HC2 := Lib.hid (HC1.out.grown hg2 (by omega) s1)
  have HG2 := Lib.hid (grown_trans_row HG1.out hg2)
  have y2 : y < 12 := by omega
  clear hr2 hg2 y1
  go_wp2_with fail
  refine (l2MadeB_c _ _ (by unfold Small; omega) (by unfold Small; omega) (by omega) _).mono ?_
  rintro e w3 ⟨X, Y, B, hbd, rfl, hb3⟩
  have HBd := Lib.hid hbd
  clear hbd
  have s3 : w.heap.size < w3.heap.size := by have := hb3.size; omega
  have HR3 := Lib.hid (HR2.out.below hb3)
  have HC3 := Lib.hid (HC2.out.below hb3 s2)
  have HG3 := Lib.hid (grown_below HG2.out hb3)
  clear hb3
  go_wp2_with fail
  refine (pick_c g (q + 1 + 1) _ (by omega) (by omega) _ (HR3.out.alloc _)).mono ?_
  rintro e w4 ⟨z, rfl, z0, z1, hr4, hg4⟩
  have sF4 : w3.heap.size < w4.heap.size := by have := hg4.size; simp at this; omega
  have s4 : w.heap.size < w4.heap.size := by omega
  have HR4 := Lib.hid hr4
  have HF4 := Lib.hid ((CX.new w3 X Y _).grown hg4 (by omega) (by simp))
  have HC4 := Lib.hid ((HC3.out.alloc s3 _).grown hg4 (by omega) (by simp; omega))
  have HG4 := Lib.hid (grown_trans_row (grown_alloc HG3.out _) hg4)
  clear hr4 hg4 z1
  by_cases h0 : z = 0
  · subst h0
    go_wp2_with fail
    refine (num_c g _ _ 2 2 [1000000000, -999999999] (by omega) (by decide) (by decide) _ (HR4.out.alloc _) (lit_row w4 [1000000000, -999999999] (by unfold Fits; decide) (by decide)) (some_ne (by omega))).mono ?_
    rintro e w5 ⟨i, hi, rfl, hr5, hg5⟩
    have HV : Hid (Bd (List.getD [1000000000, -999999999] i 0) 1) := Lib.hid (by match i, hi with | 0, _ => exact ⟨by decide, by decide⟩ | 1, _ => exact ⟨by decide, by decide⟩)
    generalize List.getD [1000000000, -999999999] i 0 = V at *
    have sF5 : w3.heap.size < w5.heap.size := by have := hg5.size; simp at this; omega
    have HR5 := Lib.hid (hr5.more (show _ ≤ q + 4 by omega))
    have HF5 := Lib.hid ((HF4.out.alloc sF4 _).grown hg5 (by omega) (by simp; omega))
    have HC5 := Lib.hid ((HC4.out.alloc s4 _).grown hg5 (by omega) (by simp; omega))
    have HG5 := Lib.hid (grown_trans_row (grown_alloc HG4.out _) hg5)
    clear hr5 hg5 hi
    obtain ⟨⟨c0, c1⟩, ⟨f0, f1⟩⟩ := HC5.out
    obtain ⟨⟨a0, a1⟩, ⟨b0, b1⟩⟩ := HF5.out
    go_wp2_with fail
    exact bodyPost_ret (v := .agg #[.int .i64 (V), .int .i64 (1)]) (by simp [results, Tryd.results31, go_sem, c0, c1]) rfl ⟨_, _, HV.out, rfl, (by repeat (first | exact HR5.out | (refine reader_set ?_ _ (by first | (simp; omega) | simp | omega) _))), (by repeat (first | exact HG5.out | (refine grown_set ?_ _ (by first | (simp; omega) | simp | omega) _)))⟩
  · have h0b : (z == 0) = false := by simpa using h0
    by_cases h1 : z = 1
    · subst h1
      have HR5 := Lib.hid (HR4.out.more (show _ ≤ q + 4 by omega))
      obtain ⟨⟨c0, c1⟩, ⟨f0, f1⟩⟩ := HC4.out
      obtain ⟨⟨a0, a1⟩, ⟨b0, b1⟩⟩ := HF4.out
      go_wp2_with fail
      exact bodyPost_ret (v := .agg #[.int .i64 (1), .int .i64 (999999999)]) (by simp [results, Tryd.results31, go_sem, c0, c1]) rfl ⟨_, _, ⟨by decide, by decide⟩, rfl, (by repeat (first | exact HR5.out | (refine reader_set ?_ _ (by first | (simp; omega) | simp | omega) _))), (by repeat (first | exact HG4.out | (refine grown_set ?_ _ (by first | (simp; omega) | simp | omega) _)))⟩
    · have h1b : (z == 1) = false := by simpa using h1
      have HR5 := Lib.hid (HR4.out.more (show _ ≤ q + 4 by omega))
      obtain ⟨⟨c0, c1⟩, ⟨f0, f1⟩⟩ := HC4.out
      obtain ⟨⟨a0, a1⟩, ⟨b0, b1⟩⟩ := HF4.out
      go_wp2_with fail
      exact bodyPost_ret (v := .agg #[.int .i64 (X), .int .i64 (Y)]) (by simp [results, Tryd.results31, go_sem, c0, c1]) rfl ⟨_, _, HBd.out, rfl, (by repeat (first | exact HR5.out | (refine reader_set ?_ _ (by first | (simp; omega) | simp | omega) _))), (by repeat (first | exact HG4.out | (refine grown_set ?_ _ (by first | (simp; omega) | simp | omega) _)))⟩
/-- One of a list of texts, the reader gone on by one. -/
def OfPost (w : World) (g q : Nat) (xs : List ByteArray) (e : Ending) (w' : World) : Prop :=
  ∃ i, i < xs.length ∧ e = .returned (.string (xs.getD i ⟨#[]⟩)) ∧ Reader w' g (q + 1) ∧ w.grownBy w' (some g)
set_option maxHeartbeats 1000000 in
theorem of_c (g q b n c : Nat) (xs : List ByteArray) (hq : q ≤ 1000000) (hn : 0 < n) (hn1 : n ≤ 1000) (hlen : xs.length = n) (w : World) (hr : Reader w g q) (hb : b < w.heap.size) (hc : ∀ i, i < n → w.cell? ⟨b, i, none⟩ = some (.string (xs.getD i ⟨#[]⟩))) (hbg : b ≠ g) :
    Calls Tryd.prog 33 #[.pointer (some ⟨g, 0, none⟩), .slice (some ⟨b, 0, none⟩) n c] w (fun e w' => OfPost w g q xs e w') := by
  have HR := Lib.hid hr
  have HC := Lib.hid hc
  have HL := Lib.hid hlen
  clear hr hc hlen
  go_enter Tryd.func33, Tryd.ntmps33
  go_wp2_with fail
  refine (pick_c g q _ hq (by omega) _ HR.out).mono ?_
  rintro e w1 ⟨x, rfl, hx0, hx1, hr1, hg1⟩
  obtain ⟨i, rfl⟩ : ∃ i : Nat, x = (i : Int) := ⟨x.toNat, by omega⟩
  have hi : i < n := by omega
  have hci : w1.cell? ⟨b, i, none⟩ = some (.string (xs.getD i ⟨#[]⟩)) := by
    rw [World.cell?_of_block (hg1.block b hb (by intro e; injection e with e; omega))]
    exact HC.out i hi
  have HR1 := Lib.hid hr1
  have HG1 := Lib.hid hg1
  clear hr1 hg1 HC hx1
  go_wp2_with fail
  go_ret
  exact ⟨i, by have := HL.out; omega, rfl, HR1.out, HG1.out⟩
theorem dec_small {x : Int} (h : -1000000000 ≤ x ∧ x ≤ 1000000000) : 1 ≤ (dec x).size ∧ (dec x).size ≤ 11 := by
  have h1 := digits_len10 x.natAbs (by omega)
  have h2 := digits_len10 x.toNat (by omega)
  have h3 : 0 < (Lib.decDigits x.toNat).length := List.length_pos_iff.2 (digits_ne _)
  simp only [dec, Lib.itoa, ByteArray.size, List.size_toArray]
  split
  · simp; omega
  · omega
theorem text_small {x y : Int} (h : Bd x y) : 1 ≤ (fracText x y).size ∧ (fracText x y).size ≤ 23 := by
  have h1 := dec_small h.1
  have h2 := dec_small h.2
  have h3 : (⟨#[47]⟩ : ByteArray).size = 1 := rfl
  unfold fracText
  split
  · omega
  · simp only [ByteArray.size_append]
    omega
end Go.Proofs.YtggonihjnipobaaDoor
