/- Contracts: the mass that is sure of a set. Conditions: as stated. -/
import Derived.Test.YtemollfejgmlcaaMd
import Derived.Test.YtemollfejgmlcaaWe
namespace Go.Proofs.Ytemollfejgmlcaa
open Go.RowKit

theorem sureL_len {s : Int} {N : Nat} (a : Int) (h : (2 : Int) ^ s.toNat = (N : Int)) : (sureL s a).length = N := by
  unfold sureL
  rw [List.length_set, List.length_replicate, h, Int.toNat_natCast]
theorem sureL_form {s : Int} {N : Nat} (A : Nat) (h : (2 : Int) ^ s.toNat = (N : Int)) : (sureL s (A : Int)).map (Value.int .i64) = (List.replicate N (Value.int .i64 0)).set A (Value.int .i64 1) := by
  unfold sureL
  rw [h, Int.toNat_natCast, Int.toNat_natCast, List.map_set, List.map_replicate]
theorem sureL_fits {s a : Int} : ∀ x ∈ sureL s a, Fits x := by
  intro x hx
  unfold sureL at hx
  rcases List.mem_or_eq_of_mem_set hx with h | h
  · have := List.eq_of_mem_replicate h
    subst this
    unfold Fits
    omega
  · subst h
    unfold Fits
    omega
/-- The post of what returns a mass. -/
def MassPost (w : World) (s : Int) (zs : List Int) (e : Ending) (w' : World) : Prop :=
  ∃ A C, e = .returned (.agg #[.int .i64 s, .slice A zs.length C]) ∧ Own w' w.heap.size (.slice A zs.length C) zs ∧ Below w.heap.size w w'
/-- The post of what returns a mass and whether there is one. -/
def MassOk (w : World) (b : Bool) (s : Int) (zs : List Int) (e : Ending) (w' : World) : Prop :=
  ∃ A C, e = .returned (.tuple #[.agg #[.int .i64 (sel b s), .slice A (selL b zs).length C], .bool b]) ∧ Own w' w.heap.size (.slice A (selL b zs).length C) (selL b zs) ∧ Below w.heap.size w w'
theorem Own.setAt {w : World} {B g0 n c : Nat} {zs : List Int} (h : Own w B (.slice (some ⟨g0, 0, none⟩) n c) zs) (p : Addr) (hp : p.block ≠ g0) (u : Value) : Own (w.setCell p u) B (.slice (some ⟨g0, 0, none⟩) n c) zs :=
  h.set p (fun g hg => by
    have e : g0 = g := by simpa [Value.ownBlock] using hg
    omega) u
set_option maxHeartbeats 1000000 in
theorem sureMass_c (s a : Int) (hs : 1 ≤ s ∧ s ≤ 4) (ha : 0 ≤ a ∧ a < 2 ^ s.toNat) (w : World) :
    Calls Try.prog 76 #[.int .i64 s, .int .i64 a] w (MassPost w s (sureL s a)) := by
  obtain ⟨i0, hi, hz0, hz1, hz2⟩ := info_parts Try.infoInt
  obtain ⟨N, hN, hW, hN2, hN16⟩ := pow_form hs
  obtain ⟨ha0, ha1⟩ := ha
  rw [hN] at ha1
  obtain ⟨A, rfl⟩ := Int.eq_ofNat_of_zero_le ha0
  obtain ⟨s0, s1⟩ := hs
  have HL := Lib.hid (sureL_len (A : Int) hN)
  have HF := Lib.hid (sureL_form A hN)
  clear hN
  go_enter Try.func76, Try.ntmps76
  go_wp2_with (at_make; rw [hW]; refine wpList_make_full _ rfl _ _ 23 rfl w.heap.size 3 i0 (.int .i64 0) 1 Try.underlying23 hi hz0 hz1 _ _ _ _ N rfl rfl rfl rfl ?b2 ?b3 ?b4 ?_)
  case b4 => simp
  case b2 => rw [hz2]; omega
  case b3 => unfold maxLen; omega
  intro w0 hown0 hgrow0
  have hb0 : Below (w.heap.size + 1) (w.alloc (.cells #[.int .i64 0, .slice none 0 0] 25)) w0 := by
    have := (Below.refl (w.alloc (.cells #[.int .i64 0, .slice none 0 0] 25)).heap.size (w.alloc (.cells #[.int .i64 0, .slice none 0 0] 25))).grown hgrow0 (Nat.le_refl _) (fun k h => by cases h)
    simpa using this
  rw [toList_madeCells_one] at hown0
  have hown1 := hown0.alloc (.cells #[.int .i64 s, .slice (some ⟨w.heap.size + 1, 0, none⟩) N N] 25)
  have hc := hown1.cellAt A (by omega)
  have hfz := hown1.frozenAt A
  have hst := (hown0.stored A (.int .i64 1)).1
  rw [← HF.out] at hst
  have HO : Hid (Own (w0.setCell ⟨w.heap.size + 1, A, none⟩ (.int .i64 1)) w.heap.size (.slice (some ⟨w.heap.size + 1, 0, none⟩) (sureL s (A : Int)).length N) (sureL s (A : Int))) := Lib.hid ⟨by rw [HL.out]; exact hst, sureL_fits⟩
  have e1 : (List.replicate N (Value.int .i64 0))[A]? = some (.int .i64 0) := by rw [List.getElem?_replicate, if_pos (by omega)]
  rw [e1] at hc
  have c0 : w0.cell? ⟨w.heap.size, 0, none⟩ = some (.int .i64 0) := (hb0.cell (by show w.heap.size < _; omega)).trans (by go_simp)
  have c1 : w0.cell? ⟨w.heap.size, 1, none⟩ = some (.slice none 0 0) := (hb0.cell (by show w.heap.size < _; omega)).trans (by go_simp)
  have f0 : w0.frozen? ⟨w.heap.size, 0, none⟩ = false := (hb0.frozen (by show w.heap.size < _; omega)).trans (by go_simp)
  have f1 : w0.frozen? ⟨w.heap.size, 1, none⟩ = false := (hb0.frozen (by show w.heap.size < _; omega)).trans (by go_simp)
  have hlt := (hown0.lt (w.heap.size + 1) rfl).2
  have hz : w.heap.size < w0.heap.size := by omega
  have HB := Lib.hid (((Below.refl w.heap.size w).alloc (Nat.le_refl _) (.cells #[.int .i64 0, .slice none 0 0] 25)).trans (hb0.mono (by omega)))
  clear hst hown0 hown1 hgrow0 hb0 e1 hW
  go_wp2_with fail
  refine bodyPost_ret (v := .agg #[.int .i64 s, .slice (some ⟨w.heap.size + 1, 0, none⟩) N N]) (by simp [results, Try.results76, go_sem, c0, c1, hz]) rfl ?_
  refine ⟨some ⟨w.heap.size + 1, 0, none⟩, N, by rw [HL.out], ?_, ?_⟩
  · repeat (first | exact HO.out | (refine Own.alloc ?_ _) | (refine Own.setAt ?_ _ (by show w.heap.size ≠ w.heap.size + 1; omega) _))
  · repeat (first | exact HB.out | (refine Below.alloc ?_ (by first | (simp [World.setCell] <;> omega) | omega) _) | (refine Below.setCell ?_ (by first | (simp <;> omega) | omega) _))
set_option maxHeartbeats 1000000 in
theorem l3Sure_c (s a : Int) (hs : 1 ≤ s ∧ s ≤ 4) (ha : 0 ≤ a ∧ a < 2 ^ s.toNat) (w : World) :
    Calls Try.prog 77 #[.int .i64 s, .int .i64 a] w (MassPost w s (sureL s a)) := by
  obtain ⟨i0, hi, hz0, hz1, hz2⟩ := info_parts Try.infoInt
  obtain ⟨N, hN, hW, hN2, hN16⟩ := pow_form hs
  obtain ⟨ha0, ha1⟩ := ha
  rw [hN] at ha1
  obtain ⟨A, rfl⟩ := Int.eq_ofNat_of_zero_le ha0
  obtain ⟨s0, s1⟩ := hs
  have HL := Lib.hid (sureL_len (A : Int) hN)
  have HF := Lib.hid (sureL_form A hN)
  clear hN
  go_enter Try.func77, Try.ntmps77
  go_wp2_with (at_make; rw [hW]; refine wpList_make_full _ rfl _ _ 23 rfl w.heap.size 3 i0 (.int .i64 0) 1 Try.underlying23 hi hz0 hz1 _ _ _ _ N rfl rfl rfl rfl ?b2 ?b3 ?b4 ?_)
  case b4 => simp
  case b2 => rw [hz2]; omega
  case b3 => unfold maxLen; omega
  intro w0 hown0 hgrow0
  have hb0 : Below (w.heap.size + 1) (w.alloc (.cells #[.int .i64 0, .slice none 0 0] 25)) w0 := by
    have := (Below.refl (w.alloc (.cells #[.int .i64 0, .slice none 0 0] 25)).heap.size (w.alloc (.cells #[.int .i64 0, .slice none 0 0] 25))).grown hgrow0 (Nat.le_refl _) (fun k h => by cases h)
    simpa using this
  rw [toList_madeCells_one] at hown0
  have hown1 := hown0.alloc (.cells #[.int .i64 s, .slice (some ⟨w.heap.size + 1, 0, none⟩) N N] 25)
  have hc := hown1.cellAt A (by omega)
  have hfz := hown1.frozenAt A
  have hst := (hown0.stored A (.int .i64 1)).1
  rw [← HF.out] at hst
  have HO : Hid (Own (w0.setCell ⟨w.heap.size + 1, A, none⟩ (.int .i64 1)) w.heap.size (.slice (some ⟨w.heap.size + 1, 0, none⟩) (sureL s (A : Int)).length N) (sureL s (A : Int))) := Lib.hid ⟨by rw [HL.out]; exact hst, sureL_fits⟩
  have e1 : (List.replicate N (Value.int .i64 0))[A]? = some (.int .i64 0) := by rw [List.getElem?_replicate, if_pos (by omega)]
  rw [e1] at hc
  have c0 : w0.cell? ⟨w.heap.size, 0, none⟩ = some (.int .i64 0) := (hb0.cell (by show w.heap.size < _; omega)).trans (by go_simp)
  have c1 : w0.cell? ⟨w.heap.size, 1, none⟩ = some (.slice none 0 0) := (hb0.cell (by show w.heap.size < _; omega)).trans (by go_simp)
  have f0 : w0.frozen? ⟨w.heap.size, 0, none⟩ = false := (hb0.frozen (by show w.heap.size < _; omega)).trans (by go_simp)
  have f1 : w0.frozen? ⟨w.heap.size, 1, none⟩ = false := (hb0.frozen (by show w.heap.size < _; omega)).trans (by go_simp)
  have hlt := (hown0.lt (w.heap.size + 1) rfl).2
  have hz : w.heap.size < w0.heap.size := by omega
  have HB := Lib.hid (((Below.refl w.heap.size w).alloc (Nat.le_refl _) (.cells #[.int .i64 0, .slice none 0 0] 25)).trans (hb0.mono (by omega)))
  clear hst hown0 hown1 hgrow0 hb0 e1 hW
  go_wp2_with fail
  refine bodyPost_ret (v := .agg #[.int .i64 s, .slice (some ⟨w.heap.size + 1, 0, none⟩) N N]) (by simp [results, Try.results77, go_sem, c0, c1, hz]) rfl ?_
  refine ⟨some ⟨w.heap.size + 1, 0, none⟩, N, by rw [HL.out], ?_, ?_⟩
  · repeat (first | exact HO.out | (refine Own.alloc ?_ _) | (refine Own.setAt ?_ _ (by show w.heap.size ≠ w.heap.size + 1; omega) _))
  · repeat (first | exact HB.out | (refine Below.alloc ?_ (by first | (simp [World.setCell] <;> omega) | omega) _) | (refine Below.setCell ?_ (by first | (simp <;> omega) | omega) _))
end Go.Proofs.Ytemollfejgmlcaa
