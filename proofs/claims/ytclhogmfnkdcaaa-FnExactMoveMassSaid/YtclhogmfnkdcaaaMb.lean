/- Contracts of the laws' own helpers on masses. Conditions: as stated. -/
import Derived.Test.YtclhogmfnkdcaaaMa
namespace Go.Proofs.Ytclhogmfnkdcaaa
open Go.RowKit

theorem IsRow.setc {k : IntKind} {w : World} {a : Option Addr} {n c : Nat} {zs : List Int} (h : IsRow k w a n c zs) (p : Addr) (v : Value) (hp : ∀ b o, a = some ⟨b, o, none⟩ → b ≠ p.block) : IsRow k (w.setCell p v) a n c zs := by
  obtain ⟨h1, h2, h3, h4, h5⟩ := h
  refine ⟨h1, h2, h3, h4, fun hn => ?_⟩
  obtain ⟨b, o, e, hlt, hc⟩ := h5 hn
  refine ⟨b, o, e, by simpa [World.setCell] using hlt, fun i hi => ?_⟩
  rw [World.cell?_setCell_other _ _ _ _ (by intro e2; exact hp b o e (by first | exact congrArg Addr.block e2 | exact (congrArg Addr.block e2).symm))]
  exact hc i hi
theorem gtrans {a b c : World} {row : Option Nat} (h : a.grownBy b row) (k : b.grownBy c row) : a.grownBy c row :=
  ⟨k.os.trans h.os, k.tape.trans h.tape, k.output.trans h.output, Nat.le_trans h.size k.size, fun i hi hne => (k.block i (Nat.lt_of_lt_of_le hi h.size) hne).trans (h.block i hi hne)⟩
theorem gdrewN {a w : World} {row : Option Nat} (h : a.grownBy w row) (n : Nat) : a.grownBy (w.drewN n) row := ⟨h.os, h.tape, h.output, h.size, h.block⟩
/-- A store outside what is owned. -/
theorem Own.set {w : World} {B : Nat} {v : Value} {zs : List Int} (h : Own w B v zs) (p : Addr) (hp : ∀ g, v.ownBlock = some g → g ≠ p.block) (u : Value) : Own (w.setCell p u) B v zs := by
  rcases hv : v.ownBlock with _ | g
  · exact h.grown (grown_setCell (World.grownBy.refl w (some p.block)) p rfl u) (.inl hv)
  · exact h.grown (grown_setCell (World.grownBy.refl w (some p.block)) p rfl u) (.inr (by rw [hv]; intro e; injection e with e; exact hp g hv e))
set_option maxHeartbeats 1000000 in
theorem toMass_c (s : Int) (a : Option Addr) (n c : Nat) (zs : List Int) (hn : n ≤ 1048576) (w : World) (ha : IsRow .i64 w a n c zs) :
    Calls Try.prog 30 #[.agg #[.int .i64 s, .slice a n c]] w fun e w' => ∃ A C, e = .returned (.agg #[.int .i64 s, .slice A zs.length C]) ∧ Own w' w.heap.size (.slice A zs.length C) zs ∧ Below w.heap.size w w' := by
  have HA := Lib.hid ha
  clear ha
  go_enter Try.func30, Try.ntmps30
  go_wp2_with fail
  refine (ret_own (toIntS_c _ _ _ zs hn _ (((HA.out.alloc _).alloc _).alloc _))).mono ?_
  rintro e w1 ⟨A, C, rfl, ho, hb⟩
  have c0 : w1.cell? ⟨w.heap.size + 1, 0, none⟩ = some (.int .i64 0) := (hb.cell (by simp <;> omega)).trans (by go_simp)
  have c1 : w1.cell? ⟨w.heap.size + 1, 1, none⟩ = some (.slice none 0 0) := (hb.cell (by simp <;> omega)).trans (by go_simp)
  have d0 : w1.cell? ⟨w.heap.size + 1 + 1, 0, none⟩ = some (.int .i64 s) := (hb.cell (by simp <;> omega)).trans (by go_simp)
  have d1 : w1.cell? ⟨w.heap.size + 1 + 1, 1, none⟩ = some (.slice none 0 0) := (hb.cell (by simp <;> omega)).trans (by go_simp)
  have f0 : w1.frozen? ⟨w.heap.size + 1, 0, none⟩ = false := (hb.frozen (by simp <;> omega)).trans (by go_simp)
  have f1 : w1.frozen? ⟨w.heap.size + 1, 1, none⟩ = false := (hb.frozen (by simp <;> omega)).trans (by go_simp)
  have g1 : w1.frozen? ⟨w.heap.size + 1 + 1, 1, none⟩ = false := (hb.frozen (by simp <;> omega)).trans (by go_simp)
  have hs : w.heap.size + 1 + 1 < w1.heap.size := by have := hb.size; simp at this; omega
  have HB : Hid (Below w.heap.size w w1) := Lib.hid (((((Below.refl _ _).alloc (Nat.le_refl _) _).alloc (by simp) _).alloc (by simp <;> omega) _).trans (hb.mono (by simp <;> omega)))
  have HLt := Lib.hid (show ∀ g, (Value.slice A zs.length C).ownBlock = some g → w.heap.size + 1 + 1 < g from fun g hg => by have := (ho.lt g hg).1; simp at this; omega)
  have HO : Hid (Own w1 w.heap.size (.slice A zs.length C) zs) := Lib.hid (ho.low (by simp <;> omega))
  clear hb ho
  go_wp2_with fail
  exact bodyPost_ret (v := .agg #[.int .i64 s, .slice A zs.length C]) (by simp [results, Try.results30, go_sem, c0, c1]) rfl ⟨_, _, rfl, by repeat (first | exact HO.out | (refine Own.set ?_ _ (fun g hg => by have := HLt.out g hg; simp; omega) _)), by repeat (first | exact HB.out | (refine Below.setCell ?_ (by first | (simp <;> omega) | omega) _))⟩
set_option maxHeartbeats 1000000 in
theorem eqMass_c (s : Int) (a b : Option Addr) (n c d : Nat) (zs : List Int) (w : World) (ha : IsRow .i64 w a n c zs) (hb : IsRow .i64 w b n d zs) :
    Calls Try.prog 23 #[.agg #[.int .i64 s, .slice a n c], .agg #[.int .i64 s, .slice b n d]] w fun e w' => e = .returned (.bool true) ∧ Below w.heap.size w w' := by
  have HA := Lib.hid ha
  have HB := Lib.hid hb
  have hss : (s != s) = false := by simp
  clear ha hb
  go_enter Try.func23, Try.ntmps23
  go_wp2_with fail
  refine (eqIntS_c _ _ _ _ _ zs _ ((HA.out.alloc _).alloc _) ((HB.out.alloc _).alloc _)).mono ?_
  rintro e w1 ⟨rfl, m, rfl⟩
  go_wp2_with fail
  go_ret
  exact ⟨rfl, below_drewN (((Below.refl _ _).alloc (Nat.le_refl _) _).alloc (by simp) _) m⟩
set_option maxHeartbeats 1000000 in
theorem markMass_c (s : Int) (v : Value) (zs : List Int) (a : Option Addr) (c B : Nat) (k0 : Int) (hk0 : 0 ≤ k0 ∧ k0 ≤ 4294967296) (hn : zs.length ≤ 4294967296) (w : World) (hv : v = .slice a zs.length c) (ho : Own w B v zs) :
    Calls Try.prog 26 #[.agg #[.int .i64 s, .slice a zs.length c], .int .i64 k0] w fun e w' =>
      e = .returned (.int .i64 (k0 + zs.length)) ∧ Own w' B v (marks k0 zs.length) ∧ w.grownBy w' v.ownBlock := by
  have HO := Lib.hid ho
  clear ho
  go_enter Try.func26, Try.ntmps26
  go_wp2_with fail
  refine (markIntS_c v zs _ _ B k0 hk0 hn _ hv (HO.out.alloc _)).mono ?_
  rintro e w1 ⟨rfl, ho1, hg⟩
  have HO1 := Lib.hid ho1
  have HG := Lib.hid (gtrans (World.grownBy_alloc w _ v.ownBlock) hg)
  clear ho1 hg
  go_wp2_with fail
  go_ret
  exact ⟨rfl, HO1.out, HG.out⟩
set_option maxHeartbeats 1000000 in
theorem heldMass_c (s : Int) (a : Option Addr) (n c : Nat) (k0 : Int) (hk0 : 0 ≤ k0 ∧ k0 ≤ 4294967296) (hn : n ≤ 4294967296) (w : World) (ha : IsRow .i64 w a n c (marks k0 n)) :
    Calls Try.prog 27 #[.agg #[.int .i64 s, .slice a n c], .int .i64 k0] w fun e w' => e = .returned (.int .i64 (k0 + n)) ∧ Below w.heap.size w w' := by
  have HA := Lib.hid ha
  obtain ⟨k1, k2⟩ := hk0
  clear ha
  go_enter Try.func27, Try.ntmps27
  go_wp2_with fail
  refine (heldIntS_c _ _ _ k0 ⟨k1, k2⟩ hn _ (HA.out.alloc _)).mono ?_
  rintro e w1 ⟨rfl, rfl⟩
  go_wp2_with fail
  go_ret
  exact ⟨rfl, (Below.refl _ _).alloc (Nat.le_refl _) _⟩
end Go.Proofs.Ytclhogmfnkdcaaa
