/- What FnShares carries round its loop. Conditions: as stated. -/
import Derived.Test.YtemollfejgmlcaaMv
import Derived.Test.YtemollfejgmlcaaPlainK
namespace Go.Proofs.Ytemollfejgmlcaa
open Go.RowKit

/-- Round the loop over the shares: the mass in its box mb, the sum so far in its box sb, the list of the sets that have a share. -/
structure ShInv (w : World) (mb sb : Nat) (s : Int) (ys : List Int) (A : Option Addr) (C : Nat) (k j : Nat) (lv : Value) (wr : World) : Prop where
  bel : Below w.heap.size w wr
  le : w.heap.size ≤ mb
  lt : mb < sb
  sz : sb < wr.heap.size
  m0 : wr.cell? ⟨mb, 0, none⟩ = some (.int .i64 s)
  m1 : wr.cell? ⟨mb, 1, none⟩ = some (.slice A ys.length C)
  mm : Own wr w.heap.size (.slice A ys.length C) ys
  mn : ∀ j, (Value.slice A ys.length C).ownBlock = some j → j < mb
  s0 : wr.cell? ⟨sb, 0, none⟩ = some (.int .i64 (lowX (whole (ys.take k)) (whole ys)))
  s1 : wr.cell? ⟨sb, 1, none⟩ = some (.int .i64 (lowY (whole (ys.take k)) (whole ys)))
  f0 : wr.frozen? ⟨sb, 0, none⟩ = false
  f1 : wr.frozen? ⟨sb, 1, none⟩ = false
  ls : Own wr (sb + 1) lv (focal ys j)
theorem BX.put {w : World} {b : Nat} {u v x y : Value} (h : BX w b u v) : BX ((w.setCell ⟨b, 0, none⟩ x).setCell ⟨b, 1, none⟩ y) b x y := by
  obtain ⟨⟨c0, c1⟩, ⟨f0, f1⟩⟩ := h
  exact ⟨⟨by go_simp, by go_simp⟩, ⟨by go_simp, by go_simp⟩⟩
section
variable {w wr w' : World} {mb sb : Nat} {s : Int} {ys : List Int} {A : Option Addr} {C : Nat} {k j : Nat} {lv lv' : Value}
theorem ShInv.below (h : ShInv w mb sb s ys A C k j lv wr) (hb : Below wr.heap.size wr w') : ShInv w mb sb s ys A C k j lv w' := by
  have h1 := h.lt
  have h2 := h.sz
  exact ⟨h.bel.trans (hb.mono h.bel.size), h.le, h.lt, Nat.lt_of_lt_of_le h.sz hb.size, (hb.cell (by show mb < _; omega)).trans h.m0, (hb.cell (by show mb < _; omega)).trans h.m1,
    h.mm.below hb (fun g hg => (h.mm.lt g hg).2), h.mn, (hb.cell (by show sb < _; omega)).trans h.s0, (hb.cell (by show sb < _; omega)).trans h.s1, (hb.frozen (by show sb < _; omega)).trans h.f0, (hb.frozen (by show sb < _; omega)).trans h.f1,
    h.ls.below hb (fun g hg => (h.ls.lt g hg).2)⟩
theorem ShInv.alloc (h : ShInv w mb sb s ys A C k j lv wr) (o : Obj) : ShInv w mb sb s ys A C k j lv (wr.alloc o) := h.below ((Below.refl _ _).alloc (Nat.le_refl _) o)
theorem ShInv.drewN (h : ShInv w mb sb s ys A C k j lv wr) (m : Nat) : ShInv w mb sb s ys A C k j lv (wr.drewN m) := h.below (below_drewN (Below.refl _ _) m)
theorem ShInv.store (h : ShInv w mb sb s ys A C k j lv wr) : ShInv w mb sb s ys A C (k + 1) j lv
    ((wr.setCell ⟨sb, 0, none⟩ (.int .i64 (lowX (whole (ys.take (k + 1))) (whole ys)))).setCell ⟨sb, 1, none⟩ (.int .i64 (lowY (whole (ys.take (k + 1))) (whole ys)))) := by
  have h1 := h.le
  have h2 := h.lt
  have h3 := h.sz
  have hx := BX.put (x := .int .i64 (lowX (whole (ys.take (k + 1))) (whole ys))) (y := .int .i64 (lowY (whole (ys.take (k + 1))) (whole ys))) ⟨⟨h.s0, h.s1⟩, ⟨h.f0, h.f1⟩⟩
  have hns : ∀ g, (Value.slice A ys.length C).ownBlock = some g → g ≠ sb := fun g hg => by have := h.mn g hg; omega
  have hnl : ∀ g, lv.ownBlock = some g → g ≠ sb := fun g hg => by have := (h.ls.lt g hg).1; omega
  exact ⟨(h.bel.setCell (by show w.heap.size ≤ sb; omega) _).setCell (by show w.heap.size ≤ sb; omega) _, h1, h2, by simpa [World.setCell] using h3,
    (World.cell?_setCell_far _ _ _ _ (by show sb ≠ mb; omega)).trans ((World.cell?_setCell_far _ _ _ _ (by show sb ≠ mb; omega)).trans h.m0),
    (World.cell?_setCell_far _ _ _ _ (by show sb ≠ mb; omega)).trans ((World.cell?_setCell_far _ _ _ _ (by show sb ≠ mb; omega)).trans h.m1),
    (h.mm.set _ hns _).set _ hns _, h.mn, hx.1.1, hx.1.2, hx.2.1, hx.2.2, (h.ls.set _ hnl _).set _ hnl _⟩
theorem ShInv.push (h : ShInv w mb sb s ys A C k j lv wr) {j' : Nat} (ho : Own w' (sb + 1) lv' (focal ys j')) (hg : wr.grownBy w' lv.ownBlock) : ShInv w mb sb s ys A C k j' lv' w' := by
  have h1 := h.le
  have h2 := h.lt
  have h3 := h.sz
  have hlo : ∀ g, lv.ownBlock = some g → sb + 1 ≤ g := fun g hg => (h.ls.lt g hg).1
  have cf : ∀ p : Addr, p.block ≤ sb → w'.cell? p = wr.cell? p := fun p hp => hg.cell_far p (by omega) (fun e => by have := hlo p.block e.symm; omega)
  have ff : ∀ p : Addr, p.block ≤ sb → w'.frozen? p = wr.frozen? p := fun p hp => hg.frozen_far p (by omega) (fun e => by have := hlo p.block e.symm; omega)
  refine ⟨h.bel.grown hg h.bel.size (fun g hg => by have := hlo g hg; omega), h1, h2, Nat.lt_of_lt_of_le h3 hg.size, (cf _ (by show mb ≤ sb; omega)).trans h.m0, (cf _ (by show mb ≤ sb; omega)).trans h.m1, h.mm.grown hg ?_, h.mn,
    (cf _ (Nat.le_refl _)).trans h.s0, (cf _ (Nat.le_refl _)).trans h.s1, (ff _ (Nat.le_refl _)).trans h.f0, (ff _ (Nat.le_refl _)).trans h.f1, ho⟩
  rcases hj : (Value.slice A ys.length C).ownBlock with _ | i
  · exact .inl rfl
  · right
    intro e
    have := h.mn i hj
    have := hlo i e.symm
    omega
theorem ShInv.skip (h : ShInv w mb sb s ys A C k j lv wr) {j' : Nat} (e : focal ys j' = focal ys j) : ShInv w mb sb s ys A C k j' lv wr :=
  ⟨h.bel, h.le, h.lt, h.sz, h.m0, h.m1, h.mm, h.mn, h.s0, h.s1, h.f0, h.f1, by rw [e]; exact h.ls⟩
end
theorem row_cell {kd : IntKind} {w : World} {b o n c : Nat} {zs : List Int} (h : IsRow kd w (some ⟨b, o, none⟩) n c zs) {k : Nat} (hk : k < n) : w.cell? ⟨b, o + k, none⟩ = some (.int kd (zs.getD k 0)) := by
  obtain ⟨b', o', e, _, hc⟩ := h.at_ (by omega)
  injection e with e
  injection e with e1 e2
  subst e1 e2
  exact hc k hk
end Go.Proofs.Ytemollfejgmlcaa
