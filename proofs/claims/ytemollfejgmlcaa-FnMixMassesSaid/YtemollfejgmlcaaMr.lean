/- Contracts of chapter 3's draws: a mass turned into one that is sometimes not valid. Conditions: as stated. -/
import Derived.Test.YtemollfejgmlcaaMq
import Derived.Test.YtemollfejgmlcaaHs
import Derived.Test.YtemollfejgmlcaaWk
import Derived.Deep.RegionHeld3
namespace Go.Proofs.Ytemollfejgmlcaa
open Go.RowKit

/-- While a mass is turned: the reader, the mass in its box mb, the result's box behind it, the parts owned. -/
structure Bad (W0 : World) (g q mb : Nat) (s : Int) (ys : List Int) (A : Option Addr) (C : Nat) (w : World) : Prop where
  fs : Fits s
  len : 2 ≤ ys.length ∧ ys.length ≤ 17
  ge : ∀ y ∈ ys, -1 ≤ y
  b0 : w.cell? ⟨mb, 0, none⟩ = some (.int .i64 s)
  b1 : w.cell? ⟨mb, 1, none⟩ = some (.slice A ys.length C)
  f0 : w.frozen? ⟨mb, 0, none⟩ = false
  f1 : w.frozen? ⟨mb, 1, none⟩ = false
  r0 : w.cell? ⟨mb + 1, 0, none⟩ = some (.int .i64 0)
  r1 : w.cell? ⟨mb + 1, 1, none⟩ = some (.slice none 0 0)
  k0 : w.frozen? ⟨mb + 1, 0, none⟩ = false
  k1 : w.frozen? ⟨mb + 1, 1, none⟩ = false
  own : Own w W0.heap.size (.slice A ys.length C) ys
  ne : ∀ j, (Value.slice A ys.length C).ownBlock = some j → j ≠ mb ∧ j ≠ mb + 1
  rd : Reader w g q
  gr : W0.grownBy w (some g)
  lt : g < W0.heap.size
  le : W0.heap.size ≤ mb
  sz : mb + 1 < w.heap.size
theorem grown_at {a b c : World} {g row : Nat} (h : a.grownBy b (some g)) (k : b.grownBy c (some row)) (hr : a.heap.size ≤ row) : a.grownBy c (some g) :=
  ⟨by rw [k.os, h.os], by rw [k.tape, h.tape], by rw [k.output, h.output], Nat.le_trans h.size k.size, fun i hi hn => by
    rw [k.block i (Nat.lt_of_lt_of_le hi h.size) (by intro e; injection e with e; omega)]
    exact h.block i hi hn⟩
section
variable {W0 w w' : World} {g q q' mb : Nat} {s : Int} {ys : List Int} {A : Option Addr} {C : Nat}
theorem Bad.kept (h : Bad W0 g q mb s ys A C w) (hr : Reader w' g q') (hg : w.grownBy w' (some g)) : Bad W0 g q' mb s ys A C w' := by
  have h1 := h.lt
  have h2 := h.le
  have h3 := h.sz
  obtain ⟨c1, e1⟩ := gcell hg (b := mb) (by omega) (by omega)
  obtain ⟨c2, e2⟩ := gcell hg (b := mb + 1) (by omega) (by omega)
  refine ⟨h.fs, h.len, h.ge, (c1 _).trans h.b0, (c1 _).trans h.b1, (e1 _).trans h.f0, (e1 _).trans h.f1, (c2 _).trans h.r0, (c2 _).trans h.r1, (e2 _).trans h.k0, (e2 _).trans h.k1, ?_, h.ne, hr, grown_trans_row h.gr hg, h.lt, h.le, Nat.lt_of_lt_of_le h.sz hg.size⟩
  refine h.own.grown hg ?_
  rcases hj : (Value.slice A ys.length C).ownBlock with _ | j
  · exact .inl rfl
  · right
    intro e
    have := (h.own.lt j hj).1
    injection e with e
    omega
/-- An append onto a row that was made behind the box. -/
theorem Bad.grownAt (h : Bad W0 g q mb s ys A C w) {row : Nat} (hg : w.grownBy w' (some row)) (hr : mb + 1 < row) (hne : ∀ j, (Value.slice A ys.length C).ownBlock = some j → j ≠ row) : Bad W0 g q mb s ys A C w' := by
  have h1 := h.lt
  have h2 := h.le
  have h3 := h.sz
  obtain ⟨c1, e1⟩ := gcell hg (b := mb) (by omega) (by omega)
  obtain ⟨c2, e2⟩ := gcell hg (b := mb + 1) (by omega) (by omega)
  refine ⟨h.fs, h.len, h.ge, (c1 _).trans h.b0, (c1 _).trans h.b1, (e1 _).trans h.f0, (e1 _).trans h.f1, (c2 _).trans h.r0, (c2 _).trans h.r1, (e2 _).trans h.k0, (e2 _).trans h.k1, ?_, h.ne, h.rd.kept hg (fun k e => by injection e with e; omega), grown_at h.gr hg (by omega), h.lt, h.le, Nat.lt_of_lt_of_le h.sz hg.size⟩
  refine h.own.grown hg ?_
  rcases hj : (Value.slice A ys.length C).ownBlock with _ | j
  · exact .inl rfl
  · right
    intro e
    injection e with e
    exact hne j hj e
theorem Bad.alloc (h : Bad W0 g q mb s ys A C w) (o : Obj) : Bad W0 g q mb s ys A C (w.alloc o) := by
  have h3 := h.sz
  have cc : ∀ p : Addr, p.block < w.heap.size → (w.alloc o).cell? p = w.cell? p := fun p hp => World.cell?_alloc_lt w o p hp
  have ff : ∀ p : Addr, p.block < w.heap.size → (w.alloc o).frozen? p = w.frozen? p := fun p hp => (((Below.refl w.heap.size w).alloc (Nat.le_refl _) o).frozen hp)
  exact ⟨h.fs, h.len, h.ge, (cc _ (by show mb < _; omega)).trans h.b0, (cc _ (by show mb < _; omega)).trans h.b1, (ff _ (by show mb < _; omega)).trans h.f0, (ff _ (by show mb < _; omega)).trans h.f1, (cc _ h3).trans h.r0, (cc _ h3).trans h.r1, (ff _ h3).trans h.k0, (ff _ h3).trans h.k1, h.own.alloc o, h.ne, h.rd.alloc o, grown_alloc h.gr o, h.lt, h.le, by simp; omega⟩
theorem Bad.drew (h : Bad W0 g q mb s ys A C w) : Bad W0 g q mb s ys A C w.drew :=
  ⟨h.fs, h.len, h.ge, h.b0, h.b1, h.f0, h.f1, h.r0, h.r1, h.k0, h.k1, h.own, h.ne, h.rd, ⟨h.gr.os, h.gr.tape, h.gr.output, h.gr.size, h.gr.block⟩, h.lt, h.le, h.sz⟩
theorem Bad.setSize (h : Bad W0 g q mb s ys A C w) (v : Int) (hv : Fits v) : Bad W0 g q mb v ys A C (w.setCell ⟨mb, 0, none⟩ (.int .i64 v)) := by
  have h1 := h.lt
  have h2 := h.le
  have hb := h.b0
  have hf := h.f0
  have hb1 := h.b1
  have hr0 := h.r0
  have hr1 := h.r1
  have hf1 := h.f1
  have hk0 := h.k0
  have hk1 := h.k1
  have hsz := h.sz
  refine ⟨hv, h.len, h.ge, by go_simp, by go_simp, by go_simp, by go_simp, by go_simp, by go_simp, by go_simp, by go_simp, h.own.set _ (fun j hj => (h.ne j hj).1) _, h.ne, reader_set h.rd _ (by show g < mb; omega) _, grown_set h.gr _ (by show _ ≤ mb; omega) _, h.lt, h.le, by simpa [World.setCell] using hsz⟩
theorem Bad.setParts (h : Bad W0 g q mb s ys A C w) {xs : List Int} {A' : Option Addr} {C' : Nat} (hl : 2 ≤ xs.length ∧ xs.length ≤ 17) (hx : ∀ x ∈ xs, -1 ≤ x) (ho : Own w W0.heap.size (.slice A' xs.length C') xs)
    (hn : ∀ j, (Value.slice A' xs.length C').ownBlock = some j → j ≠ mb ∧ j ≠ mb + 1) : Bad W0 g q mb s xs A' C' (w.setCell ⟨mb, 1, none⟩ (.slice A' xs.length C')) := by
  have h1 := h.lt
  have h2 := h.le
  have hb := h.b0
  have hf := h.f0
  have hb1 := h.b1
  have hr0 := h.r0
  have hr1 := h.r1
  have hf1 := h.f1
  have hk0 := h.k0
  have hk1 := h.k1
  have hsz := h.sz
  refine ⟨h.fs, hl, hx, by go_simp, by go_simp, by go_simp, by go_simp, by go_simp, by go_simp, by go_simp, by go_simp, ho.set _ (fun j hj => (hn j hj).1) _, hn, reader_set h.rd _ (by show g < mb; omega) _, grown_set h.gr _ (by show _ ≤ mb; omega) _, h.lt, h.le, by simpa [World.setCell] using hsz⟩
theorem Bad.more (h : Bad W0 g q mb s ys A C w) (hq : q ≤ q') : Bad W0 g q' mb s ys A C w :=
  ⟨h.fs, h.len, h.ge, h.b0, h.b1, h.f0, h.f1, h.r0, h.r1, h.k0, h.k1, h.own, h.ne, h.rd.more hq, h.gr, h.lt, h.le, h.sz⟩
theorem Bad.form (h : Bad W0 g q mb s ys A C w) : ∃ pb, A = some ⟨pb, 0, none⟩ ∧ W0.heap.size ≤ pb ∧ pb < w.heap.size ∧ pb ≠ mb ∧ pb ≠ mb + 1 := by
  obtain ⟨pb, cap, e, h1, h2⟩ := h.own.1.form (by have := h.len; omega)
  injection e with e1
  subst e1
  exact ⟨pb, rfl, h1, h2, h.ne pb rfl⟩
theorem Bad.cell {pb : Nat} (h : Bad W0 g q mb s ys (some ⟨pb, 0, none⟩) C w) {k : Nat} (hk : k < ys.length) : w.cell? ⟨pb, k, none⟩ = some (.int .i64 (ys.getD k 0)) := by
  have := h.own.1.cellAt k (by omega)
  rw [this, List.getElem?_map, List.getElem?_eq_getElem hk, List.getD_eq_getElem?_getD, List.getElem?_eq_getElem hk]
  rfl
theorem Bad.setPart {pb : Nat} (h : Bad W0 g q mb s ys (some ⟨pb, 0, none⟩) C w) (k : Nat) (v : Int) (hv : -1 ≤ v ∧ v ≤ 9223372036854775807) : Bad W0 g q mb s (ys.set k v) (some ⟨pb, 0, none⟩) C (w.setCell ⟨pb, k, none⟩ (.int .i64 v)) := by
  obtain ⟨_, e, p1, p2, p3, p4⟩ := h.form
  injection e with e
  injection e with e
  subst e
  have h1 := h.lt
  have h2 := h.le
  have hb := h.b0
  have hf := h.f0
  have hb1 := h.b1
  have hr0 := h.r0
  have hr1 := h.r1
  have hf1 := h.f1
  have hk0 := h.k0
  have hk1 := h.k1
  have hsz := h.sz
  have hst := (h.own.1.stored k (.int .i64 v)).1
  rw [← List.map_set] at hst
  have hmem : ∀ x ∈ ys.set k v, x ∈ ys ∨ x = v := fun x hx => List.mem_or_eq_of_mem_set hx
  have fz : ∀ p : Addr, p.block ≠ pb → (w.setCell ⟨pb, k, none⟩ (.int .i64 v)).frozen? p = w.frozen? p := fun p hp => by go_simp
  have cl : ∀ p : Addr, p.block ≠ pb → (w.setCell ⟨pb, k, none⟩ (.int .i64 v)).cell? p = w.cell? p := fun p hp => World.cell?_setCell_far w _ p _ (fun e => hp e.symm)
  refine ⟨h.fs, by rw [List.length_set]; exact h.len, fun y hy => ?_, (cl _ (Ne.symm p3)).trans hb, ?_, (fz _ (Ne.symm p3)).trans hf, (fz _ (Ne.symm p3)).trans hf1, (cl _ (Ne.symm p4)).trans hr0, (cl _ (Ne.symm p4)).trans hr1, (fz _ (Ne.symm p4)).trans hk0, (fz _ (Ne.symm p4)).trans hk1, ?_, ?_, reader_set h.rd _ (by show g < pb; omega) _, grown_set h.gr _ p1 _, h.lt, h.le, by simpa [World.setCell] using hsz⟩
  · rcases hmem y hy with h9 | h9
    · exact h.ge y h9
    · omega
  · rw [List.length_set]; exact (cl _ (Ne.symm p3)).trans hb1
  · rw [List.length_set]
    refine ⟨by rw [List.length_set]; exact hst, fun x hx => ?_⟩
    rcases hmem x hx with h9 | h9
    · exact h.own.2 x h9
    · subst h9; unfold Fits; omega
  · rw [List.length_set]; exact h.ne
end
end Go.Proofs.Ytemollfejgmlcaa
