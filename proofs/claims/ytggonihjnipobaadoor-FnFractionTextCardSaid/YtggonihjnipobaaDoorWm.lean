/- Contracts of the laws' own helpers on slices of integers: copied, compared, marked, looked at again. Conditions: as stated. -/
import Derived.Test.YtggonihjnipobaaDoorMem
namespace Go.Proofs.YtggonihjnipobaaDoor
open Go.RowKit

theorem Tryd.infoInt : (Tryd.prog.info? 3).map (fun i => (i.zero, i.size, i.bytes)) = some (some (.int .i64 0), 1, 8) := by kernel_rfl

/-- The slice value v, in memory from block B on, owns the integers zs. -/
def Own (w : World) (B : Nat) (v : Value) (zs : List Int) : Prop := w.ownsRow B 3 1 v zs.length (zs.map (Value.int .i64)) ∧ ∀ x ∈ zs, Fits x

section
variable {w w' : World} {B B' : Nat} {v : Value} {zs : List Int}
theorem Own.below (h : Own w B v zs) {C : Nat} (hb : Below C w w') (hC : ∀ g, v.ownBlock = some g → g < C) : Own w' B v zs := by
  refine ⟨?_, h.2⟩
  obtain ⟨h1, h2⟩ := h.1
  refine ⟨h1, ?_⟩
  rcases h2 with h2 | ⟨g, cap, cur, hv, hb2, hh, hr⟩
  · exact .inl h2
  · exact .inr ⟨g, cap, cur, hv, hb2, (hb.block g (hC g (by rw [hv]; rfl))).trans hh, hr⟩
theorem Own.low (h : Own w B v zs) (hB : B' ≤ B) : Own w B' v zs := by
  refine ⟨?_, h.2⟩
  obtain ⟨h1, h2⟩ := h.1
  refine ⟨h1, ?_⟩
  rcases h2 with h2 | ⟨g, cap, cur, hv, hb2, hh, hr⟩
  · exact .inl h2
  · exact .inr ⟨g, cap, cur, hv, by omega, hh, hr⟩
theorem Own.lt (h : Own w B v zs) : ∀ g, v.ownBlock = some g → B ≤ g ∧ g < w.heap.size := h.1.lt
theorem Own.grown (h : Own w B v zs) {row : Option Nat} (hg : w.grownBy w' row) (hne : v.ownBlock = none ∨ v.ownBlock ≠ row) : Own w' B v zs := ⟨h.1.kept hg hne, h.2⟩
theorem Own.alloc (h : Own w B v zs) (o : Obj) : Own (w.alloc o) B v zs := ⟨h.1.alloc o, h.2⟩
theorem Own.drewN (h : Own w B v zs) (n : Nat) : Own (w.drewN n) B v zs := h
theorem Own.drew (h : Own w B v zs) : Own w.drew B v zs := h
/-- What it looks like: its address, and that it reads as the list. -/
theorem Own.form (h : Own w B v zs) : ∃ a c, v = .slice a zs.length c ∧ IsRow .i64 w a zs.length c zs ∧ (∀ g, v.ownBlock = some g → B ≤ g ∧ g < w.heap.size) := by
  have hlt := h.lt
  obtain ⟨⟨h1, h2⟩, hf⟩ := h
  rcases h2 with ⟨hv, hn⟩ | ⟨g, cap, cur, hv, hb2, hh, hn, hm, hs, ht⟩
  · have : zs = [] := List.eq_nil_of_length_eq_zero hn
    subst this
    exact ⟨none, 0, hv, row_nil _ _, hlt⟩
  · refine ⟨some ⟨g, 0, none⟩, cap, hv, ⟨rfl, hn, by unfold maxLen at hm; omega, fun x hx => wf_of_fits (hf x hx), fun hp => ⟨g, 0, rfl, ?_, fun i hi => ?_⟩⟩, hlt⟩
    · exact (hlt g (by rw [hv]; rfl)).2
    · have ho : w.ownsRow B 3 1 (.slice (some ⟨g, 0, none⟩) zs.length cap) zs.length (zs.map (Value.int .i64)) := ⟨h1, .inr ⟨g, cap, cur, rfl, hb2, hh, hn, hm, hs, ht⟩⟩
      have := ho.cellAt i (by omega)
      rw [Nat.zero_add, this]
      simp [hi]
end

theorem Own.row {w : World} {B : Nat} {a : Option Addr} {c : Nat} {zs : List Int} (h : Own w B (.slice a zs.length c) zs) : IsRow .i64 w a zs.length c zs := by
  obtain ⟨a', c', hv, hr, _⟩ := h.form
  injection hv with e1 _ e3
  subst e1 e3
  exact hr
theorem ret_own {P : Program} {f : FuncId} {args : Array Value} {w : World} {B C : Nat} {zs : List Int}
    (h : Calls P f args w fun e w' => ∃ v, e = .returned v ∧ Own w' B v zs ∧ Below C w w') :
    Calls P f args w fun e w' => ∃ a c, e = .returned (.slice a zs.length c) ∧ Own w' B (.slice a zs.length c) zs ∧ Below C w w' :=
  h.mono fun e w' ⟨v, he, ho, hb⟩ => by
    obtain ⟨a, c, rfl, _, _⟩ := ho.form
    exact ⟨a, c, he, ho, hb⟩
/-- Two owned slices, one made behind the other. -/
theorem own_ne {w w' : World} {B C : Nat} {u v : Value} {zs ys : List Int} (h : Own w B u zs) (k : Own w' C v ys) (hC : w.heap.size ≤ C) : u.ownBlock = none ∨ u.ownBlock ≠ v.ownBlock := by
  rcases hu : u.ownBlock with _ | g
  · exact .inl rfl
  · right
    intro e
    have h1 := (h.lt g hu).2
    have h2 := (k.lt g e.symm).1
    omega
theorem grown_setCell {a w : World} {g : Nat} (h : a.grownBy w (some g)) (p : Addr) (hp : p.block = g) (u : Value) : a.grownBy (w.setCell p u) (some g) :=
  ⟨h.os, h.tape, h.output, by simpa [World.setCell] using h.size, fun i hi hne => (Below.heap_setCell w p u i (by
    rintro rfl
    exact hne (by rw [hp]))).trans (h.block i hi hne)⟩
theorem range_succ_map (k : Int) (n : Nat) : (List.range (n + 1)).map (fun (j : Nat) => k + (j : Int)) = (List.range n).map (fun (j : Nat) => k + (j : Int)) ++ [k + (n : Int)] := by
  rw [List.range_succ, List.map_append]
  rfl
/-- The numbers from k on, so many. -/
def marks (k : Int) (n : Nat) : List Int := (List.range n).map fun (j : Nat) => k + (j : Int)
theorem marks_len (k : Int) (n : Nat) : (marks k n).length = n := by simp [marks]
theorem marks_get (k : Int) (n i : Nat) (h : i < n) : (marks k n).getD i 0 = k + i := by simp [marks, h]

end Go.Proofs.YtggonihjnipobaaDoor
