/- append, onto a slice that the call owns, of whatever row of integers. Conditions: as stated. -/
import Derived.Test.YtihbfhjfceabnaaWm
import Derived.Deep.AppendLies
namespace Go.Proofs.Ytihbfhjfceabnaa
open Go.RowKit

theorem own_some {w : World} {B n : Nat} {v : Value} {zs : List Int} (h : w.ownsRow B 3 1 v n (zs.map (Value.int .i64))) (hv : v ≠ .slice none 0 0) : ∃ g c, v = .slice (some ⟨g, 0, none⟩) n c := by
  rcases h.2 with ⟨h1, _⟩ | ⟨g, cap, cur, h1, _⟩
  · exact absurd h1 (by first | exact hv | (intro e; exact hv e))
  · exact ⟨g, cap, h1⟩
theorem wp_push {o : Oper} {a : Act} {w : World} {K : Act → World → Prop} {Q : Exit → Act → World → Prop} (s x : Operand)
    (ho : o.op = .call { callee := .builtin .append, args := #[s, x], argTypes := #[23, 23] })
    (B g n c : Nat) (zs : List Int) (hs : a.eval s = .slice (some ⟨g, 0, none⟩) n c) (hl : zs.length = n) (hown : Own w B (.slice (some ⟨g, 0, none⟩) n c) zs)
    (A : Addr) (m c' : Nat) (ys : List Int) (hx : a.eval x = .slice (some A) m c') (hr : IsRow .i64 w (some A) m c' ys) (hnm : n + m ≤ 1048576) (hB : B ≤ w.heap.size)
    (h : ∀ g' c'' w', Own w' B (.slice (some ⟨g', 0, none⟩) (n + m) c'') (zs ++ ys) → w.grownBy w' (some g) → K (a.put o.dst (.slice (some ⟨g', 0, none⟩) (n + m) c'')) w') : o.wp Try.prog a w K Q := by
  obtain ⟨i0, hi, hz0, hz1, hz2⟩ := info_parts Try.infoInt
  subst hl
  refine wp_append_own w s x 23 ho B 3 i0 (.int .i64 0) 1 8 Try.underlying23 hi hz0 hz1 hz2 rfl (by decide) _ _ _ hs hown.1 A m c' (ys.map (Value.int .i64)) hx (by rw [List.length_map, hr.len, Nat.mul_one]) ?_ ?_ (by unfold maxLen; omega) (by omega) hB ?_
  · intro j u hj
    rw [List.getElem?_map] at hj
    have hlt : j < m := by
      rcases Nat.lt_or_ge j ys.length with h1 | h1
      · rw [← hr.len]; exact h1
      · rw [List.getElem?_eq_none h1] at hj; cases hj
    obtain ⟨b, off, e, _, hc⟩ := hr.at_ (by omega)
    obtain rfl : A = ⟨b, off, none⟩ := by injection e
    have hadd : (⟨b, off, none⟩ : Addr).add j = ⟨b, off + j, none⟩ := by unfold Addr.add; split <;> simp_all
    rw [hadd, hc j hlt]
    have hj2 : j < ys.length := by rw [hr.len]; exact hlt
    rw [List.getElem?_eq_getElem hj2] at hj
    rw [List.getD_eq_getElem?_getD, List.getElem?_eq_getElem hj2]
    simpa using hj
  · intro u hu
    obtain ⟨y, _, rfl⟩ := List.mem_map.1 hu
    rfl
  · intro v' w' h1 h2 h3
    rw [← List.map_append] at h1
    obtain ⟨g', c'', rfl⟩ := own_some h1 (by
      intro e
      have := (h3.1 e).1
      cases this)
    refine h g' c'' w' ⟨by rw [List.length_append, hr.len]; exact h1, fun y hy => ?_⟩ h2
    rcases List.mem_append.1 hy with h4 | h4
    · exact hown.2 y h4
    · obtain ⟨i, hi, e⟩ := List.getElem_of_mem h4
      have := hr.fits i
      rw [List.getD_eq_getElem?_getD, List.getElem?_eq_getElem hi] at this
      rw [← e]; exact this
theorem wpList_push {ops : Array Oper} {rest : List Oper} {o : Oper} {a : Act} {w : World} {Q : Exit → Act → World → Prop} (hgd : o.guard = none) (s x : Operand)
    (ho : o.op = .call { callee := .builtin .append, args := #[s, x], argTypes := #[23, 23] })
    (B g n c : Nat) (zs : List Int) (hs : a.eval s = .slice (some ⟨g, 0, none⟩) n c) (hl : zs.length = n) (hown : Own w B (.slice (some ⟨g, 0, none⟩) n c) zs)
    (A : Addr) (m c' : Nat) (ys : List Int) (hx : a.eval x = .slice (some A) m c') (hr : IsRow .i64 w (some A) m c' ys) (hnm : n + m ≤ 1048576) (hB : B ≤ w.heap.size)
    (h : ∀ g' c'' w', Own w' B (.slice (some ⟨g', 0, none⟩) (n + m) c'') (zs ++ ys) → w.grownBy w' (some g) → wpList Try.prog ops Q rest (a.put o.dst (.slice (some ⟨g', 0, none⟩) (n + m) c'')) w') : wpList Try.prog ops Q (o :: rest) a w :=
  wpList_plain hgd fun _ hK => wp_push s x ho B g n c zs hs hl hown A m c' ys hx hr hnm hB fun g' c'' w' h1 h2 => hK _ _ (h g' c'' w' h1 h2)
theorem wpList_pushw {ops : Array Oper} {rest : List Oper} {o : Oper} {a : Act} {w : World} {Q : Exit → Act → World → Prop} (hgd : Region.wanted o (yielded ops a.tmps) = true) (s x : Operand)
    (ho : o.op = .call { callee := .builtin .append, args := #[s, x], argTypes := #[23, 23] })
    (B g n c : Nat) (zs : List Int) (hs : a.eval s = .slice (some ⟨g, 0, none⟩) n c) (hl : zs.length = n) (hown : Own w B (.slice (some ⟨g, 0, none⟩) n c) zs)
    (A : Addr) (m c' : Nat) (ys : List Int) (hx : a.eval x = .slice (some A) m c') (hr : IsRow .i64 w (some A) m c' ys) (hnm : n + m ≤ 1048576) (hB : B ≤ w.heap.size)
    (h : ∀ g' c'' w', Own w' B (.slice (some ⟨g', 0, none⟩) (n + m) c'') (zs ++ ys) → w.grownBy w' (some g) → wpList Try.prog ops Q rest (a.put o.dst (.slice (some ⟨g', 0, none⟩) (n + m) c'')) w') : wpList Try.prog ops Q (o :: rest) a w :=
  BigFrame.wpList_want hgd fun _ hK => wp_push s x ho B g n c zs hs hl hown A m c' ys hx hr hnm hB fun g' c'' w' h1 h2 => hK _ _ (h g' c'' w' h1 h2)
theorem step_push {ops : Array Oper} {o : Oper} {a : Act} {w : World} {K : Act → World → Prop} {Q : Exit → Act → World → Prop} {E : Prop} (hgd : o.guard = none) (s x : Operand)
    (ho : o.op = .call { callee := .builtin .append, args := #[s, x], argTypes := #[23, 23] })
    (B g n c : Nat) (zs : List Int) (hs : a.eval s = .slice (some ⟨g, 0, none⟩) n c) (hl : zs.length = n) (hown : Own w B (.slice (some ⟨g, 0, none⟩) n c) zs)
    (A : Addr) (m c' : Nat) (ys : List Int) (hx : a.eval x = .slice (some A) m c') (hr : IsRow .i64 w (some A) m c' ys) (hnm : n + m ≤ 1048576) (hB : B ≤ w.heap.size)
    (h : ∀ g' c'' w', Own w' B (.slice (some ⟨g', 0, none⟩) (n + m) c'') (zs ++ ys) → w.grownBy w' (some g) → K (a.put o.dst (.slice (some ⟨g', 0, none⟩) (n + m) c'')) w') :
    if Region.wanted o (yielded ops a.tmps) = true then Oper.wp Try.prog o a w K Q else E := by
  have hw : Region.wanted o (yielded ops a.tmps) = true := by simp [Region.wanted, hgd]
  rw [if_pos hw]
  exact wp_push s x ho B g n c zs hs hl hown A m c' ys hx hr hnm hB h
/-- A list written out in the program, owned. -/
theorem own_lit (w : World) (xs : List Int) (hf : ∀ x ∈ xs, Fits x) (hl : xs.length ≤ 1000) (B : Nat) (hB : B ≤ w.heap.size) :
    Own (w.alloc (.cells (xs.map (Value.int .i64)).toArray 3)) B (.slice (some ⟨w.heap.size, 0, none⟩) xs.length xs.length) xs := by
  refine ⟨?_, hf⟩
  have := World.ownsRow_lit w (xs.map (Value.int .i64)).toArray xs.length (base := B) (size := 1) (e := 3) hB (by unfold maxLen; omega) (by simp)
  simpa using this
end Go.Proofs.Ytihbfhjfceabnaa
