/- Small words that glue a law's calls: rows and owned slices carried from world to world. No condition. -/
import Derived.Test.YtemollfejgmlcaaMb
namespace Go.Proofs.Ytemollfejgmlcaa
open Go.RowKit
theorem bel_drew {P : Program} {f : FuncId} {args : Array Value} {W : World} {v : Value}
    (h : Calls P f args W fun e w' => e = .returned v ∧ ∃ m, w' = W.drewN m) : Calls P f args W fun e w' => e = .returned v ∧ Below W.heap.size W w' :=
  h.mono fun _ _ ⟨he, m, hm⟩ => ⟨he, by rw [hm]; exact below_drewN (Below.refl _ _) m⟩
theorem bel_same {P : Program} {f : FuncId} {args : Array Value} {W : World} {v : Value}
    (h : Calls P f args W fun e w' => e = .returned v ∧ W = w') : Calls P f args W fun e w' => e = .returned v ∧ Below W.heap.size W w' :=
  h.mono fun _ _ ⟨he, hm⟩ => ⟨he, by rw [← hm]; exact Below.refl _ _⟩
theorem Own.rowAt {w : World} {B : Nat} {a : Option Addr} {n c : Nat} {zs : List Int} (h : Own w B (.slice a n c) zs) : IsRow .i64 w a n c zs := by
  obtain ⟨a', c', hv, hr, _⟩ := h.form
  injection hv with e1 e2 e3
  subst e1 e2 e3
  exact hr
theorem IsRow.grown {k : IntKind} {w w' : World} {a : Option Addr} {n c : Nat} {zs : List Int} (h : IsRow k w a n c zs) {row : Option Nat} (hg : w.grownBy w' row)
    (hne : 0 < n → ∀ b o, a = some ⟨b, o, none⟩ → row ≠ some b) : IsRow k w' a n c zs := by
  obtain ⟨h1, h2, h3, h4, h5⟩ := h
  refine ⟨h1, h2, h3, h4, fun hn => ?_⟩
  obtain ⟨b, o, e, hlt, hc⟩ := h5 hn
  exact ⟨b, o, e, Nat.lt_of_lt_of_le hlt hg.size, fun i hi => (World.cell?_of_block (hg.block b hlt (fun e2 => hne hn b o e e2.symm))).trans (hc i hi)⟩
theorem IsRow.lowAt {k : IntKind} {w : World} {a : Option Addr} {n c : Nat} {zs : List Int} (h : IsRow k w a n c zs) : 0 < n → ∀ b o, a = some ⟨b, o, none⟩ → b < w.heap.size := by
  intro hn b o e
  obtain ⟨b', o', e', hb, _⟩ := h.at_ hn
  rw [e'] at e
  injection e with e
  injection e with e
  omega
theorem marks_own_fits (k : Int) (n : Nat) : (marks k n).length = n := marks_len k n
end Go.Proofs.Ytemollfejgmlcaa
