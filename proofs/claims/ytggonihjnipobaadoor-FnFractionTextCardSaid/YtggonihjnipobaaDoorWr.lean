/- Contracts of the source of numbers: opened, one of a list; lists written out. Conditions: as stated. -/
import Derived.Test.YtggonihjnipobaaDoorWd
namespace Go.Proofs.YtggonihjnipobaaDoor
open Go.RowKit

theorem IsRow.take {k : IntKind} {w : World} {A : Option Addr} {n c : Nat} {zs : List Int} (h : IsRow k w A n c zs) (m : Nat) (hm : m ≤ n) : IsRow k w A m c (zs.take m) := by
  obtain ⟨h1, h2, h3, h4, h5⟩ := h
  refine ⟨by simp; omega, by omega, h3, fun x hx => h4 x (List.mem_of_mem_take hx), fun hp => ?_⟩
  obtain ⟨b, o, e, hb, hc⟩ := h5 (by omega)
  refine ⟨b, o, e, hb, fun i hi => ?_⟩
  rw [hc i (by omega)]
  simp [hi]
theorem IsRow.block {k : IntKind} {w : World} {A : Option Addr} {n c : Nat} {zs : List Int} (h : IsRow k w A n c zs) (hn : 0 < n) : ∀ b o, A = some ⟨b, o, none⟩ → b < w.heap.size := by
  intro b o e
  obtain ⟨b', o', e', hb, _⟩ := h.at_ hn
  rw [e'] at e
  injection e with e
  injection e with e
  omega
theorem heap_new (w : World) (o : Obj) : (w.alloc o).heap[w.heap.size]? = some o := by
  show (w.heap.push o)[w.heap.size]? = some o
  simp
theorem open_reader (w : World) (A : Option Addr) (n c : Nat) (zs : List Int) (ha : IsRow .u8 w A n c zs) (hn : n ≤ 2000) :
    Reader (w.alloc (.cells #[.slice A n c, .int .i64 0] 61)) w.heap.size 0 :=
  ⟨A, n, c, zs, 0, heap_new _ _, ha.alloc _, fun hp => ha.block hp, hn, Nat.le_refl _⟩
set_option maxHeartbeats 1000000 in
theorem l14Open_c (A : Option Addr) (n c : Nat) (zs : List Int) (w : World) (ha : IsRow .u8 w A n c zs) :
    Calls Tryd.prog 23 #[.slice A n c] w (fun e w' => e = .returned (.pointer (some ⟨w.heap.size, 0, none⟩)) ∧ Reader w' w.heap.size 0 ∧ Below w.heap.size w w') := by
  have h1 : n ≤ c := ha.2.1
  have h2 : c ≤ 9223372036854775807 := ha.2.2.1
  have HA := Lib.hid ha
  clear ha
  by_cases hn : n ≤ 2000
  · have hn2 : (n : Int) ≤ 2000 := by omega
    go_enter Tryd.func23, Tryd.ntmps23
    go_wp2_with fail
    go_ret
    exact ⟨rfl, open_reader _ _ _ _ _ HA.out hn, (Below.refl _ _).alloc (Nat.le_refl _) _⟩
  · have hn2 : 2000 < (n : Int) := by omega
    go_enter Tryd.func23, Tryd.ntmps23
    go_wp2_with fail
    go_ret
    exact ⟨rfl, open_reader _ _ 2000 _ _ (HA.out.take 2000 (by omega)) (Nat.le_refl _), (Below.refl _ _).alloc (Nat.le_refl _) _⟩
/-- A list of numbers written out in the program. -/
theorem lit_row (w : World) (xs : List Int) (hf : ∀ x ∈ xs, Fits x) (hl : xs.length ≤ 1000) :
    IsRow .i64 (w.alloc (.cells (xs.map (Value.int .i64)).toArray 3)) (some ⟨w.heap.size, 0, none⟩) xs.length xs.length xs := by
  refine ⟨rfl, Nat.le_refl _, by omega, fun x hx => wf_of_fits (hf x hx), fun _ => ⟨_, _, rfl, by simp, fun i hi => ?_⟩⟩
  rw [Nat.zero_add, World.cell?_alloc_new]
  simp [hi]
/-- One of a list, the reader gone on by one. -/
def NumPost (w : World) (g q : Nat) (zs : List Int) (e : Ending) (w' : World) : Prop :=
  ∃ i, i < zs.length ∧ e = .returned (.int .i64 (zs.getD i 0)) ∧ Reader w' g (q + 1) ∧ w.grownBy w' (some g)
set_option maxHeartbeats 1000000 in
theorem num_c (g q : Nat) (a : Option Addr) (n c : Nat) (zs : List Int) (hq : q ≤ 1000000) (hn : 0 < n) (hn1 : n ≤ 1000) (w : World) (hr : Reader w g q) (ha : IsRow .i64 w a n c zs) (hne : ∀ b o, a = some ⟨b, o, none⟩ → b ≠ g) :
    Calls Tryd.prog 38 #[.pointer (some ⟨g, 0, none⟩), .slice a n c] w (fun e w' => NumPost w g q zs e w') := by
  obtain ⟨b, o, rfl, hb, hc⟩ := ha.at_ hn
  have hlen := ha.len
  have h1 : n ≤ c := ha.2.1
  have h2 : c ≤ 9223372036854775807 := ha.2.2.1
  have hbg := hne b o rfl
  have HR := Lib.hid hr
  have HC := Lib.hid hc
  have HL := Lib.hid hlen
  clear hr hc hlen hne ha
  go_enter Tryd.func38, Tryd.ntmps38
  go_wp2_with fail
  refine (pick_c g q _ hq (by omega) _ HR.out).mono ?_
  rintro e w1 ⟨x, rfl, hx0, hx1, hr1, hg1⟩
  obtain ⟨i, rfl⟩ : ∃ i : Nat, x = (i : Int) := ⟨x.toNat, by omega⟩
  have hi : i < n := by omega
  have hci : w1.cell? ⟨b, o + i, none⟩ = some (.int .i64 (zs.getD i 0)) := by
    rw [World.cell?_of_block (hg1.block b hb (by intro e; injection e with e; omega))]
    exact HC.out i hi
  have HR1 := Lib.hid hr1
  have HG1 := Lib.hid hg1
  clear hr1 hg1 HC hx1
  go_wp2_with fail
  go_ret
  exact ⟨i, by have := HL.out; omega, rfl, HR1.out, HG1.out⟩
end Go.Proofs.YtggonihjnipobaaDoor
