/- Words for memory that the walks of this seat share: a slice of integers that reads as a list, arguments opened, small laws. No condition. -/
import Derived.Test.YtggonihjnipobaaDoorRows
import Derived.WalkKit
import Derived.ProofKit
import Derived.OpenShut
import Derived.ShutString
import Derived.ChangeOld
import Derived.Below
import Derived.WalkLawsBesides
import Derived.WalkSpells
import Derived.Lib.Hide
import Derived.Lib.SmallJoins
import Derived.Deep.Draws
import Derived.Deep.QuietTactic
import Derived.BigQuiet
namespace Go.Proofs.YtggonihjnipobaaDoor
open Go.ChangeShapes Go.WideShapes Go.ChangeAt Go.RowKit
open Go.ChangeMaps (open_string shut_string)

theorem own : ownKnob Tryd.prog.godebug = none := by kernel_rfl
theorem laidOut : laidOutB Tryd.prog = true := by kernel_rfl

/-- The number lies in an int's range. -/
def Fits (x : Int) : Prop := -9223372036854775808 ≤ x ∧ x ≤ 9223372036854775807

/-- A slice of integers that reads as the list zs. -/
def IsRow (k : IntKind) (w : World) (a : Option Addr) (n c : Nat) (zs : List Int) : Prop :=
  zs.length = n ∧ n ≤ c ∧ c ≤ 9223372036854775807 ∧ (∀ x ∈ zs, (Lit.int k x).wf = true) ∧
    (0 < n → ∃ b o, a = some ⟨b, o, none⟩ ∧ b < w.heap.size ∧ ∀ i, i < n → w.cell? ⟨b, o + i, none⟩ = some (.int k (zs.getD i 0)))

theorem fits_of_wf {x : Int} (h : (Lit.int .i64 x).wf = true) : Fits x := by
  have := bounds_i64 h
  unfold Fits
  exact this
theorem wf_of_fits {x : Int} (h : Fits x) : (Lit.int .i64 x).wf = true := by
  unfold Fits at h
  exact WalkArith.wf_i64 (by omega)
theorem byte_of_wf {x : Int} (h : (Lit.int .u8 x).wf = true) : 0 ≤ x ∧ x ≤ 255 := by
  exact bounds_u8 h

section
variable {H : Type} {enc : TypeId × Value → H} {P : Program} {w w' : World} {base : Nat} {spare : Nat → Bool} {held : Bool} {r : Reach} {b0 : Nat}

theorem get_int {t : TypeId} {v : Value} {d : DataW H} {ps : List MemPlace} (ht : P.underlying t = some (.int .i64)) (hval : Value.okWide P w r b0 t v) (hd : DataW.Trod enc P w base spare held t v d ps) :
    ∃ n, v = .int .i64 n ∧ Fits n := by
  obtain ⟨n, h, _, _, hw⟩ := open_int ht hval hd
  exact ⟨n, h, fits_of_wf hw⟩
theorem get_string {t : TypeId} {v : Value} {d : DataW H} {ps : List MemPlace} (ht : P.underlying t = some .string) (hval : Value.okWide P w r b0 t v) (hd : DataW.Trod enc P w base spare held t v d ps) :
    ∃ s, v = .string s ∧ s.size ≤ maxLen := by
  obtain ⟨s, h, _, _, hw⟩ := open_string ht hval hd
  exact ⟨s, h, hw⟩

theorem row_of_cells {k : IntKind} {a : Addr} {len cap : Nat} {zs : List Int} (hl : len ≤ cap) (hm : cap ≤ maxLen) (hz : len ≤ zs.length)
    (hcell : ∀ i, i < zs.length → w.cell? (a.add i) = some (.int k (zs.getD i 0))) (hwz : ∀ n ∈ zs, (Lit.int k n).wf = true) : IsRow k w (some a) len cap (zs.take len) := by
  refine ⟨by simp; omega, hl, by unfold maxLen at hm; omega, fun x hx => hwz x (List.mem_of_mem_take hx), fun hn => ?_⟩
  have h0 := hcell 0 (by omega)
  obtain ⟨b, o, spot⟩ := a
  have hspot : spot = none := by simpa [Addr.add] using World.cell?_spot h0
  subst hspot
  refine ⟨b, o, rfl, by simpa [Addr.add] using World.block_lt_of_cell? _ _ h0, fun i hi => ?_⟩
  have := hcell i (by omega)
  have e : (⟨b, o, none⟩ : Addr).add i = ⟨b, o + i, none⟩ := by
    unfold Addr.add
    split
    · simp_all
    · rfl
  rw [e] at this
  rw [this]
  simp [hi]

theorem row_nil (k : IntKind) (w : World) : IsRow k w none 0 0 [] := ⟨rfl, Nat.le_refl _, by omega, by simp, fun h => absurd h (by omega)⟩

theorem get_row_at {t e : TypeId} {k : IntKind} {a : Option Addr} {len cap : Nat} {fuel : Nat} {x : DataW H × List MemPlace} (ht : P.underlying t = some (.slice e)) (he : P.underlying e = some (.int k)) (hc : P.cellsOf e = 1)
    (hf : DataW.trod enc P w 0 (fun _ => true) held fuel t [.slice a len cap] = some x) : ∃ zs, IsRow k w a len cap zs := by
  rcases open_ints ht he hc hf with ⟨hcs, _⟩ | ⟨x, l, c, zs, hcs, _, hl, hm, hz, _, hcell, hwz⟩
  · simp at hcs
    obtain ⟨rfl, rfl, rfl⟩ := hcs
    exact ⟨[], row_nil k w⟩
  · simp at hcs
    obtain ⟨rfl, rfl, rfl⟩ := hcs
    exact ⟨_, row_of_cells hl hm (by simp at hz; omega) hcell hwz⟩

theorem get_row {t e : TypeId} {k : IntKind} {v : Value} {d : DataW H} {ps : List MemPlace} (ht : P.underlying t = some (.slice e)) (he : P.underlying e = some (.int k)) (hc : P.cellsOf e = 1)
    (hval : Value.okWide P w r b0 t v) (hd : DataW.Trod enc P w 0 (fun _ => true) held t v d ps) :
    ∃ a len cap zs, v = .slice a len cap ∧ IsRow k w a len cap zs := by
  obtain ⟨a, len, cap, rfl⟩ := okWide_slice ht hval
  obtain ⟨fuel, hf⟩ := hd
  obtain ⟨zs, h⟩ := get_row_at ht he hc (by simpa [Value.cells] using hf)
  exact ⟨a, len, cap, zs, rfl, h⟩

theorem get_frac {t tx : TypeId} {f0 f1 : Field} {v : Value} {d : DataW H} {ps : List MemPlace} (hs : P.underlying t = some (.struct #[f0, f1])) (hone : Deep.oneCellFields P #[f0, f1] = true) (hC : P.cellsOf t = 2)
    (h0 : P.underlying tx = some (.int .i64)) (hval : Value.okWide P w r b0 t v) (hd : DataW.Trod enc P w base spare held t v d ps) (e0 : f0.type = tx := by rfl) (e1 : f1.type = tx := by rfl) :
    ∃ x y, v = .agg #[.int .i64 x, .int .i64 y] ∧ Fits x ∧ Fits y := by
  obtain ⟨v0, v1, y0, y1, n, rfl, _, _, r0, r1⟩ := Joins.open_agg2 hs hone hC hval hd
  rw [e0] at r0
  rw [e1] at r1
  obtain ⟨a, q0, _, wa⟩ := DataW.trod_int h0 r0
  obtain ⟨b, q1, _, wb⟩ := DataW.trod_int h0 r1
  simp at q0 q1
  subst q0 q1
  exact ⟨a, b, rfl, fits_of_wf wa, fits_of_wf wb⟩

theorem slice_form {t e : TypeId} {fuel : Nat} {v : Value} {x : DataW H × List MemPlace} (ht : P.underlying t = some (.slice e)) (h : DataW.trod enc P w base spare held fuel t [v] = some x) : ∃ a len cap, v = .slice a len cap := by
  rcases DataW.trod_slice ht h with ⟨h0, _⟩ | ⟨a, len, cap, elems, rest, n, _, h0, _⟩
  · simp at h0
    exact ⟨_, _, _, h0⟩
  · simp at h0
    exact ⟨_, _, _, h0⟩

theorem get_mass {t tx ty : TypeId} {f0 f1 : Field} {v : Value} {d : DataW H} {ps : List MemPlace} (hs : P.underlying t = some (.struct #[f0, f1])) (hone : Deep.oneCellFields P #[f0, f1] = true) (hC : P.cellsOf t = 2)
    (h0 : P.underlying tx = some (.int .i64)) (h1 : P.underlying ty = some (.slice tx)) (hc : P.cellsOf tx = 1) (hval : Value.okWide P w r b0 t v) (hd : DataW.Trod enc P w 0 (fun _ => true) held t v d ps)
    (e0 : f0.type = tx := by rfl) (e1 : f1.type = ty := by rfl) :
    ∃ s a len cap zs, v = .agg #[.int .i64 s, .slice a len cap] ∧ Fits s ∧ IsRow .i64 w a len cap zs := by
  obtain ⟨v0, v1, y0, y1, n, rfl, _, _, r0, r1⟩ := Joins.open_agg2 hs hone hC hval hd
  rw [e0] at r0
  rw [e1] at r1
  obtain ⟨s, q0, _, ws⟩ := DataW.trod_int h0 r0
  simp at q0
  subst q0
  obtain ⟨a, len, cap, rfl⟩ := slice_form h1 r1
  obtain ⟨zs, hz⟩ := get_row_at h1 h0 hc r1
  exact ⟨s, a, len, cap, zs, rfl, fits_of_wf ws, hz⟩
end

section
variable {w w' : World} {k : IntKind} {a : Option Addr} {n c B : Nat} {zs : List Int}

theorem IsRow.same (h : IsRow k w a n c zs) (hb : ∀ p : Addr, p.block < w.heap.size → w'.cell? p = w.cell? p) (hs : w.heap.size ≤ w'.heap.size) : IsRow k w' a n c zs := by
  obtain ⟨h1, h2, h3, h4, h5⟩ := h
  refine ⟨h1, h2, h3, h4, fun hn => ?_⟩
  obtain ⟨b, o, e, hlt, hc⟩ := h5 hn
  exact ⟨b, o, e, by omega, fun i hi => (hb _ hlt).trans (hc i hi)⟩
theorem IsRow.below (h : IsRow k w a n c zs) (hb : Below w.heap.size w w') : IsRow k w' a n c zs := h.same (fun _ hp => hb.cell hp) hb.size
theorem IsRow.alloc (h : IsRow k w a n c zs) (o : Obj) : IsRow k (w.alloc o) a n c zs := h.same (fun p hp => World.cell?_alloc_lt w o p hp) (by simp)
theorem IsRow.drew (h : IsRow k w a n c zs) : IsRow k w.drew a n c zs := h
theorem IsRow.drewN (h : IsRow k w a n c zs) (m : Nat) : IsRow k (w.drewN m) a n c zs := h
theorem IsRow.at_ (h : IsRow k w a n c zs) (hn : 0 < n) : ∃ b o, a = some ⟨b, o, none⟩ ∧ b < w.heap.size ∧ ∀ i, i < n → w.cell? ⟨b, o + i, none⟩ = some (.int k (zs.getD i 0)) := h.2.2.2.2 hn
theorem IsRow.len (h : IsRow k w a n c zs) : zs.length = n := h.1
theorem IsRow.fits (h : IsRow .i64 w a n c zs) (i : Nat) : Fits (zs.getD i 0) := by
  rcases Nat.lt_or_ge i zs.length with hi | hi
  · rw [List.getD_eq_getElem?_getD, List.getElem?_eq_getElem hi, Option.getD_some]
    exact fits_of_wf (h.2.2.2.1 _ (List.getElem_mem hi))
  · rw [List.getD_eq_getElem?_getD, List.getElem?_eq_none hi, Option.getD_none]
    unfold Fits
    omega
theorem IsRow.byte (h : IsRow .u8 w a n c zs) (i : Nat) : 0 ≤ zs.getD i 0 ∧ zs.getD i 0 ≤ 255 := by
  rcases Nat.lt_or_ge i zs.length with hi | hi
  · rw [List.getD_eq_getElem?_getD, List.getElem?_eq_getElem hi, Option.getD_some]
    exact byte_of_wf (h.2.2.2.1 _ (List.getElem_mem hi))
  · rw [List.getD_eq_getElem?_getD, List.getElem?_eq_none hi, Option.getD_none]
    omega
end

/-! ### A call whose run the kernel reckons -/
/-- The frame of function f is about to return. -/
def atRet (f : FuncId) (m : Machine) : Bool :=
  match m.gs[0]? with
  | some g => g.frame.fn == f && (match g.frame.mode with | .returning => true | _ => false) && g.frame.defers.isEmpty && (match g.frame.kind with | .normal => true | _ => false)
  | none => true
def runTo (P : Program) (f : FuncId) : Nat → Machine → Machine
  | 0, m => m
  | n + 1, m => if atRet f m then m else match step P m with | .next m' => runTo P f n m' | _ => m
theorem runTo_steps (P : Program) (f : FuncId) (n : Nat) : ∀ m, Steps P m (runTo P f n m) := by
  induction n with
  | zero => exact fun m => Steps.refl P m
  | succ n ih =>
    intro m
    unfold runTo
    by_cases h : atRet f m = true
    · rw [if_pos h]
      exact Steps.refl P m
    · rw [if_neg h]
      cases hs : step P m with
      | next m' => exact Steps.head hs (ih m')
      | ended o w => exact Steps.refl P m
def frameOf (P : Program) (f : FuncId) (args : Array Value) (m : Machine) : Frame :=
  match m.gs[0]? with
  | some g => g.frame
  | none => Frame.enter P f args .normal
theorem calls_of_run {P : Program} {f : FuncId} {args : Array Value} {w : World} {v : Value} (n : Nat) (fn : Func) (hf : P.funcs[f]? = some fn)
    (H : ∀ cs, (runTo P f n (lone (Frame.enter P f args .normal) cs w), atRet f (runTo P f n (lone (Frame.enter P f args .normal) cs w)),
        (results fn (frameOf P f args (runTo P f n (lone (Frame.enter P f args .normal) cs w))).tmps).run P w) =
      (lone (frameOf P f args (runTo P f n (lone (Frame.enter P f args .normal) cs w))) cs w, true, .ok v w)) :
    Calls P f args w fun e w' => e = .returned v ∧ w = w' := by
  intro cs
  have h0 := H cs
  rw [Prod.mk.injEq, Prod.mk.injEq] at h0
  obtain ⟨h1, h2, h3⟩ := h0
  have hs := runTo_steps P f n (lone (Frame.enter P f args .normal) cs w)
  generalize frameOf P f args (runTo P f n (lone (Frame.enter P f args .normal) cs w)) = fr at h1 h3
  rw [h1] at h2 hs
  simp [atRet, lone] at h2
  obtain ⟨⟨⟨e1, e2⟩, e3⟩, e4⟩ := h2
  refine ⟨.returned v, w, fr, ⟨rfl, rfl⟩, hs, e1, ?_, ?_, ?_, fn, by rw [e1]; exact hf, h3⟩
  · revert e2
    cases fr.mode <;> simp
  · exact e3
  · revert e4
    cases fr.kind <;> simp

theorem below_drewN {B : Nat} {a w : World} (h : Below B a w) (n : Nat) : Below B a (w.drewN n) := ⟨h.os, h.tape, h.output, h.size, h.block⟩
theorem str_ne {a b : ByteArray} (h : a ≠ b) : (a.toList == b.toList) = false := by
  rw [beq_eq_false_iff_ne, ByteArray.toList_eq, ByteArray.toList_eq]
  intro e
  apply h
  obtain ⟨⟨x⟩⟩ := a
  obtain ⟨⟨y⟩⟩ := b
  have e2 : x = y := e
  rw [e2]
theorem ret_int {k : IntKind} {a b : Int} (h : a = b) : Ending.returned (.int k a) = .returned (.int k b) := by rw [h]
theorem ret_bool {a b : Bool} (h : a = b) : Ending.returned (.bool a) = .returned (.bool b) := by rw [h]
theorem ret_str {a b : ByteArray} (h : a = b) : Ending.returned (.string a) = .returned (.string b) := by rw [h]
end Go.Proofs.YtggonihjnipobaaDoor
