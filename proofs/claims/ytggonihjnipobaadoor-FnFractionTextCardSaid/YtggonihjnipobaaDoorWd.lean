/- Contracts of the deterministic source of numbers that the laws draw from. Only what is wanted: that it returns, in which range, and that nothing else turns. -/
import Derived.Test.YtggonihjnipobaaDoorWm
import Derived.BigGuardPart
import Derived.Deep.DeepCutAuto
namespace Go.Proofs.YtggonihjnipobaaDoor
open Go.RowKit

/-- Block g is a reader: some bytes that came in, and how many numbers were drawn (at most q). -/
def Reader (w : World) (g : Nat) (q : Nat) : Prop :=
  ∃ (A : Option Addr) (n c : Nat) (zs : List Int) (p : Nat), w.heap[g]? = some (.cells #[.slice A n c, .int .i64 (p : Int)] 61 (0, 0)) ∧ IsRow .u8 w A n c zs ∧ (0 < n → ∀ b o, A = some ⟨b, o, none⟩ → b < g) ∧ n ≤ 2000 ∧ p ≤ q

theorem Reader.lt {w : World} {g q : Nat} (h : Reader w g q) : g < w.heap.size := by
  obtain ⟨A, n, c, zs, p, hh, _⟩ := h
  rcases Nat.lt_or_ge g w.heap.size with hlt | hge
  · exact hlt
  · rw [Array.getElem?_eq_none hge] at hh
    cases hh
/-- A reader is kept by whatever leaves all old blocks as they are. -/
theorem Reader.kept {w w' : World} {g q : Nat} (h : Reader w g q) {row : Option Nat} (hg : w.grownBy w' row) (hr : ∀ k, row = some k → g < k) : Reader w' g q := by
  have hlt := h.lt
  obtain ⟨A, n, c, zs, p, hh, hr2, hb, hn, hp⟩ := h
  refine ⟨A, n, c, zs, p, ?_, ?_, hb, hn, hp⟩
  · rw [hg.block g hlt (fun e => by have := hr g e.symm; omega)]
    exact hh
  · obtain ⟨h1, h2, h3, h4, h5⟩ := hr2
    refine ⟨h1, h2, h3, h4, fun hpos => ?_⟩
    obtain ⟨b, o, e, hlb, hc⟩ := h5 hpos
    have hbg := hb hpos b o e
    exact ⟨b, o, e, Nat.lt_of_lt_of_le hlb hg.size, fun i hi => (World.cell?_of_block (hg.block b hlb (fun e2 => by have := hr b e2.symm; omega))).trans (hc i hi)⟩
theorem Reader.alloc {w : World} {g q : Nat} (h : Reader w g q) (o : Obj) : Reader (w.alloc o) g q :=
  h.kept (row := none) ⟨rfl, rfl, rfl, by simp, fun k hk _ => Below.heap_alloc w o k hk⟩ (fun k e => by cases e)
theorem Reader.drewN {w : World} {g q : Nat} (h : Reader w g q) (m : Nat) : Reader (w.drewN m) g q := h
theorem Reader.more {w : World} {g q q' : Nat} (h : Reader w g q) (hq : q ≤ q') : Reader w g q' := by
  obtain ⟨A, n, c, zs, p, hh, hr2, hb, hn, hp⟩ := h
  exact ⟨A, n, c, zs, p, hh, hr2, hb, hn, by omega⟩

def PickPost (w : World) (g q : Nat) (m : Int) (e : Ending) (w' : World) : Prop :=
  ∃ x : Int, e = .returned (.int .i64 x) ∧ 0 ≤ x ∧ (x < m ∨ x = 0) ∧ Reader w' g (q + 1) ∧ w.grownBy w' (some g)

theorem grown_drewN {a w : World} {row : Option Nat} (h : a.grownBy w row) (n : Nat) : a.grownBy (w.drewN n) row := ⟨h.os, h.tape, h.output, h.size, h.block⟩
theorem grown_trans_row {a b c : World} {row : Option Nat} (h : a.grownBy b row) (k : b.grownBy c row) : a.grownBy c row :=
  ⟨k.os.trans h.os, k.tape.trans h.tape, k.output.trans h.output, Nat.le_trans h.size k.size, fun i hi hne => (k.block i (Nat.lt_of_lt_of_le hi h.size) hne).trans (h.block i hi hne)⟩
theorem grown_alloc {a w : World} {row : Option Nat} (h : a.grownBy w row) (o : Obj) : a.grownBy (w.alloc o) row :=
  ⟨h.os, h.tape, h.output, Nat.le_trans h.size (by simp), fun i hi hne => (Below.heap_alloc w o i (Nat.lt_of_lt_of_le hi h.size)).trans (h.block i hi hne)⟩
/-- Only block g, and what is new, has turned: below g nothing. -/
theorem below_of_grown {B : Nat} {a w : World} {g : Nat} (h : a.grownBy w (some g)) (hB : B ≤ g) (hs : B ≤ a.heap.size) : Below B a w :=
  ⟨h.os, h.tape, h.output, h.size, fun k hk => h.block k (by omega) (by intro e; injection e with e; omega)⟩

/-- The reader's block after the count has gone up by one. -/
theorem reader_next {w : World} {g q : Nat} {A : Option Addr} {n c : Nat} {zs : List Int} {p : Nat}
    (hh : w.heap[g]? = some (.cells #[.slice A n c, .int .i64 (p : Int)] 61 (0, 0))) (hr : IsRow .u8 w A n c zs) (hb : 0 < n → ∀ b o, A = some ⟨b, o, none⟩ → b < g) (hn : n ≤ 2000) (hp : p ≤ q) :
    Reader (w.setCell ⟨g, 1, none⟩ (.int .i64 ((p : Int) + 1))) g (q + 1) := by
  have hlt : g < w.heap.size := by
    rcases Nat.lt_or_ge g w.heap.size with hlt | hge
    · exact hlt
    · rw [Array.getElem?_eq_none hge] at hh
      cases hh
  refine ⟨A, n, c, zs, p + 1, ?_, ?_, hb, hn, by omega⟩
  · simp [World.setCell, Array.getElem?_modify, hh]
  · obtain ⟨h1, h2, h3, h4, h5⟩ := hr
    refine ⟨h1, h2, h3, h4, fun hpos => ?_⟩
    obtain ⟨b, o, e, hlb, hc⟩ := h5 hpos
    have hbg := hb hpos b o e
    refine ⟨b, o, e, by simpa [World.setCell] using hlb, fun i hi => ?_⟩
    rw [World.cell?_setCell_other _ _ _ _ (by intro e2; injection e2; omega)]
    exact hc i hi

theorem xor_nonneg {a b : Int} (ha : 0 ≤ a ∧ a ≤ 4611686018427387904) (hb : 0 ≤ b ∧ b ≤ 4611686018427387904) : 0 ≤ bits .xor .i64 a b := by
  have e1 : (BitVec.ofInt 64 a).toNat = a.toNat := by
    rw [BitVec.toNat_ofInt]; omega
  have e2 : (BitVec.ofInt 64 b).toNat = b.toNat := by
    rw [BitVec.toNat_ofInt]; omega
  have hx : a.toNat ^^^ b.toNat < 2 ^ 63 := Nat.xor_lt_two_pow (by omega) (by omega)
  show 0 ≤ IntKind.i64.wrap ((BitVec.ofInt 64 a ^^^ BitVec.ofInt 64 b).toNat : Int)
  rw [BitVec.toNat_xor, e1, e2, IntKind.wrap_i64]
  omega

theorem tmod_range {X m : Int} (hX : 0 ≤ X) (hm : 0 < m) : 0 ≤ X.tmod m ∧ X.tmod m < m := by
  rw [Int.tmod_eq_emod_of_nonneg hX]
  exact ⟨Int.emod_nonneg _ (by omega), Int.emod_lt_of_pos _ hm⟩
theorem row_next {w : World} {g p : Nat} {A : Option Addr} {n c : Nat} {zs : List Int} (hr : IsRow .u8 w A n c zs) (hb : 0 < n → ∀ b o, A = some ⟨b, o, none⟩ → b < g) :
    IsRow .u8 (w.setCell ⟨g, 1, none⟩ (.int .i64 ((p : Int) + 1))) A n c zs := by
  obtain ⟨h1, h2, h3, h4, h5⟩ := hr
  refine ⟨h1, h2, h3, h4, fun hpos => ?_⟩
  obtain ⟨b, o, e, hlb, hc⟩ := h5 hpos
  have hbg := hb hpos b o e
  refine ⟨b, o, e, by simpa [World.setCell] using hlb, fun i hi => ?_⟩
  rw [World.cell?_setCell_other _ _ _ _ (by intro e2; injection e2; omega)]
  exact hc i hi
set_option maxHeartbeats 4000000 in
theorem pick_c (g q : Nat) (m : Int) (hq : q ≤ 1000000) (hm : -4611686018427387904 ≤ m ∧ m ≤ 4611686018427387904) (w : World) (hr : Reader w g q) :
    Calls Tryd.prog 32 #[.pointer (some ⟨g, 0, none⟩), .int .i64 m] w (fun e w' => PickPost w g q m e w') := by
  obtain ⟨hm1, hm2⟩ := hm
  have hlt := hr.lt
  obtain ⟨A, n, c, zs, p, hh, hrow, hb, hn, hp⟩ := hr
  have hnext := reader_next hh hrow hb hn hp
  have hrow2 := row_next (p := p) hrow hb
  have c0 : w.cell? ⟨g, 0, none⟩ = some (.slice A n c) := by simp [World.cell?, hh]
  have c1 : w.cell? ⟨g, 1, none⟩ = some (.int .i64 (p : Int)) := by simp [World.cell?, hh]
  have f1 : w.frozen? ⟨g, 1, none⟩ = false := by simp [World.frozen?, hh]
  have hgrow : w.grownBy (w.setCell ⟨g, 1, none⟩ (.int .i64 ((p : Int) + 1))) (some g) := grown_setCell ⟨rfl, rfl, rfl, Nat.le_refl _, fun _ _ _ => rfl⟩ _ rfl _
  have d0 : (w.setCell ⟨g, 1, none⟩ (.int .i64 ((p : Int) + 1))).cell? ⟨g, 0, none⟩ = some (.slice A n c) := by
    rw [World.cell?_setCell_other _ _ _ _ (by intro e2; injection e2; omega)]
    exact c0
  have d1 : (w.setCell ⟨g, 1, none⟩ (.int .i64 ((p : Int) + 1))).cell? ⟨g, 1, none⟩ = some (.int .i64 ((p : Int) + 1)) := by
    simp [World.setCell, World.cell?, hh, Array.getElem?_modify]
  have hpb : p ≤ 1000000 := by omega
  have hcn : n ≤ c := hrow.2.1
  have hcm : c ≤ 9223372036854775807 := hrow.2.2.1
  clear hrow hb hh
  go_enter Tryd.func32, Tryd.ntmps32
  go_upto_region 2 with fail
  clear c0 c1 f1
  generalize w.setCell ⟨g, 1, none⟩ (.int .i64 ((p : Int) + 1)) = W at *
  have HN := Lib.hid hnext
  have HG := Lib.hid hgrow
  have HR := Lib.hid hrow2
  clear hnext hgrow hrow2
  by_cases h1 : m < 1
  · go_wp2_with fail
    go_ret
    exact ⟨0, rfl, by omega, Or.inr rfl, HN.out, HG.out⟩
  · by_cases h2 : n = 0
    · subst h2
      go_wp2_with fail
      go_ret
      exact ⟨0, rfl, by omega, Or.inr rfl, HN.out, HG.out⟩
    · have h2b : ((n : Int) == 0) = false := by simpa using h2
      have h1b : (m == 0) = false := by simp; omega
      obtain ⟨b1, o1, rfl, _, hc⟩ := HR.out.at_ (by omega)
      by_cases h3 : p < n
      · have g1 := hc p h3
        obtain ⟨z1, z2⟩ := HR.out.byte p
        clear hc HR
        generalize zs.getD p 0 = z at *
        have hr : 0 ≤ z % m ∧ z % m < m := ⟨Int.emod_nonneg _ (by omega), Int.emod_lt_of_pos _ (by omega)⟩
        have HRR := Lib.hid hr
        clear hr
        go_wp2_with fail
        go_ret
        exact ⟨_, rfl, HRR.out.1, Or.inl HRR.out.2, HN.out, HG.out⟩
      · obtain ⟨j1, hj1, k1⟩ : ∃ j : Nat, (p : Int) % (n : Int) = (j : Int) ∧ j < n := ⟨p % n, by omega, Nat.mod_lt _ (by omega)⟩
        obtain ⟨j2, hj2, k2⟩ : ∃ j : Nat, ((p : Int) * 7 + 3) % (n : Int) = (j : Int) ∧ j < n := ⟨(p * 7 + 3) % n, by norm_cast, Nat.mod_lt _ (by omega)⟩
        obtain ⟨d, hd, k3⟩ : ∃ j : Nat, (p : Int) / (n : Int) = (j : Int) ∧ j ≤ p := ⟨p / n, by omega, Nat.div_le_self _ _⟩
        have g1 := hc j1 k1
        have g2 := hc j2 k2
        obtain ⟨z1, z2⟩ := HR.out.byte j1
        obtain ⟨z3, z4⟩ := HR.out.byte j2
        clear hc HR
        generalize zs.getD j1 0 = z at *
        generalize zs.getD j2 0 = y at *
        go_wp2_with fail
        go_quiet (fail)
        go_upto_region 9 with fail
        have hx : 0 ≤ bits .xor .i64 (z * 131 + y * 1117 + (p : Int) * 29 + (d : Int) * 53) ((z * 131 + y * 1117 + (p : Int) * 29 + (d : Int) * 53) / 64) := xor_nonneg (by omega) (by omega)
        generalize bits .xor .i64 (z * 131 + y * 1117 + (p : Int) * 29 + (d : Int) * 53) ((z * 131 + y * 1117 + (p : Int) * 29 + (d : Int) * 53) / 64) = X at *
        have hr : 0 ≤ X % m ∧ X % m < m := ⟨Int.emod_nonneg _ (by omega), Int.emod_lt_of_pos _ (by omega)⟩
        have HRR := Lib.hid hr
        clear hr
        go_wp2_with fail
        go_ret
        exact ⟨_, rfl, HRR.out.1, Or.inl HRR.out.2, HN.out.drewN _, grown_drewN HG.out _⟩
end Go.Proofs.YtggonihjnipobaaDoor
