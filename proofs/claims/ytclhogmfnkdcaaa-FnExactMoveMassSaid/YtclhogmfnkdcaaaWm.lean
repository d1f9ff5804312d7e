/- Contracts of the laws' own helpers on slices of integers: copied, compared, marked, looked at again. Conditions: as stated. -/
import Derived.Test.YtclhogmfnkdcaaaMem
namespace Go.Proofs.Ytclhogmfnkdcaaa
open Go.RowKit

theorem Try.infoInt : (Try.prog.info? 3).map (fun i => (i.zero, i.size, i.bytes)) = some (some (.int .i64 0), 1, 8) := by kernel_rfl

/-- The slice value v, in memory from block B on, owns the integers zs. -/
def Own (w : World) (B : Nat) (v : Value) (zs : List Int) : Prop := w.ownsRow B 3 1 v zs.length (zs.map (Value.int .i64)) ∧ ∀ x ∈ zs, Fits x

section
variable {w w' : World} {B B' : Nat} {v : Value} {zs : List Int}
theorem Own.below (h : Own w B v zs) {C : Nat} (hb : Below C w w') (hC : ∀ g, v.ownBlock = some g → g < C) : Own w' B v zs := by
  refine ⟨?_, h.2⟩
  obtain ⟨h1, h2⟩ := h.1
  refine ⟨h1, ?_⟩
  rcases h2 with h2 | ⟨g, cap, cur, hv, hb2, hh, hr⟩
  · exact .inl h2
  · exact .inr ⟨g, cap, cur, hv, hb2, (hb.block g (hC g (by rw [hv]; rfl))).trans hh, hr⟩
theorem Own.low (h : Own w B v zs) (hB : B' ≤ B) : Own w B' v zs := by
  refine ⟨?_, h.2⟩
  obtain ⟨h1, h2⟩ := h.1
  refine ⟨h1, ?_⟩
  rcases h2 with h2 | ⟨g, cap, cur, hv, hb2, hh, hr⟩
  · exact .inl h2
  · exact .inr ⟨g, cap, cur, hv, by omega, hh, hr⟩
theorem Own.lt (h : Own w B v zs) : ∀ g, v.ownBlock = some g → B ≤ g ∧ g < w.heap.size := h.1.lt
theorem Own.grown (h : Own w B v zs) {row : Option Nat} (hg : w.grownBy w' row) (hne : v.ownBlock = none ∨ v.ownBlock ≠ row) : Own w' B v zs := ⟨h.1.kept hg hne, h.2⟩
theorem Own.alloc (h : Own w B v zs) (o : Obj) : Own (w.alloc o) B v zs := ⟨h.1.alloc o, h.2⟩
theorem Own.drewN (h : Own w B v zs) (n : Nat) : Own (w.drewN n) B v zs := h
theorem Own.drew (h : Own w B v zs) : Own w.drew B v zs := h
/-- What it looks like: its address, and that it reads as the list. -/
theorem Own.form (h : Own w B v zs) : ∃ a c, v = .slice a zs.length c ∧ IsRow .i64 w a zs.length c zs ∧ (∀ g, v.ownBlock = some g → B ≤ g ∧ g < w.heap.size) := by
  have hlt := h.lt
  obtain ⟨⟨h1, h2⟩, hf⟩ := h
  rcases h2 with ⟨hv, hn⟩ | ⟨g, cap, cur, hv, hb2, hh, hn, hm, hs, ht⟩
  · have : zs = [] := List.eq_nil_of_length_eq_zero hn
    subst this
    exact ⟨none, 0, hv, row_nil _ _, hlt⟩
  · refine ⟨some ⟨g, 0, none⟩, cap, hv, ⟨rfl, hn, by unfold maxLen at hm; omega, fun x hx => wf_of_fits (hf x hx), fun hp => ⟨g, 0, rfl, ?_, fun i hi => ?_⟩⟩, hlt⟩
    · exact (hlt g (by rw [hv]; rfl)).2
    · have ho : w.ownsRow B 3 1 (.slice (some ⟨g, 0, none⟩) zs.length cap) zs.length (zs.map (Value.int .i64)) := ⟨h1, .inr ⟨g, cap, cur, rfl, hb2, hh, hn, hm, hs, ht⟩⟩
      have := ho.cellAt i (by omega)
      rw [Nat.zero_add, this]
      simp [hi]
end

theorem Own.row {w : World} {B : Nat} {a : Option Addr} {c : Nat} {zs : List Int} (h : Own w B (.slice a zs.length c) zs) : IsRow .i64 w a zs.length c zs := by
  obtain ⟨a', c', hv, hr, _⟩ := h.form
  injection hv with e1 _ e3
  subst e1 e3
  exact hr
theorem ret_own {P : Program} {f : FuncId} {args : Array Value} {w : World} {B C : Nat} {zs : List Int}
    (h : Calls P f args w fun e w' => ∃ v, e = .returned v ∧ Own w' B v zs ∧ Below C w w') :
    Calls P f args w fun e w' => ∃ a c, e = .returned (.slice a zs.length c) ∧ Own w' B (.slice a zs.length c) zs ∧ Below C w w' :=
  h.mono fun e w' ⟨v, he, ho, hb⟩ => by
    obtain ⟨a, c, rfl, _, _⟩ := ho.form
    exact ⟨a, c, he, ho, hb⟩
/-- Two owned slices, one made behind the other. -/
theorem own_ne {w w' : World} {B C : Nat} {u v : Value} {zs ys : List Int} (h : Own w B u zs) (k : Own w' C v ys) (hC : w.heap.size ≤ C) : u.ownBlock = none ∨ u.ownBlock ≠ v.ownBlock := by
  rcases hu : u.ownBlock with _ | g
  · exact .inl rfl
  · right
    intro e
    have h1 := (h.lt g hu).2
    have h2 := (k.lt g e.symm).1
    omega
theorem grown_setCell {a w : World} {g : Nat} (h : a.grownBy w (some g)) (p : Addr) (hp : p.block = g) (u : Value) : a.grownBy (w.setCell p u) (some g) :=
  ⟨h.os, h.tape, h.output, by simpa [World.setCell] using h.size, fun i hi hne => (Below.heap_setCell w p u i (by
    rintro rfl
    exact hne (by rw [hp]))).trans (h.block i hi hne)⟩
theorem range_succ_map (k : Int) (n : Nat) : (List.range (n + 1)).map (fun (j : Nat) => k + (j : Int)) = (List.range n).map (fun (j : Nat) => k + (j : Int)) ++ [k + (n : Int)] := by
  rw [List.range_succ, List.map_append]
  rfl
/-- The numbers from k on, so many. -/
def marks (k : Int) (n : Nat) : List Int := (List.range n).map fun (j : Nat) => k + (j : Int)
theorem marks_len (k : Int) (n : Nat) : (marks k n).length = n := by simp [marks]
theorem marks_get (k : Int) (n i : Nat) (h : i < n) : (marks k n).getD i 0 = k + i := by simp [marks, h]

set_option maxHeartbeats 1000000 in
theorem eqIntS_c (a b : Option Addr) (n c d : Nat) (zs : List Int) (w : World) (ha : IsRow .i64 w a n c zs) (hb : IsRow .i64 w b n d zs) :
    Calls Try.prog 24 #[.slice a n c, .slice b n d] w fun e w' => e = .returned (.bool true) ∧ ∃ m, w' = w.drewN m := by
  have hmax : n ≤ 9223372036854775807 := Nat.le_trans ha.2.1 ha.2.2.1
  have hac := ha.at_
  have hbc := hb.at_
  have hnn : ((n : Int) != (n : Int)) = false := by simp
  clear ha hb
  go_enter Try.func24, Try.ntmps24
  go_wp2
  go_loopw [5] (fun i wr => ∃ k : Nat, k ≤ n ∧ i = .int .i64 k ∧ ∃ m, wr = w.drewN m) (fun i _ => n - (intOf i).toNat)
  case atStart => exact ⟨0, Nat.zero_le _, rfl, 0, rfl⟩
  case round =>
    obtain ⟨k, hk, rfl, m, rfl⟩ := hrel
    by_cases hlt : k < n
    · obtain ⟨b1, o1, rfl, _, h1⟩ := hac (by omega)
      obtain ⟨b2, o2, rfl, _, h2⟩ := hbc (by omega)
      have g1 := h1 k hlt
      have g2 := h2 k hlt
      clear h1 h2 hac hbc
      generalize zs.getD k 0 = x at g1 g2
      have hlt' : (k : Int) < (n : Int) := by omega
      have hk0 : (0 : Int) ≤ (k : Int) := by omega
      have hxx : (x != x) = false := by simp
      go_wp2
      go_quiet (fail)
      go_wp2
      go_roundw
      case rel => exact ⟨k + 1, by omega, by go_num, _, rfl⟩
      case measure => simp [intOf]; omega
    · have hge : ¬ (k : Int) < (n : Int) := by omega
      go_wp2
      go_ret
      exact ⟨rfl, m, rfl⟩
set_option maxHeartbeats 1000000 in
theorem heldIntS_c (a : Option Addr) (n c : Nat) (k0 : Int) (hk0 : 0 ≤ k0 ∧ k0 ≤ 4294967296) (hn : n ≤ 4294967296) (w : World) (ha : IsRow .i64 w a n c (marks k0 n)) :
    Calls Try.prog 71 #[.slice a n c, .int .i64 k0] w fun e w' => e = .returned (.int .i64 (k0 + n)) ∧ w = w' := by
  have hac := ha.at_
  obtain ⟨hk1, hk2⟩ := hk0
  clear ha
  go_enter Try.func71, Try.ntmps71
  go_wp2
  go_loop [1, 5] (fun q i => ∃ k : Nat, k ≤ n ∧ i = .int .i64 k ∧ q = .int .i64 (k0 + k)) (fun _ i => n - (intOf i).toNat)
  case atStart => exact ⟨0, Nat.zero_le _, rfl, by go_num⟩
  case round =>
    obtain ⟨k, hk, rfl, rfl⟩ := hrel
    by_cases hlt : k < n
    · obtain ⟨b1, o1, rfl, _, h1⟩ := hac (by omega)
      have g1 := h1 k hlt
      rw [marks_get _ _ _ hlt] at g1
      clear h1 hac
      have hxx : ((k0 + (k : Int)) != (k0 + (k : Int))) = false := by simp
      go_wp2
      go_round
      case rel => exact ⟨k + 1, by omega, by go_num, by go_num⟩
      case measure => simp [intOf]; omega
    · have hkn : k = n := by omega
      subst hkn
      go_wp2
      go_ret
      exact ⟨rfl, rfl⟩
theorem set_marks (k0 : Int) (zs : List Int) (k : Nat) (hk : k < zs.length) :
    ((marks k0 k ++ zs.drop k).map (Value.int .i64)).set k (.int .i64 (k0 + k)) = (marks k0 (k + 1) ++ zs.drop (k + 1)).map (Value.int .i64) := by
  have e : marks k0 (k + 1) = marks k0 k ++ [k0 + (k : Int)] := range_succ_map k0 k
  have hl : ((marks k0 k).map (Value.int .i64)).length = k := by rw [List.length_map, marks_len]
  rw [e, List.drop_eq_getElem_cons hk, List.map_append, List.set_append_right _ _ (by omega), hl, Nat.sub_self, List.map_cons, List.set_cons_zero, List.map_append, List.map_append, List.append_assoc]
  rfl
set_option maxHeartbeats 1000000 in
theorem markIntS_c (v : Value) (zs : List Int) (a : Option Addr) (c B : Nat) (k0 : Int) (hk0 : 0 ≤ k0 ∧ k0 ≤ 4294967296) (hn : zs.length ≤ 4294967296) (w : World) (hv : v = .slice a zs.length c) (ho : Own w B v zs) :
    Calls Try.prog 25 #[.slice a zs.length c, .int .i64 k0] w fun e w' =>
      e = .returned (.int .i64 (k0 + zs.length)) ∧ Own w' B v (marks k0 zs.length) ∧ w.grownBy w' v.ownBlock := by
  obtain ⟨hk1, hk2⟩ := hk0
  by_cases h0 : zs.length = 0
  · have hz : zs = [] := List.eq_nil_of_length_eq_zero h0
    subst hz
    go_enter Try.func25, Try.ntmps25
    go_wp2
    refine wp_loop_rounds 1 ?_
    rw [rounds_succ]
    go_wp2
    go_ret
    exact ⟨ret_int (by simp), by simpa [marks] using ho, World.grownBy.refl w _⟩
  · obtain ⟨g, rfl⟩ : ∃ g, a = some ⟨g, 0, none⟩ := by
      rcases ho.1.2 with ⟨hv2, hn2⟩ | ⟨g, cap, cur, hv2, _⟩
      · exact absurd hn2 h0
      · rw [hv] at hv2
        injection hv2 with e1
        exact ⟨g, e1⟩
    subst hv
    have hown := ho.1
    have hfit := ho.2
    clear ho
    have hnn : zs.length = zs.length := rfl
    generalize hl : zs.length = n at *
    have HL := Lib.hid hl
    clear hl hnn
    go_enter Try.func25, Try.ntmps25
    go_wp2
    go_loopw [1, 5] (fun q i wr => ∃ k : Nat, k ≤ n ∧ i = .int .i64 k ∧ q = .int .i64 (k0 + k) ∧ wr.ownsRow B 3 1 (.slice (some ⟨g, 0, none⟩) n c) n ((marks k0 k ++ zs.drop k).map (Value.int .i64)) ∧ w.grownBy wr (some g)) (fun _ i _ => n - (intOf i).toNat)
    case atStart => exact ⟨0, Nat.zero_le _, rfl, by go_num, by simpa [marks] using hown, World.grownBy.refl w _⟩
    case round =>
      obtain ⟨k, hk, rfl, rfl, hown1, hg1⟩ := hrel
      by_cases hlt : k < n
      · have hc := hown1.cellAt k (by omega)
        have hfz := hown1.frozenAt k
        have hst := hown1.stored k (.int .i64 (k0 + k))
        rw [set_marks k0 zs k (by have := HL.out; omega)] at hst
        obtain ⟨x, hx⟩ : ∃ x, ((marks k0 k ++ zs.drop k).map (Value.int .i64))[k]? = some (.int .i64 x) := by
          have hll : k < (marks k0 k ++ zs.drop k).length := by simp [marks]; have := HL.out; omega
          exact ⟨_, by rw [List.getElem?_map, List.getElem?_eq_getElem hll]; rfl⟩
        rw [hx] at hc
        have HS := Lib.hid hst
        have HG := Lib.hid hg1
        clear hst hg1 hown1 hown hx
        go_wp2
        go_roundw
        case rel => exact ⟨k + 1, by omega, by go_num, by go_num, HS.out.1, grown_setCell HG.out _ rfl _⟩
        case measure => simp [intOf]; omega
      · have hkn : k = n := by omega
        subst hkn
        go_wp2
        go_ret
        refine ⟨rfl, ⟨?_, ?_⟩, hg1⟩
        · rw [marks_len]
          have := HL.out
          simpa [List.drop_of_length_le (show zs.length ≤ k by omega)] using hown1
        · intro x hx
          obtain ⟨j, hj, rfl⟩ := List.mem_map.1 hx
          have := List.mem_range.1 hj
          unfold Fits
          omega
theorem set_copy (zs : List Int) (n k : Nat) (hk : k < n) (hL : zs.length = n) :
    ((zs.take k).map (Value.int .i64) ++ List.replicate (n - k) (Value.int .i64 0)).set k (Value.int .i64 (zs.getD k 0)) = (zs.take (k + 1)).map (Value.int .i64) ++ List.replicate (n - (k + 1)) (Value.int .i64 0) := by
  have hl : ((zs.take k).map (Value.int .i64)).length = k := by rw [List.length_map, List.length_take]; omega
  have e3 : List.replicate (n - k) (Value.int .i64 0) = Value.int .i64 0 :: List.replicate (n - (k + 1)) (Value.int .i64 0) := by
    rw [show n - k = (n - (k + 1)) + 1 by omega, List.replicate_succ]
  have e4 : zs.getD k 0 = zs[k] := by rw [List.getD_eq_getElem?_getD, List.getElem?_eq_getElem (by omega), Option.getD_some]
  rw [e3, List.set_append_right _ _ (by omega), hl, Nat.sub_self, List.set_cons_zero, List.take_succ_eq_append_getElem (show k < zs.length by omega), List.map_append, List.append_assoc, e4]
  rfl
set_option maxHeartbeats 1000000 in
theorem toIntS_c (a : Option Addr) (n c : Nat) (zs : List Int) (hn : n ≤ 1048576) (w : World) (ha : IsRow .i64 w a n c zs) :
    Calls Try.prog 21 #[.slice a n c] w fun e w' => ∃ v, e = .returned v ∧ Own w' w.heap.size v zs ∧ Below w.heap.size w w' := by
  obtain ⟨i0, hi, hz0, hz1, hz2⟩ := info_parts Try.infoInt
  have hac := ha.at_
  have hlen := ha.len
  have hfit := ha.fits
  have hfitA : ∀ x ∈ zs, Fits x := fun x hx => fits_of_wf (ha.2.2.2.1 x hx)
  clear ha
  have HL := Lib.hid hlen
  have HF := Lib.hid hfitA
  clear hlen hfit hfitA
  go_enter Try.func21, Try.ntmps21
  go_wp2_with (at_make; refine wpList_make_full _ rfl _ _ 23 rfl w.heap.size 3 i0 (.int .i64 0) 1 Try.underlying23 hi hz0 hz1 _ _ _ _ n rfl rfl rfl rfl ?b2 ?b3 (Nat.le_refl _) ?_)
  case b2 => rw [hz2]; omega
  case b3 => unfold maxLen; omega
  intro w0 hown0 hgrow0
  have hb0 : Below w.heap.size w w0 := (Below.refl _ _).grown hgrow0 (Nat.le_refl _) (fun k h => by cases h)
  rw [toList_madeCells_one] at hown0
  go_wp2
  go_loopw [4] (fun i wr => ∃ k : Nat, k ≤ n ∧ i = .int .i64 k ∧ wr.ownsRow w.heap.size 3 1 (.slice (some ⟨w.heap.size, 0, none⟩) n n) n ((zs.take k).map (Value.int .i64) ++ List.replicate (n - k) (.int .i64 0)) ∧ Below w.heap.size w wr) (fun i _ => n - (intOf i).toNat)
  case atStart => exact ⟨0, Nat.zero_le _, rfl, by simpa using hown0, hb0⟩
  case round =>
    obtain ⟨k, hk, rfl, hown1, hb1⟩ := hrel
    by_cases hlt : k < n
    · obtain ⟨b1, o1, rfl, hlt1, h1⟩ := hac (by omega)
      have g1 := (hb1.cell (p := ⟨b1, o1 + k, none⟩) (by exact hlt1)).trans (h1 k hlt)
      have hc := hown1.cellAt k (by omega)
      have hfz := hown1.frozenAt k
      have hst := hown1.stored k (.int .i64 (zs.getD k 0))
      have hL := HL.out
      have e1 : ((zs.take k).map (Value.int .i64) ++ List.replicate (n - k) (.int .i64 0))[k]? = some (.int .i64 0) := by
        rw [List.getElem?_append_right (by simp; omega)]
        rw [List.length_map, List.length_take, show min k zs.length = k by omega, Nat.sub_self]
        obtain ⟨j, hj⟩ : ∃ j, n - k = j + 1 := ⟨n - k - 1, by omega⟩
        rw [hj]
        rfl
      rw [e1] at hc
      rw [set_copy zs n k hlt hL] at hst
      have HS := Lib.hid hst
      have HB := Lib.hid hb1
      clear hst hb1 hown1 hown0 e1 h1 hac hL hb0 hgrow0
      generalize zs.getD k 0 = x at *
      go_wp2
      go_roundw
      case rel => exact ⟨k + 1, by omega, by go_num, HS.out.1, HB.out.setCell (Nat.le_refl _) _⟩
      case measure => simp [intOf]; omega
    · have hkn : k = n := by omega
      subst hkn
      have hL := HL.out
      go_wp2
      go_ret
      refine ⟨_, rfl, ⟨?_, HF.out⟩, hb1⟩
      rw [hL]
      simpa [List.take_of_length_le (show zs.length ≤ k by omega)] using hown1
end Go.Proofs.Ytclhogmfnkdcaaa
