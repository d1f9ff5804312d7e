/- Contract: spec.ParseFraction. Conditions: no more than 2^20 bytes. -/
import Derived.Test.YtggonihjnipobaaDoorSq
import Derived.Test.YtggonihjnipobaaDoorWj
import Derived.Deep.RegionHeld3
namespace Go.Proofs.YtggonihjnipobaaDoor
open Go.RowKit

/-- What both parsers give. -/
def ParsePost (s : ByteArray) (w : World) (e : Ending) (w' : World) : Prop :=
  Below w.heap.size w w' ∧ ((∃ x y, e = .returned (.tuple #[.agg #[.int .i64 x, .int .i64 y], .bool true]) ∧ fracB x y = true ∧ fracText x y = s) ∨
    (e = .returned (.tuple #[.agg #[.int .i64 0, .int .i64 0], .bool false]) ∧ ∀ x y, fracB x y = true → fracText x y ≠ s))
theorem row_strs {w : World} {B n : Nat} {v : Value} {xs : List Value} (h : w.ownsRow B 9 1 v n xs) (hn : 0 < n) :
    ∃ g c, v = .slice (some ⟨g, 0, none⟩) n c ∧ B ≤ g ∧ g < w.heap.size ∧ ∀ j u, xs[j]? = some u → w.cell? ⟨g, j, none⟩ = some u := by
  have hlt := h.lt
  have h0 := h
  obtain ⟨h1, h2⟩ := h
  rcases h2 with ⟨hv, hz⟩ | ⟨g, cap, cur, hv, hb2, hh, hm, hm2, hs, ht⟩
  · omega
  · have hg : v.ownBlock = some g := by rw [hv]; rfl
    refine ⟨g, cap, hv, hb2, (hlt g hg).2, fun j u hj => ?_⟩
    have := h0.cells hg j u hj
    have e : (⟨g, 0, none⟩ : Addr).add j = ⟨g, j, none⟩ := by simp only [Addr.add, Nat.zero_add]; split <;> simp_all
    rw [e] at this
    exact this
theorem pieces_pos (l : List UInt8) : ∀ cur, 0 < (pieces cur l).length := by
  induction l with
  | nil => intro cur; simp [pieces]
  | cons a r ih =>
    intro cur
    rw [pieces]
    split
    · simp
    · exact ih _
/-- The two texts that the specification reads. -/
def twoOf (l : List UInt8) : Option (List UInt8 × List UInt8) :=
  match pieces [] l with
  | [a] => some (a, [49])
  | [a, b] => some (a, b)
  | _ => none
theorem numV_one : numV [49] = (1, true) := by decide +kernel
/-- Complete: the text of a fraction is read back. -/
theorem twoOf_text {x y : Int} (h : fracB x y = true) : ∃ a b, twoOf (fracText x y).data.toList = some (a, b) ∧ numV a = (x, true) ∧ numV b = (y, true) := by
  have hb := frac_bounds h
  unfold twoOf
  rw [pieces_fracText]
  by_cases hy : y = 1
  · rw [if_pos hy]
    exact ⟨_, _, rfl, numV_dec x hb.1, by rw [numV_one, hy]⟩
  · rw [if_neg hy]
    exact ⟨_, _, rfl, numV_dec x hb.1, numV_dec y hb.2⟩
theorem none_of {s : ByteArray} {a b : List UInt8} (ha : twoOf s.data.toList = some (a, b)) (hbad : (numV a).2 = false ∨ (numV b).2 = false ∨ formText (numV a).1 (numV b).1 ≠ s) :
    ∀ x y, fracB x y = true → fracText x y ≠ s := by
  intro x y h e
  obtain ⟨a', b', h1, h2, h3⟩ := twoOf_text h
  rw [e, ha] at h1
  simp only [Option.some.injEq, Prod.mk.injEq] at h1
  obtain ⟨rfl, rfl⟩ := h1
  rw [h2, h3] at hbad
  rcases hbad with hb | hb | hb
  · cases hb
  · cases hb
  · exact hb (by rw [formText, h]; exact e)
theorem none_many {s : ByteArray} (ha : twoOf s.data.toList = none) : ∀ x y, fracB x y = true → fracText x y ≠ s := by
  intro x y h e
  obtain ⟨a', b', h1, _⟩ := twoOf_text h
  rw [e, ha] at h1
  cases h1
set_option maxRecDepth 100000 in
set_option maxHeartbeats 1000000 in
theorem spec_Parse_many (s : ByteArray) (hs : s.size ≤ 1048576) (a b d : List UInt8) (r : List (List UInt8)) (hp : pieces [] s.data.toList = a :: b :: d :: r) (w : World) : Calls Tryd.prog 6 #[.string s] w (ParsePost s w) := by
  have HN := Lib.hid (none_many (s := s) (by unfold twoOf; rw [hp]))
  have q1 : ((r.length : Int) + 1 + 1 + 1 == 1) = false := by rw [beq_eq_false_iff_ne]; omega
  have q2 : ((r.length : Int) + 1 + 1 + 1 != 2) = true := by rw [bne_iff_ne]; omega
  go_enter Tryd.func6, Tryd.ntmps6
  go_wp2_with (go_at_call 17; refine (l14Cut_c s hs _).mono ?_; rintro e w1 ⟨v, rfl, ho, hb⟩; rw [hp] at ho; obtain ⟨g, c, rfl, hg1, hg2, hcell⟩ := row_strs ho (by simp); obtain ⟨⟨r0, r1⟩, ⟨f0, f1⟩⟩ := (CX.new w 0 0 23).below hb (by simp); have zz1 : w.heap.size < w1.heap.size := Nat.lt_of_lt_of_le (by simp) hb.size; have HB := Lib.hid (chain hb (by simp) ((Below.refl w.heap.size w).alloc (Nat.le_refl _) _)); have HO := Lib.hid ho; clear ho hb; skip)
  exact bodyPost_ret (v := .tuple #[.agg #[.int .i64 0, .int .i64 0], .bool false]) (by simp [results, Tryd.results6, go_sem, r0, r1]) rfl ⟨(by repeat (first | exact HB.out | (refine Below.setCell ?_ (by first | exact Nat.le_refl _ | (simp <;> omega)) _))), Or.inr ⟨rfl, HN.out⟩⟩
theorem bytes_ne {a s : ByteArray} (h : ¬ a = s) : (a.toList == s.toList) = false := by
  rw [ByteArray.toList_eq, ByteArray.toList_eq, beq_eq_false_iff_ne]
  exact fun e => h (ByteArray.ext (Array.toList_inj.1 e))
theorem bytes_eq {a s : ByteArray} (h : a = s) : (a.toList == s.toList) = true := by
  subst h
  exact beq_self_eq_true _
theorem pieces_len (l : List UInt8) : ∀ cur, ∀ p ∈ pieces cur l, p.length ≤ cur.length + l.length := by
  induction l with
  | nil => intro cur p hp; simp [pieces] at hp; subst hp; simp
  | cons a r ih =>
    intro cur p hp
    rw [pieces] at hp
    split at hp
    · rcases List.mem_cons.1 hp with rfl | hp
      · simp
      · have := ih [] p hp
        simp at this ⊢
        omega
    · have := ih _ p hp
      simp at this ⊢
      omega
theorem after_form {w w1 w2 : World} {x y : Int} (HB : Below w.heap.size w w1) (zz1 : w.heap.size < w1.heap.size) (h : CX w1 w.heap.size 0 0) (t : TypeId)
    (hb2 : Below (w1.alloc (.cells #[.int .i64 x, .int .i64 y] t)).heap.size (w1.alloc (.cells #[.int .i64 x, .int .i64 y] t)) w2) :
    CX w2 w1.heap.size x y ∧ CX w2 w.heap.size 0 0 ∧ w.heap.size < w2.heap.size ∧ w1.heap.size < w2.heap.size ∧ Below w.heap.size w w2 := by
  have hz : (w1.alloc (.cells #[.int .i64 x, .int .i64 y] t)).heap.size = w1.heap.size + 1 := World.size_alloc w1 _
  have hs := hb2.size
  refine ⟨(CX.new w1 x y t).below hb2 (by omega), (h.alloc zz1 _).below hb2 (by omega), by omega, by omega, chain hb2 (by omega) (HB.alloc HB.size _)⟩
theorem l14Num_v (a : List UInt8) (h : a.length ≤ 1048576) (x : Int) (o : Bool) (hv : numV a = (x, o)) (w : World) :
    Calls Tryd.prog 18 #[.string ⟨a.toArray⟩] w fun e w' => e = .returned (.tuple #[.int .i64 x, .bool o]) ∧ w = w' := by
  have := l14Num_c ⟨a.toArray⟩ (by simpa [ByteArray.size] using h) w
  have e : numV (ByteArray.mk a.toArray).data.toList = (x, o) := by rw [← hv]
  rw [e] at this
  exact this
set_option maxRecDepth 100000 in
set_option maxHeartbeats 1000000 in
theorem spec_Parse_two_ff (s : ByteArray) (hs : s.size ≤ 1048576) (a b : List UInt8) (hp : pieces [] s.data.toList = [a, b]) (x y : Int) (ha : numV a = (x, false)) (hbv : numV b = (y, false)) (w : World) : Calls Tryd.prog 6 #[.string s] w (ParsePost s w) := by
  have la : a.length ≤ 1048576 := by have := pieces_len s.data.toList [] a (by rw [hp]; simp); simp at this; omega
  have lb : b.length ≤ 1048576 := by have := pieces_len s.data.toList [] b (by rw [hp]; simp); simp at this; omega
  have HN := Lib.hid (none_of (s := s) (a := a) (b := b) (by unfold twoOf; rw [hp]) (Or.inl (by rw [ha])))
  have HA := Lib.hid ha
  have HBv := Lib.hid hbv
  clear ha hbv
  go_enter Tryd.func6, Tryd.ntmps6
  go_wp2_with (first | (go_at_call 17; refine (l14Cut_c s hs _).mono ?_; rintro e w1 ⟨v, rfl, ho, hb⟩; rw [hp] at ho; obtain ⟨g, c, rfl, hg1, hg2, hcell⟩ := row_strs ho (by simp); obtain ⟨⟨r0, r1⟩, ⟨f0, f1⟩⟩ := (CX.new w 0 0 23).below hb (by simp); have zz1 : w.heap.size < w1.heap.size := Nat.lt_of_lt_of_le (by simp) hb.size; have HB := Lib.hid (chain hb (by simp) ((Below.refl w.heap.size w).alloc (Nat.le_refl _) _)); have HO := Lib.hid ho; clear ho hb; have k0 := hcell 0 _ rfl; have k1 := hcell 1 _ rfl; clear hcell) | (go_at_call 18; refine Calls.mono (by with_reducible exact l14Num_v a la x false HA.out _) ?_; rintro e w' ⟨rfl, rfl⟩) | (go_at_call 18; refine Calls.mono (by with_reducible exact l14Num_v b lb y false HBv.out _) ?_; rintro e w' ⟨rfl, rfl⟩))
  exact bodyPost_ret (v := .tuple #[.agg #[.int .i64 0, .int .i64 0], .bool false]) (by simp [results, Tryd.results6, go_sem, r0, r1, zz1]) rfl ⟨(by repeat (first | exact HB.out | (refine Below.setCell ?_ (by first | exact Nat.le_refl _ | (simp <;> omega)) _) | (refine Below.alloc ?_ (by first | exact HB.out.size | (simp <;> omega)) _))), Or.inr ⟨rfl, HN.out⟩⟩
set_option maxRecDepth 100000 in
set_option maxHeartbeats 1000000 in
theorem spec_Parse_two_ft (s : ByteArray) (hs : s.size ≤ 1048576) (a b : List UInt8) (hp : pieces [] s.data.toList = [a, b]) (x y : Int) (ha : numV a = (x, false)) (hbv : numV b = (y, true)) (w : World) : Calls Tryd.prog 6 #[.string s] w (ParsePost s w) := by
  have la : a.length ≤ 1048576 := by have := pieces_len s.data.toList [] a (by rw [hp]; simp); simp at this; omega
  have lb : b.length ≤ 1048576 := by have := pieces_len s.data.toList [] b (by rw [hp]; simp); simp at this; omega
  have HN := Lib.hid (none_of (s := s) (a := a) (b := b) (by unfold twoOf; rw [hp]) (Or.inl (by rw [ha])))
  have HA := Lib.hid ha
  have HBv := Lib.hid hbv
  clear ha hbv
  go_enter Tryd.func6, Tryd.ntmps6
  go_wp2_with (first | (go_at_call 17; refine (l14Cut_c s hs _).mono ?_; rintro e w1 ⟨v, rfl, ho, hb⟩; rw [hp] at ho; obtain ⟨g, c, rfl, hg1, hg2, hcell⟩ := row_strs ho (by simp); obtain ⟨⟨r0, r1⟩, ⟨f0, f1⟩⟩ := (CX.new w 0 0 23).below hb (by simp); have zz1 : w.heap.size < w1.heap.size := Nat.lt_of_lt_of_le (by simp) hb.size; have HB := Lib.hid (chain hb (by simp) ((Below.refl w.heap.size w).alloc (Nat.le_refl _) _)); have HO := Lib.hid ho; clear ho hb; have k0 := hcell 0 _ rfl; have k1 := hcell 1 _ rfl; clear hcell) | (go_at_call 18; refine Calls.mono (by with_reducible exact l14Num_v a la x false HA.out _) ?_; rintro e w' ⟨rfl, rfl⟩) | (go_at_call 18; refine Calls.mono (by with_reducible exact l14Num_v b lb y true HBv.out _) ?_; rintro e w' ⟨rfl, rfl⟩))
  exact bodyPost_ret (v := .tuple #[.agg #[.int .i64 0, .int .i64 0], .bool false]) (by simp [results, Tryd.results6, go_sem, r0, r1, zz1]) rfl ⟨(by repeat (first | exact HB.out | (refine Below.setCell ?_ (by first | exact Nat.le_refl _ | (simp <;> omega)) _) | (refine Below.alloc ?_ (by first | exact HB.out.size | (simp <;> omega)) _))), Or.inr ⟨rfl, HN.out⟩⟩
set_option maxRecDepth 100000 in
set_option maxHeartbeats 1000000 in
theorem spec_Parse_two_tf (s : ByteArray) (hs : s.size ≤ 1048576) (a b : List UInt8) (hp : pieces [] s.data.toList = [a, b]) (x y : Int) (ha : numV a = (x, true)) (hbv : numV b = (y, false)) (w : World) : Calls Tryd.prog 6 #[.string s] w (ParsePost s w) := by
  have la : a.length ≤ 1048576 := by have := pieces_len s.data.toList [] a (by rw [hp]; simp); simp at this; omega
  have lb : b.length ≤ 1048576 := by have := pieces_len s.data.toList [] b (by rw [hp]; simp); simp at this; omega
  have HN := Lib.hid (none_of (s := s) (a := a) (b := b) (by unfold twoOf; rw [hp]) (Or.inr (Or.inl (by rw [hbv]))))
  have HA := Lib.hid ha
  have HBv := Lib.hid hbv
  clear ha hbv
  go_enter Tryd.func6, Tryd.ntmps6
  go_wp2_with (first | (go_at_call 17; refine (l14Cut_c s hs _).mono ?_; rintro e w1 ⟨v, rfl, ho, hb⟩; rw [hp] at ho; obtain ⟨g, c, rfl, hg1, hg2, hcell⟩ := row_strs ho (by simp); obtain ⟨⟨r0, r1⟩, ⟨f0, f1⟩⟩ := (CX.new w 0 0 23).below hb (by simp); have zz1 : w.heap.size < w1.heap.size := Nat.lt_of_lt_of_le (by simp) hb.size; have HB := Lib.hid (chain hb (by simp) ((Below.refl w.heap.size w).alloc (Nat.le_refl _) _)); have HO := Lib.hid ho; clear ho hb; have k0 := hcell 0 _ rfl; have k1 := hcell 1 _ rfl; clear hcell) | (go_at_call 18; refine Calls.mono (by with_reducible exact l14Num_v a la x true HA.out _) ?_; rintro e w' ⟨rfl, rfl⟩) | (go_at_call 18; refine Calls.mono (by with_reducible exact l14Num_v b lb y false HBv.out _) ?_; rintro e w' ⟨rfl, rfl⟩))
  exact bodyPost_ret (v := .tuple #[.agg #[.int .i64 0, .int .i64 0], .bool false]) (by simp [results, Tryd.results6, go_sem, r0, r1, zz1]) rfl ⟨(by repeat (first | exact HB.out | (refine Below.setCell ?_ (by first | exact Nat.le_refl _ | (simp <;> omega)) _) | (refine Below.alloc ?_ (by first | exact HB.out.size | (simp <;> omega)) _))), Or.inr ⟨rfl, HN.out⟩⟩
set_option maxRecDepth 100000 in
set_option maxHeartbeats 1000000 in
theorem spec_Parse_two_ttn (s : ByteArray) (hs : s.size ≤ 1048576) (a b : List UInt8) (hp : pieces [] s.data.toList = [a, b]) (x y : Int) (ha : numV a = (x, true)) (hbv : numV b = (y, true)) (hf : ¬ formText x y = s) (w : World) : Calls Tryd.prog 6 #[.string s] w (ParsePost s w) := by
  have la : a.length ≤ 1048576 := by have := pieces_len s.data.toList [] a (by rw [hp]; simp); simp at this; omega
  have lb : b.length ≤ 1048576 := by have := pieces_len s.data.toList [] b (by rw [hp]; simp); simp at this; omega
  have HN := Lib.hid (none_of (s := s) (a := a) (b := b) (by unfold twoOf; rw [hp]) (Or.inr (Or.inr (by rw [ha, hbv]; exact hf))))
  have HA := Lib.hid ha
  have HBv := Lib.hid hbv
  clear ha hbv
  have hq : ((formText x y).toList == s.toList) = false := by first | exact bytes_ne hf | exact bytes_eq hf
  clear hf
  go_enter Tryd.func6, Tryd.ntmps6
  go_wp2_with (first | (go_at_call 17; refine (l14Cut_c s hs _).mono ?_; rintro e w1 ⟨v, rfl, ho, hb⟩; rw [hp] at ho; obtain ⟨g, c, rfl, hg1, hg2, hcell⟩ := row_strs ho (by simp); obtain ⟨⟨r0, r1⟩, ⟨f0, f1⟩⟩ := (CX.new w 0 0 23).below hb (by simp); have zz1 : w.heap.size < w1.heap.size := Nat.lt_of_lt_of_le (by simp) hb.size; have HB := Lib.hid (chain hb (by simp) ((Below.refl w.heap.size w).alloc (Nat.le_refl _) _)); have HO := Lib.hid ho; clear ho hb; have k0 := hcell 0 _ rfl; have k1 := hcell 1 _ rfl; clear hcell) | (go_at_call 18; refine Calls.mono (by with_reducible exact l14Num_v a la x true HA.out _) ?_; rintro e w' ⟨rfl, rfl⟩) | (go_at_call 18; refine Calls.mono (by with_reducible exact l14Num_v b lb y true HBv.out _) ?_; rintro e w' ⟨rfl, rfl⟩) | (go_at_call 11; refine (spec_FormatFraction_c x y _).mono ?_; rintro e w2 ⟨rfl, hb2⟩; obtain ⟨⟨⟨b0, b1⟩, ⟨bf0, bf1⟩⟩, ⟨⟨t0, t1⟩, ⟨u0, u1⟩⟩, zz2, zz3, hb3⟩ := after_form HB.out zz1 ⟨⟨r0, r1⟩, ⟨f0, f1⟩⟩ 23 hb2; have nz : w1.heap.size ≠ w.heap.size := Nat.ne_of_gt zz1; have HB2 := Lib.hid hb3; clear hb2 hb3))
  exact bodyPost_ret (v := .tuple #[.agg #[.int .i64 0, .int .i64 0], .bool false]) (by simp [results, Tryd.results6, go_sem, t0, t1]) rfl ⟨(by repeat (first | exact HB2.out | (refine Below.setCell ?_ (by first | exact Nat.le_refl _ | (simp <;> omega)) _))), Or.inr ⟨rfl, HN.out⟩⟩
set_option maxRecDepth 100000 in
set_option maxHeartbeats 1000000 in
theorem spec_Parse_two_tty (s : ByteArray) (hs : s.size ≤ 1048576) (a b : List UInt8) (hp : pieces [] s.data.toList = [a, b]) (x y : Int) (ha : numV a = (x, true)) (hbv : numV b = (y, true)) (hf : formText x y = s) (hok : fracB x y = true) (w : World) : Calls Tryd.prog 6 #[.string s] w (ParsePost s w) := by
  have la : a.length ≤ 1048576 := by have := pieces_len s.data.toList [] a (by rw [hp]; simp); simp at this; omega
  have lb : b.length ≤ 1048576 := by have := pieces_len s.data.toList [] b (by rw [hp]; simp); simp at this; omega
  have HN := Lib.hid (show fracText x y = s by rw [← hf, formText, hok]; rfl)
  have HK := Lib.hid hok
  clear hok
  have HA := Lib.hid ha
  have HBv := Lib.hid hbv
  clear ha hbv
  have hq : ((formText x y).toList == s.toList) = true := by first | exact bytes_ne hf | exact bytes_eq hf
  clear hf
  go_enter Tryd.func6, Tryd.ntmps6
  go_wp2_with (first | (go_at_call 17; refine (l14Cut_c s hs _).mono ?_; rintro e w1 ⟨v, rfl, ho, hb⟩; rw [hp] at ho; obtain ⟨g, c, rfl, hg1, hg2, hcell⟩ := row_strs ho (by simp); obtain ⟨⟨r0, r1⟩, ⟨f0, f1⟩⟩ := (CX.new w 0 0 23).below hb (by simp); have zz1 : w.heap.size < w1.heap.size := Nat.lt_of_lt_of_le (by simp) hb.size; have HB := Lib.hid (chain hb (by simp) ((Below.refl w.heap.size w).alloc (Nat.le_refl _) _)); have HO := Lib.hid ho; clear ho hb; have k0 := hcell 0 _ rfl; have k1 := hcell 1 _ rfl; clear hcell) | (go_at_call 18; refine Calls.mono (by with_reducible exact l14Num_v a la x true HA.out _) ?_; rintro e w' ⟨rfl, rfl⟩) | (go_at_call 18; refine Calls.mono (by with_reducible exact l14Num_v b lb y true HBv.out _) ?_; rintro e w' ⟨rfl, rfl⟩) | (go_at_call 11; refine (spec_FormatFraction_c x y _).mono ?_; rintro e w2 ⟨rfl, hb2⟩; obtain ⟨⟨⟨b0, b1⟩, ⟨bf0, bf1⟩⟩, ⟨⟨t0, t1⟩, ⟨u0, u1⟩⟩, zz2, zz3, hb3⟩ := after_form HB.out zz1 ⟨⟨r0, r1⟩, ⟨f0, f1⟩⟩ 23 hb2; have nz : w1.heap.size ≠ w.heap.size := Nat.ne_of_gt zz1; have HB2 := Lib.hid hb3; clear hb2 hb3))
  exact bodyPost_ret (v := .tuple #[.agg #[.int .i64 x, .int .i64 y], .bool true]) (by simp [results, Tryd.results6, go_sem, t0, t1]) rfl ⟨(by repeat (first | exact HB2.out | (refine Below.setCell ?_ (by first | exact Nat.le_refl _ | (simp <;> omega)) _))), Or.inl ⟨x, y, rfl, HK.out, HN.out⟩⟩
theorem one_of {w0 w : World} {v : Value} {a : List UInt8} {o : Obj} (h : w0.ownsRow (w.alloc o).heap.size 9 1 v [a].length (strs [a])) : w0.ownsRow (w.heap.size + 1) 9 1 v 1 [.string ⟨a.toArray⟩] := by
  rw [World.size_alloc] at h
  exact h
set_option maxRecDepth 100000 in
set_option maxHeartbeats 1000000 in
theorem spec_Parse_one_ft (s : ByteArray) (hs : s.size ≤ 1048576) (a : List UInt8) (hp : pieces [] s.data.toList = [a]) (x y : Int) (ha : numV a = (x, false)) (hbv : numV [49] = (y, true)) (w : World) : Calls Tryd.prog 6 #[.string s] w (ParsePost s w) := by
  have la : a.length ≤ 1048576 := by have := pieces_len s.data.toList [] a (by rw [hp]; simp); simp at this; omega
  have lb : ([49] : List UInt8).length ≤ 1048576 := by decide
  obtain ⟨i0, hi, hz0, hz1, hz2⟩ := info_parts infoStr
  have HN := Lib.hid (none_of (s := s) (a := a) (b := [49]) (by unfold twoOf; rw [hp]) (Or.inl (by rw [ha])))
  have HA := Lib.hid ha
  have HBv := Lib.hid hbv
  clear ha hbv
  go_enter Tryd.func6, Tryd.ntmps6
  go_wp2_with (first | (go_at_call 17; refine (l14Cut_c s hs _).mono ?_; rintro e w0 ⟨v, rfl, ho, hb⟩; rw [hp] at ho; obtain ⟨g0, c0, rfl, hg1, hg2, _⟩ := row_strs ho (by simp); have zz0 : w.heap.size < w0.heap.size := Nat.lt_of_lt_of_le (by simp) hb.size; have hcx := (CX.new w 0 0 23).below hb (by simp); have hb0 := chain hb (by simp) ((Below.refl w.heap.size w).alloc (Nat.le_refl _) _); clear hb; replace ho := one_of ho) | (at_builtin; refine wpList_append_own _ rfl _ _ 38 rfl (w.heap.size + 1) 9 i0 (.string ⟨#[]⟩) 1 16 (by kernel_rfl) hi hz0 hz1 hz2 rfl (by decide) _ _ _ rfl (ho.alloc _) ⟨w0.heap.size, 0, none⟩ 1 1 [.string ⟨#[49]⟩] rfl rfl ?c1 ?c2 ?c3 ?c4 ?c5 ?_))
  case c1 =>
    intro j u hj
    match j, hj with
    | 0, hj => simp at hj; subst hj; simp [Addr.add]
  case c2 => intro u hu; simp at hu; subst hu; rfl
  case c3 => unfold maxLen; omega
  case c4 => omega
  case c5 => have := hb0.size; simp; omega
  intro v' w1 ho' hgrow _
  have hcx1 := (hcx.alloc zz0 (.cells #[.string ⟨#[49]⟩] 9)).grown hgrow (by show w.heap.size ≠ g0; simp at hg1; omega) (by simp; omega)
  have HB := Lib.hid ((hb0.alloc hb0.size (.cells #[.string ⟨#[49]⟩] 9)).grown hgrow (by have := hb0.size; simp; omega) (fun j hj => by have := (ho.lt j hj).1; omega))
  have zz1 : w.heap.size < w1.heap.size := by have := hgrow.size; simp at this; omega
  obtain ⟨g, c, rfl, hg3, hg4, hcell⟩ := row_strs ho' (by simp)
  obtain ⟨⟨r0, r1⟩, ⟨f0, f1⟩⟩ := hcx1
  have HO := Lib.hid ho'
  clear ho ho' hgrow hb0 hcx
  have k0 := hcell 0 _ rfl
  have k1 := hcell 1 _ rfl
  clear hcell
  go_wp2_with (first | (go_at_call 18; refine Calls.mono (by with_reducible exact l14Num_v a la x false HA.out _) ?_; rintro e w' ⟨rfl, rfl⟩) | (go_at_call 18; refine Calls.mono (by with_reducible exact l14Num_v [49] lb y true HBv.out _) ?_; rintro e w' ⟨rfl, rfl⟩))
  exact bodyPost_ret (v := .tuple #[.agg #[.int .i64 0, .int .i64 0], .bool false]) (by simp [results, Tryd.results6, go_sem, r0, r1, zz1]) rfl ⟨(by repeat (first | exact HB.out | (refine Below.setCell ?_ (by first | exact Nat.le_refl _ | (simp <;> omega)) _) | (refine Below.alloc ?_ (by first | exact HB.out.size | (simp <;> omega)) _))), Or.inr ⟨rfl, HN.out⟩⟩
set_option maxRecDepth 100000 in
set_option maxHeartbeats 1000000 in
theorem spec_Parse_one_ttn (s : ByteArray) (hs : s.size ≤ 1048576) (a : List UInt8) (hp : pieces [] s.data.toList = [a]) (x y : Int) (ha : numV a = (x, true)) (hbv : numV [49] = (y, true)) (hf : ¬ formText x y = s) (w : World) : Calls Tryd.prog 6 #[.string s] w (ParsePost s w) := by
  have la : a.length ≤ 1048576 := by have := pieces_len s.data.toList [] a (by rw [hp]; simp); simp at this; omega
  have lb : ([49] : List UInt8).length ≤ 1048576 := by decide
  obtain ⟨i0, hi, hz0, hz1, hz2⟩ := info_parts infoStr
  have HN := Lib.hid (none_of (s := s) (a := a) (b := [49]) (by unfold twoOf; rw [hp]) (Or.inr (Or.inr (by rw [ha, hbv]; exact hf))))
  have HA := Lib.hid ha
  have HBv := Lib.hid hbv
  clear ha hbv
  have hq : ((formText x y).toList == s.toList) = false := by first | exact bytes_ne hf | exact bytes_eq hf
  clear hf
  go_enter Tryd.func6, Tryd.ntmps6
  go_wp2_with (first | (go_at_call 17; refine (l14Cut_c s hs _).mono ?_; rintro e w0 ⟨v, rfl, ho, hb⟩; rw [hp] at ho; obtain ⟨g0, c0, rfl, hg1, hg2, _⟩ := row_strs ho (by simp); have zz0 : w.heap.size < w0.heap.size := Nat.lt_of_lt_of_le (by simp) hb.size; have hcx := (CX.new w 0 0 23).below hb (by simp); have hb0 := chain hb (by simp) ((Below.refl w.heap.size w).alloc (Nat.le_refl _) _); clear hb; replace ho := one_of ho) | (at_builtin; refine wpList_append_own _ rfl _ _ 38 rfl (w.heap.size + 1) 9 i0 (.string ⟨#[]⟩) 1 16 (by kernel_rfl) hi hz0 hz1 hz2 rfl (by decide) _ _ _ rfl (ho.alloc _) ⟨w0.heap.size, 0, none⟩ 1 1 [.string ⟨#[49]⟩] rfl rfl ?c1 ?c2 ?c3 ?c4 ?c5 ?_))
  case c1 =>
    intro j u hj
    match j, hj with
    | 0, hj => simp at hj; subst hj; simp [Addr.add]
  case c2 => intro u hu; simp at hu; subst hu; rfl
  case c3 => unfold maxLen; omega
  case c4 => omega
  case c5 => have := hb0.size; simp; omega
  intro v' w1 ho' hgrow _
  have hcx1 := (hcx.alloc zz0 (.cells #[.string ⟨#[49]⟩] 9)).grown hgrow (by show w.heap.size ≠ g0; simp at hg1; omega) (by simp; omega)
  have HB := Lib.hid ((hb0.alloc hb0.size (.cells #[.string ⟨#[49]⟩] 9)).grown hgrow (by have := hb0.size; simp; omega) (fun j hj => by have := (ho.lt j hj).1; omega))
  have zz1 : w.heap.size < w1.heap.size := by have := hgrow.size; simp at this; omega
  obtain ⟨g, c, rfl, hg3, hg4, hcell⟩ := row_strs ho' (by simp)
  obtain ⟨⟨r0, r1⟩, ⟨f0, f1⟩⟩ := hcx1
  have HO := Lib.hid ho'
  clear ho ho' hgrow hb0 hcx
  have k0 := hcell 0 _ rfl
  have k1 := hcell 1 _ rfl
  clear hcell
  go_wp2_with (first | (go_at_call 18; refine Calls.mono (by with_reducible exact l14Num_v a la x true HA.out _) ?_; rintro e w' ⟨rfl, rfl⟩) | (go_at_call 18; refine Calls.mono (by with_reducible exact l14Num_v [49] lb y true HBv.out _) ?_; rintro e w' ⟨rfl, rfl⟩) | (go_at_call 11; refine (spec_FormatFraction_c x y _).mono ?_; rintro e w2 ⟨rfl, hb2⟩; obtain ⟨⟨⟨b0, b1⟩, ⟨bf0, bf1⟩⟩, ⟨⟨t0, t1⟩, ⟨u0, u1⟩⟩, zz2, zz3, hb3⟩ := after_form HB.out zz1 ⟨⟨r0, r1⟩, ⟨f0, f1⟩⟩ 23 hb2; have nz : w1.heap.size ≠ w.heap.size := Nat.ne_of_gt zz1; have HB2 := Lib.hid hb3; clear hb2 hb3))
  exact bodyPost_ret (v := .tuple #[.agg #[.int .i64 0, .int .i64 0], .bool false]) (by simp [results, Tryd.results6, go_sem, t0, t1]) rfl ⟨(by repeat (first | exact HB2.out | (refine Below.setCell ?_ (by first | exact Nat.le_refl _ | (simp <;> omega)) _))), Or.inr ⟨rfl, HN.out⟩⟩
set_option maxRecDepth 100000 in
set_option maxHeartbeats 1000000 in
theorem spec_Parse_one_tty (s : ByteArray) (hs : s.size ≤ 1048576) (a : List UInt8) (hp : pieces [] s.data.toList = [a]) (x y : Int) (ha : numV a = (x, true)) (hbv : numV [49] = (y, true)) (hf : formText x y = s) (hok : fracB x y = true) (w : World) : Calls Tryd.prog 6 #[.string s] w (ParsePost s w) := by
  have la : a.length ≤ 1048576 := by have := pieces_len s.data.toList [] a (by rw [hp]; simp); simp at this; omega
  have lb : ([49] : List UInt8).length ≤ 1048576 := by decide
  obtain ⟨i0, hi, hz0, hz1, hz2⟩ := info_parts infoStr
  have HN := Lib.hid (show fracText x y = s by rw [← hf, formText, hok]; rfl)
  have HK := Lib.hid hok
  clear hok
  have HA := Lib.hid ha
  have HBv := Lib.hid hbv
  clear ha hbv
  have hq : ((formText x y).toList == s.toList) = true := by first | exact bytes_ne hf | exact bytes_eq hf
  clear hf
  go_enter Tryd.func6, Tryd.ntmps6
  go_wp2_with (first | (go_at_call 17; refine (l14Cut_c s hs _).mono ?_; rintro e w0 ⟨v, rfl, ho, hb⟩; rw [hp] at ho; obtain ⟨g0, c0, rfl, hg1, hg2, _⟩ := row_strs ho (by simp); have zz0 : w.heap.size < w0.heap.size := Nat.lt_of_lt_of_le (by simp) hb.size; have hcx := (CX.new w 0 0 23).below hb (by simp); have hb0 := chain hb (by simp) ((Below.refl w.heap.size w).alloc (Nat.le_refl _) _); clear hb; replace ho := one_of ho) | (at_builtin; refine wpList_append_own _ rfl _ _ 38 rfl (w.heap.size + 1) 9 i0 (.string ⟨#[]⟩) 1 16 (by kernel_rfl) hi hz0 hz1 hz2 rfl (by decide) _ _ _ rfl (ho.alloc _) ⟨w0.heap.size, 0, none⟩ 1 1 [.string ⟨#[49]⟩] rfl rfl ?c1 ?c2 ?c3 ?c4 ?c5 ?_))
  case c1 =>
    intro j u hj
    match j, hj with
    | 0, hj => simp at hj; subst hj; simp [Addr.add]
  case c2 => intro u hu; simp at hu; subst hu; rfl
  case c3 => unfold maxLen; omega
  case c4 => omega
  case c5 => have := hb0.size; simp; omega
  intro v' w1 ho' hgrow _
  have hcx1 := (hcx.alloc zz0 (.cells #[.string ⟨#[49]⟩] 9)).grown hgrow (by show w.heap.size ≠ g0; simp at hg1; omega) (by simp; omega)
  have HB := Lib.hid ((hb0.alloc hb0.size (.cells #[.string ⟨#[49]⟩] 9)).grown hgrow (by have := hb0.size; simp; omega) (fun j hj => by have := (ho.lt j hj).1; omega))
  have zz1 : w.heap.size < w1.heap.size := by have := hgrow.size; simp at this; omega
  obtain ⟨g, c, rfl, hg3, hg4, hcell⟩ := row_strs ho' (by simp)
  obtain ⟨⟨r0, r1⟩, ⟨f0, f1⟩⟩ := hcx1
  have HO := Lib.hid ho'
  clear ho ho' hgrow hb0 hcx
  have k0 := hcell 0 _ rfl
  have k1 := hcell 1 _ rfl
  clear hcell
  go_wp2_with (first | (go_at_call 18; refine Calls.mono (by with_reducible exact l14Num_v a la x true HA.out _) ?_; rintro e w' ⟨rfl, rfl⟩) | (go_at_call 18; refine Calls.mono (by with_reducible exact l14Num_v [49] lb y true HBv.out _) ?_; rintro e w' ⟨rfl, rfl⟩) | (go_at_call 11; refine (spec_FormatFraction_c x y _).mono ?_; rintro e w2 ⟨rfl, hb2⟩; obtain ⟨⟨⟨b0, b1⟩, ⟨bf0, bf1⟩⟩, ⟨⟨t0, t1⟩, ⟨u0, u1⟩⟩, zz2, zz3, hb3⟩ := after_form HB.out zz1 ⟨⟨r0, r1⟩, ⟨f0, f1⟩⟩ 23 hb2; have nz : w1.heap.size ≠ w.heap.size := Nat.ne_of_gt zz1; have HB2 := Lib.hid hb3; clear hb2 hb3))
  exact bodyPost_ret (v := .tuple #[.agg #[.int .i64 x, .int .i64 y], .bool true]) (by simp [results, Tryd.results6, go_sem, t0, t1]) rfl ⟨(by repeat (first | exact HB2.out | (refine Below.setCell ?_ (by first | exact Nat.le_refl _ | (simp <;> omega)) _))), Or.inl ⟨x, y, rfl, HK.out, HN.out⟩⟩
theorem no_text {s : ByteArray} {a : List UInt8} {ps : List (List UInt8)} {x y X : Int} (hp : pieces [] s.data.toList = a :: ps) (ha : numV a = (X, true)) (hf : formText x y = s) : fracB x y = true := by
  by_cases h : fracB x y = true
  · exact h
  · rw [formText, if_neg h] at hf
    subst hf
    rw [show pieces [] (⟨#[]⟩ : ByteArray).data.toList = [[]] from rfl] at hp
    simp only [List.cons.injEq] at hp
    rw [← hp.1] at ha
    have h1 : (numV []).2 = true := congrArg Prod.snd ha
    exact absurd h1 (by decide +kernel)
theorem spec_ParseFraction_c (s : ByteArray) (hs : s.size ≤ 1048576) (w : World) : Calls Tryd.prog 6 #[.string s] w (ParsePost s w) := by
  have hpos := pieces_pos s.data.toList []
  rcases hp : pieces [] s.data.toList with _ | ⟨a, _ | ⟨b, _ | ⟨d, r⟩⟩⟩
  · rw [hp] at hpos; exact absurd hpos (by decide)
  · rcases ha : numV a with ⟨x, _ | _⟩
    · exact spec_Parse_one_ft s hs a hp x 1 ha numV_one w
    · by_cases hf : formText x 1 = s
      · exact spec_Parse_one_tty s hs a hp x 1 ha numV_one hf (no_text hp ha hf) w
      · exact spec_Parse_one_ttn s hs a hp x 1 ha numV_one hf w
  · rcases ha : numV a with ⟨x, _ | _⟩ <;> rcases hb : numV b with ⟨y, _ | _⟩
    · exact spec_Parse_two_ff s hs a b hp x y ha hb w
    · exact spec_Parse_two_ft s hs a b hp x y ha hb w
    · exact spec_Parse_two_tf s hs a b hp x y ha hb w
    · by_cases hf : formText x y = s
      · exact spec_Parse_two_tty s hs a b hp x y ha hb hf (no_text hp ha hf) w
      · exact spec_Parse_two_ttn s hs a b hp x y ha hb hf w
  · exact spec_Parse_many s hs a b d r hp w
end Go.Proofs.YtggonihjnipobaaDoor
