/- Contract: a text cut at a sign. Conditions: no more than 2^20 bytes. -/
import Derived.Test.YtggonihjnipobaaDoorSa
import Derived.Test.YtggonihjnipobaaDoorWg
namespace Go.Proofs.YtggonihjnipobaaDoor
open Go.RowKit

/-- The pieces of a text between its signs '/'. -/
def pieces (cur : List UInt8) : List UInt8 → List (List UInt8)
  | [] => [cur]
  | b :: r => if b = 47 then cur :: pieces [] r else pieces (cur ++ [b]) r
def strs (ps : List (List UInt8)) : List Value := ps.map fun p => Value.string ⟨p.toArray⟩
def CutDone (l : List UInt8) (i j : Nat) (ps : List (List UInt8)) : Prop :=
  (i ≤ l.length ∧ j ≤ i ∧ pieces [] l = ps ++ pieces ((l.take i).drop j) (l.drop i)) ∨ (i = l.length + 1 ∧ pieces [] l = ps)
theorem CutDone.start (l : List UInt8) : CutDone l 0 0 [] := Or.inl ⟨Nat.zero_le _, Nat.le_refl _, by simp⟩
theorem CutDone.le {l : List UInt8} {i j : Nat} {ps : List (List UInt8)} (h : CutDone l i j ps) : i ≤ l.length + 1 := by
  rcases h with h | h <;> omega
theorem take_succ_b {l : List UInt8} {i : Nat} (h : i < l.length) : l.take (i + 1) = l.take i ++ [l[i]] := by
  rw [List.take_add_one]; simp [h]
theorem CutDone.other {l : List UInt8} {i j : Nat} {ps : List (List UInt8)} (h : CutDone l i j ps) (hi : i < l.length) (hb : l[i] ≠ 47) : CutDone l (i + 1) j ps := by
  rcases h with ⟨h1, h2, h3⟩ | ⟨h1, _⟩
  · refine Or.inl ⟨by omega, by omega, ?_⟩
    rw [h3, List.drop_eq_getElem_cons hi, pieces, if_neg hb, take_succ_b hi, List.drop_append_of_le_length (by simp; omega)]
  · omega
theorem CutDone.sign {l : List UInt8} {i j : Nat} {ps : List (List UInt8)} (h : CutDone l i j ps) (hi : i < l.length) (hb : l[i] = 47) : CutDone l (i + 1) (i + 1) (ps ++ [(l.take i).drop j]) := by
  rcases h with ⟨h1, h2, h3⟩ | ⟨h1, _⟩
  · refine Or.inl ⟨by omega, by omega, ?_⟩
    rw [h3, List.drop_eq_getElem_cons hi, pieces, if_pos hb]
    simp
  · omega
theorem CutDone.last {l : List UInt8} {j : Nat} {ps : List (List UInt8)} (h : CutDone l l.length j ps) (j' : Nat) : CutDone l (l.length + 1) j' (ps ++ [(l.take l.length).drop j]) := by
  rcases h with ⟨h1, h2, h3⟩ | ⟨h1, _⟩
  · refine Or.inr ⟨rfl, ?_⟩
    rw [h3]
    simp [pieces]
  · omega
theorem CutDone.out {l : List UInt8} {i j : Nat} {ps : List (List UInt8)} (h : CutDone l i j ps) (hi : l.length < i) : pieces [] l = ps := by
  rcases h with ⟨h1, _⟩ | ⟨_, h2⟩
  · omega
  · exact h2
theorem CutDone.bound {l : List UInt8} {i j : Nat} {ps : List (List UInt8)} (h : CutDone l i j ps) (hi : i ≤ l.length) : j ≤ i := by
  rcases h with ⟨_, h2, _⟩ | ⟨h1, _⟩ <;> omega
theorem extract_piece (s : ByteArray) (m n : Nat) : s.extract m n = ⟨((s.data.toList.take n).drop m).toArray⟩ := by
  apply ByteArray.ext
  apply Array.toList_inj.1
  simp [List.extract_eq_take_drop, List.drop_take]
theorem strs_snoc (ps : List (List UInt8)) (s : ByteArray) (m n : Nat) : strs ps ++ [Value.string (s.extract m n)] = strs (ps ++ [(s.data.toList.take n).drop m]) := by
  rw [extract_piece]
  simp [strs]
theorem infoStr : (Tryd.prog.info? 9).map (fun i => (i.zero, i.size, i.bytes)) = some (some (.string ⟨#[]⟩), 1, 16) := by kernel_rfl
set_option maxRecDepth 100000 in
set_option maxHeartbeats 1000000 in
theorem l14Cut_c (s : ByteArray) (hs : s.size ≤ 1048576) (w : World) :
    Calls Tryd.prog 17 #[.string s, .int .u8 47] w fun e w' => ∃ v, e = .returned v ∧ w'.ownsRow w.heap.size 9 1 v (pieces [] s.data.toList).length (strs (pieces [] s.data.toList)) ∧ Below w.heap.size w w' := by
  obtain ⟨i0, hi, hz0, hz1, hz2⟩ := info_parts infoStr
  go_enter Tryd.func17, Tryd.ntmps17
  go_wp2_with fail
  go_loopw [5, 6, 7] (fun v fr i wr => ∃ (n m : Nat) (ps : List (List UInt8)), i = .int .i64 (n : Int) ∧ fr = .int .i64 (m : Int) ∧ CutDone s.data.toList n m ps ∧ ps.length ≤ n ∧ m ≤ n ∧ wr.ownsRow w.heap.size 9 1 v ps.length (strs ps) ∧ Below w.heap.size w wr) (fun _ _ i _ => s.size + 1 - (intOf i).toNat)
  case atStart => exact ⟨0, 0, [], rfl, rfl, CutDone.start _, Nat.le_refl _, Nat.le_refl _, World.ownsRow_lit w #[] 0 (Nat.le_refl _) (by unfold maxLen; omega) rfl, (Below.refl _ _).alloc (Nat.le_refl _) _⟩
  case round =>
    obtain ⟨n, m, ps, rfl, rfl, hd, hl, hm, ho, hb⟩ := hrel
    have hn := hd.le
    have HD := Lib.hid hd
    clear hd
    simp only [Array.length_toList] at hn
    have hz : s.data.size = s.size := rfl
    by_cases h1 : n < s.size
    · have hi1 : n < s.data.toList.length := by simpa using h1
      have e0 : s.data.toList[n] = s[n] := by simp; rfl
      have e1 : ((n : Int) == (s.size : Int)) = false := by simp; omega
      by_cases h47 : s[n] = 47
      · have e2 : ((s[n].toNat : Int) == 47) = true := by rw [h47]; rfl
        have HN := Lib.hid (HD.out.sign hi1 (e0.trans h47))
        clear h47 e0
        go_wp2_with (at_builtin; refine wpList_append_own _ rfl _ _ 38 rfl w.heap.size 9 i0 (.string ⟨#[]⟩) 1 16 (by kernel_rfl) hi hz0 hz1 hz2 rfl (by decide) _ _ _ rfl (ho.alloc _) ⟨wr.heap.size, 0, none⟩ 1 1 [.string (s.extract m n)] rfl rfl ?c1 ?c2 ?c3 ?c4 ?c5 ?_)
        case c1 =>
          intro j u hj
          match j, hj with
          | 0, hj => simp at hj; subst hj; simp [Addr.add]
        case c2 => intro u hu; simp at hu; subst hu; rfl
        case c3 => unfold maxLen; omega
        case c4 => omega
        case c5 => have := hb.size; simp; omega
        intro v' w1 ho' hgrow _
        have HO := Lib.hid ho'
        have HB := Lib.hid ((hb.alloc hb.size (.cells #[.string (s.extract m n)] 9)).grown hgrow (by have := hb.size; simp; omega) (fun j hj => (ho.lt j hj).1))
        clear ho ho' hgrow hb
        go_wp2_with fail
        refine ⟨⟨n + 1, n + 1, _, by push_cast; rfl, by push_cast; rfl, HN.out, by simp; omega, Nat.le_refl _, (by have e9 := HO.out; rw [strs_snoc] at e9; simpa using e9), HB.out⟩, ?_⟩
        simp only [intOf]; omega
      · have e2 : ((s[n].toNat : Int) == 47) = false := by
          have : s[n].toNat ≠ 47 := fun h => h47 (UInt8.toNat_inj.1 h)
          simp; omega
        have HN := Lib.hid (HD.out.other hi1 (fun h => h47 (e0.symm.trans h)))
        have HO := Lib.hid ho
        have HB := Lib.hid hb
        clear h47 e0 ho hb
        go_wp2_with fail
        exact ⟨⟨n + 1, m, _, by push_cast; rfl, rfl, HN.out, by omega, by omega, HO.out, HB.out⟩, by simp only [intOf]; omega⟩
    · by_cases h2 : n = s.size
      · have e1 : ((n : Int) == (s.size : Int)) = true := by simp; omega
        subst h2
        have hz2' : s.data.toList.length = s.size := by simp
        have HN := Lib.hid (CutDone.last (l := s.data.toList) (j := m) (ps := ps) (by rw [hz2']; exact HD.out) (s.size + 1))
        rw [hz2'] at HN
        go_wp2_with (at_builtin; refine wpList_append_own _ rfl _ _ 38 rfl w.heap.size 9 i0 (.string ⟨#[]⟩) 1 16 (by kernel_rfl) hi hz0 hz1 hz2 rfl (by decide) _ _ _ rfl (ho.alloc _) ⟨wr.heap.size, 0, none⟩ 1 1 [.string (s.extract m s.size)] rfl rfl ?c1 ?c2 ?c3 ?c4 ?c5 ?_)
        case c1 =>
          intro j u hj
          match j, hj with
          | 0, hj => simp at hj; subst hj; simp [Addr.add]
        case c2 => intro u hu; simp at hu; subst hu; rfl
        case c3 => unfold maxLen; omega
        case c4 => omega
        case c5 => have := hb.size; simp; omega
        intro v' w1 ho' hgrow _
        have HO := Lib.hid ho'
        have HB := Lib.hid ((hb.alloc hb.size (.cells #[.string (s.extract m s.size)] 9)).grown hgrow (by have := hb.size; simp; omega) (fun j hj => (ho.lt j hj).1))
        clear ho ho' hgrow hb
        go_wp2_with fail
        refine ⟨⟨s.size + 1, s.size + 1, _, by push_cast; rfl, by push_cast; rfl, HN.out, by simp; omega, Nat.le_refl _, (by have e9 := HO.out; rw [strs_snoc] at e9; simpa using e9), HB.out⟩, ?_⟩
        simp only [intOf]; omega
      · have HE := Lib.hid (HD.out.out (by simp; omega))
        have HO := Lib.hid ho
        have HB := Lib.hid hb
        clear ho hb
        go_wp2_with fail
        go_ret
        exact ⟨_, rfl, by rw [HE.out]; exact HO.out, HB.out⟩
end Go.Proofs.YtggonihjnipobaaDoor
