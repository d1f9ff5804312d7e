/- Contracts: the decimal text of a number. Conditions: as stated. -/
import Derived.Test.YtggonihjnipobaaDoorWm
import Derived.Lib.ItoaNum
import Derived.Laws.IdiomStrings
namespace Go.Proofs.YtggonihjnipobaaDoor
open Go.RowKit

/-- The decimal text of a number. -/
def dec (n : Int) : ByteArray := ⟨(Lib.itoa n).toArray⟩
theorem digits_step {k : Nat} (h : ¬ k < 10) : Lib.decDigits k = Lib.decDigits (k / 10) ++ [UInt8.ofNat (48 + k % 10)] := by rw [Lib.decDigits, dif_neg h]
theorem digits_last {k : Nat} (h : k < 10) : Lib.decDigits k = [UInt8.ofNat (48 + k)] := by rw [Lib.decDigits, dif_pos h]
theorem digits_len (u : Nat) : (Lib.decDigits u).length ≤ u + 1 := by
  induction u using Nat.strongRecOn with
  | ind u ih =>
    by_cases h : u < 10
    · rw [digits_last h]; simp
    · rw [digits_step h]
      have := ih (u / 10) (by omega)
      simp
      omega
theorem dec_len (x : Int) : (dec x).size ≤ x.natAbs + 2 := by
  have h1 := digits_len x.natAbs
  have h2 := digits_len x.toNat
  simp only [dec, Lib.itoa, ByteArray.size, List.size_toArray]
  split
  · simp; omega
  · omega
/-- A new block of one byte, read as a string. -/
theorem byte_string (w : World) (n : Nat) (h : n < 256) :
    Sem.run Tryd.prog (convert 28 9 (.slice (some ⟨w.heap.size, 0, none⟩) 1 1)) (w.alloc (.cells #[.int .u8 (n : Int)] 5)) = .ok (.string ⟨#[UInt8.ofNat n]⟩) (w.alloc (.cells #[.int .u8 (n : Int)] 5)) := by
  have hc : ∀ j (hj : j < [UInt8.ofNat n].length), (w.alloc (.cells #[.int .u8 (n : Int)] 5)).cell? ((⟨w.heap.size, 0, none⟩ : Addr).add j) = some (.int .u8 ([UInt8.ofNat n][j].toNat : Int)) := by
    intro j hj
    have : j = 0 := by simp at hj; omega
    subst this
    have e : ((UInt8.ofNat n).toNat : Int) = (n : Int) := by simp [UInt8.toNat_ofNat']; omega
    rw [List.getElem_cons_zero, e]
    have := World.cell?_alloc_mark w #[.int .u8 (n : Int)] 5 (0, 0) 0
    exact this
  exact run_convert_bytes_back (P := Tryd.prog) (w.alloc (.cells #[.int .u8 (n : Int)] 5)) 28 9 5 ⟨w.heap.size, 0, none⟩ 1 [UInt8.ofNat n] (by kernel_rfl) (by kernel_rfl) (by kernel_rfl) hc
theorem byte_step (w : World) (k : Nat) :
    Sem.run Tryd.prog (convert 28 9 (.slice (some ⟨w.heap.size, 0, none⟩) 1 1)) (w.alloc (.cells #[.int .u8 (48 + (k : Int) % 10)] 5)) = .ok (.string ⟨#[UInt8.ofNat (48 + k % 10)]⟩) (w.alloc (.cells #[.int .u8 (48 + (k : Int) % 10)] 5)) := by
  have := byte_string w (48 + k % 10) (by omega)
  push_cast at this
  exact this
theorem byte_last (w : World) (k : Nat) (h : k < 10) :
    Sem.run Tryd.prog (convert 28 9 (.slice (some ⟨w.heap.size, 0, none⟩) 1 1)) (w.alloc (.cells #[.int .u8 (48 + (k : Int))] 5)) = .ok (.string ⟨#[UInt8.ofNat (48 + k)]⟩) (w.alloc (.cells #[.int .u8 (48 + (k : Int))] 5)) := by
  have := byte_string w (48 + k) (by omega)
  push_cast at this
  exact this
theorem front_step {U : List UInt8} {o : ByteArray} {k : Nat} (h : U = Lib.decDigits k ++ o.data.toList) (hk : ¬ k < 10) :
    U = Lib.decDigits (k / 10) ++ ((⟨#[48 + UInt8.ofNat (k % 10)]⟩ : ByteArray) ++ o).data.toList := by
  rw [h, digits_step hk]
  simp [UInt8.ofNat_add]
theorem front_last {U : List UInt8} {o : ByteArray} {k : Nat} (h : U = Lib.decDigits k ++ o.data.toList) (hk : k < 10) :
    (⟨#[48 + UInt8.ofNat k]⟩ : ByteArray) ++ o = ⟨U.toArray⟩ := by
  rw [h, digits_last hk]
  apply ByteArray.ext
  simp [UInt8.ofNat_add]
set_option maxRecDepth 100000 in
set_option maxHeartbeats 2000000 in
theorem l14Dec_pos (u : Nat) (h : u ≤ 1000000000) (w : World) :
    Calls Tryd.prog 40 #[.int .i64 (u : Int)] w fun e w' => e = .returned (.string ⟨(Lib.decDigits u).toArray⟩) ∧ Below w.heap.size w w' := by
  have hu : (u : Int) ≤ 1000000000 := by omega
  have kc := byte_step
  go_enter Tryd.func40, Tryd.ntmps40
  go_wp2_with fail
  go_loopw [0, 3] (fun n out wr => ∃ (k : Nat) (o : ByteArray), (k : Int) ≤ 1000000000 ∧ n = .int .i64 (k : Int) ∧ out = .string o ∧ Lib.decDigits u = Lib.decDigits k ++ o.data.toList ∧ (o.size : Int) + (k : Int) ≤ 1000000000 ∧ Below w.heap.size w wr) (fun n _ _ => (intOf n).toNat)
  case atStart => exact ⟨u, ByteArray.empty, hu, rfl, rfl, by rw [show ByteArray.empty.data.toList = [] from rfl, List.append_nil], by simpa using hu, Below.refl _ _⟩
  case round =>
    obtain ⟨k, o, hk, rfl, rfl, hl, hz, hb⟩ := hrel
    have HL := Lib.hid hl
    clear hl
    by_cases hlt : 9 < (k : Int)
    · have ks : ¬ k < 10 := by omega
      go_wp2_with fail
      refine ⟨⟨k / 10, _, ?_, ?_, rfl, front_step HL.out ks, ?_, hb.alloc hb.size _⟩, ?_⟩
      · push_cast; omega
      · push_cast; rfl
      · have e : ((⟨#[48 + UInt8.ofNat (k % 10)]⟩ : ByteArray) ++ o).size = 1 + o.size := by rw [ByteArray.size_append]; rfl
        rw [e]; push_cast; omega
      · simp only [intOf]; omega
    · have ks : k < 10 := by omega
      have kl := byte_last wr k ks
      go_wp2_with fail
      exact bodyPost_ret (v := .string ((⟨#[48 + UInt8.ofNat k]⟩ : ByteArray) ++ o)) (by simp [results, Tryd.results40, go_sem]) rfl ⟨congrArg (fun b => Ending.returned (Value.string b)) (front_last HL.out ks), hb.alloc hb.size _⟩
set_option maxRecDepth 100000 in
set_option maxHeartbeats 2000000 in
theorem l14Dec_c (x : Int) (h : -1000000000 ≤ x ∧ x ≤ 1000000000) (w : World) :
    Calls Tryd.prog 40 #[.int .i64 x] w fun e w' => e = .returned (.string (dec x)) ∧ Below w.heap.size w w' := by
  by_cases hx : x < 0
  · have hs : (Lib.decDigits x.natAbs).length ≤ 1000000001 := by
      have := digits_len x.natAbs
      omega
    have hs2 : (ByteArray.mk (Lib.decDigits x.natAbs).toArray).size ≤ 1000000001 := by simpa [ByteArray.size] using hs
    have hd : Ending.returned (.string ((⟨#[45]⟩ : ByteArray) ++ ⟨(Lib.decDigits x.natAbs).toArray⟩)) = .returned (.string (dec x)) := by
      refine congrArg (fun b => Ending.returned (Value.string b)) (ByteArray.ext ?_)
      simp [dec, Lib.itoa, hx]
    have HD := Lib.hid hd
    clear hd
    go_enter Tryd.func40, Tryd.ntmps40
    go_wp2_with (go_at_call 40; rw [show -x = (x.natAbs : Int) by omega]; refine (l14Dec_pos x.natAbs (by omega) _).mono ?_; rintro e w1 ⟨rfl, hb⟩)
    all_goals exact bodyPost_ret (v := .string ((⟨#[45]⟩ : ByteArray) ++ ⟨(Lib.decDigits x.natAbs).toArray⟩)) (by simp [results, Tryd.results40, go_sem]) rfl ⟨HD.out, hb⟩
  · have e : x = (x.toNat : Int) := by omega
    have hd : dec x = ⟨(Lib.decDigits x.toNat).toArray⟩ := by rw [dec, Lib.itoa, if_neg (by omega)]
    rw [hd]
    have := l14Dec_pos x.toNat (by omega) w
    rw [← e] at this
    exact this
end Go.Proofs.YtggonihjnipobaaDoor
