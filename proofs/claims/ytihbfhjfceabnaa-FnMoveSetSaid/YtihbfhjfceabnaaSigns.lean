/- The words of the translation's head as a list of signs, and the three closed facts of every row that read them. No condition. -/
import Derived.Test.YtihbfhjfceabnaaMem
namespace Go.Proofs.Ytihbfhjfceabnaa
set_option maxRecDepth 100000
def signs : List Nat := [
  104, 97, 114, 110, 101, 115, 115, 32, 102, 52, 97, 101, 50, 49, 51, 102, 48, 48, 54, 56, 54, 97, 97, 56, 99, 54, 55, 55, 99, 97, 97, 99, 52, 98, 55, 98, 48, 98, 51, 50,
  49, 102, 53, 97, 56, 56, 53, 51, 101, 55, 98, 55, 49, 97, 51, 97, 97, 101, 99, 55, 52, 53, 48, 52, 54, 52, 48, 54, 51, 49, 57, 48, 32, 99, 117, 116, 32, 97, 116, 32,
  108, 111, 111, 112, 46, 101, 120, 97, 109, 112, 108, 101, 47, 119, 101, 105, 103, 104, 101, 100, 101, 118, 105, 100, 101, 110, 99, 101, 47, 108, 97, 119, 115, 46, 70, 110, 77, 111, 118, 101,
  83, 101, 116, 32, 108, 111, 111, 112, 46, 101, 120, 97, 109, 112, 108, 101, 47, 119, 101, 105, 103, 104, 101, 100, 101, 118, 105, 100, 101, 110, 99, 101, 47, 108, 97, 119, 115, 46, 70, 110,
  65, 100, 100, 70, 114, 97, 99, 116, 105, 111, 110, 115, 32, 108, 111, 111, 112, 46, 101, 120, 97, 109, 112, 108, 101, 47, 119, 101, 105, 103, 104, 101, 100, 101, 118, 105, 100, 101, 110, 99,
  101, 47, 108, 97, 119, 115, 46, 70, 110, 84, 105, 109, 101, 115, 70, 114, 97, 99, 116, 105, 111, 110, 115, 32, 108, 111, 111, 112, 46, 101, 120, 97, 109, 112, 108, 101, 47, 119, 101, 105,
  103, 104, 101, 100, 101, 118, 105, 100, 101, 110, 99, 101, 47, 108, 97, 119, 115, 46, 70, 110, 68, 105, 118, 105, 115, 111, 114]
theorem head_is : Try.prog.initOrder = String.ofList (signs.map Char.ofNat) := by kernel_rfl
theorem head_signs : Try.prog.initOrder.toList = signs.map Char.ofNat := by rw [head_is, String.toList_ofList]
theorem fact_enter : Try.prog.mayEnter = true := by
  rw [Program.mayEnter.eq_1, head_signs]
  kernel_rfl
theorem fact_lifts : Try.prog.liftsFinal = false := by
  rw [Program.liftsFinal.eq_1, Program.headLifts.eq_1, head_signs]
  kernel_rfl
theorem fact_make : Try.prog.make = some .cut := by
  rw [Program.make.eq_1, Program.headLifts.eq_1, head_signs]
  kernel_rfl
theorem fact_maps : mapsRowed Try.prog = true := by kernel_rfl
theorem fact_heard : Try.prog.stopsHeard = true := by kernel_rfl
theorem fact_keys : Try.prog.plainKeys = true := by kernel_rfl
end Go.Proofs.Ytihbfhjfceabnaa
