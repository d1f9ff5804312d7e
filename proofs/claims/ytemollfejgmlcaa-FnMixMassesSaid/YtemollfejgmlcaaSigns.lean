/- The words of the translation's head as a list of signs, and the three closed facts of every row that read them. No condition. -/
import Derived.Test.YtemollfejgmlcaaMem
namespace Go.Proofs.Ytemollfejgmlcaa
set_option maxRecDepth 100000
def signs : List Nat := [
  104, 97, 114, 110, 101, 115, 115, 32, 50, 53, 98, 99, 50, 49, 50, 97, 102, 99, 56, 51, 53, 54, 57, 55, 53, 100, 53, 54, 52, 102, 102, 57, 55, 48, 51, 101, 57, 57, 49, 53,
  52, 49, 52, 49, 102, 51, 98, 51, 56, 49, 52, 49, 49, 51, 50, 57, 55, 102, 57, 52, 52, 97, 57, 50, 98, 51, 99, 101, 53, 102, 50, 56, 32, 99, 117, 116, 32, 97, 116, 32,
  108, 111, 111, 112, 46, 101, 120, 97, 109, 112, 108, 101, 47, 119, 101, 105, 103, 104, 101, 100, 101, 118, 105, 100, 101, 110, 99, 101, 47, 108, 97, 119, 115, 46, 70, 110, 75, 105, 110, 100,
  115, 32, 108, 111, 111, 112, 46, 101, 120, 97, 109, 112, 108, 101, 47, 119, 101, 105, 103, 104, 101, 100, 101, 118, 105, 100, 101, 110, 99, 101, 47, 108, 97, 119, 115, 46, 70, 110, 77, 97,
  107, 101, 77, 97, 115, 115, 32, 108, 111, 111, 112, 46, 101, 120, 97, 109, 112, 108, 101, 47, 119, 101, 105, 103, 104, 101, 100, 101, 118, 105, 100, 101, 110, 99, 101, 47, 108, 97, 119, 115,
  46, 70, 110, 83, 104, 97, 114, 101, 115, 32, 108, 111, 111, 112, 46, 101, 120, 97, 109, 112, 108, 101, 47, 119, 101, 105, 103, 104, 101, 100, 101, 118, 105, 100, 101, 110, 99, 101, 47, 108,
  97, 119, 115, 46, 70, 110, 83, 105, 109, 112, 108, 101, 77, 97, 115, 115, 32, 108, 111, 111, 112, 46, 101, 120, 97, 109, 112, 108, 101, 47, 119, 101, 105, 103, 104, 101, 100, 101, 118, 105,
  100, 101, 110, 99, 101, 47, 108, 97, 119, 115, 46, 70, 110, 77, 105, 120, 77, 97, 115, 115, 101, 115]
theorem head_is : Try.prog.initOrder = String.ofList (signs.map Char.ofNat) := by kernel_rfl
theorem head_signs : Try.prog.initOrder.toList = signs.map Char.ofNat := by rw [head_is, String.toList_ofList]
theorem fact_enter : Try.prog.mayEnter = true := by
  rw [Program.mayEnter.eq_1, head_signs]
  kernel_rfl
theorem fact_lifts : Try.prog.liftsFinal = false := by
  rw [Program.liftsFinal.eq_1, Program.headLifts.eq_1, head_signs]
  kernel_rfl
theorem fact_make : Try.prog.make = some .cut := by
  rw [Program.make.eq_1, Program.headLifts.eq_1, head_signs]
  kernel_rfl
theorem fact_maps : mapsRowed Try.prog = true := by kernel_rfl
theorem fact_heard : Try.prog.stopsHeard = true := by kernel_rfl
theorem fact_keys : Try.prog.plainKeys = true := by kernel_rfl
end Go.Proofs.Ytemollfejgmlcaa
