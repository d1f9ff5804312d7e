/- The words of the translation's head as a list of signs, and the three closed facts of every row that read them. No condition. -/
import Derived.Test.YtggonihjnipobaaDoorMem
namespace Go.Proofs.YtggonihjnipobaaDoor
set_option maxRecDepth 100000
def signs : List Nat := [
  104, 97, 114, 110, 101, 115, 115, 32, 101, 56, 53, 54, 52, 97, 98, 101, 49, 48, 49, 57, 99, 56, 48, 56, 49, 98, 100, 52, 101, 49, 56, 51, 50, 49, 102, 54, 99, 97, 49, 53,
  50, 53, 52, 56, 50, 99, 100, 53, 50, 102, 100, 49, 97, 49, 49, 100, 53, 51, 51, 55, 50, 57, 48, 55, 56, 56, 100, 98, 102, 57, 102, 57, 32, 99, 117, 116, 32, 97, 116, 32,
  108, 111, 111, 112, 46, 101, 120, 97, 109, 112, 108, 101, 47, 119, 101, 105, 103, 104, 101, 100, 101, 118, 105, 100, 101, 110, 99, 101, 47, 108, 97, 119, 115, 46, 70, 110, 69, 120, 97, 99,
  116, 80, 97, 114, 115, 101, 70, 114, 97, 99, 116, 105, 111, 110, 32, 108, 111, 111, 112, 46, 101, 120, 97, 109, 112, 108, 101, 47, 119, 101, 105, 103, 104, 101, 100, 101, 118, 105, 100, 101,
  110, 99, 101, 47, 108, 97, 119, 115, 46, 70, 110, 70, 114, 97, 99, 116, 105, 111, 110, 84, 101, 120, 116, 32, 108, 111, 111, 112, 46, 101, 120, 97, 109, 112, 108, 101, 47, 119, 101, 105,
  103, 104, 101, 100, 101, 118, 105, 100, 101, 110, 99, 101, 47, 108, 97, 119, 115, 46, 70, 110, 69, 120, 97, 99, 116, 70, 111, 114, 109, 97, 116, 70, 114, 97, 99, 116, 105, 111, 110]
theorem head_is : Tryd.prog.initOrder = String.ofList (signs.map Char.ofNat) := by kernel_rfl
theorem head_signs : Tryd.prog.initOrder.toList = signs.map Char.ofNat := by rw [head_is, String.toList_ofList]
theorem fact_enter : Tryd.prog.mayEnter = true := by
  rw [Program.mayEnter.eq_1, head_signs]
  kernel_rfl
theorem fact_lifts : Tryd.prog.liftsFinal = false := by
  rw [Program.liftsFinal.eq_1, Program.headLifts.eq_1, head_signs]
  kernel_rfl
theorem fact_make : Tryd.prog.make = some .cut := by
  rw [Program.make.eq_1, Program.headLifts.eq_1, head_signs]
  kernel_rfl
theorem fact_maps : mapsRowed Tryd.prog = true := by kernel_rfl
theorem fact_heard : Tryd.prog.stopsHeard = true := by kernel_rfl
theorem fact_keys : Tryd.prog.plainKeys = true := by kernel_rfl
end Go.Proofs.YtggonihjnipobaaDoor
