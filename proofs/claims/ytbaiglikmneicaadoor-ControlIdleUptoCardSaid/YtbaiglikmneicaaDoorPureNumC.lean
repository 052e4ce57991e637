/- The pure law ControlNumbers, and the text that the document names: the law's function comes to true. No conditions. -/
import Derived.Test.YtbaiglikmneicaaDoorPx10
import Derived.KernelRfl
set_option linter.unusedVariables false
set_option linter.unusedSimpArgs false
namespace Go.Proofs.YtbaiglikmneicaaDoor.P
open Go.RowKit Go.Lib Go.Proofs.YtbaiglikmneicaaDoorW.PrintWords Go.Proofs.YtbaiglikmneicaaDoorW.PrintLast Go.Proofs.YtbaiglikmneicaaDoorW.PrintMore

def awakeT : ByteArray := ⟨#[80, 97, 99, 107, 97, 103, 101, 58, 32, 97, 10, 86, 101, 114, 115, 105, 111, 110, 58, 49, 46, 48, 32, 10, 35, 32, 120, 10, 68, 101, 112, 101, 110, 100, 115, 58, 32, 98, 44, 10, 32, 32, 99, 10]⟩
def awakeS : List S41 := [⟨1, [⟨⟨#[80, 97, 99, 107, 97, 103, 101]⟩, ⟨#[97]⟩⟩, ⟨⟨#[86, 101, 114, 115, 105, 111, 110]⟩, ⟨#[49, 46, 48]⟩⟩, ⟨⟨#[68, 101, 112, 101, 110, 100, 115]⟩, ⟨#[98, 44, 10, 99]⟩⟩]⟩]
theorem read_awake : readC awakeT = (awakeS, 0, 0) := by kernel_rfl
theorem awake_is : depotlaw21_awake.f = some true := by
  unfold depotlaw21_awake.f
  rw [show control_Read.f (⟨#[80, 97, 99, 107, 97, 103, 101, 58, 32, 97, 10, 86, 101, 114, 115, 105, 111, 110, 58, 49, 46, 48, 32, 10, 35, 32, 120, 10, 68, 101, 112, 101, 110, 100, 115, 58, 32, 98, 44, 10, 32, 32, 99, 10]⟩ : ByteArray) = some (awakeS, 0, 0) from by
    unfold control_Read.f
    rw [if_pos (by decide)]
    exact congrArg some read_awake]
  simp [awakeS, rd_T41, rd_T50]
theorem controlNumbers_pure : depotlaw21_ControlNumbers.f = some true := by
  unfold depotlaw21_ControlNumbers.f
  rw [awake_is]
  rfl
end Go.Proofs.YtbaiglikmneicaaDoor.P
