/- What told's few calls answer: plain facts on bytes that are known. -/
import Derived.Test.YtlbijehgoiknjaaZLocal
import Derived.Test.YtlbijehgoiknjaaZFind2
import Derived.Test.YtlbijehgoiknjaaZPutEnd
set_option linter.unusedVariables false
set_option linter.unusedSimpArgs false
namespace Go.Proofs.Ytlbijehgoiknjaa.Z
open Go.RowKit Go.Proofs.YtlbijehgoiknjaaW.PrintWords Go.Proofs.YtlbijehgoiknjaaW.PrintLast Go.Proofs.YtlbijehgoiknjaaW.PrintMore Go.Proofs.Ytlbijehgoiknjaa.PZipdirHeaders

def tlM : List Int := [1, 0, 8, 0, 0, 0, 0, 0, 0, 1, 0, 0]
def tlB : List Int := localF 0 0 0 0 0 0 1099511627776 ⟨#[97]⟩ tlM
theorem tl_e : endBytes 0 0 0 = [80, 75, 5, 6, 0, 0, 0, 0, 0, 0, 0, 0, 0, 0, 0, 0, 0, 0, 0, 0, 0, 0] := by kernel_rfl
theorem tl_found : foundF [80, 75, 5, 6, 0, 0, 0, 0, 0, 0, 0, 0, 0, 0, 0, 0, 0, 0, 0, 0, 0, 0] = 0 := by kernel_rfl
theorem tl_found0 : foundF [] = -1 := by kernel_rfl
theorem tl_n1 : numsF [80, 75, 5, 6, 0, 0, 0, 0, 0, 0, 0, 0, 0, 0, 0, 0, 0, 0, 0, 0, 0, 0] ⟨0 + 4, false⟩ 2 4 = ([0, 0, 0, 0], ⟨0 + 4 + 8, false⟩) := by kernel_rfl
theorem tl_n2 : numsF [80, 75, 5, 6, 0, 0, 0, 0, 0, 0, 0, 0, 0, 0, 0, 0, 0, 0, 0, 0, 0, 0] ⟨0 + 4 + 8, false⟩ 4 2 = ([0, 0], ⟨0 + 4 + 8 + 8, false⟩) := by kernel_rfl
theorem tl_may : mayB 0 0 0 0 0 0 1099511627776 ⟨#[97]⟩ ⟨#[]⟩ 0 = true := by kernel_rfl
theorem tl_fields : fieldsF [] [1099511627776, 0] = some tlM := by kernel_rfl
theorem tl_len : tlB.length = 43 := by kernel_rfl
theorem tl_range : ∀ x ∈ tlB, 0 ≤ x ∧ x < 256 := by decide +kernel
theorem tl_e0 : numF tlB ⟨0, false⟩ 4 = (67324752, ⟨4, false⟩) := by kernel_rfl
theorem tl_e1 : numsF tlB ⟨4, false⟩ 2 5 = ([0, 0, 0, 0, 0], ⟨14, false⟩) := by kernel_rfl
theorem tl_e2 : numsF tlB ⟨14, false⟩ 4 3 = ([0, 0, 4294967295], ⟨26, false⟩) := by kernel_rfl
theorem tl_e3 : numsF tlB ⟨26, false⟩ 2 2 = ([1, 12], ⟨30, false⟩) := by kernel_rfl
theorem tl_t1 : textF tlB ⟨30, false⟩ 1 = ([97], ⟨31, false⟩) := by kernel_rfl
theorem tl_t2 : textF tlB ⟨31, false⟩ 12 = (tlM, ⟨43, false⟩) := by kernel_rfl
theorem tl_rd : readF (strOfNums tlM) ((strOfNums tlM).size + 1) 0 = some [⟨1, ⟨#[0, 0, 0, 0, 0, 1, 0, 0]⟩⟩] := by kernel_rfl
theorem tl_big : bigF [⟨1, ⟨#[0, 0, 0, 0, 0, 1, 0, 0]⟩⟩] [((4294967295 : Int) == 4294967295), ((0 : Int) == 4294967295)] = some [1099511627776, 0] := by kernel_rfl
end Go.Proofs.Ytlbijehgoiknjaa.Z
