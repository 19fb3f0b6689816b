/- Plain: what the first calls answer. -/
import Derived.Test.YtoiepfapghnccaaRailSets
set_option linter.unusedSimpArgs false
set_option linter.unusedVariables false
namespace Go.Rail
open Go
def aA : Addr20 := ⟨[1, 0, 0, 0, 0, 0, 0, 0, 0, 0, 0, 0, 0, 0, 0, 0, 0, 0, 0, 0], rfl⟩
def kK : Key := ⟨aA, true, ⟨0, 0, 0, 0⟩⟩
def lK : Key := ⟨aA, false, ⟨0, 0, 0, 0⟩⟩
def oK : Key := ⟨⟨[0, 0, 0, 0, 0, 0, 0, 0, 0, 0, 0, 0, 0, 0, 0, 0, 0, 0, 0, 0], rfl⟩, false, Word.of 1⟩
theorem aw1 : makeS [] [kK, lK, kK] = (⟨[], [lK, kK]⟩, 0) := by rfl
theorem aw2 : makeS [kK] [] = (⟨[kK], []⟩, 0) := by rfl
theorem aw3 : makeS [] [oK] = (noSets, 1) := by rfl
theorem aw4 : joinS ⟨[], [lK, kK]⟩ ⟨[kK], []⟩ = (⟨[kK], [lK, kK]⟩, 0) := by rfl
theorem aw5 : clashS ⟨[], [lK, kK]⟩ ⟨[kK], []⟩ = true := by decide
theorem aw6 : clashS ⟨[kK], []⟩ ⟨[], [lK, kK]⟩ = true := by decide
theorem aw7 : clashS ⟨[kK], []⟩ ⟨[kK], []⟩ = false := by decide
theorem aw8 : cmpK lK kK = -1 := by decide
theorem aw9 : mayS ⟨[], [lK, kK]⟩ kK true = true := by decide
theorem aw10 : mayS ⟨[kK], []⟩ kK false = true := by decide
theorem aw11 : mayS ⟨[kK], []⟩ kK true = false := by decide
theorem aw12 : rightS ⟨[kK], [lK, kK]⟩ = true := by decide
end Go.Rail
