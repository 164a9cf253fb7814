/- The texts, read. -/
import Derived.Test.YtnjpcjnkhelfoabGreatDoorRfxB1t
set_option linter.unusedSectionVars false
set_option linter.unusedVariables false
set_option linter.unusedSimpArgs false
set_option linter.unnecessarySimpa false
namespace Rfx.RfxEnvB
set_option maxRecDepth 20000
open Go Go.Proofs

theorem rdC0 : AV.closeds rdA0 = true := by kernel_rfl
theorem rdG0 : gives (evalN env1 1000 18 rdA0 ⟨0, .nil⟩) 40 rdV0 = true := by kernel_rfl
theorem rdC1 : AV.closeds rdA1 = true := by kernel_rfl
theorem rdG1 : gives (evalN env1 1000 18 rdA1 ⟨0, .nil⟩) 40 rdV1 = true := by kernel_rfl
theorem rdC2 : AV.closeds rdA2 = true := by kernel_rfl
theorem rdG2 : gives (evalN env1 1000 18 rdA2 ⟨0, .nil⟩) 40 rdV2 = true := by kernel_rfl
theorem rdC3 : AV.closeds rdA3 = true := by kernel_rfl
theorem rdG3 : gives (evalN env1 1000 18 rdA3 ⟨0, .nil⟩) 40 rdV3 = true := by kernel_rfl
theorem rdC4 : AV.closeds rdA4 = true := by kernel_rfl
theorem rdG4 : gives (evalN env1 1000 18 rdA4 ⟨0, .nil⟩) 40 rdV4 = true := by kernel_rfl
theorem rdC5 : AV.closeds rdA5 = true := by kernel_rfl
theorem rdG5 : gives (evalN env1 1000 18 rdA5 ⟨0, .nil⟩) 40 rdV5 = true := by kernel_rfl
theorem rdC6 : AV.closeds rdA6 = true := by kernel_rfl
theorem rdG6 : gives (evalN env1 1000 18 rdA6 ⟨0, .nil⟩) 40 rdV6 = true := by kernel_rfl
theorem rdC7 : AV.closeds rdA7 = true := by kernel_rfl
theorem rdG7 : gives (evalN env1 1000 18 rdA7 ⟨0, .nil⟩) 40 rdV7 = true := by kernel_rfl
theorem rdC8 : AV.closeds rdA8 = true := by kernel_rfl
theorem rdG8 : gives (evalN env1 1000 18 rdA8 ⟨0, .nil⟩) 40 rdV8 = true := by kernel_rfl
theorem rdC9 : AV.closeds rdA9 = true := by kernel_rfl
theorem rdG9 : gives (evalN env1 1000 18 rdA9 ⟨0, .nil⟩) 40 rdV9 = true := by kernel_rfl
theorem rdC10 : AV.closeds rdA10 = true := by kernel_rfl
theorem rdG10 : gives (evalN env1 1000 18 rdA10 ⟨0, .nil⟩) 40 rdV10 = true := by kernel_rfl
theorem rdC11 : AV.closeds rdA11 = true := by kernel_rfl
theorem rdG11 : gives (evalN env1 1000 18 rdA11 ⟨0, .nil⟩) 40 rdV11 = true := by kernel_rfl
theorem rdC12 : AV.closeds rdA12 = true := by kernel_rfl
theorem rdG12 : gives (evalN env1 1000 18 rdA12 ⟨0, .nil⟩) 40 rdV12 = true := by kernel_rfl
theorem rdC13 : AV.closeds rdA13 = true := by kernel_rfl
theorem rdG13 : gives (evalN env1 1000 18 rdA13 ⟨0, .nil⟩) 40 rdV13 = true := by kernel_rfl
theorem rdC14 : AV.closeds rdA14 = true := by kernel_rfl
theorem rdG14 : gives (evalN env1 1000 18 rdA14 ⟨0, .nil⟩) 40 rdV14 = true := by kernel_rfl
theorem rdC15 : AV.closeds rdA15 = true := by kernel_rfl
theorem rdG15 : gives (evalN env1 1000 18 rdA15 ⟨0, .nil⟩) 40 rdV15 = true := by kernel_rfl
end Rfx.RfxEnvB
