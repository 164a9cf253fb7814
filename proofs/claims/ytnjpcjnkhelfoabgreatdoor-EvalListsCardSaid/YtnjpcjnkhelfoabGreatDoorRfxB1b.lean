/- The texts, parsed. -/
import Derived.Test.YtnjpcjnkhelfoabGreatDoorRfxB1t
set_option linter.unusedSectionVars false
set_option linter.unusedVariables false
set_option linter.unusedSimpArgs false
set_option linter.unnecessarySimpa false
namespace Rfx.RfxEnvB
set_option maxRecDepth 20000
open Go Go.Proofs

theorem psC0 : AV.closeds psA0 = true := by kernel_rfl
theorem psG0 : gives (evalN env2 1000 13 psA0 ⟨0, .nil⟩) 40 psV0 = true := by kernel_rfl
theorem psC1 : AV.closeds psA1 = true := by kernel_rfl
theorem psG1 : gives (evalN env2 1000 13 psA1 ⟨0, .nil⟩) 40 psV1 = true := by kernel_rfl
theorem psC2 : AV.closeds psA2 = true := by kernel_rfl
theorem psG2 : gives (evalN env2 1000 13 psA2 ⟨0, .nil⟩) 40 psV2 = true := by kernel_rfl
theorem psC3 : AV.closeds psA3 = true := by kernel_rfl
theorem psG3 : gives (evalN env2 1000 13 psA3 ⟨0, .nil⟩) 40 psV3 = true := by kernel_rfl
theorem psC4 : AV.closeds psA4 = true := by kernel_rfl
theorem psG4 : gives (evalN env2 1000 13 psA4 ⟨0, .nil⟩) 40 psV4 = true := by kernel_rfl
theorem psC5 : AV.closeds psA5 = true := by kernel_rfl
theorem psG5 : gives (evalN env2 1000 13 psA5 ⟨0, .nil⟩) 40 psV5 = true := by kernel_rfl
theorem psC6 : AV.closeds psA6 = true := by kernel_rfl
theorem psG6 : gives (evalN env2 1000 13 psA6 ⟨0, .nil⟩) 40 psV6 = true := by kernel_rfl
theorem psC7 : AV.closeds psA7 = true := by kernel_rfl
theorem psG7 : gives (evalN env2 1000 13 psA7 ⟨0, .nil⟩) 40 psV7 = true := by kernel_rfl
theorem psC8 : AV.closeds psA8 = true := by kernel_rfl
theorem psG8 : gives (evalN env2 1000 13 psA8 ⟨0, .nil⟩) 40 psV8 = true := by kernel_rfl
theorem psC9 : AV.closeds psA9 = true := by kernel_rfl
theorem psG9 : gives (evalN env2 1000 13 psA9 ⟨0, .nil⟩) 40 psV9 = true := by kernel_rfl
theorem psC10 : AV.closeds psA10 = true := by kernel_rfl
theorem psG10 : gives (evalN env2 1000 13 psA10 ⟨0, .nil⟩) 40 psV10 = true := by kernel_rfl
theorem psC11 : AV.closeds psA11 = true := by kernel_rfl
theorem psG11 : gives (evalN env2 1000 13 psA11 ⟨0, .nil⟩) 40 psV11 = true := by kernel_rfl
theorem psC12 : AV.closeds psA12 = true := by kernel_rfl
theorem psG12 : gives (evalN env2 1000 13 psA12 ⟨0, .nil⟩) 40 psV12 = true := by kernel_rfl
theorem psC13 : AV.closeds psA13 = true := by kernel_rfl
theorem psG13 : gives (evalN env2 1000 13 psA13 ⟨0, .nil⟩) 40 psV13 = true := by kernel_rfl
theorem psC14 : AV.closeds psA14 = true := by kernel_rfl
theorem psG14 : gives (evalN env2 1000 13 psA14 ⟨0, .nil⟩) 40 psV14 = true := by kernel_rfl
theorem psC15 : AV.closeds psA15 = true := by kernel_rfl
theorem psG15 : gives (evalN env2 1000 13 psA15 ⟨0, .nil⟩) 40 psV15 = true := by kernel_rfl
theorem lives_gives : gives (evalN envQ 1000 8 [] ⟨0, .nil⟩) 3 (.bool true) = true := by kernel_rfl
end Rfx.RfxEnvB
