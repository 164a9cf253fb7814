/- The texts evaluated with a list of 0 numbers. -/
import Derived.Test.YtnjpcjnkhelfoabGreatDoorRfxB1t
set_option linter.unusedSectionVars false
set_option linter.unusedVariables false
set_option linter.unusedSimpArgs false
set_option linter.unnecessarySimpa false
namespace Rfx.RfxEnvB
set_option maxRecDepth 20000
open Go Go.Proofs

def q0A0 : List AV := [.str [97, 116, 40, 112, 117, 115, 104, 40, 118, 44, 32, 120, 41, 44, 32, 115, 105, 122, 101, 40, 118, 41, 41, 32, 61, 61, 32, 120], .agg [.int .i64 2, .int .i64 0, .str [], .nilsl], .sym .i64 2, .sym .i64 0]
def q0V0 : AV := .bool true
def q0A1 : List AV := [.str [116, 97, 107, 101, 40, 112, 117, 115, 104, 40, 118, 44, 32, 120, 41, 44, 32, 115, 105, 122, 101, 40, 118, 41, 41, 32, 61, 61, 32, 118], .agg [.int .i64 2, .int .i64 0, .str [], .nilsl], .sym .i64 2, .sym .i64 0]
def q0V1 : AV := .bool true
def q0A2 : List AV := [.str [115, 105, 122, 101, 40, 116, 97, 107, 101, 40, 118, 44, 32, 105, 41, 41, 32, 43, 32, 115, 105, 122, 101, 40, 100, 114, 111, 112, 40, 118, 44, 32, 105, 41, 41, 32, 61, 61, 32, 115, 105, 122, 101, 40, 118, 41], .agg [.int .i64 2, .int .i64 0, .str [], .nilsl], .int .i64 (-2), .sym .i64 0]
def q0V2 : AV := .bool true
def q0A3 : List AV := [.str [115, 105, 122, 101, 40, 116, 97, 107, 101, 40, 118, 44, 32, 105, 41, 41, 32, 61, 61, 32, 109, 97, 120, 40, 48, 44, 32, 109, 105, 110, 40, 105, 44, 32, 115, 105, 122, 101, 40, 118, 41, 41, 41], .agg [.int .i64 2, .int .i64 0, .str [], .nilsl], .int .i64 (-2), .sym .i64 0]
def q0V3 : AV := .bool true
def q0A4 : List AV := [.str [97, 116, 40, 118, 44, 32, 105, 41], .agg [.int .i64 2, .int .i64 0, .str [], .nilsl], .int .i64 (-2), .sym .i64 0]
def q0V4 : AV := .tup [.agg [.int .i64 0, .int .i64 0, .str [], .nilsl], .int .i64 13]
def q0A5 : List AV := [.str [115, 101, 116, 40, 118, 44, 32, 105, 44, 32, 120, 41], .agg [.int .i64 2, .int .i64 0, .str [], .nilsl], .int .i64 (-2), .sym .i64 0]
def q0V5 : AV := .tup [.agg [.int .i64 0, .int .i64 0, .str [], .nilsl], .int .i64 13]
def q0A6 : List AV := [.str [115, 105, 122, 101, 40, 116, 97, 107, 101, 40, 118, 44, 32, 105, 41, 41, 32, 43, 32, 115, 105, 122, 101, 40, 100, 114, 111, 112, 40, 118, 44, 32, 105, 41, 41, 32, 61, 61, 32, 115, 105, 122, 101, 40, 118, 41], .agg [.int .i64 2, .int .i64 0, .str [], .nilsl], .int .i64 (-1), .sym .i64 0]
def q0V6 : AV := .bool true
def q0A7 : List AV := [.str [115, 105, 122, 101, 40, 116, 97, 107, 101, 40, 118, 44, 32, 105, 41, 41, 32, 61, 61, 32, 109, 97, 120, 40, 48, 44, 32, 109, 105, 110, 40, 105, 44, 32, 115, 105, 122, 101, 40, 118, 41, 41, 41], .agg [.int .i64 2, .int .i64 0, .str [], .nilsl], .int .i64 (-1), .sym .i64 0]
def q0V7 : AV := .bool true
def q0A8 : List AV := [.str [97, 116, 40, 118, 44, 32, 105, 41], .agg [.int .i64 2, .int .i64 0, .str [], .nilsl], .int .i64 (-1), .sym .i64 0]
def q0V8 : AV := .tup [.agg [.int .i64 0, .int .i64 0, .str [], .nilsl], .int .i64 13]
def q0A9 : List AV := [.str [115, 101, 116, 40, 118, 44, 32, 105, 44, 32, 120, 41], .agg [.int .i64 2, .int .i64 0, .str [], .nilsl], .int .i64 (-1), .sym .i64 0]
def q0V9 : AV := .tup [.agg [.int .i64 0, .int .i64 0, .str [], .nilsl], .int .i64 13]
def q0A10 : List AV := [.str [115, 105, 122, 101, 40, 116, 97, 107, 101, 40, 118, 44, 32, 105, 41, 41, 32, 43, 32, 115, 105, 122, 101, 40, 100, 114, 111, 112, 40, 118, 44, 32, 105, 41, 41, 32, 61, 61, 32, 115, 105, 122, 101, 40, 118, 41], .agg [.int .i64 2, .int .i64 0, .str [], .nilsl], .int .i64 0, .sym .i64 0]
def q0V10 : AV := .bool true
def q0A11 : List AV := [.str [115, 105, 122, 101, 40, 116, 97, 107, 101, 40, 118, 44, 32, 105, 41, 41, 32, 61, 61, 32, 109, 97, 120, 40, 48, 44, 32, 109, 105, 110, 40, 105, 44, 32, 115, 105, 122, 101, 40, 118, 41, 41, 41], .agg [.int .i64 2, .int .i64 0, .str [], .nilsl], .int .i64 0, .sym .i64 0]
def q0V11 : AV := .bool true
def q0A12 : List AV := [.str [97, 116, 40, 118, 44, 32, 105, 41], .agg [.int .i64 2, .int .i64 0, .str [], .nilsl], .int .i64 0, .sym .i64 0]
def q0V12 : AV := .tup [.agg [.int .i64 0, .int .i64 0, .str [], .nilsl], .int .i64 13]
def q0A13 : List AV := [.str [115, 101, 116, 40, 118, 44, 32, 105, 44, 32, 120, 41], .agg [.int .i64 2, .int .i64 0, .str [], .nilsl], .int .i64 0, .sym .i64 0]
def q0V13 : AV := .tup [.agg [.int .i64 0, .int .i64 0, .str [], .nilsl], .int .i64 13]
def q0A14 : List AV := [.str [115, 105, 122, 101, 40, 116, 97, 107, 101, 40, 118, 44, 32, 105, 41, 41, 32, 43, 32, 115, 105, 122, 101, 40, 100, 114, 111, 112, 40, 118, 44, 32, 105, 41, 41, 32, 61, 61, 32, 115, 105, 122, 101, 40, 118, 41], .agg [.int .i64 2, .int .i64 0, .str [], .nilsl], .int .i64 1, .sym .i64 0]
def q0V14 : AV := .bool true
def q0A15 : List AV := [.str [115, 105, 122, 101, 40, 116, 97, 107, 101, 40, 118, 44, 32, 105, 41, 41, 32, 61, 61, 32, 109, 97, 120, 40, 48, 44, 32, 109, 105, 110, 40, 105, 44, 32, 115, 105, 122, 101, 40, 118, 41, 41, 41], .agg [.int .i64 2, .int .i64 0, .str [], .nilsl], .int .i64 1, .sym .i64 0]
def q0V15 : AV := .bool true
def q0A16 : List AV := [.str [97, 116, 40, 118, 44, 32, 105, 41], .agg [.int .i64 2, .int .i64 0, .str [], .nilsl], .int .i64 1, .sym .i64 0]
def q0V16 : AV := .tup [.agg [.int .i64 0, .int .i64 0, .str [], .nilsl], .int .i64 13]
def q0A17 : List AV := [.str [115, 101, 116, 40, 118, 44, 32, 105, 44, 32, 120, 41], .agg [.int .i64 2, .int .i64 0, .str [], .nilsl], .int .i64 1, .sym .i64 0]
def q0V17 : AV := .tup [.agg [.int .i64 0, .int .i64 0, .str [], .nilsl], .int .i64 13]
def q0A18 : List AV := [.str [115, 105, 122, 101, 40, 116, 97, 107, 101, 40, 118, 44, 32, 105, 41, 41, 32, 43, 32, 115, 105, 122, 101, 40, 100, 114, 111, 112, 40, 118, 44, 32, 105, 41, 41, 32, 61, 61, 32, 115, 105, 122, 101, 40, 118, 41], .agg [.int .i64 2, .int .i64 0, .str [], .nilsl], .int .i64 2, .sym .i64 0]
def q0V18 : AV := .bool true
def q0A19 : List AV := [.str [115, 105, 122, 101, 40, 116, 97, 107, 101, 40, 118, 44, 32, 105, 41, 41, 32, 61, 61, 32, 109, 97, 120, 40, 48, 44, 32, 109, 105, 110, 40, 105, 44, 32, 115, 105, 122, 101, 40, 118, 41, 41, 41], .agg [.int .i64 2, .int .i64 0, .str [], .nilsl], .int .i64 2, .sym .i64 0]
def q0V19 : AV := .bool true
def q0A20 : List AV := [.str [97, 116, 40, 118, 44, 32, 105, 41], .agg [.int .i64 2, .int .i64 0, .str [], .nilsl], .int .i64 2, .sym .i64 0]
def q0V20 : AV := .tup [.agg [.int .i64 0, .int .i64 0, .str [], .nilsl], .int .i64 13]
def q0A21 : List AV := [.str [115, 101, 116, 40, 118, 44, 32, 105, 44, 32, 120, 41], .agg [.int .i64 2, .int .i64 0, .str [], .nilsl], .int .i64 2, .sym .i64 0]
def q0V21 : AV := .tup [.agg [.int .i64 0, .int .i64 0, .str [], .nilsl], .int .i64 13]
def q0A22 : List AV := [.str [115, 105, 122, 101, 40, 116, 97, 107, 101, 40, 118, 44, 32, 105, 41, 41, 32, 43, 32, 115, 105, 122, 101, 40, 100, 114, 111, 112, 40, 118, 44, 32, 105, 41, 41, 32, 61, 61, 32, 115, 105, 122, 101, 40, 118, 41], .agg [.int .i64 2, .int .i64 0, .str [], .nilsl], .int .i64 3, .sym .i64 0]
def q0V22 : AV := .bool true
def q0A23 : List AV := [.str [115, 105, 122, 101, 40, 116, 97, 107, 101, 40, 118, 44, 32, 105, 41, 41, 32, 61, 61, 32, 109, 97, 120, 40, 48, 44, 32, 109, 105, 110, 40, 105, 44, 32, 115, 105, 122, 101, 40, 118, 41, 41, 41], .agg [.int .i64 2, .int .i64 0, .str [], .nilsl], .int .i64 3, .sym .i64 0]
def q0V23 : AV := .bool true
def q0A24 : List AV := [.str [97, 116, 40, 118, 44, 32, 105, 41], .agg [.int .i64 2, .int .i64 0, .str [], .nilsl], .int .i64 3, .sym .i64 0]
def q0V24 : AV := .tup [.agg [.int .i64 0, .int .i64 0, .str [], .nilsl], .int .i64 13]
def q0A25 : List AV := [.str [115, 101, 116, 40, 118, 44, 32, 105, 44, 32, 120, 41], .agg [.int .i64 2, .int .i64 0, .str [], .nilsl], .int .i64 3, .sym .i64 0]
def q0V25 : AV := .tup [.agg [.int .i64 0, .int .i64 0, .str [], .nilsl], .int .i64 13]
def q0A26 : List AV := [.str [115, 105, 122, 101, 40, 116, 97, 107, 101, 40, 118, 44, 32, 105, 41, 41, 32, 43, 32, 115, 105, 122, 101, 40, 100, 114, 111, 112, 40, 118, 44, 32, 105, 41, 41, 32, 61, 61, 32, 115, 105, 122, 101, 40, 118, 41], .agg [.int .i64 2, .int .i64 0, .str [], .nilsl], .int .i64 4, .sym .i64 0]
def q0V26 : AV := .bool true
def q0A27 : List AV := [.str [115, 105, 122, 101, 40, 116, 97, 107, 101, 40, 118, 44, 32, 105, 41, 41, 32, 61, 61, 32, 109, 97, 120, 40, 48, 44, 32, 109, 105, 110, 40, 105, 44, 32, 115, 105, 122, 101, 40, 118, 41, 41, 41], .agg [.int .i64 2, .int .i64 0, .str [], .nilsl], .int .i64 4, .sym .i64 0]
def q0V27 : AV := .bool true
def q0A28 : List AV := [.str [97, 116, 40, 118, 44, 32, 105, 41], .agg [.int .i64 2, .int .i64 0, .str [], .nilsl], .int .i64 4, .sym .i64 0]
def q0V28 : AV := .tup [.agg [.int .i64 0, .int .i64 0, .str [], .nilsl], .int .i64 13]
def q0A29 : List AV := [.str [115, 101, 116, 40, 118, 44, 32, 105, 44, 32, 120, 41], .agg [.int .i64 2, .int .i64 0, .str [], .nilsl], .int .i64 4, .sym .i64 0]
def q0V29 : AV := .tup [.agg [.int .i64 0, .int .i64 0, .str [], .nilsl], .int .i64 13]
def q0A30 : List AV := [.str [115, 105, 122, 101, 40, 116, 97, 107, 101, 40, 118, 44, 32, 105, 41, 41, 32, 43, 32, 115, 105, 122, 101, 40, 100, 114, 111, 112, 40, 118, 44, 32, 105, 41, 41, 32, 61, 61, 32, 115, 105, 122, 101, 40, 118, 41], .agg [.int .i64 2, .int .i64 0, .str [], .nilsl], .int .i64 5, .sym .i64 0]
def q0V30 : AV := .bool true
def q0A31 : List AV := [.str [115, 105, 122, 101, 40, 116, 97, 107, 101, 40, 118, 44, 32, 105, 41, 41, 32, 61, 61, 32, 109, 97, 120, 40, 48, 44, 32, 109, 105, 110, 40, 105, 44, 32, 115, 105, 122, 101, 40, 118, 41, 41, 41], .agg [.int .i64 2, .int .i64 0, .str [], .nilsl], .int .i64 5, .sym .i64 0]
def q0V31 : AV := .bool true
def q0A32 : List AV := [.str [97, 116, 40, 118, 44, 32, 105, 41], .agg [.int .i64 2, .int .i64 0, .str [], .nilsl], .int .i64 5, .sym .i64 0]
def q0V32 : AV := .tup [.agg [.int .i64 0, .int .i64 0, .str [], .nilsl], .int .i64 13]
def q0A33 : List AV := [.str [115, 101, 116, 40, 118, 44, 32, 105, 44, 32, 120, 41], .agg [.int .i64 2, .int .i64 0, .str [], .nilsl], .int .i64 5, .sym .i64 0]
def q0V33 : AV := .tup [.agg [.int .i64 0, .int .i64 0, .str [], .nilsl], .int .i64 13]
def q0A34 : List AV := [.str [115, 105, 122, 101, 40, 116, 97, 107, 101, 40, 118, 44, 32, 105, 41, 41, 32, 43, 32, 115, 105, 122, 101, 40, 100, 114, 111, 112, 40, 118, 44, 32, 105, 41, 41, 32, 61, 61, 32, 115, 105, 122, 101, 40, 118, 41], .agg [.int .i64 2, .int .i64 0, .str [], .nilsl], .int .i64 6, .sym .i64 0]
def q0V34 : AV := .bool true
def q0A35 : List AV := [.str [115, 105, 122, 101, 40, 116, 97, 107, 101, 40, 118, 44, 32, 105, 41, 41, 32, 61, 61, 32, 109, 97, 120, 40, 48, 44, 32, 109, 105, 110, 40, 105, 44, 32, 115, 105, 122, 101, 40, 118, 41, 41, 41], .agg [.int .i64 2, .int .i64 0, .str [], .nilsl], .int .i64 6, .sym .i64 0]
def q0V35 : AV := .bool true
def q0A36 : List AV := [.str [97, 116, 40, 118, 44, 32, 105, 41], .agg [.int .i64 2, .int .i64 0, .str [], .nilsl], .int .i64 6, .sym .i64 0]
def q0V36 : AV := .tup [.agg [.int .i64 0, .int .i64 0, .str [], .nilsl], .int .i64 13]
def q0A37 : List AV := [.str [115, 101, 116, 40, 118, 44, 32, 105, 44, 32, 120, 41], .agg [.int .i64 2, .int .i64 0, .str [], .nilsl], .int .i64 6, .sym .i64 0]
def q0V37 : AV := .tup [.agg [.int .i64 0, .int .i64 0, .str [], .nilsl], .int .i64 13]
noncomputable def q0T : List (Nat × List AV × AV) := [(6, q0A0, q0V0), (6, q0A1, q0V1), (6, q0A2, q0V2), (6, q0A3, q0V3), (7, q0A4, q0V4), (7, q0A5, q0V5), (6, q0A6, q0V6), (6, q0A7, q0V7), (7, q0A8, q0V8), (7, q0A9, q0V9), (6, q0A10, q0V10), (6, q0A11, q0V11), (7, q0A12, q0V12), (7, q0A13, q0V13), (6, q0A14, q0V14), (6, q0A15, q0V15), (7, q0A16, q0V16), (7, q0A17, q0V17), (6, q0A18, q0V18), (6, q0A19, q0V19), (7, q0A20, q0V20), (7, q0A21, q0V21), (6, q0A22, q0V22), (6, q0A23, q0V23), (7, q0A24, q0V24), (7, q0A25, q0V25), (6, q0A26, q0V26), (6, q0A27, q0V27), (7, q0A28, q0V28), (7, q0A29, q0V29), (6, q0A30, q0V30), (6, q0A31, q0V31), (7, q0A32, q0V32), (7, q0A33, q0V33), (6, q0A34, q0V34), (6, q0A35, q0V35), (7, q0A36, q0V36), (7, q0A37, q0V37)]
theorem q0C0 : AV.closeds q0A0 = true := by kernel_rfl
theorem q0G0 : gives (evalN envQ 1000 6 q0A0 ⟨0, .nil⟩) 40 q0V0 = true := by kernel_rfl
theorem q0C1 : AV.closeds q0A1 = true := by kernel_rfl
theorem q0G1 : gives (evalN envQ 1000 6 q0A1 ⟨0, .nil⟩) 40 q0V1 = true := by kernel_rfl
theorem q0C2 : AV.closeds q0A2 = true := by kernel_rfl
theorem q0G2 : gives (evalN envQ 1000 6 q0A2 ⟨0, .nil⟩) 40 q0V2 = true := by kernel_rfl
theorem q0C3 : AV.closeds q0A3 = true := by kernel_rfl
theorem q0G3 : gives (evalN envQ 1000 6 q0A3 ⟨0, .nil⟩) 40 q0V3 = true := by kernel_rfl
theorem q0C4 : AV.closeds q0A4 = true := by kernel_rfl
theorem q0G4 : gives (evalN envQ 1000 7 q0A4 ⟨0, .nil⟩) 40 q0V4 = true := by kernel_rfl
theorem q0C5 : AV.closeds q0A5 = true := by kernel_rfl
theorem q0G5 : gives (evalN envQ 1000 7 q0A5 ⟨0, .nil⟩) 40 q0V5 = true := by kernel_rfl
theorem q0C6 : AV.closeds q0A6 = true := by kernel_rfl
theorem q0G6 : gives (evalN envQ 1000 6 q0A6 ⟨0, .nil⟩) 40 q0V6 = true := by kernel_rfl
theorem q0C7 : AV.closeds q0A7 = true := by kernel_rfl
theorem q0G7 : gives (evalN envQ 1000 6 q0A7 ⟨0, .nil⟩) 40 q0V7 = true := by kernel_rfl
theorem q0C8 : AV.closeds q0A8 = true := by kernel_rfl
theorem q0G8 : gives (evalN envQ 1000 7 q0A8 ⟨0, .nil⟩) 40 q0V8 = true := by kernel_rfl
theorem q0C9 : AV.closeds q0A9 = true := by kernel_rfl
theorem q0G9 : gives (evalN envQ 1000 7 q0A9 ⟨0, .nil⟩) 40 q0V9 = true := by kernel_rfl
theorem q0C10 : AV.closeds q0A10 = true := by kernel_rfl
theorem q0G10 : gives (evalN envQ 1000 6 q0A10 ⟨0, .nil⟩) 40 q0V10 = true := by kernel_rfl
theorem q0C11 : AV.closeds q0A11 = true := by kernel_rfl
theorem q0G11 : gives (evalN envQ 1000 6 q0A11 ⟨0, .nil⟩) 40 q0V11 = true := by kernel_rfl
theorem q0C12 : AV.closeds q0A12 = true := by kernel_rfl
theorem q0G12 : gives (evalN envQ 1000 7 q0A12 ⟨0, .nil⟩) 40 q0V12 = true := by kernel_rfl
theorem q0C13 : AV.closeds q0A13 = true := by kernel_rfl
theorem q0G13 : gives (evalN envQ 1000 7 q0A13 ⟨0, .nil⟩) 40 q0V13 = true := by kernel_rfl
theorem q0C14 : AV.closeds q0A14 = true := by kernel_rfl
theorem q0G14 : gives (evalN envQ 1000 6 q0A14 ⟨0, .nil⟩) 40 q0V14 = true := by kernel_rfl
theorem q0C15 : AV.closeds q0A15 = true := by kernel_rfl
theorem q0G15 : gives (evalN envQ 1000 6 q0A15 ⟨0, .nil⟩) 40 q0V15 = true := by kernel_rfl
theorem q0C16 : AV.closeds q0A16 = true := by kernel_rfl
theorem q0G16 : gives (evalN envQ 1000 7 q0A16 ⟨0, .nil⟩) 40 q0V16 = true := by kernel_rfl
theorem q0C17 : AV.closeds q0A17 = true := by kernel_rfl
theorem q0G17 : gives (evalN envQ 1000 7 q0A17 ⟨0, .nil⟩) 40 q0V17 = true := by kernel_rfl
theorem q0C18 : AV.closeds q0A18 = true := by kernel_rfl
theorem q0G18 : gives (evalN envQ 1000 6 q0A18 ⟨0, .nil⟩) 40 q0V18 = true := by kernel_rfl
theorem q0C19 : AV.closeds q0A19 = true := by kernel_rfl
theorem q0G19 : gives (evalN envQ 1000 6 q0A19 ⟨0, .nil⟩) 40 q0V19 = true := by kernel_rfl
theorem q0C20 : AV.closeds q0A20 = true := by kernel_rfl
theorem q0G20 : gives (evalN envQ 1000 7 q0A20 ⟨0, .nil⟩) 40 q0V20 = true := by kernel_rfl
theorem q0C21 : AV.closeds q0A21 = true := by kernel_rfl
theorem q0G21 : gives (evalN envQ 1000 7 q0A21 ⟨0, .nil⟩) 40 q0V21 = true := by kernel_rfl
theorem q0C22 : AV.closeds q0A22 = true := by kernel_rfl
theorem q0G22 : gives (evalN envQ 1000 6 q0A22 ⟨0, .nil⟩) 40 q0V22 = true := by kernel_rfl
theorem q0C23 : AV.closeds q0A23 = true := by kernel_rfl
theorem q0G23 : gives (evalN envQ 1000 6 q0A23 ⟨0, .nil⟩) 40 q0V23 = true := by kernel_rfl
theorem q0C24 : AV.closeds q0A24 = true := by kernel_rfl
theorem q0G24 : gives (evalN envQ 1000 7 q0A24 ⟨0, .nil⟩) 40 q0V24 = true := by kernel_rfl
theorem q0C25 : AV.closeds q0A25 = true := by kernel_rfl
theorem q0G25 : gives (evalN envQ 1000 7 q0A25 ⟨0, .nil⟩) 40 q0V25 = true := by kernel_rfl
theorem q0C26 : AV.closeds q0A26 = true := by kernel_rfl
theorem q0G26 : gives (evalN envQ 1000 6 q0A26 ⟨0, .nil⟩) 40 q0V26 = true := by kernel_rfl
theorem q0C27 : AV.closeds q0A27 = true := by kernel_rfl
theorem q0G27 : gives (evalN envQ 1000 6 q0A27 ⟨0, .nil⟩) 40 q0V27 = true := by kernel_rfl
theorem q0C28 : AV.closeds q0A28 = true := by kernel_rfl
theorem q0G28 : gives (evalN envQ 1000 7 q0A28 ⟨0, .nil⟩) 40 q0V28 = true := by kernel_rfl
theorem q0C29 : AV.closeds q0A29 = true := by kernel_rfl
theorem q0G29 : gives (evalN envQ 1000 7 q0A29 ⟨0, .nil⟩) 40 q0V29 = true := by kernel_rfl
theorem q0C30 : AV.closeds q0A30 = true := by kernel_rfl
theorem q0G30 : gives (evalN envQ 1000 6 q0A30 ⟨0, .nil⟩) 40 q0V30 = true := by kernel_rfl
theorem q0C31 : AV.closeds q0A31 = true := by kernel_rfl
theorem q0G31 : gives (evalN envQ 1000 6 q0A31 ⟨0, .nil⟩) 40 q0V31 = true := by kernel_rfl
theorem q0C32 : AV.closeds q0A32 = true := by kernel_rfl
theorem q0G32 : gives (evalN envQ 1000 7 q0A32 ⟨0, .nil⟩) 40 q0V32 = true := by kernel_rfl
theorem q0C33 : AV.closeds q0A33 = true := by kernel_rfl
theorem q0G33 : gives (evalN envQ 1000 7 q0A33 ⟨0, .nil⟩) 40 q0V33 = true := by kernel_rfl
theorem q0C34 : AV.closeds q0A34 = true := by kernel_rfl
theorem q0G34 : gives (evalN envQ 1000 6 q0A34 ⟨0, .nil⟩) 40 q0V34 = true := by kernel_rfl
theorem q0C35 : AV.closeds q0A35 = true := by kernel_rfl
theorem q0G35 : gives (evalN envQ 1000 6 q0A35 ⟨0, .nil⟩) 40 q0V35 = true := by kernel_rfl
theorem q0C36 : AV.closeds q0A36 = true := by kernel_rfl
theorem q0G36 : gives (evalN envQ 1000 7 q0A36 ⟨0, .nil⟩) 40 q0V36 = true := by kernel_rfl
theorem q0C37 : AV.closeds q0A37 = true := by kernel_rfl
theorem q0G37 : gives (evalN envQ 1000 7 q0A37 ⟨0, .nil⟩) 40 q0V37 = true := by kernel_rfl
end Rfx.RfxEnvB
