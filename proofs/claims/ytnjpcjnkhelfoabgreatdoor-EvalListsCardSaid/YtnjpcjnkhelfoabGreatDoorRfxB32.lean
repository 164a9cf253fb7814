/- The texts evaluated with a list of 2 numbers. -/
import Derived.Test.YtnjpcjnkhelfoabGreatDoorRfxB1t
set_option linter.unusedSectionVars false
set_option linter.unusedVariables false
set_option linter.unusedSimpArgs false
set_option linter.unnecessarySimpa false
namespace Rfx.RfxEnvB
set_option maxRecDepth 20000
open Go Go.Proofs

def q2A0 : List AV := [.str [97, 116, 40, 112, 117, 115, 104, 40, 118, 44, 32, 120, 41, 44, 32, 115, 105, 122, 101, 40, 118, 41, 41, 32, 61, 61, 32, 120], .agg [.int .i64 2, .int .i64 0, .str [], .fsl 2 false [.int .i64 0, .sym .i64 10, .str [], .nilsl, .int .i64 0, .sym .i64 11, .str [], .nilsl]], .sym .i64 2, .sym .i64 0]
def q2V0 : AV := .bool true
def q2A1 : List AV := [.str [116, 97, 107, 101, 40, 112, 117, 115, 104, 40, 118, 44, 32, 120, 41, 44, 32, 115, 105, 122, 101, 40, 118, 41, 41, 32, 61, 61, 32, 118], .agg [.int .i64 2, .int .i64 0, .str [], .fsl 2 false [.int .i64 0, .sym .i64 10, .str [], .nilsl, .int .i64 0, .sym .i64 11, .str [], .nilsl]], .sym .i64 2, .sym .i64 0]
def q2V1 : AV := .bool true
def q2A2 : List AV := [.str [115, 105, 122, 101, 40, 116, 97, 107, 101, 40, 118, 44, 32, 105, 41, 41, 32, 43, 32, 115, 105, 122, 101, 40, 100, 114, 111, 112, 40, 118, 44, 32, 105, 41, 41, 32, 61, 61, 32, 115, 105, 122, 101, 40, 118, 41], .agg [.int .i64 2, .int .i64 0, .str [], .fsl 2 false [.int .i64 0, .sym .i64 10, .str [], .nilsl, .int .i64 0, .sym .i64 11, .str [], .nilsl]], .int .i64 (-2), .sym .i64 0]
def q2V2 : AV := .bool true
def q2A3 : List AV := [.str [115, 105, 122, 101, 40, 116, 97, 107, 101, 40, 118, 44, 32, 105, 41, 41, 32, 61, 61, 32, 109, 97, 120, 40, 48, 44, 32, 109, 105, 110, 40, 105, 44, 32, 115, 105, 122, 101, 40, 118, 41, 41, 41], .agg [.int .i64 2, .int .i64 0, .str [], .fsl 2 false [.int .i64 0, .sym .i64 10, .str [], .nilsl, .int .i64 0, .sym .i64 11, .str [], .nilsl]], .int .i64 (-2), .sym .i64 0]
def q2V3 : AV := .bool true
def q2A4 : List AV := [.str [97, 116, 40, 118, 44, 32, 105, 41], .agg [.int .i64 2, .int .i64 0, .str [], .fsl 2 false [.int .i64 0, .sym .i64 10, .str [], .nilsl, .int .i64 0, .sym .i64 11, .str [], .nilsl]], .int .i64 (-2), .sym .i64 0]
def q2V4 : AV := .tup [.agg [.int .i64 0, .int .i64 0, .str [], .nilsl], .int .i64 13]
def q2A5 : List AV := [.str [115, 101, 116, 40, 118, 44, 32, 105, 44, 32, 120, 41], .agg [.int .i64 2, .int .i64 0, .str [], .fsl 2 false [.int .i64 0, .sym .i64 10, .str [], .nilsl, .int .i64 0, .sym .i64 11, .str [], .nilsl]], .int .i64 (-2), .sym .i64 0]
def q2V5 : AV := .tup [.agg [.int .i64 0, .int .i64 0, .str [], .nilsl], .int .i64 13]
def q2A6 : List AV := [.str [115, 105, 122, 101, 40, 116, 97, 107, 101, 40, 118, 44, 32, 105, 41, 41, 32, 43, 32, 115, 105, 122, 101, 40, 100, 114, 111, 112, 40, 118, 44, 32, 105, 41, 41, 32, 61, 61, 32, 115, 105, 122, 101, 40, 118, 41], .agg [.int .i64 2, .int .i64 0, .str [], .fsl 2 false [.int .i64 0, .sym .i64 10, .str [], .nilsl, .int .i64 0, .sym .i64 11, .str [], .nilsl]], .int .i64 (-1), .sym .i64 0]
def q2V6 : AV := .bool true
def q2A7 : List AV := [.str [115, 105, 122, 101, 40, 116, 97, 107, 101, 40, 118, 44, 32, 105, 41, 41, 32, 61, 61, 32, 109, 97, 120, 40, 48, 44, 32, 109, 105, 110, 40, 105, 44, 32, 115, 105, 122, 101, 40, 118, 41, 41, 41], .agg [.int .i64 2, .int .i64 0, .str [], .fsl 2 false [.int .i64 0, .sym .i64 10, .str [], .nilsl, .int .i64 0, .sym .i64 11, .str [], .nilsl]], .int .i64 (-1), .sym .i64 0]
def q2V7 : AV := .bool true
def q2A8 : List AV := [.str [97, 116, 40, 118, 44, 32, 105, 41], .agg [.int .i64 2, .int .i64 0, .str [], .fsl 2 false [.int .i64 0, .sym .i64 10, .str [], .nilsl, .int .i64 0, .sym .i64 11, .str [], .nilsl]], .int .i64 (-1), .sym .i64 0]
def q2V8 : AV := .tup [.agg [.int .i64 0, .int .i64 0, .str [], .nilsl], .int .i64 13]
def q2A9 : List AV := [.str [115, 101, 116, 40, 118, 44, 32, 105, 44, 32, 120, 41], .agg [.int .i64 2, .int .i64 0, .str [], .fsl 2 false [.int .i64 0, .sym .i64 10, .str [], .nilsl, .int .i64 0, .sym .i64 11, .str [], .nilsl]], .int .i64 (-1), .sym .i64 0]
def q2V9 : AV := .tup [.agg [.int .i64 0, .int .i64 0, .str [], .nilsl], .int .i64 13]
def q2A10 : List AV := [.str [115, 105, 122, 101, 40, 116, 97, 107, 101, 40, 118, 44, 32, 105, 41, 41, 32, 43, 32, 115, 105, 122, 101, 40, 100, 114, 111, 112, 40, 118, 44, 32, 105, 41, 41, 32, 61, 61, 32, 115, 105, 122, 101, 40, 118, 41], .agg [.int .i64 2, .int .i64 0, .str [], .fsl 2 false [.int .i64 0, .sym .i64 10, .str [], .nilsl, .int .i64 0, .sym .i64 11, .str [], .nilsl]], .int .i64 0, .sym .i64 0]
def q2V10 : AV := .bool true
def q2A11 : List AV := [.str [115, 105, 122, 101, 40, 116, 97, 107, 101, 40, 118, 44, 32, 105, 41, 41, 32, 61, 61, 32, 109, 97, 120, 40, 48, 44, 32, 109, 105, 110, 40, 105, 44, 32, 115, 105, 122, 101, 40, 118, 41, 41, 41], .agg [.int .i64 2, .int .i64 0, .str [], .fsl 2 false [.int .i64 0, .sym .i64 10, .str [], .nilsl, .int .i64 0, .sym .i64 11, .str [], .nilsl]], .int .i64 0, .sym .i64 0]
def q2V11 : AV := .bool true
def q2A12 : List AV := [.str [97, 116, 40, 118, 44, 32, 105, 41], .agg [.int .i64 2, .int .i64 0, .str [], .fsl 2 false [.int .i64 0, .sym .i64 10, .str [], .nilsl, .int .i64 0, .sym .i64 11, .str [], .nilsl]], .int .i64 0, .sym .i64 0]
def q2V12 : AV := .tup [.agg [.int .i64 0, .sym .i64 10, .str [], .nilsl], .int .i64 0]
def q2A13 : List AV := [.str [115, 101, 116, 40, 118, 44, 32, 105, 44, 32, 120, 41], .agg [.int .i64 2, .int .i64 0, .str [], .fsl 2 false [.int .i64 0, .sym .i64 10, .str [], .nilsl, .int .i64 0, .sym .i64 11, .str [], .nilsl]], .int .i64 0, .sym .i64 0]
def q2V13 : AV := .tup [.agg [.int .i64 2, .int .i64 0, .str [], .fsl 2 false [.int .i64 0, .sym .i64 0, .str [], .nilsl, .int .i64 0, .sym .i64 11, .str [], .nilsl]], .int .i64 0]
def q2A14 : List AV := [.str [97, 116, 40, 115, 101, 116, 40, 118, 44, 32, 105, 44, 32, 120, 41, 44, 32, 105, 41, 32, 61, 61, 32, 120, 32, 97, 110, 100, 32, 97, 116, 40, 116, 97, 107, 101, 40, 118, 44, 32, 105, 32, 43, 32, 49, 41, 44, 32, 105, 41, 32, 61, 61, 32, 97, 116, 40, 118, 44, 32, 105, 41, 32, 97, 110, 100, 32, 97, 116, 40, 100, 114, 111, 112, 40, 118, 44, 32, 105, 41, 44, 32, 48, 41, 32, 61, 61, 32, 97, 116, 40, 118, 44, 32, 105, 41], .agg [.int .i64 2, .int .i64 0, .str [], .fsl 2 false [.int .i64 0, .sym .i64 10, .str [], .nilsl, .int .i64 0, .sym .i64 11, .str [], .nilsl]], .int .i64 0, .sym .i64 0]
def q2V14 : AV := .bool true
def q2A15 : List AV := [.str [97, 116, 40, 115, 101, 116, 40, 118, 44, 32, 105, 44, 32, 120, 41, 44, 32, 48, 41], .agg [.int .i64 2, .int .i64 0, .str [], .fsl 2 false [.int .i64 0, .sym .i64 10, .str [], .nilsl, .int .i64 0, .sym .i64 11, .str [], .nilsl]], .int .i64 0, .sym .i64 0]
def q2V15 : AV := .tup [.agg [.int .i64 0, .sym .i64 0, .str [], .nilsl], .int .i64 0]
def q2A16 : List AV := [.str [97, 116, 40, 115, 101, 116, 40, 118, 44, 32, 105, 44, 32, 120, 41, 44, 32, 49, 41], .agg [.int .i64 2, .int .i64 0, .str [], .fsl 2 false [.int .i64 0, .sym .i64 10, .str [], .nilsl, .int .i64 0, .sym .i64 11, .str [], .nilsl]], .int .i64 0, .sym .i64 0]
def q2V16 : AV := .tup [.agg [.int .i64 0, .sym .i64 11, .str [], .nilsl], .int .i64 0]
def q2A17 : List AV := [.str [115, 105, 122, 101, 40, 116, 97, 107, 101, 40, 118, 44, 32, 105, 41, 41, 32, 43, 32, 115, 105, 122, 101, 40, 100, 114, 111, 112, 40, 118, 44, 32, 105, 41, 41, 32, 61, 61, 32, 115, 105, 122, 101, 40, 118, 41], .agg [.int .i64 2, .int .i64 0, .str [], .fsl 2 false [.int .i64 0, .sym .i64 10, .str [], .nilsl, .int .i64 0, .sym .i64 11, .str [], .nilsl]], .int .i64 1, .sym .i64 0]
def q2V17 : AV := .bool true
def q2A18 : List AV := [.str [115, 105, 122, 101, 40, 116, 97, 107, 101, 40, 118, 44, 32, 105, 41, 41, 32, 61, 61, 32, 109, 97, 120, 40, 48, 44, 32, 109, 105, 110, 40, 105, 44, 32, 115, 105, 122, 101, 40, 118, 41, 41, 41], .agg [.int .i64 2, .int .i64 0, .str [], .fsl 2 false [.int .i64 0, .sym .i64 10, .str [], .nilsl, .int .i64 0, .sym .i64 11, .str [], .nilsl]], .int .i64 1, .sym .i64 0]
def q2V18 : AV := .bool true
def q2A19 : List AV := [.str [97, 116, 40, 118, 44, 32, 105, 41], .agg [.int .i64 2, .int .i64 0, .str [], .fsl 2 false [.int .i64 0, .sym .i64 10, .str [], .nilsl, .int .i64 0, .sym .i64 11, .str [], .nilsl]], .int .i64 1, .sym .i64 0]
def q2V19 : AV := .tup [.agg [.int .i64 0, .sym .i64 11, .str [], .nilsl], .int .i64 0]
def q2A20 : List AV := [.str [115, 101, 116, 40, 118, 44, 32, 105, 44, 32, 120, 41], .agg [.int .i64 2, .int .i64 0, .str [], .fsl 2 false [.int .i64 0, .sym .i64 10, .str [], .nilsl, .int .i64 0, .sym .i64 11, .str [], .nilsl]], .int .i64 1, .sym .i64 0]
def q2V20 : AV := .tup [.agg [.int .i64 2, .int .i64 0, .str [], .fsl 2 false [.int .i64 0, .sym .i64 10, .str [], .nilsl, .int .i64 0, .sym .i64 0, .str [], .nilsl]], .int .i64 0]
def q2A21 : List AV := [.str [97, 116, 40, 115, 101, 116, 40, 118, 44, 32, 105, 44, 32, 120, 41, 44, 32, 105, 41, 32, 61, 61, 32, 120, 32, 97, 110, 100, 32, 97, 116, 40, 116, 97, 107, 101, 40, 118, 44, 32, 105, 32, 43, 32, 49, 41, 44, 32, 105, 41, 32, 61, 61, 32, 97, 116, 40, 118, 44, 32, 105, 41, 32, 97, 110, 100, 32, 97, 116, 40, 100, 114, 111, 112, 40, 118, 44, 32, 105, 41, 44, 32, 48, 41, 32, 61, 61, 32, 97, 116, 40, 118, 44, 32, 105, 41], .agg [.int .i64 2, .int .i64 0, .str [], .fsl 2 false [.int .i64 0, .sym .i64 10, .str [], .nilsl, .int .i64 0, .sym .i64 11, .str [], .nilsl]], .int .i64 1, .sym .i64 0]
def q2V21 : AV := .bool true
def q2A22 : List AV := [.str [97, 116, 40, 115, 101, 116, 40, 118, 44, 32, 105, 44, 32, 120, 41, 44, 32, 48, 41], .agg [.int .i64 2, .int .i64 0, .str [], .fsl 2 false [.int .i64 0, .sym .i64 10, .str [], .nilsl, .int .i64 0, .sym .i64 11, .str [], .nilsl]], .int .i64 1, .sym .i64 0]
def q2V22 : AV := .tup [.agg [.int .i64 0, .sym .i64 10, .str [], .nilsl], .int .i64 0]
def q2A23 : List AV := [.str [97, 116, 40, 115, 101, 116, 40, 118, 44, 32, 105, 44, 32, 120, 41, 44, 32, 49, 41], .agg [.int .i64 2, .int .i64 0, .str [], .fsl 2 false [.int .i64 0, .sym .i64 10, .str [], .nilsl, .int .i64 0, .sym .i64 11, .str [], .nilsl]], .int .i64 1, .sym .i64 0]
def q2V23 : AV := .tup [.agg [.int .i64 0, .sym .i64 0, .str [], .nilsl], .int .i64 0]
def q2A24 : List AV := [.str [115, 105, 122, 101, 40, 116, 97, 107, 101, 40, 118, 44, 32, 105, 41, 41, 32, 43, 32, 115, 105, 122, 101, 40, 100, 114, 111, 112, 40, 118, 44, 32, 105, 41, 41, 32, 61, 61, 32, 115, 105, 122, 101, 40, 118, 41], .agg [.int .i64 2, .int .i64 0, .str [], .fsl 2 false [.int .i64 0, .sym .i64 10, .str [], .nilsl, .int .i64 0, .sym .i64 11, .str [], .nilsl]], .int .i64 2, .sym .i64 0]
def q2V24 : AV := .bool true
def q2A25 : List AV := [.str [115, 105, 122, 101, 40, 116, 97, 107, 101, 40, 118, 44, 32, 105, 41, 41, 32, 61, 61, 32, 109, 97, 120, 40, 48, 44, 32, 109, 105, 110, 40, 105, 44, 32, 115, 105, 122, 101, 40, 118, 41, 41, 41], .agg [.int .i64 2, .int .i64 0, .str [], .fsl 2 false [.int .i64 0, .sym .i64 10, .str [], .nilsl, .int .i64 0, .sym .i64 11, .str [], .nilsl]], .int .i64 2, .sym .i64 0]
def q2V25 : AV := .bool true
def q2A26 : List AV := [.str [97, 116, 40, 118, 44, 32, 105, 41], .agg [.int .i64 2, .int .i64 0, .str [], .fsl 2 false [.int .i64 0, .sym .i64 10, .str [], .nilsl, .int .i64 0, .sym .i64 11, .str [], .nilsl]], .int .i64 2, .sym .i64 0]
def q2V26 : AV := .tup [.agg [.int .i64 0, .int .i64 0, .str [], .nilsl], .int .i64 13]
def q2A27 : List AV := [.str [115, 101, 116, 40, 118, 44, 32, 105, 44, 32, 120, 41], .agg [.int .i64 2, .int .i64 0, .str [], .fsl 2 false [.int .i64 0, .sym .i64 10, .str [], .nilsl, .int .i64 0, .sym .i64 11, .str [], .nilsl]], .int .i64 2, .sym .i64 0]
def q2V27 : AV := .tup [.agg [.int .i64 0, .int .i64 0, .str [], .nilsl], .int .i64 13]
def q2A28 : List AV := [.str [115, 105, 122, 101, 40, 116, 97, 107, 101, 40, 118, 44, 32, 105, 41, 41, 32, 43, 32, 115, 105, 122, 101, 40, 100, 114, 111, 112, 40, 118, 44, 32, 105, 41, 41, 32, 61, 61, 32, 115, 105, 122, 101, 40, 118, 41], .agg [.int .i64 2, .int .i64 0, .str [], .fsl 2 false [.int .i64 0, .sym .i64 10, .str [], .nilsl, .int .i64 0, .sym .i64 11, .str [], .nilsl]], .int .i64 3, .sym .i64 0]
def q2V28 : AV := .bool true
def q2A29 : List AV := [.str [115, 105, 122, 101, 40, 116, 97, 107, 101, 40, 118, 44, 32, 105, 41, 41, 32, 61, 61, 32, 109, 97, 120, 40, 48, 44, 32, 109, 105, 110, 40, 105, 44, 32, 115, 105, 122, 101, 40, 118, 41, 41, 41], .agg [.int .i64 2, .int .i64 0, .str [], .fsl 2 false [.int .i64 0, .sym .i64 10, .str [], .nilsl, .int .i64 0, .sym .i64 11, .str [], .nilsl]], .int .i64 3, .sym .i64 0]
def q2V29 : AV := .bool true
def q2A30 : List AV := [.str [97, 116, 40, 118, 44, 32, 105, 41], .agg [.int .i64 2, .int .i64 0, .str [], .fsl 2 false [.int .i64 0, .sym .i64 10, .str [], .nilsl, .int .i64 0, .sym .i64 11, .str [], .nilsl]], .int .i64 3, .sym .i64 0]
def q2V30 : AV := .tup [.agg [.int .i64 0, .int .i64 0, .str [], .nilsl], .int .i64 13]
def q2A31 : List AV := [.str [115, 101, 116, 40, 118, 44, 32, 105, 44, 32, 120, 41], .agg [.int .i64 2, .int .i64 0, .str [], .fsl 2 false [.int .i64 0, .sym .i64 10, .str [], .nilsl, .int .i64 0, .sym .i64 11, .str [], .nilsl]], .int .i64 3, .sym .i64 0]
def q2V31 : AV := .tup [.agg [.int .i64 0, .int .i64 0, .str [], .nilsl], .int .i64 13]
def q2A32 : List AV := [.str [115, 105, 122, 101, 40, 116, 97, 107, 101, 40, 118, 44, 32, 105, 41, 41, 32, 43, 32, 115, 105, 122, 101, 40, 100, 114, 111, 112, 40, 118, 44, 32, 105, 41, 41, 32, 61, 61, 32, 115, 105, 122, 101, 40, 118, 41], .agg [.int .i64 2, .int .i64 0, .str [], .fsl 2 false [.int .i64 0, .sym .i64 10, .str [], .nilsl, .int .i64 0, .sym .i64 11, .str [], .nilsl]], .int .i64 4, .sym .i64 0]
def q2V32 : AV := .bool true
def q2A33 : List AV := [.str [115, 105, 122, 101, 40, 116, 97, 107, 101, 40, 118, 44, 32, 105, 41, 41, 32, 61, 61, 32, 109, 97, 120, 40, 48, 44, 32, 109, 105, 110, 40, 105, 44, 32, 115, 105, 122, 101, 40, 118, 41, 41, 41], .agg [.int .i64 2, .int .i64 0, .str [], .fsl 2 false [.int .i64 0, .sym .i64 10, .str [], .nilsl, .int .i64 0, .sym .i64 11, .str [], .nilsl]], .int .i64 4, .sym .i64 0]
def q2V33 : AV := .bool true
def q2A34 : List AV := [.str [97, 116, 40, 118, 44, 32, 105, 41], .agg [.int .i64 2, .int .i64 0, .str [], .fsl 2 false [.int .i64 0, .sym .i64 10, .str [], .nilsl, .int .i64 0, .sym .i64 11, .str [], .nilsl]], .int .i64 4, .sym .i64 0]
def q2V34 : AV := .tup [.agg [.int .i64 0, .int .i64 0, .str [], .nilsl], .int .i64 13]
def q2A35 : List AV := [.str [115, 101, 116, 40, 118, 44, 32, 105, 44, 32, 120, 41], .agg [.int .i64 2, .int .i64 0, .str [], .fsl 2 false [.int .i64 0, .sym .i64 10, .str [], .nilsl, .int .i64 0, .sym .i64 11, .str [], .nilsl]], .int .i64 4, .sym .i64 0]
def q2V35 : AV := .tup [.agg [.int .i64 0, .int .i64 0, .str [], .nilsl], .int .i64 13]
def q2A36 : List AV := [.str [115, 105, 122, 101, 40, 116, 97, 107, 101, 40, 118, 44, 32, 105, 41, 41, 32, 43, 32, 115, 105, 122, 101, 40, 100, 114, 111, 112, 40, 118, 44, 32, 105, 41, 41, 32, 61, 61, 32, 115, 105, 122, 101, 40, 118, 41], .agg [.int .i64 2, .int .i64 0, .str [], .fsl 2 false [.int .i64 0, .sym .i64 10, .str [], .nilsl, .int .i64 0, .sym .i64 11, .str [], .nilsl]], .int .i64 5, .sym .i64 0]
def q2V36 : AV := .bool true
def q2A37 : List AV := [.str [115, 105, 122, 101, 40, 116, 97, 107, 101, 40, 118, 44, 32, 105, 41, 41, 32, 61, 61, 32, 109, 97, 120, 40, 48, 44, 32, 109, 105, 110, 40, 105, 44, 32, 115, 105, 122, 101, 40, 118, 41, 41, 41], .agg [.int .i64 2, .int .i64 0, .str [], .fsl 2 false [.int .i64 0, .sym .i64 10, .str [], .nilsl, .int .i64 0, .sym .i64 11, .str [], .nilsl]], .int .i64 5, .sym .i64 0]
def q2V37 : AV := .bool true
def q2A38 : List AV := [.str [97, 116, 40, 118, 44, 32, 105, 41], .agg [.int .i64 2, .int .i64 0, .str [], .fsl 2 false [.int .i64 0, .sym .i64 10, .str [], .nilsl, .int .i64 0, .sym .i64 11, .str [], .nilsl]], .int .i64 5, .sym .i64 0]
def q2V38 : AV := .tup [.agg [.int .i64 0, .int .i64 0, .str [], .nilsl], .int .i64 13]
def q2A39 : List AV := [.str [115, 101, 116, 40, 118, 44, 32, 105, 44, 32, 120, 41], .agg [.int .i64 2, .int .i64 0, .str [], .fsl 2 false [.int .i64 0, .sym .i64 10, .str [], .nilsl, .int .i64 0, .sym .i64 11, .str [], .nilsl]], .int .i64 5, .sym .i64 0]
def q2V39 : AV := .tup [.agg [.int .i64 0, .int .i64 0, .str [], .nilsl], .int .i64 13]
def q2A40 : List AV := [.str [115, 105, 122, 101, 40, 116, 97, 107, 101, 40, 118, 44, 32, 105, 41, 41, 32, 43, 32, 115, 105, 122, 101, 40, 100, 114, 111, 112, 40, 118, 44, 32, 105, 41, 41, 32, 61, 61, 32, 115, 105, 122, 101, 40, 118, 41], .agg [.int .i64 2, .int .i64 0, .str [], .fsl 2 false [.int .i64 0, .sym .i64 10, .str [], .nilsl, .int .i64 0, .sym .i64 11, .str [], .nilsl]], .int .i64 6, .sym .i64 0]
def q2V40 : AV := .bool true
def q2A41 : List AV := [.str [115, 105, 122, 101, 40, 116, 97, 107, 101, 40, 118, 44, 32, 105, 41, 41, 32, 61, 61, 32, 109, 97, 120, 40, 48, 44, 32, 109, 105, 110, 40, 105, 44, 32, 115, 105, 122, 101, 40, 118, 41, 41, 41], .agg [.int .i64 2, .int .i64 0, .str [], .fsl 2 false [.int .i64 0, .sym .i64 10, .str [], .nilsl, .int .i64 0, .sym .i64 11, .str [], .nilsl]], .int .i64 6, .sym .i64 0]
def q2V41 : AV := .bool true
def q2A42 : List AV := [.str [97, 116, 40, 118, 44, 32, 105, 41], .agg [.int .i64 2, .int .i64 0, .str [], .fsl 2 false [.int .i64 0, .sym .i64 10, .str [], .nilsl, .int .i64 0, .sym .i64 11, .str [], .nilsl]], .int .i64 6, .sym .i64 0]
def q2V42 : AV := .tup [.agg [.int .i64 0, .int .i64 0, .str [], .nilsl], .int .i64 13]
def q2A43 : List AV := [.str [115, 101, 116, 40, 118, 44, 32, 105, 44, 32, 120, 41], .agg [.int .i64 2, .int .i64 0, .str [], .fsl 2 false [.int .i64 0, .sym .i64 10, .str [], .nilsl, .int .i64 0, .sym .i64 11, .str [], .nilsl]], .int .i64 6, .sym .i64 0]
def q2V43 : AV := .tup [.agg [.int .i64 0, .int .i64 0, .str [], .nilsl], .int .i64 13]
noncomputable def q2T : List (Nat × List AV × AV) := [(6, q2A0, q2V0), (6, q2A1, q2V1), (6, q2A2, q2V2), (6, q2A3, q2V3), (7, q2A4, q2V4), (7, q2A5, q2V5), (6, q2A6, q2V6), (6, q2A7, q2V7), (7, q2A8, q2V8), (7, q2A9, q2V9), (6, q2A10, q2V10), (6, q2A11, q2V11), (7, q2A12, q2V12), (7, q2A13, q2V13), (6, q2A14, q2V14), (7, q2A15, q2V15), (7, q2A16, q2V16), (6, q2A17, q2V17), (6, q2A18, q2V18), (7, q2A19, q2V19), (7, q2A20, q2V20), (6, q2A21, q2V21), (7, q2A22, q2V22), (7, q2A23, q2V23), (6, q2A24, q2V24), (6, q2A25, q2V25), (7, q2A26, q2V26), (7, q2A27, q2V27), (6, q2A28, q2V28), (6, q2A29, q2V29), (7, q2A30, q2V30), (7, q2A31, q2V31), (6, q2A32, q2V32), (6, q2A33, q2V33), (7, q2A34, q2V34), (7, q2A35, q2V35), (6, q2A36, q2V36), (6, q2A37, q2V37), (7, q2A38, q2V38), (7, q2A39, q2V39), (6, q2A40, q2V40), (6, q2A41, q2V41), (7, q2A42, q2V42), (7, q2A43, q2V43)]
theorem q2C0 : AV.closeds q2A0 = true := by kernel_rfl
theorem q2G0 : gives (evalN envQ 1000 6 q2A0 ⟨0, .nil⟩) 40 q2V0 = true := by kernel_rfl
theorem q2C1 : AV.closeds q2A1 = true := by kernel_rfl
theorem q2G1 : gives (evalN envQ 1000 6 q2A1 ⟨0, .nil⟩) 40 q2V1 = true := by kernel_rfl
theorem q2C2 : AV.closeds q2A2 = true := by kernel_rfl
theorem q2G2 : gives (evalN envQ 1000 6 q2A2 ⟨0, .nil⟩) 40 q2V2 = true := by kernel_rfl
theorem q2C3 : AV.closeds q2A3 = true := by kernel_rfl
theorem q2G3 : gives (evalN envQ 1000 6 q2A3 ⟨0, .nil⟩) 40 q2V3 = true := by kernel_rfl
theorem q2C4 : AV.closeds q2A4 = true := by kernel_rfl
theorem q2G4 : gives (evalN envQ 1000 7 q2A4 ⟨0, .nil⟩) 40 q2V4 = true := by kernel_rfl
theorem q2C5 : AV.closeds q2A5 = true := by kernel_rfl
theorem q2G5 : gives (evalN envQ 1000 7 q2A5 ⟨0, .nil⟩) 40 q2V5 = true := by kernel_rfl
theorem q2C6 : AV.closeds q2A6 = true := by kernel_rfl
theorem q2G6 : gives (evalN envQ 1000 6 q2A6 ⟨0, .nil⟩) 40 q2V6 = true := by kernel_rfl
theorem q2C7 : AV.closeds q2A7 = true := by kernel_rfl
theorem q2G7 : gives (evalN envQ 1000 6 q2A7 ⟨0, .nil⟩) 40 q2V7 = true := by kernel_rfl
theorem q2C8 : AV.closeds q2A8 = true := by kernel_rfl
theorem q2G8 : gives (evalN envQ 1000 7 q2A8 ⟨0, .nil⟩) 40 q2V8 = true := by kernel_rfl
theorem q2C9 : AV.closeds q2A9 = true := by kernel_rfl
theorem q2G9 : gives (evalN envQ 1000 7 q2A9 ⟨0, .nil⟩) 40 q2V9 = true := by kernel_rfl
theorem q2C10 : AV.closeds q2A10 = true := by kernel_rfl
theorem q2G10 : gives (evalN envQ 1000 6 q2A10 ⟨0, .nil⟩) 40 q2V10 = true := by kernel_rfl
theorem q2C11 : AV.closeds q2A11 = true := by kernel_rfl
theorem q2G11 : gives (evalN envQ 1000 6 q2A11 ⟨0, .nil⟩) 40 q2V11 = true := by kernel_rfl
theorem q2C12 : AV.closeds q2A12 = true := by kernel_rfl
theorem q2G12 : gives (evalN envQ 1000 7 q2A12 ⟨0, .nil⟩) 40 q2V12 = true := by kernel_rfl
theorem q2C13 : AV.closeds q2A13 = true := by kernel_rfl
theorem q2G13 : gives (evalN envQ 1000 7 q2A13 ⟨0, .nil⟩) 40 q2V13 = true := by kernel_rfl
theorem q2C14 : AV.closeds q2A14 = true := by kernel_rfl
theorem q2G14 : gives (evalN envQ 1000 6 q2A14 ⟨0, .nil⟩) 40 q2V14 = true := by kernel_rfl
theorem q2C15 : AV.closeds q2A15 = true := by kernel_rfl
theorem q2G15 : gives (evalN envQ 1000 7 q2A15 ⟨0, .nil⟩) 40 q2V15 = true := by kernel_rfl
theorem q2C16 : AV.closeds q2A16 = true := by kernel_rfl
theorem q2G16 : gives (evalN envQ 1000 7 q2A16 ⟨0, .nil⟩) 40 q2V16 = true := by kernel_rfl
theorem q2C17 : AV.closeds q2A17 = true := by kernel_rfl
theorem q2G17 : gives (evalN envQ 1000 6 q2A17 ⟨0, .nil⟩) 40 q2V17 = true := by kernel_rfl
theorem q2C18 : AV.closeds q2A18 = true := by kernel_rfl
theorem q2G18 : gives (evalN envQ 1000 6 q2A18 ⟨0, .nil⟩) 40 q2V18 = true := by kernel_rfl
theorem q2C19 : AV.closeds q2A19 = true := by kernel_rfl
theorem q2G19 : gives (evalN envQ 1000 7 q2A19 ⟨0, .nil⟩) 40 q2V19 = true := by kernel_rfl
theorem q2C20 : AV.closeds q2A20 = true := by kernel_rfl
theorem q2G20 : gives (evalN envQ 1000 7 q2A20 ⟨0, .nil⟩) 40 q2V20 = true := by kernel_rfl
theorem q2C21 : AV.closeds q2A21 = true := by kernel_rfl
theorem q2G21 : gives (evalN envQ 1000 6 q2A21 ⟨0, .nil⟩) 40 q2V21 = true := by kernel_rfl
theorem q2C22 : AV.closeds q2A22 = true := by kernel_rfl
theorem q2G22 : gives (evalN envQ 1000 7 q2A22 ⟨0, .nil⟩) 40 q2V22 = true := by kernel_rfl
theorem q2C23 : AV.closeds q2A23 = true := by kernel_rfl
theorem q2G23 : gives (evalN envQ 1000 7 q2A23 ⟨0, .nil⟩) 40 q2V23 = true := by kernel_rfl
theorem q2C24 : AV.closeds q2A24 = true := by kernel_rfl
theorem q2G24 : gives (evalN envQ 1000 6 q2A24 ⟨0, .nil⟩) 40 q2V24 = true := by kernel_rfl
theorem q2C25 : AV.closeds q2A25 = true := by kernel_rfl
theorem q2G25 : gives (evalN envQ 1000 6 q2A25 ⟨0, .nil⟩) 40 q2V25 = true := by kernel_rfl
theorem q2C26 : AV.closeds q2A26 = true := by kernel_rfl
theorem q2G26 : gives (evalN envQ 1000 7 q2A26 ⟨0, .nil⟩) 40 q2V26 = true := by kernel_rfl
theorem q2C27 : AV.closeds q2A27 = true := by kernel_rfl
theorem q2G27 : gives (evalN envQ 1000 7 q2A27 ⟨0, .nil⟩) 40 q2V27 = true := by kernel_rfl
theorem q2C28 : AV.closeds q2A28 = true := by kernel_rfl
theorem q2G28 : gives (evalN envQ 1000 6 q2A28 ⟨0, .nil⟩) 40 q2V28 = true := by kernel_rfl
theorem q2C29 : AV.closeds q2A29 = true := by kernel_rfl
theorem q2G29 : gives (evalN envQ 1000 6 q2A29 ⟨0, .nil⟩) 40 q2V29 = true := by kernel_rfl
theorem q2C30 : AV.closeds q2A30 = true := by kernel_rfl
theorem q2G30 : gives (evalN envQ 1000 7 q2A30 ⟨0, .nil⟩) 40 q2V30 = true := by kernel_rfl
theorem q2C31 : AV.closeds q2A31 = true := by kernel_rfl
theorem q2G31 : gives (evalN envQ 1000 7 q2A31 ⟨0, .nil⟩) 40 q2V31 = true := by kernel_rfl
theorem q2C32 : AV.closeds q2A32 = true := by kernel_rfl
theorem q2G32 : gives (evalN envQ 1000 6 q2A32 ⟨0, .nil⟩) 40 q2V32 = true := by kernel_rfl
theorem q2C33 : AV.closeds q2A33 = true := by kernel_rfl
theorem q2G33 : gives (evalN envQ 1000 6 q2A33 ⟨0, .nil⟩) 40 q2V33 = true := by kernel_rfl
theorem q2C34 : AV.closeds q2A34 = true := by kernel_rfl
theorem q2G34 : gives (evalN envQ 1000 7 q2A34 ⟨0, .nil⟩) 40 q2V34 = true := by kernel_rfl
theorem q2C35 : AV.closeds q2A35 = true := by kernel_rfl
theorem q2G35 : gives (evalN envQ 1000 7 q2A35 ⟨0, .nil⟩) 40 q2V35 = true := by kernel_rfl
theorem q2C36 : AV.closeds q2A36 = true := by kernel_rfl
theorem q2G36 : gives (evalN envQ 1000 6 q2A36 ⟨0, .nil⟩) 40 q2V36 = true := by kernel_rfl
theorem q2C37 : AV.closeds q2A37 = true := by kernel_rfl
theorem q2G37 : gives (evalN envQ 1000 6 q2A37 ⟨0, .nil⟩) 40 q2V37 = true := by kernel_rfl
theorem q2C38 : AV.closeds q2A38 = true := by kernel_rfl
theorem q2G38 : gives (evalN envQ 1000 7 q2A38 ⟨0, .nil⟩) 40 q2V38 = true := by kernel_rfl
theorem q2C39 : AV.closeds q2A39 = true := by kernel_rfl
theorem q2G39 : gives (evalN envQ 1000 7 q2A39 ⟨0, .nil⟩) 40 q2V39 = true := by kernel_rfl
theorem q2C40 : AV.closeds q2A40 = true := by kernel_rfl
theorem q2G40 : gives (evalN envQ 1000 6 q2A40 ⟨0, .nil⟩) 40 q2V40 = true := by kernel_rfl
theorem q2C41 : AV.closeds q2A41 = true := by kernel_rfl
theorem q2G41 : gives (evalN envQ 1000 6 q2A41 ⟨0, .nil⟩) 40 q2V41 = true := by kernel_rfl
theorem q2C42 : AV.closeds q2A42 = true := by kernel_rfl
theorem q2G42 : gives (evalN envQ 1000 7 q2A42 ⟨0, .nil⟩) 40 q2V42 = true := by kernel_rfl
theorem q2C43 : AV.closeds q2A43 = true := by kernel_rfl
theorem q2G43 : gives (evalN envQ 1000 7 q2A43 ⟨0, .nil⟩) 40 q2V43 = true := by kernel_rfl
end Rfx.RfxEnvB
