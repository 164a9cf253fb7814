/- The texts evaluated with a list of 1 numbers. -/
import Derived.Test.YtnjpcjnkhelfoabGreatDoorRfxB1t
set_option linter.unusedSectionVars false
set_option linter.unusedVariables false
set_option linter.unusedSimpArgs false
set_option linter.unnecessarySimpa false
namespace Rfx.RfxEnvB
set_option maxRecDepth 20000
open Go Go.Proofs

def q1A0 : List AV := [.str [97, 116, 40, 112, 117, 115, 104, 40, 118, 44, 32, 120, 41, 44, 32, 115, 105, 122, 101, 40, 118, 41, 41, 32, 61, 61, 32, 120], .agg [.int .i64 2, .int .i64 0, .str [], .fsl 1 false [.int .i64 0, .sym .i64 10, .str [], .nilsl]], .sym .i64 2, .sym .i64 0]
def q1V0 : AV := .bool true
def q1A1 : List AV := [.str [116, 97, 107, 101, 40, 112, 117, 115, 104, 40, 118, 44, 32, 120, 41, 44, 32, 115, 105, 122, 101, 40, 118, 41, 41, 32, 61, 61, 32, 118], .agg [.int .i64 2, .int .i64 0, .str [], .fsl 1 false [.int .i64 0, .sym .i64 10, .str [], .nilsl]], .sym .i64 2, .sym .i64 0]
def q1V1 : AV := .bool true
def q1A2 : List AV := [.str [115, 105, 122, 101, 40, 116, 97, 107, 101, 40, 118, 44, 32, 105, 41, 41, 32, 43, 32, 115, 105, 122, 101, 40, 100, 114, 111, 112, 40, 118, 44, 32, 105, 41, 41, 32, 61, 61, 32, 115, 105, 122, 101, 40, 118, 41], .agg [.int .i64 2, .int .i64 0, .str [], .fsl 1 false [.int .i64 0, .sym .i64 10, .str [], .nilsl]], .int .i64 (-2), .sym .i64 0]
def q1V2 : AV := .bool true
def q1A3 : List AV := [.str [115, 105, 122, 101, 40, 116, 97, 107, 101, 40, 118, 44, 32, 105, 41, 41, 32, 61, 61, 32, 109, 97, 120, 40, 48, 44, 32, 109, 105, 110, 40, 105, 44, 32, 115, 105, 122, 101, 40, 118, 41, 41, 41], .agg [.int .i64 2, .int .i64 0, .str [], .fsl 1 false [.int .i64 0, .sym .i64 10, .str [], .nilsl]], .int .i64 (-2), .sym .i64 0]
def q1V3 : AV := .bool true
def q1A4 : List AV := [.str [97, 116, 40, 118, 44, 32, 105, 41], .agg [.int .i64 2, .int .i64 0, .str [], .fsl 1 false [.int .i64 0, .sym .i64 10, .str [], .nilsl]], .int .i64 (-2), .sym .i64 0]
def q1V4 : AV := .tup [.agg [.int .i64 0, .int .i64 0, .str [], .nilsl], .int .i64 13]
def q1A5 : List AV := [.str [115, 101, 116, 40, 118, 44, 32, 105, 44, 32, 120, 41], .agg [.int .i64 2, .int .i64 0, .str [], .fsl 1 false [.int .i64 0, .sym .i64 10, .str [], .nilsl]], .int .i64 (-2), .sym .i64 0]
def q1V5 : AV := .tup [.agg [.int .i64 0, .int .i64 0, .str [], .nilsl], .int .i64 13]
def q1A6 : List AV := [.str [115, 105, 122, 101, 40, 116, 97, 107, 101, 40, 118, 44, 32, 105, 41, 41, 32, 43, 32, 115, 105, 122, 101, 40, 100, 114, 111, 112, 40, 118, 44, 32, 105, 41, 41, 32, 61, 61, 32, 115, 105, 122, 101, 40, 118, 41], .agg [.int .i64 2, .int .i64 0, .str [], .fsl 1 false [.int .i64 0, .sym .i64 10, .str [], .nilsl]], .int .i64 (-1), .sym .i64 0]
def q1V6 : AV := .bool true
def q1A7 : List AV := [.str [115, 105, 122, 101, 40, 116, 97, 107, 101, 40, 118, 44, 32, 105, 41, 41, 32, 61, 61, 32, 109, 97, 120, 40, 48, 44, 32, 109, 105, 110, 40, 105, 44, 32, 115, 105, 122, 101, 40, 118, 41, 41, 41], .agg [.int .i64 2, .int .i64 0, .str [], .fsl 1 false [.int .i64 0, .sym .i64 10, .str [], .nilsl]], .int .i64 (-1), .sym .i64 0]
def q1V7 : AV := .bool true
def q1A8 : List AV := [.str [97, 116, 40, 118, 44, 32, 105, 41], .agg [.int .i64 2, .int .i64 0, .str [], .fsl 1 false [.int .i64 0, .sym .i64 10, .str [], .nilsl]], .int .i64 (-1), .sym .i64 0]
def q1V8 : AV := .tup [.agg [.int .i64 0, .int .i64 0, .str [], .nilsl], .int .i64 13]
def q1A9 : List AV := [.str [115, 101, 116, 40, 118, 44, 32, 105, 44, 32, 120, 41], .agg [.int .i64 2, .int .i64 0, .str [], .fsl 1 false [.int .i64 0, .sym .i64 10, .str [], .nilsl]], .int .i64 (-1), .sym .i64 0]
def q1V9 : AV := .tup [.agg [.int .i64 0, .int .i64 0, .str [], .nilsl], .int .i64 13]
def q1A10 : List AV := [.str [115, 105, 122, 101, 40, 116, 97, 107, 101, 40, 118, 44, 32, 105, 41, 41, 32, 43, 32, 115, 105, 122, 101, 40, 100, 114, 111, 112, 40, 118, 44, 32, 105, 41, 41, 32, 61, 61, 32, 115, 105, 122, 101, 40, 118, 41], .agg [.int .i64 2, .int .i64 0, .str [], .fsl 1 false [.int .i64 0, .sym .i64 10, .str [], .nilsl]], .int .i64 0, .sym .i64 0]
def q1V10 : AV := .bool true
def q1A11 : List AV := [.str [115, 105, 122, 101, 40, 116, 97, 107, 101, 40, 118, 44, 32, 105, 41, 41, 32, 61, 61, 32, 109, 97, 120, 40, 48, 44, 32, 109, 105, 110, 40, 105, 44, 32, 115, 105, 122, 101, 40, 118, 41, 41, 41], .agg [.int .i64 2, .int .i64 0, .str [], .fsl 1 false [.int .i64 0, .sym .i64 10, .str [], .nilsl]], .int .i64 0, .sym .i64 0]
def q1V11 : AV := .bool true
def q1A12 : List AV := [.str [97, 116, 40, 118, 44, 32, 105, 41], .agg [.int .i64 2, .int .i64 0, .str [], .fsl 1 false [.int .i64 0, .sym .i64 10, .str [], .nilsl]], .int .i64 0, .sym .i64 0]
def q1V12 : AV := .tup [.agg [.int .i64 0, .sym .i64 10, .str [], .nilsl], .int .i64 0]
def q1A13 : List AV := [.str [115, 101, 116, 40, 118, 44, 32, 105, 44, 32, 120, 41], .agg [.int .i64 2, .int .i64 0, .str [], .fsl 1 false [.int .i64 0, .sym .i64 10, .str [], .nilsl]], .int .i64 0, .sym .i64 0]
def q1V13 : AV := .tup [.agg [.int .i64 2, .int .i64 0, .str [], .fsl 1 false [.int .i64 0, .sym .i64 0, .str [], .nilsl]], .int .i64 0]
def q1A14 : List AV := [.str [97, 116, 40, 115, 101, 116, 40, 118, 44, 32, 105, 44, 32, 120, 41, 44, 32, 105, 41, 32, 61, 61, 32, 120, 32, 97, 110, 100, 32, 97, 116, 40, 116, 97, 107, 101, 40, 118, 44, 32, 105, 32, 43, 32, 49, 41, 44, 32, 105, 41, 32, 61, 61, 32, 97, 116, 40, 118, 44, 32, 105, 41, 32, 97, 110, 100, 32, 97, 116, 40, 100, 114, 111, 112, 40, 118, 44, 32, 105, 41, 44, 32, 48, 41, 32, 61, 61, 32, 97, 116, 40, 118, 44, 32, 105, 41], .agg [.int .i64 2, .int .i64 0, .str [], .fsl 1 false [.int .i64 0, .sym .i64 10, .str [], .nilsl]], .int .i64 0, .sym .i64 0]
def q1V14 : AV := .bool true
def q1A15 : List AV := [.str [97, 116, 40, 115, 101, 116, 40, 118, 44, 32, 105, 44, 32, 120, 41, 44, 32, 48, 41], .agg [.int .i64 2, .int .i64 0, .str [], .fsl 1 false [.int .i64 0, .sym .i64 10, .str [], .nilsl]], .int .i64 0, .sym .i64 0]
def q1V15 : AV := .tup [.agg [.int .i64 0, .sym .i64 0, .str [], .nilsl], .int .i64 0]
def q1A16 : List AV := [.str [115, 105, 122, 101, 40, 116, 97, 107, 101, 40, 118, 44, 32, 105, 41, 41, 32, 43, 32, 115, 105, 122, 101, 40, 100, 114, 111, 112, 40, 118, 44, 32, 105, 41, 41, 32, 61, 61, 32, 115, 105, 122, 101, 40, 118, 41], .agg [.int .i64 2, .int .i64 0, .str [], .fsl 1 false [.int .i64 0, .sym .i64 10, .str [], .nilsl]], .int .i64 1, .sym .i64 0]
def q1V16 : AV := .bool true
def q1A17 : List AV := [.str [115, 105, 122, 101, 40, 116, 97, 107, 101, 40, 118, 44, 32, 105, 41, 41, 32, 61, 61, 32, 109, 97, 120, 40, 48, 44, 32, 109, 105, 110, 40, 105, 44, 32, 115, 105, 122, 101, 40, 118, 41, 41, 41], .agg [.int .i64 2, .int .i64 0, .str [], .fsl 1 false [.int .i64 0, .sym .i64 10, .str [], .nilsl]], .int .i64 1, .sym .i64 0]
def q1V17 : AV := .bool true
def q1A18 : List AV := [.str [97, 116, 40, 118, 44, 32, 105, 41], .agg [.int .i64 2, .int .i64 0, .str [], .fsl 1 false [.int .i64 0, .sym .i64 10, .str [], .nilsl]], .int .i64 1, .sym .i64 0]
def q1V18 : AV := .tup [.agg [.int .i64 0, .int .i64 0, .str [], .nilsl], .int .i64 13]
def q1A19 : List AV := [.str [115, 101, 116, 40, 118, 44, 32, 105, 44, 32, 120, 41], .agg [.int .i64 2, .int .i64 0, .str [], .fsl 1 false [.int .i64 0, .sym .i64 10, .str [], .nilsl]], .int .i64 1, .sym .i64 0]
def q1V19 : AV := .tup [.agg [.int .i64 0, .int .i64 0, .str [], .nilsl], .int .i64 13]
def q1A20 : List AV := [.str [115, 105, 122, 101, 40, 116, 97, 107, 101, 40, 118, 44, 32, 105, 41, 41, 32, 43, 32, 115, 105, 122, 101, 40, 100, 114, 111, 112, 40, 118, 44, 32, 105, 41, 41, 32, 61, 61, 32, 115, 105, 122, 101, 40, 118, 41], .agg [.int .i64 2, .int .i64 0, .str [], .fsl 1 false [.int .i64 0, .sym .i64 10, .str [], .nilsl]], .int .i64 2, .sym .i64 0]
def q1V20 : AV := .bool true
def q1A21 : List AV := [.str [115, 105, 122, 101, 40, 116, 97, 107, 101, 40, 118, 44, 32, 105, 41, 41, 32, 61, 61, 32, 109, 97, 120, 40, 48, 44, 32, 109, 105, 110, 40, 105, 44, 32, 115, 105, 122, 101, 40, 118, 41, 41, 41], .agg [.int .i64 2, .int .i64 0, .str [], .fsl 1 false [.int .i64 0, .sym .i64 10, .str [], .nilsl]], .int .i64 2, .sym .i64 0]
def q1V21 : AV := .bool true
def q1A22 : List AV := [.str [97, 116, 40, 118, 44, 32, 105, 41], .agg [.int .i64 2, .int .i64 0, .str [], .fsl 1 false [.int .i64 0, .sym .i64 10, .str [], .nilsl]], .int .i64 2, .sym .i64 0]
def q1V22 : AV := .tup [.agg [.int .i64 0, .int .i64 0, .str [], .nilsl], .int .i64 13]
def q1A23 : List AV := [.str [115, 101, 116, 40, 118, 44, 32, 105, 44, 32, 120, 41], .agg [.int .i64 2, .int .i64 0, .str [], .fsl 1 false [.int .i64 0, .sym .i64 10, .str [], .nilsl]], .int .i64 2, .sym .i64 0]
def q1V23 : AV := .tup [.agg [.int .i64 0, .int .i64 0, .str [], .nilsl], .int .i64 13]
def q1A24 : List AV := [.str [115, 105, 122, 101, 40, 116, 97, 107, 101, 40, 118, 44, 32, 105, 41, 41, 32, 43, 32, 115, 105, 122, 101, 40, 100, 114, 111, 112, 40, 118, 44, 32, 105, 41, 41, 32, 61, 61, 32, 115, 105, 122, 101, 40, 118, 41], .agg [.int .i64 2, .int .i64 0, .str [], .fsl 1 false [.int .i64 0, .sym .i64 10, .str [], .nilsl]], .int .i64 3, .sym .i64 0]
def q1V24 : AV := .bool true
def q1A25 : List AV := [.str [115, 105, 122, 101, 40, 116, 97, 107, 101, 40, 118, 44, 32, 105, 41, 41, 32, 61, 61, 32, 109, 97, 120, 40, 48, 44, 32, 109, 105, 110, 40, 105, 44, 32, 115, 105, 122, 101, 40, 118, 41, 41, 41], .agg [.int .i64 2, .int .i64 0, .str [], .fsl 1 false [.int .i64 0, .sym .i64 10, .str [], .nilsl]], .int .i64 3, .sym .i64 0]
def q1V25 : AV := .bool true
def q1A26 : List AV := [.str [97, 116, 40, 118, 44, 32, 105, 41], .agg [.int .i64 2, .int .i64 0, .str [], .fsl 1 false [.int .i64 0, .sym .i64 10, .str [], .nilsl]], .int .i64 3, .sym .i64 0]
def q1V26 : AV := .tup [.agg [.int .i64 0, .int .i64 0, .str [], .nilsl], .int .i64 13]
def q1A27 : List AV := [.str [115, 101, 116, 40, 118, 44, 32, 105, 44, 32, 120, 41], .agg [.int .i64 2, .int .i64 0, .str [], .fsl 1 false [.int .i64 0, .sym .i64 10, .str [], .nilsl]], .int .i64 3, .sym .i64 0]
def q1V27 : AV := .tup [.agg [.int .i64 0, .int .i64 0, .str [], .nilsl], .int .i64 13]
def q1A28 : List AV := [.str [115, 105, 122, 101, 40, 116, 97, 107, 101, 40, 118, 44, 32, 105, 41, 41, 32, 43, 32, 115, 105, 122, 101, 40, 100, 114, 111, 112, 40, 118, 44, 32, 105, 41, 41, 32, 61, 61, 32, 115, 105, 122, 101, 40, 118, 41], .agg [.int .i64 2, .int .i64 0, .str [], .fsl 1 false [.int .i64 0, .sym .i64 10, .str [], .nilsl]], .int .i64 4, .sym .i64 0]
def q1V28 : AV := .bool true
def q1A29 : List AV := [.str [115, 105, 122, 101, 40, 116, 97, 107, 101, 40, 118, 44, 32, 105, 41, 41, 32, 61, 61, 32, 109, 97, 120, 40, 48, 44, 32, 109, 105, 110, 40, 105, 44, 32, 115, 105, 122, 101, 40, 118, 41, 41, 41], .agg [.int .i64 2, .int .i64 0, .str [], .fsl 1 false [.int .i64 0, .sym .i64 10, .str [], .nilsl]], .int .i64 4, .sym .i64 0]
def q1V29 : AV := .bool true
def q1A30 : List AV := [.str [97, 116, 40, 118, 44, 32, 105, 41], .agg [.int .i64 2, .int .i64 0, .str [], .fsl 1 false [.int .i64 0, .sym .i64 10, .str [], .nilsl]], .int .i64 4, .sym .i64 0]
def q1V30 : AV := .tup [.agg [.int .i64 0, .int .i64 0, .str [], .nilsl], .int .i64 13]
def q1A31 : List AV := [.str [115, 101, 116, 40, 118, 44, 32, 105, 44, 32, 120, 41], .agg [.int .i64 2, .int .i64 0, .str [], .fsl 1 false [.int .i64 0, .sym .i64 10, .str [], .nilsl]], .int .i64 4, .sym .i64 0]
def q1V31 : AV := .tup [.agg [.int .i64 0, .int .i64 0, .str [], .nilsl], .int .i64 13]
def q1A32 : List AV := [.str [115, 105, 122, 101, 40, 116, 97, 107, 101, 40, 118, 44, 32, 105, 41, 41, 32, 43, 32, 115, 105, 122, 101, 40, 100, 114, 111, 112, 40, 118, 44, 32, 105, 41, 41, 32, 61, 61, 32, 115, 105, 122, 101, 40, 118, 41], .agg [.int .i64 2, .int .i64 0, .str [], .fsl 1 false [.int .i64 0, .sym .i64 10, .str [], .nilsl]], .int .i64 5, .sym .i64 0]
def q1V32 : AV := .bool true
def q1A33 : List AV := [.str [115, 105, 122, 101, 40, 116, 97, 107, 101, 40, 118, 44, 32, 105, 41, 41, 32, 61, 61, 32, 109, 97, 120, 40, 48, 44, 32, 109, 105, 110, 40, 105, 44, 32, 115, 105, 122, 101, 40, 118, 41, 41, 41], .agg [.int .i64 2, .int .i64 0, .str [], .fsl 1 false [.int .i64 0, .sym .i64 10, .str [], .nilsl]], .int .i64 5, .sym .i64 0]
def q1V33 : AV := .bool true
def q1A34 : List AV := [.str [97, 116, 40, 118, 44, 32, 105, 41], .agg [.int .i64 2, .int .i64 0, .str [], .fsl 1 false [.int .i64 0, .sym .i64 10, .str [], .nilsl]], .int .i64 5, .sym .i64 0]
def q1V34 : AV := .tup [.agg [.int .i64 0, .int .i64 0, .str [], .nilsl], .int .i64 13]
def q1A35 : List AV := [.str [115, 101, 116, 40, 118, 44, 32, 105, 44, 32, 120, 41], .agg [.int .i64 2, .int .i64 0, .str [], .fsl 1 false [.int .i64 0, .sym .i64 10, .str [], .nilsl]], .int .i64 5, .sym .i64 0]
def q1V35 : AV := .tup [.agg [.int .i64 0, .int .i64 0, .str [], .nilsl], .int .i64 13]
def q1A36 : List AV := [.str [115, 105, 122, 101, 40, 116, 97, 107, 101, 40, 118, 44, 32, 105, 41, 41, 32, 43, 32, 115, 105, 122, 101, 40, 100, 114, 111, 112, 40, 118, 44, 32, 105, 41, 41, 32, 61, 61, 32, 115, 105, 122, 101, 40, 118, 41], .agg [.int .i64 2, .int .i64 0, .str [], .fsl 1 false [.int .i64 0, .sym .i64 10, .str [], .nilsl]], .int .i64 6, .sym .i64 0]
def q1V36 : AV := .bool true
def q1A37 : List AV := [.str [115, 105, 122, 101, 40, 116, 97, 107, 101, 40, 118, 44, 32, 105, 41, 41, 32, 61, 61, 32, 109, 97, 120, 40, 48, 44, 32, 109, 105, 110, 40, 105, 44, 32, 115, 105, 122, 101, 40, 118, 41, 41, 41], .agg [.int .i64 2, .int .i64 0, .str [], .fsl 1 false [.int .i64 0, .sym .i64 10, .str [], .nilsl]], .int .i64 6, .sym .i64 0]
def q1V37 : AV := .bool true
def q1A38 : List AV := [.str [97, 116, 40, 118, 44, 32, 105, 41], .agg [.int .i64 2, .int .i64 0, .str [], .fsl 1 false [.int .i64 0, .sym .i64 10, .str [], .nilsl]], .int .i64 6, .sym .i64 0]
def q1V38 : AV := .tup [.agg [.int .i64 0, .int .i64 0, .str [], .nilsl], .int .i64 13]
def q1A39 : List AV := [.str [115, 101, 116, 40, 118, 44, 32, 105, 44, 32, 120, 41], .agg [.int .i64 2, .int .i64 0, .str [], .fsl 1 false [.int .i64 0, .sym .i64 10, .str [], .nilsl]], .int .i64 6, .sym .i64 0]
def q1V39 : AV := .tup [.agg [.int .i64 0, .int .i64 0, .str [], .nilsl], .int .i64 13]
noncomputable def q1T : List (Nat × List AV × AV) := [(6, q1A0, q1V0), (6, q1A1, q1V1), (6, q1A2, q1V2), (6, q1A3, q1V3), (7, q1A4, q1V4), (7, q1A5, q1V5), (6, q1A6, q1V6), (6, q1A7, q1V7), (7, q1A8, q1V8), (7, q1A9, q1V9), (6, q1A10, q1V10), (6, q1A11, q1V11), (7, q1A12, q1V12), (7, q1A13, q1V13), (6, q1A14, q1V14), (7, q1A15, q1V15), (6, q1A16, q1V16), (6, q1A17, q1V17), (7, q1A18, q1V18), (7, q1A19, q1V19), (6, q1A20, q1V20), (6, q1A21, q1V21), (7, q1A22, q1V22), (7, q1A23, q1V23), (6, q1A24, q1V24), (6, q1A25, q1V25), (7, q1A26, q1V26), (7, q1A27, q1V27), (6, q1A28, q1V28), (6, q1A29, q1V29), (7, q1A30, q1V30), (7, q1A31, q1V31), (6, q1A32, q1V32), (6, q1A33, q1V33), (7, q1A34, q1V34), (7, q1A35, q1V35), (6, q1A36, q1V36), (6, q1A37, q1V37), (7, q1A38, q1V38), (7, q1A39, q1V39)]
theorem q1C0 : AV.closeds q1A0 = true := by kernel_rfl
theorem q1G0 : gives (evalN envQ 1000 6 q1A0 ⟨0, .nil⟩) 40 q1V0 = true := by kernel_rfl
theorem q1C1 : AV.closeds q1A1 = true := by kernel_rfl
theorem q1G1 : gives (evalN envQ 1000 6 q1A1 ⟨0, .nil⟩) 40 q1V1 = true := by kernel_rfl
theorem q1C2 : AV.closeds q1A2 = true := by kernel_rfl
theorem q1G2 : gives (evalN envQ 1000 6 q1A2 ⟨0, .nil⟩) 40 q1V2 = true := by kernel_rfl
theorem q1C3 : AV.closeds q1A3 = true := by kernel_rfl
theorem q1G3 : gives (evalN envQ 1000 6 q1A3 ⟨0, .nil⟩) 40 q1V3 = true := by kernel_rfl
theorem q1C4 : AV.closeds q1A4 = true := by kernel_rfl
theorem q1G4 : gives (evalN envQ 1000 7 q1A4 ⟨0, .nil⟩) 40 q1V4 = true := by kernel_rfl
theorem q1C5 : AV.closeds q1A5 = true := by kernel_rfl
theorem q1G5 : gives (evalN envQ 1000 7 q1A5 ⟨0, .nil⟩) 40 q1V5 = true := by kernel_rfl
theorem q1C6 : AV.closeds q1A6 = true := by kernel_rfl
theorem q1G6 : gives (evalN envQ 1000 6 q1A6 ⟨0, .nil⟩) 40 q1V6 = true := by kernel_rfl
theorem q1C7 : AV.closeds q1A7 = true := by kernel_rfl
theorem q1G7 : gives (evalN envQ 1000 6 q1A7 ⟨0, .nil⟩) 40 q1V7 = true := by kernel_rfl
theorem q1C8 : AV.closeds q1A8 = true := by kernel_rfl
theorem q1G8 : gives (evalN envQ 1000 7 q1A8 ⟨0, .nil⟩) 40 q1V8 = true := by kernel_rfl
theorem q1C9 : AV.closeds q1A9 = true := by kernel_rfl
theorem q1G9 : gives (evalN envQ 1000 7 q1A9 ⟨0, .nil⟩) 40 q1V9 = true := by kernel_rfl
theorem q1C10 : AV.closeds q1A10 = true := by kernel_rfl
theorem q1G10 : gives (evalN envQ 1000 6 q1A10 ⟨0, .nil⟩) 40 q1V10 = true := by kernel_rfl
theorem q1C11 : AV.closeds q1A11 = true := by kernel_rfl
theorem q1G11 : gives (evalN envQ 1000 6 q1A11 ⟨0, .nil⟩) 40 q1V11 = true := by kernel_rfl
theorem q1C12 : AV.closeds q1A12 = true := by kernel_rfl
theorem q1G12 : gives (evalN envQ 1000 7 q1A12 ⟨0, .nil⟩) 40 q1V12 = true := by kernel_rfl
theorem q1C13 : AV.closeds q1A13 = true := by kernel_rfl
theorem q1G13 : gives (evalN envQ 1000 7 q1A13 ⟨0, .nil⟩) 40 q1V13 = true := by kernel_rfl
theorem q1C14 : AV.closeds q1A14 = true := by kernel_rfl
theorem q1G14 : gives (evalN envQ 1000 6 q1A14 ⟨0, .nil⟩) 40 q1V14 = true := by kernel_rfl
theorem q1C15 : AV.closeds q1A15 = true := by kernel_rfl
theorem q1G15 : gives (evalN envQ 1000 7 q1A15 ⟨0, .nil⟩) 40 q1V15 = true := by kernel_rfl
theorem q1C16 : AV.closeds q1A16 = true := by kernel_rfl
theorem q1G16 : gives (evalN envQ 1000 6 q1A16 ⟨0, .nil⟩) 40 q1V16 = true := by kernel_rfl
theorem q1C17 : AV.closeds q1A17 = true := by kernel_rfl
theorem q1G17 : gives (evalN envQ 1000 6 q1A17 ⟨0, .nil⟩) 40 q1V17 = true := by kernel_rfl
theorem q1C18 : AV.closeds q1A18 = true := by kernel_rfl
theorem q1G18 : gives (evalN envQ 1000 7 q1A18 ⟨0, .nil⟩) 40 q1V18 = true := by kernel_rfl
theorem q1C19 : AV.closeds q1A19 = true := by kernel_rfl
theorem q1G19 : gives (evalN envQ 1000 7 q1A19 ⟨0, .nil⟩) 40 q1V19 = true := by kernel_rfl
theorem q1C20 : AV.closeds q1A20 = true := by kernel_rfl
theorem q1G20 : gives (evalN envQ 1000 6 q1A20 ⟨0, .nil⟩) 40 q1V20 = true := by kernel_rfl
theorem q1C21 : AV.closeds q1A21 = true := by kernel_rfl
theorem q1G21 : gives (evalN envQ 1000 6 q1A21 ⟨0, .nil⟩) 40 q1V21 = true := by kernel_rfl
theorem q1C22 : AV.closeds q1A22 = true := by kernel_rfl
theorem q1G22 : gives (evalN envQ 1000 7 q1A22 ⟨0, .nil⟩) 40 q1V22 = true := by kernel_rfl
theorem q1C23 : AV.closeds q1A23 = true := by kernel_rfl
theorem q1G23 : gives (evalN envQ 1000 7 q1A23 ⟨0, .nil⟩) 40 q1V23 = true := by kernel_rfl
theorem q1C24 : AV.closeds q1A24 = true := by kernel_rfl
theorem q1G24 : gives (evalN envQ 1000 6 q1A24 ⟨0, .nil⟩) 40 q1V24 = true := by kernel_rfl
theorem q1C25 : AV.closeds q1A25 = true := by kernel_rfl
theorem q1G25 : gives (evalN envQ 1000 6 q1A25 ⟨0, .nil⟩) 40 q1V25 = true := by kernel_rfl
theorem q1C26 : AV.closeds q1A26 = true := by kernel_rfl
theorem q1G26 : gives (evalN envQ 1000 7 q1A26 ⟨0, .nil⟩) 40 q1V26 = true := by kernel_rfl
theorem q1C27 : AV.closeds q1A27 = true := by kernel_rfl
theorem q1G27 : gives (evalN envQ 1000 7 q1A27 ⟨0, .nil⟩) 40 q1V27 = true := by kernel_rfl
theorem q1C28 : AV.closeds q1A28 = true := by kernel_rfl
theorem q1G28 : gives (evalN envQ 1000 6 q1A28 ⟨0, .nil⟩) 40 q1V28 = true := by kernel_rfl
theorem q1C29 : AV.closeds q1A29 = true := by kernel_rfl
theorem q1G29 : gives (evalN envQ 1000 6 q1A29 ⟨0, .nil⟩) 40 q1V29 = true := by kernel_rfl
theorem q1C30 : AV.closeds q1A30 = true := by kernel_rfl
theorem q1G30 : gives (evalN envQ 1000 7 q1A30 ⟨0, .nil⟩) 40 q1V30 = true := by kernel_rfl
theorem q1C31 : AV.closeds q1A31 = true := by kernel_rfl
theorem q1G31 : gives (evalN envQ 1000 7 q1A31 ⟨0, .nil⟩) 40 q1V31 = true := by kernel_rfl
theorem q1C32 : AV.closeds q1A32 = true := by kernel_rfl
theorem q1G32 : gives (evalN envQ 1000 6 q1A32 ⟨0, .nil⟩) 40 q1V32 = true := by kernel_rfl
theorem q1C33 : AV.closeds q1A33 = true := by kernel_rfl
theorem q1G33 : gives (evalN envQ 1000 6 q1A33 ⟨0, .nil⟩) 40 q1V33 = true := by kernel_rfl
theorem q1C34 : AV.closeds q1A34 = true := by kernel_rfl
theorem q1G34 : gives (evalN envQ 1000 7 q1A34 ⟨0, .nil⟩) 40 q1V34 = true := by kernel_rfl
theorem q1C35 : AV.closeds q1A35 = true := by kernel_rfl
theorem q1G35 : gives (evalN envQ 1000 7 q1A35 ⟨0, .nil⟩) 40 q1V35 = true := by kernel_rfl
theorem q1C36 : AV.closeds q1A36 = true := by kernel_rfl
theorem q1G36 : gives (evalN envQ 1000 6 q1A36 ⟨0, .nil⟩) 40 q1V36 = true := by kernel_rfl
theorem q1C37 : AV.closeds q1A37 = true := by kernel_rfl
theorem q1G37 : gives (evalN envQ 1000 6 q1A37 ⟨0, .nil⟩) 40 q1V37 = true := by kernel_rfl
theorem q1C38 : AV.closeds q1A38 = true := by kernel_rfl
theorem q1G38 : gives (evalN envQ 1000 7 q1A38 ⟨0, .nil⟩) 40 q1V38 = true := by kernel_rfl
theorem q1C39 : AV.closeds q1A39 = true := by kernel_rfl
theorem q1G39 : gives (evalN envQ 1000 7 q1A39 ⟨0, .nil⟩) 40 q1V39 = true := by kernel_rfl
end Rfx.RfxEnvB
