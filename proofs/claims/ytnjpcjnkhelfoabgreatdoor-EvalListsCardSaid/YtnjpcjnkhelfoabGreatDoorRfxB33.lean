/- The texts evaluated with a list of 3 numbers. -/
import Derived.Test.YtnjpcjnkhelfoabGreatDoorRfxB1t
set_option linter.unusedSectionVars false
set_option linter.unusedVariables false
set_option linter.unusedSimpArgs false
set_option linter.unnecessarySimpa false
namespace Rfx.RfxEnvB
set_option maxRecDepth 20000
open Go Go.Proofs

def q3A0 : List AV := [.str [97, 116, 40, 112, 117, 115, 104, 40, 118, 44, 32, 120, 41, 44, 32, 115, 105, 122, 101, 40, 118, 41, 41, 32, 61, 61, 32, 120], .agg [.int .i64 2, .int .i64 0, .str [], .fsl 3 false [.int .i64 0, .sym .i64 10, .str [], .nilsl, .int .i64 0, .sym .i64 11, .str [], .nilsl, .int .i64 0, .sym .i64 12, .str [], .nilsl]], .sym .i64 2, .sym .i64 0]
def q3V0 : AV := .bool true
def q3A1 : List AV := [.str [116, 97, 107, 101, 40, 112, 117, 115, 104, 40, 118, 44, 32, 120, 41, 44, 32, 115, 105, 122, 101, 40, 118, 41, 41, 32, 61, 61, 32, 118], .agg [.int .i64 2, .int .i64 0, .str [], .fsl 3 false [.int .i64 0, .sym .i64 10, .str [], .nilsl, .int .i64 0, .sym .i64 11, .str [], .nilsl, .int .i64 0, .sym .i64 12, .str [], .nilsl]], .sym .i64 2, .sym .i64 0]
def q3V1 : AV := .bool true
def q3A2 : List AV := [.str [115, 105, 122, 101, 40, 116, 97, 107, 101, 40, 118, 44, 32, 105, 41, 41, 32, 43, 32, 115, 105, 122, 101, 40, 100, 114, 111, 112, 40, 118, 44, 32, 105, 41, 41, 32, 61, 61, 32, 115, 105, 122, 101, 40, 118, 41], .agg [.int .i64 2, .int .i64 0, .str [], .fsl 3 false [.int .i64 0, .sym .i64 10, .str [], .nilsl, .int .i64 0, .sym .i64 11, .str [], .nilsl, .int .i64 0, .sym .i64 12, .str [], .nilsl]], .int .i64 (-2), .sym .i64 0]
def q3V2 : AV := .bool true
def q3A3 : List AV := [.str [115, 105, 122, 101, 40, 116, 97, 107, 101, 40, 118, 44, 32, 105, 41, 41, 32, 61, 61, 32, 109, 97, 120, 40, 48, 44, 32, 109, 105, 110, 40, 105, 44, 32, 115, 105, 122, 101, 40, 118, 41, 41, 41], .agg [.int .i64 2, .int .i64 0, .str [], .fsl 3 false [.int .i64 0, .sym .i64 10, .str [], .nilsl, .int .i64 0, .sym .i64 11, .str [], .nilsl, .int .i64 0, .sym .i64 12, .str [], .nilsl]], .int .i64 (-2), .sym .i64 0]
def q3V3 : AV := .bool true
def q3A4 : List AV := [.str [97, 116, 40, 118, 44, 32, 105, 41], .agg [.int .i64 2, .int .i64 0, .str [], .fsl 3 false [.int .i64 0, .sym .i64 10, .str [], .nilsl, .int .i64 0, .sym .i64 11, .str [], .nilsl, .int .i64 0, .sym .i64 12, .str [], .nilsl]], .int .i64 (-2), .sym .i64 0]
def q3V4 : AV := .tup [.agg [.int .i64 0, .int .i64 0, .str [], .nilsl], .int .i64 13]
def q3A5 : List AV := [.str [115, 101, 116, 40, 118, 44, 32, 105, 44, 32, 120, 41], .agg [.int .i64 2, .int .i64 0, .str [], .fsl 3 false [.int .i64 0, .sym .i64 10, .str [], .nilsl, .int .i64 0, .sym .i64 11, .str [], .nilsl, .int .i64 0, .sym .i64 12, .str [], .nilsl]], .int .i64 (-2), .sym .i64 0]
def q3V5 : AV := .tup [.agg [.int .i64 0, .int .i64 0, .str [], .nilsl], .int .i64 13]
def q3A6 : List AV := [.str [115, 105, 122, 101, 40, 116, 97, 107, 101, 40, 118, 44, 32, 105, 41, 41, 32, 43, 32, 115, 105, 122, 101, 40, 100, 114, 111, 112, 40, 118, 44, 32, 105, 41, 41, 32, 61, 61, 32, 115, 105, 122, 101, 40, 118, 41], .agg [.int .i64 2, .int .i64 0, .str [], .fsl 3 false [.int .i64 0, .sym .i64 10, .str [], .nilsl, .int .i64 0, .sym .i64 11, .str [], .nilsl, .int .i64 0, .sym .i64 12, .str [], .nilsl]], .int .i64 (-1), .sym .i64 0]
def q3V6 : AV := .bool true
def q3A7 : List AV := [.str [115, 105, 122, 101, 40, 116, 97, 107, 101, 40, 118, 44, 32, 105, 41, 41, 32, 61, 61, 32, 109, 97, 120, 40, 48, 44, 32, 109, 105, 110, 40, 105, 44, 32, 115, 105, 122, 101, 40, 118, 41, 41, 41], .agg [.int .i64 2, .int .i64 0, .str [], .fsl 3 false [.int .i64 0, .sym .i64 10, .str [], .nilsl, .int .i64 0, .sym .i64 11, .str [], .nilsl, .int .i64 0, .sym .i64 12, .str [], .nilsl]], .int .i64 (-1), .sym .i64 0]
def q3V7 : AV := .bool true
def q3A8 : List AV := [.str [97, 116, 40, 118, 44, 32, 105, 41], .agg [.int .i64 2, .int .i64 0, .str [], .fsl 3 false [.int .i64 0, .sym .i64 10, .str [], .nilsl, .int .i64 0, .sym .i64 11, .str [], .nilsl, .int .i64 0, .sym .i64 12, .str [], .nilsl]], .int .i64 (-1), .sym .i64 0]
def q3V8 : AV := .tup [.agg [.int .i64 0, .int .i64 0, .str [], .nilsl], .int .i64 13]
def q3A9 : List AV := [.str [115, 101, 116, 40, 118, 44, 32, 105, 44, 32, 120, 41], .agg [.int .i64 2, .int .i64 0, .str [], .fsl 3 false [.int .i64 0, .sym .i64 10, .str [], .nilsl, .int .i64 0, .sym .i64 11, .str [], .nilsl, .int .i64 0, .sym .i64 12, .str [], .nilsl]], .int .i64 (-1), .sym .i64 0]
def q3V9 : AV := .tup [.agg [.int .i64 0, .int .i64 0, .str [], .nilsl], .int .i64 13]
def q3A10 : List AV := [.str [115, 105, 122, 101, 40, 116, 97, 107, 101, 40, 118, 44, 32, 105, 41, 41, 32, 43, 32, 115, 105, 122, 101, 40, 100, 114, 111, 112, 40, 118, 44, 32, 105, 41, 41, 32, 61, 61, 32, 115, 105, 122, 101, 40, 118, 41], .agg [.int .i64 2, .int .i64 0, .str [], .fsl 3 false [.int .i64 0, .sym .i64 10, .str [], .nilsl, .int .i64 0, .sym .i64 11, .str [], .nilsl, .int .i64 0, .sym .i64 12, .str [], .nilsl]], .int .i64 0, .sym .i64 0]
def q3V10 : AV := .bool true
def q3A11 : List AV := [.str [115, 105, 122, 101, 40, 116, 97, 107, 101, 40, 118, 44, 32, 105, 41, 41, 32, 61, 61, 32, 109, 97, 120, 40, 48, 44, 32, 109, 105, 110, 40, 105, 44, 32, 115, 105, 122, 101, 40, 118, 41, 41, 41], .agg [.int .i64 2, .int .i64 0, .str [], .fsl 3 false [.int .i64 0, .sym .i64 10, .str [], .nilsl, .int .i64 0, .sym .i64 11, .str [], .nilsl, .int .i64 0, .sym .i64 12, .str [], .nilsl]], .int .i64 0, .sym .i64 0]
def q3V11 : AV := .bool true
def q3A12 : List AV := [.str [97, 116, 40, 118, 44, 32, 105, 41], .agg [.int .i64 2, .int .i64 0, .str [], .fsl 3 false [.int .i64 0, .sym .i64 10, .str [], .nilsl, .int .i64 0, .sym .i64 11, .str [], .nilsl, .int .i64 0, .sym .i64 12, .str [], .nilsl]], .int .i64 0, .sym .i64 0]
def q3V12 : AV := .tup [.agg [.int .i64 0, .sym .i64 10, .str [], .nilsl], .int .i64 0]
def q3A13 : List AV := [.str [115, 101, 116, 40, 118, 44, 32, 105, 44, 32, 120, 41], .agg [.int .i64 2, .int .i64 0, .str [], .fsl 3 false [.int .i64 0, .sym .i64 10, .str [], .nilsl, .int .i64 0, .sym .i64 11, .str [], .nilsl, .int .i64 0, .sym .i64 12, .str [], .nilsl]], .int .i64 0, .sym .i64 0]
def q3V13 : AV := .tup [.agg [.int .i64 2, .int .i64 0, .str [], .fsl 3 false [.int .i64 0, .sym .i64 0, .str [], .nilsl, .int .i64 0, .sym .i64 11, .str [], .nilsl, .int .i64 0, .sym .i64 12, .str [], .nilsl]], .int .i64 0]
def q3A14 : List AV := [.str [97, 116, 40, 115, 101, 116, 40, 118, 44, 32, 105, 44, 32, 120, 41, 44, 32, 105, 41, 32, 61, 61, 32, 120, 32, 97, 110, 100, 32, 97, 116, 40, 116, 97, 107, 101, 40, 118, 44, 32, 105, 32, 43, 32, 49, 41, 44, 32, 105, 41, 32, 61, 61, 32, 97, 116, 40, 118, 44, 32, 105, 41, 32, 97, 110, 100, 32, 97, 116, 40, 100, 114, 111, 112, 40, 118, 44, 32, 105, 41, 44, 32, 48, 41, 32, 61, 61, 32, 97, 116, 40, 118, 44, 32, 105, 41], .agg [.int .i64 2, .int .i64 0, .str [], .fsl 3 false [.int .i64 0, .sym .i64 10, .str [], .nilsl, .int .i64 0, .sym .i64 11, .str [], .nilsl, .int .i64 0, .sym .i64 12, .str [], .nilsl]], .int .i64 0, .sym .i64 0]
def q3V14 : AV := .bool true
def q3A15 : List AV := [.str [97, 116, 40, 115, 101, 116, 40, 118, 44, 32, 105, 44, 32, 120, 41, 44, 32, 48, 41], .agg [.int .i64 2, .int .i64 0, .str [], .fsl 3 false [.int .i64 0, .sym .i64 10, .str [], .nilsl, .int .i64 0, .sym .i64 11, .str [], .nilsl, .int .i64 0, .sym .i64 12, .str [], .nilsl]], .int .i64 0, .sym .i64 0]
def q3V15 : AV := .tup [.agg [.int .i64 0, .sym .i64 0, .str [], .nilsl], .int .i64 0]
def q3A16 : List AV := [.str [97, 116, 40, 115, 101, 116, 40, 118, 44, 32, 105, 44, 32, 120, 41, 44, 32, 49, 41], .agg [.int .i64 2, .int .i64 0, .str [], .fsl 3 false [.int .i64 0, .sym .i64 10, .str [], .nilsl, .int .i64 0, .sym .i64 11, .str [], .nilsl, .int .i64 0, .sym .i64 12, .str [], .nilsl]], .int .i64 0, .sym .i64 0]
def q3V16 : AV := .tup [.agg [.int .i64 0, .sym .i64 11, .str [], .nilsl], .int .i64 0]
def q3A17 : List AV := [.str [97, 116, 40, 115, 101, 116, 40, 118, 44, 32, 105, 44, 32, 120, 41, 44, 32, 50, 41], .agg [.int .i64 2, .int .i64 0, .str [], .fsl 3 false [.int .i64 0, .sym .i64 10, .str [], .nilsl, .int .i64 0, .sym .i64 11, .str [], .nilsl, .int .i64 0, .sym .i64 12, .str [], .nilsl]], .int .i64 0, .sym .i64 0]
def q3V17 : AV := .tup [.agg [.int .i64 0, .sym .i64 12, .str [], .nilsl], .int .i64 0]
def q3A18 : List AV := [.str [115, 105, 122, 101, 40, 116, 97, 107, 101, 40, 118, 44, 32, 105, 41, 41, 32, 43, 32, 115, 105, 122, 101, 40, 100, 114, 111, 112, 40, 118, 44, 32, 105, 41, 41, 32, 61, 61, 32, 115, 105, 122, 101, 40, 118, 41], .agg [.int .i64 2, .int .i64 0, .str [], .fsl 3 false [.int .i64 0, .sym .i64 10, .str [], .nilsl, .int .i64 0, .sym .i64 11, .str [], .nilsl, .int .i64 0, .sym .i64 12, .str [], .nilsl]], .int .i64 1, .sym .i64 0]
def q3V18 : AV := .bool true
def q3A19 : List AV := [.str [115, 105, 122, 101, 40, 116, 97, 107, 101, 40, 118, 44, 32, 105, 41, 41, 32, 61, 61, 32, 109, 97, 120, 40, 48, 44, 32, 109, 105, 110, 40, 105, 44, 32, 115, 105, 122, 101, 40, 118, 41, 41, 41], .agg [.int .i64 2, .int .i64 0, .str [], .fsl 3 false [.int .i64 0, .sym .i64 10, .str [], .nilsl, .int .i64 0, .sym .i64 11, .str [], .nilsl, .int .i64 0, .sym .i64 12, .str [], .nilsl]], .int .i64 1, .sym .i64 0]
def q3V19 : AV := .bool true
def q3A20 : List AV := [.str [97, 116, 40, 118, 44, 32, 105, 41], .agg [.int .i64 2, .int .i64 0, .str [], .fsl 3 false [.int .i64 0, .sym .i64 10, .str [], .nilsl, .int .i64 0, .sym .i64 11, .str [], .nilsl, .int .i64 0, .sym .i64 12, .str [], .nilsl]], .int .i64 1, .sym .i64 0]
def q3V20 : AV := .tup [.agg [.int .i64 0, .sym .i64 11, .str [], .nilsl], .int .i64 0]
def q3A21 : List AV := [.str [115, 101, 116, 40, 118, 44, 32, 105, 44, 32, 120, 41], .agg [.int .i64 2, .int .i64 0, .str [], .fsl 3 false [.int .i64 0, .sym .i64 10, .str [], .nilsl, .int .i64 0, .sym .i64 11, .str [], .nilsl, .int .i64 0, .sym .i64 12, .str [], .nilsl]], .int .i64 1, .sym .i64 0]
def q3V21 : AV := .tup [.agg [.int .i64 2, .int .i64 0, .str [], .fsl 3 false [.int .i64 0, .sym .i64 10, .str [], .nilsl, .int .i64 0, .sym .i64 0, .str [], .nilsl, .int .i64 0, .sym .i64 12, .str [], .nilsl]], .int .i64 0]
def q3A22 : List AV := [.str [97, 116, 40, 115, 101, 116, 40, 118, 44, 32, 105, 44, 32, 120, 41, 44, 32, 105, 41, 32, 61, 61, 32, 120, 32, 97, 110, 100, 32, 97, 116, 40, 116, 97, 107, 101, 40, 118, 44, 32, 105, 32, 43, 32, 49, 41, 44, 32, 105, 41, 32, 61, 61, 32, 97, 116, 40, 118, 44, 32, 105, 41, 32, 97, 110, 100, 32, 97, 116, 40, 100, 114, 111, 112, 40, 118, 44, 32, 105, 41, 44, 32, 48, 41, 32, 61, 61, 32, 97, 116, 40, 118, 44, 32, 105, 41], .agg [.int .i64 2, .int .i64 0, .str [], .fsl 3 false [.int .i64 0, .sym .i64 10, .str [], .nilsl, .int .i64 0, .sym .i64 11, .str [], .nilsl, .int .i64 0, .sym .i64 12, .str [], .nilsl]], .int .i64 1, .sym .i64 0]
def q3V22 : AV := .bool true
def q3A23 : List AV := [.str [97, 116, 40, 115, 101, 116, 40, 118, 44, 32, 105, 44, 32, 120, 41, 44, 32, 48, 41], .agg [.int .i64 2, .int .i64 0, .str [], .fsl 3 false [.int .i64 0, .sym .i64 10, .str [], .nilsl, .int .i64 0, .sym .i64 11, .str [], .nilsl, .int .i64 0, .sym .i64 12, .str [], .nilsl]], .int .i64 1, .sym .i64 0]
def q3V23 : AV := .tup [.agg [.int .i64 0, .sym .i64 10, .str [], .nilsl], .int .i64 0]
def q3A24 : List AV := [.str [97, 116, 40, 115, 101, 116, 40, 118, 44, 32, 105, 44, 32, 120, 41, 44, 32, 49, 41], .agg [.int .i64 2, .int .i64 0, .str [], .fsl 3 false [.int .i64 0, .sym .i64 10, .str [], .nilsl, .int .i64 0, .sym .i64 11, .str [], .nilsl, .int .i64 0, .sym .i64 12, .str [], .nilsl]], .int .i64 1, .sym .i64 0]
def q3V24 : AV := .tup [.agg [.int .i64 0, .sym .i64 0, .str [], .nilsl], .int .i64 0]
def q3A25 : List AV := [.str [97, 116, 40, 115, 101, 116, 40, 118, 44, 32, 105, 44, 32, 120, 41, 44, 32, 50, 41], .agg [.int .i64 2, .int .i64 0, .str [], .fsl 3 false [.int .i64 0, .sym .i64 10, .str [], .nilsl, .int .i64 0, .sym .i64 11, .str [], .nilsl, .int .i64 0, .sym .i64 12, .str [], .nilsl]], .int .i64 1, .sym .i64 0]
def q3V25 : AV := .tup [.agg [.int .i64 0, .sym .i64 12, .str [], .nilsl], .int .i64 0]
def q3A26 : List AV := [.str [115, 105, 122, 101, 40, 116, 97, 107, 101, 40, 118, 44, 32, 105, 41, 41, 32, 43, 32, 115, 105, 122, 101, 40, 100, 114, 111, 112, 40, 118, 44, 32, 105, 41, 41, 32, 61, 61, 32, 115, 105, 122, 101, 40, 118, 41], .agg [.int .i64 2, .int .i64 0, .str [], .fsl 3 false [.int .i64 0, .sym .i64 10, .str [], .nilsl, .int .i64 0, .sym .i64 11, .str [], .nilsl, .int .i64 0, .sym .i64 12, .str [], .nilsl]], .int .i64 2, .sym .i64 0]
def q3V26 : AV := .bool true
def q3A27 : List AV := [.str [115, 105, 122, 101, 40, 116, 97, 107, 101, 40, 118, 44, 32, 105, 41, 41, 32, 61, 61, 32, 109, 97, 120, 40, 48, 44, 32, 109, 105, 110, 40, 105, 44, 32, 115, 105, 122, 101, 40, 118, 41, 41, 41], .agg [.int .i64 2, .int .i64 0, .str [], .fsl 3 false [.int .i64 0, .sym .i64 10, .str [], .nilsl, .int .i64 0, .sym .i64 11, .str [], .nilsl, .int .i64 0, .sym .i64 12, .str [], .nilsl]], .int .i64 2, .sym .i64 0]
def q3V27 : AV := .bool true
def q3A28 : List AV := [.str [97, 116, 40, 118, 44, 32, 105, 41], .agg [.int .i64 2, .int .i64 0, .str [], .fsl 3 false [.int .i64 0, .sym .i64 10, .str [], .nilsl, .int .i64 0, .sym .i64 11, .str [], .nilsl, .int .i64 0, .sym .i64 12, .str [], .nilsl]], .int .i64 2, .sym .i64 0]
def q3V28 : AV := .tup [.agg [.int .i64 0, .sym .i64 12, .str [], .nilsl], .int .i64 0]
def q3A29 : List AV := [.str [115, 101, 116, 40, 118, 44, 32, 105, 44, 32, 120, 41], .agg [.int .i64 2, .int .i64 0, .str [], .fsl 3 false [.int .i64 0, .sym .i64 10, .str [], .nilsl, .int .i64 0, .sym .i64 11, .str [], .nilsl, .int .i64 0, .sym .i64 12, .str [], .nilsl]], .int .i64 2, .sym .i64 0]
def q3V29 : AV := .tup [.agg [.int .i64 2, .int .i64 0, .str [], .fsl 3 false [.int .i64 0, .sym .i64 10, .str [], .nilsl, .int .i64 0, .sym .i64 11, .str [], .nilsl, .int .i64 0, .sym .i64 0, .str [], .nilsl]], .int .i64 0]
def q3A30 : List AV := [.str [97, 116, 40, 115, 101, 116, 40, 118, 44, 32, 105, 44, 32, 120, 41, 44, 32, 105, 41, 32, 61, 61, 32, 120, 32, 97, 110, 100, 32, 97, 116, 40, 116, 97, 107, 101, 40, 118, 44, 32, 105, 32, 43, 32, 49, 41, 44, 32, 105, 41, 32, 61, 61, 32, 97, 116, 40, 118, 44, 32, 105, 41, 32, 97, 110, 100, 32, 97, 116, 40, 100, 114, 111, 112, 40, 118, 44, 32, 105, 41, 44, 32, 48, 41, 32, 61, 61, 32, 97, 116, 40, 118, 44, 32, 105, 41], .agg [.int .i64 2, .int .i64 0, .str [], .fsl 3 false [.int .i64 0, .sym .i64 10, .str [], .nilsl, .int .i64 0, .sym .i64 11, .str [], .nilsl, .int .i64 0, .sym .i64 12, .str [], .nilsl]], .int .i64 2, .sym .i64 0]
def q3V30 : AV := .bool true
def q3A31 : List AV := [.str [97, 116, 40, 115, 101, 116, 40, 118, 44, 32, 105, 44, 32, 120, 41, 44, 32, 48, 41], .agg [.int .i64 2, .int .i64 0, .str [], .fsl 3 false [.int .i64 0, .sym .i64 10, .str [], .nilsl, .int .i64 0, .sym .i64 11, .str [], .nilsl, .int .i64 0, .sym .i64 12, .str [], .nilsl]], .int .i64 2, .sym .i64 0]
def q3V31 : AV := .tup [.agg [.int .i64 0, .sym .i64 10, .str [], .nilsl], .int .i64 0]
def q3A32 : List AV := [.str [97, 116, 40, 115, 101, 116, 40, 118, 44, 32, 105, 44, 32, 120, 41, 44, 32, 49, 41], .agg [.int .i64 2, .int .i64 0, .str [], .fsl 3 false [.int .i64 0, .sym .i64 10, .str [], .nilsl, .int .i64 0, .sym .i64 11, .str [], .nilsl, .int .i64 0, .sym .i64 12, .str [], .nilsl]], .int .i64 2, .sym .i64 0]
def q3V32 : AV := .tup [.agg [.int .i64 0, .sym .i64 11, .str [], .nilsl], .int .i64 0]
def q3A33 : List AV := [.str [97, 116, 40, 115, 101, 116, 40, 118, 44, 32, 105, 44, 32, 120, 41, 44, 32, 50, 41], .agg [.int .i64 2, .int .i64 0, .str [], .fsl 3 false [.int .i64 0, .sym .i64 10, .str [], .nilsl, .int .i64 0, .sym .i64 11, .str [], .nilsl, .int .i64 0, .sym .i64 12, .str [], .nilsl]], .int .i64 2, .sym .i64 0]
def q3V33 : AV := .tup [.agg [.int .i64 0, .sym .i64 0, .str [], .nilsl], .int .i64 0]
def q3A34 : List AV := [.str [115, 105, 122, 101, 40, 116, 97, 107, 101, 40, 118, 44, 32, 105, 41, 41, 32, 43, 32, 115, 105, 122, 101, 40, 100, 114, 111, 112, 40, 118, 44, 32, 105, 41, 41, 32, 61, 61, 32, 115, 105, 122, 101, 40, 118, 41], .agg [.int .i64 2, .int .i64 0, .str [], .fsl 3 false [.int .i64 0, .sym .i64 10, .str [], .nilsl, .int .i64 0, .sym .i64 11, .str [], .nilsl, .int .i64 0, .sym .i64 12, .str [], .nilsl]], .int .i64 3, .sym .i64 0]
def q3V34 : AV := .bool true
def q3A35 : List AV := [.str [115, 105, 122, 101, 40, 116, 97, 107, 101, 40, 118, 44, 32, 105, 41, 41, 32, 61, 61, 32, 109, 97, 120, 40, 48, 44, 32, 109, 105, 110, 40, 105, 44, 32, 115, 105, 122, 101, 40, 118, 41, 41, 41], .agg [.int .i64 2, .int .i64 0, .str [], .fsl 3 false [.int .i64 0, .sym .i64 10, .str [], .nilsl, .int .i64 0, .sym .i64 11, .str [], .nilsl, .int .i64 0, .sym .i64 12, .str [], .nilsl]], .int .i64 3, .sym .i64 0]
def q3V35 : AV := .bool true
def q3A36 : List AV := [.str [97, 116, 40, 118, 44, 32, 105, 41], .agg [.int .i64 2, .int .i64 0, .str [], .fsl 3 false [.int .i64 0, .sym .i64 10, .str [], .nilsl, .int .i64 0, .sym .i64 11, .str [], .nilsl, .int .i64 0, .sym .i64 12, .str [], .nilsl]], .int .i64 3, .sym .i64 0]
def q3V36 : AV := .tup [.agg [.int .i64 0, .int .i64 0, .str [], .nilsl], .int .i64 13]
def q3A37 : List AV := [.str [115, 101, 116, 40, 118, 44, 32, 105, 44, 32, 120, 41], .agg [.int .i64 2, .int .i64 0, .str [], .fsl 3 false [.int .i64 0, .sym .i64 10, .str [], .nilsl, .int .i64 0, .sym .i64 11, .str [], .nilsl, .int .i64 0, .sym .i64 12, .str [], .nilsl]], .int .i64 3, .sym .i64 0]
def q3V37 : AV := .tup [.agg [.int .i64 0, .int .i64 0, .str [], .nilsl], .int .i64 13]
def q3A38 : List AV := [.str [115, 105, 122, 101, 40, 116, 97, 107, 101, 40, 118, 44, 32, 105, 41, 41, 32, 43, 32, 115, 105, 122, 101, 40, 100, 114, 111, 112, 40, 118, 44, 32, 105, 41, 41, 32, 61, 61, 32, 115, 105, 122, 101, 40, 118, 41], .agg [.int .i64 2, .int .i64 0, .str [], .fsl 3 false [.int .i64 0, .sym .i64 10, .str [], .nilsl, .int .i64 0, .sym .i64 11, .str [], .nilsl, .int .i64 0, .sym .i64 12, .str [], .nilsl]], .int .i64 4, .sym .i64 0]
def q3V38 : AV := .bool true
def q3A39 : List AV := [.str [115, 105, 122, 101, 40, 116, 97, 107, 101, 40, 118, 44, 32, 105, 41, 41, 32, 61, 61, 32, 109, 97, 120, 40, 48, 44, 32, 109, 105, 110, 40, 105, 44, 32, 115, 105, 122, 101, 40, 118, 41, 41, 41], .agg [.int .i64 2, .int .i64 0, .str [], .fsl 3 false [.int .i64 0, .sym .i64 10, .str [], .nilsl, .int .i64 0, .sym .i64 11, .str [], .nilsl, .int .i64 0, .sym .i64 12, .str [], .nilsl]], .int .i64 4, .sym .i64 0]
def q3V39 : AV := .bool true
def q3A40 : List AV := [.str [97, 116, 40, 118, 44, 32, 105, 41], .agg [.int .i64 2, .int .i64 0, .str [], .fsl 3 false [.int .i64 0, .sym .i64 10, .str [], .nilsl, .int .i64 0, .sym .i64 11, .str [], .nilsl, .int .i64 0, .sym .i64 12, .str [], .nilsl]], .int .i64 4, .sym .i64 0]
def q3V40 : AV := .tup [.agg [.int .i64 0, .int .i64 0, .str [], .nilsl], .int .i64 13]
def q3A41 : List AV := [.str [115, 101, 116, 40, 118, 44, 32, 105, 44, 32, 120, 41], .agg [.int .i64 2, .int .i64 0, .str [], .fsl 3 false [.int .i64 0, .sym .i64 10, .str [], .nilsl, .int .i64 0, .sym .i64 11, .str [], .nilsl, .int .i64 0, .sym .i64 12, .str [], .nilsl]], .int .i64 4, .sym .i64 0]
def q3V41 : AV := .tup [.agg [.int .i64 0, .int .i64 0, .str [], .nilsl], .int .i64 13]
def q3A42 : List AV := [.str [115, 105, 122, 101, 40, 116, 97, 107, 101, 40, 118, 44, 32, 105, 41, 41, 32, 43, 32, 115, 105, 122, 101, 40, 100, 114, 111, 112, 40, 118, 44, 32, 105, 41, 41, 32, 61, 61, 32, 115, 105, 122, 101, 40, 118, 41], .agg [.int .i64 2, .int .i64 0, .str [], .fsl 3 false [.int .i64 0, .sym .i64 10, .str [], .nilsl, .int .i64 0, .sym .i64 11, .str [], .nilsl, .int .i64 0, .sym .i64 12, .str [], .nilsl]], .int .i64 5, .sym .i64 0]
def q3V42 : AV := .bool true
def q3A43 : List AV := [.str [115, 105, 122, 101, 40, 116, 97, 107, 101, 40, 118, 44, 32, 105, 41, 41, 32, 61, 61, 32, 109, 97, 120, 40, 48, 44, 32, 109, 105, 110, 40, 105, 44, 32, 115, 105, 122, 101, 40, 118, 41, 41, 41], .agg [.int .i64 2, .int .i64 0, .str [], .fsl 3 false [.int .i64 0, .sym .i64 10, .str [], .nilsl, .int .i64 0, .sym .i64 11, .str [], .nilsl, .int .i64 0, .sym .i64 12, .str [], .nilsl]], .int .i64 5, .sym .i64 0]
def q3V43 : AV := .bool true
def q3A44 : List AV := [.str [97, 116, 40, 118, 44, 32, 105, 41], .agg [.int .i64 2, .int .i64 0, .str [], .fsl 3 false [.int .i64 0, .sym .i64 10, .str [], .nilsl, .int .i64 0, .sym .i64 11, .str [], .nilsl, .int .i64 0, .sym .i64 12, .str [], .nilsl]], .int .i64 5, .sym .i64 0]
def q3V44 : AV := .tup [.agg [.int .i64 0, .int .i64 0, .str [], .nilsl], .int .i64 13]
def q3A45 : List AV := [.str [115, 101, 116, 40, 118, 44, 32, 105, 44, 32, 120, 41], .agg [.int .i64 2, .int .i64 0, .str [], .fsl 3 false [.int .i64 0, .sym .i64 10, .str [], .nilsl, .int .i64 0, .sym .i64 11, .str [], .nilsl, .int .i64 0, .sym .i64 12, .str [], .nilsl]], .int .i64 5, .sym .i64 0]
def q3V45 : AV := .tup [.agg [.int .i64 0, .int .i64 0, .str [], .nilsl], .int .i64 13]
def q3A46 : List AV := [.str [115, 105, 122, 101, 40, 116, 97, 107, 101, 40, 118, 44, 32, 105, 41, 41, 32, 43, 32, 115, 105, 122, 101, 40, 100, 114, 111, 112, 40, 118, 44, 32, 105, 41, 41, 32, 61, 61, 32, 115, 105, 122, 101, 40, 118, 41], .agg [.int .i64 2, .int .i64 0, .str [], .fsl 3 false [.int .i64 0, .sym .i64 10, .str [], .nilsl, .int .i64 0, .sym .i64 11, .str [], .nilsl, .int .i64 0, .sym .i64 12, .str [], .nilsl]], .int .i64 6, .sym .i64 0]
def q3V46 : AV := .bool true
def q3A47 : List AV := [.str [115, 105, 122, 101, 40, 116, 97, 107, 101, 40, 118, 44, 32, 105, 41, 41, 32, 61, 61, 32, 109, 97, 120, 40, 48, 44, 32, 109, 105, 110, 40, 105, 44, 32, 115, 105, 122, 101, 40, 118, 41, 41, 41], .agg [.int .i64 2, .int .i64 0, .str [], .fsl 3 false [.int .i64 0, .sym .i64 10, .str [], .nilsl, .int .i64 0, .sym .i64 11, .str [], .nilsl, .int .i64 0, .sym .i64 12, .str [], .nilsl]], .int .i64 6, .sym .i64 0]
def q3V47 : AV := .bool true
def q3A48 : List AV := [.str [97, 116, 40, 118, 44, 32, 105, 41], .agg [.int .i64 2, .int .i64 0, .str [], .fsl 3 false [.int .i64 0, .sym .i64 10, .str [], .nilsl, .int .i64 0, .sym .i64 11, .str [], .nilsl, .int .i64 0, .sym .i64 12, .str [], .nilsl]], .int .i64 6, .sym .i64 0]
def q3V48 : AV := .tup [.agg [.int .i64 0, .int .i64 0, .str [], .nilsl], .int .i64 13]
def q3A49 : List AV := [.str [115, 101, 116, 40, 118, 44, 32, 105, 44, 32, 120, 41], .agg [.int .i64 2, .int .i64 0, .str [], .fsl 3 false [.int .i64 0, .sym .i64 10, .str [], .nilsl, .int .i64 0, .sym .i64 11, .str [], .nilsl, .int .i64 0, .sym .i64 12, .str [], .nilsl]], .int .i64 6, .sym .i64 0]
def q3V49 : AV := .tup [.agg [.int .i64 0, .int .i64 0, .str [], .nilsl], .int .i64 13]
noncomputable def q3T : List (Nat × List AV × AV) := [(6, q3A0, q3V0), (6, q3A1, q3V1), (6, q3A2, q3V2), (6, q3A3, q3V3), (7, q3A4, q3V4), (7, q3A5, q3V5), (6, q3A6, q3V6), (6, q3A7, q3V7), (7, q3A8, q3V8), (7, q3A9, q3V9), (6, q3A10, q3V10), (6, q3A11, q3V11), (7, q3A12, q3V12), (7, q3A13, q3V13), (6, q3A14, q3V14), (7, q3A15, q3V15), (7, q3A16, q3V16), (7, q3A17, q3V17), (6, q3A18, q3V18), (6, q3A19, q3V19), (7, q3A20, q3V20), (7, q3A21, q3V21), (6, q3A22, q3V22), (7, q3A23, q3V23), (7, q3A24, q3V24), (7, q3A25, q3V25), (6, q3A26, q3V26), (6, q3A27, q3V27), (7, q3A28, q3V28), (7, q3A29, q3V29), (6, q3A30, q3V30), (7, q3A31, q3V31), (7, q3A32, q3V32), (7, q3A33, q3V33), (6, q3A34, q3V34), (6, q3A35, q3V35), (7, q3A36, q3V36), (7, q3A37, q3V37), (6, q3A38, q3V38), (6, q3A39, q3V39), (7, q3A40, q3V40), (7, q3A41, q3V41), (6, q3A42, q3V42), (6, q3A43, q3V43), (7, q3A44, q3V44), (7, q3A45, q3V45), (6, q3A46, q3V46), (6, q3A47, q3V47), (7, q3A48, q3V48), (7, q3A49, q3V49)]
theorem q3C0 : AV.closeds q3A0 = true := by kernel_rfl
theorem q3G0 : gives (evalN envQ 1000 6 q3A0 ⟨0, .nil⟩) 40 q3V0 = true := by kernel_rfl
theorem q3C1 : AV.closeds q3A1 = true := by kernel_rfl
theorem q3G1 : gives (evalN envQ 1000 6 q3A1 ⟨0, .nil⟩) 40 q3V1 = true := by kernel_rfl
theorem q3C2 : AV.closeds q3A2 = true := by kernel_rfl
theorem q3G2 : gives (evalN envQ 1000 6 q3A2 ⟨0, .nil⟩) 40 q3V2 = true := by kernel_rfl
theorem q3C3 : AV.closeds q3A3 = true := by kernel_rfl
theorem q3G3 : gives (evalN envQ 1000 6 q3A3 ⟨0, .nil⟩) 40 q3V3 = true := by kernel_rfl
theorem q3C4 : AV.closeds q3A4 = true := by kernel_rfl
theorem q3G4 : gives (evalN envQ 1000 7 q3A4 ⟨0, .nil⟩) 40 q3V4 = true := by kernel_rfl
theorem q3C5 : AV.closeds q3A5 = true := by kernel_rfl
theorem q3G5 : gives (evalN envQ 1000 7 q3A5 ⟨0, .nil⟩) 40 q3V5 = true := by kernel_rfl
theorem q3C6 : AV.closeds q3A6 = true := by kernel_rfl
theorem q3G6 : gives (evalN envQ 1000 6 q3A6 ⟨0, .nil⟩) 40 q3V6 = true := by kernel_rfl
theorem q3C7 : AV.closeds q3A7 = true := by kernel_rfl
theorem q3G7 : gives (evalN envQ 1000 6 q3A7 ⟨0, .nil⟩) 40 q3V7 = true := by kernel_rfl
theorem q3C8 : AV.closeds q3A8 = true := by kernel_rfl
theorem q3G8 : gives (evalN envQ 1000 7 q3A8 ⟨0, .nil⟩) 40 q3V8 = true := by kernel_rfl
theorem q3C9 : AV.closeds q3A9 = true := by kernel_rfl
theorem q3G9 : gives (evalN envQ 1000 7 q3A9 ⟨0, .nil⟩) 40 q3V9 = true := by kernel_rfl
theorem q3C10 : AV.closeds q3A10 = true := by kernel_rfl
theorem q3G10 : gives (evalN envQ 1000 6 q3A10 ⟨0, .nil⟩) 40 q3V10 = true := by kernel_rfl
theorem q3C11 : AV.closeds q3A11 = true := by kernel_rfl
theorem q3G11 : gives (evalN envQ 1000 6 q3A11 ⟨0, .nil⟩) 40 q3V11 = true := by kernel_rfl
theorem q3C12 : AV.closeds q3A12 = true := by kernel_rfl
theorem q3G12 : gives (evalN envQ 1000 7 q3A12 ⟨0, .nil⟩) 40 q3V12 = true := by kernel_rfl
theorem q3C13 : AV.closeds q3A13 = true := by kernel_rfl
theorem q3G13 : gives (evalN envQ 1000 7 q3A13 ⟨0, .nil⟩) 40 q3V13 = true := by kernel_rfl
theorem q3C14 : AV.closeds q3A14 = true := by kernel_rfl
theorem q3G14 : gives (evalN envQ 1000 6 q3A14 ⟨0, .nil⟩) 40 q3V14 = true := by kernel_rfl
theorem q3C15 : AV.closeds q3A15 = true := by kernel_rfl
theorem q3G15 : gives (evalN envQ 1000 7 q3A15 ⟨0, .nil⟩) 40 q3V15 = true := by kernel_rfl
theorem q3C16 : AV.closeds q3A16 = true := by kernel_rfl
theorem q3G16 : gives (evalN envQ 1000 7 q3A16 ⟨0, .nil⟩) 40 q3V16 = true := by kernel_rfl
theorem q3C17 : AV.closeds q3A17 = true := by kernel_rfl
theorem q3G17 : gives (evalN envQ 1000 7 q3A17 ⟨0, .nil⟩) 40 q3V17 = true := by kernel_rfl
theorem q3C18 : AV.closeds q3A18 = true := by kernel_rfl
theorem q3G18 : gives (evalN envQ 1000 6 q3A18 ⟨0, .nil⟩) 40 q3V18 = true := by kernel_rfl
theorem q3C19 : AV.closeds q3A19 = true := by kernel_rfl
theorem q3G19 : gives (evalN envQ 1000 6 q3A19 ⟨0, .nil⟩) 40 q3V19 = true := by kernel_rfl
theorem q3C20 : AV.closeds q3A20 = true := by kernel_rfl
theorem q3G20 : gives (evalN envQ 1000 7 q3A20 ⟨0, .nil⟩) 40 q3V20 = true := by kernel_rfl
theorem q3C21 : AV.closeds q3A21 = true := by kernel_rfl
theorem q3G21 : gives (evalN envQ 1000 7 q3A21 ⟨0, .nil⟩) 40 q3V21 = true := by kernel_rfl
theorem q3C22 : AV.closeds q3A22 = true := by kernel_rfl
theorem q3G22 : gives (evalN envQ 1000 6 q3A22 ⟨0, .nil⟩) 40 q3V22 = true := by kernel_rfl
theorem q3C23 : AV.closeds q3A23 = true := by kernel_rfl
theorem q3G23 : gives (evalN envQ 1000 7 q3A23 ⟨0, .nil⟩) 40 q3V23 = true := by kernel_rfl
theorem q3C24 : AV.closeds q3A24 = true := by kernel_rfl
theorem q3G24 : gives (evalN envQ 1000 7 q3A24 ⟨0, .nil⟩) 40 q3V24 = true := by kernel_rfl
theorem q3C25 : AV.closeds q3A25 = true := by kernel_rfl
theorem q3G25 : gives (evalN envQ 1000 7 q3A25 ⟨0, .nil⟩) 40 q3V25 = true := by kernel_rfl
theorem q3C26 : AV.closeds q3A26 = true := by kernel_rfl
theorem q3G26 : gives (evalN envQ 1000 6 q3A26 ⟨0, .nil⟩) 40 q3V26 = true := by kernel_rfl
theorem q3C27 : AV.closeds q3A27 = true := by kernel_rfl
theorem q3G27 : gives (evalN envQ 1000 6 q3A27 ⟨0, .nil⟩) 40 q3V27 = true := by kernel_rfl
theorem q3C28 : AV.closeds q3A28 = true := by kernel_rfl
theorem q3G28 : gives (evalN envQ 1000 7 q3A28 ⟨0, .nil⟩) 40 q3V28 = true := by kernel_rfl
theorem q3C29 : AV.closeds q3A29 = true := by kernel_rfl
theorem q3G29 : gives (evalN envQ 1000 7 q3A29 ⟨0, .nil⟩) 40 q3V29 = true := by kernel_rfl
theorem q3C30 : AV.closeds q3A30 = true := by kernel_rfl
theorem q3G30 : gives (evalN envQ 1000 6 q3A30 ⟨0, .nil⟩) 40 q3V30 = true := by kernel_rfl
theorem q3C31 : AV.closeds q3A31 = true := by kernel_rfl
theorem q3G31 : gives (evalN envQ 1000 7 q3A31 ⟨0, .nil⟩) 40 q3V31 = true := by kernel_rfl
theorem q3C32 : AV.closeds q3A32 = true := by kernel_rfl
theorem q3G32 : gives (evalN envQ 1000 7 q3A32 ⟨0, .nil⟩) 40 q3V32 = true := by kernel_rfl
theorem q3C33 : AV.closeds q3A33 = true := by kernel_rfl
theorem q3G33 : gives (evalN envQ 1000 7 q3A33 ⟨0, .nil⟩) 40 q3V33 = true := by kernel_rfl
theorem q3C34 : AV.closeds q3A34 = true := by kernel_rfl
theorem q3G34 : gives (evalN envQ 1000 6 q3A34 ⟨0, .nil⟩) 40 q3V34 = true := by kernel_rfl
theorem q3C35 : AV.closeds q3A35 = true := by kernel_rfl
theorem q3G35 : gives (evalN envQ 1000 6 q3A35 ⟨0, .nil⟩) 40 q3V35 = true := by kernel_rfl
theorem q3C36 : AV.closeds q3A36 = true := by kernel_rfl
theorem q3G36 : gives (evalN envQ 1000 7 q3A36 ⟨0, .nil⟩) 40 q3V36 = true := by kernel_rfl
theorem q3C37 : AV.closeds q3A37 = true := by kernel_rfl
theorem q3G37 : gives (evalN envQ 1000 7 q3A37 ⟨0, .nil⟩) 40 q3V37 = true := by kernel_rfl
theorem q3C38 : AV.closeds q3A38 = true := by kernel_rfl
theorem q3G38 : gives (evalN envQ 1000 6 q3A38 ⟨0, .nil⟩) 40 q3V38 = true := by kernel_rfl
theorem q3C39 : AV.closeds q3A39 = true := by kernel_rfl
theorem q3G39 : gives (evalN envQ 1000 6 q3A39 ⟨0, .nil⟩) 40 q3V39 = true := by kernel_rfl
theorem q3C40 : AV.closeds q3A40 = true := by kernel_rfl
theorem q3G40 : gives (evalN envQ 1000 7 q3A40 ⟨0, .nil⟩) 40 q3V40 = true := by kernel_rfl
theorem q3C41 : AV.closeds q3A41 = true := by kernel_rfl
theorem q3G41 : gives (evalN envQ 1000 7 q3A41 ⟨0, .nil⟩) 40 q3V41 = true := by kernel_rfl
theorem q3C42 : AV.closeds q3A42 = true := by kernel_rfl
theorem q3G42 : gives (evalN envQ 1000 6 q3A42 ⟨0, .nil⟩) 40 q3V42 = true := by kernel_rfl
theorem q3C43 : AV.closeds q3A43 = true := by kernel_rfl
theorem q3G43 : gives (evalN envQ 1000 6 q3A43 ⟨0, .nil⟩) 40 q3V43 = true := by kernel_rfl
theorem q3C44 : AV.closeds q3A44 = true := by kernel_rfl
theorem q3G44 : gives (evalN envQ 1000 7 q3A44 ⟨0, .nil⟩) 40 q3V44 = true := by kernel_rfl
theorem q3C45 : AV.closeds q3A45 = true := by kernel_rfl
theorem q3G45 : gives (evalN envQ 1000 7 q3A45 ⟨0, .nil⟩) 40 q3V45 = true := by kernel_rfl
theorem q3C46 : AV.closeds q3A46 = true := by kernel_rfl
theorem q3G46 : gives (evalN envQ 1000 6 q3A46 ⟨0, .nil⟩) 40 q3V46 = true := by kernel_rfl
theorem q3C47 : AV.closeds q3A47 = true := by kernel_rfl
theorem q3G47 : gives (evalN envQ 1000 6 q3A47 ⟨0, .nil⟩) 40 q3V47 = true := by kernel_rfl
theorem q3C48 : AV.closeds q3A48 = true := by kernel_rfl
theorem q3G48 : gives (evalN envQ 1000 7 q3A48 ⟨0, .nil⟩) 40 q3V48 = true := by kernel_rfl
theorem q3C49 : AV.closeds q3A49 = true := by kernel_rfl
theorem q3G49 : gives (evalN envQ 1000 7 q3A49 ⟨0, .nil⟩) 40 q3V49 = true := by kernel_rfl
end Rfx.RfxEnvB
