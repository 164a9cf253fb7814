/- The texts evaluated with a list of 5 numbers. -/
import Derived.Test.YtnjpcjnkhelfoabGreatDoorRfxB1t
set_option linter.unusedSectionVars false
set_option linter.unusedVariables false
set_option linter.unusedSimpArgs false
set_option linter.unnecessarySimpa false
namespace Rfx.RfxEnvB
set_option maxRecDepth 20000
open Go Go.Proofs

def q5A0 : List AV := [.str [97, 116, 40, 112, 117, 115, 104, 40, 118, 44, 32, 120, 41, 44, 32, 115, 105, 122, 101, 40, 118, 41, 41, 32, 61, 61, 32, 120], .agg [.int .i64 2, .int .i64 0, .str [], .fsl 5 false [.int .i64 0, .sym .i64 10, .str [], .nilsl, .int .i64 0, .sym .i64 11, .str [], .nilsl, .int .i64 0, .sym .i64 12, .str [], .nilsl, .int .i64 0, .sym .i64 13, .str [], .nilsl, .int .i64 0, .sym .i64 14, .str [], .nilsl]], .sym .i64 2, .sym .i64 0]
def q5V0 : AV := .bool true
def q5A1 : List AV := [.str [116, 97, 107, 101, 40, 112, 117, 115, 104, 40, 118, 44, 32, 120, 41, 44, 32, 115, 105, 122, 101, 40, 118, 41, 41, 32, 61, 61, 32, 118], .agg [.int .i64 2, .int .i64 0, .str [], .fsl 5 false [.int .i64 0, .sym .i64 10, .str [], .nilsl, .int .i64 0, .sym .i64 11, .str [], .nilsl, .int .i64 0, .sym .i64 12, .str [], .nilsl, .int .i64 0, .sym .i64 13, .str [], .nilsl, .int .i64 0, .sym .i64 14, .str [], .nilsl]], .sym .i64 2, .sym .i64 0]
def q5V1 : AV := .bool true
def q5A2 : List AV := [.str [115, 105, 122, 101, 40, 116, 97, 107, 101, 40, 118, 44, 32, 105, 41, 41, 32, 43, 32, 115, 105, 122, 101, 40, 100, 114, 111, 112, 40, 118, 44, 32, 105, 41, 41, 32, 61, 61, 32, 115, 105, 122, 101, 40, 118, 41], .agg [.int .i64 2, .int .i64 0, .str [], .fsl 5 false [.int .i64 0, .sym .i64 10, .str [], .nilsl, .int .i64 0, .sym .i64 11, .str [], .nilsl, .int .i64 0, .sym .i64 12, .str [], .nilsl, .int .i64 0, .sym .i64 13, .str [], .nilsl, .int .i64 0, .sym .i64 14, .str [], .nilsl]], .int .i64 (-2), .sym .i64 0]
def q5V2 : AV := .bool true
def q5A3 : List AV := [.str [115, 105, 122, 101, 40, 116, 97, 107, 101, 40, 118, 44, 32, 105, 41, 41, 32, 61, 61, 32, 109, 97, 120, 40, 48, 44, 32, 109, 105, 110, 40, 105, 44, 32, 115, 105, 122, 101, 40, 118, 41, 41, 41], .agg [.int .i64 2, .int .i64 0, .str [], .fsl 5 false [.int .i64 0, .sym .i64 10, .str [], .nilsl, .int .i64 0, .sym .i64 11, .str [], .nilsl, .int .i64 0, .sym .i64 12, .str [], .nilsl, .int .i64 0, .sym .i64 13, .str [], .nilsl, .int .i64 0, .sym .i64 14, .str [], .nilsl]], .int .i64 (-2), .sym .i64 0]
def q5V3 : AV := .bool true
def q5A4 : List AV := [.str [97, 116, 40, 118, 44, 32, 105, 41], .agg [.int .i64 2, .int .i64 0, .str [], .fsl 5 false [.int .i64 0, .sym .i64 10, .str [], .nilsl, .int .i64 0, .sym .i64 11, .str [], .nilsl, .int .i64 0, .sym .i64 12, .str [], .nilsl, .int .i64 0, .sym .i64 13, .str [], .nilsl, .int .i64 0, .sym .i64 14, .str [], .nilsl]], .int .i64 (-2), .sym .i64 0]
def q5V4 : AV := .tup [.agg [.int .i64 0, .int .i64 0, .str [], .nilsl], .int .i64 13]
def q5A5 : List AV := [.str [115, 101, 116, 40, 118, 44, 32, 105, 44, 32, 120, 41], .agg [.int .i64 2, .int .i64 0, .str [], .fsl 5 false [.int .i64 0, .sym .i64 10, .str [], .nilsl, .int .i64 0, .sym .i64 11, .str [], .nilsl, .int .i64 0, .sym .i64 12, .str [], .nilsl, .int .i64 0, .sym .i64 13, .str [], .nilsl, .int .i64 0, .sym .i64 14, .str [], .nilsl]], .int .i64 (-2), .sym .i64 0]
def q5V5 : AV := .tup [.agg [.int .i64 0, .int .i64 0, .str [], .nilsl], .int .i64 13]
def q5A6 : List AV := [.str [115, 105, 122, 101, 40, 116, 97, 107, 101, 40, 118, 44, 32, 105, 41, 41, 32, 43, 32, 115, 105, 122, 101, 40, 100, 114, 111, 112, 40, 118, 44, 32, 105, 41, 41, 32, 61, 61, 32, 115, 105, 122, 101, 40, 118, 41], .agg [.int .i64 2, .int .i64 0, .str [], .fsl 5 false [.int .i64 0, .sym .i64 10, .str [], .nilsl, .int .i64 0, .sym .i64 11, .str [], .nilsl, .int .i64 0, .sym .i64 12, .str [], .nilsl, .int .i64 0, .sym .i64 13, .str [], .nilsl, .int .i64 0, .sym .i64 14, .str [], .nilsl]], .int .i64 (-1), .sym .i64 0]
def q5V6 : AV := .bool true
def q5A7 : List AV := [.str [115, 105, 122, 101, 40, 116, 97, 107, 101, 40, 118, 44, 32, 105, 41, 41, 32, 61, 61, 32, 109, 97, 120, 40, 48, 44, 32, 109, 105, 110, 40, 105, 44, 32, 115, 105, 122, 101, 40, 118, 41, 41, 41], .agg [.int .i64 2, .int .i64 0, .str [], .fsl 5 false [.int .i64 0, .sym .i64 10, .str [], .nilsl, .int .i64 0, .sym .i64 11, .str [], .nilsl, .int .i64 0, .sym .i64 12, .str [], .nilsl, .int .i64 0, .sym .i64 13, .str [], .nilsl, .int .i64 0, .sym .i64 14, .str [], .nilsl]], .int .i64 (-1), .sym .i64 0]
def q5V7 : AV := .bool true
def q5A8 : List AV := [.str [97, 116, 40, 118, 44, 32, 105, 41], .agg [.int .i64 2, .int .i64 0, .str [], .fsl 5 false [.int .i64 0, .sym .i64 10, .str [], .nilsl, .int .i64 0, .sym .i64 11, .str [], .nilsl, .int .i64 0, .sym .i64 12, .str [], .nilsl, .int .i64 0, .sym .i64 13, .str [], .nilsl, .int .i64 0, .sym .i64 14, .str [], .nilsl]], .int .i64 (-1), .sym .i64 0]
def q5V8 : AV := .tup [.agg [.int .i64 0, .int .i64 0, .str [], .nilsl], .int .i64 13]
def q5A9 : List AV := [.str [115, 101, 116, 40, 118, 44, 32, 105, 44, 32, 120, 41], .agg [.int .i64 2, .int .i64 0, .str [], .fsl 5 false [.int .i64 0, .sym .i64 10, .str [], .nilsl, .int .i64 0, .sym .i64 11, .str [], .nilsl, .int .i64 0, .sym .i64 12, .str [], .nilsl, .int .i64 0, .sym .i64 13, .str [], .nilsl, .int .i64 0, .sym .i64 14, .str [], .nilsl]], .int .i64 (-1), .sym .i64 0]
def q5V9 : AV := .tup [.agg [.int .i64 0, .int .i64 0, .str [], .nilsl], .int .i64 13]
def q5A10 : List AV := [.str [115, 105, 122, 101, 40, 116, 97, 107, 101, 40, 118, 44, 32, 105, 41, 41, 32, 43, 32, 115, 105, 122, 101, 40, 100, 114, 111, 112, 40, 118, 44, 32, 105, 41, 41, 32, 61, 61, 32, 115, 105, 122, 101, 40, 118, 41], .agg [.int .i64 2, .int .i64 0, .str [], .fsl 5 false [.int .i64 0, .sym .i64 10, .str [], .nilsl, .int .i64 0, .sym .i64 11, .str [], .nilsl, .int .i64 0, .sym .i64 12, .str [], .nilsl, .int .i64 0, .sym .i64 13, .str [], .nilsl, .int .i64 0, .sym .i64 14, .str [], .nilsl]], .int .i64 0, .sym .i64 0]
def q5V10 : AV := .bool true
def q5A11 : List AV := [.str [115, 105, 122, 101, 40, 116, 97, 107, 101, 40, 118, 44, 32, 105, 41, 41, 32, 61, 61, 32, 109, 97, 120, 40, 48, 44, 32, 109, 105, 110, 40, 105, 44, 32, 115, 105, 122, 101, 40, 118, 41, 41, 41], .agg [.int .i64 2, .int .i64 0, .str [], .fsl 5 false [.int .i64 0, .sym .i64 10, .str [], .nilsl, .int .i64 0, .sym .i64 11, .str [], .nilsl, .int .i64 0, .sym .i64 12, .str [], .nilsl, .int .i64 0, .sym .i64 13, .str [], .nilsl, .int .i64 0, .sym .i64 14, .str [], .nilsl]], .int .i64 0, .sym .i64 0]
def q5V11 : AV := .bool true
def q5A12 : List AV := [.str [97, 116, 40, 118, 44, 32, 105, 41], .agg [.int .i64 2, .int .i64 0, .str [], .fsl 5 false [.int .i64 0, .sym .i64 10, .str [], .nilsl, .int .i64 0, .sym .i64 11, .str [], .nilsl, .int .i64 0, .sym .i64 12, .str [], .nilsl, .int .i64 0, .sym .i64 13, .str [], .nilsl, .int .i64 0, .sym .i64 14, .str [], .nilsl]], .int .i64 0, .sym .i64 0]
def q5V12 : AV := .tup [.agg [.int .i64 0, .sym .i64 10, .str [], .nilsl], .int .i64 0]
def q5A13 : List AV := [.str [115, 101, 116, 40, 118, 44, 32, 105, 44, 32, 120, 41], .agg [.int .i64 2, .int .i64 0, .str [], .fsl 5 false [.int .i64 0, .sym .i64 10, .str [], .nilsl, .int .i64 0, .sym .i64 11, .str [], .nilsl, .int .i64 0, .sym .i64 12, .str [], .nilsl, .int .i64 0, .sym .i64 13, .str [], .nilsl, .int .i64 0, .sym .i64 14, .str [], .nilsl]], .int .i64 0, .sym .i64 0]
def q5V13 : AV := .tup [.agg [.int .i64 2, .int .i64 0, .str [], .fsl 5 false [.int .i64 0, .sym .i64 0, .str [], .nilsl, .int .i64 0, .sym .i64 11, .str [], .nilsl, .int .i64 0, .sym .i64 12, .str [], .nilsl, .int .i64 0, .sym .i64 13, .str [], .nilsl, .int .i64 0, .sym .i64 14, .str [], .nilsl]], .int .i64 0]
def q5A14 : List AV := [.str [97, 116, 40, 115, 101, 116, 40, 118, 44, 32, 105, 44, 32, 120, 41, 44, 32, 105, 41, 32, 61, 61, 32, 120, 32, 97, 110, 100, 32, 97, 116, 40, 116, 97, 107, 101, 40, 118, 44, 32, 105, 32, 43, 32, 49, 41, 44, 32, 105, 41, 32, 61, 61, 32, 97, 116, 40, 118, 44, 32, 105, 41, 32, 97, 110, 100, 32, 97, 116, 40, 100, 114, 111, 112, 40, 118, 44, 32, 105, 41, 44, 32, 48, 41, 32, 61, 61, 32, 97, 116, 40, 118, 44, 32, 105, 41], .agg [.int .i64 2, .int .i64 0, .str [], .fsl 5 false [.int .i64 0, .sym .i64 10, .str [], .nilsl, .int .i64 0, .sym .i64 11, .str [], .nilsl, .int .i64 0, .sym .i64 12, .str [], .nilsl, .int .i64 0, .sym .i64 13, .str [], .nilsl, .int .i64 0, .sym .i64 14, .str [], .nilsl]], .int .i64 0, .sym .i64 0]
def q5V14 : AV := .bool true
def q5A15 : List AV := [.str [97, 116, 40, 115, 101, 116, 40, 118, 44, 32, 105, 44, 32, 120, 41, 44, 32, 48, 41], .agg [.int .i64 2, .int .i64 0, .str [], .fsl 5 false [.int .i64 0, .sym .i64 10, .str [], .nilsl, .int .i64 0, .sym .i64 11, .str [], .nilsl, .int .i64 0, .sym .i64 12, .str [], .nilsl, .int .i64 0, .sym .i64 13, .str [], .nilsl, .int .i64 0, .sym .i64 14, .str [], .nilsl]], .int .i64 0, .sym .i64 0]
def q5V15 : AV := .tup [.agg [.int .i64 0, .sym .i64 0, .str [], .nilsl], .int .i64 0]
def q5A16 : List AV := [.str [97, 116, 40, 115, 101, 116, 40, 118, 44, 32, 105, 44, 32, 120, 41, 44, 32, 49, 41], .agg [.int .i64 2, .int .i64 0, .str [], .fsl 5 false [.int .i64 0, .sym .i64 10, .str [], .nilsl, .int .i64 0, .sym .i64 11, .str [], .nilsl, .int .i64 0, .sym .i64 12, .str [], .nilsl, .int .i64 0, .sym .i64 13, .str [], .nilsl, .int .i64 0, .sym .i64 14, .str [], .nilsl]], .int .i64 0, .sym .i64 0]
def q5V16 : AV := .tup [.agg [.int .i64 0, .sym .i64 11, .str [], .nilsl], .int .i64 0]
def q5A17 : List AV := [.str [97, 116, 40, 115, 101, 116, 40, 118, 44, 32, 105, 44, 32, 120, 41, 44, 32, 50, 41], .agg [.int .i64 2, .int .i64 0, .str [], .fsl 5 false [.int .i64 0, .sym .i64 10, .str [], .nilsl, .int .i64 0, .sym .i64 11, .str [], .nilsl, .int .i64 0, .sym .i64 12, .str [], .nilsl, .int .i64 0, .sym .i64 13, .str [], .nilsl, .int .i64 0, .sym .i64 14, .str [], .nilsl]], .int .i64 0, .sym .i64 0]
def q5V17 : AV := .tup [.agg [.int .i64 0, .sym .i64 12, .str [], .nilsl], .int .i64 0]
def q5A18 : List AV := [.str [97, 116, 40, 115, 101, 116, 40, 118, 44, 32, 105, 44, 32, 120, 41, 44, 32, 51, 41], .agg [.int .i64 2, .int .i64 0, .str [], .fsl 5 false [.int .i64 0, .sym .i64 10, .str [], .nilsl, .int .i64 0, .sym .i64 11, .str [], .nilsl, .int .i64 0, .sym .i64 12, .str [], .nilsl, .int .i64 0, .sym .i64 13, .str [], .nilsl, .int .i64 0, .sym .i64 14, .str [], .nilsl]], .int .i64 0, .sym .i64 0]
def q5V18 : AV := .tup [.agg [.int .i64 0, .sym .i64 13, .str [], .nilsl], .int .i64 0]
def q5A19 : List AV := [.str [97, 116, 40, 115, 101, 116, 40, 118, 44, 32, 105, 44, 32, 120, 41, 44, 32, 52, 41], .agg [.int .i64 2, .int .i64 0, .str [], .fsl 5 false [.int .i64 0, .sym .i64 10, .str [], .nilsl, .int .i64 0, .sym .i64 11, .str [], .nilsl, .int .i64 0, .sym .i64 12, .str [], .nilsl, .int .i64 0, .sym .i64 13, .str [], .nilsl, .int .i64 0, .sym .i64 14, .str [], .nilsl]], .int .i64 0, .sym .i64 0]
def q5V19 : AV := .tup [.agg [.int .i64 0, .sym .i64 14, .str [], .nilsl], .int .i64 0]
def q5A20 : List AV := [.str [115, 105, 122, 101, 40, 116, 97, 107, 101, 40, 118, 44, 32, 105, 41, 41, 32, 43, 32, 115, 105, 122, 101, 40, 100, 114, 111, 112, 40, 118, 44, 32, 105, 41, 41, 32, 61, 61, 32, 115, 105, 122, 101, 40, 118, 41], .agg [.int .i64 2, .int .i64 0, .str [], .fsl 5 false [.int .i64 0, .sym .i64 10, .str [], .nilsl, .int .i64 0, .sym .i64 11, .str [], .nilsl, .int .i64 0, .sym .i64 12, .str [], .nilsl, .int .i64 0, .sym .i64 13, .str [], .nilsl, .int .i64 0, .sym .i64 14, .str [], .nilsl]], .int .i64 1, .sym .i64 0]
def q5V20 : AV := .bool true
def q5A21 : List AV := [.str [115, 105, 122, 101, 40, 116, 97, 107, 101, 40, 118, 44, 32, 105, 41, 41, 32, 61, 61, 32, 109, 97, 120, 40, 48, 44, 32, 109, 105, 110, 40, 105, 44, 32, 115, 105, 122, 101, 40, 118, 41, 41, 41], .agg [.int .i64 2, .int .i64 0, .str [], .fsl 5 false [.int .i64 0, .sym .i64 10, .str [], .nilsl, .int .i64 0, .sym .i64 11, .str [], .nilsl, .int .i64 0, .sym .i64 12, .str [], .nilsl, .int .i64 0, .sym .i64 13, .str [], .nilsl, .int .i64 0, .sym .i64 14, .str [], .nilsl]], .int .i64 1, .sym .i64 0]
def q5V21 : AV := .bool true
def q5A22 : List AV := [.str [97, 116, 40, 118, 44, 32, 105, 41], .agg [.int .i64 2, .int .i64 0, .str [], .fsl 5 false [.int .i64 0, .sym .i64 10, .str [], .nilsl, .int .i64 0, .sym .i64 11, .str [], .nilsl, .int .i64 0, .sym .i64 12, .str [], .nilsl, .int .i64 0, .sym .i64 13, .str [], .nilsl, .int .i64 0, .sym .i64 14, .str [], .nilsl]], .int .i64 1, .sym .i64 0]
def q5V22 : AV := .tup [.agg [.int .i64 0, .sym .i64 11, .str [], .nilsl], .int .i64 0]
def q5A23 : List AV := [.str [115, 101, 116, 40, 118, 44, 32, 105, 44, 32, 120, 41], .agg [.int .i64 2, .int .i64 0, .str [], .fsl 5 false [.int .i64 0, .sym .i64 10, .str [], .nilsl, .int .i64 0, .sym .i64 11, .str [], .nilsl, .int .i64 0, .sym .i64 12, .str [], .nilsl, .int .i64 0, .sym .i64 13, .str [], .nilsl, .int .i64 0, .sym .i64 14, .str [], .nilsl]], .int .i64 1, .sym .i64 0]
def q5V23 : AV := .tup [.agg [.int .i64 2, .int .i64 0, .str [], .fsl 5 false [.int .i64 0, .sym .i64 10, .str [], .nilsl, .int .i64 0, .sym .i64 0, .str [], .nilsl, .int .i64 0, .sym .i64 12, .str [], .nilsl, .int .i64 0, .sym .i64 13, .str [], .nilsl, .int .i64 0, .sym .i64 14, .str [], .nilsl]], .int .i64 0]
def q5A24 : List AV := [.str [97, 116, 40, 115, 101, 116, 40, 118, 44, 32, 105, 44, 32, 120, 41, 44, 32, 105, 41, 32, 61, 61, 32, 120, 32, 97, 110, 100, 32, 97, 116, 40, 116, 97, 107, 101, 40, 118, 44, 32, 105, 32, 43, 32, 49, 41, 44, 32, 105, 41, 32, 61, 61, 32, 97, 116, 40, 118, 44, 32, 105, 41, 32, 97, 110, 100, 32, 97, 116, 40, 100, 114, 111, 112, 40, 118, 44, 32, 105, 41, 44, 32, 48, 41, 32, 61, 61, 32, 97, 116, 40, 118, 44, 32, 105, 41], .agg [.int .i64 2, .int .i64 0, .str [], .fsl 5 false [.int .i64 0, .sym .i64 10, .str [], .nilsl, .int .i64 0, .sym .i64 11, .str [], .nilsl, .int .i64 0, .sym .i64 12, .str [], .nilsl, .int .i64 0, .sym .i64 13, .str [], .nilsl, .int .i64 0, .sym .i64 14, .str [], .nilsl]], .int .i64 1, .sym .i64 0]
def q5V24 : AV := .bool true
def q5A25 : List AV := [.str [97, 116, 40, 115, 101, 116, 40, 118, 44, 32, 105, 44, 32, 120, 41, 44, 32, 48, 41], .agg [.int .i64 2, .int .i64 0, .str [], .fsl 5 false [.int .i64 0, .sym .i64 10, .str [], .nilsl, .int .i64 0, .sym .i64 11, .str [], .nilsl, .int .i64 0, .sym .i64 12, .str [], .nilsl, .int .i64 0, .sym .i64 13, .str [], .nilsl, .int .i64 0, .sym .i64 14, .str [], .nilsl]], .int .i64 1, .sym .i64 0]
def q5V25 : AV := .tup [.agg [.int .i64 0, .sym .i64 10, .str [], .nilsl], .int .i64 0]
def q5A26 : List AV := [.str [97, 116, 40, 115, 101, 116, 40, 118, 44, 32, 105, 44, 32, 120, 41, 44, 32, 49, 41], .agg [.int .i64 2, .int .i64 0, .str [], .fsl 5 false [.int .i64 0, .sym .i64 10, .str [], .nilsl, .int .i64 0, .sym .i64 11, .str [], .nilsl, .int .i64 0, .sym .i64 12, .str [], .nilsl, .int .i64 0, .sym .i64 13, .str [], .nilsl, .int .i64 0, .sym .i64 14, .str [], .nilsl]], .int .i64 1, .sym .i64 0]
def q5V26 : AV := .tup [.agg [.int .i64 0, .sym .i64 0, .str [], .nilsl], .int .i64 0]
def q5A27 : List AV := [.str [97, 116, 40, 115, 101, 116, 40, 118, 44, 32, 105, 44, 32, 120, 41, 44, 32, 50, 41], .agg [.int .i64 2, .int .i64 0, .str [], .fsl 5 false [.int .i64 0, .sym .i64 10, .str [], .nilsl, .int .i64 0, .sym .i64 11, .str [], .nilsl, .int .i64 0, .sym .i64 12, .str [], .nilsl, .int .i64 0, .sym .i64 13, .str [], .nilsl, .int .i64 0, .sym .i64 14, .str [], .nilsl]], .int .i64 1, .sym .i64 0]
def q5V27 : AV := .tup [.agg [.int .i64 0, .sym .i64 12, .str [], .nilsl], .int .i64 0]
def q5A28 : List AV := [.str [97, 116, 40, 115, 101, 116, 40, 118, 44, 32, 105, 44, 32, 120, 41, 44, 32, 51, 41], .agg [.int .i64 2, .int .i64 0, .str [], .fsl 5 false [.int .i64 0, .sym .i64 10, .str [], .nilsl, .int .i64 0, .sym .i64 11, .str [], .nilsl, .int .i64 0, .sym .i64 12, .str [], .nilsl, .int .i64 0, .sym .i64 13, .str [], .nilsl, .int .i64 0, .sym .i64 14, .str [], .nilsl]], .int .i64 1, .sym .i64 0]
def q5V28 : AV := .tup [.agg [.int .i64 0, .sym .i64 13, .str [], .nilsl], .int .i64 0]
def q5A29 : List AV := [.str [97, 116, 40, 115, 101, 116, 40, 118, 44, 32, 105, 44, 32, 120, 41, 44, 32, 52, 41], .agg [.int .i64 2, .int .i64 0, .str [], .fsl 5 false [.int .i64 0, .sym .i64 10, .str [], .nilsl, .int .i64 0, .sym .i64 11, .str [], .nilsl, .int .i64 0, .sym .i64 12, .str [], .nilsl, .int .i64 0, .sym .i64 13, .str [], .nilsl, .int .i64 0, .sym .i64 14, .str [], .nilsl]], .int .i64 1, .sym .i64 0]
def q5V29 : AV := .tup [.agg [.int .i64 0, .sym .i64 14, .str [], .nilsl], .int .i64 0]
def q5A30 : List AV := [.str [115, 105, 122, 101, 40, 116, 97, 107, 101, 40, 118, 44, 32, 105, 41, 41, 32, 43, 32, 115, 105, 122, 101, 40, 100, 114, 111, 112, 40, 118, 44, 32, 105, 41, 41, 32, 61, 61, 32, 115, 105, 122, 101, 40, 118, 41], .agg [.int .i64 2, .int .i64 0, .str [], .fsl 5 false [.int .i64 0, .sym .i64 10, .str [], .nilsl, .int .i64 0, .sym .i64 11, .str [], .nilsl, .int .i64 0, .sym .i64 12, .str [], .nilsl, .int .i64 0, .sym .i64 13, .str [], .nilsl, .int .i64 0, .sym .i64 14, .str [], .nilsl]], .int .i64 2, .sym .i64 0]
def q5V30 : AV := .bool true
def q5A31 : List AV := [.str [115, 105, 122, 101, 40, 116, 97, 107, 101, 40, 118, 44, 32, 105, 41, 41, 32, 61, 61, 32, 109, 97, 120, 40, 48, 44, 32, 109, 105, 110, 40, 105, 44, 32, 115, 105, 122, 101, 40, 118, 41, 41, 41], .agg [.int .i64 2, .int .i64 0, .str [], .fsl 5 false [.int .i64 0, .sym .i64 10, .str [], .nilsl, .int .i64 0, .sym .i64 11, .str [], .nilsl, .int .i64 0, .sym .i64 12, .str [], .nilsl, .int .i64 0, .sym .i64 13, .str [], .nilsl, .int .i64 0, .sym .i64 14, .str [], .nilsl]], .int .i64 2, .sym .i64 0]
def q5V31 : AV := .bool true
def q5A32 : List AV := [.str [97, 116, 40, 118, 44, 32, 105, 41], .agg [.int .i64 2, .int .i64 0, .str [], .fsl 5 false [.int .i64 0, .sym .i64 10, .str [], .nilsl, .int .i64 0, .sym .i64 11, .str [], .nilsl, .int .i64 0, .sym .i64 12, .str [], .nilsl, .int .i64 0, .sym .i64 13, .str [], .nilsl, .int .i64 0, .sym .i64 14, .str [], .nilsl]], .int .i64 2, .sym .i64 0]
def q5V32 : AV := .tup [.agg [.int .i64 0, .sym .i64 12, .str [], .nilsl], .int .i64 0]
def q5A33 : List AV := [.str [115, 101, 116, 40, 118, 44, 32, 105, 44, 32, 120, 41], .agg [.int .i64 2, .int .i64 0, .str [], .fsl 5 false [.int .i64 0, .sym .i64 10, .str [], .nilsl, .int .i64 0, .sym .i64 11, .str [], .nilsl, .int .i64 0, .sym .i64 12, .str [], .nilsl, .int .i64 0, .sym .i64 13, .str [], .nilsl, .int .i64 0, .sym .i64 14, .str [], .nilsl]], .int .i64 2, .sym .i64 0]
def q5V33 : AV := .tup [.agg [.int .i64 2, .int .i64 0, .str [], .fsl 5 false [.int .i64 0, .sym .i64 10, .str [], .nilsl, .int .i64 0, .sym .i64 11, .str [], .nilsl, .int .i64 0, .sym .i64 0, .str [], .nilsl, .int .i64 0, .sym .i64 13, .str [], .nilsl, .int .i64 0, .sym .i64 14, .str [], .nilsl]], .int .i64 0]
def q5A34 : List AV := [.str [97, 116, 40, 115, 101, 116, 40, 118, 44, 32, 105, 44, 32, 120, 41, 44, 32, 105, 41, 32, 61, 61, 32, 120, 32, 97, 110, 100, 32, 97, 116, 40, 116, 97, 107, 101, 40, 118, 44, 32, 105, 32, 43, 32, 49, 41, 44, 32, 105, 41, 32, 61, 61, 32, 97, 116, 40, 118, 44, 32, 105, 41, 32, 97, 110, 100, 32, 97, 116, 40, 100, 114, 111, 112, 40, 118, 44, 32, 105, 41, 44, 32, 48, 41, 32, 61, 61, 32, 97, 116, 40, 118, 44, 32, 105, 41], .agg [.int .i64 2, .int .i64 0, .str [], .fsl 5 false [.int .i64 0, .sym .i64 10, .str [], .nilsl, .int .i64 0, .sym .i64 11, .str [], .nilsl, .int .i64 0, .sym .i64 12, .str [], .nilsl, .int .i64 0, .sym .i64 13, .str [], .nilsl, .int .i64 0, .sym .i64 14, .str [], .nilsl]], .int .i64 2, .sym .i64 0]
def q5V34 : AV := .bool true
def q5A35 : List AV := [.str [97, 116, 40, 115, 101, 116, 40, 118, 44, 32, 105, 44, 32, 120, 41, 44, 32, 48, 41], .agg [.int .i64 2, .int .i64 0, .str [], .fsl 5 false [.int .i64 0, .sym .i64 10, .str [], .nilsl, .int .i64 0, .sym .i64 11, .str [], .nilsl, .int .i64 0, .sym .i64 12, .str [], .nilsl, .int .i64 0, .sym .i64 13, .str [], .nilsl, .int .i64 0, .sym .i64 14, .str [], .nilsl]], .int .i64 2, .sym .i64 0]
def q5V35 : AV := .tup [.agg [.int .i64 0, .sym .i64 10, .str [], .nilsl], .int .i64 0]
def q5A36 : List AV := [.str [97, 116, 40, 115, 101, 116, 40, 118, 44, 32, 105, 44, 32, 120, 41, 44, 32, 49, 41], .agg [.int .i64 2, .int .i64 0, .str [], .fsl 5 false [.int .i64 0, .sym .i64 10, .str [], .nilsl, .int .i64 0, .sym .i64 11, .str [], .nilsl, .int .i64 0, .sym .i64 12, .str [], .nilsl, .int .i64 0, .sym .i64 13, .str [], .nilsl, .int .i64 0, .sym .i64 14, .str [], .nilsl]], .int .i64 2, .sym .i64 0]
def q5V36 : AV := .tup [.agg [.int .i64 0, .sym .i64 11, .str [], .nilsl], .int .i64 0]
def q5A37 : List AV := [.str [97, 116, 40, 115, 101, 116, 40, 118, 44, 32, 105, 44, 32, 120, 41, 44, 32, 50, 41], .agg [.int .i64 2, .int .i64 0, .str [], .fsl 5 false [.int .i64 0, .sym .i64 10, .str [], .nilsl, .int .i64 0, .sym .i64 11, .str [], .nilsl, .int .i64 0, .sym .i64 12, .str [], .nilsl, .int .i64 0, .sym .i64 13, .str [], .nilsl, .int .i64 0, .sym .i64 14, .str [], .nilsl]], .int .i64 2, .sym .i64 0]
def q5V37 : AV := .tup [.agg [.int .i64 0, .sym .i64 0, .str [], .nilsl], .int .i64 0]
def q5A38 : List AV := [.str [97, 116, 40, 115, 101, 116, 40, 118, 44, 32, 105, 44, 32, 120, 41, 44, 32, 51, 41], .agg [.int .i64 2, .int .i64 0, .str [], .fsl 5 false [.int .i64 0, .sym .i64 10, .str [], .nilsl, .int .i64 0, .sym .i64 11, .str [], .nilsl, .int .i64 0, .sym .i64 12, .str [], .nilsl, .int .i64 0, .sym .i64 13, .str [], .nilsl, .int .i64 0, .sym .i64 14, .str [], .nilsl]], .int .i64 2, .sym .i64 0]
def q5V38 : AV := .tup [.agg [.int .i64 0, .sym .i64 13, .str [], .nilsl], .int .i64 0]
def q5A39 : List AV := [.str [97, 116, 40, 115, 101, 116, 40, 118, 44, 32, 105, 44, 32, 120, 41, 44, 32, 52, 41], .agg [.int .i64 2, .int .i64 0, .str [], .fsl 5 false [.int .i64 0, .sym .i64 10, .str [], .nilsl, .int .i64 0, .sym .i64 11, .str [], .nilsl, .int .i64 0, .sym .i64 12, .str [], .nilsl, .int .i64 0, .sym .i64 13, .str [], .nilsl, .int .i64 0, .sym .i64 14, .str [], .nilsl]], .int .i64 2, .sym .i64 0]
def q5V39 : AV := .tup [.agg [.int .i64 0, .sym .i64 14, .str [], .nilsl], .int .i64 0]
def q5A40 : List AV := [.str [115, 105, 122, 101, 40, 116, 97, 107, 101, 40, 118, 44, 32, 105, 41, 41, 32, 43, 32, 115, 105, 122, 101, 40, 100, 114, 111, 112, 40, 118, 44, 32, 105, 41, 41, 32, 61, 61, 32, 115, 105, 122, 101, 40, 118, 41], .agg [.int .i64 2, .int .i64 0, .str [], .fsl 5 false [.int .i64 0, .sym .i64 10, .str [], .nilsl, .int .i64 0, .sym .i64 11, .str [], .nilsl, .int .i64 0, .sym .i64 12, .str [], .nilsl, .int .i64 0, .sym .i64 13, .str [], .nilsl, .int .i64 0, .sym .i64 14, .str [], .nilsl]], .int .i64 3, .sym .i64 0]
def q5V40 : AV := .bool true
def q5A41 : List AV := [.str [115, 105, 122, 101, 40, 116, 97, 107, 101, 40, 118, 44, 32, 105, 41, 41, 32, 61, 61, 32, 109, 97, 120, 40, 48, 44, 32, 109, 105, 110, 40, 105, 44, 32, 115, 105, 122, 101, 40, 118, 41, 41, 41], .agg [.int .i64 2, .int .i64 0, .str [], .fsl 5 false [.int .i64 0, .sym .i64 10, .str [], .nilsl, .int .i64 0, .sym .i64 11, .str [], .nilsl, .int .i64 0, .sym .i64 12, .str [], .nilsl, .int .i64 0, .sym .i64 13, .str [], .nilsl, .int .i64 0, .sym .i64 14, .str [], .nilsl]], .int .i64 3, .sym .i64 0]
def q5V41 : AV := .bool true
def q5A42 : List AV := [.str [97, 116, 40, 118, 44, 32, 105, 41], .agg [.int .i64 2, .int .i64 0, .str [], .fsl 5 false [.int .i64 0, .sym .i64 10, .str [], .nilsl, .int .i64 0, .sym .i64 11, .str [], .nilsl, .int .i64 0, .sym .i64 12, .str [], .nilsl, .int .i64 0, .sym .i64 13, .str [], .nilsl, .int .i64 0, .sym .i64 14, .str [], .nilsl]], .int .i64 3, .sym .i64 0]
def q5V42 : AV := .tup [.agg [.int .i64 0, .sym .i64 13, .str [], .nilsl], .int .i64 0]
def q5A43 : List AV := [.str [115, 101, 116, 40, 118, 44, 32, 105, 44, 32, 120, 41], .agg [.int .i64 2, .int .i64 0, .str [], .fsl 5 false [.int .i64 0, .sym .i64 10, .str [], .nilsl, .int .i64 0, .sym .i64 11, .str [], .nilsl, .int .i64 0, .sym .i64 12, .str [], .nilsl, .int .i64 0, .sym .i64 13, .str [], .nilsl, .int .i64 0, .sym .i64 14, .str [], .nilsl]], .int .i64 3, .sym .i64 0]
def q5V43 : AV := .tup [.agg [.int .i64 2, .int .i64 0, .str [], .fsl 5 false [.int .i64 0, .sym .i64 10, .str [], .nilsl, .int .i64 0, .sym .i64 11, .str [], .nilsl, .int .i64 0, .sym .i64 12, .str [], .nilsl, .int .i64 0, .sym .i64 0, .str [], .nilsl, .int .i64 0, .sym .i64 14, .str [], .nilsl]], .int .i64 0]
def q5A44 : List AV := [.str [97, 116, 40, 115, 101, 116, 40, 118, 44, 32, 105, 44, 32, 120, 41, 44, 32, 105, 41, 32, 61, 61, 32, 120, 32, 97, 110, 100, 32, 97, 116, 40, 116, 97, 107, 101, 40, 118, 44, 32, 105, 32, 43, 32, 49, 41, 44, 32, 105, 41, 32, 61, 61, 32, 97, 116, 40, 118, 44, 32, 105, 41, 32, 97, 110, 100, 32, 97, 116, 40, 100, 114, 111, 112, 40, 118, 44, 32, 105, 41, 44, 32, 48, 41, 32, 61, 61, 32, 97, 116, 40, 118, 44, 32, 105, 41], .agg [.int .i64 2, .int .i64 0, .str [], .fsl 5 false [.int .i64 0, .sym .i64 10, .str [], .nilsl, .int .i64 0, .sym .i64 11, .str [], .nilsl, .int .i64 0, .sym .i64 12, .str [], .nilsl, .int .i64 0, .sym .i64 13, .str [], .nilsl, .int .i64 0, .sym .i64 14, .str [], .nilsl]], .int .i64 3, .sym .i64 0]
def q5V44 : AV := .bool true
def q5A45 : List AV := [.str [97, 116, 40, 115, 101, 116, 40, 118, 44, 32, 105, 44, 32, 120, 41, 44, 32, 48, 41], .agg [.int .i64 2, .int .i64 0, .str [], .fsl 5 false [.int .i64 0, .sym .i64 10, .str [], .nilsl, .int .i64 0, .sym .i64 11, .str [], .nilsl, .int .i64 0, .sym .i64 12, .str [], .nilsl, .int .i64 0, .sym .i64 13, .str [], .nilsl, .int .i64 0, .sym .i64 14, .str [], .nilsl]], .int .i64 3, .sym .i64 0]
def q5V45 : AV := .tup [.agg [.int .i64 0, .sym .i64 10, .str [], .nilsl], .int .i64 0]
def q5A46 : List AV := [.str [97, 116, 40, 115, 101, 116, 40, 118, 44, 32, 105, 44, 32, 120, 41, 44, 32, 49, 41], .agg [.int .i64 2, .int .i64 0, .str [], .fsl 5 false [.int .i64 0, .sym .i64 10, .str [], .nilsl, .int .i64 0, .sym .i64 11, .str [], .nilsl, .int .i64 0, .sym .i64 12, .str [], .nilsl, .int .i64 0, .sym .i64 13, .str [], .nilsl, .int .i64 0, .sym .i64 14, .str [], .nilsl]], .int .i64 3, .sym .i64 0]
def q5V46 : AV := .tup [.agg [.int .i64 0, .sym .i64 11, .str [], .nilsl], .int .i64 0]
def q5A47 : List AV := [.str [97, 116, 40, 115, 101, 116, 40, 118, 44, 32, 105, 44, 32, 120, 41, 44, 32, 50, 41], .agg [.int .i64 2, .int .i64 0, .str [], .fsl 5 false [.int .i64 0, .sym .i64 10, .str [], .nilsl, .int .i64 0, .sym .i64 11, .str [], .nilsl, .int .i64 0, .sym .i64 12, .str [], .nilsl, .int .i64 0, .sym .i64 13, .str [], .nilsl, .int .i64 0, .sym .i64 14, .str [], .nilsl]], .int .i64 3, .sym .i64 0]
def q5V47 : AV := .tup [.agg [.int .i64 0, .sym .i64 12, .str [], .nilsl], .int .i64 0]
def q5A48 : List AV := [.str [97, 116, 40, 115, 101, 116, 40, 118, 44, 32, 105, 44, 32, 120, 41, 44, 32, 51, 41], .agg [.int .i64 2, .int .i64 0, .str [], .fsl 5 false [.int .i64 0, .sym .i64 10, .str [], .nilsl, .int .i64 0, .sym .i64 11, .str [], .nilsl, .int .i64 0, .sym .i64 12, .str [], .nilsl, .int .i64 0, .sym .i64 13, .str [], .nilsl, .int .i64 0, .sym .i64 14, .str [], .nilsl]], .int .i64 3, .sym .i64 0]
def q5V48 : AV := .tup [.agg [.int .i64 0, .sym .i64 0, .str [], .nilsl], .int .i64 0]
def q5A49 : List AV := [.str [97, 116, 40, 115, 101, 116, 40, 118, 44, 32, 105, 44, 32, 120, 41, 44, 32, 52, 41], .agg [.int .i64 2, .int .i64 0, .str [], .fsl 5 false [.int .i64 0, .sym .i64 10, .str [], .nilsl, .int .i64 0, .sym .i64 11, .str [], .nilsl, .int .i64 0, .sym .i64 12, .str [], .nilsl, .int .i64 0, .sym .i64 13, .str [], .nilsl, .int .i64 0, .sym .i64 14, .str [], .nilsl]], .int .i64 3, .sym .i64 0]
def q5V49 : AV := .tup [.agg [.int .i64 0, .sym .i64 14, .str [], .nilsl], .int .i64 0]
def q5A50 : List AV := [.str [115, 105, 122, 101, 40, 116, 97, 107, 101, 40, 118, 44, 32, 105, 41, 41, 32, 43, 32, 115, 105, 122, 101, 40, 100, 114, 111, 112, 40, 118, 44, 32, 105, 41, 41, 32, 61, 61, 32, 115, 105, 122, 101, 40, 118, 41], .agg [.int .i64 2, .int .i64 0, .str [], .fsl 5 false [.int .i64 0, .sym .i64 10, .str [], .nilsl, .int .i64 0, .sym .i64 11, .str [], .nilsl, .int .i64 0, .sym .i64 12, .str [], .nilsl, .int .i64 0, .sym .i64 13, .str [], .nilsl, .int .i64 0, .sym .i64 14, .str [], .nilsl]], .int .i64 4, .sym .i64 0]
def q5V50 : AV := .bool true
def q5A51 : List AV := [.str [115, 105, 122, 101, 40, 116, 97, 107, 101, 40, 118, 44, 32, 105, 41, 41, 32, 61, 61, 32, 109, 97, 120, 40, 48, 44, 32, 109, 105, 110, 40, 105, 44, 32, 115, 105, 122, 101, 40, 118, 41, 41, 41], .agg [.int .i64 2, .int .i64 0, .str [], .fsl 5 false [.int .i64 0, .sym .i64 10, .str [], .nilsl, .int .i64 0, .sym .i64 11, .str [], .nilsl, .int .i64 0, .sym .i64 12, .str [], .nilsl, .int .i64 0, .sym .i64 13, .str [], .nilsl, .int .i64 0, .sym .i64 14, .str [], .nilsl]], .int .i64 4, .sym .i64 0]
def q5V51 : AV := .bool true
def q5A52 : List AV := [.str [97, 116, 40, 118, 44, 32, 105, 41], .agg [.int .i64 2, .int .i64 0, .str [], .fsl 5 false [.int .i64 0, .sym .i64 10, .str [], .nilsl, .int .i64 0, .sym .i64 11, .str [], .nilsl, .int .i64 0, .sym .i64 12, .str [], .nilsl, .int .i64 0, .sym .i64 13, .str [], .nilsl, .int .i64 0, .sym .i64 14, .str [], .nilsl]], .int .i64 4, .sym .i64 0]
def q5V52 : AV := .tup [.agg [.int .i64 0, .sym .i64 14, .str [], .nilsl], .int .i64 0]
def q5A53 : List AV := [.str [115, 101, 116, 40, 118, 44, 32, 105, 44, 32, 120, 41], .agg [.int .i64 2, .int .i64 0, .str [], .fsl 5 false [.int .i64 0, .sym .i64 10, .str [], .nilsl, .int .i64 0, .sym .i64 11, .str [], .nilsl, .int .i64 0, .sym .i64 12, .str [], .nilsl, .int .i64 0, .sym .i64 13, .str [], .nilsl, .int .i64 0, .sym .i64 14, .str [], .nilsl]], .int .i64 4, .sym .i64 0]
def q5V53 : AV := .tup [.agg [.int .i64 2, .int .i64 0, .str [], .fsl 5 false [.int .i64 0, .sym .i64 10, .str [], .nilsl, .int .i64 0, .sym .i64 11, .str [], .nilsl, .int .i64 0, .sym .i64 12, .str [], .nilsl, .int .i64 0, .sym .i64 13, .str [], .nilsl, .int .i64 0, .sym .i64 0, .str [], .nilsl]], .int .i64 0]
def q5A54 : List AV := [.str [97, 116, 40, 115, 101, 116, 40, 118, 44, 32, 105, 44, 32, 120, 41, 44, 32, 105, 41, 32, 61, 61, 32, 120, 32, 97, 110, 100, 32, 97, 116, 40, 116, 97, 107, 101, 40, 118, 44, 32, 105, 32, 43, 32, 49, 41, 44, 32, 105, 41, 32, 61, 61, 32, 97, 116, 40, 118, 44, 32, 105, 41, 32, 97, 110, 100, 32, 97, 116, 40, 100, 114, 111, 112, 40, 118, 44, 32, 105, 41, 44, 32, 48, 41, 32, 61, 61, 32, 97, 116, 40, 118, 44, 32, 105, 41], .agg [.int .i64 2, .int .i64 0, .str [], .fsl 5 false [.int .i64 0, .sym .i64 10, .str [], .nilsl, .int .i64 0, .sym .i64 11, .str [], .nilsl, .int .i64 0, .sym .i64 12, .str [], .nilsl, .int .i64 0, .sym .i64 13, .str [], .nilsl, .int .i64 0, .sym .i64 14, .str [], .nilsl]], .int .i64 4, .sym .i64 0]
def q5V54 : AV := .bool true
def q5A55 : List AV := [.str [97, 116, 40, 115, 101, 116, 40, 118, 44, 32, 105, 44, 32, 120, 41, 44, 32, 48, 41], .agg [.int .i64 2, .int .i64 0, .str [], .fsl 5 false [.int .i64 0, .sym .i64 10, .str [], .nilsl, .int .i64 0, .sym .i64 11, .str [], .nilsl, .int .i64 0, .sym .i64 12, .str [], .nilsl, .int .i64 0, .sym .i64 13, .str [], .nilsl, .int .i64 0, .sym .i64 14, .str [], .nilsl]], .int .i64 4, .sym .i64 0]
def q5V55 : AV := .tup [.agg [.int .i64 0, .sym .i64 10, .str [], .nilsl], .int .i64 0]
def q5A56 : List AV := [.str [97, 116, 40, 115, 101, 116, 40, 118, 44, 32, 105, 44, 32, 120, 41, 44, 32, 49, 41], .agg [.int .i64 2, .int .i64 0, .str [], .fsl 5 false [.int .i64 0, .sym .i64 10, .str [], .nilsl, .int .i64 0, .sym .i64 11, .str [], .nilsl, .int .i64 0, .sym .i64 12, .str [], .nilsl, .int .i64 0, .sym .i64 13, .str [], .nilsl, .int .i64 0, .sym .i64 14, .str [], .nilsl]], .int .i64 4, .sym .i64 0]
def q5V56 : AV := .tup [.agg [.int .i64 0, .sym .i64 11, .str [], .nilsl], .int .i64 0]
def q5A57 : List AV := [.str [97, 116, 40, 115, 101, 116, 40, 118, 44, 32, 105, 44, 32, 120, 41, 44, 32, 50, 41], .agg [.int .i64 2, .int .i64 0, .str [], .fsl 5 false [.int .i64 0, .sym .i64 10, .str [], .nilsl, .int .i64 0, .sym .i64 11, .str [], .nilsl, .int .i64 0, .sym .i64 12, .str [], .nilsl, .int .i64 0, .sym .i64 13, .str [], .nilsl, .int .i64 0, .sym .i64 14, .str [], .nilsl]], .int .i64 4, .sym .i64 0]
def q5V57 : AV := .tup [.agg [.int .i64 0, .sym .i64 12, .str [], .nilsl], .int .i64 0]
def q5A58 : List AV := [.str [97, 116, 40, 115, 101, 116, 40, 118, 44, 32, 105, 44, 32, 120, 41, 44, 32, 51, 41], .agg [.int .i64 2, .int .i64 0, .str [], .fsl 5 false [.int .i64 0, .sym .i64 10, .str [], .nilsl, .int .i64 0, .sym .i64 11, .str [], .nilsl, .int .i64 0, .sym .i64 12, .str [], .nilsl, .int .i64 0, .sym .i64 13, .str [], .nilsl, .int .i64 0, .sym .i64 14, .str [], .nilsl]], .int .i64 4, .sym .i64 0]
def q5V58 : AV := .tup [.agg [.int .i64 0, .sym .i64 13, .str [], .nilsl], .int .i64 0]
def q5A59 : List AV := [.str [97, 116, 40, 115, 101, 116, 40, 118, 44, 32, 105, 44, 32, 120, 41, 44, 32, 52, 41], .agg [.int .i64 2, .int .i64 0, .str [], .fsl 5 false [.int .i64 0, .sym .i64 10, .str [], .nilsl, .int .i64 0, .sym .i64 11, .str [], .nilsl, .int .i64 0, .sym .i64 12, .str [], .nilsl, .int .i64 0, .sym .i64 13, .str [], .nilsl, .int .i64 0, .sym .i64 14, .str [], .nilsl]], .int .i64 4, .sym .i64 0]
def q5V59 : AV := .tup [.agg [.int .i64 0, .sym .i64 0, .str [], .nilsl], .int .i64 0]
def q5A60 : List AV := [.str [115, 105, 122, 101, 40, 116, 97, 107, 101, 40, 118, 44, 32, 105, 41, 41, 32, 43, 32, 115, 105, 122, 101, 40, 100, 114, 111, 112, 40, 118, 44, 32, 105, 41, 41, 32, 61, 61, 32, 115, 105, 122, 101, 40, 118, 41], .agg [.int .i64 2, .int .i64 0, .str [], .fsl 5 false [.int .i64 0, .sym .i64 10, .str [], .nilsl, .int .i64 0, .sym .i64 11, .str [], .nilsl, .int .i64 0, .sym .i64 12, .str [], .nilsl, .int .i64 0, .sym .i64 13, .str [], .nilsl, .int .i64 0, .sym .i64 14, .str [], .nilsl]], .int .i64 5, .sym .i64 0]
def q5V60 : AV := .bool true
def q5A61 : List AV := [.str [115, 105, 122, 101, 40, 116, 97, 107, 101, 40, 118, 44, 32, 105, 41, 41, 32, 61, 61, 32, 109, 97, 120, 40, 48, 44, 32, 109, 105, 110, 40, 105, 44, 32, 115, 105, 122, 101, 40, 118, 41, 41, 41], .agg [.int .i64 2, .int .i64 0, .str [], .fsl 5 false [.int .i64 0, .sym .i64 10, .str [], .nilsl, .int .i64 0, .sym .i64 11, .str [], .nilsl, .int .i64 0, .sym .i64 12, .str [], .nilsl, .int .i64 0, .sym .i64 13, .str [], .nilsl, .int .i64 0, .sym .i64 14, .str [], .nilsl]], .int .i64 5, .sym .i64 0]
def q5V61 : AV := .bool true
def q5A62 : List AV := [.str [97, 116, 40, 118, 44, 32, 105, 41], .agg [.int .i64 2, .int .i64 0, .str [], .fsl 5 false [.int .i64 0, .sym .i64 10, .str [], .nilsl, .int .i64 0, .sym .i64 11, .str [], .nilsl, .int .i64 0, .sym .i64 12, .str [], .nilsl, .int .i64 0, .sym .i64 13, .str [], .nilsl, .int .i64 0, .sym .i64 14, .str [], .nilsl]], .int .i64 5, .sym .i64 0]
def q5V62 : AV := .tup [.agg [.int .i64 0, .int .i64 0, .str [], .nilsl], .int .i64 13]
def q5A63 : List AV := [.str [115, 101, 116, 40, 118, 44, 32, 105, 44, 32, 120, 41], .agg [.int .i64 2, .int .i64 0, .str [], .fsl 5 false [.int .i64 0, .sym .i64 10, .str [], .nilsl, .int .i64 0, .sym .i64 11, .str [], .nilsl, .int .i64 0, .sym .i64 12, .str [], .nilsl, .int .i64 0, .sym .i64 13, .str [], .nilsl, .int .i64 0, .sym .i64 14, .str [], .nilsl]], .int .i64 5, .sym .i64 0]
def q5V63 : AV := .tup [.agg [.int .i64 0, .int .i64 0, .str [], .nilsl], .int .i64 13]
def q5A64 : List AV := [.str [115, 105, 122, 101, 40, 116, 97, 107, 101, 40, 118, 44, 32, 105, 41, 41, 32, 43, 32, 115, 105, 122, 101, 40, 100, 114, 111, 112, 40, 118, 44, 32, 105, 41, 41, 32, 61, 61, 32, 115, 105, 122, 101, 40, 118, 41], .agg [.int .i64 2, .int .i64 0, .str [], .fsl 5 false [.int .i64 0, .sym .i64 10, .str [], .nilsl, .int .i64 0, .sym .i64 11, .str [], .nilsl, .int .i64 0, .sym .i64 12, .str [], .nilsl, .int .i64 0, .sym .i64 13, .str [], .nilsl, .int .i64 0, .sym .i64 14, .str [], .nilsl]], .int .i64 6, .sym .i64 0]
def q5V64 : AV := .bool true
def q5A65 : List AV := [.str [115, 105, 122, 101, 40, 116, 97, 107, 101, 40, 118, 44, 32, 105, 41, 41, 32, 61, 61, 32, 109, 97, 120, 40, 48, 44, 32, 109, 105, 110, 40, 105, 44, 32, 115, 105, 122, 101, 40, 118, 41, 41, 41], .agg [.int .i64 2, .int .i64 0, .str [], .fsl 5 false [.int .i64 0, .sym .i64 10, .str [], .nilsl, .int .i64 0, .sym .i64 11, .str [], .nilsl, .int .i64 0, .sym .i64 12, .str [], .nilsl, .int .i64 0, .sym .i64 13, .str [], .nilsl, .int .i64 0, .sym .i64 14, .str [], .nilsl]], .int .i64 6, .sym .i64 0]
def q5V65 : AV := .bool true
def q5A66 : List AV := [.str [97, 116, 40, 118, 44, 32, 105, 41], .agg [.int .i64 2, .int .i64 0, .str [], .fsl 5 false [.int .i64 0, .sym .i64 10, .str [], .nilsl, .int .i64 0, .sym .i64 11, .str [], .nilsl, .int .i64 0, .sym .i64 12, .str [], .nilsl, .int .i64 0, .sym .i64 13, .str [], .nilsl, .int .i64 0, .sym .i64 14, .str [], .nilsl]], .int .i64 6, .sym .i64 0]
def q5V66 : AV := .tup [.agg [.int .i64 0, .int .i64 0, .str [], .nilsl], .int .i64 13]
def q5A67 : List AV := [.str [115, 101, 116, 40, 118, 44, 32, 105, 44, 32, 120, 41], .agg [.int .i64 2, .int .i64 0, .str [], .fsl 5 false [.int .i64 0, .sym .i64 10, .str [], .nilsl, .int .i64 0, .sym .i64 11, .str [], .nilsl, .int .i64 0, .sym .i64 12, .str [], .nilsl, .int .i64 0, .sym .i64 13, .str [], .nilsl, .int .i64 0, .sym .i64 14, .str [], .nilsl]], .int .i64 6, .sym .i64 0]
def q5V67 : AV := .tup [.agg [.int .i64 0, .int .i64 0, .str [], .nilsl], .int .i64 13]
noncomputable def q5T : List (Nat × List AV × AV) := [(6, q5A0, q5V0), (6, q5A1, q5V1), (6, q5A2, q5V2), (6, q5A3, q5V3), (7, q5A4, q5V4), (7, q5A5, q5V5), (6, q5A6, q5V6), (6, q5A7, q5V7), (7, q5A8, q5V8), (7, q5A9, q5V9), (6, q5A10, q5V10), (6, q5A11, q5V11), (7, q5A12, q5V12), (7, q5A13, q5V13), (6, q5A14, q5V14), (7, q5A15, q5V15), (7, q5A16, q5V16), (7, q5A17, q5V17), (7, q5A18, q5V18), (7, q5A19, q5V19), (6, q5A20, q5V20), (6, q5A21, q5V21), (7, q5A22, q5V22), (7, q5A23, q5V23), (6, q5A24, q5V24), (7, q5A25, q5V25), (7, q5A26, q5V26), (7, q5A27, q5V27), (7, q5A28, q5V28), (7, q5A29, q5V29), (6, q5A30, q5V30), (6, q5A31, q5V31), (7, q5A32, q5V32), (7, q5A33, q5V33), (6, q5A34, q5V34), (7, q5A35, q5V35), (7, q5A36, q5V36), (7, q5A37, q5V37), (7, q5A38, q5V38), (7, q5A39, q5V39), (6, q5A40, q5V40), (6, q5A41, q5V41), (7, q5A42, q5V42), (7, q5A43, q5V43), (6, q5A44, q5V44), (7, q5A45, q5V45), (7, q5A46, q5V46), (7, q5A47, q5V47), (7, q5A48, q5V48), (7, q5A49, q5V49), (6, q5A50, q5V50), (6, q5A51, q5V51), (7, q5A52, q5V52), (7, q5A53, q5V53), (6, q5A54, q5V54), (7, q5A55, q5V55), (7, q5A56, q5V56), (7, q5A57, q5V57), (7, q5A58, q5V58), (7, q5A59, q5V59), (6, q5A60, q5V60), (6, q5A61, q5V61), (7, q5A62, q5V62), (7, q5A63, q5V63), (6, q5A64, q5V64), (6, q5A65, q5V65), (7, q5A66, q5V66), (7, q5A67, q5V67)]
theorem q5C0 : AV.closeds q5A0 = true := by kernel_rfl
theorem q5G0 : gives (evalN envQ 1000 6 q5A0 ⟨0, .nil⟩) 40 q5V0 = true := by kernel_rfl
theorem q5C1 : AV.closeds q5A1 = true := by kernel_rfl
theorem q5G1 : gives (evalN envQ 1000 6 q5A1 ⟨0, .nil⟩) 40 q5V1 = true := by kernel_rfl
theorem q5C2 : AV.closeds q5A2 = true := by kernel_rfl
theorem q5G2 : gives (evalN envQ 1000 6 q5A2 ⟨0, .nil⟩) 40 q5V2 = true := by kernel_rfl
theorem q5C3 : AV.closeds q5A3 = true := by kernel_rfl
theorem q5G3 : gives (evalN envQ 1000 6 q5A3 ⟨0, .nil⟩) 40 q5V3 = true := by kernel_rfl
theorem q5C4 : AV.closeds q5A4 = true := by kernel_rfl
theorem q5G4 : gives (evalN envQ 1000 7 q5A4 ⟨0, .nil⟩) 40 q5V4 = true := by kernel_rfl
theorem q5C5 : AV.closeds q5A5 = true := by kernel_rfl
theorem q5G5 : gives (evalN envQ 1000 7 q5A5 ⟨0, .nil⟩) 40 q5V5 = true := by kernel_rfl
theorem q5C6 : AV.closeds q5A6 = true := by kernel_rfl
theorem q5G6 : gives (evalN envQ 1000 6 q5A6 ⟨0, .nil⟩) 40 q5V6 = true := by kernel_rfl
theorem q5C7 : AV.closeds q5A7 = true := by kernel_rfl
theorem q5G7 : gives (evalN envQ 1000 6 q5A7 ⟨0, .nil⟩) 40 q5V7 = true := by kernel_rfl
theorem q5C8 : AV.closeds q5A8 = true := by kernel_rfl
theorem q5G8 : gives (evalN envQ 1000 7 q5A8 ⟨0, .nil⟩) 40 q5V8 = true := by kernel_rfl
theorem q5C9 : AV.closeds q5A9 = true := by kernel_rfl
theorem q5G9 : gives (evalN envQ 1000 7 q5A9 ⟨0, .nil⟩) 40 q5V9 = true := by kernel_rfl
theorem q5C10 : AV.closeds q5A10 = true := by kernel_rfl
theorem q5G10 : gives (evalN envQ 1000 6 q5A10 ⟨0, .nil⟩) 40 q5V10 = true := by kernel_rfl
theorem q5C11 : AV.closeds q5A11 = true := by kernel_rfl
theorem q5G11 : gives (evalN envQ 1000 6 q5A11 ⟨0, .nil⟩) 40 q5V11 = true := by kernel_rfl
theorem q5C12 : AV.closeds q5A12 = true := by kernel_rfl
theorem q5G12 : gives (evalN envQ 1000 7 q5A12 ⟨0, .nil⟩) 40 q5V12 = true := by kernel_rfl
theorem q5C13 : AV.closeds q5A13 = true := by kernel_rfl
theorem q5G13 : gives (evalN envQ 1000 7 q5A13 ⟨0, .nil⟩) 40 q5V13 = true := by kernel_rfl
theorem q5C14 : AV.closeds q5A14 = true := by kernel_rfl
theorem q5G14 : gives (evalN envQ 1000 6 q5A14 ⟨0, .nil⟩) 40 q5V14 = true := by kernel_rfl
theorem q5C15 : AV.closeds q5A15 = true := by kernel_rfl
theorem q5G15 : gives (evalN envQ 1000 7 q5A15 ⟨0, .nil⟩) 40 q5V15 = true := by kernel_rfl
theorem q5C16 : AV.closeds q5A16 = true := by kernel_rfl
theorem q5G16 : gives (evalN envQ 1000 7 q5A16 ⟨0, .nil⟩) 40 q5V16 = true := by kernel_rfl
theorem q5C17 : AV.closeds q5A17 = true := by kernel_rfl
theorem q5G17 : gives (evalN envQ 1000 7 q5A17 ⟨0, .nil⟩) 40 q5V17 = true := by kernel_rfl
theorem q5C18 : AV.closeds q5A18 = true := by kernel_rfl
theorem q5G18 : gives (evalN envQ 1000 7 q5A18 ⟨0, .nil⟩) 40 q5V18 = true := by kernel_rfl
theorem q5C19 : AV.closeds q5A19 = true := by kernel_rfl
theorem q5G19 : gives (evalN envQ 1000 7 q5A19 ⟨0, .nil⟩) 40 q5V19 = true := by kernel_rfl
theorem q5C20 : AV.closeds q5A20 = true := by kernel_rfl
theorem q5G20 : gives (evalN envQ 1000 6 q5A20 ⟨0, .nil⟩) 40 q5V20 = true := by kernel_rfl
theorem q5C21 : AV.closeds q5A21 = true := by kernel_rfl
theorem q5G21 : gives (evalN envQ 1000 6 q5A21 ⟨0, .nil⟩) 40 q5V21 = true := by kernel_rfl
theorem q5C22 : AV.closeds q5A22 = true := by kernel_rfl
theorem q5G22 : gives (evalN envQ 1000 7 q5A22 ⟨0, .nil⟩) 40 q5V22 = true := by kernel_rfl
theorem q5C23 : AV.closeds q5A23 = true := by kernel_rfl
theorem q5G23 : gives (evalN envQ 1000 7 q5A23 ⟨0, .nil⟩) 40 q5V23 = true := by kernel_rfl
theorem q5C24 : AV.closeds q5A24 = true := by kernel_rfl
theorem q5G24 : gives (evalN envQ 1000 6 q5A24 ⟨0, .nil⟩) 40 q5V24 = true := by kernel_rfl
theorem q5C25 : AV.closeds q5A25 = true := by kernel_rfl
theorem q5G25 : gives (evalN envQ 1000 7 q5A25 ⟨0, .nil⟩) 40 q5V25 = true := by kernel_rfl
theorem q5C26 : AV.closeds q5A26 = true := by kernel_rfl
theorem q5G26 : gives (evalN envQ 1000 7 q5A26 ⟨0, .nil⟩) 40 q5V26 = true := by kernel_rfl
theorem q5C27 : AV.closeds q5A27 = true := by kernel_rfl
theorem q5G27 : gives (evalN envQ 1000 7 q5A27 ⟨0, .nil⟩) 40 q5V27 = true := by kernel_rfl
theorem q5C28 : AV.closeds q5A28 = true := by kernel_rfl
theorem q5G28 : gives (evalN envQ 1000 7 q5A28 ⟨0, .nil⟩) 40 q5V28 = true := by kernel_rfl
theorem q5C29 : AV.closeds q5A29 = true := by kernel_rfl
theorem q5G29 : gives (evalN envQ 1000 7 q5A29 ⟨0, .nil⟩) 40 q5V29 = true := by kernel_rfl
theorem q5C30 : AV.closeds q5A30 = true := by kernel_rfl
theorem q5G30 : gives (evalN envQ 1000 6 q5A30 ⟨0, .nil⟩) 40 q5V30 = true := by kernel_rfl
theorem q5C31 : AV.closeds q5A31 = true := by kernel_rfl
theorem q5G31 : gives (evalN envQ 1000 6 q5A31 ⟨0, .nil⟩) 40 q5V31 = true := by kernel_rfl
theorem q5C32 : AV.closeds q5A32 = true := by kernel_rfl
theorem q5G32 : gives (evalN envQ 1000 7 q5A32 ⟨0, .nil⟩) 40 q5V32 = true := by kernel_rfl
theorem q5C33 : AV.closeds q5A33 = true := by kernel_rfl
theorem q5G33 : gives (evalN envQ 1000 7 q5A33 ⟨0, .nil⟩) 40 q5V33 = true := by kernel_rfl
theorem q5C34 : AV.closeds q5A34 = true := by kernel_rfl
theorem q5G34 : gives (evalN envQ 1000 6 q5A34 ⟨0, .nil⟩) 40 q5V34 = true := by kernel_rfl
theorem q5C35 : AV.closeds q5A35 = true := by kernel_rfl
theorem q5G35 : gives (evalN envQ 1000 7 q5A35 ⟨0, .nil⟩) 40 q5V35 = true := by kernel_rfl
theorem q5C36 : AV.closeds q5A36 = true := by kernel_rfl
theorem q5G36 : gives (evalN envQ 1000 7 q5A36 ⟨0, .nil⟩) 40 q5V36 = true := by kernel_rfl
theorem q5C37 : AV.closeds q5A37 = true := by kernel_rfl
theorem q5G37 : gives (evalN envQ 1000 7 q5A37 ⟨0, .nil⟩) 40 q5V37 = true := by kernel_rfl
theorem q5C38 : AV.closeds q5A38 = true := by kernel_rfl
theorem q5G38 : gives (evalN envQ 1000 7 q5A38 ⟨0, .nil⟩) 40 q5V38 = true := by kernel_rfl
theorem q5C39 : AV.closeds q5A39 = true := by kernel_rfl
theorem q5G39 : gives (evalN envQ 1000 7 q5A39 ⟨0, .nil⟩) 40 q5V39 = true := by kernel_rfl
theorem q5C40 : AV.closeds q5A40 = true := by kernel_rfl
theorem q5G40 : gives (evalN envQ 1000 6 q5A40 ⟨0, .nil⟩) 40 q5V40 = true := by kernel_rfl
theorem q5C41 : AV.closeds q5A41 = true := by kernel_rfl
theorem q5G41 : gives (evalN envQ 1000 6 q5A41 ⟨0, .nil⟩) 40 q5V41 = true := by kernel_rfl
theorem q5C42 : AV.closeds q5A42 = true := by kernel_rfl
theorem q5G42 : gives (evalN envQ 1000 7 q5A42 ⟨0, .nil⟩) 40 q5V42 = true := by kernel_rfl
theorem q5C43 : AV.closeds q5A43 = true := by kernel_rfl
theorem q5G43 : gives (evalN envQ 1000 7 q5A43 ⟨0, .nil⟩) 40 q5V43 = true := by kernel_rfl
theorem q5C44 : AV.closeds q5A44 = true := by kernel_rfl
theorem q5G44 : gives (evalN envQ 1000 6 q5A44 ⟨0, .nil⟩) 40 q5V44 = true := by kernel_rfl
theorem q5C45 : AV.closeds q5A45 = true := by kernel_rfl
theorem q5G45 : gives (evalN envQ 1000 7 q5A45 ⟨0, .nil⟩) 40 q5V45 = true := by kernel_rfl
theorem q5C46 : AV.closeds q5A46 = true := by kernel_rfl
theorem q5G46 : gives (evalN envQ 1000 7 q5A46 ⟨0, .nil⟩) 40 q5V46 = true := by kernel_rfl
theorem q5C47 : AV.closeds q5A47 = true := by kernel_rfl
theorem q5G47 : gives (evalN envQ 1000 7 q5A47 ⟨0, .nil⟩) 40 q5V47 = true := by kernel_rfl
theorem q5C48 : AV.closeds q5A48 = true := by kernel_rfl
theorem q5G48 : gives (evalN envQ 1000 7 q5A48 ⟨0, .nil⟩) 40 q5V48 = true := by kernel_rfl
theorem q5C49 : AV.closeds q5A49 = true := by kernel_rfl
theorem q5G49 : gives (evalN envQ 1000 7 q5A49 ⟨0, .nil⟩) 40 q5V49 = true := by kernel_rfl
theorem q5C50 : AV.closeds q5A50 = true := by kernel_rfl
theorem q5G50 : gives (evalN envQ 1000 6 q5A50 ⟨0, .nil⟩) 40 q5V50 = true := by kernel_rfl
theorem q5C51 : AV.closeds q5A51 = true := by kernel_rfl
theorem q5G51 : gives (evalN envQ 1000 6 q5A51 ⟨0, .nil⟩) 40 q5V51 = true := by kernel_rfl
theorem q5C52 : AV.closeds q5A52 = true := by kernel_rfl
theorem q5G52 : gives (evalN envQ 1000 7 q5A52 ⟨0, .nil⟩) 40 q5V52 = true := by kernel_rfl
theorem q5C53 : AV.closeds q5A53 = true := by kernel_rfl
theorem q5G53 : gives (evalN envQ 1000 7 q5A53 ⟨0, .nil⟩) 40 q5V53 = true := by kernel_rfl
theorem q5C54 : AV.closeds q5A54 = true := by kernel_rfl
theorem q5G54 : gives (evalN envQ 1000 6 q5A54 ⟨0, .nil⟩) 40 q5V54 = true := by kernel_rfl
theorem q5C55 : AV.closeds q5A55 = true := by kernel_rfl
theorem q5G55 : gives (evalN envQ 1000 7 q5A55 ⟨0, .nil⟩) 40 q5V55 = true := by kernel_rfl
theorem q5C56 : AV.closeds q5A56 = true := by kernel_rfl
theorem q5G56 : gives (evalN envQ 1000 7 q5A56 ⟨0, .nil⟩) 40 q5V56 = true := by kernel_rfl
theorem q5C57 : AV.closeds q5A57 = true := by kernel_rfl
theorem q5G57 : gives (evalN envQ 1000 7 q5A57 ⟨0, .nil⟩) 40 q5V57 = true := by kernel_rfl
theorem q5C58 : AV.closeds q5A58 = true := by kernel_rfl
theorem q5G58 : gives (evalN envQ 1000 7 q5A58 ⟨0, .nil⟩) 40 q5V58 = true := by kernel_rfl
theorem q5C59 : AV.closeds q5A59 = true := by kernel_rfl
theorem q5G59 : gives (evalN envQ 1000 7 q5A59 ⟨0, .nil⟩) 40 q5V59 = true := by kernel_rfl
theorem q5C60 : AV.closeds q5A60 = true := by kernel_rfl
theorem q5G60 : gives (evalN envQ 1000 6 q5A60 ⟨0, .nil⟩) 40 q5V60 = true := by kernel_rfl
theorem q5C61 : AV.closeds q5A61 = true := by kernel_rfl
theorem q5G61 : gives (evalN envQ 1000 6 q5A61 ⟨0, .nil⟩) 40 q5V61 = true := by kernel_rfl
theorem q5C62 : AV.closeds q5A62 = true := by kernel_rfl
theorem q5G62 : gives (evalN envQ 1000 7 q5A62 ⟨0, .nil⟩) 40 q5V62 = true := by kernel_rfl
theorem q5C63 : AV.closeds q5A63 = true := by kernel_rfl
theorem q5G63 : gives (evalN envQ 1000 7 q5A63 ⟨0, .nil⟩) 40 q5V63 = true := by kernel_rfl
theorem q5C64 : AV.closeds q5A64 = true := by kernel_rfl
theorem q5G64 : gives (evalN envQ 1000 6 q5A64 ⟨0, .nil⟩) 40 q5V64 = true := by kernel_rfl
theorem q5C65 : AV.closeds q5A65 = true := by kernel_rfl
theorem q5G65 : gives (evalN envQ 1000 6 q5A65 ⟨0, .nil⟩) 40 q5V65 = true := by kernel_rfl
theorem q5C66 : AV.closeds q5A66 = true := by kernel_rfl
theorem q5G66 : gives (evalN envQ 1000 7 q5A66 ⟨0, .nil⟩) 40 q5V66 = true := by kernel_rfl
theorem q5C67 : AV.closeds q5A67 = true := by kernel_rfl
theorem q5G67 : gives (evalN envQ 1000 7 q5A67 ⟨0, .nil⟩) 40 q5V67 = true := by kernel_rfl
end Rfx.RfxEnvB
