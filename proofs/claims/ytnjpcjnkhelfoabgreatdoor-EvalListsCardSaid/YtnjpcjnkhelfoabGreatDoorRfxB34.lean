/- The texts evaluated with a list of 4 numbers. -/
import Derived.Test.YtnjpcjnkhelfoabGreatDoorRfxB1t
set_option linter.unusedSectionVars false
set_option linter.unusedVariables false
set_option linter.unusedSimpArgs false
set_option linter.unnecessarySimpa false
namespace Rfx.RfxEnvB
set_option maxRecDepth 20000
open Go Go.Proofs

def q4A0 : List AV := [.str [97, 116, 40, 112, 117, 115, 104, 40, 118, 44, 32, 120, 41, 44, 32, 115, 105, 122, 101, 40, 118, 41, 41, 32, 61, 61, 32, 120], .agg [.int .i64 2, .int .i64 0, .str [], .fsl 4 false [.int .i64 0, .sym .i64 10, .str [], .nilsl, .int .i64 0, .sym .i64 11, .str [], .nilsl, .int .i64 0, .sym .i64 12, .str [], .nilsl, .int .i64 0, .sym .i64 13, .str [], .nilsl]], .sym .i64 2, .sym .i64 0]
def q4V0 : AV := .bool true
def q4A1 : List AV := [.str [116, 97, 107, 101, 40, 112, 117, 115, 104, 40, 118, 44, 32, 120, 41, 44, 32, 115, 105, 122, 101, 40, 118, 41, 41, 32, 61, 61, 32, 118], .agg [.int .i64 2, .int .i64 0, .str [], .fsl 4 false [.int .i64 0, .sym .i64 10, .str [], .nilsl, .int .i64 0, .sym .i64 11, .str [], .nilsl, .int .i64 0, .sym .i64 12, .str [], .nilsl, .int .i64 0, .sym .i64 13, .str [], .nilsl]], .sym .i64 2, .sym .i64 0]
def q4V1 : AV := .bool true
def q4A2 : List AV := [.str [115, 105, 122, 101, 40, 116, 97, 107, 101, 40, 118, 44, 32, 105, 41, 41, 32, 43, 32, 115, 105, 122, 101, 40, 100, 114, 111, 112, 40, 118, 44, 32, 105, 41, 41, 32, 61, 61, 32, 115, 105, 122, 101, 40, 118, 41], .agg [.int .i64 2, .int .i64 0, .str [], .fsl 4 false [.int .i64 0, .sym .i64 10, .str [], .nilsl, .int .i64 0, .sym .i64 11, .str [], .nilsl, .int .i64 0, .sym .i64 12, .str [], .nilsl, .int .i64 0, .sym .i64 13, .str [], .nilsl]], .int .i64 (-2), .sym .i64 0]
def q4V2 : AV := .bool true
def q4A3 : List AV := [.str [115, 105, 122, 101, 40, 116, 97, 107, 101, 40, 118, 44, 32, 105, 41, 41, 32, 61, 61, 32, 109, 97, 120, 40, 48, 44, 32, 109, 105, 110, 40, 105, 44, 32, 115, 105, 122, 101, 40, 118, 41, 41, 41], .agg [.int .i64 2, .int .i64 0, .str [], .fsl 4 false [.int .i64 0, .sym .i64 10, .str [], .nilsl, .int .i64 0, .sym .i64 11, .str [], .nilsl, .int .i64 0, .sym .i64 12, .str [], .nilsl, .int .i64 0, .sym .i64 13, .str [], .nilsl]], .int .i64 (-2), .sym .i64 0]
def q4V3 : AV := .bool true
def q4A4 : List AV := [.str [97, 116, 40, 118, 44, 32, 105, 41], .agg [.int .i64 2, .int .i64 0, .str [], .fsl 4 false [.int .i64 0, .sym .i64 10, .str [], .nilsl, .int .i64 0, .sym .i64 11, .str [], .nilsl, .int .i64 0, .sym .i64 12, .str [], .nilsl, .int .i64 0, .sym .i64 13, .str [], .nilsl]], .int .i64 (-2), .sym .i64 0]
def q4V4 : AV := .tup [.agg [.int .i64 0, .int .i64 0, .str [], .nilsl], .int .i64 13]
def q4A5 : List AV := [.str [115, 101, 116, 40, 118, 44, 32, 105, 44, 32, 120, 41], .agg [.int .i64 2, .int .i64 0, .str [], .fsl 4 false [.int .i64 0, .sym .i64 10, .str [], .nilsl, .int .i64 0, .sym .i64 11, .str [], .nilsl, .int .i64 0, .sym .i64 12, .str [], .nilsl, .int .i64 0, .sym .i64 13, .str [], .nilsl]], .int .i64 (-2), .sym .i64 0]
def q4V5 : AV := .tup [.agg [.int .i64 0, .int .i64 0, .str [], .nilsl], .int .i64 13]
def q4A6 : List AV := [.str [115, 105, 122, 101, 40, 116, 97, 107, 101, 40, 118, 44, 32, 105, 41, 41, 32, 43, 32, 115, 105, 122, 101, 40, 100, 114, 111, 112, 40, 118, 44, 32, 105, 41, 41, 32, 61, 61, 32, 115, 105, 122, 101, 40, 118, 41], .agg [.int .i64 2, .int .i64 0, .str [], .fsl 4 false [.int .i64 0, .sym .i64 10, .str [], .nilsl, .int .i64 0, .sym .i64 11, .str [], .nilsl, .int .i64 0, .sym .i64 12, .str [], .nilsl, .int .i64 0, .sym .i64 13, .str [], .nilsl]], .int .i64 (-1), .sym .i64 0]
def q4V6 : AV := .bool true
def q4A7 : List AV := [.str [115, 105, 122, 101, 40, 116, 97, 107, 101, 40, 118, 44, 32, 105, 41, 41, 32, 61, 61, 32, 109, 97, 120, 40, 48, 44, 32, 109, 105, 110, 40, 105, 44, 32, 115, 105, 122, 101, 40, 118, 41, 41, 41], .agg [.int .i64 2, .int .i64 0, .str [], .fsl 4 false [.int .i64 0, .sym .i64 10, .str [], .nilsl, .int .i64 0, .sym .i64 11, .str [], .nilsl, .int .i64 0, .sym .i64 12, .str [], .nilsl, .int .i64 0, .sym .i64 13, .str [], .nilsl]], .int .i64 (-1), .sym .i64 0]
def q4V7 : AV := .bool true
def q4A8 : List AV := [.str [97, 116, 40, 118, 44, 32, 105, 41], .agg [.int .i64 2, .int .i64 0, .str [], .fsl 4 false [.int .i64 0, .sym .i64 10, .str [], .nilsl, .int .i64 0, .sym .i64 11, .str [], .nilsl, .int .i64 0, .sym .i64 12, .str [], .nilsl, .int .i64 0, .sym .i64 13, .str [], .nilsl]], .int .i64 (-1), .sym .i64 0]
def q4V8 : AV := .tup [.agg [.int .i64 0, .int .i64 0, .str [], .nilsl], .int .i64 13]
def q4A9 : List AV := [.str [115, 101, 116, 40, 118, 44, 32, 105, 44, 32, 120, 41], .agg [.int .i64 2, .int .i64 0, .str [], .fsl 4 false [.int .i64 0, .sym .i64 10, .str [], .nilsl, .int .i64 0, .sym .i64 11, .str [], .nilsl, .int .i64 0, .sym .i64 12, .str [], .nilsl, .int .i64 0, .sym .i64 13, .str [], .nilsl]], .int .i64 (-1), .sym .i64 0]
def q4V9 : AV := .tup [.agg [.int .i64 0, .int .i64 0, .str [], .nilsl], .int .i64 13]
def q4A10 : List AV := [.str [115, 105, 122, 101, 40, 116, 97, 107, 101, 40, 118, 44, 32, 105, 41, 41, 32, 43, 32, 115, 105, 122, 101, 40, 100, 114, 111, 112, 40, 118, 44, 32, 105, 41, 41, 32, 61, 61, 32, 115, 105, 122, 101, 40, 118, 41], .agg [.int .i64 2, .int .i64 0, .str [], .fsl 4 false [.int .i64 0, .sym .i64 10, .str [], .nilsl, .int .i64 0, .sym .i64 11, .str [], .nilsl, .int .i64 0, .sym .i64 12, .str [], .nilsl, .int .i64 0, .sym .i64 13, .str [], .nilsl]], .int .i64 0, .sym .i64 0]
def q4V10 : AV := .bool true
def q4A11 : List AV := [.str [115, 105, 122, 101, 40, 116, 97, 107, 101, 40, 118, 44, 32, 105, 41, 41, 32, 61, 61, 32, 109, 97, 120, 40, 48, 44, 32, 109, 105, 110, 40, 105, 44, 32, 115, 105, 122, 101, 40, 118, 41, 41, 41], .agg [.int .i64 2, .int .i64 0, .str [], .fsl 4 false [.int .i64 0, .sym .i64 10, .str [], .nilsl, .int .i64 0, .sym .i64 11, .str [], .nilsl, .int .i64 0, .sym .i64 12, .str [], .nilsl, .int .i64 0, .sym .i64 13, .str [], .nilsl]], .int .i64 0, .sym .i64 0]
def q4V11 : AV := .bool true
def q4A12 : List AV := [.str [97, 116, 40, 118, 44, 32, 105, 41], .agg [.int .i64 2, .int .i64 0, .str [], .fsl 4 false [.int .i64 0, .sym .i64 10, .str [], .nilsl, .int .i64 0, .sym .i64 11, .str [], .nilsl, .int .i64 0, .sym .i64 12, .str [], .nilsl, .int .i64 0, .sym .i64 13, .str [], .nilsl]], .int .i64 0, .sym .i64 0]
def q4V12 : AV := .tup [.agg [.int .i64 0, .sym .i64 10, .str [], .nilsl], .int .i64 0]
def q4A13 : List AV := [.str [115, 101, 116, 40, 118, 44, 32, 105, 44, 32, 120, 41], .agg [.int .i64 2, .int .i64 0, .str [], .fsl 4 false [.int .i64 0, .sym .i64 10, .str [], .nilsl, .int .i64 0, .sym .i64 11, .str [], .nilsl, .int .i64 0, .sym .i64 12, .str [], .nilsl, .int .i64 0, .sym .i64 13, .str [], .nilsl]], .int .i64 0, .sym .i64 0]
def q4V13 : AV := .tup [.agg [.int .i64 2, .int .i64 0, .str [], .fsl 4 false [.int .i64 0, .sym .i64 0, .str [], .nilsl, .int .i64 0, .sym .i64 11, .str [], .nilsl, .int .i64 0, .sym .i64 12, .str [], .nilsl, .int .i64 0, .sym .i64 13, .str [], .nilsl]], .int .i64 0]
def q4A14 : List AV := [.str [97, 116, 40, 115, 101, 116, 40, 118, 44, 32, 105, 44, 32, 120, 41, 44, 32, 105, 41, 32, 61, 61, 32, 120, 32, 97, 110, 100, 32, 97, 116, 40, 116, 97, 107, 101, 40, 118, 44, 32, 105, 32, 43, 32, 49, 41, 44, 32, 105, 41, 32, 61, 61, 32, 97, 116, 40, 118, 44, 32, 105, 41, 32, 97, 110, 100, 32, 97, 116, 40, 100, 114, 111, 112, 40, 118, 44, 32, 105, 41, 44, 32, 48, 41, 32, 61, 61, 32, 97, 116, 40, 118, 44, 32, 105, 41], .agg [.int .i64 2, .int .i64 0, .str [], .fsl 4 false [.int .i64 0, .sym .i64 10, .str [], .nilsl, .int .i64 0, .sym .i64 11, .str [], .nilsl, .int .i64 0, .sym .i64 12, .str [], .nilsl, .int .i64 0, .sym .i64 13, .str [], .nilsl]], .int .i64 0, .sym .i64 0]
def q4V14 : AV := .bool true
def q4A15 : List AV := [.str [97, 116, 40, 115, 101, 116, 40, 118, 44, 32, 105, 44, 32, 120, 41, 44, 32, 48, 41], .agg [.int .i64 2, .int .i64 0, .str [], .fsl 4 false [.int .i64 0, .sym .i64 10, .str [], .nilsl, .int .i64 0, .sym .i64 11, .str [], .nilsl, .int .i64 0, .sym .i64 12, .str [], .nilsl, .int .i64 0, .sym .i64 13, .str [], .nilsl]], .int .i64 0, .sym .i64 0]
def q4V15 : AV := .tup [.agg [.int .i64 0, .sym .i64 0, .str [], .nilsl], .int .i64 0]
def q4A16 : List AV := [.str [97, 116, 40, 115, 101, 116, 40, 118, 44, 32, 105, 44, 32, 120, 41, 44, 32, 49, 41], .agg [.int .i64 2, .int .i64 0, .str [], .fsl 4 false [.int .i64 0, .sym .i64 10, .str [], .nilsl, .int .i64 0, .sym .i64 11, .str [], .nilsl, .int .i64 0, .sym .i64 12, .str [], .nilsl, .int .i64 0, .sym .i64 13, .str [], .nilsl]], .int .i64 0, .sym .i64 0]
def q4V16 : AV := .tup [.agg [.int .i64 0, .sym .i64 11, .str [], .nilsl], .int .i64 0]
def q4A17 : List AV := [.str [97, 116, 40, 115, 101, 116, 40, 118, 44, 32, 105, 44, 32, 120, 41, 44, 32, 50, 41], .agg [.int .i64 2, .int .i64 0, .str [], .fsl 4 false [.int .i64 0, .sym .i64 10, .str [], .nilsl, .int .i64 0, .sym .i64 11, .str [], .nilsl, .int .i64 0, .sym .i64 12, .str [], .nilsl, .int .i64 0, .sym .i64 13, .str [], .nilsl]], .int .i64 0, .sym .i64 0]
def q4V17 : AV := .tup [.agg [.int .i64 0, .sym .i64 12, .str [], .nilsl], .int .i64 0]
def q4A18 : List AV := [.str [97, 116, 40, 115, 101, 116, 40, 118, 44, 32, 105, 44, 32, 120, 41, 44, 32, 51, 41], .agg [.int .i64 2, .int .i64 0, .str [], .fsl 4 false [.int .i64 0, .sym .i64 10, .str [], .nilsl, .int .i64 0, .sym .i64 11, .str [], .nilsl, .int .i64 0, .sym .i64 12, .str [], .nilsl, .int .i64 0, .sym .i64 13, .str [], .nilsl]], .int .i64 0, .sym .i64 0]
def q4V18 : AV := .tup [.agg [.int .i64 0, .sym .i64 13, .str [], .nilsl], .int .i64 0]
def q4A19 : List AV := [.str [115, 105, 122, 101, 40, 116, 97, 107, 101, 40, 118, 44, 32, 105, 41, 41, 32, 43, 32, 115, 105, 122, 101, 40, 100, 114, 111, 112, 40, 118, 44, 32, 105, 41, 41, 32, 61, 61, 32, 115, 105, 122, 101, 40, 118, 41], .agg [.int .i64 2, .int .i64 0, .str [], .fsl 4 false [.int .i64 0, .sym .i64 10, .str [], .nilsl, .int .i64 0, .sym .i64 11, .str [], .nilsl, .int .i64 0, .sym .i64 12, .str [], .nilsl, .int .i64 0, .sym .i64 13, .str [], .nilsl]], .int .i64 1, .sym .i64 0]
def q4V19 : AV := .bool true
def q4A20 : List AV := [.str [115, 105, 122, 101, 40, 116, 97, 107, 101, 40, 118, 44, 32, 105, 41, 41, 32, 61, 61, 32, 109, 97, 120, 40, 48, 44, 32, 109, 105, 110, 40, 105, 44, 32, 115, 105, 122, 101, 40, 118, 41, 41, 41], .agg [.int .i64 2, .int .i64 0, .str [], .fsl 4 false [.int .i64 0, .sym .i64 10, .str [], .nilsl, .int .i64 0, .sym .i64 11, .str [], .nilsl, .int .i64 0, .sym .i64 12, .str [], .nilsl, .int .i64 0, .sym .i64 13, .str [], .nilsl]], .int .i64 1, .sym .i64 0]
def q4V20 : AV := .bool true
def q4A21 : List AV := [.str [97, 116, 40, 118, 44, 32, 105, 41], .agg [.int .i64 2, .int .i64 0, .str [], .fsl 4 false [.int .i64 0, .sym .i64 10, .str [], .nilsl, .int .i64 0, .sym .i64 11, .str [], .nilsl, .int .i64 0, .sym .i64 12, .str [], .nilsl, .int .i64 0, .sym .i64 13, .str [], .nilsl]], .int .i64 1, .sym .i64 0]
def q4V21 : AV := .tup [.agg [.int .i64 0, .sym .i64 11, .str [], .nilsl], .int .i64 0]
def q4A22 : List AV := [.str [115, 101, 116, 40, 118, 44, 32, 105, 44, 32, 120, 41], .agg [.int .i64 2, .int .i64 0, .str [], .fsl 4 false [.int .i64 0, .sym .i64 10, .str [], .nilsl, .int .i64 0, .sym .i64 11, .str [], .nilsl, .int .i64 0, .sym .i64 12, .str [], .nilsl, .int .i64 0, .sym .i64 13, .str [], .nilsl]], .int .i64 1, .sym .i64 0]
def q4V22 : AV := .tup [.agg [.int .i64 2, .int .i64 0, .str [], .fsl 4 false [.int .i64 0, .sym .i64 10, .str [], .nilsl, .int .i64 0, .sym .i64 0, .str [], .nilsl, .int .i64 0, .sym .i64 12, .str [], .nilsl, .int .i64 0, .sym .i64 13, .str [], .nilsl]], .int .i64 0]
def q4A23 : List AV := [.str [97, 116, 40, 115, 101, 116, 40, 118, 44, 32, 105, 44, 32, 120, 41, 44, 32, 105, 41, 32, 61, 61, 32, 120, 32, 97, 110, 100, 32, 97, 116, 40, 116, 97, 107, 101, 40, 118, 44, 32, 105, 32, 43, 32, 49, 41, 44, 32, 105, 41, 32, 61, 61, 32, 97, 116, 40, 118, 44, 32, 105, 41, 32, 97, 110, 100, 32, 97, 116, 40, 100, 114, 111, 112, 40, 118, 44, 32, 105, 41, 44, 32, 48, 41, 32, 61, 61, 32, 97, 116, 40, 118, 44, 32, 105, 41], .agg [.int .i64 2, .int .i64 0, .str [], .fsl 4 false [.int .i64 0, .sym .i64 10, .str [], .nilsl, .int .i64 0, .sym .i64 11, .str [], .nilsl, .int .i64 0, .sym .i64 12, .str [], .nilsl, .int .i64 0, .sym .i64 13, .str [], .nilsl]], .int .i64 1, .sym .i64 0]
def q4V23 : AV := .bool true
def q4A24 : List AV := [.str [97, 116, 40, 115, 101, 116, 40, 118, 44, 32, 105, 44, 32, 120, 41, 44, 32, 48, 41], .agg [.int .i64 2, .int .i64 0, .str [], .fsl 4 false [.int .i64 0, .sym .i64 10, .str [], .nilsl, .int .i64 0, .sym .i64 11, .str [], .nilsl, .int .i64 0, .sym .i64 12, .str [], .nilsl, .int .i64 0, .sym .i64 13, .str [], .nilsl]], .int .i64 1, .sym .i64 0]
def q4V24 : AV := .tup [.agg [.int .i64 0, .sym .i64 10, .str [], .nilsl], .int .i64 0]
def q4A25 : List AV := [.str [97, 116, 40, 115, 101, 116, 40, 118, 44, 32, 105, 44, 32, 120, 41, 44, 32, 49, 41], .agg [.int .i64 2, .int .i64 0, .str [], .fsl 4 false [.int .i64 0, .sym .i64 10, .str [], .nilsl, .int .i64 0, .sym .i64 11, .str [], .nilsl, .int .i64 0, .sym .i64 12, .str [], .nilsl, .int .i64 0, .sym .i64 13, .str [], .nilsl]], .int .i64 1, .sym .i64 0]
def q4V25 : AV := .tup [.agg [.int .i64 0, .sym .i64 0, .str [], .nilsl], .int .i64 0]
def q4A26 : List AV := [.str [97, 116, 40, 115, 101, 116, 40, 118, 44, 32, 105, 44, 32, 120, 41, 44, 32, 50, 41], .agg [.int .i64 2, .int .i64 0, .str [], .fsl 4 false [.int .i64 0, .sym .i64 10, .str [], .nilsl, .int .i64 0, .sym .i64 11, .str [], .nilsl, .int .i64 0, .sym .i64 12, .str [], .nilsl, .int .i64 0, .sym .i64 13, .str [], .nilsl]], .int .i64 1, .sym .i64 0]
def q4V26 : AV := .tup [.agg [.int .i64 0, .sym .i64 12, .str [], .nilsl], .int .i64 0]
def q4A27 : List AV := [.str [97, 116, 40, 115, 101, 116, 40, 118, 44, 32, 105, 44, 32, 120, 41, 44, 32, 51, 41], .agg [.int .i64 2, .int .i64 0, .str [], .fsl 4 false [.int .i64 0, .sym .i64 10, .str [], .nilsl, .int .i64 0, .sym .i64 11, .str [], .nilsl, .int .i64 0, .sym .i64 12, .str [], .nilsl, .int .i64 0, .sym .i64 13, .str [], .nilsl]], .int .i64 1, .sym .i64 0]
def q4V27 : AV := .tup [.agg [.int .i64 0, .sym .i64 13, .str [], .nilsl], .int .i64 0]
def q4A28 : List AV := [.str [115, 105, 122, 101, 40, 116, 97, 107, 101, 40, 118, 44, 32, 105, 41, 41, 32, 43, 32, 115, 105, 122, 101, 40, 100, 114, 111, 112, 40, 118, 44, 32, 105, 41, 41, 32, 61, 61, 32, 115, 105, 122, 101, 40, 118, 41], .agg [.int .i64 2, .int .i64 0, .str [], .fsl 4 false [.int .i64 0, .sym .i64 10, .str [], .nilsl, .int .i64 0, .sym .i64 11, .str [], .nilsl, .int .i64 0, .sym .i64 12, .str [], .nilsl, .int .i64 0, .sym .i64 13, .str [], .nilsl]], .int .i64 2, .sym .i64 0]
def q4V28 : AV := .bool true
def q4A29 : List AV := [.str [115, 105, 122, 101, 40, 116, 97, 107, 101, 40, 118, 44, 32, 105, 41, 41, 32, 61, 61, 32, 109, 97, 120, 40, 48, 44, 32, 109, 105, 110, 40, 105, 44, 32, 115, 105, 122, 101, 40, 118, 41, 41, 41], .agg [.int .i64 2, .int .i64 0, .str [], .fsl 4 false [.int .i64 0, .sym .i64 10, .str [], .nilsl, .int .i64 0, .sym .i64 11, .str [], .nilsl, .int .i64 0, .sym .i64 12, .str [], .nilsl, .int .i64 0, .sym .i64 13, .str [], .nilsl]], .int .i64 2, .sym .i64 0]
def q4V29 : AV := .bool true
def q4A30 : List AV := [.str [97, 116, 40, 118, 44, 32, 105, 41], .agg [.int .i64 2, .int .i64 0, .str [], .fsl 4 false [.int .i64 0, .sym .i64 10, .str [], .nilsl, .int .i64 0, .sym .i64 11, .str [], .nilsl, .int .i64 0, .sym .i64 12, .str [], .nilsl, .int .i64 0, .sym .i64 13, .str [], .nilsl]], .int .i64 2, .sym .i64 0]
def q4V30 : AV := .tup [.agg [.int .i64 0, .sym .i64 12, .str [], .nilsl], .int .i64 0]
def q4A31 : List AV := [.str [115, 101, 116, 40, 118, 44, 32, 105, 44, 32, 120, 41], .agg [.int .i64 2, .int .i64 0, .str [], .fsl 4 false [.int .i64 0, .sym .i64 10, .str [], .nilsl, .int .i64 0, .sym .i64 11, .str [], .nilsl, .int .i64 0, .sym .i64 12, .str [], .nilsl, .int .i64 0, .sym .i64 13, .str [], .nilsl]], .int .i64 2, .sym .i64 0]
def q4V31 : AV := .tup [.agg [.int .i64 2, .int .i64 0, .str [], .fsl 4 false [.int .i64 0, .sym .i64 10, .str [], .nilsl, .int .i64 0, .sym .i64 11, .str [], .nilsl, .int .i64 0, .sym .i64 0, .str [], .nilsl, .int .i64 0, .sym .i64 13, .str [], .nilsl]], .int .i64 0]
def q4A32 : List AV := [.str [97, 116, 40, 115, 101, 116, 40, 118, 44, 32, 105, 44, 32, 120, 41, 44, 32, 105, 41, 32, 61, 61, 32, 120, 32, 97, 110, 100, 32, 97, 116, 40, 116, 97, 107, 101, 40, 118, 44, 32, 105, 32, 43, 32, 49, 41, 44, 32, 105, 41, 32, 61, 61, 32, 97, 116, 40, 118, 44, 32, 105, 41, 32, 97, 110, 100, 32, 97, 116, 40, 100, 114, 111, 112, 40, 118, 44, 32, 105, 41, 44, 32, 48, 41, 32, 61, 61, 32, 97, 116, 40, 118, 44, 32, 105, 41], .agg [.int .i64 2, .int .i64 0, .str [], .fsl 4 false [.int .i64 0, .sym .i64 10, .str [], .nilsl, .int .i64 0, .sym .i64 11, .str [], .nilsl, .int .i64 0, .sym .i64 12, .str [], .nilsl, .int .i64 0, .sym .i64 13, .str [], .nilsl]], .int .i64 2, .sym .i64 0]
def q4V32 : AV := .bool true
def q4A33 : List AV := [.str [97, 116, 40, 115, 101, 116, 40, 118, 44, 32, 105, 44, 32, 120, 41, 44, 32, 48, 41], .agg [.int .i64 2, .int .i64 0, .str [], .fsl 4 false [.int .i64 0, .sym .i64 10, .str [], .nilsl, .int .i64 0, .sym .i64 11, .str [], .nilsl, .int .i64 0, .sym .i64 12, .str [], .nilsl, .int .i64 0, .sym .i64 13, .str [], .nilsl]], .int .i64 2, .sym .i64 0]
def q4V33 : AV := .tup [.agg [.int .i64 0, .sym .i64 10, .str [], .nilsl], .int .i64 0]
def q4A34 : List AV := [.str [97, 116, 40, 115, 101, 116, 40, 118, 44, 32, 105, 44, 32, 120, 41, 44, 32, 49, 41], .agg [.int .i64 2, .int .i64 0, .str [], .fsl 4 false [.int .i64 0, .sym .i64 10, .str [], .nilsl, .int .i64 0, .sym .i64 11, .str [], .nilsl, .int .i64 0, .sym .i64 12, .str [], .nilsl, .int .i64 0, .sym .i64 13, .str [], .nilsl]], .int .i64 2, .sym .i64 0]
def q4V34 : AV := .tup [.agg [.int .i64 0, .sym .i64 11, .str [], .nilsl], .int .i64 0]
def q4A35 : List AV := [.str [97, 116, 40, 115, 101, 116, 40, 118, 44, 32, 105, 44, 32, 120, 41, 44, 32, 50, 41], .agg [.int .i64 2, .int .i64 0, .str [], .fsl 4 false [.int .i64 0, .sym .i64 10, .str [], .nilsl, .int .i64 0, .sym .i64 11, .str [], .nilsl, .int .i64 0, .sym .i64 12, .str [], .nilsl, .int .i64 0, .sym .i64 13, .str [], .nilsl]], .int .i64 2, .sym .i64 0]
def q4V35 : AV := .tup [.agg [.int .i64 0, .sym .i64 0, .str [], .nilsl], .int .i64 0]
def q4A36 : List AV := [.str [97, 116, 40, 115, 101, 116, 40, 118, 44, 32, 105, 44, 32, 120, 41, 44, 32, 51, 41], .agg [.int .i64 2, .int .i64 0, .str [], .fsl 4 false [.int .i64 0, .sym .i64 10, .str [], .nilsl, .int .i64 0, .sym .i64 11, .str [], .nilsl, .int .i64 0, .sym .i64 12, .str [], .nilsl, .int .i64 0, .sym .i64 13, .str [], .nilsl]], .int .i64 2, .sym .i64 0]
def q4V36 : AV := .tup [.agg [.int .i64 0, .sym .i64 13, .str [], .nilsl], .int .i64 0]
def q4A37 : List AV := [.str [115, 105, 122, 101, 40, 116, 97, 107, 101, 40, 118, 44, 32, 105, 41, 41, 32, 43, 32, 115, 105, 122, 101, 40, 100, 114, 111, 112, 40, 118, 44, 32, 105, 41, 41, 32, 61, 61, 32, 115, 105, 122, 101, 40, 118, 41], .agg [.int .i64 2, .int .i64 0, .str [], .fsl 4 false [.int .i64 0, .sym .i64 10, .str [], .nilsl, .int .i64 0, .sym .i64 11, .str [], .nilsl, .int .i64 0, .sym .i64 12, .str [], .nilsl, .int .i64 0, .sym .i64 13, .str [], .nilsl]], .int .i64 3, .sym .i64 0]
def q4V37 : AV := .bool true
def q4A38 : List AV := [.str [115, 105, 122, 101, 40, 116, 97, 107, 101, 40, 118, 44, 32, 105, 41, 41, 32, 61, 61, 32, 109, 97, 120, 40, 48, 44, 32, 109, 105, 110, 40, 105, 44, 32, 115, 105, 122, 101, 40, 118, 41, 41, 41], .agg [.int .i64 2, .int .i64 0, .str [], .fsl 4 false [.int .i64 0, .sym .i64 10, .str [], .nilsl, .int .i64 0, .sym .i64 11, .str [], .nilsl, .int .i64 0, .sym .i64 12, .str [], .nilsl, .int .i64 0, .sym .i64 13, .str [], .nilsl]], .int .i64 3, .sym .i64 0]
def q4V38 : AV := .bool true
def q4A39 : List AV := [.str [97, 116, 40, 118, 44, 32, 105, 41], .agg [.int .i64 2, .int .i64 0, .str [], .fsl 4 false [.int .i64 0, .sym .i64 10, .str [], .nilsl, .int .i64 0, .sym .i64 11, .str [], .nilsl, .int .i64 0, .sym .i64 12, .str [], .nilsl, .int .i64 0, .sym .i64 13, .str [], .nilsl]], .int .i64 3, .sym .i64 0]
def q4V39 : AV := .tup [.agg [.int .i64 0, .sym .i64 13, .str [], .nilsl], .int .i64 0]
def q4A40 : List AV := [.str [115, 101, 116, 40, 118, 44, 32, 105, 44, 32, 120, 41], .agg [.int .i64 2, .int .i64 0, .str [], .fsl 4 false [.int .i64 0, .sym .i64 10, .str [], .nilsl, .int .i64 0, .sym .i64 11, .str [], .nilsl, .int .i64 0, .sym .i64 12, .str [], .nilsl, .int .i64 0, .sym .i64 13, .str [], .nilsl]], .int .i64 3, .sym .i64 0]
def q4V40 : AV := .tup [.agg [.int .i64 2, .int .i64 0, .str [], .fsl 4 false [.int .i64 0, .sym .i64 10, .str [], .nilsl, .int .i64 0, .sym .i64 11, .str [], .nilsl, .int .i64 0, .sym .i64 12, .str [], .nilsl, .int .i64 0, .sym .i64 0, .str [], .nilsl]], .int .i64 0]
def q4A41 : List AV := [.str [97, 116, 40, 115, 101, 116, 40, 118, 44, 32, 105, 44, 32, 120, 41, 44, 32, 105, 41, 32, 61, 61, 32, 120, 32, 97, 110, 100, 32, 97, 116, 40, 116, 97, 107, 101, 40, 118, 44, 32, 105, 32, 43, 32, 49, 41, 44, 32, 105, 41, 32, 61, 61, 32, 97, 116, 40, 118, 44, 32, 105, 41, 32, 97, 110, 100, 32, 97, 116, 40, 100, 114, 111, 112, 40, 118, 44, 32, 105, 41, 44, 32, 48, 41, 32, 61, 61, 32, 97, 116, 40, 118, 44, 32, 105, 41], .agg [.int .i64 2, .int .i64 0, .str [], .fsl 4 false [.int .i64 0, .sym .i64 10, .str [], .nilsl, .int .i64 0, .sym .i64 11, .str [], .nilsl, .int .i64 0, .sym .i64 12, .str [], .nilsl, .int .i64 0, .sym .i64 13, .str [], .nilsl]], .int .i64 3, .sym .i64 0]
def q4V41 : AV := .bool true
def q4A42 : List AV := [.str [97, 116, 40, 115, 101, 116, 40, 118, 44, 32, 105, 44, 32, 120, 41, 44, 32, 48, 41], .agg [.int .i64 2, .int .i64 0, .str [], .fsl 4 false [.int .i64 0, .sym .i64 10, .str [], .nilsl, .int .i64 0, .sym .i64 11, .str [], .nilsl, .int .i64 0, .sym .i64 12, .str [], .nilsl, .int .i64 0, .sym .i64 13, .str [], .nilsl]], .int .i64 3, .sym .i64 0]
def q4V42 : AV := .tup [.agg [.int .i64 0, .sym .i64 10, .str [], .nilsl], .int .i64 0]
def q4A43 : List AV := [.str [97, 116, 40, 115, 101, 116, 40, 118, 44, 32, 105, 44, 32, 120, 41, 44, 32, 49, 41], .agg [.int .i64 2, .int .i64 0, .str [], .fsl 4 false [.int .i64 0, .sym .i64 10, .str [], .nilsl, .int .i64 0, .sym .i64 11, .str [], .nilsl, .int .i64 0, .sym .i64 12, .str [], .nilsl, .int .i64 0, .sym .i64 13, .str [], .nilsl]], .int .i64 3, .sym .i64 0]
def q4V43 : AV := .tup [.agg [.int .i64 0, .sym .i64 11, .str [], .nilsl], .int .i64 0]
def q4A44 : List AV := [.str [97, 116, 40, 115, 101, 116, 40, 118, 44, 32, 105, 44, 32, 120, 41, 44, 32, 50, 41], .agg [.int .i64 2, .int .i64 0, .str [], .fsl 4 false [.int .i64 0, .sym .i64 10, .str [], .nilsl, .int .i64 0, .sym .i64 11, .str [], .nilsl, .int .i64 0, .sym .i64 12, .str [], .nilsl, .int .i64 0, .sym .i64 13, .str [], .nilsl]], .int .i64 3, .sym .i64 0]
def q4V44 : AV := .tup [.agg [.int .i64 0, .sym .i64 12, .str [], .nilsl], .int .i64 0]
def q4A45 : List AV := [.str [97, 116, 40, 115, 101, 116, 40, 118, 44, 32, 105, 44, 32, 120, 41, 44, 32, 51, 41], .agg [.int .i64 2, .int .i64 0, .str [], .fsl 4 false [.int .i64 0, .sym .i64 10, .str [], .nilsl, .int .i64 0, .sym .i64 11, .str [], .nilsl, .int .i64 0, .sym .i64 12, .str [], .nilsl, .int .i64 0, .sym .i64 13, .str [], .nilsl]], .int .i64 3, .sym .i64 0]
def q4V45 : AV := .tup [.agg [.int .i64 0, .sym .i64 0, .str [], .nilsl], .int .i64 0]
def q4A46 : List AV := [.str [115, 105, 122, 101, 40, 116, 97, 107, 101, 40, 118, 44, 32, 105, 41, 41, 32, 43, 32, 115, 105, 122, 101, 40, 100, 114, 111, 112, 40, 118, 44, 32, 105, 41, 41, 32, 61, 61, 32, 115, 105, 122, 101, 40, 118, 41], .agg [.int .i64 2, .int .i64 0, .str [], .fsl 4 false [.int .i64 0, .sym .i64 10, .str [], .nilsl, .int .i64 0, .sym .i64 11, .str [], .nilsl, .int .i64 0, .sym .i64 12, .str [], .nilsl, .int .i64 0, .sym .i64 13, .str [], .nilsl]], .int .i64 4, .sym .i64 0]
def q4V46 : AV := .bool true
def q4A47 : List AV := [.str [115, 105, 122, 101, 40, 116, 97, 107, 101, 40, 118, 44, 32, 105, 41, 41, 32, 61, 61, 32, 109, 97, 120, 40, 48, 44, 32, 109, 105, 110, 40, 105, 44, 32, 115, 105, 122, 101, 40, 118, 41, 41, 41], .agg [.int .i64 2, .int .i64 0, .str [], .fsl 4 false [.int .i64 0, .sym .i64 10, .str [], .nilsl, .int .i64 0, .sym .i64 11, .str [], .nilsl, .int .i64 0, .sym .i64 12, .str [], .nilsl, .int .i64 0, .sym .i64 13, .str [], .nilsl]], .int .i64 4, .sym .i64 0]
def q4V47 : AV := .bool true
def q4A48 : List AV := [.str [97, 116, 40, 118, 44, 32, 105, 41], .agg [.int .i64 2, .int .i64 0, .str [], .fsl 4 false [.int .i64 0, .sym .i64 10, .str [], .nilsl, .int .i64 0, .sym .i64 11, .str [], .nilsl, .int .i64 0, .sym .i64 12, .str [], .nilsl, .int .i64 0, .sym .i64 13, .str [], .nilsl]], .int .i64 4, .sym .i64 0]
def q4V48 : AV := .tup [.agg [.int .i64 0, .int .i64 0, .str [], .nilsl], .int .i64 13]
def q4A49 : List AV := [.str [115, 101, 116, 40, 118, 44, 32, 105, 44, 32, 120, 41], .agg [.int .i64 2, .int .i64 0, .str [], .fsl 4 false [.int .i64 0, .sym .i64 10, .str [], .nilsl, .int .i64 0, .sym .i64 11, .str [], .nilsl, .int .i64 0, .sym .i64 12, .str [], .nilsl, .int .i64 0, .sym .i64 13, .str [], .nilsl]], .int .i64 4, .sym .i64 0]
def q4V49 : AV := .tup [.agg [.int .i64 0, .int .i64 0, .str [], .nilsl], .int .i64 13]
def q4A50 : List AV := [.str [115, 105, 122, 101, 40, 116, 97, 107, 101, 40, 118, 44, 32, 105, 41, 41, 32, 43, 32, 115, 105, 122, 101, 40, 100, 114, 111, 112, 40, 118, 44, 32, 105, 41, 41, 32, 61, 61, 32, 115, 105, 122, 101, 40, 118, 41], .agg [.int .i64 2, .int .i64 0, .str [], .fsl 4 false [.int .i64 0, .sym .i64 10, .str [], .nilsl, .int .i64 0, .sym .i64 11, .str [], .nilsl, .int .i64 0, .sym .i64 12, .str [], .nilsl, .int .i64 0, .sym .i64 13, .str [], .nilsl]], .int .i64 5, .sym .i64 0]
def q4V50 : AV := .bool true
def q4A51 : List AV := [.str [115, 105, 122, 101, 40, 116, 97, 107, 101, 40, 118, 44, 32, 105, 41, 41, 32, 61, 61, 32, 109, 97, 120, 40, 48, 44, 32, 109, 105, 110, 40, 105, 44, 32, 115, 105, 122, 101, 40, 118, 41, 41, 41], .agg [.int .i64 2, .int .i64 0, .str [], .fsl 4 false [.int .i64 0, .sym .i64 10, .str [], .nilsl, .int .i64 0, .sym .i64 11, .str [], .nilsl, .int .i64 0, .sym .i64 12, .str [], .nilsl, .int .i64 0, .sym .i64 13, .str [], .nilsl]], .int .i64 5, .sym .i64 0]
def q4V51 : AV := .bool true
def q4A52 : List AV := [.str [97, 116, 40, 118, 44, 32, 105, 41], .agg [.int .i64 2, .int .i64 0, .str [], .fsl 4 false [.int .i64 0, .sym .i64 10, .str [], .nilsl, .int .i64 0, .sym .i64 11, .str [], .nilsl, .int .i64 0, .sym .i64 12, .str [], .nilsl, .int .i64 0, .sym .i64 13, .str [], .nilsl]], .int .i64 5, .sym .i64 0]
def q4V52 : AV := .tup [.agg [.int .i64 0, .int .i64 0, .str [], .nilsl], .int .i64 13]
def q4A53 : List AV := [.str [115, 101, 116, 40, 118, 44, 32, 105, 44, 32, 120, 41], .agg [.int .i64 2, .int .i64 0, .str [], .fsl 4 false [.int .i64 0, .sym .i64 10, .str [], .nilsl, .int .i64 0, .sym .i64 11, .str [], .nilsl, .int .i64 0, .sym .i64 12, .str [], .nilsl, .int .i64 0, .sym .i64 13, .str [], .nilsl]], .int .i64 5, .sym .i64 0]
def q4V53 : AV := .tup [.agg [.int .i64 0, .int .i64 0, .str [], .nilsl], .int .i64 13]
def q4A54 : List AV := [.str [115, 105, 122, 101, 40, 116, 97, 107, 101, 40, 118, 44, 32, 105, 41, 41, 32, 43, 32, 115, 105, 122, 101, 40, 100, 114, 111, 112, 40, 118, 44, 32, 105, 41, 41, 32, 61, 61, 32, 115, 105, 122, 101, 40, 118, 41], .agg [.int .i64 2, .int .i64 0, .str [], .fsl 4 false [.int .i64 0, .sym .i64 10, .str [], .nilsl, .int .i64 0, .sym .i64 11, .str [], .nilsl, .int .i64 0, .sym .i64 12, .str [], .nilsl, .int .i64 0, .sym .i64 13, .str [], .nilsl]], .int .i64 6, .sym .i64 0]
def q4V54 : AV := .bool true
def q4A55 : List AV := [.str [115, 105, 122, 101, 40, 116, 97, 107, 101, 40, 118, 44, 32, 105, 41, 41, 32, 61, 61, 32, 109, 97, 120, 40, 48, 44, 32, 109, 105, 110, 40, 105, 44, 32, 115, 105, 122, 101, 40, 118, 41, 41, 41], .agg [.int .i64 2, .int .i64 0, .str [], .fsl 4 false [.int .i64 0, .sym .i64 10, .str [], .nilsl, .int .i64 0, .sym .i64 11, .str [], .nilsl, .int .i64 0, .sym .i64 12, .str [], .nilsl, .int .i64 0, .sym .i64 13, .str [], .nilsl]], .int .i64 6, .sym .i64 0]
def q4V55 : AV := .bool true
def q4A56 : List AV := [.str [97, 116, 40, 118, 44, 32, 105, 41], .agg [.int .i64 2, .int .i64 0, .str [], .fsl 4 false [.int .i64 0, .sym .i64 10, .str [], .nilsl, .int .i64 0, .sym .i64 11, .str [], .nilsl, .int .i64 0, .sym .i64 12, .str [], .nilsl, .int .i64 0, .sym .i64 13, .str [], .nilsl]], .int .i64 6, .sym .i64 0]
def q4V56 : AV := .tup [.agg [.int .i64 0, .int .i64 0, .str [], .nilsl], .int .i64 13]
def q4A57 : List AV := [.str [115, 101, 116, 40, 118, 44, 32, 105, 44, 32, 120, 41], .agg [.int .i64 2, .int .i64 0, .str [], .fsl 4 false [.int .i64 0, .sym .i64 10, .str [], .nilsl, .int .i64 0, .sym .i64 11, .str [], .nilsl, .int .i64 0, .sym .i64 12, .str [], .nilsl, .int .i64 0, .sym .i64 13, .str [], .nilsl]], .int .i64 6, .sym .i64 0]
def q4V57 : AV := .tup [.agg [.int .i64 0, .int .i64 0, .str [], .nilsl], .int .i64 13]
noncomputable def q4T : List (Nat × List AV × AV) := [(6, q4A0, q4V0), (6, q4A1, q4V1), (6, q4A2, q4V2), (6, q4A3, q4V3), (7, q4A4, q4V4), (7, q4A5, q4V5), (6, q4A6, q4V6), (6, q4A7, q4V7), (7, q4A8, q4V8), (7, q4A9, q4V9), (6, q4A10, q4V10), (6, q4A11, q4V11), (7, q4A12, q4V12), (7, q4A13, q4V13), (6, q4A14, q4V14), (7, q4A15, q4V15), (7, q4A16, q4V16), (7, q4A17, q4V17), (7, q4A18, q4V18), (6, q4A19, q4V19), (6, q4A20, q4V20), (7, q4A21, q4V21), (7, q4A22, q4V22), (6, q4A23, q4V23), (7, q4A24, q4V24), (7, q4A25, q4V25), (7, q4A26, q4V26), (7, q4A27, q4V27), (6, q4A28, q4V28), (6, q4A29, q4V29), (7, q4A30, q4V30), (7, q4A31, q4V31), (6, q4A32, q4V32), (7, q4A33, q4V33), (7, q4A34, q4V34), (7, q4A35, q4V35), (7, q4A36, q4V36), (6, q4A37, q4V37), (6, q4A38, q4V38), (7, q4A39, q4V39), (7, q4A40, q4V40), (6, q4A41, q4V41), (7, q4A42, q4V42), (7, q4A43, q4V43), (7, q4A44, q4V44), (7, q4A45, q4V45), (6, q4A46, q4V46), (6, q4A47, q4V47), (7, q4A48, q4V48), (7, q4A49, q4V49), (6, q4A50, q4V50), (6, q4A51, q4V51), (7, q4A52, q4V52), (7, q4A53, q4V53), (6, q4A54, q4V54), (6, q4A55, q4V55), (7, q4A56, q4V56), (7, q4A57, q4V57)]
theorem q4C0 : AV.closeds q4A0 = true := by kernel_rfl
theorem q4G0 : gives (evalN envQ 1000 6 q4A0 ⟨0, .nil⟩) 40 q4V0 = true := by kernel_rfl
theorem q4C1 : AV.closeds q4A1 = true := by kernel_rfl
theorem q4G1 : gives (evalN envQ 1000 6 q4A1 ⟨0, .nil⟩) 40 q4V1 = true := by kernel_rfl
theorem q4C2 : AV.closeds q4A2 = true := by kernel_rfl
theorem q4G2 : gives (evalN envQ 1000 6 q4A2 ⟨0, .nil⟩) 40 q4V2 = true := by kernel_rfl
theorem q4C3 : AV.closeds q4A3 = true := by kernel_rfl
theorem q4G3 : gives (evalN envQ 1000 6 q4A3 ⟨0, .nil⟩) 40 q4V3 = true := by kernel_rfl
theorem q4C4 : AV.closeds q4A4 = true := by kernel_rfl
theorem q4G4 : gives (evalN envQ 1000 7 q4A4 ⟨0, .nil⟩) 40 q4V4 = true := by kernel_rfl
theorem q4C5 : AV.closeds q4A5 = true := by kernel_rfl
theorem q4G5 : gives (evalN envQ 1000 7 q4A5 ⟨0, .nil⟩) 40 q4V5 = true := by kernel_rfl
theorem q4C6 : AV.closeds q4A6 = true := by kernel_rfl
theorem q4G6 : gives (evalN envQ 1000 6 q4A6 ⟨0, .nil⟩) 40 q4V6 = true := by kernel_rfl
theorem q4C7 : AV.closeds q4A7 = true := by kernel_rfl
theorem q4G7 : gives (evalN envQ 1000 6 q4A7 ⟨0, .nil⟩) 40 q4V7 = true := by kernel_rfl
theorem q4C8 : AV.closeds q4A8 = true := by kernel_rfl
theorem q4G8 : gives (evalN envQ 1000 7 q4A8 ⟨0, .nil⟩) 40 q4V8 = true := by kernel_rfl
theorem q4C9 : AV.closeds q4A9 = true := by kernel_rfl
theorem q4G9 : gives (evalN envQ 1000 7 q4A9 ⟨0, .nil⟩) 40 q4V9 = true := by kernel_rfl
theorem q4C10 : AV.closeds q4A10 = true := by kernel_rfl
theorem q4G10 : gives (evalN envQ 1000 6 q4A10 ⟨0, .nil⟩) 40 q4V10 = true := by kernel_rfl
theorem q4C11 : AV.closeds q4A11 = true := by kernel_rfl
theorem q4G11 : gives (evalN envQ 1000 6 q4A11 ⟨0, .nil⟩) 40 q4V11 = true := by kernel_rfl
theorem q4C12 : AV.closeds q4A12 = true := by kernel_rfl
theorem q4G12 : gives (evalN envQ 1000 7 q4A12 ⟨0, .nil⟩) 40 q4V12 = true := by kernel_rfl
theorem q4C13 : AV.closeds q4A13 = true := by kernel_rfl
theorem q4G13 : gives (evalN envQ 1000 7 q4A13 ⟨0, .nil⟩) 40 q4V13 = true := by kernel_rfl
theorem q4C14 : AV.closeds q4A14 = true := by kernel_rfl
theorem q4G14 : gives (evalN envQ 1000 6 q4A14 ⟨0, .nil⟩) 40 q4V14 = true := by kernel_rfl
theorem q4C15 : AV.closeds q4A15 = true := by kernel_rfl
theorem q4G15 : gives (evalN envQ 1000 7 q4A15 ⟨0, .nil⟩) 40 q4V15 = true := by kernel_rfl
theorem q4C16 : AV.closeds q4A16 = true := by kernel_rfl
theorem q4G16 : gives (evalN envQ 1000 7 q4A16 ⟨0, .nil⟩) 40 q4V16 = true := by kernel_rfl
theorem q4C17 : AV.closeds q4A17 = true := by kernel_rfl
theorem q4G17 : gives (evalN envQ 1000 7 q4A17 ⟨0, .nil⟩) 40 q4V17 = true := by kernel_rfl
theorem q4C18 : AV.closeds q4A18 = true := by kernel_rfl
theorem q4G18 : gives (evalN envQ 1000 7 q4A18 ⟨0, .nil⟩) 40 q4V18 = true := by kernel_rfl
theorem q4C19 : AV.closeds q4A19 = true := by kernel_rfl
theorem q4G19 : gives (evalN envQ 1000 6 q4A19 ⟨0, .nil⟩) 40 q4V19 = true := by kernel_rfl
theorem q4C20 : AV.closeds q4A20 = true := by kernel_rfl
theorem q4G20 : gives (evalN envQ 1000 6 q4A20 ⟨0, .nil⟩) 40 q4V20 = true := by kernel_rfl
theorem q4C21 : AV.closeds q4A21 = true := by kernel_rfl
theorem q4G21 : gives (evalN envQ 1000 7 q4A21 ⟨0, .nil⟩) 40 q4V21 = true := by kernel_rfl
theorem q4C22 : AV.closeds q4A22 = true := by kernel_rfl
theorem q4G22 : gives (evalN envQ 1000 7 q4A22 ⟨0, .nil⟩) 40 q4V22 = true := by kernel_rfl
theorem q4C23 : AV.closeds q4A23 = true := by kernel_rfl
theorem q4G23 : gives (evalN envQ 1000 6 q4A23 ⟨0, .nil⟩) 40 q4V23 = true := by kernel_rfl
theorem q4C24 : AV.closeds q4A24 = true := by kernel_rfl
theorem q4G24 : gives (evalN envQ 1000 7 q4A24 ⟨0, .nil⟩) 40 q4V24 = true := by kernel_rfl
theorem q4C25 : AV.closeds q4A25 = true := by kernel_rfl
theorem q4G25 : gives (evalN envQ 1000 7 q4A25 ⟨0, .nil⟩) 40 q4V25 = true := by kernel_rfl
theorem q4C26 : AV.closeds q4A26 = true := by kernel_rfl
theorem q4G26 : gives (evalN envQ 1000 7 q4A26 ⟨0, .nil⟩) 40 q4V26 = true := by kernel_rfl
theorem q4C27 : AV.closeds q4A27 = true := by kernel_rfl
theorem q4G27 : gives (evalN envQ 1000 7 q4A27 ⟨0, .nil⟩) 40 q4V27 = true := by kernel_rfl
theorem q4C28 : AV.closeds q4A28 = true := by kernel_rfl
theorem q4G28 : gives (evalN envQ 1000 6 q4A28 ⟨0, .nil⟩) 40 q4V28 = true := by kernel_rfl
theorem q4C29 : AV.closeds q4A29 = true := by kernel_rfl
theorem q4G29 : gives (evalN envQ 1000 6 q4A29 ⟨0, .nil⟩) 40 q4V29 = true := by kernel_rfl
theorem q4C30 : AV.closeds q4A30 = true := by kernel_rfl
theorem q4G30 : gives (evalN envQ 1000 7 q4A30 ⟨0, .nil⟩) 40 q4V30 = true := by kernel_rfl
theorem q4C31 : AV.closeds q4A31 = true := by kernel_rfl
theorem q4G31 : gives (evalN envQ 1000 7 q4A31 ⟨0, .nil⟩) 40 q4V31 = true := by kernel_rfl
theorem q4C32 : AV.closeds q4A32 = true := by kernel_rfl
theorem q4G32 : gives (evalN envQ 1000 6 q4A32 ⟨0, .nil⟩) 40 q4V32 = true := by kernel_rfl
theorem q4C33 : AV.closeds q4A33 = true := by kernel_rfl
theorem q4G33 : gives (evalN envQ 1000 7 q4A33 ⟨0, .nil⟩) 40 q4V33 = true := by kernel_rfl
theorem q4C34 : AV.closeds q4A34 = true := by kernel_rfl
theorem q4G34 : gives (evalN envQ 1000 7 q4A34 ⟨0, .nil⟩) 40 q4V34 = true := by kernel_rfl
theorem q4C35 : AV.closeds q4A35 = true := by kernel_rfl
theorem q4G35 : gives (evalN envQ 1000 7 q4A35 ⟨0, .nil⟩) 40 q4V35 = true := by kernel_rfl
theorem q4C36 : AV.closeds q4A36 = true := by kernel_rfl
theorem q4G36 : gives (evalN envQ 1000 7 q4A36 ⟨0, .nil⟩) 40 q4V36 = true := by kernel_rfl
theorem q4C37 : AV.closeds q4A37 = true := by kernel_rfl
theorem q4G37 : gives (evalN envQ 1000 6 q4A37 ⟨0, .nil⟩) 40 q4V37 = true := by kernel_rfl
theorem q4C38 : AV.closeds q4A38 = true := by kernel_rfl
theorem q4G38 : gives (evalN envQ 1000 6 q4A38 ⟨0, .nil⟩) 40 q4V38 = true := by kernel_rfl
theorem q4C39 : AV.closeds q4A39 = true := by kernel_rfl
theorem q4G39 : gives (evalN envQ 1000 7 q4A39 ⟨0, .nil⟩) 40 q4V39 = true := by kernel_rfl
theorem q4C40 : AV.closeds q4A40 = true := by kernel_rfl
theorem q4G40 : gives (evalN envQ 1000 7 q4A40 ⟨0, .nil⟩) 40 q4V40 = true := by kernel_rfl
theorem q4C41 : AV.closeds q4A41 = true := by kernel_rfl
theorem q4G41 : gives (evalN envQ 1000 6 q4A41 ⟨0, .nil⟩) 40 q4V41 = true := by kernel_rfl
theorem q4C42 : AV.closeds q4A42 = true := by kernel_rfl
theorem q4G42 : gives (evalN envQ 1000 7 q4A42 ⟨0, .nil⟩) 40 q4V42 = true := by kernel_rfl
theorem q4C43 : AV.closeds q4A43 = true := by kernel_rfl
theorem q4G43 : gives (evalN envQ 1000 7 q4A43 ⟨0, .nil⟩) 40 q4V43 = true := by kernel_rfl
theorem q4C44 : AV.closeds q4A44 = true := by kernel_rfl
theorem q4G44 : gives (evalN envQ 1000 7 q4A44 ⟨0, .nil⟩) 40 q4V44 = true := by kernel_rfl
theorem q4C45 : AV.closeds q4A45 = true := by kernel_rfl
theorem q4G45 : gives (evalN envQ 1000 7 q4A45 ⟨0, .nil⟩) 40 q4V45 = true := by kernel_rfl
theorem q4C46 : AV.closeds q4A46 = true := by kernel_rfl
theorem q4G46 : gives (evalN envQ 1000 6 q4A46 ⟨0, .nil⟩) 40 q4V46 = true := by kernel_rfl
theorem q4C47 : AV.closeds q4A47 = true := by kernel_rfl
theorem q4G47 : gives (evalN envQ 1000 6 q4A47 ⟨0, .nil⟩) 40 q4V47 = true := by kernel_rfl
theorem q4C48 : AV.closeds q4A48 = true := by kernel_rfl
theorem q4G48 : gives (evalN envQ 1000 7 q4A48 ⟨0, .nil⟩) 40 q4V48 = true := by kernel_rfl
theorem q4C49 : AV.closeds q4A49 = true := by kernel_rfl
theorem q4G49 : gives (evalN envQ 1000 7 q4A49 ⟨0, .nil⟩) 40 q4V49 = true := by kernel_rfl
theorem q4C50 : AV.closeds q4A50 = true := by kernel_rfl
theorem q4G50 : gives (evalN envQ 1000 6 q4A50 ⟨0, .nil⟩) 40 q4V50 = true := by kernel_rfl
theorem q4C51 : AV.closeds q4A51 = true := by kernel_rfl
theorem q4G51 : gives (evalN envQ 1000 6 q4A51 ⟨0, .nil⟩) 40 q4V51 = true := by kernel_rfl
theorem q4C52 : AV.closeds q4A52 = true := by kernel_rfl
theorem q4G52 : gives (evalN envQ 1000 7 q4A52 ⟨0, .nil⟩) 40 q4V52 = true := by kernel_rfl
theorem q4C53 : AV.closeds q4A53 = true := by kernel_rfl
theorem q4G53 : gives (evalN envQ 1000 7 q4A53 ⟨0, .nil⟩) 40 q4V53 = true := by kernel_rfl
theorem q4C54 : AV.closeds q4A54 = true := by kernel_rfl
theorem q4G54 : gives (evalN envQ 1000 6 q4A54 ⟨0, .nil⟩) 40 q4V54 = true := by kernel_rfl
theorem q4C55 : AV.closeds q4A55 = true := by kernel_rfl
theorem q4G55 : gives (evalN envQ 1000 6 q4A55 ⟨0, .nil⟩) 40 q4V55 = true := by kernel_rfl
theorem q4C56 : AV.closeds q4A56 = true := by kernel_rfl
theorem q4G56 : gives (evalN envQ 1000 7 q4A56 ⟨0, .nil⟩) 40 q4V56 = true := by kernel_rfl
theorem q4C57 : AV.closeds q4A57 = true := by kernel_rfl
theorem q4G57 : gives (evalN envQ 1000 7 q4A57 ⟨0, .nil⟩) 40 q4V57 = true := by kernel_rfl
end Rfx.RfxEnvB
