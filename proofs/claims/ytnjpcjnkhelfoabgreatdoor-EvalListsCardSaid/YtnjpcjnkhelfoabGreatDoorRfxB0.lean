/- Tables with contracts, and the tokens of the texts. -/
import Derived.Test.YtnjpcjnkhelfoabGreatDoorRfxEnvB2
import Derived.Test.YtnjpcjnkhelfoabGreatDoorRfxGen
set_option linter.unusedSectionVars false
set_option linter.unusedVariables false
set_option linter.unusedSimpArgs false
set_option linter.unnecessarySimpa false
namespace Rfx.RfxEnvB
set_option maxRecDepth 20000
open Go Go.Proofs

noncomputable def envX (con : Nat → List AV → Option AV) (sym : BinOp → Nat → AV → AV → Option AV) : Env := { env with con := con, sym := sym }
/-- a contract holds -/
def ConOK [Val] (f : Nat) (args : List AV) (v : AV) : Prop :=
  ∀ c h w (A : Array Value) n, HRel c h w → crels c w args A.toList → CallsIn (FR none) n Tryz.prog f A w (CPost c h w (.ret v) h)
theorem okX [Val] {con : Nat → List AV → Option AV} {sym : BinOp → Nat → AV → AV → Option AV}
    (hc : ∀ f args v, con f args = some v → ConOK f args v)
    (hs : ∀ op t x y v, sym op t x y = some v → ∀ (c : Cx) (w : World) (xv yv : Value), crel c w x xv → crel c w y yv →
      (∀ ox oy, (eqGuard op t ox oy xv yv).run Tryz.prog w = .ok () w) ∧ ∃ cv, (binOp op t xv yv).run Tryz.prog w = .ok cv w ∧ crel c w v cv) :
    FnOK Tryz.prog (envX con sym) where
  tab := { ty := ok.tab.ty, fn := ok.tab.fn, ext := ok.tab.ext, sym := hs, symu := ok.tab.symu, xlen := ok.tab.xlen, xat := ok.tab.xat, mixed := ok.tab.mixed }
  con := hc
  draws := fun f fn cd h hb => by
    rw [drawsOk_congr (E := env) (E' := envX con sym) rfl]
    exact ok.draws f fn cd h hb
def noSym : BinOp → Nat → AV → AV → Option AV := fun _ _ _ _ => none
theorem noSym_ok [Val] : ∀ op t x y v, noSym op t x y = some v → ∀ (c : Cx) (w : World) (xv yv : Value), crel c w x xv → crel c w y yv →
      (∀ ox oy, (eqGuard op t ox oy xv yv).run Tryz.prog w = .ok () w) ∧ ∃ cv, (binOp op t xv yv).run Tryz.prog w = .ok cv w ∧ crel c w v cv := fun _ _ _ _ _ e => by cases e

def tkA0 : List AV := [.str [115, 105, 122, 101, 40, 116, 97, 107, 101, 40, 118, 44, 32, 105, 41, 41, 32, 43, 32, 115, 105, 122, 101, 40, 100, 114, 111, 112, 40, 118, 44, 32, 105, 41, 41, 32, 61, 61, 32, 115, 105, 122, 101, 40, 118, 41]]
def tkV0 : AV := .tup [.fsl 24 false [.int .i64 0, .int .i64 0, .int .i64 0, .str [115, 105, 122, 101], .int .i64 3, .int .i64 4, .int .i64 0, .str [40], .int .i64 0, .int .i64 5, .int .i64 0, .str [116, 97, 107, 101], .int .i64 3, .int .i64 9, .int .i64 0, .str [40], .int .i64 0, .int .i64 10, .int .i64 0, .str [118], .int .i64 3, .int .i64 11, .int .i64 0, .str [44], .int .i64 0, .int .i64 13, .int .i64 0, .str [105], .int .i64 3, .int .i64 14, .int .i64 0, .str [41], .int .i64 3, .int .i64 15, .int .i64 0, .str [41], .int .i64 3, .int .i64 17, .int .i64 0, .str [43], .int .i64 0, .int .i64 19, .int .i64 0, .str [115, 105, 122, 101], .int .i64 3, .int .i64 23, .int .i64 0, .str [40], .int .i64 0, .int .i64 24, .int .i64 0, .str [100, 114, 111, 112], .int .i64 3, .int .i64 28, .int .i64 0, .str [40], .int .i64 0, .int .i64 29, .int .i64 0, .str [118], .int .i64 3, .int .i64 30, .int .i64 0, .str [44], .int .i64 0, .int .i64 32, .int .i64 0, .str [105], .int .i64 3, .int .i64 33, .int .i64 0, .str [41], .int .i64 3, .int .i64 34, .int .i64 0, .str [41], .int .i64 3, .int .i64 36, .int .i64 0, .str [61, 61], .int .i64 0, .int .i64 39, .int .i64 0, .str [115, 105, 122, 101], .int .i64 3, .int .i64 43, .int .i64 0, .str [40], .int .i64 0, .int .i64 44, .int .i64 0, .str [118], .int .i64 3, .int .i64 45, .int .i64 0, .str [41]], .int .i64 0, .int .i64 0]
theorem tkC0 : AV.closeds tkA0 = true := by kernel_rfl
theorem tkG0 : gives (evalN env 1000 26 tkA0 ⟨0, .nil⟩) 40 tkV0 = true := by kernel_rfl
def tkA1 : List AV := [.str [97, 116, 40, 112, 117, 115, 104, 40, 118, 44, 32, 120, 41, 44, 32, 115, 105, 122, 101, 40, 118, 41, 41, 32, 61, 61, 32, 120]]
def tkV1 : AV := .tup [.fsl 16 false [.int .i64 0, .int .i64 0, .int .i64 0, .str [97, 116], .int .i64 3, .int .i64 2, .int .i64 0, .str [40], .int .i64 0, .int .i64 3, .int .i64 0, .str [112, 117, 115, 104], .int .i64 3, .int .i64 7, .int .i64 0, .str [40], .int .i64 0, .int .i64 8, .int .i64 0, .str [118], .int .i64 3, .int .i64 9, .int .i64 0, .str [44], .int .i64 0, .int .i64 11, .int .i64 0, .str [120], .int .i64 3, .int .i64 12, .int .i64 0, .str [41], .int .i64 3, .int .i64 13, .int .i64 0, .str [44], .int .i64 0, .int .i64 15, .int .i64 0, .str [115, 105, 122, 101], .int .i64 3, .int .i64 19, .int .i64 0, .str [40], .int .i64 0, .int .i64 20, .int .i64 0, .str [118], .int .i64 3, .int .i64 21, .int .i64 0, .str [41], .int .i64 3, .int .i64 22, .int .i64 0, .str [41], .int .i64 3, .int .i64 24, .int .i64 0, .str [61, 61], .int .i64 0, .int .i64 27, .int .i64 0, .str [120]], .int .i64 0, .int .i64 0]
theorem tkC1 : AV.closeds tkA1 = true := by kernel_rfl
theorem tkG1 : gives (evalN env 1000 26 tkA1 ⟨0, .nil⟩) 40 tkV1 = true := by kernel_rfl
def tkA2 : List AV := [.str [116, 97, 107, 101, 40, 112, 117, 115, 104, 40, 118, 44, 32, 120, 41, 44, 32, 115, 105, 122, 101, 40, 118, 41, 41, 32, 61, 61, 32, 118]]
def tkV2 : AV := .tup [.fsl 16 false [.int .i64 0, .int .i64 0, .int .i64 0, .str [116, 97, 107, 101], .int .i64 3, .int .i64 4, .int .i64 0, .str [40], .int .i64 0, .int .i64 5, .int .i64 0, .str [112, 117, 115, 104], .int .i64 3, .int .i64 9, .int .i64 0, .str [40], .int .i64 0, .int .i64 10, .int .i64 0, .str [118], .int .i64 3, .int .i64 11, .int .i64 0, .str [44], .int .i64 0, .int .i64 13, .int .i64 0, .str [120], .int .i64 3, .int .i64 14, .int .i64 0, .str [41], .int .i64 3, .int .i64 15, .int .i64 0, .str [44], .int .i64 0, .int .i64 17, .int .i64 0, .str [115, 105, 122, 101], .int .i64 3, .int .i64 21, .int .i64 0, .str [40], .int .i64 0, .int .i64 22, .int .i64 0, .str [118], .int .i64 3, .int .i64 23, .int .i64 0, .str [41], .int .i64 3, .int .i64 24, .int .i64 0, .str [41], .int .i64 3, .int .i64 26, .int .i64 0, .str [61, 61], .int .i64 0, .int .i64 29, .int .i64 0, .str [118]], .int .i64 0, .int .i64 0]
theorem tkC2 : AV.closeds tkA2 = true := by kernel_rfl
theorem tkG2 : gives (evalN env 1000 26 tkA2 ⟨0, .nil⟩) 40 tkV2 = true := by kernel_rfl
def tkA3 : List AV := [.str [115, 105, 122, 101, 40, 116, 97, 107, 101, 40, 118, 44, 32, 105, 41, 41, 32, 61, 61, 32, 109, 97, 120, 40, 48, 44, 32, 109, 105, 110, 40, 105, 44, 32, 115, 105, 122, 101, 40, 118, 41, 41, 41]]
def tkV3 : AV := .tup [.fsl 24 false [.int .i64 0, .int .i64 0, .int .i64 0, .str [115, 105, 122, 101], .int .i64 3, .int .i64 4, .int .i64 0, .str [40], .int .i64 0, .int .i64 5, .int .i64 0, .str [116, 97, 107, 101], .int .i64 3, .int .i64 9, .int .i64 0, .str [40], .int .i64 0, .int .i64 10, .int .i64 0, .str [118], .int .i64 3, .int .i64 11, .int .i64 0, .str [44], .int .i64 0, .int .i64 13, .int .i64 0, .str [105], .int .i64 3, .int .i64 14, .int .i64 0, .str [41], .int .i64 3, .int .i64 15, .int .i64 0, .str [41], .int .i64 3, .int .i64 17, .int .i64 0, .str [61, 61], .int .i64 0, .int .i64 20, .int .i64 0, .str [109, 97, 120], .int .i64 3, .int .i64 23, .int .i64 0, .str [40], .int .i64 2, .int .i64 24, .int .i64 0, .str [48], .int .i64 3, .int .i64 25, .int .i64 0, .str [44], .int .i64 0, .int .i64 27, .int .i64 0, .str [109, 105, 110], .int .i64 3, .int .i64 30, .int .i64 0, .str [40], .int .i64 0, .int .i64 31, .int .i64 0, .str [105], .int .i64 3, .int .i64 32, .int .i64 0, .str [44], .int .i64 0, .int .i64 34, .int .i64 0, .str [115, 105, 122, 101], .int .i64 3, .int .i64 38, .int .i64 0, .str [40], .int .i64 0, .int .i64 39, .int .i64 0, .str [118], .int .i64 3, .int .i64 40, .int .i64 0, .str [41], .int .i64 3, .int .i64 41, .int .i64 0, .str [41], .int .i64 3, .int .i64 42, .int .i64 0, .str [41]], .int .i64 0, .int .i64 0]
theorem tkC3 : AV.closeds tkA3 = true := by kernel_rfl
theorem tkG3 : gives (evalN env 1000 26 tkA3 ⟨0, .nil⟩) 40 tkV3 = true := by kernel_rfl
def tkA4 : List AV := [.str [97, 116, 40, 118, 44, 32, 105, 41]]
def tkV4 : AV := .tup [.fsl 6 false [.int .i64 0, .int .i64 0, .int .i64 0, .str [97, 116], .int .i64 3, .int .i64 2, .int .i64 0, .str [40], .int .i64 0, .int .i64 3, .int .i64 0, .str [118], .int .i64 3, .int .i64 4, .int .i64 0, .str [44], .int .i64 0, .int .i64 6, .int .i64 0, .str [105], .int .i64 3, .int .i64 7, .int .i64 0, .str [41]], .int .i64 0, .int .i64 0]
theorem tkC4 : AV.closeds tkA4 = true := by kernel_rfl
theorem tkG4 : gives (evalN env 1000 26 tkA4 ⟨0, .nil⟩) 40 tkV4 = true := by kernel_rfl
def tkA5 : List AV := [.str [115, 101, 116, 40, 118, 44, 32, 105, 44, 32, 120, 41]]
def tkV5 : AV := .tup [.fsl 8 false [.int .i64 0, .int .i64 0, .int .i64 0, .str [115, 101, 116], .int .i64 3, .int .i64 3, .int .i64 0, .str [40], .int .i64 0, .int .i64 4, .int .i64 0, .str [118], .int .i64 3, .int .i64 5, .int .i64 0, .str [44], .int .i64 0, .int .i64 7, .int .i64 0, .str [105], .int .i64 3, .int .i64 8, .int .i64 0, .str [44], .int .i64 0, .int .i64 10, .int .i64 0, .str [120], .int .i64 3, .int .i64 11, .int .i64 0, .str [41]], .int .i64 0, .int .i64 0]
theorem tkC5 : AV.closeds tkA5 = true := by kernel_rfl
theorem tkG5 : gives (evalN env 1000 26 tkA5 ⟨0, .nil⟩) 40 tkV5 = true := by kernel_rfl
def tkA6 : List AV := [.str [97, 116, 40, 115, 101, 116, 40, 118, 44, 32, 105, 44, 32, 120, 41, 44, 32, 105, 41, 32, 61, 61, 32, 120, 32, 97, 110, 100, 32, 97, 116, 40, 116, 97, 107, 101, 40, 118, 44, 32, 105, 32, 43, 32, 49, 41, 44, 32, 105, 41, 32, 61, 61, 32, 97, 116, 40, 118, 44, 32, 105, 41, 32, 97, 110, 100, 32, 97, 116, 40, 100, 114, 111, 112, 40, 118, 44, 32, 105, 41, 44, 32, 48, 41, 32, 61, 61, 32, 97, 116, 40, 118, 44, 32, 105, 41]]
def tkV6 : AV := .tup [.fsl 55 false [.int .i64 0, .int .i64 0, .int .i64 0, .str [97, 116], .int .i64 3, .int .i64 2, .int .i64 0, .str [40], .int .i64 0, .int .i64 3, .int .i64 0, .str [115, 101, 116], .int .i64 3, .int .i64 6, .int .i64 0, .str [40], .int .i64 0, .int .i64 7, .int .i64 0, .str [118], .int .i64 3, .int .i64 8, .int .i64 0, .str [44], .int .i64 0, .int .i64 10, .int .i64 0, .str [105], .int .i64 3, .int .i64 11, .int .i64 0, .str [44], .int .i64 0, .int .i64 13, .int .i64 0, .str [120], .int .i64 3, .int .i64 14, .int .i64 0, .str [41], .int .i64 3, .int .i64 15, .int .i64 0, .str [44], .int .i64 0, .int .i64 17, .int .i64 0, .str [105], .int .i64 3, .int .i64 18, .int .i64 0, .str [41], .int .i64 3, .int .i64 20, .int .i64 0, .str [61, 61], .int .i64 0, .int .i64 23, .int .i64 0, .str [120], .int .i64 0, .int .i64 25, .int .i64 0, .str [97, 110, 100], .int .i64 0, .int .i64 29, .int .i64 0, .str [97, 116], .int .i64 3, .int .i64 31, .int .i64 0, .str [40], .int .i64 0, .int .i64 32, .int .i64 0, .str [116, 97, 107, 101], .int .i64 3, .int .i64 36, .int .i64 0, .str [40], .int .i64 0, .int .i64 37, .int .i64 0, .str [118], .int .i64 3, .int .i64 38, .int .i64 0, .str [44], .int .i64 0, .int .i64 40, .int .i64 0, .str [105], .int .i64 3, .int .i64 42, .int .i64 0, .str [43], .int .i64 2, .int .i64 44, .int .i64 1, .str [49], .int .i64 3, .int .i64 45, .int .i64 0, .str [41], .int .i64 3, .int .i64 46, .int .i64 0, .str [44], .int .i64 0, .int .i64 48, .int .i64 0, .str [105], .int .i64 3, .int .i64 49, .int .i64 0, .str [41], .int .i64 3, .int .i64 51, .int .i64 0, .str [61, 61], .int .i64 0, .int .i64 54, .int .i64 0, .str [97, 116], .int .i64 3, .int .i64 56, .int .i64 0, .str [40], .int .i64 0, .int .i64 57, .int .i64 0, .str [118], .int .i64 3, .int .i64 58, .int .i64 0, .str [44], .int .i64 0, .int .i64 60, .int .i64 0, .str [105], .int .i64 3, .int .i64 61, .int .i64 0, .str [41], .int .i64 0, .int .i64 63, .int .i64 0, .str [97, 110, 100], .int .i64 0, .int .i64 67, .int .i64 0, .str [97, 116], .int .i64 3, .int .i64 69, .int .i64 0, .str [40], .int .i64 0, .int .i64 70, .int .i64 0, .str [100, 114, 111, 112], .int .i64 3, .int .i64 74, .int .i64 0, .str [40], .int .i64 0, .int .i64 75, .int .i64 0, .str [118], .int .i64 3, .int .i64 76, .int .i64 0, .str [44], .int .i64 0, .int .i64 78, .int .i64 0, .str [105], .int .i64 3, .int .i64 79, .int .i64 0, .str [41], .int .i64 3, .int .i64 80, .int .i64 0, .str [44], .int .i64 2, .int .i64 82, .int .i64 0, .str [48], .int .i64 3, .int .i64 83, .int .i64 0, .str [41], .int .i64 3, .int .i64 85, .int .i64 0, .str [61, 61], .int .i64 0, .int .i64 88, .int .i64 0, .str [97, 116], .int .i64 3, .int .i64 90, .int .i64 0, .str [40], .int .i64 0, .int .i64 91, .int .i64 0, .str [118], .int .i64 3, .int .i64 92, .int .i64 0, .str [44], .int .i64 0, .int .i64 94, .int .i64 0, .str [105], .int .i64 3, .int .i64 95, .int .i64 0, .str [41]], .int .i64 0, .int .i64 0]
theorem tkC6 : AV.closeds tkA6 = true := by kernel_rfl
theorem tkG6 : gives (evalN env 1000 26 tkA6 ⟨0, .nil⟩) 40 tkV6 = true := by kernel_rfl
def tkA7 : List AV := [.str [97, 116, 40, 115, 101, 116, 40, 118, 44, 32, 105, 44, 32, 120, 41, 44, 32, 48, 41]]
def tkV7 : AV := .tup [.fsl 13 false [.int .i64 0, .int .i64 0, .int .i64 0, .str [97, 116], .int .i64 3, .int .i64 2, .int .i64 0, .str [40], .int .i64 0, .int .i64 3, .int .i64 0, .str [115, 101, 116], .int .i64 3, .int .i64 6, .int .i64 0, .str [40], .int .i64 0, .int .i64 7, .int .i64 0, .str [118], .int .i64 3, .int .i64 8, .int .i64 0, .str [44], .int .i64 0, .int .i64 10, .int .i64 0, .str [105], .int .i64 3, .int .i64 11, .int .i64 0, .str [44], .int .i64 0, .int .i64 13, .int .i64 0, .str [120], .int .i64 3, .int .i64 14, .int .i64 0, .str [41], .int .i64 3, .int .i64 15, .int .i64 0, .str [44], .int .i64 2, .int .i64 17, .int .i64 0, .str [48], .int .i64 3, .int .i64 18, .int .i64 0, .str [41]], .int .i64 0, .int .i64 0]
theorem tkC7 : AV.closeds tkA7 = true := by kernel_rfl
theorem tkG7 : gives (evalN env 1000 26 tkA7 ⟨0, .nil⟩) 40 tkV7 = true := by kernel_rfl
def tkA8 : List AV := [.str [97, 116, 40, 115, 101, 116, 40, 118, 44, 32, 105, 44, 32, 120, 41, 44, 32, 49, 41]]
def tkV8 : AV := .tup [.fsl 13 false [.int .i64 0, .int .i64 0, .int .i64 0, .str [97, 116], .int .i64 3, .int .i64 2, .int .i64 0, .str [40], .int .i64 0, .int .i64 3, .int .i64 0, .str [115, 101, 116], .int .i64 3, .int .i64 6, .int .i64 0, .str [40], .int .i64 0, .int .i64 7, .int .i64 0, .str [118], .int .i64 3, .int .i64 8, .int .i64 0, .str [44], .int .i64 0, .int .i64 10, .int .i64 0, .str [105], .int .i64 3, .int .i64 11, .int .i64 0, .str [44], .int .i64 0, .int .i64 13, .int .i64 0, .str [120], .int .i64 3, .int .i64 14, .int .i64 0, .str [41], .int .i64 3, .int .i64 15, .int .i64 0, .str [44], .int .i64 2, .int .i64 17, .int .i64 1, .str [49], .int .i64 3, .int .i64 18, .int .i64 0, .str [41]], .int .i64 0, .int .i64 0]
theorem tkC8 : AV.closeds tkA8 = true := by kernel_rfl
theorem tkG8 : gives (evalN env 1000 26 tkA8 ⟨0, .nil⟩) 40 tkV8 = true := by kernel_rfl
def tkA9 : List AV := [.str [97, 116, 40, 115, 101, 116, 40, 118, 44, 32, 105, 44, 32, 120, 41, 44, 32, 50, 41]]
def tkV9 : AV := .tup [.fsl 13 false [.int .i64 0, .int .i64 0, .int .i64 0, .str [97, 116], .int .i64 3, .int .i64 2, .int .i64 0, .str [40], .int .i64 0, .int .i64 3, .int .i64 0, .str [115, 101, 116], .int .i64 3, .int .i64 6, .int .i64 0, .str [40], .int .i64 0, .int .i64 7, .int .i64 0, .str [118], .int .i64 3, .int .i64 8, .int .i64 0, .str [44], .int .i64 0, .int .i64 10, .int .i64 0, .str [105], .int .i64 3, .int .i64 11, .int .i64 0, .str [44], .int .i64 0, .int .i64 13, .int .i64 0, .str [120], .int .i64 3, .int .i64 14, .int .i64 0, .str [41], .int .i64 3, .int .i64 15, .int .i64 0, .str [44], .int .i64 2, .int .i64 17, .int .i64 2, .str [50], .int .i64 3, .int .i64 18, .int .i64 0, .str [41]], .int .i64 0, .int .i64 0]
theorem tkC9 : AV.closeds tkA9 = true := by kernel_rfl
theorem tkG9 : gives (evalN env 1000 26 tkA9 ⟨0, .nil⟩) 40 tkV9 = true := by kernel_rfl
def tkA10 : List AV := [.str [97, 116, 40, 115, 101, 116, 40, 118, 44, 32, 105, 44, 32, 120, 41, 44, 32, 51, 41]]
def tkV10 : AV := .tup [.fsl 13 false [.int .i64 0, .int .i64 0, .int .i64 0, .str [97, 116], .int .i64 3, .int .i64 2, .int .i64 0, .str [40], .int .i64 0, .int .i64 3, .int .i64 0, .str [115, 101, 116], .int .i64 3, .int .i64 6, .int .i64 0, .str [40], .int .i64 0, .int .i64 7, .int .i64 0, .str [118], .int .i64 3, .int .i64 8, .int .i64 0, .str [44], .int .i64 0, .int .i64 10, .int .i64 0, .str [105], .int .i64 3, .int .i64 11, .int .i64 0, .str [44], .int .i64 0, .int .i64 13, .int .i64 0, .str [120], .int .i64 3, .int .i64 14, .int .i64 0, .str [41], .int .i64 3, .int .i64 15, .int .i64 0, .str [44], .int .i64 2, .int .i64 17, .int .i64 3, .str [51], .int .i64 3, .int .i64 18, .int .i64 0, .str [41]], .int .i64 0, .int .i64 0]
theorem tkC10 : AV.closeds tkA10 = true := by kernel_rfl
theorem tkG10 : gives (evalN env 1000 26 tkA10 ⟨0, .nil⟩) 40 tkV10 = true := by kernel_rfl
def tkA11 : List AV := [.str [97, 116, 40, 115, 101, 116, 40, 118, 44, 32, 105, 44, 32, 120, 41, 44, 32, 52, 41]]
def tkV11 : AV := .tup [.fsl 13 false [.int .i64 0, .int .i64 0, .int .i64 0, .str [97, 116], .int .i64 3, .int .i64 2, .int .i64 0, .str [40], .int .i64 0, .int .i64 3, .int .i64 0, .str [115, 101, 116], .int .i64 3, .int .i64 6, .int .i64 0, .str [40], .int .i64 0, .int .i64 7, .int .i64 0, .str [118], .int .i64 3, .int .i64 8, .int .i64 0, .str [44], .int .i64 0, .int .i64 10, .int .i64 0, .str [105], .int .i64 3, .int .i64 11, .int .i64 0, .str [44], .int .i64 0, .int .i64 13, .int .i64 0, .str [120], .int .i64 3, .int .i64 14, .int .i64 0, .str [41], .int .i64 3, .int .i64 15, .int .i64 0, .str [44], .int .i64 2, .int .i64 17, .int .i64 4, .str [52], .int .i64 3, .int .i64 18, .int .i64 0, .str [41]], .int .i64 0, .int .i64 0]
theorem tkC11 : AV.closeds tkA11 = true := by kernel_rfl
theorem tkG11 : gives (evalN env 1000 26 tkA11 ⟨0, .nil⟩) 40 tkV11 = true := by kernel_rfl
def tkA12 : List AV := [.str [105, 102, 32, 49, 32, 60, 32, 50, 32, 116, 104, 101, 110, 32, 97, 116, 40, 91, 53, 44, 32, 54, 93, 44, 32, 49, 41, 32, 101, 108, 115, 101, 32, 48]]
def tkV12 : AV := .tup [.fsl 17 false [.int .i64 0, .int .i64 0, .int .i64 0, .str [105, 102], .int .i64 2, .int .i64 3, .int .i64 1, .str [49], .int .i64 3, .int .i64 5, .int .i64 0, .str [60], .int .i64 2, .int .i64 7, .int .i64 2, .str [50], .int .i64 0, .int .i64 9, .int .i64 0, .str [116, 104, 101, 110], .int .i64 0, .int .i64 14, .int .i64 0, .str [97, 116], .int .i64 3, .int .i64 16, .int .i64 0, .str [40], .int .i64 3, .int .i64 17, .int .i64 0, .str [91], .int .i64 2, .int .i64 18, .int .i64 5, .str [53], .int .i64 3, .int .i64 19, .int .i64 0, .str [44], .int .i64 2, .int .i64 21, .int .i64 6, .str [54], .int .i64 3, .int .i64 22, .int .i64 0, .str [93], .int .i64 3, .int .i64 23, .int .i64 0, .str [44], .int .i64 2, .int .i64 25, .int .i64 1, .str [49], .int .i64 3, .int .i64 26, .int .i64 0, .str [41], .int .i64 0, .int .i64 28, .int .i64 0, .str [101, 108, 115, 101], .int .i64 2, .int .i64 33, .int .i64 0, .str [48]], .int .i64 0, .int .i64 0]
theorem tkC12 : AV.closeds tkA12 = true := by kernel_rfl
theorem tkG12 : gives (evalN env 1000 26 tkA12 ⟨0, .nil⟩) 40 tkV12 = true := by kernel_rfl
def tkA13 : List AV := [.str [97, 116, 40, 91, 53, 93, 44, 32, 49, 41]]
def tkV13 : AV := .tup [.fsl 8 false [.int .i64 0, .int .i64 0, .int .i64 0, .str [97, 116], .int .i64 3, .int .i64 2, .int .i64 0, .str [40], .int .i64 3, .int .i64 3, .int .i64 0, .str [91], .int .i64 2, .int .i64 4, .int .i64 5, .str [53], .int .i64 3, .int .i64 5, .int .i64 0, .str [93], .int .i64 3, .int .i64 6, .int .i64 0, .str [44], .int .i64 2, .int .i64 8, .int .i64 1, .str [49], .int .i64 3, .int .i64 9, .int .i64 0, .str [41]], .int .i64 0, .int .i64 0]
theorem tkC13 : AV.closeds tkA13 = true := by kernel_rfl
theorem tkG13 : gives (evalN env 1000 26 tkA13 ⟨0, .nil⟩) 40 tkV13 = true := by kernel_rfl
def tkA14 : List AV := [.str [49, 32, 43, 32, 116, 114, 117, 101]]
def tkV14 : AV := .tup [.fsl 3 false [.int .i64 2, .int .i64 0, .int .i64 1, .str [49], .int .i64 3, .int .i64 2, .int .i64 0, .str [43], .int .i64 0, .int .i64 4, .int .i64 0, .str [116, 114, 117, 101]], .int .i64 0, .int .i64 0]
theorem tkC14 : AV.closeds tkA14 = true := by kernel_rfl
theorem tkG14 : gives (evalN env 1000 26 tkA14 ⟨0, .nil⟩) 40 tkV14 = true := by kernel_rfl
def tkA15 : List AV := [.str [109, 97, 120, 40, 49, 44, 32, 50, 41]]
def tkV15 : AV := .tup [.fsl 6 false [.int .i64 0, .int .i64 0, .int .i64 0, .str [109, 97, 120], .int .i64 3, .int .i64 3, .int .i64 0, .str [40], .int .i64 2, .int .i64 4, .int .i64 1, .str [49], .int .i64 3, .int .i64 5, .int .i64 0, .str [44], .int .i64 2, .int .i64 7, .int .i64 2, .str [50], .int .i64 3, .int .i64 8, .int .i64 0, .str [41]], .int .i64 0, .int .i64 0]
theorem tkC15 : AV.closeds tkA15 = true := by kernel_rfl
theorem tkG15 : gives (evalN env 1000 26 tkA15 ⟨0, .nil⟩) 40 tkV15 = true := by kernel_rfl
def tkA16 : List AV := [.str [115, 105, 122, 101]]
def tkV16 : AV := .tup [.fsl 1 false [.int .i64 0, .int .i64 0, .int .i64 0, .str [115, 105, 122, 101]], .int .i64 0, .int .i64 0]
theorem tkC16 : AV.closeds tkA16 = true := by kernel_rfl
theorem tkG16 : gives (evalN env 1000 26 tkA16 ⟨0, .nil⟩) 40 tkV16 = true := by kernel_rfl
def tkA17 : List AV := [.str [116, 97, 107, 101]]
def tkV17 : AV := .tup [.fsl 1 false [.int .i64 0, .int .i64 0, .int .i64 0, .str [116, 97, 107, 101]], .int .i64 0, .int .i64 0]
theorem tkC17 : AV.closeds tkA17 = true := by kernel_rfl
theorem tkG17 : gives (evalN env 1000 26 tkA17 ⟨0, .nil⟩) 40 tkV17 = true := by kernel_rfl
def tkA18 : List AV := [.str [118]]
def tkV18 : AV := .tup [.fsl 1 false [.int .i64 0, .int .i64 0, .int .i64 0, .str [118]], .int .i64 0, .int .i64 0]
theorem tkC18 : AV.closeds tkA18 = true := by kernel_rfl
theorem tkG18 : gives (evalN env 1000 26 tkA18 ⟨0, .nil⟩) 40 tkV18 = true := by kernel_rfl
def tkA19 : List AV := [.str [105]]
def tkV19 : AV := .tup [.fsl 1 false [.int .i64 0, .int .i64 0, .int .i64 0, .str [105]], .int .i64 0, .int .i64 0]
theorem tkC19 : AV.closeds tkA19 = true := by kernel_rfl
theorem tkG19 : gives (evalN env 1000 26 tkA19 ⟨0, .nil⟩) 40 tkV19 = true := by kernel_rfl
def tkA20 : List AV := [.str [100, 114, 111, 112]]
def tkV20 : AV := .tup [.fsl 1 false [.int .i64 0, .int .i64 0, .int .i64 0, .str [100, 114, 111, 112]], .int .i64 0, .int .i64 0]
theorem tkC20 : AV.closeds tkA20 = true := by kernel_rfl
theorem tkG20 : gives (evalN env 1000 26 tkA20 ⟨0, .nil⟩) 40 tkV20 = true := by kernel_rfl
def tkA21 : List AV := [.str [97, 116]]
def tkV21 : AV := .tup [.fsl 1 false [.int .i64 0, .int .i64 0, .int .i64 0, .str [97, 116]], .int .i64 0, .int .i64 0]
theorem tkC21 : AV.closeds tkA21 = true := by kernel_rfl
theorem tkG21 : gives (evalN env 1000 26 tkA21 ⟨0, .nil⟩) 40 tkV21 = true := by kernel_rfl
def tkA22 : List AV := [.str [112, 117, 115, 104]]
def tkV22 : AV := .tup [.fsl 1 false [.int .i64 0, .int .i64 0, .int .i64 0, .str [112, 117, 115, 104]], .int .i64 0, .int .i64 0]
theorem tkC22 : AV.closeds tkA22 = true := by kernel_rfl
theorem tkG22 : gives (evalN env 1000 26 tkA22 ⟨0, .nil⟩) 40 tkV22 = true := by kernel_rfl
def tkA23 : List AV := [.str [120]]
def tkV23 : AV := .tup [.fsl 1 false [.int .i64 0, .int .i64 0, .int .i64 0, .str [120]], .int .i64 0, .int .i64 0]
theorem tkC23 : AV.closeds tkA23 = true := by kernel_rfl
theorem tkG23 : gives (evalN env 1000 26 tkA23 ⟨0, .nil⟩) 40 tkV23 = true := by kernel_rfl
def tkA24 : List AV := [.str [109, 97, 120]]
def tkV24 : AV := .tup [.fsl 1 false [.int .i64 0, .int .i64 0, .int .i64 0, .str [109, 97, 120]], .int .i64 0, .int .i64 0]
theorem tkC24 : AV.closeds tkA24 = true := by kernel_rfl
theorem tkG24 : gives (evalN env 1000 26 tkA24 ⟨0, .nil⟩) 40 tkV24 = true := by kernel_rfl
def tkA25 : List AV := [.str [109, 105, 110]]
def tkV25 : AV := .tup [.fsl 1 false [.int .i64 0, .int .i64 0, .int .i64 0, .str [109, 105, 110]], .int .i64 0, .int .i64 0]
theorem tkC25 : AV.closeds tkA25 = true := by kernel_rfl
theorem tkG25 : gives (evalN env 1000 26 tkA25 ⟨0, .nil⟩) 40 tkV25 = true := by kernel_rfl
def tkA26 : List AV := [.str [115, 101, 116]]
def tkV26 : AV := .tup [.fsl 1 false [.int .i64 0, .int .i64 0, .int .i64 0, .str [115, 101, 116]], .int .i64 0, .int .i64 0]
theorem tkC26 : AV.closeds tkA26 = true := by kernel_rfl
theorem tkG26 : gives (evalN env 1000 26 tkA26 ⟨0, .nil⟩) 40 tkV26 = true := by kernel_rfl
noncomputable def tkT : List (Nat × List AV × AV) := [(26, tkA0, tkV0), (26, tkA1, tkV1), (26, tkA2, tkV2), (26, tkA3, tkV3), (26, tkA4, tkV4), (26, tkA5, tkV5), (26, tkA6, tkV6), (26, tkA7, tkV7), (26, tkA8, tkV8), (26, tkA9, tkV9), (26, tkA10, tkV10), (26, tkA11, tkV11), (26, tkA12, tkV12), (26, tkA13, tkV13), (26, tkA14, tkV14), (26, tkA15, tkV15), (26, tkA16, tkV16), (26, tkA17, tkV17), (26, tkA18, tkV18), (26, tkA19, tkV19), (26, tkA20, tkV20), (26, tkA21, tkV21), (26, tkA22, tkV22), (26, tkA23, tkV23), (26, tkA24, tkV24), (26, tkA25, tkV25), (26, tkA26, tkV26)]
theorem tkOk [Val] : ∀ f args v, conT tkT f args = some v → ConOK f args v := by
  intro f args v hcon
  refine conT_ok hcon (Q := ConOK) ?_
  intro x hx
  simp only [tkT, List.mem_cons, List.not_mem_nil, or_false] at hx
  rcases hx with rfl | rfl | rfl | rfl | rfl | rfl | rfl | rfl | rfl | rfl | rfl | rfl | rfl | rfl | rfl | rfl | rfl | rfl | rfl | rfl | rfl | rfl | rfl | rfl | rfl | rfl | rfl
  · exact con_of_run ok tkC0 tkG0
  · exact con_of_run ok tkC1 tkG1
  · exact con_of_run ok tkC2 tkG2
  · exact con_of_run ok tkC3 tkG3
  · exact con_of_run ok tkC4 tkG4
  · exact con_of_run ok tkC5 tkG5
  · exact con_of_run ok tkC6 tkG6
  · exact con_of_run ok tkC7 tkG7
  · exact con_of_run ok tkC8 tkG8
  · exact con_of_run ok tkC9 tkG9
  · exact con_of_run ok tkC10 tkG10
  · exact con_of_run ok tkC11 tkG11
  · exact con_of_run ok tkC12 tkG12
  · exact con_of_run ok tkC13 tkG13
  · exact con_of_run ok tkC14 tkG14
  · exact con_of_run ok tkC15 tkG15
  · exact con_of_run ok tkC16 tkG16
  · exact con_of_run ok tkC17 tkG17
  · exact con_of_run ok tkC18 tkG18
  · exact con_of_run ok tkC19 tkG19
  · exact con_of_run ok tkC20 tkG20
  · exact con_of_run ok tkC21 tkG21
  · exact con_of_run ok tkC22 tkG22
  · exact con_of_run ok tkC23 tkG23
  · exact con_of_run ok tkC24 tkG24
  · exact con_of_run ok tkC25 tkG25
  · exact con_of_run ok tkC26 tkG26
end Rfx.RfxEnvB
