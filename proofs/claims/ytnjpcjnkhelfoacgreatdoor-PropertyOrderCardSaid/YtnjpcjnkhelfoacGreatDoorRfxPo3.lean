/- The loops over the outcomes: the pieces of the walk, each run on numbers and on truth values that are not known. -/
import Derived.Test.YtnjpcjnkhelfoacGreatDoorRfxPo2
set_option linter.unusedSectionVars false
set_option linter.unusedVariables false
set_option linter.unusedSimpArgs false
set_option linter.unnecessarySimpa false
namespace Rfx.RfxEnvC
set_option maxRecDepth 20000
open Go Go.Proofs

structure Tb where
  W : Nat → Nat → Bool
  Q : Nat → Nat → Bool
  F : Nat → Bool
  K1 : Nat → Bool
  K2 : Nat → Bool
  G : Nat → Bool
  L : Nat → Bool

def elC : Nat → List AV
  | 0 => [.sym .i64 0, .sym .i64 3, .sym .i64 5]
  | 1 => [.sym .i64 1, .sym .i64 4, .sym .i64 5]
  | 2 => [.sym .i64 2, .sym .i64 3, .sym .i64 3]
  | 3 => [.int .i64 1, .sym .i64 3, .sym .i64 5]
  | 4 => [.int .i64 2, .sym .i64 4, .sym .i64 5]
  | _ => [.int .i64 0, .sym .i64 3, .sym .i64 3]
def el (i : Nat) : AV := .agg (elC i)
def elIx (x : AV) : Option Nat :=
  bif AV.same (el 0) x then some 0 else bif AV.same (el 1) x then some 1 else bif AV.same (el 2) x then some 2 else
  bif AV.same (el 3) x then some 3 else bif AV.same (el 4) x then some 4 else bif AV.same (el 5) x then some 5 else none
def conM (T : Tb) (f : Nat) (args : List AV) : Option AV :=
  match args with
  | [] => bif Nat.beq f 8 then some (.bool true) else none
  | [x] => bif Nat.beq f 4 then (match elIx x with | some i => some (.bool (T.F i)) | none => none) else none
  | [x, y] => match elIx x, elIx y with
    | some i, some j => bif Nat.beq f 5 || Nat.beq f 6 then some (.bool (T.W i j)) else bif Nat.beq f 7 then some (.bool (T.F i && T.Q i j)) else none
    | _, _ => none
  | _ => none
def symM (T : Tb) (op : BinOp) (t : Nat) (x y : AV) : Option AV :=
  match x, y with
  | .sym .i64 j, .int .i64 n => bif Nat.blt j 3 then (match op with
      | .eql => bif n == 1 then some (.bool (T.K1 j)) else bif n == 2 then some (.bool (T.K2 j)) else none
      | .geq => bif n == 0 then some (.bool (T.G j)) else none
      | .lss => bif n == 3 then some (.bool (T.L j)) else none
      | _ => none) else none
  | .agg a, .agg b => bif Nat.beq t 26 then (match elIx (.agg a), elIx (.agg b) with | some i, some j => eqBin op (T.Q i j) | _, _ => none) else none
  | _, _ => none
def polM (f r : Nat) : List (Nat × Option Nat) := bif Nat.beq f 3 && Nat.beq r 7 then [(13, none)] else []
def keepM (f r : Nat) : Option (List Nat × Bool) := bif Nat.beq f 3 then (match r with
    | 7 => some ([13, 16], true)
    | 9 => some ([13, 16], false)
    | 13 => some ([13, 16, 17, 18], false)
    | 15 => some ([13, 16, 17, 18], false)
    | 17 => some ([13, 16, 17, 18, 19, 137], false)
    | 22 => some ([13, 16, 17, 18, 19, 21], false)
    | 24 => some ([13, 16, 17, 18, 19, 21], false)
    | _ => none) else none
noncomputable def envM (T : Tb) : Env := { env with con := conM T, sym := symM T, pol := polM, keep := keepM }

/-! ### the pieces of the code -/
def cL : Code → Code
  | .seq a _ => a
  | c => c
def cR : Code → Code
  | .seq _ b => b
  | c => c
def cIn : Code → Code
  | .block _ c => c
  | .loop c => c
  | c => c
noncomputable def body : Code := match Tryz.f3.body with | some c => c | none => .skip
noncomputable def tl3 : Code := cR (cR (cR body))
noncomputable def cA : Code := cL tl3
noncomputable def cB : Code := cL (cR tl3)
noncomputable def cC : Code := cR (cR tl3)
noncomputable def cO : Code := cIn (cIn (cR cB))
noncomputable def blk3 : Code := cIn (cL (cR cO))
noncomputable def cM : Code := cIn (cIn (cR (cR (cR blk3))))
noncomputable def blk5 : Code := cIn (cL (cR cM))
noncomputable def cI : Code := cIn (cIn (cR (cR (cR (cR (cR blk5))))))
noncomputable def rA : Code := .seq (cL blk5) (cL (cR blk5))     -- regions 16, 17
noncomputable def rB : Code := .seq (cL (cR (cR blk5))) (.seq (cL (cR (cR (cR blk5)))) (cL (cR (cR (cR (cR blk5))))))     -- 19, 20, 22
noncomputable def rO : Code := .seq (cL blk3) (.seq (cL (cR blk3)) (cL (cR (cR blk3))))     -- 10, 11, 13
theorem cM_eq : cM = .seq (cL cM) (.seq (.block 5 blk5) (cR (cR cM))) := by kernel_rfl
theorem cO_eq : cO = .seq (cL cO) (.seq (.block 3 blk3) (cR (cR cO))) := by kernel_rfl
theorem blk5_eq : blk5 = .seq (cL blk5) (.seq (cL (cR blk5)) (.seq (cL (cR (cR blk5))) (.seq (cL (cR (cR (cR blk5)))) (.seq (cL (cR (cR (cR (cR blk5))))) (.block 6 (.loop cI)))))) := by kernel_rfl
theorem blk3_eq : blk3 = .seq (cL blk3) (.seq (cL (cR blk3)) (.seq (cL (cR (cR blk3))) (.block 4 (.loop cM)))) := by kernel_rfl
theorem body_eq : body = .seq (cL body) (.seq (cL (cR body)) (.seq (cL (cR (cR body))) (.seq cA (.seq (.seq (cL cB) (.block 2 (.loop cO))) cC)))) := by kernel_rfl

noncomputable def X (T : Tb) (c : Code) : K := exec (envM T) (evalN (envM T) 50) (yieldA (envM T) (evalN (envM T) 50) 50) false 3 50 c

/-! ### the states -/
noncomputable def mkT : List (Nat × AV) → Tr AV
  | [] => .nil
  | (t, v) :: r => (mkT r).set t v
def lst : AV := .fsl 6 false (elC 0 ++ elC 1 ++ elC 2 ++ elC 3 ++ elC 4 ++ elC 5)
def num (n : Nat) : AV := .int .i64 (Int.ofNat n)
noncomputable def frO (i : Nat) : Fr := ⟨mkT [(13, lst), (16, num i)], 222, []⟩
noncomputable def frM (T : Tb) (i j : Nat) : Fr := ⟨mkT [(13, lst), (16, num i), (17, .bool (T.F i)), (18, num j)], 222, []⟩
noncomputable def frA (T : Tb) (i j : Nat) : Fr := ⟨mkT [(13, lst), (16, num i), (17, .bool (T.F i)), (18, num j), (19, .bool (T.W i j)), (137, .bool false)], 222, []⟩
noncomputable def frI (T : Tb) (i j n : Nat) : Fr := ⟨mkT [(13, lst), (16, num i), (17, .bool (T.F i)), (18, num j), (19, .bool (T.W i j)), (21, num n)], 222, []⟩
noncomputable def hp (n : Nat) : AH := ⟨n, .nil⟩
def nO (i : Nat) : Nat := 157 + 1302 * i
def nM (i j : Nat) : Nat := nO i + 18 + 214 * j
def nA (i j : Nat) : Nat := nM i j + 45
def nI (i j n : Nat) : Nat := nM i j + 70 + 24 * n

def upd1 (F : Nat → Bool) (i : Nat) (b : Bool) : Nat → Bool := fun x => bif Nat.beq x i then b else F x
def upd (W : Nat → Nat → Bool) (i j : Nat) (b : Bool) : Nat → Nat → Bool := fun x y => bif Nat.beq x i && Nat.beq y j then b else W x y

/-- the innermost loop's body -/
def ovI (T : Tb) (i j n s : Nat) : Tb := match s with
  | 0 => { T with W := upd T.W i j false }
  | 1 => { T with W := upd (upd T.W j n false) i j true }
  | _ => { T with W := upd (upd (upd T.W i n true) j n true) i j true }
def r6 : List Nat := [0, 1, 2, 3, 4, 5]
def csI : List (Nat × Nat × Nat) := r6.flatMap fun j => r6.flatMap fun n => [(j, n, 0), (j, n, 1), (j, n, 2)]
noncomputable def lhsI (T : Tb) (i : Nat) (x : Nat × Nat × Nat) : Out := X (ovI T i x.1 x.2.1 x.2.2) cI (frI (ovI T i x.1 x.2.1 x.2.2) i x.1 x.2.1) (hp (nI i x.1 x.2.1))
noncomputable def rhsI (T : Tb) (i : Nat) (x : Nat × Nat × Nat) : Out := some (.normal, frI (ovI T i x.1 x.2.1 x.2.2) i x.1 (x.2.1 + 1), hp (nI i x.1 (x.2.1 + 1)))
theorem stepI0 (T : Tb) : csI.map (lhsI T 0) = csI.map (rhsI T 0) := by kernel_rfl
theorem stepI1 (T : Tb) : csI.map (lhsI T 1) = csI.map (rhsI T 1) := by kernel_rfl
theorem stepI2 (T : Tb) : csI.map (lhsI T 2) = csI.map (rhsI T 2) := by kernel_rfl
theorem stepI3 (T : Tb) : csI.map (lhsI T 3) = csI.map (rhsI T 3) := by kernel_rfl
theorem stepI4 (T : Tb) : csI.map (lhsI T 4) = csI.map (rhsI T 4) := by kernel_rfl
theorem stepI5 (T : Tb) : csI.map (lhsI T 5) = csI.map (rhsI T 5) := by kernel_rfl

/-- the middle loop's body, up to the innermost loop: first part -/
def ovA (T : Tb) (i j : Nat) (f w q : Bool) : Tb := { T with F := upd1 T.F i f, W := upd T.W i j w, Q := upd T.Q i j q }
def csA : List (Nat × Bool × Bool × Bool) := r6.flatMap fun j => [true, false].flatMap fun f => [true, false].flatMap fun w => [true, false].map fun q => (j, f, w, q)
noncomputable def lhsA (T : Tb) (i : Nat) (x : Nat × Bool × Bool × Bool) : Out := let U := ovA T i x.1 x.2.1 x.2.2.1 x.2.2.2; X U (.seq (cL cM) rA) (frM U i x.1) (hp (nM i x.1))
noncomputable def rhsA (T : Tb) (i : Nat) (x : Nat × Bool × Bool × Bool) : Out := let U := ovA T i x.1 x.2.1 x.2.2.1 x.2.2.2; some (.normal, frA U i x.1, hp (nA i x.1))
theorem stepA0 (T : Tb) : csA.map (lhsA T 0) = csA.map (rhsA T 0) := by kernel_rfl
theorem stepA1 (T : Tb) : csA.map (lhsA T 1) = csA.map (rhsA T 1) := by kernel_rfl
theorem stepA2 (T : Tb) : csA.map (lhsA T 2) = csA.map (rhsA T 2) := by kernel_rfl
theorem stepA3 (T : Tb) : csA.map (lhsA T 3) = csA.map (rhsA T 3) := by kernel_rfl
theorem stepA4 (T : Tb) : csA.map (lhsA T 4) = csA.map (rhsA T 4) := by kernel_rfl
theorem stepA5 (T : Tb) : csA.map (lhsA T 5) = csA.map (rhsA T 5) := by kernel_rfl

/-- second part -/
def ovB (T : Tb) (i j s : Nat) : Tb := match s with
  | 0 => { T with G := upd1 T.G i false }
  | 1 => { T with G := upd1 T.G i true, L := upd1 T.L i false }
  | 2 => { T with G := upd1 (upd1 T.G j false) i true, L := upd1 T.L i true }
  | 3 => { T with G := upd1 (upd1 T.G j true) i true, L := upd1 (upd1 T.L j false) i true }
  | 4 => { T with G := upd1 (upd1 T.G j true) i true, L := upd1 (upd1 T.L j true) i true, Q := upd T.Q i j true }
  | 5 => { T with G := upd1 (upd1 T.G j true) i true, L := upd1 (upd1 T.L j true) i true, Q := upd T.Q i j false, W := upd (upd T.W j i false) i j true }
  | _ => { T with G := upd1 (upd1 T.G j true) i true, L := upd1 (upd1 T.L j true) i true, Q := upd T.Q i j false, W := upd (upd T.W j i true) i j false }
def clB (i j : Nat) : List Nat := (bif Nat.blt i 3 then [0, 1] else []) ++ ((bif !Nat.beq i j && Nat.blt j 3 then [2, 3] else []) ++ (4 :: bif Nat.beq i j then [] else [5, 6]))
def csB (i : Nat) : List (Nat × Nat) := r6.flatMap fun j => (clB i j).map fun s => (j, s)
noncomputable def lhsB (T : Tb) (i : Nat) (x : Nat × Nat) : Out := X (ovB T i x.1 x.2) rB (frA (ovB T i x.1 x.2) i x.1) (hp (nA i x.1))
noncomputable def rhsB (T : Tb) (i : Nat) (x : Nat × Nat) : Out := some (.normal, frI (ovB T i x.1 x.2) i x.1 0, hp (nI i x.1 0))
theorem stepB0 (T : Tb) : (csB 0).map (lhsB T 0) = (csB 0).map (rhsB T 0) := by kernel_rfl
theorem stepB1 (T : Tb) : (csB 1).map (lhsB T 1) = (csB 1).map (rhsB T 1) := by kernel_rfl
theorem stepB2 (T : Tb) : (csB 2).map (lhsB T 2) = (csB 2).map (rhsB T 2) := by kernel_rfl
theorem stepB3 (T : Tb) : (csB 3).map (lhsB T 3) = (csB 3).map (rhsB T 3) := by kernel_rfl
theorem stepB4 (T : Tb) : (csB 4).map (lhsB T 4) = (csB 4).map (rhsB T 4) := by kernel_rfl
theorem stepB5 (T : Tb) : (csB 5).map (lhsB T 5) = (csB 5).map (rhsB T 5) := by kernel_rfl

/-- behind the innermost loop -/
def prs : List (Nat × Nat) := r6.flatMap fun i => r6.map fun j => (i, j)
noncomputable def lhsE (T : Tb) (x : Nat × Nat) : Out := thenK (X T (cR (cR cM))) (blockK 5 (blockK 6 (X T cI (frI T x.1 x.2 6) (hp (nI x.1 x.2 6)))))
noncomputable def rhsE (T : Tb) (x : Nat × Nat) : Out := some (.normal, frM T x.1 (x.2 + 1), hp (nM x.1 (x.2 + 1)))
theorem stepE (T : Tb) : prs.map (lhsE T) = prs.map (rhsE T) := by kernel_rfl
noncomputable def isExit (i : Nat) (r : Out) : Bool := match r with | some (.exit j, _, _) => Nat.beq j i | _ => false
theorem exitI (T : Tb) : (prs.all fun x => isExit 6 (X T cI (frI T x.1 x.2 6) (hp (nI x.1 x.2 6)))) = true := by kernel_rfl

/-- the outer loop's body, up to the middle loop -/
def ovO (T : Tb) (i s : Nat) : Tb := match s with
  | 0 => { T with K1 := upd1 T.K1 i true, F := upd1 T.F i true, W := upd T.W i i false }
  | 1 => { T with K1 := upd1 T.K1 i false, K2 := upd1 T.K2 i true, F := upd1 T.F i true, W := upd T.W i i false }
  | _ => { T with K1 := upd1 T.K1 i false, K2 := upd1 T.K2 i false, F := upd1 T.F i false, W := upd T.W i i false }
def csO : List (Nat × Nat) := [(0, 0), (0, 1), (0, 2), (1, 0), (1, 1), (1, 2), (2, 0), (2, 1), (2, 2), (3, 0), (4, 1), (5, 2)]
noncomputable def lhsO (T : Tb) (x : Nat × Nat) : Out := X (ovO T x.1 x.2) (.seq (cL cO) rO) (frO x.1) (hp (nO x.1))
noncomputable def rhsO (T : Tb) (x : Nat × Nat) : Out := some (.normal, frM (ovO T x.1 x.2) x.1 0, hp (nM x.1 0))
theorem stepO (T : Tb) : csO.map (lhsO T) = csO.map (rhsO T) := by kernel_rfl
noncomputable def lhsF (T : Tb) (i : Nat) : Out := thenK (X T (cR (cR cO))) (blockK 3 (blockK 4 (X T cM (frM T i 6) (hp (nM i 6)))))
noncomputable def rhsF (_ : Tb) (i : Nat) : Out := some (.normal, frO (i + 1), hp (nO (i + 1)))
theorem stepF (T : Tb) : r6.map (lhsF T) = r6.map (rhsF T) := by kernel_rfl
theorem exitM (T : Tb) : (r6.all fun i => isExit 4 (X T cM (frM T i 6) (hp (nM i 6)))) = true := by kernel_rfl

/-- before and behind the loops -/
noncomputable def pre : Code := .seq (.seq (.seq (.seq (cL body) (cL (cR body))) (cL (cR (cR body)))) cA) (cL cB)
def args6 : List AV := [.sym .i64 0, .sym .i64 1, .sym .i64 2, .sym .i64 3, .sym .i64 4, .sym .i64 5]
noncomputable def fr0 : Fr := ⟨initTm 0 args6 .nil, 222, []⟩
theorem start_eq : startFr Tryz.f3 args6 = some fr0 := by kernel_rfl
theorem stepS (T : Tb) : X T pre fr0 ⟨0, .nil⟩ = some (.normal, frO 0, hp (nO 0)) := by kernel_rfl
theorem exitO (T : Tb) : isExit 2 (X T cO (frO 6) (hp (nO 6))) = true := by kernel_rfl
noncomputable def isRet (r : Out) : Bool := match r with | some (.ret, fr, _) => (match fr.tm.get 12, fr.dfs with | some (.bool b), [] => b | _, _ => false) | _ => false
theorem stepZ (T : Tb) : isRet (thenK (X T cC) (blockK 2 (X T cO (frO 6) (hp (nO 6))))) = true := by kernel_rfl
theorem fn_eq (T : Tb) : (envM T).fn 3 = some Tryz.f3 := by kernel_rfl
theorem res_eq : Tryz.f3.results = #[.tmp 12] := by kernel_rfl
theorem fbody_eq : Tryz.f3.body = some body := by kernel_rfl
end Rfx.RfxEnvC
