/- The abstract machine: values, heaps, and a big-step evaluator of the model's code. Only definitions. -/
import GoSem.Core.Code
import GoSem.Core.Program
import GoSem.Core.View
import GoSem.Core.Region
import GoSem.Core.Utf8
set_option linter.unusedSectionVars false
set_option linter.unusedVariables false
set_option linter.unusedSimpArgs false
set_option linter.unnecessarySimpa false
namespace Rfx
open Go

inductive AV where
  | undef
  | bool (b : Bool)
  | int (k : IntKind) (n : Int)
  | sym (k : IntKind) (j : Nat)
  | ext (j : Nat)
  | str (s : List Nat)
  | nilp
  | ptr (o off : Nat)
  | ref (cells : List AV)
  | nilsl
  | sl (o off len : Nat) (cap : Option Nat) (sz : Nat)
  | esl
  | fsl (len : Nat) (full : Bool) (cells : List AV)
  | nilmap
  | map (o : Nat)
  | func (f : Nat) (first captured : List AV)
  | yld (l : Nat)
  | nilfunc
  | iface (t : Nat) (v : AV)
  | nilif
  | agg (cells : List AV)
  | tup (vs : List AV)
  deriving Inhabited

mutual
def AV.beq : AV → AV → Bool
  | .bool a, .bool b => a == b
  | .int k n, .int j m => decide (k = j) && decide (n = m)
  | .sym k n, .sym j m => decide (k = j) && Nat.beq n m
  | .ext n, .ext m => Nat.beq n m
  | .str a, .str b => a == b
  | .nilp, .nilp => true
  | .ptr a b, .ptr c d => Nat.beq a c && Nat.beq b d
  | .ref a, .ref b => AV.beqs a b
  | .nilsl, .nilsl => true
  | .sl a b c d e, .sl a' b' c' d' e' => Nat.beq a a' && Nat.beq b b' && Nat.beq c c' && (d == d' && Nat.beq e e')
  | .fsl a b c, .fsl a' b' c' => Nat.beq a a' && b == b' && AV.beqs c c'
  | .nilmap, .nilmap => true
  | .map a, .map b => Nat.beq a b
  | .func f a b, .func g c d => Nat.beq f g && AV.beqs a c && AV.beqs b d
  | .nilfunc, .nilfunc => true
  | .iface t v, .iface u w => Nat.beq t u && AV.beq v w
  | .nilif, .nilif => true
  | .agg a, .agg b => AV.beqs a b
  | .tup a, .tup b => AV.beqs a b
  | _, _ => false
def AV.beqs : List AV → List AV → Bool
  | [], [] => true
  | a :: x, b :: y => AV.beq a b && AV.beqs x y
  | _, _ => false
end

/-- binary tries keyed by numbers -/
inductive Tr (α : Type) where
  | nil
  | node (v : Option α) (l r : Tr α)
  deriving Inhabited

noncomputable section
namespace Tr
variable {α : Type}
def get (t : Tr α) : Nat → Option α :=
  Tr.rec (motive := fun _ => Nat → Option α) (fun _ => none)
    (fun v _ _ gl gr k => Nat.rec (motive := fun _ => Option α) v (fun k _ => Nat.rec (motive := fun _ => Option α) (gl (Nat.div k 2)) (fun _ _ => gr (Nat.div k 2)) (Nat.mod k 2)) k) t
def put1 (v : Option α) (ih : Tr α → Nat → Tr α) (t : Tr α) (k : Nat) : Tr α :=
  Tr.rec (motive := fun _ => Tr α)
    (Nat.rec (motive := fun _ => Tr α) (.node v .nil .nil) (fun k _ => Nat.rec (motive := fun _ => Tr α) (.node none (ih .nil (Nat.div k 2)) .nil) (fun _ _ => .node none .nil (ih .nil (Nat.div k 2))) (Nat.mod k 2)) k)
    (fun w l r _ _ => Nat.rec (motive := fun _ => Tr α) (.node v l r) (fun k _ => Nat.rec (motive := fun _ => Tr α) (.node w (ih l (Nat.div k 2)) r) (fun _ _ => .node w l (ih r (Nat.div k 2))) (Nat.mod k 2)) k) t
def setF (v : Option α) (d : Nat) : Tr α → Nat → Tr α :=
  Nat.rec (motive := fun _ => Tr α → Nat → Tr α) (fun t _ => t) (fun _ ih t k => put1 v ih t k) d
def set (t : Tr α) (k : Nat) (v : α) : Tr α := setF (some v) (Nat.succ k) t k
def del (t : Tr α) (k : Nat) : Tr α := setF none (Nat.succ k) t k
end Tr

inductive AB where
  | cells (cs : List AV)
  | map (es : List (AV × AV))
  | loop (fi : Nat) (tm : Tr AV) (n : Nat) (params : List Nat) (assign body : Code) (st : Nat) (pend : Option Nat)
  deriving Inhabited

structure AH where
  next : Nat
  bs : Tr AB
  deriving Inhabited

/-- the kinds of the cells of a struct that may be compared cell by cell -/
inductive FK where
  | b
  | i (k : IntKind)
  | s

/-- what is read of a type -/
structure TI where
  d : TypeDesc
  size : Nat
  bytes : Nat
  zero : List AV
  agg : Bool
  flat : List FK
  deriving Inhabited

mutual
def toAV : Value → AV
  | .bool b => .bool b
  | .int k n => .int k n
  | .string s => .str (s.data.toList.map (·.toNat))
  | .pointer none => .nilp
  | .slice none 0 0 => .nilsl
  | .map none => .nilmap
  | .nilFunc => .nilfunc
  | .nilIface => .nilif
  | .agg cs => .agg (toAVs cs.toList)
  | .func (.func f) a b => .func f (toAVs a.toList) (toAVs b.toList)
  | _ => .undef
def toAVs : List Value → List AV
  | [] => []
  | v :: r => toAV v :: toAVs r
end

/-- a region that draws: an order; what stands before each operation; the stores that need not stand in a chain; the operations that everything behind them waits for -/
structure Dw where
  ord : List Nat
  bef : List Nat
  lax : Nat
  pan : Nat

structure Env where
  ty : Nat → Option TI
  fn : Nat → Option Func
  ext : Nat → List AV → Option AV          -- functions without a body
  con : Nat → List AV → Option AV          -- functions with a contract of their own
  sym : BinOp → Nat → AV → AV → Option AV    -- what is known of numbers that are not known
  symu : UnOp → AV → Option AV
  xlen : Nat → Option AV                      -- slices that came in: their length, their cells
  xat : Nat → Nat → Nat → Option (List AV)
  pol : Nat → Nat → List (Nat × Option Nat)   -- what is frozen behind a region
  keep : Nat → Nat → Option (List Nat × Bool)   -- what is kept behind a region; is the heap let go
  ord : Nat → Nat → Option Dw                 -- the order in which a region that draws is run

inductive AN where
  | val (v : AV)
  | enter (f : Nat) (args : List AV)
  | yield (l : Nat) (args : List AV)
  | dfr (f : AV) (args : List AV)
  | panic (v : AV)

inductive AE where
  | normal
  | exit (id : Nat)
  | ret
  | panic (v : AV)
  deriving Inhabited

abbrev ON := Option (AN × AH)

def AV.one : AV → Bool
  | .undef | .agg _ | .tup _ => false
  | _ => true

def allOne : List AV → Bool
  | [] => true
  | v :: r => v.one && allOne r

/-- the cells of a value that is kept in memory -/
def cellsOf : AV → Option (List AV)
  | .agg cs => some cs
  | .undef => none
  | .tup _ => none
  | v => some [v]

def AH.cells (h : AH) (o : Nat) : Option (List AV) :=
  match h.bs.get o with
  | some (.cells cs) => some cs
  | _ => none

def bump (next nid : Nat) : Nat := bif Nat.blt nid next then next else nid + 1

def AH.put (h : AH) (nid : Nat) (b : AB) : AH := ⟨bump h.next nid, h.bs.set nid b⟩

def takeN (n : Nat) (l : List AV) : Option (List AV) :=
  bif Nat.ble n l.length then some (l.take n) else none

/-- n cells at a pointer -/
def readPtr (h : AH) (p : AV) (n : Nat) : Option (List AV) :=
  match p with
  | .ptr o off =>
    match h.cells o with
    | some cs => takeN n (cs.drop off)
    | none => none
  | .ref cs => takeN n cs
  | _ => none

def setAt (cs : List AV) (n : Nat) (vs : List AV) : List AV := cs.take n ++ vs ++ cs.drop (n + vs.length)

def writePtr (h : AH) (p : AV) (vs : List AV) : Option AH :=
  match p with
  | .ptr o off =>
    match h.cells o with
    | some cs => bif Nat.ble (off + vs.length) cs.length then some ⟨h.next, h.bs.set o (.cells (setAt cs off vs))⟩ else none
    | none => none
  | _ => none

/-- the first n cells of a slice -/
def sliceCells (h : AH) (n : Nat) : AV → Option (List AV)
  | .nilsl => bif Nat.beq n 0 then some [] else none
  | .esl => bif Nat.beq n 0 then some [] else none
  | .sl o off _ _ _ => readPtr h (.ptr o off) n
  | .fsl _ _ cs => takeN n cs
  | _ => none

def opnd (tm : Tr AV) : Operand → AV
  | .tmp t => (tm.get t).getD .undef
  | .const v => toAV v
  | .global _ => .undef
  | .func f => .func f [] []

def strLt : List Nat → List Nat → Bool
  | _, [] => false
  | [], _ :: _ => true
  | a :: x, b :: y => Nat.blt a b || (Nat.beq a b && strLt x y)

def natOf : AV → Option Nat
  | .int _ (.ofNat n) => some n
  | _ => none

def one1 (agg : Bool) (cs : List AV) (h : AH) : ON :=
  bif agg then some (.val (.agg cs), h) else match cs with
    | [v] => some (.val v, h)
    | _ => none

section
variable (E : Env)

def sz (t : Nat) : Option Nat := match E.ty t with
  | some i => some i.size
  | none => none

def intBin (op : BinOp) (k : IntKind) (a b : Int) : Option AV :=
  match op with
  | .add => some (.int k (k.wrap (a + b)))
  | .sub => some (.int k (k.wrap (a - b)))
  | .mul => some (.int k (k.wrap (a * b)))
  | .eql => some (.bool (a == b))
  | .neq => some (.bool (a != b))
  | .lss => some (.bool (a < b))
  | .leq => some (.bool (a ≤ b))
  | .gtr => some (.bool (a > b))
  | .geq => some (.bool (a ≥ b))
  | .quo => bif b == 0 then none else some (.int k (k.wrap (a.tdiv b)))
  | .rem => bif b == 0 then none else some (.int k (a.tmod b))
  | .and => some (.int k (k.wrap (BitVec.ofInt k.bits a &&& BitVec.ofInt k.bits b).toNat))
  | .or => some (.int k (k.wrap (BitVec.ofInt k.bits a ||| BitVec.ofInt k.bits b).toNat))
  | .xor => some (.int k (k.wrap (BitVec.ofInt k.bits a ^^^ BitVec.ofInt k.bits b).toNat))
  | _ => none
def shiftBin (op : BinOp) (k : IntKind) (a b : Int) : Option AV :=
  match op with
  | .shl => bif b < 0 then none else some (.int k (k.wrap (a * 2 ^ (min b.toNat k.bits))))
  | .shr => bif b < 0 then none else some (.int k (a.fdiv (2 ^ (min b.toNat k.bits))))
  | _ => none
def strBin (op : BinOp) (a b : List Nat) : Option AV :=
  match op with
  | .add => bif Nat.ble (a.length + b.length) 4294967296 then some (.str (a ++ b)) else none
  | .eql => some (.bool (a == b))
  | .neq => some (.bool (!(a == b)))
  | .lss => some (.bool (strLt a b))
  | .leq => some (.bool (strLt a b || a == b))
  | .gtr => some (.bool (!(strLt a b || a == b)))
  | .geq => some (.bool (!strLt a b))
  | _ => none
def eqBin (op : BinOp) (r : Bool) : Option AV :=
  match op with
  | .eql => some (.bool r)
  | .neq => some (.bool (!r))
  | _ => none
def isShift : BinOp → Bool
  | .shl | .shr => true
  | _ => false

/-- cells that can be compared one by one -/
def fits1 : FK → AV → Bool
  | .b, .bool _ => true
  | .i k, .int j _ => decide (k = j)
  | .s, .str _ => true
  | _, _ => false
def fitsAll : List FK → List AV → Bool
  | [], [] => true
  | k :: ks, v :: vs => fits1 k v && fitsAll ks vs
  | _, _ => false

def binop (op : BinOp) (t : Nat) (x y : AV) : Option AV :=
  match x, y with
  | .int k a, .int k' b => bif isShift op then shiftBin op k a b else bif decide (k = k') then intBin op k a b else none
  | .str a, .str b => strBin op a b
  | .bool a, .bool b => match E.ty t with
    | some ⟨.bool, _, _, _, _, _⟩ => eqBin op (a == b)
    | _ => none
  | .agg a, .agg b => match E.ty t with
    | some i => bif !i.flat.isEmpty && (fitsAll i.flat a && fitsAll i.flat b) then eqBin op (AV.beqs a b) else E.sym op t x y
    | none => none
  | .nilif, .iface _ _ | .iface _ _, .nilif => match E.ty t with
    | some ⟨.interface _, _, _, _, _, _⟩ => eqBin op false
    | _ => none
  | .nilp, .nilp => match E.ty t with
    | some ⟨.pointer _, _, _, _, _, _⟩ => eqBin op true
    | _ => none
  | .nilp, .ptr _ _ | .nilp, .ref _ | .ptr _ _, .nilp | .ref _, .nilp => match E.ty t with
    | some ⟨.pointer _, _, _, _, _, _⟩ => eqBin op false
    | _ => none
  | _, _ => E.sym op t x y

/-- comparing with a written nil of an interface type -/
def nilBin (op : BinOp) (t : Nat) (x y : Operand) (a b : AV) : Option AV :=
  match a, b with
  | .nilif, .nilif =>
    match E.ty t with
    | some ⟨.interface _, _, _, _, _, _⟩ =>
      (match x, y with
      | .const _, _ => eqBin op true
      | _, .const _ => eqBin op true
      | _, _ => none)
    | _ => none
  | _, _ => binop E op t a b

def fillA (cells : List AV) : List (Nat × Nat × Option (List AV)) → Option (List AV)
  | [] => some cells
  | (off, n, some vs) :: r => bif Nat.beq vs.length n && Nat.ble (off + n) cells.length then fillA (setAt cells off vs) r else none
  | (_, _, none) :: _ => none

def rep (n : Nat) (l : List AV) : List AV :=
  Nat.rec (motive := fun _ => List AV) [] (fun _ ih => l ++ ih) n

def keyOk : AV → Bool
  | .int _ _ | .str _ => true
  | _ => false
def keysOk : List (AV × AV) → Bool
  | [] => true
  | (k, _) :: r => keyOk k && keysOk r

def lookupA (k : AV) : List (AV × AV) → Option AV
  | [] => none
  | (a, b) :: r => bif AV.beq k a then some b else lookupA k r

def updateA (k v : AV) : List (AV × AV) → List (AV × AV)
  | [] => [(k, v)]
  | (a, b) :: r => bif AV.beq k a then (k, v) :: r else (a, b) :: updateA k v r

def bound1 (d : Nat) : Option AV → Option Nat
  | none => some d
  | some v => natOf v

def sliceBounds' (len cap : Nat) (low high : Option AV) : Option (Nat × Nat) :=
  match bound1 len high, bound1 0 low with
  | some h, some l => bif Nat.ble h cap && Nat.ble l h then some (l, h) else none
  | _, _ => none

/-- a new row behind an append; len: how many elements the old slice has -/
def grow (h : AH) (nid sz n : Nat) (cs : List AV) : ON :=
  some (.val (.sl nid 0 n none sz), h.put nid (.cells cs))

def roomFor (n bytes : Nat) : Bool := Nat.ble ((n + 1024) * bytes) 1099511627776 && Nat.blt 0 bytes

def appendTo (h : AH) (size bytes : Nat) (s : AV) (n : Nat) (new : List AV) : ON :=
  match s with
  | .nilsl => bif Nat.beq n 0 then some (.val .nilsl, h) else bif roomFor n bytes then grow h h.next size n new else none
  | .fsl len true cs => bif Nat.beq n 0 then some (.val s, h) else
    match takeN (len * size) cs with
    | some old => bif roomFor (len + n) bytes then grow h h.next size (len + n) (old ++ new) else none
    | none => none
  | .sl _ _ len (some c) sz => bif Nat.beq n 0 then some (.val s, h) else
    match sliceCells h (len * size) s with
    | some old => bif roomFor (len + n) bytes && (Nat.beq sz size && Nat.beq c len) then grow h h.next size (len + n) (old ++ new) else none
    | none => none
  | .sl o _ len none sz => bif Nat.beq n 0 then some (.val s, h) else
    match sliceCells h (len * size) s with
    | some old => bif roomFor (len + n) bytes && (Nat.beq sz size && allOne new) then grow ⟨h.next, h.bs.del o⟩ h.next size (len + n) (old ++ new) else none
    | none => none
  | _ => none

/-- how many elements an append adds, and their cells -/
def added (h : AH) (size : Nat) (x : AV) : Option (Nat × List AV) :=
  match x with
  | .nilsl => some (0, [])
  | .esl => some (0, [])
  | .sl _ _ n _ _ => match sliceCells h (n * size) x with
    | some cs => some (n, cs)
    | none => none
  | .fsl n _ cs => match takeN (n * size) cs with
    | some cs => some (n, cs)
    | none => none
  | _ => none

def isSliceT : Option Nat → Bool
  | some t => match E.ty t with
    | some ⟨.slice _, _, _, _, _, _⟩ => true
    | _ => false
  | none => false
def isIntT : Option Nat → Bool
  | some t => match E.ty t with
    | some ⟨.int _, _, _, _, _, _⟩ => true
    | _ => false
  | none => false
/-- append (nil, make ([]T, n)...) -/
def makeApp (h : AH) (size bytes : Nat) (zero : List AV) (s x : AV) : ON :=
  match s, x with
  | .nilsl, .int _ (.ofNat n) => bif Nat.beq n 0 then some (.val .nilsl, h) else bif roomFor n bytes then grow h h.next size n (rep n zero) else none
  | _, _ => none
def doAppend (h : AH) (st xt : Option Nat) (s x : AV) : ON :=
  match st with
  | none => none
  | some t => match E.ty t with
    | some ⟨.slice e, _, _, _, _, _⟩ => match E.ty e with
      | some i => bif isSliceT E xt then match added h i.size x with
        | some (n, new) => appendTo h i.size i.bytes s n new
        | none => none
        else bif isIntT E xt then makeApp h i.size i.bytes i.zero s x else none
      | none => none
    | _ => none

def lenA : AV → Option Nat
  | .str s => some s.length
  | .nilsl => some 0
  | .esl => some 0
  | .sl _ _ n _ _ => some n
  | .fsl n _ _ => some n
  | _ => none

def isLenDesc : TypeDesc → AV → Bool
  | .string, .str _ => true
  | .slice _, .nilsl | .slice _, .esl | .slice _, .sl _ _ _ _ _ | .slice _, .fsl _ _ _ => true
  | _, _ => false

def isSliceD : TypeDesc → Bool
  | .slice _ => true
  | _ => false

def doLen (h : AH) (t : Option Nat) (x : AV) : ON :=
  match t with
  | none => none
  | some t => match E.ty t with
    | some i => match x with
      | .ext q => bif isSliceD i.d then (match E.xlen q with | some v => some (.val v, h) | none => none) else none
      | _ => bif isLenDesc i.d x then (match lenA x with | some n => some (.val (.int .i64 n), h) | none => none) else none
    | none => none

def capA : AV → Option Nat
  | .nilsl => some 0
  | .sl _ _ _ (some c) _ => some c
  | .fsl n true _ => some n
  | _ => none

def doCap (h : AH) (t : Option Nat) (x : AV) : ON :=
  match t with
  | none => none
  | some t => match E.ty t with
    | some ⟨.slice _, _, _, _, _, _⟩ => (match capA x with | some n => some (.val (.int .i64 n), h) | none => none)
    | _ => none

def doMax (h : AH) (x y : AV) : ON :=
  match x, y with
  | .int k x, .int _ y => some (.val (.int k (if y > x then y else x)), h)
  | _, _ => none
def doMin (h : AH) (x y : AV) : ON :=
  match x, y with
  | .int k x, .int _ y => some (.val (.int k (if y < x then y else x)), h)
  | _, _ => none

def builtinA (h : AH) (b : Builtin) (argT : Array Nat) (args : List AV) : ON :=
  match b, args with
  | .len, [x] => doLen E h argT[0]? x
  | .append, [s, x] => doAppend E h argT[0]? argT[1]? s x
  | .cap, [x] => doCap E h argT[0]? x
  | .max, [x, y] => doMax h x y
  | .min, [x, y] => doMin h x y
  | _, _ => none

def doEnter (h : AH) (g : Nat) (a : List AV) : ON :=
  match E.ext g a with
  | some v => some (.val v, h)
  | none => match E.fn g with
    | some fn => bif fn.body.isSome then some (.enter g a, h) else none
    | none => none

def callA (f : AV) (args : List AV) (h : AH) : ON :=
  match f with
  | .func g first cap => doEnter E h g (first ++ args ++ cap)
  | .yld l => some (.yield l args, h)
  | _ => none

def doAlloc (h : AH) (nid : Nat) (cs : List AV) : ON := some (.val (.ptr nid 0), h.put nid (.cells cs))
def doBox (h : AH) (nid : Nat) (x : AV) : ON :=
  match cellsOf x with
  | some cs => doAlloc h nid cs
  | none => none
def doAllocT (h : AH) (nid : Nat) (t : Nat) : ON :=
  match E.ty t with
  | some i => doAlloc h nid i.zero
  | none => none
def doPick (h : AH) (c a b : AV) : ON :=
  match c with
  | .bool true => some (.val a, h)
  | .bool false => some (.val b, h)
  | _ => none

def partsA (pl : Nat → Option (Nat × Nat)) (tm : Tr AV) : List (Nat × Operand) → Option (List (Nat × Nat × Option (List AV)))
  | [] => some []
  | (j, x) :: r => match pl j, partsA pl tm r with
    | some (off, n), some l => some ((off, n, cellsOf (opnd tm x)) :: l)
    | _, _ => none
def fieldPl (fs : Array Field) (j : Nat) : Option (Nat × Nat) :=
  match fs[j]? with
  | some f => match sz E f.type with
    | some n => some (f.offset, n)
    | none => none
  | none => none
def doFill (h : AH) (cells : List AV) (ps : Option (List (Nat × Nat × Option (List AV)))) : ON :=
  match ps with
  | some ps => match fillA cells ps with
    | some cs => some (.val (.agg cs), h)
    | none => none
  | none => none
def allSized (fs : List Field) : Bool :=
  match fs with
  | [] => true
  | f :: r => (sz E f.type).isSome && allSized r
def doBuild (h : AH) (tm : Tr AV) (t : Nat) (parts : Array (Nat × Operand)) : ON :=
  match E.ty t with
    | some i => match i.d with
      | .struct fs => bif allSized E fs.toList then doFill h i.zero (partsA (fieldPl E fs) tm parts.toList) else none
      | .array _ e => match sz E e with
        | some n => doFill h i.zero (partsA (fun j => some (j * n, n)) tm parts.toList)
        | none => none
      | _ => none
    | none => none
def doBuildSlice (h : AH) (nid : Nat) (tm : Tr AV) (t : Nat) (len : Nat) (parts : Array (Nat × Operand)) : ON :=
  match E.ty t with
    | some ⟨.slice e, _, _, _, _, _⟩ => match E.ty e with
      | some i => bif Nat.ble (len * i.size) 65536 && Nat.blt 0 i.size then
          match partsA (fun j => some (j * i.size, i.size)) tm parts.toList with
          | some ps => match fillA (rep len i.zero) ps with
            | some cs => some (.val (.sl nid 0 len (some len) i.size), h.put nid (.cells cs))
            | none => none
          | none => none
        else none
      | none => none
    | _ => none
def doLoad (h : AH) (t : Nat) (p : AV) : ON :=
  match E.ty t with
    | some i => match readPtr h p i.size with
      | some cs => one1 i.agg cs h
      | none => none
    | none => none
def doStore (h : AH) (t : Nat) (p x : AV) : ON :=
  match E.ty t, cellsOf x with
  | some i, some cs => bif Nat.beq cs.length i.size && allOne cs then
      match writePtr h p cs with
      | some h => some (.val (.tup []), h)
      | none => none
    else none
  | _, _ => none
def doNil (h : AH) (x : AV) : ON :=
  match x with
    | .ptr _ _ => some (.val x, h)
    | .ref _ => some (.val x, h)
    | _ => none
def doBin (h : AH) (op : BinOp) (t : Nat) (x y : Operand) (a b : AV) : ON :=
  match nilBin E op t x y a b with
    | some v => some (.val v, h)
    | none => none
def doUn (h : AH) (op : UnOp) (x : AV) : ON :=
  match op, x with
    | .neg, .int k n => some (.val (.int k (k.wrap (0 - n))), h)
    | .not, .bool b => some (.val (.bool (!b)), h)
    | _, _ => match E.symu op x with
      | some v => some (.val v, h)
      | none => none
def isByte (e : Nat) : Bool :=
  match E.ty e with
  | some ⟨.int .u8, _, _, _, _, _⟩ => true
  | _ => false
def bytesAV : List Nat → List AV
  | [] => []
  | b :: r => .int .u8 b :: bytesAV r
def doConv (h : AH) (nid : Nat) (s d : Nat) (x : AV) : ON :=
  match E.ty s, E.ty d with
  | some i, some j => match i.d, j.d, x with
    | _, .int k, .int _ n => some (.val (.int k (k.wrap n)), h)
    | _, .string, .str s => some (.val (.str s), h)
    | _, .string, .int _ n => some (.val (.str ((Utf8.encode n).data.toList.map (·.toNat))), h)
    | _, .slice e, .str s => bif isByte E e && Nat.beq nid h.next then some (.val (.sl nid 0 s.length none 1), h.put nid (.cells (bytesAV s))) else none
    | _, _, _ => none
  | _, _ => none
def keyFits (t : Nat) (k : AV) : Bool :=
  match E.ty t, k with
  | some ⟨.int k, _, _, _, _, _⟩, .int k' _ => decide (k = k')
  | some ⟨.string, _, _, _, _, _⟩, .str _ => true
  | _, _ => false
def keysFit (t : Nat) : List (AV × AV) → Bool
  | [] => true
  | (k, _) :: r => keyFits E t k && keysFit t r
def doMapUpd (h : AH) (t : Nat) (m k v : AV) : ON :=
  match E.ty t with
  | some ⟨.map key _, _, _, _, _, _⟩ => match m with
    | .map o => match h.bs.get o with
      | some (.map es) => bif keyFits E key k && keysFit E key es then some (.val (.tup []), ⟨h.next, h.bs.set o (.map (updateA k v es))⟩) else none
      | _ => none
    | _ => none
  | _ => none
def zeroVal (i : TI) : Option AV :=
  bif i.agg then some (.agg i.zero) else match i.zero with
    | [v] => some v
    | _ => none
def found (h : AH) (ok : Bool) (v : AV) (is : Bool) : ON := some (.val (bif ok then .tup [v, .bool is] else v), h)
/-- a key that is not known, and that is none of the keys -/
def symMissAll (kt : Nat) (kd : IntKind) (k : AV) : List (AV × AV) → Bool
  | [] => true
  | (.int kd' n, _) :: r => decide (kd' = kd) && ((match E.sym .eql kt k (.int kd n) with | some (.bool b) => !b | _ => false) && symMissAll kt kd k r)
  | _ => false
def symMiss (kt : Nat) (k : AV) (es : List (AV × AV)) : Bool :=
  match k with
  | .sym kd _ => match E.ty kt with
    | some ⟨.int kd', _, _, _, _, _⟩ => decide (kd' = kd) && symMissAll E kt kd k es
    | _ => false
  | _ => false
def doLookup (h : AH) (t : Nat) (m k : AV) (ok : Bool) : ON :=
  match E.ty t with
    | some ⟨.map key e, _, _, _, _, _⟩ => match m with
      | .map o => match h.bs.get o with
        | some (.map es) => bif keyFits E key k && keysFit E key es then
            match lookupA k es with
            | some v => found h ok v true
            | none => match E.ty e with
              | some i => match zeroVal i with
                | some z => found h ok z false
                | none => none
              | none => none
          else bif symMiss E key k es then
            match E.ty e with
            | some i => match zeroVal i with
              | some z => found h ok z false
              | none => none
            | none => none
          else none
        | _ => none
      | _ => none
    | _ => none
def sub1 (o off : Nat) (cap : Option Nat) (sz l e : Nat) : AV :=
  bif Nat.beq l e && Nat.blt 0 l then .esl else .sl o (off + l * sz) (e - l) cap sz
def capLess (l : Nat) : Option Nat → Option Nat
  | some c => some (c - l)
  | none => none
def doSliceSl (h : AH) (o off len : Nat) (cap : Option Nat) (n : Nat) (lo hi mx : Option AV) : ON :=
  match sliceBounds' len (cap.getD len) lo hi with
  | some (l, e) => match mx with
    | none => some (.val (sub1 o off (capLess l cap) n l e), h)
    | some m => match natOf m with
      | some m => bif Nat.ble e m && Nat.ble m (cap.getD len) then some (.val (sub1 o off (some (m - l)) n l e), h) else none
      | none => none
  | none => none
def sub2 (n : Nat) (full : Bool) (cs : List AV) (l e : Nat) : AV :=
  bif Nat.beq l e && Nat.blt 0 l then .esl else .fsl (e - l) full (cs.drop (l * n))
def doSliceF (h : AH) (len : Nat) (full : Bool) (cs : List AV) (n : Nat) (lo hi mx : Option AV) : ON :=
  match sliceBounds' len len lo hi with
  | some (l, e) => match mx with
    | none => some (.val (sub2 n (full && Nat.beq e len) cs l e), h)
    | some m => match natOf m with
      | some m => bif Nat.beq e m then some (.val (sub2 n true cs l e), h) else none
      | none => none
  | none => none
def doSliceStr (h : AH) (s : List Nat) (lo hi mx : Option AV) : ON :=
  match mx, sliceBounds' s.length s.length lo hi with
  | none, some (l, e) => some (.val (.str ((s.drop l).take (e - l))), h)
  | _, _ => none
def doSliceV (h : AH) (n : Nat) (x : AV) (lo hi mx : Option AV) : ON :=
  match x with
  | .sl o off len cap sz => bif Nat.beq sz n then doSliceSl h o off len cap n lo hi mx else none
  | .fsl len full cs => doSliceF h len full cs n lo hi mx
  | .nilsl => match mx, sliceBounds' 0 0 lo hi with
    | none, some _ => some (.val .nilsl, h)
    | _, _ => none
  | _ => none
def doSlice (h : AH) (t : Nat) (x : AV) (lo hi mx : Option AV) : ON :=
  match E.ty t with
  | some i => match i.d, x with
    | .string, .str s => doSliceStr h s lo hi mx
    | .slice e, x => match sz E e with
      | some n => doSliceV h n x lo hi mx
      | none => none
    | _, _ => none
  | none => none
def placeA (h : AH) (x : AV) (off : Nat) : ON :=
  match x with
  | .ptr o b => some (.val (.ptr o (b + off)), h)
  | .ref cs => some (.val (.ref (cs.drop off)), h)
  | _ => none
def doFieldAddr (h : AH) (t : Nat) (x : AV) (f : Nat) : ON :=
  match E.ty t with
    | some ⟨.struct fs, _, _, _, _, _⟩ => match fs[f]? with
      | some f => match sz E f.type with
        | some n => bif Nat.blt 0 n then placeA h x f.offset else none
        | none => none
      | none => none
    | _ => none
def partA (h : AH) (i : TI) (cs : List AV) (off : Nat) : ON :=
  match takeN i.size (cs.drop off) with
  | some l => one1 i.agg l h
  | none => none
def doField (h : AH) (t : Nat) (x : AV) (f : Nat) : ON :=
  match E.ty t with
    | some ⟨.struct fs, _, _, _, _, _⟩ => match fs[f]? with
      | some f => match x, E.ty f.type with
        | .agg cs, some i => partA h i cs f.offset
        | _, _ => none
      | none => none
    | _ => none
def idxAt (h : AH) (n j : Nat) (x : AV) : ON :=
  match x with
  | .sl o off len _ sz => bif Nat.blt j len && Nat.beq sz n then some (.val (.ptr o (off + j * n)), h) else none
  | .fsl len _ cs => bif Nat.blt j len then some (.val (.ref (cs.drop (j * n))), h) else none
  | _ => none
def doIndexAddr (h : AH) (t : Nat) (x i : AV) : ON :=
  match natOf i with
  | none => none
  | some j => match E.ty t with
    | some ⟨.slice e, _, _, _, _, _⟩ => match sz E e with
      | some n => match x with
        | .ext q => match E.xat q j n with
          | some cs => some (.val (.ref cs), h)
          | none => none
        | _ => idxAt h n j x
      | none => none
    | some ⟨.array len e, _, _, _, _, _⟩ => match sz E e with
      | some n => bif Nat.blt j len then placeA h x (j * n) else none
      | none => none
    | _ => none
def doIndex (h : AH) (t : Nat) (x i : AV) : ON :=
  match natOf i with
  | none => none
  | some j => match E.ty t with
    | some ⟨.string, _, _, _, _, _⟩ => match x with
      | .str s => match s[j]? with
        | some b => some (.val (.int .u8 b), h)
        | none => none
      | _ => none
    | some ⟨.array len e, _, _, _, _, _⟩ => match x, E.ty e with
      | .agg cs, some i => bif Nat.blt j len then partA h i cs (j * i.size) else none
      | _, _ => none
    | _ => none
def doExtract (h : AH) (x : AV) (i : Nat) : ON :=
  match x with
    | .tup vs => match vs[i]? with
      | some v => some (.val v, h)
      | none => none
    | _ => none
def doAssert (h : AH) (x : AV) (t : Nat) (ok : Bool) : ON :=
  match E.ty t with
  | some i => match i.d with
    | .interface _ => none
    | _ => match x with
      | .iface u v => bif Nat.beq u t then some (.val (bif ok then .tup [v, .bool true] else v), h) else bif ok then
          match zeroVal i with
          | some z => some (.val (.tup [z, .bool false]), h)
          | none => none
          else none
      | _ => none
  | none => none
def doIface (h : AH) (t : Nat) (x : AV) : ON :=
  match E.ty t with
  | some i => match i.d with
    | .interface _ => none
    | _ => some (.val (.iface t x), h)
  | none => none
def doPanic (h : AH) (x : AV) : ON :=
  match x with
    | .iface t v => some (.panic (.iface t v), h)
    | _ => none
def doCall (h : AH) (tm : Tr AV) (c : Go.Call) : ON :=
  match c.callee with
    | .builtin b => builtinA E h b c.argTypes (c.args.toList.map (opnd tm))
    | .value f => callA E (opnd tm f) (c.args.toList.map (opnd tm)) h
    | _ => none
def doDefer (h : AH) (tm : Tr AV) (c : Go.Call) : ON :=
  match c.callee with
    | .value f => match opnd tm f with
      | .func g a b => some (.dfr (.func g a b) (c.args.toList.map (opnd tm)), h)
      | _ => none
    | _ => none
def doFunc (h : AH) (tm : Tr AV) (fn : Fn) (a b : Array Operand) : ON :=
  match fn with
  | .func f => some (.val (.func f (a.toList.map (opnd tm)) (b.toList.map (opnd tm))), h)
  | _ => none
def optA (tm : Tr AV) : Option Operand → Option AV
  | some x => some (opnd tm x)
  | none => none

def opA (nid : Nat) (tm : Tr AV) (o : Op) (h : AH) : ON :=
  match o with
  | .move x => some (.val (opnd tm x), h)
  | .assign x => some (.val (opnd tm x), h)
  | .load t a => doLoad E h t (opnd tm a)
  | .store t a x => doStore E h t (opnd tm a) (opnd tm x)
  | .fieldAddr t x f => doFieldAddr E h t (opnd tm x) f
  | .call c => doCall E h tm c
  | .binOp op t x y _ => doBin E h op t x y (opnd tm x) (opnd tm y)
  | .pick c a b => doPick h (opnd tm c) (opnd tm a) (opnd tm b)
  | .alloc t => doAllocT E h nid t
  | .box _ x => doBox h nid (opnd tm x)
  | .build t parts => doBuild E h tm t parts
  | .buildSlice t len parts => doBuildSlice E h nid tm t len parts
  | .nilCheck x => doNil h (opnd tm x)
  | .unOp op _ x => doUn E h op (opnd tm x)
  | .convert s d x => doConv E h nid s d (opnd tm x)
  | .makeInterface t x => doIface E h t (opnd tm x)
  | .makeFunc fn a b => doFunc h tm fn a b
  | .makeMap _ none => some (.val (.map nid), h.put nid (.map []))
  | .mapUpdate t m k v => doMapUpd E h t (opnd tm m) (opnd tm k) (opnd tm v)
  | .insert t m k v => doMapUpd E h t (opnd tm m) (opnd tm k) (opnd tm v)
  | .lookup t m k ok => doLookup E h t (opnd tm m) (opnd tm k) ok
  | .slice t x lo hi mx => bif mx.isSome && hi.isNone then none else doSlice E h t (opnd tm x) (optA tm lo) (optA tm hi) (optA tm mx)
  | .field t x f => doField E h t (opnd tm x) f
  | .indexAddr t x i => doIndexAddr E h t (opnd tm x) (opnd tm i)
  | .index t x i => doIndex E h t (opnd tm x) (opnd tm i)
  | .extract x i => doExtract h (opnd tm x) i
  | .typeAssert x _ t ok => doAssert E h (opnd tm x) t ok
  | .panic x => doPanic h (opnd tm x)
  | .defer c => doDefer h tm c
  | _ => none

/-- what a call gives -/
inductive Res where
  | ret (v : AV)
  | panic (v : AV)
  deriving Inhabited

inductive DF where
  | call (f : AV) (args : List AV)
  | mark

structure Fr where
  tm : Tr AV
  n : Nat
  dfs : List DF
  deriving Inhabited

abbrev Call := Nat → List AV → AH → Option (Res × AH)
abbrev DCall := Nat → List AV → Option AV → AH → Option (Bool × AH)
abbrev Yield := Nat → List AV → AH → Option (AV × AH)
abbrev Out := Option (AE × Fr × AH)
abbrev K := Fr → AH → Out

def guardA (all : List Oper) (tm : Tr AV) (j : Nat) (want : Bool) : Bool :=
  match all[j]? with
  | some p => match p.dst with
    | some d => match tm.get d with
      | some (.bool b) => b == want
      | _ => false
    | none => false
  | none => false

/-- the guarding value is known: a truth value, or nothing -/
def guardKnown (all : List Oper) (tm : Tr AV) (j : Nat) : Bool :=
  match all[j]? with
  | some p => match p.dst with
    | some d => match tm.get d with
      | some (.bool _) => true
      | some (.tup []) => true
      | _ => false
    | none => false
  | none => false

/-- is the operation wanted; none: not known -/
def wantedA (o : Oper) (all : List Oper) (tm : Tr AV) : Option Bool :=
  match o.guard with
  | none => some true
  | some (j, want) => bif guardKnown all tm j then some (guardA all tm j want) else none

def putA (fr : Fr) (dst : Option Nat) (v : AV) (k : Fr → Out) : Out :=
  Fr.rec (motive := fun _ => Out) (fun tm n dfs => Option.rec (motive := fun _ => Out) (k ⟨tm, n, dfs⟩)
    (fun d => Bool.rec (motive := fun _ => Out) none (k ⟨tm.set d v, n, dfs⟩) (Nat.ble (Nat.succ d) n)) dst) fr

def afterCall (dst : Option Nat) (fr : Fr) (k : K) (r : Option (Res × AH)) : Out :=
  match r with
  | some (.ret v, h) => putA fr dst v fun fr => k fr h
  | some (.panic v, h) => some (.panic v, fr, h)
  | none => none

def afterOp (call : Call) (yield : Yield) (rnd : Bool) (dst : Option Nat) (fr : Fr) (k : K) (n : AN) (h : AH) : Out :=
  match n with
  | .val v => putA fr dst v fun fr => k fr h
  | .enter f a => afterCall dst fr k (call f a h)
  | .panic v => some (.panic v, fr, h)
  | .dfr f a => bif rnd then none else putA { fr with dfs := .call f a :: fr.dfs } dst (.tup []) fun fr => k fr h
  | .yield l a => match yield l a h with
    | some (v, h) => putA fr dst v fun fr => k fr h
    | none => none

def stepOp (call : Call) (yield : Yield) (rnd : Bool) (all : List Oper) (o : Oper) (k : K) (fr : Fr) (h : AH) : Out :=
  match wantedA o all fr.tm with
  | some true =>
    match opA E h.next fr.tm o.op h with
    | some (n, h) => afterOp call yield rnd o.dst fr k n h
    | none => none
  | some false => putA fr o.dst (.tup []) fun fr => k fr h
  | none => none

def runOps (call : Call) (yield : Yield) (rnd : Bool) (all : List Oper) (l : List Oper) : K :=
  List.rec (motive := fun _ => K) (fun fr h => some (.normal, fr, h)) (fun o _ ih => stepOp E call yield rnd all o ih) l

/-! ### a region that draws its order -/

inductive OK where
  | pure | alloc | read | store | eff | bad
  deriving DecidableEq

def kindOf : Op → OK
  | .move _ | .assign _ | .pick _ _ _ | .fieldAddr _ _ _ | .field _ _ _ | .binOp _ _ _ _ _ | .unOp _ _ _ | .nilCheck _ | .build _ _ | .makeInterface _ _
  | .makeFunc _ _ _ | .slice _ _ _ _ _ | .indexAddr _ _ _ | .index _ _ _ | .extract _ _ | .typeAssert _ _ _ _ => .pure
  | .alloc _ | .box _ _ | .buildSlice _ _ _ | .makeMap _ none | .convert _ _ _ => .alloc
  | .load _ _ | .lookup _ _ _ _ => .read
  | .store _ _ _ => .store
  | .call c => match c.callee with
    | .builtin b => match b with
      | .len | .cap | .max | .min => .pure
      | .append => .eff
      | _ => .bad
    | .value _ => .eff
    | _ => .bad
  | .mapUpdate _ _ _ _ | .insert _ _ _ _ | .panic _ => .eff
  | _ => .bad

inductive Rd where
  | load (t : Nat) (p : AV)
  | look (t : Nat) (m k : AV) (ok : Bool)
  | none

def rdOf (tm : Tr AV) : Op → Rd
  | .load t a => .load t (opnd tm a)
  | .lookup t m k ok => .look t (opnd tm m) (opnd tm k) ok
  | _ => .none

def rdRun (h : AH) : Rd → ON
  | .load t p => doLoad E h t p
  | .look t m k ok => doLookup E h t m k ok
  | .none => none

inductive Wt where
  | rd (i : Nat) (r : Rd) (v : AV)
  | st (i : Nat) (o : Nat)

def isVal (v : AV) : ON → Bool
  | some (.val w, _) => AV.beq v w
  | _ => false

def blockOf : AV → Option Nat
  | .ptr o _ => some o
  | _ => none

def storeAddr (tm : Tr AV) : Op → Option Nat
  | .store _ a _ => blockOf (opnd tm a)
  | _ => none

def Dw.before (d : Dw) (i : Nat) : Nat := d.bef.getD i 0
def Dw.bit (d : Dw) (j i : Nat) : Bool := (d.before j).testBit i

/-- the makes of memory that are waited for, put into the heap -/
def flushN (base p done : Nat) (pend bs : Tr AB) (n : Nat) : Tr AB :=
  Nat.rec (motive := fun _ => Tr AB) bs (fun k ih => bif p.testBit k && !done.testBit k then (match pend.get k with | some B => ih.set (base + k) B | none => ih) else ih) n

def fl (base n p done : Nat) (pend : Tr AB) (h : AH) : AH :=
  match pend with
  | .nil => h
  | .node v l r => ⟨h.next, flushN base p done (.node v l r) h.bs n⟩

structure DS where
  ws : List Wt
  pend : Tr AB
  done : Nat
  fr : Fr
  h : AH

inductive DR where
  | go (s : DS)
  | stop (e : AE) (fr : Fr) (h : AH)

inductive DO where
  | fr (v : AV) (B : Option AB)
  | rd (r : Rd)
  | ef (sto : Option Nat)

def far (base : Nat) : Nat := base + 4294967296

/-- what an operation does, from the temporaries alone -/
def plan (all : List Oper) (base i : Nat) (o : Oper) (tm : Tr AV) : Option DO :=
  match wantedA o all tm with
  | none => none
  | some false => some (.fr (.tup []) none)
  | some true =>
    match kindOf o.op with
    | .pure => match opA E (base + i) tm o.op ⟨far base, .nil⟩ with
      | some (.val v, h) => match h.bs.get (base + i) with
        | none => bif Nat.beq h.next (far base) then some (.fr v none) else none
        | some _ => none
      | _ => none
    | .alloc => match opA E (base + i) tm o.op ⟨far base, .nil⟩ with
      | some (.val v, h) => bif Nat.beq h.next (far base) then some (.fr v (h.bs.get (base + i))) else none
      | _ => none
    | .read => some (.rd (rdOf tm o.op))
    | .store => match storeAddr tm o.op with
      | some b => some (.ef (some b))
      | none => none
    | .eff => some (.ef none)
    | .bad => none

/-- behind the effect of operation j: what was read and could be read later still reads the same; stores that may come either way go to two blocks -/
def wtOk (d : Dw) (base n j : Nat) (sto : Option Nat) (done : Nat) (pend : Tr AB) (h : AH) : Wt → Bool
  | .rd i r v => d.bit j i || isVal v (rdRun E (fl base n (d.before i) done pend h) r)
  | .st i o => d.bit j i || (match sto with | some o' => !Nat.beq o o' | none => false)

def watchOk (d : Dw) (base n j : Nat) (sto : Option Nat) (done : Nat) (pend : Tr AB) (h : AH) (ws : List Wt) : Bool :=
  ws.all (wtOk E d base n j sto done pend h)

def clearD (all : List Oper) (tm : Tr AV) : Tr AV :=
  match all with
  | [] => tm
  | o :: r => match o.dst with
    | some d => clearD r (tm.set d .undef)
    | none => clearD r tm

def stw (i : Nat) (sto : Option Nat) (ws : List Wt) : List Wt :=
  match sto with
  | some o => .st i o :: ws
  | none => ws

def setO (pend : Tr AB) (i : Nat) (B : Option AB) : Tr AB :=
  match B with
  | some B => pend.set i B
  | none => pend

def putD (fr : Fr) (dst : Option Nat) (v : AV) (k : Fr → DS) : Option DR :=
  match dst with
  | some d => bif Nat.blt d fr.n then some (.go (k { fr with tm := fr.tm.set d v })) else none
  | none => some (.go (k fr))

def dEff (d : Dw) (base n i : Nat) (dst : Option Nat) (sto : Option Nat) (s : DS) (v : AV) (h : AH) : Option DR :=
  bif Nat.ble h.next (far base) && watchOk E d base n i sto (s.done ||| d.before i) s.pend h s.ws then
    putD s.fr dst v fun fr => ⟨stw i sto s.ws, s.pend, s.done ||| d.before i, fr, h⟩
  else none

def dStop (d : Dw) (all : List Oper) (i : Nat) (s : DS) (v : AV) (h : AH) : Option DR :=
  bif d.pan.testBit i then some (.stop (.panic v) { s.fr with tm := clearD all s.fr.tm } h) else none

def dAft (call : Call) (d : Dw) (all : List Oper) (base n i : Nat) (dst : Option Nat) (sto : Option Nat) (s : DS) : Option (AN × AH) → Option DR
  | some (.val v, h) => dEff E d base n i dst sto s v h
  | some (.enter f a, h) => match call f a h with
    | some (.ret v, h) => dEff E d base n i dst sto s v h
    | some (.panic v, h) => dStop d all i s v h
    | none => none
  | some (.panic v, h) => dStop d all i s v h
  | _ => none

def dDo (call : Call) (d : Dw) (all : List Oper) (base n i : Nat) (o : Oper) (s : DS) : Option DO → Option DR
  | none => none
  | some (.fr v B) => putD s.fr o.dst v fun fr => ⟨s.ws, setO s.pend i B, s.done, fr, s.h⟩
  | some (.rd r) => match rdRun E (fl base n (d.before i) s.done s.pend s.h) r with
    | some (.val v, _) => putD s.fr o.dst v fun fr => ⟨.rd i r v :: s.ws, s.pend, s.done, fr, s.h⟩
    | _ => none
  | some (.ef sto) => dAft E call d all base n i o.dst sto s (opA E (base + i) s.fr.tm o.op (fl base n (d.before i) s.done s.pend s.h))

def dOne (call : Call) (d : Dw) (all : List Oper) (base n i : Nat) (s : DS) : Option DR :=
  match all[i]? with
  | none => none
  | some o => dDo E call d all base n i o s (plan E all base i o s.fr.tm)

def dNext (k : DS → Out) : Option DR → Out
  | none => none
  | some (.go s) => k s
  | some (.stop e fr h) => some (e, fr, h)

def dRun (call : Call) (d : Dw) (all : List Oper) (base n : Nat) (l : List Nat) : DS → Out :=
  List.rec (motive := fun _ => DS → Out) (fun s => some (.normal, s.fr, fl base n (2 ^ n - 1) s.done s.pend s.h)) (fun i _ ih s => dNext ih (dOne E call d all base n i s)) l

def drawRun (call : Call) (ops : Array Oper) (d : Dw) (fr : Fr) (h : AH) : Out :=
  dRun E call d ops.toList h.next ops.size d.ord ⟨[], .nil, 0, fr, ⟨h.next + ops.size, h.bs⟩⟩

/-- may two operations stand in either order: x comes first in the order of the table -/
def looksAt (all : List Oper) (o : Oper) : List Nat :=
  (o.op.operands.toList.filterMap fun | .tmp t => some t | _ => none) ++
  (match o.guard with
   | some (g, _) => (match all[g]? with | some p => p.dst.toList | none => [])
   | none => [])

def apartO (all : List Oper) (x y : Oper) : Bool :=
  (match x.dst with
   | some d => !(looksAt all y).contains d && y.dst != some d
   | none => true) &&
  (match y.dst with
   | some d => !(looksAt all x).contains d
   | none => true)

def kindsOk (lx ly : Bool) : OK → OK → Bool
  | .bad, _ | _, .bad => false
  | .pure, _ | _, .pure => true
  | .alloc, .store => !ly
  | .store, .alloc => !lx
  | .alloc, _ | _, .alloc => true
  | .read, .read => true
  | .read, .store => !ly
  | .read, .eff => true
  | .store, .store => lx && ly
  | _, _ => false

def pairOk (d : Dw) (all : List Oper) (x y : Nat) : Bool :=
  match all[x]?, all[y]? with
  | some p, some q => !Nat.beq x y && !d.bit x y && (d.bit y x || (!d.pan.testBit x && apartO all p q && kindsOk (d.lax.testBit x) (d.lax.testBit y) (kindOf p.op) (kindOf q.op)))
  | _, _ => false

def pairsOk (d : Dw) (all : List Oper) : List Nat → Bool
  | [] => true
  | x :: l => l.all (pairOk d all x) && pairsOk d all l

def bitsIn (x y : Nat) : Bool := Nat.beq (Nat.land x y) x

/-- the operations before j, in one stride -/
def beforeOne (d : Dw) (o : Oper) : Nat :=
  o.after.toList.foldl (fun s e => bif Region.binds .any e then s ||| 2 ^ e.on ||| d.before e.on else s) 0

def befOk (d : Dw) : List Oper → Nat → Bool
  | [], _ => true
  | o :: l, j => bitsIn (d.before j) (beforeOne d o) && befOk d l (j + 1)

def topoOk (md : Region.Mode) (all : List Oper) : List Nat → List Nat → Bool
  | [], _ => true
  | i :: l, seen => (match all[i]? with
    | some o => o.after.toList.all fun e => !Region.binds md e || seen.contains e.on
    | none => false) && topoOk md all l (i :: seen)

def coversOk (n : Nat) (l : List Nat) : Bool := (List.range n).all fun i => l.contains i

def modeOk (md : Region.Mode) (ops : Array Oper) : Bool :=
  topoOk md ops.toList (Region.linearise md ops 0) [] && coversOk ops.size (Region.linearise md ops 0)

/-- what is asked of the table's entry for a region -/
def drawOk (ops : Array Oper) (d : Dw) : Bool :=
  pairsOk d ops.toList d.ord && coversOk ops.size d.ord && befOk d ops.toList 0 && Nat.ble ops.size 65536 && (d.ord.all fun i => Nat.blt i ops.size) &&
  modeOk .any ops && modeOk .text ops && modeOk .gc ops

/-! ### what is frozen -/
def isFull (cap : Option Nat) (len : Nat) : Bool :=
  match cap with
  | some c => Nat.beq c len
  | none => false
def frz1 (h : AH) (v : AV) : AV × AH :=
  match v with
  | .sl o off len cap _ => match h.cells o with
    | some cs => (.fsl len (isFull cap len) (cs.drop off), ⟨h.next, h.bs.del o⟩)
    | none => (v, h)
  | .ptr o off => match h.cells o with
    | some cs => (.ref (cs.drop off), ⟨h.next, h.bs.del o⟩)
    | none => (v, h)
  | _ => (v, h)
def ghost1 (fr : Fr) (h : AH) (t : Nat) (at_ : Option Nat) : Fr × AH :=
  match fr.tm.get t with
  | none => (fr, h)
  | some v => match at_ with
    | none => match frz1 h v with
      | (v, h) => ({ fr with tm := fr.tm.set t v }, h)
    | some i => match v with
      | .agg cs => match cs[i]? with
        | some c => match frz1 h c with
          | (c, h) => ({ fr with tm := fr.tm.set t (.agg (cs.set i c)) }, h)
        | none => (fr, h)
      | _ => (fr, h)
def ghosts : List (Nat × Option Nat) → Fr → AH → Out
  | [], fr, h => some (.normal, fr, h)
  | (t, a) :: r, fr, h => match ghost1 fr h t a with
    | (fr, h) => ghosts r fr h

/-- what is kept behind a region -/
def keepTm (tm : Tr AV) : List Nat → Tr AV
  | [] => .nil
  | t :: r => match tm.get t with
    | some v => (keepTm tm r).set t v
    | none => keepTm tm r
def keepK (k : Option (List Nat × Bool)) (r : Out) : Out :=
  match k with
  | none => r
  | some (l, b) => match r with
    | some (e, fr, h) => some (e, { fr with tm := keepTm fr.tm l }, bif b then ⟨h.next, .nil⟩ else h)
    | none => none

def thenK (k : K) (r : Out) : Out :=
  match r with
  | some (.normal, fr, h) => k fr h
  | r => r

def regionK (call : Call) (yield : Yield) (rnd : Bool) (fnid id : Nat) (ops : Array Oper) (draw : Bool) : K := fun fr h =>
  thenK (fun fr h => keepK (E.keep fnid id) (ghosts (E.pol fnid id) fr h))
    (bif draw then (bif rnd then none else match E.ord fnid id with
        | some d => drawRun E call ops d fr h
        | none => none)
     else runOps E call yield rnd ops.toList ops.toList fr h)

def loopA (body : K) (n : Nat) : K :=
  Nat.rec (motive := fun _ => K) (fun _ _ => none) (fun _ ih fr h => thenK ih (body fr h)) n

def condK (c : AV) (a b : K) : K :=
  match c with
  | .bool true => a
  | .bool false => b
  | _ => fun _ _ => none

def blockK (id : Nat) (r : Out) : Out :=
  match r with
  | some (.exit i, fr, h) => bif Nat.beq i id then some (.normal, fr, h) else some (.exit i, fr, h)
  | r => r

def rangeEnd (l : Nat) (fr : Fr) (r : Option (Res × AH)) : Out :=
  match r with
  | some (.ret _, h) => match h.bs.get l with
    | some (.loop fi tm n ps a b st pend) => bif Nat.beq st 1 then none else
      let h : AH := ⟨h.next, h.bs.set l (.loop fi tm n ps a b 3 pend)⟩
      match pend with
      | none => some (.normal, fr, h)
      | some 0 => some (.ret, fr, h)
      | some (n + 1) => some (.exit n, fr, h)
    | _ => none
  | some (.panic v, h) => some (.panic v, fr, h)
  | none => none

def rangeK (call : Call) (rnd : Bool) (fnid : Nat) (f : Operand) (params : Array Tmp) (assign body : Code) (fr : Fr) (h : AH) : Out :=
  bif rnd then none else
    match callA E (opnd fr.tm f) [.yld h.next] (h.put h.next (.loop fnid fr.tm fr.n params.toList assign body 0 none)) with
    | some (.enter g a, h') => rangeEnd h.next { fr with dfs := .mark :: fr.dfs } (call g a h')
    | _ => none

def exec (call : Call) (yield : Yield) (rnd : Bool) (fnid : Nat) (fuel : Nat) (c : Code) : K :=
  Code.rec (motive := fun _ => K)
    (fun fr h => some (.normal, fr, h))                       -- skip
    (fun id ops draw => regionK E call yield rnd fnid id ops draw)  -- region
    (fun _ _ a b fr h => thenK b (a fr h))                    -- seq
    (fun c _ _ a b fr h => condK (opnd fr.tm c) a b fr h)     -- cond
    (fun id _ b fr h => blockK id (b fr h))                   -- block
    (fun _ b => loopA b fuel)                                 -- loop
    (fun f params assign body _ _ => rangeK E call rnd fnid f params assign body)
    (fun id fr h => some (.exit id, fr, h))                   -- exit
    (fun _ _ _ _ => none)                                     -- scope
    (fun _ _ _ => none)                                       -- label
    (fun _ _ _ => none)                                       -- goto
    (fun fr h => some (.ret, fr, h))                          -- ret
    (fun _ _ _ => none)                                       -- refuse
    c

/-! ### calls -/
def resA (tm : Tr AV) (h : AH) : List ResultVar → Option (List AV)
  | [] => some []
  | .tmp t :: r => match resA tm h r with
    | some vs => some ((tm.get t).getD .undef :: vs)
    | none => none
  | .cell a t :: r => match doLoad E h t ((tm.get a).getD .undef), resA tm h r with
    | some (.val v, _), some vs => some (v :: vs)
    | _, _ => none

def tupA : List AV → AV
  | [v] => v
  | vs => .tup vs

def resultsA (fn : Func) (tm : Tr AV) (h : AH) : Option AV :=
  match resA E tm h fn.results.toList with
  | some vs => some (tupA vs)
  | none => none

def initTm (i : Nat) (l : List AV) (t : Tr AV) : Tr AV :=
  match l with
  | [] => t
  | a :: r => initTm (i + 1) r (t.set i a)

def startFr (fn : Func) (args : List AV) : Option Fr :=
  bif Nat.ble args.length fn.ntmps then some ⟨initTm 0 args .nil, fn.ntmps, []⟩ else none

def setAll (tm : Tr AV) (n : Nat) : List Nat → List AV → Option (Tr AV)
  | [], [] => some tm
  | p :: ps, a :: as => bif Nat.blt p n then setAll (tm.set p a) n ps as else none
  | _, _ => none

def yEnd (l : Nat) (r : Out) : Option (AV × AH) :=
  match r with
  | some (e, _, h) => match h.bs.get l with
    | some (.loop fi tm n ps a b st _) => bif Nat.beq st 1 then
        match e with
        | .normal => some (.bool true, ⟨h.next, h.bs.set l (.loop fi tm n ps a b 0 none)⟩)
        | .ret => some (.bool false, ⟨h.next, h.bs.set l (.loop fi tm n ps a b 2 (some 0))⟩)
        | .exit i => some (.bool false, ⟨h.next, h.bs.set l (.loop fi tm n ps a b 2 (some (i + 1)))⟩)
        | .panic _ => none
      else none
    | _ => none
  | none => none

def yBody (call : Call) (n : Nat) (l fi : Nat) (body : Code) : K := fun fr h =>
  match h.bs.get l with
  | some (.loop fi' tm m ps a b st pend) => bif Nat.beq st 0 then
      exec E call (fun _ _ _ => none) true fi n body fr ⟨h.next, h.bs.set l (.loop fi' tm m ps a b 1 pend)⟩
    else none
  | _ => none

def yNormal (r : Out) (k : K) : Out :=
  match r with
  | some (.normal, fr, h) => k fr h
  | _ => none

def yieldA (call : Call) (n : Nat) (l : Nat) (args : List AV) (h : AH) : Option (AV × AH) :=
  match h.bs.get l with
  | some (.loop fi tm m ps assign body _ _) =>
    match setAll tm m ps args with
    | some tm => yEnd l (yNormal (exec E call (fun _ _ _ => none) true fi n assign ⟨tm, m, []⟩ h) (yBody E call n l fi body))
    | none => none
  | _ => none

/-- the first operation of a deferred function that recovers -/
def recOp : Code → Option (Option Nat × Code)
  | .seq (.region _ ops false) rest => match ops.toList with
    | [o] => match o.guard, o.op with
      | none, .call c => match c.callee with
        | .builtin .recover => some (o.dst, rest)
        | _ => none
      | _, _ => none
    | _ => none
  | _ => none

def dEnd (rec : Bool) (r : Out) : Option (Bool × AH) :=
  match r with
  | some (.normal, fr, h) => match fr.dfs with
    | [] => some (rec, h)
    | _ => none
  | some (.ret, fr, h) => match fr.dfs with
    | [] => some (rec, h)
    | _ => none
  | _ => none

def dcall (call : Call) (n : Nat) : DCall := fun f args p h =>
  match E.fn f with
  | none => none
  | some fn => match fn.body with
    | none => none
    | some c => match fn.results.toList, recOp c, startFr fn args with
      | [], some (dst, rest), some fr => dEnd p.isSome (putA fr dst (p.getD .nilif) fun fr => exec E call (fun _ _ _ => none) false f n rest fr h)
      | _, _, _ => none

def runDefers (dc : DCall) : List DF → Option AV → AH → Option (Option AV × AH)
  | [], p, h => some (p, h)
  | .mark :: r, p, h => runDefers dc r p h
  | .call f a :: r, p, h => match callA E f a h with
    | some (.enter g a, h) => match dc g a p h with
      | some (rec, h) => runDefers dc r (bif rec then none else p) h
      | none => none
    | _ => none

def finishA (fn : Func) (tm : Tr AV) (r : Option (Option AV × AH)) : Option (Res × AH) :=
  match r with
  | none => none
  | some (some v, h) => some (.panic v, h)
  | some (none, h) => match resultsA E fn tm h with
    | some v => some (.ret v, h)
    | none => none

def leaveA (dc : DCall) (fn : Func) (r : Out) : Option (Res × AH) :=
  match r with
  | some (.normal, fr, h) => finishA E fn fr.tm (runDefers E dc fr.dfs none h)
  | some (.ret, fr, h) => finishA E fn fr.tm (runDefers E dc fr.dfs none h)
  | some (.panic v, fr, h) => finishA E fn fr.tm (runDefers E dc fr.dfs (some v) h)
  | _ => none

def bodyA (call : Call) (n : Nat) (f : Nat) (args : List AV) (h : AH) : Option (Res × AH) :=
  match E.con f args with
  | some v => some (.ret v, h)
  | none =>
    match E.fn f with
    | none => none
    | some fn => match fn.body, startFr fn args with
      | some c, some fr => leaveA E (dcall E call n) fn (exec E call (yieldA E call n) false f n c fr h)
      | _, _ => none

def evalN (n : Nat) : Call :=
  Nat.rec (motive := fun _ => Call) (fun _ _ _ => none) (fun n ih => bodyA E ih n) n
end
end
end Rfx
