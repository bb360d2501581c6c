import GoSem.Step
import Derived.Recover
import Derived.Orders
import Derived.Laws.World
import Derived.Below
import Derived.Laws.Cells
import Derived.ProofKit
import Derived.Laws.Strings
set_option linter.unusedVariables false
set_option linter.unusedSimpArgs false
namespace Go.S2

/-- A value of the plain machine: addresses name blocks of its own heap. -/
inductive V where
  | bool (b : Bool)
  | int (k : IntKind) (n : Int)
  | str (s : List UInt8)
  | ptr (a : Option (Nat × Nat))
  | slice (a : Option (Nat × Nat)) (len cap : Nat) (ex : Bool)
  | map (r : Option Nat)
  | func (f : FuncId) (first cap : List V)
  | nilFunc
  | iface (t : TypeId) (v : V)
  | nilIface
  | agg (cs : List V)
  | tuple (vs : List V)
  | any
  deriving Inhabited

/-- A value in a frame's slot: none, a value, or a place in a variable of the frame's own. -/
inductive TV where
  | undef
  | v (x : V)
  | l (slot off : Nat)
  | ls (slot len : Nat)
  deriving Inhabited

inductive TK where
  | bool | int (k : IntKind) | string | pointer (e : TypeId) | slice (e : TypeId) | array (n : Nat) (e : TypeId)
  | map (k e : TypeId) | struct (fs : List (Nat × TypeId)) | iface (empty : Bool) | func | tuple | other
  deriving Inhabited

structure TI where
  size : Nat
  bytes : Nat
  kind : TK
  zero : List V
  deriving Inhabited

def TK.agg : TK → Bool
  | .struct _ | .array _ _ => true
  | _ => false

/-- A block of the plain heap. 'fz': 0: nothing of it is frozen; k+1: nothing is from place k on. 'pm': a map whose entries lie in an order that is not known. -/
inductive O where
  | cells (cs : List V) (elem : TypeId) (ro : Bool) (fz : Nat)
  | map (es : List (V × V))
  | pm (es : List (V × V))
  | aux (k : Nat)
  deriving Inhabited

/-- A trie over the natural numbers. -/
inductive Tr (α : Type) where
  | nil
  | node (l : Tr α) (v : Option α) (r : Tr α)
  deriving Inhabited

def Tr.get {α : Type} : Tr α → Nat → Option α
  | .nil, _ => none
  | .node l v r, n => match Nat.beq n 0 with
    | true => v
    | false => match Nat.beq (n % 2) 1 with
      | true => l.get (n / 2)
      | false => r.get (n / 2 - 1)

def Tr.put {α : Type} : Nat → Tr α → Nat → Option α → Tr α
  | 0, t, _, _ => t
  | f + 1, .nil, n, o => match Nat.beq n 0 with
    | true => .node .nil o .nil
    | false => match Nat.beq (n % 2) 1 with
      | true => .node (Tr.put f .nil (n / 2) o) none .nil
      | false => .node .nil none (Tr.put f .nil (n / 2 - 1) o)
  | f + 1, .node l v r, n, o => match Nat.beq n 0 with
    | true => .node l o r
    | false => match Nat.beq (n % 2) 1 with
      | true => .node (Tr.put f l (n / 2) o) v r
      | false => .node l v (Tr.put f r (n / 2 - 1) o)

/-- The plain heap; 'ver' rises with every change. -/
structure H where
  next : Nat
  ver : Nat
  tr : Tr O
  deriving Inhabited

def H.get (h : H) (i : Nat) : Option O := h.tr.get i
def H.set (h : H) (i : Nat) (o : O) : H := { next := h.next, ver := h.ver + 1, tr := Tr.put (i + 1) h.tr i (some o) }
def H.drop (h : H) (i : Nat) : H := { next := h.next, ver := h.ver + 1, tr := Tr.put (i + 1) h.tr i none }
def H.new (h : H) (o : O) : H := { next := h.next + 1, ver := h.ver + 1, tr := Tr.put (h.next + 1) h.tr h.next (some o) }

inductive LO where
  | cells (cs : List V)
  | siter (s : List UInt8) (pos : Nat)
  | miter (m k : Nat) (seen : List Nat)
  | mnil
  deriving Inhabited

structure FS where
  tm : Tr TV
  lc : Tr LO
  df : List (FuncId × List V) := []
  deriving Inhabited

inductive Res where
  | fail
  | ok (v : V) (h : H)
  | pan (v : V) (h : H)
  deriving Inhabited

inductive Ex where
  | norm | exit (id : Nat) | ret | pan (v : V)
  deriving Inhabited

inductive XR where
  | fail
  | go (e : Ex) (fs : FS) (h : H)
  deriving Inhabited

abbrev Run := FuncId → List V → H → Res

structure Ctx where
  T : TypeId → Option TI
  F : FuncId → Option Func
  esc : FuncId → List Tmp
  keep : FuncId → Nat → Option (List Nat)
  ov : FuncId → Option (Run → List V → H → Res)

/-! ### Values -/

/-- The numbers below are those of the package-level variables. -/
def gMax : Nat := 512

def ofScalar : Value → Option V
  | .bool b => some (.bool b)
  | .int k n => some (.int k n)
  | .string s => some (.str s.data.toList)
  | .pointer none => some (.ptr none)
  | .slice none 0 0 => some (.slice none 0 0 true)
  | .map none => some (.map none)
  | .nilFunc => some .nilFunc
  | .nilIface => some .nilIface
  | _ => none

def ofScalars : List Value → Option (List V)
  | [] => some []
  | v :: vs => match ofScalar v, ofScalars vs with
    | some x, some xs => some (x :: xs)
    | _, _ => none

def ofConst : Value → Option V
  | .agg cs => (ofScalars cs.toList).map .agg
  | .tuple cs => (ofScalars cs.toList).map .tuple
  | .iface t v => (ofScalar v).map (.iface t)
  | v => ofScalar v

def V.cells : V → List V
  | .agg cs => cs
  | v => [v]

def FS.tmp (fs : FS) (t : Nat) : TV := match fs.tm.get t with
  | some x => x
  | none => .undef

def FS.loc (fs : FS) (s : Nat) : Option LO := fs.lc.get s
def FS.setT (fs : FS) (t : Nat) (x : TV) : FS := { tm := Tr.put (t + 1) fs.tm t (some x), lc := fs.lc, df := fs.df }
def FS.setL (fs : FS) (s : Nat) (o : LO) : FS := { tm := fs.tm, lc := Tr.put (s + 1) fs.lc s (some o), df := fs.df }

def evalO (fs : FS) : Operand → TV
  | .tmp t => fs.tmp t
  | .const v => match ofConst v with
    | some x => .v x
    | none => .undef
  | .global g => match Nat.blt g gMax with
    | true => .v (.ptr (some (g, 0)))
    | false => .undef
  | .func f => .v (.func f [] [])

def evalV (fs : FS) (o : Operand) : Option V :=
  match evalO fs o with
  | .v x => some x
  | _ => none

def evalVs (fs : FS) : List Operand → Option (List V)
  | [] => some []
  | o :: os => match evalV fs o, evalVs fs os with
    | some x, some xs => some (x :: xs)
    | _, _ => none

def FS.put (fs : FS) (dst : Option Tmp) (v : TV) : FS :=
  match dst with
  | some d => fs.setT d v
  | none => fs

def takeN {α : Type} : Nat → List α → Option (List α)
  | 0, _ => some []
  | _ + 1, [] => none
  | n + 1, x :: xs => match takeN n xs with
    | some ys => some (x :: ys)
    | none => none

def dropN {α : Type} : Nat → List α → List α
  | 0, xs => xs
  | _ + 1, [] => []
  | n + 1, _ :: xs => dropN n xs

/-- Whether a value fills one cell. -/
def V.one : V → Bool
  | .agg _ => false
  | .tuple _ => false
  | _ => true

/-- 'vs' in the place of the cells from 'off' on. -/
def putCells : List V → Nat → List V → Option (List V)
  | cs, _, [] => some cs
  | [], _, _ :: _ => none
  | _ :: cs, 0, v :: vs => match v.one, putCells cs 0 vs with
    | true, some r => some (v :: r)
    | _, _ => none
  | c :: cs, n + 1, v :: vs => match putCells cs n (v :: vs) with
    | some r => some (c :: r)
    | none => none

def nth {α : Type} : List α → Nat → Option α
  | [], _ => none
  | x :: _, 0 => some x
  | _ :: xs, n + 1 => nth xs n

def look3 {α : Type} (l : List (List (List (Option α)))) (t : Nat) : Option α :=
  match nth l (t / 64) with
  | none => none
  | some l => match nth l (t / 8 % 8) with
    | none => none
    | some l => match nth l (t % 8) with
      | none => none
      | some x => x

def isAgg (C : Ctx) (t : TypeId) : Bool := match C.T t with | some ti => ti.kind.agg | none => false
def tsize (C : Ctx) (t : TypeId) : Nat := match C.T t with | some ti => ti.size | none => 0
def tbytes (C : Ctx) (t : TypeId) : Nat := match C.T t with | some ti => ti.bytes | none => 0
def tkind (C : Ctx) (t : TypeId) : TK := match C.T t with | some ti => ti.kind | none => .other
def tzero (C : Ctx) (t : TypeId) : Option (List V) := match C.T t with | some ti => some ti.zero | none => none

/-- The part of some cells that is a variable of type t. -/
def partA (C : Ctx) (t : TypeId) (cs : List V) (off : Nat) : Option V :=
  match C.T t with
  | none => none
  | some ti =>
    match takeN ti.size (dropN off cs) with
    | none => none
    | some r => if ti.kind.agg then some (.agg r) else match r with
      | [x] => some x
      | _ => none

def zeroA (C : Ctx) (t : TypeId) : Option V :=
  match C.T t with
  | none => none
  | some ti => if ti.kind.agg then some (.agg ti.zero) else match ti.zero with
    | [x] => some x
    | _ => none

/-! ### Operations -/

inductive OR where
  | fail
  | ok (x : TV) (fs : FS) (h : H)
  | call (f : FuncId) (args : List V)
  | pan (v : V)
  deriving Inhabited

def okV (fs : FS) (h : H) : Option V → OR
  | some x => .ok (.v x) fs h
  | none => .fail

def loadA (C : Ctx) (t : TypeId) (a : TV) (fs : FS) (h : H) : OR :=
  match a with
  | .l s o => match fs.loc s with
    | some (.cells cs) => okV fs h (partA C t cs o)
    | _ => .fail
  | .v (.ptr (some (i, o))) => match h.get i with
    | some (.cells cs _ _ _) => okV fs h (partA C t cs o)
    | _ => .fail
  | _ => .fail

def storeA (C : Ctx) (t : TypeId) (a : TV) (x : V) (fs : FS) (h : H) : OR :=
  if x.cells.length ≠ tsize C t ∨ x.cells.length = 0 then .fail else
  match a with
  | .l s o => match fs.loc s with
    | some (.cells cs) => match putCells cs o x.cells with
      | some cs' => .ok .undef (fs.setL s (.cells cs')) h
      | none => .fail
    | _ => .fail
  | .v (.ptr (some (i, o))) => match h.get i with
    | some (.cells cs e false fz) => if fz ≤ o + 1 then match putCells cs o x.cells with
        | some cs' => .ok .undef fs (h.set i (.cells cs' e false fz))
        | none => .fail
      else .fail
    | _ => .fail
  | _ => .fail

/-- A new variable of these cells: of the frame's own, or on the heap. -/
def newA (heap : Bool) (d : Option Tmp) (e : TypeId) (cs : List V) (fs : FS) (h : H) : OR :=
  if heap then .ok (.v (.ptr (some (h.next, 0)))) fs (h.new (.cells cs e false 0))
  else match d with
    | some d => match fs.loc d with
      | none => .ok (.l d 0) (fs.setL d (.cells cs)) h
      | some _ => .fail
    | none => .fail

def fillA (C : Ctx) (place : Nat → Option (Nat × Nat)) (cs : List V) : List (Nat × V) → Option (List V)
  | [] => some cs
  | (i, x) :: rest => match place i with
    | none => none
    | some (off, size) => if x.cells.length ≠ size ∨ size = 0 then none else match putCells cs off x.cells with
      | some cs' => fillA C place cs' rest
      | none => none

def evalParts (fs : FS) : List (Nat × Operand) → Option (List (Nat × V))
  | [] => some []
  | (i, o) :: ps => match evalV fs o, evalParts fs ps with
    | some x, some xs => some ((i, x) :: xs)
    | _, _ => none


def buildA (C : Ctx) (t : TypeId) (ps : List (Nat × V)) : Option V :=
  match C.T t with
  | none => none
  | some ti => match ti.kind with
    | .struct fields => (fillA C (fun i => match nth fields i with | some (o, ft) => some (o, tsize C ft) | none => none) ti.zero ps).map .agg
    | .array _ e => match C.T e with
      | some te => (fillA C (fun i => some (i * te.size, te.size)) ti.zero ps).map .agg
      | none => none
    | _ => none

def repL (zero : List V) : Nat → List V
  | 0 => []
  | n + 1 => zero ++ repL zero n

def isTrue : TV → Option Bool
  | .v (.bool b) => some b
  | _ => none

def intBin (op : BinOp) (k : IntKind) (a b : Int) : Option V :=
  match op with
  | .add => some (.int k (k.wrap (a + b)))
  | .sub => some (.int k (k.wrap (a - b)))
  | .mul => some (.int k (k.wrap (a * b)))
  | .quo => if b = 0 then none else some (.int k (k.wrap (a.tdiv b)))
  | .rem => if b = 0 then none else some (.int k (a.tmod b))
  | .and => some (.int k (k.wrap (BitVec.ofInt k.bits a &&& BitVec.ofInt k.bits b).toNat))
  | .or => some (.int k (k.wrap (BitVec.ofInt k.bits a ||| BitVec.ofInt k.bits b).toNat))
  | .xor => some (.int k (k.wrap (BitVec.ofInt k.bits a ^^^ BitVec.ofInt k.bits b).toNat))
  | .andNot => some (.int k (k.wrap (BitVec.ofInt k.bits a &&& ~~~(BitVec.ofInt k.bits b)).toNat))
  | .eql => some (.bool (a == b))
  | .neq => some (.bool (a != b))
  | .lss => some (.bool (decide (a < b)))
  | .leq => some (.bool (decide (a ≤ b)))
  | .gtr => some (.bool (decide (a > b)))
  | .geq => some (.bool (decide (a ≥ b)))
  | _ => none

def shiftA (op : BinOp) (k : IntKind) (x y : Int) : Option V :=
  if y < 0 then none else
  match op with
  | .shl => some (.int k (k.wrap (x * 2 ^ (min y.toNat k.bits))))
  | .shr => some (.int k (x.fdiv (2 ^ (min y.toNat k.bits))))
  | _ => none

def strBin (op : BinOp) (a b : List UInt8) : Option V :=
  match op with
  | .add => if a.length + b.length < 4611686018427387904 then some (.str (a ++ b)) else none
  | .eql => some (.bool (a == b))
  | .neq => some (.bool (!(a == b)))
  | .lss => some (.bool (Op.bytesLess a b))
  | .leq => some (.bool (Op.bytesLess a b || a == b))
  | .gtr => some (.bool (!(Op.bytesLess a b || a == b)))
  | .geq => some (.bool (!(Op.bytesLess a b)))
  | _ => none

/-- Whether two places in different blocks are surely two. -/
def twoA (h : H) (i j : Nat) : Bool :=
  match h.get i, h.get j with
  | some (.cells _ _ ri 0), some (.cells _ _ rj 0) => !(ri && rj)
  | _, _ => false

def eqlA (C : Ctx) (t : TypeId) (h : H) (x y : V) : Option Bool :=
  match tkind C t with
  | .bool => match x, y with
    | .bool a, .bool b => some (a == b)
    | _, _ => none
  | .pointer e => match x, y with
    | .ptr none, .ptr b => some b.isNone
    | .ptr (some _), .ptr none => some false
    | .ptr (some (i, o)), .ptr (some (j, p)) =>
      match C.T e with
      | some te => if te.size = 0 then none else
        if i = j then some (o == p) else if twoA h i j then some false else none
      | none => none
    | _, _ => none
  | .iface _ => match x, y with
    | .nilIface, .iface _ _ => some false
    | .iface _ _, .nilIface => some false
    | _, _ => none
  | .slice _ => match x, y with
    | .slice none _ _ _, .slice b _ _ _ => some b.isNone
    | .slice (some _) _ _ _, .slice none _ _ _ => some false
    | _, _ => none
  | .map _ _ => match x, y with
    | .map none, .map b => some b.isNone
    | .map (some _), .map none => some false
    | _, _ => none
  | .func => match x, y with
    | .nilFunc, .nilFunc => some true
    | .nilFunc, .func _ _ _ => some false
    | .func _ _ _, .nilFunc => some false
    | _, _ => none
  | _ => none

def isConstO : Operand → Bool
  | .const _ => true
  | _ => false

def binA (C : Ctx) (op : BinOp) (t : TypeId) (x y : Operand) (h : H) (a b : V) : Option V :=
  match a, b with
  | .int k m, .int k' n =>
    if op = .shl ∨ op = .shr then shiftA op k m n else if k = k' then intBin op k m n else none
  | .str m, .str n => strBin op m n
  | .nilIface, .nilIface =>
    match tkind C t with
    | .iface e => if e || isConstO x || isConstO y then
        match op with
        | .eql => some (.bool true)
        | .neq => some (.bool false)
        | _ => none
      else none
    | _ => none
  | a, b => match op with
    | .eql => (eqlA C t h a b).map .bool
    | .neq => (eqlA C t h a b).map fun r => .bool (!r)
    | _ => none

def unA (op : UnOp) (x : V) : Option V :=
  match op, x with
  | .neg, .int k n => some (.int k (k.wrap (0 - n)))
  | .xor, .int k n => some (.int k (k.wrap (BitVec.ofInt k.bits (if k.signed then -1 else k.max) ^^^ BitVec.ofInt k.bits n).toNat))
  | .not, .bool b => some (.bool !b)
  | _, _ => none

def bytesV (s : List UInt8) : List V := s.map fun b => .int .u8 b.toNat
def vBytes : List V → Option (List UInt8)
  | [] => some []
  | .int .u8 n :: vs => match vBytes vs with
    | some r => some (UInt8.ofNat n.toNat :: r)
    | none => none
  | _ => none

def isOther : TK → Bool
  | .other => true
  | _ => false

def convA (C : Ctx) (s d : TypeId) (x : V) (fs : FS) (h : H) : OR :=
  match isOther (tkind C s) with
  | true => .fail
  | false => match tkind C s, tkind C d, x with
  | _, .int k, .int _ n => .ok (.v (.int k (k.wrap n))) fs h
  | _, .string, .int _ n => .ok (.v (.str (Utf8.encode n).data.toList)) fs h
  | _, .string, .str l => .ok (.v (.str l)) fs h
  | _, .slice e, .str l => match tkind C e with
    | .int .u8 => if l.length < 70368744177664 then .ok (.v (.slice (some (h.next, 0)) l.length l.length false)) fs (h.new (.cells (bytesV l) e false (l.length + 1))) else .fail
    | _ => .fail
  | .slice e, .string, .slice none _ _ _ => match tkind C e with
    | .int .u8 => .ok (.v (.str [])) fs h
    | _ => .fail
  | .slice e, .string, .slice (some (i, o)) len _ _ => match tkind C e, h.get i with
    | .int .u8, some (.cells cs _ _ _) => match (takeN len (dropN o cs)).bind vBytes with
      | some l => .ok (.v (.str l)) fs h
      | none => .fail
    | _, _ => .fail
  | _, _, _ => .fail

def bound (x : V) (y : Nat) : Option Nat :=
  match x with
  | .int _ i => if 0 ≤ i ∧ i ≤ y then some i.toNat else none
  | _ => none

def optBound (x : Option V) (y d : Nat) : Option Nat :=
  match x with
  | some v => bound v y
  | none => some d

/-- Whether the cells behind a part of a slice are surely there. -/
def cutOk (C : Ctx) (h : H) (te : TI) (ex : Bool) (a : Option (Nat × Nat)) (l : Nat) : Bool :=
  match ex with
  | true => true
  | false => match l, a with
    | 0, _ => true
    | _, none => true
    | _, some (i, _) => match h.get i with
      | some (.cells _ e' _ _) => Nat.beq (tsize C e') te.size
      | _ => false

def sliceA (C : Ctx) (t : TypeId) (x : TV) (lo hi mx : Option V) (fs : FS) (h : H) : OR :=
  match mx with
  | some _ => .fail
  | none => match tkind C t with
    | .string => match x with
      | .v (.str s) => match optBound hi s.length s.length with
        | some hh => match optBound lo hh 0 with
          | some l => match takeN (hh - l) (dropN l s) with
            | some r => .ok (.v (.str r)) fs h
            | none => .fail
          | none => .fail
        | none => .fail
      | _ => .fail
    | .slice e => match C.T e, x with
      | some te, .v (.slice a len cap ex) => match optBound hi cap len with
        | some hh => match optBound lo hh 0 with
          | some l => match (Nat.ble hh cap).and (cutOk C h te ex a l) with
            | true => .ok (.v (.slice (match a with | some (i, o) => some (i, o + l * te.size) | none => none) (hh - l) (cap - l) ex)) fs h
            | false => .fail
          | none => .fail
        | none => .fail
      | _, _ => .fail
    | .array n e => match C.T e, x with
      | some te, .v (.ptr (some (i, o))) => match optBound hi n n with
        | some hh => match optBound lo hh 0 with
          | some l => .ok (.v (.slice (some (i, o + l * te.size)) (hh - l) (n - l) true)) fs h
          | none => .fail
        | none => .fail
      | _, _ => .fail
    | _ => .fail

def fieldAddrA (C : Ctx) (s : TypeId) (x : TV) (f : Nat) : Option TV :=
  match tkind C s with
  | .struct fields => match nth fields f with
    | some (off, ft) => if tsize C ft = 0 then none else match x with
      | .l d o => some (.l d (o + off))
      | .v (.ptr (some (i, o))) => some (.v (.ptr (some (i, o + off))))
      | _ => none
    | none => none
  | _ => none

def fieldA (C : Ctx) (s : TypeId) (x : V) (f : Nat) : Option V :=
  match tkind C s, x with
  | .struct fields, .agg cs => match nth fields f with
    | some (off, ft) => partA C ft cs off
    | none => none
  | _, _ => none

def indexAddrA (C : Ctx) (t : TypeId) (x : TV) (i : V) : Option TV :=
  match i with
  | .int _ n =>
    match tkind C t with
    | .slice e => match C.T e, x with
      | some te, .v (.slice (some (b, o)) len _ _) => if 0 ≤ n ∧ n < len then some (.v (.ptr (some (b, o + n.toNat * te.size)))) else none
      | _, _ => none
    | .array len e => match C.T e, x with
      | some te, .v (.ptr (some (b, o))) => if 0 ≤ n ∧ n < len then some (.v (.ptr (some (b, o + n.toNat * te.size)))) else none
      | some te, .l d o => if 0 ≤ n ∧ n < len then some (.l d (o + n.toNat * te.size)) else none
      | _, _ => none
    | _ => none
  | _ => none

def indexA (C : Ctx) (t : TypeId) (x i : V) : Option V :=
  match i with
  | .int _ n =>
    match tkind C t, x with
    | .array len e, .agg cs => match C.T e with
      | some te => if 0 ≤ n ∧ n < len then partA C e cs (n.toNat * te.size) else none
      | none => none
    | .string, .str s =>
      if 0 ≤ n then match nth s n.toNat with
        | some b => some (.int .u8 b.toNat)
        | none => none
      else none
    | _, _ => none
  | _ => none

def sameKey : V → V → Option Bool
  | .int k a, .int k' b => if k = k' then some (a == b) else none
  | .str a, .str b => some (a == b)
  | .bool a, .bool b => some (a == b)
  | _, _ => none

def findA (k : V) : List (V × V) → Option (Option V)
  | [] => some none
  | (a, x) :: es => match sameKey k a with
    | some true => some (some x)
    | some false => findA k es
    | none => none

def putKey (k x : V) : List (V × V) → Option (List (V × V))
  | [] => some [(k, x)]
  | (a, y) :: es => match sameKey k a with
    | some true => some ((a, x) :: es)
    | some false => match putKey k x es with
      | some r => some ((a, y) :: r)
      | none => none
    | none => none

/-- Whether a key is one of its type's, and one of whose kind equality is seen at once. -/
def keyFits : TK → V → Bool
  | .int _, .int _ _ => true
  | .string, .str _ => true
  | .bool, .bool _ => true
  | _, _ => false

def entsA (h : H) (m : V) : Option (List (V × V)) :=
  match m with
  | .map none => some []
  | .map (some r) => match h.get r with
    | some (.map es) => some es
    | some (.pm es) => some es
    | _ => none
  | _ => none

def lookupA (C : Ctx) (t : TypeId) (m k : V) (ok : Bool) (h : H) : Option V :=
  match tkind C t with
  | .map kt e => match keyFits (tkind C kt) k with
    | false => none
    | true => match (entsA h m).bind (findA k) with
      | some (some x) => some (if ok then .tuple [x, .bool true] else x)
      | some none => match zeroA C e with
        | some z => some (if ok then .tuple [z, .bool false] else z)
        | none => none
      | none => none
  | _ => none

def freshK (k : V) : List (V × V) → Bool
  | [] => true
  | (a, _) :: es => match sameKey k a with
    | some false => freshK k es
    | _ => false

def distinctK : List (V × V) → Bool
  | [] => true
  | (a, _) :: es => match freshK a es with
    | true => distinctK es
    | false => false

def updateA (C : Ctx) (t : TypeId) (m k x : V) (h : H) : Option H :=
  match tkind C t with
  | .map kt _ => match keyFits (tkind C kt) k with
    | false => none
    | true => match m with
      | .map (some r) => match h.get r with
        | some (.map es) => (putKey k x es).map fun es' => h.set r (.map es')
        | some (.pm es) => match putKey k x es with
          | some es' => match distinctK es' with
            | true => some (h.set r (.pm es'))
            | false => none
          | none => none
        | _ => none
      | _ => none
  | _ => none

/-- The entries without that of a key; `some none`: no entry has it. -/
def delKey (k : V) : List (V × V) → Option (Option (List (V × V)))
  | [] => some none
  | (a, y) :: es => match sameKey k a with
    | some true => some (some es)
    | some false => match delKey k es with
      | some (some r) => some (some ((a, y) :: r))
      | some none => some none
      | none => none
    | none => none

def delO (r : Nat) (o : O) (k : V) (es : List (V × V)) (h : H) : Option H :=
  match delKey k es with
  | some none => match distinctK es with
    | true => some (h.set r o)
    | false => none
  | some (some es') => match distinctK es with
    | true => match distinctK es' with
      | true => some (h.set r (.pm es'))
      | false => none
    | false => none
  | none => none

def deleteA (C : Ctx) (t : TypeId) (m k : V) (h : H) : Option H :=
  match tkind C t with
  | .map kt _ => match keyFits (tkind C kt) k with
    | false => none
    | true => match m with
      | .map none => some h
      | .map (some r) => match h.get r with
        | some (.map es) => delO r (.map es) k es h
        | some (.pm es) => delO r (.pm es) k es h
        | _ => none
      | _ => none
  | _ => none

/-- A new iterator. -/
def iterA (d : Option Tmp) (o : LO) (fs : FS) (h : H) : OR :=
  match d with
  | none => .fail
  | some d => match fs.loc d with
    | none => .ok (.l d 0) (fs.setL d o) h
    | some _ => .fail

def rangeA (C : Ctx) (t : TypeId) (d : Option Tmp) (x : V) (fs : FS) (h : H) : OR :=
  match tkind C t, x with
  | .string, .str s => iterA d (.siter s 0) fs h
  | .map _ _, .map none => iterA d .mnil fs h
  | .map _ _, .map (some r) => match h.get r with
    | some (.map es) => iterA d (.miter r es.length []) fs h
    | _ => .fail
  | _, _ => .fail

def memN : List Nat → Nat → Bool
  | [], _ => false
  | t :: ts, d => match Nat.beq t d with
    | true => true
    | false => memN ts d

/-- The numbers from 'i' on, 'n' of them, that are not among 'seen'. -/
def leftA (seen : List Nat) : Nat → Nat → List Nat
  | _, 0 => []
  | i, n + 1 => match memN seen i with
    | true => leftA seen (i + 1) n
    | false => i :: leftA seen (i + 1) n

def lastA : List Nat → Option Nat
  | [] => none
  | [x] => some x
  | _ :: y :: l => lastA (y :: l)

/-- A step of a map's iterator, where at most one entry is left: 'k': how many entries there were at first. -/
def mnextA (s r k : Nat) (seen : List Nat) (es : List (V × V)) (fs : FS) (h : H) : OR :=
  match Nat.beq es.length k with
  | false => .fail
  | true => match leftA seen 0 k with
    | [] => .ok (.v (.tuple [.bool false])) fs h
    | [i] => match nth es i with
      | some e => .ok (.v (.tuple [.bool true, e.1, e.2])) (fs.setL s (.miter r k (seen ++ [i]))) h
      | none => .fail
    | _ => .fail

def nextA (it : TV) (isString : Bool) (fs : FS) (h : H) : OR :=
  match it with
  | .l s 0 => match fs.loc s with
    | some (.siter str pos) => match isString with
      | false => .fail
      | true => match Nat.blt pos str.length with
        | true => match Utf8.decode ⟨⟨str⟩⟩ pos with
          | (c, w) => .ok (.v (.tuple [.bool true, .int .i64 pos, .int .i32 c])) (fs.setL s (.siter str (pos + w))) h
        | false => .ok (.v (.tuple [.bool false])) fs h
    | some .mnil => match isString with
      | false => .ok (.v (.tuple [.bool false])) fs h
      | true => .fail
    | some (.miter r k seen) => match isString with
      | false => match h.get r with
        | some (.map es) => mnextA s r k seen es fs h
        | _ => .fail
      | true => .fail
    | _ => .fail
  | _ => .fail

def entryA (it : TV) (fs : FS) (h : H) : OR :=
  match it with
  | .l s 0 => match fs.loc s with
    | some (.miter r k seen) => match h.get r with
      | some (.map es) => match Nat.beq es.length k with
        | false => .fail
        | true => match lastA seen with
          | none => .fail
          | some i => match nth es i with
            | some e => .ok (.v (.tuple [e.1, e.2])) fs h
            | none => .fail
      | _ => .fail
    | _ => .fail
  | _ => .fail

def isIface : TK → Bool
  | .iface _ => true
  | _ => false

def assertA (C : Ctx) (x : V) (t : TypeId) (ok : Bool) : Option V :=
  match C.T t with
  | none => none
  | some ti => match isIface ti.kind with
    | true => none
    | false => match x with
      | .nilIface => if ok then (zeroA C t).map fun z => .tuple [z, .bool false] else none
      | .iface u v => if u = t then some (if ok then .tuple [v, .bool true] else v) else if ok then (zeroA C t).map fun z => .tuple [z, .bool false] else none
      | _ => none

def lenA (C : Ctx) (t : TypeId) (x : V) (h : H) : Option V :=
  match tkind C t, x with
  | .string, .str s => some (.int .i64 s.length)
  | .slice _, .slice _ n _ _ => some (.int .i64 n)
  | .array n _, _ => some (.int .i64 n)
  | .map _ _, .map none => some (.int .i64 0)
  | .map _ _, .map (some r) => match h.get r with
    | some (.map es) => some (.int .i64 es.length)
    | some (.pm es) => some (.int .i64 es.length)
    | _ => none
  | _, _ => none

/-- The first 'n' elements of a slice, or the bytes of a string. -/
def firstA (size n : Nat) (x : V) (h : H) : Option (List V) :=
  match x with
  | .slice none _ _ _ => some []
  | .slice (some (i, o)) _ _ _ => match h.get i with
    | some (.cells cs _ _ _) => takeN (n * size) (dropN o cs)
    | _ => none
  | .str s => if size = 1 then some (bytesV s) else none
  | _ => none

def lenOfA : V → Option Nat
  | .slice _ n _ _ => some n
  | .str s => some s.length
  | _ => none

def roomMost : Nat := 70368744177664

def fzDrop (fz o : Nat) : Nat :=
  match fz with
  | 0 => 0
  | k + 1 => (k - o) + 1

def appendGrow (e : TypeId) (ti : TI) (base : Option (Nat × Nat)) (sLen : Nat) (ex : Bool) (n : Nat) (new : List V) (fs : FS) (h : H) : OR :=
  if (sLen + n) * (ti.bytes + 1) > roomMost ∨ ti.bytes > 1048576 then .fail
  else match base with
    | none => .ok (.v (.slice (some (h.next, 0)) n n false)) fs (h.new (.cells new e false 0))
    | some (i, o) => match h.get i with
      | some (.cells cs e' ro fz) => match takeN (sLen * ti.size) (dropN o cs) with
        | some old =>
          match ex with
          | true => .ok (.v (.slice (some (h.next, 0)) (sLen + n) (sLen + n) false)) fs (h.new (.cells (old ++ new) e false 0))
          | false => if e' = e ∧ ro = false ∧ fz ≤ o + sLen * ti.size + 1 ∧ o % ti.size = 0 then
              .ok (.v (.slice (some (h.next, 0)) (sLen + n) (sLen + n) false)) fs ((h.drop i).new (.cells (old ++ new) e false (fzDrop fz o)))
            else .fail
        | none => .fail
      | _ => .fail

def appendHere (ti : TI) (i o sLen sCap : Nat) (ex : Bool) (n : Nat) (new : List V) (fs : FS) (h : H) : OR :=
  match h.get i with
  | some (.cells cs e' false fz) => if fz ≤ o + sLen * ti.size + 1 then match putCells cs (o + sLen * ti.size) new with
      | some cs' => .ok (.v (.slice (some (i, o)) (sLen + n) sCap ex)) fs (h.set i (.cells cs' e' false fz))
      | none => .fail
    else .fail
  | _ => .fail

def allOne : List V → Bool
  | [] => true
  | x :: xs => match x.one with
    | true => allOne xs
    | false => false

def appendA (C : Ctx) (t : TypeId) (s : V) (n : Nat) (new : List V) (fs : FS) (h : H) : OR :=
  match tkind C t, s with
  | .slice e, .slice base sLen sCap ex =>
    match C.T e with
    | none => .fail
    | some ti =>
      if ti.size = 0 ∨ n = 0 ∨ allOne new = false then .fail
      else if sLen + n ≤ sCap then
        match base with
        | some (i, o) => appendHere ti i o sLen sCap ex n new fs h
        | none => .fail
      else appendGrow e ti base sLen ex n new fs h
  | _, _ => .fail

/-- Nothing is appended. -/
def append0 (C : Ctx) (t : TypeId) (s : V) (fs : FS) (h : H) : OR :=
  match tkind C t, s with
  | .slice e, .slice a l c ex => match C.T e with
    | some _ => if l ≤ c then .ok (.v (.slice a l c ex)) fs h else .fail
    | none => .fail
  | _, _ => .fail

def isRowK : TK → Bool
  | .slice _ => true
  | .string => true
  | _ => false

def append2 (C : Ctx) (ts : List TypeId) (s x : TV) (fs : FS) (h : H) : OR :=
  match ts with
  | t :: t2 :: _ => match isRowK (tkind C t2) with
    | false => .fail
    | true => match s with
      | .v s => match x with
        | .v x => match lenOfA x with
          | some 0 => append0 C t s fs h
          | some n => match tkind C t with
            | .slice e => match C.T e with
              | some ti => match firstA ti.size n x h with
                | some new => appendA C t s n new fs h
                | none => .fail
              | none => .fail
            | _ => .fail
          | none => .fail
        | .ls d n => match fs.loc d, tkind C t with
          | some (.cells cs), .slice e => match C.T e with
            | some ti => if cs.length = n * ti.size then appendA C t s n cs fs h else .fail
            | none => .fail
          | _, _ => .fail
        | _ => .fail
      | _ => .fail
  | _ => .fail

def builtinA (C : Ctx) (b : Builtin) (ts : List TypeId) (args : List V) (fs : FS) (h : H) : OR :=
  match b with
  | .len => match ts, args with
    | t :: _, x :: _ => okV fs h (lenA C t x h)
    | _, _ => .fail
  | .panic => match args with
    | [.iface t v] => .pan (.iface t v)
    | _ => .fail
  | .max => match args with
    | [.int k a, .int _ b] => .ok (.v (.int k (if b > a then b else a))) fs h
    | _ => .fail
  | .min => match args with
    | [.int k a, .int _ b] => .ok (.v (.int k (if b < a then b else a))) fs h
    | _ => .fail
  | .delete => match ts, args with
    | t :: _, [m, k] => match deleteA C t m k h with
      | some h => .ok (.v (.tuple [])) fs h
      | none => .fail
    | _, _ => .fail
  | _ => .fail

/-- Who is called, and with what. -/
def calleeA (f : Operand) (args : List Operand) (fs : FS) : Option (FuncId × List V) :=
  match evalV fs f, evalVs fs args with
  | some (.func g first cap), some args => some (g, first ++ args ++ cap)
  | _, _ => none

def callA (C : Ctx) (c : Call) (fs : FS) (h : H) : OR :=
  match c.callee with
  | .value f => match calleeA f c.args.toList fs with
    | some (g, args) => .call g args
    | none => .fail
  | .builtin b => match b with
    | .append => match c.args.toList with
      | [s, x] => append2 C c.argTypes.toList (evalO fs s) (evalO fs x) fs h
      | _ => .fail
    | b => match evalVs fs c.args.toList with
      | some args => builtinA C b c.argTypes.toList args fs h
      | none => .fail
  | .invoke _ _ => .fail

def memT : List Tmp → Option Tmp → Bool
  | _, none => false
  | [], _ => false
  | t :: ts, some d => if t = d then true else memT ts (some d)

def mvA (x : Operand) (fs : FS) (h : H) : OR :=
  match evalO fs x with
  | .undef => .fail
  | y => .ok y fs h

def pickA (c a b : Operand) (fs : FS) (h : H) : OR :=
  match isTrue (evalO fs c) with
  | some true => mvA a fs h
  | some false => mvA b fs h
  | none => .fail

def allocA (C : Ctx) (heap : Bool) (d : Option Tmp) (e : TypeId) (fs : FS) (h : H) : OR :=
  match tzero C e with
  | some z => newA heap d e z fs h
  | none => .fail

def boxA (C : Ctx) (heap : Bool) (d : Option Tmp) (e : TypeId) (x : Operand) (fs : FS) (h : H) : OR :=
  match evalV fs x with
  | some x => if x.cells.length = tsize C e then newA heap d e x.cells fs h else .fail
  | none => .fail

def buildO (C : Ctx) (t : TypeId) (ps : List (Nat × Operand)) (fs : FS) (h : H) : OR :=
  match evalParts fs ps with
  | some ps => okV fs h (buildA C t ps)
  | none => .fail

def buildSliceA (C : Ctx) (heap : Bool) (d : Option Tmp) (t : TypeId) (len : Nat) (ps : List (Nat × Operand)) (fs : FS) (h : H) : OR :=
  match evalParts fs ps, tkind C t with
  | some ps, .slice e => match C.T e with
    | some ti => if ti.size = 0 ∨ len * ti.size > 16777216 then .fail else
      match fillA C (fun i => some (i * ti.size, ti.size)) (repL ti.zero len) ps with
      | some cs =>
        if heap then .ok (.v (.slice (some (h.next, 0)) len len true)) fs (h.new (.cells cs e false 0))
        else match d with
          | some d => match fs.loc d with
            | none => .ok (.ls d len) (fs.setL d (.cells cs)) h
            | some _ => .fail
          | none => .fail
      | none => .fail
    | none => .fail
  | _, _ => .fail

def storeO (C : Ctx) (t : TypeId) (a x : Operand) (fs : FS) (h : H) : OR :=
  match evalV fs x with
  | some x => storeA C t (evalO fs a) x fs h
  | none => .fail

def nilCheckA (x : Operand) (fs : FS) (h : H) : OR :=
  match evalO fs x with
  | .l s o => .ok (.l s o) fs h
  | .v (.ptr (some a)) => .ok (.v (.ptr (some a))) fs h
  | .v (.func f a b) => .ok (.v (.func f a b)) fs h
  | .v (.iface t x) => .ok (.v (.iface t x)) fs h
  | _ => .fail

def binO (C : Ctx) (op : BinOp) (t : TypeId) (x y : Operand) (fs : FS) (h : H) : OR :=
  match evalV fs x, evalV fs y with
  | some a, some b => okV fs h (binA C op t x y h a b)
  | _, _ => .fail

def with1 (x : Operand) (k : V → FS → H → OR) (fs : FS) (h : H) : OR :=
  match evalV fs x with
  | some a => k a fs h
  | none => .fail

def with2 (x y : Operand) (k : V → V → FS → H → OR) (fs : FS) (h : H) : OR :=
  match evalV fs x, evalV fs y with
  | some a, some b => k a b fs h
  | _, _ => .fail

def mkIfaceA (C : Ctx) (t : TypeId) (a : V) (fs : FS) (h : H) : OR :=
  match tkind C t with
  | .iface _ => .fail
  | .other => .fail
  | _ => .ok (.v (.iface t a)) fs h

def mkFuncA (f : FuncId) (first cap : List Operand) (fs : FS) (h : H) : OR :=
  match evalVs fs first, evalVs fs cap with
  | some a, some b => .ok (.v (.func f a b)) fs h
  | _, _ => .fail

def mkSliceA (C : Ctx) (t : TypeId) (l c : V) (fs : FS) (h : H) : OR :=
  match tkind C t, l, c with
  | .slice e, .int _ l, .int _ c => match C.T e with
    | some ti => if ti.size = 0 ∨ l < 0 ∨ c < l ∨ c.toNat * (ti.bytes + 1) > roomMost then .fail else
      .ok (.v (.slice (some (h.next, 0)) l.toNat c.toNat true)) fs (h.new (.cells (repL ti.zero c.toNat) e false 0))
    | none => .fail
  | _, _, _ => .fail

def evalOpt (fs : FS) : Option Operand → Option (Option V)
  | none => some none
  | some o => match evalV fs o with
    | some x => some (some x)
    | none => none

def sliceO (C : Ctx) (t : TypeId) (x : Operand) (lo hi mx : Option Operand) (fs : FS) (h : H) : OR :=
  match evalOpt fs lo, evalOpt fs hi, evalOpt fs mx with
  | some lo, some hi, some mx => sliceA C t (evalO fs x) lo hi mx fs h
  | _, _, _ => .fail

def okT (fs : FS) (h : H) : Option TV → OR
  | some x => .ok x fs h
  | none => .fail

def indexAddrO (C : Ctx) (t : TypeId) (x i : Operand) (fs : FS) (h : H) : OR :=
  match evalV fs i with
  | some i => okT fs h (indexAddrA C t (evalO fs x) i)
  | none => .fail

def updateO (C : Ctx) (t : TypeId) (m k x : Operand) (fs : FS) (h : H) : OR :=
  match evalV fs m, evalV fs k, evalV fs x with
  | some m, some k, some x => match updateA C t m k x h with
    | some h => .ok .undef fs h
    | none => .fail
  | _, _, _ => .fail

def extractA (i : Nat) (x : V) (fs : FS) (h : H) : OR :=
  match x with
  | .tuple vs => okV fs h (nth vs i)
  | _ => .fail

/-- Among the deferred calls: the mark of a range over a function. -/
def markF : Nat := 4294967295

def deferA (c : Call) (fs : FS) (h : H) : OR :=
  match c.callee with
  | .value f => match calleeA f c.args.toList fs with
    | some (g, args) => match Nat.beq g markF with
      | false => .ok .undef { tm := fs.tm, lc := fs.lc, df := (g, args) :: fs.df } h
      | true => .fail
    | none => .fail
  | _ => .fail

def panicA (x : V) (_fs : FS) (_h : H) : OR :=
  match x with
  | .iface t v => .pan (.iface t v)
  | _ => .fail

def opA (C : Ctx) (esc : List Tmp) (o : Oper) : FS → H → OR :=
  match o.op with
  | .move x => mvA x
  | .assign x => mvA x
  | .pick c a b => pickA c a b
  | .alloc e => allocA C (memT esc o.dst) o.dst e
  | .box e x => boxA C (memT esc o.dst) o.dst e x
  | .build t ps => buildO C t ps.toList
  | .buildSlice t len ps => buildSliceA C (memT esc o.dst) o.dst t len ps.toList
  | .load t a => fun fs h => loadA C t (evalO fs a) fs h
  | .store t a x => storeO C t a x
  | .nilCheck x => nilCheckA x
  | .binOp op t x y _ => binO C op t x y
  | .unOp op _ x => with1 x fun a fs h => okV fs h (unA op a)
  | .convert s d x => with1 x fun a fs h => convA C s d a fs h
  | .makeInterface t x => with1 x (mkIfaceA C t)
  | .makeFunc (.func f) first cap => mkFuncA f first.toList cap.toList
  | .makeMap _ none => fun fs h => .ok (.v (.map (some h.next))) fs (h.new (.map []))
  | .makeSlice t l c => with2 l c (mkSliceA C t)
  | .slice t x lo hi mx => sliceO C t x lo hi mx
  | .fieldAddr t x f => fun fs h => okT fs h (fieldAddrA C t (evalO fs x) f)
  | .field t x f => with1 x fun a fs h => okV fs h (fieldA C t a f)
  | .indexAddr t x i => indexAddrO C t x i
  | .index t x i => with2 x i fun a b fs h => okV fs h (indexA C t a b)
  | .lookup t m k ok => with2 m k fun a b fs h => okV fs h (lookupA C t a b ok h)
  | .mapUpdate t m k x => updateO C t m k x
  | .insert t m k x => updateO C t m k x
  | .range t x => with1 x fun a fs h => rangeA C t o.dst a fs h
  | .next it s => fun fs h => nextA (evalO fs it) s fs h
  | .entry it => fun fs h => entryA (evalO fs it) fs h
  | .typeAssert x _ t ok => with1 x fun a fs h => okV fs h (assertA C a t ok)
  | .extract t i => with1 t (extractA i)
  | .call c => callA C c
  | .defer c => deferA c
  | .panic x => with1 x panicA
  | _ => fun _ _ => .fail

/-! ### Equality of values, as far as it is seen -/

mutual
def V.beq : V → V → Bool
  | .bool a, .bool b => a == b
  | .int j a, .int k b => j == k && a == b
  | .str a, .str b => a == b
  | .ptr a, .ptr b => a == b
  | .slice a l c e, .slice b m d f => a == b && l == m && c == d && e == f
  | .map a, .map b => a == b
  | .func f a b, .func g c d => f == g && V.beqs a c && V.beqs b d
  | .nilFunc, .nilFunc => true
  | .iface t a, .iface u b => t == u && V.beq a b
  | .nilIface, .nilIface => true
  | .agg a, .agg b => V.beqs a b
  | .tuple a, .tuple b => V.beqs a b
  | _, _ => false
def V.beqs : List V → List V → Bool
  | [], [] => true
  | a :: as, b :: bs => V.beq a b && V.beqs as bs
  | _, _ => false
end

def TV.beq : TV → TV → Bool
  | .v a, .v b => V.beq a b
  | .l s o, .l t p => s == t && o == p
  | .ls s n, .ls t m => s == t && n == m
  | .undef, .undef => true
  | _, _ => false

/-! ### Regions -/

/-- Whether an operation is wanted: 'none' inside: its guard's own operation was not wanted. -/
inductive Wa where
  | fail | yes | no
  deriving Inhabited

def guardOf (ops : List Oper) (j : Nat) : Option Tmp :=
  match nth ops j with
  | some o => o.dst
  | none => none

def wantedA (ops : List Oper) (o : Oper) (fs : FS) (k : Bool → FS → XR) : XR :=
  match o.guard with
  | none => k true fs
  | some (j, want) => match guardOf ops j with
    | some d => match fs.tmp d with
      | .v (.bool true) => k want (fs.setT d (.v (.bool true)))
      | .v (.bool false) => k (!want) (fs.setT d (.v (.bool false)))
      | .v (.tuple []) => k false fs
      | _ => .fail
    | none => .fail

def stepA (C : Ctx) (run : Run) (esc : List Tmp) (o : Oper) (fs : FS) (h : H) (k : FS → H → XR) : XR :=
  match opA C esc o fs h with
  | .fail => .fail
  | .ok x fs h => k (fs.put o.dst x) h
  | .call f args => match run f args h with
    | .fail => .fail
    | .ok v h => k (fs.put o.dst (.v v)) h
    | .pan v h => .go (.pan v) fs h
  | .pan v => .go (.pan v) fs h

/-- The operations of a region, in the order of the text. -/
def opsA (C : Ctx) (run : Run) (esc : List Tmp) (all : List Oper) : List Oper → FS → H → XR
  | [], fs, h => .go .norm fs h
  | o :: rest, fs, h => wantedA all o fs fun w fs => match w with
    | true => stepA C run esc o fs h (opsA C run esc all rest)
    | false => opsA C run esc all rest (fs.put o.dst (.v (.tuple []))) h

/-! ### Regions whose order is drawn -/

/-- What a frame has besides its slots, and the heap. -/
structure Sn where
  lc : Tr LO
  df : List (FuncId × List V)
  h : H
  deriving Inhabited

def Sn.fs (s : Sn) (tm : Tr TV) : FS := { tm := tm, lc := s.lc, df := s.df }

inductive ER where
  | fail
  | ok (x : TV) (s : Sn)
  | pan (v : V) (s : Sn)
  deriving Inhabited

/-- One operation, wanted; its slot is not written yet. -/
def effA (C : Ctx) (run : Run) (esc : List Tmp) (o : Oper) (tm : Tr TV) (s : Sn) : ER :=
  match opA C esc o (s.fs tm) s.h with
  | .fail => .fail
  | .ok x fs h => .ok x ⟨fs.lc, fs.df, h⟩
  | .call f args => match run f args s.h with
    | .fail => .fail
    | .ok v h => .ok (.v v) ⟨s.lc, s.df, h⟩
    | .pan v h => .pan v ⟨s.lc, s.df, h⟩
  | .pan v => .pan v s

def tmpT (tm : Tr TV) (t : Nat) : TV := match tm.get t with
  | some x => x
  | none => .undef

def wantA (all : List Oper) (o : Oper) (tm : Tr TV) : Option Bool :=
  match o.guard with
  | none => some true
  | some (j, want) => match guardOf all j with
    | some d => match tmpT tm d with
      | .v (.bool true) => some want
      | .v (.bool false) => some (!want)
      | .v (.tuple []) => some false
      | _ => none
    | none => none

def oneA (C : Ctx) (run : Run) (esc : List Tmp) (all : List Oper) (o : Oper) (tm : Tr TV) (s : Sn) : ER :=
  match wantA all o tm with
  | none => .fail
  | some true => effA C run esc o tm s
  | some false => .ok (.v (.tuple [])) s

/-- Operations that write nothing but their own slot. -/
def quietA (C : Ctx) : Op → Bool
  | .move _ => true
  | .assign _ => true
  | .pick .. => true
  | .build .. => true
  | .load .. => true
  | .nilCheck _ => true
  | .binOp .. => true
  | .unOp .. => true
  | .makeInterface .. => true
  | .makeFunc .. => true
  | .slice .. => true
  | .fieldAddr .. => true
  | .field .. => true
  | .indexAddr .. => true
  | .index .. => true
  | .lookup .. => true
  | .typeAssert .. => true
  | .extract .. => true
  | .convert _ d _ => match tkind C d with
    | .slice _ => false
    | _ => true
  | .call c => match c.callee with
    | .builtin .len => true
    | _ => false
  | _ => false

/-- A variable of the frame's own that is laid without a guard: its slot. -/
def ownAlloc (esc : List Tmp) (o : Oper) : Option (Tmp × TypeId) :=
  match o.guard with
  | some _ => none
  | none => match o.op with
    | .alloc e => match o.dst with
      | some d => match memT esc (some d) with
        | true => none
        | false => some (d, e)
      | none => none
    | _ => none

/-- Operations that write nothing but their own slot, or lay a variable of the frame's own. -/
def calmA (C : Ctx) (esc : List Tmp) (o : Oper) : Bool :=
  match ownAlloc esc o with
  | some _ => true
  | none => quietA C o.op

/-- The variables that the region's operations lay: laid ahead. -/
def preA (C : Ctx) (esc : List Tmp) : List Oper → Tr LO → Option (Tr LO)
  | [], lc => some lc
  | o :: os, lc => match ownAlloc esc o with
    | none => preA C esc os lc
    | some (d, e) => match lc.get d, tzero C e with
      | none, some z => preA C esc os (Tr.put (d + 1) lc d (some (.cells z)))
      | _, _ => none

def unlayA (esc : List Tmp) : List Oper → Tr LO → Tr LO
  | [], lc => lc
  | o :: os, lc => match ownAlloc esc o with
    | none => unlayA esc os lc
    | some (d, _) => unlayA esc os (Tr.put (d + 1) lc d none)

def quietO (C : Ctx) (esc : List Tmp) (all : List Oper) (o : Oper) (tm : Tr TV) (s : Sn) : Option TV :=
  match ownAlloc esc o with
  | some (d, _) => some (.l d 0)
  | none => match wantA all o tm with
    | none => none
    | some true => match opA C esc o (s.fs tm) s.h with
      | .ok x _ _ => some x
      | _ => none
    | some false => some (.v (.tuple []))

def hasB (p i : Nat) : Bool := Nat.beq (Nat.land (Nat.shiftRight p i) 1) 1

/-- What must lie ahead of an operation. -/
def maskA (ms : List Nat) : List Edge → Nat → Nat
  | [], acc => acc
  | e :: es, acc => match Region.binds .any e with
    | true => maskA ms es (Nat.lor (Nat.lor acc (Nat.shiftLeft 1 e.on)) (match nth ms e.on with | some p => p | none => 0))
    | false => maskA ms es acc

def masksA : List Oper → List Nat → List Nat
  | [], ms => ms
  | o :: os, ms => masksA os (ms ++ [maskA ms o.after.toList 0])

/-- Each operation among 'l' (the first one has the number 'q') that fills slot 't' lies in 'p'. -/
def prodOk (p t : Nat) : List Oper → Nat → Bool
  | [], _ => true
  | o :: os, q => match o.dst with
    | none => prodOk p t os (q + 1)
    | some d => match Nat.beq d t with
      | true => match hasB p q with
        | true => prodOk p t os (q + 1)
        | false => false
      | false => prodOk p t os (q + 1)

/-- Each operation that fills slot 't' (the first one has the number 'q') lies ahead of operation 'i' (in 'p'), or is behind it. -/
def writersOk (p i t : Nat) : List Oper → List Nat → Nat → Bool
  | o :: os, m :: ms, q => match o.dst with
    | none => writersOk p i t os ms (q + 1)
    | some d => match Nat.beq d t with
      | false => writersOk p i t os ms (q + 1)
      | true => match (match Nat.blt q i with
          | true => hasB p q
          | false => (Nat.beq q i).or (hasB m i)) with
        | true => writersOk p i t os ms (q + 1)
        | false => false
  | _, _, _ => true

def usesOk (all : List Oper) (ms : List Nat) (p i : Nat) : List Operand → Bool
  | [] => true
  | .tmp t :: os => match writersOk p i t all ms 0 with
    | true => usesOk all ms p i os
    | false => false
  | _ :: os => usesOk all ms p i os

def backOk (i : Nat) : List Edge → Bool
  | [] => true
  | e :: es => match Region.binds .any e with
    | true => match Nat.blt e.on i with
      | true => backOk i es
      | false => false
    | false => backOk i es

def guardOk (all : List Oper) (ms : List Nat) (p i : Nat) (o : Oper) : Bool :=
  match o.guard with
  | none => true
  | some (j, _) => match guardOf all j with
    | some d => writersOk p i d all ms 0
    | none => false

/-- No operation of 'l' fills slot 't'. -/
def noneFills (t : Nat) : List Oper → Bool
  | [] => true
  | o :: os => match o.dst with
    | none => noneFills t os
    | some d => match Nat.beq d t with
      | true => false
      | false => noneFills t os

/-- What is asked of a region that draws, whatever is in memory. -/
def formOk (all : List Oper) (ms : List Nat) : List Oper → List Nat → Nat → Bool
  | o :: os, p :: ps, i => match usesOk all ms p i o.op.operands.toList with
    | false => false
    | true => match guardOk all ms p i o with
      | false => false
      | true => match backOk i o.after.toList with
        | false => false
        | true => match o.dst with
          | none => formOk all ms os ps (i + 1)
          | some d => match noneFills d os with
            | false => false
            | true => formOk all ms os ps (i + 1)
  | _, _, _ => true

/-- The variable in which an operand is a place is laid ahead. -/
def placesOk (all : List Oper) (p : Nat) (tm : Tr TV) : List Operand → Bool
  | [] => true
  | .tmp t :: os => match tmpT tm t with
    | .l s _ => match prodOk p s all 0 with
      | true => placesOk all p tm os
      | false => false
    | .ls s _ => match prodOk p s all 0 with
      | true => placesOk all p tm os
      | false => false
    | _ => placesOk all p tm os
  | _ :: os => placesOk all p tm os

/-- An operation as the text has come to it: its number, what must lie ahead of it, the slots then, what it has given. -/
structure PE where
  i : Nat
  p : Nat
  o : Oper
  tm : Tr TV
  x : TV
  deriving Inhabited

/-- What the text's order has given: slots, the last snapshot, the quiet operations, the effects (the last one first; each with the snapshot behind it), a panic. -/
inductive PR where
  | fail
  | go (tm : Tr TV) (s : Sn) (qs : List PE) (es : List (PE × Sn)) (pan : Option (Nat × V × Sn))
  deriving Inhabited

def behindPan (p : Nat) : Option (Nat × V × Sn) → Bool
  | none => false
  | some (i, _, _) => hasB p i

def putT (tm : Tr TV) (d : Option Tmp) (x : TV) : Tr TV :=
  match d with
  | none => tm
  | some d => Tr.put (d + 1) tm d (some x)

/-- All effects so far must lie ahead. -/
def allHas (p : Nat) : List (PE × Sn) → Bool
  | [] => true
  | e :: es => match hasB p e.1.i with
    | true => allHas p es
    | false => false

def passA (C : Ctx) (run : Run) (esc : List Tmp) (all : List Oper) : List Oper → List Nat → Nat → Tr TV → Sn → List PE → List (PE × Sn) → Option (Nat × V × Sn) → PR
  | o :: os, p :: ps, i, tm, s, qs, es, pan =>
    match behindPan p pan with
    | true => passA C run esc all os ps (i + 1) tm s qs es pan
    | false => match placesOk all p tm o.op.operands.toList with
     | false => .fail
     | true => match calmA C esc o with
      | true => match quietO C esc all o tm s with
        | some x => passA C run esc all os ps (i + 1) (putT tm o.dst x) s (⟨i, p, o, tm, x⟩ :: qs) es pan
        | none => .fail
      | false => match pan with
        | some _ => .fail
        | none => match oneA C run esc all o tm s with
          | .ok x s' => passA C run esc all os ps (i + 1) (putT tm o.dst x) s' qs ((⟨i, p, o, tm, x⟩, s') :: es) none
          | .pan v s' => match allHas p es with
            | true => passA C run esc all os ps (i + 1) tm s qs es (some (i, v, s'))
            | false => .fail
          | .fail => .fail
  | _, _, _, tm, s, qs, es, pan => .go tm s qs es pan

/-- Some of 'l' must lie ahead. -/
def anyIn (p : Nat) : List PE → Bool
  | [] => false
  | e :: es => match hasB p e.i with
    | true => true
    | false => anyIn p es

/-- Operation 'i' must lie ahead of one of 'l'. -/
def aheadOf (i : Nat) : List PE → Bool
  | [] => false
  | e :: es => match hasB e.p i with
    | true => true
    | false => aheadOf i es

def sameX (d : Option Tmp) (x y : TV) : Bool :=
  match d with
  | none => true
  | some _ => TV.beq x y

/-- A quiet operation comes to the same at this snapshot. -/
def hereOk (C : Ctx) (esc : List Tmp) (all : List Oper) (q : PE) (s : Sn) : Bool :=
  match quietO C esc all q.o q.tm s with
  | none => false
  | some x => sameX q.o.dst x q.x

/-- Each quiet operation that may stand here comes to the same. -/
def quietHere (C : Ctx) (esc : List Tmp) (all : List Oper) (rem done : List PE) (s : Sn) : List PE → Bool
  | [] => true
  | q :: qs => match (anyIn q.p rem).or (aheadOf q.i done) with
    | true => quietHere C esc all rem done s qs
    | false => match hereOk C esc all q s with
      | true => quietHere C esc all rem done s qs
      | false => false

def dropE (i : Nat) : List PE → List PE
  | [] => []
  | e :: es => match Nat.beq e.i i with
    | true => dropE i es
    | false => e :: dropE i es

def LO.beq : LO → LO → Bool
  | .cells a, .cells b => V.beqs a b
  | .siter s p, .siter t q => (s == t).and (Nat.beq p q)
  | .mnil, .mnil => true
  | .miter m k s, .miter n l t => (Nat.beq m n).and ((Nat.beq k l).and (s == t))
  | _, _ => false

def entsSame : List (V × V) → List (V × V) → Bool
  | [], [] => true
  | a :: as, b :: bs => (V.beq a.1 b.1).and ((V.beq a.2 b.2).and (entsSame as bs))
  | _, _ => false

def O.same : O → O → Bool
  | .cells a e r z, .cells b e' r' z' => (V.beqs a b).and ((Nat.beq e e').and ((r == r').and (Nat.beq z z')))
  | .map a, .map b => entsSame a b
  | .pm a, .pm b => entsSame a b
  | .aux a, .aux b => Nat.beq a b
  | _, _ => false

def Tr.same {α : Type} (f : α → α → Bool) : Tr α → Tr α → Bool
  | .nil, .nil => true
  | .node l v r, .node l' v' r' => (match v, v' with
    | none, none => true
    | some a, some b => f a b
    | _, _ => false).and ((Tr.same f l l').and (Tr.same f r r'))
  | _, _ => false

def dfSame : List (FuncId × List V) → List (FuncId × List V) → Bool
  | [], [] => true
  | a :: as, b :: bs => (Nat.beq a.1 b.1).and ((V.beqs a.2 b.2).and (dfSame as bs))
  | _, _ => false

def Sn.same (s t : Sn) : Bool :=
  (Nat.beq s.h.next t.h.next).and ((Nat.beq s.h.ver t.h.ver).and ((Tr.same O.same s.h.tr t.h.tr).and ((Tr.same LO.beq s.lc t.lc).and (dfSame s.df t.df))))

/-- From this snapshot on, whatever order the effects 'rem' take, all comes to the same. -/
def treeB (C : Ctx) (run : Run) (esc : List Tmp) (all : List Oper) (qs : List PE) (sF : Sn) : Nat → List PE → List PE → Sn → Bool
  | 0, _, _, _ => false
  | n + 1, rem, done, s => match quietHere C esc all rem done s qs with
    | false => false
    | true => match rem with
      | [] => Sn.same s sF
      | _ => rem.all fun e => match anyIn e.p rem with
        | true => true
        | false => match oneA C run esc all e.o e.tm s with
          | .ok x s' => match sameX e.o.dst x e.x with
            | true => treeB C run esc all qs sF n (dropE e.i rem) (e :: done) s'
            | false => false
          | _ => false

/-- An effect that may come now, out of the text's order. -/
def asideB (C : Ctx) (run : Run) (esc : List Tmp) (all : List Oper) (qs : List PE) (sF : Sn) (n : Nat) (rem done : List PE) (s : Sn) : List PE → Bool
  | [] => true
  | e :: es => match anyIn e.p rem with
    | true => asideB C run esc all qs sF n rem done s es
    | false => match oneA C run esc all e.o e.tm s with
      | .ok x s' => match sameX e.o.dst x e.x with
        | true => match treeB C run esc all qs sF n (dropE e.i rem) (e :: done) s' with
          | true => asideB C run esc all qs sF n rem done s es
          | false => false
        | false => false
      | _ => false

def pes : List (PE × Sn) → List PE
  | [] => []
  | e :: es => e.1 :: pes es

/-- The same along the text's order, whose snapshots are known. -/
def pathB (C : Ctx) (run : Run) (esc : List Tmp) (all : List Oper) (qs : List PE) (sF : Sn) : List (PE × Sn) → List PE → Sn → Bool
  | [], done, s => quietHere C esc all [] done s qs
  | (e, s') :: es, done, s => match quietHere C esc all (e :: pes es) done s qs with
    | false => false
    | true => match asideB C run esc all qs sF (es.length + 1) (e :: pes es) done s (pes es) with
      | false => false
      | true => pathB C run esc all qs sF es (e :: done) s'

def revA {α : Type} : List α → List α → List α
  | [], acc => acc
  | x :: xs, acc => revA xs (x :: acc)

def forgetT (tm : Tr TV) : List Oper → Tr TV
  | [] => tm
  | o :: os => forgetT (putT tm o.dst .undef) os

def drawA (C : Ctx) (run : Run) (esc : List Tmp) (all : List Oper) (fs : FS) (h : H) : XR :=
  match formOk all (masksA all []) all (masksA all []) 0 with
  | false => .fail
  | true => match preA C esc all fs.lc with
    | none => .fail
    | some lc => match passA C run esc all all (masksA all []) 0 fs.tm ⟨lc, fs.df, h⟩ [] [] none with
      | .fail => .fail
      | .go tm s qs es pan => match pathB C run esc all qs s (revA es []) [] ⟨lc, fs.df, h⟩ with
        | false => .fail
        | true => match pan with
          | none => .go .norm (s.fs tm) s.h
          | some (_, v, s') => .go (.pan v) ⟨forgetT fs.tm all, unlayA esc all s'.lc, s'.df⟩ s'.h

/-! ### Variables that escape, laid in a region that draws: the frame's own while it runs, the heap's behind it -/
def placeOnly (d : Tmp) (o : Oper) : Bool :=
  match o.op with
  | .load _ _ => true
  | .store _ _ x => match x with
    | .tmp t => !(Nat.beq t d)
    | _ => true
  | op => op.operands.toList.all fun x => match x with
    | .tmp t => !(Nat.beq t d)
    | _ => true

def promoT (esc : List Tmp) (all : List Oper) : List Oper → List (Tmp × TypeId)
  | [] => []
  | o :: os => match o.guard with
    | some _ => promoT esc all os
    | none => match o.op with
      | .alloc e => match o.dst with
        | some d => match (memT esc (some d)).and (all.all (placeOnly d)) with
          | true => (d, e) :: promoT esc all os
          | false => promoT esc all os
        | none => promoT esc all os
      | _ => promoT esc all os

def dropTs (ps : List (Tmp × TypeId)) : List Tmp → List Tmp
  | [] => []
  | t :: ts => match ps.any fun p => Nat.beq p.1 t with
    | true => dropTs ps ts
    | false => t :: dropTs ps ts

def promoV (d i : Nat) : TV → TV
  | .l s o => match Nat.beq s d with
    | true => .v (.ptr (some (i, o)))
    | false => .l s o
  | .ls s n => match Nat.beq s d with
    | true => .undef
    | false => .ls s n
  | x => x

def Tr.mapT (f : TV → TV) : Tr TV → Tr TV
  | .nil => .nil
  | .node l v r => .node (Tr.mapT f l) (match v with
    | some x => some (f x)
    | none => none) (Tr.mapT f r)

def promo1 (d : Tmp) (e : TypeId) (fs : FS) (h : H) : XR :=
  match fs.lc.get d with
  | some (.cells cs) => .go .norm { tm := Tr.mapT (promoV d h.next) fs.tm, lc := Tr.put (d + 1) fs.lc d none, df := fs.df } (h.new (.cells cs e false 1))
  | _ => .fail

def promoA : List (Tmp × TypeId) → FS → H → XR
  | [], fs, h => .go .norm fs h
  | (d, e) :: ps, fs, h => match promo1 d e fs h with
    | .go _ fs h => promoA ps fs h
    | .fail => .fail

def drawP (C : Ctx) (run : Run) (esc : List Tmp) (all : List Oper) (fs : FS) (h : H) : XR :=
  match promoT esc all all with
  | [] => drawA C run esc all fs h
  | [_] => drawA C run esc all fs h
  | ps => match drawA C run (dropTs ps esc) all fs h with
    | .go .norm fs h => promoA ps fs h
    | .go (.pan v) fs h => .go (.pan v) fs h
    | _ => .fail

def loopA (body : FS → H → XR) (clear : FS → FS) : Nat → FS → H → XR
  | 0, _, _ => .fail
  | n + 1, fs, h => match body (clear fs) h with
    | .go .norm fs h => loopA body clear n fs h
    | r => r

def headId : Code → Nat
  | .region id _ _ => id
  | .seq a _ => headId a
  | .block _ b => headId b
  | .scope b => headId b
  | _ => 0

/-- What a kept slot holds; a place in a variable that is not kept is forgotten. -/
def keptT (ks : List Nat) : TV → TV
  | .l s o => if memN ks s then .l s o else .undef
  | .ls s n => if memN ks s then .ls s n else .undef
  | x => x

def clearT (all : List Nat) (tm : Tr TV) : List Nat → Tr TV → Tr TV
  | [], acc => acc
  | k :: ks, acc => match tm.get k with
    | some x => clearT all tm ks (Tr.put (k + 1) acc k (some (keptT all x)))
    | none => clearT all tm ks acc

def clearL (lc : Tr LO) : List Nat → Tr LO → Tr LO
  | [], acc => acc
  | k :: ks, acc => match lc.get k with
    | some x => clearL lc ks (Tr.put (k + 1) acc k (some x))
    | none => clearL lc ks acc

def clearA (C : Ctx) (f : FuncId) (c : Code) (fs : FS) : FS :=
  match C.keep f (headId c) with
  | none => fs
  | some ks => { tm := clearT ks fs.tm ks .nil, lc := clearL fs.lc ks .nil, df := fs.df }

/-! ### Loops over a map of several entries: every order -/

def takeK (k x : V) : List (V × V) → Option (List (V × V))
  | [] => none
  | (a, y) :: es => match (V.beq k a).and (V.beq x y) with
    | true => some es
    | false => match takeK k x es with
      | some r => some ((a, y) :: r)
      | none => none

/-- Whether two lists hold the same, in whatever order. -/
def permK : List (V × V) → List (V × V) → Bool
  | [], [] => true
  | (k, x) :: es, l => match takeK k x l with
    | some l' => permK es l'
    | none => false
  | [], _ :: _ => false

def entsBeq : List (V × V) → List (V × V) → Bool
  | [], [] => true
  | (k, x) :: es, (q, y) :: l => match (V.beq k q).and (V.beq x y) with
    | true => entsBeq es l
    | false => false
  | _, _ => false

def permO (a b : List (V × V)) : Option O :=
  match (permK a b).and (distinctK a) with
  | true => some (.pm a)
  | false => none

/-- A block of which both are told. -/
def O.join : O → O → Option O
  | .cells cs e ro fz, .cells cs' e' ro' fz' => match (V.beqs cs cs').and ((Nat.beq e e').and ((ro == ro').and (Nat.beq fz fz'))) with
    | true => some (.cells cs e ro fz)
    | false => none
  | .map a, .map b => match entsBeq a b with
    | true => some (.map a)
    | false => permO a b
  | .map a, .pm b => permO a b
  | .pm a, .map b => permO a b
  | .pm a, .pm b => permO a b
  | .aux a, .aux b => match Nat.beq a b with
    | true => some (.aux a)
    | false => none
  | _, _ => none

def Tr.join {α : Type} (j : α → α → Option α) : Tr α → Tr α → Option (Tr α)
  | .nil, .nil => some .nil
  | .node l v r, .node l' v' r' => match Tr.join j l l', Tr.join j r r' with
    | some l, some r => match v, v' with
      | none, none => some (.node l none r)
      | some x, some y => match j x y with
        | some z => some (.node l (some z) r)
        | none => none
      | _, _ => none
    | _, _ => none
  | _, _ => none

/-- What two tries agree on. -/
def Tr.meet {α : Type} (j : α → α → Option α) : Tr α → Tr α → Tr α
  | .node l v r, .node l' v' r' => .node (Tr.meet j l l') (match v, v' with
    | some x, some y => j x y
    | _, _ => none) (Tr.meet j r r')
  | _, _ => .nil

def LO.join : LO → LO → Option LO
  | .cells a, .cells b => match V.beqs a b with
    | true => some (.cells a)
    | false => none
  | .siter s p, .siter t q => match (s == t).and (Nat.beq p q) with
    | true => some (.siter s p)
    | false => none
  | .mnil, .mnil => some .mnil
  | .miter m k l, .miter m' k' l' => match (Nat.beq m m').and ((Nat.beq k k').and (l == l')) with
    | true => some (.miter m k l)
    | false => none
  | _, _ => none

/-- A slot's value of which both are told, unless it is a place in variable 's'. -/
def meetT (s : Nat) (x y : TV) : Option TV :=
  match TV.beq x y with
  | false => none
  | true => match x with
    | .l d o => match Nat.beq d s with
      | true => none
      | false => some (.l d o)
    | .ls d o => match Nat.beq d s with
      | true => none
      | false => some (.ls d o)
    | x => some x

def dfBeq : List (FuncId × List V) → List (FuncId × List V) → Bool
  | [], [] => true
  | (f, a) :: l, (g, b) :: r => match (Nat.beq f g).and (V.beqs a b) with
    | true => dfBeq l r
    | false => false
  | _, _ => false

/-- The variable 's' is left out. -/
def FS.join (s : Nat) (a b : FS) : Option FS :=
  match dfBeq a.df b.df, Tr.join LO.join (Tr.put (s + 1) a.lc s none) (Tr.put (s + 1) b.lc s none) with
  | true, some lc => some { tm := Tr.meet (meetT s) a.tm b.tm, lc := lc, df := a.df }
  | _, _ => none

/-- 'h0': the heap from which both have come: it is theirs where the versions are one. -/
def H.join (h0 a b : H) : Option H :=
  match (Nat.beq a.ver h0.ver).and (Nat.beq b.ver h0.ver) with
  | true => some a
  | false => match Nat.beq a.next b.next, Tr.join O.join a.tr b.tr with
    | true, some tr => some { next := a.next, ver := a.ver + b.ver + 1, tr := tr }
    | _, _ => none

def Ex.beq : Ex → Ex → Bool
  | .norm, .norm => true
  | .exit a, .exit b => Nat.beq a b
  | .ret, .ret => true
  | .pan a, .pan b => V.beq a b
  | _, _ => false

def XR.join (s : Nat) (h0 : H) : XR → XR → XR
  | .go e fs h, .go e' fs' h' => match Ex.beq e e' with
    | false => .fail
    | true => match FS.join s fs fs', H.join h0 h h' with
      | some fs, some h => .go e fs h
      | _, _ => .fail
  | _, _ => .fail

def eachA (s : Nat) (h0 : H) (go : Nat → XR) : List Nat → XR
  | [] => .fail
  | [i] => go i
  | i :: j :: l => XR.join s h0 (go i) (eachA s h0 go (j :: l))

/-- Whether a region begins with a step of a map's iterator: its variable, and the slot. -/
def headNext (ops : List Oper) (fs : FS) : Option (Nat × Option Tmp) :=
  match ops with
  | [] => none
  | o :: _ => match o.guard with
    | some _ => none
    | none => match o.op with
      | .next it false => match evalO fs it with
        | .l s 0 => some (s, o.dst)
        | _ => none
      | _ => none

/-- A loop whose head takes an entry of a map: every entry that is left is tried. 'tail': a round behind the head's first operation. -/
def mloopA (plain tail : FS → H → XR) (clear : FS → FS) (ops : List Oper) : Nat → FS → H → XR
  | 0, fs, h => plain fs h
  | n + 1, fs, h => match headNext ops (clear fs) with
    | none => plain fs h
    | some (s, d) => match (clear fs).loc s with
      | some (.miter r k seen) => match h.get r with
        | some (.map es) => match Nat.beq es.length k with
          | true => match leftA seen 0 k with
            | i :: j :: l => eachA s h (fun i => match nth es i with
                | some e => match tail (((clear fs).setL s (.miter r k (seen ++ [i]))).put d (.v (.tuple [.bool true, e.1, e.2]))) h with
                  | .go .norm fs' h' => mloopA plain tail clear ops n fs' h'
                  | r => r
                | none => .fail) (i :: j :: l)
            | _ => plain fs h
          | false => plain fs h
        | _ => plain fs h
      | _ => plain fs h

def condA (c : Operand) (fs : FS) (k : Bool → FS → XR) : XR :=
  match evalO fs c with
  | .v (.bool true) => k true (match c with | .tmp t => fs.setT t (.v (.bool true)) | _ => fs)
  | .v (.bool false) => k false (match c with | .tmp t => fs.setT t (.v (.bool false)) | _ => fs)
  | _ => .fail

def thenA (r : XR) (k : FS → H → XR) : XR :=
  match r with
  | .go .norm fs h => k fs h
  | r => r

def blockA (id : Nat) (r : XR) : XR :=
  match r with
  | .go (.exit id') fs h => match Nat.beq id' id with
    | true => .go .norm fs h
    | false => .go (.exit id') fs h
  | r => r

/-- A range over a function that never calls 'yield' ('any': what nothing looks at). The blocks: 'aux 0': that of the rounds' deferred calls, none in it; 'aux 1': the loop's record. -/
def rangeFuncA (run : Run) (g : Operand) (fs : FS) (h : H) : XR :=
  match evalV fs g with
  | some (.func f first cap) => match run f (first ++ [.any] ++ cap) ((h.new (.aux 0)).new (.aux 1)) with
    | .ok _ h2 => match h2.get (h.next + 1) with
      | some (.aux 1) => .go .norm { fs with df := (markF, [.map (some h.next)]) :: fs.df } (h2.set (h.next + 1) (.aux 2))
      | _ => .fail
    | _ => .fail
  | _ => .fail


def execA (C : Ctx) (run : Run) (fuel : Nat) (f : FuncId) (esc : List Tmp) : Code → FS → H → XR
  | .skip, fs, h => .go .norm fs h
  | .region _ ops d, fs, h => match d with
    | false => opsA C run esc ops.toList ops.toList fs h
    | true => drawP C run esc ops.toList fs h
  | .seq a b, fs, h => thenA (execA C run fuel f esc a fs h) (execA C run fuel f esc b)
  | .cond c a b, fs, h => condA c fs fun t fs => match t with
    | true => execA C run fuel f esc a fs h
    | false => execA C run fuel f esc b fs h
  | .block id b, fs, h => blockA id (execA C run fuel f esc b fs h)
  | .loop b, fs, h => match b with
    | .seq (.region id ops false) rest => mloopA (loopA (execA C run fuel f esc (.seq (.region id ops false) rest)) (clearA C f (.seq (.region id ops false) rest)) fuel)
        (fun fs h => thenA (opsA C run esc ops.toList ops.toList.tail fs h) (execA C run fuel f esc rest)) (clearA C f (.seq (.region id ops false) rest)) ops.toList fuel fs h
    | b => loopA (execA C run fuel f esc b) (clearA C f b) fuel fs h
  | .scope b, fs, h => execA C run fuel f esc b fs h
  | .exit id, fs, h => .go (.exit id) fs h
  | .label _, fs, h => .go .norm fs h
  | .ret, fs, h => .go .ret fs h
  | .rangeFunc g _ _ _, fs, h => rangeFuncA run g fs h
  | _, _, _ => .fail

def resultA (C : Ctx) (fs : FS) (h : H) : ResultVar → Option V
  | .tmp t => evalV fs (.tmp t)
  | .cell a t => match loadA C t (fs.tmp a) fs h with
    | .ok (.v x) _ _ => some x
    | _ => none
def resultsA (C : Ctx) (fs : FS) (h : H) : List ResultVar → Option (List V)
  | [] => some []
  | r :: rs => match resultA C fs h r, resultsA C fs h rs with
    | some x, some xs => some (x :: xs)
    | _, _ => none

def argsT : List V → Nat → Tr TV → Tr TV
  | [], _, acc => acc
  | x :: xs, i, acc => argsT xs (i + 1) (Tr.put (i + 1) acc i (some (.v x)))

def startA (args : List V) : FS := { tm := argsT args 0 .nil, lc := .nil, df := [] }

def endA (C : Ctx) (fn : Func) (fs : FS) (h : H) : Res :=
  match resultsA C fs h fn.results.toList with
  | some [x] => .ok x h
  | some xs => .ok (.tuple xs) h
  | none => .fail

def isRecover : Op → Bool
  | .call { callee := .builtin .recover, .. } => true
  | _ => false

/-- The region with which a deferred function begins: 'recover' may be called; 'pv' is what is to be recovered. -/
def opsD (C : Ctx) (esc : List Tmp) : List Oper → Option V → FS → H → Option (Option V × FS × H)
  | [], pv, fs, h => some (pv, fs, h)
  | o :: rest, pv, fs, h =>
    match o.guard with
    | some _ => none
    | none => match isRecover o.op with
      | true => match pv with
        | some v => opsD C esc rest none (fs.put o.dst (.v v)) h
        | none => opsD C esc rest none (fs.put o.dst (.v .nilIface)) h
      | false => match opA C esc o fs h with
        | .ok x fs h => opsD C esc rest pv (fs.put o.dst x) h
        | _ => none

/-- A deferred function's body: 'recover' in its first region alone. The flag: whether it has recovered. -/
def execD (C : Ctx) (run : Run) (fuel : Nat) (f : FuncId) (esc : List Tmp) : Code → Option V → FS → H → Bool × XR
  | .seq a b, pv, fs, h => match execD C run fuel f esc a pv fs h with
    | (r, .go .norm fs h) => (r, execA C run fuel f esc b fs h)
    | r => r
  | .region id ops draw, pv, fs, h => if draw then (false, execA C run fuel f esc (.region id ops draw) fs h) else match opsD C esc ops.toList pv fs h with
    | some (pv', fs, h) => (pv.isSome && pv'.isNone, .go .norm fs h)
    | none => (false, execA C run fuel f esc (.region id ops draw) fs h)
  | c, _, fs, h => (false, execA C run fuel f esc c fs h)

/-- The deferred calls, the last one first: 'pv': the panic that is under way. -/
def leaveA (C : Ctx) (run : Run) (fuel : Nat) : List (FuncId × List V) → Option V → H → Option (Option V × H)
  | [], pv, h => some (pv, h)
  | (g, args) :: ds, pv, h =>
    match Nat.beq g markF with
    | true => match args with
      | [.map (some r)] => match h.get r with
        | some (.aux 0) => leaveA C run fuel ds pv (h.set r (.aux 2))
        | _ => none
      | _ => none
    | false => match C.ov g with
    | some _ => none
    | none => match C.F g with
      | none => none
      | some fn => match fn.body with
        | none => none
        | some c => match execD C run fuel g (C.esc g) c pv (startA args) h with
          | (r, .go .norm fs h) => match fs.df, endA C fn fs h with
            | [], .ok _ h => leaveA C run fuel ds (if r then none else pv) h
            | _, _ => none
          | (r, .go .ret fs h) => match fs.df, endA C fn fs h with
            | [], .ok _ h => leaveA C run fuel ds (if r then none else pv) h
            | _, _ => none
          | _ => none

def finishA (C : Ctx) (run : Run) (fuel : Nat) (fn : Func) (pv : Option V) (fs : FS) (h : H) : Res :=
  match leaveA C run fuel fs.df pv h with
  | some (none, h) => endA C fn fs h
  | some (some v, h) => .pan v h
  | none => .fail

def bodyA (C : Ctx) (run : Run) (fuel : Nat) (f : FuncId) (fn : Func) (args : List V) (h : H) : Res :=
  match fn.body with
  | none => .fail
  | some c => match execA C run fuel f (C.esc f) c (startA args) h with
    | .go .norm fs h => finishA C run fuel fn none fs h
    | .go .ret fs h => finishA C run fuel fn none fs h
    | .go (.pan v) fs h => finishA C run fuel fn (some v) fs h
    | _ => .fail

def runA (C : Ctx) : Nat → Run
  | 0 => fun _ _ _ => .fail
  | n + 1 => fun f args h =>
    match C.ov f with
    | some g => g (runA C n) args h
    | none => match C.F f with
      | some fn => bodyA C (runA C n) n f fn args h
      | none => .fail

end Go.S2

namespace Go.S2
theorem Tr.get_put_same {α : Type} (o : Option α) : ∀ (f : Nat) (t : Tr α) (n : Nat), n < f → (Tr.put f t n o).get n = o := by
  intro f
  induction f with
  | zero => intro t n h; omega
  | succ f ih =>
    intro t n hn
    cases t with
    | nil =>
      unfold Tr.put
      cases h0 : Nat.beq n 0 with
      | true => simp [Tr.get, h0]
      | false =>
        have hn0 : n ≠ 0 := by intro h; subst h; simp at h0
        cases h1 : Nat.beq (n % 2) 1 with
        | true => simp only [Tr.get, h0, h1]; exact ih _ _ (by omega)
        | false => simp only [Tr.get, h0, h1]; exact ih _ _ (by omega)
    | node l v r =>
      unfold Tr.put
      cases h0 : Nat.beq n 0 with
      | true => simp [Tr.get, h0]
      | false =>
        have hn0 : n ≠ 0 := by intro h; subst h; simp at h0
        cases h1 : Nat.beq (n % 2) 1 with
        | true => simp only [Tr.get, h0, h1]; exact ih _ _ (by omega)
        | false => simp only [Tr.get, h0, h1]; exact ih _ _ (by omega)

theorem Tr.get_nil {α : Type} (n : Nat) : (Tr.nil : Tr α).get n = none := rfl

theorem Tr.get_put_ne {α : Type} (o : Option α) : ∀ (f : Nat) (t : Tr α) (n m : Nat), n ≠ m → (Tr.put f t n o).get m = t.get m := by
  intro f
  induction f with
  | zero => intro t n m h; rfl
  | succ f ih =>
    intro t n m hne
    cases t with
    | nil =>
      unfold Tr.put
      cases h0 : Nat.beq n 0 with
      | true =>
        have : n = 0 := Nat.eq_of_beq_eq_true h0
        cases hm : Nat.beq m 0 with
        | true => have := Nat.eq_of_beq_eq_true hm; omega
        | false => simp only [Tr.get, hm]; split <;> rfl
      | false =>
        have hn0 : n ≠ 0 := by intro h; subst h; simp at h0
        cases h1 : Nat.beq (n % 2) 1 with
        | true =>
          have h1' := Nat.eq_of_beq_eq_true h1
          simp only [Tr.get]
          cases hm : Nat.beq m 0 with
          | true => rfl
          | false =>
            have hm0 : m ≠ 0 := by intro h; subst h; simp at hm
            cases hm1 : Nat.beq (m % 2) 1 with
            | true => have hm1' := Nat.eq_of_beq_eq_true hm1; simp only []; rw [ih _ _ _ (by omega)]; rfl
            | false => rfl
        | false =>
          have h1' : n % 2 ≠ 1 := Nat.ne_of_beq_eq_false h1
          simp only [Tr.get]
          cases hm : Nat.beq m 0 with
          | true => rfl
          | false =>
            have hm0 : m ≠ 0 := by intro h; subst h; simp at hm
            cases hm1 : Nat.beq (m % 2) 1 with
            | true => rfl
            | false => have hm1' : m % 2 ≠ 1 := Nat.ne_of_beq_eq_false hm1; simp only []; rw [ih _ _ _ (by omega)]; rfl
    | node l v r =>
      unfold Tr.put
      cases h0 : Nat.beq n 0 with
      | true =>
        have : n = 0 := Nat.eq_of_beq_eq_true h0
        cases hm : Nat.beq m 0 with
        | true => have := Nat.eq_of_beq_eq_true hm; omega
        | false => simp only [Tr.get, hm]
      | false =>
        have hn0 : n ≠ 0 := by intro h; subst h; simp at h0
        cases h1 : Nat.beq (n % 2) 1 with
        | true =>
          have h1' := Nat.eq_of_beq_eq_true h1
          simp only [Tr.get]
          cases hm : Nat.beq m 0 with
          | true => rfl
          | false =>
            have hm0 : m ≠ 0 := by intro h; subst h; simp at hm
            cases hm1 : Nat.beq (m % 2) 1 with
            | true => have hm1' := Nat.eq_of_beq_eq_true hm1; simp only []; exact ih _ _ _ (by omega)
            | false => rfl
        | false =>
          have h1' : n % 2 ≠ 1 := Nat.ne_of_beq_eq_false h1
          simp only [Tr.get]
          cases hm : Nat.beq m 0 with
          | true => rfl
          | false =>
            have hm0 : m ≠ 0 := by intro h; subst h; simp at hm
            cases hm1 : Nat.beq (m % 2) 1 with
            | true => rfl
            | false => have hm1' : m % 2 ≠ 1 := Nat.ne_of_beq_eq_false hm1; simp only []; exact ih _ _ _ (by omega)

theorem Tr.get_put {α : Type} (o : Option α) (t : Tr α) (n m : Nat) : (Tr.put (n + 1) t n o).get m = if n = m then o else t.get m := by
  by_cases h : n = m
  · subst h; rw [if_pos rfl]; exact Tr.get_put_same o _ _ _ (by omega)
  · rw [if_neg h]; exact Tr.get_put_ne o _ _ _ _ h

theorem H.get_set (h : H) (i j : Nat) (o : O) : (h.set i o).get j = if i = j then some o else h.get j := Tr.get_put _ _ _ _
theorem H.get_drop (h : H) (i j : Nat) : (h.drop i).get j = if i = j then none else h.get j := Tr.get_put _ _ _ _
theorem H.get_new (h : H) (o : O) (j : Nat) : (h.new o).get j = if h.next = j then some o else h.get j := Tr.get_put _ _ _ _

theorem FS.tmp_setT (fs : FS) (t s : Nat) (x : TV) : (fs.setT t x).tmp s = if t = s then x else fs.tmp s := by
  unfold FS.tmp FS.setT
  simp only [Tr.get_put]
  by_cases h : t = s <;> simp [h]
theorem FS.loc_setT (fs : FS) (t s : Nat) (x : TV) : (fs.setT t x).loc s = fs.loc s := rfl
theorem FS.tmp_setL (fs : FS) (t s : Nat) (x : LO) : (fs.setL t x).tmp s = fs.tmp s := rfl
theorem FS.loc_setL (fs : FS) (t s : Nat) (x : LO) : (fs.setL t x).loc s = if t = s then some x else fs.loc s := Tr.get_put _ _ _ _
end Go.S2

namespace Go.S2

/-- The plain heap has gone on: it is as it was where the version is. -/
def H.le (h h' : H) : Prop := h.ver ≤ h'.ver ∧ (h'.ver = h.ver → h' = h)

theorem H.le_refl (h : H) : h.le h := ⟨Nat.le_refl _, fun _ => rfl⟩
theorem H.le_trans {a b c : H} (h : a.le b) (h' : b.le c) : a.le c := by
  refine ⟨Nat.le_trans h.1 h'.1, fun e => ?_⟩
  have e1 : b.ver = a.ver := by have := h.1; have := h'.1; omega
  have hb := h.2 e1
  subst hb
  exact h'.2 e
theorem H.le_lt {h h' : H} (e : h.ver < h'.ver) : h.le h' := ⟨by omega, fun e' => by omega⟩
theorem H.le_set (h : H) (i : Nat) (o : O) : h.le (h.set i o) := H.le_lt (Nat.lt_succ_self _)
theorem H.le_drop (h : H) (i : Nat) : h.le (h.drop i) := H.le_lt (Nat.lt_succ_self _)
theorem H.le_new (h : H) (o : O) : h.le (h.new o) := H.le_lt (Nat.lt_succ_self _)

def OR.up (h : H) : OR → Prop
  | .ok _ _ h' => h.le h'
  | _ => True
def Res.up (h : H) : Res → Prop
  | .ok _ h' => h.le h'
  | .pan _ h' => h.le h'
  | .fail => True
def XR.up (h : H) : XR → Prop
  | .go _ _ h' => h.le h'
  | .fail => True
def RunUp (run : Run) : Prop := ∀ f args h, (run f args h).up h

section
variable {C : Ctx} {fs : FS} {h : H}

theorem up_okV (o : Option V) : (okV fs h o).up h := by cases o <;> first | trivial | exact H.le_refl _
theorem up_okT (o : Option TV) : (okT fs h o).up h := by cases o <;> first | trivial | exact H.le_refl _
theorem up_with1 {x : Operand} {k : V → FS → H → OR} (hk : ∀ v, (k v fs h).up h) : (with1 x k fs h).up h := by
  unfold with1; split
  · exact hk _
  · trivial
theorem up_with2 {x y : Operand} {k : V → V → FS → H → OR} (hk : ∀ u v, (k u v fs h).up h) : (with2 x y k fs h).up h := by
  unfold with2; split
  · exact hk _ _
  · trivial
theorem up_newA (hp : Bool) (d : Option Tmp) (el : TypeId) (cs : List V) : (newA hp d el cs fs h).up h := by
  unfold newA
  repeat' split
  all_goals first | trivial | exact H.le_refl _ | exact H.le_new _ _
theorem up_loadA (t : TypeId) (a : TV) : (loadA C t a fs h).up h := by
  unfold loadA
  repeat' split
  all_goals first | trivial | exact up_okV _
theorem up_storeA (t : TypeId) (a : TV) (x : V) : (storeA C t a x fs h).up h := by
  unfold storeA
  repeat' split
  all_goals first | trivial | exact H.le_refl _ | exact H.le_set _ _ _
theorem up_mvA (x : Operand) : (mvA x fs h).up h := by
  unfold mvA
  split
  · trivial
  · exact H.le_refl _
theorem up_convA (s d : TypeId) (x : V) : (convA C s d x fs h).up h := by
  unfold convA
  repeat' split
  all_goals first | trivial | exact H.le_refl _ | exact H.le_new _ _
theorem up_sliceA (t : TypeId) (x : TV) (lo hi mx : Option V) : (sliceA C t x lo hi mx fs h).up h := by
  unfold sliceA
  repeat' split
  all_goals first | trivial | exact H.le_refl _
theorem up_mkSliceA (t : TypeId) (l c : V) : (mkSliceA C t l c fs h).up h := by
  unfold mkSliceA
  repeat' split
  all_goals first | trivial | exact H.le_new _ _
theorem up_appendGrow (e : TypeId) (ti : TI) (base : Option (Nat × Nat)) (l : Nat) (ex : Bool) (n : Nat) (new : List V) : (appendGrow e ti base l ex n new fs h).up h := by
  unfold appendGrow
  repeat' split
  all_goals first | trivial | exact H.le_new _ _ | exact H.le_trans (H.le_drop _ _) (H.le_new _ _)
theorem up_appendHere (ti : TI) (i o l c : Nat) (ex : Bool) (n : Nat) (new : List V) : (appendHere ti i o l c ex n new fs h).up h := by
  unfold appendHere
  repeat' split
  all_goals first | trivial | exact H.le_set _ _ _
theorem up_appendA (t : TypeId) (s : V) (n : Nat) (new : List V) : (appendA C t s n new fs h).up h := by
  unfold appendA
  repeat' split
  all_goals first | trivial | exact up_appendHere .. | exact up_appendGrow ..
theorem up_append0 (t : TypeId) (s : V) : (append0 C t s fs h).up h := by
  unfold append0
  repeat' split
  all_goals first | trivial | exact H.le_refl _
theorem up_append2 (ts : List TypeId) (s x : TV) : (append2 C ts s x fs h).up h := by
  unfold append2
  repeat' split
  all_goals first | trivial | exact up_append0 .. | exact up_appendA ..
theorem le_delO {r : Nat} {o : O} {k : V} {es : List (V × V)} {h' : H} (e : delO r o k es h = some h') : h.le h' := by
  unfold delO at e
  repeat' split at e
  all_goals first | cases e; done | skip
  all_goals (simp only [Option.some.injEq] at e; subst e; exact H.le_set _ _ _)
theorem up_deleteA {t : TypeId} {m k : V} {h' : H} (e : deleteA C t m k h = some h') : h.le h' := by
  unfold deleteA at e
  repeat' split at e
  all_goals first | cases e; done | exact le_delO e | (simp only [Option.some.injEq] at e; subst e; exact H.le_refl _)
theorem up_builtinA (b : Builtin) (ts : List TypeId) (args : List V) : (builtinA C b ts args fs h).up h := by
  unfold builtinA
  repeat' split
  all_goals first | trivial | exact up_okV _ | exact H.le_refl _ | (rename_i e; exact up_deleteA e)
theorem up_callA (c : Call) : (callA C c fs h).up h := by
  unfold callA
  repeat' split
  all_goals first | trivial | exact up_append2 .. | exact up_builtinA ..
theorem up_updateA {t : TypeId} {m k x : V} {h' : H} (e : updateA C t m k x h = some h') : h.le h' := by
  unfold updateA at e
  repeat' split at e
  all_goals first | cases e; done | skip
  · obtain ⟨es, _, rfl⟩ := Option.map_eq_some_iff.1 e
    exact H.le_set _ _ _
  · simp only [Option.some.injEq] at e; subst e
    exact H.le_set _ _ _
theorem up_updateO (t : TypeId) (m k x : Operand) : (updateO C t m k x fs h).up h := by
  unfold updateO
  split
  · split
    · rename_i e; exact up_updateA e
    · trivial
  · trivial
theorem up_iterA (d : Option Tmp) (o : LO) : (iterA d o fs h).up h := by
  unfold iterA
  repeat' split
  all_goals first | trivial | exact H.le_refl _
theorem up_rangeA (t : TypeId) (d : Option Tmp) (x : V) : (rangeA C t d x fs h).up h := by
  unfold rangeA
  repeat' split
  all_goals first | trivial | exact up_iterA ..
theorem up_nextA (it : TV) (b : Bool) : (nextA it b fs h).up h := by
  unfold nextA mnextA
  repeat' split
  all_goals first | trivial | exact H.le_refl _
theorem up_entryA (it : TV) : (entryA it fs h).up h := by
  unfold entryA
  repeat' split
  all_goals first | trivial | exact H.le_refl _

theorem opA_up (esc : List Tmp) (o : Oper) : (opA C esc o fs h).up h := by
  obtain ⟨dst, op, ty, pos, af, gd⟩ := o
  cases op with
  | move x => exact up_mvA x
  | assign x => exact up_mvA x
  | pick c x y => simp only [opA, pickA]; split <;> first | trivial | exact up_mvA _
  | alloc el => simp only [opA, allocA]; split <;> first | trivial | exact up_newA ..
  | box el x =>
    simp only [opA, boxA]
    repeat' split
    all_goals first | trivial | exact up_newA ..
  | build t ps => simp only [opA, buildO]; split <;> first | trivial | exact up_okV _
  | buildSlice t len ps =>
    simp only [opA, buildSliceA]
    repeat' split
    all_goals first | trivial | exact H.le_refl _ | exact H.le_new _ _
  | load t x => exact up_loadA ..
  | store t x y => simp only [opA, storeO]; split <;> first | trivial | exact up_storeA ..
  | nilCheck x => simp only [opA, nilCheckA]; split <;> first | trivial | exact H.le_refl _
  | binOp op t x y c => simp only [opA, binO]; split <;> first | trivial | exact up_okV _
  | unOp op t x => exact up_with1 (k := fun a fs h => okV fs h (unA op a)) fun v => up_okV _
  | convert s d x => exact up_with1 fun v => up_convA ..
  | makeInterface t x =>
    refine up_with1 fun v => ?_
    unfold mkIfaceA
    split <;> first | trivial | exact H.le_refl _
  | makeFunc f p q =>
    cases f with
    | func f => simp only [opA, mkFuncA]; split <;> first | trivial | exact H.le_refl _
    | _ => trivial
  | makeMap t r => cases r <;> first | trivial | exact H.le_new _ _
  | makeSlice t l c => exact up_with2 fun u v => up_mkSliceA ..
  | slice t x lo hi mx => simp only [opA, sliceO]; split <;> first | trivial | exact up_sliceA ..
  | fieldAddr t x f => exact up_okT _
  | field t x f => exact up_with1 (k := fun a fs h => okV fs h (fieldA C t a f)) fun v => up_okV _
  | indexAddr t x i => simp only [opA, indexAddrO]; split <;> first | trivial | exact up_okT _
  | index t x i => exact up_with2 (k := fun a b fs h => okV fs h (indexA C t a b)) fun u v => up_okV _
  | lookup t x i ok => exact up_with2 (k := fun a b fs h => okV fs h (lookupA C t a b ok h)) fun u v => up_okV _
  | mapUpdate t x k y => exact up_updateO ..
  | insert t x k y => exact up_updateO ..
  | range t x => exact up_with1 fun v => up_rangeA ..
  | next it s => exact up_nextA ..
  | entry it => exact up_entryA ..
  | typeAssert x xt t ok => exact up_with1 (k := fun a fs h => okV fs h (assertA C a t ok)) fun v => up_okV _
  | extract t i =>
    refine up_with1 fun v => ?_
    unfold extractA
    split <;> first | trivial | exact up_okV _
  | call c => exact up_callA c
  | defer c =>
    simp only [opA, deferA]
    repeat' split
    all_goals first | trivial | exact H.le_refl _
  | panic x =>
    refine up_with1 fun v => ?_
    unfold panicA
    split <;> trivial
  | _ => trivial
end

theorem XR.up_trans {h h' : H} (hh : h.le h') : ∀ {r : XR}, r.up h' → r.up h
  | .fail, _ => trivial
  | .go _ _ _, hr => H.le_trans hh hr

section
variable {C : Ctx} {run : Run} {esc : List Tmp}

theorem stepA_up (hr : RunUp run) {o : Oper} {fs : FS} {h : H} {k : FS → H → XR} (hk : ∀ fs h, (k fs h).up h) : (stepA C run esc o fs h k).up h := by
  unfold stepA
  have hop := opA_up (C := C) (fs := fs) (h := h) esc o
  split
  · trivial
  · rename_i x fs1 h1 e
    rw [e] at hop
    exact XR.up_trans hop (hk _ _)
  · rename_i f args e
    have hc := hr f args h
    split
    · trivial
    · rename_i v h1 e1
      rw [e1] at hc
      exact XR.up_trans hc (hk _ _)
    · rename_i v h1 e1
      rw [e1] at hc
      exact hc
  · exact H.le_refl _

theorem wantedA_up {ops : List Oper} {o : Oper} {fs : FS} {h : H} {k : Bool → FS → XR} (hk : ∀ b fs, (k b fs).up h) : (wantedA ops o fs k).up h := by
  unfold wantedA
  repeat' split
  all_goals first | trivial | exact hk _ _

theorem opsA_up (hr : RunUp run) {all : List Oper} : ∀ (l : List Oper) (fs : FS) (h : H), (opsA C run esc all l fs h).up h
  | [], fs, h => H.le_refl _
  | o :: l, fs, h => by
    simp only [opsA]
    refine wantedA_up fun b fs => ?_
    split
    · exact stepA_up hr fun fs h => opsA_up hr l fs h
    · exact opsA_up hr l _ h

def ER.up (h : H) : ER → Prop
  | .ok _ s => h.le s.h
  | .pan _ s => h.le s.h
  | .fail => True

theorem oneA_up (hr : RunUp run) {all : List Oper} (o : Oper) (tm : Tr TV) (s : Sn) : (oneA C run esc all o tm s).up s.h := by
  unfold oneA
  split
  · trivial
  · unfold effA
    have hop := opA_up (C := C) (fs := s.fs tm) (h := s.h) esc o
    split
    · trivial
    · rename_i x fs1 h1 e
      rw [e] at hop
      exact hop
    · rename_i f args e
      have hc := hr f args s.h
      split
      · trivial
      · rename_i v h1 e1; rw [e1] at hc; exact hc
      · rename_i v h1 e1; rw [e1] at hc; exact hc
    · exact H.le_refl _
  · exact H.le_refl _

theorem passA_up (hr : RunUp run) {all : List Oper} (h0 : H) : ∀ (os : List Oper) (ps : List Nat) (i : Nat) (tm : Tr TV) (s : Sn) (qs : List PE) (es : List (PE × Sn)) (pan : Option (Nat × V × Sn)) (tm' : Tr TV) (s' : Sn)
    (qs' : List PE) (es' : List (PE × Sn)) (pan' : Option (Nat × V × Sn)), h0.le s.h → (∀ y, pan = some y → h0.le y.2.2.h) → passA C run esc all os ps i tm s qs es pan = .go tm' s' qs' es' pan' →
    h0.le s'.h ∧ (∀ y, pan' = some y → h0.le y.2.2.h) := by
  intro os
  induction os with
  | nil =>
    intro ps i tm s qs es pan tm' s' qs' es' pan' hs hp he
    simp only [passA] at he
    cases he
    exact ⟨hs, hp⟩
  | cons o os ih =>
    intro ps i tm s qs es pan tm' s' qs' es' pan' hs hp he
    cases ps with
    | nil => simp only [passA] at he; cases he; exact ⟨hs, hp⟩
    | cons p ps =>
      simp only [passA] at he
      split at he
      · exact ih _ _ _ _ _ _ _ _ _ _ _ _ hs hp he
      · split at he
        · cases he
        · split at he
          · split at he
            · exact ih _ _ _ _ _ _ _ _ _ _ _ _ hs hp he
            · cases he
          · split at he
            · cases he
            · have hone := oneA_up (C := C) (esc := esc) hr (all := all) o tm s
              split at he
              · rename_i x s1 e
                rw [e] at hone
                exact ih _ _ _ _ _ _ _ _ _ _ _ _ (H.le_trans hs hone) (fun y hy => by cases hy) he
              · rename_i v s1 e
                rw [e] at hone
                split at he
                · exact ih _ _ _ _ _ _ _ _ _ _ _ _ hs (fun y hy => by cases hy; exact H.le_trans hs hone) he
                · cases he
              · cases he

theorem drawA_up (hr : RunUp run) {all : List Oper} (fs : FS) (h : H) : (drawA C run esc all fs h).up h := by
  unfold drawA
  split
  · trivial
  · split
    · trivial
    · split
      · trivial
      · rename_i tm s qs es pan e
        obtain ⟨h1, h2⟩ := passA_up hr h _ _ _ _ _ _ _ _ _ _ _ _ _ (H.le_refl h) (fun y hy => by cases hy) e
        split
        · trivial
        · split
          · exact h1
          · exact h2 _ rfl

theorem promo1_up (d : Tmp) (e : TypeId) (fs : FS) (h : H) : (promo1 d e fs h).up h := by
  unfold promo1
  split
  · exact H.le_new _ _
  · trivial
theorem promoA_up : ∀ (ps : List (Tmp × TypeId)) (fs : FS) (h : H), (promoA ps fs h).up h
  | [], fs, h => H.le_refl _
  | (d, e) :: ps, fs, h => by
    have h1 := promo1_up d e fs h
    unfold promoA
    split
    · rename_i ex' fs' h' e1
      rw [e1] at h1
      have h3 := promoA_up ps fs' h'
      cases hr : promoA ps fs' h' with
      | fail => trivial
      | go _ _ _ => rw [hr] at h3; exact H.le_trans h1 h3
    · trivial
theorem drawP_up (hr : RunUp run) {all : List Oper} (fs : FS) (h : H) : (drawP C run esc all fs h).up h := by
  unfold drawP
  split
  · exact drawA_up hr _ _
  · exact drawA_up hr _ _
  · have h1 := drawA_up (C := C) (esc := dropTs (promoT esc all all) esc) hr (all := all) fs h
    split
    · rename_i fs' h' e1
      rw [e1] at h1
      have h3 := promoA_up (promoT esc all all) fs' h'
      cases hr : promoA (promoT esc all all) fs' h' with
      | fail => trivial
      | go _ _ _ => rw [hr] at h3; exact H.le_trans h1 h3
    · rename_i e1
      rw [e1] at h1
      exact h1
    · trivial

theorem thenA_up {r : XR} {k : FS → H → XR} {h : H} (hr : r.up h) (hk : ∀ fs h, (k fs h).up h) : (thenA r k).up h := by
  unfold thenA
  split
  · exact XR.up_trans hr (hk _ _)
  · exact hr

theorem loopA_up {body : FS → H → XR} {clear : FS → FS} (hb : ∀ fs h, (body fs h).up h) : ∀ (n : Nat) (fs : FS) (h : H), (loopA body clear n fs h).up h
  | 0, fs, h => trivial
  | n + 1, fs, h => by
    simp only [loopA]
    have h1 := hb (clear fs) h
    split
    · rename_i e
      rw [e] at h1
      exact XR.up_trans h1 (loopA_up hb n _ _)
    · exact h1

theorem H.join_up {h0 a b h' : H} (ha : h0.le a) (e : H.join h0 a b = some h') : h0.le h' := by
  unfold H.join at e
  split at e
  · cases e; exact ha
  · split at e
    · cases e
      refine H.le_lt ?_
      have := ha.1
      simp only
      omega
    · cases e

theorem XR.join_up {s : Nat} {h0 : H} {a b : XR} (ha : a.up h0) : (XR.join s h0 a b).up h0 := by
  unfold XR.join
  split
  · split
    · trivial
    · split
      · rename_i e; exact H.join_up ha e
      · trivial
  · trivial

theorem eachA_up {s : Nat} {h0 : H} {go : Nat → XR} (hg : ∀ i, (go i).up h0) : ∀ l, (eachA s h0 go l).up h0
  | [] => trivial
  | [i] => hg i
  | i :: j :: l => XR.join_up (hg i)

theorem mloopA_up {plain tail : FS → H → XR} {clear : FS → FS} {ops : List Oper} (hp : ∀ fs h, (plain fs h).up h) (ht : ∀ fs h, (tail fs h).up h) : ∀ (n : Nat) (fs : FS) (h : H), (mloopA plain tail clear ops n fs h).up h
  | 0, fs, h => hp fs h
  | n + 1, fs, h => by
    simp only [mloopA]
    split
    · exact hp _ _
    · split
      · split
        · split
          · split
            · refine eachA_up (fun i => ?_) _
              split
              · split
                · rename_i fs1 h1 e1
                  have h2 : XR.up h (.go .norm fs1 h1) := by rw [← e1]; exact ht _ _
                  exact XR.up_trans h2 (mloopA_up hp ht n _ _)
                · exact ht _ _
              · trivial
            · exact hp _ _
          · exact hp _ _
        · exact hp _ _
      · exact hp _ _

theorem condA_up {c : Operand} {fs : FS} {h : H} {k : Bool → FS → XR} (hk : ∀ b fs, (k b fs).up h) : (condA c fs k).up h := by
  unfold condA
  split
  · exact hk _ _
  · exact hk _ _
  · trivial

theorem blockA_up {id : Nat} {r : XR} {h : H} (hr : r.up h) : (blockA id r).up h := by
  unfold blockA
  split
  · split
    · exact hr
    · exact hr
  · exact hr

theorem rangeFuncA_up (hr : RunUp run) (g : Operand) (fs : FS) (h : H) : (rangeFuncA run g fs h).up h := by
  unfold rangeFuncA
  split
  · rename_i f first cap _
    have hx := hr f (first ++ [.any] ++ cap) ((h.new (.aux 0)).new (.aux 1))
    split
    · rename_i h2 e
      rw [e] at hx
      split
      · exact H.le_trans (H.le_trans (H.le_trans (H.le_new _ _) (H.le_new _ _)) hx) (H.le_set _ _ _)
      · trivial
    · trivial
  · trivial

theorem execA_up' (hr : RunUp run) {fuel : Nat} {f : FuncId} : ∀ (c : Code), (∀ (fs : FS) (h : H), (execA C run fuel f esc c fs h).up h) ∧ ∀ a b, c = .seq a b → ∀ (fs : FS) (h : H), (execA C run fuel f esc b fs h).up h := by
  intro c
  induction c with
  | skip => exact ⟨fun fs h => H.le_refl _, fun _ _ e => by cases e⟩
  | region id ops d =>
    refine ⟨fun fs h => ?_, fun _ _ e => by cases e⟩
    simp only [execA]
    cases d
    · exact opsA_up hr _ _ _
    · exact drawP_up hr _ _
  | seq a b iha ihb => exact ⟨fun fs h => by simp only [execA]; exact thenA_up (iha.1 fs h) ihb.1, fun _ _ e => by cases e; exact ihb.1⟩
  | cond c a b iha ihb =>
    refine ⟨fun fs h => ?_, fun _ _ e => by cases e⟩
    simp only [execA]
    refine condA_up fun t fs => ?_
    split
    · exact iha.1 fs h
    · exact ihb.1 fs h
  | block id b ih => exact ⟨fun fs h => by simp only [execA]; exact blockA_up (ih.1 fs h), fun _ _ e => by cases e⟩
  | loop b ih =>
    refine ⟨fun fs h => ?_, fun _ _ e => by cases e⟩
    have hp : ∀ fs h, (loopA (execA C run fuel f esc b) (clearA C f b) fuel fs h).up h := fun fs h => loopA_up ih.1 fuel fs h
    unfold execA
    split
    · rename_i id ops rest
      exact mloopA_up hp (fun fs h => thenA_up (opsA_up hr _ _ _) (ih.2 _ _ rfl)) _ _ _
    · exact hp _ _
  | scope b ih => exact ⟨fun fs h => ih.1 fs h, fun _ _ e => by cases e⟩
  | exit id => exact ⟨fun fs h => H.le_refl _, fun _ _ e => by cases e⟩
  | label l => exact ⟨fun fs h => H.le_refl _, fun _ _ e => by cases e⟩
  | ret => exact ⟨fun fs h => H.le_refl _, fun _ _ e => by cases e⟩
  | rangeFunc g ps x y => exact ⟨fun fs h => rangeFuncA_up hr g fs h, fun _ _ e => by cases e⟩
  | _ => exact ⟨fun fs h => trivial, fun _ _ e => by cases e⟩

theorem execA_up (hr : RunUp run) {fuel : Nat} {f : FuncId} (c : Code) (fs : FS) (h : H) : (execA C run fuel f esc c fs h).up h := (execA_up' hr c).1 fs h

theorem endA_up {fn : Func} {fs : FS} {h : H} : (endA C fn fs h).up h := by
  unfold endA
  split <;> first | trivial | exact H.le_refl _

theorem opsD_up : ∀ (l : List Oper) (pv : Option V) (fs : FS) (h : H) (pv' : Option V) (fs' : FS) (h' : H), opsD C esc l pv fs h = some (pv', fs', h') → h.le h'
  | [], pv, fs, h, pv', fs', h', e => by simp only [opsD] at e; cases e; exact H.le_refl _
  | o :: l, pv, fs, h, pv', fs', h', e => by
    simp only [opsD] at e
    split at e
    · cases e
    · split at e
      · split at e
        · exact opsD_up l _ _ _ _ _ _ e
        · exact opsD_up l _ _ _ _ _ _ e
      · have hop := opA_up (C := C) (fs := fs) (h := h) esc o
        split at e
        · rename_i e1
          rw [e1] at hop
          exact H.le_trans hop (opsD_up l _ _ _ _ _ _ e)
        · cases e

theorem execD_up (hr : RunUp run) {fuel : Nat} {f : FuncId} : ∀ (c : Code) (pv : Option V) (fs : FS) (h : H), (execD C run fuel f esc c pv fs h).2.up h := by
  intro c
  induction c with
  | seq a b iha ihb =>
    intro pv fs h
    simp only [execD]
    have h1 := iha pv fs h
    split
    · rename_i e
      rw [e] at h1
      exact XR.up_trans h1 (execA_up hr _ _ _)
    · exact h1
  | region id ops d =>
    intro pv fs h
    simp only [execD]
    split
    · exact execA_up hr _ _ _
    · split
      · rename_i e
        exact opsD_up _ _ _ _ _ _ _ e
      · exact execA_up hr _ _ _
  | _ => intro pv fs h; exact execA_up hr _ _ _

theorem leaveA_up (hr : RunUp run) {fuel : Nat} : ∀ (ds : List (FuncId × List V)) (pv : Option V) (h : H) (pv' : Option V) (h' : H), leaveA C run fuel ds pv h = some (pv', h') → h.le h'
  | [], pv, h, pv', h', e => by simp only [leaveA] at e; cases e; exact H.le_refl _
  | (g, args) :: ds, pv, h, pv', h', e => by
    simp only [leaveA] at e
    split at e
    · split at e
      · split at e
        · exact H.le_trans (H.le_set _ _ _) (leaveA_up hr ds _ _ _ _ e)
        · cases e
      · cases e
    · split at e
      · cases e
      · split at e
        · cases e
        · rename_i fn _
          split at e
          · cases e
          · rename_i c _
            have hx := execD_up (C := C) (esc := C.esc g) hr (fuel := fuel) (f := g) c pv (startA args) h
            split at e
            · rename_i r fs1 h1 e1
              rw [e1] at hx
              split at e
              · rename_i v h2 _ e2
                have hend := endA_up (C := C) (fn := fn) (fs := fs1) (h := h1)
                rw [e2] at hend
                exact H.le_trans hx (H.le_trans hend (leaveA_up hr ds _ _ _ _ e))
              · cases e
            · rename_i r fs1 h1 e1
              rw [e1] at hx
              split at e
              · rename_i v h2 _ e2
                have hend := endA_up (C := C) (fn := fn) (fs := fs1) (h := h1)
                rw [e2] at hend
                exact H.le_trans hx (H.le_trans hend (leaveA_up hr ds _ _ _ _ e))
              · cases e
            · cases e

theorem Res.up_trans {h h' : H} (hh : h.le h') : ∀ {r : Res}, r.up h' → r.up h
  | .fail, _ => trivial
  | .ok _ _, hr => H.le_trans hh hr
  | .pan _ _, hr => H.le_trans hh hr

theorem finishA_up (hr : RunUp run) {fuel : Nat} {fn : Func} {pv : Option V} {fs : FS} {h : H} : (finishA C run fuel fn pv fs h).up h := by
  unfold finishA
  split
  · rename_i e; exact Res.up_trans (leaveA_up hr _ _ _ _ _ e) endA_up
  · rename_i e; exact leaveA_up hr _ _ _ _ _ e
  · trivial

theorem bodyA_up (hr : RunUp run) {fuel : Nat} {f : FuncId} {fn : Func} {args : List V} {h : H} : (bodyA C run fuel f fn args h).up h := by
  unfold bodyA
  split
  · trivial
  · rename_i c _
    have hx := execA_up (C := C) (esc := C.esc f) hr (fuel := fuel) (f := f) c (startA args) h
    split
    all_goals first
      | trivial
      | (rename_i e; rw [e] at hx; exact Res.up_trans hx (finishA_up hr))

/-- An override that goes on with the heap. -/
def OvUp (C : Ctx) : Prop := ∀ f g, C.ov f = some g → ∀ run, RunUp run → ∀ args h, (g run args h).up h

theorem runA_up (ho : OvUp C) : ∀ n, RunUp (runA C n) := by
  intro n
  induction n with
  | zero => intro f args h; trivial
  | succ n ih =>
    intro f args h
    simp only [runA]
    split
    · rename_i g hg; exact ho f g hg _ ih args h
    · split
      · exact bodyA_up ih
      · trivial
end
end Go.S2

namespace Go.S2

/-- Where the blocks of the plain heap lie: the block, the first cell, how many cells are its own, the cells of an element. -/
abbrev Km := Nat → Option (Nat × Nat × Nat × Nat)

mutual
def VR (m : Km) : V → Value → Prop
  | .bool b, x => x = .bool b
  | .int k n, x => x = .int k n
  | .str s, x => x = .string ⟨⟨s⟩⟩
  | .ptr none, x => x = .pointer none
  | .ptr (some a), x => ∃ c b n z, m a.1 = some (c, b, n, z) ∧ x = .pointer (some ⟨c, b + a.2, none⟩)
  | .slice none l c _, x => l = 0 ∧ c = 0 ∧ x = .slice none 0 0
  | .slice (some a) len cap ex, x => ∃ c b n z cap', m a.1 = some (c, b, n, z) ∧ cap ≤ cap' ∧ (ex = true → cap' = cap) ∧ (ex = false → a.2 + cap' * z ≤ n) ∧
      ((∃ p, cap' = 0 ∧ len = 0 ∧ x = .slice (some p) 0 0) ∨ x = .slice (some ⟨c, b + a.2, none⟩) len cap')
  | .map none, x => x = .map none
  | .map (some r), x => ∃ c b n z, m r = some (c, b, n, z) ∧ x = .map (some c)
  | .func f first cap, x => ∃ a b, x = .func (.func f) a b ∧ VRs m first a.toList ∧ VRs m cap b.toList
  | .nilFunc, x => x = .nilFunc
  | .iface t v, x => ∃ y, x = .iface t y ∧ VR m v y
  | .nilIface, x => x = .nilIface
  | .agg cs, x => ∃ a, x = .agg a ∧ VRs m cs a.toList
  | .tuple cs, x => ∃ a, x = .tuple a ∧ VRs m cs a.toList
  | .any, x => ∃ l, x = .func (.yield l) #[] #[]
def VRs (m : Km) : List V → List Value → Prop
  | [], [] => True
  | v :: vs, x :: xs => VR m v x ∧ VRs m vs xs
  | _, _ => False
end

def Km.le (m m' : Km) : Prop := ∀ i x, m i = some x → m' i = some x
theorem Km.le_refl (m : Km) : m.le m := fun _ _ h => h
theorem Km.le_trans {a b c : Km} (h : a.le b) (h' : b.le c) : a.le c := fun i x hx => h' i x (h i x hx)

mutual
theorem VR.mono {m m' : Km} (hm : m.le m') : ∀ (v : V) (x : Value), VR m v x → VR m' v x
  | .bool b, x, h => by simpa [VR] using h
  | .int k n, x, h => by simpa [VR] using h
  | .str s, x, h => by simpa [VR] using h
  | .ptr none, x, h => by simpa [VR] using h
  | .ptr (some a), x, h => by
    simp only [VR] at h ⊢
    obtain ⟨c, b, n, z, h1, h2⟩ := h
    exact ⟨c, b, n, z, hm _ _ h1, h2⟩
  | .slice none l c e, x, h => by simpa [VR] using h
  | .slice (some a) l c e, x, h => by
    simp only [VR] at h ⊢
    obtain ⟨cc, b, n, z, cap', h1, h2⟩ := h
    exact ⟨cc, b, n, z, cap', hm _ _ h1, h2⟩
  | .map none, x, h => by simpa [VR] using h
  | .map (some r), x, h => by
    simp only [VR] at h ⊢
    obtain ⟨c, b, n, z, h1, h2⟩ := h
    exact ⟨c, b, n, z, hm _ _ h1, h2⟩
  | .func f a b, x, h => by
    simp only [VR] at h ⊢
    obtain ⟨p, q, h1, h2, h3⟩ := h
    exact ⟨p, q, h1, VRs.mono hm _ _ h2, VRs.mono hm _ _ h3⟩
  | .nilFunc, x, h => by simpa [VR] using h
  | .iface t v, x, h => by
    simp only [VR] at h ⊢
    obtain ⟨y, h1, h2⟩ := h
    exact ⟨y, h1, VR.mono hm _ _ h2⟩
  | .nilIface, x, h => by simpa [VR] using h
  | .any, x, h => by simpa [VR] using h
  | .agg cs, x, h => by
    simp only [VR] at h ⊢
    obtain ⟨a, h1, h2⟩ := h
    exact ⟨a, h1, VRs.mono hm _ _ h2⟩
  | .tuple cs, x, h => by
    simp only [VR] at h ⊢
    obtain ⟨a, h1, h2⟩ := h
    exact ⟨a, h1, VRs.mono hm _ _ h2⟩
theorem VRs.mono {m m' : Km} (hm : m.le m') : ∀ (vs : List V) (xs : List Value), VRs m vs xs → VRs m' vs xs
  | [], [], _ => by simp [VRs]
  | v :: vs, x :: xs, h => by
    simp only [VRs] at h ⊢
    exact ⟨VR.mono hm _ _ h.1, VRs.mono hm _ _ h.2⟩
  | [], _ :: _, h => by simp [VRs] at h
  | _ :: _, [], h => by simp [VRs] at h
end

theorem VRs.length {m : Km} : ∀ {vs : List V} {xs : List Value}, VRs m vs xs → vs.length = xs.length
  | [], [], _ => rfl
  | v :: vs, x :: xs, h => by simp only [VRs] at h; simp [VRs.length h.2]
  | [], _ :: _, h => by simp [VRs] at h
  | _ :: _, [], h => by simp [VRs] at h

theorem VRs.append {m : Km} : ∀ {vs us : List V} {xs ys : List Value}, VRs m vs xs → VRs m us ys → VRs m (vs ++ us) (xs ++ ys)
  | [], _, [], _, _, h => h
  | v :: vs, _, x :: xs, _, h, h' => by simp only [VRs] at h; simp only [List.cons_append, VRs]; exact ⟨h.1, VRs.append h.2 h'⟩
  | [], _, _ :: _, _, h, _ => by simp [VRs] at h
  | _ :: _, _, [], _, h, _ => by simp [VRs] at h

theorem VRs.nth {m : Km} : ∀ {vs : List V} {xs : List Value} {i : Nat} {v : V}, VRs m vs xs → nth vs i = some v → ∃ x, xs[i]? = some x ∧ VR m v x
  | [], _, i, v, _, h => by simp [S2.nth] at h
  | a :: vs, x :: xs, 0, v, h, hn => by
    simp only [S2.nth, Option.some.injEq] at hn; subst hn
    simp only [VRs] at h
    exact ⟨x, rfl, h.1⟩
  | a :: vs, x :: xs, i + 1, v, h, hn => by
    simp only [VRs] at h
    simp only [S2.nth] at hn
    obtain ⟨y, h1, h2⟩ := VRs.nth h.2 hn
    exact ⟨y, by simpa using h1, h2⟩
  | _ :: _, [], _, _, h, _ => by simp [VRs] at h

theorem takeN_eq {α : Type} : ∀ {n : Nat} {l r : List α}, takeN n l = some r → r = l.take n ∧ n ≤ l.length
  | 0, l, r, h => by simp [takeN] at h; subst h; simp
  | n + 1, [], r, h => by simp [takeN] at h
  | n + 1, x :: xs, r, h => by
    simp only [takeN] at h
    split at h
    · rename_i ys hy
      simp only [Option.some.injEq] at h
      obtain ⟨h1, h2⟩ := takeN_eq hy
      subst h
      simp [h1, h2]
    · simp at h

theorem dropN_eq {α : Type} : ∀ (n : Nat) (l : List α), dropN n l = l.drop n
  | 0, l => by simp [dropN]
  | n + 1, [] => by simp [dropN]
  | n + 1, x :: xs => by simp [dropN, dropN_eq n xs]

theorem VRs.take {m : Km} : ∀ {vs : List V} {xs : List Value} (n : Nat), VRs m vs xs → VRs m (vs.take n) (xs.take n)
  | [], [], n, _ => by simp [VRs]
  | v :: vs, x :: xs, 0, h => by simp [VRs]
  | v :: vs, x :: xs, n + 1, h => by simp only [VRs] at h; simp only [List.take_succ_cons, VRs]; exact ⟨h.1, VRs.take n h.2⟩
  | [], _ :: _, _, h => by simp [VRs] at h
  | _ :: _, [], _, h => by simp [VRs] at h

theorem VRs.drop {m : Km} : ∀ {vs : List V} {xs : List Value} (n : Nat), VRs m vs xs → VRs m (vs.drop n) (xs.drop n)
  | [], [], n, _ => by simp [VRs]
  | v :: vs, x :: xs, 0, h => by simpa using h
  | v :: vs, x :: xs, n + 1, h => by simp only [VRs] at h; simp only [List.drop_succ_cons]; exact VRs.drop n h.2
  | [], _ :: _, _, h => by simp [VRs] at h
  | _ :: _, [], _, h => by simp [VRs] at h

theorem VRs.get {m : Km} {vs : List V} {xs : List Value} (h : VRs m vs xs) {i : Nat} (hi : i < vs.length) : ∃ x, xs[i]? = some x ∧ VR m vs[i] x := by
  induction vs generalizing xs i with
  | nil => simp at hi
  | cons v vs ih =>
    cases xs with
    | nil => simp [VRs] at h
    | cons x xs =>
      simp only [VRs] at h
      cases i with
      | zero => exact ⟨x, rfl, h.1⟩
      | succ i =>
        obtain ⟨y, h1, h2⟩ := ih h.2 (i := i) (by simpa using hi)
        exact ⟨y, by simpa using h1, by simpa using h2⟩

theorem VR.cells {m : Km} {v : V} {x : Value} (h : VR m v x) : VRs m v.cells x.cells.toList := by
  cases v with
  | agg cs => simp only [VR] at h; obtain ⟨a, rfl, h⟩ := h; exact h
  | slice a l c e =>
    cases a with
    | none => simp only [VR] at h; obtain ⟨rfl, rfl, rfl⟩ := h; simp [V.cells, Value.cells, VRs, VR]
    | some a =>
      have h' := h
      simp only [VR] at h
      obtain ⟨_, _, _, _, _, _, _, _, _, h⟩ := h
      rcases h with ⟨p, _, _, rfl⟩ | rfl <;> (simp only [V.cells, Value.cells, VRs]; exact ⟨h', trivial⟩)
  | ptr a => cases a <;> (have h' := h; simp only [VR] at h; first | (subst h; simp only [V.cells, Value.cells, VRs]; exact ⟨h', trivial⟩) | (obtain ⟨_, _, _, _, _, rfl⟩ := h; simp only [V.cells, Value.cells, VRs]; exact ⟨h', trivial⟩))
  | map a => cases a <;> (have h' := h; simp only [VR] at h; first | (subst h; simp only [V.cells, Value.cells, VRs]; exact ⟨h', trivial⟩) | (obtain ⟨_, _, _, _, _, rfl⟩ := h; simp only [V.cells, Value.cells, VRs]; exact ⟨h', trivial⟩))
  | func f a b => have h' := h; simp only [VR] at h; obtain ⟨_, _, rfl, _⟩ := h; simp only [V.cells, Value.cells, VRs]; exact ⟨h', trivial⟩
  | iface t v => have h' := h; simp only [VR] at h; obtain ⟨_, rfl, _⟩ := h; simp only [V.cells, Value.cells, VRs]; exact ⟨h', trivial⟩
  | any => have h' := h; simp only [VR] at h; obtain ⟨_, rfl⟩ := h; simp only [V.cells, Value.cells, VRs]; exact ⟨h', trivial⟩
  | tuple vs => have h' := h; simp only [VR] at h; obtain ⟨_, rfl, _⟩ := h; simp only [V.cells, Value.cells, VRs]; exact ⟨h', trivial⟩
  | bool b => have h' := h; simp only [VR] at h; subst h; simp only [V.cells, Value.cells, VRs]; exact ⟨h', trivial⟩
  | int k n => have h' := h; simp only [VR] at h; subst h; simp only [V.cells, Value.cells, VRs]; exact ⟨h', trivial⟩
  | str s => have h' := h; simp only [VR] at h; subst h; simp only [V.cells, Value.cells, VRs]; exact ⟨h', trivial⟩
  | nilFunc => have h' := h; simp only [VR] at h; subst h; simp only [V.cells, Value.cells, VRs]; exact ⟨h', trivial⟩
  | nilIface => have h' := h; simp only [VR] at h; subst h; simp only [V.cells, Value.cells, VRs]; exact ⟨h', trivial⟩

/-- Constants. -/
theorem ofScalar_VR {m : Km} {x : Value} {v : V} (h : ofScalar x = some v) : VR m v x := by
  unfold ofScalar at h
  split at h <;> simp only [Option.some.injEq, reduceCtorEq] at h <;> subst h <;> simp [VR]

theorem ofScalars_VRs {m : Km} : ∀ {xs : List Value} {vs : List V}, ofScalars xs = some vs → VRs m vs xs
  | [], vs, h => by simp [ofScalars] at h; subst h; simp [VRs]
  | x :: xs, vs, h => by
    simp only [ofScalars] at h
    split at h
    · rename_i v us hv hu
      simp only [Option.some.injEq] at h; subst h
      simp only [VRs]
      exact ⟨ofScalar_VR hv, ofScalars_VRs hu⟩
    · simp at h

theorem ofConst_VR {m : Km} {x : Value} {v : V} (h : ofConst x = some v) : VR m v x := by
  unfold ofConst at h
  split at h
  · simp only [Option.map_eq_some_iff] at h
    obtain ⟨cs, h1, rfl⟩ := h
    simp only [VR]
    exact ⟨_, rfl, ofScalars_VRs h1⟩
  · simp only [Option.map_eq_some_iff] at h
    obtain ⟨cs, h1, rfl⟩ := h
    simp only [VR]
    exact ⟨_, rfl, ofScalars_VRs h1⟩
  · simp only [Option.map_eq_some_iff] at h
    obtain ⟨y, h1, rfl⟩ := h
    simp only [VR]
    exact ⟨_, rfl, ofScalar_VR h1⟩
  · exact ofScalar_VR h
end Go.S2

namespace Go.S2

def O.ro : O → Bool
  | .cells _ _ ro _ => ro
  | .map _ => false
  | .pm _ => false
  | .aux _ => false

/-- What a map's entries stand for, in their order. -/
def EntR (m : Km) (kv : V × V) (e : MapEntry) : Prop := VR m kv.1 e.key ∧ VR m kv.2 e.val
def EntsR (m : Km) : List (V × V) → List MapEntry → Prop
  | [], [] => True
  | kv :: es, e :: l => EntR m kv e ∧ EntsR m es l
  | _, _ => False
def MapR (m : Km) (es : List (V × V)) (ents : Array MapEntry) (clock : Nat) : Prop :=
  EntsR m es ents.toList ∧ clock = ents.size ∧ ∀ (i : Nat) (e : MapEntry), ents.toList[i]? = some e → e.born = i

theorem EntsR.length {m : Km} : ∀ {es : List (V × V)} {l : List MapEntry}, EntsR m es l → es.length = l.length
  | [], [], _ => rfl
  | _ :: _, _ :: _, h => by simp only [EntsR] at h; simp [EntsR.length h.2]
  | [], _ :: _, h => by simp [EntsR] at h
  | _ :: _, [], h => by simp [EntsR] at h

theorem EntsR.mono {m m' : Km} (hm : m.le m') : ∀ {es : List (V × V)} {l : List MapEntry}, EntsR m es l → EntsR m' es l
  | [], [], _ => by simp [EntsR]
  | _ :: _, _ :: _, h => by simp only [EntsR] at h ⊢; exact ⟨⟨VR.mono hm _ _ h.1.1, VR.mono hm _ _ h.1.2⟩, EntsR.mono hm h.2⟩
  | [], _ :: _, h => by simp [EntsR] at h
  | _ :: _, [], h => by simp [EntsR] at h

/-- The same, in an order that is not known. -/
def PmR (m : Km) (es : List (V × V)) (ents : Array MapEntry) : Prop :=
  distinctK es = true ∧ ∃ l : List MapEntry, l.Perm ents.toList ∧ EntsR m es l

theorem PmR.mono {m m' : Km} (hm : m.le m') {es : List (V × V)} {ents : Array MapEntry} (h : PmR m es ents) : PmR m' es ents := by
  obtain ⟨h0, l, h1, h2⟩ := h
  exact ⟨h0, l, h1, h2.mono hm⟩

/-- A block of the plain heap and its block of the world. -/
def OR' (C : Ctx) (m : Km) (w : World) (c b n z : Nat) : O → Prop
  | .cells cs e ro fz => ∃ arr fr, (∃ e', w.heap[c]? = some (.cells arr e' fr) ∧ (ro = true ∨ fz = 1 ∨ (e' = e ∧ b % z = 0))) ∧ b + n ≤ arr.size ∧ cs.length ≤ n ∧ z = tsize C e ∧
      VRs m cs ((arr.toList.drop b).take cs.length) ∧
      (∀ off, b + (fz - 1) ≤ off → off < b + n → ¬(fr.1 ≤ off ∧ off < fr.2)) ∧ (fz = 0 → fr = (0, 0))
  | .map es => ∃ ents clock, w.heap[c]? = some (.map ents clock) ∧ MapR m es ents clock
  | .pm es => ∃ ents clock, w.heap[c]? = some (.map ents clock) ∧ PmR m es ents
  | .aux k => w.heap[c]? ≠ none ∧ (k = 0 → w.heap[c]? = some (.deferred (some []))) ∧ (k = 1 → ∃ r, w.heap[c]? = some (.loop r) ∧ r.state = .ready ∧ r.pending = none)

/-- A block of the world that the plain heap may write to. -/
def Live (m : Km) (h : H) (c : Nat) : Prop := ∃ i o b n z, h.get i = some o ∧ o.ro = false ∧ m i = some (c, b, n, z)

structure HR (C : Ctx) (N0 : Nat) (m : Km) (h : H) (w : World) : Prop where
  obj : ∀ i o, h.get i = some o → ∃ c b n z, m i = some (c, b, n, z) ∧ OR' C m w c b n z o
  own : ∀ i o c b n z, h.get i = some o → o.ro = false → m i = some (c, b, n, z) → N0 ≤ c ∧ c < w.heap.size
  apart : ∀ i j oi oj c b n z b' n' z', h.get i = some oi → h.get j = some oj → oi.ro = false → m i = some (c, b, n, z) → m j = some (c, b', n', z') → i = j
  fresh : ∀ i, h.next ≤ i → m i = none
  base : N0 ≤ w.heap.size
  glob : ∀ g, g < gMax → ∃ n z, m g = some (g, 0, n, z)
  next : gMax ≤ h.next
  old : ∀ i o c b n z, h.get i = some o → o.ro = true → m i = some (c, b, n, z) → c < N0

/-- What a frame's slot holds. 'L': where the frame's own variables lie. -/
def TVR (m : Km) (L : Nat → Nat) (fs : FS) : TV → Value → Prop
  | .undef, _ => True
  | .v x, y => VR m x y
  | .l s o, y => fs.loc s ≠ none ∧ y = .pointer (some ⟨L s, o, none⟩)
  | .ls s n, y => fs.loc s ≠ none ∧ y = .slice (some ⟨L s, 0, none⟩) n n

/-- A variable of the frame's own and its block. -/
def LR (m : Km) (w : World) (c : Nat) : LO → Prop
  | .cells cs => ∃ arr e, w.heap[c]? = some (.cells arr e (0, 0)) ∧ VRs m cs arr.toList
  | .siter s pos => w.heap[c]? = some (.stringIter ⟨⟨s⟩⟩ pos)
  | .mnil => w.heap[c]? = some (.mapIter none 0 #[] 0)
  | .miter r k seen => ∃ cm b nn z, m r = some (cm, b, nn, z) ∧ w.heap[c]? = some (.mapIter (some cm) k seen.toArray k)

def DR (m : Km) (d : FuncId × List V) (x : Deferred) : Prop :=
  (d.1 ≠ markF ∧ ∃ first cap args : Array Value, x.target = .fn (.func d.1) cap ∧ x.args = first ++ args ∧ VRs m d.2 (first ++ args ++ cap).toList) ∨
  (d.1 = markF ∧ ∃ c, x.target = .collected c ∧ VRs m d.2 [.map (some c)])

theorem DR.mono {m m' : Km} (hm : m.le m') {d : FuncId × List V} {x : Deferred} (h : DR m d x) : DR m' d x := by
  rcases h with ⟨h0, f, c, g, h1, h2, h3⟩ | ⟨h0, c, h1, h2⟩
  · exact .inl ⟨h0, f, c, g, h1, h2, VRs.mono hm _ _ h3⟩
  · exact .inr ⟨h0, c, h1, VRs.mono hm _ _ h2⟩

def DRs (m : Km) : List (FuncId × List V) → List Deferred → Prop
  | [], [] => True
  | d :: ds, x :: xs => DR m d x ∧ DRs m ds xs
  | _, _ => False

structure FR (m : Km) (S : Nat) (fs : FS) (a : Act) (w : World) (h : H) (L : Nat → Nat) : Prop where
  tmp : ∀ t, TVR m L fs (fs.tmp t) (a.tmps.getD t undef)
  loc : ∀ s o, fs.loc s = some o → LR m w (L s) o ∧ S ≤ L s ∧ L s < w.heap.size ∧ ¬ Live m h (L s)
  inj : ∀ s t, fs.loc s ≠ none → fs.loc t ≠ none → L s = L t → s = t
  df : DRs m fs.df a.defers

/-- What has become of the world since the frame was entered. -/
structure Kept (m0 : Km) (h0 : H) (w0 : World) (m : Km) (h : H) (w : World) : Prop where
  os : w.os = w0.os
  tape : w.tape = w0.tape
  output : w.output = w0.output
  size : w0.heap.size ≤ w.heap.size
  le : m0.le m
  old : ∀ c, c < w0.heap.size → ¬ Live m0 h0 c → w.heap[c]? = w0.heap[c]?
  live : ∀ c, c < w0.heap.size → Live m h c → Live m0 h0 c

theorem Kept.refl (m : Km) (h : H) (w : World) : Kept m h w m h w :=
  ⟨rfl, rfl, rfl, Nat.le_refl _, Km.le_refl _, fun _ _ _ => rfl, fun _ _ h => h⟩

theorem Kept.trans {m0 m1 m2 : Km} {h0 h1 h2 : H} {w0 w1 w2 : World} (a : Kept m0 h0 w0 m1 h1 w1) (b : Kept m1 h1 w1 m2 h2 w2) : Kept m0 h0 w0 m2 h2 w2 where
  os := b.os.trans a.os
  tape := b.tape.trans a.tape
  output := b.output.trans a.output
  size := Nat.le_trans a.size b.size
  le := Km.le_trans a.le b.le
  old := fun c hc hl => (b.old c (Nat.lt_of_lt_of_le hc a.size) (fun h => hl (a.live c hc h))).trans (a.old c hc hl)
  live := fun c hc h => a.live c hc (b.live c (Nat.lt_of_lt_of_le hc a.size) h)

/-- All that holds of a frame on its way. -/
structure Inv (C : Ctx) (N0 : Nat) (m0 : Km) (h0 : H) (w0 : World) (m : Km) (fs : FS) (h : H) (a : Act) (w : World) (L : Nat → Nat) : Prop where
  hr : HR C N0 m h w
  fr : FR m w0.heap.size fs a w h L
  kept : Kept m0 h0 w0 m h w
  base0 : N0 ≤ w0.heap.size

/-- A call leaves a frame of the caller's as it was. -/
theorem Inv.call {C : Ctx} {N0 : Nat} {m0 : Km} {h0 : H} {w0 : World} {m : Km} {fs : FS} {h : H} {a : Act} {w : World} {L : Nat → Nat}
    {m' : Km} {h' : H} {w' : World} (I : Inv C N0 m0 h0 w0 m fs h a w L) (hr : HR C N0 m' h' w') (k : Kept m h w m' h' w') : Inv C N0 m0 h0 w0 m' fs h' a w' L where
  hr := hr
  kept := I.kept.trans k
  base0 := I.base0
  fr := {
    tmp := fun t => by
      have := I.fr.tmp t
      generalize fs.tmp t = x at *
      cases x <;> simp only [TVR] at this ⊢
      · exact VR.mono k.le _ _ this
      · exact this
      · exact this
    loc := fun s o ho => by
      obtain ⟨h1, h2, h3, h4⟩ := I.fr.loc s o ho
      refine ⟨?_, h2, Nat.lt_of_lt_of_le h3 k.size, fun hl => h4 (k.live _ h3 hl)⟩
      have hk := k.old _ h3 h4
      cases o with
      | cells cs => obtain ⟨arr, e, h5, h6⟩ := h1; exact ⟨arr, e, by rw [hk]; exact h5, VRs.mono k.le _ _ h6⟩
      | siter s pos => simp only [LR] at h1 ⊢; rw [hk]; exact h1
      | mnil => simp only [LR] at h1 ⊢; rw [hk]; exact h1
      | miter r k' n => obtain ⟨cm, b, nn, z, h5, h6⟩ := h1; exact ⟨cm, b, nn, z, k.le _ _ h5, by rw [hk]; exact h6⟩
    inj := I.fr.inj
    df := by
      have := I.fr.df
      revert this
      generalize fs.df = ds; generalize a.defers = xs
      intro h
      induction ds generalizing xs with
      | nil => cases xs <;> simp [DRs] at h ⊢
      | cons d ds ih =>
        cases xs with
        | nil => simp [DRs] at h
        | cons x xs =>
          simp only [DRs] at h ⊢
          exact ⟨h.1.mono k.le, ih _ h.2⟩ }

/-- A value is put into a slot. -/
theorem FR.put {m : Km} {S : Nat} {fs : FS} {a : Act} {w : World} {h : H} {L : Nat → Nat} (F : FR m S fs a w h L) {d : Option Tmp} {x : TV} {v : Value}
    (hx : TVR m L fs x v) (hd : ∀ t, d = some t → t < a.tmps.size) : FR m S (fs.put d x) (a.put d v) w h L := by
  cases d with
  | none => exact F
  | some d =>
    have hd := hd d rfl
    refine ⟨fun t => ?_, F.loc, F.inj, F.df⟩
    simp only [FS.put, FS.tmp_setT, Act.put]
    by_cases e : d = t
    · subst e
      simp only [if_true]
      have : (a.tmps.setIfInBounds d v).getD d undef = v := by simp [hd]
      rw [this]
      cases x <;> exact hx
    · simp only [if_neg e]
      have : (a.tmps.setIfInBounds d v).getD t undef = a.tmps.getD t undef := by
        simp [Array.getElem?_setIfInBounds_ne e]
      rw [this]
      have := F.tmp t
      generalize fs.tmp t = y at *
      cases y <;> exact this
end Go.S2

namespace Go.S2

/-! ### The tables -/

def kOf : TypeDesc → TK
  | .bool => .bool
  | .int k => .int k
  | .string => .string
  | .pointer e => .pointer e
  | .slice e => .slice e
  | .array n e => .array n e
  | .map k e => .map k e
  | .struct fs => .struct (fs.toList.map fun f => (f.offset, f.type))
  | .interface ms => .iface ms.isEmpty
  | .func .. => .func
  | .tuple _ => .tuple
  | _ => .other

structure TOk (P : Program) (t : TypeId) (ti : TI) : Prop where
  info : ∃ i z, P.info? t = some i ∧ i.size = ti.size ∧ i.bytes = ti.bytes ∧ i.zero = some z ∧
    (if ti.kind.agg then ∃ a, z = .agg a ∧ ofScalars a.toList = some ti.zero else ofScalars [z] = some ti.zero) ∧ ti.zero.length = ti.size
  desc : ∃ d, P.underlying t = some d ∧ kOf d = ti.kind
  sub : ∀ fsx, P.underlying t = some (.struct fsx) → ∀ f ∈ fsx.toList, ∃ i, P.info? f.type = some i

def OpDst (n : Nat) (o : Oper) : Bool := match o.dst with | some d => decide (d < n) | none => true

def dstsOk (n : Nat) : Code → Bool
  | .region _ ops _ => ops.toList.all (OpDst n)
  | .seq a b => dstsOk n a && dstsOk n b
  | .cond c a b => (match c with | .tmp t => decide (t < n) | _ => true) && dstsOk n a && dstsOk n b
  | .block _ b => dstsOk n b
  | .loop b => dstsOk n b
  | .scope b => dstsOk n b
  | _ => true

structure COk (C : Ctx) (P : Program) : Prop where
  T : ∀ t ti, C.T t = some ti → TOk P t ti
  F : ∀ f fn, C.F f = some fn → P.funcs[f]? = some fn ∧ fn.params.size + fn.nfree ≤ fn.ntmps ∧ (∀ c, fn.body = some c → dstsOk fn.ntmps c = true) ∧ (fn.name == "runtime.NumGoroutine") = false
  mixed : P.follows .mixedOrders = true

section
variable {C : Ctx} {P : Program}

theorem tkind_some {t : TypeId} (hk : tkind C t ≠ .other) : ∃ ti, C.T t = some ti ∧ tkind C t = ti.kind := by
  unfold tkind at *
  cases h : C.T t with
  | some ti => exact ⟨ti, rfl, by simp⟩
  | none => simp [h] at hk

theorem COk.under (K : COk C P) {t : TypeId} {ti : TI} (h : C.T t = some ti) : ∃ d, P.underlying t = some d ∧ kOf d = ti.kind := (K.T t ti h).desc

theorem COk.run_sizeOf (K : COk C P) {t : TypeId} {ti : TI} (h : C.T t = some ti) (w : World) : (sizeOf t).run P w = .ok ti.size w := by
  obtain ⟨i, z, h1, h2, _⟩ := (K.T t ti h).info
  simp [sizeOf, typeInfo, h1, h2]

theorem COk.run_bytes (K : COk C P) {t : TypeId} {ti : TI} (h : C.T t = some ti) (w : World) : ∃ i, (typeInfo t).run P w = .ok i w ∧ i.size = ti.size ∧ i.bytes = ti.bytes := by
  obtain ⟨i, z, h1, h2, h3, _⟩ := (K.T t ti h).info
  exact ⟨i, by simp [typeInfo, h1], h2, h3⟩

theorem agg_kOf (d : TypeDesc) : (kOf d).agg = (match d with | .struct _ | .array _ _ => true | _ => false) := by
  cases d <;> rfl

theorem COk.run_isAgg (K : COk C P) {t : TypeId} {ti : TI} (h : C.T t = some ti) (w : World) : (Go.isAgg t).run P w = .ok ti.kind.agg w := by
  obtain ⟨d, h1, h2⟩ := K.under h
  rw [← h2, agg_kOf]
  simp only [Go.isAgg, Sem.run_bind, run_underlying h1, Result.andThen_ok]
  cases d <;> rfl

theorem COk.run_zero (K : COk C P) {t : TypeId} {ti : TI} (h : C.T t = some ti) (w : World) : ∃ z, (zeroValue t).run P w = .ok z w ∧
    (if ti.kind.agg then ∃ a, z = .agg a ∧ ofScalars a.toList = some ti.zero else ofScalars [z] = some ti.zero) := by
  obtain ⟨i, z, h1, h2, h3, h4, h5, h6⟩ := (K.T t ti h).info
  exact ⟨z, by simp [zeroValue, typeInfo, h1, h4], h5⟩

theorem ofScalar_cells {x : Value} {v : V} (h : ofScalar x = some v) : x.cells = #[x] := by
  unfold ofScalar at h
  split at h <;> first | rfl | simp at h

theorem zero_cells {ti : TI} {z : Value} (h : if ti.kind.agg then ∃ a, z = .agg a ∧ ofScalars a.toList = some ti.zero else ofScalars [z] = some ti.zero) (m : Km) :
    VRs m ti.zero z.cells.toList := by
  split at h
  · obtain ⟨a, rfl, h⟩ := h; exact ofScalars_VRs h
  · have h' := h
    simp only [ofScalars] at h'
    split at h'
    · rename_i x xs hx _
      rw [ofScalar_cells hx]; exact ofScalars_VRs h
    · simp at h'

/-! ### Cells -/

theorem cell_at {w : World} {c : Nat} {arr : Array Value} {e : TypeId} {fr : Nat × Nat} (hg : w.heap[c]? = some (.cells arr e fr)) (o j : Nat) :
    w.cell? ((⟨c, o, none⟩ : Addr).add j) = arr[o + j]? := by
  have hadd : (⟨c, o, none⟩ : Addr).add j = ⟨c, o + j, none⟩ := by unfold Addr.add; split <;> simp_all
  rw [hadd]
  simp [World.cell?, hg]

theorem run_loadCells_at {w : World} {c : Nat} {arr : Array Value} {e : TypeId} {fr : Nat × Nat} (hg : w.heap[c]? = some (.cells arr e fr)) (o n : Nat) (hn : o + n ≤ arr.size) :
    (loadCells ⟨c, o, none⟩ n).run P w = .ok ((arr.toList.drop o).take n).toArray w := by
  have hl : ((arr.toList.drop o).take n).length = n := by simp; omega
  have := run_loadCells_list (P := P) w ⟨c, o, none⟩ ((arr.toList.drop o).take n) (fun j v hj => by
    rw [cell_at hg]
    rw [List.getElem?_take] at hj
    split at hj
    · rw [List.getElem?_drop] at hj; simpa using hj
    · cases hj)
  rw [hl] at this
  exact this

/-- A block of the world put in the place of another. -/
def putB (w : World) (c : Nat) (o : Obj) : World := { w with heap := w.heap.setIfInBounds c o }

theorem putB_get {w : World} {c : Nat} {o : Obj} (k : Nat) : (putB w c o).heap[k]? = if c = k then (if c < w.heap.size then some o else none) else w.heap[k]? := by
  simp only [putB]
  rw [Array.getElem?_setIfInBounds]

theorem putB_size {w : World} {c : Nat} {o : Obj} : (putB w c o).heap.size = w.heap.size := by simp [putB]
theorem putB_putB (w : World) (c : Nat) (o o' : Obj) : putB (putB w c o) c o' = putB w c o' := by simp [putB]

theorem putB_self {w : World} {c : Nat} {o : Obj} (h : w.heap[c]? = some o) : putB w c o = w := by
  have : w.heap.setIfInBounds c o = w.heap := by
    apply Array.ext_getElem?
    intro k
    rw [Array.getElem?_setIfInBounds]
    split
    · rename_i e; subst e
      obtain ⟨h1, h2⟩ := Array.getElem?_eq_some_iff.1 h
      simp [h1, h2]
    · rfl
  simp [putB, this]

theorem setCell_putB {w : World} {c o : Nat} {arr : Array Value} {e : TypeId} {fr : Nat × Nat} (v : Value) (hg : w.heap[c]? = some (.cells arr e fr)) :
    w.setCell ⟨c, o, none⟩ v = putB w c (.cells (arr.setIfInBounds o v) e fr) := by
  unfold World.setCell putB
  congr 1
  apply Array.ext_getElem?
  intro k
  rw [Array.getElem?_modify, Array.getElem?_setIfInBounds]
  by_cases h : c = k
  · subst h
    obtain ⟨h1, h2⟩ := Array.getElem?_eq_some_iff.1 hg
    simp [h1, h2]
  · simp [h]

theorem run_storeCells_put (P : Program) (c o : Nat) (e : TypeId) (fr : Nat × Nat) : ∀ (vs : List Value) (i : Nat) (arr : Array Value) (w : World), w.heap[c]? = some (.cells arr e fr) →
    o + i + vs.length ≤ arr.size → (∀ off, o + i ≤ off → off < o + i + vs.length → ¬(fr.1 ≤ off ∧ off < fr.2)) → (∀ v ∈ vs, v.oneCell' = true) →
    (storeCells ⟨c, o, none⟩ vs i).run P w = .ok () (putB w c (.cells (arr.toList.take (o + i) ++ vs ++ arr.toList.drop (o + i + vs.length)).toArray e fr))
  | [], i, arr, w, hg, _, _, _ => by
    simp only [storeCells, List.append_nil, List.length_nil, Nat.add_zero, List.take_append_drop, Array.toArray_toList]
    rw [putB_self hg]; rfl
  | v :: rest, i, arr, w, hg, hl, hf, h1 => by
    have hi : o + i < arr.size := by simp at hl; omega
    have hadd : (⟨c, o, none⟩ : Addr).add i = ⟨c, o + i, none⟩ := by unfold Addr.add; split <;> simp_all
    have hcell : w.cell? ⟨c, o + i, none⟩ = some arr[o + i] := by simp [World.cell?, hg, hi]
    have hfro : w.frozen? ⟨c, o + i, none⟩ = false := by
      have := hf (o + i) (Nat.le_refl _) (by simp)
      obtain ⟨lo, hi'⟩ := fr
      simp only [World.frozen?, hg, Bool.and_eq_false_iff, decide_eq_false_iff_not]
      simp only at this
      omega
    have hst : (store ((⟨c, o, none⟩ : Addr).add i) v).run P w = .ok () (putB w c (.cells (arr.setIfInBounds (o + i) v) e fr)) := by
      rw [hadd, run_store P w _ v _ (h1 v (by simp)), hcell]
      simp [hfro, setCell_putB v hg]
    have hg' : (putB w c (.cells (arr.setIfInBounds (o + i) v) e fr)).heap[c]? = some (.cells (arr.setIfInBounds (o + i) v) e fr) := by
      rw [putB_get]; simp [(Array.getElem?_eq_some_iff.1 hg).1]
    have ih := run_storeCells_put P c o e fr rest (i + 1) (arr.setIfInBounds (o + i) v) _ hg' (by simp at hl ⊢; omega) (fun off h2 h3 => hf off (by omega) (by simp at h3 ⊢; omega)) (fun x hx => h1 x (by simp [hx]))
    simp only [storeCells, Sem.run_bind, hst, Result.andThen_ok, ih, putB_putB]
    congr 4
    have hlen : o + i < arr.toList.length := by simpa using hi
    simp only [Array.toList_setIfInBounds]
    have h2 : (arr.toList.set (o + i) v).take (o + (i + 1)) = arr.toList.take (o + i) ++ [v] := by
      rw [show o + (i + 1) = (o + i) + 1 by omega, List.take_succ_eq_append_getElem (by simpa using hlen)]
      simp [List.take_set_of_le]
    have h3 : (arr.toList.set (o + i) v).drop (o + (i + 1) + rest.length) = arr.toList.drop (o + i + (v :: rest).length) := by
      rw [List.drop_set_of_lt (by omega)]
      congr 1
      simp; omega
    rw [h2, h3]
    simp
end
end Go.S2

namespace Go.S2
section
variable {C : Ctx} {P : Program} {N0 : Nat} {m0 : Km} {h0 : H} {w0 : World} {m : Km} {fs : FS} {h : H} {a : Act} {w : World} {L : Nat → Nat} {S : Nat}

theorem evalO_s (R : HR C N0 m h w) (F : FR m S fs a w h L) (o : Operand) : TVR m L fs (evalO fs o) (a.eval o) := by
  cases o with
  | tmp t => exact F.tmp t
  | const v =>
    simp only [evalO, Act.eval]
    split
    · rename_i x hx; exact ofConst_VR hx
    · trivial
  | global g =>
    simp only [evalO, Act.eval]
    split
    · rename_i hb
      obtain ⟨n, z, hg⟩ := R.glob g (by simpa using hb)
      simp only [TVR, VR]
      exact ⟨g, 0, n, z, hg, rfl⟩
    · trivial
  | func f =>
    simp only [evalO, Act.eval, TVR, VR]
    exact ⟨#[], #[], rfl, by simp [VRs], by simp [VRs]⟩

theorem evalV_s (R : HR C N0 m h w) (F : FR m S fs a w h L) {o : Operand} {x : V} (hx : evalV fs o = some x) : VR m x (a.eval o) := by
  have := evalO_s R F o
  unfold evalV at hx
  split at hx
  · rename_i y hy; simp only [Option.some.injEq] at hx; subst hx; rw [hy] at this; exact this
  · simp at hx

theorem evalVs_s (R : HR C N0 m h w) (F : FR m S fs a w h L) : ∀ {os : List Operand} {xs : List V}, evalVs fs os = some xs → VRs m xs (os.map a.eval)
  | [], xs, h => by simp [evalVs] at h; subst h; simp [VRs]
  | o :: os, xs, h => by
    simp only [evalVs] at h
    split at h
    · rename_i y ys hy hys
      simp only [Option.some.injEq] at h; subst h
      simp only [List.map_cons, VRs]
      exact ⟨evalV_s R F hy, evalVs_s R F hys⟩
    · simp at h

theorem sub_cells {cs r : List V} {l : List Value} {b off n : Nat} (hr : VRs m cs ((l.drop b).take cs.length)) (ht : takeN n (dropN off cs) = some r) :
    VRs m r ((l.drop (b + off)).take n) ∧ (n = 0 ∨ off + n ≤ cs.length) ∧ r.length = n := by
  rw [dropN_eq] at ht
  obtain ⟨h1, h2⟩ := takeN_eq ht
  simp only [List.length_drop] at h2
  subst h1
  refine ⟨?_, by omega, by simp; omega⟩
  by_cases h0 : n = 0
  · subst h0; simp [VRs]
  · have := (hr.drop off).take n
    rw [List.drop_take, List.take_take, List.drop_drop] at this
    rw [show min n (cs.length - off) = n by omega] at this
    exact this

theorem partA_list {t : TypeId} {cs : List V} {off : Nat} {x : V} (hp : partA C t cs off = some x) :
    ∃ ti r, C.T t = some ti ∧ takeN ti.size (dropN off cs) = some r ∧ ((ti.kind.agg = true ∧ x = .agg r) ∨ (ti.kind.agg = false ∧ r = [x] ∧ ti.size = 1)) := by
  unfold partA at hp
  split at hp
  · simp at hp
  · rename_i ti hti
    split at hp
    · simp at hp
    · rename_i r hr
      refine ⟨ti, r, hti, hr, ?_⟩
      split at hp
      · rename_i ha; simp at hp; exact .inl ⟨ha, hp.symm⟩
      · rename_i ha
        have ha : ti.kind.agg = false := by simpa using ha
        split at hp
        · rename_i y
          simp at hp
          obtain ⟨h1, h2⟩ := takeN_eq hr
          have : [y].length = ti.size := by rw [h1]; simp; omega
          exact .inr ⟨ha, by rw [hp], by simpa using this.symm⟩
        · simp at hp

theorem run_loadVar_part (K : COk C P) {t : TypeId} {cs : List V} {off c b : Nat} {x : V} {arr : Array Value} {e : TypeId} {fr : Nat × Nat}
    (hg : w.heap[c]? = some (.cells arr e fr)) (hr : VRs m cs ((arr.toList.drop b).take cs.length)) (hl : b + cs.length ≤ arr.size)
    (hp : partA C t cs off = some x) : ∃ v, (loadVar t ⟨c, b + off, none⟩).run P w = .ok v w ∧ VR m x v := by
  obtain ⟨ti, r, hti, htk, hx⟩ := partA_list hp
  obtain ⟨h1, h2, h3⟩ := sub_cells hr htk
  rcases hx with ⟨ha, rfl⟩ | ⟨ha, rfl, hs⟩
  · by_cases h0 : ti.size = 0
    · refine ⟨.agg #[], ?_, ?_⟩
      · simp [loadVar, K.run_isAgg hti, ha, K.run_sizeOf hti, h0, loadCells, loadCellsFrom]
      · simp only [VR]; exact ⟨#[], rfl, by rw [h0] at h1; simpa using h1⟩
    · have hn : b + off + ti.size ≤ arr.size := by omega
      refine ⟨.agg ((arr.toList.drop (b + off)).take ti.size).toArray, ?_, ?_⟩
      · simp [loadVar, K.run_isAgg hti, ha, K.run_sizeOf hti, run_loadCells_at hg (b + off) ti.size hn]
      · simp only [VR]; exact ⟨_, rfl, by simpa using h1⟩
  · rw [hs] at h1 h2
    have hn : b + off < arr.size := by omega
    refine ⟨arr[b + off], ?_, ?_⟩
    · have hcell : w.cell? ⟨c, b + off, none⟩ = some arr[b + off] := by simp [World.cell?, hg, hn]
      simp [loadVar, K.run_isAgg hti, ha, hcell]
    · have : (arr.toList.drop (b + off)).take 1 = [arr[b + off]] := by
        rw [List.drop_eq_getElem_cons (by simpa using hn)]; simp
      rw [this] at h1
      simp only [VRs] at h1
      exact h1.1

theorem okV_ok {fs fs' : FS} {h h' : H} {o : Option V} {x : TV} (e : okV fs h o = .ok x fs' h') : ∃ y, o = some y ∧ x = .v y ∧ fs' = fs ∧ h' = h := by
  unfold okV at e
  split at e
  · simp only [OR.ok.injEq] at e; obtain ⟨rfl, rfl, rfl⟩ := e; exact ⟨_, rfl, rfl, rfl, rfl⟩
  · simp at e

theorem loadA_s (K : COk C P) (R : HR C N0 m h w) (F : FR m S fs a w h L) {t : TypeId} {ad x : TV} {av : Value} {fs' : FS} {h' : H} (hT : TVR m L fs ad av)
    (e : loadA C t ad fs h = .ok x fs' h') : fs' = fs ∧ h' = h ∧ ∃ y v, x = .v y ∧ (Instr.loadAt t av).run P w = .ok v w ∧ VR m y v := by
  unfold loadA at e
  split at e
  · rename_i s o
    split at e
    · rename_i cs hcs
      obtain ⟨y, hy, rfl, rfl, rfl⟩ := okV_ok e
      obtain ⟨hl, _, _, _⟩ := F.loc _ _ hcs
      obtain ⟨arr, el, hg, hr⟩ := hl
      simp only [TVR] at hT
      obtain ⟨_, rfl⟩ := hT
      have hlen := hr.length
      have hr' : VRs m cs ((arr.toList.drop 0).take cs.length) := by rw [List.drop_zero, hlen, List.take_of_length_le (Nat.le_refl _)]; exact hr
      obtain ⟨v, h1, h2⟩ := run_loadVar_part (P := P) (b := 0) K hg hr' (by simp [hlen]) hy
      exact ⟨rfl, rfl, y, v, rfl, by simpa [Instr.loadAt, Instr.sureAddr] using h1, h2⟩
    · simp at e
  · rename_i i o
    split at e
    · rename_i cs el ro fz hcs
      obtain ⟨y, hy, rfl, rfl, rfl⟩ := okV_ok e
      simp only [TVR, VR] at hT
      obtain ⟨c, b, n, z, hm, rfl⟩ := hT
      obtain ⟨c', b', n', z', hm', arr, fr, ⟨ew, hg, hew⟩, h1, h2, h3, h4, h5, h6⟩ := R.obj _ _ hcs
      rw [hm] at hm'
      simp only [Option.some.injEq, Prod.mk.injEq] at hm'
      obtain ⟨rfl, rfl, rfl, rfl⟩ := hm'
      obtain ⟨v, h7, h8⟩ := run_loadVar_part (P := P) K hg h4 (by omega) hy
      exact ⟨rfl, rfl, y, v, rfl, by simpa [Instr.loadAt, Instr.sureAddr] using h7, h8⟩
    · simp at e
  · simp at e

theorem loadA_only {t : TypeId} {ad : TV} : (∀ f args, loadA C t ad fs h ≠ .call f args) ∧ (∀ v, loadA C t ad fs h ≠ .pan v) := by
  unfold loadA okV
  constructor <;> intros <;> (repeat' split) <;> simp
end
end Go.S2

namespace Go.S2
section
variable {C : Ctx} {P : Program} {N0 : Nat} {m0 : Km} {h0 : H} {w0 : World} {m : Km} {fs : FS} {h : H} {a : Act} {w : World} {L : Nat → Nat} {S : Nat}

/-- What a world holds, but for its heap. -/
structure SameOut (w w' : World) : Prop where
  os : w'.os = w.os
  tape : w'.tape = w.tape
  output : w'.output = w.output

theorem OR'.congr {w w' : World} {c b n z : Nat} {o : O} (hh : w'.heap[c]? = w.heap[c]?) (r : OR' C m w c b n z o) : OR' C m w' c b n z o := by
  cases o with
  | cells cs e ro fz => obtain ⟨arr, fr, ⟨ew, h1, hew⟩, h2⟩ := r; exact ⟨arr, fr, ⟨ew, by rw [hh]; exact h1, hew⟩, h2⟩
  | map es => obtain ⟨ents, clock, h1, h2⟩ := r; exact ⟨ents, clock, by rw [hh]; exact h1, h2⟩
  | pm es => obtain ⟨ents, clock, h1, h2⟩ := r; exact ⟨ents, clock, by rw [hh]; exact h1, h2⟩
  | aux k => simp only [OR'] at r ⊢; rw [hh]; exact r

theorem MapR.mono {m m' : Km} (hm : m.le m') {es : List (V × V)} {ents : Array MapEntry} {clock : Nat} (r : MapR m es ents clock) : MapR m' es ents clock := by
  exact ⟨r.1.mono hm, r.2⟩

theorem OR'.mono {m m' : Km} (hm : m.le m') {w : World} {c b n z : Nat} {o : O} (r : OR' C m w c b n z o) : OR' C m' w c b n z o := by
  cases o with
  | cells cs e ro fz => obtain ⟨arr, fr, h1, h2, h3, h4, h5, h6⟩ := r; exact ⟨arr, fr, h1, h2, h3, h4, VRs.mono hm _ _ h5, h6⟩
  | map es => obtain ⟨ents, clock, h1, h2⟩ := r; exact ⟨ents, clock, h1, h2.mono hm⟩
  | pm es => obtain ⟨ents, clock, h1, h2⟩ := r; exact ⟨ents, clock, h1, h2.mono hm⟩
  | aux k => exact r

theorem LR.congr {w w' : World} {c : Nat} {o : LO} (hh : w'.heap[c]? = w.heap[c]?) (r : LR m w c o) : LR m w' c o := by
  cases o with
  | cells cs => obtain ⟨arr, e, h1, h2⟩ := r; exact ⟨arr, e, by rw [hh]; exact h1, h2⟩
  | siter s pos => simp only [LR] at r ⊢; rw [hh]; exact r
  | mnil => simp only [LR] at r ⊢; rw [hh]; exact r
  | miter r' k n => obtain ⟨cm, b, nn, z, h5, h6⟩ := r; exact ⟨cm, b, nn, z, h5, by rw [hh]; exact h6⟩

theorem LR.mono {m m' : Km} (hm : m.le m') {w : World} {c : Nat} {o : LO} (r : LR m w c o) : LR m' w c o := by
  cases o with
  | cells cs => obtain ⟨arr, e, h1, h2⟩ := r; exact ⟨arr, e, h1, VRs.mono hm _ _ h2⟩
  | siter s pos => exact r
  | mnil => exact r
  | miter r' k n => obtain ⟨cm, b, nn, z, h5, h6⟩ := r; exact ⟨cm, b, nn, z, hm _ _ h5, h6⟩

theorem HR.world {w' : World} (R : HR C N0 m h w) (hsz : w.heap.size ≤ w'.heap.size) (hsame : ∀ i o c b n z, h.get i = some o → m i = some (c, b, n, z) → w'.heap[c]? = w.heap[c]?) : HR C N0 m h w' where
  obj := fun i o ho => by
    obtain ⟨c, b, n, z, hm, r⟩ := R.obj i o ho
    exact ⟨c, b, n, z, hm, r.congr (hsame i o c b n z ho hm)⟩
  own := fun i o c b n z ho hro hm => let ⟨h1, h2⟩ := R.own i o c b n z ho hro hm; ⟨h1, Nat.lt_of_lt_of_le h2 hsz⟩
  apart := R.apart
  fresh := R.fresh
  base := Nat.le_trans R.base hsz
  glob := R.glob
  next := R.next
  old := R.old

theorem HR.not_local (R : HR C N0 m h w) {c : Nat} (hc : N0 ≤ c) (hl : ¬ Live m h c) : ∀ i o c' b n z, h.get i = some o → m i = some (c', b, n, z) → c' ≠ c := by
  intro i o c' b n z ho hm e
  subst e
  cases hro : o.ro with
  | true => have := R.old i o _ b n z ho hro hm; omega
  | false => exact hl ⟨i, o, b, n, z, ho, hro, hm⟩

theorem DRs.mono {m m' : Km} (hm : m.le m') : ∀ {ds : List (FuncId × List V)} {xs : List Deferred}, DRs m ds xs → DRs m' ds xs
  | [], [], _ => trivial
  | d :: ds, x :: xs, hh => by
    simp only [DRs] at hh ⊢
    exact ⟨hh.1.mono hm, DRs.mono hm hh.2⟩
  | [], _ :: _, hh => by simp [DRs] at hh
  | _ :: _, [], hh => by simp [DRs] at hh

theorem TVR.mono {m m' : Km} (hm : m.le m') {x : TV} {v : Value} (r : TVR m L fs x v) : TVR m' L fs x v := by
  cases x <;> simp only [TVR] at r ⊢
  · exact VR.mono hm _ _ r
  · exact r
  · exact r

/-- One of the frame's own variables is written. -/
theorem Inv.setLocal (I : Inv C N0 m0 h0 w0 m fs h a w L) {s : Nat} {o o' : LO} {ob : Obj} (ho : fs.loc s = some o)
    (hr : LR m (putB w (L s) ob) (L s) o') : Inv C N0 m0 h0 w0 m (fs.setL s o') h a (putB w (L s) ob) L := by
  obtain ⟨_, hS, hlt, hnl⟩ := I.fr.loc s o ho
  have hN : N0 ≤ L s := Nat.le_trans I.base0 hS
  exact {
    hr := I.hr.world (by simp [putB_size]) (fun i oo c b n z hi hm => by
      have := I.hr.not_local hN hnl i oo c b n z hi hm
      rw [putB_get, if_neg (Ne.symm this)])
    base0 := I.base0
    kept := ⟨I.kept.os, I.kept.tape, I.kept.output, by rw [putB_size]; exact I.kept.size, I.kept.le, fun c hc hl => by
        rw [putB_get, if_neg (by omega)]; exact I.kept.old c hc hl, I.kept.live⟩
    fr := {
      tmp := fun t => by
        have := I.fr.tmp t
        rw [FS.tmp_setL]
        generalize fs.tmp t = x at *
        cases x <;> simp only [TVR, FS.loc_setL] at this ⊢
        · exact this
        · refine ⟨?_, this.2⟩; split <;> simp [this.1]
        · refine ⟨?_, this.2⟩; split <;> simp [this.1]
      loc := fun t ot hot => by
        rw [FS.loc_setL] at hot
        by_cases e : s = t
        · subst e
          simp only [if_true, Option.some.injEq] at hot; subst hot
          exact ⟨hr, hS, by rw [putB_size]; exact hlt, hnl⟩
        · rw [if_neg e] at hot
          obtain ⟨h1, h2, h3, h4⟩ := I.fr.loc t ot hot
          have hne : L s ≠ L t := fun hL => e (I.fr.inj s t (by rw [ho]; simp) (by rw [hot]; simp) hL)
          exact ⟨h1.congr (by rw [putB_get, if_neg hne]), h2, by rw [putB_size]; exact h3, h4⟩
      inj := fun p q hp hq => by
        rw [FS.loc_setL] at hp hq
        refine I.fr.inj p q ?_ ?_
        · by_cases e : s = p
          · subst e; rw [ho]; simp
          · rwa [if_neg e] at hp
        · by_cases e : s = q
          · subst e; rw [ho]; simp
          · rwa [if_neg e] at hq
      df := I.fr.df } }

/-- A new variable of the frame's own. -/
theorem Inv.newLocal (I : Inv C N0 m0 h0 w0 m fs h a w L) {d : Nat} {o : LO} {ob : Obj} (hd : fs.loc d = none)
    (hr : ∀ w' : World, w'.heap[w.heap.size]? = some ob → LR m w' w.heap.size o) :
    Inv C N0 m0 h0 w0 m (fs.setL d o) h a { w with heap := w.heap.push ob } (fun s => if s = d then w.heap.size else L s) := by
  have hold : ∀ c, c < w.heap.size → (w.heap.push ob)[c]? = w.heap[c]? := fun c hc => by
    rw [Array.getElem?_push]; rw [if_neg (by omega)]
  have hmlt : ∀ i oo c b n z, h.get i = some oo → m i = some (c, b, n, z) → c < w.heap.size := by
    intro i oo c b n z hi hm
    cases hro : oo.ro with
    | true => have := I.hr.old i oo c b n z hi hro hm; have := I.hr.base; omega
    | false => exact (I.hr.own i oo c b n z hi hro hm).2
  exact {
    hr := I.hr.world (by simp) (fun i oo c b n z hi hm => hold c (hmlt i oo c b n z hi hm))
    base0 := I.base0
    kept := ⟨I.kept.os, I.kept.tape, I.kept.output, by have := I.kept.size; simp; omega, I.kept.le, fun c hc hl => by
        rw [hold c (by have := I.kept.size; omega)]; exact I.kept.old c hc hl, I.kept.live⟩
    fr := {
      tmp := fun t => by
        have := I.fr.tmp t
        rw [FS.tmp_setL]
        generalize fs.tmp t = x at *
        cases x with
        | undef => trivial
        | v x => exact this
        | l s o' =>
          simp only [TVR, FS.loc_setL] at this ⊢
          have hsd : s ≠ d := fun e => by subst e; exact this.1 hd
          refine ⟨by rw [if_neg (Ne.symm hsd)]; exact this.1, by rw [if_neg hsd]; exact this.2⟩
        | ls s o' =>
          simp only [TVR, FS.loc_setL] at this ⊢
          have hsd : s ≠ d := fun e => by subst e; exact this.1 hd
          refine ⟨by rw [if_neg (Ne.symm hsd)]; exact this.1, by rw [if_neg hsd]; exact this.2⟩
      loc := fun t ot hot => by
        rw [FS.loc_setL] at hot
        by_cases e : d = t
        · subst e
          simp only [if_true, Option.some.injEq] at hot ⊢; subst hot
          refine ⟨hr _ (by simp), I.kept.size, by simp, ?_⟩
          rintro ⟨i, oo, b, n, z, hi, hro, hm⟩
          have := hmlt i oo _ b n z hi hm
          omega
        · rw [if_neg e] at hot
          obtain ⟨h1, h2, h3, h4⟩ := I.fr.loc t ot hot
          rw [if_neg (Ne.symm e)]
          exact ⟨h1.congr (hold _ h3), h2, by simp; omega, h4⟩
      inj := fun p q hp hq hpq => by
        rw [FS.loc_setL] at hp hq
        by_cases e : p = d
        · by_cases e' : q = d
          · rw [e, e']
          · rw [if_neg (Ne.symm e')] at hq
            simp only [e, if_true, if_neg e'] at hpq
            obtain ⟨oq, hoq⟩ := Option.ne_none_iff_exists'.1 hq
            have := (I.fr.loc q oq hoq).2.2.1
            omega
        · rw [if_neg (Ne.symm e)] at hp
          by_cases e' : q = d
          · simp only [e', if_true, if_neg e] at hpq
            obtain ⟨op, hop⟩ := Option.ne_none_iff_exists'.1 hp
            have := (I.fr.loc p op hop).2.2.1
            omega
          · rw [if_neg (Ne.symm e')] at hq
            simp only [if_neg e, if_neg e'] at hpq
            exact I.fr.inj p q hp hq hpq
      df := I.fr.df } }

/-- A block of the plain heap is written. -/
theorem Inv.setHeap (I : Inv C N0 m0 h0 w0 m fs h a w L) {i : Nat} {o o' : O} {ob : Obj} {c b n z : Nat} (ho : h.get i = some o) (hro : o.ro = false) (hro' : o'.ro = false)
    (hm : m i = some (c, b, n, z)) (hr : OR' C m (putB w c ob) c b n z o') : Inv C N0 m0 h0 w0 m fs (h.set i o') a (putB w c ob) L := by
  have hown := I.hr.own i o c b n z ho hro hm
  have hlive : ∀ k, Live m (h.set i o') k ↔ Live m h k := by
    intro k
    constructor
    · rintro ⟨j, oj, b', n', z', hj, hrj, hmj⟩
      rw [H.get_set] at hj
      by_cases e : i = j
      · subst e; exact ⟨i, o, b', n', z', ho, hro, hmj⟩
      · rw [if_neg e] at hj; exact ⟨j, oj, b', n', z', hj, hrj, hmj⟩
    · rintro ⟨j, oj, b', n', z', hj, hrj, hmj⟩
      by_cases e : i = j
      · subst e; exact ⟨i, o', b', n', z', by rw [H.get_set]; simp, hro', hmj⟩
      · exact ⟨j, oj, b', n', z', by rw [H.get_set, if_neg e]; exact hj, hrj, hmj⟩
  have hne : ∀ j oj c' b' n' z', i ≠ j → h.get j = some oj → m j = some (c', b', n', z') → c ≠ c' := by
    intro j oj c' b' n' z' hij hj hmj e
    subst e
    exact hij (I.hr.apart i j o oj c b n z b' n' z' ho hj hro hm hmj)
  have hLc : ∀ s os, fs.loc s = some os → L s ≠ c := fun s os hs e => (I.fr.loc s os hs).2.2.2 ⟨i, o, b, n, z, ho, hro, by rw [e]; exact hm⟩
  exact {
    hr := {
      obj := fun j oj hj => by
        rw [H.get_set] at hj
        by_cases e : i = j
        · subst e
          simp only [if_true, Option.some.injEq] at hj; subst hj
          exact ⟨c, b, n, z, hm, hr⟩
        · rw [if_neg e] at hj
          obtain ⟨c', b', n', z', hmj, r⟩ := I.hr.obj j oj hj
          exact ⟨c', b', n', z', hmj, r.congr (by rw [putB_get, if_neg (hne j oj c' b' n' z' e hj hmj)])⟩
      own := fun j oj c' b' n' z' hj hrj hmj => by
        rw [putB_size]
        rw [H.get_set] at hj
        by_cases e : i = j
        · subst e; exact I.hr.own i o c' b' n' z' ho hro hmj
        · rw [if_neg e] at hj; exact I.hr.own j oj c' b' n' z' hj hrj hmj
      apart := fun p q op oq c' b1 n1 z1 b2 n2 z2 hp hq hrp hmp hmq => by
        rw [H.get_set] at hp hq
        have hp' : ∃ o1, h.get p = some o1 ∧ o1.ro = false := by
          by_cases e : i = p
          · subst e; exact ⟨o, ho, hro⟩
          · rw [if_neg e] at hp; exact ⟨op, hp, hrp⟩
        have hq' : ∃ o1, h.get q = some o1 := by
          by_cases e : i = q
          · subst e; exact ⟨o, ho⟩
          · rw [if_neg e] at hq; exact ⟨oq, hq⟩
        obtain ⟨o1, h1, h2⟩ := hp'
        obtain ⟨o2, h3⟩ := hq'
        exact I.hr.apart p q o1 o2 c' b1 n1 z1 b2 n2 z2 h1 h3 h2 hmp hmq
      fresh := I.hr.fresh
      base := by rw [putB_size]; exact I.hr.base
      glob := I.hr.glob
      next := I.hr.next
      old := fun j oj c' b' n' z' hj hrj hmj => by
        rw [H.get_set] at hj
        by_cases e : i = j
        · subst e; simp only [if_true, Option.some.injEq] at hj; subst hj; rw [hro'] at hrj; cases hrj
        · rw [if_neg e] at hj; exact I.hr.old j oj c' b' n' z' hj hrj hmj }
    base0 := I.base0
    kept := ⟨I.kept.os, I.kept.tape, I.kept.output, by rw [putB_size]; exact I.kept.size, I.kept.le, fun k hk hl => by
        have : c ≠ k := fun e => hl (I.kept.live k hk ⟨i, o, b, n, z, ho, hro, by rw [← e]; exact hm⟩)
        rw [putB_get, if_neg this]; exact I.kept.old k hk hl, fun k hk hl => I.kept.live k hk ((hlive k).1 hl)⟩
    fr := {
      tmp := I.fr.tmp
      loc := fun s os hs => by
        obtain ⟨h1, h2, h3, h4⟩ := I.fr.loc s os hs
        exact ⟨h1.congr (by rw [putB_get, if_neg (Ne.symm (hLc s os hs))]), h2, by rw [putB_size]; exact h3, fun hl => h4 ((hlive _).1 hl)⟩
      inj := I.fr.inj
      df := I.fr.df } }

def setM (m : Km) (i : Nat) (x : Nat × Nat × Nat × Nat) : Km := fun j => if j = i then some x else m j

theorem setM_le {i : Nat} {x : Nat × Nat × Nat × Nat} (hi : m i = none) : m.le (setM m i x) := by
  intro j y hy
  unfold setM
  by_cases e : j = i
  · subst e; rw [hi] at hy; cases hy
  · rw [if_neg e]; exact hy

/-- A new block of the plain heap. -/
theorem Inv.newHeap (I : Inv C N0 m0 h0 w0 m fs h a w L) {o : O} {ob : Obj} {n z : Nat} (hro : o.ro = false)
    (hr : ∀ w' : World, w'.heap[w.heap.size]? = some ob → OR' C (setM m h.next (w.heap.size, 0, n, z)) w' w.heap.size 0 n z o) :
    Inv C N0 m0 h0 w0 (setM m h.next (w.heap.size, 0, n, z)) fs (h.new o) a { w with heap := w.heap.push ob } L := by
  have hle := setM_le (x := (w.heap.size, 0, n, z)) (I.hr.fresh h.next (Nat.le_refl _))
  have hold : ∀ c, c < w.heap.size → (w.heap.push ob)[c]? = w.heap[c]? := fun c hc => by
    rw [Array.getElem?_push]; rw [if_neg (by omega)]
  have hmlt : ∀ i oo c b n z, h.get i = some oo → m i = some (c, b, n, z) → c < w.heap.size := by
    intro i oo c b n z hi hm
    cases hro : oo.ro with
    | true => have := I.hr.old i oo c b n z hi hro hm; have := I.hr.base; omega
    | false => exact (I.hr.own i oo c b n z hi hro hm).2
  have hnn : h.get h.next = none := by
    cases hh : h.get h.next with
    | none => rfl
    | some oo => obtain ⟨c, b, n, z, hm, _⟩ := I.hr.obj _ _ hh; rw [I.hr.fresh _ (Nat.le_refl _)] at hm; cases hm
  have hmo : ∀ j oj, h.get j = some oj → j ≠ h.next := fun j oj hj e => by subst e; rw [hnn] at hj; cases hj
  have hset : ∀ j x, j ≠ h.next → (setM m h.next (w.heap.size, 0, n, z) j = some x ↔ m j = some x) := fun j x hj => by simp [setM, hj]
  exact {
    hr := {
      obj := fun j oj hj => by
        rw [H.get_new] at hj
        by_cases e : h.next = j
        · subst e
          simp only [if_true, Option.some.injEq] at hj; subst hj
          exact ⟨w.heap.size, 0, n, z, by simp [setM], hr _ (by simp)⟩
        · rw [if_neg e] at hj
          obtain ⟨c', b', n', z', hmj, r⟩ := I.hr.obj j oj hj
          exact ⟨c', b', n', z', hle _ _ hmj, (r.mono hle).congr (hold _ (hmlt j oj c' b' n' z' hj hmj))⟩
      own := fun j oj c' b' n' z' hj hrj hmj => by
        rw [H.get_new] at hj
        by_cases e : h.next = j
        · subst e
          simp [setM] at hmj
          obtain ⟨rfl, _⟩ := hmj
          exact ⟨I.hr.base, by simp⟩
        · rw [if_neg e] at hj
          obtain ⟨h1, h2⟩ := I.hr.own j oj c' b' n' z' hj hrj ((hset j _ (Ne.symm e)).1 hmj)
          exact ⟨h1, by simp; omega⟩
      apart := fun p q op oq c' b1 n1 z1 b2 n2 z2 hp hq hrp hmp hmq => by
        rw [H.get_new] at hp hq
        by_cases e : h.next = p
        · by_cases e' : h.next = q
          · rw [← e, ← e']
          · rw [if_neg e'] at hq
            have h1 := hmlt q oq _ _ _ _ hq ((hset q _ (Ne.symm e')).1 hmq)
            subst e
            simp [setM] at hmp
            omega
        · rw [if_neg e] at hp
          by_cases e' : h.next = q
          · have h1 := hmlt p op _ _ _ _ hp ((hset p _ (Ne.symm e)).1 hmp)
            subst e'
            simp [setM] at hmq
            omega
          · rw [if_neg e'] at hq
            exact I.hr.apart p q op oq c' b1 n1 z1 b2 n2 z2 hp hq hrp ((hset p _ (Ne.symm e)).1 hmp) ((hset q _ (Ne.symm e')).1 hmq)
      fresh := fun j hj => by
        have h1 : h.next + 1 ≤ j := hj
        simp only [setM]
        rw [if_neg (by omega)]
        exact I.hr.fresh j (by omega)
      base := by have := I.hr.base; simp; omega
      glob := fun g hg => by
        obtain ⟨n', z', h1⟩ := I.hr.glob g hg
        exact ⟨n', z', hle _ _ h1⟩
      next := by have := I.hr.next; show gMax ≤ h.next + 1; omega
      old := fun j oj c' b' n' z' hj hrj hmj => by
        rw [H.get_new] at hj
        by_cases e : h.next = j
        · simp only [if_pos e, Option.some.injEq] at hj; subst hj; rw [hro] at hrj; cases hrj
        · rw [if_neg e] at hj; exact I.hr.old j oj c' b' n' z' hj hrj ((hset j _ (Ne.symm e)).1 hmj) }
    base0 := I.base0
    kept := ⟨I.kept.os, I.kept.tape, I.kept.output, by have := I.kept.size; simp; omega, Km.le_trans I.kept.le hle, fun c hc hl => by
        rw [hold c (by have := I.kept.size; omega)]; exact I.kept.old c hc hl, fun k hk hl => by
          obtain ⟨j, oj, b', n', z', hj, hrj, hmj⟩ := hl
          rw [H.get_new] at hj
          by_cases e : h.next = j
          · subst e; simp [setM] at hmj; have := I.kept.size; omega
          · rw [if_neg e] at hj
            exact I.kept.live k hk ⟨j, oj, b', n', z', hj, hrj, (hset j _ (Ne.symm e)).1 hmj⟩⟩
    fr := {
      tmp := fun t => (I.fr.tmp t).mono hle
      loc := fun s os hs => by
        obtain ⟨h1, h2, h3, h4⟩ := I.fr.loc s os hs
        refine ⟨(h1.mono hle).congr (hold _ h3), h2, by simp; omega, ?_⟩
        rintro ⟨j, oj, b', n', z', hj, hrj, hmj⟩
        rw [H.get_new] at hj
        by_cases e : h.next = j
        · subst e; simp [setM] at hmj; omega
        · rw [if_neg e] at hj
          exact h4 ⟨j, oj, b', n', z', hj, hrj, (hset j _ (Ne.symm e)).1 hmj⟩
      inj := I.fr.inj
      df := I.fr.df.mono hle } }
end
end Go.S2

namespace Go.S2
section
variable {C : Ctx} {P : Program} {N0 : Nat} {m0 : Km} {h0 : H} {w0 : World} {m : Km} {fs : FS} {h : H} {a : Act} {w : World} {L : Nat → Nat} {S : Nat}

def NextV (nx : Next) (v : Value) (a a' : Act) : Prop :=
  (nx = .value v ∧ a' = a) ∨ (nx = .skip ∧ v = undef ∧ a' = a) ∨ (∃ d, nx = .defer d ∧ v = undef ∧ a' = { a with defers := d :: a.defers })

/-- What an operation of the plain machine stands for. -/
def OpS (C : Ctx) (P : Program) (N0 : Nat) (m0 : Km) (h0 : H) (w0 : World) (m : Km) (a : Act) (w : World) (sem : Sem Next) : OR → Prop
  | .fail => True
  | .ok x fs' h' => ∃ nx v m' w' L' a', sem.run P w = .ok nx w' ∧ NextV nx v a a' ∧ Inv C N0 m0 h0 w0 m' fs' h' a' w' L' ∧ TVR m' L' fs' x v
  | .call f args => ∃ args' : Array Value, sem.run P w = (callFunc f args').run P w ∧ VRs m args args'.toList
  | .pan v => ∃ pv, sem.run P w = .halt (.panic pv) w ∧ VR m v pv

/-- An operation that yields a value and leaves everything as it is. -/
theorem OpS.val {x : TV} {v : Value} {s : Sem Next} (I : Inv C N0 m0 h0 w0 m fs h a w L) (hs : s.run P w = .ok (.value v) w) (hx : TVR m L fs x v) :
    OpS C P N0 m0 h0 w0 m a w s (.ok x fs h) := ⟨.value v, v, m, w, L, a, hs, .inl ⟨rfl, rfl⟩, I, hx⟩

theorem OpS.okV {o : Option V} {s : Sem Next} (I : Inv C N0 m0 h0 w0 m fs h a w L) (hs : ∀ y, o = some y → ∃ v, s.run P w = .ok (.value v) w ∧ VR m y v) :
    OpS C P N0 m0 h0 w0 m a w s (okV fs h o) := by
  unfold S2.okV
  split
  · obtain ⟨v, h1, h2⟩ := hs _ rfl
    exact OpS.val I h1 h2
  · trivial

theorem OpS.okT {o : Option TV} {s : Sem Next} (I : Inv C N0 m0 h0 w0 m fs h a w L) (hs : ∀ y, o = some y → ∃ v, s.run P w = .ok (.value v) w ∧ TVR m L fs y v) :
    OpS C P N0 m0 h0 w0 m a w s (okT fs h o) := by
  unfold S2.okT
  split
  · obtain ⟨v, h1, h2⟩ := hs _ rfl
    exact OpS.val I h1 h2
  · trivial

theorem run_v {s : Sem Value} {v : Value} {w' : World} (hs : s.run P w = .ok v w') : (do pure (Next.value (← s)) : Sem Next).run P w = .ok (.value v) w' := by
  simp [hs]

theorem mvA_s (I : Inv C N0 m0 h0 w0 m fs h a w L) (x : Operand) : OpS C P N0 m0 h0 w0 m a w (pure (.value (a.eval x))) (mvA x fs h) := by
  unfold mvA
  have := evalO_s I.hr I.fr x
  split
  · trivial
  · exact OpS.val I rfl this

theorem isTrue_s {x : TV} {v : Value} {b : Bool} (hT : TVR m L fs x v) (hb : isTrue x = some b) : v = .bool b := by
  unfold isTrue at hb
  split at hb
  · simp only [Option.some.injEq] at hb; subst hb; simpa [TVR, VR] using hT
  · simp at hb

theorem pickA_s (I : Inv C N0 m0 h0 w0 m fs h a w L) (c x y : Operand) :
    OpS C P N0 m0 h0 w0 m a w (do pure (.value (if ← asBool (a.eval c) then a.eval x else a.eval y))) (pickA c x y fs h) := by
  unfold pickA
  have hc := evalO_s I.hr I.fr c
  split
  · rename_i hb
    have hv := isTrue_s hc hb
    rw [hv]
    have := mvA_s (P := P) I x
    simpa [asBool] using this
  · rename_i hb
    have hv := isTrue_s hc hb
    rw [hv]
    have := mvA_s (P := P) I y
    simpa [asBool] using this
  · trivial

theorem with1_s {x : Operand} {k : V → FS → H → OR} {sem : Value → Sem Next} (I : Inv C N0 m0 h0 w0 m fs h a w L)
    (hk : ∀ y v, VR m y v → OpS C P N0 m0 h0 w0 m a w (sem v) (k y fs h)) : OpS C P N0 m0 h0 w0 m a w (sem (a.eval x)) (with1 x k fs h) := by
  unfold with1
  split
  · rename_i y hy; exact hk _ _ (evalV_s I.hr I.fr hy)
  · trivial

theorem with2_s {x y : Operand} {k : V → V → FS → H → OR} {sem : Value → Value → Sem Next} (I : Inv C N0 m0 h0 w0 m fs h a w L)
    (hk : ∀ p q u v, VR m p u → VR m q v → OpS C P N0 m0 h0 w0 m a w (sem u v) (k p q fs h)) : OpS C P N0 m0 h0 w0 m a w (sem (a.eval x) (a.eval y)) (with2 x y k fs h) := by
  unfold with2
  split
  · rename_i p q hp hq; exact hk _ _ _ _ (evalV_s I.hr I.fr hp) (evalV_s I.hr I.fr hq)
  · trivial

theorem unA_s {op : UnOp} {x y : V} {v : Value} (hv : VR m x v) (hy : unA op x = some y) : ∃ u, (Op.unary op v).run P w = .ok u w ∧ VR m y u := by
  unfold unA at hy
  split at hy <;> simp only [Option.some.injEq, reduceCtorEq] at hy <;> subst hy <;> simp only [VR] at hv <;> subst hv
  · exact ⟨_, rfl, by simp [VR]⟩
  · refine ⟨_, rfl, by simp [VR]⟩
  · exact ⟨_, rfl, by simp [VR]⟩

theorem fieldAddrA_s (K : COk C P) {t : TypeId} {x y : TV} {f : Nat} {v : Value} (hT : TVR m L fs x v) (hy : fieldAddrA C t x f = some y) :
    ∃ u, (Instr.fieldAt t v f).run P w = .ok u w ∧ TVR m L fs y u := by
  unfold fieldAddrA at hy
  split at hy
  · rename_i fields hk
    split at hy
    · rename_i off ft hf
      split at hy
      · simp at hy
      · rename_i hsz
        obtain ⟨ti, h1, h2⟩ := tkind_some (C := C) (t := t) (by rw [hk]; simp)
        obtain ⟨d, h3, h4⟩ := K.under h1
        rw [← h2, hk] at h4
        have hd : ∃ fsx, d = .struct fsx ∧ fsx.toList.map (fun f => (f.offset, f.type)) = fields := by
          cases d <;> simp [kOf] at h4
          exact ⟨_, rfl, h4⟩
        obtain ⟨fsx, rfl, hfs⟩ := hd
        have hft : ∃ tf, C.T ft = some tf ∧ tsize C ft = tf.size := by
          unfold tsize at hsz ⊢
          cases hh : C.T ft with
          | none => simp [hh] at hsz
          | some tf => exact ⟨tf, rfl, rfl⟩
        obtain ⟨tf, h5, h6⟩ := hft
        have hfld : ∃ fl, fsx[f]? = some fl ∧ fl.offset = off ∧ fl.type = ft := by
          have key : ∀ (l : List (Nat × TypeId)) (k : Nat) (z : Nat × TypeId), nth l k = some z → l[k]? = some z := by
            intro l
            induction l with
            | nil => intro k z hz; simp [nth] at hz
            | cons p l ih =>
              intro k z hz
              cases k with
              | zero => simpa [nth] using hz
              | succ k => simpa using ih k z (by simpa [nth] using hz)
          have := key _ _ _ hf
          rw [← hfs, List.getElem?_map, Option.map_eq_some_iff] at this
          obtain ⟨fl, h7, h8⟩ := this
          simp only [Prod.mk.injEq] at h8
          exact ⟨fl, by simpa using h7, h8.1, h8.2⟩
        obtain ⟨fl, h7, h8, h9⟩ := hfld
        have hrun : ∀ p : Addr, p.spot = none → (Instr.fieldAt t (.pointer (some p)) f).run P w = .ok (.pointer (some ⟨p.block, p.off + off, none⟩)) w := by
          intro p hp
          have : (fieldPlace p fl).run P w = .ok (p.add off) w := by
            simp [fieldPlace, h9, K.run_sizeOf h5, h8]
            intro e; rw [h6] at hsz; exact absurd e hsz
          have hadd : p.add off = ⟨p.block, p.off + off, none⟩ := by
            unfold Addr.add; split
            · rename_i e; subst e; cases p; simp_all
            · cases p; simp_all
          simp [Instr.fieldAt, Instr.sureAddr, run_underlying h3, h7, this, hadd]
        cases x with
        | undef => simp at hy
        | ls s n => simp at hy
        | l d o =>
          simp only [Option.some.injEq] at hy; subst hy
          simp only [TVR] at hT ⊢
          obtain ⟨h10, rfl⟩ := hT
          exact ⟨_, hrun _ rfl, h10, rfl⟩
        | v x =>
          cases x <;> first | (simp at hy; done) | skip
          rename_i p
          cases p with
          | none => simp at hy
          | some p =>
            simp only [Option.some.injEq] at hy; subst hy
            simp only [TVR, VR] at hT ⊢
            obtain ⟨c, b, n, z, h10, rfl⟩ := hT
            exact ⟨_, hrun _ rfl, c, b, n, z, h10, by simp [Nat.add_assoc]⟩
    · simp at hy
  · simp at hy
end
end Go.S2

namespace Go.S2
section
variable {C : Ctx} {P : Program} {N0 : Nat} {m0 : Km} {h0 : H} {w0 : World} {m : Km} {fs : FS} {h : H} {a : Act} {w : World} {L : Nat → Nat} {S : Nat}

theorem COk.kind (K : COk C P) {t : TypeId} {k : TK} (hk : tkind C t = k) (hne : k ≠ .other) : ∃ d, P.underlying t = some d ∧ kOf d = k := by
  obtain ⟨ti, h1, h2⟩ := tkind_some (C := C) (t := t) (by rw [hk]; exact hne)
  obtain ⟨d, h3, h4⟩ := K.under h1
  exact ⟨d, h3, by rw [h4, ← h2, hk]⟩

theorem COk.slice (K : COk C P) {t e : TypeId} (hk : tkind C t = .slice e) : P.underlying t = some (.slice e) := by
  obtain ⟨d, h1, h2⟩ := K.kind hk (by simp)
  cases d <;> simp [kOf] at h2; subst h2; exact h1
theorem COk.array (K : COk C P) {t e : TypeId} {n : Nat} (hk : tkind C t = .array n e) : P.underlying t = some (.array n e) := by
  obtain ⟨d, h1, h2⟩ := K.kind hk (by simp)
  cases d <;> simp [kOf] at h2; obtain ⟨rfl, rfl⟩ := h2; exact h1
theorem COk.map (K : COk C P) {t e k : TypeId} (hk : tkind C t = .map k e) : P.underlying t = some (.map k e) := by
  obtain ⟨d, h1, h2⟩ := K.kind hk (by simp)
  cases d <;> simp [kOf] at h2; obtain ⟨rfl, rfl⟩ := h2; exact h1
theorem COk.pointer (K : COk C P) {t e : TypeId} (hk : tkind C t = .pointer e) : P.underlying t = some (.pointer e) := by
  obtain ⟨d, h1, h2⟩ := K.kind hk (by simp)
  cases d <;> simp [kOf] at h2; subst h2; exact h1
theorem COk.string (K : COk C P) {t : TypeId} (hk : tkind C t = .string) : P.underlying t = some .string := by
  obtain ⟨d, h1, h2⟩ := K.kind hk (by simp)
  cases d <;> simp [kOf] at h2; exact h1
theorem COk.bool (K : COk C P) {t : TypeId} (hk : tkind C t = .bool) : P.underlying t = some .bool := by
  obtain ⟨d, h1, h2⟩ := K.kind hk (by simp)
  cases d <;> simp [kOf] at h2; exact h1
theorem COk.int (K : COk C P) {t : TypeId} {k : IntKind} (hk : tkind C t = .int k) : P.underlying t = some (.int k) := by
  obtain ⟨d, h1, h2⟩ := K.kind hk (by simp)
  cases d <;> simp [kOf] at h2; subst h2; exact h1
theorem COk.iface (K : COk C P) {t : TypeId} {e : Bool} (hk : tkind C t = .iface e) : ∃ ms, P.underlying t = some (.interface ms) ∧ ms.isEmpty = e := by
  obtain ⟨d, h1, h2⟩ := K.kind hk (by simp)
  cases d <;> simp [kOf] at h2; exact ⟨_, h1, by simpa using h2⟩
theorem COk.func (K : COk C P) {t : TypeId} (hk : tkind C t = .func) : ∃ ps rs v, P.underlying t = some (.func ps rs v) := by
  obtain ⟨d, h1, h2⟩ := K.kind hk (by simp)
  cases d <;> simp [kOf] at h2; exact ⟨_, _, _, h1⟩
theorem COk.struct (K : COk C P) {t : TypeId} {fields : List (Nat × TypeId)} (hk : tkind C t = .struct fields) : ∃ fsx, P.underlying t = some (.struct fsx) ∧ fsx.toList.map (fun f => (f.offset, f.type)) = fields := by
  obtain ⟨d, h1, h2⟩ := K.kind hk (by simp)
  cases d <;> simp [kOf] at h2; exact ⟨_, h1, h2⟩

theorem nth_get {α : Type} : ∀ {l : List α} {k : Nat} {z : α}, nth l k = some z → l[k]? = some z
  | [], k, z, h => by simp [nth] at h
  | p :: l, 0, z, h => by simpa [nth] using h
  | p :: l, k + 1, z, h => by simpa using nth_get (l := l) (k := k) (by simpa [nth] using h)

theorem field_at {fsx : Array Field} {fields : List (Nat × TypeId)} {f off : Nat} {ft : TypeId} (hfs : fsx.toList.map (fun f => (f.offset, f.type)) = fields) (hf : nth fields f = some (off, ft)) :
    ∃ fl, fsx[f]? = some fl ∧ fl.offset = off ∧ fl.type = ft := by
  have := nth_get hf
  rw [← hfs, List.getElem?_map, Option.map_eq_some_iff] at this
  obtain ⟨fl, h7, h8⟩ := this
  simp only [Prod.mk.injEq] at h8
  exact ⟨fl, by simpa using h7, h8.1, h8.2⟩

theorem tsize_some {t : TypeId} (hs : tsize C t ≠ 0) : ∃ ti, C.T t = some ti ∧ tsize C t = ti.size := by
  unfold tsize at hs ⊢
  cases hh : C.T t with
  | none => simp [hh] at hs
  | some tf => exact ⟨tf, rfl, rfl⟩

/-- The part of a value. -/
theorem part_s (K : COk C P) {t : TypeId} {cs : List V} {arr : Array Value} {off : Nat} {x : V} (hr : VRs m cs arr.toList) (hp : partA C t cs off = some x) :
    ∃ v, (Go.part t arr off).run P w = .ok v w ∧ VR m x v := by
  obtain ⟨ti, r, hti, htk, hx⟩ := partA_list hp
  have hlen := hr.length
  have hr' : VRs m cs ((arr.toList.drop 0).take cs.length) := by rw [List.drop_zero, hlen, List.take_of_length_le (Nat.le_refl _)]; exact hr
  obtain ⟨h1, h2, h3⟩ := sub_cells hr' htk
  rw [Nat.zero_add] at h1
  have hl : arr.toList.length = arr.size := by simp
  rcases hx with ⟨ha, rfl⟩ | ⟨ha, rfl, hs⟩
  · refine ⟨.agg (arr.extract off (off + ti.size)), ?_, ?_⟩
    · simp [Go.part, K.run_isAgg hti, ha, K.run_sizeOf hti]
    · simp only [VR]
      refine ⟨_, rfl, ?_⟩
      have : (arr.extract off (off + ti.size)).toList = (arr.toList.drop off).take ti.size := by
        simp [Array.toList_extract]
      rw [this]; exact h1
  · rw [hs] at h1 h2
    have hn : off < arr.size := by omega
    refine ⟨arr[off], ?_, ?_⟩
    · simp [Go.part, K.run_isAgg hti, ha, hn]
    · have : (arr.toList.drop off).take 1 = [arr[off]] := by
        rw [List.drop_eq_getElem_cons (by simpa using hn)]; simp
      rw [this] at h1
      simp only [VRs] at h1
      exact h1.1

theorem fieldA_s (K : COk C P) {t : TypeId} {x y : V} {f : Nat} {v : Value} (hv : VR m x v) (hy : fieldA C t x f = some y) :
    ∃ u, (Instr.field t v f).run P w = .ok u w ∧ VR m y u := by
  unfold fieldA at hy
  split at hy
  · rename_i fields cs hk
    split at hy
    · rename_i off ft hf
      obtain ⟨fsx, h1, h2⟩ := K.struct hk
      obtain ⟨fl, h3, h4, h5⟩ := field_at h2 hf
      simp only [VR] at hv
      obtain ⟨arr, rfl, hr⟩ := hv
      obtain ⟨u, h6, h7⟩ := part_s (P := P) (w := w) K hr hy
      refine ⟨u, ?_, h7⟩
      simp [Instr.field, run_underlying h1, h3, asAgg, h4, h5, h6]
    · simp at hy
  · simp at hy

theorem addr_add (c b o k : Nat) : (⟨c, b + o, none⟩ : Addr).add k = ⟨c, b + (o + k), none⟩ := by
  unfold Addr.add; split <;> simp_all [Nat.add_assoc]

theorem addr_add' (c o k : Nat) : (⟨c, o, none⟩ : Addr).add k = ⟨c, o + k, none⟩ := by
  unfold Addr.add; split <;> simp_all

theorem indexAddrA_s (K : COk C P) {t : TypeId} {x y : TV} {i : V} {v u : Value} (hT : TVR m L fs x v) (hi : VR m i u) (hy : indexAddrA C t x i = some y) :
    ∃ r, (Instr.indexAt t v u).run P w = .ok r w ∧ TVR m L fs y r := by
  unfold indexAddrA at hy
  split at hy
  · rename_i k n
    simp only [VR] at hi; subst hi
    split at hy
    · rename_i e hk
      split at hy
      · rename_i te b o len cap ex hte
        split at hy
        · rename_i hb
          simp only [Option.some.injEq] at hy; subst hy
          simp only [TVR, VR] at hT
          obtain ⟨c, bb, nn, z, cap', hm, hc1, hc2, hc3, hx⟩ := hT
          have hx : v = .slice (some ⟨c, bb + o, none⟩) len cap' := by
            rcases hx with ⟨p, h1, h2, _⟩ | h1
            · omega
            · exact h1
          subst hx
          have hs := K.slice hk
          refine ⟨.pointer (some ⟨c, bb + (o + n.toNat * te.size), none⟩), ?_, ?_⟩
          · simp [Instr.indexAt, asIntOf, run_underlying hs, hb.1, hb.2, K.run_sizeOf hte, addr_add]
          · simp only [TVR, VR]; exact ⟨c, bb, nn, z, hm, rfl⟩
        · simp at hy
      · simp at hy
    · rename_i len e hk
      have hs := K.array hk
      split at hy
      · rename_i te b o hte
        split at hy
        · rename_i hb
          simp only [Option.some.injEq] at hy; subst hy
          simp only [TVR, VR] at hT
          obtain ⟨c, bb, nn, z, hm, rfl⟩ := hT
          refine ⟨.pointer (some ⟨c, bb + (o + n.toNat * te.size), none⟩), ?_, ?_⟩
          · simp [Instr.indexAt, asIntOf, run_underlying hs, hb.1, hb.2, K.run_sizeOf hte, addr_add, Instr.sureAddr]
          · simp only [TVR, VR]; exact ⟨c, bb, nn, z, hm, rfl⟩
        · simp at hy
      · rename_i te d o hte
        split at hy
        · rename_i hb
          simp only [Option.some.injEq] at hy; subst hy
          simp only [TVR] at hT
          obtain ⟨h1, rfl⟩ := hT
          refine ⟨.pointer (some ⟨L d, o + n.toNat * te.size, none⟩), ?_, ?_⟩
          · simp [Instr.indexAt, asIntOf, run_underlying hs, hb.1, hb.2, K.run_sizeOf hte, addr_add', Instr.sureAddr]
          · simp only [TVR]; exact ⟨h1, trivial⟩
        · simp at hy
      · simp at hy
    · simp at hy
  · simp at hy

theorem indexA_s (K : COk C P) {t : TypeId} {x y i : V} {v u : Value} (hv : VR m x v) (hi : VR m i u) (hy : indexA C t x i = some y) :
    ∃ r, (Instr.index t v u).run P w = .ok r w ∧ VR m y r := by
  unfold indexA at hy
  split at hy
  · rename_i k n
    simp only [VR] at hi; subst hi
    split at hy
    · rename_i len e cs hk
      have hs := K.array hk
      split at hy
      · rename_i te hte
        split at hy
        · rename_i hb
          simp only [VR] at hv
          obtain ⟨arr, rfl, hr⟩ := hv
          obtain ⟨r, h1, h2⟩ := part_s (P := P) (w := w) K hr hy
          refine ⟨r, ?_, h2⟩
          simp [Instr.index, asIntOf, run_underlying hs, hb.1, hb.2, K.run_sizeOf hte, h1]
        · simp at hy
      · simp at hy
    · rename_i s hk
      have hs := K.string hk
      split at hy
      · rename_i hb
        split at hy
        · rename_i b hn
          simp only [Option.some.injEq] at hy; subst hy
          simp only [VR] at hv; subst hv
          refine ⟨.int .u8 b.toNat, ?_, by simp [VR]⟩
          have hg := nth_get hn
          obtain ⟨hlt, hget⟩ := List.getElem?_eq_some_iff.1 hg
          have : (⟨⟨s⟩⟩ : ByteArray)[n.toNat]? = some b := by
            have hsz : n.toNat < (⟨⟨s⟩⟩ : ByteArray).size := hlt
            rw [getElem?_pos (⟨⟨s⟩⟩ : ByteArray) n.toNat hsz]
            exact congrArg some hget
          simp [Instr.index, asIntOf, run_underlying hs, hb, this]
        · simp at hy
      · simp at hy
    · simp at hy
  · simp at hy

theorem extractA_s (I : Inv C N0 m0 h0 w0 m fs h a w L) {i : Nat} {x : V} {v : Value} (hv : VR m x v) :
    OpS C P N0 m0 h0 w0 m a w (do pure (Next.value (← Instr.extract v i))) (extractA i x fs h) := by
  unfold extractA
  split
  · rename_i vs
    refine OpS.okV I fun y hy => ?_
    simp only [VR] at hv
    obtain ⟨arr, rfl, hr⟩ := hv
    obtain ⟨u, h1, h2⟩ := hr.nth hy
    have h1 : arr[i]? = some u := by simpa using h1
    refine ⟨u, ?_, h2⟩
    simp [Instr.extract, h1]
  · trivial

theorem zeroA_s (K : COk C P) {t : TypeId} {x : V} (hx : zeroA C t = some x) : ∃ v, (zeroValue t).run P w = .ok v w ∧ VR m x v := by
  unfold zeroA at hx
  split at hx
  · simp at hx
  · rename_i ti hti
    obtain ⟨z, h1, h2⟩ := K.run_zero hti w
    refine ⟨z, h1, ?_⟩
    split at hx
    · rename_i ha
      simp only [Option.some.injEq] at hx; subst hx
      rw [if_pos ha] at h2
      obtain ⟨arr, rfl, h3⟩ := h2
      simp only [VR]; exact ⟨arr, rfl, ofScalars_VRs h3⟩
    · rename_i ha
      rw [if_neg ha] at h2
      split at hx
      · rename_i y hz
        simp only [Option.some.injEq] at hx; subst hx
        have := ofScalars_VRs (m := m) h2
        rw [hz] at this
        simp only [VRs] at this
        exact this.1
      · simp at hx

theorem assertA_s (K : COk C P) {x y : V} {xt t : TypeId} {ok : Bool} {v : Value} (hv : VR m x v) (hy : assertA C x t ok = some y) :
    ∃ u, (Instr.typeAssert v xt t ok).run P w = .ok u w ∧ VR m y u := by
  unfold assertA at hy
  split at hy
  · simp at hy
  · rename_i ti hti
    split at hy
    · simp at hy
    · rename_i hif
      obtain ⟨d, h3, h4⟩ := K.under hti
      have hd : ∀ ms, d ≠ .interface ms := fun ms e => by
        subst e; rw [← h4] at hif; simp [kOf, isIface] at hif
      split at hy
      · simp only [VR] at hv; subst hv
        split at hy
        · rename_i hok
          subst hok
          simp only [Option.map_eq_some_iff] at hy
          obtain ⟨z, hz, rfl⟩ := hy
          obtain ⟨u, h1, h2⟩ := zeroA_s (P := P) (m := m) (w := w) K hz
          refine ⟨.tuple #[u, .bool false], ?_, by simp only [VR]; exact ⟨_, rfl, by simp [VRs, VR, h2]⟩⟩
          unfold Instr.typeAssert
          simp only [Sem.run_bind, run_underlying h3, Result.andThen_ok]
          cases d <;> simp_all
        · simp at hy
      · rename_i u' y'
        simp only [VR] at hv
        obtain ⟨v', rfl, hv'⟩ := hv
        split at hy
        · rename_i hut
          subst hut
          split at hy
          · rename_i hok; subst hok
            simp only [Option.some.injEq] at hy; subst hy
            refine ⟨.tuple #[v', .bool true], ?_, by simp only [VR]; exact ⟨_, rfl, by simp [VRs, VR, hv']⟩⟩
            unfold Instr.typeAssert
            simp only [Sem.run_bind, run_underlying h3, Result.andThen_ok]
            cases d <;> simp_all
          · rename_i hok
            simp only [Option.some.injEq] at hy; subst hy
            refine ⟨v', ?_, hv'⟩
            unfold Instr.typeAssert
            simp only [Sem.run_bind, run_underlying h3, Result.andThen_ok]
            cases d <;> simp_all
        · rename_i hut
          split at hy
          · rename_i hok; subst hok
            simp only [Option.map_eq_some_iff] at hy
            obtain ⟨z, hz, rfl⟩ := hy
            obtain ⟨u, h1, h2⟩ := zeroA_s (P := P) (m := m) (w := w) K hz
            refine ⟨.tuple #[u, .bool false], ?_, by simp only [VR]; exact ⟨_, rfl, by simp [VRs, VR, h2]⟩⟩
            unfold Instr.typeAssert
            simp only [Sem.run_bind, run_underlying h3, Result.andThen_ok]
            cases d <;> simp_all
          · simp at hy
      · simp at hy
end
end Go.S2

namespace Go.S2
section
variable {C : Ctx} {P : Program} {N0 : Nat} {m0 : Km} {h0 : H} {w0 : World} {m : Km} {fs : FS} {h : H} {a : Act} {w : World} {L : Nat → Nat} {S : Nat}

theorem VR.int_mk {k : IntKind} {n : Int} : VR m (.int k n) (.int k n) := by simp [VR]
theorem VR.bool_mk {b : Bool} : VR m (.bool b) (.bool b) := by simp [VR]
theorem VR.str_mk {s : List UInt8} : VR m (.str s) (.string ⟨⟨s⟩⟩) := by simp [VR]

theorem intBin_s {op : BinOp} {k : IntKind} {p q : Int} {y : V} (hne : ¬(op = .shl ∨ op = .shr)) (hy : intBin op k p q = some y) (t : TypeId) :
    ∃ u, (binOp op t (.int k p) (.int k q)).run P w = .ok u w ∧ VR m y u := by
  cases op <;> simp only [intBin, Option.some.injEq, reduceCtorEq] at hy
  case quo =>
    split at hy
    · simp at hy
    · rename_i h0; simp only [Option.some.injEq] at hy; subst hy
      refine ⟨_, ?_, VR.int_mk⟩; simp [binOp, Op.intDiv, h0]
  case rem =>
    split at hy
    · simp at hy
    · rename_i h0; simp only [Option.some.injEq] at hy; subst hy
      refine ⟨_, ?_, VR.int_mk⟩; simp [binOp, Op.intDiv, h0]
  all_goals (subst hy; first | (refine ⟨_, ?_, VR.int_mk⟩; simp [binOp, Op.intArith, Op.intBits]; done) | (refine ⟨_, ?_, VR.bool_mk⟩; simp [binOp, Op.intCmp]; done))

theorem shiftA_s {op : BinOp} {k k' : IntKind} {p q : Int} {y : V} (hop : op = .shl ∨ op = .shr) (hy : shiftA op k p q = some y) (t : TypeId) :
    ∃ u, (binOp op t (.int k p) (.int k' q)).run P w = .ok u w ∧ VR m y u := by
  unfold shiftA at hy
  split at hy
  · simp at hy
  · rename_i h0
    rcases hop with rfl | rfl <;> simp only [Option.some.injEq] at hy <;> subst hy
    · exact ⟨.int k (k.wrap (p * 2 ^ (min q.toNat k.bits))), by simp [binOp, Op.shift, h0], by simp [VR]⟩
    · exact ⟨.int k (p.fdiv (2 ^ (min q.toNat k.bits))), by simp [binOp, Op.shift, h0], by simp [VR]⟩

theorem ba_append (p q : List UInt8) : (⟨⟨p⟩⟩ : ByteArray) ++ ⟨⟨q⟩⟩ = ⟨⟨p ++ q⟩⟩ := by
  apply ByteArray.ext
  rw [ByteArray.data_append]
  apply Array.ext'
  simp

theorem strBin_s {op : BinOp} {p q : List UInt8} {y : V} (hy : strBin op p q = some y) (t : TypeId) :
    ∃ u, (binOp op t (.string ⟨⟨p⟩⟩) (.string ⟨⟨q⟩⟩)).run P w = .ok u w ∧ VR m y u := by
  have e1 : (⟨⟨p⟩⟩ : ByteArray).toList = p := by rw [Go.ByteArray.toList_eq]
  have e2 : (⟨⟨q⟩⟩ : ByteArray).toList = q := by rw [Go.ByteArray.toList_eq]
  cases op <;> simp only [strBin, Option.some.injEq, reduceCtorEq] at hy
  case add =>
    split at hy
    · rename_i hl
      simp only [Option.some.injEq] at hy; subst hy
      refine ⟨.string ⟨⟨p ++ q⟩⟩, ?_, by simp [VR]⟩
      have h1 : (⟨⟨p⟩⟩ : ByteArray).size = p.length := rfl
      have h2 : (⟨⟨q⟩⟩ : ByteArray).size = q.length := rfl
      have hb : ¬ (((⟨⟨p⟩⟩ : ByteArray).size + (⟨⟨q⟩⟩ : ByteArray).size : Nat) : Int) > IntKind.i64.max := by
        rw [h1, h2]
        have : IntKind.i64.max = 9223372036854775807 := by decide
        rw [this]; omega
      simp only [binOp, Op.stringOp]
      rw [if_neg hb, ba_append]; rfl
    · simp at hy
  all_goals (subst hy; refine ⟨_, ?_, VR.bool_mk⟩; simp only [binOp, Op.stringOp, e1, e2]; rfl)

theorem cells_unfrozen {w : World} {c : Nat} {arr : Array Value} {e : TypeId} {fr : Nat × Nat} (hg : w.heap[c]? = some (.cells arr e fr)) (hf : ∀ off, ¬(fr.1 ≤ off ∧ off < fr.2)) (o : Nat) (sp : Option Nat) :
    w.frozen? ⟨c, o, sp⟩ = false := by
  obtain ⟨lo, hi⟩ := fr
  have := hf o
  simp only [World.frozen?, hg, Bool.and_eq_false_iff, decide_eq_false_iff_not]
  simp only at this
  omega

theorem run_sameAddr_two {w : World} {c c' : Nat} {arr arr' : Array Value} {e e' : TypeId} {fr fr' : Nat × Nat} (hc : c ≠ c') (hg : w.heap[c]? = some (.cells arr e fr)) (hf : ∀ off, ¬(fr.1 ≤ off ∧ off < fr.2))
    (hg' : w.heap[c']? = some (.cells arr' e' fr')) (hf' : ∀ off, ¬(fr'.1 ≤ off ∧ off < fr'.2)) (o o' : Nat) :
    (sameAddr ⟨c, o, none⟩ ⟨c', o', none⟩).run P w = .ok false w := by
  have h1 : w.shape? c = some (e, arr.size) := by simp [World.shape?, hg]
  have h2 : w.shape? c' = some (e', arr'.size) := by simp [World.shape?, hg']
  have h3 := fun off sp => cells_unfrozen hg hf off sp
  have h4 := fun off sp => cells_unfrozen hg' hf' off sp
  simp [sameAddr, hc, h3, h4, noView, viewAt, h1, h2, mayBeOne, stringish]

theorem eqlA_s (K : COk C P) (R : HR C N0 m h w) {t : TypeId} {x y : V} {u v : Value} {b : Bool} (hx : VR m x u) (hy : VR m y v) (e : eqlA C t h x y = some b) (dp : Nat) :
    (Op.equalIn (dp + 1) t u v).run P w = .ok b w := by
  unfold eqlA at e
  split at e
  · rename_i hk
    have hs := K.bool hk
    split at e
    · simp only [Option.some.injEq] at e; subst e
      simp only [VR] at hx hy; subst hx hy
      simp [Op.equalIn, run_underlying hs]
    · simp at e
  · rename_i el hk
    have hs := K.pointer hk
    split at e
    · rename_i q
      simp only [Option.some.injEq] at e; subst e
      simp only [VR] at hx; subst hx
      cases q with
      | none => simp only [VR] at hy; subst hy; simp [Op.equalIn, run_underlying hs]
      | some q => simp only [VR] at hy; obtain ⟨_, _, _, _, _, rfl⟩ := hy; simp [Op.equalIn, run_underlying hs]
    · simp only [Option.some.injEq] at e; subst e
      simp only [VR] at hx hy; subst hy
      obtain ⟨_, _, _, _, _, rfl⟩ := hx; simp [Op.equalIn, run_underlying hs]
    · rename_i i o j p
      split at e
      · rename_i te hte
        split at e
        · simp at e
        · rename_i hsz
          simp only [VR] at hx hy
          obtain ⟨c, b1, n1, z1, hm1, rfl⟩ := hx
          obtain ⟨c', b2, n2, z2, hm2, rfl⟩ := hy
          have key : ∀ r : Bool, (sameAddr ⟨c, b1 + o, none⟩ ⟨c', b2 + p, none⟩).run P w = .ok r w → (Op.equalIn (dp + 1) t (.pointer (some ⟨c, b1 + o, none⟩)) (.pointer (some ⟨c', b2 + p, none⟩))).run P w = .ok r w := by
            intro r hr
            simp [Op.equalIn, run_underlying hs, K.run_sizeOf hte, hsz, hr]
          split at e
          · rename_i hij
            subst hij
            rw [hm1] at hm2
            simp only [Option.some.injEq, Prod.mk.injEq] at hm2
            obtain ⟨rfl, rfl, rfl, rfl⟩ := hm2
            simp only [Option.some.injEq] at e; subst e
            refine key _ ?_
            simp only [sameAddr, beq_self_eq_true, if_true, Sem.run_pure]
            congr 1
            rw [Bool.eq_iff_iff]
            simp
          · rename_i hij
            split at e
            · rename_i htw
              simp only [Option.some.injEq] at e; subst e
              refine key _ ?_
              unfold twoA at htw
              split at htw
              · rename_i cs1 e1 r1 cs2 e2 r2 hgi hgj
                obtain ⟨ca, ba, na, za, hma, arr1, fr1, ⟨_, hh1, _⟩, _, _, _, _, _, hf1⟩ := R.obj _ _ hgi
                obtain ⟨cb, bb, nb, zb, hmb, arr2, fr2, ⟨_, hh2, _⟩, _, _, _, _, _, hf2⟩ := R.obj _ _ hgj
                rw [hm1] at hma
                rw [hm2] at hmb
                simp only [Option.some.injEq, Prod.mk.injEq] at hma hmb
                obtain ⟨rfl, rfl, rfl, rfl⟩ := hma
                obtain ⟨rfl, rfl, rfl, rfl⟩ := hmb
                have hne : c ≠ c' := by
                  intro ec; subst ec
                  cases r1 with
                  | false => exact hij (R.apart i j _ _ _ _ _ _ _ _ _ hgi hgj rfl hm1 hm2)
                  | true =>
                    cases r2 with
                    | false => exact hij (R.apart j i _ _ _ _ _ _ _ _ _ hgj hgi rfl hm2 hm1).symm
                    | true => simp at htw
                exact run_sameAddr_two hne hh1 (fun off => by rw [hf1 rfl]; simp) hh2 (fun off => by rw [hf2 rfl]; simp) _ _
              · simp at htw
            · simp at e
      · simp at e
    · simp at e
  · rename_i em hk
    obtain ⟨ms, hs, _⟩ := K.iface hk
    split at e
    · simp only [Option.some.injEq] at e; subst e
      simp only [VR] at hx hy; subst hx; obtain ⟨_, rfl, _⟩ := hy
      simp [Op.equalIn, run_underlying hs]
    · simp only [Option.some.injEq] at e; subst e
      simp only [VR] at hx hy; subst hy; obtain ⟨_, rfl, _⟩ := hx
      simp [Op.equalIn, run_underlying hs]
    · simp at e
  · rename_i el hk
    have hs := K.slice hk
    split at e
    · rename_i q _ _ _
      simp only [Option.some.injEq] at e; subst e
      simp only [VR] at hx; obtain ⟨_, _, rfl⟩ := hx
      cases q with
      | none => simp only [VR] at hy; obtain ⟨_, _, rfl⟩ := hy; simp [Op.equalIn, run_underlying hs]
      | some q => simp only [VR] at hy; obtain ⟨_, _, _, _, _, _, _, _, _, hy⟩ := hy; rcases hy with ⟨_, _, _, rfl⟩ | rfl <;> simp [Op.equalIn, run_underlying hs]
    · simp only [Option.some.injEq] at e; subst e
      simp only [VR] at hx hy; obtain ⟨_, _, rfl⟩ := hy
      obtain ⟨_, _, _, _, _, _, _, _, _, hx⟩ := hx; rcases hx with ⟨_, _, _, rfl⟩ | rfl <;> simp [Op.equalIn, run_underlying hs]
    · simp at e
  · rename_i k el hk
    have hs := K.map hk
    split at e
    · rename_i q
      simp only [Option.some.injEq] at e; subst e
      simp only [VR] at hx; subst hx
      cases q with
      | none => simp only [VR] at hy; subst hy; simp [Op.equalIn, run_underlying hs]
      | some q => simp only [VR] at hy; obtain ⟨_, _, _, _, _, rfl⟩ := hy; simp [Op.equalIn, run_underlying hs]
    · simp only [Option.some.injEq] at e; subst e
      simp only [VR] at hx hy; subst hy
      obtain ⟨_, _, _, _, _, rfl⟩ := hx; simp [Op.equalIn, run_underlying hs]
    · simp at e
  · rename_i hk
    obtain ⟨ps, rs, vv, hs⟩ := K.func hk
    split at e
    · simp only [Option.some.injEq] at e; subst e
      simp only [VR] at hx hy; subst hx hy
      simp [Op.equalIn, run_underlying hs]
    · simp only [Option.some.injEq] at e; subst e
      simp only [VR] at hx hy; subst hx; obtain ⟨_, _, rfl, _⟩ := hy
      simp [Op.equalIn, run_underlying hs]
    · simp only [Option.some.injEq] at e; subst e
      simp only [VR] at hx hy; subst hy; obtain ⟨_, _, rfl, _⟩ := hx
      simp [Op.equalIn, run_underlying hs]
    · simp at e
  · simp at e
end
end Go.S2

namespace Go.S2
section
variable {C : Ctx} {P : Program} {N0 : Nat} {m0 : Km} {h0 : H} {w0 : World} {m : Km} {fs : FS} {h : H} {a : Act} {w : World} {L : Nat → Nat} {S : Nat}

theorem VR.not_agg {x : V} {u : Value} (hx : VR m x u) : (∀ cs, x ≠ .agg cs) → (∀ b, u ≠ .agg b) := by
  intro hne b hu
  subst hu
  cases x with
  | agg cs => exact hne cs rfl
  | ptr q => cases q <;> simp [VR] at hx
  | slice q _ _ _ => cases q <;> simp [VR] at hx
  | map q => cases q <;> simp [VR] at hx
  | _ => simp [VR] at hx

theorem run_eqGuard_other {op : BinOp} {t : TypeId} {x y : Operand} {u v : Value} (h1 : ¬(u = .nilIface ∧ v = .nilIface)) (h2 : ∀ b, u ≠ .agg b) :
    (eqGuard op t x y u v).run P w = .ok () w := by
  cases op <;> first
    | rfl
    | (simp only [eqGuard, Bool.not_true, Bool.false_eq_true, if_false]
       split
       · exact absurd ⟨rfl, rfl⟩ h1
       · exact absurd rfl (h2 _)
       · rfl)

theorem binOp_eql_other {t : TypeId} {u v : Value} (h1 : ∀ k n k' n', ¬(u = .int k n ∧ v = .int k' n')) (h2 : ∀ p q, ¬(u = .string p ∧ v = .string q))
    (h3 : ∀ k n k' n', ¬(u = .float k n ∧ v = .float k' n')) (h4 : ∀ k n j k' n' j', ¬(u = .complex k n j ∧ v = .complex k' n' j')) :
    binOp .eql t u v = (do pure (.bool (← Op.equal t u v))) ∧ binOp .neq t u v = (do pure (.bool (!(← Op.equal t u v)))) := by
  cases u <;> cases v <;> first
    | (exact ⟨rfl, rfl⟩)
    | (exact absurd ⟨rfl, rfl⟩ (h1 _ _ _ _))
    | (exact absurd ⟨rfl, rfl⟩ (h2 _ _))
    | (exact absurd ⟨rfl, rfl⟩ (h3 _ _ _ _))
    | (exact absurd ⟨rfl, rfl⟩ (h4 _ _ _ _ _ _))

theorem eqlA_shape {t : TypeId} {x y : V} {b : Bool} (e : eqlA C t h x y = some b) :
    (∀ cs, x ≠ .agg cs) ∧ (∀ k n, x ≠ .int k n) ∧ (∀ s, x ≠ .str s) := by
  unfold eqlA at e
  refine ⟨?_, ?_, ?_⟩ <;> intros <;> intro hx <;> subst hx <;> (repeat' split at e) <;> simp_all

theorem VR.shape_int {x : V} {k : IntKind} {n : Int} (hx : VR m x (.int k n)) : x = .int k n := by
  cases x with
  | int k' n' => simp [VR] at hx; simp [hx]
  | ptr q => cases q <;> simp [VR] at hx
  | slice q _ _ _ => cases q <;> simp [VR] at hx
  | map q => cases q <;> simp [VR] at hx
  | _ => simp [VR] at hx
theorem VR.shape_str {x : V} {s : ByteArray} (hx : VR m x (.string s)) : ∃ l, x = .str l := by
  cases x with
  | str l => exact ⟨l, rfl⟩
  | ptr q => cases q <;> simp [VR] at hx
  | slice q _ _ _ => cases q <;> simp [VR] at hx
  | map q => cases q <;> simp [VR] at hx
  | _ => simp [VR] at hx
theorem VR.shape_float {x : V} {k : FloatKind} {n : Nat} (hx : VR m x (.float k n)) : False := by
  cases x with
  | ptr q => cases q <;> simp [VR] at hx
  | slice q _ _ _ => cases q <;> simp [VR] at hx
  | map q => cases q <;> simp [VR] at hx
  | _ => simp [VR] at hx
theorem VR.shape_complex {x : V} {k : FloatKind} {n j : Nat} (hx : VR m x (.complex k n j)) : False := by
  cases x with
  | ptr q => cases q <;> simp [VR] at hx
  | slice q _ _ _ => cases q <;> simp [VR] at hx
  | map q => cases q <;> simp [VR] at hx
  | _ => simp [VR] at hx

theorem binA_s (K : COk C P) (R : HR C N0 m h w) {op : BinOp} {t : TypeId} {xo yo : Operand} {x y r : V} {u v : Value} (hx : VR m x u) (hy : VR m y v)
    (e : binA C op t xo yo h x y = some r) : ∃ z, (do eqGuard op t xo yo u v; binOp op t u v : Sem Value).run P w = .ok z w ∧ VR m r z := by
  unfold binA at e
  split at e
  · -- numbers
    simp only [VR] at hx hy; subst hx hy
    have hg : ∀ k p k' q, (eqGuard op t xo yo (.int k p) (.int k' q)).run P w = .ok () w := fun k p k' q => run_eqGuard_other (by simp) (by simp)
    simp only [Sem.run_bind, hg, Result.andThen_ok]
    split at e
    · rename_i hop; exact shiftA_s hop e t
    · rename_i hop
      split at e
      · rename_i hk; subst hk; exact intBin_s hop e t
      · simp at e
  · simp only [VR] at hx hy; subst hx hy
    rename_i p q
    have hg : (eqGuard op t xo yo (.string ⟨⟨p⟩⟩) (.string ⟨⟨q⟩⟩)).run P w = .ok () w := run_eqGuard_other (by simp) (by simp)
    simp only [Sem.run_bind, hg, Result.andThen_ok]
    exact strBin_s e t
  · -- nil against nil
    simp only [VR] at hx hy; subst hx hy
    split at e
    · rename_i em hk
      obtain ⟨ms, hs, hem⟩ := K.iface hk
      split at e
      · rename_i hc
        have hg : (eqGuard op t xo yo .nilIface .nilIface).run P w = .ok () w := by
          have hcc : (match xo with | .const _ => true | _ => false) = isConstO xo := by cases xo <;> rfl
          have hcd : (match yo with | .const _ => true | _ => false) = isConstO yo := by cases yo <;> rfl
          have main : (if (isConstO xo || isConstO yo) = true then (pure () : Sem Unit) else do
              if (← Op.eqGuardIn Op.maxDepth t .nilIface .nilIface) = true then unsupported (.noEntry "binop/eql: two nil values of an interface type with methods, neither of them the literal nil")).run P w = .ok () w := by
            split
            · rfl
            · rename_i hco
              have hem' : em = true := by
                simp only [Bool.or_eq_true, Bool.or_assoc] at hc hco
                rcases hc with h1 | h1
                · exact h1
                · exact absurd h1 hco
              have : (Op.eqGuardIn Op.maxDepth t .nilIface .nilIface).run P w = .ok false w := by
                unfold Op.maxDepth
                show (Op.eqGuardIn (9999 + 1) t .nilIface .nilIface).run P w = .ok false w
                unfold Op.eqGuardIn
                simp only [Sem.run_bind, run_underlying hs, Result.andThen_ok]
                rw [hem, hem']; rfl
              simp [this]
          cases op <;> first
            | rfl
            | (simp only [eqGuard, Bool.not_true, Bool.false_eq_true, if_false, hcc, hcd]; exact main)
        have hq : (Op.equal t .nilIface .nilIface).run P w = .ok true w := by
          unfold Op.equal Op.maxDepth
          show (Op.equalIn (9999 + 1) t .nilIface .nilIface).run P w = .ok true w
          unfold Op.equalIn
          simp only [Sem.run_bind, run_underlying hs, Result.andThen_ok]; rfl
        split at e
        · simp only [Option.some.injEq] at e; subst e
          refine ⟨_, ?_, VR.bool_mk⟩
          simp [hg, binOp, hq]
        · simp only [Option.some.injEq] at e; subst e
          refine ⟨_, ?_, VR.bool_mk⟩
          simp [hg, binOp, hq]
        · simp at e
      · simp at e
    · simp at e
  · rename_i hne1 hne2 hne3
    have fin : ∀ b, eqlA C t h x y = some b → (∀ b', u ≠ .agg b') ∧ (¬(u = .nilIface ∧ v = .nilIface)) ∧ (Op.equal t u v).run P w = .ok b w ∧
        binOp .eql t u v = (do pure (.bool (← Op.equal t u v))) ∧ binOp .neq t u v = (do pure (.bool (!(← Op.equal t u v)))) := by
      intro b hb
      obtain ⟨s1, s2, s3⟩ := eqlA_shape hb
      refine ⟨hx.not_agg s1, ?_, eqlA_s K R hx hy hb 9999, ?_⟩
      · rintro ⟨rfl, rfl⟩
        have h1 : x = .nilIface := by
          cases x with
          | nilIface => rfl
          | ptr q => cases q <;> simp [VR] at hx
          | slice q _ _ _ => cases q <;> simp [VR] at hx
          | map q => cases q <;> simp [VR] at hx
          | _ => simp [VR] at hx
        have h2 : y = .nilIface := by
          cases y with
          | nilIface => rfl
          | ptr q => cases q <;> simp [VR] at hy
          | slice q _ _ _ => cases q <;> simp [VR] at hy
          | map q => cases q <;> simp [VR] at hy
          | _ => simp [VR] at hy
        exact hne3 h1 h2
      · refine binOp_eql_other ?_ ?_ ?_ ?_
        · rintro k n k' n' ⟨rfl, rfl⟩; exact s2 _ _ hx.shape_int
        · rintro p q ⟨rfl, rfl⟩; obtain ⟨l, hl⟩ := hx.shape_str; exact s3 _ hl
        · rintro k n k' n' ⟨rfl, rfl⟩; exact hx.shape_float
        · rintro k n j k' n' j' ⟨rfl, rfl⟩; exact hx.shape_complex
    split at e
    · simp only [Option.map_eq_some_iff] at e
      obtain ⟨b, hb, rfl⟩ := e
      obtain ⟨f1, f2, f3, f4, f5⟩ := fin b hb
      refine ⟨_, ?_, VR.bool_mk⟩
      simp [run_eqGuard_other f2 f1, f4, f3]
    · simp only [Option.map_eq_some_iff] at e
      obtain ⟨b, hb, rfl⟩ := e
      obtain ⟨f1, f2, f3, f4, f5⟩ := fin b hb
      refine ⟨_, ?_, VR.bool_mk⟩
      simp [run_eqGuard_other f2 f1, f5, f3]
    · simp at e
end
end Go.S2

namespace Go.S2
section
variable {C : Ctx} {P : Program} {N0 : Nat} {m0 : Km} {h0 : H} {w0 : World} {m : Km} {fs : FS} {h : H} {a : Act} {w : World} {L : Nat → Nat} {S : Nat}

theorem VR.oneCell {x : V} {u : Value} (hx : VR m x u) (h1 : x.one = true) : u.oneCell' = true := by
  cases x with
  | ptr q => cases q <;> simp only [VR] at hx <;> first | (subst hx; rfl) | (obtain ⟨_, _, _, _, _, rfl⟩ := hx; rfl)
  | slice q _ _ _ => cases q <;> simp only [VR] at hx <;> first | (obtain ⟨_, _, rfl⟩ := hx; rfl) | (obtain ⟨_, _, _, _, _, _, _, _, _, hx⟩ := hx; rcases hx with ⟨_, _, _, rfl⟩ | rfl <;> rfl)
  | map q => cases q <;> simp only [VR] at hx <;> first | (subst hx; rfl) | (obtain ⟨_, _, _, _, _, rfl⟩ := hx; rfl)
  | func f p q => simp only [VR] at hx; obtain ⟨_, _, rfl, _⟩ := hx; rfl
  | iface t v => simp only [VR] at hx; obtain ⟨_, rfl, _⟩ := hx; rfl
  | agg cs => simp [V.one] at h1
  | tuple cs => simp [V.one] at h1
  | bool b => simp only [VR] at hx; subst hx; rfl
  | int k n => simp only [VR] at hx; subst hx; rfl
  | str s => simp only [VR] at hx; subst hx; rfl
  | nilFunc => simp only [VR] at hx; subst hx; rfl
  | any => simp only [VR] at hx; obtain ⟨_, rfl⟩ := hx; rfl
  | nilIface => simp only [VR] at hx; subst hx; rfl

theorem putCells_s : ∀ {cs vs cs' : List V} {off : Nat} {l xs : List Value}, putCells cs off vs = some cs' → VRs m cs l → VRs m vs xs →
    VRs m cs' (l.take off ++ xs ++ l.drop (off + xs.length)) ∧ (vs = [] ∨ off + vs.length ≤ cs.length) ∧ cs'.length = cs.length ∧ ∀ x ∈ xs, x.oneCell' = true
  | cs, [], cs', off, l, xs, hp, hl, hx => by
    have hxs : xs = [] := by cases xs <;> simp [VRs] at hx; rfl
    subst hxs
    have : cs' = cs := by cases cs <;> simp [putCells] at hp <;> first | exact hp.symm | exact hp
    subst this
    exact ⟨by simpa using hl, .inl rfl, rfl, by simp⟩
  | [], v :: vs, cs', off, l, xs, hp, hl, hx => by simp [putCells] at hp
  | c :: cs, v :: vs, cs', 0, l, xs, hp, hl, hx => by
    simp only [putCells] at hp
    split at hp
    · rename_i r h1 hr
      simp only [Option.some.injEq] at hp; subst hp
      cases l with
      | nil => simp [VRs] at hl
      | cons y l =>
        cases xs with
        | nil => simp [VRs] at hx
        | cons x xs =>
          simp only [VRs] at hl hx
          obtain ⟨g1, g2, g3, g4⟩ := putCells_s (off := 0) hr hl.2 hx.2
          refine ⟨?_, ?_, by simp [g3], ?_⟩
          · simp only [List.take_zero, List.nil_append, List.length_cons, List.cons_append, Nat.zero_add, List.drop_succ_cons, VRs] at g1 ⊢
            exact ⟨hx.1, g1⟩
          · right
            rcases g2 with rfl | g2
            · simp
            · simp; omega
          · intro z hz
            rcases List.mem_cons.1 hz with rfl | hz
            · exact hx.1.oneCell h1
            · exact g4 z hz
    · simp at hp
  | c :: cs, v :: vs, cs', n + 1, l, xs, hp, hl, hx => by
    simp only [putCells] at hp
    split at hp
    · rename_i r hr
      simp only [Option.some.injEq] at hp; subst hp
      cases l with
      | nil => simp [VRs] at hl
      | cons y l =>
        simp only [VRs] at hl
        obtain ⟨g1, g2, g3, g4⟩ := putCells_s (off := n) hr hl.2 hx
        refine ⟨?_, ?_, by simp [g3], g4⟩
        · rw [show n + 1 + xs.length = (n + xs.length) + 1 by omega]
          simp only [List.take_succ_cons, List.cons_append, List.drop_succ_cons, VRs] at g1 ⊢
          exact ⟨hl.1, g1⟩
        · right
          rcases g2 with g2 | g2
          · simp at g2
          · simp at g2 ⊢; omega
    · simp at hp

theorem list_put {α : Type} (A xs : List α) (b o n : Nat) (h1 : o + xs.length ≤ n) (h2 : b + n ≤ A.length) :
    ((A.take (b + o) ++ xs ++ A.drop (b + o + xs.length)).drop b).take n = (((A.drop b).take n).take o ++ xs ++ ((A.drop b).take n).drop (o + xs.length)) := by
  apply List.ext_getElem?
  intro i
  simp only [List.getElem?_take, List.getElem?_drop, List.getElem?_append, List.length_take, List.length_append, List.length_drop]
  by_cases hi : i < n
  · by_cases h3 : i < o
    · have e1 : b + i < min (b + o) A.length + xs.length := by omega
      have e2 : b + i < min (b + o) A.length := by omega
      have e3 : i < min o (min n (A.length - b)) + xs.length := by omega
      have e4 : i < min o (min n (A.length - b)) := by omega
      have e5 : b + i < b + o := by omega
      simp [hi, h3, e1, e2, e3, e4, e5]
    · by_cases h4 : i < o + xs.length
      · have e1 : b + i < min (b + o) A.length + xs.length := by omega
        have e2 : ¬ b + i < min (b + o) A.length := by omega
        have e3 : i < min o (min n (A.length - b)) + xs.length := by omega
        have e4 : ¬ i < min o (min n (A.length - b)) := by omega
        simp only [hi, e1, e2, e3, e4, if_true, if_false]
        congr 1; omega
      · have e1 : ¬ b + i < min (b + o) A.length + xs.length := by omega
        have e3 : ¬ i < min o (min n (A.length - b)) + xs.length := by omega
        simp only [hi, e1, e3, if_true, if_false]
        have e5 : o + xs.length + (i - (min o (min n (A.length - b)) + xs.length)) < n := by omega
        simp only [e5, if_true]
        congr 1; omega
  · simp only [hi, if_false]
    have e3 : ¬ i < min o (min n (A.length - b)) + xs.length := by omega
    have e5 : ¬ o + xs.length + (i - (min o (min n (A.length - b)) + xs.length)) < n := by omega
    simp only [e3, e5, if_false]

theorem cells_size_of {x : V} {u : Value} (hx : VR m x u) : u.cells.size = x.cells.length := by
  have := hx.cells.length
  simpa using this.symm

theorem tsize_pos {t : TypeId} {n : Nat} (hn : n = tsize C t) (h0 : n ≠ 0) : ∃ ti, C.T t = some ti ∧ ti.size = n := by
  obtain ⟨ti, h1, h2⟩ := tsize_some (C := C) (t := t) (by omega)
  exact ⟨ti, h1, by omega⟩

/-- A store. -/
theorem storeA_s (K : COk C P) (I : Inv C N0 m0 h0 w0 m fs h a w L) {t : TypeId} {ad y : TV} {x : V} {av xv : Value} {fs' : FS} {h' : H} (hT : TVR m L fs ad av) (hx : VR m x xv)
    (e : storeA C t ad x fs h = .ok y fs' h') : ∃ w', (Instr.storeAt t av xv).run P w = .ok () w' ∧ Inv C N0 m0 h0 w0 m fs' h' a w' L ∧ y = .undef := by
  unfold storeA at e
  split at e
  · simp at e
  · rename_i hsz
    have hl0 : x.cells.length ≠ 0 := fun h0 => hsz (.inr h0)
    have hne : x.cells ≠ [] := fun h0 => hl0 (by simp [h0])
    have hsz : x.cells.length = tsize C t := Classical.byContradiction fun h0 => hsz (.inl h0)
    obtain ⟨ti, hti, htis⟩ := tsize_pos hsz hl0
    have hcs := cells_size_of hx
    split at e
    · rename_i s o
      split at e
      · rename_i cs hcs'
        split at e
        · rename_i cs' hput
          simp only [OR.ok.injEq] at e
          obtain ⟨rfl, rfl, rfl⟩ := e
          obtain ⟨hl, _, _, _⟩ := I.fr.loc _ _ hcs'
          obtain ⟨arr, el, hg, hr⟩ := hl
          simp only [TVR] at hT
          obtain ⟨_, rfl⟩ := hT
          obtain ⟨g1, g2, g3, g4⟩ := putCells_s hput hr hx.cells
          have hlen := hr.length
          have hfit : o + xv.cells.toList.length ≤ arr.size := by
            have e1 : arr.toList.length = arr.size := by simp
            have e2 : xv.cells.toList.length = xv.cells.size := by simp
            rcases g2 with g2 | g2
            · exact absurd g2 hne
            · omega
          have hst := run_storeCells_put P (L s) o el (0, 0) xv.cells.toList 0 arr w hg (by omega) (by simp) g4
          refine ⟨_, ?_, I.setLocal (o' := .cells cs') (ob := .cells (arr.toList.take (o + 0) ++ xv.cells.toList ++ arr.toList.drop (o + 0 + xv.cells.toList.length)).toArray el (0, 0)) hcs' ?_, rfl⟩
          · simp only [Instr.storeAt, Instr.sureAddr, storeVar, Sem.run_bind, Sem.run_pure, Result.andThen_ok, K.run_sizeOf hti]
            rw [if_neg (by omega)]
            exact hst
          · refine ⟨(arr.toList.take (o + 0) ++ xv.cells.toList ++ arr.toList.drop (o + 0 + xv.cells.toList.length)).toArray, el, ?_, ?_⟩
            · rw [putB_get]; simp [(Array.getElem?_eq_some_iff.1 hg).1]
            · simpa using g1
        · simp at e
      · simp at e
    · rename_i i o
      split at e
      · rename_i cs el fz hcs'
        split at e
        · rename_i hfz
          split at e
          · rename_i cs' hput
            simp only [OR.ok.injEq] at e
            obtain ⟨rfl, rfl, rfl⟩ := e
            simp only [TVR, VR] at hT
            obtain ⟨c, b, n, z, hm, rfl⟩ := hT
            obtain ⟨c', b', n', z', hm', arr, fr, ⟨ew, hg, hew⟩, q1, q2, q3, q4, q5, q6⟩ := I.hr.obj _ _ hcs'
            rw [hm] at hm'
            simp only [Option.some.injEq, Prod.mk.injEq] at hm'
            obtain ⟨rfl, rfl, rfl, rfl⟩ := hm'
            obtain ⟨g1, g2, g3, g4⟩ := putCells_s hput q4 hx.cells
            have e2 : xv.cells.toList.length = xv.cells.size := by simp
            have hfit : o + xv.cells.toList.length ≤ cs.length := by
              rcases g2 with g2 | g2
              · exact absurd g2 hne
              · omega
            have hst := run_storeCells_put P c (b + o) ew fr xv.cells.toList 0 arr w hg (by omega) (fun off h1 h2 => q5 off (by omega) (by omega)) g4
            refine ⟨_, ?_, I.setHeap (o := .cells cs el false fz) (o' := .cells cs' el false fz) (ob := .cells (arr.toList.take (b + o + 0) ++ xv.cells.toList ++ arr.toList.drop (b + o + 0 + xv.cells.toList.length)).toArray ew fr) hcs' rfl rfl hm ?_, rfl⟩
            · simp only [Instr.storeAt, Instr.sureAddr, storeVar, Sem.run_bind, Sem.run_pure, Result.andThen_ok, K.run_sizeOf hti]
              rw [if_neg (by omega)]
              exact hst
            · refine ⟨(arr.toList.take (b + o + 0) ++ xv.cells.toList ++ arr.toList.drop (b + o + 0 + xv.cells.toList.length)).toArray, fr, ?_, ?_, by omega, q3, ?_, q5, q6⟩
              · exact ⟨ew, by rw [putB_get]; simp [(Array.getElem?_eq_some_iff.1 hg).1], hew⟩
              · simp; omega
              · rw [g3]
                have hl := list_put arr.toList xv.cells.toList b o cs.length hfit (by simp; omega)
                simp only [Nat.add_zero]
                rw [hl]
                exact g1
          · simp at e
        · simp at e
      · simp at e
    · simp at e
end
end Go.S2

namespace Go.S2
section
variable {C : Ctx} {P : Program} {N0 : Nat} {m0 : Km} {h0 : H} {w0 : World} {m : Km} {fs : FS} {h : H} {a : Act} {w : World} {L : Nat → Nat} {S : Nat}

/-- The world with one block more. -/
def pushB (w : World) (o : Obj) : World := { w with heap := w.heap.push o }

theorem run_newRow (e : TypeId) (arr : Array Value) (w : World) : (newRow e arr).run P w = .ok ⟨w.heap.size, 0, none⟩ (pushB w (.cells arr e)) := by
  simp [newRow, pushB]

theorem pushB_get (w : World) (o : Obj) : (pushB w o).heap[w.heap.size]? = some o := by
  show (w.heap.push o)[w.heap.size]? = some o
  exact Array.getElem?_push_size

theorem OR'_new {w' : World} {c : Nat} {cs : List V} {arr : Array Value} {e : TypeId} {fz : Nat} (hg : w'.heap[c]? = some (.cells arr e (0, 0))) (hr : VRs m cs ((arr.toList).take cs.length)) (hl : cs.length ≤ arr.size) :
    OR' C m w' c 0 arr.size (tsize C e) (.cells cs e false fz) :=
  ⟨arr, (0, 0), ⟨e, hg, .inr (.inr ⟨rfl, Nat.zero_mod _⟩)⟩, by omega, hl, rfl, by simpa using hr, fun off _ _ => by simp, fun _ => rfl⟩

theorem VRs.take_all {cs : List V} {l : List Value} (hr : VRs m cs l) : VRs m cs (l.take cs.length) := by
  rw [hr.length, List.take_of_length_le (Nat.le_refl _)]; exact hr

/-- A new row of cells on the plain heap. -/
theorem Inv.newCells (I : Inv C N0 m0 h0 w0 m fs h a w L) {cs : List V} {arr : Array Value} {e : TypeId} {fz : Nat} (hr : VRs m cs ((arr.toList).take cs.length)) (hl : cs.length ≤ arr.size) :
    Inv C N0 m0 h0 w0 (setM m h.next (w.heap.size, 0, arr.size, tsize C e)) fs (h.new (.cells cs e false fz)) a (pushB w (.cells arr e)) L :=
  I.newHeap (o := .cells cs e false fz) (ob := .cells arr e) rfl (fun _ hw' => OR'_new hw' (VRs.mono (setM_le (I.hr.fresh _ (Nat.le_refl _))) _ _ hr) hl)

theorem setM_self {i : Nat} {x : Nat × Nat × Nat × Nat} : setM m i x i = some x := by simp [setM]

theorem newA_s (I : Inv C N0 m0 h0 w0 m fs h a w L) {hp : Bool} {d : Option Tmp} {el : TypeId} {cs : List V} {arr : Array Value} {x : TV} {fs' : FS} {h' : H} (hr : VRs m cs arr.toList)
    (e : newA hp d el cs fs h = .ok x fs' h') : ∃ m' L', Inv C N0 m0 h0 w0 m' fs' h' a (pushB w (.cells arr el)) L' ∧ TVR m' L' fs' x (.pointer (some ⟨w.heap.size, 0, none⟩)) := by
  unfold newA at e
  split at e
  · simp only [OR.ok.injEq] at e
    obtain ⟨rfl, rfl, rfl⟩ := e
    refine ⟨_, L, I.newCells (e := el) (fz := 0) hr.take_all (by have := hr.length; simp at this; omega), ?_⟩
    simp only [TVR, VR]
    exact ⟨w.heap.size, 0, arr.size, tsize C el, setM_self, by simp⟩
  · split at e
    · rename_i d
      split at e
      · rename_i hd
        simp only [OR.ok.injEq] at e
        obtain ⟨rfl, rfl, rfl⟩ := e
        refine ⟨m, _, I.newLocal (d := d) (o := .cells cs) (ob := .cells arr el) hd (fun w' hw' => ⟨arr, el, hw', hr⟩), ?_⟩
        simp [TVR, FS.loc_setL]
      · simp at e
    · simp at e

theorem newA_only {hp : Bool} {d : Option Tmp} {el : TypeId} {cs : List V} : (∀ f args, newA hp d el cs fs h ≠ .call f args) ∧ (∀ v, newA hp d el cs fs h ≠ .pan v) := by
  unfold newA
  constructor <;> intros <;> (repeat' split) <;> simp

theorem storeA_only {t : TypeId} {ad : TV} {x : V} : (∀ f args, storeA C t ad x fs h ≠ .call f args) ∧ (∀ v, storeA C t ad x fs h ≠ .pan v) := by
  unfold storeA
  constructor <;> intros <;> (repeat' split) <;> simp

theorem allocA_s (K : COk C P) (I : Inv C N0 m0 h0 w0 m fs h a w L) {hp : Bool} {d : Option Tmp} {el : TypeId} :
    OpS C P N0 m0 h0 w0 m a w (do pure (Next.value (← Instr.alloc el true (.tuple #[])))) (allocA C hp d el fs h) := by
  unfold allocA
  split
  · rename_i z hz
    have hti : ∃ ti, C.T el = some ti ∧ ti.zero = z := by
      unfold tzero at hz
      cases ht : C.T el with
      | none => simp [ht] at hz
      | some ti => simp [ht] at hz; exact ⟨ti, rfl, hz⟩
    obtain ⟨ti, hti, rfl⟩ := hti
    obtain ⟨zv, h1, h2⟩ := K.run_zero hti w
    have hr := zero_cells h2 m
    have hrun : (Instr.alloc el true (.tuple #[])).run P w = .ok (.pointer (some ⟨w.heap.size, 0, none⟩)) (pushB w (.cells zv.cells el)) := by
      simp [Instr.alloc, h1, newVar, run_newRow]
    cases hn : newA hp d el ti.zero fs h with
    | ok x fs' h' =>
      obtain ⟨m', L', h3, h4⟩ := newA_s I hr hn
      exact ⟨_, _, m', _, L', a, run_v hrun, .inl ⟨rfl, rfl⟩, h3, h4⟩
    | fail => trivial
    | call f args => exact absurd hn (newA_only.1 f args)
    | pan v => exact absurd hn (newA_only.2 v)
  · trivial

theorem boxA_s (I : Inv C N0 m0 h0 w0 m fs h a w L) {hp : Bool} {d : Option Tmp} {el : TypeId} {xo : Operand} :
    OpS C P N0 m0 h0 w0 m a w (do pure (Next.value (← Instr.box el (a.eval xo)))) (boxA C hp d el xo fs h) := by
  unfold boxA
  split
  · rename_i x hx
    have hv := evalV_s I.hr I.fr hx
    split
    · have hr := hv.cells
      have hrun : (Instr.box el (a.eval xo)).run P w = .ok (.pointer (some ⟨w.heap.size, 0, none⟩)) (pushB w (.cells (a.eval xo).cells el)) := by
        simp [Instr.box, newVar, run_newRow]
      cases hn : newA hp d el x.cells fs h with
      | ok y fs' h' =>
        obtain ⟨m', L', h3, h4⟩ := newA_s I hr hn
        exact ⟨_, _, m', _, L', a, run_v hrun, .inl ⟨rfl, rfl⟩, h3, h4⟩
      | fail => trivial
      | call f args => exact absurd hn (newA_only.1 f args)
      | pan v => exact absurd hn (newA_only.2 v)
    · trivial
  · trivial

theorem storeO_s (K : COk C P) (I : Inv C N0 m0 h0 w0 m fs h a w L) {t : TypeId} {ao xo : Operand} :
    OpS C P N0 m0 h0 w0 m a w (do Instr.storeAt t (a.eval ao) (a.eval xo); pure .skip) (storeO C t ao xo fs h) := by
  unfold storeO
  split
  · rename_i x hx
    have hv := evalV_s I.hr I.fr hx
    have ha := evalO_s I.hr I.fr ao
    cases hn : storeA C t (evalO fs ao) x fs h with
    | ok y fs' h' =>
      obtain ⟨w', h3, h4, rfl⟩ := storeA_s K I ha hv hn
      exact ⟨.skip, undef, m, w', L, a, by simp [h3], .inr (.inl ⟨rfl, rfl, rfl⟩), h4, trivial⟩
    | fail => trivial
    | call f args => exact absurd hn (storeA_only.1 f args)
    | pan v => exact absurd hn (storeA_only.2 v)
  · trivial

theorem loadO_s (K : COk C P) (I : Inv C N0 m0 h0 w0 m fs h a w L) {t : TypeId} {ao : Operand} :
    OpS C P N0 m0 h0 w0 m a w (do pure (Next.value (← Instr.loadAt t (a.eval ao)))) (loadA C t (evalO fs ao) fs h) := by
  have ha := evalO_s I.hr I.fr ao
  cases hn : loadA C t (evalO fs ao) fs h with
  | ok y fs' h' =>
    obtain ⟨rfl, rfl, z, v, rfl, h1, h2⟩ := loadA_s K I.hr I.fr ha hn
    exact OpS.val I (run_v h1) h2
  | fail => trivial
  | call f args => exact absurd hn (loadA_only.1 f args)
  | pan v => exact absurd hn (loadA_only.2 v)

/-! ### Filling -/

theorem cells_foldl (arr : Array Value) (off : Nat) : ∀ (xs : List Value) (j : Nat) (arr' : Array Value), arr'.toList = arr.toList.take (off) ++ (arr'.toList.drop off).take j ++ arr.toList.drop (off + j) → off + j + xs.length ≤ arr.size → arr'.size = arr.size →
    ((xs.zipIdx j).foldl (fun cs (c, k) => cs.setIfInBounds (off + k) c) arr').toList = arr'.toList.take (off + j) ++ xs ++ arr'.toList.drop (off + j + xs.length)
  | [], j, arr', _, _, _ => by simp
  | x :: xs, j, arr', h1, h2, h3 => by
    simp only [List.zipIdx_cons, List.foldl_cons]
    have hlt : off + j < arr'.size := by simp at h2; omega
    have key : ∀ (l : List Value) (arr2 : Array Value) (k : Nat), off + k + l.length ≤ arr2.size →
        ((l.zipIdx k).foldl (fun cs (c, k) => cs.setIfInBounds (off + k) c) arr2).toList = arr2.toList.take (off + k) ++ l ++ arr2.toList.drop (off + k + l.length) := by
      intro l
      induction l with
      | nil => intro arr2 k _; simp
      | cons y l ih =>
        intro arr2 k hk
        simp only [List.zipIdx_cons, List.foldl_cons]
        rw [ih _ _ (by simp at hk ⊢; omega)]
        have hlt : off + k < arr2.toList.length := by simp at hk ⊢; omega
        simp only [Array.toList_setIfInBounds]
        rw [show off + (k + 1) = (off + k) + 1 by omega, List.take_succ_eq_append_getElem (by simpa using hlt)]
        rw [List.drop_set_of_lt (by omega)]
        simp [List.take_set_of_le]
        congr 1
        omega
    have := key (x :: xs) arr' j (by simp at h2 ⊢; omega)
    simpa only [List.zipIdx_cons, List.foldl_cons] using this

theorem fill_s {place place' : Nat → Option (Nat × Nat)} (hpp : ∀ i off size, place i = some (off, size) → size ≠ 0 → place' i = some (off, size)) : ∀ {ps : List (Nat × V)} {qs : List (Nat × Value)} {cs cs' : List V} {arr : Array Value}, ps.length = qs.length →
    (∀ (i : Nat) p q, ps[i]? = some p → qs[i]? = some q → p.1 = q.1 ∧ VR m p.2 q.2) → VRs m cs arr.toList → fillA C place cs ps = some cs' →
    ∃ arr', Instr.fill place' arr qs = some arr' ∧ VRs m cs' arr'.toList
  | [], [], cs, cs', arr, _, _, hr, hf => by
    simp only [fillA, Option.some.injEq] at hf; subst hf
    exact ⟨arr, rfl, hr⟩
  | p :: ps, q :: qs, cs, cs', arr, hl, hpq, hr, hf => by
    obtain ⟨pi, px⟩ := p
    obtain ⟨qi, qx⟩ := q
    obtain ⟨e1, e2⟩ := hpq 0 (pi, px) (qi, qx) rfl rfl
    simp only at e1 e2; subst e1
    simp only [fillA] at hf
    split at hf
    · simp at hf
    · rename_i off size hpl
      split at hf
      · simp at hf
      · rename_i hsz
        have hs0 : size ≠ 0 := fun h0 => hsz (.inr h0)
        have hsz : px.cells.length = size := Classical.byContradiction fun h0 => hsz (.inl h0)
        split at hf
        · rename_i cs1 hput
          have hcs := cells_size_of e2
          obtain ⟨g1, g2, g3, g4⟩ := putCells_s hput hr e2.cells
          have hlen := hr.length
          have e4 : arr.toList.length = arr.size := by simp
          have h00 : off + qx.cells.size ≤ arr.size := by
            rcases g2 with g2 | g2
            · rw [g2] at hsz; simp at hsz; omega
            · omega
          simp only [Instr.fill, hpp _ _ _ hpl hs0]
          · rw [if_neg (by simp; omega)]
            have hfold : (qx.cells.zipIdx.foldl (fun cs (c, j) => cs.setIfInBounds (off + j) c) arr).toList = arr.toList.take off ++ qx.cells.toList ++ arr.toList.drop (off + qx.cells.toList.length) := by
              have := cells_foldl arr off qx.cells.toList 0 arr (by simp) (by simp; omega) rfl
              rw [← Array.foldl_toList]
              simpa [Array.toList_zipIdx] using this
            refine fill_s hpp (qs := qs) (by simpa using hl) (fun i p q hp hq => hpq (i + 1) p q (by simpa using hp) (by simpa using hq)) ?_ hf
            rw [hfold]; exact g1
        · simp at hf
  | [], _ :: _, _, _, _, hl, _, _, _ => by simp at hl
  | _ :: _, [], _, _, _, hl, _, _, _ => by simp at hl
end
end Go.S2

namespace Go.S2
section
variable {C : Ctx} {P : Program} {N0 : Nat} {m0 : Km} {h0 : H} {w0 : World} {m : Km} {fs : FS} {h : H} {a : Act} {w : World} {L : Nat → Nat} {S : Nat}

theorem evalParts_s (R : HR C N0 m h w) (F : FR m S fs a w h L) : ∀ {ps : List (Nat × Operand)} {xs : List (Nat × V)}, evalParts fs ps = some xs →
    xs.length = (ps.map fun (i, x) => (i, a.eval x)).length ∧ ∀ (i : Nat) p q, xs[i]? = some p → (ps.map fun (i, x) => (i, a.eval x))[i]? = some q → p.1 = q.1 ∧ VR m p.2 q.2
  | [], xs, h => by simp [evalParts] at h; subst h; simp
  | (k, o) :: ps, xs, h => by
    simp only [evalParts] at h
    split at h
    · rename_i y ys hy hys
      simp only [Option.some.injEq] at h; subst h
      obtain ⟨h1, h2⟩ := evalParts_s R F hys
      refine ⟨by simp at h1 ⊢; exact h1, ?_⟩
      intro i p q hp hq
      cases i with
      | zero =>
        simp at hp hq; subst hp hq
        exact ⟨rfl, evalV_s R F hy⟩
      | succ i => exact h2 i p q (by simpa using hp) (by simpa using hq)
    · simp at h

theorem run_places (fsx : Array Field) (hs : ∀ f ∈ fsx.toList, ∃ i, P.info? f.type = some i) :
    ∃ places : Array (Nat × Nat), (fsx.mapM fun f => do pure (f.offset, ← sizeOf f.type) : Sem (Array (Nat × Nat))).run P w = .ok places w ∧
      ∀ (k : Nat) (fl : Field), fsx[k]? = some fl → ∀ i, P.info? fl.type = some i → places[k]? = some (fl.offset, i.size) := by
  have key : ∀ (l : List Field), (∀ f ∈ l, ∃ i, P.info? f.type = some i) →
      ∃ pl : List (Nat × Nat), (l.mapM fun f => do pure (f.offset, ← sizeOf f.type) : Sem (List (Nat × Nat))).run P w = .ok pl w ∧
      ∀ (k : Nat) (fl : Field), l[k]? = some fl → ∀ i, P.info? fl.type = some i → pl[k]? = some (fl.offset, i.size) := by
    intro l
    induction l with
    | nil => intro _; exact ⟨[], by simp, by simp⟩
    | cons f l ih =>
      intro hl
      obtain ⟨pl, h1, h2⟩ := ih fun g hg => hl g (by simp [hg])
      obtain ⟨i, hi⟩ := hl f (by simp)
      refine ⟨(f.offset, i.size) :: pl, ?_, ?_⟩
      · simp [List.mapM_cons, sizeOf, typeInfo, hi] at h1 ⊢
        rw [h1]; simp
      · intro k fl hk j hj
        cases k with
        | zero => simp at hk; subst hk; rw [hi] at hj; simp at hj; subst hj; simp
        | succ k => simpa using h2 k fl (by simpa using hk) j hj
  obtain ⟨pl, h1, h2⟩ := key fsx.toList hs
  refine ⟨pl.toArray, ?_, ?_⟩
  · rw [Array.mapM_eq_mapM_toList, Sem.run_map, h1]; rfl
  · intro k fl hk i hi
    simpa using h2 k fl (by simpa using hk) i hi

theorem buildA_s (K : COk C P) {t : TypeId} {ps : List (Nat × V)} {qs : Array (Nat × Value)} {x : V} (hl : ps.length = qs.toList.length)
    (hpq : ∀ (i : Nat) p q, ps[i]? = some p → qs.toList[i]? = some q → p.1 = q.1 ∧ VR m p.2 q.2) (e : buildA C t ps = some x) :
    ∃ v, (Instr.build t qs).run P w = .ok v w ∧ VR m x v := by
  unfold buildA at e
  split at e
  · simp at e
  · rename_i ti hti
    obtain ⟨zv, h1, h2⟩ := K.run_zero hti w
    have hz := zero_cells h2 m
    obtain ⟨d, h3, h4⟩ := K.under hti
    split at e
    · rename_i fields hk
      simp only [Option.map_eq_some_iff] at e
      obtain ⟨cs, hf, rfl⟩ := e
      have hk' : tkind C t = .struct fields := by simp [tkind, hti, hk]
      obtain ⟨fsx, h5, h6⟩ := K.struct hk'
      obtain ⟨places, h7, h8⟩ := run_places (P := P) (w := w) fsx ((K.T t ti hti).sub fsx h5)
      obtain ⟨arr', h9, h10⟩ := fill_s (place' := fun i => places[i]?) (fun i off size hp hs => by
        split at hp
        · rename_i o ft hn
          simp only [Option.some.injEq, Prod.mk.injEq] at hp
          obtain ⟨rfl, rfl⟩ := hp
          obtain ⟨fl, g1, g2, g3⟩ := field_at h6 hn
          obtain ⟨tf, g4, g5⟩ := tsize_some hs
          obtain ⟨inf, zz, g6, g7, _⟩ := (K.T ft tf g4).info
          have := h8 i fl g1 inf (by rw [g3]; exact g6)
          rw [this, g2, g5, g7]
        · simp at hp) hl hpq hz hf
      refine ⟨.agg arr', ?_, by simp only [VR]; exact ⟨_, rfl, h10⟩⟩
      simp only [Instr.build, Sem.run_bind, h1, Result.andThen_ok, run_underlying h5, h7, h9]
      rfl
    · rename_i n el hk
      split at e
      · rename_i te hte
        simp only [Option.map_eq_some_iff] at e
        obtain ⟨cs, hf, rfl⟩ := e
        have hk' : tkind C t = .array n el := by simp [tkind, hti, hk]
        have h5 := K.array hk'
        obtain ⟨arr', h9, h10⟩ := fill_s (place' := fun i => some (i * te.size, te.size)) (fun i off size hp hs => hp) hl hpq hz hf
        refine ⟨.agg arr', ?_, by simp only [VR]; exact ⟨_, rfl, h10⟩⟩
        simp only [Instr.build, Sem.run_bind, h1, Result.andThen_ok, run_underlying h5, K.run_sizeOf hte, h9]
        rfl
      · simp at e
    · simp at e

theorem buildO_s (K : COk C P) (I : Inv C N0 m0 h0 w0 m fs h a w L) {t : TypeId} {ps : Array (Nat × Operand)} :
    OpS C P N0 m0 h0 w0 m a w (do pure (Next.value (← Instr.build t (ps.map fun (i, x) => (i, a.eval x))))) (buildO C t ps.toList fs h) := by
  unfold buildO
  split
  · rename_i xs hxs
    obtain ⟨h1, h2⟩ := evalParts_s I.hr I.fr hxs
    refine OpS.okV I fun y hy => ?_
    obtain ⟨v, h3, h4⟩ := buildA_s (P := P) (w := w) K (qs := ps.map fun (i, x) => (i, a.eval x)) (by simpa using h1) (by simpa using h2) hy
    exact ⟨v, run_v h3, h4⟩
  · trivial

theorem repL_s {zero : List V} {z : Array Value} (hz : VRs m zero z.toList) (h0 : z.size ≠ 0) : ∀ (n : Nat), VRs m (repL zero n) (((Array.range (n * z.size)).map (z[· % z.size]!)).toList)
  | 0 => by simp [repL, VRs]
  | n + 1 => by
    have ih := repL_s hz h0 n
    have e : ((Array.range ((n + 1) * z.size)).map (z[· % z.size]!)).toList = z.toList ++ ((Array.range (n * z.size)).map (z[· % z.size]!)).toList := by
      apply List.ext_getElem?
      intro i
      simp only [Array.toList_map, Array.toList_range, List.getElem?_map, List.getElem?_append, Array.length_toList]
      by_cases hi : i < z.size
      · have h1 : i < (n + 1) * z.size := by rw [Nat.add_mul]; omega
        simp [hi, h1, Nat.mod_eq_of_lt hi]
      · simp only [hi, if_false]
        by_cases h1 : i < (n + 1) * z.size
        · have h2 : i - z.size < n * z.size := by rw [Nat.add_mul] at h1; omega
          have h3 : i % z.size = (i - z.size) % z.size := by rw [Nat.mod_eq_sub_mod (by omega)]
          simp [h1, h2, h3]
        · have h2 : ¬ i - z.size < n * z.size := by rw [Nat.add_mul] at h1; omega
          simp [h1, h2]
    rw [e]
    exact hz.append ih

theorem buildSliceA_s (K : COk C P) (I : Inv C N0 m0 h0 w0 m fs h a w L) {hp : Bool} {d : Option Tmp} {t : TypeId} {len : Nat} {ps : Array (Nat × Operand)} :
    OpS C P N0 m0 h0 w0 m a w (do pure (Next.value (← Instr.buildSlice t len (ps.map fun (i, x) => (i, a.eval x))))) (buildSliceA C hp d t len ps.toList fs h) := by
  unfold buildSliceA
  split
  · rename_i xs el hxs hk
    obtain ⟨h1, h2⟩ := evalParts_s I.hr I.fr hxs
    have hs := K.slice hk
    split
    · rename_i ti hti
      split
      · trivial
      · rename_i hc
        have hc1 : ti.size ≠ 0 := fun e => hc (.inl e)
        have hc2 : ¬ len * ti.size > 16777216 := fun e => hc (.inr e)
        split
        · rename_i cs hf
          obtain ⟨zv, g1, g2⟩ := K.run_zero hti w
          have hz := zero_cells g2 m
          have hzs : zv.cells.size = ti.size := by
            obtain ⟨_, _, _, _, _, _, _, hz5⟩ := (K.T el ti hti).info
            have := hz.length
            simp at this; omega
          have hbase : VRs m (repL ti.zero len) (((Array.range (len * ti.size)).map (zv.cells[· % zv.cells.size]!)).toList) := by
            have := repL_s hz (by omega) len
            rw [hzs] at this ⊢
            exact this
          obtain ⟨arr', h9, h10⟩ := fill_s (place' := fun i => some (i * ti.size, ti.size)) (fun i off size hp hs => hp) (qs := (ps.map fun (i, x) => (i, a.eval x)).toList) (by simpa using h1) (by simpa using h2) hbase hf
          have hrun : (Instr.buildSlice t len (ps.map fun (i, x) => (i, a.eval x))).run P w = .ok (.slice (some ⟨w.heap.size, 0, none⟩) len len) (pushB w (.cells arr' el)) := by
            simp only [Instr.buildSlice, Sem.run_bind, run_underlying hs, Result.andThen_ok, K.run_sizeOf hti]
            rw [if_neg hc2]
            by_cases h00 : len * ti.size = 0
            · have hl0 : len = 0 := by
                rcases Nat.mul_eq_zero.1 h00 with e | e
                · exact e
                · exact absurd e hc1
              subst hl0
              simp only [Nat.zero_mul, if_true, Sem.run_bind, Sem.run_pure, Result.andThen_ok]
              have : ((Array.range 0).map ((#[] : Array Value)[· % (#[] : Array Value).size]!)) = ((Array.range (0 * ti.size)).map (zv.cells[· % zv.cells.size]!)) := by simp
              rw [this, h9]
              simp [run_newRow]
            · simp only [if_neg h00, Sem.run_bind, Sem.run_pure, g1, Result.andThen_ok, h9]
              simp [run_newRow]
          have hl := h10.length
          have hsz : arr'.toList.length = arr'.size := by simp
          split
          · -- on the heap
            refine ⟨_, _, _, _, L, a, run_v hrun, .inl ⟨rfl, rfl⟩, I.newCells (e := el) (fz := 0) h10.take_all (by omega), ?_⟩
            simp only [TVR, VR]
            exact ⟨w.heap.size, 0, arr'.size, tsize C el, len, setM_self, Nat.le_refl _, fun _ => rfl, fun e => by simp at e, .inr (by simp)⟩
          · split
            · rename_i d
              split
              · rename_i hd
                refine ⟨_, _, m, _, _, a, run_v hrun, .inl ⟨rfl, rfl⟩, I.newLocal (d := d) (o := .cells cs) (ob := .cells arr' el) hd (fun w' hw' => ⟨arr', el, hw', h10⟩), ?_⟩
                simp [TVR, FS.loc_setL]
              · trivial
            · trivial
        · trivial
    · trivial
  · trivial
end
end Go.S2

