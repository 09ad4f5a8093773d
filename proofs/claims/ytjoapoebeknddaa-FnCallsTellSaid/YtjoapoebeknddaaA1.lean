/- A small machine over lists in the place of the memory: its definitions, values, memory and simple operations. No conditions. -/
import Derived.Orders
import Derived.Below
import Derived.Laws.Append
import Derived.Laws.IdiomCopy
import Derived.Laws.BytesString
import Derived.CheckFast
set_option linter.unusedSimpArgs false
set_option linter.unusedVariables false
/- A small machine over lists in the place of the memory: its definitions. No conditions. -/
namespace Go.Am

abbrev Heap := List (Option (TypeId × List Value))
abbrev Env := List Value

/-- What a machine without memory makes of a computation. -/
def prun {α : Type} (P : Program) : Sem α → Option α
  | .pure a => some a
  | .program k => prun P (k P)
  | .mark _ k => prun P k
  | .choose q k => if q.forced then prun P (k 0) else none
  | _ => none

/-- What a skipped operation leaves. -/
abbrev sk : Value := .chan (some 0)
/-- One cell's value, with no place in it. -/
def sc : Value → Bool
  | .bool _ | .int _ _ | .string _ | .nilFunc | .nilIface => true
  | _ => false
def isG : Value → Bool
  | .agg cs => cs.toList.all sc
  | v => sc v
def sc0 : Value → Bool
  | .pointer none | .slice none 0 0 => true
  | v => sc v
def isC : Value → Bool
  | .agg cs => cs.toList.all sc0
  | v => sc0 v
def isCell : Value → Bool
  | .agg _ | .tuple _ | .chan _ => false
  | _ => true
def isTup : Value → Bool
  | .tuple _ | .chan _ => true
  | _ => false

def ev (ρ : Env) : Operand → Value
  | .tmp t => ρ.getD t undef
  | .const v => if isC v then v else undef
  | .global _ => undef
  | .func f => .func (.func f) #[] #[]

def tySize (P : Program) (t : TypeId) : Option Nat := (P.info? t).map (·.size)
def tyAgg (P : Program) (t : TypeId) : Option Bool := (P.underlying t).map fun | .struct _ | .array _ _ => true | _ => false
def tyElem (P : Program) (t : TypeId) : Option TypeId := (P.underlying t).bind fun | .slice e => some e | _ => none
def tyZero (P : Program) (t : TypeId) : Option Value := (P.info? t).bind (·.zero)
/-- A struct's fields: the first cell, the cells, are they many. -/
def tyFields (P : Program) (t : TypeId) : Option (List (Nat × TypeId)) := (P.underlying t).bind fun | .struct fs => some (fs.toList.map fun f => (f.offset, f.type)) | _ => none

def hget (H : Heap) (b : Nat) : Option (TypeId × List Value) := (H[b]?).join

def setAll : List Value → Nat → List Value → List Value
  | cs, _, [] => cs
  | cs, o, v :: vs => setAll (cs.set o v) (o + 1) vs

def loadA (P : Program) (H : Heap) (t : TypeId) : Value → Option Value
  | .pointer (some ⟨b, o, none⟩) => (hget H b).bind fun c => (tyAgg P t).bind fun g => match g with
    | true => (tySize P t).bind fun n => if o + n ≤ c.2.length then some (.agg ((c.2.drop o).take n).toArray) else none
    | false => c.2[o]?
  | _ => none

def storeA (P : Program) (base : Nat) (H : Heap) (t : TypeId) (v : Value) : Value → Option Heap
  | .pointer (some ⟨b, o, none⟩) => if base ≤ b then (hget H b).bind fun c =>
      if v.cells.toList.all isCell = true ∧ tySize P t = some v.cells.size ∧ o + v.cells.size ≤ c.2.length then some (H.set b (some (c.1, setAll c.2 o v.cells.toList))) else none
    else none
  | _ => none

def fieldAddrA (P : Program) (s : TypeId) (f : Nat) : Value → Option Value
  | .pointer (some ⟨b, o, none⟩) => (tyFields P s).bind fun fs => (fs[f]?).bind fun x => if (tySize P x.2).any (· ≠ 0) then some (.pointer (some ⟨b, o + x.1, none⟩)) else none
  | _ => none

def indexAddrA (P : Program) (t : TypeId) : Value → Value → Option Value
  | .slice (some ⟨b, o, some es⟩) n _, .int _ i => (tyElem P t).bind fun e => if tySize P e = some es ∧ 0 ≤ i ∧ i < n then some (.pointer (some ⟨b, o + i.toNat * es, none⟩)) else none
  | _, _ => none

def fieldA (P : Program) (t : TypeId) (f : Nat) : Value → Option Value
  | .agg cs => (tyFields P t).bind fun fs => (fs[f]?).bind fun x => (tyAgg P x.2).bind fun g => match g with
    | true => (tySize P x.2).map fun n => .agg (cs.extract x.1 (x.1 + n))
    | false => cs[x.1]?
  | _ => none

def optI : Option Value → Int → Option Int
  | none, d => some d
  | some (.int _ i), _ => some i
  | _, _ => none

/-- A slice of a slice. -/
def sliceA (P : Program) (t : TypeId) (x : Value) (lo hi mx : Option Value) : Option Value :=
  match x with
  | .slice none 0 0 => (optI lo 0).bind fun l => (optI hi 0).bind fun h => (optI mx 0).bind fun m => if l = 0 ∧ h = 0 ∧ m = 0 ∧ ((tyElem P t).bind (tySize P)).isSome = true ∧ (mx.isNone || hi.isSome) = true then some (.slice none 0 0) else none
  | .slice (some ⟨b, o, some es⟩) n cap => (optI lo 0).bind fun l => (optI hi n).bind fun h => (optI mx cap).bind fun m =>
      if (tyElem P t).bind (tySize P) = some es ∧ 0 ≤ l ∧ l ≤ h ∧ h ≤ m ∧ m ≤ cap ∧ (mx.isNone || hi.isSome) = true then
        some (.slice (some ⟨b, o + l.toNat * es, some es⟩) (h - l).toNat (m - l).toNat)
      else none
  | _ => none

def byteCellsA (s : ByteArray) : List Value := s.data.toList.map fun b => .int .u8 b.toNat

/-- The cells that a slice or a string shows. -/
def cellsA (H : Heap) (es : Nat) : Value → Option (Nat × List Value)
  | .slice none 0 0 => some (0, [])
  | .slice (some ⟨b, o, some es'⟩) n _ => if es' = es then (hget H b).bind fun c => if o + n * es ≤ c.2.length then some (n, (c.2.drop o).take (n * es)) else none else none
  | .string s => if es = 1 then some (s.size, byteCellsA s) else none
  | _ => none

def room : Nat := 1048576

def appendA (P : Program) (base : Nat) (H : Heap) (t : TypeId) (s x : Value) : Option (Value × Heap) :=
  (tyElem P t).bind fun e => (tySize P e).bind fun es => (cellsA H es x).bind fun y =>
    if (P.info? e).any (fun i => i.bytes ≤ 1024 ∧ 0 < i.bytes) ∧ 0 < es ∧ (tyZero P e).any (fun z => z.cells.size = es ∧ isC z) then
      (match s with
      | .slice none 0 0 =>
        if y.1 = 0 then some (s, H) else
        if y.1 ≤ room then some (.slice (some ⟨H.length, 0, some es⟩) y.1 y.1, H ++ [some (e, y.2)]) else none
      | .slice (some ⟨b, o, some es'⟩) n cap =>
        if es' ≠ es then none else
        if y.1 = 0 then some (s, H) else
        if base ≤ b then (hget H b).bind fun c =>
          if n + y.1 ≤ cap then
            (if o + (n + y.1) * es ≤ c.2.length then some (.slice (some ⟨b, o, some es⟩) (n + y.1) cap, H.set b (some (c.1, setAll c.2 (o + n * es) y.2))) else none)
          else if o + n * es = c.2.length ∧ n + y.1 ≤ room then
            some (.slice (some ⟨H.length, 0, some es⟩) (n + y.1) (n + y.1), H.set b none ++ [some (c.1, c.2.drop o ++ y.2)])
          else none
        else none
      | _ => none)
    else none

def copyA (P : Program) (base : Nat) (H : Heap) (t : TypeId) (d x : Value) : Option (Value × Heap) :=
  (tyElem P t).bind fun e => (tySize P e).bind fun es => (cellsA H es x).bind fun y =>
    match d with
    | .slice none 0 0 => some (goInt 0, H)
    | .slice (some ⟨b, o, some es'⟩) n _ =>
      if es' = es ∧ base ≤ b then (hget H b).bind fun c =>
        if o + n * es ≤ c.2.length then some (goInt (Nat.min y.1 n), H.set b (some (c.1, setAll c.2 o (y.2.take (Nat.min y.1 n * es))))) else none
      else none
    | _ => none

def makeA (P : Program) (H : Heap) (t : TypeId) : Value → Value → Option (Value × Heap)
  | .int _ l, .int _ c => (tyElem P t).bind fun e => (P.info? e).bind fun i => i.zero.bind fun z =>
    if 0 ≤ l ∧ l ≤ c ∧ c ≤ (room : Int) ∧ i.bytes ≤ 1024 ∧ 0 < i.size ∧ z.cells.size = i.size ∧ isC z then
      some (.slice (some ⟨H.length, 0, some i.size⟩) l.toNat c.toNat, H ++ [some (e, (List.replicate c.toNat z.cells.toList).flatten)])
    else none
  | _, _ => none

/-- Parts written into the cells of a struct or of a row. -/
def fillA (place : Nat → Option (Nat × Nat)) : List Value → List (Nat × Value) → Option (List Value)
  | cs, [] => some cs
  | cs, p :: r => (place p.1).bind fun x => if p.2.cells.size = x.2 ∧ x.1 + x.2 ≤ cs.length ∧ p.2.cells.toList.all isCell = true then fillA place (setAll cs x.1 p.2.cells.toList) r else none

def buildA (P : Program) (t : TypeId) (parts : List (Nat × Value)) : Option Value :=
  (tyZero P t).bind fun z => (tyFields P t).bind fun fs =>
    if isC z = true ∧ fs.all (fun x => (tySize P x.2).isSome) = true then
      (fillA (fun i => (fs[i]?).map fun x => (x.1, (tySize P x.2).getD 0)) z.cells.toList parts).map fun cs => .agg cs.toArray
    else none

def buildSliceA (P : Program) (H : Heap) (t : TypeId) (len : Nat) (parts : List (Nat × Value)) : Option (Value × Heap) :=
  (tyElem P t).bind fun e => (tySize P e).bind fun es => (tyZero P e).bind fun z =>
    if isC z = true ∧ 0 < es ∧ z.cells.size = es ∧ len * es ≤ 16777216 then
      (fillA (fun i => some (i * es, es)) (List.replicate len z.cells.toList).flatten parts).map fun cs =>
        (.slice (some ⟨H.length, 0, some es⟩) len len, H ++ [some (e, cs)])
    else none

def clearA (P : Program) (base : Nat) (H : Heap) (t : TypeId) : Value → Option Heap
  | .slice none 0 0 => (tyElem P t).map fun _ => H
  | .slice (some ⟨b, o, some es⟩) n _ => (tyElem P t).bind fun e => (tyZero P e).bind fun z => if tySize P e = some es ∧ z.cells.size = es ∧ isC z = true ∧ 0 < es then
      (if n = 0 then some H else if base ≤ b then (hget H b).bind fun c => if o + n * es ≤ c.2.length then some (H.set b (some (c.1, setAll c.2 o (List.replicate n z.cells.toList).flatten))) else none else none)
    else none
  | _ => none

/-- Bytes that cells hold. -/
def bytesA : List Value → Option (List UInt8)
  | [] => some []
  | .int .u8 n :: r => (bytesA r).map (UInt8.ofNat n.toNat :: ·)
  | _ => none

def binI (op : BinOp) (k : IntKind) (a b : Int) : Option Value :=
  match op with
  | .add => some (.int k (k.wrap (a + b)))
  | .sub => some (.int k (k.wrap (a - b)))
  | .mul => some (.int k (k.wrap (a * b)))
  | .quo => if b = 0 then none else some (.int k (k.wrap (a.tdiv b)))
  | .rem => if b = 0 then none else some (.int k (a.tmod b))
  | .and => some (.int k (k.wrap (BitVec.ofInt k.bits a &&& BitVec.ofInt k.bits b).toNat))
  | .or => some (.int k (k.wrap (BitVec.ofInt k.bits a ||| BitVec.ofInt k.bits b).toNat))
  | .xor => some (.int k (k.wrap (BitVec.ofInt k.bits a ^^^ BitVec.ofInt k.bits b).toNat))
  | .andNot => some (.int k (k.wrap (BitVec.ofInt k.bits a &&& ~~~ BitVec.ofInt k.bits b).toNat))
  | .eql => some (.bool (a == b))
  | .neq => some (.bool (a != b))
  | .lss => some (.bool (decide (a < b)))
  | .leq => some (.bool (decide (a ≤ b)))
  | .gtr => some (.bool (decide (a > b)))
  | .geq => some (.bool (decide (a ≥ b)))
  | _ => none
def shI (op : BinOp) (k : IntKind) (a b : Int) : Option Value :=
  if b < 0 then none else
  match op with
  | .shl => some (.int k (k.wrap (a * 2 ^ (min b.toNat k.bits))))
  | .shr => some (.int k (a.fdiv (2 ^ (min b.toNat k.bits))))
  | _ => none
def isSh : BinOp → Bool
  | .shl | .shr => true
  | _ => false

/-- An operation over values without places. -/
def groundA (P : Program) (ρ : Env) (o : Oper) : Option Value :=
  if o.op.operands.toList.all (fun x => isG (ev ρ x)) = true then
    (prun P (execOp (ev ρ) o)).bind fun | .value v => if isG v = true then some v else none | _ => none
  else none

def isSlT (P : Program) (t : TypeId) : Bool := match P.underlying t with | some (.slice _) => true | _ => false
def isBoT (P : Program) (t : TypeId) : Bool := match P.underlying t with | some .bool => true | _ => false
def binA (P : Program) (ρ : Env) (o : Oper) (op : BinOp) : Value → Value → Option Value
  | .int k a, .int k' b => if isSh op then shI op k a b else if k = k' then binI op k a b else none
  | .slice (some _) _ _, _ => match o.op with
    | .binOp .eql t _ (.const (.slice none 0 0)) _ => if isSlT P t = true then some (.bool false) else none
    | .binOp .neq t _ (.const (.slice none 0 0)) _ => if isSlT P t = true then some (.bool true) else none
    | _ => none
  | .slice none 0 0, _ => match o.op with
    | .binOp .eql t _ (.const (.slice none 0 0)) _ => if isSlT P t = true then some (.bool true) else none
    | .binOp .neq t _ (.const (.slice none 0 0)) _ => if isSlT P t = true then some (.bool false) else none
    | _ => none
  | .bool a, .bool b => match o.op with
    | .binOp .eql t _ _ _ => if isBoT P t = true then some (.bool (a == b)) else none
    | .binOp .neq t _ _ _ => if isBoT P t = true then some (.bool (a != b)) else none
    | _ => none
  | _, _ => groundA P ρ o

abbrev CallF := FuncId → List Value → Heap → Option (Value × Heap)

structure Cfg where
  P : Program
  wr : FuncId → Bool
  raw : FuncId → Bool
  ext : FuncId → Bool
  /-- What is told of a function by a proof of its own. -/
  frn : FuncId → Option (List Value → Heap → Option (Value × Heap)) := fun _ => none

def valH (H : Heap) (v : Option Value) : Option (Value × Heap) := v.map fun v => (v, H)

def extF (C : Cfg) : Operand → Bool
  | .func g => C.ext g
  | _ => false
def isStat : Operand → Bool
  | .func _ => true
  | _ => false
def callA (C : Cfg) (call : Nat → CallF) (base : Nat) (dr : Bool) (H : Heap) (st : Bool) (f : Value) (args : List Value) : Option (Value × Heap) :=
  match f with
  | .func (.func g) first caps => if dr = true ∧ st = false ∧ C.wr g = true then none else call base g (first.toList ++ args ++ caps.toList) H
  | _ => none

def notInt (P : Program) (u : TypeId) : Bool := match P.underlying u with | some (.int _) => false | some _ => true | none => false
def builtinA (P : Program) (ρ : Env) (o : Oper) (base : Nat) (H : Heap) (b : Builtin) (ts : Array TypeId) (args : List Value) : Option (Value × Heap) :=
  match b, args with
  | .append, [s, x] => (ts[0]?).bind fun t => (ts[1]?).bind fun u => if notInt P u = true then appendA P base H t s x else none
  | .copy, [s, x] => (ts[0]?).bind fun t => copyA P base H t s x
  | .clear, [s] => (ts[0]?).bind fun t => (clearA P base H t s).map fun H' => (.tuple #[], H')
  | .len, [.slice _ n _] => (ts[0]?).bind fun t => if (tyElem P t).isSome then some (goInt n, H) else none
  | _, _ => valH H (groundA P ρ o)

def isU8 (P : Program) (e : TypeId) : Bool := match P.underlying e with | some (.int .u8) => true | _ => false
def isStr (P : Program) (t : TypeId) : Bool := match P.underlying t with | some .string => true | _ => false
def convA (P : Program) (ρ : Env) (o : Oper) (H : Heap) (src dst : TypeId) (x : Value) : Option (Value × Heap) :=
  match x with
  | .slice ad n c => (tyElem P src).bind fun e => if isU8 P e = true ∧ isStr P dst = true then (cellsA H 1 (.slice ad n c)).bind fun y => (bytesA y.2).map fun bs => (.string ⟨bs.toArray⟩, H) else none
  | .string s => if isStr P src = true then
      (match tyElem P dst with
      | some e => if isU8 P e = true ∧ s.size < 2 ^ 62 then some (.slice (some ⟨H.length, 0, some 1⟩) s.size s.size, H ++ [some (e, byteCellsA s)]) else none
      | none => valH H (groundA P ρ o)) else none
  | _ => valH H (groundA P ρ o)

def evalOp (C : Cfg) (call : Nat → CallF) (base : Nat) (dr : Bool) (o : Oper) (ρ : Env) (H : Heap) : Option (Value × Heap) :=
  match o.op with
  | .move x | .assign x => some (ev ρ x, H)
  | .pick c a b => match ev ρ c with
    | .bool t => some (if t then ev ρ a else ev ρ b, H)
    | _ => none
  | .alloc t => (tyZero C.P t).bind fun z => if isC z then some (.pointer (some ⟨H.length, 0, none⟩), H ++ [some (t, z.cells.toList)]) else none
  | .box t x => if (ev ρ x).cells.toList.all isCell then some (.pointer (some ⟨H.length, 0, none⟩), H ++ [some (t, (ev ρ x).cells.toList)]) else none
  | .build t parts => valH H (buildA C.P t (parts.toList.map fun p => (p.1, ev ρ p.2)))
  | .buildSlice t len parts => buildSliceA C.P H t len (parts.toList.map fun p => (p.1, ev ρ p.2))
  | .load t a => valH H (loadA C.P H t (ev ρ a))
  | .store t a x => (storeA C.P base H t (ev ρ x) (ev ρ a)).map fun H' => (.tuple #[], H')
  | .nilCheck x => match ev ρ x with
    | .pointer (some a) => some (.pointer (some a), H)
    | .func (.func g) f c => some (.func (.func g) f c, H)
    | _ => none
  | .binOp op _ x y _ => valH H (binA C.P ρ o op (ev ρ x) (ev ρ y))
  | .unOp .not _ x => match ev ρ x with
    | .bool b => some (.bool !b, H)
    | _ => none
  | .convert src dst x => convA C.P ρ o H src dst (ev ρ x)
  | .makeFunc fn first caps => some (.func fn (first.map (ev ρ)) (caps.map (ev ρ)), H)
  | .makeSlice t l c => makeA C.P H t (ev ρ l) (ev ρ c)
  | .slice t x lo hi mx => match ev ρ x with
    | .string _ => valH H (groundA C.P ρ o)
    | v => valH H (sliceA C.P t v (lo.map (ev ρ)) (hi.map (ev ρ)) (mx.map (ev ρ)))
  | .fieldAddr s x f => valH H (fieldAddrA C.P s f (ev ρ x))
  | .indexAddr t x i => valH H (indexAddrA C.P t (ev ρ x) (ev ρ i))
  | .field t x f => valH H (fieldA C.P t f (ev ρ x))
  | .extract x i => match ev ρ x with
    | .tuple vs => valH H vs[i]?
    | _ => none
  | .unOp .. | .index .. => valH H (groundA C.P ρ o)
  | .call c => match c.callee with
    | .builtin b => builtinA C.P ρ o base H b c.argTypes (c.args.toList.map (ev ρ))
    | .value f => if extF C f = true then valH H (groundA C.P ρ o) else callA C call base dr H (isStat f) (ev ρ f) (c.args.toList.map (ev ρ))
    | _ => none
  | _ => none

/-- Is the operation to be done? (none: it can't be told) -/
def wantA (ops : Array Oper) (o : Oper) (ρ : Env) : Option Bool :=
  match o.guard with
  | none => some true
  | some (j, want) => match (ops[j]?).bind (·.dst) with
    | none => none
    | some t => match ρ[t]? with
      | some (.bool b) => some (if want then b else !b)
      | some (.chan _) => some false
      | _ => none

def putA (ρ : Env) (d : Option Tmp) (v : Value) : Env := match d with
  | some t => ρ.set t v
  | none => ρ

def runOps (C : Cfg) (call : Nat → CallF) (base : Nat) (dr : Bool) (ops : Array Oper) : List Oper → Env → Heap → Option (Env × Heap)
  | [], ρ, H => some (ρ, H)
  | o :: r, ρ, H => (wantA ops o ρ).bind fun g => match g with
    | true => (evalOp C call base dr o ρ H).bind fun x => runOps C call base dr ops r (putA ρ o.dst x.1) x.2
    | false => runOps C call base dr ops r (putA ρ o.dst sk) H

/-- Which operations touch memory, which turn what is there. -/
def isW (C : Cfg) (o : Oper) : Bool := match o.op with
  | .store .. => true
  | .call c => match c.callee with
    | .builtin .append | .builtin .copy | .builtin .clear => true
    | .value (.func f) => C.wr f
    | _ => false
  | _ => false
def isM (C : Cfg) (o : Oper) : Bool := match o.op with
  | .store .. | .load .. | .alloc .. | .box .. | .buildSlice .. | .makeSlice .. => true
  | .convert src dst _ => (tyElem C.P src).isSome || (tyElem C.P dst).isSome
  | .call c => match c.callee with
    | .builtin .append | .builtin .copy | .builtin .clear => true
    | .value _ => true
    | _ => false
  | _ => false
def tmpsMeet (ops : Array Oper) (x y : Oper) : Bool :=
  (match x.dst with | some d => (y.looksAt ops).contains d || y.dst == some d | none => false) || (match y.dst with | some d => (x.looksAt ops).contains d | none => false)
def meets (C : Cfg) (ops : Array Oper) (x y : Oper) : Bool := tmpsMeet ops x y || (isW C x && isM C y) || (isM C x && isW C y)
/-- Where a load reads, where an operation writes: the temporary that tells it. -/
def addrT (o : Oper) : Option Tmp := match o.op with
  | .load _ (.tmp t) => some t
  | _ => none
def tgtT (o : Oper) : Option Tmp := match o.op with
  | .store _ (.tmp t) _ => some t
  | .call c => match c.callee with
    | .builtin .append | .builtin .copy | .builtin .clear => match c.args.toList with
      | .tmp t :: _ => some t
      | _ => none
    | _ => none
  | _ => none
/-- From operation k on nothing writes t. -/
def onceT (ops : Array Oper) (t : Tmp) (k : Nat) : Bool := (List.range ops.size).all fun i => decide (i < k) || (ops.getD i default).dst != some t
/-- A load and a write that may be done in either order if they go to two blocks. -/
def loosePair (ops : Array Oper) (i j : Nat) (x y : Oper) : Option (Tmp × Tmp) :=
  if tmpsMeet ops x y then none else
  match addrT x, tgtT y with
  | some a, some b => if onceT ops a i && onceT ops b j then some (a, b) else none
  | _, _ => match tgtT x, addrT y with
    | some b, some a => if onceT ops b i && onceT ops a j then some (a, b) else none
    | _, _ => none
def looseRow (C : Cfg) (ops : Array Oper) (b : Array Nat) (j : Nat) : Nat → Option (List (Tmp × Tmp))
  | 0 => some []
  | i + 1 => (looseRow C ops b j i).bind fun l =>
    if !meets C ops (ops.getD i default) (ops.getD j default) || (b.getD j 0).testBit i then some l else
    (loosePair ops i j (ops.getD i default) (ops.getD j default)).map (· :: l)
def looseTo (C : Cfg) (ops : Array Oper) (b : Array Nat) : Nat → Option (List (Tmp × Tmp))
  | 0 => some []
  | j + 1 => (looseTo C ops b j).bind fun l => if (ops.getD j default).after.all (fun e => !Region.binds .any e || decide (e.on < j)) then (looseRow C ops b j j).map (· ++ l) else none
/-- May a region's operations be done in any order? And which loads and writes must then go to two blocks. -/
def loose (C : Cfg) (ops : Array Oper) : Option (List (Tmp × Tmp)) := looseTo C ops (CheckFast.beforeF ops) ops.size
def blkNe : Value → Value → Bool
  | .pointer (some a), .pointer (some b) => decide (a.block ≠ b.block)
  | .pointer (some a), .slice (some b) _ _ => decide (a.block ≠ b.block)
  | .pointer (some _), .slice none _ _ => true
  | .tuple _, _ | _, .tuple _ => true
  | .chan _, _ | _, .chan _ => true
  | _, _ => false
def apartT (ps : List (Tmp × Tmp)) (ρ : Env) : Bool := ps.all fun p => blkNe (ρ.getD p.1 undef) (ρ.getD p.2 undef)

inductive Ex where
  | normal
  | exit (id : Nat)
  | ret
  deriving DecidableEq

def wipe (ts : List Tmp) (ρ : Env) : Env := ts.foldl (fun ρ t => ρ.set t undef) ρ

/-- What a round writes before it reads it: (read first, written first). -/
def firstOps : List Oper → List Tmp × List Tmp → List Tmp × List Tmp
  | [], s => s
  | o :: r, s =>
    let rd := s.1 ++ ((o.op.operands.toList.filterMap fun | .tmp t => some t | _ => none).filter fun t => !s.2.contains t)
    firstOps r (rd, match o.dst with | some d => if rd.contains d || o.guard.isSome then s.2 else if s.2.contains d then s.2 else s.2 ++ [d] | none => s.2)
def firsts : Code → List Tmp × List Tmp → List Tmp × List Tmp
  | .region _ ops _, s => firstOps ops.toList s
  | .seq a b, s => firsts b (firsts a s)
  | .cond c a b, s =>
    let s := (match c with | .tmp t => if s.2.contains t then s else (s.1 ++ [t], s.2) | _ => s)
    firsts b (firsts a s)
  | .block _ c, s | .loop c, s | .scope c, s => firsts c s
  | _, s => s
def killed (c : Code) : List Tmp := (firsts c ([], [])).2

def iter (body : Env → Heap → Option (Ex × Env × Heap)) (ks : List Tmp) : Nat → Env → Heap → Option (Ex × Env × Heap)
  | 0, _, _ => none
  | k + 1, ρ, H => (body (wipe ks ρ) H).bind fun r => match r with
    | (.normal, ρ', H') => iter body ks k ρ' H'
    | r => some r

def exec (C : Cfg) (call : Nat → CallF) (k base : Nat) : Code → Env → Heap → Option (Ex × Env × Heap)
  | .skip, ρ, H => some (.normal, ρ, H)
  | .region _ ops draw, ρ, H => if draw = true then (loose C ops).bind fun ps => (runOps C call base true ops ops.toList ρ H).bind fun x => if apartT ps x.1 then some (.normal, x.1, x.2) else none
    else (runOps C call base false ops ops.toList ρ H).map fun x => (.normal, x.1, x.2)
  | .seq a b, ρ, H => (exec C call k base a ρ H).bind fun r => match r with
    | (.normal, ρ', H') => exec C call k base b ρ' H'
    | r => some r
  | .cond c a b, ρ, H => match ev ρ c with
    | .bool t => bif t then exec C call k base a ρ H else exec C call k base b ρ H
    | _ => none
  | .block id c, ρ, H => (exec C call k base c ρ H).map fun r => match r with
    | (.exit i, ρ', H') => (if i = id then .normal else .exit i, ρ', H')
    | r => r
  | .loop c, ρ, H => iter (exec C call k base c) (killed c) k ρ H
  | .exit id, ρ, H => some (.exit id, ρ, H)
  | .ret, ρ, H => some (.ret, ρ, H)
  | _, _, _ => none

/-- The results of a function. -/
def resA (P : Program) (ρ : Env) (H : Heap) : List ResultVar → Option (List Value)
  | [] => some []
  | .tmp t :: r => (resA P ρ H r).map (ρ.getD t undef :: ·)
  | .cell a t :: r => (loadA P H t (ρ.getD a undef)).bind fun v => (resA P ρ H r).map (v :: ·)
def tupA : List Value → Value
  | [v] => v
  | vs => .tuple vs.toArray

/-- What a function hands back, taken out of its own memory: 'n' blocks were there at first. -/
def takeOne (P : Program) (n : Nat) (v : Value) (old acc : Heap) : Option (Value × Heap × Heap) :=
  match v with
  | .slice none 0 0 => some (v, old, acc)
  | .pointer none => some (v, old, acc)
  | .pointer (some ⟨b, o, none⟩) => if b < n then some (.pointer (some ⟨b, o, none⟩), old, acc) else none
  | .slice (some ⟨b, o, some es⟩) m c =>
    if b < n then some (.slice (some ⟨b, o, some es⟩) m c, old, acc) else
    (hget old b).bind fun x => if o + m * es ≤ x.2.length ∧ tySize P x.1 = some es ∧ ((x.2.drop o).take (m * es)).all isG = true then
      some (.slice (some ⟨acc.length, 0, some es⟩) m m, old.set b none, acc ++ [some (x.1, (x.2.drop o).take (m * es))]) else none
  | v => if sc v then some (v, old, acc) else none
def takeAll (P : Program) (n : Nat) : List Value → Heap → Heap → Option (List Value × Heap × Heap)
  | [], old, acc => some ([], old, acc)
  | v :: r, old, acc => (takeOne P n v old acc).bind fun x => (takeAll P n r x.2.1 x.2.2).map fun y => (x.1 :: y.1, y.2)
def takeVal (P : Program) (n : Nat) (v : Value) (old acc : Heap) : Option (Value × Heap × Heap) :=
  match v with
  | .agg cs => (takeAll P n cs.toList old acc).map fun x => (.agg x.1.toArray, x.2)
  | v => takeOne P n v old acc
def takeVals (P : Program) (n : Nat) : List Value → Heap → Heap → Option (List Value × Heap × Heap)
  | [], old, acc => some ([], old, acc)
  | v :: r, old, acc => (takeVal P n v old acc).bind fun x => (takeVals P n r x.2.1 x.2.2).map fun y => (x.1 :: y.1, y.2)

def handBack (C : Cfg) (f : FuncId) (n : Nat) (vs : List Value) (H : Heap) : Option (Value × Heap) :=
  if (C.raw f || C.wr f) = true then some (tupA vs, H) else (takeVals C.P n vs H (H.take n)).map fun x => (tupA x.1, x.2.2)

def body (C : Cfg) (call : Nat → CallF) (k base : Nat) (f : FuncId) (fn : Func) (c : Code) (args : List Value) (H : Heap) : Option (Value × Heap) :=
  (exec C call k (if C.wr f then base else H.length) c (args ++ List.replicate (fn.ntmps - args.length) undef) H).bind fun r => match r with
    | (.exit _, _, _) => none
    | (_, ρ, H') => (resA C.P ρ H' fn.results.toList).bind fun vs => handBack C f H.length vs H'

def run (C : Cfg) : Nat → Nat → CallF
  | 0, _, _, _, _ => none
  | k + 1, base, f, args, H => match C.frn f with
    | some G => G args H
    | none => (C.P.funcs[f]?).bind fun fn => fn.body.bind fun c =>
      if fn.name == "runtime.NumGoroutine" then none else body C (run C k) k base f fn c args H

end Go.Am

/- A small machine over lists in the place of the memory: how its values and blocks stand to the real ones. No conditions. -/
namespace Go.Am

/-- Where a block of the small machine lies: block, first cell, cells in all. -/
abbrev Beta := Nat → Option (Nat × Nat × Nat)

inductive VR (β : Beta) : Value → Value → Prop
  | any (v : Value) : VR β (.tuple #[]) v
  | sc {v : Value} (h : sc v = true) : VR β v v
  | pnil : VR β (.pointer none) (.pointer none)
  | ptr {b o B s N : Nat} (h : β b = some (B, s, N)) : VR β (.pointer (some ⟨b, o, none⟩)) (.pointer (some ⟨B, s + o, none⟩))
  | snil : VR β (.slice none 0 0) (.slice none 0 0)
  /-- An empty slice of which nobody knows whether it is nil. -/
  | semp (a : Option Addr) : VR β (.slice none 0 1) (.slice a 0 0)
  /-- A skipped operation's slot. -/
  | skip : VR β (.chan (some 0)) undef
  | sl {b o B s N n cap cap' off es : Nat} (h : β b = some (B, s, N)) (h1 : n ≤ cap) (h2 : cap ≤ cap') (h3 : cap ≠ 0 → off = s + o) (h4 : off + cap' * es ≤ N) : VR β (.slice (some ⟨b, o, some es⟩) n cap) (.slice (some ⟨B, off, none⟩) n cap')
  | fn {f : Fn} {x y x' y' : Array Value} (h1 : x.size = x'.size) (h2 : y.size = y'.size) (h3 : ∀ i : Nat, VR β (x.getD i undef) (x'.getD i undef)) (h4 : ∀ i : Nat, VR β (y.getD i undef) (y'.getD i undef)) : VR β (.func f x y) (.func f x' y')
  | agg {x x' : Array Value} (h1 : x.size = x'.size) (h3 : ∀ i : Nat, VR β (x.getD i undef) (x'.getD i undef)) : VR β (.agg x) (.agg x')
  | tup {x x' : Array Value} (h1 : x.size = x'.size) (h3 : ∀ i : Nat, VR β (x.getD i undef) (x'.getD i undef)) : VR β (.tuple x) (.tuple x')

def Sub (β β' : Beta) : Prop := ∀ b x, β b = some x → β' b = some x
theorem Sub.refl (β : Beta) : Sub β β := fun _ _ h => h
theorem Sub.trans {a b c : Beta} (h : Sub a b) (k : Sub b c) : Sub a c := fun x y hh => k x y (h x y hh)

theorem VR.mono {β β' : Beta} (hs : Sub β β') {v u : Value} (h : VR β v u) : VR β' v u := by
  induction h with
  | any v => exact .any v
  | sc h => exact .sc h
  | pnil => exact .pnil
  | ptr h => exact .ptr (hs _ _ h)
  | snil => exact .snil
  | semp a => exact .semp a
  | skip => exact .skip
  | sl h h1 h2 h3 h4 => exact .sl (hs _ _ h) h1 h2 h3 h4
  | fn h1 h2 _ _ i3 i4 => exact .fn h1 h2 i3 i4
  | agg h1 _ i3 => exact .agg h1 i3
  | tup h1 _ i3 => exact .tup h1 i3

/-- Lists, place by place. -/
def VRL (β : Beta) (x y : List Value) : Prop := x.length = y.length ∧ ∀ i : Nat, VR β (x.getD i undef) (y.getD i undef)
theorem VRL.nil (β : Beta) : VRL β [] [] := ⟨rfl, fun _ => .any _⟩
theorem VRL.cons {β : Beta} {v u : Value} {x y : List Value} (h : VR β v u) (k : VRL β x y) : VRL β (v :: x) (u :: y) :=
  ⟨by simp [k.1], fun i => by cases i with | zero => exact h | succ i => exact k.2 i⟩
theorem VRL.mono {β β' : Beta} (hs : Sub β β') {x y : List Value} (h : VRL β x y) : VRL β' x y := ⟨h.1, fun i => (h.2 i).mono hs⟩
theorem VRL.head {β : Beta} {v u : Value} {x y : List Value} (h : VRL β (v :: x) (u :: y)) : VR β v u := h.2 0
theorem VRL.tail {β : Beta} {v u : Value} {x y : List Value} (h : VRL β (v :: x) (u :: y)) : VRL β x y := ⟨by simpa using h.1, fun i => h.2 (i + 1)⟩
theorem VRL.append {β : Beta} {x y x' y' : List Value} (h : VRL β x y) (k : VRL β x' y') : VRL β (x ++ x') (y ++ y') := by
  refine ⟨by simp [h.1, k.1], fun i => ?_⟩
  simp only [List.getD_eq_getElem?_getD, List.getElem?_append]
  have e := h.1
  by_cases hi : i < x.length
  · rw [if_pos hi, if_pos (by omega)]; simpa [List.getD_eq_getElem?_getD] using h.2 i
  · rw [if_neg hi, if_neg (by omega), e]; simpa [List.getD_eq_getElem?_getD] using k.2 (i - y.length)
theorem VRL.drop {β : Beta} {x y : List Value} (h : VRL β x y) (n : Nat) : VRL β (x.drop n) (y.drop n) :=
  ⟨by simp [h.1], fun i => by simpa [List.getD_eq_getElem?_getD, List.getElem?_drop] using h.2 (n + i)⟩
theorem VRL.take {β : Beta} {x y : List Value} (h : VRL β x y) (n : Nat) : VRL β (x.take n) (y.take n) := by
  refine ⟨by simp [h.1], fun i => ?_⟩
  simp only [List.getD_eq_getElem?_getD, List.getElem?_take]
  by_cases hi : i < n
  · rw [if_pos hi, if_pos hi]; simpa [List.getD_eq_getElem?_getD] using h.2 i
  · rw [if_neg hi, if_neg hi]; exact .any _
theorem VRL.toArray {β : Beta} {x y : List Value} (h : VRL β x y) : x.toArray.size = y.toArray.size ∧ ∀ i : Nat, VR β (x.toArray.getD i undef) (y.toArray.getD i undef) :=
  ⟨by simpa using h.1, fun i => by simpa [List.getD_eq_getElem?_getD, Array.getD_eq_getD_getElem?] using h.2 i⟩
theorem VRL.ofArray {β : Beta} {x y : Array Value} (h1 : x.size = y.size) (h : ∀ i : Nat, VR β (x.getD i undef) (y.getD i undef)) : VRL β x.toList y.toList :=
  ⟨by simpa using h1, fun i => by simpa [List.getD_eq_getElem?_getD, Array.getD_eq_getD_getElem?] using h i⟩
theorem VRL.of_forall {β : Beta} : ∀ {x y : List Value}, x.length = y.length → (∀ i, i < x.length → VR β (x.getD i undef) (y.getD i undef)) → VRL β x y := by
  intro x y h1 h
  refine ⟨h1, fun i => ?_⟩
  by_cases hi : i < x.length
  · exact h i hi
  · rw [List.getD_eq_getElem?_getD, List.getElem?_eq_none (by omega)]; exact .any _

theorem VR.cell {β : Beta} {v u : Value} (h : VR β v u) (hc : isCell v = true) : u.oneCell' = true := by
  cases h <;> first | rfl | (simp [isCell] at hc; done) | skip
  rename_i h; cases v <;> first | rfl | (simp [isCell] at hc; done)
theorem VR.of_sc {β : Beta} {v u : Value} (h : VR β v u) (hc : Am.sc v = true) : u = v := by
  cases h <;> first | rfl | (simp [Am.sc] at hc; done)
theorem VRL.of_sc {β : Beta} : ∀ {x y : List Value}, VRL β x y → x.all Am.sc = true → y = x := by
  intro x
  induction x with
  | nil => intro y h _; exact List.eq_nil_of_length_eq_zero h.1.symm
  | cons v x ih =>
    intro y h hc
    cases y with
    | nil => simp [VRL] at h
    | cons u y =>
      simp only [List.all_cons, Bool.and_eq_true] at hc
      rw [h.head.of_sc hc.1, ih h.tail hc.2]
theorem VR.of_G {β : Beta} {v u : Value} (h : VR β v u) (hg : isG v = true) : u = v := by
  cases h with
  | agg h1 h3 =>
    have := (VRL.ofArray h1 h3).of_sc hg
    rw [Array.toList_inj.1 this]
  | _ => first | rfl | (simp [isG, Am.sc] at hg; done)
theorem VR.of_C0 (β : Beta) {v : Value} (h : sc0 v = true) : VR β v v := by
  cases v with
  | pointer a => cases a with | none => exact .pnil | some a => simp [sc0, Am.sc] at h
  | slice a n c =>
    cases a with
    | some a => simp [sc0, Am.sc] at h
    | none =>
      cases n with
      | succ n => simp [sc0, Am.sc] at h
      | zero => cases c with | succ c => simp [sc0, Am.sc] at h | zero => exact .snil
  | _ => first | exact .sc h | (simp [sc0, Am.sc] at h; done)
theorem VR.of_C (β : Beta) {v : Value} (h : isC v = true) : VR β v v := by
  cases v with
  | agg cs =>
    refine .agg rfl fun i => ?_
    simp only [isC, List.all_eq_true] at h
    by_cases hi : i < cs.size
    · have e : cs.getD i undef = cs[i] := by simp [Array.getD, hi]
      rw [e]; exact VR.of_C0 β (h _ (by simp))
    · have e : cs.getD i undef = undef := by simp [Array.getD, hi]
      rw [e]; exact .any _
  | _ => exact VR.of_C0 β h
theorem sc_of_G {v : Value} (h : isG v = true) : isC v = true := by
  cases v with
  | agg cs =>
    simp only [isG, isC, List.all_eq_true] at h ⊢
    intro x hx
    have := h x hx
    cases x <;> first | exact this | (simp [Am.sc] at this; done)
  | _ => first | exact h | (simp [isG, Am.sc] at h; done)
theorem VR.cells {β : Beta} {v u : Value} (h : VR β v u) (ht : isTup v = false) : VRL β v.cells.toList u.cells.toList := by
  cases h with
  | any v => simp [isTup] at ht
  | agg h1 h3 => exact VRL.ofArray h1 h3
  | tup h1 h3 => simp [isTup] at ht
  | sc h =>
    cases v <;> first | (simp [Am.sc] at h; done) | exact VRL.cons (.sc h) (VRL.nil β)
  | pnil => exact VRL.cons .pnil (VRL.nil β)
  | ptr h => exact VRL.cons (.ptr h) (VRL.nil β)
  | snil => exact VRL.cons .snil (VRL.nil β)
  | semp a => exact VRL.cons (.semp a) (VRL.nil β)
  | skip => simp [isTup] at ht
  | sl h h1 h2 h3 h4 => exact VRL.cons (.sl h h1 h2 h3 h4) (VRL.nil β)
  | fn h1 h2 h3 h4 => exact VRL.cons (.fn h1 h2 h3 h4) (VRL.nil β)
theorem VR.cells' {β : Beta} {v u : Value} (h : VR β v u) (hc : v.cells.toList.all isCell = true) : VRL β v.cells.toList u.cells.toList := by
  refine h.cells ?_
  cases v <;> first | rfl | (simp [Value.cells, isCell] at hc; done)
theorem VR.isTup {β : Beta} {v u : Value} (h : VR β v u) (ht : isTup v = false) : ∀ x, u ≠ .tuple x := by
  intro x hx; subst hx
  cases h with
  | any v => simp [Am.isTup] at ht
  | sc h => simp [Am.sc] at h
  | tup h1 h3 => simp [Am.isTup] at ht
  | skip => simp [Am.isTup] at ht

def live (H : Heap) (b : Nat) : Prop := ∃ T cs, H[b]? = some (some (T, cs))
theorem hget_some {H : Heap} {b : Nat} {c : TypeId × List Value} (h : hget H b = some c) : H[b]? = some (some c) := by
  unfold hget at h
  cases hb : H[b]? with
  | none => rw [hb] at h; cases h
  | some x => rw [hb] at h; cases x with | none => cases h | some y => cases h; rfl
theorem live.lt {H : Heap} {b : Nat} (h : live H b) : b < H.length := by
  obtain ⟨T, cs, h⟩ := h
  exact (List.getElem?_eq_some_iff.1 h).1

structure Sim (nf : Nat) (β : Beta) (H : Heap) (w : World) : Prop where
  dom : ∀ b x, β b = some x → b < H.length
  lt : ∀ b B s N, live H b → β b = some (B, s, N) → B < w.heap.size
  cell : ∀ b T cs B s N, H[b]? = some (some (T, cs)) → β b = some (B, s, N) → ∀ i, i < cs.length → isCell (cs.getD i undef) = true ∧ ∃ u, w.cell? ⟨B, s + i, none⟩ = some u ∧ VR β (cs.getD i undef) u
  own : ∀ b T cs B s N, nf ≤ b → H[b]? = some (some (T, cs)) → β b = some (B, s, N) → s + cs.length ≤ N ∧ ∀ off, off < N → (w.cell? ⟨B, off, none⟩).isSome = true ∧ w.frozen? ⟨B, off, none⟩ = false
  inj : ∀ b b' B s N s' N', nf ≤ b → live H b → live H b' → β b = some (B, s, N) → β b' = some (B, s', N') → b = b'

structure Post (nf base : Nat) (β : Beta) (H : Heap) (w : World) (β' : Beta) (H' : Heap) (w' : World) : Prop where
  sim : Sim nf β' H' w'
  len : H.length ≤ H'.length
  old : ∀ b, b < H.length → β' b = β b
  os : w'.os = w.os
  tape : w'.tape = w.tape
  output : w'.output = w.output
  size : w.heap.size ≤ w'.heap.size
  frame : ∀ B, B < w.heap.size → (∀ b s N, base ≤ b → live H b → β b = some (B, s, N) → False) → w'.heap[B]? = w.heap[B]?
  new : ∀ b B s N, H.length ≤ b → live H' b → β' b = some (B, s, N) → w.heap.size ≤ B ∨ ∃ b0 s0 N0, base ≤ b0 ∧ live H b0 ∧ ¬ live H' b0 ∧ β b0 = some (B, s0, N0)
  dead : ∀ b, b < H.length → live H' b → live H b

theorem Post.sub {nf base : Nat} {β β' : Beta} {H H' : Heap} {w w' : World} (h : Post nf base β H w β' H' w') (hs : Sim nf β H w) : Sub β β' :=
  fun b x hx => by rw [h.old b (hs.dom b x hx)]; exact hx
theorem Post.refl {nf base : Nat} {β : Beta} {H : Heap} {w : World} (hs : Sim nf β H w) : Post nf base β H w β H w :=
  ⟨hs, Nat.le_refl _, fun _ _ => rfl, rfl, rfl, rfl, Nat.le_refl _, fun _ _ _ => rfl, fun b B s N h1 h2 h3 => absurd (hs.dom b _ h3) (by omega), fun _ _ h => h⟩
theorem Post.mono {nf base base' : Nat} {β β' : Beta} {H H' : Heap} {w w' : World} (h : Post nf base' β H w β' H' w') (hb : base ≤ base') : Post nf base β H w β' H' w' :=
  { h with
    frame := fun B h1 h2 => h.frame B h1 (fun b s N k1 k2 k3 => h2 b s N (Nat.le_trans hb k1) k2 k3)
    new := fun b B s N h1 h2 h3 => (h.new b B s N h1 h2 h3).imp id (fun ⟨b0, s0, N0, k1, k2⟩ => ⟨b0, s0, N0, Nat.le_trans hb k1, k2⟩) }
theorem Post.trans {nf base : Nat} {β β1 β2 : Beta} {H H1 H2 : Heap} {w w1 w2 : World} (h : Post nf base β H w β1 H1 w1) (k : Post nf base β1 H1 w1 β2 H2 w2) : Post nf base β H w β2 H2 w2 where
  sim := k.sim
  len := Nat.le_trans h.len k.len
  old := fun b hb => (k.old b (Nat.lt_of_lt_of_le hb h.len)).trans (h.old b hb)
  os := k.os.trans h.os
  tape := k.tape.trans h.tape
  output := k.output.trans h.output
  size := Nat.le_trans h.size k.size
  frame := fun B h1 h2 => by
    refine (k.frame B (Nat.lt_of_lt_of_le h1 h.size) fun b s N k1 k2 k3 => ?_).trans (h.frame B h1 h2)
    by_cases hb : b < H.length
    · exact h2 b s N k1 (h.dead b hb k2) ((h.old b hb).symm.trans k3)
    · rcases h.new b B s N (by omega) k2 k3 with h5 | ⟨b0, s0, N0, e1, e2, _, e4⟩
      · omega
      · exact h2 b0 s0 N0 e1 e2 e4
  new := fun b B s N h1 h2 h3 => by
    by_cases hb : b < H1.length
    · have h4 := h.new b B s N h1 (k.dead b hb h2) ((k.old b hb).symm.trans h3)
      refine h4.imp id fun ⟨b0, s0, N0, e1, e2, e3, e4⟩ => ⟨b0, s0, N0, e1, e2, fun hl => e3 (k.dead b0 (Nat.lt_of_lt_of_le e2.lt h.len) hl), e4⟩
    · rcases k.new b B s N (by omega) h2 h3 with h5 | ⟨b0, s0, N0, e1, e2, e3, e4⟩
      · exact .inl (Nat.le_trans h.size h5)
      · by_cases hb0 : b0 < H.length
        · exact .inr ⟨b0, s0, N0, e1, h.dead b0 hb0 e2, e3, (h.old b0 hb0).symm.trans e4⟩
        · rcases h.new b0 B s0 N0 (by omega) e2 e4 with h6 | ⟨b1, s1, N1, f1, f2, f3, f4⟩
          · exact .inl h6
          · exact .inr ⟨b1, s1, N1, f1, f2, fun hl => f3 (k.dead b1 (Nat.lt_of_lt_of_le f2.lt h.len) hl), f4⟩
  dead := fun b hb hl => h.dead b hb (k.dead b (Nat.lt_of_lt_of_le hb h.len) hl)

/-- A world that differs in its draws alone. -/
theorem Sim.same {nf : Nat} {β : Beta} {H : Heap} {w w' : World} (hs : Sim nf β H w) (hh : w'.heap = w.heap) : Sim nf β H w' := by
  have hc : ∀ a, w'.cell? a = w.cell? a := fun a => by simp [World.cell?, hh]
  have hf : ∀ a, w'.frozen? a = w.frozen? a := fun a => by simp [World.frozen?, hh]
  exact ⟨hs.dom, fun b B s N h1 h2 => by rw [hh]; exact hs.lt b B s N h1 h2, fun b T cs B s N h1 h2 i hi => by rw [hc]; exact hs.cell b T cs B s N h1 h2 i hi,
    fun b T cs B s N h1 h2 h3 => by have := hs.own b T cs B s N h1 h2 h3; simpa [hc, hf] using this, hs.inj⟩
theorem Post.drew {nf base : Nat} {β : Beta} {H : Heap} {w : World} (hs : Sim nf β H w) : Post nf base β H w β H w.drew :=
  ⟨hs.same rfl, Nat.le_refl _, fun _ _ => rfl, rfl, rfl, rfl, Nat.le_refl _, fun _ _ _ => rfl, fun b B s N h1 h2 h3 => absurd (hs.dom b _ h3) (by omega), fun _ _ h => h⟩

def upd (β : Beta) (b : Nat) (x : Nat × Nat × Nat) : Beta := fun c => if c = b then some x else β c
theorem Sub.upd {nf : Nat} {β : Beta} {H : Heap} {w : World} (hs : Sim nf β H w) (x : Nat × Nat × Nat) : Sub β (upd β H.length x) := by
  intro b y hy
  have := hs.dom b y hy
  unfold Am.upd
  rw [if_neg (by omega)]; exact hy
theorem get_snoc (H : Heap) (x : Option (TypeId × List Value)) (b : Nat) : (H ++ [x])[b]? = if b = H.length then some x else H[b]? := by
  rw [List.getElem?_append]
  by_cases h : b < H.length
  · rw [if_pos h, if_neg (by omega)]
  · rw [if_neg h]
    by_cases h2 : b = H.length
    · subst h2; simp
    · rw [if_neg h2, List.getElem?_eq_none (by simp; omega), List.getElem?_eq_none (by omega)]
theorem get_kill (H : Heap) (d b : Nat) : (H.set d none)[b]? = if b = d ∧ b < H.length then some none else H[b]? := by
  rw [List.getElem?_set]
  by_cases h : d = b
  · subst h
    by_cases h2 : d < H.length
    · simp [h2]
    · simp [h2]
  · rw [if_neg h, if_neg (fun e => h e.1.symm)]

/-- A new block: 'arr' bears the cells 'cs' from 'off' on; an elder block 'kill' may die. -/
theorem Post.newBlock {nf base : Nat} {β : Beta} {H : Heap} {w w' : World} (hs : Sim nf β H w) (T : TypeId) (cs : List Value) (B N : Nat)
    (hB : B = w.heap.size) (hsz : w'.heap.size = w.heap.size + 1) (hos : w'.os = w.os) (htp : w'.tape = w.tape) (hout : w'.output = w.output)
    (hold : ∀ k, k < w.heap.size → w'.heap[k]? = w.heap[k]?)
    (hcs : ∀ i, i < cs.length → isCell (cs.getD i undef) = true ∧ ∃ u, w'.cell? ⟨B, i, none⟩ = some u ∧ VR β (cs.getD i undef) u)
    (hN : cs.length ≤ N) (hrow : ∀ off, off < N → (w'.cell? ⟨B, off, none⟩).isSome = true ∧ w'.frozen? ⟨B, off, none⟩ = false)
    (H1 : Heap) (hlen : H1.length = H.length) (hH1 : ∀ b : Nat, H1[b]? = H[b]? ∨ H1[b]? = some none) :
    Post nf base β H w (upd β H.length (B, 0, N)) (H1 ++ [some (T, cs)]) w' := by
  subst hB
  have hsub := Sub.upd hs (w.heap.size, 0, N)
  have hcell : ∀ a : Addr, a.block < w.heap.size → w'.cell? a = w.cell? a := fun a ha => World.cell?_of_block (w := w) (hold _ ha)
  have hfroz : ∀ a : Addr, a.block < w.heap.size → w'.frozen? a = w.frozen? a := fun a ha => World.frozen?_of_block (w := w) (hold _ ha)
  have hg : ∀ b c, (H1 ++ [some (T, cs)])[b]? = some (some c) → (b = H.length ∧ c = (T, cs)) ∨ (b < H.length ∧ H[b]? = some (some c)) := by
    intro b c h
    rw [get_snoc, hlen] at h
    by_cases hb : b = H.length
    · rw [if_pos hb] at h; exact .inl ⟨hb, by simpa using h.symm⟩
    · rw [if_neg hb] at h
      rcases hH1 b with e | e
      · rw [e] at h; exact .inr ⟨(List.getElem?_eq_some_iff.1 h).1, h⟩
      · rw [e] at h; simp at h
  have hl : ∀ b, live (H1 ++ [some (T, cs)]) b → b = H.length ∨ (b < H.length ∧ live H b) := by
    rintro b ⟨T', cs', h⟩
    rcases hg b _ h with ⟨h1, _⟩ | ⟨h1, h2⟩
    · exact .inl h1
    · exact .inr ⟨h1, _, _, h2⟩
  have hup : ∀ b x, upd β H.length (w.heap.size, 0, N) b = some x → (b = H.length ∧ x = (w.heap.size, 0, N)) ∨ (b ≠ H.length ∧ β b = some x) := by
    intro b x h
    unfold upd at h
    by_cases hb : b = H.length
    · rw [if_pos hb] at h; exact .inl ⟨hb, by simpa using h.symm⟩
    · rw [if_neg hb] at h; exact .inr ⟨hb, h⟩
  refine ⟨⟨?_, ?_, ?_, ?_, ?_⟩, by simp [hlen], ?_, hos, htp, hout, by omega, fun B hB _ => hold B hB, ?_, ?_⟩
  · intro b x h
    rcases hup b x h with ⟨h1, _⟩ | ⟨_, h2⟩
    · simp [h1, hlen]
    · have := hs.dom b x h2; simp [hlen]; omega
  · intro b B s N' h1 h2
    rcases hup b _ h2 with ⟨_, e⟩ | ⟨hb, h3⟩
    · simp only [Prod.mk.injEq] at e; omega
    · rcases hl b h1 with e | ⟨_, h4⟩
      · exact absurd e hb
      · have := hs.lt b B s N' h4 h3; omega
  · intro b T' cs' B s N' h1 h2 i hi
    rcases hg b _ h1 with ⟨hb, e⟩ | ⟨hb, h3⟩
    · rcases hup b _ h2 with ⟨_, e2⟩ | ⟨hb2, _⟩
      · simp only [Prod.mk.injEq] at e e2
        obtain ⟨rfl, rfl⟩ := e
        obtain ⟨rfl, rfl, rfl⟩ := e2
        obtain ⟨k1, u, k2, k3⟩ := hcs i hi
        exact ⟨k1, u, by simpa using k2, k3.mono hsub⟩
      · exact absurd hb hb2
    · rcases hup b _ h2 with ⟨e, _⟩ | ⟨_, h4⟩
      · omega
      · obtain ⟨k1, u, k2, k3⟩ := hs.cell b T' cs' B s N' h3 h4 i hi
        have hlt := hs.lt b B s N' ⟨_, _, h3⟩ h4
        exact ⟨k1, u, (hcell _ hlt).trans k2, k3.mono hsub⟩
  · intro b T' cs' B s N' h0 h1 h2
    rcases hg b _ h1 with ⟨hb, e⟩ | ⟨hb, h3⟩
    · rcases hup b _ h2 with ⟨_, e2⟩ | ⟨hb2, _⟩
      · simp only [Prod.mk.injEq] at e e2
        obtain ⟨rfl, rfl⟩ := e
        obtain ⟨rfl, rfl, rfl⟩ := e2
        exact ⟨by omega, hrow⟩
      · exact absurd hb hb2
    · rcases hup b _ h2 with ⟨e, _⟩ | ⟨_, h4⟩
      · omega
      · obtain ⟨k1, k2⟩ := hs.own b T' cs' B s N' h0 h3 h4
        have hlt := hs.lt b B s N' ⟨_, _, h3⟩ h4
        exact ⟨k1, fun off ho => by rw [hcell _ hlt, hfroz _ hlt]; exact k2 off ho⟩
  · intro b b' B s N' s' N'' h0 h1 h1' h2 h2'
    rcases hup b _ h2 with ⟨e1, e2⟩ | ⟨e1, h3⟩ <;> rcases hup b' _ h2' with ⟨e1', e2'⟩ | ⟨e1', h3'⟩
    · omega
    · simp only [Prod.mk.injEq] at e2
      rcases hl b' h1' with e | ⟨_, h4⟩
      · exact absurd e e1'
      · have := hs.lt b' _ _ _ h4 h3'; omega
    · simp only [Prod.mk.injEq] at e2'
      rcases hl b h1 with e | ⟨_, h4⟩
      · exact absurd e e1
      · have := hs.lt b _ _ _ h4 h3; omega
    · rcases hl b h1 with e | ⟨_, h4⟩
      · exact absurd e e1
      rcases hl b' h1' with e | ⟨_, h4'⟩
      · exact absurd e e1'
      exact hs.inj b b' B s N' s' N'' h0 h4 h4' h3 h3'
  · intro b hb
    unfold upd; rw [if_neg (by omega)]
  · intro b B s N' hb h1 h2
    rcases hup b _ h2 with ⟨_, e⟩ | ⟨hb2, h3⟩
    · simp only [Prod.mk.injEq] at e; exact .inl (by omega)
    · have := hs.dom b _ h3; omega
  · intro b hb h
    rcases hl b h with e | ⟨_, h4⟩
    · omega
    · exact h4

theorem length_setAll : ∀ (vs : List Value) (o : Nat) (cs : List Value), (setAll cs o vs).length = cs.length
  | [], _, _ => rfl
  | v :: vs, o, cs => by rw [setAll, length_setAll vs]; simp
theorem getD_setAll : ∀ (vs : List Value) (o : Nat) (cs : List Value) (i : Nat), o + vs.length ≤ cs.length → (setAll cs o vs).getD i undef = if o ≤ i ∧ i < o + vs.length then vs.getD (i - o) undef else cs.getD i undef
  | [], o, cs, i, _ => by rw [setAll, if_neg (by simp only [List.length_nil]; omega)]
  | v :: vs, o, cs, i, h => by
    rw [setAll, getD_setAll vs (o + 1) (cs.set o v) i (by simp at h ⊢; omega)]
    simp only [List.length_cons] at h ⊢
    by_cases h1 : o + 1 ≤ i ∧ i < o + 1 + vs.length
    · rw [if_pos h1, if_pos (by omega), show i - o = (i - (o + 1)) + 1 by omega]; rfl
    · rw [if_neg h1]
      by_cases h2 : i = o
      · subst h2; rw [if_pos (by omega)]; simp [List.getD_eq_getElem?_getD]; rw [List.getElem?_set_self (by omega)]; rfl
      · rw [if_neg (by omega)]; simp only [List.getD_eq_getElem?_getD]; rw [List.getElem?_set_ne (by omega)]

theorem cell_setCells_out (b : Nat) : ∀ (vs : List Value) (o : Nat) (w : World) (a : Addr), (a.block ≠ b ∨ a.off < o ∨ o + vs.length ≤ a.off) → (w.setCells b o vs).cell? a = w.cell? a
  | [], _, _, _, _ => rfl
  | v :: r, o, w, a, h => by
    rw [World.setCells, cell_setCells_out b r (o + 1) _ a (by simp only [List.length_cons] at h; omega)]
    refine World.cell?_setCell_other _ _ _ _ fun e => ?_
    subst e
    simp only [List.length_cons, ne_eq, not_true_eq_false, false_or] at h
    omega
theorem size_setCells (b : Nat) : ∀ (vs : List Value) (o : Nat) (w : World), (w.setCells b o vs).heap.size = w.heap.size
  | [], _, _ => rfl
  | v :: r, o, w => by rw [World.setCells, size_setCells b r]; simp
theorem heap_setCells (b : Nat) : ∀ (vs : List Value) (o : Nat) (w : World) (k : Nat), k ≠ b → (w.setCells b o vs).heap[k]? = w.heap[k]?
  | [], _, _, _, _ => rfl
  | v :: r, o, w, k, h => by rw [World.setCells, heap_setCells b r _ _ k h, RowKit.Below.heap_setCell _ _ _ _ h]
theorem os_setCells (b : Nat) : ∀ (vs : List Value) (o : Nat) (w : World), (w.setCells b o vs).os = w.os ∧ (w.setCells b o vs).tape = w.tape ∧ (w.setCells b o vs).output = w.output
  | [], _, _ => ⟨rfl, rfl, rfl⟩
  | v :: r, o, w => by rw [World.setCells]; exact os_setCells b r _ _

/-- Cells of an own block are set; the block may get a new number. -/
theorem Post.setBlock {nf base : Nat} {β : Beta} {H : Heap} {w : World} (hs : Sim nf β H w) (hnb : nf ≤ base) {b B s N : Nat} {cs0 cs1 vs us : List Value} {T' : TypeId} (hb : base ≤ b) (hH : H[b]? = some (some (T', cs0))) (hβ : β b = some (B, s, N))
    (o : Nat) (ho : o + us.length ≤ N) (hlen : s + cs1.length ≤ N) (hv : VRL β vs us) (hcl : ∀ v ∈ vs, isCell v = true)
    (hnew : ∀ i, i < cs1.length → (o ≤ s + i ∧ s + i < o + vs.length ∧ cs1.getD i undef = vs.getD (s + i - o) undef) ∨ ((s + i < o ∨ o + vs.length ≤ s + i) ∧ i < cs0.length ∧ cs1.getD i undef = cs0.getD i undef)) :
    Post nf base β H w β (H.set b (some (T', cs1))) (w.setCells B o us) := by
  have hlb : b < H.length := (List.getElem?_eq_some_iff.1 hH).1
  have hBlt := hs.lt b B s N ⟨_, _, hH⟩ hβ
  have hset : ∀ k, (H.set b (some (T', cs1)))[k]? = if k = b then some (some (T', cs1)) else H[k]? := by
    intro k; rw [List.getElem?_set]
    by_cases h : b = k
    · subst h; simp [hlb]
    · rw [if_neg h, if_neg (fun e => h e.symm)]
  have hl : ∀ k, live (H.set b (some (T', cs1))) k ↔ live H k := by
    intro k
    constructor
    · rintro ⟨T2, c2, h⟩
      rw [hset] at h
      by_cases hk : k = b
      · subst hk; exact ⟨_, _, hH⟩
      · rw [if_neg hk] at h; exact ⟨_, _, h⟩
    · rintro ⟨T2, c2, h⟩
      by_cases hk : k = b
      · subst hk; exact ⟨_, _, by rw [hset, if_pos rfl]⟩
      · exact ⟨_, _, by rw [hset, if_neg hk]; exact h⟩
  have hone : ∀ k s' N', live H k → β k = some (B, s', N') → k = b := fun k s' N' h1 h2 => (hs.inj b k B s N s' N' (Nat.le_trans hnb hb) ⟨_, _, hH⟩ h1 hβ h2).symm
  obtain ⟨hfit, hrow⟩ := hs.own b T' cs0 B s N (Nat.le_trans hnb hb) hH hβ
  have hin : ∀ j, j < us.length → (w.setCells B o us).cell? ⟨B, o + j, none⟩ = us[j]? := fun j hj => (World.cell?_setCells_in B us o w (fun i hi => (hrow (o + i) (by omega)).1) j hj).trans (List.getElem?_eq_getElem hj).symm
  have hvl : vs.length = us.length := hv.1
  refine ⟨⟨?_, ?_, ?_, ?_, ?_⟩, by simp, fun _ _ => rfl, (os_setCells _ _ _ _).1, (os_setCells _ _ _ _).2.1, (os_setCells _ _ _ _).2.2, by rw [size_setCells]; exact Nat.le_refl _, ?_, ?_, fun k _ h => (hl k).1 h⟩
  · intro k x h; simpa using hs.dom k x h
  · intro k B' s' N' h1 h2; rw [size_setCells]; exact hs.lt k B' s' N' ((hl k).1 h1) h2
  · intro k T2 c2 B' s' N' h1 h2 i hi
    rw [hset] at h1
    by_cases hk : k = b
    · subst hk
      rw [if_pos rfl] at h1
      simp only [Option.some.injEq, Prod.mk.injEq] at h1
      obtain ⟨rfl, rfl⟩ := h1
      rw [hβ] at h2
      simp only [Option.some.injEq, Prod.mk.injEq] at h2
      obtain ⟨rfl, rfl, rfl⟩ := h2
      rcases hnew i hi with ⟨e1, e2, e3⟩ | ⟨e1, e2, e3⟩
      · rw [e3]
        have hj : s + i - o < vs.length := by omega
        refine ⟨hcl _ (by rw [List.getD_eq_getElem?_getD, List.getElem?_eq_getElem hj]; exact List.getElem_mem hj), ?_⟩
        have h7 := hin (s + i - o) (by omega)
        rw [show o + (s + i - o) = s + i by omega] at h7
        refine ⟨us.getD (s + i - o) undef, ?_, hv.2 _⟩
        rw [h7, List.getD_eq_getElem?_getD, List.getElem?_eq_getElem (by omega)]; rfl
      · rw [e3]
        obtain ⟨k1, u, k2, k3⟩ := hs.cell k _ cs0 B s N hH hβ i e2
        exact ⟨k1, u, (cell_setCells_out B us o w _ (by simp; omega)).trans k2, k3⟩
    · rw [if_neg hk] at h1
      obtain ⟨k1, u, k2, k3⟩ := hs.cell k T2 c2 B' s' N' h1 h2 i hi
      refine ⟨k1, u, (cell_setCells_out B us o w _ (.inl fun e => ?_)).trans k2, k3⟩
      simp only at e; subst e
      exact hk (hone k s' N' ⟨_, _, h1⟩ h2)
  · intro k T2 c2 B' s' N' h0 h1 h2
    rw [hset] at h1
    have hsame : ∀ off, off < N' → B' = B → N' = N → ((w.setCells B o us).cell? ⟨B', off, none⟩).isSome = true := by
      intro off h3 h4 h5
      subst h4; subst h5
      by_cases h6 : o ≤ off ∧ off < o + us.length
      · have h7 := hin (off - o) (by omega)
        rw [show o + (off - o) = off by omega] at h7
        rw [h7, List.getElem?_eq_getElem (by omega)]; rfl
      · rw [cell_setCells_out B' us o w _ (by simp; omega)]; exact (hrow off h3).1
    by_cases hk : k = b
    · subst hk
      rw [if_pos rfl] at h1
      simp only [Option.some.injEq, Prod.mk.injEq] at h1
      obtain ⟨rfl, rfl⟩ := h1
      rw [hβ] at h2
      simp only [Option.some.injEq, Prod.mk.injEq] at h2
      obtain ⟨rfl, rfl, rfl⟩ := h2
      exact ⟨hlen, fun off ho => ⟨hsame off ho rfl rfl, by rw [World.frozen?_setCells]; exact (hrow off ho).2⟩⟩
    · rw [if_neg hk] at h1
      obtain ⟨k1, k2⟩ := hs.own k T2 c2 B' s' N' h0 h1 h2
      refine ⟨k1, fun off ho => ⟨?_, by rw [World.frozen?_setCells]; exact (k2 off ho).2⟩⟩
      rw [cell_setCells_out B us o w _ (.inl fun e => ?_)]
      · exact (k2 off ho).1
      · simp only at e; subst e
        exact hk (hone k s' N' ⟨_, _, h1⟩ h2)
  · intro k k' B' s1 N1 s2 N2 h0 h1 h1' h2 h2'
    exact hs.inj k k' B' s1 N1 s2 N2 h0 ((hl k).1 h1) ((hl k').1 h1') h2 h2'
  · intro B' hB' hno
    refine heap_setCells B us o w B' fun e => ?_
    subst e
    exact hno b s N hb ⟨_, _, hH⟩ hβ
  · intro k B' s' N' h1 h2 h3
    exact absurd (hs.dom k _ h3) (by omega)

/-- A block gets a new number, its cells another first one. -/
theorem Post.rename {nf base : Nat} {β : Beta} {H : Heap} {w : World} (hs : Sim nf β H w) (hnb : nf ≤ base) {b B s s' N : Nat} {cs0 cs1 : List Value} {T : TypeId} (hb : base ≤ b) (hH : H[b]? = some (some (T, cs0))) (hβ : β b = some (B, s, N))
    (hfit : s' + cs1.length ≤ N) (hcs : ∀ i, i < cs1.length → isCell (cs1.getD i undef) = true ∧ ∃ u, w.cell? ⟨B, s' + i, none⟩ = some u ∧ VR β (cs1.getD i undef) u) :
    Post nf base β H w (upd β H.length (B, s', N)) (H.set b none ++ [some (T, cs1)]) w := by
  have hlb : b < H.length := (List.getElem?_eq_some_iff.1 hH).1
  have hsub := Sub.upd hs (B, s', N)
  have hBlt := hs.lt b B s N ⟨_, _, hH⟩ hβ
  have hone : ∀ k s' N', live H k → β k = some (B, s', N') → k = b := fun k s' N' h1 h2 => (hs.inj b k B s N s' N' (Nat.le_trans hnb hb) ⟨_, _, hH⟩ h1 hβ h2).symm
  have hg : ∀ k c, (H.set b none ++ [some (T, cs1)])[k]? = some (some c) → (k = H.length ∧ c = (T, cs1)) ∨ (k < H.length ∧ k ≠ b ∧ H[k]? = some (some c)) := by
    intro k c h
    rw [get_snoc, List.length_set] at h
    by_cases hk : k = H.length
    · rw [if_pos hk] at h; exact .inl ⟨hk, by simpa using h.symm⟩
    · rw [if_neg hk, get_kill] at h
      by_cases hk2 : k = b ∧ k < H.length
      · rw [if_pos hk2] at h; simp at h
      · rw [if_neg hk2] at h
        have hlt := (List.getElem?_eq_some_iff.1 h).1
        exact .inr ⟨hlt, fun e => hk2 ⟨e, hlt⟩, h⟩
  have hl : ∀ k, live (H.set b none ++ [some (T, cs1)]) k → k = H.length ∨ (k < H.length ∧ k ≠ b ∧ live H k) := by
    rintro k ⟨T2, c2, h⟩
    rcases hg k _ h with ⟨h1, _⟩ | ⟨h1, h2, h3⟩
    · exact .inl h1
    · exact .inr ⟨h1, h2, _, _, h3⟩
  have hup : ∀ k x, upd β H.length (B, s', N) k = some x → (k = H.length ∧ x = (B, s', N)) ∨ (k ≠ H.length ∧ β k = some x) := by
    intro k x h
    unfold upd at h
    by_cases hk : k = H.length
    · rw [if_pos hk] at h; exact .inl ⟨hk, by simpa using h.symm⟩
    · rw [if_neg hk] at h; exact .inr ⟨hk, h⟩
  obtain ⟨_, hrow⟩ := hs.own b T cs0 B s N (Nat.le_trans hnb hb) hH hβ
  refine ⟨⟨?_, ?_, ?_, ?_, ?_⟩, by simp, ?_, rfl, rfl, rfl, Nat.le_refl _, fun _ _ _ => rfl, ?_, ?_⟩
  · intro k x h
    rcases hup k x h with ⟨h1, _⟩ | ⟨_, h2⟩
    · simp [h1]
    · have := hs.dom k x h2; simp; omega
  · intro k B2 s2 N2 h1 h2
    rcases hup k _ h2 with ⟨_, e⟩ | ⟨hk, h3⟩
    · simp only [Prod.mk.injEq] at e; omega
    · rcases hl k h1 with e | ⟨_, _, h4⟩
      · exact absurd e hk
      · exact hs.lt k B2 s2 N2 h4 h3
  · intro k T2 c2 B2 s2 N2 h1 h2 i hi
    rcases hg k _ h1 with ⟨hk, e⟩ | ⟨hk, hk2, h3⟩
    · rcases hup k _ h2 with ⟨_, e2⟩ | ⟨hb2, _⟩
      · simp only [Prod.mk.injEq] at e e2
        obtain ⟨rfl, rfl⟩ := e
        obtain ⟨rfl, rfl, rfl⟩ := e2
        obtain ⟨k1, u, k2, k3⟩ := hcs i hi
        exact ⟨k1, u, k2, k3.mono hsub⟩
      · exact absurd hk hb2
    · rcases hup k _ h2 with ⟨e, _⟩ | ⟨_, h4⟩
      · omega
      · obtain ⟨k1, u, k2, k3⟩ := hs.cell k T2 c2 B2 s2 N2 h3 h4 i hi
        exact ⟨k1, u, k2, k3.mono hsub⟩
  · intro k T2 c2 B2 s2 N2 h0 h1 h2
    rcases hg k _ h1 with ⟨hk, e⟩ | ⟨hk, hk2, h3⟩
    · rcases hup k _ h2 with ⟨_, e2⟩ | ⟨hb2, _⟩
      · simp only [Prod.mk.injEq] at e e2
        obtain ⟨rfl, rfl⟩ := e
        obtain ⟨rfl, rfl, rfl⟩ := e2
        exact ⟨hfit, hrow⟩
      · exact absurd hk hb2
    · rcases hup k _ h2 with ⟨e, _⟩ | ⟨_, h4⟩
      · omega
      · exact hs.own k T2 c2 B2 s2 N2 h0 h3 h4
  · intro k k' B2 s1 N1 s2 N2 h0 h1 h1' h2 h2'
    rcases hup k _ h2 with ⟨e1, e2⟩ | ⟨e1, h3⟩ <;> rcases hup k' _ h2' with ⟨e1', e2'⟩ | ⟨e1', h3'⟩
    · omega
    · simp only [Prod.mk.injEq] at e2
      rcases hl k' h1' with e | ⟨_, h5, h4⟩
      · exact absurd e e1'
      · rw [e2.1] at h3'
        exact absurd (hone k' _ _ h4 h3') h5
    · simp only [Prod.mk.injEq] at e2'
      rcases hl k h1 with e | ⟨_, h5, h4⟩
      · exact absurd e e1
      · rw [e2'.1] at h3
        exact absurd (hone k _ _ h4 h3) h5
    · rcases hl k h1 with e | ⟨_, _, h4⟩
      · exact absurd e e1
      rcases hl k' h1' with e | ⟨_, _, h4'⟩
      · exact absurd e e1'
      exact hs.inj k k' B2 s1 N1 s2 N2 h0 h4 h4' h3 h3'
  · intro k hk
    unfold upd; rw [if_neg (by omega)]
  · intro k B2 s2 N2 hk h1 h2
    rcases hup k _ h2 with ⟨_, e⟩ | ⟨hk2, h3⟩
    · simp only [Prod.mk.injEq] at e
      refine .inr ⟨b, s, N, hb, ⟨_, _, hH⟩, ?_, by rw [e.1]; exact hβ⟩
      intro h
      rcases hl b h with e | ⟨_, e, _⟩
      · omega
      · exact e rfl
    · exact absurd (hs.dom k _ h3) (by omega)
  · intro k hk h
    rcases hl k h with e | ⟨_, _, h4⟩
    · omega
    · exact h4

end Go.Am

/- A small machine over lists in the place of the memory: what an operation comes to there, it comes to in the real machine. No conditions. -/
namespace Go.Am
set_option linter.unusedSimpArgs false
set_option linter.unusedVariables false

theorem prun_run {α : Type} (P : Program) : ∀ (s : Sem α) (a : α), prun P s = some a → ∀ w, s.run P w = .ok a w := by
  intro s
  induction s with
  | pure a => intro b h w; simp only [prun, Option.some.injEq] at h; subst h; rfl
  | program k ih => intro b h w; simp only [prun] at h; exact ih P b h w
  | mark m k ih => intro b h w; simp only [prun] at h; exact ih b h w
  | choose q k ih =>
    intro b h w
    simp only [prun] at h
    by_cases hq : q.forced = true
    · rw [if_pos hq] at h; simp only [Sem.run, hq, if_true]; exact ih 0 b h w
    · rw [if_neg hq] at h; cases h
  | _ => intro b h w; simp [prun] at h

def Does (P : Program) (nf base : Nat) (β : Beta) (H : Heap) (w : World) (a : Act) (o : Oper) (v : Value) (H' : Heap) : Prop :=
  ∀ (next : Act → World → Prop) (Q : Exit → Act → World → Prop), (∀ β' w' v', VR β' v v' → Post nf base β H w β' H' w' → next (a.put o.dst v') w') → o.wp P a w next Q

section
variable {P : Program} {nf base : Nat} {β : Beta} {H H' : Heap} {w : World} {a : Act} {o : Oper} {v : Value} {ρ : Env}

theorem does_value {v' : Value} {w' : World} {β' : Beta} (h : (execOp a.eval o).run P w = .ok (.value v') w') (hv : VR β' v v') (hp : Post nf base β H w β' H' w') : Does P nf base β H w a o v H' := by
  intro next Q hn
  unfold Oper.wp
  rw [h]
  exact hn _ _ _ hv hp
theorem does_same (hs : Sim nf β H w) {v' : Value} (h : (execOp a.eval o).run P w = .ok (.value v') w) (hv : VR β v v') : Does P nf base β H w a o v H := does_value h hv (.refl hs)
theorem does_skip {w' : World} {β' : Beta} (h : (execOp a.eval o).run P w = .ok .skip w') (hp : Post nf base β H w β' H' w') : Does P nf base β H w a o (.tuple #[]) H' := by
  intro next Q hn
  unfold Oper.wp
  rw [h]
  exact hn _ _ _ (.any _) hp

theorem run_v (s : Sem Value) {x : Value} {w' : World} (h : s.run P w = .ok x w') : (do pure (Next.value (← s)) : Sem Next).run P w = .ok (.value x) w' := by
  simp only [Sem.run_bind, h, Result.andThen_ok, Sem.run_pure]
theorem run_u (s : Sem Unit) {w' : World} (h : s.run P w = .ok () w') : (do s; pure Next.skip : Sem Next).run P w = .ok .skip w' := by
  simp only [Sem.run_bind, h, Result.andThen_ok, Sem.run_pure]

theorem run_und {t : TypeId} {d : TypeDesc} (h : P.underlying t = some d) : (underlying t).run P w = .ok d w := by simp [underlying, h]
theorem run_info {t : TypeId} {i : TypeInfo} (h : P.info? t = some i) : (typeInfo t).run P w = .ok i w := by simp [typeInfo, h]
theorem run_size {t : TypeId} {n : Nat} (h : tySize P t = some n) : (sizeOf t).run P w = .ok n w := by
  unfold tySize at h
  cases hi : P.info? t with
  | none => rw [hi] at h; cases h
  | some i => rw [hi] at h; simp only [Option.map_some, Option.some.injEq] at h; subst h; simp [sizeOf, run_info hi]
theorem run_zero {t : TypeId} {z : Value} (h : tyZero P t = some z) : (zeroValue t).run P w = .ok z w := by
  unfold tyZero at h
  cases hi : P.info? t with
  | none => rw [hi] at h; cases h
  | some i => rw [hi] at h; simp only [Option.bind_some] at h; simp [zeroValue, run_info hi, h]
theorem run_isAgg {t : TypeId} {g : Bool} (h : tyAgg P t = some g) : (isAgg t).run P w = .ok g w := by
  unfold tyAgg at h
  cases hi : P.underlying t with
  | none => rw [hi] at h; cases h
  | some d =>
    rw [hi] at h; simp only [Option.map_some, Option.some.injEq] at h; subst h
    cases d <;> simp [isAgg, run_und hi]
theorem elem_und {t e : TypeId} (h : tyElem P t = some e) : P.underlying t = some (.slice e) := by
  unfold tyElem at h
  cases hi : P.underlying t with
  | none => rw [hi] at h; cases h
  | some d => rw [hi] at h; cases d <;> simp at h; rw [h]
theorem fields_und {t : TypeId} {fs : List (Nat × TypeId)} (h : tyFields P t = some fs) : ∃ fields : Array Field, P.underlying t = some (.struct fields) ∧ fs = fields.toList.map fun f => (f.offset, f.type) := by
  unfold tyFields at h
  cases hi : P.underlying t with
  | none => rw [hi] at h; cases h
  | some d => rw [hi] at h; cases d <;> simp at h; exact ⟨_, rfl, h.symm⟩
theorem field_at {fields : Array Field} {fs : List (Nat × TypeId)} (h : fs = fields.toList.map fun f => (f.offset, f.type)) {i : Nat} {x : Nat × TypeId} (hx : fs[i]? = some x) : ∃ f, fields[i]? = some f ∧ x = (f.offset, f.type) := by
  subst h
  simp only [List.getElem?_map, Array.getElem?_toList] at hx
  cases hf : fields[i]? with
  | none => rw [hf] at hx; cases hx
  | some f => rw [hf] at hx; simp at hx; exact ⟨f, rfl, hx.symm⟩

theorem add_none (B off n : Nat) : (⟨B, off, none⟩ : Addr).add n = ⟨B, off + n, none⟩ := by
  unfold Addr.add
  split
  · subst_vars; rfl
  · rfl

/-- Operations over values without places. -/
theorem ground_eval (hx : ∀ x ∈ o.op.operands, VR β (ev ρ x) (a.eval x)) (hg : o.op.operands.toList.all (fun x => isG (ev ρ x)) = true) (hsel : ∀ cs b, o.op ≠ .select cs b) : execOp a.eval o = execOp (ev ρ) o := by
  refine execOp_congr o hsel fun x hxm => (hx x hxm).of_G ?_
  rw [List.all_eq_true] at hg
  exact hg x (by simpa using hxm)
theorem ground_run (hx : ∀ x ∈ o.op.operands, VR β (ev ρ x) (a.eval x)) (hsel : ∀ cs b, o.op ≠ .select cs b) (h : groundA P ρ o = some v) : (execOp a.eval o).run P w = .ok (.value v) w ∧ VR β v v := by
  unfold groundA at h
  by_cases hg : o.op.operands.toList.all (fun x => isG (ev ρ x)) = true
  · rw [if_pos hg] at h
    obtain ⟨n, h1, h2⟩ := Option.bind_eq_some_iff.1 h
    cases n with
    | value u =>
      simp only at h2
      by_cases hu : isG u = true
      · rw [if_pos hu] at h2
        cases h2
        rw [ground_eval hx hg hsel]
        exact ⟨prun_run P _ _ h1 w, VR.of_C β (sc_of_G hu)⟩
      · rw [if_neg hu] at h2; cases h2
    | _ => cases h2
  · rw [if_neg hg] at h; cases h
theorem ground_does (hs : Sim nf β H w) (hx : ∀ x ∈ o.op.operands, VR β (ev ρ x) (a.eval x)) (hsel : ∀ cs b, o.op ≠ .select cs b) {r : Value × Heap} (h : valH H (groundA P ρ o) = some r) : Does P nf base β H w a o r.1 r.2 := by
  unfold valH at h
  cases hg : groundA P ρ o with
  | none => rw [hg] at h; cases h
  | some u =>
    rw [hg] at h; cases h
    obtain ⟨h1, h2⟩ := ground_run hx hsel hg (w := w)
    exact does_same hs h1 h2

/-- A window of a block's cells. -/
theorem Sim.window (hs : Sim nf β H w) {b B s N o n : Nat} {T : TypeId} {cs : List Value} (hH : H[b]? = some (some (T, cs))) (hβ : β b = some (B, s, N)) (hn : o + n ≤ cs.length) :
    ∃ us : List Value, us.length = n ∧ VRL β ((cs.drop o).take n) us ∧ (∀ v ∈ (cs.drop o).take n, isCell v = true) ∧ ∀ (j : Nat) (u : Value), us[j]? = some u → w.cell? ⟨B, s + o + j, none⟩ = some u := by
  refine ⟨(List.range n).map fun j => (w.cell? ⟨B, s + (o + j), none⟩).getD undef, by simp, ?_, ?_, ?_⟩
  · refine VRL.of_forall (by simp; omega) fun i hi => ?_
    simp only [List.length_take, List.length_drop] at hi
    obtain ⟨_, u, h2, h3⟩ := hs.cell b T cs B s N hH hβ (o + i) (by omega)
    have e1 : ((cs.drop o).take n).getD i undef = cs.getD (o + i) undef := by
      simp only [List.getD_eq_getElem?_getD, List.getElem?_take, List.getElem?_drop]; rw [if_pos (by omega)]
    have e2 : (((List.range n).map fun j => (w.cell? ⟨B, s + (o + j), none⟩).getD undef)).getD i undef = u := by
      simp only [List.getD_eq_getElem?_getD, List.getElem?_map]
      rw [List.getElem?_range (by omega)]; simp [h2]
    rw [e1, e2]; exact h3
  · intro v hv
    obtain ⟨i, hi, rfl⟩ := List.mem_iff_getElem.1 hv
    simp only [List.length_take, List.length_drop] at hi
    have := (hs.cell b T cs B s N hH hβ (o + i) (by omega)).1
    simp only [List.getElem_take, List.getElem_drop]
    rwa [List.getD_eq_getElem?_getD, List.getElem?_eq_getElem (by omega), Option.getD_some] at this
  · intro j u hu
    simp only [List.getElem?_map] at hu
    by_cases hj : j < n
    · rw [List.getElem?_range hj] at hu
      simp only [Option.map_some, Option.some.injEq] at hu
      obtain ⟨_, x, h2, _⟩ := hs.cell b T cs B s N hH hβ (o + j) (by omega)
      rw [h2] at hu; subst hu
      rw [Nat.add_assoc, h2]; rfl
    · rw [List.getElem?_eq_none (by simp; omega)] at hu; cases hu

theorem load_does (hs : Sim nf β H w) {t : TypeId} {x : Value} {x' : Value} (hx : VR β x x') {u : Value} (h : loadA P H t x = some u) : ∃ u', (Instr.loadAt t x').run P w = .ok u' w ∧ VR β u u' := by
  unfold loadA at h
  split at h
  · rename_i b o
    obtain ⟨c, hc, h⟩ := Option.bind_eq_some_iff.1 h
    obtain ⟨g, hg, h⟩ := Option.bind_eq_some_iff.1 h
    cases hx with
    | sc h => simp [Am.sc] at h
    | ptr hβ =>
      rename_i B s N
      have hH := hget_some hc
      cases g with
      | true =>
        simp only at h
        obtain ⟨n, hn, h⟩ := Option.bind_eq_some_iff.1 h
        by_cases hle : o + n ≤ c.2.length
        · rw [if_pos hle] at h
          cases h
          obtain ⟨us, h1, h2, h3, h4⟩ := hs.window (T := c.1) (cs := c.2) hH hβ hle
          refine ⟨.agg us.toArray, ?_, .agg h2.toArray.1 h2.toArray.2⟩
          have h5 := run_loadCells_list (P := P) w ⟨B, s + o, none⟩ us (fun j v hj => by rw [add_none]; exact h4 j v hj)
          rw [h1] at h5
          simp [Instr.loadAt, Instr.sureAddr, loadVar, run_isAgg hg, run_size hn, h5]
        · rw [if_neg hle] at h; cases h
      | false =>
        simp only at h
        obtain ⟨hlt, he⟩ := List.getElem?_eq_some_iff.1 h
        obtain ⟨_, u', h2, h3⟩ := hs.cell b c.1 c.2 B s N hH hβ o hlt
        have e : c.2.getD o undef = u := by rw [List.getD_eq_getElem?_getD, h]; rfl
        rw [e] at h3
        exact ⟨u', by simp [Instr.loadAt, Instr.sureAddr, loadVar, run_isAgg hg, h2], h3⟩
  · cases h

theorem VRL.all_cell {x y : List Value} (h : VRL β x y) (hc : ∀ v ∈ x, isCell v = true) : ∀ u ∈ y, u.oneCell' = true := by
  intro u hu
  obtain ⟨i, hi, rfl⟩ := List.mem_iff_getElem.1 hu
  have hx : i < x.length := by rw [h.1]; exact hi
  have := h.2 i
  rw [List.getD_eq_getElem?_getD, List.getD_eq_getElem?_getD, List.getElem?_eq_getElem hi, List.getElem?_eq_getElem hx] at this
  exact this.cell (hc _ (List.getElem_mem hx))

/-- Cells written into an own block. -/
theorem write_own (hs : Sim nf β H w) (hnb : nf ≤ base) {b B s N o : Nat} {T : TypeId} {cs vs us : List Value} (hb : base ≤ b) (hH : H[b]? = some (some (T, cs))) (hβ : β b = some (B, s, N))
    (hle : o + vs.length ≤ cs.length) (hv : VRL β vs us) (hcl : ∀ v ∈ vs, isCell v = true) :
    (storeCells ⟨B, s + o, none⟩ us).run P w = .ok () (w.setCells B (s + o) us) ∧ Post nf base β H w β (H.set b (some (T, setAll cs o vs))) (w.setCells B (s + o) us) := by
  obtain ⟨k1, k2⟩ := hs.own b T cs B s N (Nat.le_trans hnb hb) hH hβ
  have hl := hv.1
  refine ⟨?_, Post.setBlock hs hnb hb hH hβ (s + o) (by omega) (by rw [length_setAll]; exact k1) hv hcl fun i hi => ?_⟩
  · have := run_storeCells_cells (P := P) B (s + o) us 0 w (fun j hj => (k2 _ (by omega)).1) (fun j hj => (k2 _ (by omega)).2) (hv.all_cell hcl)
    simpa using this
  · rw [length_setAll] at hi
    rw [getD_setAll _ _ _ _ hle]
    by_cases h : o ≤ i ∧ i < o + vs.length
    · rw [if_pos h]; exact .inl ⟨by omega, by omega, by rw [show s + i - (s + o) = i - o by omega]⟩
    · rw [if_neg h]; exact .inr ⟨by omega, hi, rfl⟩

theorem store_does (hs : Sim nf β H w) (hnb : nf ≤ base) {t : TypeId} {p p' x x' : Value} (hp : VR β p p') (hx : VR β x x') (h : storeA P base H t x p = some H') :
    ∃ w', (Instr.storeAt t p' x').run P w = .ok () w' ∧ Post nf base β H w β H' w' := by
  unfold storeA at h
  split at h
  · rename_i b o
    by_cases hb : base ≤ b
    · rw [if_pos hb] at h
      obtain ⟨c, hc, h⟩ := Option.bind_eq_some_iff.1 h
      by_cases hq : x.cells.toList.all isCell = true ∧ tySize P t = some x.cells.size ∧ o + x.cells.size ≤ c.2.length
      · rw [if_pos hq] at h
        cases h
        obtain ⟨q1, q2, q3⟩ := hq
        cases hp with
        | sc h => simp [Am.sc] at h
        | ptr hβ =>
          rename_i B s N
          have hv := hx.cells' q1
          obtain ⟨r1, r2⟩ := write_own (P := P) hs hnb (T := c.1) (cs := c.2) hb (hget_some hc) hβ (by simpa using q3) hv (List.all_eq_true.1 q1)
          refine ⟨_, ?_, r2⟩
          have e : x'.cells.size = x.cells.size := by simpa using hv.1.symm
          simp [Instr.storeAt, Instr.sureAddr, storeVar, run_size q2, e, r1]
      · rw [if_neg hq] at h; cases h
    · rw [if_neg hb] at h; cases h
  · cases h

theorem fieldAddr_does {s : TypeId} {f : Nat} {p p' u : Value} (hp : VR β p p') (h : fieldAddrA P s f p = some u) : ∃ u', (Instr.fieldAt s p' f).run P w = .ok u' w ∧ VR β u u' := by
  unfold fieldAddrA at h
  split at h
  · rename_i b o
    obtain ⟨fs, h1, h⟩ := Option.bind_eq_some_iff.1 h
    obtain ⟨x, h2, h⟩ := Option.bind_eq_some_iff.1 h
    obtain ⟨fields, h3, h4⟩ := fields_und h1
    obtain ⟨fd, h5, h6⟩ := field_at h4 h2
    subst h6
    by_cases h7 : (tySize P fd.type).any (· ≠ 0) = true
    · rw [if_pos h7] at h
      cases h
      obtain ⟨n, h8, h9⟩ : ∃ n, tySize P fd.type = some n ∧ n ≠ 0 := by
        cases h8 : tySize P fd.type with
        | none => rw [h8] at h7; simp at h7
        | some n => rw [h8] at h7; exact ⟨n, rfl, by simpa using h7⟩
      cases hp with
      | sc h => simp [Am.sc] at h
      | ptr hβ =>
        rename_i B s' N
        refine ⟨.pointer (some ⟨B, s' + (o + fd.offset), none⟩), ?_, .ptr hβ⟩
        simp [Instr.fieldAt, run_und h3, h5, Instr.sureAddr, fieldPlace, run_size h8, h9, add_none, Nat.add_assoc]
    · rw [if_neg h7] at h; cases h
  · cases h

theorem indexAddr_does {t : TypeId} {x x' i i' u : Value} (hx : VR β x x') (hi : VR β i i') (h : indexAddrA P t x i = some u) : ∃ u', (Instr.indexAt t x' i').run P w = .ok u' w ∧ VR β u u' := by
  unfold indexAddrA at h
  split at h
  · rename_i b o es n c k j
    obtain ⟨e, h1, h⟩ := Option.bind_eq_some_iff.1 h
    by_cases hq : tySize P e = some es ∧ 0 ≤ j ∧ j < n
    · rw [if_pos hq] at h
      cases h
      obtain ⟨q1, q2, q3⟩ := hq
      obtain rfl := hi.of_sc rfl
      cases hx with
      | sc h => simp [Am.sc] at h
      | sl hβ k1 k2 k3 k4 =>
        rename_i B s N cap' off
        have := k3 (by omega)
        subst this
        refine ⟨.pointer (some ⟨B, s + (o + j.toNat * es), none⟩), ?_, .ptr hβ⟩
        simp [Instr.indexAt, asIntOf, run_und (elem_und h1), run_size q1, q2, q3, add_none, Nat.add_assoc]
    · rw [if_neg hq] at h; cases h
  · cases h

theorem field_does {t : TypeId} {f : Nat} {x x' u : Value} (hx : VR β x x') (h : fieldA P t f x = some u) : ∃ u', (Instr.field t x' f).run P w = .ok u' w ∧ VR β u u' := by
  unfold fieldA at h
  split at h
  · rename_i cs
    obtain ⟨fs, h1, h⟩ := Option.bind_eq_some_iff.1 h
    obtain ⟨y, h2, h⟩ := Option.bind_eq_some_iff.1 h
    obtain ⟨g, h7, h⟩ := Option.bind_eq_some_iff.1 h
    obtain ⟨fields, h3, h4⟩ := fields_und h1
    obtain ⟨fd, h5, h6⟩ := field_at h4 h2
    subst h6
    have hcs : ∃ cs', x' = .agg cs' ∧ VRL β cs.toList cs'.toList := by
      cases hx with
      | sc h => simp [Am.sc] at h
      | agg k1 k2 => exact ⟨_, rfl, VRL.ofArray k1 k2⟩
    obtain ⟨cs', rfl, hl⟩ := hcs
    cases g with
    | true =>
      simp only at h
      obtain ⟨n, h8, rfl⟩ := Option.map_eq_some_iff.1 h
      have e : VRL β (cs.extract fd.offset (fd.offset + n)).toList (cs'.extract fd.offset (fd.offset + n)).toList := by
        simp only [Array.toList_extract, List.extract]
        exact (hl.drop _).take _
      refine ⟨.agg (cs'.extract fd.offset (fd.offset + n)), ?_, .agg (by have := e.1; rwa [Array.length_toList, Array.length_toList] at this) fun i => by have := e.2 i; simpa only [List.getD_eq_getElem?_getD, Array.getD_eq_getD_getElem?, Array.getElem?_toList] using this⟩
      simp [Instr.field, run_und h3, h5, asAgg, part, run_isAgg h7, run_size h8]
    | false =>
      simp only at h
      have hlt : fd.offset < cs.size := (Array.getElem?_eq_some_iff.1 h).1
      have hlt' : fd.offset < cs'.size := by have := hl.1; simp at this; omega
      refine ⟨cs'[fd.offset], ?_, ?_⟩
      · simp [Instr.field, run_und h3, h5, asAgg, part, run_isAgg h7, hlt']
      · have := hl.2 fd.offset
        simp only [List.getD_eq_getElem?_getD, Array.getElem?_toList, h, Array.getElem?_eq_getElem hlt', Option.getD_some] at this
        exact this
  · cases h

end
end Go.Am

/- A small machine over lists in the place of the memory: operations that make memory or slices. No conditions. -/
namespace Go.Am
set_option linter.unusedSimpArgs false
set_option linter.unusedVariables false
section
variable {P : Program} {nf base : Nat} {β : Beta} {H H' : Heap} {w : World} {a : Act} {o : Oper} {v : Value} {ρ : Env}

theorem optI_run {lo lo' : Option Value} {d l : Int} (h : optI lo d = some l) (hl : ∀ x, lo = some x → ∃ x', lo' = some x' ∧ VR β x x') (hn : lo = none → lo' = none) :
    (lo = none ∧ lo' = none ∧ l = d) ∨ ∃ k, lo = some (.int k l) ∧ lo' = some (.int k l) := by
  cases lo with
  | none => simp only [optI, Option.some.injEq] at h; exact .inl ⟨rfl, hn rfl, h.symm⟩
  | some x =>
    obtain ⟨x', h1, h2⟩ := hl x rfl
    cases x <;> simp only [optI, Option.some.injEq] at h <;> first | (cases h; done) | skip
    rename_i k n
    subst h
    obtain rfl := h2.of_sc rfl
    exact .inr ⟨k, rfl, h1⟩

theorem sliceBound_run {k : IntKind} {i : Int} {y : Nat} {c : BoundsCode} (h0 : 0 ≤ i) (h1 : i ≤ y) : (Instr.sliceBound (.int k i) y c).run P w = .ok i.toNat w := by
  simp [Instr.sliceBound, asIntOf, h0, h1]

theorem bounds_run {n c : Nat} {l r m : Int} {lo hi mx : Option Value} (h0 : 0 ≤ l) (h1 : l ≤ r) (h2 : r ≤ m) (h3 : m ≤ c) (hl : (lo = none ∧ l = 0) ∨ ∃ k, lo = some (.int k l)) (hh : (hi = none ∧ r = n) ∨ ∃ k, hi = some (.int k r))
    (hm : (mx = none ∧ m = c) ∨ ∃ k, mx = some (.int k m)) (hmh : (mx.isNone || hi.isSome) = true) : (Instr.sliceBounds true n c lo hi mx).run P w = .ok (l.toNat, r.toNat, m.toNat) w := by
  have b1 : ∀ k cd, (Instr.sliceBound (.int k m) c cd).run P w = .ok m.toNat w := fun k cd => sliceBound_run (by omega) h3
  have b2 : ∀ k cd, (Instr.sliceBound (.int k r) m.toNat cd).run P w = .ok r.toNat w := fun k cd => sliceBound_run (by omega) (by omega)
  have b3 : ∀ k cd, (Instr.sliceBound (.int k l) r.toNat cd).run P w = .ok l.toNat w := fun k cd => sliceBound_run h0 (by omega)
  rcases hm with ⟨rfl, rfl⟩ | ⟨k, rfl⟩
  · rcases hh with ⟨rfl, rfl⟩ | ⟨k', rfl⟩
    · rcases hl with ⟨rfl, rfl⟩ | ⟨k'', rfl⟩
      · simp [Instr.sliceBounds]
      · have := b3 k'' .sliceB
        simp only [Int.toNat_natCast] at this
        simp [Instr.sliceBounds, this]
    · have e2 := b2 k' .sliceAcap
      simp only [Int.toNat_natCast] at e2
      rcases hl with ⟨rfl, rfl⟩ | ⟨k'', rfl⟩
      · simp [Instr.sliceBounds, e2]
      · simp [Instr.sliceBounds, e2, b3]
  · rcases hh with ⟨rfl, rfl⟩ | ⟨k', rfl⟩
    · simp at hmh
    · rcases hl with ⟨rfl, rfl⟩ | ⟨k'', rfl⟩
      · simp [Instr.sliceBounds, b1, b2]
      · simp [Instr.sliceBounds, b1, b2, b3]

theorem opt_none {hi hi' mx mx' : Option Value} (hm : ∀ z, mx = some z → ∃ z', mx' = some z' ∧ VR β z z') (hm0 : mx = none → mx' = none) (hh : ∀ z, hi = some z → ∃ z', hi' = some z' ∧ VR β z z') (hh0 : hi = none → hi' = none) (h : (mx.isNone || hi.isSome) = true) : (mx'.isNone || hi'.isSome) = true := by
  cases mx with
  | none => rw [hm0 rfl]; rfl
  | some z =>
    cases hi with
    | none => simp at h
    | some y => obtain ⟨y', e, _⟩ := hh y rfl; rw [e]; simp

theorem slice_does {t : TypeId} {x x' u : Value} {lo hi mx lo' hi' mx' : Option Value} (hx : VR β x x')
    (hl : ∀ z, lo = some z → ∃ z', lo' = some z' ∧ VR β z z') (hl0 : lo = none → lo' = none)
    (hh : ∀ z, hi = some z → ∃ z', hi' = some z' ∧ VR β z z') (hh0 : hi = none → hi' = none)
    (hm : ∀ z, mx = some z → ∃ z', mx' = some z' ∧ VR β z z') (hm0 : mx = none → mx' = none)
    (h : sliceA P t x lo hi mx = some u) : ∃ u', (Instr.sliceAt t x' lo' hi' mx').run P w = .ok u' w ∧ VR β u u' := by
  unfold sliceA at h
  split at h
  · obtain ⟨l, h1, h⟩ := Option.bind_eq_some_iff.1 h
    obtain ⟨r, h2, h⟩ := Option.bind_eq_some_iff.1 h
    obtain ⟨m, h3, h⟩ := Option.bind_eq_some_iff.1 h
    by_cases hq : l = 0 ∧ r = 0 ∧ m = 0 ∧ ((tyElem P t).bind (tySize P)).isSome = true ∧ (mx.isNone || hi.isSome) = true
    · rw [if_pos hq] at h
      cases h
      obtain ⟨rfl, rfl, rfl, q4, q6⟩ := hq
      obtain ⟨es, hes⟩ := Option.isSome_iff_exists.1 q4
      obtain ⟨e, he, hsz⟩ := Option.bind_eq_some_iff.1 hes
      have hu := elem_und he
      obtain rfl : x' = .slice none 0 0 := by
        cases hx with
        | sc h => simp [Am.sc] at h
        | snil => rfl
      have hb := bounds_run (P := P) (w := w) (n := 0) (c := 0) (lo := lo') (hi := hi') (mx := mx') (Int.le_refl 0) (Int.le_refl 0) (Int.le_refl 0) (Int.le_refl 0)
        ((optI_run h1 hl hl0).imp (fun h => ⟨h.2.1, rfl⟩) (fun ⟨k, _, h⟩ => ⟨k, h⟩)) ((optI_run h2 hh hh0).imp (fun h => ⟨h.2.1, rfl⟩) (fun ⟨k, _, h⟩ => ⟨k, h⟩)) ((optI_run h3 hm hm0).imp (fun h => ⟨h.2.1, rfl⟩) (fun ⟨k, _, h⟩ => ⟨k, h⟩)) (opt_none hm hm0 hh hh0 q6)
      refine ⟨.slice none 0 0, ?_, .snil⟩
      simp [Instr.sliceAt, run_und hu, Instr.slice, hb, run_size hsz]
    · rw [if_neg hq] at h; cases h
  · rename_i b of es n cap
    obtain ⟨l, h1, h⟩ := Option.bind_eq_some_iff.1 h
    obtain ⟨r, h2, h⟩ := Option.bind_eq_some_iff.1 h
    obtain ⟨m, h3, h⟩ := Option.bind_eq_some_iff.1 h
    by_cases hq : (tyElem P t).bind (tySize P) = some es ∧ 0 ≤ l ∧ l ≤ r ∧ r ≤ m ∧ m ≤ cap ∧ (mx.isNone || hi.isSome) = true
    · rw [if_pos hq] at h
      obtain ⟨q1, q2, q3, q4, q5, q6⟩ := hq
      obtain ⟨e, he, hsz⟩ := Option.bind_eq_some_iff.1 q1
      have hu := elem_und he
      cases hx with
      | sc h => simp [Am.sc] at h
      | sl hβ k1 k2 k3 k4 =>
        rename_i B s N cap' off
        have hmul : ∀ M : Nat, l.toNat ≤ M → M ≤ cap' → off + l.toNat * es + (M - l.toNat) * es ≤ N := by
          intro M h1 h2
          have e1 : l.toNat * es + (M - l.toNat) * es = M * es := by rw [← Nat.add_mul, Nat.add_sub_cancel' h1]
          have e2 : M * es ≤ cap' * es := Nat.mul_le_mul_right _ h2
          omega
        have hmul0 : off + 0 * es ≤ N := by have := Nat.zero_le (cap' * es); omega
        have key : ∀ M : Nat, r.toNat ≤ M → m ≤ M → M ≤ cap' → (mx.isSome = true → (M : Int) = m) →
            VR β (Value.slice (some ⟨b, of + l.toNat * es, some es⟩) (r - l).toNat (m - l).toNat)
              (.slice (if M = l.toNat then some (⟨B, off, none⟩ : Addr) else (some (⟨B, off, none⟩ : Addr)).map (·.add (l.toNat * es))) (r.toNat - l.toNat) (M - l.toNat)) := by
          intro M g1 g2 g3 g4
          · skip
            by_cases hM : M = l.toNat
            · rw [if_pos hM]
              have e1 : (r - l).toNat = 0 := by omega
              have e2 : (m - l).toNat = 0 := by omega
              rw [e1, e2, show r.toNat - l.toNat = 0 by omega, show M - l.toNat = 0 by omega]
              exact .sl hβ (Nat.le_refl _) (Nat.le_refl _) (fun h => absurd rfl h) hmul0
            · rw [if_neg hM]
              rw [Option.map_some, add_none]
              rw [show r.toNat - l.toNat = (r - l).toNat by omega]
              refine .sl hβ (by omega) (by omega) (fun h => ?_) (hmul M (by omega) g3)
              have := k3 (by omega)
              omega
        have hcap : (cap : Int) ≤ (cap' : Int) := by omega
        have hnc : (n : Int) ≤ (cap : Int) := by omega
        cases h
        have hlo := (optI_run h1 hl hl0).imp (fun h => (⟨h.2.1, h.2.2⟩ : lo' = none ∧ l = 0)) (fun ⟨k, _, h⟩ => (⟨k, h⟩ : ∃ k, lo' = some (Value.int k l)))
        have hhi := (optI_run h2 hh hh0).imp (fun h => (⟨h.2.1, h.2.2⟩ : hi' = none ∧ r = (n : Int))) (fun ⟨k, _, h⟩ => (⟨k, h⟩ : ∃ k, hi' = some (Value.int k r)))
        rcases optI_run h3 hm hm0 with ⟨e1, e2, e3⟩ | ⟨k, e1, e2⟩
        · have hb := bounds_run (P := P) (w := w) (n := n) (c := cap') (m := cap') (mx := mx') q2 q3 (by omega) (Int.le_refl _) hlo hhi (.inl ⟨e2, rfl⟩) (opt_none hm hm0 hh hh0 q6)
          rw [Int.toNat_natCast] at hb
          refine ⟨_, ?_, key cap' (by omega) (by omega) (Nat.le_refl _) (fun h => by rw [e1] at h; cases h)⟩
          simp [Instr.sliceAt, run_und hu, Instr.slice, hb, run_size hsz]
        · have hb := bounds_run (P := P) (w := w) (n := n) (c := cap') (m := m) (mx := mx') q2 q3 q4 (by omega) hlo hhi (.inr ⟨k, e2⟩) (opt_none hm hm0 hh hh0 q6)
          refine ⟨_, ?_, key m.toNat (by omega) (by omega) (by omega) (fun h => by omega)⟩
          simp [Instr.sliceAt, run_und hu, Instr.slice, hb, run_size hsz]
    · rw [if_neg hq] at h; cases h
  · cases h

end
end Go.Am

