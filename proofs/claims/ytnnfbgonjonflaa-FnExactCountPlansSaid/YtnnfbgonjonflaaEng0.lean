/- A part of the interpreter of Go code, and of the proof that it says what Go does; no condition. -/
import Derived.WalkKit
import Derived.Deep.Quiet
/-! The abstract interpreter: definitions. -/
namespace Go.Eng

abbrev Fr := Nat → Value

def flat0 : Value → Bool
  | .bool _ => true
  | .int _ _ => true
  | .string _ => true
  | .pointer none => true
  | .slice none _ _ => true
  | .map none => true
  | .nilFunc => true
  | .nilIface => true
  | _ => false

def flat1 : Value → Bool
  | .agg ⟨l⟩ => l.all flat0
  | .func _ ⟨[]⟩ ⟨[]⟩ => true
  | v => flat0 v

def upd {α : Type} (f : Nat → α) (d : Nat) (v : α) : Nat → α := fun k => bif Nat.beq k d then v else f k

def listFn (l : List Value) : Nat → Value := fun k => l.getD k undef

def setCells (g : Nat → Value) (o : Nat) : List Value → (Nat → Value)
  | [] => g
  | c :: cs => setCells (upd g o c) (o + 1) cs

/-- The cells of a block: any, or all of one kind. -/
inductive Cel where
  | fn (g : Nat → Value)
  | ints (k : IntKind) (l : List Int)
  | strs (l : List ByteArray)
  | bools (l : List Bool)

def Cel.at : Cel → Nat → Value
  | .fn g, i => g i
  | .ints k l, i => .int k (l.getD i 0)
  | .strs l, i => .string (l.getD i .empty)
  | .bools l, i => .bool (l.getD i false)

instance : CoeFun Cel (fun _ => Nat → Value) := ⟨Cel.at⟩

def Cel.ok (c : Cel) (n : Nat) : Prop :=
  match c with
  | .fn _ => True
  | .ints _ l => l.length = n
  | .strs l => l.length = n
  | .bools l => l.length = n

def intsOf (k : IntKind) : List Value → Option (List Int)
  | [] => some []
  | .int k' x :: l => match decide (k' = k) with
    | true => match intsOf k l with | some m => some (x :: m) | none => none
    | false => none
  | _ :: _ => none

def strsOf : List Value → Option (List ByteArray)
  | [] => some []
  | .string x :: l => match strsOf l with | some m => some (x :: m) | none => none
  | _ :: _ => none

def boolsOf : List Value → Option (List Bool)
  | [] => some []
  | .bool x :: l => match boolsOf l with | some m => some (x :: m) | none => none
  | _ :: _ => none

def putL {α : Type} (l : List α) (o : Nat) : List α → List α
  | [] => l
  | x :: xs => putL (l.set o x) (o + 1) xs

/-- Cells written at 'o'. -/
def Cel.put (c : Cel) (o : Nat) (cs : List Value) : Cel :=
  match c with
  | .fn g => .fn (setCells g o cs)
  | .ints k l => match intsOf k cs with | some m => .ints k (putL l o m) | none => .fn (setCells (Cel.ints k l).at o cs)
  | .strs l => match strsOf cs with | some m => .strs (putL l o m) | none => .fn (setCells (Cel.strs l).at o cs)
  | .bools l => match boolsOf cs with | some m => .bools (putL l o m) | none => .fn (setCells (Cel.bools l).at o cs)

/-- 'm' cells from 'o' on. -/
def Cel.sub (d : Cel) (o m : Nat) : Cel :=
  match d with
  | .fn g => .fn (fun k => g (o + k))
  | .ints k l => .ints k ((l.drop o).take m)
  | .strs l => .strs ((l.drop o).take m)
  | .bools l => .bools ((l.drop o).take m)

def Cel.mix (c : Cel) (n : Nat) (d : Cel) (o : Nat) : Cel := .fn (fun k => bif Nat.blt k n then c.at k else d.at (o + (k - n)))

/-- 'n' cells, and 'm' of others, from 'o' on. -/
def Cel.app (c : Cel) (n : Nat) (d : Cel) (o m : Nat) : Cel :=
  match c with
  | .fn g => Cel.mix (.fn g) n d o
  | .ints k l => match d with
    | .ints k' l' => match decide (k = k') with | true => .ints k (l ++ (l'.drop o).take m) | false => Cel.mix (.ints k l) n (.ints k' l') o
    | d => Cel.mix (.ints k l) n d o
  | .strs l => match d with
    | .strs l' => .strs (l ++ (l'.drop o).take m)
    | d => Cel.mix (.strs l) n d o
  | .bools l => match d with
    | .bools l' => .bools (l ++ (l'.drop o).take m)
    | d => Cel.mix (.bools l) n d o

/-- The cells of a new array with these elements; 'z': the zero of one. -/
def celOf (z l : List Value) : Cel :=
  match z with
  | .int k _ :: _ => match intsOf k l with | some m => .ints k m | none => .fn (listFn l)
  | .string _ :: _ => match strsOf l with | some m => .strs m | none => .fn (listFn l)
  | .bool _ :: _ => match boolsOf l with | some m => .bools m | none => .fn (listFn l)
  | _ => .fn (listFn l)

/-- 'n' cells: zeros, again and again. -/
def celRep (z : List Value) (n : Nat) : Cel :=
  match z with
  | [.int k x] => .ints k (List.replicate n x)
  | [.string x] => .strs (List.replicate n x)
  | [.bool x] => .bools (List.replicate n x)
  | z => match z with
    | .int k _ :: _ => match intsOf k z with
      | some m => match m.all (· == 0) with | true => .ints k (List.replicate n 0) | false => .fn (fun i => z.getD (i % z.length) undef)
      | none => .fn (fun i => z.getD (i % z.length) undef)
    | z => .fn (fun i => z.getD (i % z.length) undef)

inductive AObj where
  | none
  | cells (own fl : Bool) (n : Nat) (g : Cel)     -- 'fl': no cell holds an address
  | map (fl : Bool) (es : List (Value × Value))
  | iter (m : Nat) (n : Nat) (seen : List Nat)

abbrev Hp := Nat → AObj

structure TI where
  desc : TypeDesc
  size : Nat
  bytes : Nat
  zero : List Value
  cmp : List TypeDesc      -- the kinds of the cells of a struct or an array that can be compared; none: it is not compared

abbrev TT := Nat → Option TI

/-- A value brought to its constructor, then handed on. -/
def force (v : Value) (K : Value → Prop) : Prop :=
  match v with
  | .bool b => K (.bool b)
  | .int k n => K (.int k n)
  | .float _ _ => False
  | .complex _ _ _ => False
  | .string s => K (.string s)
  | .pointer a => K (.pointer a)
  | .slice a n c => K (.slice a n c)
  | .map r => K (.map r)
  | .chan _ => False
  | .func f a c => K (.func f a c)
  | .nilFunc => K .nilFunc
  | .iface t v => K (.iface t v)
  | .nilIface => K .nilIface
  | .agg cs => K (.agg cs)
  | .tuple vs => K (.tuple vs)

/-- A constant of the code: no address in it. -/
def forceC (v : Value) (K : Value → Prop) : Prop :=
  match v with
  | .bool b => K (.bool b)
  | .int k n => K (.int k n)
  | .string s => K (.string s)
  | .pointer none => K (.pointer none)
  | .slice none n c => K (.slice none n c)
  | .map none => K (.map none)
  | .nilFunc => K .nilFunc
  | .nilIface => K .nilIface
  | _ => False

def rd (fr : Fr) (x : Operand) (K : Value → Prop) : Prop :=
  match x with
  | .tmp t => force (fr t) K
  | .const v => forceC v K
  | .func f => K (.func (.func f) #[] #[])
  | .global _ => False

/- The case stands last: the kernel looks at it first. -/
def bcase (b : Bool) (X Y : Prop) : Prop := @Bool.rec (fun _ => Prop) Y X b

def chk (b : Bool) (X : Prop) : Prop := @Bool.rec (fun _ => Prop) False X b

def isAgg : TypeDesc → Bool
  | .struct _ => true
  | .array _ _ => true
  | _ => false

/-- The cells o, o+1, .. (n of them), each brought to its constructor. -/
def gather (g : Nat → Value) (o : Nat) : Nat → (List Value → Prop) → Prop
  | 0, K => K []
  | n + 1, K => force (g o) fun v => gather g (o + 1) n fun l => K (v :: l)

def tyK (T : TT) (t : Nat) (K : TI → Prop) : Prop := match T t with | some ti => K ti | none => False

def aload (T : TT) (t : Nat) (p : Value) (H : Hp) (K : Value → Prop) : Prop :=
  match p with
  | .pointer (some ⟨b, o, some ver⟩) =>
    match H b with
    | .cells _ _ n g =>
      tyK T t fun ti =>
        match isAgg ti.desc with
        | true => chk (Nat.beq n ver && Nat.ble (o + ti.size) n) (gather g o ti.size fun l => K (.agg ⟨l⟩))
        | false => chk (Nat.beq n ver && Nat.blt o n) (force (g o) K)
    | _ => False
  | _ => False

def aint (op : BinOp) (k : IntKind) (a b : Int) (K : Value → Prop) : Prop :=
  match op with
  | .add => K (.int k (k.wrap (a + b)))
  | .sub => K (.int k (k.wrap (a - b)))
  | .mul => K (.int k (k.wrap (a * b)))
  | .quo => chk (b != 0) (K (.int k (k.wrap (a.tdiv b))))
  | .rem => chk (b != 0) (K (.int k (a.tmod b)))
  | .and => K (.int k (k.wrap (BitVec.ofInt k.bits a &&& BitVec.ofInt k.bits b).toNat))
  | .or => K (.int k (k.wrap (BitVec.ofInt k.bits a ||| BitVec.ofInt k.bits b).toNat))
  | .xor => K (.int k (k.wrap (BitVec.ofInt k.bits a ^^^ BitVec.ofInt k.bits b).toNat))
  | .andNot => K (.int k (k.wrap (BitVec.ofInt k.bits a &&& ~~~ BitVec.ofInt k.bits b).toNat))
  | .eql => K (.bool (a == b))
  | .neq => K (.bool (a != b))
  | .lss => K (.bool (a < b))
  | .leq => K (.bool (a ≤ b))
  | .gtr => K (.bool (a > b))
  | .geq => K (.bool (a ≥ b))
  | _ => False

inductive PreK (p : Prop) (X : Prop) : Prop
  | mk (h : p) (k : X)

/-- A text of so many bytes can be. -/
inductive FitK (n : Nat) (X : Prop) : Prop
  | mk (h : (n : Int) ≤ 9223372036854775807) (k : X)

def astr (op : BinOp) (a b : ByteArray) (K : Value → Prop) : Prop :=
  match op with
  | .add => FitK (a.size + b.size) (K (.string (a ++ b)))
  | .eql => K (.bool (a.toList == b.toList))
  | .neq => K (.bool (!(a.toList == b.toList)))
  | .lss => K (.bool (Op.bytesLess a.toList b.toList))
  | .leq => K (.bool (Op.bytesLess a.toList b.toList || a.toList == b.toList))
  | .gtr => K (.bool (!(Op.bytesLess a.toList b.toList || a.toList == b.toList)))
  | .geq => K (.bool (!Op.bytesLess a.toList b.toList))
  | _ => False

/-- Cells held against each other; 'ds': their kinds. -/
def eqCells : List TypeDesc → List Value → List Value → (Bool → Prop) → Prop
  | [], l, m, K => match l with
    | [] => match m with
      | [] => K true
      | _ => False
    | _ => False
  | d :: ds, l, m, K => match l with
    | x :: l => match m with
      | y :: m => match d with
        | .int _ => match x with
          | .int k a => match y with
            | .int k' b => chk (decide (k = k')) (eqCells ds l m fun r => K (decide (a = b) && r))
            | _ => False
          | _ => False
        | .string => match x with
          | .string a => match y with
            | .string b => eqCells ds l m fun r => K (decide (a = b) && r)
            | _ => False
          | _ => False
        | .bool => match x with
          | .bool a => match y with
            | .bool b => eqCells ds l m fun r => K (decide (a = b) && r)
            | _ => False
          | _ => False
        | _ => False
      | _ => False
    | _ => False

/-- Cells held against each other. -/
def eqC : List TypeDesc → List Value → List Value → Option Bool
  | [], [], [] => some true
  | .int _ :: ds, .int k a :: l, .int k' b :: m => if k = k' then (eqC ds l m).map (decide (a = b) && ·) else none
  | .string :: ds, .string a :: l, .string b :: m => (eqC ds l m).map (decide (a = b) && ·)
  | .bool :: ds, .bool a :: l, .bool b :: m => (eqC ds l m).map (decide (a = b) && ·)
  | _, _, _ => none

def abin (T : TT) (op : BinOp) (t : Nat) (x y : Value) (K : Value → Prop) : Prop :=
  match x with
  | .int k a =>
    match y with
    | .int k' b =>
      match op with
      | .shl => chk (decide (0 ≤ b)) (K (.int k (k.wrap (a * 2 ^ (min b.toNat k.bits)))))
      | .shr => chk (decide (0 ≤ b)) (K (.int k (a.fdiv (2 ^ (min b.toNat k.bits)))))
      | _ => chk (decide (k = k')) (aint op k a b K)
    | _ => False
  | .string a =>
    match y with
    | .string b => astr op a b K
    | _ => False
  | .bool a =>
    match y with
    | .bool b =>
      tyK T t fun ti => match ti.desc with
        | .bool => match op with
          | .eql => K (.bool (a == b))
          | .neq => K (.bool (!(a == b)))
          | _ => False
        | _ => False
    | _ => False
  | .slice a _ _ =>
    match y with
    | .slice none _ _ =>
      tyK T t fun ti => match ti.desc with
        | .slice _ => match a with
          | none => match op with
            | .eql => K (.bool true)
            | .neq => K (.bool false)
            | _ => False
          | some _ => match op with
            | .eql => K (.bool false)
            | .neq => K (.bool true)
            | _ => False
        | _ => False
    | _ => False
  | .agg ⟨l⟩ =>
    match y with
    | .agg ⟨m⟩ => tyK T t fun ti => match ti.cmp with
      | [] => False
      | d :: ds => eqCells (d :: ds) l m fun r => match op with
        | .eql => K (.bool r)
        | .neq => K (.bool (!r))
        | _ => False
    | _ => False
  | _ => False

def aun (op : UnOp) (x : Value) (K : Value → Prop) : Prop :=
  match op with
  | .not => match x with | .bool b => K (.bool !b) | _ => False
  | .neg => match x with | .int k n => K (.int k (k.wrap (0 - n))) | _ => False
  | _ => False

def afield (T : TT) (s : Nat) (f : Nat) (K : Nat → Nat → Prop) : Prop :=
  tyK T s fun ti =>
    match ti.desc with
    | .struct fs =>
      match fs[f]? with
      | some fd => match fd with
        | ⟨_, ty, off, _, _, _, _⟩ => K off ty
      | none => False
    | _ => False

def afieldAddr (T : TT) (s : Nat) (p : Value) (f : Nat) (K : Value → Prop) : Prop :=
  match p with
  | .pointer (some ⟨b, o, some ver⟩) => afield T s f fun off ft => tyK T ft fun ti => chk (!Nat.beq ti.size 0) (K (.pointer (some ⟨b, o + off, some ver⟩)))
  | _ => False

def afieldVal (T : TT) (s : Nat) (x : Value) (f : Nat) (K : Value → Prop) : Prop :=
  match x with
  | .agg ⟨l⟩ => afield T s f fun off ft => tyK T ft fun ti =>
    match isAgg ti.desc with
    | true => chk (Nat.ble (off + ti.size) l.length) (gather (fun k => l.getD k undef) off ti.size fun l => K (.agg ⟨l⟩))
    | false => chk (Nat.blt off l.length) (force (l.getD off undef) K)
  | _ => False

def aindexAddr (T : TT) (t : Nat) (p ix : Value) (K : Value → Prop) : Prop :=
  match ix with
  | .int _ i =>
    tyK T t fun ti =>
      match ti.desc with
      | .array len e =>
        tyK T e fun te =>
          match p with
          | .pointer (some ⟨b, o, some ver⟩) => chk (decide (0 ≤ i) && decide (i < (len : Int))) (K (.pointer (some ⟨b, o + i.toNat * te.size, some ver⟩)))
          | _ => False
      | .slice e =>
        tyK T e fun te =>
          match p with
          | .slice (some ⟨b, o, some ver⟩) len _ => chk (decide (0 ≤ i) && decide (i < (len : Int))) (K (.pointer (some ⟨b, o + i.toNat * te.size, some ver⟩)))
          | _ => False
      | _ => False
  | _ => False

def aindex (T : TT) (t : Nat) (x ix : Value) (K : Value → Prop) : Prop :=
  match ix with
  | .int _ i =>
    match x with
    | .agg ⟨l⟩ =>
      tyK T t fun ti =>
        match ti.desc with
        | .array len e =>
          tyK T e fun te =>
            match isAgg te.desc with
            | true => chk (decide (0 ≤ i) && decide (i < (len : Int)) && Nat.ble (i.toNat * te.size + te.size) l.length) (gather (fun k => l.getD k undef) (i.toNat * te.size) te.size fun l => K (.agg ⟨l⟩))
            | false => chk (decide (0 ≤ i) && decide (i < (len : Int)) && Nat.blt (i.toNat * te.size) l.length) (force (l.getD (i.toNat * te.size) undef) K)
        | _ => False
    | .string s =>
      tyK T t fun ti =>
        match ti.desc with
        | .string => chk (decide (0 ≤ i) && decide (i < (s.size : Int))) (K (.int .u8 (s.data.toList.getD i.toNat 0).toNat))
        | _ => False
    | _ => False
  | _ => False

def aextract (x : Value) (i : Nat) (K : Value → Prop) : Prop :=
  match x with
  | .tuple ⟨l⟩ => match l[i]? with | some v => force v K | none => False
  | _ => False

/-- An upper or lower bound of a slice expression: none: d. -/
def abound (fr : Fr) (x : Option Operand) (d : Nat) (top : Nat) (K : Nat → Prop) : Prop :=
  match x with
  | none => K d
  | some x => rd fr x fun v => match v with | .int _ i => chk (decide (0 ≤ i) && decide (i ≤ (top : Int))) (K i.toNat) | _ => False

def isZero (x : Option Operand) : Bool :=
  match x with
  | some (.const (.int _ 0)) => true
  | _ => false

/-- 's[:0:0]': no cell, no room. -/
def aslice3 (T : TT) (t : Nat) (x : Value) (lo hi mx : Option Operand) (K : Value → Prop) : Prop :=
  chk (lo.isNone && isZero hi && isZero mx) (tyK T t fun ti => match ti.desc with
    | .slice e => tyK T e fun _ =>
      match x with
      | .slice none 0 0 => K (.slice none 0 0)
      | .slice (some ⟨b, o, _⟩) _ es => K (.slice (some ⟨b, o, none⟩) 0 es)
      | _ => False
    | _ => False)

def aslice (T : TT) (t : Nat) (fr : Fr) (x : Value) (lo hi mx : Option Operand) (K : Value → Prop) : Prop :=
  match mx with
  | some m => aslice3 T t x lo hi (some m) K
  | none =>
  match x with
  | .slice none 0 0 =>
    tyK T t fun ti => match ti.desc with
      | .slice e => tyK T e fun _ => abound fr hi 0 0 fun h => abound fr lo 0 h fun _ => K (.slice none 0 0)
      | _ => False
  | .string s =>
    tyK T t fun ti => match ti.desc with
      | .string => abound fr hi s.size s.size fun h => abound fr lo 0 h fun l => K (.string (s.extract l h))
      | _ => False
  | .slice (some ⟨b, o, some ver⟩) len es =>
    tyK T t fun ti => match ti.desc with
      | .slice e => tyK T e fun te => abound fr hi len len fun h => abound fr lo 0 h fun l => chk (Nat.beq te.size es) (K (.slice (some ⟨b, o + l * te.size, some ver⟩) (h - l) es))
      | _ => False
  | .pointer (some ⟨b, o, some ver⟩) =>
    tyK T t fun ti => match ti.desc with
      | .array n e => tyK T e fun te => abound fr hi n n fun h => abound fr lo 0 h fun l => chk (Nat.ble (o + n * te.size) ver) (K (.slice (some ⟨b, o + l * te.size, some ver⟩) (h - l) te.size))
      | _ => False
  | _ => False

def aminmax (mx : Bool) (x y : Value) (K : Value → Prop) : Prop :=
  match x with
  | .int k a => match y with
    | .int _ b => match mx with
      | true => K (.int k (if b > a then b else a))
      | false => K (.int k (if b < a then b else a))
    | _ => False
  | _ => False

def alen (T : TT) (t : Nat) (x : Value) (H : Hp) (K : Value → Prop) : Prop :=
  tyK T t fun ti =>
    match ti.desc with
    | .string => match x with | .string s => K (.int .i64 s.size) | _ => False
    | .array n _ => K (.int .i64 n)
    | .slice _ => match x with | .slice _ n _ => K (.int .i64 n) | _ => False
    | .map _ _ => match x with
      | .map none => K (.int .i64 0)
      | .map (some r) => match H r with | .map _ es => K (.int .i64 es.length) | _ => False
      | _ => False
    | _ => False

def aconv (T : TT) (src dst : Nat) (x : Value) (K : Value → Prop) : Prop :=
  tyK T src fun _ => tyK T dst fun td =>
    match x with
    | .int _ n => match td.desc with
      | .int k => K (.int k (k.wrap n))
      | _ => False
    | .string s => match td.desc with
      | .string => K (.string s)
      | _ => False
    | _ => False

def putCells (l : List Value) (off : Nat) : List Value → List Value
  | [] => l
  | c :: cs => putCells (l.set off c) (off + 1) cs

def cellsK (v : Value) (K : List Value → Prop) : Prop :=
  match v with
  | .agg ⟨l⟩ => K l
  | .tuple _ => False
  | .complex _ _ _ => False
  | v => K [v]

/-- The parts of a composite, laid into its cells. 'places': offset and size of each part. -/
def afill (place : Nat → Option (Nat × Nat)) (fr : Fr) (l : List Value) : List (Nat × Operand) → (List Value → Prop) → Prop
  | [], K => K l
  | (i, x) :: rest, K =>
    match place i with
    | none => False
    | some (off, size) => rd fr x fun v => cellsK v fun cs =>
        chk (Nat.beq cs.length size && Nat.ble (off + cs.length) l.length) (afill place fr (putCells l off cs) rest K)

def fieldPlaces (T : TT) (fs : Array Field) (i : Nat) : Option (Nat × Nat) :=
  match fs[i]? with
  | some fd => match T fd.type with | some ti => some (fd.offset, ti.size) | none => none
  | none => none

def forceL : List Value → (List Value → Prop) → Prop
  | [], K => K []
  | v :: l, K => force v fun v => forceL l fun l => K (v :: l)

def abuild (T : TT) (t : Nat) (fr : Fr) (parts : List (Nat × Operand)) (K : Value → Prop) : Prop :=
  tyK T t fun ti =>
    match ti.desc with
    | .struct fs => chk (fs.toList.all fun f => (T f.type).isSome) (afill (fieldPlaces T fs) fr ti.zero parts fun l => forceL l fun l => K (.agg ⟨l⟩))
    | .array _ e => tyK T e fun te => afill (fun i => some (i * te.size, te.size)) fr ti.zero parts fun l => forceL l fun l => K (.agg ⟨l⟩)
    | _ => False

def rdAll (fr : Fr) : List Operand → (List Value → Prop) → Prop
  | [], K => K []
  | x :: xs, K => rd fr x fun v => rdAll fr xs fun l => K (v :: l)

def foldMM (mx : Bool) (x : Value) : List Value → (Value → Prop) → Prop
  | [], K => K x
  | y :: l, K => aminmax mx x y fun z => foldMM mx z l K

def abuiltin (T : TT) (b : Builtin) (argTypes : Array Nat) (fr : Fr) (args : List Operand) (H : Hp) (K : Value → Prop) : Option Prop :=
  match b with
  | .len => match argTypes[0]? with
    | some t => some (rdAll fr args fun vs => match vs with | [x] => alen T t x H K | _ => False)
    | none => some False
  | .min => some (rdAll fr args fun vs => match vs with | x :: l => foldMM false x l K | [] => False)
  | .max => some (rdAll fr args fun vs => match vs with | x :: l => foldMM true x l K | [] => False)
  | _ => none

/-! Maps: entries in the order in which they came; none is taken away. -/

/-- The same value, told by no computation. -/
noncomputable def eqV (a b : Value) : Bool := @decide (a = b) (Classical.propDecidable _)
noncomputable def getE : List (Value × Value) → Value → Option Value
  | [], _ => none
  | e :: r, x => bif eqV e.1 x then some e.2 else getE r x
noncomputable def setE : List (Value × Value) → Value → Value → List (Value × Value)
  | [], x, v => [(x, v)]
  | e :: r, x, v => bif eqV e.1 x then (e.1, v) :: r else e :: setE r x v
noncomputable def idxE : List (Value × Value) → Value → Nat
  | [], _ => 0
  | e :: r, x => bif eqV e.1 x then 0 else idxE r x + 1

inductive LookK (o : Option Value) (X : Value → Prop) (Y : Prop) : Prop
  | hit (v : Value) (e : o = some v) (k : X v)
  | miss (e : o = none) (k : Y)
inductive EntK (o : Option (Value × Value)) (X : Value → Value → Prop) : Prop
  | mk (k v : Value) (e : o = some (k, v)) (h : X k v)
/-- The next entry of a range: none is left, or one that has not been handed out. -/
inductive NextK (n : Nat) (seen : List Nat) (X : Prop) (Y : Nat → Prop) : Prop
  | mk (h : (∀ i, i < n → i ∈ seen) → X) (k : ∀ i, i < n → ¬ i ∈ seen → Y i)

def kindsB : List TypeDesc → List Value → Bool
  | [], [] => true
  | .int k :: ds, .int k' _ :: l => decide (k' = k) && kindsB ds l
  | .string :: ds, .string _ :: l => kindsB ds l
  | .bool :: ds, .bool _ :: l => kindsB ds l
  | _, _ => false
/-- It can be a key of such a type: a struct or an array of ints, strings, bools. -/
def keyB (tk : TI) (v : Value) : Bool :=
  match tk.cmp with
  | [] => false
  | d :: ds => match v with
    | .agg ⟨l⟩ => kindsB (d :: ds) l
    | _ => false
def keysOk (tk : TI) (es : List (Value × Value)) : Prop := ∀ e ∈ es, keyB tk e.1 = true
def zeroV (d : TypeDesc) (z : List Value) : Value := match isAgg d with | true => .agg ⟨z⟩ | false => z.headD undef
def okV (b : Bool) (v : Value) (i : Bool) : Value := match b with | true => .tuple ⟨[v, .bool i]⟩ | false => v

def alookup (T : TT) (t : Nat) (x key : Value) (ok : Bool) (H : Hp) (K : Value → Prop) : Prop :=
  tyK T t fun ti => match ti.desc with
    | .map kt et => tyK T kt fun tk => tyK T et fun te => chk (keyB tk key) (match x with
      | .map (some r) => match H r with
        | .map _ es => PreK (keysOk tk es) (LookK (getE es key) (fun v => K (okV ok v true)) (K (okV ok (zeroV te.desc te.zero) false)))
        | _ => False
      | _ => False)
    | _ => False

/-- The entry that a range has handed out last. -/
def aentry (it : Value) (H : Hp) (K : Value → Prop) : Prop :=
  match it with
  | .pointer (some ⟨b, 0, none⟩) => match H b with
    | .iter m _ (i :: _) => match H m with
      | .map _ es => EntK es[i]? fun k v => K (.tuple ⟨[k, v]⟩)
      | _ => False
    | _ => False
  | _ => False

def isSl (T : TT) (t : Nat) : Bool := match T t with | some ti => (match ti.desc with | .slice _ => true | _ => false) | none => false

/-- A conversion from bytes, or to bytes. -/
def convB (T : TT) (s d : Nat) : Bool := isSl T s || isSl T d

/-- An operation that reads at most. -/
def ro (T : TT) (fr : Fr) (H : Hp) (op : Op) (K : Value → Prop) : Option Prop :=
  match op with
  | .move x => some (rd fr x K)
  | .assign x => some (rd fr x K)
  | .load t a => some (rd fr a fun p => aload T t p H K)
  | .binOp op t x y _ => some (rd fr x fun x => rd fr y fun y => abin T op t x y K)
  | .unOp op _ x => some (rd fr x fun x => aun op x K)
  | .fieldAddr s x f => some (rd fr x fun x => afieldAddr T s x f K)
  | .field s x f => some (rd fr x fun x => afieldVal T s x f K)
  | .indexAddr t x i => some (rd fr x fun x => rd fr i fun i => aindexAddr T t x i K)
  | .index t x i => some (rd fr x fun x => rd fr i fun i => aindex T t x i K)
  | .extract x i => some (rd fr x fun x => aextract x i K)
  | .slice t x lo hi mx => some (rd fr x fun x => aslice T t fr x lo hi mx K)
  | .convert s d x => match convB T s d with | true => none | false => some (rd fr x fun x => aconv T s d x K)
  | .build t parts => some (abuild T t fr parts.toList K)
  | .makeFunc fn first cap => some (rdAll fr first.toList fun f => rdAll fr cap.toList fun c => K (.func fn ⟨f⟩ ⟨c⟩))
  | .lookup t x i ok => some (rd fr x fun x => rd fr i fun i => alookup T t x i ok H K)
  | .entry it => some (rd fr it fun it => aentry it H K)
  | .nilCheck x => some (rd fr x fun v => match v with | .pointer (some a) => K (.pointer (some a)) | _ => False)
  | .call ⟨.builtin b, args, ats⟩ => abuiltin T b ats fr args.toList H K
  | _ => none

structure St where
  fr : Fr
  h : Hp
  nb : Nat
  lo : Nat

inductive AEx where
  | normal
  | exit (id : Nat)
  | ret

/-- What a function does: on arguments, heap, number of blocks: result, heap, number of blocks, the least block written. -/
abbrev Sem1 := List Value → Hp → Nat → (Value → Hp → Nat → Nat → Prop) → Prop
/-- A function that answers with a value without an address and leaves memory alone. -/
abbrev Sem0 := List Value → Hp → Nat → (Value → Prop) → Prop

/-- 'i' behind 'j'. -/
def behind (ops : Array Oper) (i j : Nat) : Array Oper := ops.modify i fun o => { o with after := o.after.push ⟨j, .data⟩ }

/-- One order, or two that hang on which of two operations stands ahead. -/
inductive OrdT where
  | leaf (l cf : List (Nat × List Nat))
  | two (i j : Nat) (a b : OrdT)

def treeB (D : Array Oper → List (Nat × List Nat) → List (Nat × List Nat) → Bool) : OrdT → Array Oper → Bool
  | .leaf l cf, ops => D ops l cf
  | .two i j a b, ops => !Nat.beq i j && treeB D a (behind ops i j) && treeB D b (behind ops j i)

/-- How a region that draws its order is walked. -/
inductive DMode where
  | tree (t : OrdT)
  | tail
  | quiet
  | draw (l cf : List (Nat × List Nat))      -- 'cf': loads, with the temporaries at which others write that may come before them

structure Env where
  b0 : Nat
  T : TT
  N : Nat
  live : List (Nat × List Nat)
  G : Nat → Sem1
  Q : Nat → Sem0
  lex : Array Oper → Bool
  lexT : Array Oper → Nat → Bool
  ord : List (Nat × DMode)      -- regions: the order in which the operations are walked, with the temporaries that are made later
  isK : Nat → Bool                              -- functions that write nothing
  drw : Array Oper → List (Nat × List Nat) → List (Nat × List Nat) → Bool

def Env.at (E : Env) (b : Nat) : Env := match E with | ⟨_, T, N, live, G, Q, lex, lexT, ord, isK, drw⟩ => ⟨b, T, N, live, G, Q, lex, lexT, ord, isK, drw⟩

/-- A step is done: the walk halts here, and goes on. -/
inductive Step (X : Prop) : Prop
  | mk (h : X)

theorem Step.out {X : Prop} : Step X → X
  | .mk h => h

def putK (E : Env) (s : St) (d : Option Nat) (v : Value) (K : St → Prop) : Prop :=
  match s with
  | ⟨fr, h, nb, lo⟩ => match d with
    | some d => chk (Nat.blt d E.N) (Step (K ⟨upd fr d v, h, nb, lo⟩))
    | none => Step (K ⟨fr, h, nb, lo⟩)

/-- A value of which nothing is known. -/
def unk : Value := .complex .f32 0 0

/-- A new block of cells. -/
def anew (E : Env) (s : St) (d : Option Nat) (fl : Bool) (n : Nat) (g : Cel) (K : St → Prop) : Prop :=
  match s with
  | ⟨fr, h, nb, lo⟩ => putK E ⟨fr, upd h nb (.cells true fl n g), nb + 1, lo⟩ d (.pointer (some ⟨nb, 0, some n⟩)) K

/-- A new slice of 'len' elements of 'es' cells each. -/
def anewS (E : Env) (s : St) (d : Option Nat) (fl : Bool) (n len es : Nat) (g : Cel) (K : St → Prop) : Prop :=
  match s with
  | ⟨fr, h, nb, lo⟩ => putK E ⟨fr, upd h nb (.cells true fl n g), nb + 1, lo⟩ d (.slice (some ⟨nb, 0, some n⟩) len es) K

def isOne : Value → Bool
  | .agg _ => false
  | .tuple _ => false
  | .complex _ _ _ => false
  | _ => true

def astore (E : Env) (t : Nat) (p v : Value) (s : St) (d : Option Nat) (K : St → Prop) : Prop :=
  match p with
  | .pointer (some ⟨b, o, some ver⟩) =>
    match s with
    | ⟨fr, h, nb, lo⟩ =>
      match h b with
      | .cells true fl n g => tyK E.T t fun ti => cellsK v fun cs =>
          chk (Nat.beq n ver && Nat.ble (o + cs.length) n && Nat.beq cs.length ti.size && cs.all isOne) (putK E ⟨fr, upd h b (.cells true (fl && cs.all flat0) n (g.put o cs)), nb, Nat.min lo b⟩ d undef K)
      | _ => False
  | _ => False

def zerosL (z : List Value) (n : Nat) : List Value := (List.range n).map fun k => z.getD (k % z.length) undef

/-- Cells that hold one value each. -/
def onesK (c : Cel) (o m : Nat) (X : Prop) : Prop :=
  match c with
  | .fn g => (∀ i, i < m → isOne (g (o + i)) = true) ∧ X
  | .ints _ _ => X
  | .strs _ => X
  | .bools _ => X

/-- 'append(s, x...)'. -/
def aappend (E : Env) (t : Nat) (s x : Value) (st : St) (d : Option Nat) (K : St → Prop) : Prop :=
  tyK E.T t fun ti =>
    match ti.desc with
    | .slice e => tyK E.T e fun te =>
      match x with
      | .slice none 0 0 => match s with
        | .slice none 0 0 => putK E st d (.slice none 0 0) K
        | .slice (some a) n c => putK E st d (.slice (some a) n c) K
        | _ => False
      | .slice (some ⟨_, _, none⟩) 0 _ => match s with
        | .slice none 0 0 => putK E st d (.slice none 0 0) K
        | .slice (some a) n c => putK E st d (.slice (some a) n c) K
        | _ => False
      | .slice (some ⟨bx, ox, some vx⟩) m ex =>
        match st with
        | ⟨fr, h, nb, lo⟩ =>
          match h bx with
          | .cells _ flx nx gx =>
            chk (Nat.beq nx vx && Nat.beq ex te.size && Nat.ble (ox + m * te.size) nx && Nat.blt 0 te.size) (onesK gx ox (m * te.size) (
              match s with
              | .slice none 0 0 => bcase (Nat.beq m 0) (putK E ⟨fr, h, nb, lo⟩ d (.slice none 0 0) K) (chk (Nat.ble (m * te.bytes) 70368744177664 && Nat.ble m 70368744177664) (anewS E ⟨fr, h, nb, lo⟩ d flx (m * te.size) m te.size (gx.sub ox (m * te.size)) K))
              | .slice (some ⟨b, o, none⟩) 0 es => bcase (Nat.beq m 0) (putK E ⟨fr, h, nb, lo⟩ d (.slice (some ⟨b, o, none⟩) 0 es) K)
                  (chk (Nat.ble (m * te.bytes) 70368744177664 && Nat.ble m 70368744177664) (anewS E ⟨fr, h, nb, lo⟩ d flx (m * te.size) m te.size (gx.sub ox (m * te.size)) K))
              | .slice (some ⟨b, 0, some ver⟩) len es =>
                match h b with
                | .cells true fl n g =>
                  chk (Nat.beq n ver && Nat.beq es te.size && Nat.beq (len * te.size) n && Nat.ble ((len + m) * te.bytes) 70368744177664 && Nat.ble (len + m) 70368744177664)
                    (putK E ⟨fr, upd h b (.cells true (fl && flx) (n + m * te.size) (g.app n gx ox (m * te.size))), nb, Nat.min lo b⟩ d (.slice (some ⟨b, 0, some (n + m * te.size)⟩) (len + m) te.size) K)
                | _ => False
              | _ => False))
          | _ => False
      | _ => False
    | _ => False

def bytesL (s : ByteArray) : List Int := s.data.toList.map fun b => (b.toNat : Int)
def strL (l : List Int) : ByteArray := ⟨(l.map fun n => UInt8.ofNat n.toNat).toArray⟩

/-- '[]byte(s)' and 'string(b)'. -/
def abytes (E : Env) (t u : Nat) (v : Value) (s : St) (d : Option Nat) (K : St → Prop) : Prop :=
  tyK E.T t fun ti => tyK E.T u fun tu =>
    match ti.desc with
    | .string => match tu.desc with
      | .slice e => tyK E.T e fun te => match te.desc with
        | .int .u8 => match v with
          | .string b => anewS E s d true b.size b.size 1 (.ints .u8 (bytesL b)) K
          | _ => False
        | _ => False
      | _ => False
    | .slice e => match tu.desc with
      | .string => tyK E.T e fun te => match te.desc with
        | .int .u8 => match v with
          | .slice (some ⟨b, o, some ver⟩) len es =>
            match s with
            | ⟨fr, h, nb, lo⟩ =>
              match h b with
              | .cells _ _ n (.ints .u8 l) => chk (Nat.beq n ver && Nat.beq es 1 && Nat.ble (o + len * es) n) (putK E ⟨fr, h, nb, lo⟩ d (.string (strL ((l.drop o).take len))) K)
              | _ => False
          | _ => False
        | _ => False
      | _ => False
    | _ => False

/-- No range stands over the map 'r'. -/
def noIter (h : Hp) (r : Nat) : Nat → Bool
  | 0 => true
  | n + 1 => (match h n with | .iter m _ _ => !Nat.beq m r | _ => true) && noIter h r n

/-- 'm[key] = v'. -/
def amapset (E : Env) (t : Nat) (m key v : Value) (s : St) (d : Option Nat) (K : St → Prop) : Prop :=
  match m with
  | .map (some r) => match s with
    | ⟨fr, h, nb, lo⟩ => match h r with
      | .map fl es => tyK E.T t fun ti => match ti.desc with
        | .map kt _ => tyK E.T kt fun tk => chk (keyB tk key && noIter h r nb) (PreK (keysOk tk es) (putK E ⟨fr, upd h r (.map (fl && flat1 v) (setE es key v)), nb, Nat.min lo r⟩ d undef K))
        | _ => False
      | _ => False
  | _ => False

/-- 'm[key] op= ..', its first half: the entry is there. -/
def amapent (E : Env) (t : Nat) (m key : Value) (s : St) (d : Option Nat) (K : St → Prop) : Prop :=
  match m with
  | .map (some r) => match s with
    | ⟨fr, h, nb, lo⟩ => match h r with
      | .map fl es => tyK E.T t fun ti => match ti.desc with
        | .map kt et => tyK E.T kt fun tk => tyK E.T et fun te => chk (keyB tk key && noIter h r nb && flat1 (zeroV te.desc te.zero)) (PreK (keysOk tk es)
            (LookK (getE es key) (fun v => putK E ⟨fr, h, nb, Nat.min lo r⟩ d (.tuple ⟨[v, .int .i64 (idxE es key : Nat)]⟩) K)
              (putK E ⟨fr, upd h r (.map fl (es ++ [(key, zeroV te.desc te.zero)])), nb, Nat.min lo r⟩ d (.tuple ⟨[zeroV te.desc te.zero, .int .i64 (es.length : Nat)]⟩) K)))
        | _ => False
      | _ => False
  | _ => False

/-- .. its second half. -/
def amapsto (E : Env) (m st v : Value) (s : St) (d : Option Nat) (K : St → Prop) : Prop :=
  match m with
  | .map (some r) => match s with
    | ⟨fr, h, nb, lo⟩ => match h r with
      | .map fl es => match st with
        | .int _ i => PreK (0 ≤ i ∧ i < (es.length : Int) ∧ noIter h r nb = true) (putK E ⟨fr, upd h r (.map (fl && flat1 v) (es.set i.toNat ((es.getD i.toNat (undef, undef)).1, v))), nb, Nat.min lo r⟩ d undef K)
        | _ => False
      | _ => False
  | _ => False

def arange (E : Env) (t : Nat) (m : Value) (s : St) (d : Option Nat) (K : St → Prop) : Prop :=
  match m with
  | .map (some r) => match s with
    | ⟨fr, h, nb, lo⟩ => match h r with
      | .map _ es => tyK E.T t fun ti => match ti.desc with
        | .map _ _ => putK E ⟨fr, upd h nb (.iter r es.length []), nb + 1, lo⟩ d (.pointer (some ⟨nb, 0, none⟩)) K
        | _ => False
      | _ => False
  | _ => False

def anext (E : Env) (it : Value) (s : St) (d : Option Nat) (K : St → Prop) : Prop :=
  match it with
  | .pointer (some ⟨b, 0, none⟩) => match s with
    | ⟨fr, h, nb, lo⟩ => match h b with
      | .iter m n seen => NextK n seen (putK E ⟨fr, h, nb, Nat.min lo b⟩ d (.tuple ⟨[.bool false]⟩) K) (fun i => putK E ⟨fr, upd h b (.iter m n (i :: seen)), nb, Nat.min lo b⟩ d (.tuple ⟨[.bool true, unk, unk]⟩) K)
      | _ => False
  | _ => False

def aalloc (E : Env) (o : Oper) (s : St) (K : St → Prop) : Prop :=
  match o.op with
  | .makeMap t none => tyK E.T t fun ti => match ti.desc with
    | .map _ _ => match s with
      | ⟨fr, h, nb, lo⟩ => putK E ⟨fr, upd h nb (.map true []), nb + 1, lo⟩ o.dst (.map (some nb)) K
    | _ => False
  | .insert t m k v => rd s.fr m fun m => rd s.fr k fun k => rd s.fr v fun v => amapset E t m k v s o.dst K
  | .mapUpdate t m k v => rd s.fr m fun m => rd s.fr k fun k => rd s.fr v fun v => amapset E t m k v s o.dst K
  | .mapEntry t m k => rd s.fr m fun m => rd s.fr k fun k => amapent E t m k s o.dst K
  | .entryStore _ m st v => rd s.fr m fun m => rd s.fr st fun st => rd s.fr v fun v => amapsto E m st v s o.dst K
  | .range t m => rd s.fr m fun m => arange E t m s o.dst K
  | .next it false => rd s.fr it fun it => anext E it s o.dst K
  | .convert t u x => rd s.fr x fun v => abytes E t u v s o.dst K
  | .box t x => rd s.fr x fun v => cellsK v fun l => tyK E.T t fun ti => chk (Nat.beq l.length ti.size) (anew E s o.dst (l.all flat0) ti.size (.fn (listFn l)) K)
  | .alloc t => tyK E.T t fun ti => anew E s o.dst true ti.size (.fn (listFn ti.zero)) K
  | .makeSlice t l c => rd s.fr l fun lv => rd s.fr c fun cv =>
    match lv with
    | .int _ ln =>
      match cv with
      | .int _ cn => tyK E.T t fun ti =>
        match ti.desc with
        | .slice e => tyK E.T e fun te =>
          chk (decide (0 ≤ ln) && decide (ln = cn) && decide ((te.bytes : Int) * ln ≤ 281474976710656) && decide (ln ≤ 9223372036854775807) && Nat.blt 0 te.size) (anewS E s o.dst true (ln.toNat * te.size) ln.toNat te.size (celRep te.zero (ln.toNat * te.size)) K)
        | _ => False
      | _ => False
    | _ => False
  | .buildSlice t len parts => tyK E.T t fun ti =>
    match ti.desc with
    | .slice e => tyK E.T e fun te =>
      chk (Nat.ble (len * te.size) 16777216 && Nat.blt 0 te.size) (afill (fun i => some (i * te.size, te.size)) s.fr (zerosL te.zero (len * te.size)) parts.toList fun l => forceL l fun l => anewS E s o.dst (l.all flat0) (len * te.size) len te.size (celOf te.zero l) K)
    | _ => False
  | .call ⟨.builtin .append, args, ats⟩ =>
    match ats with
    | ⟨[t, u]⟩ => chk (Nat.beq t u) (rdAll s.fr args.toList fun vs => match vs with | [sv, xv] => aappend E t sv xv s o.dst K | _ => False)
    | _ => False
  | .store t a x => rd s.fr a fun p => rd s.fr x fun v => astore E t p v s o.dst K
  | .pick c a b =>
    match c with
    | .tmp c =>
      match s with
      | ⟨fr, h, nb, lo⟩ =>
      match fr c with
      | .bool t => bcase t (rd fr a fun v => putK E ⟨upd fr c (.bool true), h, nb, lo⟩ o.dst v K) (rd fr b fun v => putK E ⟨upd fr c (.bool false), h, nb, lo⟩ o.dst v K)
      | _ => False
    | _ => False
  | .call ⟨.value f, args, _⟩ =>
    rd s.fr f fun fv =>
      match fv with
      | .func (.func g) ⟨first⟩ ⟨cap⟩ =>
        rdAll s.fr args.toList fun vs => match s with
          | ⟨fr, h, nb, lo⟩ => E.G g (first ++ vs ++ cap) h nb fun r h' nb' lo' => putK E ⟨fr, h', nb', Nat.min lo lo'⟩ o.dst r K
      | _ => False
  | _ => False

def aop (E : Env) (o : Oper) (s : St) (K : St → Prop) : Prop :=
  match ro E.T s.fr s.h o.op (fun v => putK E s o.dst v K) with
  | some X => X
  | none => aalloc E o s K

/-- In a region that draws its order. -/
def aopQ (E : Env) (o : Oper) (s : St) (K : St → Prop) : Prop :=
  match ro E.T s.fr s.h o.op (fun v => putK E s o.dst v K) with
  | some X => X
  | none => match o.op with
    | .call ⟨.value f, args, _⟩ =>
      rd s.fr f fun fv =>
        match fv with
        | .func (.func g) ⟨first⟩ ⟨cap⟩ => rdAll s.fr args.toList fun vs => E.Q g (first ++ vs ++ cap) s.h s.nb fun r => putK E s o.dst r K
        | _ => False
    | .pick _ _ _ => aalloc E o s K
    | _ => False

/-- An operation that reads at most, and calls nobody. -/
def aopR (E : Env) (o : Oper) (s : St) (K : St → Prop) : Prop :=
  match ro E.T s.fr s.h o.op (fun v => putK E s o.dst v K) with
  | some X => X
  | none => match o.op with
    | .pick _ _ _ => aalloc E o s K
    | _ => False

def isStill : Op → Bool
  | .move _ | .assign _ | .load _ _ | .binOp _ _ _ _ _ | .unOp _ _ _ | .fieldAddr _ _ _ | .field _ _ _ | .indexAddr _ _ _ | .index _ _ _ | .extract _ _ | .slice _ _ _ _ _ | .convert _ _ _ | .build _ _ | .makeFunc _ _ _ | .nilCheck _ | .pick _ _ _ => true
  | .call ⟨.builtin .len, _, _⟩ => true
  | .call ⟨.builtin .min, _, _⟩ => true
  | .call ⟨.builtin .max, _, _⟩ => true
  | _ => false

def headLen : List Oper → Nat
  | [] => 0
  | o :: l => match isStill o.op with | true => headLen l + 1 | false => 0

def guardOf (ops : Array Oper) (s : St) (o : Oper) (X Y : St → Prop) : Prop :=
  match o.guard with
  | none => X s
  | some (j, want) =>
    match (ops[j]?).bind (·.dst) with
    | some d =>
      match s with
      | ⟨fr, h, nb, lo⟩ =>
        match fr d with
        | .bool b =>
          match want with
          | true => bcase b (X ⟨upd fr d (.bool true), h, nb, lo⟩) (Y ⟨upd fr d (.bool false), h, nb, lo⟩)
          | false => bcase b (Y ⟨upd fr d (.bool true), h, nb, lo⟩) (X ⟨upd fr d (.bool false), h, nb, lo⟩)
        | .tuple ⟨[]⟩ => Y ⟨fr, h, nb, lo⟩
        | _ => False
    | none => False

def aops (E : Env) (ops : Array Oper) : List Oper → St → (St → Prop) → Prop
  | [], s, K => K s
  | o :: rest, s, K => guardOf ops s o (fun s => aop E o s fun s' => aops E ops rest s' K) (fun s => putK E s o.dst undef fun s => aops E ops rest s K)

def aopsQ (E : Env) (ops : Array Oper) : List Oper → St → (St → Prop) → Prop
  | [], s, K => K s
  | o :: rest, s, K => guardOf ops s o (fun s => aopQ E o s fun s' => aopsQ E ops rest s' K) (fun s => putK E s o.dst undef fun s => aopsQ E ops rest s K)

def aopsR (E : Env) (ops : Array Oper) : List Oper → St → (St → Prop) → Prop
  | [], s, K => K s
  | o :: rest, s, K => guardOf ops s o (fun s => aopR E o s fun s' => aopsR E ops rest s' K) (fun s => putK E s o.dst undef fun s => aopsR E ops rest s K)

/-! Regions that draw their order, with variables made and written. -/

/-- It does not look at memory. -/
def freeOp (op : Op) : Bool :=
  match op with
  | .load _ _ => false
  | .lookup _ _ _ _ => false
  | .entry _ => false
  | .call ⟨.builtin .len, _, _⟩ => false
  | _ => true

/-- 0: looks at temporaries alone; 1: reads memory; 2: makes a variable; 3: leaves what was as it was; 4: any. -/
def opCls (isK : Nat → Bool) (o : Oper) : Nat :=
  match o.op with
  | .move _ => 0
  | .assign _ => 0
  | .extract _ _ => 0
  | .pick _ _ _ => 0
  | .binOp _ _ _ _ _ => 0
  | .unOp _ _ _ => 0
  | .fieldAddr _ _ _ => 0
  | .field _ _ _ => 0
  | .indexAddr _ _ _ => 0
  | .index _ _ _ => 0
  | .slice _ _ _ _ _ => 0
  | .convert s d _ => bif isK (1000000 + s) || isK (1000000 + d) then 3 else 0
  | .build _ _ => 0
  | .makeFunc _ _ _ => 0
  | .nilCheck _ => 0
  | .load _ _ => 1
  | .lookup _ _ _ _ => 1
  | .entry _ => 1
  | .call ⟨.builtin b, _, _⟩ => match b with | .min => 0 | .max => 0 | .len => 1 | _ => 4
  | .alloc _ => match o.guard with | none => (match o.dst with | some _ => 2 | none => 3) | some _ => 3
  | .box _ _ => 3
  | .buildSlice _ _ _ => 3
  | .makeSlice _ _ _ => 3
  | .call ⟨.value (.func f), _, _⟩ => bif isK f then 3 else 4
  | _ => 4

def maskF (fr : Fr) : List Nat → Fr
  | [] => fr
  | d :: l => upd (maskF fr l) d unk

def maskK (l : List Nat) (s : St) (K : St → Prop) : Prop :=
  match l with
  | [] => K s
  | l => match s with | ⟨fr, h, nb, lo⟩ => K ⟨maskF fr l, h, nb, lo⟩

def lookX : List (Nat × List Nat) → Nat → Option (List Nat)
  | [], _ => none
  | (i, L) :: l, k => match Nat.beq k i with | true => some L | false => lookX l k

/-- The value names another block than 'b', which is one's own. -/
def otherK (h : Hp) (b : Nat) (v : Value) (X : Prop) : Prop :=
  match v with
  | .slice (some ⟨b', _, some ver⟩) _ _ => match Nat.beq b b' with
    | true => False
    | false => match h b' with | .cells true _ n _ => chk (Nat.beq ver n) X | _ => False
  | .slice none _ _ => X
  | .pointer (some ⟨b', _, some ver⟩) => match Nat.beq b b' with
    | true => False
    | false => match h b' with | .cells true _ n _ => chk (Nat.beq ver n) X | _ => False
  | _ => False

def confK (fr : Fr) (h : Hp) (b : Nat) : List Nat → Prop → Prop
  | [], X => X
  | x :: xs, X => otherK h b (fr x) (confK fr h b xs X)

/-- A load beside writes: those write to other blocks. -/
def confC (cf : List (Nat × List Nat)) (c : Nat) (s : St) (o : Oper) (X : Prop) : Prop :=
  match lookX cf c with
  | none => X
  | some xs => match o.op with
    | .load _ (.tmp p) => match s.fr p with
      | .pointer (some ⟨b, _, _⟩) => confK s.fr s.h b xs X
      | _ => False
    | _ => False

def aopsC (E : Env) (ops : Array Oper) (cf : List (Nat × List Nat)) : List (Nat × List Nat) → St → (St → Prop) → Prop
  | [], s, K => K s
  | (c, l) :: rest, s, K => maskK l s fun s => match ops[c]? with
    | some o => guardOf ops s o (fun s => confC cf c s o ((match opCls E.isK o with | 0 => aopR | 1 => aopR | _ => aop) E o s fun s' => aopsC E ops cf rest s' K)) (fun s => putK E s o.dst undef fun s => aopsC E ops cf rest s K)
    | none => False

/-! The blocks that a value names. -/

def hasB (h : Hp) (nb b : Nat) : Bool := Nat.blt b nb && (match h b with | .none => false | _ => true)

def idsIn0 (h : Hp) (nb : Nat) : Value → Bool
  | .bool _ => true
  | .int _ _ => true
  | .string _ => true
  | .pointer none => true
  | .pointer (some ⟨b, _, _⟩) => hasB h nb b
  | .slice none _ _ => true
  | .slice (some ⟨b, _, _⟩) _ _ => hasB h nb b
  | .map none => true
  | .map (some r) => hasB h nb r
  | .nilFunc => true
  | .nilIface => true
  | _ => false

def idsIn (h : Hp) (nb : Nat) : Value → Bool
  | .agg ⟨l⟩ => l.all (idsIn0 h nb)
  | .func _ ⟨f⟩ ⟨c⟩ => f.all (idsIn0 h nb) && c.all (idsIn0 h nb)
  | v => idsIn0 h nb v

/-- A value, its blocks named anew. -/
def ren0 (ρ : Nat → Nat) : Value → Value
  | .pointer (some ⟨b, o, s⟩) => .pointer (some ⟨ρ b, o, s⟩)
  | .slice (some ⟨b, o, s⟩) n c => .slice (some ⟨ρ b, o, s⟩) n c
  | .map (some r) => .map (some (ρ r))
  | v => v

def ren (ρ : Nat → Nat) : Value → Value
  | .agg ⟨l⟩ => .agg ⟨l.map (ren0 ρ)⟩
  | .func f ⟨a⟩ ⟨c⟩ => .func f ⟨a.map (ren0 ρ)⟩ ⟨c.map (ren0 ρ)⟩
  | v => ren0 ρ v

def renF : List (Nat × Nat) → Nat → Nat
  | [], b => b
  | (k, x) :: R, b => match Nat.beq b k with | true => x | false => renF R b

/-- A value brought to its constructor, if it is of use. -/
def soft (v : Value) (K : Value → Prop) (D : Prop) : Prop :=
  match v with
  | .bool b => K (.bool b)
  | .int k n => K (.int k n)
  | .float _ _ => D
  | .complex _ _ _ => D
  | .string s => K (.string s)
  | .pointer a => K (.pointer a)
  | .slice a n c => K (.slice a n c)
  | .map r => K (.map r)
  | .chan _ => D
  | .func f a c => K (.func f a c)
  | .nilFunc => K .nilFunc
  | .iface _ _ => D
  | .nilIface => K .nilIface
  | .agg cs => K (.agg cs)
  | .tuple _ => D

def frame : List (Nat × Value) → Fr
  | [] => fun _ => unk
  | (d, v) :: l => upd (frame l) d v

/-- The slots of a list, if they are of use. -/
def keepSlots (fr : Fr) : List Nat → (List (Nat × Value) → Prop) → Prop
  | [], K => K []
  | d :: L, K => soft (fr d) (fun v => keepSlots fr L fun f => K ((d, v) :: f)) (keepSlots fr L K)

def gcK (L : List Nat) (s : St) (K : St → Prop) : Prop :=
  match s with
  | ⟨fr, h, nb, lo⟩ => keepSlots fr L fun f => K ⟨frame f, h, nb, lo⟩

def lookL : List (Nat × List Nat) → Nat → Option (List Nat)
  | [], _ => none
  | (i, L) :: l, k => match Nat.beq k i with | true => some L | false => lookL l k

def gcAt (E : Env) (cur : Nat) (s : St) (K : St → Prop) : Prop :=
  match lookL E.live cur with
  | none => K s
  | some L => gcK L s K

/-! The same state, said in other words. -/

/-- Two values of one constructor: their parts are the same. -/
def veq0 (v w : Value) : Prop :=
  match v with
  | .int k a => match w with
    | .int k' b => chk (decide (k = k')) (a = b)
    | w => .int k a = w
  | .bool a => match w with
    | .bool b => a = b
    | w => .bool a = w
  | .string a => match w with
    | .string b => a = b
    | w => .string a = w
  | .slice (some ⟨a, o, s⟩) n c => match w with
    | .slice (some ⟨a', o', s'⟩) n' c' => chk (Nat.beq a a' && Nat.beq c c') (o = o' ∧ s = s' ∧ n = n')
    | w => .slice (some ⟨a, o, s⟩) n c = w
  | v => v = w

def veqs : List Value → List Value → Prop
  | [], [] => True
  | v :: l, w :: m => veq0 v w ∧ veqs l m
  | _, _ => False

def veq (v w : Value) : Prop :=
  match v with
  | .agg ⟨l⟩ => match w with
    | .agg ⟨m⟩ => veqs l m
    | w => .agg ⟨l⟩ = w
  | v => veq0 v w

def veqsT : List Value → List Value → Prop
  | [], [] => True
  | v :: l, w :: m => veq v w ∧ veqsT l m
  | _, _ => False

def veqT (v w : Value) : Prop :=
  match v with
  | .tuple ⟨l⟩ => match w with
    | .tuple ⟨m⟩ => veqsT l m
    | w => .tuple ⟨l⟩ = w
  | v => veq v w

def cellsV (g' f : Nat → Value) : Nat → Prop
  | 0 => True
  | n + 1 => veq (g' n) (f n) ∧ cellsV g' f n

/-- The cells are said in other words. -/
def oObj (a c : AObj) : Prop :=
  match c with
  | .cells o fl n g =>
    match a with
    | .cells o' fl' n' g' => chk ((o == o') && (!fl || fl')) (match g with
      | .ints k l => match g' with
        | .ints k' l' => chk (decide (k' = k)) (n' = n ∧ l' = l)
        | g' => n' = n ∧ l.length = n ∧ ∀ i, i < n → g'.at i = .int k (l.getD i 0)
      | .strs l => match g' with
        | .strs l' => n' = n ∧ l' = l
        | g' => n' = n ∧ l.length = n ∧ ∀ i, i < n → g'.at i = .string (l.getD i .empty)
      | .bools l => match g' with
        | .bools l' => n' = n ∧ l' = l
        | g' => n' = n ∧ l.length = n ∧ ∀ i, i < n → g'.at i = .bool (l.getD i false)
      | .fn f => n' = n ∧ ((n = n ∧ ∀ i, i < n → g'.at i = f i) ∨ cellsV g'.at f n))
    | _ => False
  | .map fl es => match a with | .map fl' es' => chk (fl && fl') (es' = es) | _ => False
  | c => a = c

def wObj (a b : AObj) : Prop := a = b ∨ oObj a b

def weakH : Nat → Hp → Hp → Prop
  | 0, _, _ => True
  | n + 1, h, h' => wObj (h n) (h' n) ∧ weakH n h h'

def weakS (s t : St) : Prop :=
  match s with
  | ⟨fr, h, nb, lo⟩ => match t with
    | ⟨fr', h', nb', lo'⟩ => (∀ k, fr' k = unk ∨ fr k = fr' k) ∧ nb = nb' ∧ lo' ≤ lo ∧ weakH nb h h'

def frOk (fr : Fr) : List (Nat × Value) → Prop
  | [] => True
  | (d, v) :: l => fr d = v ∧ frOk fr l

theorem frOk_all {fr : Fr} : ∀ {l : List (Nat × Value)}, frOk fr l → ∀ k, frame l k = unk ∨ fr k = frame l k
  | [], _, _ => .inl rfl
  | (d, v) :: l, h, k => by
    unfold frame upd
    cases e : Nat.beq k d with
    | true => rw [Nat.eq_of_beq_eq_true e]; exact .inr h.1
    | false => exact frOk_all h.2 k

def renOk (R : List (Nat × Nat)) (b0 nb nb' : Nat) : Bool :=
  match R with
  | [] => Nat.ble b0 nb' && Nat.ble nb' nb
  | R => Nat.ble b0 nb' && (List.range nb').all (fun b => Nat.blt (renF R b) nb && (Nat.ble b0 b || Nat.beq (renF R b) b) && (List.range nb').all (fun c => Nat.beq b c || !Nat.beq (renF R b) (renF R c)))

/-- 'n' cells, one by one. -/
def cellsR (ρ : Nat → Nat) (h' : Hp) (nb' : Nat) (g' f : Nat → Value) : Nat → Prop
  | 0 => True
  | n + 1 => (idsIn h' nb' (f n) = true ∧ veq (g' n) (ren ρ (f n))) ∧ cellsR ρ h' nb' g' f n

/-- The block 'a', its name kept or not, said in the words 'c'. -/
def wObjR (b0 : Nat) (ρ : Nat → Nat) (h' : Hp) (nb' : Nat) (b : Nat) (a c : AObj) : Prop :=
  match c with
  | .none => (match a with | .none => true | _ => Nat.ble b0 b) = true
  | .cells o fl n g =>
    match a with
    | .cells o' fl' n' g' => chk (!o || o') (match g with
      | .fn f => n' = n ∧ ((fl = true → fl' = true) ∧ ((fl = true ∧ ∀ k, k < n → g'.at k = f k) ∨ cellsR ρ h' nb' g'.at f n))
      | .ints k l => match g' with
        | .ints k' l' => chk (decide (k' = k)) (n' = n ∧ l' = l)
        | g' => n' = n ∧ l.length = n ∧ ∀ i, i < n → g'.at i = .int k (l.getD i 0)
      | .strs l => match g' with
        | .strs l' => n' = n ∧ l' = l
        | g' => n' = n ∧ l.length = n ∧ ∀ i, i < n → g'.at i = .string (l.getD i .empty)
      | .bools l => match g' with
        | .bools l' => n' = n ∧ l' = l
        | g' => n' = n ∧ l.length = n ∧ ∀ i, i < n → g'.at i = .bool (l.getD i false))
    | _ => False
  | .map fl es => match a with | .map fl' es' => chk (fl && fl') (es' = es) | _ => False
  | .iter m n seen => hasB h' nb' m = true ∧ (match a with | .iter m' n' seen' => chk (Nat.beq m' (ρ m)) (n' = n ∧ seen' = seen) | _ => False)

def heapR (b0 : Nat) (ρ : Nat → Nat) (h : Hp) (h' : Hp) (nb' : Nat) : Nat → Prop
  | 0 => True
  | n + 1 => wObjR b0 ρ h' nb' n (h (ρ n)) (h' n) ∧ heapR b0 ρ h h' nb' n

/-- The same state, said in other words, some blocks forgotten, others named anew. -/
def weakR (b0 : Nat) (R : List (Nat × Nat)) (s t : St) : Prop :=
  match s with
  | ⟨fr, h, nb, lo⟩ => match t with
    | ⟨fr', h', nb', lo'⟩ => renOk R b0 nb nb' = true ∧ lo' ≤ lo ∧ heapR b0 (renF R) h h' nb' nb' ∧ ∀ k, fr' k = unk ∨ (idsIn h' nb' (fr' k) = true ∧ fr k = ren (renF R) (fr' k))

/-- The slots of a list, one by one. -/
def frR (ρ : Nat → Nat) (h' : Hp) (nb' : Nat) (fr : Fr) : List (Nat × Value) → Prop
  | [] => True
  | (d, v) :: l => (idsIn h' nb' v = true ∧ veq (fr d) (ren ρ v)) ∧ frR ρ h' nb' fr l

def weakX (b0 : Nat) (s t : St) : Prop := weakS s t ∨ ∃ R, weakR b0 R s t

/-- A loop: so many rounds at most; or by an invariant with a measure. -/
def loopI (b0 : Nat) (gc : St → (St → Prop) → Prop) (body : St → (AEx → St → Prop) → Prop) (s : St) (K : AEx → St → Prop) : Prop :=
  ∃ (α : Type) (μ : α → Nat) (S : α → St) (Q : α → Prop), (∃ a, weakX b0 s (S a) ∧ Q a) ∧
    ∀ a, Q a → body (S a) fun e s2 => match e with | .normal => gc s2 fun s3 => ∃ a', μ a' < μ a ∧ Q a' ∧ weakX b0 s3 (S a') | .exit i => K (.exit i) s2 | .ret => K .ret s2

def aloop (gc : St → (St → Prop) → Prop) (body : St → (AEx → St → Prop) → Prop) : Nat → St → (AEx → St → Prop) → Prop
  | 0, _, _ => False
  | m + 1, s, K => body s fun e s' => match e with | .normal => gc s' fun s'' => aloop gc body m s'' K | .exit i => K (.exit i) s' | .ret => K .ret s'

def lookD : List (Nat × DMode) → Nat → Option DMode
  | [], _ => none
  | (i, L) :: l, k => match Nat.beq k i with | true => some L | false => lookD l k

/-- The regions that draw their order may be walked as is said. -/
def bodyOk (E : Env) : Code → Bool
  | .region id ops true => match lookD E.ord id with
    | some (.tree t) => treeB E.drw t ops
    | some (.draw l cf) => E.drw ops l cf
    | some .tail => E.lexT ops (headLen ops.toList)
    | some .quiet => E.lex ops
    | none => false
  | .seq a b => bodyOk E a && bodyOk E b
  | .cond _ a b => bodyOk E a && bodyOk E b
  | .block _ c => bodyOk E c
  | .loop c => bodyOk E c
  | _ => true

def aopsT (E : Env) (ops : Array Oper) : OrdT → St → (St → Prop) → Prop
  | .leaf l cf, s, K => aopsC E ops cf l s K
  | .two _ _ a b, s, K => aopsT E ops a s K ∧ aopsT E ops b s K

/-- 'cur': the block around. -/
def awp (E : Env) : (c : Code) → (cur : Nat) → St → (AEx → St → Prop) → Prop
  | .skip, _, s, K => K .normal s
  | .region _ ops false, _, s, K => aops E ops ops.toList s fun s' => K .normal s'
  | .region id ops true, _, s, K =>
    match lookD E.ord id with
    | some (.tree t) => aopsT E ops t s fun s' => K .normal s'
    | some (.draw l cf) => aopsC E ops cf l s fun s' => K .normal s'
    | some .tail => aopsR E ops (ops.toList.take (headLen ops.toList)) s fun s1 => aops E ops (ops.toList.drop (headLen ops.toList)) s1 fun s' => K .normal s'
    | some .quiet => aopsQ E ops ops.toList s fun s' => K .normal s'
    | none => False
  | .seq a b, cur, s, K => awp E a cur s fun e s' => match e with | .normal => awp E b cur s' K | .exit i => K (.exit i) s' | .ret => K .ret s'
  | .cond c x y, cur, s, K =>
    match c with
    | .tmp c =>
      match s with
      | ⟨fr, h, nb, lo⟩ =>
        match fr c with
        | .bool t => bcase t (awp E x cur ⟨upd fr c (.bool true), h, nb, lo⟩ K) (awp E y cur ⟨upd fr c (.bool false), h, nb, lo⟩ K)
        | _ => False
    | _ => False
  | .block id c, _, s, K => awp E c id s fun e s' => match e with | .exit i => bcase (Nat.beq i id) (K .normal s') (K (.exit i) s') | .normal => K .normal s' | .ret => K .ret s'
  | .loop c, cur, s, K => match s with | ⟨fr, h, nb, lo⟩ => gcAt E cur ⟨fr, h, nb, lo⟩ fun s' => (∃ m, aloop (gcAt E cur) (awp E c cur) m s' K) ∨ loopI E.b0 (gcAt E cur) (awp E c cur) s' K
  | .exit id, _, s, K => K (.exit id) s
  | .ret, _, s, K => K .ret s
  | _, _, _, _ => False

def aresult (T : TT) (s : St) (x : ResultVar) (K : Value → Prop) : Prop :=
  match x with
  | .tmp t => force (s.fr t) K
  | .cell a t => force (s.fr a) fun p => aload T t p s.h K

def aresults (T : TT) (s : St) : List ResultVar → (List Value → Prop) → Prop
  | [], K => K []
  | x :: xs, K => aresult T s x fun v => aresults T s xs fun l => K (v :: l)

def initFr (args : List Value) : Fr := fun k => args.getD k undef

/-- A whole function. -/
def abody (E : Env) (fn : Func) : Sem1 := fun args h nb K =>
  match fn.body with
  | some c => chk (Nat.beq E.N fn.ntmps && Nat.ble args.length fn.ntmps) (bodyOk E c = true ∧ awp (E.at nb) c 0 ⟨initFr args, h, nb, nb⟩ fun e s =>
      match e with
      | .exit _ => False
      | _ => aresults E.T s fn.results.toList fun vs => match vs with
        | [v] => K v s.h s.nb s.lo
        | vs => K (.tuple ⟨vs⟩) s.h s.nb s.lo)
  | none => False

end Go.Eng
