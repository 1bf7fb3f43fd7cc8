/- The run of a translated function over pure values: operations, regions, code, one function's body. Plain definitions. -/
import Derived.Test.YtdfahkeodlfopaaDoorPvBase
namespace Go.Pv
open Go.RowKit

/-! ### types, told by a table -/
inductive KD where
  | int (k : IntKind) | bool | str
  | agg (fs : List (Nat × TypeId × Bool)) (held guard : Bool)
  | arr (n : Nat) (e : TypeId)
  | sl (e : TypeId)
  | ptr (e : TypeId)
  | iface | fn | other

structure TK where
  kd : KD
  size : Nat
  bytes : Nat
  zero : List PV

def KD.isAgg : KD → Bool
  | .agg .. => true
  | .arr .. => true
  | _ => false

def KD.known : KD → Bool
  | .other => false
  | _ => true

abbrev Tab := TypeId → Option TK

/-! ### values of the code -/
def ofCell : Value → PV
  | .bool b => .bool b
  | .int k n => if (Lit.int k n).wf then .int k n else .top
  | .string s => if s.data.toList.length ≤ maxLen then .str s.data.toList else .top
  | .pointer none => .nilp
  | .slice none 0 0 => .sl [] .full
  | .func (.func f) first caps => match first.toList, caps.toList with | [], [] => .fn f [] | _, _ => .top
  | .nilFunc => .nilf
  | .nilIface => .nili
  | _ => .top

def ofValue : Value → PV
  | .agg cs => .agg (cs.toList.map ofCell)
  | v => ofCell v

def kdOf (P : Program) (t : TypeId) : KD :=
  match P.underlying t with
  | some (.int k) => .int k
  | some .bool => .bool
  | some .string => .str
  | some (.struct fs) => .agg (fs.toList.map fun f => (f.offset, f.type, f.name != "_")) (P.stoodInHeld t) (P.eqGuardType P.depth t)
  | some (.array n e) => .arr n e
  | some (.slice e) => .sl e
  | some (.pointer e) => .ptr e
  | some (.interface _) => .iface
  | some (.func ..) => .fn
  | _ => .other

def tkOf (P : Program) (t : TypeId) : Option TK :=
  (P.info? t).bind fun i => i.zero.map fun z => ⟨kdOf P t, i.size, i.bytes, z.cells.toList.map ofCell⟩

/-! ### the frame -/
def ev (fr : List PV) : Operand → PV
  | .tmp t => fr.getD t .top
  | .const v => ofValue v
  | .global _ => .top
  | .func f => .fn f []

def one : PV → Bool
  | .top | .agg _ | .tup _ => false
  | _ => true

def pcells : PV → Option (List PV)
  | .agg cs => some cs
  | .top => none
  | .tup _ => none
  | x => some [x]

structure Store where
  objs : List (List PV)
  toks : List (Nat × Nat × TypeId)
  tys : List TypeId

def pload (K : TK) (cs : List PV) (off : Nat) : Option PV :=
  if K.kd.known then (if K.kd.isAgg then (if off + K.size ≤ cs.length then some (.agg ((cs.drop off).take K.size)) else none) else cs[off]?) else none

def pput (fr : List PV) (dst : Option Tmp) (x : PV) : List PV :=
  match dst with
  | some d => fr.set d x
  | none => fr

/-! ### operations on values -/
def pint (op : BinOp) (k : IntKind) (a b : Int) : Option PV :=
  match op with
  | .add => some (.int k (k.wrap (a + b)))
  | .sub => some (.int k (k.wrap (a - b)))
  | .mul => some (.int k (k.wrap (a * b)))
  | .quo => if b = 0 then none else some (.int k (k.wrap (a.tdiv b)))
  | .rem => if b = 0 then none else some (.int k (a.tmod b))
  | .and => some (.int k (k.wrap (BitVec.ofInt k.bits a &&& BitVec.ofInt k.bits b).toNat))
  | .or => some (.int k (k.wrap (BitVec.ofInt k.bits a ||| BitVec.ofInt k.bits b).toNat))
  | .xor => some (.int k (k.wrap (BitVec.ofInt k.bits a ^^^ BitVec.ofInt k.bits b).toNat))
  | .eql => some (.bool (a == b))
  | .neq => some (.bool (a != b))
  | .lss => some (.bool (decide (a < b)))
  | .leq => some (.bool (decide (a ≤ b)))
  | .gtr => some (.bool (decide (a > b)))
  | .geq => some (.bool (decide (a ≥ b)))
  | _ => none

def pstr (op : BinOp) (a b : List UInt8) : Option PV :=
  match op with
  | .add => if a.length + b.length ≤ maxLen then some (.str (a ++ b)) else none
  | .eql => some (.bool (a == b))
  | .neq => some (.bool (!(a == b)))
  | .lss => some (.bool (Op.bytesLess a b))
  | .leq => some (.bool (Op.bytesLess a b || a == b))
  | .gtr => some (.bool (!(Op.bytesLess a b || a == b)))
  | .geq => some (.bool (!Op.bytesLess a b))
  | _ => none

def peqFs (tb : Tab) (f : TypeId → PV → PV → Option Bool) (xs ys : List PV) : List (Nat × TypeId × Bool) → Option Bool
  | [] => some true
  | (off, t, named) :: rest =>
    if named then
      match tb t with
      | none => none
      | some K => match pload K xs off, pload K ys off with
        | some x, some y => match f t x y with
          | some true => peqFs tb f xs ys rest
          | some false => some false
          | none => none
        | _, _ => none
    else peqFs tb f xs ys rest

def peq (tb : Tab) : Nat → TypeId → PV → PV → Option Bool
  | 0, _, _, _ => none
  | d + 1, t, x, y => match tb t with
    | none => none
    | some K => match K.kd, x, y with
      | .int _, .int k a, .int k' b => if k = k' then some (a == b) else none
      | .bool, .bool a, .bool b => some (a == b)
      | .str, .str a, .str b => some (a == b)
      | .agg fs held _, .agg xs, .agg ys => if held then none else peqFs tb (peq tb d) xs ys fs
      | _, _, _ => none

def isK : Operand → Bool
  | .const _ => true
  | _ => false

/-- The constant nil of a row's type. -/
def isNilK : Operand → Bool
  | .const (.slice none 0 0) => true
  | _ => false

/-- '==' of values that are no ints and no strings. -/
def pequal (tb : Tab) (t : TypeId) (xo yo : Operand) (x y : PV) : Option Bool :=
  match tb t with
  | none => none
  | some K => match K.kd, x, y with
    | .iface, .nili, .nili => if isK xo || isK yo then some true else none
    | .iface, .nili, .iface _ _ => some false
    | .iface, .iface _ _, .nili => some false
    | .fn, .nilf, .nilf => some true
    | .fn, .nilf, .fn _ _ => some false
    | .fn, .fn _ _, .nilf => some false
    | .bool, .bool a, .bool b => some (a == b)
    | .agg _ _ guard, .agg xs, .agg ys => if guard then none else peq tb 50 t (.agg xs) (.agg ys)
    | .sl _, .sl xs tg, .sl _ _ => if isNilK yo then (match xs with
      | [] => match tg with
        | .nil => some true
        | .own => some false
        | _ => none
      | _ :: _ => some false) else none
    | _, _, _ => none

def pbin (tb : Tab) (op : BinOp) (t : TypeId) (xo yo : Operand) (x y : PV) : Option PV :=
  match op, x, y with
  | .shl, .int k a, .int _ b => if b < 0 then none else some (.int k (k.wrap (a * 2 ^ min b.toNat k.bits)))
  | .shr, .int k a, .int _ b => if b < 0 then none else some (.int k (a.fdiv (2 ^ min b.toNat k.bits)))
  | op, .int k a, .int k' b => if k = k' then pint op k a b else none
  | op, .str a, .str b => pstr op a b
  | .eql, x, y => (pequal tb t xo yo x y).map .bool
  | .neq, x, y => (pequal tb t xo yo x y).map fun b => .bool (!b)
  | _, _, _ => none

def pun (op : UnOp) (x : PV) : Option PV :=
  match op, x with
  | .neg, .int k n => some (.int k (k.wrap (0 - n)))
  | .not, .bool b => some (.bool (!b))
  | _, _ => none

/-- The bytes of a row of bytes. -/
def pbytes : List (List PV) → Option (List UInt8)
  | [] => some []
  | [.int .u8 n] :: rest => (pbytes rest).map fun l => UInt8.ofNat n.toNat :: l
  | _ => none

def pconv (tb : Tab) (src dst : TypeId) (x : PV) : Option PV :=
  match tb src, tb dst with
  | some S, some D => match S.kd, D.kd, x with
    | .int _, .int k, .int _ n => some (.int k (k.wrap n))
    | .int _, .str, .int _ n => if 0 ≤ n ∧ n < 128 then some (.str [UInt8.ofNat n.toNat]) else none
    | .str, .str, .str l => some (.str l)
    | .sl e, .str, .sl xs _ => match tb e with
      | some ⟨.int .u8, 1, _, _⟩ => (pbytes xs).map .str
      | _ => none
    | .str, .sl e, .str l => match tb e with
      | some ⟨.int .u8, 1, _, _⟩ => if l.length ≤ 140737488355328 then some (.sl (l.map fun b => [.int .u8 b.toNat]) .non) else none
      | _ => none
    | _, _, _ => none
  | _, _ => none

/-- A bound of a slice expression. -/
def pbound : Option PV → Nat → Option Nat
  | none, d => some d
  | some (.int _ n), _ => if 0 ≤ n then some n.toNat else none
  | _, _ => none

def pslice (tb : Tab) (t : TypeId) (x : PV) (lo hi mx : Option PV) : Option PV :=
  match tb t with
  | none => none
  | some K => match K.kd, x with
    | .str, .str l =>
      match mx, pbound lo 0, pbound hi l.length with
      | none, some a, some b => if a ≤ b ∧ b ≤ l.length then some (.str ((l.take b).drop a)) else none
      | _, _, _ => none
    | .sl e, .sl xs tag => match tb e with
      | some E =>
        if xs.all (fun y => y.length == E.size) then
          match mx, hi with
          | none, hi => match pbound lo 0, pbound hi xs.length with
            | some a, some b => if a ≤ b ∧ b ≤ xs.length then some (.sl ((xs.take b).drop a) (match lo, hi with | none, none => tag | _, _ => .non)) else none
            | _, _ => none
          | some m, some h => match pbound lo 0, pbound (some h) 0, pbound (some m) 0 with
            | some a, some b, some c => if a ≤ b ∧ b = c ∧ b ≤ xs.length then some (.sl ((xs.take b).drop a) .full) else none
            | _, _, _ => none
          | _, _ => none
        else none
      | none => none
    | .sl e, .osl id off len k => match tb e, mx with
      | some E, none => match pbound lo 0, pbound hi len with
        | some a, some b => if a ≤ b ∧ b ≤ len ∧ k = E.size then some (.osl id (off + a * k) (b - a) k) else none
        | _, _ => none
      | _, _ => none
    | _, _ => none

def pindexAt (tb : Tab) (t : TypeId) (x i : PV) : Option PV :=
  match tb t with
  | none => none
  | some K => match K.kd, x, i with
    | .sl e, .sl xs _, .int _ n => match tb e with
      | some E => if 0 ≤ n then match xs[n.toNat]? with
          | some cs => if cs.length = E.size then some (.ref cs) else none
          | none => none
        else none
      | none => none
    | .sl e, .osl id off len k, .int _ n => match tb e with
      | some E => if 0 ≤ n ∧ n.toNat < len ∧ k = E.size then some (.ptr id (off + n.toNat * k)) else none
      | none => none
    | .arr m e, .ptr id off, .int _ n => match tb e with
      | some E => if 0 ≤ n ∧ n.toNat < m then some (.ptr id (off + n.toNat * E.size)) else none
      | none => none
    | _, _, _ => none

def pindex (tb : Tab) (t : TypeId) (x i : PV) : Option PV :=
  match tb t with
  | none => none
  | some K => match K.kd, x, i with
    | .str, .str l, .int _ n => if 0 ≤ n then (l[n.toNat]?).map fun b => .int .u8 b.toNat else none
    | _, _, _ => none

def pfieldAt (tb : Tab) (t : TypeId) (x : PV) (f : Nat) : Option PV :=
  match tb t with
  | none => none
  | some K => match K.kd with
    | .agg fs _ _ => match fs[f]? with
      | some (off, ft, _) => match tb ft with
        | some F => if F.size = 0 then none else match x with
          | .ptr id o => some (.ptr id (o + off))
          | .ref cs => some (.ref (cs.drop off))
          | _ => none
        | none => none
      | none => none
    | _ => none

def pfield (tb : Tab) (t : TypeId) (x : PV) (f : Nat) : Option PV :=
  match tb t with
  | none => none
  | some K => match K.kd, x with
    | .agg fs _ _, .agg cs => match fs[f]? with
      | some (off, ft, _) => match tb ft with
        | some F => pload F cs off
        | none => none
      | none => none
    | _, _ => none

/-- Parts laid over cells. -/
def pfill (place : Nat → Option (Nat × Nat)) (cells : List PV) : List (Nat × PV) → Option (List PV)
  | [] => some cells
  | (i, x) :: rest => match place i, pcells x with
    | some (off, size), some vs => if vs.length = size ∧ off + size ≤ cells.length then pfill place (cells.take off ++ vs ++ cells.drop (off + size)) rest else none
    | _, _ => none

/-- Where a struct's fields lie. -/
def fplace (tb : Tab) (fs : List (Nat × TypeId × Bool)) (i : Nat) : Option (Nat × Nat) :=
  match fs[i]? with
  | some (off, ft, _) => (tb ft).map fun F => (off, F.size)
  | none => none

def pbuild (tb : Tab) (t : TypeId) (parts : List (Nat × PV)) : Option PV :=
  match tb t with
  | none => none
  | some K => match K.kd with
    | .agg fs _ _ =>
      if fs.all (fun f => (tb f.2.1).isSome) then
        (pfill (fplace tb fs) K.zero parts).map .agg
      else none
    | _ => none

/-- A row cut into its elements. -/
def chunks (k : Nat) : Nat → List PV → List (List PV)
  | 0, _ => []
  | n + 1, cs => cs.take k :: chunks k n (cs.drop k)

def reps : Nat → List PV → List PV
  | 0, _ => []
  | n + 1, z => z ++ reps n z

def pbuildSlice (tb : Tab) (t : TypeId) (len : Nat) (parts : List (Nat × PV)) : Option PV :=
  match tb t with
  | none => none
  | some K => match K.kd with
    | .sl e => match tb e with
      | some E =>
        if len * E.size ≤ 16777216 ∧ E.zero.length = E.size ∧ 0 < E.size then
          (pfill (fun i => some (i * E.size, E.size)) (reps len E.zero) parts).map fun cs => .sl (chunks E.size len cs) .full
        else none
      | none => none
    | _ => none

def pmakeSlice (tb : Tab) (t : TypeId) (x y : PV) : Option PV :=
  match tb t, x, y with
  | some K, .int _ n, .int _ m => match K.kd with
    | .sl e => match tb e with
      | some E =>
        if 0 ≤ n ∧ n = m ∧ n.toNat * E.size ≤ 16777216 ∧ E.bytes * n.toNat ≤ 281474976710656 ∧ E.zero.length = E.size ∧ 0 < E.size then
          some (.sl (chunks E.size n.toNat (reps n.toNat E.zero)) .full)
        else none
      | none => none
    | _ => none
  | _, _, _ => none

/-- The cells of what is appended. -/
def pnews : PV → Option (List (List PV))
  | .sl ys _ => some ys
  | .str l => some (l.map fun b => [.int .u8 b.toNat])
  | _ => none

/-- What is known of a function: what it computes; or, where it writes through pointers, what it makes of the store as well. -/
inductive Con where
  | pure (F : List PV → Option PV)
  | store (D : List PV → Store → Option (PV × Store))
  | flag

abbrev Gam := FuncId → Option Con

/-- The sign that rows which are made are objects. -/
def objKey : FuncId := 1000000007
/-- The types of objects that are rows with unknown cells behind them stand above this. -/
def tyMark : Nat := 1000000
def objMode (Γ : Gam) : Bool := match Γ objKey with
  | some .flag => true
  | _ => false

def pappend (tb : Tab) (m : Bool) (t : TypeId) (s x : PV) (σ : Store) : Option (PV × Store) :=
  match tb t with
  | none => none
  | some K => match K.kd, s, pnews x with
    | .sl e, .sl xs tag, some ys => match tb e with
      | some E =>
        if (xs.length + ys.length) * E.bytes ≤ 140737488355328 ∧ (xs.length + ys.length) ≤ 140737488355328 ∧ 0 < E.size ∧ 0 < E.bytes ∧ E.zero.length = E.size ∧ ys.all (fun y => y.length == E.size && y.all one) && xs.all (fun y => y.length == E.size) then
          match ys with
          | [] => some (.sl xs tag, σ)
          | _ => match tag with
            | .non => none
            | .nil => none
            | .own => none
            | .full => if m then some (.osl σ.objs.length 0 (xs.length + ys.length) E.size, { σ with objs := σ.objs ++ [(xs ++ ys).flatten], tys := σ.tys ++ [e + tyMark] }) else some (.sl (xs ++ ys) (.tok σ.toks.length), { σ with toks := σ.toks ++ [(xs.length + ys.length, E.size, e)] })
            | .tok i => match σ.toks[i]? with
              | some (v, k, e') => if v = xs.length ∧ k = E.size ∧ e' = e then some (.sl (xs ++ ys) (.tok i), { σ with toks := σ.toks.set i (xs.length + ys.length, E.size, e) }) else none
              | none => none
        else none
      | none => none
    | _, _, _ => none

/-! ### what passes a call -/
mutual
/-- What is left of a value where the call's own objects and rows count no more. -/
def lock : PV → PV
  | .ptr _ _ => .top
  | .osl _ _ _ _ => .top
  | .ref cs => .ref (lockL cs)
  | .sl xs _ => .sl (lockLL xs) .non
  | .fn f caps => .fn f (lockL caps)
  | .iface t v => .iface t (lock v)
  | .agg cs => .agg (lockL cs)
  | .tup vs => .tup (lockL vs)
  | x => x
def lockL : List PV → List PV
  | [] => []
  | x :: xs => lock x :: lockL xs
def lockLL : List (List PV) → List (List PV)
  | [] => []
  | x :: xs => lockL x :: lockLL xs
end

mutual
/-- The same, and nothing that stays only while the call lasts. -/
def shut : PV → PV
  | .ptr _ _ => .top
  | .osl _ _ _ _ => .top
  | .ref _ => .top
  | .sl xs _ => .sl (shutLL xs) .non
  | .fn f caps => .fn f (shutL caps)
  | .iface t v => .iface t (shut v)
  | .agg cs => .agg (shutL cs)
  | .tup vs => .tup (shutL vs)
  | x => x
def shutL : List PV → List PV
  | [] => []
  | x :: xs => shut x :: shutL xs
def shutLL : List (List PV) → List (List PV)
  | [] => []
  | x :: xs => shutL x :: shutLL xs
end

/-- An argument as the callee sees it: what an own object holds stays as it is while the call lasts. -/
def view1 (objs : List (List PV)) : PV → PV
  | .ptr id off => match objs[id]? with
    | some cs => .ref (lockL (cs.drop off))
    | none => .top
  | x => lock x

def view (objs : List (List PV)) : PV → PV
  | .fn f caps => .fn f (caps.map (view1 objs))
  | x => view1 objs x

def plen : PV → Option PV
  | .str l => some (.int .i64 l.length)
  | .sl xs _ => some (.int .i64 xs.length)
  | _ => none

/-- n times the cells of a zero value. -/
def pzeros (zs : List PV) (n : Nat) : List PV := (List.range (n * zs.length)).map fun i => zs.getD (i % zs.length) .top

def pclear (tb : Tab) (t : TypeId) (x : PV) (σ : Store) : Option (PV × Store) :=
  match tb t, x with
  | some K, .osl id off len k => match K.kd with
    | .sl e => match tb e with
      | some E => if len = 0 then some (.tup [], σ) else match σ.objs[id]? with
        | some cs => if E.zero.length = k ∧ 0 < k ∧ E.zero.all one ∧ off + len * k ≤ cs.length then some (.tup [], { σ with objs := σ.objs.set id (cs.take off ++ pzeros E.zero len ++ cs.drop (off + len * k)) }) else none
        | none => none
      | none => none
    | _ => none
  | _, _ => none

def imin (a b : Int) : Int := if b < a then b else a

def pcallOp (tb : Tab) (Γ : Gam) (fr : List PV) (σ : Store) (c : Call) : Option (PV × Store) :=
  match c.callee with
  | .builtin .len => match c.argTypes.toList, c.args.toList with
    | [t], [x] => match tb t with
      | some K => match K.kd, ev fr x with
        | .str, .str l => some (.int .i64 l.length, σ)
        | .sl _, .sl xs _ => some (.int .i64 xs.length, σ)
        | .sl _, .osl _ _ len _ => some (.int .i64 len, σ)
        | _, _ => none
      | none => none
    | _, _ => none
  | .builtin .append => match c.argTypes.toList, c.args.toList with
    | [t, t'], [s, x] => if t = t' then match ev fr x with
      | .sl ys tg => pappend tb (objMode Γ) t (ev fr s) (.sl ys tg) σ
      | _ => none
      else match tb t' with
      | some K => match K.kd, ev fr x with
        | .str, .str l => pappend tb (objMode Γ) t (ev fr s) (.str l) σ
        | _, _ => none
      | none => none
    | _, _ => none
  | .builtin .clear => match c.argTypes.toList, c.args.toList with
    | [t], [x] => pclear tb t (ev fr x) σ
    | _, _ => none
  | .builtin .min => match c.args.toList with
    | [x, y] => match ev fr x, ev fr y with
      | .int k a, .int k' b => if k = k' then some (.int k (imin a b), σ) else none
      | _, _ => none
    | _ => none
  | .builtin _ => none
  | .invoke _ _ => none
  | .value f => match ev fr f with
    | .fn g caps => match Γ g with
      | some (.pure F) => (F ((c.args.toList.map (ev fr) ++ caps).map (view σ.objs))).map fun x => (x, σ)
      | some (.store D) => match f with
        | .func _ => D (c.args.toList.map (ev fr)) σ
        | _ => none
      | some .flag => none
      | none => none
    | _ => none

def pop (tb : Tab) (Γ : Gam) (fr : List PV) (σ : Store) (o : Oper) : Option (PV × Store) :=
  match o.op with
  | .move x | .assign x => some (ev fr x, σ)
  | .pick c a b => match ev fr c with
    | .bool t => some (bif t then ev fr a else ev fr b, σ)
    | _ => none
  | .alloc t => match tb t with
    | some K => some (.ptr σ.objs.length 0, { σ with objs := σ.objs ++ [K.zero], tys := σ.tys ++ [t] })
    | none => none
  | .box t x => match pcells (ev fr x) with
    | some cs => some (.ptr σ.objs.length 0, { σ with objs := σ.objs ++ [cs], tys := σ.tys ++ [t] })
    | none => none
  | .build t parts => (pbuild tb t (parts.toList.map fun p => (p.1, ev fr p.2))).map fun x => (x, σ)
  | .buildSlice t len parts => (pbuildSlice tb t len (parts.toList.map fun p => (p.1, ev fr p.2))).map fun x => (x, σ)
  | .makeSlice t l c => (pmakeSlice tb t (ev fr l) (ev fr c)).map fun x => (x, σ)
  | .load t a => match tb t with
    | some K => match ev fr a with
      | .ptr id off => match σ.objs[id]? with
        | some cs => (pload K cs off).map fun x => (x, σ)
        | none => none
      | .ref cs => (pload K cs 0).map fun x => (x, σ)
      | _ => none
    | none => none
  | .store t a x => match tb t with
    | some K => match ev fr a, pcells (ev fr x) with
      | .ptr id off, some vs => match σ.objs[id]? with
        | some cs => if vs.length = K.size ∧ off + K.size ≤ cs.length ∧ vs.all one then some (.top, { σ with objs := σ.objs.set id (cs.take off ++ vs ++ cs.drop (off + K.size)) }) else none
        | none => none
      | _, _ => none
    | none => none
  | .nilCheck x => match ev fr x with
    | .ptr id off => some (.ptr id off, σ)
    | .ref cs => some (.ref cs, σ)
    | .fn f caps => some (.fn f caps, σ)
    | _ => none
  | .binOp op t x y _ => (pbin tb op t x y (ev fr x) (ev fr y)).map fun v => (v, σ)
  | .unOp op _ x => (pun op (ev fr x)).map fun v => (v, σ)
  | .convert s d x => (pconv tb s d (ev fr x)).map fun v => (v, σ)
  | .makeInterface t x => match tb t with
    | some K => match K.kd with
      | .iface => none
      | .other => none
      | _ => some (.iface t (ev fr x), σ)
    | none => none
  | .makeFunc (.func f) first caps => match first.toList with
    | [] => some (.fn f (caps.toList.map (ev fr)), σ)
    | _ => none
  | .slice t x lo hi mx => (pslice tb t (ev fr x) (lo.map (ev fr)) (hi.map (ev fr)) (mx.map (ev fr))).map fun v => (v, σ)
  | .fieldAddr t x f => (pfieldAt tb t (ev fr x) f).map fun v => (v, σ)
  | .field t x f => (pfield tb t (ev fr x) f).map fun v => (v, σ)
  | .indexAddr t x i => (pindexAt tb t (ev fr x) (ev fr i)).map fun v => (v, σ)
  | .index t x i => (pindex tb t (ev fr x) (ev fr i)).map fun v => (v, σ)
  | .extract x i => match ev fr x with
    | .tup vs => (vs[i]?).map fun v => (v, σ)
    | _ => none
  | .call c => pcallOp tb Γ fr σ c
  | _ => none

/-! ### regions -/
def pwanted (ops : List Oper) (fr : List PV) (o : Oper) : Option Bool :=
  match o.guard with
  | none => some true
  | some (j, b) => match ((ops[j]?).bind (·.dst)).bind (fr[·]?) with
    | some (.bool c) => some (c == b)
    | some (.tup _) => some false
    | _ => none

def pops (tb : Tab) (Γ : Gam) (ops : List Oper) : List Oper → List PV → Store → Option (List PV × Store)
  | [], fr, σ => some (fr, σ)
  | o :: rest, fr, σ => match pwanted ops fr o with
    | none => none
    | some false => pops tb Γ ops rest (pput fr o.dst (.tup [])) σ
    | some true => match pop tb Γ fr σ o with
      | none => none
      | some (x, σ') => pops tb Γ ops rest (pput fr o.dst x) σ'

/-! ### code -/
inductive PExit where
  | normal
  | exit (id : Nat)
  | ret

/-- The slots that a code writes otherwise than by an assignment: its temporaries. -/
def temps : Code → List Nat
  | .region _ ops _ => ops.toList.filterMap fun o => match o.op with | .assign _ => none | _ => o.dst
  | .seq a b => temps a ++ temps b
  | .cond _ a b => temps a ++ temps b
  | .block _ c => temps c
  | .loop c => temps c
  | .scope c => temps c
  | _ => []

def clean (ds : List Nat) (fr : List PV) : List PV := ds.foldl (fun fr d => fr.set d .top) fr

/-- What a loop comes to: told by the one who calls, by the loop's first region. -/
abbrev Lps := Nat → List PV → Store → Option (PExit × List PV × Store)

/-- The number of a code's first region. -/
def rid : Code → Nat
  | .region id _ _ => id
  | .seq a b => match a with
    | .skip => rid b
    | .label _ => rid b
    | _ => rid a
  | .cond _ a _ => rid a
  | .block _ c => rid c
  | .loop c => rid c
  | .scope c => rid c
  | _ => 0

def pexec (tb : Tab) (Γ : Gam) (L : Lps) : Code → List PV → Store → Option (PExit × List PV × Store)
  | .skip, fr, σ => some (.normal, fr, σ)
  | .label _, fr, σ => some (.normal, fr, σ)
  | .region _ ops _, fr, σ => match pops tb Γ ops.toList ops.toList fr σ with
    | some (fr', σ') => some (.normal, fr', σ')
    | none => none
  | .seq a b, fr, σ => match pexec tb Γ L a fr σ with
    | some (.normal, fr', σ') => pexec tb Γ L b fr' σ'
    | r => r
  | .cond c a b, fr, σ => match ev fr c with
    | .bool t => bif t then pexec tb Γ L a fr σ else pexec tb Γ L b fr σ
    | _ => none
  | .block id c, fr, σ => match pexec tb Γ L c fr σ with
    | some (.exit j, fr', σ') => if j = id then some (.normal, fr', σ') else some (.exit j, fr', σ')
    | r => r
  | .loop c, fr, σ => L (rid c) fr σ
  | .exit id, fr, σ => some (.exit id, fr, σ)
  | .ret, fr, σ => some (.ret, fr, σ)
  | _, _, _ => none

/-! ### a function -/
def presult (tb : Tab) (fr : List PV) (σ : Store) : ResultVar → Option PV
  | .tmp t => some (fr.getD t .top)
  | .cell a t => match tb t, fr.getD a .top with
    | some K, .ptr id off => match σ.objs[id]? with
      | some cs => pload K cs off
      | none => none
    | _, _ => none

def presults (tb : Tab) (fr : List PV) (σ : Store) : List ResultVar → Option (List PV)
  | [] => some []
  | r :: rest => match presult tb fr σ r, presults tb fr σ rest with
    | some x, some xs => some (x :: xs)
    | _, _ => none

def pout : List PV → PV
  | [x] => shut x
  | xs => .tup (shutL xs)

/-- What goes out to a caller whose store it is. -/
def poutS : List PV → PV
  | [x] => x
  | xs => .tup xs

/-- A row of the call's own, as it stays behind it. -/
def oview (objs : List (List PV)) : PV → PV
  | .osl id off len k => match objs[id]? with
    | some cs => if off + len * k ≤ cs.length then .sl (chunks k len (cs.drop off)) .non else .top
    | none => .top
  | x => x

def pcall (tb : Tab) (Γ : Gam) (L : Lps) (fn : Func) (args : List PV) : Option PV :=
  match fn.body with
  | none => none
  | some c => match pexec tb Γ L c (args ++ List.replicate (fn.ntmps - args.length) .top) ⟨[], [], []⟩ with
    | some (.normal, fr, σ) => (presults tb fr σ fn.results.toList).map fun xs => pout (xs.map (oview σ.objs))
    | some (.ret, fr, σ) => (presults tb fr σ fn.results.toList).map fun xs => pout (xs.map (oview σ.objs))
    | _ => none

/-- A function that writes through pointers: begun at the caller's store. -/
def pcallS (tb : Tab) (Γ : Gam) (L : Lps) (fn : Func) (args : List PV) (σ : Store) : Option (PV × Store) :=
  match fn.body with
  | none => none
  | some c => match pexec tb Γ L c (args ++ List.replicate (fn.ntmps - args.length) .top) σ with
    | some (.normal, fr, σ') => (presults tb fr σ' fn.results.toList).map fun xs => (poutS xs, σ')
    | some (.ret, fr, σ') => (presults tb fr σ' fn.results.toList).map fun xs => (poutS xs, σ')
    | _ => none

end Go.Pv
