/- Part 1 of the proof: pure values for the machine's values, what functions compute over them, and laws of what is computed. Conditions: none beyond each theorem's own premises. -/
import Derived.Below
import Derived.WalkKit
import Derived.Laws.Strings
import Derived.Laws.Rows
import Derived.Laws.Cells
import Derived.Laws.CopyRow
import Derived.OpenShut
import Derived.Laws.AppendOwn
import Derived.Orders
import Derived.OrdersIn
import Derived.TacticsIn
import Derived.Laws.Slices
import Derived.Laws.Build
import Derived.Laws.StructEq
import Derived.Laws.BytesArg
import Derived.Lib.ConvBytes
import Derived.Laws.MakeOwn
import Derived.Lib.AppendStr
noncomputable section
namespace Go.Pv
open Go.RowKit
inductive Tag where
 |non|full|nil|own
 |tok (t:Nat)
inductive PV where
 |top
 |bool (b:Bool)
 |int (k:IntKind) (n:Int)
 |str (l:List UInt8)
 |nilp
 |ptr (id off:Nat)
 |ref (cs:List PV)
 |sl (xs:List (List PV)) (t:Tag)
 |osl (id off len k:Nat)
 |fn (f:FuncId) (caps:List PV)
 |mth (f:FuncId) (caps:List PV)
 |yld (t:Nat)
 |nilf
 |iface (t:TypeId) (v:PV)
 |nili
 |agg (cs:List PV)
 |tup (vs:List PV)
structure Tok where
 blk:Nat
 ver:Nat
 cap:Nat
 k:Nat
 e:TypeId
def Tok.vir (T:Tok):Prop:=T.ver=0∧T.k≠0
structure Gh where
 B:Nat
 base:Nat→Nat→Prop
 aux:Nat→Nat→Prop
 ob:List Nat
 tk:List Tok
 K:Nat×List Deferred
structure Gl where
 v:Nat→Option Obj
 lp:Nat→Nat→Obj
 fr:Nat→List PV
instance:CoeFun Gl (fun _=>Nat→Option Obj):=⟨Gl.v⟩
def Gh.prot (H:Gh) (w:World) (b off:Nat):Prop :=
 b < w.heap.size∧(b < H.B→H.base b off)∧b∉H.ob∧∀ T∈H.tk,¬ T.vir→T.blk=b→off < T.ver * T.k
def Gh.prot2 (H:Gh) (w:World) (b off:Nat):Prop:=H.prot w b off∨(b < H.B∧b∉H.ob∧H.aux b off)
def CellsAt (H:Gh) (w:World) (a:Addr) (vs:List Value):Prop :=
 ∀ j v,vs[j]?=some v→H.prot w (a.add j).block (a.add j).off∧w.cell? (a.add j)=some v
def CellsAt2 (H:Gh) (w:World) (a:Addr) (vs:List Value):Prop :=
 ∀ j v,vs[j]?=some v→H.prot2 w (a.add j).block (a.add j).off∧w.cell? (a.add j)=some v
def RowAt (H:Gh) (w:World) (p:Option Addr) (k:Nat) (vss:List (List Value)):Prop :=
 ∀ i vs,vss[i]?=some vs→vs.length=k∧∃ a,p=some a∧CellsAt H w (a.add (i * k)) vs
def TagOk (H:Gh) (p:Option Addr) (len cap k:Nat):Tag→Prop
 |.non=>True
 |.full=>len=cap
 |.nil=>p=none
 |.own=>p≠none
 |.tok t=>∃ T,H.tk[t]?=some T∧T.k≠0∧len≤T.ver∧(len=T.ver→(T.ver=0→cap=0)∧(T.ver≠0→p=some ⟨T.blk,0,none⟩∧cap=T.cap∧k=T.k))
mutual
inductive Rel (H:Gh) (w:World):PV→Value→Prop
 |top (v:Value):Rel H w .top v
 |bool (b:Bool):Rel H w (.bool b) (.bool b)
 |int (k:IntKind) (n:Int) (h:(Lit.int k n).wf=true):Rel H w (.int k n) (.int k n)
 |str (l:List UInt8) (h:l.length≤maxLen):Rel H w (.str l) (.string ⟨l.toArray⟩)
 |nilp:Rel H w .nilp (.pointer none)
 |ptr (id off b:Nat) (h:H.ob[id]?=some b):Rel H w (.ptr id off) (.pointer (some ⟨b,off,none⟩))
 |ref (a:Addr) (cs:List PV) (vs:List Value) (h:RelL H w cs vs) (hc:CellsAt2 H w a vs):Rel H w (.ref cs) (.pointer (some a))
 |sl (p:Option Addr) (len cap k:Nat) (xs:List (List PV)) (vss:List (List Value)) (t:Tag) (hl:xs.length=len) (hcap:len≤cap) (hm:cap≤maxLen)
  (h:RelLL H w xs vss) (hr:RowAt H w p k vss) (ht:TagOk H p len cap k t):Rel H w (.sl xs t) (.slice p len cap)
 |osl (id off off' len cap k b:Nat) (h:H.ob[id]?=some b) (ho:len≠0→off'=off) (hcap:len≤cap) (hm:cap≤maxLen):Rel H w (.osl id off len k) (.slice (some ⟨b,off',none⟩) len cap)
 |fn (f:FuncId) (caps:List PV) (vs:List Value) (h:RelL H w caps vs):Rel H w (.fn f caps) (.func (.func f) #[] vs.toArray)
 |mth (f:FuncId) (caps:List PV) (vs:List Value) (h:RelL H w caps vs):Rel H w (.mth f caps) (.func (.func f) vs.toArray #[])
 |yld (t:Nat) (T:Tok) (h:H.tk[t]?=some T) (hk:T.k=0):Rel H w (.yld t) (.func (.yield T.blk) #[] #[])
 |nilf:Rel H w .nilf .nilFunc
 |iface (t:TypeId) (x:PV) (v:Value) (h:Rel H w x v):Rel H w (.iface t x) (.iface t v)
 |nili:Rel H w .nili .nilIface
 |agg (cs:List PV) (vs:List Value) (h:RelL H w cs vs):Rel H w (.agg cs) (.agg vs.toArray)
 |tup (cs:List PV) (vs:List Value) (h:RelL H w cs vs):Rel H w (.tup cs) (.tuple vs.toArray)
inductive RelL (H:Gh) (w:World):List PV→List Value→Prop
 |nil:RelL H w [] []
 |cons (x:PV) (v:Value) (xs:List PV) (vs:List Value) (h:Rel H w x v) (ht:RelL H w xs vs):RelL H w (x::xs) (v::vs)
inductive RelLL (H:Gh) (w:World):List (List PV)→List (List Value)→Prop
 |nil:RelLL H w [] []
 |cons (x:List PV) (v:List Value) (xs:List (List PV)) (vs:List (List Value)) (h:RelL H w x v) (ht:RelLL H w xs vs):RelLL H w (x::xs) (v::vs)
end
structure TokUp (T T':Tok):Prop where
 ver:T.k≠0→T.ver≤T'.ver∧(T.ver=T'.ver→T'=T)∧T'.k≠0
 lp:T.k=0→T'.k=0∧T'.blk=T.blk∧T'.e=T.e∧T'.cap=T.cap
theorem TokUp.refl (T:Tok):TokUp T T:=⟨fun h=>⟨Nat.le_refl _,fun _=>rfl,h⟩,fun h=>⟨h,rfl,rfl,rfl⟩⟩
theorem TokUp.trans {T T1 T2:Tok} (h:TokUp T T1) (k:TokUp T1 T2):TokUp T T2 where
 ver:=fun e=>by
  obtain⟨l1,q1,n1⟩:=h.ver e;obtain⟨l2,q2,n2⟩:=k.ver n1;refine⟨Nat.le_trans l1 l2,fun hv=>?_,n2⟩
  have hv1:T.ver=T1.ver:=by omega
  have:=q1 hv1;subst this;exact q2 (by omega)
 lp:=fun e=>by
  obtain⟨a1,b1,c1,d1⟩:=h.lp e;obtain⟨a2,b2,c2,d2⟩:=k.lp a1;exact⟨a2,b2.trans b1,c2.trans c1,d2.trans d1⟩
structure Mono (H:Gh) (w:World) (H':Gh) (w':World):Prop where
 ob:∀ (id b:Nat),H.ob[id]?=some b→H'.ob[id]?=some b
 tok:∀ (t:Nat) (T:Tok),H.tk[t]?=some T→∃ T',H'.tk[t]?=some T'∧TokUp T T'
 prot:∀ b off,H.prot w b off→H'.prot w' b off∧∀ s,w'.cell? ⟨b,off,s⟩=w.cell? ⟨b,off,s⟩
 prot2:∀ b off,H.prot2 w b off→H'.prot2 w' b off∧∀ s,w'.cell? ⟨b,off,s⟩=w.cell? ⟨b,off,s⟩
def Dr (gl:Gl) (w w':World):Prop:=(∀ b,gl b=none)→w.drawn≤w'.drawn
theorem Dr.of_eq {gl:Gl} {w w':World} (h:w'.drawn=w.drawn):Dr gl w w':=fun _=>by rw [h];exact Nat.le_refl _
theorem Dr.trans {gl:Gl} {w w1 w2:World} (h:Dr gl w w1) (k:Dr gl w1 w2):Dr gl w w2:=fun hg=>Nat.le_trans (h hg) (k hg)
structure Ev (gl:Gl) (H:Gh) (w:World) (H':Gh) (w':World):Prop where
 B:H'.B=H.B
 base:H'.base=H.base
 aux:H'.aux=H.aux
 K:H'.K=H.K
 os:w'.os=w.os
 tape:w'.tape=w.tape
 output:w'.output=w.output
 size:w.heap.size≤w'.heap.size
 ob:∀ (id b:Nat),H.ob[id]?=some b→H'.ob[id]?=some b
 tok:∀ (t:Nat) (T:Tok),H.tk[t]?=some T→∃ T',H'.tk[t]?=some T'∧TokUp T T'
 prot:∀ b off,H.prot w b off→H'.prot w' b off∧∀ s,w'.cell? ⟨b,off,s⟩=w.cell? ⟨b,off,s⟩
 block:∀ b,b < H.B→b∉H.ob→w'.heap[b]?=w.heap[b]?
 dr:Dr gl w w'
 fix:∀ (b:Nat) (ds:Option (List Deferred)),w.heap[b]?=some (.deferred ds)→w'.heap[b]?=some (.deferred ds)
 old:∀ (t:Nat) (T':Tok),H'.tk[t]?=some T'→T'.k=0→∃ T,H.tk[t]?=some T∧T.k=0
 obn:∀ b,b∈H'.ob→b∈H.ob∨H.B≤b
theorem Ev.mono {gl:Gl} {H H':Gh} {w w':World} (h:Ev gl H w H' w'):Mono H w H' w' where
 ob:=h.ob
 tok:=h.tok
 prot:=h.prot
 prot2:=fun b off hp=>by
  rcases hp with hp|⟨hb,hno,ha⟩
  ·exact⟨.inl (h.prot b off hp).1,(h.prot b off hp).2⟩
  ·exact⟨.inr ⟨by rw [h.B];exact hb,fun hm=>(h.obn b hm).elim hno (fun e=>Nat.lt_irrefl _ (Nat.lt_of_lt_of_le hb e)),by rw [h.aux];exact ha⟩,fun s=>World.cell?_of_block (a:=⟨b,off,s⟩) (h.block b hb hno)⟩
theorem Ev.refl {gl:Gl} (H:Gh) (w:World):Ev gl H w H w :=
 ⟨rfl,rfl,rfl,rfl,rfl,rfl,rfl,Nat.le_refl _,fun _ _ h=>h,fun _ T h=>⟨T,h,.refl T⟩,fun _ _ h=>⟨h,fun _=>rfl⟩,fun _ _ _=>rfl,fun _=>Nat.le_refl _,fun _ _ h=>h,fun _ T h hk=>⟨T,h,hk⟩,fun _ h=>.inl h⟩
theorem qCX {H H1 H2:Gh} (h:∀ (t:Nat) (T:Tok),H.tk[t]?=some T→∃ T',H1.tk[t]?=some T'∧TokUp T T')
  (k:∀ (t:Nat) (T:Tok),H1.tk[t]?=some T→∃ T',H2.tk[t]?=some T'∧TokUp T T') :
  ∀ (t:Nat) (T:Tok),H.tk[t]?=some T→∃ T',H2.tk[t]?=some T'∧TokUp T T':=fun t T e=>by
 obtain⟨T1,e1,q1⟩:=h t T e;obtain⟨T2,e2,q2⟩:=k t T1 e1;exact⟨T2,e2,q1.trans q2⟩
theorem Ev.trans {gl:Gl} {H H1 H2:Gh} {w w1 w2:World} (h:Ev gl H w H1 w1) (k:Ev gl H1 w1 H2 w2):Ev gl H w H2 w2 where
 B:=k.B.trans h.B
 base:=k.base.trans h.base
 aux:=k.aux.trans h.aux
 K:=k.K.trans h.K
 os:=k.os.trans h.os
 tape:=k.tape.trans h.tape
 output:=k.output.trans h.output
 size:=Nat.le_trans h.size k.size
 ob:=fun id b e=>k.ob id b (h.ob id b e)
 tok:=qCX h.tok k.tok
 prot:=fun b off e=>by
  obtain⟨p1,c1⟩:=h.prot b off e;obtain⟨p2,c2⟩:=k.prot b off p1;exact⟨p2,fun s=>(c2 s).trans (c1 s)⟩
 block:=fun b hb hno=>(k.block b (by rw [h.B];exact hb) (fun hm=>(h.obn b hm).elim hno (fun e=>Nat.lt_irrefl _ (Nat.lt_of_lt_of_le hb e)))).trans (h.block b hb hno)
 dr:=h.dr.trans k.dr
 fix:=fun b ds e=>k.fix b ds (h.fix b ds e)
 old:=fun t T e hk=>by
  obtain⟨T1,e1,k1⟩:=k.old t T e hk;exact h.old t T1 e1 k1
 obn:=fun b hb=>(k.obn b hb).elim (h.obn b) (fun e=>.inr (by rw [← h.B];exact e))
theorem CellsAt.mono {H H':Gh} {w w':World} {a:Addr} {vs:List Value} (g:Mono H w H' w') (h:CellsAt H w a vs):CellsAt H' w' a vs:=fun j v e=>by
 obtain⟨p,c⟩:=h j v e;obtain⟨p',c'⟩:=g.prot _ _ p;exact⟨p',by rw [← c];exact c' _⟩
theorem CellsAt2.mono {H H':Gh} {w w':World} {a:Addr} {vs:List Value} (g:Mono H w H' w') (h:CellsAt2 H w a vs):CellsAt2 H' w' a vs:=fun j v e=>by
 obtain⟨p,c⟩:=h j v e;obtain⟨p',c'⟩:=g.prot2 _ _ p;exact⟨p',by rw [← c];exact c' _⟩
theorem CellsAt.weak {H:Gh} {w:World} {a:Addr} {vs:List Value} (h:CellsAt H w a vs):CellsAt2 H w a vs:=fun j v e=>⟨.inl (h j v e).1,(h j v e).2⟩
theorem RowAt.mono {H H':Gh} {w w':World} {p:Option Addr} {k:Nat} {vss:List (List Value)} (g:Mono H w H' w') (h:RowAt H w p k vss):RowAt H' w' p k vss:=fun i vs e=>by
 obtain⟨l,a,ea,hc⟩:=h i vs e;exact⟨l,a,ea,hc.mono g⟩
theorem TagOk.mono {H H':Gh} {w w':World} {p:Option Addr} {len cap k:Nat} {t:Tag} (g:Mono H w H' w') (h:TagOk H p len cap k t):TagOk H' p len cap k t:=by
 cases t with
 |non=>trivial
 |full=>exact h
 |nil=>exact h
 |own=>exact h
 |tok t =>
  obtain⟨T,e,nk,l,q⟩:=h;obtain⟨T',e',u⟩:=g.tok t T e;obtain⟨l',q',n'⟩:=u.ver nk;refine⟨T',e',n',Nat.le_trans l l',fun hv=>?_⟩
  have:T.ver=T'.ver:=by omega
  have:=q' this;subst this;exact q hv
mutual
theorem Rel.mono {H H':Gh} {w w':World} (g:Mono H w H' w'):∀ {x:PV} {v:Value},Rel H w x v→Rel H' w' x v
 |_,_,.top v=>.top v
 |_,_,.bool b=>.bool b
 |_,_,.int k n h=>.int k n h
 |_,_,.str l h=>.str l h
 |_,_,.nilp=>.nilp
 |_,_,.ptr id off b h=>.ptr id off b (g.ob id b h)
 |_,_,.ref a cs vs h hc=>.ref a cs vs (RelL.mono g h) (hc.mono g)
 |_,_,.sl p len cap k xs vss t hl hcap hm h hr ht=>.sl p len cap k xs vss t hl hcap hm (RelLL.mono g h) (hr.mono g) (ht.mono g)
 |_,_,.osl id off off' len cap k b h ho hcap hm=>.osl id off off' len cap k b (g.ob _ _ h) ho hcap hm
 |_,_,.fn f caps vs h=>.fn f caps vs (RelL.mono g h)
 |_,_,.mth f caps vs h=>.mth f caps vs (RelL.mono g h)
 |_,_,.yld t T h hk=>by
  obtain⟨T',e',u⟩:=g.tok t T h;obtain⟨a1,b1,_⟩:=u.lp hk;rw [← b1];exact .yld t T' e' a1
 |_,_,.nilf=>.nilf
 |_,_,.iface t x v h=>.iface t x v (Rel.mono g h)
 |_,_,.nili=>.nili
 |_,_,.agg cs vs h=>.agg cs vs (RelL.mono g h)
 |_,_,.tup cs vs h=>.tup cs vs (RelL.mono g h)
theorem RelL.mono {H H':Gh} {w w':World} (g:Mono H w H' w'):∀ {x:List PV} {v:List Value},RelL H w x v→RelL H' w' x v
 |_,_,.nil=>.nil
 |_,_,.cons x v xs vs h ht=>.cons x v xs vs (Rel.mono g h) (RelL.mono g ht)
theorem RelLL.mono {H H':Gh} {w w':World} (g:Mono H w H' w'):∀ {x:List (List PV)} {v:List (List Value)},RelLL H w x v→RelLL H' w' x v
 |_,_,.nil=>.nil
 |_,_,.cons x v xs vs h ht=>.cons x v xs vs (RelL.mono g h) (RelLL.mono g ht)
end
abbrev qR:=List (List PV)
abbrev qU:=List UInt8
end Go.Pv
namespace Go.Pv
open Go.RowKit
inductive KD where
 |int (k:IntKind)|bool|str
 |agg (fs:List (Nat×TypeId×Bool)) (held guard:Bool)
 |arr (n:Nat) (e:TypeId)
 |sl (e:TypeId)
 |ptr (e:TypeId)
 |iface|fn|other
structure TK where
 kd:KD
 size:Nat
 bytes:Nat
 zero:List PV
def KD.isAgg:KD→Bool
 |.agg ..=>true
 |.arr ..=>true
 |_=>false
def KD.known:KD→Bool
 |.other=>false
 |_=>true
abbrev Tab:=TypeId→Option TK
def qr6:Value→PV
 |.bool b=>.bool b
 |.int k n=>if (Lit.int k n).wf then .int k n else .top
 |.string s=>if s.data.toList.length≤maxLen then .str s.data.toList else .top
 |.pointer none=>.nilp
 |.slice none 0 0=>.sl [] .full
 |.func (.func f) first caps=>match first.toList,caps.toList with|[],[]=>.fn f []|_,_=>.top
 |.nilFunc=>.nilf
 |.nilIface=>.nili
 |_=>.top
def ofValue:Value→PV
 |.agg cs=>.agg (cs.toList.map qr6)
 |v=>qr6 v
def kdOf (P:Program) (t:TypeId):KD :=
 match P.underlying t with
 |some (.int k)=>.int k
 |some .bool=>.bool
 |some .string=>.str
 | some (.struct fs) => .agg (fs.toList.map fun f => (f.offset, f.type, f.name != "_")) (P.stoodInHeld t) (P.eqGuardType P.depth t)
 |some (.array n e)=>.arr n e
 |some (.slice e)=>.sl e
 |some (.pointer e)=>.ptr e
 |some (.interface _)=>.iface
 |some (.func ..)=>.fn
 |_=>.other
def tkOf (P:Program) (t:TypeId):Option TK :=
 (P.info? t).bind fun i=>i.zero.map fun z=>⟨kdOf P t,i.size,i.bytes,z.cells.toList.map qr6⟩
def ev (fr:List PV):Operand→PV
 |.tmp t=>fr.getD t .top
 |.const v=>ofValue v
 |.global _=>.top
 |.func f=>.fn f []
def one:PV→Bool
 |.top|.agg _|.tup _=>false
 |_=>true
def pcells:PV→Option (List PV)
 |.agg cs=>some cs
 |.top=>none
 |.tup _=>none
 |x=>some [x]
structure Store where
 objs:List (List PV)
 toks:List (Nat×Nat×TypeId)
 tys:List TypeId
def pload (K:TK) (cs:List PV) (off:Nat):Option PV :=
 if K.kd.known then (if K.kd.isAgg then (if off+K.size≤cs.length then some (.agg ((cs.drop off).take K.size)) else none) else cs[off]?) else none
def pput (fr:List PV) (dst:Option Tmp) (x:PV):List PV :=
 match dst with
 |some d=>fr.set d x
 |none=>fr
def pint (op:BinOp) (k:IntKind) (a b:Int):Option PV :=
 match op with
 |.add=>some (.int k (k.wrap (a+b)))
 |.sub=>some (.int k (k.wrap (a - b)))
 |.mul=>some (.int k (k.wrap (a * b)))
 |.quo=>if b=0 then none else some (.int k (k.wrap (a.tdiv b)))
 |.rem=>if b=0 then none else some (.int k (a.tmod b))
 |.and=>some (.int k (k.wrap (BitVec.ofInt k.bits a &&& BitVec.ofInt k.bits b).toNat))
 |.or=>some (.int k (k.wrap (BitVec.ofInt k.bits a ||| BitVec.ofInt k.bits b).toNat))
 |.xor=>some (.int k (k.wrap (BitVec.ofInt k.bits a ^^^ BitVec.ofInt k.bits b).toNat))
 |.eql=>some (.bool (a == b))
 |.neq=>some (.bool (a != b))
 |.lss=>some (.bool (decide (a < b)))
 |.leq=>some (.bool (decide (a≤b)))
 |.gtr=>some (.bool (decide (a > b)))
 |.geq=>some (.bool (decide (a≥b)))
 |_=>none
def pstr (op:BinOp) (a b:qU):Option PV :=
 match op with
 |.add=>if a.length+b.length≤maxLen then some (.str (a++b)) else none
 |.eql=>some (.bool (a == b))
 |.neq=>some (.bool (!(a == b)))
 |.lss=>some (.bool (Op.bytesLess a b))
 |.leq=>some (.bool (Op.bytesLess a b || a == b))
 |.gtr=>some (.bool (!(Op.bytesLess a b || a == b)))
 |.geq=>some (.bool (!Op.bytesLess a b))
 |_=>none
def qD4 (tb:Tab) (f:TypeId→PV→PV→Option Bool) (xs ys:List PV):List (Nat×TypeId×Bool)→Option Bool
 |[]=>some true
 |(off,t,named)::rest =>
  if named then
   match tb t with
   |none=>none
   |some K=>match pload K xs off,pload K ys off with
    |some x,some y=>match f t x y with
     |some true=>qD4 tb f xs ys rest
     |some false=>some false
     |none=>none
    |_,_=>none
  else qD4 tb f xs ys rest
def peq (tb:Tab):Nat→TypeId→PV→PV→Option Bool
 |0,_,_,_=>none
 |d+1,t,x,y=>match tb t with
  |none=>none
  |some K=>match K.kd,x,y with
   |.int _,.int k a,.int k' b=>if k=k' then some (a == b) else none
   |.bool,.bool a,.bool b=>some (a == b)
   |.str,.str a,.str b=>some (a == b)
   |.agg fs held _,.agg xs,.agg ys=>if held then none else qD4 tb (peq tb d) xs ys fs
   |_,_,_=>none
def isK:Operand→Bool
 |.const _=>true
 |_=>false
def qwT:Operand→Bool
 |.const (.slice none 0 0)=>true
 |_=>false
def pequal (tb:Tab) (t:TypeId) (xo yo:Operand) (x y:PV):Option Bool :=
 match tb t with
 |none=>none
 |some K=>match K.kd,x,y with
  |.iface,.nili,.nili=>if isK xo || isK yo then some true else none
  |.iface,.nili,.iface _ _=>some false
  |.iface,.iface _ _,.nili=>some false
  |.fn,.nilf,.nilf=>some true
  |.fn,.nilf,.fn _ _=>some false
  |.fn,.fn _ _,.nilf=>some false
  |.bool,.bool a,.bool b=>some (a == b)
  |.agg _ _ guard,.agg xs,.agg ys=>if guard then none else peq tb 50 t (.agg xs) (.agg ys)
  |.sl _,.sl xs tg,.sl _ _=>if qwT yo then (match xs with
   |[]=>match tg with
    |.nil=>some true
    |.own=>some false
    |_=>none
   |_::_=>some false) else none
  |_,_,_=>none
def pbin (tb:Tab) (op:BinOp) (t:TypeId) (xo yo:Operand) (x y:PV):Option PV :=
 match op,x,y with
 |.shl,.int k a,.int _ b=>if b < 0 then none else some (.int k (k.wrap (a * 2 ^ min b.toNat k.bits)))
 |.shr,.int k a,.int _ b=>if b < 0 then none else some (.int k (a.fdiv (2 ^ min b.toNat k.bits)))
 |op,.int k a,.int k' b=>if k=k' then pint op k a b else none
 |op,.str a,.str b=>pstr op a b
 |.eql,x,y=>(pequal tb t xo yo x y).map .bool
 |.neq,x,y=>(pequal tb t xo yo x y).map fun b=>.bool (!b)
 |_,_,_=>none
def pun (op:UnOp) (x:PV):Option PV :=
 match op,x with
 |.neg,.int k n=>some (.int k (k.wrap (0 - n)))
 |.not,.bool b=>some (.bool (!b))
 |_,_=>none
def pbytes:qR→Option (List UInt8)
 |[]=>some []
 |[.int .u8 n]::rest=>(pbytes rest).map fun l=>UInt8.ofNat n.toNat::l
 |_=>none
def pconv (tb:Tab) (src dst:TypeId) (x:PV):Option PV :=
 match tb src,tb dst with
 |some S,some D=>match S.kd,D.kd,x with
  |.int _,.int k,.int _ n=>some (.int k (k.wrap n))
  |.int _,.str,.int _ n=>if 0≤n∧n < 128 then some (.str [UInt8.ofNat n.toNat]) else none
  |.str,.str,.str l=>some (.str l)
  |.sl e,.str,.sl xs _=>match tb e with
   |some ⟨.int .u8,1,_,_⟩=>(pbytes xs).map .str
   |_=>none
  |.str,.sl e,.str l=>match tb e with
   |some ⟨.int .u8,1,_,_⟩=>if l.length≤140737488355328 then some (.sl (l.map fun b=>[.int .u8 b.toNat]) .non) else none
   |_=>none
  |_,_,_=>none
 |_,_=>none
def pbound:Option PV→Nat→Option Nat
 |none,d=>some d
 |some (.int _ n),_=>if 0≤n then some n.toNat else none
 |_,_=>none
def pslice (tb:Tab) (t:TypeId) (x:PV) (lo hi mx:Option PV):Option PV :=
 match tb t with
 |none=>none
 |some K=>match K.kd,x with
  |.str,.str l =>
   match mx,pbound lo 0,pbound hi l.length with
   |none,some a,some b=>if a≤b∧b≤l.length then some (.str ((l.take b).drop a)) else none
   |_,_,_=>none
  |.sl e,.sl xs tag=>match tb e with
   |some E =>
    if xs.all (fun y=>y.length == E.size) then
     match mx,hi with
     |none,hi=>match pbound lo 0,pbound hi xs.length with
      |some a,some b=>if a≤b∧b≤xs.length then some (.sl ((xs.take b).drop a) (match lo,hi with|none,none=>tag|_,_=>.non)) else none
      |_,_=>none
     |some m,some h=>match pbound lo 0,pbound (some h) 0,pbound (some m) 0 with
      |some a,some b,some c=>if a≤b∧b=c∧b≤xs.length then some (.sl ((xs.take b).drop a) .full) else none
      |_,_,_=>none
     |_,_=>none
    else none
   |none=>none
  |.sl e,.osl id off len k=>match tb e,mx with
   |some E,none=>match pbound lo 0,pbound hi len with
    |some a,some b=>if a≤b∧b≤len∧k=E.size then some (.osl id (off+a * k) (b - a) k) else none
    |_,_=>none
   |_,_=>none
  |_,_=>none
def qpE (tb:Tab) (t:TypeId) (x i:PV):Option PV :=
 match tb t with
 |none=>none
 |some K=>match K.kd,x,i with
  |.sl e,.sl xs _,.int _ n=>match tb e with
   |some E=>if 0≤n then match xs[n.toNat]? with
     |some cs=>if cs.length=E.size then some (.ref cs) else none
     |none=>none
    else none
   |none=>none
  |.sl e,.osl id off len k,.int _ n=>match tb e with
   |some E=>if 0≤n∧n.toNat < len∧k=E.size then some (.ptr id (off+n.toNat * k)) else none
   |none=>none
  |.arr m e,.ptr id off,.int _ n=>match tb e with
   |some E=>if 0≤n∧n.toNat < m then some (.ptr id (off+n.toNat * E.size)) else none
   |none=>none
  |_,_,_=>none
def pindex (tb:Tab) (t:TypeId) (x i:PV):Option PV :=
 match tb t with
 |none=>none
 |some K=>match K.kd,x,i with
  |.str,.str l,.int _ n=>if 0≤n then (l[n.toNat]?).map fun b=>.int .u8 b.toNat else none
  |.arr m e,.agg cs,.int _ n=>match tb e with
   |some E=>if 0≤n∧n.toNat < m then pload E cs (n.toNat * E.size) else none
   |none=>none
  |_,_,_=>none
def qzU (tb:Tab) (t:TypeId) (x:PV) (f:Nat):Option PV :=
 match tb t with
 |none=>none
 |some K=>match K.kd with
  |.agg fs _ _=>match fs[f]? with
   |some (off,ft,_)=>match tb ft with
    |some F=>if F.size=0 then none else match x with
     |.ptr id o=>some (.ptr id (o+off))
     |.ref cs=>some (.ref (cs.drop off))
     |_=>none
    |none=>none
   |none=>none
  |_=>none
def pfield (tb:Tab) (t:TypeId) (x:PV) (f:Nat):Option PV :=
 match tb t with
 |none=>none
 |some K=>match K.kd,x with
  |.agg fs _ _,.agg cs=>match fs[f]? with
   |some (off,ft,_)=>match tb ft with
    |some F=>pload F cs off
    |none=>none
   |none=>none
  |_,_=>none
def pfill (place:Nat→Option (Nat×Nat)) (cells:List PV):List (Nat×PV)→Option (List PV)
 |[]=>some cells
 |(i,x)::rest=>match place i,pcells x with
  |some (off,size),some vs=>if vs.length=size∧off+size≤cells.length then pfill place (cells.take off++vs++cells.drop (off+size)) rest else none
  |_,_=>none
def fplace (tb:Tab) (fs:List (Nat×TypeId×Bool)) (i:Nat):Option (Nat×Nat) :=
 match fs[i]? with
 |some (off,ft,_)=>(tb ft).map fun F=>(off,F.size)
 |none=>none
def pbuild (tb:Tab) (t:TypeId) (parts:List (Nat×PV)):Option PV :=
 match tb t with
 |none=>none
 |some K=>match K.kd with
  |.agg fs _ _ =>
   if fs.all (fun f=>(tb f.2.1).isSome) then
    (pfill (fplace tb fs) K.zero parts).map .agg
   else none
  |_=>none
def chunks (k:Nat):Nat→List PV→List (List PV)
 |0,_=>[]
 |n+1,cs=>cs.take k::chunks k n (cs.drop k)
def reps:Nat→List PV→List PV
 |0,_=>[]
 |n+1,z=>z++reps n z
def qju (tb:Tab) (t:TypeId) (len:Nat) (parts:List (Nat×PV)):Option PV :=
 match tb t with
 |none=>none
 |some K=>match K.kd with
  |.sl e=>match tb e with
   |some E =>
    if len * E.size≤16777216∧E.zero.length=E.size∧0 < E.size then
     (pfill (fun i=>some (i * E.size,E.size)) (reps len E.zero) parts).map fun cs=>.sl (chunks E.size len cs) .full
    else none
   |none=>none
  |_=>none
def qhr (tb:Tab) (t:TypeId) (x y:PV):Option PV :=
 match tb t,x,y with
 |some K,.int _ n,.int _ m=>match K.kd with
  |.sl e=>match tb e with
   |some E =>
    if 0≤n∧n=m∧n.toNat * E.size≤16777216∧E.bytes * n.toNat≤281474976710656∧E.zero.length=E.size∧0 < E.size then
     some (.sl (chunks E.size n.toNat (reps n.toNat E.zero)) .full)
    else none
   |none=>none
  |_=>none
 |_,_,_=>none
def pnews:PV→Option (List (List PV))
 |.sl ys _=>some ys
 |.str l=>some (l.map fun b=>[.int .u8 b.toNat])
 |_=>none
inductive PR where
 |val (x:PV)
 |pan (x:PV)
mutual
def toV:PV→Value
 |.bool b=>.bool b
 |.int k n=>.int k n
 |.iface t v=>.iface t (toV v)
 |.agg cs=>.agg (toVL cs).toArray
 |_=>undef
def toVL:List PV→List Value
 |[]=>[]
 |x::xs=>toV x::toVL xs
end
mutual
def closed:PV→Bool
 |.bool _=>true
 |.int _ _=>true
 |.iface _ v=>closed v
 |.agg cs=>qzX cs
 |_=>false
def qzX:List PV→Bool
 |[]=>true
 |x::xs=>closed x&&qzX xs
end
def qFI:PV→Bool
 |.iface _ v=>closed v
 |_=>false
inductive Con where
 |pure (F:List PV→Option PV)
 |store (D:List PV→Store→Option (PV×Store))
 |may (D:List PV→Store→Option (PR×Store))
 |flag
 |yld (e:Nat) (Y:Nat→List PV→Store→Option (PV×Store))
 |glob (cs:List PV)
 |hint (l:List (Nat×Nat×Nat×TypeId))
abbrev Gam:=FuncId→Option Con
def qK1:FuncId:=1000000007
def qeM:FuncId:=1000000009
def qdx:FuncId:=1000000015
def qwc (Γ:Gam):Bool:=match Γ qdx with
 |some .flag=>true
 |_=>false
def qxA (Γ:Gam):Operand→Bool
 |.func _=>true
 |_=>qwc Γ
def qgi:Option (PR×Store)→Option (PV×Store)
 |some (.val x,σ)=>some (x,σ)
 |_=>none
def qjT:Option (PR×Store)→Option (PV×Store)
 |some (.pan x,σ)=>some (x,σ)
 |_=>none
def qgz:Nat:=1000000
def qGp:FuncId:=1000000011
def gcells (Γ:Gam):Operand→Option (List PV)
 |.global g=>match Γ (qGp+g) with
  |some (.glob cs)=>some cs
  |_=>none
 |_=>none
def quU:FuncId:=1000000013
def qAU:List (Nat×Nat×Nat×TypeId)→Nat→List (Nat×Nat×TypeId)
 |[],_=>[]
 |(s,h)::l,d=>match Nat.beq s d with
  |true=>h::qAU l d
  |false=>qAU l d
def qrE (Γ:Gam) (o:Oper):List (Nat×Nat×TypeId):=match o.dst with
 |none=>[]
 |some d=>match Γ quU with
  |some (.hint l)=>qAU l d
  |_=>[]
def hinted (Γ:Gam) (o:Oper):List (Nat×Nat×TypeId):=match o.op with
 |.move x=>match qwT x with
  |true=>qrE Γ o
  |false=>[]
 |.assign x=>match qwT x with
  |true=>qrE Γ o
  |false=>[]
 |.build _ _=>qrE Γ o
 |.alloc _=>qrE Γ o
 |_=>[]
def qmE:List (Nat×Nat×TypeId)→List PV→List (Nat×Nat×TypeId)→List PV×List (Nat×Nat×TypeId)
 |[],cs,tk=>(cs,tk)
 |(j,k,e)::hs,cs,tk=>match k,cs[j]? with
  |n+1,some (.sl [] .full)=>qmE hs (cs.set j (.sl [] (.tok tk.length))) (tk++[(0,n+1,e)])
  |_,_=>qmE hs cs tk
def rtag (hs:List (Nat×Nat×TypeId)) (x:PV) (σ:Store):PV×Store:=match hs with
 |[]=>(x,σ)
 |h::hs=>match x with
  |.agg cs=>(.agg (qmE (h::hs) cs σ.toks).1,{ σ with toks:=(qmE (h::hs) cs σ.toks).2 })
  |.sl xs tg=>match qmE (h::hs) [.sl xs tg] σ.toks with
   |([y],tk)=>(y,{ σ with toks:=tk })
   |_=>(.sl xs tg,σ)
  |x=>(x,σ)
def robj (hs:List (Nat×Nat×TypeId)) (z:List PV) (t:TypeId) (σ:Store):PV×Store:=match hs with
 |[]=>(.ptr σ.objs.length 0,{ σ with objs:=σ.objs++[z],tys:=σ.tys++[t] })
 |h::hs=>(.ptr σ.objs.length 0,⟨σ.objs++[(qmE (h::hs) z σ.toks).1],(qmE (h::hs) z σ.toks).2,σ.tys++[t]⟩)
def qm1 (Γ:Gam):Bool:=match Γ qK1 with
 |some .flag=>true
 |_=>false
def qlF (tb:Tab) (t:TypeId) (x y:PV) (σ:Store):Option (PV×Store) :=
 match tb t,x,y with
 |some K,.int _ n,.int _ m=>match K.kd with
  |.sl e=>match tb e with
   |some E =>
    if 0≤n∧n=m∧n.toNat * E.size≤16777216∧E.bytes * n.toNat≤281474976710656∧E.zero.length=E.size∧0 < E.size then
     some (.osl σ.objs.length 0 n.toNat E.size,{ σ with objs:=σ.objs++[reps n.toNat E.zero],tys:=σ.tys++[e+qgz] })
    else none
   |none=>none
  |_=>none
 |_,_,_=>none
def pappend (tb:Tab) (m:Bool) (t:TypeId) (s x:PV) (σ:Store):Option (PV×Store) :=
 match tb t with
 |none=>none
 |some K=>match K.kd,s,pnews x with
  |.sl e,.sl xs tag,some ys=>match tb e with
   |some E =>
    if (xs.length+ys.length) * E.bytes≤140737488355328∧(xs.length+ys.length)≤140737488355328∧0 < E.size∧0 < E.bytes∧E.zero.length=E.size∧ys.all (fun y=>y.length == E.size&&y.all one)&&xs.all (fun y=>y.length == E.size) then
     match ys with
     |[]=>some (.sl xs tag,σ)
     |_=>match tag with
      |.non=>none
      |.nil=>none
      |.own=>none
      |.full=>if m then some (.osl σ.objs.length 0 (xs.length+ys.length) E.size,{ σ with objs:=σ.objs++[(xs++ys).flatten],tys:=σ.tys++[e+qgz] }) else some (.sl (xs++ys) (.tok σ.toks.length),{ σ with toks:=σ.toks++[(xs.length+ys.length,E.size,e)] })
      |.tok i=>match σ.toks[i]? with
       |some (v,k,e')=>if v=xs.length∧k=E.size∧e'=e then some (.sl (xs++ys) (.tok i),{ σ with toks:=σ.toks.set i (xs.length+ys.length,E.size,e) }) else none
       |none=>none
    else none
   |none=>none
  |_,_,_=>none
mutual
def mtok:PV→Nat
 |.sl _ (.tok t)=>t+1
 |.yld t=>t+1
 |.ref cs=>qsk cs
 |.fn _ cs=>qsk cs
 |.mth _ cs=>qsk cs
 |.iface _ v=>mtok v
 |.agg cs=>qsk cs
 |.tup cs=>qsk cs
 |_=>0
def qsk:List PV→Nat
 |[]=>0
 |x::xs=>max (mtok x) (qsk xs)
end
mutual
def mptr:PV→Nat
 |.ptr id _=>id+1
 |.osl id _ _ _=>id+1
 |.ref cs=>qBD cs
 |.fn _ cs=>qBD cs
 |.mth _ cs=>qBD cs
 |.iface _ v=>mptr v
 |.agg cs=>qBD cs
 |.tup cs=>qBD cs
 |_=>0
def qBD:List PV→Nat
 |[]=>0
 |x::xs=>max (mptr x) (qBD xs)
end
mutual
def qbX (n:Nat):PV→PV
 |.ptr id off=>bif id < n then .ptr id off else .top
 |.osl id off len k=>bif id < n then .osl id off len k else .top
 |.ref cs=>.ref (qby n cs)
 |.sl xs t=>.sl (qaF n xs) t
 |.fn f caps=>.fn f (qby n caps)
 |.mth f caps=>.mth f (qby n caps)
 |.iface t v=>.iface t (qbX n v)
 |.agg cs=>.agg (qby n cs)
 |.tup vs=>.tup (qby n vs)
 |x=>x
def qby (n:Nat):List PV→List PV
 |[]=>[]
 |x::xs=>qbX n x::qby n xs
def qaF (n:Nat):qR→List (List PV)
 |[]=>[]
 |x::xs=>qby n x::qaF n xs
end
def qEw (m:Nat):Tag→Tag
 |.tok t=>bif decide (t < m) then .tok t else .non
 |t=>t
mutual
def dropT (m:Nat):PV→PV
 |.yld t=>bif decide (t < m) then .yld t else .top
 |.ref cs=>.ref (qbF m cs)
 |.sl xs t=>.sl (qcF m xs) (qEw m t)
 |.fn f caps=>.fn f (qbF m caps)
 |.mth f caps=>.mth f (qbF m caps)
 |.iface t v=>.iface t (dropT m v)
 |.agg cs=>.agg (qbF m cs)
 |.tup vs=>.tup (qbF m vs)
 |x=>x
def qbF (m:Nat):List PV→List PV
 |[]=>[]
 |x::xs=>dropT m x::qbF m xs
def qcF (m:Nat):qR→List (List PV)
 |[]=>[]
 |x::xs=>qbF m x::qcF m xs
end
mutual
def lock:PV→PV
 |.ptr _ _=>.top
 |.osl _ _ _ _=>.top
 |.yld _=>.top
 |.ref cs=>.ref (qdf cs)
 |.sl xs _=>.sl (qad xs) .non
 |.fn f caps=>.fn f (qdf caps)
 |.mth f caps=>.mth f (qdf caps)
 |.iface t v=>.iface t (lock v)
 |.agg cs=>.agg (qdf cs)
 |.tup vs=>.tup (qdf vs)
 |x=>x
def qdf:List PV→List PV
 |[]=>[]
 |x::xs=>lock x::qdf xs
def qad:qR→List (List PV)
 |[]=>[]
 |x::xs=>qdf x::qad xs
end
mutual
def shut:PV→PV
 |.ptr _ _=>.top
 |.osl _ _ _ _=>.top
 |.yld _=>.top
 |.ref _=>.top
 |.sl xs _=>.sl (qaa xs) .non
 |.fn f caps=>.fn f (qa4 caps)
 |.mth f caps=>.mth f (qa4 caps)
 |.iface t v=>.iface t (shut v)
 |.agg cs=>.agg (qa4 cs)
 |.tup vs=>.tup (qa4 vs)
 |x=>x
def qa4:List PV→List PV
 |[]=>[]
 |x::xs=>shut x::qa4 xs
def qaa:qR→List (List PV)
 |[]=>[]
 |x::xs=>qa4 x::qaa xs
end
def qAP (objs:qR):PV→PV
 |.ptr id off=>match objs[id]? with
  |some cs=>.ref (qdf (cs.drop off))
  |none=>.top
 |x=>lock x
def view (objs:qR):PV→PV
 |.fn f caps=>.fn f (caps.map (qAP objs))
 |.mth f caps=>.mth f (caps.map (qAP objs))
 |x=>qAP objs x
def pzeros (zs:List PV) (n:Nat):List PV:=(List.range (n * zs.length)).map fun i=>zs.getD (i % zs.length) .top
def pclear (tb:Tab) (t:TypeId) (x:PV) (σ:Store):Option (PV×Store) :=
 match tb t,x with
 |some K,.osl id off len k=>match K.kd with
  |.sl e=>match tb e with
   |some E=>if len=0 then some (.tup [],σ) else match σ.objs[id]? with
    |some cs=>if E.zero.length=k∧0 < k∧E.zero.all one∧off+len * k≤cs.length then some (.tup [],{ σ with objs:=σ.objs.set id (cs.take off++pzeros E.zero len++cs.drop (off+len * k)) }) else none
    |none=>none
   |none=>none
  |_=>none
 |_,_=>none
def imin (a b:Int):Int:=if b < a then b else a
def qb8 (tb:Tab) (Γ:Gam) (fr:List PV) (σ:Store) (c:Call):Option (PV×Store) :=
 match c.callee with
 |.builtin .len=>match c.argTypes.toList,c.args.toList with
  |[t],[x]=>match tb t with
   |some K=>match K.kd,ev fr x with
    |.str,.str l=>some (.int .i64 l.length,σ)
    |.sl _,.sl xs _=>some (.int .i64 xs.length,σ)
    |.sl _,.osl _ _ len _=>some (.int .i64 len,σ)
    |_,_=>none
   |none=>none
  |_,_=>none
 |.builtin .append=>match c.argTypes.toList,c.args.toList with
  |[t,t'],[s,x]=>if t=t' then match ev fr x with
   |.sl ys tg=>pappend tb (qm1 Γ) t (ev fr s) (.sl ys tg) σ
   |_=>none
   else match tb t' with
   |some K=>match K.kd,ev fr x with
    |.str,.str l=>pappend tb (qm1 Γ) t (ev fr s) (.str l) σ
    |_,_=>none
   |none=>none
  |_,_=>none
 |.builtin .clear=>match c.argTypes.toList,c.args.toList with
  |[t],[x]=>pclear tb t (ev fr x) σ
  |_,_=>none
 |.builtin .min=>match c.args.toList with
  |[x,y]=>match ev fr x,ev fr y with
   |.int k a,.int k' b=>if k=k' then some (.int k (imin a b),σ) else none
   |_,_=>none
  |_=>none
 |.builtin _=>none
 |.invoke _ _=>none
 |.value f=>match ev fr f with
  |.fn g caps=>match Γ g with
   |some (.pure F)=>(F ((c.args.toList.map (ev fr)++caps).map (view σ.objs))).map fun x=>(x,σ)
   |some (.store D)=>match f with
    |.func _=>D (c.args.toList.map (ev fr)) σ
    |_=>none
   |some (.may D)=>match qxA Γ f with
    |true=>qgi (D (c.args.toList.map (ev fr)++caps) σ)
    |false=>none
   |some .flag=>none
   |some (.yld _ _)=>none
   |some (.glob _)=>none
   |some (.hint _)=>none
   |none=>none
  |.mth g fs=>match Γ g with
   |some (.may D)=>match qxA Γ f with
    |true=>qgi (D (fs++c.args.toList.map (ev fr)) σ)
    |false=>none
   |_=>none
  |.yld t=>match Γ qeM with
   |some (.yld e Y)=>match σ.toks[t]? with
    |some (s,k,e')=>if s=0∧k=0∧e'=e then Y t (c.args.toList.map (ev fr)) σ else none
    |none=>none
   |_=>none
  |_=>none
def pop (tb : Tab) (Γ : Gam) (fr : List PV) (σ : Store) (o : Oper) : Option (PV × Store) :=
  match o.op with
  | .move x | .assign x => some (rtag (hinted Γ o) (ev fr x) σ)
  | .pick c a b => match ev fr c with
    | .bool t => some (bif t then ev fr a else ev fr b, σ)
    | _ => none
  | .alloc t => match tb t with
    | some K => some (robj (hinted Γ o) K.zero t σ)
    | none => none
  | .box t x => match pcells (ev fr x) with
    | some cs => some (.ptr σ.objs.length 0, { σ with objs := σ.objs ++ [cs], tys := σ.tys ++ [t] })
    | none => none
  | .build t parts => (pbuild tb t (parts.toList.map fun p => (p.1, ev fr p.2))).map fun x => rtag (hinted Γ o) x σ
  | .buildSlice t len parts => (qju tb t len (parts.toList.map fun p => (p.1, ev fr p.2))).map fun x => (x, σ)
  | .makeSlice t l c => if qm1 Γ then qlF tb t (ev fr l) (ev fr c) σ else (qhr tb t (ev fr l) (ev fr c)).map fun x => (x, σ)
  | .load t a => match gcells Γ a with
   | some cs => match tb t with
    | some K => (pload K cs 0).map fun x => (x, σ)
    | none => none
   | none => match tb t with
    | some K => match ev fr a with
      | .ptr id off => match σ.objs[id]? with
        | some cs => (pload K cs off).map fun x => (x, σ)
        | none => none
      | .ref cs => (pload K cs 0).map fun x => (x, σ)
      | _ => none
    | none => none
  | .store t a x => match tb t with
    | some K => match ev fr a, pcells (ev fr x) with
      | .ptr id off, some vs => match σ.objs[id]? with
        | some cs => if vs.length = K.size ∧ off + K.size ≤ cs.length ∧ vs.all one then some (.top, { σ with objs := σ.objs.set id (cs.take off ++ vs ++ cs.drop (off + K.size)) }) else none
        | none => none
      | _, _ => none
    | none => none
  | .nilCheck x => match ev fr x with
    | .ptr id off => some (.ptr id off, σ)
    | .ref cs => some (.ref cs, σ)
    | .fn f caps => some (.fn f caps, σ)
    | _ => none
  | .binOp op t x y _ => (pbin tb op t x y (ev fr x) (ev fr y)).map fun v => (v, σ)
  | .unOp op _ x => (pun op (ev fr x)).map fun v => (v, σ)
  | .convert s d x => (pconv tb s d (ev fr x)).map fun v => (v, σ)
  | .makeInterface t x => match tb t with
    | some K => match K.kd with
      | .iface => none
      | .other => none
      | _ => some (.iface t (ev fr x), σ)
    | none => none
  | .makeFunc (.func f) first caps => match first.toList with
    | [] => some (.fn f (caps.toList.map (ev fr)), σ)
    | l => match caps.toList with
      | [] => some (.mth f (l.map (ev fr)), σ)
      | _ => none
  | .slice t x lo hi mx => (pslice tb t (ev fr x) (lo.map (ev fr)) (hi.map (ev fr)) (mx.map (ev fr))).map fun v => (v, σ)
  | .fieldAddr t x f => (qzU tb t (ev fr x) f).map fun v => (v, σ)
  | .field t x f => (pfield tb t (ev fr x) f).map fun v => (v, σ)
  | .indexAddr t x i => (qpE tb t (ev fr x) (ev fr i)).map fun v => (v, σ)
  | .index t x i => (pindex tb t (ev fr x) (ev fr i)).map fun v => (v, σ)
  | .extract x i => match ev fr x with
    | .tup vs => (vs[i]?).map fun v => (v, σ)
    | _ => none
  | .call c => qb8 tb Γ fr σ c
  | _ => none
def pwanted (ops:List Oper) (fr:List PV) (o:Oper):Option Bool :=
 match o.guard with
 |none=>some true
 |some (j,b)=>match ((ops[j]?).bind (·.dst)).bind (fr[·]?) with
  |some (.bool c)=>some (c == b)
  |some (.tup _)=>some false
  |_=>none
def pops (tb:Tab) (Γ:Gam) (ops:List Oper):List Oper→List PV→Store→Option (List PV×Store)
 |[],fr,σ=>some (fr,σ)
 |o::rest,fr,σ=>match pwanted ops fr o with
  |none=>none
  |some false=>pops tb Γ ops rest (pput fr o.dst (.tup [])) σ
  |some true=>match pop tb Γ fr σ o with
   |none=>none
   |some (x,σ')=>pops tb Γ ops rest (pput fr o.dst x) σ'
def ppan (Γ:Gam) (fr:List PV) (σ:Store) (o:Oper):Option (PV×Store):=match o.op with
 |.panic x=>match qFI (ev fr x) with
  |true=>some (ev fr x,σ)
  |false=>none
 |.call c=>match c.callee with
  |.value f=>match ev fr f with
   |.fn g caps=>match Γ g with
    |some (.may D)=>match qxA Γ f with
     |true=>qjT (D (c.args.toList.map (ev fr)++caps) σ)
     |false=>none
    |_=>none
   |.mth g fs=>match Γ g with
    |some (.may D)=>match qxA Γ f with
     |true=>qjT (D (fs++c.args.toList.map (ev fr)) σ)
     |false=>none
    |_=>none
   |_=>none
  |_=>none
 |_=>none
def ppans (tb:Tab) (Γ:Gam) (ops:List Oper):List Oper→List PV→Store→Option (PV×Store)
 |[],_,_=>none
 |o::rest,fr,σ=>match pwanted ops fr o with
  |none=>none
  |some false=>ppans tb Γ ops rest (pput fr o.dst (.tup [])) σ
  |some true=>match pop tb Γ fr σ o with
   |some (x,σ')=>ppans tb Γ ops rest (pput fr o.dst x) σ'
   |none=>ppan Γ fr σ o
def qbl (Γ:Gam) (c:Call):Bool:=match c.callee with
 |.builtin .append=>true
 |.builtin .clear=>true
 |.value (.func g)=>match Γ g with
  |some (.store _)=>true
  |some (.may _)=>true
  |_=>false
 |.value _=>match Γ qeM with
  |some (.yld _ _)=>true
  |_=>qwc Γ
 |_=>false
def qh5 (c:Call):Bool:=match c.callee with
 |.value _=>true
 |_=>false
def writes (Γ:Gam) (o:Oper):Bool:=match o.op with
 |.alloc ..|.box ..|.store ..=>true
 |.makeSlice ..=>qm1 Γ
 |.move _|.assign _|.build ..=>!(hinted Γ o).isEmpty
 |.call c=>qbl Γ c
 |_=>false
def qbk (b:Bool) (Γ:Gam) (o:Oper):Bool:=writes Γ o || match o.op with
 |.load ..=>!b
 |.call c=>qh5 c
 |.panic _=>true
 |_=>false
def reads (Γ:Gam) (o:Oper):Bool:=qbk false Γ o
def looks (ops : List Oper) (o : Oper) : List Nat :=
  (o.op.operands.toList.filterMap fun | .tmp t => some t | _ => none) ++
  (match o.guard with
   | some (g, _) => ((ops[g]?).bind (·.dst)).toList
   | none => [])
def hits (ops:List Oper) (x y:Oper):Bool:=match x.dst with
 |some d=>(looks ops y).contains d
 |none=>false
def qdJ (b:Bool) (Γ:Gam) (ops:List Oper) (x y:Oper):Bool :=
 hits ops x y || hits ops y x || (match x.dst with|some d=>y.dst == some d|none=>false) || (writes Γ x&&qbk b Γ y) || (writes Γ y&&qbk b Γ x)
def mask (acc:List Nat) (o:Oper):Nat:=o.after.toList.foldl (fun s e=>if Region.binds .any e then s ||| 2 ^ e.on ||| acc.getD e.on 0 else s) 0
def qgc (M:Oper→Oper→Bool):List Oper→List Oper→List Nat→Bool
 |[],_,_=>true
 |o::rest,done,acc =>
  let m:=mask acc o
  o.after.toList.all (fun e=>!Region.binds .any e || decide (e.on < done.length)) &&
  (done.zipIdx.all fun (x,i)=>!M x o || m.testBit i)&&qgc M rest (done++[o]) (acc++[m])
def qbR (b:Bool) (Γ:Gam) (ops:List Oper):Bool:=qgc (qdJ b Γ ops) ops [] []
def ordered (Γ:Gam) (ops:List Oper):Bool:=qbR false Γ ops
def qU3 (o:Oper):Bool:=match o.op with
 |.load ..=>true
 |_=>false
def qUa (o:Oper):Bool:=match o.op with
 |.store ..=>true
 |_=>false
def mixed (ops:List Oper):Bool:=ops.any qU3&&ops.any qUa
def qNj (Γ:Gam) (ops:List Oper) (draw:Bool):Bool:=match draw with
 |false=>false
 |true=>match mixed ops with
  |false=>false
  |true=>!ordered Γ ops
def qfE (ops:List Oper) (k:Nat) (a:Operand):Bool:=match a with
 |.tmp t=>(ops.drop k).all fun o=>match o.dst with
  |some d=>!Nat.beq d t
  |none=>true
 |_=>true
def qt2 (Γ:Gam) (ops:List Oper) (fr:List PV):List Oper→Nat→Option (List Nat)
 |[],_=>some []
 |o::l,k=>match qt2 Γ ops fr l (k+1) with
  |none=>none
  |some ids=>bif writes Γ o then match o.op with
   |.alloc ..=>some ids
   |.box ..=>some ids
   |.makeSlice ..=>some ids
   |.store _ b _=>bif qfE ops k b then match ev fr b with
    |.ptr id _=>some (id::ids)
    |_=>none
    else none
   |_=>none
   else some ids
def qBS (ops:List Oper) (fr:List PV) (n:Nat) (ids:List Nat):List Oper→Nat→Bool
 |[],_=>true
 |o::l,k=>qBS ops fr n ids l (k+1)&&match o.op with
  |.load _ a=>qfE ops k a&&match ev fr a with
   |.ptr id _=>Nat.blt id n&&ids.all fun i=>!Nat.beq i id
   |_=>true
  |_=>true
def qeB (Γ:Gam) (ops:List Oper) (fr:List PV) (n:Nat):Bool:=match qt2 Γ ops fr ops 0 with
 |some ids=>qBS ops fr n ids ops 0
 |none=>false
def mayP (Γ:Gam) (o:Oper):Bool:=match o.op with
 |.panic _=>true
 |.call c=>match c.callee with
  |.value (.func g)=>match Γ g with
   |some (.may _)=>true
   |_=>false
  |.value _=>qwc Γ
  |_=>false
 |_=>false
def anyP (Γ:Gam):List Oper→Bool
 |[]=>false
 |o::l=>match mayP Γ o with
  |true=>true
  |false=>anyP Γ l
def qh1 (Γ:Gam) (ops:List Oper) (x y:Oper):Bool:=qdJ true Γ ops x y || (writes Γ x&&reads Γ y) || mayP Γ x
def qod (Γ:Gam) (ops:List Oper):Bool:=qgc (qh1 Γ ops) ops [] []
inductive PM where
 |ok (fr:List PV) (σ:Store)
 |pan (x:PV) (σ:Store)
def dirE (o:Oper) (k:Nat):Bool:=o.after.toList.any fun e=>Region.binds .any e&&Nat.beq e.on k
def ldOf (fr:List PV) (o:Oper):Option Nat:=match o.op with
 |.load _ a=>match ev fr a with
  |.ptr id _=>some id
  |_=>none
 |_=>none
def qIR (j:Nat) (lds:List (Nat×Nat)):Option Nat→List (Nat×Nat)
 |some id=>(j,id)::lds
 |none=>lds
def qr7 (o:Oper) (σ σ':Store):List (Nat×Nat)→Prop
 |[]=>True
 |p::l=>(dirE o p.1=true∨σ'.objs[p.2]?=σ.objs[p.2]?)∧qr7 o σ σ' l
open Classical in
def qir (tb:Tab) (Γ:Gam) (ops:List Oper):List Oper→Nat→List (Nat×Nat)→List PV→Store→Option PM
 |[],_,_,fr,σ=>some (.ok fr σ)
 |o::rest,j,lds,fr,σ=>match pwanted ops fr o with
  |none=>none
  |some false=>qir tb Γ ops rest (j+1) lds (pput fr o.dst (.tup [])) σ
  |some true=>match pop tb Γ fr σ o with
   |some (x,σ')=>if writes Γ o=true→qr7 o σ σ' lds then qir tb Γ ops rest (j+1) (qIR j lds (ldOf fr o)) (pput fr o.dst x) σ' else none
   |none=>match ppan Γ fr σ o with
    |some (x,σ')=>some (.pan x σ')
    |none=>none
def qxs (Γ:Gam) (ops:List Oper) (draw:Bool):Bool:=match draw with
 |true=>anyP Γ ops
 |false=>false
inductive PExit where
 |normal
 |exit (id:Nat)
 |ret
 |pan (x:PV)
abbrev Lps:=Nat→List PV→Store→Option (PExit×List PV×Store)
def rid:Code→Nat
 |.region id _ _=>id
 |.seq a b=>match a with
  |.skip=>rid b
  |.label _=>rid b
  |_=>rid a
 |.cond _ a _=>rid a
 |.block _ c=>rid c
 |.loop c=>rid c
 |.scope c=>rid c
 |_=>0
def rfid (x y:Code):Nat:=500000+(match x with|.region id _ _=>id|_=>rid y)
def pexec (tb : Tab) (Γ : Gam) (L : Lps) : Code → List PV → Store → Option (PExit × List PV × Store)
  | .skip, fr, σ => some (.normal, fr, σ)
  | .label _, fr, σ => some (.normal, fr, σ)
  | .region _ ops draw, fr, σ => match qxs Γ ops.toList draw with
   | true => match qir tb Γ ops.toList ops.toList 0 [] fr σ with
    | some (.ok fr' σ') => some (.normal, fr', σ')
    | some (.pan x σ') => some (.pan x, List.replicate fr.length .top, σ')
    | none => none
   | false => match pops tb Γ ops.toList ops.toList fr σ with
    | some (fr', σ') => if qNj Γ ops.toList draw && !qeB Γ ops.toList fr' σ.objs.length then none else some (.normal, fr', σ')
    | none => match draw with
      | true => none
      | false => match ppans tb Γ ops.toList ops.toList fr σ with
        | some (x, σ') => some (.pan x, List.replicate fr.length .top, σ')
        | none => none
  | .seq a b, fr, σ => match pexec tb Γ L a fr σ with
    | some (.normal, fr', σ') => pexec tb Γ L b fr' σ'
    | r => r
  | .cond c a b, fr, σ => match ev fr c with
    | .bool t => bif t then pexec tb Γ L a fr σ else pexec tb Γ L b fr σ
    | _ => none
  | .block id c, fr, σ => match pexec tb Γ L c fr σ with
    | some (.exit j, fr', σ') => if j = id then some (.normal, fr', σ') else some (.exit j, fr', σ')
    | r => r
  | .loop c, fr, σ => L (rid c) fr σ
  | .rangeFunc _ _ x y, fr, σ => L (rfid x y) fr σ
  | .exit id, fr, σ => some (.exit id, fr, σ)
  | .ret, fr, σ => some (.ret, fr, σ)
  | _, _, _ => none
def presult (tb:Tab) (fr:List PV) (σ:Store):ResultVar→Option PV
 |.tmp t=>some (fr.getD t .top)
 |.cell a t=>match tb t,fr.getD a .top with
  |some K,.ptr id off=>match σ.objs[id]? with
   |some cs=>pload K cs off
   |none=>none
  |_,_=>none
def presults (tb:Tab) (fr:List PV) (σ:Store):List ResultVar→Option (List PV)
 |[]=>some []
 |r::rest=>match presult tb fr σ r,presults tb fr σ rest with
  |some x,some xs=>some (x::xs)
  |_,_=>none
def pout:List PV→PV
 |[x]=>shut x
 |xs=>.tup (qa4 xs)
def qBX:List PV→PV
 |[x]=>x
 |xs=>.tup xs
def oview (objs:qR):PV→PV
 |.osl id off len k=>match objs[id]? with
  |some cs=>if off+len * k≤cs.length then .sl (chunks k len (cs.drop off)) .non else .top
  |none=>.top
 |x=>x
def pcall (tb:Tab) (Γ:Gam) (L:Lps) (fn:Func) (args:List PV):Option PV :=
 match fn.body with
 |none=>none
 |some c=>match pexec tb Γ L c (args++List.replicate (fn.ntmps - args.length) .top) ⟨[],[],[]⟩ with
  |some (.normal,fr,σ)=>(presults tb fr σ fn.results.toList).map fun xs=>pout (xs.map (oview σ.objs))
  |some (.ret,fr,σ)=>(presults tb fr σ fn.results.toList).map fun xs=>pout (xs.map (oview σ.objs))
  |_=>none
def qHI (tb:Tab) (Γ:Gam) (L:Lps) (fn:Func) (args:List PV) (σ:Store):Option (PV×Store) :=
 match fn.body with
 |none=>none
 |some c=>match pexec tb Γ L c (args++List.replicate (fn.ntmps - args.length) .top) σ with
  |some (.normal,fr,σ')=>(presults tb fr σ' fn.results.toList).map fun xs=>(qBX xs,σ')
  |some (.ret,fr,σ')=>(presults tb fr σ' fn.results.toList).map fun xs=>(qBX xs,σ')
  |_=>none
end Go.Pv
set_option linter.unusedSimpArgs false
set_option linter.unusedVariables false
namespace Go.Pv
open Go.RowKit
section
variable {H : Gh} {w : World}
theorem qdj:∀ {xs:List PV} {vs:List Value},RelL H w xs vs↔xs.length=vs.length∧∀ (i:Nat) (x:PV) (v:Value),xs[i]?=some x→vs[i]?=some v→Rel H w x v:=by
 intro xs
 induction xs with
 |nil =>
  intro vs;constructor
  ·intro h;cases h
   exact⟨rfl,fun i x v h=>by simp at h⟩
  ·rintro⟨h,_⟩;cases vs with
   |nil=>exact .nil
   |cons=>simp at h
 |cons x xs ih =>
  intro vs;constructor
  ·intro h;cases h with
   |cons _ v _ vs h ht =>
    obtain⟨hl,hg⟩:=ih.1 ht;refine⟨by simp [hl],fun i y u hy hu=>?_⟩
    cases i with
    |zero=>simp at hy hu;subst hy hu;exact h
    |succ i=>simp at hy hu;exact hg i y u hy hu
  ·rintro⟨hl,hg⟩;cases vs with
   |nil=>simp at hl
   |cons v vs=>exact .cons _ _ _ _ (hg 0 x v (by simp) (by simp)) (ih.2 ⟨by simpa using hl,fun i y u hy hu=>hg (i+1) y u (by simpa using hy) (by simpa using hu)⟩)
theorem qci:∀ {xs:List (List PV)} {vs:List (List Value)},RelLL H w xs vs↔xs.length=vs.length∧∀ (i:Nat) (x:List PV) (v:List Value),xs[i]?=some x→vs[i]?=some v→RelL H w x v:=by
 intro xs
 induction xs with
 |nil =>
  intro vs;constructor
  ·intro h;cases h
   exact⟨rfl,fun i x v h=>by simp at h⟩
  ·rintro⟨h,_⟩;cases vs with
   |nil=>exact .nil
   |cons=>simp at h
 |cons x xs ih =>
  intro vs;constructor
  ·intro h;cases h with
   |cons _ v _ vs h ht =>
    obtain⟨hl,hg⟩:=ih.1 ht;refine⟨by simp [hl],fun i y u hy hu=>?_⟩
    cases i with
    |zero=>simp at hy hu;subst hy hu;exact h
    |succ i=>simp at hy hu;exact hg i y u hy hu
  ·rintro⟨hl,hg⟩;cases vs with
   |nil=>simp at hl
   |cons v vs=>exact .cons _ _ _ _ (hg 0 x v (by simp) (by simp)) (ih.2 ⟨by simpa using hl,fun i y u hy hu=>hg (i+1) y u (by simpa using hy) (by simpa using hu)⟩)
theorem RelL.len {xs:List PV} {vs:List Value} (h:RelL H w xs vs):xs.length=vs.length:=(qdj.1 h).1
theorem RelLL.len {xs:List (List PV)} {vs:List (List Value)} (h:RelLL H w xs vs):xs.length=vs.length:=(qci.1 h).1
theorem RelL.get {xs:List PV} {vs:List Value} (h:RelL H w xs vs) {i:Nat} {x:PV} (hx:xs[i]?=some x):∃ v,vs[i]?=some v∧Rel H w x v:=by
 obtain⟨hl,hg⟩:=qdj.1 h;have hi:i < vs.length:=by rw [← hl];exact (List.getElem?_eq_some_iff.1 hx).1
 exact⟨vs[i],List.getElem?_eq_getElem hi,hg i x _ hx (List.getElem?_eq_getElem hi)⟩
theorem RelLL.get {xs:List (List PV)} {vs:List (List Value)} (h:RelLL H w xs vs) {i:Nat} {x:List PV} (hx:xs[i]?=some x):∃ v,vs[i]?=some v∧RelL H w x v:=by
 obtain⟨hl,hg⟩:=qci.1 h;have hi:i < vs.length:=by rw [← hl];exact (List.getElem?_eq_some_iff.1 hx).1
 exact⟨vs[i],List.getElem?_eq_getElem hi,hg i x _ hx (List.getElem?_eq_getElem hi)⟩
theorem RelL.take {xs:List PV} {vs:List Value} (n:Nat) (h:RelL H w xs vs):RelL H w (xs.take n) (vs.take n):=by
 obtain⟨hl,hg⟩:=qdj.1 h;refine qdj.2 ⟨by simp [hl],fun i x v hx hv=>?_⟩
 rw [List.getElem?_take] at hx hv;split at hx
 ·rename_i hi;rw [if_pos hi] at hv;exact hg i x v hx hv
 ·cases hx
theorem RelL.drop {xs:List PV} {vs:List Value} (n:Nat) (h:RelL H w xs vs):RelL H w (xs.drop n) (vs.drop n):=by
 obtain⟨hl,hg⟩:=qdj.1 h;refine qdj.2 ⟨by simp [hl],fun i x v hx hv=>?_⟩
 rw [List.getElem?_drop] at hx hv;exact hg _ x v hx hv
theorem RelL.app {xs ys:List PV} {vs us:List Value} (h:RelL H w xs vs) (k:RelL H w ys us):RelL H w (xs++ys) (vs++us):=by
 induction xs generalizing vs with
 |nil=>cases h;exact k
 |cons x xs ih =>
  cases h with
  |cons _ v _ vs h ht=>exact .cons _ _ _ _ h (ih ht)
theorem RelLL.app {xs ys:List (List PV)} {vs us:List (List Value)} (h:RelLL H w xs vs) (k:RelLL H w ys us):RelLL H w (xs++ys) (vs++us):=by
 induction xs generalizing vs with
 |nil=>cases h;exact k
 |cons x xs ih =>
  cases h with
  |cons _ v _ vs h ht=>exact .cons _ _ _ _ h (ih ht)
theorem RelLL.take {xs:List (List PV)} {vs:List (List Value)} (n:Nat) (h:RelLL H w xs vs):RelLL H w (xs.take n) (vs.take n):=by
 obtain⟨hl,hg⟩:=qci.1 h;refine qci.2 ⟨by simp [hl],fun i x v hx hv=>?_⟩
 rw [List.getElem?_take] at hx hv;split at hx
 ·rename_i hi;rw [if_pos hi] at hv;exact hg i x v hx hv
 ·cases hx
theorem RelLL.drop {xs:List (List PV)} {vs:List (List Value)} (n:Nat) (h:RelLL H w xs vs):RelLL H w (xs.drop n) (vs.drop n):=by
 obtain⟨hl,hg⟩:=qci.1 h;refine qci.2 ⟨by simp [hl],fun i x v hx hv=>?_⟩
 rw [List.getElem?_drop] at hx hv;exact hg _ x v hx hv
theorem RelL.set {xs:List PV} {vs:List Value} (h:RelL H w xs vs) (i:Nat) {x:PV} {v:Value} (k:Rel H w x v):RelL H w (xs.set i x) (vs.set i v):=by
 induction xs generalizing vs i with
 |nil=>cases h;exact .nil
 |cons y xs ih =>
  cases h with
  |cons _ u _ vs h ht =>
   cases i with
   |zero=>exact .cons _ _ _ _ k ht
   |succ i=>exact .cons _ _ _ _ h (ih ht i)
theorem RelL.getD {xs:List PV} {vs:List Value} (h:RelL H w xs vs) (i:Nat) (d:Value):Rel H w (xs.getD i .top) (vs.getD i d):=by
 rw [List.getD_eq_getElem?_getD,List.getD_eq_getElem?_getD];cases hx:xs[i]? with
 |none=>exact .top _
 |some x =>
  obtain⟨v,hv,hr⟩:=h.get hx;rw [hv];exact hr
theorem RelL.tops:∀ (vs:List Value),RelL H w (List.replicate vs.length .top) vs
 |[]=>.nil
 |v::vs=>.cons _ _ _ _ (.top v) (RelL.tops vs)
theorem qy0 (v:Value):Rel H w (qr6 v) v:=by
 unfold qr6;split
 ·exact .bool _
 ·split
  ·exact .int _ _ ‹_›
  ·exact .top _
 ·rename_i s;split
  ·have:=Rel.str (H:=H) (w:=w) s.data.toList ‹_›
   rwa [Array.toArray_toList] at this
  ·exact .top _
 ·exact .nilp
 ·exact .sl none 0 0 0 [] [] .full rfl (Nat.le_refl _) (Nat.zero_le _) .nil (fun i vs h=>by simp at h) rfl
 ·rename_i f first caps;split
  ·rename_i h1 h2;have e1:first=#[]:=by cases first;simp_all
   have e2:caps=#[]:=by cases caps;simp_all
   subst e1 e2;exact .fn f [] [] .nil
  ·exact .top _
 ·exact .nilf
 ·exact .nili
 ·exact .top _
theorem qcg:∀ (vs:List Value),RelL H w (vs.map qr6) vs
 |[]=>.nil
 |v::vs=>.cons _ _ _ _ (qy0 v) (qcg vs)
theorem qGh (v:Value):Rel H w (ofValue v) v:=by
 unfold ofValue;split
 ·rename_i cs;have:=Rel.agg (H:=H) (w:=w) _ _ (qcg cs.toList)
  rwa [Array.toArray_toList] at this
 ·exact qy0 _
theorem qaL {fr:List PV} {a:Act} (h:RelL H w fr a.tmps.toList) (x:Operand):Rel H w (ev fr x) (a.eval x):=by
 cases x with
 |tmp t =>
  have:=h.getD t undef;simp only [ev,Act.eval];rw [Array.getD_eq_getD_getElem?];rw [List.getD_eq_getElem?_getD] at this;simpa using this
 |const v=>exact qGh v
 |global g=>exact .top _
 |func f=>exact .fn f [] [] .nil
theorem qro {x:PV} {v:Value} {cs:List PV} (h:Rel H w x v) (hc:pcells x=some cs):RelL H w cs v.cells.toList:=by
 cases h<;>simp only [pcells,Option.some.injEq,reduceCtorEq] at hc
 case agg cs' vs h=>subst hc;simpa [Value.cells] using h
 all_goals
  subst hc;refine .cons _ _ _ _ ?_ .nil
  first
   |exact .bool _
   |exact .int _ _ ‹_›
   |exact .str _ ‹_›
   |exact .nilp
   |exact .ptr _ _ _ ‹_›
   |exact .ref _ _ _ ‹_› ‹_›
   |exact .sl _ _ _ _ _ _ _ ‹_› ‹_› ‹_› ‹_› ‹_› ‹_›
   |exact .osl _ _ _ _ _ _ _ ‹_› ‹_› ‹_› ‹_›
   |exact .fn _ _ _ ‹_›
   |exact .mth _ _ _ ‹_›
   |exact .yld _ _ ‹_› ‹_›
   |exact .nilf
   |exact .iface _ _ _ ‹_›
   |exact .nili
theorem qP9 {x:PV} {v:Value} (h:Rel H w x v) (h1:one x=true):v.oneCell'=true:=by
 cases h<;>first|rfl|simp [one] at h1
theorem qvN {xs:List PV} {vs:List Value} (h:RelL H w xs vs) (h1:xs.all one=true):∀ v∈vs,v.oneCell'=true:=by
 intro v hv;obtain⟨i,hi⟩:=List.mem_iff_getElem?.1 hv;obtain⟨hl,hg⟩:=qdj.1 h;have hlt:i < xs.length:=by rw [hl];exact (List.getElem?_eq_some_iff.1 hi).1
 exact qP9 (hg i _ _ (List.getElem?_eq_getElem hlt) hi) (List.all_eq_true.1 h1 _ (List.getElem_mem hlt))
end
section
variable {P : Program} {t : TypeId} {K : TK}
theorem qgW (h:tkOf P t=some K):∃ i z,P.info? t=some i∧i.zero=some z∧i.size=K.size∧i.bytes=K.bytes∧K.zero=z.cells.toList.map qr6∧K.kd=kdOf P t:=by
 unfold tkOf at h
 cases hi:P.info? t with
 |none=>simp [hi] at h
 |some i =>
  simp [hi] at h
  obtain⟨z,hz,rfl⟩:=h;exact⟨i,z,rfl,hz,rfl,rfl,rfl,rfl⟩
theorem qyj {k:IntKind} (h:kdOf P t=.int k):P.underlying t=some (.int k):=by
 unfold kdOf at h
 split at h<;>simp_all
theorem qNT (h:kdOf P t=.bool):P.underlying t=some .bool:=by
 unfold kdOf at h
 split at h<;>simp_all
theorem qmD (h:kdOf P t=.str):P.underlying t=some .string:=by
 unfold kdOf at h
 split at h<;>simp_all
theorem qo4 {e:TypeId} (h:kdOf P t=.sl e):P.underlying t=some (.slice e):=by
 unfold kdOf at h
 split at h<;>simp_all
theorem qQO {n:Nat} {e:TypeId} (h:kdOf P t=.arr n e):P.underlying t=some (.array n e):=by
 unfold kdOf at h
 split at h<;>simp_all
theorem qBL (h:kdOf P t=.iface):∃ ms,P.underlying t=some (.interface ms):=by
 unfold kdOf at h
 split at h<;>simp_all
theorem qRz (h:kdOf P t=.fn):∃ a b c,P.underlying t=some (.func a b c):=by
 unfold kdOf at h
 split at h<;>simp_all
theorem qyl {fs:List (Nat×TypeId×Bool)} {held guard:Bool} (h:kdOf P t=.agg fs held guard) :
  ∃ fields, P.underlying t = some (.struct fields) ∧ fs = fields.toList.map (fun f => (f.offset, f.type, f.name != "_")) ∧ held = P.stoodInHeld t ∧ guard = P.eqGuardType P.depth t := by
 unfold kdOf at h
 split at h<;>simp_all
theorem qr3 (w:World) {kd:KD} (h:kdOf P t=kd) (ho:kd≠.other):(isAgg t).run P w=.ok kd.isAgg w:=by
 subst h;unfold kdOf at ho ⊢;cases hu:P.underlying t with
 |none=>simp [hu] at ho
 |some d=>cases d<;>simp_all [isAgg,run_underlying,KD.isAgg]
end
end Go.Pv
set_option linter.unusedSimpArgs false
set_option linter.unusedVariables false
namespace Go.Pv
open Go.RowKit
def TokOb (gl:Gl) (H:Gh) (w:World) (t:Nat) (T:Tok) (o:Obj):Prop :=
 (T.k≠0∧∃ cur fz,o=.cells cur T.e fz∧(T.ver≤maxLen→fz=(0,0)∧T.ver≤T.cap)∧T.cap≤maxLen∧cur.size=T.cap * T.k) ∨
 (T.k=0∧o=gl.lp T.e T.ver∧∃ r,o=.loop r∧RelL H w (gl.fr T.e) r.tmps.toList∧(∀ n,T.cap≤n→qby n (gl.fr T.e)=gl.fr T.e)∧T.cap≤H.ob.length∧(∀ m,t≤m→qbF m (gl.fr T.e)=gl.fr T.e))
theorem qVd {H H':Gh} {w w':World} (g:Mono H w H' w'):H.ob.length≤H'.ob.length:=by
 cases h:H.ob.length with
 |zero=>exact Nat.zero_le _
 |succ n =>
  have hn:n < H.ob.length:=by omega
  have:=g.ob n _ (List.getElem?_eq_getElem hn);exact (List.getElem?_eq_some_iff.1 this).1
theorem TokOb.mono {gl:Gl} {H H':Gh} {w w':World} {t:Nat} {T:Tok} {o:Obj} (g:Mono H w H' w') (h:TokOb gl H w t T o):TokOb gl H' w' t T o:=by
 rcases h with h|⟨h1,h2,r,h3,h4,h5,h6,h7⟩
 ·exact .inl h
 ·exact .inr ⟨h1,h2,r,h3,h4.mono g,h5,Nat.le_trans h6 (qVd g),h7⟩
structure Ok (g:Gl) (H:Gh) (σ:Store) (w:World):Prop where
 B:H.B≤w.heap.size
 gl:∀ (b:Nat) (o:Obj),g b=some o→b < H.B∧w.heap[b]?=some o
 len:H.ob.length=σ.objs.length
 obj:∀ (id b:Nat) (cs:List PV),H.ob[id]?=some b→σ.objs[id]?=some cs→g b=none∧∃ vs ext T,w.heap[b]?=some (.cells (vs++ext).toArray T (0,0))∧RelL H w cs vs
 nd:∀ (i j b:Nat),H.ob[i]?=some b→H.ob[j]?=some b→i=j
 tkl:H.tk.map (fun T=>(T.ver,T.k,T.e))=σ.toks
 tok:∀ (t:Nat) (T:Tok),H.tk[t]?=some T→¬ T.vir→H.B≤T.blk∧T.blk∉H.ob∧∃ o,w.heap[T.blk]?=some o∧TokOb g H w t T o
 tnd:∀ (t u:Nat) (T U:Tok),H.tk[t]?=some T→H.tk[u]?=some U→¬ T.vir→¬ U.vir→T.blk=U.blk→t=u
 tyl:σ.tys.length=σ.objs.length
 ty:∀ (id b:Nat) (T:TypeId) (cs:List PV),H.ob[id]?=some b→σ.tys[id]?=some T→σ.objs[id]?=some cs→T < qgz→∃ us,w.heap[b]?=some (.cells us T (0,0))∧us.size=cs.length
section
variable {gl : Gl} {H : Gh} {σ : Store} {w w' : World}
theorem qak {w:World} {b:Nat} {o:Obj} (h:w.heap[b]?=some o):b < w.heap.size:=(Array.getElem?_eq_some_iff.1 h).1
theorem Ok.ob_at (h:Ok gl H σ w) {b:Nat} (hb:b∈H.ob):gl b=none∧b < w.heap.size:=by
 obtain⟨i,hi⟩:=List.mem_iff_getElem?.1 hb;have hl:i < σ.objs.length:=by rw [← h.len];exact (List.getElem?_eq_some_iff.1 hi).1
 obtain⟨hB,vs,ext,T,he,_⟩:=h.obj i b _ hi (List.getElem?_eq_getElem hl);exact⟨hB,qak he⟩
theorem Ok.gl_none (h:Ok gl H σ w) {b:Nat} (hb:w.heap.size≤b):gl b=none:=by
 cases hg:gl b with
 |none=>rfl
 |some o =>
  have:=(h.gl b o hg).1;have:=h.B;omega
theorem Ok.tk_at (h:Ok gl H σ w) {T:Tok} (hT:T∈H.tk) (hv:¬ T.vir):H.B≤T.blk∧T.blk < w.heap.size:=by
 obtain⟨i,hi⟩:=List.mem_iff_getElem?.1 hT;obtain⟨hB,_,o,he,_⟩:=h.tok i T hi hv;exact⟨hB,qak he⟩
theorem Ev.of_below {gl:Gl} (hB:H.B≤w.heap.size) (hb:Below w.heap.size w w') (hd:Dr gl w w'):Ev gl H w H w' where
 B:=rfl
 base:=rfl
 aux:=rfl
 K:=rfl
 os:=hb.os
 tape:=hb.tape
 output:=hb.output
 size:=hb.size
 ob:=fun _ _ h=>h
 tok:=fun _ T h=>⟨T,h,.refl T⟩
 prot:=fun b off h=>⟨⟨Nat.lt_of_lt_of_le h.1 hb.size,h.2⟩,fun s=>hb.cell (p:=⟨b,off,s⟩) h.1⟩
 block:=fun b h _=>hb.block b (Nat.lt_of_lt_of_le h hB)
 dr:=hd
 fix:=fun b ds h=>(hb.block b (qak h)).trans h
 old:=fun _ T h hk=>⟨T,h,hk⟩
 obn:=fun _ hb=>.inl hb
theorem Mono.of_below (hB:H.B≤w.heap.size) (hb:Below w.heap.size w w'):Mono H w H w':=(Ev.of_below (gl:=⟨fun _=>some default,fun _ _=>default,fun _=>[]⟩) hB hb (fun h=>by cases h 0)).mono
theorem Ok.of_below (h:Ok gl H σ w) (hb:Below w.heap.size w w'):Ok gl H σ w' where
 B:=Nat.le_trans h.B hb.size
 gl:=fun b o e=>⟨(h.gl b o e).1,(hb.block b (qak (h.gl b o e).2)).trans (h.gl b o e).2⟩
 len:=h.len
 obj:=fun id b cs e1 e2=>by
  obtain⟨hB,vs,ext,T,he,hr⟩:=h.obj id b cs e1 e2;exact⟨hB,vs,ext,T,(hb.block b (qak he)).trans he,hr.mono (Mono.of_below h.B hb)⟩
 nd:=h.nd
 tkl:=h.tkl
 tok:=fun t T e hv=>by
  obtain⟨hB,ho,o,he,hr⟩:=h.tok t T e hv;exact⟨hB,ho,o,(hb.block _ (qak he)).trans he,hr.mono (Mono.of_below h.B hb)⟩
 tnd:=h.tnd
 tyl:=h.tyl
 ty:=fun id b T cs e1 e2 e3 hT=>by
  obtain⟨us,he,hs⟩:=h.ty id b T cs e1 e2 e3 hT;exact⟨us,(hb.block b (qak he)).trans he,hs⟩
theorem qd3 (w:World):Below w.heap.size w w.drew:=(Below.refl _ _).drew
theorem qa6 (w:World) (o:Obj):Below w.heap.size w (w.alloc o):=(Below.refl _ _).alloc (Nat.le_refl _) o
theorem qrV (h:Ok gl H σ w) {b0:Nat} (hb:Below w.heap.size w w') (hd:Dr gl w w') (hn:w.heap.size≤b0) {cs:List PV} {vs ext:List Value} {T:TypeId} {Tm:TypeId} (hTm:Tm < qgz→Tm=T∧ext=[]) (he0:w'.heap[b0]?=some (.cells (vs++ext).toArray T (0,0))) (hr:RelL H w cs vs) :
  Ev gl H w { H with ob:=H.ob++[b0] } w'∧Ok gl { H with ob:=H.ob++[b0] } { σ with objs:=σ.objs++[cs],tys:=σ.tys++[Tm] } w' ∧
   ({ H with ob:=H.ob++[b0] }:Gh).ob[σ.objs.length]?=some b0:=by
 have hnew:b0∉H.ob:=fun hm=>by have:=(h.ob_at hm).2;omega
 have e:Ev gl H w { H with ob:=H.ob++[b0] } w':=by
  refine⟨rfl,rfl,rfl,rfl,hb.os,hb.tape,hb.output,hb.size,fun id b hid=>?_,fun _ T h=>⟨T,h,.refl T⟩,fun b off hp=>?_,fun b hlt _=>hb.block b (Nat.lt_of_lt_of_le hlt h.B),hd,fun b ds hf=>(hb.block b (qak hf)).trans hf,fun _ T h hk=>⟨T,h,hk⟩,fun b hb=>(List.mem_append.1 hb).elim .inl (fun e=>.inr (by simp at e;subst e;exact Nat.le_trans h.B hn))⟩
  ·show (H.ob++[b0])[id]?=some b
   rw [List.getElem?_append_left (List.getElem?_eq_some_iff.1 hid).1];exact hid
  ·refine⟨⟨Nat.lt_of_lt_of_le hp.1 hb.size,hp.2.1,fun hm=>?_,hp.2.2.2⟩,fun s=>hb.cell (p:=⟨b,off,s⟩) hp.1⟩
   rcases List.mem_append.1 hm with hm|hm
   ·exact hp.2.2.1 hm
   ·simp at hm;have:=hp.1;omega
 have hlast:(H.ob++[b0])[σ.objs.length]?=some b0:=by
  rw [← h.len,List.getElem?_append_right (Nat.le_refl _)];simp
 have case:∀ (k b:Nat),(H.ob++[b0])[k]?=some b→(H.ob[k]?=some b)∨(k=H.ob.length∧b=b0):=by
  intro k b hk;by_cases hkl:k < H.ob.length
  ·rw [List.getElem?_append_left hkl] at hk;exact .inl hk
  ·have hlt:k < (H.ob++[b0]).length:=(List.getElem?_eq_some_iff.1 hk).1;have:k=H.ob.length:=by simp at hlt;omega
   subst this;rw [List.getElem?_append_right (Nat.le_refl _)] at hk;simp at hk;exact .inr ⟨rfl,hk.symm⟩
 refine⟨e,⟨Nat.le_trans h.B hb.size,fun b o eg=>⟨(h.gl b o eg).1,(hb.block b (qak (h.gl b o eg).2)).trans (h.gl b o eg).2⟩,by simp [h.len],fun id b cs' e1 e2=>?_,fun i j b hi hj=>?_,h.tkl,fun t T' ht hvv=>?_,h.tnd,by simp [h.tyl],fun k b T' cs1 hk ht hc hTT=>?_⟩,hlast⟩
 ·rcases case id b e1 with e1'|⟨rfl,rfl⟩
  ·have hid:id < H.ob.length:=(List.getElem?_eq_some_iff.1 e1').1;have e2':(σ.objs++[cs])[id]?=some cs':=e2;rw [List.getElem?_append_left (by rw [← h.len];exact hid)] at e2'
   obtain⟨hB,vs',ext',T',he,hr'⟩:=h.obj id b cs' e1' e2';exact⟨hB,vs',ext',T',(hb.block b (qak he)).trans he,hr'.mono e.mono⟩
  ·have e2':(σ.objs++[cs])[H.ob.length]?=some cs':=e2;rw [h.len,List.getElem?_append_right (Nat.le_refl _)] at e2';simp at e2';subst e2';exact⟨h.gl_none hn,vs,ext,T,he0,hr.mono e.mono⟩
 ·rcases case i b hi with h1|⟨h1,h1'⟩<;>rcases case j b hj with h2|⟨h2,h2'⟩
  ·exact h.nd i j b h1 h2
  ·exact absurd (List.mem_of_getElem? h1) (h2' ▸ hnew)
  ·exact absurd (List.mem_of_getElem? h2) (h1' ▸ hnew)
  ·rw [h1,h2]
 ·obtain⟨hB,ho,o,he,hr'⟩:=h.tok t T' ht hvv;refine⟨hB,fun hm=>?_,o,(hb.block _ (qak he)).trans he,hr'.mono e.mono⟩
  rcases List.mem_append.1 hm with hm|hm
  ·exact ho hm
  ·simp at hm;have:=qak he;omega
 ·rcases case k b hk with hk'|⟨rfl,rfl⟩
  ·have hkl:k < H.ob.length:=(List.getElem?_eq_some_iff.1 hk').1;have ht':(σ.tys++[Tm])[k]?=some T':=ht;rw [List.getElem?_append_left (by rw [h.tyl,← h.len];exact hkl)] at ht'
   have hc':(σ.objs++[cs])[k]?=some cs1:=hc;rw [List.getElem?_append_left (by rw [← h.len];exact hkl)] at hc'
   obtain⟨us,he,hs⟩:=h.ty k b T' cs1 hk' ht' hc' hTT;exact⟨us,(hb.block b (qak he)).trans he,hs⟩
  ·have ht':(σ.tys++[Tm])[H.ob.length]?=some T':=ht;rw [h.len,← h.tyl,List.getElem?_append_right (Nat.le_refl _)] at ht';simp at ht';subst ht';have hc':(σ.objs++[cs])[H.ob.length]?=some cs1:=hc;rw [h.len,List.getElem?_append_right (Nat.le_refl _)] at hc';simp at hc';subst hc';obtain⟨rfl,rfl⟩:=hTm hTT;exact⟨_,he0,by simp [hr.len]⟩
theorem qCd {α:Type} {l e:List α} {i:Nat} {v:α} (h:l[i]?=some v):(l++e)[i]?=some v:=by
 rw [List.getElem?_append_left (List.getElem?_eq_some_iff.1 h).1];exact h
theorem qFE (h:Ok gl H σ w) {cs:List PV} {vs:List Value} (hr:RelL H w cs vs) (T:TypeId) :
  Ev gl H w { H with ob:=H.ob++[w.heap.size] } (w.alloc (.cells vs.toArray T))∧Ok gl { H with ob:=H.ob++[w.heap.size] } { σ with objs:=σ.objs++[cs],tys:=σ.tys++[T] } (w.alloc (.cells vs.toArray T)) ∧
   ({ H with ob:=H.ob++[w.heap.size] }:Gh).ob[σ.objs.length]?=some w.heap.size :=
 qrV h (qa6 w _) (.of_eq rfl) (Nat.le_refl _) (vs:=vs) (ext:=[]) (fun _=>⟨rfl,rfl⟩) (by rw [List.append_nil];exact heap_alloc_new w _) hr
theorem qGe (h:Ok gl H σ w) {id b:Nat} {vs vs' ext:List Value} {T:TypeId} {cs':List PV} (hid:H.ob[id]?=some b) (hh:w.heap[b]?=some (.cells (vs++ext).toArray T (0,0))) (hr:RelL H w cs' vs') (hkeep:∀ c0,σ.objs[id]?=some c0→c0.length=vs.length∧cs'.length=c0.length) :
  Ev gl H w H (w.setRow b (vs'++ext).toArray)∧Ok gl H { σ with objs:=σ.objs.set id cs' } (w.setRow b (vs'++ext).toArray):=by
 have hmem:b∈H.ob:=List.mem_of_getElem? hid;have hother:∀ k,k≠b→(w.setRow b (vs'++ext).toArray).heap[k]?=w.heap[k]?:=fun k hk=>setRow_other w b k _ hk
 have hsize:(w.setRow b (vs'++ext).toArray).heap.size=w.heap.size:=size_setRow w b _;have hBb:=(h.ob_at hmem).1;have e:Ev gl H w H (w.setRow b (vs'++ext).toArray):=by
  refine⟨rfl,rfl,rfl,rfl,rfl,rfl,rfl,by rw [hsize];exact Nat.le_refl _,fun _ _ h=>h,fun _ T h=>⟨T,h,.refl T⟩,fun b' off hp=>?_,fun b' hlt hno=>hother b' (fun e=>hno (e ▸ hmem)),.of_eq rfl,fun b' ds hf=>(hother b' (fun e=>by subst e;rw [hh] at hf;cases hf)).trans hf,fun _ T h hk=>⟨T,h,hk⟩,fun _ hb=>.inl hb⟩
  have hne:b'≠b:=fun e=>hp.2.2.1 (e ▸ hmem)
  exact⟨⟨by rw [hsize];exact hp.1,hp.2⟩,fun s=>World.cell?_of_block (a:=⟨b',off,s⟩) (hother b' hne)⟩
 refine⟨e,⟨by rw [hsize];exact h.B,fun b' o eg=>⟨(h.gl b' o eg).1,(hother b' (fun e=>by rw [e,hBb] at eg;cases eg)).trans (h.gl b' o eg).2⟩,by simp [h.len],fun i b' cs e1 e2=>?_,h.nd,h.tkl,fun t T' ht hvv=>?_,h.tnd,by simp [h.tyl],fun i b' T' c1 e1 e2 e3 hTT=>?_⟩⟩
 ·by_cases hi:i=id
  ·subst hi;have:b'=b:=by rw [hid] at e1;exact (Option.some.inj e1).symm
   subst this;have hl:i < σ.objs.length:=by have:=(List.getElem?_eq_some_iff.1 e2).1;simpa using this
   have:cs=cs':=by
    have e2':(σ.objs.set i cs')[i]?=some cs:=e2;rw [List.getElem?_set_self hl] at e2';exact (Option.some.inj e2').symm
   subst this;exact⟨hBb,vs',ext,T,setRow_heap w b' (vs++ext).toArray _ T _ hh,hr.mono e.mono⟩
  ·have e2':(σ.objs.set id cs')[i]?=some cs:=e2;rw [List.getElem?_set_ne (fun e=>hi e.symm)] at e2'
   obtain⟨hB,vs0,ext0,T0,he,hr0⟩:=h.obj i b' cs e1 e2';have hne:b'≠b:=fun hb=>hi (h.nd i id b' e1 (hb ▸ hid))
   exact⟨hB,vs0,ext0,T0,(hother b' hne).trans he,hr0.mono e.mono⟩
 ·obtain⟨hB,ho,o,he,hr'⟩:=h.tok t T' ht hvv;exact⟨hB,ho,o,(hother _ (fun e=>ho (by rw [e];exact hmem))).trans he,hr'.mono e.mono⟩
 ·by_cases hi:i=id
  ·subst hi;have hbb:b'=b:=by rw [hid] at e1;exact (Option.some.inj e1).symm
   subst hbb;have hl:i < σ.objs.length:=by have:=(List.getElem?_eq_some_iff.1 e3).1;simpa using this
   obtain⟨c0,hc0⟩:∃ c0,σ.objs[i]?=some c0:=⟨_,List.getElem?_eq_getElem hl⟩;obtain⟨us,he,hs⟩:=h.ty i b' T' c0 e1 e2 hc0 hTT;obtain⟨_,vs1,ext1,T1,he1,hr1⟩:=h.obj i b' c0 e1 hc0;rw [he] at hh;simp only [Option.some.injEq,Obj.cells.injEq] at hh;obtain⟨rfl,rfl,_⟩:=hh;have e3':(σ.objs.set i cs')[i]?=some c1:=e3;rw [List.getElem?_set_self hl] at e3';obtain rfl:=Option.some.inj e3';refine⟨_,setRow_heap w b' (vs++ext).toArray _ T' _ he,?_⟩;have h1:=hr.len;simp only [List.size_toArray,List.length_append] at hs ⊢;have h2:=hkeep c0 hc0;omega
  ·have e3':(σ.objs.set id cs')[i]?=some c1:=e3;rw [List.getElem?_set_ne (fun e=>hi e.symm)] at e3'
   obtain⟨us,he,hs⟩:=h.ty i b' T' c1 e1 e2 e3' hTT;have hb:b'≠b:=fun hb=>hi (h.nd i id b' e1 (hb ▸ hid))
   exact⟨us,(hother b' hb).trans he,hs⟩
theorem qTr (h:Ok gl H σ w) {cur:Array Value} {ver cap k:Nat} {e:TypeId} (hk0:k≠0) (hv:ver≤cap) (hc:cap≤maxLen) (hs:cur.size=cap * k) :
  Ev gl H w { H with tk:=H.tk++[⟨w.heap.size,ver,cap,k,e⟩] } (w.alloc (.cells cur e)) ∧
   Ok gl { H with tk:=H.tk++[⟨w.heap.size,ver,cap,k,e⟩] } { σ with toks:=σ.toks++[(ver,k,e)] } (w.alloc (.cells cur e)) ∧
   (H.tk++[(⟨w.heap.size,ver,cap,k,e⟩:Tok)])[σ.toks.length]?=some ⟨w.heap.size,ver,cap,k,e⟩:=by
 have hb:=qa6 w (.cells cur e);have hlen:H.tk.length=σ.toks.length:=by rw [← h.tkl];simp
 have hcase:∀ (t:Nat) (T:Tok),(H.tk++[(⟨w.heap.size,ver,cap,k,e⟩:Tok)])[t]?=some T→H.tk[t]?=some T∨(t=H.tk.length∧T=⟨w.heap.size,ver,cap,k,e⟩):=by
  intro t T ht;by_cases htl:t < H.tk.length
  ·rw [List.getElem?_append_left htl] at ht;exact .inl ht
  ·have hlt:=(List.getElem?_eq_some_iff.1 ht).1;have:t=H.tk.length:=by simp at hlt;omega
   subst this;rw [List.getElem?_append_right (Nat.le_refl _)] at ht;simp at ht;exact .inr ⟨rfl,ht.symm⟩
 have ev:Ev gl H w { H with tk:=H.tk++[⟨w.heap.size,ver,cap,k,e⟩] } (w.alloc (.cells cur e)):=by
  refine⟨rfl,rfl,rfl,rfl,rfl,rfl,rfl,hb.size,fun _ _ h=>h,fun t T ht=>?_,fun b off hp=>?_,fun b hlt _=>hb.block b (Nat.lt_of_lt_of_le hlt h.B),.of_eq rfl,fun b ds hf=>(hb.block b (qak hf)).trans hf,fun t T ht hk=>?_,fun _ hb=>.inl hb⟩
  rotate_left 2
  ·rcases hcase t T ht with ht|⟨_,rfl⟩
   ·exact⟨T,ht,hk⟩
   ·exact absurd hk hk0
  ·refine⟨T,?_,.refl T⟩;show (H.tk++[_])[t]?=some T
   rw [List.getElem?_append_left (List.getElem?_eq_some_iff.1 ht).1];exact ht
  ·refine⟨⟨Nat.lt_of_lt_of_le hp.1 hb.size,hp.2.1,hp.2.2.1,fun T hT hvv hbk=>?_⟩,fun s=>hb.cell (p:=⟨b,off,s⟩) hp.1⟩
   rcases List.mem_append.1 hT with hT|hT
   ·exact hp.2.2.2 T hT hvv hbk
   ·simp at hT;subst hT;have:=hp.1;simp at hbk;omega
 refine⟨ev,⟨Nat.le_trans h.B hb.size,fun b o eg=>⟨(h.gl b o eg).1,(hb.block b (qak (h.gl b o eg).2)).trans (h.gl b o eg).2⟩,h.len,fun id b cs e1 e2=>?_,h.nd,by simp [h.tkl],fun t T ht hvv=>?_,fun t u T U ht hu hvT hvU hbk=>?_,h.tyl,fun id b T' c1 e1 e2 e3 hTT=>?_⟩,?_⟩
 ·obtain⟨hB,vs,ext,T,he,hr⟩:=h.obj id b cs e1 e2;exact⟨hB,vs,ext,T,(hb.block b (qak he)).trans he,hr.mono ev.mono⟩
 ·rcases hcase t T ht with ht|⟨_,rfl⟩
  ·obtain⟨hB,ho,o,he,hr⟩:=h.tok t T ht hvv;exact⟨hB,ho,o,(hb.block _ (qak he)).trans he,hr.mono ev.mono⟩
  ·exact⟨h.B,fun hm=>Nat.lt_irrefl _ (h.ob_at hm).2,_,heap_alloc_new w _,.inl ⟨hk0,cur,(0,0),rfl,fun _=>⟨rfl,hv⟩,hc,hs⟩⟩
 ·rcases hcase t T ht with ht|⟨h1,rfl⟩<;>rcases hcase u U hu with hu|⟨h2,rfl⟩
  ·exact h.tnd t u T U ht hu hvT hvU hbk
  ·have:=(h.tk_at (List.mem_of_getElem? ht) hvT).2;simp at hbk;omega
  ·have:=(h.tk_at (List.mem_of_getElem? hu) hvU).2;simp at hbk;omega
  ·rw [h1,h2]
 ·obtain⟨us,he,hs⟩:=h.ty id b T' c1 e1 e2 e3 hTT;exact⟨us,(hb.block b (qak he)).trans he,hs⟩
 ·rw [← hlen,List.getElem?_append_right (Nat.le_refl _)];simp
theorem qIz (h:Ok gl H σ w) {t:Nat} {T T':Tok} (ht:H.tk[t]?=some T) (hvr:T.ver≠0) (hk0:T.k≠0) (hk:T'.k=T.k) (hv:T.ver < T'.ver) (hc:T'.cap≤maxLen)
  (hd:Dr gl w w') (hos:w'.os=w.os) (htape:w'.tape=w.tape) (hout:w'.output=w.output) (hsize:w.heap.size≤w'.heap.size)
  (hblk:T'.blk=T.blk∨w.heap.size≤T'.blk)
  (hsame:∀ k,k < w.heap.size→k≠T'.blk→w'.heap[k]?=w.heap[k]?)
  {cur cur':Array Value} {fz fz':Nat×Nat} (hfz:T'.ver≤maxLen→fz'=(0,0)∧T'.ver≤T'.cap) (hold:w.heap[T.blk]?=some (.cells cur T.e fz)) (hnew:w'.heap[T'.blk]?=some (.cells cur' T'.e fz')) (hcur:cur'.size=T'.cap * T'.k)
  (hcells:T'.blk=T.blk→∀ off,off < T.ver * T.k→cur'[off]?=cur[off]?) :
  Ev gl H w { H with tk:=H.tk.set t T' } w'∧Ok gl { H with tk:=H.tk.set t T' } { σ with toks:=σ.toks.set t (T'.ver,T'.k,T'.e) } w':=by
 have hmem:T∈H.tk:=List.mem_of_getElem? ht;have htl:t < H.tk.length:=(List.getElem?_eq_some_iff.1 ht).1;have hnv:¬ T.vir:=fun hh=>hvr hh.1
 have hTB:=h.tk_at hmem hnv;have hBT':H.B≤T'.blk:=by
  rcases hblk with hb|hb
  ·rw [hb];exact hTB.1
  ·exact Nat.le_trans h.B hb
 have hnob:T'.blk∉H.ob:=by
  rcases hblk with hb|hb
  ·rw [hb];exact (h.tok t T ht hnv).2.1
  ·intro hm;have:=(h.ob_at hm).2;omega
 have hcase:∀ (u:Nat) (U:Tok),(H.tk.set t T')[u]?=some U→(u=t∧U=T')∨(u≠t∧H.tk[u]?=some U):=by
  intro u U hu;by_cases hut:u=t
  ·subst hut;rw [List.getElem?_set_self htl] at hu;exact .inl ⟨rfl,(Option.some.inj hu).symm⟩
  ·rw [List.getElem?_set_ne (fun e=>hut e.symm)] at hu
   exact .inr ⟨hut,hu⟩
 have ev:Ev gl H w { H with tk:=H.tk.set t T' } w':=by
  refine⟨rfl,rfl,rfl,rfl,hos,htape,hout,hsize,fun _ _ h=>h,fun u U hu=>?_,fun b off hp=>?_,fun b hlt _=>hsame b (Nat.lt_of_lt_of_le hlt h.B) (fun e=>by omega),hd,fun b ds hf=>(hsame b (qak hf) (fun e=>?_)).trans hf,fun u U hu hk'=>?_,fun _ hb=>.inl hb⟩
  ·by_cases hut:u=t
   ·subst hut;have:U=T:=by rw [ht] at hu;exact (Option.some.inj hu).symm
    subst this;refine⟨T',List.getElem?_set_self htl,fun _=>⟨Nat.le_of_lt hv,fun e=>by omega,by rw [hk];exact hk0⟩,fun e=>absurd e hk0⟩
   ·exact⟨U,by show (H.tk.set t T')[u]?=some U;rw [List.getElem?_set_ne (fun e=>hut e.symm)];exact hu,.refl U⟩
  ·have hoff:T.blk=b→off < T.ver * T.k:=hp.2.2.2 T hmem hnv;refine⟨⟨Nat.lt_of_lt_of_le hp.1 hsize,hp.2.1,hp.2.2.1,fun U hU hvU hbk=>?_⟩,fun s=>?_⟩
   ·obtain⟨u,hu⟩:=List.mem_iff_getElem?.1 hU;rcases hcase u U hu with⟨_,rfl⟩|⟨_,hu⟩
    ·rcases hblk with hb|hb
     ·have:=hoff (hb.symm.trans hbk);rw [hk];exact Nat.lt_of_lt_of_le this (Nat.mul_le_mul_right _ (Nat.le_of_lt hv))
     ·have:=hp.1;omega
    ·exact hp.2.2.2 U (List.mem_of_getElem? hu) hvU hbk
   ·by_cases hbb:b=T'.blk
    ·rcases hblk with hb|hb
     ·have hlt:=hoff (hb.symm.trans hbb.symm);have h1:=hcells hb off hlt;subst hbb;rw [hb] at hnew ⊢;simp only [World.cell?,hnew,hold];split
      ·rfl
      ·exact h1
     ·have:=hp.1;omega
    ·exact World.cell?_of_block (a:=⟨b,off,s⟩) (hsame b hp.1 hbb)
  ·subst e;rcases hblk with hb|hb
   ·rw [hb,hold] at hf;cases hf
   ·have:=qak hf;omega
  ·rcases hcase u U hu with⟨_,rfl⟩|⟨_,hu⟩
   ·exact absurd (hk.symm.trans hk') hk0
   ·exact⟨U,hu,hk'⟩
 refine⟨ev,⟨Nat.le_trans h.B hsize,fun b o eg=>⟨(h.gl b o eg).1,(hsame b (qak (h.gl b o eg).2) (fun e=>by have:=(h.gl b o eg).1;omega)).trans (h.gl b o eg).2⟩,h.len,fun id b cs e1 e2=>?_,h.nd,?_,fun u U hu hvU=>?_,fun u v U V hu hv hvU hvV hbk=>?_,h.tyl,fun id b T0 c1 e1 e2 e3 hTT=>?_⟩⟩
 ·obtain⟨hB,vs,ext,T0,he0,hr⟩:=h.obj id b cs e1 e2;exact⟨hB,vs,ext,T0,(hsame b (qak he0) (fun e=>hnob (e ▸ List.mem_of_getElem? e1))).trans he0,hr.mono ev.mono⟩
 ·show (H.tk.set t T').map _=σ.toks.set t _
  rw [List.map_set,h.tkl]
 ·rcases hcase u U hu with⟨_,rfl⟩|⟨hut,hu⟩
  ·exact⟨hBT',hnob,_,hnew,.inl ⟨by rw [hk];exact hk0,cur',fz',rfl,hfz,hc,hcur⟩⟩
  ·obtain⟨hB,ho,o0,he0,hr⟩:=h.tok u U hu hvU;refine⟨hB,ho,o0,(hsame _ (qak he0) (fun e=>?_)).trans he0,hr.mono ev.mono⟩
   rcases hblk with hb|hb
   ·exact hut (h.tnd u t U T hu ht hvU hnv (e.trans hb))
   ·have:=qak he0;omega
 ·rcases hcase u U hu with⟨h1,rfl⟩|⟨h1,hu'⟩<;>rcases hcase v V hv with⟨h2,rfl⟩|⟨h2,hv'⟩
  ·rw [h1,h2]
  ·rcases hblk with hb|hb
   ·exact absurd (h.tnd v t V T hv' ht hvV hnv (hbk.symm.trans hb)) h2
   ·have:=(h.tk_at (List.mem_of_getElem? hv') hvV).2;omega
  ·rcases hblk with hb|hb
   ·exact absurd (h.tnd u t U T hu' ht hvU hnv (hbk.trans hb)) h1
   ·have:=(h.tk_at (List.mem_of_getElem? hu') hvU).2;omega
  ·exact h.tnd u v U V hu' hv' hvU hvV hbk
 ·obtain⟨us,he,hs⟩:=h.ty id b T0 c1 e1 e2 e3 hTT;exact⟨us,(hsame b (qak he) (fun e=>hnob (e ▸ List.mem_of_getElem? e1))).trans he,hs⟩
theorem qN1 (h:Ok gl H σ w) {t:Nat} {T T':Tok} (ht:H.tk[t]?=some T) (hvr:T.ver≠0) (hk0:T.k≠0) (hk:T'.k=T.k) (hv:T.ver < T'.ver) (hvc:T'.ver≤T'.cap) (hc:T'.cap≤maxLen)
  (hd:Dr gl w w') (hos:w'.os=w.os) (htape:w'.tape=w.tape) (hout:w'.output=w.output) (hsize:w.heap.size≤w'.heap.size)
  (hblk:T'.blk=T.blk∨w.heap.size≤T'.blk)
  (hsame:∀ k,k < w.heap.size→k≠T'.blk→w'.heap[k]?=w.heap[k]?)
  {cur cur':Array Value} (hold:w.heap[T.blk]?=some (.cells cur T.e (0,0))) (hnew:w'.heap[T'.blk]?=some (.cells cur' T'.e (0,0))) (hcur:cur'.size=T'.cap * T'.k)
  (hcells:T'.blk=T.blk→∀ off,off < T.ver * T.k→cur'[off]?=cur[off]?) :
  Ev gl H w { H with tk:=H.tk.set t T' } w'∧Ok gl { H with tk:=H.tk.set t T' } { σ with toks:=σ.toks.set t (T'.ver,T'.k,T'.e) } w' :=
 qIz h ht hvr hk0 hk hv hc hd hos htape hout hsize hblk hsame (fun _=>⟨rfl,hvc⟩) hold hnew hcur hcells
theorem qTw (h:Ok gl H σ w) {k:Nat} (hk:k≠0) (e:TypeId) :
  Ev gl H w { H with tk:=H.tk++[⟨0,0,0,k,e⟩] } w∧Ok gl { H with tk:=H.tk++[⟨0,0,0,k,e⟩] } { σ with toks:=σ.toks++[(0,k,e)] } w ∧
   (H.tk++[(⟨0,0,0,k,e⟩:Tok)])[σ.toks.length]?=some ⟨0,0,0,k,e⟩:=by
 have hlen:H.tk.length=σ.toks.length:=by rw [← h.tkl];simp
 have hvir:(⟨0,0,0,k,e⟩:Tok).vir:=⟨rfl,hk⟩;have hcase:∀ (t:Nat) (T:Tok),(H.tk++[(⟨0,0,0,k,e⟩:Tok)])[t]?=some T→H.tk[t]?=some T∨(t=H.tk.length∧T=⟨0,0,0,k,e⟩):=by
  intro t T ht;by_cases htl:t < H.tk.length
  ·rw [List.getElem?_append_left htl] at ht;exact .inl ht
  ·have hlt:=(List.getElem?_eq_some_iff.1 ht).1;have:t=H.tk.length:=by simp at hlt;omega
   subst this;rw [List.getElem?_append_right (Nat.le_refl _)] at ht;simp at ht;exact .inr ⟨rfl,ht.symm⟩
 have ev:Ev gl H w { H with tk:=H.tk++[⟨0,0,0,k,e⟩] } w:=by
  refine⟨rfl,rfl,rfl,rfl,rfl,rfl,rfl,Nat.le_refl _,fun _ _ h=>h,fun t T ht=>?_,fun b off hp=>?_,fun b _ _=>rfl,.of_eq rfl,fun b ds hf=>hf,fun t T ht hk'=>?_,fun _ hb=>.inl hb⟩
  ·refine⟨T,?_,.refl T⟩;show (H.tk++[_])[t]?=some T
   rw [List.getElem?_append_left (List.getElem?_eq_some_iff.1 ht).1];exact ht
  ·refine⟨⟨hp.1,hp.2.1,hp.2.2.1,fun T hT hvv hbk=>?_⟩,fun s=>rfl⟩
   rcases List.mem_append.1 hT with hT|hT
   ·exact hp.2.2.2 T hT hvv hbk
   ·simp at hT;subst hT;exact absurd hvir hvv
  ·rcases hcase t T ht with ht|⟨_,rfl⟩
   ·exact⟨T,ht,hk'⟩
   ·exact absurd hk' hk
 refine⟨ev,⟨h.B,h.gl,h.len,fun id b cs e1 e2=>?_,h.nd,by simp [h.tkl],fun t T ht hvv=>?_,fun t u T U ht hu hvT hvU hbk=>?_,h.tyl,h.ty⟩,?_⟩
 ·obtain⟨hB,vs,ext,T,he,hr⟩:=h.obj id b cs e1 e2;exact⟨hB,vs,ext,T,he,hr.mono ev.mono⟩
 ·rcases hcase t T ht with ht|⟨_,rfl⟩
  ·obtain⟨hB,ho,o,he,hr⟩:=h.tok t T ht hvv;exact⟨hB,ho,o,he,hr.mono ev.mono⟩
  ·exact absurd hvir hvv
 ·rcases hcase t T ht with ht|⟨h1,rfl⟩
  ·rcases hcase u U hu with hu|⟨h2,rfl⟩
   ·exact h.tnd t u T U ht hu hvT hvU hbk
   ·exact absurd hvir hvU
  ·exact absurd hvir hvT
 ·rw [← hlen,List.getElem?_append_right (Nat.le_refl _)];simp
theorem qSn (h:Ok gl H σ w) {t:Nat} {T:Tok} (ht:H.tk[t]?=some T) (hT:T.vir) {cur:Array Value} {ver cap k:Nat} {e:TypeId} (hk0:k≠0) (hv0:ver≠0) (hv:ver≤cap) (hc:cap≤maxLen) (hs:cur.size=cap * k) :
  Ev gl H w { H with tk:=H.tk.set t ⟨w.heap.size,ver,cap,k,e⟩ } (w.alloc (.cells cur e)) ∧
   Ok gl { H with tk:=H.tk.set t ⟨w.heap.size,ver,cap,k,e⟩ } { σ with toks:=σ.toks.set t (ver,k,e) } (w.alloc (.cells cur e)):=by
 have hb:=qa6 w (.cells cur e);have htl:t < H.tk.length:=(List.getElem?_eq_some_iff.1 ht).1;have hcase:∀ (u:Nat) (U:Tok),(H.tk.set t ⟨w.heap.size,ver,cap,k,e⟩)[u]?=some U→(u=t∧U=⟨w.heap.size,ver,cap,k,e⟩)∨(u≠t∧H.tk[u]?=some U):=by
  intro u U hu;by_cases hut:u=t
  ·subst hut;rw [List.getElem?_set_self htl] at hu;exact .inl ⟨rfl,(Option.some.inj hu).symm⟩
  ·rw [List.getElem?_set_ne (fun e=>hut e.symm)] at hu
   exact .inr ⟨hut,hu⟩
 have ev:Ev gl H w { H with tk:=H.tk.set t ⟨w.heap.size,ver,cap,k,e⟩ } (w.alloc (.cells cur e)):=by
  refine⟨rfl,rfl,rfl,rfl,rfl,rfl,rfl,hb.size,fun _ _ h=>h,fun u U hu=>?_,fun b off hp=>?_,fun b hlt _=>hb.block b (Nat.lt_of_lt_of_le hlt h.B),.of_eq rfl,fun b ds hf=>(hb.block b (qak hf)).trans hf,fun u U hu hk'=>?_,fun _ hb=>.inl hb⟩
  ·by_cases hut:u=t
   ·subst hut;have:U=T:=by rw [ht] at hu;exact (Option.some.inj hu).symm
    subst this;refine⟨_,List.getElem?_set_self htl,fun _=>⟨by rw [hT.1];exact Nat.zero_le _,fun e=>absurd (hT.1.symm.trans e).symm hv0,hk0⟩,fun e=>absurd e hT.2⟩
   ·exact⟨U,by show (H.tk.set t _)[u]?=some U;rw [List.getElem?_set_ne (fun e=>hut e.symm)];exact hu,.refl U⟩
  ·refine⟨⟨Nat.lt_of_lt_of_le hp.1 hb.size,hp.2.1,hp.2.2.1,fun U hU hvU hbk=>?_⟩,fun s=>hb.cell (p:=⟨b,off,s⟩) hp.1⟩
   obtain⟨u,hu⟩:=List.mem_iff_getElem?.1 hU;rcases hcase u U hu with⟨_,rfl⟩|⟨_,hu⟩
   ·have:=hp.1;simp at hbk;omega
   ·exact hp.2.2.2 U (List.mem_of_getElem? hu) hvU hbk
  ·rcases hcase u U hu with⟨_,rfl⟩|⟨_,hu⟩
   ·exact absurd hk' hk0
   ·exact⟨U,hu,hk'⟩
 refine⟨ev,⟨Nat.le_trans h.B hb.size,fun b o eg=>⟨(h.gl b o eg).1,(hb.block b (qak (h.gl b o eg).2)).trans (h.gl b o eg).2⟩,h.len,fun id b cs e1 e2=>?_,h.nd,?_,fun u U hu hvU=>?_,fun u v U V hu hv hvU hvV hbk=>?_,h.tyl,fun id b T' c1 e1 e2 e3 hTT=>?_⟩⟩
 ·obtain⟨hB,vs,ext,T0,he0,hr⟩:=h.obj id b cs e1 e2;exact⟨hB,vs,ext,T0,(hb.block b (qak he0)).trans he0,hr.mono ev.mono⟩
 ·show (H.tk.set t _).map _=σ.toks.set t _
  rw [List.map_set,h.tkl]
 ·rcases hcase u U hu with⟨_,rfl⟩|⟨_,hu⟩
  ·exact⟨h.B,fun hm=>Nat.lt_irrefl _ (h.ob_at hm).2,_,heap_alloc_new w _,.inl ⟨hk0,cur,(0,0),rfl,fun _=>⟨rfl,hv⟩,hc,hs⟩⟩
  ·obtain⟨hB,ho,o0,he0,hr⟩:=h.tok u U hu hvU;exact⟨hB,ho,o0,(hb.block _ (qak he0)).trans he0,hr.mono ev.mono⟩
 ·rcases hcase u U hu with⟨h1,rfl⟩|⟨h1,hu'⟩<;>rcases hcase v V hv with⟨h2,rfl⟩|⟨h2,hv'⟩
  ·rw [h1,h2]
  ·have:=(h.tk_at (List.mem_of_getElem? hv') hvV).2;simp at hbk;omega
  ·have:=(h.tk_at (List.mem_of_getElem? hu') hvU).2;simp at hbk;omega
  ·exact h.tnd u v U V hu' hv' hvU hvV hbk
 ·obtain⟨us,he,hs⟩:=h.ty id b T' c1 e1 e2 e3 hTT;exact⟨us,(hb.block b (qak he)).trans he,hs⟩
end
end Go.Pv
set_option linter.unusedSimpArgs false
set_option linter.unusedVariables false
namespace Go.Pv
open Go.RowKit
def rnd (r:Option Nat):Fence:={ Fence.wide with round:=r }
theorem qsT (r:Option Nat) (n:Nat):(rnd r).room n:=room_wide n
theorem qnP {r:Option Nat} {n:Nat} {P:Program} {f:FuncId} {args:Array Value} {w:World} {R:Ending→World→Prop} (h:Calls P f args w R):CallsIn (rnd r) n P f args w R :=
 callsIn_wide.2 h
theorem qpH {r:Option Nat} {n:Nat} {P:Program} {f:FuncId} {args:Array Value} {w:World} {R:Ending→World→Prop} (h:CallsIn (rnd r) n P f args w R):Calls P f args w R :=
 callsIn_wide.1 h
theorem qkf {r:Option Nat} {ρ:Operand→Value} {o:Oper} {P:Program} {w w':World} {x:Next} (h:(execOp ρ o).run P w=.ok x w') (hx:∀ d,x≠.defer d):(o.semAt r ρ).run P w=.ok x w':=by
 rw [Oper.semAt_eq r ρ o fun c e=>?_]
 ·exact h
 ·unfold execOp at h
  rw [e] at h
  simp only [Sem.run_bind] at h
  generalize Sem.run P (resolve ρ c o.type) w=q at h
  cases q with
  |ok d w1 =>
   simp only [Result.andThen_ok,Sem.run_pure] at h
   cases h
   exact hx _ rfl
  |halt e w1=>simp [Result.andThen] at h
def RunsTo (P:Program) (o:Oper) (a:Act) (w:World) (R:Value→World→Prop):Prop :=
 ∀ (r:Option Nat) (n:Nat) (next:Act→World→Prop) (Q:Exit→Act→World→Prop),(∀ v w',R v w'→next (a.put o.dst v) w')→o.wpIn (rnd r) n P a w next Q
section
variable {P : Program} {o : Oper} {a : Act} {w w' : World} {R : Value → World → Prop}
def PansTo (P:Program) (o:Oper) (a:Act) (w:World) (v:Value) (R:World→Prop):Prop :=
 ∀ (r:Option Nat) (n:Nat) (next:Act→World→Prop) (Q:Exit→Act→World→Prop),(∀ w',R w'→Q (.panic [{ v,recovered:=false }]) a w')→o.wpIn (rnd r) n P a w next Q
theorem RunsTo.value {v:Value} (h:(execOp a.eval o).run P w=.ok (.value v) w') (hR:R v w'):RunsTo P o a w R:=by
 intro r n next Q hn;refine⟨fun _ _=>trivial,?_⟩
 rw [show (rnd r).round=r from rfl,qkf h (fun _ e=>by cases e)]
 exact hn v w' hR
theorem RunsTo.skip (h:(execOp a.eval o).run P w=.ok .skip w') (hR:R undef w'):RunsTo P o a w R:=by
 intro r n next Q hn;refine⟨fun _ _=>trivial,?_⟩
 rw [show (rnd r).round=r from rfl,qkf h (fun _ e=>by cases e)]
 exact hn _ w' hR
theorem RunsTo.enter {f:FuncId} {args:Array Value} (h:(execOp a.eval o).run P w=.ok (.enter f args) w')
  (hc:Calls P f args w' fun e w''=>∃ v,e=.returned v∧R v w''):RunsTo P o a w R:=by
 intro r n next Q hn;refine⟨fun _ _=>trivial,?_⟩
 rw [show (rnd r).round=r from rfl,qkf h (fun _ e=>by cases e)]
 have hc':=qnP (r:=r) (n:=n - 1) hc;refine⟨(fun h=>by cases h),hc'.mono fun e w'' he=>?_⟩
 obtain⟨v,he,hr⟩:=he;subst he;exact hn v w'' hr
end
def Post (gl:Gl) (H:Gh) (w:World) (x:PV) (σ':Store) (v:Value) (w':World):Prop:=∃ H',Ev gl H w H' w'∧Ok gl H' σ' w'∧Rel H' w' x v
theorem Post.same {gl:Gl} {H:Gh} {w:World} {x:PV} {σ:Store} {v:Value} (hok:Ok gl H σ w) (h:Rel H w x v):Post gl H w x σ v w:=⟨H,Ev.refl H w,hok,h⟩
theorem Post.below {gl:Gl} {H:Gh} {w w':World} {x:PV} {σ:Store} {v:Value} (hok:Ok gl H σ w) (hb:Below w.heap.size w w') (hd:Dr gl w w') (h:Rel H w' x v):Post gl H w x σ v w':=⟨H,Ev.of_below hok.B hb hd,hok.of_below hb,h⟩
section
variable {P : Program} {H : Gh} {w : World}
theorem qSG {k:IntKind} {a:Int} (b:Int) (h:(Lit.int k a).wf=true):(Lit.int k (a.tmod b)).wf=true:=by
 have h1:(a.tmod b).natAbs≤a.natAbs:=by rw [Int.natAbs_tmod];exact Nat.mod_le _ _
 have h2:0≤a→0≤a.tmod b:=fun h=>Int.tmod_nonneg b h
 have h3:a≤0→a.tmod b≤0:=fun h=>by
  have:=Int.tmod_nonneg b (a:=-a) (by omega)
  rw [Int.neg_tmod] at this;omega
 cases k<;>simp [Lit.wf,IntKind.min,IntKind.max,IntKind.signed,IntKind.bits] at h ⊢<;>omega
theorem qSB {k:IntKind} {a:Int} (n:Nat) (h:(Lit.int k a).wf=true):(Lit.int k (a.fdiv (2 ^ n))).wf=true:=by
 have hp:(0:Int) < 2 ^ n:=Int.pow_pos (by decide)
 rw [Int.fdiv_eq_ediv_of_nonneg _ (Int.le_of_lt hp)];have h1:0≤a→0≤a / 2 ^ n:=fun h=>Int.ediv_nonneg h (Int.le_of_lt hp)
 have h2:0≤a→a / 2 ^ n≤a:=fun h=>Int.ediv_le_self _ h
 have h3:a≤0→a≤a / 2 ^ n:=fun h=>by
  refine (Int.le_ediv_iff_mul_le hp).2 ?_;have:a * 2 ^ n≤a * 1:=Int.mul_le_mul_of_nonpos_left h (by omega)
  omega
 have h4:a≤0→a / 2 ^ n≤0:=fun h=>by
  have:a / 2 ^ n < 1:=(Int.ediv_lt_iff_lt_mul hp).2 (by omega)
  omega
 cases k<;>simp [Lit.wf,IntKind.min,IntKind.max,IntKind.signed,IntKind.bits] at h ⊢<;>omega
theorem qOT {op : BinOp} {k : IntKind} {m n : Int} {x : PV} (h : pint op k m n = some x) (hwf : (Lit.int k m).wf = true) (t : TypeId) (hm : op ≠ .shl) (hm2 : op ≠ .shr) :
    ∃ v, (binOp op t (.int k m) (.int k n)).run P w = .ok v w ∧ Rel H w x v := by
  unfold pint at h
  cases op <;> simp only [Option.some.injEq, reduceCtorEq] at h <;> first
    | exact absurd rfl hm
    | exact absurd rfl hm2
    | (subst h; exact ⟨_, by simp [binOp, Op.intArith, Op.intBits, Op.intCmp], .int _ _ (wf_wrap _ _)⟩)
    | (subst h; exact ⟨_, by simp [binOp, Op.intArith, Op.intBits, Op.intCmp], .bool _⟩)
    | (split at h
       · cases h
       · rename_i hz
         first
           | (simp only [Option.some.injEq] at h; subst h; exact ⟨_, by simp [binOp, Op.intDiv, hz], .int _ _ (wf_wrap _ _)⟩)
           | (simp only [Option.some.injEq] at h; subst h; exact ⟨_, by simp [binOp, Op.intDiv, hz], .int _ _ (qSG _ hwf)⟩))
theorem qO9 {op:BinOp} {l m:List UInt8} {x:PV} (h:pstr op l m=some x) (t:TypeId) :
  ∃ v,(binOp op t (.string ⟨l.toArray⟩) (.string ⟨m.toArray⟩)).run P w=.ok v w∧Rel H w x v:=by
 unfold pstr at h
 cases op<;>simp only [Option.some.injEq,reduceCtorEq] at h
 case add =>
  split at h
  ·rename_i hl;simp only [Option.some.injEq] at h
   subst h;have hn:(l.length:Int)+(m.length:Int)≤9223372036854775807:=by unfold maxLen at hl;omega
   refine⟨.string ⟨(l++m).toArray⟩,?_,.str _ (by simpa using hl)⟩
   have e1:(ByteArray.mk l.toArray).size=l.length:=by simp [ByteArray.size]
   have e2:(ByteArray.mk m.toArray).size=m.length:=by simp [ByteArray.size]
   have e3:(ByteArray.mk l.toArray)++(ByteArray.mk m.toArray)=ByteArray.mk (l++m).toArray:=by
    apply ByteArray.ext;simp
   simp only [binOp,Op.stringOp,e1,e2,e3,IntKind.max,IntKind.signed,IntKind.bits];simp [hn]
  ·cases h
 all_goals
  subst h;exact⟨_,by simp [binOp,Op.stringOp],.bool _⟩
end
end Go.Pv
set_option linter.unusedSimpArgs false
set_option linter.unusedVariables false
namespace Go.Pv
open Go.RowKit
def qaN (P:Program) (tb:Tab):Prop:=∀ t K,tb t=some K→tkOf P t=some K
theorem qbJ (g o j:Nat):(⟨g,o,none⟩:Addr).add j=⟨g,o+j,none⟩:=by
 unfold Addr.add;split
 ·rename_i h;subst h;rfl
 ·rfl
theorem qra (a:Addr) (i j:Nat):(a.add i).add j=a.add (i+j):=by
 unfold Addr.add;by_cases hi:i=0
 ·subst hi;simp
 ·by_cases hj:j=0
  ·subst hj;simp
  ·have:¬ (i+j=0):=by omega
   simp [hi,hj,Nat.add_assoc]
section
variable {P : Program} {tb : Tab} {H : Gh} {w : World}
theorem qaO {t:TypeId} {K:TK} (h:tkOf P t=some K) (w:World):(sizeOf t).run P w=.ok K.size w:=by
 obtain⟨i,z,hi,hz,hs,_⟩:=qgW h;simp [sizeOf,typeInfo,hi,hs]
theorem qjE {t:TypeId} {K:TK} (h:tkOf P t=some K):∃ z,K.zero=z.cells.toList.map qr6∧∀ w,(zeroValue t).run P w=.ok z w:=by
 obtain⟨i,z,hi,hz,hs,hb,hzz,_⟩:=qgW h;exact⟨z,hzz,fun w=>by simp [zeroValue,typeInfo,hi,hz]⟩
theorem qIn {K:KD} (h:K.known=true):K≠.other:=by
 intro e;subst e;cases h
theorem qts {t:TypeId} {K:TK} (hK:tkOf P t=some K) {xs:List PV} {vs:List Value} (h:RelL H w xs vs) {off:Nat} {x:PV} (hx:pload K xs off=some x) (w1:World) :
  ∃ v,(part t vs.toArray off).run P w1=.ok v w1∧Rel H w x v:=by
 obtain⟨i,z,hi,hz,hs,hb,hzz,hkd⟩:=qgW hK;unfold pload at hx;split at hx
 ·rename_i hkn;have hag:=qr3 (P:=P) (t:=t) w1 hkd.symm (qIn hkn);have hsz:=qaO hK w1;split at hx
  ·rename_i ha;split at hx
   ·simp only [Option.some.injEq] at hx;subst hx;rw [ha] at hag;refine⟨.agg ((vs.drop off).take K.size).toArray,?_,.agg _ _ ((h.drop off).take K.size)⟩;simp [part,hag,hsz]
   ·cases hx
  ·rename_i ha;have ha':K.kd.isAgg=false:=by simpa using ha
   rw [ha'] at hag;obtain⟨v,hv,hr⟩:=h.get hx;refine⟨v,?_,hr⟩;have:vs.toArray[off]?=some v:=by simpa using hv
   simp [part,hag,this]
 ·cases hx
theorem qnh {t:TypeId} {K:TK} (hK:tkOf P t=some K) {xs:List PV} {vs:List Value} (h:RelL H w xs vs) {off:Nat} {x:PV} (hx:pload K xs off=some x) {a:Addr} {w1:World}
  (hc:∀ j v,vs[off+j]?=some v→w1.cell? (a.add j)=some v):∃ v,(loadVar t a).run P w1=.ok v w1∧Rel H w x v:=by
 obtain⟨i,z,hi,hz,hs,hb,hzz,hkd⟩:=qgW hK;unfold pload at hx;split at hx
 ·rename_i hkn;have hag:=qr3 (P:=P) (t:=t) w1 hkd.symm (qIn hkn);have hsz:=qaO hK w1;split at hx
  ·rename_i ha;split at hx
   ·rename_i hle;simp only [Option.some.injEq] at hx;subst hx;rw [ha] at hag;have hlen:((vs.drop off).take K.size).length=K.size:=by
     have:=h.len;simp;omega
    have hl:=run_loadCells_list (P:=P) w1 a ((vs.drop off).take K.size) (fun j v hj=>hc j v (by
     rw [List.getElem?_take] at hj;split at hj
     ·rw [List.getElem?_drop] at hj;exact hj
     ·cases hj))
    rw [hlen] at hl;refine⟨.agg ((vs.drop off).take K.size).toArray,?_,.agg _ _ ((h.drop off).take K.size)⟩;simp [loadVar,hag,hsz,hl]
   ·cases hx
  ·rename_i ha;have ha':K.kd.isAgg=false:=by simpa using ha
   rw [ha'] at hag;obtain⟨v,hv,hr⟩:=h.get hx;refine⟨v,?_,hr⟩;have h0:=hc 0 v (by simpa using hv)
   have ha0:a.add 0=a:=by simp [Addr.add]
   rw [ha0] at h0;simp [loadVar,hag,h0]
 ·cases hx
theorem qOO (hT:qaN P tb) {d:Nat} {f:TypeId→PV→PV→Option Bool} (hf:∀ t x y b,f t x y=some b→∀ v u,Rel H w x v→Rel H w y u→∀ w1,(Op.equalIn d t v u).run P w1=.ok b w1)
  {xs ys:List PV} {vs us:List Value} (hx:RelL H w xs vs) (hy:RelL H w ys us) (w1:World) :
  ∀ (fs : List Field) (b : Bool), qD4 tb f xs ys (fs.map fun f => (f.offset, f.type, f.name != "_")) = some b → (Op.eqFields d vs.toArray us.toArray fs).run P w1 = .ok b w1 := by
 intro fs
 induction fs with
 |nil =>
  intro b h;simp only [List.map_nil,qD4,Option.some.injEq] at h
  subst h;simp [Op.eqFields]
 |cons g fs ih =>
  intro b h;simp only [List.map_cons,qD4] at h
  by_cases hn : g.name = "_"
  ·have hn' : (g.name != "_") = false := by simp [hn]
   rw [hn'] at h
   simp only [Bool.false_eq_true,if_false] at h
   simp only [Op.eqFields,hn,ne_eq,not_true_eq_false,if_false];exact ih b h
  ·have hn' : (g.name != "_") = true := by simp [hn]
   rw [hn'] at h
   simp only [if_true] at h
   cases hK:tb g.type with
   |none=>simp [hK] at h
   |some K =>
    simp only [hK] at h
    cases h1:pload K xs g.offset with
    |none=>simp [h1] at h
    |some x =>
     cases h2:pload K ys g.offset with
     |none=>simp [h1,h2] at h
     |some y =>
      simp only [h1,h2] at h
      obtain⟨v,hv,rv⟩:=qts (hT _ _ hK) hx h1 w1;obtain⟨u,hu,ru⟩:=qts (hT _ _ hK) hy h2 w1;cases h3:f g.type x y with
      |none=>simp [h3] at h
      |some c =>
       have hq:=hf _ _ _ _ h3 v u rv ru w1;simp only [Op.eqFields,hn,ne_eq,not_false_eq_true,if_true,Sem.run_bind,hv,hu,hq,Result.andThen_ok];cases c with
       |false =>
        simp only [h3,Option.some.injEq] at h
        subst h;simp
       |true =>
        simp only [h3] at h
        simp only [Bool.not_true,Bool.false_eq_true,if_false];exact ih b h
theorem qRV (hT:qaN P tb):∀ (d:Nat) (t:TypeId) (x y:PV) (b:Bool),peq tb d t x y=some b→∀ v u,Rel H w x v→Rel H w y u→∀ D,d≤D→∀ w1,(Op.equalIn D t v u).run P w1=.ok b w1:=by
 intro d
 induction d with
 |zero=>intro t x y b h;simp [peq] at h
 |succ d ih =>
  intro t x y b h v u hv hu D hD w1;obtain⟨D,rfl⟩:∃ m,D=m+1:=⟨D - 1,by omega⟩
  unfold peq at h
  cases hK:tb t with
  |none=>simp [hK] at h
  |some K =>
   obtain⟨i,z,hi,hz,hs,hb,hzz,hkd⟩:=qgW (hT _ _ hK);simp only [hK] at h
   split at h
   ·rename_i hk;split at h
    ·rename_i hkk;subst hkk;simp only [Option.some.injEq] at h
     subst h;cases hv;cases hu
     exact run_equalIn_int w1 D t _ _ _ _ (qyj (hkd.symm.trans hk))
    ·cases h
   ·rename_i hk;simp only [Option.some.injEq] at h
    subst h;cases hv;cases hu
    exact run_equalIn_bool' w1 D t _ _ (qNT (hkd.symm.trans hk))
   ·rename_i hk;simp only [Option.some.injEq] at h
    subst h;cases hv;cases hu
    rw [run_equalIn_string w1 D t _ _ (qmD (hkd.symm.trans hk))];simp
   ·rename_i fs held guard xs ys hk;split at h
    ·cases h
    ·rename_i hheld;obtain⟨fields,hu1,rfl,hheld1,_⟩:=qyl (hkd.symm.trans hk);cases hv with
     |agg _ vs hvs =>
      cases hu with
      |agg _ us hus =>
       have hfo:P.fieldsOf t=fields:=by simp [Program.fieldsOf,hu1]
       have hst:P.stoodInHeld t=false:=by rw [← hheld1];simpa using hheld
       rw [run_equalIn_struct w1 D t vs.toArray us.toArray (by rw [hfo];exact hu1) hst,hfo]
       exact qOO hT (fun t x y b hq v u hv hu w2=>ih t x y b hq v u hv hu D (by omega) w2) hvs hus w1 fields.toList b h
   ·cases h
end
end Go.Pv
set_option linter.unusedSimpArgs false
set_option linter.unusedVariables false
namespace Go.Pv
open Go.RowKit
section
variable {P : Program} {tb : Tab} {H : Gh} {w : World}
theorem qjw (hT:qaN P tb) {t:TypeId} {K:TK} (hK:tb t=some K):kdOf P t=K.kd:=by
 obtain⟨i,z,hi,hz,hs,hb,hzz,hkd⟩:=qgW (hT _ _ hK);exact hkd.symm
def RelO (H:Gh) (w:World):Option PV→Option Value→Prop
 |none,none=>True
 |some x,some v=>Rel H w x v
 |_,_=>False
theorem qbg {x:PV} {v:Value} {d n y:Nat} (hb:pbound (some x) d=some n) (hr:Rel H w x v) (hn:n≤y) (code:BoundsCode) (w1:World) :
  (Instr.sliceBound v y code).run P w1=.ok n w1:=by
 unfold pbound at hb;split at hb
 ·rename_i heq;cases heq
 ·rename_i k m heq;split at hb
  ·rename_i h0;simp only [Option.some.injEq] at hb heq;subst hb;subst heq;cases hr with
   |int k n h=>exact run_sliceBound w1 _ _ y code h0 (by omega)
  ·cases hb
 ·cases hb
theorem qCF (l:qU) (a b:Nat):(ByteArray.mk l.toArray).extract a b=ByteArray.mk ((l.take b).drop a).toArray:=by
 apply ByteArray.ext;apply Array.ext';simp;rw [List.drop_take]
theorem qJo {lo hi:Option PV} {vlo vhi:Option Value} (hlo:RelO H w lo vlo) (hhi:RelO H w hi vhi) {len cap a b:Nat} (ha:pbound lo 0=some a) (hb:pbound hi len=some b) (hab:a≤b) (hbl:b≤len) (hcap:len≤cap) (w1:World) :
  (Instr.sliceBounds true len cap vlo vhi none).run P w1=.ok (a,b,cap) w1:=by
 simp only [Instr.sliceBounds];cases hi with
 |none =>
  cases vhi with
  |some _=>exact hhi.elim
  |none =>
   simp only [pbound,Option.some.injEq] at hb;subst hb;cases lo with
   |none =>
    cases vlo with
    |some _=>exact hlo.elim
    |none =>
     simp only [pbound,Option.some.injEq] at ha;subst ha;simp
   |some lo =>
    cases vlo with
    |none=>exact hlo.elim
    |some vlo=>simp [qbg (P:=P) ha hlo (y:=len) (by omega) .sliceB w1]
 |some hi =>
  cases vhi with
  |none=>exact hhi.elim
  |some vhi =>
   have h1:=qbg (P:=P) hb hhi (y:=cap) (by omega) .sliceAcap w1
   cases lo with
   |none =>
    cases vlo with
    |some _=>exact hlo.elim
    |none =>
     simp only [pbound,Option.some.injEq] at ha;subst ha;simp [h1]
   |some lo =>
    cases vlo with
    |none=>exact hlo.elim
    |some vlo=>simp [h1,qbg (P:=P) ha hlo hab .sliceB w1]
theorem qJD (hT:qaN P tb) {t:TypeId} {x r:PV} {v:Value} {lo hi mx:Option PV} {vlo vhi vmx:Option Value} (h:pslice tb t x lo hi mx=some r) (hx:Rel H w x v)
  (hlo:RelO H w lo vlo) (hhi:RelO H w hi vhi) (hmx:RelO H w mx vmx) (w1:World) :
  ∃ u,(Instr.sliceAt t v vlo vhi vmx).run P w1=.ok u w1∧Rel H w r u:=by
 unfold pslice at h
 cases hK:tb t with
 |none=>simp [hK] at h
 |some K =>
  have hkd:=qjw hT hK;simp only [hK] at h
  split at h
  ·-- a string
   rename_i l hk;have hu:=qmD (hkd.trans hk);cases hx with
   |str _ hl =>
    split at h
    ·rename_i a b ha hb;split at h
     ·rename_i hab;simp only [Option.some.injEq] at h
      subst h;cases vmx with
      |some _=>exact hmx.elim
      |none =>
       refine⟨.string ⟨((l.take b).drop a).toArray⟩,?_,.str _ (by simp;omega)⟩
       have hsz:(ByteArray.mk l.toArray).size=l.length:=by simp [ByteArray.size]
       rw [run_sliceAt_string w1 t _ _ _ _ hu];have hbounds:(Instr.sliceBounds false l.length l.length vlo vhi none).run P w1=.ok (a,b,l.length) w1:=by
        simp only [Instr.sliceBounds];cases hi with
        |none =>
         cases vhi with
         |some _=>exact hhi.elim
         |none =>
          simp only [pbound,Option.some.injEq] at hb;subst hb;cases lo with
          |none =>
           cases vlo with
           |some _=>exact hlo.elim
           |none =>
            simp only [pbound,Option.some.injEq] at ha;subst ha;simp
          |some lo =>
           cases vlo with
           |none=>exact hlo.elim
           |some vlo=>simp [qbg (P:=P) ha hlo hab.1 .sliceB w1]
        |some hi =>
         cases vhi with
         |none=>exact hhi.elim
         |some vhi =>
          have h1:=qbg (P:=P) hb hhi hab.2 .sliceAlen w1;cases lo with
          |none =>
           cases vlo with
           |some _=>exact hlo.elim
           |none =>
            simp only [pbound,Option.some.injEq] at ha;subst ha;simp [h1]
          |some lo =>
           cases vlo with
           |none=>exact hlo.elim
           |some vlo=>simp [h1,qbg (P:=P) ha hlo hab.1 .sliceB w1]
       simp [Instr.slice,run_underlying hu,hsz,hbounds,qCF]
     ·cases h
    ·cases h
  ·-- a slice
   rename_i e xs tag hk;have hu:=qo4 (hkd.trans hk);cases hE:tb e with
   |none=>simp [hE] at h
   |some E =>
    simp only [hE] at h
    have hsize:=qaO (hT _ _ hE);cases hx with
    |sl p len cap k _ vss _ hl hcap hm hrel hrow htag =>
     split at h
     ·rename_i hall
      -- the rows' own size is the type's,where there is an element
      have hk_eq:∀ (i:Nat) (vs:List Value),vss[i]?=some vs→k=E.size:=by
       intro i vs hi;have hlt:i < xs.length:=by rw [hrel.len];exact (List.getElem?_eq_some_iff.1 hi).1
       have h1:=(qci.1 hrel).2 i _ vs (List.getElem?_eq_getElem hlt) hi;have h2:(xs[i].length == E.size)=true:=List.all_eq_true.1 hall _ (List.getElem_mem hlt);have h3:=(hrow i vs hi).1;have h4:=h1.len;simp at h2;omega
      have part:∀ (a b:Nat),a≤b→b≤xs.length→∀ (m:Nat),b≤m→m≤cap→∀ (tg:Tag),(tg=.non∨(tg=.full∧m=b)) →
        Rel H w (.sl ((xs.take b).drop a) tg) (.slice (if m=a then p else p.map (·.add (a * E.size))) (b - a) (m - a)):=by
       intro a b hab hb m hbm hmc tg htg;refine .sl _ _ _ k _ ((vss.take b).drop a) _ (by simp;omega) (by omega) (by unfold maxLen at *;omega) ((hrel.take b).drop a) (fun i vs hi=>?_) ?_
       ·rw [List.getElem?_drop,List.getElem?_take] at hi;split at hi
        ·rename_i hib;obtain⟨hlen,ad,hp,hc⟩:=hrow _ vs hi;have hke:=hk_eq _ vs hi;have:m≠a:=by omega
         refine⟨hlen,ad.add (a * E.size),by rw [if_neg this,hp];rfl,?_⟩
         rw [qra];have e1:a * E.size+i * k=(a+i) * k:=by rw [hke,Nat.add_mul]
         rw [e1];exact hc
        ·cases hi
       ·rcases htg with rfl|⟨rfl,rfl⟩
        ·trivial
        ·rfl
      split at h
      ·-- no third bound
       cases vmx with
       |some _=>exact hmx.elim
       |none =>
        split at h
        ·rename_i a b ha hb;split at h
         ·rename_i hab;have hbounds:(Instr.sliceBounds true len cap vlo vhi none).run P w1=.ok (a,b,cap) w1:=by
           simp only [Instr.sliceBounds];cases hi with
           |none =>
            cases vhi with
            |some _=>exact hhi.elim
            |none =>
             simp only [pbound,Option.some.injEq] at hb;subst hb;cases lo with
             |none =>
              cases vlo with
              |some _=>exact hlo.elim
              |none =>
               simp only [pbound,Option.some.injEq] at ha;subst ha;simp [hl]
             |some lo =>
              cases vlo with
              |none=>exact hlo.elim
              |some vlo=>simp [qbg (P:=P) ha hlo (y:=len) (by omega) .sliceB w1,hl]
           |some hi =>
            cases vhi with
            |none=>exact hhi.elim
            |some vhi =>
             have h1:=qbg (P:=P) hb hhi (y:=cap) (by omega) .sliceAcap w1
             cases lo with
             |none =>
              cases vlo with
              |some _=>exact hlo.elim
              |none =>
               simp only [pbound,Option.some.injEq] at ha;subst ha;simp [h1]
             |some lo =>
              cases vlo with
              |none=>exact hlo.elim
              |some vlo=>simp [h1,qbg (P:=P) ha hlo hab.1 .sliceB w1]
          have hrun:(Instr.sliceAt t (.slice p len cap) vlo vhi none).run P w1=.ok (.slice (if cap=a then p else p.map (·.add (a * E.size))) (b - a) (cap - a)) w1:=by
           simp [Instr.sliceAt,Instr.slice,run_underlying hu,hbounds,hsize w1]
          refine⟨_,hrun,?_⟩;have whole:Rel H w (.sl xs tag) (.slice (if cap=0 then p else p.map (·.add (0 * E.size))) (len - 0) (cap - 0)):=by
           have e0:(if cap=0 then p else p.map (·.add (0 * E.size)))=p:=by
            split
            ·rfl
            ·cases p<;>simp [Addr.add]
           rw [e0,Nat.sub_zero,Nat.sub_zero];exact .sl p len cap k xs vss tag hl hcap hm hrel hrow htag
          simp only [Option.some.injEq] at h
          subst h;have hpart:=part a b hab.1 hab.2 cap (by omega) (Nat.le_refl _) .non (.inl rfl)
          cases lo with
          |some lo=>exact hpart
          |none =>
           cases hi with
           |some hi=>exact hpart
           |none =>
            simp only [pbound,Option.some.injEq] at ha hb;subst ha hb;simp only [List.take_length,List.drop_zero];rw [hl];exact whole
         ·cases h
        ·cases h
      ·-- a third bound
       rename_i m hi;split at h
       ·rename_i a b c ha hb hc;split at h
        ·rename_i hab;obtain⟨hab,rfl,hbl⟩:=hab;simp only [Option.some.injEq] at h
         subst h;cases vmx with
         |none=>exact hmx.elim
         |some vm =>
          cases vhi with
          |none=>exact hhi.elim
          |some vhi =>
           have h1:=qbg (P:=P) hc hmx (y:=cap) (by omega) .slice3Acap w1
           have h2:=qbg (P:=P) hb hhi (y:=b) (Nat.le_refl _) .slice3B w1;have hbounds:(Instr.sliceBounds true len cap vlo (some vhi) (some vm)).run P w1=.ok (a,b,b) w1:=by
            simp only [Instr.sliceBounds];cases lo with
            |none =>
             cases vlo with
             |some _=>exact hlo.elim
             |none =>
              simp only [pbound,Option.some.injEq] at ha;subst ha;simp [h1,h2]
            |some lo =>
             cases vlo with
             |none=>exact hlo.elim
             |some vlo=>simp [h1,h2,qbg (P:=P) ha hlo hab .slice3C w1]
           have hrun:(Instr.sliceAt t (.slice p len cap) vlo (some vhi) (some vm)).run P w1=.ok (.slice (if b=a then p else p.map (·.add (a * E.size))) (b - a) (b - a)) w1:=by
            simp [Instr.sliceAt,Instr.slice,run_underlying hu,hbounds,hsize w1]
           exact⟨_,hrun,part a b hab hbl b (Nat.le_refl _) (by omega) .full (.inr ⟨rfl,rfl⟩)⟩
        ·cases h
       ·cases h
      ·cases h
     ·cases h
  ·-- a row of the call's own
   rename_i e id off len k hk;have hu:=qo4 (hkd.trans hk);cases hE:tb e with
   |none=>simp [hE] at h
   |some E =>
    simp only [hE] at h
    have hsize:=qaO (hT _ _ hE);cases hx with
    |osl _ _ off' _ cap _ b0 hb0 hoff hcap hm =>
     cases mx with
     |some _=>simp at h
     |none =>
      cases vmx with
      |some _=>exact hmx.elim
      |none =>
       simp only [] at h
       split at h
       ·rename_i a b ha hb;split at h
        ·rename_i hab;obtain⟨hab,hbl,rfl⟩:=hab;simp only [Option.some.injEq] at h
         subst h;have hbounds:=qJo (P:=P) hlo hhi ha hb hab hbl hcap w1;have hrun:(Instr.sliceAt t (.slice (some ⟨b0,off',none⟩) len cap) vlo vhi none).run P w1=.ok (.slice (if cap=a then some ⟨b0,off',none⟩ else (some (⟨b0,off',none⟩:Addr)).map (·.add (a * E.size))) (b - a) (cap - a)) w1:=by
          simp [Instr.sliceAt,Instr.slice,run_underlying hu,hbounds,hsize w1]
         refine⟨_,hrun,?_⟩;by_cases hca:cap=a
         ·rw [if_pos hca];exact .osl id _ off' (b - a) (cap - a) E.size b0 hb0 (fun h=>by omega) (by omega) (by omega)
         ·rw [if_neg hca];have e2:(some (⟨b0,off',none⟩:Addr)).map (·.add (a * E.size))=some ⟨b0,off'+a * E.size,none⟩:=by simp [Addr.add]
          rw [e2];refine .osl id _ (off'+a * E.size) (b - a) (cap - a) E.size b0 hb0 (fun h=>?_) (by omega) (by omega)
          rw [hoff (by omega)]
        ·cases h
       ·cases h
  ·cases h
theorem qEc (hT:qaN P tb) {t:TypeId} {x i r:PV} {v iv:Value} (h:qpE tb t x i=some r) (hx:Rel H w x v) (hi:Rel H w i iv) (w1:World) :
  ∃ u,(Instr.indexAt t v iv).run P w1=.ok u w1∧Rel H w r u:=by
 unfold qpE at h
 cases hK:tb t with
 |none=>simp [hK] at h
 |some K =>
  have hkd:=qjw hT hK;simp only [hK] at h
  split at h
  ·rename_i e xs tag k n hk;have hu:=qo4 (hkd.trans hk);cases hE:tb e with
   |none=>simp [hE] at h
   |some E =>
    simp only [hE] at h
    have hsize:=qaO (hT _ _ hE) w1;split at h
    ·rename_i h0;split at h
     ·rename_i cs hcs;split at h
      ·rename_i hlen;simp only [Option.some.injEq] at h
       subst h;cases hi with
       |int _ _ hwf =>
        cases hx with
        |sl p len cap kk _ vss _ hl hcap hm hrel hrow htag =>
         obtain⟨vs,hvs,hr⟩:=hrel.get hcs;obtain⟨hvl,ad,rfl,hc⟩:=hrow _ vs hvs;have hlt:n.toNat < xs.length:=(List.getElem?_eq_some_iff.1 hcs).1;have hke:kk=E.size:=by have:=hr.len;omega
         subst hke;refine⟨.pointer (some (ad.add (n.toNat * E.size))),?_,.ref _ cs vs hr hc.weak⟩;have h2:n < (len:Int):=by omega
         simp [Instr.indexAt,asIntOf,run_underlying hu,h0,h2,hsize]
      ·cases h
     ·cases h
    ·cases h
  ·rename_i e id off len k kk n hk;have hu:=qo4 (hkd.trans hk);cases hE:tb e with
   |none=>simp [hE] at h
   |some E =>
    simp only [hE] at h
    have hsize:=qaO (hT _ _ hE) w1;split at h
    ·rename_i h0;obtain⟨h1,h2,rfl⟩:=h0;simp only [Option.some.injEq] at h
     subst h;cases hi with
     |int _ _ hwf =>
      cases hx with
      |osl _ _ off' _ cap _ b hb ho hcap hm =>
       obtain rfl:=ho (by omega)
       refine⟨.pointer (some ⟨b,off'+n.toNat * E.size,none⟩),?_,.ptr id _ b hb⟩;have h3:n < (len:Int):=by omega
       simp [Instr.indexAt,asIntOf,run_underlying hu,h1,h3,hsize,Addr.add]
    ·cases h
  ·rename_i m e id off k n hk;have hu:=qQO (hkd.trans hk);cases hE:tb e with
   |none=>simp [hE] at h
   |some E =>
    simp only [hE] at h
    have hsize:=qaO (hT _ _ hE) w1;split at h
    ·rename_i h0;simp only [Option.some.injEq] at h
     subst h;cases hi with
     |int _ _ hwf =>
      cases hx with
      |ptr _ _ b hb =>
       refine⟨.pointer (some ⟨b,off+n.toNat * E.size,none⟩),?_,.ptr id _ b hb⟩;have h2:n < (m:Int):=by omega
       simp [Instr.indexAt,asIntOf,run_underlying hu,h0.1,h2,hsize,Instr.sureAddr,Addr.add]
    ·cases h
  ·cases h
theorem qI8 (hT:qaN P tb) {t:TypeId} {x i r:PV} {v iv:Value} (h:pindex tb t x i=some r) (hx:Rel H w x v) (hi:Rel H w i iv) (w1:World) :
  ∃ u,(Instr.index t v iv).run P w1=.ok u w1∧Rel H w r u:=by
 unfold pindex at h
 cases hK:tb t with
 |none=>simp [hK] at h
 |some K =>
  have hkd:=qjw hT hK;simp only [hK] at h
  split at h
  ·rename_i l k n hk;have hu:=qmD (hkd.trans hk);split at h
   ·rename_i h0;cases hb:l[n.toNat]? with
    |none=>simp [hb] at h
    |some b =>
     simp only [hb,Option.map_some,Option.some.injEq] at h
     subst h;cases hi with
     |int _ _ hwf =>
      cases hx with
      |str _ hl =>
       have hlt:n.toNat < l.length:=(List.getElem?_eq_some_iff.1 hb).1;have hget:(ByteArray.mk l.toArray)[n.toNat]?=some b:=by
        have:n.toNat < (ByteArray.mk l.toArray).size:=by simpa [ByteArray.size] using hlt
        rw [ByteArray.getElem?_lt' _ _ this]
        congr 1
        have:=(List.getElem?_eq_some_iff.1 hb).2;rw [← this];rfl
       refine⟨.int .u8 b.toNat,?_,.int _ _ (by have:=b.toNat_lt;simp [Lit.wf,IntKind.min,IntKind.max,IntKind.signed,IntKind.bits];omega)⟩
       simp [Instr.index,asIntOf,run_underlying hu,h0,hget]
   ·cases h
  ·rename_i m e cs k n hk;have hu:=qQO (hkd.trans hk);cases hE:tb e with
   |none=>simp [hE] at h
   |some E =>
    simp only [hE] at h
    have hsize:=qaO (hT _ _ hE) w1;split at h
    ·rename_i h0;cases hi with
     |int _ _ hwf =>
      cases hx with
      |agg _ vs hvs =>
       obtain⟨u,hu1,hu2⟩:=qts (hT _ _ hE) hvs h w1;refine⟨u,?_,hu2⟩;have h2:n < (m:Int):=by omega
       simp [Instr.index,asIntOf,run_underlying hu,h0.1,h2,hsize,hu1]
    ·cases h
  ·cases h
theorem qC7 (hT:qaN P tb) {t:TypeId} {x r:PV} {v:Value} {f:Nat} (h:qzU tb t x f=some r) (hx:Rel H w x v) (w1:World) :
  ∃ u,(Instr.fieldAt t v f).run P w1=.ok u w1∧Rel H w r u:=by
 unfold qzU at h
 cases hK:tb t with
 |none=>simp [hK] at h
 |some K =>
  have hkd:=qjw hT hK;simp only [hK] at h
  split at h
  ·rename_i fs held guard hk;obtain⟨fields,hu,rfl,_,_⟩:=qyl (hkd.trans hk);split at h
   ·rename_i off ft nm hf;have hf' : (fields.toList.map fun f => (f.offset, f.type, f.name != "_"))[f]? = some (off, ft, nm) := hf
    rw [List.getElem?_map] at hf';cases hfl:fields.toList[f]? with
    |none=>simp [hfl] at hf'
    |some g =>
     simp only [hfl,Option.map_some,Option.some.injEq,Prod.mk.injEq] at hf';obtain⟨rfl,rfl,rfl⟩:=hf';have hfa:fields[f]?=some g:=by simpa using hfl
     cases hF:tb g.type with
     |none=>simp [hF] at h
     |some F =>
      simp only [hF] at h
      have hsize:=qaO (hT _ _ hF) w1;split at h
      ·cases h
      ·rename_i hz;split at h
       ·rename_i id o;simp only [Option.some.injEq] at h
        subst h;cases hx with
        |ptr _ _ b hob =>
         refine⟨.pointer (some ⟨b,o+g.offset,none⟩),?_,.ptr _ _ _ hob⟩;simp [Instr.fieldAt,run_underlying hu,hfa,Instr.sureAddr,fieldPlace,hsize,hz,qbJ]
       ·simp only [Option.some.injEq] at h
        subst h;cases hx with
        |ref a cs vs hr hc =>
         refine⟨.pointer (some (a.add g.offset)),?_,.ref _ _ (vs.drop g.offset) (hr.drop _) (fun j u hj=>?_)⟩
         ·simp [Instr.fieldAt,run_underlying hu,hfa,Instr.sureAddr,fieldPlace,hsize,hz]
         ·rw [List.getElem?_drop] at hj;rw [qra];exact hc _ u hj
       ·cases h
   ·cases h
  ·cases h
theorem qJh (hT:qaN P tb) {t:TypeId} {x r:PV} {v:Value} {f:Nat} (h:pfield tb t x f=some r) (hx:Rel H w x v) (w1:World) :
  ∃ u,(Instr.field t v f).run P w1=.ok u w1∧Rel H w r u:=by
 unfold pfield at h
 cases hK:tb t with
 |none=>simp [hK] at h
 |some K =>
  have hkd:=qjw hT hK;simp only [hK] at h
  split at h
  ·rename_i fs held guard cs hk;obtain⟨fields,hu,rfl,_,_⟩:=qyl (hkd.trans hk);split at h
   ·rename_i off ft nm hf;have hf' : (fields.toList.map fun f => (f.offset, f.type, f.name != "_"))[f]? = some (off, ft, nm) := hf
    rw [List.getElem?_map] at hf';cases hfl:fields.toList[f]? with
    |none=>simp [hfl] at hf'
    |some g =>
     simp only [hfl,Option.map_some,Option.some.injEq,Prod.mk.injEq] at hf';obtain⟨rfl,rfl,rfl⟩:=hf';have hfa:fields[f]?=some g:=by simpa using hfl
     cases hF:tb g.type with
     |none=>simp [hF] at h
     |some F =>
      simp only [hF] at h
      cases hx with
      |agg _ vs hr =>
       obtain⟨u,hu1,hu2⟩:=qts (hT _ _ hF) hr h w1;refine⟨u,?_,hu2⟩;simp [Instr.field,run_underlying hu,hfa,asAgg,hu1]
   ·cases h
  ·cases h
end
end Go.Pv
set_option linter.unusedSimpArgs false
set_option linter.unusedVariables false
namespace Go.Pv
open Go.RowKit
section
variable {P : Program} {tb : Tab} {H : Gh} {w : World}
theorem qJg (off:Nat):∀ (us:List Value) (j:Nat) (cells:Array Value),off+j+us.length≤cells.size →
  ((us.zipIdx j).foldl (fun cs (c,i)=>cs.setIfInBounds (off+i) c) cells).toList=cells.toList.take (off+j)++us++cells.toList.drop (off+j+us.length):=by
 intro us
 induction us with
 |nil=>intro j cells h;simp
 |cons u us ih =>
  intro j cells h;simp only [List.length_cons] at h
  rw [List.zipIdx_cons,List.foldl_cons,ih (j+1) _ (by simp;omega)]
  simp only [Array.toList_setIfInBounds,List.length_cons];have hlt:off+j < cells.toList.length:=by simp;omega
  rw [List.drop_set_of_lt (by omega)]
  have e1:off+(j+1)=(off+j)+1:=by omega
  rw [e1,List.take_succ_eq_append_getElem (by simpa using hlt)]
  rw [List.take_set_of_le (Nat.le_refl _)];simp only [List.getElem_set_self,List.append_assoc,List.singleton_append]
  congr 3
  omega
theorem qEf {place:Nat→Option (Nat×Nat)}:∀ (parts:List (Nat×PV)) (vparts:List (Nat×Value)) (cells:List PV) (vs:List Value) (r:List PV),
  parts.length=vparts.length→(∀ (i:Nat) p q,parts[i]?=some p→vparts[i]?=some q→p.1=q.1∧Rel H w p.2 q.2)→RelL H w cells vs→pfill place cells parts=some r →
  ∃ us:List Value,Instr.fill place vs.toArray vparts=some us.toArray∧RelL H w r us:=by
 intro parts
 induction parts with
 |nil =>
  intro vparts cells vs r hl _ hr h;cases vparts with
  |nil =>
   simp only [pfill,Option.some.injEq] at h
   subst h;exact⟨vs,rfl,hr⟩
  |cons=>simp at hl
 |cons p parts ih =>
  intro vparts cells vs r hl hp hr h;cases vparts with
  |nil=>simp at hl
  |cons q vparts =>
   obtain⟨i,x⟩:=p;obtain⟨i',v⟩:=q;obtain⟨he,hxv⟩:=hp 0 (i,x) (i',v) rfl rfl;have he:i=i':=he;have hxv:Rel H w x v:=hxv;subst he;simp only [pfill] at h
   split at h
   ·rename_i off size us hpl hpc;split at h
    ·rename_i hfit;have hrel:=qro hxv hpc;have hlen:=hrel.len;have hcl:=hr.len;have hsz:v.cells.size=size:=by have:=hfit.1;simp at hlen;omega
     have hfold:(v.cells.zipIdx.foldl (fun cs (c,j)=>cs.setIfInBounds (off+j) c) vs.toArray)=(vs.take off++v.cells.toList++vs.drop (off+size)).toArray:=by
      apply Array.ext';rw [← Array.foldl_toList,Array.toList_zipIdx];have:=qJg off v.cells.toList 0 vs.toArray (by simp;omega)
      simp only [Nat.add_zero] at this;rw [this];simp [hsz]
     obtain⟨us',hf,hr'⟩:=ih vparts _ (vs.take off++v.cells.toList++vs.drop (off+size)) r (by simpa using hl)
      (fun i p q e1 e2=>hp (i+1) p q (by simpa using e1) (by simpa using e2)) (((hr.take off).app hrel).app (hr.drop _)) h
     refine⟨us',?_,hr'⟩;simp only [Instr.fill,hpl];rw [if_neg (by simp;omega),hfold]
     exact hf
    ·cases h
   ·cases h
theorem qDL (hT:qaN P tb) {parts:List (Nat×Operand)} {fr:List PV} {a:Act} (hfr:RelL H w fr a.tmps.toList) :
  (∀ (i:Nat) p q,(parts.map fun p=>(p.1,ev fr p.2))[i]?=some p→(parts.map fun p=>(p.1,a.eval p.2))[i]?=some q→p.1=q.1∧Rel H w p.2 q.2):=by
 intro i p q hp hq;rw [List.getElem?_map] at hp hq;cases hx:parts[i]? with
 |none=>simp [hx] at hp
 |some x =>
  simp only [hx,Option.map_some,Option.some.injEq] at hp hq;subst hp hq;exact⟨rfl,qaL hfr _⟩
theorem qJB {p q:Nat→Option (Nat×Nat)} (h:∀ i,p i=q i) (cells:Array Value) (l:List (Nat×Value)):Instr.fill p cells l=Instr.fill q cells l:=by
 have:p=q:=funext h;rw [this]
theorem quN (w1:World):∀ (fs:List Field),(∀ f∈fs,∃ n,(sizeOf f.type).run P w1=.ok n w1) →
  ∃ l:List (Nat×Nat),(fs.mapM (fun f=>do pure (f.offset,← sizeOf f.type):Field→Sem (Nat×Nat))).run P w1=.ok l w1∧l.length=fs.length ∧
   ∀ (i:Nat) (f:Field),fs[i]?=some f→∃ n,l[i]?=some (f.offset,n)∧(sizeOf f.type).run P w1=.ok n w1:=by
 intro fs
 induction fs with
 |nil=>intro _;exact⟨[],by simp,rfl,fun i f h=>by simp at h⟩
 |cons f fs ih =>
  intro h;obtain⟨n,hn⟩:=h f (by simp)
  obtain⟨l,hl,hlen,hget⟩:=ih fun g hg=>h g (by simp [hg])
  refine⟨(f.offset,n)::l,by simp only [List.mapM_cons,Sem.run_bind,hn,hl,Result.andThen_ok,Sem.run_pure],by simp [hlen],fun i g hg=>?_⟩
  cases i with
  |zero=>simp at hg;subst hg;exact⟨n,by simp,hn⟩
  |succ i=>simp at hg;simpa using hget i g hg
theorem qKc (hT:qaN P tb) {t:TypeId} {parts:List (Nat×Operand)} {fr:List PV} {a:Act} (hfr:RelL H w fr a.tmps.toList) {r:PV}
  (h:pbuild tb t (parts.map fun p=>(p.1,ev fr p.2))=some r) (w1:World) :
  ∃ u,(Instr.build t (parts.map fun p=>(p.1,a.eval p.2)).toArray).run P w1=.ok u w1∧Rel H w r u:=by
 unfold pbuild at h
 cases hK:tb t with
 |none=>simp [hK] at h
 |some K =>
  have hkd:=qjw hT hK;obtain⟨z,hz,hzr⟩:=qjE (hT _ _ hK);simp only [hK] at h
  split at h
  ·rename_i fs held guard hk;obtain⟨fields,hu,rfl,_,_⟩:=qyl (hkd.trans hk);split at h
   ·rename_i hsome;obtain⟨cs,hp,rfl⟩:=Option.map_eq_some_iff.1 h
    ·skip
     have hall:∀ f∈fields.toList,∃ F,tb f.type=some F:=by
      intro f hf;have h1:((tb f.type).isSome)=true:=by
       have := List.all_eq_true.1 hsome (f.offset, f.type, f.name != "_") (List.mem_map.2 ⟨f, hf, rfl⟩);simpa using this
      exact Option.isSome_iff_exists.1 h1
     obtain⟨l,hl,hlen,hget⟩:=quN (P:=P) w1 fields.toList fun f hf=>by
      obtain⟨F,hF⟩:=hall f hf;exact⟨F.size,qaO (hT _ _ hF) w1⟩
     have hplace : ∀ i, fplace tb (fields.toList.map fun f => (f.offset, f.type, f.name != "_")) i = l.toArray[i]? := by
      intro i;unfold fplace;rw [List.getElem?_map];cases hf:fields.toList[i]? with
      |none =>
       have:l[i]?=none:=by
        rw [List.getElem?_eq_none_iff] at hf ⊢;omega
       simp [this]
      |some f =>
       obtain⟨F,hF⟩:=hall f (List.mem_of_getElem? hf);obtain⟨n,hn,hs⟩:=hget i f hf;have:=qaO (hT _ _ hF) w1;rw [this] at hs;have e:F.size=n:=by injection hs
       simp [hF,hn,e]
     obtain⟨us,hus,hrel⟩:=qEf _ (parts.map fun p=>(p.1,a.eval p.2)) K.zero z.cells.toList cs (by simp) (qDL hT hfr) (by rw [hz];exact qcg _) hp
     refine⟨.agg us.toArray,?_,.agg _ _ hrel⟩;rw [qJB hplace] at hus;have hmap:(fields.mapM (fun f=>do pure (f.offset,← sizeOf f.type):Field→Sem (Nat×Nat))).run P w1=.ok l.toArray w1:=by
      rw [Array.mapM_eq_mapM_toList];simp only [Sem.run_map,hl,Result.andThen_ok]
     simp only [Instr.build,Sem.run_bind,hzr,run_underlying hu,Result.andThen_ok,hmap];have hus':Instr.fill (fun x=>l.toArray[x]?) z.cells (parts.map fun p=>(p.1,a.eval p.2))=some us.toArray:=by
      rw [Array.toArray_toList] at hus;exact hus
     rw [hus'];rfl
   ·cases h
  ·cases h
theorem ql0 (k:Nat):∀ (n:Nat) (cs:List PV),(chunks k n cs).length=n
 |0,_=>rfl
 |n+1,cs=>by simp [chunks,ql0 k n]
def vchunks (k:Nat):Nat→List Value→List (List Value)
 |0,_=>[]
 |n+1,cs=>cs.take k::vchunks k n (cs.drop k)
theorem qlK (k:Nat):∀ (n:Nat) (cs:List PV) (vs:List Value),RelL H w cs vs→RelLL H w (chunks k n cs) (vchunks k n vs)
 |0,_,_,_=>.nil
 |n+1,cs,vs,h=>.cons _ _ _ _ (h.take k) (qlK k n _ _ (h.drop k))
theorem qna (k:Nat):∀ (n:Nat) (vs:List Value) (i:Nat) (us:List Value),(vchunks k n vs)[i]?=some us→us=(vs.drop (i * k)).take k∧i < n
 |0,_,i,us,h=>by simp [vchunks] at h
 |n+1,vs,0,us,h=>by
  simp [vchunks] at h
  exact⟨by simp [h],by omega⟩
 |n+1,vs,i+1,us,h=>by
  simp [vchunks] at h
  obtain⟨h1,h2⟩:=qna k n _ i us h;refine⟨?_,by omega⟩
  rw [h1,List.drop_drop]
  congr 2
  rw [Nat.add_mul];omega
theorem qMI {gl:Gl} {σ:Store} (hok:Ok gl H σ w) {vs:List Value} {k n:Nat} (hlen:vs.length=n * k) (hk:0 < k) (t:TypeId) :
  RowAt H (w.alloc (.cells vs.toArray t)) (some ⟨w.heap.size,0,none⟩) k (vchunks k n vs):=by
 intro i us hi;obtain⟨h1,h2⟩:=qna k n vs i us hi;have hle:i * k+k≤n * k:=by
  have:(i+1) * k≤n * k:=Nat.mul_le_mul_right k h2
  rwa [Nat.add_mul,Nat.one_mul] at this
 refine⟨by rw [h1];simp;omega,_,rfl,fun j u hj=>?_⟩
 rw [qbJ,qbJ,Nat.zero_add];show H.prot _ w.heap.size (i * k+j)∧_
 refine⟨⟨by simp,fun hB=>absurd hok.B (by omega),fun hm=>?_,fun T hT hvv hb=>?_⟩,?_⟩
 ·exact absurd (hok.ob_at hm).2 (Nat.lt_irrefl _)
 ·have:=(hok.tk_at hT hvv).2;omega
 ·rw [h1,List.getElem?_take] at hj;split at hj
  ·rw [List.getElem?_drop] at hj;rw [World.cell?_alloc_new];simpa using hj
  ·cases hj
theorem qtc {zs:List PV} {vz:List Value} (h:RelL H w zs vz):∀ n,RelL H w (reps n zs) ((List.replicate n vz).flatten)
 |0=>.nil
 |n+1=>by
  rw [List.replicate_succ,List.flatten_cons];exact h.app (qtc h n)
theorem qkM {vz:List Value} (hz:0 < vz.length) (n:Nat):((Array.range (n * vz.length)).map (vz.toArray[· % vz.toArray.size]!)).toList=(List.replicate n vz).flatten:=by
 apply List.ext_getElem?;intro i;by_cases hi:i < n * vz.length
 ·have hm:i % vz.length < vz.length:=Nat.mod_lt _ hz;have e:((List.replicate n vz).flatten)[i]?=some (vz[i % vz.length]):=by
   induction n generalizing i with
   |zero=>simp at hi
   |succ n ih =>
    rw [List.replicate_succ,List.flatten_cons];by_cases hv:i < vz.length
    ·rw [List.getElem?_append_left hv,List.getElem?_eq_getElem hv]
     congr 2
     exact (Nat.mod_eq_of_lt hv).symm
    ·rw [List.getElem?_append_right (by omega)]
     have hlt:i - vz.length < n * vz.length:=by rw [Nat.add_mul] at hi;omega
     have hmod:(i - vz.length) % vz.length=i % vz.length:=by
      rw [← Nat.mod_eq_sub_mod (by omega)]
     have:=ih (i - vz.length) hlt (Nat.mod_lt _ hz);rw [this];simp only [hmod]
  rw [e];simp [hi,hm]
 ·have e:((List.replicate n vz).flatten)[i]?=none:=by
   rw [List.getElem?_eq_none_iff,List.length_flatten];simp;omega
  rw [e];simp;omega
theorem quL (hT:qaN P tb) {gl:Gl} {σ:Store} (hok:Ok gl H σ w) {t:TypeId} {len:Nat} {parts:List (Nat×Operand)} {fr:List PV} {a:Act} (hfr:RelL H w fr a.tmps.toList) {r:PV}
  (h:qju tb t len (parts.map fun p=>(p.1,ev fr p.2))=some r) :
  ∃ u w',(Instr.buildSlice t len (parts.map fun p=>(p.1,a.eval p.2)).toArray).run P w=.ok u w'∧(Below w.heap.size w w'∧w'.drawn=w.drawn)∧Rel H w' r u:=by
 unfold qju at h
 cases hK:tb t with
 |none=>simp [hK] at h
 |some K =>
  have hkd:=qjw hT hK;simp only [hK] at h
  split at h
  ·rename_i e hk;have hu:=qo4 (hkd.trans hk);cases hE:tb e with
   |none=>simp [hE] at h
   |some E =>
    simp only [hE] at h
    have hsize:=qaO (hT _ _ hE) w;obtain⟨z,hz,hzr⟩:=qjE (hT _ _ hE);split at h
    ·rename_i hcond;obtain⟨hmax,hzl,hpos⟩:=hcond;cases hp:pfill (fun i=>some (i * E.size,E.size)) (reps len E.zero) (parts.map fun p=>(p.1,ev fr p.2)) with
     |none=>simp [hp] at h
     |some cs =>
      simp only [hp,Option.map_some,Option.some.injEq] at h
      subst h;have hzlen:z.cells.toList.length=E.size:=by rw [← hzl,hz];simp
      have hzrel:RelL H w E.zero z.cells.toList:=by rw [hz];exact qcg _
      obtain⟨us,hus,hrel⟩:=qEf _ (parts.map fun p=>(p.1,a.eval p.2)) (reps len E.zero) ((List.replicate len z.cells.toList).flatten) cs (by simp) (qDL hT hfr) (qtc hzrel len) hp
      have hcl:cs.length=len * E.size:=by
       have h1:∀ (parts:List (Nat×PV)) (cells r:List PV),pfill (fun i=>some (i * E.size,E.size)) cells parts=some r→r.length=cells.length:=by
        intro parts
        induction parts with
        |nil=>intro cells r h;simp [pfill] at h;rw [h]
        |cons p parts ih =>
         intro cells r h;obtain⟨i,x⟩:=p;simp only [pfill] at h
         split at h
         ·rename_i off size us hpl _;split at h
          ·rename_i hfit;rw [ih _ _ h];simp;omega
          ·cases h
         ·cases h
       have h2:∀ n,(reps n E.zero).length=n * E.size:=by
        intro n
        induction n with
        |zero=>simp [reps]
        |succ n ih=>simp [reps,ih,hzl,Nat.add_mul];omega
       rw [h1 _ _ _ hp,h2]
      have hul:us.length=len * E.size:=by rw [← hrel.len,hcl]
      have hzero:((Array.range (len * E.size)).map (z.cells[· % z.cells.size]!))=((List.replicate len z.cells.toList).flatten).toArray:=by
       apply Array.ext';have:=qkM (vz:=z.cells.toList) (by omega) len
       rw [hzlen] at this;simpa using this
      refine⟨.slice (some ⟨w.heap.size,0,none⟩) len len,w.alloc (.cells us.toArray e),?_,⟨qa6 w _,rfl⟩,?_⟩
      ·simp only [Instr.buildSlice,Sem.run_bind,run_underlying hu,Result.andThen_ok,hsize];rw [if_neg (by omega)]
       by_cases h0:len * E.size=0
       ·have hlen0:len=0:=by
         rcases Nat.mul_eq_zero.1 h0 with h|h
         ·exact h
         ·omega
        subst hlen0;simp only [Nat.zero_mul,List.replicate_zero,List.flatten_nil] at hus ⊢;rw [if_pos trivial];simp only [Sem.run_bind,Sem.run_pure,Result.andThen_ok];have e0:Array.map (fun x=>(#[]:Array Value)[x % (#[]:Array Value).size]!) (Array.range 0)=#[]:=by
         apply Array.ext';rw [Array.toList_map,Array.toList_range];rfl
        rw [e0,hus];rfl
       ·simp [h0,hzr,hzero,hus,newRow]
      ·have hev:Ev gl H w H (w.alloc (.cells us.toArray e)):=Ev.of_below hok.B (qa6 w _) (.of_eq rfl);have hm:len≤maxLen:=by
        have:len≤len * E.size:=Nat.le_mul_of_pos_right _ hpos;unfold maxLen;omega
       exact .sl _ _ _ E.size _ (vchunks E.size len us) _ (ql0 _ _ _) (Nat.le_refl _) hm ((qlK _ _ _ _ hrel).mono hev.mono) (qMI hok hul hpos e) rfl
    ·cases h
  ·cases h
theorem qxu (hT:qaN P tb) {gl:Gl} {σ:Store} (hok:Ok gl H σ w) {t:TypeId} {x y:PV} {xv yv:Value} (hx:Rel H w x xv) (hy:Rel H w y yv) {r:PV} (h:qhr tb t x y=some r) :
  ∃ u w',(Instr.makeSlice t xv yv).run P w=.ok u w'∧(Below w.heap.size w w'∧w'.drawn=w.drawn)∧Rel H w' r u:=by
 unfold qhr at h
 split at h
 ·rename_i K kx n ky m hK;have hkd:=qjw hT hK;split at h
  ·rename_i e hk;have hu:=qo4 (hkd.trans hk);cases hE:tb e with
   |none=>simp [hE] at h
   |some E =>
    simp only [hE] at h
    split at h
    ·rename_i hcond;obtain⟨h0,rfl,hmax,hby,hzl,hpos⟩:=hcond;cases h
     cases hx
     cases hy
     obtain⟨i,z,hi,hz,hs,hb,hzz,_⟩:=qgW (hT _ _ hE);have hm:n.toNat≤maxLen:=by
      have h1:n.toNat≤n.toNat * E.size:=Nat.le_mul_of_pos_right _ hpos;unfold maxLen;omega
     have hb':(i.bytes:Int) * n≤281474976710656:=by
      have e1:n=(n.toNat:Int):=by omega
      have h1:((i.bytes * n.toNat:Nat):Int)≤281474976710656:=by rw [hb];omega
      rw [Int.natCast_mul] at h1;rw [e1];exact h1
     have hr:=run_make (P:=P) (w:=w) t e i z hu hi hz kx ky n n h0 (Int.le_refl _) hb' (by unfold maxLen at hm;omega)
     have hzlen:z.cells.toList.length=E.size:=by rw [← hzl,hzz];simp
     have hcells:(madeCells z.cells (n.toNat * i.size)).toList=(List.replicate n.toNat z.cells.toList).flatten:=by
      have:=qkM (vz:=z.cells.toList) (by omega) n.toNat
      rw [hzlen] at this;rw [hs,← this];unfold madeCells;rw [Array.toList_map,Array.toList_range]
     have hzrel:RelL H w E.zero z.cells.toList:=by rw [hzz];exact qcg _
     have hrel:=qtc hzrel n.toNat;have hul:((List.replicate n.toNat z.cells.toList).flatten).length=n.toNat * E.size:=by
      simp [List.length_flatten,hzlen]
     refine⟨_,_,hr,⟨qa6 w _,rfl⟩,?_⟩;have hev:Ev gl H w H (w.alloc (.cells (madeCells z.cells (n.toNat * i.size)) e)):=Ev.of_below hok.B (qa6 w _) (.of_eq rfl);have hrow:=qMI hok hul hpos e;have e2:((List.replicate n.toNat z.cells.toList).flatten).toArray=madeCells z.cells (n.toNat * i.size):=by rw [← hcells]
     rw [e2] at hrow;exact .sl _ _ _ E.size _ (vchunks E.size n.toNat _) _ (ql0 _ _ _) (Nat.le_refl _) hm ((qlK _ _ _ _ hrel).mono hev.mono) hrow rfl
    ·cases h
  ·cases h
 ·cases h
theorem qD9 (hT:qaN P tb) {gl:Gl} {σ:Store} (hok:Ok gl H σ w) {t:TypeId} {x y:PV} {xv yv:Value} (hx:Rel H w x xv) (hy:Rel H w y yv) {r:PV} {σ':Store} (h:qlF tb t x y σ=some (r,σ')) :
  ∃ u w',(Instr.makeSlice t xv yv).run P w=.ok u w'∧Post gl H w r σ' u w':=by
 unfold qlF at h
 split at h
 ·rename_i K kx n ky m hK;have hkd:=qjw hT hK;split at h
  ·rename_i e hk;have hu:=qo4 (hkd.trans hk);cases hE:tb e with
   |none=>simp [hE] at h
   |some E =>
    simp only [hE] at h
    split at h
    ·rename_i hcond;obtain⟨h0,rfl,hmax,hby,hzl,hpos⟩:=hcond;cases h
     cases hx
     cases hy
     obtain⟨i,z,hi,hz,hs,hb,hzz,_⟩:=qgW (hT _ _ hE);have hm:n.toNat≤maxLen:=by
      have h1:n.toNat≤n.toNat * E.size:=Nat.le_mul_of_pos_right _ hpos;unfold maxLen;omega
     have hb':(i.bytes:Int) * n≤281474976710656:=by
      have e1:n=(n.toNat:Int):=by omega
      have h1:((i.bytes * n.toNat:Nat):Int)≤281474976710656:=by rw [hb];omega
      rw [Int.natCast_mul] at h1;rw [e1];exact h1
     have hr:=run_make (P:=P) (w:=w) t e i z hu hi hz kx ky n n h0 (Int.le_refl _) hb' (by unfold maxLen at hm;omega)
     have hzlen:z.cells.toList.length=E.size:=by rw [← hzl,hzz];simp
     have hcells:(madeCells z.cells (n.toNat * i.size)).toList=(List.replicate n.toNat z.cells.toList).flatten:=by
      have:=qkM (vz:=z.cells.toList) (by omega) n.toNat
      rw [hzlen] at this;rw [hs,← this];unfold madeCells;rw [Array.toList_map,Array.toList_range]
     have hzrel:RelL H w E.zero z.cells.toList:=by rw [hzz];exact qcg _
     have hrel:=qtc hzrel n.toNat;have e2:((List.replicate n.toNat z.cells.toList).flatten++[]).toArray=madeCells z.cells (n.toNat * i.size):=by rw [List.append_nil,← hcells]
     have hmk:¬ e+qgz < qgz:=Nat.not_lt.2 (Nat.le_add_left qgz e);obtain⟨q1,q2,q3⟩:=qrV hok (qa6 w (.cells (madeCells z.cells (n.toNat * i.size)) e)) (.of_eq rfl) (Nat.le_refl _) (cs:=reps n.toNat E.zero) (vs:=(List.replicate n.toNat z.cells.toList).flatten) (ext:=[]) (T:=e) (Tm:=e+qgz) (fun hlt=>absurd hlt hmk)
      (by rw [e2];exact heap_alloc_new w _) hrel
     exact⟨_,_,hr,_,q1,q2,.osl _ 0 0 _ _ E.size _ q3 (fun _=>rfl) (Nat.le_refl _) hm⟩
    ·cases h
  ·cases h
 ·cases h
end
end Go.Pv
set_option linter.unusedSimpArgs false
set_option linter.unusedVariables false
namespace Go.Pv
open Go.RowKit
section
variable {P : Program} {tb : Tab} {gl : Gl} {H : Gh} {σ : Store} {w : World}
theorem qwf:∀ {xs:List (List PV)} {l:List UInt8},pbytes xs=some l→∃ ns:List Int,xs=ns.map (fun n=>[.int .u8 n])∧l=ns.map fun n=>UInt8.ofNat n.toNat:=by
 intro xs
 induction xs with
 |nil=>intro l h;simp [pbytes] at h;exact⟨[],rfl,by simp [h]⟩
 |cons x xs ih =>
  intro l h;unfold pbytes at h
  split at h
  ·rename_i heq;cases heq
  ·rename_i n rest heq;injection heq with h1 h2
   subst h1 h2;obtain⟨m,hm,rfl⟩:=Option.map_eq_some_iff.1 h;obtain⟨ns,rfl,rfl⟩:=ih hm;exact⟨n::ns,rfl,rfl⟩
  ·cases h
theorem qyw {ns:List Int} {vss:List (List Value)} (h:RelLL H w (ns.map fun n=>[.int .u8 n]) vss):vss=ns.map fun n=>[.int .u8 n]:=by
 induction ns generalizing vss with
 |nil=>cases h;rfl
 |cons n ns ih =>
  cases h with
  |cons _ v _ vs h ht =>
   cases h with
   |cons _ u _ us h1 h2 =>
    cases h1
    cases h2
    rw [ih ht];rfl
theorem qNh (hT:qaN P tb) (hok:Ok gl H σ w) {src dst:TypeId} {x r:PV} {v:Value} (h:pconv tb src dst x=some r) (hx:Rel H w x v) :
  ∃ u w',(convert src dst v).run P w=.ok u w'∧(Below w.heap.size w w'∧w.drawn≤w'.drawn)∧Rel H w' r u:=by
 unfold pconv at h
 cases hS:tb src with
 |none=>simp [hS] at h
 |some S =>
  cases hD:tb dst with
  |none=>simp [hS,hD] at h
  |some D =>
   have hks:=qjw hT hS;have hkd:=qjw hT hD;simp only [hS,hD] at h
   split at h
   ·rename_i hs hd;simp only [Option.some.injEq] at h
    subst h;cases hx with
    |int k n hwf =>
     have h1:=qyj (hks.trans hs);have h2:=qyj (hkd.trans hd);exact⟨_,w,by simp [convert,run_underlying h1,run_underlying h2,Conv.intToInt],⟨Below.refl _ _,Nat.le_refl _⟩,.int _ _ (wf_wrap _ _)⟩
   ·rename_i k n hs hd;split at h
    ·rename_i hb;simp only [Option.some.injEq] at h
     subst h;cases hx with
     |int _ _ hwf =>
      have h1:=qyj (hks.trans hs);have h2:=qmD (hkd.trans hd);refine⟨.string ⟨[UInt8.ofNat n.toNat].toArray⟩,w,?_,⟨Below.refl _ _,Nat.le_refl _⟩,.str _ (by simp [maxLen])⟩
      have hv:Utf8.valid n=true:=by simp [Utf8.valid];omega
      have hlt:n.toNat < 128:=by omega
      simp [convert,run_underlying h1,run_underlying h2,Conv.intToString,Utf8.encode,hv,hlt]
    ·cases h
   ·rename_i hs hd;simp only [Option.some.injEq] at h
    subst h;have h1:=qmD (hks.trans hs);have h2:=qmD (hkd.trans hd);cases hx with
    |str l hl=>exact⟨_,w,by simp [convert,run_underlying h1,run_underlying h2],⟨Below.refl _ _,Nat.le_refl _⟩,.str _ hl⟩
   ·rename_i e xs tag hs hd;have h1:=qo4 (hks.trans hs);have h2:=qmD (hkd.trans hd);split at h
    ·rename_i hE;have h3:=qyj (qjw hT hE);obtain⟨l,hl,rfl⟩:=Option.map_eq_some_iff.1 h;obtain⟨ns,rfl,rfl⟩:=qwf hl;cases hx with
     |sl p len cap k _ vss _ hlen hcap hm hrel hrow htag =>
      have hvs:=qyw hrel;subst hvs;refine⟨.string ⟨(ns.map fun n=>UInt8.ofNat n.toNat).toArray⟩,w,?_,⟨Below.refl _ _,Nat.le_refl _⟩,.str _ (by simp at hlen ⊢;omega)⟩
      rw [run_convert_bytes_string w src dst e p len cap h1 h3 h2];simp at hlen;cases p with
      |none =>
       cases ns with
       |nil=>simp [Conv.bytesToString];rfl
       |cons n ns =>
        obtain⟨_,a,ha,_⟩:=hrow 0 [.int .u8 n] rfl;cases ha
      |some a =>
       have hc:∀ j u,(ns.map (Value.int .u8))[j]?=some u→w.cell? (a.add j)=some u:=by
        intro j u hj;rw [List.getElem?_map] at hj;cases hn:ns[j]? with
        |none=>simp [hn] at hj
        |some n =>
         simp [hn] at hj;subst hj;obtain⟨hk,a',ha',hcell⟩:=hrow j [.int .u8 n] (by simp [hn])
         injection ha' with ha'
         subst ha';have:=(hcell 0 _ rfl).2;simp at hk;subst hk
         rwa [Nat.mul_one,qra,Nat.add_zero] at this
       have hl:=run_loadCells_list (P:=P) w a (ns.map (Value.int .u8)) hc;rw [List.length_map,hlen] at hl;rw [run_bytesToString w a len cap ns hl,foldl_push_bytes];simp [ByteArray.empty,ByteArray.emptyWithCapacity];rfl
    ·cases h
   ·rename_i e l hs hd;have h1:=qmD (hks.trans hs);have h2:=qo4 (hkd.trans hd);split at h
    ·rename_i hE;have h3:=qyj (qjw hT hE);split at h
     ·rename_i hlen;simp only [Option.some.injEq] at h
      subst h;cases hx with
      |str _ hl =>
       have hsz:(ByteArray.mk l.toArray).size=l.length:=by simp [ByteArray.size]
       refine⟨_,_,Lib.run_convert_string_bytes w src dst e ⟨l.toArray⟩ h1 h2 h3,⟨⟨rfl,rfl,rfl,by rw [Lib.bytesWorld_size];omega,fun k hk=>Lib.bytesWorld_at_old w e _ k hk⟩,Nat.le_succ _⟩,?_⟩
       rw [hsz];refine .sl _ _ _ 1 _ (l.map fun b=>[.int .u8 b.toNat]) _ (by simp) (grownCap_ge w _ _ _) (grownCap_le_maxLen w _ _ _ hl) ?_ ?_ trivial
       ·refine qci.2 ⟨by simp,fun i x v hx hv=>?_⟩
        rw [List.getElem?_map] at hx hv;cases hb:l[i]? with
        |none=>simp [hb] at hx
        |some b =>
         simp [hb] at hx hv;subst hx hv;exact .cons _ _ _ _ (.int _ _ (by have:=b.toNat_lt;simp [Lit.wf,IntKind.min,IntKind.max,IntKind.signed,IntKind.bits];omega)) .nil
       ·intro i vs hi;rw [List.getElem?_map] at hi;cases hb:l[i]? with
        |none=>simp [hb] at hi
        |some b =>
         simp [hb] at hi;subst hi;have hil:i < l.length:=(List.getElem?_eq_some_iff.1 hb).1;refine⟨rfl,_,rfl,fun j u hj=>?_⟩
         have hj0:j=0∧u=.int .u8 b.toNat:=by
          cases j with
          |zero=>simp at hj;exact⟨rfl,hj.symm⟩
          |succ j=>simp at hj
         obtain⟨rfl,rfl⟩:=hj0;rw [qbJ,qbJ,Nat.zero_add,Nat.mul_one,Nat.add_zero];show H.prot _ w.heap.size i∧_
         refine⟨⟨by rw [Lib.bytesWorld_size];omega,fun hB=>absurd hok.B (by omega),fun hm=>absurd (hok.ob_at hm).2 (Nat.lt_irrefl _),fun T hT hvv hb=>?_⟩,?_⟩
         ·have:=(hok.tk_at hT hvv).2;omega
         ·rw [Lib.bytesWorld_cell w e _ i (by rw [hsz];exact hil)]
          simp [List.getD,hb]
     ·cases h
    ·cases h
   ·cases h
section
variable {t : TypeId} (d : Nat) (w1 : World)
theorem qT7 {ms:Array (String×TypeId)} (hu:P.underlying t=some (.interface ms)):(Op.equalIn (d+1) t .nilIface .nilIface).run P w1=.ok true w1:=by simp [Op.equalIn,run_underlying hu]
theorem qQq {ms:Array (String×TypeId)} (hu:P.underlying t=some (.interface ms)) (s:TypeId) (v:Value):(Op.equalIn (d+1) t .nilIface (.iface s v)).run P w1=.ok false w1:=by simp [Op.equalIn,run_underlying hu]
theorem qQA {ms:Array (String×TypeId)} (hu:P.underlying t=some (.interface ms)) (s:TypeId) (v:Value):(Op.equalIn (d+1) t (.iface s v) .nilIface).run P w1=.ok false w1:=by simp [Op.equalIn,run_underlying hu]
theorem qVc {e:TypeId} (hu:P.underlying t=some (.slice e)) (a:Addr) (n c:Nat):(Op.equalIn (d+1) t (.slice (some a) n c) (.slice none 0 0)).run P w1=.ok false w1:=by simp [Op.equalIn,run_underlying hu]
theorem qV6 {e:TypeId} (hu:P.underlying t=some (.slice e)) (n c:Nat):(Op.equalIn (d+1) t (.slice none n c) (.slice none 0 0)).run P w1=.ok true w1:=by simp [Op.equalIn,run_underlying hu]
theorem qSX {a b:Array TypeId} {c:Bool} (hu:P.underlying t=some (.func a b c)):(Op.equalIn (d+1) t .nilFunc .nilFunc).run P w1=.ok true w1:=by simp [Op.equalIn,run_underlying hu]
theorem qPR {a b:Array TypeId} {c:Bool} (hu:P.underlying t=some (.func a b c)) (f:Fn) (x y:Array Value):(Op.equalIn (d+1) t .nilFunc (.func f x y)).run P w1=.ok false w1:=by simp [Op.equalIn,run_underlying hu]
theorem qPA {a b:Array TypeId} {c:Bool} (hu:P.underlying t=some (.func a b c)) (f:Fn) (x y:Array Value):(Op.equalIn (d+1) t (.func f x y) .nilFunc).run P w1=.ok false w1:=by simp [Op.equalIn,run_underlying hu]
end
theorem qx2 (hT:qaN P tb) {t:TypeId} {xo yo:Operand} {x y:PV} {v u:Value} {b:Bool} (hyo:∀ c,yo=.const c→u=c) (h:pequal tb t xo yo x y=some b) (hx:Rel H w x v) (hy:Rel H w y u) (op:BinOp) (w1:World) :
  (eqGuard op t xo yo v u).run P w1=.ok () w1∧(Op.equal t v u).run P w1=.ok b w1∧binOp .eql t v u=(do pure (.bool (← Op.equal t v u)))∧binOp .neq t v u=(do pure (.bool (!(← Op.equal t v u)))):=by
 unfold pequal at h
 cases hK:tb t with
 |none=>simp [hK] at h
 |some K =>
  have hkd:=qjw hT hK;simp only [hK] at h
  split at h
  ·rename_i hk;obtain⟨ms,hu⟩:=qBL (hkd.trans hk);split at h
   ·rename_i hc;simp only [Option.some.injEq] at h
    subst h;cases hx;cases hy
    refine⟨?_,qT7 9999 w1 hu,rfl,rfl⟩;cases xo<;>cases yo<;>first|exact Bool.noConfusion (show false=true from hc)|(cases op<;>rfl)
   ·cases h
  ·rename_i hk;obtain⟨ms,hu⟩:=qBL (hkd.trans hk);simp only [Option.some.injEq] at h
   subst h;cases hx;cases hy
   exact⟨by unfold eqGuard;split<;>rfl,qQq 9999 w1 hu _ _,rfl,rfl⟩
  ·rename_i hk;obtain⟨ms,hu⟩:=qBL (hkd.trans hk);simp only [Option.some.injEq] at h
   subst h;cases hx;cases hy
   exact⟨by unfold eqGuard;split<;>rfl,qQA 9999 w1 hu _ _,rfl,rfl⟩
  ·rename_i hk;obtain⟨a,c,d,hu⟩:=qRz (hkd.trans hk);simp only [Option.some.injEq] at h
   subst h;cases hx;cases hy
   exact⟨by unfold eqGuard;split<;>rfl,qSX 9999 w1 hu,rfl,rfl⟩
  ·rename_i hk;obtain⟨a,c,d,hu⟩:=qRz (hkd.trans hk);simp only [Option.some.injEq] at h
   subst h;cases hx;cases hy
   exact⟨by unfold eqGuard;split<;>rfl,qPR 9999 w1 hu _ _ _,rfl,rfl⟩
  ·rename_i hk;obtain⟨a,c,d,hu⟩:=qRz (hkd.trans hk);simp only [Option.some.injEq] at h
   subst h;cases hx;cases hy
   exact⟨by unfold eqGuard;split<;>rfl,qPA 9999 w1 hu _ _ _,rfl,rfl⟩
  ·rename_i hk;simp only [Option.some.injEq] at h
   subst h;cases hx;cases hy
   exact⟨by unfold eqGuard;split<;>rfl,run_equalIn_bool' w1 9999 t _ _ (qNT (hkd.trans hk)),rfl,rfl⟩
  ·rename_i fs held guard xs ys hk;split at h
   ·cases h
   ·rename_i hg;obtain⟨fields,hu,_,_,hguard⟩:=qyl (hkd.trans hk);have hq:=qRV hT 50 t _ _ b h v u hx hy 10000 (by omega) w1
    cases hx with
    |agg _ vs _ =>
     cases hy with
     |agg _ us _=>exact⟨run_eqGuard_agg w1 op t xo yo _ _ (by rw [← hguard];simpa using hg),hq,rfl,rfl⟩
  ·rename_i e xs tg ys tg' hk;have hu:=qo4 (hkd.trans hk);split at h
   ·rename_i hn;have hyv:u=.slice none 0 0:=by
     unfold qwT at hn;split at hn
     ·exact hyo _ rfl
     ·cases hn
    subst hyv;cases hx with
    |sl p len cap k _ vss _ hl hcap hm hrel hrow htag =>
     have hg:∀ (q:Option Addr),(eqGuard op t xo yo (.slice q len cap) (.slice none 0 0)).run P w1=.ok () w1:=fun q=>by unfold eqGuard;split<;>rfl
     have e1:∀ a,(Op.equal t (.slice (some a) len cap) (.slice none 0 0)).run P w1=.ok false w1:=fun a=>qVc 9999 w1 hu a len cap
     have e2:(Op.equal t (.slice none len cap) (.slice none 0 0)).run P w1=.ok true w1:=qV6 9999 w1 hu len cap;refine⟨hg p,?_,rfl,rfl⟩;split at h
     ·split at h
      ·cases h
       have:p=none:=htag;subst this;exact e2
      ·cases h
       cases p with
       |none=>exact absurd rfl htag
       |some a=>exact e1 a
      ·cases h
     ·rename_i z zs;cases h
      cases hrel with
      |cons _ v0 _ vs0 hv0 hvs0 =>
       obtain⟨_,a,rfl,_⟩:=hrow 0 v0 rfl;exact e1 a
   ·cases h
  ·cases h
theorem qmM (op:BinOp) (t:TypeId) (xo yo:Operand) (k k':IntKind) (m n:Int) (w1:World):(eqGuard op t xo yo (.int k m) (.int k' n)).run P w1=.ok () w1:=by
 unfold eqGuard;split<;>rfl
theorem qFy (op:BinOp) (t:TypeId) (xo yo:Operand) (a b:ByteArray) (w1:World):(eqGuard op t xo yo (.string a) (.string b)).run P w1=.ok () w1:=by
 unfold eqGuard;split<;>rfl
theorem qPJ (hT:qaN P tb) {op:BinOp} {t:TypeId} {xo yo:Operand} {x y r:PV} {v u:Value} (hyo:∀ c,yo=.const c→u=c) (h:pbin tb op t xo yo x y=some r) (hx:Rel H w x v) (hy:Rel H w y u) :
  ∃ z,((do eqGuard op t xo yo v u;binOp op t v u:Sem Value)).run P w=.ok z w∧Rel H w r z:=by
 unfold pbin at h
 split at h
 ·rename_i k a k' b;split at h
  ·cases h
  ·rename_i hb;simp only [Option.some.injEq] at h
   subst h;cases hx;cases hy
   refine⟨_,?_,.int _ _ (wf_wrap _ _)⟩;simp [qmM,binOp,Op.shift,hb]
 ·rename_i k a k' b;split at h
  ·cases h
  ·rename_i hb;simp only [Option.some.injEq] at h
   subst h;cases hx with
   |int _ _ hwf =>
    cases hy
    refine⟨_,?_,.int _ _ (qSB _ hwf)⟩;simp [qmM,binOp,Op.shift,hb]
 ·rename_i op' k a k' b h1 h2;split at h
  ·rename_i hk;subst hk;cases hx with
   |int _ _ hwf =>
    cases hy
    obtain⟨z,hz,hr⟩:=qOT (P:=P) (H:=H) (w:=w) h hwf t (fun e=>h1 e) (fun e=>h2 e)
    exact⟨z,by simp only [Sem.run_bind,qmM,Result.andThen_ok,hz],hr⟩
  ·cases h
 ·cases hx;cases hy
  obtain⟨z,hz,hr⟩:=qO9 (P:=P) (H:=H) (w:=w) h t;exact⟨z,by simp only [Sem.run_bind,qFy,Result.andThen_ok,hz],hr⟩
 ·rename_i x y hn1 hn2;obtain⟨b,hb,rfl⟩:=Option.map_eq_some_iff.1 h;obtain⟨h1,h2,h3,_⟩:=qx2 hT hyo hb hx hy .eql w;refine⟨.bool b,?_,.bool _⟩;simp only [Sem.run_bind,h1,Result.andThen_ok,h3,h2,Sem.run_pure]
 ·rename_i x y hn1 hn2;obtain⟨b,hb,rfl⟩:=Option.map_eq_some_iff.1 h;obtain⟨h1,h2,_,h3⟩:=qx2 hT hyo hb hx hy .neq w;refine⟨.bool (!b),?_,.bool _⟩;simp only [Sem.run_bind,h1,Result.andThen_ok,h3,h2,Sem.run_pure]
 ·cases h
theorem qS6 {op:UnOp} {x r:PV} {v:Value} (h:pun op x=some r) (hx:Rel H w x v) (w1:World):∃ z,(Op.unary op v).run P w1=.ok z w1∧Rel H w r z:=by
 unfold pun at h
 split at h
 ·simp only [Option.some.injEq] at h
  subst h;cases hx
  exact⟨_,by simp [Op.unary,Op.intArith],.int _ _ (wf_wrap _ _)⟩
 ·simp only [Option.some.injEq] at h
  subst h;cases hx
  exact⟨_,by simp [Op.unary],.bool _⟩
 ·cases h
end
end Go.Pv
set_option linter.unusedSimpArgs false
set_option linter.unusedVariables false
namespace Go.Pv
open Go.RowKit
section
variable {P : Program} {tb : Tab} {gl : Gl} {H : Gh} {σ : Store} {w : World}
theorem qjX {p:Option Addr} {k:Nat} {vss:List (List Value)} (hrow:RowAt H w p k vss) {a:Addr} (hp:p=some a) :
  ∀ (j:Nat) (v:Value),vss.flatten[j]?=some v→H.prot w (a.add j).block (a.add j).off∧w.cell? (a.add j)=some v:=by
 have key:∀ (vss:List (List Value)) (s:Nat),(∀ i vs,vss[i]?=some vs→vs.length=k∧CellsAt H w (a.add ((s+i) * k)) vs) →
   ∀ (j:Nat) (v:Value),vss.flatten[j]?=some v→H.prot w (a.add (s * k+j)).block (a.add (s * k+j)).off∧w.cell? (a.add (s * k+j))=some v:=by
  intro vss
  induction vss with
  |nil=>intro s _ j v h;simp at h
  |cons x xs ih =>
   intro s h j v hj;obtain⟨hl,hc⟩:=h 0 x rfl;rw [List.flatten_cons] at hj;by_cases hjl:j < x.length
   ·rw [List.getElem?_append_left hjl] at hj;have:=hc j v hj
    rwa [qra,Nat.add_zero] at this
   ·rw [List.getElem?_append_right (by omega)] at hj
    have:=ih (s+1) (fun i vs hi=>by
     obtain⟨h1,h2⟩:=h (i+1) vs (by simpa using hi)
     exact⟨h1,by rwa [show s+1+i=s+(i+1) by omega]⟩) (j - x.length) v hj
    have e:(s+1) * k+(j - x.length)=s * k+j:=by rw [Nat.add_mul,Nat.one_mul];omega
    rwa [e] at this
 intro j v hj;have:=key vss 0 (fun i vs hi=>by
  obtain⟨h1,a',ha',h2⟩:=hrow i vs hi;rw [hp] at ha';injection ha' with ha'
  subst ha';exact⟨h1,by rwa [Nat.zero_add]⟩) j v hj
 simpa using this
theorem qno {vss:List (List Value)} {k:Nat} (h:∀ vs∈vss,vs.length=k):vss.flatten.length=vss.length * k:=by
 induction vss with
 |nil=>simp
 |cons x xs ih =>
  rw [List.flatten_cons,List.length_append,h x (by simp),ih (fun vs hvs=>h vs (by simp [hvs])),List.length_cons,Nat.add_mul]
  omega
theorem qgs {b k:Nat} {vss:List (List Value)} (hk:∀ vs∈vss,vs.length=k)
  (h:∀ (j:Nat) (v:Value),vss.flatten[j]?=some v→H.prot w b j∧w.cell? ⟨b,j,none⟩=some v):RowAt H w (some ⟨b,0,none⟩) k vss:=by
 have key:∀ (vss:List (List Value)) (s:Nat),(∀ vs∈vss,vs.length=k)→(∀ (j:Nat) (v:Value),vss.flatten[j]?=some v→H.prot w b (s * k+j)∧w.cell? ⟨b,s * k+j,none⟩=some v) →
   ∀ i vs,vss[i]?=some vs→CellsAt H w ((⟨b,0,none⟩:Addr).add ((s+i) * k)) vs:=by
  intro vss
  induction vss with
  |nil=>intro s _ _ i vs h;simp at h
  |cons x xs ih =>
   intro s hk h i vs hi;have hx:=hk x (by simp)
   cases i with
   |zero =>
    simp at hi;subst hi;intro j v hj;rw [qra,qbJ,Nat.zero_add,Nat.add_zero];refine h j v ?_;rw [List.flatten_cons,List.getElem?_append_left (List.getElem?_eq_some_iff.1 hj).1];exact hj
   |succ i =>
    have:=ih (s+1) (fun vs hvs=>hk vs (by simp [hvs])) (fun j v hj=>by
     have:=h (x.length+j) v (by
      rw [List.flatten_cons,List.getElem?_append_right (by omega)]
      simpa using hj)
     have e:(s+1) * k+j=s * k+(x.length+j):=by rw [Nat.add_mul,Nat.one_mul];omega
     rwa [e]) i vs (by simpa using hi)
    rwa [show s+1+i=s+(i+1) by omega] at this
 intro i vs hi;refine⟨hk vs (List.mem_of_getElem? hi),_,rfl,?_⟩;have:=key vss 0 hk (fun j v hj=>by simpa using h j v hj) i vs hi
 rwa [Nat.zero_add] at this
theorem qJ9 {xs:List (List PV)} {vss:List (List Value)} {n:Nat} (h:RelLL H w xs vss) (ha:xs.all (fun y=>y.length == n&&y.all one)=true) :
  (∀ vs∈vss,vs.length=n)∧∀ v∈vss.flatten,v.oneCell'=true:=by
 have key:∀ vs∈vss,vs.length=n∧∀ v∈vs,v.oneCell'=true:=by
  intro vs hvs;obtain⟨i,hi⟩:=List.mem_iff_getElem?.1 hvs;obtain⟨hl,hg⟩:=qci.1 h;have hlt:i < xs.length:=by rw [hl];exact (List.getElem?_eq_some_iff.1 hi).1
  have h1:=hg i _ vs (List.getElem?_eq_getElem hlt) hi;have h2:=List.all_eq_true.1 ha _ (List.getElem_mem hlt);simp at h2;refine⟨by have:=h1.len;omega,qvN h1 (List.all_eq_true.2 h2.2)⟩
 refine⟨fun vs hvs=>(key vs hvs).1,fun v hv=>?_⟩
 obtain⟨vs,hvs,hv⟩:=List.mem_flatten.1 hv;exact (key vs hvs).2 v hv
theorem qJ6 {xs:List (List PV)} {vss:List (List Value)} {n:Nat} (h:RelLL H w xs vss) (ha:xs.all (fun y=>y.length == n)=true):∀ vs∈vss,vs.length=n:=by
 intro vs hvs;obtain⟨i,hi⟩:=List.mem_iff_getElem?.1 hvs;obtain⟨hl,hg⟩:=qci.1 h;have hlt:i < xs.length:=by rw [hl];exact (List.getElem?_eq_some_iff.1 hi).1
 have h1:=hg i _ vs (List.getElem?_eq_getElem hlt) hi;have h2:=List.all_eq_true.1 ha _ (List.getElem_mem hlt);simp at h2;have:=h1.len;omega
structure AppOk (P:Program) (w:World) (t t' ty e:TypeId) (i:TypeInfo) (z u:Value) (m:Nat) (news:List Value):Prop where
 no0:m=0→∀ (p:Option Addr) (len cap:Nat),len≤cap→(Builtin.append_ #[t,t'] ty #[.slice p len cap,u]).run P w=.ok (.slice p len cap) w
 nil0:0 < m→(m:Int)≤9223372036854775807→m * i.bytes≤140737488355328→(Builtin.append_ #[t,t'] ty #[.slice none 0 0,u]).run P w =
  .ok (.slice (some ⟨w.heap.size,0,none⟩) m (grownCap w m 0 e)) (w.drew.alloc (.cells (news.toArray++Builtin.zeroCells z.cells (grownCap w m 0 e - m)) e))
 grow:0 < m→∀ (b:Addr) (sLen sCap:Nat) (olds:List Value),olds.length=sLen * i.size→(∀ j v,olds[j]?=some v→w.cell? (b.add j)=some v)→sCap < sLen+m→((sLen+m:Nat):Int)≤9223372036854775807 →
  Builtin.nextslicecap (sLen+m) sCap * i.bytes≤281474976710656→(Builtin.append_ #[t,t'] ty #[.slice (some b) sLen sCap,u]).run P w =
   .ok (.slice (some ⟨w.heap.size,0,none⟩) (sLen+m) (grownCap w (sLen+m) sCap e)) (w.drew.alloc (.cells (olds.toArray++news.toArray++Builtin.zeroCells z.cells (grownCap w (sLen+m) sCap e - (sLen+m))) e))
 room:0 < m→∀ (g sLen sCap:Nat) (cur:Array Value),w.heap[g]?=some (.cells cur e (0,0))→(∀ u∈news,u.oneCell'=true)→sLen+m≤sCap→sLen * i.size+news.length≤cur.size →
  (Builtin.append_ #[t,t'] ty #[.slice (some ⟨g,0,none⟩) sLen sCap,u]).run P w =
   .ok (.slice (some ⟨g,0,none⟩) (sLen+m) sCap) (w.setRow g (cur.toList.take (sLen * i.size)++news++cur.toList.drop (sLen * i.size+news.length)).toArray)
theorem qoR:∀ {xs:List (List PV)} {vs:List (List Value)},RelLL H w xs vs→RelL H w xs.flatten vs.flatten
 |_,_,.nil=>.nil
 |_,_,.cons x v xs vs h ht=>by simp only [List.flatten_cons];exact h.app (qoR ht)
theorem qu0 (hT:qaN P tb) (hok:Ok gl H σ w) {mo:Bool} {t t' ty:TypeId} {s:PV} {ys:List (List PV)} {tg:Tag} {r:PV} {σ':Store} {v u:Value} (h:pappend tb mo t s (.sl ys tg) σ=some (r,σ')) (hs:Rel H w s v) {uss:List (List Value)} (hrel':RelLL H w ys uss)
  (hA:∀ e i z,P.underlying t=some (.slice e)→P.info? e=some i→i.zero=some z→(∀ us∈uss,us.length=i.size)→AppOk P w t t' ty e i z u ys.length uss.flatten) :
  ∃ z w',(Builtin.append_ #[t,t'] ty #[v,u]).run P w=.ok z w'∧Post gl H w r σ' z w':=by
 unfold pappend at h
 cases hK:tb t with
 |none=>simp [hK] at h
 |some K =>
  have hkd:=qjw hT hK;simp only [hK,pnews] at h
  split at h
  ·rename_i e xs tag ys' hk heq;injection heq with heq
   subst heq;have hu:=qo4 (hkd.trans hk);cases hE:tb e with
   |none=>simp [hE] at h
   |some E =>
    simp only [hE] at h
    obtain⟨i,z,hi,hz,hsz,hby,hzz,_⟩:=qgW (hT _ _ hE);split at h
    ·rename_i hcond;obtain⟨hbytes,hcount,hpos,hbpos,hzl,hall⟩:=hcond;simp only [Bool.and_eq_true] at hall;obtain⟨hyall,hxall⟩:=hall;cases hs with
     |sl p len cap k _ vss _ hl hcap hm hrel hrow htag =>
      ·obtain⟨m,hl'⟩:∃ m,ys.length=m:=⟨_,rfl⟩;have hxl:=qJ6 hrel hxall;obtain⟨hyl,hyone⟩:=qJ9 hrel' hyall;have hA:=hA e i z hu hi hz (by rw [hsz];exact hyl)
       rw [hl'] at hA;have hzcells:z.cells.size=E.size:=by have:=congrArg List.length hzz;simp at this;omega
       split at h
       ·-- nothing is appended
        simp only [Option.some.injEq,Prod.mk.injEq] at h
        obtain⟨rfl,rfl⟩:=h;have hm0:m=0:=by simpa using hl'.symm
        subst hm0;refine⟨.slice p len cap,w,?_,Post.same hok (.sl p len cap k xs vss tag hl hcap hm hrel hrow htag)⟩;exact hA.no0 rfl p len cap hcap
       ·rename_i hne;have hmpos:0 < m:=by
         rcases Nat.eq_zero_or_pos m with h0|h0
         ·exact absurd (List.eq_nil_of_length_eq_zero (hl'.trans h0)) hne
         ·exact h0
        have hnl:uss.flatten.length=m * i.size:=by rw [qno hyl,← hrel'.len,hl',hsz]
        have hol:vss.flatten.length=len * i.size:=by rw [qno hxl,← hrel.len,hl,hsz]
        have hrelall:RelLL H w (xs++ys) (vss++uss):=hrel.app hrel';have hlens:∀ vs∈vss++uss,vs.length=E.size:=fun vs hvs=>by
         rcases List.mem_append.1 hvs with h1|h1
         ·exact hxl vs h1
         ·exact hyl vs h1
        have hbytes':(len+m) * i.bytes≤140737488355328:=by rw [hby,← hl,← hl'];exact hbytes
        have hcount':len+m≤140737488355328:=by rw [← hl,← hl'];exact hcount
        have h63:((len+m:Nat):Int)≤9223372036854775807:=by omega
        have hm63:len+m≤maxLen:=by unfold maxLen;omega
        -- a row of the call's own in a new block
        have grown:∀ (old:Nat),old < len+m→∀ (rest:Array Value),rest.size=(grownCap w (len+m) old e - (len+m)) * i.size →
          (vss.flatten.toArray++uss.flatten.toArray++rest).size=grownCap w (len+m) old e * E.size:=by
         intro old ho rest hr;have hge:=grownCap_ge w (len+m) old e;simp only [Array.size_append,List.size_toArray,hol,hnl,hr,← Nat.add_mul,hsz]
         congr 1
         omega
        have hzc:∀ n,(Builtin.zeroCells z.cells n).size=n * i.size:=by
         intro n;rw [size_zeroCells,hzcells,hsz]
        have cellsOf:∀ (rest:Array Value) (j:Nat) (x:Value),(vss++uss).flatten[j]?=some x→(vss.flatten.toArray++uss.flatten.toArray++rest)[j]?=some x:=by
         intro rest j x hj;have hlt:=(List.getElem?_eq_some_iff.1 hj).1;rw [List.flatten_append] at hj hlt;rw [← Array.getElem?_toList,Array.toList_append,Array.toList_append,List.getElem?_append_left hlt];exact hj
        split at h
        ·cases h
        ·cases h
        ·cases h
        ·-- full: it must move
         have hcl:len=cap:=htag;subst hcl;have hrun:(Builtin.append_ #[t,t'] ty #[.slice p len len,u]).run P w =
           .ok (.slice (some ⟨w.heap.size,0,none⟩) (len+m) (grownCap w (len+m) len e)) (w.drew.alloc (.cells (vss.flatten.toArray++uss.flatten.toArray++Builtin.zeroCells z.cells (grownCap w (len+m) len e - (len+m))) e)):=by
          cases p with
          |none =>
           have hv0:vss=[]:=by
            cases vss with
            |nil=>rfl
            |cons x xs=>obtain⟨_,a',ha',_⟩:=hrow 0 x rfl;cases ha'
           subst hv0;have hl0:len=0:=by rw [← hl,hrel.len];rfl
           subst hl0;have:=hA.nil0 hmpos (by omega) (by have hb:=hbytes';simp only [Nat.zero_add] at hb;omega)
           simpa using this
          |some b=>exact hA.grow hmpos b len len vss.flatten hol (fun j x hj=>(qjX hrow rfl j x hj).2) (by omega) h63 (growslice_fits (by omega) hbytes')
         have hokd:=hok.of_below (qd3 w);have hge:=grownCap_ge w (len+m) len e;have hgm:=grownCap_le_maxLen w (len+m) len e hm63;have hcs:=grown len (by omega) _ (hzc _)
         cases mo with
         |true =>
         simp only [if_true,Option.some.injEq,Prod.mk.injEq] at h
         obtain⟨rfl,rfl⟩:=h;have hblk:(w.drew.alloc (.cells (vss.flatten.toArray++uss.flatten.toArray++Builtin.zeroCells z.cells (grownCap w (len+m) len e - (len+m))) e)).heap[w.heap.size]?=some (.cells ((vss++uss).flatten++(Builtin.zeroCells z.cells (grownCap w (len+m) len e - (len+m))).toList).toArray e (0,0)):=by
          have h1:=heap_alloc_new w.drew (.cells (vss.flatten.toArray++uss.flatten.toArray++Builtin.zeroCells z.cells (grownCap w (len+m) len e - (len+m))) e);have h2:vss.flatten.toArray++uss.flatten.toArray++Builtin.zeroCells z.cells (grownCap w (len+m) len e - (len+m))=((vss++uss).flatten++(Builtin.zeroCells z.cells (grownCap w (len+m) len e - (len+m))).toList).toArray:=by
           apply Array.ext';simp
          rw [← h2];exact h1
         obtain⟨hev,hok',hob⟩:=qrV hok ((qd3 w).alloc (Nat.le_refl _) _) (fun _=>Nat.le_succ _) (Nat.le_refl _) (Tm:=e+qgz) (fun h=>absurd h (Nat.not_lt.2 (Nat.le_add_left _ _))) hblk (qoR hrelall)
         refine⟨_,_,hrun,_,hev,hok',?_⟩;have e1:xs.length+ys.length=len+m:=by omega
         rw [e1];exact .osl _ 0 0 (len+m) _ E.size w.heap.size hob (fun _=>rfl) hge hgm
         |false =>
         simp only [Bool.false_eq_true,if_false,Option.some.injEq,Prod.mk.injEq] at h
         obtain⟨rfl,rfl⟩:=h;obtain⟨hev,hok',htk⟩:=qTr (ver:=len+m) (cap:=grownCap w (len+m) len e) (k:=E.size) (e:=e) hokd (by omega) hge hgm hcs
         have hev':=(Ev.of_below hok.B (qd3 w) (fun _=>Nat.le_succ _)).trans hev
         refine⟨_,_,hrun,_,hev',?_,?_⟩
         ·have e1:xs.length+ys.length=len+m:=by omega
          rw [e1];exact hok'
         ·refine .sl _ _ _ E.size _ (vss++uss) _ (by simp;omega) hge hgm (hrelall.mono hev'.mono) (qgs hlens fun j x hj=>?_) ⟨_,htk,(by show E.size≠0;omega),Nat.le_refl _,fun _=>⟨fun h0=>absurd h0 (by show len+m≠0;omega),fun _=>⟨rfl,rfl,rfl⟩⟩⟩
          have hlt:j < (len+m) * E.size:=by
           have h1:=(List.getElem?_eq_some_iff.1 hj).1;rw [List.flatten_append,List.length_append,hol,hnl,← Nat.add_mul,hsz] at h1;exact h1
          refine⟨⟨by simp,fun hB=>absurd hok.B (by have:w.heap.size < H.B:=hB;omega),fun hm2=>absurd (hok.ob_at hm2).2 (Nat.lt_irrefl _),fun T hT hvv hb=>?_⟩,?_⟩
          ·rcases List.mem_append.1 hT with hT|hT
           ·have:=(hok.tk_at hT hvv).2;have hb':T.blk=w.heap.size:=hb;omega
           ·simp at hT;subst hT;exact hlt
          ·have hc:=cellsOf (Builtin.zeroCells z.cells (grownCap w (len+m) len e - (len+m))) j x hj;have:(w.drew.alloc (.cells (vss.flatten.toArray++uss.flatten.toArray++Builtin.zeroCells z.cells (grownCap w (len+m) len e - (len+m))) e)).cell? ⟨w.drew.heap.size,j,none⟩=_:=World.cell?_alloc_new _ _ _ _;exact this.trans hc
        ·-- the newest state of an own row
         rename_i ti;split at h
         ·rename_i v0 k0 e0 htok;split at h
          ·rename_i hver;obtain⟨rfl,rfl,rfl⟩:=hver;simp only [Option.some.injEq,Prod.mk.injEq] at h
           obtain⟨rfl,rfl⟩:=h;obtain⟨T,hT0,hTnz,hle,hTv⟩:=htag;have hTs:(T.ver,T.k,T.e)=(xs.length,E.size,e0):=by
            rw [← hok.tkl,List.getElem?_map,hT0] at htok;simpa using htok
           simp only [Prod.mk.injEq] at hTs;obtain⟨hTver,hTk,hTe⟩:=hTs;by_cases hT00:T.ver=0
           ·-- begun as nil: it gets its block
            obtain rfl:=(hTv (by omega)).1 hT00
            have hl00:len=0:=by omega
            subst hl00;have hv0:vss=[]:=by
             cases vss with
             |nil=>rfl
             |cons x xs=>rw [hrel.len] at hl;simp at hl
            subst hv0;have hrun':(Builtin.append_ #[t,t'] ty #[.slice p 0 0,u]).run P w=.ok (.slice (some ⟨w.heap.size,0,none⟩) (0+m) (grownCap w (0+m) 0 e0)) (w.drew.alloc (.cells (([]:List (List Value)).flatten.toArray++uss.flatten.toArray++Builtin.zeroCells z.cells (grownCap w (0+m) 0 e0 - (0+m))) e0)):=by
             cases p with
             |none =>
              have:=hA.nil0 hmpos (by omega) (by have hb:=hbytes';simp only [Nat.zero_add] at hb;omega)
              simpa using this
             |some b=>exact hA.grow hmpos b 0 0 [] (by simp) (fun j x hj=>by simp at hj) (by omega) h63 (growslice_fits (by omega) hbytes')
            have hge:=grownCap_ge w (0+m) 0 e0;have hgm:=grownCap_le_maxLen w (0+m) 0 e0 hm63;have hcs':=grown 0 (by omega) _ (hzc _)
            generalize hcur':(([]:List (List Value)).flatten.toArray++uss.flatten.toArray++Builtin.zeroCells z.cells (grownCap w (0+m) 0 e0 - (0+m)))=cur' at hrun' hcs';have hokd:=hok.of_below (qd3 w);obtain⟨hev,hok'⟩:=qSn (ver:=0+m) (cap:=grownCap w (0+m) 0 e0) (k:=E.size) (e:=e0) hokd hT0 ⟨hT00,hTnz⟩ (by omega) (by omega) hge hgm hcs'
            have hev':=(Ev.of_below hok.B (qd3 w) (fun _=>Nat.le_succ _)).trans hev
            have hnewb:(w.drew.alloc (.cells cur' e0)).heap[w.heap.size]?=some (.cells cur' e0 (0,0)):=heap_alloc_new w.drew _;refine⟨_,_,hrun',_,hev',?_,?_⟩
            ·have e1:xs.length+ys.length=0+m:=by omega
             rw [e1];exact hok'
            ·refine .sl _ _ _ E.size _ ([]++uss) _ (by simp;omega) hge hgm (hrelall.mono hev'.mono) (qgs hlens fun j x hj=>?_) ⟨_,List.getElem?_set_self (List.getElem?_eq_some_iff.1 hT0).1,(by show E.size≠0;omega),Nat.le_refl _,fun _=>⟨fun h0=>absurd h0 (by show 0+m≠0;omega),fun _=>⟨rfl,rfl,rfl⟩⟩⟩
             have hlt:j < (0+m) * E.size:=by
              have h1:=(List.getElem?_eq_some_iff.1 hj).1;rw [List.flatten_append,List.length_append,hol,hnl,← Nat.add_mul,hsz] at h1;exact h1
             refine⟨⟨by simp,fun hB=>absurd hok.B (by have:w.heap.size < H.B:=hB;omega),fun hm2=>absurd (hok.ob_at hm2).2 (Nat.lt_irrefl _),fun U hU hvU hb=>?_⟩,?_⟩
             ·obtain⟨u',hu'⟩:=List.mem_iff_getElem?.1 hU;by_cases hut:u'=ti
              ·subst hut;rw [List.getElem?_set_self (List.getElem?_eq_some_iff.1 hT0).1] at hu';injection hu' with hu'
               subst hu';exact hlt
              ·rw [List.getElem?_set_ne (fun e=>hut e.symm)] at hu'
               have:=(hok.tk_at (List.mem_of_getElem? hu') hvU).2;have hb':U.blk=w.heap.size:=hb;omega
             ·rw [cell_of_row _ w.heap.size j cur' e0 (0,0) hnewb,← hcur'];exact cellsOf _ j x hj
           have hTnv:¬ T.vir:=fun hh=>hT00 hh.1
           obtain⟨rfl,hcapT,hkT⟩:=(hTv (by omega)).2 hT00
           obtain⟨hBT,hTob,ob,hcur,hTO⟩:=hok.tok ti T hT0 hTnv;obtain⟨cur,fz,rfl,hvc',hcm,hcs⟩:∃ cur fz,ob=.cells cur T.e fz∧(T.ver≤maxLen→fz=(0,0)∧T.ver≤T.cap)∧T.cap≤maxLen∧cur.size=T.cap * T.k:=by
            rcases hTO with⟨_,hc⟩|⟨hz,_⟩
            ·exact hc
            ·exact absurd hz hTnz
           obtain⟨rfl,hvc⟩:=hvc' (by omega)
           rw [hTe] at hcur;have hTlen:T.ver=len:=by omega
           have holds:∀ (j:Nat) (x:Value),vss.flatten[j]?=some x→w.cell? ((⟨T.blk,0,none⟩:Addr).add j)=some x:=fun j x hj=>(qjX hrow rfl j x hj).2
           by_cases hroom:len+m≤cap
           ·-- there is room
            have hfit:len * i.size+uss.flatten.length≤cur.size:=by
             rw [hnl,hcs,← Nat.add_mul,hsz,hTk,← hcapT];exact Nat.mul_le_mul_right _ hroom
            have hrun:=hA.room hmpos T.blk len cap cur hcur hyone hroom hfit;generalize hcur':(cur.toList.take (len * i.size)++uss.flatten++cur.toList.drop (len * i.size+uss.flatten.length)).toArray=cur' at hrun;have hlen':cur'.size=cap * E.size:=by
             rw [← hcur'];simp only [List.size_toArray,List.length_append,List.length_take,List.length_drop,Array.length_toList];rw [hcs,hTk,← hcapT] at hfit ⊢;omega
            have hpre:∀ off,off < len * E.size→cur'[off]?=cur[off]?:=by
             intro off hoff;rw [← hcur',List.getElem?_toArray,List.append_assoc,List.getElem?_append_left (by simp;rw [hsz];rw [hsz] at hfit;omega),List.getElem?_take,if_pos (by rw [hsz];exact hoff)]
             simp
            have hset:=qN1 (T':=⟨T.blk,len+m,cap,E.size,e0⟩) (w':=w.setRow T.blk cur') hok hT0 hT00 hTnz hTk.symm (by show T.ver < len+m;omega) hroom hm (.of_eq rfl) rfl rfl rfl (by rw [size_setRow];exact Nat.le_refl _) (.inl rfl)
             (fun k _ hk=>setRow_other w T.blk k _ hk) (by rw [hTe];exact hcur) (setRow_heap w T.blk cur cur' e0 _ hcur) hlen' (fun _ off hoff=>hpre off (by rw [← hTlen,← hTk];exact hoff))
            obtain⟨hev,hok'⟩:=hset;refine⟨_,_,hrun,_,hev,?_,?_⟩
            ·have e1:xs.length+ys.length=len+m:=by omega
             rw [e1];exact hok'
            ·refine .sl _ _ _ E.size _ (vss++uss) _ (by simp;omega) hroom hm (hrelall.mono hev.mono) (qgs hlens fun j x hj=>?_) ⟨_,List.getElem?_set_self (List.getElem?_eq_some_iff.1 hT0).1,(by show E.size≠0;omega),Nat.le_refl _,fun _=>⟨fun h0=>absurd h0 (by show len+m≠0;omega),fun _=>⟨rfl,rfl,rfl⟩⟩⟩
             have hlt:j < (len+m) * E.size:=by
              have h1:=(List.getElem?_eq_some_iff.1 hj).1;rw [List.flatten_append,List.length_append,hol,hnl,← Nat.add_mul,hsz] at h1;exact h1
             have hcell:cur'[j]?=some x:=by
              rw [List.flatten_append] at hj;by_cases hjl:j < len * E.size
              ·rw [hpre j hjl];have h1:=holds j x (by rwa [List.getElem?_append_left (by rw [hol,hsz];exact hjl)] at hj)
               rw [qbJ,Nat.zero_add,cell_of_row w T.blk j cur e0 (0,0) hcur] at h1;exact h1
              ·rw [List.getElem?_append_right (by rw [hol,hsz];omega)] at hj
               have hl2:(cur.toList.take (len * i.size)).length=len * i.size:=by simp;omega
               rw [← hcur',List.getElem?_toArray,List.append_assoc,List.getElem?_append_right (by rw [hl2,hsz];omega),hl2]
               rw [hol] at hj;rw [List.getElem?_append_left (List.getElem?_eq_some_iff.1 hj).1];exact hj
             have hblt:=qak hcur;refine⟨⟨by rw [size_setRow];exact hblt,fun hB=>absurd hBT (by have:T.blk < H.B:=hB;omega),hTob,fun U hU hvU hb=>?_⟩,?_⟩
             ·obtain⟨u,hu'⟩:=List.mem_iff_getElem?.1 hU;by_cases hut:u=ti
              ·subst hut;rw [List.getElem?_set_self (List.getElem?_eq_some_iff.1 hT0).1] at hu';injection hu' with hu'
               subst hu';exact hlt
              ·rw [List.getElem?_set_ne (fun e=>hut e.symm)] at hu'
               exact absurd (hok.tnd u ti U T hu' hT0 hvU hTnv hb) hut
             ·rw [cell_of_row _ T.blk j cur' e0 (0,0) (setRow_heap w T.blk cur cur' e0 _ hcur)];exact hcell
           ·-- it must move
            have hrun:=hA.grow hmpos ⟨T.blk,0,none⟩ len cap vss.flatten hol holds (by omega) h63 (growslice_fits (by omega) hbytes')
            have hge:=grownCap_ge w (len+m) cap e0;have hgm:=grownCap_le_maxLen w (len+m) cap e0 hm63;have hcs':=grown cap (by omega) _ (hzc _)
            generalize hcur':(vss.flatten.toArray++uss.flatten.toArray++Builtin.zeroCells z.cells (grownCap w (len+m) cap e0 - (len+m)))=cur' at hrun hcs';have hnewb:(w.drew.alloc (.cells cur' e0)).heap[w.heap.size]?=some (.cells cur' e0 (0,0)):=heap_alloc_new w.drew _;have hset:=qN1 (T':=⟨w.heap.size,len+m,grownCap w (len+m) cap e0,E.size,e0⟩) (w':=w.drew.alloc (.cells cur' e0)) hok hT0 hT00 hTnz hTk.symm (by show T.ver < len+m;omega) hge hgm (fun _=>Nat.le_succ _) rfl rfl rfl (by simp) (.inr (Nat.le_refl _))
             (fun k hk _=>by rw [heap_alloc_old (w:=w.drew) (h:=hk)];rfl) (by rw [hTe];exact hcur) hnewb hcs' (fun hb off _=>by have:w.heap.size=T.blk:=hb;have:=qak hcur;omega)
            obtain⟨hev,hok'⟩:=hset;refine⟨_,_,hrun,_,hev,?_,?_⟩
            ·have e1:xs.length+ys.length=len+m:=by omega
             rw [e1];exact hok'
            ·refine .sl _ _ _ E.size _ (vss++uss) _ (by simp;omega) hge hgm (hrelall.mono hev.mono) (qgs hlens fun j x hj=>?_) ⟨_,List.getElem?_set_self (List.getElem?_eq_some_iff.1 hT0).1,(by show E.size≠0;omega),Nat.le_refl _,fun _=>⟨fun h0=>absurd h0 (by show len+m≠0;omega),fun _=>⟨rfl,rfl,rfl⟩⟩⟩
             have hlt:j < (len+m) * E.size:=by
              have h1:=(List.getElem?_eq_some_iff.1 hj).1;rw [List.flatten_append,List.length_append,hol,hnl,← Nat.add_mul,hsz] at h1;exact h1
             refine⟨⟨by simp,fun hB=>absurd hok.B (by have:w.heap.size < H.B:=hB;omega),fun hm2=>absurd (hok.ob_at hm2).2 (Nat.lt_irrefl _),fun U hU hvU hb=>?_⟩,?_⟩
             ·obtain⟨u,hu'⟩:=List.mem_iff_getElem?.1 hU;by_cases hut:u=ti
              ·subst hut;rw [List.getElem?_set_self (List.getElem?_eq_some_iff.1 hT0).1] at hu';injection hu' with hu'
               subst hu';exact hlt
              ·rw [List.getElem?_set_ne (fun e=>hut e.symm)] at hu'
               have:=(hok.tk_at (List.mem_of_getElem? hu') hvU).2;have hb':U.blk=w.heap.size:=hb;omega
             ·rw [cell_of_row _ w.heap.size j cur' e0 (0,0) hnewb,← hcur'];exact cellsOf _ j x hj
          ·cases h
         ·cases h
    ·cases h
  ·cases h
theorem qJU (hT:qaN P tb) (hok:Ok gl H σ w) {mo:Bool} {t ty:TypeId} {s:PV} {ys:List (List PV)} {tg:Tag} {r:PV} {σ':Store} {v u:Value} (h:pappend tb mo t s (.sl ys tg) σ=some (r,σ')) (hs:Rel H w s v) (hx:Rel H w (.sl ys tg) u) :
  ∃ z w',(Builtin.append_ #[t,t] ty #[v,u]).run P w=.ok z w'∧Post gl H w r σ' z w':=by
 cases hx with
 |sl q m c k _ uss _ hl hcm hm hrel hrow htag =>
  refine qu0 (tg:=tg) hT hok h hs hrel ?_;intro e i z hu hi hz hyl;rw [hl];have hnl:uss.flatten.length=m * i.size:=by rw [qno hyl,← hrel.len,hl]
  have hq:0 < m→∃ a,q=some a:=by
   intro hmpos;have hlt:0 < uss.length:=by rw [← hrel.len,hl];exact hmpos
   obtain⟨_,a,ha,_⟩:=hrow 0 uss[0] (List.getElem?_eq_getElem hlt);exact⟨a,ha⟩
  refine⟨fun h0 p len cap hcap=>?_,fun hmpos h1 h2=>?_,fun hmpos b sLen sCap olds ho hc hg h63 hfit=>?_,fun hmpos g sLen sCap cur hcur h1 hroom hfit=>?_⟩
  ·subst h0;have hf:(Builtin.firstCells i.size 0 (.slice q 0 c)).run P w=.ok #[] w:=by
    cases q<;>simp [Builtin.firstCells,loadCells,loadCellsFrom]
   cases p<;>simp [Builtin.append_,run_underlying hu,sizeOf,typeInfo,hi,Builtin.lenOf,hf,hcap,storeCells]
  ·obtain⟨a,rfl⟩:=hq hmpos;exact run_append_nil (P:=P) w t ty e i z hu hi hz a m c uss.flatten hnl (fun j x hj=>(qjX hrow rfl j x hj).2) hmpos h1 (by omega)
  ·obtain⟨a,rfl⟩:=hq hmpos;exact run_append_grow (P:=P) w t ty e i z hu hi hz b sLen sCap olds ho hc a m c uss.flatten hnl (fun j x hj=>(qjX hrow rfl j x hj).2) hg h63 hfit
  ·obtain⟨a,rfl⟩:=hq hmpos;exact run_append_room (P:=P) w t ty e i hu hi g sLen sCap cur hcur a m c uss.flatten hnl (fun j x hj=>(qjX hrow rfl j x hj).2) h1 hroom hfit
theorem qC5:∀ (l:qU),RelLL H w (l.map fun b=>[PV.int .u8 (b.toNat:Int)]) (l.map fun b=>[Value.int .u8 (b.toNat:Int)])
 |[]=>.nil
 |b::l=>by
  refine .cons _ _ _ _ (.cons _ _ _ _ (.int _ _ ?_) .nil) (qC5 l);have:=b.toNat_lt;simp [Lit.wf,IntKind.min,IntKind.max,IntKind.signed,IntKind.bits];omega
theorem qyd:∀ (l:qU),(l.map fun b=>[Value.int .u8 (b.toNat:Int)]).flatten=Lib.strCells ⟨l.toArray⟩
 |[]=>rfl
 |b::l=>by
  have:=qyd l;simp only [Lib.strCells] at this ⊢;simp at this ⊢;exact this
theorem qxH (hT:qaN P tb) (hok:Ok gl H σ w) {mo:Bool} {t t' ty:TypeId} (hu':P.underlying t'=some .string) {s:PV} {l:List UInt8} {r:PV} {σ':Store} {v:Value} (h:pappend tb mo t s (.str l) σ=some (r,σ')) (hs:Rel H w s v) :
  ∃ z w',(Builtin.append_ #[t,t'] ty #[v,.string ⟨l.toArray⟩]).run P w=.ok z w'∧Post gl H w r σ' z w':=by
 have h:pappend tb mo t s (.sl (l.map fun b=>[.int .u8 b.toNat]) .non) σ=some (r,σ'):=h
 have hrel:=qC5 (H:=H) (w:=w) l;have hsz:(ByteArray.mk l.toArray).size=l.length:=by simp [ByteArray.size]
 have hfl:=qyd l;refine qu0 hT hok h hs hrel ?_;intro e i z hu hi hz hyl;rw [List.length_map,hfl];have hs1:0 < l.length→i.size=1:=by
  intro hl;cases l with
  |nil=>simp at hl
  |cons b l =>
   have:=hyl [Value.int .u8 (b.toNat:Int)] (by simp)
   simpa using this.symm
 refine⟨fun h0 p len cap hcap=>?_,fun hmpos h1 h2=>?_,fun hmpos b sLen sCap olds ho hc hg h63 hfit=>?_,fun hmpos g sLen sCap cur hcur h1 hroom hfit=>?_⟩
 ·have:l=[]:=List.length_eq_zero_iff.1 h0;subst this;cases p<;>simp [Builtin.append_,run_underlying hu,run_underlying hu',sizeOf,typeInfo,hi,Builtin.lenOf,hcap,storeCells,Builtin.firstCells,ByteArray.size]
 ·have:=run_append_nil_string (P:=P) w t t' ty e i z hu hu' hi hz ⟨l.toArray⟩ (by rw [hsz];exact hmpos) (by rw [hsz];exact h1) (by rw [hsz];omega)
  rw [hsz] at this;rw [this]
  congr 3
  simp [Lib.strCells]
 ·have:=Lib.run_append_grow_string (P:=P) w t t' ty e i z hu hu' hi hz b sLen sCap olds ho hc ⟨l.toArray⟩ (by rw [hsz];exact hg) (by rw [hsz];exact h63) (by rw [hsz];exact hfit)
  rw [hsz] at this;exact this
 ·have:=Lib.run_append_room_string (P:=P) w t t' ty e i hu hu' hi (hs1 hmpos) g sLen sCap cur hcur ⟨l.toArray⟩ (by rw [hsz];exact hroom) (by rw [hsz];rw [hs1 hmpos,Lib.strCells_length,hsz] at hfit;omega)
  rw [hsz] at this;rw [hs1 hmpos,Lib.strCells_length,hsz,Nat.mul_one];exact this
end
end Go.Pv
set_option linter.unusedSimpArgs false
set_option linter.unusedVariables false
namespace Go.Pv
open Go.RowKit
section
variable {H H' : Gh} {w w' : World}
mutual
theorem quw (hp:∀ b off,H.prot w b off→H'.prot w' b off∧∀ s,w'.cell? ⟨b,off,s⟩=w.cell? ⟨b,off,s⟩) (hp2:∀ b off,H.prot2 w b off→H'.prot2 w' b off∧∀ s,w'.cell? ⟨b,off,s⟩=w.cell? ⟨b,off,s⟩) :
  ∀ {x:PV} {v:Value},Rel H w x v→Rel H' w' (lock x) v
 |_,_,.top v=>by simp only [lock];exact .top v
 |_,_,.bool b=>by simp only [lock];exact .bool b
 |_,_,.int k n h=>by simp only [lock];exact .int k n h
 |_,_,.str l h=>by simp only [lock];exact .str l h
 |_,_,.nilp=>by simp only [lock];exact .nilp
 |_,_,.ptr id off b h=>by simp only [lock];exact .top _
 |_,_,.ref a cs vs h hc=>by
  simp only [lock];exact .ref a _ vs (qcQ hp hp2 h) (fun j v e=>⟨(hp2 _ _ (hc j v e).1).1,by rw [← (hc j v e).2];exact (hp2 _ _ (hc j v e).1).2 _⟩)
 |_,_,.osl ..=>by simp only [lock];exact .top _
 |_,_,.sl p len cap k xs vss t hl hcap hm h hr ht=>by
  simp only [lock];exact .sl p len cap k _ vss .non (by rw [← hl];exact qxL xs) hcap hm (qxM hp hp2 h) (fun i vs e=>⟨(hr i vs e).1,by
   obtain⟨_,a,ha,hc⟩:=hr i vs e;exact⟨a,ha,fun j v e=>⟨(hp _ _ (hc j v e).1).1,by rw [← (hc j v e).2];exact (hp _ _ (hc j v e).1).2 _⟩⟩⟩) trivial
 |_,_,.yld t T h hk=>by simp only [lock];exact .top _
 |_,_,.fn f caps vs h=>by simp only [lock];exact .fn f _ vs (qcQ hp hp2 h)
 |_,_,.mth f caps vs h=>by simp only [lock];exact .mth f _ vs (qcQ hp hp2 h)
 |_,_,.nilf=>by simp only [lock];exact .nilf
 |_,_,.iface t x v h=>by simp only [lock];exact .iface t _ v (quw hp hp2 h)
 |_,_,.nili=>by simp only [lock];exact .nili
 |_,_,.agg cs vs h=>by simp only [lock];exact .agg _ vs (qcQ hp hp2 h)
 |_,_,.tup cs vs h=>by simp only [lock];exact .tup _ vs (qcQ hp hp2 h)
theorem qcQ (hp:∀ b off,H.prot w b off→H'.prot w' b off∧∀ s,w'.cell? ⟨b,off,s⟩=w.cell? ⟨b,off,s⟩) (hp2:∀ b off,H.prot2 w b off→H'.prot2 w' b off∧∀ s,w'.cell? ⟨b,off,s⟩=w.cell? ⟨b,off,s⟩) :
  ∀ {x:List PV} {v:List Value},RelL H w x v→RelL H' w' (qdf x) v
 |_,_,.nil=>by simp only [qdf];exact .nil
 |_,_,.cons x v xs vs h ht=>by simp only [qdf];exact .cons _ v _ vs (quw hp hp2 h) (qcQ hp hp2 ht)
theorem qxM (hp:∀ b off,H.prot w b off→H'.prot w' b off∧∀ s,w'.cell? ⟨b,off,s⟩=w.cell? ⟨b,off,s⟩) (hp2:∀ b off,H.prot2 w b off→H'.prot2 w' b off∧∀ s,w'.cell? ⟨b,off,s⟩=w.cell? ⟨b,off,s⟩) :
  ∀ {x:List (List PV)} {v:List (List Value)},RelLL H w x v→RelLL H' w' (qad x) v
 |_,_,.nil=>by simp only [qad];exact .nil
 |_,_,.cons x v xs vs h ht=>by simp only [qad];exact .cons _ v _ vs (qcQ hp hp2 h) (qxM hp hp2 ht)
theorem qxL:∀ (xs:qR),(qad xs).length=xs.length
 |[]=>rfl
 |x::xs=>by simp only [qad,List.length_cons,qxL xs]
end
theorem qr0:∀ (xs:qR),(qaa xs).length=xs.length
 |[]=>rfl
 |x::xs=>by simp only [qaa,List.length_cons,qr0 xs]
mutual
theorem qut (hp:∀ b off,H.prot w b off→H'.prot w' b off∧∀ s,w'.cell? ⟨b,off,s⟩=w.cell? ⟨b,off,s⟩):∀ {x:PV} {v:Value},Rel H w x v→Rel H' w' (shut x) v
 |_,_,.top v=>by simp only [shut];exact .top v
 |_,_,.bool b=>by simp only [shut];exact .bool b
 |_,_,.int k n h=>by simp only [shut];exact .int k n h
 |_,_,.str l h=>by simp only [shut];exact .str l h
 |_,_,.nilp=>by simp only [shut];exact .nilp
 |_,_,.ptr id off b h=>by simp only [shut];exact .top _
 |_,_,.ref a cs vs h hc=>by simp only [shut];exact .top _
 |_,_,.osl ..=>by simp only [shut];exact .top _
 |_,_,.sl p len cap k xs vss t hl hcap hm h hr ht=>by
  simp only [shut];exact .sl p len cap k _ vss .non (by rw [← hl];exact qr0 xs) hcap hm (qqV hp h) (fun i vs e=>⟨(hr i vs e).1,by
   obtain⟨_,a,ha,hc⟩:=hr i vs e;exact⟨a,ha,fun j v e=>⟨(hp _ _ (hc j v e).1).1,by rw [← (hc j v e).2];exact (hp _ _ (hc j v e).1).2 _⟩⟩⟩) trivial
 |_,_,.yld t T h hk=>by simp only [shut];exact .top _
 |_,_,.fn f caps vs h=>by simp only [shut];exact .fn f _ vs (qfF hp h)
 |_,_,.mth f caps vs h=>by simp only [shut];exact .mth f _ vs (qfF hp h)
 |_,_,.nilf=>by simp only [shut];exact .nilf
 |_,_,.iface t x v h=>by simp only [shut];exact .iface t _ v (qut hp h)
 |_,_,.nili=>by simp only [shut];exact .nili
 |_,_,.agg cs vs h=>by simp only [shut];exact .agg _ vs (qfF hp h)
 |_,_,.tup cs vs h=>by simp only [shut];exact .tup _ vs (qfF hp h)
theorem qfF (hp:∀ b off,H.prot w b off→H'.prot w' b off∧∀ s,w'.cell? ⟨b,off,s⟩=w.cell? ⟨b,off,s⟩):∀ {x:List PV} {v:List Value},RelL H w x v→RelL H' w' (qa4 x) v
 |_,_,.nil=>by simp only [qa4];exact .nil
 |_,_,.cons x v xs vs h ht=>by simp only [qa4];exact .cons _ v _ vs (qut hp h) (qfF hp ht)
theorem qqV (hp:∀ b off,H.prot w b off→H'.prot w' b off∧∀ s,w'.cell? ⟨b,off,s⟩=w.cell? ⟨b,off,s⟩):∀ {x:List (List PV)} {v:List (List Value)},RelLL H w x v→RelLL H' w' (qaa x) v
 |_,_,.nil=>by simp only [qaa];exact .nil
 |_,_,.cons x v xs vs h ht=>by simp only [qaa];exact .cons _ v _ vs (qfF hp h) (qqV hp ht)
end
end
def sub (H:Gh) (w:World):Gh where
 B:=w.heap.size
 base:=H.prot w
 aux:=fun b off=>H.prot2 w b off∨b∈H.ob
 ob:=[]
 tk:=[]
 K:=(w.heap.size,[])
section
variable {gl : Gl} {H : Gh} {σ : Store} {w : World}
theorem qIe {b off:Nat} (h:H.prot w b off):(sub H w).prot w b off:=⟨h.1,fun _=>h,by simp [sub],by simp [sub]⟩
theorem qDq (hok:Ok gl H σ w) {b off:Nat} (h:H.prot2 w b off):(sub H w).prot2 w b off:=by
 refine .inr ⟨?_,by simp [sub],.inl h⟩
 rcases h with h|h
 ·exact h.1
 ·exact Nat.lt_of_lt_of_le h.1 hok.B
theorem qDM (hok:Ok gl H σ w) {x:PV} {v:Value} (h:Rel H w x v):Rel (sub H w) w (qAP σ.objs x) v:=by
 have plain:∀ {x:PV} {v:Value},Rel H w x v→Rel (sub H w) w (lock x) v:=fun h=>quw (fun b off hp=>⟨qIe hp,fun _=>rfl⟩) (fun b off hp=>⟨qDq hok hp,fun _=>rfl⟩) h
 cases h
 case ptr id off b hb =>
  have hl:id < σ.objs.length:=by rw [← hok.len];exact (List.getElem?_eq_some_iff.1 hb).1
  simp only [qAP,List.getElem?_eq_getElem hl];obtain⟨hB,vs,ext,T,he,hr⟩:=hok.obj id b _ hb (List.getElem?_eq_getElem hl);refine .ref _ _ (vs.drop off) (qcQ (fun b off hp=>⟨qIe hp,fun _=>rfl⟩) (fun b off hp=>⟨qDq hok hp,fun _=>rfl⟩) (hr.drop off)) (fun j u hj=>?_)
  rw [qbJ];refine⟨.inr ⟨qak he,by simp [sub],.inr (List.mem_of_getElem? hb)⟩,?_⟩
  rw [cell_of_row w b (off+j) (vs++ext).toArray T (0,0) he];rw [List.getElem?_drop] at hj;simpa using qCd hj
 all_goals
  simp only [qAP];exact plain (by first
   |exact .top _
   |exact .bool _
   |exact .int _ _ ‹_›
   |exact .str _ ‹_›
   |exact .nilp
   |exact .ref _ _ _ ‹_› ‹_›
   |exact .sl _ _ _ _ _ _ _ ‹_› ‹_› ‹_› ‹_› ‹_› ‹_›
   |exact .osl _ _ _ _ _ _ _ ‹_› ‹_› ‹_› ‹_›
   |exact .fn _ _ _ ‹_›
   |exact .mth _ _ _ ‹_›
   |exact .yld _ _ ‹_› ‹_›
   |exact .nilf
   |exact .iface _ _ _ ‹_›
   |exact .nili
   |exact .agg _ _ ‹_›
   |exact .tup _ _ ‹_›)
theorem qym (hok:Ok gl H σ w):∀ {xs:List PV} {vs:List Value},RelL H w xs vs→RelL (sub H w) w (xs.map (qAP σ.objs)) vs:=by
 intro xs
 induction xs with
 |nil=>intro vs h;cases h;exact .nil
 |cons x xs ih =>
  intro vs h;cases h with
  |cons _ v _ vs h ht=>exact .cons _ _ _ _ (qDM hok h) (ih ht)
theorem qQj (hok:Ok gl H σ w) {x:PV} {v:Value} (h:Rel H w x v):Rel (sub H w) w (view σ.objs x) v:=by
 unfold view;split
 ·rename_i f caps;cases h with
  |fn _ _ vs h=>exact .fn f _ vs (qym hok h)
 ·rename_i f caps;cases h with
  |mth _ _ vs h=>exact .mth f _ vs (qym hok h)
 ·exact qDM hok h
theorem qKA (hok:Ok gl H σ w):∀ {xs:List PV} {vs:List Value},RelL H w xs vs→RelL (sub H w) w (xs.map (view σ.objs)) vs:=by
 intro xs
 induction xs with
 |nil=>intro vs h;cases h;exact .nil
 |cons x xs ih =>
  intro vs h;cases h with
  |cons _ v _ vs h ht=>exact .cons _ _ _ _ (qQj hok h) (ih ht)
end
structure SimP (P:Program) (gl:Gl) (f:FuncId) (F:List PV→Option PV):Prop where
 ent : ∃ fn, P.funcs[f]? = some fn ∧ (fn.name == "runtime.NumGoroutine") = false ∧ fn.body.isNone = false
 run:∀ (args:List PV) (x:PV),F args=some x→∀ (H:Gh) (w:World) (vs:List Value),H.B=w.heap.size→H.ob=[]→H.tk=[]→(∀ b o,gl b=some o→w.heap[b]?=some o)→RelL H w args vs →
  Calls P f vs.toArray w fun e w'=>∃ v,e=.returned v∧(Below w.heap.size w w'∧Dr gl w w')∧Rel { H with aux:=fun _ _=>False } w' x v
structure SimS (P:Program) (gl:Gl) (f:FuncId) (D:List PV→Store→Option (PV×Store)):Prop where
 ent : ∃ fn, P.funcs[f]? = some fn ∧ (fn.name == "runtime.NumGoroutine") = false ∧ fn.body.isNone = false
 run:∀ (args:List PV) (σ:Store) (x:PV) (σ':Store),D args σ=some (x,σ')→∀ (H:Gh) (w:World) (vs:List Value),Ok gl H σ w→RelL H w args vs →
  Calls P f vs.toArray w fun e w'=>∃ v,e=.returned v∧Post gl H w x σ' v w'
def qFP (gl:Gl) (H:Gh) (w:World) (σ':Store) (w':World):Prop:=∃ H',Ev gl H w H' w'∧Ok gl H' σ' w'
structure SimM (P:Program) (gl:Gl) (f:FuncId) (D:List PV→Store→Option (PR×Store)):Prop where
 ent : ∃ fn, P.funcs[f]? = some fn ∧ (fn.name == "runtime.NumGoroutine") = false ∧ fn.body.isNone = false
 run:∀ (args:List PV) (σ:Store) (x:PV) (σ':Store),D args σ=some (.val x,σ')→∀ (H:Gh) (w:World) (vs:List Value),Ok gl H σ w→RelL H w args vs →
  Calls P f vs.toArray w fun e w'=>∃ v,e=.returned v∧Post gl H w x σ' v w'
 pan:∀ (args:List PV) (σ:Store) (x:PV) (σ':Store),D args σ=some (.pan x,σ')→∀ (H:Gh) (w:World) (vs:List Value),Ok gl H σ w→RelL H w args vs →
  Calls P f vs.toArray w fun e w'=>e=.panicked [{ v:=toV x,recovered:=false }]∧qFP gl H w σ' w'
def YCalls (P:Program) (l:Nat) (args:Array Value) (w:World) (R:Ending→World→Prop):Prop :=
 ∃ f tmps assign body,(Instr.yield l args).run P w=.ok (.round l f tmps assign body) w∧RoundIn Fence.wide 0 P l f tmps assign body w R
def qsj (P:Program) (gl:Gl) (f:FuncId):Con→Prop
 |.pure F=>SimP P gl f F
 |.store D=>SimS P gl f D
 |.may D=>SimM P gl f D
 |.flag=>True
 |.hint _=>True
 |.glob cs=>∃ (vs:Array Value) (T:TypeId) (s:Nat×Nat),gl (f - qGp)=some (.cells vs T s)∧∀ (H:Gh) (w:World),RelL H w cs vs.toList
 |.yld e Y=>∀ (t:Nat) (args:List PV) (σ:Store) (x:PV) (σ':Store),σ.toks[t]?=some (0,0,e)→Y t args σ=some (x,σ')→∀ (H:Gh) (w:World) (vs:List Value) (T:Tok),Ok gl H σ w→RelL H w args vs→H.tk[t]?=some T →
  YCalls P T.blk vs.toArray w fun e w'=>∃ v,e=.returned v∧Post gl H w x σ' v w'
def qal (P:Program) (gl:Gl) (Γ:Gam):Prop:=∀ f c,Γ f=some c→qsj P gl f c
section
variable {P : Program} {tb : Tab} {gl : Gl} {Γ : Gam} {H : Gh} {σ : Store} {w : World}
theorem qQc (hok:Ok gl H σ w) {w':World} (hb:Below w.heap.size w w') {x:PV} {v:Value} (h:Rel { sub H w with aux:=fun _ _=>False } w' x v):Rel H w' x v:=by
 have hp:∀ b off,({ sub H w with aux:=fun _ _=>False }:Gh).prot w' b off→H.prot w' b off:=by
  intro b off hp;refine⟨hp.1,fun hB=>?_,fun hm=>?_,fun T hT hvv e=>?_⟩
  ·have hlt:b < w.heap.size:=Nat.lt_of_lt_of_le hB hok.B;exact (hp.2.1 hlt).2.1 hB
  ·exact (hp.2.1 (hok.ob_at hm).2).2.2.1 hm
  ·have hlt:b < w.heap.size:=e ▸ (hok.tk_at hT hvv).2;exact (hp.2.1 hlt).2.2.2 T hT hvv e
 refine Rel.mono (H:={ sub H w with aux:=fun _ _=>False }) ⟨fun id b e=>by simp [sub] at e,fun t T e=>by simp [sub] at e,fun b off e=>⟨hp b off e,fun _=>rfl⟩,fun b off e=>?_⟩ h
 rcases e with e|⟨_,e⟩
 ·exact⟨.inl (hp b off e),fun _=>rfl⟩
 ·exact e.2.elim
theorem qkL {fr:List PV} {a:Act} (hfr:RelL H w fr a.tmps.toList):∀ (l:List Operand),RelL H w (l.map (ev fr)) (l.map a.eval)
 |[]=>.nil
 |x::l=>.cons _ _ _ _ (qaL hfr x) (qkL hfr l)
theorem qMi (hΓ:qal P gl Γ) (hok:Ok gl H σ w) {o:Oper} {a:Act} {fr:List PV} (hfr:RelL H w fr a.tmps.toList) {c:Call} (ho:o.op=.call c) {f:Operand} (hc:c.callee=.value f)
  {g:FuncId} {caps:List PV} (hf:ev fr f=.fn g caps) {F:List PV→Option PV} (hF:Γ g=some (.pure F)) {x:PV} (hx:F ((c.args.toList.map (ev fr)++caps).map (view σ.objs))=some x) :
  RunsTo P o a w (Post gl H w x σ):=by
 have hS:SimP P gl g F:=hΓ g _ hF;obtain⟨fn,hfn,hname,hbody⟩:=hS.ent;have hrf:=qaL hfr f;rw [hf] at hrf;generalize hv:a.eval f=v at hrf;cases hrf with
 |fn _ _ cvs hcaps =>
  have hargs:RelL H w (c.args.toList.map (ev fr)++caps) (c.args.toList.map a.eval++cvs):=(qkL hfr _).app hcaps;have hrun:(execOp a.eval o).run P w=.ok (.enter g (c.args.toList.map a.eval++cvs).toArray) w:=by
   unfold execOp;have e1:(#[]++c.args.map a.eval)++cvs.toArray=(c.args.toList.map a.eval++cvs).toArray:=by
    apply Array.ext';simp
   simp only [ho,resolve,hc,hv,Deferred.ofValue,Sem.run_bind,Sem.run_pure,Result.andThen_ok,invoke,callFunc,run_program,hfn,hname,hbody,Bool.false_eq_true,if_false,e1]
  refine RunsTo.enter hrun ?_;refine (hS.run _ x hx (sub H w) w _ rfl rfl rfl (fun b o e=>(hok.gl b o e).2) (qKA hok hargs)).mono ?_
  rintro e w' ⟨v,he,hb,hr⟩;exact⟨v,he,Post.below hok hb.1 hb.2 (qQc hok hb.1 hr)⟩
theorem qww (hΓ:qal P gl Γ) (hok:Ok gl H σ w) {o:Oper} {a:Act} {fr:List PV} (hfr:RelL H w fr a.tmps.toList) {c:Call} (ho:o.op=.call c) {g:FuncId} (hc:c.callee=.value (.func g))
  {D:List PV→Store→Option (PV×Store)} (hD:Γ g=some (.store D)) {x:PV} {σ':Store} (hx:D (c.args.toList.map (ev fr)) σ=some (x,σ')) :
  RunsTo P o a w (Post gl H w x σ'):=by
 have hS:SimS P gl g D:=hΓ g _ hD;obtain⟨fn,hfn,hname,hbody⟩:=hS.ent;have hrun:(execOp a.eval o).run P w=.ok (.enter g (c.args.toList.map a.eval).toArray) w:=by
  unfold execOp;have e1:c.args.map a.eval=(c.args.toList.map a.eval).toArray:=by
   apply Array.ext';simp
  simp only [ho,resolve,hc,Act.eval,Deferred.ofValue,Sem.run_bind,Sem.run_pure,Result.andThen_ok,invoke,callFunc,run_program,hfn,hname,hbody,Bool.false_eq_true,if_false];rw [e1];simp
 exact RunsTo.enter hrun (hS.run _ σ x σ' hx H w _ hok (qkL hfr _))
theorem PansTo.enter {o:Oper} {a:Act} {w w':World} {v:Value} {R:World→Prop} {f:FuncId} {args:Array Value} (h:(execOp a.eval o).run P w=.ok (.enter f args) w')
  (hc:Calls P f args w' fun e w''=>e=.panicked [{ v,recovered:=false }]∧R w''):PansTo P o a w v R:=by
 intro r n next Q hn;refine⟨fun _ _=>trivial,?_⟩
 rw [show (rnd r).round=r from rfl,qkf h (fun _ e=>by cases e)]
 have hc':=qnP (r:=r) (n:=n - 1) hc;refine⟨(fun h=>by cases h),hc'.mono fun e w'' he=>?_⟩
 obtain⟨he,hr⟩:=he;subst he;exact hn w'' hr
theorem qwW {o:Oper} {a:Act} {fr:List PV} (hfr:RelL H w fr a.tmps.toList) {c:Call} (ho:o.op=.call c) {f:Operand} (hc:c.callee=.value f)
  {g : FuncId} {caps : List PV} (hf : ev fr f = .fn g caps) (hent : ∃ fn, P.funcs[g]? = some fn ∧ (fn.name == "runtime.NumGoroutine") = false ∧ fn.body.isNone = false) :
  ∃ vs,(execOp a.eval o).run P w=.ok (.enter g vs.toArray) w∧RelL H w (c.args.toList.map (ev fr)++caps) vs:=by
 obtain⟨fn,hfn,hname,hbody⟩:=hent;have hrf:=qaL hfr f;rw [hf] at hrf;generalize hv:a.eval f=v at hrf;cases hrf with
 |fn _ _ cvs hcaps =>
  refine⟨c.args.toList.map a.eval++cvs,?_,(qkL hfr _).app hcaps⟩;unfold execOp;have e1:(#[]++c.args.map a.eval)++cvs.toArray=(c.args.toList.map a.eval++cvs).toArray:=by
   apply Array.ext';simp
  simp only [ho,resolve,hc,hv,Deferred.ofValue,Sem.run_bind,Sem.run_pure,Result.andThen_ok,invoke,callFunc,run_program,hfn,hname,hbody,Bool.false_eq_true,if_false,e1]
theorem qkp {o:Oper} {a:Act} {fr:List PV} (hfr:RelL H w fr a.tmps.toList) {c:Call} (ho:o.op=.call c) {f:Operand} (hc:c.callee=.value f)
  {g : FuncId} {caps : List PV} (hf : ev fr f = .mth g caps) (hent : ∃ fn, P.funcs[g]? = some fn ∧ (fn.name == "runtime.NumGoroutine") = false ∧ fn.body.isNone = false) :
  ∃ vs,(execOp a.eval o).run P w=.ok (.enter g vs.toArray) w∧RelL H w (caps++c.args.toList.map (ev fr)) vs:=by
 obtain⟨fn,hfn,hname,hbody⟩:=hent;have hrf:=qaL hfr f;rw [hf] at hrf;generalize hv:a.eval f=v at hrf;cases hrf with
 |mth _ _ cvs hcaps =>
  refine⟨cvs++c.args.toList.map a.eval,?_,hcaps.app (qkL hfr _)⟩;unfold execOp;have e1:(cvs.toArray++c.args.map a.eval)++#[]=(cvs++c.args.toList.map a.eval).toArray:=by
   apply Array.ext';simp
  simp only [ho,resolve,hc,hv,Deferred.ofValue,Sem.run_bind,Sem.run_pure,Result.andThen_ok,invoke,callFunc,run_program,hfn,hname,hbody,Bool.false_eq_true,if_false,e1]
theorem qrk {r:Option (PR×Store)} {y:PV×Store} (h:qgi r=some y):r=some (.val y.1,y.2):=by
 unfold qgi at h
 split at h
 ·simp only [Option.some.injEq] at h
  subst h;rfl
 ·cases h
theorem qxR {r:Option (PR×Store)} {y:PV×Store} (h:qjT r=some y):r=some (.pan y.1,y.2):=by
 unfold qjT at h
 split at h
 ·simp only [Option.some.injEq] at h
  subst h;rfl
 ·cases h
theorem qAB (hΓ:qal P gl Γ) (hok:Ok gl H σ w) {o:Oper} {a:Act} {fr:List PV} (hfr:RelL H w fr a.tmps.toList) {c:Call} (ho:o.op=.call c) {f:Operand} (hc:c.callee=.value f)
  {g:FuncId} {caps:List PV} (hf:ev fr f=.fn g caps) {D:List PV→Store→Option (PR×Store)} (hD:Γ g=some (.may D)) {x:PV} {σ':Store} (hx:D (c.args.toList.map (ev fr)++caps) σ=some (.val x,σ')) :
  RunsTo P o a w (Post gl H w x σ'):=by
 have hS:SimM P gl g D:=hΓ g _ hD;obtain⟨vs,hrun,hrel⟩:=qwW hfr ho hc hf hS.ent;exact RunsTo.enter hrun (hS.run _ σ x σ' hx H w _ hok hrel)
theorem qAX (hΓ:qal P gl Γ) (hok:Ok gl H σ w) {o:Oper} {a:Act} {fr:List PV} (hfr:RelL H w fr a.tmps.toList) {c:Call} (ho:o.op=.call c) {f:Operand} (hc:c.callee=.value f)
  {g:FuncId} {caps:List PV} (hf:ev fr f=.fn g caps) {D:List PV→Store→Option (PR×Store)} (hD:Γ g=some (.may D)) {x:PV} {σ':Store} (hx:D (c.args.toList.map (ev fr)++caps) σ=some (.pan x,σ')) :
  PansTo P o a w (toV x) (qFP gl H w σ'):=by
 have hS:SimM P gl g D:=hΓ g _ hD;obtain⟨vs,hrun,hrel⟩:=qwW hfr ho hc hf hS.ent;exact PansTo.enter hrun (hS.pan _ σ x σ' hx H w _ hok hrel)
theorem qBA (hΓ:qal P gl Γ) (hok:Ok gl H σ w) {o:Oper} {a:Act} {fr:List PV} (hfr:RelL H w fr a.tmps.toList) {c:Call} (ho:o.op=.call c) {f:Operand} (hc:c.callee=.value f)
  {g:FuncId} {caps:List PV} (hf:ev fr f=.mth g caps) {D:List PV→Store→Option (PR×Store)} (hD:Γ g=some (.may D)) {x:PV} {σ':Store} (hx:D (caps++c.args.toList.map (ev fr)) σ=some (.val x,σ')) :
  RunsTo P o a w (Post gl H w x σ'):=by
 have hS:SimM P gl g D:=hΓ g _ hD;obtain⟨vs,hrun,hrel⟩:=qkp hfr ho hc hf hS.ent;exact RunsTo.enter hrun (hS.run _ σ x σ' hx H w _ hok hrel)
theorem qzw (hΓ:qal P gl Γ) (hok:Ok gl H σ w) {o:Oper} {a:Act} {fr:List PV} (hfr:RelL H w fr a.tmps.toList) {c:Call} (ho:o.op=.call c) {f:Operand} (hc:c.callee=.value f)
  {g:FuncId} {caps:List PV} (hf:ev fr f=.mth g caps) {D:List PV→Store→Option (PR×Store)} (hD:Γ g=some (.may D)) {x:PV} {σ':Store} (hx:D (caps++c.args.toList.map (ev fr)) σ=some (.pan x,σ')) :
  PansTo P o a w (toV x) (qFP gl H w σ'):=by
 have hS:SimM P gl g D:=hΓ g _ hD;obtain⟨vs,hrun,hrel⟩:=qkp hfr ho hc hf hS.ent;exact PansTo.enter hrun (hS.pan _ σ x σ' hx H w _ hok hrel)
mutual
theorem qnR:∀ {x:PV} {v:Value},Rel H w x v→closed x=true→v=toV x
 |_,_,.bool b,_=>by simp only [toV]
 |_,_,.int k n h,_=>by simp only [toV]
 |_,_,.iface t x v h,hc=>by
  simp only [closed] at hc;simp only [toV];rw [qnR h hc]
 |_,_,.agg cs vs h,hc=>by
  simp only [closed] at hc;simp only [toV];rw [qr5 h hc]
 |_,_,.top _,hc=>by cases hc
 |_,_,.str _ _,hc=>by cases hc
 |_,_,.nilp,hc=>by cases hc
 |_,_,.ptr ..,hc=>by cases hc
 |_,_,.ref ..,hc=>by cases hc
 |_,_,.sl ..,hc=>by cases hc
 |_,_,.osl ..,hc=>by cases hc
 |_,_,.fn ..,hc=>by cases hc
 |_,_,.mth ..,hc=>by cases hc
 |_,_,.yld ..,hc=>by cases hc
 |_,_,.nilf,hc=>by cases hc
 |_,_,.nili,hc=>by cases hc
 |_,_,.tup ..,hc=>by cases hc
theorem qr5:∀ {x:List PV} {v:List Value},RelL H w x v→qzX x=true→v=toVL x
 |_,_,.nil,_=>by simp only [toVL]
 |_,_,.cons x v xs vs h ht,hc=>by
  simp only [qzX,Bool.and_eq_true] at hc;simp only [toVL];rw [qnR h hc.1,qr5 ht hc.2]
end
theorem qJ5 {x:PV} {v:Value} (hc:closed x=true) (h:Rel H w x v):v=toV x:=qnR h hc
theorem qrb (hΓ:qal P gl Γ) (hok:Ok gl H σ w) {o:Oper} {a:Act} {fr:List PV} (hfr:RelL H w fr a.tmps.toList) {x:PV} {σ':Store} (h:ppan Γ fr σ o=some (x,σ')):PansTo P o a w (toV x) (qFP gl H w σ'):=by
 unfold ppan at h
 split at h
 ·rename_i y ho;split at h
  ·rename_i hcl;simp only [Option.some.injEq,Prod.mk.injEq] at h
   obtain⟨rfl,rfl⟩:=h;have hr:=qaL hfr y;generalize hv:a.eval y=v at hr;generalize hx:ev fr y=x at hr hcl;cases hr with
   |iface t z u hz =>
    intro r n next Q hn;refine⟨fun _ _=>trivial,?_⟩
    have hrun:(execOp a.eval o).run P w=.halt (.panic (toV (.iface t z))) w:=by
     have:u=toV z:=qJ5 hcl hz;simp [execOp,ho,hv,Instr.panic,goPanic,this,toV]
    have hsem:(o.semAt (rnd r).round a.eval).run P w=.halt (.panic (toV (.iface t z))) w:=by
     rw [Oper.semAt_eq _ a.eval o fun c e=>by rw [ho] at e;cases e]
     exact hrun
    rw [hsem];exact hn w ⟨H,Ev.refl H w,hok⟩
   |_=>cases hcl
  ·cases h
 ·rename_i c ho;split at h
  ·rename_i f hc;split at h
   ·rename_i g caps hf;split at h
    ·rename_i D hD;split at h
     ·have:=qxR h;exact qAX hΓ hok hfr ho hc hf hD this
     ·cases h
    ·cases h
   ·rename_i g caps hf;split at h
    ·rename_i D hD;split at h
     ·have:=qxR h;exact qzw hΓ hok hfr ho hc hf hD this
     ·cases h
    ·cases h
   ·cases h
  ·cases h
 ·cases h
theorem qAr (hΓ:qal P gl Γ) (hok:Ok gl H σ w) {o:Oper} {a:Act} {fr:List PV} (hfr:RelL H w fr a.tmps.toList) {c:Call} (ho:o.op=.call c) {f:Operand} (hc:c.callee=.value f)
  {t:Nat} (hf:ev fr f=.yld t) {e:Nat} {Y:Nat→List PV→Store→Option (PV×Store)} (hY:Γ qeM=some (.yld e Y)) (ht:σ.toks[t]?=some (0,0,e)) {x:PV} {σ':Store} (hx:Y t (c.args.toList.map (ev fr)) σ=some (x,σ')) :
  RunsTo P o a w (Post gl H w x σ'):=by
 have hS:=hΓ qeM _ hY;have hrf:=qaL hfr f;rw [hf] at hrf;generalize hv:a.eval f=v at hrf;cases hrf with
 |yld _ T hT hk =>
  obtain⟨fn,tmps,assign,body,hy,hR⟩:=hS t _ σ x σ' ht hx H w _ T hok (qkL hfr c.args.toList) hT;have hrun:(execOp a.eval o).run P w=.ok (.round T.blk fn tmps assign body) w:=by
   unfold execOp;have e1:(#[]++c.args.map a.eval)++#[]=(c.args.toList.map a.eval).toArray:=by
    apply Array.ext';simp
   simp only [ho,resolve,hc,hv,Deferred.ofValue,Sem.run_bind,Sem.run_pure,Result.andThen_ok,invoke,e1];have e2:(c.args.toList.map a.eval).toArray=c.args.map a.eval:=by
    apply Array.ext';simp
   rw [e2] at hy;simpa using hy
  intro r n next Q hn;refine⟨fun _ _=>trivial,?_⟩
  rw [show (rnd r).round=r from rfl,qkf hrun (fun _ e=>by cases e)]
  refine⟨(fun h=>by cases h),?_⟩
  have hR':RoundIn (rnd r) (n - 1) P T.blk fn tmps assign body w (fun e w'=>∃ v,e=.returned v∧Post gl H w x σ' v w'):=⟨trivial,fun c cs _=>hR.2 c cs (room_wide _)⟩
  refine RoundIn.mono hR' fun e w'' he=>?_
  obtain⟨v,he,hr⟩:=he;subst he;exact hn v w'' hr
end
end Go.Pv
set_option linter.unusedSimpArgs false
set_option linter.unusedVariables false
namespace Go.Pv
open Go.RowKit
section
variable {P : Program} {tb : Tab} {gl : Gl} {Γ : Gam} {H : Gh} {σ : Store} {w : World}
theorem quiet {o:Oper} {a:Act} {x:PV} {v:Value} (hok:Ok gl H σ w) (hr:(execOp a.eval o).run P w=.ok (.value v) w) (hx:Rel H w x v):RunsTo P o a w (Post gl H w x σ) :=
 RunsTo.value hr (Post.same hok hx)
theorem qIm (hT:qaN P tb) (hok:Ok gl H σ w) {t:TypeId} {K:TK} (hK:tb t=some K) {x:PV} {v:Value} (hx:Rel H w x v) {r:PV}
  (h:(∃ id off cs,x=.ptr id off∧σ.objs[id]?=some cs∧pload K cs off=some r)∨(∃ cs,x=.ref cs∧pload K cs 0=some r)) :
  ∃ u,(Instr.loadAt t v).run P w=.ok u w∧Rel H w r u:=by
 rcases h with⟨id,off,cs,rfl,hcs,hl⟩|⟨cs,rfl,hl⟩
 ·cases hx with
  |ptr _ _ b hb =>
   obtain⟨hB,vs,ext,T,he,hr⟩:=hok.obj id b cs hb hcs;obtain⟨u,hu,hru⟩:=qnh (hT _ _ hK) hr hl (a:=⟨b,off,none⟩) (w1:=w) (fun j v hj=>by
    rw [qbJ,cell_of_row w b (off+j) (vs++ext).toArray T (0,0) he];simpa using qCd hj)
   exact⟨u,by simpa [Instr.loadAt,Instr.sureAddr] using hu,hru⟩
 ·cases hx with
  |ref a _ vs hr hc =>
   obtain⟨u,hu,hru⟩:=qnh (hT _ _ hK) hr hl (a:=a) (w1:=w) (fun j v hj=>by
    rw [Nat.zero_add] at hj;exact (hc j v hj).2)
   exact⟨u,by simpa [Instr.loadAt,Instr.sureAddr] using hu,hru⟩
theorem qNZ (hT:qaN P tb) (hΓ:qal P gl Γ) (hok:Ok gl H σ w) {t:TypeId} {K:TK} (hK:tb t=some K) {y:Operand} {cs:List PV} (hg:gcells Γ y=some cs) {r:PV} (hl:pload K cs 0=some r) (a:Act) :
  ∃ u,(Instr.loadAt t (a.eval y)).run P w=.ok u w∧Rel H w r u:=by
 unfold gcells at hg;split at hg
 ·rename_i g;split at hg
  ·rename_i cs' hG;cases hg
   obtain⟨vs,T,s,e,hr⟩:=hΓ _ _ hG;rw [Nat.add_sub_cancel_left] at e;have he:=(hok.gl _ _ e).2;obtain⟨u,hu,hru⟩:=qnh (hT _ _ hK) (hr H w) hl (a:=⟨g,0,none⟩) (w1:=w) (fun j v hj=>by
    rw [qbJ,cell_of_row w g (0+j) vs T s he];simpa using hj)
   exact⟨u,by simpa [Instr.loadAt,Instr.sureAddr,Act.eval] using hu,hru⟩
  ·cases hg
 ·cases hg
theorem qNA (hT:qaN P tb) (hok:Ok gl H σ w) {t:TypeId} {K:TK} (hK:tb t=some K) {id off:Nat} {x:PV} {av xv:Value} (ha:Rel H w (.ptr id off) av) (hx:Rel H w x xv) {vs cs:List PV}
  (hv:pcells x=some vs) (hcs:σ.objs[id]?=some cs) (hl:vs.length=K.size) (hle:off+K.size≤cs.length) (h1:vs.all one=true) :
  ∃ w',(Instr.storeAt t av xv).run P w=.ok () w'∧Ev gl H w H w'∧Ok gl H { σ with objs:=σ.objs.set id (cs.take off++vs++cs.drop (off+K.size)) } w':=by
 cases ha with
 |ptr _ _ b hb =>
  obtain⟨hB,us,ext,T,he,hr⟩:=hok.obj id b cs hb hcs;have hxr:=qro hx hv;have hxl:=hxr.len;have hst:=run_storeCells_at P b off T xv.cells.toList 0 (us++ext).toArray w he (by have:=hr.len;simp at hxl ⊢;omega) (qvN hxr h1)
  have hs:=qaO (hT _ _ hK) w;have hsz:xv.cells.size=K.size:=by simp at hxl;omega
  obtain⟨hev,hok'⟩:=qGe hok hb he (vs':=us.take off++xv.cells.toList++us.drop (off+K.size)) (cs':=cs.take off++vs++cs.drop (off+K.size))
   (((hr.take off).app hxr).app (hr.drop _)) (fun c0 hc0=>by
    obtain rfl:=Option.some.inj (hcs.symm.trans hc0);have h1:=hr.len;refine⟨h1,?_⟩;simp only [List.length_append,List.length_take,List.length_drop];omega)
  refine⟨_,?_,hev,hok'⟩;have hlen:=hr.len;have e1:(us++ext).take off++xv.cells.toList++(us++ext).drop (off+xv.cells.toList.length)=(us.take off++xv.cells.toList++us.drop (off+K.size))++ext:=by
   have e2:xv.cells.toList.length=K.size:=by simpa using hsz
   rw [e2,List.take_append_of_le_length (by omega),List.drop_append_of_le_length (by omega)]
   simp
  simp [Instr.storeAt,Instr.sureAddr,storeVar,hs,hsz] at hst e1 ⊢;rw [← e1];exact hst
theorem qJ3 {zs:List PV} {z:Array Value} (h:RelL H w zs z.toList) (n:Nat):RelL H w (pzeros zs n) (Builtin.zeroCells z n).toList:=by
 have hl:=h.len;have hl':zs.length=z.size:=by simpa using hl
 refine qdj.2 ⟨by simp [pzeros,Builtin.zeroCells,hl'],fun i x v hx hv=>?_⟩
 simp only [pzeros,List.getElem?_map,Option.map_eq_some_iff] at hx;obtain⟨a,ha,rfl⟩:=hx;have hlt:=(List.getElem?_eq_some_iff.1 ha).1;simp at hlt;have hai:a=i:=by rw [List.getElem?_range hlt] at ha;exact (Option.some.inj ha).symm
 subst hai;have hpos:0 < zs.length:=by
  rcases Nat.eq_zero_or_pos zs.length with h0|h0
  ·rw [h0] at hlt;simp at hlt
  ·exact h0
 have hm:a % zs.length < zs.length:=Nat.mod_lt _ hpos;simp only [Builtin.zeroCells,Array.toList_map,Array.toList_range,List.getElem?_map,Option.map_eq_some_iff] at hv;obtain⟨b,hb,rfl⟩:=hv;rw [List.getElem?_range (by rw [← hl'];exact hlt)] at hb
 obtain rfl:=Option.some.inj hb;have h1:zs[a % zs.length]?=some (zs.getD (a % zs.length) .top):=by
  rw [List.getD_eq_getElem?_getD,List.getElem?_eq_getElem hm];rfl
 have h2:z.toList[a % zs.length]?=some (z[a % z.size]!):=by
  rw [hl',Array.getElem?_toList];rw [Array.getElem!_eq_getD,Array.getD_eq_getD_getElem?,Array.getElem?_eq_getElem (by rw [← hl'];exact hm)]
  rfl
 exact (qdj.1 h).2 _ _ _ h1 h2
theorem qLz (hT:qaN P tb) (hok:Ok gl H σ w) {t ty:TypeId} {x r:PV} {v:Value} {σ':Store} (h:pclear tb t x σ=some (r,σ')) (hx:Rel H w x v) :
  ∃ w',(Builtin.clear_ #[t] ty #[v]).run P w=.ok (.tuple #[]) w'∧Post gl H w r σ' (.tuple #[]) w':=by
 unfold pclear at h
 split at h
 ·rename_i K id off len k hK;have hkd:=qjw hT hK;split at h
  ·rename_i e hk;have hu:=qo4 (hkd.trans hk);cases hE:tb e with
   |none=>simp [hE] at h
   |some E =>
    simp only [hE] at h
    cases hx with
    |osl _ _ off' _ cap _ b hb ho hcap hm =>
     by_cases h0:len=0
     ·subst h0;simp only [if_true,Option.some.injEq,Prod.mk.injEq] at h
      obtain⟨rfl,rfl⟩:=h;exact⟨w,by simp [Builtin.clear_,run_underlying hu],.same hok (.tup [] [] .nil)⟩
     ·rw [if_neg h0] at h
      obtain rfl:=ho h0;split at h
      ·rename_i cs hcs;split at h
       ·rename_i hz;obtain⟨rfl,hzp,hz1,hle⟩:=hz;simp only [Option.some.injEq,Prod.mk.injEq] at h
        obtain⟨rfl,rfl⟩:=h;obtain⟨z,hzz,hrz⟩:=qjE (hT _ _ hE);have hzrel:RelL H w E.zero z.cells.toList:=by rw [hzz];exact qcg _
        have hzl:E.zero.length=z.cells.size:=by simpa using hzrel.len
        have hpr:=qJ3 hzrel len;obtain⟨hB,us,ext,T,he,hr⟩:=hok.obj id b cs hb hcs;have hpl:(Builtin.zeroCells z.cells len).toList.length=len * E.zero.length:=by simp [Builtin.zeroCells,hzl]
        have hone:∀ v∈(Builtin.zeroCells z.cells len).toList,v.oneCell'=true:=by
         refine qvN hpr ?_;rw [List.all_eq_true];intro y hy;simp only [pzeros,List.mem_map,List.mem_range] at hy;obtain⟨i,_,rfl⟩:=hy;have hi:i % E.zero.length < E.zero.length:=Nat.mod_lt _ hzp;rw [List.getD_eq_getElem?_getD,List.getElem?_eq_getElem hi];exact List.all_eq_true.1 hz1 _ (List.getElem_mem hi)
        have hlr:=hr.len;have hst:=run_storeCells_at P b off' T (Builtin.zeroCells z.cells len).toList 0 (us++ext).toArray w he (by simp only [List.size_toArray,List.length_append];omega) hone
        obtain⟨hev,hok'⟩:=qGe hok hb he (vs':=us.take off'++(Builtin.zeroCells z.cells len).toList++us.drop (off'+len * E.zero.length)) (cs':=cs.take off'++pzeros E.zero len++cs.drop (off'+len * E.zero.length))
         (((hr.take off').app hpr).app (hr.drop _)) (fun c0 hc0=>by
          obtain rfl:=Option.some.inj (hcs.symm.trans hc0);refine⟨hlr,?_⟩;have hpz:(pzeros E.zero len).length=len * E.zero.length:=by simp [pzeros]
          simp only [List.length_append,List.length_take,List.length_drop,hpz];omega)
        have e1:(us++ext).take off'++(Builtin.zeroCells z.cells len).toList++(us++ext).drop (off'+(Builtin.zeroCells z.cells len).toList.length)=(us.take off'++(Builtin.zeroCells z.cells len).toList++us.drop (off'+len * E.zero.length))++ext:=by
         rw [hpl,List.take_append_of_le_length (by omega),List.drop_append_of_le_length (by omega)]
         simp
        refine⟨_,?_,H,hev,hok',.tup [] [] .nil⟩;obtain⟨m,rfl⟩:∃ m,len=m+1:=⟨len - 1,by omega⟩
        simp only [Nat.add_zero] at hst;simp [Builtin.clear_,run_underlying hu,hrz] at hst e1 ⊢;rw [← e1];simp [hst]
       ·cases h
      ·cases h
  ·cases h
 ·cases h
theorem qaC {α β:Type} {f:α→β} {x:Option α} {y:β} (h:x.map f=some y):∃ a,x=some a∧f a=y:=by
 cases x with
 |none=>cases h
 |some a=>exact⟨a,rfl,Option.some.inj h⟩
theorem qC2 (hT:qaN P tb) (hΓ:qal P gl Γ) (hok:Ok gl H σ w) {o:Oper} {a:Act} {fr:List PV} (hfr:RelL H w fr a.tmps.toList) {c:Call} (ho:o.op=.call c) {x:PV} {σ':Store}
  (h:qb8 tb Γ fr σ c=some (x,σ')):RunsTo P o a w (Post gl H w x σ'):=by
 unfold qb8 at h
 split at h
 ·rename_i hc;split at h
  ·rename_i t y ht hy;have ht:c.argTypes=#[t]:=Array.ext' ht;have hy:c.args=#[y]:=Array.ext' hy;cases hK:tb t with
   |none=>simp [hK] at h
   |some K =>
    have hkd:=qjw hT hK;simp only [hK] at h
    have hr:=qaL hfr y;split at h
    ·rename_i l hk he;simp only [Option.some.injEq,Prod.mk.injEq] at h
     obtain⟨rfl,rfl⟩:=h;rw [he] at hr;generalize hv:a.eval y=v at hr;cases hr with
     |str _ hl =>
      refine quiet (v:=goInt l.length) hok ?_ (.int _ _ (by simp [Lit.wf,IntKind.min,IntKind.max,IntKind.signed,IntKind.bits];unfold maxLen at hl;omega))
      have hlen:(Builtin.len_ #[t] o.type #[.string ⟨l.toArray⟩]).run P w=.ok (goInt l.length) w:=by
       have e:(ByteArray.mk l.toArray).size=l.length:=by simp [ByteArray.size]
       simp [Builtin.len_,run_underlying (qmD (hkd.trans hk)),e]
      simp [execOp,ho,resolve,hc,invoke,builtin,ht,hy,hv,hlen]
    ·rename_i e xs tg hk he;simp only [Option.some.injEq,Prod.mk.injEq] at h
     obtain⟨rfl,rfl⟩:=h;rw [he] at hr;generalize hv:a.eval y=v at hr;cases hr with
     |sl p len cap k _ vss _ hl hcap hm hrel hrow htag =>
      subst hl;refine quiet (v:=goInt xs.length) hok ?_ (.int _ _ (by simp [Lit.wf,IntKind.min,IntKind.max,IntKind.signed,IntKind.bits];unfold maxLen at hm;omega))
      simp [execOp,ho,resolve,hc,invoke,builtin,Builtin.len_,ht,hy,hv,run_underlying (qo4 (hkd.trans hk)),goInt]
    ·rename_i e id off len k hk he;simp only [Option.some.injEq,Prod.mk.injEq] at h
     obtain⟨rfl,rfl⟩:=h;rw [he] at hr;generalize hv:a.eval y=v at hr;cases hr with
     |osl _ _ off' _ cap _ b hb ho' hcap hm =>
      refine quiet (v:=goInt len) hok ?_ (.int _ _ (by simp [Lit.wf,IntKind.min,IntKind.max,IntKind.signed,IntKind.bits];unfold maxLen at hm;omega))
      simp [execOp,ho,resolve,hc,invoke,builtin,Builtin.len_,ht,hy,hv,run_underlying (qo4 (hkd.trans hk)),goInt]
    ·cases h
  ·cases h
 ·rename_i hc;split at h
  ·rename_i t t' s y ht hy;have ht:c.argTypes=#[t,t']:=Array.ext' ht;have hy:c.args=#[s,y]:=Array.ext' hy;split at h
   ·rename_i htt;subst htt;split at h
    ·rename_i ys tg he;have hr:=qaL hfr y;rw [he] at hr;obtain⟨z,w',hz,hp⟩:=qJU (ty:=o.type) hT hok h (qaL hfr s) hr;refine RunsTo.value (v:=z) (w':=w') ?_ hp;simp [execOp,ho,resolve,hc,invoke,builtin,ht,hy,hz]
    ·cases h
   ·cases hK:tb t' with
    |none=>simp [hK] at h
    |some K =>
     have hkd:=qjw hT hK;simp only [hK] at h
     split at h
     ·rename_i l hk he;have hr:=qaL hfr y;rw [he] at hr;generalize hv:a.eval y=v at hr;cases hr with
      |str _ hl =>
       obtain⟨z,w',hz,hp⟩:=qxH (ty:=o.type) hT hok (qmD (hkd.trans hk)) h (qaL hfr s);refine RunsTo.value (v:=z) (w':=w') ?_ hp;simp [execOp,ho,resolve,hc,invoke,builtin,ht,hy,hv,hz]
     ·cases h
  ·cases h
 ·rename_i hc;split at h
  ·rename_i t y ht hy;have ht:c.argTypes=#[t]:=Array.ext' ht;have hy:c.args=#[y]:=Array.ext' hy;obtain⟨w',hz,hp⟩:=qLz (ty:=o.type) hT hok h (qaL hfr y);refine RunsTo.value (v:=.tuple #[]) (w':=w') ?_ hp;simp [execOp,ho,resolve,hc,invoke,builtin,ht,hy,hz]
  ·cases h
 ·rename_i hc;split at h
  ·rename_i x1 y1 hargs;have hargs:c.args=#[x1,y1]:=Array.ext' hargs;split at h
   ·rename_i k a1 k' b1 hx1 hy1;split at h
    ·rename_i hk;subst hk;simp only [Option.some.injEq,Prod.mk.injEq] at h
     obtain⟨rfl,rfl⟩:=h;have h1:=qaL hfr x1;have h2:=qaL hfr y1;rw [hx1] at h1;rw [hy1] at h2;generalize hv1:a.eval x1=v1 at h1;generalize hv2:a.eval y1=v2 at h2;cases h1 with
     |int _ _ w1 =>
      cases h2 with
      |int _ _ w2 =>
       refine quiet (v:=.int k (imin a1 b1)) hok ?_ (.int _ _ (by unfold imin;split;exact w2;exact w1))
       simp [execOp,ho,resolve,hc,hargs,hv1,hv2,invoke,builtin,Builtin.min_,Builtin.min2,imin]
    ·cases h
   ·cases h
  ·cases h
 ·cases h
 ·cases h
 ·rename_i f hc;split at h
  ·rename_i g caps hf;split at h
   ·rename_i F hF;obtain⟨r,hr,he⟩:=qaC h;simp only [Prod.mk.injEq] at he;obtain⟨rfl,rfl⟩:=he;exact qMi hΓ hok hfr ho hc hf hF hr
   ·rename_i D hD;split at h
    ·rename_i g';simp only [ev,PV.fn.injEq] at hf;obtain⟨rfl,rfl⟩:=hf;exact qww hΓ hok hfr ho hc hD h
    ·cases h
   ·rename_i D hD;split at h
    ·exact qAB hΓ hok hfr ho hc hf hD (qrk h)
    ·cases h
   ·cases h
   ·cases h
   ·cases h
   ·cases h
   ·cases h
  ·rename_i g caps hf;split at h
   ·rename_i D hD;split at h
    ·exact qBA hΓ hok hfr ho hc hf hD (qrk h)
    ·cases h
   ·cases h
  ·rename_i t hf;split at h
   ·rename_i e Y hY;split at h
    ·rename_i s k e' htk;split at h
     ·rename_i hcond;obtain⟨rfl,rfl,rfl⟩:=hcond;exact qAr hΓ hok hfr ho hc hf hY htk h
     ·cases h
    ·cases h
   ·cases h
  ·cases h
theorem qko:∀ (hs:List (Nat×Nat×TypeId)) {H:Gh} {σ:Store} {cs:List PV} {vs:List Value},Ok gl H σ w→RelL H w cs vs →
  ∃ H',Ev gl H w H' w∧Ok gl H' { σ with toks:=(qmE hs cs σ.toks).2 } w∧RelL H' w (qmE hs cs σ.toks).1 vs
 |[],H,σ,cs,vs,hok,hr=>⟨H,Ev.refl H w,hok,hr⟩
 |(j,k,e)::hs,H,σ,cs,vs,hok,hr=>by
  unfold qmE;split
  ·rename_i x n hj;obtain⟨hev,hok',htk⟩:=qTw hok (k:=n+1) (Nat.succ_ne_zero n) e;obtain⟨v,hv,hx⟩:=hr.get hj;have hx':Rel { H with tk:=H.tk++[⟨0,0,0,n+1,e⟩] } w (.sl [] (.tok σ.toks.length)) v:=by
    cases hx with
    |sl p len cap k' _ vss _ hl hcap hm h hrow ht =>
     have hl0:len=0:=by simpa using hl.symm
     subst hl0;have hc0:cap=0:=by have:0=cap:=ht;omega
     subst hc0;exact .sl p 0 0 k' [] vss _ rfl hcap hm (h.mono hev.mono) (hrow.mono hev.mono) ⟨_,htk,Nat.succ_ne_zero n,Nat.le_refl _,fun _=>⟨fun _=>rfl,fun h0=>absurd rfl h0⟩⟩
   have hr':=(hr.mono hev.mono).set j hx';have hvs:vs.set j v=vs:=by
    apply List.ext_getElem?;intro i;rw [List.getElem?_set];split
    ·rename_i hij;subst hij;rw [hv];split<;>rename_i hlt
     ·rfl
     ·exact absurd (List.getElem?_eq_some_iff.1 hv).1 hlt
    ·rfl
   rw [hvs] at hr';obtain⟨H2,e2,o2,r2⟩:=qko hs hok' hr';exact⟨H2,hev.trans e2,o2,r2⟩
  ·exact qko hs hok hr
theorem qFZ (hs:List (Nat×Nat×TypeId)) {x:PV} {v:Value} (hok:Ok gl H σ w) (hx:Rel H w x v):Post gl H w (rtag hs x σ).1 (rtag hs x σ).2 v w:=by
 cases hs with
 |nil=>exact⟨H,Ev.refl H w,hok,hx⟩
 |cons h hs =>
  unfold rtag;simp only;split
  ·rename_i cs;cases hx with
   |agg _ vs hr =>
    obtain⟨H',h1,h2,h3⟩:=qko (h::hs) hok hr;exact⟨H',h1,h2,.agg _ _ h3⟩
  ·rename_i xs tg;split
   ·rename_i y tk hy;obtain⟨H',h1,h2,h3⟩:=qko (h::hs) hok (.cons _ _ _ _ hx .nil);rw [hy] at h2 h3;cases h3 with
    |cons _ _ _ _ h3 _=>exact⟨H',h1,h2,h3⟩
   ·exact⟨H,Ev.refl H w,hok,hx⟩
  ·exact⟨H,Ev.refl H w,hok,hx⟩
theorem qRv (hs:List (Nat×Nat×TypeId)) (hok:Ok gl H σ w) {z:List PV} {vs:List Value} (hr:RelL H w z vs) (t:TypeId) :
  Post gl H w (robj hs z t σ).1 (robj hs z t σ).2 (.pointer (some ⟨w.heap.size,0,none⟩)) (w.alloc (.cells vs.toArray t)):=by
 cases hs with
 |nil =>
  obtain⟨hev,hok',hnew⟩:=qFE hok hr t;exact⟨_,hev,hok',.ptr _ _ _ hnew⟩
 |cons h hs =>
  obtain⟨H1,e1,o1,r1⟩:=qko (h::hs) hok hr;obtain⟨hev,hok',hnew⟩:=qFE o1 r1 t;exact⟨_,e1.trans hev,hok',.ptr _ _ _ hnew⟩
theorem qDF (hT:qaN P tb) (hΓ:qal P gl Γ) (hok:Ok gl H σ w) {o:Oper} {a:Act} {fr:List PV} (hfr:RelL H w fr a.tmps.toList) {x:PV} {σ':Store}
  (h:pop tb Γ fr σ o=some (x,σ')):RunsTo P o a w (Post gl H w x σ'):=by
 unfold pop at h
 split at h
 ·rename_i y ho;have he:=Option.some.inj h;have:=qFZ (hinted Γ o) hok (qaL hfr y);rw [he] at this;exact RunsTo.value (v:=a.eval y) (w':=w) (by simp [execOp,ho]) this
 ·rename_i y ho;have he:=Option.some.inj h;have:=qFZ (hinted Γ o) hok (qaL hfr y);rw [he] at this;exact RunsTo.value (v:=a.eval y) (w':=w) (by simp [execOp,ho]) this
 ·rename_i c y z ho;split at h
  ·rename_i t ht;simp only [Option.some.injEq,Prod.mk.injEq] at h
   obtain⟨rfl,rfl⟩:=h;have hr:=qaL hfr c;rw [ht] at hr;generalize hv:a.eval c=v at hr;cases hr
   cases t
   ·exact quiet (v:=a.eval z) hok (by simp [execOp,ho,hv,asBool]) (qaL hfr z)
   ·exact quiet (v:=a.eval y) hok (by simp [execOp,ho,hv,asBool]) (qaL hfr y)
  ·cases h
 ·rename_i t ho;cases hK:tb t with
  |none=>simp [hK] at h
  |some K =>
   simp only [hK] at h
   have he:=Option.some.inj h;obtain⟨z,hz,hrz⟩:=qjE (hT _ _ hK);have hrel:RelL H w K.zero z.cells.toList:=by rw [hz];exact qcg _
   have hpo:=qRv (hinted Γ o) hok hrel t;rw [he] at hpo;refine RunsTo.value (v:=.pointer (some ⟨w.heap.size,0,none⟩)) (w':=w.alloc (.cells z.cells.toList.toArray t)) ?_ hpo;simp [execOp,ho,Instr.alloc,hrz,newVar,newRow]
 ·rename_i t y ho;split at h
  ·rename_i cs hcs;simp only [Option.some.injEq,Prod.mk.injEq] at h
   obtain⟨rfl,rfl⟩:=h;have hrel:=qro (qaL hfr y) hcs;obtain⟨hev,hok',hnew⟩:=qFE hok hrel t;refine RunsTo.value (v:=.pointer (some ⟨w.heap.size,0,none⟩)) (w':=w.alloc (.cells (a.eval y).cells.toList.toArray t)) ?_ ⟨_,hev,hok',.ptr _ _ _ hnew⟩;simp [execOp,ho,Instr.box,newVar,newRow]
  ·cases h
 ·rename_i t parts ho;obtain⟨r,hr,he⟩:=qaC h;obtain⟨u,hu,hru⟩:=qKc hT hfr hr w;have hpo:=qFZ (hinted Γ o) hok hru;rw [he] at hpo;refine RunsTo.value (v:=u) (w':=w) ?_ hpo;have e:(parts.map fun (i,x)=>(i,a.eval x))=(parts.toList.map fun p=>(p.1,a.eval p.2)).toArray:=by
   apply Array.ext';simp
  simp only [execOp,ho,e,Sem.run_bind,hu,Result.andThen_ok,Sem.run_pure]
 ·rename_i t len parts ho;obtain⟨r,hr,he⟩:=qaC h;simp only [Prod.mk.injEq] at he;obtain⟨rfl,rfl⟩:=he;obtain⟨u,w',hu,hb,hru⟩:=quL hT hok hfr hr;refine RunsTo.value (v:=u) (w':=w') ?_ (Post.below hok hb.1 (.of_eq hb.2) hru);have e:(parts.map fun (i,x)=>(i,a.eval x))=(parts.toList.map fun p=>(p.1,a.eval p.2)).toArray:=by
   apply Array.ext';simp
  simp only [execOp,ho,e,Sem.run_bind,hu,Result.andThen_ok,Sem.run_pure]
 ·rename_i t l c ho;split at h
  ·obtain⟨u,w',hu,hpo⟩:=qD9 hT hok (qaL hfr l) (qaL hfr c) h;exact RunsTo.value (v:=u) (w':=w') (by simp only [execOp,ho,Sem.run_bind,hu,Result.andThen_ok,Sem.run_pure]) hpo
  ·obtain⟨r,hr,he⟩:=qaC h;simp only [Prod.mk.injEq] at he;obtain⟨rfl,rfl⟩:=he;obtain⟨u,w',hu,hb,hru⟩:=qxu hT hok (qaL hfr l) (qaL hfr c) hr;exact RunsTo.value (v:=u) (w':=w') (by simp only [execOp,ho,Sem.run_bind,hu,Result.andThen_ok,Sem.run_pure]) (Post.below hok hb.1 (.of_eq hb.2) hru)
 ·rename_i t y ho;cases hg:gcells Γ y with
  |some cs =>
   simp only [hg] at h
   cases hK:tb t with
   |none=>simp [hK] at h
   |some K =>
    simp only [hK] at h
    obtain⟨r,hr,he'⟩:=qaC h;simp only [Prod.mk.injEq] at he';obtain⟨rfl,rfl⟩:=he';obtain⟨u,hu,hru⟩:=qNZ hT hΓ hok hK hg hr a;exact quiet (v:=u) hok (by simp only [execOp,ho,Sem.run_bind,hu,Result.andThen_ok,Sem.run_pure]) hru
  |none =>
  simp only [hg] at h
  cases hK:tb t with
  |none=>simp [hK] at h
  |some K =>
   simp only [hK] at h
   have key:((∃ id off cs,ev fr y=.ptr id off∧σ.objs[id]?=some cs∧pload K cs off=some x)∨(∃ cs,ev fr y=.ref cs∧pload K cs 0=some x))∧σ'=σ:=by
    split at h
    ·rename_i id off he;split at h
     ·rename_i cs hcs;obtain⟨r,hr,he'⟩:=qaC h;simp only [Prod.mk.injEq] at he';obtain⟨rfl,rfl⟩:=he';exact⟨.inl ⟨id,off,cs,he,hcs,hr⟩,rfl⟩
     ·cases h
    ·rename_i cs he;obtain⟨r,hr,he'⟩:=qaC h;simp only [Prod.mk.injEq] at he';obtain⟨rfl,rfl⟩:=he';exact⟨.inr ⟨cs,he,hr⟩,rfl⟩
    ·cases h
   obtain⟨key,rfl⟩:=key;obtain⟨u,hu,hru⟩:=qIm hT hok hK (qaL hfr y) key;exact quiet (v:=u) hok (by simp only [execOp,ho,Sem.run_bind,hu,Result.andThen_ok,Sem.run_pure]) hru
 ·rename_i t y z ho;cases hK:tb t with
  |none=>simp [hK] at h
  |some K =>
   simp only [hK] at h
   split at h
   ·rename_i id off vs hy hz;split at h
    ·rename_i cs hcs;split at h
     ·rename_i hcond;obtain⟨hl,hle,h1⟩:=hcond;simp only [Option.some.injEq,Prod.mk.injEq] at h
      obtain⟨rfl,rfl⟩:=h;have hra:=qaL hfr y;rw [hy] at hra;obtain⟨w',hw,hev,hok'⟩:=qNA hT hok hK hra (qaL hfr z) hz hcs hl hle h1;refine RunsTo.skip (w':=w') ?_ ⟨_,hev,hok',.top _⟩;simp only [execOp,ho,Sem.run_bind,hw,Result.andThen_ok,Sem.run_pure]
     ·cases h
    ·cases h
   ·cases h
 ·rename_i y ho;have hr:=qaL hfr y;split at h
  ·rename_i id off he;simp only [Option.some.injEq,Prod.mk.injEq] at h
   obtain⟨rfl,rfl⟩:=h;rw [he] at hr;refine quiet (v:=a.eval y) hok ?_ hr;generalize hv:a.eval y=v at hr;cases hr
   simp [execOp,ho,hv]
  ·rename_i cs he;simp only [Option.some.injEq,Prod.mk.injEq] at h
   obtain⟨rfl,rfl⟩:=h;rw [he] at hr;refine quiet (v:=a.eval y) hok ?_ hr;generalize hv:a.eval y=v at hr;cases hr
   simp [execOp,ho,hv]
  ·rename_i f caps he;simp only [Option.some.injEq,Prod.mk.injEq] at h
   obtain⟨rfl,rfl⟩:=h;rw [he] at hr;refine quiet (v:=a.eval y) hok ?_ hr;generalize hv:a.eval y=v at hr;cases hr
   simp [execOp,ho,hv]
  ·cases h
 ·rename_i op t y z g ho;obtain⟨r,hr,he⟩:=qaC h;simp only [Prod.mk.injEq] at he;obtain⟨rfl,rfl⟩:=he;obtain⟨u,hu,hru⟩:=qPJ hT (fun c hc=>by rw [hc];rfl) hr (qaL hfr y) (qaL hfr z)
  refine quiet (v:=u) hok ?_ hru;simp only [execOp,ho];rw [Sem.run_bind,hu];rfl
 ·rename_i op t y ho;obtain⟨r,hr,he⟩:=qaC h;simp only [Prod.mk.injEq] at he;obtain⟨rfl,rfl⟩:=he;obtain⟨u,hu,hru⟩:=qS6 hr (qaL hfr y) (P:=P) w;exact quiet (v:=u) hok (by simp only [execOp,ho,Sem.run_bind,hu,Result.andThen_ok,Sem.run_pure]) hru
 ·rename_i s d y ho;obtain⟨r,hr,he⟩:=qaC h;simp only [Prod.mk.injEq] at he;obtain⟨rfl,rfl⟩:=he;obtain⟨u,w',hu,hb,hru⟩:=qNh hT hok hr (qaL hfr y);exact RunsTo.value (v:=u) (w':=w') (by simp only [execOp,ho,Sem.run_bind,hu,Result.andThen_ok,Sem.run_pure]) (Post.below hok hb.1 (fun _=>hb.2) hru)
 ·rename_i t y ho;cases hK:tb t with
  |none=>simp [hK] at h
  |some K =>
   have hkd:=qjw hT hK;simp only [hK] at h
   split at h
   ·cases h
   ·cases h
   ·rename_i hk1 hk2;simp only [Option.some.injEq,Prod.mk.injEq] at h
    obtain⟨rfl,rfl⟩:=h;refine quiet (v:=.iface t (a.eval y)) hok ?_ (.iface _ _ _ (qaL hfr y));have hu:∃ d,P.underlying t=some d∧∀ ms,d≠.interface ms:=by
     unfold kdOf at hkd;cases hd:P.underlying t with
     |none=>simp [hd] at hkd;exact absurd hkd.symm hk2
     |some d =>
      refine⟨d,rfl,fun ms e=>?_⟩
      subst e;simp [hd] at hkd;exact hk1 hkd.symm
    obtain⟨d,hd,hne⟩:=hu;have:(Instr.makeInterface t (a.eval y)).run P w=.ok (.iface t (a.eval y)) w:=by
     cases d<;>first|exact absurd rfl (hne _)|simp [Instr.makeInterface,run_underlying hd]
    simp only [execOp,ho,Sem.run_bind,this,Result.andThen_ok,Sem.run_pure]
 ·rename_i f first caps ho;split at h
  ·rename_i hf;have hf:first=#[]:=Array.ext' hf;subst hf;simp only [Option.some.injEq,Prod.mk.injEq] at h
   obtain⟨rfl,rfl⟩:=h;refine quiet (v:=.func (.func f) #[] (caps.toList.map a.eval).toArray) hok ?_ (.fn _ _ _ (qkL hfr _));have e:caps.map a.eval=(caps.toList.map a.eval).toArray:=by
    apply Array.ext';simp
   simp [execOp,ho,Instr.makeFunc,e]
  ·split at h
   ·rename_i hcp;have hcp:caps=#[]:=Array.ext' hcp;subst hcp;simp only [Option.some.injEq,Prod.mk.injEq] at h
    obtain⟨rfl,rfl⟩:=h;refine quiet (v:=.func (.func f) (first.toList.map a.eval).toArray #[]) hok ?_ (.mth _ _ _ (qkL hfr _));have e:first.map a.eval=(first.toList.map a.eval).toArray:=by
     apply Array.ext';simp
    simp [execOp,ho,Instr.makeFunc,e]
   ·cases h
 ·rename_i t y lo hi mx ho;obtain⟨r,hr,he⟩:=qaC h;simp only [Prod.mk.injEq] at he;obtain⟨rfl,rfl⟩:=he;have hO:∀ (z:Option Operand),RelO H w (z.map (ev fr)) (z.map a.eval):=fun z=>by
   cases z with
   |none=>exact trivial
   |some z=>exact qaL hfr z
  obtain⟨u,hu,hru⟩:=qJD hT hr (qaL hfr y) (hO lo) (hO hi) (hO mx) w;exact quiet (v:=u) hok (by simp only [execOp,ho,Sem.run_bind,hu,Result.andThen_ok,Sem.run_pure]) hru
 ·rename_i t y f ho;obtain⟨r,hr,he⟩:=qaC h;simp only [Prod.mk.injEq] at he;obtain⟨rfl,rfl⟩:=he;obtain⟨u,hu,hru⟩:=qC7 hT hr (qaL hfr y) w;exact quiet (v:=u) hok (by simp only [execOp,ho,Sem.run_bind,hu,Result.andThen_ok,Sem.run_pure]) hru
 ·rename_i t y f ho;obtain⟨r,hr,he⟩:=qaC h;simp only [Prod.mk.injEq] at he;obtain⟨rfl,rfl⟩:=he;obtain⟨u,hu,hru⟩:=qJh hT hr (qaL hfr y) w;exact quiet (v:=u) hok (by simp only [execOp,ho,Sem.run_bind,hu,Result.andThen_ok,Sem.run_pure]) hru
 ·rename_i t y i ho;obtain⟨r,hr,he⟩:=qaC h;simp only [Prod.mk.injEq] at he;obtain⟨rfl,rfl⟩:=he;obtain⟨u,hu,hru⟩:=qEc hT hr (qaL hfr y) (qaL hfr i) w;exact quiet (v:=u) hok (by simp only [execOp,ho,Sem.run_bind,hu,Result.andThen_ok,Sem.run_pure]) hru
 ·rename_i t y i ho;obtain⟨r,hr,he⟩:=qaC h;simp only [Prod.mk.injEq] at he;obtain⟨rfl,rfl⟩:=he;obtain⟨u,hu,hru⟩:=qI8 hT hr (qaL hfr y) (qaL hfr i) w;exact quiet (v:=u) hok (by simp only [execOp,ho,Sem.run_bind,hu,Result.andThen_ok,Sem.run_pure]) hru
 ·rename_i y i ho;have hr:=qaL hfr y;split at h
  ·rename_i vs he;obtain⟨r,hr',he'⟩:=qaC h;simp only [Prod.mk.injEq] at he';obtain⟨rfl,rfl⟩:=he';rw [he] at hr;generalize hv:a.eval y=v at hr;cases hr with
   |tup _ us hrs =>
    obtain⟨u,hu,hru⟩:=hrs.get hr';refine quiet (v:=u) hok ?_ hru;simp [execOp,ho,hv,Instr.extract,hu]
  ·cases h
 ·rename_i c ho;exact qC2 hT hΓ hok hfr ho h
 ·cases h
end
end Go.Pv
set_option linter.unusedSimpArgs false
set_option linter.unusedVariables false
namespace Go.Pv
open Go.RowKit
def Marks (K:Nat×List Deferred) (ds:List Deferred) (w:World):Prop :=
 K.1≤w.heap.size∧∃ Ds:List Nat,ds=Ds.map (fun D=>{ target:=.collected D,args:=#[] })++K.2∧Ds.Nodup∧∀ D∈Ds,K.1≤D∧w.heap[D]?=some (.deferred (some []))
theorem Marks.nil {K:Nat} {w:World} (h:K≤w.heap.size):Marks (K,[]) [] w:=⟨h,[],rfl,List.nodup_nil,fun D h=>by cases h⟩
theorem Marks.ev {gl:Gl} {H H':Gh} {w w':World} {ds:List Deferred} (h:Marks H.K ds w) (e:Ev gl H w H' w'):Marks H'.K ds w':=by
 obtain⟨h0,Ds,h1,h2,h3⟩:=h;refine⟨by rw [e.K];exact Nat.le_trans h0 e.size,Ds,by rw [e.K];exact h1,h2,fun D hD=>⟨?_,e.fix D _ (h3 D hD).2⟩⟩
 rw [e.K];exact (h3 D hD).1
def St (gl:Gl) (H0:Gh) (w0:World) (fr:List PV) (σ:Store) (a:Act) (w:World):Prop :=
 ∃ H,Ev gl H0 w0 H w∧Ok gl H σ w∧RelL H w fr a.tmps.toList∧Marks H.K a.defers w
section
variable {P : Program} {tb : Tab} {gl : Gl} {Γ : Gam} {H0 : Gh} {w0 : World} {fr : List PV} {σ : Store} {a : Act} {w : World} {Q : Exit → Act → World → Prop}
theorem qxe {H:Gh} {w:World} {fr:List PV} {a:Act} {dst:Option Tmp} {x:PV} {v:Value} (hfr:RelL H w fr a.tmps.toList) (hx:Rel H w x v):RelL H w (pput fr dst x) (a.put dst v).tmps.toList:=by
 cases dst with
 |none=>exact hfr
 |some d =>
  have:=hfr.set d hx;simpa [pput,Act.put] using this
theorem qhZ {a:Act} {dst:Option Tmp} {v:Value}:(a.put dst v).defers=a.defers:=by
 cases dst<;>rfl
theorem qnN (hT:qaN P tb) (hΓ:qal P gl Γ) (hst:St gl H0 w0 fr σ a w) {o:Oper} {x:PV} {σ':Store} (h:pop tb Γ fr σ o=some (x,σ')) {next:Act→World→Prop}
  (hn:∀ a' w',St gl H0 w0 (pput fr o.dst x) σ' a' w'→next a' w') (r:Option Nat) (n:Nat):o.wpIn (rnd r) n P a w next Q:=by
 obtain⟨H,hev,hok,hfr,hd⟩:=hst;refine qDF hT hΓ hok hfr h r n next Q fun v w' ⟨H',hev',hok',hx⟩=>hn _ _ ⟨H',hev.trans hev',hok',qxe (hfr.mono hev'.mono) hx,by rw [qhZ];exact hd.ev hev'⟩
theorem qv9 (hst:St gl H0 w0 fr σ a w) (dst:Option Tmp):St gl H0 w0 (pput fr dst (.tup [])) σ (a.put dst undef) w:=by
 obtain⟨H,hev,hok,hfr,hd⟩:=hst;exact⟨H,hev,hok,qxe hfr (.tup [] [] .nil),by rw [qhZ];exact hd⟩
theorem qbZ (hst:St gl H0 w0 fr σ a w) {ops:Array Oper} {o:Oper} {b:Bool} (h:pwanted ops.toList fr o=some b):Region.wanted o (yielded ops a.tmps)=b:=by
 obtain⟨H,hev,hok,hfr,hd⟩:=hst;unfold pwanted at h
 unfold Region.wanted;split at h
 ·rename_i hg;simp only [Option.some.injEq] at h
  subst h;simp [hg]
 ·rename_i j t hg;simp only [hg];split at h
  ·rename_i c hc;simp only [Option.some.injEq] at h
   subst h;rw [Array.getElem?_toList] at hc;cases hdst:(ops[j]?).bind (·.dst) with
   |none=>simp [hdst] at hc
   |some d =>
    simp only [hdst,Option.bind_some] at hc;obtain⟨v,hv,hr⟩:=hfr.get hc;cases hr
    rw [Array.getElem?_toList] at hv;simp only [yielded,hdst,Option.bind_some,hv];cases c<;>cases t<;>rfl
  ·rename_i cs hc;simp only [Option.some.injEq] at h
   subst h;rw [Array.getElem?_toList] at hc;cases hdst:(ops[j]?).bind (·.dst) with
   |none=>simp [hdst] at hc
   |some d =>
    simp only [hdst,Option.bind_some] at hc;obtain⟨v,hv,hr⟩:=hfr.get hc;cases hr
    rw [Array.getElem?_toList] at hv;simp only [yielded,hdst,Option.bind_some,hv];cases t<;>rfl
  ·cases h
theorem qyS (hT:qaN P tb) (hΓ:qal P gl Γ) {ops:Array Oper}:∀ (l:List Oper) (fr:List PV) (σ:Store) (a:Act) (w:World) (fr':List PV) (σ':Store),St gl H0 w0 fr σ a w→pops tb Γ ops.toList l fr σ=some (fr',σ') →
  (∀ a' w',St gl H0 w0 fr' σ' a' w'→Q .normal a' w')→∀ (r:Option Nat) (n:Nat),wpListIn (rnd r) n P ops Q l a w:=by
 intro l
 induction l with
 |nil =>
  intro fr σ a w fr' σ' hst h hq r n;simp only [pops,Option.some.injEq,Prod.mk.injEq] at h
  obtain⟨rfl,rfl⟩:=h;exact hq a w hst
 |cons o l ih =>
  intro fr σ a w fr' σ' hst h hq r n;simp only [pops] at h
  split at h
  ·cases h
  ·rename_i hw;have hwn:=qbZ hst hw;simp only [wpListIn,hwn];exact⟨fun _ _=>trivial,ih _ _ _ _ _ _ (qv9 hst _) h hq r n⟩
  ·rename_i hw;have hwn:=qbZ hst hw;simp only [wpListIn,hwn,if_true];split at h
   ·cases h
   ·rename_i x σ1 hp;exact qnN hT hΓ hst hp (fun a' w' hst'=>ih _ _ _ _ _ _ hst' h hq r n) r n
theorem qOd {n:Nat} {H:Gh} {w:World} {a:Act} (h:a.tmps.toList.length=n):RelL H w (List.replicate n .top) a.tmps.toList :=
 qdj.2 ⟨by simp [h],fun i x v hx _=>by
  have:x=.top:=by
   rw [List.getElem?_replicate] at hx;split at hx
   ·exact (Option.some.inj hx).symm
   ·cases hx
  subst this;exact .top v⟩
theorem qEJ (hT:qaN P tb) (hΓ:qal P gl Γ) {ops:Array Oper} {n0:Nat}:∀ (l:List Oper) (fr:List PV) (σ:Store) (a:Act) (w:World) (x:PV) (σ':Store),fr.length=n0→St gl H0 w0 fr σ a w→ppans tb Γ ops.toList l fr σ=some (x,σ') →
  (∀ a' w',St gl H0 w0 (List.replicate n0 .top) σ' a' w'→Q (.panic [{ v:=toV x,recovered:=false }]) a' w')→∀ (r:Option Nat) (n:Nat),wpListIn (rnd r) n P ops Q l a w:=by
 intro l
 induction l with
 |nil=>intro fr σ a w x σ' hl hst h;cases h
 |cons o l ih =>
  intro fr σ a w x σ' hl hst h hq r n;have hlen:∀ (d:Option Tmp) (y:PV),(pput fr d y).length=n0:=fun d y=>by cases d<;>simp [pput,hl]
  simp only [ppans] at h
  split at h
  ·cases h
  ·rename_i hw;have hwn:=qbZ hst hw;simp only [wpListIn,hwn];exact⟨fun _ _=>trivial,ih _ _ _ _ _ _ (hlen _ _) (qv9 hst _) h hq r n⟩
  ·rename_i hw;have hwn:=qbZ hst hw;simp only [wpListIn,hwn,if_true];split at h
   ·rename_i y σ1 hp;exact qnN hT hΓ hst hp (fun a' w' hst'=>ih _ _ _ _ _ _ (hlen _ _) hst' h hq r n) r n
   ·obtain⟨H,hev,hok,hfr,hd⟩:=hst;refine qrb hΓ hok hfr h r n _ Q fun w' ⟨H',hev',hok'⟩=>hq a w' ⟨H',hev.trans hev',hok',qOd ?_,hd.ev hev'⟩
    rw [← hfr.len,hl]
theorem qEY (hst:St gl H0 w0 fr σ a w):St gl H0 w0 fr σ a { w with drawn:=w.drawn+1 }:=by
 obtain⟨H,hev,hok,hfr,hd⟩:=hst;have hb:=qd3 w;have e:=Ev.of_below (gl:=gl) hok.B hb (fun _=>Nat.le_succ _)
 exact⟨H,hev.trans e,hok.of_below hb,hfr.mono e.mono,hd.ev e⟩
end
end Go.Pv
set_option linter.unusedSimpArgs false
set_option linter.unusedVariables false
namespace Go.Pv
open Go.RowKit
section
variable {tb : Tab} {Γ : Gam} {fr fr' : List PV} {σ : Store}
theorem qHi {l:List Operand} (h:∀ x∈l,ev fr x=ev fr' x):l.map (ev fr)=l.map (ev fr'):=List.map_congr_left h
theorem qHH {l:List (Nat×Operand)} (h:∀ x∈l.map (·.2),ev fr x=ev fr' x):(l.map fun p=>(p.1,ev fr p.2))=l.map fun p=>(p.1,ev fr' p.2) :=
 List.map_congr_left fun p hp=>by rw [h p.2 (List.mem_map.2 ⟨p,hp,rfl⟩)]
theorem qLV {x:Option Operand} (h:∀ y∈x.toList,ev fr y=ev fr' y):x.map (ev fr)=x.map (ev fr'):=by
 cases x with
 |none=>rfl
 |some y=>simp [h y (by simp)]
theorem qM5 {c:Call} (h:∀ x∈c.operands.toList,ev fr x=ev fr' x):qb8 tb Γ fr σ c=qb8 tb Γ fr' σ c:=by
 unfold qb8;split
 ·split
  ·rename_i t x ht hx;have:ev fr x=ev fr' x:=h x (by simp [Call.operands,hx])
   rw [this]
  ·rfl
 ·split
  ·rename_i t t' s x ht hx;have h1:ev fr s=ev fr' s:=h s (by simp [Call.operands,hx])
   have h2:ev fr x=ev fr' x:=h x (by simp [Call.operands,hx])
   rw [h1,h2]
  ·rfl
 ·split
  ·rename_i t x ht hx;have h1:ev fr x=ev fr' x:=h x (by simp [Call.operands,hx])
   rw [h1]
  ·rfl
 ·split
  ·rename_i x y hx;have h1:ev fr x=ev fr' x:=h x (by simp [Call.operands,hx])
   have h2:ev fr y=ev fr' y:=h y (by simp [Call.operands,hx])
   rw [h1,h2]
  ·rfl
 ·rfl
 ·rfl
 ·rename_i f hf;have h1:ev fr f=ev fr' f:=h f (by simp [Call.operands,hf])
  have h2:c.args.toList.map (ev fr)=c.args.toList.map (ev fr'):=qHi fun x hx=>h x (by simp [Call.operands,hf];exact .inr (by simpa using hx))
  rw [h1,h2]
theorem qLp {o:Oper} (h:∀ x∈o.op.operands.toList,ev fr x=ev fr' x):pop tb Γ fr σ o=pop tb Γ fr' σ o:=by
 unfold pop;cases ho:o.op<;>simp only [ho,Op.operands] at h ⊢
 case build t parts =>
  rw [qHH (by simpa using h)]
 case buildSlice t n parts =>
  rw [qHH (by simpa using h)]
 case call c=>exact qM5 h
 case makeFunc f first caps =>
  cases f<;>(try rfl)
  show (match first.toList with|[]=>_|_=>_)=(match first.toList with|[]=>_|_=>_)
  split
  ·rename_i hf;rw [qHi (fr:=fr) (fr':=fr') (fun x hx=>h x (by simp;exact .inr (by simpa using hx)))]
  ·rw [qHi (fr:=fr) (fr':=fr') (l:=first.toList) (fun x hx=>h x (by simp;exact .inl (by simpa using hx)))]
 case slice t x l hi m =>
  have h1:ev fr x=ev fr' x:=h x (by simp)
  rw [h1,qLV (fr:=fr) (fr':=fr') (x:=l) (fun y hy=>h y (by simp at hy ⊢;simp [hy])),qLV (fr:=fr) (fr':=fr') (x:=hi) (fun y hy=>h y (by simp at hy ⊢;simp [hy])),qLV (fr:=fr) (fr':=fr') (x:=m) (fun y hy=>h y (by simp at hy ⊢;simp [hy]))]
 all_goals simp_all
theorem qfC {o : Oper} (hw : writes Γ o = false) {x : PV} {σ' : Store} (h : pop tb Γ fr σ o = some (x, σ')) : σ' = σ := by
  unfold pop at h
  unfold writes at hw
  cases ho : o.op <;> simp only [ho] at h hw
  case call c =>
    unfold qb8 at h
    split at h
    · split at h
      · split at h
        · split at h <;> simp_all
        · cases h
      · cases h
    · rename_i hc
      simp [hc, qbl] at hw
    · rename_i hc
      simp [hc, qbl] at hw
    · (repeat' (split at h)) <;> first | (cases h; done) | (simp at h; exact h.2.symm)
    · cases h
    · cases h
    · rename_i f hc
      split at h
      · rename_i g caps hf
        split at h
        · obtain ⟨r, _, he⟩ := qaC h
          exact (Prod.mk.inj he).2.symm
        · rename_i D hD
          split at h
          · simp only [ev, PV.fn.injEq] at hf
            obtain ⟨rfl, rfl⟩ := hf
            simp [qbl, hc, hD] at hw
          · cases h
        · rename_i D hD
          split at h
          · rename_i hdy
            cases f with
            | func g' =>
              simp only [ev, PV.fn.injEq] at hf
              obtain ⟨rfl, rfl⟩ := hf
              simp [qbl, hc, hD] at hw
            | _ =>
              simp only [qxA] at hdy
              simp only [qbl, hc, hdy] at hw
              split at hw <;> cases hw
          · cases h
        · cases h
        · cases h
        · cases h
        · cases h
        · cases h
      · rename_i g caps hf
        split at h
        · rename_i D hD
          split at h
          · rename_i hdy
            cases f with
            | func g' => cases hf
            | _ =>
              simp only [qxA] at hdy
              simp only [qbl, hc, hdy] at hw
              split at hw <;> cases hw
          · cases h
        · cases h
      · rename_i t hf
        split at h
        · rename_i e Y hY
          cases f with
          | func g => cases hf
          | tmp i => simp [qbl, hc, hY] at hw
          | const v => simp [qbl, hc, hY] at hw
          | global g => simp [qbl, hc, hY] at hw
        · cases h
      · cases h
  case move y =>
    have hn : hinted Γ o = [] := by simpa [List.isEmpty_iff] using hw
    rw [hn] at h
    exact (Prod.mk.inj (Option.some.inj h)).2.symm
  case assign y =>
    have hn : hinted Γ o = [] := by simpa [List.isEmpty_iff] using hw
    rw [hn] at h
    exact (Prod.mk.inj (Option.some.inj h)).2.symm
  case build t parts =>
    have hn : hinted Γ o = [] := by simpa [List.isEmpty_iff] using hw
    rw [hn] at h
    obtain ⟨r, _, he⟩ := qaC h
    exact (Prod.mk.inj he).2.symm
  case makeSlice t l c =>
    rw [if_neg (by rw [hw]; simp)] at h
    obtain ⟨r, _, he⟩ := qaC h
    exact (Prod.mk.inj he).2.symm
  case load =>
    repeat' (split at h)
    all_goals first | (cases h; done) | (obtain ⟨r, _, he⟩ := qaC h; exact (Prod.mk.inj he).2.symm)
  case extract =>
    split at h
    · obtain ⟨r, _, he⟩ := qaC h; exact (Prod.mk.inj he).2.symm
    · cases h
  case makeFunc f first caps =>
    cases f <;> simp only [] at h <;> (try cases h)
    split at h
    · simp at h; exact h.2.symm
    · split at h
      · simp at h; exact h.2.symm
      · cases h
  all_goals first
    | (cases h; done)
    | (cases hw; done)
    | (simp at h; exact h.2.symm)
    | (obtain ⟨r, _, he⟩ := qaC h; exact (Prod.mk.inj he).2.symm)
    | (repeat' (split at h)
       all_goals first | (cases h; done) | (simp at h; exact h.2.symm))
theorem qv7 {o : Oper} (hw : reads Γ o = false) {x : PV} {σ' : Store} (h : pop tb Γ fr σ o = some (x, σ')) (σ2 : Store) : pop tb Γ fr σ2 o = some (x, σ2) := by
  unfold pop at h ⊢
  unfold reads qbk writes at hw
  cases ho : o.op <;> simp only [ho] at h hw ⊢
  case call c =>
    unfold qb8 at h ⊢
    split at h
    · split at h
      · split at h
        · split at h <;> simp_all
        · cases h
      · cases h
    · rename_i hc
      simp [hc, qbl, qh5] at hw
    · rename_i hc
      simp [hc, qbl, qh5] at hw
    · (repeat' (split at h)) <;> first | (cases h; done) | (simp at h; simp_all)
    · cases h
    · cases h
    · rename_i hc
      simp [hc, qbl, qh5] at hw
  case move y =>
    have hn : hinted Γ o = [] := by simpa [List.isEmpty_iff] using hw
    rw [hn] at h ⊢
    obtain ⟨rfl, rfl⟩ := Prod.mk.inj (Option.some.inj h)
    rfl
  case assign y =>
    have hn : hinted Γ o = [] := by simpa [List.isEmpty_iff] using hw
    rw [hn] at h ⊢
    obtain ⟨rfl, rfl⟩ := Prod.mk.inj (Option.some.inj h)
    rfl
  case build t parts =>
    have hn : hinted Γ o = [] := by simpa [List.isEmpty_iff] using hw
    rw [hn] at h ⊢
    obtain ⟨r, hr, he⟩ := qaC h
    obtain ⟨rfl, rfl⟩ := Prod.mk.inj he
    rw [hr]
    rfl
  case makeSlice t l c =>
    have hw' : qm1 Γ = false := by simpa using hw
    rw [if_neg (by rw [hw']; simp)] at h ⊢
    obtain ⟨r, hr, he⟩ := qaC h
    obtain ⟨rfl, rfl⟩ := Prod.mk.inj he
    rw [hr]
    rfl
  case makeFunc f first caps =>
    cases f <;> simp only [] at h ⊢ <;> (try cases h)
    split at h
    · simp at h; simp [h.1]
    · split at h
      · simp at h; simp [h.1]
      · cases h
  case extract =>
    split at h
    · obtain ⟨r, hr, he⟩ := qaC h; obtain ⟨rfl, rfl⟩ := Prod.mk.inj he; rw [hr]; rfl
    · cases h
  all_goals first
    | (cases h; done)
    | (cases hw; done)
    | (simp at h; simp [h.1])
    | (obtain ⟨r, hr, he⟩ := qaC h; obtain ⟨rfl, rfl⟩ := Prod.mk.inj he; rw [hr]; rfl)
    | (repeat' (split at h)
       all_goals first | (cases h; done) | (simp at h; simp_all))
end
end Go.Pv
set_option linter.unusedSimpArgs false
set_option linter.unusedVariables false
namespace Go.Pv
open Go.RowKit
inductive Anc (ops:List Oper) (i:Nat):Nat→Prop
 |edge (j:Nat) (o:Oper) (e:Edge) (h:ops[j]?=some o) (he:e∈o.after.toList) (hb:Region.binds .any e=true) (hi:e.on=i):Anc ops i j
 |step (j:Nat) (o:Oper) (e:Edge) (h:ops[j]?=some o) (he:e∈o.after.toList) (hb:Region.binds .any e=true) (hi:Anc ops i e.on):Anc ops i j
theorem qIQ (acc:List Nat) (i:Nat):∀ (l:List Edge) (s:Nat),(l.foldl (fun s e=>if Region.binds .any e then s ||| 2 ^ e.on ||| acc.getD e.on 0 else s) s).testBit i=true →
  s.testBit i=true∨∃ e∈l,Region.binds .any e=true∧(e.on=i∨(acc.getD e.on 0).testBit i=true):=by
 intro l
 induction l with
 |nil=>intro s h;exact .inl h
 |cons e l ih =>
  intro s h;simp only [List.foldl_cons] at h
  rcases ih _ h with h|⟨e',he',h⟩
  ·split at h
   ·rename_i hb;simp only [Nat.testBit_or,Bool.or_eq_true,Nat.testBit_two_pow,decide_eq_true_eq] at h
    rcases h with (h|h)|h
    ·exact .inl h
    ·exact .inr ⟨e,by simp,hb,.inl h⟩
    ·exact .inr ⟨e,by simp,hb,.inr h⟩
   ·exact .inl h
  ·exact .inr ⟨e',by simp [he'],h⟩
theorem qjL (M:Oper→Oper→Bool) (ops:List Oper):∀ (rest done:List Oper) (acc:List Nat),done++rest=ops→(∀ k i,k < done.length→(acc.getD k 0).testBit i=true→Anc ops i k)→acc.length=done.length →
  qgc M rest done acc=true →
  (∀ j o,done.length≤j→ops[j]?=some o→∀ e∈o.after.toList,Region.binds .any e=true→e.on < j) ∧
  (∀ i j x o,done.length≤j→i < j→ops[i]?=some x→ops[j]?=some o→M x o=true→Anc ops i j):=by
 intro rest
 induction rest with
 |nil =>
  intro done acc hd ha hl h;have:done=ops:=by simpa using hd
  subst this;refine⟨fun j o hj ho=>?_,fun i j x o hj _ _ ho=>?_⟩ <;>
  ·have:=(List.getElem?_eq_some_iff.1 ho).1;omega
 |cons o rest ih =>
  intro done acc hd ha hl h;simp only [qgc,Bool.and_eq_true,List.all_eq_true] at h
  obtain⟨⟨h1,h2⟩,h3⟩:=h;have hat:ops[done.length]?=some o:=by rw [← hd];simp
  have hedge:∀ e∈o.after.toList,Region.binds .any e=true→e.on < done.length:=fun e he hb=>by
   have:=h1 e he;simpa [hb] using this
  have hm:∀ i,(mask acc o).testBit i=true→Anc ops i done.length:=by
   intro i hi;rcases qIQ acc i _ _ hi with h|⟨e,he,hb,h⟩
   ·simp at h
   ·rcases h with h|h
    ·exact .edge _ o e hat he hb h
    ·exact .step _ o e hat he hb (ha e.on i (hedge e he hb) h)
  have ih':=ih (done++[o]) (acc++[mask acc o]) (by simpa using hd) (fun k i hk hb=>by
   by_cases hlt:k < done.length
   ·rw [List.getD_eq_getElem?_getD,List.getElem?_append_left (by omega),← List.getD_eq_getElem?_getD] at hb
    exact ha k i hlt hb
   ·have hk':k=done.length:=by simp at hk;omega
    subst hk';rw [List.getD_eq_getElem?_getD,List.getElem?_append_right (by omega)] at hb
    simp [hl] at hb;exact hm i hb) (by simp [hl]) h3
  refine⟨fun j o' hj ho=>?_,fun i j x o' hj hij hx ho hmeet=>?_⟩
  ·rcases Nat.eq_or_lt_of_le hj with rfl|hj
   ·rw [hat] at ho;cases ho
    exact hedge
   ·exact ih'.1 j o' (by simp;omega) ho
  ·rcases Nat.eq_or_lt_of_le hj with rfl|hj
   ·rw [hat] at ho;cases ho
    refine hm i ?_;have hmem:(x,i)∈done.zipIdx:=by
     rw [List.mem_zipIdx_iff_getElem?];rw [← hd,List.getElem?_append_left hij] at hx;exact hx
    have:=h2 _ hmem;simpa [hmeet] using this
   ·exact ih'.2 i j x o' (by simp;omega) hij hx ho hmeet
theorem qgI {b:Bool} {Γ:Gam} {ops:List Oper} (h:qbR b Γ ops=true) :
  (∀ j o,ops[j]?=some o→∀ e∈o.after.toList,Region.binds .any e=true→e.on < j) ∧
  (∀ i j x o,i < j→ops[i]?=some x→ops[j]?=some o→qdJ b Γ ops x o=true→Anc ops i j):=by
 have:=qjL (qdJ b Γ ops) ops ops [] [] (by simp) (fun k i hk=>by simp at hk) rfl h
 exact⟨fun j o=>this.1 j o (Nat.zero_le _),fun i j x o=>this.2 i j x o (Nat.zero_le _)⟩
structure Trace (tb:Tab) (Γ:Gam) (ops l:List Oper) (F:Nat→List PV) (S:Nat→Store) (X:Nat→PV):Prop where
 at_:∀ i o,l[i]?=some o→((pwanted ops (F i) o=some false∧X i=.tup []∧S (i+1)=S i)∨(pwanted ops (F i) o=some true∧pop tb Γ (F i) (S i) o=some (X i,S (i+1))))∧F (i+1)=pput (F i) o.dst (X i)
theorem qoE {tb:Tab} {Γ:Gam} {ops:List Oper}:∀ (l:List Oper) (fr:List PV) (σ:Store) (fr':List PV) (σ':Store),pops tb Γ ops l fr σ=some (fr',σ') →
  ∃ F S X,F 0=fr∧S 0=σ∧F l.length=fr'∧S l.length=σ'∧Trace tb Γ ops l F S X:=by
 intro l
 induction l with
 |nil =>
  intro fr σ fr' σ' h;simp only [pops,Option.some.injEq,Prod.mk.injEq] at h
  exact⟨fun _=>fr,fun _=>σ,fun _=>.top,rfl,rfl,h.1,h.2,⟨fun i o ho=>by simp at ho⟩⟩
 |cons o l ih =>
  intro fr σ fr' σ' h;have key:∀ x σ1,pops tb Γ ops l (pput fr o.dst x) σ1=some (fr',σ')→((pwanted ops fr o=some false∧x=.tup []∧σ1=σ)∨(pwanted ops fr o=some true∧pop tb Γ fr σ o=some (x,σ1))) →
    ∃ F S X,F 0=fr∧S 0=σ∧F (o::l).length=fr'∧S (o::l).length=σ'∧Trace tb Γ ops (o::l) F S X:=by
   intro x σ1 h hx;obtain⟨F,S,X,hF,hS,hF',hS',ht⟩:=ih _ _ _ _ h;refine⟨fun i=>match i with|0=>fr|i+1=>F i,fun i=>match i with|0=>σ|i+1=>S i,fun i=>match i with|0=>x|i+1=>X i,rfl,rfl,hF',hS',⟨fun i o' ho=>?_⟩⟩
   cases i with
   |zero =>
    simp at ho;subst ho;refine⟨?_,by simp [hF]⟩
    rcases hx with⟨h1,h2,h3⟩|⟨h1,h2⟩
    ·exact .inl ⟨h1,h2,by rw [h3] at hS;exact hS⟩
    ·exact .inr ⟨h1,by show pop tb Γ fr σ o=some (x,S 0);rw [hS];exact h2⟩
   |succ i=>exact ht.at_ i o' (by simpa using ho)
  simp only [pops] at h
  split at h
  ·cases h
  ·rename_i hw;exact key _ _ h (.inl ⟨hw,rfl,rfl⟩)
  ·rename_i hw;split at h
   ·cases h
   ·rename_i x σ1 hp;exact key _ _ h (.inr ⟨hw,hp⟩)
def In (listed:Array Bool) (i:Nat):Prop:=listed.getD i false=true
structure Inv (Γ:Gam) (ops:List Oper) (F:Nat→List PV) (S:Nat→Store) (listed:Array Bool) (fr:List PV) (σ:Store):Prop where
 len:fr.length=(F 0).length
 closed:∀ j o,In listed j→ops[j]?=some o→∀ e∈o.after.toList,Region.binds .any e=true→In listed e.on
 frame:∀ t i,i≤ops.length→(∀ j o,j < i→ops[j]?=some o→o.dst=some t→In listed j)→(∀ j o,i≤j→ops[j]?=some o→o.dst=some t→¬ In listed j)→fr[t]?=(F i)[t]?
 store:∀ i,i≤ops.length→(∀ j o,j < i→ops[j]?=some o→writes Γ o=true→In listed j)→(∀ j o,i≤j→ops[j]?=some o→writes Γ o=true→¬ In listed j)→σ=S i
theorem In.of_anc {ops:List Oper} {listed:Array Bool} (hc:∀ j o,In listed j→ops[j]?=some o→∀ e∈o.after.toList,Region.binds .any e=true→In listed e.on) {i j:Nat} (h:Anc ops i j) (hj:In listed j):In listed i:=by
 induction h with
 |edge j o e h he hb hi=>exact hi ▸ hc j o hj h e he hb
 |step j o e h he hb hi ih=>exact ih (hc j o hj h e he hb)
theorem In.of_anc' {ops:List Oper} {listed:Array Bool} (hc:∀ j o,In listed j→ops[j]?=some o→∀ e∈o.after.toList,Region.binds .any e=true→In listed e.on) {i k:Nat} (h:Anc ops i k) {o:Oper} (ho:ops[k]?=some o)
  (hk:∀ e∈o.after.toList,Region.binds .any e=true→In listed e.on):In listed i:=by
 cases h with
 |edge _ o' e h he hb hi =>
  rw [ho] at h
  cases h
  exact hi ▸ hk e he hb
 |step _ o' e h he hb hi =>
  rw [ho] at h
  cases h
  exact In.of_anc hc hi (hk e he hb)
theorem qsE (fr:List PV) (dst:Option Tmp) (x:PV):(pput fr dst x).length=fr.length:=by
 cases dst<;>simp [pput]
theorem qCr {fr:List PV} {dst:Option Tmp} {x:PV} {t:Nat} (h:dst≠some t):(pput fr dst x)[t]?=fr[t]?:=by
 cases dst with
 |none=>rfl
 |some d =>
  have:d≠t:=fun e=>h (by rw [e])
  simp [pput,List.getElem?_set_ne this]
section
variable {tb : Tab} {Γ : Gam} {ops : List Oper} {F : Nat → List PV} {S : Nat → Store} {X : Nat → PV} {listed : Array Bool} {fr : List PV} {σ : Store}
theorem Trace.len (ht:Trace tb Γ ops ops F S X):∀ i,i≤ops.length→(F i).length=(F 0).length:=by
 intro i
 induction i with
 |zero=>intro _;rfl
 |succ i ih =>
  intro hi;have:=(ht.at_ i _ (List.getElem?_eq_getElem (by omega))).2
  rw [this,qsE,ih (by omega)]
theorem Trace.still (ht : Trace tb Γ ops ops F S X) {t i j : Nat} (hij : i ≤ j) (hj : j ≤ ops.length) (h : ∀ k o, i ≤ k → k < j → ops[k]? = some o → o.dst ≠ some t) : (F j)[t]? = (F i)[t]? := by
  induction j with
  | zero => have : i = 0 := by omega
            rw [this]
  | succ j ih =>
    rcases Nat.eq_or_lt_of_le hij with rfl | hlt
    · rfl
    · have ho := List.getElem?_eq_getElem (l := ops) (i := j) (by omega)
      rw [(ht.at_ j _ ho).2, qCr (h j _ (by omega) (by omega) ho)]
      exact ih (by omega) (by omega) (fun k o h1 h2 => h k o h1 (by omega))
theorem Trace.stillS (ht : Trace tb Γ ops ops F S X) {i j : Nat} (hij : i ≤ j) (hj : j ≤ ops.length) (h : ∀ k o, i ≤ k → k < j → ops[k]? = some o → writes Γ o = false) : S j = S i := by
  induction j with
  | zero => have : i = 0 := by omega
            rw [this]
  | succ j ih =>
    rcases Nat.eq_or_lt_of_le hij with rfl | hlt
    · rfl
    · have ho := List.getElem?_eq_getElem (l := ops) (i := j) (by omega)
      have hw := h j _ (by omega) (by omega) ho
      have := ih (by omega) (by omega) (fun k o h1 h2 => h k o h1 (by omega))
      rcases (ht.at_ j _ ho).1 with ⟨_, _, h3⟩ | ⟨_, h3⟩
      · rw [h3, this]
      · rw [qfC hw h3, this]
theorem qbG {listed:Array Bool} {k j:Nat} (hk:k < listed.size):In (listed.setIfInBounds k true) j↔j=k∨In listed j:=by
 unfold In;rw [Array.getD_eq_getD_getElem?,Array.getD_eq_getD_getElem?,Array.getElem?_setIfInBounds];by_cases h:k=j
 ·subst h;simp [hk]
 ·simp only [h,if_false];constructor
  ·exact .inr
  ·rintro (rfl|h')
   ·exact absurd rfl h
   ·exact h'
theorem Inv.sees {b:Bool} (hord:qbR b Γ ops=true) (hI:Inv Γ ops F S listed fr σ) {k:Nat} {o:Oper} (hk:ops[k]?=some o) (hn:¬ In listed k) (he:∀ e∈o.after.toList,Region.binds .any e=true→In listed e.on) :
  (∀ t∈looks ops o,fr[t]?=(F k)[t]?)∧(qbk b Γ o=true→σ=S k):=by
 obtain⟨h1,h2⟩:=qgI hord;have hkl:=(List.getElem?_eq_some_iff.1 hk).1;refine⟨fun t ht=>?_,fun hr=>?_⟩
 ·refine hI.frame t k (by omega) (fun j o' hj ho hd=>?_) (fun j o' hj ho hd hin=>?_)
  ·refine In.of_anc' hI.closed (h2 j k o' o hj ho hk ?_) hk he;simp [qdJ,hits,hd,ht]
  ·rcases Nat.eq_or_lt_of_le hj with rfl|hlt
   ·exact hn hin
   ·refine hn (In.of_anc hI.closed (h2 k j o o' hlt hk ho ?_) hin);simp [qdJ,hits,hd,ht]
 ·refine hI.store k (by omega) (fun j o' hj ho hd=>?_) (fun j o' hj ho hd hin=>?_)
  ·refine In.of_anc' hI.closed (h2 j k o' o hj ho hk ?_) hk he;simp [qdJ,hd,hr]
  ·rcases Nat.eq_or_lt_of_le hj with rfl|hlt
   ·exact hn hin
   ·refine hn (In.of_anc hI.closed (h2 k j o o' hlt hk ho ?_) hin);simp [qdJ,hd,hr]
theorem Inv.someS {b:Bool} (hord:qbR b Γ ops=true) (hI:Inv Γ ops F S listed fr σ):∃ i,i≤ops.length∧σ=S i:=by
 obtain⟨h1,h2⟩:=qgI hord
 -- the first writer that has not run
 have key:∀ n i,i+n=ops.length→(∀ j o,j < i→ops[j]?=some o→writes Γ o=true→In listed j)→∃ i,i≤ops.length∧σ=S i:=by
  intro n
  induction n with
  |zero =>
   intro i hi hlo;refine⟨i,by omega,hI.store i (by omega) hlo fun j o hj ho=>?_⟩
   have:=(List.getElem?_eq_some_iff.1 ho).1;omega
  |succ n ih =>
   intro i hi hlo;have ho:=List.getElem?_eq_getElem (l:=ops) (i:=i) (by omega)
   by_cases hx:writes Γ ops[i]=true∧¬ In listed i
   ·refine⟨i,by omega,hI.store i (by omega) hlo fun j o hj ho' hw hin=>?_⟩
    rcases Nat.eq_or_lt_of_le hj with rfl|hlt
    ·exact hx.2 hin
    ·exact hx.2 (In.of_anc hI.closed (h2 i j _ o hlt ho ho' (by simp [qdJ,hx.1,hw,qbk])) hin)
   ·refine ih (i+1) (by omega) fun j o hj ho' hw=>?_
    by_cases hji:j < i
    ·exact hlo j o hji ho' hw
    ·have:j=i:=by omega
     subst this;rw [ho] at ho';cases ho'
     apply Classical.byContradiction;intro hn;exact hx ⟨hw,hn⟩
 exact key ops.length 0 (by simp) (fun j o hj=>by omega)
theorem Inv.next {b:Bool} (hord:qbR b Γ ops=true) (ht:Trace tb Γ ops ops F S X) (hI:Inv Γ ops F S listed fr σ) {k:Nat} {o:Oper} (hk:ops[k]?=some o) (hks:k < listed.size) (hn:¬ In listed k)
  (he:∀ e∈o.after.toList,Region.binds .any e=true→In listed e.on) {σ':Store} (hσ:(writes Γ o=true→σ'=S (k+1))∧(writes Γ o=false→σ'=σ)) :
  Inv Γ ops F S (listed.setIfInBounds k true) (pput fr o.dst (X k)) σ':=by
 obtain⟨h1,h2⟩:=qgI hord;have hkl:=(List.getElem?_eq_some_iff.1 hk).1;refine⟨by rw [qsE,hI.len],fun j o' hj ho e he' hb=>?_,fun t i hi hlo hhi=>?_,fun i hi hlo hhi=>?_⟩
 ·rw [qbG hks] at hj ⊢;rcases hj with rfl|hj
  ·rw [hk] at ho;cases ho
   exact .inr (he e he' hb)
  ·exact .inr (hI.closed j o' hj ho e he' hb)
 ·by_cases hd:o.dst=some t
  ·have hki:k < i:=by
    apply Nat.lt_of_not_le;intro hle;exact hhi k o hle hk hd ((qbG hks).2 (.inl rfl))
   have hst:=ht.still (t:=t) (i:=k+1) (j:=i) (by omega) hi (fun j o' hj1 hj2 ho hd'=>by
    have hin:=(qbG hks).1 (hlo j o' hj2 ho hd');rcases hin with rfl|hin
    ·omega
    ·exact hn (In.of_anc hI.closed (h2 k j o o' (by omega) hk ho (by simp [qdJ,hd,hd'])) hin))
   rw [hst,(ht.at_ k o hk).2,hd];simp only [pput,List.getElem?_set];simp [hI.len,ht.len k (by omega)]
  ·rw [qCr hd];refine hI.frame t i hi (fun j o' hj ho hd'=>?_) (fun j o' hj ho hd' hin=>hhi j o' hj ho hd' ((qbG hks).2 (.inr hin)))
   rcases (qbG hks).1 (hlo j o' hj ho hd') with rfl|h
   ·rw [hk] at ho;cases ho
    exact absurd hd' hd
   ·exact h
 ·cases hw:writes Γ o with
  |true =>
   have hki:k < i:=by
    apply Nat.lt_of_not_le;intro hle;exact hhi k o hle hk hw ((qbG hks).2 (.inl rfl))
   have hst:=ht.stillS (i:=k+1) (j:=i) (by omega) hi (fun j o' hj1 hj2 ho=>by
    cases hw':writes Γ o' with
    |false=>rfl
    |true =>
     have hin:=(qbG hks).1 (hlo j o' hj2 ho hw');rcases hin with rfl|hin
     ·omega
     ·exact absurd (In.of_anc hI.closed (h2 k j o o' (by omega) hk ho (by simp [qdJ,hw,hw',qbk])) hin) hn)
   rw [hst,hσ.1 hw]
  |false =>
   rw [hσ.2 hw];refine hI.store i hi (fun j o' hj ho hd'=>?_) (fun j o' hj ho hd' hin=>hhi j o' hj ho hd' ((qbG hks).2 (.inr hin)))
   rcases (qbG hks).1 (hlo j o' hj ho hd') with rfl|h
   ·rw [hk] at ho;cases ho
    rw [hw] at hd';cases hd'
   ·exact h
end
theorem qv3:∀ (l:List Bool) (k:Nat),l[k]?=some false→(l.set k true).count false+1=l.count false:=by
 intro l
 induction l with
 |nil=>intro k h;simp at h
 |cons b l ih =>
  intro k h;cases k with
  |zero=>simp at h;subst h;simp
  |succ k =>
   have:=ih k (by simpa using h)
   simp only [List.set_cons_succ,List.count_cons];omega
section
variable {P : Program} {tb : Tab} {gl : Gl} {Γ : Gam} {H0 : Gh} {w0 : World} {Q : Exit → Act → World → Prop}
theorem qvL {b:Bool} (hT:qaN P tb) (hΓ:qal P gl Γ) {ops:Array Oper} (hord:qbR b Γ ops.toList=true) {F:Nat→List PV} {S:Nat→Store} {X:Nat→PV} (ht:Trace tb Γ ops.toList ops.toList F S X)
  (hfree:∀ (k i:Nat) (o:Oper),ops.toList[k]?=some o→reads Γ o=true→qbk b Γ o=false→i≤ops.size→pop tb Γ (F k) (S k) o=some (X k,S (k+1))→pop tb Γ (F k) (S i) o=some (X k,S i))
  (hq:∀ a' w',St gl H0 w0 (F ops.size) (S ops.size) a' w'→Q .normal a' w') :
  ∀ (fuel:Nat) (listed:Array Bool) (fr:List PV) (σ:Store) (a:Act) (w:World),listed.size=ops.size→listed.toList.count false≤fuel→Inv Γ ops.toList F S listed fr σ→St gl H0 w0 fr σ a w→∀ (r:Option Nat) (n:Nat),wpAnyIn (rnd r) n P .any ops Q fuel listed a w:=by
 obtain⟨h1,h2⟩:=qgI hord
 -- where nothing is ready,all have run
 have all:∀ (listed:Array Bool),listed.size=ops.size→Region.ready .any ops listed=[]→∀ i,i < ops.size→In listed i:=by
  intro listed hs hr i
  induction i using Nat.strongRecOn with
  |_ i ih =>
   intro hi;apply Classical.byContradiction;intro hn;have hmem:i∈Region.ready .any ops listed:=by
    unfold Region.ready;rw [List.mem_filter];refine⟨List.mem_range.2 hi,?_⟩;have e1:listed.getD i true=false:=by
     have hb:i < listed.size:=by omega
     unfold In at hn;rw [Array.getD_eq_getD_getElem?,Array.getElem?_eq_getElem hb] at hn ⊢;simpa using hn
    have e2:ops[i]?=some ops[i]:=Array.getElem?_eq_getElem hi;simp only [e1,e2,Option.map_some,Option.getD_some,Bool.not_false,Bool.true_and,Array.all_eq_true'];intro e he;cases hb:Region.binds .any e with
    |false=>rfl
    |true =>
     have hlt:=h1 i ops[i] (by rw [Array.getElem?_toList];exact e2) e (Array.mem_toList_iff.2 he) hb
     have:=ih e.on hlt (by omega)
     simpa [In] using this
   rw [hr] at hmem;cases hmem
 have done:∀ (listed:Array Bool) (fr:List PV) (σ:Store) (a:Act) (w:World),listed.size=ops.size→Inv Γ ops.toList F S listed fr σ→St gl H0 w0 fr σ a w→Region.ready .any ops listed=[]→Q .normal a w:=by
  intro listed fr σ a w hs hI hst hr;have ha:=all listed hs hr;have e1:fr=F ops.size:=by
   apply List.ext_getElem?;intro t;refine hI.frame t ops.size (by simp) (fun j o hj _ _=>ha j hj) (fun j o hj ho=>?_)
   have:=(List.getElem?_eq_some_iff.1 ho).1;simp at this;omega
  have e2:σ=S ops.size:=by
   refine hI.store ops.size (by simp) (fun j o hj _ _=>ha j hj) (fun j o hj ho=>?_)
   have:=(List.getElem?_eq_some_iff.1 ho).1;simp at this;omega
  subst e1 e2;exact hq a w hst
 intro fuel
 induction fuel with
 |zero =>
  intro listed fr σ a w hs hc hI hst;have hr:Region.ready .any ops listed=[]:=by
   unfold Region.ready;rw [List.filter_eq_nil_iff];intro i hi;have hi:=List.mem_range.1 hi;have hb:i < listed.size:=by omega
   have:listed.getD i true=true:=by
    rw [Array.getD_eq_getD_getElem?,Array.getElem?_eq_getElem hb];have h0:false∉listed.toList:=List.count_eq_zero.1 (by omega)
    cases hl:listed[i] with
    |true=>rfl
    |false=>exact absurd (by rw [← hl];simp) h0
   simp [this]
  exact fun r n=>⟨hr,done listed fr σ a w hs hI hst hr⟩
 |succ fuel ih =>
  intro listed fr σ a w hs hc hI hst r n;refine⟨done listed fr σ a w hs hI hst,fun k hk=>?_⟩
  unfold Region.ready at hk;rw [List.mem_filter] at hk;obtain⟨hk,hk'⟩:=hk;have hk:=List.mem_range.1 hk;have hb:k < listed.size:=by omega
  have e2:ops[k]?=some ops[k]:=Array.getElem?_eq_getElem hk;simp only [e2,Option.map_some,Option.getD_some,Bool.and_eq_true,Bool.not_eq_true'] at hk';obtain⟨hk1,hk2⟩:=hk';have hko:ops.toList[k]?=some ops[k]:=by rw [Array.getElem?_toList];exact e2
  have hlk:listed[k]?=some false:=by
   rw [Array.getD_eq_getD_getElem?,Array.getElem?_eq_getElem hb] at hk1;rw [Array.getElem?_eq_getElem hb];simpa using hk1
  have hn:¬ In listed k:=by
   unfold In;rw [Array.getD_eq_getD_getElem?,hlk];simp
  have he:∀ e∈ops[k].after.toList,Region.binds .any e=true→In listed e.on:=by
   intro e he hbd;have:=Array.all_eq_true'.1 hk2 e (Array.mem_toList_iff.1 he);simpa [hbd,In] using this
  obtain⟨hsee,hsto⟩:=hI.sees hord hko hn he;have hwan:pwanted ops.toList fr ops[k]=pwanted ops.toList (F k) ops[k]:=by
   unfold pwanted;cases hg:ops[k].guard with
   |none=>rfl
   |some jb =>
    obtain⟨j,b⟩:=jb;simp only [];cases hd:(ops.toList[j]?).bind (·.dst) with
    |none=>rfl
    |some d =>
     have:fr[d]?=(F k)[d]?:=hsee d (by simp [looks,hg];exact .inr (by rw [Array.getElem?_toList] at hd;simp [hd]))
     simp only [Option.bind_some,this]
  have hpop:∀ s,pop tb Γ fr s ops[k]=pop tb Γ (F k) s ops[k]:=by
   intro s;refine qLp fun x hx=>?_
   cases x with
   |tmp t =>
    have:fr[t]?=(F k)[t]?:=hsee t (by
     simp only [looks,List.mem_append,List.mem_filterMap];exact .inl ⟨_,hx,rfl⟩)
    simp only [ev,List.getD_eq_getElem?_getD,this]
   |const v=>rfl
   |global g=>rfl
   |func f=>rfl
  have hcount:(listed.setIfInBounds k true).toList.count false≤fuel:=by
   have:=qv3 listed.toList k (by rw [Array.getElem?_toList];exact hlk)
   simp only [Array.toList_setIfInBounds];omega
  have hsize:(listed.setIfInBounds k true).size=ops.size:=by simp [hs]
  unfold wpOpIn;simp only [e2];rcases (ht.at_ k ops[k] hko).1 with⟨hw,hx,hS⟩|⟨hw,hp⟩
  ·have hwn:=qbZ hst (hwan.trans hw);simp only [hwn];refine⟨fun _ _=>trivial,ih _ _ σ _ _ hsize hcount ?_ (qv9 hst _) r n⟩
   have:=hI.next hord ht hko hb hn he (σ':=σ) ⟨fun hwr=>?_,fun _=>rfl⟩
   ·rw [hx] at this;exact this
   ·rw [hS];exact hsto (by simp [qbk,hwr])
  ·have hwn:=qbZ hst (hwan.trans hw);simp only [hwn,if_true];cases hr:qbk b Γ ops[k] with
   |true =>
    have hs':=hsto hr;have hp':pop tb Γ fr σ ops[k]=some (X k,S (k+1)):=by rw [hpop,hs'];exact hp
    refine qnN hT hΓ hst hp' (fun a' w' hst'=>ih _ _ _ _ _ hsize hcount (hI.next hord ht hko hb hn he ⟨fun _=>rfl,fun hwf=>?_⟩) hst' r n) r n
    rw [qfC hwf hp,hs']
   |false =>
    have hwf:writes Γ ops[k]=false:=by
     cases hwr:writes Γ ops[k] with
     |false=>rfl
     |true=>simp [qbk,hwr] at hr
    have hp':pop tb Γ fr σ ops[k]=some (X k,σ):=by
     rw [hpop];cases hr0:reads Γ ops[k] with
     |false=>exact qv7 hr0 hp σ
     |true =>
      obtain⟨i,hi,rfl⟩:=hI.someS hord;exact hfree k i _ hko hr0 hr (by simpa using hi) hp
    refine qnN hT hΓ hst hp' (fun a' w' hst'=>ih _ _ _ _ _ hsize hcount (hI.next hord ht hko hb hn he ⟨fun h=>?_,fun _=>rfl⟩) hst' r n) r n
    rw [hwf] at h
    cases h
theorem qHY {ops:List Oper} {F:Nat→List PV} {S:Nat→Store} {X:Nat→PV} (ht:Trace tb Γ ops ops F S X) {k:Nat} (hk:k≤ops.length) {a:Operand} (h:qfE ops k a=true):ev (F ops.length) a=ev (F k) a:=by
 cases a with
 |tmp t =>
  simp only [qfE,List.all_eq_true] at h
  have:=ht.still (t:=t) hk (Nat.le_refl _) fun j o hj hj2 ho hd=>by
   have hm:o∈ops.drop k:=by
    apply List.mem_of_getElem? (i:=j - k);rw [List.getElem?_drop,show k+(j - k)=j from by omega]
    exact ho
   have:=h o hm;simp [hd] at this
  simp only [ev,List.getD_eq_getElem?_getD,this]
 |_=>rfl
theorem qon {t:TypeId} {a:Operand} {o:Oper} (ho:o.op=.load t a) {fr:List PV} {σ σ' σ2:Store} {x:PV} (h:pop tb Γ fr σ o=some (x,σ')) (hs:∀ id off,ev fr a=.ptr id off→σ2.objs[id]?=σ.objs[id]?):pop tb Γ fr σ2 o=some (x,σ2):=by
 simp only [pop,ho] at h ⊢;split at h
 ·rename_i cs hg;split at h
  ·rename_i K hK;obtain⟨r,hr,he⟩:=qaC h;cases he
   simp only [hr,Option.map_some]
  ·cases h
 ·rename_i hg;split at h
  ·rename_i K hK;split at h
   ·rename_i id off he;rw [hs id off he];split at h
    ·rename_i cs hcs;obtain⟨r,hr,he⟩:=qaC h;cases he
     simp only [hr,Option.map_some]
    ·cases h
   ·obtain⟨r,hr,he⟩:=qaC h;cases he
    simp only [hr,Option.map_some]
   ·cases h
  ·cases h
theorem qEM {o:Oper} (ho:(∃ t,o.op=.alloc t)∨(∃ t y,o.op=.box t y)∨∃ t y z,o.op=.makeSlice t y z) {fr:List PV} {σ σ':Store} {x:PV} (h:pop tb Γ fr σ o=some (x,σ')):∃ l,σ'.objs=σ.objs++l:=by
 rcases ho with⟨t,ho⟩|⟨t,y,ho⟩|⟨t,y,z,ho⟩
 ·simp only [pop,ho] at h
  split at h
  ·cases hh:hinted Γ o with
   |nil =>
    rw [hh] at h
    cases h
    exact⟨_,rfl⟩
   |cons a l =>
    rw [hh] at h
    cases h
    exact⟨_,rfl⟩
  ·cases h
 ·simp only [pop,ho] at h
  split at h
  ·cases h;exact⟨_,rfl⟩
  ·cases h
 ·simp only [pop,ho] at h
  split at h
  ·unfold qlF at h
   repeat' (split at h)
   all_goals first|(cases h;done)|(cases h;exact⟨_,rfl⟩)
  ·obtain⟨r,hr,he⟩:=qaC h;cases he
   exact⟨[],by simp⟩
theorem qKn {o : Oper} {t : TypeId} {b y : Operand} (ho : o.op = .store t b y) {fr : List PV} {σ σ' : Store} {x : PV} (h : pop tb Γ fr σ o = some (x, σ')) {id off : Nat} (hb : ev fr b = .ptr id off) : ∃ c, σ'.objs = σ.objs.set id c := by
  simp only [pop, ho, hb] at h
  repeat' (split at h)
  all_goals first
    | (cases h; done)
    | (obtain ⟨e1, e2⟩ := PV.ptr.inj ‹PV.ptr id off = PV.ptr _ _›
       subst e1
       cases h
       exact ⟨_, rfl⟩)
theorem qCf {ops:List Oper} {F:Nat→List PV} {S:Nat→Store} {X:Nat→PV} (ht:Trace tb Γ ops ops F S X):∀ (l:List Oper) (k:Nat) (ids:List Nat),ops.drop k=l→qt2 Γ ops (F ops.length) l k=some ids→(S 0).objs.length≤(S k).objs.length →
  ∀ i,k≤i→i≤ops.length→(S 0).objs.length≤(S i).objs.length∧∀ id,id < (S 0).objs.length→id∉ids→(S i).objs[id]?=(S k).objs[id]?:=by
 intro l
 induction l with
 |nil =>
  intro k ids hd h hn i hki hi;have:ops.length≤k:=by
   have:=congrArg List.length hd;simp at this;omega
  have:i=k:=by omega
  subst this;exact⟨hn,fun _ _ _=>rfl⟩
 |cons o l ih =>
  intro k ids hd h hn i hki hi;have hko:ops[k]?=some o:=by
   have:(ops.drop k)[0]?=some o:=by rw [hd];rfl
   rw [List.getElem?_drop] at this;simpa using this
  have hkl:=(List.getElem?_eq_some_iff.1 hko).1;have hd':ops.drop (k+1)=l:=by
   rw [← List.drop_drop,hd];rfl
  simp only [qt2] at h
  split at h
  ·cases h
  ·rename_i ids' hids;have step:(S 0).objs.length≤(S (k+1)).objs.length∧((∀ id,id∈ids'→id∈ids)∧∀ id,id < (S 0).objs.length→id∉ids→(S (k+1)).objs[id]?=(S k).objs[id]?):=by
    rcases (ht.at_ k o hko).1 with⟨_,_,h3⟩|⟨_,hp⟩
    ·rw [h3];refine⟨hn,fun id hid=>?_,fun _ _ _=>rfl⟩
     cases hw:writes Γ o with
     |false=>simp [hw] at h;rw [← h];exact hid
     |true =>
      simp only [hw,cond_true] at h
      split at h
      ·cases h;exact hid
      ·cases h;exact hid
      ·cases h;exact hid
      ·rename_i t b y ho';cases hf:qfE ops k b with
       |false=>simp [hf] at h
       |true =>
        simp only [hf,cond_true] at h
        split at h
        ·cases h;exact List.mem_cons_of_mem _ hid
        ·cases h
      ·cases h
    ·cases hw:writes Γ o with
     |false =>
      simp [hw] at h
      subst h;rw [qfC hw hp];exact⟨hn,fun _ h=>h,fun _ _ _=>rfl⟩
     |true =>
      simp only [hw,cond_true] at h
      split at h
      ·rename_i t ho';cases h
       obtain⟨l,hl⟩:=qEM (.inl ⟨_,ho'⟩) hp;rw [hl];exact⟨by simp;omega,fun _ h=>h,fun id h1 _=>List.getElem?_append_left (by omega)⟩
      ·rename_i t y ho';cases h
       obtain⟨l,hl⟩:=qEM (.inr (.inl ⟨_,_,ho'⟩)) hp;rw [hl];exact⟨by simp;omega,fun _ h=>h,fun id h1 _=>List.getElem?_append_left (by omega)⟩
      ·rename_i t y z ho';cases h
       obtain⟨l,hl⟩:=qEM (.inr (.inr ⟨_,_,_,ho'⟩)) hp;rw [hl];exact⟨by simp;omega,fun _ h=>h,fun id h1 _=>List.getElem?_append_left (by omega)⟩
      ·rename_i t b y ho';cases hf:qfE ops k b with
       |false=>simp [hf] at h
       |true =>
        simp only [hf,cond_true] at h
        split at h
        ·rename_i id off he;cases h
         rw [qHY ht (by omega) hf] at he
         obtain⟨c,hc⟩:=qKn ho' hp he;rw [hc];refine⟨by simpa using hn,fun _ h=>List.mem_cons_of_mem _ h,fun id' h1 h2=>?_⟩
         rw [List.getElem?_set_ne];intro e;exact h2 (by rw [← e];simp)
        ·cases h
      ·cases h
   rcases Nat.eq_or_lt_of_le hki with rfl|hlt
   ·exact⟨hn,fun _ _ _=>rfl⟩
   ·have:=ih (k+1) ids' hd' hids step.1 i hlt hi;exact⟨this.1,fun id h1 h2=>(this.2 id h1 fun hm=>h2 (step.2.1 id hm)).trans (step.2.2 id h1 h2)⟩
theorem qC3 {ops:List Oper} {fr:List PV} {n:Nat} {ids:List Nat}:∀ (l:List Oper) (k:Nat),qBS ops fr n ids l k=true→∀ (j:Nat) (o:Oper) (t:TypeId) (a:Operand),l[j]?=some o→o.op=.load t a →
  qfE ops (k+j) a=true∧∀ id off,ev fr a=.ptr id off→id < n∧id∉ids:=by
 intro l
 induction l with
 |nil=>intro k _ j o t a hj;simp at hj
 |cons o l ih =>
  intro k h j o' t a hj ho;simp only [qBS,Bool.and_eq_true] at h
  cases j with
  |zero =>
   simp at hj;subst hj;have h2:=h.2;simp only [ho,Bool.and_eq_true] at h2;refine⟨h2.1,fun id off he=>?_⟩
   have h3:=h2.2;simp only [he,Bool.and_eq_true,List.all_eq_true] at h3;refine⟨by simpa using h3.1,fun hm=>?_⟩
   have:=h3.2 id hm;simp at this
  |succ j =>
   have:=ih (k+1) h.1 j o' t a (by simpa using hj) ho
   rw [show k+(j+1)=k+1+j from by omega]
   exact this
theorem qyp {ops:List Oper} {F:Nat→List PV} {S:Nat→Store} {X:Nat→PV} (ht:Trace tb Γ ops ops F S X) (ha:qeB Γ ops (F ops.length) (S 0).objs.length=true) (k i:Nat) (o:Oper) (hk:ops[k]?=some o) (hr:reads Γ o=true) (hf:qbk true Γ o=false)
  (hi:i≤ops.length) (hp:pop tb Γ (F k) (S k) o=some (X k,S (k+1))):pop tb Γ (F k) (S i) o=some (X k,S i):=by
 unfold qeB at ha;split at ha
 ·rename_i ids hids;have hkl:=(List.getElem?_eq_some_iff.1 hk).1;have hobj:=qCf ht ops 0 ids rfl hids (Nat.le_refl _);cases ho:o.op with
  |load t a =>
   have:=qC3 ops 0 ha k o t a hk ho;rw [Nat.zero_add] at this;refine qon ho hp fun id off he=>?_
   rw [← qHY ht (by omega) this.1] at he
   obtain⟨h1,h2⟩:=this.2 id off he;rw [(hobj i (Nat.zero_le _) hi).2 id h1 h2,(hobj k (Nat.zero_le _) (by omega)).2 id h1 h2]
  |_ =>
   exfalso
   unfold reads qbk at hr;unfold qbk at hf;simp only [ho] at hr hf
   simp_all
 ·cases ha
theorem qCZ (hT:qaN P tb) (hΓ:qal P gl Γ) (hm:P.follows .mixedOrders=true) {id:Nat} {ops:Array Oper} {draw:Bool} {fr fr':List PV} {σ σ':Store} {a:Act} {w:World} (hst:St gl H0 w0 fr σ a w)
  (h:pops tb Γ ops.toList ops.toList fr σ=some (fr',σ')) (hd:draw=true→ordered Γ ops.toList=true∨(qbR true Γ ops.toList=true∧qeB Γ ops.toList fr' σ.objs.length=true)) (hq:∀ a' w',St gl H0 w0 fr' σ' a' w'→Q .normal a' w') (r:Option Nat) (n:Nat):(Code.region id ops draw).wpIn (rnd r) n P Q a w:=by
 cases draw with
 |false=>exact wpIn_region_list (qyS hT hΓ ops.toList fr σ a w fr' σ' hst h hq r n)
 |true =>
  refine wpIn_region_any hm ?_;obtain⟨F,S,X,hF,hS,hF',hS',ht⟩:=qoE _ _ _ _ _ h;have no:∀ i,¬ In (Array.replicate ops.size false) i:=by
   intro i;unfold In;rw [Array.getD_eq_getD_getElem?];by_cases hi:i < ops.size
   ·simp [Array.getElem?_replicate,hi]
   ·simp [Array.getElem?_replicate,hi]
  have fin:∀ (b:Bool),qbR b Γ ops.toList=true→(∀ (k i:Nat) (o:Oper),ops.toList[k]?=some o→reads Γ o=true→qbk b Γ o=false→i≤ops.size→pop tb Γ (F k) (S k) o=some (X k,S (k+1))→pop tb Γ (F k) (S i) o=some (X k,S i))→_:=fun b hb hfree =>
   qvL hT hΓ hb ht hfree (fun a' w' hst'=>hq a' w' (by rw [← hF',← hS'];simpa using hst')) ops.size (Array.replicate ops.size false) fr σ _ _ (by simp) (Nat.le_trans List.count_le_length (by simp)) ⟨by rw [hF],fun j o hj=>absurd hj (no j),fun t i hi hlo hhi=>by
    rw [ht.still (i:=0) (j:=i) (Nat.zero_le _) hi (fun k o _ hk ho hd=>no k (hlo k o hk ho hd)),hF],fun i hi hlo hhi=>by
    rw [ht.stillS (i:=0) (j:=i) (Nat.zero_le _) hi (fun k o _ hk ho=>by
     cases hw:writes Γ o with
     |false=>rfl
     |true=>exact absurd (hlo k o hk ho hw) (no k)),hS]⟩ (qEY hst) r n
  rcases hd rfl with h1|⟨h1,h2⟩
  ·exact fin false h1 fun k i o hk hr hf=>by
    unfold reads at hr;rw [hf] at hr;cases hr
  ·refine fin true h1 fun k i o hk hr hf hi hp=>qyp ht ?_ k i o hk hr hf (by simpa using hi) hp
   rw [hF',hS];exact h2
end
end Go.Pv
