/- Part 2 of the proof: pure values for the machine's values, what functions compute over them, and laws of what is computed. Conditions: none beyond each theorem's own premises. -/
import Derived.Test.YtakhnioifgbdfaaGreatDoorPvG1
import Derived.WalkKit
import Derived.ProofKit
import Derived.OpenShut
import Derived.Deep.DeepHandedRow
import Derived.Lib.LaidTab
import Derived.Carry
import Derived.Test.YtakhnioifgbdfaaGreatDoorProg
import Derived.Test.YtakhnioifgbdfaaGreatDoorShelf
import Derived.Lib.AppendIntMem
import Derived.Lib.ItoaLen
import Derived.Lib.ParseIntBTie
import Derived.Shelf.Strings.BuilderK
import Derived.RangeFuncNested
import Derived.Lib.LastIndexByte
noncomputable section
set_option linter.unusedSimpArgs false
set_option linter.unusedVariables false
namespace Go.Pv
open Go.RowKit
inductive Tr (α:Type) where
 |ret (a:α)
 |fail
 |ite (b:Bool) (x y:Tr α)
 |get (xs:qR) (i:Nat) (z:List PV) (k:List PV→Tr α)
namespace Tr
def run {α:Type}:Tr α→Option α
 |.ret a=>some a
 |.fail=>none
 |.ite b x y=>bif b then run x else run y
 |.get xs i _ k=>match xs[i]? with
  |some cs=>run (k cs)
  |none=>none
def bind {α β:Type}:Tr α→(α→Tr β)→Tr β
 |.ret a,f=>f a
 |.fail,_=>.fail
 |.ite b x y,f=>.ite b (bind x f) (bind y f)
 |.get xs i z k,f=>.get xs i z fun cs=>bind (k cs) f
theorem run_bind {α β:Type}:∀ (x:Tr α) (f:α→Tr β),run (bind x f)=(run x).bind fun a=>run (f a)
 |.ret a,f=>rfl
 |.fail,f=>rfl
 |.ite b x y,f=>by
  simp only [bind,run,run_bind x f,run_bind y f];cases b<;>rfl
 |.get xs i z k,f=>by
  simp only [bind,run];cases xs[i]? with
  |none=>rfl
  |some cs=>exact run_bind (k cs) f
theorem bind_some {α β:Type} {x:Tr α} {f:α→Tr β} {r:β} (h:run (bind x f)=some r):∃ a,run x=some a∧run (f a)=some r:=by
 rw [run_bind] at h
 cases hx:run x with
 |none=>simp [hx] at h
 |some a=>exact⟨a,rfl,by simpa [hx] using h⟩
def br {α:Type} (lit:Bool) (b:Bool) (x y:Tr α):Tr α:=bif lit then (bif b then x else y) else .ite b x y
theorem qTs {α:Type} (lit b:Bool) (x y:Tr α):run (br lit b x y)=bif b then run x else run y:=by
 cases lit<;>cases b<;>rfl
def chk {α:Type} (b:Bool) (x:Tr α):Tr α:=.ite b x .fail
theorem chk_some {α:Type} {b:Bool} {x:Tr α} {r:α} (h:run (chk b x)=some r):b=true∧run x=some r:=by
 cases b with
 |true=>exact⟨rfl,h⟩
 |false=>cases h
def qni {α:Type}:Option α→Tr α
 |some a=>.ret a
 |none=>.fail
theorem qcV {α:Type} (x:Option α):run (qni x)=x:=by cases x<;>rfl
end Tr
open Tr
def iAdd (k:IntKind) (a b:Int):Int:=k.wrap (a+b)
def iSub (k:IntKind) (a b:Int):Int:=k.wrap (a - b)
def iMul (k:IntKind) (a b:Int):Int:=k.wrap (a * b)
def iQuo (k:IntKind) (a b:Int):Int:=k.wrap (a.tdiv b)
def iRem (a b:Int):Int:=a.tmod b
def iAnd (k:IntKind) (a b:Int):Int:=k.wrap (BitVec.ofInt k.bits a &&& BitVec.ofInt k.bits b).toNat
def iOr (k:IntKind) (a b:Int):Int:=k.wrap (BitVec.ofInt k.bits a ||| BitVec.ofInt k.bits b).toNat
def iXor (k:IntKind) (a b:Int):Int:=k.wrap (BitVec.ofInt k.bits a ^^^ BitVec.ofInt k.bits b).toNat
def iShl (k:IntKind) (a b:Int):Int:=k.wrap (a * 2 ^ min b.toNat k.bits)
def iShr (k:IntKind) (a b:Int):Int:=a.fdiv (2 ^ min b.toNat k.bits)
def qa2 (k:IntKind) (n:Int):Int:=k.wrap n
def iEq (a b:Int):Bool:=a == b
def iNe (a b:Int):Bool:=a != b
def iLt (a b:Int):Bool:=decide (a < b)
def iLe (a b:Int):Bool:=decide (a≤b)
def bNot (b:Bool):Bool:=!b
def bAnd (a b:Bool):Bool:=a&&b
def bEq (a b:Bool):Bool:=a == b
def sEq (a b:qU):Bool:=a == b
def sNe (a b:qU):Bool:=!(a == b)
def sLt (a b:qU):Bool:=Op.bytesLess a b
def sLe (a b:qU):Bool:=Op.bytesLess a b || a == b
def sGt (a b:qU):Bool:=!(Op.bytesLess a b || a == b)
def sGe (a b:qU):Bool:=!Op.bytesLess a b
def sApp (a b:qU):List UInt8:=a++b
def sLen (l:qU):Int:=l.length
def sSub (l:qU) (a b:Nat):List UInt8:=(l.take b).drop a
def sAt (l:qU) (n:Int):Int:=(l.getD n.toNat 0).toNat
def sOne (n:Int):List UInt8:=[UInt8.ofNat n.toNat]
def nNat (n:Int):Nat:=n.toNat
def nLen (l:qU):Nat:=l.length
def xLen (xs:qR):Int:=xs.length
def nXs (xs:qR):Nat:=xs.length
def xSub (xs:qR) (a b:Nat):List (List PV):=(xs.take b).drop a
def xApp (xs ys:qR):List (List PV):=xs++ys
def xNil (xs:qR):Bool:=xs.isEmpty
def qab (l:qU):List (List PV):=l.map fun b=>[.int .u8 b.toNat]
def qcL (xs:qR):List UInt8:=(pbytes xs).getD []
def qdS (xs:qR):Bool:=(pbytes xs).isSome
def qaB (xs:qR) (n:Nat):Bool:=xs.all fun y=>y.length == n
def qaH (ys:qR) (n:Nat):Bool:=ys.all fun y=>y.length == n&&y.all one
def qaE (a b:qU):Bool:=decide (a.length+b.length≤maxLen)
def qhQ (n:Int):Bool:=decide (0≤n)&&decide (n < 128)
def qnS (l:qU):Bool:=decide (l.length≤140737488355328)
def qaR (l:qU) (n:Int):Bool:=decide (0≤n)&&decide (n.toNat < l.length)
def qav (n:Int):Bool:=decide (0≤n)
def qaQ (ca cb:Bool) (a b n:Nat):Bool:=ca&&cb&&decide (a≤b)&&decide (b≤n)
def qL9 (ca cb cc:Bool) (a b c n:Nat):Bool:=ca&&cb&&cc&&decide (a≤b)&&decide (b=c)&&decide (b≤n)
def qaI (xs ys:qR) (bytes:Nat):Bool:=decide ((xs.length+ys.length) * bytes≤140737488355328)&&decide (xs.length+ys.length≤140737488355328)
def nEq (a b:Nat):Bool:=decide (a=b)
def tint (lit:Bool) (op:BinOp) (k:IntKind) (a b:Int):Tr PV :=
 match op with
 |.add=>.ret (.int k (iAdd k a b))
 |.sub=>.ret (.int k (iSub k a b))
 |.mul=>.ret (.int k (iMul k a b))
 |.quo=>if lit then (if b=0 then .fail else .ret (.int k (iQuo k a b))) else .ite (iEq b 0) .fail (.ret (.int k (iQuo k a b)))
 |.rem=>if lit then (if b=0 then .fail else .ret (.int k (iRem a b))) else .ite (iEq b 0) .fail (.ret (.int k (iRem a b)))
 |.and=>.ret (.int k (iAnd k a b))
 |.or=>.ret (.int k (iOr k a b))
 |.xor=>.ret (.int k (iXor k a b))
 |.eql=>.ret (.bool (iEq a b))
 |.neq=>.ret (.bool (iNe a b))
 |.lss=>.ret (.bool (iLt a b))
 |.leq=>.ret (.bool (iLe a b))
 |.gtr=>.ret (.bool (iLt b a))
 |.geq=>.ret (.bool (iLe b a))
 |_=>.fail
theorem qNo {lit : Bool} {op : BinOp} {k : IntKind} {a b : Int} {x : PV} (h : run (tint lit op k a b) = some x) : pint op k a b = some x := by
  cases op <;> simp only [tint, pint] at h ⊢ <;> first
    | exact h
    | (cases h; done)
    | (split at h
       · split at h
         · cases h
         · rename_i hb
           rw [if_neg hb]
           exact h
       · simp only [run, iEq] at h
         by_cases hb : b = 0
         · simp [hb] at h
         · have hb' : (b == 0) = false := by simp [hb]
           rw [hb'] at h
           rw [if_neg hb]
           exact h)
def tstr (op:BinOp) (a b:qU):Tr PV :=
 match op with
 |.add=>chk (qaE a b) (.ret (.str (sApp a b)))
 |.eql=>.ret (.bool (sEq a b))
 |.neq=>.ret (.bool (sNe a b))
 |.lss=>.ret (.bool (sLt a b))
 |.leq=>.ret (.bool (sLe a b))
 |.gtr=>.ret (.bool (sGt a b))
 |.geq=>.ret (.bool (sGe a b))
 |_=>.fail
theorem qNb {op : BinOp} {a b : List UInt8} {x : PV} (h : run (tstr op a b) = some x) : pstr op a b = some x := by
  cases op <;> simp only [tstr, pstr] at h ⊢ <;> first
    | exact h
    | (cases h; done)
    | (obtain ⟨h1, h2⟩ := chk_some h
       rw [if_pos (by simpa [qaE] using h1)]
       exact h2)
def qJi (tb:Tab) (f:TypeId→PV→PV→Option Bool) (xs ys:List PV):List (Nat×TypeId×Bool)→Option Bool
 |[]=>some true
 |(off,t,named)::rest =>
  if named then
   match tb t with
   |none=>none
   |some K=>match pload K xs off,pload K ys off with
    |some x,some y=>match f t x y,qJi tb f xs ys rest with
     |some b,some c=>some (bAnd b c)
     |_,_=>none
    |_,_=>none
  else qJi tb f xs ys rest
def beq (tb:Tab):Nat→TypeId→PV→PV→Option Bool
 |0,_,_,_=>none
 |d+1,t,x,y=>match tb t with
  |none=>none
  |some K=>match K.kd,x,y with
   |.int _,.int k a,.int k' b=>if k=k' then some (iEq a b) else none
   |.bool,.bool a,.bool b=>some (bEq a b)
   |.str,.str a,.str b=>some (sEq a b)
   |.agg fs held _,.agg xs,.agg ys=>if held then none else qJi tb (beq tb d) xs ys fs
   |_,_,_=>none
theorem qvj {tb:Tab} {f g:TypeId→PV→PV→Option Bool} (hfg:∀ t x y b,f t x y=some b→g t x y=some b) {xs ys:List PV}:∀ (fs:List (Nat×TypeId×Bool)) (b:Bool),qJi tb f xs ys fs=some b→qAz tb g xs ys fs=some b
 |[],b,h=>h
 |(off,t,named)::rest,b,h=>by
  simp only [qJi,qAz] at h ⊢;split at h
  ·rename_i hn;rw [if_pos hn];cases hK:tb t with
   |none=>simp [hK] at h
   |some K =>
    simp only [hK] at h ⊢;split at h
    ·rename_i x y hx hy;simp only [hx,hy];split at h
     ·rename_i p q hp hq;rw [hfg _ _ _ _ hp];have:=qvj hfg rest q hq;cases p with
      |true=>simp [bAnd] at h;subst h;exact this
      |false=>simp [bAnd] at h;subst h;rfl
     ·cases h
    ·cases h
  ·rename_i hn;rw [if_neg hn];exact qvj hfg rest b h
theorem qJ6 {tb:Tab}:∀ (d:Nat) (t:TypeId) (x y:PV) (b:Bool),beq tb d t x y=some b→peq tb d t x y=some b
 |0,t,x,y,b,h=>by cases h
 |d+1,t,x,y,b,h=>by
  simp only [beq,peq] at h ⊢;cases hK:tb t with
  |none=>simp [hK] at h
  |some K =>
   simp only [hK] at h ⊢;split at h
   ·rename_i hk;simp only [hk];exact h
   ·rename_i hk;simp only [hk];exact h
   ·rename_i hk;simp only [hk];exact h
   ·rename_i hk;simp only [hk];split at h
    ·cases h
    ·rename_i hh;rw [if_neg hh];exact qvj (fun t x y b=>qJ6 d t x y b) _ b h
   ·cases h
def bequal (tb:Tab) (t:TypeId) (xo yo:Operand) (x y:PV):Option Bool :=
 match tb t with
 |none=>none
 |some K=>match K.kd,x,y with
  |.iface,.nili,.nili=>if isK xo || isK yo then some true else none
  |.iface,.nili,.iface _ _=>some false
  |.iface,.iface _ _,.nili=>some false
  |.fn,.nilf,.nilf=>some true
  |.fn,.nilf,.fn _ _=>some false
  |.fn,.fn _ _,.nilf=>some false
  |.bool,.bool a,.bool b=>some (bEq a b)
  |.agg _ _ guard,.agg xs,.agg ys=>if guard then none else beq tb 50 t (.agg xs) (.agg ys)
  |_,_,_=>none
theorem qws {tb : Tab} {t : TypeId} {xo yo : Operand} {x y : PV} {b : Bool} (h : bequal tb t xo yo x y = some b) : pequal tb t xo yo x y = some b := by
  unfold bequal at h
  unfold pequal
  cases hK : tb t with
  | none => simp [hK] at h
  | some K =>
    simp only [hK] at h ⊢
    split at h <;> first
      | (rename_i hk; simp only [hk]; exact h)
      | (rename_i hk
         simp only [hk]
         split at h
         · cases h
         · rename_i hg
           rw [if_neg hg]
           exact qJ6 _ _ _ _ _ h)
      | (cases h; done)
def tnilq (tb:Tab) (t:TypeId) (yo:Operand) (xs:qR) (tg:Tag) (f:Bool→PV):Tr PV :=
 match tb t with
 |none=>.fail
 |some K=>match K.kd with
  |.sl _=>if qu1 yo then .ite (xNil xs) (match tg with
   |.nil=>.ret (f true)
   |.own=>.ret (f false)
   |_=>.fail) (.ret (f false)) else .fail
  |_=>.fail
def tbin (tb:Tab) (op:BinOp) (t:TypeId) (xo yo:Operand) (x y:PV):Tr PV :=
 match op,x,y with
 |.shl,.int k a,.int _ b=>if isK yo then (if b < 0 then .fail else .ret (.int k (iShl k a b))) else .ite (iLt b 0) .fail (.ret (.int k (iShl k a b)))
 |.shr,.int k a,.int _ b=>if isK yo then (if b < 0 then .fail else .ret (.int k (iShr k a b))) else .ite (iLt b 0) .fail (.ret (.int k (iShr k a b)))
 |op,.int k a,.int k' b=>if k=k' then tint (isK yo) op k a b else .fail
 |op,.str a,.str b=>tstr op a b
 |.eql,.sl xs tg,.sl ys tg'=>tnilq tb t yo xs tg fun b=>.bool b
 |.neq,.sl xs tg,.sl ys tg'=>tnilq tb t yo xs tg fun b=>.bool (bNot b)
 |.eql,x,y=>qni ((bequal tb t xo yo x y).map .bool)
 |.neq,x,y=>qni ((bequal tb t xo yo x y).map fun b=>.bool (bNot b))
 |_,_,_=>.fail
theorem qzY {tb:Tab} {t:TypeId} {xo yo:Operand} {xs ys:List (List PV)} {tg tg':Tag} {f:Bool→PV} {r:PV} (h:run (tnilq tb t yo xs tg f)=some r):∃ b,pequal tb t xo yo (.sl xs tg) (.sl ys tg')=some b∧r=f b:=by
 unfold tnilq at h
 unfold pequal;cases hK:tb t with
 |none=>simp [hK,run] at h
 |some K =>
  simp only [hK] at h ⊢;split at h
  ·rename_i e hk;simp only [hk];split at h
   ·rename_i hn;rw [if_pos hn];cases xs with
    |nil =>
     cases tg<;>simp [run,xNil] at h ⊢<;>exact h.symm
    |cons x xs =>
     simp [run,xNil] at h ⊢;exact h.symm
   ·cases h
  ·cases h
theorem qMZ {tb:Tab} {op:BinOp} {t:TypeId} {xo yo:Operand} {x y r:PV} (h:run (tbin tb op t xo yo x y)=some r):pbin tb op t xo yo x y=some r:=by
 unfold tbin at h
 unfold pbin;split at h
 ·rename_i k a k' b;simp only [];split at h
  ·split at h
   ·cases h
   ·rename_i hb;rw [if_neg hb];exact h
  ·simp only [run,iLt] at h
   by_cases hb:b < 0
   ·simp [hb] at h
   ·rw [if_neg hb];simp only [hb,decide_false,cond_false] at h
    exact h
 ·rename_i k a k' b;simp only [];split at h
  ·split at h
   ·cases h
   ·rename_i hb;rw [if_neg hb];exact h
  ·simp only [run,iLt] at h
   by_cases hb:b < 0
   ·simp [hb] at h
   ·rw [if_neg hb];simp only [hb,decide_false,cond_false] at h
    exact h
 ·rename_i op' k a k' b h1 h2;split at h
  ·rename_i hk;have:=qNo h;cases op'<;>first
    |(simp only [hk,if_true] at this ⊢;exact this)
    |exact absurd rfl h1
    |exact absurd rfl h2
    |exact absurd rfl (h1 _ _ _ _ rfl rfl)
    |exact absurd rfl (h2 _ _ _ _ rfl rfl)
  ·cases h
 ·have:=qNb h;cases op<;>exact this
 ·obtain⟨b,hb,rfl⟩:=qzY (xo:=xo) h;simp only [];rw [hb];rfl
 ·obtain⟨b,hb,rfl⟩:=qzY (xo:=xo) h;simp only [];rw [hb];rfl
 ·rename_i x y hn1 hn2 hn3;rw [qcV] at h
  obtain⟨b,hb,rfl⟩:=Option.map_eq_some_iff.1 h;have hp:=qws hb;split<;>first
   |exact (hn1 _ _ _ _ rfl rfl).elim
   |exact (hn2 _ _ rfl rfl).elim
   |(rw [hp];rfl)
   |simp_all
 ·rename_i x y hn1 hn2 hn3;rw [qcV] at h
  obtain⟨b,hb,rfl⟩:=Option.map_eq_some_iff.1 h;have hp:=qws hb;split<;>first
   |exact (hn1 _ _ _ _ rfl rfl).elim
   |exact (hn2 _ _ rfl rfl).elim
   |(rw [hp];rfl)
   |simp_all
 ·cases h
end Go.Pv
set_option linter.unusedSimpArgs false
set_option linter.unusedVariables false
namespace Go.Pv
open Go.RowKit Tr
def pOff (off n k:Nat):Nat:=off+n * k
def nSub (b a:Nat):Nat:=b - a
def okIx (n:Int) (len:Nat):Bool:=decide (0≤n)&&decide (n.toNat < len)
def oLen (n:Nat):Int:=n
def cInt (cs:List PV) (off j:Nat):Int:=match cs.getD (off+j) .top with|.int _ n=>n|_=>0
def qUv (cs:List PV) (off j:Nat):Bool:=match cs.getD (off+j) .top with|.bool b=>b|_=>false
def cStr (cs:List PV) (off j:Nat):List UInt8:=match cs.getD (off+j) .top with|.str l=>l|_=>[]
def cRow (cs:List PV) (off j:Nat):List (List PV):=match cs.getD (off+j) .top with|.sl l _=>l|_=>[]
def cPV (cs:List PV) (off j:Nat):PV:=cs.getD (off+j) .top
def qSW (c:PV) (cs:List PV) (off j:Nat):PV:=match c with
 |.int k _=>.int k (cInt cs off j)
 |.bool _=>.bool (qUv cs off j)
 |.str _=>.str (cStr cs off j)
 |.sl _ _=>.sl (cRow cs off j) .non
 |_=>cPV cs off j
def cSel:List PV→List PV→Nat→Nat→List PV
 |[],_,_,_=>[]
 |c::z,cs,off,j=>qSW c cs off j::cSel z cs off (j+1)
open Classical in
def qEi (z cs:List PV) (off:Nat):Bool:=decide ((cs.drop off).take z.length=cSel z cs off 0∧off+z.length≤cs.length)
theorem qwZ {z cs:List PV} {off:Nat} (h:qEi z cs off=true):(cs.drop off).take z.length=cSel z cs off 0∧off+z.length≤cs.length:=by
 simpa [qEi] using h
def qDj (cs:List PV) (off n:Nat):Bool:=decide (off+n≤cs.length)
def putC (cs:List PV) (off:Nat) (vs:List PV):List PV:=cs.take off++vs++cs.drop (off+vs.length)
def clrC (cs:List PV) (off len:Nat) (z:List PV):List PV:=cs.take off++pzeros z len++cs.drop (off+len * z.length)
def qIT (K : TK) (cs : List PV) (off : Nat) : Tr PV :=
  if K.kd.known ∧ K.zero.length = K.size then
    (if K.kd.isAgg then chk (qEi K.zero cs off) (.ret (.agg (cSel K.zero cs off 0)))
     else match K.zero with
      | [c] => chk (qEi [c] cs off) (.ret (qSW c cs off 0))
      | _ => .fail)
  else .fail
theorem qGa {K:TK} {cs:List PV} {off:Nat} {x:PV} (h:run (qIT K cs off)=some x):pload K cs off=some x:=by
 unfold qIT at h
 unfold pload;split at h
 ·rename_i hk;rw [if_pos hk.1];split at h
  ·rename_i ha;rw [if_pos ha];obtain⟨h1,h2⟩:=chk_some h;have h1:=qwZ h1;rw [hk.2] at h1;rw [if_pos h1.2,h1.1];exact h2
  ·rename_i ha;rw [if_neg ha];split at h
   ·rename_i c hz;obtain⟨h1,h2⟩:=chk_some h;have h1:=qwZ h1;simp only [List.length_cons,List.length_nil,cSel] at h1;simp only [run,Option.some.injEq] at h2;subst h2;have h3:=h1.1;have hlt:off < cs.length:=by omega
    rw [List.drop_eq_getElem_cons hlt] at h3;simp only [Nat.zero_add,List.take_succ_cons,List.take_zero,List.cons.injEq,and_true] at h3;rw [List.getElem?_eq_getElem hlt,h3]
   ·cases h
 ·cases h
def tload (tb:Tab) (t:TypeId) (a:PV) (σ:Store):Tr PV :=
 match tb t with
 |none=>.fail
 |some K=>match a with
  |.ptr id off=>match σ.objs[id]?,σ.tys[id]? with
   |some cs,some ty=>if qic≤ty then qIT K cs off else qni (pload K cs off)
   |_,_=>.fail
  |.ref cs=>qni (pload K cs 0)
  |_=>.fail
theorem qKF {tb:Tab} {t:TypeId} {fr:List PV} {a:Operand} {σ:Store} {o:Oper} (ho:o.op=.load t a) {Γ:Gam} {x:PV} (hn:gcells Γ a=none) (h:run (tload tb t (ev fr a) σ)=some x):pop tb Γ fr σ o=some (x,σ):=by
 simp only [pop,ho,hn];unfold tload at h
 cases hK:tb t with
 |none=>simp [hK,run] at h
 |some K =>
  simp only [hK] at h ⊢;split at h
  ·rename_i id off he;simp only [he];split at h
   ·rename_i cs ty hc ht;simp only [hc];split at h
    ·rw [qGa h];rfl
    ·rw [qcV] at h;rw [h];rfl
   ·cases h
  ·rename_i cs he;simp only [he];rw [qcV] at h;rw [h];rfl
  ·cases h
def tstore (tb:Tab) (t:TypeId) (a x:PV) (σ:Store):Tr Store :=
 match tb t with
 |none=>.fail
 |some K=>match a,pcells x with
  |.ptr id off,some vs=>match σ.objs[id]?,σ.tys[id]? with
   |some cs,some ty =>
    if qic≤ty then (if vs.length=K.size∧vs.all one then chk (qDj cs off K.size) (.ret { σ with objs:=σ.objs.set id (putC cs off vs) }) else .fail)
    else (if vs.length=K.size∧off+K.size≤cs.length∧vs.all one then .ret { σ with objs:=σ.objs.set id (cs.take off++vs++cs.drop (off+K.size)) } else .fail)
   |_,_=>.fail
  |_,_=>.fail
theorem qGV {tb:Tab} {t:TypeId} {fr:List PV} {a x:Operand} {σ σ':Store} {o:Oper} (ho:o.op=.store t a x) {Γ:Gam} (h:run (tstore tb t (ev fr a) (ev fr x) σ)=some σ'):pop tb Γ fr σ o=some (.top,σ'):=by
 simp only [pop,ho];unfold tstore at h
 cases hK:tb t with
 |none=>simp [hK,run] at h
 |some K =>
  simp only [hK] at h ⊢;split at h
  ·rename_i id off vs he hv;simp only [he,hv];split at h
   ·rename_i cs ty hc ht;simp only [hc];split at h
    ·split at h
     ·rename_i h1;obtain⟨h2,h3⟩:=chk_some h;simp only [qDj,decide_eq_true_eq] at h2;rw [if_pos ⟨h1.1,h2,h1.2⟩];simp only [run,putC,Option.some.injEq] at h3;rw [h1.1] at h3;rw [h3]
     ·cases h
    ·split at h
     ·rename_i h1;rw [if_pos h1];simp only [run,Option.some.injEq] at h
      rw [h]
     ·cases h
   ·cases h
  ·cases h
def tconv (tb:Tab) (src dst:TypeId) (x:PV):Tr PV :=
 match tb src,tb dst with
 |some S,some D=>match S.kd,D.kd,x with
  |.int _,.int k,.int _ n=>.ret (.int k (qa2 k n))
  |.int _,.str,.int _ n=>chk (qhQ n) (.ret (.str (sOne n)))
  |.str,.str,.str l=>.ret (.str l)
  |.sl e,.str,.sl xs _=>match tb e with
   |some ⟨.int .u8,1,_,_⟩=>chk (qdS xs) (.ret (.str (qcL xs)))
   |_=>.fail
  |.str,.sl e,.str l=>match tb e with
   |some ⟨.int .u8,1,_,_⟩=>chk (qnS l) (.ret (.sl (qab l) .non))
   |_=>.fail
  |_,_,_=>.fail
 |_,_=>.fail
theorem qLp {tb:Tab} {src dst:TypeId} {x r:PV} (h:run (tconv tb src dst x)=some r):pconv tb src dst x=some r:=by
 unfold tconv at h
 unfold pconv;cases hS:tb src with
 |none=>simp [hS,run] at h
 |some S =>
  cases hD:tb dst with
  |none=>simp [hS,hD,run] at h
  |some D =>
   simp only [hS,hD] at h ⊢;split at h
   ·rename_i hk hk';simp only [hk,hk'];exact h
   ·rename_i k n hk hk';obtain⟨h1,h2⟩:=chk_some h;simp only [qhQ,Bool.and_eq_true,decide_eq_true_eq] at h1;simp only [hk,hk'];rw [if_pos h1];exact h2
   ·rename_i hk hk';simp only [hk,hk'];exact h
   ·rename_i e xs tg hk hk';simp only [hk,hk'];split at h
    ·rename_i b z hE;obtain⟨h1,h2⟩:=chk_some h;simp only [hE];cases hp:pbytes xs with
     |none=>simp [qdS,hp] at h1
     |some l =>
      simp only [qcL,hp,Option.getD_some,run,Option.some.injEq] at h2;subst h2;rfl
    ·cases h
   ·rename_i e l hk hk';simp only [hk,hk'];split at h
    ·rename_i b z hE;obtain⟨h1,h2⟩:=chk_some h;simp only [hE];rw [if_pos (by simpa [qnS] using h1)]
     exact h2
    ·cases h
   ·cases h
def tbound:Option PV→Nat→Option (Bool×Nat)
 |none,d=>some (true,d)
 |some (.int _ n),_=>some (qav n,nNat n)
 |_,_=>none
theorem qeF {x:Option PV} {d a:Nat} (h:tbound x d=some (true,a)):pbound x d=some a:=by
 unfold tbound qav nNat at h
 unfold pbound;split at h
 ·simpa using h
 ·simp only [Option.some.injEq,Prod.mk.injEq,decide_eq_true_eq] at h
  simp [h.1,h.2]
 ·cases h
def tslice (tb:Tab) (t:TypeId) (x:PV) (lo hi mx:Option PV):Tr PV :=
 match tb t with
 |none=>.fail
 |some K=>match K.kd,x with
  |.str,.str l =>
   match mx,tbound lo 0,tbound hi (nLen l) with
   |none,some (ca,a),some (cb,b)=>chk (qaQ ca cb a b (nLen l)) (.ret (.str (sSub l a b)))
   |_,_,_=>.fail
  |.sl e,.sl xs tag=>match tb e with
   |some E=>match mx with
    |none=>match tbound lo 0,tbound hi (nXs xs) with
     |some (ca,a),some (cb,b)=>chk (qaQ ca cb a b (nXs xs)) (chk (qaB xs E.size) (.ret (.sl (xSub xs a b) (match lo,hi with|none,none=>tag|_,_=>.non))))
     |_,_=>.fail
    |some m=>match hi with
     |none=>.fail
     |some h=>match tbound lo 0,tbound (some h) 0,tbound (some m) 0 with
      |some (ca,a),some (cb,b),some (cc,c)=>chk (qL9 ca cb cc a b c (nXs xs)) (chk (qaB xs E.size) (.ret (.sl (xSub xs a b) .full)))
      |_,_,_=>.fail
   |none=>.fail
  |.sl e,.osl id off len k=>match tb e,mx with
   |some E,none=>match tbound lo 0,tbound hi len with
    |some (ca,a),some (cb,b)=>if k=E.size then chk (qaQ ca cb a b len) (.ret (.osl id (pOff off a k) (nSub b a) k)) else .fail
    |_,_=>.fail
   |_,_=>.fail
  |_,_=>.fail
theorem qG3 {tb:Tab} {t:TypeId} {x r:PV} {lo hi mx:Option PV} (h:run (tslice tb t x lo hi mx)=some r):pslice tb t x lo hi mx=some r:=by
 unfold tslice at h
 unfold pslice;cases hK:tb t with
 |none=>simp [hK,run] at h
 |some K =>
  simp only [hK] at h ⊢;split at h
  ·rename_i l hk;simp only [hk];split at h
   ·rename_i ca a cb b ha hb;obtain⟨h1,h2⟩:=chk_some h;simp only [qaQ,Bool.and_eq_true] at h1;obtain⟨⟨⟨rfl,rfl⟩,h1⟩,h3⟩:=h1;simp only [qeF ha,show pbound hi l.length=some b from qeF hb]
    rw [if_pos ⟨of_decide_eq_true h1,of_decide_eq_true h3⟩];exact h2
   ·cases h
  ·rename_i e xs tag hk;simp only [hk];cases hE:tb e with
   |none=>simp [hE,run] at h
   |some E =>
    simp only [hE] at h ⊢;split at h
    ·split at h
     ·rename_i ca a cb b ha hb;obtain⟨h1,h2⟩:=chk_some h;obtain⟨h4,h2⟩:=chk_some h2;simp only [qaQ,Bool.and_eq_true] at h1;obtain⟨⟨⟨rfl,rfl⟩,h1⟩,h3⟩:=h1;unfold qaB at h4;rw [if_pos h4];simp only [qeF ha,show pbound hi xs.length=some b from qeF hb]
      rw [if_pos ⟨of_decide_eq_true h1,of_decide_eq_true h3⟩];exact h2
     ·cases h
    ·rename_i m;split at h
     ·cases h
     ·rename_i hh;split at h
      ·rename_i ca a cb b cc c ha hb hc;obtain⟨h1,h2⟩:=chk_some h;obtain⟨h5,h2⟩:=chk_some h2;simp only [qL9,Bool.and_eq_true] at h1;obtain⟨⟨⟨⟨⟨rfl,rfl⟩,rfl⟩,h1⟩,h3⟩,h4⟩:=h1;unfold qaB at h5;rw [if_pos h5];simp only [qeF ha,qeF hb,qeF hc];rw [if_pos ⟨of_decide_eq_true h1,of_decide_eq_true h3,of_decide_eq_true h4⟩];exact h2
      ·cases h
  ·rename_i e id off len k hk;simp only [hk];split at h
   ·rename_i E hE;simp only [hE];split at h
    ·rename_i ca a cb b ha hb;split at h
     ·rename_i hkE;obtain⟨h1,h2⟩:=chk_some h;simp only [qaQ,Bool.and_eq_true] at h1;obtain⟨⟨⟨rfl,rfl⟩,h1⟩,h3⟩:=h1;simp only [qeF ha,qeF hb];rw [if_pos ⟨of_decide_eq_true h1,of_decide_eq_true h3,hkE⟩];exact h2
     ·cases h
    ·cases h
   ·cases h
  ·cases h
def qxU (tb:Tab) (t:TypeId) (x i:PV):Tr PV :=
 match tb t with
 |none=>.fail
 |some K=>match K.kd,x,i with
  |.sl e,.sl xs _,.int _ n=>match tb e with
   |some E=>chk (qav n) (.get xs (nNat n) E.zero fun cs=>if cs.length=E.size then .ret (.ref cs) else .fail)
   |none=>.fail
  |.sl e,.osl id off len k,.int _ n=>match tb e with
   |some E=>if k=E.size then chk (okIx n len) (.ret (.ptr id (pOff off (nNat n) k))) else .fail
   |none=>.fail
  |.arr m e,.ptr id off,.int _ n=>match tb e with
   |some E=>if 0≤n∧n.toNat < m then .ret (.ptr id (off+n.toNat * E.size)) else .fail
   |none=>.fail
  |_,_,_=>.fail
theorem qzG {tb:Tab} {t:TypeId} {x i r:PV} (h:run (qxU tb t x i)=some r):qpG tb t x i=some r:=by
 unfold qxU at h
 unfold qpG;cases hK:tb t with
 |none=>simp [hK,run] at h
 |some K =>
  simp only [hK] at h ⊢;split at h
  ·rename_i e xs tg k n hk;simp only [hk];cases hE:tb e with
   |none=>simp [hE,run] at h
   |some E =>
    simp only [hE] at h ⊢;obtain⟨h1,h2⟩:=chk_some h;rw [if_pos (by simpa [qav] using h1)]
    simp only [run,nNat] at h2;split at h2
    ·rename_i cs hcs;simp only [hcs];split at h2
     ·rename_i hl;rw [if_pos hl];exact h2
     ·cases h2
    ·cases h2
  ·rename_i e id off len k kk n hk;simp only [hk];cases hE:tb e with
   |none=>simp [hE,run] at h
   |some E =>
    simp only [hE] at h ⊢;split at h
    ·rename_i h0;obtain⟨h1,h2⟩:=chk_some h;simp only [okIx,Bool.and_eq_true,decide_eq_true_eq] at h1;rw [if_pos ⟨h1.1,h1.2,h0⟩];exact h2
    ·cases h
  ·rename_i m e id off k n hk;simp only [hk];cases hE:tb e with
   |none=>simp [hE,run] at h
   |some E =>
    simp only [hE] at h ⊢;split at h
    ·rename_i h0;rw [if_pos h0];exact h
    ·cases h
  ·cases h
def tarr (E:TK) (cs:List PV) (n:Int):Nat→Nat→Tr PV
 |0,_=>.fail
 |k+1,i=>.ite (iEq n i) (qni (pload E cs (i * E.size))) (tarr E cs n k (i+1))
theorem qEc {E:TK} {cs:List PV} {n:Int} {r:PV}:∀ (k i:Nat),run (tarr E cs n k i)=some r→0≤n∧n.toNat < i+k∧pload E cs (n.toNat * E.size)=some r
 |0,_,h=>by cases h
 |k+1,i,h=>by
  unfold tarr at h
  cases hb:iEq n i with
  |true =>
   rw [hb] at h
   have hn:n=i:=by simpa [iEq] using hb
   simp only [run] at h
   rw [qcV] at h
   subst hn;exact⟨by omega,by simp,by simpa using h⟩
  |false =>
   rw [hb] at h
   simp only [run] at h
   have:=qEc k (i+1) h;exact⟨this.1,by omega,this.2.2⟩
def tindex (tb:Tab) (t:TypeId) (x i:PV):Tr PV :=
 match tb t with
 |none=>.fail
 |some K=>match K.kd,x,i with
  |.str,.str l,.int _ n=>chk (qaR l n) (.ret (.int .u8 (sAt l n)))
  |.arr m e,.agg cs,.int _ n=>match tb e with
   |some E=>tarr E cs n m 0
   |none=>.fail
  |_,_,_=>.fail
theorem qGd {tb:Tab} {t:TypeId} {x i r:PV} (h:run (tindex tb t x i)=some r):pindex tb t x i=some r:=by
 unfold tindex at h
 unfold pindex;cases hK:tb t with
 |none=>simp [hK,run] at h
 |some K =>
  simp only [hK] at h ⊢;split at h
  ·rename_i l k n hk;simp only [hk];obtain⟨h1,h2⟩:=chk_some h;simp only [qaR,Bool.and_eq_true,decide_eq_true_eq] at h1;rw [if_pos h1.1,List.getElem?_eq_getElem h1.2];unfold sAt at h2;rw [List.getD_eq_getElem?_getD,List.getElem?_eq_getElem h1.2] at h2;exact h2
  ·rename_i m e cs k n hk;simp only [hk];cases hE:tb e with
   |none=>simp [hE,run] at h
   |some E =>
    simp only [hE] at h ⊢;obtain⟨h1,h2,h3⟩:=qEc _ _ h;rw [if_pos ⟨h1,by omega⟩]
    exact h3
  ·cases h
def tnil {α:Type} (lit:Bool) (ys:qR) (x y:Tr α):Tr α :=
 if lit then (match ys with|[]=>x|_::_=>y) else .ite (xNil ys) x y
theorem qMy {α:Type} (lit:Bool) (ys:qR) (x y:Tr α):run (tnil lit ys x y)=match ys with|[]=>run x|_::_=>run y:=by
 unfold tnil;split<;>cases ys<;>rfl
def tappend (tb:Tab) (m lit:Bool) (t:TypeId) (s:PV) (ys:qR) (σ:Store):Tr (PV×Store) :=
 match tb t with
 |none=>.fail
 |some K=>match K.kd,s with
  |.sl e,.sl xs tag=>match tb e with
   |some E =>
    if 0 < E.size∧0 < E.bytes∧E.zero.length=E.size then
     chk (qaI xs ys E.bytes) <| chk (qaH ys E.size) <| chk (qaB xs E.size) <|
      tnil lit ys (.ret (.sl xs tag,σ)) <| match tag with
      |.non=>.fail
      |.nil=>.fail
      |.own=>.fail
      |.full=>if m then .ret (.osl σ.objs.length 0 (nXs (xApp xs ys)) E.size,{ σ with objs:=σ.objs++[(xApp xs ys).flatten],tys:=σ.tys++[e+qic] }) else .ret (.sl (xApp xs ys) (.tok σ.toks.length),{ σ with toks:=σ.toks++[(nXs (xApp xs ys),E.size,e)] })
      |.tok i=>match σ.toks[i]? with
       |some (v,k,e')=>if k=E.size∧e'=e then chk (nEq v (nXs xs)) (.ret (.sl (xApp xs ys) (.tok i),{ σ with toks:=σ.toks.set i (nXs (xApp xs ys),E.size,e) })) else .fail
       |none=>.fail
    else .fail
   |none=>.fail
  |_,_=>.fail
theorem qtw {tb:Tab} {m lit:Bool} {t:TypeId} {s:PV} {ys:List (List PV)} {tg:Tag} {σ:Store} {r:PV×Store} (h:run (tappend tb m lit t s ys σ)=some r):pappend tb m t s (.sl ys tg) σ=some r:=by
 unfold tappend at h
 unfold pappend;cases hK:tb t with
 |none=>simp [hK,run] at h
 |some K =>
  simp only [hK,pnews] at h ⊢;split at h
  ·rename_i e xs tag hk;simp only [hk];cases hE:tb e with
   |none=>simp [hE,run] at h
   |some E =>
    simp only [hE] at h ⊢;split at h
    ·rename_i hc;obtain⟨h1,h2⟩:=chk_some h;have hh:=chk_some h2;clear h2;obtain⟨h5,h7⟩:=hh;have hh:=chk_some h7;clear h7;obtain⟨h6,h2⟩:=hh;simp only [qaI,Bool.and_eq_true,decide_eq_true_eq] at h1;obtain⟨h3,h4⟩:=h1;unfold qaH at h5;unfold qaB at h6;rw [if_pos ⟨h3,h4,hc.1,hc.2.1,hc.2.2,by rw [h5,h6];rfl⟩]
     rw [qMy] at h2;cases ys with
     |nil=>exact h2
     |cons y ys =>
      simp only [nXs,xApp,List.length_append] at h2 ⊢;split at h2
      ·cases h2
      ·cases h2
      ·cases h2
      ·cases m<;>exact h2
      ·rename_i i;simp only [];cases hσ:σ.toks[i]? with
       |none=>simp [hσ,run] at h2
       |some q =>
        obtain⟨v,k,e'⟩:=q;simp only [hσ] at h2 ⊢;split at h2
        ·rename_i hke;obtain⟨h7,h8⟩:=chk_some h2;rw [if_pos ⟨by simpa [nEq] using h7,hke.1,hke.2⟩]
         exact h8
        ·cases h2
    ·cases h
  ·cases h
def tclear (tb:Tab) (t:TypeId) (x:PV) (σ:Store):Tr (PV×Store) :=
 match tb t,x with
 |some K,.osl id off len k=>match K.kd with
  |.sl e=>match tb e with
   |some E=>.ite (nEq len 0) (.ret (.tup [],σ)) (match σ.objs[id]? with
    |some cs=>if E.zero.length=k∧0 < k∧E.zero.all one then chk (qDj cs off (pOff 0 len k)) (.ret (.tup [],{ σ with objs:=σ.objs.set id (clrC cs off len E.zero) })) else .fail
    |none=>.fail)
   |none=>.fail
  |_=>.fail
 |_,_=>.fail
theorem qGS {tb:Tab} {t:TypeId} {x:PV} {σ:Store} {r:PV×Store} (h:run (tclear tb t x σ)=some r):pclear tb t x σ=some r:=by
 unfold tclear at h
 unfold pclear;split at h
 ·rename_i K id off len k hK;simp only [hK];split at h
  ·rename_i e hk;simp only [hk];cases hE:tb e with
   |none=>simp [hE,run] at h
   |some E =>
    simp only [hE,run,nEq] at h ⊢;by_cases h0:len=0
    ·rw [if_pos h0];simp [h0] at h
     rw [← h]
    ·rw [if_neg h0];simp only [h0,decide_false,cond_false] at h
     split at h
     ·rename_i cs hc;simp only [hc];split at h
      ·rename_i h1;obtain⟨h2,h3⟩:=chk_some h;simp only [qDj,pOff,Nat.zero_add,decide_eq_true_eq] at h2;rw [if_pos ⟨h1.1,h1.2.1,h1.2.2,h2⟩];simp only [run,clrC,Option.some.injEq] at h3;rw [h1.1] at h3;rw [h3]
      ·cases h
     ·cases h
  ·cases h
 ·cases h
inductive ConT where
 |pure (F:List PV→Tr PV)
 |store (D:List PV→Store→Tr (PV×Store))
 |flag
 |yld (e:Nat) (Y:Nat→List PV→Store→Tr (PV×Store))
 |glob (cs:List PV)
 |hint (l:List (Nat×Nat×Nat×TypeId))
def ConT.con:ConT→Con
 |.pure F=>.pure fun args=>Tr.run (F args)
 |.store D=>.store fun args σ=>Tr.run (D args σ)
 |.flag=>.flag
 |.glob cs=>.glob cs
 |.hint l=>.hint l
 |.yld e Y=>.yld e fun t args σ=>Tr.run (Y t args σ)
abbrev GamT:=FuncId→Option ConT
def gam (G:GamT):Gam:=fun f=>(G f).map ConT.con
def qBP (kn:List Nat):Operand→Bool
 |.const _=>true
 |.tmp t=>kn.contains t
 |_=>false
def qot (G:GamT):Bool:=match G qH6 with
 |some .flag=>true
 |_=>false
theorem qnA (G:GamT):qn3 (gam G)=qot G:=by
 unfold qn3 qot gam;cases G qH6 with
 |none=>rfl
 |some c=>cases c<;>rfl
def qCF (tb:Tab) (G:GamT) (kn:List Nat) (fr:List PV) (σ:Store) (c:Call):Tr (PV×Store) :=
 match c.callee with
 |.builtin .append=>match c.argTypes.toList,c.args.toList with
  |[t,t'],[s,x]=>if t=t' then match ev fr x with
   |.sl ys _=>tappend tb (qot G) (qBP kn x) t (ev fr s) ys σ
   |_=>.fail
   else match tb t' with
   |some K=>match K.kd,ev fr x with
    |.str,.str l=>tappend tb (qot G) false t (ev fr s) (qab l) σ
    |_,_=>.fail
   |none=>.fail
  |_,_=>.fail
 |.builtin .len=>match c.argTypes.toList,c.args.toList with
  |[t],[x]=>match tb t with
   |some K=>match K.kd,ev fr x with
    |.str,.str l=>.ret (.int .i64 (sLen l),σ)
    |.sl _,.sl xs _=>.ret (.int .i64 (xLen xs),σ)
    |.sl _,.osl _ _ len _=>.ret (.int .i64 (oLen len),σ)
    |_,_=>.fail
   |none=>.fail
  |_,_=>.fail
 |.builtin .clear=>match c.argTypes.toList,c.args.toList with
  |[t],[x]=>tclear tb t (ev fr x) σ
  |_,_=>.fail
 |.value f=>match ev fr f with
  |.fn g caps=>match G g with
   |some (.pure F)=>bind (F ((c.args.toList.map (ev fr)++caps).map (view σ.objs))) fun x=>.ret (x,σ)
   |some (.store D)=>match f with
    |.func _=>D (c.args.toList.map (ev fr)) σ
    |_=>.fail
   |some .flag=>.fail
   |some (.yld _ _)=>.fail
   |some (.glob _)=>.fail
   |some (.hint _)=>.fail
   |none=>.fail
  |.yld t=>match G qgF with
   |some (.yld e Y)=>match σ.toks[t]? with
    |some (s,k,e')=>if k=0∧e'=e then chk (nEq s 0) (Y t (c.args.toList.map (ev fr)) σ) else .fail
    |none=>.fail
   |_=>.fail
  |_=>.fail
 |_=>qni (qfp tb (gam G) fr σ c)
theorem qD7 {tb:Tab} {G:GamT} {kn:List Nat} {fr:List PV} {σ:Store} {c:Call} {r:PV×Store} (h:run (qCF tb G kn fr σ c)=some r):qfp tb (gam G) fr σ c=some r:=by
 unfold qCF at h
 split at h
 ·rename_i hc;unfold qfp;simp only [hc];split at h
  ·rename_i t t' s x ht hx;simp only [ht,hx];split at h
   ·rename_i htt;rw [if_pos htt];split at h
    ·rename_i ys tg he;simp only [he];rw [qnA];exact qtw h
    ·cases h
   ·rename_i htt;rw [if_neg htt];cases hK:tb t' with
    |none=>simp [hK,run] at h
    |some K =>
     simp only [hK] at h ⊢;split at h
     ·rename_i l hk he;simp only [hk,he];rw [qnA];exact qtw (tg:=.non) h
     ·cases h
  ·cases h
 ·rename_i hc;unfold qfp;simp only [hc];split at h
  ·rename_i t x ht hx;simp only [ht,hx];cases hK:tb t with
   |none=>simp [hK,run] at h
   |some K =>
    simp only [hK] at h ⊢;split at h
    ·rename_i l hk he;simp only [hk,he];exact h
    ·rename_i e xs tg hk he;simp only [hk,he];exact h
    ·rename_i e id off len k hk he;simp only [hk,he];exact h
    ·cases h
  ·cases h
 ·rename_i hc;unfold qfp;simp only [hc];split at h
  ·rename_i t x ht hx;simp only [ht,hx];exact qGS h
  ·cases h
 ·rename_i f hc;unfold qfp;simp only [hc];split at h
  ·rename_i g caps he;simp only [he];cases hG:G g with
   |none=>simp [hG,run] at h
   |some K =>
    cases K with
    |pure F =>
     simp only [hG] at h
     obtain⟨x,hx,hr⟩:=bind_some h;simp only [gam,hG,Option.map_some,ConT.con,hx];exact hr
    |store D =>
     simp only [hG] at h
     simp only [gam,hG,Option.map_some,ConT.con];split at h
     ·exact h
     ·cases h
    |flag =>
     simp only [hG] at h
     cases h
    |yld e Y =>
     simp only [hG] at h
     cases h
    |glob cs =>
     simp only [hG] at h
     cases h
    |hint l =>
     simp only [hG] at h
     cases h
  ·rename_i t he;simp only [he];cases hG:G qgF with
   |none=>simp [hG,run] at h
   |some K =>
    cases K with
    |yld e Y =>
     simp only [hG] at h
     simp only [gam,hG,Option.map_some,ConT.con];split at h
     ·rename_i s k e' htk;simp only [htk];split at h
      ·rename_i hc2;obtain⟨h1,h2⟩:=chk_some h;have h3:s=0:=by simpa [nEq] using h1
       rw [if_pos ⟨h3,hc2.1,hc2.2⟩];exact h2
      ·cases h
     ·cases h
    |pure F=>simp [hG,run] at h
    |store D=>simp [hG,run] at h
    |flag=>simp [hG,run] at h
    |glob cs=>simp [hG,run] at h
    |hint l=>simp [hG,run] at h
  ·cases h
 ·rwa [qcV] at h
def tun (op:UnOp) (x:PV):Tr PV :=
 match op,x with
 |.neg,.int k n=>.ret (.int k (iSub k 0 n))
 |.not,.bool b=>.ret (.bool (bNot b))
 |_,_=>.fail
theorem qP3 {op:UnOp} {x r:PV} (h:run (tun op x)=some r):pun op x=some r:=by
 unfold tun at h
 unfold pun;split at h
 ·exact h
 ·exact h
 ·cases h
def qOL (n m:Int) (s b:Nat):Bool:=decide (0≤n)&&decide (n=m)&&decide (n.toNat * s≤16777216)&&decide (b * n.toNat≤281474976710656)
def zC (n:Nat) (z:List PV):List PV:=reps n z
def qqA (tb:Tab) (m:Bool) (t:TypeId) (x y:PV) (σ:Store):Tr (PV×Store):=match m with
 |false=>bind (qni (qi0 tb t x y)) fun x=>.ret (x,σ)
 |true=>match tb t,x,y with
  |some K,.int _ n,.int _ m=>match K.kd with
   |.sl e=>match tb e with
    |some E=>bif (E.zero.length == E.size&&Nat.blt 0 E.size) then chk (qOL n m E.size E.bytes) (.ret (.osl σ.objs.length 0 (nNat n) E.size,{ σ with objs:=σ.objs++[zC (nNat n) E.zero],tys:=σ.tys++[e+qic] })) else .fail
    |none=>.fail
   |_=>.fail
  |_,_,_=>.fail
theorem qv4 {tb:Tab} {m:Bool} {t:TypeId} {x y:PV} {σ:Store} {r:PV×Store} (h:run (qqA tb m t x y σ)=some r):(if m=true then qms tb t x y σ else (qi0 tb t x y).map fun x=>(x,σ))=some r:=by
 unfold qqA at h
 split at h
 ·obtain⟨v,hv,h⟩:=bind_some h;rw [qcV] at hv;simp only [run,Option.some.injEq] at h
  subst h;simp [hv]
 ·simp only [if_true];unfold qms;split at h
  ·rename_i K k1 n k2 m hK;split at h
   ·rename_i e hk;split at h
    ·rename_i E hE;simp only [hK,hk,hE];cases hc:(E.zero.length == E.size&&Nat.blt 0 E.size) with
     |false=>rw [hc] at h;cases h
     |true =>
      rw [hc] at h
      simp only [cond_true] at h
      obtain⟨h1,h2⟩:=chk_some h;simp only [Bool.and_eq_true,beq_iff_eq] at hc;simp only [qOL,Bool.and_eq_true,decide_eq_true_eq] at h1;have h3:0 < E.size:=by simpa using hc.2
      rw [if_pos ⟨h1.1.1.1,h1.1.1.2,h1.1.2,h1.2,hc.1,h3⟩];exact h2
    ·cases h
   ·cases h
  ·cases h
def qqQ (G:GamT):Operand→Option (List PV)
 |.global g=>match G (qDa+g) with
  |some (.glob cs)=>some cs
  |_=>none
 |_=>none
theorem qw2 (G:GamT) (a:Operand):gcells (gam G) a=qqQ G a:=by
 cases a with
 |global g =>
  simp only [gcells,qqQ,gam];cases G (qDa+g) with
  |none=>rfl
  |some K=>cases K<;>rfl
 |_=>rfl
theorem qAs {G:GamT} {a:Operand} {cs:List PV} (h:qqQ G a=some cs):gcells (gam G) a=some cs:=by rw [qw2,h]
theorem qAV {G:GamT} {a:Operand} (h:qqQ G a=none):gcells (gam G) a=none:=by rw [qw2,h]
def qlW (G:GamT) (o:Oper):List (Nat×Nat×TypeId):=match o.dst with
 |none=>[]
 |some d=>match G qdX with
  |some (.hint l)=>qy5 l d
  |_=>[]
def qnu (G:GamT) (o:Oper):List (Nat×Nat×TypeId):=match o.op with
 |.move x=>match qu1 x with
  |true=>qlW G o
  |false=>[]
 |.assign x=>match qu1 x with
  |true=>qlW G o
  |false=>[]
 |.build _ _=>qlW G o
 |.alloc _=>qlW G o
 |_=>[]
theorem qlI (G:GamT) (o:Oper):hinted (gam G) o=qnu G o:=by
 have e:qpW (gam G) o=qlW G o:=by
  unfold qpW qlW gam;cases o.dst with
  |none=>rfl
  |some d =>
   cases G qdX with
   |none=>rfl
   |some K=>cases K<;>rfl
 unfold hinted qnu;rw [e];cases o.op<;>rfl
def topp (tb:Tab) (G:GamT) (kn:List Nat) (fr:List PV) (σ:Store) (o:Oper):Tr (PV×Bool×Store) :=
 match o.op with
 |.move x|.assign x=>match qnu G o with
  |[]=>.ret (ev fr x,qBP kn x,σ)
  |hs=>.ret ((rtag hs (ev fr x) σ).1,false,(rtag hs (ev fr x) σ).2)
 |.alloc t=>match tb t with
  |some K=>.ret ((robj (qnu G o) K.zero t σ).1,false,(robj (qnu G o) K.zero t σ).2)
  |none=>.fail
 |.build t parts=>bind (qni (pbuild tb t (parts.toList.map fun p=>(p.1,ev fr p.2)))) fun x=>.ret ((rtag (qnu G o) x σ).1,false,(rtag (qnu G o) x σ).2)
 |.pick c a b=>match ev fr c with
  |.bool t=>br (qBP kn c) t (.ret (ev fr a,qBP kn a,σ)) (.ret (ev fr b,qBP kn b,σ))
  |_=>.fail
 |.buildSlice t len parts=>bind (qni (qkz tb t len (parts.toList.map fun p=>(p.1,ev fr p.2)))) fun x=>.ret (x,true,σ)
 |.binOp op t x y _=>bind (tbin tb op t x y (ev fr x) (ev fr y)) fun v=>.ret (v,false,σ)
 |.convert s d x=>bind (tconv tb s d (ev fr x)) fun v=>.ret (v,false,σ)
 |.slice t x lo hi mx=>bind (tslice tb t (ev fr x) (lo.map (ev fr)) (hi.map (ev fr)) (mx.map (ev fr))) fun v=>.ret (v,false,σ)
 |.indexAddr t x i=>bind (qxU tb t (ev fr x) (ev fr i)) fun v=>.ret (v,false,σ)
 |.index t x i=>bind (tindex tb t (ev fr x) (ev fr i)) fun v=>.ret (v,false,σ)
 |.unOp op _ x=>bind (tun op (ev fr x)) fun v=>.ret (v,qBP kn x,σ)
 |.load t a=>match qqQ G a with
  |some cs=>match tb t with
   |some K=>bind (qni (pload K cs 0)) fun v=>.ret (v,false,σ)
   |none=>.fail
  |none=>bind (tload tb t (ev fr a) σ) fun v=>.ret (v,false,σ)
 |.store t a x=>bind (tstore tb t (ev fr a) (ev fr x) σ) fun σ'=>.ret (.top,false,σ')
 |.call c=>bind (qCF tb G kn fr σ c) fun r=>.ret (r.1,false,r.2)
 |.makeSlice t l c=>bind (qqA tb (qot G) t (ev fr l) (ev fr c) σ) fun r=>.ret (r.1,false,r.2)
 |_=>bind (qni (pop tb (gam G) fr σ o)) fun r=>.ret (r.1,false,r.2)
theorem qNa {tb:Tab} {G:GamT} {kn:List Nat} {fr:List PV} {σ:Store} {o:Oper} {x:PV} {l:Bool} {σ':Store} (h:run (topp tb G kn fr σ o)=some (x,l,σ')):pop tb (gam G) fr σ o=some (x,σ'):=by
 unfold topp at h
 split at h
 ·rename_i y ho;simp only [pop,ho,qlI];split at h
  ·rename_i hh;simp only [run,Option.some.injEq,Prod.mk.injEq] at h
   obtain⟨rfl,rfl,rfl⟩:=h;rw [hh];rfl
  ·simp only [run,Option.some.injEq,Prod.mk.injEq] at h
   obtain⟨h1,h2,h3⟩:=h;exact congrArg some (Prod.ext h1 h3)
 ·rename_i y ho;simp only [pop,ho,qlI];split at h
  ·rename_i hh;simp only [run,Option.some.injEq,Prod.mk.injEq] at h
   obtain⟨rfl,rfl,rfl⟩:=h;rw [hh];rfl
  ·simp only [run,Option.some.injEq,Prod.mk.injEq] at h
   obtain⟨h1,h2,h3⟩:=h;exact congrArg some (Prod.ext h1 h3)
 ·rename_i t ho;simp only [pop,ho,qlI];cases hK:tb t with
  |none=>simp [hK,run] at h
  |some K =>
   simp only [hK,run,Option.some.injEq,Prod.mk.injEq] at h ⊢;obtain⟨h1,h2,h3⟩:=h;exact Prod.ext h1 h3
 ·rename_i t parts ho;obtain⟨v,hv,h⟩:=bind_some h;rw [qcV] at hv;simp only [run,Option.some.injEq,Prod.mk.injEq] at h
  obtain⟨h1,h2,h3⟩:=h;simp only [pop,ho,hv,Option.map_some,qlI];exact congrArg some (Prod.ext h1 h3)
 ·rename_i c a b ho;simp only [pop,ho];split at h
  ·rename_i t ht;rw [qTs] at h
   simp only [ht];cases t <;>
   ·simp only [run,cond_true,cond_false,Option.some.injEq,Prod.mk.injEq] at h ⊢;exact⟨h.1,h.2.2⟩
  ·cases h
 ·rename_i ho;obtain⟨v,hv,h⟩:=bind_some h;rw [qcV] at hv;simp only [run,Option.some.injEq,Prod.mk.injEq] at h
  obtain⟨rfl,rfl,rfl⟩:=h;simp only [pop,ho,hv,Option.map_some]
 ·rename_i ho;obtain⟨v,hv,h⟩:=bind_some h;simp only [run,Option.some.injEq,Prod.mk.injEq] at h
  obtain⟨rfl,rfl,rfl⟩:=h;simp only [pop,ho,qMZ hv,Option.map_some]
 ·rename_i ho;obtain⟨v,hv,h⟩:=bind_some h;simp only [run,Option.some.injEq,Prod.mk.injEq] at h
  obtain⟨rfl,rfl,rfl⟩:=h;simp only [pop,ho,qLp hv,Option.map_some]
 ·rename_i ho;obtain⟨v,hv,h⟩:=bind_some h;simp only [run,Option.some.injEq,Prod.mk.injEq] at h
  obtain⟨rfl,rfl,rfl⟩:=h;simp only [pop,ho,qG3 hv,Option.map_some]
 ·rename_i ho;obtain⟨v,hv,h⟩:=bind_some h;simp only [run,Option.some.injEq,Prod.mk.injEq] at h
  obtain⟨rfl,rfl,rfl⟩:=h;simp only [pop,ho,qzG hv,Option.map_some]
 ·rename_i ho;obtain⟨v,hv,h⟩:=bind_some h;simp only [run,Option.some.injEq,Prod.mk.injEq] at h
  obtain⟨rfl,rfl,rfl⟩:=h;simp only [pop,ho,qGd hv,Option.map_some]
 ·rename_i ho;obtain⟨v,hv,h⟩:=bind_some h;simp only [run,Option.some.injEq,Prod.mk.injEq] at h
  obtain⟨rfl,rfl,rfl⟩:=h;simp only [pop,ho,qP3 hv,Option.map_some]
 ·rename_i t y ho;cases hg:qqQ G y with
  |some cs =>
   simp only [hg] at h
   cases hK:tb t with
   |none=>simp [hK,run] at h
   |some K =>
    simp only [hK] at h
    obtain⟨v,hv,h⟩:=bind_some h;rw [qcV] at hv;simp only [run,Option.some.injEq,Prod.mk.injEq] at h
    obtain⟨rfl,rfl,rfl⟩:=h;simp only [pop,ho,qAs hg,hK,hv,Option.map_some]
  |none =>
   simp only [hg] at h
   obtain⟨v,hv,h⟩:=bind_some h;simp only [run,Option.some.injEq,Prod.mk.injEq] at h
   obtain⟨rfl,rfl,rfl⟩:=h;exact qKF ho (qAV hg) hv
 ·rename_i t y z ho;obtain⟨v,hv,h⟩:=bind_some h;simp only [run,Option.some.injEq,Prod.mk.injEq] at h
  obtain⟨rfl,rfl,rfl⟩:=h;exact qGV ho hv
 ·rename_i c ho;obtain⟨v,hv,h⟩:=bind_some h;simp only [run,Option.some.injEq,Prod.mk.injEq] at h
  obtain⟨rfl,rfl,rfl⟩:=h;simp only [pop,ho,qD7 hv]
 ·rename_i t y z ho;obtain⟨v,hv,h⟩:=bind_some h;simp only [run,Option.some.injEq,Prod.mk.injEq] at h
  obtain⟨rfl,rfl,rfl⟩:=h;simp only [pop,ho];have:=qv4 hv;rw [← qnA] at this;exact this
 ·obtain⟨v,hv,h⟩:=bind_some h;rw [qcV] at hv;simp only [run,Option.some.injEq,Prod.mk.injEq] at h
  obtain⟨rfl,rfl,rfl⟩:=h;exact hv
def kput (kn:List Nat) (dst:Option Tmp) (l:Bool):List Nat :=
 match dst with
 |some d=>bif l then d::kn else kn.filter (fun t=>!(t == d))
 |none=>kn
abbrev Fm:=List Nat×List PV×Store
def tops (tb:Tab) (G:GamT) (ops:List Oper):List Oper→List Nat→List PV→Store→Tr Fm
 |[],kn,fr,σ=>.ret (kn,fr,σ)
 |o::rest,kn,fr,σ=>match o.guard with
  |none=>bind (topp tb G kn fr σ o) fun r=>tops tb G ops rest (kput kn o.dst r.2.1) (pput fr o.dst r.1) r.2.2
  |some (j,b)=>match (ops[j]?).bind (·.dst) with
   |none=>.fail
   |some d=>match fr[d]? with
    |some (.bool c) =>
     if kn.contains d then
      if c == b then bind (topp tb G kn fr σ o) fun r=>tops tb G ops rest (kput kn o.dst r.2.1) (pput fr o.dst r.1) r.2.2
      else tops tb G ops rest (kput kn o.dst false) (pput fr o.dst (.tup [])) σ
     else
      .ite c
       (if b then bind (topp tb G (d::kn) (fr.set d (.bool true)) σ o) fun r=>tops tb G ops rest (kput (d::kn) o.dst r.2.1) (pput (fr.set d (.bool true)) o.dst r.1) r.2.2
       else tops tb G ops rest (kput (d::kn) o.dst false) (pput (fr.set d (.bool true)) o.dst (.tup [])) σ)
       (if b then tops tb G ops rest (kput (d::kn) o.dst false) (pput (fr.set d (.bool false)) o.dst (.tup [])) σ
       else bind (topp tb G (d::kn) (fr.set d (.bool false)) σ o) fun r=>tops tb G ops rest (kput (d::kn) o.dst r.2.1) (pput (fr.set d (.bool false)) o.dst r.1) r.2.2)
    |some (.tup _)=>tops tb G ops rest (kput kn o.dst false) (pput fr o.dst (.tup [])) σ
    |_=>.fail
theorem qxN {fr:List PV} {d:Nat} {x:PV} (h:fr[d]?=some x):fr.set d x=fr:=by
 apply List.ext_getElem?;intro i;rw [List.getElem?_set];split
 ·rename_i e;subst e;split
  ·exact h.symm
  ·rename_i hl;exact absurd (List.getElem?_eq_some_iff.1 h).1 hl
 ·rfl
theorem qM1 {tb:Tab} {G:GamT} {ops:List Oper}:∀ (l:List Oper) (kn:List Nat) (fr:List PV) (σ:Store) (kn':List Nat) (fr':List PV) (σ':Store),run (tops tb G ops l kn fr σ)=some (kn',fr',σ')→pops tb (gam G) ops l fr σ=some (fr',σ'):=by
 intro l
 induction l with
 |nil =>
  intro kn fr σ kn' fr' σ' h;simp only [tops,run,Option.some.injEq,Prod.mk.injEq] at h
  obtain⟨_,rfl,rfl⟩:=h;rfl
 |cons o rest ih =>
  intro kn fr σ kn' fr' σ' h;have yes:∀ kn,pwanted ops fr o=some true→run (bind (topp tb G kn fr σ o) fun r=>tops tb G ops rest (kput kn o.dst r.2.1) (pput fr o.dst r.1) r.2.2)=some (kn',fr',σ')→pops tb (gam G) ops (o::rest) fr σ=some (fr',σ'):=by
   intro kn hw h;obtain⟨⟨x,lt,σ1⟩,hx,h⟩:=bind_some h;simp only [pops,hw,qNa hx];exact ih _ _ _ _ _ _ h
  have no:∀ kn,pwanted ops fr o=some false→run (tops tb G ops rest kn (pput fr o.dst (.tup [])) σ)=some (kn',fr',σ')→pops tb (gam G) ops (o::rest) fr σ=some (fr',σ'):=by
   intro kn hw h;simp only [pops,hw];exact ih _ _ _ _ _ _ h
  simp only [tops] at h
  split at h
  ·rename_i hg;exact yes _ (by simp [pwanted,hg]) h
  ·rename_i j b hg;split at h
   ·cases h
   ·rename_i d hd;split at h
    ·rename_i c hc;have hw:pwanted ops fr o=some (c == b):=by simp [pwanted,hg,hd,hc]
     split at h
     ·split at h
      ·rename_i hcb;exact yes _ (by rw [hw,hcb]) h
      ·rename_i hcb;exact no _ (by rw [hw];simpa using hcb) h
     ·simp only [run] at h
      cases c with
      |true =>
       rw [qxN hc] at h
       simp only [cond_true] at h
       cases b with
       |true=>exact yes _ hw h
       |false=>exact no _ hw h
      |false =>
       rw [qxN hc] at h
       simp only [cond_false] at h
       cases b with
       |true=>exact no _ hw h
       |false=>exact yes _ hw h
    ·rename_i cs hc;exact no _ (by simp [pwanted,hg,hd,hc]) h
    ·cases h
abbrev LpsT:=Nat→List PV→Store→Tr (PExit×List PV×Store)
def lps (L:LpsT):Lps:=fun r fr σ=>run (L r fr σ)
def qNi (fr:List PV) (c:Operand) (b:Bool):List PV:=match c with
 |.tmp t=>fr.set t (.bool b)
 |_=>fr
def knIf (kn:List Nat) (c:Operand):List Nat:=match c with
 |.tmp t=>t::kn
 |_=>kn
def texec (tb:Tab) (G:GamT) (L:LpsT):Code→List Nat→List PV→Store→Tr (PExit×Fm)
 |.skip,kn,fr,σ=>.ret (.normal,kn,fr,σ)
 |.label _,kn,fr,σ=>.ret (.normal,kn,fr,σ)
 |.region _ ops draw,kn,fr,σ=>bind (tops tb G ops.toList ops.toList kn fr σ) fun m=>match qMt (gam G) ops.toList draw with
  |false=>.ret (.normal,m)
  |true=>match qgD (gam G) ops.toList m.2.1 σ.objs.length with
   |true=>.ret (.normal,m)
   |false=>.fail
 |.seq a b,kn,fr,σ=>bind (texec tb G L a kn fr σ) fun r=>match r.1 with
  |.normal=>texec tb G L b r.2.1 r.2.2.1 r.2.2.2
  |_=>.ret r
 |.cond c a b,kn,fr,σ=>match ev fr c with
  |.bool t =>
   if qBP kn c then (if t then texec tb G L a kn fr σ else texec tb G L b kn fr σ)
   else .ite t (texec tb G L a (knIf kn c) (qNi fr c true) σ) (texec tb G L b (knIf kn c) (qNi fr c false) σ)
  |_=>.fail
 |.block id c,kn,fr,σ=>bind (texec tb G L c kn fr σ) fun r=>match r.1 with
  |.exit j=>if j=id then .ret (.normal,r.2) else .ret r
  |_=>.ret r
 |.loop c,kn,fr,σ=>bind (L (rid c) fr σ) fun r=>.ret (r.1,[],r.2.1,r.2.2)
 |.rangeFunc _ _ x y,kn,fr,σ=>bind (L (rfid x y) fr σ) fun r=>.ret (r.1,[],r.2.1,r.2.2)
 |.exit id,kn,fr,σ=>.ret (.exit id,kn,fr,σ)
 |.ret,kn,fr,σ=>.ret (.ret,kn,fr,σ)
 |_,_,_,_=>.fail
theorem qwF {fr:List PV} {c:Operand} {b:Bool} (h:ev fr c=.bool b):qNi fr c b=fr:=by
 cases c with
 |tmp t =>
  simp only [qNi];apply qxN;simp only [ev,List.getD_eq_getElem?_getD] at h
  cases hx:fr[t]? with
  |none=>simp [hx] at h
  |some x=>simp only [hx,Option.getD_some] at h;rw [h]
 |_=>rfl
theorem qs8 {tb:Tab} {G:GamT} {L:LpsT}:∀ (c:Code) (kn:List Nat) (fr:List PV) (σ:Store) (e:PExit) (kn':List Nat) (fr':List PV) (σ':Store),run (texec tb G L c kn fr σ)=some (e,kn',fr',σ')→pexec tb (gam G) (lps L) c fr σ=some (e,fr',σ'):=by
 intro c
 induction c with
 |skip|label|exit|ret =>
  intro kn fr σ e kn' fr' σ' h;simp only [texec,run,Option.some.injEq,Prod.mk.injEq] at h
  obtain⟨rfl,_,rfl,rfl⟩:=h;rfl
 |region id ops draw =>
  intro kn fr σ e kn' fr' σ' h;obtain⟨⟨kn1,fr1,σ1⟩,h1,h2⟩:=bind_some h;simp only at h2;have fin:qMt (gam G) ops.toList draw=false∨qgD (gam G) ops.toList fr1 σ.objs.length=true→run (Tr.ret (α:=PExit×Fm) (.normal,kn1,fr1,σ1))=some (e,kn',fr',σ')→pexec tb (gam G) (lps L) (.region id ops draw) fr σ=some (e,fr',σ'):=fun hc h2=>by
   simp only [run,Option.some.injEq,Prod.mk.injEq] at h2;obtain⟨rfl,_,rfl,rfl⟩:=h2;simp only [pexec,qM1 _ _ _ _ _ _ _ h1];rw [if_neg (by rcases hc with hc|hc<;>simp [hc])]
  split at h2
  ·rename_i hna;exact fin (.inl hna) h2
  ·split at h2
   ·rename_i hal;exact fin (.inr hal) h2
   ·cases h2
 |seq a b iha ihb =>
  intro kn fr σ e kn' fr' σ' h;obtain⟨⟨e1,kn1,fr1,σ1⟩,h1,h2⟩:=bind_some h;have:=iha _ _ _ _ _ _ _ h1;cases e1 with
  |normal =>
   simp only [pexec,this];exact ihb _ _ _ _ _ _ _ h2
  |exit j =>
   simp only [run,Option.some.injEq,Prod.mk.injEq] at h2;obtain⟨rfl,_,rfl,rfl⟩:=h2;simp only [pexec,this]
  |ret =>
   simp only [run,Option.some.injEq,Prod.mk.injEq] at h2;obtain⟨rfl,_,rfl,rfl⟩:=h2;simp only [pexec,this]
 |cond c a b iha ihb =>
  intro kn fr σ e kn' fr' σ' h;simp only [texec] at h
  simp only [pexec];split at h
  ·rename_i t ht;simp only [ht];split at h
   ·cases t with
    |true=>exact iha _ _ _ _ _ _ _ h
    |false=>exact ihb _ _ _ _ _ _ _ h
   ·simp only [run] at h
    cases t with
    |true =>
     rw [qwF ht] at h
     exact iha _ _ _ _ _ _ _ h
    |false =>
     rw [qwF ht] at h
     exact ihb _ _ _ _ _ _ _ h
  ·cases h
 |block id c ih =>
  intro kn fr σ e kn' fr' σ' h;obtain⟨⟨e1,kn1,fr1,σ1⟩,h1,h2⟩:=bind_some h;have:=ih _ _ _ _ _ _ _ h1;simp only [pexec,this];cases e1 with
  |normal =>
   simp only [run,Option.some.injEq,Prod.mk.injEq] at h2;obtain⟨rfl,_,rfl,rfl⟩:=h2;rfl
  |ret =>
   simp only [run,Option.some.injEq,Prod.mk.injEq] at h2;obtain⟨rfl,_,rfl,rfl⟩:=h2;rfl
  |exit j =>
   simp only [] at h2 ⊢;by_cases hj:j=id
   ·rw [if_pos hj] at h2 ⊢;simp only [run,Option.some.injEq,Prod.mk.injEq] at h2;obtain⟨rfl,_,rfl,rfl⟩:=h2;rfl
   ·rw [if_neg hj] at h2 ⊢;simp only [run,Option.some.injEq,Prod.mk.injEq] at h2;obtain⟨rfl,_,rfl,rfl⟩:=h2;rfl
 |loop c ih =>
  intro kn fr σ e kn' fr' σ' h;obtain⟨⟨e1,fr1,σ1⟩,h1,h2⟩:=bind_some h;simp only [run,Option.some.injEq,Prod.mk.injEq] at h2;obtain⟨rfl,_,rfl,rfl⟩:=h2;simp only [pexec,lps,h1]
 |rangeFunc g ps x y ihx ihy =>
  intro kn fr σ e kn' fr' σ' h;obtain⟨⟨e1,fr1,σ1⟩,h1,h2⟩:=bind_some h;simp only [run,Option.some.injEq,Prod.mk.injEq] at h2;obtain⟨rfl,_,rfl,rfl⟩:=h2;simp only [pexec,lps,h1]
 |scope|goto|refuse=>intro kn fr σ e kn' fr' σ' h;cases h
def qUe (cs:List PV) (off len k:Nat):List (List PV):=chunks k len (cs.drop off)
def tview (objs:qR):PV→Tr PV
 |.osl id off len k=>match objs[id]? with
  |some cs=>chk (qDj cs off (pOff 0 len k)) (.ret (.sl (qUe cs off len k) .non))
  |none=>.fail
 |x=>.ret x
def tviews (objs:qR):List PV→Tr (List PV)
 |[]=>.ret []
 |x::xs=>bind (tview objs x) fun y=>bind (tviews objs xs) fun ys=>.ret (y::ys)
theorem qIb {objs:List (List PV)} {x y:PV} (h:run (tview objs x)=some y):oview objs x=y:=by
 cases x with
 |osl id off len k =>
  simp only [tview] at h
  simp only [oview];cases hc:objs[id]? with
  |none=>rw [hc] at h;cases h
  |some cs =>
   rw [hc] at h
   obtain⟨h1,h2⟩:=chk_some h;simp only [qDj,pOff,Nat.zero_add,decide_eq_true_eq] at h1;simp only [run,Option.some.injEq] at h2;simp only [if_pos h1];exact h2
 |_=>simp only [tview,run,Option.some.injEq] at h;exact h
theorem qw1 {objs:List (List PV)}:∀ {xs ys:List PV},run (tviews objs xs)=some ys→xs.map (oview objs)=ys
 |[],ys,h=>by simp only [tviews,run,Option.some.injEq] at h;exact h
 |x::xs,ys,h=>by
  obtain⟨y,h1,h2⟩:=bind_some h;obtain⟨zs,h3,h4⟩:=bind_some h2;simp only [run,Option.some.injEq] at h4;rw [List.map_cons,qIb h1,qw1 h3,h4]
def tcall (tb:Tab) (G:GamT) (L:LpsT) (fn:Func) (args:List PV):Tr PV :=
 match fn.body with
 |none=>.fail
 |some c=>bind (texec tb G L c [] (args++List.replicate (fn.ntmps - args.length) .top) ⟨[],[],[]⟩) fun r=>match r.1 with
  |.exit _=>.fail
  |_=>bind (qni (presults tb r.2.2.1 r.2.2.2 fn.results.toList)) fun xs=>bind (tviews r.2.2.2.objs xs) fun ys=>.ret (pout ys)
theorem qtF {tb:Tab} {G:GamT} {L:LpsT} {fn:Func} {args:List PV} {x:PV} (h:run (tcall tb G L fn args)=some x):pcall tb (gam G) (lps L) fn args=some x:=by
 unfold tcall at h
 unfold pcall;cases hb:fn.body with
 |none=>simp [hb,run] at h
 |some c =>
  simp only [hb] at h ⊢;obtain⟨⟨e1,kn1,fr1,σ1⟩,h1,h2⟩:=bind_some h;rw [qs8 _ _ _ _ _ _ _ _ h1];have key:∀ (o:Option (List PV)),run (bind (qni o) fun xs=>bind (tviews σ1.objs xs) fun ys=>.ret (pout ys))=some x→(o.map fun xs=>pout (xs.map (oview σ1.objs)))=some x:=by
   intro o h;obtain⟨xs,h3,h4⟩:=bind_some h;obtain⟨ys,h5,h6⟩:=bind_some h4;rw [qcV] at h3;simp only [run,Option.some.injEq] at h6;rw [h3,Option.map_some,qw1 h5,h6]
  cases e1 with
  |normal=>exact key _ h2
  |ret=>exact key _ h2
  |exit j=>cases h2
def qpx (tb:Tab) (G:GamT) (L:LpsT) (fn:Func) (args:List PV) (σ:Store):Tr (PV×Store) :=
 match fn.body with
 |none=>.fail
 |some c=>bind (texec tb G L c [] (args++List.replicate (fn.ntmps - args.length) .top) σ) fun r=>match r.1 with
  |.exit _=>.fail
  |_=>qni ((presults tb r.2.2.1 r.2.2.2 fn.results.toList).map fun xs=>(qKt xs,r.2.2.2))
theorem qGP {tb:Tab} {G:GamT} {L:LpsT} {fn:Func} {args:List PV} {σ:Store} {x:PV×Store} (h:run (qpx tb G L fn args σ)=some x):qFb tb (gam G) (lps L) fn args σ=some x:=by
 unfold qpx at h
 unfold qFb;cases hb:fn.body with
 |none=>simp [hb,run] at h
 |some c =>
  simp only [hb] at h ⊢;obtain⟨⟨e1,kn1,fr1,σ1⟩,h1,h2⟩:=bind_some h;rw [qs8 _ _ _ _ _ _ _ _ h1];cases e1 with
  |normal=>simp only [qcV] at h2;exact h2
  |ret=>simp only [qcV] at h2;exact h2
  |exit j=>cases h2
def ofL (l:List (FuncId×ConT)):GamT:=fun f=>(l.find? fun p=>p.1 == f).map (·.2)
theorem qag {P:Program} {gl:Gl}:qaU P gl (gam (ofL [])):=by
 intro f F h;simp [gam,ofL] at h
theorem qbv {P:Program} {gl:Gl} {f:FuncId} {K:ConT} {l:List (FuncId×ConT)} (h:qrb P gl f K.con) (hl:qaU P gl (gam (ofL l))):qaU P gl (gam (ofL ((f,K)::l))):=by
 intro g F' hg;simp only [gam,ofL,List.find?_cons] at hg;by_cases hfg:f=g
 ·subst hfg;simp at hg;subst hg;exact h
 ·have:(f == g)=false:=by simp [hfg]
  simp only [this] at hg;exact hl g F' hg
theorem qac {P:Program} {gl:Gl} {f:FuncId} {F:List PV→Tr PV} {l:List (FuncId×ConT)} (h:SimP P gl f fun args=>Tr.run (F args)) (hl:qaU P gl (gam (ofL l))):qaU P gl (gam (ofL ((f,.pure F)::l))):=qbv (K:=.pure F) h hl
theorem qgb {P:Program} {gl:Gl} {f:FuncId} {D:List PV→Store→Tr (PV×Store)} {l:List (FuncId×ConT)} (h:SimS P gl f fun args σ=>Tr.run (D args σ)) (hl:qaU P gl (gam (ofL l))):qaU P gl (gam (ofL ((f,.store D)::l))):=qbv (K:=.store D) h hl
theorem SimP.of_tree {P : Program} {tb : Tab} {gl : Gl} {G : GamT} (hT : qcz P tb) (hΓ : qaU P gl (gam G)) (hm : P.follows .mixedOrders = true) {f : FuncId} {fn : Func} {c : Code} (hf : P.funcs[f]? = some fn) (hb : fn.body = some c) (hn : (fn.name == "runtime.NumGoroutine") = false)
  (hdr:qbV (gam G) c=true) {L:LpsT} (hL:qc7 P gl (lps L) c) {F:List PV→Tr PV} (h:∀ args x,Tr.run (F args)=some x→(∃ H w vs,RelL H w args vs)→Tr.run (tcall tb G L fn args)=some x):SimP P gl f fun args=>Tr.run (F args) :=
 SimP.of_pcall hT hΓ hm hf hb hn hdr fun args x hx hr=>⟨lps L,hL,qtF (h args x hx hr)⟩
theorem SimS.of_tree {P : Program} {tb : Tab} {gl : Gl} {G : GamT} (hT : qcz P tb) (hΓ : qaU P gl (gam G)) (hm : P.follows .mixedOrders = true) {f : FuncId} {fn : Func} {c : Code} (hf : P.funcs[f]? = some fn) (hb : fn.body = some c) (hn : (fn.name == "runtime.NumGoroutine") = false)
  (hdr:qbV (gam G) c=true) {L:LpsT} (hL:qc7 P gl (lps L) c) {D:List PV→Store→Tr (PV×Store)} (h:∀ args σ x σ',Tr.run (D args σ)=some (x,σ')→(∃ H w vs,RelL H w args vs)→Tr.run (qpx tb G L fn args σ)=some (x,σ')):SimS P gl f fun args σ=>Tr.run (D args σ) :=
 SimS.of_pcallS hT hΓ hm hf hb hn hdr fun args σ x σ' hx hr=>⟨lps L,hL,qGP (h args σ x σ' hx hr)⟩
theorem Does.of_tree {P:Program} {tb:Tab} {gl:Gl} {G:GamT} (hT:qcz P tb) (hΓ:qaU P gl (gam G)) (hm:P.follows .mixedOrders=true) {L:LpsT} {c:Code} {kn:List Nat} {fr:List PV} {σ:Store} {e:PExit} {kn':List Nat} {fr':List PV} {σ':Store}
  (hL:qc7 P gl (lps L) c) (hdr:qbV (gam G) c=true) (h:run (texec tb G L c kn fr σ)=some (e,kn',fr',σ')):Does P gl c fr σ e fr' σ' :=
 qbN hT hΓ hm c _ _ _ _ _ hL hdr (qs8 _ _ _ _ _ _ _ _ h)
end Go.Pv
namespace Go.Pv
@[simp] theorem Tr.run_ite {α:Type} (b:Bool) (x y:Tr α):(Tr.ite b x y).run=if b=true then x.run else y.run:=by cases b<;>rfl
@[simp] theorem Tr.run_ret {α:Type} (a:α):(Tr.ret a).run=some a:=rfl
@[simp] theorem Tr.run_fail {α:Type}:(Tr.fail:Tr α).run=none:=rfl
@[simp] theorem Tr.run_get {α:Type} (xs:qR) (i:Nat) (z:List PV) (k:List PV→Tr α):(Tr.get xs i z k).run=match xs[i]? with|some cs=>(k cs).run|none=>none:=by first|(rw [Tr.run.eq_def];done)|(rw [Tr.run.eq_def];rfl)
@[simp] theorem quc (a b:Int):iEq a b=decide (a=b):=by unfold iEq;by_cases h:a=b<;>simp [h]
@[simp] theorem qSI (a b:Int):iNe a b=decide (a≠b):=by unfold iNe;by_cases h:a=b<;>simp [h]
@[simp] theorem qFt (a b:Int):iLt a b=decide (a < b):=rfl
@[simp] theorem qIs (a b:Int):iLe a b=decide (a≤b):=rfl
@[simp] theorem imin_eq (a b:Int):imin a b=if b < a then b else a:=rfl
@[simp] theorem qKH (a:Bool):bNot a=!a:=rfl
@[simp] theorem bAnd_eq (a b:Bool):bAnd a b=(a&&b):=rfl
@[simp] theorem bEq_eq (a b:Bool):bEq a b=(a == b):=rfl
@[simp] theorem qHS (a b:qU):sEq a b=decide (a=b):=by unfold sEq;by_cases h:a=b<;>simp [h]
@[simp] theorem sNe_eq (a b:qU):sNe a b=decide (a≠b):=by unfold sNe;by_cases h:a=b<;>simp [h]
@[simp] theorem sLt_eq (a b:qU):sLt a b=Op.bytesLess a b:=rfl
@[simp] theorem sLe_eq (a b:qU):sLe a b=(Op.bytesLess a b || a == b):=rfl
@[simp] theorem sGt_eq (a b:qU):sGt a b=!(Op.bytesLess a b || a == b):=rfl
@[simp] theorem sGe_eq (a b:qU):sGe a b=!Op.bytesLess a b:=rfl
@[simp] theorem sApp_eq (a b:qU):sApp a b=a++b:=rfl
@[simp] theorem qji (l:qU):sLen l=(l.length:Int):=rfl
@[simp] theorem qzk (l:qU) (a b:Nat):sSub l a b=(l.take b).drop a:=rfl
@[simp] theorem qOS (l:qU) (n:Int):sAt l n=((l.getD n.toNat 0).toNat:Int):=rfl
@[simp] theorem sOne_eq (n:Int):sOne n=[UInt8.ofNat n.toNat]:=rfl
@[simp] theorem qy0 (n:Int):nNat n=n.toNat:=rfl
@[simp] theorem qIC (l:qU):nLen l=l.length:=rfl
@[simp] theorem xLen_eq (l:qR):xLen l=(l.length:Int):=rfl
@[simp] theorem nXs_eq (l:qR):nXs l=l.length:=rfl
@[simp] theorem xSub_eq (l:qR) (a b:Nat):xSub l a b=(l.take b).drop a:=rfl
@[simp] theorem qkV (a b:qR):xApp a b=a++b:=rfl
@[simp] theorem xNil_eq (a:qR):xNil a=decide (a=[]):=by cases a<;>rfl
theorem qwr (l:qU):qab l=l.map fun b=>[.int .u8 b.toNat]:=rfl
@[simp] theorem bytesOf_nil:qab []=[]:=rfl
@[simp] theorem bytesOf_len (l:qU):(qab l).length=l.length:=by simp [qab]
@[simp] theorem bytesOf_get (l:qU) (i:Nat):(qab l)[i]?=(l[i]?).map fun b=>[.int .u8 b.toNat]:=by simp [qab]
theorem qtS (a b:qU):qab (a++b)=qab a++qab b:=by simp [qab]
@[simp] theorem bytesOf_take (l:qU) (n:Nat):(qab l).take n=qab (l.take n):=by simp [qab]
@[simp] theorem bytesOf_drop (l:qU) (n:Nat):(qab l).drop n=qab (l.drop n):=by simp [qab]
theorem qq6 (l:qU):pbytes (qab l)=some l:=by
 unfold qab
 induction l with
 |nil=>rfl
 |cons b l ih=>simp [pbytes,ih]
@[simp] theorem qxT (l:qU):qdS (qab l)=true:=by unfold qdS;rw [qq6];rfl
@[simp] theorem qxv (l:qU):qcL (qab l)=l:=by unfold qcL;rw [qq6];rfl
def qJc (xs:qR):Option (List UInt8):=xs.mapM fun c=>match c with|[.int .u8 n]=>if 0≤n∧n < 256 then some (UInt8.ofNat n.toNat) else none|_=>none
@[simp] theorem decBs_bytes (l:qU):qJc (qab l)=some l:=by
 unfold qJc qab
 induction l with
 |nil=>rfl
 |cons a l ih =>
  have:((a.toNat:Int) < 256):=by have:=a.toNat_lt;omega
  simp_all
theorem qGH {xs:List (List PV)} {l:List UInt8} (h:qJc xs=some l):xs=qab l:=by
 unfold qJc at h
 unfold qab
 induction xs generalizing l with
 |nil=>simp at h;subst h;rfl
 |cons c xs ih =>
  rw [List.mapM_cons] at h
  split at h
  ·rename_i n;split at h
   ·rename_i hn;cases hx:xs.mapM fun c=>match c with|[.int .u8 n]=>if 0≤n∧n < 256 then some (UInt8.ofNat n.toNat) else none|_=>none with
    |none=>simp [hx] at h
    |some m =>
     simp [hx] at h
     subst h;simp [ih hx];omega
   ·simp at h
  ·simp at h
@[simp] theorem qMI (a b:qU):qaE a b=decide (a.length+b.length≤maxLen):=rfl
@[simp] theorem okAscii_eq (n:Int):qhQ n=decide (0≤n∧n < 128):=by unfold qhQ;by_cases h:0≤n<;>simp [h]
@[simp] theorem okLen_eq (l:qU):qnS l=decide (l.length≤140737488355328):=rfl
@[simp] theorem okIdx_eq (l:qU) (n:Int):qaR l n=decide (0≤n∧n.toNat < l.length):=by unfold qaR;by_cases h:0≤n<;>simp [h]
@[simp] theorem okPos_eq (n:Int):qav n=decide (0≤n):=rfl
@[simp] theorem okSub_eq (ca cb:Bool) (a b n:Nat):qaQ ca cb a b n=(ca&&cb&&decide (a≤b)&&decide (b≤n)):=rfl
@[simp] theorem okSub3_eq (ca cb cc:Bool) (a b c n:Nat):qL9 ca cb cc a b c n=(ca&&cb&&cc&&decide (a≤b)&&decide (b=c)&&decide (b≤n)):=rfl
@[simp] theorem qJH (xs ys:qR) (n:Nat):qaI xs ys n=(decide ((xs.length+ys.length) * n≤140737488355328)&&decide (xs.length+ys.length≤140737488355328)):=rfl
@[simp] theorem nEq_eq (a b:Nat):nEq a b=decide (a=b):=rfl
@[simp] theorem pOff_eq (off n k:Nat):pOff off n k=off+n * k:=rfl
@[simp] theorem nSub_eq (b a:Nat):nSub b a=b - a:=rfl
@[simp] theorem oLen_eq (n:Nat):oLen n=(n:Int):=rfl
@[simp] theorem okIx_eq (n:Int) (len:Nat):okIx n len=decide (0≤n∧n.toNat < len):=by unfold okIx;by_cases h:0≤n<;>simp [h]
@[simp] theorem okOff_eq (cs:List PV) (off n:Nat):qDj cs off n=decide (off+n≤cs.length):=rfl
@[simp] theorem qcx (l:qU):qaB (qab l) 1=true:=by simp [qaB,qab]
@[simp] theorem qfg (l:qU):qaH (qab l) 1=true:=by simp [qaH,qab,one]
@[simp] theorem okSize_app (a b:qR) (n:Nat):qaB (a++b) n=(qaB a n&&qaB b n):=by simp [qaB]
@[simp] theorem okSize_nil (n:Nat):qaB [] n=true:=rfl
@[simp] theorem okNews_nil (n:Nat):qaH [] n=true:=rfl
@[simp] theorem okSize_cons (x:List PV) (a:qR) (n:Nat):qaB (x::a) n=(x.length == n&&qaB a n):=by simp [qaB]
@[simp] theorem okNews_cons (x:List PV) (a:qR) (n:Nat):qaH (x::a) n=(x.length == n&&x.all one&&qaH a n):=by simp [qaH]
theorem quH:∀ {a:List (List PV)},(∀ x∈a,qhy x=x)→qaa a=a
 |[],_=>rfl
 |x::a,h=>by simp only [qaa];rw [h x (by simp),quH fun y hy=>h y (by simp [hy])]
theorem qud:∀ {a:List (List PV)},(∀ x∈a,qgU x=x)→qcq a=a
 |[],_=>rfl
 |x::a,h=>by simp only [qcq];rw [h x (by simp),qud fun y hy=>h y (by simp [hy])]
@[simp] theorem qA4 (l:qU):qaa (qab l)=qab l:=quH (by simp [qab,qhy,lock])
@[simp] theorem shutLL_bytes (l:qU):qcq (qab l)=qab l:=qud (by simp [qab,qgU,shut])
end Go.Pv
set_option linter.unusedSimpArgs false
set_option linter.unusedVariables false
namespace Go.Pv
open Go.RowKit
def look:List (Nat×PV)→Nat→PV
 |[],_=>.top
 |(j,x)::l,i=>if j=i then x else look l i
def qdm (l:List (Nat×PV)):Nat→Nat→List PV
 |0,_=>[]
 |n+1,i=>look l i::qdm l n (i+1)
def mk (n:Nat) (l:List (Nat×PV)):List PV:=qdm l n 0
theorem qF8 (f:Nat→PV):∀ (ss:List Nat) (i:Nat),look (ss.zip (ss.map f)) i=.top∨look (ss.zip (ss.map f)) i=f i
 |[],i=>.inl rfl
 |s::ss,i=>by
  simp only [List.map_cons,List.zip_cons_cons,look];split
  ·rename_i h;subst h;exact .inr rfl
  ·exact qF8 f ss i
theorem qtc (f:Nat→PV) (l:List (Nat×PV)) (hl:∀ i,look l i=.top∨look l i=f i):∀ (fr:List PV) (k:Nat),(∀ i,i < fr.length→fr.getD i .top=f (k+i))→Weak fr (qdm l fr.length k)
 |[],k,h=>trivial
 |x::fr,k,h=>by
  refine⟨?_,qtc f l hl fr (k+1) (fun i hi=>?_)⟩
  ·have:=h 0 (by simp)
   simp at this;subst this;exact hl k
  ·have:=h (i+1) (by simpa using hi)
   simp only [List.getD_cons_succ] at this;rw [this]
   congr 1
   omega
theorem qI0 (fr:List PV) (ss:List Nat):Weak fr (mk fr.length (ss.zip (ss.map fun s=>fr.getD s .top))):=by
 unfold mk;exact qtc (fun s=>fr.getD s .top) _ (qF8 _ ss) fr 0 (fun i _=>by simp)
section
variable {α : Type}
def oracle (n:Nat) (ss:List Nat) (dec:List PV→Store→Option α) (res:α→Tr (PExit×List (Nat×PV)×Store)) (fr:List PV) (σ:Store):Tr (PExit×List PV×Store) :=
 if fr.length=n then match dec (ss.map fun s=>fr.getD s .top) σ with
  |some a=>Tr.bind (res a) fun r=>.ret (r.1,mk n r.2.1,r.2.2)
  |none=>.fail
 else .fail
theorem qld {P:Program} {gl:Gl} {c:Code} {n:Nat} {ss:List Nat} {dec:List PV→Store→Option α} {res:α→Tr (PExit×List (Nat×PV)×Store)}
  (h:∀ vs σ a e out σ',dec vs σ=some a→(res a).run=some (e,out,σ')→LDoes P gl c (mk n (ss.zip vs)) σ e (mk n out) σ') :
  ∀ fr σ e fr' σ',(oracle n ss dec res fr σ).run=some (e,fr',σ')→LDoes P gl c fr σ e fr' σ':=by
 intro fr σ e fr' σ' hr;unfold oracle at hr;split at hr
 ·rename_i hn;split at hr
  ·rename_i a ha;obtain⟨⟨e1,out,σ1⟩,h1,h2⟩:=Tr.bind_some hr;simp only [Tr.run_ret,Option.some.injEq,Prod.mk.injEq] at h2;obtain⟨rfl,rfl,rfl⟩:=h2;have hw:=qI0 fr ss;rw [hn] at hw;exact LDoes.into hw (h _ _ _ _ _ _ ha h1)
  ·cases hr
 ·cases hr
end
section
variable {P : Program} {gl : Gl} {c : Code} {fr : List PV} {σ : Store} {e : PExit} {fr' : List PV} {σ' : Store}
theorem qxn {fr:List PV} (h:∃ H w vs,RelL H w fr vs) (i:Nat) {l:List UInt8} (hi:fr[i]?=some (.str l)):l.length≤maxLen:=by
 obtain⟨H,w,vs,h⟩:=h;obtain⟨v,_,hr⟩:=h.get hi;cases hr with
 |str _ hl=>exact hl
theorem qqJ {fr:List PV} (h:∃ H w vs,RelL H w fr vs) (i:Nat) {k:IntKind} {n:Int} (hi:fr[i]?=some (.int k n)):k.min≤n∧n≤k.max:=by
 obtain⟨H,w,vs,h⟩:=h;obtain⟨v,_,hr⟩:=h.get hi;cases hr with
 |int _ _ hl=>simpa [Lit.wf] using hl
end
def qf2:Code→List (Nat×Code)
 |.seq a b=>qf2 a++qf2 b
 |.cond _ a b=>qf2 a++qf2 b
 |.block _ c=>qf2 c
 |.loop c=>[(rid c,c)]
 |_=>[]
def qHI (fn:Func) (k:Nat):Code:=match fn.body with
 |some c=>match (qf2 c)[k]? with
  |some p=>p.2
  |none=>.skip
 |none=>.skip
def qeT:Code→List (Nat×Code)
 |.seq a b=>qeT a++qeT b
 |.cond _ a b=>qeT a++qeT b
 |.block _ c=>qeT c
 |.rangeFunc g ps x y=>[(rfid x y,.rangeFunc g ps x y)]
 |_=>[]
theorem qfU {P:Program} {gl:Gl} {L:Lps}:∀ {c:Code},(∀ p∈qf2 c,∀ fr σ e fr' σ',L p.1 fr σ=some (e,fr',σ')→LDoes P gl p.2 fr σ e fr' σ')→(∀ p∈qeT c,∀ fr σ e fr' σ',L p.1 fr σ=some (e,fr',σ')→Does P gl p.2 fr σ e fr' σ')→qc7 P gl L c
 |.seq a b,h,k=>⟨qfU (fun p hp=>h p (List.mem_append.2 (.inl hp))) (fun p hp=>k p (List.mem_append.2 (.inl hp))),qfU (fun p hp=>h p (List.mem_append.2 (.inr hp))) (fun p hp=>k p (List.mem_append.2 (.inr hp)))⟩
 |.cond _ a b,h,k=>⟨qfU (fun p hp=>h p (List.mem_append.2 (.inl hp))) (fun p hp=>k p (List.mem_append.2 (.inl hp))),qfU (fun p hp=>h p (List.mem_append.2 (.inr hp))) (fun p hp=>k p (List.mem_append.2 (.inr hp)))⟩
 |.block _ c,h,k=>qfU (c:=c) h k
 |.loop c,h,_=>h (rid c,c) (by simp [qf2])
 |.skip,_,_=>trivial
 |.region ..,_,_=>trivial
 |.exit _,_,_=>trivial
 |.ret,_,_=>trivial
 |.label _,_,_=>trivial
 |.goto _,_,_=>trivial
 |.refuse _,_,_=>trivial
 |.scope _,_,_=>trivial
 |.rangeFunc g ps x y,_,k=>k (rfid x y,.rangeFunc g ps x y) (by simp [qeT])
theorem qvp {P:Program} {gl:Gl} {L:Lps} {c:Code} (h:∀ p∈qf2 c,∀ fr σ e fr' σ',L p.1 fr σ=some (e,fr',σ')→LDoes P gl p.2 fr σ e fr' σ') (hn:qeT c=[]):qc7 P gl L c:=qfU h (by rw [hn];simp)
theorem qae {P:Program} {gl:Gl} {L:Lps} {c:Code} (h:qf2 c=[]) (hn:qeT c=[]:=by kernel_rfl):qc7 P gl L c:=qvp (by rw [h];simp) hn
theorem qi3 {P:Program} {gl:Gl} {L:Lps} {c:Code} {r:Nat} {c1:Code} (h:qf2 c=[(r,c1)]) (h1:∀ fr σ e fr' σ',L r fr σ=some (e,fr',σ')→LDoes P gl c1 fr σ e fr' σ') (hn:qeT c=[]:=by kernel_rfl):qc7 P gl L c :=
 qvp (by rw [h];intro p hp;simp at hp;subst hp;exact h1) hn
def Tr.all {α:Type}:Tr α→(α→Prop)→Prop
 |.ret a,Q=>Q a
 |.fail,_=>False
 |.ite b x y,Q=>(b=true→x.all Q)∧(b=false→y.all Q)
 |.get xs i _ k,Q=>∃ cs,xs[i]?=some cs∧(k cs).all Q
theorem Tr.all_run {α:Type} {Q:α→Prop}:∀ {t:Tr α},t.all Q→∃ r,t.run=some r∧Q r
 |.ret a,h=>⟨a,rfl,h⟩
 |.fail,h=>h.elim
 |.ite b x y,h=>by
  cases b with
  |true=>obtain⟨r,h1,h2⟩:=Tr.all_run (h.1 rfl);exact⟨r,by simpa using h1,h2⟩
  |false=>obtain⟨r,h1,h2⟩:=Tr.all_run (h.2 rfl);exact⟨r,by simpa using h1,h2⟩
 |.get xs i _ k,⟨cs,h1,h2⟩=>by
  obtain⟨r,h3,h4⟩:=Tr.all_run h2;exact⟨r,by simp [h1,h3],h4⟩
inductive TrN (α:Type) where
 |ret (a:α)
 |fail
 |ite (b:Bool) (x y:TrN α)
 |need (xs:qR) (i:Nat) (cs:List PV) (x:TrN α)
def TrN.all {α:Type}:TrN α→(α→Prop)→Prop
 |.ret a,Q=>Q a
 |.fail,_=>False
 |.ite b x y,Q=>(b=true→x.all Q)∧(b=false→y.all Q)
 |.need xs i cs x,Q=>xs[i]?=some cs∧x.all Q
theorem Tr.run_as {α:Type} {t:Tr α} (t':Tr α) (h:t=t') {r:Option α} (hr:t'.run=r):t.run=r:=by rw [h];exact hr
theorem Tr.all_as {α:Type} {t:Tr α} (t':Tr α) (h:t=t') {Q:α→Prop} (hr:t'.all Q):t.all Q:=by rw [h];exact hr
theorem TrN.all_as {α:Type} {t:TrN α} (t':TrN α) (h:t=t') {Q:α→Prop} (hr:t'.all Q):t.all Q:=by rw [h];exact hr
theorem TrN.all_t {α:Type} {b:Bool} {x y:TrN α} {Q:α→Prop} (h:b=true) (hx:x.all Q):(TrN.ite b x y).all Q:=⟨fun _=>hx,fun h'=>by rw [h] at h';cases h'⟩
theorem TrN.all_f {α:Type} {b:Bool} {x y:TrN α} {Q:α→Prop} (h:b=false) (hy:y.all Q):(TrN.ite b x y).all Q:=⟨fun h'=>(by rw [h] at h';cases h'),fun _=>hy⟩
def Next (P:Program) (gl:Gl) (c:Code) (e:PExit) (fr':List PV) (σ':Store):PExit×Fm→Prop
 |(.normal,_,fr1,σ1)=>LDoes P gl c fr1 σ1 e fr' σ'
 |(e1,_,fr1,σ1)=>e1=e∧Weak fr1 fr'∧σ1=σ'
theorem LDoes.round {P:Program} {tb:Tab} {gl:Gl} {G:GamT} (hT:qcz P tb) (hΓ:qaU P gl (gam G)) (hm:P.follows .mixedOrders=true) {L:LpsT} {c:Code} (hL:qc7 P gl (lps L) c) (hdr:qbV (gam G) c=true)
  {fr:List PV} {σ:Store} {e:PExit} {fr':List PV} {σ':Store} (h:(texec tb G L c [] fr σ).all (Next P gl c e fr' σ')):LDoes P gl c fr σ e fr' σ':=by
 obtain⟨⟨e1,kn,fr1,σ1⟩,h1,h2⟩:=Tr.all_run h;have hd:=Does.of_tree hT hΓ hm hL hdr h1;cases e1 with
 |normal=>exact LDoes.next hd h2
 |exit j =>
  obtain⟨rfl,hw,rfl⟩:=h2;exact LDoes.outof (LDoes.out hd (by simp)) hw
 |ret =>
  obtain⟨rfl,hw,rfl⟩:=h2;exact LDoes.outof (LDoes.out hd (by simp)) hw
theorem qbP {α:Type} {l:List α} {i:Nat} {v:α} (h:l[i]?=some v):l.drop i=v::l.drop (i+1):=by
 obtain⟨hi,rfl⟩:=List.getElem?_eq_some_iff.1 h;exact List.drop_eq_getElem_cons hi
theorem qgH {α:Type} {l:List α} {i:Nat} (h:i < l.length):∃ v,l[i]?=some v:=⟨l[i],List.getElem?_eq_getElem h⟩
def qTP (t:Option PV) (l:qU):Bool:=match t with
 |some (.str m)=>m == l
 |_=>false
theorem qOt {t:Option PV} {l:List UInt8} (h:qTP t l=true):t=some (.str l):=by
 unfold qTP at h
 split at h
 ·rw [beq_iff_eq] at h;rw [h]
 ·cases h
def qSV (t:Option PV) (k:IntKind) (n:Int):Bool:=match t with
 |some (.int j m)=>j == k&&m == n
 |_=>false
theorem qFa {t:Option PV} {k:IntKind} {n:Int} (h:qSV t k n=true):t=some (.int k n):=by
 unfold qSV at h
 split at h
 ·rw [Bool.and_eq_true,beq_iff_eq] at h;rw [h.1,eq_of_beq h.2]
 ·cases h
def qTO (t:Option PV) (l:qU):Bool:=match t with
 |some (.sl xs .non)=>qJc xs == some l
 |_=>false
theorem qM0 {t:Option PV} {l:List UInt8} (h:qTO t l=true):t=some (.sl (qab l) .non):=by
 unfold qTO at h
 split at h
 ·rw [beq_iff_eq] at h;rw [qGH h]
 ·cases h
theorem qrG {c:Int} (h:IntKind.u8.min≤c∧c≤IntKind.u8.max):∃ n:Fin 256,c=(n.val:Int):=by
 have h1:0≤c∧c≤255:=h;exact⟨⟨c.toNat,by omega⟩,by simp;omega⟩
theorem SimP.of_each {P : Program} {gl : Gl} {f : FuncId} {F : List PV → Option PV} (hent : ∃ fn, P.funcs[f]? = some fn ∧ (fn.name == "runtime.NumGoroutine") = false ∧ fn.body.isNone = false)
  (h:∀ args x,F args=some x→∃ F',SimP P gl f F'∧F' args=some x):SimP P gl f F where
 ent:=hent
 run:=fun args x hx H w vs h1 h2 h3 h4 h5=>by
  obtain⟨F',hF,hx'⟩:=h args x hx;exact hF.run args x hx' H w vs h1 h2 h3 h4 h5
@[simp] theorem okBytes_one (n:Int):qdS [[.int .u8 n]]=true:=by simp [qdS,pbytes]
@[simp] theorem unBytes_one (n:Int):qcL [[.int .u8 n]]=[UInt8.ofNat n.toNat]:=by simp [qcL,pbytes]
def ltN (n:Int) (k:Nat):Bool:=decide (n.toNat < k)
@[simp] theorem ltN_eq (n:Int) (k:Nat):ltN n k=decide (n.toNat < k):=rfl
theorem Tr.all_t {α:Type} {b:Bool} {x y:Tr α} {Q:α→Prop} (h:b=true) (hx:x.all Q):(Tr.ite b x y).all Q:=⟨fun _=>hx,fun h'=>by rw [h] at h';cases h'⟩
theorem Tr.all_f {α:Type} {b:Bool} {x y:Tr α} {Q:α→Prop} (h:b=false) (hy:y.all Q):(Tr.ite b x y).all Q:=⟨fun h'=>(by rw [h] at h';cases h'),fun _=>hy⟩
theorem qgW {l:List UInt8} (h:1≤l.length):xNil (qab l)=false:=by
 cases l with
 |nil=>simp at h
 |cons a l=>rfl
theorem qfn (l:qU):nXs (qab l)=nLen l:=by simp
theorem qeD (a b:qU):xApp (qab a) (qab b)=qab (a++b):=(qtS a b).symm
theorem qcI {a b:List UInt8} (h:a.length+b.length≤140737488355328):qaI (qab a) (qab b) 1=true:=by simp [h]
theorem qlk (a:qU) {n:Int} (h:0≤n∧n < 256):xApp (qab a) [[.int .u8 n]]=qab (a++[UInt8.ofNat n.toNat]):=by
 rw [qtS];simp [qab];omega
theorem qRX {fr:List PV} (h:∃ H w vs,RelL H w fr vs) (i:Nat) {cs:List PV} (hi:fr[i]?=some (.agg cs)):∃ H w vs,RelL H w cs vs:=by
 obtain⟨H,w,vs,h⟩:=h;obtain⟨v,_,hr⟩:=h.get hi;cases hr with
 |agg _ us hl=>exact⟨H,w,us,hl⟩
theorem qbD {n:Int} (h:-9223372036854775808≤n∧n≤9223372036854775807):IntKind.wrap .i64 n=n:=by
 unfold IntKind.wrap;simp [IntKind.bits,IntKind.signed];split<;>omega
theorem qzd {n:Int} (h:0≤n∧n≤255):IntKind.wrap .u8 n=n:=by
 unfold IntKind.wrap;simp [IntKind.bits,IntKind.signed];omega
theorem qgf {n:Int} (h:0≤n∧n≤18446744073709551615):IntKind.wrap .u64 n=n:=by
 unfold IntKind.wrap;simp [IntKind.bits,IntKind.signed];omega
end Go.Pv
set_option linter.unusedSimpArgs false
set_option linter.unusedVariables false
namespace Go.Pv
open Go.RowKit Go.ChangeShapes Go.WideShapes
mutual
inductive Shp (P:Program):TypeId→List PV→Prop where
 |bool (t:TypeId) (b:Bool) (h:P.underlying t=some .bool):Shp P t [.bool b]
 |int (t:TypeId) (k:IntKind) (n:Int) (h:P.underlying t=some (.int k)):Shp P t [.int k n]
 |str (t:TypeId) (l:qU) (h:P.underlying t=some .string):Shp P t [.str l]
 |sl (t e:TypeId) (xss:qR) (h:P.underlying t=some (.slice e)) (hx:∀ xs,xs∈xss→Shp P e xs):Shp P t [.sl xss .non]
 |struct (t:TypeId) (fs:Array Field) (xs:List PV) (h:P.underlying t=some (.struct fs)) (hx:ShpL P (fs.toList.map (·.type)) xs):Shp P t xs
inductive ShpL (P:Program):List TypeId→List PV→Prop where
 |nil:ShpL P [] []
 |cons (t:TypeId) (ts:List TypeId) (xs ys:List PV) (h:Shp P t xs) (hs:ShpL P ts ys):ShpL P (t::ts) (xs++ys)
end
def layF (P:Program):Nat→List Field→Option Nat
 |off,[]=>some off
 |off,f::fs=>if f.offset=off then layF P (off+P.cellsOf f.type) fs else none
def okT (P:Program):Nat→TypeId→Bool
 |0,_=>false
 |n+1,t=>match P.underlying t with
  |some .bool|some (.int _)|some .string=>true
  |some (.slice e)=>okT P n e
  |some (.struct fs)=>(layF P 0 fs.toList == some (P.cellsOf t))&&fs.toList.all fun f=>okT P n f.type
  |_=>false
def ghOf (w:World):Gh:=⟨w.heap.size,fun _ _=>True,fun _ _=>False,[],[],w.heap.size⟩
section
variable {H : Type} {enc : TypeId × Value → H} {P : Program} {w : World} {held : Bool}
theorem qPk {w:World} {a:Addr} {v:Value} (h:w.cell? a=some v):a.block < w.heap.size:=by
 unfold World.cell? at h
 cases hb:w.heap[a.block]? with
 |none=>simp [hb] at h
 |some o=>exact (Array.getElem?_eq_some_iff.1 hb).1
theorem qwl {n fuel:Nat} (ih:∀ t cs x,DataW.trod enc P w 0 (fun _=>true) held fuel t cs=some x→okT P n t=true→∃ xs,RelL (ghOf w) w xs cs∧Shp P t xs) (cs:List Value) (tot:Nat) (hl:cs.length=tot) :
  ∀ (fs:List Field) (off:Nat),layF P off fs=some tot→(fs.all fun f=>okT P n f.type)=true →
   (∀ f∈fs,∃ y,DataW.trod enc P w 0 (fun _=>true) held fuel f.type ((cs.drop f.offset).take (P.cellsOf f.type))=some y)→∃ ys,RelL (ghOf w) w ys (cs.drop off)∧ShpL P (fs.map (·.type)) ys
 |[],off,hlay,_,_=>by
  simp only [layF,Option.some.injEq] at hlay;subst hlay;rw [List.drop_eq_nil_of_le (by omega)]
  exact⟨[],.nil,.nil⟩
 |f::fs,off,hlay,hok,hm=>by
  simp only [layF] at hlay;split at hlay
  ·rename_i ho;subst ho;simp only [List.all_cons,Bool.and_eq_true] at hok;obtain⟨b,hb⟩:=hm f (by simp)
   obtain⟨p,hp,hs⟩:=ih _ _ _ hb hok.1;obtain⟨ys,hys,hss⟩:=qwl ih cs tot hl fs _ hlay hok.2 (fun g hg=>hm g (by simp [hg]))
   refine⟨p++ys,?_,.cons _ _ _ _ hs hss⟩;have e:cs.drop f.offset=(cs.drop f.offset).take (P.cellsOf f.type)++cs.drop (f.offset+P.cellsOf f.type):=by
    rw [← List.drop_drop];exact (List.take_append_drop _ _).symm
   rw [e];exact hp.app hys
  ·cases hlay
theorem qEm {n fuel:Nat} {e:TypeId} (ih:∀ t cs x,DataW.trod enc P w 0 (fun _=>true) held fuel t cs=some x→okT P n t=true→∃ xs,RelL (ghOf w) w xs cs∧Shp P t xs) (he:okT P n e=true) (a:Addr) (k:Nat) :
  ∀ (len s:Nat),(∀ i,i < len→∃ cs' y,w.cells? 0 (a.add ((s+i) * k)) k=some cs'∧DataW.trod enc P w 0 (fun _=>true) held fuel e cs'=some y) →
   ∃ (xss:qR) (vss:List (List Value)),xss.length=len∧RelLL (ghOf w) w xss vss∧(∀ xs∈xss,Shp P e xs)∧∀ (i:Nat) (vs:List Value),vss[i]?=some vs→vs.length=k∧CellsAt (ghOf w) w (a.add ((s+i) * k)) vs
 |0,s,_=>⟨[],[],rfl,.nil,by simp,by simp⟩
 |len+1,s,h=>by
  obtain⟨cs',y,hc,hy⟩:=h 0 (by omega)
  obtain⟨xs,hxs,hs⟩:=ih _ _ _ hy he;obtain⟨xss,vss,h1,h2,h3,h4⟩:=qEm ih he a k len (s+1) (fun i hi=>by
   have:=h (i+1) (by omega)
   have e1:s+(i+1)=s+1+i:=by omega
   rwa [e1] at this)
  obtain⟨_,hl,hcell⟩:=World.cells?_some hc;refine⟨xs::xss,cs'::vss,by simp [h1],.cons _ _ _ _ hxs h2,?_,?_⟩
  ·intro z hz;rcases List.mem_cons.1 hz with rfl|hz
   ·exact hs
   ·exact h3 z hz
  ·intro i vs hi;cases i with
   |zero =>
    simp at hi;subst hi;refine⟨hl,fun j v hj=>?_⟩
    have hj':j < k:=by rw [← hl];exact (List.getElem?_eq_some_iff.1 hj).1
    have hcj:=(hcell j hj').trans hj;exact⟨⟨qPk hcj,fun _=>trivial,by simp [ghOf],by simp [ghOf]⟩,hcj⟩
   |succ i =>
    have:=h4 i vs (by simpa using hi)
    have e1:s+(i+1)=s+1+i:=by omega
    rw [e1];exact this
theorem qFm:∀ (fuel n:Nat) (t:TypeId) (cs:List Value) (x:DataW H×List MemPlace),DataW.trod enc P w 0 (fun _=>true) held fuel t cs=some x→okT P n t=true→∃ xs,RelL (ghOf w) w xs cs∧Shp P t xs
 |0,_,_,_,_,h,_=>by simp [DataW.trod] at h
 |fuel+1,0,_,_,_,_,hn=>by simp [okT] at hn
 |fuel+1,n+1,t,cs,x,h,hn=>by
  simp only [okT] at hn;have ih:∀ t cs x,DataW.trod enc P w 0 (fun _=>true) held fuel t cs=some x→okT P n t=true→∃ xs,RelL (ghOf w) w xs cs∧Shp P t xs:=fun t cs x h hn=>qFm fuel n t cs x h hn
  split at hn
  ·rename_i hu;obtain⟨b,rfl,_⟩:=DataW.trod_bool hu h;exact⟨[.bool b],.cons _ _ _ _ (.bool b) .nil,.bool t b hu⟩
  ·rename_i k hu;obtain⟨m,rfl,_,hw⟩:=DataW.trod_int hu h;exact⟨[.int k m],.cons _ _ _ _ (.int k m hw) .nil,.int t k m hu⟩
  ·rename_i hu;obtain⟨s,rfl,_,hs⟩:=DataW.trod_string hu h;exact⟨[.str s.data.toList],.cons _ _ _ _ (.str s.data.toList hs) .nil,.str t _ hu⟩
  ·rename_i e hu;rcases DataW.trod_slice hu h with⟨rfl,_⟩|⟨a,len,cap,elems,rest,n',hn',rfl,_,_,hlc,hcm,hel,helem,_⟩
   ·exact⟨[.sl [] .non],.cons _ _ _ _ (.sl none 0 0 0 [] [] .non rfl (Nat.le_refl _) (Nat.zero_le _) .nil (by intro i vs hi;simp at hi) trivial) .nil,.sl t e [] hu (by simp)⟩
   ·have:n'=fuel:=by omega
    subst this;obtain⟨xss,vss,h1,h2,h3,h4⟩:=qEm ih hn a (P.cellsOf e) len 0 (fun i hi=>by
     have h5:=helem i hi;have h6:∃ y,elems[i]?=some y:=⟨elems[i]'(by omega),List.getElem?_eq_getElem (by omega)⟩
     obtain⟨y,hy⟩:=h6;rw [hy] at h5;obtain⟨cs',hc,hd⟩:=Option.bind_eq_some_iff.1 h5;exact⟨cs',y,by rw [Nat.zero_add];exact hc,hd⟩)
    refine⟨[.sl xss .non],.cons _ _ _ _ (.sl (some a) len cap (P.cellsOf e) xss vss .non h1 hlc hcm h2 (fun i vs hi=>?_) trivial) .nil,.sl t e xss hu h3⟩
    have:=h4 i vs hi;rw [Nat.zero_add] at this;exact⟨this.1,a,rfl,this.2⟩
  ·rename_i fs hu;simp only [Bool.and_eq_true] at hn;obtain⟨xs,n',hn',_,hl,hxl,hf⟩:=DataW.trod_struct hu h;have:n'=fuel:=by omega
   subst this;obtain⟨ys,hys,hss⟩:=qwl ih cs _ hl fs.toList 0 (by simpa using hn.1) hn.2 (fun f hfm=>by
    obtain⟨i,hi⟩:=List.mem_iff_getElem?.1 hfm;have hi':fs[i]?=some f:=by simpa using hi
    have hlt:i < fs.size:=(Array.getElem?_eq_some_iff.1 hi').1;exact⟨xs[i]'(by omega),(hf i f hi').trans (List.getElem?_eq_getElem (by omega))⟩)
   exact⟨ys,by simpa using hys,.struct t fs ys hu hss⟩
  ·cases hn
def Arg (P:Program) (t:TypeId) (x:PV):Prop :=
 (∃ fs ys,P.underlying t=some (.struct fs)∧x=.agg ys∧Shp P t ys)∨((∀ fs,P.underlying t≠some (.struct fs))∧Shp P t [x])
inductive ArgL (P:Program):List TypeId→List PV→Prop where
 |nil:ArgL P [] []
 |cons (t:TypeId) (ts:List TypeId) (x:PV) (xs:List PV) (h:Arg P t x) (hs:ArgL P ts xs):ArgL P (t::ts) (x::xs)
theorem qPT {r:Reach} {b0 n:Nat} {t:TypeId} {v:Value} {d:DataW H} {ps:List MemPlace} (hval:Value.okWide P w r b0 t v) (hd:DataW.Trod enc P w 0 (fun _=>true) held t v d ps) (hn:okT P n t=true):∃ x,Rel (ghOf w) w x v∧Arg P t x:=by
 obtain⟨fuel,h⟩:=hd;obtain⟨xs,hxs,hs⟩:=qFm fuel n t _ _ h hn;have one:v.cells=#[v]→(∀ fs,P.underlying t≠some (.struct fs))→∃ x,Rel (ghOf w) w x v∧Arg P t x:=by
  intro hc hne;rw [hc] at hxs;cases hxs with
  |cons x _ xs _ hx hxs =>
   cases hxs
   exact⟨x,hx,.inr ⟨hne,hs⟩⟩
 cases n with
 |zero=>simp [okT] at hn
 |succ n =>
  simp only [okT] at hn;split at hn
  ·rename_i hu;obtain⟨b,rfl⟩:=okWide_bool hu hval;exact one rfl (by rw [hu];simp)
  ·rename_i k hu;obtain⟨m,rfl⟩:=okWide_int hu hval;exact one rfl (by rw [hu];simp)
  ·rename_i hu;obtain⟨s,rfl⟩:=okWide_string hu hval;exact one rfl (by rw [hu];simp)
  ·rename_i e hu;obtain⟨a,len,cap,rfl⟩:=okWide_slice hu hval;exact one rfl (by rw [hu];simp)
  ·rename_i fs hu;obtain⟨cs,rfl,_⟩:=okWide_struct hu hval;refine⟨.agg xs,?_,.inl ⟨fs,xs,hu,rfl,hs⟩⟩;have:=Rel.agg (H:=ghOf w) (w:=w) xs cs.toList hxs;simpa using this
  ·cases hn
theorem qE1 {r:Reach} {b0 n:Nat}:∀ {ts:List TypeId} {vs:List Value} {ds:List (DataW H)} {ps:List MemPlace},(∀ (j:Nat) t v,ts[j]?=some t→vs[j]?=some v→Value.okWide P w r b0 t v) →
  DataW.TrodAll enc P w 0 (fun _=>true) held ts vs ds ps→(ts.all fun t=>okT P n t)=true→∃ xs,RelL (ghOf w) w xs vs∧ArgL P ts xs
 |[],vs,ds,ps,_,h,_=>by
  obtain⟨rfl,rfl,rfl⟩:=trodAll_nil h;exact⟨[],.nil,.nil⟩
 |t::ts,vs,ds,ps,hval,h,hn=>by
  obtain⟨v,vs',d,ds',p,q,rfl,rfl,rfl,hd,hrest⟩:=trodAll_cons h;simp only [List.all_cons,Bool.and_eq_true] at hn;obtain⟨x,hx,ha⟩:=qPT (hval 0 t v rfl rfl) hd hn.1;obtain⟨xs,hxs,has⟩:=qE1 (fun j t' v' ht hv=>hval (j+1) t' v' ht hv) hrest hn.2
  exact⟨x::xs,.cons _ _ _ _ hx hxs,.cons _ _ _ _ ha has⟩
theorem qoz {W W':World} (hlo:laidOutB P=true) (hb:Below W.heap.size W W'):∀ {ts:List TypeId} {vs:List Value} {ds:List (DataW H)} {ps:List MemPlace},(∀ t∈ts,P.readableRec t=true∧t < P.types.size)→(∀ x∈ps,x.block < W.heap.size) →
  DataW.TrodAll enc P W 0 (fun _=>true) true ts vs ds ps→DataW.TrodAll enc P W' 0 (fun b=>decide (b < W.heap.size)) true ts vs ds ps
 |[],vs,ds,ps,_,_,h=>by
  obtain⟨rfl,rfl,rfl⟩:=trodAll_nil h;exact rfl
 |t::ts,vs,ds,ps,hp,hlt,h=>by
  obtain⟨v,vs',d,ds',p,q,rfl,rfl,rfl,hd,hrest⟩:=trodAll_cons h;exact⟨p,q,Below.trod hlo (hp t (by simp)).1 (hp t (by simp)).2 hd hb (fun x hx=>hlt x (by simp [hx])),qoz hlo hb (fun t' ht=>hp t' (by simp [ht])) (fun x hx=>hlt x (by simp [hx])) hrest,rfl⟩
theorem qNM (hlo:laidOutB P=true) {f:Func} {s:ChangeSpec} {tb:TypeId} (hrt:f.resultTypes=#[tb]) (htb:P.underlying tb=some .bool) (hv:s.vars=[])
  (hpar:∀ t∈f.params.toList,P.readableRec t=true∧t < P.types.size) {W W':World} {args:Array Value} {ds gs:List (DataW H)} {before:List MemPlace} {apart fresh handsOn:Bool}
  (hW:DataW.Whole enc P f.params.toList s.vars apart W args.toList ds gs before) (hfn:s.fn H ds={ results:=[.lit (.bool true)],args:=ds }) (hb:Below W.heap.size W W') :
  s.post enc P f apart fresh handsOn false W args (.bool true) W':=by
 have hlt:∀ p∈before,p.block < W.heap.size:=fun p hp=>by simpa using hW.lt p hp
 have hW':=hW;obtain⟨p,q,hA,hV,rfl,hfz,hnd⟩:=hW;rw [hv] at hV;obtain⟨rfl,rfl⟩:=trodVars_none hV;refine⟨ds,[],p++[],[],p,[],hW',?_,?_,?_,?_,fun h=>by cases h⟩
 ·rw [List.append_nil,hfn,hrt];exact⟨[],[],⟨1,by simp [DataW.trod,Value.cells,htb]⟩,rfl,rfl⟩
 ·rw [List.append_nil,hfn];exact qoz hlo hb hpar (fun x hx=>hlt x (by simp [hx])) hA
 ·rw [List.append_nil,hfn,hv];exact rfl
 ·exact hb.frame _
theorem qph:∀ {laid:List (String×DataW Unit)} {ps:List MemPlace} {nm:String} {d:DataW Unit},DataW.LaidVars P w laid ps→(nm,d)∈laid →
  ∃ g t cs fuel p,P.globalNamed nm=some g∧(P.globals[g]?).map (·.type)=some t∧w.var? P nm=some cs∧DataW.trod (fun _=>()) P w 0 (fun _=>true) false fuel t cs.toList=some (d,p)
 |[],ps,nm,d,_,hm=>by cases hm
 |(n,d')::r,ps,nm,d,h,hm=>by
  obtain⟨g,t,cs,fuel,p,q,h1,h2,h3,h4,h5,_⟩:=h;rcases List.mem_cons.1 hm with hm|hm
  ·cases hm
   exact⟨g,t,cs,fuel,p,h1,h2,h3,h4⟩
  ·exact qph h5 hm
theorem qrO {nm:String} {cs:Array Value} {g:Nat} (hg:P.globalNamed nm=some g) (h:w.var? P nm=some cs):∃ T f,w.heap[g]?=some (.cells cs T f):=by
 unfold World.var? at h
 rw [hg] at h
 simp only [Option.bind_some] at h
 split at h
 ·rename_i cs' T f he;cases h
  exact⟨T,f,he⟩
 ·cases h
theorem qwv {t:TypeId} {ms:Array (String×TypeId)} {fuel:Nat} {cs:Array Value} {nm:String} {d:DataW Unit} {p:List MemPlace} (hi:P.underlying t=some (.interface ms))
  (h:DataW.trod (fun _=>()) P w 0 (fun _=>true) false fuel t cs.toList=some (.iface nm d,p)):∃ u v,cs=#[.iface u v]:=by
 cases fuel with
 |zero=>simp [DataW.trod] at h
 |succ fuel =>
  obtain⟨l⟩:=cs;simp only [DataW.trod,hi] at h
  split at h
  all_goals first|(rename_i heq _;cases heq;done)|(rename_i heq;cases heq;done)|skip
  all_goals first|(exact⟨_,_,rfl⟩)|(cases h;done)
end
end Go.Pv
set_option linter.unusedSimpArgs false
set_option linter.unusedVariables false
namespace Go.Pv
open Go.RowKit
def dropS (n:Nat) (σ:Store):Store:=⟨(σ.objs.take n).map (qcW n),σ.toks,σ.tys.take n⟩
theorem qqS (n:Nat):∀ (xs:List PV),(qcW n xs).length=xs.length
 |[]=>rfl
 |x::xs=>by simp [qcW,qqS n xs]
theorem qtj (n:Nat):∀ (xs:qR),(qaD n xs).length=xs.length
 |[]=>rfl
 |x::xs=>by simp [qaD,qtj n xs]
theorem qwo (n:Nat):∀ {a:List (List PV)},(∀ x∈a,qcW n x=x)→qaD n a=a
 |[],_=>rfl
 |x::a,h=>by simp only [qaD];rw [h x (by simp),qwo n fun y hy=>h y (by simp [hy])]
@[simp] theorem dropPLL_bytes (n:Nat) (l:qU):qaD n (qab l)=qab l:=qwo n (by simp [qab,qcW,qew])
@[simp] theorem dropPLL_nil (n:Nat):qaD n []=[]:=rfl
mutual
theorem qwk (n:Nat):∀ {x:PV},lock x=x→qew n x=x
 |.top,_=>rfl
 |.bool _,_=>rfl
 |.int _ _,_=>rfl
 |.str _,_=>rfl
 |.nilp,_=>rfl
 |.ptr _ _,h=>by simp [lock] at h
 |.ref cs,h=>by simp only [lock,PV.ref.injEq] at h;simp only [qew];rw [qfQ n h]
 |.sl xs t,h=>by simp only [lock,PV.sl.injEq] at h;simp only [qew];rw [qlC n h.1]
 |.osl _ _ _ _,h=>by simp [lock] at h
 |.fn f caps,h=>by simp only [lock,PV.fn.injEq] at h;simp only [qew];rw [qfQ n h.2]
 |.nilf,_=>rfl
 |.iface t v,h=>by simp only [lock,PV.iface.injEq] at h;simp only [qew];rw [qwk n h.2]
 |.nili,_=>rfl
 |.agg cs,h=>by simp only [lock,PV.agg.injEq] at h;simp only [qew];rw [qfQ n h]
 |.tup cs,h=>by simp only [lock,PV.tup.injEq] at h;simp only [qew];rw [qfQ n h]
theorem qfQ (n:Nat):∀ {x:List PV},qhy x=x→qcW n x=x
 |[],_=>rfl
 |x::xs,h=>by simp only [qhy,List.cons.injEq] at h;simp only [qcW];rw [qwk n h.1,qfQ n h.2]
theorem qlC (n:Nat):∀ {x:List (List PV)},qaa x=x→qaD n x=x
 |[],_=>rfl
 |x::xs,h=>by simp only [qaa,List.cons.injEq] at h;simp only [qaD];rw [qfQ n h.1,qlC n h.2]
end
def Gh.keep (H:Gh) (n:Nat):Gh:={ H with ob:=H.ob.take n }
section
variable {H : Gh} {w : World} {n : Nat}
theorem qol {b off:Nat} (h:H.prot w b off):(H.keep n).prot w b off:=⟨h.1,h.2.1,fun hm=>h.2.2.1 (List.mem_of_mem_take hm),h.2.2.2⟩
theorem qGC {b off:Nat} (h:H.prot2 w b off):(H.keep n).prot2 w b off:=h.elim (fun h=>.inl (qol h)) .inr
mutual
theorem qEt:∀ {x:PV} {v:Value},Rel H w x v→Rel (H.keep n) w (qew n x) v
 |_,_,.top v=>by simp only [qew];exact .top v
 |_,_,.bool b=>by simp only [qew];exact .bool b
 |_,_,.int k m h=>by simp only [qew];exact .int k m h
 |_,_,.str l h=>by simp only [qew];exact .str l h
 |_,_,.nilp=>by simp only [qew];exact .nilp
 |_,_,.ptr id off b h=>by
  simp only [qew];cases hn:decide (id < n) with
  |true=>exact .ptr id off b (by simp only [Gh.keep];rw [List.getElem?_take,if_pos (by simpa using hn)];exact h)
  |false=>exact .top _
 |_,_,.ref a cs vs h hc=>by simp only [qew];exact .ref a _ vs (qfF h) (fun j v e=>⟨qGC (hc j v e).1,(hc j v e).2⟩)
 |_,_,.osl id off off' len cap k b h ho hcap hm=>by
  simp only [qew];cases hn:decide (id < n) with
  |true=>exact .osl id off off' len cap k b (by simp only [Gh.keep];rw [List.getElem?_take,if_pos (by simpa using hn)];exact h) ho hcap hm
  |false=>exact .top _
 |_,_,.sl p len cap k xs vss t hl hcap hm h hr ht=>by
  simp only [qew];exact .sl p len cap k _ vss t (by rw [← hl];exact qtj n xs) hcap hm (qwM h) (fun i vs e=>⟨(hr i vs e).1,by
   obtain⟨_,a,ha,hc⟩:=hr i vs e;exact⟨a,ha,fun j v e=>⟨qol (hc j v e).1,(hc j v e).2⟩⟩⟩) ht
 |_,_,.fn f caps vs h=>by simp only [qew];exact .fn f _ vs (qfF h)
 |_,_,.yld t T h hk=>by simp only [qew];exact .yld t T h hk
 |_,_,.nilf=>by simp only [qew];exact .nilf
 |_,_,.iface t x v h=>by simp only [qew];exact .iface t _ v (qEt h)
 |_,_,.nili=>by simp only [qew];exact .nili
 |_,_,.agg cs vs h=>by simp only [qew];exact .agg _ vs (qfF h)
 |_,_,.tup cs vs h=>by simp only [qew];exact .tup _ vs (qfF h)
theorem qfF:∀ {x:List PV} {v:List Value},RelL H w x v→RelL (H.keep n) w (qcW n x) v
 |_,_,.nil=>by simp only [qcW];exact .nil
 |_,_,.cons x v xs vs h ht=>by simp only [qcW];exact .cons _ v _ vs (qEt h) (qfF ht)
theorem qwM:∀ {x:List (List PV)} {v:List (List Value)},RelLL H w x v→RelLL (H.keep n) w (qaD n x) v
 |_,_,.nil=>by simp only [qaD];exact .nil
 |_,_,.cons x v xs vs h ht=>by simp only [qaD];exact .cons _ v _ vs (qfF h) (qwM ht)
end
theorem qeA {α:Type} {l:List α} {n i:Nat} {a:α} (h:(l.take n)[i]?=some a):i < n∧l[i]?=some a:=by
 rw [List.getElem?_take] at h
 split at h
 ·exact⟨‹_›,h⟩
 ·cases h
theorem qHO {gl:Gl} {σ:Store} (h:Ok gl H σ w) (hn:∀ (t:Nat) (T:Tok),H.tk[t]?=some T→T.k=0→T.cap≤n):Ok gl (H.keep n) (dropS n σ) w where
 B:=h.B
 gl:=h.gl
 len:=by simp [Gh.keep,dropS,h.len]
 obj:=fun id b cs e1 e2=>by
  obtain⟨hn,e1⟩:=qeA e1;simp only [dropS,List.getElem?_map] at e2;obtain⟨c0,hc0,rfl⟩:=Option.map_eq_some_iff.1 e2;obtain⟨hB,vs,ext,T,he,hr⟩:=h.obj id b c0 e1 (qeA hc0).2;exact⟨hB,vs,ext,T,he,qfF hr⟩
 nd:=fun i j b e1 e2=>h.nd i j b (qeA e1).2 (qeA e2).2
 tkl:=h.tkl
 tok:=fun t T e hvv=>by
  obtain⟨hB,ho,o,he,hr⟩:=h.tok t T e hvv;refine⟨hB,fun hm=>ho (List.mem_of_mem_take hm),o,he,?_⟩
  rcases hr with hr|⟨h1,h2,r,h3,h4,h5,h6,h7⟩
  ·exact .inl hr
  ·have hc:=hn t T e h1;refine .inr ⟨h1,h2,r,h3,?_,h5,?_,h7⟩
   ·have:=qfF (n:=n) h4
    rwa [h5 n hc] at this
   ·simp only [Gh.keep,List.length_take];omega
 tnd:=h.tnd
 tyl:=by simp [dropS,h.tyl]
 ty:=fun id b T cs e1 e2 e3 hT=>by
  obtain⟨hn,e1⟩:=qeA e1;simp only [dropS,List.getElem?_map] at e2 e3;obtain⟨c0,hc0,rfl⟩:=Option.map_eq_some_iff.1 e3;obtain⟨us,he,hs⟩:=h.ty id b T c0 e1 (qeA e2).2 (qeA hc0).2 hT;exact⟨us,he,by rw [hs,qqS]⟩
end
section
variable {P : Program} {gl : Gl} {c : Code} {fr fr' : List PV} {σ σ' : Store} {e : PExit} {n : Nat}
theorem qQ3 {H0:Gh} {w0:World} {a:Act} {w:World} (hn:H0.ob.length≤n) (h0:∀ (t:Nat) (T:Tok),H0.tk[t]?=some T→T.k=0→T.cap≤n) (h:St gl H0 w0 fr σ a w):St gl H0 w0 (qcW n fr) (dropS n σ) a w:=by
 obtain⟨H,hev,hok,hfr,hd⟩:=h;refine⟨H.keep n,⟨hev.B,hev.base,hev.aux,hev.K,hev.os,hev.tape,hev.output,hev.size,fun id b hid=>?_,hev.tok,fun b off hp=>⟨qol (hev.prot b off hp).1,(hev.prot b off hp).2⟩,hev.block,hev.dr,hev.fix,hev.old⟩,qHO hok (fun t T e hk=>?_),qfF hfr,hd⟩
 rotate_left
 ·obtain⟨T0,e0,k0⟩:=hev.old t T e hk;obtain⟨T1,e1,u⟩:=hev.tok t T0 e0;rw [e] at e1;cases e1
  rw [(u.lp k0).2.2.2];exact h0 t T0 e0 k0
 simp only [Gh.keep];rw [List.getElem?_take,if_pos (Nat.lt_of_lt_of_le (List.getElem?_eq_some_iff.1 hid).1 hn)];exact hev.ob id b hid
theorem Does.drop (hn:σ.objs.length≤n) (h:Does P gl c fr σ e fr' σ'):Does P gl c fr σ e (qcW n fr') (dropS n σ'):=by
 intro r n' H0 w0 hR Q a w hst hq;obtain⟨H,hev,hok,hfr,hd⟩:=hst;refine h r n' H w (hR.ev hev) Q a w ⟨H,Ev.refl H w,hok,hfr,hd⟩ fun a' w' hst'=>hq a' w' ?_
 obtain⟨H',hev',hok',hfr',hd'⟩:=qQ3 (n:=n) (by rw [hok.len];exact hn) (fun t T e hk=>by
  obtain⟨_,_,o,_,ho⟩:=hok.tok t T e (fun hh=>hh.2 hk)
  rcases ho with⟨h1,_⟩|⟨_,_,r,_,_,_,h6,_⟩
  ·exact absurd hk h1
  ·rw [hok.len] at h6;omega) hst'
 exact⟨H',hev.trans hev',hok',hfr',hd'⟩
end
section
variable {H : Gh} {w : World}
end
section
variable {P : Program} {gl : Gl} {c : Code} {fr fr' : List PV} {σ σ' : Store} {e : PExit}
end
end Go.Pv
set_option linter.unusedSimpArgs false
set_option linter.unusedVariables false
namespace Go.Pv
open Go.RowKit
section
variable {P : Program} {tb : Tab} {gl : Gl} {Γ : Gam}
end
section
variable {P : Program} {tb : Tab} {gl : Gl} {Γ : Gam}
end
end Go.Pv
set_option linter.unusedSimpArgs false
set_option linter.unusedVariables false
namespace Go.Pv
structure Cod (α:Type) where
 enc:α→List PV
 dec:List PV→Option α
 k:Nat
 of_dec:∀ c a,dec c=some a→c=enc a
 dec_of:∀ a,dec (enc a)=some a
 lock:∀ a,qhy (enc a)=enc a
 shut:∀ a,qgU (enc a)=enc a
 len:∀ a,(enc a).length=k
 one:∀ a,(enc a).all one=true
section
variable {α : Type} (C : Cod α)
def rOf (l:List α):List (List PV):=l.map C.enc
def deR:qR→Option (List α)
 |[]=>some []
 |c::xs=>match C.dec c,deR xs with
  |some a,some l=>some (a::l)
  |_,_=>none
theorem qgp:∀ {xs:List (List PV)} {l:List α},deR C xs=some l→xs=rOf C l
 |[],l,h=>by cases h;rfl
 |c::xs,l,h=>by
  simp only [deR] at h
  split at h
  ·rename_i a l' h1 h2;cases h
   rw [C.of_dec _ _ h1,qgp h2];rfl
  ·cases h
theorem qk7:∀ (l:List α),deR C (rOf C l)=some l
 |[]=>rfl
 |a::l=>by
  have:=qk7 l;simp only [rOf,List.map_cons,deR,C.dec_of] at this ⊢;rw [this]
def okR (xs:qR):Bool:=(deR C xs).isSome
def unR (xs:qR):List α:=(deR C xs).getD []
theorem qSC {xs:List (List PV)} (h:okR C xs=true):∃ l,xs=rOf C l:=by
 unfold okR at h
 cases hd:deR C xs with
 |none=>rw [hd] at h;cases h
 |some l=>exact⟨l,qgp C hd⟩
@[simp] theorem okR_of (l:List α):okR C (rOf C l)=true:=by unfold okR;rw [qk7];rfl
@[simp] theorem qSw (l:List α):unR C (rOf C l)=l:=by unfold unR;rw [qk7];rfl
@[simp] theorem okR_nil:okR C []=true:=rfl
@[simp] theorem unR_nil:unR C []=[]:=rfl
@[simp] theorem qRC:rOf C []=[]:=rfl
theorem qM7 (a:α) (l:List α):rOf C (a::l)=C.enc a::rOf C l:=rfl
@[simp] theorem qQ5 (l:List α):(rOf C l).length=l.length:=by simp [rOf]
@[simp] theorem qIg (l:List α) (i:Nat):(rOf C l)[i]?=(l[i]?).map C.enc:=by simp [rOf]
theorem qit (a b:List α):rOf C (a++b)=rOf C a++rOf C b:=by simp [rOf]
@[simp] theorem rOf_take (l:List α) (n:Nat):(rOf C l).take n=rOf C (l.take n):=by simp [rOf]
@[simp] theorem rOf_drop (l:List α) (n:Nat):(rOf C l).drop n=rOf C (l.drop n):=by simp [rOf]
@[simp] theorem rOf_nil_iff (l:List α):(rOf C l=[])↔l=[]:=by simp [rOf]
@[simp] theorem qau (l:List α):qaa (rOf C l)=rOf C l:=quH (by
 intro x hx;simp only [rOf,List.mem_map] at hx;obtain⟨a,_,rfl⟩:=hx;exact C.lock a)
@[simp] theorem qgX (l:List α):qcq (rOf C l)=rOf C l:=qud (by
 intro x hx;simp only [rOf,List.mem_map] at hx;obtain⟨a,_,rfl⟩:=hx;exact C.shut a)
@[simp] theorem dropPLL_rOf (n:Nat) (l:List α):qaD n (rOf C l)=rOf C l:=qlC n (qau C l)
theorem qdb (l:List α):qaB (rOf C l) C.k=true:=by
 simp [qaB,rOf,C.len]
theorem qdc (l:List α):qaH (rOf C l) C.k=true:=by
 simp only [qaH,rOf,List.all_map,List.all_eq_true];intro a _;simp [C.len,C.one]
theorem qRi {l:List α} {i:Nat} {a:α} (h:l[i]?=some a):(rOf C l)[i]?=some (C.enc a):=by simp [h]
@[simp] theorem xLen_rOf (l:List α):xLen (rOf C l)=(l.length:Int):=by simp
@[simp] theorem nXs_rOf (l:List α):nXs (rOf C l)=l.length:=by simp
@[simp] theorem xSub_rOf (l:List α) (a b:Nat):xSub (rOf C l) a b=rOf C ((l.take b).drop a):=by simp
@[simp] theorem xApp_rOf (a b:List α):xApp (rOf C a) (rOf C b)=rOf C (a++b):=by simp [qit]
@[simp] theorem xNil_rOf (l:List α):xNil (rOf C l)=decide (l=[]):=by simp
end
abbrev Vl:=Int×Int×List UInt8
def cI:Cod Int where
 enc n:=[.int .i64 n]
 dec c:=match c with|[.int .i64 n]=>some n|_=>none
 k:=1
 of_dec c a h:=by
  split at h
  ·cases h;rfl
  ·cases h
 dec_of a:=rfl
 lock a:=rfl
 shut a:=rfl
 len a:=rfl
 one a:=rfl
abbrev Tm:=Int×List UInt8×Vl
def cM:Cod Tm where
 enc t:=[.int .i64 t.1,.str t.2.1,.int .i64 t.2.2.1,.int .i64 t.2.2.2.1,.str t.2.2.2.2]
 dec c:=match c with|[.int .i64 a,.str b,.int .i64 k,.int .i64 n,.str s]=>some (a,b,k,n,s)|_=>none
 k:=5
 of_dec c a h:=by
  split at h
  ·cases h;rfl
  ·cases h
 dec_of a:=rfl
 lock a:=rfl
 shut a:=rfl
 len a:=rfl
 one a:=rfl
@[simp] theorem okSize_cI (l:List Int):qaB (rOf cI l) 1=true:=qdb cI l
@[simp] theorem okNews_cI (l:List Int):qaH (rOf cI l) 1=true:=qdc cI l
@[simp] theorem qKz (l:List Tm):qaB (rOf cM l) 5=true:=qdb cM l
@[simp] theorem okNews_cM (l:List Tm):qaH (rOf cM l) 5=true:=qdc cM l
end Go.Pv
namespace Go.Pv
open Go Go.Proofs
def tbT:Tab:=tkOf Tryz.prog
theorem qat:qcz Tryz.prog tbT:=fun _ _ h=>h
end Go.Pv
namespace Go.Pv
open Go Go.Proofs
set_option maxHeartbeats 4000000
set_option maxRecDepth 200000
theorem qah:Tryz.prog.follows .mixedOrders=true:=by kernel_rfl
end Go.Pv
set_option maxHeartbeats 4000000
set_option maxRecDepth 200000
set_option linter.unusedSimpArgs false
set_option linter.unusedVariables false
namespace Go.Pv
open Go Go.Proofs
def qbU (k n:Int) (s:qU):Int:=if k=1∧s=[] then 0 else if k=2∧n=0∧s.length≤256 then 0 else 10
def isV (k n:Int) (s:qU):Bool:=decide (k=1∧s=[]∨k=2∧n=0∧s.length≤256)
def qDk:List PV→Tr PV
 |[.agg [.int .i64 k,.int .i64 n,.str s]]=>.ret (.int .i64 (qbU k n s))
 |_=>.fail
theorem qI9 (gl:Gl):SimP Tryz.prog gl 113 fun args=>(qDk args).run:=by
 refine SimP.of_tree (G:=ofL []) (L:=fun _ _ _=>.fail) qat qag qah Tryz.func113 rfl (by rfl) (by kernel_rfl) (qae (by kernel_rfl)) ?_
 intro args x h hr;unfold qDk at h
 split at h
 ·rename_i k n s;cases h
  refine Tr.run_as (.ite (iEq k 1) (.ite (sEq s []) (.ret (.int .i64 0)) (.ite (iEq k 2) (.ite (iEq n 0) (.ite (iLe (sLen s) 256) (.ret (.int .i64 0)) (.ret (.int .i64 10))) (.ret (.int .i64 10))) (.ret (.int .i64 10)))) (.ite (iEq k 2) (.ite (iEq n 0) (.ite (iLe (sLen s) 256) (.ret (.int .i64 0)) (.ret (.int .i64 10))) (.ret (.int .i64 10))) (.ret (.int .i64 10)))) (by kernel_rfl) ?_
  simp
  try simp [qbU]
  try ((repeat' split)<;>first|rfl|(simp_all;done)|omega|(simp_all;omega))
 ·cases h
def F_Is:List PV→Tr PV
 |[.agg [.int .i64 k,.int .i64 n,.str s]]=>.ret (.bool (isV k n s))
 |_=>.fail
theorem qOP (gl:Gl):SimP Tryz.prog gl 45 fun args=>(F_Is args).run:=by
 refine SimP.of_tree (G:=ofL []) (L:=fun _ _ _=>.fail) qat qag qah Tryz.func45 rfl (by rfl) (by kernel_rfl) (qae (by kernel_rfl)) ?_
 intro args x h hr;unfold F_Is at h
 split at h
 ·rename_i k n s;cases h
  refine Tr.run_as (.ite (iEq k 1) (.ite (sEq s []) (.ret (.bool true)) (.ite (iEq k 2) (.ite (iEq n 0) (.ret (.bool (iLe (sLen s) 256))) (.ret (.bool false))) (.ret (.bool false)))) (.ite (iEq k 2) (.ite (iEq n 0) (.ret (.bool (iLe (sLen s) 256))) (.ret (.bool false))) (.ret (.bool false)))) (by kernel_rfl) ?_
  simp
  try simp [isV]
  try ((repeat' split)<;>first|rfl|(simp_all;done)|omega|(simp_all;omega))
 ·cases h
def qft (a b:qU):Bool:=decide (b.length≤a.length)&&decide (a.take b.length=b)
def qsU (a b:qU):Bool:=decide (b.length≤a.length)&&decide (a.drop (a.length - b.length)=b)
def qt8:List PV→Tr PV
 |[.str a,.str b]=>.ret (.bool (qft a b))
 |_=>.fail
theorem qDg (gl:Gl):SimP Tryz.prog gl 170 fun args=>(qt8 args).run:=by
 refine SimP.of_tree (G:=ofL []) (L:=fun _ _ _=>.fail) qat qag qah Tryz.func170 rfl (by rfl) (by kernel_rfl) (qae (by kernel_rfl)) ?_
 intro args x h hr;unfold qt8 at h
 split at h
 ·rename_i a b;cases h
  have h1:=qxn hr 0 rfl;have h2:=qxn hr 1 rfl;unfold maxLen at h1 h2;refine Tr.run_as (.ite (iLe (sLen b) (sLen a)) (.ite (qaQ true (qav (sLen b)) 0 (nNat (sLen b)) (nLen a)) (.ret (.bool (sEq (sSub a 0 (nNat (sLen b))) b))) .fail) (.ret (.bool false))) (by kernel_rfl) ?_
  simp [iSub];by_cases hl:b.length≤a.length
  ·simp [qft,hl]
  ·simp [qft,hl]
 ·cases h
def qvg:List PV→Tr PV
 |[.str a,.str b]=>.ret (.bool (qsU a b))
 |_=>.fail
theorem qCd (gl:Gl):SimP Tryz.prog gl 177 fun args=>(qvg args).run:=by
 refine SimP.of_tree (G:=ofL []) (L:=fun _ _ _=>.fail) qat qag qah Tryz.func177 rfl (by rfl) (by kernel_rfl) (qae (by kernel_rfl)) ?_
 intro args x h hr;unfold qvg at h
 split at h
 ·rename_i a b;cases h
  have h1:=qxn hr 0 rfl;have h2:=qxn hr 1 rfl;unfold maxLen at h1 h2;refine Tr.run_as (.ite (iLe (sLen b) (sLen a)) (.ite (qaQ (qav (iSub .i64 (sLen a) (sLen b))) true (nNat (iSub .i64 (sLen a) (sLen b))) (nLen a) (nLen a)) (.ret (.bool (sEq (sSub a (nNat (iSub .i64 (sLen a) (sLen b))) (nLen a)) b))) .fail) (.ret (.bool false))) (by kernel_rfl) ?_
  simp [iSub];by_cases hl:b.length≤a.length
  ·have e:IntKind.wrap .i64 ((a.length:Int) - b.length)=(a.length:Int) - b.length:=qbD (by omega)
   have e2:((a.length:Int) - b.length).toNat=a.length - b.length:=by omega
   rw [if_pos hl,e,if_pos (by omega),e2]
   simp [qsU,hl]
  ·simp [qsU,hl]
 ·cases h
def qri:List PV→Tr PV
 |[.str a,.str b]=>.ret (.bool (qft a b))
 |_=>.fail
theorem qwg (gl:Gl):SimP Tryz.prog gl 160 fun args=>(qri args).run:=by
 refine SimP.of_tree (G:=ofL [(170,.pure qt8)]) (L:=fun _ _ _=>.fail) qat (qac (qDg gl) qag) qah Tryz.func160 rfl (by rfl) (by kernel_rfl) (qae (by kernel_rfl)) ?_
 intro args x h hr;unfold qri at h
 split at h
 ·rename_i a b;cases h
  refine Tr.run_as (.ret (.bool (qft a b))) (by kernel_rfl) ?_
  simp
  try simp
  try ((repeat' split)<;>first|rfl|(simp_all;done)|omega|(simp_all;omega))
 ·cases h
def qyE:List PV→Tr PV
 |[.str a,.str b]=>.ret (.bool (qsU a b))
 |_=>.fail
theorem qHp (gl:Gl):SimP Tryz.prog gl 174 fun args=>(qyE args).run:=by
 refine SimP.of_tree (G:=ofL [(177,.pure qvg)]) (L:=fun _ _ _=>.fail) qat (qac (qCd gl) qag) qah Tryz.func174 rfl (by rfl) (by kernel_rfl) (qae (by kernel_rfl)) ?_
 intro args x h hr;unfold qyE at h
 split at h
 ·rename_i a b;cases h
  refine Tr.run_as (.ret (.bool (qsU a b))) (by kernel_rfl) ?_
  simp
  try simp
  try ((repeat' split)<;>first|rfl|(simp_all;done)|omega|(simp_all;omega))
 ·cases h
def hexL:qU:=[48,49,50,51,52,53,54,55,56,57,97,98,99,100,101,102]
def oneV (c:Int):List UInt8 :=
 if c=34∨c=92 then [92,UInt8.ofNat c.toNat] else if c=10 then [92,110] else if c=9 then [92,116] else if 32≤c∧c≤126 then [UInt8.ofNat c.toNat]
 else [92,120,UInt8.ofNat (sAt hexL (iShr .u8 c 4)).toNat,UInt8.ofNat (sAt hexL (iAnd .u8 c 15)).toNat]
def qQv:List PV→Tr PV
 |[.int .u8 c]=>.ret (.str (oneV c))
 |_=>.fail
theorem qPh (gl:Gl):SimP Tryz.prog gl 117 fun args=>(qQv args).run:=by
 refine SimP.of_tree (G:=ofL []) (L:=fun _ _ _=>.fail) qat qag qah Tryz.func117 rfl (by rfl) (by kernel_rfl) (qae (by kernel_rfl)) ?_
 intro args x h hr;unfold qQv at h
 split at h
 ·rename_i c;cases h
  have h1:=qqJ hr 0 rfl;obtain⟨n,rfl⟩:=qrG h1;refine Tr.run_as (.ite (iEq (Int.ofNat n.1) 34) (.ite (qhQ (qa2 .i32 (Int.ofNat n.1))) (.ite (qaE [92] (sOne (qa2 .i32 (Int.ofNat n.1)))) (.ret (.str (sApp [92] (sOne (qa2 .i32 (Int.ofNat n.1)))))) .fail) .fail) (.ite (iEq (Int.ofNat n.1) 92) (.ite (qhQ (qa2 .i32 (Int.ofNat n.1))) (.ite (qaE [92] (sOne (qa2 .i32 (Int.ofNat n.1)))) (.ret (.str (sApp [92] (sOne (qa2 .i32 (Int.ofNat n.1)))))) .fail) .fail) (.ite (iEq (Int.ofNat n.1) 10) (.ret (.str [92,110])) (.ite (iEq (Int.ofNat n.1) 9) (.ret (.str [92,116])) (.ite (iLe 32 (Int.ofNat n.1)) (.ite (iLe (Int.ofNat n.1) 126) (.ite (qhQ (qa2 .i32 (Int.ofNat n.1))) (.ret (.str (sOne (qa2 .i32 (Int.ofNat n.1))))) .fail) (.ite (qaR [48,49,50,51,52,53,54,55,56,57,97,98,99,100,101,102] (iShr .u8 (Int.ofNat n.1) 4)) (.ite (qhQ (qa2 .i32 (sAt [48,49,50,51,52,53,54,55,56,57,97,98,99,100,101,102] (iShr .u8 (Int.ofNat n.1) 4)))) (.ite (qaE [92,120] (sOne (qa2 .i32 (sAt [48,49,50,51,52,53,54,55,56,57,97,98,99,100,101,102] (iShr .u8 (Int.ofNat n.1) 4))))) (.ite (qaR [48,49,50,51,52,53,54,55,56,57,97,98,99,100,101,102] (iAnd .u8 (Int.ofNat n.1) 15)) (.ite (qhQ (qa2 .i32 (sAt [48,49,50,51,52,53,54,55,56,57,97,98,99,100,101,102] (iAnd .u8 (Int.ofNat n.1) 15)))) (.ite (qaE (sApp [92,120] (sOne (qa2 .i32 (sAt [48,49,50,51,52,53,54,55,56,57,97,98,99,100,101,102] (iShr .u8 (Int.ofNat n.1) 4))))) (sOne (qa2 .i32 (sAt [48,49,50,51,52,53,54,55,56,57,97,98,99,100,101,102] (iAnd .u8 (Int.ofNat n.1) 15))))) (.ret
   (.str (sApp (sApp [92,120] (sOne (qa2 .i32 (sAt [48,49,50,51,52,53,54,55,56,57,97,98,99,100,101,102] (iShr .u8 (Int.ofNat n.1) 4))))) (sOne (qa2 .i32 (sAt [48,49,50,51,52,53,54,55,56,57,97,98,99,100,101,102] (iAnd .u8 (Int.ofNat n.1) 15))))))) .fail) .fail) .fail) .fail) .fail) .fail)) (.ite (qaR [48,49,50,51,52,53,54,55,56,57,97,98,99,100,101,102] (iShr .u8 (Int.ofNat n.1) 4)) (.ite (qhQ (qa2 .i32 (sAt [48,49,50,51,52,53,54,55,56,57,97,98,99,100,101,102] (iShr .u8 (Int.ofNat n.1) 4)))) (.ite (qaE [92,120] (sOne (qa2 .i32 (sAt [48,49,50,51,52,53,54,55,56,57,97,98,99,100,101,102] (iShr .u8 (Int.ofNat n.1) 4))))) (.ite (qaR [48,49,50,51,52,53,54,55,56,57,97,98,99,100,101,102] (iAnd .u8 (Int.ofNat n.1) 15)) (.ite (qhQ (qa2 .i32 (sAt [48,49,50,51,52,53,54,55,56,57,97,98,99,100,101,102] (iAnd .u8 (Int.ofNat n.1) 15)))) (.ite (qaE (sApp [92,120] (sOne (qa2 .i32 (sAt [48,49,50,51,52,53,54,55,56,57,97,98,99,100,101,102] (iShr .u8 (Int.ofNat n.1) 4))))) (sOne (qa2 .i32 (sAt [48,49,50,51,52,53,54,55,56,57,97,98,99,100,101,102] (iAnd .u8 (Int.ofNat n.1) 15))))) (.ret (.str (sApp (sApp [92,120] (sOne (qa2 .i32 (sAt [48,49,50,51,52,53,54,55,56,57,97,98,99,100,101,102] (iShr .u8 (Int.ofNat n.1) 4))))) (sOne (qa2 .i32 (sAt [48,49,50,51,52,53,54,55,56,57,97,98,99,100,101,102] (iAnd .u8 (Int.ofNat n.1) 15))))))) .fail) .fail) .fail) .fail) .fail) .fail)))))) (by kernel_rfl) ?_
  clear hr h1;apply qOt
  revert n
  decide +kernel
 ·cases h
def qL5 (c:Int):Int:=if c < 10 then iAdd .u8 48 c else iSub .u8 (iAdd .u8 97 c) 10
def qdt (c:Int):Int:=if 48≤c∧c≤57 then c - 48 else if 97≤c∧c≤102 then c - 87 else -1
def qIQ:List PV→Tr PV
 |[.int .u8 c]=>.ret (.int .u8 (qL5 c))
 |_=>.fail
theorem qNg (gl:Gl):SimP Tryz.prog gl 119 fun args=>(qIQ args).run:=by
 refine SimP.of_tree (G:=ofL []) (L:=fun _ _ _=>.fail) qat qag qah Tryz.func119 rfl (by rfl) (by kernel_rfl) (qae (by kernel_rfl)) ?_
 intro args x h hr;unfold qIQ at h
 split at h
 ·rename_i c;cases h
  have h1:=qqJ hr 0 rfl;obtain⟨n,rfl⟩:=qrG h1;refine Tr.run_as (.ite (iLt (Int.ofNat n.1) 10) (.ret (.int .u8 (iAdd .u8 48 (Int.ofNat n.1)))) (.ret (.int .u8 (iSub .u8 (iAdd .u8 97 (Int.ofNat n.1)) 10)))) (by kernel_rfl) ?_
  clear hr h1;apply qFa
  revert n
  decide +kernel
 ·cases h
def qJh:List PV→Tr PV
 |[.int .u8 c]=>.ret (.int .i64 (qdt c))
 |_=>.fail
theorem qMA (gl:Gl):SimP Tryz.prog gl 162 fun args=>(qJh args).run:=by
 refine SimP.of_tree (G:=ofL []) (L:=fun _ _ _=>.fail) qat qag qah Tryz.func162 rfl (by rfl) (by kernel_rfl) (qae (by kernel_rfl)) ?_
 intro args x h hr;unfold qJh at h
 split at h
 ·rename_i c;cases h
  have h1:=qqJ hr 0 rfl;obtain⟨n,rfl⟩:=qrG h1;refine Tr.run_as (.ite (iLe 48 (Int.ofNat n.1)) (.ite (iLe (Int.ofNat n.1) 57) (.ret (.int .i64 (qa2 .i64 (iSub .u8 (Int.ofNat n.1) 48)))) (.ite (iLe 97 (Int.ofNat n.1)) (.ite (iLe (Int.ofNat n.1) 102) (.ret (.int .i64 (iAdd .i64 (qa2 .i64 (iSub .u8 (Int.ofNat n.1) 97)) 10))) (.ret (.int .i64 (-1)))) (.ret (.int .i64 (-1))))) (.ite (iLe 97 (Int.ofNat n.1)) (.ite (iLe (Int.ofNat n.1) 102) (.ret (.int .i64 (iAdd .i64 (qa2 .i64 (iSub .u8 (Int.ofNat n.1) 97)) 10))) (.ret (.int .i64 (-1)))) (.ret (.int .i64 (-1))))) (by kernel_rfl) ?_
  clear hr h1;apply qFa
  revert n
  decide +kernel
 ·cases h
def qHU:List PV→Tr PV
 |[.int .u8 c]=>.ret (.sl (qab (oneV c)) .non)
 |_=>.fail
theorem qN5 (gl:Gl):SimP Tryz.prog gl 77 fun args=>(qHU args).run:=by
 refine SimP.of_tree (G:=ofL [(119,.pure qIQ)]) (L:=fun _ _ _=>.fail) qat (qac (qNg gl) qag) qah Tryz.func77 rfl (by rfl) (by kernel_rfl) (qae (by kernel_rfl)) ?_
 intro args x h hr;unfold qHU at h
 split at h
 ·rename_i c;cases h
  have h1:=qqJ hr 0 rfl;obtain⟨n,rfl⟩:=qrG h1;refine Tr.run_as (.ite (iEq (Int.ofNat n.1) 34) (.ret (.sl [[.int .u8 92],[.int .u8 (Int.ofNat n.1)]] .non)) (.ite (iEq (Int.ofNat n.1) 92) (.ret (.sl [[.int .u8 92],[.int .u8 (Int.ofNat n.1)]] .non)) (.ite (iEq (Int.ofNat n.1) 10) (.ret (.sl [[.int .u8 92],[.int .u8 110]] .non)) (.ite (iEq (Int.ofNat n.1) 9) (.ret (.sl [[.int .u8 92],[.int .u8 116]] .non)) (.ite (iLe 32 (Int.ofNat n.1)) (.ite (iLe (Int.ofNat n.1) 126) (.ret (.sl [[.int .u8 (Int.ofNat n.1)]] .non)) (.ret (.sl [[.int .u8 92],[.int .u8 120],[.int .u8 (qL5 (iQuo .u8 (Int.ofNat n.1) 16))],[.int .u8 (qL5 (iRem (Int.ofNat n.1) 16))]] .non))) (.ret (.sl [[.int .u8 92],[.int .u8 120],[.int .u8 (qL5 (iQuo .u8 (Int.ofNat n.1) 16))],[.int .u8 (qL5 (iRem (Int.ofNat n.1) 16))]] .non))))))) (by kernel_rfl) ?_
  clear hr h1;apply qM0
  revert n
  decide +kernel
 ·cases h
end Go.Pv
set_option maxHeartbeats 4000000
set_option maxRecDepth 200000
set_option linter.unusedSimpArgs false
set_option linter.unusedVariables false
namespace Go.Pv
open Go Go.Proofs
theorem qhR {l:List UInt8} {i:Int} {v:UInt8} (h:l[i.toNat]?=some v):sAt l i=v.toNat:=by
 simp [sAt,List.getD_eq_getElem?_getD,h]
theorem qfA {l:List UInt8} {i:Int} {v:UInt8} (h0:0≤i) (h:l[i.toNat]?=some v):qaR l i=true:=by
 have:=(List.getElem?_eq_some_iff.1 h).1;simp [h0,this]
def dv:qU→Int→Int→Int
 |[],_,_=>16
 |b::l,c,i=>if (b.toNat:Int)=c then i else dv l c (i+1)
def digV (c:Int):Int:=dv hexL c 0
def qBB:List PV→Tr PV
 |[.int .u8 c]=>.ret (.int .u8 (digV c))
 |_=>.fail
def qDU:List PV→Store→Option (Int×Int×Store)
 |[.int .u8 c,.int .i64 i],σ=>some (c,i,σ)
 |_,_=>none
def qLO:Int×Int×Store→Tr (PExit×List (Nat×PV)×Store)
 |(c,i,σ)=>Tr.chk (iEq i 0) (.ite (iEq (digV c) 16) (.ret (.exit 0,[],σ)) (.ret (.ret,[(2,.int .u8 (digV c))],σ)))
def qJK:LpsT:=fun r fr σ=>if r=2 then oracle 14 [0,4] qDU qLO fr σ else .fail
def qCD:Code:=qHI Tryz.f181 0
theorem qGp (gl:Gl):∀ vs σ a e out σ',qDU vs σ=some a→(qLO a).run=some (e,out,σ')→LDoes Tryz.prog gl qCD (mk 14 ([0,4].zip vs)) σ e (mk 14 out) σ':=by
 intro vs s a e out σ' hd hr;unfold qDU at hd;split at hd
 ·rename_i c i;cases hd
  obtain⟨h1,h2⟩:=Tr.chk_some hr;simp at h1;subst h1;clear hr;have key:∀ (m:Nat) (i:Int),0≤i→i+m=16→dv (hexL.drop i.toNat) c i=digV c→LDoes Tryz.prog gl qCD (mk 14 ([0,4].zip [.int .u8 c,.int .i64 i])) s e (mk 14 out) σ':=by
   intro m
   induction m with
   |zero =>
    intro i h0 hi hf;have:i=16:=by omega
    subst this;have hf:16=digV c:=hf;simp [← hf] at h2;obtain⟨rfl,rfl,rfl⟩:=h2;refine LDoes.round qat (G:=ofL []) qag qah (L:=fun _ _ _=>.fail) (qae (by kernel_rfl)) (by kernel_rfl) ?_
    refine Tr.all_as (.ite (iLt 16 16) (.ite (qaR [48,49,50,51,52,53,54,55,56,57,97,98,99,100,101,102] 16) (.ite (iEq (sAt [48,49,50,51,52,53,54,55,56,57,97,98,99,100,101,102] 16) c) (.ret (.ret,[10,5],[.int .u8 c,.top,.int .u8 (qa2 .u8 16),.int .i64 16,.int .i64 16,.bool true,.int .i64 16,.int .i64 16,.int .u8 (sAt [48,49,50,51,52,53,54,55,56,57,97,98,99,100,101,102] 16),.int .u8 c,.bool true,.int .i64 16,.int .u8 (qa2 .u8 16),.top],s)) (.ret (.normal,[10,5],[.int .u8 c,.top,.top,.int .i64 16,.int .i64 (iAdd .i64 16 1),.bool true,.int .i64 16,.int .i64 16,.int .u8 (sAt [48,49,50,51,52,53,54,55,56,57,97,98,99,100,101,102] 16),.int .u8 c,.bool false,.top,.top,.int .i64 (iAdd .i64 16 1)],s))) .fail) (.ret (.exit 0,[5],[.int .u8 c,.top,.top,.top,.int .i64 16,.bool false,.top,.top,.top,.top,.top,.top,.top,.top],s))) (by kernel_rfl) ?_
    refine⟨fun h=>by simp at h,fun h=>⟨rfl,by simp [Weak,mk,qdm,look],rfl⟩⟩
   |succ m ih =>
    intro i h0 hi hf;obtain⟨v,hv⟩:=qgH (l:=hexL) (i:=i.toNat) (by show i.toNat < 16;omega)
    rw [qbP hv] at hf;refine LDoes.round qat (G:=ofL []) qag qah (L:=fun _ _ _=>.fail) (qae (by kernel_rfl)) (by kernel_rfl) ?_
    refine Tr.all_as (.ite (iLt i 16) (.ite (qaR [48,49,50,51,52,53,54,55,56,57,97,98,99,100,101,102] i) (.ite (iEq (sAt [48,49,50,51,52,53,54,55,56,57,97,98,99,100,101,102] i) c) (.ret (.ret,[10,5],[.int .u8 c,.top,.int .u8 (qa2 .u8 i),.int .i64 i,.int .i64 i,.bool true,.int .i64 i,.int .i64 i,.int .u8 (sAt [48,49,50,51,52,53,54,55,56,57,97,98,99,100,101,102] i),.int .u8 c,.bool true,.int .i64 i,.int .u8 (qa2 .u8 i),.top],s)) (.ret (.normal,[10,5],[.int .u8 c,.top,.top,.int .i64 i,.int .i64 (iAdd .i64 i 1),.bool true,.int .i64 i,.int .i64 i,.int .u8 (sAt [48,49,50,51,52,53,54,55,56,57,97,98,99,100,101,102] i),.int .u8 c,.bool false,.top,.top,.int .i64 (iAdd .i64 i 1)],s))) .fail) (.ret (.exit 0,[5],[.int .u8 c,.top,.top,.top,.int .i64 i,.bool false,.top,.top,.top,.top,.top,.top,.top,.top],s))) (by kernel_rfl) ?_
    refine⟨fun _=>⟨fun _=>⟨fun h=>?_,fun h=>?_⟩,fun h=>?_⟩,fun h=>by simp at h;omega⟩
    ·have h:iEq (sAt hexL i) c=true:=h;rw [qhR hv] at h
     simp at h
     simp only [dv,if_pos h] at hf;rw [← hf] at h2;have h16:¬ i=16:=by omega
     simp [h16] at h2;obtain⟨rfl,rfl,rfl⟩:=h2;refine⟨rfl,?_,rfl⟩;simp [Weak,mk,qdm,look,qa2,qzd (n:=i) (by omega)]
    ·have h:iEq (sAt hexL i) c=false:=h;rw [qhR hv] at h
     simp at h
     simp only [dv,if_neg h] at hf;have e1:(i+1).toNat=i.toNat+1:=by omega
     refine LDoes.into ?_ (ih (i+1) (by omega) (by omega) (by rw [e1];exact hf))
     simp [Weak,mk,qdm,look,iAdd,qbD (n:=i+1) (by omega)]
    ·have h:qaR hexL i=false:=h;rw [qfA h0 hv] at h
     cases h
  exact key 16 0 (by omega) (by omega) rfl
 ·cases hd
theorem qIu (gl:Gl):SimP Tryz.prog gl 181 fun args=>(qBB args).run:=by
 refine SimP.of_tree (G:=ofL []) (L:=qJK) qat qag qah Tryz.func181 rfl (by rfl) (by kernel_rfl) (qi3 (r:=2) (c1:=qCD) (by kernel_rfl) ?_) ?_
 ·intro fr σ e fr' σ' hh;simp only [lps,qJK,if_true] at hh;exact qld (qGp gl) fr σ e fr' σ' hh
 intro args x h hr;unfold qBB at h
 split at h
 ·rename_i c;cases h
  refine Tr.run_as (.ite (iEq 0 0) (.ite (iEq (digV c) 16) (.ret (.int .u8 16)) (.ret (.int .u8 (digV c)))) .fail) (by kernel_rfl) ?_
  simp [eq_comm]
 ·cases h
def escB (s:qU):Int :=
 if s=[] then 0 else if sAt s 0=34∨sAt s 0=92 then sAt s 0 else if sAt s 0=110 then 10 else if sAt s 0=116 then 9
 else if sAt s 0=120∧3≤s.length∧digV (sAt s 1) < 16∧digV (sAt s 2) < 16 then iOr .u8 (iShl .u8 (digV (sAt s 1)) 4) (digV (sAt s 2)) else 0
def escN (s:qU):Int :=
 if s=[] then 0 else if sAt s 0=34∨sAt s 0=92 then 1 else if sAt s 0=110 then 1 else if sAt s 0=116 then 1
 else if sAt s 0=120∧3≤s.length∧digV (sAt s 1) < 16∧digV (sAt s 2) < 16 then 3 else 0
def qsR:List PV→Tr PV
 |[.str s]=>.ret (.tup [.int .u8 (escB s),.int .i64 (escN s)])
 |_=>.fail
theorem qwp (gl:Gl):SimP Tryz.prog gl 178 fun args=>(qsR args).run:=by
 refine SimP.of_tree (G:=ofL [(181,.pure qBB)]) (L:=fun _ _ _=>.fail) qat (qac (qIu gl) qag) qah Tryz.func178 rfl (by rfl) (by kernel_rfl) (qae (by kernel_rfl)) ?_
 intro args x h hr;unfold qsR at h
 split at h
 ·rename_i s;cases h
  refine Tr.run_as (.ite (sEq s []) (.ret (.tup [.int .u8 0,.int .i64 0])) (.ite (qaR s 0) (.ite (iEq (sAt s 0) 34) (.ite (qaR s 0) (.ret (.tup [.int .u8 (sAt s 0),.int .i64 1])) .fail) (.ite (iEq (sAt s 0) 92) (.ite (qaR s 0) (.ret (.tup [.int .u8 (sAt s 0),.int .i64 1])) .fail) (.ite (iEq (sAt s 0) 110) (.ret (.tup [.int .u8 10,.int .i64 1])) (.ite (iEq (sAt s 0) 116) (.ret (.tup [.int .u8 9,.int .i64 1])) (.ite (iEq (sAt s 0) 120) (.ite (iLe 3 (sLen s)) (.ite (qaR s 1) (.ite (iLt (digV (sAt s 1)) 16) (.ite (qaR s 2) (.ite (iLt (digV (sAt s 2)) 16) (.ite (qaR s 1) (.ite (qaR s 2) (.ret (.tup [.int .u8 (iOr .u8 (iShl .u8 (digV (sAt s 1)) 4) (digV (sAt s 2))),.int .i64 3])) .fail) .fail) (.ret (.tup [.int .u8 0,.int .i64 0]))) .fail) (.ret (.tup [.int .u8 0,.int .i64 0]))) .fail) (.ret (.tup [.int .u8 0,.int .i64 0]))) (.ret (.tup [.int .u8 0,.int .i64 0]))))))) .fail)) (by kernel_rfl) ?_
  by_cases h0:s=[]
  ·subst h0;simp [escB,escN]
  ·have hl:0 < s.length:=List.length_pos_iff.2 h0;have k0:qaR s 0=true:=by simp [hl]
   by_cases h3:3≤s.length
   ·have k1:qaR s 1=true:=by simp;omega
    have k2:qaR s 2=true:=by simp;omega
    have h3':(3:Int)≤s.length:=by omega
    simp only [Tr.run_ite,k0,k1,k2,quc,qIs,qFt,qHS,qji,decide_eq_true_eq,h0,h3',if_true,if_false,escB,escN,h3,true_and,Tr.run_ret]
    repeat' split
    all_goals first|rfl|(simp_all;done)|(exfalso;simp_all;done)|(exfalso;omega)
   ·have h3':¬ (3:Int)≤s.length:=by omega
    simp only [Tr.run_ite,k0,quc,qIs,qFt,qHS,qji,decide_eq_true_eq,h0,h3',if_true,if_false,escB,escN,h3,false_and,and_false,Tr.run_ret]
    repeat' split
    all_goals first|rfl|(simp_all;done)|(exfalso;simp_all;done)|(exfalso;omega)
 ·cases h
def qhL (n:Nat):List UInt8:=if h:n < 10 then [UInt8.ofNat (48+n)] else qhL (n / 10)++[UInt8.ofNat (48+n % 10)]
 termination_by n
 decreasing_by omega
theorem qiO:∀ (k n:Nat),n < 10 ^ (k+1)→(qhL n).length≤k+1:=by
 intro k
 induction k with
 |zero=>intro n h;unfold qhL;simp at h;simp [h]
 |succ k ih =>
  intro n h;unfold qhL;split
  ·simp
  ·have:=ih (n / 10) (by rw [Nat.pow_succ] at h;omega)
   simp;omega
def qjn (n:Int):List UInt8:=qhL n.toNat
def qtq (k:Nat):List PV→Tr PV
 |[.int .u64 n]=>Tr.chk (ltN n k) (.ret (.str (qjn n)))
 |_=>.fail
def qKi:List PV→Tr PV
 |[.int .u64 n]=>.ret (.str (qjn n))
 |_=>.fail
theorem qBe (gl:Gl):∀ k,SimP Tryz.prog gl 76 fun args=>(qtq k args).run:=by
 intro k
 induction k with
 |zero =>
  refine⟨⟨_,Tryz.func76,by rfl,by rfl⟩,?_⟩
  intro args x h;unfold qtq at h
  split at h
  ·obtain⟨h1,_⟩:=Tr.chk_some h;simp at h1
  ·cases h
 |succ k ih =>
  refine SimP.of_tree (G:=ofL [(76,.pure (qtq k))]) (L:=fun _ _ _=>.fail) qat (qac ih qag) qah Tryz.func76 rfl (by rfl) (by kernel_rfl) (qae (by kernel_rfl)) ?_
  intro args x h hr;unfold qtq at h
  split at h
  ·rename_i n;obtain⟨h1,h2⟩:=Tr.chk_some h;cases h2
   have hn:0≤n∧n≤18446744073709551615:=qqJ hr 0 rfl;simp at h1;refine Tr.run_as (.ite (iLt n 10) (.ite (qdS [[.int .u8 (qa2 .u8 (iAdd .u64 48 n))]]) (.ret (.str (qcL [[.int .u8 (qa2 .u8 (iAdd .u64 48 n))]]))) .fail) (.ite (ltN (iQuo .u64 n 10) k) (.ite (qdS [[.int .u8 (qa2 .u8 (iAdd .u64 48 (iRem n 10)))]]) (.ite (qaE (qjn (iQuo .u64 n 10)) (qcL [[.int .u8 (qa2 .u8 (iAdd .u64 48 (iRem n 10)))]])) (.ret (.str (sApp (qjn (iQuo .u64 n 10)) (qcL [[.int .u8 (qa2 .u8 (iAdd .u64 48 (iRem n 10)))]])))) .fail) .fail) .fail)) (by kernel_rfl) ?_
   by_cases h10:n < 10
   ·have e1:iAdd .u64 48 n=48+n:=qgf (by omega)
    have e2:qa2 .u8 (48+n)=48+n:=qzd (by omega)
    have e3:(48+n).toNat=48+n.toNat:=by omega
    simp [h10,e1,e2,e3,qjn];unfold qhL;rw [dif_pos (by omega)]
    simp [UInt8.ofNat_add]
   ·have e1:iQuo .u64 n 10=n / 10:=by
     unfold iQuo;rw [Int.tdiv_eq_ediv_of_nonneg hn.1];exact qgf (by omega)
    have e2:iRem n 10=n % 10:=Int.tmod_eq_emod_of_nonneg hn.1;have e3:iAdd .u64 48 (n % 10)=48+n % 10:=qgf (by omega)
    have e4:qa2 .u8 (48+n % 10)=48+n % 10:=qzd (by omega)
    have e5:(48+n % 10).toNat=48+n.toNat % 10:=by omega
    have e6:(n / 10).toNat=n.toNat / 10:=by omega
    have hl:=qiO 19 (n.toNat / 10) (by omega)
    have e7:¬ n.toNat < 10:=by omega
    have e8:n.toNat / 10 < k:=by omega
    have e9:qhL n.toNat=qhL (n.toNat / 10)++[UInt8.ofNat (48+n.toNat % 10)]:=by
     conv=>lhs;unfold qhL
     rw [dif_neg e7]
    have e10:(qhL (n.toNat / 10)).length+1≤maxLen:=by unfold maxLen;omega
    simp [h10,e1,e2,e3,e4,e5,e6,qjn,e8,e9,e10]
  ·cases h
theorem qMP (gl:Gl):SimP Tryz.prog gl 76 fun args=>(qKi args).run:=by
 refine SimP.of_each (qBe gl 0).ent ?_;intro args x h;unfold qKi at h
 split at h
 ·rename_i n;cases h
  exact⟨_,qBe gl (n.toNat+1),by simp [qtq,Tr.chk]⟩
 ·cases h
end Go.Pv
set_option maxHeartbeats 4000000
set_option maxRecDepth 200000
set_option linter.unusedSimpArgs false
set_option linter.unusedVariables false
namespace Go.Pv
open Go Go.Proofs
def symB (s:qU):List UInt8:=s.flatMap fun b=>oneV b.toNat
def symV (s:qU):List UInt8:=34::symB s++[34]
def intV (n:Int):List UInt8:=if n < 0 then 45::qjn (-n) else qjn n
def qgA (k n:Int) (s:qU):List UInt8:=if isV k n s=true then (if k=1 then intV n else symV s) else []
def symH (s:qU):List UInt8:=34::symB s
theorem qsL (c:Int):1≤(oneV c).length∧(oneV c).length≤4:=by
 unfold oneV
 repeat' split
 all_goals simp
theorem qxR:∀ s,(symB s).length≤4 * s.length
 |[]=>by simp [symB]
 |b::s=>by
  have:=qxR s;have:=qsL b.toNat;simp [symB] at *;omega
theorem qAn (k n:Int) (s:qU):qbU k n s=if isV k n s=true then 0 else 10:=by
 unfold qbU isV;by_cases h1:k=1∧s=[]
 ·simp [h1]
 ·by_cases h2:k=2∧n=0∧s.length≤256
  ·simp [h2]
  ·rw [if_neg h1,if_neg h2,if_neg];simp only [decide_eq_true_eq];rintro (h|h)
   ·exact h1 h
   ·exact h2 h
theorem qK8 {n:Int} (h:n≤18446744073709551616):(qjn n).length≤20:=qiO 19 n.toNat (by omega)
def qzw:List PV→Tr PV
 |[.agg [.int .i64 k,.int .i64 n,.str s]]=>.ret (.tup [.str (qgA k n s),.int .i64 (qbU k n s)])
 |_=>.fail
def qD1:List PV→Store→Option (Int×Int×List UInt8×Int×Store)
 |[.ptr 0 0,.sl [[.int .u8 34]] .full,.int .i64 i],⟨[[.int .i64 k,.int .i64 n,.str s]],[],[25]⟩=>some (k,n,s,i,⟨[[.int .i64 k,.int .i64 n,.str s]],[],[25]⟩)
 |_,_=>none
def qH8:Int×Int×List UInt8×Int×Store→Tr (PExit×List (Nat×PV)×Store)
 |(k,n,s,i,σ)=>Tr.chk (iEq i 0) (Tr.chk (iLe (sLen s) 256) (.ite (sEq s []) (.ret (.exit 0,[(4,.sl (qab (symH s)) .full)],⟨σ.objs,[],σ.tys⟩)) (.ret (.exit 0,[(4,.sl (qab (symH s)) (.tok 0))],⟨σ.objs,[(nLen (symH s),1,5)],σ.tys⟩))))
def qKN:LpsT:=fun r fr σ=>if r=9 then oracle 46 [1,4,5] qD1 qH8 fr σ else .fail
def qCp:Code:=qHI Tryz.f46 0
theorem qHk (gl:Gl):∀ vs σ a e out σ',qD1 vs σ=some a→(qH8 a).run=some (e,out,σ')→LDoes Tryz.prog gl qCp (mk 46 ([1,4,5].zip vs)) σ e (mk 46 out) σ':=by
 intro vs s a e out σ' hd hr;unfold qD1 at hd;split at hd
 ·rename_i i k n s;cases hd
  obtain⟨h1,h2⟩:=Tr.chk_some hr;obtain⟨h3,h4⟩:=Tr.chk_some h2;simp at h1 h3;subst h1;clear hr h2;have hG:qaU Tryz.prog gl (gam (ofL [(77,.pure qHU)])):=qac (qN5 gl) qag
  -- the row is the call's own
  have key:∀ (m:Nat) (i:Int) (b:qU),0≤i→i+m=s.length→b++symB (s.drop i.toNat)=symH s→b.length≤1+4 * i.toNat→s≠[] →
    LDoes Tryz.prog gl qCp (mk 46 ([1,4,5].zip [.ptr 0 0,.sl (qab b) (.tok 0),.int .i64 i])) ⟨[[.int .i64 k,.int .i64 n,.str s]],[(nLen b,1,5)],[25]⟩ e (mk 46 out) σ':=by
   intro m
   induction m with
   |zero =>
    intro i b h0 hi hf hb hne;have e1:s.drop i.toNat=[]:=by apply List.drop_eq_nil_of_le;omega
    rw [e1] at hf;simp [symB] at hf;subst hf;simp [hne] at h4;obtain⟨rfl,rfl,rfl⟩:=h4;refine LDoes.round qat hG qah (L:=fun _ _ _=>.fail) (qae (by kernel_rfl)) (by kernel_rfl) ?_
    refine Tr.all_as (.ite (iLt i (sLen s)) (.ite (qaR s i) (.ite (qaI (qab (symH s)) (qab (oneV (sAt s i))) 1) (.ite (qaH (qab (oneV (sAt s i))) 1) (.ite (qaB (qab (symH s)) 1) (.ite (xNil (qab (oneV (sAt s i)))) (.ret (.normal,[32],[.top,.ptr 0 0,.top,.top,.sl (qab (symH s)) (.tok 0),.int .i64 (iAdd .i64 i 1),.top,.top,.top,.top,.top,.top,.top,.top,.top,.top,.top,.top,.top,.top,.top,.top,.top,.top,.top,.top,.top,.top,.int .i64 i,.ptr 0 2,.str s,.int .i64 (sLen s),.bool true,.int .i64 i,.int .i64 (iAdd .i64 i 1),.sl (qab (symH s)) (.tok 0),.ptr 0 2,.str s,.int .i64 i,.int .u8 (sAt s i),.sl (qab (oneV (sAt s i))) .non,.sl (qab (symH s)) (.tok 0),.top,.top,.top,.top],Store.mk [[.int .i64 k,.int .i64 n,.str s]] [(nLen (symH s),1,5)] [25])) (.ite (nEq (nLen (symH s)) (nXs (qab (symH s)))) (.ret (.normal,[32],[.top,.ptr 0 0,.top,.top,.sl (xApp (qab (symH s)) (qab (oneV (sAt s i)))) (.tok 0),.int .i64 (iAdd .i64 i 1),.top,.top,.top,.top,.top,.top,.top,.top,.top,.top,.top,.top,.top,.top,.top,.top,.top,.top,.top,.top,.top,.top,.int .i64 i,.ptr 0 2,.str s,.int .i64 (sLen s),.bool true,.int .i64 i,.int .i64 (iAdd .i64 i 1),.sl (qab (symH s)) (.tok 0),.ptr 0 2,.str s,.int .i64 i,.int .u8 (sAt s i),.sl (qab (oneV (sAt s i))) .non,.sl (xApp (qab (symH s)) (qab (oneV (sAt s i)))) (.tok 0),.top,.top,.top,.top],Store.mk [[.int .i64 k,.int .i64 n,.str s]] [(nXs (xApp (qab (symH s)) (qab (oneV (sAt s i)))),1,5)] [25])) .fail)) .fail)
     .fail) .fail) .fail) (.ret (.exit 0,[32],[.top,.ptr 0 0,.top,.top,.sl (qab (symH s)) (.tok 0),.int .i64 i,.top,.top,.top,.top,.top,.top,.top,.top,.top,.top,.top,.top,.top,.top,.top,.top,.top,.top,.top,.top,.top,.top,.int .i64 i,.ptr 0 2,.str s,.int .i64 (sLen s),.bool false,.top,.top,.top,.top,.top,.top,.top,.top,.top,.top,.top,.top,.top],Store.mk [[.int .i64 k,.int .i64 n,.str s]] [(nLen (symH s),1,5)] [25]))) (by kernel_rfl) ?_
    refine Tr.all_f (by simp;omega) ⟨rfl,by simp [Weak,mk,qdm,look],rfl⟩
   |succ m ih =>
    intro i b h0 hi hf hb hne;obtain⟨v,hv⟩:=qgH (l:=s) (i:=i.toNat) (by omega)
    rw [qbP hv] at hf;have hone:=qsL v.toNat;have e2:(i+1).toNat=i.toNat+1:=by omega
    refine LDoes.round qat hG qah (L:=fun _ _ _=>.fail) (qae (by kernel_rfl)) (by kernel_rfl) ?_
    refine Tr.all_as (.ite (iLt i (sLen s)) (.ite (qaR s i) (.ite (qaI (qab b) (qab (oneV (sAt s i))) 1) (.ite (qaH (qab (oneV (sAt s i))) 1) (.ite (qaB (qab b) 1) (.ite (xNil (qab (oneV (sAt s i)))) (.ret (.normal,[32],[.top,.ptr 0 0,.top,.top,.sl (qab b) (.tok 0),.int .i64 (iAdd .i64 i 1),.top,.top,.top,.top,.top,.top,.top,.top,.top,.top,.top,.top,.top,.top,.top,.top,.top,.top,.top,.top,.top,.top,.int .i64 i,.ptr 0 2,.str s,.int .i64 (sLen s),.bool true,.int .i64 i,.int .i64 (iAdd .i64 i 1),.sl (qab b) (.tok 0),.ptr 0 2,.str s,.int .i64 i,.int .u8 (sAt s i),.sl (qab (oneV (sAt s i))) .non,.sl (qab b) (.tok 0),.top,.top,.top,.top],Store.mk [[.int .i64 k,.int .i64 n,.str s]] [(nLen b,1,5)] [25])) (.ite (nEq (nLen b) (nXs (qab b))) (.ret (.normal,[32],[.top,.ptr 0 0,.top,.top,.sl (xApp (qab b) (qab (oneV (sAt s i)))) (.tok 0),.int .i64 (iAdd .i64 i 1),.top,.top,.top,.top,.top,.top,.top,.top,.top,.top,.top,.top,.top,.top,.top,.top,.top,.top,.top,.top,.top,.top,.int .i64 i,.ptr 0 2,.str s,.int .i64 (sLen s),.bool true,.int .i64 i,.int .i64 (iAdd .i64 i 1),.sl (qab b) (.tok 0),.ptr 0 2,.str s,.int .i64 i,.int .u8 (sAt s i),.sl (qab (oneV (sAt s i))) .non,.sl (xApp (qab b) (qab (oneV (sAt s i)))) (.tok 0),.top,.top,.top,.top],Store.mk [[.int .i64 k,.int .i64 n,.str s]] [(nXs (xApp (qab b) (qab (oneV (sAt s i)))),1,5)] [25])) .fail)) .fail) .fail) .fail) .fail) (.ret (.exit 0,[32],[.top,.ptr 0 0,.top,.top,.sl (qab b)
     (.tok 0),.int .i64 i,.top,.top,.top,.top,.top,.top,.top,.top,.top,.top,.top,.top,.top,.top,.top,.top,.top,.top,.top,.top,.top,.top,.int .i64 i,.ptr 0 2,.str s,.int .i64 (sLen s),.bool false,.top,.top,.top,.top,.top,.top,.top,.top,.top,.top,.top,.top,.top],Store.mk [[.int .i64 k,.int .i64 n,.str s]] [(nLen b,1,5)] [25]))) (by kernel_rfl) ?_
    rw [qhR hv,qeD,qfn,qfn];refine Tr.all_t (by simp;omega) <| Tr.all_t (qfA h0 hv) <| Tr.all_t (qcI (by omega)) <| Tr.all_t (qfg _) <| Tr.all_t (qcx _) <| Tr.all_f (qgW hone.1) <| Tr.all_t (by simp) ?_
    refine LDoes.into ?_ (ih (i+1) (b++oneV v.toNat) (by omega) (by omega) (by rw [← hf,e2];simp [symB]) (by simp;omega) hne)
    simp [Weak,mk,qdm,look,iAdd,qbD (n:=i+1) (by omega)]
  by_cases hne:s=[]
  ·subst hne;simp at h4;obtain⟨rfl,rfl,rfl⟩:=h4;refine LDoes.round qat hG qah (L:=fun _ _ _=>.fail) (qae (by kernel_rfl)) (by kernel_rfl) ?_
   refine Tr.all_as (.ite (iLt 0 (sLen [])) (.ite (qaR [] 0) (.ite (qaI [[.int .u8 34]] (qab (oneV (sAt [] 0))) 1) (.ite (qaH (qab (oneV (sAt [] 0))) 1) (.ite (qaB [[.int .u8 34]] 1) (.ite (xNil (qab (oneV (sAt [] 0)))) (.ret (.normal,[32],[.top,.ptr 0 0,.top,.top,.sl [[.int .u8 34]] .full,.int .i64 (iAdd .i64 0 1),.top,.top,.top,.top,.top,.top,.top,.top,.top,.top,.top,.top,.top,.top,.top,.top,.top,.top,.top,.top,.top,.top,.int .i64 0,.ptr 0 2,.str [],.int .i64 (sLen []),.bool true,.int .i64 0,.int .i64 (iAdd .i64 0 1),.sl [[.int .u8 34]] .full,.ptr 0 2,.str [],.int .i64 0,.int .u8 (sAt [] 0),.sl (qab (oneV (sAt [] 0))) .non,.sl [[.int .u8 34]] .full,.top,.top,.top,.top],Store.mk [[.int .i64 k,.int .i64 n,.str []]] [] [25])) (.ret (.normal,[32],[.top,.ptr 0 0,.top,.top,.sl (xApp [[.int .u8 34]] (qab (oneV (sAt [] 0)))) (.tok 0),.int .i64 (iAdd .i64 0 1),.top,.top,.top,.top,.top,.top,.top,.top,.top,.top,.top,.top,.top,.top,.top,.top,.top,.top,.top,.top,.top,.top,.int .i64 0,.ptr 0 2,.str [],.int .i64 (sLen []),.bool true,.int .i64 0,.int .i64 (iAdd .i64 0 1),.sl [[.int .u8 34]] .full,.ptr 0 2,.str [],.int .i64 0,.int .u8 (sAt [] 0),.sl (qab (oneV (sAt [] 0))) .non,.sl (xApp [[.int .u8 34]] (qab (oneV (sAt [] 0)))) (.tok 0),.top,.top,.top,.top],Store.mk [[.int .i64 k,.int .i64 n,.str []]] [(nXs (xApp [[.int .u8 34]] (qab (oneV (sAt [] 0)))),1,5)] [25]))) .fail) .fail) .fail) .fail) (.ret (.exit 0,[32],[.top,.ptr 0 0,.top,.top,.sl [[.int .u8 34]] .full,.int
    .i64 0,.top,.top,.top,.top,.top,.top,.top,.top,.top,.top,.top,.top,.top,.top,.top,.top,.top,.top,.top,.top,.top,.top,.int .i64 0,.ptr 0 2,.str [],.int .i64 (sLen []),.bool false,.top,.top,.top,.top,.top,.top,.top,.top,.top,.top,.top,.top,.top],Store.mk [[.int .i64 k,.int .i64 n,.str []]] [] [25]))) (by kernel_rfl) ?_
   refine Tr.all_f (by simp) ⟨rfl,by simp [Weak,mk,qdm,look,symH,symB,qab],rfl⟩
  ·obtain⟨v,hv⟩:=qgH (l:=s) (i:=0) (List.length_pos_iff.2 hne);have hv':s[(0:Int).toNat]?=some v:=hv;have hone:=qsL v.toNat;have hs:s=v::s.drop 1:=by
    have:=qbP hv;simpa using this
   refine LDoes.round qat hG qah (L:=fun _ _ _=>.fail) (qae (by kernel_rfl)) (by kernel_rfl) ?_
   refine Tr.all_as (.ite (iLt 0 (sLen s)) (.ite (qaR s 0) (.ite (qaI [[.int .u8 34]] (qab (oneV (sAt s 0))) 1) (.ite (qaH (qab (oneV (sAt s 0))) 1) (.ite (qaB [[.int .u8 34]] 1) (.ite (xNil (qab (oneV (sAt s 0)))) (.ret (.normal,[32],[.top,.ptr 0 0,.top,.top,.sl [[.int .u8 34]] .full,.int .i64 (iAdd .i64 0 1),.top,.top,.top,.top,.top,.top,.top,.top,.top,.top,.top,.top,.top,.top,.top,.top,.top,.top,.top,.top,.top,.top,.int .i64 0,.ptr 0 2,.str s,.int .i64 (sLen s),.bool true,.int .i64 0,.int .i64 (iAdd .i64 0 1),.sl [[.int .u8 34]] .full,.ptr 0 2,.str s,.int .i64 0,.int .u8 (sAt s 0),.sl (qab (oneV (sAt s 0))) .non,.sl [[.int .u8 34]] .full,.top,.top,.top,.top],Store.mk [[.int .i64 k,.int .i64 n,.str s]] [] [25])) (.ret (.normal,[32],[.top,.ptr 0 0,.top,.top,.sl (xApp [[.int .u8 34]] (qab (oneV (sAt s 0)))) (.tok 0),.int .i64 (iAdd .i64 0 1),.top,.top,.top,.top,.top,.top,.top,.top,.top,.top,.top,.top,.top,.top,.top,.top,.top,.top,.top,.top,.top,.top,.int .i64 0,.ptr 0 2,.str s,.int .i64 (sLen s),.bool true,.int .i64 0,.int .i64 (iAdd .i64 0 1),.sl [[.int .u8 34]] .full,.ptr 0 2,.str s,.int .i64 0,.int .u8 (sAt s 0),.sl (qab (oneV (sAt s 0))) .non,.sl (xApp [[.int .u8 34]] (qab (oneV (sAt s 0)))) (.tok 0),.top,.top,.top,.top],Store.mk [[.int .i64 k,.int .i64 n,.str s]] [(nXs (xApp [[.int .u8 34]] (qab (oneV (sAt s 0)))),1,5)] [25]))) .fail) .fail) .fail) .fail) (.ret (.exit 0,[32],[.top,.ptr 0 0,.top,.top,.sl [[.int .u8 34]] .full,.int .i64
    0,.top,.top,.top,.top,.top,.top,.top,.top,.top,.top,.top,.top,.top,.top,.top,.top,.top,.top,.top,.top,.top,.top,.int .i64 0,.ptr 0 2,.str s,.int .i64 (sLen s),.bool false,.top,.top,.top,.top,.top,.top,.top,.top,.top,.top,.top,.top,.top],Store.mk [[.int .i64 k,.int .i64 n,.str s]] [] [25]))) (by kernel_rfl) ?_
   have e3:([[PV.int .u8 34]]:List (List PV))=qab [34]:=rfl;rw [qhR hv',e3,qeD,qfn];refine Tr.all_t (by simp;exact List.length_pos_iff.2 hne) <| Tr.all_t (qfA (by omega) hv') <| Tr.all_t (qcI (by simp;omega)) <| Tr.all_t (qfg _) <| Tr.all_t (qcx _) <| Tr.all_f (qgW hone.1) ?_
   have hl:s.length=(s.drop 1).length+1:=by rw [List.length_drop];have:=List.length_pos_iff.2 hne;omega
   refine LDoes.into ?_ (key (s.length - 1) 1 ([34]++oneV v.toNat) (by omega) (by omega) ?_ (by simp;omega) hne)
   ·simp [Weak,mk,qdm,look,iAdd,qbD (n:=1) (by omega)]
   ·unfold symH
    conv=>rhs;rw [hs]
    simp [symB]
 ·cases hd
theorem qA5 (gl:Gl):SimP Tryz.prog gl 46 fun args=>(qzw args).run:=by
 refine SimP.of_tree (G:=ofL [(45,.pure F_Is),(76,.pure qKi)]) (L:=qKN) qat (qac (qOP gl) (qac (qMP gl) qag)) qah Tryz.func46 rfl (by rfl) (by kernel_rfl) (qi3 (r:=9) (c1:=qCp) (by kernel_rfl) ?_) ?_
 ·intro fr σ e fr' σ' hh;simp only [lps,qKN,if_true] at hh;exact qld (qHk gl) fr σ e fr' σ' hh
 intro args x h hr;unfold qzw at h
 split at h
 ·rename_i k n s;cases h
  refine Tr.run_as (.ite (bNot (isV k n s)) (.ret (.tup [.str [],.int .i64 10])) (.ite (iEq k 1) (.ite (iLt n 0) (.ite (qaE [45] (qjn (iAdd .u64 (qa2 .u64 (iSub .i64 0 (iAdd .i64 n 1))) 1))) (.ret (.tup [.str (sApp [45] (qjn (iAdd .u64 (qa2 .u64 (iSub .i64 0 (iAdd .i64 n 1))) 1))),.int .i64 0])) .fail) (.ret (.tup [.str (qjn (qa2 .u64 n)),.int .i64 0]))) (.ite (iEq 0 0) (.ite (iLe (sLen s) 256) (.ite (sEq s []) (.ite (qaI (qab (symH s)) [[.int .u8 34]] 1) (.ite (qaH [[.int .u8 34]] 1) (.ite (qaB (qab (symH s)) 1) (.ite (qdS (xApp (qab (symH s)) [[.int .u8 34]])) (.ret (.tup [.str (qcL (xApp (qab (symH s)) [[.int .u8 34]])),.int .i64 0])) .fail) .fail) .fail) .fail) (.ite (qaI (qab (symH s)) [[.int .u8 34]] 1) (.ite (qaH [[.int .u8 34]] 1) (.ite (qaB (qab (symH s)) 1) (.ite (nEq (nLen (symH s)) (nXs (qab (symH s)))) (.ite (qdS (xApp (qab (symH s)) [[.int .u8 34]])) (.ret (.tup [.str (qcL (xApp (qab (symH s)) [[.int .u8 34]])),.int .i64 0])) .fail) .fail) .fail) .fail) .fail)) .fail) .fail))) (by kernel_rfl) ?_
  have hc:=qRX hr 0 rfl;have hn:-9223372036854775808≤n∧n≤9223372036854775807:=qqJ hc 1 rfl;rw [qAn];cases hI:isV k n s with
  |false=>simp [qgA,hI]
  |true =>
   by_cases hk:k=1
   ·by_cases hneg:n < 0
    ·have e1:iAdd .i64 n 1=n+1:=qbD (by omega)
     have e2:iSub .i64 0 (n+1)=-(n+1):=by unfold iSub;rw [qbD (by omega)];omega
     have e3:qa2 .u64 (-(n+1))=-(n+1):=qgf (by omega)
     have e4:iAdd .u64 (-(n+1)) 1=-n:=by unfold iAdd;rw [qgf (by omega)];omega
     have e5:=qK8 (n:=-n) (by omega)
     have e6:1+(qjn (-n)).length≤maxLen:=by unfold maxLen;omega
     have e7:qaE [45] (qjn (-n))=true:=by simp;omega
     simp only [e1,e2,e3,e4,hk,hneg,Tr.run_ite,e7,if_true,qKH,Bool.not_true,Bool.false_eq_true,if_false,quc,qFt,decide_true,Tr.run_ret];subst hk;simp [qgA,hI,intV,hneg]
    ·have e1:qa2 .u64 n=n:=qgf (by omega)
     subst hk;simp [qgA,hI,intV,hneg,e1]
   ·have hs:s.length≤256:=by
     unfold isV at hI;simp [hk] at hI;exact hI.2.2
    have hB:=qxR s;have hH:(symH s).length=1+(symB s).length:=by simp [symH];omega
    have e1:xApp (qab (symH s)) [[.int .u8 34]]=qab (symV s):=by
     rw [qlk _ (by omega)]
     rfl
    have e2:qaI (qab (symH s)) [[.int .u8 34]] 1=true:=by simp;omega
    have e3:nEq (nLen (symH s)) (nXs (qab (symH s)))=true:=by simp
    have e4:qaH [[.int .u8 34]] 1=true:=rfl;have e5:iLe (sLen s) 256=true:=by simp;omega
    simp only [e1,e2,e3,e4,e5,Tr.run_ite,hk,qKH,Bool.not_true,Bool.false_eq_true,if_false,if_true,quc,decide_false,decide_true,qcx,qxT,qxv,Tr.run_ret];simp [qgA,hI,hk]
 ·cases h
end Go.Pv
set_option maxHeartbeats 4000000
set_option maxRecDepth 200000
set_option linter.unusedSimpArgs false
set_option linter.unusedVariables false
namespace Go.Pv
open Go Go.Proofs Go.RowKit
def VarIs (gl:Gl) (name:String) (cs:Array Value):Prop:=∃ g T f,Tryz.prog.globalNamed name=some g∧gl g=some (.cells cs T f)
structure GlPow (gl:Gl):Prop where
 pow : VarIs gl "internal/strconv.uint64pow10" (Lib.pow10Tab.map fun z => Value.int .u64 z).toArray
structure GlOk (gl:Gl):Prop extends GlPow gl where
 syn : ∃ tp p, VarIs gl "strconv.ErrSyntax" #[.iface tp p]
 rng : ∃ tp p, VarIs gl "strconv.ErrRange" #[.iface tp p]
theorem VarIs.var {gl:Gl} {name:String} {cs:Array Value} (h:VarIs gl name cs) {w:World} (hw:∀ b o,gl b=some o→w.heap[b]?=some o):w.var? Tryz.prog name=some cs:=by
 obtain⟨g,T,f,h1,h2⟩:=h;simp [World.var?,h1,hw g _ h2]
theorem GlPow.dr {gl:Gl} (h:GlPow gl) (w w':World):Dr gl w w':=fun hg=>by
 obtain⟨g,T,f,_,h2⟩:=h.pow;rw [hg g] at h2;cases h2
def qJo (n:Int):List UInt8:=Lib.itoa n
def qnK:List PV→Tr PV
 |[.int .i64 n,.int .i64 b]=>Tr.chk (iEq b 10) (.ret (.str (qJo n)))
 |_=>.fail
theorem qyj {gl:Gl} (hgl:GlPow gl):SimP Tryz.prog gl 114 fun args=>(qnK args).run:=by
 refine⟨⟨_,Tryz.func114,by rfl,by rfl⟩,?_⟩
 intro args x hx H w vs hB hob htk hw hrel;unfold qnK at hx;split at hx
 ·rename_i n b;obtain⟨h1,h2⟩:=Tr.chk_some hx;cases h2
  simp at h1;subst h1;cases hrel with
  |cons _ v _ vs hv hvs =>
   cases hvs with
   |cons _ v2 _ vs hv2 hvs =>
    cases hvs
    cases hv with
    |int _ _ hwf =>
     cases hv2
     simp [Lit.wf,IntKind.min,IntKind.max,IntKind.signed,IntKind.bits] at hwf;refine (Tryz.strconv_FormatInt_10 n hwf.1 (by omega) w (hgl.pow.var hw)).mono ?_
     rintro e w' ⟨rfl,k,os,rfl⟩;refine⟨_,rfl,⟨Lib.below_grow _ _ (Nat.le_refl _) k os,hgl.dr _ _⟩,.str _ ?_⟩;have:=Lib.itoa_length_le n hwf.1 (by omega)
     show (Lib.itoa n).length≤maxLen
     unfold maxLen;omega
 ·cases hx
def pOk (s:qU):Bool:=match Lib.parseIntB 64 s with
 |.ok _=>true
 |_=>false
def pVal (s:qU):Int:=match Lib.parseIntB 64 s with
 |.ok v=>v
 |.range=>Lib.intSat 64 s
 |_=>0
def qhX (s:qU):Bool:=decide (s.length≤281474976710656)
def qqI:List PV→Tr PV
 |[.str s,.int .i64 b,.int .i64 k]=>Tr.chk (iEq b 10) (Tr.chk (iEq k 64) (Tr.chk (qhX s) (.ite (pOk s) (.ret (.tup [.int .i64 (pVal s),.nili])) (.ret (.tup [.int .i64 (pVal s),.iface 237 .top])))))
 |_=>.fail
theorem qIM (s:qU):(Lit.int .i64 (pVal s)).wf=true:=by
 have key:-9223372036854775808≤pVal s∧pVal s≤9223372036854775807:=by
  unfold pVal;split
  ·rename_i v hv;have h:=Lib.parseIntB_bounds hv;have e:((2 ^ (64 - 1):Nat):Int)=9223372036854775808:=by decide
   rw [e] at h
   omega
  ·unfold Lib.intSat;split
   ·have e:-(((2 ^ (64 - 1):Nat)):Int)=-9223372036854775808:=by decide
    rw [e];omega
   ·have e:(((2 ^ (64 - 1) - 1:Nat)):Int)=9223372036854775807:=by decide
    rw [e];omega
  ·omega
 simp [Lit.wf,IntKind.min,IntKind.max,IntKind.signed,IntKind.bits];omega
theorem qzM {gl:Gl} (hgl:GlOk gl):SimP Tryz.prog gl 176 fun args=>(qqI args).run:=by
 refine⟨⟨_,Tryz.func176,by rfl,by rfl⟩,?_⟩
 intro args x hx H w vs hB hob htk hw hrel;unfold qqI at hx;split at hx
 ·rename_i s b k;obtain⟨h1,h2⟩:=Tr.chk_some hx;obtain⟨h3,h4⟩:=Tr.chk_some h2;obtain⟨h5,h6⟩:=Tr.chk_some h4;simp at h1 h3;simp [qhX] at h5;subst h1 h3;have hwf:=qIM s;cases hrel with
  |cons _ v _ vs hv hvs =>
   cases hvs with
   |cons _ v2 _ vs hv2 hvs =>
    cases hvs with
    |cons _ v3 _ vs hv3 hvs =>
     cases hvs
     cases hv2;cases hv3
     cases hv with
     |str _ hl =>
      have hsz:(ByteArray.mk s.toArray).size=s.length:=by simp [ByteArray.size]
      cases hp:Lib.parseIntB 64 s with
      |ok n =>
       have e1:pOk s=true:=by simp [pOk,hp]
       have e2:pVal s=n:=by simp [pVal,hp]
       rw [e2] at hwf;simp [e1,e2] at h6;subst h6;refine (Any.strconv_ParseInt_10_at64_ok Tryz.laysC174 ⟨s.toArray⟩ (by rw [hsz];omega) n hp w).mono ?_
       rintro e w' ⟨rfl,hw'⟩;refine⟨_,rfl,⟨?_,hgl.dr _ _⟩,.tup _ _ (.cons _ _ _ _ (.int _ _ hwf) (.cons _ _ _ _ .nili .nil))⟩;rcases hw' with rfl|⟨t,rfl⟩
       ·exact Below.refl _ _
       ·exact⟨rfl,rfl,rfl,by rw [Lib.bytesWorld_size];omega,fun k hk=>Lib.bytesWorld_at_old w _ _ k hk⟩
      |range =>
       have e1:pOk s=false:=by simp [pOk,hp]
       have e2:pVal s=Lib.intSat 64 s:=by simp [pVal,hp]
       simp [e1,e2] at h6;rw [e2] at hwf;subst h6;obtain⟨tp,p,hv⟩:=hgl.rng;refine (Any.strconv_ParseInt_10_at64_range_var Tryz.laysC174 ⟨s.toArray⟩ (by rw [hsz];omega) hp tp p w (hv.var hw)).mono ?_
       rintro e w' ⟨N,rfl,h1,h2,h3⟩;exact⟨_,rfl,⟨h3,hgl.dr _ _⟩,.tup _ _ (.cons _ _ _ _ (.int _ _ hwf) (.cons _ _ _ _ (.iface _ _ _ (.top _)) .nil))⟩
      |_ =>
       have e1:pOk s=false:=by simp [pOk,hp]
       have e2:pVal s=0:=by simp [pVal,hp]
       rw [e2] at hwf;simp [e1,e2] at h6;subst h6;obtain⟨tp,p,hv⟩:=hgl.syn;refine (Any.strconv_ParseInt_10_at64_syntax_var Tryz.laysC174 ⟨s.toArray⟩ (by rw [hsz];omega) hp tp p w (hv.var hw)).mono ?_
       rintro e w' ⟨N,rfl,h1,h2,h3⟩;exact⟨_,rfl,⟨h3,hgl.dr _ _⟩,.tup _ _ (.cons _ _ _ _ (.int _ _ hwf) (.cons _ _ _ _ (.iface _ _ _ (.top _)) .nil))⟩
 ·cases hx
end Go.Pv
set_option maxHeartbeats 4000000
set_option maxRecDepth 200000
set_option linter.unusedSimpArgs false
set_option linter.unusedVariables false
namespace Go.Pv
open Go Go.Proofs Go.Shelf Go.RowKit
variable {P : Program} {ρ : Ren} {gl : Gl}
theorem qBh {w:World} {b off:Nat} {cs:Array Value} {T:TypeId} {fz:Nat×Nat} (h:w.heap[b]?=some (.cells cs T fz)) (v:Value):w.setCell ⟨b,off,none⟩ v=w.setRow b (cs.setIfInBounds off v):=by
 unfold World.setCell World.setRow
 congr 1
 apply Array.ext_getElem?;intro i;rw [Array.getElem?_modify,Array.getElem?_modify];by_cases hi:b=i
 ·subst hi;rw [if_pos rfl,if_pos rfl,h];rfl
 ·rw [if_neg hi,if_neg hi]
theorem qH2 {w:World} {b n:Nat} {cs:Array Value} {T:TypeId} {fz:Nat×Nat} (h:w.heap[b]?=some (.cells cs T fz)):∃ fz',(w.freeze ⟨b,0,none⟩ n).heap[b]?=some (.cells cs T fz'):=by
 unfold World.freeze;split
 ·exact⟨fz,h⟩
 ·obtain⟨lo,hi⟩:=fz;exact⟨_,by simp only [Array.getElem?_modify,if_true,h];rfl⟩
theorem qzK (w:World) (b n k:Nat) (h:k≠b):(w.freeze ⟨b,0,none⟩ n).heap[k]?=w.heap[k]?:=by
 unfold World.freeze;split
 ·rfl
 ·simp only [Array.getElem?_modify];rw [if_neg (fun e=>h e.symm)]
theorem qBj (w:World) (b n:Nat):(w.freeze ⟨b,0,none⟩ n).heap.size=w.heap.size:=by
 unfold World.freeze;split
 ·rfl
 ·simp
theorem qBq (w:World) (b n:Nat):(w.freeze ⟨b,0,none⟩ n).os=w.os∧(w.freeze ⟨b,0,none⟩ n).tape=w.tape∧(w.freeze ⟨b,0,none⟩ n).output=w.output:=by
 unfold World.freeze;split<;>exact⟨rfl,rfl,rfl⟩
theorem qAa (w:World) (b n:Nat):(w.drew.freeze ⟨b,0,none⟩ n).drawn=w.drew.drawn:=by
 unfold World.freeze;split<;>rfl
def qhi (T:TypeId):List PV→Store→Tr (PV×Store)
 |[.ptr 1 0],⟨[o,[.nilp,q]],tk,[t0,t1]⟩=>Tr.chk (t1 == T) (.ret (.tup [],⟨[o,[.ptr 1 0,q]],tk,[t0,t1]⟩))
 |[.ptr 1 0],⟨[o,[.ptr 1 0,q]],tk,[t0,t1]⟩=>.ret (.tup [],⟨[o,[.ptr 1 0,q]],tk,[t0,t1]⟩)
 |_,_=>.fail
theorem qBM {H:Gh} {w:World} {args:List Value} {id off:Nat} (h:RelL H w [.ptr id off] args):∃ b,H.ob[id]?=some b∧args=[.pointer (some ⟨b,off,none⟩)]:=by
 cases h with
 |cons _ v _ vs hv hvs =>
  cases hvs
  cases hv with
  |ptr _ _ b hb=>exact⟨b,hb,rfl⟩
theorem qrd {f:FuncId} {TB:TypeId} (hTB:TB < qic) (hfresh:∀ (b:Nat) (w:World),w.cell? ⟨b,0,none⟩=some (.pointer none)→w.shape? b=some (TB,2)→w.frozen? ⟨b,0,none⟩=false→Calls P f #[.pointer (some ⟨b,0,none⟩)] w fun e w'=>e=.returned (.tuple #[])∧w'=w.setCell ⟨b,0,none⟩ (.pointer (some ⟨b,0,none⟩)))
  (hused:∀ (b:Nat) (w:World),w.cell? ⟨b,0,none⟩=some (.pointer (some ⟨b,0,none⟩))→Calls P f #[.pointer (some ⟨b,0,none⟩)] w fun e w'=>e=.returned (.tuple #[])∧w'=w)
  (hent : ∃ fn, P.funcs[f]? = some fn ∧ (fn.name == "runtime.NumGoroutine") = false ∧ fn.body.isNone = false) : SimS P gl f fun args σ => (qhi TB args σ).run := by
 refine⟨hent,?_⟩;intro args σ x σ' hx H w vs hok hrel;unfold qhi at hx;split at hx
 ·rename_i o q tk t0 t1;obtain⟨h1,h2⟩:=Tr.chk_some hx;cases h2
  have h1:t1=TB:=by simpa using h1
  subst h1;obtain⟨b,hb,rfl⟩:=qBM hrel;obtain⟨hB,us,ext,T,hheap,hus⟩:=hok.obj 1 b _ hb rfl;obtain⟨cs,hcs,hsz⟩:=hok.ty 1 b _ _ hb rfl rfl hTB;rw [hheap] at hcs;simp only [Option.some.injEq,Obj.cells.injEq] at hcs;obtain⟨rfl,rfl,_⟩:=hcs;have hul:=hus.len;have hext:ext=[]:=by
   apply List.eq_nil_of_length_eq_zero;simp at hsz hul;omega
  subst hext;cases hus with
  |cons _ u0 _ us hu0 hus =>
   cases hu0
   cases hus with
   |cons _ u1 _ us hu1 hus =>
    cases hus
    refine (hfresh b w (by rw [Lib.cell_of_heap hheap];rfl) (by simp [World.shape?,hheap]) (by rw [Lib.frozen_of_heap hheap 0])).mono ?_
    rintro e w' ⟨rfl,rfl⟩;rw [qBh hheap];have hset:=qCS (cs':=[.ptr 1 0,q]) (vs':=[.pointer (some ⟨b,0,none⟩),u1]) hok hb hheap (.cons _ _ _ _ (.ptr _ _ _ hb) (.cons _ _ _ _ hu1 .nil)) (fun c0 hc0=>by cases hc0;exact⟨rfl,rfl⟩)
    exact⟨_,rfl,H,hset.1,hset.2,.tup _ _ .nil⟩
 ·rename_i o q tk t0 t1;cases hx
  obtain⟨b,hb,rfl⟩:=qBM hrel;obtain⟨hB,us,ext,T,hheap,hus⟩:=hok.obj 1 b _ hb rfl;cases hus with
  |cons _ u0 _ us hu0 hus =>
   have hu0':u0=.pointer (some ⟨b,0,none⟩):=by
    cases hu0 with
    |ptr _ _ b' hb' =>
     rw [hb] at hb';cases hb'
     rfl
   subst hu0';refine (hused b w (by rw [Lib.cell_of_heap hheap];rfl)).mono ?_
   rintro e w' ⟨rfl,rfl⟩;exact⟨_,rfl,.same hok (.tup _ _ .nil)⟩
 ·cases hx
def qsc (T:TypeId):List PV→Store→Tr (PV×Store)
 |[.ptr 1 0],⟨[o,[p,.sl xs (.tok 0)]],[(v,1,e)],ty⟩=>Tr.chk (qdS xs) (Tr.chk (bNot (xNil xs)) (Tr.chk (nEq v (nXs xs)) (Tr.chk (e == T) (.ret (.str (qcL xs),⟨[o,[p,.sl xs (.tok 0)]],[(maxLen+1,1,e)],ty⟩)))))
 |_,_=>.fail
set_option maxRecDepth 100000 in
theorem Any.Builder_String_at (L : Lays.n169 P ρ) (X : Builder.Extra P ρ) (b g cap : Nat) (l : List UInt8) (w : World) (p : Value) (cs cur : Array Value) (T : TypeId) (fz : Nat × Nat)
    (hbk : w.cell? ⟨b, 1, none⟩ = some (.slice (some ⟨g, 0, none⟩) l.length cap)) (hg : w.heap[g]? = some (.cells cur (ρ.t 5) fz)) (hnc : l.length ≤ cap) (hcm : cap ≤ maxLen) (hcs : cur.size = cap)
    (hcell : ∀ j x, l[j]? = some x → w.cell? ((⟨g, 0, none⟩ : Addr).add j) = some (.int .u8 x.toNat)) (h0 : l ≠ []) :
    Calls P (ρ.f 169) #[.pointer (some ⟨b, 0, none⟩)] w fun e w' => e = .returned (.string ⟨l.toArray⟩) ∧ w' = w.drew.freeze ⟨g, 0, none⟩ l.length := by
  have hl0 : l.length ≠ 0 := by simpa using h0
  have c1 : w.drew.cell? ⟨b, 1, none⟩ = some (.slice (some ⟨g, 0, none⟩) l.length cap) := hbk
  have hSD : (Builtin.unsafeSliceData_ #[(ρ.t 37)] (ρ.t 127) #[.slice (some ⟨g, 0, none⟩) l.length cap]).run P w.drew = .ok (.pointer (some ⟨g, 0, none⟩)) w.drew :=
    Lib.run_unsafeSliceData_row _ _ _ _ _ _ (by omega)
  have hUS : (Builtin.unsafeString_ #[(ρ.t 127), (ρ.t 3)] (ρ.t 9) #[.pointer (some ⟨g, 0, none⟩), .int .i64 l.length]).run P w.drew = .ok (.string ⟨l.toArray⟩) (w.drew.freeze ⟨g, 0, none⟩ l.length) := by
    refine Lib.run_unsafeString_row w.drew (ρ.t 127) (ρ.t 3) (ρ.t 9) (ρ.t 5) L.t127 X.cellsByte g cur.size (by have hg' : w.drew.heap[g]? = some (.cells cur (ρ.t 5) fz) := hg; simp [World.shape?, hg']) l h0 (by omega) (by unfold maxLen at hcm; omega) ?_
    intro j x hx
    exact hcell j x hx
  have mixed := L.mixed
  have t72 := L.t72; have a72 := L.a72; have z72 := L.z72; have v72 := L.v72; have u72 := run_underlying L.t72
  have t70 := L.t70; have a70 := L.a70; have z70 := L.z70; have v70 := L.v70; have u70 := run_underlying L.t70
  have t37 := L.t37; have a37 := L.a37; have z37 := L.z37; have v37 := L.v37; have u37 := run_underlying L.t37
  have t127 := L.t127; have a127 := L.a127; have z127 := L.z127; have v127 := L.v127; have u127 := run_underlying L.t127
  have t3 := L.t3; have a3 := L.a3; have z3 := L.z3; have v3 := L.v3; have u3 := run_underlying L.t3
  have t9 := L.t9; have a9 := L.a9; have z9 := L.z9; have v9 := L.v9; have u9 := run_underlying L.t9
  have t5 := X.t5; have a5 := X.a5; have z5 := X.z5; have v5 := X.v5; have u5 := run_underlying X.t5
  go_enter L.f169, Body.n169_ntmps ρ
  go_wp2
  go_region_o
  all_goals (go_wp2; go_ret; exact ⟨rfl, rfl⟩)
theorem Any.sim_String (L : Lays.n169 P ρ) (X : Builder.Extra P ρ) (hent : ∃ fn, P.funcs[ρ.f 169]? = some fn ∧ (fn.name == "runtime.NumGoroutine") = false ∧ fn.body.isNone = false) : SimS P gl (ρ.f 169) fun args σ => (qsc (ρ.t 5) args σ).run := by
 refine⟨hent,?_⟩;intro args σ x σ' hx H w vs hok hrel;unfold qsc at hx;split at hx
 ·rename_i o p xs v e ty;obtain⟨h1,q1⟩:=Tr.chk_some hx;obtain⟨h2,q2⟩:=Tr.chk_some q1;obtain⟨h3,q3⟩:=Tr.chk_some q2;obtain⟨h4,q4⟩:=Tr.chk_some q3;clear hx q1 q2 q3;have h4:e=ρ.t 5:=by simpa using h4
  subst h4;simp at h2 h3;subst h3;cases q4
  unfold qdS qcL at *;cases hl:pbytes xs with
  |none=>simp [hl] at h1
  |some l =>
   obtain⟨b,hb,rfl⟩:=qBM hrel;obtain⟨hB,us,ext,T,hheap,hus⟩:=hok.obj 1 b _ hb rfl;cases hus with
   |cons _ u0 _ us hu0 hus =>
    cases hus with
    |cons _ u1 _ us hu1 hus =>
     cases hus
     cases hu1 with
     |sl a len cap k _ vss _ hlen hcap hm hrr hrow htag =>
      obtain⟨ns,rfl,rfl⟩:=quZ hl;have hvs:=qwe hrr;subst hvs;obtain⟨U,hU,hUnz,hle,hUv⟩:=htag;have hUs:(U.ver,U.k,U.e)=(len,1,ρ.t 5):=by
       have hh:=hok.tkl;have:(H.tk.map fun T=>(T.ver,T.k,T.e))[0]?=some (U.ver,U.k,U.e):=by rw [List.getElem?_map,hU];rfl
       rw [hh] at this;simp at this;rw [← this.1,← this.2.1,← this.2.2];simp [← hlen]
      simp only [Prod.mk.injEq] at hUs;obtain⟨hUver,hUk,hUe⟩:=hUs;have hU0:U.ver≠0:=by
       rw [hUver];intro h0;apply h2;have:ns=[]:=List.eq_nil_of_length_eq_zero (by simpa [h0] using hlen)
       simp [this]
      obtain⟨rfl,hcapU,hkU⟩:=(hUv hUver.symm).2 hU0;obtain⟨hBT,hTob,ob,hcur,hTO⟩:=hok.tok 0 U hU (fun hh=>hU0 hh.1)
      obtain⟨cur,fz,rfl,hvc,hcm,hcs⟩:∃ cur fz,ob=.cells cur U.e fz∧(U.ver≤maxLen→fz=(0,0)∧U.ver≤U.cap)∧U.cap≤maxLen∧cur.size=U.cap * U.k:=by
       rcases hTO with⟨_,hc⟩|⟨hz,_⟩
       ·exact hc
       ·exact absurd hz hUnz
      have hln:(ns.map fun n=>UInt8.ofNat n.toNat).length=len:=by simpa using hlen
      have hk1:k=1:=by rw [hkU,hUk]
      subst hk1;have hln:ns.length=len:=by simpa using hlen
      have hwf:∀ (j:Nat) (n:Int),ns[j]?=some n→0≤n∧n < 256:=by
       intro j n hj;have:=(qed.1 hrr).2 j [.int .u8 n] [.int .u8 n] (by simp [hj]) (by simp [hj])
       cases this with
       |cons _ _ _ _ hv _ =>
        cases hv with
        |int _ _ hwf=>simp [Lit.wf,IntKind.min,IntKind.max,IntKind.signed,IntKind.bits] at hwf;omega
      have hll:(ns.map fun n=>UInt8.ofNat n.toNat).length=len:=by simpa using hln
      refine (Any.Builder_String_at L X b U.blk cap (ns.map fun n=>UInt8.ofNat n.toNat) w u0 #[] cur T fz (by rw [hll,Lib.cell_of_heap hheap];rfl) (by rw [← hUe];exact hcur) (by rw [hll];exact hcap) hm (by rw [hcs,hUk,hcapU,Nat.mul_one]) ?_ ?_).mono ?_
      ·intro j x hj;rw [List.getElem?_map] at hj;cases hn:ns[j]? with
       |none=>simp [hn] at hj
       |some n =>
        simp [hn] at hj;subst hj;have hb:=hwf j n hn;obtain⟨hk,a',ha',hcell⟩:=hrow j [.int .u8 n] (by simp [hn])
        injection ha' with ha'
        subst ha';have:=(hcell 0 _ rfl).2;rw [Nat.mul_one,qqp,Nat.add_zero] at this;rw [this];simp;omega
      ·intro hnil;apply h2;simpa using hnil
      ·rintro e w' ⟨rfl,rfl⟩;rw [hll];have hcur':w.drew.heap[U.blk]?=some (.cells cur U.e fz):=hcur;obtain⟨fz',hfz'⟩:=qH2 (n:=len) hcur';have hrest:=qBq w.drew U.blk len;have hset:=qE2 (T':=⟨U.blk,maxLen+1,U.cap,U.k,U.e⟩) (w':=w.drew.freeze ⟨U.blk,0,none⟩ len) hok hU hU0 hUnz rfl (by show U.ver < maxLen+1;omega) hcm (fun _=>by rw [qAa];exact Nat.le_succ _) hrest.1 hrest.2.1 hrest.2.2 (by rw [qBj];exact Nat.le_refl _) (.inl rfl)
        (fun k _ hk=>qzK w.drew U.blk len k hk) (fz':=fz') (by intro h;simp at h;omega) hcur hfz' hcs (fun _ off _=>rfl)
       refine⟨_,rfl,_,hset.1,?_,?_⟩
       ·have:=hset.2;simpa [hUk,hUe] using this
       ·exact .str (List.map (fun n=>UInt8.ofNat n.toNat) ns) (by simp;omega)
 ·cases hx
end Go.Pv
set_option maxHeartbeats 4000000
set_option maxRecDepth 200000
set_option linter.unusedSimpArgs false
set_option linter.unusedVariables false
namespace Go.Pv
open Go Go.Proofs Go.RowKit
section
variable (b : Nat) (w : World)
theorem qvV (h0:w.cell? ⟨b,0,none⟩=some (.pointer (some ⟨b,0,none⟩))):Calls Tryz.prog 138 #[.pointer (some ⟨b,0,none⟩)] w fun e w'=>e=.returned (.tuple #[])∧w'=w:=by
 obtain⟨j,hj,_⟩:∃ j,Tryz.prog.info? 163=some j∧j.size=2:=⟨_,rfl,rfl⟩;have mixed:Tryz.prog.follows .mixedOrders=true:=qah;have t72:=Tryz.underlying163;have a72:=Tryz.isAgg163;have z72:=Tryz.sizeOf163;have v72:=Tryz.zeroValue163;have u72:=run_underlying Tryz.underlying163;have t70:=Tryz.underlying161;have a70:=Tryz.isAgg161;have z70:=Tryz.sizeOf161;have v70:=Tryz.zeroValue161;have u70:=run_underlying Tryz.underlying161;have t164:=Tryz.underlying206;have a164:=Tryz.isAgg206;have z164:=Tryz.sizeOf206;have v164:=Tryz.zeroValue206;have u164:=run_underlying Tryz.underlying206
 go_enter Tryz.func138,Tryz.ntmps138
 go_wp2
 rw [Lib.run_neq_ptr_same w _ t70 hj]
 go_wp2
 go_end0
 exact⟨rfl,rfl⟩
theorem qtT (h0:w.cell? ⟨b,0,none⟩=some (.pointer none)) (hsh:w.shape? b=some (163,2)) (hfz:w.frozen? ⟨b,0,none⟩=false) :
  Calls Tryz.prog 138 #[.pointer (some ⟨b,0,none⟩)] w fun e w'=>e=.returned (.tuple #[])∧w'=w.setCell ⟨b,0,none⟩ (.pointer (some ⟨b,0,none⟩)):=by
 obtain⟨j,hj,hjs⟩:∃ j,Tryz.prog.info? 163=some j∧j.size=2:=⟨_,rfl,rfl⟩;have mixed:Tryz.prog.follows .mixedOrders=true:=qah;have t72:=Tryz.underlying163;have a72:=Tryz.isAgg163;have z72:=Tryz.sizeOf163;have v72:=Tryz.zeroValue163;have u72:=run_underlying Tryz.underlying163;have t70:=Tryz.underlying161;have a70:=Tryz.isAgg161;have z70:=Tryz.sizeOf161;have v70:=Tryz.zeroValue161;have u70:=run_underlying Tryz.underlying161;have t164:=Tryz.underlying206;have a164:=Tryz.isAgg206;have z164:=Tryz.sizeOf206;have v164:=Tryz.zeroValue206;have u164:=run_underlying Tryz.underlying206
 go_enter Tryz.func138,Tryz.ntmps138
 go_wp2
 rw [Lib.run_to_unsafe w ⟨b,0,none⟩ t70 t164 hj (by rw [hjs];decide) hsh (Nat.zero_lt_succ 1)]
 simp only [Result.andThen];rw [Oper.upon_value]
 go_wp2
 rw [run_callFunc_extern Tryz.func152 (by kernel_rfl) (by kernel_rfl) (by kernel_rfl) (e:=Extern.AbiNoEscape.same) (by kernel_rfl)]
 rw [Lib.run_noEscape];simp only [Result.andThen];rw [Oper.upon_value]
 go_wp2
 rw [Lib.run_from_unsafe w ⟨b,0,none⟩ t164 t70 hj hsh (by kernel_rfl)]
 simp only [Result.andThen];rw [Oper.upon_value]
 go_wp2
 go_end0
 exact⟨rfl,rfl⟩
end
theorem qoc (gl:Gl):SimS Tryz.prog gl 138 fun args σ=>(qhi 163 args σ).run :=
 qrd (by decide) (fun b w=>qtT b w) (fun b w=>qvV b w) ⟨_,Tryz.func138,by rfl,by rfl⟩
theorem sim_String (gl:Gl):SimS Tryz.prog gl 118 fun args σ=>(qsc 5 args σ).run :=
 Any.sim_String Tryz.lays169 Tryz.Builder_Extra_169 ⟨_,Tryz.func118,by rfl,by rfl⟩
def D_WB:List PV→Store→Tr (PV×Store)
 |[.ptr 1 0,.int .u8 c],⟨[o,[.nilp,.sl [] .full]],[],[t0,163]⟩=>.ret (.nili,⟨[o,[.ptr 1 0,.sl [[.int .u8 c]] (.tok 0)]],[(1,1,5)],[t0,163]⟩)
 |[.ptr 1 0,.int .u8 c],⟨[o,[.ptr 1 0,.sl xs (.tok 0)]],[(v,1,5)],[t0,163]⟩=>Tr.chk (qaI xs [[.int .u8 c]] 1) (Tr.chk (qaB xs 1) (Tr.chk (nEq v (nXs xs))
  (.ret (.nili,⟨[o,[.ptr 1 0,.sl (xApp xs [[.int .u8 c]]) (.tok 0)]],[(nXs (xApp xs [[.int .u8 c]]),1,5)],[t0,163]⟩))))
 |_,_=>.fail
theorem qTS (gl:Gl):SimS Tryz.prog gl 115 fun args σ=>(D_WB args σ).run:=by
 refine SimS.of_tree (G:=ofL [(138,.store (qhi 163))]) (L:=fun _ _ _=>.fail) qat (qgb (qoc gl) qag) qah Tryz.func115 rfl (by rfl) (by kernel_rfl) (qae (by kernel_rfl)) ?_
 intro args σ x σ' h hr;unfold D_WB at h
 split at h
 ·rename_i c o t0;cases h
  refine Tr.run_as (.ite true (.ite (qaI [] [[.int .u8 c]] 1) (.ite (qaH [[.int .u8 c]] 1) (.ite (qaB [] 1) (.ret (.nili,Store.mk [o,[.ptr 1 0,.sl (xApp [] [[.int .u8 c]]) (.tok 0)]] [(nXs (xApp [] [[.int .u8 c]]),1,5)] [t0,163])) .fail) .fail) .fail) .fail) (by kernel_rfl) ?_
  simp [one]
 ·rename_i c o xs v t0;obtain⟨h1,q1⟩:=Tr.chk_some h;obtain⟨h2,q2⟩:=Tr.chk_some q1;obtain⟨h3,q3⟩:=Tr.chk_some q2;cases q3
  refine Tr.run_as (.ite (qaI xs [[.int .u8 c]] 1) (.ite (qaH [[.int .u8 c]] 1) (.ite (qaB xs 1) (.ite (nEq v (nXs xs)) (.ret (.nili,Store.mk [o,[.ptr 1 0,.sl (xApp xs [[.int .u8 c]]) (.tok 0)]] [(nXs (xApp xs [[.int .u8 c]]),1,5)] [t0,163])) .fail) .fail) .fail) .fail) (by kernel_rfl) ?_
  simp at h1 h2 h3;simp [h1,h2,h3,one]
 ·cases h
def D_WS:List PV→Store→Tr (PV×Store)
 |[.ptr 1 0,.str l],⟨[o,[.ptr 1 0,.sl xs (.tok 0)]],[(v,1,5)],[t0,163]⟩=>Tr.chk (bNot (xNil (qab l))) (Tr.chk (qaI xs (qab l) 1) (Tr.chk (qaB xs 1) (Tr.chk (nEq v (nXs xs))
  (.ret (.tup [.int .i64 (sLen l),.nili],⟨[o,[.ptr 1 0,.sl (xApp xs (qab l)) (.tok 0)]],[(nXs (xApp xs (qab l)),1,5)],[t0,163]⟩)))))
 |_,_=>.fail
theorem qT0 (gl:Gl):SimS Tryz.prog gl 116 fun args σ=>(D_WS args σ).run:=by
 refine SimS.of_tree (G:=ofL [(138,.store (qhi 163))]) (L:=fun _ _ _=>.fail) qat (qgb (qoc gl) qag) qah Tryz.func116 rfl (by rfl) (by kernel_rfl) (qae (by kernel_rfl)) ?_
 intro args σ x σ' h hr;unfold D_WS at h
 split at h
 ·rename_i l o xs v t0;obtain⟨h0,q0⟩:=Tr.chk_some h;obtain⟨h1,q1⟩:=Tr.chk_some q0;obtain⟨h2,q2⟩:=Tr.chk_some q1;obtain⟨h3,q3⟩:=Tr.chk_some q2;cases q3
  refine Tr.run_as (.ite (qaI xs (qab l) 1) (.ite (qaH (qab l) 1) (.ite (qaB xs 1) (.ite (xNil (qab l)) (.ret (.tup [.int .i64 (sLen l),.nili],Store.mk [o,[.ptr 1 0,.sl xs (.tok 0)]] [(v,1,5)] [t0,163])) (.ite (nEq v (nXs xs)) (.ret (.tup [.int .i64 (sLen l),.nili],Store.mk [o,[.ptr 1 0,.sl (xApp xs (qab l)) (.tok 0)]] [(nXs (xApp xs (qab l)),1,5)] [t0,163])) .fail)) .fail) .fail) .fail) (by kernel_rfl) ?_
  simp at h0 h1 h2 h3;simp [h0,h1,h2,h3]
 ·cases h
def qfY (k n:Int) (s:qU):List UInt8:=if isV k n s=true then (if k=1 then qJo n else symV s) else []
def qEq:List PV→Tr PV
 |[.agg [.int .i64 k,.int .i64 n,.str s]]=>.ret (.tup [.str (qfY k n s),.int .i64 (qbU k n s)])
 |_=>.fail
def qKC:List PV→Store→Option (Int×Int×List UInt8×Int×Int)
 |[.ptr 0 0,.ptr 1 0,.int .i64 m,.int .i64 i],⟨[[.int .i64 k,.int .i64 n,.str s],[.ptr 1 0,.sl [[.int .u8 34]] (.tok 0)]],[(1,1,5)],[25,163]⟩=>some (k,n,s,m,i)
 |_,_=>none
def qy3 (k n:Int) (s:qU) (b:qU):Store:=⟨[[.int .i64 k,.int .i64 n,.str s],[.ptr 1 0,.sl (qab b) (.tok 0)]],[(nLen b,1,5)],[25,163]⟩
def qO1:Int×Int×List UInt8×Int×Int→Tr (PExit×List (Nat×PV)×Store)
 |(k,n,s,m,i)=>Tr.chk (iEq i 0) (Tr.chk (iEq m (sLen s)) (Tr.chk (iLe (sLen s) 256) (.ret (.exit 0,[(1,.ptr 0 0),(5,.ptr 1 0)],⟨[[.int .i64 k,.int .i64 n,.str s],[.ptr 1 0,.sl (qab (symH s)) (.tok 0)]],[(nLen (symH s),1,5)],[25,163]⟩))))
def qO0:LpsT:=fun r fr σ=>if r=9 then oracle 34 [1,5,21,22] qKC qO1 fr σ else .fail
def qIF:Code:=qHI Tryz.f75 0
theorem qIK (gl:Gl):∀ vs σ a e out σ',qKC vs σ=some a→(qO1 a).run=some (e,out,σ')→LDoes Tryz.prog gl qIF (mk 34 ([1,5,21,22].zip vs)) σ e (mk 34 out) σ':=by
 intro vs st a e out σ' hd hr;unfold qKC at hd;split at hd
 ·rename_i m i k n s;cases hd
  obtain⟨h1,h2⟩:=Tr.chk_some hr;obtain⟨h3,h4⟩:=Tr.chk_some h2;obtain⟨h5,h6⟩:=Tr.chk_some h4;simp at h1 h3 h5;subst h1 h3;clear hr h2 h4;cases h6
  have hG:qaU Tryz.prog gl (gam (ofL [(117,.pure qQv),(116,.store D_WS)])):=qac (qPh gl) (qgb (qT0 gl) qag);have key:∀ (m:Nat) (i:Int) (b:qU),0≤i→i+m=s.length→b++symB (s.drop i.toNat)=symH s→b.length≤1+4 * i.toNat →
    LDoes Tryz.prog gl qIF (mk 34 ([1,5,21,22].zip [.ptr 0 0,.ptr 1 0,.int .i64 (sLen s),.int .i64 i])) (qy3 k n s b) (.exit 0) (mk 34 [(1,.ptr 0 0),(5,.ptr 1 0)]) (qy3 k n s (symH s)):=by
   intro m
   induction m with
   |zero =>
    intro i b h0 hi hf hb;have e1:s.drop i.toNat=[]:=by apply List.drop_eq_nil_of_le;omega
    rw [e1] at hf;simp [symB] at hf;subst hf;unfold qy3;refine LDoes.round qat hG qah (L:=fun _ _ _=>.fail) (qae (by kernel_rfl)) (by kernel_rfl) ?_
    refine Tr.all_as (.ite (iLt i (sLen s)) (.ite (qaR s i) (.ite (bNot (xNil (qab (oneV (sAt s i))))) (.ite (qaI (qab (symH s)) (qab (oneV (sAt s i))) 1) (.ite (qaB (qab (symH s)) 1) (.ite (nEq (nLen (symH s)) (nXs (qab (symH s)))) (.ret (.normal,[23],[.top,.ptr 0 0,.top,.top,.top,.ptr 1 0,.int .i64 i,.top,.top,.top,.top,.top,.top,.top,.top,.top,.top,.top,.top,.top,.top,.int .i64 (sLen s),.int .i64 (iAdd .i64 i 1),.bool true,.int .i64 i,.ptr 0 2,.str s,.int .i64 i,.int .u8 (sAt s i),.str (oneV (sAt s i)),.tup [.int .i64 (sLen (oneV (sAt s i))),.nili],.int .i64 (iAdd .i64 i 1),.top,.top],Store.mk [[.int .i64 k,.int .i64 n,.str s],[.ptr 1 0,.sl (xApp (qab (symH s)) (qab (oneV (sAt s i)))) (.tok 0)]] [(nXs (xApp (qab (symH s)) (qab (oneV (sAt s i)))),1,5)] [25,163])) .fail) .fail) .fail) .fail) .fail) (.ret (.exit 0,[23],[.top,.ptr 0 0,.top,.top,.top,.ptr 1 0,.top,.top,.top,.top,.top,.top,.top,.top,.top,.top,.top,.top,.top,.top,.top,.int .i64 (sLen s),.int .i64 i,.bool false,.top,.top,.top,.top,.top,.top,.top,.top,.top,.top],Store.mk [[.int .i64 k,.int .i64 n,.str s],[.ptr 1 0,.sl (qab (symH s)) (.tok 0)]] [(nLen (symH s),1,5)] [25,163]))) (by kernel_rfl) ?_
    exact Tr.all_f (by simp;omega) ⟨rfl,by simp [Weak,mk,qdm,look],rfl⟩
   |succ m ih =>
    intro i b h0 hi hf hb;obtain⟨v,hv⟩:=qgH (l:=s) (i:=i.toNat) (by omega)
    rw [qbP hv] at hf;have hone:=qsL v.toNat;have e2:(i+1).toNat=i.toNat+1:=by omega
    unfold qy3;refine LDoes.round qat hG qah (L:=fun _ _ _=>.fail) (qae (by kernel_rfl)) (by kernel_rfl) ?_
    refine Tr.all_as (.ite (iLt i (sLen s)) (.ite (qaR s i) (.ite (bNot (xNil (qab (oneV (sAt s i))))) (.ite (qaI (qab b) (qab (oneV (sAt s i))) 1) (.ite (qaB (qab b) 1) (.ite (nEq (nLen b) (nXs (qab b))) (.ret (.normal,[23],[.top,.ptr 0 0,.top,.top,.top,.ptr 1 0,.int .i64 i,.top,.top,.top,.top,.top,.top,.top,.top,.top,.top,.top,.top,.top,.top,.int .i64 (sLen s),.int .i64 (iAdd .i64 i 1),.bool true,.int .i64 i,.ptr 0 2,.str s,.int .i64 i,.int .u8 (sAt s i),.str (oneV (sAt s i)),.tup [.int .i64 (sLen (oneV (sAt s i))),.nili],.int .i64 (iAdd .i64 i 1),.top,.top],Store.mk [[.int .i64 k,.int .i64 n,.str s],[.ptr 1 0,.sl (xApp (qab b) (qab (oneV (sAt s i)))) (.tok 0)]] [(nXs (xApp (qab b) (qab (oneV (sAt s i)))),1,5)] [25,163])) .fail) .fail) .fail) .fail) .fail) (.ret (.exit 0,[23],[.top,.ptr 0 0,.top,.top,.top,.ptr 1 0,.top,.top,.top,.top,.top,.top,.top,.top,.top,.top,.top,.top,.top,.top,.top,.int .i64 (sLen s),.int .i64 i,.bool false,.top,.top,.top,.top,.top,.top,.top,.top,.top,.top],Store.mk [[.int .i64 k,.int .i64 n,.str s],[.ptr 1 0,.sl (qab b) (.tok 0)]] [(nLen b,1,5)] [25,163]))) (by kernel_rfl) ?_
    rw [qhR hv,qeD,qfn,qfn];refine Tr.all_t (by simp;omega) <| Tr.all_t (qfA h0 hv) <| Tr.all_t (by rw [qgW hone.1];rfl) <| Tr.all_t (qcI (by omega)) <| Tr.all_t (qcx _) <| Tr.all_t (by simp) ?_
    refine LDoes.into ?_ (ih (i+1) (b++oneV v.toNat) (by omega) (by omega) (by rw [← hf,e2];simp [symB]) (by simp;omega))
    simp [Weak,mk,qdm,look,iAdd,qbD (n:=i+1) (by omega)]
  have hz:=key s.length 0 [34] (by omega) (by omega) (by simp [symH]) (by simp)
  exact hz
 ·cases hd
theorem qEu {gl:Gl} (hgl:GlPow gl):SimP Tryz.prog gl 75 fun args=>(qEq args).run:=by
 refine SimP.of_tree (G:=ofL [(113,.pure qDk),(114,.pure qnK),(115,.store D_WB),(118,.store (qsc 5))]) (L:=qO0) qat (qac (qI9 gl) (qac (qyj hgl) (qgb (qTS gl) (qgb (sim_String gl) qag)))) qah Tryz.func75 rfl (by rfl) (by kernel_rfl) (qi3 (r:=9) (c1:=qIF) (by kernel_rfl) ?_) ?_
 ·intro fr σ e fr' σ' hh;simp only [lps,qO0,if_true] at hh;exact qld (qIK gl) fr σ e fr' σ' hh
 intro args x h hr;unfold qEq at h
 split at h
 ·rename_i k n s;cases h
  refine Tr.run_as (.ite (iNe (qbU k n s) 0) (.ret (.tup [.str [],.int .i64 (qbU k n s)])) (.ite (iEq k 1) (.ite (iEq 10 10) (.ret (.tup [.str (qJo n),.int .i64 0])) .fail) (.ite (iEq 0 0) (.ite (iEq (sLen s) (sLen s)) (.ite (iLe (sLen s) 256) (.ite (qaI (qab (symH s)) [[.int .u8 34]] 1) (.ite (qaB (qab (symH s)) 1) (.ite (nEq (nLen (symH s)) (nXs (qab (symH s)))) (.ite (qdS (xApp (qab (symH s)) [[.int .u8 34]])) (.ite (bNot (xNil (xApp (qab (symH s)) [[.int .u8 34]]))) (.ite (nEq (nXs (xApp (qab (symH s)) [[.int .u8 34]])) (nXs (xApp (qab (symH s)) [[.int .u8 34]]))) (.ite true (.ret (.tup [.str (qcL (xApp (qab (symH s)) [[.int .u8 34]])),.int .i64 0])) .fail) .fail) .fail) .fail) .fail) .fail) .fail) .fail) .fail) .fail))) (by kernel_rfl) ?_
  rw [qAn];cases hI:isV k n s with
  |false=>simp [qfY,hI]
  |true =>
   by_cases hk:k=1
   ·subst hk;simp [qfY,hI]
   ·have h2:s.length≤256:=by
     unfold isV at hI;simp at hI;omega
    have e3:([[PV.int .u8 34]]:List (List PV))=qab [34]:=rfl;have hs:=qxR s;have hl:(symH s).length=1+(symB s).length:=by simp [symH];omega
    have e4:qaI (qab (symH s)) (qab [34]) 1=true:=qcI (by simp;omega)
    have e5:symV s=symH s++[34]:=by simp [symV,symH]
    have e6:¬ (symH s++[34]=[]):=by simp
    rw [e3];simp [qfY,hI,hk,qeD,e4,e5,qfn,-qJH,-qkV];exact⟨by omega,by simp [qab]⟩
 ·cases h
end Go.Pv
set_option maxHeartbeats 4000000
set_option maxRecDepth 200000
set_option linter.unusedSimpArgs false
set_option linter.unusedVariables false
namespace Go.Pv
open Go Go.Proofs Go.RowKit
theorem qf8 {c k:UInt8} (h:c≠k):iEq (c.toNat:Int) (k.toNat:Int)=false:=by
 simp only [quc,decide_eq_false_iff_not];intro e;exact h (UInt8.toNat_inj.1 (by omega))
theorem qjl {c k:UInt8} (h:c=k):iEq (c.toNat:Int) (k.toNat:Int)=true:=by
 subst h;simp
theorem qRY (s:qU) (n:Int):0≤sAt s n∧sAt s n < 256:=by
 have:=(s.getD n.toNat 0).toNat_lt;simp only [qOS];omega
theorem qOC:∀ (l:qU) (c i:Int),0≤i→i+l.length≤16→0≤dv l c i∧dv l c i≤16
 |[],c,i,h,hl=>by simp [dv]
 |b::l,c,i,h,hl=>by
  have:=qOC l c (i+1) (by omega) (by simp at hl;omega)
  unfold dv;split
  ·simp at hl;omega
  ·exact this
theorem qF3 (c:Int):0≤digV c∧digV c≤16:=qOC hexL c 0 (by omega) (by decide)
theorem qMR {a b:Int} (ha:0≤a∧a≤16) (hb:0≤b∧b≤16):0≤iOr .u8 (iShl .u8 a 4) b∧iOr .u8 (iShl .u8 a 4) b < 256:=by
 have key:∀ (x y:Fin 17),0≤iOr .u8 (iShl .u8 (x.val:Int) 4) (y.val:Int)∧iOr .u8 (iShl .u8 (x.val:Int) 4) (y.val:Int) < 256:=by decide +kernel
 have:=key ⟨a.toNat,by omega⟩ ⟨b.toNat,by omega⟩
 have e1:((a.toNat:Nat):Int)=a:=by omega
 have e2:((b.toNat:Nat):Int)=b:=by omega
 rwa [e1,e2] at this
theorem qFE (s:qU):0≤escB s∧escB s < 256:=by
 have h1:=qRY s 0;have h2:=qMR (qF3 (sAt s 1)) (qF3 (sAt s 2));unfold escB
 repeat' split
 all_goals first|exact h1|exact h2|omega
theorem qFu (s:qU):0≤escN s∧escN s≤s.length:=by
 unfold escN;by_cases h:s=[]
 ·simp [h]
 ·have:=List.length_pos_iff.2 h
  repeat' split
  all_goals omega
def decP (s:qU):Option (List UInt8):=match s with
 |[]=>some []
 |c::t=>if c=92 then (if escN t=0 then none else (decP (t.drop (escN t).toNat)).map (UInt8.ofNat (escB t).toNat::·)) else (decP t).map (c::·)
 termination_by s.length
 decreasing_by all_goals (simp;try omega)
def qt6 (s:qU):Bool:=(decP s).isSome
def decV (s:qU):List UInt8:=(decP s).getD []
def decL (s:qU):Nat:=match s with
 |[]=>0
 |c::t=>if c=92 then (if escN t=0 then 0 else decL (t.drop (escN t).toNat)+1) else decL t+1
 termination_by s.length
 decreasing_by all_goals (simp;try omega)
def badL (s:qU):Nat:=decL s
def qyg:List PV→Tr PV
 |[.str s]=>Tr.chk (qnS s) (.ite (qt6 s) (.ret (.tup [.sl (qab (decV s)) .non,.bool true])) (.ret (.tup [.sl [] .non,.bool false])))
 |_=>.fail
def qyv:List PV→Store→Option (List UInt8)
 |[.str s,.sl [] .full],⟨[],[],[]⟩=>some s
 |_,_=>none
def qEU:qU→Tr (PExit×List (Nat×PV)×Store)
 |s=>Tr.chk (qnS s) (.ite (qt6 s) (.ite (sEq (decV s) []) (.ret (.exit 0,[(4,.sl [] .full)],⟨[],[],[]⟩)) (.ret (.exit 0,[(4,.sl (qab (decV s)) (.tok 0))],⟨[],[(nLen (decV s),1,5)],[]⟩))) (.ite (nEq (badL s) 0) (.ret (.ret,[(2,.sl [] .full),(3,.bool false)],⟨[],[],[]⟩)) (.ret (.ret,[(2,.sl [] .full),(3,.bool false)],⟨[],[(badL s,1,5)],[]⟩))))
def qEs:LpsT:=fun r fr σ=>if r=2 then oracle 32 [0,4] qyv qEU fr σ else .fail
def qsb:Code:=qHI Tryz.f175 0
theorem qDD (gl : Gl) : ∀ vs σ a e out σ', qyv vs σ = some a → (qEU a).run = some (e, out, σ') → LDoes Tryz.prog gl qsb (mk 32 ([0, 4].zip vs)) σ e (mk 32 out) σ' := by
  intro vs st a e out σ' hd hr
  unfold qyv at hd
  split at hd
  · rename_i s
    injection hd with hd
    subst hd
    obtain ⟨hlen, hr⟩ := Tr.chk_some hr
    simp at hlen
    have hG : qaU Tryz.prog gl (gam (ofL [(178, .pure qsR)])) := qac (qwp gl) qag
    have key : ∀ (k : Nat) (b s : List UInt8), s.length ≤ k → b ≠ [] → b.length + s.length ≤ 140737488355328 →
       (match decP s with
        | some x => (PExit.exit 0, [(4, PV.sl (qab (b ++ x)) (.tok 0))], (⟨[], [(nLen (b ++ x), 1, 5)], []⟩ : Store))
        | none => (.ret, [(2, .sl [] .full), (3, .bool false)], ⟨[], [(b.length + decL s, 1, 5)], []⟩)) = (e, out, σ') →
       LDoes Tryz.prog gl qsb (mk 32 ([0, 4].zip [.str s, .sl (qab b) (.tok 0)])) ⟨[], [(nLen b, 1, 5)], []⟩ e (mk 32 out) σ' := by
      intro k
      have base : ∀ (b : List UInt8), b ≠ [] → (PExit.exit 0, [(4, PV.sl (qab b) (.tok 0))], (⟨[], [(nLen b, 1, 5)], []⟩ : Store)) = (e, out, σ') →
         LDoes Tryz.prog gl qsb (mk 32 ([0, 4].zip [.str [], .sl (qab b) (.tok 0)])) ⟨[], [(nLen b, 1, 5)], []⟩ e (mk 32 out) σ' := by
        intro b hb h
        cases h
        refine LDoes.round qat hG qah (L := fun _ _ _ => .fail) (qae (by kernel_rfl)) (by kernel_rfl) ?_
        refine Tr.all_as (.ite (sNe [] []) (.ite (qaR [] 0) (.ite (qaQ (qav 1) true (nNat 1) (nLen []) (nLen [])) (.ite (iEq (sAt [] 0) 92) (.ite (iEq (escN (sSub [] (nNat 1) (nLen []))) 0) (.ret (.ret,[3,2,22,15,9],[.str (sSub [] (nNat 1) (nLen [])),.top,.sl [] .full,.bool false,.sl (qab b) (.tok 0),.int .u8 (sAt [] 0),.int .u8 (escB (sSub [] (nNat 1) (nLen []))),.int .i64 (escN (sSub [] (nNat 1) (nLen []))),.str [],.bool true,.str [],.int .u8 (sAt [] 0),.str [],.str (sSub [] (nNat 1) (nLen [])),.int .u8 (sAt [] 0),.bool true,.tup [.int .u8 (escB (sSub [] (nNat 1) (nLen []))),.int .i64 (escN (sSub [] (nNat 1) (nLen [])))],.str (sSub [] (nNat 1) (nLen [])),.tup [.int .u8 (escB (sSub [] (nNat 1) (nLen []))),.int .i64 (escN (sSub [] (nNat 1) (nLen [])))],.int .u8 (escB (sSub [] (nNat 1) (nLen []))),.int .i64 (escN (sSub [] (nNat 1) (nLen []))),.int .i64 (escN (sSub [] (nNat 1) (nLen []))),.bool true,.top,.top,.top,.top,.top,.top,.top,.top,.top],Store.mk [] [(nLen b,1,5)] [])) (.ite (qaQ (qav (escN (sSub [] (nNat 1) (nLen [])))) true (nNat (escN (sSub [] (nNat 1) (nLen [])))) (nLen (sSub [] (nNat 1) (nLen []))) (nLen (sSub [] (nNat 1) (nLen [])))) (.ite (qaI (qab b) [[.int .u8 (escB (sSub [] (nNat 1) (nLen [])))]] 1) (.ite (qaH [[.int .u8 (escB (sSub [] (nNat 1) (nLen [])))]] 1) (.ite (qaB (qab b) 1) (.ite (nEq (nLen b) (nXs (qab b))) (.ret (.normal,[29,22,15,9],[.str (sSub (sSub [] (nNat 1) (nLen [])) (nNat (escN (sSub [] (nNat 1) (nLen [])))) (nLen (sSub [] (nNat 1)
          (nLen [])))),.top,.top,.top,.sl (xApp (qab b) [[.int .u8 (escB (sSub [] (nNat 1) (nLen [])))]]) (.tok 0),.int .u8 (escB (sSub [] (nNat 1) (nLen []))),.int .u8 (escB (sSub [] (nNat 1) (nLen []))),.int .i64 (escN (sSub [] (nNat 1) (nLen []))),.str [],.bool true,.str [],.int .u8 (sAt [] 0),.str [],.str (sSub [] (nNat 1) (nLen [])),.int .u8 (sAt [] 0),.bool true,.tup [.int .u8 (escB (sSub [] (nNat 1) (nLen []))),.int .i64 (escN (sSub [] (nNat 1) (nLen [])))],.str (sSub [] (nNat 1) (nLen [])),.tup [.int .u8 (escB (sSub [] (nNat 1) (nLen []))),.int .i64 (escN (sSub [] (nNat 1) (nLen [])))],.int .u8 (escB (sSub [] (nNat 1) (nLen []))),.int .i64 (escN (sSub [] (nNat 1) (nLen []))),.int .i64 (escN (sSub [] (nNat 1) (nLen []))),.bool false,.int .u8 (escB (sSub [] (nNat 1) (nLen []))),.str (sSub [] (nNat 1) (nLen [])),.int .i64 (escN (sSub [] (nNat 1) (nLen []))),.str (sSub (sSub [] (nNat 1) (nLen [])) (nNat (escN (sSub [] (nNat 1) (nLen [])))) (nLen (sSub [] (nNat 1) (nLen [])))),.sl (qab b) (.tok 0),.int .u8 (escB (sSub [] (nNat 1) (nLen []))),.sl [[.int .u8 (escB (sSub [] (nNat 1) (nLen [])))]] .full,.sl (xApp (qab b) [[.int .u8 (escB (sSub [] (nNat 1) (nLen [])))]]) (.tok 0),.top],Store.mk [] [(nXs (xApp (qab b) [[.int .u8 (escB (sSub [] (nNat 1) (nLen [])))]]),1,5)] [])) .fail) .fail) .fail) .fail) .fail)) (.ite (qaI (qab b) [[.int .u8 (sAt [] 0)]] 1) (.ite (qaH [[.int .u8 (sAt [] 0)]] 1) (.ite (qaB (qab b) 1) (.ite (nEq (nLen b) (nXs (qab b)))
          (.ret (.normal,[29,15,9],[.str (sSub [] (nNat 1) (nLen [])),.top,.top,.top,.sl (xApp (qab b) [[.int .u8 (sAt [] 0)]]) (.tok 0),.int .u8 (sAt [] 0),.top,.top,.str [],.bool true,.str [],.int .u8 (sAt [] 0),.str [],.str (sSub [] (nNat 1) (nLen [])),.int .u8 (sAt [] 0),.bool false,.top,.top,.top,.top,.top,.top,.top,.top,.top,.top,.top,.sl (qab b) (.tok 0),.int .u8 (sAt [] 0),.sl [[.int .u8 (sAt [] 0)]] .full,.sl (xApp (qab b) [[.int .u8 (sAt [] 0)]]) (.tok 0),.top],Store.mk [] [(nXs (xApp (qab b) [[.int .u8 (sAt [] 0)]]),1,5)] [])) .fail) .fail) .fail) .fail)) .fail) .fail) (.ret (.exit 0,[9],[.str [],.top,.top,.top,.sl (qab b) (.tok 0),.top,.top,.top,.str [],.bool false,.top,.top,.top,.top,.top,.top,.top,.top,.top,.top,.top,.top,.top,.top,.top,.top,.top,.top,.top,.top,.top,.top],Store.mk [] [(nLen b,1,5)] []))) (by kernel_rfl) ?_
        exact ⟨fun h => by simp at h, fun h => ⟨rfl, by simp [Weak, mk, qdm, look], rfl⟩⟩
      induction k with
      | zero =>
        intro b s hk hb hbs h
        have : s = [] := by apply List.eq_nil_of_length_eq_zero; omega
        subst this
        simp [decP] at h
        exact base b hb (by simpa using h)
      | succ k ih =>
        intro b s hk hb hbs h
        cases s with
        | nil =>
          simp [decP] at h
          exact base b hb (by simpa using h)
        | cons c t =>
          have e0 : sAt (c :: t) 0 = c.toNat := by simp
          have e1 : sSub (c :: t) (nNat 1) (nLen (c :: t)) = t := by simp
          have hc := c.toNat_lt
          have e7 := qFu t
          have e8 := qFE t
          simp at hk hbs
          rw [decP, decL] at h
          refine LDoes.round qat hG qah (L := fun _ _ _ => .fail) (qae (by kernel_rfl)) (by kernel_rfl) ?_
          refine Tr.all_as (.ite (sNe (c :: t) []) (.ite (qaR (c :: t) 0) (.ite (qaQ (qav 1) true (nNat 1) (nLen (c :: t)) (nLen (c :: t))) (.ite (iEq (sAt (c :: t) 0) 92) (.ite (iEq (escN (sSub (c :: t) (nNat 1) (nLen (c :: t)))) 0) (.ret (.ret,[3,2,22,15,9],[.str (sSub (c :: t) (nNat 1) (nLen (c :: t))),.top,.sl [] .full,.bool false,.sl (qab b) (.tok 0),.int .u8 (sAt (c :: t) 0),.int .u8 (escB (sSub (c :: t) (nNat 1) (nLen (c :: t)))),.int .i64 (escN (sSub (c :: t) (nNat 1) (nLen (c :: t)))),.str (c :: t),.bool true,.str (c :: t),.int .u8 (sAt (c :: t) 0),.str (c :: t),.str (sSub (c :: t) (nNat 1) (nLen (c :: t))),.int .u8 (sAt (c :: t) 0),.bool true,.tup [.int .u8 (escB (sSub (c :: t) (nNat 1) (nLen (c :: t)))),.int .i64 (escN (sSub (c :: t) (nNat 1) (nLen (c :: t))))],.str (sSub (c :: t) (nNat 1) (nLen (c :: t))),.tup [.int .u8 (escB (sSub (c :: t) (nNat 1) (nLen (c :: t)))),.int .i64 (escN (sSub (c :: t) (nNat 1) (nLen (c :: t))))],.int .u8 (escB (sSub (c :: t) (nNat 1) (nLen (c :: t)))),.int .i64 (escN (sSub (c :: t) (nNat 1) (nLen (c :: t)))),.int .i64 (escN (sSub (c :: t) (nNat 1) (nLen (c :: t)))),.bool true,.top,.top,.top,.top,.top,.top,.top,.top,.top],Store.mk [] [(nLen b,1,5)] [])) (.ite (qaQ (qav (escN (sSub (c :: t) (nNat 1) (nLen (c :: t))))) true (nNat (escN (sSub (c :: t) (nNat 1) (nLen (c :: t))))) (nLen (sSub (c :: t) (nNat 1) (nLen (c :: t)))) (nLen (sSub (c :: t) (nNat 1) (nLen (c :: t))))) (.ite (qaI (qab b) [[.int .u8 (escB (sSub (c :: t) (nNat 1) (nLen (c ::
            t))))]] 1) (.ite (qaH [[.int .u8 (escB (sSub (c :: t) (nNat 1) (nLen (c :: t))))]] 1) (.ite (qaB (qab b) 1) (.ite (nEq (nLen b) (nXs (qab b))) (.ret (.normal,[29,22,15,9],[.str (sSub (sSub (c :: t) (nNat 1) (nLen (c :: t))) (nNat (escN (sSub (c :: t) (nNat 1) (nLen (c :: t))))) (nLen (sSub (c :: t) (nNat 1) (nLen (c :: t))))),.top,.top,.top,.sl (xApp (qab b) [[.int .u8 (escB (sSub (c :: t) (nNat 1) (nLen (c :: t))))]]) (.tok 0),.int .u8 (escB (sSub (c :: t) (nNat 1) (nLen (c :: t)))),.int .u8 (escB (sSub (c :: t) (nNat 1) (nLen (c :: t)))),.int .i64 (escN (sSub (c :: t) (nNat 1) (nLen (c :: t)))),.str (c :: t),.bool true,.str (c :: t),.int .u8 (sAt (c :: t) 0),.str (c :: t),.str (sSub (c :: t) (nNat 1) (nLen (c :: t))),.int .u8 (sAt (c :: t) 0),.bool true,.tup [.int .u8 (escB (sSub (c :: t) (nNat 1) (nLen (c :: t)))),.int .i64 (escN (sSub (c :: t) (nNat 1) (nLen (c :: t))))],.str (sSub (c :: t) (nNat 1) (nLen (c :: t))),.tup [.int .u8 (escB (sSub (c :: t) (nNat 1) (nLen (c :: t)))),.int .i64 (escN (sSub (c :: t) (nNat 1) (nLen (c :: t))))],.int .u8 (escB (sSub (c :: t) (nNat 1) (nLen (c :: t)))),.int .i64 (escN (sSub (c :: t) (nNat 1) (nLen (c :: t)))),.int .i64 (escN (sSub (c :: t) (nNat 1) (nLen (c :: t)))),.bool false,.int .u8 (escB (sSub (c :: t) (nNat 1) (nLen (c :: t)))),.str (sSub (c :: t) (nNat 1) (nLen (c :: t))),.int .i64 (escN (sSub (c :: t) (nNat 1) (nLen (c :: t)))),.str (sSub (sSub (c :: t) (nNat 1) (nLen (c :: t))) (nNat (escN (sSub (c :: t)
            (nNat 1) (nLen (c :: t))))) (nLen (sSub (c :: t) (nNat 1) (nLen (c :: t))))),.sl (qab b) (.tok 0),.int .u8 (escB (sSub (c :: t) (nNat 1) (nLen (c :: t)))),.sl [[.int .u8 (escB (sSub (c :: t) (nNat 1) (nLen (c :: t))))]] .full,.sl (xApp (qab b) [[.int .u8 (escB (sSub (c :: t) (nNat 1) (nLen (c :: t))))]]) (.tok 0),.top],Store.mk [] [(nXs (xApp (qab b) [[.int .u8 (escB (sSub (c :: t) (nNat 1) (nLen (c :: t))))]]),1,5)] [])) .fail) .fail) .fail) .fail) .fail)) (.ite (qaI (qab b) [[.int .u8 (sAt (c :: t) 0)]] 1) (.ite (qaH [[.int .u8 (sAt (c :: t) 0)]] 1) (.ite (qaB (qab b) 1) (.ite (nEq (nLen b) (nXs (qab b))) (.ret (.normal,[29,15,9],[.str (sSub (c :: t) (nNat 1) (nLen (c :: t))),.top,.top,.top,.sl (xApp (qab b) [[.int .u8 (sAt (c :: t) 0)]]) (.tok 0),.int .u8 (sAt (c :: t) 0),.top,.top,.str (c :: t),.bool true,.str (c :: t),.int .u8 (sAt (c :: t) 0),.str (c :: t),.str (sSub (c :: t) (nNat 1) (nLen (c :: t))),.int .u8 (sAt (c :: t) 0),.bool false,.top,.top,.top,.top,.top,.top,.top,.top,.top,.top,.top,.sl (qab b) (.tok 0),.int .u8 (sAt (c :: t) 0),.sl [[.int .u8 (sAt (c :: t) 0)]] .full,.sl (xApp (qab b) [[.int .u8 (sAt (c :: t) 0)]]) (.tok 0),.top],Store.mk [] [(nXs (xApp (qab b) [[.int .u8 (sAt (c :: t) 0)]]),1,5)] [])) .fail) .fail) .fail) .fail)) .fail) .fail) (.ret (.exit 0,[9],[.str (c :: t),.top,.top,.top,.sl (qab b) (.tok 0),.top,.top,.top,.str (c :: t),.bool
            false,.top,.top,.top,.top,.top,.top,.top,.top,.top,.top,.top,.top,.top,.top,.top,.top,.top,.top,.top,.top,.top,.top],Store.mk [] [(nLen b,1,5)] []))) (by kernel_rfl) ?_
          rw [e1, e0, qlk b (n := (c.toNat : Int)) (by omega), qlk b e8, Int.toNat_natCast, UInt8.ofNat_toNat]
          simp only [qfn]
          refine Tr.all_t (by simp) <| Tr.all_t (by simp) <| Tr.all_t (by simp) ?_
          by_cases h92 : c = 92
          · subst h92
            refine Tr.all_t (by simp) ?_
            by_cases hn : escN t = 0
            · simp [hn] at h
              obtain ⟨rfl, rfl, rfl⟩ := h
              exact Tr.all_t (by simp [hn]) ⟨rfl, by simp [Weak, mk, qdm, look], rfl⟩
            · refine Tr.all_f (by simp [hn]) <| Tr.all_t (by simp; omega) <| Tr.all_t (by simp; omega) <| Tr.all_t (by simp [one]) <| Tr.all_t (qcx _) <| Tr.all_t (by simp) ?_
              refine LDoes.into ?_ (ih (b ++ [UInt8.ofNat (escB t).toNat]) (t.drop (escN t).toNat) (by simp; omega) (by simp) (by simp; omega) ?_)
              · simp [Weak, mk, qdm, look]
              · simp [hn] at h
                rw [← h]
                cases hd : decP (t.drop (escN t).toNat) with
                | none => simp; omega
                | some x => simp
          · refine Tr.all_f (qf8 (k := 92) h92) <| Tr.all_t (by simp; omega) <| Tr.all_t (by simp [one]) <| Tr.all_t (qcx _) <| Tr.all_t (by simp) ?_
            refine LDoes.into ?_ (ih (b ++ [c]) t (by omega) (by simp) (by simp; omega) ?_)
            · simp [Weak, mk, qdm, look]
            · simp [h92] at h
              rw [← h]
              cases hd : decP t with
              | none => simp; omega
              | some x => simp
    cases s with
    | nil =>
      simp [qt6, decV, decP] at hr
      obtain ⟨rfl, rfl, rfl⟩ := hr
      refine LDoes.round qat hG qah (L := fun _ _ _ => .fail) (qae (by kernel_rfl)) (by kernel_rfl) ?_
      refine Tr.all_as (.ite (sNe [] []) (.ite (qaR [] 0) (.ite (qaQ (qav 1) true (nNat 1) (nLen []) (nLen [])) (.ite (iEq (sAt [] 0) 92) (.ite (iEq (escN (sSub [] (nNat 1) (nLen []))) 0) (.ret (.ret,[3,2,22,15,9],[.str (sSub [] (nNat 1) (nLen [])),.top,.sl [] .full,.bool false,.sl [] .full,.int .u8 (sAt [] 0),.int .u8 (escB (sSub [] (nNat 1) (nLen []))),.int .i64 (escN (sSub [] (nNat 1) (nLen []))),.str [],.bool true,.str [],.int .u8 (sAt [] 0),.str [],.str (sSub [] (nNat 1) (nLen [])),.int .u8 (sAt [] 0),.bool true,.tup [.int .u8 (escB (sSub [] (nNat 1) (nLen []))),.int .i64 (escN (sSub [] (nNat 1) (nLen [])))],.str (sSub [] (nNat 1) (nLen [])),.tup [.int .u8 (escB (sSub [] (nNat 1) (nLen []))),.int .i64 (escN (sSub [] (nNat 1) (nLen [])))],.int .u8 (escB (sSub [] (nNat 1) (nLen []))),.int .i64 (escN (sSub [] (nNat 1) (nLen []))),.int .i64 (escN (sSub [] (nNat 1) (nLen []))),.bool true,.top,.top,.top,.top,.top,.top,.top,.top,.top],Store.mk [] [] [])) (.ite (qaQ (qav (escN (sSub [] (nNat 1) (nLen [])))) true (nNat (escN (sSub [] (nNat 1) (nLen [])))) (nLen (sSub [] (nNat 1) (nLen []))) (nLen (sSub [] (nNat 1) (nLen [])))) (.ite (qaI [] [[.int .u8 (escB (sSub [] (nNat 1) (nLen [])))]] 1) (.ite (qaH [[.int .u8 (escB (sSub [] (nNat 1) (nLen [])))]] 1) (.ite (qaB [] 1) (.ret (.normal,[29,22,15,9],[.str (sSub (sSub [] (nNat 1) (nLen [])) (nNat (escN (sSub [] (nNat 1) (nLen [])))) (nLen (sSub [] (nNat 1) (nLen [])))),.top,.top,.top,.sl (xApp [] [[.int .u8 (escB (sSub [] (nNat 1) (nLen
        [])))]]) (.tok 0),.int .u8 (escB (sSub [] (nNat 1) (nLen []))),.int .u8 (escB (sSub [] (nNat 1) (nLen []))),.int .i64 (escN (sSub [] (nNat 1) (nLen []))),.str [],.bool true,.str [],.int .u8 (sAt [] 0),.str [],.str (sSub [] (nNat 1) (nLen [])),.int .u8 (sAt [] 0),.bool true,.tup [.int .u8 (escB (sSub [] (nNat 1) (nLen []))),.int .i64 (escN (sSub [] (nNat 1) (nLen [])))],.str (sSub [] (nNat 1) (nLen [])),.tup [.int .u8 (escB (sSub [] (nNat 1) (nLen []))),.int .i64 (escN (sSub [] (nNat 1) (nLen [])))],.int .u8 (escB (sSub [] (nNat 1) (nLen []))),.int .i64 (escN (sSub [] (nNat 1) (nLen []))),.int .i64 (escN (sSub [] (nNat 1) (nLen []))),.bool false,.int .u8 (escB (sSub [] (nNat 1) (nLen []))),.str (sSub [] (nNat 1) (nLen [])),.int .i64 (escN (sSub [] (nNat 1) (nLen []))),.str (sSub (sSub [] (nNat 1) (nLen [])) (nNat (escN (sSub [] (nNat 1) (nLen [])))) (nLen (sSub [] (nNat 1) (nLen [])))),.sl [] .full,.int .u8 (escB (sSub [] (nNat 1) (nLen []))),.sl [[.int .u8 (escB (sSub [] (nNat 1) (nLen [])))]] .full,.sl (xApp [] [[.int .u8 (escB (sSub [] (nNat 1) (nLen [])))]]) (.tok 0),.top],Store.mk [] [(nXs (xApp [] [[.int .u8 (escB (sSub [] (nNat 1) (nLen [])))]]),1,5)] [])) .fail) .fail) .fail) .fail)) (.ite (qaI [] [[.int .u8 (sAt [] 0)]] 1) (.ite (qaH [[.int .u8 (sAt [] 0)]] 1) (.ite (qaB [] 1) (.ret (.normal,[29,15,9],[.str (sSub [] (nNat 1) (nLen [])),.top,.top,.top,.sl (xApp [] [[.int .u8 (sAt [] 0)]]) (.tok 0),.int .u8 (sAt [] 0),.top,.top,.str [],.bool true,.str [],.int
        .u8 (sAt [] 0),.str [],.str (sSub [] (nNat 1) (nLen [])),.int .u8 (sAt [] 0),.bool false,.top,.top,.top,.top,.top,.top,.top,.top,.top,.top,.top,.sl [] .full,.int .u8 (sAt [] 0),.sl [[.int .u8 (sAt [] 0)]] .full,.sl (xApp [] [[.int .u8 (sAt [] 0)]]) (.tok 0),.top],Store.mk [] [(nXs (xApp [] [[.int .u8 (sAt [] 0)]]),1,5)] [])) .fail) .fail) .fail)) .fail) .fail) (.ret (.exit 0,[9],[.str [],.top,.top,.top,.sl [] .full,.top,.top,.top,.str [],.bool false,.top,.top,.top,.top,.top,.top,.top,.top,.top,.top,.top,.top,.top,.top,.top,.top,.top,.top,.top,.top,.top,.top],Store.mk [] [] []))) (by kernel_rfl) ?_
      exact ⟨fun h => by simp at h, fun h => ⟨rfl, by simp [Weak, mk, qdm, look], rfl⟩⟩
    | cons c t =>
      have e0 : sAt (c :: t) 0 = c.toNat := by simp
      have e1 : sSub (c :: t) (nNat 1) (nLen (c :: t)) = t := by simp
      have hc := c.toNat_lt
      have e7 := qFu t
      have e8 := qFE t
      simp at hlen
      simp only [qt6, decV, badL] at hr
      rw [decP, decL] at hr
      have x1 : xApp [] [[.int .u8 (c.toNat : Int)]] = qab [c] := by simp [qab]
      have x2 : xApp [] [[.int .u8 (escB t)]] = qab [UInt8.ofNat (escB t).toNat] := qlk [] e8
      refine LDoes.round qat hG qah (L := fun _ _ _ => .fail) (qae (by kernel_rfl)) (by kernel_rfl) ?_
      refine Tr.all_as (.ite (sNe (c :: t) []) (.ite (qaR (c :: t) 0) (.ite (qaQ (qav 1) true (nNat 1) (nLen (c :: t)) (nLen (c :: t))) (.ite (iEq (sAt (c :: t) 0) 92) (.ite (iEq (escN (sSub (c :: t) (nNat 1) (nLen (c :: t)))) 0) (.ret (.ret,[3,2,22,15,9],[.str (sSub (c :: t) (nNat 1) (nLen (c :: t))),.top,.sl [] .full,.bool false,.sl [] .full,.int .u8 (sAt (c :: t) 0),.int .u8 (escB (sSub (c :: t) (nNat 1) (nLen (c :: t)))),.int .i64 (escN (sSub (c :: t) (nNat 1) (nLen (c :: t)))),.str (c :: t),.bool true,.str (c :: t),.int .u8 (sAt (c :: t) 0),.str (c :: t),.str (sSub (c :: t) (nNat 1) (nLen (c :: t))),.int .u8 (sAt (c :: t) 0),.bool true,.tup [.int .u8 (escB (sSub (c :: t) (nNat 1) (nLen (c :: t)))),.int .i64 (escN (sSub (c :: t) (nNat 1) (nLen (c :: t))))],.str (sSub (c :: t) (nNat 1) (nLen (c :: t))),.tup [.int .u8 (escB (sSub (c :: t) (nNat 1) (nLen (c :: t)))),.int .i64 (escN (sSub (c :: t) (nNat 1) (nLen (c :: t))))],.int .u8 (escB (sSub (c :: t) (nNat 1) (nLen (c :: t)))),.int .i64 (escN (sSub (c :: t) (nNat 1) (nLen (c :: t)))),.int .i64 (escN (sSub (c :: t) (nNat 1) (nLen (c :: t)))),.bool true,.top,.top,.top,.top,.top,.top,.top,.top,.top],Store.mk [] [] [])) (.ite (qaQ (qav (escN (sSub (c :: t) (nNat 1) (nLen (c :: t))))) true (nNat (escN (sSub (c :: t) (nNat 1) (nLen (c :: t))))) (nLen (sSub (c :: t) (nNat 1) (nLen (c :: t)))) (nLen (sSub (c :: t) (nNat 1) (nLen (c :: t))))) (.ite (qaI [] [[.int .u8 (escB (sSub (c :: t) (nNat 1) (nLen (c :: t))))]] 1) (.ite (qaH [[.int
        .u8 (escB (sSub (c :: t) (nNat 1) (nLen (c :: t))))]] 1) (.ite (qaB [] 1) (.ret (.normal,[29,22,15,9],[.str (sSub (sSub (c :: t) (nNat 1) (nLen (c :: t))) (nNat (escN (sSub (c :: t) (nNat 1) (nLen (c :: t))))) (nLen (sSub (c :: t) (nNat 1) (nLen (c :: t))))),.top,.top,.top,.sl (xApp [] [[.int .u8 (escB (sSub (c :: t) (nNat 1) (nLen (c :: t))))]]) (.tok 0),.int .u8 (escB (sSub (c :: t) (nNat 1) (nLen (c :: t)))),.int .u8 (escB (sSub (c :: t) (nNat 1) (nLen (c :: t)))),.int .i64 (escN (sSub (c :: t) (nNat 1) (nLen (c :: t)))),.str (c :: t),.bool true,.str (c :: t),.int .u8 (sAt (c :: t) 0),.str (c :: t),.str (sSub (c :: t) (nNat 1) (nLen (c :: t))),.int .u8 (sAt (c :: t) 0),.bool true,.tup [.int .u8 (escB (sSub (c :: t) (nNat 1) (nLen (c :: t)))),.int .i64 (escN (sSub (c :: t) (nNat 1) (nLen (c :: t))))],.str (sSub (c :: t) (nNat 1) (nLen (c :: t))),.tup [.int .u8 (escB (sSub (c :: t) (nNat 1) (nLen (c :: t)))),.int .i64 (escN (sSub (c :: t) (nNat 1) (nLen (c :: t))))],.int .u8 (escB (sSub (c :: t) (nNat 1) (nLen (c :: t)))),.int .i64 (escN (sSub (c :: t) (nNat 1) (nLen (c :: t)))),.int .i64 (escN (sSub (c :: t) (nNat 1) (nLen (c :: t)))),.bool false,.int .u8 (escB (sSub (c :: t) (nNat 1) (nLen (c :: t)))),.str (sSub (c :: t) (nNat 1) (nLen (c :: t))),.int .i64 (escN (sSub (c :: t) (nNat 1) (nLen (c :: t)))),.str (sSub (sSub (c :: t) (nNat 1) (nLen (c :: t))) (nNat (escN (sSub (c :: t) (nNat 1) (nLen (c :: t))))) (nLen (sSub (c :: t) (nNat 1) (nLen (c :: t))))),.sl []
        .full,.int .u8 (escB (sSub (c :: t) (nNat 1) (nLen (c :: t)))),.sl [[.int .u8 (escB (sSub (c :: t) (nNat 1) (nLen (c :: t))))]] .full,.sl (xApp [] [[.int .u8 (escB (sSub (c :: t) (nNat 1) (nLen (c :: t))))]]) (.tok 0),.top],Store.mk [] [(nXs (xApp [] [[.int .u8 (escB (sSub (c :: t) (nNat 1) (nLen (c :: t))))]]),1,5)] [])) .fail) .fail) .fail) .fail)) (.ite (qaI [] [[.int .u8 (sAt (c :: t) 0)]] 1) (.ite (qaH [[.int .u8 (sAt (c :: t) 0)]] 1) (.ite (qaB [] 1) (.ret (.normal,[29,15,9],[.str (sSub (c :: t) (nNat 1) (nLen (c :: t))),.top,.top,.top,.sl (xApp [] [[.int .u8 (sAt (c :: t) 0)]]) (.tok 0),.int .u8 (sAt (c :: t) 0),.top,.top,.str (c :: t),.bool true,.str (c :: t),.int .u8 (sAt (c :: t) 0),.str (c :: t),.str (sSub (c :: t) (nNat 1) (nLen (c :: t))),.int .u8 (sAt (c :: t) 0),.bool false,.top,.top,.top,.top,.top,.top,.top,.top,.top,.top,.top,.sl [] .full,.int .u8 (sAt (c :: t) 0),.sl [[.int .u8 (sAt (c :: t) 0)]] .full,.sl (xApp [] [[.int .u8 (sAt (c :: t) 0)]]) (.tok 0),.top],Store.mk [] [(nXs (xApp [] [[.int .u8 (sAt (c :: t) 0)]]),1,5)] [])) .fail) .fail) .fail)) .fail) .fail) (.ret (.exit 0,[9],[.str (c :: t),.top,.top,.top,.sl [] .full,.top,.top,.top,.str (c :: t),.bool false,.top,.top,.top,.top,.top,.top,.top,.top,.top,.top,.top,.top,.top,.top,.top,.top,.top,.top,.top,.top,.top,.top],Store.mk [] [] []))) (by kernel_rfl) ?_
      rw [e1, e0, x1, x2]
      simp only [qfn]
      refine Tr.all_t (by simp) <| Tr.all_t (by simp) <| Tr.all_t (by simp) ?_
      by_cases h92 : c = 92
      · subst h92
        refine Tr.all_t (by simp) ?_
        by_cases hn : escN t = 0
        · simp [hn] at hr
          obtain ⟨rfl, rfl, rfl⟩ := hr
          exact Tr.all_t (by simp [hn]) ⟨rfl, by simp [Weak, mk, qdm, look], rfl⟩
        · refine Tr.all_f (by simp [hn]) <| Tr.all_t (by simp; omega) <| Tr.all_t (by simp) <| Tr.all_t (by simp [one]) <| Tr.all_t (by simp) ?_
          refine LDoes.into ?_ (key t.length ([UInt8.ofNat (escB t).toNat]) (t.drop (escN t).toNat) (by simp) (by simp) (by simp; omega) ?_)
          · simp [Weak, mk, qdm, look]
          · cases hd : decP (t.drop (escN t).toNat) with
            | none =>
              simp [hn, hd] at hr ⊢
              rw [Nat.add_comm]
              exact hr
            | some x =>
              simp [hn, hd] at hr ⊢
              exact hr
      · refine Tr.all_f (qf8 (k := 92) h92) <| Tr.all_t (by simp) <| Tr.all_t (by simp [one]) <| Tr.all_t (by simp) ?_
        refine LDoes.into ?_ (key t.length [c] t (by omega) (by simp) (by simp; omega) ?_)
        · simp [Weak, mk, qdm, look]
        · cases hd : decP t with
          | none =>
            simp [h92, hd] at hr ⊢
            rw [Nat.add_comm]
            exact hr
          | some x =>
            simp [h92, hd] at hr ⊢
            exact hr
  · cases hd
theorem qGM (gl:Gl):SimP Tryz.prog gl 175 fun args=>(qyg args).run:=by
 refine SimP.of_tree (G:=ofL [(178,.pure qsR)]) (L:=qEs) qat (qac (qwp gl) qag) qah Tryz.func175 rfl (by rfl) (by kernel_rfl) (qi3 (r:=2) (c1:=qsb) (by kernel_rfl) ?_) ?_
 ·intro fr σ e fr' σ' hh;simp only [lps,qEs,if_true] at hh;exact qld (qDD gl) fr σ e fr' σ' hh
 intro args x h hr;unfold qyg at h
 split at h
 ·rename_i s;obtain⟨h1,h2⟩:=Tr.chk_some h;refine Tr.run_as (.ite (qnS s) (.ite (qt6 s) (.ite (sEq (decV s) []) (.ret (.tup [.sl [] .non,.bool true])) (.ret (.tup [.sl (qcq (qab (decV s))) .non,.bool true]))) (.ite (nEq (badL s) 0) (.ret (.tup [.sl [] .non,.bool false])) (.ret (.tup [.sl [] .non,.bool false])))) .fail) (by kernel_rfl) ?_
  by_cases hd:qt6 s=true
  ·by_cases he:decV s=[]
   ·simp [hd,he] at h2 ⊢;simp at h1;exact⟨h1,h2⟩
   ·simp [hd,he] at h2 ⊢;simp at h1;exact⟨h1,h2⟩
  ·by_cases he:badL s=0
   ·simp [hd,he] at h2 ⊢;simp at h1;exact⟨h1,h2⟩
   ·simp [hd,he] at h2 ⊢;simp at h1;exact⟨h1,h2⟩
 ·cases h
end Go.Pv
set_option maxHeartbeats 4000000
set_option maxRecDepth 200000
set_option linter.unusedSimpArgs false
set_option linter.unusedVariables false
namespace Go.Pv
open Go Go.Proofs Go.RowKit
def rdV (s:qU):Option (Int×Int×List UInt8) :=
 if qft s [34]=true∧qsU s [34]=true∧2≤s.length then
  match decP ((s.take (s.length - 1)).drop 1) with
  |some b=>if qbU 2 0 b=0∧qfY 2 0 b=s then some (2,0,b) else none
  |none=>none
 else if pOk s then (if qbU 1 (pVal s) []=0∧qfY 1 (pVal s) []=s then some (1,pVal s,[]) else none) else none
def kRd (s:qU):Int:=match rdV s with|some v=>v.1|none=>0
def nRd (s:qU):Int:=match rdV s with|some v=>v.2.1|none=>0
def sRd (s:qU):List UInt8:=match rdV s with|some v=>v.2.2|none=>[]
def eRd (s:qU):Int:=match rdV s with|some _=>0|none=>10
def qwH:List PV→Tr PV
 |[.str s]=>Tr.chk (qnS s) (.ret (.tup [.agg [.int .i64 (kRd s),.int .i64 (nRd s),.str (sRd s)],.int .i64 (eRd s)]))
 |_=>.fail
theorem qNm {gl : Gl} (hgl : GlOk gl) : SimP Tryz.prog gl 169 fun args => (qwH args).run := by
  refine SimP.of_tree (G := ofL [(160, .pure qri), (174, .pure qyE), (175, .pure qyg), (176, .pure qqI), (75, .pure qEq)]) (L := fun _ _ _ => .fail) qat (qac (qwg gl) (qac (qHp gl) (qac (qGM gl) (qac (qzM hgl) (qac (qEu hgl.toGlPow) qag))))) qah Tryz.func169 rfl (by rfl) (by kernel_rfl) (qae (by kernel_rfl)) ?_
  intro args x h hr
  unfold qwH at h
  split at h
  · rename_i s
    obtain ⟨h1, h2⟩ := Tr.chk_some h
    refine Tr.run_as (.ite (qft s [34]) (.ite (qsU s [34]) (.ite (iLe 2 (sLen s)) (.ite (qaQ (qav 1) (qav (iSub .i64 (sLen s) 1)) (nNat 1) (nNat (iSub .i64 (sLen s) 1)) (nLen s)) (.ite (qnS (sSub s (nNat 1) (nNat (iSub .i64 (sLen s) 1)))) (.ite (qt6 (sSub s (nNat 1) (nNat (iSub .i64 (sLen s) 1)))) (.ite false (.ret (.tup [.agg [.int .i64 0,.int .i64 0,.str []],.int .i64 10])) (.ite (qdS (qab (decV (sSub s (nNat 1) (nNat (iSub .i64 (sLen s) 1)))))) (.ite (iNe (qbU 2 0 (qcL (qab (decV (sSub s (nNat 1) (nNat (iSub .i64 (sLen s) 1))))))) 0) (.ret (.tup [.agg [.int .i64 0,.int .i64 0,.str []],.int .i64 10])) (.ite (sNe (qfY 2 0 (qcL (qab (decV (sSub s (nNat 1) (nNat (iSub .i64 (sLen s) 1))))))) s) (.ret (.tup [.agg [.int .i64 0,.int .i64 0,.str []],.int .i64 10])) (.ret (.tup [.agg [.int .i64 2,.int .i64 0,.str (qcL (qab (decV (sSub s (nNat 1) (nNat (iSub .i64 (sLen s) 1))))))],.int .i64 0])))) .fail)) (.ite true (.ret (.tup [.agg [.int .i64 0,.int .i64 0,.str []],.int .i64 10])) (.ite (qdS []) (.ite (iNe (qbU 2 0 (qcL [])) 0) (.ret (.tup [.agg [.int .i64 0,.int .i64 0,.str []],.int .i64 10])) (.ite (sNe (qfY 2 0 (qcL [])) s) (.ret (.tup [.agg [.int .i64 0,.int .i64 0,.str []],.int .i64 10])) (.ret (.tup [.agg [.int .i64 2,.int .i64 0,.str (qcL [])],.int .i64 0])))) .fail))) .fail) .fail) (.ite (iEq 10 10) (.ite (iEq 64 64) (.ite (qhX s) (.ite (pOk s) (.ite false (.ret (.tup [.agg [.int .i64 0,.int .i64 0,.str []],.int .i64
      10])) (.ite (iNe (qbU 1 (pVal s) []) 0) (.ret (.tup [.agg [.int .i64 0,.int .i64 0,.str []],.int .i64 10])) (.ite (sNe (qfY 1 (pVal s) []) s) (.ret (.tup [.agg [.int .i64 0,.int .i64 0,.str []],.int .i64 10])) (.ret (.tup [.agg [.int .i64 1,.int .i64 (pVal s),.str []],.int .i64 0]))))) (.ite true (.ret (.tup [.agg [.int .i64 0,.int .i64 0,.str []],.int .i64 10])) (.ite (iNe (qbU 1 (pVal s) []) 0) (.ret (.tup [.agg [.int .i64 0,.int .i64 0,.str []],.int .i64 10])) (.ite (sNe (qfY 1 (pVal s) []) s) (.ret (.tup [.agg [.int .i64 0,.int .i64 0,.str []],.int .i64 10])) (.ret (.tup [.agg [.int .i64 1,.int .i64 (pVal s),.str []],.int .i64 0])))))) .fail) .fail) .fail)) (.ite (iEq 10 10) (.ite (iEq 64 64) (.ite (qhX s) (.ite (pOk s) (.ite false (.ret (.tup [.agg [.int .i64 0,.int .i64 0,.str []],.int .i64 10])) (.ite (iNe (qbU 1 (pVal s) []) 0) (.ret (.tup [.agg [.int .i64 0,.int .i64 0,.str []],.int .i64 10])) (.ite (sNe (qfY 1 (pVal s) []) s) (.ret (.tup [.agg [.int .i64 0,.int .i64 0,.str []],.int .i64 10])) (.ret (.tup [.agg [.int .i64 1,.int .i64 (pVal s),.str []],.int .i64 0]))))) (.ite true (.ret (.tup [.agg [.int .i64 0,.int .i64 0,.str []],.int .i64 10])) (.ite (iNe (qbU 1 (pVal s) []) 0) (.ret (.tup [.agg [.int .i64 0,.int .i64 0,.str []],.int .i64 10])) (.ite (sNe (qfY 1 (pVal s) []) s) (.ret (.tup [.agg [.int .i64 0,.int .i64 0,.str []],.int .i64 10])) (.ret (.tup [.agg [.int .i64 1,.int .i64 (pVal s),.str []],.int .i64 0])))))) .fail) .fail)
      .fail)) (.ite (iEq 10 10) (.ite (iEq 64 64) (.ite (qhX s) (.ite (pOk s) (.ite false (.ret (.tup [.agg [.int .i64 0,.int .i64 0,.str []],.int .i64 10])) (.ite (iNe (qbU 1 (pVal s) []) 0) (.ret (.tup [.agg [.int .i64 0,.int .i64 0,.str []],.int .i64 10])) (.ite (sNe (qfY 1 (pVal s) []) s) (.ret (.tup [.agg [.int .i64 0,.int .i64 0,.str []],.int .i64 10])) (.ret (.tup [.agg [.int .i64 1,.int .i64 (pVal s),.str []],.int .i64 0]))))) (.ite true (.ret (.tup [.agg [.int .i64 0,.int .i64 0,.str []],.int .i64 10])) (.ite (iNe (qbU 1 (pVal s) []) 0) (.ret (.tup [.agg [.int .i64 0,.int .i64 0,.str []],.int .i64 10])) (.ite (sNe (qfY 1 (pVal s) []) s) (.ret (.tup [.agg [.int .i64 0,.int .i64 0,.str []],.int .i64 10])) (.ret (.tup [.agg [.int .i64 1,.int .i64 (pVal s),.str []],.int .i64 0])))))) .fail) .fail) .fail)) (by kernel_rfl) ?_
    have hl : s.length ≤ 140737488355328 := by simpa using h1
    cases h2
    have h48 : qhX s = true := by simp [qhX]; omega
    have int : (Tr.ite (iEq 10 10) (Tr.ite (iEq 64 64) (Tr.ite (qhX s) (Tr.ite (pOk s)
              (Tr.ite false (Tr.ret (PV.tup [PV.agg [PV.int IntKind.i64 0, PV.int IntKind.i64 0, PV.str []], PV.int IntKind.i64 10]))
                (Tr.ite (iNe (qbU 1 (pVal s) []) 0) (Tr.ret (PV.tup [PV.agg [PV.int IntKind.i64 0, PV.int IntKind.i64 0, PV.str []], PV.int IntKind.i64 10]))
                  (Tr.ite (sNe (qfY 1 (pVal s) []) s) (Tr.ret (PV.tup [PV.agg [PV.int IntKind.i64 0, PV.int IntKind.i64 0, PV.str []], PV.int IntKind.i64 10]))
                    (Tr.ret (PV.tup [PV.agg [PV.int IntKind.i64 1, PV.int IntKind.i64 (pVal s), PV.str []], PV.int IntKind.i64 0])))))
              (Tr.ite true (Tr.ret (PV.tup [PV.agg [PV.int IntKind.i64 0, PV.int IntKind.i64 0, PV.str []], PV.int IntKind.i64 10]))
                (Tr.ite (iNe (qbU 1 (pVal s) []) 0) (Tr.ret (PV.tup [PV.agg [PV.int IntKind.i64 0, PV.int IntKind.i64 0, PV.str []], PV.int IntKind.i64 10]))
                  (Tr.ite (sNe (qfY 1 (pVal s) []) s) (Tr.ret (PV.tup [PV.agg [PV.int IntKind.i64 0, PV.int IntKind.i64 0, PV.str []], PV.int IntKind.i64 10]))
                    (Tr.ret (PV.tup [PV.agg [PV.int IntKind.i64 1, PV.int IntKind.i64 (pVal s), PV.str []], PV.int IntKind.i64 0])))))) Tr.fail) Tr.fail) Tr.fail).run =
        some (if pOk s then (if qbU 1 (pVal s) [] = 0 ∧ qfY 1 (pVal s) [] = s then .tup [.agg [.int .i64 1, .int .i64 (pVal s), .str []], .int .i64 0] else .tup [.agg [.int .i64 0, .int .i64 0, .str []], .int .i64 10]) else .tup [.agg [.int .i64 0, .int .i64 0, .str []], .int .i64 10]) := by
      cases hp : pOk s with
      | false => simp [h48]
      | true =>
        by_cases hc : qbU 1 (pVal s) [] = 0 <;> by_cases ht : qfY 1 (pVal s) [] = s <;> simp [h48, hc, ht]
    have fin : ∀ o : Option (Int × Int × List UInt8), rdV s = o → PV.tup [.agg [.int .i64 (kRd s), .int .i64 (nRd s), .str (sRd s)], .int .i64 (eRd s)] = match o with | some v => .tup [.agg [.int .i64 v.1, .int .i64 v.2.1, .str v.2.2], .int .i64 0] | none => .tup [.agg [.int .i64 0, .int .i64 0, .str []], .int .i64 10] := by
      intro o ho
      unfold kRd nRd sRd eRd
      rw [ho]
      cases o <;> rfl
    by_cases hq : qft s [34] = true ∧ qsU s [34] = true ∧ 2 ≤ s.length
    · obtain ⟨p1, p2, p3⟩ := hq
      have e1 : sSub s (nNat 1) (nNat (iSub .i64 (sLen s) 1)) = (s.take (s.length - 1)).drop 1 := by
        have : iSub .i64 (sLen s) 1 = s.length - 1 := by unfold iSub; rw [qji, qbD (by omega)]
        rw [this]
        simp
        try (congr 2; omega)
      have e2 : qaQ (qav 1) (qav (iSub .i64 (sLen s) 1)) (nNat 1) (nNat (iSub .i64 (sLen s) 1)) (nLen s) = true := by
        have : iSub .i64 (sLen s) 1 = s.length - 1 := by unfold iSub; rw [qji, qbD (by omega)]
        rw [this]
        simp
        omega
      have e3 : iLe 2 (sLen s) = true := by simp; omega
      rw [e1, p1, p2, e2, e3]
      have e4 : qnS ((s.take (s.length - 1)).drop 1) = true := by simp; omega
      generalize hm : (s.take (s.length - 1)).drop 1 = m at *
      rw [e4]
      cases hd : decP m with
      | none =>
        have h5 : qt6 m = false := by simp [qt6, hd]
        have := fin none (by unfold rdV; rw [if_pos ⟨p1, p2, p3⟩, hm, hd])
        rw [this]
        simp [h5]
      | some b =>
        have h5 : qt6 m = true := by simp [qt6, hd]
        have h6 : decV m = b := by simp [decV, hd]
        rw [h6]
        by_cases hc : qbU 2 0 b = 0 ∧ qfY 2 0 b = s
        · have := fin (some (2, 0, b)) (by unfold rdV; rw [if_pos ⟨p1, p2, p3⟩, hm, hd]; simp only []; rw [if_pos hc])
          rw [this]
          simp [h5, hc]
        · have := fin none (by unfold rdV; rw [if_pos ⟨p1, p2, p3⟩, hm, hd]; simp only []; rw [if_neg hc])
          rw [this]
          by_cases hc1 : qbU 2 0 b = 0
          · have hc2 : ¬ qfY 2 0 b = s := fun h => hc ⟨hc1, h⟩
            simp [h5, hc1, hc2]
          · simp [h5, hc1]
    · have e9 : rdV s = if pOk s then (if qbU 1 (pVal s) [] = 0 ∧ qfY 1 (pVal s) [] = s then some (1, pVal s, []) else none) else none := by
        unfold rdV
        rw [if_neg hq]
      have e8 : PV.tup [.agg [.int .i64 (kRd s), .int .i64 (nRd s), .str (sRd s)], .int .i64 (eRd s)] = (if pOk s then (if qbU 1 (pVal s) [] = 0 ∧ qfY 1 (pVal s) [] = s then .tup [.agg [.int .i64 1, .int .i64 (pVal s), .str []], .int .i64 0] else .tup [.agg [.int .i64 0, .int .i64 0, .str []], .int .i64 10]) else .tup [.agg [.int .i64 0, .int .i64 0, .str []], .int .i64 10]) := by
        rw [fin _ e9]
        by_cases c1 : pOk s = true
        · by_cases c2 : qbU 1 (pVal s) [] = 0 ∧ qfY 1 (pVal s) [] = s
          · simp only [c1, if_true, if_pos c2]
          · simp only [c1, if_true, if_neg c2]
        · simp only [if_neg c1]
      rw [e8, ← int]
      cases p1 : qft s [34] with
      | false => simp
      | true =>
        cases p2 : qsU s [34] with
        | false => simp
        | true =>
          have e3 : iLe 2 (sLen s) = false := by simp; have : ¬ 2 ≤ s.length := fun h => hq ⟨p1, p2, h⟩; omega
          rw [e3]
          simp
  · cases h
end Go.Pv
set_option linter.unusedSimpArgs false
set_option linter.unusedVariables false
namespace Go.Pv
open Go.RowKit Tr
def xInt (xs:qR) (i j:Nat):Int:=match (xs.getD i []).getD j .top with|.int _ n=>n|_=>0
def qcu (xs:qR) (i j:Nat):Bool:=match (xs.getD i []).getD j .top with|.bool b=>b|_=>false
def xStr (xs:qR) (i j:Nat):List UInt8:=match (xs.getD i []).getD j .top with|.str l=>l|_=>[]
def xRow (xs:qR) (i j:Nat):List (List PV):=match (xs.getD i []).getD j .top with|.sl l _=>l|_=>[]
def xPV (xs:qR) (i j:Nat):PV:=(xs.getD i []).getD j .top
def selC (c:PV) (xs:qR) (i j:Nat):PV:=match c with
 |.int k _=>.int k (xInt xs i j)
 |.bool _=>.bool (qcu xs i j)
 |.str _=>.str (xStr xs i j)
 |.sl _ _=>.sl (xRow xs i j) .non
 |_=>xPV xs i j
def selF:List PV→qR→Nat→Nat→List PV
 |[],_,_,_=>[]
 |c::z,xs,i,j=>selC c xs i j::selF z xs i (j+1)
open Classical in
def qa3 (z:List PV) (xs:qR) (i:Nat):Bool:=decide (xs[i]?=some (selF z xs i 0))
def Tr.flat {α:Type}:Tr α→Tr α
 |.ret a=>.ret a
 |.fail=>.fail
 |.ite b x y=>.ite b x.flat y.flat
 |.get xs i z k=>.ite (qa3 z xs i) (k (selF z xs i 0)).flat .fail
theorem Tr.flat_run {α:Type} {r:α}:∀ {t:Tr α},t.flat.run=some r→t.run=some r
 |.ret a,h=>h
 |.fail,h=>h
 |.ite b x y,h=>by
  cases b with
  |true=>simp only [Tr.flat,Tr.run_ite,if_true] at h ⊢;exact Tr.flat_run h
  |false=>simp only [Tr.flat,Tr.run_ite,Bool.false_eq_true,if_false] at h ⊢;exact Tr.flat_run h
 |.get xs i z k,h=>by
  simp only [Tr.flat,Tr.run_ite] at h
  split at h
  ·rename_i hg;have hg:xs[i]?=some (selF z xs i 0):=by simpa [qa3] using hg
   simp only [Tr.run_get,hg];exact Tr.flat_run h
  ·cases h
def qgG (m:Nat) (σ:Store):Store:=⟨σ.objs.map (qc9 m),σ.toks.take m,σ.tys⟩
theorem qqj (m:Nat):∀ (xs:List PV),(qc9 m xs).length=xs.length
 |[]=>rfl
 |x::xs=>by simp [qc9,qqj m xs]
theorem qvt (m:Nat):∀ (xs:qR),(qeI m xs).length=xs.length
 |[]=>rfl
 |x::xs=>by simp [qeI,qvt m xs]
mutual
theorem qwX (m:Nat):∀ {x:PV},lock x=x→dropT m x=x
 |.top,_=>rfl
 |.bool _,_=>rfl
 |.int _ _,_=>rfl
 |.str _,_=>rfl
 |.nilp,_=>rfl
 |.ptr _ _,h=>by simp [lock] at h
 |.ref cs,h=>by simp only [lock,PV.ref.injEq] at h;simp only [dropT];rw [qfO m h]
 |.sl xs t,h=>by simp only [lock,PV.sl.injEq] at h;simp only [dropT];rw [qih m h.1,← h.2];rfl
 |.osl _ _ _ _,h=>by simp [lock] at h
 |.fn f caps,h=>by simp only [lock,PV.fn.injEq] at h;simp only [dropT];rw [qfO m h.2]
 |.nilf,_=>rfl
 |.iface t v,h=>by simp only [lock,PV.iface.injEq] at h;simp only [dropT];rw [qwX m h.2]
 |.nili,_=>rfl
 |.agg cs,h=>by simp only [lock,PV.agg.injEq] at h;simp only [dropT];rw [qfO m h]
 |.tup cs,h=>by simp only [lock,PV.tup.injEq] at h;simp only [dropT];rw [qfO m h]
theorem qfO (m:Nat):∀ {x:List PV},qhy x=x→qc9 m x=x
 |[],_=>rfl
 |x::xs,h=>by simp only [qhy,List.cons.injEq] at h;simp only [qc9];rw [qwX m h.1,qfO m h.2]
theorem qih (m:Nat):∀ {x:List (List PV)},qaa x=x→qeI m x=x
 |[],_=>rfl
 |x::xs,h=>by simp only [qaa,List.cons.injEq] at h;simp only [qeI];rw [qfO m h.1,qih m h.2]
end
@[simp] theorem dropTLL_bytes (m:Nat) (l:qU):qeI m (qab l)=qab l:=qih m (qA4 l)
@[simp] theorem dropTLL_rOf {α:Type} (C:Cod α) (m:Nat) (l:List α):qeI m (rOf C l)=rOf C l:=qih m (qau C l)
def Gh.trim (H:Gh) (m:Nat):Gh:={ H with tk:=H.tk.take m }
section
variable {H : Gh} {w : World} {m : Nat}
theorem qkH {b off:Nat} (h:H.prot w b off):(H.trim m).prot w b off:=⟨h.1,h.2.1,h.2.2.1,fun T hT=>h.2.2.2 T (List.mem_of_mem_take hT)⟩
theorem qHu {b off:Nat} (h:H.prot2 w b off):(H.trim m).prot2 w b off:=h.elim (fun h=>.inl (qkH h)) .inr
theorem qNJ {p:Option Addr} {len cap k:Nat} {t:Tag} (h:TagOk H p len cap k t):TagOk (H.trim m) p len cap k (qDh m t):=by
 cases t with
 |non=>trivial
 |full=>exact h
 |nil=>exact h
 |own=>exact h
 |tok t =>
  simp only [qDh];cases hm:decide (t < m) with
  |false=>trivial
  |true =>
   obtain⟨T,e,l,q⟩:=h;exact⟨T,by simp only [Gh.trim];rw [List.getElem?_take,if_pos (by simpa using hm)];exact e,l,q⟩
mutual
theorem qEy:∀ {x:PV} {v:Value},Rel H w x v→Rel (H.trim m) w (dropT m x) v
 |_,_,.top v=>by simp only [dropT];exact .top v
 |_,_,.bool b=>by simp only [dropT];exact .bool b
 |_,_,.int k m h=>by simp only [dropT];exact .int k m h
 |_,_,.str l h=>by simp only [dropT];exact .str l h
 |_,_,.nilp=>by simp only [dropT];exact .nilp
 |_,_,.ptr id off b h=>by simp only [dropT];exact .ptr id off b h
 |_,_,.ref a cs vs h hc=>by simp only [dropT];exact .ref a _ vs (qfl h) (fun j v e=>⟨qHu (hc j v e).1,(hc j v e).2⟩)
 |_,_,.osl id off off' len cap k b h ho hcap hm=>by simp only [dropT];exact .osl id off off' len cap k b h ho hcap hm
 |_,_,.sl p len cap k xs vss t hl hcap hm h hr ht=>by
  simp only [dropT];exact .sl p len cap k _ vss _ (by rw [← hl];exact qvt _ xs) hcap hm (qwj h) (fun i vs e=>⟨(hr i vs e).1,by
   obtain⟨_,a,ha,hc⟩:=hr i vs e;exact⟨a,ha,fun j v e=>⟨qkH (hc j v e).1,(hc j v e).2⟩⟩⟩) (qNJ ht)
 |_,_,.fn f caps vs h=>by simp only [dropT];exact .fn f _ vs (qfl h)
 |_,_,.yld t T h hk=>by
  simp only [dropT];cases hm:decide (t < m) with
  |false=>exact .top _
  |true=>exact .yld t T (by simp only [Gh.trim];rw [List.getElem?_take,if_pos (by simpa using hm)];exact h) hk
 |_,_,.nilf=>by simp only [dropT];exact .nilf
 |_,_,.iface t x v h=>by simp only [dropT];exact .iface t _ v (qEy h)
 |_,_,.nili=>by simp only [dropT];exact .nili
 |_,_,.agg cs vs h=>by simp only [dropT];exact .agg _ vs (qfl h)
 |_,_,.tup cs vs h=>by simp only [dropT];exact .tup _ vs (qfl h)
theorem qfl:∀ {x:List PV} {v:List Value},RelL H w x v→RelL (H.trim m) w (qc9 m x) v
 |_,_,.nil=>by simp only [qc9];exact .nil
 |_,_,.cons x v xs vs h ht=>by simp only [qc9];exact .cons _ v _ vs (qEy h) (qfl ht)
theorem qwj:∀ {x:List (List PV)} {v:List (List Value)},RelLL H w x v→RelLL (H.trim m) w (qeI m x) v
 |_,_,.nil=>by simp only [qeI];exact .nil
 |_,_,.cons x v xs vs h ht=>by simp only [qeI];exact .cons _ v _ vs (qfl h) (qwj ht)
end
theorem qB0 {gl:Gl} {σ:Store} (h:Ok gl H σ w):Ok gl (H.trim m) (qgG m σ) w where
 B:=h.B
 gl:=h.gl
 len:=by simp [Gh.trim,qgG,h.len]
 obj:=fun id b cs e1 e2=>by
  simp only [qgG,List.getElem?_map] at e2;obtain⟨c0,hc0,rfl⟩:=Option.map_eq_some_iff.1 e2;obtain⟨hB,vs,ext,T,he,hr⟩:=h.obj id b c0 e1 hc0;exact⟨hB,vs,ext,T,he,qfl hr⟩
 nd:=h.nd
 tkl:=by
  have:=h.tkl;simp only [Gh.trim,qgG,List.map_take,← this]
 tok:=fun t T e hvv=>by
  obtain⟨hlt,e⟩:=qeA e;obtain⟨hB,ho,o,he,hr⟩:=h.tok t T e hvv;refine⟨hB,ho,o,he,?_⟩;rcases hr with hr|⟨h1,h2,r,h3,h4,h5,h6,h7⟩
  ·exact .inl hr
  ·refine .inr ⟨h1,h2,r,h3,?_,h5,h6,h7⟩;have:=qfl (m:=m) h4
   rwa [h7 m (by omega)] at this
 tnd:=fun t u T U e1 e2=>h.tnd t u T U (qeA e1).2 (qeA e2).2
 tyl:=by simp [qgG,h.tyl]
 ty:=fun id b T cs e1 e2 e3 hT=>by
  simp only [qgG,List.getElem?_map] at e2 e3;obtain⟨c0,hc0,rfl⟩:=Option.map_eq_some_iff.1 e3;obtain⟨us,he,hs⟩:=h.ty id b T c0 e1 e2 hc0 hT;exact⟨us,he,by rw [hs,qqj]⟩
end
section
variable {P : Program} {gl : Gl} {c : Code} {fr fr' : List PV} {σ σ' : Store} {e : PExit} {m : Nat}
theorem qPi {H0:Gh} {w0:World} {a:Act} {w:World} (hn:H0.tk.length≤m) (h:St gl H0 w0 fr σ a w):St gl H0 w0 (qc9 m fr) (qgG m σ) a w:=by
 obtain⟨H,hev,hok,hfr,hd⟩:=h;refine⟨H.trim m,⟨hev.B,hev.base,hev.aux,hev.K,hev.os,hev.tape,hev.output,hev.size,hev.ob,fun t T ht=>?_,fun b off hp=>⟨qkH (hev.prot b off hp).1,(hev.prot b off hp).2⟩,hev.block,hev.dr,hev.fix,fun t T e hk=>hev.old t T (qeA e).2 hk⟩,qB0 hok,qfl hfr,hd⟩
 obtain⟨T',h1,h2⟩:=hev.tok t T ht;refine⟨T',?_,h2⟩;simp only [Gh.trim];rw [List.getElem?_take,if_pos (Nat.lt_of_lt_of_le (List.getElem?_eq_some_iff.1 ht).1 hn)];exact h1
theorem Does.trim (hn:σ.toks.length≤m) (h:Does P gl c fr σ e fr' σ'):Does P gl c fr σ e (qc9 m fr') (qgG m σ'):=by
 intro r n' H0 w0 hR Q a w hst hq;obtain⟨H,hev,hok,hfr,hd⟩:=hst;refine h r n' H w (hR.ev hev) Q a w ⟨H,Ev.refl H w,hok,hfr,hd⟩ fun a' w' hst'=>hq a' w' ?_
 have hl:H.tk.length≤m:=by
  have:=congrArg List.length hok.tkl;simp at this;omega
 obtain⟨H',hev',hok',hfr',hd'⟩:=qPi (m:=m) hl hst';exact⟨H',hev.trans hev',hok',hfr',hd'⟩
end
inductive LR where
 |next (vs:List PV) (σ:Store)
 |out (e:PExit) (vs:List PV) (σ:Store)
structure LI where
 nt:Nat
 ss:List Nat
 os:PExit→List Nat
 tr:Bool:=true
def rsl (ss:List Nat) (fr:List PV):List PV:=ss.map fun s=>fr.getD s .top
theorem qpA (fr:List PV) (ss:List Nat):Weak fr (mk fr.length (ss.zip (rsl ss fr))):=qI0 fr ss
def qHL (σ:Store) (vs:List PV) (σ':Store):List PV×Store :=
 if σ'.objs.length≤max σ.objs.length (qAe vs) then (vs,σ') else (qcW (max σ.objs.length (qAe vs)) vs,dropS (max σ.objs.length (qAe vs)) σ')
def qtB:qR→Nat
 |[]=>0
 |x::xs=>max (qvU x) (qtB xs)
def qNB (σ:Store) (vs:List PV) (σ':Store):List PV×Store :=
 if σ'.toks.length≤max σ.toks.length (max (qvU vs) (qtB (σ'.objs.take σ.objs.length))) then qHL σ vs σ' else qHL σ (qc9 (max σ.toks.length (max (qvU vs) (qtB (σ'.objs.take σ.objs.length)))) vs) (qgG (max σ.toks.length (max (qvU vs) (qtB (σ'.objs.take σ.objs.length)))) σ')
def qAh (tr:Bool) (σ:Store) (vs:List PV) (σ':Store):List PV×Store:=match tr with
 |true=>qNB σ vs σ'
 |false=>(vs,σ')
def lstep (tb:Tab) (G:GamT) (L:LpsT) (c:Code) (I:LI) (vs:List PV) (σ:Store):Tr LR :=
 (bind (texec tb G L c [] (mk I.nt (I.ss.zip vs)) σ) fun r=>if r.2.2.1.length=I.nt then match r.1 with
  |.normal=>.ret (.next (qAh I.tr σ (rsl I.ss r.2.2.1) r.2.2.2).1 (qAh I.tr σ (rsl I.ss r.2.2.1) r.2.2.2).2)
  |e=>.ret (.out e (qAh I.tr σ (rsl (I.os e) r.2.2.1) r.2.2.2).1 (qAh I.tr σ (rsl (I.os e) r.2.2.1) r.2.2.2).2) else .fail).flat
def lrun (step:List PV→Store→Tr LR):Nat→List PV→Store→Option (PExit×List PV×Store)
 |0,_,_=>none
 |n+1,vs,σ=>match (step vs σ).run with
  |some (.next vs' σ')=>lrun step n vs' σ'
  |some (.out e vs' σ')=>some (e,vs',σ')
  |none=>none
theorem quY {step:List PV→Store→Tr LR}:∀ {n m:Nat} {vs:List PV} {σ:Store} {r:PExit×List PV×Store},lrun step n vs σ=some r→n≤m→lrun step m vs σ=some r
 |0,_,_,_,_,h,_=>by cases h
 |n+1,0,_,_,_,_,hm=>by omega
 |n+1,m+1,vs,σ,r,h,hm=>by
  simp only [lrun] at h ⊢;split at h
  ·rename_i vs' σ' hs;exact quY h (by omega)
  ·exact h
  ·cases h
open Classical in
def lval (step:List PV→Store→Tr LR) (vs:List PV) (σ:Store):Option (PExit×List PV×Store) :=
 if h:∃ r n,lrun step n vs σ=some r then some h.choose else none
theorem qDz {step:List PV→Store→Tr LR} {vs:List PV} {σ:Store} {n:Nat} {r:PExit×List PV×Store} (h:lrun step n vs σ=some r):lval step vs σ=some r:=by
 unfold lval;have hx:∃ r n,lrun step n vs σ=some r:=⟨r,n,h⟩;rw [dif_pos hx];obtain⟨m,hm⟩:=hx.choose_spec;have h1:=quY h (Nat.le_max_left n m);have h2:=quY hm (Nat.le_max_right n m);rw [h1] at h2;exact h2.symm
theorem qr0 {step:List PV→Store→Tr LR} {vs:List PV} {σ:Store} {r:PExit×List PV×Store} (h:lval step vs σ=some r):∃ n,lrun step n vs σ=some r:=by
 unfold lval at h
 split at h
 ·rename_i hx;cases h
  exact hx.choose_spec
 ·cases h
def lnext (V:List PV→Store→Option (PExit×List PV×Store)) (r:Option LR):Option (PExit×List PV×Store):=match r with
 |some (.next vs' σ')=>V vs' σ'
 |some (.out e vs' σ')=>some (e,vs',σ')
 |none=>none
@[simp] theorem qmz (V:List PV→Store→Option (PExit×List PV×Store)) (vs:List PV) (σ:Store):lnext V (some (.next vs σ))=V vs σ:=rfl
@[simp] theorem lnext_out (V:List PV→Store→Option (PExit×List PV×Store)) (e:PExit) (vs:List PV) (σ:Store):lnext V (some (.out e vs σ))=some (e,vs,σ):=rfl
@[simp] theorem lnext_none (V:List PV→Store→Option (PExit×List PV×Store)):lnext V none=none:=rfl
theorem qbu (step:List PV→Store→Tr LR) (vs:List PV) (σ:Store):lval step vs σ=lnext (lval step) (step vs σ).run:=by
 unfold lnext;cases hs:(step vs σ).run with
 |none =>
  simp only;cases hv:lval step vs σ with
  |none=>rfl
  |some r =>
   obtain⟨n,hn⟩:=qr0 hv;cases n with
   |zero=>cases hn
   |succ n=>simp [lrun,hs] at hn
 |some q =>
  cases q with
  |out e vs' σ'=>exact qDz (n:=1) (by simp [lrun,hs])
  |next vs' σ' =>
   simp only;cases hv:lval step vs' σ' with
   |some r =>
    obtain⟨n,hn⟩:=qr0 hv;exact qDz (n:=n+1) (by simp [lrun,hs,hn])
   |none =>
    cases hw:lval step vs σ with
    |none=>rfl
    |some r =>
     obtain⟨n,hn⟩:=qr0 hw;cases n with
     |zero=>cases hn
     |succ n =>
      simp only [lrun,hs] at hn;rw [qDz hn] at hv;cases hv
theorem qHC (n:Nat) (ss:List Nat) (fr:List PV):qcW n (rsl ss fr)=rsl ss (qcW n fr):=by
 unfold rsl
 induction ss with
 |nil=>rfl
 |cons s ss ih =>
  simp only [List.map_cons,qcW,ih]
  congr 1
  clear ih
  induction fr generalizing s with
  |nil=>rfl
  |cons x fr ih =>
   cases s with
   |zero=>rfl
   |succ s=>simpa [qcW] using ih s
theorem qGi (n:Nat) (ss:List Nat) (fr:List PV):qc9 n (rsl ss fr)=rsl ss (qc9 n fr):=by
 unfold rsl
 induction ss with
 |nil=>rfl
 |cons s ss ih =>
  simp only [List.map_cons,qc9,ih]
  congr 1
  clear ih
  induction fr generalizing s with
  |nil=>rfl
  |cons x fr ih =>
   cases s with
   |zero=>rfl
   |succ s=>simpa [qc9] using ih s
section
variable {P : Program} {tb : Tab} {gl : Gl} {G : GamT}
theorem qvC {c:Code} {fr:List PV} {σ σ2:Store} {fr1:List PV} {ss:List Nat} {e:PExit} (hd:Does P gl c fr σ e fr1 σ2) :
  ∃ fr3,fr3.length=fr1.length∧(qHL σ (rsl ss fr1) σ2).1=rsl ss fr3∧Does P gl c fr σ e fr3 (qHL σ (rsl ss fr1) σ2).2:=by
 unfold qHL;split
 ·exact⟨fr1,rfl,rfl,hd⟩
 ·exact⟨_,qqS _ _,qHC _ _ _,hd.drop (Nat.le_max_left _ _)⟩
theorem qBv {c:Code} {fr:List PV} {σ σ2:Store} {fr1:List PV} {ss:List Nat} {e:PExit} (hd:Does P gl c fr σ e fr1 σ2) :
  ∃ fr3,fr3.length=fr1.length∧(qNB σ (rsl ss fr1) σ2).1=rsl ss fr3∧Does P gl c fr σ e fr3 (qNB σ (rsl ss fr1) σ2).2:=by
 unfold qNB;split
 ·exact qvC hd
 ·rw [qGi];obtain⟨fr3,h1,h2,h3⟩:=qvC (ss:=ss) (hd.trim (m:=max σ.toks.length (max (qvU (rsl ss fr1)) (qtB (σ2.objs.take σ.objs.length)))) (Nat.le_max_left _ _));exact⟨fr3,by rw [h1,qqj],h2,h3⟩
theorem qs5 {c:Code} {fr:List PV} {σ σ2:Store} {fr1:List PV} {ss:List Nat} {e:PExit} (tr:Bool) (hd:Does P gl c fr σ e fr1 σ2) :
  ∃ fr3,fr3.length=fr1.length∧(qAh tr σ (rsl ss fr1) σ2).1=rsl ss fr3∧Does P gl c fr σ e fr3 (qAh tr σ (rsl ss fr1) σ2).2:=by
 cases tr with
 |true=>exact qBv hd
 |false=>exact⟨fr1,rfl,rfl,hd⟩
theorem qGJ (hT:qcz P tb) (hΓ:qaU P gl (gam G)) (hm:P.follows .mixedOrders=true) {L:LpsT} {c:Code} (hL:qc7 P gl (lps L) c) (hdr:qbV (gam G) c=true) {I:LI}:∀ (n:Nat) (vs:List PV) (σ:Store) (e:PExit) (vs':List PV) (σ':Store),
  lrun (lstep tb G L c I) n vs σ=some (e,vs',σ')→LDoes P gl c (mk I.nt (I.ss.zip vs)) σ e (mk I.nt ((I.os e).zip vs')) σ':=by
 intro n
 induction n with
 |zero=>intro vs σ e vs' σ' h;cases h
 |succ n ih =>
  intro vs σ e vs' σ' h;simp only [lrun] at h
  split at h
  ·rename_i vs1 σ1 hs;have hs:=Tr.flat_run hs;obtain⟨⟨e1,kn,fr1,σ2⟩,h1,h2⟩:=bind_some hs;have hd:=Does.of_tree hT hΓ hm hL hdr h1;simp only at h2;split at h2
   ·rename_i hn;cases e1 with
    |normal =>
     simp only [Tr.run_ret,Option.some.injEq,LR.next.injEq] at h2;obtain⟨rfl,rfl⟩:=h2;obtain⟨fr3,h3,h4,hd3⟩:=qs5 (ss:=I.ss) I.tr hd;rw [h4] at h
     refine LDoes.next hd3 (LDoes.into ?_ (ih _ _ _ _ _ h));have hw:=qpA fr3 I.ss;rw [h3,hn] at hw;exact hw
    |exit j=>simp [Tr.run_ret] at h2
    |ret=>simp [Tr.run_ret] at h2
   ·cases h2
  ·rename_i e1 vs1 σ1 hs;simp only [Option.some.injEq,Prod.mk.injEq] at h
   obtain⟨rfl,rfl,rfl⟩:=h;have hs:=Tr.flat_run hs;obtain⟨⟨e2,kn,fr1,σ2⟩,h1,h2⟩:=bind_some hs;have hd:=Does.of_tree hT hΓ hm hL hdr h1;simp only at h2;split at h2
   ·rename_i hn;have fin:∀ e,e≠.normal→e2=e→LDoes P gl c (mk I.nt (I.ss.zip vs)) σ e (mk I.nt ((I.os e).zip (qAh I.tr σ (rsl (I.os e) fr1) σ2).1)) (qAh I.tr σ (rsl (I.os e) fr1) σ2).2:=by
     rintro e hne rfl;obtain⟨fr3,h3,h4,hd3⟩:=qs5 (ss:=I.os e2) I.tr hd;rw [h4];refine LDoes.outof (LDoes.out hd3 hne) ?_;have hw:=qpA fr3 (I.os e2);rw [h3,hn] at hw;exact hw
    cases e2 with
    |normal=>simp [Tr.run_ret] at h2
    |exit j =>
     simp only [Tr.run_ret,Option.some.injEq,LR.out.injEq] at h2;obtain⟨rfl,rfl,rfl⟩:=h2;exact fin _ (by simp) rfl
    |ret =>
     simp only [Tr.run_ret,Option.some.injEq,LR.out.injEq] at h2;obtain⟨rfl,rfl,rfl⟩:=h2;exact fin _ (by simp) rfl
   ·cases h2
  ·cases h
def orc (I:LI) (prop:List PV→Store→Tr (PExit×List PV×Store)) (fr:List PV) (σ:Store):Tr (PExit×List PV×Store) :=
 if fr.length=I.nt then bind (prop (rsl I.ss fr) σ) fun r=>.ret (r.1,mk I.nt ((I.os r.1).zip r.2.1),r.2.2) else .fail
theorem qck (hT:qcz P tb) (hΓ:qaU P gl (gam G)) (hm:P.follows .mixedOrders=true) {L:LpsT} {c:Code} (hL:qc7 P gl (lps L) c) (hdr:qbV (gam G) c=true) {I:LI} {prop:List PV→Store→Tr (PExit×List PV×Store)}
  (h:∀ vs σ r,(prop vs σ).run=some r→lval (lstep tb G L c I) vs σ=some r):∀ fr σ e fr' σ',(orc I prop fr σ).run=some (e,fr',σ')→LDoes P gl c fr σ e fr' σ':=by
 intro fr σ e fr' σ' hr;unfold orc at hr;split at hr
 ·rename_i hn;obtain⟨⟨e1,vs1,σ1⟩,h1,h2⟩:=bind_some hr;simp only [Tr.run_ret,Option.some.injEq,Prod.mk.injEq] at h2;obtain⟨rfl,rfl,rfl⟩:=h2;obtain⟨n,hn'⟩:=qr0 (h _ _ _ h1);have hw:=qpA fr I.ss;rw [hn] at hw;exact LDoes.into hw (qGJ hT hΓ hm hL hdr n _ _ _ _ _ hn')
 ·cases hr
theorem SimP.of_flat (hT : qcz P tb) (hΓ : qaU P gl (gam G)) (hm : P.follows .mixedOrders = true) {f : FuncId} {fn : Func} {c : Code} (hf : P.funcs[f]? = some fn) (hb : fn.body = some c) (hn : (fn.name == "runtime.NumGoroutine") = false)
  (hdr:qbV (gam G) c=true) {L:LpsT} (hL:qc7 P gl (lps L) c) {F:List PV→Tr PV} (h:∀ args x,(F args).run=some x→(tcall tb G L fn args).flat.run=some x):SimP P gl f fun args=>(F args).run :=
 SimP.of_tree hT hΓ hm hf hb hn hdr hL fun args x hx _=>Tr.flat_run (h args x hx)
end
theorem SimS.of_flat {P : Program} {tb : Tab} {gl : Gl} {G : GamT} (hT : qcz P tb) (hΓ : qaU P gl (gam G)) (hm : P.follows .mixedOrders = true) {f : FuncId} {fn : Func} {c : Code} (hf : P.funcs[f]? = some fn) (hb : fn.body = some c) (hn : (fn.name == "runtime.NumGoroutine") = false)
  (hdr:qbV (gam G) c=true) {L:LpsT} (hL:qc7 P gl (lps L) c) {D:List PV→Store→Tr (PV×Store)} (h:∀ args σ r,(D args σ).run=some r→(qpx tb G L fn args σ).flat.run=some r):SimS P gl f fun args σ=>(D args σ).run :=
 SimS.of_tree hT hΓ hm hf hb hn hdr hL fun args σ x σ' hx _=>Tr.flat_run (h args σ (x,σ') hx)
open Classical in
def isW {α:Type} (W:Option α) (r:α):Bool:=decide (W=some r)
@[simp] theorem qNp {α:Type} (a r:α):isW (some a) r=true↔a=r:=by simp [isW]
theorem qPf {α:Type} {W:Option α} {r:α} (h:isW W r=true):W=some r:=by simpa [isW] using h
theorem qai {α:Type} {W:Option α} {r r':α} {t:Tr α} (h:(Tr.ite (isW W r) (.ret r) t).run=some r') (k:t.run=some r'→W=some r'):W=some r':=by
 simp only [Tr.run_ite] at h
 split at h
 ·rename_i hs;rw [qPf hs];simpa using h
 ·exact k h
def gInt:PV→Int|.int _ n=>n|_=>0
def qcb:PV→Bool|.bool b=>b|_=>false
def gStr:PV→List UInt8|.str l=>l|_=>[]
def gRow:PV→List (List PV)|.sl l _=>l|_=>[]
def gCs:PV→List PV|.agg l=>l|.tup l=>l|.ref l=>l|.fn _ l=>l|.iface _ v=>[v]|_=>[]
def gAt (l:List PV) (i:Nat):PV:=l.getD i .top
def gVal (W:Option PV):PV:=W.getD .top
def gOut (W:Option (PExit×List PV×Store)) (i:Nat):PV:=match W with|some r=>r.2.1.getD i .top|none=>.top
def gObj (W:Option (PExit×List PV×Store)) (i:Nat):List PV:=match W with|some r=>r.2.2.objs.getD i []|none=>[]
def gTok (W:Option (PExit×List PV×Store)) (i:Nat):Nat:=match W with|some r=>(r.2.2.toks.getD i (0,0,0)).1|none=>0
def qfG (W:Option (PV×Store)):Option (PExit×List PV×Store):=W.map fun r=>(.ret,[r.1],r.2)
@[simp] theorem asOut_some (x:PV) (σ:Store):qfG (some (x,σ))=some (.ret,[x],σ):=rfl
@[simp] theorem qM2 (k:IntKind) (n:Int):gInt (.int k n)=n:=rfl
@[simp] theorem gBool_bool (b:Bool):qcb (.bool b)=b:=rfl
@[simp] theorem gStr_str (l:qU):gStr (.str l)=l:=rfl
@[simp] theorem gRow_sl (l:qR) (t:Tag):gRow (.sl l t)=l:=rfl
@[simp] theorem gCs_agg (l:List PV):gCs (.agg l)=l:=rfl
@[simp] theorem gCs_tup (l:List PV):gCs (.tup l)=l:=rfl
@[simp] theorem gCs_ref (l:List PV):gCs (.ref l)=l:=rfl
@[simp] theorem gCs_fn (f:FuncId) (l:List PV):gCs (.fn f l)=l:=rfl
@[simp] theorem gCs_iface (t:TypeId) (v:PV):gCs (.iface t v)=[v]:=rfl
@[simp] theorem gAt_zero (x:PV) (l:List PV):gAt (x::l) 0=x:=rfl
@[simp] theorem gAt_succ (x:PV) (l:List PV) (n:Nat):gAt (x::l) (n+1)=gAt l n:=rfl
@[simp] theorem qJm (x:PV):gVal (some x)=x:=rfl
@[simp] theorem gOut_some (e:PExit) (vs:List PV) (σ:Store) (i:Nat):gOut (some (e,vs,σ)) i=gAt vs i:=rfl
@[simp] theorem gObj_some (e:PExit) (vs:List PV) (os:qR) (ts:List (Nat×Nat×TypeId)) (tys:List TypeId) (i:Nat):gObj (some (e,vs,⟨os,ts,tys⟩)) i=os.getD i []:=rfl
@[simp] theorem gTok_some (e:PExit) (vs:List PV) (os:qR) (ts:List (Nat×Nat×TypeId)) (tys:List TypeId) (i:Nat):gTok (some (e,vs,⟨os,ts,tys⟩)) i=(ts.getD i (0,0,0)).1:=rfl
def qzz (r:Nat):Code→Option Code
 |.seq a b=>match qzz r a with
  |some c=>some c
  |none=>qzz r b
 |.cond _ a b=>match qzz r a with
  |some c=>some c
  |none=>qzz r b
 |.block _ c=>qzz r c
 |.loop c=>if rid c=r then some c else qzz r c
 |.scope c=>qzz r c
 |_=>none
def qdT (fn:Func) (r:Nat):Code:=match fn.body with
 |some c=>(qzz r c).getD .skip
 |none=>.skip
theorem qaX {P:Program} {gl:Gl} {L:Lps} {c:Code} (l:List (Nat×Code)) (h:qf2 c=l) (h1:∀ p∈l,∀ fr σ e fr' σ',L p.1 fr σ=some (e,fr',σ')→LDoes P gl p.2 fr σ e fr' σ') (hn:qeT c=[]:=by kernel_rfl):qc7 P gl L c:=qvp (by rw [h];exact h1) hn
theorem qxH {P:Program} {gl:Gl} {L:Lps} {c:Code} (l k:List (Nat×Code)) (h:qf2 c=l) (hk:qeT c=k) (h1:∀ p∈l,∀ fr σ e fr' σ',L p.1 fr σ=some (e,fr',σ')→LDoes P gl p.2 fr σ e fr' σ') (h2:∀ p∈k,∀ fr σ e fr' σ',L p.1 fr σ=some (e,fr',σ')→Does P gl p.2 fr σ e fr' σ'):qc7 P gl L c:=qfU (by rw [h];exact h1) (by rw [hk];exact h2)
end Go.Pv
set_option linter.unusedSimpArgs false
set_option linter.unusedVariables false
namespace Go.Pv
open Go.RowKit
def qm9 (s:Nat):Option Code:=if s=2 then some .ret else if 3≤s then some (.exit (s - 3)) else none
def exOf (s:Nat):PExit:=if s=2 then .ret else if 3≤s then .exit (s - 3) else .normal
def stOf:PExit→Nat
 |.normal=>0
 |.ret=>2
 |.exit id=>3+id
def isNo:PExit→Bool
 |.normal=>true
 |_=>false
def recS (r:Loop) (s:Nat):Obj:=.loop { r with state:=if s=0 then .ready else if s=1 then .busy else .done,pending:=qm9 s }
def glR (gl:Gl) (e:Nat) (r:Loop) (fr:List PV):Gl:=⟨gl.v,fun e' s=>if e'=e then recS r s else gl.lp e' s,fun e'=>if e'=e then fr else gl.fr e'⟩
def puts (fr:List PV):List Tmp→List PV→List PV
 |p::ps,x::xs=>puts (fr.set p x) ps xs
 |_,_=>fr
section
variable {gl : Gl} {H : Gh} {σ : Store} {w w' : World}
theorem qAy:∀ (ps:List Tmp) (xs:List PV) (vs:List Value) (fr:List PV) (tmps:Array Value),RelL H w fr tmps.toList→RelL H w xs vs→RelL H w (puts fr ps xs) ((ps.zip vs).foldl (fun t p=>t.setIfInBounds p.1 p.2) tmps).toList
 |[],xs,vs,fr,tmps,h,hx=>by cases hx<;>simpa [puts] using h
 |p::ps,[],vs,fr,tmps,h,hx=>by cases hx;simpa [puts] using h
 |p::ps,x::xs,vs,fr,tmps,h,hx=>by
  cases hx with
  |cons _ v _ vs hv hvs =>
   simp only [puts,List.zip_cons_cons,List.foldl_cons];exact qAy ps xs vs _ _ (by simpa using h.set p hv) hvs
theorem qNS {ps:Array Tmp} {xs:List PV} {vs:List Value} {fr:List PV} {tmps:Array Value} (h:RelL H w fr tmps.toList) (hx:RelL H w xs vs):RelL H w (puts fr ps.toList xs) ((ps.zip vs.toArray).foldl (fun t (p,v)=>t.setIfInBounds p v) tmps).toList:=by
 have:=qAy ps.toList xs vs fr tmps h hx;have e:(ps.zip vs.toArray).foldl (fun t (p,v)=>t.setIfInBounds p v) tmps=(ps.toList.zip vs).foldl (fun t p=>t.setIfInBounds p.1 p.2) tmps:=by
  rw [← Array.foldl_toList,Array.toList_zip]
 rw [e];exact this
theorem Ok.lp {gl':Gl} (h:Ok gl H σ w) (hv:gl'.v=gl.v) (hl:∀ (t:Nat) (T:Tok),H.tk[t]?=some T→T.k=0→gl'.lp T.e=gl.lp T.e∧gl'.fr T.e=gl.fr T.e):Ok gl' H σ w :=
 ⟨h.B,fun b o e=>h.gl b o (by rw [← hv];exact e),h.len,h.obj,h.nd,h.tkl,fun t T e hvv=>by
  obtain⟨h1,h2,o,he,ho⟩:=h.tok t T e hvv;refine⟨h1,h2,o,he,?_⟩;rcases ho with ho|⟨hk,q1,r,q2,q3,q4,q5,q6⟩
  ·exact .inl ho
  ·obtain⟨l1,l2⟩:=hl t T e hk;refine .inr ⟨hk,by rw [l1];exact q1,r,q2,by rw [l2];exact q3,?_,q5,?_⟩
   ·intro n hn;rw [l2];exact q4 n hn
   ·intro m hm;rw [l2];exact q6 m hm,h.tnd,h.tyl,h.ty⟩
theorem Dr.lp {gl':Gl} {w w':World} (h:Dr gl w w') (hv:gl'.v=gl.v):Dr gl' w w':=fun hg=>h (fun b=>by rw [← hv];exact hg b)
theorem Ev.lp {gl':Gl} {H':Gh} (h:Ev gl H w H' w') (hv:gl'.v=gl.v):Ev gl' H w H' w' :=
 ⟨h.B,h.base,h.aux,h.K,h.os,h.tape,h.output,h.size,h.ob,h.tok,h.prot,h.block,h.dr.lp hv,h.fix,h.old⟩
theorem qLN (h:Ok gl H σ w) {t:Nat} {T:Tok} (ht:H.tk[t]?=some T) (hk:T.k=0) {s':Nat} {r':Loop} (hr:gl.lp T.e s'=.loop r') (hframe:RelL H w (gl.fr T.e) r'.tmps.toList) :
  Ev gl H w { H with tk:=H.tk.set t { T with ver:=s' } } (w.putObj T.blk (.loop r'))∧Ok gl { H with tk:=H.tk.set t { T with ver:=s' } } { σ with toks:=σ.toks.set t (s',0,T.e) } (w.putObj T.blk (.loop r')):=by
 have htl:t < H.tk.length:=(List.getElem?_eq_some_iff.1 ht).1;have hnv:¬ T.vir:=fun hh=>hh.2 hk
 obtain⟨hB,hob,o,ho,hT⟩:=h.tok t T ht hnv;obtain⟨r0,ho0,hp0,hc0,hd0⟩:∃ r,o=.loop r∧(∀ n,T.cap≤n→qcW n (gl.fr T.e)=gl.fr T.e)∧T.cap≤H.ob.length∧(∀ m,t≤m→qc9 m (gl.fr T.e)=gl.fr T.e):=by
  rcases hT with⟨h1,_⟩|⟨_,_,r,h3,_,h5,h6,h7⟩
  ·exact absurd hk h1
  ·exact⟨r,h3,h5,h6,h7⟩
 subst ho0;have hlt:=qaC ho;have hsz:(w.putObj T.blk (.loop r')).heap.size=w.heap.size:=qdi ..;have hcase:∀ (u:Nat) (U:Tok),(H.tk.set t { T with ver:=s' })[u]?=some U→(u=t∧U={ T with ver:=s' })∨(u≠t∧H.tk[u]?=some U):=by
  intro u U hu;by_cases hut:u=t
  ·subst hut;rw [List.getElem?_set_self htl] at hu;exact .inl ⟨rfl,(Option.some.inj hu).symm⟩
  ·rw [List.getElem?_set_ne (fun e=>hut e.symm)] at hu
   exact .inr ⟨hut,hu⟩
 have hne:∀ b off,H.prot w b off→b≠T.blk:=fun b off hp e=>by
  have:=hp.2.2.2 T (List.mem_of_getElem? ht) hnv e.symm;rw [hk] at this;omega
 have hcell:∀ b off s,b≠T.blk→(w.putObj T.blk (.loop r')).cell? ⟨b,off,s⟩=w.cell? ⟨b,off,s⟩:=fun b off s e=>World.cell?_of_block (a:=⟨b,off,s⟩) (World.putObj_heap_other e)
 have ev:Ev gl H w { H with tk:=H.tk.set t { T with ver:=s' } } (w.putObj T.blk (.loop r')):=by
  refine⟨rfl,rfl,rfl,rfl,rfl,rfl,rfl,by rw [hsz];exact Nat.le_refl _,fun _ _ h=>h,fun u U hu=>?_,fun b off hp=>?_,fun b hb=>World.putObj_heap_other (by omega),.of_eq rfl,fun b ds hb=>(World.putObj_heap_other (fun e=>by subst e;rw [ho] at hb;cases hb)).trans hb,fun u U hu hk'=>?_⟩
  ·by_cases hut:u=t
   ·subst hut;rw [ht] at hu;cases hu
    exact⟨{ T with ver:=s' },List.getElem?_set_self htl,fun e=>absurd hk e,fun _=>⟨hk,rfl,rfl,rfl⟩⟩
   ·exact⟨U,by show (H.tk.set t _)[u]?=some U;rw [List.getElem?_set_ne (fun e=>hut e.symm)];exact hu,.refl U⟩
  ·refine⟨⟨by rw [hsz];exact hp.1,hp.2.1,hp.2.2.1,fun U hU hvU hbk=>?_⟩,fun s=>hcell b off s (hne b off hp)⟩
   obtain⟨u,hu⟩:=List.mem_iff_getElem?.1 hU;rcases hcase u U hu with⟨_,rfl⟩|⟨_,hu⟩
   ·exact absurd hbk.symm (hne b off hp)
   ·exact hp.2.2.2 U (List.mem_of_getElem? hu) hvU hbk
  ·rcases hcase u U hu with⟨rfl,rfl⟩|⟨_,hu⟩
   ·exact⟨T,ht,hk⟩
   ·exact⟨U,hu,hk'⟩
 refine⟨ev,⟨by rw [hsz];exact h.B,fun b o' eg=>⟨(h.gl b o' eg).1,(World.putObj_heap_other (by have:=(h.gl b o' eg).1;omega)).trans (h.gl b o' eg).2⟩,h.len,fun id b cs e1 e2=>?_,h.nd,?_,fun u U hu hvU=>?_,fun u v U V hu hv hvU hvV hbk=>?_,h.tyl,fun id b T0 cs e1 e2 e3 hTT=>?_⟩⟩
 ·obtain⟨h1,vs,ext,T0,he,hr⟩:=h.obj id b cs e1 e2;exact⟨h1,vs,ext,T0,(World.putObj_heap_other (fun e=>by subst e;rw [ho] at he;cases he)).trans he,hr.mono ev.mono⟩
 ·show (H.tk.set t _).map _=σ.toks.set t _
  rw [List.map_set,h.tkl,hk]
 ·rcases hcase u U hu with⟨rfl,rfl⟩|⟨hut,hu'⟩
  ·exact⟨hB,hob,_,World.putObj_heap_same hlt,.inr ⟨hk,hr.symm,r',rfl,hframe.mono ev.mono,hp0,hc0,hd0⟩⟩
  ·obtain⟨g1,g2,o',g3,g4⟩:=h.tok u U hu' hvU;exact⟨g1,g2,o',(World.putObj_heap_other (fun e=>hut (h.tnd u t U T hu' ht hvU hnv e))).trans g3,g4.mono ev.mono⟩
 ·rcases hcase u U hu with⟨h1,rfl⟩|⟨h1,hu'⟩<;>rcases hcase v V hv with⟨h2,rfl⟩|⟨h2,hv'⟩
  ·rw [h1,h2]
  ·exact absurd (h.tnd v t V T hv' ht hvV hnv hbk.symm) h2
  ·exact absurd (h.tnd u t U T hu' ht hvU hnv hbk) h1
  ·exact h.tnd u v U V hu' hv' hvU hvV hbk
 ·obtain⟨us,he,hs⟩:=h.ty id b T0 cs e1 e2 e3 hTT;exact⟨us,(World.putObj_heap_other (fun e=>by subst e;rw [ho] at he;cases he)).trans he,hs⟩
end
theorem qTl {P:Program} {gl:Gl} {e:Nat} {r:Loop} (hlp:gl.lp e=recS r) {Y:Nat→List PV→Store→Option (PV×Store)}
  (hY:∀ t args σ x σ',Y t args σ=some (x,σ')→∃ fr1 σ1 ex fr2 σ2,args.length=r.params.size∧Does P gl r.assign (puts (gl.fr e) r.params.toList args) σ .normal fr1 σ1∧σ1.toks[t]?=some (0,0,e) ∧
   Does P gl r.body fr1 { σ1 with toks:=σ1.toks.set t (1,0,e) } ex fr2 σ2∧σ2.toks[t]?=some (1,0,e)∧x=.bool (isNo ex)∧σ'={ σ2 with toks:=σ2.toks.set t (stOf ex,0,e) }):qrb P gl qgF (.yld e Y):=by
 intro t args σ x σ' h0 hy H w vs T hok hrel hT;obtain⟨fr1,σ1,ex,fr2,σ2,hlen,hd1,ht1,hd2,ht2,rfl,rfl⟩:=hY t args σ x σ' hy
 -- what a token of such a state is
 have look:∀ {H1:Gh} {w1:World} {τ:Store} {T1:Tok} {s:Nat},Ok gl H1 τ w1→τ.toks[t]?=some (s,0,e)→H1.tk[t]?=some T1→T1.ver=s∧T1.k=0∧T1.e=e∧w1.heap[T1.blk]?=some (recS r s)∧RelL H1 w1 (gl.fr e) r.tmps.toList:=by
  intro H1 w1 τ T1 s hk1 hs hT1;have e1:(T1.ver,T1.k,T1.e)=(s,0,e):=by
   rw [← hk1.tkl,List.getElem?_map,hT1] at hs;simpa using hs
  simp only [Prod.mk.injEq] at e1;obtain⟨a1,a2,a3⟩:=e1;obtain⟨_,_,o,ho,hTO⟩:=hk1.tok t T1 hT1 (fun hh=>hh.2 (by assumption))
  rcases hTO with⟨b1,_⟩|⟨_,b2,r1,b3,b4,_⟩
  ·exact absurd a2 b1
  ·rw [a1,a3,hlp] at b2;rw [b2] at ho b3;refine⟨a1,a2,a3,ho,?_⟩;rw [a3] at b4;unfold recS at b3;cases b3
   exact b4
 obtain⟨v0,k0,ee0,hl0,hf0⟩:=look hok h0 hT;have hsz:vs.toArray.size=r.params.size:=by rw [← hlen,hrel.len];simp
 have hrun:=run_yield (P:=P) (args:=vs.toArray) hl0 hsz;refine⟨_,_,_,_,hrun,?_⟩;have hRin:RIn (some T.blk) { H with K:=w.heap.size }:=fun l hl=>by cases hl;exact⟨t,T,hT,k0,rfl⟩
 refine roundIn_of_wpIn (F:=Fence.wide) (n:=0) (l:=T.blk) trivial ?_;have hst0:St gl { H with K:=w.heap.size } w (puts (gl.fr e) r.params.toList args) σ { tmps:=(r.params.zip vs.toArray).foldl (fun t (p,v)=>t.setIfInBounds p v) r.tmps,defers:=[] } w :=
  ⟨_,Ev.refl _ w,hok.setK _,(qNS hf0 hrel).mono (Mono.setK' H w _),Marks.nil (Nat.le_refl _)⟩
 refine hd1 (some T.blk) 0 _ w hRin _ _ w hst0 fun a1 w1 hst1=>?_
 obtain⟨H1,hev1,hok1,hfr1,hm1⟩:=hst1;obtain⟨T1,hT1,hu1⟩:=hev1.tok t T hT;obtain⟨_,hblk1,_,_⟩:=hu1.lp k0;obtain⟨v1,k1,ee1,hl1,hf1⟩:=look hok1 ht1 hT1;rw [hblk1] at hl1;have hbr:=run_beginRound (P:=P) hl1 rfl;refine⟨_,hbr,?_⟩;have hs1:=qLN (s':=1) (r':={ r with state:=.busy,pending:=qm9 1 }) hok1 hT1 k1 (by rw [ee1,hlp];rfl) (by rw [ee1];exact hf1)
 rw [ee1,hblk1] at hs1;obtain⟨hev2,hok2⟩:=hs1;have hst2:St gl { H with K:=w.heap.size } w fr1 { σ1 with toks:=σ1.toks.set t (1,0,e) } a1 (w1.putObj T.blk (.loop { r with state:=.busy,pending:=qm9 1 })):=⟨_,hev1.trans hev2,hok2,hfr1.mono hev2.mono,hm1.ev hev2⟩
 refine hd2 (some T.blk) 0 _ w hRin _ _ _ hst2 fun a3 w3 hst3=>?_
 obtain⟨H3,hev3,hok3,hfr3,hm3⟩:=hst3;obtain⟨T3,hT3,hu3⟩:=hev3.tok t T hT;obtain⟨_,hblk3,_,_⟩:=hu3.lp k0;obtain⟨v3,k3,ee3,hl3,hf3⟩:=look hok3 ht2 hT3;rw [hblk3] at hl3
 -- the round's end
 have fin:∀ (jump:Option Code) (s:Nat),recS r s=.loop { r with state:=if jump.isNone then .ready else .done,pending:=jump }→∀ b:Bool,jump.isNone=b →
   ∃ v w',(Instr.endRound T.blk jump).run P w3=.ok v w'∧∃ v',(Ending.returned v)=.returned v'∧Post gl H w (.bool b) { σ2 with toks:=σ2.toks.set t (s,0,e) } v' w':=by
  intro jump s hs b hb;subst hb;have hr:=run_endRound (P:=P) jump hl3;refine⟨_,_,hr,_,rfl,?_⟩;have hs4:=qLN (s':=s) (r':={ r with state:=if jump.isNone then .ready else .done,pending:=jump }) hok3 hT3 k3 (by rw [ee3,hlp];exact hs) (by rw [ee3];exact hf3)
  rw [ee3,hblk3] at hs4;obtain⟨hev4,hok4⟩:=hs4;exact⟨_,(hev3.trans hev4).setK,hok4.setK _,.bool _⟩
 cases ex with
 |normal=>exact fin none 0 rfl true rfl
 |ret=>exact fin (some .ret) 2 rfl false rfl
 |exit id =>
  refine fin (some (.exit id)) (3+id) ?_ false rfl;have h1:¬ (3+id=0):=by omega
  have h2:¬ (3+id=1):=by omega
  have h3:¬ (3+id=2):=by omega
  have h4:3≤3+id:=by omega
  simp only [recS,qm9,h1,h2,h3,h4,if_true,if_false,Nat.add_sub_cancel_left];rfl
section
variable {gl : Gl} {H : Gh} {σ : Store} {w w' : World}
theorem qQw (h:Ok gl H σ w) {e s:Nat} {r:Loop} (he:gl.lp e s=.loop r) (hfr:RelL H w (gl.fr e) r.tmps.toList) (hp:∀ n,H.ob.length≤n→qcW n (gl.fr e)=gl.fr e) (ht:∀ m,H.tk.length≤m→qc9 m (gl.fr e)=gl.fr e) :
  Mono H w { H with tk:=H.tk++[⟨w.heap.size,s,H.ob.length,0,e⟩] } (w.alloc (.loop r))∧Ok gl { H with tk:=H.tk++[⟨w.heap.size,s,H.ob.length,0,e⟩] } { σ with toks:=σ.toks++[(s,0,e)] } (w.alloc (.loop r)) ∧
   (H.tk++[(⟨w.heap.size,s,H.ob.length,0,e⟩:Tok)])[σ.toks.length]?=some ⟨w.heap.size,s,H.ob.length,0,e⟩:=by
 have hb:=qcc w (.loop r);have hlen:H.tk.length=σ.toks.length:=by rw [← h.tkl];simp
 have hcase:∀ (t:Nat) (T:Tok),(H.tk++[(⟨w.heap.size,s,H.ob.length,0,e⟩:Tok)])[t]?=some T→H.tk[t]?=some T∨(t=H.tk.length∧T=⟨w.heap.size,s,H.ob.length,0,e⟩):=by
  intro t T ht;by_cases htl:t < H.tk.length
  ·rw [List.getElem?_append_left htl] at ht;exact .inl ht
  ·have hlt:=(List.getElem?_eq_some_iff.1 ht).1;have:t=H.tk.length:=by simp at hlt;omega
   subst this;rw [List.getElem?_append_right (Nat.le_refl _)] at ht;simp at ht;exact .inr ⟨rfl,ht.symm⟩
 have hprot:∀ b off,H.prot w b off→({ H with tk:=H.tk++[⟨w.heap.size,s,H.ob.length,0,e⟩] }:Gh).prot (w.alloc (.loop r)) b off:=fun b off hp=>by
  refine⟨Nat.lt_of_lt_of_le hp.1 hb.size,hp.2.1,hp.2.2.1,fun T hT hvv hbk=>?_⟩
  rcases List.mem_append.1 hT with hT|hT
  ·exact hp.2.2.2 T hT hvv hbk
  ·simp at hT;subst hT;have:=hp.1;simp at hbk;omega
 have mo:Mono H w { H with tk:=H.tk++[⟨w.heap.size,s,H.ob.length,0,e⟩] } (w.alloc (.loop r)):=by
  refine⟨fun _ _ h=>h,fun t T ht=>?_,fun b off hp=>⟨hprot b off hp,fun s=>hb.cell (p:=⟨b,off,s⟩) hp.1⟩,fun b off hp=>?_⟩
  ·refine⟨T,?_,.refl T⟩;show (H.tk++[_])[t]?=some T
   rw [List.getElem?_append_left (List.getElem?_eq_some_iff.1 ht).1];exact ht
  ·rcases hp with hp|hp
   ·exact⟨.inl (hprot b off hp),fun s=>hb.cell (p:=⟨b,off,s⟩) hp.1⟩
   ·exact⟨.inr hp,fun s=>hb.cell (p:=⟨b,off,s⟩) (Nat.lt_of_lt_of_le hp.1 h.B)⟩
 refine⟨mo,⟨Nat.le_trans h.B hb.size,fun b o eg=>⟨(h.gl b o eg).1,(hb.block b (qaC (h.gl b o eg).2)).trans (h.gl b o eg).2⟩,h.len,fun id b cs e1 e2=>?_,h.nd,by simp [h.tkl],fun t T ht' hvv=>?_,fun t u T U ht hu hvT hvU hbk=>?_,h.tyl,fun id b T' c1 e1 e2 e3 hTT=>?_⟩,?_⟩
 ·obtain⟨hB,vs,ext,T,he,hr⟩:=h.obj id b cs e1 e2;exact⟨hB,vs,ext,T,(hb.block b (qaC he)).trans he,hr.mono mo⟩
 ·rcases hcase t T ht' with ht'|⟨rfl,rfl⟩
  ·obtain⟨hB,ho,o,he,hr⟩:=h.tok t T ht' hvv;exact⟨hB,ho,o,(hb.block _ (qaC he)).trans he,hr.mono mo⟩
  ·exact⟨h.B,fun hm=>Nat.lt_irrefl _ (h.ob_at hm).2,_,heap_alloc_new w _,.inr ⟨rfl,he.symm,r,rfl,hfr.mono mo,hp,Nat.le_refl _,ht⟩⟩
 ·rcases hcase t T ht with ht|⟨h1,rfl⟩<;>rcases hcase u U hu with hu|⟨h2,rfl⟩
  ·exact h.tnd t u T U ht hu hvT hvU hbk
  ·have:=(h.tk_at (List.mem_of_getElem? ht) hvT).2;simp at hbk;omega
  ·have:=(h.tk_at (List.mem_of_getElem? hu) hvU).2;simp at hbk;omega
  ·rw [h1,h2]
 ·obtain⟨us,he,hs⟩:=h.ty id b T' c1 e1 e2 e3 hTT;exact⟨us,(hb.block b (qaC he)).trans he,hs⟩
 ·rw [← hlen,List.getElem?_append_right (Nat.le_refl _)];simp
theorem qAo {D:Nat} {r r':Loop} (hd:w.heap[D]?=some (.loop r)):Mono H w H (w.putObj D (.loop r')):=by
 have hs:(w.putObj D (.loop r')).heap.size=w.heap.size:=qdi ..;have hlt:=qaC hd;have hc:∀ b off s,(w.putObj D (.loop r')).cell? ⟨b,off,s⟩=w.cell? ⟨b,off,s⟩:=fun b off s=>by
  by_cases e:b=D
  ·subst e;simp only [World.cell?,World.putObj_heap_same hlt,hd]
  ·exact World.cell?_of_block (a:=⟨b,off,s⟩) (World.putObj_heap_other e)
 refine⟨fun _ _ h=>h,fun t T h=>⟨T,h,.refl T⟩,fun b off hp=>⟨⟨by rw [hs];exact hp.1,hp.2⟩,hc b off⟩,fun b off hp=>⟨?_,hc b off⟩⟩
 rcases hp with hp|hp
 ·exact .inl ⟨by rw [hs];exact hp.1,hp.2⟩
 ·exact .inr hp
theorem qRJ {D:Nat} {r r':Loop} (h:Ok gl H σ w) (hB:H.B≤D) (hd:w.heap[D]?=some (.loop r)) (hn:∀ (t:Nat) (T:Tok),H.tk[t]?=some T→¬ T.vir→T.blk≠D):Ok gl H σ (w.putObj D (.loop r')) where
 B:=by rw [qdi];exact h.B
 gl:=fun b o e=>⟨(h.gl b o e).1,(World.putObj_heap_other (by have:=(h.gl b o e).1;omega)).trans (h.gl b o e).2⟩
 len:=h.len
 obj:=fun id b cs e1 e2=>by
  obtain⟨h1,vs,ext,T,he,hr⟩:=h.obj id b cs e1 e2;have hne:b≠D:=fun e=>by subst e;rw [he] at hd;cases hd
  exact⟨h1,vs,ext,T,(World.putObj_heap_other hne).trans he,hr.mono (qAo hd)⟩
 nd:=h.nd
 tkl:=h.tkl
 tok:=fun t T e hvv=>by
  obtain⟨h1,h2,o,he,ho⟩:=h.tok t T e hvv;exact⟨h1,h2,o,(World.putObj_heap_other (hn t T e hvv)).trans he,ho.mono (qAo hd)⟩
 tnd:=h.tnd
 tyl:=h.tyl
 ty:=fun id b T cs e1 e2 e3 hT=>by
  obtain⟨us,he,hs⟩:=h.ty id b T cs e1 e2 e3 hT;have hne:b≠D:=fun e=>by subst e;rw [he] at hd;cases hd
  exact⟨us,(World.putObj_heap_other hne).trans he,hs⟩
end
theorem qGz {P:Program} {gl:Gl} {g:Operand} {ps:Array Tmp} {assign body:Code} {fr:List PV} {σ:Store} {gf:FuncId} {caps:List PV} (hg:ev fr g=.fn gf caps) (eid:Nat)
  (hent : ∃ fn, P.funcs[gf]? = some fn ∧ (fn.name == "runtime.NumGoroutine") = false ∧ fn.body.isNone = false)
  {Y:Nat→List PV→Store→Option (PV×Store)} {D:List PV→Store→Option (PV×Store)}
  (hfresh:∀ (i v k e:Nat),σ.toks[i]?=some (v,k,e)→k=0→e≠eid) (hpd:∀ n,σ.objs.length≤n→qcW n fr=fr) (htd:∀ m,σ.toks.length≤m→qc9 m fr=fr)
  (hI:∀ gl':Gl,gl'.v=gl.v→qrb P gl' qgF (.yld eid Y)→SimS P gl' gf D)
  (hY:∀ gl':Gl,gl'.v=gl.v→∀ t args σ x σ',Y t args σ=some (x,σ')→∃ fr1 σ1 ex fr2 σ2,args.length=ps.size∧Does P gl' assign (puts fr ps.toList args) σ .normal fr1 σ1∧σ1.toks[t]?=some (0,0,eid) ∧
   Does P gl' body fr1 { σ1 with toks:=σ1.toks.set t (1,0,eid) } ex fr2 σ2∧σ2.toks[t]?=some (1,0,eid)∧x=.bool (isNo ex)∧σ'={ σ2 with toks:=σ2.toks.set t (stOf ex,0,eid) })
  {x:PV} {σ2:Store} {s:Nat} (hD:D (.yld σ.toks.length::caps) { σ with toks:=σ.toks++[(0,0,eid)] }=some (x,σ2)) (hs:σ2.toks[σ.toks.length]?=some (s,0,eid)) (hs1:s≠1) :
  Does P gl (.rangeFunc g ps assign body) fr σ (exOf s) fr (qgG σ.toks.length σ2):=by
 intro r n H0 w0 hR Q a w hst hq;obtain⟨H,hev,hok,hfr,hmk⟩:=hst;have hHt:H.tk.length=σ.toks.length:=by rw [← hok.tkl];simp
 have hrg:=qbT hfr g;rw [hg] at hrg;generalize hv:a.eval g=gv at hrg;cases hrg with
 |fn _ _ lb hcaps =>
 refine wpIn_rangeFunc ?_;intro fn hfn
 -- entering: the record;at an outermost loop the block of the rounds' deferred calls
 obtain⟨mark,W0,rec,hent',hb0,hdr0,hrecf,hmark⟩:∃ (mark:List Deferred) (W0:World) (rec:Loop),(Instr.enterLoop fn a.tmps ps assign body (rnd r).round).run P w=.ok (W0.heap.size,mark) (W0.alloc (.loop rec)) ∧
   Below w.heap.size w W0∧W0.drawn=w.drawn∧(rec.state=.ready∧rec.pending=none∧rec.tmps=a.tmps∧rec.params=ps∧rec.assign=assign∧rec.body=body)∧Marks H.K (mark++a.defers) W0:=by
  cases r with
  |none =>
   refine⟨[{ target:=.collected w.heap.size,args:=#[] }],w.alloc (.deferred (some [])),{ state:=.ready,pending:=none,fn,tmps:=a.tmps,params:=ps,assign,body,defers:=w.heap.size },?_,qcc w _,rfl,⟨rfl,rfl,rfl,rfl,rfl,rfl⟩,?_⟩
   ·have:=run_enterLoop_outer (P:=P) (w:=w) fn a.tmps ps assign body;rw [show w.heap.size+1=(w.alloc (.deferred (some []))).heap.size from by simp] at this
    exact this
   ·obtain⟨k1,Ds,k2,k3,k4⟩:=hmk;refine⟨Nat.le_trans k1 (by simp),w.heap.size::Ds,by rw [k2];rfl,List.nodup_cons.2 ⟨fun hm=>?_,k3⟩,fun D' hD'=>?_⟩
    ·have:=qaC (k4 _ hm).2;omega
    ·cases hD' with
     |head=>exact⟨k1,World.alloc_heap_new w _⟩
     |tail _ hD'=>exact⟨(k4 D' hD').1,((qcc w _).block D' (qaC (k4 D' hD').2)).trans (k4 D' hD').2⟩
  |some l0 =>
   obtain⟨t0,T0,ht0,hk0,rfl⟩:=hR.ev hev l0 rfl;obtain⟨_,_,o,ho,hTO⟩:=hok.tok t0 T0 ht0 (fun hh=>hh.2 hk0)
   obtain⟨r0,rfl⟩:∃ r0,o=.loop r0:=by
    rcases hTO with⟨h1,_⟩|⟨_,_,r0,h3,_⟩
    ·exact absurd hk0 h1
    ·exact⟨r0,h3⟩
   exact⟨[],w,{ state:=.ready,pending:=none,fn,tmps:=a.tmps,params:=ps,assign,body,defers:=r0.defers },run_enterLoop_inner ho fn a.tmps ps assign body,Below.refl _ w,rfl,⟨rfl,rfl,rfl,rfl,rfl,rfl⟩,hmk⟩
 obtain⟨q1,q2,q3,q4,q5,q6⟩:=hrecf
 -- the world with the record
 obtain⟨gl',hgl'⟩:∃ gl',gl'=glR gl eid rec fr:=⟨_,rfl⟩;have hgv:gl'.v=gl.v:=by rw [hgl'];rfl
 have hglp:gl'.lp eid=recS rec:=by rw [hgl'];simp [glR]
 have hgfr:gl'.fr eid=fr:=by rw [hgl'];simp [glR]
 have hother:∀ e,e≠eid→gl'.lp e=gl.lp e∧gl'.fr e=gl.fr e:=fun e he=>by rw [hgl'];constructor<;>simp [glR,he]
 have hfreshT:∀ (t:Nat) (T:Tok),H.tk[t]?=some T→T.k=0→T.e≠eid:=fun t T hT hk=>by
  refine hfresh t T.ver T.k T.e ?_ hk;rw [← hok.tkl,List.getElem?_map,hT];rfl
 have hok0:Ok gl' H σ W0:=(hok.of_below hb0).lp hgv fun t T hT hk=>hother T.e (hfreshT t T hT hk)
 have hm0:Mono H w H W0:=Mono.of_below hok.B hb0;have hrs:gl'.lp eid 0=.loop rec:=by
  rw [hglp];unfold recS qm9;simp only [if_true];rw [← q1,if_neg (by omega:¬ (0=2)),if_neg (by omega:¬ (3≤0)),← q2]
 obtain⟨hm1,hok1,hT1⟩:=qQw (e:=eid) (s:=0) hok0 hrs (by rw [hgfr,q3];exact hfr.mono hm0) (by rw [hgfr];intro n hn;exact hpd n (by rw [← hok.len];exact hn)) (by rw [hgfr];intro m hm;exact htd m (by rw [← hHt];exact hm))
 obtain⟨T,hT⟩:∃ T:Tok,T=⟨W0.heap.size,0,H.ob.length,0,eid⟩:=⟨_,rfl⟩;obtain⟨H1,hH1⟩:∃ H1:Gh,H1={ H with tk:=H.tk++[T] }:=⟨_,rfl⟩
 rw [← hT] at hm1 hok1 hT1;rw [← hH1] at hm1 hok1;obtain⟨W1,hW1⟩:∃ W1,W1=W0.alloc (.loop rec):=⟨_,rfl⟩;rw [← hW1] at hm1 hok1;have hb1:Below w.heap.size w W1:=by rw [hW1];exact hb0.alloc hb0.size _
 -- the call
 have hcon:qrb P gl' qgF (.yld eid Y):=qTl (r:=rec) hglp (by rw [hgfr,q4,q5,q6];exact hY gl' hgv)
 have hS:=hI gl' hgv hcon;have hyr:Rel H1 W1 (.yld σ.toks.length) (.func (.yield W0.heap.size) #[] #[]):=by
  have:=Rel.yld (H:=H1) (w:=W1) σ.toks.length T (by rw [hH1];exact hT1) (by rw [hT])
  rw [show T.blk=W0.heap.size from by rw [hT]] at this
  exact this
 have hcall:=hS.run _ _ _ _ hD H1 W1 (.func (.yield W0.heap.size) #[] #[]::lb) hok1 (.cons _ _ _ _ hyr (hcaps.mono (hm0.trans hm1)));obtain⟨gfn,hgf,hgn,hgb⟩:=hent;refine⟨W0.heap.size,mark,W1,{ target:=.fn (.func gf) lb.toArray,args:=#[.func (.yield W0.heap.size) #[] #[]] },W1,gf,(.func (.yield W0.heap.size) #[] #[]::lb).toArray,W1,by rw [hW1];exact hent',?_,fun _ _=>trivial,?_,(fun h=>by cases h),?_⟩
 ·simp only [resolve,hv];simp [go_sem]
 ·have e1:(#[(Value.func (.yield W0.heap.size) #[] #[])]:Array Value)++lb.toArray=(Value.func (.yield W0.heap.size) #[] #[]::lb).toArray:=by
   apply Array.ext';simp
  simp only [invoke,callFunc,Sem.run_bind,run_program,Result.andThen_ok,hgf,hgn,hgb,Bool.false_eq_true,if_false,Sem.run_pure,e1]
 ·refine CallsIn.mono (qth hcall) ?_;rintro e w3 ⟨v,rfl,H2,hevI,hok2,hv2⟩
  -- behind the function
  have hsz2:σ2.toks.length=H2.tk.length:=by rw [← hok2.tkl];simp
  obtain⟨T2,hT2,hu2⟩:=hevI.tok σ.toks.length T (by rw [hH1];exact hT1)
  obtain⟨k2,blk2,ee2,cap2⟩:=hu2.lp (by rw [hT])
  have ev2:T2.ver=s∧T2.e=eid:=by
   have:(T2.ver,T2.k,T2.e)=(s,0,eid):=by
    rw [← hok2.tkl,List.getElem?_map,hT2] at hs;simpa using hs
   simp only [Prod.mk.injEq] at this;exact⟨this.1,this.2.2⟩
  have blk2':T2.blk=W0.heap.size:=by rw [blk2,hT]
  have hT2nv:¬ T2.vir:=fun hh=>hh.2 k2
  obtain⟨hB2,_,o2,ho2,hTO2⟩:=hok2.tok _ T2 hT2 hT2nv;have hl2:w3.heap[W0.heap.size]?=some (recS rec s):=by
   rcases hTO2 with⟨h1,_⟩|⟨_,h2,_⟩
   ·exact absurd k2 h1
   ·rw [ev2.1,ev2.2,hglp] at h2;rw [← blk2',ho2,h2]
  rw [blk2'] at hB2;have hBl:H.B≤W0.heap.size:=by rw [hevI.B,hH1] at hB2;exact hB2
  have hend:=run_endLoop (P:=P) (w:=w3) (l:=W0.heap.size) (r:={ rec with state:=if s=0 then .ready else if s=1 then .busy else .done,pending:=qm9 s }) hl2 (by
   by_cases h0:s=0
   ·simp [h0]
   ·simp [h0,hs1])
  obtain⟨rx,hrx⟩:∃ rx:Loop,rx={ rec with state:=.exhausted,pending:=qm9 s }:=⟨_,rfl⟩
  obtain⟨w4,hw4⟩:∃ w4,w4=w3.putObj W0.heap.size (.loop rx):=⟨_,rfl⟩;have hend':(Instr.endLoop W0.heap.size).run P w3=.ok (qm9 s) w4:=by rw [hw4,hrx];exact hend
  -- the record is forgotten
  have hsz4:w4.heap.size=w3.heap.size:=by rw [hw4];exact qdi ..
  have hle1:w.heap.size≤W0.heap.size:=hb0.size;have hoth:∀ b,b≠W0.heap.size→w4.heap[b]?=w3.heap[b]?:=fun b hb=>by rw [hw4];exact World.putObj_heap_other hb
  have hH1t:∀ u,u < σ.toks.length→H1.tk[u]?=H.tk[u]?:=fun u hu=>by
   rw [hH1];show (H.tk++[T])[u]?=H.tk[u]?
   rw [List.getElem?_append_left (by omega)]
  have htrim:∀ u U,(H2.trim σ.toks.length).tk[u]?=some U→u < σ.toks.length∧H2.tk[u]?=some U:=fun u U hu=>qeA hu
  have hokt:=qB0 (m:=σ.toks.length) hok2;have hnb:∀ (u:Nat) (U:Tok),(H2.trim σ.toks.length).tk[u]?=some U→¬ U.vir→U.blk≠W0.heap.size:=fun u U hu hvU e=>by
   obtain⟨h1,h2⟩:=htrim u U hu;have:=hok2.tnd u σ.toks.length U T2 h2 hT2 hvU hT2nv (by rw [e,blk2'])
   omega
  have hok4:Ok gl' (H2.trim σ.toks.length) (qgG σ.toks.length σ2) w4:=by
   rw [hw4];exact qRJ hokt (by show H2.B≤_;rw [hevI.B,hH1];exact hBl) hl2 hnb
  have hold:∀ (u:Nat) (U:Tok),(H2.trim σ.toks.length).tk[u]?=some U→U.k=0→∃ U0,H.tk[u]?=some U0∧U0.k=0∧U.e=U0.e:=fun u U hu hk=>by
   obtain⟨h1,h2⟩:=htrim u U hu;obtain⟨U0,g1,g2⟩:=hevI.old u U h2 hk;obtain⟨U1,g3,g4⟩:=hevI.tok u U0 g1;rw [h2] at g3;cases g3
   rw [hH1t u h1] at g1;exact⟨U0,g1,g2,(g4.lp g2).2.2.1⟩
  have hok5:Ok gl (H2.trim σ.toks.length) (qgG σ.toks.length σ2) w4:=hok4.lp hgv.symm fun u U hu hk=>by
   obtain⟨U0,g1,g2,g3⟩:=hold u U hu hk;have:=hother U.e (by rw [g3];exact hfreshT u U0 g1 g2)
   exact⟨this.1.symm,this.2.symm⟩
  have hev5:Ev gl H w (H2.trim σ.toks.length) w4:=by
   refine⟨hevI.B.trans (by rw [hH1]),hevI.base.trans (by rw [hH1]),hevI.aux.trans (by rw [hH1]),hevI.K.trans (by rw [hH1]),?_,?_,?_,?_,fun id b hb=>hevI.ob id b (by rw [hH1];exact hb),fun u U hu=>?_,fun b off hp=>?_,fun b hb=>?_,?_,fun b ds hb=>?_,fun u U hu hk=>?_⟩
   ·rw [hw4];exact hevI.os.trans hb1.os
   ·rw [hw4];exact hevI.tape.trans hb1.tape
   ·rw [hw4];exact hevI.output.trans hb1.output
   ·rw [hsz4];exact Nat.le_trans hb1.size hevI.size
   ·have hlt:u < σ.toks.length:=by have:=(List.getElem?_eq_some_iff.1 hu).1;omega
    obtain⟨U',g1,g2⟩:=hevI.tok u U (by rw [hH1t u hlt];exact hu)
    exact⟨U',by simp only [Gh.trim];rw [List.getElem?_take,if_pos hlt];exact g1,g2⟩
   ·have hbne:b≠W0.heap.size:=fun e=>by have:=hp.1;omega
    obtain⟨p1,c1⟩:=(hm0.trans hm1).prot b off hp;obtain⟨p2,c2⟩:=hevI.prot b off p1;have p3:=qkH (m:=σ.toks.length) p2;exact⟨⟨by rw [hsz4];exact p3.1,p3.2⟩,fun s=>(World.cell?_of_block (a:=⟨b,off,s⟩) (hoth b hbne)).trans ((c2 s).trans (c1 s))⟩
   ·exact (hoth b (by omega)).trans ((hevI.block b (by rw [hH1];exact hb)).trans (hb1.block b (Nat.lt_of_lt_of_le hb hok.B)))
   ·intro hg;have h1:w.drawn≤W1.drawn:=by rw [hW1];show w.drawn≤W0.drawn;rw [hdr0];exact Nat.le_refl _
    have h2:=hevI.dr (fun b=>by rw [hgv];exact hg b)
    rw [hw4];exact Nat.le_trans h1 h2
   ·have hlt:=qaC hb;exact (hoth b (by omega)).trans (hevI.fix b ds ((hb1.block b hlt).trans hb))
   ·obtain⟨U0,g1,g2,_⟩:=hold u U hu hk;exact⟨U0,g1,g2⟩
  have hmk5:Marks (H2.trim σ.toks.length).K (mark++a.defers) w4:=by
   obtain⟨m1,Ds,m2,m3,m4⟩:=hmark;refine⟨?_,Ds,m2,m3,fun D' hD'=>⟨?_,?_⟩⟩
   ·rw [hev5.K];exact Nat.le_trans m1 (by rw [hsz4];refine Nat.le_trans ?_ hevI.size;rw [hW1];simp)
   ·rw [hev5.K];exact (m4 D' hD').1
   ·have hlt:=qaC (m4 D' hD').2;refine (hoth D' (by omega)).trans (hevI.fix D' _ ?_)
    rw [hW1];exact ((qcc W0 _).block D' hlt).trans (m4 D' hD').2
  have hst5:St gl H0 w0 fr (qgG σ.toks.length σ2) { a with defers:=mark++a.defers } w4:=⟨_,hev.trans hev5,hok5,hfr.mono hev5.mono,hmk5⟩
  have hfin:=hq _ _ hst5;refine⟨qm9 s,w4,hend',?_⟩;unfold exOf at hfin;unfold qm9;by_cases h2:s=2
  ·simp only [h2,if_true] at hfin ⊢;exact wpIn_ret hfin
  ·by_cases h3:3≤s
   ·simp only [h2,h3,if_true,if_false] at hfin ⊢;exact wpIn_exit hfin
   ·simp only [h2,h3,if_false] at hfin ⊢;exact hfin
end Go.Pv
set_option linter.unusedSimpArgs false
set_option linter.unusedVariables false
namespace Go.Pv
open Go.RowKit Tr
mutual
def qre (n m:Nat):PV→Bool
 |.ptr id _=>Nat.blt id n
 |.osl id _ _ _=>Nat.blt id n
 |.yld t=>Nat.blt t m
 |.sl _ _=>false
 |.ref cs=>qq5 n m cs
 |.fn _ cs=>qq5 n m cs
 |.iface _ v=>qre n m v
 |.agg cs=>qq5 n m cs
 |.tup cs=>qq5 n m cs
 |_=>true
def qq5 (n m:Nat):List PV→Bool
 |[]=>true
 |x::xs=>qre n m x&&qq5 n m xs
end
mutual
theorem qFp {n m:Nat}:∀ {x:PV},qre n m x=true→(∀ n',n≤n'→qew n' x=x)∧∀ m',m≤m'→dropT m' x=x
 |.top,_=>⟨fun _ _=>rfl,fun _ _=>rfl⟩
 |.bool _,_=>⟨fun _ _=>rfl,fun _ _=>rfl⟩
 |.int _ _,_=>⟨fun _ _=>rfl,fun _ _=>rfl⟩
 |.str _,_=>⟨fun _ _=>rfl,fun _ _=>rfl⟩
 |.nilp,_=>⟨fun _ _=>rfl,fun _ _=>rfl⟩
 |.nilf,_=>⟨fun _ _=>rfl,fun _ _=>rfl⟩
 |.nili,_=>⟨fun _ _=>rfl,fun _ _=>rfl⟩
 |.ptr id off,h=>by
  have h:id < n:=by simpa [qre] using h
  refine⟨fun n' hn=>?_,fun _ _=>rfl⟩
  simp only [qew];rw [show decide (id < n')=true from by simp;omega]
  rfl
 |.osl id off len k,h=>by
  have h:id < n:=by simpa [qre] using h
  refine⟨fun n' hn=>?_,fun _ _=>rfl⟩
  simp only [qew];rw [show decide (id < n')=true from by simp;omega]
  rfl
 |.yld t,h=>by
  have h:t < m:=by simpa [qre] using h
  refine⟨fun _ _=>rfl,fun m' hm=>?_⟩
  simp only [dropT];rw [show decide (t < m')=true from by simp;omega]
  rfl
 |.sl _ _,h=>by simp [qre] at h
 |.ref cs,h=>by
  simp only [qre] at h
  have:=qi1 h;exact⟨fun n' hn=>by simp only [qew];rw [this.1 n' hn],fun m' hm=>by simp only [dropT];rw [this.2 m' hm]⟩
 |.fn f cs,h=>by
  simp only [qre] at h
  have:=qi1 h;exact⟨fun n' hn=>by simp only [qew];rw [this.1 n' hn],fun m' hm=>by simp only [dropT];rw [this.2 m' hm]⟩
 |.iface t v,h=>by
  simp only [qre] at h
  have:=qFp h;exact⟨fun n' hn=>by simp only [qew];rw [this.1 n' hn],fun m' hm=>by simp only [dropT];rw [this.2 m' hm]⟩
 |.agg cs,h=>by
  simp only [qre] at h
  have:=qi1 h;exact⟨fun n' hn=>by simp only [qew];rw [this.1 n' hn],fun m' hm=>by simp only [dropT];rw [this.2 m' hm]⟩
 |.tup cs,h=>by
  simp only [qre] at h
  have:=qi1 h;exact⟨fun n' hn=>by simp only [qew];rw [this.1 n' hn],fun m' hm=>by simp only [dropT];rw [this.2 m' hm]⟩
theorem qi1 {n m:Nat}:∀ {xs:List PV},qq5 n m xs=true→(∀ n',n≤n'→qcW n' xs=xs)∧∀ m',m≤m'→qc9 m' xs=xs
 |[],_=>⟨fun _ _=>rfl,fun _ _=>rfl⟩
 |x::xs,h=>by
  simp only [qq5,Bool.and_eq_true] at h
  have h1:=qFp h.1;have h2:=qi1 h.2;exact⟨fun n' hn=>by simp only [qcW];rw [h1.1 n' hn,h2.1 n' hn],fun m' hm=>by simp only [qc9];rw [h1.2 m' hm,h2.2 m' hm]⟩
end
def qQF:PV→PV→Bool
 |.top,.top=>true
 |.nilp,.nilp=>true
 |.ptr a b,.ptr c d=>Nat.beq a c&&Nat.beq b d
 |_,_=>false
def qEg:List PV→List PV→Bool
 |[],[]=>true
 |x::xs,y::ys=>qQF x y&&qEg xs ys
 |_,_=>false
theorem qNF:∀ {x y:PV},qQF x y=true→x=y:=by
 intro x y h;unfold qQF at h
 split at h
 ·rfl
 ·rfl
 ·simp only [Bool.and_eq_true] at h
  rw [Nat.eq_of_beq_eq_true h.1,Nat.eq_of_beq_eq_true h.2]
 ·cases h
theorem qzS:∀ {xs ys:List PV},qEg xs ys=true→xs=ys
 |[],[],_=>rfl
 |x::xs,y::ys,h=>by
  simp only [qEg,Bool.and_eq_true] at h
  rw [qNF h.1,qzS h.2]
 |[],_::_,h=>by cases h
 |_::_,[],h=>by cases h
structure RI where
 nt:Nat
 ss:List Nat
 bs:List Nat
 vs:List PV
 ps:List Nat
 e:Nat
def RI.fr (I:RI):List PV:=Go.Pv.mk I.nt (I.bs.zip I.vs)
def qGD (k:Nat):Code→Option Code
 |.seq a b=>match qGD k a with
  |some c=>some c
  |none=>qGD k b
 |.cond _ a b=>match qGD k a with
  |some c=>some c
  |none=>qGD k b
 |.block _ c=>qGD k c
 |.rangeFunc g ps x y=>if rfid x y=k then some (.rangeFunc g ps x y) else none
 |_=>none
def rngC (fn:Func) (k:Nat):Code:=match fn.body with
 |some c=>(qGD k c).getD .skip
 |none=>.skip
def rngX:Code→Code
 |.rangeFunc _ _ x _=>x
 |_=>.skip
def rngY:Code→Code
 |.rangeFunc _ _ _ y=>y
 |_=>.skip
def rngG:Code→Operand
 |.rangeFunc g _ _ _=>g
 |_=>.tmp 0
def rngP:Code→Array Tmp
 |.rangeFunc _ ps _ _=>ps
 |_=>#[]
def rngO (c:Code):Code:=.rangeFunc (rngG c) (rngP c) (rngX c) (rngY c)
def qo2 (n:Nat) (σ:Store):Store:=if σ.objs.length≤n then σ else dropS n σ
def trimR (n m:Nat) (σ:Store):Store :=
 if (qo2 n σ).toks.length≤max m (qtB (qo2 n σ).objs) then qo2 n σ else qgG (max m (qtB (qo2 n σ).objs)) (qo2 n σ)
def qz2 (tb:Tab) (G:GamT) (L:LpsT) (I:RI) (x y:Code) (t:Nat) (args:List PV) (σ:Store):Tr (Bool×Store) :=
 if args.length=I.ps.length then
  bind (texec tb G L x [] (puts I.fr I.ps args) σ) fun r=>match r.1 with
   |.normal=>match r.2.2.2.toks[t]? with
    |some (0,0,e)=>if e=I.e then
      bind (texec tb G L y [] r.2.2.1 { r.2.2.2 with toks:=r.2.2.2.toks.set t (1,0,I.e) }) fun q=>match q.2.2.2.toks[t]? with
       |some (1,0,e)=>if e=I.e then .ret (isNo q.1,{ q.2.2.2 with toks:=q.2.2.2.toks.set t (stOf q.1,0,I.e) }) else .fail
       |_=>.fail
     else .fail
    |_=>.fail
   |_=>.fail
 else .fail
def rtree (tb:Tab) (G:GamT) (L:LpsT) (I:RI) (x y:Code) (t:Nat) (args:List PV) (σ:Store):Tr (PV×Store) :=
 bind (qz2 tb G L I x y t args σ) fun r=>.ret (.bool r.1,trimR σ.objs.length σ.toks.length r.2)
def qFP (e:Nat):List (Nat×Nat×TypeId)→Bool
 |[]=>true
 |(_,k,e')::l=>(!Nat.beq k 0 || !Nat.beq e' e)&&qFP e l
theorem qAR {e:Nat}:∀ {l:List (Nat×Nat×TypeId)},qFP e l=true→∀ (i v k e':Nat),l[i]?=some (v,k,e')→k=0→e'≠e
 |[],_,i,v,k,e',h,_=>by cases i<;>cases h
 |(v0,k0,e0)::l,h,i,v,k,e',hi,hk=>by
  simp only [qFP,Bool.and_eq_true] at h
  cases i with
  |zero =>
   cases hi
   subst hk;intro e1;subst e1;simp at h
  |succ i=>exact qAR h.2 i v k e' hi hk
def rorc (I:RI) (g:Operand) (gf:FuncId) (D:List PV→Store→Tr (PV×Store)) (fr:List PV) (σ:Store):Tr (PExit×List PV×Store) :=
 if fr.length=I.nt then
  match ev (mk I.nt (I.ss.zip (rsl I.ss fr))) g with
  |.fn f caps =>
   if f=gf then
    if qEg (rsl I.bs (mk I.nt (I.ss.zip (rsl I.ss fr)))) I.vs&&qFP I.e σ.toks&&qq5 σ.objs.length σ.toks.length (mk I.nt (I.ss.zip (rsl I.ss fr))) then
     bind (D (.yld σ.toks.length::caps) { σ with toks:=σ.toks++[(0,0,I.e)] }) fun r=>match r.2.toks[σ.toks.length]? with
      |some (s,0,e)=>if e=I.e then if s=1 then .fail else .ret (exOf s,mk I.nt (I.ss.zip (rsl I.ss fr)),qo2 σ.objs.length (qgG σ.toks.length r.2)) else .fail
      |_=>.fail
    else .fail
   else .fail
  |_=>.fail
 else .fail
theorem qii {α β:Type} (f:α→β):∀ (t:Tr α),(bind t fun r=>.ret (f r)).run=t.run.map f
 |.ret a=>rfl
 |.fail=>rfl
 |.ite b x y=>by
  simp only [Tr.bind,Tr.run_ite];cases b<;>simp [qii f x,qii f y]
 |.get xs i z k=>by
  simp only [Tr.bind,Tr.run_get];cases xs[i]? with
  |none=>rfl
  |some cs=>exact qii f (k cs)
section
variable {P : Program} {tb : Tab} {gl : Gl}
theorem Does.into {c:Code} {fr fr1:List PV} {σ:Store} {e:PExit} {fr':List PV} {σ':Store} (hw:Weak fr fr1) (h:Does P gl c fr1 σ e fr' σ'):Does P gl c fr σ e fr' σ' :=
 fun r n H0 w0 hR Q a w hst hq=>h r n H0 w0 hR Q a w (qCR hw hst) hq
theorem qwP (l:List (Nat×PV)):∀ (n i:Nat),(qdm l n i).length=n
 |0,_=>rfl
 |n+1,i=>by simp [qdm,qwP l n (i+1)]
theorem qS2 (n:Nat) (l:List (Nat×PV)):(mk n l).length=n:=qwP l n 0
theorem Weak.set:∀ {xs ys:List PV} (i:Nat) (x:PV),Weak xs ys→Weak (xs.set i x) (ys.set i x)
 |[],[],_,_,_=>trivial
 |a::xs,b::ys,0,x,h=>⟨.inr rfl,h.2⟩
 |a::xs,b::ys,i+1,x,h=>⟨h.1,Weak.set i x h.2⟩
 |[],_::_,_,_,h=>by cases h
 |_::_,[],_,_,h=>by cases h
theorem Weak.puts:∀ (ps:List Tmp) (zs:List PV) {xs ys:List PV},Weak xs ys→Weak (puts xs ps zs) (puts ys ps zs)
 |[],_,_,_,h=>by simpa [Go.Pv.puts] using h
 |_::_,[],_,_,h=>by simpa [Go.Pv.puts] using h
 |p::ps,a::zs,xs,ys,h=>by
  simp only [Go.Pv.puts];exact Weak.puts ps zs (h.set p a)
theorem qLQ {G:GamT} {L:LpsT} {I:RI} {x y:Code} (hT:qcz P tb) (hΓ:qaU P gl (gam G)) (hm:P.follows .mixedOrders=true) (hLx:qc7 P gl (lps L) x) (hLy:qc7 P gl (lps L) y) (hdx:qbV (gam G) x=true) (hdy:qbV (gam G) y=true)
  {t:Nat} {args:List PV} {σ:Store} {b:Bool} {σ':Store} (h:(qz2 tb G L I x y t args σ).run=some (b,σ')) {fr:List PV} (hw:Weak fr I.fr) :
  ∃ fr1 σ1 ex fr2 σ2,args.length=I.ps.length∧Does P gl x (puts fr I.ps args) σ .normal fr1 σ1∧σ1.toks[t]?=some (0,0,I.e) ∧
   Does P gl y fr1 { σ1 with toks:=σ1.toks.set t (1,0,I.e) } ex fr2 σ2∧σ2.toks[t]?=some (1,0,I.e)∧b=isNo ex∧σ'={ σ2 with toks:=σ2.toks.set t (stOf ex,0,I.e) }:=by
 unfold qz2 at h
 split at h
 ·rename_i hl;obtain⟨⟨e1,kn1,fr1,σ1⟩,h1,h2⟩:=bind_some h;have d1:=Does.into (Weak.puts I.ps args hw) (Does.of_tree hT hΓ hm hLx hdx h1);simp only at h2;cases e1 with
  |normal =>
   simp only at h2;split at h2
   ·rename_i e ht;split at h2
    ·rename_i hee;subst hee;obtain⟨⟨ex,kn2,fr2,σ2⟩,h3,h4⟩:=bind_some h2;have d2:=Does.of_tree hT hΓ hm hLy hdy h3;simp only at h4;split at h4
     ·rename_i e ht2;split at h4
      ·rename_i hee;simp only [Tr.run_ret,Option.some.injEq,Prod.mk.injEq] at h4;refine⟨fr1,σ1,ex,fr2,_,hl,d1,ht,d2,?_,h4.1.symm,h4.2.symm⟩;rw [ht2,hee]
      ·cases h4
     ·cases h4
    ·cases h2
   ·cases h2
  |exit j=>cases h2
  |ret=>cases h2
 ·cases h
theorem Post.dropS {H:Gh} {σ σ':Store} {w w':World} {b:Bool} {v:Value} {n:Nat} (hok:Ok gl H σ w) (hn:σ.objs.length≤n) (h:Post gl H w (.bool b) σ' v w'):Post gl H w (.bool b) (Go.Pv.dropS n σ') v w':=by
 obtain⟨H',hev,hok',hx⟩:=h;have hn':H.ob.length≤n:=by rw [hok.len];exact hn
 refine⟨H'.keep n,⟨hev.B,hev.base,hev.aux,hev.K,hev.os,hev.tape,hev.output,hev.size,fun id b hid=>?_,hev.tok,fun b off hp=>⟨qol (hev.prot b off hp).1,(hev.prot b off hp).2⟩,hev.block,hev.dr,hev.fix,hev.old⟩,qHO hok' (fun t T e hk=>?_),?_⟩
 ·simp only [Gh.keep];rw [List.getElem?_take,if_pos (Nat.lt_of_lt_of_le (List.getElem?_eq_some_iff.1 hid).1 hn')];exact hev.ob id b hid
 ·obtain⟨T0,e0,k0⟩:=hev.old t T e hk;obtain⟨T1,e1,u⟩:=hev.tok t T0 e0;rw [e] at e1;cases e1
  rw [(u.lp k0).2.2.2];obtain⟨_,_,o,_,ho⟩:=hok.tok t T0 e0 (fun hh=>hh.2 k0)
  rcases ho with⟨h1,_⟩|⟨_,_,r,_,_,_,h6,_⟩
  ·exact absurd k0 h1
  ·omega
 ·cases hx
  exact .bool b
theorem Post.dropT {H:Gh} {σ σ':Store} {w w':World} {b:Bool} {v:Value} {m:Nat} (hok:Ok gl H σ w) (hm:σ.toks.length≤m) (h:Post gl H w (.bool b) σ' v w'):Post gl H w (.bool b) (qgG m σ') v w':=by
 obtain⟨H',hev,hok',hx⟩:=h;have hl:H.tk.length≤m:=by
  have:=congrArg List.length hok.tkl;simp at this;omega
 refine⟨H'.trim m,⟨hev.B,hev.base,hev.aux,hev.K,hev.os,hev.tape,hev.output,hev.size,hev.ob,fun t T ht=>?_,fun b off hp=>⟨qkH (hev.prot b off hp).1,(hev.prot b off hp).2⟩,hev.block,hev.dr,hev.fix,fun t T e hk=>hev.old t T (qeA e).2 hk⟩,qB0 hok',?_⟩
 ·obtain⟨T',h1,h2⟩:=hev.tok t T ht;refine⟨T',?_,h2⟩;simp only [Gh.trim];rw [List.getElem?_take,if_pos (Nat.lt_of_lt_of_le (List.getElem?_eq_some_iff.1 ht).1 hl)];exact h1
 ·cases hx
  exact .bool b
theorem Post.trimR {H:Gh} {σ σ':Store} {w w':World} {b:Bool} {v:Value} {n m:Nat} (hok:Ok gl H σ w) (hn:σ.objs.length≤n) (hm:σ.toks.length≤m) (h:Post gl H w (.bool b) σ' v w'):Post gl H w (.bool b) (Go.Pv.trimR n m σ') v w':=by
 have h1:Post gl H w (.bool b) (qo2 n σ') v w':=by
  unfold qo2;split
  ·exact h
  ·exact h.dropS hok hn
 unfold Go.Pv.trimR;split
 ·exact h1
 ·exact h1.dropT hok (Nat.le_trans hm (Nat.le_max_left _ _))
theorem YCalls.mono {P:Program} {l:Nat} {args:Array Value} {w:World} {R R':Ending→World→Prop} (h:YCalls P l args w R) (hR:∀ e w',R e w'→R' e w'):YCalls P l args w R':=by
 obtain⟨f,tmps,assign,body,h1,h2⟩:=h;exact⟨f,tmps,assign,body,h1,h2.mono hR⟩
theorem qHj {e:Nat} {Y0:Nat→List PV→Store→Option (Bool×Store)} (h:qrb P gl qgF (.yld e fun t args σ=>(Y0 t args σ).map fun r=>(.bool r.1,r.2))) :
  qrb P gl qgF (.yld e fun t args σ=>(Y0 t args σ).map fun r=>(.bool r.1,trimR σ.objs.length σ.toks.length r.2)):=by
 intro t args σ x σ' ht hy H w vs T hok hr hT;obtain⟨r,hr0,he⟩:=Option.map_eq_some_iff.1 hy;simp only [Prod.mk.injEq] at he;obtain⟨rfl,rfl⟩:=he;refine YCalls.mono (h t args σ (.bool r.1) r.2 ht (by simp only [hr0,Option.map_some]) H w vs T hok hr hT) ?_
 rintro e w' ⟨v,rfl,hp⟩;exact⟨v,rfl,hp.trimR hok (Nat.le_refl _) (Nat.le_refl _)⟩
theorem qQa {G:GamT} {L:LpsT} {I:RI} {g:Operand} {ps:Array Tmp} {x y:Code} {gf:FuncId} {D:List PV→Store→Tr (PV×Store)} (hT:qcz P tb) (hΓ:∀ gl':Gl,gl'.v=gl.v→qaU P gl' (gam G)) (hm:P.follows .mixedOrders=true)
  (hLx:∀ gl':Gl,gl'.v=gl.v→qc7 P gl' (lps L) x) (hLy:∀ gl':Gl,gl'.v=gl.v→qc7 P gl' (lps L) y) (hdx:qbV (gam G) x=true) (hdy:qbV (gam G) y=true) (hps:ps.toList=I.ps)
  (hent : ∃ fn, P.funcs[gf]? = some fn ∧ (fn.name == "runtime.NumGoroutine") = false ∧ fn.body.isNone = false)
  (hI:∀ gl':Gl,gl'.v=gl.v→qrb P gl' qgF (.yld I.e fun t args σ=>(rtree tb G L I x y t args σ).run)→SimS P gl' gf fun args σ=>(D args σ).run) :
  ∀ fr σ e fr' σ',(rorc I g gf D fr σ).run=some (e,fr',σ')→Does P gl (.rangeFunc g ps x y) fr σ e fr' σ':=by
 intro fr σ e fr' σ' h;unfold rorc at h
 split at h
 ·rename_i hn;have hw:=qpA fr I.ss;rw [hn] at hw;generalize hfr1:mk I.nt (I.ss.zip (rsl I.ss fr))=fr1 at h hw;have hl1:fr1.length=I.nt:=by rw [← hfr1];exact qS2 _ _
  split at h
  ·rename_i f caps hg;split at h
   ·rename_i hf;subst hf;split at h
    ·rename_i hk;simp only [Bool.and_eq_true] at hk;obtain⟨⟨hk1,hk2⟩,hk3⟩:=hk;obtain⟨⟨v,σ2⟩,h1,h2⟩:=bind_some h;have hkeep:=qi1 hk3;simp only at h2;split at h2
     ·rename_i s e' hs;split at h2
      ·rename_i hee;subst hee;split at h2
       ·cases h2
       ·rename_i hs1;simp only [Tr.run_ret,Option.some.injEq,Prod.mk.injEq] at h2;obtain⟨rfl,rfl,rfl⟩:=h2;have hw2:Weak fr1 I.fr:=by
         have:=qpA fr1 I.bs;rw [hl1,qzS hk1] at this;exact this
        have hd:=qGz (P:=P) (gl:=gl) (g:=g) (ps:=ps) (assign:=x) (body:=y) (fr:=fr1) (σ:=σ) hg I.e hent (Y:=fun t args σ=>(qz2 tb G L I x y t args σ).run.map fun r=>(.bool r.1,r.2)) (D:=fun args σ=>(D args σ).run)
         (qAR hk2) hkeep.1 hkeep.2 (fun gl' hv hc=>hI gl' hv (by
          have:=qHj (Y0:=fun t args σ=>(qz2 tb G L I x y t args σ).run) hc
          simp only [rtree,qii];exact this)) (fun gl' hv t args σ x' σ' hy=>by
          obtain⟨r,hr,he⟩:=Option.map_eq_some_iff.1 hy;simp only [Prod.mk.injEq] at he;obtain⟨rfl,rfl⟩:=he;obtain⟨q1,q2,q3,q4,q5,q6,q7,q8,q9,q10,q11⟩:=qLQ hT (hΓ gl' hv) hm (hLx gl' hv) (hLy gl' hv) hdx hdy hr hw2;rw [hps];exact⟨q1,q2,q3,q4,q5,by rw [q6,← hps];simp,q7,q8,q9,q10,by rw [q11.1],q11.2⟩) h1 hs hs1
        have hd2:=Does.into hw hd;unfold qo2;split
        ·exact hd2
        ·have:=hd2.drop (n:=σ.objs.length) (Nat.le_refl _);rw [hkeep.1 _ (Nat.le_refl _)] at this;exact this
      ·cases h2
     ·cases h2
    ·cases h
   ·cases h
  ·cases h
 ·cases h
end
end Go.Pv
set_option linter.unusedSimpArgs false
set_option linter.unusedVariables false
namespace Go.Pv
section
variable {α : Type} (C : Cod α)
theorem qaY (l:List α) (i:Nat):(rOf C l).getD i []=match l[i]? with|some a=>C.enc a|none=>[]:=by
 rw [List.getD_eq_getElem?_getD,qIg];cases l[i]?<;>rfl
theorem qOf (z:List PV) (l:List α) (i:Nat) (h:∀ a,selF z [C.enc a] 0 0=C.enc a) (hs:∀ (xs:qR) (k j:Nat) (c:List PV),xs[k]?=some c→selF z xs k j=selF z [c] 0 j):qa3 z (rOf C l) i=decide (i < l.length):=by
 unfold qa3
 congr 1
 rw [qIg];cases hi:l[i]? with
 |none =>
  have:¬ i < l.length:=by simpa using hi
  simp [this]
 |some a =>
  have hl:=(List.getElem?_eq_some_iff.1 hi).1;have hx:(rOf C l)[i]?=some (C.enc a):=by simp [hi]
  rw [hs _ _ _ _ hx,h];simp [hl]
end
theorem qRL (c:PV) {xs:List (List PV)} {k j:Nat} {d:List PV} (h:xs[k]?=some d):selC c xs k j=selC c [d] 0 j:=by
 have e:xs.getD k []=d:=by rw [List.getD_eq_getElem?_getD,h];rfl
 have e':([d]:List (List PV)).getD 0 []=d:=rfl;cases c<;>simp only [selC,xInt,qcu,xStr,xRow,xPV,e,e']
theorem qJO:∀ (z:List PV) (xs:qR) (k j:Nat) (d:List PV),xs[k]?=some d→selF z xs k j=selF z [d] 0 j
 |[],_,_,_,_,_=>rfl
 |c::z,xs,k,j,d,h=>by simp only [selF];rw [qRL c h,qJO z xs k (j+1) d h]
theorem qeg {α:Type} (C:Cod α) (z:List PV) (h:∀ a,selF z [C.enc a] 0 0=C.enc a) (l:List α) (i:Nat):qa3 z (rOf C l) i=decide (i < l.length):=qOf C z l i h (qJO z)
@[simp] theorem okGet_cI (l:List Int) (i:Nat):qa3 [.int .i64 0] (rOf cI l) i=decide (i < l.length):=qeg _ _ (fun _=>rfl) l i
@[simp] theorem xInt_cI0 (l:List Int) (i:Nat):xInt (rOf cI l) i 0=(l[i]?.getD 0):=by unfold xInt;rw [qaY];cases l[i]?<;>rfl
@[simp] theorem okGet_cM (l:List Tm) (i:Nat):qa3 [.int .i64 0,.str [],.int .i64 0,.int .i64 0,.str []] (rOf cM l) i=decide (i < l.length):=qeg _ _ (fun _=>rfl) l i
@[simp] theorem xInt_cM0 (l:List Tm) (i:Nat):xInt (rOf cM l) i 0=(l[i]?.getD (0,[],0,0,[])).1:=by unfold xInt;rw [qaY];cases l[i]?<;>rfl
@[simp] theorem xStr_cM1 (l:List Tm) (i:Nat):xStr (rOf cM l) i 1=(l[i]?.getD (0,[],0,0,[])).2.1:=by unfold xStr;rw [qaY];cases l[i]?<;>rfl
@[simp] theorem xInt_cM2 (l:List Tm) (i:Nat):xInt (rOf cM l) i 2=(l[i]?.getD (0,[],0,0,[])).2.2.1:=by unfold xInt;rw [qaY];cases l[i]?<;>rfl
@[simp] theorem xInt_cM3 (l:List Tm) (i:Nat):xInt (rOf cM l) i 3=(l[i]?.getD (0,[],0,0,[])).2.2.2.1:=by unfold xInt;rw [qaY];cases l[i]?<;>rfl
@[simp] theorem xStr_cM4 (l:List Tm) (i:Nat):xStr (rOf cM l) i 4=(l[i]?.getD (0,[],0,0,[])).2.2.2.2:=by unfold xStr;rw [qaY];cases l[i]?<;>rfl
def cS:Cod (List UInt8) where
 enc s:=[.str s]
 dec c:=match c with|[.str s]=>some s|_=>none
 k:=1
 of_dec c a h:=by
  split at h
  ·cases h;rfl
  ·cases h
 dec_of a:=rfl
 lock a:=rfl
 shut a:=rfl
 len a:=rfl
 one a:=rfl
@[simp] theorem qcH (l:List (List UInt8)):qaB (rOf cS l) 1=true:=qdb cS l
@[simp] theorem okNews_cS (l:List (List UInt8)):qaH (rOf cS l) 1=true:=qdc cS l
@[simp] theorem okGet_cS (l:List (List UInt8)) (i:Nat):qa3 [.str []] (rOf cS l) i=decide (i < l.length):=qeg _ _ (fun _=>rfl) l i
@[simp] theorem xStr_cS0 (l:List (List UInt8)) (i:Nat):xStr (rOf cS l) i 0=(l[i]?.getD []):=by unfold xStr;rw [qaY];cases l[i]?<;>rfl
@[simp] theorem qhj (s:qU):([[.str s]]:List (List PV))=rOf cS [s]:=rfl
@[simp] theorem qPJ (l:List Tm) (a:Int) (b:qU) (k n:Int) (s:qU):rOf cM l++[[.int .i64 a,.str b,.int .i64 k,.int .i64 n,.str s]]=rOf cM (l++[(a,b,k,n,s)]):=by rw [qit];rfl
@[simp] theorem one_cM (a:Int) (b:qU) (k n:Int) (s:qU):([[.int .i64 a,.str b,.int .i64 k,.int .i64 n,.str s]]:List (List PV))=rOf cM [(a,b,k,n,s)]:=rfl
@[simp] theorem rOf_append {α:Type} (C:Cod α) (a b:List α):rOf C a++rOf C b=rOf C (a++b):=(qit C a b).symm
@[simp] theorem cons_cM (l:List Tm) (a:Int) (b:qU) (k n:Int) (s:qU):[.int .i64 a,.str b,.int .i64 k,.int .i64 n,.str s]::rOf cM l=rOf cM ((a,b,k,n,s)::l):=rfl
@[simp] theorem cons_cS (l:List (List UInt8)) (s:qU):[.str s]::rOf cS l=rOf cS (s::l):=rfl
@[simp] theorem lockLL_nil':qaa []=[]:=rfl
@[simp] theorem shutLL_nil':qcq []=[]:=rfl
@[simp] theorem dropPLL_nil' (n:Nat):qaD n []=[]:=rfl
@[simp] theorem dropTLL_nil' (n:Nat):qeI n []=[]:=rfl
@[simp] theorem pnil_rOf {α:Type} (C:Cod α):(rOf C []:List (List PV))=[]:=rfl
def aT {α:Type}:List α→Tag
 |[]=>.full
 |_=>.tok 0
def aS (k:Nat) (e:TypeId) {α:Type}:List α→Store
 |[]=>⟨[],[],[]⟩
 |a::l=>⟨[],[((a::l).length,k,e)],[]⟩
@[simp] theorem qSY {α:Type}:aT ([]:List α)=.full:=rfl
@[simp] theorem qSs {α:Type} (k:Nat) (e:TypeId):aS k e ([]:List α)=⟨[],[],[]⟩:=rfl
theorem qPN {α:Type} (l:List α) (a:α):aT (l++[a])=.tok 0:=by cases l<;>rfl
theorem qQR {α:Type} (k:Nat) (e:TypeId) (l:List α) (a:α):aS k e (l++[a])=⟨[],[((l++[a]).length,k,e)],[]⟩:=by cases l<;>rfl
theorem qaZ {i:Nat} (h:i < 9223372036854775807):iAdd .i64 (i:Int) 1=((i+1:Nat):Int):=qbD (by omega)
end Go.Pv
set_option maxHeartbeats 4000000
set_option maxRecDepth 200000
set_option linter.unusedSimpArgs false
set_option linter.unusedVariables false
namespace Go.Pv
open Go Go.Proofs Go.RowKit
def twosV:List (List UInt8):=[[58,45],[60,61],[62,61],[33,61]]
structure GlLex (gl:Gl):Prop extends GlOk gl where
 twos : VarIs gl "pedigree/lex.twos" (twosV.map fun l => Value.string ⟨l.toArray⟩).toArray
theorem GlPow.of_v {gl gl':Gl} (h:GlPow gl) (e:gl'.v=gl.v):GlPow gl':=by
 obtain⟨h⟩:=h;exact⟨by unfold VarIs at *;rw [e];exact h⟩
theorem GlOk.of_v {gl gl':Gl} (h:GlOk gl) (e:gl'.v=gl.v):GlOk gl':=by
 obtain⟨h1,h2,h3⟩:=h;exact⟨h1.of_v e,by unfold VarIs at *;rw [e];exact h2,by unfold VarIs at *;rw [e];exact h3⟩
theorem GlLex.of_v {gl gl':Gl} (h:GlLex gl) (e:gl'.v=gl.v):GlLex gl':=by
 obtain⟨h1,h2⟩:=h;exact⟨h1.of_v e,by unfold VarIs at *;rw [e];exact h2⟩
def qIH:List PV:=[.str [58,45],.str [60,61],.str [62,61],.str [33,61]]
theorem qJU : Tryz.prog.globalNamed "pedigree/lex.twos" = some 0 := by kernel_rfl
theorem qEw {gl:Gl} (h:GlLex gl):qrb Tryz.prog gl (qDa+0) (.glob qIH):=by
 obtain⟨g,T,f,h1,h2⟩:=h.twos;rw [qJU] at h1;cases h1
 refine⟨_,T,f,by rw [Nat.add_sub_cancel_left];exact h2,fun H w=>?_⟩
 exact .cons _ _ _ _ (.str [58,45] (by decide)) (.cons _ _ _ _ (.str [60,61] (by decide)) (.cons _ _ _ _ (.str [62,61] (by decide)) (.cons _ _ _ _ (.str [33,61] (by decide)) .nil)))
theorem qH5:maxLen≤9223372036854775807:=by decide
def idxV (s:qU) (c:Int):Int:=Lib.indexByte s c.toNat.toUInt8
theorem qra (c:UInt8):∀ l:qU,Lib.indexByte l c≤l.length
 |[]=>by simp [Lib.indexByte]
 |b::l=>by
  have:=qra c l;unfold Lib.indexByte;split
  ·simp only [List.length_cons];omega
  ·split<;>simp only [List.length_cons]<;>omega
def qjF:List PV→Tr PV
 |[.str s,.int .u8 c]=>.ret (.int .i64 (idxV s c))
 |_=>.fail
theorem qo3 (gl:Gl):SimP Tryz.prog gl 153 fun args=>(qjF args).run:=by
 refine⟨⟨_,Tryz.func153,by rfl,by rfl⟩,?_⟩
 intro args x hx H w vs hB hob htk hw hrel;unfold qjF at hx;split at hx
 ·rename_i s c;cases hx
  cases hrel with
  |cons _ v _ vs hv hvs =>
   cases hvs with
   |cons _ v2 _ vs hv2 hvs =>
    cases hvs
    cases hv with
    |str _ hl =>
     cases hv2
     refine (Tryz.strings_IndexByte ⟨s.toArray⟩ c w).mono ?_;rintro e w' ⟨rfl,rfl⟩;refine⟨_,rfl,⟨Below.refl _ _,Dr.of_eq rfl⟩,.int _ _ ?_⟩;have h1:=qra c.toNat.toUInt8 s;have h2:=Lib.indexByte_ge s c.toNat.toUInt8;have:=qH5;simp only [idxV];generalize Lib.indexByte s c.toNat.toUInt8=q at h1 h2 ⊢;simp [Lit.wf,IntKind.min,IntKind.max,IntKind.signed,IntKind.bits];omega
 ·cases hx
def qeB (l:List (List UInt8)) (sep:qU):List UInt8:=Lib.join l sep
def qfD (l:List (List UInt8)) (sep:qU):Bool:=decide (l.length≤140737488355328)&&decide ((qeB l sep).length≤140737488355328)
@[simp] theorem qbZ (l:List (List UInt8)) (sep:qU):qfD l sep=true↔l.length≤140737488355328∧(qeB l sep).length≤140737488355328:=by simp [qfD]
def qne:List PV→Tr PV
 |[.sl r _,.str sep]=>Tr.chk (okR cS r) (Tr.chk (qfD (unR cS r) sep) (.ret (.str (qeB (unR cS r) sep))))
 |_=>.fail
theorem qJR {H:Gh} {w:World}:∀ {l:List (List UInt8)} {vss:List (List Value)},RelLL H w (rOf cS l) vss→vss=l.map fun s=>[Value.string ⟨s.toArray⟩]
 |[],_,h=>by cases h;rfl
 |s::l,_,h=>by
  rw [qM7] at h
  cases h with
  |cons _ v _ vs hv hvs =>
   have hv:RelL H w [.str s] v:=hv;cases hv with
   |cons _ u _ us hu hus =>
    cases hus
    cases hu
    rw [qJR hvs];rfl
theorem qik {gl:Gl} (hgl:GlPow gl):SimP Tryz.prog gl 88 fun args=>(qne args).run:=by
 refine⟨⟨_,Tryz.func88,by rfl,by rfl⟩,?_⟩
 intro args x hx H w vs hB hob htk hw hrel;unfold qne at hx;split at hx
 ·rename_i r tg sep;obtain⟨h1,hx⟩:=Tr.chk_some hx;obtain⟨h2,hx⟩:=Tr.chk_some hx;cases hx
  obtain⟨l,rfl⟩:=qSC cS h1;rw [qSw] at h2 ⊢;simp only [qbZ] at h2;cases hrel with
  |cons _ v _ vs hv hvs =>
   cases hvs with
   |cons _ v2 _ vs hv2 hvs =>
    cases hvs
    cases hv2 with
    |str _ hs =>
     cases hv with
     |sl p len cap k _ vss _ hl hcap hm hll hrow htag =>
      rw [qQ5] at hl;subst hl;have hvss:=qJR hll;subst hvss;cases l with
      |nil =>
       refine (Tryz.strings_Join_none p cap ⟨sep.toArray⟩ w).mono ?_;rintro e w' ⟨rfl,rfl⟩;exact⟨_,rfl,⟨Below.refl _ _,Dr.of_eq rfl⟩,.str _ (by simp [qeB,Lib.join_nil])⟩
      |cons s0 l0 =>
       obtain⟨hk,a,ha,_⟩:=hrow 0 [.string ⟨s0.toArray⟩] rfl;subst ha;have hk:k=1:=hk.symm;subst hk;have hcell:∀ (j:Nat) (s:qU),(s0::l0)[j]?=some s→w.cell? (a.add (j * 1))=some (.string ⟨s.toArray⟩)∧(a.add (j * 1)).block < w.heap.size:=fun j s hj=>by
        obtain⟨_,a',ha',hc⟩:=hrow j [.string ⟨s.toArray⟩] (by rw [List.getElem?_map,hj];rfl)
        cases ha'
        have:=hc 0 _ rfl;simp only [Addr.add,if_true] at this ⊢;exact⟨this.2,this.1.1⟩
       have h00:=hcell 0 s0 rfl;have hsp:a.spot=none:=by
        have:=World.cell?_spot h00.1;simpa [Addr.add] using this
       obtain⟨blk,off,spot⟩:=a;subst hsp;have hnn:l0.length+1=((s0::l0).map fun s=>(⟨s.toArray⟩:ByteArray)).length:=by simp
       have hcalls:=Tryz.strings_Join blk off cap ((s0::l0).map fun s=>⟨s.toArray⟩) ⟨sep.toArray⟩ w (fun j x hj=>by
        rw [List.getElem?_map] at hj;obtain⟨s,hs1,rfl⟩:=Option.map_eq_some_iff.1 hj;have:=(hcell j s hs1).1;simp only [Nat.mul_one] at this;by_cases hj0:j=0
        ·subst hj0;simpa [Addr.add] using this
        ·simpa [Addr.add,hj0] using this) (by simpa [Addr.add] using h00.2) (by simpa using h2.1) (by simpa using hcap) (by simpa [qeB,Function.comp_def] using h2.2)
       rw [← hnn] at hcalls;refine hcalls.mono ?_;rintro e w' ⟨rfl,hb⟩;have e1:(((s0::l0).map fun s=>(⟨s.toArray⟩:ByteArray)).map (·.data.toList))=s0::l0:=by simp [Function.comp_def]
       rw [e1];exact⟨_,rfl,⟨hb,hgl.dr _ _⟩,.str _ (Nat.le_trans h2.2 (by decide))⟩
 ·cases hx
end Go.Pv
