/- Part 2 of the proof: pure values for the machine's values, what functions compute over them, and laws of what is computed. Conditions: none beyond each theorem's own premises. -/
import Derived.Test.YtakhnioifgbdfaaGreatDoorPvG1
import Derived.WalkKit
import Derived.ProofKit
import Derived.OpenShut
import Derived.Deep.DeepHandedRow
import Derived.Lib.LaidTab
import Derived.Carry
import Derived.Test.YtakhnioifgbdfaaGreatDoorProg
import Derived.Test.YtakhnioifgbdfaaGreatDoorShelf
import Derived.Lib.AppendIntMem
import Derived.Lib.ItoaLen
import Derived.Lib.ParseIntBTie
import Derived.Shelf.Strings.BuilderK
import Derived.RangeFuncNested
import Derived.Lib.LastIndexByte
noncomputable section
set_option linter.unusedSimpArgs false
set_option linter.unusedVariables false
namespace Go.Pv
open Go.RowKit
inductive Tr (α:Type) where
 |ret (a:α)
 |fail
 |ite (b:Bool) (x y:Tr α)
 |get (xs:qR) (i:Nat) (z:List PV) (k:List PV→Tr α)
namespace Tr
def run {α:Type}:Tr α→Option α
 |.ret a=>some a
 |.fail=>none
 |.ite b x y=>bif b then run x else run y
 |.get xs i _ k=>match xs[i]? with
  |some cs=>run (k cs)
  |none=>none
def bind {α β:Type}:Tr α→(α→Tr β)→Tr β
 |.ret a,f=>f a
 |.fail,_=>.fail
 |.ite b x y,f=>.ite b (bind x f) (bind y f)
 |.get xs i z k,f=>.get xs i z fun cs=>bind (k cs) f
theorem run_bind {α β:Type}:∀ (x:Tr α) (f:α→Tr β),run (bind x f)=(run x).bind fun a=>run (f a)
 |.ret a,f=>rfl
 |.fail,f=>rfl
 |.ite b x y,f=>by
  simp only [bind,run,run_bind x f,run_bind y f];cases b<;>rfl
 |.get xs i z k,f=>by
  simp only [bind,run];cases xs[i]? with
  |none=>rfl
  |some cs=>exact run_bind (k cs) f
theorem bind_some {α β:Type} {x:Tr α} {f:α→Tr β} {r:β} (h:run (bind x f)=some r):∃ a,run x=some a∧run (f a)=some r:=by
 rw [run_bind] at h
 cases hx:run x with
 |none=>simp [hx] at h
 |some a=>exact⟨a,rfl,by simpa [hx] using h⟩
def br {α:Type} (lit:Bool) (b:Bool) (x y:Tr α):Tr α:=bif lit then (bif b then x else y) else .ite b x y
theorem qEG {α:Type} (lit b:Bool) (x y:Tr α):run (br lit b x y)=bif b then run x else run y:=by
 cases lit<;>cases b<;>rfl
def chk {α:Type} (b:Bool) (x:Tr α):Tr α:=.ite b x .fail
theorem chk_some {α:Type} {b:Bool} {x:Tr α} {r:α} (h:run (chk b x)=some r):b=true∧run x=some r:=by
 cases b with
 |true=>exact⟨rfl,h⟩
 |false=>cases h
def qiP {α:Type}:Option α→Tr α
 |some a=>.ret a
 |none=>.fail
theorem qbZ {α:Type} (x:Option α):run (qiP x)=x:=by cases x<;>rfl
end Tr
open Tr
def iAdd (k:IntKind) (a b:Int):Int:=k.wrap (a+b)
def iSub (k:IntKind) (a b:Int):Int:=k.wrap (a - b)
def iMul (k:IntKind) (a b:Int):Int:=k.wrap (a * b)
def iQuo (k:IntKind) (a b:Int):Int:=k.wrap (a.tdiv b)
def iRem (a b:Int):Int:=a.tmod b
def iAnd (k:IntKind) (a b:Int):Int:=k.wrap (BitVec.ofInt k.bits a &&& BitVec.ofInt k.bits b).toNat
def iOr (k:IntKind) (a b:Int):Int:=k.wrap (BitVec.ofInt k.bits a ||| BitVec.ofInt k.bits b).toNat
def iXor (k:IntKind) (a b:Int):Int:=k.wrap (BitVec.ofInt k.bits a ^^^ BitVec.ofInt k.bits b).toNat
def iShl (k:IntKind) (a b:Int):Int:=k.wrap (a * 2 ^ min b.toNat k.bits)
def iShr (k:IntKind) (a b:Int):Int:=a.fdiv (2 ^ min b.toNat k.bits)
def qda (k:IntKind) (n:Int):Int:=k.wrap n
def iEq (a b:Int):Bool:=a == b
def iNe (a b:Int):Bool:=a != b
def iLt (a b:Int):Bool:=decide (a < b)
def iLe (a b:Int):Bool:=decide (a≤b)
def bNot (b:Bool):Bool:=!b
def bAnd (a b:Bool):Bool:=a&&b
def bEq (a b:Bool):Bool:=a == b
def sEq (a b:qU):Bool:=a == b
def sNe (a b:qU):Bool:=!(a == b)
def sLt (a b:qU):Bool:=Op.bytesLess a b
def sLe (a b:qU):Bool:=Op.bytesLess a b || a == b
def sGt (a b:qU):Bool:=!(Op.bytesLess a b || a == b)
def sGe (a b:qU):Bool:=!Op.bytesLess a b
def sApp (a b:qU):List UInt8:=a++b
def sLen (l:qU):Int:=l.length
def sSub (l:qU) (a b:Nat):List UInt8:=(l.take b).drop a
def sAt (l:qU) (n:Int):Int:=(l.getD n.toNat 0).toNat
def sOne (n:Int):List UInt8:=[UInt8.ofNat n.toNat]
def nNat (n:Int):Nat:=n.toNat
def nLen (l:qU):Nat:=l.length
def xLen (xs:qR):Int:=xs.length
def nXs (xs:qR):Nat:=xs.length
def xSub (xs:qR) (a b:Nat):List (List PV):=(xs.take b).drop a
def xApp (xs ys:qR):List (List PV):=xs++ys
def xNil (xs:qR):Bool:=xs.isEmpty
def qaf (l:qU):List (List PV):=l.map fun b=>[.int .u8 b.toNat]
def qc2 (xs:qR):List UInt8:=(pbytes xs).getD []
def qet (xs:qR):Bool:=(pbytes xs).isSome
def qaD (xs:qR) (n:Nat):Bool:=xs.all fun y=>y.length == n
def qbf (ys:qR) (n:Nat):Bool:=ys.all fun y=>y.length == n&&y.all one
def qba (a b:qU):Bool:=decide (a.length+b.length≤maxLen)
def qei (n:Int):Bool:=decide (0≤n)&&decide (n < 128)
def qoF (l:qU):Bool:=decide (l.length≤140737488355328)
def qbM (l:qU) (n:Int):Bool:=decide (0≤n)&&decide (n.toNat < l.length)
def qao (n:Int):Bool:=decide (0≤n)
def qaC (ca cb:Bool) (a b n:Nat):Bool:=ca&&cb&&decide (a≤b)&&decide (b≤n)
def qyF (ca cb cc:Bool) (a b c n:Nat):Bool:=ca&&cb&&cc&&decide (a≤b)&&decide (b=c)&&decide (b≤n)
def qbm (xs ys:qR) (bytes:Nat):Bool:=decide ((xs.length+ys.length) * bytes≤140737488355328)&&decide (xs.length+ys.length≤140737488355328)
def nEq (a b:Nat):Bool:=decide (a=b)
def tint (lit:Bool) (op:BinOp) (k:IntKind) (a b:Int):Tr PV :=
 match op with
 |.add=>.ret (.int k (iAdd k a b))
 |.sub=>.ret (.int k (iSub k a b))
 |.mul=>.ret (.int k (iMul k a b))
 |.quo=>if lit then (if b=0 then .fail else .ret (.int k (iQuo k a b))) else .ite (iEq b 0) .fail (.ret (.int k (iQuo k a b)))
 |.rem=>if lit then (if b=0 then .fail else .ret (.int k (iRem a b))) else .ite (iEq b 0) .fail (.ret (.int k (iRem a b)))
 |.and=>.ret (.int k (iAnd k a b))
 |.or=>.ret (.int k (iOr k a b))
 |.xor=>.ret (.int k (iXor k a b))
 |.eql=>.ret (.bool (iEq a b))
 |.neq=>.ret (.bool (iNe a b))
 |.lss=>.ret (.bool (iLt a b))
 |.leq=>.ret (.bool (iLe a b))
 |.gtr=>.ret (.bool (iLt b a))
 |.geq=>.ret (.bool (iLe b a))
 |_=>.fail
theorem qBy {lit : Bool} {op : BinOp} {k : IntKind} {a b : Int} {x : PV} (h : run (tint lit op k a b) = some x) : pint op k a b = some x := by
  cases op <;> simp only [tint, pint] at h ⊢ <;> first
    | exact h
    | (cases h; done)
    | (split at h
       · split at h
         · cases h
         · rename_i hb
           rw [if_neg hb]
           exact h
       · simp only [run, iEq] at h
         by_cases hb : b = 0
         · simp [hb] at h
         · have hb' : (b == 0) = false := by simp [hb]
           rw [hb'] at h
           rw [if_neg hb]
           exact h)
def tstr (op:BinOp) (a b:qU):Tr PV :=
 match op with
 |.add=>chk (qba a b) (.ret (.str (sApp a b)))
 |.eql=>.ret (.bool (sEq a b))
 |.neq=>.ret (.bool (sNe a b))
 |.lss=>.ret (.bool (sLt a b))
 |.leq=>.ret (.bool (sLe a b))
 |.gtr=>.ret (.bool (sGt a b))
 |.geq=>.ret (.bool (sGe a b))
 |_=>.fail
theorem qBb {op : BinOp} {a b : List UInt8} {x : PV} (h : run (tstr op a b) = some x) : pstr op a b = some x := by
  cases op <;> simp only [tstr, pstr] at h ⊢ <;> first
    | exact h
    | (cases h; done)
    | (obtain ⟨h1, h2⟩ := chk_some h
       rw [if_pos (by simpa [qba] using h1)]
       exact h2)
def qAb (tb:Tab) (f:TypeId→PV→PV→Option Bool) (xs ys:List PV):List (Nat×TypeId×Bool)→Option Bool
 |[]=>some true
 |(off,t,named)::rest =>
  if named then
   match tb t with
   |none=>none
   |some K=>match pload K xs off,pload K ys off with
    |some x,some y=>match f t x y,qAb tb f xs ys rest with
     |some b,some c=>some (bAnd b c)
     |_,_=>none
    |_,_=>none
  else qAb tb f xs ys rest
def beq (tb:Tab):Nat→TypeId→PV→PV→Option Bool
 |0,_,_,_=>none
 |d+1,t,x,y=>match tb t with
  |none=>none
  |some K=>match K.kd,x,y with
   |.int _,.int k a,.int k' b=>if k=k' then some (iEq a b) else none
   |.bool,.bool a,.bool b=>some (bEq a b)
   |.str,.str a,.str b=>some (sEq a b)
   |.agg fs held _,.agg xs,.agg ys=>if held then none else qAb tb (beq tb d) xs ys fs
   |_,_,_=>none
theorem qof {tb:Tab} {f g:TypeId→PV→PV→Option Bool} (hfg:∀ t x y b,f t x y=some b→g t x y=some b) {xs ys:List PV}:∀ (fs:List (Nat×TypeId×Bool)) (b:Bool),qAb tb f xs ys fs=some b→qso tb g xs ys fs=some b
 |[],b,h=>h
 |(off,t,named)::rest,b,h=>by
  simp only [qAb,qso] at h ⊢;split at h
  ·rename_i hn;rw [if_pos hn];cases hK:tb t with
   |none=>simp [hK] at h
   |some K =>
    simp only [hK] at h ⊢;split at h
    ·rename_i x y hx hy;simp only [hx,hy];split at h
     ·rename_i p q hp hq;rw [hfg _ _ _ _ hp];have:=qof hfg rest q hq;cases p with
      |true=>simp [bAnd] at h;subst h;exact this
      |false=>simp [bAnd] at h;subst h;rfl
     ·cases h
    ·cases h
  ·rename_i hn;rw [if_neg hn];exact qof hfg rest b h
theorem qzm {tb:Tab}:∀ (d:Nat) (t:TypeId) (x y:PV) (b:Bool),beq tb d t x y=some b→peq tb d t x y=some b
 |0,t,x,y,b,h=>by cases h
 |d+1,t,x,y,b,h=>by
  simp only [beq,peq] at h ⊢;cases hK:tb t with
  |none=>simp [hK] at h
  |some K =>
   simp only [hK] at h ⊢;split at h
   ·rename_i hk;simp only [hk];exact h
   ·rename_i hk;simp only [hk];exact h
   ·rename_i hk;simp only [hk];exact h
   ·rename_i hk;simp only [hk];split at h
    ·cases h
    ·rename_i hh;rw [if_neg hh];exact qof (fun t x y b=>qzm d t x y b) _ b h
   ·cases h
def bequal (tb:Tab) (t:TypeId) (xo yo:Operand) (x y:PV):Option Bool :=
 match tb t with
 |none=>none
 |some K=>match K.kd,x,y with
  |.iface,.nili,.nili=>if isK xo || isK yo then some true else none
  |.iface,.nili,.iface _ _=>some false
  |.iface,.iface _ _,.nili=>some false
  |.fn,.nilf,.nilf=>some true
  |.fn,.nilf,.fn _ _=>some false
  |.fn,.fn _ _,.nilf=>some false
  |.bool,.bool a,.bool b=>some (bEq a b)
  |.agg _ _ guard,.agg xs,.agg ys=>if guard then none else beq tb 50 t (.agg xs) (.agg ys)
  |_,_,_=>none
theorem qoO {tb : Tab} {t : TypeId} {xo yo : Operand} {x y : PV} {b : Bool} (h : bequal tb t xo yo x y = some b) : pequal tb t xo yo x y = some b := by
  unfold bequal at h
  unfold pequal
  cases hK : tb t with
  | none => simp [hK] at h
  | some K =>
    simp only [hK] at h ⊢
    split at h <;> first
      | (rename_i hk; simp only [hk]; exact h)
      | (rename_i hk
         simp only [hk]
         split at h
         · cases h
         · rename_i hg
           rw [if_neg hg]
           exact qzm _ _ _ _ _ h)
      | (cases h; done)
def tnilq (tb:Tab) (t:TypeId) (yo:Operand) (xs:qR) (tg:Tag) (f:Bool→PV):Tr PV :=
 match tb t with
 |none=>.fail
 |some K=>match K.kd with
  |.sl _=>if qnQ yo then .ite (xNil xs) (match tg with
   |.nil=>.ret (f true)
   |.own=>.ret (f false)
   |_=>.fail) (.ret (f false)) else .fail
  |_=>.fail
def tbin (tb:Tab) (op:BinOp) (t:TypeId) (xo yo:Operand) (x y:PV):Tr PV :=
 match op,x,y with
 |.shl,.int k a,.int _ b=>if isK yo then (if b < 0 then .fail else .ret (.int k (iShl k a b))) else .ite (iLt b 0) .fail (.ret (.int k (iShl k a b)))
 |.shr,.int k a,.int _ b=>if isK yo then (if b < 0 then .fail else .ret (.int k (iShr k a b))) else .ite (iLt b 0) .fail (.ret (.int k (iShr k a b)))
 |op,.int k a,.int k' b=>if k=k' then tint (isK yo) op k a b else .fail
 |op,.str a,.str b=>tstr op a b
 |.eql,.sl xs tg,.sl ys tg'=>tnilq tb t yo xs tg fun b=>.bool b
 |.neq,.sl xs tg,.sl ys tg'=>tnilq tb t yo xs tg fun b=>.bool (bNot b)
 |.eql,x,y=>qiP ((bequal tb t xo yo x y).map .bool)
 |.neq,x,y=>qiP ((bequal tb t xo yo x y).map fun b=>.bool (bNot b))
 |_,_,_=>.fail
theorem qrZ {tb:Tab} {t:TypeId} {xo yo:Operand} {xs ys:List (List PV)} {tg tg':Tag} {f:Bool→PV} {r:PV} (h:run (tnilq tb t yo xs tg f)=some r):∃ b,pequal tb t xo yo (.sl xs tg) (.sl ys tg')=some b∧r=f b:=by
 unfold tnilq at h
 unfold pequal;cases hK:tb t with
 |none=>simp [hK,run] at h
 |some K =>
  simp only [hK] at h ⊢;split at h
  ·rename_i e hk;simp only [hk];split at h
   ·rename_i hn;rw [if_pos hn];cases xs with
    |nil =>
     cases tg<;>simp [run,xNil] at h ⊢<;>exact h.symm
    |cons x xs =>
     simp [run,xNil] at h ⊢;exact h.symm
   ·cases h
  ·cases h
theorem qAZ {tb:Tab} {op:BinOp} {t:TypeId} {xo yo:Operand} {x y r:PV} (h:run (tbin tb op t xo yo x y)=some r):pbin tb op t xo yo x y=some r:=by
 unfold tbin at h
 unfold pbin;split at h
 ·rename_i k a k' b;simp only [];split at h
  ·split at h
   ·cases h
   ·rename_i hb;rw [if_neg hb];exact h
  ·simp only [run,iLt] at h
   by_cases hb:b < 0
   ·simp [hb] at h
   ·rw [if_neg hb];simp only [hb,decide_false,cond_false] at h
    exact h
 ·rename_i k a k' b;simp only [];split at h
  ·split at h
   ·cases h
   ·rename_i hb;rw [if_neg hb];exact h
  ·simp only [run,iLt] at h
   by_cases hb:b < 0
   ·simp [hb] at h
   ·rw [if_neg hb];simp only [hb,decide_false,cond_false] at h
    exact h
 ·rename_i op' k a k' b h1 h2;split at h
  ·rename_i hk;have:=qBy h;cases op'<;>first
    |(simp only [hk,if_true] at this ⊢;exact this)
    |exact absurd rfl h1
    |exact absurd rfl h2
    |exact absurd rfl (h1 _ _ _ _ rfl rfl)
    |exact absurd rfl (h2 _ _ _ _ rfl rfl)
  ·cases h
 ·have:=qBb h;cases op<;>exact this
 ·obtain⟨b,hb,rfl⟩:=qrZ (xo:=xo) h;simp only [];rw [hb];rfl
 ·obtain⟨b,hb,rfl⟩:=qrZ (xo:=xo) h;simp only [];rw [hb];rfl
 ·rename_i x y hn1 hn2 hn3;rw [qbZ] at h
  obtain⟨b,hb,rfl⟩:=Option.map_eq_some_iff.1 h;have hp:=qoO hb;split<;>first
   |exact (hn1 _ _ _ _ rfl rfl).elim
   |exact (hn2 _ _ rfl rfl).elim
   |(rw [hp];rfl)
   |simp_all
 ·rename_i x y hn1 hn2 hn3;rw [qbZ] at h
  obtain⟨b,hb,rfl⟩:=Option.map_eq_some_iff.1 h;have hp:=qoO hb;split<;>first
   |exact (hn1 _ _ _ _ rfl rfl).elim
   |exact (hn2 _ _ rfl rfl).elim
   |(rw [hp];rfl)
   |simp_all
 ·cases h
end Go.Pv
set_option linter.unusedSimpArgs false
set_option linter.unusedVariables false
namespace Go.Pv
open Go.RowKit Tr
def pOff (off n k:Nat):Nat:=off+n * k
def nSub (b a:Nat):Nat:=b - a
def okIx (n:Int) (len:Nat):Bool:=decide (0≤n)&&decide (n.toNat < len)
def oLen (n:Nat):Int:=n
def cInt (cs:List PV) (off j:Nat):Int:=match cs.getD (off+j) .top with|.int _ n=>n|_=>0
def qF8 (cs:List PV) (off j:Nat):Bool:=match cs.getD (off+j) .top with|.bool b=>b|_=>false
def cStr (cs:List PV) (off j:Nat):List UInt8:=match cs.getD (off+j) .top with|.str l=>l|_=>[]
def cRow (cs:List PV) (off j:Nat):List (List PV):=match cs.getD (off+j) .top with|.sl l _=>l|_=>[]
def cPV (cs:List PV) (off j:Nat):PV:=cs.getD (off+j) .top
def qFs (c:PV) (cs:List PV) (off j:Nat):PV:=match c with
 |.int k _=>.int k (cInt cs off j)
 |.bool _=>.bool (qF8 cs off j)
 |.str _=>.str (cStr cs off j)
 |.sl _ _=>.sl (cRow cs off j) .non
 |_=>cPV cs off j
def cSel:List PV→List PV→Nat→Nat→List PV
 |[],_,_,_=>[]
 |c::z,cs,off,j=>qFs c cs off j::cSel z cs off (j+1)
open Classical in
def quW (z cs:List PV) (off:Nat):Bool:=decide ((cs.drop off).take z.length=cSel z cs off 0∧off+z.length≤cs.length)
theorem qo0 {z cs:List PV} {off:Nat} (h:quW z cs off=true):(cs.drop off).take z.length=cSel z cs off 0∧off+z.length≤cs.length:=by
 simpa [quW] using h
def qs8 (cs:List PV) (off n:Nat):Bool:=decide (off+n≤cs.length)
def putC (cs:List PV) (off:Nat) (vs:List PV):List PV:=cs.take off++vs++cs.drop (off+vs.length)
def clrC (cs:List PV) (off len:Nat) (z:List PV):List PV:=cs.take off++pzeros z len++cs.drop (off+len * z.length)
def qzz (K : TK) (cs : List PV) (off : Nat) : Tr PV :=
  if K.kd.known ∧ K.zero.length = K.size then
    (if K.kd.isAgg then chk (quW K.zero cs off) (.ret (.agg (cSel K.zero cs off 0)))
     else match K.zero with
      | [c] => chk (quW [c] cs off) (.ret (qFs c cs off 0))
      | _ => .fail)
  else .fail
theorem qv8 {K:TK} {cs:List PV} {off:Nat} {x:PV} (h:run (qzz K cs off)=some x):pload K cs off=some x:=by
 unfold qzz at h
 unfold pload;split at h
 ·rename_i hk;rw [if_pos hk.1];split at h
  ·rename_i ha;rw [if_pos ha];obtain⟨h1,h2⟩:=chk_some h;have h1:=qo0 h1;rw [hk.2] at h1;rw [if_pos h1.2,h1.1];exact h2
  ·rename_i ha;rw [if_neg ha];split at h
   ·rename_i c hz;obtain⟨h1,h2⟩:=chk_some h;have h1:=qo0 h1;simp only [List.length_cons,List.length_nil,cSel] at h1;simp only [run,Option.some.injEq] at h2;subst h2;have h3:=h1.1;have hlt:off < cs.length:=by omega
    rw [List.drop_eq_getElem_cons hlt] at h3;simp only [Nat.zero_add,List.take_succ_cons,List.take_zero,List.cons.injEq,and_true] at h3;rw [List.getElem?_eq_getElem hlt,h3]
   ·cases h
 ·cases h
def tload (tb:Tab) (t:TypeId) (a:PV) (σ:Store):Tr PV :=
 match tb t with
 |none=>.fail
 |some K=>match a with
  |.ptr id off=>match σ.objs[id]?,σ.tys[id]? with
   |some cs,some ty=>if qe5≤ty then qzz K cs off else qiP (pload K cs off)
   |_,_=>.fail
  |.ref cs=>qiP (pload K cs 0)
  |_=>.fail
theorem qzu {tb:Tab} {t:TypeId} {fr:List PV} {a:Operand} {σ:Store} {o:Oper} (ho:o.op=.load t a) {Γ:Gam} {x:PV} (hn:gcells Γ a=none) (h:run (tload tb t (ev fr a) σ)=some x):pop tb Γ fr σ o=some (x,σ):=by
 simp only [pop,ho,hn];unfold tload at h
 cases hK:tb t with
 |none=>simp [hK,run] at h
 |some K =>
  simp only [hK] at h ⊢;split at h
  ·rename_i id off he;simp only [he];split at h
   ·rename_i cs ty hc ht;simp only [hc];split at h
    ·rw [qv8 h];rfl
    ·rw [qbZ] at h;rw [h];rfl
   ·cases h
  ·rename_i cs he;simp only [he];rw [qbZ] at h;rw [h];rfl
  ·cases h
def tstore (tb:Tab) (t:TypeId) (a x:PV) (σ:Store):Tr Store :=
 match tb t with
 |none=>.fail
 |some K=>match a,pcells x with
  |.ptr id off,some vs=>match σ.objs[id]?,σ.tys[id]? with
   |some cs,some ty =>
    if qe5≤ty then (if vs.length=K.size∧vs.all one then chk (qs8 cs off K.size) (.ret { σ with objs:=σ.objs.set id (putC cs off vs) }) else .fail)
    else (if vs.length=K.size∧off+K.size≤cs.length∧vs.all one then .ret { σ with objs:=σ.objs.set id (cs.take off++vs++cs.drop (off+K.size)) } else .fail)
   |_,_=>.fail
  |_,_=>.fail
theorem qwq {tb:Tab} {t:TypeId} {fr:List PV} {a x:Operand} {σ σ':Store} {o:Oper} (ho:o.op=.store t a x) {Γ:Gam} (h:run (tstore tb t (ev fr a) (ev fr x) σ)=some σ'):pop tb Γ fr σ o=some (.top,σ'):=by
 simp only [pop,ho];unfold tstore at h
 cases hK:tb t with
 |none=>simp [hK,run] at h
 |some K =>
  simp only [hK] at h ⊢;split at h
  ·rename_i id off vs he hv;simp only [he,hv];split at h
   ·rename_i cs ty hc ht;simp only [hc];split at h
    ·split at h
     ·rename_i h1;obtain⟨h2,h3⟩:=chk_some h;simp only [qs8,decide_eq_true_eq] at h2;rw [if_pos ⟨h1.1,h2,h1.2⟩];simp only [run,putC,Option.some.injEq] at h3;rw [h1.1] at h3;rw [h3]
     ·cases h
    ·split at h
     ·rename_i h1;rw [if_pos h1];simp only [run,Option.some.injEq] at h
      rw [h]
     ·cases h
   ·cases h
  ·cases h
def tconv (tb:Tab) (src dst:TypeId) (x:PV):Tr PV :=
 match tb src,tb dst with
 |some S,some D=>match S.kd,D.kd,x with
  |.int _,.int k,.int _ n=>.ret (.int k (qda k n))
  |.int _,.str,.int _ n=>chk (qei n) (.ret (.str (sOne n)))
  |.str,.str,.str l=>.ret (.str l)
  |.sl e,.str,.sl xs _=>match tb e with
   |some ⟨.int .u8,1,_,_⟩=>chk (qet xs) (.ret (.str (qc2 xs)))
   |_=>.fail
  |.str,.sl e,.str l=>match tb e with
   |some ⟨.int .u8,1,_,_⟩=>chk (qoF l) (.ret (.sl (qaf l) .non))
   |_=>.fail
  |_,_,_=>.fail
 |_,_=>.fail
theorem qxs {tb:Tab} {src dst:TypeId} {x r:PV} (h:run (tconv tb src dst x)=some r):pconv tb src dst x=some r:=by
 unfold tconv at h
 unfold pconv;cases hS:tb src with
 |none=>simp [hS,run] at h
 |some S =>
  cases hD:tb dst with
  |none=>simp [hS,hD,run] at h
  |some D =>
   simp only [hS,hD] at h ⊢;split at h
   ·rename_i hk hk';simp only [hk,hk'];exact h
   ·rename_i k n hk hk';obtain⟨h1,h2⟩:=chk_some h;simp only [qei,Bool.and_eq_true,decide_eq_true_eq] at h1;simp only [hk,hk'];rw [if_pos h1];exact h2
   ·rename_i hk hk';simp only [hk,hk'];exact h
   ·rename_i e xs tg hk hk';simp only [hk,hk'];split at h
    ·rename_i b z hE;obtain⟨h1,h2⟩:=chk_some h;simp only [hE];cases hp:pbytes xs with
     |none=>simp [qet,hp] at h1
     |some l =>
      simp only [qc2,hp,Option.getD_some,run,Option.some.injEq] at h2;subst h2;rfl
    ·cases h
   ·rename_i e l hk hk';simp only [hk,hk'];split at h
    ·rename_i b z hE;obtain⟨h1,h2⟩:=chk_some h;simp only [hE];rw [if_pos (by simpa [qoF] using h1)]
     exact h2
    ·cases h
   ·cases h
def tbound:Option PV→Nat→Option (Bool×Nat)
 |none,d=>some (true,d)
 |some (.int _ n),_=>some (qao n,nNat n)
 |_,_=>none
theorem qcR {x:Option PV} {d a:Nat} (h:tbound x d=some (true,a)):pbound x d=some a:=by
 unfold tbound qao nNat at h
 unfold pbound;split at h
 ·simpa using h
 ·simp only [Option.some.injEq,Prod.mk.injEq,decide_eq_true_eq] at h
  simp [h.1,h.2]
 ·cases h
def tslice (tb:Tab) (t:TypeId) (x:PV) (lo hi mx:Option PV):Tr PV :=
 match tb t with
 |none=>.fail
 |some K=>match K.kd,x with
  |.str,.str l =>
   match mx,tbound lo 0,tbound hi (nLen l) with
   |none,some (ca,a),some (cb,b)=>chk (qaC ca cb a b (nLen l)) (.ret (.str (sSub l a b)))
   |_,_,_=>.fail
  |.sl e,.sl xs tag=>match tb e with
   |some E=>match mx with
    |none=>match tbound lo 0,tbound hi (nXs xs) with
     |some (ca,a),some (cb,b)=>chk (qaC ca cb a b (nXs xs)) (chk (qaD xs E.size) (.ret (.sl (xSub xs a b) (match lo,hi with|none,none=>tag|_,_=>.non))))
     |_,_=>.fail
    |some m=>match hi with
     |none=>.fail
     |some h=>match tbound lo 0,tbound (some h) 0,tbound (some m) 0 with
      |some (ca,a),some (cb,b),some (cc,c)=>chk (qyF ca cb cc a b c (nXs xs)) (chk (qaD xs E.size) (.ret (.sl (xSub xs a b) .full)))
      |_,_,_=>.fail
   |none=>.fail
  |.sl e,.osl id off len k=>match tb e,mx with
   |some E,none=>match tbound lo 0,tbound hi len with
    |some (ca,a),some (cb,b)=>if k=E.size then chk (qaC ca cb a b len) (.ret (.osl id (pOff off a k) (nSub b a) k)) else .fail
    |_,_=>.fail
   |_,_=>.fail
  |_,_=>.fail
theorem qwe {tb:Tab} {t:TypeId} {x r:PV} {lo hi mx:Option PV} (h:run (tslice tb t x lo hi mx)=some r):pslice tb t x lo hi mx=some r:=by
 unfold tslice at h
 unfold pslice;cases hK:tb t with
 |none=>simp [hK,run] at h
 |some K =>
  simp only [hK] at h ⊢;split at h
  ·rename_i l hk;simp only [hk];split at h
   ·rename_i ca a cb b ha hb;obtain⟨h1,h2⟩:=chk_some h;simp only [qaC,Bool.and_eq_true] at h1;obtain⟨⟨⟨rfl,rfl⟩,h1⟩,h3⟩:=h1;simp only [qcR ha,show pbound hi l.length=some b from qcR hb]
    rw [if_pos ⟨of_decide_eq_true h1,of_decide_eq_true h3⟩];exact h2
   ·cases h
  ·rename_i e xs tag hk;simp only [hk];cases hE:tb e with
   |none=>simp [hE,run] at h
   |some E =>
    simp only [hE] at h ⊢;split at h
    ·split at h
     ·rename_i ca a cb b ha hb;obtain⟨h1,h2⟩:=chk_some h;obtain⟨h4,h2⟩:=chk_some h2;simp only [qaC,Bool.and_eq_true] at h1;obtain⟨⟨⟨rfl,rfl⟩,h1⟩,h3⟩:=h1;unfold qaD at h4;rw [if_pos h4];simp only [qcR ha,show pbound hi xs.length=some b from qcR hb]
      rw [if_pos ⟨of_decide_eq_true h1,of_decide_eq_true h3⟩];exact h2
     ·cases h
    ·rename_i m;split at h
     ·cases h
     ·rename_i hh;split at h
      ·rename_i ca a cb b cc c ha hb hc;obtain⟨h1,h2⟩:=chk_some h;obtain⟨h5,h2⟩:=chk_some h2;simp only [qyF,Bool.and_eq_true] at h1;obtain⟨⟨⟨⟨⟨rfl,rfl⟩,rfl⟩,h1⟩,h3⟩,h4⟩:=h1;unfold qaD at h5;rw [if_pos h5];simp only [qcR ha,qcR hb,qcR hc];rw [if_pos ⟨of_decide_eq_true h1,of_decide_eq_true h3,of_decide_eq_true h4⟩];exact h2
      ·cases h
  ·rename_i e id off len k hk;simp only [hk];split at h
   ·rename_i E hE;simp only [hE];split at h
    ·rename_i ca a cb b ha hb;split at h
     ·rename_i hkE;obtain⟨h1,h2⟩:=chk_some h;simp only [qaC,Bool.and_eq_true] at h1;obtain⟨⟨⟨rfl,rfl⟩,h1⟩,h3⟩:=h1;simp only [qcR ha,qcR hb];rw [if_pos ⟨of_decide_eq_true h1,of_decide_eq_true h3,hkE⟩];exact h2
     ·cases h
    ·cases h
   ·cases h
  ·cases h
def qpN (tb:Tab) (t:TypeId) (x i:PV):Tr PV :=
 match tb t with
 |none=>.fail
 |some K=>match K.kd,x,i with
  |.sl e,.sl xs _,.int _ n=>match tb e with
   |some E=>chk (qao n) (.get xs (nNat n) E.zero fun cs=>if cs.length=E.size then .ret (.ref cs) else .fail)
   |none=>.fail
  |.sl e,.osl id off len k,.int _ n=>match tb e with
   |some E=>if k=E.size then chk (okIx n len) (.ret (.ptr id (pOff off (nNat n) k))) else .fail
   |none=>.fail
  |.arr m e,.ptr id off,.int _ n=>match tb e with
   |some E=>if 0≤n∧n.toNat < m then .ret (.ptr id (off+n.toNat * E.size)) else .fail
   |none=>.fail
  |_,_,_=>.fail
theorem qrQ {tb:Tab} {t:TypeId} {x i r:PV} (h:run (qpN tb t x i)=some r):qj2 tb t x i=some r:=by
 unfold qpN at h
 unfold qj2;cases hK:tb t with
 |none=>simp [hK,run] at h
 |some K =>
  simp only [hK] at h ⊢;split at h
  ·rename_i e xs tg k n hk;simp only [hk];cases hE:tb e with
   |none=>simp [hE,run] at h
   |some E =>
    simp only [hE] at h ⊢;obtain⟨h1,h2⟩:=chk_some h;rw [if_pos (by simpa [qao] using h1)]
    simp only [run,nNat] at h2;split at h2
    ·rename_i cs hcs;simp only [hcs];split at h2
     ·rename_i hl;rw [if_pos hl];exact h2
     ·cases h2
    ·cases h2
  ·rename_i e id off len k kk n hk;simp only [hk];cases hE:tb e with
   |none=>simp [hE,run] at h
   |some E =>
    simp only [hE] at h ⊢;split at h
    ·rename_i h0;obtain⟨h1,h2⟩:=chk_some h;simp only [okIx,Bool.and_eq_true,decide_eq_true_eq] at h1;rw [if_pos ⟨h1.1,h1.2,h0⟩];exact h2
    ·cases h
  ·rename_i m e id off k n hk;simp only [hk];cases hE:tb e with
   |none=>simp [hE,run] at h
   |some E =>
    simp only [hE] at h ⊢;split at h
    ·rename_i h0;rw [if_pos h0];exact h
    ·cases h
  ·cases h
def tarr (E:TK) (cs:List PV) (n:Int):Nat→Nat→Tr PV
 |0,_=>.fail
 |k+1,i=>.ite (iEq n i) (qiP (pload E cs (i * E.size))) (tarr E cs n k (i+1))
theorem quI {E:TK} {cs:List PV} {n:Int} {r:PV}:∀ (k i:Nat),run (tarr E cs n k i)=some r→0≤n∧n.toNat < i+k∧pload E cs (n.toNat * E.size)=some r
 |0,_,h=>by cases h
 |k+1,i,h=>by
  unfold tarr at h
  cases hb:iEq n i with
  |true =>
   rw [hb] at h
   have hn:n=i:=by simpa [iEq] using hb
   simp only [run] at h
   rw [qbZ] at h
   subst hn;exact⟨by omega,by simp,by simpa using h⟩
  |false =>
   rw [hb] at h
   simp only [run] at h
   have:=quI k (i+1) h;exact⟨this.1,by omega,this.2.2⟩
def tindex (tb:Tab) (t:TypeId) (x i:PV):Tr PV :=
 match tb t with
 |none=>.fail
 |some K=>match K.kd,x,i with
  |.str,.str l,.int _ n=>chk (qbM l n) (.ret (.int .u8 (sAt l n)))
  |.arr m e,.agg cs,.int _ n=>match tb e with
   |some E=>tarr E cs n m 0
   |none=>.fail
  |_,_,_=>.fail
theorem qwO {tb:Tab} {t:TypeId} {x i r:PV} (h:run (tindex tb t x i)=some r):pindex tb t x i=some r:=by
 unfold tindex at h
 unfold pindex;cases hK:tb t with
 |none=>simp [hK,run] at h
 |some K =>
  simp only [hK] at h ⊢;split at h
  ·rename_i l k n hk;simp only [hk];obtain⟨h1,h2⟩:=chk_some h;simp only [qbM,Bool.and_eq_true,decide_eq_true_eq] at h1;rw [if_pos h1.1,List.getElem?_eq_getElem h1.2];unfold sAt at h2;rw [List.getD_eq_getElem?_getD,List.getElem?_eq_getElem h1.2] at h2;exact h2
  ·rename_i m e cs k n hk;simp only [hk];cases hE:tb e with
   |none=>simp [hE,run] at h
   |some E =>
    simp only [hE] at h ⊢;obtain⟨h1,h2,h3⟩:=quI _ _ h;rw [if_pos ⟨h1,by omega⟩]
    exact h3
  ·cases h
def tnil {α:Type} (lit:Bool) (ys:qR) (x y:Tr α):Tr α :=
 if lit then (match ys with|[]=>x|_::_=>y) else .ite (xNil ys) x y
theorem qBL {α:Type} (lit:Bool) (ys:qR) (x y:Tr α):run (tnil lit ys x y)=match ys with|[]=>run x|_::_=>run y:=by
 unfold tnil;split<;>cases ys<;>rfl
def tappend (tb:Tab) (m lit:Bool) (t:TypeId) (s:PV) (ys:qR) (σ:Store):Tr (PV×Store) :=
 match tb t with
 |none=>.fail
 |some K=>match K.kd,s with
  |.sl e,.sl xs tag=>match tb e with
   |some E =>
    if 0 < E.size∧0 < E.bytes∧E.zero.length=E.size then
     chk (qbm xs ys E.bytes) <| chk (qbf ys E.size) <| chk (qaD xs E.size) <|
      tnil lit ys (.ret (.sl xs tag,σ)) <| match tag with
      |.non=>.fail
      |.nil=>.fail
      |.own=>.fail
      |.full=>if m then .ret (.osl σ.objs.length 0 (nXs (xApp xs ys)) E.size,{ σ with objs:=σ.objs++[(xApp xs ys).flatten],tys:=σ.tys++[e+qe5] }) else .ret (.sl (xApp xs ys) (.tok σ.toks.length),{ σ with toks:=σ.toks++[(nXs (xApp xs ys),E.size,e)] })
      |.tok i=>match σ.toks[i]? with
       |some (v,k,e')=>if k=E.size∧e'=e then chk (nEq v (nXs xs)) (.ret (.sl (xApp xs ys) (.tok i),{ σ with toks:=σ.toks.set i (nXs (xApp xs ys),E.size,e) })) else .fail
       |none=>.fail
    else .fail
   |none=>.fail
  |_,_=>.fail
theorem qmP {tb:Tab} {m lit:Bool} {t:TypeId} {s:PV} {ys:List (List PV)} {tg:Tag} {σ:Store} {r:PV×Store} (h:run (tappend tb m lit t s ys σ)=some r):pappend tb m t s (.sl ys tg) σ=some r:=by
 unfold tappend at h
 unfold pappend;cases hK:tb t with
 |none=>simp [hK,run] at h
 |some K =>
  simp only [hK,pnews] at h ⊢;split at h
  ·rename_i e xs tag hk;simp only [hk];cases hE:tb e with
   |none=>simp [hE,run] at h
   |some E =>
    simp only [hE] at h ⊢;split at h
    ·rename_i hc;obtain⟨h1,h2⟩:=chk_some h;have hh:=chk_some h2;clear h2;obtain⟨h5,h7⟩:=hh;have hh:=chk_some h7;clear h7;obtain⟨h6,h2⟩:=hh;simp only [qbm,Bool.and_eq_true,decide_eq_true_eq] at h1;obtain⟨h3,h4⟩:=h1;unfold qbf at h5;unfold qaD at h6;rw [if_pos ⟨h3,h4,hc.1,hc.2.1,hc.2.2,by rw [h5,h6];rfl⟩]
     rw [qBL] at h2;cases ys with
     |nil=>exact h2
     |cons y ys =>
      simp only [nXs,xApp,List.length_append] at h2 ⊢;split at h2
      ·cases h2
      ·cases h2
      ·cases h2
      ·cases m<;>exact h2
      ·rename_i i;simp only [];cases hσ:σ.toks[i]? with
       |none=>simp [hσ,run] at h2
       |some q =>
        obtain⟨v,k,e'⟩:=q;simp only [hσ] at h2 ⊢;split at h2
        ·rename_i hke;obtain⟨h7,h8⟩:=chk_some h2;rw [if_pos ⟨by simpa [nEq] using h7,hke.1,hke.2⟩]
         exact h8
        ·cases h2
    ·cases h
  ·cases h
def tclear (tb:Tab) (t:TypeId) (x:PV) (σ:Store):Tr (PV×Store) :=
 match tb t,x with
 |some K,.osl id off len k=>match K.kd with
  |.sl e=>match tb e with
   |some E=>.ite (nEq len 0) (.ret (.tup [],σ)) (match σ.objs[id]? with
    |some cs=>if E.zero.length=k∧0 < k∧E.zero.all one then chk (qs8 cs off (pOff 0 len k)) (.ret (.tup [],{ σ with objs:=σ.objs.set id (clrC cs off len E.zero) })) else .fail
    |none=>.fail)
   |none=>.fail
  |_=>.fail
 |_,_=>.fail
theorem qwB {tb:Tab} {t:TypeId} {x:PV} {σ:Store} {r:PV×Store} (h:run (tclear tb t x σ)=some r):pclear tb t x σ=some r:=by
 unfold tclear at h
 unfold pclear;split at h
 ·rename_i K id off len k hK;simp only [hK];split at h
  ·rename_i e hk;simp only [hk];cases hE:tb e with
   |none=>simp [hE,run] at h
   |some E =>
    simp only [hE,run,nEq] at h ⊢;by_cases h0:len=0
    ·rw [if_pos h0];simp [h0] at h
     rw [← h]
    ·rw [if_neg h0];simp only [h0,decide_false,cond_false] at h
     split at h
     ·rename_i cs hc;simp only [hc];split at h
      ·rename_i h1;obtain⟨h2,h3⟩:=chk_some h;simp only [qs8,pOff,Nat.zero_add,decide_eq_true_eq] at h2;rw [if_pos ⟨h1.1,h1.2.1,h1.2.2,h2⟩];simp only [run,clrC,Option.some.injEq] at h3;rw [h1.1] at h3;rw [h3]
      ·cases h
     ·cases h
  ·cases h
 ·cases h
inductive ConT where
 |pure (F:List PV→Tr PV)
 |store (D:List PV→Store→Tr (PV×Store))
 |flag
 |yld (e:Nat) (Y:Nat→List PV→Store→Tr (PV×Store))
 |glob (cs:List PV)
 |hint (l:List (Nat×Nat×Nat×TypeId))
def ConT.con:ConT→Con
 |.pure F=>.pure fun args=>Tr.run (F args)
 |.store D=>.store fun args σ=>Tr.run (D args σ)
 |.flag=>.flag
 |.glob cs=>.glob cs
 |.hint l=>.hint l
 |.yld e Y=>.yld e fun t args σ=>Tr.run (Y t args σ)
abbrev GamT:=FuncId→Option ConT
def gam (G:GamT):Gam:=fun f=>(G f).map ConT.con
def qs3 (kn:List Nat):Operand→Bool
 |.const _=>true
 |.tmp t=>kn.contains t
 |_=>false
def qjq (G:GamT):Bool:=match G qx8 with
 |some .flag=>true
 |_=>false
theorem qiU (G:GamT):qiS (gam G)=qjq G:=by
 unfold qiS qjq gam;cases G qx8 with
 |none=>rfl
 |some c=>cases c<;>rfl
def qt2 (tb:Tab) (G:GamT) (kn:List Nat) (fr:List PV) (σ:Store) (c:Call):Tr (PV×Store) :=
 match c.callee with
 |.builtin .append=>match c.argTypes.toList,c.args.toList with
  |[t,t'],[s,x]=>if t=t' then match ev fr x with
   |.sl ys _=>tappend tb (qjq G) (qs3 kn x) t (ev fr s) ys σ
   |_=>.fail
   else match tb t' with
   |some K=>match K.kd,ev fr x with
    |.str,.str l=>tappend tb (qjq G) false t (ev fr s) (qaf l) σ
    |_,_=>.fail
   |none=>.fail
  |_,_=>.fail
 |.builtin .len=>match c.argTypes.toList,c.args.toList with
  |[t],[x]=>match tb t with
   |some K=>match K.kd,ev fr x with
    |.str,.str l=>.ret (.int .i64 (sLen l),σ)
    |.sl _,.sl xs _=>.ret (.int .i64 (xLen xs),σ)
    |.sl _,.osl _ _ len _=>.ret (.int .i64 (oLen len),σ)
    |_,_=>.fail
   |none=>.fail
  |_,_=>.fail
 |.builtin .clear=>match c.argTypes.toList,c.args.toList with
  |[t],[x]=>tclear tb t (ev fr x) σ
  |_,_=>.fail
 |.value f=>match ev fr f with
  |.fn g caps=>match G g with
   |some (.pure F)=>bind (F ((c.args.toList.map (ev fr)++caps).map (view σ.objs))) fun x=>.ret (x,σ)
   |some (.store D)=>match f with
    |.func _=>D (c.args.toList.map (ev fr)) σ
    |_=>.fail
   |some .flag=>.fail
   |some (.yld _ _)=>.fail
   |some (.glob _)=>.fail
   |some (.hint _)=>.fail
   |none=>.fail
  |.yld t=>match G qdU with
   |some (.yld e Y)=>match σ.toks[t]? with
    |some (s,k,e')=>if k=0∧e'=e then chk (nEq s 0) (Y t (c.args.toList.map (ev fr)) σ) else .fail
    |none=>.fail
   |_=>.fail
  |_=>.fail
 |_=>qiP (qc9 tb (gam G) fr σ c)
theorem qtC {tb:Tab} {G:GamT} {kn:List Nat} {fr:List PV} {σ:Store} {c:Call} {r:PV×Store} (h:run (qt2 tb G kn fr σ c)=some r):qc9 tb (gam G) fr σ c=some r:=by
 unfold qt2 at h
 split at h
 ·rename_i hc;unfold qc9;simp only [hc];split at h
  ·rename_i t t' s x ht hx;simp only [ht,hx];split at h
   ·rename_i htt;rw [if_pos htt];split at h
    ·rename_i ys tg he;simp only [he];rw [qiU];exact qmP h
    ·cases h
   ·rename_i htt;rw [if_neg htt];cases hK:tb t' with
    |none=>simp [hK,run] at h
    |some K =>
     simp only [hK] at h ⊢;split at h
     ·rename_i l hk he;simp only [hk,he];rw [qiU];exact qmP (tg:=.non) h
     ·cases h
  ·cases h
 ·rename_i hc;unfold qc9;simp only [hc];split at h
  ·rename_i t x ht hx;simp only [ht,hx];cases hK:tb t with
   |none=>simp [hK,run] at h
   |some K =>
    simp only [hK] at h ⊢;split at h
    ·rename_i l hk he;simp only [hk,he];exact h
    ·rename_i e xs tg hk he;simp only [hk,he];exact h
    ·rename_i e id off len k hk he;simp only [hk,he];exact h
    ·cases h
  ·cases h
 ·rename_i hc;unfold qc9;simp only [hc];split at h
  ·rename_i t x ht hx;simp only [ht,hx];exact qwB h
  ·cases h
 ·rename_i f hc;unfold qc9;simp only [hc];split at h
  ·rename_i g caps he;simp only [he];cases hG:G g with
   |none=>simp [hG,run] at h
   |some K =>
    cases K with
    |pure F =>
     simp only [hG] at h
     obtain⟨x,hx,hr⟩:=bind_some h;simp only [gam,hG,Option.map_some,ConT.con,hx];exact hr
    |store D =>
     simp only [hG] at h
     simp only [gam,hG,Option.map_some,ConT.con];split at h
     ·exact h
     ·cases h
    |flag =>
     simp only [hG] at h
     cases h
    |yld e Y =>
     simp only [hG] at h
     cases h
    |glob cs =>
     simp only [hG] at h
     cases h
    |hint l =>
     simp only [hG] at h
     cases h
  ·rename_i t he;simp only [he];cases hG:G qdU with
   |none=>simp [hG,run] at h
   |some K =>
    cases K with
    |yld e Y =>
     simp only [hG] at h
     simp only [gam,hG,Option.map_some,ConT.con];split at h
     ·rename_i s k e' htk;simp only [htk];split at h
      ·rename_i hc2;obtain⟨h1,h2⟩:=chk_some h;have h3:s=0:=by simpa [nEq] using h1
       rw [if_pos ⟨h3,hc2.1,hc2.2⟩];exact h2
      ·cases h
     ·cases h
    |pure F=>simp [hG,run] at h
    |store D=>simp [hG,run] at h
    |flag=>simp [hG,run] at h
    |glob cs=>simp [hG,run] at h
    |hint l=>simp [hG,run] at h
  ·cases h
 ·rwa [qbZ] at h
def tun (op:UnOp) (x:PV):Tr PV :=
 match op,x with
 |.neg,.int k n=>.ret (.int k (iSub k 0 n))
 |.not,.bool b=>.ret (.bool (bNot b))
 |_,_=>.fail
theorem qC9 {op:UnOp} {x r:PV} (h:run (tun op x)=some r):pun op x=some r:=by
 unfold tun at h
 unfold pun;split at h
 ·exact h
 ·exact h
 ·cases h
def qCm (n m:Int) (s b:Nat):Bool:=decide (0≤n)&&decide (n=m)&&decide (n.toNat * s≤16777216)&&decide (b * n.toNat≤281474976710656)
def zC (n:Nat) (z:List PV):List PV:=reps n z
def qk3 (tb:Tab) (m:Bool) (t:TypeId) (x y:PV) (σ:Store):Tr (PV×Store):=match m with
 |false=>bind (qiP (qfG tb t x y)) fun x=>.ret (x,σ)
 |true=>match tb t,x,y with
  |some K,.int _ n,.int _ m=>match K.kd with
   |.sl e=>match tb e with
    |some E=>bif (E.zero.length == E.size&&Nat.blt 0 E.size) then chk (qCm n m E.size E.bytes) (.ret (.osl σ.objs.length 0 (nNat n) E.size,{ σ with objs:=σ.objs++[zC (nNat n) E.zero],tys:=σ.tys++[e+qe5] })) else .fail
    |none=>.fail
   |_=>.fail
  |_,_,_=>.fail
theorem qoI {tb:Tab} {m:Bool} {t:TypeId} {x y:PV} {σ:Store} {r:PV×Store} (h:run (qk3 tb m t x y σ)=some r):(if m=true then qhB tb t x y σ else (qfG tb t x y).map fun x=>(x,σ))=some r:=by
 unfold qk3 at h
 split at h
 ·obtain⟨v,hv,h⟩:=bind_some h;rw [qbZ] at hv;simp only [run,Option.some.injEq] at h
  subst h;simp [hv]
 ·simp only [if_true];unfold qhB;split at h
  ·rename_i K k1 n k2 m hK;split at h
   ·rename_i e hk;split at h
    ·rename_i E hE;simp only [hK,hk,hE];cases hc:(E.zero.length == E.size&&Nat.blt 0 E.size) with
     |false=>rw [hc] at h;cases h
     |true =>
      rw [hc] at h
      simp only [cond_true] at h
      obtain⟨h1,h2⟩:=chk_some h;simp only [Bool.and_eq_true,beq_iff_eq] at hc;simp only [qCm,Bool.and_eq_true,decide_eq_true_eq] at h1;have h3:0 < E.size:=by simpa using hc.2
      rw [if_pos ⟨h1.1.1.1,h1.1.1.2,h1.1.2,h1.2,hc.1,h3⟩];exact h2
    ·cases h
   ·cases h
  ·cases h
def qkj (G:GamT):Operand→Option (List PV)
 |.global g=>match G (qui+g) with
  |some (.glob cs)=>some cs
  |_=>none
 |_=>none
theorem qo9 (G:GamT) (a:Operand):gcells (gam G) a=qkj G a:=by
 cases a with
 |global g =>
  simp only [gcells,qkj,gam];cases G (qui+g) with
  |none=>rfl
  |some K=>cases K<;>rfl
 |_=>rfl
theorem qr6 {G:GamT} {a:Operand} {cs:List PV} (h:qkj G a=some cs):gcells (gam G) a=some cs:=by rw [qo9,h]
theorem qsf {G:GamT} {a:Operand} (h:qkj G a=none):gcells (gam G) a=none:=by rw [qo9,h]
def qhM (G:GamT) (o:Oper):List (Nat×Nat×TypeId):=match o.dst with
 |none=>[]
 |some d=>match G qhg with
  |some (.hint l)=>qqh l d
  |_=>[]
def qiJ (G:GamT) (o:Oper):List (Nat×Nat×TypeId):=match o.op with
 |.move x=>match qnQ x with
  |true=>qhM G o
  |false=>[]
 |.assign x=>match qnQ x with
  |true=>qhM G o
  |false=>[]
 |.build _ _=>qhM G o
 |.alloc _=>qhM G o
 |_=>[]
theorem qh0 (G:GamT) (o:Oper):hinted (gam G) o=qiJ G o:=by
 have e:qkt (gam G) o=qhM G o:=by
  unfold qkt qhM gam;cases o.dst with
  |none=>rfl
  |some d =>
   cases G qhg with
   |none=>rfl
   |some K=>cases K<;>rfl
 unfold hinted qiJ;rw [e];cases o.op<;>rfl
def topp (tb:Tab) (G:GamT) (kn:List Nat) (fr:List PV) (σ:Store) (o:Oper):Tr (PV×Bool×Store) :=
 match o.op with
 |.move x|.assign x=>match qiJ G o with
  |[]=>.ret (ev fr x,qs3 kn x,σ)
  |hs=>.ret ((rtag hs (ev fr x) σ).1,false,(rtag hs (ev fr x) σ).2)
 |.alloc t=>match tb t with
  |some K=>.ret ((robj (qiJ G o) K.zero t σ).1,false,(robj (qiJ G o) K.zero t σ).2)
  |none=>.fail
 |.build t parts=>bind (qiP (pbuild tb t (parts.toList.map fun p=>(p.1,ev fr p.2)))) fun x=>.ret ((rtag (qiJ G o) x σ).1,false,(rtag (qiJ G o) x σ).2)
 |.pick c a b=>match ev fr c with
  |.bool t=>br (qs3 kn c) t (.ret (ev fr a,qs3 kn a,σ)) (.ret (ev fr b,qs3 kn b,σ))
  |_=>.fail
 |.buildSlice t len parts=>bind (qiP (qf5 tb t len (parts.toList.map fun p=>(p.1,ev fr p.2)))) fun x=>.ret (x,true,σ)
 |.binOp op t x y _=>bind (tbin tb op t x y (ev fr x) (ev fr y)) fun v=>.ret (v,false,σ)
 |.convert s d x=>bind (tconv tb s d (ev fr x)) fun v=>.ret (v,false,σ)
 |.slice t x lo hi mx=>bind (tslice tb t (ev fr x) (lo.map (ev fr)) (hi.map (ev fr)) (mx.map (ev fr))) fun v=>.ret (v,false,σ)
 |.indexAddr t x i=>bind (qpN tb t (ev fr x) (ev fr i)) fun v=>.ret (v,false,σ)
 |.index t x i=>bind (tindex tb t (ev fr x) (ev fr i)) fun v=>.ret (v,false,σ)
 |.unOp op _ x=>bind (tun op (ev fr x)) fun v=>.ret (v,qs3 kn x,σ)
 |.load t a=>match qkj G a with
  |some cs=>match tb t with
   |some K=>bind (qiP (pload K cs 0)) fun v=>.ret (v,false,σ)
   |none=>.fail
  |none=>bind (tload tb t (ev fr a) σ) fun v=>.ret (v,false,σ)
 |.store t a x=>bind (tstore tb t (ev fr a) (ev fr x) σ) fun σ'=>.ret (.top,false,σ')
 |.call c=>bind (qt2 tb G kn fr σ c) fun r=>.ret (r.1,false,r.2)
 |.makeSlice t l c=>bind (qk3 tb (qjq G) t (ev fr l) (ev fr c) σ) fun r=>.ret (r.1,false,r.2)
 |_=>bind (qiP (pop tb (gam G) fr σ o)) fun r=>.ret (r.1,false,r.2)
theorem qBA {tb:Tab} {G:GamT} {kn:List Nat} {fr:List PV} {σ:Store} {o:Oper} {x:PV} {l:Bool} {σ':Store} (h:run (topp tb G kn fr σ o)=some (x,l,σ')):pop tb (gam G) fr σ o=some (x,σ'):=by
 unfold topp at h
 split at h
 ·rename_i y ho;simp only [pop,ho,qh0];split at h
  ·rename_i hh;simp only [run,Option.some.injEq,Prod.mk.injEq] at h
   obtain⟨rfl,rfl,rfl⟩:=h;rw [hh];rfl
  ·simp only [run,Option.some.injEq,Prod.mk.injEq] at h
   obtain⟨h1,h2,h3⟩:=h;exact congrArg some (Prod.ext h1 h3)
 ·rename_i y ho;simp only [pop,ho,qh0];split at h
  ·rename_i hh;simp only [run,Option.some.injEq,Prod.mk.injEq] at h
   obtain⟨rfl,rfl,rfl⟩:=h;rw [hh];rfl
  ·simp only [run,Option.some.injEq,Prod.mk.injEq] at h
   obtain⟨h1,h2,h3⟩:=h;exact congrArg some (Prod.ext h1 h3)
 ·rename_i t ho;simp only [pop,ho,qh0];cases hK:tb t with
  |none=>simp [hK,run] at h
  |some K =>
   simp only [hK,run,Option.some.injEq,Prod.mk.injEq] at h ⊢;obtain⟨h1,h2,h3⟩:=h;exact Prod.ext h1 h3
 ·rename_i t parts ho;obtain⟨v,hv,h⟩:=bind_some h;rw [qbZ] at hv;simp only [run,Option.some.injEq,Prod.mk.injEq] at h
  obtain⟨h1,h2,h3⟩:=h;simp only [pop,ho,hv,Option.map_some,qh0];exact congrArg some (Prod.ext h1 h3)
 ·rename_i c a b ho;simp only [pop,ho];split at h
  ·rename_i t ht;rw [qEG] at h
   simp only [ht];cases t <;>
   ·simp only [run,cond_true,cond_false,Option.some.injEq,Prod.mk.injEq] at h ⊢;exact⟨h.1,h.2.2⟩
  ·cases h
 ·rename_i ho;obtain⟨v,hv,h⟩:=bind_some h;rw [qbZ] at hv;simp only [run,Option.some.injEq,Prod.mk.injEq] at h
  obtain⟨rfl,rfl,rfl⟩:=h;simp only [pop,ho,hv,Option.map_some]
 ·rename_i ho;obtain⟨v,hv,h⟩:=bind_some h;simp only [run,Option.some.injEq,Prod.mk.injEq] at h
  obtain⟨rfl,rfl,rfl⟩:=h;simp only [pop,ho,qAZ hv,Option.map_some]
 ·rename_i ho;obtain⟨v,hv,h⟩:=bind_some h;simp only [run,Option.some.injEq,Prod.mk.injEq] at h
  obtain⟨rfl,rfl,rfl⟩:=h;simp only [pop,ho,qxs hv,Option.map_some]
 ·rename_i ho;obtain⟨v,hv,h⟩:=bind_some h;simp only [run,Option.some.injEq,Prod.mk.injEq] at h
  obtain⟨rfl,rfl,rfl⟩:=h;simp only [pop,ho,qwe hv,Option.map_some]
 ·rename_i ho;obtain⟨v,hv,h⟩:=bind_some h;simp only [run,Option.some.injEq,Prod.mk.injEq] at h
  obtain⟨rfl,rfl,rfl⟩:=h;simp only [pop,ho,qrQ hv,Option.map_some]
 ·rename_i ho;obtain⟨v,hv,h⟩:=bind_some h;simp only [run,Option.some.injEq,Prod.mk.injEq] at h
  obtain⟨rfl,rfl,rfl⟩:=h;simp only [pop,ho,qwO hv,Option.map_some]
 ·rename_i ho;obtain⟨v,hv,h⟩:=bind_some h;simp only [run,Option.some.injEq,Prod.mk.injEq] at h
  obtain⟨rfl,rfl,rfl⟩:=h;simp only [pop,ho,qC9 hv,Option.map_some]
 ·rename_i t y ho;cases hg:qkj G y with
  |some cs =>
   simp only [hg] at h
   cases hK:tb t with
   |none=>simp [hK,run] at h
   |some K =>
    simp only [hK] at h
    obtain⟨v,hv,h⟩:=bind_some h;rw [qbZ] at hv;simp only [run,Option.some.injEq,Prod.mk.injEq] at h
    obtain⟨rfl,rfl,rfl⟩:=h;simp only [pop,ho,qr6 hg,hK,hv,Option.map_some]
  |none =>
   simp only [hg] at h
   obtain⟨v,hv,h⟩:=bind_some h;simp only [run,Option.some.injEq,Prod.mk.injEq] at h
   obtain⟨rfl,rfl,rfl⟩:=h;exact qzu ho (qsf hg) hv
 ·rename_i t y z ho;obtain⟨v,hv,h⟩:=bind_some h;simp only [run,Option.some.injEq,Prod.mk.injEq] at h
  obtain⟨rfl,rfl,rfl⟩:=h;exact qwq ho hv
 ·rename_i c ho;obtain⟨v,hv,h⟩:=bind_some h;simp only [run,Option.some.injEq,Prod.mk.injEq] at h
  obtain⟨rfl,rfl,rfl⟩:=h;simp only [pop,ho,qtC hv]
 ·rename_i t y z ho;obtain⟨v,hv,h⟩:=bind_some h;simp only [run,Option.some.injEq,Prod.mk.injEq] at h
  obtain⟨rfl,rfl,rfl⟩:=h;simp only [pop,ho];have:=qoI hv;rw [← qiU] at this;exact this
 ·obtain⟨v,hv,h⟩:=bind_some h;rw [qbZ] at hv;simp only [run,Option.some.injEq,Prod.mk.injEq] at h
  obtain⟨rfl,rfl,rfl⟩:=h;exact hv
def kput (kn:List Nat) (dst:Option Tmp) (l:Bool):List Nat :=
 match dst with
 |some d=>bif l then d::kn else kn.filter (fun t=>!(t == d))
 |none=>kn
abbrev Fm:=List Nat×List PV×Store
def tops (tb:Tab) (G:GamT) (ops:List Oper):List Oper→List Nat→List PV→Store→Tr Fm
 |[],kn,fr,σ=>.ret (kn,fr,σ)
 |o::rest,kn,fr,σ=>match o.guard with
  |none=>bind (topp tb G kn fr σ o) fun r=>tops tb G ops rest (kput kn o.dst r.2.1) (pput fr o.dst r.1) r.2.2
  |some (j,b)=>match (ops[j]?).bind (·.dst) with
   |none=>.fail
   |some d=>match fr[d]? with
    |some (.bool c) =>
     if kn.contains d then
      if c == b then bind (topp tb G kn fr σ o) fun r=>tops tb G ops rest (kput kn o.dst r.2.1) (pput fr o.dst r.1) r.2.2
      else tops tb G ops rest (kput kn o.dst false) (pput fr o.dst (.tup [])) σ
     else
      .ite c
       (if b then bind (topp tb G (d::kn) (fr.set d (.bool true)) σ o) fun r=>tops tb G ops rest (kput (d::kn) o.dst r.2.1) (pput (fr.set d (.bool true)) o.dst r.1) r.2.2
       else tops tb G ops rest (kput (d::kn) o.dst false) (pput (fr.set d (.bool true)) o.dst (.tup [])) σ)
       (if b then tops tb G ops rest (kput (d::kn) o.dst false) (pput (fr.set d (.bool false)) o.dst (.tup [])) σ
       else bind (topp tb G (d::kn) (fr.set d (.bool false)) σ o) fun r=>tops tb G ops rest (kput (d::kn) o.dst r.2.1) (pput (fr.set d (.bool false)) o.dst r.1) r.2.2)
    |some (.tup _)=>tops tb G ops rest (kput kn o.dst false) (pput fr o.dst (.tup [])) σ
    |_=>.fail
theorem qq4 {fr:List PV} {d:Nat} {x:PV} (h:fr[d]?=some x):fr.set d x=fr:=by
 apply List.ext_getElem?;intro i;rw [List.getElem?_set];split
 ·rename_i e;subst e;split
  ·exact h.symm
  ·rename_i hl;exact absurd (List.getElem?_eq_some_iff.1 h).1 hl
 ·rfl
theorem qAG {tb:Tab} {G:GamT} {ops:List Oper}:∀ (l:List Oper) (kn:List Nat) (fr:List PV) (σ:Store) (kn':List Nat) (fr':List PV) (σ':Store),run (tops tb G ops l kn fr σ)=some (kn',fr',σ')→pops tb (gam G) ops l fr σ=some (fr',σ'):=by
 intro l
 induction l with
 |nil =>
  intro kn fr σ kn' fr' σ' h;simp only [tops,run,Option.some.injEq,Prod.mk.injEq] at h
  obtain⟨_,rfl,rfl⟩:=h;rfl
 |cons o rest ih =>
  intro kn fr σ kn' fr' σ' h;have yes:∀ kn,pwanted ops fr o=some true→run (bind (topp tb G kn fr σ o) fun r=>tops tb G ops rest (kput kn o.dst r.2.1) (pput fr o.dst r.1) r.2.2)=some (kn',fr',σ')→pops tb (gam G) ops (o::rest) fr σ=some (fr',σ'):=by
   intro kn hw h;obtain⟨⟨x,lt,σ1⟩,hx,h⟩:=bind_some h;simp only [pops,hw,qBA hx];exact ih _ _ _ _ _ _ h
  have no:∀ kn,pwanted ops fr o=some false→run (tops tb G ops rest kn (pput fr o.dst (.tup [])) σ)=some (kn',fr',σ')→pops tb (gam G) ops (o::rest) fr σ=some (fr',σ'):=by
   intro kn hw h;simp only [pops,hw];exact ih _ _ _ _ _ _ h
  simp only [tops] at h
  split at h
  ·rename_i hg;exact yes _ (by simp [pwanted,hg]) h
  ·rename_i j b hg;split at h
   ·cases h
   ·rename_i d hd;split at h
    ·rename_i c hc;have hw:pwanted ops fr o=some (c == b):=by simp [pwanted,hg,hd,hc]
     split at h
     ·split at h
      ·rename_i hcb;exact yes _ (by rw [hw,hcb]) h
      ·rename_i hcb;exact no _ (by rw [hw];simpa using hcb) h
     ·simp only [run] at h
      cases c with
      |true =>
       rw [qq4 hc] at h
       simp only [cond_true] at h
       cases b with
       |true=>exact yes _ hw h
       |false=>exact no _ hw h
      |false =>
       rw [qq4 hc] at h
       simp only [cond_false] at h
       cases b with
       |true=>exact no _ hw h
       |false=>exact yes _ hw h
    ·rename_i cs hc;exact no _ (by simp [pwanted,hg,hd,hc]) h
    ·cases h
abbrev LpsT:=Nat→List PV→Store→Tr (PExit×List PV×Store)
def lps (L:LpsT):Lps:=fun r fr σ=>run (L r fr σ)
def qAK (fr:List PV) (c:Operand) (b:Bool):List PV:=match c with
 |.tmp t=>fr.set t (.bool b)
 |_=>fr
def knIf (kn:List Nat) (c:Operand):List Nat:=match c with
 |.tmp t=>t::kn
 |_=>kn
def texec (tb:Tab) (G:GamT) (L:LpsT):Code→List Nat→List PV→Store→Tr (PExit×Fm)
 |.skip,kn,fr,σ=>.ret (.normal,kn,fr,σ)
 |.label _,kn,fr,σ=>.ret (.normal,kn,fr,σ)
 |.region _ ops draw,kn,fr,σ=>bind (tops tb G ops.toList ops.toList kn fr σ) fun m=>match qyy (gam G) ops.toList draw with
  |false=>.ret (.normal,m)
  |true=>match qdT (gam G) ops.toList m.2.1 σ.objs.length with
   |true=>.ret (.normal,m)
   |false=>.fail
 |.seq a b,kn,fr,σ=>bind (texec tb G L a kn fr σ) fun r=>match r.1 with
  |.normal=>texec tb G L b r.2.1 r.2.2.1 r.2.2.2
  |_=>.ret r
 |.cond c a b,kn,fr,σ=>match ev fr c with
  |.bool t =>
   if qs3 kn c then (if t then texec tb G L a kn fr σ else texec tb G L b kn fr σ)
   else .ite t (texec tb G L a (knIf kn c) (qAK fr c true) σ) (texec tb G L b (knIf kn c) (qAK fr c false) σ)
  |_=>.fail
 |.block id c,kn,fr,σ=>bind (texec tb G L c kn fr σ) fun r=>match r.1 with
  |.exit j=>if j=id then .ret (.normal,r.2) else .ret r
  |_=>.ret r
 |.loop c,kn,fr,σ=>bind (L (rid c) fr σ) fun r=>.ret (r.1,[],r.2.1,r.2.2)
 |.rangeFunc _ _ x y,kn,fr,σ=>bind (L (rfid x y) fr σ) fun r=>.ret (r.1,[],r.2.1,r.2.2)
 |.exit id,kn,fr,σ=>.ret (.exit id,kn,fr,σ)
 |.ret,kn,fr,σ=>.ret (.ret,kn,fr,σ)
 |_,_,_,_=>.fail
theorem qoT {fr:List PV} {c:Operand} {b:Bool} (h:ev fr c=.bool b):qAK fr c b=fr:=by
 cases c with
 |tmp t =>
  simp only [qAK];apply qq4;simp only [ev,List.getD_eq_getElem?_getD] at h
  cases hx:fr[t]? with
  |none=>simp [hx] at h
  |some x=>simp only [hx,Option.getD_some] at h;rw [h]
 |_=>rfl
theorem qmN {tb:Tab} {G:GamT} {L:LpsT}:∀ (c:Code) (kn:List Nat) (fr:List PV) (σ:Store) (e:PExit) (kn':List Nat) (fr':List PV) (σ':Store),run (texec tb G L c kn fr σ)=some (e,kn',fr',σ')→pexec tb (gam G) (lps L) c fr σ=some (e,fr',σ'):=by
 intro c
 induction c with
 |skip|label|exit|ret =>
  intro kn fr σ e kn' fr' σ' h;simp only [texec,run,Option.some.injEq,Prod.mk.injEq] at h
  obtain⟨rfl,_,rfl,rfl⟩:=h;rfl
 |region id ops draw =>
  intro kn fr σ e kn' fr' σ' h;obtain⟨⟨kn1,fr1,σ1⟩,h1,h2⟩:=bind_some h;simp only at h2;have fin:qyy (gam G) ops.toList draw=false∨qdT (gam G) ops.toList fr1 σ.objs.length=true→run (Tr.ret (α:=PExit×Fm) (.normal,kn1,fr1,σ1))=some (e,kn',fr',σ')→pexec tb (gam G) (lps L) (.region id ops draw) fr σ=some (e,fr',σ'):=fun hc h2=>by
   simp only [run,Option.some.injEq,Prod.mk.injEq] at h2;obtain⟨rfl,_,rfl,rfl⟩:=h2;simp only [pexec,qAG _ _ _ _ _ _ _ h1];rw [if_neg (by rcases hc with hc|hc<;>simp [hc])]
  split at h2
  ·rename_i hna;exact fin (.inl hna) h2
  ·split at h2
   ·rename_i hal;exact fin (.inr hal) h2
   ·cases h2
 |seq a b iha ihb =>
  intro kn fr σ e kn' fr' σ' h;obtain⟨⟨e1,kn1,fr1,σ1⟩,h1,h2⟩:=bind_some h;have:=iha _ _ _ _ _ _ _ h1;cases e1 with
  |normal =>
   simp only [pexec,this];exact ihb _ _ _ _ _ _ _ h2
  |exit j =>
   simp only [run,Option.some.injEq,Prod.mk.injEq] at h2;obtain⟨rfl,_,rfl,rfl⟩:=h2;simp only [pexec,this]
  |ret =>
   simp only [run,Option.some.injEq,Prod.mk.injEq] at h2;obtain⟨rfl,_,rfl,rfl⟩:=h2;simp only [pexec,this]
 |cond c a b iha ihb =>
  intro kn fr σ e kn' fr' σ' h;simp only [texec] at h
  simp only [pexec];split at h
  ·rename_i t ht;simp only [ht];split at h
   ·cases t with
    |true=>exact iha _ _ _ _ _ _ _ h
    |false=>exact ihb _ _ _ _ _ _ _ h
   ·simp only [run] at h
    cases t with
    |true =>
     rw [qoT ht] at h
     exact iha _ _ _ _ _ _ _ h
    |false =>
     rw [qoT ht] at h
     exact ihb _ _ _ _ _ _ _ h
  ·cases h
 |block id c ih =>
  intro kn fr σ e kn' fr' σ' h;obtain⟨⟨e1,kn1,fr1,σ1⟩,h1,h2⟩:=bind_some h;have:=ih _ _ _ _ _ _ _ h1;simp only [pexec,this];cases e1 with
  |normal =>
   simp only [run,Option.some.injEq,Prod.mk.injEq] at h2;obtain⟨rfl,_,rfl,rfl⟩:=h2;rfl
  |ret =>
   simp only [run,Option.some.injEq,Prod.mk.injEq] at h2;obtain⟨rfl,_,rfl,rfl⟩:=h2;rfl
  |exit j =>
   simp only [] at h2 ⊢;by_cases hj:j=id
   ·rw [if_pos hj] at h2 ⊢;simp only [run,Option.some.injEq,Prod.mk.injEq] at h2;obtain⟨rfl,_,rfl,rfl⟩:=h2;rfl
   ·rw [if_neg hj] at h2 ⊢;simp only [run,Option.some.injEq,Prod.mk.injEq] at h2;obtain⟨rfl,_,rfl,rfl⟩:=h2;rfl
 |loop c ih =>
  intro kn fr σ e kn' fr' σ' h;obtain⟨⟨e1,fr1,σ1⟩,h1,h2⟩:=bind_some h;simp only [run,Option.some.injEq,Prod.mk.injEq] at h2;obtain⟨rfl,_,rfl,rfl⟩:=h2;simp only [pexec,lps,h1]
 |rangeFunc g ps x y ihx ihy =>
  intro kn fr σ e kn' fr' σ' h;obtain⟨⟨e1,fr1,σ1⟩,h1,h2⟩:=bind_some h;simp only [run,Option.some.injEq,Prod.mk.injEq] at h2;obtain⟨rfl,_,rfl,rfl⟩:=h2;simp only [pexec,lps,h1]
 |scope|goto|refuse=>intro kn fr σ e kn' fr' σ' h;cases h
def qGa (cs:List PV) (off len k:Nat):List (List PV):=chunks k len (cs.drop off)
def tview (objs:qR):PV→Tr PV
 |.osl id off len k=>match objs[id]? with
  |some cs=>chk (qs8 cs off (pOff 0 len k)) (.ret (.sl (qGa cs off len k) .non))
  |none=>.fail
 |x=>.ret x
def tviews (objs:qR):List PV→Tr (List PV)
 |[]=>.ret []
 |x::xs=>bind (tview objs x) fun y=>bind (tviews objs xs) fun ys=>.ret (y::ys)
theorem qxG {objs:List (List PV)} {x y:PV} (h:run (tview objs x)=some y):oview objs x=y:=by
 cases x with
 |osl id off len k =>
  simp only [tview] at h
  simp only [oview];cases hc:objs[id]? with
  |none=>rw [hc] at h;cases h
  |some cs =>
   rw [hc] at h
   obtain⟨h1,h2⟩:=chk_some h;simp only [qs8,pOff,Nat.zero_add,decide_eq_true_eq] at h1;simp only [run,Option.some.injEq] at h2;simp only [if_pos h1];exact h2
 |_=>simp only [tview,run,Option.some.injEq] at h;exact h
theorem qoL {objs:List (List PV)}:∀ {xs ys:List PV},run (tviews objs xs)=some ys→xs.map (oview objs)=ys
 |[],ys,h=>by simp only [tviews,run,Option.some.injEq] at h;exact h
 |x::xs,ys,h=>by
  obtain⟨y,h1,h2⟩:=bind_some h;obtain⟨zs,h3,h4⟩:=bind_some h2;simp only [run,Option.some.injEq] at h4;rw [List.map_cons,qxG h1,qoL h3,h4]
def tcall (tb:Tab) (G:GamT) (L:LpsT) (fn:Func) (args:List PV):Tr PV :=
 match fn.body with
 |none=>.fail
 |some c=>bind (texec tb G L c [] (args++List.replicate (fn.ntmps - args.length) .top) ⟨[],[],[]⟩) fun r=>match r.1 with
  |.exit _=>.fail
  |_=>bind (qiP (presults tb r.2.2.1 r.2.2.2 fn.results.toList)) fun xs=>bind (tviews r.2.2.2.objs xs) fun ys=>.ret (pout ys)
theorem qon {tb:Tab} {G:GamT} {L:LpsT} {fn:Func} {args:List PV} {x:PV} (h:run (tcall tb G L fn args)=some x):pcall tb (gam G) (lps L) fn args=some x:=by
 unfold tcall at h
 unfold pcall;cases hb:fn.body with
 |none=>simp [hb,run] at h
 |some c =>
  simp only [hb] at h ⊢;obtain⟨⟨e1,kn1,fr1,σ1⟩,h1,h2⟩:=bind_some h;rw [qmN _ _ _ _ _ _ _ _ h1];have key:∀ (o:Option (List PV)),run (bind (qiP o) fun xs=>bind (tviews σ1.objs xs) fun ys=>.ret (pout ys))=some x→(o.map fun xs=>pout (xs.map (oview σ1.objs)))=some x:=by
   intro o h;obtain⟨xs,h3,h4⟩:=bind_some h;obtain⟨ys,h5,h6⟩:=bind_some h4;rw [qbZ] at h3;simp only [run,Option.some.injEq] at h6;rw [h3,Option.map_some,qoL h5,h6]
  cases e1 with
  |normal=>exact key _ h2
  |ret=>exact key _ h2
  |exit j=>cases h2
def qpf (tb:Tab) (G:GamT) (L:LpsT) (fn:Func) (args:List PV) (σ:Store):Tr (PV×Store) :=
 match fn.body with
 |none=>.fail
 |some c=>bind (texec tb G L c [] (args++List.replicate (fn.ntmps - args.length) .top) σ) fun r=>match r.1 with
  |.exit _=>.fail
  |_=>qiP ((presults tb r.2.2.1 r.2.2.2 fn.results.toList).map fun xs=>(qxe xs,r.2.2.2))
theorem qwr {tb:Tab} {G:GamT} {L:LpsT} {fn:Func} {args:List PV} {σ:Store} {x:PV×Store} (h:run (qpf tb G L fn args σ)=some x):quu tb (gam G) (lps L) fn args σ=some x:=by
 unfold qpf at h
 unfold quu;cases hb:fn.body with
 |none=>simp [hb,run] at h
 |some c =>
  simp only [hb] at h ⊢;obtain⟨⟨e1,kn1,fr1,σ1⟩,h1,h2⟩:=bind_some h;rw [qmN _ _ _ _ _ _ _ _ h1];cases e1 with
  |normal=>simp only [qbZ] at h2;exact h2
  |ret=>simp only [qbZ] at h2;exact h2
  |exit j=>cases h2
def ofL (l:List (FuncId×ConT)):GamT:=fun f=>(l.find? fun p=>p.1 == f).map (·.2)
theorem qag {P:Program} {gl:Gl}:qa3 P gl (gam (ofL [])):=by
 intro f F h;simp [gam,ofL] at h
theorem qb6 {P:Program} {gl:Gl} {f:FuncId} {K:ConT} {l:List (FuncId×ConT)} (h:qlt P gl f K.con) (hl:qa3 P gl (gam (ofL l))):qa3 P gl (gam (ofL ((f,K)::l))):=by
 intro g F' hg;simp only [gam,ofL,List.find?_cons] at hg;by_cases hfg:f=g
 ·subst hfg;simp at hg;subst hg;exact h
 ·have:(f == g)=false:=by simp [hfg]
  simp only [this] at hg;exact hl g F' hg
theorem qad {P:Program} {gl:Gl} {f:FuncId} {F:List PV→Tr PV} {l:List (FuncId×ConT)} (h:SimP P gl f fun args=>Tr.run (F args)) (hl:qa3 P gl (gam (ofL l))):qa3 P gl (gam (ofL ((f,.pure F)::l))):=qb6 (K:=.pure F) h hl
theorem qds {P:Program} {gl:Gl} {f:FuncId} {D:List PV→Store→Tr (PV×Store)} {l:List (FuncId×ConT)} (h:SimS P gl f fun args σ=>Tr.run (D args σ)) (hl:qa3 P gl (gam (ofL l))):qa3 P gl (gam (ofL ((f,.store D)::l))):=qb6 (K:=.store D) h hl
theorem SimP.of_tree {P : Program} {tb : Tab} {gl : Gl} {G : GamT} (hT : qbF P tb) (hΓ : qa3 P gl (gam G)) (hm : P.follows .mixedOrders = true) {f : FuncId} {fn : Func} {c : Code} (hf : P.funcs[f]? = some fn) (hb : fn.body = some c) (hn : (fn.name == "runtime.NumGoroutine") = false)
  (hdr:qbo (gam G) c=true) {L:LpsT} (hL:qb2 P gl (lps L) c) {F:List PV→Tr PV} (h:∀ args x,Tr.run (F args)=some x→(∃ H w vs,RelL H w args vs)→Tr.run (tcall tb G L fn args)=some x):SimP P gl f fun args=>Tr.run (F args) :=
 SimP.of_pcall hT hΓ hm hf hb hn hdr fun args x hx hr=>⟨lps L,hL,qon (h args x hx hr)⟩
theorem SimS.of_tree {P : Program} {tb : Tab} {gl : Gl} {G : GamT} (hT : qbF P tb) (hΓ : qa3 P gl (gam G)) (hm : P.follows .mixedOrders = true) {f : FuncId} {fn : Func} {c : Code} (hf : P.funcs[f]? = some fn) (hb : fn.body = some c) (hn : (fn.name == "runtime.NumGoroutine") = false)
  (hdr:qbo (gam G) c=true) {L:LpsT} (hL:qb2 P gl (lps L) c) {D:List PV→Store→Tr (PV×Store)} (h:∀ args σ x σ',Tr.run (D args σ)=some (x,σ')→(∃ H w vs,RelL H w args vs)→Tr.run (qpf tb G L fn args σ)=some (x,σ')):SimS P gl f fun args σ=>Tr.run (D args σ) :=
 SimS.of_pcallS hT hΓ hm hf hb hn hdr fun args σ x σ' hx hr=>⟨lps L,hL,qwr (h args σ x σ' hx hr)⟩
theorem Does.of_tree {P:Program} {tb:Tab} {gl:Gl} {G:GamT} (hT:qbF P tb) (hΓ:qa3 P gl (gam G)) (hm:P.follows .mixedOrders=true) {L:LpsT} {c:Code} {kn:List Nat} {fr:List PV} {σ:Store} {e:PExit} {kn':List Nat} {fr':List PV} {σ':Store}
  (hL:qb2 P gl (lps L) c) (hdr:qbo (gam G) c=true) (h:run (texec tb G L c kn fr σ)=some (e,kn',fr',σ')):Does P gl c fr σ e fr' σ' :=
 qbk hT hΓ hm c _ _ _ _ _ hL hdr (qmN _ _ _ _ _ _ _ _ h)
end Go.Pv
namespace Go.Pv
@[simp] theorem Tr.run_ite {α:Type} (b:Bool) (x y:Tr α):(Tr.ite b x y).run=if b=true then x.run else y.run:=by cases b<;>rfl
@[simp] theorem Tr.run_ret {α:Type} (a:α):(Tr.ret a).run=some a:=rfl
@[simp] theorem Tr.run_fail {α:Type}:(Tr.fail:Tr α).run=none:=rfl
@[simp] theorem Tr.run_get {α:Type} (xs:qR) (i:Nat) (z:List PV) (k:List PV→Tr α):(Tr.get xs i z k).run=match xs[i]? with|some cs=>(k cs).run|none=>none:=by first|(rw [Tr.run.eq_def];done)|(rw [Tr.run.eq_def];rfl)
@[simp] theorem qpi (a b:Int):iEq a b=decide (a=b):=by unfold iEq;by_cases h:a=b<;>simp [h]
@[simp] theorem qFm (a b:Int):iNe a b=decide (a≠b):=by unfold iNe;by_cases h:a=b<;>simp [h]
@[simp] theorem qCo (a b:Int):iLt a b=decide (a < b):=rfl
@[simp] theorem qzF (a b:Int):iLe a b=decide (a≤b):=rfl
@[simp] theorem imin_eq (a b:Int):imin a b=if b < a then b else a:=rfl
@[simp] theorem qCH (a:Bool):bNot a=!a:=rfl
@[simp] theorem bAnd_eq (a b:Bool):bAnd a b=(a&&b):=rfl
@[simp] theorem bEq_eq (a b:Bool):bEq a b=(a == b):=rfl
@[simp] theorem qoQ (a b:qU):sEq a b=decide (a=b):=by unfold sEq;by_cases h:a=b<;>simp [h]
@[simp] theorem sNe_eq (a b:qU):sNe a b=decide (a≠b):=by unfold sNe;by_cases h:a=b<;>simp [h]
@[simp] theorem sLt_eq (a b:qU):sLt a b=Op.bytesLess a b:=rfl
@[simp] theorem sLe_eq (a b:qU):sLe a b=(Op.bytesLess a b || a == b):=rfl
@[simp] theorem sGt_eq (a b:qU):sGt a b=!(Op.bytesLess a b || a == b):=rfl
@[simp] theorem sGe_eq (a b:qU):sGe a b=!Op.bytesLess a b:=rfl
@[simp] theorem sApp_eq (a b:qU):sApp a b=a++b:=rfl
@[simp] theorem qnq (l:qU):sLen l=(l.length:Int):=rfl
@[simp] theorem qxJ (l:qU) (a b:Nat):sSub l a b=(l.take b).drop a:=rfl
@[simp] theorem qFi (l:qU) (n:Int):sAt l n=((l.getD n.toNat 0).toNat:Int):=rfl
@[simp] theorem sOne_eq (n:Int):sOne n=[UInt8.ofNat n.toNat]:=rfl
@[simp] theorem qw8 (n:Int):nNat n=n.toNat:=rfl
@[simp] theorem qyK (l:qU):nLen l=l.length:=rfl
@[simp] theorem xLen_eq (l:qR):xLen l=(l.length:Int):=rfl
@[simp] theorem nXs_eq (l:qR):nXs l=l.length:=rfl
@[simp] theorem xSub_eq (l:qR) (a b:Nat):xSub l a b=(l.take b).drop a:=rfl
@[simp] theorem qn2 (a b:qR):xApp a b=a++b:=rfl
@[simp] theorem xNil_eq (a:qR):xNil a=decide (a=[]):=by cases a<;>rfl
@[simp] theorem bytesOf_nil:qaf []=[]:=rfl
@[simp] theorem bytesOf_len (l:qU):(qaf l).length=l.length:=by simp [qaf]
@[simp] theorem bytesOf_get (l:qU) (i:Nat):(qaf l)[i]?=(l[i]?).map fun b=>[.int .u8 b.toNat]:=by simp [qaf]
theorem qot (a b:qU):qaf (a++b)=qaf a++qaf b:=by simp [qaf]
@[simp] theorem bytesOf_take (l:qU) (n:Nat):(qaf l).take n=qaf (l.take n):=by simp [qaf]
@[simp] theorem bytesOf_drop (l:qU) (n:Nat):(qaf l).drop n=qaf (l.drop n):=by simp [qaf]
theorem qlk (l:qU):pbytes (qaf l)=some l:=by
 unfold qaf
 induction l with
 |nil=>rfl
 |cons b l ih=>simp [pbytes,ih]
@[simp] theorem okBytes_bytes (l:qU):qet (qaf l)=true:=by unfold qet;rw [qlk];rfl
@[simp] theorem unBytes_bytes (l:qU):qc2 (qaf l)=l:=by unfold qc2;rw [qlk];rfl
@[simp] theorem qAv (a b:qU):qba a b=decide (a.length+b.length≤maxLen):=rfl
@[simp] theorem okAscii_eq (n:Int):qei n=decide (0≤n∧n < 128):=by unfold qei;by_cases h:0≤n<;>simp [h]
@[simp] theorem okLen_eq (l:qU):qoF l=decide (l.length≤140737488355328):=rfl
@[simp] theorem okIdx_eq (l:qU) (n:Int):qbM l n=decide (0≤n∧n.toNat < l.length):=by unfold qbM;by_cases h:0≤n<;>simp [h]
@[simp] theorem okPos_eq (n:Int):qao n=decide (0≤n):=rfl
@[simp] theorem okSub_eq (ca cb:Bool) (a b n:Nat):qaC ca cb a b n=(ca&&cb&&decide (a≤b)&&decide (b≤n)):=rfl
@[simp] theorem okSub3_eq (ca cb cc:Bool) (a b c n:Nat):qyF ca cb cc a b c n=(ca&&cb&&cc&&decide (a≤b)&&decide (b=c)&&decide (b≤n)):=rfl
@[simp] theorem qxK (xs ys:qR) (n:Nat):qbm xs ys n=(decide ((xs.length+ys.length) * n≤140737488355328)&&decide (xs.length+ys.length≤140737488355328)):=rfl
@[simp] theorem nEq_eq (a b:Nat):nEq a b=decide (a=b):=rfl
@[simp] theorem pOff_eq (off n k:Nat):pOff off n k=off+n * k:=rfl
@[simp] theorem nSub_eq (b a:Nat):nSub b a=b - a:=rfl
@[simp] theorem oLen_eq (n:Nat):oLen n=(n:Int):=rfl
@[simp] theorem okIx_eq (n:Int) (len:Nat):okIx n len=decide (0≤n∧n.toNat < len):=by unfold okIx;by_cases h:0≤n<;>simp [h]
@[simp] theorem okOff_eq (cs:List PV) (off n:Nat):qs8 cs off n=decide (off+n≤cs.length):=rfl
@[simp] theorem qhp (l:qU):qaD (qaf l) 1=true:=by simp [qaD,qaf]
@[simp] theorem okNews_bytes (l:qU):qbf (qaf l) 1=true:=by simp [qbf,qaf,one]
@[simp] theorem okSize_app (a b:qR) (n:Nat):qaD (a++b) n=(qaD a n&&qaD b n):=by simp [qaD]
@[simp] theorem okSize_nil (n:Nat):qaD [] n=true:=rfl
@[simp] theorem okNews_nil (n:Nat):qbf [] n=true:=rfl
@[simp] theorem okSize_cons (x:List PV) (a:qR) (n:Nat):qaD (x::a) n=(x.length == n&&qaD a n):=by simp [qaD]
@[simp] theorem okNews_cons (x:List PV) (a:qR) (n:Nat):qbf (x::a) n=(x.length == n&&x.all one&&qbf a n):=by simp [qbf]
theorem qmQ:∀ {a:List (List PV)},(∀ x∈a,qem x=x)→qaa a=a
 |[],_=>rfl
 |x::a,h=>by simp only [qaa];rw [h x (by simp),qmQ fun y hy=>h y (by simp [hy])]
theorem qnj:∀ {a:List (List PV)},(∀ x∈a,qes x=x)→qcj a=a
 |[],_=>rfl
 |x::a,h=>by simp only [qcj];rw [h x (by simp),qnj fun y hy=>h y (by simp [hy])]
@[simp] theorem qsj (l:qU):qaa (qaf l)=qaf l:=qmQ (by simp [qaf,qem,lock])
@[simp] theorem shutLL_bytes (l:qU):qcj (qaf l)=qaf l:=qnj (by simp [qaf,qes,shut])
end Go.Pv
set_option linter.unusedSimpArgs false
set_option linter.unusedVariables false
namespace Go.Pv
open Go.RowKit
def look:List (Nat×PV)→Nat→PV
 |[],_=>.top
 |(j,x)::l,i=>if j=i then x else look l i
def qdn (l:List (Nat×PV)):Nat→Nat→List PV
 |0,_=>[]
 |n+1,i=>look l i::qdn l n (i+1)
def mk (n:Nat) (l:List (Nat×PV)):List PV:=qdn l n 0
theorem qu0 (f:Nat→PV):∀ (ss:List Nat) (i:Nat),look (ss.zip (ss.map f)) i=.top∨look (ss.zip (ss.map f)) i=f i
 |[],i=>.inl rfl
 |s::ss,i=>by
  simp only [List.map_cons,List.zip_cons_cons,look];split
  ·rename_i h;subst h;exact .inr rfl
  ·exact qu0 f ss i
theorem qmU (f:Nat→PV) (l:List (Nat×PV)) (hl:∀ i,look l i=.top∨look l i=f i):∀ (fr:List PV) (k:Nat),(∀ i,i < fr.length→fr.getD i .top=f (k+i))→Weak fr (qdn l fr.length k)
 |[],k,h=>trivial
 |x::fr,k,h=>by
  refine⟨?_,qmU f l hl fr (k+1) (fun i hi=>?_)⟩
  ·have:=h 0 (by simp)
   simp at this;subst this;exact hl k
  ·have:=h (i+1) (by simpa using hi)
   simp only [List.getD_cons_succ] at this;rw [this]
   congr 1
   omega
theorem qyJ (fr:List PV) (ss:List Nat):Weak fr (mk fr.length (ss.zip (ss.map fun s=>fr.getD s .top))):=by
 unfold mk;exact qmU (fun s=>fr.getD s .top) _ (qu0 _ ss) fr 0 (fun i _=>by simp)
section
variable {α : Type}
def oracle (n:Nat) (ss:List Nat) (dec:List PV→Store→Option α) (res:α→Tr (PExit×List (Nat×PV)×Store)) (fr:List PV) (σ:Store):Tr (PExit×List PV×Store) :=
 if fr.length=n then match dec (ss.map fun s=>fr.getD s .top) σ with
  |some a=>Tr.bind (res a) fun r=>.ret (r.1,mk n r.2.1,r.2.2)
  |none=>.fail
 else .fail
theorem qnR {P:Program} {gl:Gl} {c:Code} {n:Nat} {ss:List Nat} {dec:List PV→Store→Option α} {res:α→Tr (PExit×List (Nat×PV)×Store)}
  (h:∀ vs σ a e out σ',dec vs σ=some a→(res a).run=some (e,out,σ')→LDoes P gl c (mk n (ss.zip vs)) σ e (mk n out) σ') :
  ∀ fr σ e fr' σ',(oracle n ss dec res fr σ).run=some (e,fr',σ')→LDoes P gl c fr σ e fr' σ':=by
 intro fr σ e fr' σ' hr;unfold oracle at hr;split at hr
 ·rename_i hn;split at hr
  ·rename_i a ha;obtain⟨⟨e1,out,σ1⟩,h1,h2⟩:=Tr.bind_some hr;simp only [Tr.run_ret,Option.some.injEq,Prod.mk.injEq] at h2;obtain⟨rfl,rfl,rfl⟩:=h2;have hw:=qyJ fr ss;rw [hn] at hw;exact LDoes.into hw (h _ _ _ _ _ _ ha h1)
  ·cases hr
 ·cases hr
end
section
variable {P : Program} {gl : Gl} {c : Code} {fr : List PV} {σ : Store} {e : PExit} {fr' : List PV} {σ' : Store}
theorem qqx {fr:List PV} (h:∃ H w vs,RelL H w fr vs) (i:Nat) {l:List UInt8} (hi:fr[i]?=some (.str l)):l.length≤maxLen:=by
 obtain⟨H,w,vs,h⟩:=h;obtain⟨v,_,hr⟩:=h.get hi;cases hr with
 |str _ hl=>exact hl
theorem qEk {fr:List PV} (h:∃ H w vs,RelL H w fr vs) (i:Nat) {k:IntKind} {n:Int} (hi:fr[i]?=some (.int k n)):k.min≤n∧n≤k.max:=by
 obtain⟨H,w,vs,h⟩:=h;obtain⟨v,_,hr⟩:=h.get hi;cases hr with
 |int _ _ hl=>simpa [Lit.wf] using hl
end
def qdy:Code→List (Nat×Code)
 |.seq a b=>qdy a++qdy b
 |.cond _ a b=>qdy a++qdy b
 |.block _ c=>qdy c
 |.loop c=>[(rid c,c)]
 |_=>[]
def qC6 (fn:Func) (k:Nat):Code:=match fn.body with
 |some c=>match (qdy c)[k]? with
  |some p=>p.2
  |none=>.skip
 |none=>.skip
def qcZ:Code→List (Nat×Code)
 |.seq a b=>qcZ a++qcZ b
 |.cond _ a b=>qcZ a++qcZ b
 |.block _ c=>qcZ c
 |.rangeFunc g ps x y=>[(rfid x y,.rangeFunc g ps x y)]
 |_=>[]
theorem qdq {P:Program} {gl:Gl} {L:Lps}:∀ {c:Code},(∀ p∈qdy c,∀ fr σ e fr' σ',L p.1 fr σ=some (e,fr',σ')→LDoes P gl p.2 fr σ e fr' σ')→(∀ p∈qcZ c,∀ fr σ e fr' σ',L p.1 fr σ=some (e,fr',σ')→Does P gl p.2 fr σ e fr' σ')→qb2 P gl L c
 |.seq a b,h,k=>⟨qdq (fun p hp=>h p (List.mem_append.2 (.inl hp))) (fun p hp=>k p (List.mem_append.2 (.inl hp))),qdq (fun p hp=>h p (List.mem_append.2 (.inr hp))) (fun p hp=>k p (List.mem_append.2 (.inr hp)))⟩
 |.cond _ a b,h,k=>⟨qdq (fun p hp=>h p (List.mem_append.2 (.inl hp))) (fun p hp=>k p (List.mem_append.2 (.inl hp))),qdq (fun p hp=>h p (List.mem_append.2 (.inr hp))) (fun p hp=>k p (List.mem_append.2 (.inr hp)))⟩
 |.block _ c,h,k=>qdq (c:=c) h k
 |.loop c,h,_=>h (rid c,c) (by simp [qdy])
 |.skip,_,_=>trivial
 |.region ..,_,_=>trivial
 |.exit _,_,_=>trivial
 |.ret,_,_=>trivial
 |.label _,_,_=>trivial
 |.goto _,_,_=>trivial
 |.refuse _,_,_=>trivial
 |.scope _,_,_=>trivial
 |.rangeFunc g ps x y,_,k=>k (rfid x y,.rangeFunc g ps x y) (by simp [qcZ])
theorem qn0 {P:Program} {gl:Gl} {L:Lps} {c:Code} (h:∀ p∈qdy c,∀ fr σ e fr' σ',L p.1 fr σ=some (e,fr',σ')→LDoes P gl p.2 fr σ e fr' σ') (hn:qcZ c=[]):qb2 P gl L c:=qdq h (by rw [hn];simp)
theorem qae {P:Program} {gl:Gl} {L:Lps} {c:Code} (h:qdy c=[]) (hn:qcZ c=[]:=by kernel_rfl):qb2 P gl L c:=qn0 (by rw [h];simp) hn
theorem qkG {P:Program} {gl:Gl} {L:Lps} {c:Code} {r:Nat} {c1:Code} (h:qdy c=[(r,c1)]) (h1:∀ fr σ e fr' σ',L r fr σ=some (e,fr',σ')→LDoes P gl c1 fr σ e fr' σ') (hn:qcZ c=[]:=by kernel_rfl):qb2 P gl L c :=
 qn0 (by rw [h];intro p hp;simp at hp;subst hp;exact h1) hn
def Tr.all {α:Type}:Tr α→(α→Prop)→Prop
 |.ret a,Q=>Q a
 |.fail,_=>False
 |.ite b x y,Q=>(b=true→x.all Q)∧(b=false→y.all Q)
 |.get xs i _ k,Q=>∃ cs,xs[i]?=some cs∧(k cs).all Q
theorem Tr.all_run {α:Type} {Q:α→Prop}:∀ {t:Tr α},t.all Q→∃ r,t.run=some r∧Q r
 |.ret a,h=>⟨a,rfl,h⟩
 |.fail,h=>h.elim
 |.ite b x y,h=>by
  cases b with
  |true=>obtain⟨r,h1,h2⟩:=Tr.all_run (h.1 rfl);exact⟨r,by simpa using h1,h2⟩
  |false=>obtain⟨r,h1,h2⟩:=Tr.all_run (h.2 rfl);exact⟨r,by simpa using h1,h2⟩
 |.get xs i _ k,⟨cs,h1,h2⟩=>by
  obtain⟨r,h3,h4⟩:=Tr.all_run h2;exact⟨r,by simp [h1,h3],h4⟩
inductive TrN (α:Type) where
 |ret (a:α)
 |fail
 |ite (b:Bool) (x y:TrN α)
 |need (xs:qR) (i:Nat) (cs:List PV) (x:TrN α)
def TrN.all {α:Type}:TrN α→(α→Prop)→Prop
 |.ret a,Q=>Q a
 |.fail,_=>False
 |.ite b x y,Q=>(b=true→x.all Q)∧(b=false→y.all Q)
 |.need xs i cs x,Q=>xs[i]?=some cs∧x.all Q
theorem Tr.run_as {α:Type} {t:Tr α} (t':Tr α) (h:t=t') {r:Option α} (hr:t'.run=r):t.run=r:=by rw [h];exact hr
theorem Tr.all_as {α:Type} {t:Tr α} (t':Tr α) (h:t=t') {Q:α→Prop} (hr:t'.all Q):t.all Q:=by rw [h];exact hr
theorem TrN.all_as {α:Type} {t:TrN α} (t':TrN α) (h:t=t') {Q:α→Prop} (hr:t'.all Q):t.all Q:=by rw [h];exact hr
theorem TrN.all_t {α:Type} {b:Bool} {x y:TrN α} {Q:α→Prop} (h:b=true) (hx:x.all Q):(TrN.ite b x y).all Q:=⟨fun _=>hx,fun h'=>by rw [h] at h';cases h'⟩
theorem TrN.all_f {α:Type} {b:Bool} {x y:TrN α} {Q:α→Prop} (h:b=false) (hy:y.all Q):(TrN.ite b x y).all Q:=⟨fun h'=>(by rw [h] at h';cases h'),fun _=>hy⟩
def Next (P:Program) (gl:Gl) (c:Code) (e:PExit) (fr':List PV) (σ':Store):PExit×Fm→Prop
 |(.normal,_,fr1,σ1)=>LDoes P gl c fr1 σ1 e fr' σ'
 |(e1,_,fr1,σ1)=>e1=e∧Weak fr1 fr'∧σ1=σ'
theorem LDoes.round {P:Program} {tb:Tab} {gl:Gl} {G:GamT} (hT:qbF P tb) (hΓ:qa3 P gl (gam G)) (hm:P.follows .mixedOrders=true) {L:LpsT} {c:Code} (hL:qb2 P gl (lps L) c) (hdr:qbo (gam G) c=true)
  {fr:List PV} {σ:Store} {e:PExit} {fr':List PV} {σ':Store} (h:(texec tb G L c [] fr σ).all (Next P gl c e fr' σ')):LDoes P gl c fr σ e fr' σ':=by
 obtain⟨⟨e1,kn,fr1,σ1⟩,h1,h2⟩:=Tr.all_run h;have hd:=Does.of_tree hT hΓ hm hL hdr h1;cases e1 with
 |normal=>exact LDoes.next hd h2
 |exit j =>
  obtain⟨rfl,hw,rfl⟩:=h2;exact LDoes.outof (LDoes.out hd (by simp)) hw
 |ret =>
  obtain⟨rfl,hw,rfl⟩:=h2;exact LDoes.outof (LDoes.out hd (by simp)) hw
theorem qcL {α:Type} {l:List α} {i:Nat} {v:α} (h:l[i]?=some v):l.drop i=v::l.drop (i+1):=by
 obtain⟨hi,rfl⟩:=List.getElem?_eq_some_iff.1 h;exact List.drop_eq_getElem_cons hi
theorem qmy {α:Type} {l:List α} {i:Nat} (h:i < l.length):∃ v,l[i]?=some v:=⟨l[i],List.getElem?_eq_getElem h⟩
def qFa (t:Option PV) (l:qU):Bool:=match t with
 |some (.str m)=>m == l
 |_=>false
theorem qAx {t:Option PV} {l:List UInt8} (h:qFa t l=true):t=some (.str l):=by
 unfold qFa at h
 split at h
 ·rw [beq_iff_eq] at h;rw [h]
 ·cases h
theorem qAo {c:Int} (h:IntKind.u8.min≤c∧c≤IntKind.u8.max):∃ n:Fin 256,c=(n.val:Int):=by
 have h1:0≤c∧c≤255:=h;exact⟨⟨c.toNat,by omega⟩,by simp;omega⟩
@[simp] theorem okBytes_one (n:Int):qet [[.int .u8 n]]=true:=by simp [qet,pbytes]
@[simp] theorem unBytes_one (n:Int):qc2 [[.int .u8 n]]=[UInt8.ofNat n.toNat]:=by simp [qc2,pbytes]
theorem Tr.all_t {α:Type} {b:Bool} {x y:Tr α} {Q:α→Prop} (h:b=true) (hx:x.all Q):(Tr.ite b x y).all Q:=⟨fun _=>hx,fun h'=>by rw [h] at h';cases h'⟩
theorem Tr.all_f {α:Type} {b:Bool} {x y:Tr α} {Q:α→Prop} (h:b=false) (hy:y.all Q):(Tr.ite b x y).all Q:=⟨fun h'=>(by rw [h] at h';cases h'),fun _=>hy⟩
theorem qv5 {l:List UInt8} (h:1≤l.length):xNil (qaf l)=false:=by
 cases l with
 |nil=>simp at h
 |cons a l=>rfl
theorem qhy (l:qU):nXs (qaf l)=nLen l:=by simp
theorem qoP (a b:qU):xApp (qaf a) (qaf b)=qaf (a++b):=(qot a b).symm
theorem qlm {a b:List UInt8} (h:a.length+b.length≤140737488355328):qbm (qaf a) (qaf b) 1=true:=by simp [h]
theorem qm6 (a:qU) {n:Int} (h:0≤n∧n < 256):xApp (qaf a) [[.int .u8 n]]=qaf (a++[UInt8.ofNat n.toNat]):=by
 rw [qot];simp [qaf];omega
theorem qdF {n:Int} (h:-9223372036854775808≤n∧n≤9223372036854775807):IntKind.wrap .i64 n=n:=by
 unfold IntKind.wrap;simp [IntKind.bits,IntKind.signed];split<;>omega
theorem qEm {n:Int} (h:0≤n∧n≤255):IntKind.wrap .u8 n=n:=by
 unfold IntKind.wrap;simp [IntKind.bits,IntKind.signed];omega
end Go.Pv
set_option linter.unusedSimpArgs false
set_option linter.unusedVariables false
namespace Go.Pv
open Go.RowKit Go.ChangeShapes Go.WideShapes
mutual
inductive Shp (P:Program):TypeId→List PV→Prop where
 |bool (t:TypeId) (b:Bool) (h:P.underlying t=some .bool):Shp P t [.bool b]
 |int (t:TypeId) (k:IntKind) (n:Int) (h:P.underlying t=some (.int k)):Shp P t [.int k n]
 |str (t:TypeId) (l:qU) (h:P.underlying t=some .string):Shp P t [.str l]
 |sl (t e:TypeId) (xss:qR) (h:P.underlying t=some (.slice e)) (hx:∀ xs,xs∈xss→Shp P e xs):Shp P t [.sl xss .non]
 |struct (t:TypeId) (fs:Array Field) (xs:List PV) (h:P.underlying t=some (.struct fs)) (hx:ShpL P (fs.toList.map (·.type)) xs):Shp P t xs
inductive ShpL (P:Program):List TypeId→List PV→Prop where
 |nil:ShpL P [] []
 |cons (t:TypeId) (ts:List TypeId) (xs ys:List PV) (h:Shp P t xs) (hs:ShpL P ts ys):ShpL P (t::ts) (xs++ys)
end
def layF (P:Program):Nat→List Field→Option Nat
 |off,[]=>some off
 |off,f::fs=>if f.offset=off then layF P (off+P.cellsOf f.type) fs else none
def okT (P:Program):Nat→TypeId→Bool
 |0,_=>false
 |n+1,t=>match P.underlying t with
  |some .bool|some (.int _)|some .string=>true
  |some (.slice e)=>okT P n e
  |some (.struct fs)=>(layF P 0 fs.toList == some (P.cellsOf t))&&fs.toList.all fun f=>okT P n f.type
  |_=>false
def ghOf (w:World):Gh:=⟨w.heap.size,fun _ _=>True,fun _ _=>False,[],[],w.heap.size⟩
section
variable {H : Type} {enc : TypeId × Value → H} {P : Program} {w : World} {held : Bool}
theorem qDW {w:World} {a:Addr} {v:Value} (h:w.cell? a=some v):a.block < w.heap.size:=by
 unfold World.cell? at h
 cases hb:w.heap[a.block]? with
 |none=>simp [hb] at h
 |some o=>exact (Array.getElem?_eq_some_iff.1 hb).1
theorem qoS {n fuel:Nat} (ih:∀ t cs x,DataW.trod enc P w 0 (fun _=>true) held fuel t cs=some x→okT P n t=true→∃ xs,RelL (ghOf w) w xs cs∧Shp P t xs) (cs:List Value) (tot:Nat) (hl:cs.length=tot) :
  ∀ (fs:List Field) (off:Nat),layF P off fs=some tot→(fs.all fun f=>okT P n f.type)=true →
   (∀ f∈fs,∃ y,DataW.trod enc P w 0 (fun _=>true) held fuel f.type ((cs.drop f.offset).take (P.cellsOf f.type))=some y)→∃ ys,RelL (ghOf w) w ys (cs.drop off)∧ShpL P (fs.map (·.type)) ys
 |[],off,hlay,_,_=>by
  simp only [layF,Option.some.injEq] at hlay;subst hlay;rw [List.drop_eq_nil_of_le (by omega)]
  exact⟨[],.nil,.nil⟩
 |f::fs,off,hlay,hok,hm=>by
  simp only [layF] at hlay;split at hlay
  ·rename_i ho;subst ho;simp only [List.all_cons,Bool.and_eq_true] at hok;obtain⟨b,hb⟩:=hm f (by simp)
   obtain⟨p,hp,hs⟩:=ih _ _ _ hb hok.1;obtain⟨ys,hys,hss⟩:=qoS ih cs tot hl fs _ hlay hok.2 (fun g hg=>hm g (by simp [hg]))
   refine⟨p++ys,?_,.cons _ _ _ _ hs hss⟩;have e:cs.drop f.offset=(cs.drop f.offset).take (P.cellsOf f.type)++cs.drop (f.offset+P.cellsOf f.type):=by
    rw [← List.drop_drop];exact (List.take_append_drop _ _).symm
   rw [e];exact hp.app hys
  ·cases hlay
theorem quM {n fuel:Nat} {e:TypeId} (ih:∀ t cs x,DataW.trod enc P w 0 (fun _=>true) held fuel t cs=some x→okT P n t=true→∃ xs,RelL (ghOf w) w xs cs∧Shp P t xs) (he:okT P n e=true) (a:Addr) (k:Nat) :
  ∀ (len s:Nat),(∀ i,i < len→∃ cs' y,w.cells? 0 (a.add ((s+i) * k)) k=some cs'∧DataW.trod enc P w 0 (fun _=>true) held fuel e cs'=some y) →
   ∃ (xss:qR) (vss:List (List Value)),xss.length=len∧RelLL (ghOf w) w xss vss∧(∀ xs∈xss,Shp P e xs)∧∀ (i:Nat) (vs:List Value),vss[i]?=some vs→vs.length=k∧CellsAt (ghOf w) w (a.add ((s+i) * k)) vs
 |0,s,_=>⟨[],[],rfl,.nil,by simp,by simp⟩
 |len+1,s,h=>by
  obtain⟨cs',y,hc,hy⟩:=h 0 (by omega)
  obtain⟨xs,hxs,hs⟩:=ih _ _ _ hy he;obtain⟨xss,vss,h1,h2,h3,h4⟩:=quM ih he a k len (s+1) (fun i hi=>by
   have:=h (i+1) (by omega)
   have e1:s+(i+1)=s+1+i:=by omega
   rwa [e1] at this)
  obtain⟨_,hl,hcell⟩:=World.cells?_some hc;refine⟨xs::xss,cs'::vss,by simp [h1],.cons _ _ _ _ hxs h2,?_,?_⟩
  ·intro z hz;rcases List.mem_cons.1 hz with rfl|hz
   ·exact hs
   ·exact h3 z hz
  ·intro i vs hi;cases i with
   |zero =>
    simp at hi;subst hi;refine⟨hl,fun j v hj=>?_⟩
    have hj':j < k:=by rw [← hl];exact (List.getElem?_eq_some_iff.1 hj).1
    have hcj:=(hcell j hj').trans hj;exact⟨⟨qDW hcj,fun _=>trivial,by simp [ghOf],by simp [ghOf]⟩,hcj⟩
   |succ i =>
    have:=h4 i vs (by simpa using hi)
    have e1:s+(i+1)=s+1+i:=by omega
    rw [e1];exact this
theorem qvy:∀ (fuel n:Nat) (t:TypeId) (cs:List Value) (x:DataW H×List MemPlace),DataW.trod enc P w 0 (fun _=>true) held fuel t cs=some x→okT P n t=true→∃ xs,RelL (ghOf w) w xs cs∧Shp P t xs
 |0,_,_,_,_,h,_=>by simp [DataW.trod] at h
 |fuel+1,0,_,_,_,_,hn=>by simp [okT] at hn
 |fuel+1,n+1,t,cs,x,h,hn=>by
  simp only [okT] at hn;have ih:∀ t cs x,DataW.trod enc P w 0 (fun _=>true) held fuel t cs=some x→okT P n t=true→∃ xs,RelL (ghOf w) w xs cs∧Shp P t xs:=fun t cs x h hn=>qvy fuel n t cs x h hn
  split at hn
  ·rename_i hu;obtain⟨b,rfl,_⟩:=DataW.trod_bool hu h;exact⟨[.bool b],.cons _ _ _ _ (.bool b) .nil,.bool t b hu⟩
  ·rename_i k hu;obtain⟨m,rfl,_,hw⟩:=DataW.trod_int hu h;exact⟨[.int k m],.cons _ _ _ _ (.int k m hw) .nil,.int t k m hu⟩
  ·rename_i hu;obtain⟨s,rfl,_,hs⟩:=DataW.trod_string hu h;exact⟨[.str s.data.toList],.cons _ _ _ _ (.str s.data.toList hs) .nil,.str t _ hu⟩
  ·rename_i e hu;rcases DataW.trod_slice hu h with⟨rfl,_⟩|⟨a,len,cap,elems,rest,n',hn',rfl,_,_,hlc,hcm,hel,helem,_⟩
   ·exact⟨[.sl [] .non],.cons _ _ _ _ (.sl none 0 0 0 [] [] .non rfl (Nat.le_refl _) (Nat.zero_le _) .nil (by intro i vs hi;simp at hi) trivial) .nil,.sl t e [] hu (by simp)⟩
   ·have:n'=fuel:=by omega
    subst this;obtain⟨xss,vss,h1,h2,h3,h4⟩:=quM ih hn a (P.cellsOf e) len 0 (fun i hi=>by
     have h5:=helem i hi;have h6:∃ y,elems[i]?=some y:=⟨elems[i]'(by omega),List.getElem?_eq_getElem (by omega)⟩
     obtain⟨y,hy⟩:=h6;rw [hy] at h5;obtain⟨cs',hc,hd⟩:=Option.bind_eq_some_iff.1 h5;exact⟨cs',y,by rw [Nat.zero_add];exact hc,hd⟩)
    refine⟨[.sl xss .non],.cons _ _ _ _ (.sl (some a) len cap (P.cellsOf e) xss vss .non h1 hlc hcm h2 (fun i vs hi=>?_) trivial) .nil,.sl t e xss hu h3⟩
    have:=h4 i vs hi;rw [Nat.zero_add] at this;exact⟨this.1,a,rfl,this.2⟩
  ·rename_i fs hu;simp only [Bool.and_eq_true] at hn;obtain⟨xs,n',hn',_,hl,hxl,hf⟩:=DataW.trod_struct hu h;have:n'=fuel:=by omega
   subst this;obtain⟨ys,hys,hss⟩:=qoS ih cs _ hl fs.toList 0 (by simpa using hn.1) hn.2 (fun f hfm=>by
    obtain⟨i,hi⟩:=List.mem_iff_getElem?.1 hfm;have hi':fs[i]?=some f:=by simpa using hi
    have hlt:i < fs.size:=(Array.getElem?_eq_some_iff.1 hi').1;exact⟨xs[i]'(by omega),(hf i f hi').trans (List.getElem?_eq_getElem (by omega))⟩)
   exact⟨ys,by simpa using hys,.struct t fs ys hu hss⟩
  ·cases hn
def Arg (P:Program) (t:TypeId) (x:PV):Prop :=
 (∃ fs ys,P.underlying t=some (.struct fs)∧x=.agg ys∧Shp P t ys)∨((∀ fs,P.underlying t≠some (.struct fs))∧Shp P t [x])
inductive ArgL (P:Program):List TypeId→List PV→Prop where
 |nil:ArgL P [] []
 |cons (t:TypeId) (ts:List TypeId) (x:PV) (xs:List PV) (h:Arg P t x) (hs:ArgL P ts xs):ArgL P (t::ts) (x::xs)
theorem qDq {r:Reach} {b0 n:Nat} {t:TypeId} {v:Value} {d:DataW H} {ps:List MemPlace} (hval:Value.okWide P w r b0 t v) (hd:DataW.Trod enc P w 0 (fun _=>true) held t v d ps) (hn:okT P n t=true):∃ x,Rel (ghOf w) w x v∧Arg P t x:=by
 obtain⟨fuel,h⟩:=hd;obtain⟨xs,hxs,hs⟩:=qvy fuel n t _ _ h hn;have one:v.cells=#[v]→(∀ fs,P.underlying t≠some (.struct fs))→∃ x,Rel (ghOf w) w x v∧Arg P t x:=by
  intro hc hne;rw [hc] at hxs;cases hxs with
  |cons x _ xs _ hx hxs =>
   cases hxs
   exact⟨x,hx,.inr ⟨hne,hs⟩⟩
 cases n with
 |zero=>simp [okT] at hn
 |succ n =>
  simp only [okT] at hn;split at hn
  ·rename_i hu;obtain⟨b,rfl⟩:=okWide_bool hu hval;exact one rfl (by rw [hu];simp)
  ·rename_i k hu;obtain⟨m,rfl⟩:=okWide_int hu hval;exact one rfl (by rw [hu];simp)
  ·rename_i hu;obtain⟨s,rfl⟩:=okWide_string hu hval;exact one rfl (by rw [hu];simp)
  ·rename_i e hu;obtain⟨a,len,cap,rfl⟩:=okWide_slice hu hval;exact one rfl (by rw [hu];simp)
  ·rename_i fs hu;obtain⟨cs,rfl,_⟩:=okWide_struct hu hval;refine⟨.agg xs,?_,.inl ⟨fs,xs,hu,rfl,hs⟩⟩;have:=Rel.agg (H:=ghOf w) (w:=w) xs cs.toList hxs;simpa using this
  ·cases hn
theorem qvf {r:Reach} {b0 n:Nat}:∀ {ts:List TypeId} {vs:List Value} {ds:List (DataW H)} {ps:List MemPlace},(∀ (j:Nat) t v,ts[j]?=some t→vs[j]?=some v→Value.okWide P w r b0 t v) →
  DataW.TrodAll enc P w 0 (fun _=>true) held ts vs ds ps→(ts.all fun t=>okT P n t)=true→∃ xs,RelL (ghOf w) w xs vs∧ArgL P ts xs
 |[],vs,ds,ps,_,h,_=>by
  obtain⟨rfl,rfl,rfl⟩:=trodAll_nil h;exact⟨[],.nil,.nil⟩
 |t::ts,vs,ds,ps,hval,h,hn=>by
  obtain⟨v,vs',d,ds',p,q,rfl,rfl,rfl,hd,hrest⟩:=trodAll_cons h;simp only [List.all_cons,Bool.and_eq_true] at hn;obtain⟨x,hx,ha⟩:=qDq (hval 0 t v rfl rfl) hd hn.1;obtain⟨xs,hxs,has⟩:=qvf (fun j t' v' ht hv=>hval (j+1) t' v' ht hv) hrest hn.2
  exact⟨x::xs,.cons _ _ _ _ hx hxs,.cons _ _ _ _ ha has⟩
theorem qj4 {W W':World} (hlo:laidOutB P=true) (hb:Below W.heap.size W W'):∀ {ts:List TypeId} {vs:List Value} {ds:List (DataW H)} {ps:List MemPlace},(∀ t∈ts,P.readableRec t=true∧t < P.types.size)→(∀ x∈ps,x.block < W.heap.size) →
  DataW.TrodAll enc P W 0 (fun _=>true) true ts vs ds ps→DataW.TrodAll enc P W' 0 (fun b=>decide (b < W.heap.size)) true ts vs ds ps
 |[],vs,ds,ps,_,_,h=>by
  obtain⟨rfl,rfl,rfl⟩:=trodAll_nil h;exact rfl
 |t::ts,vs,ds,ps,hp,hlt,h=>by
  obtain⟨v,vs',d,ds',p,q,rfl,rfl,rfl,hd,hrest⟩:=trodAll_cons h;exact⟨p,q,Below.trod hlo (hp t (by simp)).1 (hp t (by simp)).2 hd hb (fun x hx=>hlt x (by simp [hx])),qj4 hlo hb (fun t' ht=>hp t' (by simp [ht])) (fun x hx=>hlt x (by simp [hx])) hrest,rfl⟩
theorem qBK (hlo:laidOutB P=true) {f:Func} {s:ChangeSpec} {tb:TypeId} (hrt:f.resultTypes=#[tb]) (htb:P.underlying tb=some .bool) (hv:s.vars=[])
  (hpar:∀ t∈f.params.toList,P.readableRec t=true∧t < P.types.size) {W W':World} {args:Array Value} {ds gs:List (DataW H)} {before:List MemPlace} {apart fresh handsOn:Bool}
  (hW:DataW.Whole enc P f.params.toList s.vars apart W args.toList ds gs before) (hfn:s.fn H ds={ results:=[.lit (.bool true)],args:=ds }) (hb:Below W.heap.size W W') :
  s.post enc P f apart fresh handsOn false W args (.bool true) W':=by
 have hlt:∀ p∈before,p.block < W.heap.size:=fun p hp=>by simpa using hW.lt p hp
 have hW':=hW;obtain⟨p,q,hA,hV,rfl,hfz,hnd⟩:=hW;rw [hv] at hV;obtain⟨rfl,rfl⟩:=trodVars_none hV;refine⟨ds,[],p++[],[],p,[],hW',?_,?_,?_,?_,fun h=>by cases h⟩
 ·rw [List.append_nil,hfn,hrt];exact⟨[],[],⟨1,by simp [DataW.trod,Value.cells,htb]⟩,rfl,rfl⟩
 ·rw [List.append_nil,hfn];exact qj4 hlo hb hpar (fun x hx=>hlt x (by simp [hx])) hA
 ·rw [List.append_nil,hfn,hv];exact rfl
 ·exact hb.frame _
theorem qkh:∀ {laid:List (String×DataW Unit)} {ps:List MemPlace} {nm:String} {d:DataW Unit},DataW.LaidVars P w laid ps→(nm,d)∈laid →
  ∃ g t cs fuel p,P.globalNamed nm=some g∧(P.globals[g]?).map (·.type)=some t∧w.var? P nm=some cs∧DataW.trod (fun _=>()) P w 0 (fun _=>true) false fuel t cs.toList=some (d,p)
 |[],ps,nm,d,_,hm=>by cases hm
 |(n,d')::r,ps,nm,d,h,hm=>by
  obtain⟨g,t,cs,fuel,p,q,h1,h2,h3,h4,h5,_⟩:=h;rcases List.mem_cons.1 hm with hm|hm
  ·cases hm
   exact⟨g,t,cs,fuel,p,h1,h2,h3,h4⟩
  ·exact qkh h5 hm
theorem qlD {nm:String} {cs:Array Value} {g:Nat} (hg:P.globalNamed nm=some g) (h:w.var? P nm=some cs):∃ T f,w.heap[g]?=some (.cells cs T f):=by
 unfold World.var? at h
 rw [hg] at h
 simp only [Option.bind_some] at h
 split at h
 ·rename_i cs' T f he;cases h
  exact⟨T,f,he⟩
 ·cases h
theorem qpq {t:TypeId} {ms:Array (String×TypeId)} {fuel:Nat} {cs:Array Value} {nm:String} {d:DataW Unit} {p:List MemPlace} (hi:P.underlying t=some (.interface ms))
  (h:DataW.trod (fun _=>()) P w 0 (fun _=>true) false fuel t cs.toList=some (.iface nm d,p)):∃ u v,cs=#[.iface u v]:=by
 cases fuel with
 |zero=>simp [DataW.trod] at h
 |succ fuel =>
  obtain⟨l⟩:=cs;simp only [DataW.trod,hi] at h
  split at h
  all_goals first|(rename_i heq _;cases heq;done)|(rename_i heq;cases heq;done)|skip
  all_goals first|(exact⟨_,_,rfl⟩)|(cases h;done)
end
end Go.Pv
set_option linter.unusedSimpArgs false
set_option linter.unusedVariables false
namespace Go.Pv
open Go.RowKit
def dropS (n:Nat) (σ:Store):Store:=⟨(σ.objs.take n).map (qbW n),σ.toks,σ.tys.take n⟩
theorem qky (n:Nat):∀ (xs:List PV),(qbW n xs).length=xs.length
 |[]=>rfl
 |x::xs=>by simp [qbW,qky n xs]
theorem qnf (n:Nat):∀ (xs:qR),(qap n xs).length=xs.length
 |[]=>rfl
 |x::xs=>by simp [qap,qnf n xs]
theorem qo4 (n:Nat):∀ {a:List (List PV)},(∀ x∈a,qbW n x=x)→qap n a=a
 |[],_=>rfl
 |x::a,h=>by simp only [qap];rw [h x (by simp),qo4 n fun y hy=>h y (by simp [hy])]
@[simp] theorem dropPLL_bytes (n:Nat) (l:qU):qap n (qaf l)=qaf l:=qo4 n (by simp [qaf,qbW,qcJ])
@[simp] theorem dropPLL_nil (n:Nat):qap n []=[]:=rfl
mutual
theorem qoK (n:Nat):∀ {x:PV},lock x=x→qcJ n x=x
 |.top,_=>rfl
 |.bool _,_=>rfl
 |.int _ _,_=>rfl
 |.str _,_=>rfl
 |.nilp,_=>rfl
 |.ptr _ _,h=>by simp [lock] at h
 |.ref cs,h=>by simp only [lock,PV.ref.injEq] at h;simp only [qcJ];rw [qdz n h]
 |.sl xs t,h=>by simp only [lock,PV.sl.injEq] at h;simp only [qcJ];rw [qhi n h.1]
 |.osl _ _ _ _,h=>by simp [lock] at h
 |.fn f caps,h=>by simp only [lock,PV.fn.injEq] at h;simp only [qcJ];rw [qdz n h.2]
 |.nilf,_=>rfl
 |.iface t v,h=>by simp only [lock,PV.iface.injEq] at h;simp only [qcJ];rw [qoK n h.2]
 |.nili,_=>rfl
 |.agg cs,h=>by simp only [lock,PV.agg.injEq] at h;simp only [qcJ];rw [qdz n h]
 |.tup cs,h=>by simp only [lock,PV.tup.injEq] at h;simp only [qcJ];rw [qdz n h]
theorem qdz (n:Nat):∀ {x:List PV},qem x=x→qbW n x=x
 |[],_=>rfl
 |x::xs,h=>by simp only [qem,List.cons.injEq] at h;simp only [qbW];rw [qoK n h.1,qdz n h.2]
theorem qhi (n:Nat):∀ {x:List (List PV)},qaa x=x→qap n x=x
 |[],_=>rfl
 |x::xs,h=>by simp only [qaa,List.cons.injEq] at h;simp only [qap];rw [qdz n h.1,qhi n h.2]
end
def Gh.keep (H:Gh) (n:Nat):Gh:={ H with ob:=H.ob.take n }
section
variable {H : Gh} {w : World} {n : Nat}
theorem qjC {b off:Nat} (h:H.prot w b off):(H.keep n).prot w b off:=⟨h.1,h.2.1,fun hm=>h.2.2.1 (List.mem_of_mem_take hm),h.2.2.2⟩
theorem qwP {b off:Nat} (h:H.prot2 w b off):(H.keep n).prot2 w b off:=h.elim (fun h=>.inl (qjC h)) .inr
mutual
theorem qu2:∀ {x:PV} {v:Value},Rel H w x v→Rel (H.keep n) w (qcJ n x) v
 |_,_,.top v=>by simp only [qcJ];exact .top v
 |_,_,.bool b=>by simp only [qcJ];exact .bool b
 |_,_,.int k m h=>by simp only [qcJ];exact .int k m h
 |_,_,.str l h=>by simp only [qcJ];exact .str l h
 |_,_,.nilp=>by simp only [qcJ];exact .nilp
 |_,_,.ptr id off b h=>by
  simp only [qcJ];cases hn:decide (id < n) with
  |true=>exact .ptr id off b (by simp only [Gh.keep];rw [List.getElem?_take,if_pos (by simpa using hn)];exact h)
  |false=>exact .top _
 |_,_,.ref a cs vs h hc=>by simp only [qcJ];exact .ref a _ vs (qc8 h) (fun j v e=>⟨qwP (hc j v e).1,(hc j v e).2⟩)
 |_,_,.osl id off off' len cap k b h ho hcap hm=>by
  simp only [qcJ];cases hn:decide (id < n) with
  |true=>exact .osl id off off' len cap k b (by simp only [Gh.keep];rw [List.getElem?_take,if_pos (by simpa using hn)];exact h) ho hcap hm
  |false=>exact .top _
 |_,_,.sl p len cap k xs vss t hl hcap hm h hr ht=>by
  simp only [qcJ];exact .sl p len cap k _ vss t (by rw [← hl];exact qnf n xs) hcap hm (qpa h) (fun i vs e=>⟨(hr i vs e).1,by
   obtain⟨_,a,ha,hc⟩:=hr i vs e;exact⟨a,ha,fun j v e=>⟨qjC (hc j v e).1,(hc j v e).2⟩⟩⟩) ht
 |_,_,.fn f caps vs h=>by simp only [qcJ];exact .fn f _ vs (qc8 h)
 |_,_,.yld t T h hk=>by simp only [qcJ];exact .yld t T h hk
 |_,_,.nilf=>by simp only [qcJ];exact .nilf
 |_,_,.iface t x v h=>by simp only [qcJ];exact .iface t _ v (qu2 h)
 |_,_,.nili=>by simp only [qcJ];exact .nili
 |_,_,.agg cs vs h=>by simp only [qcJ];exact .agg _ vs (qc8 h)
 |_,_,.tup cs vs h=>by simp only [qcJ];exact .tup _ vs (qc8 h)
theorem qc8:∀ {x:List PV} {v:List Value},RelL H w x v→RelL (H.keep n) w (qbW n x) v
 |_,_,.nil=>by simp only [qbW];exact .nil
 |_,_,.cons x v xs vs h ht=>by simp only [qbW];exact .cons _ v _ vs (qu2 h) (qc8 ht)
theorem qpa:∀ {x:List (List PV)} {v:List (List Value)},RelLL H w x v→RelLL (H.keep n) w (qap n x) v
 |_,_,.nil=>by simp only [qap];exact .nil
 |_,_,.cons x v xs vs h ht=>by simp only [qap];exact .cons _ v _ vs (qc8 h) (qpa ht)
end
theorem qcQ {α:Type} {l:List α} {n i:Nat} {a:α} (h:(l.take n)[i]?=some a):i < n∧l[i]?=some a:=by
 rw [List.getElem?_take] at h
 split at h
 ·exact⟨‹_›,h⟩
 ·cases h
theorem qyN {gl:Gl} {σ:Store} (h:Ok gl H σ w) (hn:∀ (t:Nat) (T:Tok),H.tk[t]?=some T→T.k=0→T.cap≤n):Ok gl (H.keep n) (dropS n σ) w where
 B:=h.B
 gl:=h.gl
 len:=by simp [Gh.keep,dropS,h.len]
 obj:=fun id b cs e1 e2=>by
  obtain⟨hn,e1⟩:=qcQ e1;simp only [dropS,List.getElem?_map] at e2;obtain⟨c0,hc0,rfl⟩:=Option.map_eq_some_iff.1 e2;obtain⟨hB,vs,ext,T,he,hr⟩:=h.obj id b c0 e1 (qcQ hc0).2;exact⟨hB,vs,ext,T,he,qc8 hr⟩
 nd:=fun i j b e1 e2=>h.nd i j b (qcQ e1).2 (qcQ e2).2
 tkl:=h.tkl
 tok:=fun t T e hvv=>by
  obtain⟨hB,ho,o,he,hr⟩:=h.tok t T e hvv;refine⟨hB,fun hm=>ho (List.mem_of_mem_take hm),o,he,?_⟩
  rcases hr with hr|⟨h1,h2,r,h3,h4,h5,h6,h7⟩
  ·exact .inl hr
  ·have hc:=hn t T e h1;refine .inr ⟨h1,h2,r,h3,?_,h5,?_,h7⟩
   ·have:=qc8 (n:=n) h4
    rwa [h5 n hc] at this
   ·simp only [Gh.keep,List.length_take];omega
 tnd:=h.tnd
 tyl:=by simp [dropS,h.tyl]
 ty:=fun id b T cs e1 e2 e3 hT=>by
  obtain⟨hn,e1⟩:=qcQ e1;simp only [dropS,List.getElem?_map] at e2 e3;obtain⟨c0,hc0,rfl⟩:=Option.map_eq_some_iff.1 e3;obtain⟨us,he,hs⟩:=h.ty id b T c0 e1 (qcQ e2).2 (qcQ hc0).2 hT;exact⟨us,he,by rw [hs,qky]⟩
end
section
variable {P : Program} {gl : Gl} {c : Code} {fr fr' : List PV} {σ σ' : Store} {e : PExit} {n : Nat}
theorem qDc {H0:Gh} {w0:World} {a:Act} {w:World} (hn:H0.ob.length≤n) (h0:∀ (t:Nat) (T:Tok),H0.tk[t]?=some T→T.k=0→T.cap≤n) (h:St gl H0 w0 fr σ a w):St gl H0 w0 (qbW n fr) (dropS n σ) a w:=by
 obtain⟨H,hev,hok,hfr,hd⟩:=h;refine⟨H.keep n,⟨hev.B,hev.base,hev.aux,hev.K,hev.os,hev.tape,hev.output,hev.size,fun id b hid=>?_,hev.tok,fun b off hp=>⟨qjC (hev.prot b off hp).1,(hev.prot b off hp).2⟩,hev.block,hev.dr,hev.fix,hev.old⟩,qyN hok (fun t T e hk=>?_),qc8 hfr,hd⟩
 rotate_left
 ·obtain⟨T0,e0,k0⟩:=hev.old t T e hk;obtain⟨T1,e1,u⟩:=hev.tok t T0 e0;rw [e] at e1;cases e1
  rw [(u.lp k0).2.2.2];exact h0 t T0 e0 k0
 simp only [Gh.keep];rw [List.getElem?_take,if_pos (Nat.lt_of_lt_of_le (List.getElem?_eq_some_iff.1 hid).1 hn)];exact hev.ob id b hid
theorem Does.drop (hn:σ.objs.length≤n) (h:Does P gl c fr σ e fr' σ'):Does P gl c fr σ e (qbW n fr') (dropS n σ'):=by
 intro r n' H0 w0 hR Q a w hst hq;obtain⟨H,hev,hok,hfr,hd⟩:=hst;refine h r n' H w (hR.ev hev) Q a w ⟨H,Ev.refl H w,hok,hfr,hd⟩ fun a' w' hst'=>hq a' w' ?_
 obtain⟨H',hev',hok',hfr',hd'⟩:=qDc (n:=n) (by rw [hok.len];exact hn) (fun t T e hk=>by
  obtain⟨_,_,o,_,ho⟩:=hok.tok t T e (fun hh=>hh.2 hk)
  rcases ho with⟨h1,_⟩|⟨_,_,r,_,_,_,h6,_⟩
  ·exact absurd hk h1
  ·rw [hok.len] at h6;omega) hst'
 exact⟨H',hev.trans hev',hok',hfr',hd'⟩
end
section
variable {H : Gh} {w : World}
end
section
variable {P : Program} {gl : Gl} {c : Code} {fr fr' : List PV} {σ σ' : Store} {e : PExit}
end
end Go.Pv
set_option linter.unusedSimpArgs false
set_option linter.unusedVariables false
namespace Go.Pv
open Go.RowKit
section
variable {P : Program} {tb : Tab} {gl : Gl} {Γ : Gam}
end
section
variable {P : Program} {tb : Tab} {gl : Gl} {Γ : Gam}
end
end Go.Pv
set_option linter.unusedSimpArgs false
set_option linter.unusedVariables false
namespace Go.Pv
structure Cod (α:Type) where
 enc:α→List PV
 dec:List PV→Option α
 k:Nat
 of_dec:∀ c a,dec c=some a→c=enc a
 dec_of:∀ a,dec (enc a)=some a
 lock:∀ a,qem (enc a)=enc a
 shut:∀ a,qes (enc a)=enc a
 len:∀ a,(enc a).length=k
 one:∀ a,(enc a).all one=true
section
variable {α : Type} (C : Cod α)
def rOf (l:List α):List (List PV):=l.map C.enc
def deR:qR→Option (List α)
 |[]=>some []
 |c::xs=>match C.dec c,deR xs with
  |some a,some l=>some (a::l)
  |_,_=>none
theorem qdH:∀ {xs:List (List PV)} {l:List α},deR C xs=some l→xs=rOf C l
 |[],l,h=>by cases h;rfl
 |c::xs,l,h=>by
  simp only [deR] at h
  split at h
  ·rename_i a l' h1 h2;cases h
   rw [C.of_dec _ _ h1,qdH h2];rfl
  ·cases h
theorem qhb:∀ (l:List α),deR C (rOf C l)=some l
 |[]=>rfl
 |a::l=>by
  have:=qhb l;simp only [rOf,List.map_cons,deR,C.dec_of] at this ⊢;rw [this]
def okR (xs:qR):Bool:=(deR C xs).isSome
def unR (xs:qR):List α:=(deR C xs).getD []
theorem qEL {xs:List (List PV)} (h:okR C xs=true):∃ l,xs=rOf C l:=by
 unfold okR at h
 cases hd:deR C xs with
 |none=>rw [hd] at h;cases h
 |some l=>exact⟨l,qdH C hd⟩
@[simp] theorem okR_of (l:List α):okR C (rOf C l)=true:=by unfold okR;rw [qhb];rfl
@[simp] theorem qFS (l:List α):unR C (rOf C l)=l:=by unfold unR;rw [qhb];rfl
@[simp] theorem okR_nil:okR C []=true:=rfl
@[simp] theorem unR_nil:unR C []=[]:=rfl
@[simp] theorem rOf_nil:rOf C []=[]:=rfl
theorem qBI (a:α) (l:List α):rOf C (a::l)=C.enc a::rOf C l:=rfl
@[simp] theorem qDa (l:List α):(rOf C l).length=l.length:=by simp [rOf]
@[simp] theorem qxI (l:List α) (i:Nat):(rOf C l)[i]?=(l[i]?).map C.enc:=by simp [rOf]
theorem qiO (a b:List α):rOf C (a++b)=rOf C a++rOf C b:=by simp [rOf]
@[simp] theorem rOf_take (l:List α) (n:Nat):(rOf C l).take n=rOf C (l.take n):=by simp [rOf]
@[simp] theorem rOf_drop (l:List α) (n:Nat):(rOf C l).drop n=rOf C (l.drop n):=by simp [rOf]
@[simp] theorem rOf_nil_iff (l:List α):(rOf C l=[])↔l=[]:=by simp [rOf]
@[simp] theorem qaw (l:List α):qaa (rOf C l)=rOf C l:=qmQ (by
 intro x hx;simp only [rOf,List.mem_map] at hx;obtain⟨a,_,rfl⟩:=hx;exact C.lock a)
@[simp] theorem qd3 (l:List α):qcj (rOf C l)=rOf C l:=qnj (by
 intro x hx;simp only [rOf,List.mem_map] at hx;obtain⟨a,_,rfl⟩:=hx;exact C.shut a)
@[simp] theorem dropPLL_rOf (n:Nat) (l:List α):qap n (rOf C l)=rOf C l:=qhi n (qaw C l)
theorem qb7 (l:List α):qaD (rOf C l) C.k=true:=by
 simp [qaD,rOf,C.len]
theorem qb4 (l:List α):qbf (rOf C l) C.k=true:=by
 simp only [qbf,rOf,List.all_map,List.all_eq_true];intro a _;simp [C.len,C.one]
theorem qEz {l:List α} {i:Nat} {a:α} (h:l[i]?=some a):(rOf C l)[i]?=some (C.enc a):=by simp [h]
@[simp] theorem xLen_rOf (l:List α):xLen (rOf C l)=(l.length:Int):=by simp
@[simp] theorem nXs_rOf (l:List α):nXs (rOf C l)=l.length:=by simp
@[simp] theorem xSub_rOf (l:List α) (a b:Nat):xSub (rOf C l) a b=rOf C ((l.take b).drop a):=by simp
@[simp] theorem xApp_rOf (a b:List α):xApp (rOf C a) (rOf C b)=rOf C (a++b):=by simp [qiO]
@[simp] theorem xNil_rOf (l:List α):xNil (rOf C l)=decide (l=[]):=by simp
end
abbrev Vl:=Int×Int×List UInt8
def cI:Cod Int where
 enc n:=[.int .i64 n]
 dec c:=match c with|[.int .i64 n]=>some n|_=>none
 k:=1
 of_dec c a h:=by
  split at h
  ·cases h;rfl
  ·cases h
 dec_of a:=rfl
 lock a:=rfl
 shut a:=rfl
 len a:=rfl
 one a:=rfl
abbrev Tm:=Int×List UInt8×Vl
def cM:Cod Tm where
 enc t:=[.int .i64 t.1,.str t.2.1,.int .i64 t.2.2.1,.int .i64 t.2.2.2.1,.str t.2.2.2.2]
 dec c:=match c with|[.int .i64 a,.str b,.int .i64 k,.int .i64 n,.str s]=>some (a,b,k,n,s)|_=>none
 k:=5
 of_dec c a h:=by
  split at h
  ·cases h;rfl
  ·cases h
 dec_of a:=rfl
 lock a:=rfl
 shut a:=rfl
 len a:=rfl
 one a:=rfl
@[simp] theorem okSize_cI (l:List Int):qaD (rOf cI l) 1=true:=qb7 cI l
@[simp] theorem okNews_cI (l:List Int):qbf (rOf cI l) 1=true:=qb4 cI l
@[simp] theorem qzG (l:List Tm):qaD (rOf cM l) 5=true:=qb7 cM l
@[simp] theorem okNews_cM (l:List Tm):qbf (rOf cM l) 5=true:=qb4 cM l
end Go.Pv
namespace Go.Pv
open Go Go.Proofs
def tbT:Tab:=tkOf Tryz.prog
theorem qav:qbF Tryz.prog tbT:=fun _ _ h=>h
end Go.Pv
namespace Go.Pv
open Go Go.Proofs
set_option maxHeartbeats 4000000
set_option maxRecDepth 200000
theorem qai:Tryz.prog.follows .mixedOrders=true:=by kernel_rfl
end Go.Pv
set_option maxHeartbeats 4000000
set_option maxRecDepth 200000
set_option linter.unusedSimpArgs false
set_option linter.unusedVariables false
namespace Go.Pv
open Go Go.Proofs
def qbG (k n:Int) (s:qU):Int:=if k=1∧s=[] then 0 else if k=2∧n=0∧s.length≤256 then 0 else 10
def isV (k n:Int) (s:qU):Bool:=decide (k=1∧s=[]∨k=2∧n=0∧s.length≤256)
def qsK:List PV→Tr PV
 |[.agg [.int .i64 k,.int .i64 n,.str s]]=>.ret (.int .i64 (qbG k n s))
 |_=>.fail
theorem qzw (gl:Gl):SimP Tryz.prog gl 113 fun args=>(qsK args).run:=by
 refine SimP.of_tree (G:=ofL []) (L:=fun _ _ _=>.fail) qav qag qai Tryz.func113 rfl (by rfl) (by kernel_rfl) (qae (by kernel_rfl)) ?_
 intro args x h hr;unfold qsK at h
 split at h
 ·rename_i k n s;cases h
  refine Tr.run_as (.ite (iEq k 1) (.ite (sEq s []) (.ret (.int .i64 0)) (.ite (iEq k 2) (.ite (iEq n 0) (.ite (iLe (sLen s) 256) (.ret (.int .i64 0)) (.ret (.int .i64 10))) (.ret (.int .i64 10))) (.ret (.int .i64 10)))) (.ite (iEq k 2) (.ite (iEq n 0) (.ite (iLe (sLen s) 256) (.ret (.int .i64 0)) (.ret (.int .i64 10))) (.ret (.int .i64 10))) (.ret (.int .i64 10)))) (by kernel_rfl) ?_
  simp
  try simp [qbG]
  try ((repeat' split)<;>first|rfl|(simp_all;done)|omega|(simp_all;omega))
 ·cases h
def qdd (a b:qU):Bool:=decide (b.length≤a.length)&&decide (a.take b.length=b)
def qmt (a b:qU):Bool:=decide (b.length≤a.length)&&decide (a.drop (a.length - b.length)=b)
def qny:List PV→Tr PV
 |[.str a,.str b]=>.ret (.bool (qdd a b))
 |_=>.fail
theorem qtb (gl:Gl):SimP Tryz.prog gl 170 fun args=>(qny args).run:=by
 refine SimP.of_tree (G:=ofL []) (L:=fun _ _ _=>.fail) qav qag qai Tryz.func170 rfl (by rfl) (by kernel_rfl) (qae (by kernel_rfl)) ?_
 intro args x h hr;unfold qny at h
 split at h
 ·rename_i a b;cases h
  have h1:=qqx hr 0 rfl;have h2:=qqx hr 1 rfl;unfold maxLen at h1 h2;refine Tr.run_as (.ite (iLe (sLen b) (sLen a)) (.ite (qaC true (qao (sLen b)) 0 (nNat (sLen b)) (nLen a)) (.ret (.bool (sEq (sSub a 0 (nNat (sLen b))) b))) .fail) (.ret (.bool false))) (by kernel_rfl) ?_
  simp [iSub];by_cases hl:b.length≤a.length
  ·simp [qdd,hl]
  ·simp [qdd,hl]
 ·cases h
def qni:List PV→Tr PV
 |[.str a,.str b]=>.ret (.bool (qmt a b))
 |_=>.fail
theorem qup (gl:Gl):SimP Tryz.prog gl 177 fun args=>(qni args).run:=by
 refine SimP.of_tree (G:=ofL []) (L:=fun _ _ _=>.fail) qav qag qai Tryz.func177 rfl (by rfl) (by kernel_rfl) (qae (by kernel_rfl)) ?_
 intro args x h hr;unfold qni at h
 split at h
 ·rename_i a b;cases h
  have h1:=qqx hr 0 rfl;have h2:=qqx hr 1 rfl;unfold maxLen at h1 h2;refine Tr.run_as (.ite (iLe (sLen b) (sLen a)) (.ite (qaC (qao (iSub .i64 (sLen a) (sLen b))) true (nNat (iSub .i64 (sLen a) (sLen b))) (nLen a) (nLen a)) (.ret (.bool (sEq (sSub a (nNat (iSub .i64 (sLen a) (sLen b))) (nLen a)) b))) .fail) (.ret (.bool false))) (by kernel_rfl) ?_
  simp [iSub];by_cases hl:b.length≤a.length
  ·have e:IntKind.wrap .i64 ((a.length:Int) - b.length)=(a.length:Int) - b.length:=qdF (by omega)
   have e2:((a.length:Int) - b.length).toNat=a.length - b.length:=by omega
   rw [if_pos hl,e,if_pos (by omega),e2]
   simp [qmt,hl]
  ·simp [qmt,hl]
 ·cases h
def qlP:List PV→Tr PV
 |[.str a,.str b]=>.ret (.bool (qdd a b))
 |_=>.fail
theorem qoM (gl:Gl):SimP Tryz.prog gl 160 fun args=>(qlP args).run:=by
 refine SimP.of_tree (G:=ofL [(170,.pure qny)]) (L:=fun _ _ _=>.fail) qav (qad (qtb gl) qag) qai Tryz.func160 rfl (by rfl) (by kernel_rfl) (qae (by kernel_rfl)) ?_
 intro args x h hr;unfold qlP at h
 split at h
 ·rename_i a b;cases h
  refine Tr.run_as (.ret (.bool (qdd a b))) (by kernel_rfl) ?_
  simp
  try simp
  try ((repeat' split)<;>first|rfl|(simp_all;done)|omega|(simp_all;omega))
 ·cases h
def qrp:List PV→Tr PV
 |[.str a,.str b]=>.ret (.bool (qmt a b))
 |_=>.fail
theorem qwi (gl:Gl):SimP Tryz.prog gl 174 fun args=>(qrp args).run:=by
 refine SimP.of_tree (G:=ofL [(177,.pure qni)]) (L:=fun _ _ _=>.fail) qav (qad (qup gl) qag) qai Tryz.func174 rfl (by rfl) (by kernel_rfl) (qae (by kernel_rfl)) ?_
 intro args x h hr;unfold qrp at h
 split at h
 ·rename_i a b;cases h
  refine Tr.run_as (.ret (.bool (qmt a b))) (by kernel_rfl) ?_
  simp
  try simp
  try ((repeat' split)<;>first|rfl|(simp_all;done)|omega|(simp_all;omega))
 ·cases h
def hexL:qU:=[48,49,50,51,52,53,54,55,56,57,97,98,99,100,101,102]
def oneV (c:Int):List UInt8 :=
 if c=34∨c=92 then [92,UInt8.ofNat c.toNat] else if c=10 then [92,110] else if c=9 then [92,116] else if 32≤c∧c≤126 then [UInt8.ofNat c.toNat]
 else [92,120,UInt8.ofNat (sAt hexL (iShr .u8 c 4)).toNat,UInt8.ofNat (sAt hexL (iAnd .u8 c 15)).toNat]
def qCX:List PV→Tr PV
 |[.int .u8 c]=>.ret (.str (oneV c))
 |_=>.fail
theorem qCJ (gl:Gl):SimP Tryz.prog gl 117 fun args=>(qCX args).run:=by
 refine SimP.of_tree (G:=ofL []) (L:=fun _ _ _=>.fail) qav qag qai Tryz.func117 rfl (by rfl) (by kernel_rfl) (qae (by kernel_rfl)) ?_
 intro args x h hr;unfold qCX at h
 split at h
 ·rename_i c;cases h
  have h1:=qEk hr 0 rfl;obtain⟨n,rfl⟩:=qAo h1;refine Tr.run_as (.ite (iEq (Int.ofNat n.1) 34) (.ite (qei (qda .i32 (Int.ofNat n.1))) (.ite (qba [92] (sOne (qda .i32 (Int.ofNat n.1)))) (.ret (.str (sApp [92] (sOne (qda .i32 (Int.ofNat n.1)))))) .fail) .fail) (.ite (iEq (Int.ofNat n.1) 92) (.ite (qei (qda .i32 (Int.ofNat n.1))) (.ite (qba [92] (sOne (qda .i32 (Int.ofNat n.1)))) (.ret (.str (sApp [92] (sOne (qda .i32 (Int.ofNat n.1)))))) .fail) .fail) (.ite (iEq (Int.ofNat n.1) 10) (.ret (.str [92,110])) (.ite (iEq (Int.ofNat n.1) 9) (.ret (.str [92,116])) (.ite (iLe 32 (Int.ofNat n.1)) (.ite (iLe (Int.ofNat n.1) 126) (.ite (qei (qda .i32 (Int.ofNat n.1))) (.ret (.str (sOne (qda .i32 (Int.ofNat n.1))))) .fail) (.ite (qbM [48,49,50,51,52,53,54,55,56,57,97,98,99,100,101,102] (iShr .u8 (Int.ofNat n.1) 4)) (.ite (qei (qda .i32 (sAt [48,49,50,51,52,53,54,55,56,57,97,98,99,100,101,102] (iShr .u8 (Int.ofNat n.1) 4)))) (.ite (qba [92,120] (sOne (qda .i32 (sAt [48,49,50,51,52,53,54,55,56,57,97,98,99,100,101,102] (iShr .u8 (Int.ofNat n.1) 4))))) (.ite (qbM [48,49,50,51,52,53,54,55,56,57,97,98,99,100,101,102] (iAnd .u8 (Int.ofNat n.1) 15)) (.ite (qei (qda .i32 (sAt [48,49,50,51,52,53,54,55,56,57,97,98,99,100,101,102] (iAnd .u8 (Int.ofNat n.1) 15)))) (.ite (qba (sApp [92,120] (sOne (qda .i32 (sAt [48,49,50,51,52,53,54,55,56,57,97,98,99,100,101,102] (iShr .u8 (Int.ofNat n.1) 4))))) (sOne (qda .i32 (sAt [48,49,50,51,52,53,54,55,56,57,97,98,99,100,101,102] (iAnd .u8 (Int.ofNat n.1) 15))))) (.ret
   (.str (sApp (sApp [92,120] (sOne (qda .i32 (sAt [48,49,50,51,52,53,54,55,56,57,97,98,99,100,101,102] (iShr .u8 (Int.ofNat n.1) 4))))) (sOne (qda .i32 (sAt [48,49,50,51,52,53,54,55,56,57,97,98,99,100,101,102] (iAnd .u8 (Int.ofNat n.1) 15))))))) .fail) .fail) .fail) .fail) .fail) .fail)) (.ite (qbM [48,49,50,51,52,53,54,55,56,57,97,98,99,100,101,102] (iShr .u8 (Int.ofNat n.1) 4)) (.ite (qei (qda .i32 (sAt [48,49,50,51,52,53,54,55,56,57,97,98,99,100,101,102] (iShr .u8 (Int.ofNat n.1) 4)))) (.ite (qba [92,120] (sOne (qda .i32 (sAt [48,49,50,51,52,53,54,55,56,57,97,98,99,100,101,102] (iShr .u8 (Int.ofNat n.1) 4))))) (.ite (qbM [48,49,50,51,52,53,54,55,56,57,97,98,99,100,101,102] (iAnd .u8 (Int.ofNat n.1) 15)) (.ite (qei (qda .i32 (sAt [48,49,50,51,52,53,54,55,56,57,97,98,99,100,101,102] (iAnd .u8 (Int.ofNat n.1) 15)))) (.ite (qba (sApp [92,120] (sOne (qda .i32 (sAt [48,49,50,51,52,53,54,55,56,57,97,98,99,100,101,102] (iShr .u8 (Int.ofNat n.1) 4))))) (sOne (qda .i32 (sAt [48,49,50,51,52,53,54,55,56,57,97,98,99,100,101,102] (iAnd .u8 (Int.ofNat n.1) 15))))) (.ret (.str (sApp (sApp [92,120] (sOne (qda .i32 (sAt [48,49,50,51,52,53,54,55,56,57,97,98,99,100,101,102] (iShr .u8 (Int.ofNat n.1) 4))))) (sOne (qda .i32 (sAt [48,49,50,51,52,53,54,55,56,57,97,98,99,100,101,102] (iAnd .u8 (Int.ofNat n.1) 15))))))) .fail) .fail) .fail) .fail) .fail) .fail)))))) (by kernel_rfl) ?_
  clear hr h1;apply qAx
  revert n
  decide +kernel
 ·cases h
def qwH (c:Int):Int:=if 48≤c∧c≤57 then c - 48 else if 97≤c∧c≤102 then c - 87 else -1
end Go.Pv
set_option maxHeartbeats 4000000
set_option maxRecDepth 200000
set_option linter.unusedSimpArgs false
set_option linter.unusedVariables false
namespace Go.Pv
open Go Go.Proofs
theorem qtA {l:List UInt8} {i:Int} {v:UInt8} (h:l[i.toNat]?=some v):sAt l i=v.toNat:=by
 simp [sAt,List.getD_eq_getElem?_getD,h]
theorem qrX {l:List UInt8} {i:Int} {v:UInt8} (h0:0≤i) (h:l[i.toNat]?=some v):qbM l i=true:=by
 have:=(List.getElem?_eq_some_iff.1 h).1;simp [h0,this]
def dv:qU→Int→Int→Int
 |[],_,_=>16
 |b::l,c,i=>if (b.toNat:Int)=c then i else dv l c (i+1)
def digV (c:Int):Int:=dv hexL c 0
def qsW:List PV→Tr PV
 |[.int .u8 c]=>.ret (.int .u8 (digV c))
 |_=>.fail
def qt3:List PV→Store→Option (Int×Int×Store)
 |[.int .u8 c,.int .i64 i],σ=>some (c,i,σ)
 |_,_=>none
def qzA:Int×Int×Store→Tr (PExit×List (Nat×PV)×Store)
 |(c,i,σ)=>Tr.chk (iEq i 0) (.ite (iEq (digV c) 16) (.ret (.exit 0,[],σ)) (.ret (.ret,[(2,.int .u8 (digV c))],σ)))
def qw6:LpsT:=fun r fr σ=>if r=2 then oracle 14 [0,4] qt3 qzA fr σ else .fail
def qtN:Code:=qC6 Tryz.f181 0
theorem qwm (gl:Gl):∀ vs σ a e out σ',qt3 vs σ=some a→(qzA a).run=some (e,out,σ')→LDoes Tryz.prog gl qtN (mk 14 ([0,4].zip vs)) σ e (mk 14 out) σ':=by
 intro vs s a e out σ' hd hr;unfold qt3 at hd;split at hd
 ·rename_i c i;cases hd
  obtain⟨h1,h2⟩:=Tr.chk_some hr;simp at h1;subst h1;clear hr;have key:∀ (m:Nat) (i:Int),0≤i→i+m=16→dv (hexL.drop i.toNat) c i=digV c→LDoes Tryz.prog gl qtN (mk 14 ([0,4].zip [.int .u8 c,.int .i64 i])) s e (mk 14 out) σ':=by
   intro m
   induction m with
   |zero =>
    intro i h0 hi hf;have:i=16:=by omega
    subst this;have hf:16=digV c:=hf;simp [← hf] at h2;obtain⟨rfl,rfl,rfl⟩:=h2;refine LDoes.round qav (G:=ofL []) qag qai (L:=fun _ _ _=>.fail) (qae (by kernel_rfl)) (by kernel_rfl) ?_
    refine Tr.all_as (.ite (iLt 16 16) (.ite (qbM [48,49,50,51,52,53,54,55,56,57,97,98,99,100,101,102] 16) (.ite (iEq (sAt [48,49,50,51,52,53,54,55,56,57,97,98,99,100,101,102] 16) c) (.ret (.ret,[10,5],[.int .u8 c,.top,.int .u8 (qda .u8 16),.int .i64 16,.int .i64 16,.bool true,.int .i64 16,.int .i64 16,.int .u8 (sAt [48,49,50,51,52,53,54,55,56,57,97,98,99,100,101,102] 16),.int .u8 c,.bool true,.int .i64 16,.int .u8 (qda .u8 16),.top],s)) (.ret (.normal,[10,5],[.int .u8 c,.top,.top,.int .i64 16,.int .i64 (iAdd .i64 16 1),.bool true,.int .i64 16,.int .i64 16,.int .u8 (sAt [48,49,50,51,52,53,54,55,56,57,97,98,99,100,101,102] 16),.int .u8 c,.bool false,.top,.top,.int .i64 (iAdd .i64 16 1)],s))) .fail) (.ret (.exit 0,[5],[.int .u8 c,.top,.top,.top,.int .i64 16,.bool false,.top,.top,.top,.top,.top,.top,.top,.top],s))) (by kernel_rfl) ?_
    refine⟨fun h=>by simp at h,fun h=>⟨rfl,by simp [Weak,mk,qdn,look],rfl⟩⟩
   |succ m ih =>
    intro i h0 hi hf;obtain⟨v,hv⟩:=qmy (l:=hexL) (i:=i.toNat) (by show i.toNat < 16;omega)
    rw [qcL hv] at hf;refine LDoes.round qav (G:=ofL []) qag qai (L:=fun _ _ _=>.fail) (qae (by kernel_rfl)) (by kernel_rfl) ?_
    refine Tr.all_as (.ite (iLt i 16) (.ite (qbM [48,49,50,51,52,53,54,55,56,57,97,98,99,100,101,102] i) (.ite (iEq (sAt [48,49,50,51,52,53,54,55,56,57,97,98,99,100,101,102] i) c) (.ret (.ret,[10,5],[.int .u8 c,.top,.int .u8 (qda .u8 i),.int .i64 i,.int .i64 i,.bool true,.int .i64 i,.int .i64 i,.int .u8 (sAt [48,49,50,51,52,53,54,55,56,57,97,98,99,100,101,102] i),.int .u8 c,.bool true,.int .i64 i,.int .u8 (qda .u8 i),.top],s)) (.ret (.normal,[10,5],[.int .u8 c,.top,.top,.int .i64 i,.int .i64 (iAdd .i64 i 1),.bool true,.int .i64 i,.int .i64 i,.int .u8 (sAt [48,49,50,51,52,53,54,55,56,57,97,98,99,100,101,102] i),.int .u8 c,.bool false,.top,.top,.int .i64 (iAdd .i64 i 1)],s))) .fail) (.ret (.exit 0,[5],[.int .u8 c,.top,.top,.top,.int .i64 i,.bool false,.top,.top,.top,.top,.top,.top,.top,.top],s))) (by kernel_rfl) ?_
    refine⟨fun _=>⟨fun _=>⟨fun h=>?_,fun h=>?_⟩,fun h=>?_⟩,fun h=>by simp at h;omega⟩
    ·have h:iEq (sAt hexL i) c=true:=h;rw [qtA hv] at h
     simp at h
     simp only [dv,if_pos h] at hf;rw [← hf] at h2;have h16:¬ i=16:=by omega
     simp [h16] at h2;obtain⟨rfl,rfl,rfl⟩:=h2;refine⟨rfl,?_,rfl⟩;simp [Weak,mk,qdn,look,qda,qEm (n:=i) (by omega)]
    ·have h:iEq (sAt hexL i) c=false:=h;rw [qtA hv] at h
     simp at h
     simp only [dv,if_neg h] at hf;have e1:(i+1).toNat=i.toNat+1:=by omega
     refine LDoes.into ?_ (ih (i+1) (by omega) (by omega) (by rw [e1];exact hf))
     simp [Weak,mk,qdn,look,iAdd,qdF (n:=i+1) (by omega)]
    ·have h:qbM hexL i=false:=h;rw [qrX h0 hv] at h
     cases h
  exact key 16 0 (by omega) (by omega) rfl
 ·cases hd
theorem qz7 (gl:Gl):SimP Tryz.prog gl 181 fun args=>(qsW args).run:=by
 refine SimP.of_tree (G:=ofL []) (L:=qw6) qav qag qai Tryz.func181 rfl (by rfl) (by kernel_rfl) (qkG (r:=2) (c1:=qtN) (by kernel_rfl) ?_) ?_
 ·intro fr σ e fr' σ' hh;simp only [lps,qw6,if_true] at hh;exact qnR (qwm gl) fr σ e fr' σ' hh
 intro args x h hr;unfold qsW at h
 split at h
 ·rename_i c;cases h
  refine Tr.run_as (.ite (iEq 0 0) (.ite (iEq (digV c) 16) (.ret (.int .u8 16)) (.ret (.int .u8 (digV c)))) .fail) (by kernel_rfl) ?_
  simp [eq_comm]
 ·cases h
def escB (s:qU):Int :=
 if s=[] then 0 else if sAt s 0=34∨sAt s 0=92 then sAt s 0 else if sAt s 0=110 then 10 else if sAt s 0=116 then 9
 else if sAt s 0=120∧3≤s.length∧digV (sAt s 1) < 16∧digV (sAt s 2) < 16 then iOr .u8 (iShl .u8 (digV (sAt s 1)) 4) (digV (sAt s 2)) else 0
def escN (s:qU):Int :=
 if s=[] then 0 else if sAt s 0=34∨sAt s 0=92 then 1 else if sAt s 0=110 then 1 else if sAt s 0=116 then 1
 else if sAt s 0=120∧3≤s.length∧digV (sAt s 1) < 16∧digV (sAt s 2) < 16 then 3 else 0
def qlH:List PV→Tr PV
 |[.str s]=>.ret (.tup [.int .u8 (escB s),.int .i64 (escN s)])
 |_=>.fail
theorem qpn (gl:Gl):SimP Tryz.prog gl 178 fun args=>(qlH args).run:=by
 refine SimP.of_tree (G:=ofL [(181,.pure qsW)]) (L:=fun _ _ _=>.fail) qav (qad (qz7 gl) qag) qai Tryz.func178 rfl (by rfl) (by kernel_rfl) (qae (by kernel_rfl)) ?_
 intro args x h hr;unfold qlH at h
 split at h
 ·rename_i s;cases h
  refine Tr.run_as (.ite (sEq s []) (.ret (.tup [.int .u8 0,.int .i64 0])) (.ite (qbM s 0) (.ite (iEq (sAt s 0) 34) (.ite (qbM s 0) (.ret (.tup [.int .u8 (sAt s 0),.int .i64 1])) .fail) (.ite (iEq (sAt s 0) 92) (.ite (qbM s 0) (.ret (.tup [.int .u8 (sAt s 0),.int .i64 1])) .fail) (.ite (iEq (sAt s 0) 110) (.ret (.tup [.int .u8 10,.int .i64 1])) (.ite (iEq (sAt s 0) 116) (.ret (.tup [.int .u8 9,.int .i64 1])) (.ite (iEq (sAt s 0) 120) (.ite (iLe 3 (sLen s)) (.ite (qbM s 1) (.ite (iLt (digV (sAt s 1)) 16) (.ite (qbM s 2) (.ite (iLt (digV (sAt s 2)) 16) (.ite (qbM s 1) (.ite (qbM s 2) (.ret (.tup [.int .u8 (iOr .u8 (iShl .u8 (digV (sAt s 1)) 4) (digV (sAt s 2))),.int .i64 3])) .fail) .fail) (.ret (.tup [.int .u8 0,.int .i64 0]))) .fail) (.ret (.tup [.int .u8 0,.int .i64 0]))) .fail) (.ret (.tup [.int .u8 0,.int .i64 0]))) (.ret (.tup [.int .u8 0,.int .i64 0]))))))) .fail)) (by kernel_rfl) ?_
  by_cases h0:s=[]
  ·subst h0;simp [escB,escN]
  ·have hl:0 < s.length:=List.length_pos_iff.2 h0;have k0:qbM s 0=true:=by simp [hl]
   by_cases h3:3≤s.length
   ·have k1:qbM s 1=true:=by simp;omega
    have k2:qbM s 2=true:=by simp;omega
    have h3':(3:Int)≤s.length:=by omega
    simp only [Tr.run_ite,k0,k1,k2,qpi,qzF,qCo,qoQ,qnq,decide_eq_true_eq,h0,h3',if_true,if_false,escB,escN,h3,true_and,Tr.run_ret]
    repeat' split
    all_goals first|rfl|(simp_all;done)|(exfalso;simp_all;done)|(exfalso;omega)
   ·have h3':¬ (3:Int)≤s.length:=by omega
    simp only [Tr.run_ite,k0,qpi,qzF,qCo,qoQ,qnq,decide_eq_true_eq,h0,h3',if_true,if_false,escB,escN,h3,false_and,and_false,Tr.run_ret]
    repeat' split
    all_goals first|rfl|(simp_all;done)|(exfalso;simp_all;done)|(exfalso;omega)
 ·cases h
def qh9 (n:Nat):List UInt8:=if h:n < 10 then [UInt8.ofNat (48+n)] else qh9 (n / 10)++[UInt8.ofNat (48+n % 10)]
 termination_by n
 decreasing_by omega
theorem qrN:∀ (k n:Nat),n < 10 ^ (k+1)→(qh9 n).length≤k+1:=by
 intro k
 induction k with
 |zero=>intro n h;unfold qh9;simp at h;simp [h]
 |succ k ih =>
  intro n h;unfold qh9;split
  ·simp
  ·have:=ih (n / 10) (by rw [Nat.pow_succ] at h;omega)
   simp;omega
def qt6 (n:Int):List UInt8:=qh9 n.toNat
end Go.Pv
set_option maxHeartbeats 4000000
set_option maxRecDepth 200000
set_option linter.unusedSimpArgs false
set_option linter.unusedVariables false
namespace Go.Pv
open Go Go.Proofs
def symB (s:qU):List UInt8:=s.flatMap fun b=>oneV b.toNat
def symV (s:qU):List UInt8:=34::symB s++[34]
def intV (n:Int):List UInt8:=if n < 0 then 45::qt6 (-n) else qt6 n
def qpP (k n:Int) (s:qU):List UInt8:=if isV k n s=true then (if k=1 then intV n else symV s) else []
def symH (s:qU):List UInt8:=34::symB s
theorem quV (c:Int):1≤(oneV c).length∧(oneV c).length≤4:=by
 unfold oneV
 repeat' split
 all_goals simp
theorem quN:∀ s,(symB s).length≤4 * s.length
 |[]=>by simp [symB]
 |b::s=>by
  have:=quN s;have:=quV b.toNat;simp [symB] at *;omega
theorem qAe (k n:Int) (s:qU):qbG k n s=if isV k n s=true then 0 else 10:=by
 unfold qbG isV;by_cases h1:k=1∧s=[]
 ·simp [h1]
 ·by_cases h2:k=2∧n=0∧s.length≤256
  ·simp [h2]
  ·rw [if_neg h1,if_neg h2,if_neg];simp only [decide_eq_true_eq];rintro (h|h)
   ·exact h1 h
   ·exact h2 h
end Go.Pv
set_option maxHeartbeats 4000000
set_option maxRecDepth 200000
set_option linter.unusedSimpArgs false
set_option linter.unusedVariables false
namespace Go.Pv
open Go Go.Proofs Go.RowKit
def VarIs (gl:Gl) (name:String) (cs:Array Value):Prop:=∃ g T f,Tryz.prog.globalNamed name=some g∧gl g=some (.cells cs T f)
structure GlPow (gl:Gl):Prop where
 pow : VarIs gl "internal/strconv.uint64pow10" (Lib.pow10Tab.map fun z => Value.int .u64 z).toArray
structure GlOk (gl:Gl):Prop extends GlPow gl where
 syn : ∃ tp p, VarIs gl "strconv.ErrSyntax" #[.iface tp p]
 rng : ∃ tp p, VarIs gl "strconv.ErrRange" #[.iface tp p]
theorem VarIs.var {gl:Gl} {name:String} {cs:Array Value} (h:VarIs gl name cs) {w:World} (hw:∀ b o,gl b=some o→w.heap[b]?=some o):w.var? Tryz.prog name=some cs:=by
 obtain⟨g,T,f,h1,h2⟩:=h;simp [World.var?,h1,hw g _ h2]
theorem GlPow.dr {gl:Gl} (h:GlPow gl) (w w':World):Dr gl w w':=fun hg=>by
 obtain⟨g,T,f,_,h2⟩:=h.pow;rw [hg g] at h2;cases h2
def qyr (n:Int):List UInt8:=Lib.itoa n
def qiy:List PV→Tr PV
 |[.int .i64 n,.int .i64 b]=>Tr.chk (iEq b 10) (.ret (.str (qyr n)))
 |_=>.fail
theorem qrn {gl:Gl} (hgl:GlPow gl):SimP Tryz.prog gl 114 fun args=>(qiy args).run:=by
 refine⟨⟨_,Tryz.func114,by rfl,by rfl⟩,?_⟩
 intro args x hx H w vs hB hob htk hw hrel;unfold qiy at hx;split at hx
 ·rename_i n b;obtain⟨h1,h2⟩:=Tr.chk_some hx;cases h2
  simp at h1;subst h1;cases hrel with
  |cons _ v _ vs hv hvs =>
   cases hvs with
   |cons _ v2 _ vs hv2 hvs =>
    cases hvs
    cases hv with
    |int _ _ hwf =>
     cases hv2
     simp [Lit.wf,IntKind.min,IntKind.max,IntKind.signed,IntKind.bits] at hwf;refine (Tryz.strconv_FormatInt_10 n hwf.1 (by omega) w (hgl.pow.var hw)).mono ?_
     rintro e w' ⟨rfl,k,os,rfl⟩;refine⟨_,rfl,⟨Lib.below_grow _ _ (Nat.le_refl _) k os,hgl.dr _ _⟩,.str _ ?_⟩;have:=Lib.itoa_length_le n hwf.1 (by omega)
     show (Lib.itoa n).length≤maxLen
     unfold maxLen;omega
 ·cases hx
def pOk (s:qU):Bool:=match Lib.parseIntB 64 s with
 |.ok _=>true
 |_=>false
def pVal (s:qU):Int:=match Lib.parseIntB 64 s with
 |.ok v=>v
 |.range=>Lib.intSat 64 s
 |_=>0
def qfj (s:qU):Bool:=decide (s.length≤281474976710656)
def qkk:List PV→Tr PV
 |[.str s,.int .i64 b,.int .i64 k]=>Tr.chk (iEq b 10) (Tr.chk (iEq k 64) (Tr.chk (qfj s) (.ite (pOk s) (.ret (.tup [.int .i64 (pVal s),.nili])) (.ret (.tup [.int .i64 (pVal s),.iface 237 .top])))))
 |_=>.fail
theorem qDL (s:qU):(Lit.int .i64 (pVal s)).wf=true:=by
 have key:-9223372036854775808≤pVal s∧pVal s≤9223372036854775807:=by
  unfold pVal;split
  ·rename_i v hv;have h:=Lib.parseIntB_bounds hv;have e:((2 ^ (64 - 1):Nat):Int)=9223372036854775808:=by decide
   rw [e] at h
   omega
  ·unfold Lib.intSat;split
   ·have e:-(((2 ^ (64 - 1):Nat)):Int)=-9223372036854775808:=by decide
    rw [e];omega
   ·have e:(((2 ^ (64 - 1) - 1:Nat)):Int)=9223372036854775807:=by decide
    rw [e];omega
  ·omega
 simp [Lit.wf,IntKind.min,IntKind.max,IntKind.signed,IntKind.bits];omega
theorem qsu {gl:Gl} (hgl:GlOk gl):SimP Tryz.prog gl 176 fun args=>(qkk args).run:=by
 refine⟨⟨_,Tryz.func176,by rfl,by rfl⟩,?_⟩
 intro args x hx H w vs hB hob htk hw hrel;unfold qkk at hx;split at hx
 ·rename_i s b k;obtain⟨h1,h2⟩:=Tr.chk_some hx;obtain⟨h3,h4⟩:=Tr.chk_some h2;obtain⟨h5,h6⟩:=Tr.chk_some h4;simp at h1 h3;simp [qfj] at h5;subst h1 h3;have hwf:=qDL s;cases hrel with
  |cons _ v _ vs hv hvs =>
   cases hvs with
   |cons _ v2 _ vs hv2 hvs =>
    cases hvs with
    |cons _ v3 _ vs hv3 hvs =>
     cases hvs
     cases hv2;cases hv3
     cases hv with
     |str _ hl =>
      have hsz:(ByteArray.mk s.toArray).size=s.length:=by simp [ByteArray.size]
      cases hp:Lib.parseIntB 64 s with
      |ok n =>
       have e1:pOk s=true:=by simp [pOk,hp]
       have e2:pVal s=n:=by simp [pVal,hp]
       rw [e2] at hwf;simp [e1,e2] at h6;subst h6;refine (Any.strconv_ParseInt_10_at64_ok Tryz.laysC174 ⟨s.toArray⟩ (by rw [hsz];omega) n hp w).mono ?_
       rintro e w' ⟨rfl,hw'⟩;refine⟨_,rfl,⟨?_,hgl.dr _ _⟩,.tup _ _ (.cons _ _ _ _ (.int _ _ hwf) (.cons _ _ _ _ .nili .nil))⟩;rcases hw' with rfl|⟨t,rfl⟩
       ·exact Below.refl _ _
       ·exact⟨rfl,rfl,rfl,by rw [Lib.bytesWorld_size];omega,fun k hk=>Lib.bytesWorld_at_old w _ _ k hk⟩
      |range =>
       have e1:pOk s=false:=by simp [pOk,hp]
       have e2:pVal s=Lib.intSat 64 s:=by simp [pVal,hp]
       simp [e1,e2] at h6;rw [e2] at hwf;subst h6;obtain⟨tp,p,hv⟩:=hgl.rng;refine (Any.strconv_ParseInt_10_at64_range_var Tryz.laysC174 ⟨s.toArray⟩ (by rw [hsz];omega) hp tp p w (hv.var hw)).mono ?_
       rintro e w' ⟨N,rfl,h1,h2,h3⟩;exact⟨_,rfl,⟨h3,hgl.dr _ _⟩,.tup _ _ (.cons _ _ _ _ (.int _ _ hwf) (.cons _ _ _ _ (.iface _ _ _ (.top _)) .nil))⟩
      |_ =>
       have e1:pOk s=false:=by simp [pOk,hp]
       have e2:pVal s=0:=by simp [pVal,hp]
       rw [e2] at hwf;simp [e1,e2] at h6;subst h6;obtain⟨tp,p,hv⟩:=hgl.syn;refine (Any.strconv_ParseInt_10_at64_syntax_var Tryz.laysC174 ⟨s.toArray⟩ (by rw [hsz];omega) hp tp p w (hv.var hw)).mono ?_
       rintro e w' ⟨N,rfl,h1,h2,h3⟩;exact⟨_,rfl,⟨h3,hgl.dr _ _⟩,.tup _ _ (.cons _ _ _ _ (.int _ _ hwf) (.cons _ _ _ _ (.iface _ _ _ (.top _)) .nil))⟩
 ·cases hx
end Go.Pv
set_option maxHeartbeats 4000000
set_option maxRecDepth 200000
set_option linter.unusedSimpArgs false
set_option linter.unusedVariables false
namespace Go.Pv
open Go Go.Proofs Go.Shelf Go.RowKit
variable {P : Program} {ρ : Ren} {gl : Gl}
theorem qtW {w:World} {b off:Nat} {cs:Array Value} {T:TypeId} {fz:Nat×Nat} (h:w.heap[b]?=some (.cells cs T fz)) (v:Value):w.setCell ⟨b,off,none⟩ v=w.setRow b (cs.setIfInBounds off v):=by
 unfold World.setCell World.setRow
 congr 1
 apply Array.ext_getElem?;intro i;rw [Array.getElem?_modify,Array.getElem?_modify];by_cases hi:b=i
 ·subst hi;rw [if_pos rfl,if_pos rfl,h];rfl
 ·rw [if_neg hi,if_neg hi]
theorem qx4 {w:World} {b n:Nat} {cs:Array Value} {T:TypeId} {fz:Nat×Nat} (h:w.heap[b]?=some (.cells cs T fz)):∃ fz',(w.freeze ⟨b,0,none⟩ n).heap[b]?=some (.cells cs T fz'):=by
 unfold World.freeze;split
 ·exact⟨fz,h⟩
 ·obtain⟨lo,hi⟩:=fz;exact⟨_,by simp only [Array.getElem?_modify,if_true,h];rfl⟩
theorem qrV (w:World) (b n k:Nat) (h:k≠b):(w.freeze ⟨b,0,none⟩ n).heap[k]?=w.heap[k]?:=by
 unfold World.freeze;split
 ·rfl
 ·simp only [Array.getElem?_modify];rw [if_neg (fun e=>h e.symm)]
theorem qul (w:World) (b n:Nat):(w.freeze ⟨b,0,none⟩ n).heap.size=w.heap.size:=by
 unfold World.freeze;split
 ·rfl
 ·simp
theorem qtH (w:World) (b n:Nat):(w.freeze ⟨b,0,none⟩ n).os=w.os∧(w.freeze ⟨b,0,none⟩ n).tape=w.tape∧(w.freeze ⟨b,0,none⟩ n).output=w.output:=by
 unfold World.freeze;split<;>exact⟨rfl,rfl,rfl⟩
theorem qrW (w:World) (b n:Nat):(w.drew.freeze ⟨b,0,none⟩ n).drawn=w.drew.drawn:=by
 unfold World.freeze;split<;>rfl
def qeg (T:TypeId):List PV→Store→Tr (PV×Store)
 |[.ptr 1 0],⟨[o,[.nilp,q]],tk,[t0,t1]⟩=>Tr.chk (t1 == T) (.ret (.tup [],⟨[o,[.ptr 1 0,q]],tk,[t0,t1]⟩))
 |[.ptr 1 0],⟨[o,[.ptr 1 0,q]],tk,[t0,t1]⟩=>.ret (.tup [],⟨[o,[.ptr 1 0,q]],tk,[t0,t1]⟩)
 |_,_=>.fail
theorem qtf {H:Gh} {w:World} {args:List Value} {id off:Nat} (h:RelL H w [.ptr id off] args):∃ b,H.ob[id]?=some b∧args=[.pointer (some ⟨b,off,none⟩)]:=by
 cases h with
 |cons _ v _ vs hv hvs =>
  cases hvs
  cases hv with
  |ptr _ _ b hb=>exact⟨b,hb,rfl⟩
theorem qls {f:FuncId} {TB:TypeId} (hTB:TB < qe5) (hfresh:∀ (b:Nat) (w:World),w.cell? ⟨b,0,none⟩=some (.pointer none)→w.shape? b=some (TB,2)→w.frozen? ⟨b,0,none⟩=false→Calls P f #[.pointer (some ⟨b,0,none⟩)] w fun e w'=>e=.returned (.tuple #[])∧w'=w.setCell ⟨b,0,none⟩ (.pointer (some ⟨b,0,none⟩)))
  (hused:∀ (b:Nat) (w:World),w.cell? ⟨b,0,none⟩=some (.pointer (some ⟨b,0,none⟩))→Calls P f #[.pointer (some ⟨b,0,none⟩)] w fun e w'=>e=.returned (.tuple #[])∧w'=w)
  (hent : ∃ fn, P.funcs[f]? = some fn ∧ (fn.name == "runtime.NumGoroutine") = false ∧ fn.body.isNone = false) : SimS P gl f fun args σ => (qeg TB args σ).run := by
 refine⟨hent,?_⟩;intro args σ x σ' hx H w vs hok hrel;unfold qeg at hx;split at hx
 ·rename_i o q tk t0 t1;obtain⟨h1,h2⟩:=Tr.chk_some hx;cases h2
  have h1:t1=TB:=by simpa using h1
  subst h1;obtain⟨b,hb,rfl⟩:=qtf hrel;obtain⟨hB,us,ext,T,hheap,hus⟩:=hok.obj 1 b _ hb rfl;obtain⟨cs,hcs,hsz⟩:=hok.ty 1 b _ _ hb rfl rfl hTB;rw [hheap] at hcs;simp only [Option.some.injEq,Obj.cells.injEq] at hcs;obtain⟨rfl,rfl,_⟩:=hcs;have hul:=hus.len;have hext:ext=[]:=by
   apply List.eq_nil_of_length_eq_zero;simp at hsz hul;omega
  subst hext;cases hus with
  |cons _ u0 _ us hu0 hus =>
   cases hu0
   cases hus with
   |cons _ u1 _ us hu1 hus =>
    cases hus
    refine (hfresh b w (by rw [Lib.cell_of_heap hheap];rfl) (by simp [World.shape?,hheap]) (by rw [Lib.frozen_of_heap hheap 0])).mono ?_
    rintro e w' ⟨rfl,rfl⟩;rw [qtW hheap];have hset:=qtK (cs':=[.ptr 1 0,q]) (vs':=[.pointer (some ⟨b,0,none⟩),u1]) hok hb hheap (.cons _ _ _ _ (.ptr _ _ _ hb) (.cons _ _ _ _ hu1 .nil)) (fun c0 hc0=>by cases hc0;exact⟨rfl,rfl⟩)
    exact⟨_,rfl,H,hset.1,hset.2,.tup _ _ .nil⟩
 ·rename_i o q tk t0 t1;cases hx
  obtain⟨b,hb,rfl⟩:=qtf hrel;obtain⟨hB,us,ext,T,hheap,hus⟩:=hok.obj 1 b _ hb rfl;cases hus with
  |cons _ u0 _ us hu0 hus =>
   have hu0':u0=.pointer (some ⟨b,0,none⟩):=by
    cases hu0 with
    |ptr _ _ b' hb' =>
     rw [hb] at hb';cases hb'
     rfl
   subst hu0';refine (hused b w (by rw [Lib.cell_of_heap hheap];rfl)).mono ?_
   rintro e w' ⟨rfl,rfl⟩;exact⟨_,rfl,.same hok (.tup _ _ .nil)⟩
 ·cases hx
def qlG (T:TypeId):List PV→Store→Tr (PV×Store)
 |[.ptr 1 0],⟨[o,[p,.sl xs (.tok 0)]],[(v,1,e)],ty⟩=>Tr.chk (qet xs) (Tr.chk (bNot (xNil xs)) (Tr.chk (nEq v (nXs xs)) (Tr.chk (e == T) (.ret (.str (qc2 xs),⟨[o,[p,.sl xs (.tok 0)]],[(maxLen+1,1,e)],ty⟩)))))
 |_,_=>.fail
set_option maxRecDepth 100000 in
theorem Any.Builder_String_at (L : Lays.n169 P ρ) (X : Builder.Extra P ρ) (b g cap : Nat) (l : List UInt8) (w : World) (p : Value) (cs cur : Array Value) (T : TypeId) (fz : Nat × Nat)
    (hbk : w.cell? ⟨b, 1, none⟩ = some (.slice (some ⟨g, 0, none⟩) l.length cap)) (hg : w.heap[g]? = some (.cells cur (ρ.t 5) fz)) (hnc : l.length ≤ cap) (hcm : cap ≤ maxLen) (hcs : cur.size = cap)
    (hcell : ∀ j x, l[j]? = some x → w.cell? ((⟨g, 0, none⟩ : Addr).add j) = some (.int .u8 x.toNat)) (h0 : l ≠ []) :
    Calls P (ρ.f 169) #[.pointer (some ⟨b, 0, none⟩)] w fun e w' => e = .returned (.string ⟨l.toArray⟩) ∧ w' = w.drew.freeze ⟨g, 0, none⟩ l.length := by
  have hl0 : l.length ≠ 0 := by simpa using h0
  have c1 : w.drew.cell? ⟨b, 1, none⟩ = some (.slice (some ⟨g, 0, none⟩) l.length cap) := hbk
  have hSD : (Builtin.unsafeSliceData_ #[(ρ.t 37)] (ρ.t 127) #[.slice (some ⟨g, 0, none⟩) l.length cap]).run P w.drew = .ok (.pointer (some ⟨g, 0, none⟩)) w.drew :=
    Lib.run_unsafeSliceData_row _ _ _ _ _ _ (by omega)
  have hUS : (Builtin.unsafeString_ #[(ρ.t 127), (ρ.t 3)] (ρ.t 9) #[.pointer (some ⟨g, 0, none⟩), .int .i64 l.length]).run P w.drew = .ok (.string ⟨l.toArray⟩) (w.drew.freeze ⟨g, 0, none⟩ l.length) := by
    refine Lib.run_unsafeString_row w.drew (ρ.t 127) (ρ.t 3) (ρ.t 9) (ρ.t 5) L.t127 X.cellsByte g cur.size (by have hg' : w.drew.heap[g]? = some (.cells cur (ρ.t 5) fz) := hg; simp [World.shape?, hg']) l h0 (by omega) (by unfold maxLen at hcm; omega) ?_
    intro j x hx
    exact hcell j x hx
  have mixed := L.mixed
  have t72 := L.t72; have a72 := L.a72; have z72 := L.z72; have v72 := L.v72; have u72 := run_underlying L.t72
  have t70 := L.t70; have a70 := L.a70; have z70 := L.z70; have v70 := L.v70; have u70 := run_underlying L.t70
  have t37 := L.t37; have a37 := L.a37; have z37 := L.z37; have v37 := L.v37; have u37 := run_underlying L.t37
  have t127 := L.t127; have a127 := L.a127; have z127 := L.z127; have v127 := L.v127; have u127 := run_underlying L.t127
  have t3 := L.t3; have a3 := L.a3; have z3 := L.z3; have v3 := L.v3; have u3 := run_underlying L.t3
  have t9 := L.t9; have a9 := L.a9; have z9 := L.z9; have v9 := L.v9; have u9 := run_underlying L.t9
  have t5 := X.t5; have a5 := X.a5; have z5 := X.z5; have v5 := X.v5; have u5 := run_underlying X.t5
  go_enter L.f169, Body.n169_ntmps ρ
  go_wp2
  go_region_o
  all_goals (go_wp2; go_ret; exact ⟨rfl, rfl⟩)
theorem Any.sim_String (L : Lays.n169 P ρ) (X : Builder.Extra P ρ) (hent : ∃ fn, P.funcs[ρ.f 169]? = some fn ∧ (fn.name == "runtime.NumGoroutine") = false ∧ fn.body.isNone = false) : SimS P gl (ρ.f 169) fun args σ => (qlG (ρ.t 5) args σ).run := by
 refine⟨hent,?_⟩;intro args σ x σ' hx H w vs hok hrel;unfold qlG at hx;split at hx
 ·rename_i o p xs v e ty;obtain⟨h1,q1⟩:=Tr.chk_some hx;obtain⟨h2,q2⟩:=Tr.chk_some q1;obtain⟨h3,q3⟩:=Tr.chk_some q2;obtain⟨h4,q4⟩:=Tr.chk_some q3;clear hx q1 q2 q3;have h4:e=ρ.t 5:=by simpa using h4
  subst h4;simp at h2 h3;subst h3;cases q4
  unfold qet qc2 at *;cases hl:pbytes xs with
  |none=>simp [hl] at h1
  |some l =>
   obtain⟨b,hb,rfl⟩:=qtf hrel;obtain⟨hB,us,ext,T,hheap,hus⟩:=hok.obj 1 b _ hb rfl;cases hus with
   |cons _ u0 _ us hu0 hus =>
    cases hus with
    |cons _ u1 _ us hu1 hus =>
     cases hus
     cases hu1 with
     |sl a len cap k _ vss _ hlen hcap hm hrr hrow htag =>
      obtain⟨ns,rfl,rfl⟩:=qok hl;have hvs:=qpj hrr;subst hvs;obtain⟨U,hU,hUnz,hle,hUv⟩:=htag;have hUs:(U.ver,U.k,U.e)=(len,1,ρ.t 5):=by
       have hh:=hok.tkl;have:(H.tk.map fun T=>(T.ver,T.k,T.e))[0]?=some (U.ver,U.k,U.e):=by rw [List.getElem?_map,hU];rfl
       rw [hh] at this;simp at this;rw [← this.1,← this.2.1,← this.2.2];simp [← hlen]
      simp only [Prod.mk.injEq] at hUs;obtain⟨hUver,hUk,hUe⟩:=hUs;have hU0:U.ver≠0:=by
       rw [hUver];intro h0;apply h2;have:ns=[]:=List.eq_nil_of_length_eq_zero (by simpa [h0] using hlen)
       simp [this]
      obtain⟨rfl,hcapU,hkU⟩:=(hUv hUver.symm).2 hU0;obtain⟨hBT,hTob,ob,hcur,hTO⟩:=hok.tok 0 U hU (fun hh=>hU0 hh.1)
      obtain⟨cur,fz,rfl,hvc,hcm,hcs⟩:∃ cur fz,ob=.cells cur U.e fz∧(U.ver≤maxLen→fz=(0,0)∧U.ver≤U.cap)∧U.cap≤maxLen∧cur.size=U.cap * U.k:=by
       rcases hTO with⟨_,hc⟩|⟨hz,_⟩
       ·exact hc
       ·exact absurd hz hUnz
      have hln:(ns.map fun n=>UInt8.ofNat n.toNat).length=len:=by simpa using hlen
      have hk1:k=1:=by rw [hkU,hUk]
      subst hk1;have hln:ns.length=len:=by simpa using hlen
      have hwf:∀ (j:Nat) (n:Int),ns[j]?=some n→0≤n∧n < 256:=by
       intro j n hj;have:=(qcx.1 hrr).2 j [.int .u8 n] [.int .u8 n] (by simp [hj]) (by simp [hj])
       cases this with
       |cons _ _ _ _ hv _ =>
        cases hv with
        |int _ _ hwf=>simp [Lit.wf,IntKind.min,IntKind.max,IntKind.signed,IntKind.bits] at hwf;omega
      have hll:(ns.map fun n=>UInt8.ofNat n.toNat).length=len:=by simpa using hln
      refine (Any.Builder_String_at L X b U.blk cap (ns.map fun n=>UInt8.ofNat n.toNat) w u0 #[] cur T fz (by rw [hll,Lib.cell_of_heap hheap];rfl) (by rw [← hUe];exact hcur) (by rw [hll];exact hcap) hm (by rw [hcs,hUk,hcapU,Nat.mul_one]) ?_ ?_).mono ?_
      ·intro j x hj;rw [List.getElem?_map] at hj;cases hn:ns[j]? with
       |none=>simp [hn] at hj
       |some n =>
        simp [hn] at hj;subst hj;have hb:=hwf j n hn;obtain⟨hk,a',ha',hcell⟩:=hrow j [.int .u8 n] (by simp [hn])
        injection ha' with ha'
        subst ha';have:=(hcell 0 _ rfl).2;rw [Nat.mul_one,qla,Nat.add_zero] at this;rw [this];simp;omega
      ·intro hnil;apply h2;simpa using hnil
      ·rintro e w' ⟨rfl,rfl⟩;rw [hll];have hcur':w.drew.heap[U.blk]?=some (.cells cur U.e fz):=hcur;obtain⟨fz',hfz'⟩:=qx4 (n:=len) hcur';have hrest:=qtH w.drew U.blk len;have hset:=quB (T':=⟨U.blk,maxLen+1,U.cap,U.k,U.e⟩) (w':=w.drew.freeze ⟨U.blk,0,none⟩ len) hok hU hU0 hUnz rfl (by show U.ver < maxLen+1;omega) hcm (fun _=>by rw [qrW];exact Nat.le_succ _) hrest.1 hrest.2.1 hrest.2.2 (by rw [qul];exact Nat.le_refl _) (.inl rfl)
        (fun k _ hk=>qrV w.drew U.blk len k hk) (fz':=fz') (by intro h;simp at h;omega) hcur hfz' hcs (fun _ off _=>rfl)
       refine⟨_,rfl,_,hset.1,?_,?_⟩
       ·have:=hset.2;simpa [hUk,hUe] using this
       ·exact .str (List.map (fun n=>UInt8.ofNat n.toNat) ns) (by simp;omega)
 ·cases hx
end Go.Pv
set_option maxHeartbeats 4000000
set_option maxRecDepth 200000
set_option linter.unusedSimpArgs false
set_option linter.unusedVariables false
namespace Go.Pv
open Go Go.Proofs Go.RowKit
section
variable (b : Nat) (w : World)
theorem qoD (h0:w.cell? ⟨b,0,none⟩=some (.pointer (some ⟨b,0,none⟩))):Calls Tryz.prog 138 #[.pointer (some ⟨b,0,none⟩)] w fun e w'=>e=.returned (.tuple #[])∧w'=w:=by
 obtain⟨j,hj,_⟩:∃ j,Tryz.prog.info? 163=some j∧j.size=2:=⟨_,rfl,rfl⟩;have mixed:Tryz.prog.follows .mixedOrders=true:=qai;have t72:=Tryz.underlying163;have a72:=Tryz.isAgg163;have z72:=Tryz.sizeOf163;have v72:=Tryz.zeroValue163;have u72:=run_underlying Tryz.underlying163;have t70:=Tryz.underlying161;have a70:=Tryz.isAgg161;have z70:=Tryz.sizeOf161;have v70:=Tryz.zeroValue161;have u70:=run_underlying Tryz.underlying161;have t164:=Tryz.underlying206;have a164:=Tryz.isAgg206;have z164:=Tryz.sizeOf206;have v164:=Tryz.zeroValue206;have u164:=run_underlying Tryz.underlying206
 go_enter Tryz.func138,Tryz.ntmps138
 go_wp2
 rw [Lib.run_neq_ptr_same w _ t70 hj]
 go_wp2
 go_end0
 exact⟨rfl,rfl⟩
theorem qnO (h0:w.cell? ⟨b,0,none⟩=some (.pointer none)) (hsh:w.shape? b=some (163,2)) (hfz:w.frozen? ⟨b,0,none⟩=false) :
  Calls Tryz.prog 138 #[.pointer (some ⟨b,0,none⟩)] w fun e w'=>e=.returned (.tuple #[])∧w'=w.setCell ⟨b,0,none⟩ (.pointer (some ⟨b,0,none⟩)):=by
 obtain⟨j,hj,hjs⟩:∃ j,Tryz.prog.info? 163=some j∧j.size=2:=⟨_,rfl,rfl⟩;have mixed:Tryz.prog.follows .mixedOrders=true:=qai;have t72:=Tryz.underlying163;have a72:=Tryz.isAgg163;have z72:=Tryz.sizeOf163;have v72:=Tryz.zeroValue163;have u72:=run_underlying Tryz.underlying163;have t70:=Tryz.underlying161;have a70:=Tryz.isAgg161;have z70:=Tryz.sizeOf161;have v70:=Tryz.zeroValue161;have u70:=run_underlying Tryz.underlying161;have t164:=Tryz.underlying206;have a164:=Tryz.isAgg206;have z164:=Tryz.sizeOf206;have v164:=Tryz.zeroValue206;have u164:=run_underlying Tryz.underlying206
 go_enter Tryz.func138,Tryz.ntmps138
 go_wp2
 rw [Lib.run_to_unsafe w ⟨b,0,none⟩ t70 t164 hj (by rw [hjs];decide) hsh (Nat.zero_lt_succ 1)]
 simp only [Result.andThen];rw [Oper.upon_value]
 go_wp2
 rw [run_callFunc_extern Tryz.func152 (by kernel_rfl) (by kernel_rfl) (by kernel_rfl) (e:=Extern.AbiNoEscape.same) (by kernel_rfl)]
 rw [Lib.run_noEscape];simp only [Result.andThen];rw [Oper.upon_value]
 go_wp2
 rw [Lib.run_from_unsafe w ⟨b,0,none⟩ t164 t70 hj hsh (by kernel_rfl)]
 simp only [Result.andThen];rw [Oper.upon_value]
 go_wp2
 go_end0
 exact⟨rfl,rfl⟩
end
theorem qjw (gl:Gl):SimS Tryz.prog gl 138 fun args σ=>(qeg 163 args σ).run :=
 qls (by decide) (fun b w=>qnO b w) (fun b w=>qoD b w) ⟨_,Tryz.func138,by rfl,by rfl⟩
theorem sim_String (gl:Gl):SimS Tryz.prog gl 118 fun args σ=>(qlG 5 args σ).run :=
 Any.sim_String Tryz.lays169 Tryz.Builder_Extra_169 ⟨_,Tryz.func118,by rfl,by rfl⟩
def D_WB:List PV→Store→Tr (PV×Store)
 |[.ptr 1 0,.int .u8 c],⟨[o,[.nilp,.sl [] .full]],[],[t0,163]⟩=>.ret (.nili,⟨[o,[.ptr 1 0,.sl [[.int .u8 c]] (.tok 0)]],[(1,1,5)],[t0,163]⟩)
 |[.ptr 1 0,.int .u8 c],⟨[o,[.ptr 1 0,.sl xs (.tok 0)]],[(v,1,5)],[t0,163]⟩=>Tr.chk (qbm xs [[.int .u8 c]] 1) (Tr.chk (qaD xs 1) (Tr.chk (nEq v (nXs xs))
  (.ret (.nili,⟨[o,[.ptr 1 0,.sl (xApp xs [[.int .u8 c]]) (.tok 0)]],[(nXs (xApp xs [[.int .u8 c]]),1,5)],[t0,163]⟩))))
 |_,_=>.fail
theorem qEP (gl:Gl):SimS Tryz.prog gl 115 fun args σ=>(D_WB args σ).run:=by
 refine SimS.of_tree (G:=ofL [(138,.store (qeg 163))]) (L:=fun _ _ _=>.fail) qav (qds (qjw gl) qag) qai Tryz.func115 rfl (by rfl) (by kernel_rfl) (qae (by kernel_rfl)) ?_
 intro args σ x σ' h hr;unfold D_WB at h
 split at h
 ·rename_i c o t0;cases h
  refine Tr.run_as (.ite true (.ite (qbm [] [[.int .u8 c]] 1) (.ite (qbf [[.int .u8 c]] 1) (.ite (qaD [] 1) (.ret (.nili,Store.mk [o,[.ptr 1 0,.sl (xApp [] [[.int .u8 c]]) (.tok 0)]] [(nXs (xApp [] [[.int .u8 c]]),1,5)] [t0,163])) .fail) .fail) .fail) .fail) (by kernel_rfl) ?_
  simp [one]
 ·rename_i c o xs v t0;obtain⟨h1,q1⟩:=Tr.chk_some h;obtain⟨h2,q2⟩:=Tr.chk_some q1;obtain⟨h3,q3⟩:=Tr.chk_some q2;cases q3
  refine Tr.run_as (.ite (qbm xs [[.int .u8 c]] 1) (.ite (qbf [[.int .u8 c]] 1) (.ite (qaD xs 1) (.ite (nEq v (nXs xs)) (.ret (.nili,Store.mk [o,[.ptr 1 0,.sl (xApp xs [[.int .u8 c]]) (.tok 0)]] [(nXs (xApp xs [[.int .u8 c]]),1,5)] [t0,163])) .fail) .fail) .fail) .fail) (by kernel_rfl) ?_
  simp at h1 h2 h3;simp [h1,h2,h3,one]
 ·cases h
def D_WS:List PV→Store→Tr (PV×Store)
 |[.ptr 1 0,.str l],⟨[o,[.ptr 1 0,.sl xs (.tok 0)]],[(v,1,5)],[t0,163]⟩=>Tr.chk (bNot (xNil (qaf l))) (Tr.chk (qbm xs (qaf l) 1) (Tr.chk (qaD xs 1) (Tr.chk (nEq v (nXs xs))
  (.ret (.tup [.int .i64 (sLen l),.nili],⟨[o,[.ptr 1 0,.sl (xApp xs (qaf l)) (.tok 0)]],[(nXs (xApp xs (qaf l)),1,5)],[t0,163]⟩)))))
 |_,_=>.fail
theorem qF6 (gl:Gl):SimS Tryz.prog gl 116 fun args σ=>(D_WS args σ).run:=by
 refine SimS.of_tree (G:=ofL [(138,.store (qeg 163))]) (L:=fun _ _ _=>.fail) qav (qds (qjw gl) qag) qai Tryz.func116 rfl (by rfl) (by kernel_rfl) (qae (by kernel_rfl)) ?_
 intro args σ x σ' h hr;unfold D_WS at h
 split at h
 ·rename_i l o xs v t0;obtain⟨h0,q0⟩:=Tr.chk_some h;obtain⟨h1,q1⟩:=Tr.chk_some q0;obtain⟨h2,q2⟩:=Tr.chk_some q1;obtain⟨h3,q3⟩:=Tr.chk_some q2;cases q3
  refine Tr.run_as (.ite (qbm xs (qaf l) 1) (.ite (qbf (qaf l) 1) (.ite (qaD xs 1) (.ite (xNil (qaf l)) (.ret (.tup [.int .i64 (sLen l),.nili],Store.mk [o,[.ptr 1 0,.sl xs (.tok 0)]] [(v,1,5)] [t0,163])) (.ite (nEq v (nXs xs)) (.ret (.tup [.int .i64 (sLen l),.nili],Store.mk [o,[.ptr 1 0,.sl (xApp xs (qaf l)) (.tok 0)]] [(nXs (xApp xs (qaf l)),1,5)] [t0,163])) .fail)) .fail) .fail) .fail) (by kernel_rfl) ?_
  simp at h0 h1 h2 h3;simp [h0,h1,h2,h3]
 ·cases h
def qdv (k n:Int) (s:qU):List UInt8:=if isV k n s=true then (if k=1 then qyr n else symV s) else []
def qu7:List PV→Tr PV
 |[.agg [.int .i64 k,.int .i64 n,.str s]]=>.ret (.tup [.str (qdv k n s),.int .i64 (qbG k n s)])
 |_=>.fail
def qy2:List PV→Store→Option (Int×Int×List UInt8×Int×Int)
 |[.ptr 0 0,.ptr 1 0,.int .i64 m,.int .i64 i],⟨[[.int .i64 k,.int .i64 n,.str s],[.ptr 1 0,.sl [[.int .u8 34]] (.tok 0)]],[(1,1,5)],[25,163]⟩=>some (k,n,s,m,i)
 |_,_=>none
def qpQ (k n:Int) (s:qU) (b:qU):Store:=⟨[[.int .i64 k,.int .i64 n,.str s],[.ptr 1 0,.sl (qaf b) (.tok 0)]],[(nLen b,1,5)],[25,163]⟩
def qBX:Int×Int×List UInt8×Int×Int→Tr (PExit×List (Nat×PV)×Store)
 |(k,n,s,m,i)=>Tr.chk (iEq i 0) (Tr.chk (iEq m (sLen s)) (Tr.chk (iLe (sLen s) 256) (.ret (.exit 0,[(1,.ptr 0 0),(5,.ptr 1 0)],⟨[[.int .i64 k,.int .i64 n,.str s],[.ptr 1 0,.sl (qaf (symH s)) (.tok 0)]],[(nLen (symH s),1,5)],[25,163]⟩))))
def qCc:LpsT:=fun r fr σ=>if r=9 then oracle 34 [1,5,21,22] qy2 qBX fr σ else .fail
def qw0:Code:=qC6 Tryz.f75 0
theorem qzx (gl:Gl):∀ vs σ a e out σ',qy2 vs σ=some a→(qBX a).run=some (e,out,σ')→LDoes Tryz.prog gl qw0 (mk 34 ([1,5,21,22].zip vs)) σ e (mk 34 out) σ':=by
 intro vs st a e out σ' hd hr;unfold qy2 at hd;split at hd
 ·rename_i m i k n s;cases hd
  obtain⟨h1,h2⟩:=Tr.chk_some hr;obtain⟨h3,h4⟩:=Tr.chk_some h2;obtain⟨h5,h6⟩:=Tr.chk_some h4;simp at h1 h3 h5;subst h1 h3;clear hr h2 h4;cases h6
  have hG:qa3 Tryz.prog gl (gam (ofL [(117,.pure qCX),(116,.store D_WS)])):=qad (qCJ gl) (qds (qF6 gl) qag);have key:∀ (m:Nat) (i:Int) (b:qU),0≤i→i+m=s.length→b++symB (s.drop i.toNat)=symH s→b.length≤1+4 * i.toNat →
    LDoes Tryz.prog gl qw0 (mk 34 ([1,5,21,22].zip [.ptr 0 0,.ptr 1 0,.int .i64 (sLen s),.int .i64 i])) (qpQ k n s b) (.exit 0) (mk 34 [(1,.ptr 0 0),(5,.ptr 1 0)]) (qpQ k n s (symH s)):=by
   intro m
   induction m with
   |zero =>
    intro i b h0 hi hf hb;have e1:s.drop i.toNat=[]:=by apply List.drop_eq_nil_of_le;omega
    rw [e1] at hf;simp [symB] at hf;subst hf;unfold qpQ;refine LDoes.round qav hG qai (L:=fun _ _ _=>.fail) (qae (by kernel_rfl)) (by kernel_rfl) ?_
    refine Tr.all_as (.ite (iLt i (sLen s)) (.ite (qbM s i) (.ite (bNot (xNil (qaf (oneV (sAt s i))))) (.ite (qbm (qaf (symH s)) (qaf (oneV (sAt s i))) 1) (.ite (qaD (qaf (symH s)) 1) (.ite (nEq (nLen (symH s)) (nXs (qaf (symH s)))) (.ret (.normal,[23],[.top,.ptr 0 0,.top,.top,.top,.ptr 1 0,.int .i64 i,.top,.top,.top,.top,.top,.top,.top,.top,.top,.top,.top,.top,.top,.top,.int .i64 (sLen s),.int .i64 (iAdd .i64 i 1),.bool true,.int .i64 i,.ptr 0 2,.str s,.int .i64 i,.int .u8 (sAt s i),.str (oneV (sAt s i)),.tup [.int .i64 (sLen (oneV (sAt s i))),.nili],.int .i64 (iAdd .i64 i 1),.top,.top],Store.mk [[.int .i64 k,.int .i64 n,.str s],[.ptr 1 0,.sl (xApp (qaf (symH s)) (qaf (oneV (sAt s i)))) (.tok 0)]] [(nXs (xApp (qaf (symH s)) (qaf (oneV (sAt s i)))),1,5)] [25,163])) .fail) .fail) .fail) .fail) .fail) (.ret (.exit 0,[23],[.top,.ptr 0 0,.top,.top,.top,.ptr 1 0,.top,.top,.top,.top,.top,.top,.top,.top,.top,.top,.top,.top,.top,.top,.top,.int .i64 (sLen s),.int .i64 i,.bool false,.top,.top,.top,.top,.top,.top,.top,.top,.top,.top],Store.mk [[.int .i64 k,.int .i64 n,.str s],[.ptr 1 0,.sl (qaf (symH s)) (.tok 0)]] [(nLen (symH s),1,5)] [25,163]))) (by kernel_rfl) ?_
    exact Tr.all_f (by simp;omega) ⟨rfl,by simp [Weak,mk,qdn,look],rfl⟩
   |succ m ih =>
    intro i b h0 hi hf hb;obtain⟨v,hv⟩:=qmy (l:=s) (i:=i.toNat) (by omega)
    rw [qcL hv] at hf;have hone:=quV v.toNat;have e2:(i+1).toNat=i.toNat+1:=by omega
    unfold qpQ;refine LDoes.round qav hG qai (L:=fun _ _ _=>.fail) (qae (by kernel_rfl)) (by kernel_rfl) ?_
    refine Tr.all_as (.ite (iLt i (sLen s)) (.ite (qbM s i) (.ite (bNot (xNil (qaf (oneV (sAt s i))))) (.ite (qbm (qaf b) (qaf (oneV (sAt s i))) 1) (.ite (qaD (qaf b) 1) (.ite (nEq (nLen b) (nXs (qaf b))) (.ret (.normal,[23],[.top,.ptr 0 0,.top,.top,.top,.ptr 1 0,.int .i64 i,.top,.top,.top,.top,.top,.top,.top,.top,.top,.top,.top,.top,.top,.top,.int .i64 (sLen s),.int .i64 (iAdd .i64 i 1),.bool true,.int .i64 i,.ptr 0 2,.str s,.int .i64 i,.int .u8 (sAt s i),.str (oneV (sAt s i)),.tup [.int .i64 (sLen (oneV (sAt s i))),.nili],.int .i64 (iAdd .i64 i 1),.top,.top],Store.mk [[.int .i64 k,.int .i64 n,.str s],[.ptr 1 0,.sl (xApp (qaf b) (qaf (oneV (sAt s i)))) (.tok 0)]] [(nXs (xApp (qaf b) (qaf (oneV (sAt s i)))),1,5)] [25,163])) .fail) .fail) .fail) .fail) .fail) (.ret (.exit 0,[23],[.top,.ptr 0 0,.top,.top,.top,.ptr 1 0,.top,.top,.top,.top,.top,.top,.top,.top,.top,.top,.top,.top,.top,.top,.top,.int .i64 (sLen s),.int .i64 i,.bool false,.top,.top,.top,.top,.top,.top,.top,.top,.top,.top],Store.mk [[.int .i64 k,.int .i64 n,.str s],[.ptr 1 0,.sl (qaf b) (.tok 0)]] [(nLen b,1,5)] [25,163]))) (by kernel_rfl) ?_
    rw [qtA hv,qoP,qhy,qhy];refine Tr.all_t (by simp;omega) <| Tr.all_t (qrX h0 hv) <| Tr.all_t (by rw [qv5 hone.1];rfl) <| Tr.all_t (qlm (by omega)) <| Tr.all_t (qhp _) <| Tr.all_t (by simp) ?_
    refine LDoes.into ?_ (ih (i+1) (b++oneV v.toNat) (by omega) (by omega) (by rw [← hf,e2];simp [symB]) (by simp;omega))
    simp [Weak,mk,qdn,look,iAdd,qdF (n:=i+1) (by omega)]
  have hz:=key s.length 0 [34] (by omega) (by omega) (by simp [symH]) (by simp)
  exact hz
 ·cases hd
theorem qvD {gl:Gl} (hgl:GlPow gl):SimP Tryz.prog gl 75 fun args=>(qu7 args).run:=by
 refine SimP.of_tree (G:=ofL [(113,.pure qsK),(114,.pure qiy),(115,.store D_WB),(118,.store (qlG 5))]) (L:=qCc) qav (qad (qzw gl) (qad (qrn hgl) (qds (qEP gl) (qds (sim_String gl) qag)))) qai Tryz.func75 rfl (by rfl) (by kernel_rfl) (qkG (r:=9) (c1:=qw0) (by kernel_rfl) ?_) ?_
 ·intro fr σ e fr' σ' hh;simp only [lps,qCc,if_true] at hh;exact qnR (qzx gl) fr σ e fr' σ' hh
 intro args x h hr;unfold qu7 at h
 split at h
 ·rename_i k n s;cases h
  refine Tr.run_as (.ite (iNe (qbG k n s) 0) (.ret (.tup [.str [],.int .i64 (qbG k n s)])) (.ite (iEq k 1) (.ite (iEq 10 10) (.ret (.tup [.str (qyr n),.int .i64 0])) .fail) (.ite (iEq 0 0) (.ite (iEq (sLen s) (sLen s)) (.ite (iLe (sLen s) 256) (.ite (qbm (qaf (symH s)) [[.int .u8 34]] 1) (.ite (qaD (qaf (symH s)) 1) (.ite (nEq (nLen (symH s)) (nXs (qaf (symH s)))) (.ite (qet (xApp (qaf (symH s)) [[.int .u8 34]])) (.ite (bNot (xNil (xApp (qaf (symH s)) [[.int .u8 34]]))) (.ite (nEq (nXs (xApp (qaf (symH s)) [[.int .u8 34]])) (nXs (xApp (qaf (symH s)) [[.int .u8 34]]))) (.ite true (.ret (.tup [.str (qc2 (xApp (qaf (symH s)) [[.int .u8 34]])),.int .i64 0])) .fail) .fail) .fail) .fail) .fail) .fail) .fail) .fail) .fail) .fail))) (by kernel_rfl) ?_
  rw [qAe];cases hI:isV k n s with
  |false=>simp [qdv,hI]
  |true =>
   by_cases hk:k=1
   ·subst hk;simp [qdv,hI]
   ·have h2:s.length≤256:=by
     unfold isV at hI;simp at hI;omega
    have e3:([[PV.int .u8 34]]:List (List PV))=qaf [34]:=rfl;have hs:=quN s;have hl:(symH s).length=1+(symB s).length:=by simp [symH];omega
    have e4:qbm (qaf (symH s)) (qaf [34]) 1=true:=qlm (by simp;omega)
    have e5:symV s=symH s++[34]:=by simp [symV,symH]
    have e6:¬ (symH s++[34]=[]):=by simp
    rw [e3];simp [qdv,hI,hk,qoP,e4,e5,qhy,-qxK,-qn2];exact⟨by omega,by simp [qaf]⟩
 ·cases h
end Go.Pv
set_option maxHeartbeats 4000000
set_option maxRecDepth 200000
set_option linter.unusedSimpArgs false
set_option linter.unusedVariables false
namespace Go.Pv
open Go Go.Proofs Go.RowKit
theorem qnu {c k:UInt8} (h:c≠k):iEq (c.toNat:Int) (k.toNat:Int)=false:=by
 simp only [qpi,decide_eq_false_iff_not];intro e;exact h (UInt8.toNat_inj.1 (by omega))
theorem qCC (s:qU) (n:Int):0≤sAt s n∧sAt s n < 256:=by
 have:=(s.getD n.toNat 0).toNat_lt;simp only [qFi];omega
theorem qB1:∀ (l:qU) (c i:Int),0≤i→i+l.length≤16→0≤dv l c i∧dv l c i≤16
 |[],c,i,h,hl=>by simp [dv]
 |b::l,c,i,h,hl=>by
  have:=qB1 l c (i+1) (by omega) (by simp at hl;omega)
  unfold dv;split
  ·simp at hl;omega
  ·exact this
theorem quP (c:Int):0≤digV c∧digV c≤16:=qB1 hexL c 0 (by omega) (by decide)
theorem qA8 {a b:Int} (ha:0≤a∧a≤16) (hb:0≤b∧b≤16):0≤iOr .u8 (iShl .u8 a 4) b∧iOr .u8 (iShl .u8 a 4) b < 256:=by
 have key:∀ (x y:Fin 17),0≤iOr .u8 (iShl .u8 (x.val:Int) 4) (y.val:Int)∧iOr .u8 (iShl .u8 (x.val:Int) 4) (y.val:Int) < 256:=by decide +kernel
 have:=key ⟨a.toNat,by omega⟩ ⟨b.toNat,by omega⟩
 have e1:((a.toNat:Nat):Int)=a:=by omega
 have e2:((b.toNat:Nat):Int)=b:=by omega
 rwa [e1,e2] at this
theorem quS (s:qU):0≤escB s∧escB s < 256:=by
 have h1:=qCC s 0;have h2:=qA8 (quP (sAt s 1)) (quP (sAt s 2));unfold escB
 repeat' split
 all_goals first|exact h1|exact h2|omega
theorem quJ (s:qU):0≤escN s∧escN s≤s.length:=by
 unfold escN;by_cases h:s=[]
 ·simp [h]
 ·have:=List.length_pos_iff.2 h
  repeat' split
  all_goals omega
def decP (s:qU):Option (List UInt8):=match s with
 |[]=>some []
 |c::t=>if c=92 then (if escN t=0 then none else (decP (t.drop (escN t).toNat)).map (UInt8.ofNat (escB t).toNat::·)) else (decP t).map (c::·)
 termination_by s.length
 decreasing_by all_goals (simp;try omega)
def qnV (s:qU):Bool:=(decP s).isSome
def decV (s:qU):List UInt8:=(decP s).getD []
def decL (s:qU):Nat:=match s with
 |[]=>0
 |c::t=>if c=92 then (if escN t=0 then 0 else decL (t.drop (escN t).toNat)+1) else decL t+1
 termination_by s.length
 decreasing_by all_goals (simp;try omega)
def badL (s:qU):Nat:=decL s
def qq3:List PV→Tr PV
 |[.str s]=>Tr.chk (qoF s) (.ite (qnV s) (.ret (.tup [.sl (qaf (decV s)) .non,.bool true])) (.ret (.tup [.sl [] .non,.bool false])))
 |_=>.fail
def qqE:List PV→Store→Option (List UInt8)
 |[.str s,.sl [] .full],⟨[],[],[]⟩=>some s
 |_,_=>none
def qvt:qU→Tr (PExit×List (Nat×PV)×Store)
 |s=>Tr.chk (qoF s) (.ite (qnV s) (.ite (sEq (decV s) []) (.ret (.exit 0,[(4,.sl [] .full)],⟨[],[],[]⟩)) (.ret (.exit 0,[(4,.sl (qaf (decV s)) (.tok 0))],⟨[],[(nLen (decV s),1,5)],[]⟩))) (.ite (nEq (badL s) 0) (.ret (.ret,[(2,.sl [] .full),(3,.bool false)],⟨[],[],[]⟩)) (.ret (.ret,[(2,.sl [] .full),(3,.bool false)],⟨[],[(badL s,1,5)],[]⟩))))
def qvg:LpsT:=fun r fr σ=>if r=2 then oracle 32 [0,4] qqE qvt fr σ else .fail
def qlC:Code:=qC6 Tryz.f175 0
theorem qsL (gl : Gl) : ∀ vs σ a e out σ', qqE vs σ = some a → (qvt a).run = some (e, out, σ') → LDoes Tryz.prog gl qlC (mk 32 ([0, 4].zip vs)) σ e (mk 32 out) σ' := by
  intro vs st a e out σ' hd hr
  unfold qqE at hd
  split at hd
  · rename_i s
    injection hd with hd
    subst hd
    obtain ⟨hlen, hr⟩ := Tr.chk_some hr
    simp at hlen
    have hG : qa3 Tryz.prog gl (gam (ofL [(178, .pure qlH)])) := qad (qpn gl) qag
    have key : ∀ (k : Nat) (b s : List UInt8), s.length ≤ k → b ≠ [] → b.length + s.length ≤ 140737488355328 →
       (match decP s with
        | some x => (PExit.exit 0, [(4, PV.sl (qaf (b ++ x)) (.tok 0))], (⟨[], [(nLen (b ++ x), 1, 5)], []⟩ : Store))
        | none => (.ret, [(2, .sl [] .full), (3, .bool false)], ⟨[], [(b.length + decL s, 1, 5)], []⟩)) = (e, out, σ') →
       LDoes Tryz.prog gl qlC (mk 32 ([0, 4].zip [.str s, .sl (qaf b) (.tok 0)])) ⟨[], [(nLen b, 1, 5)], []⟩ e (mk 32 out) σ' := by
      intro k
      have base : ∀ (b : List UInt8), b ≠ [] → (PExit.exit 0, [(4, PV.sl (qaf b) (.tok 0))], (⟨[], [(nLen b, 1, 5)], []⟩ : Store)) = (e, out, σ') →
         LDoes Tryz.prog gl qlC (mk 32 ([0, 4].zip [.str [], .sl (qaf b) (.tok 0)])) ⟨[], [(nLen b, 1, 5)], []⟩ e (mk 32 out) σ' := by
        intro b hb h
        cases h
        refine LDoes.round qav hG qai (L := fun _ _ _ => .fail) (qae (by kernel_rfl)) (by kernel_rfl) ?_
        refine Tr.all_as (.ite (sNe [] []) (.ite (qbM [] 0) (.ite (qaC (qao 1) true (nNat 1) (nLen []) (nLen [])) (.ite (iEq (sAt [] 0) 92) (.ite (iEq (escN (sSub [] (nNat 1) (nLen []))) 0) (.ret (.ret,[3,2,22,15,9],[.str (sSub [] (nNat 1) (nLen [])),.top,.sl [] .full,.bool false,.sl (qaf b) (.tok 0),.int .u8 (sAt [] 0),.int .u8 (escB (sSub [] (nNat 1) (nLen []))),.int .i64 (escN (sSub [] (nNat 1) (nLen []))),.str [],.bool true,.str [],.int .u8 (sAt [] 0),.str [],.str (sSub [] (nNat 1) (nLen [])),.int .u8 (sAt [] 0),.bool true,.tup [.int .u8 (escB (sSub [] (nNat 1) (nLen []))),.int .i64 (escN (sSub [] (nNat 1) (nLen [])))],.str (sSub [] (nNat 1) (nLen [])),.tup [.int .u8 (escB (sSub [] (nNat 1) (nLen []))),.int .i64 (escN (sSub [] (nNat 1) (nLen [])))],.int .u8 (escB (sSub [] (nNat 1) (nLen []))),.int .i64 (escN (sSub [] (nNat 1) (nLen []))),.int .i64 (escN (sSub [] (nNat 1) (nLen []))),.bool true,.top,.top,.top,.top,.top,.top,.top,.top,.top],Store.mk [] [(nLen b,1,5)] [])) (.ite (qaC (qao (escN (sSub [] (nNat 1) (nLen [])))) true (nNat (escN (sSub [] (nNat 1) (nLen [])))) (nLen (sSub [] (nNat 1) (nLen []))) (nLen (sSub [] (nNat 1) (nLen [])))) (.ite (qbm (qaf b) [[.int .u8 (escB (sSub [] (nNat 1) (nLen [])))]] 1) (.ite (qbf [[.int .u8 (escB (sSub [] (nNat 1) (nLen [])))]] 1) (.ite (qaD (qaf b) 1) (.ite (nEq (nLen b) (nXs (qaf b))) (.ret (.normal,[29,22,15,9],[.str (sSub (sSub [] (nNat 1) (nLen [])) (nNat (escN (sSub [] (nNat 1) (nLen [])))) (nLen (sSub [] (nNat 1)
          (nLen [])))),.top,.top,.top,.sl (xApp (qaf b) [[.int .u8 (escB (sSub [] (nNat 1) (nLen [])))]]) (.tok 0),.int .u8 (escB (sSub [] (nNat 1) (nLen []))),.int .u8 (escB (sSub [] (nNat 1) (nLen []))),.int .i64 (escN (sSub [] (nNat 1) (nLen []))),.str [],.bool true,.str [],.int .u8 (sAt [] 0),.str [],.str (sSub [] (nNat 1) (nLen [])),.int .u8 (sAt [] 0),.bool true,.tup [.int .u8 (escB (sSub [] (nNat 1) (nLen []))),.int .i64 (escN (sSub [] (nNat 1) (nLen [])))],.str (sSub [] (nNat 1) (nLen [])),.tup [.int .u8 (escB (sSub [] (nNat 1) (nLen []))),.int .i64 (escN (sSub [] (nNat 1) (nLen [])))],.int .u8 (escB (sSub [] (nNat 1) (nLen []))),.int .i64 (escN (sSub [] (nNat 1) (nLen []))),.int .i64 (escN (sSub [] (nNat 1) (nLen []))),.bool false,.int .u8 (escB (sSub [] (nNat 1) (nLen []))),.str (sSub [] (nNat 1) (nLen [])),.int .i64 (escN (sSub [] (nNat 1) (nLen []))),.str (sSub (sSub [] (nNat 1) (nLen [])) (nNat (escN (sSub [] (nNat 1) (nLen [])))) (nLen (sSub [] (nNat 1) (nLen [])))),.sl (qaf b) (.tok 0),.int .u8 (escB (sSub [] (nNat 1) (nLen []))),.sl [[.int .u8 (escB (sSub [] (nNat 1) (nLen [])))]] .full,.sl (xApp (qaf b) [[.int .u8 (escB (sSub [] (nNat 1) (nLen [])))]]) (.tok 0),.top],Store.mk [] [(nXs (xApp (qaf b) [[.int .u8 (escB (sSub [] (nNat 1) (nLen [])))]]),1,5)] [])) .fail) .fail) .fail) .fail) .fail)) (.ite (qbm (qaf b) [[.int .u8 (sAt [] 0)]] 1) (.ite (qbf [[.int .u8 (sAt [] 0)]] 1) (.ite (qaD (qaf b) 1) (.ite (nEq (nLen b) (nXs (qaf b)))
          (.ret (.normal,[29,15,9],[.str (sSub [] (nNat 1) (nLen [])),.top,.top,.top,.sl (xApp (qaf b) [[.int .u8 (sAt [] 0)]]) (.tok 0),.int .u8 (sAt [] 0),.top,.top,.str [],.bool true,.str [],.int .u8 (sAt [] 0),.str [],.str (sSub [] (nNat 1) (nLen [])),.int .u8 (sAt [] 0),.bool false,.top,.top,.top,.top,.top,.top,.top,.top,.top,.top,.top,.sl (qaf b) (.tok 0),.int .u8 (sAt [] 0),.sl [[.int .u8 (sAt [] 0)]] .full,.sl (xApp (qaf b) [[.int .u8 (sAt [] 0)]]) (.tok 0),.top],Store.mk [] [(nXs (xApp (qaf b) [[.int .u8 (sAt [] 0)]]),1,5)] [])) .fail) .fail) .fail) .fail)) .fail) .fail) (.ret (.exit 0,[9],[.str [],.top,.top,.top,.sl (qaf b) (.tok 0),.top,.top,.top,.str [],.bool false,.top,.top,.top,.top,.top,.top,.top,.top,.top,.top,.top,.top,.top,.top,.top,.top,.top,.top,.top,.top,.top,.top],Store.mk [] [(nLen b,1,5)] []))) (by kernel_rfl) ?_
        exact ⟨fun h => by simp at h, fun h => ⟨rfl, by simp [Weak, mk, qdn, look], rfl⟩⟩
      induction k with
      | zero =>
        intro b s hk hb hbs h
        have : s = [] := by apply List.eq_nil_of_length_eq_zero; omega
        subst this
        simp [decP] at h
        exact base b hb (by simpa using h)
      | succ k ih =>
        intro b s hk hb hbs h
        cases s with
        | nil =>
          simp [decP] at h
          exact base b hb (by simpa using h)
        | cons c t =>
          have e0 : sAt (c :: t) 0 = c.toNat := by simp
          have e1 : sSub (c :: t) (nNat 1) (nLen (c :: t)) = t := by simp
          have hc := c.toNat_lt
          have e7 := quJ t
          have e8 := quS t
          simp at hk hbs
          rw [decP, decL] at h
          refine LDoes.round qav hG qai (L := fun _ _ _ => .fail) (qae (by kernel_rfl)) (by kernel_rfl) ?_
          refine Tr.all_as (.ite (sNe (c :: t) []) (.ite (qbM (c :: t) 0) (.ite (qaC (qao 1) true (nNat 1) (nLen (c :: t)) (nLen (c :: t))) (.ite (iEq (sAt (c :: t) 0) 92) (.ite (iEq (escN (sSub (c :: t) (nNat 1) (nLen (c :: t)))) 0) (.ret (.ret,[3,2,22,15,9],[.str (sSub (c :: t) (nNat 1) (nLen (c :: t))),.top,.sl [] .full,.bool false,.sl (qaf b) (.tok 0),.int .u8 (sAt (c :: t) 0),.int .u8 (escB (sSub (c :: t) (nNat 1) (nLen (c :: t)))),.int .i64 (escN (sSub (c :: t) (nNat 1) (nLen (c :: t)))),.str (c :: t),.bool true,.str (c :: t),.int .u8 (sAt (c :: t) 0),.str (c :: t),.str (sSub (c :: t) (nNat 1) (nLen (c :: t))),.int .u8 (sAt (c :: t) 0),.bool true,.tup [.int .u8 (escB (sSub (c :: t) (nNat 1) (nLen (c :: t)))),.int .i64 (escN (sSub (c :: t) (nNat 1) (nLen (c :: t))))],.str (sSub (c :: t) (nNat 1) (nLen (c :: t))),.tup [.int .u8 (escB (sSub (c :: t) (nNat 1) (nLen (c :: t)))),.int .i64 (escN (sSub (c :: t) (nNat 1) (nLen (c :: t))))],.int .u8 (escB (sSub (c :: t) (nNat 1) (nLen (c :: t)))),.int .i64 (escN (sSub (c :: t) (nNat 1) (nLen (c :: t)))),.int .i64 (escN (sSub (c :: t) (nNat 1) (nLen (c :: t)))),.bool true,.top,.top,.top,.top,.top,.top,.top,.top,.top],Store.mk [] [(nLen b,1,5)] [])) (.ite (qaC (qao (escN (sSub (c :: t) (nNat 1) (nLen (c :: t))))) true (nNat (escN (sSub (c :: t) (nNat 1) (nLen (c :: t))))) (nLen (sSub (c :: t) (nNat 1) (nLen (c :: t)))) (nLen (sSub (c :: t) (nNat 1) (nLen (c :: t))))) (.ite (qbm (qaf b) [[.int .u8 (escB (sSub (c :: t) (nNat 1) (nLen (c ::
            t))))]] 1) (.ite (qbf [[.int .u8 (escB (sSub (c :: t) (nNat 1) (nLen (c :: t))))]] 1) (.ite (qaD (qaf b) 1) (.ite (nEq (nLen b) (nXs (qaf b))) (.ret (.normal,[29,22,15,9],[.str (sSub (sSub (c :: t) (nNat 1) (nLen (c :: t))) (nNat (escN (sSub (c :: t) (nNat 1) (nLen (c :: t))))) (nLen (sSub (c :: t) (nNat 1) (nLen (c :: t))))),.top,.top,.top,.sl (xApp (qaf b) [[.int .u8 (escB (sSub (c :: t) (nNat 1) (nLen (c :: t))))]]) (.tok 0),.int .u8 (escB (sSub (c :: t) (nNat 1) (nLen (c :: t)))),.int .u8 (escB (sSub (c :: t) (nNat 1) (nLen (c :: t)))),.int .i64 (escN (sSub (c :: t) (nNat 1) (nLen (c :: t)))),.str (c :: t),.bool true,.str (c :: t),.int .u8 (sAt (c :: t) 0),.str (c :: t),.str (sSub (c :: t) (nNat 1) (nLen (c :: t))),.int .u8 (sAt (c :: t) 0),.bool true,.tup [.int .u8 (escB (sSub (c :: t) (nNat 1) (nLen (c :: t)))),.int .i64 (escN (sSub (c :: t) (nNat 1) (nLen (c :: t))))],.str (sSub (c :: t) (nNat 1) (nLen (c :: t))),.tup [.int .u8 (escB (sSub (c :: t) (nNat 1) (nLen (c :: t)))),.int .i64 (escN (sSub (c :: t) (nNat 1) (nLen (c :: t))))],.int .u8 (escB (sSub (c :: t) (nNat 1) (nLen (c :: t)))),.int .i64 (escN (sSub (c :: t) (nNat 1) (nLen (c :: t)))),.int .i64 (escN (sSub (c :: t) (nNat 1) (nLen (c :: t)))),.bool false,.int .u8 (escB (sSub (c :: t) (nNat 1) (nLen (c :: t)))),.str (sSub (c :: t) (nNat 1) (nLen (c :: t))),.int .i64 (escN (sSub (c :: t) (nNat 1) (nLen (c :: t)))),.str (sSub (sSub (c :: t) (nNat 1) (nLen (c :: t))) (nNat (escN (sSub (c :: t)
            (nNat 1) (nLen (c :: t))))) (nLen (sSub (c :: t) (nNat 1) (nLen (c :: t))))),.sl (qaf b) (.tok 0),.int .u8 (escB (sSub (c :: t) (nNat 1) (nLen (c :: t)))),.sl [[.int .u8 (escB (sSub (c :: t) (nNat 1) (nLen (c :: t))))]] .full,.sl (xApp (qaf b) [[.int .u8 (escB (sSub (c :: t) (nNat 1) (nLen (c :: t))))]]) (.tok 0),.top],Store.mk [] [(nXs (xApp (qaf b) [[.int .u8 (escB (sSub (c :: t) (nNat 1) (nLen (c :: t))))]]),1,5)] [])) .fail) .fail) .fail) .fail) .fail)) (.ite (qbm (qaf b) [[.int .u8 (sAt (c :: t) 0)]] 1) (.ite (qbf [[.int .u8 (sAt (c :: t) 0)]] 1) (.ite (qaD (qaf b) 1) (.ite (nEq (nLen b) (nXs (qaf b))) (.ret (.normal,[29,15,9],[.str (sSub (c :: t) (nNat 1) (nLen (c :: t))),.top,.top,.top,.sl (xApp (qaf b) [[.int .u8 (sAt (c :: t) 0)]]) (.tok 0),.int .u8 (sAt (c :: t) 0),.top,.top,.str (c :: t),.bool true,.str (c :: t),.int .u8 (sAt (c :: t) 0),.str (c :: t),.str (sSub (c :: t) (nNat 1) (nLen (c :: t))),.int .u8 (sAt (c :: t) 0),.bool false,.top,.top,.top,.top,.top,.top,.top,.top,.top,.top,.top,.sl (qaf b) (.tok 0),.int .u8 (sAt (c :: t) 0),.sl [[.int .u8 (sAt (c :: t) 0)]] .full,.sl (xApp (qaf b) [[.int .u8 (sAt (c :: t) 0)]]) (.tok 0),.top],Store.mk [] [(nXs (xApp (qaf b) [[.int .u8 (sAt (c :: t) 0)]]),1,5)] [])) .fail) .fail) .fail) .fail)) .fail) .fail) (.ret (.exit 0,[9],[.str (c :: t),.top,.top,.top,.sl (qaf b) (.tok 0),.top,.top,.top,.str (c :: t),.bool
            false,.top,.top,.top,.top,.top,.top,.top,.top,.top,.top,.top,.top,.top,.top,.top,.top,.top,.top,.top,.top,.top,.top],Store.mk [] [(nLen b,1,5)] []))) (by kernel_rfl) ?_
          rw [e1, e0, qm6 b (n := (c.toNat : Int)) (by omega), qm6 b e8, Int.toNat_natCast, UInt8.ofNat_toNat]
          simp only [qhy]
          refine Tr.all_t (by simp) <| Tr.all_t (by simp) <| Tr.all_t (by simp) ?_
          by_cases h92 : c = 92
          · subst h92
            refine Tr.all_t (by simp) ?_
            by_cases hn : escN t = 0
            · simp [hn] at h
              obtain ⟨rfl, rfl, rfl⟩ := h
              exact Tr.all_t (by simp [hn]) ⟨rfl, by simp [Weak, mk, qdn, look], rfl⟩
            · refine Tr.all_f (by simp [hn]) <| Tr.all_t (by simp; omega) <| Tr.all_t (by simp; omega) <| Tr.all_t (by simp [one]) <| Tr.all_t (qhp _) <| Tr.all_t (by simp) ?_
              refine LDoes.into ?_ (ih (b ++ [UInt8.ofNat (escB t).toNat]) (t.drop (escN t).toNat) (by simp; omega) (by simp) (by simp; omega) ?_)
              · simp [Weak, mk, qdn, look]
              · simp [hn] at h
                rw [← h]
                cases hd : decP (t.drop (escN t).toNat) with
                | none => simp; omega
                | some x => simp
          · refine Tr.all_f (qnu (k := 92) h92) <| Tr.all_t (by simp; omega) <| Tr.all_t (by simp [one]) <| Tr.all_t (qhp _) <| Tr.all_t (by simp) ?_
            refine LDoes.into ?_ (ih (b ++ [c]) t (by omega) (by simp) (by simp; omega) ?_)
            · simp [Weak, mk, qdn, look]
            · simp [h92] at h
              rw [← h]
              cases hd : decP t with
              | none => simp; omega
              | some x => simp
    cases s with
    | nil =>
      simp [qnV, decV, decP] at hr
      obtain ⟨rfl, rfl, rfl⟩ := hr
      refine LDoes.round qav hG qai (L := fun _ _ _ => .fail) (qae (by kernel_rfl)) (by kernel_rfl) ?_
      refine Tr.all_as (.ite (sNe [] []) (.ite (qbM [] 0) (.ite (qaC (qao 1) true (nNat 1) (nLen []) (nLen [])) (.ite (iEq (sAt [] 0) 92) (.ite (iEq (escN (sSub [] (nNat 1) (nLen []))) 0) (.ret (.ret,[3,2,22,15,9],[.str (sSub [] (nNat 1) (nLen [])),.top,.sl [] .full,.bool false,.sl [] .full,.int .u8 (sAt [] 0),.int .u8 (escB (sSub [] (nNat 1) (nLen []))),.int .i64 (escN (sSub [] (nNat 1) (nLen []))),.str [],.bool true,.str [],.int .u8 (sAt [] 0),.str [],.str (sSub [] (nNat 1) (nLen [])),.int .u8 (sAt [] 0),.bool true,.tup [.int .u8 (escB (sSub [] (nNat 1) (nLen []))),.int .i64 (escN (sSub [] (nNat 1) (nLen [])))],.str (sSub [] (nNat 1) (nLen [])),.tup [.int .u8 (escB (sSub [] (nNat 1) (nLen []))),.int .i64 (escN (sSub [] (nNat 1) (nLen [])))],.int .u8 (escB (sSub [] (nNat 1) (nLen []))),.int .i64 (escN (sSub [] (nNat 1) (nLen []))),.int .i64 (escN (sSub [] (nNat 1) (nLen []))),.bool true,.top,.top,.top,.top,.top,.top,.top,.top,.top],Store.mk [] [] [])) (.ite (qaC (qao (escN (sSub [] (nNat 1) (nLen [])))) true (nNat (escN (sSub [] (nNat 1) (nLen [])))) (nLen (sSub [] (nNat 1) (nLen []))) (nLen (sSub [] (nNat 1) (nLen [])))) (.ite (qbm [] [[.int .u8 (escB (sSub [] (nNat 1) (nLen [])))]] 1) (.ite (qbf [[.int .u8 (escB (sSub [] (nNat 1) (nLen [])))]] 1) (.ite (qaD [] 1) (.ret (.normal,[29,22,15,9],[.str (sSub (sSub [] (nNat 1) (nLen [])) (nNat (escN (sSub [] (nNat 1) (nLen [])))) (nLen (sSub [] (nNat 1) (nLen [])))),.top,.top,.top,.sl (xApp [] [[.int .u8 (escB (sSub [] (nNat 1) (nLen
        [])))]]) (.tok 0),.int .u8 (escB (sSub [] (nNat 1) (nLen []))),.int .u8 (escB (sSub [] (nNat 1) (nLen []))),.int .i64 (escN (sSub [] (nNat 1) (nLen []))),.str [],.bool true,.str [],.int .u8 (sAt [] 0),.str [],.str (sSub [] (nNat 1) (nLen [])),.int .u8 (sAt [] 0),.bool true,.tup [.int .u8 (escB (sSub [] (nNat 1) (nLen []))),.int .i64 (escN (sSub [] (nNat 1) (nLen [])))],.str (sSub [] (nNat 1) (nLen [])),.tup [.int .u8 (escB (sSub [] (nNat 1) (nLen []))),.int .i64 (escN (sSub [] (nNat 1) (nLen [])))],.int .u8 (escB (sSub [] (nNat 1) (nLen []))),.int .i64 (escN (sSub [] (nNat 1) (nLen []))),.int .i64 (escN (sSub [] (nNat 1) (nLen []))),.bool false,.int .u8 (escB (sSub [] (nNat 1) (nLen []))),.str (sSub [] (nNat 1) (nLen [])),.int .i64 (escN (sSub [] (nNat 1) (nLen []))),.str (sSub (sSub [] (nNat 1) (nLen [])) (nNat (escN (sSub [] (nNat 1) (nLen [])))) (nLen (sSub [] (nNat 1) (nLen [])))),.sl [] .full,.int .u8 (escB (sSub [] (nNat 1) (nLen []))),.sl [[.int .u8 (escB (sSub [] (nNat 1) (nLen [])))]] .full,.sl (xApp [] [[.int .u8 (escB (sSub [] (nNat 1) (nLen [])))]]) (.tok 0),.top],Store.mk [] [(nXs (xApp [] [[.int .u8 (escB (sSub [] (nNat 1) (nLen [])))]]),1,5)] [])) .fail) .fail) .fail) .fail)) (.ite (qbm [] [[.int .u8 (sAt [] 0)]] 1) (.ite (qbf [[.int .u8 (sAt [] 0)]] 1) (.ite (qaD [] 1) (.ret (.normal,[29,15,9],[.str (sSub [] (nNat 1) (nLen [])),.top,.top,.top,.sl (xApp [] [[.int .u8 (sAt [] 0)]]) (.tok 0),.int .u8 (sAt [] 0),.top,.top,.str [],.bool true,.str [],.int
        .u8 (sAt [] 0),.str [],.str (sSub [] (nNat 1) (nLen [])),.int .u8 (sAt [] 0),.bool false,.top,.top,.top,.top,.top,.top,.top,.top,.top,.top,.top,.sl [] .full,.int .u8 (sAt [] 0),.sl [[.int .u8 (sAt [] 0)]] .full,.sl (xApp [] [[.int .u8 (sAt [] 0)]]) (.tok 0),.top],Store.mk [] [(nXs (xApp [] [[.int .u8 (sAt [] 0)]]),1,5)] [])) .fail) .fail) .fail)) .fail) .fail) (.ret (.exit 0,[9],[.str [],.top,.top,.top,.sl [] .full,.top,.top,.top,.str [],.bool false,.top,.top,.top,.top,.top,.top,.top,.top,.top,.top,.top,.top,.top,.top,.top,.top,.top,.top,.top,.top,.top,.top],Store.mk [] [] []))) (by kernel_rfl) ?_
      exact ⟨fun h => by simp at h, fun h => ⟨rfl, by simp [Weak, mk, qdn, look], rfl⟩⟩
    | cons c t =>
      have e0 : sAt (c :: t) 0 = c.toNat := by simp
      have e1 : sSub (c :: t) (nNat 1) (nLen (c :: t)) = t := by simp
      have hc := c.toNat_lt
      have e7 := quJ t
      have e8 := quS t
      simp at hlen
      simp only [qnV, decV, badL] at hr
      rw [decP, decL] at hr
      have x1 : xApp [] [[.int .u8 (c.toNat : Int)]] = qaf [c] := by simp [qaf]
      have x2 : xApp [] [[.int .u8 (escB t)]] = qaf [UInt8.ofNat (escB t).toNat] := qm6 [] e8
      refine LDoes.round qav hG qai (L := fun _ _ _ => .fail) (qae (by kernel_rfl)) (by kernel_rfl) ?_
      refine Tr.all_as (.ite (sNe (c :: t) []) (.ite (qbM (c :: t) 0) (.ite (qaC (qao 1) true (nNat 1) (nLen (c :: t)) (nLen (c :: t))) (.ite (iEq (sAt (c :: t) 0) 92) (.ite (iEq (escN (sSub (c :: t) (nNat 1) (nLen (c :: t)))) 0) (.ret (.ret,[3,2,22,15,9],[.str (sSub (c :: t) (nNat 1) (nLen (c :: t))),.top,.sl [] .full,.bool false,.sl [] .full,.int .u8 (sAt (c :: t) 0),.int .u8 (escB (sSub (c :: t) (nNat 1) (nLen (c :: t)))),.int .i64 (escN (sSub (c :: t) (nNat 1) (nLen (c :: t)))),.str (c :: t),.bool true,.str (c :: t),.int .u8 (sAt (c :: t) 0),.str (c :: t),.str (sSub (c :: t) (nNat 1) (nLen (c :: t))),.int .u8 (sAt (c :: t) 0),.bool true,.tup [.int .u8 (escB (sSub (c :: t) (nNat 1) (nLen (c :: t)))),.int .i64 (escN (sSub (c :: t) (nNat 1) (nLen (c :: t))))],.str (sSub (c :: t) (nNat 1) (nLen (c :: t))),.tup [.int .u8 (escB (sSub (c :: t) (nNat 1) (nLen (c :: t)))),.int .i64 (escN (sSub (c :: t) (nNat 1) (nLen (c :: t))))],.int .u8 (escB (sSub (c :: t) (nNat 1) (nLen (c :: t)))),.int .i64 (escN (sSub (c :: t) (nNat 1) (nLen (c :: t)))),.int .i64 (escN (sSub (c :: t) (nNat 1) (nLen (c :: t)))),.bool true,.top,.top,.top,.top,.top,.top,.top,.top,.top],Store.mk [] [] [])) (.ite (qaC (qao (escN (sSub (c :: t) (nNat 1) (nLen (c :: t))))) true (nNat (escN (sSub (c :: t) (nNat 1) (nLen (c :: t))))) (nLen (sSub (c :: t) (nNat 1) (nLen (c :: t)))) (nLen (sSub (c :: t) (nNat 1) (nLen (c :: t))))) (.ite (qbm [] [[.int .u8 (escB (sSub (c :: t) (nNat 1) (nLen (c :: t))))]] 1) (.ite (qbf [[.int
        .u8 (escB (sSub (c :: t) (nNat 1) (nLen (c :: t))))]] 1) (.ite (qaD [] 1) (.ret (.normal,[29,22,15,9],[.str (sSub (sSub (c :: t) (nNat 1) (nLen (c :: t))) (nNat (escN (sSub (c :: t) (nNat 1) (nLen (c :: t))))) (nLen (sSub (c :: t) (nNat 1) (nLen (c :: t))))),.top,.top,.top,.sl (xApp [] [[.int .u8 (escB (sSub (c :: t) (nNat 1) (nLen (c :: t))))]]) (.tok 0),.int .u8 (escB (sSub (c :: t) (nNat 1) (nLen (c :: t)))),.int .u8 (escB (sSub (c :: t) (nNat 1) (nLen (c :: t)))),.int .i64 (escN (sSub (c :: t) (nNat 1) (nLen (c :: t)))),.str (c :: t),.bool true,.str (c :: t),.int .u8 (sAt (c :: t) 0),.str (c :: t),.str (sSub (c :: t) (nNat 1) (nLen (c :: t))),.int .u8 (sAt (c :: t) 0),.bool true,.tup [.int .u8 (escB (sSub (c :: t) (nNat 1) (nLen (c :: t)))),.int .i64 (escN (sSub (c :: t) (nNat 1) (nLen (c :: t))))],.str (sSub (c :: t) (nNat 1) (nLen (c :: t))),.tup [.int .u8 (escB (sSub (c :: t) (nNat 1) (nLen (c :: t)))),.int .i64 (escN (sSub (c :: t) (nNat 1) (nLen (c :: t))))],.int .u8 (escB (sSub (c :: t) (nNat 1) (nLen (c :: t)))),.int .i64 (escN (sSub (c :: t) (nNat 1) (nLen (c :: t)))),.int .i64 (escN (sSub (c :: t) (nNat 1) (nLen (c :: t)))),.bool false,.int .u8 (escB (sSub (c :: t) (nNat 1) (nLen (c :: t)))),.str (sSub (c :: t) (nNat 1) (nLen (c :: t))),.int .i64 (escN (sSub (c :: t) (nNat 1) (nLen (c :: t)))),.str (sSub (sSub (c :: t) (nNat 1) (nLen (c :: t))) (nNat (escN (sSub (c :: t) (nNat 1) (nLen (c :: t))))) (nLen (sSub (c :: t) (nNat 1) (nLen (c :: t))))),.sl []
        .full,.int .u8 (escB (sSub (c :: t) (nNat 1) (nLen (c :: t)))),.sl [[.int .u8 (escB (sSub (c :: t) (nNat 1) (nLen (c :: t))))]] .full,.sl (xApp [] [[.int .u8 (escB (sSub (c :: t) (nNat 1) (nLen (c :: t))))]]) (.tok 0),.top],Store.mk [] [(nXs (xApp [] [[.int .u8 (escB (sSub (c :: t) (nNat 1) (nLen (c :: t))))]]),1,5)] [])) .fail) .fail) .fail) .fail)) (.ite (qbm [] [[.int .u8 (sAt (c :: t) 0)]] 1) (.ite (qbf [[.int .u8 (sAt (c :: t) 0)]] 1) (.ite (qaD [] 1) (.ret (.normal,[29,15,9],[.str (sSub (c :: t) (nNat 1) (nLen (c :: t))),.top,.top,.top,.sl (xApp [] [[.int .u8 (sAt (c :: t) 0)]]) (.tok 0),.int .u8 (sAt (c :: t) 0),.top,.top,.str (c :: t),.bool true,.str (c :: t),.int .u8 (sAt (c :: t) 0),.str (c :: t),.str (sSub (c :: t) (nNat 1) (nLen (c :: t))),.int .u8 (sAt (c :: t) 0),.bool false,.top,.top,.top,.top,.top,.top,.top,.top,.top,.top,.top,.sl [] .full,.int .u8 (sAt (c :: t) 0),.sl [[.int .u8 (sAt (c :: t) 0)]] .full,.sl (xApp [] [[.int .u8 (sAt (c :: t) 0)]]) (.tok 0),.top],Store.mk [] [(nXs (xApp [] [[.int .u8 (sAt (c :: t) 0)]]),1,5)] [])) .fail) .fail) .fail)) .fail) .fail) (.ret (.exit 0,[9],[.str (c :: t),.top,.top,.top,.sl [] .full,.top,.top,.top,.str (c :: t),.bool false,.top,.top,.top,.top,.top,.top,.top,.top,.top,.top,.top,.top,.top,.top,.top,.top,.top,.top,.top,.top,.top,.top],Store.mk [] [] []))) (by kernel_rfl) ?_
      rw [e1, e0, x1, x2]
      simp only [qhy]
      refine Tr.all_t (by simp) <| Tr.all_t (by simp) <| Tr.all_t (by simp) ?_
      by_cases h92 : c = 92
      · subst h92
        refine Tr.all_t (by simp) ?_
        by_cases hn : escN t = 0
        · simp [hn] at hr
          obtain ⟨rfl, rfl, rfl⟩ := hr
          exact Tr.all_t (by simp [hn]) ⟨rfl, by simp [Weak, mk, qdn, look], rfl⟩
        · refine Tr.all_f (by simp [hn]) <| Tr.all_t (by simp; omega) <| Tr.all_t (by simp) <| Tr.all_t (by simp [one]) <| Tr.all_t (by simp) ?_
          refine LDoes.into ?_ (key t.length ([UInt8.ofNat (escB t).toNat]) (t.drop (escN t).toNat) (by simp) (by simp) (by simp; omega) ?_)
          · simp [Weak, mk, qdn, look]
          · cases hd : decP (t.drop (escN t).toNat) with
            | none =>
              simp [hn, hd] at hr ⊢
              rw [Nat.add_comm]
              exact hr
            | some x =>
              simp [hn, hd] at hr ⊢
              exact hr
      · refine Tr.all_f (qnu (k := 92) h92) <| Tr.all_t (by simp) <| Tr.all_t (by simp [one]) <| Tr.all_t (by simp) ?_
        refine LDoes.into ?_ (key t.length [c] t (by omega) (by simp) (by simp; omega) ?_)
        · simp [Weak, mk, qdn, look]
        · cases hd : decP t with
          | none =>
            simp [h92, hd] at hr ⊢
            rw [Nat.add_comm]
            exact hr
          | some x =>
            simp [h92, hd] at hr ⊢
            exact hr
  · cases hd
theorem qwh (gl:Gl):SimP Tryz.prog gl 175 fun args=>(qq3 args).run:=by
 refine SimP.of_tree (G:=ofL [(178,.pure qlH)]) (L:=qvg) qav (qad (qpn gl) qag) qai Tryz.func175 rfl (by rfl) (by kernel_rfl) (qkG (r:=2) (c1:=qlC) (by kernel_rfl) ?_) ?_
 ·intro fr σ e fr' σ' hh;simp only [lps,qvg,if_true] at hh;exact qnR (qsL gl) fr σ e fr' σ' hh
 intro args x h hr;unfold qq3 at h
 split at h
 ·rename_i s;obtain⟨h1,h2⟩:=Tr.chk_some h;refine Tr.run_as (.ite (qoF s) (.ite (qnV s) (.ite (sEq (decV s) []) (.ret (.tup [.sl [] .non,.bool true])) (.ret (.tup [.sl (qcj (qaf (decV s))) .non,.bool true]))) (.ite (nEq (badL s) 0) (.ret (.tup [.sl [] .non,.bool false])) (.ret (.tup [.sl [] .non,.bool false])))) .fail) (by kernel_rfl) ?_
  by_cases hd:qnV s=true
  ·by_cases he:decV s=[]
   ·simp [hd,he] at h2 ⊢;simp at h1;exact⟨h1,h2⟩
   ·simp [hd,he] at h2 ⊢;simp at h1;exact⟨h1,h2⟩
  ·by_cases he:badL s=0
   ·simp [hd,he] at h2 ⊢;simp at h1;exact⟨h1,h2⟩
   ·simp [hd,he] at h2 ⊢;simp at h1;exact⟨h1,h2⟩
 ·cases h
end Go.Pv
set_option maxHeartbeats 4000000
set_option maxRecDepth 200000
set_option linter.unusedSimpArgs false
set_option linter.unusedVariables false
namespace Go.Pv
open Go Go.Proofs Go.RowKit
def rdV (s:qU):Option (Int×Int×List UInt8) :=
 if qdd s [34]=true∧qmt s [34]=true∧2≤s.length then
  match decP ((s.take (s.length - 1)).drop 1) with
  |some b=>if qbG 2 0 b=0∧qdv 2 0 b=s then some (2,0,b) else none
  |none=>none
 else if pOk s then (if qbG 1 (pVal s) []=0∧qdv 1 (pVal s) []=s then some (1,pVal s,[]) else none) else none
def kRd (s:qU):Int:=match rdV s with|some v=>v.1|none=>0
def nRd (s:qU):Int:=match rdV s with|some v=>v.2.1|none=>0
def sRd (s:qU):List UInt8:=match rdV s with|some v=>v.2.2|none=>[]
def eRd (s:qU):Int:=match rdV s with|some _=>0|none=>10
def qyl:List PV→Tr PV
 |[.str s]=>Tr.chk (qoF s) (.ret (.tup [.agg [.int .i64 (kRd s),.int .i64 (nRd s),.str (sRd s)],.int .i64 (eRd s)]))
 |_=>.fail
theorem qBQ {gl : Gl} (hgl : GlOk gl) : SimP Tryz.prog gl 169 fun args => (qyl args).run := by
  refine SimP.of_tree (G := ofL [(160, .pure qlP), (174, .pure qrp), (175, .pure qq3), (176, .pure qkk), (75, .pure qu7)]) (L := fun _ _ _ => .fail) qav (qad (qoM gl) (qad (qwi gl) (qad (qwh gl) (qad (qsu hgl) (qad (qvD hgl.toGlPow) qag))))) qai Tryz.func169 rfl (by rfl) (by kernel_rfl) (qae (by kernel_rfl)) ?_
  intro args x h hr
  unfold qyl at h
  split at h
  · rename_i s
    obtain ⟨h1, h2⟩ := Tr.chk_some h
    refine Tr.run_as (.ite (qdd s [34]) (.ite (qmt s [34]) (.ite (iLe 2 (sLen s)) (.ite (qaC (qao 1) (qao (iSub .i64 (sLen s) 1)) (nNat 1) (nNat (iSub .i64 (sLen s) 1)) (nLen s)) (.ite (qoF (sSub s (nNat 1) (nNat (iSub .i64 (sLen s) 1)))) (.ite (qnV (sSub s (nNat 1) (nNat (iSub .i64 (sLen s) 1)))) (.ite false (.ret (.tup [.agg [.int .i64 0,.int .i64 0,.str []],.int .i64 10])) (.ite (qet (qaf (decV (sSub s (nNat 1) (nNat (iSub .i64 (sLen s) 1)))))) (.ite (iNe (qbG 2 0 (qc2 (qaf (decV (sSub s (nNat 1) (nNat (iSub .i64 (sLen s) 1))))))) 0) (.ret (.tup [.agg [.int .i64 0,.int .i64 0,.str []],.int .i64 10])) (.ite (sNe (qdv 2 0 (qc2 (qaf (decV (sSub s (nNat 1) (nNat (iSub .i64 (sLen s) 1))))))) s) (.ret (.tup [.agg [.int .i64 0,.int .i64 0,.str []],.int .i64 10])) (.ret (.tup [.agg [.int .i64 2,.int .i64 0,.str (qc2 (qaf (decV (sSub s (nNat 1) (nNat (iSub .i64 (sLen s) 1))))))],.int .i64 0])))) .fail)) (.ite true (.ret (.tup [.agg [.int .i64 0,.int .i64 0,.str []],.int .i64 10])) (.ite (qet []) (.ite (iNe (qbG 2 0 (qc2 [])) 0) (.ret (.tup [.agg [.int .i64 0,.int .i64 0,.str []],.int .i64 10])) (.ite (sNe (qdv 2 0 (qc2 [])) s) (.ret (.tup [.agg [.int .i64 0,.int .i64 0,.str []],.int .i64 10])) (.ret (.tup [.agg [.int .i64 2,.int .i64 0,.str (qc2 [])],.int .i64 0])))) .fail))) .fail) .fail) (.ite (iEq 10 10) (.ite (iEq 64 64) (.ite (qfj s) (.ite (pOk s) (.ite false (.ret (.tup [.agg [.int .i64 0,.int .i64 0,.str []],.int .i64
      10])) (.ite (iNe (qbG 1 (pVal s) []) 0) (.ret (.tup [.agg [.int .i64 0,.int .i64 0,.str []],.int .i64 10])) (.ite (sNe (qdv 1 (pVal s) []) s) (.ret (.tup [.agg [.int .i64 0,.int .i64 0,.str []],.int .i64 10])) (.ret (.tup [.agg [.int .i64 1,.int .i64 (pVal s),.str []],.int .i64 0]))))) (.ite true (.ret (.tup [.agg [.int .i64 0,.int .i64 0,.str []],.int .i64 10])) (.ite (iNe (qbG 1 (pVal s) []) 0) (.ret (.tup [.agg [.int .i64 0,.int .i64 0,.str []],.int .i64 10])) (.ite (sNe (qdv 1 (pVal s) []) s) (.ret (.tup [.agg [.int .i64 0,.int .i64 0,.str []],.int .i64 10])) (.ret (.tup [.agg [.int .i64 1,.int .i64 (pVal s),.str []],.int .i64 0])))))) .fail) .fail) .fail)) (.ite (iEq 10 10) (.ite (iEq 64 64) (.ite (qfj s) (.ite (pOk s) (.ite false (.ret (.tup [.agg [.int .i64 0,.int .i64 0,.str []],.int .i64 10])) (.ite (iNe (qbG 1 (pVal s) []) 0) (.ret (.tup [.agg [.int .i64 0,.int .i64 0,.str []],.int .i64 10])) (.ite (sNe (qdv 1 (pVal s) []) s) (.ret (.tup [.agg [.int .i64 0,.int .i64 0,.str []],.int .i64 10])) (.ret (.tup [.agg [.int .i64 1,.int .i64 (pVal s),.str []],.int .i64 0]))))) (.ite true (.ret (.tup [.agg [.int .i64 0,.int .i64 0,.str []],.int .i64 10])) (.ite (iNe (qbG 1 (pVal s) []) 0) (.ret (.tup [.agg [.int .i64 0,.int .i64 0,.str []],.int .i64 10])) (.ite (sNe (qdv 1 (pVal s) []) s) (.ret (.tup [.agg [.int .i64 0,.int .i64 0,.str []],.int .i64 10])) (.ret (.tup [.agg [.int .i64 1,.int .i64 (pVal s),.str []],.int .i64 0])))))) .fail) .fail)
      .fail)) (.ite (iEq 10 10) (.ite (iEq 64 64) (.ite (qfj s) (.ite (pOk s) (.ite false (.ret (.tup [.agg [.int .i64 0,.int .i64 0,.str []],.int .i64 10])) (.ite (iNe (qbG 1 (pVal s) []) 0) (.ret (.tup [.agg [.int .i64 0,.int .i64 0,.str []],.int .i64 10])) (.ite (sNe (qdv 1 (pVal s) []) s) (.ret (.tup [.agg [.int .i64 0,.int .i64 0,.str []],.int .i64 10])) (.ret (.tup [.agg [.int .i64 1,.int .i64 (pVal s),.str []],.int .i64 0]))))) (.ite true (.ret (.tup [.agg [.int .i64 0,.int .i64 0,.str []],.int .i64 10])) (.ite (iNe (qbG 1 (pVal s) []) 0) (.ret (.tup [.agg [.int .i64 0,.int .i64 0,.str []],.int .i64 10])) (.ite (sNe (qdv 1 (pVal s) []) s) (.ret (.tup [.agg [.int .i64 0,.int .i64 0,.str []],.int .i64 10])) (.ret (.tup [.agg [.int .i64 1,.int .i64 (pVal s),.str []],.int .i64 0])))))) .fail) .fail) .fail)) (by kernel_rfl) ?_
    have hl : s.length ≤ 140737488355328 := by simpa using h1
    cases h2
    have h48 : qfj s = true := by simp [qfj]; omega
    have int : (Tr.ite (iEq 10 10) (Tr.ite (iEq 64 64) (Tr.ite (qfj s) (Tr.ite (pOk s)
              (Tr.ite false (Tr.ret (PV.tup [PV.agg [PV.int IntKind.i64 0, PV.int IntKind.i64 0, PV.str []], PV.int IntKind.i64 10]))
                (Tr.ite (iNe (qbG 1 (pVal s) []) 0) (Tr.ret (PV.tup [PV.agg [PV.int IntKind.i64 0, PV.int IntKind.i64 0, PV.str []], PV.int IntKind.i64 10]))
                  (Tr.ite (sNe (qdv 1 (pVal s) []) s) (Tr.ret (PV.tup [PV.agg [PV.int IntKind.i64 0, PV.int IntKind.i64 0, PV.str []], PV.int IntKind.i64 10]))
                    (Tr.ret (PV.tup [PV.agg [PV.int IntKind.i64 1, PV.int IntKind.i64 (pVal s), PV.str []], PV.int IntKind.i64 0])))))
              (Tr.ite true (Tr.ret (PV.tup [PV.agg [PV.int IntKind.i64 0, PV.int IntKind.i64 0, PV.str []], PV.int IntKind.i64 10]))
                (Tr.ite (iNe (qbG 1 (pVal s) []) 0) (Tr.ret (PV.tup [PV.agg [PV.int IntKind.i64 0, PV.int IntKind.i64 0, PV.str []], PV.int IntKind.i64 10]))
                  (Tr.ite (sNe (qdv 1 (pVal s) []) s) (Tr.ret (PV.tup [PV.agg [PV.int IntKind.i64 0, PV.int IntKind.i64 0, PV.str []], PV.int IntKind.i64 10]))
                    (Tr.ret (PV.tup [PV.agg [PV.int IntKind.i64 1, PV.int IntKind.i64 (pVal s), PV.str []], PV.int IntKind.i64 0])))))) Tr.fail) Tr.fail) Tr.fail).run =
        some (if pOk s then (if qbG 1 (pVal s) [] = 0 ∧ qdv 1 (pVal s) [] = s then .tup [.agg [.int .i64 1, .int .i64 (pVal s), .str []], .int .i64 0] else .tup [.agg [.int .i64 0, .int .i64 0, .str []], .int .i64 10]) else .tup [.agg [.int .i64 0, .int .i64 0, .str []], .int .i64 10]) := by
      cases hp : pOk s with
      | false => simp [h48]
      | true =>
        by_cases hc : qbG 1 (pVal s) [] = 0 <;> by_cases ht : qdv 1 (pVal s) [] = s <;> simp [h48, hc, ht]
    have fin : ∀ o : Option (Int × Int × List UInt8), rdV s = o → PV.tup [.agg [.int .i64 (kRd s), .int .i64 (nRd s), .str (sRd s)], .int .i64 (eRd s)] = match o with | some v => .tup [.agg [.int .i64 v.1, .int .i64 v.2.1, .str v.2.2], .int .i64 0] | none => .tup [.agg [.int .i64 0, .int .i64 0, .str []], .int .i64 10] := by
      intro o ho
      unfold kRd nRd sRd eRd
      rw [ho]
      cases o <;> rfl
    by_cases hq : qdd s [34] = true ∧ qmt s [34] = true ∧ 2 ≤ s.length
    · obtain ⟨p1, p2, p3⟩ := hq
      have e1 : sSub s (nNat 1) (nNat (iSub .i64 (sLen s) 1)) = (s.take (s.length - 1)).drop 1 := by
        have : iSub .i64 (sLen s) 1 = s.length - 1 := by unfold iSub; rw [qnq, qdF (by omega)]
        rw [this]
        simp
        try (congr 2; omega)
      have e2 : qaC (qao 1) (qao (iSub .i64 (sLen s) 1)) (nNat 1) (nNat (iSub .i64 (sLen s) 1)) (nLen s) = true := by
        have : iSub .i64 (sLen s) 1 = s.length - 1 := by unfold iSub; rw [qnq, qdF (by omega)]
        rw [this]
        simp
        omega
      have e3 : iLe 2 (sLen s) = true := by simp; omega
      rw [e1, p1, p2, e2, e3]
      have e4 : qoF ((s.take (s.length - 1)).drop 1) = true := by simp; omega
      generalize hm : (s.take (s.length - 1)).drop 1 = m at *
      rw [e4]
      cases hd : decP m with
      | none =>
        have h5 : qnV m = false := by simp [qnV, hd]
        have := fin none (by unfold rdV; rw [if_pos ⟨p1, p2, p3⟩, hm, hd])
        rw [this]
        simp [h5]
      | some b =>
        have h5 : qnV m = true := by simp [qnV, hd]
        have h6 : decV m = b := by simp [decV, hd]
        rw [h6]
        by_cases hc : qbG 2 0 b = 0 ∧ qdv 2 0 b = s
        · have := fin (some (2, 0, b)) (by unfold rdV; rw [if_pos ⟨p1, p2, p3⟩, hm, hd]; simp only []; rw [if_pos hc])
          rw [this]
          simp [h5, hc]
        · have := fin none (by unfold rdV; rw [if_pos ⟨p1, p2, p3⟩, hm, hd]; simp only []; rw [if_neg hc])
          rw [this]
          by_cases hc1 : qbG 2 0 b = 0
          · have hc2 : ¬ qdv 2 0 b = s := fun h => hc ⟨hc1, h⟩
            simp [h5, hc1, hc2]
          · simp [h5, hc1]
    · have e9 : rdV s = if pOk s then (if qbG 1 (pVal s) [] = 0 ∧ qdv 1 (pVal s) [] = s then some (1, pVal s, []) else none) else none := by
        unfold rdV
        rw [if_neg hq]
      have e8 : PV.tup [.agg [.int .i64 (kRd s), .int .i64 (nRd s), .str (sRd s)], .int .i64 (eRd s)] = (if pOk s then (if qbG 1 (pVal s) [] = 0 ∧ qdv 1 (pVal s) [] = s then .tup [.agg [.int .i64 1, .int .i64 (pVal s), .str []], .int .i64 0] else .tup [.agg [.int .i64 0, .int .i64 0, .str []], .int .i64 10]) else .tup [.agg [.int .i64 0, .int .i64 0, .str []], .int .i64 10]) := by
        rw [fin _ e9]
        by_cases c1 : pOk s = true
        · by_cases c2 : qbG 1 (pVal s) [] = 0 ∧ qdv 1 (pVal s) [] = s
          · simp only [c1, if_true, if_pos c2]
          · simp only [c1, if_true, if_neg c2]
        · simp only [if_neg c1]
      rw [e8, ← int]
      cases p1 : qdd s [34] with
      | false => simp
      | true =>
        cases p2 : qmt s [34] with
        | false => simp
        | true =>
          have e3 : iLe 2 (sLen s) = false := by simp; have : ¬ 2 ≤ s.length := fun h => hq ⟨p1, p2, h⟩; omega
          rw [e3]
          simp
  · cases h
end Go.Pv
set_option linter.unusedSimpArgs false
set_option linter.unusedVariables false
namespace Go.Pv
open Go.RowKit Tr
def xInt (xs:qR) (i j:Nat):Int:=match (xs.getD i []).getD j .top with|.int _ n=>n|_=>0
def qfu (xs:qR) (i j:Nat):Bool:=match (xs.getD i []).getD j .top with|.bool b=>b|_=>false
def xStr (xs:qR) (i j:Nat):List UInt8:=match (xs.getD i []).getD j .top with|.str l=>l|_=>[]
def xRow (xs:qR) (i j:Nat):List (List PV):=match (xs.getD i []).getD j .top with|.sl l _=>l|_=>[]
def xPV (xs:qR) (i j:Nat):PV:=(xs.getD i []).getD j .top
def selC (c:PV) (xs:qR) (i j:Nat):PV:=match c with
 |.int k _=>.int k (xInt xs i j)
 |.bool _=>.bool (qfu xs i j)
 |.str _=>.str (xStr xs i j)
 |.sl _ _=>.sl (xRow xs i j) .non
 |_=>xPV xs i j
def selF:List PV→qR→Nat→Nat→List PV
 |[],_,_,_=>[]
 |c::z,xs,i,j=>selC c xs i j::selF z xs i (j+1)
open Classical in
def qbx (z:List PV) (xs:qR) (i:Nat):Bool:=decide (xs[i]?=some (selF z xs i 0))
def Tr.flat {α:Type}:Tr α→Tr α
 |.ret a=>.ret a
 |.fail=>.fail
 |.ite b x y=>.ite b x.flat y.flat
 |.get xs i z k=>.ite (qbx z xs i) (k (selF z xs i 0)).flat .fail
theorem Tr.flat_run {α:Type} {r:α}:∀ {t:Tr α},t.flat.run=some r→t.run=some r
 |.ret a,h=>h
 |.fail,h=>h
 |.ite b x y,h=>by
  cases b with
  |true=>simp only [Tr.flat,Tr.run_ite,if_true] at h ⊢;exact Tr.flat_run h
  |false=>simp only [Tr.flat,Tr.run_ite,Bool.false_eq_true,if_false] at h ⊢;exact Tr.flat_run h
 |.get xs i z k,h=>by
  simp only [Tr.flat,Tr.run_ite] at h
  split at h
  ·rename_i hg;have hg:xs[i]?=some (selF z xs i 0):=by simpa [qbx] using hg
   simp only [Tr.run_get,hg];exact Tr.flat_run h
  ·cases h
def qdV (m:Nat) (σ:Store):Store:=⟨σ.objs.map (qb8 m),σ.toks.take m,σ.tys⟩
theorem qkl (m:Nat):∀ (xs:List PV),(qb8 m xs).length=xs.length
 |[]=>rfl
 |x::xs=>by simp [qb8,qkl m xs]
theorem qoe (m:Nat):∀ (xs:qR),(qcT m xs).length=xs.length
 |[]=>rfl
 |x::xs=>by simp [qcT,qoe m xs]
mutual
theorem qpb (m:Nat):∀ {x:PV},lock x=x→dropT m x=x
 |.top,_=>rfl
 |.bool _,_=>rfl
 |.int _ _,_=>rfl
 |.str _,_=>rfl
 |.nilp,_=>rfl
 |.ptr _ _,h=>by simp [lock] at h
 |.ref cs,h=>by simp only [lock,PV.ref.injEq] at h;simp only [dropT];rw [qdB m h]
 |.sl xs t,h=>by simp only [lock,PV.sl.injEq] at h;simp only [dropT];rw [qeW m h.1,← h.2];rfl
 |.osl _ _ _ _,h=>by simp [lock] at h
 |.fn f caps,h=>by simp only [lock,PV.fn.injEq] at h;simp only [dropT];rw [qdB m h.2]
 |.nilf,_=>rfl
 |.iface t v,h=>by simp only [lock,PV.iface.injEq] at h;simp only [dropT];rw [qpb m h.2]
 |.nili,_=>rfl
 |.agg cs,h=>by simp only [lock,PV.agg.injEq] at h;simp only [dropT];rw [qdB m h]
 |.tup cs,h=>by simp only [lock,PV.tup.injEq] at h;simp only [dropT];rw [qdB m h]
theorem qdB (m:Nat):∀ {x:List PV},qem x=x→qb8 m x=x
 |[],_=>rfl
 |x::xs,h=>by simp only [qem,List.cons.injEq] at h;simp only [qb8];rw [qpb m h.1,qdB m h.2]
theorem qeW (m:Nat):∀ {x:List (List PV)},qaa x=x→qcT m x=x
 |[],_=>rfl
 |x::xs,h=>by simp only [qaa,List.cons.injEq] at h;simp only [qcT];rw [qdB m h.1,qeW m h.2]
end
@[simp] theorem dropTLL_bytes (m:Nat) (l:qU):qcT m (qaf l)=qaf l:=qeW m (qsj l)
@[simp] theorem dropTLL_rOf {α:Type} (C:Cod α) (m:Nat) (l:List α):qcT m (rOf C l)=rOf C l:=qeW m (qaw C l)
def Gh.trim (H:Gh) (m:Nat):Gh:={ H with tk:=H.tk.take m }
section
variable {H : Gh} {w : World} {m : Nat}
theorem qhe {b off:Nat} (h:H.prot w b off):(H.trim m).prot w b off:=⟨h.1,h.2.1,h.2.2.1,fun T hT=>h.2.2.2 T (List.mem_of_mem_take hT)⟩
theorem qv3 {b off:Nat} (h:H.prot2 w b off):(H.trim m).prot2 w b off:=h.elim (fun h=>.inl (qhe h)) .inr
theorem qBT {p:Option Addr} {len cap k:Nat} {t:Tag} (h:TagOk H p len cap k t):TagOk (H.trim m) p len cap k (qud m t):=by
 cases t with
 |non=>trivial
 |full=>exact h
 |nil=>exact h
 |own=>exact h
 |tok t =>
  simp only [qud];cases hm:decide (t < m) with
  |false=>trivial
  |true =>
   obtain⟨T,e,l,q⟩:=h;exact⟨T,by simp only [Gh.trim];rw [List.getElem?_take,if_pos (by simpa using hm)];exact e,l,q⟩
mutual
theorem qut:∀ {x:PV} {v:Value},Rel H w x v→Rel (H.trim m) w (dropT m x) v
 |_,_,.top v=>by simp only [dropT];exact .top v
 |_,_,.bool b=>by simp only [dropT];exact .bool b
 |_,_,.int k m h=>by simp only [dropT];exact .int k m h
 |_,_,.str l h=>by simp only [dropT];exact .str l h
 |_,_,.nilp=>by simp only [dropT];exact .nilp
 |_,_,.ptr id off b h=>by simp only [dropT];exact .ptr id off b h
 |_,_,.ref a cs vs h hc=>by simp only [dropT];exact .ref a _ vs (qdg h) (fun j v e=>⟨qv3 (hc j v e).1,(hc j v e).2⟩)
 |_,_,.osl id off off' len cap k b h ho hcap hm=>by simp only [dropT];exact .osl id off off' len cap k b h ho hcap hm
 |_,_,.sl p len cap k xs vss t hl hcap hm h hr ht=>by
  simp only [dropT];exact .sl p len cap k _ vss _ (by rw [← hl];exact qoe _ xs) hcap hm (qoU h) (fun i vs e=>⟨(hr i vs e).1,by
   obtain⟨_,a,ha,hc⟩:=hr i vs e;exact⟨a,ha,fun j v e=>⟨qhe (hc j v e).1,(hc j v e).2⟩⟩⟩) (qBT ht)
 |_,_,.fn f caps vs h=>by simp only [dropT];exact .fn f _ vs (qdg h)
 |_,_,.yld t T h hk=>by
  simp only [dropT];cases hm:decide (t < m) with
  |false=>exact .top _
  |true=>exact .yld t T (by simp only [Gh.trim];rw [List.getElem?_take,if_pos (by simpa using hm)];exact h) hk
 |_,_,.nilf=>by simp only [dropT];exact .nilf
 |_,_,.iface t x v h=>by simp only [dropT];exact .iface t _ v (qut h)
 |_,_,.nili=>by simp only [dropT];exact .nili
 |_,_,.agg cs vs h=>by simp only [dropT];exact .agg _ vs (qdg h)
 |_,_,.tup cs vs h=>by simp only [dropT];exact .tup _ vs (qdg h)
theorem qdg:∀ {x:List PV} {v:List Value},RelL H w x v→RelL (H.trim m) w (qb8 m x) v
 |_,_,.nil=>by simp only [qb8];exact .nil
 |_,_,.cons x v xs vs h ht=>by simp only [qb8];exact .cons _ v _ vs (qut h) (qdg ht)
theorem qoU:∀ {x:List (List PV)} {v:List (List Value)},RelLL H w x v→RelLL (H.trim m) w (qcT m x) v
 |_,_,.nil=>by simp only [qcT];exact .nil
 |_,_,.cons x v xs vs h ht=>by simp only [qcT];exact .cons _ v _ vs (qdg h) (qoU ht)
end
theorem qtU {gl:Gl} {σ:Store} (h:Ok gl H σ w):Ok gl (H.trim m) (qdV m σ) w where
 B:=h.B
 gl:=h.gl
 len:=by simp [Gh.trim,qdV,h.len]
 obj:=fun id b cs e1 e2=>by
  simp only [qdV,List.getElem?_map] at e2;obtain⟨c0,hc0,rfl⟩:=Option.map_eq_some_iff.1 e2;obtain⟨hB,vs,ext,T,he,hr⟩:=h.obj id b c0 e1 hc0;exact⟨hB,vs,ext,T,he,qdg hr⟩
 nd:=h.nd
 tkl:=by
  have:=h.tkl;simp only [Gh.trim,qdV,List.map_take,← this]
 tok:=fun t T e hvv=>by
  obtain⟨hlt,e⟩:=qcQ e;obtain⟨hB,ho,o,he,hr⟩:=h.tok t T e hvv;refine⟨hB,ho,o,he,?_⟩;rcases hr with hr|⟨h1,h2,r,h3,h4,h5,h6,h7⟩
  ·exact .inl hr
  ·refine .inr ⟨h1,h2,r,h3,?_,h5,h6,h7⟩;have:=qdg (m:=m) h4
   rwa [h7 m (by omega)] at this
 tnd:=fun t u T U e1 e2=>h.tnd t u T U (qcQ e1).2 (qcQ e2).2
 tyl:=by simp [qdV,h.tyl]
 ty:=fun id b T cs e1 e2 e3 hT=>by
  simp only [qdV,List.getElem?_map] at e2 e3;obtain⟨c0,hc0,rfl⟩:=Option.map_eq_some_iff.1 e3;obtain⟨us,he,hs⟩:=h.ty id b T c0 e1 e2 hc0 hT;exact⟨us,he,by rw [hs,qkl]⟩
end
section
variable {P : Program} {gl : Gl} {c : Code} {fr fr' : List PV} {σ σ' : Store} {e : PExit} {m : Nat}
theorem qEA {H0:Gh} {w0:World} {a:Act} {w:World} (hn:H0.tk.length≤m) (h:St gl H0 w0 fr σ a w):St gl H0 w0 (qb8 m fr) (qdV m σ) a w:=by
 obtain⟨H,hev,hok,hfr,hd⟩:=h;refine⟨H.trim m,⟨hev.B,hev.base,hev.aux,hev.K,hev.os,hev.tape,hev.output,hev.size,hev.ob,fun t T ht=>?_,fun b off hp=>⟨qhe (hev.prot b off hp).1,(hev.prot b off hp).2⟩,hev.block,hev.dr,hev.fix,fun t T e hk=>hev.old t T (qcQ e).2 hk⟩,qtU hok,qdg hfr,hd⟩
 obtain⟨T',h1,h2⟩:=hev.tok t T ht;refine⟨T',?_,h2⟩;simp only [Gh.trim];rw [List.getElem?_take,if_pos (Nat.lt_of_lt_of_le (List.getElem?_eq_some_iff.1 ht).1 hn)];exact h1
theorem Does.trim (hn:σ.toks.length≤m) (h:Does P gl c fr σ e fr' σ'):Does P gl c fr σ e (qb8 m fr') (qdV m σ'):=by
 intro r n' H0 w0 hR Q a w hst hq;obtain⟨H,hev,hok,hfr,hd⟩:=hst;refine h r n' H w (hR.ev hev) Q a w ⟨H,Ev.refl H w,hok,hfr,hd⟩ fun a' w' hst'=>hq a' w' ?_
 have hl:H.tk.length≤m:=by
  have:=congrArg List.length hok.tkl;simp at this;omega
 obtain⟨H',hev',hok',hfr',hd'⟩:=qEA (m:=m) hl hst';exact⟨H',hev.trans hev',hok',hfr',hd'⟩
end
inductive LR where
 |next (vs:List PV) (σ:Store)
 |out (e:PExit) (vs:List PV) (σ:Store)
structure LI where
 nt:Nat
 ss:List Nat
 os:PExit→List Nat
 tr:Bool:=true
def rsl (ss:List Nat) (fr:List PV):List PV:=ss.map fun s=>fr.getD s .top
theorem qjM (fr:List PV) (ss:List Nat):Weak fr (mk fr.length (ss.zip (rsl ss fr))):=qyJ fr ss
def qy3 (σ:Store) (vs:List PV) (σ':Store):List PV×Store :=
 if σ'.objs.length≤max σ.objs.length (qsr vs) then (vs,σ') else (qbW (max σ.objs.length (qsr vs)) vs,dropS (max σ.objs.length (qsr vs)) σ')
def qnc:qR→Nat
 |[]=>0
 |x::xs=>max (qoE x) (qnc xs)
def qBm (σ:Store) (vs:List PV) (σ':Store):List PV×Store :=
 if σ'.toks.length≤max σ.toks.length (max (qoE vs) (qnc (σ'.objs.take σ.objs.length))) then qy3 σ vs σ' else qy3 σ (qb8 (max σ.toks.length (max (qoE vs) (qnc (σ'.objs.take σ.objs.length)))) vs) (qdV (max σ.toks.length (max (qoE vs) (qnc (σ'.objs.take σ.objs.length)))) σ')
def qsk (tr:Bool) (σ:Store) (vs:List PV) (σ':Store):List PV×Store:=match tr with
 |true=>qBm σ vs σ'
 |false=>(vs,σ')
def lstep (tb:Tab) (G:GamT) (L:LpsT) (c:Code) (I:LI) (vs:List PV) (σ:Store):Tr LR :=
 (bind (texec tb G L c [] (mk I.nt (I.ss.zip vs)) σ) fun r=>if r.2.2.1.length=I.nt then match r.1 with
  |.normal=>.ret (.next (qsk I.tr σ (rsl I.ss r.2.2.1) r.2.2.2).1 (qsk I.tr σ (rsl I.ss r.2.2.1) r.2.2.2).2)
  |e=>.ret (.out e (qsk I.tr σ (rsl (I.os e) r.2.2.1) r.2.2.2).1 (qsk I.tr σ (rsl (I.os e) r.2.2.1) r.2.2.2).2) else .fail).flat
def lrun (step:List PV→Store→Tr LR):Nat→List PV→Store→Option (PExit×List PV×Store)
 |0,_,_=>none
 |n+1,vs,σ=>match (step vs σ).run with
  |some (.next vs' σ')=>lrun step n vs' σ'
  |some (.out e vs' σ')=>some (e,vs',σ')
  |none=>none
theorem qnG {step:List PV→Store→Tr LR}:∀ {n m:Nat} {vs:List PV} {σ:Store} {r:PExit×List PV×Store},lrun step n vs σ=some r→n≤m→lrun step m vs σ=some r
 |0,_,_,_,_,h,_=>by cases h
 |n+1,0,_,_,_,_,hm=>by omega
 |n+1,m+1,vs,σ,r,h,hm=>by
  simp only [lrun] at h ⊢;split at h
  ·rename_i vs' σ' hs;exact qnG h (by omega)
  ·exact h
  ·cases h
open Classical in
def lval (step:List PV→Store→Tr LR) (vs:List PV) (σ:Store):Option (PExit×List PV×Store) :=
 if h:∃ r n,lrun step n vs σ=some r then some h.choose else none
theorem qtG {step:List PV→Store→Tr LR} {vs:List PV} {σ:Store} {n:Nat} {r:PExit×List PV×Store} (h:lrun step n vs σ=some r):lval step vs σ=some r:=by
 unfold lval;have hx:∃ r n,lrun step n vs σ=some r:=⟨r,n,h⟩;rw [dif_pos hx];obtain⟨m,hm⟩:=hx.choose_spec;have h1:=qnG h (Nat.le_max_left n m);have h2:=qnG hm (Nat.le_max_right n m);rw [h1] at h2;exact h2.symm
theorem qml {step:List PV→Store→Tr LR} {vs:List PV} {σ:Store} {r:PExit×List PV×Store} (h:lval step vs σ=some r):∃ n,lrun step n vs σ=some r:=by
 unfold lval at h
 split at h
 ·rename_i hx;cases h
  exact hx.choose_spec
 ·cases h
def lnext (V:List PV→Store→Option (PExit×List PV×Store)) (r:Option LR):Option (PExit×List PV×Store):=match r with
 |some (.next vs' σ')=>V vs' σ'
 |some (.out e vs' σ')=>some (e,vs',σ')
 |none=>none
@[simp] theorem qhK (V:List PV→Store→Option (PExit×List PV×Store)) (vs:List PV) (σ:Store):lnext V (some (.next vs σ))=V vs σ:=rfl
@[simp] theorem lnext_out (V:List PV→Store→Option (PExit×List PV×Store)) (e:PExit) (vs:List PV) (σ:Store):lnext V (some (.out e vs σ))=some (e,vs,σ):=rfl
@[simp] theorem lnext_none (V:List PV→Store→Option (PExit×List PV×Store)):lnext V none=none:=rfl
theorem qb0 (step:List PV→Store→Tr LR) (vs:List PV) (σ:Store):lval step vs σ=lnext (lval step) (step vs σ).run:=by
 unfold lnext;cases hs:(step vs σ).run with
 |none =>
  simp only;cases hv:lval step vs σ with
  |none=>rfl
  |some r =>
   obtain⟨n,hn⟩:=qml hv;cases n with
   |zero=>cases hn
   |succ n=>simp [lrun,hs] at hn
 |some q =>
  cases q with
  |out e vs' σ'=>exact qtG (n:=1) (by simp [lrun,hs])
  |next vs' σ' =>
   simp only;cases hv:lval step vs' σ' with
   |some r =>
    obtain⟨n,hn⟩:=qml hv;exact qtG (n:=n+1) (by simp [lrun,hs,hn])
   |none =>
    cases hw:lval step vs σ with
    |none=>rfl
    |some r =>
     obtain⟨n,hn⟩:=qml hw;cases n with
     |zero=>cases hn
     |succ n =>
      simp only [lrun,hs] at hn;rw [qtG hn] at hv;cases hv
theorem qwL (n:Nat) (ss:List Nat) (fr:List PV):qbW n (rsl ss fr)=rsl ss (qbW n fr):=by
 unfold rsl
 induction ss with
 |nil=>rfl
 |cons s ss ih =>
  simp only [List.map_cons,qbW,ih]
  congr 1
  clear ih
  induction fr generalizing s with
  |nil=>rfl
  |cons x fr ih =>
   cases s with
   |zero=>rfl
   |succ s=>simpa [qbW] using ih s
theorem qvY (n:Nat) (ss:List Nat) (fr:List PV):qb8 n (rsl ss fr)=rsl ss (qb8 n fr):=by
 unfold rsl
 induction ss with
 |nil=>rfl
 |cons s ss ih =>
  simp only [List.map_cons,qb8,ih]
  congr 1
  clear ih
  induction fr generalizing s with
  |nil=>rfl
  |cons x fr ih =>
   cases s with
   |zero=>rfl
   |succ s=>simpa [qb8] using ih s
section
variable {P : Program} {tb : Tab} {gl : Gl} {G : GamT}
theorem qoh {c:Code} {fr:List PV} {σ σ2:Store} {fr1:List PV} {ss:List Nat} {e:PExit} (hd:Does P gl c fr σ e fr1 σ2) :
  ∃ fr3,fr3.length=fr1.length∧(qy3 σ (rsl ss fr1) σ2).1=rsl ss fr3∧Does P gl c fr σ e fr3 (qy3 σ (rsl ss fr1) σ2).2:=by
 unfold qy3;split
 ·exact⟨fr1,rfl,rfl,hd⟩
 ·exact⟨_,qky _ _,qwL _ _ _,hd.drop (Nat.le_max_left _ _)⟩
theorem qte {c:Code} {fr:List PV} {σ σ2:Store} {fr1:List PV} {ss:List Nat} {e:PExit} (hd:Does P gl c fr σ e fr1 σ2) :
  ∃ fr3,fr3.length=fr1.length∧(qBm σ (rsl ss fr1) σ2).1=rsl ss fr3∧Does P gl c fr σ e fr3 (qBm σ (rsl ss fr1) σ2).2:=by
 unfold qBm;split
 ·exact qoh hd
 ·rw [qvY];obtain⟨fr3,h1,h2,h3⟩:=qoh (ss:=ss) (hd.trim (m:=max σ.toks.length (max (qoE (rsl ss fr1)) (qnc (σ2.objs.take σ.objs.length)))) (Nat.le_max_left _ _));exact⟨fr3,by rw [h1,qkl],h2,h3⟩
theorem qmw {c:Code} {fr:List PV} {σ σ2:Store} {fr1:List PV} {ss:List Nat} {e:PExit} (tr:Bool) (hd:Does P gl c fr σ e fr1 σ2) :
  ∃ fr3,fr3.length=fr1.length∧(qsk tr σ (rsl ss fr1) σ2).1=rsl ss fr3∧Does P gl c fr σ e fr3 (qsk tr σ (rsl ss fr1) σ2).2:=by
 cases tr with
 |true=>exact qte hd
 |false=>exact⟨fr1,rfl,rfl,hd⟩
theorem qwk (hT:qbF P tb) (hΓ:qa3 P gl (gam G)) (hm:P.follows .mixedOrders=true) {L:LpsT} {c:Code} (hL:qb2 P gl (lps L) c) (hdr:qbo (gam G) c=true) {I:LI}:∀ (n:Nat) (vs:List PV) (σ:Store) (e:PExit) (vs':List PV) (σ':Store),
  lrun (lstep tb G L c I) n vs σ=some (e,vs',σ')→LDoes P gl c (mk I.nt (I.ss.zip vs)) σ e (mk I.nt ((I.os e).zip vs')) σ':=by
 intro n
 induction n with
 |zero=>intro vs σ e vs' σ' h;cases h
 |succ n ih =>
  intro vs σ e vs' σ' h;simp only [lrun] at h
  split at h
  ·rename_i vs1 σ1 hs;have hs:=Tr.flat_run hs;obtain⟨⟨e1,kn,fr1,σ2⟩,h1,h2⟩:=bind_some hs;have hd:=Does.of_tree hT hΓ hm hL hdr h1;simp only at h2;split at h2
   ·rename_i hn;cases e1 with
    |normal =>
     simp only [Tr.run_ret,Option.some.injEq,LR.next.injEq] at h2;obtain⟨rfl,rfl⟩:=h2;obtain⟨fr3,h3,h4,hd3⟩:=qmw (ss:=I.ss) I.tr hd;rw [h4] at h
     refine LDoes.next hd3 (LDoes.into ?_ (ih _ _ _ _ _ h));have hw:=qjM fr3 I.ss;rw [h3,hn] at hw;exact hw
    |exit j=>simp [Tr.run_ret] at h2
    |ret=>simp [Tr.run_ret] at h2
   ·cases h2
  ·rename_i e1 vs1 σ1 hs;simp only [Option.some.injEq,Prod.mk.injEq] at h
   obtain⟨rfl,rfl,rfl⟩:=h;have hs:=Tr.flat_run hs;obtain⟨⟨e2,kn,fr1,σ2⟩,h1,h2⟩:=bind_some hs;have hd:=Does.of_tree hT hΓ hm hL hdr h1;simp only at h2;split at h2
   ·rename_i hn;have fin:∀ e,e≠.normal→e2=e→LDoes P gl c (mk I.nt (I.ss.zip vs)) σ e (mk I.nt ((I.os e).zip (qsk I.tr σ (rsl (I.os e) fr1) σ2).1)) (qsk I.tr σ (rsl (I.os e) fr1) σ2).2:=by
     rintro e hne rfl;obtain⟨fr3,h3,h4,hd3⟩:=qmw (ss:=I.os e2) I.tr hd;rw [h4];refine LDoes.outof (LDoes.out hd3 hne) ?_;have hw:=qjM fr3 (I.os e2);rw [h3,hn] at hw;exact hw
    cases e2 with
    |normal=>simp [Tr.run_ret] at h2
    |exit j =>
     simp only [Tr.run_ret,Option.some.injEq,LR.out.injEq] at h2;obtain⟨rfl,rfl,rfl⟩:=h2;exact fin _ (by simp) rfl
    |ret =>
     simp only [Tr.run_ret,Option.some.injEq,LR.out.injEq] at h2;obtain⟨rfl,rfl,rfl⟩:=h2;exact fin _ (by simp) rfl
   ·cases h2
  ·cases h
def orc (I:LI) (prop:List PV→Store→Tr (PExit×List PV×Store)) (fr:List PV) (σ:Store):Tr (PExit×List PV×Store) :=
 if fr.length=I.nt then bind (prop (rsl I.ss fr) σ) fun r=>.ret (r.1,mk I.nt ((I.os r.1).zip r.2.1),r.2.2) else .fail
theorem qdi (hT:qbF P tb) (hΓ:qa3 P gl (gam G)) (hm:P.follows .mixedOrders=true) {L:LpsT} {c:Code} (hL:qb2 P gl (lps L) c) (hdr:qbo (gam G) c=true) {I:LI} {prop:List PV→Store→Tr (PExit×List PV×Store)}
  (h:∀ vs σ r,(prop vs σ).run=some r→lval (lstep tb G L c I) vs σ=some r):∀ fr σ e fr' σ',(orc I prop fr σ).run=some (e,fr',σ')→LDoes P gl c fr σ e fr' σ':=by
 intro fr σ e fr' σ' hr;unfold orc at hr;split at hr
 ·rename_i hn;obtain⟨⟨e1,vs1,σ1⟩,h1,h2⟩:=bind_some hr;simp only [Tr.run_ret,Option.some.injEq,Prod.mk.injEq] at h2;obtain⟨rfl,rfl,rfl⟩:=h2;obtain⟨n,hn'⟩:=qml (h _ _ _ h1);have hw:=qjM fr I.ss;rw [hn] at hw;exact LDoes.into hw (qwk hT hΓ hm hL hdr n _ _ _ _ _ hn')
 ·cases hr
theorem SimP.of_flat (hT : qbF P tb) (hΓ : qa3 P gl (gam G)) (hm : P.follows .mixedOrders = true) {f : FuncId} {fn : Func} {c : Code} (hf : P.funcs[f]? = some fn) (hb : fn.body = some c) (hn : (fn.name == "runtime.NumGoroutine") = false)
  (hdr:qbo (gam G) c=true) {L:LpsT} (hL:qb2 P gl (lps L) c) {F:List PV→Tr PV} (h:∀ args x,(F args).run=some x→(tcall tb G L fn args).flat.run=some x):SimP P gl f fun args=>(F args).run :=
 SimP.of_tree hT hΓ hm hf hb hn hdr hL fun args x hx _=>Tr.flat_run (h args x hx)
end
theorem SimS.of_flat {P : Program} {tb : Tab} {gl : Gl} {G : GamT} (hT : qbF P tb) (hΓ : qa3 P gl (gam G)) (hm : P.follows .mixedOrders = true) {f : FuncId} {fn : Func} {c : Code} (hf : P.funcs[f]? = some fn) (hb : fn.body = some c) (hn : (fn.name == "runtime.NumGoroutine") = false)
  (hdr:qbo (gam G) c=true) {L:LpsT} (hL:qb2 P gl (lps L) c) {D:List PV→Store→Tr (PV×Store)} (h:∀ args σ r,(D args σ).run=some r→(qpf tb G L fn args σ).flat.run=some r):SimS P gl f fun args σ=>(D args σ).run :=
 SimS.of_tree hT hΓ hm hf hb hn hdr hL fun args σ x σ' hx _=>Tr.flat_run (h args σ (x,σ') hx)
open Classical in
def isW {α:Type} (W:Option α) (r:α):Bool:=decide (W=some r)
@[simp] theorem qBs {α:Type} (a r:α):isW (some a) r=true↔a=r:=by simp [isW]
theorem qFW {α:Type} {W:Option α} {r:α} (h:isW W r=true):W=some r:=by simpa [isW] using h
theorem qah {α:Type} {W:Option α} {r r':α} {t:Tr α} (h:(Tr.ite (isW W r) (.ret r) t).run=some r') (k:t.run=some r'→W=some r'):W=some r':=by
 simp only [Tr.run_ite] at h
 split at h
 ·rename_i hs;rw [qFW hs];simpa using h
 ·exact k h
def gInt:PV→Int|.int _ n=>n|_=>0
def qbU:PV→Bool|.bool b=>b|_=>false
def gStr:PV→List UInt8|.str l=>l|_=>[]
def gRow:PV→List (List PV)|.sl l _=>l|_=>[]
def gCs:PV→List PV|.agg l=>l|.tup l=>l|.ref l=>l|.fn _ l=>l|.iface _ v=>[v]|_=>[]
def gAt (l:List PV) (i:Nat):PV:=l.getD i .top
def gVal (W:Option PV):PV:=W.getD .top
def gOut (W:Option (PExit×List PV×Store)) (i:Nat):PV:=match W with|some r=>r.2.1.getD i .top|none=>.top
def gObj (W:Option (PExit×List PV×Store)) (i:Nat):List PV:=match W with|some r=>r.2.2.objs.getD i []|none=>[]
def gTok (W:Option (PExit×List PV×Store)) (i:Nat):Nat:=match W with|some r=>(r.2.2.toks.getD i (0,0,0)).1|none=>0
def qdl (W:Option (PV×Store)):Option (PExit×List PV×Store):=W.map fun r=>(.ret,[r.1],r.2)
@[simp] theorem asOut_some (x:PV) (σ:Store):qdl (some (x,σ))=some (.ret,[x],σ):=rfl
@[simp] theorem qAB (k:IntKind) (n:Int):gInt (.int k n)=n:=rfl
@[simp] theorem gBool_bool (b:Bool):qbU (.bool b)=b:=rfl
@[simp] theorem gStr_str (l:qU):gStr (.str l)=l:=rfl
@[simp] theorem gRow_sl (l:qR) (t:Tag):gRow (.sl l t)=l:=rfl
@[simp] theorem gCs_agg (l:List PV):gCs (.agg l)=l:=rfl
@[simp] theorem gCs_tup (l:List PV):gCs (.tup l)=l:=rfl
@[simp] theorem gCs_ref (l:List PV):gCs (.ref l)=l:=rfl
@[simp] theorem gCs_fn (f:FuncId) (l:List PV):gCs (.fn f l)=l:=rfl
@[simp] theorem gCs_iface (t:TypeId) (v:PV):gCs (.iface t v)=[v]:=rfl
@[simp] theorem gAt_zero (x:PV) (l:List PV):gAt (x::l) 0=x:=rfl
@[simp] theorem gAt_succ (x:PV) (l:List PV) (n:Nat):gAt (x::l) (n+1)=gAt l n:=rfl
@[simp] theorem qz0 (x:PV):gVal (some x)=x:=rfl
@[simp] theorem gOut_some (e:PExit) (vs:List PV) (σ:Store) (i:Nat):gOut (some (e,vs,σ)) i=gAt vs i:=rfl
@[simp] theorem gObj_some (e:PExit) (vs:List PV) (os:qR) (ts:List (Nat×Nat×TypeId)) (tys:List TypeId) (i:Nat):gObj (some (e,vs,⟨os,ts,tys⟩)) i=os.getD i []:=rfl
@[simp] theorem gTok_some (e:PExit) (vs:List PV) (os:qR) (ts:List (Nat×Nat×TypeId)) (tys:List TypeId) (i:Nat):gTok (some (e,vs,⟨os,ts,tys⟩)) i=(ts.getD i (0,0,0)).1:=rfl
def qsi (r:Nat):Code→Option Code
 |.seq a b=>match qsi r a with
  |some c=>some c
  |none=>qsi r b
 |.cond _ a b=>match qsi r a with
  |some c=>some c
  |none=>qsi r b
 |.block _ c=>qsi r c
 |.loop c=>if rid c=r then some c else qsi r c
 |.scope c=>qsi r c
 |_=>none
def qgr (fn:Func) (r:Nat):Code:=match fn.body with
 |some c=>(qsi r c).getD .skip
 |none=>.skip
theorem qbp {P:Program} {gl:Gl} {L:Lps} {c:Code} (l:List (Nat×Code)) (h:qdy c=l) (h1:∀ p∈l,∀ fr σ e fr' σ',L p.1 fr σ=some (e,fr',σ')→LDoes P gl p.2 fr σ e fr' σ') (hn:qcZ c=[]:=by kernel_rfl):qb2 P gl L c:=qn0 (by rw [h];exact h1) hn
theorem qqM {P:Program} {gl:Gl} {L:Lps} {c:Code} (l k:List (Nat×Code)) (h:qdy c=l) (hk:qcZ c=k) (h1:∀ p∈l,∀ fr σ e fr' σ',L p.1 fr σ=some (e,fr',σ')→LDoes P gl p.2 fr σ e fr' σ') (h2:∀ p∈k,∀ fr σ e fr' σ',L p.1 fr σ=some (e,fr',σ')→Does P gl p.2 fr σ e fr' σ'):qb2 P gl L c:=qdq (by rw [h];exact h1) (by rw [hk];exact h2)
end Go.Pv
set_option linter.unusedSimpArgs false
set_option linter.unusedVariables false
namespace Go.Pv
open Go.RowKit
def qie (s:Nat):Option Code:=if s=2 then some .ret else if 3≤s then some (.exit (s - 3)) else none
def exOf (s:Nat):PExit:=if s=2 then .ret else if 3≤s then .exit (s - 3) else .normal
def stOf:PExit→Nat
 |.normal=>0
 |.ret=>2
 |.exit id=>3+id
def isNo:PExit→Bool
 |.normal=>true
 |_=>false
def recS (r:Loop) (s:Nat):Obj:=.loop { r with state:=if s=0 then .ready else if s=1 then .busy else .done,pending:=qie s }
def glR (gl:Gl) (e:Nat) (r:Loop) (fr:List PV):Gl:=⟨gl.v,fun e' s=>if e'=e then recS r s else gl.lp e' s,fun e'=>if e'=e then fr else gl.fr e'⟩
def puts (fr:List PV):List Tmp→List PV→List PV
 |p::ps,x::xs=>puts (fr.set p x) ps xs
 |_,_=>fr
section
variable {gl : Gl} {H : Gh} {σ : Store} {w w' : World}
theorem qsd:∀ (ps:List Tmp) (xs:List PV) (vs:List Value) (fr:List PV) (tmps:Array Value),RelL H w fr tmps.toList→RelL H w xs vs→RelL H w (puts fr ps xs) ((ps.zip vs).foldl (fun t p=>t.setIfInBounds p.1 p.2) tmps).toList
 |[],xs,vs,fr,tmps,h,hx=>by cases hx<;>simpa [puts] using h
 |p::ps,[],vs,fr,tmps,h,hx=>by cases hx;simpa [puts] using h
 |p::ps,x::xs,vs,fr,tmps,h,hx=>by
  cases hx with
  |cons _ v _ vs hv hvs =>
   simp only [puts,List.zip_cons_cons,List.foldl_cons];exact qsd ps xs vs _ _ (by simpa using h.set p hv) hvs
theorem qBt {ps:Array Tmp} {xs:List PV} {vs:List Value} {fr:List PV} {tmps:Array Value} (h:RelL H w fr tmps.toList) (hx:RelL H w xs vs):RelL H w (puts fr ps.toList xs) ((ps.zip vs.toArray).foldl (fun t (p,v)=>t.setIfInBounds p v) tmps).toList:=by
 have:=qsd ps.toList xs vs fr tmps h hx;have e:(ps.zip vs.toArray).foldl (fun t (p,v)=>t.setIfInBounds p v) tmps=(ps.toList.zip vs).foldl (fun t p=>t.setIfInBounds p.1 p.2) tmps:=by
  rw [← Array.foldl_toList,Array.toList_zip]
 rw [e];exact this
theorem Ok.lp {gl':Gl} (h:Ok gl H σ w) (hv:gl'.v=gl.v) (hl:∀ (t:Nat) (T:Tok),H.tk[t]?=some T→T.k=0→gl'.lp T.e=gl.lp T.e∧gl'.fr T.e=gl.fr T.e):Ok gl' H σ w :=
 ⟨h.B,fun b o e=>h.gl b o (by rw [← hv];exact e),h.len,h.obj,h.nd,h.tkl,fun t T e hvv=>by
  obtain⟨h1,h2,o,he,ho⟩:=h.tok t T e hvv;refine⟨h1,h2,o,he,?_⟩;rcases ho with ho|⟨hk,q1,r,q2,q3,q4,q5,q6⟩
  ·exact .inl ho
  ·obtain⟨l1,l2⟩:=hl t T e hk;refine .inr ⟨hk,by rw [l1];exact q1,r,q2,by rw [l2];exact q3,?_,q5,?_⟩
   ·intro n hn;rw [l2];exact q4 n hn
   ·intro m hm;rw [l2];exact q6 m hm,h.tnd,h.tyl,h.ty⟩
theorem Dr.lp {gl':Gl} {w w':World} (h:Dr gl w w') (hv:gl'.v=gl.v):Dr gl' w w':=fun hg=>h (fun b=>by rw [← hv];exact hg b)
theorem Ev.lp {gl':Gl} {H':Gh} (h:Ev gl H w H' w') (hv:gl'.v=gl.v):Ev gl' H w H' w' :=
 ⟨h.B,h.base,h.aux,h.K,h.os,h.tape,h.output,h.size,h.ob,h.tok,h.prot,h.block,h.dr.lp hv,h.fix,h.old⟩
theorem qxP (h:Ok gl H σ w) {t:Nat} {T:Tok} (ht:H.tk[t]?=some T) (hk:T.k=0) {s':Nat} {r':Loop} (hr:gl.lp T.e s'=.loop r') (hframe:RelL H w (gl.fr T.e) r'.tmps.toList) :
  Ev gl H w { H with tk:=H.tk.set t { T with ver:=s' } } (w.putObj T.blk (.loop r'))∧Ok gl { H with tk:=H.tk.set t { T with ver:=s' } } { σ with toks:=σ.toks.set t (s',0,T.e) } (w.putObj T.blk (.loop r')):=by
 have htl:t < H.tk.length:=(List.getElem?_eq_some_iff.1 ht).1;have hnv:¬ T.vir:=fun hh=>hh.2 hk
 obtain⟨hB,hob,o,ho,hT⟩:=h.tok t T ht hnv;obtain⟨r0,ho0,hp0,hc0,hd0⟩:∃ r,o=.loop r∧(∀ n,T.cap≤n→qbW n (gl.fr T.e)=gl.fr T.e)∧T.cap≤H.ob.length∧(∀ m,t≤m→qb8 m (gl.fr T.e)=gl.fr T.e):=by
  rcases hT with⟨h1,_⟩|⟨_,_,r,h3,_,h5,h6,h7⟩
  ·exact absurd hk h1
  ·exact⟨r,h3,h5,h6,h7⟩
 subst ho0;have hlt:=qaj ho;have hsz:(w.putObj T.blk (.loop r')).heap.size=w.heap.size:=qcb ..;have hcase:∀ (u:Nat) (U:Tok),(H.tk.set t { T with ver:=s' })[u]?=some U→(u=t∧U={ T with ver:=s' })∨(u≠t∧H.tk[u]?=some U):=by
  intro u U hu;by_cases hut:u=t
  ·subst hut;rw [List.getElem?_set_self htl] at hu;exact .inl ⟨rfl,(Option.some.inj hu).symm⟩
  ·rw [List.getElem?_set_ne (fun e=>hut e.symm)] at hu
   exact .inr ⟨hut,hu⟩
 have hne:∀ b off,H.prot w b off→b≠T.blk:=fun b off hp e=>by
  have:=hp.2.2.2 T (List.mem_of_getElem? ht) hnv e.symm;rw [hk] at this;omega
 have hcell:∀ b off s,b≠T.blk→(w.putObj T.blk (.loop r')).cell? ⟨b,off,s⟩=w.cell? ⟨b,off,s⟩:=fun b off s e=>World.cell?_of_block (a:=⟨b,off,s⟩) (World.putObj_heap_other e)
 have ev:Ev gl H w { H with tk:=H.tk.set t { T with ver:=s' } } (w.putObj T.blk (.loop r')):=by
  refine⟨rfl,rfl,rfl,rfl,rfl,rfl,rfl,by rw [hsz];exact Nat.le_refl _,fun _ _ h=>h,fun u U hu=>?_,fun b off hp=>?_,fun b hb=>World.putObj_heap_other (by omega),.of_eq rfl,fun b ds hb=>(World.putObj_heap_other (fun e=>by subst e;rw [ho] at hb;cases hb)).trans hb,fun u U hu hk'=>?_⟩
  ·by_cases hut:u=t
   ·subst hut;rw [ht] at hu;cases hu
    exact⟨{ T with ver:=s' },List.getElem?_set_self htl,fun e=>absurd hk e,fun _=>⟨hk,rfl,rfl,rfl⟩⟩
   ·exact⟨U,by show (H.tk.set t _)[u]?=some U;rw [List.getElem?_set_ne (fun e=>hut e.symm)];exact hu,.refl U⟩
  ·refine⟨⟨by rw [hsz];exact hp.1,hp.2.1,hp.2.2.1,fun U hU hvU hbk=>?_⟩,fun s=>hcell b off s (hne b off hp)⟩
   obtain⟨u,hu⟩:=List.mem_iff_getElem?.1 hU;rcases hcase u U hu with⟨_,rfl⟩|⟨_,hu⟩
   ·exact absurd hbk.symm (hne b off hp)
   ·exact hp.2.2.2 U (List.mem_of_getElem? hu) hvU hbk
  ·rcases hcase u U hu with⟨rfl,rfl⟩|⟨_,hu⟩
   ·exact⟨T,ht,hk⟩
   ·exact⟨U,hu,hk'⟩
 refine⟨ev,⟨by rw [hsz];exact h.B,fun b o' eg=>⟨(h.gl b o' eg).1,(World.putObj_heap_other (by have:=(h.gl b o' eg).1;omega)).trans (h.gl b o' eg).2⟩,h.len,fun id b cs e1 e2=>?_,h.nd,?_,fun u U hu hvU=>?_,fun u v U V hu hv hvU hvV hbk=>?_,h.tyl,fun id b T0 cs e1 e2 e3 hTT=>?_⟩⟩
 ·obtain⟨h1,vs,ext,T0,he,hr⟩:=h.obj id b cs e1 e2;exact⟨h1,vs,ext,T0,(World.putObj_heap_other (fun e=>by subst e;rw [ho] at he;cases he)).trans he,hr.mono ev.mono⟩
 ·show (H.tk.set t _).map _=σ.toks.set t _
  rw [List.map_set,h.tkl,hk]
 ·rcases hcase u U hu with⟨rfl,rfl⟩|⟨hut,hu'⟩
  ·exact⟨hB,hob,_,World.putObj_heap_same hlt,.inr ⟨hk,hr.symm,r',rfl,hframe.mono ev.mono,hp0,hc0,hd0⟩⟩
  ·obtain⟨g1,g2,o',g3,g4⟩:=h.tok u U hu' hvU;exact⟨g1,g2,o',(World.putObj_heap_other (fun e=>hut (h.tnd u t U T hu' ht hvU hnv e))).trans g3,g4.mono ev.mono⟩
 ·rcases hcase u U hu with⟨h1,rfl⟩|⟨h1,hu'⟩<;>rcases hcase v V hv with⟨h2,rfl⟩|⟨h2,hv'⟩
  ·rw [h1,h2]
  ·exact absurd (h.tnd v t V T hv' ht hvV hnv hbk.symm) h2
  ·exact absurd (h.tnd u t U T hu' ht hvU hnv hbk) h1
  ·exact h.tnd u v U V hu' hv' hvU hvV hbk
 ·obtain⟨us,he,hs⟩:=h.ty id b T0 cs e1 e2 e3 hTT;exact⟨us,(World.putObj_heap_other (fun e=>by subst e;rw [ho] at he;cases he)).trans he,hs⟩
end
theorem qFE {P:Program} {gl:Gl} {e:Nat} {r:Loop} (hlp:gl.lp e=recS r) {Y:Nat→List PV→Store→Option (PV×Store)}
  (hY:∀ t args σ x σ',Y t args σ=some (x,σ')→∃ fr1 σ1 ex fr2 σ2,args.length=r.params.size∧Does P gl r.assign (puts (gl.fr e) r.params.toList args) σ .normal fr1 σ1∧σ1.toks[t]?=some (0,0,e) ∧
   Does P gl r.body fr1 { σ1 with toks:=σ1.toks.set t (1,0,e) } ex fr2 σ2∧σ2.toks[t]?=some (1,0,e)∧x=.bool (isNo ex)∧σ'={ σ2 with toks:=σ2.toks.set t (stOf ex,0,e) }):qlt P gl qdU (.yld e Y):=by
 intro t args σ x σ' h0 hy H w vs T hok hrel hT;obtain⟨fr1,σ1,ex,fr2,σ2,hlen,hd1,ht1,hd2,ht2,rfl,rfl⟩:=hY t args σ x σ' hy
 -- what a token of such a state is
 have look:∀ {H1:Gh} {w1:World} {τ:Store} {T1:Tok} {s:Nat},Ok gl H1 τ w1→τ.toks[t]?=some (s,0,e)→H1.tk[t]?=some T1→T1.ver=s∧T1.k=0∧T1.e=e∧w1.heap[T1.blk]?=some (recS r s)∧RelL H1 w1 (gl.fr e) r.tmps.toList:=by
  intro H1 w1 τ T1 s hk1 hs hT1;have e1:(T1.ver,T1.k,T1.e)=(s,0,e):=by
   rw [← hk1.tkl,List.getElem?_map,hT1] at hs;simpa using hs
  simp only [Prod.mk.injEq] at e1;obtain⟨a1,a2,a3⟩:=e1;obtain⟨_,_,o,ho,hTO⟩:=hk1.tok t T1 hT1 (fun hh=>hh.2 (by assumption))
  rcases hTO with⟨b1,_⟩|⟨_,b2,r1,b3,b4,_⟩
  ·exact absurd a2 b1
  ·rw [a1,a3,hlp] at b2;rw [b2] at ho b3;refine⟨a1,a2,a3,ho,?_⟩;rw [a3] at b4;unfold recS at b3;cases b3
   exact b4
 obtain⟨v0,k0,ee0,hl0,hf0⟩:=look hok h0 hT;have hsz:vs.toArray.size=r.params.size:=by rw [← hlen,hrel.len];simp
 have hrun:=run_yield (P:=P) (args:=vs.toArray) hl0 hsz;refine⟨_,_,_,_,hrun,?_⟩;have hRin:RIn (some T.blk) { H with K:=w.heap.size }:=fun l hl=>by cases hl;exact⟨t,T,hT,k0,rfl⟩
 refine roundIn_of_wpIn (F:=Fence.wide) (n:=0) (l:=T.blk) trivial ?_;have hst0:St gl { H with K:=w.heap.size } w (puts (gl.fr e) r.params.toList args) σ { tmps:=(r.params.zip vs.toArray).foldl (fun t (p,v)=>t.setIfInBounds p v) r.tmps,defers:=[] } w :=
  ⟨_,Ev.refl _ w,hok.setK _,(qBt hf0 hrel).mono (Mono.setK' H w _),Marks.nil (Nat.le_refl _)⟩
 refine hd1 (some T.blk) 0 _ w hRin _ _ w hst0 fun a1 w1 hst1=>?_
 obtain⟨H1,hev1,hok1,hfr1,hm1⟩:=hst1;obtain⟨T1,hT1,hu1⟩:=hev1.tok t T hT;obtain⟨_,hblk1,_,_⟩:=hu1.lp k0;obtain⟨v1,k1,ee1,hl1,hf1⟩:=look hok1 ht1 hT1;rw [hblk1] at hl1;have hbr:=run_beginRound (P:=P) hl1 rfl;refine⟨_,hbr,?_⟩;have hs1:=qxP (s':=1) (r':={ r with state:=.busy,pending:=qie 1 }) hok1 hT1 k1 (by rw [ee1,hlp];rfl) (by rw [ee1];exact hf1)
 rw [ee1,hblk1] at hs1;obtain⟨hev2,hok2⟩:=hs1;have hst2:St gl { H with K:=w.heap.size } w fr1 { σ1 with toks:=σ1.toks.set t (1,0,e) } a1 (w1.putObj T.blk (.loop { r with state:=.busy,pending:=qie 1 })):=⟨_,hev1.trans hev2,hok2,hfr1.mono hev2.mono,hm1.ev hev2⟩
 refine hd2 (some T.blk) 0 _ w hRin _ _ _ hst2 fun a3 w3 hst3=>?_
 obtain⟨H3,hev3,hok3,hfr3,hm3⟩:=hst3;obtain⟨T3,hT3,hu3⟩:=hev3.tok t T hT;obtain⟨_,hblk3,_,_⟩:=hu3.lp k0;obtain⟨v3,k3,ee3,hl3,hf3⟩:=look hok3 ht2 hT3;rw [hblk3] at hl3
 -- the round's end
 have fin:∀ (jump:Option Code) (s:Nat),recS r s=.loop { r with state:=if jump.isNone then .ready else .done,pending:=jump }→∀ b:Bool,jump.isNone=b →
   ∃ v w',(Instr.endRound T.blk jump).run P w3=.ok v w'∧∃ v',(Ending.returned v)=.returned v'∧Post gl H w (.bool b) { σ2 with toks:=σ2.toks.set t (s,0,e) } v' w':=by
  intro jump s hs b hb;subst hb;have hr:=run_endRound (P:=P) jump hl3;refine⟨_,_,hr,_,rfl,?_⟩;have hs4:=qxP (s':=s) (r':={ r with state:=if jump.isNone then .ready else .done,pending:=jump }) hok3 hT3 k3 (by rw [ee3,hlp];exact hs) (by rw [ee3];exact hf3)
  rw [ee3,hblk3] at hs4;obtain⟨hev4,hok4⟩:=hs4;exact⟨_,(hev3.trans hev4).setK,hok4.setK _,.bool _⟩
 cases ex with
 |normal=>exact fin none 0 rfl true rfl
 |ret=>exact fin (some .ret) 2 rfl false rfl
 |exit id =>
  refine fin (some (.exit id)) (3+id) ?_ false rfl;have h1:¬ (3+id=0):=by omega
  have h2:¬ (3+id=1):=by omega
  have h3:¬ (3+id=2):=by omega
  have h4:3≤3+id:=by omega
  simp only [recS,qie,h1,h2,h3,h4,if_true,if_false,Nat.add_sub_cancel_left];rfl
section
variable {gl : Gl} {H : Gh} {σ : Store} {w w' : World}
theorem qEu (h:Ok gl H σ w) {e s:Nat} {r:Loop} (he:gl.lp e s=.loop r) (hfr:RelL H w (gl.fr e) r.tmps.toList) (hp:∀ n,H.ob.length≤n→qbW n (gl.fr e)=gl.fr e) (ht:∀ m,H.tk.length≤m→qb8 m (gl.fr e)=gl.fr e) :
  Mono H w { H with tk:=H.tk++[⟨w.heap.size,s,H.ob.length,0,e⟩] } (w.alloc (.loop r))∧Ok gl { H with tk:=H.tk++[⟨w.heap.size,s,H.ob.length,0,e⟩] } { σ with toks:=σ.toks++[(s,0,e)] } (w.alloc (.loop r)) ∧
   (H.tk++[(⟨w.heap.size,s,H.ob.length,0,e⟩:Tok)])[σ.toks.length]?=some ⟨w.heap.size,s,H.ob.length,0,e⟩:=by
 have hb:=qbu w (.loop r);have hlen:H.tk.length=σ.toks.length:=by rw [← h.tkl];simp
 have hcase:∀ (t:Nat) (T:Tok),(H.tk++[(⟨w.heap.size,s,H.ob.length,0,e⟩:Tok)])[t]?=some T→H.tk[t]?=some T∨(t=H.tk.length∧T=⟨w.heap.size,s,H.ob.length,0,e⟩):=by
  intro t T ht;by_cases htl:t < H.tk.length
  ·rw [List.getElem?_append_left htl] at ht;exact .inl ht
  ·have hlt:=(List.getElem?_eq_some_iff.1 ht).1;have:t=H.tk.length:=by simp at hlt;omega
   subst this;rw [List.getElem?_append_right (Nat.le_refl _)] at ht;simp at ht;exact .inr ⟨rfl,ht.symm⟩
 have hprot:∀ b off,H.prot w b off→({ H with tk:=H.tk++[⟨w.heap.size,s,H.ob.length,0,e⟩] }:Gh).prot (w.alloc (.loop r)) b off:=fun b off hp=>by
  refine⟨Nat.lt_of_lt_of_le hp.1 hb.size,hp.2.1,hp.2.2.1,fun T hT hvv hbk=>?_⟩
  rcases List.mem_append.1 hT with hT|hT
  ·exact hp.2.2.2 T hT hvv hbk
  ·simp at hT;subst hT;have:=hp.1;simp at hbk;omega
 have mo:Mono H w { H with tk:=H.tk++[⟨w.heap.size,s,H.ob.length,0,e⟩] } (w.alloc (.loop r)):=by
  refine⟨fun _ _ h=>h,fun t T ht=>?_,fun b off hp=>⟨hprot b off hp,fun s=>hb.cell (p:=⟨b,off,s⟩) hp.1⟩,fun b off hp=>?_⟩
  ·refine⟨T,?_,.refl T⟩;show (H.tk++[_])[t]?=some T
   rw [List.getElem?_append_left (List.getElem?_eq_some_iff.1 ht).1];exact ht
  ·rcases hp with hp|hp
   ·exact⟨.inl (hprot b off hp),fun s=>hb.cell (p:=⟨b,off,s⟩) hp.1⟩
   ·exact⟨.inr hp,fun s=>hb.cell (p:=⟨b,off,s⟩) (Nat.lt_of_lt_of_le hp.1 h.B)⟩
 refine⟨mo,⟨Nat.le_trans h.B hb.size,fun b o eg=>⟨(h.gl b o eg).1,(hb.block b (qaj (h.gl b o eg).2)).trans (h.gl b o eg).2⟩,h.len,fun id b cs e1 e2=>?_,h.nd,by simp [h.tkl],fun t T ht' hvv=>?_,fun t u T U ht hu hvT hvU hbk=>?_,h.tyl,fun id b T' c1 e1 e2 e3 hTT=>?_⟩,?_⟩
 ·obtain⟨hB,vs,ext,T,he,hr⟩:=h.obj id b cs e1 e2;exact⟨hB,vs,ext,T,(hb.block b (qaj he)).trans he,hr.mono mo⟩
 ·rcases hcase t T ht' with ht'|⟨rfl,rfl⟩
  ·obtain⟨hB,ho,o,he,hr⟩:=h.tok t T ht' hvv;exact⟨hB,ho,o,(hb.block _ (qaj he)).trans he,hr.mono mo⟩
  ·exact⟨h.B,fun hm=>Nat.lt_irrefl _ (h.ob_at hm).2,_,heap_alloc_new w _,.inr ⟨rfl,he.symm,r,rfl,hfr.mono mo,hp,Nat.le_refl _,ht⟩⟩
 ·rcases hcase t T ht with ht|⟨h1,rfl⟩<;>rcases hcase u U hu with hu|⟨h2,rfl⟩
  ·exact h.tnd t u T U ht hu hvT hvU hbk
  ·have:=(h.tk_at (List.mem_of_getElem? ht) hvT).2;simp at hbk;omega
  ·have:=(h.tk_at (List.mem_of_getElem? hu) hvU).2;simp at hbk;omega
  ·rw [h1,h2]
 ·obtain⟨us,he,hs⟩:=h.ty id b T' c1 e1 e2 e3 hTT;exact⟨us,(hb.block b (qaj he)).trans he,hs⟩
 ·rw [← hlen,List.getElem?_append_right (Nat.le_refl _)];simp
theorem qrF {D:Nat} {r r':Loop} (hd:w.heap[D]?=some (.loop r)):Mono H w H (w.putObj D (.loop r')):=by
 have hs:(w.putObj D (.loop r')).heap.size=w.heap.size:=qcb ..;have hlt:=qaj hd;have hc:∀ b off s,(w.putObj D (.loop r')).cell? ⟨b,off,s⟩=w.cell? ⟨b,off,s⟩:=fun b off s=>by
  by_cases e:b=D
  ·subst e;simp only [World.cell?,World.putObj_heap_same hlt,hd]
  ·exact World.cell?_of_block (a:=⟨b,off,s⟩) (World.putObj_heap_other e)
 refine⟨fun _ _ h=>h,fun t T h=>⟨T,h,.refl T⟩,fun b off hp=>⟨⟨by rw [hs];exact hp.1,hp.2⟩,hc b off⟩,fun b off hp=>⟨?_,hc b off⟩⟩
 rcases hp with hp|hp
 ·exact .inl ⟨by rw [hs];exact hp.1,hp.2⟩
 ·exact .inr hp
theorem qC2 {D:Nat} {r r':Loop} (h:Ok gl H σ w) (hB:H.B≤D) (hd:w.heap[D]?=some (.loop r)) (hn:∀ (t:Nat) (T:Tok),H.tk[t]?=some T→¬ T.vir→T.blk≠D):Ok gl H σ (w.putObj D (.loop r')) where
 B:=by rw [qcb];exact h.B
 gl:=fun b o e=>⟨(h.gl b o e).1,(World.putObj_heap_other (by have:=(h.gl b o e).1;omega)).trans (h.gl b o e).2⟩
 len:=h.len
 obj:=fun id b cs e1 e2=>by
  obtain⟨h1,vs,ext,T,he,hr⟩:=h.obj id b cs e1 e2;have hne:b≠D:=fun e=>by subst e;rw [he] at hd;cases hd
  exact⟨h1,vs,ext,T,(World.putObj_heap_other hne).trans he,hr.mono (qrF hd)⟩
 nd:=h.nd
 tkl:=h.tkl
 tok:=fun t T e hvv=>by
  obtain⟨h1,h2,o,he,ho⟩:=h.tok t T e hvv;exact⟨h1,h2,o,(World.putObj_heap_other (hn t T e hvv)).trans he,ho.mono (qrF hd)⟩
 tnd:=h.tnd
 tyl:=h.tyl
 ty:=fun id b T cs e1 e2 e3 hT=>by
  obtain⟨us,he,hs⟩:=h.ty id b T cs e1 e2 e3 hT;have hne:b≠D:=fun e=>by subst e;rw [he] at hd;cases hd
  exact⟨us,(World.putObj_heap_other hne).trans he,hs⟩
end
theorem qwc {P:Program} {gl:Gl} {g:Operand} {ps:Array Tmp} {assign body:Code} {fr:List PV} {σ:Store} {gf:FuncId} {caps:List PV} (hg:ev fr g=.fn gf caps) (eid:Nat)
  (hent : ∃ fn, P.funcs[gf]? = some fn ∧ (fn.name == "runtime.NumGoroutine") = false ∧ fn.body.isNone = false)
  {Y:Nat→List PV→Store→Option (PV×Store)} {D:List PV→Store→Option (PV×Store)}
  (hfresh:∀ (i v k e:Nat),σ.toks[i]?=some (v,k,e)→k=0→e≠eid) (hpd:∀ n,σ.objs.length≤n→qbW n fr=fr) (htd:∀ m,σ.toks.length≤m→qb8 m fr=fr)
  (hI:∀ gl':Gl,gl'.v=gl.v→qlt P gl' qdU (.yld eid Y)→SimS P gl' gf D)
  (hY:∀ gl':Gl,gl'.v=gl.v→∀ t args σ x σ',Y t args σ=some (x,σ')→∃ fr1 σ1 ex fr2 σ2,args.length=ps.size∧Does P gl' assign (puts fr ps.toList args) σ .normal fr1 σ1∧σ1.toks[t]?=some (0,0,eid) ∧
   Does P gl' body fr1 { σ1 with toks:=σ1.toks.set t (1,0,eid) } ex fr2 σ2∧σ2.toks[t]?=some (1,0,eid)∧x=.bool (isNo ex)∧σ'={ σ2 with toks:=σ2.toks.set t (stOf ex,0,eid) })
  {x:PV} {σ2:Store} {s:Nat} (hD:D (.yld σ.toks.length::caps) { σ with toks:=σ.toks++[(0,0,eid)] }=some (x,σ2)) (hs:σ2.toks[σ.toks.length]?=some (s,0,eid)) (hs1:s≠1) :
  Does P gl (.rangeFunc g ps assign body) fr σ (exOf s) fr (qdV σ.toks.length σ2):=by
 intro r n H0 w0 hR Q a w hst hq;obtain⟨H,hev,hok,hfr,hmk⟩:=hst;have hHt:H.tk.length=σ.toks.length:=by rw [← hok.tkl];simp
 have hrg:=qbn hfr g;rw [hg] at hrg;generalize hv:a.eval g=gv at hrg;cases hrg with
 |fn _ _ lb hcaps =>
 refine wpIn_rangeFunc ?_;intro fn hfn
 -- entering: the record;at an outermost loop the block of the rounds' deferred calls
 obtain⟨mark,W0,rec,hent',hb0,hdr0,hrecf,hmark⟩:∃ (mark:List Deferred) (W0:World) (rec:Loop),(Instr.enterLoop fn a.tmps ps assign body (rnd r).round).run P w=.ok (W0.heap.size,mark) (W0.alloc (.loop rec)) ∧
   Below w.heap.size w W0∧W0.drawn=w.drawn∧(rec.state=.ready∧rec.pending=none∧rec.tmps=a.tmps∧rec.params=ps∧rec.assign=assign∧rec.body=body)∧Marks H.K (mark++a.defers) W0:=by
  cases r with
  |none =>
   refine⟨[{ target:=.collected w.heap.size,args:=#[] }],w.alloc (.deferred (some [])),{ state:=.ready,pending:=none,fn,tmps:=a.tmps,params:=ps,assign,body,defers:=w.heap.size },?_,qbu w _,rfl,⟨rfl,rfl,rfl,rfl,rfl,rfl⟩,?_⟩
   ·have:=run_enterLoop_outer (P:=P) (w:=w) fn a.tmps ps assign body;rw [show w.heap.size+1=(w.alloc (.deferred (some []))).heap.size from by simp] at this
    exact this
   ·obtain⟨k1,Ds,k2,k3,k4⟩:=hmk;refine⟨Nat.le_trans k1 (by simp),w.heap.size::Ds,by rw [k2];rfl,List.nodup_cons.2 ⟨fun hm=>?_,k3⟩,fun D' hD'=>?_⟩
    ·have:=qaj (k4 _ hm).2;omega
    ·cases hD' with
     |head=>exact⟨k1,World.alloc_heap_new w _⟩
     |tail _ hD'=>exact⟨(k4 D' hD').1,((qbu w _).block D' (qaj (k4 D' hD').2)).trans (k4 D' hD').2⟩
  |some l0 =>
   obtain⟨t0,T0,ht0,hk0,rfl⟩:=hR.ev hev l0 rfl;obtain⟨_,_,o,ho,hTO⟩:=hok.tok t0 T0 ht0 (fun hh=>hh.2 hk0)
   obtain⟨r0,rfl⟩:∃ r0,o=.loop r0:=by
    rcases hTO with⟨h1,_⟩|⟨_,_,r0,h3,_⟩
    ·exact absurd hk0 h1
    ·exact⟨r0,h3⟩
   exact⟨[],w,{ state:=.ready,pending:=none,fn,tmps:=a.tmps,params:=ps,assign,body,defers:=r0.defers },run_enterLoop_inner ho fn a.tmps ps assign body,Below.refl _ w,rfl,⟨rfl,rfl,rfl,rfl,rfl,rfl⟩,hmk⟩
 obtain⟨q1,q2,q3,q4,q5,q6⟩:=hrecf
 -- the world with the record
 obtain⟨gl',hgl'⟩:∃ gl',gl'=glR gl eid rec fr:=⟨_,rfl⟩;have hgv:gl'.v=gl.v:=by rw [hgl'];rfl
 have hglp:gl'.lp eid=recS rec:=by rw [hgl'];simp [glR]
 have hgfr:gl'.fr eid=fr:=by rw [hgl'];simp [glR]
 have hother:∀ e,e≠eid→gl'.lp e=gl.lp e∧gl'.fr e=gl.fr e:=fun e he=>by rw [hgl'];constructor<;>simp [glR,he]
 have hfreshT:∀ (t:Nat) (T:Tok),H.tk[t]?=some T→T.k=0→T.e≠eid:=fun t T hT hk=>by
  refine hfresh t T.ver T.k T.e ?_ hk;rw [← hok.tkl,List.getElem?_map,hT];rfl
 have hok0:Ok gl' H σ W0:=(hok.of_below hb0).lp hgv fun t T hT hk=>hother T.e (hfreshT t T hT hk)
 have hm0:Mono H w H W0:=Mono.of_below hok.B hb0;have hrs:gl'.lp eid 0=.loop rec:=by
  rw [hglp];unfold recS qie;simp only [if_true];rw [← q1,if_neg (by omega:¬ (0=2)),if_neg (by omega:¬ (3≤0)),← q2]
 obtain⟨hm1,hok1,hT1⟩:=qEu (e:=eid) (s:=0) hok0 hrs (by rw [hgfr,q3];exact hfr.mono hm0) (by rw [hgfr];intro n hn;exact hpd n (by rw [← hok.len];exact hn)) (by rw [hgfr];intro m hm;exact htd m (by rw [← hHt];exact hm))
 obtain⟨T,hT⟩:∃ T:Tok,T=⟨W0.heap.size,0,H.ob.length,0,eid⟩:=⟨_,rfl⟩;obtain⟨H1,hH1⟩:∃ H1:Gh,H1={ H with tk:=H.tk++[T] }:=⟨_,rfl⟩
 rw [← hT] at hm1 hok1 hT1;rw [← hH1] at hm1 hok1;obtain⟨W1,hW1⟩:∃ W1,W1=W0.alloc (.loop rec):=⟨_,rfl⟩;rw [← hW1] at hm1 hok1;have hb1:Below w.heap.size w W1:=by rw [hW1];exact hb0.alloc hb0.size _
 -- the call
 have hcon:qlt P gl' qdU (.yld eid Y):=qFE (r:=rec) hglp (by rw [hgfr,q4,q5,q6];exact hY gl' hgv)
 have hS:=hI gl' hgv hcon;have hyr:Rel H1 W1 (.yld σ.toks.length) (.func (.yield W0.heap.size) #[] #[]):=by
  have:=Rel.yld (H:=H1) (w:=W1) σ.toks.length T (by rw [hH1];exact hT1) (by rw [hT])
  rw [show T.blk=W0.heap.size from by rw [hT]] at this
  exact this
 have hcall:=hS.run _ _ _ _ hD H1 W1 (.func (.yield W0.heap.size) #[] #[]::lb) hok1 (.cons _ _ _ _ hyr (hcaps.mono (hm0.trans hm1)));obtain⟨gfn,hgf,hgn,hgb⟩:=hent;refine⟨W0.heap.size,mark,W1,{ target:=.fn (.func gf) lb.toArray,args:=#[.func (.yield W0.heap.size) #[] #[]] },W1,gf,(.func (.yield W0.heap.size) #[] #[]::lb).toArray,W1,by rw [hW1];exact hent',?_,fun _ _=>trivial,?_,(fun h=>by cases h),?_⟩
 ·simp only [resolve,hv];simp [go_sem]
 ·have e1:(#[(Value.func (.yield W0.heap.size) #[] #[])]:Array Value)++lb.toArray=(Value.func (.yield W0.heap.size) #[] #[]::lb).toArray:=by
   apply Array.ext';simp
  simp only [invoke,callFunc,Sem.run_bind,run_program,Result.andThen_ok,hgf,hgn,hgb,Bool.false_eq_true,if_false,Sem.run_pure,e1]
 ·refine CallsIn.mono (qm2 hcall) ?_;rintro e w3 ⟨v,rfl,H2,hevI,hok2,hv2⟩
  -- behind the function
  have hsz2:σ2.toks.length=H2.tk.length:=by rw [← hok2.tkl];simp
  obtain⟨T2,hT2,hu2⟩:=hevI.tok σ.toks.length T (by rw [hH1];exact hT1)
  obtain⟨k2,blk2,ee2,cap2⟩:=hu2.lp (by rw [hT])
  have ev2:T2.ver=s∧T2.e=eid:=by
   have:(T2.ver,T2.k,T2.e)=(s,0,eid):=by
    rw [← hok2.tkl,List.getElem?_map,hT2] at hs;simpa using hs
   simp only [Prod.mk.injEq] at this;exact⟨this.1,this.2.2⟩
  have blk2':T2.blk=W0.heap.size:=by rw [blk2,hT]
  have hT2nv:¬ T2.vir:=fun hh=>hh.2 k2
  obtain⟨hB2,_,o2,ho2,hTO2⟩:=hok2.tok _ T2 hT2 hT2nv;have hl2:w3.heap[W0.heap.size]?=some (recS rec s):=by
   rcases hTO2 with⟨h1,_⟩|⟨_,h2,_⟩
   ·exact absurd k2 h1
   ·rw [ev2.1,ev2.2,hglp] at h2;rw [← blk2',ho2,h2]
  rw [blk2'] at hB2;have hBl:H.B≤W0.heap.size:=by rw [hevI.B,hH1] at hB2;exact hB2
  have hend:=run_endLoop (P:=P) (w:=w3) (l:=W0.heap.size) (r:={ rec with state:=if s=0 then .ready else if s=1 then .busy else .done,pending:=qie s }) hl2 (by
   by_cases h0:s=0
   ·simp [h0]
   ·simp [h0,hs1])
  obtain⟨rx,hrx⟩:∃ rx:Loop,rx={ rec with state:=.exhausted,pending:=qie s }:=⟨_,rfl⟩
  obtain⟨w4,hw4⟩:∃ w4,w4=w3.putObj W0.heap.size (.loop rx):=⟨_,rfl⟩;have hend':(Instr.endLoop W0.heap.size).run P w3=.ok (qie s) w4:=by rw [hw4,hrx];exact hend
  -- the record is forgotten
  have hsz4:w4.heap.size=w3.heap.size:=by rw [hw4];exact qcb ..
  have hle1:w.heap.size≤W0.heap.size:=hb0.size;have hoth:∀ b,b≠W0.heap.size→w4.heap[b]?=w3.heap[b]?:=fun b hb=>by rw [hw4];exact World.putObj_heap_other hb
  have hH1t:∀ u,u < σ.toks.length→H1.tk[u]?=H.tk[u]?:=fun u hu=>by
   rw [hH1];show (H.tk++[T])[u]?=H.tk[u]?
   rw [List.getElem?_append_left (by omega)]
  have htrim:∀ u U,(H2.trim σ.toks.length).tk[u]?=some U→u < σ.toks.length∧H2.tk[u]?=some U:=fun u U hu=>qcQ hu
  have hokt:=qtU (m:=σ.toks.length) hok2;have hnb:∀ (u:Nat) (U:Tok),(H2.trim σ.toks.length).tk[u]?=some U→¬ U.vir→U.blk≠W0.heap.size:=fun u U hu hvU e=>by
   obtain⟨h1,h2⟩:=htrim u U hu;have:=hok2.tnd u σ.toks.length U T2 h2 hT2 hvU hT2nv (by rw [e,blk2'])
   omega
  have hok4:Ok gl' (H2.trim σ.toks.length) (qdV σ.toks.length σ2) w4:=by
   rw [hw4];exact qC2 hokt (by show H2.B≤_;rw [hevI.B,hH1];exact hBl) hl2 hnb
  have hold:∀ (u:Nat) (U:Tok),(H2.trim σ.toks.length).tk[u]?=some U→U.k=0→∃ U0,H.tk[u]?=some U0∧U0.k=0∧U.e=U0.e:=fun u U hu hk=>by
   obtain⟨h1,h2⟩:=htrim u U hu;obtain⟨U0,g1,g2⟩:=hevI.old u U h2 hk;obtain⟨U1,g3,g4⟩:=hevI.tok u U0 g1;rw [h2] at g3;cases g3
   rw [hH1t u h1] at g1;exact⟨U0,g1,g2,(g4.lp g2).2.2.1⟩
  have hok5:Ok gl (H2.trim σ.toks.length) (qdV σ.toks.length σ2) w4:=hok4.lp hgv.symm fun u U hu hk=>by
   obtain⟨U0,g1,g2,g3⟩:=hold u U hu hk;have:=hother U.e (by rw [g3];exact hfreshT u U0 g1 g2)
   exact⟨this.1.symm,this.2.symm⟩
  have hev5:Ev gl H w (H2.trim σ.toks.length) w4:=by
   refine⟨hevI.B.trans (by rw [hH1]),hevI.base.trans (by rw [hH1]),hevI.aux.trans (by rw [hH1]),hevI.K.trans (by rw [hH1]),?_,?_,?_,?_,fun id b hb=>hevI.ob id b (by rw [hH1];exact hb),fun u U hu=>?_,fun b off hp=>?_,fun b hb=>?_,?_,fun b ds hb=>?_,fun u U hu hk=>?_⟩
   ·rw [hw4];exact hevI.os.trans hb1.os
   ·rw [hw4];exact hevI.tape.trans hb1.tape
   ·rw [hw4];exact hevI.output.trans hb1.output
   ·rw [hsz4];exact Nat.le_trans hb1.size hevI.size
   ·have hlt:u < σ.toks.length:=by have:=(List.getElem?_eq_some_iff.1 hu).1;omega
    obtain⟨U',g1,g2⟩:=hevI.tok u U (by rw [hH1t u hlt];exact hu)
    exact⟨U',by simp only [Gh.trim];rw [List.getElem?_take,if_pos hlt];exact g1,g2⟩
   ·have hbne:b≠W0.heap.size:=fun e=>by have:=hp.1;omega
    obtain⟨p1,c1⟩:=(hm0.trans hm1).prot b off hp;obtain⟨p2,c2⟩:=hevI.prot b off p1;have p3:=qhe (m:=σ.toks.length) p2;exact⟨⟨by rw [hsz4];exact p3.1,p3.2⟩,fun s=>(World.cell?_of_block (a:=⟨b,off,s⟩) (hoth b hbne)).trans ((c2 s).trans (c1 s))⟩
   ·exact (hoth b (by omega)).trans ((hevI.block b (by rw [hH1];exact hb)).trans (hb1.block b (Nat.lt_of_lt_of_le hb hok.B)))
   ·intro hg;have h1:w.drawn≤W1.drawn:=by rw [hW1];show w.drawn≤W0.drawn;rw [hdr0];exact Nat.le_refl _
    have h2:=hevI.dr (fun b=>by rw [hgv];exact hg b)
    rw [hw4];exact Nat.le_trans h1 h2
   ·have hlt:=qaj hb;exact (hoth b (by omega)).trans (hevI.fix b ds ((hb1.block b hlt).trans hb))
   ·obtain⟨U0,g1,g2,_⟩:=hold u U hu hk;exact⟨U0,g1,g2⟩
  have hmk5:Marks (H2.trim σ.toks.length).K (mark++a.defers) w4:=by
   obtain⟨m1,Ds,m2,m3,m4⟩:=hmark;refine⟨?_,Ds,m2,m3,fun D' hD'=>⟨?_,?_⟩⟩
   ·rw [hev5.K];exact Nat.le_trans m1 (by rw [hsz4];refine Nat.le_trans ?_ hevI.size;rw [hW1];simp)
   ·rw [hev5.K];exact (m4 D' hD').1
   ·have hlt:=qaj (m4 D' hD').2;refine (hoth D' (by omega)).trans (hevI.fix D' _ ?_)
    rw [hW1];exact ((qbu W0 _).block D' hlt).trans (m4 D' hD').2
  have hst5:St gl H0 w0 fr (qdV σ.toks.length σ2) { a with defers:=mark++a.defers } w4:=⟨_,hev.trans hev5,hok5,hfr.mono hev5.mono,hmk5⟩
  have hfin:=hq _ _ hst5;refine⟨qie s,w4,hend',?_⟩;unfold exOf at hfin;unfold qie;by_cases h2:s=2
  ·simp only [h2,if_true] at hfin ⊢;exact wpIn_ret hfin
  ·by_cases h3:3≤s
   ·simp only [h2,h3,if_true,if_false] at hfin ⊢;exact wpIn_exit hfin
   ·simp only [h2,h3,if_false] at hfin ⊢;exact hfin
end Go.Pv
set_option linter.unusedSimpArgs false
set_option linter.unusedVariables false
namespace Go.Pv
open Go.RowKit Tr
mutual
def qlr (n m:Nat):PV→Bool
 |.ptr id _=>Nat.blt id n
 |.osl id _ _ _=>Nat.blt id n
 |.yld t=>Nat.blt t m
 |.sl _ _=>false
 |.ref cs=>qlp n m cs
 |.fn _ cs=>qlp n m cs
 |.iface _ v=>qlr n m v
 |.agg cs=>qlp n m cs
 |.tup cs=>qlp n m cs
 |_=>true
def qlp (n m:Nat):List PV→Bool
 |[]=>true
 |x::xs=>qlr n m x&&qlp n m xs
end
mutual
theorem qvH {n m:Nat}:∀ {x:PV},qlr n m x=true→(∀ n',n≤n'→qcJ n' x=x)∧∀ m',m≤m'→dropT m' x=x
 |.top,_=>⟨fun _ _=>rfl,fun _ _=>rfl⟩
 |.bool _,_=>⟨fun _ _=>rfl,fun _ _=>rfl⟩
 |.int _ _,_=>⟨fun _ _=>rfl,fun _ _=>rfl⟩
 |.str _,_=>⟨fun _ _=>rfl,fun _ _=>rfl⟩
 |.nilp,_=>⟨fun _ _=>rfl,fun _ _=>rfl⟩
 |.nilf,_=>⟨fun _ _=>rfl,fun _ _=>rfl⟩
 |.nili,_=>⟨fun _ _=>rfl,fun _ _=>rfl⟩
 |.ptr id off,h=>by
  have h:id < n:=by simpa [qlr] using h
  refine⟨fun n' hn=>?_,fun _ _=>rfl⟩
  simp only [qcJ];rw [show decide (id < n')=true from by simp;omega]
  rfl
 |.osl id off len k,h=>by
  have h:id < n:=by simpa [qlr] using h
  refine⟨fun n' hn=>?_,fun _ _=>rfl⟩
  simp only [qcJ];rw [show decide (id < n')=true from by simp;omega]
  rfl
 |.yld t,h=>by
  have h:t < m:=by simpa [qlr] using h
  refine⟨fun _ _=>rfl,fun m' hm=>?_⟩
  simp only [dropT];rw [show decide (t < m')=true from by simp;omega]
  rfl
 |.sl _ _,h=>by simp [qlr] at h
 |.ref cs,h=>by
  simp only [qlr] at h
  have:=qfx h;exact⟨fun n' hn=>by simp only [qcJ];rw [this.1 n' hn],fun m' hm=>by simp only [dropT];rw [this.2 m' hm]⟩
 |.fn f cs,h=>by
  simp only [qlr] at h
  have:=qfx h;exact⟨fun n' hn=>by simp only [qcJ];rw [this.1 n' hn],fun m' hm=>by simp only [dropT];rw [this.2 m' hm]⟩
 |.iface t v,h=>by
  simp only [qlr] at h
  have:=qvH h;exact⟨fun n' hn=>by simp only [qcJ];rw [this.1 n' hn],fun m' hm=>by simp only [dropT];rw [this.2 m' hm]⟩
 |.agg cs,h=>by
  simp only [qlr] at h
  have:=qfx h;exact⟨fun n' hn=>by simp only [qcJ];rw [this.1 n' hn],fun m' hm=>by simp only [dropT];rw [this.2 m' hm]⟩
 |.tup cs,h=>by
  simp only [qlr] at h
  have:=qfx h;exact⟨fun n' hn=>by simp only [qcJ];rw [this.1 n' hn],fun m' hm=>by simp only [dropT];rw [this.2 m' hm]⟩
theorem qfx {n m:Nat}:∀ {xs:List PV},qlp n m xs=true→(∀ n',n≤n'→qbW n' xs=xs)∧∀ m',m≤m'→qb8 m' xs=xs
 |[],_=>⟨fun _ _=>rfl,fun _ _=>rfl⟩
 |x::xs,h=>by
  simp only [qlp,Bool.and_eq_true] at h
  have h1:=qvH h.1;have h2:=qfx h.2;exact⟨fun n' hn=>by simp only [qbW];rw [h1.1 n' hn,h2.1 n' hn],fun m' hm=>by simp only [qb8];rw [h1.2 m' hm,h2.2 m' hm]⟩
end
def qDd:PV→PV→Bool
 |.top,.top=>true
 |.nilp,.nilp=>true
 |.ptr a b,.ptr c d=>Nat.beq a c&&Nat.beq b d
 |_,_=>false
def qvh:List PV→List PV→Bool
 |[],[]=>true
 |x::xs,y::ys=>qDd x y&&qvh xs ys
 |_,_=>false
theorem qBD:∀ {x y:PV},qDd x y=true→x=y:=by
 intro x y h;unfold qDd at h
 split at h
 ·rfl
 ·rfl
 ·simp only [Bool.and_eq_true] at h
  rw [Nat.eq_of_beq_eq_true h.1,Nat.eq_of_beq_eq_true h.2]
 ·cases h
theorem qr9:∀ {xs ys:List PV},qvh xs ys=true→xs=ys
 |[],[],_=>rfl
 |x::xs,y::ys,h=>by
  simp only [qvh,Bool.and_eq_true] at h
  rw [qBD h.1,qr9 h.2]
 |[],_::_,h=>by cases h
 |_::_,[],h=>by cases h
structure RI where
 nt:Nat
 ss:List Nat
 bs:List Nat
 vs:List PV
 ps:List Nat
 e:Nat
def RI.fr (I:RI):List PV:=Go.Pv.mk I.nt (I.bs.zip I.vs)
def qwK (k:Nat):Code→Option Code
 |.seq a b=>match qwK k a with
  |some c=>some c
  |none=>qwK k b
 |.cond _ a b=>match qwK k a with
  |some c=>some c
  |none=>qwK k b
 |.block _ c=>qwK k c
 |.rangeFunc g ps x y=>if rfid x y=k then some (.rangeFunc g ps x y) else none
 |_=>none
def rngC (fn:Func) (k:Nat):Code:=match fn.body with
 |some c=>(qwK k c).getD .skip
 |none=>.skip
def rngX:Code→Code
 |.rangeFunc _ _ x _=>x
 |_=>.skip
def rngY:Code→Code
 |.rangeFunc _ _ _ y=>y
 |_=>.skip
def rngG:Code→Operand
 |.rangeFunc g _ _ _=>g
 |_=>.tmp 0
def rngP:Code→Array Tmp
 |.rangeFunc _ ps _ _=>ps
 |_=>#[]
def rngO (c:Code):Code:=.rangeFunc (rngG c) (rngP c) (rngX c) (rngY c)
def qjl (n:Nat) (σ:Store):Store:=if σ.objs.length≤n then σ else dropS n σ
def trimR (n m:Nat) (σ:Store):Store :=
 if (qjl n σ).toks.length≤max m (qnc (qjl n σ).objs) then qjl n σ else qdV (max m (qnc (qjl n σ).objs)) (qjl n σ)
def qsl (tb:Tab) (G:GamT) (L:LpsT) (I:RI) (x y:Code) (t:Nat) (args:List PV) (σ:Store):Tr (Bool×Store) :=
 if args.length=I.ps.length then
  bind (texec tb G L x [] (puts I.fr I.ps args) σ) fun r=>match r.1 with
   |.normal=>match r.2.2.2.toks[t]? with
    |some (0,0,e)=>if e=I.e then
      bind (texec tb G L y [] r.2.2.1 { r.2.2.2 with toks:=r.2.2.2.toks.set t (1,0,I.e) }) fun q=>match q.2.2.2.toks[t]? with
       |some (1,0,e)=>if e=I.e then .ret (isNo q.1,{ q.2.2.2 with toks:=q.2.2.2.toks.set t (stOf q.1,0,I.e) }) else .fail
       |_=>.fail
     else .fail
    |_=>.fail
   |_=>.fail
 else .fail
def rtree (tb:Tab) (G:GamT) (L:LpsT) (I:RI) (x y:Code) (t:Nat) (args:List PV) (σ:Store):Tr (PV×Store) :=
 bind (qsl tb G L I x y t args σ) fun r=>.ret (.bool r.1,trimR σ.objs.length σ.toks.length r.2)
def quR (e:Nat):List (Nat×Nat×TypeId)→Bool
 |[]=>true
 |(_,k,e')::l=>(!Nat.beq k 0 || !Nat.beq e' e)&&quR e l
theorem qr0 {e:Nat}:∀ {l:List (Nat×Nat×TypeId)},quR e l=true→∀ (i v k e':Nat),l[i]?=some (v,k,e')→k=0→e'≠e
 |[],_,i,v,k,e',h,_=>by cases i<;>cases h
 |(v0,k0,e0)::l,h,i,v,k,e',hi,hk=>by
  simp only [quR,Bool.and_eq_true] at h
  cases i with
  |zero =>
   cases hi
   subst hk;intro e1;subst e1;simp at h
  |succ i=>exact qr0 h.2 i v k e' hi hk
def rorc (I:RI) (g:Operand) (gf:FuncId) (D:List PV→Store→Tr (PV×Store)) (fr:List PV) (σ:Store):Tr (PExit×List PV×Store) :=
 if fr.length=I.nt then
  match ev (mk I.nt (I.ss.zip (rsl I.ss fr))) g with
  |.fn f caps =>
   if f=gf then
    if qvh (rsl I.bs (mk I.nt (I.ss.zip (rsl I.ss fr)))) I.vs&&quR I.e σ.toks&&qlp σ.objs.length σ.toks.length (mk I.nt (I.ss.zip (rsl I.ss fr))) then
     bind (D (.yld σ.toks.length::caps) { σ with toks:=σ.toks++[(0,0,I.e)] }) fun r=>match r.2.toks[σ.toks.length]? with
      |some (s,0,e)=>if e=I.e then if s=1 then .fail else .ret (exOf s,mk I.nt (I.ss.zip (rsl I.ss fr)),qjl σ.objs.length (qdV σ.toks.length r.2)) else .fail
      |_=>.fail
    else .fail
   else .fail
  |_=>.fail
 else .fail
theorem qeS {α β:Type} (f:α→β):∀ (t:Tr α),(bind t fun r=>.ret (f r)).run=t.run.map f
 |.ret a=>rfl
 |.fail=>rfl
 |.ite b x y=>by
  simp only [Tr.bind,Tr.run_ite];cases b<;>simp [qeS f x,qeS f y]
 |.get xs i z k=>by
  simp only [Tr.bind,Tr.run_get];cases xs[i]? with
  |none=>rfl
  |some cs=>exact qeS f (k cs)
section
variable {P : Program} {tb : Tab} {gl : Gl}
theorem Does.into {c:Code} {fr fr1:List PV} {σ:Store} {e:PExit} {fr':List PV} {σ':Store} (hw:Weak fr fr1) (h:Does P gl c fr1 σ e fr' σ'):Does P gl c fr σ e fr' σ' :=
 fun r n H0 w0 hR Q a w hst hq=>h r n H0 w0 hR Q a w (qub hw hst) hq
theorem qpl (l:List (Nat×PV)):∀ (n i:Nat),(qdn l n i).length=n
 |0,_=>rfl
 |n+1,i=>by simp [qdn,qpl l n (i+1)]
theorem qEO (n:Nat) (l:List (Nat×PV)):(mk n l).length=n:=qpl l n 0
theorem Weak.set:∀ {xs ys:List PV} (i:Nat) (x:PV),Weak xs ys→Weak (xs.set i x) (ys.set i x)
 |[],[],_,_,_=>trivial
 |a::xs,b::ys,0,x,h=>⟨.inr rfl,h.2⟩
 |a::xs,b::ys,i+1,x,h=>⟨h.1,Weak.set i x h.2⟩
 |[],_::_,_,_,h=>by cases h
 |_::_,[],_,_,h=>by cases h
theorem Weak.puts:∀ (ps:List Tmp) (zs:List PV) {xs ys:List PV},Weak xs ys→Weak (puts xs ps zs) (puts ys ps zs)
 |[],_,_,_,h=>by simpa [Go.Pv.puts] using h
 |_::_,[],_,_,h=>by simpa [Go.Pv.puts] using h
 |p::ps,a::zs,xs,ys,h=>by
  simp only [Go.Pv.puts];exact Weak.puts ps zs (h.set p a)
theorem qxh {G:GamT} {L:LpsT} {I:RI} {x y:Code} (hT:qbF P tb) (hΓ:qa3 P gl (gam G)) (hm:P.follows .mixedOrders=true) (hLx:qb2 P gl (lps L) x) (hLy:qb2 P gl (lps L) y) (hdx:qbo (gam G) x=true) (hdy:qbo (gam G) y=true)
  {t:Nat} {args:List PV} {σ:Store} {b:Bool} {σ':Store} (h:(qsl tb G L I x y t args σ).run=some (b,σ')) {fr:List PV} (hw:Weak fr I.fr) :
  ∃ fr1 σ1 ex fr2 σ2,args.length=I.ps.length∧Does P gl x (puts fr I.ps args) σ .normal fr1 σ1∧σ1.toks[t]?=some (0,0,I.e) ∧
   Does P gl y fr1 { σ1 with toks:=σ1.toks.set t (1,0,I.e) } ex fr2 σ2∧σ2.toks[t]?=some (1,0,I.e)∧b=isNo ex∧σ'={ σ2 with toks:=σ2.toks.set t (stOf ex,0,I.e) }:=by
 unfold qsl at h
 split at h
 ·rename_i hl;obtain⟨⟨e1,kn1,fr1,σ1⟩,h1,h2⟩:=bind_some h;have d1:=Does.into (Weak.puts I.ps args hw) (Does.of_tree hT hΓ hm hLx hdx h1);simp only at h2;cases e1 with
  |normal =>
   simp only at h2;split at h2
   ·rename_i e ht;split at h2
    ·rename_i hee;subst hee;obtain⟨⟨ex,kn2,fr2,σ2⟩,h3,h4⟩:=bind_some h2;have d2:=Does.of_tree hT hΓ hm hLy hdy h3;simp only at h4;split at h4
     ·rename_i e ht2;split at h4
      ·rename_i hee;simp only [Tr.run_ret,Option.some.injEq,Prod.mk.injEq] at h4;refine⟨fr1,σ1,ex,fr2,_,hl,d1,ht,d2,?_,h4.1.symm,h4.2.symm⟩;rw [ht2,hee]
      ·cases h4
     ·cases h4
    ·cases h2
   ·cases h2
  |exit j=>cases h2
  |ret=>cases h2
 ·cases h
theorem Post.dropS {H:Gh} {σ σ':Store} {w w':World} {b:Bool} {v:Value} {n:Nat} (hok:Ok gl H σ w) (hn:σ.objs.length≤n) (h:Post gl H w (.bool b) σ' v w'):Post gl H w (.bool b) (Go.Pv.dropS n σ') v w':=by
 obtain⟨H',hev,hok',hx⟩:=h;have hn':H.ob.length≤n:=by rw [hok.len];exact hn
 refine⟨H'.keep n,⟨hev.B,hev.base,hev.aux,hev.K,hev.os,hev.tape,hev.output,hev.size,fun id b hid=>?_,hev.tok,fun b off hp=>⟨qjC (hev.prot b off hp).1,(hev.prot b off hp).2⟩,hev.block,hev.dr,hev.fix,hev.old⟩,qyN hok' (fun t T e hk=>?_),?_⟩
 ·simp only [Gh.keep];rw [List.getElem?_take,if_pos (Nat.lt_of_lt_of_le (List.getElem?_eq_some_iff.1 hid).1 hn')];exact hev.ob id b hid
 ·obtain⟨T0,e0,k0⟩:=hev.old t T e hk;obtain⟨T1,e1,u⟩:=hev.tok t T0 e0;rw [e] at e1;cases e1
  rw [(u.lp k0).2.2.2];obtain⟨_,_,o,_,ho⟩:=hok.tok t T0 e0 (fun hh=>hh.2 k0)
  rcases ho with⟨h1,_⟩|⟨_,_,r,_,_,_,h6,_⟩
  ·exact absurd k0 h1
  ·omega
 ·cases hx
  exact .bool b
theorem Post.dropT {H:Gh} {σ σ':Store} {w w':World} {b:Bool} {v:Value} {m:Nat} (hok:Ok gl H σ w) (hm:σ.toks.length≤m) (h:Post gl H w (.bool b) σ' v w'):Post gl H w (.bool b) (qdV m σ') v w':=by
 obtain⟨H',hev,hok',hx⟩:=h;have hl:H.tk.length≤m:=by
  have:=congrArg List.length hok.tkl;simp at this;omega
 refine⟨H'.trim m,⟨hev.B,hev.base,hev.aux,hev.K,hev.os,hev.tape,hev.output,hev.size,hev.ob,fun t T ht=>?_,fun b off hp=>⟨qhe (hev.prot b off hp).1,(hev.prot b off hp).2⟩,hev.block,hev.dr,hev.fix,fun t T e hk=>hev.old t T (qcQ e).2 hk⟩,qtU hok',?_⟩
 ·obtain⟨T',h1,h2⟩:=hev.tok t T ht;refine⟨T',?_,h2⟩;simp only [Gh.trim];rw [List.getElem?_take,if_pos (Nat.lt_of_lt_of_le (List.getElem?_eq_some_iff.1 ht).1 hl)];exact h1
 ·cases hx
  exact .bool b
theorem Post.trimR {H:Gh} {σ σ':Store} {w w':World} {b:Bool} {v:Value} {n m:Nat} (hok:Ok gl H σ w) (hn:σ.objs.length≤n) (hm:σ.toks.length≤m) (h:Post gl H w (.bool b) σ' v w'):Post gl H w (.bool b) (Go.Pv.trimR n m σ') v w':=by
 have h1:Post gl H w (.bool b) (qjl n σ') v w':=by
  unfold qjl;split
  ·exact h
  ·exact h.dropS hok hn
 unfold Go.Pv.trimR;split
 ·exact h1
 ·exact h1.dropT hok (Nat.le_trans hm (Nat.le_max_left _ _))
theorem YCalls.mono {P:Program} {l:Nat} {args:Array Value} {w:World} {R R':Ending→World→Prop} (h:YCalls P l args w R) (hR:∀ e w',R e w'→R' e w'):YCalls P l args w R':=by
 obtain⟨f,tmps,assign,body,h1,h2⟩:=h;exact⟨f,tmps,assign,body,h1,h2.mono hR⟩
theorem qvS {e:Nat} {Y0:Nat→List PV→Store→Option (Bool×Store)} (h:qlt P gl qdU (.yld e fun t args σ=>(Y0 t args σ).map fun r=>(.bool r.1,r.2))) :
  qlt P gl qdU (.yld e fun t args σ=>(Y0 t args σ).map fun r=>(.bool r.1,trimR σ.objs.length σ.toks.length r.2)):=by
 intro t args σ x σ' ht hy H w vs T hok hr hT;obtain⟨r,hr0,he⟩:=Option.map_eq_some_iff.1 hy;simp only [Prod.mk.injEq] at he;obtain⟨rfl,rfl⟩:=he;refine YCalls.mono (h t args σ (.bool r.1) r.2 ht (by simp only [hr0,Option.map_some]) H w vs T hok hr hT) ?_
 rintro e w' ⟨v,rfl,hp⟩;exact⟨v,rfl,hp.trimR hok (Nat.le_refl _) (Nat.le_refl _)⟩
theorem qDf {G:GamT} {L:LpsT} {I:RI} {g:Operand} {ps:Array Tmp} {x y:Code} {gf:FuncId} {D:List PV→Store→Tr (PV×Store)} (hT:qbF P tb) (hΓ:∀ gl':Gl,gl'.v=gl.v→qa3 P gl' (gam G)) (hm:P.follows .mixedOrders=true)
  (hLx:∀ gl':Gl,gl'.v=gl.v→qb2 P gl' (lps L) x) (hLy:∀ gl':Gl,gl'.v=gl.v→qb2 P gl' (lps L) y) (hdx:qbo (gam G) x=true) (hdy:qbo (gam G) y=true) (hps:ps.toList=I.ps)
  (hent : ∃ fn, P.funcs[gf]? = some fn ∧ (fn.name == "runtime.NumGoroutine") = false ∧ fn.body.isNone = false)
  (hI:∀ gl':Gl,gl'.v=gl.v→qlt P gl' qdU (.yld I.e fun t args σ=>(rtree tb G L I x y t args σ).run)→SimS P gl' gf fun args σ=>(D args σ).run) :
  ∀ fr σ e fr' σ',(rorc I g gf D fr σ).run=some (e,fr',σ')→Does P gl (.rangeFunc g ps x y) fr σ e fr' σ':=by
 intro fr σ e fr' σ' h;unfold rorc at h
 split at h
 ·rename_i hn;have hw:=qjM fr I.ss;rw [hn] at hw;generalize hfr1:mk I.nt (I.ss.zip (rsl I.ss fr))=fr1 at h hw;have hl1:fr1.length=I.nt:=by rw [← hfr1];exact qEO _ _
  split at h
  ·rename_i f caps hg;split at h
   ·rename_i hf;subst hf;split at h
    ·rename_i hk;simp only [Bool.and_eq_true] at hk;obtain⟨⟨hk1,hk2⟩,hk3⟩:=hk;obtain⟨⟨v,σ2⟩,h1,h2⟩:=bind_some h;have hkeep:=qfx hk3;simp only at h2;split at h2
     ·rename_i s e' hs;split at h2
      ·rename_i hee;subst hee;split at h2
       ·cases h2
       ·rename_i hs1;simp only [Tr.run_ret,Option.some.injEq,Prod.mk.injEq] at h2;obtain⟨rfl,rfl,rfl⟩:=h2;have hw2:Weak fr1 I.fr:=by
         have:=qjM fr1 I.bs;rw [hl1,qr9 hk1] at this;exact this
        have hd:=qwc (P:=P) (gl:=gl) (g:=g) (ps:=ps) (assign:=x) (body:=y) (fr:=fr1) (σ:=σ) hg I.e hent (Y:=fun t args σ=>(qsl tb G L I x y t args σ).run.map fun r=>(.bool r.1,r.2)) (D:=fun args σ=>(D args σ).run)
         (qr0 hk2) hkeep.1 hkeep.2 (fun gl' hv hc=>hI gl' hv (by
          have:=qvS (Y0:=fun t args σ=>(qsl tb G L I x y t args σ).run) hc
          simp only [rtree,qeS];exact this)) (fun gl' hv t args σ x' σ' hy=>by
          obtain⟨r,hr,he⟩:=Option.map_eq_some_iff.1 hy;simp only [Prod.mk.injEq] at he;obtain⟨rfl,rfl⟩:=he;obtain⟨q1,q2,q3,q4,q5,q6,q7,q8,q9,q10,q11⟩:=qxh hT (hΓ gl' hv) hm (hLx gl' hv) (hLy gl' hv) hdx hdy hr hw2;rw [hps];exact⟨q1,q2,q3,q4,q5,by rw [q6,← hps];simp,q7,q8,q9,q10,by rw [q11.1],q11.2⟩) h1 hs hs1
        have hd2:=Does.into hw hd;unfold qjl;split
        ·exact hd2
        ·have:=hd2.drop (n:=σ.objs.length) (Nat.le_refl _);rw [hkeep.1 _ (Nat.le_refl _)] at this;exact this
      ·cases h2
     ·cases h2
    ·cases h
   ·cases h
  ·cases h
 ·cases h
end
end Go.Pv
set_option linter.unusedSimpArgs false
set_option linter.unusedVariables false
namespace Go.Pv
section
variable {α : Type} (C : Cod α)
theorem qaB (l:List α) (i:Nat):(rOf C l).getD i []=match l[i]? with|some a=>C.enc a|none=>[]:=by
 rw [List.getD_eq_getElem?_getD,qxI];cases l[i]?<;>rfl
theorem qAw (z:List PV) (l:List α) (i:Nat) (h:∀ a,selF z [C.enc a] 0 0=C.enc a) (hs:∀ (xs:qR) (k j:Nat) (c:List PV),xs[k]?=some c→selF z xs k j=selF z [c] 0 j):qbx z (rOf C l) i=decide (i < l.length):=by
 unfold qbx
 congr 1
 rw [qxI];cases hi:l[i]? with
 |none =>
  have:¬ i < l.length:=by simpa using hi
  simp [this]
 |some a =>
  have hl:=(List.getElem?_eq_some_iff.1 hi).1;have hx:(rOf C l)[i]?=some (C.enc a):=by simp [hi]
  rw [hs _ _ _ _ hx,h];simp [hl]
end
theorem qCy (c:PV) {xs:List (List PV)} {k j:Nat} {d:List PV} (h:xs[k]?=some d):selC c xs k j=selC c [d] 0 j:=by
 have e:xs.getD k []=d:=by rw [List.getD_eq_getElem?_getD,h];rfl
 have e':([d]:List (List PV)).getD 0 []=d:=rfl;cases c<;>simp only [selC,xInt,qfu,xStr,xRow,xPV,e,e']
theorem qyD:∀ (z:List PV) (xs:qR) (k j:Nat) (d:List PV),xs[k]?=some d→selF z xs k j=selF z [d] 0 j
 |[],_,_,_,_,_=>rfl
 |c::z,xs,k,j,d,h=>by simp only [selF];rw [qCy c h,qyD z xs k (j+1) d h]
theorem qcI {α:Type} (C:Cod α) (z:List PV) (h:∀ a,selF z [C.enc a] 0 0=C.enc a) (l:List α) (i:Nat):qbx z (rOf C l) i=decide (i < l.length):=qAw C z l i h (qyD z)
@[simp] theorem okGet_cI (l:List Int) (i:Nat):qbx [.int .i64 0] (rOf cI l) i=decide (i < l.length):=qcI _ _ (fun _=>rfl) l i
@[simp] theorem xInt_cI0 (l:List Int) (i:Nat):xInt (rOf cI l) i 0=(l[i]?.getD 0):=by unfold xInt;rw [qaB];cases l[i]?<;>rfl
@[simp] theorem okGet_cM (l:List Tm) (i:Nat):qbx [.int .i64 0,.str [],.int .i64 0,.int .i64 0,.str []] (rOf cM l) i=decide (i < l.length):=qcI _ _ (fun _=>rfl) l i
@[simp] theorem xInt_cM0 (l:List Tm) (i:Nat):xInt (rOf cM l) i 0=(l[i]?.getD (0,[],0,0,[])).1:=by unfold xInt;rw [qaB];cases l[i]?<;>rfl
@[simp] theorem xStr_cM1 (l:List Tm) (i:Nat):xStr (rOf cM l) i 1=(l[i]?.getD (0,[],0,0,[])).2.1:=by unfold xStr;rw [qaB];cases l[i]?<;>rfl
@[simp] theorem xInt_cM2 (l:List Tm) (i:Nat):xInt (rOf cM l) i 2=(l[i]?.getD (0,[],0,0,[])).2.2.1:=by unfold xInt;rw [qaB];cases l[i]?<;>rfl
@[simp] theorem xInt_cM3 (l:List Tm) (i:Nat):xInt (rOf cM l) i 3=(l[i]?.getD (0,[],0,0,[])).2.2.2.1:=by unfold xInt;rw [qaB];cases l[i]?<;>rfl
@[simp] theorem xStr_cM4 (l:List Tm) (i:Nat):xStr (rOf cM l) i 4=(l[i]?.getD (0,[],0,0,[])).2.2.2.2:=by unfold xStr;rw [qaB];cases l[i]?<;>rfl
def cS:Cod (List UInt8) where
 enc s:=[.str s]
 dec c:=match c with|[.str s]=>some s|_=>none
 k:=1
 of_dec c a h:=by
  split at h
  ·cases h;rfl
  ·cases h
 dec_of a:=rfl
 lock a:=rfl
 shut a:=rfl
 len a:=rfl
 one a:=rfl
@[simp] theorem qhh (l:List (List UInt8)):qaD (rOf cS l) 1=true:=qb7 cS l
@[simp] theorem okNews_cS (l:List (List UInt8)):qbf (rOf cS l) 1=true:=qb4 cS l
@[simp] theorem okGet_cS (l:List (List UInt8)) (i:Nat):qbx [.str []] (rOf cS l) i=decide (i < l.length):=qcI _ _ (fun _=>rfl) l i
@[simp] theorem xStr_cS0 (l:List (List UInt8)) (i:Nat):xStr (rOf cS l) i 0=(l[i]?.getD []):=by unfold xStr;rw [qaB];cases l[i]?<;>rfl
@[simp] theorem qeo (s:qU):([[.str s]]:List (List PV))=rOf cS [s]:=rfl
@[simp] theorem qCu (l:List Tm) (a:Int) (b:qU) (k n:Int) (s:qU):rOf cM l++[[.int .i64 a,.str b,.int .i64 k,.int .i64 n,.str s]]=rOf cM (l++[(a,b,k,n,s)]):=by rw [qiO];rfl
@[simp] theorem one_cM (a:Int) (b:qU) (k n:Int) (s:qU):([[.int .i64 a,.str b,.int .i64 k,.int .i64 n,.str s]]:List (List PV))=rOf cM [(a,b,k,n,s)]:=rfl
@[simp] theorem rOf_append {α:Type} (C:Cod α) (a b:List α):rOf C a++rOf C b=rOf C (a++b):=(qiO C a b).symm
@[simp] theorem cons_cM (l:List Tm) (a:Int) (b:qU) (k n:Int) (s:qU):[.int .i64 a,.str b,.int .i64 k,.int .i64 n,.str s]::rOf cM l=rOf cM ((a,b,k,n,s)::l):=rfl
@[simp] theorem cons_cS (l:List (List UInt8)) (s:qU):[.str s]::rOf cS l=rOf cS (s::l):=rfl
@[simp] theorem lockLL_nil':qaa []=[]:=rfl
@[simp] theorem shutLL_nil':qcj []=[]:=rfl
@[simp] theorem dropPLL_nil' (n:Nat):qap n []=[]:=rfl
@[simp] theorem dropTLL_nil' (n:Nat):qcT n []=[]:=rfl
@[simp] theorem pnil_rOf {α:Type} (C:Cod α):(rOf C []:List (List PV))=[]:=rfl
theorem qbQ {i:Nat} (h:i < 9223372036854775807):iAdd .i64 (i:Int) 1=((i+1:Nat):Int):=qdF (by omega)
end Go.Pv
set_option maxHeartbeats 4000000
set_option maxRecDepth 200000
set_option linter.unusedSimpArgs false
set_option linter.unusedVariables false
namespace Go.Pv
open Go Go.Proofs Go.RowKit
def twosV:List (List UInt8):=[[58,45],[60,61],[62,61],[33,61]]
structure GlLex (gl:Gl):Prop extends GlOk gl where
 twos : VarIs gl "pedigree/lex.twos" (twosV.map fun l => Value.string ⟨l.toArray⟩).toArray
theorem GlPow.of_v {gl gl':Gl} (h:GlPow gl) (e:gl'.v=gl.v):GlPow gl':=by
 obtain⟨h⟩:=h;exact⟨by unfold VarIs at *;rw [e];exact h⟩
theorem GlOk.of_v {gl gl':Gl} (h:GlOk gl) (e:gl'.v=gl.v):GlOk gl':=by
 obtain⟨h1,h2,h3⟩:=h;exact⟨h1.of_v e,by unfold VarIs at *;rw [e];exact h2,by unfold VarIs at *;rw [e];exact h3⟩
theorem GlLex.of_v {gl gl':Gl} (h:GlLex gl) (e:gl'.v=gl.v):GlLex gl':=by
 obtain⟨h1,h2⟩:=h;exact⟨h1.of_v e,by unfold VarIs at *;rw [e];exact h2⟩
def qxU:List PV:=[.str [58,45],.str [60,61],.str [62,61],.str [33,61]]
theorem qwZ : Tryz.prog.globalNamed "pedigree/lex.twos" = some 0 := by kernel_rfl
theorem qvK {gl:Gl} (h:GlLex gl):qlt Tryz.prog gl (qui+0) (.glob qxU):=by
 obtain⟨g,T,f,h1,h2⟩:=h.twos;rw [qwZ] at h1;cases h1
 refine⟨_,T,f,by rw [Nat.add_sub_cancel_left];exact h2,fun H w=>?_⟩
 exact .cons _ _ _ _ (.str [58,45] (by decide)) (.cons _ _ _ _ (.str [60,61] (by decide)) (.cons _ _ _ _ (.str [62,61] (by decide)) (.cons _ _ _ _ (.str [33,61] (by decide)) .nil)))
theorem qz2:maxLen≤9223372036854775807:=by decide
def idxV (s:qU) (c:Int):Int:=Lib.indexByte s c.toNat.toUInt8
theorem qln (c:UInt8):∀ l:qU,Lib.indexByte l c≤l.length
 |[]=>by simp [Lib.indexByte]
 |b::l=>by
  have:=qln c l;unfold Lib.indexByte;split
  ·simp only [List.length_cons];omega
  ·split<;>simp only [List.length_cons]<;>omega
def qgB:List PV→Tr PV
 |[.str s,.int .u8 c]=>.ret (.int .i64 (idxV s c))
 |_=>.fail
theorem qjt (gl:Gl):SimP Tryz.prog gl 153 fun args=>(qgB args).run:=by
 refine⟨⟨_,Tryz.func153,by rfl,by rfl⟩,?_⟩
 intro args x hx H w vs hB hob htk hw hrel;unfold qgB at hx;split at hx
 ·rename_i s c;cases hx
  cases hrel with
  |cons _ v _ vs hv hvs =>
   cases hvs with
   |cons _ v2 _ vs hv2 hvs =>
    cases hvs
    cases hv with
    |str _ hl =>
     cases hv2
     refine (Tryz.strings_IndexByte ⟨s.toArray⟩ c w).mono ?_;rintro e w' ⟨rfl,rfl⟩;refine⟨_,rfl,⟨Below.refl _ _,Dr.of_eq rfl⟩,.int _ _ ?_⟩;have h1:=qln c.toNat.toUInt8 s;have h2:=Lib.indexByte_ge s c.toNat.toUInt8;have:=qz2;simp only [idxV];generalize Lib.indexByte s c.toNat.toUInt8=q at h1 h2 ⊢;simp [Lit.wf,IntKind.min,IntKind.max,IntKind.signed,IntKind.bits];omega
 ·cases hx
def qdj (l:List (List UInt8)) (sep:qU):List UInt8:=Lib.join l sep
def qfB (l:List (List UInt8)) (sep:qU):Bool:=decide (l.length≤140737488355328)&&decide ((qdj l sep).length≤140737488355328)
@[simp] theorem qb5 (l:List (List UInt8)) (sep:qU):qfB l sep=true↔l.length≤140737488355328∧(qdj l sep).length≤140737488355328:=by simp [qfB]
def qm3:List PV→Tr PV
 |[.sl r _,.str sep]=>Tr.chk (okR cS r) (Tr.chk (qfB (unR cS r) sep) (.ret (.str (qdj (unR cS r) sep))))
 |_=>.fail
theorem qzC {H:Gh} {w:World}:∀ {l:List (List UInt8)} {vss:List (List Value)},RelLL H w (rOf cS l) vss→vss=l.map fun s=>[Value.string ⟨s.toArray⟩]
 |[],_,h=>by cases h;rfl
 |s::l,_,h=>by
  rw [qBI] at h
  cases h with
  |cons _ v _ vs hv hvs =>
   have hv:RelL H w [.str s] v:=hv;cases hv with
   |cons _ u _ us hu hus =>
    cases hus
    cases hu
    rw [qzC hvs];rfl
theorem qj9 {gl:Gl} (hgl:GlPow gl):SimP Tryz.prog gl 88 fun args=>(qm3 args).run:=by
 refine⟨⟨_,Tryz.func88,by rfl,by rfl⟩,?_⟩
 intro args x hx H w vs hB hob htk hw hrel;unfold qm3 at hx;split at hx
 ·rename_i r tg sep;obtain⟨h1,hx⟩:=Tr.chk_some hx;obtain⟨h2,hx⟩:=Tr.chk_some hx;cases hx
  obtain⟨l,rfl⟩:=qEL cS h1;rw [qFS] at h2 ⊢;simp only [qb5] at h2;cases hrel with
  |cons _ v _ vs hv hvs =>
   cases hvs with
   |cons _ v2 _ vs hv2 hvs =>
    cases hvs
    cases hv2 with
    |str _ hs =>
     cases hv with
     |sl p len cap k _ vss _ hl hcap hm hll hrow htag =>
      rw [qDa] at hl;subst hl;have hvss:=qzC hll;subst hvss;cases l with
      |nil =>
       refine (Tryz.strings_Join_none p cap ⟨sep.toArray⟩ w).mono ?_;rintro e w' ⟨rfl,rfl⟩;exact⟨_,rfl,⟨Below.refl _ _,Dr.of_eq rfl⟩,.str _ (by simp [qdj,Lib.join_nil])⟩
      |cons s0 l0 =>
       obtain⟨hk,a,ha,_⟩:=hrow 0 [.string ⟨s0.toArray⟩] rfl;subst ha;have hk:k=1:=hk.symm;subst hk;have hcell:∀ (j:Nat) (s:qU),(s0::l0)[j]?=some s→w.cell? (a.add (j * 1))=some (.string ⟨s.toArray⟩)∧(a.add (j * 1)).block < w.heap.size:=fun j s hj=>by
        obtain⟨_,a',ha',hc⟩:=hrow j [.string ⟨s.toArray⟩] (by rw [List.getElem?_map,hj];rfl)
        cases ha'
        have:=hc 0 _ rfl;simp only [Addr.add,if_true] at this ⊢;exact⟨this.2,this.1.1⟩
       have h00:=hcell 0 s0 rfl;have hsp:a.spot=none:=by
        have:=World.cell?_spot h00.1;simpa [Addr.add] using this
       obtain⟨blk,off,spot⟩:=a;subst hsp;have hnn:l0.length+1=((s0::l0).map fun s=>(⟨s.toArray⟩:ByteArray)).length:=by simp
       have hcalls:=Tryz.strings_Join blk off cap ((s0::l0).map fun s=>⟨s.toArray⟩) ⟨sep.toArray⟩ w (fun j x hj=>by
        rw [List.getElem?_map] at hj;obtain⟨s,hs1,rfl⟩:=Option.map_eq_some_iff.1 hj;have:=(hcell j s hs1).1;simp only [Nat.mul_one] at this;by_cases hj0:j=0
        ·subst hj0;simpa [Addr.add] using this
        ·simpa [Addr.add,hj0] using this) (by simpa [Addr.add] using h00.2) (by simpa using h2.1) (by simpa using hcap) (by simpa [qdj,Function.comp_def] using h2.2)
       rw [← hnn] at hcalls;refine hcalls.mono ?_;rintro e w' ⟨rfl,hb⟩;have e1:(((s0::l0).map fun s=>(⟨s.toArray⟩:ByteArray)).map (·.data.toList))=s0::l0:=by simp [Function.comp_def]
       rw [e1];exact⟨_,rfl,⟨hb,hgl.dr _ _⟩,.str _ (Nat.le_trans h2.2 (by decide))⟩
 ·cases hx
end Go.Pv
set_option maxHeartbeats 4000000
set_option maxRecDepth 200000
set_option linter.unusedSimpArgs false
set_option linter.unusedVariables false
namespace Go.Pv
open Go Go.Proofs Go.RowKit
end Go.Pv
set_option maxHeartbeats 4000000
set_option maxRecDepth 200000
set_option linter.unusedSimpArgs false
set_option linter.unusedVariables false
namespace Go.Pv
open Go Go.Proofs
end Go.Pv
set_option maxHeartbeats 4000000
set_option maxRecDepth 200000
set_option linter.unusedSimpArgs false
set_option linter.unusedVariables false
namespace Go.Pv
open Go Go.Proofs Go.RowKit
def hexW:qU→UInt8
 |h1::h2::_=>UInt8.ofNat (qda .u8 (qwH h1.toNat * 16+qwH h2.toNat)).toNat
 |_=>0
end Go.Pv
set_option maxHeartbeats 4000000
set_option maxRecDepth 200000
set_option linter.unusedSimpArgs false
set_option linter.unusedVariables false
namespace Go.Pv
open Go Go.Proofs Go.RowKit
theorem qhE {u:Nat} (h:¬ u < 10):qh9 u=qh9 (u / 10)++[UInt8.ofNat (48+u % 10)]:=by
 conv=>lhs;unfold qh9
 rw [dif_neg h]
theorem qf8 {u:Nat} (h:u < 10):qh9 u=[UInt8.ofNat (48+u)]:=by
 unfold qh9;rw [dif_pos h]
theorem qrs {d:Nat} (h:d < 10):(UInt8.ofNat (48+d)).toNat=48+d:=by
 simp;omega
theorem qj1:∀ (k u:Nat),u < k→∀ c∈qh9 u,48≤c.toNat∧c.toNat≤57
 |0,u,h=>by omega
 |k+1,u,h=>by
  intro c hc;by_cases hu:u < 10
  ·rw [qf8 hu] at hc;simp only [List.mem_singleton] at hc;subst hc;have:=qrs hu;omega
  ·have hd:u % 10 < 10:=Nat.mod_lt _ (by omega)
   rw [qhE hu] at hc;rcases List.mem_append.1 hc with hc|hc
   ·exact qj1 k (u / 10) (by omega) c hc
   ·simp only [List.mem_singleton] at hc;subst hc;have:=qrs hd;omega
theorem quL (u:Nat):qh9 u≠[]:=by
 by_cases hu:u < 10
 ·rw [qf8 hu];simp
 ·rw [qhE hu];simp
theorem qhF (u:Nat):∃ c t,qh9 u=c::t∧48≤c.toNat∧c.toNat≤57:=by
 cases h:qh9 u with
 |nil=>exact absurd h (quL u)
 |cons c t =>
  have:=qj1 (u+1) u (by omega) c (by rw [h];simp)
  exact⟨c,t,rfl,this⟩
theorem qeq:∀ (k u:Nat),u < k→Lib.decDigits u=qh9 u
 |0,u,h=>by omega
 |k+1,u,h=>by
  by_cases hu:u < 10
  ·rw [qf8 hu,Lib.decDigits_one hu]
  ·rw [qhE hu,Lib.decDigits,dif_neg hu,qeq k (u / 10) (by omega)]
theorem qAN (n:Int):qyr n=intV n:=by
 unfold qyr Lib.itoa intV qt6;by_cases h:n < 0
 ·rw [if_pos h,if_pos h,qeq (n.natAbs+1) _ (by omega)]
  congr 2
  omega
 ·rw [if_neg h,if_neg h,qeq (n.toNat+1) _ (by omega)]
theorem qCr (M:Nat) (c:UInt8):∀ (l:qU) (a n:Nat),Lib.parseUintM M a l=.ok n→Lib.parseUintM M a (l++[c])=Lib.parseUintM M n [c]
 |[],a,n,h=>by simp [Lib.parseUintM] at h;subst h;rfl
 |d::l,a,n,h=>by
  simp only [List.cons_append,Lib.parseUintM] at h ⊢;split at h
  ·split at h
   ·cases h
   ·split at h
    ·cases h
    ·rename_i h1 h2 h3;rw [if_pos h1,if_neg h2,if_neg h3];exact qCr M c l _ n h
  ·cases h
theorem qtT:∀ (k u:Nat),u < k→u≤18446744073709551615→Lib.parseUintM 18446744073709551615 0 (qh9 u)=.ok u
 |0,u,h,_=>by omega
 |k+1,u,h,hm=>by
  by_cases hu:u < 10
  ·rw [qf8 hu];simp only [Lib.parseUintM,qrs hu];rw [if_pos (by omega),if_neg (by omega),if_neg (by omega)]
   congr 1
   omega
  ·have hd:u % 10 < 10:=Nat.mod_lt _ (by omega)
   rw [qhE hu,qCr _ _ _ _ (u / 10) (qtT k (u / 10) (by omega) (by omega))]
   simp only [Lib.parseUintM,qrs hd];rw [if_pos (by omega),if_neg (by omega),if_neg (by omega)]
   congr 1
   omega
theorem pInt {n:Int} (h:-9223372036854775808≤n∧n≤9223372036854775807):Lib.parseIntB 64 (intV n)=.ok n:=by
 unfold intV qt6;by_cases hn:n < 0
 ·rw [if_pos hn];have hp:=qtT ((-n).toNat+1) (-n).toNat (by omega) (by omega)
  have hne:=quL (-n).toNat;have e:(2 ^ 64 - 1:Nat)=18446744073709551615:=by decide
  have e2:(2 ^ (64 - 1):Nat)=9223372036854775808:=by decide
  have e3:(45:UInt8).toNat=45:=rfl;simp only [Lib.parseIntB,Lib.parseUintB,e3,e,e2,or_true,if_true,if_neg hne,hp];rw [if_neg (by simp),if_neg (by simp;omega)]
  congr 1
  simp;omega
 ·rw [if_neg hn];have hp:=qtT (n.toNat+1) n.toNat (by omega) (by omega)
  obtain⟨c,t,ht,hc1,hc2⟩:=qhF n.toNat;have e:(2 ^ 64 - 1:Nat)=18446744073709551615:=by decide
  have e2:(2 ^ (64 - 1):Nat)=9223372036854775808:=by decide
  rw [ht] at hp ⊢;simp only [Lib.parseIntB,Lib.parseUintB];rw [if_neg (by omega:¬ (c.toNat=43∨c.toNat=45)),if_neg (by simp),e,hp]
  simp only [e2];rw [if_neg (by omega),if_neg (by omega),if_neg (by omega)]
  congr 1
  omega
theorem qDg {n:Int} (h:-9223372036854775808≤n∧n≤9223372036854775807):pOk (intV n)=true:=by unfold pOk;rw [pInt h]
theorem qBi {n:Int} (h:-9223372036854775808≤n∧n≤9223372036854775807):pVal (intV n)=n:=by unfold pVal;rw [pInt h]
theorem qDv (n:Int):qdd (intV n) [34]=false:=by
 unfold intV qt6 qdd;by_cases hn:n < 0
 ·rw [if_pos hn];simp
 ·rw [if_neg hn];obtain⟨c,t,ht,hc1,hc2⟩:=qhF n.toNat;rw [ht];simp;intro h;subst h
  revert hc1
  decide
end Go.Pv
set_option maxHeartbeats 4000000
set_option maxRecDepth 200000
set_option linter.unusedSimpArgs false
set_option linter.unusedVariables false
namespace Go.Pv
open Go Go.Proofs Go.RowKit
def hx1 (c:UInt8):UInt8:=UInt8.ofNat (sAt hexL (iShr .u8 c.toNat 4)).toNat
def hx2 (c:UInt8):UInt8:=UInt8.ofNat (sAt hexL (iAnd .u8 c.toNat 15)).toNat
theorem qs1 (c:UInt8):oneV c.toNat=if c=34∨c=92 then [92,c] else if c=10 then [92,110] else if c=9 then [92,116] else if 32≤c.toNat∧c.toNat≤126 then [c] else [92,120,hx1 c,hx2 c]:=by
 have e:∀ k:UInt8,((c.toNat:Int)=(k.toNat:Int))=(c=k):=fun k=>propext ⟨fun h=>UInt8.toNat_inj.1 (by omega),fun h=>by rw [h]⟩
 have e34:=e 34;have e92:=e 92;have e10:=e 10;have e9:=e 9;unfold oneV hx1 hx2;have r:UInt8.ofNat (c.toNat:Int).toNat=c:=by simp
 rw [r];have p1:((c.toNat:Int)=34)=(c=34):=e34;have p2:((c.toNat:Int)=92)=(c=92):=e92;have p3:((c.toNat:Int)=10)=(c=10):=e10;have p4:((c.toNat:Int)=9)=(c=9):=e9;have p5:((32:Int)≤c.toNat∧(c.toNat:Int)≤126)=(32≤c.toNat∧c.toNat≤126):=propext ⟨fun h=>⟨by omega,by omega⟩,fun h=>⟨by omega,by omega⟩⟩
 simp only [p1,p2,p3,p4,p5]
theorem qEN:∀ n:Fin 256,digV (hx1 (UInt8.ofNat n.val)).toNat < 16∧digV (hx2 (UInt8.ofNat n.val)).toNat < 16 ∧
 (UInt8.ofNat (iOr .u8 (iShl .u8 (digV (hx1 (UInt8.ofNat n.val)).toNat) 4) (digV (hx2 (UInt8.ofNat n.val)).toNat)).toNat).toNat=n.val ∧
 0≤qwH (hx1 (UInt8.ofNat n.val)).toNat∧0≤qwH (hx2 (UInt8.ofNat n.val)).toNat∧(hexW [hx1 (UInt8.ofNat n.val),hx2 (UInt8.ofNat n.val)]).toNat=n.val:=by decide +kernel
theorem qER (c:UInt8):digV (hx1 c).toNat < 16∧digV (hx2 c).toNat < 16∧UInt8.ofNat (iOr .u8 (iShl .u8 (digV (hx1 c).toNat) 4) (digV (hx2 c).toNat)).toNat=c ∧
  0≤qwH (hx1 c).toNat∧0≤qwH (hx2 c).toNat∧hexW [hx1 c,hx2 c]=c:=by
 have h:=qEN ⟨c.toNat,c.toNat_lt⟩;simp only [UInt8.ofNat_toNat] at h
 exact⟨h.1,h.2.1,UInt8.toNat_inj.1 h.2.2.1,h.2.2.2.1,h.2.2.2.2.1,UInt8.toNat_inj.1 h.2.2.2.2.2⟩
theorem qhn (c:UInt8) (t:qU):decP (c::t)=if c=92 then (if escN t=0 then none else (decP (t.drop (escN t).toNat)).map (UInt8.ofNat (escB t).toNat::·)) else (decP t).map (c::·):=by rw [decP]
theorem qCS (c:UInt8) (r:qU):decP (oneV c.toNat++r)=(decP r).map (c::·):=by
 rw [qs1];by_cases h1:c=34∨c=92
 ·rw [if_pos h1];have a:sAt (c::r) 0=c.toNat:=by simp
  have q:(c.toNat:Int)=34∨(c.toNat:Int)=92:=by rcases h1 with rfl|rfl<;>decide
  have n1:escN (c::r)=1:=by unfold escN;rw [if_neg (by simp),a,if_pos q]
  have n2:escB (c::r)=c.toNat:=by unfold escB;rw [if_neg (by simp),a,if_pos q]
  simp only [List.cons_append,List.nil_append];rw [qhn,if_pos rfl,n1,n2];simp
 ·rw [if_neg h1];by_cases h2:c=10
  ·subst h2;have a:sAt (110::r) 0=110:=by simp
   have n1:escN (110::r)=1:=by unfold escN;rw [if_neg (by simp),a];simp
   have n2:escB (110::r)=10:=by unfold escB;rw [if_neg (by simp),a];simp
   simp only [if_true,List.cons_append,List.nil_append];rw [qhn,if_pos rfl,n1,n2];simp
  ·rw [if_neg h2];by_cases h3:c=9
   ·subst h3;have a:sAt (116::r) 0=116:=by simp
    have n1:escN (116::r)=1:=by unfold escN;rw [if_neg (by simp),a];simp
    have n2:escB (116::r)=9:=by unfold escB;rw [if_neg (by simp),a];simp
    simp only [if_true,List.cons_append,List.nil_append];rw [qhn,if_pos rfl,n1,n2];simp
   ·rw [if_neg h3];by_cases h4:32≤c.toNat∧c.toNat≤126
    ·rw [if_pos h4];simp only [List.cons_append,List.nil_append];rw [qhn,if_neg (fun h=>h1 (.inr h))]
    ·rw [if_neg h4];obtain⟨g1,g2,g3,_⟩:=qER c;have a0:sAt (120::hx1 c::hx2 c::r) 0=120:=by simp
     have a1:sAt (120::hx1 c::hx2 c::r) 1=(hx1 c).toNat:=by simp
     have a2:sAt (120::hx1 c::hx2 c::r) 2=(hx2 c).toNat:=by simp
     have q:(120:Int)=120∧3≤(120::hx1 c::hx2 c::r).length∧digV (hx1 c).toNat < 16∧digV (hx2 c).toNat < 16:=⟨rfl,by simp,g1,g2⟩
     have n1:escN (120::hx1 c::hx2 c::r)=3:=by unfold escN;rw [if_neg (by simp),a0,a1,a2,if_neg (by omega),if_neg (by omega),if_neg (by omega),if_pos q]
     have n2:escB (120::hx1 c::hx2 c::r)=iOr .u8 (iShl .u8 (digV (hx1 c).toNat) 4) (digV (hx2 c).toNat):=by unfold escB;rw [if_neg (by simp),a0,a1,a2,if_neg (by omega),if_neg (by omega),if_neg (by omega),if_pos q]
     simp only [List.cons_append,List.nil_append];rw [qhn,if_pos rfl,n1,n2,g3];simp
theorem qn4 (c:UInt8) (b:qU):symB (c::b)=oneV c.toNat++symB b:=by simp [symB]
theorem qAj:∀ b:qU,decP (symB b)=some b
 |[]=>by simp [symB,decP]
 |c::b=>by rw [qn4,qCS,qAj b];rfl
end Go.Pv
set_option maxHeartbeats 4000000
set_option maxRecDepth 200000
set_option linter.unusedSimpArgs false
set_option linter.unusedVariables false
namespace Go.Pv
open Go Go.Proofs Go.RowKit
theorem qpO (k n:Int) (s:qU):qdv k n s=qpP k n s:=by unfold qdv qpP;rw [qAN]
def valid (v:Int×Int×List UInt8):Prop:=(v.1=1∧v.2.2=[]∧-9223372036854775808≤v.2.1∧v.2.1≤9223372036854775807)∨(v.1=2∧v.2.1=0∧v.2.2.length≤256)
def qDh (v:Int×Int×List UInt8):List UInt8:=qpP v.1 v.2.1 v.2.2
theorem qxy (n:Int):qbG 1 n []=0:=by simp [qbG]
theorem qzB {b:List UInt8}:qbG 2 0 b=0↔b.length≤256:=by
 unfold qbG;by_cases h:b.length≤256<;>simp [h]
theorem qpC (n:Int):qpP 1 n []=intV n:=by simp [qpP,isV]
theorem qqX {b:List UInt8} (h:b.length≤256):qpP 2 0 b=symV b:=by simp [qpP,isV,h]
theorem qDn {v:Int×Int×List UInt8} (h:valid v):rdV (qDh v)=some v:=by
 obtain⟨k,n,b⟩:=v;rcases h with⟨h1,h2,h3⟩|⟨h1,h2,h3⟩
 ·simp only at h1 h2 h3;subst h1 h2;simp only [qDh,qpC];unfold rdV;rw [if_neg (by rw [qDv];simp),qDg h3,qBi h3]
  simp [qxy,qpO,qpC]
 ·simp only at h1 h2 h3;subst h1 h2;simp only [qDh,qqX h3];have e:symV b=34::(symB b++[34]):=by simp [symV]
  have p1:qdd (symV b) [34]=true:=by rw [e];simp [qdd]
  have p2:qmt (symV b) [34]=true:=by rw [e];simp [qmt]
  have p3:2≤(symV b).length:=by rw [e];simp
  have p4:((symV b).take ((symV b).length - 1)).drop 1=symB b:=by rw [e];simp
  unfold rdV;rw [if_pos ⟨p1,p2,p3⟩,p4,qAj b];simp only [];rw [if_pos ⟨qzB.2 h3,by rw [qpO,qqX h3]⟩]
end Go.Pv
set_option maxHeartbeats 4000000
set_option linter.unusedSimpArgs false
set_option linter.unusedVariables false
namespace Go.Pv
def qfK (b:UInt8):Bool:=decide (97≤b.toNat)&&decide (b.toNat≤122)
def qg9 (b:UInt8):Bool:=decide (65≤b.toNat)&&decide (b.toNat≤90)
def qaH (b:UInt8):Bool:=decide (48≤b.toNat)&&decide (b.toNat≤57)
def innB (b:UInt8):Bool:=qfK b || qg9 b || qaH b || decide (b.toNat=95)
def blB (b:UInt8):Bool:=decide (b.toNat=32) || decide (b.toNat=9) || decide (b.toNat=10) || decide (b.toNat=13)
def runL (p:UInt8→Bool):List UInt8→Nat
 |[]=>0
 |b::s=>if p b then runL p s+1 else 0
def incN (n:Nat):Nat:=if n=0 then 0 else n+1
def quoE:Bool→qU→Nat
 |_,[]=>0
 |true,_::s=>incN (quoE false s)
 |false,b::s=>if b.toNat=34 then 1 else if b.toNat=92 then incN (quoE true s) else incN (quoE false s)
def quoL (s:qU):Nat:=quoE false s
theorem qsT {n m:Nat} (h:n≤m):incN n≤m+1:=by unfold incN;split<;>omega
def gapL:Bool→qU→Nat
 |_,[]=>0
 |c,b::s=>if c || blB b || decide (b.toNat=37) then gapL (decide (b.toNat=37) || c&&decide (b.toNat≠10)) s+1 else 0
def qkv (b:UInt8):Bool:=[40,41,44,46,43,45,61,58,60,62].contains b.toNat
def twoB (a b:UInt8):Bool:=decide (a.toNat=58∧b.toNat=45) || decide (a.toNat=60∧b.toNat=61) || decide (a.toNat=62∧b.toNat=61) || decide (a.toNat=33∧b.toNat=61)
def hdIs (p:UInt8→Bool):List UInt8→Bool
 |[]=>false
 |b::_=>p b
def qhq (c:UInt8) (t:qU):Nat:=if hdIs (twoB c) t then 2 else if qkv c then 1 else 0
def valL (k:Int) (s:qU) (n:Nat):Option (Int×Nat×Vl):=match rdV (s.take n) with
 |some v=>some (k,n,v)
 |none=>none
def wdL:qU→Option (Int×Nat×Vl)
 |[]=>none
 |c::t =>
  if qfK c then (if runL innB t+1≤64 then some (1,runL innB t+1,0,0,[]) else none)
  else if qg9 c then (if runL innB t+1≤64 then some (2,runL innB t+1,0,0,[]) else none)
  else if c.toNat=95 then (if hdIs innB t then none else some (3,1,0,0,[]))
  else if qaH c || (decide (c.toNat=45)&&hdIs qaH t) then valL 4 (c::t) (runL qaH t+1)
  else if c.toNat=34 then (if quoL t=0 then none else valL 5 (c::t) (quoL t+1))
  else if qhq c t=0 then none else some (6,qhq c t,0,0,[])
abbrev Wd:=Int×List UInt8×Vl×Int
def lexL:Nat→Nat→qU→List Wd×Option Nat
 |0,_,_=>([],none)
 |n+1,at_,s=>match s with
  |[]=>([],none)
  |_=>match wdL s with
   |none=>([],some at_)
   |some (k,m,v) =>
    let r:=lexL n (at_+m+gapL false (s.drop m)) (s.drop (m+gapL false (s.drop m)))
    ((k,s.take m,v,(at_:Int))::r.1,r.2)
def qeF (s:qU):List Wd×Option Nat:=lexL (s.length+1) (gapL false s) (s.drop (gapL false s))
theorem qnH (p:UInt8→Bool):∀ s:qU,runL p s≤s.length
 |[]=>Nat.le_refl _
 |b::s=>by
  have:=qnH p s;unfold runL;split<;>simp only [List.length_cons]<;>omega
theorem qqo:∀ (e:Bool) (s:qU),quoE e s≤s.length
 |_,[]=>by cases ‹Bool›<;>exact Nat.le_refl _
 |true,_::s=>qsT (qqo false s)
 |false,b::s=>by
  have h1:=qsT (qqo true s);have h2:=qsT (qqo false s);simp only [quoE,List.length_cons];split
  ·omega
  ·split
   ·exact h1
   ·exact h2
theorem qyB (s:qU):quoL s≤s.length:=qqo false s
theorem qna:∀ (c:Bool) (s:qU),gapL c s≤s.length
 |_,[]=>Nat.le_refl _
 |c,b::s=>by
  have:=qna (decide (b.toNat=37) || c&&decide (b.toNat≠10)) s;unfold gapL;split<;>simp only [List.length_cons]<;>omega
theorem qnX {s:List UInt8} {k:Int} {m:Nat} {v:Vl} (h:wdL s=some (k,m,v)):1≤m∧m≤s.length:=by
 cases s with
 |nil=>cases h
 |cons c t =>
  have h1:=qnH innB t;have h2:=qnH qaH t;have h3:=qyB t;have h4:qhq c t≤(c::t).length:=by
   unfold qhq;cases t with
   |nil=>cases qkv c<;>simp [hdIs]
   |cons d t=>cases hdIs (twoB c) (d::t)<;>cases qkv c<;>simp
  simp only [wdL] at h
  simp only [List.length_cons] at h4 ⊢
  repeat' (split at h)
  all_goals first|(cases h;done)|skip
  all_goals first|(cases h;omega)|(unfold valL at h;split at h<;>first|(cases h;done)|(cases h;omega))
def cW:Cod Wd where
 enc t:=[.int .i64 t.1,.str t.2.1,.int .i64 t.2.2.1.1,.int .i64 t.2.2.1.2.1,.str t.2.2.1.2.2,.int .i64 t.2.2.2]
 dec c:=match c with|[.int .i64 a,.str b,.int .i64 k,.int .i64 n,.str s,.int .i64 p]=>some (a,b,(k,n,s),p)|_=>none
 k:=6
 of_dec c a h:=by
  split at h
  ·cases h;rfl
  ·cases h
 dec_of a:=rfl
 lock a:=rfl
 shut a:=rfl
 len a:=rfl
 one a:=rfl
@[simp] theorem okSize_cW (l:List Wd):qaD (rOf cW l) 6=true:=qb7 cW l
@[simp] theorem okNews_cW (l:List Wd):qbf (rOf cW l) 6=true:=qb4 cW l
@[simp] theorem qBW (l:List Wd) (i:Nat):qbx [.int .i64 0,.str [],.int .i64 0,.int .i64 0,.str [],.int .i64 0] (rOf cW l) i=decide (i < l.length):=qcI _ _ (fun _=>rfl) l i
@[simp] theorem qBl (l:List Wd) (i:Nat):xInt (rOf cW l) i 0=(l[i]?.getD (0,[],(0,0,[]),0)).1:=by unfold xInt;rw [qaB];cases l[i]?<;>rfl
@[simp] theorem qBS (l:List Wd) (i:Nat):xStr (rOf cW l) i 1=(l[i]?.getD (0,[],(0,0,[]),0)).2.1:=by unfold xStr;rw [qaB];cases l[i]?<;>rfl
@[simp] theorem xInt_cW2 (l:List Wd) (i:Nat):xInt (rOf cW l) i 2=(l[i]?.getD (0,[],(0,0,[]),0)).2.2.1.1:=by unfold xInt;rw [qaB];cases l[i]?<;>rfl
@[simp] theorem xInt_cW3 (l:List Wd) (i:Nat):xInt (rOf cW l) i 3=(l[i]?.getD (0,[],(0,0,[]),0)).2.2.1.2.1:=by unfold xInt;rw [qaB];cases l[i]?<;>rfl
@[simp] theorem xStr_cW4 (l:List Wd) (i:Nat):xStr (rOf cW l) i 4=(l[i]?.getD (0,[],(0,0,[]),0)).2.2.1.2.2:=by unfold xStr;rw [qaB];cases l[i]?<;>rfl
@[simp] theorem xInt_cW5 (l:List Wd) (i:Nat):xInt (rOf cW l) i 5=(l[i]?.getD (0,[],(0,0,[]),0)).2.2.2:=by unfold xInt;rw [qaB];cases l[i]?<;>rfl
theorem qEt (l:List Wd) (a:Int) (b:qU) (k n:Int) (s:qU) (p:Int):rOf cW l++[[.int .i64 a,.str b,.int .i64 k,.int .i64 n,.str s,.int .i64 p]]=rOf cW (l++[(a,b,(k,n,s),p)]):=by rw [qiO];rfl
theorem qFU (a:Int) (b:qU) (k n:Int) (s:qU) (p:Int):([[.int .i64 a,.str b,.int .i64 k,.int .i64 n,.str s,.int .i64 p]]:List (List PV))=rOf cW [(a,b,(k,n,s),p)]:=rfl
@[simp] theorem qCW (l:List Wd) (a:Int) (b:qU) (k n:Int) (s:qU) (p:Int):[.int .i64 a,.str b,.int .i64 k,.int .i64 n,.str s,.int .i64 p]::rOf cW l=rOf cW ((a,b,(k,n,s),p)::l):=rfl
end Go.Pv
