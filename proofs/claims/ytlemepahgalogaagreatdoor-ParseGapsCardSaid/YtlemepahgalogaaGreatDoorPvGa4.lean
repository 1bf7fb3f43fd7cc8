/- Part 4 of the proof: pure values for the machine's values, what functions compute over them, and laws of what is computed. Conditions: none beyond each theorem's own premises. -/
import Derived.Test.YtlemepahgalogaaGreatDoorPvGa3
import Derived.Test.YtlemepahgalogaaGreatDoorShelf
import Derived.Lib.LastIndexByte
noncomputable section
set_option linter.unusedSimpArgs false
set_option linter.unusedVariables false
namespace Go.Pv
open Go.RowKit Tr
mutual
def qn5 (n m:Nat):PV→Bool
 |.ptr id _=>Nat.blt id n
 |.osl id _ _ _=>Nat.blt id n
 |.yld t=>Nat.blt t m
 |.sl _ _=>false
 |.ref cs=>qns n m cs
 |.fn _ cs=>qns n m cs
 |.mth _ cs=>qns n m cs
 |.iface _ v=>qn5 n m v
 |.agg cs=>qns n m cs
 |.tup cs=>qns n m cs
 |_=>true
def qns (n m:Nat):List PV→Bool
 |[]=>true
 |x::xs=>qn5 n m x&&qns n m xs
end
mutual
theorem qDe {n m:Nat}:∀ {x:PV},qn5 n m x=true→(∀ n',n≤n'→qbC n' x=x)∧∀ m',m≤m'→dropT m' x=x
 |.top,_=>⟨fun _ _=>rfl,fun _ _=>rfl⟩
 |.bool _,_=>⟨fun _ _=>rfl,fun _ _=>rfl⟩
 |.int _ _,_=>⟨fun _ _=>rfl,fun _ _=>rfl⟩
 |.str _,_=>⟨fun _ _=>rfl,fun _ _=>rfl⟩
 |.nilp,_=>⟨fun _ _=>rfl,fun _ _=>rfl⟩
 |.nilf,_=>⟨fun _ _=>rfl,fun _ _=>rfl⟩
 |.nili,_=>⟨fun _ _=>rfl,fun _ _=>rfl⟩
 |.ptr id off,h=>by
  have h:id < n:=by simpa [qn5] using h
  refine⟨fun n' hn=>?_,fun _ _=>rfl⟩
  simp only [qbC];rw [show decide (id < n')=true from by simp;omega]
  rfl
 |.osl id off len k,h=>by
  have h:id < n:=by simpa [qn5] using h
  refine⟨fun n' hn=>?_,fun _ _=>rfl⟩
  simp only [qbC];rw [show decide (id < n')=true from by simp;omega]
  rfl
 |.yld t,h=>by
  have h:t < m:=by simpa [qn5] using h
  refine⟨fun _ _=>rfl,fun m' hm=>?_⟩
  simp only [dropT];rw [show decide (t < m')=true from by simp;omega]
  rfl
 |.sl _ _,h=>by simp [qn5] at h
 |.ref cs,h=>by
  simp only [qn5] at h
  have:=qeJ h;exact⟨fun n' hn=>by simp only [qbC];rw [this.1 n' hn],fun m' hm=>by simp only [dropT];rw [this.2 m' hm]⟩
 |.fn f cs,h=>by
  simp only [qn5] at h
  have:=qeJ h;exact⟨fun n' hn=>by simp only [qbC];rw [this.1 n' hn],fun m' hm=>by simp only [dropT];rw [this.2 m' hm]⟩
 |.mth f cs,h=>by
  simp only [qn5] at h
  have:=qeJ h;exact⟨fun n' hn=>by simp only [qbC];rw [this.1 n' hn],fun m' hm=>by simp only [dropT];rw [this.2 m' hm]⟩
 |.iface t v,h=>by
  simp only [qn5] at h
  have:=qDe h;exact⟨fun n' hn=>by simp only [qbC];rw [this.1 n' hn],fun m' hm=>by simp only [dropT];rw [this.2 m' hm]⟩
 |.agg cs,h=>by
  simp only [qn5] at h
  have:=qeJ h;exact⟨fun n' hn=>by simp only [qbC];rw [this.1 n' hn],fun m' hm=>by simp only [dropT];rw [this.2 m' hm]⟩
 |.tup cs,h=>by
  simp only [qn5] at h
  have:=qeJ h;exact⟨fun n' hn=>by simp only [qbC];rw [this.1 n' hn],fun m' hm=>by simp only [dropT];rw [this.2 m' hm]⟩
theorem qeJ {n m:Nat}:∀ {xs:List PV},qns n m xs=true→(∀ n',n≤n'→qbk n' xs=xs)∧∀ m',m≤m'→qbt m' xs=xs
 |[],_=>⟨fun _ _=>rfl,fun _ _=>rfl⟩
 |x::xs,h=>by
  simp only [qns,Bool.and_eq_true] at h
  have h1:=qDe h.1;have h2:=qeJ h.2;exact⟨fun n' hn=>by simp only [qbk];rw [h1.1 n' hn,h2.1 n' hn],fun m' hm=>by simp only [qbt];rw [h1.2 m' hm,h2.2 m' hm]⟩
end
def qNc:PV→PV→Bool
 |.top,.top=>true
 |.nilp,.nilp=>true
 |.ptr a b,.ptr c d=>Nat.beq a c&&Nat.beq b d
 |_,_=>false
def qCH:List PV→List PV→Bool
 |[],[]=>true
 |x::xs,y::ys=>qNc x y&&qCH xs ys
 |_,_=>false
theorem qJi:∀ {x y:PV},qNc x y=true→x=y:=by
 intro x y h;unfold qNc at h
 split at h
 ·rfl
 ·rfl
 ·simp only [Bool.and_eq_true] at h
  rw [Nat.eq_of_beq_eq_true h.1,Nat.eq_of_beq_eq_true h.2]
 ·cases h
theorem qyG:∀ {xs ys:List PV},qCH xs ys=true→xs=ys
 |[],[],_=>rfl
 |x::xs,y::ys,h=>by
  simp only [qCH,Bool.and_eq_true] at h
  rw [qJi h.1,qyG h.2]
 |[],_::_,h=>by cases h
 |_::_,[],h=>by cases h
structure RI where
 nt:Nat
 ss:List Nat
 bs:List Nat
 vs:List PV
 ps:List Nat
 e:Nat
def RI.fr (I:RI):List PV:=Go.Pv.mk I.nt (I.bs.zip I.vs)
def qEP (k:Nat):Code→Option Code
 |.seq a b=>match qEP k a with
  |some c=>some c
  |none=>qEP k b
 |.cond _ a b=>match qEP k a with
  |some c=>some c
  |none=>qEP k b
 |.block _ c=>qEP k c
 |.rangeFunc g ps x y=>if rfid x y=k then some (.rangeFunc g ps x y) else none
 |_=>none
def rngC (fn:Func) (k:Nat):Code:=match fn.body with
 |some c=>(qEP k c).getD .skip
 |none=>.skip
def rngX:Code→Code
 |.rangeFunc _ _ x _=>x
 |_=>.skip
def rngY:Code→Code
 |.rangeFunc _ _ _ y=>y
 |_=>.skip
def rngG:Code→Operand
 |.rangeFunc g _ _ _=>g
 |_=>.tmp 0
def rngP:Code→Array Tmp
 |.rangeFunc _ ps _ _=>ps
 |_=>#[]
def rngO (c:Code):Code:=.rangeFunc (rngG c) (rngP c) (rngX c) (rngY c)
def qnq (n:Nat) (σ:Store):Store:=if σ.objs.length≤n then σ else dropS n σ
def trimR (n m:Nat) (σ:Store):Store :=
 if (qnq n σ).toks.length≤max m (qpf (qnq n σ).objs) then qnq n σ else qd2 (max m (qpf (qnq n σ).objs)) (qnq n σ)
def qzK (tb:Tab) (G:GamT) (L:LpsT) (I:RI) (x y:Code) (t:Nat) (args:List PV) (σ:Store):Tr (Bool×Store) :=
 if args.length=I.ps.length then
  bind (texec tb G L x [] (puts I.fr I.ps args) σ) fun r=>match r.1 with
   |.normal=>match r.2.2.2.toks[t]? with
    |some (0,0,e)=>if e=I.e then
      bind (texec tb G L y [] r.2.2.1 { r.2.2.2 with toks:=r.2.2.2.toks.set t (1,0,I.e) }) fun q=>match q.2.2.2.toks[t]? with
       |some (1,0,e)=>if e=I.e then (match okEx q.1 with|true=>.ret (isNo q.1,{ q.2.2.2 with toks:=q.2.2.2.toks.set t (stOf q.1,0,I.e) })|false=>.fail) else .fail
       |_=>.fail
     else .fail
    |_=>.fail
   |_=>.fail
 else .fail
def rtree (tb:Tab) (G:GamT) (L:LpsT) (I:RI) (x y:Code) (t:Nat) (args:List PV) (σ:Store):Tr (PV×Store) :=
 bind (qzK tb G L I x y t args σ) fun r=>.ret (.bool r.1,trimR σ.objs.length σ.toks.length r.2)
def qDN (e:Nat):List (Nat×Nat×TypeId)→Bool
 |[]=>true
 |(_,k,e')::l=>(!Nat.beq k 0 || !Nat.beq e' e)&&qDN e l
theorem qzH {e:Nat}:∀ {l:List (Nat×Nat×TypeId)},qDN e l=true→∀ (i v k e':Nat),l[i]?=some (v,k,e')→k=0→e'≠e
 |[],_,i,v,k,e',h,_=>by cases i<;>cases h
 |(v0,k0,e0)::l,h,i,v,k,e',hi,hk=>by
  simp only [qDN,Bool.and_eq_true] at h
  cases i with
  |zero =>
   cases hi
   subst hk;intro e1;subst e1;simp at h
  |succ i=>exact qzH h.2 i v k e' hi hk
def rorc (I:RI) (g:Operand) (gf:FuncId) (D:List PV→Store→Tr (PV×Store)) (fr:List PV) (σ:Store):Tr (PExit×List PV×Store) :=
 if fr.length=I.nt then
  match ev (mk I.nt (I.ss.zip (rsl I.ss fr))) g with
  |.fn f caps =>
   if f=gf then
    if qCH (rsl I.bs (mk I.nt (I.ss.zip (rsl I.ss fr)))) I.vs&&qDN I.e σ.toks&&qns σ.objs.length σ.toks.length (mk I.nt (I.ss.zip (rsl I.ss fr))) then
     bind (D (.yld σ.toks.length::caps) { σ with toks:=σ.toks++[(0,0,I.e)] }) fun r=>match r.2.toks[σ.toks.length]? with
      |some (s,0,e)=>if e=I.e then if s=1 then .fail else .ret (exOf s,mk I.nt (I.ss.zip (rsl I.ss fr)),qnq σ.objs.length (qd2 σ.toks.length r.2)) else .fail
      |_=>.fail
    else .fail
   else .fail
  |_=>.fail
 else .fail
theorem qfD {α β:Type} (f:α→β):∀ (t:Tr α),(bind t fun r=>.ret (f r)).run=t.run.map f
 |.ret a=>rfl
 |.fail=>rfl
 |.ite b x y=>by
  simp only [Tr.bind,Tr.run_ite];cases b<;>simp [qfD f x,qfD f y]
 |.get xs i z k=>by
  simp only [Tr.bind,Tr.run_get];cases xs[i]? with
  |none=>rfl
  |some cs=>exact qfD f (k cs)
section
variable {P : Program} {tb : Tab} {gl : Gl}
theorem Does.into {c:Code} {fr fr1:List PV} {σ:Store} {e:PExit} {fr':List PV} {σ':Store} (hw:Weak fr fr1) (h:Does P gl c fr1 σ e fr' σ'):Does P gl c fr σ e fr' σ' :=
 fun r n H0 w0 hR Q a w hst hq=>h r n H0 w0 hR Q a w (qxL hw hst) hq
theorem qt9 (l:List (Nat×PV)):∀ (n i:Nat),(qby l n i).length=n
 |0,_=>rfl
 |n+1,i=>by simp [qby,qt9 l n (i+1)]
theorem qPE (n:Nat) (l:List (Nat×PV)):(mk n l).length=n:=qt9 l n 0
theorem Weak.set:∀ {xs ys:List PV} (i:Nat) (x:PV),Weak xs ys→Weak (xs.set i x) (ys.set i x)
 |[],[],_,_,_=>trivial
 |a::xs,b::ys,0,x,h=>⟨.inr rfl,h.2⟩
 |a::xs,b::ys,i+1,x,h=>⟨h.1,Weak.set i x h.2⟩
 |[],_::_,_,_,h=>by cases h
 |_::_,[],_,_,h=>by cases h
theorem Weak.puts:∀ (ps:List Tmp) (zs:List PV) {xs ys:List PV},Weak xs ys→Weak (puts xs ps zs) (puts ys ps zs)
 |[],_,_,_,h=>by simpa [Go.Pv.puts] using h
 |_::_,[],_,_,h=>by simpa [Go.Pv.puts] using h
 |p::ps,a::zs,xs,ys,h=>by
  simp only [Go.Pv.puts];exact Weak.puts ps zs (h.set p a)
theorem qIr {G:GamT} {L:LpsT} {I:RI} {x y:Code} (hT:qaK P tb) (hΓ:qam P gl (gam G)) (hm:P.follows .mixedOrders=true) (hLx:qa4 P gl (lps L) x) (hLy:qa4 P gl (lps L) y) (hdx:qaC (gam G) x=true) (hdy:qaC (gam G) y=true)
  {t:Nat} {args:List PV} {σ:Store} {b:Bool} {σ':Store} (h:(qzK tb G L I x y t args σ).run=some (b,σ')) {fr:List PV} (hw:Weak fr I.fr) :
  ∃ fr1 σ1 ex fr2 σ2,args.length=I.ps.length∧Does P gl x (puts fr I.ps args) σ .normal fr1 σ1∧σ1.toks[t]?=some (0,0,I.e) ∧
   Does P gl y fr1 { σ1 with toks:=σ1.toks.set t (1,0,I.e) } ex fr2 σ2∧σ2.toks[t]?=some (1,0,I.e)∧okEx ex=true∧b=isNo ex∧σ'={ σ2 with toks:=σ2.toks.set t (stOf ex,0,I.e) }:=by
 unfold qzK at h
 split at h
 ·rename_i hl;obtain⟨⟨e1,kn1,fr1,σ1⟩,h1,h2⟩:=bind_some h;have d1:=Does.into (Weak.puts I.ps args hw) (Does.of_tree hT hΓ hm hLx hdx h1);simp only at h2;cases e1 with
  |normal =>
   simp only at h2;split at h2
   ·rename_i e ht;split at h2
    ·rename_i hee;subst hee;obtain⟨⟨ex,kn2,fr2,σ2⟩,h3,h4⟩:=bind_some h2;have d2:=Does.of_tree hT hΓ hm hLy hdy h3;simp only at h4;split at h4
     ·rename_i e ht2;split at h4
      ·rename_i hee;split at h4
       ·rename_i hox;simp only [Tr.run_ret,Option.some.injEq,Prod.mk.injEq] at h4;refine⟨fr1,σ1,ex,fr2,_,hl,d1,ht,d2,?_,hox,h4.1.symm,h4.2.symm⟩;rw [ht2,hee]
       ·cases h4
      ·cases h4
     ·cases h4
    ·cases h2
   ·cases h2
  |exit j=>cases h2
  |ret=>cases h2
  |pan x=>cases h2
 ·cases h
theorem Post.dropS {H:Gh} {σ σ':Store} {w w':World} {b:Bool} {v:Value} {n:Nat} (hok:Ok gl H σ w) (hn:σ.objs.length≤n) (h:Post gl H w (.bool b) σ' v w'):Post gl H w (.bool b) (Go.Pv.dropS n σ') v w':=by
 obtain⟨H',hev,hok',hx⟩:=h;have hn':H.ob.length≤n:=by rw [hok.len];exact hn
 refine⟨H'.keep n,⟨hev.B,hev.base,hev.aux,hev.K,hev.os,hev.tape,hev.output,hev.size,fun id b hid=>?_,hev.tok,fun b off hp=>⟨qnl (hev.prot b off hp).1,(hev.prot b off hp).2⟩,hev.block,hev.dr,hev.fix,hev.old,fun b hb=>hev.obn b (List.mem_of_mem_take hb)⟩,qHV hok' (fun t T e hk=>?_),?_⟩
 ·simp only [Gh.keep];rw [List.getElem?_take,if_pos (Nat.lt_of_lt_of_le (List.getElem?_eq_some_iff.1 hid).1 hn')];exact hev.ob id b hid
 ·obtain⟨T0,e0,k0⟩:=hev.old t T e hk;obtain⟨T1,e1,u⟩:=hev.tok t T0 e0;rw [e] at e1;cases e1
  rw [(u.lp k0).2.2.2];obtain⟨_,_,o,_,ho⟩:=hok.tok t T0 e0 (fun hh=>hh.2 k0)
  rcases ho with⟨h1,_⟩|⟨_,_,r,_,_,_,h6,_⟩
  ·exact absurd k0 h1
  ·omega
 ·cases hx
  exact .bool b
theorem Post.dropT {H:Gh} {σ σ':Store} {w w':World} {b:Bool} {v:Value} {m:Nat} (hok:Ok gl H σ w) (hm:σ.toks.length≤m) (h:Post gl H w (.bool b) σ' v w'):Post gl H w (.bool b) (qd2 m σ') v w':=by
 obtain⟨H',hev,hok',hx⟩:=h;have hl:H.tk.length≤m:=by
  have:=congrArg List.length hok.tkl;simp at this;omega
 refine⟨H'.trim m,⟨hev.B,hev.base,hev.aux,hev.K,hev.os,hev.tape,hev.output,hev.size,hev.ob,fun t T ht=>?_,fun b off hp=>⟨qiB (hev.prot b off hp).1,(hev.prot b off hp).2⟩,hev.block,hev.dr,hev.fix,fun t T e hk=>hev.old t T (qb4 e).2 hk,hev.obn⟩,qBz hok',?_⟩
 ·obtain⟨T',h1,h2⟩:=hev.tok t T ht;refine⟨T',?_,h2⟩;simp only [Gh.trim];rw [List.getElem?_take,if_pos (Nat.lt_of_lt_of_le (List.getElem?_eq_some_iff.1 ht).1 hl)];exact h1
 ·cases hx
  exact .bool b
theorem Post.trimR {H:Gh} {σ σ':Store} {w w':World} {b:Bool} {v:Value} {n m:Nat} (hok:Ok gl H σ w) (hn:σ.objs.length≤n) (hm:σ.toks.length≤m) (h:Post gl H w (.bool b) σ' v w'):Post gl H w (.bool b) (Go.Pv.trimR n m σ') v w':=by
 have h1:Post gl H w (.bool b) (qnq n σ') v w':=by
  unfold qnq;split
  ·exact h
  ·exact h.dropS hok hn
 unfold Go.Pv.trimR;split
 ·exact h1
 ·exact h1.dropT hok (Nat.le_trans hm (Nat.le_max_left _ _))
theorem YCalls.mono {P:Program} {l:Nat} {args:Array Value} {w:World} {R R':Ending→World→Prop} (h:YCalls P l args w R) (hR:∀ e w',R e w'→R' e w'):YCalls P l args w R':=by
 obtain⟨f,tmps,assign,body,h1,h2⟩:=h;exact⟨f,tmps,assign,body,h1,h2.mono hR⟩
theorem qFy {e:Nat} {Y0:Nat→List PV→Store→Option (Bool×Store)} (h:qpo P gl qdY (.yld e fun t args σ=>(Y0 t args σ).map fun r=>(.bool r.1,r.2))) :
  qpo P gl qdY (.yld e fun t args σ=>(Y0 t args σ).map fun r=>(.bool r.1,trimR σ.objs.length σ.toks.length r.2)):=by
 intro t args σ x σ' ht hy H w vs T hok hr hT;obtain⟨r,hr0,he⟩:=Option.map_eq_some_iff.1 hy;simp only [Prod.mk.injEq] at he;obtain⟨rfl,rfl⟩:=he;refine YCalls.mono (h t args σ (.bool r.1) r.2 ht (by simp only [hr0,Option.map_some]) H w vs T hok hr hT) ?_
 rintro e w' ⟨v,rfl,hp⟩;exact⟨v,rfl,hp.trimR hok (Nat.le_refl _) (Nat.le_refl _)⟩
theorem qOM {G:GamT} {L:LpsT} {I:RI} {g:Operand} {ps:Array Tmp} {x y:Code} {gf:FuncId} {D:List PV→Store→Tr (PV×Store)} (hT:qaK P tb) (hΓ:∀ gl':Gl,gl'.v=gl.v→qam P gl' (gam G)) (hm:P.follows .mixedOrders=true)
  (hLx:∀ gl':Gl,gl'.v=gl.v→qa4 P gl' (lps L) x) (hLy:∀ gl':Gl,gl'.v=gl.v→qa4 P gl' (lps L) y) (hdx:qaC (gam G) x=true) (hdy:qaC (gam G) y=true) (hps:ps.toList=I.ps)
  (hent : ∃ fn, P.funcs[gf]? = some fn ∧ (fn.name == "runtime.NumGoroutine") = false ∧ fn.body.isNone = false)
  (hI:∀ gl':Gl,gl'.v=gl.v→qpo P gl' qdY (.yld I.e fun t args σ=>(rtree tb G L I x y t args σ).run)→SimS P gl' gf fun args σ=>(D args σ).run) :
  ∀ fr σ e fr' σ',(rorc I g gf D fr σ).run=some (e,fr',σ')→Does P gl (.rangeFunc g ps x y) fr σ e fr' σ':=by
 intro fr σ e fr' σ' h;unfold rorc at h
 split at h
 ·rename_i hn;have hw:=qgH fr I.ss;rw [hn] at hw;generalize hfr1:mk I.nt (I.ss.zip (rsl I.ss fr))=fr1 at h hw;have hl1:fr1.length=I.nt:=by rw [← hfr1];exact qPE _ _
  split at h
  ·rename_i f caps hg;split at h
   ·rename_i hf;subst hf;split at h
    ·rename_i hk;simp only [Bool.and_eq_true] at hk;obtain⟨⟨hk1,hk2⟩,hk3⟩:=hk;obtain⟨⟨v,σ2⟩,h1,h2⟩:=bind_some h;have hkeep:=qeJ hk3;simp only at h2;split at h2
     ·rename_i s e' hs;split at h2
      ·rename_i hee;subst hee;split at h2
       ·cases h2
       ·rename_i hs1;simp only [Tr.run_ret,Option.some.injEq,Prod.mk.injEq] at h2;obtain⟨rfl,rfl,rfl⟩:=h2;have hw2:Weak fr1 I.fr:=by
         have:=qgH fr1 I.bs;rw [hl1,qyG hk1] at this;exact this
        have hd:=qEY (P:=P) (gl:=gl) (g:=g) (ps:=ps) (assign:=x) (body:=y) (fr:=fr1) (σ:=σ) hg I.e hent (Y:=fun t args σ=>(qzK tb G L I x y t args σ).run.map fun r=>(.bool r.1,r.2)) (D:=fun args σ=>(D args σ).run)
         (qzH hk2) hkeep.1 hkeep.2 (fun gl' hv hc=>hI gl' hv (by
          have:=qFy (Y0:=fun t args σ=>(qzK tb G L I x y t args σ).run) hc
          simp only [rtree,qfD];exact this)) (fun gl' hv t args σ x' σ' hy=>by
          obtain⟨r,hr,he⟩:=Option.map_eq_some_iff.1 hy;simp only [Prod.mk.injEq] at he;obtain⟨rfl,rfl⟩:=he;obtain⟨q1,q2,q3,q4,q5,q6,q7,q8,q9,q10,q11⟩:=qIr hT (hΓ gl' hv) hm (hLx gl' hv) (hLy gl' hv) hdx hdy hr hw2;rw [hps];exact⟨q1,q2,q3,q4,q5,by rw [q6,← hps];simp,q7,q8,q9,q10,q11.1,by rw [q11.2.1],q11.2.2⟩) h1 hs hs1
        have hd2:=Does.into hw hd;unfold qnq;split
        ·exact hd2
        ·have:=hd2.drop (n:=σ.objs.length) (Nat.le_refl _);rw [hkeep.1 _ (Nat.le_refl _)] at this;exact this
      ·cases h2
     ·cases h2
    ·cases h
   ·cases h
  ·cases h
 ·cases h
end
end Go.Pv
set_option maxHeartbeats 4000000
set_option maxRecDepth 200000
set_option linter.unusedSimpArgs false
set_option linter.unusedVariables false
namespace Go.Pv
open Go Go.Proofs Go.RowKit
def twosV:List (List UInt8):=[[58,45],[60,61],[62,61],[33,61]]
structure GlLex (gl:Gl):Prop extends GlOk gl where
 twos : VarIs gl "pedigree/lex.twos" (twosV.map fun l => Value.string ⟨l.toArray⟩).toArray
theorem GlPow.of_v {gl gl':Gl} (h:GlPow gl) (e:gl'.v=gl.v):GlPow gl':=by
 obtain⟨h⟩:=h;exact⟨by unfold VarIs at *;rw [e];exact h⟩
theorem GlOk.of_v {gl gl':Gl} (h:GlOk gl) (e:gl'.v=gl.v):GlOk gl':=by
 obtain⟨h1,h2,h3⟩:=h;exact⟨h1.of_v e,by unfold VarIs at *;rw [e];exact h2,by unfold VarIs at *;rw [e];exact h3⟩
theorem GlLex.of_v {gl gl':Gl} (h:GlLex gl) (e:gl'.v=gl.v):GlLex gl':=by
 obtain⟨h1,h2⟩:=h;exact⟨h1.of_v e,by unfold VarIs at *;rw [e];exact h2⟩
def qIY:List PV:=[.str [58,45],.str [60,61],.str [62,61],.str [33,61]]
theorem qGl : Tryz.prog.globalNamed "pedigree/lex.twos" = some 0 := by kernel_rfl
theorem qDY {gl:Gl} (h:GlLex gl):qpo Tryz.prog gl (qAw+0) (.glob qIY):=by
 obtain⟨g,T,f,h1,h2⟩:=h.twos;rw [qGl] at h1;cases h1
 refine⟨_,T,f,by rw [Nat.add_sub_cancel_left];exact h2,fun H w=>?_⟩
 exact .cons _ _ _ _ (.str [58,45] (by decide)) (.cons _ _ _ _ (.str [60,61] (by decide)) (.cons _ _ _ _ (.str [62,61] (by decide)) (.cons _ _ _ _ (.str [33,61] (by decide)) .nil)))
theorem qHL:maxLen≤9223372036854775807:=by decide
def idxV (s:qU) (c:Int):Int:=Lib.indexByte s c.toNat.toUInt8
theorem qpg (c:UInt8):∀ l:qU,Lib.indexByte l c≤l.length
 |[]=>by simp [Lib.indexByte]
 |b::l=>by
  have:=qpg c l;unfold Lib.indexByte;split
  ·simp only [List.length_cons];omega
  ·split<;>simp only [List.length_cons]<;>omega
def qgW:List PV→Tr PV
 |[.str s,.int .u8 c]=>.ret (.int .i64 (idxV s c))
 |_=>.fail
theorem qnM (gl:Gl):SimP Tryz.prog gl 170 fun args=>(qgW args).run:=by
 refine⟨⟨_,Tryz.func170,by rfl,by rfl⟩,?_⟩
 intro args x hx H w vs hB hob htk hw hrel;unfold qgW at hx;split at hx
 ·rename_i s c;cases hx
  cases hrel with
  |cons _ v _ vs hv hvs =>
   cases hvs with
   |cons _ v2 _ vs hv2 hvs =>
    cases hvs
    cases hv with
    |str _ hl =>
     cases hv2
     refine (Tryz.strings_IndexByte ⟨s.toArray⟩ c w).mono ?_;rintro e w' ⟨rfl,rfl⟩;refine⟨_,rfl,⟨Below.refl _ _,Dr.of_eq rfl⟩,.int _ _ ?_⟩;have h1:=qpg c.toNat.toUInt8 s;have h2:=Lib.indexByte_ge s c.toNat.toUInt8;have:=qHL;simp only [idxV];generalize Lib.indexByte s c.toNat.toUInt8=q at h1 h2 ⊢;simp [Lit.wf,IntKind.min,IntKind.max,IntKind.signed,IntKind.bits];omega
 ·cases hx
end Go.Pv
set_option maxHeartbeats 4000000
set_option maxRecDepth 200000
set_option linter.unusedSimpArgs false
set_option linter.unusedVariables false
namespace Go.Pv
open Go Go.Proofs Go.RowKit
def numN:qU→Nat→Option Nat
 |[],a=>some a
 |c::l,a=>if 48≤c.toNat∧c.toNat≤57 then numN l (a * 10+(c.toNat - 48)) else none
def qnk (s:qU):Bool:=(numN s 0).isSome
def numV (s:qU):Int:=(((numN s 0).getD 0:Nat):Int)
theorem qJh:∀ (l:qU) (a k x:Nat),numN l a=some x→a < 10 ^ k→x < 10 ^ (k+l.length)
 |[],a,k,x,h,ha=>by simp [numN] at h;subst h;simpa using ha
 |c::l,a,k,x,h,ha=>by
  unfold numN at h
  split at h
  ·have:=qJh l _ (k+1) x h (by rw [Nat.pow_succ];omega)
   simp only [List.length_cons];have e:k+(l.length+1)=k+1+l.length:=by omega
   rw [e];exact this
  ·cases h
def qCt:List PV→Store→Option (List UInt8×Bool×Int×Int×Store)
 |[.str s,.bool m,.int .u64 n,.int .i64 i],σ=>some (s,m,n,i,σ)
 |_,_=>none
def qG8:qU×Bool×Int×Int×Store→Tr (PExit×List (Nat×PV)×Store)
 |(s,m,n,i,σ)=>Tr.chk (iEq n 0) (Tr.chk (iEq i 0) (Tr.chk (iLe (sLen s) 19) (.ite (qnk s) (.ret (.exit 0,[(4,.bool m),(5,.int .u64 (numV s))],σ)) (.ret (.ret,[(2,.int .i64 0),(3,.bool false)],σ)))))
def qHe:LpsT:=fun r fr σ=>if r=8 then oracle 75 [0,4,5,6] qCt qG8 fr σ else .fail
def qBE:Code:=qIo Tryz.f164 0
theorem qE5 (gl : Gl) : ∀ vs σ a e out σ', qCt vs σ = some a → (qG8 a).run = some (e, out, σ') → LDoes Tryz.prog gl qBE (mk 75 ([0, 4, 5, 6].zip vs)) σ e (mk 75 out) σ' := by
  intro vs st a e out σ' hd hr
  unfold qCt at hd
  split at hd
  · rename_i s m n i
    injection hd with hd
    subst hd
    obtain ⟨h1, q1⟩ := Tr.chk_some hr
    obtain ⟨h2, q2⟩ := Tr.chk_some q1
    obtain ⟨h3, q3⟩ := Tr.chk_some q2
    clear hr q1 q2
    simp at h1 h2 h3
    subst h1 h2
    have key : ∀ (k : Nat) (i : Int) (n : Nat), 0 ≤ i → i + k = s.length → n < 10 ^ i.toNat → numN (s.drop i.toNat) n = numN s 0 →
       LDoes Tryz.prog gl qBE (mk 75 ([0, 4, 5, 6].zip [.str s, .bool m, .int .u64 (n : Int), .int .i64 i])) st e (mk 75 out) σ' := by
      intro k
      induction k with
      | zero =>
        intro i n h0 hi hn hf
        have e1 : s.drop i.toNat = [] := by apply List.drop_eq_nil_of_le; omega
        rw [e1] at hf
        simp [numN] at hf
        simp [qnk, numV, ← hf] at q3
        obtain ⟨rfl, rfl, rfl⟩ := q3
        refine LDoes.round qai (G := ofL []) qag qah (L := fun _ _ _ => .fail) (qac (by kernel_rfl)) (by kernel_rfl) ?_
        refine Tr.all_as (.ite (iLt i (sLen s)) (.ite (qau s i) (.ite (iLt (sAt s i) 48) (.ret (.ret,[3,2,39,34,27],[.str s,.top,.int .i64 0,.bool false,.bool m,.int .u64 (Int.ofNat n),.int .i64 i,.top,.top,.top,.top,.top,.top,.top,.top,.top,.top,.top,.top,.top,.top,.top,.top,.top,.int .i64 i,.str s,.int .i64 (sLen s),.bool true,.top,.top,.str s,.int .i64 i,.int .u8 (sAt s i),.bool (iLt (sAt s i) 48),.bool true,.tup [],.tup [],.tup [],.tup [],.bool true,.top,.top,.top,.top,.top,.top,.top,.top,.top,.top,.top,.top,.top,.top,.top,.top,.top,.top,.top,.top,.top,.top,.top,.top,.top,.top,.top,.top,.top,.top,.top,.top,.top,.top,.top],st)) (.ite (qau s i) (.ite (iLt 57 (sAt s i)) (.ret (.ret,[3,2,39,34,27],[.str s,.top,.int .i64 0,.bool false,.bool m,.int .u64 (Int.ofNat n),.int .i64 i,.top,.top,.top,.top,.top,.top,.top,.top,.top,.top,.top,.top,.top,.top,.top,.top,.top,.int .i64 i,.str s,.int .i64 (sLen s),.bool true,.top,.top,.str s,.int .i64 i,.int .u8 (sAt s i),.bool (iLt (sAt s i) 48),.bool false,.str s,.int .i64 i,.int .u8 (sAt s i),.bool (iLt 57 (sAt s i)),.bool true,.top,.top,.top,.top,.top,.top,.top,.top,.top,.top,.top,.top,.top,.top,.top,.top,.top,.top,.top,.top,.top,.top,.top,.top,.top,.top,.top,.top,.top,.top,.top,.top,.top,.top,.top],st)) (.ite (qau s i) (.ret (.normal,[39,34,27],[.str s,.top,.top,.top,.bool m,.int .u64 (iAdd .u64 (iMul .u64 (Int.ofNat n) 10) (qaq .u64 (iSub .u8 (sAt s i) 48))),.int .i64 (iAdd .i64 i
          1),.top,.top,.top,.top,.top,.top,.top,.top,.top,.top,.top,.top,.top,.top,.top,.top,.top,.int .i64 i,.str s,.int .i64 (sLen s),.bool true,.int .i64 i,.int .i64 (iAdd .i64 i 1),.str s,.int .i64 i,.int .u8 (sAt s i),.bool (iLt (sAt s i) 48),.bool false,.str s,.int .i64 i,.int .u8 (sAt s i),.bool (iLt 57 (sAt s i)),.bool false,.int .u64 (Int.ofNat n),.int .u64 (iMul .u64 (Int.ofNat n) 10),.str s,.int .i64 i,.int .u8 (sAt s i),.int .u8 (iSub .u8 (sAt s i) 48),.int .u64 (qaq .u64 (iSub .u8 (sAt s i) 48)),.int .u64 (iAdd .u64 (iMul .u64 (Int.ofNat n) 10) (qaq .u64 (iSub .u8 (sAt s i) 48))),.top,.top,.top,.top,.top,.top,.top,.top,.top,.top,.top,.top,.top,.top,.top,.top,.top,.top,.top,.top,.top,.top,.top,.top,.top,.top,.top],st)) .fail)) .fail)) .fail) (.ret (.exit 0,[27],[.str s,.top,.top,.top,.bool m,.int .u64 (Int.ofNat n),.int .i64 i,.top,.top,.top,.top,.top,.top,.top,.top,.top,.top,.top,.top,.top,.top,.top,.top,.top,.int .i64 i,.str s,.int .i64 (sLen s),.bool false,.top,.top,.top,.top,.top,.top,.top,.top,.top,.top,.top,.top,.top,.top,.top,.top,.top,.top,.top,.top,.top,.top,.top,.top,.top,.top,.top,.top,.top,.top,.top,.top,.top,.top,.top,.top,.top,.top,.top,.top,.top,.top,.top,.top,.top,.top,.top],st))) (by kernel_rfl) ?_
        exact Tr.all_f (by simp; omega) ⟨rfl, by simp [Weak, mk, qby, look], rfl⟩
      | succ k ih =>
        intro i n h0 hi hn hf
        obtain ⟨v, hv⟩ := qd0 (l := s) (i := i.toNat) (by omega)
        rw [qaO hv, numN] at hf
        have hv8 := v.toNat_lt
        have e2 : (i + 1).toNat = i.toNat + 1 := by omega
        have hpow : 10 ^ (i.toNat + 1) ≤ 10 ^ 19 := Nat.pow_le_pow_right (by omega) (by omega)
        rw [Nat.pow_succ] at hpow
        refine LDoes.round qai (G := ofL []) qag qah (L := fun _ _ _ => .fail) (qac (by kernel_rfl)) (by kernel_rfl) ?_
        refine Tr.all_as (.ite (iLt i (sLen s)) (.ite (qau s i) (.ite (iLt (sAt s i) 48) (.ret (.ret,[3,2,39,34,27],[.str s,.top,.int .i64 0,.bool false,.bool m,.int .u64 (Int.ofNat n),.int .i64 i,.top,.top,.top,.top,.top,.top,.top,.top,.top,.top,.top,.top,.top,.top,.top,.top,.top,.int .i64 i,.str s,.int .i64 (sLen s),.bool true,.top,.top,.str s,.int .i64 i,.int .u8 (sAt s i),.bool (iLt (sAt s i) 48),.bool true,.tup [],.tup [],.tup [],.tup [],.bool true,.top,.top,.top,.top,.top,.top,.top,.top,.top,.top,.top,.top,.top,.top,.top,.top,.top,.top,.top,.top,.top,.top,.top,.top,.top,.top,.top,.top,.top,.top,.top,.top,.top,.top,.top],st)) (.ite (qau s i) (.ite (iLt 57 (sAt s i)) (.ret (.ret,[3,2,39,34,27],[.str s,.top,.int .i64 0,.bool false,.bool m,.int .u64 (Int.ofNat n),.int .i64 i,.top,.top,.top,.top,.top,.top,.top,.top,.top,.top,.top,.top,.top,.top,.top,.top,.top,.int .i64 i,.str s,.int .i64 (sLen s),.bool true,.top,.top,.str s,.int .i64 i,.int .u8 (sAt s i),.bool (iLt (sAt s i) 48),.bool false,.str s,.int .i64 i,.int .u8 (sAt s i),.bool (iLt 57 (sAt s i)),.bool true,.top,.top,.top,.top,.top,.top,.top,.top,.top,.top,.top,.top,.top,.top,.top,.top,.top,.top,.top,.top,.top,.top,.top,.top,.top,.top,.top,.top,.top,.top,.top,.top,.top,.top,.top],st)) (.ite (qau s i) (.ret (.normal,[39,34,27],[.str s,.top,.top,.top,.bool m,.int .u64 (iAdd .u64 (iMul .u64 (Int.ofNat n) 10) (qaq .u64 (iSub .u8 (sAt s i) 48))),.int .i64 (iAdd .i64 i
          1),.top,.top,.top,.top,.top,.top,.top,.top,.top,.top,.top,.top,.top,.top,.top,.top,.top,.int .i64 i,.str s,.int .i64 (sLen s),.bool true,.int .i64 i,.int .i64 (iAdd .i64 i 1),.str s,.int .i64 i,.int .u8 (sAt s i),.bool (iLt (sAt s i) 48),.bool false,.str s,.int .i64 i,.int .u8 (sAt s i),.bool (iLt 57 (sAt s i)),.bool false,.int .u64 (Int.ofNat n),.int .u64 (iMul .u64 (Int.ofNat n) 10),.str s,.int .i64 i,.int .u8 (sAt s i),.int .u8 (iSub .u8 (sAt s i) 48),.int .u64 (qaq .u64 (iSub .u8 (sAt s i) 48)),.int .u64 (iAdd .u64 (iMul .u64 (Int.ofNat n) 10) (qaq .u64 (iSub .u8 (sAt s i) 48))),.top,.top,.top,.top,.top,.top,.top,.top,.top,.top,.top,.top,.top,.top,.top,.top,.top,.top,.top,.top,.top,.top,.top,.top,.top,.top,.top],st)) .fail)) .fail)) .fail) (.ret (.exit 0,[27],[.str s,.top,.top,.top,.bool m,.int .u64 (Int.ofNat n),.int .i64 i,.top,.top,.top,.top,.top,.top,.top,.top,.top,.top,.top,.top,.top,.top,.top,.top,.top,.int .i64 i,.str s,.int .i64 (sLen s),.bool false,.top,.top,.top,.top,.top,.top,.top,.top,.top,.top,.top,.top,.top,.top,.top,.top,.top,.top,.top,.top,.top,.top,.top,.top,.top,.top,.top,.top,.top,.top,.top,.top,.top,.top,.top,.top,.top,.top,.top,.top,.top,.top,.top,.top,.top,.top,.top],st))) (by kernel_rfl) ?_
        rw [qe3 hv]
        have hi1 := qcL h0 hv
        refine Tr.all_t (by simp; omega) <| Tr.all_t hi1 ?_
        by_cases hc : 48 ≤ v.toNat ∧ v.toNat ≤ 57
        · rw [if_pos hc] at hf
          have w1 : iSub .u8 (v.toNat : Int) 48 = v.toNat - 48 := by unfold iSub; rw [qvp (by omega)]
          have w2 : qaq .u64 (v.toNat - 48 : Int) = v.toNat - 48 := qdA (by omega)
          have w3 : iMul .u64 (Int.ofNat n) 10 = n * 10 := by unfold iMul; rw [qdA (by simp; omega)]; rfl
          have w4 : iAdd .u64 (n * 10 : Int) (v.toNat - 48) = n * 10 + (v.toNat - 48) := by unfold iAdd; rw [qdA (by omega)]
          have w5 : iAdd .i64 i 1 = i + 1 := qaD (by omega)
          have w6 : ((n * 10 + (v.toNat - 48) : Nat) : Int) = (n : Int) * 10 + (v.toNat - 48) := by omega
          refine Tr.all_f (by simp; omega) <| Tr.all_t hi1 <| Tr.all_f (by simp; omega) <| Tr.all_t hi1 ?_
          rw [w1, w2, w3, w4, w5]
          refine LDoes.into ?_ (ih (i + 1) (n * 10 + (v.toNat - 48)) (by omega) (by omega) (by rw [e2, Nat.pow_succ]; omega) (by rw [e2]; exact hf))
          rw [w6]
          simp [Weak, mk, qby, look]
        · rw [if_neg hc] at hf
          simp [qnk, numV, ← hf] at q3
          obtain ⟨rfl, rfl, rfl⟩ := q3
          by_cases hc1 : v.toNat < 48
          · exact Tr.all_t (by simp; omega) ⟨rfl, by simp [Weak, mk, qby, look], rfl⟩
          · refine Tr.all_f (by simp; omega) <| Tr.all_t hi1 <| Tr.all_t (by simp; omega) ⟨rfl, by simp [Weak, mk, qby, look], rfl⟩
    exact key s.length 0 0 (by omega) (by omega) (by simp) (by simp)
  · cases hd
def whoN (m:Bool) (t:qU):Option Int :=
 if t=[]∨19 < t.length then none
 else match numN t 0 with
  |none=>none
  |some n=>if (m=true∧9223372036854775808 < n)∨(m=false∧9223372036854775807 < n) then none else some (if m then -(n:Int) else n)
def whoO (s:qU):Option Int:=if s.head?=some 45 then whoN true (s.drop 1) else whoN false s
def qhE (s:qU):Bool:=(whoO s).isSome
def whoV (s:qU):Int:=(whoO s).getD 0
def qAz:List PV→Tr PV
 |[.str s]=>Tr.chk (qkV s) (.ret (.tup [.int .i64 (whoV s),.bool (qhE s)]))
 |_=>.fail
theorem qGC (gl:Gl):SimP Tryz.prog gl 164 fun args=>(qAz args).run:=by
 refine SimP.of_tree (G:=ofL []) (L:=qHe) qai qag qah Tryz.func164 rfl (by rfl) (by kernel_rfl) (qgu (r:=8) (c1:=qBE) (by kernel_rfl) ?_) ?_
 ·intro fr σ e fr' σ' hh;simp only [lps,qHe,if_true] at hh;exact qii (qE5 gl) fr σ e fr' σ' hh
 intro args x h hr;unfold qAz at h
 split at h
 ·rename_i s;obtain⟨h1,h2⟩:=Tr.chk_some h;simp at h1;cases h2
  refine Tr.run_as (.ite (sNe s []) (.ite (qau s 0) (.ite (iEq (sAt s 0) 45) (.ite (qa1 (qas 1) true (nNat 1) (nLen s) (nLen s)) (.ite (sEq (sSub s (nNat 1) (nLen s)) []) (.ret (.tup [.int .i64 0,.bool false])) (.ite (iLt 19 (sLen (sSub s (nNat 1) (nLen s)))) (.ret (.tup [.int .i64 0,.bool false])) (.ite (iEq 0 0) (.ite (iEq 0 0) (.ite (iLe (sLen (sSub s (nNat 1) (nLen s))) 19) (.ite (qnk (sSub s (nNat 1) (nLen s))) (.ite (iEq (sAt s 0) 45) (.ite (iLt 9223372036854775808 (numV (sSub s (nNat 1) (nLen s)))) (.ret (.tup [.int .i64 0,.bool false])) (.ite (bNot (iEq (sAt s 0) 45)) (.ite (iLt 9223372036854775807 (numV (sSub s (nNat 1) (nLen s)))) (.ret (.tup [.int .i64 0,.bool false])) (.ite (iEq (sAt s 0) 45) (.ite (iLt 0 (numV (sSub s (nNat 1) (nLen s)))) (.ret (.tup [.int .i64 (iSub .i64 (iSub .i64 0 (qaq .i64 (iSub .u64 (numV (sSub s (nNat 1) (nLen s))) 1))) 1),.bool true])) (.ret (.tup [.int .i64 (qaq .i64 (numV (sSub s (nNat 1) (nLen s)))),.bool true]))) (.ret (.tup [.int .i64 (qaq .i64 (numV (sSub s (nNat 1) (nLen s)))),.bool true])))) (.ite (iEq (sAt s 0) 45) (.ite (iLt 0 (numV (sSub s (nNat 1) (nLen s)))) (.ret (.tup [.int .i64 (iSub .i64 (iSub .i64 0 (qaq .i64 (iSub .u64 (numV (sSub s (nNat 1) (nLen s))) 1))) 1),.bool true])) (.ret (.tup [.int .i64 (qaq .i64 (numV (sSub s (nNat 1) (nLen s)))),.bool true]))) (.ret (.tup [.int .i64 (qaq .i64 (numV (sSub s (nNat 1) (nLen s)))),.bool true]))))) (.ite (bNot (iEq (sAt s 0) 45)) (.ite (iLt 9223372036854775807 (numV (sSub s (nNat
   1) (nLen s)))) (.ret (.tup [.int .i64 0,.bool false])) (.ite (iEq (sAt s 0) 45) (.ite (iLt 0 (numV (sSub s (nNat 1) (nLen s)))) (.ret (.tup [.int .i64 (iSub .i64 (iSub .i64 0 (qaq .i64 (iSub .u64 (numV (sSub s (nNat 1) (nLen s))) 1))) 1),.bool true])) (.ret (.tup [.int .i64 (qaq .i64 (numV (sSub s (nNat 1) (nLen s)))),.bool true]))) (.ret (.tup [.int .i64 (qaq .i64 (numV (sSub s (nNat 1) (nLen s)))),.bool true])))) (.ite (iEq (sAt s 0) 45) (.ite (iLt 0 (numV (sSub s (nNat 1) (nLen s)))) (.ret (.tup [.int .i64 (iSub .i64 (iSub .i64 0 (qaq .i64 (iSub .u64 (numV (sSub s (nNat 1) (nLen s))) 1))) 1),.bool true])) (.ret (.tup [.int .i64 (qaq .i64 (numV (sSub s (nNat 1) (nLen s)))),.bool true]))) (.ret (.tup [.int .i64 (qaq .i64 (numV (sSub s (nNat 1) (nLen s)))),.bool true]))))) (.ret (.tup [.int .i64 0,.bool false]))) .fail) .fail) .fail))) .fail) (.ite (sEq s []) (.ret (.tup [.int .i64 0,.bool false])) (.ite (iLt 19 (sLen s)) (.ret (.tup [.int .i64 0,.bool false])) (.ite (iEq 0 0) (.ite (iEq 0 0) (.ite (iLe (sLen s) 19) (.ite (qnk s) (.ite (iEq (sAt s 0) 45) (.ite (iLt 9223372036854775808 (numV s)) (.ret (.tup [.int .i64 0,.bool false])) (.ite (bNot (iEq (sAt s 0) 45)) (.ite (iLt 9223372036854775807 (numV s)) (.ret (.tup [.int .i64 0,.bool false])) (.ite (iEq (sAt s 0) 45) (.ite (iLt 0 (numV s)) (.ret (.tup [.int .i64 (iSub .i64 (iSub .i64 0 (qaq .i64 (iSub .u64 (numV s) 1))) 1),.bool true])) (.ret (.tup [.int .i64 (qaq .i64 (numV s)),.bool true]))) (.ret (.tup
   [.int .i64 (qaq .i64 (numV s)),.bool true])))) (.ite (iEq (sAt s 0) 45) (.ite (iLt 0 (numV s)) (.ret (.tup [.int .i64 (iSub .i64 (iSub .i64 0 (qaq .i64 (iSub .u64 (numV s) 1))) 1),.bool true])) (.ret (.tup [.int .i64 (qaq .i64 (numV s)),.bool true]))) (.ret (.tup [.int .i64 (qaq .i64 (numV s)),.bool true]))))) (.ite (bNot (iEq (sAt s 0) 45)) (.ite (iLt 9223372036854775807 (numV s)) (.ret (.tup [.int .i64 0,.bool false])) (.ite (iEq (sAt s 0) 45) (.ite (iLt 0 (numV s)) (.ret (.tup [.int .i64 (iSub .i64 (iSub .i64 0 (qaq .i64 (iSub .u64 (numV s) 1))) 1),.bool true])) (.ret (.tup [.int .i64 (qaq .i64 (numV s)),.bool true]))) (.ret (.tup [.int .i64 (qaq .i64 (numV s)),.bool true])))) (.ite (iEq (sAt s 0) 45) (.ite (iLt 0 (numV s)) (.ret (.tup [.int .i64 (iSub .i64 (iSub .i64 0 (qaq .i64 (iSub .u64 (numV s) 1))) 1),.bool true])) (.ret (.tup [.int .i64 (qaq .i64 (numV s)),.bool true]))) (.ret (.tup [.int .i64 (qaq .i64 (numV s)),.bool true]))))) (.ret (.tup [.int .i64 0,.bool false]))) .fail) .fail) .fail)))) .fail) (.ite (sEq s []) (.ret (.tup [.int .i64 0,.bool false])) (.ite (iLt 19 (sLen s)) (.ret (.tup [.int .i64 0,.bool false])) (.ite (iEq 0 0) (.ite (iEq 0 0) (.ite (iLe (sLen s) 19) (.ite (qnk s) (.ite false (.ite (iLt 9223372036854775808 (numV s)) (.ret (.tup [.int .i64 0,.bool false])) (.ite true (.ite (iLt 9223372036854775807 (numV s)) (.ret (.tup [.int .i64 0,.bool false])) (.ite false (.ite (iLt 0 (numV s)) (.ret (.tup [.int .i64 (iSub .i64 (iSub
   .i64 0 (qaq .i64 (iSub .u64 (numV s) 1))) 1),.bool true])) (.ret (.tup [.int .i64 (qaq .i64 (numV s)),.bool true]))) (.ret (.tup [.int .i64 (qaq .i64 (numV s)),.bool true])))) (.ite false (.ite (iLt 0 (numV s)) (.ret (.tup [.int .i64 (iSub .i64 (iSub .i64 0 (qaq .i64 (iSub .u64 (numV s) 1))) 1),.bool true])) (.ret (.tup [.int .i64 (qaq .i64 (numV s)),.bool true]))) (.ret (.tup [.int .i64 (qaq .i64 (numV s)),.bool true]))))) (.ite true (.ite (iLt 9223372036854775807 (numV s)) (.ret (.tup [.int .i64 0,.bool false])) (.ite false (.ite (iLt 0 (numV s)) (.ret (.tup [.int .i64 (iSub .i64 (iSub .i64 0 (qaq .i64 (iSub .u64 (numV s) 1))) 1),.bool true])) (.ret (.tup [.int .i64 (qaq .i64 (numV s)),.bool true]))) (.ret (.tup [.int .i64 (qaq .i64 (numV s)),.bool true])))) (.ite false (.ite (iLt 0 (numV s)) (.ret (.tup [.int .i64 (iSub .i64 (iSub .i64 0 (qaq .i64 (iSub .u64 (numV s) 1))) 1),.bool true])) (.ret (.tup [.int .i64 (qaq .i64 (numV s)),.bool true]))) (.ret (.tup [.int .i64 (qaq .i64 (numV s)),.bool true]))))) (.ret (.tup [.int .i64 0,.bool false]))) .fail) .fail) .fail)))) (by kernel_rfl) ?_
  have hnum:∀ t:qU,t.length≤19→∀ n,numN t 0=some n→n < 10000000000000000000:=by
   intro t ht n hn;have h2:=qJh t 0 0 n hn (by simp)
   have h3:10 ^ (0+t.length)≤10 ^ 19:=Nat.pow_le_pow_right (by omega) (by omega)
   have:(10:Nat) ^ 19=10000000000000000000:=by decide
   omega
  cases s with
  |nil=>simp [qhE,whoV,whoO,whoN]
  |cons c t =>
   have e1:sSub (c::t) (nNat 1) (nLen (c::t))=t:=by simp
   have i0:qau (c::t) 0=true:=by simp
   have i1:qa1 (qas 1) true (nNat 1) (nLen (c::t)) (nLen (c::t))=true:=by simp
   have n0:sNe (c::t) []=true:=by simp
   have n1:sEq (c::t) []=false:=by simp
   have e0:sAt (c::t) 0=c.toNat:=by simp
   rw [i0,n0,n1,i1,e0,e1];by_cases hc:c=45
   ·have hb:iEq (c.toNat:Int) 45=true:=qhf (k:=45) hc;have hw:whoO (c::t)=whoN true t:=by simp [whoO,hc]
    rw [hb];by_cases ht:t=[]
    ·subst ht;simp [qhE,whoV,hw,whoN]
    ·by_cases hl:19 < t.length
     ·have l1:iLt 19 (sLen t)=true:=by simp;omega
      have l0:sEq t []=false:=by simp [ht]
      rw [l0,l1];simp [qhE,whoV,hw,whoN,ht,hl]
     ·have l1:iLt 19 (sLen t)=false:=by simp;omega
      have l0:sEq t []=false:=by simp [ht]
      have l2:iLe (sLen t) 19=true:=by simp;omega
      rw [l0,l1,l2];cases hn:numN t 0 with
      |none =>
       have k1:qnk t=false:=by simp [qnk,hn]
       rw [k1];simp [qhE,whoV,hw,whoN,ht,hl,hn]
      |some n =>
       have hb:=hnum t (by omega) n hn
       have k1:qnk t=true:=by simp [qnk,hn]
       have k2:numV t=n:=by simp [numV,hn]
       rw [k1,k2];by_cases b1:9223372036854775808 < n
       ·have b2:iLt 9223372036854775808 (n:Int)=true:=by simp;omega
        rw [b2];simp [qhE,whoV,hw,whoN,ht,hl,hn,b1]
       ·have b2:iLt 9223372036854775808 (n:Int)=false:=by simp;omega
        rw [b2];have o1:qhE (c::t)=true:=by simp [qhE,hw,whoN,ht,hl,hn,b1]
        have o2:whoV (c::t)=-(n:Int):=by simp [whoV,hw,whoN,ht,hl,hn,b1]
        by_cases b3:0 < n
        ·have b4:iLt 0 (n:Int)=true:=by simp;omega
         have w1:iSub .u64 (n:Int) 1=n - 1:=qdA (by omega)
         have w2:qaq .i64 ((n:Int) - 1)=n - 1:=qaD (by omega)
         have w3:iSub .i64 0 ((n:Int) - 1)=-(n - 1):=by unfold iSub;rw [qaD (by omega)];omega
         have w4:iSub .i64 (-((n:Int) - 1)) 1=-n:=by unfold iSub;rw [qaD (by omega)];omega
         rw [b4,w1,w2,w3,w4,o1,o2];simp
        ·have b4:iLt 0 (n:Int)=false:=by simp;omega
         have:n=0:=by omega
         subst this;rw [b4,o1,o2];have w5:qaq .i64 ((0:Nat):Int)=0:=by decide
         rw [w5];simp
   ·have hb:iEq (c.toNat:Int) 45=false:=qds (k:=45) hc;have hw:whoO (c::t)=whoN false (c::t):=by simp [whoO,hc]
    rw [hb];generalize hs:c::t=s at *;have ht:s≠[]:=by rw [← hs];simp
    by_cases hl:19 < s.length
    ·have l1:iLt 19 (sLen s)=true:=by simp;omega
     rw [l1];simp [qhE,whoV,hw,whoN,ht,hl]
    ·have l1:iLt 19 (sLen s)=false:=by simp;omega
     have l2:iLe (sLen s) 19=true:=by simp;omega
     rw [l1,l2];cases hn:numN s 0 with
     |none =>
      have k1:qnk s=false:=by simp [qnk,hn]
      rw [k1];simp [qhE,whoV,hw,whoN,ht,hl,hn]
     |some n =>
      have hb:=hnum s (by omega) n hn
      have k1:qnk s=true:=by simp [qnk,hn]
      have k2:numV s=n:=by simp [numV,hn]
      rw [k1,k2];by_cases b1:9223372036854775807 < n
      ·have b2:iLt 9223372036854775807 (n:Int)=true:=by simp;omega
       rw [b2];simp [qhE,whoV,hw,whoN,ht,hl,hn,b1]
      ·have b2:iLt 9223372036854775807 (n:Int)=false:=by simp;omega
       have o1:qhE s=true:=by simp [qhE,hw,whoN,ht,hl,hn,b1]
       have o2:whoV s=(n:Int):=by simp [whoV,hw,whoN,ht,hl,hn,b1]
       have w2:qaq .i64 (n:Int)=n:=qaD (by omega)
       rw [b2,w2,o1,o2];simp
 ·cases h
end Go.Pv
set_option maxHeartbeats 4000000
set_option maxRecDepth 200000
set_option linter.unusedSimpArgs false
set_option linter.unusedVariables false
namespace Go.Pv
open Go Go.Proofs
def qIz:GamT:=ofL [(178,.pure qHg),(qyZ,.hint [(4,0,1,5)])]
theorem qHl (gl:Gl):qam Tryz.prog gl (gam qIz):=(qaf (qJK gl) (qcO (K:=.hint [(4,0,1,5)]) trivial qag))
def qCx:Code:=qc3 Tryz.f165 5
def qDC:LI:=⟨128,[0,4,5],fun e=>match e with|.ret=>[2,3]|.exit 0=>[0,4,5]|_=>[],true⟩
def qAH:LpsT:=fun r fr σ=>.fail
def qiO (vs:List PV) (σ:Store):Option (PExit×List PV×Store):=lval (lstep tbT qIz qAH qCx qDC) vs σ
def qs3 (s:qU) (r:qR) (n:Int) (k:Nat):Tr LR:=let z1:=qan r 1;let z2:=nEq k (nXs r);let z3:=xApp r [[.int .u8 (sAt s n)]];let z4:=iAdd .i64 n 1;let z5:=qau s z4;let z6:=iAdd .i64 n 2;let z7:=qb5 (sAt s (iAdd .i64 n 3));let z8:=xApp r [[.int .u8 (qaq .u8 (iAdd .i64 (iMul .i64 (qb5 (sAt s z6)) 16) z7))]];let z9:=xApp r [[.int .u8 (sAt s z4)]];let z10:Tr LR:=.ite z5 (.ite (qaz r [[.int .u8 (sAt s z4)]] 1) (.ite (qar [[.int .u8 (sAt s z4)]] 1) (.ite z1 (.ite z2 (.ret (.next [.str s,.sl z9 (.tok 0),.int .i64 z6] (Store.mk [] [(nXs z9,1,5)] []))) .fail) .fail) .fail) .fail) .fail;.ite (iLt n (sLen s)) (.ite (qau s n) (.ite (iNe (sAt s n) 34) (.ite (qau s n) (.ite (iNe (sAt s n) 92) (.ite (qau s n) (.ite (qaz r [[.int .u8 (sAt s n)]] 1) (.ite (qar [[.int .u8 (sAt s n)]] 1) (.ite z1 (.ite z2 (.ret (.next [.str s,.sl z3 (.tok 0),.int .i64 z4] (Store.mk [] [(nXs z3,1,5)] []))) .fail) .fail) .fail) .fail) .fail) (.ite (iLe (sLen s) z4) (.ret (.out .ret [.str [],.bool false] (Store.mk [] [(k,1,5)] []))) (.ite z5 (.ite (iEq (sAt s z4) 110) (.ite (qaz r [[.int .u8 10]] 1) (.ite (qar [[.int .u8 10]] 1) (.ite z1 (.ite z2 (.ret (.next [.str s,.sl (xApp r [[.int .u8 10]]) (.tok 0),.int .i64 z6] (Store.mk [] [(nXs (xApp r [[.int .u8 10]]),1,5)] []))) .fail) .fail) .fail) .fail) (.ite z5 (.ite (iEq (sAt s z4) 116) (.ite (qaz r [[.int .u8 9]] 1) (.ite (qar [[.int .u8 9]] 1) (.ite z1 (.ite z2 (.ret (.next [.str s,.sl (xApp r [[.int .u8 9]]) (.tok 0),.int .i64 z6] (Store.mk [] [(nXs (xApp r [[.int .u8 9]]),1,5)] []))) .fail) .fail) .fail) .fail) (.ite z5 (.ite (iEq (sAt s z4) 120) (.ite (iLt (iAdd .i64 n 3) (sLen s)) (.ite (qau s z6) (.ite (iLe 0 (qb5 (sAt s z6))) (.ite (qau s (iAdd .i64 n 3)) (.ite (iLe 0 z7) (.ite (qau s z6) (.ite (qau s (iAdd .i64 n 3)) (.ite (qaz r [[.int .u8 (qaq .u8 (iAdd .i64 (iMul .i64 (qb5 (sAt s z6)) 16) z7))]] 1) (.ite (qar [[.int .u8 (qaq .u8 (iAdd .i64 (iMul .i64 (qb5 (sAt s z6)) 16) z7))]] 1) (.ite z1 (.ite z2 (.ret (.next [.str s,.sl z8 (.tok 0),.int .i64 (iAdd .i64 n 4)] (Store.mk [] [(nXs z8,1,5)] []))) .fail) .fail) .fail) .fail) .fail) .fail) z10) .fail) z10) .fail) z10) z10) .fail)) .fail)) .fail))) .fail) (.ret (.out (.exit 0) [.str s,.sl r (.tok 0),.int .i64 n] (Store.mk [] [(k,1,5)] [])))) .fail) (.ret (.out (.exit 0) [.str s,.sl r (.tok 0),.int .i64 n] (Store.mk [] [(k,1,5)] [])))
theorem qO7 (s:qU) (r:qR) (n:Int) (k:Nat):lstep tbT qIz qAH qCx qDC [.str s,.sl r (.tok 0),.int .i64 n] ⟨[],[(k,1,5)],[]⟩=qs3 s r n k:=by kernel_rfl
theorem qLG (s:qU) (r:qR) (n:Int) (k:Nat):qiO [.str s,.sl r (.tok 0),.int .i64 n] ⟨[],[(k,1,5)],[]⟩=lnext qiO (qs3 s r n k).run:=by unfold qiO;rw [qaJ,qO7]
def qh0 (s:qU) (r:qR) (n:Int) (k:Nat):Option (PExit×List PV×Store):=qiO [.str s,.sl r (.tok 0),.int .i64 n] ⟨[],[(k,1,5)],[]⟩
def qkr (s:qU) (r:qR) (n:Int) (k:Nat):qU:=(gStr (gOut (qh0 s r n k) 0))
def qkf (s:qU) (r:qR) (n:Int) (k:Nat):Bool:=(qbQ (gOut (qh0 s r n k) 1))
def qvv (s:qU) (r:qR) (n:Int) (k:Nat):Nat:=(gTok (qh0 s r n k) 0)
def qmw (s:qU) (r:qR) (n:Int) (k:Nat):Bool:=isW (qh0 s r n k) (.ret,[.str (qkr s r n k),.bool (qkf s r n k)],⟨[],[((qvv s r n k),1,5)],[]⟩)
def qjB (s:qU) (r:qR) (n:Int) (k:Nat):qU:=(gStr (gOut (qh0 s r n k) 0))
def qgM (s:qU) (r:qR) (n:Int) (k:Nat):qR:=(gRow (gOut (qh0 s r n k) 1))
def qkd (s:qU) (r:qR) (n:Int) (k:Nat):Int:=(gInt (gOut (qh0 s r n k) 2))
def qxD (s:qU) (r:qR) (n:Int) (k:Nat):Nat:=(gTok (qh0 s r n k) 0)
def qqy (s:qU) (r:qR) (n:Int) (k:Nat):Bool:=isW (qh0 s r n k) ((.exit 0),[.str (qjB s r n k),.sl (qgM s r n k) (.tok 0),.int .i64 (qkd s r n k)],⟨[],[((qxD s r n k),1,5)],[]⟩)
def qmH:List PV→Store→Tr (PExit×List PV×Store)|[.str s,.sl r (.tok 0),.int .i64 n],⟨[],[(k,1,5)],[]⟩=>.ite (qmw s r n k) (.ret (.ret,[.str (qkr s r n k),.bool (qkf s r n k)],⟨[],[((qvv s r n k),1,5)],[]⟩)) (.ite (qqy s r n k) (.ret ((.exit 0),[.str (qjB s r n k),.sl (qgM s r n k) (.tok 0),.int .i64 (qkd s r n k)],⟨[],[((qxD s r n k),1,5)],[]⟩)) (.fail))|_,_=>.fail
theorem qNr:∀ vs σ r,(qmH vs σ).run=some r→qiO vs σ=some r:=by
 intro vs σ r h;unfold qmH at h
 split at h
 ·exact qae h fun h=>qae h fun h=>by cases h
 ·cases h
theorem qHu (gl:Gl):∀ fr σ e fr' σ',(orc qDC qmH fr σ).run=some (e,fr',σ')→LDoes Tryz.prog gl qCx fr σ e fr' σ':=qbu qai (qHl gl ) qah (L:=qAH) (qac (by kernel_rfl)) (by kernel_rfl) qNr
def qMp:LpsT:=fun r fr σ=>bif Nat.beq r 5 then orc qDC qmH fr σ else .fail
def qGG (v:qU):Tr PV:=.ite (iLt (sLen v) 2) (.ret (.tup [.str [],.bool false])) (.ite (qau v 0) (.ite (iNe (sAt v 0) 34) (.ret (.tup [.str [],.bool false])) (.ite (qmw v [] 1 0) (.ret (.tup [.str (qkr v [] 1 0),.bool (qkf v [] 1 0)])) (.ite (qqy v [] 1 0) (.ite (qb7 (qgM v [] 1 0)) (.ret (.tup [.str (qbr (qgM v [] 1 0)),.bool (iEq (qkd v [] 1 0) (iSub .i64 (sLen (qjB v [] 1 0)) 1))])) .fail) .fail))) .fail)
theorem qQp (v:qU):(tcall tbT qIz qMp Tryz.f165 [.str v]).flat=qGG v:=by kernel_rfl
def qGy (v:qU):Option PV:=(qGG v).run
def qNn (v:qU):qU:=(gStr (gAt (gCs (gVal (qGy v))) 0))
def qL6 (v:qU):Bool:=(qbQ (gAt (gCs (gVal (qGy v))) 1))
def qHk (v:qU):Bool:=isW (qGy v) (.tup [.str (qNn v),.bool (qL6 v)])
def qMx:List PV→Tr PV|[.str v]=>.ite (qHk v) (.ret (.tup [.str (qNn v),.bool (qL6 v)])) (.fail)|_=>.fail
theorem qHs (gl:Gl):SimP Tryz.prog gl 165 fun args=>(qMx args).run:=by
 refine SimP.of_flat (G:=qIz) (L:=qMp) qai (qHl gl ) qah  Tryz.func165 rfl (by rfl) (by kernel_rfl) (qax (L:=lps qMp) [(5,qCx)] (by kernel_rfl) (List.forall_mem_cons.2 ⟨fun fr σ e fr' σ' h=>qHu gl  fr σ e fr' σ' h,(List.forall_mem_nil _)⟩)) ?_
 intro args x h;unfold qMx at h
 split at h
 ·exact (congrArg Tr.run (qQp _)).trans (qae h fun h=>by cases h)
 ·cases h
end Go.Pv
set_option maxHeartbeats 4000000
set_option maxRecDepth 200000
set_option linter.unusedSimpArgs false
set_option linter.unusedVariables false
namespace Go.Pv
open Go Go.Proofs Go.RowKit
def qtN:qU→Bool
 |h1::h2::_=>decide (0≤qb5 h1.toNat)&&decide (0≤qb5 h2.toNat)
 |_=>false
def hexW:qU→UInt8
 |h1::h2::_=>UInt8.ofNat (qaq .u8 (qb5 h1.toNat * 16+qb5 h2.toNat)).toNat
 |_=>0
inductive RS where
 |stop
 |bad
 |one (x:UInt8) (k:Nat)
def rS:qU→RS
 |[]=>.stop
 |c::t=>if c=34 then .stop else if c≠92 then .one c 1 else
  match t with
  |[]=>.bad
  |e::u=>if e=110 then .one 10 2 else if e=116 then .one 9 2 else if e=120∧qtN u=true then .one (hexW u) 4 else .one e 2
theorem rS_k {r:List UInt8} {x:UInt8} {k:Nat} (h:rS r=.one x k):1≤k∧k≤r.length:=by
 unfold rS at h
 split at h
 ·cases h
 ·rename_i c t;split at h
  ·cases h
  ·split at h
   ·cases h;simp
   ·split at h
    ·cases h
    ·rename_i e u;split at h
     ·cases h;simp
     ·split at h
      ·cases h;simp
      ·split at h
       ·rename_i hx;cases h
        have:=hx.2;unfold qtN at this;split at this
        ·simp
        ·cases this
       ·cases h;simp
def rP (r:qU):Option (List UInt8×List UInt8):=match h:rS r with
 |.stop=>some ([],r)
 |.bad=>none
 |.one x k=>(rP (r.drop k)).map fun p=>(x::p.1,p.2)
 termination_by r.length
 decreasing_by have:=rS_k h;simp;omega
theorem qwH {r:List UInt8} (h:rS r=.stop):rP r=some ([],r):=by rw [rP.eq_def];split<;>simp_all
theorem qPV {r:List UInt8} (h:rS r=.bad):rP r=none:=by rw [rP.eq_def];split<;>simp_all
theorem qLM {r:List UInt8} {x:UInt8} {k:Nat} (h:rS r=.one x k):rP r=(rP (r.drop k)).map fun p=>(x::p.1,p.2):=by rw [rP.eq_def];split<;>simp_all
theorem qrt {s r:List UInt8} {i:Nat} {c:UInt8} (h:s.drop i=c::r):s[i]?=some c∧s.drop (i+1)=r∧i+1+r.length=s.length:=by
 have h1:(s.drop i)[0]?=some c:=by rw [h];rfl
 have h2:s.drop (i+1)=r:=by
  have:(s.drop i).drop 1=r:=by rw [h];rfl
  simpa [Nat.add_comm] using this
 have h3:=congrArg List.length h;simp at h1 h3;exact⟨h1,h2,by omega⟩
theorem qCY (c:UInt8):-1≤qb5 c.toNat∧qb5 c.toNat≤15:=by
 have h:=c.toNat_lt;have key:∀ n:Fin 256,-1≤qb5 (n.val:Int)∧qb5 (n.val:Int)≤15:=by decide +kernel
 exact key ⟨c.toNat,h⟩
theorem qFN (n:Int):0≤qaq .u8 n∧qaq .u8 n < 256:=by
 simp [qaq,IntKind.wrap,IntKind.signed,IntKind.bits];omega
theorem qk9 {c k:UInt8} (h:c≠k):iNe (c.toNat:Int) (k.toNat:Int)=true:=by
 simp only [qPk,decide_eq_true_eq];intro e;exact h (UInt8.toNat_inj.1 (by omega))
theorem qkS {c k:UInt8} (h:c=k):iNe (c.toNat:Int) (k.toNat:Int)=false:=by
 subst h;simp
theorem qJQ (b:qU) (x:UInt8) {n:Int} (h:(x.toNat:Int)=n):xApp (qab b) [[.int .u8 n]]=qab (b++[x]):=by
 subst h;rw [qiz b (by have:=x.toNat_lt;omega)]
 simp
theorem qOE {h1 h2:UInt8} {u:List UInt8}:((hexW (h1::h2::u)).toNat:Int)=qaq .u8 (iAdd .i64 (iMul .i64 (qb5 h1.toNat) 16) (qb5 h2.toNat)):=by
 have r1:=qCY h1;have r2:=qCY h2;have e1:iMul .i64 (qb5 h1.toNat) 16=qb5 h1.toNat * 16:=qaD (by omega)
 have e2:iAdd .i64 (qb5 h1.toNat * 16) (qb5 h2.toNat)=qb5 h1.toNat * 16+qb5 h2.toNat:=qaD (by omega)
 rw [e1,e2];have:=qFN (qb5 h1.toNat * 16+qb5 h2.toNat);simp [hexW];omega
theorem qyC {s:List UInt8} (hs:s.length≤140737488355328) (b:qU) (i:Int) (r:qU) (hi:1≤i) (hr:s.drop i.toNat=r) (hil:i≤s.length) (hb:b.length+r.length≤140737488355328) :
  lnext qiO (qs3 s (qab b) i b.length).run=match rS r with
   |.stop=>some (.exit 0,[.str s,.sl (qab b) (.tok 0),.int .i64 i],⟨[],[(b.length,1,5)],[]⟩)
   |.bad=>some (.ret,[.str [],.bool false],⟨[],[(b.length,1,5)],[]⟩)
   |.one x k=>qiO [.str s,.sl (qab (b++[x])) (.tok 0),.int .i64 (i+k)] ⟨[],[((b++[x]).length,1,5)],[]⟩:=by
 cases r with
 |nil =>
  have hl:=congrArg List.length hr;simp at hl;have lt:iLt i (sLen s)=false:=by simp;omega
  unfold qs3
  try dsimp only
  simp only [lt,Tr.run_ite,Bool.false_eq_true,if_false];simp [rS]
 |cons c t =>
  obtain⟨hv,hd1,hl1⟩:=qrt hr;have hb1:b.length+(t.length+1)≤140737488355328:=hb;have a0:sAt s i=c.toNat:=qe3 hv;have k0:qau s i=true:=qcL (by omega) hv
  have n1:(i+1).toNat=i.toNat+1:=by omega
  have n2:(i+2).toNat=i.toNat+1+1:=by omega
  have n3:(i+3).toNat=i.toNat+1+1+1:=by omega
  have w1:iAdd .i64 i 1=i+1:=qaD (by omega)
  have w2:iAdd .i64 i 2=i+2:=qaD (by omega)
  have w3:iAdd .i64 i 3=i+3:=qaD (by omega)
  have w4:iAdd .i64 i 4=i+4:=qaD (by omega)
  have lt:iLt i (sLen s)=true:=by simp;omega
  have gr:∀ n,qaz (qab b) [[.int .u8 n]] 1=true:=fun n=>by simp;omega
  have nw:∀ n,qar [[.int .u8 n]] 1=true:=fun n=>by simp [one]
  have sz:qan (qab b) 1=true:=qbS _;have ne:nEq b.length (nXs (qab b))=true:=by simp
  have put:∀ (x:UInt8) (n:Int) (k:Nat),(x.toNat:Int)=n→lnext qiO (some (LR.next [.str s,.sl (xApp (qab b) [[.int .u8 n]]) (.tok 0),.int .i64 (i+k)] ⟨[],[(nXs (xApp (qab b) [[.int .u8 n]]),1,5)],[]⟩))=qiO [.str s,.sl (qab (b++[x])) (.tok 0),.int .i64 (i+k)] ⟨[],[((b++[x]).length,1,5)],[]⟩:=fun x n k h=>by
   rw [qJQ b x h,qcW];rfl
  unfold qs3
  try dsimp only
  simp only [w1,w2,w3,w4,a0,lt,k0,gr,nw,sz,ne,Tr.run_ite,Tr.run_ret,Tr.run_fail,if_true];by_cases c34:c=34
  ·have e:iNe (c.toNat:Int) 34=false:=qkS (k:=34) c34;simp only [e,Bool.false_eq_true,if_false];simp [rS,c34]
  ·have e:iNe (c.toNat:Int) 34=true:=qk9 (k:=34) c34;simp only [e,if_true];by_cases c92:c=92
   ·have e:iNe (c.toNat:Int) 92=false:=qkS (k:=92) c92;simp only [e,Bool.false_eq_true,if_false];cases t with
    |nil =>
     have le:iLe (sLen s) (i+1)=true:=by simp at hl1 ⊢;omega
     simp only [le,if_true];simp [rS,c92]
    |cons e' u =>
     obtain⟨hv1,hd2,hl2⟩:=qrt hd1;have a1:sAt s (i+1)=e'.toNat:=qe3 (by rw [n1];exact hv1)
     have k1:qau s (i+1)=true:=qcL (by omega) (by rw [n1];exact hv1)
     have le:iLe (sLen s) (i+1)=false:=by simp;omega
     simp only [a1,k1,le,Bool.false_eq_true,if_true,if_false];by_cases e110:e'=110
     ·have f:iEq (e'.toNat:Int) 110=true:=qhf (k:=110) e110;simp only [f,if_true,rS,c92,e110];exact put 10 10 2 rfl
     ·have f:iEq (e'.toNat:Int) 110=false:=qds (k:=110) e110;simp only [f,Bool.false_eq_true,if_false];by_cases e116:e'=116
      ·have f:iEq (e'.toNat:Int) 116=true:=qhf (k:=116) e116;simp only [f,if_true,rS,c92,e110,e116];exact put 9 9 2 rfl
      ·have f:iEq (e'.toNat:Int) 116=false:=qds (k:=116) e116;simp only [f,Bool.false_eq_true,if_false];have two:∀ h:¬ (e'=120∧qtN u=true),rS (c::e'::u)=.one e' 2:=fun h=>by simp [rS,c92,e110,e116];intro h1;exact Bool.eq_false_iff.2 fun h2=>h ⟨h1,h2⟩
       by_cases e120:e'=120
       ·have f:iEq (e'.toNat:Int) 120=true:=qhf (k:=120) e120;simp only [f,if_true];cases u with
        |nil =>
         have l3:iLt (i+3) (sLen s)=false:=by simp at hl2 ⊢;omega
         rw [two (by simp [qtN])]
         simp only [l3,Bool.false_eq_true,if_false];exact put e' _ 2 rfl
        |cons h1 u =>
         obtain⟨hv2,hd3,hl3⟩:=qrt hd2;cases u with
         |nil =>
          have l3:iLt (i+3) (sLen s)=false:=by simp at hl3 ⊢;omega
          rw [two (by simp [qtN])]
          simp only [l3,Bool.false_eq_true,if_false];exact put e' _ 2 rfl
         |cons h2 u =>
          obtain⟨hv3,hd4,hl4⟩:=qrt hd3;have a2:sAt s (i+2)=h1.toNat:=qe3 (by rw [n2];exact hv2)
          have k2:qau s (i+2)=true:=qcL (by omega) (by rw [n2];exact hv2)
          have a3:sAt s (i+3)=h2.toNat:=qe3 (by rw [n3];exact hv3)
          have k3:qau s (i+3)=true:=qcL (by omega) (by rw [n3];exact hv3)
          have l3:iLt (i+3) (sLen s)=true:=by simp;omega
          simp only [a2,k2,a3,k3,l3,if_true];by_cases g1:0≤qb5 h1.toNat
          ·have f1:iLe 0 (qb5 h1.toNat)=true:=by simpa using g1
           simp only [f1,if_true];by_cases g2:0≤qb5 h2.toNat
           ·have f2:iLe 0 (qb5 h2.toNat)=true:=by simpa using g2
            have e1:rS (c::e'::h1::h2::u)=.one (hexW (h1::h2::u)) 4:=by simp [rS,c92,e110,e116,e120,qtN,g1,g2]
            simp only [f2,if_true,e1];exact put (hexW (h1::h2::u)) _ 4 qOE
           ·have f2:iLe 0 (qb5 h2.toNat)=false:=by simpa using g2
            rw [two (by simp [qtN,g2])]
            simp only [f2,Bool.false_eq_true,if_false];exact put e' _ 2 rfl
          ·have f1:iLe 0 (qb5 h1.toNat)=false:=by simpa using g1
           rw [two (by simp [qtN,g1])]
           simp only [f1,Bool.false_eq_true,if_false];exact put e' _ 2 rfl
       ·have f:iEq (e'.toNat:Int) 120=false:=qds (k:=120) e120;rw [two (fun h=>e120 h.1)]
        simp only [f,Bool.false_eq_true,if_false];exact put e' _ 2 rfl
   ·have e:iNe (c.toNat:Int) 92=true:=qk9 (k:=92) c92;have e1:rS (c::t)=.one c 1:=by simp [rS,c34,c92]
    simp only [e,if_true,e1];exact put c _ 1 rfl
theorem qKy {s:List UInt8} (hs:s.length≤140737488355328):∀ (k:Nat) (b:qU) (i:Int) (r:qU),r.length≤k→1≤i→s.drop i.toNat=r→i≤s.length→b.length+r.length≤140737488355328 →
  (∀ p,rP r=some p→qiO [.str s,.sl (qab b) (.tok 0),.int .i64 i] ⟨[],[(b.length,1,5)],[]⟩=some (.exit 0,[.str s,.sl (qab (b++p.1)) (.tok 0),.int .i64 ((s.length:Int) - p.2.length)],⟨[],[((b++p.1).length,1,5)],[]⟩)) ∧
  (rP r=none→∃ m,qiO [.str s,.sl (qab b) (.tok 0),.int .i64 i] ⟨[],[(b.length,1,5)],[]⟩=some (.ret,[.str [],.bool false],⟨[],[(m,1,5)],[]⟩)):=by
 intro k
 induction k with
 |zero =>
  intro b i r hk hi hr hil hb;have:r=[]:=by apply List.eq_nil_of_length_eq_zero;omega
  subst this;have hl:=congrArg List.length hr;simp at hl;rw [qLG,qyC hs b i [] hi hr hil hb];have e:i=s.length:=by omega
  refine⟨fun p hp=>?_,fun hp=>by rw [qwH rfl] at hp;cases hp⟩
  rw [qwH rfl] at hp;cases hp
  simp [rS,e]
 |succ k ih =>
  intro b i r hk hi hr hil hb;have hl:=congrArg List.length hr;simp at hl;rw [qLG,qyC hs b i r hi hr hil hb];cases hS:rS r with
  |stop =>
   rw [qwH hS];refine⟨fun p hp=>?_,fun hp=>by cases hp⟩
   cases hp
   have e:i=(s.length:Int) - r.length:=by omega
   simp [e]
  |bad =>
   rw [qPV hS];exact⟨fun p hp=>by (cases hp),fun _=>⟨_,rfl⟩⟩
  |one x j =>
   have hj:=rS_k hS;rw [qLM hS];obtain⟨h1,h2⟩:=ih (b++[x]) (i+j) (r.drop j) (by simp;omega) (by omega) (by rw [← hr,List.drop_drop];congr 1;omega) (by omega) (by simp;omega)
   refine⟨fun p hp=>?_,fun hp=>?_⟩
   ·obtain⟨q,hq,rfl⟩:=Option.map_eq_some_iff.1 hp;have:=h1 q hq;simpa using this
   ·exact h2 (by simpa using hp)
def rsO (s:qU):qU×Bool:=if s.length < 2∨s.head?≠some 34 then ([],false) else match rP (s.drop 1) with
 |none=>([],false)
 |some p=>(p.1,decide (p.2.length=1))
def rsV (s:qU):qU:=(rsO s).1
def okRs (s:qU):Bool:=(rsO s).2
def qrH:List PV→Tr PV
 |[.str s]=>Tr.chk (qkV s) (.ret (.tup [.str (rsV s),.bool (okRs s)]))
 |_=>.fail
theorem qNo {s:List UInt8} (hs:s.length≤140737488355328):qGy s=some (.tup [.str (rsV s),.bool (okRs s)]):=by
 unfold qGy qGG
 try dsimp only
 by_cases hs2:s.length < 2
 ·have l1:iLt (sLen s) 2=true:=by simp;omega
  simp only [l1,Tr.run_ite,if_true];simp [rsV,okRs,rsO,hs2]
 ·have l1:iLt (sLen s) 2=false:=by simp;omega
  have l2:qau s 0=true:=by simp;omega
  have l4:iSub .i64 (sLen s) 1=s.length - 1:=by unfold iSub;rw [qgY,qaD (by omega)]
  obtain⟨c,hc⟩:=qd0 (l:=s) (i:=0) (by omega)
  have l5:sAt s 0=c.toNat:=qe3 (i:=0) hc;have hh:s.head?=some c:=by rw [List.head?_eq_getElem?];exact hc
  by_cases c34:c=34
  ·have l6:iNe (c.toNat:Int) 34=false:=qkS (k:=34) c34;have e1:rsO s=match rP (s.drop 1) with|none=>([],false)|some p=>(p.1,decide (p.2.length=1)):=by
    unfold rsO;rw [if_neg];rintro (h|h)
    ·exact hs2 h
    ·exact h (by rw [hh,c34])
   obtain⟨h1,h2⟩:=qKy hs s.length [] 1 (s.drop 1) (by simp) (by omega) rfl (by omega) (by simp;omega)
   cases hp:rP (s.drop 1) with
   |none =>
    obtain⟨m,hm⟩:=h2 hp;rw [hp] at e1;have hW:qh0 s [] 1 0=some (.ret,[.str [],.bool false],⟨[],[(m,1,5)],[]⟩):=hm;have n0:qmw s [] 1 0=true:=by simp [qmw,qkr,qkf,qvv,hW]
    have r1:qkr s [] 1 0=[]:=by simp [qkr,hW]
    have r2:qkf s [] 1 0=false:=by simp [qkf,hW]
    simp only [l1,l2,l5,l6,n0,r1,r2,Tr.run_ite,Bool.false_eq_true,if_true,if_false];simp [rsV,okRs,e1]
   |some p =>
    have hW:qh0 s [] 1 0=some (.exit 0,[.str s,.sl (qab p.1) (.tok 0),.int .i64 ((s.length:Int) - p.2.length)],⟨[],[(p.1.length,1,5)],[]⟩):=by
     have:=h1 p hp;unfold qh0;simpa using this
    rw [hp] at e1;have k4:iEq ((s.length:Int) - p.2.length) ((s.length:Int) - 1)=decide (p.2.length=1):=by
     simp only [quO]
     congr 1
     apply propext;constructor<;>intro h<;>omega
    have n0:qmw s [] 1 0=false:=by
     rw [Bool.eq_false_iff];intro h;have:=qLv h;rw [hW] at this;simp at this
    have n1:qqy s [] 1 0=true:=by simp [qqy,qjB,qgM,qkd,qxD,hW]
    have r1:qgM s [] 1 0=qab p.1:=by simp [qgM,hW]
    have r2:qjB s [] 1 0=s:=by simp [qjB,hW]
    have r3:qkd s [] 1 0=(s.length:Int) - p.2.length:=by simp [qkd,hW]
    simp only [l1,l2,l5,l6,n0,n1,r1,r2,r3,l4,k4,Tr.run_ite,Bool.false_eq_true,if_true,if_false];simp [rsV,okRs,e1]
  ·have l6:iNe (c.toNat:Int) 34=true:=qk9 (k:=34) c34;simp only [l1,l2,l5,l6,Tr.run_ite,Bool.false_eq_true,if_true,if_false];simp [rsV,okRs,rsO,hh,c34]
theorem qBs (gl:Gl):SimP Tryz.prog gl 165 fun args=>(qrH args).run :=
 ⟨(qHs gl).ent,fun args x h=>(qHs gl).run args x (by
  unfold qrH at h
  split at h
  ·rename_i s;obtain⟨h1,h2⟩:=Tr.chk_some h;cases h2
   have hl:s.length≤140737488355328:=by simpa using h1
   have hW:=qNo hl;simp [qMx,qHk,qNn,qL6,hW]
  ·cases h)⟩
end Go.Pv
set_option maxHeartbeats 4000000
set_option maxRecDepth 200000
set_option linter.unusedSimpArgs false
set_option linter.unusedVariables false
namespace Go.Pv
open Go Go.Proofs Go.RowKit
theorem qDR (c:UInt8):∀ (l:qU) (a:Nat),numN (l++[c]) a=(numN l a).bind fun n=>if 48≤c.toNat∧c.toNat≤57 then some (n * 10+(c.toNat - 48)) else none
 |[],a=>by simp [numN]
 |d::l,a=>by
  simp only [List.cons_append,numN];split
  ·exact qDR c l _
  ·rfl
theorem qgn {u:Nat} (h:¬ u < 10):qeM u=qeM (u / 10)++[UInt8.ofNat (48+u % 10)]:=by
 conv=>lhs;unfold qeM
 rw [dif_neg h]
theorem qeF {u:Nat} (h:u < 10):qeM u=[UInt8.ofNat (48+u)]:=by
 unfold qeM;rw [dif_pos h]
theorem qoa {d:Nat} (h:d < 10):(UInt8.ofNat (48+d)).toNat=48+d:=by
 simp;omega
theorem qtu:∀ (k u:Nat),u < k→numN (qeM u) 0=some u
 |0,u,h=>by omega
 |k+1,u,h=>by
  by_cases hu:u < 10
  ·rw [qeF hu];simp only [numN,qoa hu];rw [if_pos (by omega)]
   simp
  ·have hd:u % 10 < 10:=Nat.mod_lt _ (by omega)
   rw [qgn hu,qDR,qtu k (u / 10) (by omega)]
   simp only [Option.bind_some,qoa hd];rw [if_pos (by omega)]
   congr 1
   omega
theorem qyT:∀ (k u:Nat),u < k→∀ c∈qeM u,48≤c.toNat∧c.toNat≤57
 |0,u,h=>by omega
 |k+1,u,h=>by
  intro c hc;by_cases hu:u < 10
  ·rw [qeF hu] at hc;simp only [List.mem_singleton] at hc;subst hc;have:=qoa hu;omega
  ·have hd:u % 10 < 10:=Nat.mod_lt _ (by omega)
   rw [qgn hu] at hc;rcases List.mem_append.1 hc with hc|hc
   ·exact qyT k (u / 10) (by omega) c hc
   ·simp only [List.mem_singleton] at hc;subst hc;have:=qoa hd;omega
theorem qqx (u:Nat):qeM u≠[]:=by
 by_cases hu:u < 10
 ·rw [qeF hu];simp
 ·rw [qgn hu];simp
theorem qoP (u:Nat):∃ c t,qeM u=c::t∧48≤c.toNat∧c.toNat≤57:=by
 cases h:qeM u with
 |nil=>exact absurd h (qqx u)
 |cons c t =>
  have:=qyT (u+1) u (by omega) c (by rw [h];simp)
  exact⟨c,t,rfl,this⟩
theorem qe5:∀ (k u:Nat),u < k→Lib.decDigits u=qeM u
 |0,u,h=>by omega
 |k+1,u,h=>by
  by_cases hu:u < 10
  ·rw [qeF hu,Lib.decDigits_one hu]
  ·rw [qgn hu,Lib.decDigits,dif_neg hu,qe5 k (u / 10) (by omega)]
theorem qLe (n:Int):qIK n=intV n:=by
 unfold qIK Lib.itoa intV qh8;by_cases h:n < 0
 ·rw [if_pos h,if_pos h,qe5 (n.natAbs+1) _ (by omega)]
  congr 2
  omega
 ·rw [if_neg h,if_neg h,qe5 (n.toNat+1) _ (by omega)]
theorem qLA (M:Nat) (c:UInt8):∀ (l:qU) (a n:Nat),Lib.parseUintM M a l=.ok n→Lib.parseUintM M a (l++[c])=Lib.parseUintM M n [c]
 |[],a,n,h=>by simp [Lib.parseUintM] at h;subst h;rfl
 |d::l,a,n,h=>by
  simp only [List.cons_append,Lib.parseUintM] at h ⊢;split at h
  ·split at h
   ·cases h
   ·split at h
    ·cases h
    ·rename_i h1 h2 h3;rw [if_pos h1,if_neg h2,if_neg h3];exact qLA M c l _ n h
  ·cases h
theorem qAf:∀ (k u:Nat),u < k→u≤18446744073709551615→Lib.parseUintM 18446744073709551615 0 (qeM u)=.ok u
 |0,u,h,_=>by omega
 |k+1,u,h,hm=>by
  by_cases hu:u < 10
  ·rw [qeF hu];simp only [Lib.parseUintM,qoa hu];rw [if_pos (by omega),if_neg (by omega),if_neg (by omega)]
   congr 1
   omega
  ·have hd:u % 10 < 10:=Nat.mod_lt _ (by omega)
   rw [qgn hu,qLA _ _ _ _ (u / 10) (qAf k (u / 10) (by omega) (by omega))]
   simp only [Lib.parseUintM,qoa hd];rw [if_pos (by omega),if_neg (by omega),if_neg (by omega)]
   congr 1
   omega
theorem pInt {n:Int} (h:-9223372036854775808≤n∧n≤9223372036854775807):Lib.parseIntB 64 (intV n)=.ok n:=by
 unfold intV qh8;by_cases hn:n < 0
 ·rw [if_pos hn];have hp:=qAf ((-n).toNat+1) (-n).toNat (by omega) (by omega)
  have hne:=qqx (-n).toNat;have e:(2 ^ 64 - 1:Nat)=18446744073709551615:=by decide
  have e2:(2 ^ (64 - 1):Nat)=9223372036854775808:=by decide
  have e3:(45:UInt8).toNat=45:=rfl;simp only [Lib.parseIntB,Lib.parseUintB,e3,e,e2,or_true,if_true,if_neg hne,hp];rw [if_neg (by simp),if_neg (by simp;omega)]
  congr 1
  simp;omega
 ·rw [if_neg hn];have hp:=qAf (n.toNat+1) n.toNat (by omega) (by omega)
  obtain⟨c,t,ht,hc1,hc2⟩:=qoP n.toNat;have e:(2 ^ 64 - 1:Nat)=18446744073709551615:=by decide
  have e2:(2 ^ (64 - 1):Nat)=9223372036854775808:=by decide
  rw [ht] at hp ⊢;simp only [Lib.parseIntB,Lib.parseUintB];rw [if_neg (by omega:¬ (c.toNat=43∨c.toNat=45)),if_neg (by simp),e,hp]
  simp only [e2];rw [if_neg (by omega),if_neg (by omega),if_neg (by omega)]
  congr 1
  omega
theorem qM1 {n:Int} (h:-9223372036854775808≤n∧n≤9223372036854775807):pOk (intV n)=true:=by unfold pOk;rw [pInt h]
theorem qKJ {n:Int} (h:-9223372036854775808≤n∧n≤9223372036854775807):pVal (intV n)=n:=by unfold pVal;rw [pInt h]
theorem qNE {n:Int} (h:-9223372036854775808≤n∧n≤9223372036854775807):whoO (intV n)=some n:=by
 unfold intV qh8 whoO;by_cases hn:n < 0
 ·rw [if_pos hn];have hl:=qmT 18 (-n).toNat (by omega)
  have hp:=qtu ((-n).toNat+1) (-n).toNat (by omega)
  have hne:=qqx (-n).toNat;simp only [List.head?_cons,if_true,List.drop_succ_cons,List.drop_zero,whoN];rw [if_neg (by rintro (h|h);exact hne h;omega),hp]
  simp only [];rw [if_neg (by simp;omega)]
  congr 1
  simp;omega
 ·rw [if_neg hn];have hl:=qmT 18 n.toNat (by omega)
  have hp:=qtu (n.toNat+1) n.toNat (by omega)
  have hne:=qqx n.toNat;obtain⟨c,t,ht,hc1,hc2⟩:=qoP n.toNat;have hh:¬ (qeM n.toNat).head?=some 45:=by
   rw [ht];simp;intro h;subst h
   revert hc1
   decide
  rw [if_neg hh];unfold whoN;rw [if_neg (by rintro (h|h);exact hne h;omega),hp]
  simp only [];rw [if_neg (by simp;omega)]
  congr 1
  simp;omega
theorem qMs (n:Int):qcK (intV n) [34]=false:=by
 unfold intV qh8 qcK;by_cases hn:n < 0
 ·rw [if_pos hn];simp
 ·rw [if_neg hn];obtain⟨c,t,ht,hc1,hc2⟩:=qoP n.toNat;rw [ht];simp;intro h;subst h
  revert hc1
  decide
end Go.Pv
set_option maxHeartbeats 4000000
set_option maxRecDepth 200000
set_option linter.unusedSimpArgs false
set_option linter.unusedVariables false
namespace Go.Pv
open Go Go.Proofs Go.RowKit
def hx1 (c:UInt8):UInt8:=UInt8.ofNat (sAt hexL (iShr .u8 c.toNat 4)).toNat
def hx2 (c:UInt8):UInt8:=UInt8.ofNat (sAt hexL (iAnd .u8 c.toNat 15)).toNat
theorem qJd (c:UInt8):oneV c.toNat=if c=34∨c=92 then [92,c] else if c=10 then [92,110] else if c=9 then [92,116] else if 32≤c.toNat∧c.toNat≤126 then [c] else [92,120,hx1 c,hx2 c]:=by
 have e:∀ k:UInt8,((c.toNat:Int)=(k.toNat:Int))=(c=k):=fun k=>propext ⟨fun h=>UInt8.toNat_inj.1 (by omega),fun h=>by rw [h]⟩
 have e34:=e 34;have e92:=e 92;have e10:=e 10;have e9:=e 9;unfold oneV hx1 hx2;have r:UInt8.ofNat (c.toNat:Int).toNat=c:=by simp
 rw [r];have p1:((c.toNat:Int)=34)=(c=34):=e34;have p2:((c.toNat:Int)=92)=(c=92):=e92;have p3:((c.toNat:Int)=10)=(c=10):=e10;have p4:((c.toNat:Int)=9)=(c=9):=e9;have p5:((32:Int)≤c.toNat∧(c.toNat:Int)≤126)=(32≤c.toNat∧c.toNat≤126):=propext ⟨fun h=>⟨by omega,by omega⟩,fun h=>⟨by omega,by omega⟩⟩
 simp only [p1,p2,p3,p4,p5]
theorem qP1:∀ n:Fin 256,digV (hx1 (UInt8.ofNat n.val)).toNat < 16∧digV (hx2 (UInt8.ofNat n.val)).toNat < 16 ∧
 (UInt8.ofNat (iOr .u8 (iShl .u8 (digV (hx1 (UInt8.ofNat n.val)).toNat) 4) (digV (hx2 (UInt8.ofNat n.val)).toNat)).toNat).toNat=n.val ∧
 0≤qb5 (hx1 (UInt8.ofNat n.val)).toNat∧0≤qb5 (hx2 (UInt8.ofNat n.val)).toNat∧(hexW [hx1 (UInt8.ofNat n.val),hx2 (UInt8.ofNat n.val)]).toNat=n.val:=by decide +kernel
theorem qLB (c:UInt8):digV (hx1 c).toNat < 16∧digV (hx2 c).toNat < 16∧UInt8.ofNat (iOr .u8 (iShl .u8 (digV (hx1 c).toNat) 4) (digV (hx2 c).toNat)).toNat=c ∧
  0≤qb5 (hx1 c).toNat∧0≤qb5 (hx2 c).toNat∧hexW [hx1 c,hx2 c]=c:=by
 have h:=qP1 ⟨c.toNat,c.toNat_lt⟩;simp only [UInt8.ofNat_toNat] at h
 exact⟨h.1,h.2.1,UInt8.toNat_inj.1 h.2.2.1,h.2.2.2.1,h.2.2.2.2.1,UInt8.toNat_inj.1 h.2.2.2.2.2⟩
theorem qip (c:UInt8) (t:qU):decP (c::t)=if c=92 then (if escN t=0 then none else (decP (t.drop (escN t).toNat)).map (UInt8.ofNat (escB t).toNat::·)) else (decP t).map (c::·):=by rw [decP]
theorem qOx (c:UInt8) (r:qU):decP (oneV c.toNat++r)=(decP r).map (c::·):=by
 rw [qJd];by_cases h1:c=34∨c=92
 ·rw [if_pos h1];have a:sAt (c::r) 0=c.toNat:=by simp
  have q:(c.toNat:Int)=34∨(c.toNat:Int)=92:=by rcases h1 with rfl|rfl<;>decide
  have n1:escN (c::r)=1:=by unfold escN;rw [if_neg (by simp),a,if_pos q]
  have n2:escB (c::r)=c.toNat:=by unfold escB;rw [if_neg (by simp),a,if_pos q]
  simp only [List.cons_append,List.nil_append];rw [qip,if_pos rfl,n1,n2];simp
 ·rw [if_neg h1];by_cases h2:c=10
  ·subst h2;have a:sAt (110::r) 0=110:=by simp
   have n1:escN (110::r)=1:=by unfold escN;rw [if_neg (by simp),a];simp
   have n2:escB (110::r)=10:=by unfold escB;rw [if_neg (by simp),a];simp
   simp only [if_true,List.cons_append,List.nil_append];rw [qip,if_pos rfl,n1,n2];simp
  ·rw [if_neg h2];by_cases h3:c=9
   ·subst h3;have a:sAt (116::r) 0=116:=by simp
    have n1:escN (116::r)=1:=by unfold escN;rw [if_neg (by simp),a];simp
    have n2:escB (116::r)=9:=by unfold escB;rw [if_neg (by simp),a];simp
    simp only [if_true,List.cons_append,List.nil_append];rw [qip,if_pos rfl,n1,n2];simp
   ·rw [if_neg h3];by_cases h4:32≤c.toNat∧c.toNat≤126
    ·rw [if_pos h4];simp only [List.cons_append,List.nil_append];rw [qip,if_neg (fun h=>h1 (.inr h))]
    ·rw [if_neg h4];obtain⟨g1,g2,g3,_⟩:=qLB c;have a0:sAt (120::hx1 c::hx2 c::r) 0=120:=by simp
     have a1:sAt (120::hx1 c::hx2 c::r) 1=(hx1 c).toNat:=by simp
     have a2:sAt (120::hx1 c::hx2 c::r) 2=(hx2 c).toNat:=by simp
     have q:(120:Int)=120∧3≤(120::hx1 c::hx2 c::r).length∧digV (hx1 c).toNat < 16∧digV (hx2 c).toNat < 16:=⟨rfl,by simp,g1,g2⟩
     have n1:escN (120::hx1 c::hx2 c::r)=3:=by unfold escN;rw [if_neg (by simp),a0,a1,a2,if_neg (by omega),if_neg (by omega),if_neg (by omega),if_pos q]
     have n2:escB (120::hx1 c::hx2 c::r)=iOr .u8 (iShl .u8 (digV (hx1 c).toNat) 4) (digV (hx2 c).toNat):=by unfold escB;rw [if_neg (by simp),a0,a1,a2,if_neg (by omega),if_neg (by omega),if_neg (by omega),if_pos q]
     simp only [List.cons_append,List.nil_append];rw [qip,if_pos rfl,n1,n2,g3];simp
theorem qyQ (c:UInt8) (b:qU):symB (c::b)=oneV c.toNat++symB b:=by simp [symB]
theorem qH5:∀ b:qU,decP (symB b)=some b
 |[]=>by simp [symB,decP]
 |c::b=>by rw [qyQ,qOx,qH5 b];rfl
theorem qMV (c:UInt8) (r:qU):rS (oneV c.toNat++r)=.one c (oneV c.toNat).length:=by
 rw [qJd];by_cases h1:c=34∨c=92
 ·rw [if_pos h1];rcases h1 with rfl|rfl<;>simp [rS]
 ·rw [if_neg h1];by_cases h2:c=10
  ·subst h2;simp [rS]
  ·rw [if_neg h2];by_cases h3:c=9
   ·subst h3;simp [rS]
   ·rw [if_neg h3];have h34:¬ c=34:=fun h=>h1 (.inl h)
    have h92:¬ c=92:=fun h=>h1 (.inr h)
    by_cases h4:32≤c.toNat∧c.toNat≤126
    ·rw [if_pos h4];simp [rS,h34,h92]
    ·rw [if_neg h4];obtain⟨_,_,_,g4,g5,g6⟩:=qLB c;have g7:hexW (hx1 c::hx2 c::r)=c:=g6;have g8:qtN (hx1 c::hx2 c::r)=true:=by simp [qtN,g4,g5]
     simp [rS,g7,g8]
theorem qLR:∀ b:qU,rP (symB b++[34])=some (b,[34])
 |[]=>by rw [qwH]<;>simp [symB,rS]
 |c::b=>by
  have e:symB (c::b)++[34]=oneV c.toNat++(symB b++[34]):=by rw [qyQ,List.append_assoc]
  rw [e,qLM (qMV c _),List.drop_left,qLR b];rfl
theorem qPG (b:qU):rsO (symV b)=(b,true):=by
 have e:(symV b).drop 1=symB b++[34]:=by simp [symV]
 unfold rsO;rw [if_neg (by simp [symV]),e,qLR b]
 rfl
theorem qNJ (b:qU):whoO (symV b)=none:=by
 have e:symV b=34::(symB b++[34]):=by simp [symV]
 rw [e];unfold whoO;rw [if_neg (by simp)]
 unfold whoN;split
 ·rfl
 ·have:numN (34::(symB b++[34])) 0=none:=by unfold numN;rw [if_neg (by decide)]
  rw [this]
end Go.Pv
set_option maxHeartbeats 4000000
set_option maxRecDepth 200000
set_option linter.unusedSimpArgs false
set_option linter.unusedVariables false
namespace Go.Pv
open Go Go.Proofs Go.RowKit
theorem qqT (k n:Int) (s:qU):qdV k n s=qfO k n s:=by unfold qdV qfO;rw [qLe]
def valid (v:Int×Int×List UInt8):Prop:=(v.1=1∧v.2.2=[]∧-9223372036854775808≤v.2.1∧v.2.1≤9223372036854775807)∨(v.1=2∧v.2.1=0∧v.2.2.length≤256)
def qtY (v:Int×Int×List UInt8):qU:=qfO v.1 v.2.1 v.2.2
theorem qni (n:Int):qaY 1 n []=0:=by simp [qaY]
theorem qnC {b:List UInt8}:qaY 2 0 b=0↔b.length≤256:=by
 unfold qaY;by_cases h:b.length≤256<;>simp [h]
theorem qpT (n:Int):qfO 1 n []=intV n:=by simp [qfO,isV]
theorem qqg {b:List UInt8} (h:b.length≤256):qfO 2 0 b=symV b:=by simp [qfO,isV,h]
theorem qJm (s:qU):-9223372036854775808≤pVal s∧pVal s≤9223372036854775807:=by
 have h:=qGI s;simp [Lit.wf,IntKind.min,IntKind.max,IntKind.signed,IntKind.bits] at h
 omega
theorem qCO {m:Bool} {t:List UInt8} {n:Int} (h:whoN m t=some n):-9223372036854775808≤n∧n≤9223372036854775807:=by
 unfold whoN at h
 split at h
 ·cases h
 ·split at h
  ·cases h
  ·rename_i x hx;split at h
   ·cases h
   ·rename_i hn;cases h
    cases m with
    |true=>simp at hn ⊢;omega
    |false=>simp at hn ⊢;omega
theorem qMz {s:List UInt8} {n:Int} (h:whoO s=some n):-9223372036854775808≤n∧n≤9223372036854775807:=by
 unfold whoO at h
 split at h
 ·exact qCO h
 ·exact qCO h
def rrV (s:qU):Option (Int×Int×List UInt8):=match whoO s with
 |some n=>if qaY 1 n []=0∧qfO 1 n []=s then some (1,n,[]) else none
 |none=>if (rsO s).2=true∧qaY 2 0 (rsO s).1=0∧qfO 2 0 (rsO s).1=s then some (2,0,(rsO s).1) else none
theorem qQd {s:List UInt8} {v:Int×Int×List UInt8} (h:rdV s=some v):valid v∧qtY v=s:=by
 unfold rdV at h
 split at h
 ·split at h
  ·split at h
   ·rename_i hc;cases h
    exact⟨.inr ⟨rfl,rfl,qnC.1 hc.1⟩,by unfold qtY;rw [← qqT];exact hc.2⟩
   ·cases h
  ·cases h
 ·split at h
  ·split at h
   ·rename_i hc;cases h
    exact⟨.inl ⟨rfl,rfl,qJm s⟩,by unfold qtY;rw [← qqT];exact hc.2⟩
   ·cases h
  ·cases h
theorem qQG {s:List UInt8} {v:Int×Int×List UInt8} (h:rrV s=some v):valid v∧qtY v=s:=by
 unfold rrV at h
 split at h
 ·rename_i n hn;split at h
  ·rename_i hc;cases h
   exact⟨.inl ⟨rfl,rfl,qMz hn⟩,hc.2⟩
  ·cases h
 ·split at h
  ·rename_i hc;cases h
   exact⟨.inr ⟨rfl,rfl,qnC.1 hc.2.1⟩,hc.2.2⟩
  ·cases h
theorem qMR {v:Int×Int×List UInt8} (h:valid v):rdV (qtY v)=some v:=by
 obtain⟨k,n,b⟩:=v;rcases h with⟨h1,h2,h3⟩|⟨h1,h2,h3⟩
 ·simp only at h1 h2 h3;subst h1 h2;simp only [qtY,qpT];unfold rdV;rw [if_neg (by rw [qMs];simp),qM1 h3,qKJ h3]
  simp [qni,qqT,qpT]
 ·simp only at h1 h2 h3;subst h1 h2;simp only [qtY,qqg h3];have e:symV b=34::(symB b++[34]):=by simp [symV]
  have p1:qcK (symV b) [34]=true:=by rw [e];simp [qcK]
  have p2:qtv (symV b) [34]=true:=by rw [e];simp [qtv]
  have p3:2≤(symV b).length:=by rw [e];simp
  have p4:((symV b).take ((symV b).length - 1)).drop 1=symB b:=by rw [e];simp
  unfold rdV;rw [if_pos ⟨p1,p2,p3⟩,p4,qH5 b];simp only [];rw [if_pos ⟨qnC.2 h3,by rw [qqT,qqg h3]⟩]
theorem qOY {v:Int×Int×List UInt8} (h:valid v):rrV (qtY v)=some v:=by
 obtain⟨k,n,b⟩:=v;rcases h with⟨h1,h2,h3⟩|⟨h1,h2,h3⟩
 ·simp only at h1 h2 h3;subst h1 h2;simp only [qtY,qpT];unfold rrV;rw [qNE h3];simp [qni,qpT]
 ·simp only at h1 h2 h3;subst h1 h2;simp only [qtY,qqg h3];unfold rrV;rw [qNJ,qPG];simp only [];rw [if_pos (by simp [qnC.2 h3,qqg h3])]
theorem qQu (s:qU):rrV s=rdV s:=by
 cases h:rrV s with
 |some v =>
  obtain⟨h1,h2⟩:=qQG h;rw [← h2,qMR h1]
 |none =>
  cases h':rdV s with
  |none=>rfl
  |some v =>
   obtain⟨h1,h2⟩:=qQd h';rw [← h2,qOY h1] at h
   cases h
theorem qHb (gl:Gl):SimP Tryz.prog gl 147 fun args=>(quC args).run:=by
 refine SimP.of_tree (G:=ofL [(164,.pure qAz),(165,.pure qrH),(166,.pure qBW)]) (L:=fun _ _ _=>.fail) qai (qaf (qGC gl) (qaf (qBs gl) (qaf (qHW gl) qag))) qah Tryz.func147 rfl (by rfl) (by kernel_rfl) (qac (by kernel_rfl)) ?_
 intro args x h hr;unfold quC at h
 split at h
 ·rename_i s;obtain⟨h1,h2⟩:=Tr.chk_some h;cases h2
  refine Tr.run_as (.ite (qkV s) (.ite (qhE s) (.ite (bNot (qhE s)) (.ret (.tup [.agg [.int .i64 0,.int .i64 0,.str []],.int .i64 10])) (.ite (iNe (qaY 1 (whoV s) []) 0) (.ret (.tup [.agg [.int .i64 0,.int .i64 0,.str []],.int .i64 10])) (.ite (sNe (qfO 1 (whoV s) []) s) (.ret (.tup [.agg [.int .i64 0,.int .i64 0,.str []],.int .i64 10])) (.ret (.tup [.agg [.int .i64 1,.int .i64 (whoV s),.str []],.int .i64 0]))))) (.ite (qkV s) (.ite (bNot (okRs s)) (.ret (.tup [.agg [.int .i64 0,.int .i64 0,.str []],.int .i64 10])) (.ite (iNe (qaY 2 0 (rsV s)) 0) (.ret (.tup [.agg [.int .i64 0,.int .i64 0,.str []],.int .i64 10])) (.ite (sNe (qfO 2 0 (rsV s)) s) (.ret (.tup [.agg [.int .i64 0,.int .i64 0,.str []],.int .i64 10])) (.ret (.tup [.agg [.int .i64 2,.int .i64 0,.str (rsV s)],.int .i64 0]))))) .fail)) .fail) (by kernel_rfl) ?_
  have fin:∀ o:Option (Int×Int×List UInt8),rrV s=o→PV.tup [.agg [.int .i64 (kRd s),.int .i64 (nRd s),.str (sRd s)],.int .i64 (eRd s)]=match o with|some v=>.tup [.agg [.int .i64 v.1,.int .i64 v.2.1,.str v.2.2],.int .i64 0]|none=>.tup [.agg [.int .i64 0,.int .i64 0,.str []],.int .i64 10]:=by
   intro o ho;rw [qQu] at ho;unfold kRd nRd sRd eRd;rw [ho];cases o<;>rfl
  rw [h1];cases hw:whoO s with
  |some n =>
   have w1:qhE s=true:=by unfold qhE;rw [hw];rfl
   have w2:whoV s=n:=by unfold whoV;rw [hw];rfl
   rw [w1,w2];by_cases hc:qaY 1 n []=0∧qfO 1 n []=s
   ·rw [fin (some (1,n,[])) (by unfold rrV;rw [hw];simp only [];rw [if_pos hc])]
    simp [hc]
   ·rw [fin none (by unfold rrV;rw [hw];simp only [];rw [if_neg hc])]
    have:¬ qfO 1 n []=s:=fun h=>hc ⟨qni n,h⟩
    simp [qni,this]
  |none =>
   have w1:qhE s=false:=by unfold qhE;rw [hw];rfl
   have w3:okRs s=(rsO s).2:=rfl;have w4:rsV s=(rsO s).1:=rfl;rw [w1,w3,w4];by_cases hc:(rsO s).2=true∧qaY 2 0 (rsO s).1=0∧qfO 2 0 (rsO s).1=s
   ·rw [fin (some (2,0,(rsO s).1)) (by unfold rrV;rw [hw];simp only [];rw [if_pos hc])]
    simp [hc]
   ·rw [fin none (by unfold rrV;rw [hw];simp only [];rw [if_neg hc])]
    by_cases c1:(rsO s).2=true
    ·by_cases c2:qaY 2 0 (rsO s).1=0
     ·have c3:¬ qfO 2 0 (rsO s).1=s:=fun h=>hc ⟨c1,c2,h⟩
      simp [c1,c2,c3]
     ·simp [c1,c2]
    ·simp [c1]
 ·cases h
end Go.Pv
set_option maxHeartbeats 4000000
set_option maxRecDepth 200000
set_option linter.unusedSimpArgs false
set_option linter.unusedVariables false
namespace Go.Pv
open Go Go.Proofs
def qwK:GamT:=ofL []
theorem qEF (gl:Gl):qam Tryz.prog gl (gam qwK):=qag
def qDd:LpsT:=fun r fr σ=>.fail
def qtF (c:Int):Tr PV:=.ite (iLe 48 c) (.ret (.bool (iLe c 57))) (.ret (.bool false))
theorem qJP (c:Int):(tcall tbT qwK qDd Tryz.f173 [.int .u8 c]).flat=qtF c:=by kernel_rfl
def qp7 (c:Int):Option PV:=(qtF c).run
def qbj (c:Int):Bool:=(qbQ (gVal (qp7 c)))
def qb0 (c:Int):Bool:=isW (qp7 c) (.bool (qbj c))
def ql1:List PV→Tr PV|[.int .u8 c]=>.ite (qb0 c) (.ret (.bool (qbj c))) (.fail)|_=>.fail
theorem qoK (gl:Gl):SimP Tryz.prog gl 173 fun args=>(ql1 args).run:=by
 refine SimP.of_flat (G:=qwK) (L:=qDd) qai (qEF gl ) qah  Tryz.func173 rfl (by rfl) (by kernel_rfl) (qac (by kernel_rfl)) ?_
 intro args x h;unfold ql1 at h
 split at h
 ·exact (congrArg Tr.run (qJP _)).trans (qae h fun h=>by cases h)
 ·cases h
def qoy:GamT:=ofL [(173,.pure ql1)]
theorem qzO (gl:Gl):qam Tryz.prog gl (gam qoy):=(qaf (qoK gl) qag)
def qua:LpsT:=fun r fr σ=>.fail
def qlf (c:Int):Tr PV:=let z1:Tr PV:=.ite (iEq c 95) (.ret (.bool true)) (.ite (qb0 c) (.ret (.bool (qbj c))) .fail);let z2:Tr PV:=.ite (iLe 65 c) (.ite (iLe c 90) (.ret (.bool true)) z1) z1;.ite (iLe 97 c) (.ite (iLe c 122) (.ret (.bool true)) z2) z2
theorem qEK (c:Int):(tcall tbT qoy qua Tryz.f172 [.int .u8 c]).flat=qlf c:=by kernel_rfl
def qkc (c:Int):Option PV:=(qlf c).run
def qcB (c:Int):Bool:=(qbQ (gVal (qkc c)))
def qcD (c:Int):Bool:=isW (qkc c) (.bool (qcB c))
def qfP:List PV→Tr PV|[.int .u8 c]=>.ite (qcD c) (.ret (.bool (qcB c))) (.fail)|_=>.fail
theorem qiN (gl:Gl):SimP Tryz.prog gl 172 fun args=>(qfP args).run:=by
 refine SimP.of_flat (G:=qoy) (L:=qua) qai (qzO gl ) qah  Tryz.func172 rfl (by rfl) (by kernel_rfl) (qac (by kernel_rfl)) ?_
 intro args x h;unfold qfP at h
 split at h
 ·exact (congrArg Tr.run (qEK _)).trans (qae h fun h=>by cases h)
 ·cases h
def qtt:GamT:=ofL [(172,.pure qfP),(173,.pure ql1)]
theorem qDu (gl:Gl):qam Tryz.prog gl (gam qtt):=(qaf (qiN gl) (qaf (qoK gl) qag))
def qto:Code:=qc3 Tryz.f175 2
def qrE:LI:=⟨20,[0,1,5],fun e=>match e with|.exit 0=>[5]|_=>[],true⟩
def qrc:LpsT:=fun r fr σ=>.fail
def qet (vs:List PV) (σ:Store):Option (PExit×List PV×Store):=lval (lstep tbT qtt qrc qto qrE) vs σ
def qnI (s:qU) (n:Int):Tr LR:=.ite (iLt n (sLen s)) (.ite (qau s n) (.ite (qcD (sAt s n)) (.ite (qcB (sAt s n)) (.ret (.next [.str s,.fn 172 [],.int .i64 (iAdd .i64 n 1)] ⟨[],[],[]⟩)) (.ret (.out (.exit 0) [.int .i64 n] ⟨[],[],[]⟩))) .fail) .fail) (.ret (.out (.exit 0) [.int .i64 n] ⟨[],[],[]⟩))
theorem qMB (s:qU) (n:Int):lstep tbT qtt qrc qto qrE [.str s,.fn 172 [],.int .i64 n] ⟨[],[],[]⟩=qnI s n:=by kernel_rfl
theorem qFU (s:qU) (n:Int):qet [.str s,.fn 172 [],.int .i64 n] ⟨[],[],[]⟩=lnext qet (qnI s n).run:=by unfold qet;rw [qaJ,qMB]
def qig (s:qU) (n:Int):Tr LR:=.ite (iLt n (sLen s)) (.ite (qau s n) (.ite (qb0 (sAt s n)) (.ite (qbj (sAt s n)) (.ret (.next [.str s,.fn 173 [],.int .i64 (iAdd .i64 n 1)] ⟨[],[],[]⟩)) (.ret (.out (.exit 0) [.int .i64 n] ⟨[],[],[]⟩))) .fail) .fail) (.ret (.out (.exit 0) [.int .i64 n] ⟨[],[],[]⟩))
theorem qJj (s:qU) (n:Int):lstep tbT qtt qrc qto qrE [.str s,.fn 173 [],.int .i64 n] ⟨[],[],[]⟩=qig s n:=by kernel_rfl
theorem qC2 (s:qU) (n:Int):qet [.str s,.fn 173 [],.int .i64 n] ⟨[],[],[]⟩=lnext qet (qig s n).run:=by unfold qet;rw [qaJ,qJj]
def qCb (s:qU) (n:Int):Option (PExit×List PV×Store):=qet [.str s,.fn 172 [],.int .i64 n] ⟨[],[],[]⟩
def qxj (s:qU) (n:Int):Int:=(gInt (gOut (qCb s n) 0))
def qsF (s:qU) (n:Int):Bool:=isW (qCb s n) ((.exit 0),[.int .i64 (qxj s n)],⟨[],[],[]⟩)
def qxE (s:qU) (n:Int):Option (PExit×List PV×Store):=qet [.str s,.fn 173 [],.int .i64 n] ⟨[],[],[]⟩
def qp0 (s:qU) (n:Int):Int:=(gInt (gOut (qxE s n) 0))
def qo4 (s:qU) (n:Int):Bool:=isW (qxE s n) ((.exit 0),[.int .i64 (qp0 s n)],⟨[],[],[]⟩)
def qjP:List PV→Store→Tr (PExit×List PV×Store)|[.str s,.fn 172 [],.int .i64 n],⟨[],[],[]⟩=>.ite (qsF s n) (.ret ((.exit 0),[.int .i64 (qxj s n)],⟨[],[],[]⟩)) (.fail)|[.str s,.fn 173 [],.int .i64 n],⟨[],[],[]⟩=>.ite (qo4 s n) (.ret ((.exit 0),[.int .i64 (qp0 s n)],⟨[],[],[]⟩)) (.fail)|_,_=>.fail
theorem qJI:∀ vs σ r,(qjP vs σ).run=some r→qet vs σ=some r:=by
 intro vs σ r h;unfold qjP at h
 split at h
 ·exact qae h fun h=>by cases h
 ·exact qae h fun h=>by cases h
 ·cases h
theorem qFt (gl:Gl):∀ fr σ e fr' σ',(orc qrE qjP fr σ).run=some (e,fr',σ')→LDoes Tryz.prog gl qto fr σ e fr' σ':=qbu qai (qDu gl ) qah (L:=qrc) (qac (by kernel_rfl)) (by kernel_rfl) qJI
def qDy:LpsT:=fun r fr σ=>bif Nat.beq r 2 then orc qrE qjP fr σ else .fail
def qAW (s:qU):Tr PV:=.ite (qsF s 0) (.ret (.int .i64 (qxj s 0))) .fail
theorem qPq (s:qU):(tcall tbT qtt qDy Tryz.f175 [.str s,.fn 172 []]).flat=qAW s:=by kernel_rfl
def qDV (s:qU):Option PV:=(qAW s).run
def qnc (s:qU):Int:=(gInt (gVal (qDV s)))
def qpF (s:qU):Bool:=isW (qDV s) (.int .i64 (qnc s))
def qvT (s:qU):Tr PV:=.ite (qo4 s 0) (.ret (.int .i64 (qp0 s 0))) .fail
theorem qNA (s:qU):(tcall tbT qtt qDy Tryz.f175 [.str s,.fn 173 []]).flat=qvT s:=by kernel_rfl
def qwd (s:qU):Option PV:=(qvT s).run
def qb9 (s:qU):Int:=(gInt (gVal (qwd s)))
def qiX (s:qU):Bool:=isW (qwd s) (.int .i64 (qb9 s))
def qDP:List PV→Tr PV|[.str s,.fn 172 []]=>.ite (qpF s) (.ret (.int .i64 (qnc s))) (.fail)|[.str s,.fn 173 []]=>.ite (qiX s) (.ret (.int .i64 (qb9 s))) (.fail)|_=>.fail
theorem qC3 (gl:Gl):SimP Tryz.prog gl 175 fun args=>(qDP args).run:=by
 refine SimP.of_flat (G:=qtt) (L:=qDy) qai (qDu gl ) qah  Tryz.func175 rfl (by rfl) (by kernel_rfl) (qax (L:=lps qDy) [(2,qto)] (by kernel_rfl) (List.forall_mem_cons.2 ⟨fun fr σ e fr' σ' h=>qFt gl  fr σ e fr' σ' h,(List.forall_mem_nil _)⟩)) ?_
 intro args x h;unfold qDP at h
 split at h
 ·exact (congrArg Tr.run (qPq _)).trans (qae h fun h=>by cases h)
 ·exact (congrArg Tr.run (qNA _)).trans (qae h fun h=>by cases h)
 ·cases h
def qiU:GamT:=ofL []
theorem qsY (gl:Gl):qam Tryz.prog gl (gam qiU):=qag
def qj5:Code:=qc3 Tryz.f176 2
def qjW:LI:=⟨21,[0,3],fun e=>match e with|.ret=>[2]|.exit 0=>[]|_=>[],true⟩
def qk2:LpsT:=fun r fr σ=>.fail
def qbI (vs:List PV) (σ:Store):Option (PExit×List PV×Store):=lval (lstep tbT qiU qk2 qj5 qjW) vs σ
def qdy (s:qU) (i:Int):Tr LR:=let z1:Store:=Store.mk [] [] [];.ite (iLt i (sLen s)) (.ite (qau s i) (.ite (iEq (sAt s i) 92) (.ret (.next [.str s,.int .i64 (iAdd .i64 (iAdd .i64 i 1) 1)] z1)) (.ite (iEq (sAt s i) 34) (.ret (.out .ret [.int .i64 (iAdd .i64 i 1)] z1)) (.ret (.next [.str s,.int .i64 (iAdd .i64 i 1)] z1)))) .fail) (.ret (.out (.exit 0) [] z1))
theorem qEh (s:qU) (i:Int):lstep tbT qiU qk2 qj5 qjW [.str s,.int .i64 i] ⟨[],[],[]⟩=qdy s i:=by kernel_rfl
theorem qu6 (s:qU) (i:Int):qbI [.str s,.int .i64 i] ⟨[],[],[]⟩=lnext qbI (qdy s i).run:=by unfold qbI;rw [qaJ,qEh]
def qgi (s:qU) (i:Int):Option (PExit×List PV×Store):=qbI [.str s,.int .i64 i] ⟨[],[],[]⟩
def qdG (s:qU) (i:Int):Int:=(gInt (gOut (qgi s i) 0))
def qfs (s:qU) (i:Int):Bool:=isW (qgi s i) (.ret,[.int .i64 (qdG s i)],⟨[],[],[]⟩)
def qfq (s:qU) (i:Int):Bool:=isW (qgi s i) ((.exit 0),[],⟨[],[],[]⟩)
def qee:List PV→Store→Tr (PExit×List PV×Store)|[.str s,.int .i64 i],⟨[],[],[]⟩=>.ite (qfs s i) (.ret (.ret,[.int .i64 (qdG s i)],⟨[],[],[]⟩)) (.ite (qfq s i) (.ret ((.exit 0),[],⟨[],[],[]⟩)) (.fail))|_,_=>.fail
theorem qBh:∀ vs σ r,(qee vs σ).run=some r→qbI vs σ=some r:=by
 intro vs σ r h;unfold qee at h
 split at h
 ·exact qae h fun h=>qae h fun h=>by cases h
 ·cases h
theorem qwx (gl:Gl):∀ fr σ e fr' σ',(orc qjW qee fr σ).run=some (e,fr',σ')→LDoes Tryz.prog gl qj5 fr σ e fr' σ':=qbu qai (qsY gl ) qah (L:=qk2) (qac (by kernel_rfl)) (by kernel_rfl) qBh
def qtG:LpsT:=fun r fr σ=>bif Nat.beq r 2 then orc qjW qee fr σ else .fail
def qn6 (s:qU):Tr PV:=.ite (qfs s 1) (.ret (.int .i64 (qdG s 1))) (.ite (qfq s 1) (.ret (.int .i64 0)) .fail)
theorem qGs (s:qU):(tcall tbT qiU qtG Tryz.f176 [.str s]).flat=qn6 s:=by kernel_rfl
def qmE (s:qU):Option PV:=(qn6 s).run
def qe0 (s:qU):Int:=(gInt (gVal (qmE s)))
def qg4 (s:qU):Bool:=isW (qmE s) (.int .i64 (qe0 s))
def qsL:List PV→Tr PV|[.str s]=>.ite (qg4 s) (.ret (.int .i64 (qe0 s))) (.fail)|_=>.fail
theorem qCn (gl:Gl):SimP Tryz.prog gl 176 fun args=>(qsL args).run:=by
 refine SimP.of_flat (G:=qiU) (L:=qtG) qai (qsY gl ) qah  Tryz.func176 rfl (by rfl) (by kernel_rfl) (qax (L:=lps qtG) [(2,qj5)] (by kernel_rfl) (List.forall_mem_cons.2 ⟨fun fr σ e fr' σ' h=>qwx gl  fr σ e fr' σ' h,(List.forall_mem_nil _)⟩)) ?_
 intro args x h;unfold qsL at h
 split at h
 ·exact (congrArg Tr.run (qGs _)).trans (qae h fun h=>by cases h)
 ·cases h
def qzm:GamT:=ofL [(170,.pure qgW)]
theorem qC8 (gl:Gl):qam Tryz.prog gl (gam qzm):=(qaf (qnM gl) qag)
def qwQ:Code:=qc3 Tryz.f159 2
def qyi:LI:=⟨34,[0,3],fun e=>match e with|.ret=>[2]|.exit 0=>[3]|_=>[],true⟩
def qxG:LpsT:=fun r fr σ=>.fail
def qkP (vs:List PV) (σ:Store):Option (PExit×List PV×Store):=lval (lstep tbT qzm qxG qwQ qyi) vs σ
def qhl (s:qU) (at_:Int):Tr LR:=let z1:=sAt s at_;let z2:Store:=Store.mk [] [] [];let z3:=idxV (sSub s (nNat at_) (nLen s)) 10;.ite (iLt at_ (sLen s)) (.ite (qau s at_) (.ite (iEq z1 32) (.ret (.next [.str s,.int .i64 (iAdd .i64 at_ 1)] z2)) (.ite (iEq z1 9) (.ret (.next [.str s,.int .i64 (iAdd .i64 at_ 1)] z2)) (.ite (iEq z1 10) (.ret (.next [.str s,.int .i64 (iAdd .i64 at_ 1)] z2)) (.ite (iEq z1 13) (.ret (.next [.str s,.int .i64 (iAdd .i64 at_ 1)] z2)) (.ite (iEq z1 37) (.ite (qa1 (qas at_) true (nNat at_) (nLen s) (nLen s)) (.ite (iLt z3 0) (.ret (.out .ret [.int .i64 (sLen s)] z2)) (.ret (.next [.str s,.int .i64 (iAdd .i64 at_ z3)] z2))) .fail) (.ret (.out .ret [.int .i64 at_] z2))))))) .fail) (.ret (.out (.exit 0) [.int .i64 at_] z2))
theorem qNG (s:qU) (at_:Int):lstep tbT qzm qxG qwQ qyi [.str s,.int .i64 at_] ⟨[],[],[]⟩=qhl s at_:=by kernel_rfl
theorem qIH (s:qU) (at_:Int):qkP [.str s,.int .i64 at_] ⟨[],[],[]⟩=lnext qkP (qhl s at_).run:=by unfold qkP;rw [qaJ,qNG]
def qrK (s:qU) (at_:Int):Option (PExit×List PV×Store):=qkP [.str s,.int .i64 at_] ⟨[],[],[]⟩
def qmG (s:qU) (at_:Int):Int:=(gInt (gOut (qrK s at_) 0))
def qtr (s:qU) (at_:Int):Bool:=isW (qrK s at_) (.ret,[.int .i64 (qmG s at_)],⟨[],[],[]⟩)
def qgC (s:qU) (at_:Int):Int:=(gInt (gOut (qrK s at_) 0))
def qty (s:qU) (at_:Int):Bool:=isW (qrK s at_) ((.exit 0),[.int .i64 (qgC s at_)],⟨[],[],[]⟩)
def qjq:List PV→Store→Tr (PExit×List PV×Store)|[.str s,.int .i64 at_],⟨[],[],[]⟩=>.ite (qtr s at_) (.ret (.ret,[.int .i64 (qmG s at_)],⟨[],[],[]⟩)) (.ite (qty s at_) (.ret ((.exit 0),[.int .i64 (qgC s at_)],⟨[],[],[]⟩)) (.fail))|_,_=>.fail
theorem qKO:∀ vs σ r,(qjq vs σ).run=some r→qkP vs σ=some r:=by
 intro vs σ r h;unfold qjq at h
 split at h
 ·exact qae h fun h=>qae h fun h=>by cases h
 ·cases h
theorem qFs (gl:Gl):∀ fr σ e fr' σ',(orc qyi qjq fr σ).run=some (e,fr',σ')→LDoes Tryz.prog gl qwQ fr σ e fr' σ':=qbu qai (qC8 gl ) qah (L:=qxG) (qac (by kernel_rfl)) (by kernel_rfl) qKO
def qI8:LpsT:=fun r fr σ=>bif Nat.beq r 2 then orc qyi qjq fr σ else .fail
def qCr (s:qU):Tr PV:=.ite (qtr s 0) (.ret (.int .i64 (qmG s 0))) (.ite (qty s 0) (.ret (.int .i64 (qgC s 0))) .fail)
theorem qPt (s:qU):(tcall tbT qzm qI8 Tryz.f159 [.str s]).flat=qCr s:=by kernel_rfl
def qDo (s:qU):Option PV:=(qCr s).run
def qiI (s:qU):Int:=(gInt (gVal (qDo s)))
def qhL (s:qU):Bool:=isW (qDo s) (.int .i64 (qiI s))
def qIx:List PV→Tr PV|[.str s]=>.ite (qhL s) (.ret (.int .i64 (qiI s))) (.fail)|_=>.fail
theorem qJL (gl:Gl):SimP Tryz.prog gl 159 fun args=>(qIx args).run:=by
 refine SimP.of_flat (G:=qzm) (L:=qI8) qai (qC8 gl ) qah  Tryz.func159 rfl (by rfl) (by kernel_rfl) (qax (L:=lps qI8) [(2,qwQ)] (by kernel_rfl) (List.forall_mem_cons.2 ⟨fun fr σ e fr' σ' h=>qFs gl  fr σ e fr' σ' h,(List.forall_mem_nil _)⟩)) ?_
 intro args x h;unfold qIx at h
 split at h
 ·exact (congrArg Tr.run (qPt _)).trans (qae h fun h=>by cases h)
 ·cases h
def qAZ:GamT:=ofL [(172,.pure qfP),(175,.pure qDP)]
theorem qGo (gl:Gl):qam Tryz.prog gl (gam qAZ):=(qaf (qiN gl) (qaf (qC3 gl) qag))
def qHo:LpsT:=fun r fr σ=>.fail
def qx4 (s:qU) (k:Int):Tr PV:=.ite (qpF s) (.ite (qa1 true (qas (qnc s)) 0 (nNat (qnc s)) (nLen s)) (.ret (.tup [.agg [.int .i64 k,.str (sSub s 0 (nNat (qnc s))),.int .i64 0,.int .i64 0,.str [],.int .i64 0],.bool (iLe (qnc s) 64)])) .fail) .fail
theorem qO0 (s:qU) (k:Int):(tcall tbT qAZ qHo Tryz.f171 [.str s,.int .i64 k]).flat=qx4 s k:=by kernel_rfl
def qfI (s:qU) (k:Int):Option PV:=(qx4 s k).run
def qlE (s:qU) (k:Int):Int:=(gInt (gAt (gCs (gAt (gCs (gVal (qfI s k))) 0)) 0))
def qlF (s:qU) (k:Int):qU:=(gStr (gAt (gCs (gAt (gCs (gVal (qfI s k))) 0)) 1))
def qhU (s:qU) (k:Int):Int:=(gInt (gAt (gCs (gAt (gCs (gVal (qfI s k))) 0)) 2))
def qhy (s:qU) (k:Int):Int:=(gInt (gAt (gCs (gAt (gCs (gVal (qfI s k))) 0)) 3))
def qhI (s:qU) (k:Int):qU:=(gStr (gAt (gCs (gAt (gCs (gVal (qfI s k))) 0)) 4))
def qgT (s:qU) (k:Int):Int:=(gInt (gAt (gCs (gAt (gCs (gVal (qfI s k))) 0)) 5))
def qkL (s:qU) (k:Int):Bool:=(qbQ (gAt (gCs (gVal (qfI s k))) 1))
def qiT (s:qU) (k:Int):Bool:=isW (qfI s k) (.tup [.agg [.int .i64 (qlE s k),.str (qlF s k),.int .i64 (qhU s k),.int .i64 (qhy s k),.str (qhI s k),.int .i64 (qgT s k)],.bool (qkL s k)])
def qB3:List PV→Tr PV|[.str s,.int .i64 k]=>.ite (qiT s k) (.ret (.tup [.agg [.int .i64 (qlE s k),.str (qlF s k),.int .i64 (qhU s k),.int .i64 (qhy s k),.str (qhI s k),.int .i64 (qgT s k)],.bool (qkL s k)])) (.fail)|_=>.fail
theorem qHD (gl:Gl):SimP Tryz.prog gl 171 fun args=>(qB3 args).run:=by
 refine SimP.of_flat (G:=qAZ) (L:=qHo) qai (qGo gl ) qah  Tryz.func171 rfl (by rfl) (by kernel_rfl) (qac (by kernel_rfl)) ?_
 intro args x h;unfold qB3 at h
 split at h
 ·exact (congrArg Tr.run (qO0 _ _)).trans (qae h fun h=>by cases h)
 ·cases h
def qtb:GamT:=ofL [(189,.pure quC)]
theorem qBn (gl:Gl) (hg:GlOk gl):qam Tryz.prog gl (gam qtb):=(qaf (qJv hg) qag)
def qzL:LpsT:=fun r fr σ=>.fail
def qn3 (s:qU) (k:Int):Tr PV:=.ite (qkV s) (.ret (.tup [.agg [.int .i64 k,.str s,.int .i64 (kRd s),.int .i64 (nRd s),.str (sRd s),.int .i64 0],.bool (iEq (eRd s) 0)])) .fail
theorem qHI (s:qU) (k:Int):(tcall tbT qtb qzL Tryz.f174 [.str s,.int .i64 k]).flat=qn3 s k:=by kernel_rfl
def qcm (s:qU) (k:Int):Option PV:=(qn3 s k).run
def qcY (s:qU) (k:Int):Int:=(gInt (gAt (gCs (gAt (gCs (gVal (qcm s k))) 0)) 0))
def qcU (s:qU) (k:Int):qU:=(gStr (gAt (gCs (gAt (gCs (gVal (qcm s k))) 0)) 1))
def qb3 (s:qU) (k:Int):Int:=(gInt (gAt (gCs (gAt (gCs (gVal (qcm s k))) 0)) 2))
def qbY (s:qU) (k:Int):Int:=(gInt (gAt (gCs (gAt (gCs (gVal (qcm s k))) 0)) 3))
def qb2 (s:qU) (k:Int):qU:=(gStr (gAt (gCs (gAt (gCs (gVal (qcm s k))) 0)) 4))
def qbV (s:qU) (k:Int):Int:=(gInt (gAt (gCs (gAt (gCs (gVal (qcm s k))) 0)) 5))
def qcX (s:qU) (k:Int):Bool:=(qbQ (gAt (gCs (gVal (qcm s k))) 1))
def qdf (s:qU) (k:Int):Bool:=isW (qcm s k) (.tup [.agg [.int .i64 (qcY s k),.str (qcU s k),.int .i64 (qb3 s k),.int .i64 (qbY s k),.str (qb2 s k),.int .i64 (qbV s k)],.bool (qcX s k)])
def qsa:List PV→Tr PV|[.str s,.int .i64 k]=>.ite (qdf s k) (.ret (.tup [.agg [.int .i64 (qcY s k),.str (qcU s k),.int .i64 (qb3 s k),.int .i64 (qbY s k),.str (qb2 s k),.int .i64 (qbV s k)],.bool (qcX s k)])) (.fail)|_=>.fail
theorem qBk (gl:Gl) (hg:GlOk gl):SimP Tryz.prog gl 174 fun args=>(qsa args).run:=by
 refine SimP.of_flat (G:=qtb) (L:=qzL) qai (qBn gl hg ) qah  Tryz.func174 rfl (by rfl) (by kernel_rfl) (qac (by kernel_rfl)) ?_
 intro args x h;unfold qsa at h
 split at h
 ·exact (congrArg Tr.run (qHI _ _)).trans (qae h fun h=>by cases h)
 ·cases h
def qti:GamT:=ofL [(170,.pure qgW),(171,.pure qB3),(172,.pure qfP),(173,.pure ql1),(174,.pure qsa),(175,.pure qDP),(176,.pure qsL),(177,.pure qrg),(qAw+0,.glob qIY)]
theorem qyM (gl:Gl) (hg:GlLex gl):qam Tryz.prog gl (gam qti):=(qaf (qnM gl) (qaf (qHD gl) (qaf (qiN gl) (qaf (qoK gl) (qaf (qBk gl hg.toGlOk) (qaf (qC3 gl) (qaf (qCn gl) (qaf (qu7 gl) (qcO (K:=.glob qIY) (qDY hg) qag)))))))))
def qqJ:Code:=qc3 Tryz.f160 16
def qp1:LI:=⟨90,[0,2,4,74,75],fun e=>match e with|.ret=>[2,3]|.exit 1=>[0,2,4]|_=>[],true⟩
def qsu:LpsT:=fun r fr σ=>.fail
def qi3 (vs:List PV) (σ:Store):Option (PExit×List PV×Store):=lval (lstep tbT qti qsu qqJ qp1) vs σ
def qbf (s:qU) (n:Int) (s2 s3 s4 s5:qU) (n2 n3:Int) (s6:qU) (n4 n5:Int) (s7:qU) (n6:Int):Tr LR:=let z1:Store:=Store.mk [[.int .i64 n3,.str s6,.int .i64 n4,.int .i64 n5,.str s7,.int .i64 n6]] [] [44];.ite (iLt n2 4) (.ite (iEq n2 (Int.ofNat 0)) (.ite (qcK s s2) (.ret (.out .ret [.ptr 0 0,.bool true] (Store.mk [[.int .i64 6,.str s2,.int .i64 0,.int .i64 0,.str [],.int .i64 0]] [] [44]))) (.ret (.next [.str s,.ptr 0 0,.int .u8 n,.agg [.str s2,.str s3,.str s4,.str s5],.int .i64 (iAdd .i64 n2 1)] z1))) (.ite (iEq n2 (Int.ofNat 1)) (.ite (qcK s s3) (.ret (.out .ret [.ptr 0 0,.bool true] (Store.mk [[.int .i64 6,.str s3,.int .i64 0,.int .i64 0,.str [],.int .i64 0]] [] [44]))) (.ret (.next [.str s,.ptr 0 0,.int .u8 n,.agg [.str s2,.str s3,.str s4,.str s5],.int .i64 (iAdd .i64 n2 1)] z1))) (.ite (iEq n2 (Int.ofNat 2)) (.ite (qcK s s4) (.ret (.out .ret [.ptr 0 0,.bool true] (Store.mk [[.int .i64 6,.str s4,.int .i64 0,.int .i64 0,.str [],.int .i64 0]] [] [44]))) (.ret (.next [.str s,.ptr 0 0,.int .u8 n,.agg [.str s2,.str s3,.str s4,.str s5],.int .i64 (iAdd .i64 n2 1)] z1))) (.ite (iEq n2 (Int.ofNat 3)) (.ite (qcK s s5) (.ret (.out .ret [.ptr 0 0,.bool true] (Store.mk [[.int .i64 6,.str s5,.int .i64 0,.int .i64 0,.str [],.int .i64 0]] [] [44]))) (.ret (.next [.str s,.ptr 0 0,.int .u8 n,.agg [.str s2,.str s3,.str s4,.str s5],.int .i64 (iAdd .i64 n2 1)] z1))) .fail)))) (.ret (.out (.exit 1) [.str s,.ptr 0 0,.int .u8 n] z1))
theorem qJq (s:qU) (n:Int) (s2 s3 s4 s5:qU) (n2 n3:Int) (s6:qU) (n4 n5:Int) (s7:qU) (n6:Int):lstep tbT qti qsu qqJ qp1 [.str s,.ptr 0 0,.int .u8 n,.agg [.str s2,.str s3,.str s4,.str s5],.int .i64 n2] ⟨[[.int .i64 n3,.str s6,.int .i64 n4,.int .i64 n5,.str s7,.int .i64 n6]],[],[44]⟩=qbf s n s2 s3 s4 s5 n2 n3 s6 n4 n5 s7 n6:=by kernel_rfl
theorem qmO (s:qU) (n:Int) (s2 s3 s4 s5:qU) (n2 n3:Int) (s6:qU) (n4 n5:Int) (s7:qU) (n6:Int):qi3 [.str s,.ptr 0 0,.int .u8 n,.agg [.str s2,.str s3,.str s4,.str s5],.int .i64 n2] ⟨[[.int .i64 n3,.str s6,.int .i64 n4,.int .i64 n5,.str s7,.int .i64 n6]],[],[44]⟩=lnext qi3 (qbf s n s2 s3 s4 s5 n2 n3 s6 n4 n5 s7 n6).run:=by unfold qi3;rw [qaJ,qJq]
def qaX (s:qU) (n:Int) (s2 s3 s4 s5:qU) (n2 n3:Int) (s6:qU) (n4 n5:Int) (s7:qU) (n6:Int):Option (PExit×List PV×Store):=qi3 [.str s,.ptr 0 0,.int .u8 n,.agg [.str s2,.str s3,.str s4,.str s5],.int .i64 n2] ⟨[[.int .i64 n3,.str s6,.int .i64 n4,.int .i64 n5,.str s7,.int .i64 n6]],[],[44]⟩
def qeo (s:qU) (n:Int) (s2 s3 s4 s5:qU) (n2 n3:Int) (s6:qU) (n4 n5:Int) (s7:qU) (n6:Int):Bool:=(qbQ (gOut (qaX s n s2 s3 s4 s5 n2 n3 s6 n4 n5 s7 n6) 1))
def qen (s:qU) (n:Int) (s2 s3 s4 s5:qU) (n2 n3:Int) (s6:qU) (n4 n5:Int) (s7:qU) (n6:Int):Int:=(gInt (gAt (gObj (qaX s n s2 s3 s4 s5 n2 n3 s6 n4 n5 s7 n6) 0) 0))
def qel (s:qU) (n:Int) (s2 s3 s4 s5:qU) (n2 n3:Int) (s6:qU) (n4 n5:Int) (s7:qU) (n6:Int):qU:=(gStr (gAt (gObj (qaX s n s2 s3 s4 s5 n2 n3 s6 n4 n5 s7 n6) 0) 1))
def qdw (s:qU) (n:Int) (s2 s3 s4 s5:qU) (n2 n3:Int) (s6:qU) (n4 n5:Int) (s7:qU) (n6:Int):Int:=(gInt (gAt (gObj (qaX s n s2 s3 s4 s5 n2 n3 s6 n4 n5 s7 n6) 0) 2))
def qdu (s:qU) (n:Int) (s2 s3 s4 s5:qU) (n2 n3:Int) (s6:qU) (n4 n5:Int) (s7:qU) (n6:Int):Int:=(gInt (gAt (gObj (qaX s n s2 s3 s4 s5 n2 n3 s6 n4 n5 s7 n6) 0) 3))
def qdk (s:qU) (n:Int) (s2 s3 s4 s5:qU) (n2 n3:Int) (s6:qU) (n4 n5:Int) (s7:qU) (n6:Int):qU:=(gStr (gAt (gObj (qaX s n s2 s3 s4 s5 n2 n3 s6 n4 n5 s7 n6) 0) 4))
def qc8 (s:qU) (n:Int) (s2 s3 s4 s5:qU) (n2 n3:Int) (s6:qU) (n4 n5:Int) (s7:qU) (n6:Int):Int:=(gInt (gAt (gObj (qaX s n s2 s3 s4 s5 n2 n3 s6 n4 n5 s7 n6) 0) 5))
def qcC (s:qU) (n:Int) (s2 s3 s4 s5:qU) (n2 n3:Int) (s6:qU) (n4 n5:Int) (s7:qU) (n6:Int):Bool:=isW (qaX s n s2 s3 s4 s5 n2 n3 s6 n4 n5 s7 n6) (.ret,[.ptr 0 0,.bool (qeo s n s2 s3 s4 s5 n2 n3 s6 n4 n5 s7 n6)],⟨[[.int .i64 (qen s n s2 s3 s4 s5 n2 n3 s6 n4 n5 s7 n6),.str (qel s n s2 s3 s4 s5 n2 n3 s6 n4 n5 s7 n6),.int .i64 (qdw s n s2 s3 s4 s5 n2 n3 s6 n4 n5 s7 n6),.int .i64 (qdu s n s2 s3 s4 s5 n2 n3 s6 n4 n5 s7 n6),.str (qdk s n s2 s3 s4 s5 n2 n3 s6 n4 n5 s7 n6),.int .i64 (qc8 s n s2 s3 s4 s5 n2 n3 s6 n4 n5 s7 n6)]],[],[44]⟩)
def qcA (s:qU) (n:Int) (s2 s3 s4 s5:qU) (n2 n3:Int) (s6:qU) (n4 n5:Int) (s7:qU) (n6:Int):qU:=(gStr (gOut (qaX s n s2 s3 s4 s5 n2 n3 s6 n4 n5 s7 n6) 0))
def qde (s:qU) (n:Int) (s2 s3 s4 s5:qU) (n2 n3:Int) (s6:qU) (n4 n5:Int) (s7:qU) (n6:Int):Int:=(gInt (gOut (qaX s n s2 s3 s4 s5 n2 n3 s6 n4 n5 s7 n6) 2))
def qlB (s:qU) (n:Int) (s2 s3 s4 s5:qU) (n2 n3:Int) (s6:qU) (n4 n5:Int) (s7:qU) (n6:Int):Int:=(gInt (gAt (gObj (qaX s n s2 s3 s4 s5 n2 n3 s6 n4 n5 s7 n6) 0) 0))
def qli (s:qU) (n:Int) (s2 s3 s4 s5:qU) (n2 n3:Int) (s6:qU) (n4 n5:Int) (s7:qU) (n6:Int):qU:=(gStr (gAt (gObj (qaX s n s2 s3 s4 s5 n2 n3 s6 n4 n5 s7 n6) 0) 1))
def qkN (s:qU) (n:Int) (s2 s3 s4 s5:qU) (n2 n3:Int) (s6:qU) (n4 n5:Int) (s7:qU) (n6:Int):Int:=(gInt (gAt (gObj (qaX s n s2 s3 s4 s5 n2 n3 s6 n4 n5 s7 n6) 0) 2))
def qkW (s:qU) (n:Int) (s2 s3 s4 s5:qU) (n2 n3:Int) (s6:qU) (n4 n5:Int) (s7:qU) (n6:Int):Int:=(gInt (gAt (gObj (qaX s n s2 s3 s4 s5 n2 n3 s6 n4 n5 s7 n6) 0) 3))
def qle (s:qU) (n:Int) (s2 s3 s4 s5:qU) (n2 n3:Int) (s6:qU) (n4 n5:Int) (s7:qU) (n6:Int):qU:=(gStr (gAt (gObj (qaX s n s2 s3 s4 s5 n2 n3 s6 n4 n5 s7 n6) 0) 4))
def qlv (s:qU) (n:Int) (s2 s3 s4 s5:qU) (n2 n3:Int) (s6:qU) (n4 n5:Int) (s7:qU) (n6:Int):Int:=(gInt (gAt (gObj (qaX s n s2 s3 s4 s5 n2 n3 s6 n4 n5 s7 n6) 0) 5))
def qgz (s:qU) (n:Int) (s2 s3 s4 s5:qU) (n2 n3:Int) (s6:qU) (n4 n5:Int) (s7:qU) (n6:Int):Bool:=isW (qaX s n s2 s3 s4 s5 n2 n3 s6 n4 n5 s7 n6) ((.exit 1),[.str (qcA s n s2 s3 s4 s5 n2 n3 s6 n4 n5 s7 n6),.ptr 0 0,.int .u8 (qde s n s2 s3 s4 s5 n2 n3 s6 n4 n5 s7 n6)],⟨[[.int .i64 (qlB s n s2 s3 s4 s5 n2 n3 s6 n4 n5 s7 n6),.str (qli s n s2 s3 s4 s5 n2 n3 s6 n4 n5 s7 n6),.int .i64 (qkN s n s2 s3 s4 s5 n2 n3 s6 n4 n5 s7 n6),.int .i64 (qkW s n s2 s3 s4 s5 n2 n3 s6 n4 n5 s7 n6),.str (qle s n s2 s3 s4 s5 n2 n3 s6 n4 n5 s7 n6),.int .i64 (qlv s n s2 s3 s4 s5 n2 n3 s6 n4 n5 s7 n6)]],[],[44]⟩)
def qg0:List PV→Store→Tr (PExit×List PV×Store)|[.str s,.ptr 0 0,.int .u8 n,.agg [.str s2,.str s3,.str s4,.str s5],.int .i64 n2],⟨[[.int .i64 n3,.str s6,.int .i64 n4,.int .i64 n5,.str s7,.int .i64 n6]],[],[44]⟩=>.ite (qcC s n s2 s3 s4 s5 n2 n3 s6 n4 n5 s7 n6) (.ret (.ret,[.ptr 0 0,.bool (qeo s n s2 s3 s4 s5 n2 n3 s6 n4 n5 s7 n6)],⟨[[.int .i64 (qen s n s2 s3 s4 s5 n2 n3 s6 n4 n5 s7 n6),.str (qel s n s2 s3 s4 s5 n2 n3 s6 n4 n5 s7 n6),.int .i64 (qdw s n s2 s3 s4 s5 n2 n3 s6 n4 n5 s7 n6),.int .i64 (qdu s n s2 s3 s4 s5 n2 n3 s6 n4 n5 s7 n6),.str (qdk s n s2 s3 s4 s5 n2 n3 s6 n4 n5 s7 n6),.int .i64 (qc8 s n s2 s3 s4 s5 n2 n3 s6 n4 n5 s7 n6)]],[],[44]⟩)) (.ite (qgz s n s2 s3 s4 s5 n2 n3 s6 n4 n5 s7 n6) (.ret ((.exit 1),[.str (qcA s n s2 s3 s4 s5 n2 n3 s6 n4 n5 s7 n6),.ptr 0 0,.int .u8 (qde s n s2 s3 s4 s5 n2 n3 s6 n4 n5 s7 n6)],⟨[[.int .i64 (qlB s n s2 s3 s4 s5 n2 n3 s6 n4 n5 s7 n6),.str (qli s n s2 s3 s4 s5 n2 n3 s6 n4 n5 s7 n6),.int .i64 (qkN s n s2 s3 s4 s5 n2 n3 s6 n4 n5 s7 n6),.int .i64 (qkW s n s2 s3 s4 s5 n2 n3 s6 n4 n5 s7 n6),.str (qle s n s2 s3 s4 s5 n2 n3 s6 n4 n5 s7 n6),.int .i64 (qlv s n s2 s3 s4 s5 n2 n3 s6 n4 n5 s7 n6)]],[],[44]⟩)) (.fail))|_,_=>.fail
theorem qIA:∀ vs σ r,(qg0 vs σ).run=some r→qi3 vs σ=some r:=by
 intro vs σ r h;unfold qg0 at h
 split at h
 ·exact qae h fun h=>qae h fun h=>by cases h
 ·cases h
theorem qCc (gl:Gl) (hg:GlLex gl):∀ fr σ e fr' σ',(orc qp1 qg0 fr σ).run=some (e,fr',σ')→LDoes Tryz.prog gl qqJ fr σ e fr' σ':=qbu qai (qyM gl hg ) qah (L:=qsu) (qac (by kernel_rfl)) (by kernel_rfl) qIA
def qAS:LpsT:=fun r fr σ=>bif Nat.beq r 16 then orc qp1 qg0 fr σ else .fail
def qeg (v:qU):Tr PV:=let z1:=sAt v 0;let z2:Tr PV:=.ite (qiT v 1) (.ret (.tup [.agg [.int .i64 (qlE v 1),.str (qlF v 1),.int .i64 (qhU v 1),.int .i64 (qhy v 1),.str (qhI v 1),.int .i64 (qgT v 1)],.bool (qkL v 1)])) .fail;let z3:Tr PV:=.ite (qiT v 2) (.ret (.tup [.agg [.int .i64 (qlE v 2),.str (qlF v 2),.int .i64 (qhU v 2),.int .i64 (qhy v 2),.str (qhI v 2),.int .i64 (qgT v 2)],.bool (qkL v 2)])) .fail;let z4:=iAdd .i64 1 (qb9 (sSub v (nNat 1) (nLen v)));let z5:=sSub v 0 (nNat z4);let z6:Tr PV:=.ite (qa1 (qas 1) true (nNat 1) (nLen v) (nLen v)) (.ite (qiX (sSub v (nNat 1) (nLen v))) (.ite (qa1 true (qas z4) 0 (nNat z4) (nLen v)) (.ite (qdf z5 4) (.ret (.tup [.agg [.int .i64 (qcY z5 4),.str (qcU z5 4),.int .i64 (qb3 z5 4),.int .i64 (qbY z5 4),.str (qb2 z5 4),.int .i64 (qbV z5 4)],.bool (qcX z5 4)])) .fail) .fail) .fail) .fail;let z7:=sSub v 0 (nNat (qe0 v));let z8:=qcA v z1 [58,45] [60,61] [62,61] [33,61] 0 0 [] 0 0 [] 0;let z9:Tr PV:=.ite (iEq z1 34) (.ite (qg4 v) (.ite (qa1 true (qas (qe0 v)) 0 (nNat (qe0 v)) (nLen v)) (.ite (qdf z7 5) (.ret (.tup [.agg [.int .i64 (qcY z7 5),.str (qcU z7 5),.int .i64 (qb3 z7 5),.int .i64 (qbY z7 5),.str (qb2 z7 5),.int .i64 (qbV z7 5)],.bool (qcX z7 5)])) .fail) .fail) .fail) (.ite (qcC v z1 [58,45] [60,61] [62,61] [33,61] 0 0 [] 0 0 [] 0) (.ret (.tup [.agg [.int .i64 (qen v z1 [58,45] [60,61] [62,61] [33,61] 0 0 [] 0 0 [] 0),.str (qel v z1 [58,45] [60,61] [62,61] [33,61] 0 0 [] 0 0 [] 0),.int .i64 (qdw v z1 [58,45] [60,61] [62,61] [33,61] 0 0 [] 0 0 [] 0),.int .i64 (qdu v z1 [58,45] [60,61] [62,61] [33,61] 0 0 [] 0 0 [] 0),.str (qdk v z1 [58,45] [60,61] [62,61] [33,61] 0 0 [] 0 0 [] 0),.int .i64 (qc8 v z1 [58,45] [60,61] [62,61] [33,61] 0 0 [] 0 0 [] 0)],.bool (qeo v z1 [58,45] [60,61] [62,61] [33,61] 0 0 [] 0 0 [] 0)])) (.ite (qgz v z1 [58,45] [60,61] [62,61] [33,61] 0 0 [] 0 0 [] 0) (.ite (qa1 true (qas 1) 0 (nNat 1) (nLen z8)) (.ret (.tup [.agg [.int .i64 6,.str (sSub z8 0 (nNat 1)),.int .i64 0,.int .i64 0,.str [],.int .i64 0],.bool (iLe 0 (idxV [40,41,44,46,43,45,61,58,60,62] (qde v z1 [58,45] [60,61] [62,61] [33,61] 0 0 [] 0 0 [] 0)))])) .fail) .fail));let z10:Tr PV:=.ite (iEq z1 95) (.ite (qcD (sAt v 1)) (.ret (.tup [.agg [.int .i64 3,.str [95],.int .i64 0,.int .i64 0,.str [],.int .i64 0],.bool (bNot (qcB (sAt v 1)))])) .fail) (.ite (qb0 z1) (.ite (qbj z1) z6 (.ite (iEq z1 45) (.ite (qb0 (sAt v 1)) (.ite (qbj (sAt v 1)) z6 z9) .fail) z9)) .fail);let z11:Tr PV:=.ite (iLe 65 z1) (.ite (iLe z1 90) z3 z10) z10;let z12:Tr PV:=.ite (iEq z1 95) (.ite (qcD 0) (.ret (.tup [.agg [.int .i64 3,.str [95],.int .i64 0,.int .i64 0,.str [],.int .i64 0],.bool (bNot (qcB 0))])) .fail) (.ite (qb0 z1) (.ite (qbj z1) z6 (.ite (iEq z1 45) (.ite (qb0 0) (.ite (qbj 0) z6 z9) .fail) z9)) .fail);let z13:Tr PV:=.ite (iLe 65 z1) (.ite (iLe z1 90) z3 z12) z12;.ite (qau v 0) (.ite (iLt 1 (sLen v)) (.ite (qau v 1) (.ite (iLe 97 z1) (.ite (iLe z1 122) z2 z11) z11) .fail) (.ite (iLe 97 z1) (.ite (iLe z1 122) z2 z13) z13)) .fail
theorem qN9 (v:qU):(tcall tbT qti qAS Tryz.f160 [.str v]).flat=qeg v:=by kernel_rfl
def qa5 (v:qU):Option PV:=(qeg v).run
def qeV (v:qU):Int:=(gInt (gAt (gCs (gAt (gCs (gVal (qa5 v))) 0)) 0))
def qdg (v:qU):qU:=(gStr (gAt (gCs (gAt (gCs (gVal (qa5 v))) 0)) 1))
def qcH (v:qU):Int:=(gInt (gAt (gCs (gAt (gCs (gVal (qa5 v))) 0)) 2))
def qcG (v:qU):Int:=(gInt (gAt (gCs (gAt (gCs (gVal (qa5 v))) 0)) 3))
def qcN (v:qU):qU:=(gStr (gAt (gCs (gAt (gCs (gVal (qa5 v))) 0)) 4))
def qvB (v:qU):Int:=(gInt (gAt (gCs (gAt (gCs (gVal (qa5 v))) 0)) 5))
def qlI (v:qU):Bool:=(qbQ (gAt (gCs (gVal (qa5 v))) 1))
def qiH (v:qU):Bool:=isW (qa5 v) (.tup [.agg [.int .i64 (qeV v),.str (qdg v),.int .i64 (qcH v),.int .i64 (qcG v),.str (qcN v),.int .i64 (qvB v)],.bool (qlI v)])
def qAB:List PV→Tr PV|[.str v]=>.ite (qiH v) (.ret (.tup [.agg [.int .i64 (qeV v),.str (qdg v),.int .i64 (qcH v),.int .i64 (qcG v),.str (qcN v),.int .i64 (qvB v)],.bool (qlI v)])) (.fail)|_=>.fail
theorem qG6 (gl:Gl) (hg:GlLex gl):SimP Tryz.prog gl 160 fun args=>(qAB args).run:=by
 refine SimP.of_flat (G:=qti) (L:=qAS) qai (qyM gl hg ) qah  Tryz.func160 rfl (by rfl) (by kernel_rfl) (qax (L:=lps qAS) [(16,qqJ)] (by kernel_rfl) (List.forall_mem_cons.2 ⟨fun fr σ e fr' σ' h=>qCc gl hg  fr σ e fr' σ' h,(List.forall_mem_nil _)⟩)) ?_
 intro args x h;unfold qAB at h
 split at h
 ·exact (congrArg Tr.run (qN9 _)).trans (qae h fun h=>by cases h)
 ·cases h
end Go.Pv
set_option maxHeartbeats 4000000
set_option maxRecDepth 200000
set_option linter.unusedSimpArgs false
set_option linter.unusedVariables false
namespace Go.Pv
open Go Go.Proofs Go.RowKit
def qjH:Code:=rngC Tryz.f82 500007
def qw2:RI:=⟨24,[2,3,4,5,12],[2,3,4,5],[.ptr 0 0,.ptr 1 0,.ptr 2 0,.ptr 3 0],[13,14],1⟩
def qs8:Nat→List PV→Store→Tr (PV×Store):=rtree tbT (ofL []) (fun _ _ _=>.fail) qw2 (rngX qjH) (rngY qjH)
end Go.Pv
set_option maxHeartbeats 4000000
set_option maxRecDepth 200000
set_option linter.unusedSimpArgs false
set_option linter.unusedVariables false
namespace Go.Pv
open Go Go.Proofs
def qE0:GamT:=ofL [(159,.pure qIx),(160,.pure qAB),(qdY,.yld 1 qs8)]
theorem qHQ (gl:Gl) (hg:GlLex gl) (hy:qpo Tryz.prog gl qdY (.yld 1 fun t a σ=>(qs8 t a σ).run)):qam Tryz.prog gl (gam qE0):=(qaf (qJL gl) (qaf (qG6 gl hg) (qcO (K:=.yld 1 qs8) hy qag)))
def qzY:Code:=qc3 Tryz.f158 1
def qzx:LI:=⟨41,[0,1,3],fun e=>match e with|.ret=>[]|.exit 0=>[]|_=>[],true⟩
def qwE:LpsT:=fun r fr σ=>.fail
def qeW (vs:List PV) (σ:Store):Option (PExit×List PV×Store):=lval (lstep tbT qE0 qwE qzY qzx) vs σ
def qsX (at_:Int) (r:qR) (n n2:Int) (r2:qR) (s:qU):Tr LR:=let z1:=nLen s;let z2:=sSub s (nNat at_) z1;let z3:=bNot (qlI z2);let z4:Store:=Store.mk [[.sl (qaB 5 (qaB 6 [])) .full],[.int .i64 at_],[.int .i64 120],[.sl (qaB 5 (qaB 6 r2)) .full],[.str s]] [(2,0,1)] [36,3,28,36,9];let z5:=iAdd .i64 at_ (sLen (qdg z2));let z6:=qa1 (qas z5) true (nNat z5) z1 z1;let z7:=qhL (sSub s (nNat z5) z1);let z8:=xApp r2 [[.int .i64 (qeV z2),.str (qdg z2),.int .i64 (qcH z2),.int .i64 (qcG z2),.str (qcN z2),.int .i64 at_]];let z9:Store:=Store.mk [[.sl (qaB 5 (qaB 6 r)) .full],[.int .i64 n],[.int .i64 n2],[.sl (qaB 5 (qaB 6 z8)) (.tok 1)],[.str s]] [(0,0,1),(nXs z8,6,44)] [36,3,28,36,9];.ite (iLt at_ (sLen s)) (.ite (qa1 (qas at_) true (nNat at_) z1 z1) (.ite (qiH z2) (.ite (nEq 0 0) (.ite z3 (.ite true (.ret (.out .ret [] z4)) (.ite z3 (.ret (.out .ret [] z4)) (.ite z6 (.ite z7 (.ret (.next [.yld 0,.ptr 4 0,.int .i64 (iAdd .i64 z5 (qiI (sSub s (nNat z5) z1)))] z4)) .fail) .fail))) (.ite (qaz r2 [[.int .i64 (qeV z2),.str (qdg z2),.int .i64 (qcH z2),.int .i64 (qcG z2),.str (qcN z2),.int .i64 at_]] 64) (.ite (qar [[.int .i64 (qeV z2),.str (qdg z2),.int .i64 (qcH z2),.int .i64 (qcG z2),.str (qcN z2),.int .i64 at_]] 6) (.ite (qan r2 6) (.ite false (.ret (.out .ret [] z9)) (.ite z3 (.ret (.out .ret [] z9)) (.ite z6 (.ite z7 (.ret (.next [.yld 0,.ptr 4 0,.int .i64 (iAdd .i64 z5 (qiI (sSub s (nNat z5) z1)))] z9)) .fail) .fail))) .fail) .fail) .fail)) .fail) .fail) .fail) (.ret (.out (.exit 0) [] (Store.mk [[.sl r .full],[.int .i64 n],[.int .i64 n2],[.sl r2 .full],[.str s]] [(0,0,1)] [36,3,28,36,9])))
theorem qPB (at_:Int) (r:qR) (n n2:Int) (r2:qR) (s:qU):lstep tbT qE0 qwE qzY qzx [.yld 0,.ptr 4 0,.int .i64 at_] ⟨[[.sl r .full],[.int .i64 n],[.int .i64 n2],[.sl r2 .full],[.str s]],[(0,0,1)],[36,3,28,36,9]⟩=qsX at_ r n n2 r2 s:=by kernel_rfl
theorem qGm (at_:Int) (r:qR) (n n2:Int) (r2:qR) (s:qU):qeW [.yld 0,.ptr 4 0,.int .i64 at_] ⟨[[.sl r .full],[.int .i64 n],[.int .i64 n2],[.sl r2 .full],[.str s]],[(0,0,1)],[36,3,28,36,9]⟩=lnext qeW (qsX at_ r n n2 r2 s).run:=by unfold qeW;rw [qaJ,qPB]
def qnO (at_:Int) (r:qR) (n n2:Int) (r2:qR) (s:qU) (k:Nat):Tr LR:=let z1:=nLen s;let z2:=sSub s (nNat at_) z1;let z3:=bNot (qlI z2);let z4:Store:=Store.mk [[.sl (qaB 5 (qaB 6 [])) .full],[.int .i64 at_],[.int .i64 120],[.sl (qaB 5 (qaB 6 r2)) (.tok 1)],[.str s]] [(2,0,1),(k,6,44)] [36,3,28,36,9];let z5:=iAdd .i64 at_ (sLen (qdg z2));let z6:=qa1 (qas z5) true (nNat z5) z1 z1;let z7:=qhL (sSub s (nNat z5) z1);let z8:=xApp r2 [[.int .i64 (qeV z2),.str (qdg z2),.int .i64 (qcH z2),.int .i64 (qcG z2),.str (qcN z2),.int .i64 at_]];let z9:Store:=Store.mk [[.sl (qaB 5 (qaB 6 r)) .full],[.int .i64 n],[.int .i64 n2],[.sl (qaB 5 (qaB 6 z8)) (.tok 1)],[.str s]] [(0,0,1),(nXs z8,6,44)] [36,3,28,36,9];.ite (iLt at_ (sLen s)) (.ite (qa1 (qas at_) true (nNat at_) z1 z1) (.ite (qiH z2) (.ite (nEq 0 0) (.ite z3 (.ite true (.ret (.out .ret [] z4)) (.ite z3 (.ret (.out .ret [] z4)) (.ite z6 (.ite z7 (.ret (.next [.yld 0,.ptr 4 0,.int .i64 (iAdd .i64 z5 (qiI (sSub s (nNat z5) z1)))] z4)) .fail) .fail))) (.ite (qaz r2 [[.int .i64 (qeV z2),.str (qdg z2),.int .i64 (qcH z2),.int .i64 (qcG z2),.str (qcN z2),.int .i64 at_]] 64) (.ite (qar [[.int .i64 (qeV z2),.str (qdg z2),.int .i64 (qcH z2),.int .i64 (qcG z2),.str (qcN z2),.int .i64 at_]] 6) (.ite (qan r2 6) (.ite (nEq k (nXs r2)) (.ite false (.ret (.out .ret [] z9)) (.ite z3 (.ret (.out .ret [] z9)) (.ite z6 (.ite z7 (.ret (.next [.yld 0,.ptr 4 0,.int .i64 (iAdd .i64 z5 (qiI (sSub s (nNat z5) z1)))] z9)) .fail) .fail))) .fail) .fail) .fail) .fail)) .fail) .fail) .fail) (.ret (.out (.exit 0) [] (Store.mk [[.sl r .full],[.int .i64 n],[.int .i64 n2],[.sl r2 (.tok 1)],[.str s]] [(0,0,1),(k,6,44)] [36,3,28,36,9])))
theorem qMH (at_:Int) (r:qR) (n n2:Int) (r2:qR) (s:qU) (k:Nat):lstep tbT qE0 qwE qzY qzx [.yld 0,.ptr 4 0,.int .i64 at_] ⟨[[.sl r .full],[.int .i64 n],[.int .i64 n2],[.sl r2 (.tok 1)],[.str s]],[(0,0,1),(k,6,44)],[36,3,28,36,9]⟩=qnO at_ r n n2 r2 s k:=by kernel_rfl
theorem qBd (at_:Int) (r:qR) (n n2:Int) (r2:qR) (s:qU) (k:Nat):qeW [.yld 0,.ptr 4 0,.int .i64 at_] ⟨[[.sl r .full],[.int .i64 n],[.int .i64 n2],[.sl r2 (.tok 1)],[.str s]],[(0,0,1),(k,6,44)],[36,3,28,36,9]⟩=lnext qeW (qnO at_ r n n2 r2 s k).run:=by unfold qeW;rw [qaJ,qMH]
def qaG (at_:Int) (r:qR) (n n2:Int) (r2:qR) (s:qU):Option (PExit×List PV×Store):=qeW [.yld 0,.ptr 4 0,.int .i64 at_] ⟨[[.sl r .full],[.int .i64 n],[.int .i64 n2],[.sl r2 .full],[.str s]],[(0,0,1)],[36,3,28,36,9]⟩
def qhh (at_:Int) (r:qR) (n n2:Int) (r2:qR) (s:qU):qR:=(gRow (gAt (gObj (qaG at_ r n n2 r2 s) 0) 0))
def qhO (at_:Int) (r:qR) (n n2:Int) (r2:qR) (s:qU):Int:=(gInt (gAt (gObj (qaG at_ r n n2 r2 s) 1) 0))
def qeE (at_:Int) (r:qR) (n n2:Int) (r2:qR) (s:qU):Int:=(gInt (gAt (gObj (qaG at_ r n n2 r2 s) 2) 0))
def qez (at_:Int) (r:qR) (n n2:Int) (r2:qR) (s:qU):qR:=(gRow (gAt (gObj (qaG at_ r n n2 r2 s) 3) 0))
def qhk (at_:Int) (r:qR) (n n2:Int) (r2:qR) (s:qU):qU:=(gStr (gAt (gObj (qaG at_ r n n2 r2 s) 4) 0))
def qki (at_:Int) (r:qR) (n n2:Int) (r2:qR) (s:qU):Bool:=isW (qaG at_ r n n2 r2 s) (.ret,[],⟨[[.sl (qhh at_ r n n2 r2 s) .full],[.int .i64 (qhO at_ r n n2 r2 s)],[.int .i64 (qeE at_ r n n2 r2 s)],[.sl (qez at_ r n n2 r2 s) .full],[.str (qhk at_ r n n2 r2 s)]],[(2,0,1)],[36,3,28,36,9]⟩)
def qhT (at_:Int) (r:qR) (n n2:Int) (r2:qR) (s:qU):qR:=(gRow (gAt (gObj (qaG at_ r n n2 r2 s) 0) 0))
def qhn (at_:Int) (r:qR) (n n2:Int) (r2:qR) (s:qU):Int:=(gInt (gAt (gObj (qaG at_ r n n2 r2 s) 1) 0))
def qeU (at_:Int) (r:qR) (n n2:Int) (r2:qR) (s:qU):Int:=(gInt (gAt (gObj (qaG at_ r n n2 r2 s) 2) 0))
def qeC (at_:Int) (r:qR) (n n2:Int) (r2:qR) (s:qU):qR:=(gRow (gAt (gObj (qaG at_ r n n2 r2 s) 3) 0))
def qgG (at_:Int) (r:qR) (n n2:Int) (r2:qR) (s:qU):qU:=(gStr (gAt (gObj (qaG at_ r n n2 r2 s) 4) 0))
def qhx (at_:Int) (r:qR) (n n2:Int) (r2:qR) (s:qU):Nat:=(gTok (qaG at_ r n n2 r2 s) 1)
def qjt (at_:Int) (r:qR) (n n2:Int) (r2:qR) (s:qU):Bool:=isW (qaG at_ r n n2 r2 s) (.ret,[],⟨[[.sl (qhT at_ r n n2 r2 s) .full],[.int .i64 (qhn at_ r n n2 r2 s)],[.int .i64 (qeU at_ r n n2 r2 s)],[.sl (qeC at_ r n n2 r2 s) (.tok 1)],[.str (qgG at_ r n n2 r2 s)]],[(0,0,1),((qhx at_ r n n2 r2 s),6,44)],[36,3,28,36,9]⟩)
def qhm (at_:Int) (r:qR) (n n2:Int) (r2:qR) (s:qU):qR:=(gRow (gAt (gObj (qaG at_ r n n2 r2 s) 0) 0))
def qhC (at_:Int) (r:qR) (n n2:Int) (r2:qR) (s:qU):Int:=(gInt (gAt (gObj (qaG at_ r n n2 r2 s) 1) 0))
def qe8 (at_:Int) (r:qR) (n n2:Int) (r2:qR) (s:qU):Int:=(gInt (gAt (gObj (qaG at_ r n n2 r2 s) 2) 0))
def qeQ (at_:Int) (r:qR) (n n2:Int) (r2:qR) (s:qU):qR:=(gRow (gAt (gObj (qaG at_ r n n2 r2 s) 3) 0))
def qht (at_:Int) (r:qR) (n n2:Int) (r2:qR) (s:qU):qU:=(gStr (gAt (gObj (qaG at_ r n n2 r2 s) 4) 0))
def qjX (at_:Int) (r:qR) (n n2:Int) (r2:qR) (s:qU):Bool:=isW (qaG at_ r n n2 r2 s) ((.exit 0),[],⟨[[.sl (qhm at_ r n n2 r2 s) .full],[.int .i64 (qhC at_ r n n2 r2 s)],[.int .i64 (qe8 at_ r n n2 r2 s)],[.sl (qeQ at_ r n n2 r2 s) .full],[.str (qht at_ r n n2 r2 s)]],[(0,0,1)],[36,3,28,36,9]⟩)
def qhS (at_:Int) (r:qR) (n n2:Int) (r2:qR) (s:qU):qR:=(gRow (gAt (gObj (qaG at_ r n n2 r2 s) 0) 0))
def qhi (at_:Int) (r:qR) (n n2:Int) (r2:qR) (s:qU):Int:=(gInt (gAt (gObj (qaG at_ r n n2 r2 s) 1) 0))
def qes (at_:Int) (r:qR) (n n2:Int) (r2:qR) (s:qU):Int:=(gInt (gAt (gObj (qaG at_ r n n2 r2 s) 2) 0))
def qey (at_:Int) (r:qR) (n n2:Int) (r2:qR) (s:qU):qR:=(gRow (gAt (gObj (qaG at_ r n n2 r2 s) 3) 0))
def qhr (at_:Int) (r:qR) (n n2:Int) (r2:qR) (s:qU):qU:=(gStr (gAt (gObj (qaG at_ r n n2 r2 s) 4) 0))
def qkt (at_:Int) (r:qR) (n n2:Int) (r2:qR) (s:qU):Bool:=isW (qaG at_ r n n2 r2 s) ((.exit 0),[],⟨[[.sl (qhS at_ r n n2 r2 s) .full],[.int .i64 (qhi at_ r n n2 r2 s)],[.int .i64 (qes at_ r n n2 r2 s)],[.sl (qey at_ r n n2 r2 s) .full],[.str (qhr at_ r n n2 r2 s)]],[(2,0,1)],[36,3,28,36,9]⟩)
def qhj (at_:Int) (r:qR) (n n2:Int) (r2:qR) (s:qU):qR:=(gRow (gAt (gObj (qaG at_ r n n2 r2 s) 0) 0))
def qg9 (at_:Int) (r:qR) (n n2:Int) (r2:qR) (s:qU):Int:=(gInt (gAt (gObj (qaG at_ r n n2 r2 s) 1) 0))
def qeN (at_:Int) (r:qR) (n n2:Int) (r2:qR) (s:qU):Int:=(gInt (gAt (gObj (qaG at_ r n n2 r2 s) 2) 0))
def qeA (at_:Int) (r:qR) (n n2:Int) (r2:qR) (s:qU):qR:=(gRow (gAt (gObj (qaG at_ r n n2 r2 s) 3) 0))
def qhJ (at_:Int) (r:qR) (n n2:Int) (r2:qR) (s:qU):qU:=(gStr (gAt (gObj (qaG at_ r n n2 r2 s) 4) 0))
def qgR (at_:Int) (r:qR) (n n2:Int) (r2:qR) (s:qU):Nat:=(gTok (qaG at_ r n n2 r2 s) 1)
def qjE (at_:Int) (r:qR) (n n2:Int) (r2:qR) (s:qU):Bool:=isW (qaG at_ r n n2 r2 s) (.ret,[],⟨[[.sl (qhj at_ r n n2 r2 s) .full],[.int .i64 (qg9 at_ r n n2 r2 s)],[.int .i64 (qeN at_ r n n2 r2 s)],[.sl (qeA at_ r n n2 r2 s) (.tok 1)],[.str (qhJ at_ r n n2 r2 s)]],[(2,0,1),((qgR at_ r n n2 r2 s),6,44)],[36,3,28,36,9]⟩)
def qhH (at_:Int) (r:qR) (n n2:Int) (r2:qR) (s:qU):qR:=(gRow (gAt (gObj (qaG at_ r n n2 r2 s) 0) 0))
def qhz (at_:Int) (r:qR) (n n2:Int) (r2:qR) (s:qU):Int:=(gInt (gAt (gObj (qaG at_ r n n2 r2 s) 1) 0))
def qeK (at_:Int) (r:qR) (n n2:Int) (r2:qR) (s:qU):Int:=(gInt (gAt (gObj (qaG at_ r n n2 r2 s) 2) 0))
def qe1 (at_:Int) (r:qR) (n n2:Int) (r2:qR) (s:qU):qR:=(gRow (gAt (gObj (qaG at_ r n n2 r2 s) 3) 0))
def qhM (at_:Int) (r:qR) (n n2:Int) (r2:qR) (s:qU):qU:=(gStr (gAt (gObj (qaG at_ r n n2 r2 s) 4) 0))
def qg7 (at_:Int) (r:qR) (n n2:Int) (r2:qR) (s:qU):Nat:=(gTok (qaG at_ r n n2 r2 s) 1)
def qke (at_:Int) (r:qR) (n n2:Int) (r2:qR) (s:qU):Bool:=isW (qaG at_ r n n2 r2 s) ((.exit 0),[],⟨[[.sl (qhH at_ r n n2 r2 s) .full],[.int .i64 (qhz at_ r n n2 r2 s)],[.int .i64 (qeK at_ r n n2 r2 s)],[.sl (qe1 at_ r n n2 r2 s) (.tok 1)],[.str (qhM at_ r n n2 r2 s)]],[(0,0,1),((qg7 at_ r n n2 r2 s),6,44)],[36,3,28,36,9]⟩)
def qg5 (at_:Int) (r:qR) (n n2:Int) (r2:qR) (s:qU):qR:=(gRow (gAt (gObj (qaG at_ r n n2 r2 s) 0) 0))
def qgQ (at_:Int) (r:qR) (n n2:Int) (r2:qR) (s:qU):Int:=(gInt (gAt (gObj (qaG at_ r n n2 r2 s) 1) 0))
def qeR (at_:Int) (r:qR) (n n2:Int) (r2:qR) (s:qU):Int:=(gInt (gAt (gObj (qaG at_ r n n2 r2 s) 2) 0))
def qfa (at_:Int) (r:qR) (n n2:Int) (r2:qR) (s:qU):qR:=(gRow (gAt (gObj (qaG at_ r n n2 r2 s) 3) 0))
def qgE (at_:Int) (r:qR) (n n2:Int) (r2:qR) (s:qU):qU:=(gStr (gAt (gObj (qaG at_ r n n2 r2 s) 4) 0))
def qgN (at_:Int) (r:qR) (n n2:Int) (r2:qR) (s:qU):Nat:=(gTok (qaG at_ r n n2 r2 s) 1)
def qjj (at_:Int) (r:qR) (n n2:Int) (r2:qR) (s:qU):Bool:=isW (qaG at_ r n n2 r2 s) ((.exit 0),[],⟨[[.sl (qg5 at_ r n n2 r2 s) .full],[.int .i64 (qgQ at_ r n n2 r2 s)],[.int .i64 (qeR at_ r n n2 r2 s)],[.sl (qfa at_ r n n2 r2 s) (.tok 1)],[.str (qgE at_ r n n2 r2 s)]],[(2,0,1),((qgN at_ r n n2 r2 s),6,44)],[36,3,28,36,9]⟩)
def qmy:List PV→Store→Tr (PExit×List PV×Store)|[.yld 0,.ptr 4 0,.int .i64 at_],⟨[[.sl r .full],[.int .i64 n],[.int .i64 n2],[.sl r2 .full],[.str s]],[(0,0,1)],[36,3,28,36,9]⟩=>.ite (qki at_ r n n2 r2 s) (.ret (.ret,[],⟨[[.sl (qhh at_ r n n2 r2 s) .full],[.int .i64 (qhO at_ r n n2 r2 s)],[.int .i64 (qeE at_ r n n2 r2 s)],[.sl (qez at_ r n n2 r2 s) .full],[.str (qhk at_ r n n2 r2 s)]],[(2,0,1)],[36,3,28,36,9]⟩)) (.ite (qjt at_ r n n2 r2 s) (.ret (.ret,[],⟨[[.sl (qhT at_ r n n2 r2 s) .full],[.int .i64 (qhn at_ r n n2 r2 s)],[.int .i64 (qeU at_ r n n2 r2 s)],[.sl (qeC at_ r n n2 r2 s) (.tok 1)],[.str (qgG at_ r n n2 r2 s)]],[(0,0,1),((qhx at_ r n n2 r2 s),6,44)],[36,3,28,36,9]⟩)) (.ite (qjX at_ r n n2 r2 s) (.ret ((.exit 0),[],⟨[[.sl (qhm at_ r n n2 r2 s) .full],[.int .i64 (qhC at_ r n n2 r2 s)],[.int .i64 (qe8 at_ r n n2 r2 s)],[.sl (qeQ at_ r n n2 r2 s) .full],[.str (qht at_ r n n2 r2 s)]],[(0,0,1)],[36,3,28,36,9]⟩)) (.ite (qkt at_ r n n2 r2 s) (.ret ((.exit 0),[],⟨[[.sl (qhS at_ r n n2 r2 s) .full],[.int .i64 (qhi at_ r n n2 r2 s)],[.int .i64 (qes at_ r n n2 r2 s)],[.sl (qey at_ r n n2 r2 s) .full],[.str (qhr at_ r n n2 r2 s)]],[(2,0,1)],[36,3,28,36,9]⟩)) (.ite (qjE at_ r n n2 r2 s) (.ret (.ret,[],⟨[[.sl (qhj at_ r n n2 r2 s) .full],[.int .i64 (qg9 at_ r n n2 r2 s)],[.int .i64 (qeN at_ r n n2 r2 s)],[.sl (qeA at_ r n n2 r2 s) (.tok 1)],[.str (qhJ at_ r n n2 r2 s)]],[(2,0,1),((qgR at_ r n n2 r2 s),6,44)],[36,3,28,36,9]⟩)) (.ite (qke at_ r n n2 r2 s) (.ret ((.exit 0),[],⟨[[.sl (qhH at_ r n n2 r2 s) .full],[.int .i64 (qhz at_ r n n2 r2 s)],[.int .i64 (qeK at_ r n n2 r2 s)],[.sl (qe1 at_ r n n2 r2 s) (.tok 1)],[.str (qhM at_ r n n2 r2 s)]],[(0,0,1),((qg7 at_ r n n2 r2 s),6,44)],[36,3,28,36,9]⟩)) (.ite (qjj at_ r n n2 r2 s) (.ret ((.exit 0),[],⟨[[.sl (qg5 at_ r n n2 r2 s) .full],[.int .i64 (qgQ at_ r n n2 r2 s)],[.int .i64 (qeR at_ r n n2 r2 s)],[.sl (qfa at_ r n n2 r2 s) (.tok 1)],[.str (qgE at_ r n n2 r2 s)]],[(2,0,1),((qgN at_ r n n2 r2 s),6,44)],[36,3,28,36,9]⟩)) (.fail)))))))|_,_=>.fail
theorem qMb:∀ vs σ r,(qmy vs σ).run=some r→qeW vs σ=some r:=by
 intro vs σ r h;unfold qmy at h
 split at h
 ·exact qae h fun h=>qae h fun h=>qae h fun h=>qae h fun h=>qae h fun h=>qae h fun h=>qae h fun h=>by cases h
 ·cases h
theorem qGZ (gl:Gl) (hg:GlLex gl) (hy:qpo Tryz.prog gl qdY (.yld 1 fun t a σ=>(qs8 t a σ).run)):∀ fr σ e fr' σ',(orc qzx qmy fr σ).run=some (e,fr',σ')→LDoes Tryz.prog gl qzY fr σ e fr' σ':=qbu qai (qHQ gl hg hy ) qah (L:=qwE) (qac (by kernel_rfl)) (by kernel_rfl) qMb
def qNC:LpsT:=fun r fr σ=>bif Nat.beq r 1 then orc qzx qmy fr σ else .fail
def qHK (r:qR) (n n2:Int) (r2:qR) (s:qU):Tr (PV×Store):=let z1:=qiI s;.ite (qhL s) (.ite (qki z1 r n n2 r2 s) (.ret (.tup [],Store.mk [[.sl (qhh z1 r n n2 r2 s) .full],[.int .i64 (qhO z1 r n n2 r2 s)],[.int .i64 (qeE z1 r n n2 r2 s)],[.sl (qez z1 r n n2 r2 s) .full],[.str (qhk z1 r n n2 r2 s)]] [(2,0,1)] [36,3,28,36,9])) (.ite (qjt z1 r n n2 r2 s) (.ret (.tup [],Store.mk [[.sl (qhT z1 r n n2 r2 s) .full],[.int .i64 (qhn z1 r n n2 r2 s)],[.int .i64 (qeU z1 r n n2 r2 s)],[.sl (qeC z1 r n n2 r2 s) (.tok 1)],[.str (qgG z1 r n n2 r2 s)]] [(0,0,1),(qhx z1 r n n2 r2 s,6,44)] [36,3,28,36,9])) (.ite (qjX z1 r n n2 r2 s) (.ret (.tup [],Store.mk [[.sl (qhm z1 r n n2 r2 s) .full],[.int .i64 (qhC z1 r n n2 r2 s)],[.int .i64 (qe8 z1 r n n2 r2 s)],[.sl (qeQ z1 r n n2 r2 s) .full],[.str (qht z1 r n n2 r2 s)]] [(0,0,1)] [36,3,28,36,9])) (.ite (qkt z1 r n n2 r2 s) (.ret (.tup [],Store.mk [[.sl (qhS z1 r n n2 r2 s) .full],[.int .i64 (qhi z1 r n n2 r2 s)],[.int .i64 (qes z1 r n n2 r2 s)],[.sl (qey z1 r n n2 r2 s) .full],[.str (qhr z1 r n n2 r2 s)]] [(2,0,1)] [36,3,28,36,9])) (.ite (qjE z1 r n n2 r2 s) (.ret (.tup [],Store.mk [[.sl (qhj z1 r n n2 r2 s) .full],[.int .i64 (qg9 z1 r n n2 r2 s)],[.int .i64 (qeN z1 r n n2 r2 s)],[.sl (qeA z1 r n n2 r2 s) (.tok 1)],[.str (qhJ z1 r n n2 r2 s)]] [(2,0,1),(qgR z1 r n n2 r2 s,6,44)] [36,3,28,36,9])) (.ite (qke z1 r n n2 r2 s) (.ret (.tup [],Store.mk [[.sl (qhH z1 r n n2 r2 s) .full],[.int .i64 (qhz z1 r n n2 r2 s)],[.int .i64 (qeK z1 r n n2 r2 s)],[.sl (qe1 z1 r n n2 r2 s) (.tok 1)],[.str (qhM z1 r n n2 r2 s)]] [(0,0,1),(qg7 z1 r n n2 r2 s,6,44)] [36,3,28,36,9])) (.ite (qjj z1 r n n2 r2 s) (.ret (.tup [],Store.mk [[.sl (qg5 z1 r n n2 r2 s) .full],[.int .i64 (qgQ z1 r n n2 r2 s)],[.int .i64 (qeR z1 r n n2 r2 s)],[.sl (qfa z1 r n n2 r2 s) (.tok 1)],[.str (qgE z1 r n n2 r2 s)]] [(2,0,1),(qgN z1 r n n2 r2 s,6,44)] [36,3,28,36,9])) .fail))))))) .fail
theorem qQv (r:qR) (n n2:Int) (r2:qR) (s:qU):(qt1 tbT qE0 qNC Tryz.f158 [.yld 0,.ptr 4 0] ⟨[[.sl r .full],[.int .i64 n],[.int .i64 n2],[.sl r2 .full],[.str s]],[(0,0,1)],[36,3,28,36,9]⟩).flat=qHK r n n2 r2 s:=by kernel_rfl
def qc4 (r:qR) (n n2:Int) (r2:qR) (s:qU):Option (PV×Store):=(qHK r n n2 r2 s).run
def qkI (r:qR) (n n2:Int) (r2:qR) (s:qU):qR:=(gRow (gAt (gObj (qc2 (qc4 r n n2 r2 s)) 0) 0))
def qkO (r:qR) (n n2:Int) (r2:qR) (s:qU):Int:=(gInt (gAt (gObj (qc2 (qc4 r n n2 r2 s)) 1) 0))
def qgU (r:qR) (n n2:Int) (r2:qR) (s:qU):Int:=(gInt (gAt (gObj (qc2 (qc4 r n n2 r2 s)) 2) 0))
def qjG (r:qR) (n n2:Int) (r2:qR) (s:qU):qR:=(gRow (gAt (gObj (qc2 (qc4 r n n2 r2 s)) 3) 0))
def qow (r:qR) (n n2:Int) (r2:qR) (s:qU):qU:=(gStr (gAt (gObj (qc2 (qc4 r n n2 r2 s)) 4) 0))
def qoN (r:qR) (n n2:Int) (r2:qR) (s:qU):Bool:=isW (qc4 r n n2 r2 s) (.tup [],⟨[[.sl (qkI r n n2 r2 s) .full],[.int .i64 (qkO r n n2 r2 s)],[.int .i64 (qgU r n n2 r2 s)],[.sl (qjG r n n2 r2 s) .full],[.str (qow r n n2 r2 s)]],[(2,0,1)],[36,3,28,36,9]⟩)
def qnY (r:qR) (n n2:Int) (r2:qR) (s:qU):qR:=(gRow (gAt (gObj (qc2 (qc4 r n n2 r2 s)) 0) 0))
def qof (r:qR) (n n2:Int) (r2:qR) (s:qU):Int:=(gInt (gAt (gObj (qc2 (qc4 r n n2 r2 s)) 1) 0))
def qi5 (r:qR) (n n2:Int) (r2:qR) (s:qU):Int:=(gInt (gAt (gObj (qc2 (qc4 r n n2 r2 s)) 2) 0))
def qhD (r:qR) (n n2:Int) (r2:qR) (s:qU):qR:=(gRow (gAt (gObj (qc2 (qc4 r n n2 r2 s)) 3) 0))
def qoI (r:qR) (n n2:Int) (r2:qR) (s:qU):qU:=(gStr (gAt (gObj (qc2 (qc4 r n n2 r2 s)) 4) 0))
def qoO (r:qR) (n n2:Int) (r2:qR) (s:qU):Nat:=(gTok (qc2 (qc4 r n n2 r2 s)) 1)
def qoH (r:qR) (n n2:Int) (r2:qR) (s:qU):Bool:=isW (qc4 r n n2 r2 s) (.tup [],⟨[[.sl (qnY r n n2 r2 s) .full],[.int .i64 (qof r n n2 r2 s)],[.int .i64 (qi5 r n n2 r2 s)],[.sl (qhD r n n2 r2 s) (.tok 1)],[.str (qoI r n n2 r2 s)]],[(0,0,1),((qoO r n n2 r2 s),6,44)],[36,3,28,36,9]⟩)
def qoW (r:qR) (n n2:Int) (r2:qR) (s:qU):qR:=(gRow (gAt (gObj (qc2 (qc4 r n n2 r2 s)) 0) 0))
def qoL (r:qR) (n n2:Int) (r2:qR) (s:qU):Int:=(gInt (gAt (gObj (qc2 (qc4 r n n2 r2 s)) 1) 0))
def qku (r:qR) (n n2:Int) (r2:qR) (s:qU):Int:=(gInt (gAt (gObj (qc2 (qc4 r n n2 r2 s)) 2) 0))
def qg2 (r:qR) (n n2:Int) (r2:qR) (s:qU):qR:=(gRow (gAt (gObj (qc2 (qc4 r n n2 r2 s)) 3) 0))
def qoo (r:qR) (n n2:Int) (r2:qR) (s:qU):qU:=(gStr (gAt (gObj (qc2 (qc4 r n n2 r2 s)) 4) 0))
def qnW (r:qR) (n n2:Int) (r2:qR) (s:qU):Bool:=isW (qc4 r n n2 r2 s) (.tup [],⟨[[.sl (qoW r n n2 r2 s) .full],[.int .i64 (qoL r n n2 r2 s)],[.int .i64 (qku r n n2 r2 s)],[.sl (qg2 r n n2 r2 s) .full],[.str (qoo r n n2 r2 s)]],[(0,0,1)],[36,3,28,36,9]⟩)
def qlg (r:qR) (n n2:Int) (r2:qR) (s:qU):qR:=(gRow (gAt (gObj (qc2 (qc4 r n n2 r2 s)) 0) 0))
def qlk (r:qR) (n n2:Int) (r2:qR) (s:qU):Int:=(gInt (gAt (gObj (qc2 (qc4 r n n2 r2 s)) 1) 0))
def qgF (r:qR) (n n2:Int) (r2:qR) (s:qU):Int:=(gInt (gAt (gObj (qc2 (qc4 r n n2 r2 s)) 2) 0))
def qjx (r:qR) (n n2:Int) (r2:qR) (s:qU):qR:=(gRow (gAt (gObj (qc2 (qc4 r n n2 r2 s)) 3) 0))
def qox (r:qR) (n n2:Int) (r2:qR) (s:qU):qU:=(gStr (gAt (gObj (qc2 (qc4 r n n2 r2 s)) 4) 0))
def qn2 (r:qR) (n n2:Int) (r2:qR) (s:qU):Nat:=(gTok (qc2 (qc4 r n n2 r2 s)) 1)
def qoC (r:qR) (n n2:Int) (r2:qR) (s:qU):Bool:=isW (qc4 r n n2 r2 s) (.tup [],⟨[[.sl (qlg r n n2 r2 s) .full],[.int .i64 (qlk r n n2 r2 s)],[.int .i64 (qgF r n n2 r2 s)],[.sl (qjx r n n2 r2 s) (.tok 1)],[.str (qox r n n2 r2 s)]],[(2,0,1),((qn2 r n n2 r2 s),6,44)],[36,3,28,36,9]⟩)
def qJ3:List PV→Store→Tr (PV×Store)|[.yld 0,.ptr 4 0],⟨[[.sl r .full],[.int .i64 n],[.int .i64 n2],[.sl r2 .full],[.str s]],[(0,0,1)],[36,3,28,36,9]⟩=>.ite (qoN r n n2 r2 s) (.ret (.tup [],⟨[[.sl (qkI r n n2 r2 s) .full],[.int .i64 (qkO r n n2 r2 s)],[.int .i64 (qgU r n n2 r2 s)],[.sl (qjG r n n2 r2 s) .full],[.str (qow r n n2 r2 s)]],[(2,0,1)],[36,3,28,36,9]⟩)) (.ite (qoH r n n2 r2 s) (.ret (.tup [],⟨[[.sl (qnY r n n2 r2 s) .full],[.int .i64 (qof r n n2 r2 s)],[.int .i64 (qi5 r n n2 r2 s)],[.sl (qhD r n n2 r2 s) (.tok 1)],[.str (qoI r n n2 r2 s)]],[(0,0,1),((qoO r n n2 r2 s),6,44)],[36,3,28,36,9]⟩)) (.ite (qnW r n n2 r2 s) (.ret (.tup [],⟨[[.sl (qoW r n n2 r2 s) .full],[.int .i64 (qoL r n n2 r2 s)],[.int .i64 (qku r n n2 r2 s)],[.sl (qg2 r n n2 r2 s) .full],[.str (qoo r n n2 r2 s)]],[(0,0,1)],[36,3,28,36,9]⟩)) (.ite (qoC r n n2 r2 s) (.ret (.tup [],⟨[[.sl (qlg r n n2 r2 s) .full],[.int .i64 (qlk r n n2 r2 s)],[.int .i64 (qgF r n n2 r2 s)],[.sl (qjx r n n2 r2 s) (.tok 1)],[.str (qox r n n2 r2 s)]],[(2,0,1),((qn2 r n n2 r2 s),6,44)],[36,3,28,36,9]⟩)) (.fail))))|_,_=>.fail
theorem qM0 (gl:Gl) (hg:GlLex gl) (hy:qpo Tryz.prog gl qdY (.yld 1 fun t a σ=>(qs8 t a σ).run)):SimS Tryz.prog gl 158 fun args σ=>(qJ3 args σ).run:=by
 refine SimS.of_flat (G:=qE0) (L:=qNC) qai (qHQ gl hg hy ) qah Tryz.func158 rfl (by rfl) (by kernel_rfl) (qax (L:=lps qNC) [(1,qzY)] (by kernel_rfl) (List.forall_mem_cons.2 ⟨fun fr σ e fr' σ' h=>qGZ gl hg hy  fr σ e fr' σ' h,(List.forall_mem_nil _)⟩)) ?_
 intro args σ x h;unfold qJ3 at h
 split at h
 ·exact (congrArg Tr.run (qQv _ _ _ _ _)).trans (qae h fun h=>qae h fun h=>qae h fun h=>qae h fun h=>by cases h)
 ·cases h
end Go.Pv
set_option maxHeartbeats 4000000
set_option maxRecDepth 200000
set_option linter.unusedSimpArgs false
set_option linter.unusedVariables false
namespace Go.Pv
open Go Go.Proofs Go.RowKit
theorem qAG (gl:Gl) (hg:GlLex gl):∀ fr σ e fr' σ',(rorc qw2 (rngG qjH) 158 qJ3 fr σ).run=some (e,fr',σ')→Does Tryz.prog gl (rngO qjH) fr σ e fr' σ' :=
 qOM (G:=ofL []) (L:=fun _ _ _=>.fail) qai (fun _ _=>qag) qah (fun _ _=>qac (by kernel_rfl)) (fun _ _=>qac (by kernel_rfl)) (by kernel_rfl) (by kernel_rfl) (by kernel_rfl)
  ⟨Tryz.f158,Tryz.func158,by rfl,by rfl⟩ (fun gl' hv hy=>qM0 gl' (hg.of_v hv) hy)
end Go.Pv
set_option maxHeartbeats 4000000
set_option maxRecDepth 200000
set_option linter.unusedSimpArgs false
set_option linter.unusedVariables false
namespace Go.Pv
open Go Go.Proofs
def qxn:GamT:=ofL []
theorem qFf (gl:Gl):qam Tryz.prog gl (gam qxn):=qag
def qCT:LpsT:=fun r fr σ=>.fail
def qss (s:qU):Tr (PV×Store):=.ret (.fn 158 [.ptr 4 0],Store.mk [[.sl [] .full],[.int .i64 0],[.int .i64 0],[.sl [] .full],[.str s]] [] [36,3,28,36,9])
theorem qKG (s:qU):(qt1 tbT qxn qCT Tryz.f135 [.str s] ⟨[[.sl [] .full],[.int .i64 0],[.int .i64 0],[.sl [] .full]],[],[36,3,28,36]⟩).flat=qss s:=by kernel_rfl
def qft (s:qU):Option (PV×Store):=(qss s).run
def qjc (s:qU):qR:=(gRow (gAt (gObj (qc2 (qft s)) 0) 0))
def qjk (s:qU):Int:=(gInt (gAt (gObj (qc2 (qft s)) 1) 0))
def qgl (s:qU):Int:=(gInt (gAt (gObj (qc2 (qft s)) 2) 0))
def qfZ (s:qU):qR:=(gRow (gAt (gObj (qc2 (qft s)) 3) 0))
def qjN (s:qU):qU:=(gStr (gAt (gObj (qc2 (qft s)) 4) 0))
def qjD (s:qU):Bool:=isW (qft s) (.fn 158 [.ptr 4 0],⟨[[.sl (qjc s) .full],[.int .i64 (qjk s)],[.int .i64 (qgl s)],[.sl (qfZ s) .full],[.str (qjN s)]],[],[36,3,28,36,9]⟩)
def qwk:List PV→Store→Tr (PV×Store)|[.str s],⟨[[.sl [] .full],[.int .i64 0],[.int .i64 0],[.sl [] .full]],[],[36,3,28,36]⟩=>.ite (qjD s) (.ret (.fn 158 [.ptr 4 0],⟨[[.sl (qjc s) .full],[.int .i64 (qjk s)],[.int .i64 (qgl s)],[.sl (qfZ s) .full],[.str (qjN s)]],[],[36,3,28,36,9]⟩)) (.fail)|_,_=>.fail
theorem qEn (gl:Gl):SimS Tryz.prog gl 135 fun args σ=>(qwk args σ).run:=by
 refine SimS.of_flat (G:=qxn) (L:=qCT) qai (qFf gl ) qah Tryz.func135 rfl (by rfl) (by kernel_rfl) (qac (by kernel_rfl)) ?_
 intro args σ x h;unfold qwk at h
 split at h
 ·exact (congrArg Tr.run (qKG _)).trans (qae h fun h=>by cases h)
 ·cases h
def qwZ:GamT:=ofL [(135,.store qwk),(qAw+0,.glob qIY)]
theorem qFC (gl:Gl) (hg:GlLex gl):qam Tryz.prog gl (gam qwZ):=(qdx (qEn gl) (qcO (K:=.glob qIY) (qDY hg) qag))
def qw8:LpsT:=fun r fr σ=>if r=500007 then rorc qw2 (rngG qjH) 158 qJ3 fr σ else .fail
def qmr (s:qU):Tr PV:=let z1:=qjc s;let z2:=qjk s;let z3:=qgl s;let z4:=qfZ s;let z5:=qjN s;.ite (iLt 65536 (sLen s)) (.ret (.tup [.sl [] .non,.int .i64 0,.int .i64 2])) (.ite (qjD s) (.ite (qoN z1 z2 z3 z4 z5) (.ret (.tup [.sl (qaa (qca 0 (qkI z1 z2 z3 z4 z5))) .non,.int .i64 (qkO z1 z2 z3 z4 z5),.int .i64 (qgU z1 z2 z3 z4 z5)])) (.ite (qoH z1 z2 z3 z4 z5) (.ret (.tup [.sl (qaa (qca 0 (qhD z1 z2 z3 z4 z5))) .non,.int .i64 0,.int .i64 0])) (.ite (qnW z1 z2 z3 z4 z5) (.ret (.tup [.sl (qaa (qca 0 (qg2 z1 z2 z3 z4 z5))) .non,.int .i64 0,.int .i64 0])) (.ite (qoC z1 z2 z3 z4 z5) (.ret (.tup [.sl (qaa (qca 0 (qlg z1 z2 z3 z4 z5))) .non,.int .i64 (qlk z1 z2 z3 z4 z5),.int .i64 (qgF z1 z2 z3 z4 z5)])) .fail)))) .fail)
theorem qKg (s:qU):(tcall tbT qwZ qw8 Tryz.f82 [.str s]).flat=qmr s:=by kernel_rfl
def qef (s:qU):Option PV:=(qmr s).run
def qjn (s:qU):qR:=(gRow (gAt (gCs (gVal (qef s))) 0))
def qje (s:qU):Int:=(gInt (gAt (gCs (gVal (qef s))) 1))
def qf5 (s:qU):Int:=(gInt (gAt (gCs (gVal (qef s))) 2))
def qgt (s:qU):Bool:=isW (qef s) (.tup [.sl (qjn s) .non,.int .i64 (qje s),.int .i64 (qf5 s)])
def qaH:List PV→Tr PV|[.str s]=>.ite (qgt s) (.ret (.tup [.sl (qjn s) .non,.int .i64 (qje s),.int .i64 (qf5 s)])) (.fail)|_=>.fail
theorem qu4 (gl:Gl) (hg:GlLex gl):SimP Tryz.prog gl 82 fun args=>(qaH args).run:=by
 refine SimP.of_flat (G:=qwZ) (L:=qw8) qai (qFC gl hg ) qah  Tryz.func82 rfl (by rfl) (by kernel_rfl) (qwS (L:=lps qw8) [] [(500007,rngO qjH)] (by kernel_rfl) (by kernel_rfl) (List.forall_mem_nil _) (List.forall_mem_cons.2 ⟨fun fr σ e fr' σ' h=>qAG gl hg fr σ e fr' σ' h,(List.forall_mem_nil _)⟩)) ?_
 intro args x h;unfold qaH at h
 split at h
 ·exact (congrArg Tr.run (qKg _)).trans (qae h fun h=>by cases h)
 ·cases h
end Go.Pv
set_option linter.unusedSimpArgs false
set_option linter.unusedVariables false
namespace Go.Pv
open Go.RowKit
section
variable {P : Program} {gl : Gl} {f : FuncId}
theorem SimS.or {D1 D2 E:List PV→Store→Option (PV×Store)} (h1:SimS P gl f D1) (h2:SimS P gl f D2) (h:∀ args σ x σ',E args σ=some (x,σ')→D1 args σ=some (x,σ')∨D2 args σ=some (x,σ')):SimS P gl f E :=
 ⟨h1.ent,fun args σ x σ' hx=>(h args σ x σ' hx).elim (fun e=>h1.run args σ x σ' e) (fun e=>h2.run args σ x σ' e)⟩
theorem SimP.or {F1 F2 E:List PV→Option PV} (h1:SimP P gl f F1) (h2:SimP P gl f F2) (h:∀ args x,E args=some x→F1 args=some x∨F2 args=some x):SimP P gl f E :=
 ⟨h1.ent,fun args x hx=>(h args x hx).elim (fun e=>h1.run args x e) (fun e=>h2.run args x e)⟩
end
end Go.Pv
set_option maxHeartbeats 4000000
set_option maxRecDepth 200000
set_option linter.unusedVariables false
set_option linter.unusedSimpArgs false
namespace Go.Pv
open Go Go.Proofs
def G_ca:GamT:=ofL []
theorem qpb (gl:Gl):qam Tryz.prog gl (gam G_ca):=qag
def c_ca:Code:=(Tryz.f84.body).getD .skip
theorem qLk (gl:Gl) (o0:List PV) (n:Int) (rc:List PV) (T0:TypeId):DefOk Tryz.prog gl 84 [.ptr 1 0,.ptr 2 0] .ret ⟨[o0,[.int .i64 n],[.int .i64 0],rc],[],[T0,3,28,138]⟩ .ret ⟨[o0,[.int .i64 n],[.int .i64 0],rc],[],[T0,3,28,138]⟩ :=
 DefOk.of_recover (i0:=0) (ops:=qav (sq1 c_ca)) (c:=sq2 c_ca) (d0:=7) (d1:=4) (o0:=opAt (sq1 c_ca) 0) (o1:=opAt (sq1 c_ca) 1) (y:=.nili) (e:=.ret) qai (qpb gl) Tryz.func84 (by rfl) (by kernel_rfl) (by rfl) (by kernel_rfl) (by kernel_rfl) (by kernel_rfl) (by kernel_rfl) (by kernel_rfl) (by kernel_rfl) (by kernel_rfl) (by decide) (.inl ⟨rfl,rfl⟩) (.inr rfl) (by kernel_rfl)
theorem qDg (gl:Gl) (o0:List PV) (n at_:Int) (rc:List PV) (T0:TypeId) (hw:(Lit.int .i64 at_).wf=true):DefOk Tryz.prog gl 84 [.ptr 1 0,.ptr 2 0] (.pan (.iface 172 (.agg [.int .i64 at_]))) ⟨[o0,[.int .i64 n],[.int .i64 0],rc],[],[T0,3,28,138]⟩ .ret ⟨[o0,[.int .i64 at_],[.int .i64 130],rc,[.int .i64 at_]],[],[T0,3,28,138,172]⟩ :=
 DefOk.of_recover (i0:=0) (ops:=qav (sq1 c_ca)) (c:=sq2 c_ca) (d0:=7) (d1:=4) (o0:=opAt (sq1 c_ca) 0) (o1:=opAt (sq1 c_ca) 1) (y:=.iface 172 (.agg [.int .i64 at_])) (e:=.normal) qai (qpb gl) Tryz.func84 (by rfl) (by kernel_rfl) (by rfl) (by kernel_rfl) (by kernel_rfl) (by kernel_rfl) (by kernel_rfl) (by kernel_rfl) (by kernel_rfl) (by kernel_rfl) (by decide) (.inr ⟨rfl,qMe hw⟩) (.inl rfl) (by kernel_rfl)
def qu5:Option PV→Bool
 |some (.tup [.sl _ .non,.int .i64 _,.int .i64 e])=>e != 0
 |_=>false
def qkC (z:List PV):Option (PR×Store)→Option PV
 |some (.pan (.iface 172 (.agg [.int .i64 at_])),⟨_::_,_,138::_⟩)=>match (Lit.int .i64 at_).wf with
  |true=>some (.tup [.agg z,.int .i64 at_,.int .i64 130])
  |false=>none
 |_=>none
theorem qhB {z:List PV} {q:Option (PR×Store)} {x:PV} (h:qkC z q=some x):∃ at_ c' os tk ts,q=some (.pan (.iface 172 (.agg [.int .i64 at_])),⟨c'::os,tk,138::ts⟩)∧(Lit.int .i64 at_).wf=true∧x=.tup [.agg z,.int .i64 at_,.int .i64 130]:=by
 unfold qkC at h
 split at h
 ·split at h
  ·rename_i hw;simp only [Option.some.injEq] at h
   exact⟨_,_,_,_,_,rfl,hw,h.symm⟩
  ·cases h
 ·cases h
theorem qL8 (gl:Gl) (o0:List PV) (n:Int) (rc:List PV):DefOk Tryz.prog gl 83 ([]++[.ptr 2 0,.ptr 0 0]) .ret ⟨[o0,[.int .i64 n],[.int .i64 0],rc],[],[27,3,28,138]⟩ .ret ⟨[o0,[.int .i64 n],[.int .i64 0],rc],[],[27,3,28,138]⟩ :=
 DefOk.of_quiet (e:=.normal) qai (qpb gl) Tryz.func83 (by rfl) (by kernel_rfl) (by rfl) (.inl rfl) (by kernel_rfl)
theorem qNv (gl:Gl) (a b c:qR) (at_:Int) (rc x:List PV):DefOk Tryz.prog gl 83 ([]++[.ptr 2 0,.ptr 0 0]) .ret ⟨[[.sl a .non,.sl b .non,.sl c .non],[.int .i64 at_],[.int .i64 130],rc,x],[],[27,3,28,138,172]⟩ .ret ⟨[[.sl [] .full,.sl [] .full,.sl [] .full],[.int .i64 at_],[.int .i64 130],rc,x,[.sl [] .full,.sl [] .full,.sl [] .full]],[],[27,3,28,138,172,27]⟩ :=
 DefOk.of_quiet (e:=.normal) qai (qpb gl) Tryz.func83 (by rfl) (by kernel_rfl) (by rfl) (.inl rfl) (by kernel_rfl)
theorem qJl (gl:Gl) (at_:Int) (rc x:List PV):DefOk Tryz.prog gl 83 ([]++[.ptr 2 0,.ptr 0 0]) .ret ⟨[[.sl [] .full,.sl [] .full,.sl [] .full],[.int .i64 at_],[.int .i64 130],rc,x],[],[27,3,28,138,172]⟩ .ret ⟨[[.sl [] .full,.sl [] .full,.sl [] .full],[.int .i64 at_],[.int .i64 130],rc,x,[.sl [] .full,.sl [] .full,.sl [] .full]],[],[27,3,28,138,172,27]⟩ :=
 DefOk.of_quiet (e:=.normal) qai (qpb gl) Tryz.func83 (by rfl) (by kernel_rfl) (by rfl) (.inl rfl) (by kernel_rfl)
def G_wP:GamT:=ofL [(82,.pure qaH),(34,.may (frameT qlO)),(85,.may (frameT qed)),(qc6,.flag)]
theorem qzQ (gl:Gl) (hg:GlLex gl):qam Tryz.prog gl (gam G_wP):=qaf (qu4 gl hg) (qaj (SimM.frameT (qOT gl)) (qaj (SimM.frameT (qoh gl)) (qbp qag)))
def c_wP:Code:=(Tryz.f33.body).getD .skip
def kP2:Code:=sq2 (sq2 c_wP)
def kP3:Code:=sq2 kP2
def kP6:Code:=sq2 (sq2 kP3)
def kP8:Code:=sq2 (sq2 kP6)
theorem qO5:Tryz.f33.body=some (.seq (.region 0 (qav (sq1 c_wP)) false) (.seq (.region 1 (qav (sq1 (sq2 c_wP))) false) (.seq (.seq (.region 2 (qav (sq1 (sq1 kP2))) false) (.cond (.tmp 16) (.seq (.region 3 (qav (sq1 (sq1 (sq2 (sq1 kP2))))) true) .ret) .skip)) (.seq (sq1 kP3) (.seq (sq1 (sq2 kP3)) (.seq (sq1 kP6) (.seq (.region 7 (qav (sq1 (sq2 kP6))) false) (.seq (.seq (.region 8 (qav (sq1 (sq1 kP8))) false) (.cond (.tmp 36) (.region 9 (qav (sq1 (sq2 (sq1 kP8)))) false) .skip)) (sq2 kP8))))))))):=by kernel_rfl
section
variable (s : List UInt8) (r : List (List PV)) (n e : Int)
def f0P:List PV:=[.str s,.fn 34 []]++List.replicate 38 .top
def fAP:List PV:=(((f0P s).set 4 (.ptr 0 0)).set 5 (.ptr 1 0)).set 6 (.ptr 2 0)
def owP:PV:=.tup [.sl r .non,.int .i64 n,.int .i64 e]
def fBP:List PV:=(((((((fAP s).set 10 (.str s)).set 11 (owP r n e)).set 9 (owP r n e)).set 12 (.sl r .non)).set 13 (.int .i64 n)).set 14 (.int .i64 e)).set 7 (.sl r .non)
def fCP (b:Bool):List PV:=((fBP s r n e).set 15 (.int .i64 e)).set 16 (.bool b)
def fEP (b:Bool):List PV:=(((fCP s r n e b).set 17 (.agg [.sl [] .full,.sl [] .full,.sl [] .full])).set 18 (.int .i64 n)).set 19 (.int .i64 e)
def sBP:Store:=⟨[[.sl [] .full,.sl [] .full,.sl [] .full],[.int .i64 n],[.int .i64 e]],[],[27,3,28]⟩
theorem wP_0:dexec tbT (gam G_wP) (.region 0 (qav (sq1 c_wP)) false) (f0P s) ⟨[],[],[]⟩ []=some (.normal,fAP s,sBP 0 0,[]):=by kernel_rfl
theorem qQA:pops tbT (gam G_wP) (qav (sq1 c_wP)).toList (qav (sq1 c_wP)).toList (f0P s) ⟨[],[],[]⟩=some (fAP s,sBP 0 0):=by kernel_rfl
variable (hw : (qaH [.str s]).run = some (.tup [.sl r .non, .int .i64 n, .int .i64 e]))
include hw
theorem wP_c:pop tbT (gam G_wP) ((fAP s).set 10 (.str s)) (sBP 0 0) (opAt (sq1 (sq2 c_wP)) 1)=some (owP r n e,sBP 0 0):=by
 have h:pop tbT (gam G_wP) ((fAP s).set 10 (.str s)) (sBP 0 0) (opAt (sq1 (sq2 c_wP)) 1)=(qaH [.str s]).run.map fun x=>(x,sBP 0 0):=by kernel_rfl
 rw [h,hw];rfl
theorem wP_1:dops tbT (gam G_wP) (qav (sq1 (sq2 c_wP))).toList (qav (sq1 (sq2 c_wP))).toList (fAP s) (sBP 0 0) []=some (.ok (fBP s r n e) (sBP n e) []):=by
 have h0:(qav (sq1 (sq2 c_wP))).toList=opAt (sq1 (sq2 c_wP)) 0::opAt (sq1 (sq2 c_wP)) 1::(qav (sq1 (sq2 c_wP))).toList.drop 2:=by kernel_rfl
 have h1:dop tbT (gam G_wP) ((fAP s).set 10 (.str s)) (sBP 0 0) [] (opAt (sq1 (sq2 c_wP)) 1)=dfin (gam G_wP) ((fAP s).set 10 (.str s)) (sBP 0 0) [] (opAt (sq1 (sq2 c_wP)) 1) (pop tbT (gam G_wP) ((fAP s).set 10 (.str s)) (sBP 0 0) (opAt (sq1 (sq2 c_wP)) 1)):=by kernel_rfl
 rw [wP_c s r n e hw] at h1
 conv=>lhs;arg 4;rw [h0]
 rw [qbE (fr':=(fAP s).set 10 (.str s)) (σ':=sBP 0 0) (pd':=[]) (by kernel_rfl) (by kernel_rfl),qbE (fr':=((fAP s).set 10 (.str s)).set 11 (owP r n e)) (σ':=sBP 0 0) (pd':=[]) (by kernel_rfl) (h1.trans (by kernel_rfl))]
 kernel_rfl
theorem qQj:pops tbT (gam G_wP) (qav (sq1 (sq2 c_wP))).toList (qav (sq1 (sq2 c_wP))).toList (fAP s) (sBP 0 0)=some (fBP s r n e,sBP n e):=by
 have h0:(qav (sq1 (sq2 c_wP))).toList=opAt (sq1 (sq2 c_wP)) 0::opAt (sq1 (sq2 c_wP)) 1::(qav (sq1 (sq2 c_wP))).toList.drop 2:=by kernel_rfl
 conv=>lhs;arg 4;rw [h0]
 rw [qm4 (x:=.str s) (σ':=sBP 0 0) (by kernel_rfl) (by kernel_rfl)]
 refine (qm4 (x:=owP r n e) (σ':=sBP 0 0) (by kernel_rfl) (wP_c s r n e hw)).trans ?_
 kernel_rfl
end
section
variable (s : List UInt8) (r : List (List PV)) (n e : Int)
theorem qQw:pops tbT (gam G_wP) (qav (sq1 (sq1 kP2))).toList (qav (sq1 (sq1 kP2))).toList (fBP s r n e) (sBP n e)=some (fCP s r n e (e != 0),sBP n e):=by kernel_rfl
def r3P:Code:=sq1 (sq1 (sq2 (sq1 kP2)))
theorem wP_3 (b:Bool):qh3 tbT (gam G_wP) (qav r3P).toList (qav r3P).toList 0 [] (fCP s r n e b) (sBP n e)=some (.ok (fEP s r n e b) (sBP n e)):=by
 have h0:(qav r3P).toList=[opAt r3P 0,opAt r3P 1,opAt r3P 2,opAt r3P 3,opAt r3P 4,opAt r3P 5]:=by kernel_rfl
 conv=>lhs;arg 4;rw [h0]
 refine (qbl (x:=.agg [.sl [] .full,.sl [] .full,.sl [] .full]) (σ':=sBP n e) (by kernel_rfl) (by kernel_rfl) (fun h=>absurd h (by rw [show writes (gam G_wP) (opAt r3P 0)=false from by kernel_rfl];simp))).trans ?_
 refine (qbl (x:=.int .i64 n) (σ':=sBP n e) (by kernel_rfl) (by kernel_rfl) (fun h=>absurd h (by rw [show writes (gam G_wP) (opAt r3P 1)=false from by kernel_rfl];simp))).trans ?_
 refine (qbl (x:=.int .i64 e) (σ':=sBP n e) (by kernel_rfl) (by kernel_rfl) (fun h=>absurd h (by rw [show writes (gam G_wP) (opAt r3P 2)=false from by kernel_rfl];simp))).trans ?_
 refine (qbl (x:=.top) (σ':=sBP n e) (by kernel_rfl) (by kernel_rfl) (fun _=>?_)).trans ?_
 ·exact qfT (l':=[(2,2),(1,1),(0,0)]) (by kernel_rfl) ⟨.inr rfl,.inr rfl,.inr rfl,trivial⟩
 refine (qbl (x:=.top) (σ':=sBP n e) (by kernel_rfl) (by kernel_rfl) (fun _=>?_)).trans ?_
 ·exact qfT (l':=[(2,2),(1,1),(0,0)]) (by kernel_rfl) ⟨.inr rfl,.inr rfl,.inr rfl,trivial⟩
 refine (qbl (x:=.top) (σ':=sBP n e) (by kernel_rfl) (by kernel_rfl) (fun _=>?_)).trans ?_
 ·exact qfT (l':=[(2,2),(1,1),(0,0)]) (by kernel_rfl) ⟨.inr rfl,.inr rfl,.inr rfl,trivial⟩
 kernel_rfl
theorem qKL (gl:Gl) (hg:GlLex gl) (hw:(qaH [.str s]).run=some (.tup [.sl r .non,.int .i64 n,.int .i64 e])) (he:(e != 0)=true):Does Tryz.prog gl c_wP (f0P s) ⟨[],[],[]⟩ .ret (fEP s r n e (e != 0)) (sBP n e):=by
 rw [show c_wP=_ from congrArg (·.getD .skip) qO5]
 exact Does.seqN (Does.reg qai (qzQ gl hg) (qQA s)) (Does.seqN (Does.reg qai (qzQ gl hg) (qQj s r n e hw)) (Does.seqR (Does.seqN (Does.reg qai (qzQ gl hg) (qQw s r n e)) (Does.condT (by rw [he];rfl) (Does.seqN (Does.regD qai (qzQ gl hg) qah (by kernel_rfl) (wP_3 s r n e _)) Does.ret)))))
def f4P:List PV:=(fCP s r n 0 false).set 20 (.fn 83 [.ptr 2 0,.ptr 0 0])
def d1P:List PD:=[(83,[],[.ptr 2 0,.ptr 0 0])]
def d2P:List PD:=(84,[.ptr 1 0,.ptr 2 0],[])::d1P
def f6P:List PV:=(((((((f4P s r n).set 21 (.sl r .non)).set 22 (.agg [.sl r .non])).set 23 (.str s)).set 24 (.int .i64 s.length)).set 25 (.agg [.sl r .non,.int .i64 s.length])).set 26 (.ptr 3 0)).set 8 (.ptr 3 0)
def s6P (z:List PV) (rc:List PV):Store:=⟨[z,[.int .i64 n],[.int .i64 0],rc],[],[27,3,28,138]⟩
theorem wP_2:dexec tbT (gam G_wP) (.seq (.region 2 (qav (sq1 (sq1 kP2))) false) (.cond (.tmp 16) (.seq (.region 3 (qav (sq1 (sq1 (sq2 (sq1 kP2))))) true) .ret) .skip)) (fBP s r n 0) (sBP n 0) []=some (.normal,fCP s r n 0 false,sBP n 0,[]):=by kernel_rfl
theorem wP_4:dexec tbT (gam G_wP) (sq1 kP3) (fCP s r n 0 false) (sBP n 0) []=some (.normal,f4P s r n,sBP n 0,d1P):=by kernel_rfl
theorem wP_5:dexec tbT (gam G_wP) (sq1 (sq2 kP3)) (f4P s r n) (sBP n 0) d1P=some (.normal,f4P s r n,sBP n 0,d2P):=by kernel_rfl
theorem wP_6:dexec tbT (gam G_wP) (sq1 kP6) (f4P s r n) (sBP n 0) d2P=some (.normal,f6P s r n,s6P n [.sl [] .full,.sl [] .full,.sl [] .full] [.sl r .non,.int .i64 s.length],d2P):=by kernel_rfl
def f7P:List PV:=((f6P s r n).set 27 (.fn 34 [])).set 28 (.ptr 3 0)
def o7P:Oper:=opAt (sq1 (sq2 kP6)) 2
theorem qQq:(qav (sq1 (sq2 kP6))).toList=opAt (sq1 (sq2 kP6)) 0::opAt (sq1 (sq2 kP6)) 1::o7P::(qav (sq1 (sq2 kP6))).toList.drop 3:=by kernel_rfl
theorem qPP:dop tbT (gam G_wP) (f7P s r n) (s6P n [.sl [] .full,.sl [] .full,.sl [] .full] [.sl r .non,.int .i64 s.length]) d2P o7P=dfin (gam G_wP) (f7P s r n) (s6P n [.sl [] .full,.sl [] .full,.sl [] .full] [.sl r .non,.int .i64 s.length]) d2P o7P (pop tbT (gam G_wP) (f7P s r n) (s6P n [.sl [] .full,.sl [] .full,.sl [] .full] [.sl r .non,.int .i64 s.length]) o7P):=by kernel_rfl
theorem qPj:pop tbT (gam G_wP) (f7P s r n) (s6P n [.sl [] .full,.sl [] .full,.sl [] .full] [.sl r .non,.int .i64 s.length]) o7P=qh6 (frameT qlO [.ptr 3 0] (s6P n [.sl [] .full,.sl [] .full,.sl [] .full] [.sl r .non,.int .i64 s.length])).run:=by kernel_rfl
theorem qQm:ppan (gam G_wP) (f7P s r n) (s6P n [.sl [] .full,.sl [] .full,.sl [] .full] [.sl r .non,.int .i64 s.length]) o7P=qmk (frameT qlO [.ptr 3 0] (s6P n [.sl [] .full,.sl [] .full,.sl [] .full] [.sl r .non,.int .i64 s.length])).run:=by kernel_rfl
theorem wP_7 {y:DR} (h:dop tbT (gam G_wP) (f7P s r n) (s6P n [.sl [] .full,.sl [] .full,.sl [] .full] [.sl r .non,.int .i64 s.length]) d2P o7P=some y):dops tbT (gam G_wP) (qav (sq1 (sq2 kP6))).toList (qav (sq1 (sq2 kP6))).toList (f6P s r n) (s6P n [.sl [] .full,.sl [] .full,.sl [] .full] [.sl r .non,.int .i64 s.length]) d2P=match y with
  |.ok fr' σ' pd'=>dops tbT (gam G_wP) (qav (sq1 (sq2 kP6))).toList ((qav (sq1 (sq2 kP6))).toList.drop 3) fr' σ' pd'
  |y=>some y:=by
 conv=>lhs;arg 4;rw [qQq]
 rw [qbE (fr':=(f6P s r n).set 27 (.fn 34 [])) (σ':=s6P n [.sl [] .full,.sl [] .full,.sl [] .full] [.sl r .non,.int .i64 s.length]) (pd':=d2P) (by kernel_rfl) (by kernel_rfl),qbE (fr':=f7P s r n) (σ':=s6P n [.sl [] .full,.sl [] .full,.sl [] .full] [.sl r .non,.int .i64 s.length]) (pd':=d2P) (by kernel_rfl) (by kernel_rfl)]
 cases y with
 |ok fr' σ' pd'=>exact qbE (by kernel_rfl) h
 |pan x fr' σ' pd'=>exact qlW (by kernel_rfl) h
theorem qLI {q:Option (PExit×List PV×Store×List PD)} (hw:(qaH [.str s]).run=some (.tup [.sl r .non,.int .i64 n,.int .i64 0]))
  (h:dexec tbT (gam G_wP) (.seq (.region 7 (qav (sq1 (sq2 kP6))) false) (.seq (.seq (.region 8 (qav (sq1 (sq1 kP8))) false) (.cond (.tmp 36) (.region 9 (qav (sq1 (sq2 (sq1 kP8)))) false) .skip)) (sq2 kP8))) (f6P s r n) (s6P n [.sl [] .full,.sl [] .full,.sl [] .full] [.sl r .non,.int .i64 s.length]) d2P=q):dexec tbT (gam G_wP) c_wP (f0P s) ⟨[],[],[]⟩ []=q:=by
 rw [show c_wP=_ from congrArg (·.getD .skip) qO5]
 exact (qaW (wP_0 s)).trans ((qaW (qdQ (wP_1 s r n 0 hw))).trans ((qaW (wP_2 s r n)).trans ((qaW (wP_4 s r n)).trans ((qaW (wP_5 s r n)).trans ((qaW (wP_6 s r n)).trans h)))))
theorem qO8 (hw:(qaH [.str s]).run=some (.tup [.sl r .non,.int .i64 n,.int .i64 0])) {y:PV} {c':List PV} {os:List (List PV)} {tk:List (Nat×Nat×TypeId)} {ts:List TypeId}
  (hv:(qlO [.ptr 0 0] ⟨[[.sl (qad r) .non,.int .i64 s.length]],[],[138]⟩).run=some (.pan y,⟨c'::os,tk,138::ts⟩)) :
  dexec tbT (gam G_wP) c_wP (f0P s) ⟨[],[],[]⟩ []=some (.pan y,f7P s r n,s6P n [.sl [] .full,.sl [] .full,.sl [] .full] (qa7 c'),d2P):=by
 have hf:(frameT qlO [.ptr 3 0] (s6P n [.sl [] .full,.sl [] .full,.sl [] .full] [.sl r .non,.int .i64 s.length])).run=some (.pan y,s6P n [.sl [] .full,.sl [] .full,.sl [] .full] (qa7 c')):=(qgf (D:=qlO) (args:=[.ptr 3 0]) (σ:=s6P n [.sl [] .full,.sl [] .full,.sl [] .full] [.sl r .non,.int .i64 s.length]) rfl rfl rfl hv).trans (by kernel_rfl)
 refine qLI s r n hw (qjA (qju ?_));refine wP_7 s r n (y:=.pan y (f7P s r n) (s6P n [.sl [] .full,.sl [] .full,.sl [] .full] (qa7 c')) d2P) ?_;rw [qPP,qPj,hf];simp only [qh6,dfin,qQm,hf,qmk,Option.map_some]
theorem qLz (hw:(qaH [.str s]).run=some (.tup [.sl r .non,.int .i64 n,.int .i64 0])) {a b c:List (List PV)} {r':List (List PV)} {m:Int}
  (hv:(qlO [.ptr 0 0] ⟨[[.sl (qad r) .non,.int .i64 s.length]],[],[138]⟩).run=some (.val (.agg [.sl a .non,.sl b .non,.sl c .non]),⟨[[.sl r' .non,.int .i64 m]],[],[138]⟩)) {q:Option (PExit×List PV×Store×List PD)}
  (h:dexec tbT (gam G_wP) (.seq (.seq (.region 8 (qav (sq1 (sq1 kP8))) false) (.cond (.tmp 36) (.region 9 (qav (sq1 (sq2 (sq1 kP8)))) false) .skip)) (sq2 kP8)) ((f7P s r n).set 29 (.agg [.sl (qaa a) .non,.sl (qaa b) .non,.sl (qaa c) .non])) (s6P n [.sl (qaa a) .non,.sl (qaa b) .non,.sl (qaa c) .non] [.sl (qaa r') .non,.int .i64 m]) d2P=q) :
  dexec tbT (gam G_wP) c_wP (f0P s) ⟨[],[],[]⟩ []=q:=by
 have hf:(frameT qlO [.ptr 3 0] (s6P n [.sl [] .full,.sl [] .full,.sl [] .full] [.sl r .non,.int .i64 s.length])).run=some (.val (.agg [.sl (qaa a) .non,.sl (qaa b) .non,.sl (qaa c) .non]),s6P n [.sl [] .full,.sl [] .full,.sl [] .full] [.sl (qaa r') .non,.int .i64 m]):=(qgf (D:=qlO) (args:=[.ptr 3 0]) (σ:=s6P n [.sl [] .full,.sl [] .full,.sl [] .full] [.sl r .non,.int .i64 s.length]) rfl rfl rfl hv).trans (by kernel_rfl)
 refine qLI s r n hw ((qaW (qdQ ?_)).trans h);refine (wP_7 s r n (y:=.ok ((f7P s r n).set 29 (.agg [.sl (qaa a) .non,.sl (qaa b) .non,.sl (qaa c) .non])) (s6P n [.sl [] .full,.sl [] .full,.sl [] .full] [.sl (qaa r') .non,.int .i64 m]) d2P) ?_).trans ?_
 ·rw [qPP,qPj,hf]
  kernel_rfl
 ·kernel_rfl
def f8P (fr:List PV) (rr:qR) (b:Bool):List PV:=((((((fr.set 30 (.ptr 3 0)).set 31 (.ptr 3 0)).set 32 (.ptr 3 0)).set 33 (.ptr 3 0)).set 34 (.sl rr .non)).set 35 (.int .i64 rr.length)).set 36 (.bool b)
variable  (a b c : List (List PV)) (rr : List (List PV)) (m : Int)
theorem wP_8:dops tbT (gam G_wP) (qav (sq1 (sq1 kP8))).toList (qav (sq1 (sq1 kP8))).toList ((f7P s r n).set 29 (.agg [.sl (qaa a) .non,.sl (qaa b) .non,.sl (qaa c) .non])) (s6P n [.sl (qaa a) .non,.sl (qaa b) .non,.sl (qaa c) .non] [.sl rr .non,.int .i64 m]) d2P=some (.ok (f8P ((f7P s r n).set 29 (.agg [.sl (qaa a) .non,.sl (qaa b) .non,.sl (qaa c) .non])) rr (decide ((rr.length:Int) > 0))) (s6P n [.sl (qaa a) .non,.sl (qaa b) .non,.sl (qaa c) .non] [.sl rr .non,.int .i64 m]) d2P):=by kernel_rfl
theorem qPH:dexec tbT (gam G_wP) (.seq (.seq (.region 8 (qav (sq1 (sq1 kP8))) false) (.cond (.tmp 36) (.region 9 (qav (sq1 (sq2 (sq1 kP8)))) false) .skip)) (sq2 kP8)) ((f7P s r n).set 29 (.agg [.sl (qaa a) .non,.sl (qaa b) .non,.sl (qaa c) .non])) (s6P n [.sl (qaa a) .non,.sl (qaa b) .non,.sl (qaa c) .non] [.sl [] .non,.int .i64 m]) d2P=some (.ret,(f8P ((f7P s r n).set 29 (.agg [.sl (qaa a) .non,.sl (qaa b) .non,.sl (qaa c) .non])) [] false).set 39 (.agg [.sl (qaa a) .non,.sl (qaa b) .non,.sl (qaa c) .non]),s6P 0 [.sl (qaa a) .non,.sl (qaa b) .non,.sl (qaa c) .non] [.sl [] .non,.int .i64 m],d2P):=by
 refine (qaW ((qaW (qdQ (wP_8 s r n a b c [] m))).trans (qsv (by kernel_rfl)))).trans ?_
 kernel_rfl
def o9P:Oper:=opAt (sq1 (sq2 (sq1 kP8))) 1
theorem qMI (x:List PV) {y:PV} {c':List PV} {os:List (List PV)} {tk:List (Nat×Nat×TypeId)} {ts:List TypeId} (hv:(qed [.ptr 0 0] ⟨[[.sl (qad (x::rr)) .non,.int .i64 m]],[],[138]⟩).run=some (.pan y,⟨c'::os,tk,138::ts⟩)) :
  dexec tbT (gam G_wP) (.seq (.seq (.region 8 (qav (sq1 (sq1 kP8))) false) (.cond (.tmp 36) (.region 9 (qav (sq1 (sq2 (sq1 kP8)))) false) .skip)) (sq2 kP8)) ((f7P s r n).set 29 (.agg [.sl (qaa a) .non,.sl (qaa b) .non,.sl (qaa c) .non])) (s6P n [.sl (qaa a) .non,.sl (qaa b) .non,.sl (qaa c) .non] [.sl (x::rr) .non,.int .i64 m]) d2P=some (.pan y,(f8P ((f7P s r n).set 29 (.agg [.sl (qaa a) .non,.sl (qaa b) .non,.sl (qaa c) .non])) (x::rr) true).set 37 (.ptr 3 0),s6P n [.sl (qaa a) .non,.sl (qaa b) .non,.sl (qaa c) .non] (qa7 c'),d2P):=by
 have hb:decide ((((x::rr).length:Nat):Int) > 0)=true:=by simp only [List.length_cons,decide_eq_true_eq];omega
 have hf:(frameT qed [.ptr 3 0] (s6P n [.sl (qaa a) .non,.sl (qaa b) .non,.sl (qaa c) .non] [.sl (x::rr) .non,.int .i64 m])).run=some (.pan y,s6P n [.sl (qaa a) .non,.sl (qaa b) .non,.sl (qaa c) .non] (qa7 c')):=(qgf (D:=qed) (args:=[.ptr 3 0]) (σ:=s6P n [.sl (qaa a) .non,.sl (qaa b) .non,.sl (qaa c) .non] [.sl (x::rr) .non,.int .i64 m]) rfl rfl rfl hv).trans (by kernel_rfl)
 have h8:=wP_8 s r n a b c (x::rr) m;rw [hb] at h8;have ho:(qav (sq1 (sq2 (sq1 kP8)))).toList=[opAt (sq1 (sq2 (sq1 kP8))) 0,o9P]:=by kernel_rfl
 refine qjA ((qaW (qdQ h8)).trans ((qr4 (by kernel_rfl)).trans (qju ?_)))
 conv=>lhs;arg 4;rw [ho]
 rw [qbE (fr':=(f8P ((f7P s r n).set 29 (.agg [.sl (qaa a) .non,.sl (qaa b) .non,.sl (qaa c) .non])) (x::rr) true).set 37 (.ptr 3 0)) (σ':=s6P n [.sl (qaa a) .non,.sl (qaa b) .non,.sl (qaa c) .non] [.sl (x::rr) .non,.int .i64 m]) (pd':=d2P) (by kernel_rfl) (by kernel_rfl)]
 refine qlW (by kernel_rfl) ?_
 have hd:dop tbT (gam G_wP) ((f8P ((f7P s r n).set 29 (.agg [.sl (qaa a) .non,.sl (qaa b) .non,.sl (qaa c) .non])) (x::rr) true).set 37 (.ptr 3 0)) (s6P n [.sl (qaa a) .non,.sl (qaa b) .non,.sl (qaa c) .non] [.sl (x::rr) .non,.int .i64 m]) d2P o9P=dfin (gam G_wP) ((f8P ((f7P s r n).set 29 (.agg [.sl (qaa a) .non,.sl (qaa b) .non,.sl (qaa c) .non])) (x::rr) true).set 37 (.ptr 3 0)) (s6P n [.sl (qaa a) .non,.sl (qaa b) .non,.sl (qaa c) .non] [.sl (x::rr) .non,.int .i64 m]) d2P o9P (qh6 (frameT qed [.ptr 3 0] (s6P n [.sl (qaa a) .non,.sl (qaa b) .non,.sl (qaa c) .non] [.sl (x::rr) .non,.int .i64 m])).run):=by kernel_rfl
 have hp:ppan (gam G_wP) ((f8P ((f7P s r n).set 29 (.agg [.sl (qaa a) .non,.sl (qaa b) .non,.sl (qaa c) .non])) (x::rr) true).set 37 (.ptr 3 0)) (s6P n [.sl (qaa a) .non,.sl (qaa b) .non,.sl (qaa c) .non] [.sl (x::rr) .non,.int .i64 m]) o9P=qmk (frameT qed [.ptr 3 0] (s6P n [.sl (qaa a) .non,.sl (qaa b) .non,.sl (qaa c) .non] [.sl (x::rr) .non,.int .i64 m])).run:=by kernel_rfl
 rw [hd,hf];simp only [qh6,dfin,hp,hf,qmk,Option.map_some]
end
def finP:Option (PR×Store)→Option PV
 |some (.val (.agg [.sl a .non,.sl b .non,.sl c .non]),⟨[[.sl r' .non,.int .i64 m]],[],[138]⟩)=>match qaa r' with
  |[]=>some (.tup [.agg [.sl (qaa (qaa a)) .non,.sl (qaa (qaa b)) .non,.sl (qaa (qaa c)) .non],.int .i64 0,.int .i64 0])
  |x::rr=>qkC [.sl [] .non,.sl [] .non,.sl [] .non] (qed [.ptr 0 0] ⟨[[.sl (qad (x::rr)) .non,.int .i64 m]],[],[138]⟩).run
 |q=>qkC [.sl [] .non,.sl [] .non,.sl [] .non] q
def outP (s:qU):Option PV:=match (qaH [.str s]).run with
 |some (.tup [.sl r .non,.int .i64 n,.int .i64 e])=>match e != 0 with
  |true=>some (.tup [.agg [.sl [] .non,.sl [] .non,.sl [] .non],.int .i64 n,.int .i64 e])
  |false=>finP (qlO [.ptr 0 0] ⟨[[.sl (qad r) .non,.int .i64 s.length]],[],[138]⟩).run
 |_=>none
def FwP:List PV→Option PV
 |[.str s,.fn 34 []]=>outP s
 |_=>none
def FwP1:List PV→Option PV
 |[.str s,.fn 34 []]=>match qu5 (qaH [.str s]).run with
  |true=>outP s
  |false=>none
 |_=>none
def FwP2:List PV→Option PV
 |[.str s,.fn 34 []]=>match qu5 (qaH [.str s]).run with
  |true=>none
  |false=>outP s
 |_=>none
theorem qMg (gl:Gl) (hg:GlLex gl):SimP Tryz.prog gl 33 FwP1:=by
 refine SimP.of_does qai Tryz.func33 (c:=c_wP) (by kernel_rfl) (by kernel_rfl) fun args x hx hrel=>?_
 clear hrel;unfold FwP1 at hx;split at hx
 ·rename_i s;split at hx
  ·rename_i hea;unfold outP at hx;split at hx
   ·rename_i r n e hw;have he:(e != 0)=true:=by rw [hw] at hea;exact hea
    rw [he] at hx;simp only [Option.some.injEq] at hx;subst hx;refine⟨.ret,fEP s r n e (e != 0),sBP n e,[.agg [.sl [] .full,.sl [] .full,.sl [] .full],.int .i64 n,.int .i64 e],.inr rfl,?_,by kernel_rfl,by kernel_rfl⟩
    rw [show [PV.str s,PV.fn 34 []]++List.replicate (Tryz.f33.ntmps - [PV.str s,PV.fn 34 []].length) PV.top=f0P s from by kernel_rfl]
    exact qKL s r n e gl hg hw he
   ·cases hx
  ·cases hx
 ·cases hx
theorem qOo (gl:Gl) (hg:GlLex gl):SimP Tryz.prog gl 33 FwP2:=by
 refine SimP.of_defer qai (qzQ gl hg) Tryz.func33 (c:=c_wP) (by kernel_rfl) (by kernel_rfl) fun args x hx=>?_
 unfold FwP2 at hx;split at hx
 ·rename_i s;split at hx
  ·cases hx
  rename_i hea;unfold outP at hx;split at hx
  ·rename_i r n e hw;have he:(e != 0)=false:=by rw [hw] at hea;exact hea
   rw [he] at hx;have he0:e=0:=by simpa using he
   subst he0;have hs:[PV.str s,PV.fn 34 []]++List.replicate (Tryz.f33.ntmps - [PV.str s,PV.fn 34 []].length) PV.top=f0P s:=by kernel_rfl
   rw [hs];simp only at hx;unfold finP at hx;split at hx
   ·rename_i a b c r' m hv;split at hx
    ·rename_i hr;simp only [Option.some.injEq] at hx;subst hx;refine⟨.ret,.ret,_,_,_,s6P 0 [.sl (qaa a) .non,.sl (qaa b) .non,.sl (qaa c) .non] [.sl [] .non,.int .i64 m],[.agg [.sl (qaa a) .non,.sl (qaa b) .non,.sl (qaa c) .non],.int .i64 0,.int .i64 0],qLz s r n hw hv (q:=some (.ret,(f8P ((f7P s r n).set 29 (.agg [.sl (qaa a) .non,.sl (qaa b) .non,.sl (qaa c) .non])) [] false).set 39 (.agg [.sl (qaa a) .non,.sl (qaa b) .non,.sl (qaa c) .non]),s6P 0 [.sl (qaa a) .non,.sl (qaa b) .non,.sl (qaa c) .non] [.sl [] .non,.int .i64 m],d2P)) (by rw [hr];exact qPH s r n a b c m),.inl ⟨rfl,rfl⟩,?_,by kernel_rfl,by kernel_rfl⟩
     exact .cons (qLk gl _ _ _ _) (.cons (qL8 gl _ _ _) (.nil _))
    ·rename_i x rr hr;obtain⟨at_,c',os,tk,ts,hb,hwf,rfl⟩:=qhB hx;refine⟨_,.pan (.iface 172 (.agg [.int .i64 at_])),_,_,_,⟨[[.sl [] .full,.sl [] .full,.sl [] .full],[.int .i64 at_],[.int .i64 130],qa7 c',[.int .i64 at_],[.sl [] .full,.sl [] .full,.sl [] .full]],[],[27,3,28,138,172,27]⟩,[.agg [.sl [] .full,.sl [] .full,.sl [] .full],.int .i64 at_,.int .i64 130],qLz s r n hw hv (q:=some (.pan (.iface 172 (.agg [.int .i64 at_])),(f8P ((f7P s r n).set 29 (.agg [.sl (qaa a) .non,.sl (qaa b) .non,.sl (qaa c) .non])) (x::rr) true).set 37 (.ptr 3 0),s6P n [.sl (qaa a) .non,.sl (qaa b) .non,.sl (qaa c) .non] (qa7 c'),d2P)) (by rw [hr];exact qMI s r n a b c rr m x hb),.inr ⟨_,rfl,rfl⟩,?_,by kernel_rfl,by kernel_rfl⟩
     exact .cons (qDg gl _ _ _ _ _ hwf) (.cons (qNv gl (qaa a) (qaa b) (qaa c) _ _ _) (.nil _))
   ·obtain⟨at_,c',os,tk,ts,hb,hwf,rfl⟩:=qhB hx;refine⟨_,.pan (.iface 172 (.agg [.int .i64 at_])),_,_,_,⟨[[.sl [] .full,.sl [] .full,.sl [] .full],[.int .i64 at_],[.int .i64 130],qa7 c',[.int .i64 at_],[.sl [] .full,.sl [] .full,.sl [] .full]],[],[27,3,28,138,172,27]⟩,[.agg [.sl [] .full,.sl [] .full,.sl [] .full],.int .i64 at_,.int .i64 130],qO8 s r n hw hb,.inr ⟨_,rfl,rfl⟩,?_,by kernel_rfl,by kernel_rfl⟩
    exact .cons (qDg gl _ _ _ _ _ hwf) (.cons (qJl gl _ _ _) (.nil _))
  ·cases hx
 ·cases hx
theorem qLl (gl:Gl) (hg:GlLex gl):SimP Tryz.prog gl 33 FwP:=by
 refine SimP.or (qMg gl hg) (qOo gl hg) fun args x hx=>?_
 unfold FwP at hx;split at hx
 ·rename_i s;cases he:qu5 (qaH [.str s]).run with
  |true=>exact .inl (by simp only [FwP1,he,hx])
  |false=>exact .inr (by simp only [FwP2,he,hx])
 ·cases hx
theorem qNW (gl:Gl) (o0:List PV) (n:Int) (rc:List PV):DefOk Tryz.prog gl 105 ([]++[.ptr 2 0,.ptr 0 0]) .ret ⟨[o0,[.int .i64 n],[.int .i64 0],rc],[],[51,3,28,138]⟩ .ret ⟨[o0,[.int .i64 n],[.int .i64 0],rc],[],[51,3,28,138]⟩ :=
 DefOk.of_quiet (e:=.normal) qai (qpb gl) Tryz.func105 (by rfl) (by kernel_rfl) (by rfl) (.inl rfl) (by kernel_rfl)
theorem qM5 (gl:Gl) (a:qU) (b c:qR) (at_:Int) (rc x:List PV):DefOk Tryz.prog gl 105 ([]++[.ptr 2 0,.ptr 0 0]) .ret ⟨[[.str a,.sl b .non,.sl c .non],[.int .i64 at_],[.int .i64 130],rc,x],[],[51,3,28,138,172]⟩ .ret ⟨[[.str [],.sl [] .full,.sl [] .full],[.int .i64 at_],[.int .i64 130],rc,x,[.str [],.sl [] .full,.sl [] .full]],[],[51,3,28,138,172,51]⟩ :=
 DefOk.of_quiet (e:=.normal) qai (qpb gl) Tryz.func105 (by rfl) (by kernel_rfl) (by rfl) (.inl rfl) (by kernel_rfl)
theorem qJ7 (gl:Gl) (at_:Int) (rc x:List PV):DefOk Tryz.prog gl 105 ([]++[.ptr 2 0,.ptr 0 0]) .ret ⟨[[.str [],.sl [] .full,.sl [] .full],[.int .i64 at_],[.int .i64 130],rc,x],[],[51,3,28,138,172]⟩ .ret ⟨[[.str [],.sl [] .full,.sl [] .full],[.int .i64 at_],[.int .i64 130],rc,x,[.str [],.sl [] .full,.sl [] .full]],[],[51,3,28,138,172,51]⟩ :=
 DefOk.of_quiet (e:=.normal) qai (qpb gl) Tryz.func105 (by rfl) (by kernel_rfl) (by rfl) (.inl rfl) (by kernel_rfl)
def G_wR:GamT:=ofL [(82,.pure qaH),(46,.may (frameT ql5)),(85,.may (frameT qed)),(qc6,.flag)]
theorem qyR (gl:Gl) (hg:GlLex gl):qam Tryz.prog gl (gam G_wR):=qaf (qu4 gl hg) (qaj (SimM.frameT (qOl gl)) (qaj (SimM.frameT (qoh gl)) (qbp qag)))
def c_wR:Code:=(Tryz.f45.body).getD .skip
def kR2:Code:=sq2 (sq2 c_wR)
def kR3:Code:=sq2 kR2
def kR6:Code:=sq2 (sq2 kR3)
def kR8:Code:=sq2 (sq2 kR6)
theorem qPf:Tryz.f45.body=some (.seq (.region 0 (qav (sq1 c_wR)) false) (.seq (.region 1 (qav (sq1 (sq2 c_wR))) false) (.seq (.seq (.region 2 (qav (sq1 (sq1 kR2))) false) (.cond (.tmp 16) (.seq (.region 3 (qav (sq1 (sq1 (sq2 (sq1 kR2))))) true) .ret) .skip)) (.seq (sq1 kR3) (.seq (sq1 (sq2 kR3)) (.seq (sq1 kR6) (.seq (.region 7 (qav (sq1 (sq2 kR6))) false) (.seq (.seq (.region 8 (qav (sq1 (sq1 kR8))) false) (.cond (.tmp 36) (.region 9 (qav (sq1 (sq2 (sq1 kR8)))) false) .skip)) (sq2 kR8))))))))):=by kernel_rfl
section
variable (s : List UInt8) (r : List (List PV)) (n e : Int)
def f0R:List PV:=[.str s,.fn 46 []]++List.replicate 38 .top
def fAR:List PV:=(((f0R s).set 4 (.ptr 0 0)).set 5 (.ptr 1 0)).set 6 (.ptr 2 0)
def owR:PV:=.tup [.sl r .non,.int .i64 n,.int .i64 e]
def fBR:List PV:=(((((((fAR s).set 10 (.str s)).set 11 (owR r n e)).set 9 (owR r n e)).set 12 (.sl r .non)).set 13 (.int .i64 n)).set 14 (.int .i64 e)).set 7 (.sl r .non)
def fCR (b:Bool):List PV:=((fBR s r n e).set 15 (.int .i64 e)).set 16 (.bool b)
def fER (b:Bool):List PV:=(((fCR s r n e b).set 17 (.agg [.str [],.sl [] .full,.sl [] .full])).set 18 (.int .i64 n)).set 19 (.int .i64 e)
def sBR:Store:=⟨[[.str [],.sl [] .full,.sl [] .full],[.int .i64 n],[.int .i64 e]],[],[51,3,28]⟩
theorem wR_0:dexec tbT (gam G_wR) (.region 0 (qav (sq1 c_wR)) false) (f0R s) ⟨[],[],[]⟩ []=some (.normal,fAR s,sBR 0 0,[]):=by kernel_rfl
theorem qQn:pops tbT (gam G_wR) (qav (sq1 c_wR)).toList (qav (sq1 c_wR)).toList (f0R s) ⟨[],[],[]⟩=some (fAR s,sBR 0 0):=by kernel_rfl
variable (hw : (qaH [.str s]).run = some (.tup [.sl r .non, .int .i64 n, .int .i64 e]))
include hw
theorem wR_c:pop tbT (gam G_wR) ((fAR s).set 10 (.str s)) (sBR 0 0) (opAt (sq1 (sq2 c_wR)) 1)=some (owR r n e,sBR 0 0):=by
 have h:pop tbT (gam G_wR) ((fAR s).set 10 (.str s)) (sBR 0 0) (opAt (sq1 (sq2 c_wR)) 1)=(qaH [.str s]).run.map fun x=>(x,sBR 0 0):=by kernel_rfl
 rw [h,hw];rfl
theorem wR_1:dops tbT (gam G_wR) (qav (sq1 (sq2 c_wR))).toList (qav (sq1 (sq2 c_wR))).toList (fAR s) (sBR 0 0) []=some (.ok (fBR s r n e) (sBR n e) []):=by
 have h0:(qav (sq1 (sq2 c_wR))).toList=opAt (sq1 (sq2 c_wR)) 0::opAt (sq1 (sq2 c_wR)) 1::(qav (sq1 (sq2 c_wR))).toList.drop 2:=by kernel_rfl
 have h1:dop tbT (gam G_wR) ((fAR s).set 10 (.str s)) (sBR 0 0) [] (opAt (sq1 (sq2 c_wR)) 1)=dfin (gam G_wR) ((fAR s).set 10 (.str s)) (sBR 0 0) [] (opAt (sq1 (sq2 c_wR)) 1) (pop tbT (gam G_wR) ((fAR s).set 10 (.str s)) (sBR 0 0) (opAt (sq1 (sq2 c_wR)) 1)):=by kernel_rfl
 rw [wR_c s r n e hw] at h1
 conv=>lhs;arg 4;rw [h0]
 rw [qbE (fr':=(fAR s).set 10 (.str s)) (σ':=sBR 0 0) (pd':=[]) (by kernel_rfl) (by kernel_rfl),qbE (fr':=((fAR s).set 10 (.str s)).set 11 (owR r n e)) (σ':=sBR 0 0) (pd':=[]) (by kernel_rfl) (h1.trans (by kernel_rfl))]
 kernel_rfl
theorem qP9:pops tbT (gam G_wR) (qav (sq1 (sq2 c_wR))).toList (qav (sq1 (sq2 c_wR))).toList (fAR s) (sBR 0 0)=some (fBR s r n e,sBR n e):=by
 have h0:(qav (sq1 (sq2 c_wR))).toList=opAt (sq1 (sq2 c_wR)) 0::opAt (sq1 (sq2 c_wR)) 1::(qav (sq1 (sq2 c_wR))).toList.drop 2:=by kernel_rfl
 conv=>lhs;arg 4;rw [h0]
 rw [qm4 (x:=.str s) (σ':=sBR 0 0) (by kernel_rfl) (by kernel_rfl)]
 refine (qm4 (x:=owR r n e) (σ':=sBR 0 0) (by kernel_rfl) (wR_c s r n e hw)).trans ?_
 kernel_rfl
end
section
variable (s : List UInt8) (r : List (List PV)) (n e : Int)
theorem qQg:pops tbT (gam G_wR) (qav (sq1 (sq1 kR2))).toList (qav (sq1 (sq1 kR2))).toList (fBR s r n e) (sBR n e)=some (fCR s r n e (e != 0),sBR n e):=by kernel_rfl
def r3R:Code:=sq1 (sq1 (sq2 (sq1 kR2)))
theorem wR_3 (b:Bool):qh3 tbT (gam G_wR) (qav r3R).toList (qav r3R).toList 0 [] (fCR s r n e b) (sBR n e)=some (.ok (fER s r n e b) (sBR n e)):=by
 have h0:(qav r3R).toList=[opAt r3R 0,opAt r3R 1,opAt r3R 2,opAt r3R 3,opAt r3R 4,opAt r3R 5]:=by kernel_rfl
 conv=>lhs;arg 4;rw [h0]
 refine (qbl (x:=.agg [.str [],.sl [] .full,.sl [] .full]) (σ':=sBR n e) (by kernel_rfl) (by kernel_rfl) (fun h=>absurd h (by rw [show writes (gam G_wR) (opAt r3R 0)=false from by kernel_rfl];simp))).trans ?_
 refine (qbl (x:=.int .i64 n) (σ':=sBR n e) (by kernel_rfl) (by kernel_rfl) (fun h=>absurd h (by rw [show writes (gam G_wR) (opAt r3R 1)=false from by kernel_rfl];simp))).trans ?_
 refine (qbl (x:=.int .i64 e) (σ':=sBR n e) (by kernel_rfl) (by kernel_rfl) (fun h=>absurd h (by rw [show writes (gam G_wR) (opAt r3R 2)=false from by kernel_rfl];simp))).trans ?_
 refine (qbl (x:=.top) (σ':=sBR n e) (by kernel_rfl) (by kernel_rfl) (fun _=>?_)).trans ?_
 ·exact qfT (l':=[(2,2),(1,1),(0,0)]) (by kernel_rfl) ⟨.inr rfl,.inr rfl,.inr rfl,trivial⟩
 refine (qbl (x:=.top) (σ':=sBR n e) (by kernel_rfl) (by kernel_rfl) (fun _=>?_)).trans ?_
 ·exact qfT (l':=[(2,2),(1,1),(0,0)]) (by kernel_rfl) ⟨.inr rfl,.inr rfl,.inr rfl,trivial⟩
 refine (qbl (x:=.top) (σ':=sBR n e) (by kernel_rfl) (by kernel_rfl) (fun _=>?_)).trans ?_
 ·exact qfT (l':=[(2,2),(1,1),(0,0)]) (by kernel_rfl) ⟨.inr rfl,.inr rfl,.inr rfl,trivial⟩
 kernel_rfl
theorem qJS (gl:Gl) (hg:GlLex gl) (hw:(qaH [.str s]).run=some (.tup [.sl r .non,.int .i64 n,.int .i64 e])) (he:(e != 0)=true):Does Tryz.prog gl c_wR (f0R s) ⟨[],[],[]⟩ .ret (fER s r n e (e != 0)) (sBR n e):=by
 rw [show c_wR=_ from congrArg (·.getD .skip) qPf]
 exact Does.seqN (Does.reg qai (qyR gl hg) (qQn s)) (Does.seqN (Does.reg qai (qyR gl hg) (qP9 s r n e hw)) (Does.seqR (Does.seqN (Does.reg qai (qyR gl hg) (qQg s r n e)) (Does.condT (by rw [he];rfl) (Does.seqN (Does.regD qai (qyR gl hg) qah (by kernel_rfl) (wR_3 s r n e _)) Does.ret)))))
def f4R:List PV:=(fCR s r n 0 false).set 20 (.fn 105 [.ptr 2 0,.ptr 0 0])
def d1R:List PD:=[(105,[],[.ptr 2 0,.ptr 0 0])]
def d2R:List PD:=(84,[.ptr 1 0,.ptr 2 0],[])::d1R
def f6R:List PV:=(((((((f4R s r n).set 21 (.sl r .non)).set 22 (.agg [.sl r .non])).set 23 (.str s)).set 24 (.int .i64 s.length)).set 25 (.agg [.sl r .non,.int .i64 s.length])).set 26 (.ptr 3 0)).set 8 (.ptr 3 0)
def s6R (z:List PV) (rc:List PV):Store:=⟨[z,[.int .i64 n],[.int .i64 0],rc],[],[51,3,28,138]⟩
theorem wR_2:dexec tbT (gam G_wR) (.seq (.region 2 (qav (sq1 (sq1 kR2))) false) (.cond (.tmp 16) (.seq (.region 3 (qav (sq1 (sq1 (sq2 (sq1 kR2))))) true) .ret) .skip)) (fBR s r n 0) (sBR n 0) []=some (.normal,fCR s r n 0 false,sBR n 0,[]):=by kernel_rfl
theorem wR_4:dexec tbT (gam G_wR) (sq1 kR3) (fCR s r n 0 false) (sBR n 0) []=some (.normal,f4R s r n,sBR n 0,d1R):=by kernel_rfl
theorem wR_5:dexec tbT (gam G_wR) (sq1 (sq2 kR3)) (f4R s r n) (sBR n 0) d1R=some (.normal,f4R s r n,sBR n 0,d2R):=by kernel_rfl
theorem wR_6:dexec tbT (gam G_wR) (sq1 kR6) (f4R s r n) (sBR n 0) d2R=some (.normal,f6R s r n,s6R n [.str [],.sl [] .full,.sl [] .full] [.sl r .non,.int .i64 s.length],d2R):=by kernel_rfl
def f7R:List PV:=((f6R s r n).set 27 (.fn 46 [])).set 28 (.ptr 3 0)
def o7R:Oper:=opAt (sq1 (sq2 kR6)) 2
theorem qQk:(qav (sq1 (sq2 kR6))).toList=opAt (sq1 (sq2 kR6)) 0::opAt (sq1 (sq2 kR6)) 1::o7R::(qav (sq1 (sq2 kR6))).toList.drop 3:=by kernel_rfl
theorem qPA:dop tbT (gam G_wR) (f7R s r n) (s6R n [.str [],.sl [] .full,.sl [] .full] [.sl r .non,.int .i64 s.length]) d2R o7R=dfin (gam G_wR) (f7R s r n) (s6R n [.str [],.sl [] .full,.sl [] .full] [.sl r .non,.int .i64 s.length]) d2R o7R (pop tbT (gam G_wR) (f7R s r n) (s6R n [.str [],.sl [] .full,.sl [] .full] [.sl r .non,.int .i64 s.length]) o7R):=by kernel_rfl
theorem qPd:pop tbT (gam G_wR) (f7R s r n) (s6R n [.str [],.sl [] .full,.sl [] .full] [.sl r .non,.int .i64 s.length]) o7R=qh6 (frameT ql5 [.ptr 3 0] (s6R n [.str [],.sl [] .full,.sl [] .full] [.sl r .non,.int .i64 s.length])).run:=by kernel_rfl
theorem qQf:ppan (gam G_wR) (f7R s r n) (s6R n [.str [],.sl [] .full,.sl [] .full] [.sl r .non,.int .i64 s.length]) o7R=qmk (frameT ql5 [.ptr 3 0] (s6R n [.str [],.sl [] .full,.sl [] .full] [.sl r .non,.int .i64 s.length])).run:=by kernel_rfl
theorem wR_7 {y:DR} (h:dop tbT (gam G_wR) (f7R s r n) (s6R n [.str [],.sl [] .full,.sl [] .full] [.sl r .non,.int .i64 s.length]) d2R o7R=some y):dops tbT (gam G_wR) (qav (sq1 (sq2 kR6))).toList (qav (sq1 (sq2 kR6))).toList (f6R s r n) (s6R n [.str [],.sl [] .full,.sl [] .full] [.sl r .non,.int .i64 s.length]) d2R=match y with
  |.ok fr' σ' pd'=>dops tbT (gam G_wR) (qav (sq1 (sq2 kR6))).toList ((qav (sq1 (sq2 kR6))).toList.drop 3) fr' σ' pd'
  |y=>some y:=by
 conv=>lhs;arg 4;rw [qQk]
 rw [qbE (fr':=(f6R s r n).set 27 (.fn 46 [])) (σ':=s6R n [.str [],.sl [] .full,.sl [] .full] [.sl r .non,.int .i64 s.length]) (pd':=d2R) (by kernel_rfl) (by kernel_rfl),qbE (fr':=f7R s r n) (σ':=s6R n [.str [],.sl [] .full,.sl [] .full] [.sl r .non,.int .i64 s.length]) (pd':=d2R) (by kernel_rfl) (by kernel_rfl)]
 cases y with
 |ok fr' σ' pd'=>exact qbE (by kernel_rfl) h
 |pan x fr' σ' pd'=>exact qlW (by kernel_rfl) h
theorem qLh {q:Option (PExit×List PV×Store×List PD)} (hw:(qaH [.str s]).run=some (.tup [.sl r .non,.int .i64 n,.int .i64 0]))
  (h:dexec tbT (gam G_wR) (.seq (.region 7 (qav (sq1 (sq2 kR6))) false) (.seq (.seq (.region 8 (qav (sq1 (sq1 kR8))) false) (.cond (.tmp 36) (.region 9 (qav (sq1 (sq2 (sq1 kR8)))) false) .skip)) (sq2 kR8))) (f6R s r n) (s6R n [.str [],.sl [] .full,.sl [] .full] [.sl r .non,.int .i64 s.length]) d2R=q):dexec tbT (gam G_wR) c_wR (f0R s) ⟨[],[],[]⟩ []=q:=by
 rw [show c_wR=_ from congrArg (·.getD .skip) qPf]
 exact (qaW (wR_0 s)).trans ((qaW (qdQ (wR_1 s r n 0 hw))).trans ((qaW (wR_2 s r n)).trans ((qaW (wR_4 s r n)).trans ((qaW (wR_5 s r n)).trans ((qaW (wR_6 s r n)).trans h)))))
theorem qP7 (hw:(qaH [.str s]).run=some (.tup [.sl r .non,.int .i64 n,.int .i64 0])) {y:PV} {c':List PV} {os:List (List PV)} {tk:List (Nat×Nat×TypeId)} {ts:List TypeId}
  (hv:(ql5 [.ptr 0 0] ⟨[[.sl (qad r) .non,.int .i64 s.length]],[],[138]⟩).run=some (.pan y,⟨c'::os,tk,138::ts⟩)) :
  dexec tbT (gam G_wR) c_wR (f0R s) ⟨[],[],[]⟩ []=some (.pan y,f7R s r n,s6R n [.str [],.sl [] .full,.sl [] .full] (qa7 c'),d2R):=by
 have hf:(frameT ql5 [.ptr 3 0] (s6R n [.str [],.sl [] .full,.sl [] .full] [.sl r .non,.int .i64 s.length])).run=some (.pan y,s6R n [.str [],.sl [] .full,.sl [] .full] (qa7 c')):=(qgf (D:=ql5) (args:=[.ptr 3 0]) (σ:=s6R n [.str [],.sl [] .full,.sl [] .full] [.sl r .non,.int .i64 s.length]) rfl rfl rfl hv).trans (by kernel_rfl)
 refine qLh s r n hw (qjA (qju ?_));refine wR_7 s r n (y:=.pan y (f7R s r n) (s6R n [.str [],.sl [] .full,.sl [] .full] (qa7 c')) d2R) ?_;rw [qPA,qPd,hf];simp only [qh6,dfin,qQf,hf,qmk,Option.map_some]
theorem qLu (hw:(qaH [.str s]).run=some (.tup [.sl r .non,.int .i64 n,.int .i64 0])) {a:List UInt8}{b c:List (List PV)} {r':List (List PV)} {m:Int}
  (hv:(ql5 [.ptr 0 0] ⟨[[.sl (qad r) .non,.int .i64 s.length]],[],[138]⟩).run=some (.val (.agg [.str a,.sl b .non,.sl c .non]),⟨[[.sl r' .non,.int .i64 m]],[],[138]⟩)) {q:Option (PExit×List PV×Store×List PD)}
  (h:dexec tbT (gam G_wR) (.seq (.seq (.region 8 (qav (sq1 (sq1 kR8))) false) (.cond (.tmp 36) (.region 9 (qav (sq1 (sq2 (sq1 kR8)))) false) .skip)) (sq2 kR8)) ((f7R s r n).set 29 (.agg [.str a,.sl (qaa b) .non,.sl (qaa c) .non])) (s6R n [.str a,.sl (qaa b) .non,.sl (qaa c) .non] [.sl (qaa r') .non,.int .i64 m]) d2R=q) :
  dexec tbT (gam G_wR) c_wR (f0R s) ⟨[],[],[]⟩ []=q:=by
 have hf:(frameT ql5 [.ptr 3 0] (s6R n [.str [],.sl [] .full,.sl [] .full] [.sl r .non,.int .i64 s.length])).run=some (.val (.agg [.str a,.sl (qaa b) .non,.sl (qaa c) .non]),s6R n [.str [],.sl [] .full,.sl [] .full] [.sl (qaa r') .non,.int .i64 m]):=(qgf (D:=ql5) (args:=[.ptr 3 0]) (σ:=s6R n [.str [],.sl [] .full,.sl [] .full] [.sl r .non,.int .i64 s.length]) rfl rfl rfl hv).trans (by kernel_rfl)
 refine qLh s r n hw ((qaW (qdQ ?_)).trans h);refine (wR_7 s r n (y:=.ok ((f7R s r n).set 29 (.agg [.str a,.sl (qaa b) .non,.sl (qaa c) .non])) (s6R n [.str [],.sl [] .full,.sl [] .full] [.sl (qaa r') .non,.int .i64 m]) d2R) ?_).trans ?_
 ·rw [qPA,qPd,hf]
  kernel_rfl
 ·kernel_rfl
def f8R (fr:List PV) (rr:qR) (b:Bool):List PV:=((((((fr.set 30 (.ptr 3 0)).set 31 (.ptr 3 0)).set 32 (.ptr 3 0)).set 33 (.ptr 3 0)).set 34 (.sl rr .non)).set 35 (.int .i64 rr.length)).set 36 (.bool b)
variable  (a : List UInt8) (b c : List (List PV)) (rr : List (List PV)) (m : Int)
theorem wR_8:dops tbT (gam G_wR) (qav (sq1 (sq1 kR8))).toList (qav (sq1 (sq1 kR8))).toList ((f7R s r n).set 29 (.agg [.str a,.sl (qaa b) .non,.sl (qaa c) .non])) (s6R n [.str a,.sl (qaa b) .non,.sl (qaa c) .non] [.sl rr .non,.int .i64 m]) d2R=some (.ok (f8R ((f7R s r n).set 29 (.agg [.str a,.sl (qaa b) .non,.sl (qaa c) .non])) rr (decide ((rr.length:Int) > 0))) (s6R n [.str a,.sl (qaa b) .non,.sl (qaa c) .non] [.sl rr .non,.int .i64 m]) d2R):=by kernel_rfl
theorem qPi:dexec tbT (gam G_wR) (.seq (.seq (.region 8 (qav (sq1 (sq1 kR8))) false) (.cond (.tmp 36) (.region 9 (qav (sq1 (sq2 (sq1 kR8)))) false) .skip)) (sq2 kR8)) ((f7R s r n).set 29 (.agg [.str a,.sl (qaa b) .non,.sl (qaa c) .non])) (s6R n [.str a,.sl (qaa b) .non,.sl (qaa c) .non] [.sl [] .non,.int .i64 m]) d2R=some (.ret,(f8R ((f7R s r n).set 29 (.agg [.str a,.sl (qaa b) .non,.sl (qaa c) .non])) [] false).set 39 (.agg [.str a,.sl (qaa b) .non,.sl (qaa c) .non]),s6R 0 [.str a,.sl (qaa b) .non,.sl (qaa c) .non] [.sl [] .non,.int .i64 m],d2R):=by
 refine (qaW ((qaW (qdQ (wR_8 s r n a b c [] m))).trans (qsv (by kernel_rfl)))).trans ?_
 kernel_rfl
def o9R:Oper:=opAt (sq1 (sq2 (sq1 kR8))) 1
theorem qM2 (x:List PV) {y:PV} {c':List PV} {os:List (List PV)} {tk:List (Nat×Nat×TypeId)} {ts:List TypeId} (hv:(qed [.ptr 0 0] ⟨[[.sl (qad (x::rr)) .non,.int .i64 m]],[],[138]⟩).run=some (.pan y,⟨c'::os,tk,138::ts⟩)) :
  dexec tbT (gam G_wR) (.seq (.seq (.region 8 (qav (sq1 (sq1 kR8))) false) (.cond (.tmp 36) (.region 9 (qav (sq1 (sq2 (sq1 kR8)))) false) .skip)) (sq2 kR8)) ((f7R s r n).set 29 (.agg [.str a,.sl (qaa b) .non,.sl (qaa c) .non])) (s6R n [.str a,.sl (qaa b) .non,.sl (qaa c) .non] [.sl (x::rr) .non,.int .i64 m]) d2R=some (.pan y,(f8R ((f7R s r n).set 29 (.agg [.str a,.sl (qaa b) .non,.sl (qaa c) .non])) (x::rr) true).set 37 (.ptr 3 0),s6R n [.str a,.sl (qaa b) .non,.sl (qaa c) .non] (qa7 c'),d2R):=by
 have hb:decide ((((x::rr).length:Nat):Int) > 0)=true:=by simp only [List.length_cons,decide_eq_true_eq];omega
 have hf:(frameT qed [.ptr 3 0] (s6R n [.str a,.sl (qaa b) .non,.sl (qaa c) .non] [.sl (x::rr) .non,.int .i64 m])).run=some (.pan y,s6R n [.str a,.sl (qaa b) .non,.sl (qaa c) .non] (qa7 c')):=(qgf (D:=qed) (args:=[.ptr 3 0]) (σ:=s6R n [.str a,.sl (qaa b) .non,.sl (qaa c) .non] [.sl (x::rr) .non,.int .i64 m]) rfl rfl rfl hv).trans (by kernel_rfl)
 have h8:=wR_8 s r n a b c (x::rr) m;rw [hb] at h8;have ho:(qav (sq1 (sq2 (sq1 kR8)))).toList=[opAt (sq1 (sq2 (sq1 kR8))) 0,o9R]:=by kernel_rfl
 refine qjA ((qaW (qdQ h8)).trans ((qr4 (by kernel_rfl)).trans (qju ?_)))
 conv=>lhs;arg 4;rw [ho]
 rw [qbE (fr':=(f8R ((f7R s r n).set 29 (.agg [.str a,.sl (qaa b) .non,.sl (qaa c) .non])) (x::rr) true).set 37 (.ptr 3 0)) (σ':=s6R n [.str a,.sl (qaa b) .non,.sl (qaa c) .non] [.sl (x::rr) .non,.int .i64 m]) (pd':=d2R) (by kernel_rfl) (by kernel_rfl)]
 refine qlW (by kernel_rfl) ?_
 have hd:dop tbT (gam G_wR) ((f8R ((f7R s r n).set 29 (.agg [.str a,.sl (qaa b) .non,.sl (qaa c) .non])) (x::rr) true).set 37 (.ptr 3 0)) (s6R n [.str a,.sl (qaa b) .non,.sl (qaa c) .non] [.sl (x::rr) .non,.int .i64 m]) d2R o9R=dfin (gam G_wR) ((f8R ((f7R s r n).set 29 (.agg [.str a,.sl (qaa b) .non,.sl (qaa c) .non])) (x::rr) true).set 37 (.ptr 3 0)) (s6R n [.str a,.sl (qaa b) .non,.sl (qaa c) .non] [.sl (x::rr) .non,.int .i64 m]) d2R o9R (qh6 (frameT qed [.ptr 3 0] (s6R n [.str a,.sl (qaa b) .non,.sl (qaa c) .non] [.sl (x::rr) .non,.int .i64 m])).run):=by kernel_rfl
 have hp:ppan (gam G_wR) ((f8R ((f7R s r n).set 29 (.agg [.str a,.sl (qaa b) .non,.sl (qaa c) .non])) (x::rr) true).set 37 (.ptr 3 0)) (s6R n [.str a,.sl (qaa b) .non,.sl (qaa c) .non] [.sl (x::rr) .non,.int .i64 m]) o9R=qmk (frameT qed [.ptr 3 0] (s6R n [.str a,.sl (qaa b) .non,.sl (qaa c) .non] [.sl (x::rr) .non,.int .i64 m])).run:=by kernel_rfl
 rw [hd,hf];simp only [qh6,dfin,hp,hf,qmk,Option.map_some]
end
def finR:Option (PR×Store)→Option PV
 |some (.val (.agg [.str a,.sl b .non,.sl c .non]),⟨[[.sl r' .non,.int .i64 m]],[],[138]⟩)=>match qaa r' with
  |[]=>some (.tup [.agg [.str a,.sl (qaa (qaa b)) .non,.sl (qaa (qaa c)) .non],.int .i64 0,.int .i64 0])
  |x::rr=>qkC [.str [],.sl [] .non,.sl [] .non] (qed [.ptr 0 0] ⟨[[.sl (qad (x::rr)) .non,.int .i64 m]],[],[138]⟩).run
 |q=>qkC [.str [],.sl [] .non,.sl [] .non] q
def outR (s:qU):Option PV:=match (qaH [.str s]).run with
 |some (.tup [.sl r .non,.int .i64 n,.int .i64 e])=>match e != 0 with
  |true=>some (.tup [.agg [.str [],.sl [] .non,.sl [] .non],.int .i64 n,.int .i64 e])
  |false=>finR (ql5 [.ptr 0 0] ⟨[[.sl (qad r) .non,.int .i64 s.length]],[],[138]⟩).run
 |_=>none
def FwR:List PV→Option PV
 |[.str s,.fn 46 []]=>outR s
 |_=>none
def FwR1:List PV→Option PV
 |[.str s,.fn 46 []]=>match qu5 (qaH [.str s]).run with
  |true=>outR s
  |false=>none
 |_=>none
def FwR2:List PV→Option PV
 |[.str s,.fn 46 []]=>match qu5 (qaH [.str s]).run with
  |true=>none
  |false=>outR s
 |_=>none
theorem qN1 (gl:Gl) (hg:GlLex gl):SimP Tryz.prog gl 45 FwR1:=by
 refine SimP.of_does qai Tryz.func45 (c:=c_wR) (by kernel_rfl) (by kernel_rfl) fun args x hx hrel=>?_
 clear hrel;unfold FwR1 at hx;split at hx
 ·rename_i s;split at hx
  ·rename_i hea;unfold outR at hx;split at hx
   ·rename_i r n e hw;have he:(e != 0)=true:=by rw [hw] at hea;exact hea
    rw [he] at hx;simp only [Option.some.injEq] at hx;subst hx;refine⟨.ret,fER s r n e (e != 0),sBR n e,[.agg [.str [],.sl [] .full,.sl [] .full],.int .i64 n,.int .i64 e],.inr rfl,?_,by kernel_rfl,by kernel_rfl⟩
    rw [show [PV.str s,PV.fn 46 []]++List.replicate (Tryz.f45.ntmps - [PV.str s,PV.fn 46 []].length) PV.top=f0R s from by kernel_rfl]
    exact qJS s r n e gl hg hw he
   ·cases hx
  ·cases hx
 ·cases hx
theorem qON (gl:Gl) (hg:GlLex gl):SimP Tryz.prog gl 45 FwR2:=by
 refine SimP.of_defer qai (qyR gl hg) Tryz.func45 (c:=c_wR) (by kernel_rfl) (by kernel_rfl) fun args x hx=>?_
 unfold FwR2 at hx;split at hx
 ·rename_i s;split at hx
  ·cases hx
  rename_i hea;unfold outR at hx;split at hx
  ·rename_i r n e hw;have he:(e != 0)=false:=by rw [hw] at hea;exact hea
   rw [he] at hx;have he0:e=0:=by simpa using he
   subst he0;have hs:[PV.str s,PV.fn 46 []]++List.replicate (Tryz.f45.ntmps - [PV.str s,PV.fn 46 []].length) PV.top=f0R s:=by kernel_rfl
   rw [hs];simp only at hx;unfold finR at hx;split at hx
   ·rename_i a b c r' m hv;split at hx
    ·rename_i hr;simp only [Option.some.injEq] at hx;subst hx;refine⟨.ret,.ret,_,_,_,s6R 0 [.str a,.sl (qaa b) .non,.sl (qaa c) .non] [.sl [] .non,.int .i64 m],[.agg [.str a,.sl (qaa b) .non,.sl (qaa c) .non],.int .i64 0,.int .i64 0],qLu s r n hw hv (q:=some (.ret,(f8R ((f7R s r n).set 29 (.agg [.str a,.sl (qaa b) .non,.sl (qaa c) .non])) [] false).set 39 (.agg [.str a,.sl (qaa b) .non,.sl (qaa c) .non]),s6R 0 [.str a,.sl (qaa b) .non,.sl (qaa c) .non] [.sl [] .non,.int .i64 m],d2R)) (by rw [hr];exact qPi s r n a b c m),.inl ⟨rfl,rfl⟩,?_,by kernel_rfl,by kernel_rfl⟩
     exact .cons (qLk gl _ _ _ _) (.cons (qNW gl _ _ _) (.nil _))
    ·rename_i x rr hr;obtain⟨at_,c',os,tk,ts,hb,hwf,rfl⟩:=qhB hx;refine⟨_,.pan (.iface 172 (.agg [.int .i64 at_])),_,_,_,⟨[[.str [],.sl [] .full,.sl [] .full],[.int .i64 at_],[.int .i64 130],qa7 c',[.int .i64 at_],[.str [],.sl [] .full,.sl [] .full]],[],[51,3,28,138,172,51]⟩,[.agg [.str [],.sl [] .full,.sl [] .full],.int .i64 at_,.int .i64 130],qLu s r n hw hv (q:=some (.pan (.iface 172 (.agg [.int .i64 at_])),(f8R ((f7R s r n).set 29 (.agg [.str a,.sl (qaa b) .non,.sl (qaa c) .non])) (x::rr) true).set 37 (.ptr 3 0),s6R n [.str a,.sl (qaa b) .non,.sl (qaa c) .non] (qa7 c'),d2R)) (by rw [hr];exact qM2 s r n a b c rr m x hb),.inr ⟨_,rfl,rfl⟩,?_,by kernel_rfl,by kernel_rfl⟩
     exact .cons (qDg gl _ _ _ _ _ hwf) (.cons (qM5 gl a (qaa b) (qaa c) _ _ _) (.nil _))
   ·obtain⟨at_,c',os,tk,ts,hb,hwf,rfl⟩:=qhB hx;refine⟨_,.pan (.iface 172 (.agg [.int .i64 at_])),_,_,_,⟨[[.str [],.sl [] .full,.sl [] .full],[.int .i64 at_],[.int .i64 130],qa7 c',[.int .i64 at_],[.str [],.sl [] .full,.sl [] .full]],[],[51,3,28,138,172,51]⟩,[.agg [.str [],.sl [] .full,.sl [] .full],.int .i64 at_,.int .i64 130],qP7 s r n hw hb,.inr ⟨_,rfl,rfl⟩,?_,by kernel_rfl,by kernel_rfl⟩
    exact .cons (qDg gl _ _ _ _ _ hwf) (.cons (qJ7 gl _ _ _) (.nil _))
  ·cases hx
 ·cases hx
theorem qLO (gl:Gl) (hg:GlLex gl):SimP Tryz.prog gl 45 FwR:=by
 refine SimP.or (qN1 gl hg) (qON gl hg) fun args x hx=>?_
 unfold FwR at hx;split at hx
 ·rename_i s;cases he:qu5 (qaH [.str s]).run with
  |true=>exact .inl (by simp only [FwR1,he,hx])
  |false=>exact .inr (by simp only [FwR2,he,hx])
 ·cases hx
section
variable (s : List UInt8) (r : List (List PV)) (n e : Int)
variable (hw : (qaH [.str s]).run = some (.tup [.sl r .non, .int .i64 n, .int .i64 e]))
include hw
end
section
variable (s : List UInt8) (r : List (List PV)) (n e : Int)
variable  (a : List UInt8) (b : List (List PV)) (rr : List (List PV)) (m : Int)
end
end Go.Pv
set_option maxHeartbeats 4000000
set_option maxRecDepth 200000
set_option linter.unusedVariables false
set_option linter.unusedSimpArgs false
namespace Go.Pv
open Go Go.Proofs
def qKz (s:qU):qR:=gRow (gAt (gCs (gAt (gCs (gVal (outP s))) 0)) 0)
def qJG (s:qU):qR:=gRow (gAt (gCs (gAt (gCs (gVal (outP s))) 0)) 1)
def qKP (s:qU):qR:=gRow (gAt (gCs (gAt (gCs (gVal (outP s))) 0)) 2)
def wP_n (s:qU):Int:=gInt (gAt (gCs (gVal (outP s))) 1)
def wP_e (s:qU):Int:=gInt (gAt (gCs (gVal (outP s))) 2)
def qJg (s:qU):Bool:=isW (outP s) (.tup [.agg [.sl (qKz s) .non,.sl (qJG s) .non,.sl (qKP s) .non],.int .i64 (wP_n s),.int .i64 (wP_e s)])
def F_wP:List PV→Tr PV
 |[.str s,.fn 34 []]=>.ite (qJg s) (.ret (.tup [.agg [.sl (qKz s) .non,.sl (qJG s) .non,.sl (qKP s) .non],.int .i64 (wP_n s),.int .i64 (wP_e s)])) .fail
 |_=>.fail
theorem qJ8 (gl:Gl) (hg:GlLex gl):SimP Tryz.prog gl 33 fun args=>(F_wP args).run:=by
 refine⟨(qLl gl hg).ent,fun args x hx=>(qLl gl hg).run args x ?_⟩
 unfold F_wP at hx;split at hx
 ·exact qae hx fun h=>by cases h
 ·cases hx
def qKD (s:qU):qU:=gStr (gAt (gCs (gAt (gCs (gVal (outR s))) 0)) 0)
def qKr (s:qU):qR:=gRow (gAt (gCs (gAt (gCs (gVal (outR s))) 0)) 1)
def qKm (s:qU):qR:=gRow (gAt (gCs (gAt (gCs (gVal (outR s))) 0)) 2)
def wR_n (s:qU):Int:=gInt (gAt (gCs (gVal (outR s))) 1)
def wR_e (s:qU):Int:=gInt (gAt (gCs (gVal (outR s))) 2)
def qH1 (s:qU):Bool:=isW (outR s) (.tup [.agg [.str (qKD s),.sl (qKr s) .non,.sl (qKm s) .non],.int .i64 (wR_n s),.int .i64 (wR_e s)])
def F_wR:List PV→Tr PV
 |[.str s,.fn 46 []]=>.ite (qH1 s) (.ret (.tup [.agg [.str (qKD s),.sl (qKr s) .non,.sl (qKm s) .non],.int .i64 (wR_n s),.int .i64 (wR_e s)])) .fail
 |_=>.fail
theorem qJ1 (gl:Gl) (hg:GlLex gl):SimP Tryz.prog gl 45 fun args=>(F_wR args).run:=by
 refine⟨(qLO gl hg).ent,fun args x hx=>(qLO gl hg).run args x ?_⟩
 unfold F_wR at hx;split at hx
 ·exact qae hx fun h=>by cases h
 ·cases hx
end Go.Pv
set_option maxHeartbeats 4000000
set_option maxRecDepth 200000
set_option linter.unusedSimpArgs false
set_option linter.unusedVariables false
namespace Go.Pv
open Go Go.Proofs
def qA1:GamT:=ofL [(33,.pure F_wP)]
theorem qIL (gl:Gl) (hg:GlLex gl):qam Tryz.prog gl (gam qA1):=(qaf (qJ8 gl hg) qag)
def qHC:LpsT:=fun r fr σ=>.fail
def qvL (s:qU):Tr PV:=.ite (qJg s) (.ret (.tup [.agg [.sl (qaa (qKz s)) .non,.sl (qaa (qJG s)) .non,.sl (qaa (qKP s)) .non],.int .i64 (wP_n s),.int .i64 (wP_e s)])) .fail
theorem qOJ (s:qU):(tcall tbT qA1 qHC Tryz.f11 [.str s]).flat=qvL s:=by kernel_rfl
def qi2 (s:qU):Option PV:=(qvL s).run
def qdr (s:qU):qR:=(gRow (gAt (gCs (gAt (gCs (gVal (qi2 s))) 0)) 0))
def qbZ (s:qU):qR:=(gRow (gAt (gCs (gAt (gCs (gVal (qi2 s))) 0)) 1))
def qbW (s:qU):qR:=(gRow (gAt (gCs (gAt (gCs (gVal (qi2 s))) 0)) 2))
def qx3 (s:qU):Int:=(gInt (gAt (gCs (gVal (qi2 s))) 1))
def qd8 (s:qU):Int:=(gInt (gAt (gCs (gVal (qi2 s))) 2))
def qdK (s:qU):Bool:=isW (qi2 s) (.tup [.agg [.sl (qdr s) .non,.sl (qbZ s) .non,.sl (qbW s) .non],.int .i64 (qx3 s),.int .i64 (qd8 s)])
def qsg:List PV→Tr PV|[.str s]=>.ite (qdK s) (.ret (.tup [.agg [.sl (qdr s) .non,.sl (qbZ s) .non,.sl (qbW s) .non],.int .i64 (qx3 s),.int .i64 (qd8 s)])) (.fail)|_=>.fail
theorem qtq (gl:Gl) (hg:GlLex gl):SimP Tryz.prog gl 11 fun args=>(qsg args).run:=by
 refine SimP.of_flat (G:=qA1) (L:=qHC) qai (qIL gl hg ) qah  Tryz.func11 rfl (by rfl) (by kernel_rfl) (qac (by kernel_rfl)) ?_
 intro args x h;unfold qsg at h
 split at h
 ·exact (congrArg Tr.run (qOJ _)).trans (qae h fun h=>by cases h)
 ·cases h
def qAJ:GamT:=ofL [(45,.pure F_wR)]
theorem qF2 (gl:Gl) (hg:GlLex gl):qam Tryz.prog gl (gam qAJ):=(qaf (qJ1 gl hg) qag)
def qJa:LpsT:=fun r fr σ=>.fail
def qxa (s:qU):Tr PV:=.ite (qH1 s) (.ret (.tup [.agg [.str (qKD s),.sl (qaa (qKr s)) .non,.sl (qaa (qKm s)) .non],.int .i64 (wR_n s),.int .i64 (wR_e s)])) .fail
theorem qOp (s:qU):(tcall tbT qAJ qJa Tryz.f16 [.str s]).flat=qxa s:=by kernel_rfl
def qit (s:qU):Option PV:=(qxa s).run
def qrY (s:qU):qU:=(gStr (gAt (gCs (gAt (gCs (gVal (qit s))) 0)) 0))
def qwl (s:qU):qR:=(gRow (gAt (gCs (gAt (gCs (gVal (qit s))) 0)) 1))
def qlY (s:qU):qR:=(gRow (gAt (gCs (gAt (gCs (gVal (qit s))) 0)) 2))
def qBt (s:qU):Int:=(gInt (gAt (gCs (gVal (qit s))) 1))
def qmg (s:qU):Int:=(gInt (gAt (gCs (gVal (qit s))) 2))
def qmW (s:qU):Bool:=isW (qit s) (.tup [.agg [.str (qrY s),.sl (qwl s) .non,.sl (qlY s) .non],.int .i64 (qBt s),.int .i64 (qmg s)])
def qxc:List PV→Tr PV|[.str s]=>.ite (qmW s) (.ret (.tup [.agg [.str (qrY s),.sl (qwl s) .non,.sl (qlY s) .non],.int .i64 (qBt s),.int .i64 (qmg s)])) (.fail)|_=>.fail
theorem qy4 (gl:Gl) (hg:GlLex gl):SimP Tryz.prog gl 16 fun args=>(qxc args).run:=by
 refine SimP.of_flat (G:=qAJ) (L:=qJa) qai (qF2 gl hg ) qah  Tryz.func16 rfl (by rfl) (by kernel_rfl) (qac (by kernel_rfl)) ?_
 intro args x h;unfold qxc at h
 split at h
 ·exact (congrArg Tr.run (qOp _)).trans (qae h fun h=>by cases h)
 ·cases h
end Go.Pv
set_option linter.unusedSimpArgs false
set_option linter.unusedVariables false
namespace Go.Pv
end Go.Pv
set_option linter.unusedSimpArgs false
set_option linter.unusedVariables false
namespace Go.Pv
end Go.Pv
set_option maxHeartbeats 4000000
set_option linter.unusedSimpArgs false
set_option linter.unusedVariables false
namespace Go.Pv
open Go.RowKit
def swp (i k:Nat):Nat:=if k=i then i+1 else if k=i+1 then i else k
theorem qBX (i k:Nat):swp i (swp i k)=k:=by
 unfold swp
 repeat' split
 all_goals omega
theorem qLo {i k n:Nat} (hi:i+1 < n) (hk:k < n):swp i k < n:=by
 unfold swp
 repeat' split
 all_goals omega
theorem quD {i k:Nat} (h1:k≠i) (h2:k≠i+1):swp i k=k:=by
 unfold swp;rw [if_neg h1,if_neg h2]
def eA (i k:Nat) (o:Oper):Oper:=if k=i+1 then { o with after:=o.after.push ⟨i,.data⟩ } else o
def opsA (i:Nat) (ops:Array Oper):Array Oper:=ops.mapIdx fun k o=>eA i k o
def eB (i k:Nat) (o:Oper):Oper:={ o with after:=(o.after.map fun e=>{ e with on:=swp i e.on })++(if k=i+1 then #[⟨i,.data⟩] else #[]) }
def opsB (i:Nat) (ops:Array Oper):Array Oper:=ops.mapIdx fun k o=>eB i k ((ops[swp i k]?).getD o)
def qk5 (i:Nat) (ops:Array Oper):Bool:=ops.toList.all fun o=>match o.guard with
 |some (g,_)=>!Nat.beq g i&&!Nat.beq g (i+1)
 |none=>true
theorem atA (i:Nat) (ops:Array Oper) (k:Nat):(opsA i ops)[k]?=(ops[k]?).map (eA i k):=by
 unfold opsA;rw [Array.getElem?_mapIdx]
theorem atB {i:Nat} {ops:Array Oper} (hi:i+1 < ops.size) {k:Nat} {o:Oper} (h:ops[k]?=some o):(opsB i ops)[swp i k]?=some (eB i (swp i k) o):=by
 have hk:k < ops.size:=by
  have:=Array.getElem?_eq_some_iff.1 h;exact this.1
 unfold opsB;rw [Array.getElem?_mapIdx,Array.getElem?_eq_getElem (qLo hi hk),qBX,h];rfl
theorem qOi (i k:Nat) (o:Oper):∃ x,eA i k o={ o with after:=x }:=by
 unfold eA;split
 ·exact⟨_,rfl⟩
 ·exact⟨o.after,rfl⟩
theorem qAt (i:Nat) (ops:Array Oper):(opsA i ops).size=ops.size:=by simp [opsA]
theorem qtP (i:Nat) (ops:Array Oper):(opsB i ops).size=ops.size:=by simp [opsB]
theorem qvc {i:Nat} {ops:Array Oper} (h:qk5 i ops=true) {k:Nat} {o:Oper} (ho:ops[k]?=some o) {g:Nat} {b:Bool} (hg:o.guard=some (g,b)):g≠i∧g≠i+1:=by
 unfold qk5 at h
 rw [List.all_eq_true] at h
 have h1:=h o (by
  rw [Array.mem_toList_iff];exact Array.mem_of_getElem? ho)
 rw [hg] at h1;simp only [Bool.and_eq_true,Bool.not_eq_true'] at h1;exact⟨Nat.ne_of_beq_eq_false h1.1,Nat.ne_of_beq_eq_false h1.2⟩
theorem qcj {ops:Array Oper} {listed:Array Bool} (hs:listed.size=ops.size) {k:Nat}:k∈Region.ready .any ops listed↔∃ o,ops[k]?=some o∧¬ In listed k∧∀ e∈o.after.toList,Region.binds .any e=true→In listed e.on:=by
 unfold Region.ready;rw [List.mem_filter,List.mem_range];constructor
 ·rintro⟨hk,hk'⟩;have hb:k < listed.size:=by omega
  have e2:ops[k]?=some ops[k]:=Array.getElem?_eq_getElem hk;simp only [e2,Option.map_some,Option.getD_some,Bool.and_eq_true,Bool.not_eq_true'] at hk';obtain⟨hk1,hk2⟩:=hk';refine⟨_,e2,?_,?_⟩
  ·rw [Array.getD_eq_getD_getElem?,Array.getElem?_eq_getElem hb] at hk1;unfold In;rw [Array.getD_eq_getD_getElem?,Array.getElem?_eq_getElem hb];simpa using hk1
  ·intro e he hbd;have:=Array.all_eq_true'.1 hk2 e (Array.mem_toList_iff.1 he);simpa [hbd,In] using this
 ·rintro⟨o,ho,hn,he⟩;have hk:k < ops.size:=(Array.getElem?_eq_some_iff.1 ho).1;have hb:k < listed.size:=by omega
  refine⟨hk,?_⟩;simp only [ho,Option.map_some,Option.getD_some,Bool.and_eq_true,Bool.not_eq_true'];constructor
  ·unfold In at hn;rw [Array.getD_eq_getD_getElem?,Array.getElem?_eq_getElem hb] at hn ⊢;simpa using hn
  ·rw [Array.all_eq_true'];intro e hm;cases hbd:Region.binds .any e with
   |false=>rfl
   |true =>
    have:=he e (Array.mem_toList_iff.2 hm) hbd;simpa [In] using this
section
variable {F : Fence} {n : Nat} {P : Program} {Q : Exit → Act → World → Prop}
theorem qy9 {ops ops2:Array Oper} (hsz:ops2.size=ops.size) (π:Nat→Nat) (hπ:∀ k,π (π k)=k) (hlt:∀ k,k < ops.size→π k < ops.size) (j:Nat)
  (hop:∀ (K:Act→World→Prop) k a w,wpOpIn F n P ops2 Q (π k) K a w→wpOpIn F n P ops Q k K a w)
  (hr:∀ listed listed2:Array Bool,listed.size=ops.size→listed2.size=ops2.size→(∀ k,In listed2 (π k)↔In listed k)→In listed j→∀ k,(k∈Region.ready .any ops listed↔π k∈Region.ready .any ops2 listed2)) :
  ∀ (fuel:Nat) (listed listed2:Array Bool) (a:Act) (w:World),listed.size=ops.size→listed2.size=ops2.size→(∀ k,In listed2 (π k)↔In listed k)→In listed j→wpAnyIn F n P .any ops2 Q fuel listed2 a w→wpAnyIn F n P .any ops Q fuel listed a w:=by
 intro fuel
 induction fuel with
 |zero =>
  intro l l2 a w h1 h2 h3 h4 h;refine⟨List.eq_nil_iff_forall_not_mem.2 fun k hk=>?_,h.2⟩
  have:=(hr l l2 h1 h2 h3 h4 k).1 hk;rw [h.1] at this;cases this
 |succ fuel ih =>
  intro l l2 a w h1 h2 h3 h4 h;refine⟨fun hn=>h.1 (List.eq_nil_iff_forall_not_mem.2 fun k hk=>?_),fun k hk=>?_⟩
  ·have:=(hr l l2 h1 h2 h3 h4 (π k)).2 (by rw [hπ];exact hk)
   rw [hn] at this;cases this
  ·have hk2:=(hr l l2 h1 h2 h3 h4 k).1 hk;obtain⟨o,ho,_⟩:=(qcj h1).1 hk;have hkl:k < ops.size:=(Array.getElem?_eq_some_iff.1 ho).1;refine hop _ k a w (wpOpIn_mono (fun a' w' h'=>ih _ _ a' w' (by simp [h1]) (by simp [h2]) (fun m=>?_) ?_ h') (h.2 _ hk2))
   ·rw [qbs (by have:=hlt k hkl;omega),qbs (by omega),h3]
    constructor
    ·rintro (h|h)
     ·exact .inl (by rw [← hπ m,h,hπ])
     ·exact .inr h
    ·rintro (rfl|h)
     ·exact .inl rfl
     ·exact .inr h
   ·exact (qbs (by omega)).2 (.inr h4)
theorem qJN (i:Nat) (ops:Array Oper) (t:Array Value):yielded (opsA i ops) t=yielded ops t:=by
 funext g
 unfold yielded;rw [atA];cases h:ops[g]? with
 |none=>rfl
 |some o =>
  obtain⟨x,hx⟩:=qOi i g o;simp only [Option.map_some,Option.bind_some,hx]
theorem qJs {i:Nat} {ops:Array Oper} (hi:i+1 < ops.size) (t:Array Value) {g:Nat} (h1:g≠i) (h2:g≠i+1):yielded (opsB i ops) t g=yielded ops t g:=by
 unfold yielded;cases h:ops[g]? with
 |none =>
  have:(opsB i ops)[g]?=none:=by
   rw [Array.getElem?_eq_none_iff] at h ⊢;rw [qtP];exact h
  rw [this]
 |some o =>
  have:=atB hi h;rw [quD h1 h2] at this;rw [this];rfl
theorem opA (i:Nat) (ops:Array Oper) (K:Act→World→Prop) (k:Nat) (a:Act) (w:World) (h:wpOpIn F n P (opsA i ops) Q k K a w):wpOpIn F n P ops Q k K a w:=by
 unfold wpOpIn at h ⊢;rw [atA,qJN] at h
 cases ho:ops[k]? with
 |none=>rw [ho] at h;exact h
 |some o =>
  obtain⟨x,hx⟩:=qOi i k o;rw [ho] at h
  simp only [Option.map_some,hx] at h
  exact h
theorem opB {i:Nat} {ops:Array Oper} (hi:i+1 < ops.size) (hg:qk5 i ops=true) (K:Act→World→Prop) (k:Nat) (a:Act) (w:World) (h:wpOpIn F n P (opsB i ops) Q (swp i k) K a w):wpOpIn F n P ops Q k K a w:=by
 unfold wpOpIn at h ⊢;cases ho:ops[k]? with
 |none =>
  have hk:ops.size≤k:=by rwa [Array.getElem?_eq_none_iff] at ho
  have:(opsB i ops)[swp i k]?=none:=by
   rw [quD (by omega) (by omega),Array.getElem?_eq_none_iff,qtP]
   exact hk
  rw [this] at h
  exact h
 |some o =>
  rw [atB hi ho] at h
  have hw:Region.wanted (eB i (swp i k) o) (yielded (opsB i ops) a.tmps)=Region.wanted o (yielded ops a.tmps):=by
   unfold Region.wanted;have e:(eB i (swp i k) o).guard=o.guard:=rfl;rw [e];cases hgd:o.guard with
   |none=>rfl
   |some gb =>
    obtain⟨g,b⟩:=gb;obtain⟨h1,h2⟩:=qvc hg ho hgd;simp only [qJs hi a.tmps h1 h2]
  simp only [hw] at h
  exact h
theorem simA (i:Nat) (ops:Array Oper) (fuel:Nat) (listed:Array Bool) (a:Act) (w:World) (hs:listed.size=ops.size) (hin:In listed i) (h:wpAnyIn F n P .any (opsA i ops) Q fuel listed a w):wpAnyIn F n P .any ops Q fuel listed a w:=by
 refine qy9 (qAt i ops) id (fun _=>rfl) (fun _ h=>h) i (opA i ops) ?_ fuel listed listed a w hs (by rw [qAt,hs]) (fun _=>Iff.rfl) hin h
 intro l l2 h1 h2 h3 h4 k;have h3:∀ k,In l2 k↔In l k:=h3;rw [qcj h1,qcj h2];show _↔∃ o,(opsA i ops)[k]?=some o∧_
 rw [atA];constructor
 ·rintro⟨o,ho,hn,he⟩;refine⟨eA i k o,by rw [ho];rfl,fun h=>hn ((h3 k).1 h),fun e he' hb=>(h3 _).2 ?_⟩
  unfold eA at he';split at he'
  ·simp only [Array.toList_push,List.mem_append,List.mem_singleton] at he';rcases he' with he'|rfl
   ·exact he e he' hb
   ·exact h4
  ·exact he e he' hb
 ·rintro⟨o2,ho2,hn,he⟩;cases ho:ops[k]? with
  |none=>rw [ho] at ho2;cases ho2
  |some o =>
   rw [ho] at ho2;simp only [Option.map_some,Option.some.injEq] at ho2;subst ho2;refine⟨o,rfl,fun h=>hn ((h3 k).2 h),fun e he' hb=>(h3 _).1 (he e ?_ hb)⟩
   unfold eA;split
   ·simp only [Array.toList_push,List.mem_append];exact .inl he'
   ·exact he'
theorem simB {i:Nat} {ops:Array Oper} (hi:i+1 < ops.size) (hg:qk5 i ops=true) (fuel:Nat) (listed listed2:Array Bool) (a:Act) (w:World) (hs:listed.size=ops.size) (hs2:listed2.size=ops.size) (hin:In listed (i+1)) (hl:∀ k,In listed2 (swp i k)↔In listed k)
  (h:wpAnyIn F n P .any (opsB i ops) Q fuel listed2 a w):wpAnyIn F n P .any ops Q fuel listed a w:=by
 refine qy9 (qtP i ops) (swp i) (qBX i) (fun _ h=>qLo hi h) (i+1) (opB hi hg) ?_ fuel listed listed2 a w hs (by rw [qtP,hs2]) hl hin h
 intro l l2 h1 h2 h3 h4 k;have h5:In l2 i:=by
  have:=(h3 (i+1)).2 h4;simpa [swp] using this
 rw [qcj h1,qcj h2];constructor
 ·rintro⟨o,ho,hn,he⟩;refine⟨_,atB hi ho,fun h=>hn ((h3 k).1 h),fun e he' hb=>?_⟩
  simp only [eB,Array.toList_append,Array.toList_map,List.mem_append,List.mem_map] at he';rcases he' with⟨e0,he0,rfl⟩|he'
  ·exact (h3 _).2 (he e0 he0 hb)
  ·split at he'
   ·simp at he';subst he';exact h5
   ·simp at he'
 ·rintro⟨o2,ho2,hn,he⟩;cases ho:ops[k]? with
  |none =>
   have hk:ops.size≤k:=by rwa [Array.getElem?_eq_none_iff] at ho
   have:(opsB i ops)[swp i k]?=none:=by
    rw [quD (by omega) (by omega),Array.getElem?_eq_none_iff,qtP]
    exact hk
   rw [this] at ho2;cases ho2
  |some o =>
   rw [atB hi ho] at ho2;cases ho2
   refine⟨o,rfl,fun h=>hn ((h3 k).2 h),fun e he' hb=>(h3 _).1 (he { e with on:=swp i e.on } ?_ hb)⟩
   simp only [eB,Array.toList_append,Array.toList_map,List.mem_append,List.mem_map];exact .inl ⟨e,he',rfl⟩
end
section
variable {P : Program} {tb : Tab} {gl : Gl} {Γ : Gam} {H0 : Gh} {w0 : World} {Q : Exit → Act → World → Prop}
theorem qCE {b:Bool} {ops:List Oper} (hord:qbz b Γ ops=true) {F:Nat→List PV} {S:Nat→Store} {X:Nat→PV} (ht:Trace tb Γ ops ops F S X)
  (hfree:∀ (k i:Nat) (o:Oper),ops[k]?=some o→reads Γ o=true→qa9 b Γ o=false→i≤ops.length→pop tb Γ (F k) (S k) o=some (X k,S (k+1))→pop tb Γ (F k) (S i) o=some (X k,S i))
  {listed:Array Bool} {fr:List PV} {σ:Store} (hI:Inv Γ ops F S listed fr σ) {k:Nat} {o:Oper} (hko:ops[k]?=some o) (hb:k < listed.size) (hn:¬ In listed k) (he:∀ e∈o.after.toList,Region.binds .any e=true→In listed e.on) :
  ∃ x σ',((pwanted ops fr o=some false∧x=.tup []∧σ'=σ)∨(pwanted ops fr o=some true∧pop tb Γ fr σ o=some (x,σ')))∧Inv Γ ops F S (listed.setIfInBounds k true) (pput fr o.dst x) σ':=by
 obtain⟨hsee,hsto⟩:=hI.sees hord hko hn he;have hwan:pwanted ops fr o=pwanted ops (F k) o:=by
  unfold pwanted;cases hg:o.guard with
  |none=>rfl
  |some jb =>
   obtain⟨j,b⟩:=jb;simp only [];cases hd:(ops[j]?).bind (·.dst) with
   |none=>rfl
   |some d =>
    have:fr[d]?=(F k)[d]?:=hsee d (by simp [looks,hg,hd])
    simp only [Option.bind_some,this]
 have hpop:∀ s,pop tb Γ fr s o=pop tb Γ (F k) s o:=by
  intro s;refine qG4 fun x hx=>?_
  cases x with
  |tmp t =>
   have:fr[t]?=(F k)[t]?:=hsee t (by
    simp only [looks,List.mem_append,List.mem_filterMap];exact .inl ⟨_,hx,rfl⟩)
   simp only [ev,List.getD_eq_getElem?_getD,this]
  |const v=>rfl
  |global g=>rfl
  |func f=>rfl
 rcases (ht.at_ k o hko).1 with⟨hw,hx,hS⟩|⟨hw,hp⟩
 ·refine⟨.tup [],σ,.inl ⟨hwan.trans hw,rfl,rfl⟩,?_⟩;have:=hI.next hord ht hko hb hn he (σ':=σ) ⟨fun hwr=>?_,fun _=>rfl⟩
  ·rw [hx] at this;exact this
  ·rw [hS];exact hsto (by simp [qa9,hwr])
 ·cases hr:qa9 b Γ o with
  |true =>
   have hs':=hsto hr;have hp':pop tb Γ fr σ o=some (X k,S (k+1)):=by rw [hpop,hs'];exact hp
   refine⟨X k,S (k+1),.inr ⟨hwan.trans hw,hp'⟩,hI.next hord ht hko hb hn he ⟨fun _=>rfl,fun hwf=>?_⟩⟩
   rw [qeu hwf hp,hs']
  |false =>
   have hwf:writes Γ o=false:=by
    cases hwr:writes Γ o with
    |false=>rfl
    |true=>simp [qa9,hwr] at hr
   have hp':pop tb Γ fr σ o=some (X k,σ):=by
    rw [hpop];cases hr0:reads Γ o with
    |false=>exact qsz hr0 hp σ
    |true =>
     obtain⟨i,hi,rfl⟩:=hI.someS hord;exact hfree k i _ hko hr0 hr hi hp
   refine⟨X k,σ,.inr ⟨hwan.trans hw,hp'⟩,hI.next hord ht hko hb hn he ⟨fun h=>?_,fun _=>rfl⟩⟩
   rw [hwf] at h
   cases h
theorem qIm (n i:Nat):¬ In (Array.replicate n false) i:=by
 unfold In;rw [Array.getD_eq_getD_getElem?];by_cases hi:i < n
 ·simp [Array.getElem?_replicate,hi]
 ·simp [Array.getElem?_replicate,hi]
theorem inv0 {ops:List Oper} {F:Nat→List PV} {S:Nat→Store} {X:Nat→PV} (ht:Trace tb Γ ops ops F S X) (n:Nat):Inv Γ ops F S (Array.replicate n false) (F 0) (S 0) :=
 ⟨rfl,fun j o hj=>absurd hj (qIm n j),fun t i hi hlo hhi=>by
  rw [ht.still (i:=0) (j:=i) (Nat.zero_le _) hi (fun k o _ hk ho hd=>qIm n k (hlo k o hk ho hd))],fun i hi hlo hhi=>by
  rw [ht.stillS (i:=0) (j:=i) (Nat.zero_le _) hi (fun k o _ hk ho=>by
   cases hw:writes Γ o with
   |false=>rfl
   |true=>exact absurd (hlo k o hk ho hw) (qIm n k))]⟩
structure Told (tb:Tab) (Γ:Gam) (ops:Array Oper) (b:Bool) (F:Nat→List PV) (S:Nat→Store) (X:Nat→PV):Prop where
 ord:qbz b Γ ops.toList=true
 tr:Trace tb Γ ops.toList ops.toList F S X
 free:∀ (k i:Nat) (o:Oper),ops.toList[k]?=some o→reads Γ o=true→qa9 b Γ o=false→i≤ops.size→pop tb Γ (F k) (S k) o=some (X k,S (k+1))→pop tb Γ (F k) (S i) o=some (X k,S i)
theorem qHi {ops:Array Oper} {fr fr':List PV} {σ σ':Store} (h:pops tb Γ ops.toList ops.toList fr σ=some (fr',σ')) (hd:ordered Γ ops.toList=true∨(qbz true Γ ops.toList=true∧qdT Γ ops.toList fr' σ.objs.length=true)) :
  ∃ b F S X,Told tb Γ ops b F S X∧F 0=fr∧S 0=σ∧F ops.size=fr'∧S ops.size=σ':=by
 obtain⟨F,S,X,hF,hS,hF',hS',ht⟩:=qmv _ _ _ _ _ h;rcases hd with h1|⟨h1,h2⟩
 ·exact⟨false,F,S,X,⟨h1,ht,fun k i o hk hr hf=>by
   unfold reads at hr;rw [hf] at hr;cases hr⟩,hF,hS,by simpa using hF',by simpa using hS'⟩
 ·refine⟨true,F,S,X,⟨h1,ht,fun k i o hk hr hf hi hp=>qun ht ?_ k i o hk hr hf (by simpa using hi) hp⟩,hF,hS,by simpa using hF',by simpa using hS'⟩
  rw [hF',hS];exact h2
theorem qHd (hT:qaK P tb) (hΓ:qam P gl Γ) {ops:Array Oper} {i:Nat} (hi:i+1 < ops.size) (hg:qk5 i ops=true)
  {bA bB:Bool} {FA FB:Nat→List PV} {SA SB:Nat→Store} {XA XB:Nat→PV} (hA:Told tb Γ (opsA i ops) bA FA SA XA) (hB:Told tb Γ (opsB i ops) bB FB SB XB)
  (hqA:∀ a' w',St gl H0 w0 (FA ops.size) (SA ops.size) a' w'→Q .normal a' w') (hqB:∀ a' w',St gl H0 w0 (FB ops.size) (SB ops.size) a' w'→Q .normal a' w') :
  ∀ (fuel:Nat) (listed:Array Bool) (fr:List PV) (σ:Store) (a:Act) (w:World),listed.size=ops.size→listed.toList.count false≤fuel→¬ In listed i→¬ In listed (i+1)→Inv Γ (opsA i ops).toList FA SA listed fr σ→Inv Γ (opsB i ops).toList FB SB listed fr σ→St gl H0 w0 fr σ a w→∀ (r:Option Nat) (n:Nat),wpAnyIn (rnd r) n P .any ops Q fuel listed a w:=by
 have dA:∀ (fuel:Nat) (listed:Array Bool) (fr:List PV) (σ:Store) (a:Act) (w:World),listed.size=ops.size→listed.toList.count false≤fuel→Inv Γ (opsA i ops).toList FA SA listed fr σ→St gl H0 w0 fr σ a w→∀ (r:Option Nat) (n:Nat),wpAnyIn (rnd r) n P .any (opsA i ops) Q fuel listed a w :=
  fun fuel listed fr σ a w hs=>qsW hT hΓ hA.ord hA.tr hA.free (by rw [qAt];exact hqA) fuel listed fr σ a w (by rw [qAt];exact hs)
 have dB:∀ (fuel:Nat) (listed:Array Bool) (fr:List PV) (σ:Store) (a:Act) (w:World),listed.size=ops.size→listed.toList.count false≤fuel→Inv Γ (opsB i ops).toList FB SB listed fr σ→St gl H0 w0 fr σ a w→∀ (r:Option Nat) (n:Nat),wpAnyIn (rnd r) n P .any (opsB i ops) Q fuel listed a w :=
  fun fuel listed fr σ a w hs=>qsW hT hΓ hB.ord hB.tr hB.free (by rw [qtP];exact hqB) fuel listed fr σ a w (by rw [qtP];exact hs)
 have hl0:∀ listed:Array Bool,¬ In listed i→¬ In listed (i+1)→∀ k,In listed (swp i k)↔In listed k:=by
  intro listed h1 h2 k;by_cases e1:k=i
  ·subst e1;simp [swp,h1,h2]
  ·by_cases e2:k=i+1
   ·subst e2;simp [swp,h1,h2]
   ·rw [quD e1 e2]
 intro fuel
 induction fuel with
 |zero =>
  intro listed fr σ a w hs hc h1 h2 hIA hIB hst;have hb:i < listed.size:=by omega
  have h0:false∉listed.toList:=List.count_eq_zero.1 (by omega)
  unfold In at h1;rw [Array.getD_eq_getD_getElem?,Array.getElem?_eq_getElem hb] at h1;cases hl:listed[i] with
  |true=>simp [hl] at h1
  |false=>exact absurd (by rw [← hl];simp) h0
 |succ fuel ih =>
  intro listed fr σ a w hs hc h1 h2 hIA hIB hst r n;have wA:=dA (fuel+1) listed fr σ a w hs hc hIA hst r n;have wB:=dB (fuel+1) listed fr σ a w hs hc hIB hst r n;have hsub:∀ k,k∈Region.ready .any (opsA i ops) listed→k∈Region.ready .any ops listed:=by
   intro k hk;rw [qcj (by rw [qAt];exact hs)] at hk
   obtain⟨o2,ho2,hn,he⟩:=hk;rw [atA] at ho2;cases ho:ops[k]? with
   |none=>rw [ho] at ho2;cases ho2
   |some o =>
    rw [ho] at ho2;simp only [Option.map_some,Option.some.injEq] at ho2;subst ho2;refine (qcj hs).2 ⟨o,ho,hn,fun e he' hb=>he e ?_ hb⟩
    unfold eA;split
    ·simp only [Array.toList_push,List.mem_append];exact .inl he'
    ·exact he'
  refine⟨fun hnil=>wA.1 (List.eq_nil_iff_forall_not_mem.2 fun k hk=>?_),fun k hk=>?_⟩
  ·have:=hsub k hk;rw [hnil] at this;cases this
  obtain⟨o,ho,hn,he⟩:=(qcj hs).1 hk;have hkl:k < ops.size:=(Array.getElem?_eq_some_iff.1 ho).1;by_cases e1:k=i
  ·subst e1;have hrA:k∈Region.ready .any (opsA k ops) listed:=by
    rw [qcj (by rw [qAt];exact hs),atA,ho]
    refine⟨_,rfl,hn,fun e he' hb=>he e ?_ hb⟩
    unfold eA at he';rw [if_neg (by omega)] at he'
    exact he'
   exact opA k ops _ k a w (wpOpIn_mono (fun a' w' h'=>simA k ops fuel _ a' w' (by simp [hs]) ((qbs (by omega)).2 (.inl rfl)) h') (wA.2 k hrA))
  by_cases e2:k=i+1
  ·subst e2;have hat:=atB hi ho;have hsw:swp i (i+1)=i:=by simp [swp]
   rw [hsw] at hat;have hrB:i∈Region.ready .any (opsB i ops) listed:=by
    rw [qcj (by rw [qtP];exact hs)]
    refine⟨_,hat,h1,fun e he' hb=>?_⟩
    simp only [eB,Array.toList_append,Array.toList_map,List.mem_append,List.mem_map] at he';rcases he' with⟨e0,he0,rfl⟩|he'
    ·exact (hl0 listed h1 h2 _).2 (he e0 he0 hb)
    ·rw [if_neg (by omega)] at he'
     simp at he'
   refine opB hi hg _ (i+1) a w ?_;rw [hsw];refine wpOpIn_mono (fun a' w' h'=>simB hi hg fuel _ _ a' w' (by simp [hs]) (by simp [hs]) ((qbs (by omega)).2 (.inl rfl)) (fun m=>?_) h') (wB.2 i hrB)
   rw [qbs (by omega),qbs (by omega),hl0 listed h1 h2]
   constructor
   ·rintro (h|h)
    ·exact .inl (by rw [← qBX i m,h];simp [swp])
    ·exact .inr h
   ·rintro (rfl|h)
    ·exact .inl hsw
    ·exact .inr h
  -- another one
  have hoA:(opsA i ops).toList[k]?=some o:=by
   rw [Array.getElem?_toList,atA,ho];simp only [Option.map_some,eA,if_neg e2]
  have hoB:(opsB i ops).toList[k]?=some (eB i k o):=by
   rw [Array.getElem?_toList];have:=atB hi ho
   rwa [quD e1 e2] at this
  obtain⟨xA,σA,hcA,hIA'⟩:=qCE hA.ord hA.tr (by simpa using hA.free) hIA hoA (by omega) hn he
  obtain⟨xB,σB,hcB,hIB'⟩:=qCE hB.ord hB.tr (by simpa using hB.free) hIB hoB (by omega) hn (fun e he' hb=>by
   simp only [eB,Array.toList_append,Array.toList_map,List.mem_append,List.mem_map] at he';rcases he' with⟨e0,he0,rfl⟩|he'
   ·exact (hl0 listed h1 h2 _).2 (he e0 he0 hb)
   ·rw [if_neg e2] at he';simp at he')
  have hwA:pwanted (opsA i ops).toList fr o=pwanted ops.toList fr o:=by
   unfold pwanted;cases hgd:o.guard with
   |none=>rfl
   |some gb =>
    obtain⟨g,b⟩:=gb;simp only [];have:((opsA i ops).toList[g]?).bind (·.dst)=(ops.toList[g]?).bind (·.dst):=by
     rw [Array.getElem?_toList,Array.getElem?_toList,atA];cases ops[g]? with
     |none=>rfl
     |some y =>
      obtain⟨z,hz⟩:=qOi i g y;simp only [Option.map_some,Option.bind_some,hz]
    rw [this]
  have hwB:pwanted (opsB i ops).toList fr (eB i k o)=pwanted ops.toList fr o:=by
   unfold pwanted;have e:(eB i k o).guard=o.guard:=rfl;rw [e];cases hgd:o.guard with
   |none=>rfl
   |some gb =>
    obtain⟨g,b⟩:=gb;obtain⟨g1,g2⟩:=qvc hg ho hgd;simp only [];have:((opsB i ops).toList[g]?).bind (·.dst)=(ops.toList[g]?).bind (·.dst):=by
     rw [Array.getElem?_toList,Array.getElem?_toList];cases hx:ops[g]? with
     |none =>
      have:(opsB i ops)[g]?=none:=by
       rw [Array.getElem?_eq_none_iff] at hx ⊢;rw [qtP];exact hx
      rw [this]
     |some y =>
      have:=atB hi hx;rw [quD g1 g2] at this;rw [this];rfl
    rw [this]
  have hpB:pop tb Γ fr σ (eB i k o)=pop tb Γ fr σ o:=rfl;have hdB:(eB i k o).dst=o.dst:=rfl;rw [hwA] at hcA;rw [hwB,hpB] at hcB;rw [hdB] at hIB';have hcount:(listed.setIfInBounds k true).toList.count false≤fuel:=by
   have hlk:listed[k]?=some false:=by
    have hb:k < listed.size:=by omega
    unfold In at hn;rw [Array.getD_eq_getD_getElem?,Array.getElem?_eq_getElem hb] at hn;rw [Array.getElem?_eq_getElem hb];simpa using hn
   have:=qsT listed.toList k (by rw [Array.getElem?_toList];exact hlk)
   simp only [Array.toList_setIfInBounds];omega
  have hsize:(listed.setIfInBounds k true).size=ops.size:=by simp [hs]
  have n1:¬ In (listed.setIfInBounds k true) i:=by
   rw [qbs (by omega)]
   rintro (h|h)
   ·exact e1 h.symm
   ·exact h1 h
  have n2:¬ In (listed.setIfInBounds k true) (i+1):=by
   rw [qbs (by omega)]
   rintro (h|h)
   ·exact e2 h.symm
   ·exact h2 h
  unfold wpOpIn;simp only [ho];rcases hcA with⟨hw,rfl,rfl⟩|⟨hw,hp⟩
  ·rcases hcB with⟨_,rfl,rfl⟩|⟨hw',_⟩
   ·have hwn:=qbF hst hw;simp only [hwn];exact⟨fun _ _=>trivial,ih _ _ _ _ _ hsize hcount n1 n2 hIA' hIB' (qrU hst _) r n⟩
   ·rw [hw] at hw';cases hw'
  ·rcases hcB with⟨hw',_⟩|⟨_,hp'⟩
   ·rw [hw] at hw';cases hw'
   ·rw [hp] at hp';simp only [Option.some.injEq,Prod.mk.injEq] at hp';obtain⟨rfl,rfl⟩:=hp';have hwn:=qbF hst hw;simp only [hwn,if_true];exact qk1 hT hΓ hst hp (fun a' w' hst'=>ih _ _ _ _ _ hsize hcount n1 n2 hIA' hIB' hst' r n) r n
theorem qxR (hT:qaK P tb) (hΓ:qam P gl Γ) (hm:P.follows .mixedOrders=true) {id i:Nat} {ops:Array Oper} (hi:i+1 < ops.size) (hg:qk5 i ops=true) {fr frA frB:List PV} {σ σA σB:Store} {a:Act} {w:World} (hst:St gl H0 w0 fr σ a w)
  (hA:pops tb Γ (opsA i ops).toList (opsA i ops).toList fr σ=some (frA,σA)) (hdA:ordered Γ (opsA i ops).toList=true∨(qbz true Γ (opsA i ops).toList=true∧qdT Γ (opsA i ops).toList frA σ.objs.length=true))
  (hB:pops tb Γ (opsB i ops).toList (opsB i ops).toList fr σ=some (frB,σB)) (hdB:ordered Γ (opsB i ops).toList=true∨(qbz true Γ (opsB i ops).toList=true∧qdT Γ (opsB i ops).toList frB σ.objs.length=true))
  (hqA:∀ a' w',St gl H0 w0 frA σA a' w'→Q .normal a' w') (hqB:∀ a' w',St gl H0 w0 frB σB a' w'→Q .normal a' w') (r:Option Nat) (n:Nat):(Code.region id ops true).wpIn (rnd r) n P Q a w:=by
 refine wpIn_region_any hm ?_;obtain⟨bA,FA,SA,XA,tA,hFA,hSA,hFA',hSA'⟩:=qHi hA hdA;obtain⟨bB,FB,SB,XB,tB,hFB,hSB,hFB',hSB'⟩:=qHi hB hdB;rw [qAt] at hFA' hSA';rw [qtP] at hFB' hSB';have iA:=inv0 tA.tr ops.size;have iB:=inv0 tB.tr ops.size;rw [hFA,hSA] at iA;rw [hFB,hSB] at iB;exact qHd hT hΓ hi hg tA tB (by rw [hFA',hSA'];exact hqA) (by rw [hFB',hSB'];exact hqB) ops.size _ fr σ _ _ (by simp) (Nat.le_trans List.count_le_length (by simp)) (qIm _ _) (qIm _ _) iA iB (qAV hst) r n
end
def hasR (id:Nat):Code→Bool
 |.region id' _ draw=>Nat.beq id' id&&draw
 |.seq x y=>hasR id x || hasR id y
 |.block _ x=>hasR id x
 |_=>false
def qbU (id i:Nat) (b:Bool):Code→Code
 |.region id' ops draw=>match Nat.beq id' id&&draw with
  |true=>.region id' (match b with|true=>opsB i ops|false=>opsA i ops) draw
  |false=>.region id' ops draw
 |.seq x y=>match hasR id x with
  |true=>.seq (qbU id i b x) y
  |false=>.seq x (qbU id i b y)
 |.block k x=>.block k (qbU id i b x)
 |c=>c
def qu8:List Oper→Bool
 |[]=>true
 |o::l=>(match o.op with
  |.panic _=>false
  |.call c=>match c.callee with
   |.value _=>false
   |_=>true
  |_=>true)&&qu8 l
theorem quL {Γ:Gam}:∀ {l:List Oper},qu8 l=true→anyP Γ l=false
 |[],_=>rfl
 |o::l,h=>by
  simp only [qu8,Bool.and_eq_true] at h
  have h2:=quL (Γ:=Γ) h.2;have h1:mayP Γ o=false:=by
   have h0:=h.1;unfold mayP;cases ho:o.op with
   |panic x=>simp only [ho] at h0;cases h0
   |call c =>
    simp only [ho] at h0 ⊢;cases hc:c.callee with
    |value f=>simp only [hc] at h0;cases h0
    |_=>rfl
   |_=>rfl
  simp only [anyP,h1,h2]
def qnt (id i:Nat):Code→Bool
 |.region id' ops draw=>!(Nat.beq id' id&&draw) || (Nat.blt (i+1) ops.size&&qk5 i ops&&qu8 (opsA i ops).toList&&qu8 (opsB i ops).toList)
 |.seq x y=>qnt id i x&&qnt id i y
 |.block _ x=>qnt id i x
 |_=>true
section
variable {P : Program} {tb : Tab} {gl : Gl} {Γ : Gam}
def DoesO (P:Program) (gl:Gl) (c:Code) (fr:List PV) (σ:Store) (O:PExit→List PV→Store→Prop):Prop :=
 ∀ (r:Option Nat) (n:Nat) (H0:Gh) (w0:World),RIn r H0→∀ (Q:Exit→Act→World→Prop) (a:Act) (w:World),St gl H0 w0 fr σ a w→(∀ e fr' σ',O e fr' σ'→∀ a' w',St gl H0 w0 fr' σ' a' w'→Q e.as a' w')→c.wpIn (rnd r) n P Q a w
theorem Does.all {c:Code} {fr:List PV} {σ:Store} {e:PExit} {fr':List PV} {σ':Store} {O:PExit→List PV→Store→Prop} (h:Does P gl c fr σ e fr' σ') (ho:O e fr' σ'):DoesO P gl c fr σ O :=
 fun r n H0 w0 hR Q a w hst hq=>h r n H0 w0 hR Q a w hst (hq _ _ _ ho)
theorem qLE {ops:Array Oper} {fr fr1:List PV} {σ σ1:Store} {id:Nat} {e:PExit} {fr':List PV} {σ':Store} (hd:qaC Γ (.region id ops true)=true) (hqt:qu8 ops.toList=true) {L:Lps} (h:pexec tb Γ L (.region id ops true) fr σ=some (e,fr',σ')) :
  e=.normal∧pops tb Γ ops.toList ops.toList fr σ=some (fr',σ')∧(ordered Γ ops.toList=true∨(qbz true Γ ops.toList=true∧qdT Γ ops.toList fr' σ.objs.length=true)):=by
 have hnp:qta Γ ops.toList true=false:=quL hqt;simp only [pexec,hnp] at h
 split at h
 ·rename_i fr1 σ1 hp;split at h
  ·cases h
  rename_i hna;simp only [Option.some.injEq,Prod.mk.injEq] at h
  obtain⟨rfl,rfl,rfl⟩:=h;refine⟨rfl,hp,?_⟩;simp only [qaC,hnp,Bool.not_true,Bool.false_or,Bool.or_eq_true,Bool.and_eq_true] at hd;rcases hd with hd|⟨hd1,hd2⟩
  ·exact .inl hd
  ·cases ho:ordered Γ ops.toList with
   |true=>exact .inl rfl
   |false =>
    refine .inr ⟨hd2,?_⟩;cases hal:qdT Γ ops.toList fr1 σ.objs.length with
    |true=>rfl
    |false=>simp [qIQ,hd1,ho,hal] at hna
 ·cases h
theorem qjz (hT:qaK P tb) (hΓ:qam P gl Γ) (hm:P.follows .mixedOrders=true) {L:Lps} {id i:Nat} {O:PExit→List PV→Store→Prop}:∀ (c:Code) (fr:List PV) (σ:Store) (eA:PExit) (frA:List PV) (σA:Store) (eB:PExit) (frB:List PV) (σB:Store),
  qnt id i c=true→qa4 P gl L c→qaC Γ (qbU id i false c)=true→qaC Γ (qbU id i true c)=true→pexec tb Γ L (qbU id i false c) fr σ=some (eA,frA,σA)→pexec tb Γ L (qbU id i true c) fr σ=some (eB,frB,σB)→O eA frA σA→O eB frB σB→DoesO P gl c fr σ O
 |.region id' ops draw,fr,σ,eA,frA,σA,eB,frB,σB,hp,hL,hdA,hdB,hA,hB,oA,oB=>by
  cases hid:Nat.beq id' id&&draw with
  |false =>
   simp only [qbU,hid] at hdA hA;exact (qaE hT hΓ hm _ fr σ eA frA σA hL hdA hA).all oA
  |true =>
   have hdr:draw=true:=by
    cases draw with
    |true=>rfl
    |false=>simp at hid
   subst hdr;simp only [qbU,hid] at hdA hdB hA hB;simp only [qnt,hid,Bool.not_true,Bool.false_or,Bool.and_eq_true] at hp;obtain⟨rfl,a1,a2⟩:=qLE (fr1:=fr) (σ1:=σ) hdA hp.1.2 hA;obtain⟨rfl,b1,b2⟩:=qLE (fr1:=fr) (σ1:=σ) hdB hp.2 hB;intro r n H0 w0 hR Q a w hst hq;exact qxR hT hΓ hm (by simpa [Nat.blt_eq] using hp.1.1.1) hp.1.1.2 hst a1 a2 b1 b2 (hq _ _ _ oA) (hq _ _ _ oB) r n
 |.seq x y,fr,σ,eA,frA,σA,eB,frB,σB,hp,hL,hdA,hdB,hA,hB,oA,oB=>by
  simp only [qnt,Bool.and_eq_true] at hp;cases hx:hasR id x with
  |true =>
   simp only [qbU,hx,qaC,Bool.and_eq_true] at hdA hdB;simp only [qbU,hx,pexec] at hA hB;intro r n H0 w0 hR Q a w hst hq;refine wpIn_seq ?_
   -- behind the first part: the second,or out
   have key:∀ (b:Bool) (eX:PExit) (frX:List PV) (σX:Store),(match pexec tb Γ L (qbU id i b x) fr σ with|some (.normal,fr',σ')=>pexec tb Γ L y fr' σ'|r=>r)=some (eX,frX,σX)→O eX frX σX →
     ∃ e1 fr1 σ1,pexec tb Γ L (qbU id i b x) fr σ=some (e1,fr1,σ1)∧∀ a1 w1,St gl H0 w0 fr1 σ1 a1 w1→(match e1.as with|.normal=>y.wpIn (rnd r) n P Q a1 w1|e=>Q e a1 w1):=by
    intro b eX frX σX h ho;split at h
    ·rename_i fr1 σ1 hx1;exact⟨.normal,fr1,σ1,hx1,fun a1 w1 hst1=>qaE hT hΓ hm y fr1 σ1 eX frX σX hL.2 hdA.2 h r n H0 w0 hR _ _ _ hst1 (hq _ _ _ ho)⟩
    ·rename_i hne;refine⟨eX,frX,σX,h,fun a1 w1 hst1=>?_⟩
     cases eX with
     |normal=>exact absurd h (hne _ _)
     |exit id=>exact hq _ _ _ ho _ _ hst1
     |ret=>exact hq _ _ _ ho _ _ hst1
     |pan x=>exact hq _ _ _ ho _ _ hst1
   obtain⟨e1,f1,s1,p1,k1⟩:=key false _ _ _ hA oA;obtain⟨e2,f2,s2,p2,k2⟩:=key true _ _ _ hB oB;refine qjz hT hΓ hm (O:=fun e f s=>(e,f,s)=(e1,f1,s1)∨(e,f,s)=(e2,f2,s2)) x fr σ _ _ _ _ _ _ hp.1 hL.1 hdA.1 hdB.1 p1 p2 (.inl rfl) (.inr rfl) r n H0 w0 hR _ a w hst ?_
   rintro e f s (h|h) a1 w1 hst1
   ·cases h
    have:=k1 a1 w1 hst1;cases e1<;>exact this
   ·cases h
    have:=k2 a1 w1 hst1;cases e2<;>exact this
  |false =>
   simp only [qbU,hx,qaC,Bool.and_eq_true] at hdA hdB;simp only [qbU,hx,pexec] at hA hB;intro r n H0 w0 hR Q a w hst hq;refine wpIn_seq ?_;cases hx1:pexec tb Γ L x fr σ with
   |none=>rw [hx1] at hA;cases hA
   |some t =>
    obtain⟨e1,f1,s1⟩:=t;refine qaE hT hΓ hm x fr σ e1 f1 s1 hL.1 hdA.1 hx1 r n H0 w0 hR _ a w hst fun a1 w1 hst1=>?_
    rw [hx1] at hA hB;cases e1 with
    |normal=>exact qjz hT hΓ hm (O:=O) y f1 s1 _ _ _ _ _ _ hp.2 hL.2 hdA.2 hdB.2 hA hB oA oB r n H0 w0 hR Q a1 w1 hst1 hq
    |exit id =>
     simp only [Option.some.injEq,Prod.mk.injEq] at hA;obtain⟨rfl,rfl,rfl⟩:=hA;exact hq _ _ _ oA _ _ hst1
    |ret =>
     simp only [Option.some.injEq,Prod.mk.injEq] at hA;obtain⟨rfl,rfl,rfl⟩:=hA;exact hq _ _ _ oA _ _ hst1
    |pan x =>
     simp only [Option.some.injEq,Prod.mk.injEq] at hA;obtain⟨rfl,rfl,rfl⟩:=hA;exact hq _ _ _ oA _ _ hst1
 |.skip,fr,σ,eA,frA,σA,eB,frB,σB,hp,hL,hdA,hdB,hA,hB,oA,oB=>(qaE hT hΓ hm _ fr σ eA frA σA hL hdA hA).all oA
 |.label _,fr,σ,eA,frA,σA,eB,frB,σB,hp,hL,hdA,hdB,hA,hB,oA,oB=>(qaE hT hΓ hm _ fr σ eA frA σA hL hdA hA).all oA
 |.cond _ _ _,fr,σ,eA,frA,σA,eB,frB,σB,hp,hL,hdA,hdB,hA,hB,oA,oB=>(qaE hT hΓ hm _ fr σ eA frA σA hL hdA hA).all oA
 |.block k x,fr,σ,eA,frA,σA,eB,frB,σB,hp,hL,hdA,hdB,hA,hB,oA,oB=>by
  simp only [qbU,pexec] at hA hB;have key:∀ (b:Bool) (eX:PExit) (frX:List PV) (σX:Store),(match pexec tb Γ L (qbU id i b x) fr σ with|some (.exit j,fr',σ')=>if j=k then some (.normal,fr',σ') else some (.exit j,fr',σ')|r=>r)=some (eX,frX,σX)→O eX frX σX →
    ∃ e1,pexec tb Γ L (qbU id i b x) fr σ=some (e1,frX,σX)∧∀ (Q:Exit→Act→World→Prop) a w,Q eX.as a w→Exit.inBlock k Q e1.as a w:=by
   intro b eX frX σX h ho;split at h
   ·rename_i j fr1 σ1 hx;split at h
    ·rename_i hj;subst hj;simp only [Option.some.injEq,Prod.mk.injEq] at h
     obtain⟨rfl,rfl,rfl⟩:=h;exact⟨_,hx,fun Q a w hq=>by simp only [PExit.as,Exit.inBlock,if_true];exact hq⟩
    ·rename_i hj;simp only [Option.some.injEq,Prod.mk.injEq] at h
     obtain⟨rfl,rfl,rfl⟩:=h;exact⟨_,hx,fun Q a w hq=>by simp only [PExit.as,Exit.inBlock,if_neg hj];exact hq⟩
   ·rename_i hne;refine⟨eX,h,fun Q a w hq=>?_⟩
    cases eX with
    |normal=>exact hq
    |exit j=>exact absurd h (hne _ _ _)
    |ret=>exact hq
    |pan x=>exact hq
  obtain⟨e1,p1,k1⟩:=key false _ _ _ hA oA;obtain⟨e2,p2,k2⟩:=key true _ _ _ hB oB;intro r n H0 w0 hR Q a w hst hq;refine wpIn_block ?_;refine qjz hT hΓ hm (O:=fun e f s=>(e,f,s)=(e1,frA,σA)∨(e,f,s)=(e2,frB,σB)) x fr σ _ _ _ _ _ _ hp hL hdA hdB p1 p2 (.inl rfl) (.inr rfl) r n H0 w0 hR _ a w hst ?_
  rintro e f s (h|h) a1 w1 hst1
  ·cases h
   exact k1 Q a1 w1 (hq _ _ _ oA _ _ hst1)
  ·cases h
   exact k2 Q a1 w1 (hq _ _ _ oB _ _ hst1)
 |.loop _,fr,σ,eA,frA,σA,eB,frB,σB,hp,hL,hdA,hdB,hA,hB,oA,oB=>(qaE hT hΓ hm _ fr σ eA frA σA hL hdA hA).all oA
 |.scope _,fr,σ,eA,frA,σA,eB,frB,σB,hp,hL,hdA,hdB,hA,hB,oA,oB=>(qaE hT hΓ hm _ fr σ eA frA σA hL hdA hA).all oA
 |.exit _,fr,σ,eA,frA,σA,eB,frB,σB,hp,hL,hdA,hdB,hA,hB,oA,oB=>(qaE hT hΓ hm _ fr σ eA frA σA hL hdA hA).all oA
 |.rangeFunc _ _ _ _,fr,σ,eA,frA,σA,eB,frB,σB,hp,hL,hdA,hdB,hA,hB,oA,oB=>(qaE hT hΓ hm _ fr σ eA frA σA hL hdA hA).all oA
 |.goto _,fr,σ,eA,frA,σA,eB,frB,σB,hp,hL,hdA,hdB,hA,hB,oA,oB=>(qaE hT hΓ hm _ fr σ eA frA σA hL hdA hA).all oA
 |.refuse _,fr,σ,eA,frA,σA,eB,frB,σB,hp,hL,hdA,hdB,hA,hB,oA,oB=>(qaE hT hΓ hm _ fr σ eA frA σA hL hdA hA).all oA
 |.ret,fr,σ,eA,frA,σA,eB,frB,σB,hp,hL,hdA,hdB,hA,hB,oA,oB=>(qaE hT hΓ hm _ fr σ eA frA σA hL hdA hA).all oA
theorem DoesO.based {c:Code} {fr:List PV} {σ:Store} {O:PExit→List PV→Store→Prop} {e':PExit} {fr':List PV} {σ':Store} (h:DoesO P gl c fr σ O)
  (key:∀ (H:Gh) (w:World),Ok gl H σ w→∀ e fr1 σ1,O e fr1 σ1→e=e'∧∀ a' w',St gl H w fr1 σ1 a' w'→St gl H w fr' σ' a' w'):Does P gl c fr σ e' fr' σ':=by
 intro r n H0 w0 hR Q a w hst hq;obtain⟨H,hev,hok,hfr,hd⟩:=hst;refine h r n H w (hR.ev hev) Q a w ⟨H,Ev.refl H w,hok,hfr,hd⟩ fun e fr1 σ1 ho a' w' hst'=>?_
 obtain⟨rfl,k⟩:=key H w hok e fr1 σ1 ho;obtain⟨H',hev',hok',hfr',hd'⟩:=k a' w' hst';exact hq a' w' ⟨H',hev.trans hev',hok',hfr',hd'⟩
section
variable {H : Gh} {w w' : World} {σ σ2 : Store} {fr1 : List PV} {ss : List Nat} {a' : Act}
theorem qDf (hok:Ok gl H σ w) (h:St gl H w fr1 σ2 a' w'):∃ fr3,fr3.length=fr1.length∧(qzW σ (rsl ss fr1) σ2).1=rsl ss fr3∧St gl H w fr3 (qzW σ (rsl ss fr1) σ2).2 a' w':=by
 unfold qzW;split
 ·exact⟨fr1,rfl,rfl,h⟩
 ·refine⟨_,qi9 _ _,quq _ _ _,qHJ (by rw [hok.len];exact Nat.le_max_left _ _) (fun t T e hk=>?_) h⟩
  obtain⟨_,_,o,_,ho⟩:=hok.tok t T e (fun hh=>hh.2 hk)
  rcases ho with⟨h1,_⟩|⟨_,_,r,_,_,_,h6,_⟩
  ·exact absurd hk h1
  ·rw [hok.len] at h6;omega
theorem qDL (hok:Ok gl H σ w) (tr:Bool) (h:St gl H w fr1 σ2 a' w'):St gl H w (mk fr1.length (ss.zip (qfL tr σ (rsl ss fr1) σ2).1)) (qfL tr σ (rsl ss fr1) σ2).2 a' w':=by
 have key:∃ fr3,fr3.length=fr1.length∧(qfL tr σ (rsl ss fr1) σ2).1=rsl ss fr3∧St gl H w fr3 (qfL tr σ (rsl ss fr1) σ2).2 a' w':=by
  cases tr with
  |false=>exact⟨fr1,rfl,rfl,h⟩
  |true =>
   simp only [qfL];unfold qGX;split
   ·exact qDf hok h
   ·rw [quK];obtain⟨fr3,h1,h2,h3⟩:=qDf (ss:=ss) hok (qHp (m:=max σ.toks.length (max (qpp (rsl ss fr1)) (qpf (σ2.objs.take σ.objs.length)))) (by
     have:=congrArg List.length hok.tkl;simp at this;omega) h)
    exact⟨fr3,by rw [h1,qj6],h2,h3⟩
 obtain⟨fr3,h1,h2,h3⟩:=key;rw [h2,← h1];exact qxL (qgH fr3 ss) h3
end
section
variable {G : GamT}
theorem qDr (hT:qaK P tb) (hΓ:qam P gl (gam G)) (hm:P.follows .mixedOrders=true) {L:LpsT} {c:Code} (hL:qa4 P gl (lps L) c) {id i:Nat} (hp:qnt id i c=true) (hdA:qaC (gam G) (qbU id i false c)=true) (hdB:qaC (gam G) (qbU id i true c)=true)
  {nt:Nat} {fr:List PV} {σ:Store} {e:PExit} {kA kB:List Nat} {frA frB:List PV} {σA σB:Store} (hA:Tr.run (texec tb G L (qbU id i false c) [] fr σ)=some (e,kA,frA,σA)) (hB:Tr.run (texec tb G L (qbU id i true c) [] fr σ)=some (e,kB,frB,σB))
  {tr:Bool} {ss:List Nat} {vs1:List PV} {σ1:Store} (hlA:frA.length=nt) (hlB:frB.length=nt) (tA:qfL tr σ (rsl ss frA) σA=(vs1,σ1)) (tB:qfL tr σ (rsl ss frB) σB=(vs1,σ1)):Does P gl c fr σ e (mk nt (ss.zip vs1)) σ1:=by
 refine DoesO.based (O:=fun e' f s=>(e',f,s)=(e,frA,σA)∨(e',f,s)=(e,frB,σB)) (qjz hT hΓ hm c fr σ _ _ _ _ _ _ hp hL hdA hdB (qfS _ _ _ _ _ _ _ _ hA) (qfS _ _ _ _ _ _ _ _ hB) (.inl rfl) (.inr rfl)) fun H w hok e' f s ho=>?_
 rcases ho with ho|ho
 ·cases ho
  refine⟨rfl,fun a' w' hst=>?_⟩
  have:=qDL (ss:=ss) hok tr hst
  rwa [tA,hlA] at this
 ·cases ho
  refine⟨rfl,fun a' w' hst=>?_⟩
  have:=qDL (ss:=ss) hok tr hst
  rwa [tB,hlB] at this
open Classical in
def qt5 (tb:Tab) (G:GamT) (L:LpsT) (c:Code) (id i:Nat) (I:LI) (vs:List PV) (σ:Store):Tr LR :=
 Tr.bind (lstep tb G L (qbU id i false c) I vs σ) fun x=>Tr.bind (lstep tb G L (qbU id i true c) I vs σ) fun y=>if x=y then .ret x else .fail
theorem quJ {L:LpsT} {c:Code} {id i:Nat} {I:LI} {vs:List PV} {σ:Store} {x:LR} (h:(qt5 tb G L c id i I vs σ).run=some x):(lstep tb G L (qbU id i false c) I vs σ).run=some x∧(lstep tb G L (qbU id i true c) I vs σ).run=some x:=by
 obtain⟨x1,h1,h2⟩:=Tr.bind_some h;obtain⟨y,h3,h4⟩:=Tr.bind_some h2;split at h4
 ·rename_i he;subst he;simp only [Tr.run_ret,Option.some.injEq] at h4;subst h4;exact⟨h1,h3⟩
 ·cases h4
theorem qIe {L:LpsT} {c:Code} {id i:Nat} {I:LI} {vs:List PV} {σ:Store} {t:Tr LR} (hA:lstep tb G L (qbU id i false c) I vs σ=t) (hB:lstep tb G L (qbU id i true c) I vs σ=t):(qt5 tb G L c id i I vs σ).run=t.run:=by
 unfold qt5;rw [hA,hB];cases ht:t.run with
 |none=>rw [Tr.run_bind,ht];rfl
 |some x=>simp [Tr.run_bind,ht]
theorem qmB {L:LpsT} {c:Code} {I:LI} {vs:List PV} {σ:Store} {x:LR} (h:(lstep tb G L c I vs σ).run=some x):∃ e kn fr1 σ2,Tr.run (texec tb G L c [] (mk I.nt (I.ss.zip vs)) σ)=some (e,kn,fr1,σ2)∧fr1.length=I.nt∧x=match e with
  |.normal=>.next (qfL I.tr σ (rsl I.ss fr1) σ2).1 (qfL I.tr σ (rsl I.ss fr1) σ2).2
  |e=>.out e (qfL I.tr σ (rsl (I.os e) fr1) σ2).1 (qfL I.tr σ (rsl (I.os e) fr1) σ2).2:=by
 obtain⟨⟨e1,kn,fr1,σ2⟩,h1,h2⟩:=Tr.bind_some (Tr.flat_run h);simp only at h2;split at h2
 ·rename_i hn;refine⟨e1,kn,fr1,σ2,h1,hn,?_⟩;cases e1<;>(simp only [Tr.run_ret,Option.some.injEq] at h2;exact h2.symm)
 ·cases h2
theorem qBY (hT:qaK P tb) (hΓ:qam P gl (gam G)) (hm:P.follows .mixedOrders=true) {L:LpsT} {c:Code} (hL:qa4 P gl (lps L) c) {id i:Nat} (hp:qnt id i c=true) (hdA:qaC (gam G) (qbU id i false c)=true) (hdB:qaC (gam G) (qbU id i true c)=true) {I:LI} :
  ∀ (n:Nat) (vs:List PV) (σ:Store) (e:PExit) (vs':List PV) (σ':Store),lrun (qt5 tb G L c id i I) n vs σ=some (e,vs',σ')→LDoes P gl c (mk I.nt (I.ss.zip vs)) σ e (mk I.nt ((I.os e).zip vs')) σ':=by
 intro n
 induction n with
 |zero=>intro vs σ e vs' σ' h;cases h
 |succ n ih =>
  intro vs σ e vs' σ' h;simp only [lrun] at h
  split at h
  ·rename_i vs1 σ1 hs;obtain⟨hA,hB⟩:=quJ hs;obtain⟨eA,kA,fA,sA,xA,lA,yA⟩:=qmB hA;obtain⟨eB,kB,fB,sB,xB,lB,yB⟩:=qmB hB;cases eA<;>simp only [LR.next.injEq,reduceCtorEq] at yA
   cases eB<;>simp only [LR.next.injEq,reduceCtorEq] at yB
   exact LDoes.next (qDr hT hΓ hm hL hp hdA hdB xA xB lA lB (Prod.ext yA.1.symm yA.2.symm) (Prod.ext yB.1.symm yB.2.symm)) (ih _ _ _ _ _ h)
  ·rename_i e1 vs1 σ1 hs;simp only [Option.some.injEq,Prod.mk.injEq] at h
   obtain⟨rfl,rfl,rfl⟩:=h;obtain⟨hA,hB⟩:=quJ hs;obtain⟨eA,kA,fA,sA,xA,lA,yA⟩:=qmB hA;obtain⟨eB,kB,fB,sB,xB,lB,yB⟩:=qmB hB;have fin:eA≠.normal→eB≠.normal→e1=eA∧e1=eB∧qfL I.tr σ (rsl (I.os e1) fA) sA=(vs1,σ1)∧qfL I.tr σ (rsl (I.os e1) fB) sB=(vs1,σ1):=by
    intro nA nB;cases eA<;>(first|exact absurd rfl nA|(simp only [LR.out.injEq] at yA;obtain⟨rfl,y1,y2⟩:=yA))
    all_goals cases eB<;>(first|exact absurd rfl nB|(simp only [LR.out.injEq,reduceCtorEq,false_and] at yB))
    all_goals
     obtain⟨y0,y3,y4⟩:=yB
     first
      |(cases y0;exact⟨rfl,rfl,Prod.ext y1.symm y2.symm,Prod.ext y3.symm y4.symm⟩)
      |exact⟨rfl,rfl,Prod.ext y1.symm y2.symm,Prod.ext y3.symm y4.symm⟩
   have nA:eA≠.normal:=fun h=>by subst h;simp only [reduceCtorEq] at yA
   have nB:eB≠.normal:=fun h=>by subst h;simp only [reduceCtorEq] at yB
   obtain⟨rfl,rfl,tA,tB⟩:=fin nA nB;exact LDoes.out (qDr hT hΓ hm hL hp hdA hdB xA xB lA lB tA tB) nA
  ·cases h
theorem qNO (hT:qaK P tb) (hΓ:qam P gl (gam G)) (hm:P.follows .mixedOrders=true) {L:LpsT} {c:Code} (hL:qa4 P gl (lps L) c) (id i:Nat) (hp:qnt id i c=true) (hdA:qaC (gam G) (qbU id i false c)=true) (hdB:qaC (gam G) (qbU id i true c)=true) {I:LI} {prop:List PV→Store→Tr (PExit×List PV×Store)}
  (h:∀ vs σ r,(prop vs σ).run=some r→lval (qt5 tb G L c id i I) vs σ=some r):∀ fr σ e fr' σ',(orc I prop fr σ).run=some (e,fr',σ')→LDoes P gl c fr σ e fr' σ':=by
 intro fr σ e fr' σ' hr;unfold orc at hr;split at hr
 ·rename_i hn;obtain⟨⟨e1,vs1,σ1⟩,h1,h2⟩:=Tr.bind_some hr;simp only [Tr.run_ret,Option.some.injEq,Prod.mk.injEq] at h2;obtain⟨rfl,rfl,rfl⟩:=h2;obtain⟨n,hn'⟩:=qmZ (h _ _ _ h1);have hw:=qgH fr I.ss;rw [hn] at hw;exact LDoes.into hw (qBY hT hΓ hm hL hp hdA hdB n _ _ _ _ _ hn')
 ·cases hr
end
end
end Go.Pv
set_option maxHeartbeats 4000000
set_option maxRecDepth 200000
set_option linter.unusedSimpArgs false
set_option linter.unusedVariables false
namespace Go.Pv
open Go Go.Proofs
def qnr:GamT:=ofL []
theorem qt7 (gl:Gl):qam Tryz.prog gl (gam qnr):=qag
def qma:Code:=qc3 Tryz.f21 4
def qmf:LI:=⟨38,[2,3,5],fun e=>match e with|.ret=>[4]|.exit 0=>[]|_=>[],true⟩
def qos:LpsT:=fun r fr σ=>.fail
def qcf (vs:List PV) (σ:Store):Option (PExit×List PV×Store):=lval (lstep tbT qnr qos qma qmf) vs σ
def qkm (i:Int) (s:qU) (r:qR) (s2:qU) (r2:qR):Tr LR:=let z1:List PV:=[.int .i64 0,.str [],.int .i64 0,.int .i64 0,.str []];let z2:=nNat i;let z3:Store:=Store.mk [[.str s,.sl r .non],[.str s2,.sl r2 .non]] [] [48,48];.ite (iLt i (xLen r)) (.ite (qas i) (.ite (qbo z1 r z2) (.ite (qas i) (.ite (qbo z1 r2 z2) (.ite (bNot (bAnd (iEq (xInt r z2 0) (xInt r2 z2 0)) (bAnd (sEq (xStr r z2 1) (xStr r2 z2 1)) (bAnd (bAnd (iEq (xInt r z2 2) (xInt r2 z2 2)) (bAnd (iEq (xInt r z2 3) (xInt r2 z2 3)) (bAnd (sEq (xStr r z2 4) (xStr r2 z2 4)) true))) true)))) (.ret (.out .ret [.bool false] z3)) (.ret (.next [.ptr 0 0,.ptr 1 0,.int .i64 (iAdd .i64 i 1)] z3))) .fail) .fail) .fail) .fail) (.ret (.out (.exit 0) [] z3))
theorem qIb (i:Int) (s:qU) (r:qR) (s2:qU) (r2:qR):lstep tbT qnr qos qma qmf [.ptr 0 0,.ptr 1 0,.int .i64 i] ⟨[[.str s,.sl r .non],[.str s2,.sl r2 .non]],[],[48,48]⟩=qkm i s r s2 r2:=by kernel_rfl
theorem qzh (i:Int) (s:qU) (r:qR) (s2:qU) (r2:qR):qcf [.ptr 0 0,.ptr 1 0,.int .i64 i] ⟨[[.str s,.sl r .non],[.str s2,.sl r2 .non]],[],[48,48]⟩=lnext qcf (qkm i s r s2 r2).run:=by unfold qcf;rw [qaJ,qIb]
def qnh (i:Int) (s:qU) (r:qR) (s2:qU) (r2:qR):Option (PExit×List PV×Store):=qcf [.ptr 0 0,.ptr 1 0,.int .i64 i] ⟨[[.str s,.sl r .non],[.str s2,.sl r2 .non]],[],[48,48]⟩
def qgZ (i:Int) (s:qU) (r:qR) (s2:qU) (r2:qR):Bool:=(qbQ (gOut (qnh i s r s2 r2) 0))
def qk3 (i:Int) (s:qU) (r:qR) (s2:qU) (r2:qR):Bool:=isW (qnh i s r s2 r2) (.ret,[.bool (qgZ i s r s2 r2)],⟨[[.str s,.sl r .non],[.str s2,.sl r2 .non]],[],[48,48]⟩)
def qly (i:Int) (s:qU) (r:qR) (s2:qU) (r2:qR):Bool:=isW (qnh i s r s2 r2) ((.exit 0),[],⟨[[.str s,.sl r .non],[.str s2,.sl r2 .non]],[],[48,48]⟩)
def qfy:List PV→Store→Tr (PExit×List PV×Store)|[.ptr 0 0,.ptr 1 0,.int .i64 i],⟨[[.str s,.sl r .non],[.str s2,.sl r2 .non]],[],[48,48]⟩=>.ite (qk3 i s r s2 r2) (.ret (.ret,[.bool (qgZ i s r s2 r2)],⟨[[.str s,.sl r .non],[.str s2,.sl r2 .non]],[],[48,48]⟩)) (.ite (qly i s r s2 r2) (.ret ((.exit 0),[],⟨[[.str s,.sl r .non],[.str s2,.sl r2 .non]],[],[48,48]⟩)) (.fail))|_,_=>.fail
theorem qEB:∀ vs σ r,(qfy vs σ).run=some r→qcf vs σ=some r:=by
 intro vs σ r h;unfold qfy at h
 split at h
 ·exact qae h fun h=>qae h fun h=>by cases h
 ·cases h
theorem qzo (gl:Gl):∀ fr σ e fr' σ',(orc qmf qfy fr σ).run=some (e,fr',σ')→LDoes Tryz.prog gl qma fr σ e fr' σ':=qbu qai (qt7 gl ) qah (L:=qos) (qac (by kernel_rfl)) (by kernel_rfl) qEB
def qwJ:LpsT:=fun r fr σ=>bif Nat.beq r 4 then orc qmf qfy fr σ else .fail
def qtD (a:qU) (a2:qR) (b:qU) (b2:qR):Tr PV:=.ite (sNe a b) (.ret (.bool false)) (.ite (iNe (xLen a2) (xLen b2)) (.ret (.bool false)) (.ite (qk3 0 a a2 b b2) (.ret (.bool (qgZ 0 a a2 b b2))) (.ite (qly 0 a a2 b b2) (.ret (.bool true)) .fail)))
theorem qJH (a:qU) (a2:qR) (b:qU) (b2:qR):(tcall tbT qnr qwJ Tryz.f21 [.agg [.str a,.sl a2 .non],.agg [.str b,.sl b2 .non]]).flat=qtD a a2 b b2:=by kernel_rfl
def qre (a:qU) (a2:qR) (b:qU) (b2:qR):Option PV:=(qtD a a2 b b2).run
def qjK (a:qU) (a2:qR) (b:qU) (b2:qR):Bool:=(qbQ (gVal (qre a a2 b b2)))
def qgc (a:qU) (a2:qR) (b:qU) (b2:qR):Bool:=isW (qre a a2 b b2) (.bool (qjK a a2 b b2))
def qqB:List PV→Tr PV|[.agg [.str a,.sl a2 .non],.agg [.str b,.sl b2 .non]]=>.ite (qgc a a2 b b2) (.ret (.bool (qjK a a2 b b2))) (.fail)|_=>.fail
theorem quI (gl:Gl):SimP Tryz.prog gl 21 fun args=>(qqB args).run:=by
 refine SimP.of_flat (G:=qnr) (L:=qwJ) qai (qt7 gl ) qah  Tryz.func21 rfl (by rfl) (by kernel_rfl) (qax (L:=lps qwJ) [(4,qma)] (by kernel_rfl) (List.forall_mem_cons.2 ⟨fun fr σ e fr' σ' h=>qzo gl  fr σ e fr' σ' h,(List.forall_mem_nil _)⟩)) ?_
 intro args x h;unfold qqB at h
 split at h
 ·exact (congrArg Tr.run (qJH _ _ _ _)).trans (qae h fun h=>by cases h)
 ·cases h
def qjh:GamT:=ofL [(21,.pure qqB)]
theorem qvd (gl:Gl):qam Tryz.prog gl (gam qjh):=(qaf (quI gl) qag)
def qiv:Code:=qc3 Tryz.f20 4
def qij:LI:=⟨74,[2,3,5],fun e=>match e with|.ret=>[4]|.exit 0=>[]|_=>[],true⟩
def qja:LpsT:=fun r fr σ=>.fail
def qci (vs:List PV) (σ:Store):Option (PExit×List PV×Store):=lval (qt5 tbT qjh qja qiv 6 10 qij) vs σ
def qgy (n:Int) (s:qU) (r r2:qR) (s2:qU) (r3 r4:qR):Tr LR:=let z1:List PV:=[.int .i64 0,.str [],.sl [] .full,.int .i64 0,.int .i64 0,.str [],.int .i64 0,.int .i64 0,.str [],.int .i64 0,.str [],.int .i64 0,.int .i64 0,.str []];let z2:=nNat n;let z3:Store:=Store.mk [[.str s,.sl (qaB 2 r) .non,.sl (qaB 2 r2) .non],[.str s2,.sl (qaB 2 r3) .non,.sl (qaB 2 r4) .non]] [] [51,51];.ite (iLt n (xLen r2)) (.ite (qas n) (.ite (qbo z1 r2 z2) (.ite (qas n) (.ite (qbo z1 r4 z2) (.ite (iNe (xInt r2 z2 0) (xInt r4 z2 0)) (.ret (.out .ret [.bool false] z3)) (.ite (iNe (xInt r2 z2 3) (xInt r4 z2 3)) (.ret (.out .ret [.bool false] z3)) (.ite (bNot (bAnd (iEq (xInt r2 z2 4) (xInt r4 z2 4)) (bAnd (sEq (xStr r2 z2 5) (xStr r4 z2 5)) (bAnd (bAnd (iEq (xInt r2 z2 6) (xInt r4 z2 6)) (bAnd (iEq (xInt r2 z2 7) (xInt r4 z2 7)) (bAnd (sEq (xStr r2 z2 8) (xStr r4 z2 8)) true))) true)))) (.ret (.out .ret [.bool false] z3)) (.ite (bNot (bAnd (iEq (xInt r2 z2 9) (xInt r4 z2 9)) (bAnd (sEq (xStr r2 z2 10) (xStr r4 z2 10)) (bAnd (bAnd (iEq (xInt r2 z2 11) (xInt r4 z2 11)) (bAnd (iEq (xInt r2 z2 12) (xInt r4 z2 12)) (bAnd (sEq (xStr r2 z2 13) (xStr r4 z2 13)) true))) true)))) (.ret (.out .ret [.bool false] z3)) (.ite (qgc (xStr r2 z2 1) (qad (xRow r2 z2 2)) (xStr r4 z2 1) (qad (xRow r4 z2 2))) (.ite (bNot (qjK (xStr r2 z2 1) (qad (xRow r2 z2 2)) (xStr r4 z2 1) (qad (xRow r4 z2 2)))) (.ret (.out .ret [.bool false] z3)) (.ret (.next [.ptr 0 0,.ptr 1 0,.int .i64 (iAdd .i64 n 1)] z3))) .fail))))) .fail) .fail) .fail) .fail) (.ret (.out (.exit 0) [] (Store.mk [[.str s,.sl r .non,.sl r2 .non],[.str s2,.sl r3 .non,.sl r4 .non]] [] [51,51])))
theorem qF1 (n:Int) (s:qU) (r r2:qR) (s2:qU) (r3 r4:qR):lstep tbT qjh qja (qbU 6 10 false qiv) qij [.ptr 0 0,.ptr 1 0,.int .i64 n] ⟨[[.str s,.sl r .non,.sl r2 .non],[.str s2,.sl r3 .non,.sl r4 .non]],[],[51,51]⟩=qgy n s r r2 s2 r3 r4:=by kernel_rfl
theorem qFo (n:Int) (s:qU) (r r2:qR) (s2:qU) (r3 r4:qR):lstep tbT qjh qja (qbU 6 10 true qiv) qij [.ptr 0 0,.ptr 1 0,.int .i64 n] ⟨[[.str s,.sl r .non,.sl r2 .non],[.str s2,.sl r3 .non,.sl r4 .non]],[],[51,51]⟩=qgy n s r r2 s2 r3 r4:=by kernel_rfl
theorem qzs (n:Int) (s:qU) (r r2:qR) (s2:qU) (r3 r4:qR):qci [.ptr 0 0,.ptr 1 0,.int .i64 n] ⟨[[.str s,.sl r .non,.sl r2 .non],[.str s2,.sl r3 .non,.sl r4 .non]],[],[51,51]⟩=lnext qci (qgy n s r r2 s2 r3 r4).run:=by unfold qci;rw [qaJ,qIe (qF1 n s r r2 s2 r3 r4) (qFo n s r r2 s2 r3 r4)]
def qlP (n:Int) (s:qU) (r r2:qR) (s2:qU) (r3 r4:qR):Option (PExit×List PV×Store):=qci [.ptr 0 0,.ptr 1 0,.int .i64 n] ⟨[[.str s,.sl r .non,.sl r2 .non],[.str s2,.sl r3 .non,.sl r4 .non]],[],[51,51]⟩
def qho (n:Int) (s:qU) (r r2:qR) (s2:qU) (r3 r4:qR):Bool:=(qbQ (gOut (qlP n s r r2 s2 r3 r4) 0))
def qlx (n:Int) (s:qU) (r r2:qR) (s2:qU) (r3 r4:qR):Bool:=isW (qlP n s r r2 s2 r3 r4) (.ret,[.bool (qho n s r r2 s2 r3 r4)],⟨[[.str s,.sl r .non,.sl r2 .non],[.str s2,.sl r3 .non,.sl r4 .non]],[],[51,51]⟩)
def qlJ (n:Int) (s:qU) (r r2:qR) (s2:qU) (r3 r4:qR):Bool:=isW (qlP n s r r2 s2 r3 r4) ((.exit 0),[],⟨[[.str s,.sl r .non,.sl r2 .non],[.str s2,.sl r3 .non,.sl r4 .non]],[],[51,51]⟩)
def qfi:List PV→Store→Tr (PExit×List PV×Store)|[.ptr 0 0,.ptr 1 0,.int .i64 n],⟨[[.str s,.sl r .non,.sl r2 .non],[.str s2,.sl r3 .non,.sl r4 .non]],[],[51,51]⟩=>.ite (qlx n s r r2 s2 r3 r4) (.ret (.ret,[.bool (qho n s r r2 s2 r3 r4)],⟨[[.str s,.sl r .non,.sl r2 .non],[.str s2,.sl r3 .non,.sl r4 .non]],[],[51,51]⟩)) (.ite (qlJ n s r r2 s2 r3 r4) (.ret ((.exit 0),[],⟨[[.str s,.sl r .non,.sl r2 .non],[.str s2,.sl r3 .non,.sl r4 .non]],[],[51,51]⟩)) (.fail))|_,_=>.fail
theorem qEt:∀ vs σ r,(qfi vs σ).run=some r→qci vs σ=some r:=by
 intro vs σ r h;unfold qfi at h
 split at h
 ·exact qae h fun h=>qae h fun h=>by cases h
 ·cases h
theorem qyW (gl:Gl):∀ fr σ e fr' σ',(orc qij qfi fr σ).run=some (e,fr',σ')→LDoes Tryz.prog gl qiv fr σ e fr' σ':=qNO qai (qvd gl ) qah (L:=qja) (qac (by kernel_rfl)) 6 10 (by kernel_rfl) (by kernel_rfl) (by kernel_rfl) qEt
def qwu:LpsT:=fun r fr σ=>bif Nat.beq r 4 then orc qij qfi fr σ else .fail
def qsw (v:qU) (v2 v3:qR) (v4:qU) (v5 v6:qR):Tr PV:=.ite (qgc v (qad v2) v4 (qad v5)) (.ite (bNot (qjK v (qad v2) v4 (qad v5))) (.ret (.bool false)) (.ite (iNe (xLen v3) (xLen v6)) (.ret (.bool false)) (.ite (qlx 0 v v2 v3 v4 v5 v6) (.ret (.bool (qho 0 v v2 v3 v4 v5 v6))) (.ite (qlJ 0 v v2 v3 v4 v5 v6) (.ret (.bool true)) .fail)))) .fail
theorem qKi (v:qU) (v2 v3:qR) (v4:qU) (v5 v6:qR):(tcall tbT qjh qwu Tryz.f20 [.agg [.str v,.sl v2 .non,.sl v3 .non],.agg [.str v4,.sl v5 .non,.sl v6 .non]]).flat=qsw v v2 v3 v4 v5 v6:=by kernel_rfl
def qqi (v:qU) (v2 v3:qR) (v4:qU) (v5 v6:qR):Option PV:=(qsw v v2 v3 v4 v5 v6).run
def qqk (v:qU) (v2 v3:qR) (v4:qU) (v5 v6:qR):Bool:=(qbQ (gVal (qqi v v2 v3 v4 v5 v6)))
def qol (v:qU) (v2 v3:qR) (v4:qU) (v5 v6:qR):Bool:=isW (qqi v v2 v3 v4 v5 v6) (.bool (qqk v v2 v3 v4 v5 v6))
def qyp:List PV→Tr PV|[.agg [.str v,.sl v2 .non,.sl v3 .non],.agg [.str v4,.sl v5 .non,.sl v6 .non]]=>.ite (qol v v2 v3 v4 v5 v6) (.ret (.bool (qqk v v2 v3 v4 v5 v6))) (.fail)|_=>.fail
theorem qFF (gl:Gl):SimP Tryz.prog gl 20 fun args=>(qyp args).run:=by
 refine SimP.of_flat (G:=qjh) (L:=qwu) qai (qvd gl ) qah  Tryz.func20 rfl (by rfl) (by kernel_rfl) (qax (L:=lps qwu) [(4,qiv)] (by kernel_rfl) (List.forall_mem_cons.2 ⟨fun fr σ e fr' σ' h=>qyW gl  fr σ e fr' σ' h,(List.forall_mem_nil _)⟩)) ?_
 intro args x h;unfold qyp at h
 split at h
 ·exact (congrArg Tr.run (qKi _ _ _ _ _ _)).trans (qae h fun h=>by cases h)
 ·cases h
def qnB:GamT:=ofL []
theorem quh (gl:Gl):qam Tryz.prog gl (gam qnB):=qag
def qnn:Code:=qc3 Tryz.f41 4
def qmV:LI:=⟨45,[2,3,5],fun e=>match e with|.ret=>[4]|.exit 0=>[]|_=>[],true⟩
def qo0:LpsT:=fun r fr σ=>.fail
def qcg (vs:List PV) (σ:Store):Option (PExit×List PV×Store):=lval (lstep tbT qnB qo0 qnn qmV) vs σ
def qjv (i:Int) (s:qU) (b:Bool) (r:qR) (s2:qU) (b2:Bool) (r2:qR):Tr LR:=let z1:Store:=Store.mk [[.str s,.bool b,.sl r .non],[.str s2,.bool b2,.sl r2 .non]] [] [80,80];.ite (iLt i (xLen r)) (.ite (qas i) (.ite (qbo [.int .i64 0] r (nNat i)) (.ite (qas i) (.ite (qbo [.int .i64 0] r2 (nNat i)) (.ite (iNe (xInt r (nNat i) 0) (xInt r2 (nNat i) 0)) (.ret (.out .ret [.bool false] z1)) (.ret (.next [.ptr 0 0,.ptr 1 0,.int .i64 (iAdd .i64 i 1)] z1))) .fail) .fail) .fail) .fail) (.ret (.out (.exit 0) [] z1))
theorem qGz (i:Int) (s:qU) (b:Bool) (r:qR) (s2:qU) (b2:Bool) (r2:qR):lstep tbT qnB qo0 qnn qmV [.ptr 0 0,.ptr 1 0,.int .i64 i] ⟨[[.str s,.bool b,.sl r .non],[.str s2,.bool b2,.sl r2 .non]],[],[80,80]⟩=qjv i s b r s2 b2 r2:=by kernel_rfl
theorem qze (i:Int) (s:qU) (b:Bool) (r:qR) (s2:qU) (b2:Bool) (r2:qR):qcg [.ptr 0 0,.ptr 1 0,.int .i64 i] ⟨[[.str s,.bool b,.sl r .non],[.str s2,.bool b2,.sl r2 .non]],[],[80,80]⟩=lnext qcg (qjv i s b r s2 b2 r2).run:=by unfold qcg;rw [qaJ,qGz]
def ql2 (i:Int) (s:qU) (b:Bool) (r:qR) (s2:qU) (b2:Bool) (r2:qR):Option (PExit×List PV×Store):=qcg [.ptr 0 0,.ptr 1 0,.int .i64 i] ⟨[[.str s,.bool b,.sl r .non],[.str s2,.bool b2,.sl r2 .non]],[],[80,80]⟩
def qg8 (i:Int) (s:qU) (b:Bool) (r:qR) (s2:qU) (b2:Bool) (r2:qR):Bool:=(qbQ (gOut (ql2 i s b r s2 b2 r2) 0))
def qkG (i:Int) (s:qU) (b:Bool) (r:qR) (s2:qU) (b2:Bool) (r2:qR):Bool:=isW (ql2 i s b r s2 b2 r2) (.ret,[.bool (qg8 i s b r s2 b2 r2)],⟨[[.str s,.bool b,.sl r .non],[.str s2,.bool b2,.sl r2 .non]],[],[80,80]⟩)
def qlw (i:Int) (s:qU) (b:Bool) (r:qR) (s2:qU) (b2:Bool) (r2:qR):Bool:=isW (ql2 i s b r s2 b2 r2) ((.exit 0),[],⟨[[.str s,.bool b,.sl r .non],[.str s2,.bool b2,.sl r2 .non]],[],[80,80]⟩)
def qfz:List PV→Store→Tr (PExit×List PV×Store)|[.ptr 0 0,.ptr 1 0,.int .i64 i],⟨[[.str s,.bool b,.sl r .non],[.str s2,.bool b2,.sl r2 .non]],[],[80,80]⟩=>.ite (qkG i s b r s2 b2 r2) (.ret (.ret,[.bool (qg8 i s b r s2 b2 r2)],⟨[[.str s,.bool b,.sl r .non],[.str s2,.bool b2,.sl r2 .non]],[],[80,80]⟩)) (.ite (qlw i s b r s2 b2 r2) (.ret ((.exit 0),[],⟨[[.str s,.bool b,.sl r .non],[.str s2,.bool b2,.sl r2 .non]],[],[80,80]⟩)) (.fail))|_,_=>.fail
theorem qFp:∀ vs σ r,(qfz vs σ).run=some r→qcg vs σ=some r:=by
 intro vs σ r h;unfold qfz at h
 split at h
 ·exact qae h fun h=>qae h fun h=>by cases h
 ·cases h
theorem qzf (gl:Gl):∀ fr σ e fr' σ',(orc qmV qfz fr σ).run=some (e,fr',σ')→LDoes Tryz.prog gl qnn fr σ e fr' σ':=qbu qai (quh gl ) qah (L:=qo0) (qac (by kernel_rfl)) (by kernel_rfl) qFp
def qwO:LpsT:=fun r fr σ=>bif Nat.beq r 4 then orc qmV qfz fr σ else .fail
def qtm (a:qU) (a2:Bool) (a3:qR) (b:qU) (b2:Bool) (b3:qR):Tr PV:=.ite (sNe a b) (.ret (.bool false)) (.ite (bNot (bEq a2 b2)) (.ret (.bool false)) (.ite (iNe (xLen a3) (xLen b3)) (.ret (.bool false)) (.ite (qkG 0 a a2 a3 b b2 b3) (.ret (.bool (qg8 0 a a2 a3 b b2 b3))) (.ite (qlw 0 a a2 a3 b b2 b3) (.ret (.bool true)) .fail))))
theorem qKA (a:qU) (a2:Bool) (a3:qR) (b:qU) (b2:Bool) (b3:qR):(tcall tbT qnB qwO Tryz.f41 [.agg [.str a,.bool a2,.sl a3 .non],.agg [.str b,.bool b2,.sl b3 .non]]).flat=qtm a a2 a3 b b2 b3:=by kernel_rfl
def qpW (a:qU) (a2:Bool) (a3:qR) (b:qU) (b2:Bool) (b3:qR):Option PV:=(qtm a a2 a3 b b2 b3).run
def qp3 (a:qU) (a2:Bool) (a3:qR) (b:qU) (b2:Bool) (b3:qR):Bool:=(qbQ (gVal (qpW a a2 a3 b b2 b3)))
def qot (a:qU) (a2:Bool) (a3:qR) (b:qU) (b2:Bool) (b3:qR):Bool:=isW (qpW a a2 a3 b b2 b3) (.bool (qp3 a a2 a3 b b2 b3))
def qwj:List PV→Tr PV|[.agg [.str a,.bool a2,.sl a3 .non],.agg [.str b,.bool b2,.sl b3 .non]]=>.ite (qot a a2 a3 b b2 b3) (.ret (.bool (qp3 a a2 a3 b b2 b3))) (.fail)|_=>.fail
theorem qEX (gl:Gl):SimP Tryz.prog gl 41 fun args=>(qwj args).run:=by
 refine SimP.of_flat (G:=qnB) (L:=qwO) qai (quh gl ) qah  Tryz.func41 rfl (by rfl) (by kernel_rfl) (qax (L:=lps qwO) [(4,qnn)] (by kernel_rfl) (List.forall_mem_cons.2 ⟨fun fr σ e fr' σ' h=>qzf gl  fr σ e fr' σ' h,(List.forall_mem_nil _)⟩)) ?_
 intro args x h;unfold qwj at h
 split at h
 ·exact (congrArg Tr.run (qKA _ _ _ _ _ _)).trans (qae h fun h=>by cases h)
 ·cases h
def qhP:GamT:=ofL [(21,.pure qqB)]
theorem qoe (gl:Gl):qam Tryz.prog gl (gam qhP):=(qaf (quI gl) qag)
def qlV:Code:=qc3 Tryz.f42 4
def qlQ:Code:=qc3 Tryz.f42 9
def qnN:LI:=⟨84,[2,3,5],fun e=>match e with|.ret=>[4]|.exit 0=>[2,3]|_=>[],true⟩
def qog:LpsT:=fun r fr σ=>.fail
def qco (vs:List PV) (σ:Store):Option (PExit×List PV×Store):=lval (lstep tbT qhP qog qlV qnN) vs σ
def qkp (n:Int) (s:qU) (r r2:qR) (s2:qU) (r3 r4:qR):Tr LR:=let z1:=nNat n;let z2:Store:=Store.mk [[.str s,.sl r .non,.sl r2 .non],[.str s2,.sl r3 .non,.sl r4 .non]] [] [85,85];.ite (iLt n (xLen r)) (.ite (qas n) (.ite (qbo [.str [],.int .i64 0] r z1) (.ite (qas n) (.ite (qbo [.str [],.int .i64 0] r3 z1) (.ite (bNot (bAnd (sEq (xStr r z1 0) (xStr r3 z1 0)) (bAnd (iEq (xInt r z1 1) (xInt r3 z1 1)) true))) (.ret (.out .ret [.bool false] z2)) (.ret (.next [.ptr 0 0,.ptr 1 0,.int .i64 (iAdd .i64 n 1)] z2))) .fail) .fail) .fail) .fail) (.ret (.out (.exit 0) [.ptr 0 0,.ptr 1 0] z2))
theorem qGN (n:Int) (s:qU) (r r2:qR) (s2:qU) (r3 r4:qR):lstep tbT qhP qog qlV qnN [.ptr 0 0,.ptr 1 0,.int .i64 n] ⟨[[.str s,.sl r .non,.sl r2 .non],[.str s2,.sl r3 .non,.sl r4 .non]],[],[85,85]⟩=qkp n s r r2 s2 r3 r4:=by kernel_rfl
theorem qzV (n:Int) (s:qU) (r r2:qR) (s2:qU) (r3 r4:qR):qco [.ptr 0 0,.ptr 1 0,.int .i64 n] ⟨[[.str s,.sl r .non,.sl r2 .non],[.str s2,.sl r3 .non,.sl r4 .non]],[],[85,85]⟩=lnext qco (qkp n s r r2 s2 r3 r4).run:=by unfold qco;rw [qaJ,qGN]
def qm8 (n:Int) (s:qU) (r r2:qR) (s2:qU) (r3 r4:qR):Option (PExit×List PV×Store):=qco [.ptr 0 0,.ptr 1 0,.int .i64 n] ⟨[[.str s,.sl r .non,.sl r2 .non],[.str s2,.sl r3 .non,.sl r4 .non]],[],[85,85]⟩
def qhs (n:Int) (s:qU) (r r2:qR) (s2:qU) (r3 r4:qR):Bool:=(qbQ (gOut (qm8 n s r r2 s2 r3 r4) 0))
def qlH (n:Int) (s:qU) (r r2:qR) (s2:qU) (r3 r4:qR):Bool:=isW (qm8 n s r r2 s2 r3 r4) (.ret,[.bool (qhs n s r r2 s2 r3 r4)],⟨[[.str s,.sl r .non,.sl r2 .non],[.str s2,.sl r3 .non,.sl r4 .non]],[],[85,85]⟩)
def qkQ (n:Int) (s:qU) (r r2:qR) (s2:qU) (r3 r4:qR):Bool:=isW (qm8 n s r r2 s2 r3 r4) ((.exit 0),[.ptr 0 0,.ptr 1 0],⟨[[.str s,.sl r .non,.sl r2 .non],[.str s2,.sl r3 .non,.sl r4 .non]],[],[85,85]⟩)
def qfv:List PV→Store→Tr (PExit×List PV×Store)|[.ptr 0 0,.ptr 1 0,.int .i64 n],⟨[[.str s,.sl r .non,.sl r2 .non],[.str s2,.sl r3 .non,.sl r4 .non]],[],[85,85]⟩=>.ite (qlH n s r r2 s2 r3 r4) (.ret (.ret,[.bool (qhs n s r r2 s2 r3 r4)],⟨[[.str s,.sl r .non,.sl r2 .non],[.str s2,.sl r3 .non,.sl r4 .non]],[],[85,85]⟩)) (.ite (qkQ n s r r2 s2 r3 r4) (.ret ((.exit 0),[.ptr 0 0,.ptr 1 0],⟨[[.str s,.sl r .non,.sl r2 .non],[.str s2,.sl r3 .non,.sl r4 .non]],[],[85,85]⟩)) (.fail))|_,_=>.fail
theorem qE8:∀ vs σ r,(qfv vs σ).run=some r→qco vs σ=some r:=by
 intro vs σ r h;unfold qfv at h
 split at h
 ·exact qae h fun h=>qae h fun h=>by cases h
 ·cases h
theorem qyt (gl:Gl):∀ fr σ e fr' σ',(orc qnN qfv fr σ).run=some (e,fr',σ')→LDoes Tryz.prog gl qlV fr σ e fr' σ':=qbu qai (qoe gl ) qah (L:=qog) (qac (by kernel_rfl)) (by kernel_rfl) qE8
def qnj:LI:=⟨84,[2,3,6],fun e=>match e with|.ret=>[4]|.exit 2=>[]|_=>[],true⟩
def qoE:LpsT:=fun r fr σ=>.fail
def qch (vs:List PV) (σ:Store):Option (PExit×List PV×Store):=lval (lstep tbT qhP qoE qlQ qnj) vs σ
def qj8 (n:Int) (s:qU) (r r2:qR) (s2:qU) (r3 r4:qR):Tr LR:=let z1:List PV:=[.bool false,.str [],.sl [] .full];let z2:=nNat n;let z3:Store:=Store.mk [[.str s,.sl r .non,.sl r2 .non],[.str s2,.sl r3 .non,.sl r4 .non]] [] [85,85];.ite (iLt n (xLen r2)) (.ite (qas n) (.ite (qbo z1 r2 z2) (.ite (qas n) (.ite (qbo z1 r4 z2) (.ite (bNot (bEq (qpl r2 z2 0) (qpl r4 z2 0))) (.ret (.out .ret [.bool false] z3)) (.ite (qas n) (.ite (qbo z1 r2 z2) (.ite (qas n) (.ite (qbo z1 r4 z2) (.ite (qgc (xStr r2 z2 1) (qad (xRow r2 z2 2)) (xStr r4 z2 1) (qad (xRow r4 z2 2))) (.ite (bNot (qjK (xStr r2 z2 1) (qad (xRow r2 z2 2)) (xStr r4 z2 1) (qad (xRow r4 z2 2)))) (.ret (.out .ret [.bool false] z3)) (.ret (.next [.ptr 0 0,.ptr 1 0,.int .i64 (iAdd .i64 n 1)] z3))) .fail) .fail) .fail) .fail) .fail)) .fail) .fail) .fail) .fail) (.ret (.out (.exit 2) [] z3))
theorem qHj (n:Int) (s:qU) (r r2:qR) (s2:qU) (r3 r4:qR):lstep tbT qhP qoE qlQ qnj [.ptr 0 0,.ptr 1 0,.int .i64 n] ⟨[[.str s,.sl r .non,.sl r2 .non],[.str s2,.sl r3 .non,.sl r4 .non]],[],[85,85]⟩=qj8 n s r r2 s2 r3 r4:=by kernel_rfl
theorem qzl (n:Int) (s:qU) (r r2:qR) (s2:qU) (r3 r4:qR):qch [.ptr 0 0,.ptr 1 0,.int .i64 n] ⟨[[.str s,.sl r .non,.sl r2 .non],[.str s2,.sl r3 .non,.sl r4 .non]],[],[85,85]⟩=lnext qch (qj8 n s r r2 s2 r3 r4).run:=by unfold qch;rw [qaJ,qHj]
def qmC (n:Int) (s:qU) (r r2:qR) (s2:qU) (r3 r4:qR):Option (PExit×List PV×Store):=qch [.ptr 0 0,.ptr 1 0,.int .i64 n] ⟨[[.str s,.sl r .non,.sl r2 .non],[.str s2,.sl r3 .non,.sl r4 .non]],[],[85,85]⟩
def qhv (n:Int) (s:qU) (r r2:qR) (s2:qU) (r3 r4:qR):Bool:=(qbQ (gOut (qmC n s r r2 s2 r3 r4) 0))
def qll (n:Int) (s:qU) (r r2:qR) (s2:qU) (r3 r4:qR):Bool:=isW (qmC n s r r2 s2 r3 r4) (.ret,[.bool (qhv n s r r2 s2 r3 r4)],⟨[[.str s,.sl r .non,.sl r2 .non],[.str s2,.sl r3 .non,.sl r4 .non]],[],[85,85]⟩)
def qlb (n:Int) (s:qU) (r r2:qR) (s2:qU) (r3 r4:qR):Bool:=isW (qmC n s r r2 s2 r3 r4) ((.exit 2),[],⟨[[.str s,.sl r .non,.sl r2 .non],[.str s2,.sl r3 .non,.sl r4 .non]],[],[85,85]⟩)
def qfl:List PV→Store→Tr (PExit×List PV×Store)|[.ptr 0 0,.ptr 1 0,.int .i64 n],⟨[[.str s,.sl r .non,.sl r2 .non],[.str s2,.sl r3 .non,.sl r4 .non]],[],[85,85]⟩=>.ite (qll n s r r2 s2 r3 r4) (.ret (.ret,[.bool (qhv n s r r2 s2 r3 r4)],⟨[[.str s,.sl r .non,.sl r2 .non],[.str s2,.sl r3 .non,.sl r4 .non]],[],[85,85]⟩)) (.ite (qlb n s r r2 s2 r3 r4) (.ret ((.exit 2),[],⟨[[.str s,.sl r .non,.sl r2 .non],[.str s2,.sl r3 .non,.sl r4 .non]],[],[85,85]⟩)) (.fail))|_,_=>.fail
theorem qEE:∀ vs σ r,(qfl vs σ).run=some r→qch vs σ=some r:=by
 intro vs σ r h;unfold qfl at h
 split at h
 ·exact qae h fun h=>qae h fun h=>by cases h
 ·cases h
theorem qzT (gl:Gl):∀ fr σ e fr' σ',(orc qnj qfl fr σ).run=some (e,fr',σ')→LDoes Tryz.prog gl qlQ fr σ e fr' σ':=qbu qai (qoe gl ) qah (L:=qoE) (qac (by kernel_rfl)) (by kernel_rfl) qEE
def qvV:LpsT:=fun r fr σ=>bif Nat.beq r 4 then orc qnN qfv fr σ else bif Nat.beq r 9 then orc qnj qfl fr σ else .fail
def qsR (v:qU) (v2 v3:qR) (v4:qU) (v5 v6:qR):Tr PV:=.ite (sNe v v4) (.ret (.bool false)) (.ite (iNe (xLen v2) (xLen v5)) (.ret (.bool false)) (.ite (iNe (xLen v3) (xLen v6)) (.ret (.bool false)) (.ite (qlH 0 v v2 v3 v4 v5 v6) (.ret (.bool (qhs 0 v v2 v3 v4 v5 v6))) (.ite (qkQ 0 v v2 v3 v4 v5 v6) (.ite (qll 0 v v2 v3 v4 v5 v6) (.ret (.bool (qhv 0 v v2 v3 v4 v5 v6))) (.ite (qlb 0 v v2 v3 v4 v5 v6) (.ret (.bool true)) .fail)) .fail))))
theorem qKa (v:qU) (v2 v3:qR) (v4:qU) (v5 v6:qR):(tcall tbT qhP qvV Tryz.f42 [.agg [.str v,.sl v2 .non,.sl v3 .non],.agg [.str v4,.sl v5 .non,.sl v6 .non]]).flat=qsR v v2 v3 v4 v5 v6:=by kernel_rfl
def qrl (v:qU) (v2 v3:qR) (v4:qU) (v5 v6:qR):Option PV:=(qsR v v2 v3 v4 v5 v6).run
def qp4 (v:qU) (v2 v3:qR) (v4:qU) (v5 v6:qR):Bool:=(qbQ (gVal (qrl v v2 v3 v4 v5 v6)))
def qnX (v:qU) (v2 v3:qR) (v4:qU) (v5 v6:qR):Bool:=isW (qrl v v2 v3 v4 v5 v6) (.bool (qp4 v v2 v3 v4 v5 v6))
def qya:List PV→Tr PV|[.agg [.str v,.sl v2 .non,.sl v3 .non],.agg [.str v4,.sl v5 .non,.sl v6 .non]]=>.ite (qnX v v2 v3 v4 v5 v6) (.ret (.bool (qp4 v v2 v3 v4 v5 v6))) (.fail)|_=>.fail
theorem qD9 (gl:Gl):SimP Tryz.prog gl 42 fun args=>(qya args).run:=by
 refine SimP.of_flat (G:=qhP) (L:=qvV) qai (qoe gl ) qah  Tryz.func42 rfl (by rfl) (by kernel_rfl) (qax (L:=lps qvV) [(4,qlV),(9,qlQ)] (by kernel_rfl) (List.forall_mem_cons.2 ⟨fun fr σ e fr' σ' h=>qyt gl  fr σ e fr' σ' h,(List.forall_mem_cons.2 ⟨fun fr σ e fr' σ' h=>qzT gl  fr σ e fr' σ' h,(List.forall_mem_nil _)⟩)⟩)) ?_
 intro args x h;unfold qya at h
 split at h
 ·exact (congrArg Tr.run (qKa _ _ _ _ _ _)).trans (qae h fun h=>by cases h)
 ·cases h
def qgJ:GamT:=ofL [(20,.pure qyp),(41,.pure qwj),(42,.pure qya)]
theorem qm6 (gl:Gl):qam Tryz.prog gl (gam qgJ):=(qaf (qFF gl) (qaf (qEX gl) (qaf (qD9 gl) qag)))
def qqN:Code:=qc3 Tryz.f13 4
def qqa:Code:=qc3 Tryz.f13 9
def qqF:Code:=qc3 Tryz.f13 14
def qqh:LI:=⟨90,[2,3,5],fun e=>match e with|.ret=>[4]|.exit 0=>[2,3]|_=>[],true⟩
def qsN:LpsT:=fun r fr σ=>.fail
def qdC (vs:List PV) (σ:Store):Option (PExit×List PV×Store):=lval (lstep tbT qgJ qsN qqN qqh) vs σ
def ql6 (n:Int) (r r2 r3 r4 r5 r6:qR):Tr LR:=let z1:List PV:=[.str [],.bool false,.sl [] .full];let z2:=nNat n;let z3:Store:=Store.mk [[.sl r .non,.sl r2 .non,.sl r3 .non],[.sl r4 .non,.sl r5 .non,.sl r6 .non]] [] [27,27];.ite (iLt n (xLen r)) (.ite (qas n) (.ite (qbo z1 r z2) (.ite (qas n) (.ite (qbo z1 r4 z2) (.ite (qot (xStr r z2 0) (qpl r z2 1) (qad (xRow r z2 2)) (xStr r4 z2 0) (qpl r4 z2 1) (qad (xRow r4 z2 2))) (.ite (bNot (qp3 (xStr r z2 0) (qpl r z2 1) (qad (xRow r z2 2)) (xStr r4 z2 0) (qpl r4 z2 1) (qad (xRow r4 z2 2)))) (.ret (.out .ret [.bool false] z3)) (.ret (.next [.ptr 0 0,.ptr 1 0,.int .i64 (iAdd .i64 n 1)] z3))) .fail) .fail) .fail) .fail) .fail) (.ret (.out (.exit 0) [.ptr 0 0,.ptr 1 0] z3))
theorem qKT (n:Int) (r r2 r3 r4 r5 r6:qR):lstep tbT qgJ qsN qqN qqh [.ptr 0 0,.ptr 1 0,.int .i64 n] ⟨[[.sl r .non,.sl r2 .non,.sl r3 .non],[.sl r4 .non,.sl r5 .non,.sl r6 .non]],[],[27,27]⟩=ql6 n r r2 r3 r4 r5 r6:=by kernel_rfl
theorem qC5 (n:Int) (r r2 r3 r4 r5 r6:qR):qdC [.ptr 0 0,.ptr 1 0,.int .i64 n] ⟨[[.sl r .non,.sl r2 .non,.sl r3 .non],[.sl r4 .non,.sl r5 .non,.sl r6 .non]],[],[27,27]⟩=lnext qdC (ql6 n r r2 r3 r4 r5 r6).run:=by unfold qdC;rw [qaJ,qKT]
def qql (n:Int) (r r2 r3 r4 r5 r6:qR):Option (PExit×List PV×Store):=qdC [.ptr 0 0,.ptr 1 0,.int .i64 n] ⟨[[.sl r .non,.sl r2 .non,.sl r3 .non],[.sl r4 .non,.sl r5 .non,.sl r6 .non]],[],[27,27]⟩
def qka (n:Int) (r r2 r3 r4 r5 r6:qR):Bool:=(qbQ (gOut (qql n r r2 r3 r4 r5 r6) 0))
def qn8 (n:Int) (r r2 r3 r4 r5 r6:qR):Bool:=isW (qql n r r2 r3 r4 r5 r6) (.ret,[.bool (qka n r r2 r3 r4 r5 r6)],⟨[[.sl r .non,.sl r2 .non,.sl r3 .non],[.sl r4 .non,.sl r5 .non,.sl r6 .non]],[],[27,27]⟩)
def qoz (n:Int) (r r2 r3 r4 r5 r6:qR):Bool:=isW (qql n r r2 r3 r4 r5 r6) ((.exit 0),[.ptr 0 0,.ptr 1 0],⟨[[.sl r .non,.sl r2 .non,.sl r3 .non],[.sl r4 .non,.sl r5 .non,.sl r6 .non]],[],[27,27]⟩)
def qhK:List PV→Store→Tr (PExit×List PV×Store)|[.ptr 0 0,.ptr 1 0,.int .i64 n],⟨[[.sl r .non,.sl r2 .non,.sl r3 .non],[.sl r4 .non,.sl r5 .non,.sl r6 .non]],[],[27,27]⟩=>.ite (qn8 n r r2 r3 r4 r5 r6) (.ret (.ret,[.bool (qka n r r2 r3 r4 r5 r6)],⟨[[.sl r .non,.sl r2 .non,.sl r3 .non],[.sl r4 .non,.sl r5 .non,.sl r6 .non]],[],[27,27]⟩)) (.ite (qoz n r r2 r3 r4 r5 r6) (.ret ((.exit 0),[.ptr 0 0,.ptr 1 0],⟨[[.sl r .non,.sl r2 .non,.sl r3 .non],[.sl r4 .non,.sl r5 .non,.sl r6 .non]],[],[27,27]⟩)) (.fail))|_,_=>.fail
theorem qGD:∀ vs σ r,(qhK vs σ).run=some r→qdC vs σ=some r:=by
 intro vs σ r h;unfold qhK at h
 split at h
 ·exact qae h fun h=>qae h fun h=>by cases h
 ·cases h
theorem qAr (gl:Gl):∀ fr σ e fr' σ',(orc qqh qhK fr σ).run=some (e,fr',σ')→LDoes Tryz.prog gl qqN fr σ e fr' σ':=qbu qai (qm6 gl ) qah (L:=qsN) (qac (by kernel_rfl)) (by kernel_rfl) qGD
def qru:LI:=⟨90,[2,3,6],fun e=>match e with|.ret=>[4]|.exit 2=>[2,3]|_=>[],true⟩
def qrQ:LpsT:=fun r fr σ=>.fail
def qdz (vs:List PV) (σ:Store):Option (PExit×List PV×Store):=lval (lstep tbT qgJ qrQ qqa qru) vs σ
def qny (n:Int) (r r2 r3 r4 r5 r6:qR):Tr LR:=let z1:List PV:=[.str [],.sl [] .full,.sl [] .full];let z2:=nNat n;let z3:Store:=Store.mk [[.sl r .non,.sl r2 .non,.sl r3 .non],[.sl r4 .non,.sl r5 .non,.sl r6 .non]] [] [27,27];.ite (iLt n (xLen r2)) (.ite (qas n) (.ite (qbo z1 r2 z2) (.ite (qas n) (.ite (qbo z1 r5 z2) (.ite (qnX (xStr r2 z2 0) (qad (xRow r2 z2 1)) (qad (xRow r2 z2 2)) (xStr r5 z2 0) (qad (xRow r5 z2 1)) (qad (xRow r5 z2 2))) (.ite (bNot (qp4 (xStr r2 z2 0) (qad (xRow r2 z2 1)) (qad (xRow r2 z2 2)) (xStr r5 z2 0) (qad (xRow r5 z2 1)) (qad (xRow r5 z2 2)))) (.ret (.out .ret [.bool false] z3)) (.ret (.next [.ptr 0 0,.ptr 1 0,.int .i64 (iAdd .i64 n 1)] z3))) .fail) .fail) .fail) .fail) .fail) (.ret (.out (.exit 2) [.ptr 0 0,.ptr 1 0] z3))
theorem qKh (n:Int) (r r2 r3 r4 r5 r6:qR):lstep tbT qgJ qrQ qqa qru [.ptr 0 0,.ptr 1 0,.int .i64 n] ⟨[[.sl r .non,.sl r2 .non,.sl r3 .non],[.sl r4 .non,.sl r5 .non,.sl r6 .non]],[],[27,27]⟩=qny n r r2 r3 r4 r5 r6:=by kernel_rfl
theorem qDT (n:Int) (r r2 r3 r4 r5 r6:qR):qdz [.ptr 0 0,.ptr 1 0,.int .i64 n] ⟨[[.sl r .non,.sl r2 .non,.sl r3 .non],[.sl r4 .non,.sl r5 .non,.sl r6 .non]],[],[27,27]⟩=lnext qdz (qny n r r2 r3 r4 r5 r6).run:=by unfold qdz;rw [qaJ,qKh]
def qpS (n:Int) (r r2 r3 r4 r5 r6:qR):Option (PExit×List PV×Store):=qdz [.ptr 0 0,.ptr 1 0,.int .i64 n] ⟨[[.sl r .non,.sl r2 .non,.sl r3 .non],[.sl r4 .non,.sl r5 .non,.sl r6 .non]],[],[27,27]⟩
def qjR (n:Int) (r r2 r3 r4 r5 r6:qR):Bool:=(qbQ (gOut (qpS n r r2 r3 r4 r5 r6) 0))
def qnZ (n:Int) (r r2 r3 r4 r5 r6:qR):Bool:=isW (qpS n r r2 r3 r4 r5 r6) (.ret,[.bool (qjR n r r2 r3 r4 r5 r6)],⟨[[.sl r .non,.sl r2 .non,.sl r3 .non],[.sl r4 .non,.sl r5 .non,.sl r6 .non]],[],[27,27]⟩)
def qn4 (n:Int) (r r2 r3 r4 r5 r6:qR):Bool:=isW (qpS n r r2 r3 r4 r5 r6) ((.exit 2),[.ptr 0 0,.ptr 1 0],⟨[[.sl r .non,.sl r2 .non,.sl r3 .non],[.sl r4 .non,.sl r5 .non,.sl r6 .non]],[],[27,27]⟩)
def qg3:List PV→Store→Tr (PExit×List PV×Store)|[.ptr 0 0,.ptr 1 0,.int .i64 n],⟨[[.sl r .non,.sl r2 .non,.sl r3 .non],[.sl r4 .non,.sl r5 .non,.sl r6 .non]],[],[27,27]⟩=>.ite (qnZ n r r2 r3 r4 r5 r6) (.ret (.ret,[.bool (qjR n r r2 r3 r4 r5 r6)],⟨[[.sl r .non,.sl r2 .non,.sl r3 .non],[.sl r4 .non,.sl r5 .non,.sl r6 .non]],[],[27,27]⟩)) (.ite (qn4 n r r2 r3 r4 r5 r6) (.ret ((.exit 2),[.ptr 0 0,.ptr 1 0],⟨[[.sl r .non,.sl r2 .non,.sl r3 .non],[.sl r4 .non,.sl r5 .non,.sl r6 .non]],[],[27,27]⟩)) (.fail))|_,_=>.fail
theorem qGE:∀ vs σ r,(qg3 vs σ).run=some r→qdz vs σ=some r:=by
 intro vs σ r h;unfold qg3 at h
 split at h
 ·exact qae h fun h=>qae h fun h=>by cases h
 ·cases h
theorem qCu (gl:Gl):∀ fr σ e fr' σ',(orc qru qg3 fr σ).run=some (e,fr',σ')→LDoes Tryz.prog gl qqa fr σ e fr' σ':=qbu qai (qm6 gl ) qah (L:=qrQ) (qac (by kernel_rfl)) (by kernel_rfl) qGE
def qpP:LI:=⟨90,[2,3,7],fun e=>match e with|.ret=>[4]|.exit 4=>[]|_=>[],true⟩
def qso:LpsT:=fun r fr σ=>.fail
def qdB (vs:List PV) (σ:Store):Option (PExit×List PV×Store):=lval (lstep tbT qgJ qso qqF qpP) vs σ
def qng (n:Int) (r r2 r3 r4 r5 r6:qR):Tr LR:=let z1:List PV:=[.str [],.sl [] .full,.sl [] .full];let z2:=nNat n;let z3:Store:=Store.mk [[.sl r .non,.sl r2 .non,.sl r3 .non],[.sl r4 .non,.sl r5 .non,.sl r6 .non]] [] [27,27];.ite (iLt n (xLen r3)) (.ite (qas n) (.ite (qbo z1 r3 z2) (.ite (qas n) (.ite (qbo z1 r6 z2) (.ite (qol (xStr r3 z2 0) (qad (xRow r3 z2 1)) (qad (xRow r3 z2 2)) (xStr r6 z2 0) (qad (xRow r6 z2 1)) (qad (xRow r6 z2 2))) (.ite (bNot (qqk (xStr r3 z2 0) (qad (xRow r3 z2 1)) (qad (xRow r3 z2 2)) (xStr r6 z2 0) (qad (xRow r6 z2 1)) (qad (xRow r6 z2 2)))) (.ret (.out .ret [.bool false] z3)) (.ret (.next [.ptr 0 0,.ptr 1 0,.int .i64 (iAdd .i64 n 1)] z3))) .fail) .fail) .fail) .fail) .fail) (.ret (.out (.exit 4) [] z3))
theorem qKQ (n:Int) (r r2 r3 r4 r5 r6:qR):lstep tbT qgJ qso qqF qpP [.ptr 0 0,.ptr 1 0,.int .i64 n] ⟨[[.sl r .non,.sl r2 .non,.sl r3 .non],[.sl r4 .non,.sl r5 .non,.sl r6 .non]],[],[27,27]⟩=qng n r r2 r3 r4 r5 r6:=by kernel_rfl
theorem qCz (n:Int) (r r2 r3 r4 r5 r6:qR):qdB [.ptr 0 0,.ptr 1 0,.int .i64 n] ⟨[[.sl r .non,.sl r2 .non,.sl r3 .non],[.sl r4 .non,.sl r5 .non,.sl r6 .non]],[],[27,27]⟩=lnext qdB (qng n r r2 r3 r4 r5 r6).run:=by unfold qdB;rw [qaJ,qKQ]
def qqA (n:Int) (r r2 r3 r4 r5 r6:qR):Option (PExit×List PV×Store):=qdB [.ptr 0 0,.ptr 1 0,.int .i64 n] ⟨[[.sl r .non,.sl r2 .non,.sl r3 .non],[.sl r4 .non,.sl r5 .non,.sl r6 .non]],[],[27,27]⟩
def qj0 (n:Int) (r r2 r3 r4 r5 r6:qR):Bool:=(qbQ (gOut (qqA n r r2 r3 r4 r5 r6) 0))
def qoi (n:Int) (r r2 r3 r4 r5 r6:qR):Bool:=isW (qqA n r r2 r3 r4 r5 r6) (.ret,[.bool (qj0 n r r2 r3 r4 r5 r6)],⟨[[.sl r .non,.sl r2 .non,.sl r3 .non],[.sl r4 .non,.sl r5 .non,.sl r6 .non]],[],[27,27]⟩)
def qoQ (n:Int) (r r2 r3 r4 r5 r6:qR):Bool:=isW (qqA n r r2 r3 r4 r5 r6) ((.exit 4),[],⟨[[.sl r .non,.sl r2 .non,.sl r3 .non],[.sl r4 .non,.sl r5 .non,.sl r6 .non]],[],[27,27]⟩)
def qhN:List PV→Store→Tr (PExit×List PV×Store)|[.ptr 0 0,.ptr 1 0,.int .i64 n],⟨[[.sl r .non,.sl r2 .non,.sl r3 .non],[.sl r4 .non,.sl r5 .non,.sl r6 .non]],[],[27,27]⟩=>.ite (qoi n r r2 r3 r4 r5 r6) (.ret (.ret,[.bool (qj0 n r r2 r3 r4 r5 r6)],⟨[[.sl r .non,.sl r2 .non,.sl r3 .non],[.sl r4 .non,.sl r5 .non,.sl r6 .non]],[],[27,27]⟩)) (.ite (qoQ n r r2 r3 r4 r5 r6) (.ret ((.exit 4),[],⟨[[.sl r .non,.sl r2 .non,.sl r3 .non],[.sl r4 .non,.sl r5 .non,.sl r6 .non]],[],[27,27]⟩)) (.fail))|_,_=>.fail
theorem qHE:∀ vs σ r,(qhN vs σ).run=some r→qdB vs σ=some r:=by
 intro vs σ r h;unfold qhN at h
 split at h
 ·exact qae h fun h=>qae h fun h=>by cases h
 ·cases h
theorem qBv (gl:Gl):∀ fr σ e fr' σ',(orc qpP qhN fr σ).run=some (e,fr',σ')→LDoes Tryz.prog gl qqF fr σ e fr' σ':=qbu qai (qm6 gl ) qah (L:=qso) (qac (by kernel_rfl)) (by kernel_rfl) qHE
def qAX:LpsT:=fun r fr σ=>bif Nat.beq r 4 then orc qqh qhK fr σ else bif Nat.beq r 9 then orc qru qg3 fr σ else bif Nat.beq r 14 then orc qpP qhN fr σ else .fail
def qxk (v v2 v3 v4 v5 v6:qR):Tr PV:=.ite (iNe (xLen v) (xLen v4)) (.ret (.bool false)) (.ite (iNe (xLen v2) (xLen v5)) (.ret (.bool false)) (.ite (iNe (xLen v3) (xLen v6)) (.ret (.bool false)) (.ite (qn8 0 v v2 v3 v4 v5 v6) (.ret (.bool (qka 0 v v2 v3 v4 v5 v6))) (.ite (qoz 0 v v2 v3 v4 v5 v6) (.ite (qnZ 0 v v2 v3 v4 v5 v6) (.ret (.bool (qjR 0 v v2 v3 v4 v5 v6))) (.ite (qn4 0 v v2 v3 v4 v5 v6) (.ite (qoi 0 v v2 v3 v4 v5 v6) (.ret (.bool (qj0 0 v v2 v3 v4 v5 v6))) (.ite (qoQ 0 v v2 v3 v4 v5 v6) (.ret (.bool true)) .fail)) .fail)) .fail))))
theorem qNF (v v2 v3 v4 v5 v6:qR):(tcall tbT qgJ qAX Tryz.f13 [.agg [.sl v .non,.sl v2 .non,.sl v3 .non],.agg [.sl v4 .non,.sl v5 .non,.sl v6 .non]]).flat=qxk v v2 v3 v4 v5 v6:=by kernel_rfl
def qwV (v v2 v3 v4 v5 v6:qR):Option PV:=(qxk v v2 v3 v4 v5 v6).run
def qo1 (v v2 v3 v4 v5 v6:qR):Bool:=(qbQ (gVal (qwV v v2 v3 v4 v5 v6)))
def qio (v v2 v3 v4 v5 v6:qR):Bool:=isW (qwV v v2 v3 v4 v5 v6) (.bool (qo1 v v2 v3 v4 v5 v6))
def qx5:List PV→Tr PV|[.agg [.sl v .non,.sl v2 .non,.sl v3 .non],.agg [.sl v4 .non,.sl v5 .non,.sl v6 .non]]=>.ite (qio v v2 v3 v4 v5 v6) (.ret (.bool (qo1 v v2 v3 v4 v5 v6))) (.fail)|_=>.fail
theorem qza (gl:Gl):SimP Tryz.prog gl 13 fun args=>(qx5 args).run:=by
 refine SimP.of_flat (G:=qgJ) (L:=qAX) qai (qm6 gl ) qah  Tryz.func13 rfl (by rfl) (by kernel_rfl) (qax (L:=lps qAX) [(4,qqN),(9,qqa),(14,qqF)] (by kernel_rfl) (List.forall_mem_cons.2 ⟨fun fr σ e fr' σ' h=>qAr gl  fr σ e fr' σ' h,(List.forall_mem_cons.2 ⟨fun fr σ e fr' σ' h=>qCu gl  fr σ e fr' σ' h,(List.forall_mem_cons.2 ⟨fun fr σ e fr' σ' h=>qBv gl  fr σ e fr' σ' h,(List.forall_mem_nil _)⟩)⟩)⟩)) ?_
 intro args x h;unfold qx5 at h
 split at h
 ·exact (congrArg Tr.run (qNF _ _ _ _ _ _)).trans (qae h fun h=>by cases h)
 ·cases h
def qv2:GamT:=ofL [(11,.pure qsg),(16,.pure qxc)]
theorem qFD (gl:Gl) (hg:GlLex gl):qam Tryz.prog gl (gam qv2):=(qaf (qtq gl hg) (qaf (qy4 gl hg) qag))
def qDF:LpsT:=fun r fr σ=>.fail
def qr8:Tr PV:=let z1:=qlY [112,40,88,41,32,58,45,32,113,40,88,44,32,95,41,44,32,88,32,33,61,32,45,51,46];let z2:List PV:=[.int .i64 0,.str [],.sl [] .full,.int .i64 0,.int .i64 0,.str [],.int .i64 0,.int .i64 0,.str [],.int .i64 0,.str [],.int .i64 0,.int .i64 0,.str []];.ite (qmW [112,40,88,41,32,58,45,32,113,40,88,44,32,95,41,44,32,88,32,33,61,32,45,51,46]) (.ite (qdK [112,40,88,41,32,58,45,32,46]) (.ite (iEq (qmg [112,40,88,41,32,58,45,32,113,40,88,44,32,95,41,44,32,88,32,33,61,32,45,51,46]) 0) (.ite (iEq (qd8 [112,40,88,41,32,58,45,32,46]) 130) (.ite (iEq (qx3 [112,40,88,41,32,58,45,32,46]) 8) (.ite (sEq (qrY [112,40,88,41,32,58,45,32,113,40,88,44,32,95,41,44,32,88,32,33,61,32,45,51,46]) [112]) (.ite (iEq (xLen z1) 2) (.ite (qas 0) (.ite (qbo z2 z1 (nNat 0)) (.ite (iEq (xInt z1 (nNat 0) 0) 1) (.ite (qas 0) (.ite (qbo z2 z1 (nNat 0)) (.ite (qas 1) (.ite (qbo [.int .i64 0,.str [],.int .i64 0,.int .i64 0,.str []] (xRow z1 (nNat 0) 2) (nNat 1)) (.ite (iEq (xInt (xRow z1 (nNat 0) 2) (nNat 1) 0) 3) (.ite (qas 1) (.ite (qbo z2 z1 (nNat 1)) (.ite (iEq (xInt z1 (nNat 1) 3) 2) (.ite (qas 1) (.ite (qbo z2 z1 (nNat 1)) (.ret (.bool (iEq (xInt z1 (nNat 1) 12) (-3)))) .fail) .fail) (.ret (.bool false))) .fail) .fail) (.ret (.bool false))) .fail) .fail) .fail) .fail) (.ret (.bool false))) .fail) .fail) (.ret (.bool false))) (.ret (.bool false))) (.ret (.bool false))) (.ret (.bool false))) (.ret (.bool false))) .fail) .fail
theorem qJM:(tcall tbT qv2 qDF Tryz.f14 []).flat=qr8:=by kernel_rfl
def qqS:Option PV:=(qr8).run
def qnA:Bool:=(qbQ (gVal (qqS)))
def qks:Bool:=isW (qqS) (.bool (qnA))
def qpA:List PV→Tr PV|[]=>.ite (qks) (.ret (.bool (qnA))) (.fail)|_=>.fail
theorem quw (gl:Gl) (hg:GlLex gl):SimP Tryz.prog gl 14 fun args=>(qpA args).run:=by
 refine SimP.of_flat (G:=qv2) (L:=qDF) qai (qFD gl hg ) qah  Tryz.func14 rfl (by rfl) (by kernel_rfl) (qac (by kernel_rfl)) ?_
 intro args x h;unfold qpA at h
 split at h
 ·exact (congrArg Tr.run (qJM)).trans (qae h fun h=>by cases h)
 ·cases h
def qFV:GamT:=ofL []
theorem qK5 (gl:Gl):qam Tryz.prog gl (gam qFV):=qag
def qLF:LpsT:=fun r fr σ=>.fail
def qsI (s:qU):Tr PV:=.ite (iLt 1500 (sLen s)) (.ite (iLe (sLen s) 65536) (.ite (qa1 true (qas 1500) 0 (nNat 1500) (nLen s)) (.ret (.str (sSub s 0 (nNat 1500)))) .fail) (.ret (.str s))) (.ret (.str s))
theorem qP4 (s:qU):(tcall tbT qFV qLF Tryz.f10 [.str s]).flat=qsI s:=by kernel_rfl
def quB (s:qU):Option PV:=(qsI s).run
def qzD (s:qU):qU:=(gStr (gVal (quB s)))
def qrB (s:qU):Bool:=isW (quB s) (.str (qzD s))
def qDQ:List PV→Tr PV|[.str s]=>.ite (qrB s) (.ret (.str (qzD s))) (.fail)|_=>.fail
theorem qCL (gl:Gl):SimP Tryz.prog gl 10 fun args=>(qDQ args).run:=by
 refine SimP.of_flat (G:=qFV) (L:=qLF) qai (qK5 gl ) qah  Tryz.func10 rfl (by rfl) (by kernel_rfl) (qac (by kernel_rfl)) ?_
 intro args x h;unfold qDQ at h
 split at h
 ·exact (congrArg Tr.run (qP4 _)).trans (qae h fun h=>by cases h)
 ·cases h
end Go.Pv
set_option maxHeartbeats 4000000
set_option maxRecDepth 200000
set_option linter.unusedSimpArgs false
set_option linter.unusedVariables false
namespace Go.Pv
open Go Go.Proofs
def qvi:GamT:=ofL [(10,.pure qDQ),(11,.pure qsg),(13,.pure qx5),(14,.pure qpA),(16,.pure qxc)]
theorem qFA (gl:Gl) (hg:GlLex gl):qam Tryz.prog gl (gam qvi):=(qaf (qCL gl) (qaf (qtq gl hg) (qaf (qza gl) (qaf (quw gl hg) (qaf (qy4 gl hg) qag)))))
def qCX:LpsT:=fun r fr σ=>.fail
def qnv (s:qU):Tr PV:=let z1:=qzD s;let z2:Tr PV:=.ite qks (.ret (.bool qnA)) .fail;let z3:qR:=[[.str (qrY z1),.sl (qad (qwl z1)) .non,.sl (qad (qlY z1)) .non]];.ite (qrB s) (.ite (qmW z1) (.ite (iNe (qmg z1) 0) z2 (.ite (qdK z1) (.ite (iEq (qd8 z1) 0) (.ite (qio (qad (qdr z1)) (qad (qbZ z1)) (qad (qbW z1)) [] [] z3) (.ite (qo1 (qad (qdr z1)) (qad (qbZ z1)) (qad (qbW z1)) [] [] z3) z2 (.ret (.bool false))) .fail) (.ret (.bool false))) .fail)) .fail) .fail
theorem qK0 (s:qU):(tcall tbT qvi qCX Tryz.f6 [.str s]).flat=qnv s:=by kernel_rfl
def qmx:List PV→Tr PV|[.str s]=>qnv s|_=>.fail
theorem qER (gl:Gl) (hg:GlLex gl):SimP Tryz.prog gl 6 fun args=>(qmx args).run:=by
 refine SimP.of_flat (G:=qvi) (L:=qCX) qai (qFA gl hg ) qah  Tryz.func6 rfl (by rfl) (by kernel_rfl) (qac (by kernel_rfl)) ?_
 intro args x h;unfold qmx at h
 split at h
 ·exact (congrArg Tr.run (qK0 _)).trans h
 ·cases h
end Go.Pv
set_option maxHeartbeats 4000000
set_option linter.unusedSimpArgs false
set_option linter.unusedVariables false
namespace Go.Pv
def qe6 (b:UInt8):Bool:=decide (97≤b.toNat)&&decide (b.toNat≤122)
def qiK (b:UInt8):Bool:=decide (65≤b.toNat)&&decide (b.toNat≤90)
def qat (b:UInt8):Bool:=decide (48≤b.toNat)&&decide (b.toNat≤57)
def innB (b:UInt8):Bool:=qe6 b || qiK b || qat b || decide (b.toNat=95)
def blB (b:UInt8):Bool:=decide (b.toNat=32) || decide (b.toNat=9) || decide (b.toNat=10) || decide (b.toNat=13)
def runL (p:UInt8→Bool):qU→Nat
 |[]=>0
 |b::s=>if p b then runL p s+1 else 0
def incN (n:Nat):Nat:=if n=0 then 0 else n+1
def quoE:Bool→qU→Nat
 |_,[]=>0
 |true,_::s=>incN (quoE false s)
 |false,b::s=>if b.toNat=34 then 1 else if b.toNat=92 then incN (quoE true s) else incN (quoE false s)
def quoL (s:qU):Nat:=quoE false s
theorem qAy {n m:Nat} (h:n≤m):incN n≤m+1:=by unfold incN;split<;>omega
def gapL:Bool→qU→Nat
 |_,[]=>0
 |c,b::s=>if c || blB b || decide (b.toNat=37) then gapL (decide (b.toNat=37) || c&&decide (b.toNat≠10)) s+1 else 0
def qh5 (b:UInt8):Bool:=[40,41,44,46,43,45,61,58,60,62].contains b.toNat
def twoB (a b:UInt8):Bool:=decide (a.toNat=58∧b.toNat=45) || decide (a.toNat=60∧b.toNat=61) || decide (a.toNat=62∧b.toNat=61) || decide (a.toNat=33∧b.toNat=61)
def hdIs (p:UInt8→Bool):qU→Bool
 |[]=>false
 |b::_=>p b
def qcI (c:UInt8) (t:qU):Nat:=if hdIs (twoB c) t then 2 else if qh5 c then 1 else 0
def valL (k:Int) (s:qU) (n:Nat):Option (Int×Nat×Vl):=match rdV (s.take n) with
 |some v=>some (k,n,v)
 |none=>none
def wdL:qU→Option (Int×Nat×Vl)
 |[]=>none
 |c::t =>
  if qe6 c then (if runL innB t+1≤64 then some (1,runL innB t+1,0,0,[]) else none)
  else if qiK c then (if runL innB t+1≤64 then some (2,runL innB t+1,0,0,[]) else none)
  else if c.toNat=95 then (if hdIs innB t then none else some (3,1,0,0,[]))
  else if qat c || (decide (c.toNat=45)&&hdIs qat t) then valL 4 (c::t) (runL qat t+1)
  else if c.toNat=34 then (if quoL t=0 then none else valL 5 (c::t) (quoL t+1))
  else if qcI c t=0 then none else some (6,qcI c t,0,0,[])
abbrev Wd:=Int×List UInt8×Vl×Int
def lexL:Nat→Nat→qU→List Wd×Option Nat
 |0,_,_=>([],none)
 |n+1,at_,s=>match s with
  |[]=>([],none)
  |_=>match wdL s with
   |none=>([],some at_)
   |some (k,m,v) =>
    let r:=lexL n (at_+m+gapL false (s.drop m)) (s.drop (m+gapL false (s.drop m)))
    ((k,s.take m,v,(at_:Int))::r.1,r.2)
def qa3 (s:qU):List Wd×Option Nat:=lexL (s.length+1) (gapL false s) (s.drop (gapL false s))
theorem qlj (p:UInt8→Bool):∀ s:qU,runL p s≤s.length
 |[]=>Nat.le_refl _
 |b::s=>by
  have:=qlj p s;unfold runL;split<;>simp only [List.length_cons]<;>omega
theorem qxl:∀ (e:Bool) (s:qU),quoE e s≤s.length
 |_,[]=>by cases ‹Bool›<;>exact Nat.le_refl _
 |true,_::s=>qAy (qxl false s)
 |false,b::s=>by
  have h1:=qAy (qxl true s);have h2:=qAy (qxl false s);simp only [quoE,List.length_cons];split
  ·omega
  ·split
   ·exact h1
   ·exact h2
theorem qB1 (s:qU):quoL s≤s.length:=qxl false s
theorem qgK:∀ (c:Bool) (s:qU),gapL c s≤s.length
 |_,[]=>Nat.le_refl _
 |c,b::s=>by
  have:=qgK (decide (b.toNat=37) || c&&decide (b.toNat≠10)) s;unfold gapL;split<;>simp only [List.length_cons]<;>omega
theorem qlK {s:List UInt8} {k:Int} {m:Nat} {v:Vl} (h:wdL s=some (k,m,v)):1≤m∧m≤s.length:=by
 cases s with
 |nil=>cases h
 |cons c t =>
  have h1:=qlj innB t;have h2:=qlj qat t;have h3:=qB1 t;have h4:qcI c t≤(c::t).length:=by
   unfold qcI;cases t with
   |nil=>cases qh5 c<;>simp [hdIs]
   |cons d t=>cases hdIs (twoB c) (d::t)<;>cases qh5 c<;>simp
  simp only [wdL] at h
  simp only [List.length_cons] at h4 ⊢
  repeat' (split at h)
  all_goals first|(cases h;done)|skip
  all_goals first|(cases h;omega)|(unfold valL at h;split at h<;>first|(cases h;done)|(cases h;omega))
def cW:Cod Wd where
 enc t:=[.int .i64 t.1,.str t.2.1,.int .i64 t.2.2.1.1,.int .i64 t.2.2.1.2.1,.str t.2.2.1.2.2,.int .i64 t.2.2.2]
 dec c:=match c with|[.int .i64 a,.str b,.int .i64 k,.int .i64 n,.str s,.int .i64 p]=>some (a,b,(k,n,s),p)|_=>none
 k:=6
 of_dec c a h:=by
  split at h
  ·cases h;rfl
  ·cases h
 dec_of a:=rfl
 lock a:=rfl
 shut a:=rfl
 len a:=rfl
 one a:=rfl
@[simp] theorem okSize_cW (l:List Wd):qan (rOf cW l) 6=true:=qbG cW l
@[simp] theorem okNews_cW (l:List Wd):qar (rOf cW l) 6=true:=qbH cW l
@[simp] theorem okGet_cW (l:List Wd) (i:Nat):qbo [.int .i64 0,.str [],.int .i64 0,.int .i64 0,.str [],.int .i64 0] (rOf cW l) i=decide (i < l.length):=qck _ _ (fun _=>rfl) l i
@[simp] theorem xInt_cW0 (l:List Wd) (i:Nat):xInt (rOf cW l) i 0=(l[i]?.getD (0,[],(0,0,[]),0)).1:=by unfold xInt;rw [qao];cases l[i]?<;>rfl
@[simp] theorem xStr_cW1 (l:List Wd) (i:Nat):xStr (rOf cW l) i 1=(l[i]?.getD (0,[],(0,0,[]),0)).2.1:=by unfold xStr;rw [qao];cases l[i]?<;>rfl
@[simp] theorem xInt_cW2 (l:List Wd) (i:Nat):xInt (rOf cW l) i 2=(l[i]?.getD (0,[],(0,0,[]),0)).2.2.1.1:=by unfold xInt;rw [qao];cases l[i]?<;>rfl
@[simp] theorem xInt_cW3 (l:List Wd) (i:Nat):xInt (rOf cW l) i 3=(l[i]?.getD (0,[],(0,0,[]),0)).2.2.1.2.1:=by unfold xInt;rw [qao];cases l[i]?<;>rfl
@[simp] theorem xStr_cW4 (l:List Wd) (i:Nat):xStr (rOf cW l) i 4=(l[i]?.getD (0,[],(0,0,[]),0)).2.2.1.2.2:=by unfold xStr;rw [qao];cases l[i]?<;>rfl
@[simp] theorem xInt_cW5 (l:List Wd) (i:Nat):xInt (rOf cW l) i 5=(l[i]?.getD (0,[],(0,0,[]),0)).2.2.2:=by unfold xInt;rw [qao];cases l[i]?<;>rfl
theorem qII (l:List Wd) (a:Int) (b:qU) (k n:Int) (s:qU) (p:Int):rOf cW l++[[.int .i64 a,.str b,.int .i64 k,.int .i64 n,.str s,.int .i64 p]]=rOf cW (l++[(a,b,(k,n,s),p)]):=by rw [qe2];rfl
theorem qLS (a:Int) (b:qU) (k n:Int) (s:qU) (p:Int):([[.int .i64 a,.str b,.int .i64 k,.int .i64 n,.str s,.int .i64 p]]:List (List PV))=rOf cW [(a,b,(k,n,s),p)]:=rfl
@[simp] theorem qHU (l:List Wd) (a:Int) (b:qU) (k n:Int) (s:qU) (p:Int):[.int .i64 a,.str b,.int .i64 k,.int .i64 n,.str s,.int .i64 p]::rOf cW l=rOf cW ((a,b,(k,n,s),p)::l):=rfl
end Go.Pv
