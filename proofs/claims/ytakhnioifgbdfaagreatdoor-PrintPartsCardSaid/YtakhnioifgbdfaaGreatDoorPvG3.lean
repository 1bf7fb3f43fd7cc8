/- Part 3 of the proof: pure values for the machine's values, what functions compute over them, and laws of what is computed. Conditions: none beyond each theorem's own premises. -/
import Derived.Test.YtakhnioifgbdfaaGreatDoorPvG2
import Derived.RangeFuncNested
import Derived.Test.YtakhnioifgbdfaaGreatDoorShelf
import Derived.Lib.LastIndexByte
set_option linter.unusedSimpArgs false
set_option linter.unusedVariables false
namespace Go.Pv
open Go.RowKit
def qiN (s:Nat):Option Code:=if s=2 then some .ret else if 3≤s then some (.exit (s - 3)) else none
def exOf (s:Nat):PExit:=if s=2 then .ret else if 3≤s then .exit (s - 3) else .normal
def stOf:PExit→Nat
 | .normal=>0
 | .ret=>2
 | .exit id=>3+id
def isNo:PExit→Bool
 | .normal=>true
 | _=>false
def recS (r:Loop) (s:Nat):Obj:=.loop { r with state:=if s=0 then .ready else if s=1 then .busy else .done,pending:=qiN s }
def glR (gl:Gl) (e:Nat) (r:Loop) (fr:List PV):Gl:=⟨gl.v,fun e' s=>if e'=e then recS r s else gl.lp e' s,fun e'=>if e'=e then fr else gl.fr e'⟩
def puts (fr:List PV):List Tmp→List PV→List PV
 | p :: ps,x :: xs=>puts (fr.set p x) ps xs
 | _,_=>fr
section
variable {gl : Gl} {H : Gh} {σ : Store} {w w' : World}
theorem qs1:∀ (ps:List Tmp) (xs:List PV) (vs:List Value) (fr:List PV) (tmps:Array Value),RelL H w fr tmps.toList→RelL H w xs vs→RelL H w (puts fr ps xs) ((ps.zip vs).foldl (fun t p=>t.setIfInBounds p.1 p.2) tmps).toList
 | [],xs,vs,fr,tmps,h,hx=>by cases hx <;> simpa [puts] using h
 | p :: ps,[],vs,fr,tmps,h,hx=>by cases hx; simpa [puts] using h
 | p :: ps,x :: xs,vs,fr,tmps,h,hx=>by
  cases hx with
  | cons _ v _ vs hv hvs =>
   simp only [puts,List.zip_cons_cons,List.foldl_cons]
   exact qs1 ps xs vs _ _ (by simpa using h.set p hv) hvs
theorem qDt {ps:Array Tmp} {xs:List PV} {vs:List Value} {fr:List PV} {tmps:Array Value} (h:RelL H w fr tmps.toList) (hx:RelL H w xs vs):RelL H w (puts fr ps.toList xs) ((ps.zip vs.toArray).foldl (fun t (p,v)=>t.setIfInBounds p v) tmps).toList:=by
 have:=qs1 ps.toList xs vs fr tmps h hx
 have e:(ps.zip vs.toArray).foldl (fun t (p,v)=>t.setIfInBounds p v) tmps=(ps.toList.zip vs).foldl (fun t p=>t.setIfInBounds p.1 p.2) tmps:=by
  rw [← Array.foldl_toList,Array.toList_zip]
 rw [e]
 exact this
theorem Ok.lp {gl':Gl} (h:Ok gl H σ w) (hv:gl'.v=gl.v) (hl:∀ (t:Nat) (T:Tok),H.tk[t]?=some T→T.k=0→gl'.lp T.e=gl.lp T.e∧gl'.fr T.e=gl.fr T.e):Ok gl' H σ w :=
 ⟨h.B,fun b o e=>h.gl b o (by rw [← hv]; exact e),h.len,h.obj,h.nd,h.tkl,fun t T e hvv=>by
  obtain ⟨h1,h2,o,he,ho⟩:=h.tok t T e hvv
  refine ⟨h1,h2,o,he,?_⟩
  rcases ho with ho | ⟨hk,q1,r,q2,q3,q4,q5,q6⟩
  ·exact .inl ho
  ·obtain ⟨l1,l2⟩:=hl t T e hk
   refine .inr ⟨hk,by rw [l1]; exact q1,r,q2,by rw [l2]; exact q3,?_,q5,?_⟩
   ·intro n hn; rw [l2]; exact q4 n hn
   ·intro m hm; rw [l2]; exact q6 m hm,h.tnd,h.tyl,h.ty⟩
theorem Dr.lp {gl':Gl} {w w':World} (h:Dr gl w w') (hv:gl'.v=gl.v):Dr gl' w w':=fun hg=>h (fun b=>by rw [← hv]; exact hg b)
theorem Ev.lp {gl':Gl} {H':Gh} (h:Ev gl H w H' w') (hv:gl'.v=gl.v):Ev gl' H w H' w' :=
 ⟨h.B,h.base,h.aux,h.K,h.os,h.tape,h.output,h.size,h.ob,h.tok,h.prot,h.block,h.dr.lp hv,h.fix,h.old⟩
theorem qzH (h:Ok gl H σ w) {t:Nat} {T:Tok} (ht:H.tk[t]?=some T) (hk:T.k=0) {s':Nat} {r':Loop} (hr:gl.lp T.e s'=.loop r') (hframe:RelL H w (gl.fr T.e) r'.tmps.toList) :
  Ev gl H w { H with tk:=H.tk.set t { T with ver:=s' } } (w.putObj T.blk (.loop r'))∧Ok gl { H with tk:=H.tk.set t { T with ver:=s' } } { σ with toks:=σ.toks.set t (s',0,T.e) } (w.putObj T.blk (.loop r')):=by
 have htl:t < H.tk.length:=(List.getElem?_eq_some_iff.1 ht).1
 have hnv:¬ T.vir:=fun hh=>hh.2 hk
 obtain ⟨hB,hob,o,ho,hT⟩:=h.tok t T ht hnv
 obtain ⟨r0,ho0,hp0,hc0,hd0⟩:∃ r,o=.loop r∧(∀ n,T.cap≤n→qb3 n (gl.fr T.e)=gl.fr T.e)∧T.cap≤H.ob.length∧(∀ m,t≤m→qcb m (gl.fr T.e)=gl.fr T.e):=by
  rcases hT with ⟨h1,_⟩ | ⟨_,_,r,h3,_,h5,h6,h7⟩
  ·exact absurd hk h1
  ·exact ⟨r,h3,h5,h6,h7⟩
 subst ho0
 have hlt:=qak ho
 have hsz:(w.putObj T.blk (.loop r')).heap.size=w.heap.size:=qcf ..
 have hcase:∀ (u:Nat) (U:Tok),(H.tk.set t { T with ver:=s' })[u]?=some U→(u=t∧U={ T with ver:=s' })∨(u≠t∧H.tk[u]?=some U):=by
  intro u U hu
  by_cases hut:u=t
  ·subst hut
   rw [List.getElem?_set_self htl] at hu
   exact .inl ⟨rfl,(Option.some.inj hu).symm⟩
  ·rw [List.getElem?_set_ne (fun e=>hut e.symm)] at hu
   exact .inr ⟨hut,hu⟩
 have hne:∀ b off,H.prot w b off→b≠T.blk:=fun b off hp e=>by
  have:=hp.2.2.2 T (List.mem_of_getElem? ht) hnv e.symm
  rw [hk] at this
  omega
 have hcell:∀ b off s,b≠T.blk→(w.putObj T.blk (.loop r')).cell? ⟨b,off,s⟩=w.cell? ⟨b,off,s⟩:=fun b off s e=>World.cell?_of_block (a:=⟨b,off,s⟩) (World.putObj_heap_other e)
 have ev:Ev gl H w { H with tk:=H.tk.set t { T with ver:=s' } } (w.putObj T.blk (.loop r')):=by
  refine ⟨rfl,rfl,rfl,rfl,rfl,rfl,rfl,by rw [hsz]; exact Nat.le_refl _,fun _ _ h=>h,fun u U hu=>?_,fun b off hp=>?_,fun b hb=>World.putObj_heap_other (by omega),.of_eq rfl,fun b ds hb=>(World.putObj_heap_other (fun e=>by subst e; rw [ho] at hb; cases hb)).trans hb,fun u U hu hk'=>?_⟩
  ·by_cases hut:u=t
   ·subst hut
    rw [ht] at hu
    cases hu
    exact ⟨{ T with ver:=s' },List.getElem?_set_self htl,fun e=>absurd hk e,fun _=>⟨hk,rfl,rfl,rfl⟩⟩
   ·exact ⟨U,by show (H.tk.set t _)[u]?=some U; rw [List.getElem?_set_ne (fun e=>hut e.symm)]; exact hu,.refl U⟩
  ·refine ⟨⟨by rw [hsz]; exact hp.1,hp.2.1,hp.2.2.1,fun U hU hvU hbk=>?_⟩,fun s=>hcell b off s (hne b off hp)⟩
   obtain ⟨u,hu⟩:=List.mem_iff_getElem?.1 hU
   rcases hcase u U hu with ⟨_,rfl⟩ | ⟨_,hu⟩
   ·exact absurd hbk.symm (hne b off hp)
   ·exact hp.2.2.2 U (List.mem_of_getElem? hu) hvU hbk
  ·rcases hcase u U hu with ⟨rfl,rfl⟩ | ⟨_,hu⟩
   ·exact ⟨T,ht,hk⟩
   ·exact ⟨U,hu,hk'⟩
 refine ⟨ev,⟨by rw [hsz]; exact h.B,fun b o' eg=>⟨(h.gl b o' eg).1,(World.putObj_heap_other (by have:=(h.gl b o' eg).1; omega)).trans (h.gl b o' eg).2⟩,h.len,fun id b cs e1 e2=>?_,h.nd,?_,fun u U hu hvU=>?_,fun u v U V hu hv hvU hvV hbk=>?_,h.tyl,fun id b T0 cs e1 e2 e3 hTT=>?_⟩⟩
 ·obtain ⟨h1,vs,ext,T0,he,hr⟩:=h.obj id b cs e1 e2
  exact ⟨h1,vs,ext,T0,(World.putObj_heap_other (fun e=>by subst e; rw [ho] at he; cases he)).trans he,hr.mono ev.mono⟩
 ·show (H.tk.set t _).map _=σ.toks.set t _
  rw [List.map_set,h.tkl,hk]
 ·rcases hcase u U hu with ⟨rfl,rfl⟩ | ⟨hut,hu'⟩
  ·exact ⟨hB,hob,_,World.putObj_heap_same hlt,.inr ⟨hk,hr.symm,r',rfl,hframe.mono ev.mono,hp0,hc0,hd0⟩⟩
  ·obtain ⟨g1,g2,o',g3,g4⟩:=h.tok u U hu' hvU
   exact ⟨g1,g2,o',(World.putObj_heap_other (fun e=>hut (h.tnd u t U T hu' ht hvU hnv e))).trans g3,g4.mono ev.mono⟩
 ·rcases hcase u U hu with ⟨h1,rfl⟩ | ⟨h1,hu'⟩ <;> rcases hcase v V hv with ⟨h2,rfl⟩ | ⟨h2,hv'⟩
  ·rw [h1,h2]
  ·exact absurd (h.tnd v t V T hv' ht hvV hnv hbk.symm) h2
  ·exact absurd (h.tnd u t U T hu' ht hvU hnv hbk) h1
  ·exact h.tnd u v U V hu' hv' hvU hvV hbk
 ·obtain ⟨us,he,hs⟩:=h.ty id b T0 cs e1 e2 e3 hTT
  exact ⟨us,(World.putObj_heap_other (fun e=>by subst e; rw [ho] at he; cases he)).trans he,hs⟩
end
theorem qHG {P:Program} {gl:Gl} {e:Nat} {r:Loop} (hlp:gl.lp e=recS r) {Y:Nat→List PV→Store→Option (PV × Store)}
  (hY:∀ t args σ x σ',Y t args σ=some (x,σ')→∃ fr1 σ1 ex fr2 σ2,args.length=r.params.size∧Does P gl r.assign (puts (gl.fr e) r.params.toList args) σ .normal fr1 σ1∧σ1.toks[t]?=some (0,0,e) ∧
   Does P gl r.body fr1 { σ1 with toks:=σ1.toks.set t (1,0,e) } ex fr2 σ2∧σ2.toks[t]?=some (1,0,e)∧x=.bool (isNo ex)∧σ'={ σ2 with toks:=σ2.toks.set t (stOf ex,0,e) }):ql7 P gl qeo (.yld e Y):=by
 intro t args σ x σ' h0 hy H w vs T hok hrel hT
 obtain ⟨fr1,σ1,ex,fr2,σ2,hlen,hd1,ht1,hd2,ht2,rfl,rfl⟩:=hY t args σ x σ' hy
 -- what a token of such a state is
 have look:∀ {H1:Gh} {w1:World} {τ:Store} {T1:Tok} {s:Nat},Ok gl H1 τ w1→τ.toks[t]?=some (s,0,e)→H1.tk[t]?=some T1→T1.ver=s∧T1.k=0∧T1.e=e∧w1.heap[T1.blk]?=some (recS r s)∧RelL H1 w1 (gl.fr e) r.tmps.toList:=by
  intro H1 w1 τ T1 s hk1 hs hT1
  have e1:(T1.ver,T1.k,T1.e)=(s,0,e):=by
   rw [← hk1.tkl,List.getElem?_map,hT1] at hs
   simpa using hs
  simp only [Prod.mk.injEq] at e1
  obtain ⟨a1,a2,a3⟩:=e1
  obtain ⟨_,_,o,ho,hTO⟩:=hk1.tok t T1 hT1 (fun hh=>hh.2 (by assumption))
  rcases hTO with ⟨b1,_⟩ | ⟨_,b2,r1,b3,b4,_⟩
  ·exact absurd a2 b1
  ·rw [a1,a3,hlp] at b2
   rw [b2] at ho b3
   refine ⟨a1,a2,a3,ho,?_⟩
   rw [a3] at b4
   unfold recS at b3
   cases b3
   exact b4
 obtain ⟨v0,k0,ee0,hl0,hf0⟩:=look hok h0 hT
 have hsz:vs.toArray.size=r.params.size:=by rw [← hlen,hrel.len]; simp
 have hrun:=run_yield (P:=P) (args:=vs.toArray) hl0 hsz
 refine ⟨_,_,_,_,hrun,?_⟩
 have hRin:RIn (some T.blk) { H with K:=w.heap.size }:=fun l hl=>by cases hl; exact ⟨t,T,hT,k0,rfl⟩
 refine roundIn_of_wpIn (F:=Fence.wide) (n:=0) (l:=T.blk) trivial ?_
 have hst0:St gl { H with K:=w.heap.size } w (puts (gl.fr e) r.params.toList args) σ { tmps:=(r.params.zip vs.toArray).foldl (fun t (p,v)=>t.setIfInBounds p v) r.tmps,defers:=[] } w :=
  ⟨_,Ev.refl _ w,hok.setK _,(qDt hf0 hrel).mono (Mono.setK' H w _),Marks.nil (Nat.le_refl _)⟩
 refine hd1 (some T.blk) 0 _ w hRin _ _ w hst0 fun a1 w1 hst1=>?_
 obtain ⟨H1,hev1,hok1,hfr1,hm1⟩:=hst1
 obtain ⟨T1,hT1,hu1⟩:=hev1.tok t T hT
 obtain ⟨_,hblk1,_,_⟩:=hu1.lp k0
 obtain ⟨v1,k1,ee1,hl1,hf1⟩:=look hok1 ht1 hT1
 rw [hblk1] at hl1
 have hbr:=run_beginRound (P:=P) hl1 rfl
 refine ⟨_,hbr,?_⟩
 have hs1:=qzH (s':=1) (r':={ r with state:=.busy,pending:=qiN 1 }) hok1 hT1 k1 (by rw [ee1,hlp]; rfl) (by rw [ee1]; exact hf1)
 rw [ee1,hblk1] at hs1
 obtain ⟨hev2,hok2⟩:=hs1
 have hst2:St gl { H with K:=w.heap.size } w fr1 { σ1 with toks:=σ1.toks.set t (1,0,e) } a1 (w1.putObj T.blk (.loop { r with state:=.busy,pending:=qiN 1 })):=⟨_,hev1.trans hev2,hok2,hfr1.mono hev2.mono,hm1.ev hev2⟩
 refine hd2 (some T.blk) 0 _ w hRin _ _ _ hst2 fun a3 w3 hst3=>?_
 obtain ⟨H3,hev3,hok3,hfr3,hm3⟩:=hst3
 obtain ⟨T3,hT3,hu3⟩:=hev3.tok t T hT
 obtain ⟨_,hblk3,_,_⟩:=hu3.lp k0
 obtain ⟨v3,k3,ee3,hl3,hf3⟩:=look hok3 ht2 hT3
 rw [hblk3] at hl3
 -- the round's end
 have fin:∀ (jump:Option Code) (s:Nat),recS r s=.loop { r with state:=if jump.isNone then .ready else .done,pending:=jump }→∀ b:Bool,jump.isNone=b →
   ∃ v w',(Instr.endRound T.blk jump).run P w3=.ok v w'∧∃ v',(Ending.returned v)=.returned v'∧Post gl H w (.bool b) { σ2 with toks:=σ2.toks.set t (s,0,e) } v' w':=by
  intro jump s hs b hb
  subst hb
  have hr:=run_endRound (P:=P) jump hl3
  refine ⟨_,_,hr,_,rfl,?_⟩
  have hs4:=qzH (s':=s) (r':={ r with state:=if jump.isNone then .ready else .done,pending:=jump }) hok3 hT3 k3 (by rw [ee3,hlp]; exact hs) (by rw [ee3]; exact hf3)
  rw [ee3,hblk3] at hs4
  obtain ⟨hev4,hok4⟩:=hs4
  exact ⟨_,(hev3.trans hev4).setK,hok4.setK _,.bool _⟩
 cases ex with
 | normal=>exact fin none 0 rfl true rfl
 | ret=>exact fin (some .ret) 2 rfl false rfl
 | exit id =>
  refine fin (some (.exit id)) (3+id) ?_ false rfl
  have h1:¬ (3+id=0):=by omega
  have h2:¬ (3+id=1):=by omega
  have h3:¬ (3+id=2):=by omega
  have h4:3≤3+id:=by omega
  simp only [recS,qiN,h1,h2,h3,h4,if_true,if_false,Nat.add_sub_cancel_left]
  rfl
section
variable {gl : Gl} {H : Gh} {σ : Store} {w w' : World}
theorem qFy (h:Ok gl H σ w) {e s:Nat} {r:Loop} (he:gl.lp e s=.loop r) (hfr:RelL H w (gl.fr e) r.tmps.toList) (hp:∀ n,H.ob.length≤n→qb3 n (gl.fr e)=gl.fr e) (ht:∀ m,H.tk.length≤m→qcb m (gl.fr e)=gl.fr e) :
  Mono H w { H with tk:=H.tk++[⟨w.heap.size,s,H.ob.length,0,e⟩] } (w.alloc (.loop r))∧Ok gl { H with tk:=H.tk++[⟨w.heap.size,s,H.ob.length,0,e⟩] } { σ with toks:=σ.toks++[(s,0,e)] } (w.alloc (.loop r)) ∧
   (H.tk++[(⟨w.heap.size,s,H.ob.length,0,e⟩:Tok)])[σ.toks.length]?=some ⟨w.heap.size,s,H.ob.length,0,e⟩:=by
 have hb:=qbC w (.loop r)
 have hlen:H.tk.length=σ.toks.length:=by rw [← h.tkl]; simp
 have hcase:∀ (t:Nat) (T:Tok),(H.tk++[(⟨w.heap.size,s,H.ob.length,0,e⟩:Tok)])[t]?=some T→H.tk[t]?=some T∨(t=H.tk.length∧T=⟨w.heap.size,s,H.ob.length,0,e⟩):=by
  intro t T ht
  by_cases htl:t < H.tk.length
  ·rw [List.getElem?_append_left htl] at ht
   exact .inl ht
  ·have hlt:=(List.getElem?_eq_some_iff.1 ht).1
   have:t=H.tk.length:=by simp at hlt; omega
   subst this
   rw [List.getElem?_append_right (Nat.le_refl _)] at ht
   simp at ht
   exact .inr ⟨rfl,ht.symm⟩
 have hprot:∀ b off,H.prot w b off→({ H with tk:=H.tk++[⟨w.heap.size,s,H.ob.length,0,e⟩] }:Gh).prot (w.alloc (.loop r)) b off:=fun b off hp=>by
  refine ⟨Nat.lt_of_lt_of_le hp.1 hb.size,hp.2.1,hp.2.2.1,fun T hT hvv hbk=>?_⟩
  rcases List.mem_append.1 hT with hT | hT
  ·exact hp.2.2.2 T hT hvv hbk
  ·simp at hT
   subst hT
   have:=hp.1
   simp at hbk
   omega
 have mo:Mono H w { H with tk:=H.tk++[⟨w.heap.size,s,H.ob.length,0,e⟩] } (w.alloc (.loop r)):=by
  refine ⟨fun _ _ h=>h,fun t T ht=>?_,fun b off hp=>⟨hprot b off hp,fun s=>hb.cell (p:=⟨b,off,s⟩) hp.1⟩,fun b off hp=>?_⟩
  ·refine ⟨T,?_,.refl T⟩
   show (H.tk++[_])[t]?=some T
   rw [List.getElem?_append_left (List.getElem?_eq_some_iff.1 ht).1]
   exact ht
  ·rcases hp with hp | hp
   ·exact ⟨.inl (hprot b off hp),fun s=>hb.cell (p:=⟨b,off,s⟩) hp.1⟩
   ·exact ⟨.inr hp,fun s=>hb.cell (p:=⟨b,off,s⟩) (Nat.lt_of_lt_of_le hp.1 h.B)⟩
 refine ⟨mo,⟨Nat.le_trans h.B hb.size,fun b o eg=>⟨(h.gl b o eg).1,(hb.block b (qak (h.gl b o eg).2)).trans (h.gl b o eg).2⟩,h.len,fun id b cs e1 e2=>?_,h.nd,by simp [h.tkl],fun t T ht' hvv=>?_,fun t u T U ht hu hvT hvU hbk=>?_,h.tyl,fun id b T' c1 e1 e2 e3 hTT=>?_⟩,?_⟩
 ·obtain ⟨hB,vs,ext,T,he,hr⟩:=h.obj id b cs e1 e2
  exact ⟨hB,vs,ext,T,(hb.block b (qak he)).trans he,hr.mono mo⟩
 ·rcases hcase t T ht' with ht' | ⟨rfl,rfl⟩
  ·obtain ⟨hB,ho,o,he,hr⟩:=h.tok t T ht' hvv
   exact ⟨hB,ho,o,(hb.block _ (qak he)).trans he,hr.mono mo⟩
  ·exact ⟨h.B,fun hm=>Nat.lt_irrefl _ (h.ob_at hm).2,_,heap_alloc_new w _,.inr ⟨rfl,he.symm,r,rfl,hfr.mono mo,hp,Nat.le_refl _,ht⟩⟩
 ·rcases hcase t T ht with ht | ⟨h1,rfl⟩ <;> rcases hcase u U hu with hu | ⟨h2,rfl⟩
  ·exact h.tnd t u T U ht hu hvT hvU hbk
  ·have:=(h.tk_at (List.mem_of_getElem? ht) hvT).2
   simp at hbk
   omega
  ·have:=(h.tk_at (List.mem_of_getElem? hu) hvU).2
   simp at hbk
   omega
  ·rw [h1,h2]
 ·obtain ⟨us,he,hs⟩:=h.ty id b T' c1 e1 e2 e3 hTT
  exact ⟨us,(hb.block b (qak he)).trans he,hs⟩
 ·rw [← hlen,List.getElem?_append_right (Nat.le_refl _)]
  simp
theorem qsv {D:Nat} {r r':Loop} (hd:w.heap[D]?=some (.loop r)):Mono H w H (w.putObj D (.loop r')):=by
 have hs:(w.putObj D (.loop r')).heap.size=w.heap.size:=qcf ..
 have hlt:=qak hd
 have hc:∀ b off s,(w.putObj D (.loop r')).cell? ⟨b,off,s⟩=w.cell? ⟨b,off,s⟩:=fun b off s=>by
  by_cases e:b=D
  ·subst e
   simp only [World.cell?,World.putObj_heap_same hlt,hd]
  ·exact World.cell?_of_block (a:=⟨b,off,s⟩) (World.putObj_heap_other e)
 refine ⟨fun _ _ h=>h,fun t T h=>⟨T,h,.refl T⟩,fun b off hp=>⟨⟨by rw [hs]; exact hp.1,hp.2⟩,hc b off⟩,fun b off hp=>⟨?_,hc b off⟩⟩
 rcases hp with hp | hp
 ·exact .inl ⟨by rw [hs]; exact hp.1,hp.2⟩
 ·exact .inr hp
theorem qGg {D:Nat} {r r':Loop} (h:Ok gl H σ w) (hB:H.B≤D) (hd:w.heap[D]?=some (.loop r)) (hn:∀ (t:Nat) (T:Tok),H.tk[t]?=some T→¬ T.vir→T.blk≠D):Ok gl H σ (w.putObj D (.loop r')) where
 B:=by rw [qcf]; exact h.B
 gl:=fun b o e=>⟨(h.gl b o e).1,(World.putObj_heap_other (by have:=(h.gl b o e).1; omega)).trans (h.gl b o e).2⟩
 len:=h.len
 obj:=fun id b cs e1 e2=>by
  obtain ⟨h1,vs,ext,T,he,hr⟩:=h.obj id b cs e1 e2
  have hne:b≠D:=fun e=>by subst e; rw [he] at hd; cases hd
  exact ⟨h1,vs,ext,T,(World.putObj_heap_other hne).trans he,hr.mono (qsv hd)⟩
 nd:=h.nd
 tkl:=h.tkl
 tok:=fun t T e hvv=>by
  obtain ⟨h1,h2,o,he,ho⟩:=h.tok t T e hvv
  exact ⟨h1,h2,o,(World.putObj_heap_other (hn t T e hvv)).trans he,ho.mono (qsv hd)⟩
 tnd:=h.tnd
 tyl:=h.tyl
 ty:=fun id b T cs e1 e2 e3 hT=>by
  obtain ⟨us,he,hs⟩:=h.ty id b T cs e1 e2 e3 hT
  have hne:b≠D:=fun e=>by subst e; rw [he] at hd; cases hd
  exact ⟨us,(World.putObj_heap_other hne).trans he,hs⟩
end
theorem qxS {P:Program} {gl:Gl} {g:Operand} {ps:Array Tmp} {assign body:Code} {fr:List PV} {σ:Store} {gf:FuncId} {caps:List PV} (hg:ev fr g=.fn gf caps) (eid:Nat)
  (hent : ∃ fn, P.funcs[gf]? = some fn ∧ (fn.name == "runtime.NumGoroutine") = false ∧ fn.body.isNone = false)
  {Y:Nat→List PV→Store→Option (PV × Store)} {D:List PV→Store→Option (PV × Store)}
  (hfresh:∀ (i v k e:Nat),σ.toks[i]?=some (v,k,e)→k=0→e≠eid) (hpd:∀ n,σ.objs.length≤n→qb3 n fr=fr) (htd:∀ m,σ.toks.length≤m→qcb m fr=fr)
  (hI:∀ gl':Gl,gl'.v=gl.v→ql7 P gl' qeo (.yld eid Y)→SimS P gl' gf D)
  (hY:∀ gl':Gl,gl'.v=gl.v→∀ t args σ x σ',Y t args σ=some (x,σ')→∃ fr1 σ1 ex fr2 σ2,args.length=ps.size∧Does P gl' assign (puts fr ps.toList args) σ .normal fr1 σ1∧σ1.toks[t]?=some (0,0,eid) ∧
   Does P gl' body fr1 { σ1 with toks:=σ1.toks.set t (1,0,eid) } ex fr2 σ2∧σ2.toks[t]?=some (1,0,eid)∧x=.bool (isNo ex)∧σ'={ σ2 with toks:=σ2.toks.set t (stOf ex,0,eid) })
  {x:PV} {σ2:Store} {s:Nat} (hD:D (.yld σ.toks.length :: caps) { σ with toks:=σ.toks++[(0,0,eid)] }=some (x,σ2)) (hs:σ2.toks[σ.toks.length]?=some (s,0,eid)) (hs1:s≠1) :
  Does P gl (.rangeFunc g ps assign body) fr σ (exOf s) fr (qem σ.toks.length σ2):=by
 intro r n H0 w0 hR Q a w hst hq
 obtain ⟨H,hev,hok,hfr,hmk⟩:=hst
 have hHt:H.tk.length=σ.toks.length:=by rw [← hok.tkl]; simp
 have hrg:=qbw hfr g
 rw [hg] at hrg
 generalize hv:a.eval g=gv at hrg
 cases hrg with
 | fn _ _ lb hcaps =>
 refine wpIn_rangeFunc ?_
 intro fn hfn
 -- entering: the record; at an outermost loop the block of the rounds' deferred calls
 obtain ⟨mark,W0,rec,hent',hb0,hdr0,hrecf,hmark⟩:∃ (mark:List Deferred) (W0:World) (rec:Loop),(Instr.enterLoop fn a.tmps ps assign body (rnd r).round).run P w=.ok (W0.heap.size,mark) (W0.alloc (.loop rec)) ∧
   Below w.heap.size w W0∧W0.drawn=w.drawn∧(rec.state=.ready∧rec.pending=none∧rec.tmps=a.tmps∧rec.params=ps∧rec.assign=assign∧rec.body=body)∧Marks H.K (mark++a.defers) W0:=by
  cases r with
  | none =>
   refine ⟨[{ target:=.collected w.heap.size,args:=#[] }],w.alloc (.deferred (some [])),{ state:=.ready,pending:=none,fn,tmps:=a.tmps,params:=ps,assign,body,defers:=w.heap.size },?_,qbC w _,rfl,⟨rfl,rfl,rfl,rfl,rfl,rfl⟩,?_⟩
   ·have:=run_enterLoop_outer (P:=P) (w:=w) fn a.tmps ps assign body
    rw [show w.heap.size+1=(w.alloc (.deferred (some []))).heap.size from by simp] at this
    exact this
   ·obtain ⟨k1,Ds,k2,k3,k4⟩:=hmk
    refine ⟨Nat.le_trans k1 (by simp),w.heap.size :: Ds,by rw [k2]; rfl,List.nodup_cons.2 ⟨fun hm=>?_,k3⟩,fun D' hD'=>?_⟩
    ·have:=qak (k4 _ hm).2
     omega
    ·cases hD' with
     | head=>exact ⟨k1,World.alloc_heap_new w _⟩
     | tail _ hD'=>exact ⟨(k4 D' hD').1,((qbC w _).block D' (qak (k4 D' hD').2)).trans (k4 D' hD').2⟩
  | some l0 =>
   obtain ⟨t0,T0,ht0,hk0,rfl⟩:=hR.ev hev l0 rfl
   obtain ⟨_,_,o,ho,hTO⟩:=hok.tok t0 T0 ht0 (fun hh=>hh.2 hk0)
   obtain ⟨r0,rfl⟩:∃ r0,o=.loop r0:=by
    rcases hTO with ⟨h1,_⟩ | ⟨_,_,r0,h3,_⟩
    ·exact absurd hk0 h1
    ·exact ⟨r0,h3⟩
   exact ⟨[],w,{ state:=.ready,pending:=none,fn,tmps:=a.tmps,params:=ps,assign,body,defers:=r0.defers },run_enterLoop_inner ho fn a.tmps ps assign body,Below.refl _ w,rfl,⟨rfl,rfl,rfl,rfl,rfl,rfl⟩,hmk⟩
 obtain ⟨q1,q2,q3,q4,q5,q6⟩:=hrecf
 -- the world with the record
 obtain ⟨gl',hgl'⟩:∃ gl',gl'=glR gl eid rec fr:=⟨_,rfl⟩
 have hgv:gl'.v=gl.v:=by rw [hgl']; rfl
 have hglp:gl'.lp eid=recS rec:=by rw [hgl']; simp [glR]
 have hgfr:gl'.fr eid=fr:=by rw [hgl']; simp [glR]
 have hother:∀ e,e≠eid→gl'.lp e=gl.lp e∧gl'.fr e=gl.fr e:=fun e he=>by rw [hgl']; constructor <;> simp [glR,he]
 have hfreshT:∀ (t:Nat) (T:Tok),H.tk[t]?=some T→T.k=0→T.e≠eid:=fun t T hT hk=>by
  refine hfresh t T.ver T.k T.e ?_ hk
  rw [← hok.tkl,List.getElem?_map,hT]
  rfl
 have hok0:Ok gl' H σ W0:=(hok.of_below hb0).lp hgv fun t T hT hk=>hother T.e (hfreshT t T hT hk)
 have hm0:Mono H w H W0:=Mono.of_below hok.B hb0
 have hrs:gl'.lp eid 0=.loop rec:=by
  rw [hglp]
  unfold recS qiN
  simp only [if_true]
  rw [← q1,if_neg (by omega:¬ (0=2)),if_neg (by omega:¬ (3≤0)),← q2]
 obtain ⟨hm1,hok1,hT1⟩:=qFy (e:=eid) (s:=0) hok0 hrs (by rw [hgfr,q3]; exact hfr.mono hm0) (by rw [hgfr]; intro n hn; exact hpd n (by rw [← hok.len]; exact hn)) (by rw [hgfr]; intro m hm; exact htd m (by rw [← hHt]; exact hm))
 obtain ⟨T,hT⟩:∃ T:Tok,T=⟨W0.heap.size,0,H.ob.length,0,eid⟩:=⟨_,rfl⟩
 obtain ⟨H1,hH1⟩:∃ H1:Gh,H1={ H with tk:=H.tk++[T] }:=⟨_,rfl⟩
 rw [← hT] at hm1 hok1 hT1
 rw [← hH1] at hm1 hok1
 obtain ⟨W1,hW1⟩:∃ W1,W1=W0.alloc (.loop rec):=⟨_,rfl⟩
 rw [← hW1] at hm1 hok1
 have hb1:Below w.heap.size w W1:=by rw [hW1]; exact hb0.alloc hb0.size _
 -- the call
 have hcon:ql7 P gl' qeo (.yld eid Y):=qHG (r:=rec) hglp (by rw [hgfr,q4,q5,q6]; exact hY gl' hgv)
 have hS:=hI gl' hgv hcon
 have hyr:Rel H1 W1 (.yld σ.toks.length) (.func (.yield W0.heap.size) #[] #[]):=by
  have:=Rel.yld (H:=H1) (w:=W1) σ.toks.length T (by rw [hH1]; exact hT1) (by rw [hT])
  rw [show T.blk=W0.heap.size from by rw [hT]] at this
  exact this
 have hcall:=hS.run _ _ _ _ hD H1 W1 (.func (.yield W0.heap.size) #[] #[] :: lb) hok1 (.cons _ _ _ _ hyr (hcaps.mono (hm0.trans hm1)))
 obtain ⟨gfn,hgf,hgn,hgb⟩:=hent
 refine ⟨W0.heap.size,mark,W1,{ target:=.fn (.func gf) lb.toArray,args:=#[.func (.yield W0.heap.size) #[] #[]] },W1,gf,(.func (.yield W0.heap.size) #[] #[] :: lb).toArray,W1,by rw [hW1]; exact hent',?_,fun _ _=>trivial,?_,(fun h=>by cases h),?_⟩
 ·simp only [resolve,hv]
  simp [go_sem]
 ·have e1:(#[(Value.func (.yield W0.heap.size) #[] #[])]:Array Value)++lb.toArray=(Value.func (.yield W0.heap.size) #[] #[] :: lb).toArray:=by
   apply Array.ext'
   simp
  simp only [invoke,callFunc,Sem.run_bind,run_program,Result.andThen_ok,hgf,hgn,hgb,Bool.false_eq_true,if_false,Sem.run_pure,e1]
 ·refine CallsIn.mono (qnv hcall) ?_
  rintro e w3 ⟨v,rfl,H2,hevI,hok2,hv2⟩
  -- behind the function
  have hsz2:σ2.toks.length=H2.tk.length:=by rw [← hok2.tkl]; simp
  obtain ⟨T2,hT2,hu2⟩:=hevI.tok σ.toks.length T (by rw [hH1]; exact hT1)
  obtain ⟨k2,blk2,ee2,cap2⟩:=hu2.lp (by rw [hT])
  have ev2:T2.ver=s∧T2.e=eid:=by
   have:(T2.ver,T2.k,T2.e)=(s,0,eid):=by
    rw [← hok2.tkl,List.getElem?_map,hT2] at hs
    simpa using hs
   simp only [Prod.mk.injEq] at this
   exact ⟨this.1,this.2.2⟩
  have blk2':T2.blk=W0.heap.size:=by rw [blk2,hT]
  have hT2nv:¬ T2.vir:=fun hh=>hh.2 k2
  obtain ⟨hB2,_,o2,ho2,hTO2⟩:=hok2.tok _ T2 hT2 hT2nv
  have hl2:w3.heap[W0.heap.size]?=some (recS rec s):=by
   rcases hTO2 with ⟨h1,_⟩ | ⟨_,h2,_⟩
   ·exact absurd k2 h1
   ·rw [ev2.1,ev2.2,hglp] at h2
    rw [← blk2',ho2,h2]
  rw [blk2'] at hB2
  have hBl:H.B≤W0.heap.size:=by rw [hevI.B,hH1] at hB2; exact hB2
  have hend:=run_endLoop (P:=P) (w:=w3) (l:=W0.heap.size) (r:={ rec with state:=if s=0 then .ready else if s=1 then .busy else .done,pending:=qiN s }) hl2 (by
   by_cases h0:s=0
   ·simp [h0]
   ·simp [h0,hs1])
  obtain ⟨rx,hrx⟩:∃ rx:Loop,rx={ rec with state:=.exhausted,pending:=qiN s }:=⟨_,rfl⟩
  obtain ⟨w4,hw4⟩:∃ w4,w4=w3.putObj W0.heap.size (.loop rx):=⟨_,rfl⟩
  have hend':(Instr.endLoop W0.heap.size).run P w3=.ok (qiN s) w4:=by rw [hw4,hrx]; exact hend
  -- the record is forgotten
  have hsz4:w4.heap.size=w3.heap.size:=by rw [hw4]; exact qcf ..
  have hle1:w.heap.size≤W0.heap.size:=hb0.size
  have hoth:∀ b,b≠W0.heap.size→w4.heap[b]?=w3.heap[b]?:=fun b hb=>by rw [hw4]; exact World.putObj_heap_other hb
  have hH1t:∀ u,u < σ.toks.length→H1.tk[u]?=H.tk[u]?:=fun u hu=>by
   rw [hH1]
   show (H.tk++[T])[u]?=H.tk[u]?
   rw [List.getElem?_append_left (by omega)]
  have htrim:∀ u U,(H2.trim σ.toks.length).tk[u]?=some U→u < σ.toks.length∧H2.tk[u]?=some U:=fun u U hu=>qcV hu
  have hokt:=qvY (m:=σ.toks.length) hok2
  have hnb:∀ (u:Nat) (U:Tok),(H2.trim σ.toks.length).tk[u]?=some U→¬ U.vir→U.blk≠W0.heap.size:=fun u U hu hvU e=>by
   obtain ⟨h1,h2⟩:=htrim u U hu
   have:=hok2.tnd u σ.toks.length U T2 h2 hT2 hvU hT2nv (by rw [e,blk2'])
   omega
  have hok4:Ok gl' (H2.trim σ.toks.length) (qem σ.toks.length σ2) w4:=by
   rw [hw4]
   exact qGg hokt (by show H2.B≤_; rw [hevI.B,hH1]; exact hBl) hl2 hnb
  have hold:∀ (u:Nat) (U:Tok),(H2.trim σ.toks.length).tk[u]?=some U→U.k=0→∃ U0,H.tk[u]?=some U0∧U0.k=0∧U.e=U0.e:=fun u U hu hk=>by
   obtain ⟨h1,h2⟩:=htrim u U hu
   obtain ⟨U0,g1,g2⟩:=hevI.old u U h2 hk
   obtain ⟨U1,g3,g4⟩:=hevI.tok u U0 g1
   rw [h2] at g3
   cases g3
   rw [hH1t u h1] at g1
   exact ⟨U0,g1,g2,(g4.lp g2).2.2.1⟩
  have hok5:Ok gl (H2.trim σ.toks.length) (qem σ.toks.length σ2) w4:=hok4.lp hgv.symm fun u U hu hk=>by
   obtain ⟨U0,g1,g2,g3⟩:=hold u U hu hk
   have:=hother U.e (by rw [g3]; exact hfreshT u U0 g1 g2)
   exact ⟨this.1.symm,this.2.symm⟩
  have hev5:Ev gl H w (H2.trim σ.toks.length) w4:=by
   refine ⟨hevI.B.trans (by rw [hH1]),hevI.base.trans (by rw [hH1]),hevI.aux.trans (by rw [hH1]),hevI.K.trans (by rw [hH1]),?_,?_,?_,?_,fun id b hb=>hevI.ob id b (by rw [hH1]; exact hb),fun u U hu=>?_,fun b off hp=>?_,fun b hb=>?_,?_,fun b ds hb=>?_,fun u U hu hk=>?_⟩
   ·rw [hw4]; exact hevI.os.trans hb1.os
   ·rw [hw4]; exact hevI.tape.trans hb1.tape
   ·rw [hw4]; exact hevI.output.trans hb1.output
   ·rw [hsz4]; exact Nat.le_trans hb1.size hevI.size
   ·have hlt:u < σ.toks.length:=by have:=(List.getElem?_eq_some_iff.1 hu).1; omega
    obtain ⟨U',g1,g2⟩:=hevI.tok u U (by rw [hH1t u hlt]; exact hu)
    exact ⟨U',by simp only [Gh.trim]; rw [List.getElem?_take,if_pos hlt]; exact g1,g2⟩
   ·have hbne:b≠W0.heap.size:=fun e=>by have:=hp.1; omega
    obtain ⟨p1,c1⟩:=(hm0.trans hm1).prot b off hp
    obtain ⟨p2,c2⟩:=hevI.prot b off p1
    have p3:=qhI (m:=σ.toks.length) p2
    exact ⟨⟨by rw [hsz4]; exact p3.1,p3.2⟩,fun s=>(World.cell?_of_block (a:=⟨b,off,s⟩) (hoth b hbne)).trans ((c2 s).trans (c1 s))⟩
   ·exact (hoth b (by omega)).trans ((hevI.block b (by rw [hH1]; exact hb)).trans (hb1.block b (Nat.lt_of_lt_of_le hb hok.B)))
   ·intro hg
    have h1:w.drawn≤W1.drawn:=by rw [hW1]; show w.drawn≤W0.drawn; rw [hdr0]; exact Nat.le_refl _
    have h2:=hevI.dr (fun b=>by rw [hgv]; exact hg b)
    rw [hw4]
    exact Nat.le_trans h1 h2
   ·have hlt:=qak hb
    exact (hoth b (by omega)).trans (hevI.fix b ds ((hb1.block b hlt).trans hb))
   ·obtain ⟨U0,g1,g2,_⟩:=hold u U hu hk
    exact ⟨U0,g1,g2⟩
  have hmk5:Marks (H2.trim σ.toks.length).K (mark++a.defers) w4:=by
   obtain ⟨m1,Ds,m2,m3,m4⟩:=hmark
   refine ⟨?_,Ds,m2,m3,fun D' hD'=>⟨?_,?_⟩⟩
   ·rw [hev5.K]; exact Nat.le_trans m1 (by rw [hsz4]; refine Nat.le_trans ?_ hevI.size; rw [hW1]; simp)
   ·rw [hev5.K]; exact (m4 D' hD').1
   ·have hlt:=qak (m4 D' hD').2
    refine (hoth D' (by omega)).trans (hevI.fix D' _ ?_)
    rw [hW1]
    exact ((qbC W0 _).block D' hlt).trans (m4 D' hD').2
  have hst5:St gl H0 w0 fr (qem σ.toks.length σ2) { a with defers:=mark++a.defers } w4:=⟨_,hev.trans hev5,hok5,hfr.mono hev5.mono,hmk5⟩
  have hfin:=hq _ _ hst5
  refine ⟨qiN s,w4,hend',?_⟩
  unfold exOf at hfin
  unfold qiN
  by_cases h2:s=2
  ·simp only [h2,if_true] at hfin ⊢
   exact wpIn_ret hfin
  ·by_cases h3:3≤s
   ·simp only [h2,h3,if_true,if_false] at hfin ⊢
    exact wpIn_exit hfin
   ·simp only [h2,h3,if_false] at hfin ⊢
    exact hfin
end Go.Pv
set_option linter.unusedSimpArgs false
set_option linter.unusedVariables false
namespace Go.Pv
open Go.RowKit Tr
mutual
def ql9 (n m:Nat):PV→Bool
 | .ptr id _=>Nat.blt id n
 | .osl id _ _ _=>Nat.blt id n
 | .yld t=>Nat.blt t m
 | .sl _ _=>false
 | .ref cs=>ql0 n m cs
 | .fn _ cs=>ql0 n m cs
 | .iface _ v=>ql9 n m v
 | .agg cs=>ql0 n m cs
 | .tup cs=>ql0 n m cs
 | _=>true
def ql0 (n m:Nat):List PV→Bool
 | []=>true
 | x :: xs=>ql9 n m x && ql0 n m xs
end
mutual
theorem qwN {n m:Nat}:∀ {x:PV},ql9 n m x=true→(∀ n',n≤n'→qcO n' x=x)∧∀ m',m≤m'→dropT m' x=x
 | .top,_=>⟨fun _ _=>rfl,fun _ _=>rfl⟩
 | .bool _,_=>⟨fun _ _=>rfl,fun _ _=>rfl⟩
 | .int _ _,_=>⟨fun _ _=>rfl,fun _ _=>rfl⟩
 | .str _,_=>⟨fun _ _=>rfl,fun _ _=>rfl⟩
 | .nilp,_=>⟨fun _ _=>rfl,fun _ _=>rfl⟩
 | .nilf,_=>⟨fun _ _=>rfl,fun _ _=>rfl⟩
 | .nili,_=>⟨fun _ _=>rfl,fun _ _=>rfl⟩
 | .ptr id off,h=>by
  have h:id < n:=by simpa [ql9] using h
  refine ⟨fun n' hn=>?_,fun _ _=>rfl⟩
  simp only [qcO]
  rw [show decide (id < n')=true from by simp; omega]
  rfl
 | .osl id off len k,h=>by
  have h:id < n:=by simpa [ql9] using h
  refine ⟨fun n' hn=>?_,fun _ _=>rfl⟩
  simp only [qcO]
  rw [show decide (id < n')=true from by simp; omega]
  rfl
 | .yld t,h=>by
  have h:t < m:=by simpa [ql9] using h
  refine ⟨fun _ _=>rfl,fun m' hm=>?_⟩
  simp only [dropT]
  rw [show decide (t < m')=true from by simp; omega]
  rfl
 | .sl _ _,h=>by simp [ql9] at h
 | .ref cs,h=>by
  simp only [ql9] at h
  have:=qfU h
  exact ⟨fun n' hn=>by simp only [qcO]; rw [this.1 n' hn],fun m' hm=>by simp only [dropT]; rw [this.2 m' hm]⟩
 | .fn f cs,h=>by
  simp only [ql9] at h
  have:=qfU h
  exact ⟨fun n' hn=>by simp only [qcO]; rw [this.1 n' hn],fun m' hm=>by simp only [dropT]; rw [this.2 m' hm]⟩
 | .iface t v,h=>by
  simp only [ql9] at h
  have:=qwN h
  exact ⟨fun n' hn=>by simp only [qcO]; rw [this.1 n' hn],fun m' hm=>by simp only [dropT]; rw [this.2 m' hm]⟩
 | .agg cs,h=>by
  simp only [ql9] at h
  have:=qfU h
  exact ⟨fun n' hn=>by simp only [qcO]; rw [this.1 n' hn],fun m' hm=>by simp only [dropT]; rw [this.2 m' hm]⟩
 | .tup cs,h=>by
  simp only [ql9] at h
  have:=qfU h
  exact ⟨fun n' hn=>by simp only [qcO]; rw [this.1 n' hn],fun m' hm=>by simp only [dropT]; rw [this.2 m' hm]⟩
theorem qfU {n m:Nat}:∀ {xs:List PV},ql0 n m xs=true→(∀ n',n≤n'→qb3 n' xs=xs)∧∀ m',m≤m'→qcb m' xs=xs
 | [],_=>⟨fun _ _=>rfl,fun _ _=>rfl⟩
 | x :: xs,h=>by
  simp only [ql0,Bool.and_eq_true] at h
  have h1:=qwN h.1
  have h2:=qfU h.2
  exact ⟨fun n' hn=>by simp only [qb3]; rw [h1.1 n' hn,h2.1 n' hn],fun m' hm=>by simp only [qcb]; rw [h1.2 m' hm,h2.2 m' hm]⟩
end
def qGu:PV→PV→Bool
 | .top,.top=>true
 | .nilp,.nilp=>true
 | .ptr a b,.ptr c d=>Nat.beq a c && Nat.beq b d
 | _,_=>false
def qwe:List PV→List PV→Bool
 | [],[]=>true
 | x :: xs,y :: ys=>qGu x y && qwe xs ys
 | _,_=>false
theorem qCO:∀ {x y:PV},qGu x y=true→x=y:=by
 intro x y h
 unfold qGu at h
 split at h
 ·rfl
 ·rfl
 ·simp only [Bool.and_eq_true] at h
  rw [Nat.eq_of_beq_eq_true h.1,Nat.eq_of_beq_eq_true h.2]
 ·cases h
theorem qsS:∀ {xs ys:List PV},qwe xs ys=true→xs=ys
 | [],[],_=>rfl
 | x :: xs,y :: ys,h=>by
  simp only [qwe,Bool.and_eq_true] at h
  rw [qCO h.1,qsS h.2]
 | [],_ :: _,h=>by cases h
 | _ :: _,[],h=>by cases h
structure RI where
 nt:Nat
 ss:List Nat
 bs:List Nat
 vs:List PV
 ps:List Nat
 e:Nat
def RI.fr (I:RI):List PV:=Go.Pv.mk I.nt (I.bs.zip I.vs)
def qyH (k:Nat):Code→Option Code
 | .seq a b=>match qyH k a with
  | some c=>some c
  | none=>qyH k b
 | .cond _ a b=>match qyH k a with
  | some c=>some c
  | none=>qyH k b
 | .block _ c=>qyH k c
 | .rangeFunc g ps x y=>if rfid x y=k then some (.rangeFunc g ps x y) else none
 | _=>none
def rngC (fn:Func) (k:Nat):Code:=match fn.body with
 | some c=>(qyH k c).getD .skip
 | none=>.skip
def rngX:Code→Code
 | .rangeFunc _ _ x _=>x
 | _=>.skip
def rngY:Code→Code
 | .rangeFunc _ _ _ y=>y
 | _=>.skip
def rngG:Code→Operand
 | .rangeFunc g _ _ _=>g
 | _=>.tmp 0
def rngP:Code→Array Tmp
 | .rangeFunc _ ps _ _=>ps
 | _=>#[]
def rngO (c:Code):Code:=.rangeFunc (rngG c) (rngP c) (rngX c) (rngY c)
def qka (n:Nat) (σ:Store):Store:=if σ.objs.length≤n then σ else dropS n σ
def trimR (n m:Nat) (σ:Store):Store :=
 if (qka n σ).toks.length≤max m (qnt (qka n σ).objs) then qka n σ else qem (max m (qnt (qka n σ).objs)) (qka n σ)
noncomputable def qsN (tb:Tab) (G:GamT) (L:LpsT) (I:RI) (x y:Code) (t:Nat) (args:List PV) (σ:Store):Tr (Bool × Store) :=
 if args.length=I.ps.length then
  bind (texec tb G L x [] (puts I.fr I.ps args) σ) fun r=>match r.1 with
   | .normal=>match r.2.2.2.toks[t]? with
    | some (0,0,e)=>if e=I.e then
      bind (texec tb G L y [] r.2.2.1 { r.2.2.2 with toks:=r.2.2.2.toks.set t (1,0,I.e) }) fun q=>match q.2.2.2.toks[t]? with
       | some (1,0,e)=>if e=I.e then .ret (isNo q.1,{ q.2.2.2 with toks:=q.2.2.2.toks.set t (stOf q.1,0,I.e) }) else .fail
       | _=>.fail
     else .fail
    | _=>.fail
   | _=>.fail
 else .fail
noncomputable def rtree (tb:Tab) (G:GamT) (L:LpsT) (I:RI) (x y:Code) (t:Nat) (args:List PV) (σ:Store):Tr (PV × Store) :=
 bind (qsN tb G L I x y t args σ) fun r=>.ret (.bool r.1,trimR σ.objs.length σ.toks.length r.2)
def qxj (e:Nat):List (Nat × Nat × TypeId)→Bool
 | []=>true
 | (_,k,e') :: l=>(!Nat.beq k 0 || !Nat.beq e' e) && qxj e l
theorem qs5 {e:Nat}:∀ {l:List (Nat × Nat × TypeId)},qxj e l=true→∀ (i v k e':Nat),l[i]?=some (v,k,e')→k=0→e'≠e
 | [],_,i,v,k,e',h,_=>by cases i <;> cases h
 | (v0,k0,e0) :: l,h,i,v,k,e',hi,hk=>by
  simp only [qxj,Bool.and_eq_true] at h
  cases i with
  | zero =>
   cases hi
   subst hk
   intro e1
   subst e1
   simp at h
  | succ i=>exact qs5 h.2 i v k e' hi hk
noncomputable def rorc (I:RI) (g:Operand) (gf:FuncId) (D:List PV→Store→Tr (PV × Store)) (fr:List PV) (σ:Store):Tr (PExit × List PV × Store) :=
 if fr.length=I.nt then
  match ev (mk I.nt (I.ss.zip (rsl I.ss fr))) g with
  | .fn f caps =>
   if f=gf then
    if qwe (rsl I.bs (mk I.nt (I.ss.zip (rsl I.ss fr)))) I.vs && qxj I.e σ.toks && ql0 σ.objs.length σ.toks.length (mk I.nt (I.ss.zip (rsl I.ss fr))) then
     bind (D (.yld σ.toks.length :: caps) { σ with toks:=σ.toks++[(0,0,I.e)] }) fun r=>match r.2.toks[σ.toks.length]? with
      | some (s,0,e)=>if e=I.e then if s=1 then .fail else .ret (exOf s,mk I.nt (I.ss.zip (rsl I.ss fr)),qka σ.objs.length (qem σ.toks.length r.2)) else .fail
      | _=>.fail
    else .fail
   else .fail
  | _=>.fail
 else .fail
theorem qfx {α β:Type} (f:α→β):∀ (t:Tr α),(bind t fun r=>.ret (f r)).run=t.run.map f
 | .ret a=>rfl
 | .fail=>rfl
 | .ite b x y=>by
  simp only [Tr.bind,Tr.run_ite]
  cases b <;> simp [qfx f x,qfx f y]
 | .get xs i z k=>by
  simp only [Tr.bind,Tr.run_get]
  cases xs[i]? with
  | none=>rfl
  | some cs=>exact qfx f (k cs)
section
variable {P : Program} {tb : Tab} {gl : Gl}
theorem Does.into {c:Code} {fr fr1:List PV} {σ:Store} {e:PExit} {fr':List PV} {σ':Store} (hw:Weak fr fr1) (h:Does P gl c fr1 σ e fr' σ'):Does P gl c fr σ e fr' σ' :=
 fun r n H0 w0 hR Q a w hst hq=>h r n H0 w0 hR Q a w (quk hw hst) hq
theorem qpW (l:List (Nat × PV)):∀ (n i:Nat),(qbj l n i).length=n
 | 0,_=>rfl
 | n+1,i=>by simp [qbj,qpW l n (i+1)]
theorem qHQ (n:Nat) (l:List (Nat × PV)):(mk n l).length=n:=qpW l n 0
theorem Weak.set:∀ {xs ys:List PV} (i:Nat) (x:PV),Weak xs ys→Weak (xs.set i x) (ys.set i x)
 | [],[],_,_,_=>trivial
 | a :: xs,b :: ys,0,x,h=>⟨.inr rfl,h.2⟩
 | a :: xs,b :: ys,i+1,x,h=>⟨h.1,Weak.set i x h.2⟩
 | [],_ :: _,_,_,h=>by cases h
 | _ :: _,[],_,_,h=>by cases h
theorem Weak.puts:∀ (ps:List Tmp) (zs:List PV) {xs ys:List PV},Weak xs ys→Weak (puts xs ps zs) (puts ys ps zs)
 | [],_,_,_,h=>by simpa [Go.Pv.puts] using h
 | _ :: _,[],_,_,h=>by simpa [Go.Pv.puts] using h
 | p :: ps,a :: zs,xs,ys,h=>by
  simp only [Go.Pv.puts]
  exact Weak.puts ps zs (h.set p a)
theorem qBN {G:GamT} {L:LpsT} {I:RI} {x y:Code} (hT:qbN P tb) (hΓ:qaJ P gl (gam G)) (hm:P.follows .mixedOrders=true) (hLx:qb8 P gl (lps L) x) (hLy:qb8 P gl (lps L) y) (hdx:qbx (gam G) x=true) (hdy:qbx (gam G) y=true)
  {t:Nat} {args:List PV} {σ:Store} {b:Bool} {σ':Store} (h:(qsN tb G L I x y t args σ).run=some (b,σ')) {fr:List PV} (hw:Weak fr I.fr) :
  ∃ fr1 σ1 ex fr2 σ2,args.length=I.ps.length∧Does P gl x (puts fr I.ps args) σ .normal fr1 σ1∧σ1.toks[t]?=some (0,0,I.e) ∧
   Does P gl y fr1 { σ1 with toks:=σ1.toks.set t (1,0,I.e) } ex fr2 σ2∧σ2.toks[t]?=some (1,0,I.e)∧b=isNo ex∧σ'={ σ2 with toks:=σ2.toks.set t (stOf ex,0,I.e) }:=by
 unfold qsN at h
 split at h
 ·rename_i hl
  obtain ⟨⟨e1,kn1,fr1,σ1⟩,h1,h2⟩:=bind_some h
  have d1:=Does.into (Weak.puts I.ps args hw) (Does.of_tree hT hΓ hm hLx hdx h1)
  simp only at h2
  cases e1 with
  | normal =>
   simp only at h2
   split at h2
   ·rename_i e ht
    split at h2
    ·rename_i hee
     subst hee
     obtain ⟨⟨ex,kn2,fr2,σ2⟩,h3,h4⟩:=bind_some h2
     have d2:=Does.of_tree hT hΓ hm hLy hdy h3
     simp only at h4
     split at h4
     ·rename_i e ht2
      split at h4
      ·rename_i hee
       simp only [Tr.run_ret,Option.some.injEq,Prod.mk.injEq] at h4
       refine ⟨fr1,σ1,ex,fr2,_,hl,d1,ht,d2,?_,h4.1.symm,h4.2.symm⟩
       rw [ht2,hee]
      ·cases h4
     ·cases h4
    ·cases h2
   ·cases h2
  | exit j=>cases h2
  | ret=>cases h2
 ·cases h
theorem Post.dropS {H:Gh} {σ σ':Store} {w w':World} {b:Bool} {v:Value} {n:Nat} (hok:Ok gl H σ w) (hn:σ.objs.length≤n) (h:Post gl H w (.bool b) σ' v w'):Post gl H w (.bool b) (Go.Pv.dropS n σ') v w':=by
 obtain ⟨H',hev,hok',hx⟩:=h
 have hn':H.ob.length≤n:=by rw [hok.len]; exact hn
 refine ⟨H'.keep n,⟨hev.B,hev.base,hev.aux,hev.K,hev.os,hev.tape,hev.output,hev.size,fun id b hid=>?_,hev.tok,fun b off hp=>⟨qkN (hev.prot b off hp).1,(hev.prot b off hp).2⟩,hev.block,hev.dr,hev.fix,hev.old⟩,qAr hok' (fun t T e hk=>?_),?_⟩
 ·simp only [Gh.keep]
  rw [List.getElem?_take,if_pos (Nat.lt_of_lt_of_le (List.getElem?_eq_some_iff.1 hid).1 hn')]
  exact hev.ob id b hid
 ·obtain ⟨T0,e0,k0⟩:=hev.old t T e hk
  obtain ⟨T1,e1,u⟩:=hev.tok t T0 e0
  rw [e] at e1
  cases e1
  rw [(u.lp k0).2.2.2]
  obtain ⟨_,_,o,_,ho⟩:=hok.tok t T0 e0 (fun hh=>hh.2 k0)
  rcases ho with ⟨h1,_⟩ | ⟨_,_,r,_,_,_,h6,_⟩
  ·exact absurd k0 h1
  ·omega
 ·cases hx
  exact .bool b
theorem Post.dropT {H:Gh} {σ σ':Store} {w w':World} {b:Bool} {v:Value} {m:Nat} (hok:Ok gl H σ w) (hm:σ.toks.length≤m) (h:Post gl H w (.bool b) σ' v w'):Post gl H w (.bool b) (qem m σ') v w':=by
 obtain ⟨H',hev,hok',hx⟩:=h
 have hl:H.tk.length≤m:=by
  have:=congrArg List.length hok.tkl
  simp at this
  omega
 refine ⟨H'.trim m,⟨hev.B,hev.base,hev.aux,hev.K,hev.os,hev.tape,hev.output,hev.size,hev.ob,fun t T ht=>?_,fun b off hp=>⟨qhI (hev.prot b off hp).1,(hev.prot b off hp).2⟩,hev.block,hev.dr,hev.fix,fun t T e hk=>hev.old t T (qcV e).2 hk⟩,qvY hok',?_⟩
 ·obtain ⟨T',h1,h2⟩:=hev.tok t T ht
  refine ⟨T',?_,h2⟩
  simp only [Gh.trim]
  rw [List.getElem?_take,if_pos (Nat.lt_of_lt_of_le (List.getElem?_eq_some_iff.1 ht).1 hl)]
  exact h1
 ·cases hx
  exact .bool b
theorem Post.trimR {H:Gh} {σ σ':Store} {w w':World} {b:Bool} {v:Value} {n m:Nat} (hok:Ok gl H σ w) (hn:σ.objs.length≤n) (hm:σ.toks.length≤m) (h:Post gl H w (.bool b) σ' v w'):Post gl H w (.bool b) (Go.Pv.trimR n m σ') v w':=by
 have h1:Post gl H w (.bool b) (qka n σ') v w':=by
  unfold qka
  split
  ·exact h
  ·exact h.dropS hok hn
 unfold Go.Pv.trimR
 split
 ·exact h1
 ·exact h1.dropT hok (Nat.le_trans hm (Nat.le_max_left _ _))
theorem YCalls.mono {P:Program} {l:Nat} {args:Array Value} {w:World} {R R':Ending→World→Prop} (h:YCalls P l args w R) (hR:∀ e w',R e w'→R' e w'):YCalls P l args w R':=by
 obtain ⟨f,tmps,assign,body,h1,h2⟩:=h
 exact ⟨f,tmps,assign,body,h1,h2.mono hR⟩
theorem qxO {e:Nat} {Y0:Nat→List PV→Store→Option (Bool × Store)} (h:ql7 P gl qeo (.yld e fun t args σ=>(Y0 t args σ).map fun r=>(.bool r.1,r.2))) :
  ql7 P gl qeo (.yld e fun t args σ=>(Y0 t args σ).map fun r=>(.bool r.1,trimR σ.objs.length σ.toks.length r.2)):=by
 intro t args σ x σ' ht hy H w vs T hok hr hT
 obtain ⟨r,hr0,he⟩:=Option.map_eq_some_iff.1 hy
 simp only [Prod.mk.injEq] at he
 obtain ⟨rfl,rfl⟩:=he
 refine YCalls.mono (h t args σ (.bool r.1) r.2 ht (by simp only [hr0,Option.map_some]) H w vs T hok hr hT) ?_
 rintro e w' ⟨v,rfl,hp⟩
 exact ⟨v,rfl,hp.trimR hok (Nat.le_refl _) (Nat.le_refl _)⟩
theorem qFD {G:GamT} {L:LpsT} {I:RI} {g:Operand} {ps:Array Tmp} {x y:Code} {gf:FuncId} {D:List PV→Store→Tr (PV × Store)} (hT:qbN P tb) (hΓ:∀ gl':Gl,gl'.v=gl.v→qaJ P gl' (gam G)) (hm:P.follows .mixedOrders=true)
  (hLx:∀ gl':Gl,gl'.v=gl.v→qb8 P gl' (lps L) x) (hLy:∀ gl':Gl,gl'.v=gl.v→qb8 P gl' (lps L) y) (hdx:qbx (gam G) x=true) (hdy:qbx (gam G) y=true) (hps:ps.toList=I.ps)
  (hent : ∃ fn, P.funcs[gf]? = some fn ∧ (fn.name == "runtime.NumGoroutine") = false ∧ fn.body.isNone = false)
  (hI:∀ gl':Gl,gl'.v=gl.v→ql7 P gl' qeo (.yld I.e fun t args σ=>(rtree tb G L I x y t args σ).run)→SimS P gl' gf fun args σ=>(D args σ).run) :
  ∀ fr σ e fr' σ',(rorc I g gf D fr σ).run=some (e,fr',σ')→Does P gl (.rangeFunc g ps x y) fr σ e fr' σ':=by
 intro fr σ e fr' σ' h
 unfold rorc at h
 split at h
 ·rename_i hn
  have hw:=qkS fr I.ss
  rw [hn] at hw
  generalize hfr1:mk I.nt (I.ss.zip (rsl I.ss fr))=fr1 at h hw
  have hl1:fr1.length=I.nt:=by rw [← hfr1]; exact qHQ _ _
  split at h
  ·rename_i f caps hg
   split at h
   ·rename_i hf
    subst hf
    split at h
    ·rename_i hk
     simp only [Bool.and_eq_true] at hk
     obtain ⟨⟨hk1,hk2⟩,hk3⟩:=hk
     obtain ⟨⟨v,σ2⟩,h1,h2⟩:=bind_some h
     have hkeep:=qfU hk3
     simp only at h2
     split at h2
     ·rename_i s e' hs
      split at h2
      ·rename_i hee
       subst hee
       split at h2
       ·cases h2
       ·rename_i hs1
        simp only [Tr.run_ret,Option.some.injEq,Prod.mk.injEq] at h2
        obtain ⟨rfl,rfl,rfl⟩:=h2
        have hw2:Weak fr1 I.fr:=by
         have:=qkS fr1 I.bs
         rw [hl1,qsS hk1] at this
         exact this
        have hd:=qxS (P:=P) (gl:=gl) (g:=g) (ps:=ps) (assign:=x) (body:=y) (fr:=fr1) (σ:=σ) hg I.e hent (Y:=fun t args σ=>(qsN tb G L I x y t args σ).run.map fun r=>(.bool r.1,r.2)) (D:=fun args σ=>(D args σ).run)
         (qs5 hk2) hkeep.1 hkeep.2 (fun gl' hv hc=>hI gl' hv (by
          have:=qxO (Y0:=fun t args σ=>(qsN tb G L I x y t args σ).run) hc
          simp only [rtree,qfx]
          exact this)) (fun gl' hv t args σ x' σ' hy=>by
          obtain ⟨r,hr,he⟩:=Option.map_eq_some_iff.1 hy
          simp only [Prod.mk.injEq] at he
          obtain ⟨rfl,rfl⟩:=he
          obtain ⟨q1,q2,q3,q4,q5,q6,q7,q8,q9,q10,q11⟩:=qBN hT (hΓ gl' hv) hm (hLx gl' hv) (hLy gl' hv) hdx hdy hr hw2
          rw [hps]
          exact ⟨q1,q2,q3,q4,q5,by rw [q6,← hps]; simp,q7,q8,q9,q10,by rw [q11.1],q11.2⟩) h1 hs hs1
        have hd2:=Does.into hw hd
        unfold qka
        split
        ·exact hd2
        ·have:=hd2.drop (n:=σ.objs.length) (Nat.le_refl _)
         rw [hkeep.1 _ (Nat.le_refl _)] at this
         exact this
      ·cases h2
     ·cases h2
    ·cases h
   ·cases h
  ·cases h
 ·cases h
end
end Go.Pv
set_option linter.unusedSimpArgs false
set_option linter.unusedVariables false
namespace Go.Pv
section
variable {α : Type} (C : Cod α)
theorem qa7 (l:List α) (i:Nat):(rOf C l).getD i []=match l[i]? with | some a=>C.enc a | none=>[]:=by
 rw [List.getD_eq_getElem?_getD,qzG]
 cases l[i]? <;> rfl
theorem qC3 (z:List PV) (l:List α) (i:Nat) (h:∀ a,selF z [C.enc a] 0 0=C.enc a) (hs:∀ (xs:List (List PV)) (k j:Nat) (c:List PV),xs[k]?=some c→selF z xs k j=selF z [c] 0 j):qb9 z (rOf C l) i=decide (i < l.length):=by
 unfold qb9
 congr 1
 rw [qzG]
 cases hi:l[i]? with
 | none =>
  have:¬ i < l.length:=by simpa using hi
  simp [this]
 | some a =>
  have hl:=(List.getElem?_eq_some_iff.1 hi).1
  have hx:(rOf C l)[i]?=some (C.enc a):=by simp [hi]
  rw [hs _ _ _ _ hx,h]
  simp [hl]
end
theorem qGU (c:PV) {xs:List (List PV)} {k j:Nat} {d:List PV} (h:xs[k]?=some d):selC c xs k j=selC c [d] 0 j:=by
 have e:xs.getD k []=d:=by rw [List.getD_eq_getElem?_getD,h]; rfl
 have e':([d]:List (List PV)).getD 0 []=d:=rfl
 cases c <;> simp only [selC,xInt,ql6,xStr,xRow,xPV,e,e']
theorem qBv:∀ (z:List PV) (xs:List (List PV)) (k j:Nat) (d:List PV),xs[k]?=some d→selF z xs k j=selF z [d] 0 j
 | [],_,_,_,_,_=>rfl
 | c :: z,xs,k,j,d,h=>by simp only [selF]; rw [qGU c h,qBv z xs k (j+1) d h]
theorem qfe {α:Type} (C:Cod α) (z:List PV) (h:∀ a,selF z [C.enc a] 0 0=C.enc a) (l:List α) (i:Nat):qb9 z (rOf C l) i=decide (i < l.length):=qC3 C z l i h (qBv z)
@[simp] theorem okGet_cM (l:List Tm) (i:Nat):qb9 [.int .i64 0,.str [],.int .i64 0,.int .i64 0,.str []] (rOf cM l) i=decide (i < l.length):=qfe _ _ (fun _=>rfl) l i
@[simp] theorem xInt_cM0 (l:List Tm) (i:Nat):xInt (rOf cM l) i 0=(l[i]?.getD (0,[],0,0,[])).1:=by unfold xInt; rw [qa7]; cases l[i]? <;> rfl
@[simp] theorem xStr_cM1 (l:List Tm) (i:Nat):xStr (rOf cM l) i 1=(l[i]?.getD (0,[],0,0,[])).2.1:=by unfold xStr; rw [qa7]; cases l[i]? <;> rfl
@[simp] theorem xInt_cM2 (l:List Tm) (i:Nat):xInt (rOf cM l) i 2=(l[i]?.getD (0,[],0,0,[])).2.2.1:=by unfold xInt; rw [qa7]; cases l[i]? <;> rfl
@[simp] theorem xInt_cM3 (l:List Tm) (i:Nat):xInt (rOf cM l) i 3=(l[i]?.getD (0,[],0,0,[])).2.2.2.1:=by unfold xInt; rw [qa7]; cases l[i]? <;> rfl
@[simp] theorem xStr_cM4 (l:List Tm) (i:Nat):xStr (rOf cM l) i 4=(l[i]?.getD (0,[],0,0,[])).2.2.2.2:=by unfold xStr; rw [qa7]; cases l[i]? <;> rfl
def cS:Cod (List UInt8) where
 enc s:=[.str s]
 dec c:=match c with | [.str s]=>some s | _=>none
 k:=1
 of_dec c a h:=by
  split at h
  ·cases h; rfl
  ·cases h
 dec_of a:=rfl
 lock a:=rfl
 shut a:=rfl
 len a:=rfl
 one a:=rfl
@[simp] theorem qho (l:List (List UInt8)):qav (rOf cS l) 1=true:=qd3 cS l
@[simp] theorem okNews_cS (l:List (List UInt8)):qaB (rOf cS l) 1=true:=qd6 cS l
@[simp] theorem okGet_cS (l:List (List UInt8)) (i:Nat):qb9 [.str []] (rOf cS l) i=decide (i < l.length):=qfe _ _ (fun _=>rfl) l i
@[simp] theorem xStr_cS0 (l:List (List UInt8)) (i:Nat):xStr (rOf cS l) i 0=(l[i]?.getD []):=by unfold xStr; rw [qa7]; cases l[i]? <;> rfl
@[simp] theorem qfa (s:List UInt8):([[.str s]]:List (List PV))=rOf cS [s]:=rfl
@[simp] theorem qGt (l:List Tm) (a:Int) (b:List UInt8) (k n:Int) (s:List UInt8):rOf cM l++[[.int .i64 a,.str b,.int .i64 k,.int .i64 n,.str s]]=rOf cM (l++[(a,b,k,n,s)]):=by rw [qrE]; rfl
@[simp] theorem one_cM (a:Int) (b:List UInt8) (k n:Int) (s:List UInt8):([[.int .i64 a,.str b,.int .i64 k,.int .i64 n,.str s]]:List (List PV))=rOf cM [(a,b,k,n,s)]:=rfl
@[simp] theorem rOf_append {α:Type} (C:Cod α) (a b:List α):rOf C a++rOf C b=rOf C (a++b):=(qrE C a b).symm
@[simp] theorem cons_cM (l:List Tm) (a:Int) (b:List UInt8) (k n:Int) (s:List UInt8):[.int .i64 a,.str b,.int .i64 k,.int .i64 n,.str s] :: rOf cM l=rOf cM ((a,b,k,n,s) :: l):=rfl
@[simp] theorem cons_cS (l:List (List UInt8)) (s:List UInt8):[.str s] :: rOf cS l=rOf cS (s :: l):=rfl
@[simp] theorem lockLL_nil':qac []=[]:=rfl
@[simp] theorem shutLL_nil':qcM []=[]:=rfl
@[simp] theorem dropPLL_nil' (n:Nat):qam n []=[]:=rfl
@[simp] theorem dropTLL_nil' (n:Nat):qc1 n []=[]:=rfl
@[simp] theorem pnil_rOf {α:Type} (C:Cod α):(rOf C []:List (List PV))=[]:=rfl
def aT {α:Type}:List α→Tag
 | []=>.full
 | _=>.tok 0
def aS (k:Nat) (e:TypeId) {α:Type}:List α→Store
 | []=>⟨[],[],[]⟩
 | a :: l=>⟨[],[((a :: l).length,k,e)],[]⟩
@[simp] theorem qHC {α:Type}:aT ([]:List α)=.full:=rfl
@[simp] theorem qHx {α:Type} (k:Nat) (e:TypeId):aS k e ([]:List α)=⟨[],[],[]⟩:=rfl
theorem qE2 {α:Type} (l:List α) (a:α):aT (l++[a])=.tok 0:=by cases l <;> rfl
theorem qFd {α:Type} (k:Nat) (e:TypeId) (l:List α) (a:α):aS k e (l++[a])=⟨[],[((l++[a]).length,k,e)],[]⟩:=by cases l <;> rfl
theorem qbP {i:Nat} (h:i < 9223372036854775807):iAdd .i64 (i:Int) 1=((i+1:Nat):Int):=qa2 (by omega)
end Go.Pv
set_option maxHeartbeats 4000000
set_option maxRecDepth 200000
set_option linter.unusedSimpArgs false
set_option linter.unusedVariables false
namespace Go.Pv
open Go Go.Proofs Go.RowKit
def twosV:List (List UInt8):=[[58,45],[60,61],[62,61],[33,61]]
structure GlLex (gl:Gl):Prop extends GlOk gl where
 twos : VarIs gl "pedigree/lex.twos" (twosV.map fun l => Value.string ⟨l.toArray⟩).toArray
theorem GlPow.of_v {gl gl':Gl} (h:GlPow gl) (e:gl'.v=gl.v):GlPow gl':=by
 obtain ⟨h⟩:=h
 exact ⟨by unfold VarIs at *; rw [e]; exact h⟩
theorem GlOk.of_v {gl gl':Gl} (h:GlOk gl) (e:gl'.v=gl.v):GlOk gl':=by
 obtain ⟨h1,h2,h3⟩:=h
 exact ⟨h1.of_v e,by unfold VarIs at *; rw [e]; exact h2,by unfold VarIs at *; rw [e]; exact h3⟩
theorem GlLex.of_v {gl gl':Gl} (h:GlLex gl) (e:gl'.v=gl.v):GlLex gl':=by
 obtain ⟨h1,h2⟩:=h
 exact ⟨h1.of_v e,by unfold VarIs at *; rw [e]; exact h2⟩
def qAu:List PV:=[.str [58,45],.str [60,61],.str [62,61],.str [33,61]]
theorem qB3 : Tryz.prog.globalNamed "pedigree/lex.twos" = some 0 := by kernel_rfl
theorem qw4 {gl:Gl} (h:GlLex gl):ql7 Tryz.prog gl (qvV+0) (.glob qAu):=by
 obtain ⟨g,T,f,h1,h2⟩:=h.twos
 rw [qB3] at h1
 cases h1
 refine ⟨_,T,f,by rw [Nat.add_sub_cancel_left]; exact h2,fun H w=>?_⟩
 exact .cons _ _ _ _ (.str [58,45] (by decide)) (.cons _ _ _ _ (.str [60,61] (by decide)) (.cons _ _ _ _ (.str [62,61] (by decide)) (.cons _ _ _ _ (.str [33,61] (by decide)) .nil)))
theorem qCh:maxLen≤9223372036854775807:=by decide
def idxV (s:List UInt8) (c:Int):Int:=Lib.indexByte s c.toNat.toUInt8
theorem ql4 (c:UInt8):∀ l:List UInt8,Lib.indexByte l c≤l.length
 | []=>by simp [Lib.indexByte]
 | b :: l=>by
  have:=ql4 c l
  unfold Lib.indexByte
  split
  ·simp only [List.length_cons]; omega
  ·split <;> simp only [List.length_cons] <;> omega
def qgy:List PV→Tr PV
 | [.str s,.int .u8 c]=>.ret (.int .i64 (idxV s c))
 | _=>.fail
theorem qjN (gl:Gl):SimP Tryz.prog gl 153 fun args=>(qgy args).run:=by
 refine ⟨⟨_,Tryz.func153,by rfl,by rfl⟩,?_⟩
 intro args x hx H w vs hB hob htk hw hrel
 unfold qgy at hx
 split at hx
 ·rename_i s c
  cases hx
  cases hrel with
  | cons _ v _ vs hv hvs =>
   cases hvs with
   | cons _ v2 _ vs hv2 hvs =>
    cases hvs
    cases hv with
    | str _ hl =>
     cases hv2
     refine (Tryz.strings_IndexByte ⟨s.toArray⟩ c w).mono ?_
     rintro e w' ⟨rfl,rfl⟩
     refine ⟨_,rfl,⟨Below.refl _ _,Dr.of_eq rfl⟩,.int _ _ ?_⟩
     have h1:=ql4 c.toNat.toUInt8 s
     have h2:=Lib.indexByte_ge s c.toNat.toUInt8
     have:=qCh
     simp only [idxV]
     generalize Lib.indexByte s c.toNat.toUInt8=q at h1 h2 ⊢
     simp [Lit.wf,IntKind.min,IntKind.max,IntKind.signed,IntKind.bits]
     omega
 ·cases hx
def qds (l:List (List UInt8)) (sep:List UInt8):List UInt8:=Lib.join l sep
def qhP (l:List (List UInt8)) (sep:List UInt8):Bool:=decide (l.length≤140737488355328) && decide ((qds l sep).length≤140737488355328)
@[simp] theorem qcW (l:List (List UInt8)) (sep:List UInt8):qhP l sep=true↔l.length≤140737488355328∧(qds l sep).length≤140737488355328:=by simp [qhP]
noncomputable def qqj:List PV→Tr PV
 | [.sl r _,.str sep]=>Tr.chk (okR cS r) (Tr.chk (qhP (unR cS r) sep) (.ret (.str (qds (unR cS r) sep))))
 | _=>.fail
theorem qAn {H:Gh} {w:World}:∀ {l:List (List UInt8)} {vss:List (List Value)},RelLL H w (rOf cS l) vss→vss=l.map fun s=>[Value.string ⟨s.toArray⟩]
 | [],_,h=>by cases h; rfl
 | s :: l,_,h=>by
  rw [qEo] at h
  cases h with
  | cons _ v _ vs hv hvs =>
   have hv:RelL H w [.str s] v:=hv
   cases hv with
   | cons _ u _ us hu hus =>
    cases hus
    cases hu
    rw [qAn hvs]
    rfl
theorem qmY {gl:Gl} (hgl:GlPow gl):SimP Tryz.prog gl 88 fun args=>(qqj args).run:=by
 refine ⟨⟨_,Tryz.func88,by rfl,by rfl⟩,?_⟩
 intro args x hx H w vs hB hob htk hw hrel
 unfold qqj at hx
 split at hx
 ·rename_i r tg sep
  obtain ⟨h1,hx⟩:=Tr.chk_some hx
  obtain ⟨h2,hx⟩:=Tr.chk_some hx
  cases hx
  obtain ⟨l,rfl⟩:=qHS cS h1
  rw [qHj] at h2 ⊢
  simp only [qcW] at h2
  cases hrel with
  | cons _ v _ vs hv hvs =>
   cases hvs with
   | cons _ v2 _ vs hv2 hvs =>
    cases hvs
    cases hv2 with
    | str _ hs =>
     cases hv with
     | sl p len cap k _ vss _ hl hcap hm hll hrow htag =>
      rw [qFb] at hl
      subst hl
      have hvss:=qAn hll
      subst hvss
      cases l with
      | nil =>
       refine (Tryz.strings_Join_none p cap ⟨sep.toArray⟩ w).mono ?_
       rintro e w' ⟨rfl,rfl⟩
       exact ⟨_,rfl,⟨Below.refl _ _,Dr.of_eq rfl⟩,.str _ (by simp [qds,Lib.join_nil])⟩
      | cons s0 l0 =>
       obtain ⟨hk,a,ha,_⟩:=hrow 0 [.string ⟨s0.toArray⟩] rfl
       subst ha
       have hk:k=1:=hk.symm
       subst hk
       have hcell:∀ (j:Nat) (s:List UInt8),(s0 :: l0)[j]?=some s→w.cell? (a.add (j * 1))=some (.string ⟨s.toArray⟩)∧(a.add (j * 1)).block < w.heap.size:=fun j s hj=>by
        obtain ⟨_,a',ha',hc⟩:=hrow j [.string ⟨s.toArray⟩] (by rw [List.getElem?_map,hj]; rfl)
        cases ha'
        have:=hc 0 _ rfl
        simp only [Addr.add,if_true] at this ⊢
        exact ⟨this.2,this.1.1⟩
       have h00:=hcell 0 s0 rfl
       have hsp:a.spot=none:=by
        have:=World.cell?_spot h00.1
        simpa [Addr.add] using this
       obtain ⟨blk,off,spot⟩:=a
       subst hsp
       have hnn:l0.length+1=((s0 :: l0).map fun s=>(⟨s.toArray⟩:ByteArray)).length:=by simp
       have hcalls:=Tryz.strings_Join blk off cap ((s0 :: l0).map fun s=>⟨s.toArray⟩) ⟨sep.toArray⟩ w (fun j x hj=>by
        rw [List.getElem?_map] at hj
        obtain ⟨s,hs1,rfl⟩:=Option.map_eq_some_iff.1 hj
        have:=(hcell j s hs1).1
        simp only [Nat.mul_one] at this
        by_cases hj0:j=0
        ·subst hj0; simpa [Addr.add] using this
        ·simpa [Addr.add,hj0] using this) (by simpa [Addr.add] using h00.2) (by simpa using h2.1) (by simpa using hcap) (by simpa [qds,Function.comp_def] using h2.2)
       rw [← hnn] at hcalls
       refine hcalls.mono ?_
       rintro e w' ⟨rfl,hb⟩
       have e1:(((s0 :: l0).map fun s=>(⟨s.toArray⟩:ByteArray)).map (·.data.toList))=s0 :: l0:=by simp [Function.comp_def]
       rw [e1]
       exact ⟨_,rfl,⟨hb,hgl.dr _ _⟩,.str _ (Nat.le_trans h2.2 (by decide))⟩
 ·cases hx
end Go.Pv
set_option maxHeartbeats 4000000
set_option maxRecDepth 200000
set_option linter.unusedSimpArgs false
set_option linter.unusedVariables false
namespace Go.Pv
open Go Go.Proofs Go.RowKit
def numN:List UInt8→Nat→Option Nat
 | [],a=>some a
 | c :: l,a=>if 48≤c.toNat∧c.toNat≤57 then numN l (a * 10+(c.toNat - 48)) else none
def qkJ (s:List UInt8):Bool:=(numN s 0).isSome
def numV (s:List UInt8):Int:=(((numN s 0).getD 0:Nat):Int)
theorem qzq:∀ (l:List UInt8) (a k x:Nat),numN l a=some x→a < 10 ^ k→x < 10 ^ (k+l.length)
 | [],a,k,x,h,ha=>by simp [numN] at h; subst h; simpa using ha
 | c :: l,a,k,x,h,ha=>by
  unfold numN at h
  split at h
  ·have:=qzq l _ (k+1) x h (by rw [Nat.pow_succ]; omega)
   simp only [List.length_cons]
   have e:k+(l.length+1)=k+1+l.length:=by omega
   rw [e]
   exact this
  ·cases h
def qvZ:List PV→Store→Option (List UInt8 × Bool × Int × Int × Store)
 | [.str s,.bool m,.int .u64 n,.int .i64 i],σ=>some (s,m,n,i,σ)
 | _,_=>none
def qzM:List UInt8 × Bool × Int × Int × Store→Tr (PExit × List (Nat × PV) × Store)
 | (s,m,n,i,σ)=>Tr.chk (iEq n 0) (Tr.chk (iEq i 0) (Tr.chk (iLe (sLen s) 19) (.ite (qkJ s) (.ret (.exit 0,[(4,.bool m),(5,.int .u64 (numV s))],σ)) (.ret (.ret,[(2,.int .i64 0),(3,.bool false)],σ)))))
def qCx:LpsT:=fun r fr σ=>if r=8 then oracle 75 [0,4,5,6] qvZ qzM fr σ else .fail
noncomputable def quJ:Code:=qyk Tryz.f143 0
theorem qyS (gl : Gl) : ∀ vs σ a e out σ', qvZ vs σ = some a → (qzM a).run = some (e, out, σ') → LDoes Tryz.prog gl quJ (mk 75 ([0, 4, 5, 6].zip vs)) σ e (mk 75 out) σ' := by
  intro vs st a e out σ' hd hr
  unfold qvZ at hd
  split at hd
  · rename_i s m n i
    injection hd with hd
    subst hd
    obtain ⟨h1, q1⟩ := Tr.chk_some hr
    obtain ⟨h2, q2⟩ := Tr.chk_some q1
    obtain ⟨h3, q3⟩ := Tr.chk_some q2
    clear hr q1 q2
    simp at h1 h2 h3
    subst h1 h2
    have key : ∀ (k : Nat) (i : Int) (n : Nat), 0 ≤ i → i + k = s.length → n < 10 ^ i.toNat → numN (s.drop i.toNat) n = numN s 0 →
       LDoes Tryz.prog gl quJ (mk 75 ([0, 4, 5, 6].zip [.str s, .bool m, .int .u64 (n : Int), .int .i64 i])) st e (mk 75 out) σ' := by
      intro k
      induction k with
      | zero =>
        intro i n h0 hi hn hf
        have e1 : s.drop i.toNat = [] := by apply List.drop_eq_nil_of_le; omega
        rw [e1] at hf
        simp [numN] at hf
        simp [qkJ, numV, ← hf] at q3
        obtain ⟨rfl, rfl, rfl⟩ := q3
        refine LDoes.round qaj (G := ofL []) qag qah (L := fun _ _ _ => .fail) (qae (by kernel_rfl)) (by kernel_rfl) ?_
        refine Tr.all_as (Tr.ite (iLt i (sLen s))
            (Tr.ite (qap s i)
              (Tr.ite (iLt (sAt s i) 48)
                (Tr.ret
                  (PExit.ret, [3, 2, 39, 34, 27],
                    [PV.str s, PV.top, PV.int IntKind.i64 0, PV.bool false, PV.bool m, PV.int IntKind.u64 (Int.ofNat n), PV.int IntKind.i64 i, PV.top, PV.top, PV.top, PV.top, PV.top, PV.top, PV.top, PV.top,
                      PV.top, PV.top, PV.top, PV.top, PV.top, PV.top, PV.top, PV.top, PV.top, PV.int IntKind.i64 i, PV.str s, PV.int IntKind.i64 (sLen s), PV.bool true, PV.top, PV.top, PV.str s,
                      PV.int IntKind.i64 i, PV.int IntKind.u8 (sAt s i), PV.bool (iLt (sAt s i) 48), PV.bool true, PV.tup [], PV.tup [], PV.tup [], PV.tup [], PV.bool true, PV.top, PV.top, PV.top, PV.top,
                      PV.top, PV.top, PV.top, PV.top, PV.top, PV.top, PV.top, PV.top, PV.top, PV.top, PV.top, PV.top, PV.top, PV.top, PV.top, PV.top, PV.top, PV.top, PV.top, PV.top, PV.top, PV.top, PV.top,
                      PV.top, PV.top, PV.top, PV.top, PV.top, PV.top, PV.top, PV.top],
                    st))
                (Tr.ite (qap s i)
                  (Tr.ite (iLt 57 (sAt s i))
                    (Tr.ret
                      (PExit.ret, [3, 2, 39, 34, 27],
                        [PV.str s, PV.top, PV.int IntKind.i64 0, PV.bool false, PV.bool m, PV.int IntKind.u64 (Int.ofNat n), PV.int IntKind.i64 i, PV.top, PV.top, PV.top, PV.top, PV.top, PV.top, PV.top, PV.top,
                          PV.top, PV.top, PV.top, PV.top, PV.top, PV.top, PV.top, PV.top, PV.top, PV.int IntKind.i64 i, PV.str s, PV.int IntKind.i64 (sLen s), PV.bool true, PV.top, PV.top, PV.str s,
                          PV.int IntKind.i64 i, PV.int IntKind.u8 (sAt s i), PV.bool (iLt (sAt s i) 48), PV.bool false, PV.str s, PV.int IntKind.i64 i, PV.int IntKind.u8 (sAt s i), PV.bool (iLt 57 (sAt s i)),
                          PV.bool true, PV.top, PV.top, PV.top, PV.top, PV.top, PV.top, PV.top, PV.top, PV.top, PV.top, PV.top, PV.top, PV.top, PV.top, PV.top, PV.top, PV.top, PV.top, PV.top, PV.top, PV.top,
                          PV.top, PV.top, PV.top, PV.top, PV.top, PV.top, PV.top, PV.top, PV.top, PV.top, PV.top, PV.top, PV.top, PV.top],
                        st))
                    (Tr.ite (qap s i)
                      (Tr.ret
                        (PExit.normal, [39, 34, 27],
                          [PV.str s, PV.top, PV.top, PV.top, PV.bool m, PV.int IntKind.u64 (iAdd IntKind.u64 (iMul IntKind.u64 (Int.ofNat n) 10) (qaC IntKind.u64 (iSub IntKind.u8 (sAt s i) 48))),
                            PV.int IntKind.i64 (iAdd IntKind.i64 i 1), PV.top, PV.top, PV.top, PV.top, PV.top, PV.top, PV.top, PV.top, PV.top, PV.top, PV.top, PV.top, PV.top, PV.top, PV.top, PV.top, PV.top,
                            PV.int IntKind.i64 i, PV.str s, PV.int IntKind.i64 (sLen s), PV.bool true, PV.int IntKind.i64 i, PV.int IntKind.i64 (iAdd IntKind.i64 i 1), PV.str s, PV.int IntKind.i64 i,
                            PV.int IntKind.u8 (sAt s i), PV.bool (iLt (sAt s i) 48), PV.bool false, PV.str s, PV.int IntKind.i64 i, PV.int IntKind.u8 (sAt s i), PV.bool (iLt 57 (sAt s i)), PV.bool false,
                            PV.int IntKind.u64 (Int.ofNat n), PV.int IntKind.u64 (iMul IntKind.u64 (Int.ofNat n) 10), PV.str s, PV.int IntKind.i64 i, PV.int IntKind.u8 (sAt s i),
                            PV.int IntKind.u8 (iSub IntKind.u8 (sAt s i) 48), PV.int IntKind.u64 (qaC IntKind.u64 (iSub IntKind.u8 (sAt s i) 48)),
                            PV.int IntKind.u64 (iAdd IntKind.u64 (iMul IntKind.u64 (Int.ofNat n) 10) (qaC IntKind.u64 (iSub IntKind.u8 (sAt s i) 48))), PV.top, PV.top, PV.top, PV.top, PV.top, PV.top, PV.top,
                            PV.top, PV.top, PV.top, PV.top, PV.top, PV.top, PV.top, PV.top, PV.top, PV.top, PV.top, PV.top, PV.top, PV.top, PV.top, PV.top, PV.top, PV.top, PV.top, PV.top],
                          st))
                      Tr.fail))
                  Tr.fail))
              Tr.fail)
            (Tr.ret
              (PExit.exit 0, [27],
                [PV.str s, PV.top, PV.top, PV.top, PV.bool m, PV.int IntKind.u64 (Int.ofNat n), PV.int IntKind.i64 i, PV.top, PV.top, PV.top, PV.top, PV.top, PV.top, PV.top, PV.top, PV.top, PV.top, PV.top,
                  PV.top, PV.top, PV.top, PV.top, PV.top, PV.top, PV.int IntKind.i64 i, PV.str s, PV.int IntKind.i64 (sLen s), PV.bool false, PV.top, PV.top, PV.top, PV.top, PV.top, PV.top, PV.top, PV.top,
                  PV.top, PV.top, PV.top, PV.top, PV.top, PV.top, PV.top, PV.top, PV.top, PV.top, PV.top, PV.top, PV.top, PV.top, PV.top, PV.top, PV.top, PV.top, PV.top, PV.top, PV.top, PV.top, PV.top, PV.top,
                  PV.top, PV.top, PV.top, PV.top, PV.top, PV.top, PV.top, PV.top, PV.top, PV.top, PV.top, PV.top, PV.top, PV.top, PV.top],
                st))) (by kernel_rfl) ?_
        exact Tr.all_f (by simp; omega) ⟨rfl, by simp [Weak, mk, qbj, look], rfl⟩
      | succ k ih =>
        intro i n h0 hi hn hf
        obtain ⟨v, hv⟩ := qen (l := s) (i := i.toNat) (by omega)
        rw [qbs hv, numN] at hf
        have hv8 := v.toNat_lt
        have e2 : (i + 1).toNat = i.toNat + 1 := by omega
        have hpow : 10 ^ (i.toNat + 1) ≤ 10 ^ 19 := Nat.pow_le_pow_right (by omega) (by omega)
        rw [Nat.pow_succ] at hpow
        refine LDoes.round qaj (G := ofL []) qag qah (L := fun _ _ _ => .fail) (qae (by kernel_rfl)) (by kernel_rfl) ?_
        refine Tr.all_as (Tr.ite (iLt i (sLen s))
            (Tr.ite (qap s i)
              (Tr.ite (iLt (sAt s i) 48)
                (Tr.ret
                  (PExit.ret, [3, 2, 39, 34, 27],
                    [PV.str s, PV.top, PV.int IntKind.i64 0, PV.bool false, PV.bool m, PV.int IntKind.u64 (Int.ofNat n), PV.int IntKind.i64 i, PV.top, PV.top, PV.top, PV.top, PV.top, PV.top, PV.top, PV.top,
                      PV.top, PV.top, PV.top, PV.top, PV.top, PV.top, PV.top, PV.top, PV.top, PV.int IntKind.i64 i, PV.str s, PV.int IntKind.i64 (sLen s), PV.bool true, PV.top, PV.top, PV.str s,
                      PV.int IntKind.i64 i, PV.int IntKind.u8 (sAt s i), PV.bool (iLt (sAt s i) 48), PV.bool true, PV.tup [], PV.tup [], PV.tup [], PV.tup [], PV.bool true, PV.top, PV.top, PV.top, PV.top,
                      PV.top, PV.top, PV.top, PV.top, PV.top, PV.top, PV.top, PV.top, PV.top, PV.top, PV.top, PV.top, PV.top, PV.top, PV.top, PV.top, PV.top, PV.top, PV.top, PV.top, PV.top, PV.top, PV.top,
                      PV.top, PV.top, PV.top, PV.top, PV.top, PV.top, PV.top, PV.top],
                    st))
                (Tr.ite (qap s i)
                  (Tr.ite (iLt 57 (sAt s i))
                    (Tr.ret
                      (PExit.ret, [3, 2, 39, 34, 27],
                        [PV.str s, PV.top, PV.int IntKind.i64 0, PV.bool false, PV.bool m, PV.int IntKind.u64 (Int.ofNat n), PV.int IntKind.i64 i, PV.top, PV.top, PV.top, PV.top, PV.top, PV.top, PV.top, PV.top,
                          PV.top, PV.top, PV.top, PV.top, PV.top, PV.top, PV.top, PV.top, PV.top, PV.int IntKind.i64 i, PV.str s, PV.int IntKind.i64 (sLen s), PV.bool true, PV.top, PV.top, PV.str s,
                          PV.int IntKind.i64 i, PV.int IntKind.u8 (sAt s i), PV.bool (iLt (sAt s i) 48), PV.bool false, PV.str s, PV.int IntKind.i64 i, PV.int IntKind.u8 (sAt s i), PV.bool (iLt 57 (sAt s i)),
                          PV.bool true, PV.top, PV.top, PV.top, PV.top, PV.top, PV.top, PV.top, PV.top, PV.top, PV.top, PV.top, PV.top, PV.top, PV.top, PV.top, PV.top, PV.top, PV.top, PV.top, PV.top, PV.top,
                          PV.top, PV.top, PV.top, PV.top, PV.top, PV.top, PV.top, PV.top, PV.top, PV.top, PV.top, PV.top, PV.top, PV.top],
                        st))
                    (Tr.ite (qap s i)
                      (Tr.ret
                        (PExit.normal, [39, 34, 27],
                          [PV.str s, PV.top, PV.top, PV.top, PV.bool m, PV.int IntKind.u64 (iAdd IntKind.u64 (iMul IntKind.u64 (Int.ofNat n) 10) (qaC IntKind.u64 (iSub IntKind.u8 (sAt s i) 48))),
                            PV.int IntKind.i64 (iAdd IntKind.i64 i 1), PV.top, PV.top, PV.top, PV.top, PV.top, PV.top, PV.top, PV.top, PV.top, PV.top, PV.top, PV.top, PV.top, PV.top, PV.top, PV.top, PV.top,
                            PV.int IntKind.i64 i, PV.str s, PV.int IntKind.i64 (sLen s), PV.bool true, PV.int IntKind.i64 i, PV.int IntKind.i64 (iAdd IntKind.i64 i 1), PV.str s, PV.int IntKind.i64 i,
                            PV.int IntKind.u8 (sAt s i), PV.bool (iLt (sAt s i) 48), PV.bool false, PV.str s, PV.int IntKind.i64 i, PV.int IntKind.u8 (sAt s i), PV.bool (iLt 57 (sAt s i)), PV.bool false,
                            PV.int IntKind.u64 (Int.ofNat n), PV.int IntKind.u64 (iMul IntKind.u64 (Int.ofNat n) 10), PV.str s, PV.int IntKind.i64 i, PV.int IntKind.u8 (sAt s i),
                            PV.int IntKind.u8 (iSub IntKind.u8 (sAt s i) 48), PV.int IntKind.u64 (qaC IntKind.u64 (iSub IntKind.u8 (sAt s i) 48)),
                            PV.int IntKind.u64 (iAdd IntKind.u64 (iMul IntKind.u64 (Int.ofNat n) 10) (qaC IntKind.u64 (iSub IntKind.u8 (sAt s i) 48))), PV.top, PV.top, PV.top, PV.top, PV.top, PV.top, PV.top,
                            PV.top, PV.top, PV.top, PV.top, PV.top, PV.top, PV.top, PV.top, PV.top, PV.top, PV.top, PV.top, PV.top, PV.top, PV.top, PV.top, PV.top, PV.top, PV.top, PV.top],
                          st))
                      Tr.fail))
                  Tr.fail))
              Tr.fail)
            (Tr.ret
              (PExit.exit 0, [27],
                [PV.str s, PV.top, PV.top, PV.top, PV.bool m, PV.int IntKind.u64 (Int.ofNat n), PV.int IntKind.i64 i, PV.top, PV.top, PV.top, PV.top, PV.top, PV.top, PV.top, PV.top, PV.top, PV.top, PV.top,
                  PV.top, PV.top, PV.top, PV.top, PV.top, PV.top, PV.int IntKind.i64 i, PV.str s, PV.int IntKind.i64 (sLen s), PV.bool false, PV.top, PV.top, PV.top, PV.top, PV.top, PV.top, PV.top, PV.top,
                  PV.top, PV.top, PV.top, PV.top, PV.top, PV.top, PV.top, PV.top, PV.top, PV.top, PV.top, PV.top, PV.top, PV.top, PV.top, PV.top, PV.top, PV.top, PV.top, PV.top, PV.top, PV.top, PV.top, PV.top,
                  PV.top, PV.top, PV.top, PV.top, PV.top, PV.top, PV.top, PV.top, PV.top, PV.top, PV.top, PV.top, PV.top, PV.top, PV.top],
                st))) (by kernel_rfl) ?_
        rw [qdd hv]
        have hi1 := qcd h0 hv
        refine Tr.all_t (by simp; omega) <| Tr.all_t hi1 ?_
        by_cases hc : 48 ≤ v.toNat ∧ v.toNat ≤ 57
        · rw [if_pos hc] at hf
          have w1 : iSub .u8 (v.toNat : Int) 48 = v.toNat - 48 := by unfold iSub; rw [qsd (by omega)]
          have w2 : qaC .u64 (v.toNat - 48 : Int) = v.toNat - 48 := qec (by omega)
          have w3 : iMul .u64 (Int.ofNat n) 10 = n * 10 := by unfold iMul; rw [qec (by simp; omega)]; rfl
          have w4 : iAdd .u64 (n * 10 : Int) (v.toNat - 48) = n * 10 + (v.toNat - 48) := by unfold iAdd; rw [qec (by omega)]
          have w5 : iAdd .i64 i 1 = i + 1 := qa2 (by omega)
          have w6 : ((n * 10 + (v.toNat - 48) : Nat) : Int) = (n : Int) * 10 + (v.toNat - 48) := by omega
          refine Tr.all_f (by simp; omega) <| Tr.all_t hi1 <| Tr.all_f (by simp; omega) <| Tr.all_t hi1 ?_
          rw [w1, w2, w3, w4, w5]
          refine LDoes.into ?_ (ih (i + 1) (n * 10 + (v.toNat - 48)) (by omega) (by omega) (by rw [e2, Nat.pow_succ]; omega) (by rw [e2]; exact hf))
          rw [w6]
          simp [Weak, mk, qbj, look]
        · rw [if_neg hc] at hf
          simp [qkJ, numV, ← hf] at q3
          obtain ⟨rfl, rfl, rfl⟩ := q3
          by_cases hc1 : v.toNat < 48
          · exact Tr.all_t (by simp; omega) ⟨rfl, by simp [Weak, mk, qbj, look], rfl⟩
          · refine Tr.all_f (by simp; omega) <| Tr.all_t hi1 <| Tr.all_t (by simp; omega) ⟨rfl, by simp [Weak, mk, qbj, look], rfl⟩
    exact key s.length 0 0 (by omega) (by omega) (by simp) (by simp)
  · cases hd
def whoN (m:Bool) (t:List UInt8):Option Int :=
 if t=[]∨19 < t.length then none
 else match numN t 0 with
  | none=>none
  | some n=>if (m=true∧9223372036854775808 < n)∨(m=false∧9223372036854775807 < n) then none else some (if m then -(n:Int) else n)
def whoO (s:List UInt8):Option Int:=if s.head?=some 45 then whoN true (s.drop 1) else whoN false s
def qg9 (s:List UInt8):Bool:=(whoO s).isSome
def whoV (s:List UInt8):Int:=(whoO s).getD 0
def que:List PV→Tr PV
 | [.str s]=>Tr.chk (qhL s) (.ret (.tup [.int .i64 (whoV s),.bool (qg9 s)]))
 | _=>.fail
theorem qCe (gl:Gl):SimP Tryz.prog gl 143 fun args=>(que args).run:=by
 refine SimP.of_tree (G:=ofL []) (L:=qCx) qaj qag qah Tryz.func143 rfl (by rfl) (by kernel_rfl) (qeC (r:=8) (c1:=quJ) (by kernel_rfl) ?_) ?_
 ·intro fr σ e fr' σ' hh
  simp only [lps,qCx,if_true] at hh
  exact qfK (qyS gl) fr σ e fr' σ' hh
 intro args x h hr
 unfold que at h
 split at h
 ·rename_i s
  obtain ⟨h1,h2⟩:=Tr.chk_some h
  simp at h1
  cases h2
  refine Tr.run_as (Tr.ite (sNe s [])
    (Tr.ite (qap s 0)
     (Tr.ite (iEq (sAt s 0) 45)
      (Tr.ite (qaw (qal 1) true (nNat 1) (nLen s) (nLen s))
       (Tr.ite (sEq (sSub s (nNat 1) (nLen s)) []) (Tr.ret (PV.tup [PV.int IntKind.i64 0,PV.bool false]))
        (Tr.ite (iLt 19 (sLen (sSub s (nNat 1) (nLen s)))) (Tr.ret (PV.tup [PV.int IntKind.i64 0,PV.bool false]))
         (Tr.ite (iEq 0 0)
          (Tr.ite (iEq 0 0)
           (Tr.ite (iLe (sLen (sSub s (nNat 1) (nLen s))) 19)
            (Tr.ite (qkJ (sSub s (nNat 1) (nLen s)))
             (Tr.ite (iEq (sAt s 0) 45)
              (Tr.ite (iLt 9223372036854775808 (numV (sSub s (nNat 1) (nLen s)))) (Tr.ret (PV.tup [PV.int IntKind.i64 0,PV.bool false]))
               (Tr.ite (bNot (iEq (sAt s 0) 45))
                (Tr.ite (iLt 9223372036854775807 (numV (sSub s (nNat 1) (nLen s)))) (Tr.ret (PV.tup [PV.int IntKind.i64 0,PV.bool false]))
                 (Tr.ite (iEq (sAt s 0) 45)
                  (Tr.ite (iLt 0 (numV (sSub s (nNat 1) (nLen s))))
                   (Tr.ret
                    (PV.tup [PV.int IntKind.i64 (iSub IntKind.i64 (iSub IntKind.i64 0 (qaC IntKind.i64 (iSub IntKind.u64 (numV (sSub s (nNat 1) (nLen s))) 1))) 1),PV.bool true]))
                   (Tr.ret (PV.tup [PV.int IntKind.i64 (qaC IntKind.i64 (numV (sSub s (nNat 1) (nLen s)))),PV.bool true])))
                  (Tr.ret (PV.tup [PV.int IntKind.i64 (qaC IntKind.i64 (numV (sSub s (nNat 1) (nLen s)))),PV.bool true]))))
                (Tr.ite (iEq (sAt s 0) 45)
                 (Tr.ite (iLt 0 (numV (sSub s (nNat 1) (nLen s))))
                  (Tr.ret (PV.tup [PV.int IntKind.i64 (iSub IntKind.i64 (iSub IntKind.i64 0 (qaC IntKind.i64 (iSub IntKind.u64 (numV (sSub s (nNat 1) (nLen s))) 1))) 1),PV.bool true]))
                  (Tr.ret (PV.tup [PV.int IntKind.i64 (qaC IntKind.i64 (numV (sSub s (nNat 1) (nLen s)))),PV.bool true])))
                 (Tr.ret (PV.tup [PV.int IntKind.i64 (qaC IntKind.i64 (numV (sSub s (nNat 1) (nLen s)))),PV.bool true])))))
              (Tr.ite (bNot (iEq (sAt s 0) 45))
               (Tr.ite (iLt 9223372036854775807 (numV (sSub s (nNat 1) (nLen s)))) (Tr.ret (PV.tup [PV.int IntKind.i64 0,PV.bool false]))
                (Tr.ite (iEq (sAt s 0) 45)
                 (Tr.ite (iLt 0 (numV (sSub s (nNat 1) (nLen s))))
                  (Tr.ret (PV.tup [PV.int IntKind.i64 (iSub IntKind.i64 (iSub IntKind.i64 0 (qaC IntKind.i64 (iSub IntKind.u64 (numV (sSub s (nNat 1) (nLen s))) 1))) 1),PV.bool true]))
                  (Tr.ret (PV.tup [PV.int IntKind.i64 (qaC IntKind.i64 (numV (sSub s (nNat 1) (nLen s)))),PV.bool true])))
                 (Tr.ret (PV.tup [PV.int IntKind.i64 (qaC IntKind.i64 (numV (sSub s (nNat 1) (nLen s)))),PV.bool true]))))
               (Tr.ite (iEq (sAt s 0) 45)
                (Tr.ite (iLt 0 (numV (sSub s (nNat 1) (nLen s))))
                 (Tr.ret (PV.tup [PV.int IntKind.i64 (iSub IntKind.i64 (iSub IntKind.i64 0 (qaC IntKind.i64 (iSub IntKind.u64 (numV (sSub s (nNat 1) (nLen s))) 1))) 1),PV.bool true]))
                 (Tr.ret (PV.tup [PV.int IntKind.i64 (qaC IntKind.i64 (numV (sSub s (nNat 1) (nLen s)))),PV.bool true])))
                (Tr.ret (PV.tup [PV.int IntKind.i64 (qaC IntKind.i64 (numV (sSub s (nNat 1) (nLen s)))),PV.bool true])))))
             (Tr.ret (PV.tup [PV.int IntKind.i64 0,PV.bool false])))
            Tr.fail)
           Tr.fail)
          Tr.fail)))
       Tr.fail)
      (Tr.ite (sEq s []) (Tr.ret (PV.tup [PV.int IntKind.i64 0,PV.bool false]))
       (Tr.ite (iLt 19 (sLen s)) (Tr.ret (PV.tup [PV.int IntKind.i64 0,PV.bool false]))
        (Tr.ite (iEq 0 0)
         (Tr.ite (iEq 0 0)
          (Tr.ite (iLe (sLen s) 19)
           (Tr.ite (qkJ s)
            (Tr.ite (iEq (sAt s 0) 45)
             (Tr.ite (iLt 9223372036854775808 (numV s)) (Tr.ret (PV.tup [PV.int IntKind.i64 0,PV.bool false]))
              (Tr.ite (bNot (iEq (sAt s 0) 45))
               (Tr.ite (iLt 9223372036854775807 (numV s)) (Tr.ret (PV.tup [PV.int IntKind.i64 0,PV.bool false]))
                (Tr.ite (iEq (sAt s 0) 45)
                 (Tr.ite (iLt 0 (numV s)) (Tr.ret (PV.tup [PV.int IntKind.i64 (iSub IntKind.i64 (iSub IntKind.i64 0 (qaC IntKind.i64 (iSub IntKind.u64 (numV s) 1))) 1),PV.bool true]))
                  (Tr.ret (PV.tup [PV.int IntKind.i64 (qaC IntKind.i64 (numV s)),PV.bool true])))
                 (Tr.ret (PV.tup [PV.int IntKind.i64 (qaC IntKind.i64 (numV s)),PV.bool true]))))
               (Tr.ite (iEq (sAt s 0) 45)
                (Tr.ite (iLt 0 (numV s)) (Tr.ret (PV.tup [PV.int IntKind.i64 (iSub IntKind.i64 (iSub IntKind.i64 0 (qaC IntKind.i64 (iSub IntKind.u64 (numV s) 1))) 1),PV.bool true]))
                 (Tr.ret (PV.tup [PV.int IntKind.i64 (qaC IntKind.i64 (numV s)),PV.bool true])))
                (Tr.ret (PV.tup [PV.int IntKind.i64 (qaC IntKind.i64 (numV s)),PV.bool true])))))
             (Tr.ite (bNot (iEq (sAt s 0) 45))
              (Tr.ite (iLt 9223372036854775807 (numV s)) (Tr.ret (PV.tup [PV.int IntKind.i64 0,PV.bool false]))
               (Tr.ite (iEq (sAt s 0) 45)
                (Tr.ite (iLt 0 (numV s)) (Tr.ret (PV.tup [PV.int IntKind.i64 (iSub IntKind.i64 (iSub IntKind.i64 0 (qaC IntKind.i64 (iSub IntKind.u64 (numV s) 1))) 1),PV.bool true]))
                 (Tr.ret (PV.tup [PV.int IntKind.i64 (qaC IntKind.i64 (numV s)),PV.bool true])))
                (Tr.ret (PV.tup [PV.int IntKind.i64 (qaC IntKind.i64 (numV s)),PV.bool true]))))
              (Tr.ite (iEq (sAt s 0) 45)
               (Tr.ite (iLt 0 (numV s)) (Tr.ret (PV.tup [PV.int IntKind.i64 (iSub IntKind.i64 (iSub IntKind.i64 0 (qaC IntKind.i64 (iSub IntKind.u64 (numV s) 1))) 1),PV.bool true]))
                (Tr.ret (PV.tup [PV.int IntKind.i64 (qaC IntKind.i64 (numV s)),PV.bool true])))
               (Tr.ret (PV.tup [PV.int IntKind.i64 (qaC IntKind.i64 (numV s)),PV.bool true])))))
            (Tr.ret (PV.tup [PV.int IntKind.i64 0,PV.bool false])))
           Tr.fail)
          Tr.fail)
         Tr.fail))))
     Tr.fail)
    (Tr.ite (sEq s []) (Tr.ret (PV.tup [PV.int IntKind.i64 0,PV.bool false]))
     (Tr.ite (iLt 19 (sLen s)) (Tr.ret (PV.tup [PV.int IntKind.i64 0,PV.bool false]))
      (Tr.ite (iEq 0 0)
       (Tr.ite (iEq 0 0)
        (Tr.ite (iLe (sLen s) 19)
         (Tr.ite (qkJ s)
          (Tr.ite false
           (Tr.ite (iLt 9223372036854775808 (numV s)) (Tr.ret (PV.tup [PV.int IntKind.i64 0,PV.bool false]))
            (Tr.ite true
             (Tr.ite (iLt 9223372036854775807 (numV s)) (Tr.ret (PV.tup [PV.int IntKind.i64 0,PV.bool false]))
              (Tr.ite false
               (Tr.ite (iLt 0 (numV s)) (Tr.ret (PV.tup [PV.int IntKind.i64 (iSub IntKind.i64 (iSub IntKind.i64 0 (qaC IntKind.i64 (iSub IntKind.u64 (numV s) 1))) 1),PV.bool true]))
                (Tr.ret (PV.tup [PV.int IntKind.i64 (qaC IntKind.i64 (numV s)),PV.bool true])))
               (Tr.ret (PV.tup [PV.int IntKind.i64 (qaC IntKind.i64 (numV s)),PV.bool true]))))
             (Tr.ite false
              (Tr.ite (iLt 0 (numV s)) (Tr.ret (PV.tup [PV.int IntKind.i64 (iSub IntKind.i64 (iSub IntKind.i64 0 (qaC IntKind.i64 (iSub IntKind.u64 (numV s) 1))) 1),PV.bool true]))
               (Tr.ret (PV.tup [PV.int IntKind.i64 (qaC IntKind.i64 (numV s)),PV.bool true])))
              (Tr.ret (PV.tup [PV.int IntKind.i64 (qaC IntKind.i64 (numV s)),PV.bool true])))))
           (Tr.ite true
            (Tr.ite (iLt 9223372036854775807 (numV s)) (Tr.ret (PV.tup [PV.int IntKind.i64 0,PV.bool false]))
             (Tr.ite false
              (Tr.ite (iLt 0 (numV s)) (Tr.ret (PV.tup [PV.int IntKind.i64 (iSub IntKind.i64 (iSub IntKind.i64 0 (qaC IntKind.i64 (iSub IntKind.u64 (numV s) 1))) 1),PV.bool true]))
               (Tr.ret (PV.tup [PV.int IntKind.i64 (qaC IntKind.i64 (numV s)),PV.bool true])))
              (Tr.ret (PV.tup [PV.int IntKind.i64 (qaC IntKind.i64 (numV s)),PV.bool true]))))
            (Tr.ite false
             (Tr.ite (iLt 0 (numV s)) (Tr.ret (PV.tup [PV.int IntKind.i64 (iSub IntKind.i64 (iSub IntKind.i64 0 (qaC IntKind.i64 (iSub IntKind.u64 (numV s) 1))) 1),PV.bool true]))
              (Tr.ret (PV.tup [PV.int IntKind.i64 (qaC IntKind.i64 (numV s)),PV.bool true])))
             (Tr.ret (PV.tup [PV.int IntKind.i64 (qaC IntKind.i64 (numV s)),PV.bool true])))))
          (Tr.ret (PV.tup [PV.int IntKind.i64 0,PV.bool false])))
         Tr.fail)
        Tr.fail)
       Tr.fail)))) (by kernel_rfl) ?_
  have hnum:∀ t:List UInt8,t.length≤19→∀ n,numN t 0=some n→n < 10000000000000000000:=by
   intro t ht n hn
   have h2:=qzq t 0 0 n hn (by simp)
   have h3:10 ^ (0+t.length)≤10 ^ 19:=Nat.pow_le_pow_right (by omega) (by omega)
   have:(10:Nat) ^ 19=10000000000000000000:=by decide
   omega
  cases s with
  | nil=>simp [qg9,whoV,whoO,whoN]
  | cons c t =>
   have e1:sSub (c :: t) (nNat 1) (nLen (c :: t))=t:=by simp
   have i0:qap (c :: t) 0=true:=by simp
   have i1:qaw (qal 1) true (nNat 1) (nLen (c :: t)) (nLen (c :: t))=true:=by simp
   have n0:sNe (c :: t) []=true:=by simp
   have n1:sEq (c :: t) []=false:=by simp
   have e0:sAt (c :: t) 0=c.toNat:=by simp
   rw [i0,n0,n1,i1,e0,e1]
   by_cases hc:c=45
   ·have hb:iEq (c.toNat:Int) 45=true:=qc9 (k:=45) hc
    have hw:whoO (c :: t)=whoN true t:=by simp [whoO,hc]
    rw [hb]
    by_cases ht:t=[]
    ·subst ht
     simp [qg9,whoV,hw,whoN]
    ·by_cases hl:19 < t.length
     ·have l1:iLt 19 (sLen t)=true:=by simp; omega
      have l0:sEq t []=false:=by simp [ht]
      rw [l0,l1]
      simp [qg9,whoV,hw,whoN,ht,hl]
     ·have l1:iLt 19 (sLen t)=false:=by simp; omega
      have l0:sEq t []=false:=by simp [ht]
      have l2:iLe (sLen t) 19=true:=by simp; omega
      rw [l0,l1,l2]
      cases hn:numN t 0 with
      | none =>
       have k1:qkJ t=false:=by simp [qkJ,hn]
       rw [k1]
       simp [qg9,whoV,hw,whoN,ht,hl,hn]
      | some n =>
       have hb:=hnum t (by omega) n hn
       have k1:qkJ t=true:=by simp [qkJ,hn]
       have k2:numV t=n:=by simp [numV,hn]
       rw [k1,k2]
       by_cases b1:9223372036854775808 < n
       ·have b2:iLt 9223372036854775808 (n:Int)=true:=by simp; omega
        rw [b2]
        simp [qg9,whoV,hw,whoN,ht,hl,hn,b1]
       ·have b2:iLt 9223372036854775808 (n:Int)=false:=by simp; omega
        rw [b2]
        have o1:qg9 (c :: t)=true:=by simp [qg9,hw,whoN,ht,hl,hn,b1]
        have o2:whoV (c :: t)=-(n:Int):=by simp [whoV,hw,whoN,ht,hl,hn,b1]
        by_cases b3:0 < n
        ·have b4:iLt 0 (n:Int)=true:=by simp; omega
         have w1:iSub .u64 (n:Int) 1=n - 1:=qec (by omega)
         have w2:qaC .i64 ((n:Int) - 1)=n - 1:=qa2 (by omega)
         have w3:iSub .i64 0 ((n:Int) - 1)=-(n - 1):=by unfold iSub; rw [qa2 (by omega)]; omega
         have w4:iSub .i64 (-((n:Int) - 1)) 1=-n:=by unfold iSub; rw [qa2 (by omega)]; omega
         rw [b4,w1,w2,w3,w4,o1,o2]
         simp
        ·have b4:iLt 0 (n:Int)=false:=by simp; omega
         have:n=0:=by omega
         subst this
         rw [b4,o1,o2]
         have w5:qaC .i64 ((0:Nat):Int)=0:=by decide
         rw [w5]
         simp
   ·have hb:iEq (c.toNat:Int) 45=false:=qch (k:=45) hc
    have hw:whoO (c :: t)=whoN false (c :: t):=by simp [whoO,hc]
    rw [hb]
    generalize hs:c :: t=s at *
    have ht:s≠[]:=by rw [← hs]; simp
    by_cases hl:19 < s.length
    ·have l1:iLt 19 (sLen s)=true:=by simp; omega
     rw [l1]
     simp [qg9,whoV,hw,whoN,ht,hl]
    ·have l1:iLt 19 (sLen s)=false:=by simp; omega
     have l2:iLe (sLen s) 19=true:=by simp; omega
     rw [l1,l2]
     cases hn:numN s 0 with
     | none =>
      have k1:qkJ s=false:=by simp [qkJ,hn]
      rw [k1]
      simp [qg9,whoV,hw,whoN,ht,hl,hn]
     | some n =>
      have hb:=hnum s (by omega) n hn
      have k1:qkJ s=true:=by simp [qkJ,hn]
      have k2:numV s=n:=by simp [numV,hn]
      rw [k1,k2]
      by_cases b1:9223372036854775807 < n
      ·have b2:iLt 9223372036854775807 (n:Int)=true:=by simp; omega
       rw [b2]
       simp [qg9,whoV,hw,whoN,ht,hl,hn,b1]
      ·have b2:iLt 9223372036854775807 (n:Int)=false:=by simp; omega
       have o1:qg9 s=true:=by simp [qg9,hw,whoN,ht,hl,hn,b1]
       have o2:whoV s=(n:Int):=by simp [whoV,hw,whoN,ht,hl,hn,b1]
       have w2:qaC .i64 (n:Int)=n:=qa2 (by omega)
       rw [b2,w2,o1,o2]
       simp
 ·cases h
end Go.Pv
set_option maxHeartbeats 4000000
set_option maxRecDepth 200000
set_option linter.unusedSimpArgs false
set_option linter.unusedVariables false
namespace Go.Pv
open Go Go.Proofs Go.RowKit
def qkd:List UInt8→Bool
 | h1 :: h2 :: _=>decide (0≤qaS h1.toNat) && decide (0≤qaS h2.toNat)
 | _=>false
def hexW:List UInt8→UInt8
 | h1 :: h2 :: _=>UInt8.ofNat (qaC .u8 (qaS h1.toNat * 16+qaS h2.toNat)).toNat
 | _=>0
inductive RS where
 | stop
 | bad
 | one (x:UInt8) (k:Nat)
def rS:List UInt8→RS
 | []=>.stop
 | c :: t=>if c=34 then .stop else if c≠92 then .one c 1 else
  match t with
  | []=>.bad
  | e :: u=>if e=110 then .one 10 2 else if e=116 then .one 9 2 else if e=120∧qkd u=true then .one (hexW u) 4 else .one e 2
theorem rS_k {r:List UInt8} {x:UInt8} {k:Nat} (h:rS r=.one x k):1≤k∧k≤r.length:=by
 unfold rS at h
 split at h
 ·cases h
 ·rename_i c t
  split at h
  ·cases h
  ·split at h
   ·cases h; simp
   ·split at h
    ·cases h
    ·rename_i e u
     split at h
     ·cases h; simp
     ·split at h
      ·cases h; simp
      ·split at h
       ·rename_i hx
        cases h
        have:=hx.2
        unfold qkd at this
        split at this
        ·simp
        ·cases this
       ·cases h; simp
def rP (r:List UInt8):Option (List UInt8 × List UInt8):=match h:rS r with
 | .stop=>some ([],r)
 | .bad=>none
 | .one x k=>(rP (r.drop k)).map fun p=>(x :: p.1,p.2)
 termination_by r.length
 decreasing_by have:=rS_k h; simp; omega
def rL (r:List UInt8):Nat:=match h:rS r with
 | .stop=>0
 | .bad=>0
 | .one x k=>rL (r.drop k)+1
 termination_by r.length
 decreasing_by have:=rS_k h; simp; omega
theorem qqK {r:List UInt8} (h:rS r=.stop):rP r=some ([],r):=by rw [rP.eq_def]; split <;> simp_all
theorem qEH {r:List UInt8} (h:rS r=.bad):rP r=none:=by rw [rP.eq_def]; split <;> simp_all
theorem qzs {r:List UInt8} {x:UInt8} {k:Nat} (h:rS r=.one x k):rP r=(rP (r.drop k)).map fun p=>(x :: p.1,p.2):=by rw [rP.eq_def]; split <;> simp_all
theorem qEu {r:List UInt8} (h:rS r=.bad):rL r=0:=by rw [rL.eq_def]; split <;> simp_all
theorem qEy {r:List UInt8} {x:UInt8} {k:Nat} (h:rS r=.one x k):rL r=rL (r.drop k)+1:=by rw [rL.eq_def]; split <;> simp_all
def okRP (s:List UInt8):Bool:=(rP (s.drop 1)).isSome
def rpB (s:List UInt8):List UInt8:=match rP (s.drop 1) with | some p=>p.1 | none=>[]
def rpI (s:List UInt8):Int:=match rP (s.drop 1) with | some p=>(s.length:Int) - p.2.length | none=>0
def rpL (s:List UInt8):Nat:=rL (s.drop 1)
def qzN:List PV→Store→Option (List UInt8 × Int)
 | [.str s,.sl [] .full,.int .i64 i],⟨[],[],[]⟩=>some (s,i)
 | _,_=>none
def qEE:List UInt8 × Int→Tr (PExit × List (Nat × PV) × Store)
 | (s,i)=>Tr.chk (iEq i 1) (Tr.chk (qhL s) (Tr.chk (iLe 1 (sLen s)) (.ite (okRP s)
  (.ite (sEq (rpB s) []) (.ret (.exit 0,[(0,.str s),(4,.sl [] .full),(5,.int .i64 (rpI s))],⟨[],[],[]⟩)) (.ret (.exit 0,[(0,.str s),(4,.sl (qaa (rpB s)) (.tok 0)),(5,.int .i64 (rpI s))],⟨[],[(nLen (rpB s),1,5)],[]⟩)))
  (.ite (nEq (rpL s) 0) (.ret (.ret,[(2,.str []),(3,.bool false)],⟨[],[],[]⟩)) (.ret (.ret,[(2,.str []),(3,.bool false)],⟨[],[(rpL s,1,5)],[]⟩))))))
def qER:LpsT:=fun r fr σ=>if r=5 then oracle 128 [0,4,5] qzN qEE fr σ else .fail
noncomputable def qn6:Code:=qyk Tryz.f144 0
theorem qfB {s r:List UInt8} {i:Nat} {c:UInt8} (h:s.drop i=c :: r):s[i]?=some c∧s.drop (i+1)=r∧i+1+r.length=s.length:=by
 have h1:(s.drop i)[0]?=some c:=by rw [h]; rfl
 have h2:s.drop (i+1)=r:=by
  have:(s.drop i).drop 1=r:=by rw [h]; rfl
  simpa [Nat.add_comm] using this
 have h3:=congrArg List.length h
 simp at h1 h3
 exact ⟨h1,h2,by omega⟩
theorem qwO (c:UInt8):-1≤qaS c.toNat∧qaS c.toNat≤15:=by
 have h:=c.toNat_lt
 have key:∀ n:Fin 256,-1≤qaS (n.val:Int)∧qaS (n.val:Int)≤15:=by decide +kernel
 exact key ⟨c.toNat,h⟩
theorem qzE (n:Int):0≤qaC .u8 n∧qaC .u8 n < 256:=by
 simp [qaC,IntKind.wrap,IntKind.signed,IntKind.bits]
 omega
theorem qeK {c k:UInt8} (h:c≠k):iNe (c.toNat:Int) (k.toNat:Int)=true:=by
 simp only [qH8,decide_eq_true_eq]
 intro e
 exact h (UInt8.toNat_inj.1 (by omega))
theorem qe0 {c k:UInt8} (h:c=k):iNe (c.toNat:Int) (k.toNat:Int)=false:=by
 subst h
 simp
theorem qed (b:List UInt8) (x:UInt8) {n:Int} (h:(x.toNat:Int)=n):xApp (qaa b) [[.int .u8 n]]=qaa (b++[x]):=by
 subst h
 rw [qhm b (by have:=x.toNat_lt; omega)]
 simp
theorem qdz (x:UInt8) {n:Int} (h:(x.toNat:Int)=n):xApp [] [[.int .u8 n]]=qaa [x]:=qed [] x h
theorem qBm {h1 h2:UInt8} {u:List UInt8}:((hexW (h1 :: h2 :: u)).toNat:Int)=qaC .u8 (iAdd .i64 (iMul .i64 (qaS h1.toNat) 16) (qaS h2.toNat)):=by
 have r1:=qwO h1
 have r2:=qwO h2
 have e1:iMul .i64 (qaS h1.toNat) 16=qaS h1.toNat * 16:=qa2 (by omega)
 have e2:iAdd .i64 (qaS h1.toNat * 16) (qaS h2.toNat)=qaS h1.toNat * 16+qaS h2.toNat:=qa2 (by omega)
 rw [e1,e2]
 have:=qzE (qaS h1.toNat * 16+qaS h2.toNat)
 simp [hexW]
 omega
section
variable (gl : Gl) (s : List UInt8) (e : PExit) (out : List (Nat × PV)) (σ' : Store)
theorem qpC (hs : s.length ≤ 140737488355328) (b : List UInt8) (i : Int) (r : List UInt8) (hi : 1 ≤ i) (hr : s.drop i.toNat = r) (hil : i ≤ s.length) (hb : b.length + r.length ≤ 140737488355328)
    (hstop : rS r = .stop → e = .exit 0 ∧ out = [(0, .str s), (4, .sl (qaa b) (.tok 0)), (5, .int .i64 i)] ∧ σ' = ⟨[], [(nLen b, 1, 5)], []⟩) (hbad : rS r = .bad → e = .ret ∧ out = [(2, .str []), (3, .bool false)] ∧ σ' = ⟨[], [(nLen b, 1, 5)], []⟩)
    (hone : ∀ x k, rS r = .one x k → LDoes Tryz.prog gl qn6 (mk 128 ([0, 4, 5].zip [.str s, .sl (qaa (b ++ [x])) (.tok 0), .int .i64 (i + k)])) ⟨[], [(nLen (b ++ [x]), 1, 5)], []⟩ e (mk 128 out) σ') :
    LDoes Tryz.prog gl qn6 (mk 128 ([0, 4, 5].zip [.str s, .sl (qaa b) (.tok 0), .int .i64 i])) ⟨[], [(nLen b, 1, 5)], []⟩ e (mk 128 out) σ' := by
  have hG : qaJ Tryz.prog gl (gam (ofL [(162, .pure qsT)])) := qad (qqr gl) qag
  refine LDoes.round qaj hG qah (L := fun _ _ _ => .fail) (qae (by kernel_rfl)) (by kernel_rfl) ?_
  refine Tr.all_as (Tr.ite (iLt i (sLen s))
      (Tr.ite (qap s i)
        (Tr.ite (iNe (sAt s i) 34)
          (Tr.ite (qap s i)
            (Tr.ite (iNe (sAt s i) 92)
              (Tr.ite (qap s i)
                (Tr.ite (qaF (qaa b) [[PV.int IntKind.u8 (sAt s i)]] 1)
                  (Tr.ite (qaB [[PV.int IntKind.u8 (sAt s i)]] 1)
                    (Tr.ite (qav (qaa b) 1)
                      (Tr.ite (nEq (nLen b) (nXs (qaa b)))
                        (Tr.ret
                          (PExit.normal, [42, 33, 23, 18],
                            [PV.str s, PV.top, PV.top, PV.top, PV.sl (xApp (qaa b) [[PV.int IntKind.u8 (sAt s i)]]) (Tag.tok 0), PV.int IntKind.i64 (iAdd IntKind.i64 i 1), PV.top, PV.top, PV.top,
                              PV.top, PV.top, PV.top, PV.top, PV.top, PV.int IntKind.i64 i, PV.str s, PV.int IntKind.i64 (sLen s), PV.bool (iLt i (sLen s)), PV.bool true, PV.str s, PV.int IntKind.i64 i,
                              PV.int IntKind.u8 (sAt s i), PV.bool (iNe (sAt s i) 34), PV.bool true, PV.top, PV.top, PV.top, PV.top, PV.top, PV.top, PV.top, PV.top, PV.top, PV.bool true, PV.str s,
                              PV.int IntKind.i64 i, PV.int IntKind.u8 (sAt s i), PV.bool (iNe (sAt s i) 92), PV.sl (qaa b) (Tag.tok 0), PV.str s, PV.int IntKind.i64 i, PV.int IntKind.u8 (sAt s i),
                              PV.sl [[PV.int IntKind.u8 (sAt s i)]] Tag.full, PV.sl (xApp (qaa b) [[PV.int IntKind.u8 (sAt s i)]]) (Tag.tok 0), PV.int IntKind.i64 i,
                              PV.int IntKind.i64 (iAdd IntKind.i64 i 1), PV.top, PV.top, PV.top, PV.top, PV.top, PV.top, PV.top, PV.top, PV.top, PV.top, PV.top, PV.top, PV.top, PV.top, PV.top, PV.top,
                              PV.top, PV.top, PV.top, PV.top, PV.top, PV.top, PV.top, PV.top, PV.top, PV.top, PV.top, PV.top, PV.top, PV.top, PV.top, PV.top, PV.top, PV.top, PV.top, PV.top, PV.top,
                              PV.top, PV.top, PV.top, PV.top, PV.top, PV.top, PV.top, PV.top, PV.top, PV.top, PV.top, PV.top, PV.top, PV.top, PV.top, PV.top, PV.top, PV.top, PV.top, PV.top, PV.top,
                              PV.top, PV.top, PV.top, PV.top, PV.top, PV.top, PV.top, PV.top, PV.top, PV.top, PV.top, PV.top, PV.top, PV.top, PV.top, PV.top, PV.top, PV.top, PV.top, PV.top, PV.top,
                              PV.top, PV.top, PV.top],
                            Store.mk [] [(nXs (xApp (qaa b) [[PV.int IntKind.u8 (sAt s i)]]), 1, 5)] []))
                        Tr.fail)
                      Tr.fail)
                    Tr.fail)
                  Tr.fail)
                Tr.fail)
              (Tr.ite (iLe (sLen s) (iAdd IntKind.i64 i 1))
                (Tr.ret
                  (PExit.ret, [3, 2, 46, 33, 23, 18],
                    [PV.str s, PV.top, PV.str [], PV.bool false, PV.sl (qaa b) (Tag.tok 0), PV.int IntKind.i64 i, PV.top, PV.top, PV.top, PV.top, PV.top, PV.top, PV.top, PV.top, PV.int IntKind.i64 i,
                      PV.str s, PV.int IntKind.i64 (sLen s), PV.bool (iLt i (sLen s)), PV.bool true, PV.str s, PV.int IntKind.i64 i, PV.int IntKind.u8 (sAt s i), PV.bool (iNe (sAt s i) 34), PV.bool true,
                      PV.top, PV.top, PV.top, PV.top, PV.top, PV.top, PV.top, PV.top, PV.top, PV.bool false, PV.str s, PV.int IntKind.i64 i, PV.int IntKind.u8 (sAt s i), PV.bool (iNe (sAt s i) 92),
                      PV.top, PV.top, PV.top, PV.top, PV.top, PV.top, PV.top, PV.top, PV.bool true, PV.int IntKind.i64 i, PV.int IntKind.i64 (iAdd IntKind.i64 i 1), PV.str s, PV.int IntKind.i64 (sLen s),
                      PV.bool (iLe (sLen s) (iAdd IntKind.i64 i 1)), PV.top, PV.top, PV.top, PV.top, PV.top, PV.top, PV.top, PV.top, PV.top, PV.top, PV.top, PV.top, PV.top, PV.top, PV.top, PV.top, PV.top,
                      PV.top, PV.top, PV.top, PV.top, PV.top, PV.top, PV.top, PV.top, PV.top, PV.top, PV.top, PV.top, PV.top, PV.top, PV.top, PV.top, PV.top, PV.top, PV.top, PV.top, PV.top, PV.top,
                      PV.top, PV.top, PV.top, PV.top, PV.top, PV.top, PV.top, PV.top, PV.top, PV.top, PV.top, PV.top, PV.top, PV.top, PV.top, PV.top, PV.top, PV.top, PV.top, PV.top, PV.top, PV.top,
                      PV.top, PV.top, PV.top, PV.top, PV.top, PV.top, PV.top, PV.top, PV.top, PV.top, PV.top, PV.top, PV.top, PV.top, PV.top],
                    Store.mk [] [(nLen b, 1, 5)] []))
                (Tr.ite (qap s (iAdd IntKind.i64 i 1))
                  (Tr.ite (iEq (sAt s (iAdd IntKind.i64 i 1)) 110)
                    (Tr.ite (qaF (qaa b) [[PV.int IntKind.u8 10]] 1)
                      (Tr.ite (qaB [[PV.int IntKind.u8 10]] 1)
                        (Tr.ite (qav (qaa b) 1)
                          (Tr.ite (nEq (nLen b) (nXs (qaa b)))
                            (Tr.ret
                              (PExit.normal, [59, 52, 46, 33, 23, 18],
                                [PV.str s, PV.top, PV.top, PV.top, PV.sl (xApp (qaa b) [[PV.int IntKind.u8 10]]) (Tag.tok 0), PV.int IntKind.i64 (iAdd IntKind.i64 i 2), PV.top, PV.top, PV.top, PV.top,
                                  PV.top, PV.top, PV.top, PV.top, PV.int IntKind.i64 i, PV.str s, PV.int IntKind.i64 (sLen s), PV.bool (iLt i (sLen s)), PV.bool true, PV.str s, PV.int IntKind.i64 i,
                                  PV.int IntKind.u8 (sAt s i), PV.bool (iNe (sAt s i) 34), PV.bool true, PV.top, PV.top, PV.top, PV.top, PV.top, PV.top, PV.top, PV.top, PV.top, PV.bool false, PV.str s,
                                  PV.int IntKind.i64 i, PV.int IntKind.u8 (sAt s i), PV.bool (iNe (sAt s i) 92), PV.top, PV.top, PV.top, PV.top, PV.top, PV.top, PV.top, PV.top, PV.bool false,
                                  PV.int IntKind.i64 i, PV.int IntKind.i64 (iAdd IntKind.i64 i 1), PV.str s, PV.int IntKind.i64 (sLen s), PV.bool (iLe (sLen s) (iAdd IntKind.i64 i 1)), PV.bool true,
                                  PV.str s, PV.int IntKind.i64 i, PV.int IntKind.i64 (iAdd IntKind.i64 i 1), PV.int IntKind.u8 (sAt s (iAdd IntKind.i64 i 1)),
                                  PV.bool (iEq (sAt s (iAdd IntKind.i64 i 1)) 110), PV.sl (qaa b) (Tag.tok 0), PV.sl [[PV.int IntKind.u8 10]] Tag.full,
                                  PV.sl (xApp (qaa b) [[PV.int IntKind.u8 10]]) (Tag.tok 0), PV.int IntKind.i64 i, PV.int IntKind.i64 (iAdd IntKind.i64 i 2), PV.top, PV.top, PV.top, PV.top, PV.top,
                                  PV.top, PV.top, PV.top, PV.top, PV.top, PV.top, PV.top, PV.top, PV.top, PV.top, PV.top, PV.top, PV.top, PV.top, PV.top, PV.top, PV.top, PV.top, PV.top, PV.top, PV.top,
                                  PV.top, PV.top, PV.top, PV.top, PV.top, PV.top, PV.top, PV.top, PV.top, PV.top, PV.top, PV.top, PV.top, PV.top, PV.top, PV.top, PV.top, PV.top, PV.top, PV.top, PV.top,
                                  PV.top, PV.top, PV.top, PV.top, PV.top, PV.top, PV.top, PV.top, PV.top, PV.top, PV.top, PV.top, PV.top, PV.top, PV.top, PV.top, PV.top, PV.top],
                                Store.mk [] [(nXs (xApp (qaa b) [[PV.int IntKind.u8 10]]), 1, 5)] []))
                            Tr.fail)
                          Tr.fail)
                        Tr.fail)
                      Tr.fail)
                    (Tr.ite (qap s (iAdd IntKind.i64 i 1))
                      (Tr.ite (iEq (sAt s (iAdd IntKind.i64 i 1)) 116)
                        (Tr.ite (qaF (qaa b) [[PV.int IntKind.u8 9]] 1)
                          (Tr.ite (qaB [[PV.int IntKind.u8 9]] 1)
                            (Tr.ite (qav (qaa b) 1)
                              (Tr.ite (nEq (nLen b) (nXs (qaa b)))
                                (Tr.ret
                                  (PExit.normal, [70, 63, 52, 46, 33, 23, 18],
                                    [PV.str s, PV.top, PV.top, PV.top, PV.sl (xApp (qaa b) [[PV.int IntKind.u8 9]]) (Tag.tok 0), PV.int IntKind.i64 (iAdd IntKind.i64 i 2), PV.top, PV.top, PV.top,
                                      PV.top, PV.top, PV.top, PV.top, PV.top, PV.int IntKind.i64 i, PV.str s, PV.int IntKind.i64 (sLen s), PV.bool (iLt i (sLen s)), PV.bool true, PV.str s,
                                      PV.int IntKind.i64 i, PV.int IntKind.u8 (sAt s i), PV.bool (iNe (sAt s i) 34), PV.bool true, PV.top, PV.top, PV.top, PV.top, PV.top, PV.top, PV.top, PV.top, PV.top,
                                      PV.bool false, PV.str s, PV.int IntKind.i64 i, PV.int IntKind.u8 (sAt s i), PV.bool (iNe (sAt s i) 92), PV.top, PV.top, PV.top, PV.top, PV.top, PV.top, PV.top,
                                      PV.top, PV.bool false, PV.int IntKind.i64 i, PV.int IntKind.i64 (iAdd IntKind.i64 i 1), PV.str s, PV.int IntKind.i64 (sLen s),
                                      PV.bool (iLe (sLen s) (iAdd IntKind.i64 i 1)), PV.bool false, PV.str s, PV.int IntKind.i64 i, PV.int IntKind.i64 (iAdd IntKind.i64 i 1),
                                      PV.int IntKind.u8 (sAt s (iAdd IntKind.i64 i 1)), PV.bool (iEq (sAt s (iAdd IntKind.i64 i 1)) 110), PV.top, PV.top, PV.top, PV.top, PV.top, PV.bool true, PV.str s,
                                      PV.int IntKind.i64 i, PV.int IntKind.i64 (iAdd IntKind.i64 i 1), PV.int IntKind.u8 (sAt s (iAdd IntKind.i64 i 1)), PV.bool (iEq (sAt s (iAdd IntKind.i64 i 1)) 116),
                                      PV.sl (qaa b) (Tag.tok 0), PV.sl [[PV.int IntKind.u8 9]] Tag.full, PV.sl (xApp (qaa b) [[PV.int IntKind.u8 9]]) (Tag.tok 0), PV.int IntKind.i64 i,
                                      PV.int IntKind.i64 (iAdd IntKind.i64 i 2), PV.top, PV.top, PV.top, PV.top, PV.top, PV.top, PV.top, PV.top, PV.top, PV.top, PV.top, PV.top, PV.top, PV.top, PV.top,
                                      PV.top, PV.top, PV.top, PV.top, PV.top, PV.top, PV.top, PV.top, PV.top, PV.top, PV.top, PV.top, PV.top, PV.top, PV.top, PV.top, PV.top, PV.top, PV.top, PV.top,
                                      PV.top, PV.top, PV.top, PV.top, PV.top, PV.top, PV.top, PV.top, PV.top, PV.top, PV.top, PV.top, PV.top, PV.top, PV.top, PV.top, PV.top, PV.top, PV.top],
                                    Store.mk [] [(nXs (xApp (qaa b) [[PV.int IntKind.u8 9]]), 1, 5)] []))
                                Tr.fail)
                              Tr.fail)
                            Tr.fail)
                          Tr.fail)
                        (Tr.ite (qap s (iAdd IntKind.i64 i 1))
                          (Tr.ite (iEq (sAt s (iAdd IntKind.i64 i 1)) 120)
                            (Tr.ite (iLt (iAdd IntKind.i64 i 3) (sLen s))
                              (Tr.ite (qap s (iAdd IntKind.i64 i 2))
                                (Tr.ite (iLe 0 (qaS (sAt s (iAdd IntKind.i64 i 2))))
                                  (Tr.ite (qap s (iAdd IntKind.i64 i 3))
                                    (Tr.ite (iLe 0 (qaS (sAt s (iAdd IntKind.i64 i 3))))
                                      (Tr.ite (qap s (iAdd IntKind.i64 i 2))
                                        (Tr.ite (qap s (iAdd IntKind.i64 i 3))
                                          (Tr.ite
                                            (qaF (qaa b)
                                              [[PV.int IntKind.u8
                                                    (qaC IntKind.u8 (iAdd IntKind.i64 (iMul IntKind.i64 (qaS (sAt s (iAdd IntKind.i64 i 2))) 16) (qaS (sAt s (iAdd IntKind.i64 i 3)))))]]
                                              1)
                                            (Tr.ite
                                              (qaB
                                                [[PV.int IntKind.u8
                                                      (qaC IntKind.u8 (iAdd IntKind.i64 (iMul IntKind.i64 (qaS (sAt s (iAdd IntKind.i64 i 2))) 16) (qaS (sAt s (iAdd IntKind.i64 i 3)))))]]
                                                1)
                                              (Tr.ite (qav (qaa b) 1)
                                                (Tr.ite (nEq (nLen b) (nXs (qaa b)))
                                                  (Tr.ret
                                                    (PExit.normal, [117, 74, 95, 87, 80, 63, 52, 46, 33, 23, 18],
                                                      [PV.str s, PV.top, PV.top, PV.top,
                                                        PV.sl
                                                          (xApp (qaa b)
                                                            [[PV.int IntKind.u8
                                                                  (qaC IntKind.u8
                                                                    (iAdd IntKind.i64 (iMul IntKind.i64 (qaS (sAt s (iAdd IntKind.i64 i 2))) 16) (qaS (sAt s (iAdd IntKind.i64 i 3)))))]])
                                                          (Tag.tok 0),
                                                        PV.int IntKind.i64 (iAdd IntKind.i64 i 4), PV.top, PV.top, PV.top, PV.top, PV.top, PV.top, PV.top, PV.top, PV.int IntKind.i64 i, PV.str s,
                                                        PV.int IntKind.i64 (sLen s), PV.bool (iLt i (sLen s)), PV.bool true, PV.str s, PV.int IntKind.i64 i, PV.int IntKind.u8 (sAt s i),
                                                        PV.bool (iNe (sAt s i) 34), PV.bool true, PV.top, PV.top, PV.top, PV.top, PV.top, PV.top, PV.top, PV.top, PV.top, PV.bool false, PV.str s,
                                                        PV.int IntKind.i64 i, PV.int IntKind.u8 (sAt s i), PV.bool (iNe (sAt s i) 92), PV.top, PV.top, PV.top, PV.top, PV.top, PV.top, PV.top, PV.top,
                                                        PV.bool false, PV.int IntKind.i64 i, PV.int IntKind.i64 (iAdd IntKind.i64 i 1), PV.str s, PV.int IntKind.i64 (sLen s),
                                                        PV.bool (iLe (sLen s) (iAdd IntKind.i64 i 1)), PV.bool false, PV.str s, PV.int IntKind.i64 i, PV.int IntKind.i64 (iAdd IntKind.i64 i 1),
                                                        PV.int IntKind.u8 (sAt s (iAdd IntKind.i64 i 1)), PV.bool (iEq (sAt s (iAdd IntKind.i64 i 1)) 110), PV.top, PV.top, PV.top, PV.top, PV.top,
                                                        PV.bool false, PV.str s, PV.int IntKind.i64 i, PV.int IntKind.i64 (iAdd IntKind.i64 i 1), PV.int IntKind.u8 (sAt s (iAdd IntKind.i64 i 1)),
                                                        PV.bool (iEq (sAt s (iAdd IntKind.i64 i 1)) 116), PV.top, PV.top, PV.top, PV.top, PV.top, PV.bool true, PV.str s, PV.int IntKind.i64 i,
                                                        PV.int IntKind.i64 (iAdd IntKind.i64 i 1), PV.int IntKind.u8 (sAt s (iAdd IntKind.i64 i 1)), PV.bool (iEq (sAt s (iAdd IntKind.i64 i 1)) 120),
                                                        PV.bool true, PV.int IntKind.i64 i, PV.int IntKind.i64 (iAdd IntKind.i64 i 3), PV.str s, PV.int IntKind.i64 (sLen s),
                                                        PV.bool (iLt (iAdd IntKind.i64 i 3) (sLen s)), PV.bool (iLt (iAdd IntKind.i64 i 3) (sLen s)), PV.bool true, PV.str s, PV.int IntKind.i64 i,
                                                        PV.int IntKind.i64 (iAdd IntKind.i64 i 2), PV.int IntKind.u8 (sAt s (iAdd IntKind.i64 i 2)),
                                                        PV.int IntKind.i64 (qaS (sAt s (iAdd IntKind.i64 i 2))), PV.bool (iLe 0 (qaS (sAt s (iAdd IntKind.i64 i 2)))),
                                                        PV.bool (iLe 0 (qaS (sAt s (iAdd IntKind.i64 i 2)))), PV.bool true, PV.str s, PV.int IntKind.i64 i, PV.int IntKind.i64 (iAdd IntKind.i64 i 3),
                                                        PV.int IntKind.u8 (sAt s (iAdd IntKind.i64 i 3)), PV.int IntKind.i64 (qaS (sAt s (iAdd IntKind.i64 i 3))),
                                                        PV.bool (iLe 0 (qaS (sAt s (iAdd IntKind.i64 i 3)))), PV.bool (iLe 0 (qaS (sAt s (iAdd IntKind.i64 i 3)))), PV.sl (qaa b) (Tag.tok 0),
                                                        PV.str s, PV.int IntKind.i64 i, PV.int IntKind.i64 (iAdd IntKind.i64 i 2), PV.int IntKind.u8 (sAt s (iAdd IntKind.i64 i 2)),
                                                        PV.int IntKind.i64 (qaS (sAt s (iAdd IntKind.i64 i 2))), PV.int IntKind.i64 (iMul IntKind.i64 (qaS (sAt s (iAdd IntKind.i64 i 2))) 16),
                                                        PV.str s, PV.int IntKind.i64 i, PV.int IntKind.i64 (iAdd IntKind.i64 i 3), PV.int IntKind.u8 (sAt s (iAdd IntKind.i64 i 3)),
                                                        PV.int IntKind.i64 (qaS (sAt s (iAdd IntKind.i64 i 3))),
                                                        PV.int IntKind.i64 (iAdd IntKind.i64 (iMul IntKind.i64 (qaS (sAt s (iAdd IntKind.i64 i 2))) 16) (qaS (sAt s (iAdd IntKind.i64 i 3)))),
                                                        PV.int IntKind.u8
                                                          (qaC IntKind.u8 (iAdd IntKind.i64 (iMul IntKind.i64 (qaS (sAt s (iAdd IntKind.i64 i 2))) 16) (qaS (sAt s (iAdd IntKind.i64 i 3))))),
                                                        PV.sl
                                                          [[PV.int IntKind.u8
                                                                (qaC IntKind.u8 (iAdd IntKind.i64 (iMul IntKind.i64 (qaS (sAt s (iAdd IntKind.i64 i 2))) 16) (qaS (sAt s (iAdd IntKind.i64 i 3)))))]]
                                                          Tag.full,
                                                        PV.sl
                                                          (xApp (qaa b)
                                                            [[PV.int IntKind.u8
                                                                  (qaC IntKind.u8
                                                                    (iAdd IntKind.i64 (iMul IntKind.i64 (qaS (sAt s (iAdd IntKind.i64 i 2))) 16) (qaS (sAt s (iAdd IntKind.i64 i 3)))))]])
                                                          (Tag.tok 0),
                                                        PV.int IntKind.i64 i, PV.int IntKind.i64 (iAdd IntKind.i64 i 4), PV.top, PV.top, PV.top, PV.top, PV.top, PV.top, PV.top],
                                                      Store.mk []
                                                        [(nXs
                                                              (xApp (qaa b)
                                                                [[PV.int IntKind.u8
                                                                      (qaC IntKind.u8
                                                                        (iAdd IntKind.i64 (iMul IntKind.i64 (qaS (sAt s (iAdd IntKind.i64 i 2))) 16) (qaS (sAt s (iAdd IntKind.i64 i 3)))))]]),
                                                            1, 5)]
                                                        []))
                                                  Tr.fail)
                                                Tr.fail)
                                              Tr.fail)
                                            Tr.fail)
                                          Tr.fail)
                                        Tr.fail)
                                      (Tr.ite (qap s (iAdd IntKind.i64 i 1))
                                        (Tr.ite (qaF (qaa b) [[PV.int IntKind.u8 (sAt s (iAdd IntKind.i64 i 1))]] 1)
                                          (Tr.ite (qaB [[PV.int IntKind.u8 (sAt s (iAdd IntKind.i64 i 1))]] 1)
                                            (Tr.ite (qav (qaa b) 1)
                                              (Tr.ite (nEq (nLen b) (nXs (qaa b)))
                                                (Tr.ret
                                                  (PExit.normal, [29, 74, 95, 87, 80, 63, 52, 46, 33, 23, 18],
                                                    [PV.str s, PV.top, PV.top, PV.top, PV.sl (xApp (qaa b) [[PV.int IntKind.u8 (sAt s (iAdd IntKind.i64 i 1))]]) (Tag.tok 0),
                                                      PV.int IntKind.i64 (iAdd IntKind.i64 i 2), PV.top, PV.top, PV.top, PV.top, PV.top, PV.top, PV.top, PV.top, PV.int IntKind.i64 i, PV.str s,
                                                      PV.int IntKind.i64 (sLen s), PV.bool (iLt i (sLen s)), PV.bool true, PV.str s, PV.int IntKind.i64 i, PV.int IntKind.u8 (sAt s i),
                                                      PV.bool (iNe (sAt s i) 34), PV.bool true, PV.sl (qaa b) (Tag.tok 0), PV.str s, PV.int IntKind.i64 i, PV.int IntKind.i64 (iAdd IntKind.i64 i 1),
                                                      PV.int IntKind.u8 (sAt s (iAdd IntKind.i64 i 1)), PV.sl [[PV.int IntKind.u8 (sAt s (iAdd IntKind.i64 i 1))]] Tag.full,
                                                      PV.sl (xApp (qaa b) [[PV.int IntKind.u8 (sAt s (iAdd IntKind.i64 i 1))]]) (Tag.tok 0), PV.int IntKind.i64 i,
                                                      PV.int IntKind.i64 (iAdd IntKind.i64 i 2), PV.bool false, PV.str s, PV.int IntKind.i64 i, PV.int IntKind.u8 (sAt s i), PV.bool (iNe (sAt s i) 92),
                                                      PV.top, PV.top, PV.top, PV.top, PV.top, PV.top, PV.top, PV.top, PV.bool false, PV.int IntKind.i64 i, PV.int IntKind.i64 (iAdd IntKind.i64 i 1),
                                                      PV.str s, PV.int IntKind.i64 (sLen s), PV.bool (iLe (sLen s) (iAdd IntKind.i64 i 1)), PV.bool false, PV.str s, PV.int IntKind.i64 i,
                                                      PV.int IntKind.i64 (iAdd IntKind.i64 i 1), PV.int IntKind.u8 (sAt s (iAdd IntKind.i64 i 1)), PV.bool (iEq (sAt s (iAdd IntKind.i64 i 1)) 110), PV.top,
                                                      PV.top, PV.top, PV.top, PV.top, PV.bool false, PV.str s, PV.int IntKind.i64 i, PV.int IntKind.i64 (iAdd IntKind.i64 i 1),
                                                      PV.int IntKind.u8 (sAt s (iAdd IntKind.i64 i 1)), PV.bool (iEq (sAt s (iAdd IntKind.i64 i 1)) 116), PV.top, PV.top, PV.top, PV.top, PV.top,
                                                      PV.bool false, PV.str s, PV.int IntKind.i64 i, PV.int IntKind.i64 (iAdd IntKind.i64 i 1), PV.int IntKind.u8 (sAt s (iAdd IntKind.i64 i 1)),
                                                      PV.bool (iEq (sAt s (iAdd IntKind.i64 i 1)) 120), PV.bool true, PV.int IntKind.i64 i, PV.int IntKind.i64 (iAdd IntKind.i64 i 3), PV.str s,
                                                      PV.int IntKind.i64 (sLen s), PV.bool (iLt (iAdd IntKind.i64 i 3) (sLen s)), PV.bool (iLt (iAdd IntKind.i64 i 3) (sLen s)), PV.bool true, PV.str s,
                                                      PV.int IntKind.i64 i, PV.int IntKind.i64 (iAdd IntKind.i64 i 2), PV.int IntKind.u8 (sAt s (iAdd IntKind.i64 i 2)),
                                                      PV.int IntKind.i64 (qaS (sAt s (iAdd IntKind.i64 i 2))), PV.bool (iLe 0 (qaS (sAt s (iAdd IntKind.i64 i 2)))),
                                                      PV.bool (iLe 0 (qaS (sAt s (iAdd IntKind.i64 i 2)))), PV.bool true, PV.str s, PV.int IntKind.i64 i, PV.int IntKind.i64 (iAdd IntKind.i64 i 3),
                                                      PV.int IntKind.u8 (sAt s (iAdd IntKind.i64 i 3)), PV.int IntKind.i64 (qaS (sAt s (iAdd IntKind.i64 i 3))),
                                                      PV.bool (iLe 0 (qaS (sAt s (iAdd IntKind.i64 i 3)))), PV.bool (iLe 0 (qaS (sAt s (iAdd IntKind.i64 i 3)))), PV.top, PV.top, PV.top, PV.top,
                                                      PV.top, PV.top, PV.top, PV.top, PV.top, PV.top, PV.top, PV.top, PV.top, PV.top, PV.top, PV.top, PV.top, PV.top, PV.top, PV.top, PV.top, PV.top,
                                                      PV.top, PV.top, PV.top],
                                                    Store.mk [] [(nXs (xApp (qaa b) [[PV.int IntKind.u8 (sAt s (iAdd IntKind.i64 i 1))]]), 1, 5)] []))
                                                Tr.fail)
                                              Tr.fail)
                                            Tr.fail)
                                          Tr.fail)
                                        Tr.fail))
                                    Tr.fail)
                                  (Tr.ite (qap s (iAdd IntKind.i64 i 1))
                                    (Tr.ite (qaF (qaa b) [[PV.int IntKind.u8 (sAt s (iAdd IntKind.i64 i 1))]] 1)
                                      (Tr.ite (qaB [[PV.int IntKind.u8 (sAt s (iAdd IntKind.i64 i 1))]] 1)
                                        (Tr.ite (qav (qaa b) 1)
                                          (Tr.ite (nEq (nLen b) (nXs (qaa b)))
                                            (Tr.ret
                                              (PExit.normal, [29, 74, 102, 95, 87, 80, 63, 52, 46, 33, 23, 18],
                                                [PV.str s, PV.top, PV.top, PV.top, PV.sl (xApp (qaa b) [[PV.int IntKind.u8 (sAt s (iAdd IntKind.i64 i 1))]]) (Tag.tok 0),
                                                  PV.int IntKind.i64 (iAdd IntKind.i64 i 2), PV.top, PV.top, PV.top, PV.top, PV.top, PV.top, PV.top, PV.top, PV.int IntKind.i64 i, PV.str s,
                                                  PV.int IntKind.i64 (sLen s), PV.bool (iLt i (sLen s)), PV.bool true, PV.str s, PV.int IntKind.i64 i, PV.int IntKind.u8 (sAt s i),
                                                  PV.bool (iNe (sAt s i) 34), PV.bool true, PV.sl (qaa b) (Tag.tok 0), PV.str s, PV.int IntKind.i64 i, PV.int IntKind.i64 (iAdd IntKind.i64 i 1),
                                                  PV.int IntKind.u8 (sAt s (iAdd IntKind.i64 i 1)), PV.sl [[PV.int IntKind.u8 (sAt s (iAdd IntKind.i64 i 1))]] Tag.full,
                                                  PV.sl (xApp (qaa b) [[PV.int IntKind.u8 (sAt s (iAdd IntKind.i64 i 1))]]) (Tag.tok 0), PV.int IntKind.i64 i,
                                                  PV.int IntKind.i64 (iAdd IntKind.i64 i 2), PV.bool false, PV.str s, PV.int IntKind.i64 i, PV.int IntKind.u8 (sAt s i), PV.bool (iNe (sAt s i) 92), PV.top,
                                                  PV.top, PV.top, PV.top, PV.top, PV.top, PV.top, PV.top, PV.bool false, PV.int IntKind.i64 i, PV.int IntKind.i64 (iAdd IntKind.i64 i 1), PV.str s,
                                                  PV.int IntKind.i64 (sLen s), PV.bool (iLe (sLen s) (iAdd IntKind.i64 i 1)), PV.bool false, PV.str s, PV.int IntKind.i64 i,
                                                  PV.int IntKind.i64 (iAdd IntKind.i64 i 1), PV.int IntKind.u8 (sAt s (iAdd IntKind.i64 i 1)), PV.bool (iEq (sAt s (iAdd IntKind.i64 i 1)) 110), PV.top,
                                                  PV.top, PV.top, PV.top, PV.top, PV.bool false, PV.str s, PV.int IntKind.i64 i, PV.int IntKind.i64 (iAdd IntKind.i64 i 1),
                                                  PV.int IntKind.u8 (sAt s (iAdd IntKind.i64 i 1)), PV.bool (iEq (sAt s (iAdd IntKind.i64 i 1)) 116), PV.top, PV.top, PV.top, PV.top, PV.top, PV.bool false,
                                                  PV.str s, PV.int IntKind.i64 i, PV.int IntKind.i64 (iAdd IntKind.i64 i 1), PV.int IntKind.u8 (sAt s (iAdd IntKind.i64 i 1)),
                                                  PV.bool (iEq (sAt s (iAdd IntKind.i64 i 1)) 120), PV.bool true, PV.int IntKind.i64 i, PV.int IntKind.i64 (iAdd IntKind.i64 i 3), PV.str s,
                                                  PV.int IntKind.i64 (sLen s), PV.bool (iLt (iAdd IntKind.i64 i 3) (sLen s)), PV.bool (iLt (iAdd IntKind.i64 i 3) (sLen s)), PV.bool true, PV.str s,
                                                  PV.int IntKind.i64 i, PV.int IntKind.i64 (iAdd IntKind.i64 i 2), PV.int IntKind.u8 (sAt s (iAdd IntKind.i64 i 2)),
                                                  PV.int IntKind.i64 (qaS (sAt s (iAdd IntKind.i64 i 2))), PV.bool (iLe 0 (qaS (sAt s (iAdd IntKind.i64 i 2)))),
                                                  PV.bool (iLe 0 (qaS (sAt s (iAdd IntKind.i64 i 2)))), PV.bool false, PV.tup [], PV.tup [], PV.tup [], PV.tup [], PV.tup [], PV.tup [], PV.bool false,
                                                  PV.top, PV.top, PV.top, PV.top, PV.top, PV.top, PV.top, PV.top, PV.top, PV.top, PV.top, PV.top, PV.top, PV.top, PV.top, PV.top, PV.top, PV.top, PV.top,
                                                  PV.top, PV.top, PV.top, PV.top, PV.top, PV.top],
                                                Store.mk [] [(nXs (xApp (qaa b) [[PV.int IntKind.u8 (sAt s (iAdd IntKind.i64 i 1))]]), 1, 5)] []))
                                            Tr.fail)
                                          Tr.fail)
                                        Tr.fail)
                                      Tr.fail)
                                    Tr.fail))
                                Tr.fail)
                              (Tr.ite (qap s (iAdd IntKind.i64 i 1))
                                (Tr.ite (qaF (qaa b) [[PV.int IntKind.u8 (sAt s (iAdd IntKind.i64 i 1))]] 1)
                                  (Tr.ite (qaB [[PV.int IntKind.u8 (sAt s (iAdd IntKind.i64 i 1))]] 1)
                                    (Tr.ite (qav (qaa b) 1)
                                      (Tr.ite (nEq (nLen b) (nXs (qaa b)))
                                        (Tr.ret
                                          (PExit.normal, [29, 74, 102, 95, 94, 87, 80, 63, 52, 46, 33, 23, 18],
                                            [PV.str s, PV.top, PV.top, PV.top, PV.sl (xApp (qaa b) [[PV.int IntKind.u8 (sAt s (iAdd IntKind.i64 i 1))]]) (Tag.tok 0),
                                              PV.int IntKind.i64 (iAdd IntKind.i64 i 2), PV.top, PV.top, PV.top, PV.top, PV.top, PV.top, PV.top, PV.top, PV.int IntKind.i64 i, PV.str s,
                                              PV.int IntKind.i64 (sLen s), PV.bool (iLt i (sLen s)), PV.bool true, PV.str s, PV.int IntKind.i64 i, PV.int IntKind.u8 (sAt s i), PV.bool (iNe (sAt s i) 34),
                                              PV.bool true, PV.sl (qaa b) (Tag.tok 0), PV.str s, PV.int IntKind.i64 i, PV.int IntKind.i64 (iAdd IntKind.i64 i 1),
                                              PV.int IntKind.u8 (sAt s (iAdd IntKind.i64 i 1)), PV.sl [[PV.int IntKind.u8 (sAt s (iAdd IntKind.i64 i 1))]] Tag.full,
                                              PV.sl (xApp (qaa b) [[PV.int IntKind.u8 (sAt s (iAdd IntKind.i64 i 1))]]) (Tag.tok 0), PV.int IntKind.i64 i, PV.int IntKind.i64 (iAdd IntKind.i64 i 2),
                                              PV.bool false, PV.str s, PV.int IntKind.i64 i, PV.int IntKind.u8 (sAt s i), PV.bool (iNe (sAt s i) 92), PV.top, PV.top, PV.top, PV.top, PV.top, PV.top,
                                              PV.top, PV.top, PV.bool false, PV.int IntKind.i64 i, PV.int IntKind.i64 (iAdd IntKind.i64 i 1), PV.str s, PV.int IntKind.i64 (sLen s),
                                              PV.bool (iLe (sLen s) (iAdd IntKind.i64 i 1)), PV.bool false, PV.str s, PV.int IntKind.i64 i, PV.int IntKind.i64 (iAdd IntKind.i64 i 1),
                                              PV.int IntKind.u8 (sAt s (iAdd IntKind.i64 i 1)), PV.bool (iEq (sAt s (iAdd IntKind.i64 i 1)) 110), PV.top, PV.top, PV.top, PV.top, PV.top, PV.bool false,
                                              PV.str s, PV.int IntKind.i64 i, PV.int IntKind.i64 (iAdd IntKind.i64 i 1), PV.int IntKind.u8 (sAt s (iAdd IntKind.i64 i 1)),
                                              PV.bool (iEq (sAt s (iAdd IntKind.i64 i 1)) 116), PV.top, PV.top, PV.top, PV.top, PV.top, PV.bool false, PV.str s, PV.int IntKind.i64 i,
                                              PV.int IntKind.i64 (iAdd IntKind.i64 i 1), PV.int IntKind.u8 (sAt s (iAdd IntKind.i64 i 1)), PV.bool (iEq (sAt s (iAdd IntKind.i64 i 1)) 120), PV.bool true,
                                              PV.int IntKind.i64 i, PV.int IntKind.i64 (iAdd IntKind.i64 i 3), PV.str s, PV.int IntKind.i64 (sLen s), PV.bool (iLt (iAdd IntKind.i64 i 3) (sLen s)),
                                              PV.bool (iLt (iAdd IntKind.i64 i 3) (sLen s)), PV.bool false, PV.tup [], PV.tup [], PV.tup [], PV.tup [], PV.tup [], PV.tup [], PV.bool false, PV.bool false,
                                              PV.tup [], PV.tup [], PV.tup [], PV.tup [], PV.tup [], PV.tup [], PV.bool false, PV.top, PV.top, PV.top, PV.top, PV.top, PV.top, PV.top, PV.top, PV.top,
                                              PV.top, PV.top, PV.top, PV.top, PV.top, PV.top, PV.top, PV.top, PV.top, PV.top, PV.top, PV.top, PV.top, PV.top, PV.top, PV.top],
                                            Store.mk [] [(nXs (xApp (qaa b) [[PV.int IntKind.u8 (sAt s (iAdd IntKind.i64 i 1))]]), 1, 5)] []))
                                        Tr.fail)
                                      Tr.fail)
                                    Tr.fail)
                                  Tr.fail)
                                Tr.fail))
                            (Tr.ite (qap s (iAdd IntKind.i64 i 1))
                              (Tr.ite (qaF (qaa b) [[PV.int IntKind.u8 (sAt s (iAdd IntKind.i64 i 1))]] 1)
                                (Tr.ite (qaB [[PV.int IntKind.u8 (sAt s (iAdd IntKind.i64 i 1))]] 1)
                                  (Tr.ite (qav (qaa b) 1)
                                    (Tr.ite (nEq (nLen b) (nXs (qaa b)))
                                      (Tr.ret
                                        (PExit.normal, [29, 74, 102, 95, 94, 87, 86, 80, 63, 52, 46, 33, 23, 18],
                                          [PV.str s, PV.top, PV.top, PV.top, PV.sl (xApp (qaa b) [[PV.int IntKind.u8 (sAt s (iAdd IntKind.i64 i 1))]]) (Tag.tok 0),
                                            PV.int IntKind.i64 (iAdd IntKind.i64 i 2), PV.top, PV.top, PV.top, PV.top, PV.top, PV.top, PV.top, PV.top, PV.int IntKind.i64 i, PV.str s,
                                            PV.int IntKind.i64 (sLen s), PV.bool (iLt i (sLen s)), PV.bool true, PV.str s, PV.int IntKind.i64 i, PV.int IntKind.u8 (sAt s i), PV.bool (iNe (sAt s i) 34),
                                            PV.bool true, PV.sl (qaa b) (Tag.tok 0), PV.str s, PV.int IntKind.i64 i, PV.int IntKind.i64 (iAdd IntKind.i64 i 1),
                                            PV.int IntKind.u8 (sAt s (iAdd IntKind.i64 i 1)), PV.sl [[PV.int IntKind.u8 (sAt s (iAdd IntKind.i64 i 1))]] Tag.full,
                                            PV.sl (xApp (qaa b) [[PV.int IntKind.u8 (sAt s (iAdd IntKind.i64 i 1))]]) (Tag.tok 0), PV.int IntKind.i64 i, PV.int IntKind.i64 (iAdd IntKind.i64 i 2),
                                            PV.bool false, PV.str s, PV.int IntKind.i64 i, PV.int IntKind.u8 (sAt s i), PV.bool (iNe (sAt s i) 92), PV.top, PV.top, PV.top, PV.top, PV.top, PV.top, PV.top,
                                            PV.top, PV.bool false, PV.int IntKind.i64 i, PV.int IntKind.i64 (iAdd IntKind.i64 i 1), PV.str s, PV.int IntKind.i64 (sLen s),
                                            PV.bool (iLe (sLen s) (iAdd IntKind.i64 i 1)), PV.bool false, PV.str s, PV.int IntKind.i64 i, PV.int IntKind.i64 (iAdd IntKind.i64 i 1),
                                            PV.int IntKind.u8 (sAt s (iAdd IntKind.i64 i 1)), PV.bool (iEq (sAt s (iAdd IntKind.i64 i 1)) 110), PV.top, PV.top, PV.top, PV.top, PV.top, PV.bool false,
                                            PV.str s, PV.int IntKind.i64 i, PV.int IntKind.i64 (iAdd IntKind.i64 i 1), PV.int IntKind.u8 (sAt s (iAdd IntKind.i64 i 1)),
                                            PV.bool (iEq (sAt s (iAdd IntKind.i64 i 1)) 116), PV.top, PV.top, PV.top, PV.top, PV.top, PV.bool false, PV.str s, PV.int IntKind.i64 i,
                                            PV.int IntKind.i64 (iAdd IntKind.i64 i 1), PV.int IntKind.u8 (sAt s (iAdd IntKind.i64 i 1)), PV.bool (iEq (sAt s (iAdd IntKind.i64 i 1)) 120), PV.bool false,
                                            PV.tup [], PV.tup [], PV.tup [], PV.tup [], PV.tup [], PV.bool false, PV.bool false, PV.tup [], PV.tup [], PV.tup [], PV.tup [], PV.tup [], PV.tup [],
                                            PV.bool false, PV.bool false, PV.tup [], PV.tup [], PV.tup [], PV.tup [], PV.tup [], PV.tup [], PV.bool false, PV.top, PV.top, PV.top, PV.top, PV.top, PV.top,
                                            PV.top, PV.top, PV.top, PV.top, PV.top, PV.top, PV.top, PV.top, PV.top, PV.top, PV.top, PV.top, PV.top, PV.top, PV.top, PV.top, PV.top, PV.top, PV.top],
                                          Store.mk [] [(nXs (xApp (qaa b) [[PV.int IntKind.u8 (sAt s (iAdd IntKind.i64 i 1))]]), 1, 5)] []))
                                      Tr.fail)
                                    Tr.fail)
                                  Tr.fail)
                                Tr.fail)
                              Tr.fail))
                          Tr.fail))
                      Tr.fail))
                  Tr.fail)))
            Tr.fail)
          (Tr.ret
            (PExit.exit 0, [23, 18],
              [PV.str s, PV.top, PV.top, PV.top, PV.sl (qaa b) (Tag.tok 0), PV.int IntKind.i64 i, PV.top, PV.top, PV.top, PV.top, PV.top, PV.top, PV.top, PV.top, PV.int IntKind.i64 i, PV.str s,
                PV.int IntKind.i64 (sLen s), PV.bool (iLt i (sLen s)), PV.bool true, PV.str s, PV.int IntKind.i64 i, PV.int IntKind.u8 (sAt s i), PV.bool (iNe (sAt s i) 34), PV.bool false, PV.top, PV.top,
                PV.top, PV.top, PV.top, PV.top, PV.top, PV.top, PV.top, PV.top, PV.top, PV.top, PV.top, PV.top, PV.top, PV.top, PV.top, PV.top, PV.top, PV.top, PV.top, PV.top, PV.top, PV.top, PV.top,
                PV.top, PV.top, PV.top, PV.top, PV.top, PV.top, PV.top, PV.top, PV.top, PV.top, PV.top, PV.top, PV.top, PV.top, PV.top, PV.top, PV.top, PV.top, PV.top, PV.top, PV.top, PV.top, PV.top,
                PV.top, PV.top, PV.top, PV.top, PV.top, PV.top, PV.top, PV.top, PV.top, PV.top, PV.top, PV.top, PV.top, PV.top, PV.top, PV.top, PV.top, PV.top, PV.top, PV.top, PV.top, PV.top, PV.top,
                PV.top, PV.top, PV.top, PV.top, PV.top, PV.top, PV.top, PV.top, PV.top, PV.top, PV.top, PV.top, PV.top, PV.top, PV.top, PV.top, PV.top, PV.top, PV.top, PV.top, PV.top, PV.top, PV.top,
                PV.top, PV.top, PV.top, PV.top, PV.top, PV.top, PV.top, PV.top, PV.top, PV.top],
              Store.mk [] [(nLen b, 1, 5)] [])))
        Tr.fail)
      (Tr.ret
        (PExit.exit 0, [23, 18],
          [PV.str s, PV.top, PV.top, PV.top, PV.sl (qaa b) (Tag.tok 0), PV.int IntKind.i64 i, PV.top, PV.top, PV.top, PV.top, PV.top, PV.top, PV.top, PV.top, PV.int IntKind.i64 i, PV.str s,
            PV.int IntKind.i64 (sLen s), PV.bool (iLt i (sLen s)), PV.bool false, PV.tup [], PV.tup [], PV.tup [], PV.tup [], PV.bool false, PV.top, PV.top, PV.top, PV.top, PV.top, PV.top, PV.top, PV.top,
            PV.top, PV.top, PV.top, PV.top, PV.top, PV.top, PV.top, PV.top, PV.top, PV.top, PV.top, PV.top, PV.top, PV.top, PV.top, PV.top, PV.top, PV.top, PV.top, PV.top, PV.top, PV.top, PV.top, PV.top,
            PV.top, PV.top, PV.top, PV.top, PV.top, PV.top, PV.top, PV.top, PV.top, PV.top, PV.top, PV.top, PV.top, PV.top, PV.top, PV.top, PV.top, PV.top, PV.top, PV.top, PV.top, PV.top, PV.top, PV.top,
            PV.top, PV.top, PV.top, PV.top, PV.top, PV.top, PV.top, PV.top, PV.top, PV.top, PV.top, PV.top, PV.top, PV.top, PV.top, PV.top, PV.top, PV.top, PV.top, PV.top, PV.top, PV.top, PV.top, PV.top,
            PV.top, PV.top, PV.top, PV.top, PV.top, PV.top, PV.top, PV.top, PV.top, PV.top, PV.top, PV.top, PV.top, PV.top, PV.top, PV.top, PV.top, PV.top, PV.top, PV.top, PV.top, PV.top, PV.top, PV.top],
          Store.mk [] [(nLen b, 1, 5)] []))) (by kernel_rfl) ?_
  cases r with
  | nil =>
    have hl := congrArg List.length hr
    simp at hl
    obtain ⟨rfl, rfl, rfl⟩ := hstop rfl
    exact Tr.all_f (by simp; omega) ⟨rfl, by simp [Weak, mk, qbj, look], rfl⟩
  | cons c t =>
    obtain ⟨hv, hd1, hl1⟩ := qfB hr
    have hb1 : b.length + (t.length + 1) ≤ 140737488355328 := hb
    have a0 : sAt s i = c.toNat := qdd hv
    have k0 : qap s i = true := qcd (by omega) hv
    have n1 : (i + 1).toNat = i.toNat + 1 := by omega
    have n2 : (i + 2).toNat = i.toNat + 1 + 1 := by omega
    have n3 : (i + 3).toNat = i.toNat + 1 + 1 + 1 := by omega
    have w1 : iAdd .i64 i 1 = i + 1 := qa2 (by omega)
    have w2 : iAdd .i64 i 2 = i + 2 := qa2 (by omega)
    have w3 : iAdd .i64 i 3 = i + 3 := qa2 (by omega)
    have w4 : iAdd .i64 i 4 = i + 4 := qa2 (by omega)
    simp only [a0, w1, w2, w3, w4]
    refine Tr.all_t (by simp; omega) <| Tr.all_t k0 ?_
    by_cases c34 : c = 34
    · obtain ⟨rfl, rfl, rfl⟩ := hstop (by simp [rS, c34])
      exact Tr.all_f (qe0 (k := 34) c34) ⟨rfl, by simp [Weak, mk, qbj, look], rfl⟩
    · refine Tr.all_t (qeK (k := 34) c34) <| Tr.all_t k0 ?_
      by_cases c92 : c = 92
      · refine Tr.all_f (qe0 (k := 92) c92) ?_
        cases t with
        | nil =>
          obtain ⟨rfl, rfl, rfl⟩ := hbad (by simp [rS, c92])
          exact Tr.all_t (by simp at hl1 ⊢; omega) ⟨rfl, by simp [Weak, mk, qbj, look], rfl⟩
        | cons e' u =>
          obtain ⟨hv1, hd2, hl2⟩ := qfB hd1
          have a1 : sAt s (i + 1) = e'.toNat := qdd (by rw [n1]; exact hv1)
          have k1 : qap s (i + 1) = true := qcd (by omega) (by rw [n1]; exact hv1)
          simp only [a1]
          refine Tr.all_f (by simp; omega) <| Tr.all_t k1 ?_
          by_cases e110 : e' = 110
          · refine Tr.all_t (qc9 (k := 110) e110) ?_
            refine Tr.all_t (by simp; omega) <| Tr.all_t (by simp [one]) <| Tr.all_t (qbb _) <| Tr.all_t (by simp) ?_
            simp only [qed b 10 (n := 10) rfl, qbc]
            refine LDoes.into ?_ (hone 10 2 (by simp [rS, c92, e110]))
            simp [Weak, mk, qbj, look]
          · refine Tr.all_f (qch (k := 110) e110) <| Tr.all_t k1 ?_
            by_cases e116 : e' = 116
            · refine Tr.all_t (qc9 (k := 116) e116) ?_
              refine Tr.all_t (by simp; omega) <| Tr.all_t (by simp [one]) <| Tr.all_t (qbb _) <| Tr.all_t (by simp) ?_
              simp only [qed b 9 (n := 9) rfl, qbc]
              refine LDoes.into ?_ (hone 9 2 (by simp [rS, c92, e110, e116]))
              simp [Weak, mk, qbj, look]
            · refine Tr.all_f (qch (k := 116) e116) <| Tr.all_t k1 ?_
              by_cases e120 : e' = 120
              · refine Tr.all_t (qc9 (k := 120) e120) ?_
                cases u with
                | nil =>
                  refine Tr.all_f (by simp at hl2 ⊢; omega) <| Tr.all_t k1 ?_
                  refine Tr.all_t (by simp; omega) <| Tr.all_t (by simp [one]) <| Tr.all_t (qbb _) <| Tr.all_t (by simp) ?_
                  simp only [qed b e' rfl, qbc]
                  refine LDoes.into ?_ (hone e' 2 (by simp [rS, c92, e110, e116, e120, qkd]))
                  simp [Weak, mk, qbj, look]
                | cons h1 u =>
                  obtain ⟨hv2, hd3, hl3⟩ := qfB hd2
                  cases u with
                  | nil =>
                    refine Tr.all_f (by simp at hl3 ⊢; omega) <| Tr.all_t k1 ?_
                    refine Tr.all_t (by simp; omega) <| Tr.all_t (by simp [one]) <| Tr.all_t (qbb _) <| Tr.all_t (by simp) ?_
                    simp only [qed b e' rfl, qbc]
                    refine LDoes.into ?_ (hone e' 2 (by simp [rS, c92, e110, e116, e120, qkd]))
                    simp [Weak, mk, qbj, look]
                  | cons h2 u =>
                    obtain ⟨hv3, hd4, hl4⟩ := qfB hd3
                    have a2 : sAt s (i + 2) = h1.toNat := qdd (by rw [n2]; exact hv2)
                    have k2 : qap s (i + 2) = true := qcd (by omega) (by rw [n2]; exact hv2)
                    have a3 : sAt s (i + 3) = h2.toNat := qdd (by rw [n3]; exact hv3)
                    have k3 : qap s (i + 3) = true := qcd (by omega) (by rw [n3]; exact hv3)
                    simp only [a2, a3]
                    refine Tr.all_t (by simp; omega) <| Tr.all_t k2 ?_
                    by_cases g1 : 0 ≤ qaS h1.toNat
                    · refine Tr.all_t (by simpa using g1) <| Tr.all_t k3 ?_
                      by_cases g2 : 0 ≤ qaS h2.toNat
                      · refine Tr.all_t (by simpa using g2) <| Tr.all_t k2 <| Tr.all_t k3 ?_
                        refine Tr.all_t (by simp; omega) <| Tr.all_t (by simp [one]) <| Tr.all_t (qbb _) <| Tr.all_t (by simp) ?_
                        simp only [qed b (hexW (h1 :: h2 :: u)) qBm, qbc]
                        refine LDoes.into ?_ (hone (hexW (h1 :: h2 :: u)) 4 (by simp [rS, c92, e110, e116, e120, qkd, g1, g2]))
                        simp [Weak, mk, qbj, look]
                      · refine Tr.all_f (by simpa using g2) <| Tr.all_t k1 ?_
                        refine Tr.all_t (by simp; omega) <| Tr.all_t (by simp [one]) <| Tr.all_t (qbb _) <| Tr.all_t (by simp) ?_
                        simp only [qed b e' rfl, qbc]
                        refine LDoes.into ?_ (hone e' 2 (by simp [rS, c92, e110, e116, e120, qkd, g1, g2]))
                        simp [Weak, mk, qbj, look]
                    · refine Tr.all_f (by simpa using g1) <| Tr.all_t k1 ?_
                      refine Tr.all_t (by simp; omega) <| Tr.all_t (by simp [one]) <| Tr.all_t (qbb _) <| Tr.all_t (by simp) ?_
                      simp only [qed b e' rfl, qbc]
                      refine LDoes.into ?_ (hone e' 2 (by simp [rS, c92, e110, e116, e120, qkd, g1]))
                      simp [Weak, mk, qbj, look]
              · refine Tr.all_f (qch (k := 120) e120) <| Tr.all_t k1 ?_
                refine Tr.all_t (by simp; omega) <| Tr.all_t (by simp [one]) <| Tr.all_t (qbb _) <| Tr.all_t (by simp) ?_
                simp only [qed b e' rfl, qbc]
                refine LDoes.into ?_ (hone e' 2 (by simp [rS, c92, e110, e116, e120]))
                simp [Weak, mk, qbj, look]
      · refine Tr.all_t (qeK (k := 92) c92) <| Tr.all_t k0 ?_
        refine Tr.all_t (by simp; omega) <| Tr.all_t (by simp [one]) <| Tr.all_t (qbb _) <| Tr.all_t (by simp) ?_
        simp only [qed b c rfl, qbc]
        refine LDoes.into ?_ (hone c 1 (by simp [rS, c34, c92]))
        simp [Weak, mk, qbj, look]
theorem qxD (hs : s.length ≤ 140737488355328) (i : Int) (r : List UInt8) (hi : 1 ≤ i) (hr : s.drop i.toNat = r) (hil : i ≤ s.length)
    (hstop : rS r = .stop → e = .exit 0 ∧ out = [(0, .str s), (4, .sl [] .full), (5, .int .i64 i)] ∧ σ' = ⟨[], [], []⟩) (hbad : rS r = .bad → e = .ret ∧ out = [(2, .str []), (3, .bool false)] ∧ σ' = ⟨[], [], []⟩)
    (hone : ∀ x k, rS r = .one x k → LDoes Tryz.prog gl qn6 (mk 128 ([0, 4, 5].zip [.str s, .sl (qaa [x]) (.tok 0), .int .i64 (i + k)])) ⟨[], [(nLen [x], 1, 5)], []⟩ e (mk 128 out) σ') :
    LDoes Tryz.prog gl qn6 (mk 128 ([0, 4, 5].zip [.str s, .sl [] .full, .int .i64 i])) ⟨[], [], []⟩ e (mk 128 out) σ' := by
  have hG : qaJ Tryz.prog gl (gam (ofL [(162, .pure qsT)])) := qad (qqr gl) qag
  refine LDoes.round qaj hG qah (L := fun _ _ _ => .fail) (qae (by kernel_rfl)) (by kernel_rfl) ?_
  refine Tr.all_as (Tr.ite (iLt i (sLen s))
      (Tr.ite (qap s i)
        (Tr.ite (iNe (sAt s i) 34)
          (Tr.ite (qap s i)
            (Tr.ite (iNe (sAt s i) 92)
              (Tr.ite (qap s i)
                (Tr.ite (qaF [] [[PV.int IntKind.u8 (sAt s i)]] 1)
                  (Tr.ite (qaB [[PV.int IntKind.u8 (sAt s i)]] 1)
                    (Tr.ite (qav [] 1)
                      (Tr.ret
                        (PExit.normal, [42, 33, 23, 18],
                          [PV.str s, PV.top, PV.top, PV.top, PV.sl (xApp [] [[PV.int IntKind.u8 (sAt s i)]]) (Tag.tok 0), PV.int IntKind.i64 (iAdd IntKind.i64 i 1), PV.top, PV.top, PV.top, PV.top, PV.top,
                            PV.top, PV.top, PV.top, PV.int IntKind.i64 i, PV.str s, PV.int IntKind.i64 (sLen s), PV.bool (iLt i (sLen s)), PV.bool true, PV.str s, PV.int IntKind.i64 i,
                            PV.int IntKind.u8 (sAt s i), PV.bool (iNe (sAt s i) 34), PV.bool true, PV.top, PV.top, PV.top, PV.top, PV.top, PV.top, PV.top, PV.top, PV.top, PV.bool true, PV.str s,
                            PV.int IntKind.i64 i, PV.int IntKind.u8 (sAt s i), PV.bool (iNe (sAt s i) 92), PV.sl [] Tag.full, PV.str s, PV.int IntKind.i64 i, PV.int IntKind.u8 (sAt s i),
                            PV.sl [[PV.int IntKind.u8 (sAt s i)]] Tag.full, PV.sl (xApp [] [[PV.int IntKind.u8 (sAt s i)]]) (Tag.tok 0), PV.int IntKind.i64 i, PV.int IntKind.i64 (iAdd IntKind.i64 i 1),
                            PV.top, PV.top, PV.top, PV.top, PV.top, PV.top, PV.top, PV.top, PV.top, PV.top, PV.top, PV.top, PV.top, PV.top, PV.top, PV.top, PV.top, PV.top, PV.top, PV.top, PV.top, PV.top,
                            PV.top, PV.top, PV.top, PV.top, PV.top, PV.top, PV.top, PV.top, PV.top, PV.top, PV.top, PV.top, PV.top, PV.top, PV.top, PV.top, PV.top, PV.top, PV.top, PV.top, PV.top, PV.top,
                            PV.top, PV.top, PV.top, PV.top, PV.top, PV.top, PV.top, PV.top, PV.top, PV.top, PV.top, PV.top, PV.top, PV.top, PV.top, PV.top, PV.top, PV.top, PV.top, PV.top, PV.top, PV.top,
                            PV.top, PV.top, PV.top, PV.top, PV.top, PV.top, PV.top, PV.top, PV.top, PV.top, PV.top, PV.top, PV.top, PV.top, PV.top, PV.top],
                          Store.mk [] [(nXs (xApp [] [[PV.int IntKind.u8 (sAt s i)]]), 1, 5)] []))
                      Tr.fail)
                    Tr.fail)
                  Tr.fail)
                Tr.fail)
              (Tr.ite (iLe (sLen s) (iAdd IntKind.i64 i 1))
                (Tr.ret
                  (PExit.ret, [3, 2, 46, 33, 23, 18],
                    [PV.str s, PV.top, PV.str [], PV.bool false, PV.sl [] Tag.full, PV.int IntKind.i64 i, PV.top, PV.top, PV.top, PV.top, PV.top, PV.top, PV.top, PV.top, PV.int IntKind.i64 i, PV.str s,
                      PV.int IntKind.i64 (sLen s), PV.bool (iLt i (sLen s)), PV.bool true, PV.str s, PV.int IntKind.i64 i, PV.int IntKind.u8 (sAt s i), PV.bool (iNe (sAt s i) 34), PV.bool true, PV.top,
                      PV.top, PV.top, PV.top, PV.top, PV.top, PV.top, PV.top, PV.top, PV.bool false, PV.str s, PV.int IntKind.i64 i, PV.int IntKind.u8 (sAt s i), PV.bool (iNe (sAt s i) 92), PV.top,
                      PV.top, PV.top, PV.top, PV.top, PV.top, PV.top, PV.top, PV.bool true, PV.int IntKind.i64 i, PV.int IntKind.i64 (iAdd IntKind.i64 i 1), PV.str s, PV.int IntKind.i64 (sLen s),
                      PV.bool (iLe (sLen s) (iAdd IntKind.i64 i 1)), PV.top, PV.top, PV.top, PV.top, PV.top, PV.top, PV.top, PV.top, PV.top, PV.top, PV.top, PV.top, PV.top, PV.top, PV.top, PV.top, PV.top,
                      PV.top, PV.top, PV.top, PV.top, PV.top, PV.top, PV.top, PV.top, PV.top, PV.top, PV.top, PV.top, PV.top, PV.top, PV.top, PV.top, PV.top, PV.top, PV.top, PV.top, PV.top, PV.top,
                      PV.top, PV.top, PV.top, PV.top, PV.top, PV.top, PV.top, PV.top, PV.top, PV.top, PV.top, PV.top, PV.top, PV.top, PV.top, PV.top, PV.top, PV.top, PV.top, PV.top, PV.top, PV.top,
                      PV.top, PV.top, PV.top, PV.top, PV.top, PV.top, PV.top, PV.top, PV.top, PV.top, PV.top, PV.top, PV.top, PV.top, PV.top],
                    Store.mk [] [] []))
                (Tr.ite (qap s (iAdd IntKind.i64 i 1))
                  (Tr.ite (iEq (sAt s (iAdd IntKind.i64 i 1)) 110)
                    (Tr.ite (qaF [] [[PV.int IntKind.u8 10]] 1)
                      (Tr.ite (qaB [[PV.int IntKind.u8 10]] 1)
                        (Tr.ite (qav [] 1)
                          (Tr.ret
                            (PExit.normal, [59, 52, 46, 33, 23, 18],
                              [PV.str s, PV.top, PV.top, PV.top, PV.sl (xApp [] [[PV.int IntKind.u8 10]]) (Tag.tok 0), PV.int IntKind.i64 (iAdd IntKind.i64 i 2), PV.top, PV.top, PV.top, PV.top, PV.top,
                                PV.top, PV.top, PV.top, PV.int IntKind.i64 i, PV.str s, PV.int IntKind.i64 (sLen s), PV.bool (iLt i (sLen s)), PV.bool true, PV.str s, PV.int IntKind.i64 i,
                                PV.int IntKind.u8 (sAt s i), PV.bool (iNe (sAt s i) 34), PV.bool true, PV.top, PV.top, PV.top, PV.top, PV.top, PV.top, PV.top, PV.top, PV.top, PV.bool false, PV.str s,
                                PV.int IntKind.i64 i, PV.int IntKind.u8 (sAt s i), PV.bool (iNe (sAt s i) 92), PV.top, PV.top, PV.top, PV.top, PV.top, PV.top, PV.top, PV.top, PV.bool false,
                                PV.int IntKind.i64 i, PV.int IntKind.i64 (iAdd IntKind.i64 i 1), PV.str s, PV.int IntKind.i64 (sLen s), PV.bool (iLe (sLen s) (iAdd IntKind.i64 i 1)), PV.bool true,
                                PV.str s, PV.int IntKind.i64 i, PV.int IntKind.i64 (iAdd IntKind.i64 i 1), PV.int IntKind.u8 (sAt s (iAdd IntKind.i64 i 1)),
                                PV.bool (iEq (sAt s (iAdd IntKind.i64 i 1)) 110), PV.sl [] Tag.full, PV.sl [[PV.int IntKind.u8 10]] Tag.full, PV.sl (xApp [] [[PV.int IntKind.u8 10]]) (Tag.tok 0),
                                PV.int IntKind.i64 i, PV.int IntKind.i64 (iAdd IntKind.i64 i 2), PV.top, PV.top, PV.top, PV.top, PV.top, PV.top, PV.top, PV.top, PV.top, PV.top, PV.top, PV.top, PV.top,
                                PV.top, PV.top, PV.top, PV.top, PV.top, PV.top, PV.top, PV.top, PV.top, PV.top, PV.top, PV.top, PV.top, PV.top, PV.top, PV.top, PV.top, PV.top, PV.top, PV.top, PV.top,
                                PV.top, PV.top, PV.top, PV.top, PV.top, PV.top, PV.top, PV.top, PV.top, PV.top, PV.top, PV.top, PV.top, PV.top, PV.top, PV.top, PV.top, PV.top, PV.top, PV.top, PV.top,
                                PV.top, PV.top, PV.top, PV.top, PV.top, PV.top, PV.top, PV.top, PV.top, PV.top],
                              Store.mk [] [(nXs (xApp [] [[PV.int IntKind.u8 10]]), 1, 5)] []))
                          Tr.fail)
                        Tr.fail)
                      Tr.fail)
                    (Tr.ite (qap s (iAdd IntKind.i64 i 1))
                      (Tr.ite (iEq (sAt s (iAdd IntKind.i64 i 1)) 116)
                        (Tr.ite (qaF [] [[PV.int IntKind.u8 9]] 1)
                          (Tr.ite (qaB [[PV.int IntKind.u8 9]] 1)
                            (Tr.ite (qav [] 1)
                              (Tr.ret
                                (PExit.normal, [70, 63, 52, 46, 33, 23, 18],
                                  [PV.str s, PV.top, PV.top, PV.top, PV.sl (xApp [] [[PV.int IntKind.u8 9]]) (Tag.tok 0), PV.int IntKind.i64 (iAdd IntKind.i64 i 2), PV.top, PV.top, PV.top, PV.top, PV.top,
                                    PV.top, PV.top, PV.top, PV.int IntKind.i64 i, PV.str s, PV.int IntKind.i64 (sLen s), PV.bool (iLt i (sLen s)), PV.bool true, PV.str s, PV.int IntKind.i64 i,
                                    PV.int IntKind.u8 (sAt s i), PV.bool (iNe (sAt s i) 34), PV.bool true, PV.top, PV.top, PV.top, PV.top, PV.top, PV.top, PV.top, PV.top, PV.top, PV.bool false, PV.str s,
                                    PV.int IntKind.i64 i, PV.int IntKind.u8 (sAt s i), PV.bool (iNe (sAt s i) 92), PV.top, PV.top, PV.top, PV.top, PV.top, PV.top, PV.top, PV.top, PV.bool false,
                                    PV.int IntKind.i64 i, PV.int IntKind.i64 (iAdd IntKind.i64 i 1), PV.str s, PV.int IntKind.i64 (sLen s), PV.bool (iLe (sLen s) (iAdd IntKind.i64 i 1)), PV.bool false,
                                    PV.str s, PV.int IntKind.i64 i, PV.int IntKind.i64 (iAdd IntKind.i64 i 1), PV.int IntKind.u8 (sAt s (iAdd IntKind.i64 i 1)),
                                    PV.bool (iEq (sAt s (iAdd IntKind.i64 i 1)) 110), PV.top, PV.top, PV.top, PV.top, PV.top, PV.bool true, PV.str s, PV.int IntKind.i64 i,
                                    PV.int IntKind.i64 (iAdd IntKind.i64 i 1), PV.int IntKind.u8 (sAt s (iAdd IntKind.i64 i 1)), PV.bool (iEq (sAt s (iAdd IntKind.i64 i 1)) 116), PV.sl [] Tag.full,
                                    PV.sl [[PV.int IntKind.u8 9]] Tag.full, PV.sl (xApp [] [[PV.int IntKind.u8 9]]) (Tag.tok 0), PV.int IntKind.i64 i, PV.int IntKind.i64 (iAdd IntKind.i64 i 2), PV.top,
                                    PV.top, PV.top, PV.top, PV.top, PV.top, PV.top, PV.top, PV.top, PV.top, PV.top, PV.top, PV.top, PV.top, PV.top, PV.top, PV.top, PV.top, PV.top, PV.top, PV.top, PV.top,
                                    PV.top, PV.top, PV.top, PV.top, PV.top, PV.top, PV.top, PV.top, PV.top, PV.top, PV.top, PV.top, PV.top, PV.top, PV.top, PV.top, PV.top, PV.top, PV.top, PV.top, PV.top,
                                    PV.top, PV.top, PV.top, PV.top, PV.top, PV.top, PV.top, PV.top, PV.top, PV.top, PV.top],
                                  Store.mk [] [(nXs (xApp [] [[PV.int IntKind.u8 9]]), 1, 5)] []))
                              Tr.fail)
                            Tr.fail)
                          Tr.fail)
                        (Tr.ite (qap s (iAdd IntKind.i64 i 1))
                          (Tr.ite (iEq (sAt s (iAdd IntKind.i64 i 1)) 120)
                            (Tr.ite (iLt (iAdd IntKind.i64 i 3) (sLen s))
                              (Tr.ite (qap s (iAdd IntKind.i64 i 2))
                                (Tr.ite (iLe 0 (qaS (sAt s (iAdd IntKind.i64 i 2))))
                                  (Tr.ite (qap s (iAdd IntKind.i64 i 3))
                                    (Tr.ite (iLe 0 (qaS (sAt s (iAdd IntKind.i64 i 3))))
                                      (Tr.ite (qap s (iAdd IntKind.i64 i 2))
                                        (Tr.ite (qap s (iAdd IntKind.i64 i 3))
                                          (Tr.ite
                                            (qaF []
                                              [[PV.int IntKind.u8
                                                    (qaC IntKind.u8 (iAdd IntKind.i64 (iMul IntKind.i64 (qaS (sAt s (iAdd IntKind.i64 i 2))) 16) (qaS (sAt s (iAdd IntKind.i64 i 3)))))]]
                                              1)
                                            (Tr.ite
                                              (qaB
                                                [[PV.int IntKind.u8
                                                      (qaC IntKind.u8 (iAdd IntKind.i64 (iMul IntKind.i64 (qaS (sAt s (iAdd IntKind.i64 i 2))) 16) (qaS (sAt s (iAdd IntKind.i64 i 3)))))]]
                                                1)
                                              (Tr.ite (qav [] 1)
                                                (Tr.ret
                                                  (PExit.normal, [117, 74, 95, 87, 80, 63, 52, 46, 33, 23, 18],
                                                    [PV.str s, PV.top, PV.top, PV.top,
                                                      PV.sl
                                                        (xApp []
                                                          [[PV.int IntKind.u8
                                                                (qaC IntKind.u8 (iAdd IntKind.i64 (iMul IntKind.i64 (qaS (sAt s (iAdd IntKind.i64 i 2))) 16) (qaS (sAt s (iAdd IntKind.i64 i 3)))))]])
                                                        (Tag.tok 0),
                                                      PV.int IntKind.i64 (iAdd IntKind.i64 i 4), PV.top, PV.top, PV.top, PV.top, PV.top, PV.top, PV.top, PV.top, PV.int IntKind.i64 i, PV.str s,
                                                      PV.int IntKind.i64 (sLen s), PV.bool (iLt i (sLen s)), PV.bool true, PV.str s, PV.int IntKind.i64 i, PV.int IntKind.u8 (sAt s i),
                                                      PV.bool (iNe (sAt s i) 34), PV.bool true, PV.top, PV.top, PV.top, PV.top, PV.top, PV.top, PV.top, PV.top, PV.top, PV.bool false, PV.str s,
                                                      PV.int IntKind.i64 i, PV.int IntKind.u8 (sAt s i), PV.bool (iNe (sAt s i) 92), PV.top, PV.top, PV.top, PV.top, PV.top, PV.top, PV.top, PV.top,
                                                      PV.bool false, PV.int IntKind.i64 i, PV.int IntKind.i64 (iAdd IntKind.i64 i 1), PV.str s, PV.int IntKind.i64 (sLen s),
                                                      PV.bool (iLe (sLen s) (iAdd IntKind.i64 i 1)), PV.bool false, PV.str s, PV.int IntKind.i64 i, PV.int IntKind.i64 (iAdd IntKind.i64 i 1),
                                                      PV.int IntKind.u8 (sAt s (iAdd IntKind.i64 i 1)), PV.bool (iEq (sAt s (iAdd IntKind.i64 i 1)) 110), PV.top, PV.top, PV.top, PV.top, PV.top,
                                                      PV.bool false, PV.str s, PV.int IntKind.i64 i, PV.int IntKind.i64 (iAdd IntKind.i64 i 1), PV.int IntKind.u8 (sAt s (iAdd IntKind.i64 i 1)),
                                                      PV.bool (iEq (sAt s (iAdd IntKind.i64 i 1)) 116), PV.top, PV.top, PV.top, PV.top, PV.top, PV.bool true, PV.str s, PV.int IntKind.i64 i,
                                                      PV.int IntKind.i64 (iAdd IntKind.i64 i 1), PV.int IntKind.u8 (sAt s (iAdd IntKind.i64 i 1)), PV.bool (iEq (sAt s (iAdd IntKind.i64 i 1)) 120),
                                                      PV.bool true, PV.int IntKind.i64 i, PV.int IntKind.i64 (iAdd IntKind.i64 i 3), PV.str s, PV.int IntKind.i64 (sLen s),
                                                      PV.bool (iLt (iAdd IntKind.i64 i 3) (sLen s)), PV.bool (iLt (iAdd IntKind.i64 i 3) (sLen s)), PV.bool true, PV.str s, PV.int IntKind.i64 i,
                                                      PV.int IntKind.i64 (iAdd IntKind.i64 i 2), PV.int IntKind.u8 (sAt s (iAdd IntKind.i64 i 2)),
                                                      PV.int IntKind.i64 (qaS (sAt s (iAdd IntKind.i64 i 2))), PV.bool (iLe 0 (qaS (sAt s (iAdd IntKind.i64 i 2)))),
                                                      PV.bool (iLe 0 (qaS (sAt s (iAdd IntKind.i64 i 2)))), PV.bool true, PV.str s, PV.int IntKind.i64 i, PV.int IntKind.i64 (iAdd IntKind.i64 i 3),
                                                      PV.int IntKind.u8 (sAt s (iAdd IntKind.i64 i 3)), PV.int IntKind.i64 (qaS (sAt s (iAdd IntKind.i64 i 3))),
                                                      PV.bool (iLe 0 (qaS (sAt s (iAdd IntKind.i64 i 3)))), PV.bool (iLe 0 (qaS (sAt s (iAdd IntKind.i64 i 3)))), PV.sl [] Tag.full, PV.str s,
                                                      PV.int IntKind.i64 i, PV.int IntKind.i64 (iAdd IntKind.i64 i 2), PV.int IntKind.u8 (sAt s (iAdd IntKind.i64 i 2)),
                                                      PV.int IntKind.i64 (qaS (sAt s (iAdd IntKind.i64 i 2))), PV.int IntKind.i64 (iMul IntKind.i64 (qaS (sAt s (iAdd IntKind.i64 i 2))) 16), PV.str s,
                                                      PV.int IntKind.i64 i, PV.int IntKind.i64 (iAdd IntKind.i64 i 3), PV.int IntKind.u8 (sAt s (iAdd IntKind.i64 i 3)),
                                                      PV.int IntKind.i64 (qaS (sAt s (iAdd IntKind.i64 i 3))),
                                                      PV.int IntKind.i64 (iAdd IntKind.i64 (iMul IntKind.i64 (qaS (sAt s (iAdd IntKind.i64 i 2))) 16) (qaS (sAt s (iAdd IntKind.i64 i 3)))),
                                                      PV.int IntKind.u8
                                                        (qaC IntKind.u8 (iAdd IntKind.i64 (iMul IntKind.i64 (qaS (sAt s (iAdd IntKind.i64 i 2))) 16) (qaS (sAt s (iAdd IntKind.i64 i 3))))),
                                                      PV.sl
                                                        [[PV.int IntKind.u8
                                                              (qaC IntKind.u8 (iAdd IntKind.i64 (iMul IntKind.i64 (qaS (sAt s (iAdd IntKind.i64 i 2))) 16) (qaS (sAt s (iAdd IntKind.i64 i 3)))))]]
                                                        Tag.full,
                                                      PV.sl
                                                        (xApp []
                                                          [[PV.int IntKind.u8
                                                                (qaC IntKind.u8 (iAdd IntKind.i64 (iMul IntKind.i64 (qaS (sAt s (iAdd IntKind.i64 i 2))) 16) (qaS (sAt s (iAdd IntKind.i64 i 3)))))]])
                                                        (Tag.tok 0),
                                                      PV.int IntKind.i64 i, PV.int IntKind.i64 (iAdd IntKind.i64 i 4), PV.top, PV.top, PV.top, PV.top, PV.top, PV.top, PV.top],
                                                    Store.mk []
                                                      [(nXs
                                                            (xApp []
                                                              [[PV.int IntKind.u8
                                                                    (qaC IntKind.u8
                                                                      (iAdd IntKind.i64 (iMul IntKind.i64 (qaS (sAt s (iAdd IntKind.i64 i 2))) 16) (qaS (sAt s (iAdd IntKind.i64 i 3)))))]]),
                                                          1, 5)]
                                                      []))
                                                Tr.fail)
                                              Tr.fail)
                                            Tr.fail)
                                          Tr.fail)
                                        Tr.fail)
                                      (Tr.ite (qap s (iAdd IntKind.i64 i 1))
                                        (Tr.ite (qaF [] [[PV.int IntKind.u8 (sAt s (iAdd IntKind.i64 i 1))]] 1)
                                          (Tr.ite (qaB [[PV.int IntKind.u8 (sAt s (iAdd IntKind.i64 i 1))]] 1)
                                            (Tr.ite (qav [] 1)
                                              (Tr.ret
                                                (PExit.normal, [29, 74, 95, 87, 80, 63, 52, 46, 33, 23, 18],
                                                  [PV.str s, PV.top, PV.top, PV.top, PV.sl (xApp [] [[PV.int IntKind.u8 (sAt s (iAdd IntKind.i64 i 1))]]) (Tag.tok 0),
                                                    PV.int IntKind.i64 (iAdd IntKind.i64 i 2), PV.top, PV.top, PV.top, PV.top, PV.top, PV.top, PV.top, PV.top, PV.int IntKind.i64 i, PV.str s,
                                                    PV.int IntKind.i64 (sLen s), PV.bool (iLt i (sLen s)), PV.bool true, PV.str s, PV.int IntKind.i64 i, PV.int IntKind.u8 (sAt s i),
                                                    PV.bool (iNe (sAt s i) 34), PV.bool true, PV.sl [] Tag.full, PV.str s, PV.int IntKind.i64 i, PV.int IntKind.i64 (iAdd IntKind.i64 i 1),
                                                    PV.int IntKind.u8 (sAt s (iAdd IntKind.i64 i 1)), PV.sl [[PV.int IntKind.u8 (sAt s (iAdd IntKind.i64 i 1))]] Tag.full,
                                                    PV.sl (xApp [] [[PV.int IntKind.u8 (sAt s (iAdd IntKind.i64 i 1))]]) (Tag.tok 0), PV.int IntKind.i64 i, PV.int IntKind.i64 (iAdd IntKind.i64 i 2),
                                                    PV.bool false, PV.str s, PV.int IntKind.i64 i, PV.int IntKind.u8 (sAt s i), PV.bool (iNe (sAt s i) 92), PV.top, PV.top, PV.top, PV.top, PV.top, PV.top,
                                                    PV.top, PV.top, PV.bool false, PV.int IntKind.i64 i, PV.int IntKind.i64 (iAdd IntKind.i64 i 1), PV.str s, PV.int IntKind.i64 (sLen s),
                                                    PV.bool (iLe (sLen s) (iAdd IntKind.i64 i 1)), PV.bool false, PV.str s, PV.int IntKind.i64 i, PV.int IntKind.i64 (iAdd IntKind.i64 i 1),
                                                    PV.int IntKind.u8 (sAt s (iAdd IntKind.i64 i 1)), PV.bool (iEq (sAt s (iAdd IntKind.i64 i 1)) 110), PV.top, PV.top, PV.top, PV.top, PV.top,
                                                    PV.bool false, PV.str s, PV.int IntKind.i64 i, PV.int IntKind.i64 (iAdd IntKind.i64 i 1), PV.int IntKind.u8 (sAt s (iAdd IntKind.i64 i 1)),
                                                    PV.bool (iEq (sAt s (iAdd IntKind.i64 i 1)) 116), PV.top, PV.top, PV.top, PV.top, PV.top, PV.bool false, PV.str s, PV.int IntKind.i64 i,
                                                    PV.int IntKind.i64 (iAdd IntKind.i64 i 1), PV.int IntKind.u8 (sAt s (iAdd IntKind.i64 i 1)), PV.bool (iEq (sAt s (iAdd IntKind.i64 i 1)) 120),
                                                    PV.bool true, PV.int IntKind.i64 i, PV.int IntKind.i64 (iAdd IntKind.i64 i 3), PV.str s, PV.int IntKind.i64 (sLen s),
                                                    PV.bool (iLt (iAdd IntKind.i64 i 3) (sLen s)), PV.bool (iLt (iAdd IntKind.i64 i 3) (sLen s)), PV.bool true, PV.str s, PV.int IntKind.i64 i,
                                                    PV.int IntKind.i64 (iAdd IntKind.i64 i 2), PV.int IntKind.u8 (sAt s (iAdd IntKind.i64 i 2)), PV.int IntKind.i64 (qaS (sAt s (iAdd IntKind.i64 i 2))),
                                                    PV.bool (iLe 0 (qaS (sAt s (iAdd IntKind.i64 i 2)))), PV.bool (iLe 0 (qaS (sAt s (iAdd IntKind.i64 i 2)))), PV.bool true, PV.str s,
                                                    PV.int IntKind.i64 i, PV.int IntKind.i64 (iAdd IntKind.i64 i 3), PV.int IntKind.u8 (sAt s (iAdd IntKind.i64 i 3)),
                                                    PV.int IntKind.i64 (qaS (sAt s (iAdd IntKind.i64 i 3))), PV.bool (iLe 0 (qaS (sAt s (iAdd IntKind.i64 i 3)))),
                                                    PV.bool (iLe 0 (qaS (sAt s (iAdd IntKind.i64 i 3)))), PV.top, PV.top, PV.top, PV.top, PV.top, PV.top, PV.top, PV.top, PV.top, PV.top, PV.top, PV.top,
                                                    PV.top, PV.top, PV.top, PV.top, PV.top, PV.top, PV.top, PV.top, PV.top, PV.top, PV.top, PV.top, PV.top],
                                                  Store.mk [] [(nXs (xApp [] [[PV.int IntKind.u8 (sAt s (iAdd IntKind.i64 i 1))]]), 1, 5)] []))
                                              Tr.fail)
                                            Tr.fail)
                                          Tr.fail)
                                        Tr.fail))
                                    Tr.fail)
                                  (Tr.ite (qap s (iAdd IntKind.i64 i 1))
                                    (Tr.ite (qaF [] [[PV.int IntKind.u8 (sAt s (iAdd IntKind.i64 i 1))]] 1)
                                      (Tr.ite (qaB [[PV.int IntKind.u8 (sAt s (iAdd IntKind.i64 i 1))]] 1)
                                        (Tr.ite (qav [] 1)
                                          (Tr.ret
                                            (PExit.normal, [29, 74, 102, 95, 87, 80, 63, 52, 46, 33, 23, 18],
                                              [PV.str s, PV.top, PV.top, PV.top, PV.sl (xApp [] [[PV.int IntKind.u8 (sAt s (iAdd IntKind.i64 i 1))]]) (Tag.tok 0),
                                                PV.int IntKind.i64 (iAdd IntKind.i64 i 2), PV.top, PV.top, PV.top, PV.top, PV.top, PV.top, PV.top, PV.top, PV.int IntKind.i64 i, PV.str s,
                                                PV.int IntKind.i64 (sLen s), PV.bool (iLt i (sLen s)), PV.bool true, PV.str s, PV.int IntKind.i64 i, PV.int IntKind.u8 (sAt s i),
                                                PV.bool (iNe (sAt s i) 34), PV.bool true, PV.sl [] Tag.full, PV.str s, PV.int IntKind.i64 i, PV.int IntKind.i64 (iAdd IntKind.i64 i 1),
                                                PV.int IntKind.u8 (sAt s (iAdd IntKind.i64 i 1)), PV.sl [[PV.int IntKind.u8 (sAt s (iAdd IntKind.i64 i 1))]] Tag.full,
                                                PV.sl (xApp [] [[PV.int IntKind.u8 (sAt s (iAdd IntKind.i64 i 1))]]) (Tag.tok 0), PV.int IntKind.i64 i, PV.int IntKind.i64 (iAdd IntKind.i64 i 2),
                                                PV.bool false, PV.str s, PV.int IntKind.i64 i, PV.int IntKind.u8 (sAt s i), PV.bool (iNe (sAt s i) 92), PV.top, PV.top, PV.top, PV.top, PV.top, PV.top,
                                                PV.top, PV.top, PV.bool false, PV.int IntKind.i64 i, PV.int IntKind.i64 (iAdd IntKind.i64 i 1), PV.str s, PV.int IntKind.i64 (sLen s),
                                                PV.bool (iLe (sLen s) (iAdd IntKind.i64 i 1)), PV.bool false, PV.str s, PV.int IntKind.i64 i, PV.int IntKind.i64 (iAdd IntKind.i64 i 1),
                                                PV.int IntKind.u8 (sAt s (iAdd IntKind.i64 i 1)), PV.bool (iEq (sAt s (iAdd IntKind.i64 i 1)) 110), PV.top, PV.top, PV.top, PV.top, PV.top, PV.bool false,
                                                PV.str s, PV.int IntKind.i64 i, PV.int IntKind.i64 (iAdd IntKind.i64 i 1), PV.int IntKind.u8 (sAt s (iAdd IntKind.i64 i 1)),
                                                PV.bool (iEq (sAt s (iAdd IntKind.i64 i 1)) 116), PV.top, PV.top, PV.top, PV.top, PV.top, PV.bool false, PV.str s, PV.int IntKind.i64 i,
                                                PV.int IntKind.i64 (iAdd IntKind.i64 i 1), PV.int IntKind.u8 (sAt s (iAdd IntKind.i64 i 1)), PV.bool (iEq (sAt s (iAdd IntKind.i64 i 1)) 120), PV.bool true,
                                                PV.int IntKind.i64 i, PV.int IntKind.i64 (iAdd IntKind.i64 i 3), PV.str s, PV.int IntKind.i64 (sLen s), PV.bool (iLt (iAdd IntKind.i64 i 3) (sLen s)),
                                                PV.bool (iLt (iAdd IntKind.i64 i 3) (sLen s)), PV.bool true, PV.str s, PV.int IntKind.i64 i, PV.int IntKind.i64 (iAdd IntKind.i64 i 2),
                                                PV.int IntKind.u8 (sAt s (iAdd IntKind.i64 i 2)), PV.int IntKind.i64 (qaS (sAt s (iAdd IntKind.i64 i 2))),
                                                PV.bool (iLe 0 (qaS (sAt s (iAdd IntKind.i64 i 2)))), PV.bool (iLe 0 (qaS (sAt s (iAdd IntKind.i64 i 2)))), PV.bool false, PV.tup [], PV.tup [],
                                                PV.tup [], PV.tup [], PV.tup [], PV.tup [], PV.bool false, PV.top, PV.top, PV.top, PV.top, PV.top, PV.top, PV.top, PV.top, PV.top, PV.top, PV.top, PV.top,
                                                PV.top, PV.top, PV.top, PV.top, PV.top, PV.top, PV.top, PV.top, PV.top, PV.top, PV.top, PV.top, PV.top],
                                              Store.mk [] [(nXs (xApp [] [[PV.int IntKind.u8 (sAt s (iAdd IntKind.i64 i 1))]]), 1, 5)] []))
                                          Tr.fail)
                                        Tr.fail)
                                      Tr.fail)
                                    Tr.fail))
                                Tr.fail)
                              (Tr.ite (qap s (iAdd IntKind.i64 i 1))
                                (Tr.ite (qaF [] [[PV.int IntKind.u8 (sAt s (iAdd IntKind.i64 i 1))]] 1)
                                  (Tr.ite (qaB [[PV.int IntKind.u8 (sAt s (iAdd IntKind.i64 i 1))]] 1)
                                    (Tr.ite (qav [] 1)
                                      (Tr.ret
                                        (PExit.normal, [29, 74, 102, 95, 94, 87, 80, 63, 52, 46, 33, 23, 18],
                                          [PV.str s, PV.top, PV.top, PV.top, PV.sl (xApp [] [[PV.int IntKind.u8 (sAt s (iAdd IntKind.i64 i 1))]]) (Tag.tok 0), PV.int IntKind.i64 (iAdd IntKind.i64 i 2),
                                            PV.top, PV.top, PV.top, PV.top, PV.top, PV.top, PV.top, PV.top, PV.int IntKind.i64 i, PV.str s, PV.int IntKind.i64 (sLen s), PV.bool (iLt i (sLen s)),
                                            PV.bool true, PV.str s, PV.int IntKind.i64 i, PV.int IntKind.u8 (sAt s i), PV.bool (iNe (sAt s i) 34), PV.bool true, PV.sl [] Tag.full, PV.str s,
                                            PV.int IntKind.i64 i, PV.int IntKind.i64 (iAdd IntKind.i64 i 1), PV.int IntKind.u8 (sAt s (iAdd IntKind.i64 i 1)),
                                            PV.sl [[PV.int IntKind.u8 (sAt s (iAdd IntKind.i64 i 1))]] Tag.full, PV.sl (xApp [] [[PV.int IntKind.u8 (sAt s (iAdd IntKind.i64 i 1))]]) (Tag.tok 0),
                                            PV.int IntKind.i64 i, PV.int IntKind.i64 (iAdd IntKind.i64 i 2), PV.bool false, PV.str s, PV.int IntKind.i64 i, PV.int IntKind.u8 (sAt s i),
                                            PV.bool (iNe (sAt s i) 92), PV.top, PV.top, PV.top, PV.top, PV.top, PV.top, PV.top, PV.top, PV.bool false, PV.int IntKind.i64 i,
                                            PV.int IntKind.i64 (iAdd IntKind.i64 i 1), PV.str s, PV.int IntKind.i64 (sLen s), PV.bool (iLe (sLen s) (iAdd IntKind.i64 i 1)), PV.bool false, PV.str s,
                                            PV.int IntKind.i64 i, PV.int IntKind.i64 (iAdd IntKind.i64 i 1), PV.int IntKind.u8 (sAt s (iAdd IntKind.i64 i 1)),
                                            PV.bool (iEq (sAt s (iAdd IntKind.i64 i 1)) 110), PV.top, PV.top, PV.top, PV.top, PV.top, PV.bool false, PV.str s, PV.int IntKind.i64 i,
                                            PV.int IntKind.i64 (iAdd IntKind.i64 i 1), PV.int IntKind.u8 (sAt s (iAdd IntKind.i64 i 1)), PV.bool (iEq (sAt s (iAdd IntKind.i64 i 1)) 116), PV.top, PV.top,
                                            PV.top, PV.top, PV.top, PV.bool false, PV.str s, PV.int IntKind.i64 i, PV.int IntKind.i64 (iAdd IntKind.i64 i 1),
                                            PV.int IntKind.u8 (sAt s (iAdd IntKind.i64 i 1)), PV.bool (iEq (sAt s (iAdd IntKind.i64 i 1)) 120), PV.bool true, PV.int IntKind.i64 i,
                                            PV.int IntKind.i64 (iAdd IntKind.i64 i 3), PV.str s, PV.int IntKind.i64 (sLen s), PV.bool (iLt (iAdd IntKind.i64 i 3) (sLen s)),
                                            PV.bool (iLt (iAdd IntKind.i64 i 3) (sLen s)), PV.bool false, PV.tup [], PV.tup [], PV.tup [], PV.tup [], PV.tup [], PV.tup [], PV.bool false, PV.bool false,
                                            PV.tup [], PV.tup [], PV.tup [], PV.tup [], PV.tup [], PV.tup [], PV.bool false, PV.top, PV.top, PV.top, PV.top, PV.top, PV.top, PV.top, PV.top, PV.top, PV.top,
                                            PV.top, PV.top, PV.top, PV.top, PV.top, PV.top, PV.top, PV.top, PV.top, PV.top, PV.top, PV.top, PV.top, PV.top, PV.top],
                                          Store.mk [] [(nXs (xApp [] [[PV.int IntKind.u8 (sAt s (iAdd IntKind.i64 i 1))]]), 1, 5)] []))
                                      Tr.fail)
                                    Tr.fail)
                                  Tr.fail)
                                Tr.fail))
                            (Tr.ite (qap s (iAdd IntKind.i64 i 1))
                              (Tr.ite (qaF [] [[PV.int IntKind.u8 (sAt s (iAdd IntKind.i64 i 1))]] 1)
                                (Tr.ite (qaB [[PV.int IntKind.u8 (sAt s (iAdd IntKind.i64 i 1))]] 1)
                                  (Tr.ite (qav [] 1)
                                    (Tr.ret
                                      (PExit.normal, [29, 74, 102, 95, 94, 87, 86, 80, 63, 52, 46, 33, 23, 18],
                                        [PV.str s, PV.top, PV.top, PV.top, PV.sl (xApp [] [[PV.int IntKind.u8 (sAt s (iAdd IntKind.i64 i 1))]]) (Tag.tok 0), PV.int IntKind.i64 (iAdd IntKind.i64 i 2),
                                          PV.top, PV.top, PV.top, PV.top, PV.top, PV.top, PV.top, PV.top, PV.int IntKind.i64 i, PV.str s, PV.int IntKind.i64 (sLen s), PV.bool (iLt i (sLen s)),
                                          PV.bool true, PV.str s, PV.int IntKind.i64 i, PV.int IntKind.u8 (sAt s i), PV.bool (iNe (sAt s i) 34), PV.bool true, PV.sl [] Tag.full, PV.str s,
                                          PV.int IntKind.i64 i, PV.int IntKind.i64 (iAdd IntKind.i64 i 1), PV.int IntKind.u8 (sAt s (iAdd IntKind.i64 i 1)),
                                          PV.sl [[PV.int IntKind.u8 (sAt s (iAdd IntKind.i64 i 1))]] Tag.full, PV.sl (xApp [] [[PV.int IntKind.u8 (sAt s (iAdd IntKind.i64 i 1))]]) (Tag.tok 0),
                                          PV.int IntKind.i64 i, PV.int IntKind.i64 (iAdd IntKind.i64 i 2), PV.bool false, PV.str s, PV.int IntKind.i64 i, PV.int IntKind.u8 (sAt s i),
                                          PV.bool (iNe (sAt s i) 92), PV.top, PV.top, PV.top, PV.top, PV.top, PV.top, PV.top, PV.top, PV.bool false, PV.int IntKind.i64 i,
                                          PV.int IntKind.i64 (iAdd IntKind.i64 i 1), PV.str s, PV.int IntKind.i64 (sLen s), PV.bool (iLe (sLen s) (iAdd IntKind.i64 i 1)), PV.bool false, PV.str s,
                                          PV.int IntKind.i64 i, PV.int IntKind.i64 (iAdd IntKind.i64 i 1), PV.int IntKind.u8 (sAt s (iAdd IntKind.i64 i 1)),
                                          PV.bool (iEq (sAt s (iAdd IntKind.i64 i 1)) 110), PV.top, PV.top, PV.top, PV.top, PV.top, PV.bool false, PV.str s, PV.int IntKind.i64 i,
                                          PV.int IntKind.i64 (iAdd IntKind.i64 i 1), PV.int IntKind.u8 (sAt s (iAdd IntKind.i64 i 1)), PV.bool (iEq (sAt s (iAdd IntKind.i64 i 1)) 116), PV.top, PV.top,
                                          PV.top, PV.top, PV.top, PV.bool false, PV.str s, PV.int IntKind.i64 i, PV.int IntKind.i64 (iAdd IntKind.i64 i 1),
                                          PV.int IntKind.u8 (sAt s (iAdd IntKind.i64 i 1)), PV.bool (iEq (sAt s (iAdd IntKind.i64 i 1)) 120), PV.bool false, PV.tup [], PV.tup [], PV.tup [], PV.tup [],
                                          PV.tup [], PV.bool false, PV.bool false, PV.tup [], PV.tup [], PV.tup [], PV.tup [], PV.tup [], PV.tup [], PV.bool false, PV.bool false, PV.tup [], PV.tup [],
                                          PV.tup [], PV.tup [], PV.tup [], PV.tup [], PV.bool false, PV.top, PV.top, PV.top, PV.top, PV.top, PV.top, PV.top, PV.top, PV.top, PV.top, PV.top, PV.top, PV.top,
                                          PV.top, PV.top, PV.top, PV.top, PV.top, PV.top, PV.top, PV.top, PV.top, PV.top, PV.top, PV.top],
                                        Store.mk [] [(nXs (xApp [] [[PV.int IntKind.u8 (sAt s (iAdd IntKind.i64 i 1))]]), 1, 5)] []))
                                    Tr.fail)
                                  Tr.fail)
                                Tr.fail)
                              Tr.fail))
                          Tr.fail))
                      Tr.fail))
                  Tr.fail)))
            Tr.fail)
          (Tr.ret
            (PExit.exit 0, [23, 18],
              [PV.str s, PV.top, PV.top, PV.top, PV.sl [] Tag.full, PV.int IntKind.i64 i, PV.top, PV.top, PV.top, PV.top, PV.top, PV.top, PV.top, PV.top, PV.int IntKind.i64 i, PV.str s,
                PV.int IntKind.i64 (sLen s), PV.bool (iLt i (sLen s)), PV.bool true, PV.str s, PV.int IntKind.i64 i, PV.int IntKind.u8 (sAt s i), PV.bool (iNe (sAt s i) 34), PV.bool false, PV.top, PV.top,
                PV.top, PV.top, PV.top, PV.top, PV.top, PV.top, PV.top, PV.top, PV.top, PV.top, PV.top, PV.top, PV.top, PV.top, PV.top, PV.top, PV.top, PV.top, PV.top, PV.top, PV.top, PV.top, PV.top,
                PV.top, PV.top, PV.top, PV.top, PV.top, PV.top, PV.top, PV.top, PV.top, PV.top, PV.top, PV.top, PV.top, PV.top, PV.top, PV.top, PV.top, PV.top, PV.top, PV.top, PV.top, PV.top, PV.top,
                PV.top, PV.top, PV.top, PV.top, PV.top, PV.top, PV.top, PV.top, PV.top, PV.top, PV.top, PV.top, PV.top, PV.top, PV.top, PV.top, PV.top, PV.top, PV.top, PV.top, PV.top, PV.top, PV.top,
                PV.top, PV.top, PV.top, PV.top, PV.top, PV.top, PV.top, PV.top, PV.top, PV.top, PV.top, PV.top, PV.top, PV.top, PV.top, PV.top, PV.top, PV.top, PV.top, PV.top, PV.top, PV.top, PV.top,
                PV.top, PV.top, PV.top, PV.top, PV.top, PV.top, PV.top, PV.top, PV.top, PV.top],
              Store.mk [] [] [])))
        Tr.fail)
      (Tr.ret
        (PExit.exit 0, [23, 18],
          [PV.str s, PV.top, PV.top, PV.top, PV.sl [] Tag.full, PV.int IntKind.i64 i, PV.top, PV.top, PV.top, PV.top, PV.top, PV.top, PV.top, PV.top, PV.int IntKind.i64 i, PV.str s,
            PV.int IntKind.i64 (sLen s), PV.bool (iLt i (sLen s)), PV.bool false, PV.tup [], PV.tup [], PV.tup [], PV.tup [], PV.bool false, PV.top, PV.top, PV.top, PV.top, PV.top, PV.top, PV.top, PV.top,
            PV.top, PV.top, PV.top, PV.top, PV.top, PV.top, PV.top, PV.top, PV.top, PV.top, PV.top, PV.top, PV.top, PV.top, PV.top, PV.top, PV.top, PV.top, PV.top, PV.top, PV.top, PV.top, PV.top, PV.top,
            PV.top, PV.top, PV.top, PV.top, PV.top, PV.top, PV.top, PV.top, PV.top, PV.top, PV.top, PV.top, PV.top, PV.top, PV.top, PV.top, PV.top, PV.top, PV.top, PV.top, PV.top, PV.top, PV.top, PV.top,
            PV.top, PV.top, PV.top, PV.top, PV.top, PV.top, PV.top, PV.top, PV.top, PV.top, PV.top, PV.top, PV.top, PV.top, PV.top, PV.top, PV.top, PV.top, PV.top, PV.top, PV.top, PV.top, PV.top, PV.top,
            PV.top, PV.top, PV.top, PV.top, PV.top, PV.top, PV.top, PV.top, PV.top, PV.top, PV.top, PV.top, PV.top, PV.top, PV.top, PV.top, PV.top, PV.top, PV.top, PV.top, PV.top, PV.top, PV.top, PV.top],
          Store.mk [] [] []))) (by kernel_rfl) ?_
  cases r with
  | nil =>
    have hl := congrArg List.length hr
    simp at hl
    obtain ⟨rfl, rfl, rfl⟩ := hstop rfl
    exact Tr.all_f (by simp; omega) ⟨rfl, by simp [Weak, mk, qbj, look], rfl⟩
  | cons c t =>
    obtain ⟨hv, hd1, hl1⟩ := qfB hr
    have hb1 : True := trivial
    have a0 : sAt s i = c.toNat := qdd hv
    have k0 : qap s i = true := qcd (by omega) hv
    have n1 : (i + 1).toNat = i.toNat + 1 := by omega
    have n2 : (i + 2).toNat = i.toNat + 1 + 1 := by omega
    have n3 : (i + 3).toNat = i.toNat + 1 + 1 + 1 := by omega
    have w1 : iAdd .i64 i 1 = i + 1 := qa2 (by omega)
    have w2 : iAdd .i64 i 2 = i + 2 := qa2 (by omega)
    have w3 : iAdd .i64 i 3 = i + 3 := qa2 (by omega)
    have w4 : iAdd .i64 i 4 = i + 4 := qa2 (by omega)
    simp only [a0, w1, w2, w3, w4]
    refine Tr.all_t (by simp; omega) <| Tr.all_t k0 ?_
    by_cases c34 : c = 34
    · obtain ⟨rfl, rfl, rfl⟩ := hstop (by simp [rS, c34])
      exact Tr.all_f (qe0 (k := 34) c34) ⟨rfl, by simp [Weak, mk, qbj, look], rfl⟩
    · refine Tr.all_t (qeK (k := 34) c34) <| Tr.all_t k0 ?_
      by_cases c92 : c = 92
      · refine Tr.all_f (qe0 (k := 92) c92) ?_
        cases t with
        | nil =>
          obtain ⟨rfl, rfl, rfl⟩ := hbad (by simp [rS, c92])
          exact Tr.all_t (by simp at hl1 ⊢; omega) ⟨rfl, by simp [Weak, mk, qbj, look], rfl⟩
        | cons e' u =>
          obtain ⟨hv1, hd2, hl2⟩ := qfB hd1
          have a1 : sAt s (i + 1) = e'.toNat := qdd (by rw [n1]; exact hv1)
          have k1 : qap s (i + 1) = true := qcd (by omega) (by rw [n1]; exact hv1)
          simp only [a1]
          refine Tr.all_f (by simp; omega) <| Tr.all_t k1 ?_
          by_cases e110 : e' = 110
          · refine Tr.all_t (qc9 (k := 110) e110) ?_
            refine Tr.all_t (by simp) <| Tr.all_t (by simp [one]) <| Tr.all_t (by simp) ?_
            simp only [qdz 10 (n := 10) rfl, qbc]
            refine LDoes.into ?_ (hone 10 2 (by simp [rS, c92, e110]))
            simp [Weak, mk, qbj, look]
          · refine Tr.all_f (qch (k := 110) e110) <| Tr.all_t k1 ?_
            by_cases e116 : e' = 116
            · refine Tr.all_t (qc9 (k := 116) e116) ?_
              refine Tr.all_t (by simp) <| Tr.all_t (by simp [one]) <| Tr.all_t (by simp) ?_
              simp only [qdz 9 (n := 9) rfl, qbc]
              refine LDoes.into ?_ (hone 9 2 (by simp [rS, c92, e110, e116]))
              simp [Weak, mk, qbj, look]
            · refine Tr.all_f (qch (k := 116) e116) <| Tr.all_t k1 ?_
              by_cases e120 : e' = 120
              · refine Tr.all_t (qc9 (k := 120) e120) ?_
                cases u with
                | nil =>
                  refine Tr.all_f (by simp at hl2 ⊢; omega) <| Tr.all_t k1 ?_
                  refine Tr.all_t (by simp) <| Tr.all_t (by simp [one]) <| Tr.all_t (by simp) ?_
                  simp only [qdz e' rfl, qbc]
                  refine LDoes.into ?_ (hone e' 2 (by simp [rS, c92, e110, e116, e120, qkd]))
                  simp [Weak, mk, qbj, look]
                | cons h1 u =>
                  obtain ⟨hv2, hd3, hl3⟩ := qfB hd2
                  cases u with
                  | nil =>
                    refine Tr.all_f (by simp at hl3 ⊢; omega) <| Tr.all_t k1 ?_
                    refine Tr.all_t (by simp) <| Tr.all_t (by simp [one]) <| Tr.all_t (by simp) ?_
                    simp only [qdz e' rfl, qbc]
                    refine LDoes.into ?_ (hone e' 2 (by simp [rS, c92, e110, e116, e120, qkd]))
                    simp [Weak, mk, qbj, look]
                  | cons h2 u =>
                    obtain ⟨hv3, hd4, hl4⟩ := qfB hd3
                    have a2 : sAt s (i + 2) = h1.toNat := qdd (by rw [n2]; exact hv2)
                    have k2 : qap s (i + 2) = true := qcd (by omega) (by rw [n2]; exact hv2)
                    have a3 : sAt s (i + 3) = h2.toNat := qdd (by rw [n3]; exact hv3)
                    have k3 : qap s (i + 3) = true := qcd (by omega) (by rw [n3]; exact hv3)
                    simp only [a2, a3]
                    refine Tr.all_t (by simp; omega) <| Tr.all_t k2 ?_
                    by_cases g1 : 0 ≤ qaS h1.toNat
                    · refine Tr.all_t (by simpa using g1) <| Tr.all_t k3 ?_
                      by_cases g2 : 0 ≤ qaS h2.toNat
                      · refine Tr.all_t (by simpa using g2) <| Tr.all_t k2 <| Tr.all_t k3 ?_
                        refine Tr.all_t (by simp) <| Tr.all_t (by simp [one]) <| Tr.all_t (by simp) ?_
                        simp only [qdz (hexW (h1 :: h2 :: u)) qBm, qbc]
                        refine LDoes.into ?_ (hone (hexW (h1 :: h2 :: u)) 4 (by simp [rS, c92, e110, e116, e120, qkd, g1, g2]))
                        simp [Weak, mk, qbj, look]
                      · refine Tr.all_f (by simpa using g2) <| Tr.all_t k1 ?_
                        refine Tr.all_t (by simp) <| Tr.all_t (by simp [one]) <| Tr.all_t (by simp) ?_
                        simp only [qdz e' rfl, qbc]
                        refine LDoes.into ?_ (hone e' 2 (by simp [rS, c92, e110, e116, e120, qkd, g1, g2]))
                        simp [Weak, mk, qbj, look]
                    · refine Tr.all_f (by simpa using g1) <| Tr.all_t k1 ?_
                      refine Tr.all_t (by simp) <| Tr.all_t (by simp [one]) <| Tr.all_t (by simp) ?_
                      simp only [qdz e' rfl, qbc]
                      refine LDoes.into ?_ (hone e' 2 (by simp [rS, c92, e110, e116, e120, qkd, g1]))
                      simp [Weak, mk, qbj, look]
              · refine Tr.all_f (qch (k := 120) e120) <| Tr.all_t k1 ?_
                refine Tr.all_t (by simp) <| Tr.all_t (by simp [one]) <| Tr.all_t (by simp) ?_
                simp only [qdz e' rfl, qbc]
                refine LDoes.into ?_ (hone e' 2 (by simp [rS, c92, e110, e116, e120]))
                simp [Weak, mk, qbj, look]
      · refine Tr.all_t (qeK (k := 92) c92) <| Tr.all_t k0 ?_
        refine Tr.all_t (by simp) <| Tr.all_t (by simp [one]) <| Tr.all_t (by simp) ?_
        simp only [qdz c rfl, qbc]
        refine LDoes.into ?_ (hone c 1 (by simp [rS, c34, c92]))
        simp [Weak, mk, qbj, look]
def outB (b r:List UInt8):PExit × List (Nat × PV) × Store:=match rP r with
 | some p=>(.exit 0,[(0,.str s),(4,.sl (qaa (b++p.1)) (.tok 0)),(5,.int .i64 ((s.length:Int) - p.2.length))],⟨[],[(nLen (b++p.1),1,5)],[]⟩)
 | none=>(.ret,[(2,.str []),(3,.bool false)],⟨[],[(b.length+rL r,1,5)],[]⟩)
theorem qDJ (hs:s.length≤140737488355328):∀ (k:Nat) (b:List UInt8) (i:Int) (r:List UInt8),r.length≤k→1≤i→s.drop i.toNat=r→i≤s.length→b.length+r.length≤140737488355328 →
  outB s b r=(e,out,σ') →
  LDoes Tryz.prog gl qn6 (mk 128 ([0,4,5].zip [.str s,.sl (qaa b) (.tok 0),.int .i64 i])) ⟨[],[(nLen b,1,5)],[]⟩ e (mk 128 out) σ':=by
 intro k
 induction k with
 | zero =>
  intro b i r hk hi hr hil hb h
  have:r=[]:=by apply List.eq_nil_of_length_eq_zero; omega
  subst this
  have hl:=congrArg List.length hr
  simp at hl
  refine qpC gl s e out σ' hs b i [] hi hr hil hb ?_ (fun h=>by cases h) (fun x k h=>by cases h)
  intro hS
  rw [outB,qqK hS] at h
  simp at h
  obtain ⟨rfl,rfl,rfl⟩:=h
  have:i=s.length:=by omega
  simp [this]
 | succ k ih =>
  intro b i r hk hi hr hil hb h
  have hl:=congrArg List.length hr
  simp at hl
  refine qpC gl s e out σ' hs b i r hi hr hil hb ?_ ?_ ?_
  ·intro hS
   rw [outB,qqK hS] at h
   simp at h
   obtain ⟨rfl,rfl,rfl⟩:=h
   have:i=(s.length:Int) - r.length:=by omega
   simp [this]
  ·intro hS
   rw [outB,qEH hS,qEu hS] at h
   simp at h
   obtain ⟨rfl,rfl,rfl⟩:=h
   simp
  ·intro x j hS
   have hj:=rS_k hS
   refine ih (b++[x]) (i+j) (r.drop j) (by simp; omega) (by omega) ?_ (by omega) (by simp; omega) ?_
   ·rw [← hr,List.drop_drop]
    congr 1
    omega
   ·rw [outB,qzs hS,qEy hS] at h
    rw [← h,outB]
    cases hq:rP (r.drop j) with
    | none=>simp; omega
    | some p=>simp
theorem qBr:∀ vs σ a,qzN vs σ=some a→(qEE a).run=some (e,out,σ')→LDoes Tryz.prog gl qn6 (mk 128 ([0,4,5].zip vs)) σ e (mk 128 out) σ':=by
 intro vs st a hd hr
 unfold qzN at hd
 split at hd
 ·rename_i s i
  injection hd with hd
  subst hd
  obtain ⟨h1,q1⟩:=Tr.chk_some hr
  obtain ⟨h2,q2⟩:=Tr.chk_some q1
  obtain ⟨h3,q3⟩:=Tr.chk_some q2
  clear hr q1 q2
  simp at h1 h2 h3
  subst h1
  have hl:(s.drop 1).length+1=s.length:=by simp; omega
  refine qxD gl s e out σ' h2 1 (s.drop 1) (by omega) rfl (by omega) ?_ ?_ ?_
  ·intro hS
   have hp:=qqK hS
   simp only [okRP,rpB,rpI,hp] at q3
   simp at q3
   obtain ⟨rfl,rfl,rfl⟩:=q3
   simp
   omega
  ·intro hS
   have hp:=qEH hS
   have hq:=qEu hS
   simp only [okRP,rpL,hp,hq] at q3
   simp at q3
   obtain ⟨rfl,rfl,rfl⟩:=q3
   simp
  ·intro x j hS
   have hj:=rS_k hS
   have hp:=qzs hS
   have hq:=qEy hS
   refine qDJ gl s e out σ' h2 s.length [x] (1+j) ((s.drop 1).drop j) (by simp; try omega) (by omega) ?_ (by omega) (by simp; try omega) ?_
   ·rw [List.drop_drop]
    congr 1
    try omega
   ·rw [outB]
    cases hr:rP ((s.drop 1).drop j) with
    | none =>
     rw [hr] at hp
     simp only [okRP,rpL,hp,hq] at q3
     simp at q3
     obtain ⟨rfl,rfl,rfl⟩:=q3
     simp [Nat.add_comm]
    | some p =>
     rw [hr] at hp
     simp only [okRP,rpB,rpI,hp] at q3
     simp at q3
     obtain ⟨rfl,rfl,rfl⟩:=q3
     simp
 ·cases hd
end
def rsO (s:List UInt8):List UInt8 × Bool:=if s.length < 2∨s.head?≠some 34 then ([],false) else match rP (s.drop 1) with
 | none=>([],false)
 | some p=>(p.1,decide (p.2.length=1))
def rsV (s:List UInt8):List UInt8:=(rsO s).1
def okRs (s:List UInt8):Bool:=(rsO s).2
def qnq:List PV→Tr PV
 | [.str s]=>Tr.chk (qhL s) (.ret (.tup [.str (rsV s),.bool (okRs s)]))
 | _=>.fail
theorem qtU (gl:Gl):SimP Tryz.prog gl 144 fun args=>(qnq args).run:=by
 refine SimP.of_tree (G:=ofL [(162,.pure qsT)]) (L:=qER) qaj (qad (qqr gl) qag) qah Tryz.func144 rfl (by rfl) (by kernel_rfl) (qeC (r:=5) (c1:=qn6) (by kernel_rfl) ?_) ?_
 ·intro fr σ e fr' σ' hh
  simp only [lps,qER,if_true] at hh
  exact qfK (fun vs σ a e out σ'=>qBr gl e out σ' vs σ a) fr σ e fr' σ' hh
 intro args x h hr
 unfold qnq at h
 split at h
 ·rename_i s
  obtain ⟨h1,h2⟩:=Tr.chk_some h
  cases h2
  refine Tr.run_as (Tr.ite (iLt (sLen s) 2) (Tr.ret (PV.tup [PV.str [],PV.bool false]))
    (Tr.ite (qap s 0)
     (Tr.ite (iNe (sAt s 0) 34) (Tr.ret (PV.tup [PV.str [],PV.bool false]))
      (Tr.ite (iEq 1 1)
       (Tr.ite (qhL s)
        (Tr.ite (iLe 1 (sLen s))
         (Tr.ite (okRP s)
          (Tr.ite (sEq (rpB s) []) (Tr.ite (qcj []) (Tr.ret (PV.tup [PV.str (qbS []),PV.bool (iEq (rpI s) (iSub IntKind.i64 (sLen s) 1))])) Tr.fail)
           (Tr.ite (qcj (qaa (rpB s))) (Tr.ret (PV.tup [PV.str (qbS (qaa (rpB s))),PV.bool (iEq (rpI s) (iSub IntKind.i64 (sLen s) 1))])) Tr.fail))
          (Tr.ite (nEq (rpL s) 0) (Tr.ret (PV.tup [PV.str [],PV.bool false])) (Tr.ret (PV.tup [PV.str [],PV.bool false]))))
         Tr.fail)
        Tr.fail)
       Tr.fail))
     Tr.fail)) (by kernel_rfl) ?_
  have hl:s.length≤140737488355328:=by simpa using h1
  by_cases hs2:s.length < 2
  ·have l1:iLt (sLen s) 2=true:=by simp; omega
   rw [l1]
   simp [rsV,okRs,rsO,hs2]
  ·have l1:iLt (sLen s) 2=false:=by simp; omega
   have l2:qap s 0=true:=by simp; omega
   have l3:iLe 1 (sLen s)=true:=by simp; omega
   have l4:iSub .i64 (sLen s) 1=s.length - 1:=by unfold iSub; rw [qg3,qa2 (by omega)]
   obtain ⟨c,hc⟩:=qen (l:=s) (i:=0) (by omega)
   have l5:sAt s 0=c.toNat:=qdd (i:=0) hc
   have hh:s.head?=some c:=by rw [List.head?_eq_getElem?]; exact hc
   rw [l1,l2,l3,l4,l5,h1]
   by_cases c34:c=34
   ·have l6:iNe (c.toNat:Int) 34=false:=qe0 (k:=34) c34
    rw [l6]
    have e1:rsO s=match rP (s.drop 1) with | none=>([],false) | some p=>(p.1,decide (p.2.length=1)):=by
     unfold rsO
     rw [if_neg]
     rintro (h | h)
     ·exact hs2 h
     ·exact h (by rw [hh,c34])
    cases hp:rP (s.drop 1) with
    | none =>
     have k1:okRP s=false:=by simp only [okRP,hp]; rfl
     rw [k1]
     rw [hp] at e1
     simp [rsV,okRs,e1]
    | some p =>
     have k1:okRP s=true:=by simp only [okRP,hp]; rfl
     have k2:rpB s=p.1:=by simp only [rpB,hp]
     have k3:rpI s=(s.length:Int) - p.2.length:=by simp only [rpI,hp]
     rw [hp] at e1
     have k4:iEq ((s.length:Int) - p.2.length) ((s.length:Int) - 1)=decide (p.2.length=1):=by
      simp only [qpa]
      congr 1
      apply propext
      constructor <;> intro h <;> omega
     rw [k1,k2,k3,k4]
     by_cases he:p.1=[]
     ·have:qbS []=[]:=rfl
      have k5:qcj []=true:=rfl
      simp [rsV,okRs,e1,he,this,k5]
     ·simp [rsV,okRs,e1,he]
   ·have l6:iNe (c.toNat:Int) 34=true:=qeK (k:=34) c34
    rw [l6]
    simp [rsV,okRs,rsO,hh,c34]
 ·cases h
end Go.Pv
set_option maxHeartbeats 4000000
set_option maxRecDepth 200000
set_option linter.unusedSimpArgs false
set_option linter.unusedVariables false
namespace Go.Pv
open Go Go.Proofs Go.RowKit
theorem qxr (c:UInt8):∀ (l:List UInt8) (a:Nat),numN (l++[c]) a=(numN l a).bind fun n=>if 48≤c.toNat∧c.toNat≤57 then some (n * 10+(c.toNat - 48)) else none
 | [],a=>by simp [numN]
 | d :: l,a=>by
  simp only [List.cons_append,numN]
  split
  ·exact qxr c l _
  ·rfl
theorem qfY {u:Nat} (h:¬ u < 10):qfh u=qfh (u / 10)++[UInt8.ofNat (48+u % 10)]:=by
 conv=>lhs; unfold qfh
 rw [dif_neg h]
theorem qeZ {u:Nat} (h:u < 10):qfh u=[UInt8.ofNat (48+u)]:=by
 unfold qfh
 rw [dif_pos h]
theorem qlz {d:Nat} (h:d < 10):(UInt8.ofNat (48+d)).toNat=48+d:=by
 simp
 omega
theorem qns:∀ (k u:Nat),u < k→numN (qfh u) 0=some u
 | 0,u,h=>by omega
 | k+1,u,h=>by
  by_cases hu:u < 10
  ·rw [qeZ hu]
   simp only [numN,qlz hu]
   rw [if_pos (by omega)]
   simp
  ·have hd:u % 10 < 10:=Nat.mod_lt _ (by omega)
   rw [qfY hu,qxr,qns k (u / 10) (by omega)]
   simp only [Option.bind_some,qlz hd]
   rw [if_pos (by omega)]
   congr 1
   omega
theorem qtr:∀ (k u:Nat),u < k→∀ c ∈ qfh u,48≤c.toNat∧c.toNat≤57
 | 0,u,h=>by omega
 | k+1,u,h=>by
  intro c hc
  by_cases hu:u < 10
  ·rw [qeZ hu] at hc
   simp only [List.mem_singleton] at hc
   subst hc
   have:=qlz hu
   omega
  ·have hd:u % 10 < 10:=Nat.mod_lt _ (by omega)
   rw [qfY hu] at hc
   rcases List.mem_append.1 hc with hc | hc
   ·exact qtr k (u / 10) (by omega) c hc
   ·simp only [List.mem_singleton] at hc
    subst hc
    have:=qlz hd
    omega
theorem qmQ (u:Nat):qfh u≠[]:=by
 by_cases hu:u < 10
 ·rw [qeZ hu]; simp
 ·rw [qfY hu]; simp
theorem qly (u:Nat):∃ c t,qfh u=c :: t∧48≤c.toNat∧c.toNat≤57:=by
 cases h:qfh u with
 | nil=>exact absurd h (qmQ u)
 | cons c t =>
  have:=qtr (u+1) u (by omega) c (by rw [h]; simp)
  exact ⟨c,t,rfl,this⟩
theorem qeM:∀ (k u:Nat),u < k→Lib.decDigits u=qfh u
 | 0,u,h=>by omega
 | k+1,u,h=>by
  by_cases hu:u < 10
  ·rw [qeZ hu,Lib.decDigits_one hu]
  ·rw [qfY hu,Lib.decDigits,dif_neg hu,qeM k (u / 10) (by omega)]
theorem qDo (n:Int):qBB n=intV n:=by
 unfold qBB Lib.itoa intV qge
 by_cases h:n < 0
 ·rw [if_pos h,if_pos h,qeM (n.natAbs+1) _ (by omega)]
  congr 2
  omega
 ·rw [if_neg h,if_neg h,qeM (n.toNat+1) _ (by omega)]
theorem qEQ (M:Nat) (c:UInt8):∀ (l:List UInt8) (a n:Nat),Lib.parseUintM M a l=.ok n→Lib.parseUintM M a (l++[c])=Lib.parseUintM M n [c]
 | [],a,n,h=>by simp [Lib.parseUintM] at h; subst h; rfl
 | d :: l,a,n,h=>by
  simp only [List.cons_append,Lib.parseUintM] at h ⊢
  split at h
  ·split at h
   ·cases h
   ·split at h
    ·cases h
    ·rename_i h1 h2 h3
     rw [if_pos h1,if_neg h2,if_neg h3]
     exact qEQ M c l _ n h
  ·cases h
theorem qvQ:∀ (k u:Nat),u < k→u≤18446744073709551615→Lib.parseUintM 18446744073709551615 0 (qfh u)=.ok u
 | 0,u,h,_=>by omega
 | k+1,u,h,hm=>by
  by_cases hu:u < 10
  ·rw [qeZ hu]
   simp only [Lib.parseUintM,qlz hu]
   rw [if_pos (by omega),if_neg (by omega),if_neg (by omega)]
   congr 1
   omega
  ·have hd:u % 10 < 10:=Nat.mod_lt _ (by omega)
   rw [qfY hu,qEQ _ _ _ _ (u / 10) (qvQ k (u / 10) (by omega) (by omega))]
   simp only [Lib.parseUintM,qlz hd]
   rw [if_pos (by omega),if_neg (by omega),if_neg (by omega)]
   congr 1
   omega
theorem pInt {n:Int} (h:-9223372036854775808≤n∧n≤9223372036854775807):Lib.parseIntB 64 (intV n)=.ok n:=by
 unfold intV qge
 by_cases hn:n < 0
 ·rw [if_pos hn]
  have hp:=qvQ ((-n).toNat+1) (-n).toNat (by omega) (by omega)
  have hne:=qmQ (-n).toNat
  have e:(2 ^ 64 - 1:Nat)=18446744073709551615:=by decide
  have e2:(2 ^ (64 - 1):Nat)=9223372036854775808:=by decide
  have e3:(45:UInt8).toNat=45:=rfl
  simp only [Lib.parseIntB,Lib.parseUintB,e3,e,e2,or_true,if_true,if_neg hne,hp]
  rw [if_neg (by simp),if_neg (by simp; omega)]
  congr 1
  simp
  omega
 ·rw [if_neg hn]
  have hp:=qvQ (n.toNat+1) n.toNat (by omega) (by omega)
  obtain ⟨c,t,ht,hc1,hc2⟩:=qly n.toNat
  have e:(2 ^ 64 - 1:Nat)=18446744073709551615:=by decide
  have e2:(2 ^ (64 - 1):Nat)=9223372036854775808:=by decide
  rw [ht] at hp ⊢
  simp only [Lib.parseIntB,Lib.parseUintB]
  rw [if_neg (by omega:¬ (c.toNat=43∨c.toNat=45)),if_neg (by simp),e,hp]
  simp only [e2]
  rw [if_neg (by omega),if_neg (by omega),if_neg (by omega)]
  congr 1
  omega
theorem qFg {n:Int} (h:-9223372036854775808≤n∧n≤9223372036854775807):pOk (intV n)=true:=by unfold pOk; rw [pInt h]
theorem qDC {n:Int} (h:-9223372036854775808≤n∧n≤9223372036854775807):pVal (intV n)=n:=by unfold pVal; rw [pInt h]
theorem qEZ {n:Int} (h:-9223372036854775808≤n∧n≤9223372036854775807):whoO (intV n)=some n:=by
 unfold intV qge whoO
 by_cases hn:n < 0
 ·rw [if_pos hn]
  have hl:=qfV 18 (-n).toNat (by omega)
  have hp:=qns ((-n).toNat+1) (-n).toNat (by omega)
  have hne:=qmQ (-n).toNat
  simp only [List.head?_cons,if_true,List.drop_succ_cons,List.drop_zero,whoN]
  rw [if_neg (by rintro (h | h); exact hne h; omega),hp]
  simp only []
  rw [if_neg (by simp; omega)]
  congr 1
  simp
  omega
 ·rw [if_neg hn]
  have hl:=qfV 18 n.toNat (by omega)
  have hp:=qns (n.toNat+1) n.toNat (by omega)
  have hne:=qmQ n.toNat
  obtain ⟨c,t,ht,hc1,hc2⟩:=qly n.toNat
  have hh:¬ (qfh n.toNat).head?=some 45:=by
   rw [ht]
   simp
   intro h
   subst h
   revert hc1
   decide
  rw [if_neg hh]
  unfold whoN
  rw [if_neg (by rintro (h | h); exact hne h; omega),hp]
  simp only []
  rw [if_neg (by simp; omega)]
  congr 1
  simp
  omega
theorem qGO (n:Int):qdp (intV n) [34]=false:=by
 unfold intV qge qdp
 by_cases hn:n < 0
 ·rw [if_pos hn]; simp
 ·rw [if_neg hn]
  obtain ⟨c,t,ht,hc1,hc2⟩:=qly n.toNat
  rw [ht]
  simp
  intro h
  subst h
  revert hc1
  decide
end Go.Pv
set_option maxHeartbeats 4000000
set_option maxRecDepth 200000
set_option linter.unusedSimpArgs false
set_option linter.unusedVariables false
namespace Go.Pv
open Go Go.Proofs Go.RowKit
def hx1 (c:UInt8):UInt8:=UInt8.ofNat (sAt hexL (iShr .u8 c.toNat 4)).toNat
def hx2 (c:UInt8):UInt8:=UInt8.ofNat (sAt hexL (iAnd .u8 c.toNat 15)).toNat
theorem quU (c:UInt8):oneV c.toNat=if c=34∨c=92 then [92,c] else if c=10 then [92,110] else if c=9 then [92,116] else if 32≤c.toNat∧c.toNat≤126 then [c] else [92,120,hx1 c,hx2 c]:=by
 have e:∀ k:UInt8,((c.toNat:Int)=(k.toNat:Int))=(c=k):=fun k=>propext ⟨fun h=>UInt8.toNat_inj.1 (by omega),fun h=>by rw [h]⟩
 have e34:=e 34
 have e92:=e 92
 have e10:=e 10
 have e9:=e 9
 unfold oneV hx1 hx2
 have r:UInt8.ofNat (c.toNat:Int).toNat=c:=by simp
 rw [r]
 have p1:((c.toNat:Int)=34)=(c=34):=e34
 have p2:((c.toNat:Int)=92)=(c=92):=e92
 have p3:((c.toNat:Int)=10)=(c=10):=e10
 have p4:((c.toNat:Int)=9)=(c=9):=e9
 have p5:((32:Int)≤c.toNat∧(c.toNat:Int)≤126)=(32≤c.toNat∧c.toNat≤126):=propext ⟨fun h=>⟨by omega,by omega⟩,fun h=>⟨by omega,by omega⟩⟩
 simp only [p1,p2,p3,p4,p5]
theorem qHA:∀ n:Fin 256,digV (hx1 (UInt8.ofNat n.val)).toNat < 16∧digV (hx2 (UInt8.ofNat n.val)).toNat < 16 ∧
 (UInt8.ofNat (iOr .u8 (iShl .u8 (digV (hx1 (UInt8.ofNat n.val)).toNat) 4) (digV (hx2 (UInt8.ofNat n.val)).toNat)).toNat).toNat=n.val ∧
 0≤qaS (hx1 (UInt8.ofNat n.val)).toNat∧0≤qaS (hx2 (UInt8.ofNat n.val)).toNat∧(hexW [hx1 (UInt8.ofNat n.val),hx2 (UInt8.ofNat n.val)]).toNat=n.val:=by decide +kernel
theorem qEC (c:UInt8):digV (hx1 c).toNat < 16∧digV (hx2 c).toNat < 16∧UInt8.ofNat (iOr .u8 (iShl .u8 (digV (hx1 c).toNat) 4) (digV (hx2 c).toNat)).toNat=c ∧
  0≤qaS (hx1 c).toNat∧0≤qaS (hx2 c).toNat∧hexW [hx1 c,hx2 c]=c:=by
 have h:=qHA ⟨c.toNat,c.toNat_lt⟩
 simp only [UInt8.ofNat_toNat] at h
 exact ⟨h.1,h.2.1,UInt8.toNat_inj.1 h.2.2.1,h.2.2.2.1,h.2.2.2.2.1,UInt8.toNat_inj.1 h.2.2.2.2.2⟩
theorem qhw (c:UInt8) (t:List UInt8):decP (c :: t)=if c=92 then (if escN t=0 then none else (decP (t.drop (escN t).toNat)).map (UInt8.ofNat (escB t).toNat :: ·)) else (decP t).map (c :: ·):=by rw [decP]
theorem qF7 (c:UInt8) (r:List UInt8):decP (oneV c.toNat++r)=(decP r).map (c :: ·):=by
 rw [quU]
 by_cases h1:c=34∨c=92
 ·rw [if_pos h1]
  have a:sAt (c :: r) 0=c.toNat:=by simp
  have q:(c.toNat:Int)=34∨(c.toNat:Int)=92:=by rcases h1 with rfl | rfl <;> decide
  have n1:escN (c :: r)=1:=by unfold escN; rw [if_neg (by simp),a,if_pos q]
  have n2:escB (c :: r)=c.toNat:=by unfold escB; rw [if_neg (by simp),a,if_pos q]
  simp only [List.cons_append,List.nil_append]
  rw [qhw,if_pos rfl,n1,n2]
  simp
 ·rw [if_neg h1]
  by_cases h2:c=10
  ·subst h2
   have a:sAt (110 :: r) 0=110:=by simp
   have n1:escN (110 :: r)=1:=by unfold escN; rw [if_neg (by simp),a]; simp
   have n2:escB (110 :: r)=10:=by unfold escB; rw [if_neg (by simp),a]; simp
   simp only [if_true,List.cons_append,List.nil_append]
   rw [qhw,if_pos rfl,n1,n2]
   simp
  ·rw [if_neg h2]
   by_cases h3:c=9
   ·subst h3
    have a:sAt (116 :: r) 0=116:=by simp
    have n1:escN (116 :: r)=1:=by unfold escN; rw [if_neg (by simp),a]; simp
    have n2:escB (116 :: r)=9:=by unfold escB; rw [if_neg (by simp),a]; simp
    simp only [if_true,List.cons_append,List.nil_append]
    rw [qhw,if_pos rfl,n1,n2]
    simp
   ·rw [if_neg h3]
    by_cases h4:32≤c.toNat∧c.toNat≤126
    ·rw [if_pos h4]
     simp only [List.cons_append,List.nil_append]
     rw [qhw,if_neg (fun h=>h1 (.inr h))]
    ·rw [if_neg h4]
     obtain ⟨g1,g2,g3,_⟩:=qEC c
     have a0:sAt (120 :: hx1 c :: hx2 c :: r) 0=120:=by simp
     have a1:sAt (120 :: hx1 c :: hx2 c :: r) 1=(hx1 c).toNat:=by simp
     have a2:sAt (120 :: hx1 c :: hx2 c :: r) 2=(hx2 c).toNat:=by simp
     have q:(120:Int)=120∧3≤(120 :: hx1 c :: hx2 c :: r).length∧digV (hx1 c).toNat < 16∧digV (hx2 c).toNat < 16:=⟨rfl,by simp,g1,g2⟩
     have n1:escN (120 :: hx1 c :: hx2 c :: r)=3:=by unfold escN; rw [if_neg (by simp),a0,a1,a2,if_neg (by omega),if_neg (by omega),if_neg (by omega),if_pos q]
     have n2:escB (120 :: hx1 c :: hx2 c :: r)=iOr .u8 (iShl .u8 (digV (hx1 c).toNat) 4) (digV (hx2 c).toNat):=by unfold escB; rw [if_neg (by simp),a0,a1,a2,if_neg (by omega),if_neg (by omega),if_neg (by omega),if_pos q]
     simp only [List.cons_append,List.nil_append]
     rw [qhw,if_pos rfl,n1,n2,g3]
     simp
theorem qoq (c:UInt8) (b:List UInt8):symB (c :: b)=oneV c.toNat++symB b:=by simp [symB]
theorem qCs:∀ b:List UInt8,decP (symB b)=some b
 | []=>by simp [symB,decP]
 | c :: b=>by rw [qoq,qF7,qCs b]; rfl
theorem qFs (c:UInt8) (r:List UInt8):rS (oneV c.toNat++r)=.one c (oneV c.toNat).length:=by
 rw [quU]
 by_cases h1:c=34∨c=92
 ·rw [if_pos h1]
  rcases h1 with rfl | rfl <;> simp [rS]
 ·rw [if_neg h1]
  by_cases h2:c=10
  ·subst h2; simp [rS]
  ·rw [if_neg h2]
   by_cases h3:c=9
   ·subst h3; simp [rS]
   ·rw [if_neg h3]
    have h34:¬ c=34:=fun h=>h1 (.inl h)
    have h92:¬ c=92:=fun h=>h1 (.inr h)
    by_cases h4:32≤c.toNat∧c.toNat≤126
    ·rw [if_pos h4]
     simp [rS,h34,h92]
    ·rw [if_neg h4]
     obtain ⟨_,_,_,g4,g5,g6⟩:=qEC c
     have g7:hexW (hx1 c :: hx2 c :: r)=c:=g6
     have g8:qkd (hx1 c :: hx2 c :: r)=true:=by simp [qkd,g4,g5]
     simp [rS,g7,g8]
theorem qEF:∀ b:List UInt8,rP (symB b++[34])=some (b,[34])
 | []=>by rw [qqK] <;> simp [symB,rS]
 | c :: b=>by
  have e:symB (c :: b)++[34]=oneV c.toNat++(symB b++[34]):=by rw [qoq,List.append_assoc]
  rw [e,qzs (qFs c _),List.drop_left,qEF b]
  rfl
theorem qIa (b:List UInt8):rsO (symV b)=(b,true):=by
 have e:(symV b).drop 1=symB b++[34]:=by simp [symV]
 unfold rsO
 rw [if_neg (by simp [symV]),e,qEF b]
 rfl
theorem qG3 (b:List UInt8):whoO (symV b)=none:=by
 have e:symV b=34 :: (symB b++[34]):=by simp [symV]
 rw [e]
 unfold whoO
 rw [if_neg (by simp)]
 unfold whoN
 split
 ·rfl
 ·have:numN (34 :: (symB b++[34])) 0=none:=by unfold numN; rw [if_neg (by decide)]
  rw [this]
end Go.Pv
set_option maxHeartbeats 4000000
set_option maxRecDepth 200000
set_option linter.unusedSimpArgs false
set_option linter.unusedVariables false
namespace Go.Pv
open Go Go.Proofs Go.RowKit
theorem qkO (k n:Int) (s:List UInt8):qd4 k n s=qek k n s:=by unfold qd4 qek; rw [qDo]
def valid (v:Int × Int × List UInt8):Prop:=(v.1=1∧v.2.2=[]∧-9223372036854775808≤v.2.1∧v.2.1≤9223372036854775807)∨(v.1=2∧v.2.1=0∧v.2.2.length≤256)
def qpp (v:Int × Int × List UInt8):List UInt8:=qek v.1 v.2.1 v.2.2
theorem qkA (n:Int):qbv 1 n []=0:=by simp [qbv]
theorem qkw {b:List UInt8}:qbv 2 0 b=0↔b.length≤256:=by
 unfold qbv
 by_cases h:b.length≤256 <;> simp [h]
theorem qmf (n:Int):qek 1 n []=intV n:=by simp [qek,isV]
theorem qmP {b:List UInt8} (h:b.length≤256):qek 2 0 b=symV b:=by simp [qek,isV,h]
theorem qDi (s:List UInt8):-9223372036854775808≤pVal s∧pVal s≤9223372036854775807:=by
 have h:=qCf s
 simp [Lit.wf,IntKind.min,IntKind.max,IntKind.signed,IntKind.bits] at h
 omega
theorem qwu {m:Bool} {t:List UInt8} {n:Int} (h:whoN m t=some n):-9223372036854775808≤n∧n≤9223372036854775807:=by
 unfold whoN at h
 split at h
 ·cases h
 ·split at h
  ·cases h
  ·rename_i x hx
   split at h
   ·cases h
   ·rename_i hn
    cases h
    cases m with
    | true=>simp at hn ⊢; omega
    | false=>simp at hn ⊢; omega
theorem qFT {s:List UInt8} {n:Int} (h:whoO s=some n):-9223372036854775808≤n∧n≤9223372036854775807:=by
 unfold whoO at h
 split at h
 ·exact qwu h
 ·exact qwu h
def rrV (s:List UInt8):Option (Int × Int × List UInt8):=match whoO s with
 | some n=>if qbv 1 n []=0∧qek 1 n []=s then some (1,n,[]) else none
 | none=>if (rsO s).2=true∧qbv 2 0 (rsO s).1=0∧qek 2 0 (rsO s).1=s then some (2,0,(rsO s).1) else none
theorem qIG {s:List UInt8} {v:Int × Int × List UInt8} (h:rdV s=some v):valid v∧qpp v=s:=by
 unfold rdV at h
 split at h
 ·split at h
  ·split at h
   ·rename_i hc
    cases h
    exact ⟨.inr ⟨rfl,rfl,qkw.1 hc.1⟩,by unfold qpp; rw [← qkO]; exact hc.2⟩
   ·cases h
  ·cases h
 ·split at h
  ·split at h
   ·rename_i hc
    cases h
    exact ⟨.inl ⟨rfl,rfl,qDi s⟩,by unfold qpp; rw [← qkO]; exact hc.2⟩
   ·cases h
  ·cases h
theorem qIy {s:List UInt8} {v:Int × Int × List UInt8} (h:rrV s=some v):valid v∧qpp v=s:=by
 unfold rrV at h
 split at h
 ·rename_i n hn
  split at h
  ·rename_i hc
   cases h
   exact ⟨.inl ⟨rfl,rfl,qFT hn⟩,hc.2⟩
  ·cases h
 ·split at h
  ·rename_i hc
   cases h
   exact ⟨.inr ⟨rfl,rfl,qkw.1 hc.2.1⟩,hc.2.2⟩
  ·cases h
theorem qGF {v:Int × Int × List UInt8} (h:valid v):rdV (qpp v)=some v:=by
 obtain ⟨k,n,b⟩:=v
 rcases h with ⟨h1,h2,h3⟩ | ⟨h1,h2,h3⟩
 ·simp only at h1 h2 h3
  subst h1 h2
  simp only [qpp,qmf]
  unfold rdV
  rw [if_neg (by rw [qGO]; simp),qFg h3,qDC h3]
  simp [qkA,qkO,qmf]
 ·simp only at h1 h2 h3
  subst h1 h2
  simp only [qpp,qmP h3]
  have e:symV b=34 :: (symB b++[34]):=by simp [symV]
  have p1:qdp (symV b) [34]=true:=by rw [e]; simp [qdp]
  have p2:qn7 (symV b) [34]=true:=by rw [e]; simp [qn7]
  have p3:2≤(symV b).length:=by rw [e]; simp
  have p4:((symV b).take ((symV b).length - 1)).drop 1=symB b:=by rw [e]; simp
  unfold rdV
  rw [if_pos ⟨p1,p2,p3⟩,p4,qCs b]
  simp only []
  rw [if_pos ⟨qkw.2 h3,by rw [qkO,qmP h3]⟩]
theorem qGS {v:Int × Int × List UInt8} (h:valid v):rrV (qpp v)=some v:=by
 obtain ⟨k,n,b⟩:=v
 rcases h with ⟨h1,h2,h3⟩ | ⟨h1,h2,h3⟩
 ·simp only at h1 h2 h3
  subst h1 h2
  simp only [qpp,qmf]
  unfold rrV
  rw [qEZ h3]
  simp [qkA,qmf]
 ·simp only at h1 h2 h3
  subst h1 h2
  simp only [qpp,qmP h3]
  unfold rrV
  rw [qG3,qIa]
  simp only []
  rw [if_pos (by simp [qkw.2 h3,qmP h3])]
theorem qIE (s:List UInt8):rrV s=rdV s:=by
 cases h:rrV s with
 | some v =>
  obtain ⟨h1,h2⟩:=qIy h
  rw [← h2,qGF h1]
 | none =>
  cases h':rdV s with
  | none=>rfl
  | some v =>
   obtain ⟨h1,h2⟩:=qIG h'
   rw [← h2,qGS h1] at h
   cases h
theorem qz6 (gl:Gl):SimP Tryz.prog gl 123 fun args=>(qpv args).run:=by
 refine SimP.of_tree (G:=ofL [(143,.pure que),(144,.pure qnq),(46,.pure qq3)]) (L:=fun _ _ _=>.fail) qaj (qad (qCe gl) (qad (qtU gl) (qad (qsP gl) qag))) qah Tryz.func123 rfl (by rfl) (by kernel_rfl) (qae (by kernel_rfl)) ?_
 intro args x h hr
 unfold qpv at h
 split at h
 ·rename_i s
  obtain ⟨h1,h2⟩:=Tr.chk_some h
  cases h2
  refine Tr.run_as (Tr.ite (qhL s)
    (Tr.ite (qg9 s)
     (Tr.ite (bNot (qg9 s)) (Tr.ret (PV.tup [PV.agg [PV.int IntKind.i64 0,PV.int IntKind.i64 0,PV.str []],PV.int IntKind.i64 10]))
      (Tr.ite (iNe (qbv 1 (whoV s) []) 0) (Tr.ret (PV.tup [PV.agg [PV.int IntKind.i64 0,PV.int IntKind.i64 0,PV.str []],PV.int IntKind.i64 10]))
       (Tr.ite (sNe (qek 1 (whoV s) []) s) (Tr.ret (PV.tup [PV.agg [PV.int IntKind.i64 0,PV.int IntKind.i64 0,PV.str []],PV.int IntKind.i64 10]))
        (Tr.ret (PV.tup [PV.agg [PV.int IntKind.i64 1,PV.int IntKind.i64 (whoV s),PV.str []],PV.int IntKind.i64 0])))))
     (Tr.ite (qhL s)
      (Tr.ite (bNot (okRs s)) (Tr.ret (PV.tup [PV.agg [PV.int IntKind.i64 0,PV.int IntKind.i64 0,PV.str []],PV.int IntKind.i64 10]))
       (Tr.ite (iNe (qbv 2 0 (rsV s)) 0) (Tr.ret (PV.tup [PV.agg [PV.int IntKind.i64 0,PV.int IntKind.i64 0,PV.str []],PV.int IntKind.i64 10]))
        (Tr.ite (sNe (qek 2 0 (rsV s)) s) (Tr.ret (PV.tup [PV.agg [PV.int IntKind.i64 0,PV.int IntKind.i64 0,PV.str []],PV.int IntKind.i64 10]))
         (Tr.ret (PV.tup [PV.agg [PV.int IntKind.i64 2,PV.int IntKind.i64 0,PV.str (rsV s)],PV.int IntKind.i64 0])))))
      Tr.fail))
    Tr.fail) (by kernel_rfl) ?_
  have fin:∀ o:Option (Int × Int × List UInt8),rrV s=o→PV.tup [.agg [.int .i64 (kRd s),.int .i64 (nRd s),.str (sRd s)],.int .i64 (eRd s)]=match o with | some v=>.tup [.agg [.int .i64 v.1,.int .i64 v.2.1,.str v.2.2],.int .i64 0] | none=>.tup [.agg [.int .i64 0,.int .i64 0,.str []],.int .i64 10]:=by
   intro o ho
   rw [qIE] at ho
   unfold kRd nRd sRd eRd
   rw [ho]
   cases o <;> rfl
  rw [h1]
  cases hw:whoO s with
  | some n =>
   have w1:qg9 s=true:=by unfold qg9; rw [hw]; rfl
   have w2:whoV s=n:=by unfold whoV; rw [hw]; rfl
   rw [w1,w2]
   by_cases hc:qbv 1 n []=0∧qek 1 n []=s
   ·rw [fin (some (1,n,[])) (by unfold rrV; rw [hw]; simp only []; rw [if_pos hc])]
    simp [hc]
   ·rw [fin none (by unfold rrV; rw [hw]; simp only []; rw [if_neg hc])]
    have:¬ qek 1 n []=s:=fun h=>hc ⟨qkA n,h⟩
    simp [qkA,this]
  | none =>
   have w1:qg9 s=false:=by unfold qg9; rw [hw]; rfl
   have w3:okRs s=(rsO s).2:=rfl
   have w4:rsV s=(rsO s).1:=rfl
   rw [w1,w3,w4]
   by_cases hc:(rsO s).2=true∧qbv 2 0 (rsO s).1=0∧qek 2 0 (rsO s).1=s
   ·rw [fin (some (2,0,(rsO s).1)) (by unfold rrV; rw [hw]; simp only []; rw [if_pos hc])]
    simp [hc]
   ·rw [fin none (by unfold rrV; rw [hw]; simp only []; rw [if_neg hc])]
    by_cases c1:(rsO s).2=true
    ·by_cases c2:qbv 2 0 (rsO s).1=0
     ·have c3:¬ qek 2 0 (rsO s).1=s:=fun h=>hc ⟨c1,c2,h⟩
      simp [c1,c2,c3]
     ·simp [c1,c2]
    ·simp [c1]
 ·cases h
end Go.Pv
set_option maxHeartbeats 4000000
set_option linter.unusedSimpArgs false
set_option linter.unusedVariables false
namespace Go.Pv
def qeN (b:UInt8):Bool:=decide (97≤b.toNat) && decide (b.toNat≤122)
def qhn (b:UInt8):Bool:=decide (65≤b.toNat) && decide (b.toNat≤90)
def qaW (b:UInt8):Bool:=decide (48≤b.toNat) && decide (b.toNat≤57)
def innB (b:UInt8):Bool:=qeN b || qhn b || qaW b || decide (b.toNat=95)
def blB (b:UInt8):Bool:=decide (b.toNat=32) || decide (b.toNat=9) || decide (b.toNat=10) || decide (b.toNat=13)
def runL (p:UInt8→Bool):List UInt8→Nat
 | []=>0
 | b :: s=>if p b then runL p s+1 else 0
def incN (n:Nat):Nat:=if n=0 then 0 else n+1
def quoE:Bool→List UInt8→Nat
 | _,[]=>0
 | true,_ :: s=>incN (quoE false s)
 | false,b :: s=>if b.toNat=34 then 1 else if b.toNat=92 then incN (quoE true s) else incN (quoE false s)
def quoL (s:List UInt8):Nat:=quoE false s
theorem quK {n m:Nat} (h:n≤m):incN n≤m+1:=by unfold incN; split <;> omega
def gapL:Bool→List UInt8→Nat
 | _,[]=>0
 | c,b :: s=>if c || blB b || decide (b.toNat=37) then gapL (decide (b.toNat=37) || c && decide (b.toNat≠10)) s+1 else 0
def qiL (b:UInt8):Bool:=[40,41,44,46,43,45,61,58,60,62].contains b.toNat
def twoB (a b:UInt8):Bool:=decide (a.toNat=58∧b.toNat=45) || decide (a.toNat=60∧b.toNat=61) || decide (a.toNat=62∧b.toNat=61) || decide (a.toNat=33∧b.toNat=61)
def hdIs (p:UInt8→Bool):List UInt8→Bool
 | []=>false
 | b :: _=>p b
def qea (c:UInt8) (t:List UInt8):Nat:=if hdIs (twoB c) t then 2 else if qiL c then 1 else 0
def valL (k:Int) (s:List UInt8) (n:Nat):Option (Int × Nat × Vl):=match rdV (s.take n) with
 | some v=>some (k,n,v)
 | none=>none
def wdL:List UInt8→Option (Int × Nat × Vl)
 | []=>none
 | c :: t =>
  if qeN c then (if runL innB t+1≤64 then some (1,runL innB t+1,0,0,[]) else none)
  else if qhn c then (if runL innB t+1≤64 then some (2,runL innB t+1,0,0,[]) else none)
  else if c.toNat=95 then (if hdIs innB t then none else some (3,1,0,0,[]))
  else if qaW c || (decide (c.toNat=45) && hdIs qaW t) then valL 4 (c :: t) (runL qaW t+1)
  else if c.toNat=34 then (if quoL t=0 then none else valL 5 (c :: t) (quoL t+1))
  else if qea c t=0 then none else some (6,qea c t,0,0,[])
abbrev Wd:=Int × List UInt8 × Vl × Int
def lexL:Nat→Nat→List UInt8→List Wd × Option Nat
 | 0,_,_=>([],none)
 | n+1,at_,s=>match s with
  | []=>([],none)
  | _=>match wdL s with
   | none=>([],some at_)
   | some (k,m,v) =>
    let r:=lexL n (at_+m+gapL false (s.drop m)) (s.drop (m+gapL false (s.drop m)))
    ((k,s.take m,v,(at_:Int)) :: r.1,r.2)
def qeF (s:List UInt8):List Wd × Option Nat:=lexL (s.length+1) (gapL false s) (s.drop (gapL false s))
theorem qjs (p:UInt8→Bool):∀ s:List UInt8,runL p s≤s.length
 | []=>Nat.le_refl _
 | b :: s=>by
  have:=qjs p s
  unfold runL
  split <;> simp only [List.length_cons] <;> omega
theorem qr0:∀ (e:Bool) (s:List UInt8),quoE e s≤s.length
 | _,[]=>by cases ‹Bool› <;> exact Nat.le_refl _
 | true,_ :: s=>quK (qr0 false s)
 | false,b :: s=>by
  have h1:=quK (qr0 true s)
  have h2:=quK (qr0 false s)
  simp only [quoE,List.length_cons]
  split
  ·omega
  ·split
   ·exact h1
   ·exact h2
theorem qvB (s:List UInt8):quoL s≤s.length:=qr0 false s
theorem qoy:∀ (c:Bool) (s:List UInt8),gapL c s≤s.length
 | _,[]=>Nat.le_refl _
 | c,b :: s=>by
  have:=qoy (decide (b.toNat=37) || c && decide (b.toNat≠10)) s
  unfold gapL
  split <;> simp only [List.length_cons] <;> omega
theorem qvL {s:List UInt8} {k:Int} {m:Nat} {v:Vl} (h:wdL s=some (k,m,v)):1≤m∧m≤s.length:=by
 cases s with
 | nil=>cases h
 | cons c t =>
  have h1:=qjs innB t
  have h2:=qjs qaW t
  have h3:=qvB t
  have h4:qea c t≤(c :: t).length:=by
   unfold qea
   cases t with
   | nil=>cases qiL c <;> simp [hdIs]
   | cons d t=>cases hdIs (twoB c) (d :: t) <;> cases qiL c <;> simp
  simp only [wdL] at h
  simp only [List.length_cons] at h4 ⊢
  repeat' (split at h)
  all_goals first | (cases h; done) | skip
  all_goals first | (cases h; omega) | (unfold valL at h; split at h <;> first | (cases h; done) | (cases h; omega))
def cW:Cod Wd where
 enc t:=[.int .i64 t.1,.str t.2.1,.int .i64 t.2.2.1.1,.int .i64 t.2.2.1.2.1,.str t.2.2.1.2.2,.int .i64 t.2.2.2]
 dec c:=match c with | [.int .i64 a,.str b,.int .i64 k,.int .i64 n,.str s,.int .i64 p]=>some (a,b,(k,n,s),p) | _=>none
 k:=6
 of_dec c a h:=by
  split at h
  ·cases h; rfl
  ·cases h
 dec_of a:=rfl
 lock a:=rfl
 shut a:=rfl
 len a:=rfl
 one a:=rfl
@[simp] theorem okSize_cW (l:List Wd):qav (rOf cW l) 6=true:=qd3 cW l
@[simp] theorem okNews_cW (l:List Wd):qaB (rOf cW l) 6=true:=qd6 cW l
@[simp] theorem qwJ (l:List Wd) (i:Nat):qb9 [.int .i64 0,.str [],.int .i64 0,.int .i64 0,.str [],.int .i64 0] (rOf cW l) i=decide (i < l.length):=qfe _ _ (fun _=>rfl) l i
@[simp] theorem qwt (l:List Wd) (i:Nat):xInt (rOf cW l) i 0=(l[i]?.getD (0,[],(0,0,[]),0)).1:=by unfold xInt; rw [qa7]; cases l[i]? <;> rfl
@[simp] theorem qwn (l:List Wd) (i:Nat):xStr (rOf cW l) i 1=(l[i]?.getD (0,[],(0,0,[]),0)).2.1:=by unfold xStr; rw [qa7]; cases l[i]? <;> rfl
@[simp] theorem xInt_cW2 (l:List Wd) (i:Nat):xInt (rOf cW l) i 2=(l[i]?.getD (0,[],(0,0,[]),0)).2.2.1.1:=by unfold xInt; rw [qa7]; cases l[i]? <;> rfl
@[simp] theorem xInt_cW3 (l:List Wd) (i:Nat):xInt (rOf cW l) i 3=(l[i]?.getD (0,[],(0,0,[]),0)).2.2.1.2.1:=by unfold xInt; rw [qa7]; cases l[i]? <;> rfl
@[simp] theorem xStr_cW4 (l:List Wd) (i:Nat):xStr (rOf cW l) i 4=(l[i]?.getD (0,[],(0,0,[]),0)).2.2.1.2.2:=by unfold xStr; rw [qa7]; cases l[i]? <;> rfl
@[simp] theorem xInt_cW5 (l:List Wd) (i:Nat):xInt (rOf cW l) i 5=(l[i]?.getD (0,[],(0,0,[]),0)).2.2.2:=by unfold xInt; rw [qa7]; cases l[i]? <;> rfl
theorem qAi (l:List Wd) (a:Int) (b:List UInt8) (k n:Int) (s:List UInt8) (p:Int):rOf cW l++[[.int .i64 a,.str b,.int .i64 k,.int .i64 n,.str s,.int .i64 p]]=rOf cW (l++[(a,b,(k,n,s),p)]):=by rw [qrE]; rfl
theorem qEN (a:Int) (b:List UInt8) (k n:Int) (s:List UInt8) (p:Int):([[.int .i64 a,.str b,.int .i64 k,.int .i64 n,.str s,.int .i64 p]]:List (List PV))=rOf cW [(a,b,(k,n,s),p)]:=rfl
@[simp] theorem qBq (l:List Wd) (a:Int) (b:List UInt8) (k n:Int) (s:List UInt8) (p:Int):[.int .i64 a,.str b,.int .i64 k,.int .i64 n,.str s,.int .i64 p] :: rOf cW l=rOf cW ((a,b,(k,n,s),p) :: l):=rfl
end Go.Pv
