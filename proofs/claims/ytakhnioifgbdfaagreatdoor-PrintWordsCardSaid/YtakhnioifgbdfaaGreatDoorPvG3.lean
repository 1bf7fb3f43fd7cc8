/- Part 3 of the proof: pure values for the machine's values, what functions compute over them, and laws of what is computed. Conditions: none beyond each theorem's own premises. -/
import Derived.Test.YtakhnioifgbdfaaGreatDoorPvG2
import Derived.RangeFuncNested
import Derived.Test.YtakhnioifgbdfaaGreatDoorShelf
import Derived.Lib.LastIndexByte
set_option linter.unusedSimpArgs false
set_option linter.unusedVariables false
namespace Go.Pv
open Go.RowKit
def qjN (s:Nat):Option Code:=if s=2 then some .ret else if 3≤s then some (.exit (s - 3)) else none
def exOf (s:Nat):PExit:=if s=2 then .ret else if 3≤s then .exit (s - 3) else .normal
def stOf:PExit→Nat
 | .normal=>0
 | .ret=>2
 | .exit id=>3+id
def isNo:PExit→Bool
 | .normal=>true
 | _=>false
def recS (r:Loop) (s:Nat):Obj:=.loop { r with state:=if s=0 then .ready else if s=1 then .busy else .done,pending:=qjN s }
def glR (gl:Gl) (e:Nat) (r:Loop) (fr:List PV):Gl:=⟨gl.v,fun e' s=>if e'=e then recS r s else gl.lp e' s,fun e'=>if e'=e then fr else gl.fr e'⟩
def puts (fr:List PV):List Tmp→List PV→List PV
 | p :: ps,x :: xs=>puts (fr.set p x) ps xs
 | _,_=>fr
section
variable {gl : Gl} {H : Gh} {σ : Store} {w w' : World}
theorem qvK:∀ (ps:List Tmp) (xs:List PV) (vs:List Value) (fr:List PV) (tmps:Array Value),RelL H w fr tmps.toList→RelL H w xs vs→RelL H w (puts fr ps xs) ((ps.zip vs).foldl (fun t p=>t.setIfInBounds p.1 p.2) tmps).toList
 | [],xs,vs,fr,tmps,h,hx=>by cases hx <;> simpa [puts] using h
 | p :: ps,[],vs,fr,tmps,h,hx=>by cases hx; simpa [puts] using h
 | p :: ps,x :: xs,vs,fr,tmps,h,hx=>by
  cases hx with
  | cons _ v _ vs hv hvs =>
   simp only [puts,List.zip_cons_cons,List.foldl_cons]
   exact qvK ps xs vs _ _ (by simpa using h.set p hv) hvs
theorem qG8 {ps:Array Tmp} {xs:List PV} {vs:List Value} {fr:List PV} {tmps:Array Value} (h:RelL H w fr tmps.toList) (hx:RelL H w xs vs):RelL H w (puts fr ps.toList xs) ((ps.zip vs.toArray).foldl (fun t (p,v)=>t.setIfInBounds p v) tmps).toList:=by
 have:=qvK ps.toList xs vs fr tmps h hx
 have e:(ps.zip vs.toArray).foldl (fun t (p,v)=>t.setIfInBounds p v) tmps=(ps.toList.zip vs).foldl (fun t p=>t.setIfInBounds p.1 p.2) tmps:=by
  rw [← Array.foldl_toList,Array.toList_zip]
 rw [e]
 exact this
theorem Ok.lp {gl':Gl} (h:Ok gl H σ w) (hv:gl'.v=gl.v) (hl:∀ (t:Nat) (T:Tok),H.tk[t]?=some T→T.k=0→gl'.lp T.e=gl.lp T.e∧gl'.fr T.e=gl.fr T.e):Ok gl' H σ w :=
 ⟨h.B,fun b o e=>h.gl b o (by rw [← hv]; exact e),h.len,h.obj,h.nd,h.tkl,fun t T e hvv=>by
  obtain ⟨h1,h2,o,he,ho⟩:=h.tok t T e hvv
  refine ⟨h1,h2,o,he,?_⟩
  rcases ho with ho | ⟨hk,q1,r,q2,q3,q4,q5,q6⟩
  ·exact .inl ho
  ·obtain ⟨l1,l2⟩:=hl t T e hk
   refine .inr ⟨hk,by rw [l1]; exact q1,r,q2,by rw [l2]; exact q3,?_,q5,?_⟩
   ·intro n hn; rw [l2]; exact q4 n hn
   ·intro m hm; rw [l2]; exact q6 m hm,h.tnd,h.tyl,h.ty⟩
theorem Dr.lp {gl':Gl} {w w':World} (h:Dr gl w w') (hv:gl'.v=gl.v):Dr gl' w w':=fun hg=>h (fun b=>by rw [← hv]; exact hg b)
theorem Ev.lp {gl':Gl} {H':Gh} (h:Ev gl H w H' w') (hv:gl'.v=gl.v):Ev gl' H w H' w' :=
 ⟨h.B,h.base,h.aux,h.K,h.os,h.tape,h.output,h.size,h.ob,h.tok,h.prot,h.block,h.dr.lp hv,h.fix,h.old⟩
theorem qCY (h:Ok gl H σ w) {t:Nat} {T:Tok} (ht:H.tk[t]?=some T) (hk:T.k=0) {s':Nat} {r':Loop} (hr:gl.lp T.e s'=.loop r') (hframe:RelL H w (gl.fr T.e) r'.tmps.toList) :
  Ev gl H w { H with tk:=H.tk.set t { T with ver:=s' } } (w.putObj T.blk (.loop r'))∧Ok gl { H with tk:=H.tk.set t { T with ver:=s' } } { σ with toks:=σ.toks.set t (s',0,T.e) } (w.putObj T.blk (.loop r')):=by
 have htl:t < H.tk.length:=(List.getElem?_eq_some_iff.1 ht).1
 have hnv:¬ T.vir:=fun hh=>hh.2 hk
 obtain ⟨hB,hob,o,ho,hT⟩:=h.tok t T ht hnv
 obtain ⟨r0,ho0,hp0,hc0,hd0⟩:∃ r,o=.loop r∧(∀ n,T.cap≤n→qca n (gl.fr T.e)=gl.fr T.e)∧T.cap≤H.ob.length∧(∀ m,t≤m→qco m (gl.fr T.e)=gl.fr T.e):=by
  rcases hT with ⟨h1,_⟩ | ⟨_,_,r,h3,_,h5,h6,h7⟩
  ·exact absurd hk h1
  ·exact ⟨r,h3,h5,h6,h7⟩
 subst ho0
 have hlt:=qax ho
 have hsz:(w.putObj T.blk (.loop r')).heap.size=w.heap.size:=qcq ..
 have hcase:∀ (u:Nat) (U:Tok),(H.tk.set t { T with ver:=s' })[u]?=some U→(u=t∧U={ T with ver:=s' })∨(u≠t∧H.tk[u]?=some U):=by
  intro u U hu
  by_cases hut:u=t
  ·subst hut
   rw [List.getElem?_set_self htl] at hu
   exact .inl ⟨rfl,(Option.some.inj hu).symm⟩
  ·rw [List.getElem?_set_ne (fun e=>hut e.symm)] at hu
   exact .inr ⟨hut,hu⟩
 have hne:∀ b off,H.prot w b off→b≠T.blk:=fun b off hp e=>by
  have:=hp.2.2.2 T (List.mem_of_getElem? ht) hnv e.symm
  rw [hk] at this
  omega
 have hcell:∀ b off s,b≠T.blk→(w.putObj T.blk (.loop r')).cell? ⟨b,off,s⟩=w.cell? ⟨b,off,s⟩:=fun b off s e=>World.cell?_of_block (a:=⟨b,off,s⟩) (World.putObj_heap_other e)
 have ev:Ev gl H w { H with tk:=H.tk.set t { T with ver:=s' } } (w.putObj T.blk (.loop r')):=by
  refine ⟨rfl,rfl,rfl,rfl,rfl,rfl,rfl,by rw [hsz]; exact Nat.le_refl _,fun _ _ h=>h,fun u U hu=>?_,fun b off hp=>?_,fun b hb=>World.putObj_heap_other (by omega),.of_eq rfl,fun b ds hb=>(World.putObj_heap_other (fun e=>by subst e; rw [ho] at hb; cases hb)).trans hb,fun u U hu hk'=>?_⟩
  ·by_cases hut:u=t
   ·subst hut
    rw [ht] at hu
    cases hu
    exact ⟨{ T with ver:=s' },List.getElem?_set_self htl,fun e=>absurd hk e,fun _=>⟨hk,rfl,rfl,rfl⟩⟩
   ·exact ⟨U,by show (H.tk.set t _)[u]?=some U; rw [List.getElem?_set_ne (fun e=>hut e.symm)]; exact hu,.refl U⟩
  ·refine ⟨⟨by rw [hsz]; exact hp.1,hp.2.1,hp.2.2.1,fun U hU hvU hbk=>?_⟩,fun s=>hcell b off s (hne b off hp)⟩
   obtain ⟨u,hu⟩:=List.mem_iff_getElem?.1 hU
   rcases hcase u U hu with ⟨_,rfl⟩ | ⟨_,hu⟩
   ·exact absurd hbk.symm (hne b off hp)
   ·exact hp.2.2.2 U (List.mem_of_getElem? hu) hvU hbk
  ·rcases hcase u U hu with ⟨rfl,rfl⟩ | ⟨_,hu⟩
   ·exact ⟨T,ht,hk⟩
   ·exact ⟨U,hu,hk'⟩
 refine ⟨ev,⟨by rw [hsz]; exact h.B,fun b o' eg=>⟨(h.gl b o' eg).1,(World.putObj_heap_other (by have:=(h.gl b o' eg).1; omega)).trans (h.gl b o' eg).2⟩,h.len,fun id b cs e1 e2=>?_,h.nd,?_,fun u U hu hvU=>?_,fun u v U V hu hv hvU hvV hbk=>?_,h.tyl,fun id b T0 cs e1 e2 e3 hTT=>?_⟩⟩
 ·obtain ⟨h1,vs,ext,T0,he,hr⟩:=h.obj id b cs e1 e2
  exact ⟨h1,vs,ext,T0,(World.putObj_heap_other (fun e=>by subst e; rw [ho] at he; cases he)).trans he,hr.mono ev.mono⟩
 ·show (H.tk.set t _).map _=σ.toks.set t _
  rw [List.map_set,h.tkl,hk]
 ·rcases hcase u U hu with ⟨rfl,rfl⟩ | ⟨hut,hu'⟩
  ·exact ⟨hB,hob,_,World.putObj_heap_same hlt,.inr ⟨hk,hr.symm,r',rfl,hframe.mono ev.mono,hp0,hc0,hd0⟩⟩
  ·obtain ⟨g1,g2,o',g3,g4⟩:=h.tok u U hu' hvU
   exact ⟨g1,g2,o',(World.putObj_heap_other (fun e=>hut (h.tnd u t U T hu' ht hvU hnv e))).trans g3,g4.mono ev.mono⟩
 ·rcases hcase u U hu with ⟨h1,rfl⟩ | ⟨h1,hu'⟩ <;> rcases hcase v V hv with ⟨h2,rfl⟩ | ⟨h2,hv'⟩
  ·rw [h1,h2]
  ·exact absurd (h.tnd v t V T hv' ht hvV hnv hbk.symm) h2
  ·exact absurd (h.tnd u t U T hu' ht hvU hnv hbk) h1
  ·exact h.tnd u v U V hu' hv' hvU hvV hbk
 ·obtain ⟨us,he,hs⟩:=h.ty id b T0 cs e1 e2 e3 hTT
  exact ⟨us,(World.putObj_heap_other (fun e=>by subst e; rw [ho] at he; cases he)).trans he,hs⟩
end
theorem qMC {P:Program} {gl:Gl} {e:Nat} {r:Loop} (hlp:gl.lp e=recS r) {Y:Nat→List PV→Store→Option (PV × Store)}
  (hY:∀ t args σ x σ',Y t args σ=some (x,σ')→∃ fr1 σ1 ex fr2 σ2,args.length=r.params.size∧Does P gl r.assign (puts (gl.fr e) r.params.toList args) σ .normal fr1 σ1∧σ1.toks[t]?=some (0,0,e) ∧
   Does P gl r.body fr1 { σ1 with toks:=σ1.toks.set t (1,0,e) } ex fr2 σ2∧σ2.toks[t]?=some (1,0,e)∧x=.bool (isNo ex)∧σ'={ σ2 with toks:=σ2.toks.set t (stOf ex,0,e) }):qnC P gl qe2 (.yld e Y):=by
 intro t args σ x σ' h0 hy H w vs T hok hrel hT
 obtain ⟨fr1,σ1,ex,fr2,σ2,hlen,hd1,ht1,hd2,ht2,rfl,rfl⟩:=hY t args σ x σ' hy
 -- what a token of such a state is
 have look:∀ {H1:Gh} {w1:World} {τ:Store} {T1:Tok} {s:Nat},Ok gl H1 τ w1→τ.toks[t]?=some (s,0,e)→H1.tk[t]?=some T1→T1.ver=s∧T1.k=0∧T1.e=e∧w1.heap[T1.blk]?=some (recS r s)∧RelL H1 w1 (gl.fr e) r.tmps.toList:=by
  intro H1 w1 τ T1 s hk1 hs hT1
  have e1:(T1.ver,T1.k,T1.e)=(s,0,e):=by
   rw [← hk1.tkl,List.getElem?_map,hT1] at hs
   simpa using hs
  simp only [Prod.mk.injEq] at e1
  obtain ⟨a1,a2,a3⟩:=e1
  obtain ⟨_,_,o,ho,hTO⟩:=hk1.tok t T1 hT1 (fun hh=>hh.2 (by assumption))
  rcases hTO with ⟨b1,_⟩ | ⟨_,b2,r1,b3,b4,_⟩
  ·exact absurd a2 b1
  ·rw [a1,a3,hlp] at b2
   rw [b2] at ho b3
   refine ⟨a1,a2,a3,ho,?_⟩
   rw [a3] at b4
   unfold recS at b3
   cases b3
   exact b4
 obtain ⟨v0,k0,ee0,hl0,hf0⟩:=look hok h0 hT
 have hsz:vs.toArray.size=r.params.size:=by rw [← hlen,hrel.len]; simp
 have hrun:=run_yield (P:=P) (args:=vs.toArray) hl0 hsz
 refine ⟨_,_,_,_,hrun,?_⟩
 have hRin:RIn (some T.blk) { H with K:=w.heap.size }:=fun l hl=>by cases hl; exact ⟨t,T,hT,k0,rfl⟩
 refine roundIn_of_wpIn (F:=Fence.wide) (n:=0) (l:=T.blk) trivial ?_
 have hst0:St gl { H with K:=w.heap.size } w (puts (gl.fr e) r.params.toList args) σ { tmps:=(r.params.zip vs.toArray).foldl (fun t (p,v)=>t.setIfInBounds p v) r.tmps,defers:=[] } w :=
  ⟨_,Ev.refl _ w,hok.setK _,(qG8 hf0 hrel).mono (Mono.setK' H w _),Marks.nil (Nat.le_refl _)⟩
 refine hd1 (some T.blk) 0 _ w hRin _ _ w hst0 fun a1 w1 hst1=>?_
 obtain ⟨H1,hev1,hok1,hfr1,hm1⟩:=hst1
 obtain ⟨T1,hT1,hu1⟩:=hev1.tok t T hT
 obtain ⟨_,hblk1,_,_⟩:=hu1.lp k0
 obtain ⟨v1,k1,ee1,hl1,hf1⟩:=look hok1 ht1 hT1
 rw [hblk1] at hl1
 have hbr:=run_beginRound (P:=P) hl1 rfl
 refine ⟨_,hbr,?_⟩
 have hs1:=qCY (s':=1) (r':={ r with state:=.busy,pending:=qjN 1 }) hok1 hT1 k1 (by rw [ee1,hlp]; rfl) (by rw [ee1]; exact hf1)
 rw [ee1,hblk1] at hs1
 obtain ⟨hev2,hok2⟩:=hs1
 have hst2:St gl { H with K:=w.heap.size } w fr1 { σ1 with toks:=σ1.toks.set t (1,0,e) } a1 (w1.putObj T.blk (.loop { r with state:=.busy,pending:=qjN 1 })):=⟨_,hev1.trans hev2,hok2,hfr1.mono hev2.mono,hm1.ev hev2⟩
 refine hd2 (some T.blk) 0 _ w hRin _ _ _ hst2 fun a3 w3 hst3=>?_
 obtain ⟨H3,hev3,hok3,hfr3,hm3⟩:=hst3
 obtain ⟨T3,hT3,hu3⟩:=hev3.tok t T hT
 obtain ⟨_,hblk3,_,_⟩:=hu3.lp k0
 obtain ⟨v3,k3,ee3,hl3,hf3⟩:=look hok3 ht2 hT3
 rw [hblk3] at hl3
 -- the round's end
 have fin:∀ (jump:Option Code) (s:Nat),recS r s=.loop { r with state:=if jump.isNone then .ready else .done,pending:=jump }→∀ b:Bool,jump.isNone=b →
   ∃ v w',(Instr.endRound T.blk jump).run P w3=.ok v w'∧∃ v',(Ending.returned v)=.returned v'∧Post gl H w (.bool b) { σ2 with toks:=σ2.toks.set t (s,0,e) } v' w':=by
  intro jump s hs b hb
  subst hb
  have hr:=run_endRound (P:=P) jump hl3
  refine ⟨_,_,hr,_,rfl,?_⟩
  have hs4:=qCY (s':=s) (r':={ r with state:=if jump.isNone then .ready else .done,pending:=jump }) hok3 hT3 k3 (by rw [ee3,hlp]; exact hs) (by rw [ee3]; exact hf3)
  rw [ee3,hblk3] at hs4
  obtain ⟨hev4,hok4⟩:=hs4
  exact ⟨_,(hev3.trans hev4).setK,hok4.setK _,.bool _⟩
 cases ex with
 | normal=>exact fin none 0 rfl true rfl
 | ret=>exact fin (some .ret) 2 rfl false rfl
 | exit id =>
  refine fin (some (.exit id)) (3+id) ?_ false rfl
  have h1:¬ (3+id=0):=by omega
  have h2:¬ (3+id=1):=by omega
  have h3:¬ (3+id=2):=by omega
  have h4:3≤3+id:=by omega
  simp only [recS,qjN,h1,h2,h3,h4,if_true,if_false,Nat.add_sub_cancel_left]
  rfl
section
variable {gl : Gl} {H : Gh} {σ : Store} {w w' : World}
theorem qKO (h:Ok gl H σ w) {e s:Nat} {r:Loop} (he:gl.lp e s=.loop r) (hfr:RelL H w (gl.fr e) r.tmps.toList) (hp:∀ n,H.ob.length≤n→qca n (gl.fr e)=gl.fr e) (ht:∀ m,H.tk.length≤m→qco m (gl.fr e)=gl.fr e) :
  Mono H w { H with tk:=H.tk++[⟨w.heap.size,s,H.ob.length,0,e⟩] } (w.alloc (.loop r))∧Ok gl { H with tk:=H.tk++[⟨w.heap.size,s,H.ob.length,0,e⟩] } { σ with toks:=σ.toks++[(s,0,e)] } (w.alloc (.loop r)) ∧
   (H.tk++[(⟨w.heap.size,s,H.ob.length,0,e⟩:Tok)])[σ.toks.length]?=some ⟨w.heap.size,s,H.ob.length,0,e⟩:=by
 have hb:=qbQ w (.loop r)
 have hlen:H.tk.length=σ.toks.length:=by rw [← h.tkl]; simp
 have hcase:∀ (t:Nat) (T:Tok),(H.tk++[(⟨w.heap.size,s,H.ob.length,0,e⟩:Tok)])[t]?=some T→H.tk[t]?=some T∨(t=H.tk.length∧T=⟨w.heap.size,s,H.ob.length,0,e⟩):=by
  intro t T ht
  by_cases htl:t < H.tk.length
  ·rw [List.getElem?_append_left htl] at ht
   exact .inl ht
  ·have hlt:=(List.getElem?_eq_some_iff.1 ht).1
   have:t=H.tk.length:=by simp at hlt; omega
   subst this
   rw [List.getElem?_append_right (Nat.le_refl _)] at ht
   simp at ht
   exact .inr ⟨rfl,ht.symm⟩
 have hprot:∀ b off,H.prot w b off→({ H with tk:=H.tk++[⟨w.heap.size,s,H.ob.length,0,e⟩] }:Gh).prot (w.alloc (.loop r)) b off:=fun b off hp=>by
  refine ⟨Nat.lt_of_lt_of_le hp.1 hb.size,hp.2.1,hp.2.2.1,fun T hT hvv hbk=>?_⟩
  rcases List.mem_append.1 hT with hT | hT
  ·exact hp.2.2.2 T hT hvv hbk
  ·simp at hT
   subst hT
   have:=hp.1
   simp at hbk
   omega
 have mo:Mono H w { H with tk:=H.tk++[⟨w.heap.size,s,H.ob.length,0,e⟩] } (w.alloc (.loop r)):=by
  refine ⟨fun _ _ h=>h,fun t T ht=>?_,fun b off hp=>⟨hprot b off hp,fun s=>hb.cell (p:=⟨b,off,s⟩) hp.1⟩,fun b off hp=>?_⟩
  ·refine ⟨T,?_,.refl T⟩
   show (H.tk++[_])[t]?=some T
   rw [List.getElem?_append_left (List.getElem?_eq_some_iff.1 ht).1]
   exact ht
  ·rcases hp with hp | hp
   ·exact ⟨.inl (hprot b off hp),fun s=>hb.cell (p:=⟨b,off,s⟩) hp.1⟩
   ·exact ⟨.inr hp,fun s=>hb.cell (p:=⟨b,off,s⟩) (Nat.lt_of_lt_of_le hp.1 h.B)⟩
 refine ⟨mo,⟨Nat.le_trans h.B hb.size,fun b o eg=>⟨(h.gl b o eg).1,(hb.block b (qax (h.gl b o eg).2)).trans (h.gl b o eg).2⟩,h.len,fun id b cs e1 e2=>?_,h.nd,by simp [h.tkl],fun t T ht' hvv=>?_,fun t u T U ht hu hvT hvU hbk=>?_,h.tyl,fun id b T' c1 e1 e2 e3 hTT=>?_⟩,?_⟩
 ·obtain ⟨hB,vs,ext,T,he,hr⟩:=h.obj id b cs e1 e2
  exact ⟨hB,vs,ext,T,(hb.block b (qax he)).trans he,hr.mono mo⟩
 ·rcases hcase t T ht' with ht' | ⟨rfl,rfl⟩
  ·obtain ⟨hB,ho,o,he,hr⟩:=h.tok t T ht' hvv
   exact ⟨hB,ho,o,(hb.block _ (qax he)).trans he,hr.mono mo⟩
  ·exact ⟨h.B,fun hm=>Nat.lt_irrefl _ (h.ob_at hm).2,_,heap_alloc_new w _,.inr ⟨rfl,he.symm,r,rfl,hfr.mono mo,hp,Nat.le_refl _,ht⟩⟩
 ·rcases hcase t T ht with ht | ⟨h1,rfl⟩ <;> rcases hcase u U hu with hu | ⟨h2,rfl⟩
  ·exact h.tnd t u T U ht hu hvT hvU hbk
  ·have:=(h.tk_at (List.mem_of_getElem? ht) hvT).2
   simp at hbk
   omega
  ·have:=(h.tk_at (List.mem_of_getElem? hu) hvU).2
   simp at hbk
   omega
  ·rw [h1,h2]
 ·obtain ⟨us,he,hs⟩:=h.ty id b T' c1 e1 e2 e3 hTT
  exact ⟨us,(hb.block b (qax he)).trans he,hs⟩
 ·rw [← hlen,List.getElem?_append_right (Nat.le_refl _)]
  simp
theorem quC {D:Nat} {r r':Loop} (hd:w.heap[D]?=some (.loop r)):Mono H w H (w.putObj D (.loop r')):=by
 have hs:(w.putObj D (.loop r')).heap.size=w.heap.size:=qcq ..
 have hlt:=qax hd
 have hc:∀ b off s,(w.putObj D (.loop r')).cell? ⟨b,off,s⟩=w.cell? ⟨b,off,s⟩:=fun b off s=>by
  by_cases e:b=D
  ·subst e
   simp only [World.cell?,World.putObj_heap_same hlt,hd]
  ·exact World.cell?_of_block (a:=⟨b,off,s⟩) (World.putObj_heap_other e)
 refine ⟨fun _ _ h=>h,fun t T h=>⟨T,h,.refl T⟩,fun b off hp=>⟨⟨by rw [hs]; exact hp.1,hp.2⟩,hc b off⟩,fun b off hp=>⟨?_,hc b off⟩⟩
 rcases hp with hp | hp
 ·exact .inl ⟨by rw [hs]; exact hp.1,hp.2⟩
 ·exact .inr hp
theorem qKS {D:Nat} {r r':Loop} (h:Ok gl H σ w) (hB:H.B≤D) (hd:w.heap[D]?=some (.loop r)) (hn:∀ (t:Nat) (T:Tok),H.tk[t]?=some T→¬ T.vir→T.blk≠D):Ok gl H σ (w.putObj D (.loop r')) where
 B:=by rw [qcq]; exact h.B
 gl:=fun b o e=>⟨(h.gl b o e).1,(World.putObj_heap_other (by have:=(h.gl b o e).1; omega)).trans (h.gl b o e).2⟩
 len:=h.len
 obj:=fun id b cs e1 e2=>by
  obtain ⟨h1,vs,ext,T,he,hr⟩:=h.obj id b cs e1 e2
  have hne:b≠D:=fun e=>by subst e; rw [he] at hd; cases hd
  exact ⟨h1,vs,ext,T,(World.putObj_heap_other hne).trans he,hr.mono (quC hd)⟩
 nd:=h.nd
 tkl:=h.tkl
 tok:=fun t T e hvv=>by
  obtain ⟨h1,h2,o,he,ho⟩:=h.tok t T e hvv
  exact ⟨h1,h2,o,(World.putObj_heap_other (hn t T e hvv)).trans he,ho.mono (quC hd)⟩
 tnd:=h.tnd
 tyl:=h.tyl
 ty:=fun id b T cs e1 e2 e3 hT=>by
  obtain ⟨us,he,hs⟩:=h.ty id b T cs e1 e2 e3 hT
  have hne:b≠D:=fun e=>by subst e; rw [he] at hd; cases hd
  exact ⟨us,(World.putObj_heap_other hne).trans he,hs⟩
end
theorem qBi {P:Program} {gl:Gl} {g:Operand} {ps:Array Tmp} {assign body:Code} {fr:List PV} {σ:Store} {gf:FuncId} {caps:List PV} (hg:ev fr g=.fn gf caps) (eid:Nat)
  (hent : ∃ fn, P.funcs[gf]? = some fn ∧ (fn.name == "runtime.NumGoroutine") = false ∧ fn.body.isNone = false)
  {Y:Nat→List PV→Store→Option (PV × Store)} {D:List PV→Store→Option (PV × Store)}
  (hfresh:∀ (i v k e:Nat),σ.toks[i]?=some (v,k,e)→k=0→e≠eid) (hpd:∀ n,σ.objs.length≤n→qca n fr=fr) (htd:∀ m,σ.toks.length≤m→qco m fr=fr)
  (hI:∀ gl':Gl,gl'.v=gl.v→qnC P gl' qe2 (.yld eid Y)→SimS P gl' gf D)
  (hY:∀ gl':Gl,gl'.v=gl.v→∀ t args σ x σ',Y t args σ=some (x,σ')→∃ fr1 σ1 ex fr2 σ2,args.length=ps.size∧Does P gl' assign (puts fr ps.toList args) σ .normal fr1 σ1∧σ1.toks[t]?=some (0,0,eid) ∧
   Does P gl' body fr1 { σ1 with toks:=σ1.toks.set t (1,0,eid) } ex fr2 σ2∧σ2.toks[t]?=some (1,0,eid)∧x=.bool (isNo ex)∧σ'={ σ2 with toks:=σ2.toks.set t (stOf ex,0,eid) })
  {x:PV} {σ2:Store} {s:Nat} (hD:D (.yld σ.toks.length :: caps) { σ with toks:=σ.toks++[(0,0,eid)] }=some (x,σ2)) (hs:σ2.toks[σ.toks.length]?=some (s,0,eid)) (hs1:s≠1) :
  Does P gl (.rangeFunc g ps assign body) fr σ (exOf s) fr (qe1 σ.toks.length σ2):=by
 intro r n H0 w0 hR Q a w hst hq
 obtain ⟨H,hev,hok,hfr,hmk⟩:=hst
 have hHt:H.tk.length=σ.toks.length:=by rw [← hok.tkl]; simp
 have hrg:=qbC hfr g
 rw [hg] at hrg
 generalize hv:a.eval g=gv at hrg
 cases hrg with
 | fn _ _ lb hcaps =>
 refine wpIn_rangeFunc ?_
 intro fn hfn
 -- entering: the record; at an outermost loop the block of the rounds' deferred calls
 obtain ⟨mark,W0,rec,hent',hb0,hdr0,hrecf,hmark⟩:∃ (mark:List Deferred) (W0:World) (rec:Loop),(Instr.enterLoop fn a.tmps ps assign body (rnd r).round).run P w=.ok (W0.heap.size,mark) (W0.alloc (.loop rec)) ∧
   Below w.heap.size w W0∧W0.drawn=w.drawn∧(rec.state=.ready∧rec.pending=none∧rec.tmps=a.tmps∧rec.params=ps∧rec.assign=assign∧rec.body=body)∧Marks H.K (mark++a.defers) W0:=by
  cases r with
  | none =>
   refine ⟨[{ target:=.collected w.heap.size,args:=#[] }],w.alloc (.deferred (some [])),{ state:=.ready,pending:=none,fn,tmps:=a.tmps,params:=ps,assign,body,defers:=w.heap.size },?_,qbQ w _,rfl,⟨rfl,rfl,rfl,rfl,rfl,rfl⟩,?_⟩
   ·have:=run_enterLoop_outer (P:=P) (w:=w) fn a.tmps ps assign body
    rw [show w.heap.size+1=(w.alloc (.deferred (some []))).heap.size from by simp] at this
    exact this
   ·obtain ⟨k1,Ds,k2,k3,k4⟩:=hmk
    refine ⟨Nat.le_trans k1 (by simp),w.heap.size :: Ds,by rw [k2]; rfl,List.nodup_cons.2 ⟨fun hm=>?_,k3⟩,fun D' hD'=>?_⟩
    ·have:=qax (k4 _ hm).2
     omega
    ·cases hD' with
     | head=>exact ⟨k1,World.alloc_heap_new w _⟩
     | tail _ hD'=>exact ⟨(k4 D' hD').1,((qbQ w _).block D' (qax (k4 D' hD').2)).trans (k4 D' hD').2⟩
  | some l0 =>
   obtain ⟨t0,T0,ht0,hk0,rfl⟩:=hR.ev hev l0 rfl
   obtain ⟨_,_,o,ho,hTO⟩:=hok.tok t0 T0 ht0 (fun hh=>hh.2 hk0)
   obtain ⟨r0,rfl⟩:∃ r0,o=.loop r0:=by
    rcases hTO with ⟨h1,_⟩ | ⟨_,_,r0,h3,_⟩
    ·exact absurd hk0 h1
    ·exact ⟨r0,h3⟩
   exact ⟨[],w,{ state:=.ready,pending:=none,fn,tmps:=a.tmps,params:=ps,assign,body,defers:=r0.defers },run_enterLoop_inner ho fn a.tmps ps assign body,Below.refl _ w,rfl,⟨rfl,rfl,rfl,rfl,rfl,rfl⟩,hmk⟩
 obtain ⟨q1,q2,q3,q4,q5,q6⟩:=hrecf
 -- the world with the record
 obtain ⟨gl',hgl'⟩:∃ gl',gl'=glR gl eid rec fr:=⟨_,rfl⟩
 have hgv:gl'.v=gl.v:=by rw [hgl']; rfl
 have hglp:gl'.lp eid=recS rec:=by rw [hgl']; simp [glR]
 have hgfr:gl'.fr eid=fr:=by rw [hgl']; simp [glR]
 have hother:∀ e,e≠eid→gl'.lp e=gl.lp e∧gl'.fr e=gl.fr e:=fun e he=>by rw [hgl']; constructor <;> simp [glR,he]
 have hfreshT:∀ (t:Nat) (T:Tok),H.tk[t]?=some T→T.k=0→T.e≠eid:=fun t T hT hk=>by
  refine hfresh t T.ver T.k T.e ?_ hk
  rw [← hok.tkl,List.getElem?_map,hT]
  rfl
 have hok0:Ok gl' H σ W0:=(hok.of_below hb0).lp hgv fun t T hT hk=>hother T.e (hfreshT t T hT hk)
 have hm0:Mono H w H W0:=Mono.of_below hok.B hb0
 have hrs:gl'.lp eid 0=.loop rec:=by
  rw [hglp]
  unfold recS qjN
  simp only [if_true]
  rw [← q1,if_neg (by omega:¬ (0=2)),if_neg (by omega:¬ (3≤0)),← q2]
 obtain ⟨hm1,hok1,hT1⟩:=qKO (e:=eid) (s:=0) hok0 hrs (by rw [hgfr,q3]; exact hfr.mono hm0) (by rw [hgfr]; intro n hn; exact hpd n (by rw [← hok.len]; exact hn)) (by rw [hgfr]; intro m hm; exact htd m (by rw [← hHt]; exact hm))
 obtain ⟨T,hT⟩:∃ T:Tok,T=⟨W0.heap.size,0,H.ob.length,0,eid⟩:=⟨_,rfl⟩
 obtain ⟨H1,hH1⟩:∃ H1:Gh,H1={ H with tk:=H.tk++[T] }:=⟨_,rfl⟩
 rw [← hT] at hm1 hok1 hT1
 rw [← hH1] at hm1 hok1
 obtain ⟨W1,hW1⟩:∃ W1,W1=W0.alloc (.loop rec):=⟨_,rfl⟩
 rw [← hW1] at hm1 hok1
 have hb1:Below w.heap.size w W1:=by rw [hW1]; exact hb0.alloc hb0.size _
 -- the call
 have hcon:qnC P gl' qe2 (.yld eid Y):=qMC (r:=rec) hglp (by rw [hgfr,q4,q5,q6]; exact hY gl' hgv)
 have hS:=hI gl' hgv hcon
 have hyr:Rel H1 W1 (.yld σ.toks.length) (.func (.yield W0.heap.size) #[] #[]):=by
  have:=Rel.yld (H:=H1) (w:=W1) σ.toks.length T (by rw [hH1]; exact hT1) (by rw [hT])
  rw [show T.blk=W0.heap.size from by rw [hT]] at this
  exact this
 have hcall:=hS.run _ _ _ _ hD H1 W1 (.func (.yield W0.heap.size) #[] #[] :: lb) hok1 (.cons _ _ _ _ hyr (hcaps.mono (hm0.trans hm1)))
 obtain ⟨gfn,hgf,hgn,hgb⟩:=hent
 refine ⟨W0.heap.size,mark,W1,{ target:=.fn (.func gf) lb.toArray,args:=#[.func (.yield W0.heap.size) #[] #[]] },W1,gf,(.func (.yield W0.heap.size) #[] #[] :: lb).toArray,W1,by rw [hW1]; exact hent',?_,fun _ _=>trivial,?_,(fun h=>by cases h),?_⟩
 ·simp only [resolve,hv]
  simp [go_sem]
 ·have e1:(#[(Value.func (.yield W0.heap.size) #[] #[])]:Array Value)++lb.toArray=(Value.func (.yield W0.heap.size) #[] #[] :: lb).toArray:=by
   apply Array.ext'
   simp
  simp only [invoke,callFunc,Sem.run_bind,run_program,Result.andThen_ok,hgf,hgn,hgb,Bool.false_eq_true,if_false,Sem.run_pure,e1]
 ·refine CallsIn.mono (qqf hcall) ?_
  rintro e w3 ⟨v,rfl,H2,hevI,hok2,hv2⟩
  -- behind the function
  have hsz2:σ2.toks.length=H2.tk.length:=by rw [← hok2.tkl]; simp
  obtain ⟨T2,hT2,hu2⟩:=hevI.tok σ.toks.length T (by rw [hH1]; exact hT1)
  obtain ⟨k2,blk2,ee2,cap2⟩:=hu2.lp (by rw [hT])
  have ev2:T2.ver=s∧T2.e=eid:=by
   have:(T2.ver,T2.k,T2.e)=(s,0,eid):=by
    rw [← hok2.tkl,List.getElem?_map,hT2] at hs
    simpa using hs
   simp only [Prod.mk.injEq] at this
   exact ⟨this.1,this.2.2⟩
  have blk2':T2.blk=W0.heap.size:=by rw [blk2,hT]
  have hT2nv:¬ T2.vir:=fun hh=>hh.2 k2
  obtain ⟨hB2,_,o2,ho2,hTO2⟩:=hok2.tok _ T2 hT2 hT2nv
  have hl2:w3.heap[W0.heap.size]?=some (recS rec s):=by
   rcases hTO2 with ⟨h1,_⟩ | ⟨_,h2,_⟩
   ·exact absurd k2 h1
   ·rw [ev2.1,ev2.2,hglp] at h2
    rw [← blk2',ho2,h2]
  rw [blk2'] at hB2
  have hBl:H.B≤W0.heap.size:=by rw [hevI.B,hH1] at hB2; exact hB2
  have hend:=run_endLoop (P:=P) (w:=w3) (l:=W0.heap.size) (r:={ rec with state:=if s=0 then .ready else if s=1 then .busy else .done,pending:=qjN s }) hl2 (by
   by_cases h0:s=0
   ·simp [h0]
   ·simp [h0,hs1])
  obtain ⟨rx,hrx⟩:∃ rx:Loop,rx={ rec with state:=.exhausted,pending:=qjN s }:=⟨_,rfl⟩
  obtain ⟨w4,hw4⟩:∃ w4,w4=w3.putObj W0.heap.size (.loop rx):=⟨_,rfl⟩
  have hend':(Instr.endLoop W0.heap.size).run P w3=.ok (qjN s) w4:=by rw [hw4,hrx]; exact hend
  -- the record is forgotten
  have hsz4:w4.heap.size=w3.heap.size:=by rw [hw4]; exact qcq ..
  have hle1:w.heap.size≤W0.heap.size:=hb0.size
  have hoth:∀ b,b≠W0.heap.size→w4.heap[b]?=w3.heap[b]?:=fun b hb=>by rw [hw4]; exact World.putObj_heap_other hb
  have hH1t:∀ u,u < σ.toks.length→H1.tk[u]?=H.tk[u]?:=fun u hu=>by
   rw [hH1]
   show (H.tk++[T])[u]?=H.tk[u]?
   rw [List.getElem?_append_left (by omega)]
  have htrim:∀ u U,(H2.trim σ.toks.length).tk[u]?=some U→u < σ.toks.length∧H2.tk[u]?=some U:=fun u U hu=>qdo hu
  have hokt:=qxl (m:=σ.toks.length) hok2
  have hnb:∀ (u:Nat) (U:Tok),(H2.trim σ.toks.length).tk[u]?=some U→¬ U.vir→U.blk≠W0.heap.size:=fun u U hu hvU e=>by
   obtain ⟨h1,h2⟩:=htrim u U hu
   have:=hok2.tnd u σ.toks.length U T2 h2 hT2 hvU hT2nv (by rw [e,blk2'])
   omega
  have hok4:Ok gl' (H2.trim σ.toks.length) (qe1 σ.toks.length σ2) w4:=by
   rw [hw4]
   exact qKS hokt (by show H2.B≤_; rw [hevI.B,hH1]; exact hBl) hl2 hnb
  have hold:∀ (u:Nat) (U:Tok),(H2.trim σ.toks.length).tk[u]?=some U→U.k=0→∃ U0,H.tk[u]?=some U0∧U0.k=0∧U.e=U0.e:=fun u U hu hk=>by
   obtain ⟨h1,h2⟩:=htrim u U hu
   obtain ⟨U0,g1,g2⟩:=hevI.old u U h2 hk
   obtain ⟨U1,g3,g4⟩:=hevI.tok u U0 g1
   rw [h2] at g3
   cases g3
   rw [hH1t u h1] at g1
   exact ⟨U0,g1,g2,(g4.lp g2).2.2.1⟩
  have hok5:Ok gl (H2.trim σ.toks.length) (qe1 σ.toks.length σ2) w4:=hok4.lp hgv.symm fun u U hu hk=>by
   obtain ⟨U0,g1,g2,g3⟩:=hold u U hu hk
   have:=hother U.e (by rw [g3]; exact hfreshT u U0 g1 g2)
   exact ⟨this.1.symm,this.2.symm⟩
  have hev5:Ev gl H w (H2.trim σ.toks.length) w4:=by
   refine ⟨hevI.B.trans (by rw [hH1]),hevI.base.trans (by rw [hH1]),hevI.aux.trans (by rw [hH1]),hevI.K.trans (by rw [hH1]),?_,?_,?_,?_,fun id b hb=>hevI.ob id b (by rw [hH1]; exact hb),fun u U hu=>?_,fun b off hp=>?_,fun b hb=>?_,?_,fun b ds hb=>?_,fun u U hu hk=>?_⟩
   ·rw [hw4]; exact hevI.os.trans hb1.os
   ·rw [hw4]; exact hevI.tape.trans hb1.tape
   ·rw [hw4]; exact hevI.output.trans hb1.output
   ·rw [hsz4]; exact Nat.le_trans hb1.size hevI.size
   ·have hlt:u < σ.toks.length:=by have:=(List.getElem?_eq_some_iff.1 hu).1; omega
    obtain ⟨U',g1,g2⟩:=hevI.tok u U (by rw [hH1t u hlt]; exact hu)
    exact ⟨U',by simp only [Gh.trim]; rw [List.getElem?_take,if_pos hlt]; exact g1,g2⟩
   ·have hbne:b≠W0.heap.size:=fun e=>by have:=hp.1; omega
    obtain ⟨p1,c1⟩:=(hm0.trans hm1).prot b off hp
    obtain ⟨p2,c2⟩:=hevI.prot b off p1
    have p3:=qig (m:=σ.toks.length) p2
    exact ⟨⟨by rw [hsz4]; exact p3.1,p3.2⟩,fun s=>(World.cell?_of_block (a:=⟨b,off,s⟩) (hoth b hbne)).trans ((c2 s).trans (c1 s))⟩
   ·exact (hoth b (by omega)).trans ((hevI.block b (by rw [hH1]; exact hb)).trans (hb1.block b (Nat.lt_of_lt_of_le hb hok.B)))
   ·intro hg
    have h1:w.drawn≤W1.drawn:=by rw [hW1]; show w.drawn≤W0.drawn; rw [hdr0]; exact Nat.le_refl _
    have h2:=hevI.dr (fun b=>by rw [hgv]; exact hg b)
    rw [hw4]
    exact Nat.le_trans h1 h2
   ·have hlt:=qax hb
    exact (hoth b (by omega)).trans (hevI.fix b ds ((hb1.block b hlt).trans hb))
   ·obtain ⟨U0,g1,g2,_⟩:=hold u U hu hk
    exact ⟨U0,g1,g2⟩
  have hmk5:Marks (H2.trim σ.toks.length).K (mark++a.defers) w4:=by
   obtain ⟨m1,Ds,m2,m3,m4⟩:=hmark
   refine ⟨?_,Ds,m2,m3,fun D' hD'=>⟨?_,?_⟩⟩
   ·rw [hev5.K]; exact Nat.le_trans m1 (by rw [hsz4]; refine Nat.le_trans ?_ hevI.size; rw [hW1]; simp)
   ·rw [hev5.K]; exact (m4 D' hD').1
   ·have hlt:=qax (m4 D' hD').2
    refine (hoth D' (by omega)).trans (hevI.fix D' _ ?_)
    rw [hW1]
    exact ((qbQ W0 _).block D' hlt).trans (m4 D' hD').2
  have hst5:St gl H0 w0 fr (qe1 σ.toks.length σ2) { a with defers:=mark++a.defers } w4:=⟨_,hev.trans hev5,hok5,hfr.mono hev5.mono,hmk5⟩
  have hfin:=hq _ _ hst5
  refine ⟨qjN s,w4,hend',?_⟩
  unfold exOf at hfin
  unfold qjN
  by_cases h2:s=2
  ·simp only [h2,if_true] at hfin ⊢
   exact wpIn_ret hfin
  ·by_cases h3:3≤s
   ·simp only [h2,h3,if_true,if_false] at hfin ⊢
    exact wpIn_exit hfin
   ·simp only [h2,h3,if_false] at hfin ⊢
    exact hfin
end Go.Pv
set_option linter.unusedSimpArgs false
set_option linter.unusedVariables false
namespace Go.Pv
open Go.RowKit Tr
mutual
def qnD (n m:Nat):PV→Bool
 | .ptr id _=>Nat.blt id n
 | .osl id _ _ _=>Nat.blt id n
 | .yld t=>Nat.blt t m
 | .sl _ _=>false
 | .ref cs=>qnA n m cs
 | .fn _ cs=>qnA n m cs
 | .iface _ v=>qnD n m v
 | .agg cs=>qnA n m cs
 | .tup cs=>qnA n m cs
 | _=>true
def qnA (n m:Nat):List PV→Bool
 | []=>true
 | x :: xs=>qnD n m x && qnA n m xs
end
mutual
theorem qyO {n m:Nat}:∀ {x:PV},qnD n m x=true→(∀ n',n≤n'→qc7 n' x=x)∧∀ m',m≤m'→dropT m' x=x
 | .top,_=>⟨fun _ _=>rfl,fun _ _=>rfl⟩
 | .bool _,_=>⟨fun _ _=>rfl,fun _ _=>rfl⟩
 | .int _ _,_=>⟨fun _ _=>rfl,fun _ _=>rfl⟩
 | .str _,_=>⟨fun _ _=>rfl,fun _ _=>rfl⟩
 | .nilp,_=>⟨fun _ _=>rfl,fun _ _=>rfl⟩
 | .nilf,_=>⟨fun _ _=>rfl,fun _ _=>rfl⟩
 | .nili,_=>⟨fun _ _=>rfl,fun _ _=>rfl⟩
 | .ptr id off,h=>by
  have h:id < n:=by simpa [qnD] using h
  refine ⟨fun n' hn=>?_,fun _ _=>rfl⟩
  simp only [qc7]
  rw [show decide (id < n')=true from by simp; omega]
  rfl
 | .osl id off len k,h=>by
  have h:id < n:=by simpa [qnD] using h
  refine ⟨fun n' hn=>?_,fun _ _=>rfl⟩
  simp only [qc7]
  rw [show decide (id < n')=true from by simp; omega]
  rfl
 | .yld t,h=>by
  have h:t < m:=by simpa [qnD] using h
  refine ⟨fun _ _=>rfl,fun m' hm=>?_⟩
  simp only [dropT]
  rw [show decide (t < m')=true from by simp; omega]
  rfl
 | .sl _ _,h=>by simp [qnD] at h
 | .ref cs,h=>by
  simp only [qnD] at h
  have:=qgN h
  exact ⟨fun n' hn=>by simp only [qc7]; rw [this.1 n' hn],fun m' hm=>by simp only [dropT]; rw [this.2 m' hm]⟩
 | .fn f cs,h=>by
  simp only [qnD] at h
  have:=qgN h
  exact ⟨fun n' hn=>by simp only [qc7]; rw [this.1 n' hn],fun m' hm=>by simp only [dropT]; rw [this.2 m' hm]⟩
 | .iface t v,h=>by
  simp only [qnD] at h
  have:=qyO h
  exact ⟨fun n' hn=>by simp only [qc7]; rw [this.1 n' hn],fun m' hm=>by simp only [dropT]; rw [this.2 m' hm]⟩
 | .agg cs,h=>by
  simp only [qnD] at h
  have:=qgN h
  exact ⟨fun n' hn=>by simp only [qc7]; rw [this.1 n' hn],fun m' hm=>by simp only [dropT]; rw [this.2 m' hm]⟩
 | .tup cs,h=>by
  simp only [qnD] at h
  have:=qgN h
  exact ⟨fun n' hn=>by simp only [qc7]; rw [this.1 n' hn],fun m' hm=>by simp only [dropT]; rw [this.2 m' hm]⟩
theorem qgN {n m:Nat}:∀ {xs:List PV},qnA n m xs=true→(∀ n',n≤n'→qca n' xs=xs)∧∀ m',m≤m'→qco m' xs=xs
 | [],_=>⟨fun _ _=>rfl,fun _ _=>rfl⟩
 | x :: xs,h=>by
  simp only [qnA,Bool.and_eq_true] at h
  have h1:=qyO h.1
  have h2:=qgN h.2
  exact ⟨fun n' hn=>by simp only [qca]; rw [h1.1 n' hn,h2.1 n' hn],fun m' hm=>by simp only [qco]; rw [h1.2 m' hm,h2.2 m' hm]⟩
end
def qIP:PV→PV→Bool
 | .top,.top=>true
 | .nilp,.nilp=>true
 | .ptr a b,.ptr c d=>Nat.beq a c && Nat.beq b d
 | _,_=>false
def qzf:List PV→List PV→Bool
 | [],[]=>true
 | x :: xs,y :: ys=>qIP x y && qzf xs ys
 | _,_=>false
theorem qHn:∀ {x y:PV},qIP x y=true→x=y:=by
 intro x y h
 unfold qIP at h
 split at h
 ·rfl
 ·rfl
 ·simp only [Bool.and_eq_true] at h
  rw [Nat.eq_of_beq_eq_true h.1,Nat.eq_of_beq_eq_true h.2]
 ·cases h
theorem qvw:∀ {xs ys:List PV},qzf xs ys=true→xs=ys
 | [],[],_=>rfl
 | x :: xs,y :: ys,h=>by
  simp only [qzf,Bool.and_eq_true] at h
  rw [qHn h.1,qvw h.2]
 | [],_ :: _,h=>by cases h
 | _ :: _,[],h=>by cases h
structure RI where
 nt:Nat
 ss:List Nat
 bs:List Nat
 vs:List PV
 ps:List Nat
 e:Nat
def RI.fr (I:RI):List PV:=Go.Pv.mk I.nt (I.bs.zip I.vs)
def qAH (k:Nat):Code→Option Code
 | .seq a b=>match qAH k a with
  | some c=>some c
  | none=>qAH k b
 | .cond _ a b=>match qAH k a with
  | some c=>some c
  | none=>qAH k b
 | .block _ c=>qAH k c
 | .rangeFunc g ps x y=>if rfid x y=k then some (.rangeFunc g ps x y) else none
 | _=>none
def rngC (fn:Func) (k:Nat):Code:=match fn.body with
 | some c=>(qAH k c).getD .skip
 | none=>.skip
def rngX:Code→Code
 | .rangeFunc _ _ x _=>x
 | _=>.skip
def rngY:Code→Code
 | .rangeFunc _ _ _ y=>y
 | _=>.skip
def rngG:Code→Operand
 | .rangeFunc g _ _ _=>g
 | _=>.tmp 0
def rngP:Code→Array Tmp
 | .rangeFunc _ ps _ _=>ps
 | _=>#[]
def rngO (c:Code):Code:=.rangeFunc (rngG c) (rngP c) (rngX c) (rngY c)
def qlJ (n:Nat) (σ:Store):Store:=if σ.objs.length≤n then σ else dropS n σ
def trimR (n m:Nat) (σ:Store):Store :=
 if (qlJ n σ).toks.length≤max m (qq3 (qlJ n σ).objs) then qlJ n σ else qe1 (max m (qq3 (qlJ n σ).objs)) (qlJ n σ)
noncomputable def qvd (tb:Tab) (G:GamT) (L:LpsT) (I:RI) (x y:Code) (t:Nat) (args:List PV) (σ:Store):Tr (Bool × Store) :=
 if args.length=I.ps.length then
  bind (texec tb G L x [] (puts I.fr I.ps args) σ) fun r=>match r.1 with
   | .normal=>match r.2.2.2.toks[t]? with
    | some (0,0,e)=>if e=I.e then
      bind (texec tb G L y [] r.2.2.1 { r.2.2.2 with toks:=r.2.2.2.toks.set t (1,0,I.e) }) fun q=>match q.2.2.2.toks[t]? with
       | some (1,0,e)=>if e=I.e then .ret (isNo q.1,{ q.2.2.2 with toks:=q.2.2.2.toks.set t (stOf q.1,0,I.e) }) else .fail
       | _=>.fail
     else .fail
    | _=>.fail
   | _=>.fail
 else .fail
noncomputable def rtree (tb:Tab) (G:GamT) (L:LpsT) (I:RI) (x y:Code) (t:Nat) (args:List PV) (σ:Store):Tr (PV × Store) :=
 bind (qvd tb G L I x y t args σ) fun r=>.ret (.bool r.1,trimR σ.objs.length σ.toks.length r.2)
def qy3 (e:Nat):List (Nat × Nat × TypeId)→Bool
 | []=>true
 | (_,k,e') :: l=>(!Nat.beq k 0 || !Nat.beq e' e) && qy3 e l
theorem quN {e:Nat}:∀ {l:List (Nat × Nat × TypeId)},qy3 e l=true→∀ (i v k e':Nat),l[i]?=some (v,k,e')→k=0→e'≠e
 | [],_,i,v,k,e',h,_=>by cases i <;> cases h
 | (v0,k0,e0) :: l,h,i,v,k,e',hi,hk=>by
  simp only [qy3,Bool.and_eq_true] at h
  cases i with
  | zero =>
   cases hi
   subst hk
   intro e1
   subst e1
   simp at h
  | succ i=>exact quN h.2 i v k e' hi hk
noncomputable def rorc (I:RI) (g:Operand) (gf:FuncId) (D:List PV→Store→Tr (PV × Store)) (fr:List PV) (σ:Store):Tr (PExit × List PV × Store) :=
 if fr.length=I.nt then
  match ev (mk I.nt (I.ss.zip (rsl I.ss fr))) g with
  | .fn f caps =>
   if f=gf then
    if qzf (rsl I.bs (mk I.nt (I.ss.zip (rsl I.ss fr)))) I.vs && qy3 I.e σ.toks && qnA σ.objs.length σ.toks.length (mk I.nt (I.ss.zip (rsl I.ss fr))) then
     bind (D (.yld σ.toks.length :: caps) { σ with toks:=σ.toks++[(0,0,I.e)] }) fun r=>match r.2.toks[σ.toks.length]? with
      | some (s,0,e)=>if e=I.e then if s=1 then .fail else .ret (exOf s,mk I.nt (I.ss.zip (rsl I.ss fr)),qlJ σ.objs.length (qe1 σ.toks.length r.2)) else .fail
      | _=>.fail
    else .fail
   else .fail
  | _=>.fail
 else .fail
theorem qgi {α β:Type} (f:α→β):∀ (t:Tr α),(bind t fun r=>.ret (f r)).run=t.run.map f
 | .ret a=>rfl
 | .fail=>rfl
 | .ite b x y=>by
  simp only [Tr.bind,Tr.run_ite]
  cases b <;> simp [qgi f x,qgi f y]
 | .get xs i z k=>by
  simp only [Tr.bind,Tr.run_get]
  cases xs[i]? with
  | none=>rfl
  | some cs=>exact qgi f (k cs)
section
variable {P : Program} {tb : Tab} {gl : Gl}
theorem Does.into {c:Code} {fr fr1:List PV} {σ:Store} {e:PExit} {fr':List PV} {σ':Store} (hw:Weak fr fr1) (h:Does P gl c fr1 σ e fr' σ'):Does P gl c fr σ e fr' σ' :=
 fun r n H0 w0 hR Q a w hst hq=>h r n H0 w0 hR Q a w (qxd hw hst) hq
theorem qsc (l:List (Nat × PV)):∀ (n i:Nat),(qcr l n i).length=n
 | 0,_=>rfl
 | n+1,i=>by simp [qcr,qsc l n (i+1)]
theorem qLw (n:Nat) (l:List (Nat × PV)):(mk n l).length=n:=qsc l n 0
theorem Weak.set:∀ {xs ys:List PV} (i:Nat) (x:PV),Weak xs ys→Weak (xs.set i x) (ys.set i x)
 | [],[],_,_,_=>trivial
 | a :: xs,b :: ys,0,x,h=>⟨.inr rfl,h.2⟩
 | a :: xs,b :: ys,i+1,x,h=>⟨h.1,Weak.set i x h.2⟩
 | [],_ :: _,_,_,h=>by cases h
 | _ :: _,[],_,_,h=>by cases h
theorem Weak.puts:∀ (ps:List Tmp) (zs:List PV) {xs ys:List PV},Weak xs ys→Weak (puts xs ps zs) (puts ys ps zs)
 | [],_,_,_,h=>by simpa [Go.Pv.puts] using h
 | _ :: _,[],_,_,h=>by simpa [Go.Pv.puts] using h
 | p :: ps,a :: zs,xs,ys,h=>by
  simp only [Go.Pv.puts]
  exact Weak.puts ps zs (h.set p a)
theorem qDq {G:GamT} {L:LpsT} {I:RI} {x y:Code} (hT:qbY P tb) (hΓ:qaR P gl (gam G)) (hm:P.follows .mixedOrders=true) (hLx:qcj P gl (lps L) x) (hLy:qcj P gl (lps L) y) (hdx:qbE (gam G) x=true) (hdy:qbE (gam G) y=true)
  {t:Nat} {args:List PV} {σ:Store} {b:Bool} {σ':Store} (h:(qvd tb G L I x y t args σ).run=some (b,σ')) {fr:List PV} (hw:Weak fr I.fr) :
  ∃ fr1 σ1 ex fr2 σ2,args.length=I.ps.length∧Does P gl x (puts fr I.ps args) σ .normal fr1 σ1∧σ1.toks[t]?=some (0,0,I.e) ∧
   Does P gl y fr1 { σ1 with toks:=σ1.toks.set t (1,0,I.e) } ex fr2 σ2∧σ2.toks[t]?=some (1,0,I.e)∧b=isNo ex∧σ'={ σ2 with toks:=σ2.toks.set t (stOf ex,0,I.e) }:=by
 unfold qvd at h
 split at h
 ·rename_i hl
  obtain ⟨⟨e1,kn1,fr1,σ1⟩,h1,h2⟩:=bind_some h
  have d1:=Does.into (Weak.puts I.ps args hw) (Does.of_tree hT hΓ hm hLx hdx h1)
  simp only at h2
  cases e1 with
  | normal =>
   simp only at h2
   split at h2
   ·rename_i e ht
    split at h2
    ·rename_i hee
     subst hee
     obtain ⟨⟨ex,kn2,fr2,σ2⟩,h3,h4⟩:=bind_some h2
     have d2:=Does.of_tree hT hΓ hm hLy hdy h3
     simp only at h4
     split at h4
     ·rename_i e ht2
      split at h4
      ·rename_i hee
       simp only [Tr.run_ret,Option.some.injEq,Prod.mk.injEq] at h4
       refine ⟨fr1,σ1,ex,fr2,_,hl,d1,ht,d2,?_,h4.1.symm,h4.2.symm⟩
       rw [ht2,hee]
      ·cases h4
     ·cases h4
    ·cases h2
   ·cases h2
  | exit j=>cases h2
  | ret=>cases h2
 ·cases h
theorem Post.dropS {H:Gh} {σ σ':Store} {w w':World} {b:Bool} {v:Value} {n:Nat} (hok:Ok gl H σ w) (hn:σ.objs.length≤n) (h:Post gl H w (.bool b) σ' v w'):Post gl H w (.bool b) (Go.Pv.dropS n σ') v w':=by
 obtain ⟨H',hev,hok',hx⟩:=h
 have hn':H.ob.length≤n:=by rw [hok.len]; exact hn
 refine ⟨H'.keep n,⟨hev.B,hev.base,hev.aux,hev.K,hev.os,hev.tape,hev.output,hev.size,fun id b hid=>?_,hev.tok,fun b off hp=>⟨ql4 (hev.prot b off hp).1,(hev.prot b off hp).2⟩,hev.block,hev.dr,hev.fix,hev.old⟩,qEl hok' (fun t T e hk=>?_),?_⟩
 ·simp only [Gh.keep]
  rw [List.getElem?_take,if_pos (Nat.lt_of_lt_of_le (List.getElem?_eq_some_iff.1 hid).1 hn')]
  exact hev.ob id b hid
 ·obtain ⟨T0,e0,k0⟩:=hev.old t T e hk
  obtain ⟨T1,e1,u⟩:=hev.tok t T0 e0
  rw [e] at e1
  cases e1
  rw [(u.lp k0).2.2.2]
  obtain ⟨_,_,o,_,ho⟩:=hok.tok t T0 e0 (fun hh=>hh.2 k0)
  rcases ho with ⟨h1,_⟩ | ⟨_,_,r,_,_,_,h6,_⟩
  ·exact absurd k0 h1
  ·omega
 ·cases hx
  exact .bool b
theorem Post.dropT {H:Gh} {σ σ':Store} {w w':World} {b:Bool} {v:Value} {m:Nat} (hok:Ok gl H σ w) (hm:σ.toks.length≤m) (h:Post gl H w (.bool b) σ' v w'):Post gl H w (.bool b) (qe1 m σ') v w':=by
 obtain ⟨H',hev,hok',hx⟩:=h
 have hl:H.tk.length≤m:=by
  have:=congrArg List.length hok.tkl
  simp at this
  omega
 refine ⟨H'.trim m,⟨hev.B,hev.base,hev.aux,hev.K,hev.os,hev.tape,hev.output,hev.size,hev.ob,fun t T ht=>?_,fun b off hp=>⟨qig (hev.prot b off hp).1,(hev.prot b off hp).2⟩,hev.block,hev.dr,hev.fix,fun t T e hk=>hev.old t T (qdo e).2 hk⟩,qxl hok',?_⟩
 ·obtain ⟨T',h1,h2⟩:=hev.tok t T ht
  refine ⟨T',?_,h2⟩
  simp only [Gh.trim]
  rw [List.getElem?_take,if_pos (Nat.lt_of_lt_of_le (List.getElem?_eq_some_iff.1 ht).1 hl)]
  exact h1
 ·cases hx
  exact .bool b
theorem Post.trimR {H:Gh} {σ σ':Store} {w w':World} {b:Bool} {v:Value} {n m:Nat} (hok:Ok gl H σ w) (hn:σ.objs.length≤n) (hm:σ.toks.length≤m) (h:Post gl H w (.bool b) σ' v w'):Post gl H w (.bool b) (Go.Pv.trimR n m σ') v w':=by
 have h1:Post gl H w (.bool b) (qlJ n σ') v w':=by
  unfold qlJ
  split
  ·exact h
  ·exact h.dropS hok hn
 unfold Go.Pv.trimR
 split
 ·exact h1
 ·exact h1.dropT hok (Nat.le_trans hm (Nat.le_max_left _ _))
theorem YCalls.mono {P:Program} {l:Nat} {args:Array Value} {w:World} {R R':Ending→World→Prop} (h:YCalls P l args w R) (hR:∀ e w',R e w'→R' e w'):YCalls P l args w R':=by
 obtain ⟨f,tmps,assign,body,h1,h2⟩:=h
 exact ⟨f,tmps,assign,body,h1,h2.mono hR⟩
theorem qAL {e:Nat} {Y0:Nat→List PV→Store→Option (Bool × Store)} (h:qnC P gl qe2 (.yld e fun t args σ=>(Y0 t args σ).map fun r=>(.bool r.1,r.2))) :
  qnC P gl qe2 (.yld e fun t args σ=>(Y0 t args σ).map fun r=>(.bool r.1,trimR σ.objs.length σ.toks.length r.2)):=by
 intro t args σ x σ' ht hy H w vs T hok hr hT
 obtain ⟨r,hr0,he⟩:=Option.map_eq_some_iff.1 hy
 simp only [Prod.mk.injEq] at he
 obtain ⟨rfl,rfl⟩:=he
 refine YCalls.mono (h t args σ (.bool r.1) r.2 ht (by simp only [hr0,Option.map_some]) H w vs T hok hr hT) ?_
 rintro e w' ⟨v,rfl,hp⟩
 exact ⟨v,rfl,hp.trimR hok (Nat.le_refl _) (Nat.le_refl _)⟩
theorem qJb {G:GamT} {L:LpsT} {I:RI} {g:Operand} {ps:Array Tmp} {x y:Code} {gf:FuncId} {D:List PV→Store→Tr (PV × Store)} (hT:qbY P tb) (hΓ:∀ gl':Gl,gl'.v=gl.v→qaR P gl' (gam G)) (hm:P.follows .mixedOrders=true)
  (hLx:∀ gl':Gl,gl'.v=gl.v→qcj P gl' (lps L) x) (hLy:∀ gl':Gl,gl'.v=gl.v→qcj P gl' (lps L) y) (hdx:qbE (gam G) x=true) (hdy:qbE (gam G) y=true) (hps:ps.toList=I.ps)
  (hent : ∃ fn, P.funcs[gf]? = some fn ∧ (fn.name == "runtime.NumGoroutine") = false ∧ fn.body.isNone = false)
  (hI:∀ gl':Gl,gl'.v=gl.v→qnC P gl' qe2 (.yld I.e fun t args σ=>(rtree tb G L I x y t args σ).run)→SimS P gl' gf fun args σ=>(D args σ).run) :
  ∀ fr σ e fr' σ',(rorc I g gf D fr σ).run=some (e,fr',σ')→Does P gl (.rangeFunc g ps x y) fr σ e fr' σ':=by
 intro fr σ e fr' σ' h
 unfold rorc at h
 split at h
 ·rename_i hn
  have hw:=qlC fr I.ss
  rw [hn] at hw
  generalize hfr1:mk I.nt (I.ss.zip (rsl I.ss fr))=fr1 at h hw
  have hl1:fr1.length=I.nt:=by rw [← hfr1]; exact qLw _ _
  split at h
  ·rename_i f caps hg
   split at h
   ·rename_i hf
    subst hf
    split at h
    ·rename_i hk
     simp only [Bool.and_eq_true] at hk
     obtain ⟨⟨hk1,hk2⟩,hk3⟩:=hk
     obtain ⟨⟨v,σ2⟩,h1,h2⟩:=bind_some h
     have hkeep:=qgN hk3
     simp only at h2
     split at h2
     ·rename_i s e' hs
      split at h2
      ·rename_i hee
       subst hee
       split at h2
       ·cases h2
       ·rename_i hs1
        simp only [Tr.run_ret,Option.some.injEq,Prod.mk.injEq] at h2
        obtain ⟨rfl,rfl,rfl⟩:=h2
        have hw2:Weak fr1 I.fr:=by
         have:=qlC fr1 I.bs
         rw [hl1,qvw hk1] at this
         exact this
        have hd:=qBi (P:=P) (gl:=gl) (g:=g) (ps:=ps) (assign:=x) (body:=y) (fr:=fr1) (σ:=σ) hg I.e hent (Y:=fun t args σ=>(qvd tb G L I x y t args σ).run.map fun r=>(.bool r.1,r.2)) (D:=fun args σ=>(D args σ).run)
         (quN hk2) hkeep.1 hkeep.2 (fun gl' hv hc=>hI gl' hv (by
          have:=qAL (Y0:=fun t args σ=>(qvd tb G L I x y t args σ).run) hc
          simp only [rtree,qgi]
          exact this)) (fun gl' hv t args σ x' σ' hy=>by
          obtain ⟨r,hr,he⟩:=Option.map_eq_some_iff.1 hy
          simp only [Prod.mk.injEq] at he
          obtain ⟨rfl,rfl⟩:=he
          obtain ⟨q1,q2,q3,q4,q5,q6,q7,q8,q9,q10,q11⟩:=qDq hT (hΓ gl' hv) hm (hLx gl' hv) (hLy gl' hv) hdx hdy hr hw2
          rw [hps]
          exact ⟨q1,q2,q3,q4,q5,by rw [q6,← hps]; simp,q7,q8,q9,q10,by rw [q11.1],q11.2⟩) h1 hs hs1
        have hd2:=Does.into hw hd
        unfold qlJ
        split
        ·exact hd2
        ·have:=hd2.drop (n:=σ.objs.length) (Nat.le_refl _)
         rw [hkeep.1 _ (Nat.le_refl _)] at this
         exact this
      ·cases h2
     ·cases h2
    ·cases h
   ·cases h
  ·cases h
 ·cases h
end
end Go.Pv
set_option linter.unusedSimpArgs false
set_option linter.unusedVariables false
namespace Go.Pv
section
variable {α : Type} (C : Cod α)
theorem qaQ (l:List α) (i:Nat):(rOf C l).getD i []=match l[i]? with | some a=>C.enc a | none=>[]:=by
 rw [List.getD_eq_getElem?_getD,qDe]
 cases l[i]? <;> rfl
theorem qHa (z:List PV) (l:List α) (i:Nat) (h:∀ a,selF z [C.enc a] 0 0=C.enc a) (hs:∀ (xs:List (List PV)) (k j:Nat) (c:List PV),xs[k]?=some c→selF z xs k j=selF z [c] 0 j):qbM z (rOf C l) i=decide (i < l.length):=by
 unfold qbM
 congr 1
 rw [qDe]
 cases hi:l[i]? with
 | none =>
  have:¬ i < l.length:=by simpa using hi
  simp [this]
 | some a =>
  have hl:=(List.getElem?_eq_some_iff.1 hi).1
  have hx:(rOf C l)[i]?=some (C.enc a):=by simp [hi]
  rw [hs _ _ _ _ hx,h]
  simp [hl]
end
theorem qIl (c:PV) {xs:List (List PV)} {k j:Nat} {d:List PV} (h:xs[k]?=some d):selC c xs k j=selC c [d] 0 j:=by
 have e:xs.getD k []=d:=by rw [List.getD_eq_getElem?_getD,h]; rfl
 have e':([d]:List (List PV)).getD 0 []=d:=rfl
 cases c <;> simp only [selC,xInt,qcm,xStr,xRow,xPV,e,e']
theorem qFk:∀ (z:List PV) (xs:List (List PV)) (k j:Nat) (d:List PV),xs[k]?=some d→selF z xs k j=selF z [d] 0 j
 | [],_,_,_,_,_=>rfl
 | c :: z,xs,k,j,d,h=>by simp only [selF]; rw [qIl c h,qFk z xs k (j+1) d h]
theorem qc8 {α:Type} (C:Cod α) (z:List PV) (h:∀ a,selF z [C.enc a] 0 0=C.enc a) (l:List α) (i:Nat):qbM z (rOf C l) i=decide (i < l.length):=qHa C z l i h (qFk z)
@[simp] theorem okGet_cI (l:List Int) (i:Nat):qbM [.int .i64 0] (rOf cI l) i=decide (i < l.length):=qc8 _ _ (fun _=>rfl) l i
@[simp] theorem xInt_cI0 (l:List Int) (i:Nat):xInt (rOf cI l) i 0=(l[i]?.getD 0):=by unfold xInt; rw [qaQ]; cases l[i]? <;> rfl
@[simp] theorem okGet_cM (l:List Tm) (i:Nat):qbM [.int .i64 0,.str [],.int .i64 0,.int .i64 0,.str []] (rOf cM l) i=decide (i < l.length):=qc8 _ _ (fun _=>rfl) l i
@[simp] theorem xInt_cM0 (l:List Tm) (i:Nat):xInt (rOf cM l) i 0=(l[i]?.getD (0,[],0,0,[])).1:=by unfold xInt; rw [qaQ]; cases l[i]? <;> rfl
@[simp] theorem xStr_cM1 (l:List Tm) (i:Nat):xStr (rOf cM l) i 1=(l[i]?.getD (0,[],0,0,[])).2.1:=by unfold xStr; rw [qaQ]; cases l[i]? <;> rfl
@[simp] theorem xInt_cM2 (l:List Tm) (i:Nat):xInt (rOf cM l) i 2=(l[i]?.getD (0,[],0,0,[])).2.2.1:=by unfold xInt; rw [qaQ]; cases l[i]? <;> rfl
@[simp] theorem xInt_cM3 (l:List Tm) (i:Nat):xInt (rOf cM l) i 3=(l[i]?.getD (0,[],0,0,[])).2.2.2.1:=by unfold xInt; rw [qaQ]; cases l[i]? <;> rfl
@[simp] theorem xStr_cM4 (l:List Tm) (i:Nat):xStr (rOf cM l) i 4=(l[i]?.getD (0,[],0,0,[])).2.2.2.2:=by unfold xStr; rw [qaQ]; cases l[i]? <;> rfl
def cS:Cod (List UInt8) where
 enc s:=[.str s]
 dec c:=match c with | [.str s]=>some s | _=>none
 k:=1
 of_dec c a h:=by
  split at h
  ·cases h; rfl
  ·cases h
 dec_of a:=rfl
 lock a:=rfl
 shut a:=rfl
 len a:=rfl
 one a:=rfl
@[simp] theorem qeU (l:List (List UInt8)):qaC (rOf cS l) 1=true:=qcp cS l
@[simp] theorem okNews_cS (l:List (List UInt8)):qaO (rOf cS l) 1=true:=qck cS l
@[simp] theorem okGet_cS (l:List (List UInt8)) (i:Nat):qbM [.str []] (rOf cS l) i=decide (i < l.length):=qc8 _ _ (fun _=>rfl) l i
@[simp] theorem xStr_cS0 (l:List (List UInt8)) (i:Nat):xStr (rOf cS l) i 0=(l[i]?.getD []):=by unfold xStr; rw [qaQ]; cases l[i]? <;> rfl
@[simp] theorem qfQ (s:List UInt8):([[.str s]]:List (List PV))=rOf cS [s]:=rfl
@[simp] theorem qJ0 (l:List Tm) (a:Int) (b:List UInt8) (k n:Int) (s:List UInt8):rOf cM l++[[.int .i64 a,.str b,.int .i64 k,.int .i64 n,.str s]]=rOf cM (l++[(a,b,k,n,s)]):=by rw [qgw]; rfl
@[simp] theorem one_cM (a:Int) (b:List UInt8) (k n:Int) (s:List UInt8):([[.int .i64 a,.str b,.int .i64 k,.int .i64 n,.str s]]:List (List PV))=rOf cM [(a,b,k,n,s)]:=rfl
@[simp] theorem rOf_append {α:Type} (C:Cod α) (a b:List α):rOf C a++rOf C b=rOf C (a++b):=(qgw C a b).symm
@[simp] theorem cons_cM (l:List Tm) (a:Int) (b:List UInt8) (k n:Int) (s:List UInt8):[.int .i64 a,.str b,.int .i64 k,.int .i64 n,.str s] :: rOf cM l=rOf cM ((a,b,k,n,s) :: l):=rfl
@[simp] theorem cons_cS (l:List (List UInt8)) (s:List UInt8):[.str s] :: rOf cS l=rOf cS (s :: l):=rfl
@[simp] theorem lockLL_nil':qaa []=[]:=rfl
@[simp] theorem shutLL_nil':qb5 []=[]:=rfl
@[simp] theorem dropPLL_nil' (n:Nat):qay n []=[]:=rfl
@[simp] theorem dropTLL_nil' (n:Nat):qdv n []=[]:=rfl
@[simp] theorem pnil_rOf {α:Type} (C:Cod α):(rOf C []:List (List PV))=[]:=rfl
def aT {α:Type}:List α→Tag
 | []=>.full
 | _=>.tok 0
def aS (k:Nat) (e:TypeId) {α:Type}:List α→Store
 | []=>⟨[],[],[]⟩
 | a :: l=>⟨[],[((a :: l).length,k,e)],[]⟩
@[simp] theorem qLd {α:Type}:aT ([]:List α)=.full:=rfl
@[simp] theorem qLh {α:Type} (k:Nat) (e:TypeId):aS k e ([]:List α)=⟨[],[],[]⟩:=rfl
theorem qI0 {α:Type} (l:List α) (a:α):aT (l++[a])=.tok 0:=by cases l <;> rfl
theorem qKq {α:Type} (k:Nat) (e:TypeId) (l:List α) (a:α):aS k e (l++[a])=⟨[],[((l++[a]).length,k,e)],[]⟩:=by cases l <;> rfl
theorem qbw {i:Nat} (h:i < 9223372036854775807):iAdd .i64 (i:Int) 1=((i+1:Nat):Int):=qbo (by omega)
end Go.Pv
set_option maxHeartbeats 4000000
set_option maxRecDepth 200000
set_option linter.unusedSimpArgs false
set_option linter.unusedVariables false
namespace Go.Pv
open Go Go.Proofs Go.RowKit
def twosV:List (List UInt8):=[[58,45],[60,61],[62,61],[33,61]]
structure GlLex (gl:Gl):Prop extends GlOk gl where
 twos : VarIs gl "pedigree/lex.twos" (twosV.map fun l => Value.string ⟨l.toArray⟩).toArray
theorem GlPow.of_v {gl gl':Gl} (h:GlPow gl) (e:gl'.v=gl.v):GlPow gl':=by
 obtain ⟨h⟩:=h
 exact ⟨by unfold VarIs at *; rw [e]; exact h⟩
theorem GlOk.of_v {gl gl':Gl} (h:GlOk gl) (e:gl'.v=gl.v):GlOk gl':=by
 obtain ⟨h1,h2,h3⟩:=h
 exact ⟨h1.of_v e,by unfold VarIs at *; rw [e]; exact h2,by unfold VarIs at *; rw [e]; exact h3⟩
theorem GlLex.of_v {gl gl':Gl} (h:GlLex gl) (e:gl'.v=gl.v):GlLex gl':=by
 obtain ⟨h1,h2⟩:=h
 exact ⟨h1.of_v e,by unfold VarIs at *; rw [e]; exact h2⟩
def qBs:List PV:=[.str [58,45],.str [60,61],.str [62,61],.str [33,61]]
theorem qEF : Tryz.prog.globalNamed "pedigree/lex.twos" = some 0 := by kernel_rfl
theorem qzD {gl:Gl} (h:GlLex gl):qnC Tryz.prog gl (qxp+0) (.glob qBs):=by
 obtain ⟨g,T,f,h1,h2⟩:=h.twos
 rw [qEF] at h1
 cases h1
 refine ⟨_,T,f,by rw [Nat.add_sub_cancel_left]; exact h2,fun H w=>?_⟩
 exact .cons _ _ _ _ (.str [58,45] (by decide)) (.cons _ _ _ _ (.str [60,61] (by decide)) (.cons _ _ _ _ (.str [62,61] (by decide)) (.cons _ _ _ _ (.str [33,61] (by decide)) .nil)))
theorem qBk:maxLen≤9223372036854775807:=by decide
def idxV (s:List UInt8) (c:Int):Int:=Lib.indexByte s c.toNat.toUInt8
theorem qnw (c:UInt8):∀ l:List UInt8,Lib.indexByte l c≤l.length
 | []=>by simp [Lib.indexByte]
 | b :: l=>by
  have:=qnw c l
  unfold Lib.indexByte
  split
  ·simp only [List.length_cons]; omega
  ·split <;> simp only [List.length_cons] <;> omega
def qhR:List PV→Tr PV
 | [.str s,.int .u8 c]=>.ret (.int .i64 (idxV s c))
 | _=>.fail
theorem qlW (gl:Gl):SimP Tryz.prog gl 153 fun args=>(qhR args).run:=by
 refine ⟨⟨_,Tryz.func153,by rfl,by rfl⟩,?_⟩
 intro args x hx H w vs hB hob htk hw hrel
 unfold qhR at hx
 split at hx
 ·rename_i s c
  cases hx
  cases hrel with
  | cons _ v _ vs hv hvs =>
   cases hvs with
   | cons _ v2 _ vs hv2 hvs =>
    cases hvs
    cases hv with
    | str _ hl =>
     cases hv2
     refine (Tryz.strings_IndexByte ⟨s.toArray⟩ c w).mono ?_
     rintro e w' ⟨rfl,rfl⟩
     refine ⟨_,rfl,⟨Below.refl _ _,Dr.of_eq rfl⟩,.int _ _ ?_⟩
     have h1:=qnw c.toNat.toUInt8 s
     have h2:=Lib.indexByte_ge s c.toNat.toUInt8
     have:=qBk
     simp only [idxV]
     generalize Lib.indexByte s c.toNat.toUInt8=q at h1 h2 ⊢
     simp [Lit.wf,IntKind.min,IntKind.max,IntKind.signed,IntKind.bits]
     omega
 ·cases hx
def qdy (l:List (List UInt8)) (sep:List UInt8):List UInt8:=Lib.join l sep
def qdZ (l:List (List UInt8)) (sep:List UInt8):Bool:=decide (l.length≤140737488355328) && decide ((qdy l sep).length≤140737488355328)
@[simp] theorem qbF (l:List (List UInt8)) (sep:List UInt8):qdZ l sep=true↔l.length≤140737488355328∧(qdy l sep).length≤140737488355328:=by simp [qdZ]
noncomputable def qjR:List PV→Tr PV
 | [.sl r _,.str sep]=>Tr.chk (okR cS r) (Tr.chk (qdZ (unR cS r) sep) (.ret (.str (qdy (unR cS r) sep))))
 | _=>.fail
theorem qEY {H:Gh} {w:World}:∀ {l:List (List UInt8)} {vss:List (List Value)},RelLL H w (rOf cS l) vss→vss=l.map fun s=>[Value.string ⟨s.toArray⟩]
 | [],_,h=>by cases h; rfl
 | s :: l,_,h=>by
  rw [qFJ] at h
  cases h with
  | cons _ v _ vs hv hvs =>
   have hv:RelL H w [.str s] v:=hv
   cases hv with
   | cons _ u _ us hu hus =>
    cases hus
    cases hu
    rw [qEY hvs]
    rfl
theorem qf7 {gl:Gl} (hgl:GlPow gl):SimP Tryz.prog gl 88 fun args=>(qjR args).run:=by
 refine ⟨⟨_,Tryz.func88,by rfl,by rfl⟩,?_⟩
 intro args x hx H w vs hB hob htk hw hrel
 unfold qjR at hx
 split at hx
 ·rename_i r tg sep
  obtain ⟨h1,hx⟩:=Tr.chk_some hx
  obtain ⟨h2,hx⟩:=Tr.chk_some hx
  cases hx
  obtain ⟨l,rfl⟩:=qLv cS h1
  rw [qLs] at h2 ⊢
  simp only [qbF] at h2
  cases hrel with
  | cons _ v _ vs hv hvs =>
   cases hvs with
   | cons _ v2 _ vs hv2 hvs =>
    cases hvs
    cases hv2 with
    | str _ hs =>
     cases hv with
     | sl p len cap k _ vss _ hl hcap hm hll hrow htag =>
      rw [qIJ] at hl
      subst hl
      have hvss:=qEY hll
      subst hvss
      cases l with
      | nil =>
       refine (Tryz.strings_Join_none p cap ⟨sep.toArray⟩ w).mono ?_
       rintro e w' ⟨rfl,rfl⟩
       exact ⟨_,rfl,⟨Below.refl _ _,Dr.of_eq rfl⟩,.str _ (by simp [qdy,Lib.join_nil])⟩
      | cons s0 l0 =>
       obtain ⟨hk,a,ha,_⟩:=hrow 0 [.string ⟨s0.toArray⟩] rfl
       subst ha
       have hk:k=1:=hk.symm
       subst hk
       have hcell:∀ (j:Nat) (s:List UInt8),(s0 :: l0)[j]?=some s→w.cell? (a.add (j * 1))=some (.string ⟨s.toArray⟩)∧(a.add (j * 1)).block < w.heap.size:=fun j s hj=>by
        obtain ⟨_,a',ha',hc⟩:=hrow j [.string ⟨s.toArray⟩] (by rw [List.getElem?_map,hj]; rfl)
        cases ha'
        have:=hc 0 _ rfl
        simp only [Addr.add,if_true] at this ⊢
        exact ⟨this.2,this.1.1⟩
       have h00:=hcell 0 s0 rfl
       have hsp:a.spot=none:=by
        have:=World.cell?_spot h00.1
        simpa [Addr.add] using this
       obtain ⟨blk,off,spot⟩:=a
       subst hsp
       have hnn:l0.length+1=((s0 :: l0).map fun s=>(⟨s.toArray⟩:ByteArray)).length:=by simp
       have hcalls:=Tryz.strings_Join blk off cap ((s0 :: l0).map fun s=>⟨s.toArray⟩) ⟨sep.toArray⟩ w (fun j x hj=>by
        rw [List.getElem?_map] at hj
        obtain ⟨s,hs1,rfl⟩:=Option.map_eq_some_iff.1 hj
        have:=(hcell j s hs1).1
        simp only [Nat.mul_one] at this
        by_cases hj0:j=0
        ·subst hj0; simpa [Addr.add] using this
        ·simpa [Addr.add,hj0] using this) (by simpa [Addr.add] using h00.2) (by simpa using h2.1) (by simpa using hcap) (by simpa [qdy,Function.comp_def] using h2.2)
       rw [← hnn] at hcalls
       refine hcalls.mono ?_
       rintro e w' ⟨rfl,hb⟩
       have e1:(((s0 :: l0).map fun s=>(⟨s.toArray⟩:ByteArray)).map (·.data.toList))=s0 :: l0:=by simp [Function.comp_def]
       rw [e1]
       exact ⟨_,rfl,⟨hb,hgl.dr _ _⟩,.str _ (Nat.le_trans h2.2 (by decide))⟩
 ·cases hx
end Go.Pv
set_option maxHeartbeats 4000000
set_option maxRecDepth 200000
set_option linter.unusedSimpArgs false
set_option linter.unusedVariables false
namespace Go.Pv
open Go Go.Proofs Go.RowKit
def numN:List UInt8→Nat→Option Nat
 | [],a=>some a
 | c :: l,a=>if 48≤c.toNat∧c.toNat≤57 then numN l (a * 10+(c.toNat - 48)) else none
def qlL (s:List UInt8):Bool:=(numN s 0).isSome
def numV (s:List UInt8):Int:=(((numN s 0).getD 0:Nat):Int)
theorem qCI:∀ (l:List UInt8) (a k x:Nat),numN l a=some x→a < 10 ^ k→x < 10 ^ (k+l.length)
 | [],a,k,x,h,ha=>by simp [numN] at h; subst h; simpa using ha
 | c :: l,a,k,x,h,ha=>by
  unfold numN at h
  split at h
  ·have:=qCI l _ (k+1) x h (by rw [Nat.pow_succ]; omega)
   simp only [List.length_cons]
   have e:k+(l.length+1)=k+1+l.length:=by omega
   rw [e]
   exact this
  ·cases h
def qv0:List PV→Store→Option (List UInt8 × Bool × Int × Int × Store)
 | [.str s,.bool m,.int .u64 n,.int .i64 i],σ=>some (s,m,n,i,σ)
 | _,_=>none
def qE9:List UInt8 × Bool × Int × Int × Store→Tr (PExit × List (Nat × PV) × Store)
 | (s,m,n,i,σ)=>Tr.chk (iEq n 0) (Tr.chk (iEq i 0) (Tr.chk (iLe (sLen s) 19) (.ite (qlL s) (.ret (.exit 0,[(4,.bool m),(5,.int .u64 (numV s))],σ)) (.ret (.ret,[(2,.int .i64 0),(3,.bool false)],σ)))))
def qC4:LpsT:=fun r fr σ=>if r=8 then oracle 75 [0,4,5,6] qv0 qE9 fr σ else .fail
noncomputable def qxX:Code:=qE6 Tryz.f143 0
theorem qAR (gl : Gl) : ∀ vs σ a e out σ', qv0 vs σ = some a → (qE9 a).run = some (e, out, σ') → LDoes Tryz.prog gl qxX (mk 75 ([0, 4, 5, 6].zip vs)) σ e (mk 75 out) σ' := by
  intro vs st a e out σ' hd hr
  unfold qv0 at hd
  split at hd
  · rename_i s m n i
    injection hd with hd
    subst hd
    obtain ⟨h1, q1⟩ := Tr.chk_some hr
    obtain ⟨h2, q2⟩ := Tr.chk_some q1
    obtain ⟨h3, q3⟩ := Tr.chk_some q2
    clear hr q1 q2
    simp at h1 h2 h3
    subst h1 h2
    have key : ∀ (k : Nat) (i : Int) (n : Nat), 0 ≤ i → i + k = s.length → n < 10 ^ i.toNat → numN (s.drop i.toNat) n = numN s 0 →
       LDoes Tryz.prog gl qxX (mk 75 ([0, 4, 5, 6].zip [.str s, .bool m, .int .u64 (n : Int), .int .i64 i])) st e (mk 75 out) σ' := by
      intro k
      induction k with
      | zero =>
        intro i n h0 hi hn hf
        have e1 : s.drop i.toNat = [] := by apply List.drop_eq_nil_of_le; omega
        rw [e1] at hf
        simp [numN] at hf
        simp [qlL, numV, ← hf] at q3
        obtain ⟨rfl, rfl, rfl⟩ := q3
        refine LDoes.round qav (G := ofL []) qag qah (L := fun _ _ _ => .fail) (qae (by kernel_rfl)) (by kernel_rfl) ?_
        refine Tr.all_as (Tr.ite (iLt i (sLen s))
            (Tr.ite (qaJ s i)
              (Tr.ite (iLt (sAt s i) 48)
                (Tr.ret
                  (PExit.ret, [3, 2, 39, 34, 27],
                    [PV.str s, PV.top, PV.int IntKind.i64 0, PV.bool false, PV.bool m, PV.int IntKind.u64 (Int.ofNat n), PV.int IntKind.i64 i, PV.top, PV.top, PV.top, PV.top, PV.top, PV.top, PV.top, PV.top,
                      PV.top, PV.top, PV.top, PV.top, PV.top, PV.top, PV.top, PV.top, PV.top, PV.int IntKind.i64 i, PV.str s, PV.int IntKind.i64 (sLen s), PV.bool true, PV.top, PV.top, PV.str s,
                      PV.int IntKind.i64 i, PV.int IntKind.u8 (sAt s i), PV.bool (iLt (sAt s i) 48), PV.bool true, PV.tup [], PV.tup [], PV.tup [], PV.tup [], PV.bool true, PV.top, PV.top, PV.top, PV.top,
                      PV.top, PV.top, PV.top, PV.top, PV.top, PV.top, PV.top, PV.top, PV.top, PV.top, PV.top, PV.top, PV.top, PV.top, PV.top, PV.top, PV.top, PV.top, PV.top, PV.top, PV.top, PV.top, PV.top,
                      PV.top, PV.top, PV.top, PV.top, PV.top, PV.top, PV.top, PV.top],
                    st))
                (Tr.ite (qaJ s i)
                  (Tr.ite (iLt 57 (sAt s i))
                    (Tr.ret
                      (PExit.ret, [3, 2, 39, 34, 27],
                        [PV.str s, PV.top, PV.int IntKind.i64 0, PV.bool false, PV.bool m, PV.int IntKind.u64 (Int.ofNat n), PV.int IntKind.i64 i, PV.top, PV.top, PV.top, PV.top, PV.top, PV.top, PV.top, PV.top,
                          PV.top, PV.top, PV.top, PV.top, PV.top, PV.top, PV.top, PV.top, PV.top, PV.int IntKind.i64 i, PV.str s, PV.int IntKind.i64 (sLen s), PV.bool true, PV.top, PV.top, PV.str s,
                          PV.int IntKind.i64 i, PV.int IntKind.u8 (sAt s i), PV.bool (iLt (sAt s i) 48), PV.bool false, PV.str s, PV.int IntKind.i64 i, PV.int IntKind.u8 (sAt s i), PV.bool (iLt 57 (sAt s i)),
                          PV.bool true, PV.top, PV.top, PV.top, PV.top, PV.top, PV.top, PV.top, PV.top, PV.top, PV.top, PV.top, PV.top, PV.top, PV.top, PV.top, PV.top, PV.top, PV.top, PV.top, PV.top, PV.top,
                          PV.top, PV.top, PV.top, PV.top, PV.top, PV.top, PV.top, PV.top, PV.top, PV.top, PV.top, PV.top, PV.top, PV.top],
                        st))
                    (Tr.ite (qaJ s i)
                      (Tr.ret
                        (PExit.normal, [39, 34, 27],
                          [PV.str s, PV.top, PV.top, PV.top, PV.bool m, PV.int IntKind.u64 (iAdd IntKind.u64 (iMul IntKind.u64 (Int.ofNat n) 10) (qaT IntKind.u64 (iSub IntKind.u8 (sAt s i) 48))),
                            PV.int IntKind.i64 (iAdd IntKind.i64 i 1), PV.top, PV.top, PV.top, PV.top, PV.top, PV.top, PV.top, PV.top, PV.top, PV.top, PV.top, PV.top, PV.top, PV.top, PV.top, PV.top, PV.top,
                            PV.int IntKind.i64 i, PV.str s, PV.int IntKind.i64 (sLen s), PV.bool true, PV.int IntKind.i64 i, PV.int IntKind.i64 (iAdd IntKind.i64 i 1), PV.str s, PV.int IntKind.i64 i,
                            PV.int IntKind.u8 (sAt s i), PV.bool (iLt (sAt s i) 48), PV.bool false, PV.str s, PV.int IntKind.i64 i, PV.int IntKind.u8 (sAt s i), PV.bool (iLt 57 (sAt s i)), PV.bool false,
                            PV.int IntKind.u64 (Int.ofNat n), PV.int IntKind.u64 (iMul IntKind.u64 (Int.ofNat n) 10), PV.str s, PV.int IntKind.i64 i, PV.int IntKind.u8 (sAt s i),
                            PV.int IntKind.u8 (iSub IntKind.u8 (sAt s i) 48), PV.int IntKind.u64 (qaT IntKind.u64 (iSub IntKind.u8 (sAt s i) 48)),
                            PV.int IntKind.u64 (iAdd IntKind.u64 (iMul IntKind.u64 (Int.ofNat n) 10) (qaT IntKind.u64 (iSub IntKind.u8 (sAt s i) 48))), PV.top, PV.top, PV.top, PV.top, PV.top, PV.top, PV.top,
                            PV.top, PV.top, PV.top, PV.top, PV.top, PV.top, PV.top, PV.top, PV.top, PV.top, PV.top, PV.top, PV.top, PV.top, PV.top, PV.top, PV.top, PV.top, PV.top, PV.top],
                          st))
                      Tr.fail))
                  Tr.fail))
              Tr.fail)
            (Tr.ret
              (PExit.exit 0, [27],
                [PV.str s, PV.top, PV.top, PV.top, PV.bool m, PV.int IntKind.u64 (Int.ofNat n), PV.int IntKind.i64 i, PV.top, PV.top, PV.top, PV.top, PV.top, PV.top, PV.top, PV.top, PV.top, PV.top, PV.top,
                  PV.top, PV.top, PV.top, PV.top, PV.top, PV.top, PV.int IntKind.i64 i, PV.str s, PV.int IntKind.i64 (sLen s), PV.bool false, PV.top, PV.top, PV.top, PV.top, PV.top, PV.top, PV.top, PV.top,
                  PV.top, PV.top, PV.top, PV.top, PV.top, PV.top, PV.top, PV.top, PV.top, PV.top, PV.top, PV.top, PV.top, PV.top, PV.top, PV.top, PV.top, PV.top, PV.top, PV.top, PV.top, PV.top, PV.top, PV.top,
                  PV.top, PV.top, PV.top, PV.top, PV.top, PV.top, PV.top, PV.top, PV.top, PV.top, PV.top, PV.top, PV.top, PV.top, PV.top],
                st))) (by kernel_rfl) ?_
        exact Tr.all_f (by simp; omega) ⟨rfl, by simp [Weak, mk, qcr, look], rfl⟩
      | succ k ih =>
        intro i n h0 hi hn hf
        obtain ⟨v, hv⟩ := qe0 (l := s) (i := i.toNat) (by omega)
        rw [qbB hv, numN] at hf
        have hv8 := v.toNat_lt
        have e2 : (i + 1).toNat = i.toNat + 1 := by omega
        have hpow : 10 ^ (i.toNat + 1) ≤ 10 ^ 19 := Nat.pow_le_pow_right (by omega) (by omega)
        rw [Nat.pow_succ] at hpow
        refine LDoes.round qav (G := ofL []) qag qah (L := fun _ _ _ => .fail) (qae (by kernel_rfl)) (by kernel_rfl) ?_
        refine Tr.all_as (Tr.ite (iLt i (sLen s))
            (Tr.ite (qaJ s i)
              (Tr.ite (iLt (sAt s i) 48)
                (Tr.ret
                  (PExit.ret, [3, 2, 39, 34, 27],
                    [PV.str s, PV.top, PV.int IntKind.i64 0, PV.bool false, PV.bool m, PV.int IntKind.u64 (Int.ofNat n), PV.int IntKind.i64 i, PV.top, PV.top, PV.top, PV.top, PV.top, PV.top, PV.top, PV.top,
                      PV.top, PV.top, PV.top, PV.top, PV.top, PV.top, PV.top, PV.top, PV.top, PV.int IntKind.i64 i, PV.str s, PV.int IntKind.i64 (sLen s), PV.bool true, PV.top, PV.top, PV.str s,
                      PV.int IntKind.i64 i, PV.int IntKind.u8 (sAt s i), PV.bool (iLt (sAt s i) 48), PV.bool true, PV.tup [], PV.tup [], PV.tup [], PV.tup [], PV.bool true, PV.top, PV.top, PV.top, PV.top,
                      PV.top, PV.top, PV.top, PV.top, PV.top, PV.top, PV.top, PV.top, PV.top, PV.top, PV.top, PV.top, PV.top, PV.top, PV.top, PV.top, PV.top, PV.top, PV.top, PV.top, PV.top, PV.top, PV.top,
                      PV.top, PV.top, PV.top, PV.top, PV.top, PV.top, PV.top, PV.top],
                    st))
                (Tr.ite (qaJ s i)
                  (Tr.ite (iLt 57 (sAt s i))
                    (Tr.ret
                      (PExit.ret, [3, 2, 39, 34, 27],
                        [PV.str s, PV.top, PV.int IntKind.i64 0, PV.bool false, PV.bool m, PV.int IntKind.u64 (Int.ofNat n), PV.int IntKind.i64 i, PV.top, PV.top, PV.top, PV.top, PV.top, PV.top, PV.top, PV.top,
                          PV.top, PV.top, PV.top, PV.top, PV.top, PV.top, PV.top, PV.top, PV.top, PV.int IntKind.i64 i, PV.str s, PV.int IntKind.i64 (sLen s), PV.bool true, PV.top, PV.top, PV.str s,
                          PV.int IntKind.i64 i, PV.int IntKind.u8 (sAt s i), PV.bool (iLt (sAt s i) 48), PV.bool false, PV.str s, PV.int IntKind.i64 i, PV.int IntKind.u8 (sAt s i), PV.bool (iLt 57 (sAt s i)),
                          PV.bool true, PV.top, PV.top, PV.top, PV.top, PV.top, PV.top, PV.top, PV.top, PV.top, PV.top, PV.top, PV.top, PV.top, PV.top, PV.top, PV.top, PV.top, PV.top, PV.top, PV.top, PV.top,
                          PV.top, PV.top, PV.top, PV.top, PV.top, PV.top, PV.top, PV.top, PV.top, PV.top, PV.top, PV.top, PV.top, PV.top],
                        st))
                    (Tr.ite (qaJ s i)
                      (Tr.ret
                        (PExit.normal, [39, 34, 27],
                          [PV.str s, PV.top, PV.top, PV.top, PV.bool m, PV.int IntKind.u64 (iAdd IntKind.u64 (iMul IntKind.u64 (Int.ofNat n) 10) (qaT IntKind.u64 (iSub IntKind.u8 (sAt s i) 48))),
                            PV.int IntKind.i64 (iAdd IntKind.i64 i 1), PV.top, PV.top, PV.top, PV.top, PV.top, PV.top, PV.top, PV.top, PV.top, PV.top, PV.top, PV.top, PV.top, PV.top, PV.top, PV.top, PV.top,
                            PV.int IntKind.i64 i, PV.str s, PV.int IntKind.i64 (sLen s), PV.bool true, PV.int IntKind.i64 i, PV.int IntKind.i64 (iAdd IntKind.i64 i 1), PV.str s, PV.int IntKind.i64 i,
                            PV.int IntKind.u8 (sAt s i), PV.bool (iLt (sAt s i) 48), PV.bool false, PV.str s, PV.int IntKind.i64 i, PV.int IntKind.u8 (sAt s i), PV.bool (iLt 57 (sAt s i)), PV.bool false,
                            PV.int IntKind.u64 (Int.ofNat n), PV.int IntKind.u64 (iMul IntKind.u64 (Int.ofNat n) 10), PV.str s, PV.int IntKind.i64 i, PV.int IntKind.u8 (sAt s i),
                            PV.int IntKind.u8 (iSub IntKind.u8 (sAt s i) 48), PV.int IntKind.u64 (qaT IntKind.u64 (iSub IntKind.u8 (sAt s i) 48)),
                            PV.int IntKind.u64 (iAdd IntKind.u64 (iMul IntKind.u64 (Int.ofNat n) 10) (qaT IntKind.u64 (iSub IntKind.u8 (sAt s i) 48))), PV.top, PV.top, PV.top, PV.top, PV.top, PV.top, PV.top,
                            PV.top, PV.top, PV.top, PV.top, PV.top, PV.top, PV.top, PV.top, PV.top, PV.top, PV.top, PV.top, PV.top, PV.top, PV.top, PV.top, PV.top, PV.top, PV.top, PV.top],
                          st))
                      Tr.fail))
                  Tr.fail))
              Tr.fail)
            (Tr.ret
              (PExit.exit 0, [27],
                [PV.str s, PV.top, PV.top, PV.top, PV.bool m, PV.int IntKind.u64 (Int.ofNat n), PV.int IntKind.i64 i, PV.top, PV.top, PV.top, PV.top, PV.top, PV.top, PV.top, PV.top, PV.top, PV.top, PV.top,
                  PV.top, PV.top, PV.top, PV.top, PV.top, PV.top, PV.int IntKind.i64 i, PV.str s, PV.int IntKind.i64 (sLen s), PV.bool false, PV.top, PV.top, PV.top, PV.top, PV.top, PV.top, PV.top, PV.top,
                  PV.top, PV.top, PV.top, PV.top, PV.top, PV.top, PV.top, PV.top, PV.top, PV.top, PV.top, PV.top, PV.top, PV.top, PV.top, PV.top, PV.top, PV.top, PV.top, PV.top, PV.top, PV.top, PV.top, PV.top,
                  PV.top, PV.top, PV.top, PV.top, PV.top, PV.top, PV.top, PV.top, PV.top, PV.top, PV.top, PV.top, PV.top, PV.top, PV.top],
                st))) (by kernel_rfl) ?_
        rw [qfW hv]
        have hi1 := qdU h0 hv
        refine Tr.all_t (by simp; omega) <| Tr.all_t hi1 ?_
        by_cases hc : 48 ≤ v.toNat ∧ v.toNat ≤ 57
        · rw [if_pos hc] at hf
          have w1 : iSub .u8 (v.toNat : Int) 48 = v.toNat - 48 := by unfold iSub; rw [qs9 (by omega)]
          have w2 : qaT .u64 (v.toNat - 48 : Int) = v.toNat - 48 := qeM (by omega)
          have w3 : iMul .u64 (Int.ofNat n) 10 = n * 10 := by unfold iMul; rw [qeM (by simp; omega)]; rfl
          have w4 : iAdd .u64 (n * 10 : Int) (v.toNat - 48) = n * 10 + (v.toNat - 48) := by unfold iAdd; rw [qeM (by omega)]
          have w5 : iAdd .i64 i 1 = i + 1 := qbo (by omega)
          have w6 : ((n * 10 + (v.toNat - 48) : Nat) : Int) = (n : Int) * 10 + (v.toNat - 48) := by omega
          refine Tr.all_f (by simp; omega) <| Tr.all_t hi1 <| Tr.all_f (by simp; omega) <| Tr.all_t hi1 ?_
          rw [w1, w2, w3, w4, w5]
          refine LDoes.into ?_ (ih (i + 1) (n * 10 + (v.toNat - 48)) (by omega) (by omega) (by rw [e2, Nat.pow_succ]; omega) (by rw [e2]; exact hf))
          rw [w6]
          simp [Weak, mk, qcr, look]
        · rw [if_neg hc] at hf
          simp [qlL, numV, ← hf] at q3
          obtain ⟨rfl, rfl, rfl⟩ := q3
          by_cases hc1 : v.toNat < 48
          · exact Tr.all_t (by simp; omega) ⟨rfl, by simp [Weak, mk, qcr, look], rfl⟩
          · refine Tr.all_f (by simp; omega) <| Tr.all_t hi1 <| Tr.all_t (by simp; omega) ⟨rfl, by simp [Weak, mk, qcr, look], rfl⟩
    exact key s.length 0 0 (by omega) (by omega) (by simp) (by simp)
  · cases hd
def whoN (m:Bool) (t:List UInt8):Option Int :=
 if t=[]∨19 < t.length then none
 else match numN t 0 with
  | none=>none
  | some n=>if (m=true∧9223372036854775808 < n)∨(m=false∧9223372036854775807 < n) then none else some (if m then -(n:Int) else n)
def whoO (s:List UInt8):Option Int:=if s.head?=some 45 then whoN true (s.drop 1) else whoN false s
def qgT (s:List UInt8):Bool:=(whoO s).isSome
def whoV (s:List UInt8):Int:=(whoO s).getD 0
def qw8:List PV→Tr PV
 | [.str s]=>Tr.chk (qkC s) (.ret (.tup [.int .i64 (whoV s),.bool (qgT s)]))
 | _=>.fail
theorem qCu (gl:Gl):SimP Tryz.prog gl 143 fun args=>(qw8 args).run:=by
 refine SimP.of_tree (G:=ofL []) (L:=qC4) qav qag qah Tryz.func143 rfl (by rfl) (by kernel_rfl) (qgQ (r:=8) (c1:=qxX) (by kernel_rfl) ?_) ?_
 ·intro fr σ e fr' σ' hh
  simp only [lps,qC4,if_true] at hh
  exact qh9 (qAR gl) fr σ e fr' σ' hh
 intro args x h hr
 unfold qw8 at h
 split at h
 ·rename_i s
  obtain ⟨h1,h2⟩:=Tr.chk_some h
  simp at h1
  cases h2
  refine Tr.run_as (Tr.ite (sNe s [])
    (Tr.ite (qaJ s 0)
     (Tr.ite (iEq (sAt s 0) 45)
      (Tr.ite (qaI (qaw 1) true (nNat 1) (nLen s) (nLen s))
       (Tr.ite (sEq (sSub s (nNat 1) (nLen s)) []) (Tr.ret (PV.tup [PV.int IntKind.i64 0,PV.bool false]))
        (Tr.ite (iLt 19 (sLen (sSub s (nNat 1) (nLen s)))) (Tr.ret (PV.tup [PV.int IntKind.i64 0,PV.bool false]))
         (Tr.ite (iEq 0 0)
          (Tr.ite (iEq 0 0)
           (Tr.ite (iLe (sLen (sSub s (nNat 1) (nLen s))) 19)
            (Tr.ite (qlL (sSub s (nNat 1) (nLen s)))
             (Tr.ite (iEq (sAt s 0) 45)
              (Tr.ite (iLt 9223372036854775808 (numV (sSub s (nNat 1) (nLen s)))) (Tr.ret (PV.tup [PV.int IntKind.i64 0,PV.bool false]))
               (Tr.ite (bNot (iEq (sAt s 0) 45))
                (Tr.ite (iLt 9223372036854775807 (numV (sSub s (nNat 1) (nLen s)))) (Tr.ret (PV.tup [PV.int IntKind.i64 0,PV.bool false]))
                 (Tr.ite (iEq (sAt s 0) 45)
                  (Tr.ite (iLt 0 (numV (sSub s (nNat 1) (nLen s))))
                   (Tr.ret
                    (PV.tup [PV.int IntKind.i64 (iSub IntKind.i64 (iSub IntKind.i64 0 (qaT IntKind.i64 (iSub IntKind.u64 (numV (sSub s (nNat 1) (nLen s))) 1))) 1),PV.bool true]))
                   (Tr.ret (PV.tup [PV.int IntKind.i64 (qaT IntKind.i64 (numV (sSub s (nNat 1) (nLen s)))),PV.bool true])))
                  (Tr.ret (PV.tup [PV.int IntKind.i64 (qaT IntKind.i64 (numV (sSub s (nNat 1) (nLen s)))),PV.bool true]))))
                (Tr.ite (iEq (sAt s 0) 45)
                 (Tr.ite (iLt 0 (numV (sSub s (nNat 1) (nLen s))))
                  (Tr.ret (PV.tup [PV.int IntKind.i64 (iSub IntKind.i64 (iSub IntKind.i64 0 (qaT IntKind.i64 (iSub IntKind.u64 (numV (sSub s (nNat 1) (nLen s))) 1))) 1),PV.bool true]))
                  (Tr.ret (PV.tup [PV.int IntKind.i64 (qaT IntKind.i64 (numV (sSub s (nNat 1) (nLen s)))),PV.bool true])))
                 (Tr.ret (PV.tup [PV.int IntKind.i64 (qaT IntKind.i64 (numV (sSub s (nNat 1) (nLen s)))),PV.bool true])))))
              (Tr.ite (bNot (iEq (sAt s 0) 45))
               (Tr.ite (iLt 9223372036854775807 (numV (sSub s (nNat 1) (nLen s)))) (Tr.ret (PV.tup [PV.int IntKind.i64 0,PV.bool false]))
                (Tr.ite (iEq (sAt s 0) 45)
                 (Tr.ite (iLt 0 (numV (sSub s (nNat 1) (nLen s))))
                  (Tr.ret (PV.tup [PV.int IntKind.i64 (iSub IntKind.i64 (iSub IntKind.i64 0 (qaT IntKind.i64 (iSub IntKind.u64 (numV (sSub s (nNat 1) (nLen s))) 1))) 1),PV.bool true]))
                  (Tr.ret (PV.tup [PV.int IntKind.i64 (qaT IntKind.i64 (numV (sSub s (nNat 1) (nLen s)))),PV.bool true])))
                 (Tr.ret (PV.tup [PV.int IntKind.i64 (qaT IntKind.i64 (numV (sSub s (nNat 1) (nLen s)))),PV.bool true]))))
               (Tr.ite (iEq (sAt s 0) 45)
                (Tr.ite (iLt 0 (numV (sSub s (nNat 1) (nLen s))))
                 (Tr.ret (PV.tup [PV.int IntKind.i64 (iSub IntKind.i64 (iSub IntKind.i64 0 (qaT IntKind.i64 (iSub IntKind.u64 (numV (sSub s (nNat 1) (nLen s))) 1))) 1),PV.bool true]))
                 (Tr.ret (PV.tup [PV.int IntKind.i64 (qaT IntKind.i64 (numV (sSub s (nNat 1) (nLen s)))),PV.bool true])))
                (Tr.ret (PV.tup [PV.int IntKind.i64 (qaT IntKind.i64 (numV (sSub s (nNat 1) (nLen s)))),PV.bool true])))))
             (Tr.ret (PV.tup [PV.int IntKind.i64 0,PV.bool false])))
            Tr.fail)
           Tr.fail)
          Tr.fail)))
       Tr.fail)
      (Tr.ite (sEq s []) (Tr.ret (PV.tup [PV.int IntKind.i64 0,PV.bool false]))
       (Tr.ite (iLt 19 (sLen s)) (Tr.ret (PV.tup [PV.int IntKind.i64 0,PV.bool false]))
        (Tr.ite (iEq 0 0)
         (Tr.ite (iEq 0 0)
          (Tr.ite (iLe (sLen s) 19)
           (Tr.ite (qlL s)
            (Tr.ite (iEq (sAt s 0) 45)
             (Tr.ite (iLt 9223372036854775808 (numV s)) (Tr.ret (PV.tup [PV.int IntKind.i64 0,PV.bool false]))
              (Tr.ite (bNot (iEq (sAt s 0) 45))
               (Tr.ite (iLt 9223372036854775807 (numV s)) (Tr.ret (PV.tup [PV.int IntKind.i64 0,PV.bool false]))
                (Tr.ite (iEq (sAt s 0) 45)
                 (Tr.ite (iLt 0 (numV s)) (Tr.ret (PV.tup [PV.int IntKind.i64 (iSub IntKind.i64 (iSub IntKind.i64 0 (qaT IntKind.i64 (iSub IntKind.u64 (numV s) 1))) 1),PV.bool true]))
                  (Tr.ret (PV.tup [PV.int IntKind.i64 (qaT IntKind.i64 (numV s)),PV.bool true])))
                 (Tr.ret (PV.tup [PV.int IntKind.i64 (qaT IntKind.i64 (numV s)),PV.bool true]))))
               (Tr.ite (iEq (sAt s 0) 45)
                (Tr.ite (iLt 0 (numV s)) (Tr.ret (PV.tup [PV.int IntKind.i64 (iSub IntKind.i64 (iSub IntKind.i64 0 (qaT IntKind.i64 (iSub IntKind.u64 (numV s) 1))) 1),PV.bool true]))
                 (Tr.ret (PV.tup [PV.int IntKind.i64 (qaT IntKind.i64 (numV s)),PV.bool true])))
                (Tr.ret (PV.tup [PV.int IntKind.i64 (qaT IntKind.i64 (numV s)),PV.bool true])))))
             (Tr.ite (bNot (iEq (sAt s 0) 45))
              (Tr.ite (iLt 9223372036854775807 (numV s)) (Tr.ret (PV.tup [PV.int IntKind.i64 0,PV.bool false]))
               (Tr.ite (iEq (sAt s 0) 45)
                (Tr.ite (iLt 0 (numV s)) (Tr.ret (PV.tup [PV.int IntKind.i64 (iSub IntKind.i64 (iSub IntKind.i64 0 (qaT IntKind.i64 (iSub IntKind.u64 (numV s) 1))) 1),PV.bool true]))
                 (Tr.ret (PV.tup [PV.int IntKind.i64 (qaT IntKind.i64 (numV s)),PV.bool true])))
                (Tr.ret (PV.tup [PV.int IntKind.i64 (qaT IntKind.i64 (numV s)),PV.bool true]))))
              (Tr.ite (iEq (sAt s 0) 45)
               (Tr.ite (iLt 0 (numV s)) (Tr.ret (PV.tup [PV.int IntKind.i64 (iSub IntKind.i64 (iSub IntKind.i64 0 (qaT IntKind.i64 (iSub IntKind.u64 (numV s) 1))) 1),PV.bool true]))
                (Tr.ret (PV.tup [PV.int IntKind.i64 (qaT IntKind.i64 (numV s)),PV.bool true])))
               (Tr.ret (PV.tup [PV.int IntKind.i64 (qaT IntKind.i64 (numV s)),PV.bool true])))))
            (Tr.ret (PV.tup [PV.int IntKind.i64 0,PV.bool false])))
           Tr.fail)
          Tr.fail)
         Tr.fail))))
     Tr.fail)
    (Tr.ite (sEq s []) (Tr.ret (PV.tup [PV.int IntKind.i64 0,PV.bool false]))
     (Tr.ite (iLt 19 (sLen s)) (Tr.ret (PV.tup [PV.int IntKind.i64 0,PV.bool false]))
      (Tr.ite (iEq 0 0)
       (Tr.ite (iEq 0 0)
        (Tr.ite (iLe (sLen s) 19)
         (Tr.ite (qlL s)
          (Tr.ite false
           (Tr.ite (iLt 9223372036854775808 (numV s)) (Tr.ret (PV.tup [PV.int IntKind.i64 0,PV.bool false]))
            (Tr.ite true
             (Tr.ite (iLt 9223372036854775807 (numV s)) (Tr.ret (PV.tup [PV.int IntKind.i64 0,PV.bool false]))
              (Tr.ite false
               (Tr.ite (iLt 0 (numV s)) (Tr.ret (PV.tup [PV.int IntKind.i64 (iSub IntKind.i64 (iSub IntKind.i64 0 (qaT IntKind.i64 (iSub IntKind.u64 (numV s) 1))) 1),PV.bool true]))
                (Tr.ret (PV.tup [PV.int IntKind.i64 (qaT IntKind.i64 (numV s)),PV.bool true])))
               (Tr.ret (PV.tup [PV.int IntKind.i64 (qaT IntKind.i64 (numV s)),PV.bool true]))))
             (Tr.ite false
              (Tr.ite (iLt 0 (numV s)) (Tr.ret (PV.tup [PV.int IntKind.i64 (iSub IntKind.i64 (iSub IntKind.i64 0 (qaT IntKind.i64 (iSub IntKind.u64 (numV s) 1))) 1),PV.bool true]))
               (Tr.ret (PV.tup [PV.int IntKind.i64 (qaT IntKind.i64 (numV s)),PV.bool true])))
              (Tr.ret (PV.tup [PV.int IntKind.i64 (qaT IntKind.i64 (numV s)),PV.bool true])))))
           (Tr.ite true
            (Tr.ite (iLt 9223372036854775807 (numV s)) (Tr.ret (PV.tup [PV.int IntKind.i64 0,PV.bool false]))
             (Tr.ite false
              (Tr.ite (iLt 0 (numV s)) (Tr.ret (PV.tup [PV.int IntKind.i64 (iSub IntKind.i64 (iSub IntKind.i64 0 (qaT IntKind.i64 (iSub IntKind.u64 (numV s) 1))) 1),PV.bool true]))
               (Tr.ret (PV.tup [PV.int IntKind.i64 (qaT IntKind.i64 (numV s)),PV.bool true])))
              (Tr.ret (PV.tup [PV.int IntKind.i64 (qaT IntKind.i64 (numV s)),PV.bool true]))))
            (Tr.ite false
             (Tr.ite (iLt 0 (numV s)) (Tr.ret (PV.tup [PV.int IntKind.i64 (iSub IntKind.i64 (iSub IntKind.i64 0 (qaT IntKind.i64 (iSub IntKind.u64 (numV s) 1))) 1),PV.bool true]))
              (Tr.ret (PV.tup [PV.int IntKind.i64 (qaT IntKind.i64 (numV s)),PV.bool true])))
             (Tr.ret (PV.tup [PV.int IntKind.i64 (qaT IntKind.i64 (numV s)),PV.bool true])))))
          (Tr.ret (PV.tup [PV.int IntKind.i64 0,PV.bool false])))
         Tr.fail)
        Tr.fail)
       Tr.fail)))) (by kernel_rfl) ?_
  have hnum:∀ t:List UInt8,t.length≤19→∀ n,numN t 0=some n→n < 10000000000000000000:=by
   intro t ht n hn
   have h2:=qCI t 0 0 n hn (by simp)
   have h3:10 ^ (0+t.length)≤10 ^ 19:=Nat.pow_le_pow_right (by omega) (by omega)
   have:(10:Nat) ^ 19=10000000000000000000:=by decide
   omega
  cases s with
  | nil=>simp [qgT,whoV,whoO,whoN]
  | cons c t =>
   have e1:sSub (c :: t) (nNat 1) (nLen (c :: t))=t:=by simp
   have i0:qaJ (c :: t) 0=true:=by simp
   have i1:qaI (qaw 1) true (nNat 1) (nLen (c :: t)) (nLen (c :: t))=true:=by simp
   have n0:sNe (c :: t) []=true:=by simp
   have n1:sEq (c :: t) []=false:=by simp
   have e0:sAt (c :: t) 0=c.toNat:=by simp
   rw [i0,n0,n1,i1,e0,e1]
   by_cases hc:c=45
   ·have hb:iEq (c.toNat:Int) 45=true:=qgX (k:=45) hc
    have hw:whoO (c :: t)=whoN true t:=by simp [whoO,hc]
    rw [hb]
    by_cases ht:t=[]
    ·subst ht
     simp [qgT,whoV,hw,whoN]
    ·by_cases hl:19 < t.length
     ·have l1:iLt 19 (sLen t)=true:=by simp; omega
      have l0:sEq t []=false:=by simp [ht]
      rw [l0,l1]
      simp [qgT,whoV,hw,whoN,ht,hl]
     ·have l1:iLt 19 (sLen t)=false:=by simp; omega
      have l0:sEq t []=false:=by simp [ht]
      have l2:iLe (sLen t) 19=true:=by simp; omega
      rw [l0,l1,l2]
      cases hn:numN t 0 with
      | none =>
       have k1:qlL t=false:=by simp [qlL,hn]
       rw [k1]
       simp [qgT,whoV,hw,whoN,ht,hl,hn]
      | some n =>
       have hb:=hnum t (by omega) n hn
       have k1:qlL t=true:=by simp [qlL,hn]
       have k2:numV t=n:=by simp [numV,hn]
       rw [k1,k2]
       by_cases b1:9223372036854775808 < n
       ·have b2:iLt 9223372036854775808 (n:Int)=true:=by simp; omega
        rw [b2]
        simp [qgT,whoV,hw,whoN,ht,hl,hn,b1]
       ·have b2:iLt 9223372036854775808 (n:Int)=false:=by simp; omega
        rw [b2]
        have o1:qgT (c :: t)=true:=by simp [qgT,hw,whoN,ht,hl,hn,b1]
        have o2:whoV (c :: t)=-(n:Int):=by simp [whoV,hw,whoN,ht,hl,hn,b1]
        by_cases b3:0 < n
        ·have b4:iLt 0 (n:Int)=true:=by simp; omega
         have w1:iSub .u64 (n:Int) 1=n - 1:=qeM (by omega)
         have w2:qaT .i64 ((n:Int) - 1)=n - 1:=qbo (by omega)
         have w3:iSub .i64 0 ((n:Int) - 1)=-(n - 1):=by unfold iSub; rw [qbo (by omega)]; omega
         have w4:iSub .i64 (-((n:Int) - 1)) 1=-n:=by unfold iSub; rw [qbo (by omega)]; omega
         rw [b4,w1,w2,w3,w4,o1,o2]
         simp
        ·have b4:iLt 0 (n:Int)=false:=by simp; omega
         have:n=0:=by omega
         subst this
         rw [b4,o1,o2]
         have w5:qaT .i64 ((0:Nat):Int)=0:=by decide
         rw [w5]
         simp
   ·have hb:iEq (c.toNat:Int) 45=false:=qem (k:=45) hc
    have hw:whoO (c :: t)=whoN false (c :: t):=by simp [whoO,hc]
    rw [hb]
    generalize hs:c :: t=s at *
    have ht:s≠[]:=by rw [← hs]; simp
    by_cases hl:19 < s.length
    ·have l1:iLt 19 (sLen s)=true:=by simp; omega
     rw [l1]
     simp [qgT,whoV,hw,whoN,ht,hl]
    ·have l1:iLt 19 (sLen s)=false:=by simp; omega
     have l2:iLe (sLen s) 19=true:=by simp; omega
     rw [l1,l2]
     cases hn:numN s 0 with
     | none =>
      have k1:qlL s=false:=by simp [qlL,hn]
      rw [k1]
      simp [qgT,whoV,hw,whoN,ht,hl,hn]
     | some n =>
      have hb:=hnum s (by omega) n hn
      have k1:qlL s=true:=by simp [qlL,hn]
      have k2:numV s=n:=by simp [numV,hn]
      rw [k1,k2]
      by_cases b1:9223372036854775807 < n
      ·have b2:iLt 9223372036854775807 (n:Int)=true:=by simp; omega
       rw [b2]
       simp [qgT,whoV,hw,whoN,ht,hl,hn,b1]
      ·have b2:iLt 9223372036854775807 (n:Int)=false:=by simp; omega
       have o1:qgT s=true:=by simp [qgT,hw,whoN,ht,hl,hn,b1]
       have o2:whoV s=(n:Int):=by simp [whoV,hw,whoN,ht,hl,hn,b1]
       have w2:qaT .i64 (n:Int)=n:=qbo (by omega)
       rw [b2,w2,o1,o2]
       simp
 ·cases h
end Go.Pv
set_option maxHeartbeats 4000000
set_option maxRecDepth 200000
set_option linter.unusedSimpArgs false
set_option linter.unusedVariables false
namespace Go.Pv
open Go Go.Proofs
noncomputable def qBB:GamT:=ofL [(162,.pure qFw),(qe3,.hint [(4,0,1,5)])]
theorem qEf (gl:Gl):qaR Tryz.prog gl (gam qBB):=(qac (qGP gl) (qbS (K:=.hint [(4,0,1,5)]) trivial qag))
noncomputable def qzo:Code:=qeP Tryz.f144 5
def qzv:LI:=⟨128,[0,4,5],fun e=>match e with | .ret=>[2,3] | .exit 0=>[0,4,5] | _=>[],true⟩
noncomputable def qwU:LpsT:=fun r fr σ=>.fail
noncomputable def qim (vs:List PV) (σ:Store):Option (PExit × List PV × Store):=lval (lstep tbT qBB qwU qzo qzv) vs σ
noncomputable def qqS (s:List UInt8) (r:List (List PV)) (n:Int) (k:Nat):Tr LR:=.ite (iLt n (sLen s)) (.ite (qaJ s n) (.ite (iNe (sAt s n) 34) (.ite (qaJ s n) (.ite (iNe (sAt s n) 92) (.ite (qaJ s n) (.ite (qaP r [[.int .u8 (sAt s n)]] 1) (.ite (qaO [[.int .u8 (sAt s n)]] 1) (.ite (qaC r 1) (.ite (nEq k (nXs r)) (.ret (.next [.str s,.sl (xApp r [[.int .u8 (sAt s n)]]) (.tok 0),.int .i64 (iAdd .i64 n 1)] (Store.mk [] [(nXs (xApp r [[.int .u8 (sAt s n)]]),1,5)] []))) .fail) .fail) .fail) .fail) .fail) (.ite (iLe (sLen s) (iAdd .i64 n 1)) (.ret (.out .ret [.str [],.bool false] (Store.mk [] [(k,1,5)] []))) (.ite (qaJ s (iAdd .i64 n 1)) (.ite (iEq (sAt s (iAdd .i64 n 1)) 110) (.ite (qaP r [[.int .u8 10]] 1) (.ite (qaO [[.int .u8 10]] 1) (.ite (qaC r 1) (.ite (nEq k (nXs r)) (.ret (.next [.str s,.sl (xApp r [[.int .u8 10]]) (.tok 0),.int .i64 (iAdd .i64 n 2)] (Store.mk [] [(nXs (xApp r [[.int .u8 10]]),1,5)] []))) .fail) .fail) .fail) .fail) (.ite (qaJ s (iAdd .i64 n 1)) (.ite (iEq (sAt s (iAdd .i64 n 1)) 116) (.ite (qaP r [[.int .u8 9]] 1) (.ite (qaO [[.int .u8 9]] 1) (.ite (qaC r 1) (.ite (nEq k (nXs r)) (.ret (.next [.str s,.sl (xApp r [[.int .u8 9]]) (.tok 0),.int .i64 (iAdd .i64 n 2)] (Store.mk [] [(nXs (xApp r [[.int .u8 9]]),1,5)] []))) .fail) .fail) .fail) .fail) (.ite (qaJ s (iAdd .i64 n 1)) (.ite (iEq (sAt s (iAdd .i64 n 1)) 120) (.ite (iLt (iAdd .i64 n 3) (sLen s)) (.ite (qaJ s (iAdd .i64 n 2)) (.ite (iLe 0 (qcw (sAt s (iAdd .i64 n 2)))) (.ite (qaJ s (iAdd .i64 n 3)) (.ite (iLe 0 (qcw (sAt s (iAdd .i64 n 3)))) (.ite (qaJ s (iAdd .i64 n 2)) (.ite (qaJ s (iAdd .i64 n 3)) (.ite (qaP r [[.int .u8 (qaT .u8 (iAdd .i64 (iMul .i64 (qcw (sAt s (iAdd .i64 n 2))) 16) (qcw (sAt s (iAdd .i64 n 3)))))]] 1) (.ite (qaO [[.int .u8 (qaT .u8 (iAdd .i64 (iMul .i64 (qcw (sAt s (iAdd .i64 n 2))) 16) (qcw (sAt s (iAdd .i64 n 3)))))]] 1) (.ite (qaC r 1) (.ite (nEq k (nXs r)) (.ret (.next [.str s,.sl
 (xApp r [[.int .u8 (qaT .u8 (iAdd .i64 (iMul .i64 (qcw (sAt s (iAdd .i64 n 2))) 16) (qcw (sAt s (iAdd .i64 n 3)))))]]) (.tok 0),.int .i64 (iAdd .i64 n 4)] (Store.mk [] [(nXs (xApp r [[.int .u8 (qaT .u8 (iAdd .i64 (iMul .i64 (qcw (sAt s (iAdd .i64 n 2))) 16) (qcw (sAt s (iAdd .i64 n 3)))))]]),1,5)] []))) .fail) .fail) .fail) .fail) .fail) .fail) (.ite (qaJ s (iAdd .i64 n 1)) (.ite (qaP r [[.int .u8 (sAt s (iAdd .i64 n 1))]] 1) (.ite (qaO [[.int .u8 (sAt s (iAdd .i64 n 1))]] 1) (.ite (qaC r 1) (.ite (nEq k (nXs r)) (.ret (.next [.str s,.sl (xApp r [[.int .u8 (sAt s (iAdd .i64 n 1))]]) (.tok 0),.int .i64 (iAdd .i64 n 2)] (Store.mk [] [(nXs (xApp r [[.int .u8 (sAt s (iAdd .i64 n 1))]]),1,5)] []))) .fail) .fail) .fail) .fail) .fail)) .fail) (.ite (qaJ s (iAdd .i64 n 1)) (.ite (qaP r [[.int .u8 (sAt s (iAdd .i64 n 1))]] 1) (.ite (qaO [[.int .u8 (sAt s (iAdd .i64 n 1))]] 1) (.ite (qaC r 1) (.ite (nEq k (nXs r)) (.ret (.next [.str s,.sl (xApp r [[.int .u8 (sAt s (iAdd .i64 n 1))]]) (.tok 0),.int .i64 (iAdd .i64 n 2)] (Store.mk [] [(nXs (xApp r [[.int .u8 (sAt s (iAdd .i64 n 1))]]),1,5)] []))) .fail) .fail) .fail) .fail) .fail)) .fail) (.ite (qaJ s (iAdd .i64 n 1)) (.ite (qaP r [[.int .u8 (sAt s (iAdd .i64 n 1))]] 1) (.ite (qaO [[.int .u8 (sAt s (iAdd .i64 n 1))]] 1) (.ite (qaC r 1) (.ite (nEq k (nXs r)) (.ret (.next [.str s,.sl (xApp r [[.int .u8 (sAt s (iAdd .i64 n 1))]]) (.tok 0),.int .i64 (iAdd .i64 n 2)] (Store.mk [] [(nXs (xApp r [[.int .u8 (sAt s (iAdd .i64 n 1))]]),1,5)] []))) .fail) .fail) .fail) .fail) .fail)) (.ite (qaJ s (iAdd .i64 n 1)) (.ite (qaP r [[.int .u8 (sAt s (iAdd .i64 n 1))]] 1) (.ite (qaO [[.int .u8 (sAt s (iAdd .i64 n 1))]] 1) (.ite (qaC r 1) (.ite (nEq k (nXs r)) (.ret (.next [.str s,.sl (xApp r [[.int .u8 (sAt s (iAdd .i64 n 1))]]) (.tok 0),.int .i64 (iAdd .i64 n 2)] (Store.mk [] [(nXs (xApp r [[.int .u8 (sAt s (iAdd .i64 n 1))]]),1,5)] []))) .fail) .fail) .fail) .fail) .fail)) .fail))
 .fail)) .fail))) .fail) (.ret (.out (.exit 0) [.str s,.sl r (.tok 0),.int .i64 n] (Store.mk [] [(k,1,5)] [])))) .fail) (.ret (.out (.exit 0) [.str s,.sl r (.tok 0),.int .i64 n] (Store.mk [] [(k,1,5)] [])))
theorem qLZ (s:List UInt8) (r:List (List PV)) (n:Int) (k:Nat):lstep tbT qBB qwU qzo qzv [.str s,.sl r (.tok 0),.int .i64 n] ⟨[],[(k,1,5)],[]⟩=qqS s r n k:=by kernel_rfl
theorem qHH (s:List UInt8) (r:List (List PV)) (n:Int) (k:Nat):qim [.str s,.sl r (.tok 0),.int .i64 n] ⟨[],[(k,1,5)],[]⟩=lnext qim (qqS s r n k).run:=by unfold qim; rw [qbK,qLZ]
noncomputable def qhX (s:List UInt8) (r:List (List PV)) (n:Int) (k:Nat):Option (PExit × List PV × Store):=qim [.str s,.sl r (.tok 0),.int .i64 n] ⟨[],[(k,1,5)],[]⟩
noncomputable def qji (s:List UInt8) (r:List (List PV)) (n:Int) (k:Nat):List UInt8:=(gStr (gOut (qhX s r n k) 0))
noncomputable def qiQ (s:List UInt8) (r:List (List PV)) (n:Int) (k:Nat):Bool:=(qb4 (gOut (qhX s r n k) 1))
noncomputable def qs1 (s:List UInt8) (r:List (List PV)) (n:Int) (k:Nat):Nat:=(gTok (qhX s r n k) 0)
noncomputable def qlS (s:List UInt8) (r:List (List PV)) (n:Int) (k:Nat):Bool:=isW (qhX s r n k) (.ret,[.str (qji s r n k),.bool (qiQ s r n k)],⟨[],[((qs1 s r n k),1,5)],[]⟩)
noncomputable def qiO (s:List UInt8) (r:List (List PV)) (n:Int) (k:Nat):List UInt8:=(gStr (gOut (qhX s r n k) 0))
noncomputable def qhp (s:List UInt8) (r:List (List PV)) (n:Int) (k:Nat):List (List PV):=(gRow (gOut (qhX s r n k) 1))
noncomputable def qjv (s:List UInt8) (r:List (List PV)) (n:Int) (k:Nat):Int:=(gInt (gOut (qhX s r n k) 2))
noncomputable def qt3 (s:List UInt8) (r:List (List PV)) (n:Int) (k:Nat):Nat:=(gTok (qhX s r n k) 0)
noncomputable def qoI (s:List UInt8) (r:List (List PV)) (n:Int) (k:Nat):Bool:=isW (qhX s r n k) ((.exit 0),[.str (qiO s r n k),.sl (qhp s r n k) (.tok 0),.int .i64 (qjv s r n k)],⟨[],[((qt3 s r n k),1,5)],[]⟩)
noncomputable def qlG:List PV→Store→Tr (PExit × List PV × Store) | [.str s,.sl r (.tok 0),.int .i64 n],⟨[],[(k,1,5)],[]⟩=>.ite (qlS s r n k) (.ret (.ret,[.str (qji s r n k),.bool (qiQ s r n k)],⟨[],[((qs1 s r n k),1,5)],[]⟩)) (.ite (qoI s r n k) (.ret ((.exit 0),[.str (qiO s r n k),.sl (qhp s r n k) (.tok 0),.int .i64 (qjv s r n k)],⟨[],[((qt3 s r n k),1,5)],[]⟩)) (.fail)) | _,_=>.fail
theorem qKw:∀ vs σ r,(qlG vs σ).run=some r→qim vs σ=some r:=by
 intro vs σ r h
 unfold qlG at h
 split at h
 ·exact qai h fun h=>qai h fun h=>by cases h
 ·cases h
theorem qCC (gl:Gl):∀ fr σ e fr' σ',(orc qzv qlG fr σ).run=some (e,fr',σ')→LDoes Tryz.prog gl qzo fr σ e fr' σ':=qcs qav (qEf gl ) qah (L:=qwU) (qae (by kernel_rfl)) (by kernel_rfl) qKw
noncomputable def qKH:LpsT:=fun r fr σ=>bif Nat.beq r 5 then orc qzv qlG fr σ else .fail
noncomputable def qCl (v:List UInt8):Tr PV:=.ite (iLt (sLen v) 2) (.ret (.tup [.str [],.bool false])) (.ite (qaJ v 0) (.ite (iNe (sAt v 0) 34) (.ret (.tup [.str [],.bool false])) (.ite (qlS v [] 1 0) (.ret (.tup [.str (qji v [] 1 0),.bool (qiQ v [] 1 0)])) (.ite (qoI v [] 1 0) (.ite (qdu (qhp v [] 1 0)) (.ret (.tup [.str (qci (qhp v [] 1 0)),.bool (iEq (qjv v [] 1 0) (iSub .i64 (sLen (qiO v [] 1 0)) 1))])) .fail) .fail))) .fail)
theorem qNd (v:List UInt8):(tcall tbT qBB qKH Tryz.f144 [.str v]).flat=qCl v:=by kernel_rfl
noncomputable def qDX (v:List UInt8):Option PV:=(qCl v).run
noncomputable def qJa (v:List UInt8):List UInt8:=(gStr (gAt (gCs (gVal (qDX v))) 0))
noncomputable def qKV (v:List UInt8):Bool:=(qb4 (gAt (gCs (gVal (qDX v))) 1))
noncomputable def qDM (v:List UInt8):Bool:=isW (qDX v) (.tup [.str (qJa v),.bool (qKV v)])
noncomputable def qKh:List PV→Tr PV | [.str v]=>.ite (qDM v) (.ret (.tup [.str (qJa v),.bool (qKV v)])) (.fail) | _=>.fail
theorem qB8 (gl:Gl):SimP Tryz.prog gl 144 fun args=>(qKh args).run:=by
 refine SimP.of_flat (G:=qBB) (L:=qKH) qav (qEf gl ) qah  Tryz.func144 rfl (by rfl) (by kernel_rfl) (qbg (L:=lps qKH) [(5,qzo)] (by kernel_rfl) (List.forall_mem_cons.2 ⟨fun fr σ e fr' σ' h=>qCC gl  fr σ e fr' σ' h,(List.forall_mem_nil _)⟩)) ?_
 intro args x h
 unfold qKh at h
 split at h
 ·exact (congrArg Tr.run (qNd _)).trans (qai h fun h=>by cases h)
 ·cases h
end Go.Pv
set_option maxHeartbeats 4000000
set_option maxRecDepth 200000
set_option linter.unusedSimpArgs false
set_option linter.unusedVariables false
namespace Go.Pv
open Go Go.Proofs Go.RowKit
def qri:List UInt8→Bool
 | h1 :: h2 :: _=>decide (0≤qcw h1.toNat) && decide (0≤qcw h2.toNat)
 | _=>false
def hexW:List UInt8→UInt8
 | h1 :: h2 :: _=>UInt8.ofNat (qaT .u8 (qcw h1.toNat * 16+qcw h2.toNat)).toNat
 | _=>0
inductive RS where
 | stop
 | bad
 | one (x:UInt8) (k:Nat)
def rS:List UInt8→RS
 | []=>.stop
 | c :: t=>if c=34 then .stop else if c≠92 then .one c 1 else
  match t with
  | []=>.bad
  | e :: u=>if e=110 then .one 10 2 else if e=116 then .one 9 2 else if e=120∧qri u=true then .one (hexW u) 4 else .one e 2
theorem rS_k {r:List UInt8} {x:UInt8} {k:Nat} (h:rS r=.one x k):1≤k∧k≤r.length:=by
 unfold rS at h
 split at h
 ·cases h
 ·rename_i c t
  split at h
  ·cases h
  ·split at h
   ·cases h; simp
   ·split at h
    ·cases h
    ·rename_i e u
     split at h
     ·cases h; simp
     ·split at h
      ·cases h; simp
      ·split at h
       ·rename_i hx
        cases h
        have:=hx.2
        unfold qri at this
        split at this
        ·simp
        ·cases this
       ·cases h; simp
def rP (r:List UInt8):Option (List UInt8 × List UInt8):=match h:rS r with
 | .stop=>some ([],r)
 | .bad=>none
 | .one x k=>(rP (r.drop k)).map fun p=>(x :: p.1,p.2)
 termination_by r.length
 decreasing_by have:=rS_k h; simp; omega
theorem qsU {r:List UInt8} (h:rS r=.stop):rP r=some ([],r):=by rw [rP.eq_def]; split <;> simp_all
theorem qMv {r:List UInt8} (h:rS r=.bad):rP r=none:=by rw [rP.eq_def]; split <;> simp_all
theorem qHW {r:List UInt8} {x:UInt8} {k:Nat} (h:rS r=.one x k):rP r=(rP (r.drop k)).map fun p=>(x :: p.1,p.2):=by rw [rP.eq_def]; split <;> simp_all
theorem qoM {s r:List UInt8} {i:Nat} {c:UInt8} (h:s.drop i=c :: r):s[i]?=some c∧s.drop (i+1)=r∧i+1+r.length=s.length:=by
 have h1:(s.drop i)[0]?=some c:=by rw [h]; rfl
 have h2:s.drop (i+1)=r:=by
  have:(s.drop i).drop 1=r:=by rw [h]; rfl
  simpa [Nat.add_comm] using this
 have h3:=congrArg List.length h
 simp at h1 h3
 exact ⟨h1,h2,by omega⟩
theorem qyt (c:UInt8):-1≤qcw c.toNat∧qcw c.toNat≤15:=by
 have h:=c.toNat_lt
 have key:∀ n:Fin 256,-1≤qcw (n.val:Int)∧qcw (n.val:Int)≤15:=by decide +kernel
 exact key ⟨c.toNat,h⟩
theorem qCz (n:Int):0≤qaT .u8 n∧qaT .u8 n < 256:=by
 simp [qaT,IntKind.wrap,IntKind.signed,IntKind.bits]
 omega
theorem qj5 {c k:UInt8} (h:c≠k):iNe (c.toNat:Int) (k.toNat:Int)=true:=by
 simp only [qMj,decide_eq_true_eq]
 intro e
 exact h (UInt8.toNat_inj.1 (by omega))
theorem qkw {c k:UInt8} (h:c=k):iNe (c.toNat:Int) (k.toNat:Int)=false:=by
 subst h
 simp
theorem qG1 (b:List UInt8) (x:UInt8) {n:Int} (h:(x.toNat:Int)=n):xApp (qad b) [[.int .u8 n]]=qad (b++[x]):=by
 subst h
 rw [qhZ b (by have:=x.toNat_lt; omega)]
 simp
theorem qJO {h1 h2:UInt8} {u:List UInt8}:((hexW (h1 :: h2 :: u)).toNat:Int)=qaT .u8 (iAdd .i64 (iMul .i64 (qcw h1.toNat) 16) (qcw h2.toNat)):=by
 have r1:=qyt h1
 have r2:=qyt h2
 have e1:iMul .i64 (qcw h1.toNat) 16=qcw h1.toNat * 16:=qbo (by omega)
 have e2:iAdd .i64 (qcw h1.toNat * 16) (qcw h2.toNat)=qcw h1.toNat * 16+qcw h2.toNat:=qbo (by omega)
 rw [e1,e2]
 have:=qCz (qcw h1.toNat * 16+qcw h2.toNat)
 simp [hexW]
 omega
theorem quX {s:List UInt8} (hs:s.length≤140737488355328) (b:List UInt8) (i:Int) (r:List UInt8) (hi:1≤i) (hr:s.drop i.toNat=r) (hil:i≤s.length) (hb:b.length+r.length≤140737488355328) :
  lnext qim (qqS s (qad b) i b.length).run=match rS r with
   | .stop=>some (.exit 0,[.str s,.sl (qad b) (.tok 0),.int .i64 i],⟨[],[(b.length,1,5)],[]⟩)
   | .bad=>some (.ret,[.str [],.bool false],⟨[],[(b.length,1,5)],[]⟩)
   | .one x k=>qim [.str s,.sl (qad (b++[x])) (.tok 0),.int .i64 (i+k)] ⟨[],[((b++[x]).length,1,5)],[]⟩:=by
 cases r with
 | nil =>
  have hl:=congrArg List.length hr
  simp at hl
  have lt:iLt i (sLen s)=false:=by simp; omega
  unfold qqS
  simp only [lt,Tr.run_ite,Bool.false_eq_true,if_false]
  simp [rS]
 | cons c t =>
  obtain ⟨hv,hd1,hl1⟩:=qoM hr
  have hb1:b.length+(t.length+1)≤140737488355328:=hb
  have a0:sAt s i=c.toNat:=qfW hv
  have k0:qaJ s i=true:=qdU (by omega) hv
  have n1:(i+1).toNat=i.toNat+1:=by omega
  have n2:(i+2).toNat=i.toNat+1+1:=by omega
  have n3:(i+3).toNat=i.toNat+1+1+1:=by omega
  have w1:iAdd .i64 i 1=i+1:=qbo (by omega)
  have w2:iAdd .i64 i 2=i+2:=qbo (by omega)
  have w3:iAdd .i64 i 3=i+3:=qbo (by omega)
  have w4:iAdd .i64 i 4=i+4:=qbo (by omega)
  have lt:iLt i (sLen s)=true:=by simp; omega
  have gr:∀ n,qaP (qad b) [[.int .u8 n]] 1=true:=fun n=>by simp; omega
  have nw:∀ n,qaO [[.int .u8 n]] 1=true:=fun n=>by simp [one]
  have sz:qaC (qad b) 1=true:=qdb _
  have ne:nEq b.length (nXs (qad b))=true:=by simp
  have put:∀ (x:UInt8) (n:Int) (k:Nat),(x.toNat:Int)=n→lnext qim (some (LR.next [.str s,.sl (xApp (qad b) [[.int .u8 n]]) (.tok 0),.int .i64 (i+k)] ⟨[],[(nXs (xApp (qad b) [[.int .u8 n]]),1,5)],[]⟩))=qim [.str s,.sl (qad (b++[x])) (.tok 0),.int .i64 (i+k)] ⟨[],[((b++[x]).length,1,5)],[]⟩:=fun x n k h=>by
   rw [qG1 b x h,qd5]
   rfl
  unfold qqS
  simp only [w1,w2,w3,w4,a0,lt,k0,gr,nw,sz,ne,Tr.run_ite,Tr.run_ret,Tr.run_fail,if_true]
  by_cases c34:c=34
  ·have e:iNe (c.toNat:Int) 34=false:=qkw (k:=34) c34
   simp only [e,Bool.false_eq_true,if_false]
   simp [rS,c34]
  ·have e:iNe (c.toNat:Int) 34=true:=qj5 (k:=34) c34
   simp only [e,if_true]
   by_cases c92:c=92
   ·have e:iNe (c.toNat:Int) 92=false:=qkw (k:=92) c92
    simp only [e,Bool.false_eq_true,if_false]
    cases t with
    | nil =>
     have le:iLe (sLen s) (i+1)=true:=by simp at hl1 ⊢; omega
     simp only [le,if_true]
     simp [rS,c92]
    | cons e' u =>
     obtain ⟨hv1,hd2,hl2⟩:=qoM hd1
     have a1:sAt s (i+1)=e'.toNat:=qfW (by rw [n1]; exact hv1)
     have k1:qaJ s (i+1)=true:=qdU (by omega) (by rw [n1]; exact hv1)
     have le:iLe (sLen s) (i+1)=false:=by simp; omega
     simp only [a1,k1,le,Bool.false_eq_true,if_true,if_false]
     by_cases e110:e'=110
     ·have f:iEq (e'.toNat:Int) 110=true:=qgX (k:=110) e110
      simp only [f,if_true,rS,c92,e110]
      exact put 10 10 2 rfl
     ·have f:iEq (e'.toNat:Int) 110=false:=qem (k:=110) e110
      simp only [f,Bool.false_eq_true,if_false]
      by_cases e116:e'=116
      ·have f:iEq (e'.toNat:Int) 116=true:=qgX (k:=116) e116
       simp only [f,if_true,rS,c92,e110,e116]
       exact put 9 9 2 rfl
      ·have f:iEq (e'.toNat:Int) 116=false:=qem (k:=116) e116
       simp only [f,Bool.false_eq_true,if_false]
       have two:∀ h:¬ (e'=120∧qri u=true),rS (c :: e' :: u)=.one e' 2:=fun h=>by simp [rS,c92,e110,e116]; intro h1; exact Bool.eq_false_iff.2 fun h2=>h ⟨h1,h2⟩
       by_cases e120:e'=120
       ·have f:iEq (e'.toNat:Int) 120=true:=qgX (k:=120) e120
        simp only [f,if_true]
        cases u with
        | nil =>
         have l3:iLt (i+3) (sLen s)=false:=by simp at hl2 ⊢; omega
         rw [two (by simp [qri])]
         simp only [l3,Bool.false_eq_true,if_false]
         exact put e' _ 2 rfl
        | cons h1 u =>
         obtain ⟨hv2,hd3,hl3⟩:=qoM hd2
         cases u with
         | nil =>
          have l3:iLt (i+3) (sLen s)=false:=by simp at hl3 ⊢; omega
          rw [two (by simp [qri])]
          simp only [l3,Bool.false_eq_true,if_false]
          exact put e' _ 2 rfl
         | cons h2 u =>
          obtain ⟨hv3,hd4,hl4⟩:=qoM hd3
          have a2:sAt s (i+2)=h1.toNat:=qfW (by rw [n2]; exact hv2)
          have k2:qaJ s (i+2)=true:=qdU (by omega) (by rw [n2]; exact hv2)
          have a3:sAt s (i+3)=h2.toNat:=qfW (by rw [n3]; exact hv3)
          have k3:qaJ s (i+3)=true:=qdU (by omega) (by rw [n3]; exact hv3)
          have l3:iLt (i+3) (sLen s)=true:=by simp; omega
          simp only [a2,k2,a3,k3,l3,if_true]
          by_cases g1:0≤qcw h1.toNat
          ·have f1:iLe 0 (qcw h1.toNat)=true:=by simpa using g1
           simp only [f1,if_true]
           by_cases g2:0≤qcw h2.toNat
           ·have f2:iLe 0 (qcw h2.toNat)=true:=by simpa using g2
            have e1:rS (c :: e' :: h1 :: h2 :: u)=.one (hexW (h1 :: h2 :: u)) 4:=by simp [rS,c92,e110,e116,e120,qri,g1,g2]
            simp only [f2,if_true,e1]
            exact put (hexW (h1 :: h2 :: u)) _ 4 qJO
           ·have f2:iLe 0 (qcw h2.toNat)=false:=by simpa using g2
            rw [two (by simp [qri,g2])]
            simp only [f2,Bool.false_eq_true,if_false]
            exact put e' _ 2 rfl
          ·have f1:iLe 0 (qcw h1.toNat)=false:=by simpa using g1
           rw [two (by simp [qri,g1])]
           simp only [f1,Bool.false_eq_true,if_false]
           exact put e' _ 2 rfl
       ·have f:iEq (e'.toNat:Int) 120=false:=qem (k:=120) e120
        rw [two (fun h=>e120 h.1)]
        simp only [f,Bool.false_eq_true,if_false]
        exact put e' _ 2 rfl
   ·have e:iNe (c.toNat:Int) 92=true:=qj5 (k:=92) c92
    have e1:rS (c :: t)=.one c 1:=by simp [rS,c34,c92]
    simp only [e,if_true,e1]
    exact put c _ 1 rfl
theorem qGo {s:List UInt8} (hs:s.length≤140737488355328):∀ (k:Nat) (b:List UInt8) (i:Int) (r:List UInt8),r.length≤k→1≤i→s.drop i.toNat=r→i≤s.length→b.length+r.length≤140737488355328 →
  (∀ p,rP r=some p→qim [.str s,.sl (qad b) (.tok 0),.int .i64 i] ⟨[],[(b.length,1,5)],[]⟩=some (.exit 0,[.str s,.sl (qad (b++p.1)) (.tok 0),.int .i64 ((s.length:Int) - p.2.length)],⟨[],[((b++p.1).length,1,5)],[]⟩)) ∧
  (rP r=none→∃ m,qim [.str s,.sl (qad b) (.tok 0),.int .i64 i] ⟨[],[(b.length,1,5)],[]⟩=some (.ret,[.str [],.bool false],⟨[],[(m,1,5)],[]⟩)):=by
 intro k
 induction k with
 | zero =>
  intro b i r hk hi hr hil hb
  have:r=[]:=by apply List.eq_nil_of_length_eq_zero; omega
  subst this
  have hl:=congrArg List.length hr
  simp at hl
  rw [qHH,quX hs b i [] hi hr hil hb]
  have e:i=s.length:=by omega
  refine ⟨fun p hp=>?_,fun hp=>by rw [qsU rfl] at hp; cases hp⟩
  rw [qsU rfl] at hp
  cases hp
  simp [rS,e]
 | succ k ih =>
  intro b i r hk hi hr hil hb
  have hl:=congrArg List.length hr
  simp at hl
  rw [qHH,quX hs b i r hi hr hil hb]
  cases hS:rS r with
  | stop =>
   rw [qsU hS]
   refine ⟨fun p hp=>?_,fun hp=>by cases hp⟩
   cases hp
   have e:i=(s.length:Int) - r.length:=by omega
   simp [e]
  | bad =>
   rw [qMv hS]
   exact ⟨fun p hp=>by (cases hp),fun _=>⟨_,rfl⟩⟩
  | one x j =>
   have hj:=rS_k hS
   rw [qHW hS]
   obtain ⟨h1,h2⟩:=ih (b++[x]) (i+j) (r.drop j) (by simp; omega) (by omega) (by rw [← hr,List.drop_drop]; congr 1; omega) (by omega) (by simp; omega)
   refine ⟨fun p hp=>?_,fun hp=>?_⟩
   ·obtain ⟨q,hq,rfl⟩:=Option.map_eq_some_iff.1 hp
    have:=h1 q hq
    simpa using this
   ·exact h2 (by simpa using hp)
def rsO (s:List UInt8):List UInt8 × Bool:=if s.length < 2∨s.head?≠some 34 then ([],false) else match rP (s.drop 1) with
 | none=>([],false)
 | some p=>(p.1,decide (p.2.length=1))
def rsV (s:List UInt8):List UInt8:=(rsO s).1
def okRs (s:List UInt8):Bool:=(rsO s).2
def qp3:List PV→Tr PV
 | [.str s]=>Tr.chk (qkC s) (.ret (.tup [.str (rsV s),.bool (okRs s)]))
 | _=>.fail
theorem qIM {s:List UInt8} (hs:s.length≤140737488355328):qDX s=some (.tup [.str (rsV s),.bool (okRs s)]):=by
 unfold qDX qCl
 by_cases hs2:s.length < 2
 ·have l1:iLt (sLen s) 2=true:=by simp; omega
  simp only [l1,Tr.run_ite,if_true]
  simp [rsV,okRs,rsO,hs2]
 ·have l1:iLt (sLen s) 2=false:=by simp; omega
  have l2:qaJ s 0=true:=by simp; omega
  have l4:iSub .i64 (sLen s) 1=s.length - 1:=by unfold iSub; rw [qho,qbo (by omega)]
  obtain ⟨c,hc⟩:=qe0 (l:=s) (i:=0) (by omega)
  have l5:sAt s 0=c.toNat:=qfW (i:=0) hc
  have hh:s.head?=some c:=by rw [List.head?_eq_getElem?]; exact hc
  by_cases c34:c=34
  ·have l6:iNe (c.toNat:Int) 34=false:=qkw (k:=34) c34
   have e1:rsO s=match rP (s.drop 1) with | none=>([],false) | some p=>(p.1,decide (p.2.length=1)):=by
    unfold rsO
    rw [if_neg]
    rintro (h | h)
    ·exact hs2 h
    ·exact h (by rw [hh,c34])
   obtain ⟨h1,h2⟩:=qGo hs s.length [] 1 (s.drop 1) (by simp) (by omega) rfl (by omega) (by simp; omega)
   cases hp:rP (s.drop 1) with
   | none =>
    obtain ⟨m,hm⟩:=h2 hp
    rw [hp] at e1
    have hW:qhX s [] 1 0=some (.ret,[.str [],.bool false],⟨[],[(m,1,5)],[]⟩):=hm
    have n0:qlS s [] 1 0=true:=by simp [qlS,qji,qiQ,qs1,hW]
    have r1:qji s [] 1 0=[]:=by simp [qji,hW]
    have r2:qiQ s [] 1 0=false:=by simp [qiQ,hW]
    simp only [l1,l2,l5,l6,n0,r1,r2,Tr.run_ite,Bool.false_eq_true,if_true,if_false]
    simp [rsV,okRs,e1]
   | some p =>
    have hW:qhX s [] 1 0=some (.exit 0,[.str s,.sl (qad p.1) (.tok 0),.int .i64 ((s.length:Int) - p.2.length)],⟨[],[(p.1.length,1,5)],[]⟩):=by
     have:=h1 p hp
     unfold qhX
     simpa using this
    rw [hp] at e1
    have k4:iEq ((s.length:Int) - p.2.length) ((s.length:Int) - 1)=decide (p.2.length=1):=by
     simp only [qrW]
     congr 1
     apply propext
     constructor <;> intro h <;> omega
    have n0:qlS s [] 1 0=false:=by
     rw [Bool.eq_false_iff]
     intro h
     have:=qHC h
     rw [hW] at this
     simp at this
    have n1:qoI s [] 1 0=true:=by simp [qoI,qiO,qhp,qjv,qt3,hW]
    have r1:qhp s [] 1 0=qad p.1:=by simp [qhp,hW]
    have r2:qiO s [] 1 0=s:=by simp [qiO,hW]
    have r3:qjv s [] 1 0=(s.length:Int) - p.2.length:=by simp [qjv,hW]
    simp only [l1,l2,l5,l6,n0,n1,r1,r2,r3,l4,k4,Tr.run_ite,Bool.false_eq_true,if_true,if_false]
    simp [rsV,okRs,e1]
  ·have l6:iNe (c.toNat:Int) 34=true:=qj5 (k:=34) c34
   simp only [l1,l2,l5,l6,Tr.run_ite,Bool.false_eq_true,if_true,if_false]
   simp [rsV,okRs,rsO,hh,c34]
theorem qw4 (gl:Gl):SimP Tryz.prog gl 144 fun args=>(qp3 args).run :=
 ⟨(qB8 gl).ent,fun args x h=>(qB8 gl).run args x (by
  unfold qp3 at h
  split at h
  ·rename_i s
   obtain ⟨h1,h2⟩:=Tr.chk_some h
   cases h2
   have hl:s.length≤140737488355328:=by simpa using h1
   have hW:=qIM hl
   simp [qKh,qDM,qJa,qKV,hW]
  ·cases h)⟩
end Go.Pv
set_option maxHeartbeats 4000000
set_option maxRecDepth 200000
set_option linter.unusedSimpArgs false
set_option linter.unusedVariables false
namespace Go.Pv
open Go Go.Proofs Go.RowKit
theorem qyD (c:UInt8):∀ (l:List UInt8) (a:Nat),numN (l++[c]) a=(numN l a).bind fun n=>if 48≤c.toNat∧c.toNat≤57 then some (n * 10+(c.toNat - 48)) else none
 | [],a=>by simp [numN]
 | d :: l,a=>by
  simp only [List.cons_append,numN]
  split
  ·exact qyD c l _
  ·rfl
theorem qgS {u:Nat} (h:¬ u < 10):qfU u=qfU (u / 10)++[UInt8.ofNat (48+u % 10)]:=by
 conv=>lhs; unfold qfU
 rw [dif_neg h]
theorem qfB {u:Nat} (h:u < 10):qfU u=[UInt8.ofNat (48+u)]:=by
 unfold qfU
 rw [dif_pos h]
theorem qmo {d:Nat} (h:d < 10):(UInt8.ofNat (48+d)).toNat=48+d:=by
 simp
 omega
theorem qo2:∀ (k u:Nat),u < k→numN (qfU u) 0=some u
 | 0,u,h=>by omega
 | k+1,u,h=>by
  by_cases hu:u < 10
  ·rw [qfB hu]
   simp only [numN,qmo hu]
   rw [if_pos (by omega)]
   simp
  ·have hd:u % 10 < 10:=Nat.mod_lt _ (by omega)
   rw [qgS hu,qyD,qo2 k (u / 10) (by omega)]
   simp only [Option.bind_some,qmo hd]
   rw [if_pos (by omega)]
   congr 1
   omega
theorem qkS:∀ (k u:Nat),u < k→∀ c ∈ qfU u,48≤c.toNat∧c.toNat≤57
 | 0,u,h=>by omega
 | k+1,u,h=>by
  intro c hc
  by_cases hu:u < 10
  ·rw [qfB hu] at hc
   simp only [List.mem_singleton] at hc
   subst hc
   have:=qmo hu
   omega
  ·have hd:u % 10 < 10:=Nat.mod_lt _ (by omega)
   rw [qgS hu] at hc
   rcases List.mem_append.1 hc with hc | hc
   ·exact qkS k (u / 10) (by omega) c hc
   ·simp only [List.mem_singleton] at hc
    subst hc
    have:=qmo hd
    omega
theorem qoo (u:Nat):qfU u≠[]:=by
 by_cases hu:u < 10
 ·rw [qfB hu]; simp
 ·rw [qgS hu]; simp
theorem qgL (u:Nat):∃ c t,qfU u=c :: t∧48≤c.toNat∧c.toNat≤57:=by
 cases h:qfU u with
 | nil=>exact absurd h (qoo u)
 | cons c t =>
  have:=qkS (u+1) u (by omega) c (by rw [h]; simp)
  exact ⟨c,t,rfl,this⟩
theorem qfn:∀ (k u:Nat),u < k→Lib.decDigits u=qfU u
 | 0,u,h=>by omega
 | k+1,u,h=>by
  by_cases hu:u < 10
  ·rw [qfB hu,Lib.decDigits_one hu]
  ·rw [qgS hu,Lib.decDigits,dif_neg hu,qfn k (u / 10) (by omega)]
theorem qGR (n:Int):qEs n=intV n:=by
 unfold qEs Lib.itoa intV qgO
 by_cases h:n < 0
 ·rw [if_pos h,if_pos h,qfn (n.natAbs+1) _ (by omega)]
  congr 2
  omega
 ·rw [if_neg h,if_neg h,qfn (n.toNat+1) _ (by omega)]
theorem qHT (M:Nat) (c:UInt8):∀ (l:List UInt8) (a n:Nat),Lib.parseUintM M a l=.ok n→Lib.parseUintM M a (l++[c])=Lib.parseUintM M n [c]
 | [],a,n,h=>by simp [Lib.parseUintM] at h; subst h; rfl
 | d :: l,a,n,h=>by
  simp only [List.cons_append,Lib.parseUintM] at h ⊢
  split at h
  ·split at h
   ·cases h
   ·split at h
    ·cases h
    ·rename_i h1 h2 h3
     rw [if_pos h1,if_neg h2,if_neg h3]
     exact qHT M c l _ n h
  ·cases h
theorem qxR:∀ (k u:Nat),u < k→u≤18446744073709551615→Lib.parseUintM 18446744073709551615 0 (qfU u)=.ok u
 | 0,u,h,_=>by omega
 | k+1,u,h,hm=>by
  by_cases hu:u < 10
  ·rw [qfB hu]
   simp only [Lib.parseUintM,qmo hu]
   rw [if_pos (by omega),if_neg (by omega),if_neg (by omega)]
   congr 1
   omega
  ·have hd:u % 10 < 10:=Nat.mod_lt _ (by omega)
   rw [qgS hu,qHT _ _ _ _ (u / 10) (qxR k (u / 10) (by omega) (by omega))]
   simp only [Lib.parseUintM,qmo hd]
   rw [if_pos (by omega),if_neg (by omega),if_neg (by omega)]
   congr 1
   omega
theorem pInt {n:Int} (h:-9223372036854775808≤n∧n≤9223372036854775807):Lib.parseIntB 64 (intV n)=.ok n:=by
 unfold intV qgO
 by_cases hn:n < 0
 ·rw [if_pos hn]
  have hp:=qxR ((-n).toNat+1) (-n).toNat (by omega) (by omega)
  have hne:=qoo (-n).toNat
  have e:(2 ^ 64 - 1:Nat)=18446744073709551615:=by decide
  have e2:(2 ^ (64 - 1):Nat)=9223372036854775808:=by decide
  have e3:(45:UInt8).toNat=45:=rfl
  simp only [Lib.parseIntB,Lib.parseUintB,e3,e,e2,or_true,if_true,if_neg hne,hp]
  rw [if_neg (by simp),if_neg (by simp; omega)]
  congr 1
  simp
  omega
 ·rw [if_neg hn]
  have hp:=qxR (n.toNat+1) n.toNat (by omega) (by omega)
  obtain ⟨c,t,ht,hc1,hc2⟩:=qgL n.toNat
  have e:(2 ^ 64 - 1:Nat)=18446744073709551615:=by decide
  have e2:(2 ^ (64 - 1):Nat)=9223372036854775808:=by decide
  rw [ht] at hp ⊢
  simp only [Lib.parseIntB,Lib.parseUintB]
  rw [if_neg (by omega:¬ (c.toNat=43∨c.toNat=45)),if_neg (by simp),e,hp]
  simp only [e2]
  rw [if_neg (by omega),if_neg (by omega),if_neg (by omega)]
  congr 1
  omega
theorem qJS {n:Int} (h:-9223372036854775808≤n∧n≤9223372036854775807):pOk (intV n)=true:=by unfold pOk; rw [pInt h]
theorem qGK {n:Int} (h:-9223372036854775808≤n∧n≤9223372036854775807):pVal (intV n)=n:=by unfold pVal; rw [pInt h]
theorem qJE {n:Int} (h:-9223372036854775808≤n∧n≤9223372036854775807):whoO (intV n)=some n:=by
 unfold intV qgO whoO
 by_cases hn:n < 0
 ·rw [if_pos hn]
  have hl:=qgC 18 (-n).toNat (by omega)
  have hp:=qo2 ((-n).toNat+1) (-n).toNat (by omega)
  have hne:=qoo (-n).toNat
  simp only [List.head?_cons,if_true,List.drop_succ_cons,List.drop_zero,whoN]
  rw [if_neg (by rintro (h | h); exact hne h; omega),hp]
  simp only []
  rw [if_neg (by simp; omega)]
  congr 1
  simp
  omega
 ·rw [if_neg hn]
  have hl:=qgC 18 n.toNat (by omega)
  have hp:=qo2 (n.toNat+1) n.toNat (by omega)
  have hne:=qoo n.toNat
  obtain ⟨c,t,ht,hc1,hc2⟩:=qgL n.toNat
  have hh:¬ (qfU n.toNat).head?=some 45:=by
   rw [ht]
   simp
   intro h
   subst h
   revert hc1
   decide
  rw [if_neg hh]
  unfold whoN
  rw [if_neg (by rintro (h | h); exact hne h; omega),hp]
  simp only []
  rw [if_neg (by simp; omega)]
  congr 1
  simp
  omega
theorem qKi (n:Int):qd2 (intV n) [34]=false:=by
 unfold intV qgO qd2
 by_cases hn:n < 0
 ·rw [if_pos hn]; simp
 ·rw [if_neg hn]
  obtain ⟨c,t,ht,hc1,hc2⟩:=qgL n.toNat
  rw [ht]
  simp
  intro h
  subst h
  revert hc1
  decide
end Go.Pv
set_option maxHeartbeats 4000000
set_option maxRecDepth 200000
set_option linter.unusedSimpArgs false
set_option linter.unusedVariables false
namespace Go.Pv
open Go Go.Proofs Go.RowKit
def hx1 (c:UInt8):UInt8:=UInt8.ofNat (sAt hexL (iShr .u8 c.toNat 4)).toNat
def hx2 (c:UInt8):UInt8:=UInt8.ofNat (sAt hexL (iAnd .u8 c.toNat 15)).toNat
theorem qs8 (c:UInt8):oneV c.toNat=if c=34∨c=92 then [92,c] else if c=10 then [92,110] else if c=9 then [92,116] else if 32≤c.toNat∧c.toNat≤126 then [c] else [92,120,hx1 c,hx2 c]:=by
 have e:∀ k:UInt8,((c.toNat:Int)=(k.toNat:Int))=(c=k):=fun k=>propext ⟨fun h=>UInt8.toNat_inj.1 (by omega),fun h=>by rw [h]⟩
 have e34:=e 34
 have e92:=e 92
 have e10:=e 10
 have e9:=e 9
 unfold oneV hx1 hx2
 have r:UInt8.ofNat (c.toNat:Int).toNat=c:=by simp
 rw [r]
 have p1:((c.toNat:Int)=34)=(c=34):=e34
 have p2:((c.toNat:Int)=92)=(c=92):=e92
 have p3:((c.toNat:Int)=10)=(c=10):=e10
 have p4:((c.toNat:Int)=9)=(c=9):=e9
 have p5:((32:Int)≤c.toNat∧(c.toNat:Int)≤126)=(32≤c.toNat∧c.toNat≤126):=propext ⟨fun h=>⟨by omega,by omega⟩,fun h=>⟨by omega,by omega⟩⟩
 simp only [p1,p2,p3,p4,p5]
theorem qMM:∀ n:Fin 256,digV (hx1 (UInt8.ofNat n.val)).toNat < 16∧digV (hx2 (UInt8.ofNat n.val)).toNat < 16 ∧
 (UInt8.ofNat (iOr .u8 (iShl .u8 (digV (hx1 (UInt8.ofNat n.val)).toNat) 4) (digV (hx2 (UInt8.ofNat n.val)).toNat)).toNat).toNat=n.val ∧
 0≤qcw (hx1 (UInt8.ofNat n.val)).toNat∧0≤qcw (hx2 (UInt8.ofNat n.val)).toNat∧(hexW [hx1 (UInt8.ofNat n.val),hx2 (UInt8.ofNat n.val)]).toNat=n.val:=by decide +kernel
theorem qHB (c:UInt8):digV (hx1 c).toNat < 16∧digV (hx2 c).toNat < 16∧UInt8.ofNat (iOr .u8 (iShl .u8 (digV (hx1 c).toNat) 4) (digV (hx2 c).toNat)).toNat=c ∧
  0≤qcw (hx1 c).toNat∧0≤qcw (hx2 c).toNat∧hexW [hx1 c,hx2 c]=c:=by
 have h:=qMM ⟨c.toNat,c.toNat_lt⟩
 simp only [UInt8.ofNat_toNat] at h
 exact ⟨h.1,h.2.1,UInt8.toNat_inj.1 h.2.2.1,h.2.2.2.1,h.2.2.2.2.1,UInt8.toNat_inj.1 h.2.2.2.2.2⟩
theorem qiD (c:UInt8) (t:List UInt8):decP (c :: t)=if c=92 then (if escN t=0 then none else (decP (t.drop (escN t).toNat)).map (UInt8.ofNat (escB t).toNat :: ·)) else (decP t).map (c :: ·):=by rw [decP]
theorem qIN (c:UInt8) (r:List UInt8):decP (oneV c.toNat++r)=(decP r).map (c :: ·):=by
 rw [qs8]
 by_cases h1:c=34∨c=92
 ·rw [if_pos h1]
  have a:sAt (c :: r) 0=c.toNat:=by simp
  have q:(c.toNat:Int)=34∨(c.toNat:Int)=92:=by rcases h1 with rfl | rfl <;> decide
  have n1:escN (c :: r)=1:=by unfold escN; rw [if_neg (by simp),a,if_pos q]
  have n2:escB (c :: r)=c.toNat:=by unfold escB; rw [if_neg (by simp),a,if_pos q]
  simp only [List.cons_append,List.nil_append]
  rw [qiD,if_pos rfl,n1,n2]
  simp
 ·rw [if_neg h1]
  by_cases h2:c=10
  ·subst h2
   have a:sAt (110 :: r) 0=110:=by simp
   have n1:escN (110 :: r)=1:=by unfold escN; rw [if_neg (by simp),a]; simp
   have n2:escB (110 :: r)=10:=by unfold escB; rw [if_neg (by simp),a]; simp
   simp only [if_true,List.cons_append,List.nil_append]
   rw [qiD,if_pos rfl,n1,n2]
   simp
  ·rw [if_neg h2]
   by_cases h3:c=9
   ·subst h3
    have a:sAt (116 :: r) 0=116:=by simp
    have n1:escN (116 :: r)=1:=by unfold escN; rw [if_neg (by simp),a]; simp
    have n2:escB (116 :: r)=9:=by unfold escB; rw [if_neg (by simp),a]; simp
    simp only [if_true,List.cons_append,List.nil_append]
    rw [qiD,if_pos rfl,n1,n2]
    simp
   ·rw [if_neg h3]
    by_cases h4:32≤c.toNat∧c.toNat≤126
    ·rw [if_pos h4]
     simp only [List.cons_append,List.nil_append]
     rw [qiD,if_neg (fun h=>h1 (.inr h))]
    ·rw [if_neg h4]
     obtain ⟨g1,g2,g3,_⟩:=qHB c
     have a0:sAt (120 :: hx1 c :: hx2 c :: r) 0=120:=by simp
     have a1:sAt (120 :: hx1 c :: hx2 c :: r) 1=(hx1 c).toNat:=by simp
     have a2:sAt (120 :: hx1 c :: hx2 c :: r) 2=(hx2 c).toNat:=by simp
     have q:(120:Int)=120∧3≤(120 :: hx1 c :: hx2 c :: r).length∧digV (hx1 c).toNat < 16∧digV (hx2 c).toNat < 16:=⟨rfl,by simp,g1,g2⟩
     have n1:escN (120 :: hx1 c :: hx2 c :: r)=3:=by unfold escN; rw [if_neg (by simp),a0,a1,a2,if_neg (by omega),if_neg (by omega),if_neg (by omega),if_pos q]
     have n2:escB (120 :: hx1 c :: hx2 c :: r)=iOr .u8 (iShl .u8 (digV (hx1 c).toNat) 4) (digV (hx2 c).toNat):=by unfold escB; rw [if_neg (by simp),a0,a1,a2,if_neg (by omega),if_neg (by omega),if_neg (by omega),if_pos q]
     simp only [List.cons_append,List.nil_append]
     rw [qiD,if_pos rfl,n1,n2,g3]
     simp
theorem qln (c:UInt8) (b:List UInt8):symB (c :: b)=oneV c.toNat++symB b:=by simp [symB]
theorem qDv:∀ b:List UInt8,decP (symB b)=some b
 | []=>by simp [symB,decP]
 | c :: b=>by rw [qln,qIN,qDv b]; rfl
theorem qIV (c:UInt8) (r:List UInt8):rS (oneV c.toNat++r)=.one c (oneV c.toNat).length:=by
 rw [qs8]
 by_cases h1:c=34∨c=92
 ·rw [if_pos h1]
  rcases h1 with rfl | rfl <;> simp [rS]
 ·rw [if_neg h1]
  by_cases h2:c=10
  ·subst h2; simp [rS]
  ·rw [if_neg h2]
   by_cases h3:c=9
   ·subst h3; simp [rS]
   ·rw [if_neg h3]
    have h34:¬ c=34:=fun h=>h1 (.inl h)
    have h92:¬ c=92:=fun h=>h1 (.inr h)
    by_cases h4:32≤c.toNat∧c.toNat≤126
    ·rw [if_pos h4]
     simp [rS,h34,h92]
    ·rw [if_neg h4]
     obtain ⟨_,_,_,g4,g5,g6⟩:=qHB c
     have g7:hexW (hx1 c :: hx2 c :: r)=c:=g6
     have g8:qri (hx1 c :: hx2 c :: r)=true:=by simp [qri,g4,g5]
     simp [rS,g7,g8]
theorem qHG:∀ b:List UInt8,rP (symB b++[34])=some (b,[34])
 | []=>by rw [qsU] <;> simp [symB,rS]
 | c :: b=>by
  have e:symB (c :: b)++[34]=oneV c.toNat++(symB b++[34]):=by rw [qln,List.append_assoc]
  rw [e,qHW (qIV c _),List.drop_left,qHG b]
  rfl
theorem qML (b:List UInt8):rsO (symV b)=(b,true):=by
 have e:(symV b).drop 1=symB b++[34]:=by simp [symV]
 unfold rsO
 rw [if_neg (by simp [symV]),e,qHG b]
 rfl
theorem qKr (b:List UInt8):whoO (symV b)=none:=by
 have e:symV b=34 :: (symB b++[34]):=by simp [symV]
 rw [e]
 unfold whoO
 rw [if_neg (by simp)]
 unfold whoN
 split
 ·rfl
 ·have:numN (34 :: (symB b++[34])) 0=none:=by unfold numN; rw [if_neg (by decide)]
  rw [this]
end Go.Pv
set_option maxHeartbeats 4000000
set_option maxRecDepth 200000
set_option linter.unusedSimpArgs false
set_option linter.unusedVariables false
namespace Go.Pv
open Go Go.Proofs Go.RowKit
theorem qlD (k n:Int) (s:List UInt8):qeh k n s=qf3 k n s:=by unfold qeh qf3; rw [qGR]
def valid (v:Int × Int × List UInt8):Prop:=(v.1=1∧v.2.2=[]∧-9223372036854775808≤v.2.1∧v.2.1≤9223372036854775807)∨(v.1=2∧v.2.1=0∧v.2.2.length≤256)
def qru (v:Int × Int × List UInt8):List UInt8:=qf3 v.1 v.2.1 v.2.2
theorem qlR (n:Int):qbD 1 n []=0:=by simp [qbD]
theorem qlA {b:List UInt8}:qbD 2 0 b=0↔b.length≤256:=by
 unfold qbD
 by_cases h:b.length≤256 <;> simp [h]
theorem qk9 (n:Int):qf3 1 n []=intV n:=by simp [qf3,isV]
theorem ql9 {b:List UInt8} (h:b.length≤256):qf3 2 0 b=symV b:=by simp [qf3,isV,h]
theorem qGU (s:List UInt8):-9223372036854775808≤pVal s∧pVal s≤9223372036854775807:=by
 have h:=qED s
 simp [Lit.wf,IntKind.min,IntKind.max,IntKind.signed,IntKind.bits] at h
 omega
theorem qzs {m:Bool} {t:List UInt8} {n:Int} (h:whoN m t=some n):-9223372036854775808≤n∧n≤9223372036854775807:=by
 unfold whoN at h
 split at h
 ·cases h
 ·split at h
  ·cases h
  ·rename_i x hx
   split at h
   ·cases h
   ·rename_i hn
    cases h
    cases m with
    | true=>simp at hn ⊢; omega
    | false=>simp at hn ⊢; omega
theorem qKo {s:List UInt8} {n:Int} (h:whoO s=some n):-9223372036854775808≤n∧n≤9223372036854775807:=by
 unfold whoO at h
 split at h
 ·exact qzs h
 ·exact qzs h
def rrV (s:List UInt8):Option (Int × Int × List UInt8):=match whoO s with
 | some n=>if qbD 1 n []=0∧qf3 1 n []=s then some (1,n,[]) else none
 | none=>if (rsO s).2=true∧qbD 2 0 (rsO s).1=0∧qf3 2 0 (rsO s).1=s then some (2,0,(rsO s).1) else none
theorem qMQ {s:List UInt8} {v:Int × Int × List UInt8} (h:rdV s=some v):valid v∧qru v=s:=by
 unfold rdV at h
 split at h
 ·split at h
  ·split at h
   ·rename_i hc
    cases h
    exact ⟨.inr ⟨rfl,rfl,qlA.1 hc.1⟩,by unfold qru; rw [← qlD]; exact hc.2⟩
   ·cases h
  ·cases h
 ·split at h
  ·split at h
   ·rename_i hc
    cases h
    exact ⟨.inl ⟨rfl,rfl,qGU s⟩,by unfold qru; rw [← qlD]; exact hc.2⟩
   ·cases h
  ·cases h
theorem qNf {s:List UInt8} {v:Int × Int × List UInt8} (h:rrV s=some v):valid v∧qru v=s:=by
 unfold rrV at h
 split at h
 ·rename_i n hn
  split at h
  ·rename_i hc
   cases h
   exact ⟨.inl ⟨rfl,rfl,qKo hn⟩,hc.2⟩
  ·cases h
 ·split at h
  ·rename_i hc
   cases h
   exact ⟨.inr ⟨rfl,rfl,qlA.1 hc.2.1⟩,hc.2.2⟩
  ·cases h
theorem qEZ {v:Int × Int × List UInt8} (h:valid v):rdV (qru v)=some v:=by
 obtain ⟨k,n,b⟩:=v
 rcases h with ⟨h1,h2,h3⟩ | ⟨h1,h2,h3⟩
 ·simp only at h1 h2 h3
  subst h1 h2
  simp only [qru,qk9]
  unfold rdV
  rw [if_neg (by rw [qKi]; simp),qJS h3,qGK h3]
  simp [qlR,qlD,qk9]
 ·simp only at h1 h2 h3
  subst h1 h2
  simp only [qru,ql9 h3]
  have e:symV b=34 :: (symB b++[34]):=by simp [symV]
  have p1:qd2 (symV b) [34]=true:=by rw [e]; simp [qd2]
  have p2:qpE (symV b) [34]=true:=by rw [e]; simp [qpE]
  have p3:2≤(symV b).length:=by rw [e]; simp
  have p4:((symV b).take ((symV b).length - 1)).drop 1=symB b:=by rw [e]; simp
  unfold rdV
  rw [if_pos ⟨p1,p2,p3⟩,p4,qDv b]
  simp only []
  rw [if_pos ⟨qlA.2 h3,by rw [qlD,ql9 h3]⟩]
theorem qIi {v:Int × Int × List UInt8} (h:valid v):rrV (qru v)=some v:=by
 obtain ⟨k,n,b⟩:=v
 rcases h with ⟨h1,h2,h3⟩ | ⟨h1,h2,h3⟩
 ·simp only at h1 h2 h3
  subst h1 h2
  simp only [qru,qk9]
  unfold rrV
  rw [qJE h3]
  simp [qlR,qk9]
 ·simp only at h1 h2 h3
  subst h1 h2
  simp only [qru,ql9 h3]
  unfold rrV
  rw [qKr,qML]
  simp only []
  rw [if_pos (by simp [qlA.2 h3,ql9 h3])]
theorem qNn (s:List UInt8):rrV s=rdV s:=by
 cases h:rrV s with
 | some v =>
  obtain ⟨h1,h2⟩:=qNf h
  rw [← h2,qEZ h1]
 | none =>
  cases h':rdV s with
  | none=>rfl
  | some v =>
   obtain ⟨h1,h2⟩:=qMQ h'
   rw [← h2,qIi h1] at h
   cases h
theorem qBx (gl:Gl):SimP Tryz.prog gl 123 fun args=>(qrT args).run:=by
 refine SimP.of_tree (G:=ofL [(143,.pure qw8),(144,.pure qp3),(46,.pure qxj)]) (L:=fun _ _ _=>.fail) qav (qac (qCu gl) (qac (qw4 gl) (qac (qDo gl) qag))) qah Tryz.func123 rfl (by rfl) (by kernel_rfl) (qae (by kernel_rfl)) ?_
 intro args x h hr
 unfold qrT at h
 split at h
 ·rename_i s
  obtain ⟨h1,h2⟩:=Tr.chk_some h
  cases h2
  refine Tr.run_as (Tr.ite (qkC s)
    (Tr.ite (qgT s)
     (Tr.ite (bNot (qgT s)) (Tr.ret (PV.tup [PV.agg [PV.int IntKind.i64 0,PV.int IntKind.i64 0,PV.str []],PV.int IntKind.i64 10]))
      (Tr.ite (iNe (qbD 1 (whoV s) []) 0) (Tr.ret (PV.tup [PV.agg [PV.int IntKind.i64 0,PV.int IntKind.i64 0,PV.str []],PV.int IntKind.i64 10]))
       (Tr.ite (sNe (qf3 1 (whoV s) []) s) (Tr.ret (PV.tup [PV.agg [PV.int IntKind.i64 0,PV.int IntKind.i64 0,PV.str []],PV.int IntKind.i64 10]))
        (Tr.ret (PV.tup [PV.agg [PV.int IntKind.i64 1,PV.int IntKind.i64 (whoV s),PV.str []],PV.int IntKind.i64 0])))))
     (Tr.ite (qkC s)
      (Tr.ite (bNot (okRs s)) (Tr.ret (PV.tup [PV.agg [PV.int IntKind.i64 0,PV.int IntKind.i64 0,PV.str []],PV.int IntKind.i64 10]))
       (Tr.ite (iNe (qbD 2 0 (rsV s)) 0) (Tr.ret (PV.tup [PV.agg [PV.int IntKind.i64 0,PV.int IntKind.i64 0,PV.str []],PV.int IntKind.i64 10]))
        (Tr.ite (sNe (qf3 2 0 (rsV s)) s) (Tr.ret (PV.tup [PV.agg [PV.int IntKind.i64 0,PV.int IntKind.i64 0,PV.str []],PV.int IntKind.i64 10]))
         (Tr.ret (PV.tup [PV.agg [PV.int IntKind.i64 2,PV.int IntKind.i64 0,PV.str (rsV s)],PV.int IntKind.i64 0])))))
      Tr.fail))
    Tr.fail) (by kernel_rfl) ?_
  have fin:∀ o:Option (Int × Int × List UInt8),rrV s=o→PV.tup [.agg [.int .i64 (kRd s),.int .i64 (nRd s),.str (sRd s)],.int .i64 (eRd s)]=match o with | some v=>.tup [.agg [.int .i64 v.1,.int .i64 v.2.1,.str v.2.2],.int .i64 0] | none=>.tup [.agg [.int .i64 0,.int .i64 0,.str []],.int .i64 10]:=by
   intro o ho
   rw [qNn] at ho
   unfold kRd nRd sRd eRd
   rw [ho]
   cases o <;> rfl
  rw [h1]
  cases hw:whoO s with
  | some n =>
   have w1:qgT s=true:=by unfold qgT; rw [hw]; rfl
   have w2:whoV s=n:=by unfold whoV; rw [hw]; rfl
   rw [w1,w2]
   by_cases hc:qbD 1 n []=0∧qf3 1 n []=s
   ·rw [fin (some (1,n,[])) (by unfold rrV; rw [hw]; simp only []; rw [if_pos hc])]
    simp [hc]
   ·rw [fin none (by unfold rrV; rw [hw]; simp only []; rw [if_neg hc])]
    have:¬ qf3 1 n []=s:=fun h=>hc ⟨qlR n,h⟩
    simp [qlR,this]
  | none =>
   have w1:qgT s=false:=by unfold qgT; rw [hw]; rfl
   have w3:okRs s=(rsO s).2:=rfl
   have w4:rsV s=(rsO s).1:=rfl
   rw [w1,w3,w4]
   by_cases hc:(rsO s).2=true∧qbD 2 0 (rsO s).1=0∧qf3 2 0 (rsO s).1=s
   ·rw [fin (some (2,0,(rsO s).1)) (by unfold rrV; rw [hw]; simp only []; rw [if_pos hc])]
    simp [hc]
   ·rw [fin none (by unfold rrV; rw [hw]; simp only []; rw [if_neg hc])]
    by_cases c1:(rsO s).2=true
    ·by_cases c2:qbD 2 0 (rsO s).1=0
     ·have c3:¬ qf3 2 0 (rsO s).1=s:=fun h=>hc ⟨c1,c2,h⟩
      simp [c1,c2,c3]
     ·simp [c1,c2]
    ·simp [c1]
 ·cases h
end Go.Pv
set_option maxHeartbeats 4000000
set_option linter.unusedSimpArgs false
set_option linter.unusedVariables false
namespace Go.Pv
def qeb (b:UInt8):Bool:=decide (97≤b.toNat) && decide (b.toNat≤122)
def qfD (b:UInt8):Bool:=decide (65≤b.toNat) && decide (b.toNat≤90)
def qaN (b:UInt8):Bool:=decide (48≤b.toNat) && decide (b.toNat≤57)
def innB (b:UInt8):Bool:=qeb b || qfD b || qaN b || decide (b.toNat=95)
def blB (b:UInt8):Bool:=decide (b.toNat=32) || decide (b.toNat=9) || decide (b.toNat=10) || decide (b.toNat=13)
def runL (p:UInt8→Bool):List UInt8→Nat
 | []=>0
 | b :: s=>if p b then runL p s+1 else 0
def incN (n:Nat):Nat:=if n=0 then 0 else n+1
def quoE:Bool→List UInt8→Nat
 | _,[]=>0
 | true,_ :: s=>incN (quoE false s)
 | false,b :: s=>if b.toNat=34 then 1 else if b.toNat=92 then incN (quoE true s) else incN (quoE false s)
def quoL (s:List UInt8):Nat:=quoE false s
theorem qw9 {n m:Nat} (h:n≤m):incN n≤m+1:=by unfold incN; split <;> omega
def gapL:Bool→List UInt8→Nat
 | _,[]=>0
 | c,b :: s=>if c || blB b || decide (b.toNat=37) then gapL (decide (b.toNat=37) || c && decide (b.toNat≠10)) s+1 else 0
def qhb (b:UInt8):Bool:=[40,41,44,46,43,45,61,58,60,62].contains b.toNat
def twoB (a b:UInt8):Bool:=decide (a.toNat=58∧b.toNat=45) || decide (a.toNat=60∧b.toNat=61) || decide (a.toNat=62∧b.toNat=61) || decide (a.toNat=33∧b.toNat=61)
def hdIs (p:UInt8→Bool):List UInt8→Bool
 | []=>false
 | b :: _=>p b
def qdE (c:UInt8) (t:List UInt8):Nat:=if hdIs (twoB c) t then 2 else if qhb c then 1 else 0
def valL (k:Int) (s:List UInt8) (n:Nat):Option (Int × Nat × Vl):=match rdV (s.take n) with
 | some v=>some (k,n,v)
 | none=>none
def wdL:List UInt8→Option (Int × Nat × Vl)
 | []=>none
 | c :: t =>
  if qeb c then (if runL innB t+1≤64 then some (1,runL innB t+1,0,0,[]) else none)
  else if qfD c then (if runL innB t+1≤64 then some (2,runL innB t+1,0,0,[]) else none)
  else if c.toNat=95 then (if hdIs innB t then none else some (3,1,0,0,[]))
  else if qaN c || (decide (c.toNat=45) && hdIs qaN t) then valL 4 (c :: t) (runL qaN t+1)
  else if c.toNat=34 then (if quoL t=0 then none else valL 5 (c :: t) (quoL t+1))
  else if qdE c t=0 then none else some (6,qdE c t,0,0,[])
abbrev Wd:=Int × List UInt8 × Vl × Int
def lexL:Nat→Nat→List UInt8→List Wd × Option Nat
 | 0,_,_=>([],none)
 | n+1,at_,s=>match s with
  | []=>([],none)
  | _=>match wdL s with
   | none=>([],some at_)
   | some (k,m,v) =>
    let r:=lexL n (at_+m+gapL false (s.drop m)) (s.drop (m+gapL false (s.drop m)))
    ((k,s.take m,v,(at_:Int)) :: r.1,r.2)
def qeg (s:List UInt8):List Wd × Option Nat:=lexL (s.length+1) (gapL false s) (s.drop (gapL false s))
theorem qky (p:UInt8→Bool):∀ s:List UInt8,runL p s≤s.length
 | []=>Nat.le_refl _
 | b :: s=>by
  have:=qky p s
  unfold runL
  split <;> simp only [List.length_cons] <;> omega
theorem qtU:∀ (e:Bool) (s:List UInt8),quoE e s≤s.length
 | _,[]=>by cases ‹Bool› <;> exact Nat.le_refl _
 | true,_ :: s=>qw9 (qtU false s)
 | false,b :: s=>by
  have h1:=qw9 (qtU true s)
  have h2:=qw9 (qtU false s)
  simp only [quoE,List.length_cons]
  split
  ·omega
  ·split
   ·exact h1
   ·exact h2
theorem qxM (s:List UInt8):quoL s≤s.length:=qtU false s
theorem qkE:∀ (c:Bool) (s:List UInt8),gapL c s≤s.length
 | _,[]=>Nat.le_refl _
 | c,b :: s=>by
  have:=qkE (decide (b.toNat=37) || c && decide (b.toNat≠10)) s
  unfold gapL
  split <;> simp only [List.length_cons] <;> omega
theorem qmg {s:List UInt8} {k:Int} {m:Nat} {v:Vl} (h:wdL s=some (k,m,v)):1≤m∧m≤s.length:=by
 cases s with
 | nil=>cases h
 | cons c t =>
  have h1:=qky innB t
  have h2:=qky qaN t
  have h3:=qxM t
  have h4:qdE c t≤(c :: t).length:=by
   unfold qdE
   cases t with
   | nil=>cases qhb c <;> simp [hdIs]
   | cons d t=>cases hdIs (twoB c) (d :: t) <;> cases qhb c <;> simp
  simp only [wdL] at h
  simp only [List.length_cons] at h4 ⊢
  repeat' (split at h)
  all_goals first | (cases h; done) | skip
  all_goals first | (cases h; omega) | (unfold valL at h; split at h <;> first | (cases h; done) | (cases h; omega))
def cW:Cod Wd where
 enc t:=[.int .i64 t.1,.str t.2.1,.int .i64 t.2.2.1.1,.int .i64 t.2.2.1.2.1,.str t.2.2.1.2.2,.int .i64 t.2.2.2]
 dec c:=match c with | [.int .i64 a,.str b,.int .i64 k,.int .i64 n,.str s,.int .i64 p]=>some (a,b,(k,n,s),p) | _=>none
 k:=6
 of_dec c a h:=by
  split at h
  ·cases h; rfl
  ·cases h
 dec_of a:=rfl
 lock a:=rfl
 shut a:=rfl
 len a:=rfl
 one a:=rfl
@[simp] theorem okSize_cW (l:List Wd):qaC (rOf cW l) 6=true:=qcp cW l
@[simp] theorem okNews_cW (l:List Wd):qaO (rOf cW l) 6=true:=qck cW l
@[simp] theorem qHi (l:List Wd) (i:Nat):qbM [.int .i64 0,.str [],.int .i64 0,.int .i64 0,.str [],.int .i64 0] (rOf cW l) i=decide (i < l.length):=qc8 _ _ (fun _=>rfl) l i
@[simp] theorem qHd (l:List Wd) (i:Nat):xInt (rOf cW l) i 0=(l[i]?.getD (0,[],(0,0,[]),0)).1:=by unfold xInt; rw [qaQ]; cases l[i]? <;> rfl
@[simp] theorem qGC (l:List Wd) (i:Nat):xStr (rOf cW l) i 1=(l[i]?.getD (0,[],(0,0,[]),0)).2.1:=by unfold xStr; rw [qaQ]; cases l[i]? <;> rfl
@[simp] theorem xInt_cW2 (l:List Wd) (i:Nat):xInt (rOf cW l) i 2=(l[i]?.getD (0,[],(0,0,[]),0)).2.2.1.1:=by unfold xInt; rw [qaQ]; cases l[i]? <;> rfl
@[simp] theorem xInt_cW3 (l:List Wd) (i:Nat):xInt (rOf cW l) i 3=(l[i]?.getD (0,[],(0,0,[]),0)).2.2.1.2.1:=by unfold xInt; rw [qaQ]; cases l[i]? <;> rfl
@[simp] theorem xStr_cW4 (l:List Wd) (i:Nat):xStr (rOf cW l) i 4=(l[i]?.getD (0,[],(0,0,[]),0)).2.2.1.2.2:=by unfold xStr; rw [qaQ]; cases l[i]? <;> rfl
@[simp] theorem xInt_cW5 (l:List Wd) (i:Nat):xInt (rOf cW l) i 5=(l[i]?.getD (0,[],(0,0,[]),0)).2.2.2:=by unfold xInt; rw [qaQ]; cases l[i]? <;> rfl
theorem qDW (l:List Wd) (a:Int) (b:List UInt8) (k n:Int) (s:List UInt8) (p:Int):rOf cW l++[[.int .i64 a,.str b,.int .i64 k,.int .i64 n,.str s,.int .i64 p]]=rOf cW (l++[(a,b,(k,n,s),p)]):=by rw [qgw]; rfl
theorem qHQ (a:Int) (b:List UInt8) (k n:Int) (s:List UInt8) (p:Int):([[.int .i64 a,.str b,.int .i64 k,.int .i64 n,.str s,.int .i64 p]]:List (List PV))=rOf cW [(a,b,(k,n,s),p)]:=rfl
@[simp] theorem qDO (l:List Wd) (a:Int) (b:List UInt8) (k n:Int) (s:List UInt8) (p:Int):[.int .i64 a,.str b,.int .i64 k,.int .i64 n,.str s,.int .i64 p] :: rOf cW l=rOf cW ((a,b,(k,n,s),p) :: l):=rfl
end Go.Pv
set_option maxHeartbeats 4000000
set_option maxRecDepth 200000
set_option linter.unusedSimpArgs false
set_option linter.unusedVariables false
namespace Go.Pv
open Go Go.Proofs
noncomputable def qtH:GamT:=ofL []
theorem qBc (gl:Gl):qaR Tryz.prog gl (gam qtH):=qag
noncomputable def qzj:LpsT:=fun r fr σ=>.fail
noncomputable def qpZ (c:Int):Tr PV:=.ite (iLe 48 c) (.ret (.bool (iLe c 57))) (.ret (.bool false))
theorem qGX (c:Int):(tcall tbT qtH qzj Tryz.f156 [.int .u8 c]).flat=qpZ c:=by kernel_rfl
noncomputable def qou (c:Int):Option PV:=(qpZ c).run
noncomputable def qbd (c:Int):Bool:=(qb4 (gVal (qou c)))
noncomputable def qba (c:Int):Bool:=isW (qou c) (.bool (qbd c))
noncomputable def qlw:List PV→Tr PV | [.int .u8 c]=>.ite (qba c) (.ret (.bool (qbd c))) (.fail) | _=>.fail
theorem qnc (gl:Gl):SimP Tryz.prog gl 156 fun args=>(qlw args).run:=by
 refine SimP.of_flat (G:=qtH) (L:=qzj) qav (qBc gl ) qah  Tryz.func156 rfl (by rfl) (by kernel_rfl) (qae (by kernel_rfl)) ?_
 intro args x h
 unfold qlw at h
 split at h
 ·exact (congrArg Tr.run (qGX _)).trans (qai h fun h=>by cases h)
 ·cases h
noncomputable def qm8:GamT:=ofL [(156,.pure qlw)]
theorem qvN (gl:Gl):qaR Tryz.prog gl (gam qm8):=(qac (qnc gl) qag)
noncomputable def qsf:LpsT:=fun r fr σ=>.fail
noncomputable def qkl (c:Int):Tr PV:=.ite (iLe 97 c) (.ite (iLe c 122) (.ret (.bool true)) (.ite (iLe 65 c) (.ite (iLe c 90) (.ret (.bool true)) (.ite (iEq c 95) (.ret (.bool true)) (.ite (qba c) (.ret (.bool (qbd c))) .fail))) (.ite (iEq c 95) (.ret (.bool true)) (.ite (qba c) (.ret (.bool (qbd c))) .fail)))) (.ite (iLe 65 c) (.ite (iLe c 90) (.ret (.bool true)) (.ite (iEq c 95) (.ret (.bool true)) (.ite (qba c) (.ret (.bool (qbd c))) .fail))) (.ite (iEq c 95) (.ret (.bool true)) (.ite (qba c) (.ret (.bool (qbd c))) .fail)))
theorem qz3 (c:Int):(tcall tbT qm8 qsf Tryz.f155 [.int .u8 c]).flat=qkl c:=by kernel_rfl
noncomputable def qjk (c:Int):Option PV:=(qkl c).run
noncomputable def qbZ (c:Int):Bool:=(qb4 (gVal (qjk c)))
noncomputable def qbP (c:Int):Bool:=isW (qjk c) (.bool (qbZ c))
noncomputable def qgR:List PV→Tr PV | [.int .u8 c]=>.ite (qbP c) (.ret (.bool (qbZ c))) (.fail) | _=>.fail
theorem qia (gl:Gl):SimP Tryz.prog gl 155 fun args=>(qgR args).run:=by
 refine SimP.of_flat (G:=qm8) (L:=qsf) qav (qvN gl ) qah  Tryz.func155 rfl (by rfl) (by kernel_rfl) (qae (by kernel_rfl)) ?_
 intro args x h
 unfold qgR at h
 split at h
 ·exact (congrArg Tr.run (qz3 _)).trans (qai h fun h=>by cases h)
 ·cases h
noncomputable def qqI:GamT:=ofL [(155,.pure qgR),(156,.pure qlw)]
theorem qyV (gl:Gl):qaR Tryz.prog gl (gam qqI):=(qac (qia gl) (qac (qnc gl) qag))
noncomputable def qqV:Code:=qeP Tryz.f158 2
def qoV:LI:=⟨20,[0,1,5],fun e=>match e with | .exit 0=>[5] | _=>[],true⟩
noncomputable def qoQ:LpsT:=fun r fr σ=>.fail
noncomputable def qfj (vs:List PV) (σ:Store):Option (PExit × List PV × Store):=lval (lstep tbT qqI qoQ qqV qoV) vs σ
noncomputable def qk8 (s:List UInt8) (n:Int):Tr LR:=.ite (iLt n (sLen s)) (.ite (qaJ s n) (.ite (qbP (sAt s n)) (.ite (qbZ (sAt s n)) (.ret (.next [.str s,.fn 155 [],.int .i64 (iAdd .i64 n 1)] ⟨[],[],[]⟩)) (.ret (.out (.exit 0) [.int .i64 n] ⟨[],[],[]⟩))) .fail) .fail) (.ret (.out (.exit 0) [.int .i64 n] ⟨[],[],[]⟩))
theorem qKA (s:List UInt8) (n:Int):lstep tbT qqI qoQ qqV qoV [.str s,.fn 155 [],.int .i64 n] ⟨[],[],[]⟩=qk8 s n:=by kernel_rfl
theorem qDy (s:List UInt8) (n:Int):qfj [.str s,.fn 155 [],.int .i64 n] ⟨[],[],[]⟩=lnext qfj (qk8 s n).run:=by unfold qfj; rw [qbK,qKA]
noncomputable def qie (s:List UInt8) (n:Int):Tr LR:=.ite (iLt n (sLen s)) (.ite (qaJ s n) (.ite (qba (sAt s n)) (.ite (qbd (sAt s n)) (.ret (.next [.str s,.fn 156 [],.int .i64 (iAdd .i64 n 1)] ⟨[],[],[]⟩)) (.ret (.out (.exit 0) [.int .i64 n] ⟨[],[],[]⟩))) .fail) .fail) (.ret (.out (.exit 0) [.int .i64 n] ⟨[],[],[]⟩))
theorem qGt (s:List UInt8) (n:Int):lstep tbT qqI qoQ qqV qoV [.str s,.fn 156 [],.int .i64 n] ⟨[],[],[]⟩=qie s n:=by kernel_rfl
theorem qyw (s:List UInt8) (n:Int):qfj [.str s,.fn 156 [],.int .i64 n] ⟨[],[],[]⟩=lnext qfj (qie s n).run:=by unfold qfj; rw [qbK,qGt]
noncomputable def qye (s:List UInt8) (n:Int):Option (PExit × List PV × Store):=qfj [.str s,.fn 155 [],.int .i64 n] ⟨[],[],[]⟩
noncomputable def qua (s:List UInt8) (n:Int):Int:=(gInt (gOut (qye s n) 0))
noncomputable def qpJ (s:List UInt8) (n:Int):Bool:=isW (qye s n) ((.exit 0),[.int .i64 (qua s n)],⟨[],[],[]⟩)
noncomputable def qsL (s:List UInt8) (n:Int):Option (PExit × List PV × Store):=qfj [.str s,.fn 156 [],.int .i64 n] ⟨[],[],[]⟩
noncomputable def qoN (s:List UInt8) (n:Int):Int:=(gInt (gOut (qsL s n) 0))
noncomputable def qnm (s:List UInt8) (n:Int):Bool:=isW (qsL s n) ((.exit 0),[.int .i64 (qoN s n)],⟨[],[],[]⟩)
noncomputable def qiM:List PV→Store→Tr (PExit × List PV × Store) | [.str s,.fn 155 [],.int .i64 n],⟨[],[],[]⟩=>.ite (qpJ s n) (.ret ((.exit 0),[.int .i64 (qua s n)],⟨[],[],[]⟩)) (.fail) | [.str s,.fn 156 [],.int .i64 n],⟨[],[],[]⟩=>.ite (qnm s n) (.ret ((.exit 0),[.int .i64 (qoN s n)],⟨[],[],[]⟩)) (.fail) | _,_=>.fail
theorem qGE:∀ vs σ r,(qiM vs σ).run=some r→qfj vs σ=some r:=by
 intro vs σ r h
 unfold qiM at h
 split at h
 ·exact qai h fun h=>by cases h
 ·exact qai h fun h=>by cases h
 ·cases h
theorem qAZ (gl:Gl):∀ fr σ e fr' σ',(orc qoV qiM fr σ).run=some (e,fr',σ')→LDoes Tryz.prog gl qqV fr σ e fr' σ':=qcs qav (qyV gl ) qah (L:=qoQ) (qae (by kernel_rfl)) (by kernel_rfl) qGE
noncomputable def qyo:LpsT:=fun r fr σ=>bif Nat.beq r 2 then orc qoV qiM fr σ else .fail
noncomputable def qxC (s:List UInt8):Tr PV:=.ite (qpJ s 0) (.ret (.int .i64 (qua s 0))) .fail
theorem qK3 (s:List UInt8):(tcall tbT qqI qyo Tryz.f158 [.str s,.fn 155 []]).flat=qxC s:=by kernel_rfl
noncomputable def qzd (s:List UInt8):Option PV:=(qxC s).run
noncomputable def qlX (s:List UInt8):Int:=(gInt (gVal (qzd s)))
noncomputable def qnT (s:List UInt8):Bool:=isW (qzd s) (.int .i64 (qlX s))
noncomputable def qur (s:List UInt8):Tr PV:=.ite (qnm s 0) (.ret (.int .i64 (qoN s 0))) .fail
theorem qKW (s:List UInt8):(tcall tbT qqI qyo Tryz.f158 [.str s,.fn 156 []]).flat=qur s:=by kernel_rfl
noncomputable def qsw (s:List UInt8):Option PV:=(qur s).run
noncomputable def qaf (s:List UInt8):Int:=(gInt (gVal (qsw s)))
noncomputable def qbG (s:List UInt8):Bool:=isW (qsw s) (.int .i64 (qaf s))
noncomputable def qzq:List PV→Tr PV | [.str s,.fn 155 []]=>.ite (qnT s) (.ret (.int .i64 (qlX s))) (.fail) | [.str s,.fn 156 []]=>.ite (qbG s) (.ret (.int .i64 (qaf s))) (.fail) | _=>.fail
theorem qzk (gl:Gl):SimP Tryz.prog gl 158 fun args=>(qzq args).run:=by
 refine SimP.of_flat (G:=qqI) (L:=qyo) qav (qyV gl ) qah  Tryz.func158 rfl (by rfl) (by kernel_rfl) (qbg (L:=lps qyo) [(2,qqV)] (by kernel_rfl) (List.forall_mem_cons.2 ⟨fun fr σ e fr' σ' h=>qAZ gl  fr σ e fr' σ' h,(List.forall_mem_nil _)⟩)) ?_
 intro args x h
 unfold qzq at h
 split at h
 ·exact (congrArg Tr.run (qK3 _)).trans (qai h fun h=>by cases h)
 ·exact (congrArg Tr.run (qKW _)).trans (qai h fun h=>by cases h)
 ·cases h
noncomputable def qiE:GamT:=ofL []
theorem qqa (gl:Gl):qaR Tryz.prog gl (gam qiE):=qag
noncomputable def qiX:Code:=qeP Tryz.f159 2
def qjg:LI:=⟨21,[0,3],fun e=>match e with | .ret=>[2] | .exit 0=>[] | _=>[],true⟩
noncomputable def qj6:LpsT:=fun r fr σ=>.fail
noncomputable def qcE (vs:List PV) (σ:Store):Option (PExit × List PV × Store):=lval (lstep tbT qiE qj6 qiX qjg) vs σ
noncomputable def qew (s:List UInt8) (i:Int):Tr LR:=.ite (iLt i (sLen s)) (.ite (qaJ s i) (.ite (iEq (sAt s i) 92) (.ret (.next [.str s,.int .i64 (iAdd .i64 (iAdd .i64 i 1) 1)] ⟨[],[],[]⟩)) (.ite (iEq (sAt s i) 34) (.ret (.out .ret [.int .i64 (iAdd .i64 i 1)] ⟨[],[],[]⟩)) (.ret (.next [.str s,.int .i64 (iAdd .i64 i 1)] ⟨[],[],[]⟩)))) .fail) (.ret (.out (.exit 0) [] ⟨[],[],[]⟩))
theorem qA8 (s:List UInt8) (i:Int):lstep tbT qiE qj6 qiX qjg [.str s,.int .i64 i] ⟨[],[],[]⟩=qew s i:=by kernel_rfl
theorem qse (s:List UInt8) (i:Int):qcE [.str s,.int .i64 i] ⟨[],[],[]⟩=lnext qcE (qew s i).run:=by unfold qcE; rw [qbK,qA8]
noncomputable def qgy (s:List UInt8) (i:Int):Option (PExit × List PV × Store):=qcE [.str s,.int .i64 i] ⟨[],[],[]⟩
noncomputable def qeQ (s:List UInt8) (i:Int):Int:=(gInt (gOut (qgy s i) 0))
noncomputable def qgl (s:List UInt8) (i:Int):Bool:=isW (qgy s i) (.ret,[.int .i64 (qeQ s i)],⟨[],[],[]⟩)
noncomputable def qga (s:List UInt8) (i:Int):Bool:=isW (qgy s i) ((.exit 0),[],⟨[],[],[]⟩)
noncomputable def qe8:List PV→Store→Tr (PExit × List PV × Store) | [.str s,.int .i64 i],⟨[],[],[]⟩=>.ite (qgl s i) (.ret (.ret,[.int .i64 (qeQ s i)],⟨[],[],[]⟩)) (.ite (qga s i) (.ret ((.exit 0),[],⟨[],[],[]⟩)) (.fail)) | _,_=>.fail
theorem qwq:∀ vs σ r,(qe8 vs σ).run=some r→qcE vs σ=some r:=by
 intro vs σ r h
 unfold qe8 at h
 split at h
 ·exact qai h fun h=>qai h fun h=>by cases h
 ·cases h
theorem qsA (gl:Gl):∀ fr σ e fr' σ',(orc qjg qe8 fr σ).run=some (e,fr',σ')→LDoes Tryz.prog gl qiX fr σ e fr' σ':=qcs qav (qqa gl ) qah (L:=qj6) (qae (by kernel_rfl)) (by kernel_rfl) qwq
noncomputable def qo8:LpsT:=fun r fr σ=>bif Nat.beq r 2 then orc qjg qe8 fr σ else .fail
noncomputable def qmY (s:List UInt8):Tr PV:=.ite (qgl s 1) (.ret (.int .i64 (qeQ s 1))) (.ite (qga s 1) (.ret (.int .i64 0)) .fail)
theorem qDc (s:List UInt8):(tcall tbT qiE qo8 Tryz.f159 [.str s]).flat=qmY s:=by kernel_rfl
noncomputable def qle (s:List UInt8):Option PV:=(qmY s).run
noncomputable def qab (s:List UInt8):Int:=(gInt (gVal (qle s)))
noncomputable def qbn (s:List UInt8):Bool:=isW (qle s) (.int .i64 (qab s))
noncomputable def qqY:List PV→Tr PV | [.str s]=>.ite (qbn s) (.ret (.int .i64 (qab s))) (.fail) | _=>.fail
theorem qv1 (gl:Gl):SimP Tryz.prog gl 159 fun args=>(qqY args).run:=by
 refine SimP.of_flat (G:=qiE) (L:=qo8) qav (qqa gl ) qah  Tryz.func159 rfl (by rfl) (by kernel_rfl) (qbg (L:=lps qo8) [(2,qiX)] (by kernel_rfl) (List.forall_mem_cons.2 ⟨fun fr σ e fr' σ' h=>qsA gl  fr σ e fr' σ' h,(List.forall_mem_nil _)⟩)) ?_
 intro args x h
 unfold qqY at h
 split at h
 ·exact (congrArg Tr.run (qDc _)).trans (qai h fun h=>by cases h)
 ·cases h
noncomputable def qvg:GamT:=ofL [(153,.pure qhR)]
theorem qzG (gl:Gl):qaR Tryz.prog gl (gam qvg):=(qac (qlW gl) qag)
noncomputable def qun:Code:=qeP Tryz.f140 2
def quu:LI:=⟨34,[0,3],fun e=>match e with | .ret=>[2] | .exit 0=>[3] | _=>[],true⟩
noncomputable def qta:LpsT:=fun r fr σ=>.fail
noncomputable def qj7 (vs:List PV) (σ:Store):Option (PExit × List PV × Store):=lval (lstep tbT qvg qta qun quu) vs σ
noncomputable def qg3 (s:List UInt8) (at_:Int):Tr LR:=.ite (iLt at_ (sLen s)) (.ite (qaJ s at_) (.ite (iEq (sAt s at_) 32) (.ret (.next [.str s,.int .i64 (iAdd .i64 at_ 1)] ⟨[],[],[]⟩)) (.ite (iEq (sAt s at_) 9) (.ret (.next [.str s,.int .i64 (iAdd .i64 at_ 1)] ⟨[],[],[]⟩)) (.ite (iEq (sAt s at_) 10) (.ret (.next [.str s,.int .i64 (iAdd .i64 at_ 1)] ⟨[],[],[]⟩)) (.ite (iEq (sAt s at_) 13) (.ret (.next [.str s,.int .i64 (iAdd .i64 at_ 1)] ⟨[],[],[]⟩)) (.ite (iEq (sAt s at_) 37) (.ite (qaI (qaw at_) true (nNat at_) (nLen s) (nLen s)) (.ite (iLt (idxV (sSub s (nNat at_) (nLen s)) 10) 0) (.ret (.out .ret [.int .i64 (sLen s)] ⟨[],[],[]⟩)) (.ret (.next [.str s,.int .i64 (iAdd .i64 at_ (idxV (sSub s (nNat at_) (nLen s)) 10))] ⟨[],[],[]⟩))) .fail) (.ret (.out .ret [.int .i64 at_] ⟨[],[],[]⟩))))))) .fail) (.ret (.out (.exit 0) [.int .i64 at_] ⟨[],[],[]⟩))
theorem qJy (s:List UInt8) (at_:Int):lstep tbT qvg qta qun quu [.str s,.int .i64 at_] ⟨[],[],[]⟩=qg3 s at_:=by kernel_rfl
theorem qBl (s:List UInt8) (at_:Int):qj7 [.str s,.int .i64 at_] ⟨[],[],[]⟩=lnext qj7 (qg3 s at_).run:=by unfold qj7; rw [qbK,qJy]
noncomputable def qpB (s:List UInt8) (at_:Int):Option (PExit × List PV × Store):=qj7 [.str s,.int .i64 at_] ⟨[],[],[]⟩
noncomputable def qlH (s:List UInt8) (at_:Int):Int:=(gInt (gOut (qpB s at_) 0))
noncomputable def qpK (s:List UInt8) (at_:Int):Bool:=isW (qpB s at_) (.ret,[.int .i64 (qlH s at_)],⟨[],[],[]⟩)
noncomputable def qha (s:List UInt8) (at_:Int):Int:=(gInt (gOut (qpB s at_) 0))
noncomputable def qpQ (s:List UInt8) (at_:Int):Bool:=isW (qpB s at_) ((.exit 0),[.int .i64 (qha s at_)],⟨[],[],[]⟩)
noncomputable def qjj:List PV→Store→Tr (PExit × List PV × Store) | [.str s,.int .i64 at_],⟨[],[],[]⟩=>.ite (qpK s at_) (.ret (.ret,[.int .i64 (qlH s at_)],⟨[],[],[]⟩)) (.ite (qpQ s at_) (.ret ((.exit 0),[.int .i64 (qha s at_)],⟨[],[],[]⟩)) (.fail)) | _,_=>.fail
theorem qFS:∀ vs σ r,(qjj vs σ).run=some r→qj7 vs σ=some r:=by
 intro vs σ r h
 unfold qjj at h
 split at h
 ·exact qai h fun h=>qai h fun h=>by cases h
 ·cases h
theorem qAk (gl:Gl):∀ fr σ e fr' σ',(orc quu qjj fr σ).run=some (e,fr',σ')→LDoes Tryz.prog gl qun fr σ e fr' σ':=qcs qav (qzG gl ) qah (L:=qta) (qae (by kernel_rfl)) (by kernel_rfl) qFS
noncomputable def qEm:LpsT:=fun r fr σ=>bif Nat.beq r 2 then orc quu qjj fr σ else .fail
noncomputable def qxi (s:List UInt8):Tr PV:=.ite (qpK s 0) (.ret (.int .i64 (qlH s 0))) (.ite (qpQ s 0) (.ret (.int .i64 (qha s 0))) .fail)
theorem qLt (s:List UInt8):(tcall tbT qvg qEm Tryz.f140 [.str s]).flat=qxi s:=by kernel_rfl
noncomputable def qzP (s:List UInt8):Option PV:=(qxi s).run
noncomputable def qbb (s:List UInt8):Int:=(gInt (gVal (qzP s)))
noncomputable def qfc (s:List UInt8):Bool:=isW (qzP s) (.int .i64 (qbb s))
noncomputable def qCg:List PV→Tr PV | [.str s]=>.ite (qfc s) (.ret (.int .i64 (qbb s))) (.fail) | _=>.fail
theorem qGB (gl:Gl):SimP Tryz.prog gl 140 fun args=>(qCg args).run:=by
 refine SimP.of_flat (G:=qvg) (L:=qEm) qav (qzG gl ) qah  Tryz.func140 rfl (by rfl) (by kernel_rfl) (qbg (L:=lps qEm) [(2,qun)] (by kernel_rfl) (List.forall_mem_cons.2 ⟨fun fr σ e fr' σ' h=>qAk gl  fr σ e fr' σ' h,(List.forall_mem_nil _)⟩)) ?_
 intro args x h
 unfold qCg at h
 split at h
 ·exact (congrArg Tr.run (qLt _)).trans (qai h fun h=>by cases h)
 ·cases h
noncomputable def qvR:GamT:=ofL [(155,.pure qgR),(158,.pure qzq)]
theorem qD4 (gl:Gl):qaR Tryz.prog gl (gam qvR):=(qac (qia gl) (qac (qzk gl) qag))
noncomputable def qFv:LpsT:=fun r fr σ=>.fail
noncomputable def qub (s:List UInt8) (k:Int):Tr PV:=.ite (qnT s) (.ite (qaI true (qaw (qlX s)) 0 (nNat (qlX s)) (nLen s)) (.ret (.tup [.agg [.int .i64 k,.str (sSub s 0 (nNat (qlX s))),.int .i64 0,.int .i64 0,.str [],.int .i64 0],.bool (iLe (qlX s) 64)])) .fail) .fail
theorem qIR (s:List UInt8) (k:Int):(tcall tbT qvR qFv Tryz.f154 [.str s,.int .i64 k]).flat=qub s k:=by kernel_rfl
noncomputable def qgt (s:List UInt8) (k:Int):Option PV:=(qub s k).run
noncomputable def qfK (s:List UInt8) (k:Int):Int:=(gInt (gAt (gCs (gAt (gCs (gVal (qgt s k))) 0)) 0))
noncomputable def qfH (s:List UInt8) (k:Int):List UInt8:=(gStr (gAt (gCs (gAt (gCs (gVal (qgt s k))) 0)) 1))
noncomputable def qd1 (s:List UInt8) (k:Int):Int:=(gInt (gAt (gCs (gAt (gCs (gVal (qgt s k))) 0)) 2))
noncomputable def qd7 (s:List UInt8) (k:Int):Int:=(gInt (gAt (gCs (gAt (gCs (gVal (qgt s k))) 0)) 3))
noncomputable def qdS (s:List UInt8) (k:Int):List UInt8:=(gStr (gAt (gCs (gAt (gCs (gVal (qgt s k))) 0)) 4))
noncomputable def qd0 (s:List UInt8) (k:Int):Int:=(gInt (gAt (gCs (gAt (gCs (gVal (qgt s k))) 0)) 5))
noncomputable def qfE (s:List UInt8) (k:Int):Bool:=(qb4 (gAt (gCs (gVal (qgt s k))) 1))
noncomputable def qdV (s:List UInt8) (k:Int):Bool:=isW (qgt s k) (.tup [.agg [.int .i64 (qfK s k),.str (qfH s k),.int .i64 (qd1 s k),.int .i64 (qd7 s k),.str (qdS s k),.int .i64 (qd0 s k)],.bool (qfE s k)])
noncomputable def qxI:List PV→Tr PV | [.str s,.int .i64 k]=>.ite (qdV s k) (.ret (.tup [.agg [.int .i64 (qfK s k),.str (qfH s k),.int .i64 (qd1 s k),.int .i64 (qd7 s k),.str (qdS s k),.int .i64 (qd0 s k)],.bool (qfE s k)])) (.fail) | _=>.fail
theorem qEy (gl:Gl):SimP Tryz.prog gl 154 fun args=>(qxI args).run:=by
 refine SimP.of_flat (G:=qvR) (L:=qFv) qav (qD4 gl ) qah  Tryz.func154 rfl (by rfl) (by kernel_rfl) (qae (by kernel_rfl)) ?_
 intro args x h
 unfold qxI at h
 split at h
 ·exact (congrArg Tr.run (qIR _ _)).trans (qai h fun h=>by cases h)
 ·cases h
noncomputable def qrf:GamT:=ofL [(169,.pure qrT)]
theorem qwS (gl:Gl) (hg:GlOk gl):qaR Tryz.prog gl (gam qrf):=(qac (qHc hg) qag)
noncomputable def quD:LpsT:=fun r fr σ=>.fail
noncomputable def qmH (s:List UInt8) (k:Int):Tr PV:=.ite (qkC s) (.ret (.tup [.agg [.int .i64 k,.str s,.int .i64 (kRd s),.int .i64 (nRd s),.str (sRd s),.int .i64 0],.bool (iEq (eRd s) 0)])) .fail
theorem qDk (s:List UInt8) (k:Int):(tcall tbT qrf quD Tryz.f157 [.str s,.int .i64 k]).flat=qmH s k:=by kernel_rfl
noncomputable def qdw (s:List UInt8) (k:Int):Option PV:=(qmH s k).run
noncomputable def qaL (s:List UInt8) (k:Int):Int:=(gInt (gAt (gCs (gAt (gCs (gVal (qdw s k))) 0)) 0))
noncomputable def qaM (s:List UInt8) (k:Int):List UInt8:=(gStr (gAt (gCs (gAt (gCs (gVal (qdw s k))) 0)) 1))
noncomputable def qaD (s:List UInt8) (k:Int):Int:=(gInt (gAt (gCs (gAt (gCs (gVal (qdw s k))) 0)) 2))
noncomputable def qaF (s:List UInt8) (k:Int):Int:=(gInt (gAt (gCs (gAt (gCs (gVal (qdw s k))) 0)) 3))
noncomputable def qaE (s:List UInt8) (k:Int):List UInt8:=(gStr (gAt (gCs (gAt (gCs (gVal (qdw s k))) 0)) 4))
noncomputable def qaH (s:List UInt8) (k:Int):Int:=(gInt (gAt (gCs (gAt (gCs (gVal (qdw s k))) 0)) 5))
noncomputable def qaK (s:List UInt8) (k:Int):Bool:=(qb4 (gAt (gCs (gVal (qdw s k))) 1))
noncomputable def qaB (s:List UInt8) (k:Int):Bool:=isW (qdw s k) (.tup [.agg [.int .i64 (qaL s k),.str (qaM s k),.int .i64 (qaD s k),.int .i64 (qaF s k),.str (qaE s k),.int .i64 (qaH s k)],.bool (qaK s k)])
noncomputable def qo3:List PV→Tr PV | [.str s,.int .i64 k]=>.ite (qaB s k) (.ret (.tup [.agg [.int .i64 (qaL s k),.str (qaM s k),.int .i64 (qaD s k),.int .i64 (qaF s k),.str (qaE s k),.int .i64 (qaH s k)],.bool (qaK s k)])) (.fail) | _=>.fail
theorem qwR (gl:Gl) (hg:GlOk gl):SimP Tryz.prog gl 157 fun args=>(qo3 args).run:=by
 refine SimP.of_flat (G:=qrf) (L:=quD) qav (qwS gl hg ) qah  Tryz.func157 rfl (by rfl) (by kernel_rfl) (qae (by kernel_rfl)) ?_
 intro args x h
 unfold qo3 at h
 split at h
 ·exact (congrArg Tr.run (qDk _ _)).trans (qai h fun h=>by cases h)
 ·cases h
noncomputable def qqL:GamT:=ofL [(153,.pure qhR),(154,.pure qxI),(155,.pure qgR),(156,.pure qlw),(157,.pure qo3),(158,.pure qzq),(159,.pure qqY),(160,.pure qnG),(qxp+0,.glob qBs)]
theorem quJ (gl:Gl) (hg:GlLex gl):qaR Tryz.prog gl (gam qqL):=(qac (qlW gl) (qac (qEy gl) (qac (qia gl) (qac (qnc gl) (qac (qwR gl hg.toGlOk) (qac (qzk gl) (qac (qv1 gl) (qac (qrP gl) (qbS (K:=.glob qBs) (qzD hg) qag)))))))))
noncomputable def qog:Code:=qeP Tryz.f141 16
def qn4:LI:=⟨90,[0,2,4,74,75],fun e=>match e with | .ret=>[2,3] | .exit 1=>[0,2,4] | _=>[],true⟩
noncomputable def qqm:LpsT:=fun r fr σ=>.fail
noncomputable def qi9 (vs:List PV) (σ:Store):Option (PExit × List PV × Store):=lval (lstep tbT qqL qqm qog qn4) vs σ
noncomputable def qb7 (s:List UInt8) (n:Int) (s2:List UInt8) (s3:List UInt8) (s4:List UInt8) (s5:List UInt8) (n2:Int) (n3:Int) (s6:List UInt8) (n4:Int) (n5:Int) (s7:List UInt8) (n6:Int):Tr LR:=.ite (iLt n2 4) (.ite (iEq n2 (Int.ofNat 0)) (.ite (qd2 s s2) (.ret (.out .ret [.ptr 0 0,.bool true] (Store.mk [[.int .i64 6,.str s2,.int .i64 0,.int .i64 0,.str [],.int .i64 0]] [] [120]))) (.ret (.next [.str s,.ptr 0 0,.int .u8 n,.agg [.str s2,.str s3,.str s4,.str s5],.int .i64 (iAdd .i64 n2 1)] (Store.mk [[.int .i64 n3,.str s6,.int .i64 n4,.int .i64 n5,.str s7,.int .i64 n6]] [] [120])))) (.ite (iEq n2 (Int.ofNat 1)) (.ite (qd2 s s3) (.ret (.out .ret [.ptr 0 0,.bool true] (Store.mk [[.int .i64 6,.str s3,.int .i64 0,.int .i64 0,.str [],.int .i64 0]] [] [120]))) (.ret (.next [.str s,.ptr 0 0,.int .u8 n,.agg [.str s2,.str s3,.str s4,.str s5],.int .i64 (iAdd .i64 n2 1)] (Store.mk [[.int .i64 n3,.str s6,.int .i64 n4,.int .i64 n5,.str s7,.int .i64 n6]] [] [120])))) (.ite (iEq n2 (Int.ofNat 2)) (.ite (qd2 s s4) (.ret (.out .ret [.ptr 0 0,.bool true] (Store.mk [[.int .i64 6,.str s4,.int .i64 0,.int .i64 0,.str [],.int .i64 0]] [] [120]))) (.ret (.next [.str s,.ptr 0 0,.int .u8 n,.agg [.str s2,.str s3,.str s4,.str s5],.int .i64 (iAdd .i64 n2 1)] (Store.mk [[.int .i64 n3,.str s6,.int .i64 n4,.int .i64 n5,.str s7,.int .i64 n6]] [] [120])))) (.ite (iEq n2 (Int.ofNat 3)) (.ite (qd2 s s5) (.ret (.out .ret [.ptr 0 0,.bool true] (Store.mk [[.int .i64 6,.str s5,.int .i64 0,.int .i64 0,.str [],.int .i64 0]] [] [120]))) (.ret (.next [.str s,.ptr 0 0,.int .u8 n,.agg [.str s2,.str s3,.str s4,.str s5],.int .i64 (iAdd .i64 n2 1)] (Store.mk [[.int .i64 n3,.str s6,.int .i64 n4,.int .i64 n5,.str s7,.int .i64 n6]] [] [120])))) .fail)))) (.ret (.out (.exit 1) [.str s,.ptr 0 0,.int .u8 n] (Store.mk [[.int .i64 n3,.str s6,.int .i64 n4,.int .i64 n5,.str s7,.int .i64 n6]] [] [120])))
theorem qFQ (s:List UInt8) (n:Int) (s2:List UInt8) (s3:List UInt8) (s4:List UInt8) (s5:List UInt8) (n2:Int) (n3:Int) (s6:List UInt8) (n4:Int) (n5:Int) (s7:List UInt8) (n6:Int):lstep tbT qqL qqm qog qn4 [.str s,.ptr 0 0,.int .u8 n,.agg [.str s2,.str s3,.str s4,.str s5],.int .i64 n2] ⟨[[.int .i64 n3,.str s6,.int .i64 n4,.int .i64 n5,.str s7,.int .i64 n6]],[],[120]⟩=qb7 s n s2 s3 s4 s5 n2 n3 s6 n4 n5 s7 n6:=by kernel_rfl
theorem qlo (s:List UInt8) (n:Int) (s2:List UInt8) (s3:List UInt8) (s4:List UInt8) (s5:List UInt8) (n2:Int) (n3:Int) (s6:List UInt8) (n4:Int) (n5:Int) (s7:List UInt8) (n6:Int):qi9 [.str s,.ptr 0 0,.int .u8 n,.agg [.str s2,.str s3,.str s4,.str s5],.int .i64 n2] ⟨[[.int .i64 n3,.str s6,.int .i64 n4,.int .i64 n5,.str s7,.int .i64 n6]],[],[120]⟩=lnext qi9 (qb7 s n s2 s3 s4 s5 n2 n3 s6 n4 n5 s7 n6).run:=by unfold qi9; rw [qbK,qFQ]
noncomputable def qbO (s:List UInt8) (n:Int) (s2:List UInt8) (s3:List UInt8) (s4:List UInt8) (s5:List UInt8) (n2:Int) (n3:Int) (s6:List UInt8) (n4:Int) (n5:Int) (s7:List UInt8) (n6:Int):Option (PExit × List PV × Store):=qi9 [.str s,.ptr 0 0,.int .u8 n,.agg [.str s2,.str s3,.str s4,.str s5],.int .i64 n2] ⟨[[.int .i64 n3,.str s6,.int .i64 n4,.int .i64 n5,.str s7,.int .i64 n6]],[],[120]⟩
noncomputable def qbq (s:List UInt8) (n:Int) (s2:List UInt8) (s3:List UInt8) (s4:List UInt8) (s5:List UInt8) (n2:Int) (n3:Int) (s6:List UInt8) (n4:Int) (n5:Int) (s7:List UInt8) (n6:Int):Bool:=(qb4 (gOut (qbO s n s2 s3 s4 s5 n2 n3 s6 n4 n5 s7 n6) 1))
noncomputable def qbr (s:List UInt8) (n:Int) (s2:List UInt8) (s3:List UInt8) (s4:List UInt8) (s5:List UInt8) (n2:Int) (n3:Int) (s6:List UInt8) (n4:Int) (n5:Int) (s7:List UInt8) (n6:Int):Int:=(gInt (gAt (gObj (qbO s n s2 s3 s4 s5 n2 n3 s6 n4 n5 s7 n6) 0) 0))
noncomputable def qbp (s:List UInt8) (n:Int) (s2:List UInt8) (s3:List UInt8) (s4:List UInt8) (s5:List UInt8) (n2:Int) (n3:Int) (s6:List UInt8) (n4:Int) (n5:Int) (s7:List UInt8) (n6:Int):List UInt8:=(gStr (gAt (gObj (qbO s n s2 s3 s4 s5 n2 n3 s6 n4 n5 s7 n6) 0) 1))
noncomputable def qa9 (s:List UInt8) (n:Int) (s2:List UInt8) (s3:List UInt8) (s4:List UInt8) (s5:List UInt8) (n2:Int) (n3:Int) (s6:List UInt8) (n4:Int) (n5:Int) (s7:List UInt8) (n6:Int):Int:=(gInt (gAt (gObj (qbO s n s2 s3 s4 s5 n2 n3 s6 n4 n5 s7 n6) 0) 2))
noncomputable def qa8 (s:List UInt8) (n:Int) (s2:List UInt8) (s3:List UInt8) (s4:List UInt8) (s5:List UInt8) (n2:Int) (n3:Int) (s6:List UInt8) (n4:Int) (n5:Int) (s7:List UInt8) (n6:Int):Int:=(gInt (gAt (gObj (qbO s n s2 s3 s4 s5 n2 n3 s6 n4 n5 s7 n6) 0) 3))
noncomputable def qa6 (s:List UInt8) (n:Int) (s2:List UInt8) (s3:List UInt8) (s4:List UInt8) (s5:List UInt8) (n2:Int) (n3:Int) (s6:List UInt8) (n4:Int) (n5:Int) (s7:List UInt8) (n6:Int):List UInt8:=(gStr (gAt (gObj (qbO s n s2 s3 s4 s5 n2 n3 s6 n4 n5 s7 n6) 0) 4))
noncomputable def qa7 (s:List UInt8) (n:Int) (s2:List UInt8) (s3:List UInt8) (s4:List UInt8) (s5:List UInt8) (n2:Int) (n3:Int) (s6:List UInt8) (n4:Int) (n5:Int) (s7:List UInt8) (n6:Int):Int:=(gInt (gAt (gObj (qbO s n s2 s3 s4 s5 n2 n3 s6 n4 n5 s7 n6) 0) 5))
noncomputable def qbe (s:List UInt8) (n:Int) (s2:List UInt8) (s3:List UInt8) (s4:List UInt8) (s5:List UInt8) (n2:Int) (n3:Int) (s6:List UInt8) (n4:Int) (n5:Int) (s7:List UInt8) (n6:Int):Bool:=isW (qbO s n s2 s3 s4 s5 n2 n3 s6 n4 n5 s7 n6) (.ret,[.ptr 0 0,.bool (qbq s n s2 s3 s4 s5 n2 n3 s6 n4 n5 s7 n6)],⟨[[.int .i64 (qbr s n s2 s3 s4 s5 n2 n3 s6 n4 n5 s7 n6),.str (qbp s n s2 s3 s4 s5 n2 n3 s6 n4 n5 s7 n6),.int .i64 (qa9 s n s2 s3 s4 s5 n2 n3 s6 n4 n5 s7 n6),.int .i64 (qa8 s n s2 s3 s4 s5 n2 n3 s6 n4 n5 s7 n6),.str (qa6 s n s2 s3 s4 s5 n2 n3 s6 n4 n5 s7 n6),.int .i64 (qa7 s n s2 s3 s4 s5 n2 n3 s6 n4 n5 s7 n6)]],[],[120]⟩)
noncomputable def qaG (s:List UInt8) (n:Int) (s2:List UInt8) (s3:List UInt8) (s4:List UInt8) (s5:List UInt8) (n2:Int) (n3:Int) (s6:List UInt8) (n4:Int) (n5:Int) (s7:List UInt8) (n6:Int):List UInt8:=(gStr (gOut (qbO s n s2 s3 s4 s5 n2 n3 s6 n4 n5 s7 n6) 0))
noncomputable def qbm (s:List UInt8) (n:Int) (s2:List UInt8) (s3:List UInt8) (s4:List UInt8) (s5:List UInt8) (n2:Int) (n3:Int) (s6:List UInt8) (n4:Int) (n5:Int) (s7:List UInt8) (n6:Int):Int:=(gInt (gOut (qbO s n s2 s3 s4 s5 n2 n3 s6 n4 n5 s7 n6) 2))
noncomputable def qke (s:List UInt8) (n:Int) (s2:List UInt8) (s3:List UInt8) (s4:List UInt8) (s5:List UInt8) (n2:Int) (n3:Int) (s6:List UInt8) (n4:Int) (n5:Int) (s7:List UInt8) (n6:Int):Int:=(gInt (gAt (gObj (qbO s n s2 s3 s4 s5 n2 n3 s6 n4 n5 s7 n6) 0) 0))
noncomputable def qj8 (s:List UInt8) (n:Int) (s2:List UInt8) (s3:List UInt8) (s4:List UInt8) (s5:List UInt8) (n2:Int) (n3:Int) (s6:List UInt8) (n4:Int) (n5:Int) (s7:List UInt8) (n6:Int):List UInt8:=(gStr (gAt (gObj (qbO s n s2 s3 s4 s5 n2 n3 s6 n4 n5 s7 n6) 0) 1))
noncomputable def qkd (s:List UInt8) (n:Int) (s2:List UInt8) (s3:List UInt8) (s4:List UInt8) (s5:List UInt8) (n2:Int) (n3:Int) (s6:List UInt8) (n4:Int) (n5:Int) (s7:List UInt8) (n6:Int):Int:=(gInt (gAt (gObj (qbO s n s2 s3 s4 s5 n2 n3 s6 n4 n5 s7 n6) 0) 2))
noncomputable def qkK (s:List UInt8) (n:Int) (s2:List UInt8) (s3:List UInt8) (s4:List UInt8) (s5:List UInt8) (n2:Int) (n3:Int) (s6:List UInt8) (n4:Int) (n5:Int) (s7:List UInt8) (n6:Int):Int:=(gInt (gAt (gObj (qbO s n s2 s3 s4 s5 n2 n3 s6 n4 n5 s7 n6) 0) 3))
noncomputable def qj4 (s:List UInt8) (n:Int) (s2:List UInt8) (s3:List UInt8) (s4:List UInt8) (s5:List UInt8) (n2:Int) (n3:Int) (s6:List UInt8) (n4:Int) (n5:Int) (s7:List UInt8) (n6:Int):List UInt8:=(gStr (gAt (gObj (qbO s n s2 s3 s4 s5 n2 n3 s6 n4 n5 s7 n6) 0) 4))
noncomputable def qkv (s:List UInt8) (n:Int) (s2:List UInt8) (s3:List UInt8) (s4:List UInt8) (s5:List UInt8) (n2:Int) (n3:Int) (s6:List UInt8) (n4:Int) (n5:Int) (s7:List UInt8) (n6:Int):Int:=(gInt (gAt (gObj (qbO s n s2 s3 s4 s5 n2 n3 s6 n4 n5 s7 n6) 0) 5))
noncomputable def qbu (s:List UInt8) (n:Int) (s2:List UInt8) (s3:List UInt8) (s4:List UInt8) (s5:List UInt8) (n2:Int) (n3:Int) (s6:List UInt8) (n4:Int) (n5:Int) (s7:List UInt8) (n6:Int):Bool:=isW (qbO s n s2 s3 s4 s5 n2 n3 s6 n4 n5 s7 n6) ((.exit 1),[.str (qaG s n s2 s3 s4 s5 n2 n3 s6 n4 n5 s7 n6),.ptr 0 0,.int .u8 (qbm s n s2 s3 s4 s5 n2 n3 s6 n4 n5 s7 n6)],⟨[[.int .i64 (qke s n s2 s3 s4 s5 n2 n3 s6 n4 n5 s7 n6),.str (qj8 s n s2 s3 s4 s5 n2 n3 s6 n4 n5 s7 n6),.int .i64 (qkd s n s2 s3 s4 s5 n2 n3 s6 n4 n5 s7 n6),.int .i64 (qkK s n s2 s3 s4 s5 n2 n3 s6 n4 n5 s7 n6),.str (qj4 s n s2 s3 s4 s5 n2 n3 s6 n4 n5 s7 n6),.int .i64 (qkv s n s2 s3 s4 s5 n2 n3 s6 n4 n5 s7 n6)]],[],[120]⟩)
noncomputable def qhz:List PV→Store→Tr (PExit × List PV × Store) | [.str s,.ptr 0 0,.int .u8 n,.agg [.str s2,.str s3,.str s4,.str s5],.int .i64 n2],⟨[[.int .i64 n3,.str s6,.int .i64 n4,.int .i64 n5,.str s7,.int .i64 n6]],[],[120]⟩=>.ite (qbe s n s2 s3 s4 s5 n2 n3 s6 n4 n5 s7 n6) (.ret (.ret,[.ptr 0 0,.bool (qbq s n s2 s3 s4 s5 n2 n3 s6 n4 n5 s7 n6)],⟨[[.int .i64 (qbr s n s2 s3 s4 s5 n2 n3 s6 n4 n5 s7 n6),.str (qbp s n s2 s3 s4 s5 n2 n3 s6 n4 n5 s7 n6),.int .i64 (qa9 s n s2 s3 s4 s5 n2 n3 s6 n4 n5 s7 n6),.int .i64 (qa8 s n s2 s3 s4 s5 n2 n3 s6 n4 n5 s7 n6),.str (qa6 s n s2 s3 s4 s5 n2 n3 s6 n4 n5 s7 n6),.int .i64 (qa7 s n s2 s3 s4 s5 n2 n3 s6 n4 n5 s7 n6)]],[],[120]⟩)) (.ite (qbu s n s2 s3 s4 s5 n2 n3 s6 n4 n5 s7 n6) (.ret ((.exit 1),[.str (qaG s n s2 s3 s4 s5 n2 n3 s6 n4 n5 s7 n6),.ptr 0 0,.int .u8 (qbm s n s2 s3 s4 s5 n2 n3 s6 n4 n5 s7 n6)],⟨[[.int .i64 (qke s n s2 s3 s4 s5 n2 n3 s6 n4 n5 s7 n6),.str (qj8 s n s2 s3 s4 s5 n2 n3 s6 n4 n5 s7 n6),.int .i64 (qkd s n s2 s3 s4 s5 n2 n3 s6 n4 n5 s7 n6),.int .i64 (qkK s n s2 s3 s4 s5 n2 n3 s6 n4 n5 s7 n6),.str (qj4 s n s2 s3 s4 s5 n2 n3 s6 n4 n5 s7 n6),.int .i64 (qkv s n s2 s3 s4 s5 n2 n3 s6 n4 n5 s7 n6)]],[],[120]⟩)) (.fail)) | _,_=>.fail
theorem qDP:∀ vs σ r,(qhz vs σ).run=some r→qi9 vs σ=some r:=by
 intro vs σ r h
 unfold qhz at h
 split at h
 ·exact qai h fun h=>qai h fun h=>by cases h
 ·cases h
theorem qw6 (gl:Gl) (hg:GlLex gl):∀ fr σ e fr' σ',(orc qn4 qhz fr σ).run=some (e,fr',σ')→LDoes Tryz.prog gl qog fr σ e fr' σ':=qcs qav (quJ gl hg ) qah (L:=qqm) (qae (by kernel_rfl)) (by kernel_rfl) qDP
noncomputable def qwE:LpsT:=fun r fr σ=>bif Nat.beq r 16 then orc qn4 qhz fr σ else .fail
noncomputable def qfa (v:List UInt8):Tr PV:=.ite (qaJ v 0) (.ite (iLt 1 (sLen v)) (.ite (qaJ v 1) (.ite (iLe 97 (sAt v 0)) (.ite (iLe (sAt v 0) 122) (.ite (qdV v 1) (.ret (.tup [.agg [.int .i64 (qfK v 1),.str (qfH v 1),.int .i64 (qd1 v 1),.int .i64 (qd7 v 1),.str (qdS v 1),.int .i64 (qd0 v 1)],.bool (qfE v 1)])) .fail) (.ite (iLe 65 (sAt v 0)) (.ite (iLe (sAt v 0) 90) (.ite (qdV v 2) (.ret (.tup [.agg [.int .i64 (qfK v 2),.str (qfH v 2),.int .i64 (qd1 v 2),.int .i64 (qd7 v 2),.str (qdS v 2),.int .i64 (qd0 v 2)],.bool (qfE v 2)])) .fail) (.ite (iEq (sAt v 0) 95) (.ite (qbP (sAt v 1)) (.ret (.tup [.agg [.int .i64 3,.str [95],.int .i64 0,.int .i64 0,.str [],.int .i64 0],.bool (bNot (qbZ (sAt v 1)))])) .fail) (.ite (qba (sAt v 0)) (.ite (qbd (sAt v 0)) (.ite (qaI (qaw 1) true (nNat 1) (nLen v) (nLen v)) (.ite (qbG (sSub v (nNat 1) (nLen v))) (.ite (qaI true (qaw (iAdd .i64 1 (qaf (sSub v (nNat 1) (nLen v))))) 0 (nNat (iAdd .i64 1 (qaf (sSub v (nNat 1) (nLen v))))) (nLen v)) (.ite (qaB (sSub v 0 (nNat (iAdd .i64 1 (qaf (sSub v (nNat 1) (nLen v)))))) 4) (.ret (.tup [.agg [.int .i64 (qaL (sSub v 0 (nNat (iAdd .i64 1 (qaf (sSub v (nNat 1) (nLen v)))))) 4),.str (qaM (sSub v 0 (nNat (iAdd .i64 1 (qaf (sSub v (nNat 1) (nLen v)))))) 4),.int .i64 (qaD (sSub v 0 (nNat (iAdd .i64 1 (qaf (sSub v (nNat 1) (nLen v)))))) 4),.int .i64 (qaF (sSub v 0 (nNat (iAdd .i64 1 (qaf (sSub v (nNat 1) (nLen v)))))) 4),.str (qaE (sSub v 0 (nNat (iAdd .i64 1 (qaf (sSub v (nNat 1) (nLen v)))))) 4),.int .i64 (qaH (sSub v 0 (nNat (iAdd .i64 1 (qaf (sSub v (nNat 1) (nLen v)))))) 4)],.bool (qaK (sSub v 0 (nNat (iAdd .i64 1 (qaf (sSub v (nNat 1) (nLen v)))))) 4)])) .fail) .fail) .fail) .fail) (.ite (iEq (sAt v 0) 45) (.ite (qba (sAt v 1)) (.ite (qbd (sAt v 1))
 (.ite (qaI (qaw 1) true (nNat 1) (nLen v) (nLen v)) (.ite (qbG (sSub v (nNat 1) (nLen v))) (.ite (qaI true (qaw (iAdd .i64 1 (qaf (sSub v (nNat 1) (nLen v))))) 0 (nNat (iAdd .i64 1 (qaf (sSub v (nNat 1) (nLen v))))) (nLen v)) (.ite (qaB (sSub v 0 (nNat (iAdd .i64 1 (qaf (sSub v (nNat 1) (nLen v)))))) 4) (.ret (.tup [.agg [.int .i64 (qaL (sSub v 0 (nNat (iAdd .i64 1 (qaf (sSub v (nNat 1) (nLen v)))))) 4),.str (qaM (sSub v 0 (nNat (iAdd .i64 1 (qaf (sSub v (nNat 1) (nLen v)))))) 4),.int .i64 (qaD (sSub v 0 (nNat (iAdd .i64 1 (qaf (sSub v (nNat 1) (nLen v)))))) 4),.int .i64 (qaF (sSub v 0 (nNat (iAdd .i64 1 (qaf (sSub v (nNat 1) (nLen v)))))) 4),.str (qaE (sSub v 0 (nNat (iAdd .i64 1 (qaf (sSub v (nNat 1) (nLen v)))))) 4),.int .i64 (qaH (sSub v 0 (nNat (iAdd .i64 1 (qaf (sSub v (nNat 1) (nLen v)))))) 4)],.bool (qaK (sSub v 0 (nNat (iAdd .i64 1 (qaf (sSub v (nNat 1) (nLen v)))))) 4)])) .fail) .fail) .fail) .fail) (.ite (iEq (sAt v 0) 34) (.ite (qbn v) (.ite (qaI true (qaw (qab v)) 0 (nNat (qab v)) (nLen v)) (.ite (qaB (sSub v 0 (nNat (qab v))) 5) (.ret (.tup [.agg [.int .i64 (qaL (sSub v 0 (nNat (qab v))) 5),.str (qaM (sSub v 0 (nNat (qab v))) 5),.int .i64 (qaD (sSub v 0 (nNat (qab v))) 5),.int .i64 (qaF (sSub v 0 (nNat (qab v))) 5),.str (qaE (sSub v 0 (nNat (qab v))) 5),.int .i64 (qaH (sSub v 0 (nNat (qab v))) 5)],.bool (qaK (sSub v 0 (nNat (qab v))) 5)])) .fail) .fail) .fail) (.ite (qbe v (sAt v 0) [58,45] [60,61] [62,61] [33,61] 0 0 [] 0 0 [] 0) (.ret (.tup [.agg [.int .i64 (qbr v (sAt v 0) [58,45] [60,61] [62,61] [33,61] 0 0 [] 0 0 [] 0),.str (qbp v (sAt v 0) [58,45] [60,61] [62,61] [33,61] 0 0 [] 0 0 [] 0),.int .i64 (qa9 v (sAt v 0) [58,45] [60,61] [62,61] [33,61] 0 0 [] 0 0 [] 0),
 .int .i64 (qa8 v (sAt v 0) [58,45] [60,61] [62,61] [33,61] 0 0 [] 0 0 [] 0),.str (qa6 v (sAt v 0) [58,45] [60,61] [62,61] [33,61] 0 0 [] 0 0 [] 0),.int .i64 (qa7 v (sAt v 0) [58,45] [60,61] [62,61] [33,61] 0 0 [] 0 0 [] 0)],.bool (qbq v (sAt v 0) [58,45] [60,61] [62,61] [33,61] 0 0 [] 0 0 [] 0)])) (.ite (qbu v (sAt v 0) [58,45] [60,61] [62,61] [33,61] 0 0 [] 0 0 [] 0) (.ite (qaI true (qaw 1) 0 (nNat 1) (nLen (qaG v (sAt v 0) [58,45] [60,61] [62,61] [33,61] 0 0 [] 0 0 [] 0))) (.ret (.tup [.agg [.int .i64 6,.str (sSub (qaG v (sAt v 0) [58,45] [60,61] [62,61] [33,61] 0 0 [] 0 0 [] 0) 0 (nNat 1)),.int .i64 0,.int .i64 0,.str [],.int .i64 0],.bool (iLe 0 (idxV [40,41,44,46,43,45,61,58,60,62] (qbm v (sAt v 0) [58,45] [60,61] [62,61] [33,61] 0 0 [] 0 0 [] 0)))])) .fail) .fail)))) .fail) (.ite (iEq (sAt v 0) 34) (.ite (qbn v) (.ite (qaI true (qaw (qab v)) 0 (nNat (qab v)) (nLen v)) (.ite (qaB (sSub v 0 (nNat (qab v))) 5) (.ret (.tup [.agg [.int .i64 (qaL (sSub v 0 (nNat (qab v))) 5),.str (qaM (sSub v 0 (nNat (qab v))) 5),.int .i64 (qaD (sSub v 0 (nNat (qab v))) 5),.int .i64 (qaF (sSub v 0 (nNat (qab v))) 5),.str (qaE (sSub v 0 (nNat (qab v))) 5),.int .i64 (qaH (sSub v 0 (nNat (qab v))) 5)],.bool (qaK (sSub v 0 (nNat (qab v))) 5)])) .fail) .fail) .fail) (.ite (qbe v (sAt v 0) [58,45] [60,61] [62,61] [33,61] 0 0 [] 0 0 [] 0) (.ret (.tup [.agg [.int .i64 (qbr v (sAt v 0) [58,45] [60,61] [62,61] [33,61] 0 0 [] 0 0 [] 0),.str (qbp v (sAt v 0) [58,45] [60,61] [62,61] [33,61] 0 0 [] 0 0 [] 0),.int .i64 (qa9 v (sAt v 0) [58,45] [60,61] [62,61] [33,61] 0 0 [] 0 0 [] 0),.int .i64 (qa8 v (sAt v 0) [58,45] [60,61] [62,61] [33,61] 0 0 [] 0 0 [] 0),.str (qa6 v (sAt v 0) [58,45] [60,61] [62,61] [33,61] 0 0 [] 0 0 [] 0),
 .int .i64 (qa7 v (sAt v 0) [58,45] [60,61] [62,61] [33,61] 0 0 [] 0 0 [] 0)],.bool (qbq v (sAt v 0) [58,45] [60,61] [62,61] [33,61] 0 0 [] 0 0 [] 0)])) (.ite (qbu v (sAt v 0) [58,45] [60,61] [62,61] [33,61] 0 0 [] 0 0 [] 0) (.ite (qaI true (qaw 1) 0 (nNat 1) (nLen (qaG v (sAt v 0) [58,45] [60,61] [62,61] [33,61] 0 0 [] 0 0 [] 0))) (.ret (.tup [.agg [.int .i64 6,.str (sSub (qaG v (sAt v 0) [58,45] [60,61] [62,61] [33,61] 0 0 [] 0 0 [] 0) 0 (nNat 1)),.int .i64 0,.int .i64 0,.str [],.int .i64 0],.bool (iLe 0 (idxV [40,41,44,46,43,45,61,58,60,62] (qbm v (sAt v 0) [58,45] [60,61] [62,61] [33,61] 0 0 [] 0 0 [] 0)))])) .fail) .fail))))) .fail))) (.ite (iEq (sAt v 0) 95) (.ite (qbP (sAt v 1)) (.ret (.tup [.agg [.int .i64 3,.str [95],.int .i64 0,.int .i64 0,.str [],.int .i64 0],.bool (bNot (qbZ (sAt v 1)))])) .fail) (.ite (qba (sAt v 0)) (.ite (qbd (sAt v 0)) (.ite (qaI (qaw 1) true (nNat 1) (nLen v) (nLen v)) (.ite (qbG (sSub v (nNat 1) (nLen v))) (.ite (qaI true (qaw (iAdd .i64 1 (qaf (sSub v (nNat 1) (nLen v))))) 0 (nNat (iAdd .i64 1 (qaf (sSub v (nNat 1) (nLen v))))) (nLen v)) (.ite (qaB (sSub v 0 (nNat (iAdd .i64 1 (qaf (sSub v (nNat 1) (nLen v)))))) 4) (.ret (.tup [.agg [.int .i64 (qaL (sSub v 0 (nNat (iAdd .i64 1 (qaf (sSub v (nNat 1) (nLen v)))))) 4),.str (qaM (sSub v 0 (nNat (iAdd .i64 1 (qaf (sSub v (nNat 1) (nLen v)))))) 4),.int .i64 (qaD (sSub v 0 (nNat (iAdd .i64 1 (qaf (sSub v (nNat 1) (nLen v)))))) 4),.int .i64 (qaF (sSub v 0 (nNat (iAdd .i64 1 (qaf (sSub v (nNat 1) (nLen v)))))) 4),.str (qaE (sSub v 0 (nNat (iAdd .i64 1 (qaf (sSub v (nNat 1) (nLen v)))))) 4),.int .i64 (qaH (sSub v 0 (nNat (iAdd .i64 1 (qaf (sSub v (nNat 1) (nLen v)))))) 4)],.bool (qaK (sSub v 0 (nNat (iAdd .i64 1 (qaf (sSub v (nNat 1) (nLen v)))))) 4)])) .fail) .fail) .fail) .fail)
 (.ite (iEq (sAt v 0) 45) (.ite (qba (sAt v 1)) (.ite (qbd (sAt v 1)) (.ite (qaI (qaw 1) true (nNat 1) (nLen v) (nLen v)) (.ite (qbG (sSub v (nNat 1) (nLen v))) (.ite (qaI true (qaw (iAdd .i64 1 (qaf (sSub v (nNat 1) (nLen v))))) 0 (nNat (iAdd .i64 1 (qaf (sSub v (nNat 1) (nLen v))))) (nLen v)) (.ite (qaB (sSub v 0 (nNat (iAdd .i64 1 (qaf (sSub v (nNat 1) (nLen v)))))) 4) (.ret (.tup [.agg [.int .i64 (qaL (sSub v 0 (nNat (iAdd .i64 1 (qaf (sSub v (nNat 1) (nLen v)))))) 4),.str (qaM (sSub v 0 (nNat (iAdd .i64 1 (qaf (sSub v (nNat 1) (nLen v)))))) 4),.int .i64 (qaD (sSub v 0 (nNat (iAdd .i64 1 (qaf (sSub v (nNat 1) (nLen v)))))) 4),.int .i64 (qaF (sSub v 0 (nNat (iAdd .i64 1 (qaf (sSub v (nNat 1) (nLen v)))))) 4),.str (qaE (sSub v 0 (nNat (iAdd .i64 1 (qaf (sSub v (nNat 1) (nLen v)))))) 4),.int .i64 (qaH (sSub v 0 (nNat (iAdd .i64 1 (qaf (sSub v (nNat 1) (nLen v)))))) 4)],.bool (qaK (sSub v 0 (nNat (iAdd .i64 1 (qaf (sSub v (nNat 1) (nLen v)))))) 4)])) .fail) .fail) .fail) .fail) (.ite (iEq (sAt v 0) 34) (.ite (qbn v) (.ite (qaI true (qaw (qab v)) 0 (nNat (qab v)) (nLen v)) (.ite (qaB (sSub v 0 (nNat (qab v))) 5) (.ret (.tup [.agg [.int .i64 (qaL (sSub v 0 (nNat (qab v))) 5),.str (qaM (sSub v 0 (nNat (qab v))) 5),.int .i64 (qaD (sSub v 0 (nNat (qab v))) 5),.int .i64 (qaF (sSub v 0 (nNat (qab v))) 5),.str (qaE (sSub v 0 (nNat (qab v))) 5),.int .i64 (qaH (sSub v 0 (nNat (qab v))) 5)],.bool (qaK (sSub v 0 (nNat (qab v))) 5)])) .fail) .fail) .fail) (.ite (qbe v (sAt v 0) [58,45] [60,61] [62,61] [33,61] 0 0 [] 0 0 [] 0) (.ret (.tup [.agg [.int .i64 (qbr v (sAt v 0) [58,45] [60,61] [62,61] [33,61] 0 0 [] 0 0 [] 0),.str (qbp v (sAt v 0) [58,45] [60,61] [62,61] [33,61] 0 0 [] 0 0 [] 0),
 .int .i64 (qa9 v (sAt v 0) [58,45] [60,61] [62,61] [33,61] 0 0 [] 0 0 [] 0),.int .i64 (qa8 v (sAt v 0) [58,45] [60,61] [62,61] [33,61] 0 0 [] 0 0 [] 0),.str (qa6 v (sAt v 0) [58,45] [60,61] [62,61] [33,61] 0 0 [] 0 0 [] 0),.int .i64 (qa7 v (sAt v 0) [58,45] [60,61] [62,61] [33,61] 0 0 [] 0 0 [] 0)],.bool (qbq v (sAt v 0) [58,45] [60,61] [62,61] [33,61] 0 0 [] 0 0 [] 0)])) (.ite (qbu v (sAt v 0) [58,45] [60,61] [62,61] [33,61] 0 0 [] 0 0 [] 0) (.ite (qaI true (qaw 1) 0 (nNat 1) (nLen (qaG v (sAt v 0) [58,45] [60,61] [62,61] [33,61] 0 0 [] 0 0 [] 0))) (.ret (.tup [.agg [.int .i64 6,.str (sSub (qaG v (sAt v 0) [58,45] [60,61] [62,61] [33,61] 0 0 [] 0 0 [] 0) 0 (nNat 1)),.int .i64 0,.int .i64 0,.str [],.int .i64 0],.bool (iLe 0 (idxV [40,41,44,46,43,45,61,58,60,62] (qbm v (sAt v 0) [58,45] [60,61] [62,61] [33,61] 0 0 [] 0 0 [] 0)))])) .fail) .fail)))) .fail) (.ite (iEq (sAt v 0) 34) (.ite (qbn v) (.ite (qaI true (qaw (qab v)) 0 (nNat (qab v)) (nLen v)) (.ite (qaB (sSub v 0 (nNat (qab v))) 5) (.ret (.tup [.agg [.int .i64 (qaL (sSub v 0 (nNat (qab v))) 5),.str (qaM (sSub v 0 (nNat (qab v))) 5),.int .i64 (qaD (sSub v 0 (nNat (qab v))) 5),.int .i64 (qaF (sSub v 0 (nNat (qab v))) 5),.str (qaE (sSub v 0 (nNat (qab v))) 5),.int .i64 (qaH (sSub v 0 (nNat (qab v))) 5)],.bool (qaK (sSub v 0 (nNat (qab v))) 5)])) .fail) .fail) .fail) (.ite (qbe v (sAt v 0) [58,45] [60,61] [62,61] [33,61] 0 0 [] 0 0 [] 0) (.ret (.tup [.agg [.int .i64 (qbr v (sAt v 0) [58,45] [60,61] [62,61] [33,61] 0 0 [] 0 0 [] 0),.str (qbp v (sAt v 0) [58,45] [60,61] [62,61] [33,61] 0 0 [] 0 0 [] 0),.int .i64 (qa9 v (sAt v 0) [58,45] [60,61] [62,61] [33,61] 0 0 [] 0 0 [] 0),.int .i64 (qa8 v (sAt v 0) [58,45] [60,61] [62,61] [33,61] 0 0 [] 0 0 [] 0),
 .str (qa6 v (sAt v 0) [58,45] [60,61] [62,61] [33,61] 0 0 [] 0 0 [] 0),.int .i64 (qa7 v (sAt v 0) [58,45] [60,61] [62,61] [33,61] 0 0 [] 0 0 [] 0)],.bool (qbq v (sAt v 0) [58,45] [60,61] [62,61] [33,61] 0 0 [] 0 0 [] 0)])) (.ite (qbu v (sAt v 0) [58,45] [60,61] [62,61] [33,61] 0 0 [] 0 0 [] 0) (.ite (qaI true (qaw 1) 0 (nNat 1) (nLen (qaG v (sAt v 0) [58,45] [60,61] [62,61] [33,61] 0 0 [] 0 0 [] 0))) (.ret (.tup [.agg [.int .i64 6,.str (sSub (qaG v (sAt v 0) [58,45] [60,61] [62,61] [33,61] 0 0 [] 0 0 [] 0) 0 (nNat 1)),.int .i64 0,.int .i64 0,.str [],.int .i64 0],.bool (iLe 0 (idxV [40,41,44,46,43,45,61,58,60,62] (qbm v (sAt v 0) [58,45] [60,61] [62,61] [33,61] 0 0 [] 0 0 [] 0)))])) .fail) .fail))))) .fail)))) (.ite (iLe 65 (sAt v 0)) (.ite (iLe (sAt v 0) 90) (.ite (qdV v 2) (.ret (.tup [.agg [.int .i64 (qfK v 2),.str (qfH v 2),.int .i64 (qd1 v 2),.int .i64 (qd7 v 2),.str (qdS v 2),.int .i64 (qd0 v 2)],.bool (qfE v 2)])) .fail) (.ite (iEq (sAt v 0) 95) (.ite (qbP (sAt v 1)) (.ret (.tup [.agg [.int .i64 3,.str [95],.int .i64 0,.int .i64 0,.str [],.int .i64 0],.bool (bNot (qbZ (sAt v 1)))])) .fail) (.ite (qba (sAt v 0)) (.ite (qbd (sAt v 0)) (.ite (qaI (qaw 1) true (nNat 1) (nLen v) (nLen v)) (.ite (qbG (sSub v (nNat 1) (nLen v))) (.ite (qaI true (qaw (iAdd .i64 1 (qaf (sSub v (nNat 1) (nLen v))))) 0 (nNat (iAdd .i64 1 (qaf (sSub v (nNat 1) (nLen v))))) (nLen v)) (.ite (qaB (sSub v 0 (nNat (iAdd .i64 1 (qaf (sSub v (nNat 1) (nLen v)))))) 4) (.ret (.tup [.agg [.int .i64 (qaL (sSub v 0 (nNat (iAdd .i64 1 (qaf (sSub v (nNat 1) (nLen v)))))) 4),.str (qaM (sSub v 0 (nNat (iAdd .i64 1 (qaf (sSub v (nNat 1) (nLen v)))))) 4),.int .i64 (qaD (sSub v 0 (nNat (iAdd .i64 1 (qaf (sSub v (nNat 1) (nLen v)))))) 4),
 .int .i64 (qaF (sSub v 0 (nNat (iAdd .i64 1 (qaf (sSub v (nNat 1) (nLen v)))))) 4),.str (qaE (sSub v 0 (nNat (iAdd .i64 1 (qaf (sSub v (nNat 1) (nLen v)))))) 4),.int .i64 (qaH (sSub v 0 (nNat (iAdd .i64 1 (qaf (sSub v (nNat 1) (nLen v)))))) 4)],.bool (qaK (sSub v 0 (nNat (iAdd .i64 1 (qaf (sSub v (nNat 1) (nLen v)))))) 4)])) .fail) .fail) .fail) .fail) (.ite (iEq (sAt v 0) 45) (.ite (qba (sAt v 1)) (.ite (qbd (sAt v 1)) (.ite (qaI (qaw 1) true (nNat 1) (nLen v) (nLen v)) (.ite (qbG (sSub v (nNat 1) (nLen v))) (.ite (qaI true (qaw (iAdd .i64 1 (qaf (sSub v (nNat 1) (nLen v))))) 0 (nNat (iAdd .i64 1 (qaf (sSub v (nNat 1) (nLen v))))) (nLen v)) (.ite (qaB (sSub v 0 (nNat (iAdd .i64 1 (qaf (sSub v (nNat 1) (nLen v)))))) 4) (.ret (.tup [.agg [.int .i64 (qaL (sSub v 0 (nNat (iAdd .i64 1 (qaf (sSub v (nNat 1) (nLen v)))))) 4),.str (qaM (sSub v 0 (nNat (iAdd .i64 1 (qaf (sSub v (nNat 1) (nLen v)))))) 4),.int .i64 (qaD (sSub v 0 (nNat (iAdd .i64 1 (qaf (sSub v (nNat 1) (nLen v)))))) 4),.int .i64 (qaF (sSub v 0 (nNat (iAdd .i64 1 (qaf (sSub v (nNat 1) (nLen v)))))) 4),.str (qaE (sSub v 0 (nNat (iAdd .i64 1 (qaf (sSub v (nNat 1) (nLen v)))))) 4),.int .i64 (qaH (sSub v 0 (nNat (iAdd .i64 1 (qaf (sSub v (nNat 1) (nLen v)))))) 4)],.bool (qaK (sSub v 0 (nNat (iAdd .i64 1 (qaf (sSub v (nNat 1) (nLen v)))))) 4)])) .fail) .fail) .fail) .fail) (.ite (iEq (sAt v 0) 34) (.ite (qbn v) (.ite (qaI true (qaw (qab v)) 0 (nNat (qab v)) (nLen v)) (.ite (qaB (sSub v 0 (nNat (qab v))) 5) (.ret (.tup [.agg [.int .i64 (qaL (sSub v 0 (nNat (qab v))) 5),.str (qaM (sSub v 0 (nNat (qab v))) 5),.int .i64 (qaD (sSub v 0 (nNat (qab v))) 5),.int .i64 (qaF (sSub v 0 (nNat (qab v))) 5),
 .str (qaE (sSub v 0 (nNat (qab v))) 5),.int .i64 (qaH (sSub v 0 (nNat (qab v))) 5)],.bool (qaK (sSub v 0 (nNat (qab v))) 5)])) .fail) .fail) .fail) (.ite (qbe v (sAt v 0) [58,45] [60,61] [62,61] [33,61] 0 0 [] 0 0 [] 0) (.ret (.tup [.agg [.int .i64 (qbr v (sAt v 0) [58,45] [60,61] [62,61] [33,61] 0 0 [] 0 0 [] 0),.str (qbp v (sAt v 0) [58,45] [60,61] [62,61] [33,61] 0 0 [] 0 0 [] 0),.int .i64 (qa9 v (sAt v 0) [58,45] [60,61] [62,61] [33,61] 0 0 [] 0 0 [] 0),.int .i64 (qa8 v (sAt v 0) [58,45] [60,61] [62,61] [33,61] 0 0 [] 0 0 [] 0),.str (qa6 v (sAt v 0) [58,45] [60,61] [62,61] [33,61] 0 0 [] 0 0 [] 0),.int .i64 (qa7 v (sAt v 0) [58,45] [60,61] [62,61] [33,61] 0 0 [] 0 0 [] 0)],.bool (qbq v (sAt v 0) [58,45] [60,61] [62,61] [33,61] 0 0 [] 0 0 [] 0)])) (.ite (qbu v (sAt v 0) [58,45] [60,61] [62,61] [33,61] 0 0 [] 0 0 [] 0) (.ite (qaI true (qaw 1) 0 (nNat 1) (nLen (qaG v (sAt v 0) [58,45] [60,61] [62,61] [33,61] 0 0 [] 0 0 [] 0))) (.ret (.tup [.agg [.int .i64 6,.str (sSub (qaG v (sAt v 0) [58,45] [60,61] [62,61] [33,61] 0 0 [] 0 0 [] 0) 0 (nNat 1)),.int .i64 0,.int .i64 0,.str [],.int .i64 0],.bool (iLe 0 (idxV [40,41,44,46,43,45,61,58,60,62] (qbm v (sAt v 0) [58,45] [60,61] [62,61] [33,61] 0 0 [] 0 0 [] 0)))])) .fail) .fail)))) .fail) (.ite (iEq (sAt v 0) 34) (.ite (qbn v) (.ite (qaI true (qaw (qab v)) 0 (nNat (qab v)) (nLen v)) (.ite (qaB (sSub v 0 (nNat (qab v))) 5) (.ret (.tup [.agg [.int .i64 (qaL (sSub v 0 (nNat (qab v))) 5),.str (qaM (sSub v 0 (nNat (qab v))) 5),.int .i64 (qaD (sSub v 0 (nNat (qab v))) 5),.int .i64 (qaF (sSub v 0 (nNat (qab v))) 5),.str (qaE (sSub v 0 (nNat (qab v))) 5),.int .i64 (qaH (sSub v 0 (nNat (qab v))) 5)],.bool (qaK (sSub v 0 (nNat (qab v))) 5)])) .fail) .fail) .fail)
 (.ite (qbe v (sAt v 0) [58,45] [60,61] [62,61] [33,61] 0 0 [] 0 0 [] 0) (.ret (.tup [.agg [.int .i64 (qbr v (sAt v 0) [58,45] [60,61] [62,61] [33,61] 0 0 [] 0 0 [] 0),.str (qbp v (sAt v 0) [58,45] [60,61] [62,61] [33,61] 0 0 [] 0 0 [] 0),.int .i64 (qa9 v (sAt v 0) [58,45] [60,61] [62,61] [33,61] 0 0 [] 0 0 [] 0),.int .i64 (qa8 v (sAt v 0) [58,45] [60,61] [62,61] [33,61] 0 0 [] 0 0 [] 0),.str (qa6 v (sAt v 0) [58,45] [60,61] [62,61] [33,61] 0 0 [] 0 0 [] 0),.int .i64 (qa7 v (sAt v 0) [58,45] [60,61] [62,61] [33,61] 0 0 [] 0 0 [] 0)],.bool (qbq v (sAt v 0) [58,45] [60,61] [62,61] [33,61] 0 0 [] 0 0 [] 0)])) (.ite (qbu v (sAt v 0) [58,45] [60,61] [62,61] [33,61] 0 0 [] 0 0 [] 0) (.ite (qaI true (qaw 1) 0 (nNat 1) (nLen (qaG v (sAt v 0) [58,45] [60,61] [62,61] [33,61] 0 0 [] 0 0 [] 0))) (.ret (.tup [.agg [.int .i64 6,.str (sSub (qaG v (sAt v 0) [58,45] [60,61] [62,61] [33,61] 0 0 [] 0 0 [] 0) 0 (nNat 1)),.int .i64 0,.int .i64 0,.str [],.int .i64 0],.bool (iLe 0 (idxV [40,41,44,46,43,45,61,58,60,62] (qbm v (sAt v 0) [58,45] [60,61] [62,61] [33,61] 0 0 [] 0 0 [] 0)))])) .fail) .fail))))) .fail))) (.ite (iEq (sAt v 0) 95) (.ite (qbP (sAt v 1)) (.ret (.tup [.agg [.int .i64 3,.str [95],.int .i64 0,.int .i64 0,.str [],.int .i64 0],.bool (bNot (qbZ (sAt v 1)))])) .fail) (.ite (qba (sAt v 0)) (.ite (qbd (sAt v 0)) (.ite (qaI (qaw 1) true (nNat 1) (nLen v) (nLen v)) (.ite (qbG (sSub v (nNat 1) (nLen v))) (.ite (qaI true (qaw (iAdd .i64 1 (qaf (sSub v (nNat 1) (nLen v))))) 0 (nNat (iAdd .i64 1 (qaf (sSub v (nNat 1) (nLen v))))) (nLen v)) (.ite (qaB (sSub v 0 (nNat (iAdd .i64 1 (qaf (sSub v (nNat 1) (nLen v)))))) 4) (.ret (.tup [.agg [.int .i64 (qaL (sSub v 0 (nNat (iAdd .i64 1 (qaf (sSub v (nNat 1) (nLen v)))))) 4),.str (qaM (sSub v 0 (nNat (iAdd .i64 1 (qaf (sSub v (nNat 1) (nLen v)))))) 4),
 .int .i64 (qaD (sSub v 0 (nNat (iAdd .i64 1 (qaf (sSub v (nNat 1) (nLen v)))))) 4),.int .i64 (qaF (sSub v 0 (nNat (iAdd .i64 1 (qaf (sSub v (nNat 1) (nLen v)))))) 4),.str (qaE (sSub v 0 (nNat (iAdd .i64 1 (qaf (sSub v (nNat 1) (nLen v)))))) 4),.int .i64 (qaH (sSub v 0 (nNat (iAdd .i64 1 (qaf (sSub v (nNat 1) (nLen v)))))) 4)],.bool (qaK (sSub v 0 (nNat (iAdd .i64 1 (qaf (sSub v (nNat 1) (nLen v)))))) 4)])) .fail) .fail) .fail) .fail) (.ite (iEq (sAt v 0) 45) (.ite (qba (sAt v 1)) (.ite (qbd (sAt v 1)) (.ite (qaI (qaw 1) true (nNat 1) (nLen v) (nLen v)) (.ite (qbG (sSub v (nNat 1) (nLen v))) (.ite (qaI true (qaw (iAdd .i64 1 (qaf (sSub v (nNat 1) (nLen v))))) 0 (nNat (iAdd .i64 1 (qaf (sSub v (nNat 1) (nLen v))))) (nLen v)) (.ite (qaB (sSub v 0 (nNat (iAdd .i64 1 (qaf (sSub v (nNat 1) (nLen v)))))) 4) (.ret (.tup [.agg [.int .i64 (qaL (sSub v 0 (nNat (iAdd .i64 1 (qaf (sSub v (nNat 1) (nLen v)))))) 4),.str (qaM (sSub v 0 (nNat (iAdd .i64 1 (qaf (sSub v (nNat 1) (nLen v)))))) 4),.int .i64 (qaD (sSub v 0 (nNat (iAdd .i64 1 (qaf (sSub v (nNat 1) (nLen v)))))) 4),.int .i64 (qaF (sSub v 0 (nNat (iAdd .i64 1 (qaf (sSub v (nNat 1) (nLen v)))))) 4),.str (qaE (sSub v 0 (nNat (iAdd .i64 1 (qaf (sSub v (nNat 1) (nLen v)))))) 4),.int .i64 (qaH (sSub v 0 (nNat (iAdd .i64 1 (qaf (sSub v (nNat 1) (nLen v)))))) 4)],.bool (qaK (sSub v 0 (nNat (iAdd .i64 1 (qaf (sSub v (nNat 1) (nLen v)))))) 4)])) .fail) .fail) .fail) .fail) (.ite (iEq (sAt v 0) 34) (.ite (qbn v) (.ite (qaI true (qaw (qab v)) 0 (nNat (qab v)) (nLen v)) (.ite (qaB (sSub v 0 (nNat (qab v))) 5) (.ret (.tup [.agg [.int .i64 (qaL (sSub v 0 (nNat (qab v))) 5),.str (qaM (sSub v 0 (nNat (qab v))) 5),
 .int .i64 (qaD (sSub v 0 (nNat (qab v))) 5),.int .i64 (qaF (sSub v 0 (nNat (qab v))) 5),.str (qaE (sSub v 0 (nNat (qab v))) 5),.int .i64 (qaH (sSub v 0 (nNat (qab v))) 5)],.bool (qaK (sSub v 0 (nNat (qab v))) 5)])) .fail) .fail) .fail) (.ite (qbe v (sAt v 0) [58,45] [60,61] [62,61] [33,61] 0 0 [] 0 0 [] 0) (.ret (.tup [.agg [.int .i64 (qbr v (sAt v 0) [58,45] [60,61] [62,61] [33,61] 0 0 [] 0 0 [] 0),.str (qbp v (sAt v 0) [58,45] [60,61] [62,61] [33,61] 0 0 [] 0 0 [] 0),.int .i64 (qa9 v (sAt v 0) [58,45] [60,61] [62,61] [33,61] 0 0 [] 0 0 [] 0),.int .i64 (qa8 v (sAt v 0) [58,45] [60,61] [62,61] [33,61] 0 0 [] 0 0 [] 0),.str (qa6 v (sAt v 0) [58,45] [60,61] [62,61] [33,61] 0 0 [] 0 0 [] 0),.int .i64 (qa7 v (sAt v 0) [58,45] [60,61] [62,61] [33,61] 0 0 [] 0 0 [] 0)],.bool (qbq v (sAt v 0) [58,45] [60,61] [62,61] [33,61] 0 0 [] 0 0 [] 0)])) (.ite (qbu v (sAt v 0) [58,45] [60,61] [62,61] [33,61] 0 0 [] 0 0 [] 0) (.ite (qaI true (qaw 1) 0 (nNat 1) (nLen (qaG v (sAt v 0) [58,45] [60,61] [62,61] [33,61] 0 0 [] 0 0 [] 0))) (.ret (.tup [.agg [.int .i64 6,.str (sSub (qaG v (sAt v 0) [58,45] [60,61] [62,61] [33,61] 0 0 [] 0 0 [] 0) 0 (nNat 1)),.int .i64 0,.int .i64 0,.str [],.int .i64 0],.bool (iLe 0 (idxV [40,41,44,46,43,45,61,58,60,62] (qbm v (sAt v 0) [58,45] [60,61] [62,61] [33,61] 0 0 [] 0 0 [] 0)))])) .fail) .fail)))) .fail) (.ite (iEq (sAt v 0) 34) (.ite (qbn v) (.ite (qaI true (qaw (qab v)) 0 (nNat (qab v)) (nLen v)) (.ite (qaB (sSub v 0 (nNat (qab v))) 5) (.ret (.tup [.agg [.int .i64 (qaL (sSub v 0 (nNat (qab v))) 5),.str (qaM (sSub v 0 (nNat (qab v))) 5),.int .i64 (qaD (sSub v 0 (nNat (qab v))) 5),.int .i64 (qaF (sSub v 0 (nNat (qab v))) 5),
 .str (qaE (sSub v 0 (nNat (qab v))) 5),.int .i64 (qaH (sSub v 0 (nNat (qab v))) 5)],.bool (qaK (sSub v 0 (nNat (qab v))) 5)])) .fail) .fail) .fail) (.ite (qbe v (sAt v 0) [58,45] [60,61] [62,61] [33,61] 0 0 [] 0 0 [] 0) (.ret (.tup [.agg [.int .i64 (qbr v (sAt v 0) [58,45] [60,61] [62,61] [33,61] 0 0 [] 0 0 [] 0),.str (qbp v (sAt v 0) [58,45] [60,61] [62,61] [33,61] 0 0 [] 0 0 [] 0),.int .i64 (qa9 v (sAt v 0) [58,45] [60,61] [62,61] [33,61] 0 0 [] 0 0 [] 0),.int .i64 (qa8 v (sAt v 0) [58,45] [60,61] [62,61] [33,61] 0 0 [] 0 0 [] 0),.str (qa6 v (sAt v 0) [58,45] [60,61] [62,61] [33,61] 0 0 [] 0 0 [] 0),.int .i64 (qa7 v (sAt v 0) [58,45] [60,61] [62,61] [33,61] 0 0 [] 0 0 [] 0)],.bool (qbq v (sAt v 0) [58,45] [60,61] [62,61] [33,61] 0 0 [] 0 0 [] 0)])) (.ite (qbu v (sAt v 0) [58,45] [60,61] [62,61] [33,61] 0 0 [] 0 0 [] 0) (.ite (qaI true (qaw 1) 0 (nNat 1) (nLen (qaG v (sAt v 0) [58,45] [60,61] [62,61] [33,61] 0 0 [] 0 0 [] 0))) (.ret (.tup [.agg [.int .i64 6,.str (sSub (qaG v (sAt v 0) [58,45] [60,61] [62,61] [33,61] 0 0 [] 0 0 [] 0) 0 (nNat 1)),.int .i64 0,.int .i64 0,.str [],.int .i64 0],.bool (iLe 0 (idxV [40,41,44,46,43,45,61,58,60,62] (qbm v (sAt v 0) [58,45] [60,61] [62,61] [33,61] 0 0 [] 0 0 [] 0)))])) .fail) .fail))))) .fail)))) .fail) (.ite (iLe 97 (sAt v 0)) (.ite (iLe (sAt v 0) 122) (.ite (qdV v 1) (.ret (.tup [.agg [.int .i64 (qfK v 1),.str (qfH v 1),.int .i64 (qd1 v 1),.int .i64 (qd7 v 1),.str (qdS v 1),.int .i64 (qd0 v 1)],.bool (qfE v 1)])) .fail) (.ite (iLe 65 (sAt v 0)) (.ite (iLe (sAt v 0) 90) (.ite (qdV v 2) (.ret (.tup [.agg [.int .i64 (qfK v 2),.str (qfH v 2),.int .i64 (qd1 v 2),.int .i64 (qd7 v 2),.str (qdS v 2),.int .i64 (qd0 v 2)],.bool (qfE v 2)])) .fail) (.ite (iEq (sAt v 0) 95) (.ite (qbP 0) (.ret
 (.tup [.agg [.int .i64 3,.str [95],.int .i64 0,.int .i64 0,.str [],.int .i64 0],.bool (bNot (qbZ 0))])) .fail) (.ite (qba (sAt v 0)) (.ite (qbd (sAt v 0)) (.ite (qaI (qaw 1) true (nNat 1) (nLen v) (nLen v)) (.ite (qbG (sSub v (nNat 1) (nLen v))) (.ite (qaI true (qaw (iAdd .i64 1 (qaf (sSub v (nNat 1) (nLen v))))) 0 (nNat (iAdd .i64 1 (qaf (sSub v (nNat 1) (nLen v))))) (nLen v)) (.ite (qaB (sSub v 0 (nNat (iAdd .i64 1 (qaf (sSub v (nNat 1) (nLen v)))))) 4) (.ret (.tup [.agg [.int .i64 (qaL (sSub v 0 (nNat (iAdd .i64 1 (qaf (sSub v (nNat 1) (nLen v)))))) 4),.str (qaM (sSub v 0 (nNat (iAdd .i64 1 (qaf (sSub v (nNat 1) (nLen v)))))) 4),.int .i64 (qaD (sSub v 0 (nNat (iAdd .i64 1 (qaf (sSub v (nNat 1) (nLen v)))))) 4),.int .i64 (qaF (sSub v 0 (nNat (iAdd .i64 1 (qaf (sSub v (nNat 1) (nLen v)))))) 4),.str (qaE (sSub v 0 (nNat (iAdd .i64 1 (qaf (sSub v (nNat 1) (nLen v)))))) 4),.int .i64 (qaH (sSub v 0 (nNat (iAdd .i64 1 (qaf (sSub v (nNat 1) (nLen v)))))) 4)],.bool (qaK (sSub v 0 (nNat (iAdd .i64 1 (qaf (sSub v (nNat 1) (nLen v)))))) 4)])) .fail) .fail) .fail) .fail) (.ite (iEq (sAt v 0) 45) (.ite (qba 0) (.ite (qbd 0) (.ite (qaI (qaw 1) true (nNat 1) (nLen v) (nLen v)) (.ite (qbG (sSub v (nNat 1) (nLen v))) (.ite (qaI true (qaw (iAdd .i64 1 (qaf (sSub v (nNat 1) (nLen v))))) 0 (nNat (iAdd .i64 1 (qaf (sSub v (nNat 1) (nLen v))))) (nLen v)) (.ite (qaB (sSub v 0 (nNat (iAdd .i64 1 (qaf (sSub v (nNat 1) (nLen v)))))) 4) (.ret (.tup [.agg [.int .i64 (qaL (sSub v 0 (nNat (iAdd .i64 1 (qaf (sSub v (nNat 1) (nLen v)))))) 4),.str (qaM (sSub v 0 (nNat (iAdd .i64 1 (qaf (sSub v (nNat 1) (nLen v)))))) 4),.int .i64 (qaD (sSub v 0 (nNat (iAdd .i64 1 (qaf (sSub v (nNat 1) (nLen v)))))) 4),
 .int .i64 (qaF (sSub v 0 (nNat (iAdd .i64 1 (qaf (sSub v (nNat 1) (nLen v)))))) 4),.str (qaE (sSub v 0 (nNat (iAdd .i64 1 (qaf (sSub v (nNat 1) (nLen v)))))) 4),.int .i64 (qaH (sSub v 0 (nNat (iAdd .i64 1 (qaf (sSub v (nNat 1) (nLen v)))))) 4)],.bool (qaK (sSub v 0 (nNat (iAdd .i64 1 (qaf (sSub v (nNat 1) (nLen v)))))) 4)])) .fail) .fail) .fail) .fail) (.ite (iEq (sAt v 0) 34) (.ite (qbn v) (.ite (qaI true (qaw (qab v)) 0 (nNat (qab v)) (nLen v)) (.ite (qaB (sSub v 0 (nNat (qab v))) 5) (.ret (.tup [.agg [.int .i64 (qaL (sSub v 0 (nNat (qab v))) 5),.str (qaM (sSub v 0 (nNat (qab v))) 5),.int .i64 (qaD (sSub v 0 (nNat (qab v))) 5),.int .i64 (qaF (sSub v 0 (nNat (qab v))) 5),.str (qaE (sSub v 0 (nNat (qab v))) 5),.int .i64 (qaH (sSub v 0 (nNat (qab v))) 5)],.bool (qaK (sSub v 0 (nNat (qab v))) 5)])) .fail) .fail) .fail) (.ite (qbe v (sAt v 0) [58,45] [60,61] [62,61] [33,61] 0 0 [] 0 0 [] 0) (.ret (.tup [.agg [.int .i64 (qbr v (sAt v 0) [58,45] [60,61] [62,61] [33,61] 0 0 [] 0 0 [] 0),.str (qbp v (sAt v 0) [58,45] [60,61] [62,61] [33,61] 0 0 [] 0 0 [] 0),.int .i64 (qa9 v (sAt v 0) [58,45] [60,61] [62,61] [33,61] 0 0 [] 0 0 [] 0),.int .i64 (qa8 v (sAt v 0) [58,45] [60,61] [62,61] [33,61] 0 0 [] 0 0 [] 0),.str (qa6 v (sAt v 0) [58,45] [60,61] [62,61] [33,61] 0 0 [] 0 0 [] 0),.int .i64 (qa7 v (sAt v 0) [58,45] [60,61] [62,61] [33,61] 0 0 [] 0 0 [] 0)],.bool (qbq v (sAt v 0) [58,45] [60,61] [62,61] [33,61] 0 0 [] 0 0 [] 0)])) (.ite (qbu v (sAt v 0) [58,45] [60,61] [62,61] [33,61] 0 0 [] 0 0 [] 0) (.ite (qaI true (qaw 1) 0 (nNat 1) (nLen (qaG v (sAt v 0) [58,45] [60,61] [62,61] [33,61] 0 0 [] 0 0 [] 0))) (.ret (.tup [.agg
 [.int .i64 6,.str (sSub (qaG v (sAt v 0) [58,45] [60,61] [62,61] [33,61] 0 0 [] 0 0 [] 0) 0 (nNat 1)),.int .i64 0,.int .i64 0,.str [],.int .i64 0],.bool (iLe 0 (idxV [40,41,44,46,43,45,61,58,60,62] (qbm v (sAt v 0) [58,45] [60,61] [62,61] [33,61] 0 0 [] 0 0 [] 0)))])) .fail) .fail)))) .fail) (.ite (iEq (sAt v 0) 34) (.ite (qbn v) (.ite (qaI true (qaw (qab v)) 0 (nNat (qab v)) (nLen v)) (.ite (qaB (sSub v 0 (nNat (qab v))) 5) (.ret (.tup [.agg [.int .i64 (qaL (sSub v 0 (nNat (qab v))) 5),.str (qaM (sSub v 0 (nNat (qab v))) 5),.int .i64 (qaD (sSub v 0 (nNat (qab v))) 5),.int .i64 (qaF (sSub v 0 (nNat (qab v))) 5),.str (qaE (sSub v 0 (nNat (qab v))) 5),.int .i64 (qaH (sSub v 0 (nNat (qab v))) 5)],.bool (qaK (sSub v 0 (nNat (qab v))) 5)])) .fail) .fail) .fail) (.ite (qbe v (sAt v 0) [58,45] [60,61] [62,61] [33,61] 0 0 [] 0 0 [] 0) (.ret (.tup [.agg [.int .i64 (qbr v (sAt v 0) [58,45] [60,61] [62,61] [33,61] 0 0 [] 0 0 [] 0),.str (qbp v (sAt v 0) [58,45] [60,61] [62,61] [33,61] 0 0 [] 0 0 [] 0),.int .i64 (qa9 v (sAt v 0) [58,45] [60,61] [62,61] [33,61] 0 0 [] 0 0 [] 0),.int .i64 (qa8 v (sAt v 0) [58,45] [60,61] [62,61] [33,61] 0 0 [] 0 0 [] 0),.str (qa6 v (sAt v 0) [58,45] [60,61] [62,61] [33,61] 0 0 [] 0 0 [] 0),.int .i64 (qa7 v (sAt v 0) [58,45] [60,61] [62,61] [33,61] 0 0 [] 0 0 [] 0)],.bool (qbq v (sAt v 0) [58,45] [60,61] [62,61] [33,61] 0 0 [] 0 0 [] 0)])) (.ite (qbu v (sAt v 0) [58,45] [60,61] [62,61] [33,61] 0 0 [] 0 0 [] 0) (.ite (qaI true (qaw 1) 0 (nNat 1) (nLen (qaG v (sAt v 0) [58,45] [60,61] [62,61] [33,61] 0 0 [] 0 0 [] 0))) (.ret (.tup [.agg [.int .i64 6,.str (sSub (qaG v (sAt v 0) [58,45] [60,61] [62,61] [33,61] 0 0 [] 0 0 [] 0) 0 (nNat 1)),.int .i64 0,.int .i64 0,.str [],.int .i64 0],
 .bool (iLe 0 (idxV [40,41,44,46,43,45,61,58,60,62] (qbm v (sAt v 0) [58,45] [60,61] [62,61] [33,61] 0 0 [] 0 0 [] 0)))])) .fail) .fail))))) .fail))) (.ite (iEq (sAt v 0) 95) (.ite (qbP 0) (.ret (.tup [.agg [.int .i64 3,.str [95],.int .i64 0,.int .i64 0,.str [],.int .i64 0],.bool (bNot (qbZ 0))])) .fail) (.ite (qba (sAt v 0)) (.ite (qbd (sAt v 0)) (.ite (qaI (qaw 1) true (nNat 1) (nLen v) (nLen v)) (.ite (qbG (sSub v (nNat 1) (nLen v))) (.ite (qaI true (qaw (iAdd .i64 1 (qaf (sSub v (nNat 1) (nLen v))))) 0 (nNat (iAdd .i64 1 (qaf (sSub v (nNat 1) (nLen v))))) (nLen v)) (.ite (qaB (sSub v 0 (nNat (iAdd .i64 1 (qaf (sSub v (nNat 1) (nLen v)))))) 4) (.ret (.tup [.agg [.int .i64 (qaL (sSub v 0 (nNat (iAdd .i64 1 (qaf (sSub v (nNat 1) (nLen v)))))) 4),.str (qaM (sSub v 0 (nNat (iAdd .i64 1 (qaf (sSub v (nNat 1) (nLen v)))))) 4),.int .i64 (qaD (sSub v 0 (nNat (iAdd .i64 1 (qaf (sSub v (nNat 1) (nLen v)))))) 4),.int .i64 (qaF (sSub v 0 (nNat (iAdd .i64 1 (qaf (sSub v (nNat 1) (nLen v)))))) 4),.str (qaE (sSub v 0 (nNat (iAdd .i64 1 (qaf (sSub v (nNat 1) (nLen v)))))) 4),.int .i64 (qaH (sSub v 0 (nNat (iAdd .i64 1 (qaf (sSub v (nNat 1) (nLen v)))))) 4)],.bool (qaK (sSub v 0 (nNat (iAdd .i64 1 (qaf (sSub v (nNat 1) (nLen v)))))) 4)])) .fail) .fail) .fail) .fail) (.ite (iEq (sAt v 0) 45) (.ite (qba 0) (.ite (qbd 0) (.ite (qaI (qaw 1) true (nNat 1) (nLen v) (nLen v)) (.ite (qbG (sSub v (nNat 1) (nLen v))) (.ite (qaI true (qaw (iAdd .i64 1 (qaf (sSub v (nNat 1) (nLen v))))) 0 (nNat (iAdd .i64 1 (qaf (sSub v (nNat 1) (nLen v))))) (nLen v)) (.ite (qaB (sSub v 0 (nNat (iAdd .i64 1 (qaf (sSub v (nNat 1) (nLen v)))))) 4) (.ret (.tup [.agg [.int .i64 (qaL (sSub v 0 (nNat (iAdd .i64 1 (qaf (sSub v (nNat 1) (nLen v)))))) 4),
 .str (qaM (sSub v 0 (nNat (iAdd .i64 1 (qaf (sSub v (nNat 1) (nLen v)))))) 4),.int .i64 (qaD (sSub v 0 (nNat (iAdd .i64 1 (qaf (sSub v (nNat 1) (nLen v)))))) 4),.int .i64 (qaF (sSub v 0 (nNat (iAdd .i64 1 (qaf (sSub v (nNat 1) (nLen v)))))) 4),.str (qaE (sSub v 0 (nNat (iAdd .i64 1 (qaf (sSub v (nNat 1) (nLen v)))))) 4),.int .i64 (qaH (sSub v 0 (nNat (iAdd .i64 1 (qaf (sSub v (nNat 1) (nLen v)))))) 4)],.bool (qaK (sSub v 0 (nNat (iAdd .i64 1 (qaf (sSub v (nNat 1) (nLen v)))))) 4)])) .fail) .fail) .fail) .fail) (.ite (iEq (sAt v 0) 34) (.ite (qbn v) (.ite (qaI true (qaw (qab v)) 0 (nNat (qab v)) (nLen v)) (.ite (qaB (sSub v 0 (nNat (qab v))) 5) (.ret (.tup [.agg [.int .i64 (qaL (sSub v 0 (nNat (qab v))) 5),.str (qaM (sSub v 0 (nNat (qab v))) 5),.int .i64 (qaD (sSub v 0 (nNat (qab v))) 5),.int .i64 (qaF (sSub v 0 (nNat (qab v))) 5),.str (qaE (sSub v 0 (nNat (qab v))) 5),.int .i64 (qaH (sSub v 0 (nNat (qab v))) 5)],.bool (qaK (sSub v 0 (nNat (qab v))) 5)])) .fail) .fail) .fail) (.ite (qbe v (sAt v 0) [58,45] [60,61] [62,61] [33,61] 0 0 [] 0 0 [] 0) (.ret (.tup [.agg [.int .i64 (qbr v (sAt v 0) [58,45] [60,61] [62,61] [33,61] 0 0 [] 0 0 [] 0),.str (qbp v (sAt v 0) [58,45] [60,61] [62,61] [33,61] 0 0 [] 0 0 [] 0),.int .i64 (qa9 v (sAt v 0) [58,45] [60,61] [62,61] [33,61] 0 0 [] 0 0 [] 0),.int .i64 (qa8 v (sAt v 0) [58,45] [60,61] [62,61] [33,61] 0 0 [] 0 0 [] 0),.str (qa6 v (sAt v 0) [58,45] [60,61] [62,61] [33,61] 0 0 [] 0 0 [] 0),.int .i64 (qa7 v (sAt v 0) [58,45] [60,61] [62,61] [33,61] 0 0 [] 0 0 [] 0)],.bool (qbq v (sAt v 0) [58,45] [60,61] [62,61] [33,61] 0 0 [] 0 0 [] 0)])) (.ite (qbu v (sAt v 0) [58,45] [60,61] [62,61] [33,61] 0 0 [] 0 0 [] 0)
 (.ite (qaI true (qaw 1) 0 (nNat 1) (nLen (qaG v (sAt v 0) [58,45] [60,61] [62,61] [33,61] 0 0 [] 0 0 [] 0))) (.ret (.tup [.agg [.int .i64 6,.str (sSub (qaG v (sAt v 0) [58,45] [60,61] [62,61] [33,61] 0 0 [] 0 0 [] 0) 0 (nNat 1)),.int .i64 0,.int .i64 0,.str [],.int .i64 0],.bool (iLe 0 (idxV [40,41,44,46,43,45,61,58,60,62] (qbm v (sAt v 0) [58,45] [60,61] [62,61] [33,61] 0 0 [] 0 0 [] 0)))])) .fail) .fail)))) .fail) (.ite (iEq (sAt v 0) 34) (.ite (qbn v) (.ite (qaI true (qaw (qab v)) 0 (nNat (qab v)) (nLen v)) (.ite (qaB (sSub v 0 (nNat (qab v))) 5) (.ret (.tup [.agg [.int .i64 (qaL (sSub v 0 (nNat (qab v))) 5),.str (qaM (sSub v 0 (nNat (qab v))) 5),.int .i64 (qaD (sSub v 0 (nNat (qab v))) 5),.int .i64 (qaF (sSub v 0 (nNat (qab v))) 5),.str (qaE (sSub v 0 (nNat (qab v))) 5),.int .i64 (qaH (sSub v 0 (nNat (qab v))) 5)],.bool (qaK (sSub v 0 (nNat (qab v))) 5)])) .fail) .fail) .fail) (.ite (qbe v (sAt v 0) [58,45] [60,61] [62,61] [33,61] 0 0 [] 0 0 [] 0) (.ret (.tup [.agg [.int .i64 (qbr v (sAt v 0) [58,45] [60,61] [62,61] [33,61] 0 0 [] 0 0 [] 0),.str (qbp v (sAt v 0) [58,45] [60,61] [62,61] [33,61] 0 0 [] 0 0 [] 0),.int .i64 (qa9 v (sAt v 0) [58,45] [60,61] [62,61] [33,61] 0 0 [] 0 0 [] 0),.int .i64 (qa8 v (sAt v 0) [58,45] [60,61] [62,61] [33,61] 0 0 [] 0 0 [] 0),.str (qa6 v (sAt v 0) [58,45] [60,61] [62,61] [33,61] 0 0 [] 0 0 [] 0),.int .i64 (qa7 v (sAt v 0) [58,45] [60,61] [62,61] [33,61] 0 0 [] 0 0 [] 0)],.bool (qbq v (sAt v 0) [58,45] [60,61] [62,61] [33,61] 0 0 [] 0 0 [] 0)])) (.ite (qbu v (sAt v 0) [58,45] [60,61] [62,61] [33,61] 0 0 [] 0 0 [] 0) (.ite (qaI true (qaw 1) 0 (nNat 1) (nLen (qaG v (sAt v 0) [58,45] [60,61] [62,61] [33,61] 0 0 [] 0 0 [] 0))) (.ret (.tup [.agg
 [.int .i64 6,.str (sSub (qaG v (sAt v 0) [58,45] [60,61] [62,61] [33,61] 0 0 [] 0 0 [] 0) 0 (nNat 1)),.int .i64 0,.int .i64 0,.str [],.int .i64 0],.bool (iLe 0 (idxV [40,41,44,46,43,45,61,58,60,62] (qbm v (sAt v 0) [58,45] [60,61] [62,61] [33,61] 0 0 [] 0 0 [] 0)))])) .fail) .fail))))) .fail)))) (.ite (iLe 65 (sAt v 0)) (.ite (iLe (sAt v 0) 90) (.ite (qdV v 2) (.ret (.tup [.agg [.int .i64 (qfK v 2),.str (qfH v 2),.int .i64 (qd1 v 2),.int .i64 (qd7 v 2),.str (qdS v 2),.int .i64 (qd0 v 2)],.bool (qfE v 2)])) .fail) (.ite (iEq (sAt v 0) 95) (.ite (qbP 0) (.ret (.tup [.agg [.int .i64 3,.str [95],.int .i64 0,.int .i64 0,.str [],.int .i64 0],.bool (bNot (qbZ 0))])) .fail) (.ite (qba (sAt v 0)) (.ite (qbd (sAt v 0)) (.ite (qaI (qaw 1) true (nNat 1) (nLen v) (nLen v)) (.ite (qbG (sSub v (nNat 1) (nLen v))) (.ite (qaI true (qaw (iAdd .i64 1 (qaf (sSub v (nNat 1) (nLen v))))) 0 (nNat (iAdd .i64 1 (qaf (sSub v (nNat 1) (nLen v))))) (nLen v)) (.ite (qaB (sSub v 0 (nNat (iAdd .i64 1 (qaf (sSub v (nNat 1) (nLen v)))))) 4) (.ret (.tup [.agg [.int .i64 (qaL (sSub v 0 (nNat (iAdd .i64 1 (qaf (sSub v (nNat 1) (nLen v)))))) 4),.str (qaM (sSub v 0 (nNat (iAdd .i64 1 (qaf (sSub v (nNat 1) (nLen v)))))) 4),.int .i64 (qaD (sSub v 0 (nNat (iAdd .i64 1 (qaf (sSub v (nNat 1) (nLen v)))))) 4),.int .i64 (qaF (sSub v 0 (nNat (iAdd .i64 1 (qaf (sSub v (nNat 1) (nLen v)))))) 4),.str (qaE (sSub v 0 (nNat (iAdd .i64 1 (qaf (sSub v (nNat 1) (nLen v)))))) 4),.int .i64 (qaH (sSub v 0 (nNat (iAdd .i64 1 (qaf (sSub v (nNat 1) (nLen v)))))) 4)],.bool (qaK (sSub v 0 (nNat (iAdd .i64 1 (qaf (sSub v (nNat 1) (nLen v)))))) 4)])) .fail) .fail) .fail) .fail) (.ite (iEq (sAt v 0) 45) (.ite (qba 0) (.ite (qbd 0) (.ite (qaI (qaw 1) true (nNat 1) (nLen v) (nLen v))
 (.ite (qbG (sSub v (nNat 1) (nLen v))) (.ite (qaI true (qaw (iAdd .i64 1 (qaf (sSub v (nNat 1) (nLen v))))) 0 (nNat (iAdd .i64 1 (qaf (sSub v (nNat 1) (nLen v))))) (nLen v)) (.ite (qaB (sSub v 0 (nNat (iAdd .i64 1 (qaf (sSub v (nNat 1) (nLen v)))))) 4) (.ret (.tup [.agg [.int .i64 (qaL (sSub v 0 (nNat (iAdd .i64 1 (qaf (sSub v (nNat 1) (nLen v)))))) 4),.str (qaM (sSub v 0 (nNat (iAdd .i64 1 (qaf (sSub v (nNat 1) (nLen v)))))) 4),.int .i64 (qaD (sSub v 0 (nNat (iAdd .i64 1 (qaf (sSub v (nNat 1) (nLen v)))))) 4),.int .i64 (qaF (sSub v 0 (nNat (iAdd .i64 1 (qaf (sSub v (nNat 1) (nLen v)))))) 4),.str (qaE (sSub v 0 (nNat (iAdd .i64 1 (qaf (sSub v (nNat 1) (nLen v)))))) 4),.int .i64 (qaH (sSub v 0 (nNat (iAdd .i64 1 (qaf (sSub v (nNat 1) (nLen v)))))) 4)],.bool (qaK (sSub v 0 (nNat (iAdd .i64 1 (qaf (sSub v (nNat 1) (nLen v)))))) 4)])) .fail) .fail) .fail) .fail) (.ite (iEq (sAt v 0) 34) (.ite (qbn v) (.ite (qaI true (qaw (qab v)) 0 (nNat (qab v)) (nLen v)) (.ite (qaB (sSub v 0 (nNat (qab v))) 5) (.ret (.tup [.agg [.int .i64 (qaL (sSub v 0 (nNat (qab v))) 5),.str (qaM (sSub v 0 (nNat (qab v))) 5),.int .i64 (qaD (sSub v 0 (nNat (qab v))) 5),.int .i64 (qaF (sSub v 0 (nNat (qab v))) 5),.str (qaE (sSub v 0 (nNat (qab v))) 5),.int .i64 (qaH (sSub v 0 (nNat (qab v))) 5)],.bool (qaK (sSub v 0 (nNat (qab v))) 5)])) .fail) .fail) .fail) (.ite (qbe v (sAt v 0) [58,45] [60,61] [62,61] [33,61] 0 0 [] 0 0 [] 0) (.ret (.tup [.agg [.int .i64 (qbr v (sAt v 0) [58,45] [60,61] [62,61] [33,61] 0 0 [] 0 0 [] 0),.str (qbp v (sAt v 0) [58,45] [60,61] [62,61] [33,61] 0 0 [] 0 0 [] 0),.int .i64 (qa9 v (sAt v 0) [58,45] [60,61] [62,61] [33,61] 0 0 [] 0 0 [] 0),
 .int .i64 (qa8 v (sAt v 0) [58,45] [60,61] [62,61] [33,61] 0 0 [] 0 0 [] 0),.str (qa6 v (sAt v 0) [58,45] [60,61] [62,61] [33,61] 0 0 [] 0 0 [] 0),.int .i64 (qa7 v (sAt v 0) [58,45] [60,61] [62,61] [33,61] 0 0 [] 0 0 [] 0)],.bool (qbq v (sAt v 0) [58,45] [60,61] [62,61] [33,61] 0 0 [] 0 0 [] 0)])) (.ite (qbu v (sAt v 0) [58,45] [60,61] [62,61] [33,61] 0 0 [] 0 0 [] 0) (.ite (qaI true (qaw 1) 0 (nNat 1) (nLen (qaG v (sAt v 0) [58,45] [60,61] [62,61] [33,61] 0 0 [] 0 0 [] 0))) (.ret (.tup [.agg [.int .i64 6,.str (sSub (qaG v (sAt v 0) [58,45] [60,61] [62,61] [33,61] 0 0 [] 0 0 [] 0) 0 (nNat 1)),.int .i64 0,.int .i64 0,.str [],.int .i64 0],.bool (iLe 0 (idxV [40,41,44,46,43,45,61,58,60,62] (qbm v (sAt v 0) [58,45] [60,61] [62,61] [33,61] 0 0 [] 0 0 [] 0)))])) .fail) .fail)))) .fail) (.ite (iEq (sAt v 0) 34) (.ite (qbn v) (.ite (qaI true (qaw (qab v)) 0 (nNat (qab v)) (nLen v)) (.ite (qaB (sSub v 0 (nNat (qab v))) 5) (.ret (.tup [.agg [.int .i64 (qaL (sSub v 0 (nNat (qab v))) 5),.str (qaM (sSub v 0 (nNat (qab v))) 5),.int .i64 (qaD (sSub v 0 (nNat (qab v))) 5),.int .i64 (qaF (sSub v 0 (nNat (qab v))) 5),.str (qaE (sSub v 0 (nNat (qab v))) 5),.int .i64 (qaH (sSub v 0 (nNat (qab v))) 5)],.bool (qaK (sSub v 0 (nNat (qab v))) 5)])) .fail) .fail) .fail) (.ite (qbe v (sAt v 0) [58,45] [60,61] [62,61] [33,61] 0 0 [] 0 0 [] 0) (.ret (.tup [.agg [.int .i64 (qbr v (sAt v 0) [58,45] [60,61] [62,61] [33,61] 0 0 [] 0 0 [] 0),.str (qbp v (sAt v 0) [58,45] [60,61] [62,61] [33,61] 0 0 [] 0 0 [] 0),.int .i64 (qa9 v (sAt v 0) [58,45] [60,61] [62,61] [33,61] 0 0 [] 0 0 [] 0),.int .i64 (qa8 v (sAt v 0) [58,45] [60,61] [62,61] [33,61] 0 0 [] 0 0 [] 0),.str (qa6 v (sAt v 0) [58,45] [60,61] [62,61] [33,61] 0 0 [] 0 0 [] 0),
 .int .i64 (qa7 v (sAt v 0) [58,45] [60,61] [62,61] [33,61] 0 0 [] 0 0 [] 0)],.bool (qbq v (sAt v 0) [58,45] [60,61] [62,61] [33,61] 0 0 [] 0 0 [] 0)])) (.ite (qbu v (sAt v 0) [58,45] [60,61] [62,61] [33,61] 0 0 [] 0 0 [] 0) (.ite (qaI true (qaw 1) 0 (nNat 1) (nLen (qaG v (sAt v 0) [58,45] [60,61] [62,61] [33,61] 0 0 [] 0 0 [] 0))) (.ret (.tup [.agg [.int .i64 6,.str (sSub (qaG v (sAt v 0) [58,45] [60,61] [62,61] [33,61] 0 0 [] 0 0 [] 0) 0 (nNat 1)),.int .i64 0,.int .i64 0,.str [],.int .i64 0],.bool (iLe 0 (idxV [40,41,44,46,43,45,61,58,60,62] (qbm v (sAt v 0) [58,45] [60,61] [62,61] [33,61] 0 0 [] 0 0 [] 0)))])) .fail) .fail))))) .fail))) (.ite (iEq (sAt v 0) 95) (.ite (qbP 0) (.ret (.tup [.agg [.int .i64 3,.str [95],.int .i64 0,.int .i64 0,.str [],.int .i64 0],.bool (bNot (qbZ 0))])) .fail) (.ite (qba (sAt v 0)) (.ite (qbd (sAt v 0)) (.ite (qaI (qaw 1) true (nNat 1) (nLen v) (nLen v)) (.ite (qbG (sSub v (nNat 1) (nLen v))) (.ite (qaI true (qaw (iAdd .i64 1 (qaf (sSub v (nNat 1) (nLen v))))) 0 (nNat (iAdd .i64 1 (qaf (sSub v (nNat 1) (nLen v))))) (nLen v)) (.ite (qaB (sSub v 0 (nNat (iAdd .i64 1 (qaf (sSub v (nNat 1) (nLen v)))))) 4) (.ret (.tup [.agg [.int .i64 (qaL (sSub v 0 (nNat (iAdd .i64 1 (qaf (sSub v (nNat 1) (nLen v)))))) 4),.str (qaM (sSub v 0 (nNat (iAdd .i64 1 (qaf (sSub v (nNat 1) (nLen v)))))) 4),.int .i64 (qaD (sSub v 0 (nNat (iAdd .i64 1 (qaf (sSub v (nNat 1) (nLen v)))))) 4),.int .i64 (qaF (sSub v 0 (nNat (iAdd .i64 1 (qaf (sSub v (nNat 1) (nLen v)))))) 4),.str (qaE (sSub v 0 (nNat (iAdd .i64 1 (qaf (sSub v (nNat 1) (nLen v)))))) 4),.int .i64 (qaH (sSub v 0 (nNat (iAdd .i64 1 (qaf (sSub v (nNat 1) (nLen v)))))) 4)],.bool (qaK (sSub v 0 (nNat (iAdd .i64 1 (qaf (sSub v (nNat 1) (nLen v)))))) 4)])) .fail) .fail) .fail) .fail) (.ite (iEq (sAt v 0) 45)
 (.ite (qba 0) (.ite (qbd 0) (.ite (qaI (qaw 1) true (nNat 1) (nLen v) (nLen v)) (.ite (qbG (sSub v (nNat 1) (nLen v))) (.ite (qaI true (qaw (iAdd .i64 1 (qaf (sSub v (nNat 1) (nLen v))))) 0 (nNat (iAdd .i64 1 (qaf (sSub v (nNat 1) (nLen v))))) (nLen v)) (.ite (qaB (sSub v 0 (nNat (iAdd .i64 1 (qaf (sSub v (nNat 1) (nLen v)))))) 4) (.ret (.tup [.agg [.int .i64 (qaL (sSub v 0 (nNat (iAdd .i64 1 (qaf (sSub v (nNat 1) (nLen v)))))) 4),.str (qaM (sSub v 0 (nNat (iAdd .i64 1 (qaf (sSub v (nNat 1) (nLen v)))))) 4),.int .i64 (qaD (sSub v 0 (nNat (iAdd .i64 1 (qaf (sSub v (nNat 1) (nLen v)))))) 4),.int .i64 (qaF (sSub v 0 (nNat (iAdd .i64 1 (qaf (sSub v (nNat 1) (nLen v)))))) 4),.str (qaE (sSub v 0 (nNat (iAdd .i64 1 (qaf (sSub v (nNat 1) (nLen v)))))) 4),.int .i64 (qaH (sSub v 0 (nNat (iAdd .i64 1 (qaf (sSub v (nNat 1) (nLen v)))))) 4)],.bool (qaK (sSub v 0 (nNat (iAdd .i64 1 (qaf (sSub v (nNat 1) (nLen v)))))) 4)])) .fail) .fail) .fail) .fail) (.ite (iEq (sAt v 0) 34) (.ite (qbn v) (.ite (qaI true (qaw (qab v)) 0 (nNat (qab v)) (nLen v)) (.ite (qaB (sSub v 0 (nNat (qab v))) 5) (.ret (.tup [.agg [.int .i64 (qaL (sSub v 0 (nNat (qab v))) 5),.str (qaM (sSub v 0 (nNat (qab v))) 5),.int .i64 (qaD (sSub v 0 (nNat (qab v))) 5),.int .i64 (qaF (sSub v 0 (nNat (qab v))) 5),.str (qaE (sSub v 0 (nNat (qab v))) 5),.int .i64 (qaH (sSub v 0 (nNat (qab v))) 5)],.bool (qaK (sSub v 0 (nNat (qab v))) 5)])) .fail) .fail) .fail) (.ite (qbe v (sAt v 0) [58,45] [60,61] [62,61] [33,61] 0 0 [] 0 0 [] 0) (.ret (.tup [.agg [.int .i64 (qbr v (sAt v 0) [58,45] [60,61] [62,61] [33,61] 0 0 [] 0 0 [] 0),.str (qbp v (sAt v 0) [58,45] [60,61] [62,61] [33,61] 0 0 [] 0 0 [] 0),
 .int .i64 (qa9 v (sAt v 0) [58,45] [60,61] [62,61] [33,61] 0 0 [] 0 0 [] 0),.int .i64 (qa8 v (sAt v 0) [58,45] [60,61] [62,61] [33,61] 0 0 [] 0 0 [] 0),.str (qa6 v (sAt v 0) [58,45] [60,61] [62,61] [33,61] 0 0 [] 0 0 [] 0),.int .i64 (qa7 v (sAt v 0) [58,45] [60,61] [62,61] [33,61] 0 0 [] 0 0 [] 0)],.bool (qbq v (sAt v 0) [58,45] [60,61] [62,61] [33,61] 0 0 [] 0 0 [] 0)])) (.ite (qbu v (sAt v 0) [58,45] [60,61] [62,61] [33,61] 0 0 [] 0 0 [] 0) (.ite (qaI true (qaw 1) 0 (nNat 1) (nLen (qaG v (sAt v 0) [58,45] [60,61] [62,61] [33,61] 0 0 [] 0 0 [] 0))) (.ret (.tup [.agg [.int .i64 6,.str (sSub (qaG v (sAt v 0) [58,45] [60,61] [62,61] [33,61] 0 0 [] 0 0 [] 0) 0 (nNat 1)),.int .i64 0,.int .i64 0,.str [],.int .i64 0],.bool (iLe 0 (idxV [40,41,44,46,43,45,61,58,60,62] (qbm v (sAt v 0) [58,45] [60,61] [62,61] [33,61] 0 0 [] 0 0 [] 0)))])) .fail) .fail)))) .fail) (.ite (iEq (sAt v 0) 34) (.ite (qbn v) (.ite (qaI true (qaw (qab v)) 0 (nNat (qab v)) (nLen v)) (.ite (qaB (sSub v 0 (nNat (qab v))) 5) (.ret (.tup [.agg [.int .i64 (qaL (sSub v 0 (nNat (qab v))) 5),.str (qaM (sSub v 0 (nNat (qab v))) 5),.int .i64 (qaD (sSub v 0 (nNat (qab v))) 5),.int .i64 (qaF (sSub v 0 (nNat (qab v))) 5),.str (qaE (sSub v 0 (nNat (qab v))) 5),.int .i64 (qaH (sSub v 0 (nNat (qab v))) 5)],.bool (qaK (sSub v 0 (nNat (qab v))) 5)])) .fail) .fail) .fail) (.ite (qbe v (sAt v 0) [58,45] [60,61] [62,61] [33,61] 0 0 [] 0 0 [] 0) (.ret (.tup [.agg [.int .i64 (qbr v (sAt v 0) [58,45] [60,61] [62,61] [33,61] 0 0 [] 0 0 [] 0),.str (qbp v (sAt v 0) [58,45] [60,61] [62,61] [33,61] 0 0 [] 0 0 [] 0),.int .i64 (qa9 v (sAt v 0) [58,45] [60,61] [62,61] [33,61] 0 0 [] 0 0 [] 0),.int .i64 (qa8 v (sAt v 0) [58,45] [60,61] [62,61] [33,61] 0 0 [] 0 0 [] 0),
 .str (qa6 v (sAt v 0) [58,45] [60,61] [62,61] [33,61] 0 0 [] 0 0 [] 0),.int .i64 (qa7 v (sAt v 0) [58,45] [60,61] [62,61] [33,61] 0 0 [] 0 0 [] 0)],.bool (qbq v (sAt v 0) [58,45] [60,61] [62,61] [33,61] 0 0 [] 0 0 [] 0)])) (.ite (qbu v (sAt v 0) [58,45] [60,61] [62,61] [33,61] 0 0 [] 0 0 [] 0) (.ite (qaI true (qaw 1) 0 (nNat 1) (nLen (qaG v (sAt v 0) [58,45] [60,61] [62,61] [33,61] 0 0 [] 0 0 [] 0))) (.ret (.tup [.agg [.int .i64 6,.str (sSub (qaG v (sAt v 0) [58,45] [60,61] [62,61] [33,61] 0 0 [] 0 0 [] 0) 0 (nNat 1)),.int .i64 0,.int .i64 0,.str [],.int .i64 0],.bool (iLe 0 (idxV [40,41,44,46,43,45,61,58,60,62] (qbm v (sAt v 0) [58,45] [60,61] [62,61] [33,61] 0 0 [] 0 0 [] 0)))])) .fail) .fail))))) .fail))))) .fail
theorem qKF (v:List UInt8):(tcall tbT qqL qwE Tryz.f141 [.str v]).flat=qfa v:=by kernel_rfl
noncomputable def qb1 (v:List UInt8):Option PV:=(qfa v).run
noncomputable def qch (v:List UInt8):Int:=(gInt (gAt (gCs (gAt (gCs (gVal (qb1 v))) 0)) 0))
noncomputable def qbf (v:List UInt8):List UInt8:=(gStr (gAt (gCs (gAt (gCs (gVal (qb1 v))) 0)) 1))
noncomputable def qbU (v:List UInt8):Int:=(gInt (gAt (gCs (gAt (gCs (gVal (qb1 v))) 0)) 2))
noncomputable def qbV (v:List UInt8):Int:=(gInt (gAt (gCs (gAt (gCs (gVal (qb1 v))) 0)) 3))
noncomputable def qbT (v:List UInt8):List UInt8:=(gStr (gAt (gCs (gAt (gCs (gVal (qb1 v))) 0)) 4))
noncomputable def qs0 (v:List UInt8):Int:=(gInt (gAt (gCs (gAt (gCs (gVal (qb1 v))) 0)) 5))
noncomputable def qfC (v:List UInt8):Bool:=(qb4 (gAt (gCs (gVal (qb1 v))) 1))
noncomputable def qh3 (v:List UInt8):Bool:=isW (qb1 v) (.tup [.agg [.int .i64 (qch v),.str (qbf v),.int .i64 (qbU v),.int .i64 (qbV v),.str (qbT v),.int .i64 (qs0 v)],.bool (qfC v)])
noncomputable def qxo:List PV→Tr PV | [.str v]=>.ite (qh3 v) (.ret (.tup [.agg [.int .i64 (qch v),.str (qbf v),.int .i64 (qbU v),.int .i64 (qbV v),.str (qbT v),.int .i64 (qs0 v)],.bool (qfC v)])) (.fail) | _=>.fail
theorem qEv (gl:Gl) (hg:GlLex gl):SimP Tryz.prog gl 141 fun args=>(qxo args).run:=by
 refine SimP.of_flat (G:=qqL) (L:=qwE) qav (quJ gl hg ) qah  Tryz.func141 rfl (by rfl) (by kernel_rfl) (qbg (L:=lps qwE) [(16,qog)] (by kernel_rfl) (List.forall_mem_cons.2 ⟨fun fr σ e fr' σ' h=>qw6 gl hg  fr σ e fr' σ' h,(List.forall_mem_nil _)⟩)) ?_
 intro args x h
 unfold qxo at h
 split at h
 ·exact (congrArg Tr.run (qKF _)).trans (qai h fun h=>by cases h)
 ·cases h
end Go.Pv
set_option maxHeartbeats 4000000
set_option maxRecDepth 200000
set_option linter.unusedSimpArgs false
set_option linter.unusedVariables false
namespace Go.Pv
open Go Go.Proofs Go.RowKit
def smI (c:Int):Bool:=decide (97≤c) && decide (c≤122)
def grI (c:Int):Bool:=decide (65≤c) && decide (c≤90)
def dgI (c:Int):Bool:=decide (48≤c) && decide (c≤57)
def inI (c:Int):Bool:=smI c || grI c || dgI c || decide (c=95)
theorem qzN (b:UInt8):smI (b.toNat:Int)=qeb b:=by unfold smI qeb; congr 1 <;> (apply decide_eq_decide.2; omega)
theorem qzA (b:UInt8):grI (b.toNat:Int)=qfD b:=by unfold grI qfD; congr 1 <;> (apply decide_eq_decide.2; omega)
theorem qec (b:UInt8):dgI (b.toNat:Int)=qaN b:=by unfold dgI qaN; congr 1 <;> (apply decide_eq_decide.2; omega)
theorem ql1 (b:UInt8):inI (b.toNat:Int)=innB b:=by
 unfold inI innB
 rw [qzN,qzA,qec]
 congr 1
 apply decide_eq_decide.2
 omega
theorem qrY (c:Int):qou c=some (.bool (dgI c)):=by
 unfold qou qpZ dgI
 by_cases h:(48:Int)≤c <;> simp [h]
@[simp] theorem qdT (c:Int):qba c=true:=by simp [qba,qbd,qrY]
@[simp] theorem ldigit_v (c:Int):qbd c=dgI c:=by simp [qbd,qrY]
theorem qny (c:Int):qjk c=some (.bool (inI c)):=by
 unfold qjk qkl inI smI grI
 by_cases h1:(97:Int)≤c <;> by_cases h2:c≤122 <;> by_cases h3:(65:Int)≤c <;> by_cases h4:c≤90 <;> by_cases h5:c=95 <;> simp [h1,h2,h3,h4,h5]
@[simp] theorem lfollows_is (c:Int):qbP c=true:=by simp [qbP,qbZ,qny]
@[simp] theorem lfollows_v (c:Int):qbZ c=inI c:=by simp [qbZ,qny]
theorem qEL (s:List UInt8) (hs:s.length < 9223372036854775807):∀ (m i:Nat),i+m=s.length→qfj [.str s,.fn 155 [],.int .i64 (i:Nat)] ⟨[],[],[]⟩=some (.exit 0,[.int .i64 ((i+runL innB (s.drop i):Nat):Int)],⟨[],[],[]⟩):=by
 intro m
 induction m with
 | zero =>
  intro i hi
  rw [qDy,List.drop_eq_nil_of_le (by omega)]
  have:¬ (i:Int) < s.length:=by omega
  simp [qk8,runL,this]
 | succ m ih =>
  intro i hi
  obtain ⟨b,hb⟩:=qe0 (l:=s) (i:=i) (by omega)
  have hbe:=(List.getElem?_eq_some_iff.1 hb).2
  have w:=qbw (i:=i) (by omega)
  have hlt:i < s.length:=by omega
  have h1:=ih (i+1) (by omega)
  rw [qbB hb,qDy]
  cases hc:innB b with
  | true =>
   have e:i+(runL innB (s.drop (i+1))+1)=i+1+runL innB (s.drop (i+1)):=by omega
   simp only [runL,hc,if_true,e]
   rw [← h1]
   simp [qk8,hlt,hbe,ql1,hc,w]
  | false=>simp [qk8,hlt,hbe,ql1,hc,runL]
theorem qAT (s:List UInt8) (hs:s.length < 9223372036854775807):∀ (m i:Nat),i+m=s.length→qfj [.str s,.fn 156 [],.int .i64 (i:Nat)] ⟨[],[],[]⟩=some (.exit 0,[.int .i64 ((i+runL qaN (s.drop i):Nat):Int)],⟨[],[],[]⟩):=by
 intro m
 induction m with
 | zero =>
  intro i hi
  rw [qyw,List.drop_eq_nil_of_le (by omega)]
  have:¬ (i:Int) < s.length:=by omega
  simp [qie,runL,this]
 | succ m ih =>
  intro i hi
  obtain ⟨b,hb⟩:=qe0 (l:=s) (i:=i) (by omega)
  have hbe:=(List.getElem?_eq_some_iff.1 hb).2
  have w:=qbw (i:=i) (by omega)
  have hlt:i < s.length:=by omega
  have h1:=ih (i+1) (by omega)
  rw [qbB hb,qyw]
  cases hc:qaN b with
  | true =>
   have e:i+(runL qaN (s.drop (i+1))+1)=i+1+runL qaN (s.drop (i+1)):=by omega
   simp only [runL,hc,if_true,e]
   rw [← h1]
   simp [qie,hlt,hbe,qec,hc,w]
  | false=>simp [qie,hlt,hbe,qec,hc,runL]
theorem qzu {s:List UInt8} (hs:s.length < 9223372036854775807):qzd s=some (.int .i64 (runL innB s:Nat)):=by
 have h:=qEL s hs s.length 0 (by omega)
 simp at h
 unfold qzd qxC
 simp [qpJ,qua,qye,h]
theorem qI3 {s:List UInt8} (hs:s.length < 9223372036854775807):qnT s=true:=by simp [qnT,qlX,qzu hs]
theorem qK1 {s:List UInt8} (hs:s.length < 9223372036854775807):qlX s=(runL innB s:Nat):=by simp [qlX,qzu hs]
theorem qvs {s:List UInt8} (hs:s.length < 9223372036854775807):qsw s=some (.int .i64 (runL qaN s:Nat)):=by
 have h:=qAT s hs s.length 0 (by omega)
 simp at h
 unfold qsw qur
 simp [qnm,qoN,qsL,h]
theorem qFH {s:List UInt8} (hs:s.length < 9223372036854775807):qbG s=true:=by simp [qbG,qaf,qvs hs]
theorem qJj {s:List UInt8} (hs:s.length < 9223372036854775807):qaf s=(runL qaN s:Nat):=by simp [qaf,qvs hs]
def qOut (i n:Nat):Option (PExit × List PV × Store):=if n=0 then some (.exit 0,[],⟨[],[],[]⟩) else some (.ret,[.int .i64 ((i+n:Nat):Int)],⟨[],[],[]⟩)
theorem qi2 (i n:Nat):qOut i (incN n)=qOut (i+1) n:=by
 unfold qOut incN
 by_cases h:n=0
 ·simp [h]
 ·simp [h]; omega
theorem qu4 (s:List UInt8) (hs:s.length < 9223372036854775800):∀ (m i:Nat),s.length≤i+m→i≤s.length+1→qcE [.str s,.int .i64 (i:Nat)] ⟨[],[],[]⟩=qOut i (quoE false (s.drop i)):=by
 have hend:∀ i:Nat,s.length≤i→qcE [.str s,.int .i64 (i:Nat)] ⟨[],[],[]⟩=some (.exit 0,[],⟨[],[],[]⟩):=fun i hi=>by
  rw [qse]
  have:¬ (i:Int) < s.length:=by omega
  simp [qew,this]
 intro m
 induction m with
 | zero =>
  intro i hi _
  rw [hend i (by omega),List.drop_eq_nil_of_le (by omega)]
  simp [quoE,qOut]
 | succ m ih =>
  intro i hi hi2
  by_cases hlt:i < s.length
  ·obtain ⟨b,hb⟩:=qe0 (l:=s) (i:=i) hlt
   have hbe:=(List.getElem?_eq_some_iff.1 hb).2
   have w:=qbw (i:=i) (by omega)
   have w2:=qbw (i:=i+1) (by omega)
   have h1:=ih (i+1) (by omega) (by omega)
   rw [qbB hb,qse]
   simp only [quoE]
   by_cases hq:b.toNat=34
   ·rw [if_pos hq]
    simp [qew,hlt,hbe,hq,w,qOut]
   ·rw [if_neg hq]
    have hq':¬ ((b.toNat:Int)=34):=by omega
    by_cases hp:b.toNat=92
    ·rw [if_pos hp,qi2]
     have e1:qcE [.str s,.int .i64 (iAdd .i64 (iAdd .i64 (i:Int) 1) 1)] ⟨[],[],[]⟩=qOut (i+1) (quoE true (s.drop (i+1))):=by
      rw [w,w2]
      by_cases hl2:i+1 < s.length
      ·obtain ⟨c,hc⟩:=qe0 (l:=s) (i:=i+1) hl2
       rw [qbB hc]
       simp only [quoE]
       rw [qi2]
       exact ih (i+1+1) (by omega) (by omega)
      ·rw [hend (i+1+1) (by omega),List.drop_eq_nil_of_le (by omega)]
       simp [quoE,qOut]
     rw [← e1]
     have t1:iLt (i:Int) (sLen s)=true:=by simp; omega
     have t2:qaJ s (i:Int)=true:=by simp; omega
     have t3:sAt s (i:Int)=92:=by simp [hbe,hlt,hp]
     simp only [qew,t1,t2,t3]
     simp
    ·have hp':¬ ((b.toNat:Int)=92):=by omega
     rw [if_neg hp,qi2,← h1,← w]
     have t1:iLt (i:Int) (sLen s)=true:=by simp; omega
     have t2:qaJ s (i:Int)=true:=by simp; omega
     have t3:sAt s (i:Int)=b.toNat:=by simp [hbe,hlt]
     simp only [qew,t1,t2,t3]
     simp [hq',hp']
  ·rw [hend i (by omega),List.drop_eq_nil_of_le (by omega)]
   simp [quoE,qOut]
theorem qqx {c:UInt8} {t:List UInt8} (hs:(c :: t).length < 9223372036854775800):qle (c :: t)=some (.int .i64 (if quoL t=0 then 0 else ((quoL t+1:Nat):Int))):=by
 have h:=qu4 (c :: t) hs t.length 1 (by simp; omega) (by simp)
 simp only [List.drop_succ_cons,List.drop_zero] at h
 unfold qle qmY
 unfold qOut at h
 rw [show quoE false t=quoL t from rfl] at h
 by_cases h0:quoL t=0
 ·rw [if_pos h0] at h ⊢
  have h':qcE [.str (c :: t),.int .i64 1] ⟨[],[],[]⟩=some (.exit 0,[],⟨[],[],[]⟩):=h
  simp [qgl,qga,qeQ,qgy,h']
 ·rw [if_neg h0] at h ⊢
  have h':qcE [.str (c :: t),.int .i64 1] ⟨[],[],[]⟩=some (.ret,[.int .i64 ((1+quoL t:Nat):Int)],⟨[],[],[]⟩):=h
  simp [qgl,qga,qeQ,qgy,h']
  omega
theorem qEx:∀ t:List UInt8,(Lib.indexByte t 10=-1∧gapL true t=t.length)∨∃ n:Nat,Lib.indexByte t 10=n∧n < t.length∧gapL true t=n+gapL false (t.drop n)
 | []=>.inl ⟨rfl,rfl⟩
 | b :: u=>by
  by_cases hb:b=10
  ·subst hb
   refine .inr ⟨0,rfl,by simp,?_⟩
   simp [gapL,blB]
  ·have hb':(b == 10)=false:=by simpa using hb
   have hbn:b.toNat≠10:=fun h=>hb (UInt8.toNat.inj h)
   have e1:gapL true (b :: u)=gapL true u+1:=by simp [gapL,hbn]
   rcases qEx u with ⟨h1,h2⟩ | ⟨n,h1,h2,h3⟩
   ·refine .inl ⟨?_,by rw [e1,h2]; rfl⟩
    simp [Lib.indexByte,hb',h1]
   ·refine .inr ⟨n+1,?_,by simpa using h2,?_⟩
    ·have:((n:Int) == -1)=false:=by simp
     simp [Lib.indexByte,hb',h1,this]
    ·rw [e1,h3]
     simp only [List.drop_succ_cons]
     omega
theorem qDY {b:UInt8} (h:blB b=true) (t:List UInt8):gapL false (b :: t)=gapL false t+1:=by
 have:b.toNat≠37:=by
  intro e
  simp [blB,e] at h
 simp [gapL,h,this]
theorem qBT (s:List UInt8) (hs:s.length < 9223372036854775800):∀ (m i:Nat),i+m=s.length→∃ e,(e=PExit.ret∨e=.exit 0)∧qj7 [.str s,.int .i64 (i:Nat)] ⟨[],[],[]⟩=some (e,[.int .i64 ((i+gapL false (s.drop i):Nat):Int)],⟨[],[],[]⟩):=by
 intro m
 induction m using Nat.strongRecOn with
 | _ m ih =>
  intro i hi
  by_cases hlt:i < s.length
  ·obtain ⟨b,hb⟩:=qe0 (l:=s) (i:=i) hlt
   have hbe:=(List.getElem?_eq_some_iff.1 hb).2
   have w:=qbw (i:=i) (by omega)
   rw [qbB hb,qBl]
   by_cases hbl:blB b=true
   ·obtain ⟨e,he,hv⟩:=ih (m - 1) (by omega) (i+1) (by omega)
    refine ⟨e,he,?_⟩
    rw [qDY hbl]
    have hv':qj7 [.str s,.int .i64 (iAdd .i64 (i:Int) 1)] ⟨[],[],[]⟩=some (e,[.int .i64 ((i+(gapL false (s.drop (i+1))+1):Nat):Int)],⟨[],[],[]⟩):=by
     rw [w,hv,show i+1+gapL false (s.drop (i+1))=i+(gapL false (s.drop (i+1))+1) from by omega]
    rw [← hv']
    have hbl2:b.toNat=32∨b.toNat=9∨b.toNat=10∨b.toNat=13:=by simpa [blB,or_assoc] using hbl
    rcases hbl2 with h | h | h | h <;> simp [qg3,hlt,hbe,h]
   ·have hbl2:¬ (b.toNat=32∨b.toNat=9∨b.toNat=10∨b.toNat=13):=by simpa [blB,or_assoc] using hbl
    have n1:¬ ((b.toNat:Int)=32):=by omega
    have n2:¬ ((b.toNat:Int)=9):=by omega
    have n3:¬ ((b.toNat:Int)=10):=by omega
    have n4:¬ ((b.toNat:Int)=13):=by omega
    by_cases h37:b.toNat=37
    ·have e1:gapL false (b :: s.drop (i+1))=gapL true (s.drop (i+1))+1:=by simp [gapL,h37]
     have e2:sSub s (nNat (i:Int)) (nLen s)=b :: s.drop (i+1):=by
      simp only [qss,qtD,qDt,Int.toNat_natCast,List.take_length]
      exact qbB hb
     have hb10:(b == 10)=false:=by
      cases hq:b == 10 with
      | false=>rfl
      | true=>simp at hq; subst hq; simp at h37
     have e3:idxV (b :: s.drop (i+1)) 10=if Lib.indexByte (s.drop (i+1)) 10 == -1 then -1 else Lib.indexByte (s.drop (i+1)) 10+1:=by
      show Lib.indexByte (b :: s.drop (i+1)) 10=_
      simp only [Lib.indexByte,hb10,Bool.false_eq_true,if_false]
     rw [e1]
     rcases qEx (s.drop (i+1)) with ⟨h1,h2⟩ | ⟨n,h1,h2,h3⟩
     ·refine ⟨.ret,.inl rfl,?_⟩
      have e4:idxV (b :: s.drop (i+1)) 10=-1:=by rw [e3,h1]; rfl
      have e5:i+(gapL true (s.drop (i+1))+1)=s.length:=by rw [h2]; simp; omega
      rw [e5]
      have t1:iLt (i:Int) (sLen s)=true:=by simp; omega
      have t2:qaJ s (i:Int)=true:=by simp; omega
      have t3:sAt s (i:Int)=37:=by simp [hbe,hlt,h37]
      have t4:qaI (qaw (i:Int)) true (nNat (i:Int)) (nLen s) (nLen s)=true:=by simp; omega
      simp only [qg3,e2,e4,t1,t2,t3,t4]
      simp
     ·have e4:idxV (b :: s.drop (i+1)) 10=((n+1:Nat):Int):=by
       rw [e3,h1]
       have:((n:Int) == -1)=false:=by simp
       rw [this]
       simp
      have hn:n < s.length - (i+1):=by simpa using h2
      obtain ⟨e,he,hv⟩:=ih (m - (n+1)) (by omega) (i+(n+1)) (by omega)
      refine ⟨e,he,?_⟩
      have w2:iAdd .i64 (i:Int) ((n+1:Nat):Int)=((i+(n+1):Nat):Int):=qbo (by omega)
      have e6:i+(n+1)+gapL false (s.drop (i+(n+1)))=i+(gapL true (s.drop (i+1))+1):=by
       rw [h3,List.drop_drop,show i+1+n=i+(n+1) from by omega]
       omega
      rw [e6] at hv
      have hge:¬ ((n+1:Nat):Int) < 0:=by omega
      have t1:iLt (i:Int) (sLen s)=true:=by simp; omega
      have t2:qaJ s (i:Int)=true:=by simp; omega
      have t3:sAt s (i:Int)=37:=by simp [hbe,hlt,h37]
      have t5:iLt ((n+1:Nat):Int) 0=false:=by simp; omega
      have t4:qaI (qaw (i:Int)) true (nNat (i:Int)) (nLen s) (nLen s)=true:=by simp; omega
      simp only [qg3,e2,e4,w2,t1,t2,t3,t4,t5]
      simpa using hv
    ·refine ⟨.ret,.inl rfl,?_⟩
     have n5:¬ ((b.toNat:Int)=37):=by omega
     have e1:gapL false (b :: s.drop (i+1))=0:=by
      have:blB b=false:=by simpa using hbl
      simp [gapL,this,h37]
     rw [e1]
     simp [qg3,hlt,hbe,n1,n2,n3,n4,n5]
  ·refine ⟨.exit 0,.inr rfl,?_⟩
   rw [qBl,List.drop_eq_nil_of_le (by omega)]
   have:¬ (i:Int) < s.length:=by omega
   simp [qg3,gapL,this]
theorem qzy {s:List UInt8} (hs:s.length < 9223372036854775800):qzP s=some (.int .i64 (gapL false s:Nat)):=by
 obtain ⟨e,he,h⟩:=qBT s hs s.length 0 (by omega)
 simp at h
 unfold qzP qxi
 rcases he with rfl | rfl <;> simp [qpK,qpQ,qlH,qha,qpB,h]
theorem qDA {s:List UInt8} (hs:s.length < 9223372036854775800):qfc s=true:=by simp [qfc,qbb,qzy hs]
theorem qHV {s:List UInt8} (hs:s.length < 9223372036854775800):qbb s=(gapL false s:Nat):=by simp [qbb,qzy hs]
theorem quS {s:List UInt8} (hs:s.length < 9223372036854775807) (k:Int):qgt s k=some (.tup [.agg [.int .i64 k,.str (s.take (runL innB s)),.int .i64 0,.int .i64 0,.str [],.int .i64 0],.bool (decide (runL innB s≤64))]):=by
 unfold qgt qub
 have h:=qky innB s
 have e:iLe (runL innB s:Nat) 64=decide (runL innB s≤64):=by simp; omega
 rw [qK1 hs,qI3 hs,e]
 have t:qaI true (qaw ((runL innB s:Nat):Int)) 0 (nNat ((runL innB s:Nat):Int)) (nLen s)=true:=by simp; omega
 rw [t]
 simp
theorem qzr {s:List UInt8} (hs:s.length < 9223372036854775807) (k:Int):qdV s k=true:=by simp [qdV,qfK,qfH,qd1,qd7,qdS,qd0,qfE,quS hs]
def wTup (k:Int) (x:List UInt8) (v:Vl) (p:Int) (b:Bool):PV:=.tup [.agg [.int .i64 k,.str x,.int .i64 v.1,.int .i64 v.2.1,.str v.2.2,.int .i64 p],.bool b]
theorem qDw {s:List UInt8} (hs:s.length < 9223372036854775807) (k:Int):(PV.tup [.agg [.int .i64 (qfK s k),.str (qfH s k),.int .i64 (qd1 s k),.int .i64 (qd7 s k),.str (qdS s k),.int .i64 (qd0 s k)],.bool (qfE s k)])=wTup k (s.take (runL innB s)) (0,0,[]) 0 (decide (runL innB s≤64)):=by
 simp [wTup,qfK,qfH,qd1,qd7,qdS,qd0,qfE,quS hs]
theorem qpX {s:List UInt8} (hs:s.length≤140737488355328) (k:Int):qdw s k=some (wTup k s (kRd s,nRd s,sRd s) 0 (decide (eRd s=0))):=by
 unfold qdw qmH wTup
 simp [hs]
theorem qmw {s:List UInt8} (hs:s.length≤140737488355328) (k:Int):qaB s k=true:=by simp [qaB,qaL,qaM,qaD,qaF,qaE,qaH,qaK,qpX hs,wTup]
theorem qvL {s:List UInt8} (hs:s.length≤140737488355328) (k:Int):(PV.tup [.agg [.int .i64 (qaL s k),.str (qaM s k),.int .i64 (qaD s k),.int .i64 (qaF s k),.str (qaE s k),.int .i64 (qaH s k)],.bool (qaK s k)])=wTup k s (kRd s,nRd s,sRd s) 0 (decide (eRd s=0)):=by
 simp [wTup,qaL,qaM,qaD,qaF,qaE,qaH,qaK,qpX hs]
theorem qCL (c:UInt8) (t:List UInt8) (a b:UInt8):qd2 (c :: t) [a,b]=(decide (c=a) && hdIs (fun d=>decide (d=b)) t):=by
 unfold qd2
 cases t with
 | nil=>simp [hdIs]
 | cons d u=>simp [hdIs,Bool.decide_and]
def wst:Store:=⟨[[.int .i64 0,.str [],.int .i64 0,.int .i64 0,.str [],.int .i64 0]],[],[120]⟩
theorem qLz (c:UInt8) (t:List UInt8):hdIs (twoB c) t=(qd2 (c :: t) [58,45] || qd2 (c :: t) [60,61] || qd2 (c :: t) [62,61] || qd2 (c :: t) [33,61]):=by
 simp only [qCL]
 cases t with
 | nil=>simp [hdIs]
 | cons d u =>
  simp only [hdIs,twoB]
  simp only [← UInt8.toNat_inj]
  simp [Bool.decide_and]
theorem qja {s p:List UInt8} (h:qd2 s p=true) (hp:p.length=2):s.take 2=p:=by
 simp [qd2] at h
 rw [← hp]
 exact h.2
theorem qxy (c:UInt8) (t:List UInt8) (n:Int):qi9 [.str (c :: t),.ptr 0 0,.int .u8 n,.agg [.str [58,45],.str [60,61],.str [62,61],.str [33,61]],.int .i64 0] wst =
  if hdIs (twoB c) t then some (.ret,[.ptr 0 0,.bool true],⟨[[.int .i64 6,.str ((c :: t).take 2),.int .i64 0,.int .i64 0,.str [],.int .i64 0]],[],[120]⟩)
  else some (.exit 1,[.str (c :: t),.ptr 0 0,.int .u8 n],wst):=by
 have i1:iAdd .i64 0 1=1:=by decide
 have i2:iAdd .i64 1 1=2:=by decide
 have i3:iAdd .i64 2 1=3:=by decide
 have i4:iAdd .i64 3 1=4:=by decide
 unfold wst
 rw [qLz]
 rw [qlo]
 cases h1:qd2 (c :: t) [58,45] with
 | true=>have q:=qja h1 rfl; simp [qb7,h1]; simpa using q.symm
 | false =>
  have e1:(qb7 (c :: t) n [58,45] [60,61] [62,61] [33,61] 0 0 [] 0 0 [] 0).run=some (.next [.str (c :: t),.ptr 0 0,.int .u8 n,.agg [.str [58,45],.str [60,61],.str [62,61],.str [33,61]],.int .i64 1] ⟨[[.int .i64 0,.str [],.int .i64 0,.int .i64 0,.str [],.int .i64 0]],[],[120]⟩):=by simp [qb7,h1,i1]
  rw [e1,qju,qlo]
  cases h2:qd2 (c :: t) [60,61] with
  | true=>have q:=qja h2 rfl; simp [qb7,h2]; simpa using q.symm
  | false =>
   have e2:(qb7 (c :: t) n [58,45] [60,61] [62,61] [33,61] 1 0 [] 0 0 [] 0).run=some (.next [.str (c :: t),.ptr 0 0,.int .u8 n,.agg [.str [58,45],.str [60,61],.str [62,61],.str [33,61]],.int .i64 2] ⟨[[.int .i64 0,.str [],.int .i64 0,.int .i64 0,.str [],.int .i64 0]],[],[120]⟩):=by simp [qb7,h2,i2]
   rw [e2,qju,qlo]
   cases h3:qd2 (c :: t) [62,61] with
   | true=>have q:=qja h3 rfl; simp [qb7,h3]; simpa using q.symm
   | false =>
    have e3:(qb7 (c :: t) n [58,45] [60,61] [62,61] [33,61] 2 0 [] 0 0 [] 0).run=some (.next [.str (c :: t),.ptr 0 0,.int .u8 n,.agg [.str [58,45],.str [60,61],.str [62,61],.str [33,61]],.int .i64 3] ⟨[[.int .i64 0,.str [],.int .i64 0,.int .i64 0,.str [],.int .i64 0]],[],[120]⟩):=by simp [qb7,h3,i3]
    rw [e3,qju,qlo]
    cases h4:qd2 (c :: t) [33,61] with
    | true=>have q:=qja h4 rfl; simp [qb7,h4]; simpa using q.symm
    | false =>
     have e4:(qb7 (c :: t) n [58,45] [60,61] [62,61] [33,61] 3 0 [] 0 0 [] 0).run=some (.next [.str (c :: t),.ptr 0 0,.int .u8 n,.agg [.str [58,45],.str [60,61],.str [62,61],.str [33,61]],.int .i64 4] ⟨[[.int .i64 0,.str [],.int .i64 0,.int .i64 0,.str [],.int .i64 0]],[],[120]⟩):=by simp [qb7,h4,i4]
     rw [e4,qju,qlo]
     simp [qb7]
theorem qDj (c:UInt8):∀ l:List UInt8,0≤Lib.indexByte l c↔c ∈ l
 | []=>by simp [Lib.indexByte]
 | b :: l=>by
  have h1:=qDj c l
  have h2:=Lib.indexByte_ge l c
  unfold Lib.indexByte
  by_cases hb:b=c
  ·subst hb; simp
  ·have hb':(b == c)=false:=by simpa using hb
   have hc:¬ c=b:=fun e=>hb e.symm
   rw [hb']
   by_cases h3:Lib.indexByte l c=-1
   ·have:¬ c ∈ l:=fun hm=>by have:=h1.2 hm; omega
    simp [h3,hc,this]
   ·have:c ∈ l:=h1.1 (by omega)
    simp [h3,this]
    omega
theorem qGj (c:UInt8):iLe 0 (idxV [40,41,44,46,43,45,61,58,60,62] (c.toNat:Int))=qhb c:=by
 have e:idxV [40,41,44,46,43,45,61,58,60,62] (c.toNat:Int)=Lib.indexByte [40,41,44,46,43,45,61,58,60,62] c:=by
  unfold idxV
  congr 1
  simp
 rw [qFD]
 have h:=qDj c [40,41,44,46,43,45,61,58,60,62]
 have h':decide (0≤Lib.indexByte [40,41,44,46,43,45,61,58,60,62] c)=decide (c ∈ [40,41,44,46,43,45,61,58,60,62]):=decide_eq_decide.2 h
 rw [e,h']
 simp only [List.mem_cons,List.not_mem_nil,or_false,← UInt8.toNat_inj,qhb,List.contains,List.elem_eq_mem]
 simp
theorem qwL {c:UInt8} {t:List UInt8} (hs:(c :: t).length≤140737488355328) (h:qeb c=true):qb1 (c :: t)=some (wTup 1 ((c :: t).take (runL innB (c :: t))) (0,0,[]) 0 (decide (runL innB (c :: t)≤64))):=by
 have hs':(c :: t).length < 9223372036854775807:=by omega
 have h1:97≤c.toNat∧c.toNat≤122:=by simpa [qeb] using h
 have g1:(97:Int)≤c.toNat:=by omega
 have g2:(c.toNat:Int)≤122:=by omega
 rw [← qDw hs']
 unfold qb1 qfa
 cases t <;> simp [g1,g2,qzr hs']
theorem qwm {c:UInt8} {t:List UInt8} (hs:(c :: t).length≤140737488355328) (h:qfD c=true):qb1 (c :: t)=some (wTup 2 ((c :: t).take (runL innB (c :: t))) (0,0,[]) 0 (decide (runL innB (c :: t)≤64))):=by
 have hs':(c :: t).length < 9223372036854775807:=by omega
 have h1:65≤c.toNat∧c.toNat≤90:=by simpa [qfD] using h
 have g1:¬ (97:Int)≤c.toNat:=by omega
 have g2:(65:Int)≤c.toNat:=by omega
 have g3:(c.toNat:Int)≤90:=by omega
 rw [← qDw hs']
 unfold qb1 qfa
 cases t <;> simp [g1,g2,g3,qzr hs']
theorem qCM {c:UInt8} {t:List UInt8} (hs:(c :: t).length≤140737488355328) (h:c.toNat=95):qb1 (c :: t)=some (wTup 3 [95] (0,0,[]) 0 (!hdIs innB t)):=by
 unfold qb1 qfa
 cases t with
 | nil =>
  have e:inI 0=false:=by decide
  simp [h,hdIs,wTup,e]
 | cons d u =>
  have g:iLt 1 (sLen (c :: d :: u))=true:=by simp; omega
  rw [g]
  simp [h,hdIs,ql1,wTup]
def dgW (s:List UInt8):PV:=wTup 4 (s.take (runL qaN (s.drop 1)+1)) (kRd (s.take (runL qaN (s.drop 1)+1)),nRd (s.take (runL qaN (s.drop 1)+1)),sRd (s.take (runL qaN (s.drop 1)+1))) 0 (decide (eRd (s.take (runL qaN (s.drop 1)+1))=0))
theorem qCZ {c : UInt8} {t : List UInt8} (hs : (c :: t).length ≤ 140737488355328) : (Tr.ite (qaI (qaw 1) true (nNat 1) (nLen (c :: t)) (nLen (c :: t)))
          (Tr.ite (qbG (sSub (c :: t) (nNat 1) (nLen (c :: t))))
            (Tr.ite (qaI true (qaw (iAdd .i64 1 (qaf (sSub (c :: t) (nNat 1) (nLen (c :: t)))))) 0 (nNat (iAdd .i64 1 (qaf (sSub (c :: t) (nNat 1) (nLen (c :: t)))))) (nLen (c :: t)))
              (Tr.ite (qaB (sSub (c :: t) 0 (nNat (iAdd .i64 1 (qaf (sSub (c :: t) (nNat 1) (nLen (c :: t))))))) 4)
                (Tr.ret (PV.tup [PV.agg [PV.int .i64 (qaL (sSub (c :: t) 0 (nNat (iAdd .i64 1 (qaf (sSub (c :: t) (nNat 1) (nLen (c :: t))))))) 4), PV.str (qaM (sSub (c :: t) 0 (nNat (iAdd .i64 1 (qaf (sSub (c :: t) (nNat 1) (nLen (c :: t))))))) 4), PV.int .i64 (qaD (sSub (c :: t) 0 (nNat (iAdd .i64 1 (qaf (sSub (c :: t) (nNat 1) (nLen (c :: t))))))) 4), PV.int .i64 (qaF (sSub (c :: t) 0 (nNat (iAdd .i64 1 (qaf (sSub (c :: t) (nNat 1) (nLen (c :: t))))))) 4), PV.str (qaE (sSub (c :: t) 0 (nNat (iAdd .i64 1 (qaf (sSub (c :: t) (nNat 1) (nLen (c :: t))))))) 4), PV.int .i64 (qaH (sSub (c :: t) 0 (nNat (iAdd .i64 1 (qaf (sSub (c :: t) (nNat 1) (nLen (c :: t))))))) 4)], PV.bool (qaK (sSub (c :: t) 0 (nNat (iAdd .i64 1 (qaf (sSub (c :: t) (nNat 1) (nLen (c :: t))))))) 4)]))
                Tr.fail) Tr.fail) Tr.fail) Tr.fail).run = some (dgW (c :: t)) := by
  have e0 : sSub (c :: t) (nNat 1) (nLen (c :: t)) = t := by simp
  have hl : t.length + 1 ≤ 140737488355328 := by simpa using hs
  have hr := qky qaN t
  rw [e0, qFH (by omega), qJj (by omega)]
  have e1 : iAdd .i64 1 ((runL qaN t : Nat) : Int) = ((runL qaN t + 1 : Nat) : Int) := by
    have : iAdd .i64 1 ((runL qaN t : Nat) : Int) = (1 : Int) + (runL qaN t : Nat) := qbo (by omega)
    rw [this]; omega
  rw [e1]
  have e2 : sSub (c :: t) 0 (nNat ((runL qaN t + 1 : Nat) : Int)) = (c :: t).take (runL qaN t + 1) := by simp [-List.take_succ_cons]
  rw [e2]
  have hl2 : ((c :: t).take (runL qaN t + 1)).length ≤ 140737488355328 := by rw [List.length_take]; omega
  have t1 : qaI (qaw 1) true (nNat 1) (nLen (c :: t)) (nLen (c :: t)) = true := by simp
  have t2 : qaI true (qaw ((runL qaN t + 1 : Nat) : Int)) 0 (nNat ((runL qaN t + 1 : Nat) : Int)) (nLen (c :: t)) = true := by simp; omega
  rw [t1, t2, qmw hl2, qvL hl2]
  rfl
theorem qGk {c:UInt8} {t:List UInt8} (hs:(c :: t).length≤140737488355328) (h:qaN c=true):qb1 (c :: t)=some (dgW (c :: t)):=by
 have h1:48≤c.toNat∧c.toNat≤57:=by simpa [qaN] using h
 have f0:qaJ (c :: t) 0=true:=by simp
 have f1:iLe 97 (sAt (c :: t) 0)=false:=by simp; omega
 have f3:iLe 65 (sAt (c :: t) 0)=false:=by simp; omega
 have f5:iEq (sAt (c :: t) 0) 95=false:=by simp; omega
 have f6:qbd (sAt (c :: t) 0)=true:=by simp [qec,h]
 rw [← qCZ hs]
 unfold qb1 qfa
 cases t with
 | nil =>
  have g:iLt 1 (sLen [c])=false:=by simp
  rw [f0,g,f1,f3,f5,f6,qdT]
  rfl
 | cons d u =>
  have g:iLt 1 (sLen (c :: d :: u))=true:=by simp; omega
  have g2:qaJ (c :: d :: u) 1=true:=by simp
  rw [f0,g,g2,f1,f3,f5,f6,qdT]
  rfl
theorem qE7 {c d:UInt8} {u:List UInt8} (hs:(c :: d :: u).length≤140737488355328) (h:c.toNat=45) (hd:qaN d=true):qb1 (c :: d :: u)=some (dgW (c :: d :: u)):=by
 have f0:qaJ (c :: d :: u) 0=true:=by simp
 have f1:iLe 97 (sAt (c :: d :: u) 0)=false:=by simp; omega
 have f3:iLe 65 (sAt (c :: d :: u) 0)=false:=by simp; omega
 have f5:iEq (sAt (c :: d :: u) 0) 95=false:=by simp; omega
 have f6:qbd (sAt (c :: d :: u) 0)=false:=by simp [dgI,h]
 have f7:iEq (sAt (c :: d :: u) 0) 45=true:=by simp; omega
 have f8:qbd (sAt (c :: d :: u) 1)=true:=by simp [qec,hd]
 rw [← qCZ hs]
 unfold qb1 qfa
 have g:iLt 1 (sLen (c :: d :: u))=true:=by simp; omega
 have g2:qaJ (c :: d :: u) 1=true:=by simp
 rw [f0,g,g2,f1,f3,f5,f6,f7,f8,qdT,qdT]
 rfl
def symN (t:List UInt8):Nat:=if quoL t=0 then 0 else quoL t+1
def syW (s:List UInt8) (n:Nat):PV:=wTup 5 (s.take n) (kRd (s.take n),nRd (s.take n),sRd (s.take n)) 0 (decide (eRd (s.take n)=0))
theorem qCb {c:UInt8} {t:List UInt8} (hs:(c :: t).length≤140737488355328) (h:c.toNat=34):qb1 (c :: t)=some (syW (c :: t) (symN t)):=by
 have hq:qab (c :: t)=((symN t:Nat):Int):=by
  simp only [qab,qqx (c:=c) (t:=t) (by omega),qB2,qFV,symN]
  split <;> simp
 have hqi:qbn (c :: t)=true:=by
  simp only [qbn,qGZ,qqx (c:=c) (t:=t) (by omega),hq,symN]
  split <;> simp
 have hle:symN t≤(c :: t).length:=by
  have:=qxM t
  unfold symN
  split <;> simp <;> omega
 have hl2:((c :: t).take (symN t)).length≤140737488355328:=by rw [List.length_take]; omega
 have f0:qaJ (c :: t) 0=true:=by simp
 have f1:iLe 97 (sAt (c :: t) 0)=false:=by simp; omega
 have f3:iLe 65 (sAt (c :: t) 0)=false:=by simp; omega
 have f5:iEq (sAt (c :: t) 0) 95=false:=by simp; omega
 have f6:qbd (sAt (c :: t) 0)=false:=by simp [dgI,h]
 have f7:iEq (sAt (c :: t) 0) 45=false:=by simp; omega
 have f9:iEq (sAt (c :: t) 0) 34=true:=by simp; omega
 have e2:sSub (c :: t) 0 (nNat ((symN t:Nat):Int))=(c :: t).take (symN t):=by simp
 have t2:qaI true (qaw ((symN t:Nat):Int)) 0 (nNat ((symN t:Nat):Int)) (nLen (c :: t))=true:=by simp at hle ⊢; omega
 have leaf:(PV.tup [PV.agg [PV.int .i64 (qaL ((c :: t).take (symN t)) 5),PV.str (qaM ((c :: t).take (symN t)) 5),PV.int .i64 (qaD ((c :: t).take (symN t)) 5),PV.int .i64 (qaF ((c :: t).take (symN t)) 5),PV.str (qaE ((c :: t).take (symN t)) 5),PV.int .i64 (qaH ((c :: t).take (symN t)) 5)],PV.bool (qaK ((c :: t).take (symN t)) 5)])=syW (c :: t) (symN t):=by rw [qvL hl2]; rfl
 rw [← leaf]
 unfold qb1 qfa
 cases t with
 | nil =>
  have g:iLt 1 (sLen [c])=false:=by simp
  rw [f0,g,f1,f3,f5,f6,f7,f9,qdT,hqi,hq,t2,e2,qmw hl2]
  rfl
 | cons d u =>
  have g:iLt 1 (sLen (c :: d :: u))=true:=by simp; omega
  have g2:qaJ (c :: d :: u) 1=true:=by simp
  rw [f0,g,g2,f1,f3,f5,f6,f7,f9,qdT,hqi,hq,t2,e2,qmw hl2]
  rfl
def mkW (c:UInt8) (t:List UInt8):PV:=if hdIs (twoB c) t then wTup 6 ((c :: t).take 2) (0,0,[]) 0 true else wTup 6 [c] (0,0,[]) 0 (qhb c)
noncomputable def mkT (v:List UInt8):Tr PV:=(Tr.ite (qbe v (sAt v 0) [58,45] [60,61] [62,61] [33,61] 0 0 [] 0 0 [] 0)
 (Tr.ret (PV.tup [PV.agg [PV.int .i64 (qbr v (sAt v 0) [58,45] [60,61] [62,61] [33,61] 0 0 [] 0 0 [] 0),PV.str (qbp v (sAt v 0) [58,45] [60,61] [62,61] [33,61] 0 0 [] 0 0 [] 0),PV.int .i64 (qa9 v (sAt v 0) [58,45] [60,61] [62,61] [33,61] 0 0 [] 0 0 [] 0),PV.int .i64 (qa8 v (sAt v 0) [58,45] [60,61] [62,61] [33,61] 0 0 [] 0 0 [] 0),PV.str (qa6 v (sAt v 0) [58,45] [60,61] [62,61] [33,61] 0 0 [] 0 0 [] 0),PV.int .i64 (qa7 v (sAt v 0) [58,45] [60,61] [62,61] [33,61] 0 0 [] 0 0 [] 0)],PV.bool (qbq v (sAt v 0) [58,45] [60,61] [62,61] [33,61] 0 0 [] 0 0 [] 0)]))
 (Tr.ite (qbu v (sAt v 0) [58,45] [60,61] [62,61] [33,61] 0 0 [] 0 0 [] 0)
  (Tr.ite (qaI true (qaw 1) 0 (nNat 1) (nLen (qaG v (sAt v 0) [58,45] [60,61] [62,61] [33,61] 0 0 [] 0 0 [] 0)))
   (Tr.ret (PV.tup [PV.agg [PV.int .i64 6,PV.str (sSub (qaG v (sAt v 0) [58,45] [60,61] [62,61] [33,61] 0 0 [] 0 0 [] 0) 0 (nNat 1)),PV.int .i64 0,PV.int .i64 0,PV.str [],PV.int .i64 0],PV.bool (iLe 0 (idxV [40,41,44,46,43,45,61,58,60,62] (qbm v (sAt v 0) [58,45] [60,61] [62,61] [33,61] 0 0 [] 0 0 [] 0)))]))
   Tr.fail)
  Tr.fail))
theorem qKu (c:UInt8) (t:List UInt8):(mkT (c :: t)).run=some (mkW c t):=by
 have hL:=qxy c t (sAt (c :: t) 0)
 unfold wst at hL
 have e2:sSub (c :: t) 0 (nNat 1)=[c]:=by simp
 have t2:qaI true (qaw 1) 0 (nNat 1) (nLen (c :: t))=true:=by simp
 have e3:sAt (c :: t) 0=(c.toNat:Int):=by simp
 have ho:=qGj c
 unfold mkT mkW
 cases h:hdIs (twoB c) t with
 | true =>
  rw [h] at hL
  simp only [if_true] at hL ⊢
  have a1:qbe (c :: t) (sAt (c :: t) 0) [58,45] [60,61] [62,61] [33,61] 0 0 [] 0 0 [] 0=true:=by
   simp only [qbe,qbr,qbp,qa9,qa8,qa6,qa7,qbq,qbO,hL]
   simp
  rw [a1]
  simp only [qbr,qbp,qa9,qa8,qa6,qa7,qbq,qbO,hL]
  simp [wTup]
 | false =>
  rw [h] at hL
  simp only [Bool.false_eq_true,if_false] at hL ⊢
  have a0:qbe (c :: t) (sAt (c :: t) 0) [58,45] [60,61] [62,61] [33,61] 0 0 [] 0 0 [] 0=false:=by
   cases hq:qbe (c :: t) (sAt (c :: t) 0) [58,45] [60,61] [62,61] [33,61] 0 0 [] 0 0 [] 0 with
   | false=>rfl
   | true =>
    simp only [qbe,qbO,hL] at hq
    simp at hq
  have a1:qbu (c :: t) (sAt (c :: t) 0) [58,45] [60,61] [62,61] [33,61] 0 0 [] 0 0 [] 0=true:=by
   simp only [qbu,qaG,qbm,qke,qj8,qkd,qkK,qj4,qkv,qbO,hL]
   simp
  have a2:qaG (c :: t) (sAt (c :: t) 0) [58,45] [60,61] [62,61] [33,61] 0 0 [] 0 0 [] 0=c :: t:=by
   simp only [qaG,qbO,hL]
   simp
  have a3:qbm (c :: t) (sAt (c :: t) 0) [58,45] [60,61] [62,61] [33,61] 0 0 [] 0 0 [] 0=(c.toNat:Int):=by
   simp only [qbm,qbO,hL]
   simp
  rw [a0,a1,a2,a3,t2,e2,ho]
  rfl
theorem qAM {c:UInt8} {t:List UInt8} (hs:(c :: t).length≤140737488355328) (h1:qeb c=false) (h2:qfD c=false) (h3:c.toNat≠95) (h4:qaN c=false) (h5:c.toNat=45→hdIs qaN t=false) (h6:c.toNat≠34):qb1 (c :: t)=some (mkW c t):=by
 have f0:qaJ (c :: t) 0=true:=by simp
 have f5:iEq (sAt (c :: t) 0) 95=false:=by simp; omega
 have f6:qbd (sAt (c :: t) 0)=false:=by simp [qec,h4]
 have f9:iEq (sAt (c :: t) 0) 34=false:=by simp; omega
 have g1:¬ (97≤c.toNat∧c.toNat≤122):=by simpa [qeb] using h1
 have g2:¬ (65≤c.toNat∧c.toNat≤90):=by simpa [qfD] using h2
 rw [← qKu]
 unfold qb1 qfa
 have f8:c.toNat=45→qbd (if iLt 1 (sLen (c :: t))=true then sAt (c :: t) 1 else 0)=false:=fun h=>by
  have:=h5 h
  cases t with
  | nil=>simp [dgI]
  | cons d u =>
   have g:iLt 1 (sLen (c :: d :: u))=true:=by simp; omega
   rw [if_pos g]
   simpa [qec,hdIs] using this
 have e97:iLe 97 (sAt (c :: t) 0)=decide (97≤c.toNat):=by simp; omega
 have e122:iLe (sAt (c :: t) 0) 122=decide (c.toNat≤122):=by simp; omega
 have e65:iLe 65 (sAt (c :: t) 0)=decide (65≤c.toNat):=by simp; omega
 have e90:iLe (sAt (c :: t) 0) 90=decide (c.toNat≤90):=by simp; omega
 have e45:iEq (sAt (c :: t) 0) 45=decide (c.toNat=45):=by simp; omega
 rw [f0,e97,e122,e65,e90,e45,f5,f6,f9,qdT]
 have key:∀ b:Bool,iLt 1 (sLen (c :: t))=b→(b=true→qaJ (c :: t) 1=true)→True:=fun _ _ _=>trivial
 by_cases k1:97≤c.toNat
 ·have k2:¬ c.toNat≤122:=fun h=>g1 ⟨k1,h⟩
  have k3:65≤c.toNat:=by omega
  have k4:¬ c.toNat≤90:=by omega
  have k5:¬ c.toNat=45:=by omega
  rw [decide_eq_true k1,decide_eq_false k2,decide_eq_true k3,decide_eq_false k4,decide_eq_false k5]
  cases t with
  | nil =>
   have g:iLt 1 (sLen [c])=false:=by simp
   rw [g]
   rfl
  | cons d u =>
   have g:iLt 1 (sLen (c :: d :: u))=true:=by simp; omega
   have g2:qaJ (c :: d :: u) 1=true:=by simp
   rw [g,g2]
   rfl
 ·by_cases k3:65≤c.toNat
  ·have k4:¬ c.toNat≤90:=fun h=>g2 ⟨k3,h⟩
   have k5:¬ c.toNat=45:=by omega
   rw [decide_eq_false k1,decide_eq_true k3,decide_eq_false k4,decide_eq_false k5]
   cases t with
   | nil =>
    have g:iLt 1 (sLen [c])=false:=by simp
    rw [g]
    rfl
   | cons d u =>
    have g:iLt 1 (sLen (c :: d :: u))=true:=by simp; omega
    have g2:qaJ (c :: d :: u) 1=true:=by simp
    rw [g,g2]
    rfl
  ·by_cases k5:c.toNat=45
   ·rw [decide_eq_false k1,decide_eq_false k3,decide_eq_true k5]
    cases t with
    | nil =>
     have g:iLt 1 (sLen [c])=false:=by simp
     have f8':qbd 0=false:=by simp [dgI]
     rw [g,f8',qdT 0]
     rfl
    | cons d u =>
     have g:iLt 1 (sLen (c :: d :: u))=true:=by simp; omega
     have g2:qaJ (c :: d :: u) 1=true:=by simp
     have f8':=f8 k5
     rw [if_pos g] at f8'
     rw [g,g2,f8',qdT (sAt (c :: d :: u) 1)]
     rfl
   ·rw [decide_eq_false k1,decide_eq_false k3,decide_eq_false k5]
    cases t with
    | nil =>
     have g:iLt 1 (sLen [c])=false:=by simp
     rw [g]
     rfl
    | cons d u =>
     have g:iLt 1 (sLen (c :: d :: u))=true:=by simp; omega
     have g2:qaJ (c :: d :: u) 1=true:=by simp
     rw [g,g2]
     rfl
end Go.Pv
set_option maxHeartbeats 4000000
set_option maxRecDepth 200000
set_option linter.unusedSimpArgs false
set_option linter.unusedVariables false
namespace Go.Pv
open Go Go.Proofs
noncomputable def qtO:GamT:=ofL []
theorem qAB (gl:Gl):qaR Tryz.prog gl (gam qtO):=qag
noncomputable def qzn:LpsT:=fun r fr σ=>.fail
noncomputable def qq8 (c:Int):Tr PV:=.ite (iLe 97 c) (.ret (.bool (iLe c 122))) (.ret (.bool false))
theorem qGG (c:Int):(tcall tbT qtO qzn Tryz.f93 [.int .u8 c]).flat=qq8 c:=by kernel_rfl
noncomputable def qnO (c:Int):Option PV:=(qq8 c).run
noncomputable def qgU (c:Int):Bool:=(qb4 (gVal (qnO c)))
noncomputable def qgE (c:Int):Bool:=isW (qnO c) (.bool (qgU c))
noncomputable def qos:List PV→Tr PV | [.int .u8 c]=>.ite (qgE c) (.ret (.bool (qgU c))) (.fail) | _=>.fail
theorem qrU (gl:Gl):SimP Tryz.prog gl 93 fun args=>(qos args).run:=by
 refine SimP.of_flat (G:=qtO) (L:=qzn) qav (qAB gl ) qah  Tryz.func93 rfl (by rfl) (by kernel_rfl) (qae (by kernel_rfl)) ?_
 intro args x h
 unfold qos at h
 split at h
 ·exact (congrArg Tr.run (qGG _)).trans (qai h fun h=>by cases h)
 ·cases h
noncomputable def qtz:GamT:=ofL []
theorem qAl (gl:Gl):qaR Tryz.prog gl (gam qtz):=qag
noncomputable def qyu:LpsT:=fun r fr σ=>.fail
noncomputable def qpP (c:Int):Tr PV:=.ite (iLe 65 c) (.ret (.bool (iLe c 90))) (.ret (.bool false))
theorem qGM (c:Int):(tcall tbT qtz qyu Tryz.f94 [.int .u8 c]).flat=qpP c:=by kernel_rfl
noncomputable def qn8 (c:Int):Option PV:=(qpP c).run
noncomputable def qfd (c:Int):Bool:=(qb4 (gVal (qn8 c)))
noncomputable def qeD (c:Int):Bool:=isW (qn8 c) (.bool (qfd c))
noncomputable def qnR:List PV→Tr PV | [.int .u8 c]=>.ite (qeD c) (.ret (.bool (qfd c))) (.fail) | _=>.fail
theorem qsb (gl:Gl):SimP Tryz.prog gl 94 fun args=>(qnR args).run:=by
 refine SimP.of_flat (G:=qtz) (L:=qyu) qav (qAl gl ) qah  Tryz.func94 rfl (by rfl) (by kernel_rfl) (qae (by kernel_rfl)) ?_
 intro args x h
 unfold qnR at h
 split at h
 ·exact (congrArg Tr.run (qGM _)).trans (qai h fun h=>by cases h)
 ·cases h
noncomputable def quj:GamT:=ofL []
theorem qBb (gl:Gl):qaR Tryz.prog gl (gam quj):=qag
noncomputable def qyF:LpsT:=fun r fr σ=>.fail
noncomputable def qo4 (c:Int):Tr PV:=.ite (iLe 48 c) (.ret (.bool (iLe c 57))) (.ret (.bool false))
theorem qGA (c:Int):(tcall tbT quj qyF Tryz.f96 [.int .u8 c]).flat=qo4 c:=by kernel_rfl
noncomputable def qot (c:Int):Option PV:=(qo4 c).run
noncomputable def qe4 (c:Int):Bool:=(qb4 (gVal (qot c)))
noncomputable def qeu (c:Int):Bool:=isW (qot c) (.bool (qe4 c))
noncomputable def qlO:List PV→Tr PV | [.int .u8 c]=>.ite (qeu c) (.ret (.bool (qe4 c))) (.fail) | _=>.fail
theorem qni (gl:Gl):SimP Tryz.prog gl 96 fun args=>(qlO args).run:=by
 refine SimP.of_flat (G:=quj) (L:=qyF) qav (qBb gl ) qah  Tryz.func96 rfl (by rfl) (by kernel_rfl) (qae (by kernel_rfl)) ?_
 intro args x h
 unfold qlO at h
 split at h
 ·exact (congrArg Tr.run (qGA _)).trans (qai h fun h=>by cases h)
 ·cases h
noncomputable def qut:GamT:=ofL [(93,.pure qos),(94,.pure qnR),(96,.pure qlO)]
theorem qA2 (gl:Gl):qaR Tryz.prog gl (gam qut):=(qac (qrU gl) (qac (qsb gl) (qac (qni gl) qag)))
noncomputable def qy7:LpsT:=fun r fr σ=>.fail
noncomputable def qps (c:Int):Tr PV:=.ite (qgE c) (.ite (qgU c) (.ret (.bool true)) (.ite (qeD c) (.ite (qfd c) (.ret (.bool true)) (.ite (qeu c) (.ite (qe4 c) (.ret (.bool true)) (.ret (.bool (iEq c 95)))) .fail)) .fail)) .fail
theorem qGa (c:Int):(tcall tbT qut qy7 Tryz.f122 [.int .u8 c]).flat=qps c:=by kernel_rfl
noncomputable def qnX (c:Int):Option PV:=(qps c).run
noncomputable def qiT (c:Int):Bool:=(qb4 (gVal (qnX c)))
noncomputable def qjh (c:Int):Bool:=isW (qnX c) (.bool (qiT c))
noncomputable def qud:List PV→Tr PV | [.int .u8 c]=>.ite (qjh c) (.ret (.bool (qiT c))) (.fail) | _=>.fail
theorem qAo (gl:Gl):SimP Tryz.prog gl 122 fun args=>(qud args).run:=by
 refine SimP.of_flat (G:=qut) (L:=qy7) qav (qA2 gl ) qah  Tryz.func122 rfl (by rfl) (by kernel_rfl) (qae (by kernel_rfl)) ?_
 intro args x h
 unfold qud at h
 split at h
 ·exact (congrArg Tr.run (qGa _)).trans (qai h fun h=>by cases h)
 ·cases h
noncomputable def qtr:GamT:=ofL []
theorem qAw (gl:Gl):qaR Tryz.prog gl (gam qtr):=qag
noncomputable def qyL:LpsT:=fun r fr σ=>.fail
noncomputable def qpO (c:Int):Tr PV:=.ite (iEq c 32) (.ret (.bool true)) (.ite (iEq c 9) (.ret (.bool true)) (.ite (iEq c 10) (.ret (.bool true)) (.ret (.bool (iEq c 13)))))
theorem qGJ (c:Int):(tcall tbT qtr qyL Tryz.f92 [.int .u8 c]).flat=qpO c:=by kernel_rfl
noncomputable def qnS (c:Int):Option PV:=(qpO c).run
noncomputable def qhk (c:Int):Bool:=(qb4 (gVal (qnS c)))
noncomputable def qjb (c:Int):Bool:=isW (qnS c) (.bool (qhk c))
noncomputable def qti:List PV→Tr PV | [.int .u8 c]=>.ite (qjb c) (.ret (.bool (qhk c))) (.fail) | _=>.fail
theorem qBh (gl:Gl):SimP Tryz.prog gl 92 fun args=>(qti args).run:=by
 refine SimP.of_flat (G:=qtr) (L:=qyL) qav (qAw gl ) qah  Tryz.func92 rfl (by rfl) (by kernel_rfl) (qae (by kernel_rfl)) ?_
 intro args x h
 unfold qti at h
 split at h
 ·exact (congrArg Tr.run (qGJ _)).trans (qai h fun h=>by cases h)
 ·cases h
noncomputable def quy:GamT:=ofL [(92,.pure qti)]
theorem qyv (gl:Gl):qaR Tryz.prog gl (gam quy):=(qac (qBh gl) qag)
noncomputable def qtM:Code:=qeP Tryz.f67 2
def qtQ:LI:=⟨41,[0,1,5],fun e=>match e with | .exit 0=>[1] | _=>[],true⟩
noncomputable def qte:LpsT:=fun r fr σ=>.fail
noncomputable def qmi (vs:List PV) (σ:Store):Option (PExit × List PV × Store):=lval (lstep tbT quy qte qtM qtQ) vs σ
noncomputable def qlm (s:List UInt8) (at_:Int) (comment:Bool):Tr LR:=.ite (iLt at_ (sLen s)) (.ite comment (.ite (qaJ s at_) (.ite (iEq (sAt s at_) 37) (.ret (.next [.str s,.int .i64 (iAdd .i64 at_ 1),.bool true] ⟨[],[],[]⟩)) (.ite comment (.ite (qaJ s at_) (.ret (.next [.str s,.int .i64 (iAdd .i64 at_ 1),.bool (iNe (sAt s at_) 10)] ⟨[],[],[]⟩)) .fail) (.ret (.next [.str s,.int .i64 (iAdd .i64 at_ 1),.bool false] ⟨[],[],[]⟩)))) .fail) (.ite (qaJ s at_) (.ite (qjb (sAt s at_)) (.ite (qhk (sAt s at_)) (.ite (qaJ s at_) (.ite (iEq (sAt s at_) 37) (.ret (.next [.str s,.int .i64 (iAdd .i64 at_ 1),.bool true] ⟨[],[],[]⟩)) (.ite comment (.ite (qaJ s at_) (.ret (.next [.str s,.int .i64 (iAdd .i64 at_ 1),.bool (iNe (sAt s at_) 10)] ⟨[],[],[]⟩)) .fail) (.ret (.next [.str s,.int .i64 (iAdd .i64 at_ 1),.bool false] ⟨[],[],[]⟩)))) .fail) (.ite (qaJ s at_) (.ite (iEq (sAt s at_) 37) (.ite (qaJ s at_) (.ite (iEq (sAt s at_) 37) (.ret (.next [.str s,.int .i64 (iAdd .i64 at_ 1),.bool true] ⟨[],[],[]⟩)) (.ite comment (.ite (qaJ s at_) (.ret (.next [.str s,.int .i64 (iAdd .i64 at_ 1),.bool (iNe (sAt s at_) 10)] ⟨[],[],[]⟩)) .fail) (.ret (.next [.str s,.int .i64 (iAdd .i64 at_ 1),.bool false] ⟨[],[],[]⟩)))) .fail) (.ret (.out (.exit 0) [.int .i64 at_] ⟨[],[],[]⟩))) .fail)) .fail) .fail)) (.ret (.out (.exit 0) [.int .i64 at_] ⟨[],[],[]⟩))
theorem qIe (s:List UInt8) (at_:Int) (comment:Bool):lstep tbT quy qte qtM qtQ [.str s,.int .i64 at_,.bool comment] ⟨[],[],[]⟩=qlm s at_ comment:=by kernel_rfl
theorem qEk (s:List UInt8) (at_:Int) (comment:Bool):qmi [.str s,.int .i64 at_,.bool comment] ⟨[],[],[]⟩=lnext qmi (qlm s at_ comment).run:=by unfold qmi; rw [qbK,qIe]
noncomputable def qw7 (s:List UInt8) (at_:Int) (comment:Bool):Option (PExit × List PV × Store):=qmi [.str s,.int .i64 at_,.bool comment] ⟨[],[],[]⟩
noncomputable def qla (s:List UInt8) (at_:Int) (comment:Bool):Int:=(gInt (gOut (qw7 s at_ comment) 0))
noncomputable def qpn (s:List UInt8) (at_:Int) (comment:Bool):Bool:=isW (qw7 s at_ comment) ((.exit 0),[.int .i64 (qla s at_ comment)],⟨[],[],[]⟩)
noncomputable def qiN:List PV→Store→Tr (PExit × List PV × Store) | [.str s,.int .i64 at_,.bool comment],⟨[],[],[]⟩=>.ite (qpn s at_ comment) (.ret ((.exit 0),[.int .i64 (qla s at_ comment)],⟨[],[],[]⟩)) (.fail) | _,_=>.fail
theorem qGz:∀ vs σ r,(qiN vs σ).run=some r→qmi vs σ=some r:=by
 intro vs σ r h
 unfold qiN at h
 split at h
 ·exact qai h fun h=>by cases h
 ·cases h
theorem qAK (gl:Gl):∀ fr σ e fr' σ',(orc qtQ qiN fr σ).run=some (e,fr',σ')→LDoes Tryz.prog gl qtM fr σ e fr' σ':=qcs qav (qyv gl ) qah (L:=qte) (qae (by kernel_rfl)) (by kernel_rfl) qGz
noncomputable def qEU:LpsT:=fun r fr σ=>bif Nat.beq r 2 then orc qtQ qiN fr σ else .fail
noncomputable def qx8 (s:List UInt8) (at_:Int):Tr PV:=.ite (qpn s at_ false) (.ret (.int .i64 (qla s at_ false))) .fail
theorem qMp (s:List UInt8) (at_:Int):(tcall tbT quy qEU Tryz.f67 [.str s,.int .i64 at_]).flat=qx8 s at_:=by kernel_rfl
noncomputable def qzF (s:List UInt8) (at_:Int):Option PV:=(qx8 s at_).run
noncomputable def qdz (s:List UInt8) (at_:Int):Int:=(gInt (gVal (qzF s at_)))
noncomputable def qf6 (s:List UInt8) (at_:Int):Bool:=isW (qzF s at_) (.int .i64 (qdz s at_))
noncomputable def qFa:List PV→Tr PV | [.str s,.int .i64 at_]=>.ite (qf6 s at_) (.ret (.int .i64 (qdz s at_))) (.fail) | _=>.fail
theorem qGp (gl:Gl):SimP Tryz.prog gl 67 fun args=>(qFa args).run:=by
 refine SimP.of_flat (G:=quy) (L:=qEU) qav (qyv gl ) qah  Tryz.func67 rfl (by rfl) (by kernel_rfl) (qbg (L:=lps qEU) [(2,qtM)] (by kernel_rfl) (List.forall_mem_cons.2 ⟨fun fr σ e fr' σ' h=>qAK gl  fr σ e fr' σ' h,(List.forall_mem_nil _)⟩)) ?_
 intro args x h
 unfold qFa at h
 split at h
 ·exact (congrArg Tr.run (qMp _ _)).trans (qai h fun h=>by cases h)
 ·cases h
noncomputable def qph:GamT:=ofL [(122,.pure qud)]
theorem qvD (gl:Gl):qaR Tryz.prog gl (gam qph):=(qac (qAo gl) qag)
noncomputable def qnZ:Code:=qeP Tryz.f95 1
def qoH:LI:=⟨18,[0,1],fun e=>match e with | .exit 0=>[1] | _=>[],true⟩
noncomputable def qpG:LpsT:=fun r fr σ=>.fail
noncomputable def qiS (vs:List PV) (σ:Store):Option (PExit × List PV × Store):=lval (lstep tbT qph qpG qnZ qoH) vs σ
noncomputable def qiH (s:List UInt8) (at_:Int):Tr LR:=.ite (iLt at_ (sLen s)) (.ite (qaJ s at_) (.ite (qjh (sAt s at_)) (.ite (qiT (sAt s at_)) (.ret (.next [.str s,.int .i64 (iAdd .i64 at_ 1)] ⟨[],[],[]⟩)) (.ret (.out (.exit 0) [.int .i64 at_] ⟨[],[],[]⟩))) .fail) .fail) (.ret (.out (.exit 0) [.int .i64 at_] ⟨[],[],[]⟩))
theorem qHg (s:List UInt8) (at_:Int):lstep tbT qph qpG qnZ qoH [.str s,.int .i64 at_] ⟨[],[],[]⟩=qiH s at_:=by kernel_rfl
theorem qy0 (s:List UInt8) (at_:Int):qiS [.str s,.int .i64 at_] ⟨[],[],[]⟩=lnext qiS (qiH s at_).run:=by unfold qiS; rw [qbK,qHg]
noncomputable def qsC (s:List UInt8) (at_:Int):Option (PExit × List PV × Store):=qiS [.str s,.int .i64 at_] ⟨[],[],[]⟩
noncomputable def qjt (s:List UInt8) (at_:Int):Int:=(gInt (gOut (qsC s at_) 0))
noncomputable def qnp (s:List UInt8) (at_:Int):Bool:=isW (qsC s at_) ((.exit 0),[.int .i64 (qjt s at_)],⟨[],[],[]⟩)
noncomputable def qg4:List PV→Store→Tr (PExit × List PV × Store) | [.str s,.int .i64 at_],⟨[],[],[]⟩=>.ite (qnp s at_) (.ret ((.exit 0),[.int .i64 (qjt s at_)],⟨[],[],[]⟩)) (.fail) | _,_=>.fail
theorem qDz:∀ vs σ r,(qg4 vs σ).run=some r→qiS vs σ=some r:=by
 intro vs σ r h
 unfold qg4 at h
 split at h
 ·exact qai h fun h=>by cases h
 ·cases h
theorem qv6 (gl:Gl):∀ fr σ e fr' σ',(orc qoH qg4 fr σ).run=some (e,fr',σ')→LDoes Tryz.prog gl qnZ fr σ e fr' σ':=qcs qav (qvD gl ) qah (L:=qpG) (qae (by kernel_rfl)) (by kernel_rfl) qDz
noncomputable def qwt:LpsT:=fun r fr σ=>bif Nat.beq r 1 then orc qoH qg4 fr σ else .fail
noncomputable def que (s:List UInt8) (at_:Int):Tr PV:=.ite (qnp s at_) (.ret (.int .i64 (qjt s at_))) .fail
theorem qIT (s:List UInt8) (at_:Int):(tcall tbT qph qwt Tryz.f95 [.str s,.int .i64 at_]).flat=que s at_:=by kernel_rfl
noncomputable def qty (s:List UInt8) (at_:Int):Option PV:=(que s at_).run
noncomputable def qbh (s:List UInt8) (at_:Int):Int:=(gInt (gVal (qty s at_)))
noncomputable def qgF (s:List UInt8) (at_:Int):Bool:=isW (qty s at_) (.int .i64 (qbh s at_))
noncomputable def qxN:List PV→Tr PV | [.str s,.int .i64 at_]=>.ite (qgF s at_) (.ret (.int .i64 (qbh s at_))) (.fail) | _=>.fail
theorem qE2 (gl:Gl):SimP Tryz.prog gl 95 fun args=>(qxN args).run:=by
 refine SimP.of_flat (G:=qph) (L:=qwt) qav (qvD gl ) qah  Tryz.func95 rfl (by rfl) (by kernel_rfl) (qbg (L:=lps qwt) [(1,qnZ)] (by kernel_rfl) (List.forall_mem_cons.2 ⟨fun fr σ e fr' σ' h=>qv6 gl  fr σ e fr' σ' h,(List.forall_mem_nil _)⟩)) ?_
 intro args x h
 unfold qxN at h
 split at h
 ·exact (congrArg Tr.run (qIT _ _)).trans (qai h fun h=>by cases h)
 ·cases h
noncomputable def qii:GamT:=ofL [(96,.pure qlO)]
theorem qpa (gl:Gl):qaR Tryz.prog gl (gam qii):=(qac (qni gl) qag)
noncomputable def qjn:Code:=qeP Tryz.f98 1
def qi7:LI:=⟨18,[0,1],fun e=>match e with | .exit 0=>[1] | _=>[],true⟩
noncomputable def qkf:LpsT:=fun r fr σ=>.fail
noncomputable def qfg (vs:List PV) (σ:Store):Option (PExit × List PV × Store):=lval (lstep tbT qii qkf qjn qi7) vs σ
noncomputable def qfx (s:List UInt8) (at_:Int):Tr LR:=.ite (iLt at_ (sLen s)) (.ite (qaJ s at_) (.ite (qeu (sAt s at_)) (.ite (qe4 (sAt s at_)) (.ret (.next [.str s,.int .i64 (iAdd .i64 at_ 1)] ⟨[],[],[]⟩)) (.ret (.out (.exit 0) [.int .i64 at_] ⟨[],[],[]⟩))) .fail) .fail) (.ret (.out (.exit 0) [.int .i64 at_] ⟨[],[],[]⟩))
theorem qz1 (s:List UInt8) (at_:Int):lstep tbT qii qkf qjn qi7 [.str s,.int .i64 at_] ⟨[],[],[]⟩=qfx s at_:=by kernel_rfl
theorem qsn (s:List UInt8) (at_:Int):qfg [.str s,.int .i64 at_] ⟨[],[],[]⟩=lnext qfg (qfx s at_).run:=by unfold qfg; rw [qbK,qz1]
noncomputable def qmQ (s:List UInt8) (at_:Int):Option (PExit × List PV × Store):=qfg [.str s,.int .i64 at_] ⟨[],[],[]⟩
noncomputable def qf4 (s:List UInt8) (at_:Int):Int:=(gInt (gOut (qmQ s at_) 0))
noncomputable def qiI (s:List UInt8) (at_:Int):Bool:=isW (qmQ s at_) ((.exit 0),[.int .i64 (qf4 s at_)],⟨[],[],[]⟩)
noncomputable def qe5:List PV→Store→Tr (PExit × List PV × Store) | [.str s,.int .i64 at_],⟨[],[],[]⟩=>.ite (qiI s at_) (.ret ((.exit 0),[.int .i64 (qf4 s at_)],⟨[],[],[]⟩)) (.fail) | _,_=>.fail
theorem qxf:∀ vs σ r,(qe5 vs σ).run=some r→qfg vs σ=some r:=by
 intro vs σ r h
 unfold qe5 at h
 split at h
 ·exact qai h fun h=>by cases h
 ·cases h
theorem qt8 (gl:Gl):∀ fr σ e fr' σ',(orc qi7 qe5 fr σ).run=some (e,fr',σ')→LDoes Tryz.prog gl qjn fr σ e fr' σ':=qcs qav (qpa gl ) qah (L:=qkf) (qae (by kernel_rfl)) (by kernel_rfl) qxf
noncomputable def qpI:LpsT:=fun r fr σ=>bif Nat.beq r 1 then orc qi7 qe5 fr σ else .fail
noncomputable def qm4 (s:List UInt8) (at_:Int):Tr PV:=.ite (qiI s at_) (.ret (.int .i64 (qf4 s at_))) .fail
theorem qEV (s:List UInt8) (at_:Int):(tcall tbT qii qpI Tryz.f98 [.str s,.int .i64 at_]).flat=qm4 s at_:=by kernel_rfl
noncomputable def ql6 (s:List UInt8) (at_:Int):Option PV:=(qm4 s at_).run
noncomputable def qbi (s:List UInt8) (at_:Int):Int:=(gInt (gVal (ql6 s at_)))
noncomputable def qek (s:List UInt8) (at_:Int):Bool:=isW (ql6 s at_) (.int .i64 (qbi s at_))
noncomputable def qpY:List PV→Tr PV | [.str s,.int .i64 at_]=>.ite (qek s at_) (.ret (.int .i64 (qbi s at_))) (.fail) | _=>.fail
theorem qws (gl:Gl):SimP Tryz.prog gl 98 fun args=>(qpY args).run:=by
 refine SimP.of_flat (G:=qii) (L:=qpI) qav (qpa gl ) qah  Tryz.func98 rfl (by rfl) (by kernel_rfl) (qbg (L:=lps qpI) [(1,qjn)] (by kernel_rfl) (List.forall_mem_cons.2 ⟨fun fr σ e fr' σ' h=>qt8 gl  fr σ e fr' σ' h,(List.forall_mem_nil _)⟩)) ?_
 intro args x h
 unfold qpY at h
 split at h
 ·exact (congrArg Tr.run (qEV _ _)).trans (qai h fun h=>by cases h)
 ·cases h
noncomputable def qiv:GamT:=ofL []
theorem qp0 (gl:Gl):qaR Tryz.prog gl (gam qiv):=qag
noncomputable def qi8:Code:=qeP Tryz.f99 2
def qjo:LI:=⟨26,[0,5],fun e=>match e with | .ret=>[4] | .exit 0=>[] | _=>[],true⟩
noncomputable def qkm:LpsT:=fun r fr σ=>.fail
noncomputable def qdP (vs:List PV) (σ:Store):Option (PExit × List PV × Store):=lval (lstep tbT qiv qkm qi8 qjo) vs σ
noncomputable def qen (s:List UInt8) (i:Int):Tr LR:=.ite (iLt i (sLen s)) (.ite (qaJ s i) (.ite (iEq (sAt s i) 34) (.ret (.out .ret [.int .i64 (iAdd .i64 i 1)] ⟨[],[],[]⟩)) (.ite (qaJ s i) (.ite (iEq (sAt s i) 92) (.ret (.next [.str s,.int .i64 (iAdd .i64 (iAdd .i64 i 1) 1)] ⟨[],[],[]⟩)) (.ret (.next [.str s,.int .i64 (iAdd .i64 i 1)] ⟨[],[],[]⟩))) .fail)) .fail) (.ret (.out (.exit 0) [] ⟨[],[],[]⟩))
theorem qAm (s:List UInt8) (i:Int):lstep tbT qiv qkm qi8 qjo [.str s,.int .i64 i] ⟨[],[],[]⟩=qen s i:=by kernel_rfl
theorem qr3 (s:List UInt8) (i:Int):qdP [.str s,.int .i64 i] ⟨[],[],[]⟩=lnext qdP (qen s i).run:=by unfold qdP; rw [qbK,qAm]
noncomputable def qgM (s:List UInt8) (i:Int):Option (PExit × List PV × Store):=qdP [.str s,.int .i64 i] ⟨[],[],[]⟩
noncomputable def qeV (s:List UInt8) (i:Int):Int:=(gInt (gOut (qgM s i) 0))
noncomputable def qgk (s:List UInt8) (i:Int):Bool:=isW (qgM s i) (.ret,[.int .i64 (qeV s i)],⟨[],[],[]⟩)
noncomputable def qgp (s:List UInt8) (i:Int):Bool:=isW (qgM s i) ((.exit 0),[],⟨[],[],[]⟩)
noncomputable def qe7:List PV→Store→Tr (PExit × List PV × Store) | [.str s,.int .i64 i],⟨[],[],[]⟩=>.ite (qgk s i) (.ret (.ret,[.int .i64 (qeV s i)],⟨[],[],[]⟩)) (.ite (qgp s i) (.ret ((.exit 0),[],⟨[],[],[]⟩)) (.fail)) | _,_=>.fail
theorem qwQ:∀ vs σ r,(qe7 vs σ).run=some r→qdP vs σ=some r:=by
 intro vs σ r h
 unfold qe7 at h
 split at h
 ·exact qai h fun h=>qai h fun h=>by cases h
 ·cases h
theorem qsT (gl:Gl):∀ fr σ e fr' σ',(orc qjo qe7 fr σ).run=some (e,fr',σ')→LDoes Tryz.prog gl qi8 fr σ e fr' σ':=qcs qav (qp0 gl ) qah (L:=qkm) (qae (by kernel_rfl)) (by kernel_rfl) qwQ
noncomputable def qo6:LpsT:=fun r fr σ=>bif Nat.beq r 2 then orc qjo qe7 fr σ else .fail
noncomputable def qnl (s:List UInt8) (at_:Int):Tr PV:=.ite (qgk s (iAdd .i64 at_ 1)) (.ret (.int .i64 (qeV s (iAdd .i64 at_ 1)))) (.ite (qgp s (iAdd .i64 at_ 1)) (.ret (.int .i64 (-1))) .fail)
theorem qEw (s:List UInt8) (at_:Int):(tcall tbT qiv qo6 Tryz.f99 [.str s,.int .i64 at_]).flat=qnl s at_:=by kernel_rfl
noncomputable def qmb (s:List UInt8) (at_:Int):Option PV:=(qnl s at_).run
noncomputable def qaA (s:List UInt8) (at_:Int):Int:=(gInt (gVal (qmb s at_)))
noncomputable def qdK (s:List UInt8) (at_:Int):Bool:=isW (qmb s at_) (.int .i64 (qaA s at_))
noncomputable def qqM:List PV→Tr PV | [.str s,.int .i64 at_]=>.ite (qdK s at_) (.ret (.int .i64 (qaA s at_))) (.fail) | _=>.fail
theorem qwX (gl:Gl):SimP Tryz.prog gl 99 fun args=>(qqM args).run:=by
 refine SimP.of_flat (G:=qiv) (L:=qo6) qav (qp0 gl ) qah  Tryz.func99 rfl (by rfl) (by kernel_rfl) (qbg (L:=lps qo6) [(2,qi8)] (by kernel_rfl) (List.forall_mem_cons.2 ⟨fun fr σ e fr' σ' h=>qsT gl  fr σ e fr' σ' h,(List.forall_mem_nil _)⟩)) ?_
 intro args x h
 unfold qqM at h
 split at h
 ·exact (congrArg Tr.run (qEw _ _)).trans (qai h fun h=>by cases h)
 ·cases h
noncomputable def qvU:GamT:=ofL []
theorem qCV (gl:Gl):qaR Tryz.prog gl (gam qvU):=qag
noncomputable def qDG:LpsT:=fun r fr σ=>.fail
noncomputable def qsO (v:List UInt8) (v2:Int):Tr PV:=.ite (iLe 2 (iSub .i64 (sLen v) v2)) (.ite (qaI (qaw v2) (qaw (iAdd .i64 v2 2)) (nNat v2) (nNat (iAdd .i64 v2 2)) (nLen v)) (.ite (sEq (sSub v (nNat v2) (nNat (iAdd .i64 v2 2))) [58,45]) (.ret (.int .i64 2)) (.ite (sEq (sSub v (nNat v2) (nNat (iAdd .i64 v2 2))) [60,61]) (.ret (.int .i64 2)) (.ite (sEq (sSub v (nNat v2) (nNat (iAdd .i64 v2 2))) [62,61]) (.ret (.int .i64 2)) (.ite (sEq (sSub v (nNat v2) (nNat (iAdd .i64 v2 2))) [33,61]) (.ret (.int .i64 2)) (.ite (qaJ v v2) (.ite (iEq (sAt v v2) 40) (.ret (.int .i64 1)) (.ite (qaJ v v2) (.ite (iEq (sAt v v2) 41) (.ret (.int .i64 1)) (.ite (qaJ v v2) (.ite (iEq (sAt v v2) 44) (.ret (.int .i64 1)) (.ite (qaJ v v2) (.ite (iEq (sAt v v2) 46) (.ret (.int .i64 1)) (.ite (qaJ v v2) (.ite (iEq (sAt v v2) 43) (.ret (.int .i64 1)) (.ite (qaJ v v2) (.ite (iEq (sAt v v2) 45) (.ret (.int .i64 1)) (.ite (qaJ v v2) (.ite (iEq (sAt v v2) 61) (.ret (.int .i64 1)) (.ite (qaJ v v2) (.ite (iEq (sAt v v2) 58) (.ret (.int .i64 1)) (.ite (qaJ v v2) (.ite (iEq (sAt v v2) 60) (.ret (.int .i64 1)) (.ite (qaJ v v2) (.ite (iEq (sAt v v2) 62) (.ret (.int .i64 1)) (.ret (.int .i64 0))) .fail)) .fail)) .fail)) .fail)) .fail)) .fail)) .fail)) .fail)) .fail)) .fail))))) .fail) (.ite (sEq [] [58,45]) (.ret (.int .i64 2)) (.ite (sEq [] [60,61]) (.ret (.int .i64 2)) (.ite (sEq [] [62,61]) (.ret (.int .i64 2)) (.ite (sEq [] [33,61]) (.ret (.int .i64 2)) (.ite (qaJ v v2) (.ite (iEq (sAt v v2) 40) (.ret (.int .i64 1)) (.ite (qaJ v v2) (.ite (iEq (sAt v v2) 41) (.ret (.int .i64 1)) (.ite (qaJ v v2) (.ite (iEq (sAt v v2) 44) (.ret (.int .i64 1)) (.ite (qaJ v v2) (.ite (iEq (sAt v v2) 46) (.ret (.int .i64 1)) (.ite (qaJ v v2) (.ite (iEq (sAt v v2) 43) (.ret (.int .i64 1)) (.ite (qaJ v v2) (.ite (iEq (sAt v v2) 45) (.ret (.int .i64 1)) (.ite (qaJ v v2) (.ite (iEq (sAt v v2) 61) (.ret (.int .i64 1)) (.ite (qaJ v v2)
 (.ite (iEq (sAt v v2) 58) (.ret (.int .i64 1)) (.ite (qaJ v v2) (.ite (iEq (sAt v v2) 60) (.ret (.int .i64 1)) (.ite (qaJ v v2) (.ite (iEq (sAt v v2) 62) (.ret (.int .i64 1)) (.ret (.int .i64 0))) .fail)) .fail)) .fail)) .fail)) .fail)) .fail)) .fail)) .fail)) .fail)) .fail)))))
theorem qJd (v:List UInt8) (v2:Int):(tcall tbT qvU qDG Tryz.f100 [.str v,.int .i64 v2]).flat=qsO v v2:=by kernel_rfl
noncomputable def qsR (v:List UInt8) (v2:Int):Option PV:=(qsO v v2).run
noncomputable def qbA (v:List UInt8) (v2:Int):Int:=(gInt (gVal (qsR v v2)))
noncomputable def qfM (v:List UInt8) (v2:Int):Bool:=isW (qsR v v2) (.int .i64 (qbA v v2))
noncomputable def qxK:List PV→Tr PV | [.str v,.int .i64 v2]=>.ite (qfM v v2) (.ret (.int .i64 (qbA v v2))) (.fail) | _=>.fail
theorem qFl (gl:Gl):SimP Tryz.prog gl 100 fun args=>(qxK args).run:=by
 refine SimP.of_flat (G:=qvU) (L:=qDG) qav (qCV gl ) qah  Tryz.func100 rfl (by rfl) (by kernel_rfl) (qae (by kernel_rfl)) ?_
 intro args x h
 unfold qxK at h
 split at h
 ·exact (congrArg Tr.run (qJd _ _)).trans (qai h fun h=>by cases h)
 ·cases h
noncomputable def qtA:GamT:=ofL [(123,.pure qrT)]
theorem qAg (gl:Gl):qaR Tryz.prog gl (gam qtA):=(qac (qBx gl) qag)
noncomputable def qzm:LpsT:=fun r fr σ=>.fail
noncomputable def qqJ (k:Int) (s:List UInt8) (at_:Int):Tr PV:=.ite (qkC s) (.ite (iNe (eRd s) 0) (.ret (.tup [.agg [.int .i64 0,.str [],.int .i64 0,.int .i64 0,.str [],.int .i64 0],.bool false])) (.ret (.tup [.agg [.int .i64 k,.str s,.int .i64 (kRd s),.int .i64 (nRd s),.str (sRd s),.int .i64 at_],.bool true]))) .fail
theorem qGO (k:Int) (s:List UInt8) (at_:Int):(tcall tbT qtA qzm Tryz.f97 [.int .i64 k,.str s,.int .i64 at_]).flat=qqJ k s at_:=by kernel_rfl
noncomputable def qeG (k:Int) (s:List UInt8) (at_:Int):Option PV:=(qqJ k s at_).run
noncomputable def qd9 (k:Int) (s:List UInt8) (at_:Int):Int:=(gInt (gAt (gCs (gAt (gCs (gVal (qeG k s at_))) 0)) 0))
noncomputable def qd6 (k:Int) (s:List UInt8) (at_:Int):List UInt8:=(gStr (gAt (gCs (gAt (gCs (gVal (qeG k s at_))) 0)) 1))
noncomputable def qcT (k:Int) (s:List UInt8) (at_:Int):Int:=(gInt (gAt (gCs (gAt (gCs (gVal (qeG k s at_))) 0)) 2))
noncomputable def qdn (k:Int) (s:List UInt8) (at_:Int):Int:=(gInt (gAt (gCs (gAt (gCs (gVal (qeG k s at_))) 0)) 3))
noncomputable def qc3 (k:Int) (s:List UInt8) (at_:Int):List UInt8:=(gStr (gAt (gCs (gAt (gCs (gVal (qeG k s at_))) 0)) 4))
noncomputable def qcZ (k:Int) (s:List UInt8) (at_:Int):Int:=(gInt (gAt (gCs (gAt (gCs (gVal (qeG k s at_))) 0)) 5))
noncomputable def qdX (k:Int) (s:List UInt8) (at_:Int):Bool:=(qb4 (gAt (gCs (gVal (qeG k s at_))) 1))
noncomputable def qdq (k:Int) (s:List UInt8) (at_:Int):Bool:=isW (qeG k s at_) (.tup [.agg [.int .i64 (qd9 k s at_),.str (qd6 k s at_),.int .i64 (qcT k s at_),.int .i64 (qdn k s at_),.str (qc3 k s at_),.int .i64 (qcZ k s at_)],.bool (qdX k s at_)])
noncomputable def qt9:List PV→Tr PV | [.int .i64 k,.str s,.int .i64 at_]=>.ite (qdq k s at_) (.ret (.tup [.agg [.int .i64 (qd9 k s at_),.str (qd6 k s at_),.int .i64 (qcT k s at_),.int .i64 (qdn k s at_),.str (qc3 k s at_),.int .i64 (qcZ k s at_)],.bool (qdX k s at_)])) (.fail) | _=>.fail
theorem qA4 (gl:Gl):SimP Tryz.prog gl 97 fun args=>(qt9 args).run:=by
 refine SimP.of_flat (G:=qtA) (L:=qzm) qav (qAg gl ) qah  Tryz.func97 rfl (by rfl) (by kernel_rfl) (qae (by kernel_rfl)) ?_
 intro args x h
 unfold qt9 at h
 split at h
 ·exact (congrArg Tr.run (qGO _ _ _)).trans (qai h fun h=>by cases h)
 ·cases h
noncomputable def qwV:GamT:=ofL [(93,.pure qos),(94,.pure qnR),(95,.pure qxN),(96,.pure qlO),(97,.pure qt9),(98,.pure qpY),(99,.pure qqM),(100,.pure qxK)]
theorem qFt (gl:Gl):qaR Tryz.prog gl (gam qwV):=(qac (qrU gl) (qac (qsb gl) (qac (qE2 gl) (qac (qni gl) (qac (qA4 gl) (qac (qws gl) (qac (qwX gl) (qac (qFl gl) qag))))))))
noncomputable def qDs:LpsT:=fun r fr σ=>.fail
noncomputable def qto (v:List UInt8) (v2:Int):Tr PV:=.ite (qaJ v v2) (.ite (qgE (sAt v v2)) (.ite (qgU (sAt v v2)) (.ite (qgF v v2) (.ite (qeD (sAt v v2)) (.ite (qfd (sAt v v2)) (.ite (qaI (qaw v2) (qaw (qbh v v2)) (nNat v2) (nNat (qbh v v2)) (nLen v)) (.ite (iEq (qbh v v2) v2) (.ret (.tup [.agg [.int .i64 0,.str [],.int .i64 0,.int .i64 0,.str [],.int .i64 0],.bool false])) (.ite (iLt 64 (sLen (sSub v (nNat v2) (nNat (qbh v v2))))) (.ret (.tup [.agg [.int .i64 0,.str [],.int .i64 0,.int .i64 0,.str [],.int .i64 0],.bool false])) (.ite (iEq 2 3) (.ite (iNe (qbh v v2) (iAdd .i64 v2 1)) (.ret (.tup [.agg [.int .i64 0,.str [],.int .i64 0,.int .i64 0,.str [],.int .i64 0],.bool false])) (.ret (.tup [.agg [.int .i64 2,.str (sSub v (nNat v2) (nNat (qbh v v2))),.int .i64 0,.int .i64 0,.str [],.int .i64 v2],.bool true]))) (.ret (.tup [.agg [.int .i64 2,.str (sSub v (nNat v2) (nNat (qbh v v2))),.int .i64 0,.int .i64 0,.str [],.int .i64 v2],.bool true]))))) .fail) (.ite (qaI (qaw v2) (qaw (qbh v v2)) (nNat v2) (nNat (qbh v v2)) (nLen v)) (.ite (iEq (qbh v v2) v2) (.ret (.tup [.agg [.int .i64 0,.str [],.int .i64 0,.int .i64 0,.str [],.int .i64 0],.bool false])) (.ite (iLt 64 (sLen (sSub v (nNat v2) (nNat (qbh v v2))))) (.ret (.tup [.agg [.int .i64 0,.str [],.int .i64 0,.int .i64 0,.str [],.int .i64 0],.bool false])) (.ite (iEq 1 3) (.ite (iNe (qbh v v2) (iAdd .i64 v2 1)) (.ret (.tup [.agg [.int .i64 0,.str [],.int .i64 0,.int .i64 0,.str [],.int .i64 0],.bool false])) (.ret (.tup [.agg [.int .i64 1,.str (sSub v (nNat v2) (nNat (qbh v v2))),.int .i64 0,.int .i64 0,.str [],.int .i64 v2],.bool true]))) (.ret (.tup [.agg [.int .i64 1,.str (sSub v (nNat v2) (nNat (qbh v v2))),.int .i64 0,.int .i64 0,.str [],.int .i64 v2],.bool true]))))) .fail)) .fail) .fail) (.ite (qeD (sAt v v2)) (.ite (qfd (sAt v v2)) (.ite (qgF v v2) (.ite (qeD (sAt v v2))
 (.ite (qfd (sAt v v2)) (.ite (qaI (qaw v2) (qaw (qbh v v2)) (nNat v2) (nNat (qbh v v2)) (nLen v)) (.ite (iEq (qbh v v2) v2) (.ret (.tup [.agg [.int .i64 0,.str [],.int .i64 0,.int .i64 0,.str [],.int .i64 0],.bool false])) (.ite (iLt 64 (sLen (sSub v (nNat v2) (nNat (qbh v v2))))) (.ret (.tup [.agg [.int .i64 0,.str [],.int .i64 0,.int .i64 0,.str [],.int .i64 0],.bool false])) (.ite (iEq 2 3) (.ite (iNe (qbh v v2) (iAdd .i64 v2 1)) (.ret (.tup [.agg [.int .i64 0,.str [],.int .i64 0,.int .i64 0,.str [],.int .i64 0],.bool false])) (.ret (.tup [.agg [.int .i64 2,.str (sSub v (nNat v2) (nNat (qbh v v2))),.int .i64 0,.int .i64 0,.str [],.int .i64 v2],.bool true]))) (.ret (.tup [.agg [.int .i64 2,.str (sSub v (nNat v2) (nNat (qbh v v2))),.int .i64 0,.int .i64 0,.str [],.int .i64 v2],.bool true]))))) .fail) (.ite (qaI (qaw v2) (qaw (qbh v v2)) (nNat v2) (nNat (qbh v v2)) (nLen v)) (.ite (iEq (qbh v v2) v2) (.ret (.tup [.agg [.int .i64 0,.str [],.int .i64 0,.int .i64 0,.str [],.int .i64 0],.bool false])) (.ite (iLt 64 (sLen (sSub v (nNat v2) (nNat (qbh v v2))))) (.ret (.tup [.agg [.int .i64 0,.str [],.int .i64 0,.int .i64 0,.str [],.int .i64 0],.bool false])) (.ite (iEq 1 3) (.ite (iNe (qbh v v2) (iAdd .i64 v2 1)) (.ret (.tup [.agg [.int .i64 0,.str [],.int .i64 0,.int .i64 0,.str [],.int .i64 0],.bool false])) (.ret (.tup [.agg [.int .i64 1,.str (sSub v (nNat v2) (nNat (qbh v v2))),.int .i64 0,.int .i64 0,.str [],.int .i64 v2],.bool true]))) (.ret (.tup [.agg [.int .i64 1,.str (sSub v (nNat v2) (nNat (qbh v v2))),.int .i64 0,.int .i64 0,.str [],.int .i64 v2],.bool true]))))) .fail)) .fail) .fail) (.ite (iEq (sAt v v2) 95) (.ite (qgF v v2) (.ite (qaI (qaw v2) (qaw (qbh v v2)) (nNat v2) (nNat (qbh v v2)) (nLen v)) (.ite (iEq (qbh v v2) v2) (.ret (.tup [.agg [.int .i64 0,.str [],.int .i64 0,.int .i64 0,.str [],.int .i64 0],.bool false]))
 (.ite (iLt 64 (sLen (sSub v (nNat v2) (nNat (qbh v v2))))) (.ret (.tup [.agg [.int .i64 0,.str [],.int .i64 0,.int .i64 0,.str [],.int .i64 0],.bool false])) (.ite (iEq 3 3) (.ite (iNe (qbh v v2) (iAdd .i64 v2 1)) (.ret (.tup [.agg [.int .i64 0,.str [],.int .i64 0,.int .i64 0,.str [],.int .i64 0],.bool false])) (.ret (.tup [.agg [.int .i64 3,.str (sSub v (nNat v2) (nNat (qbh v v2))),.int .i64 0,.int .i64 0,.str [],.int .i64 v2],.bool true]))) (.ret (.tup [.agg [.int .i64 3,.str (sSub v (nNat v2) (nNat (qbh v v2))),.int .i64 0,.int .i64 0,.str [],.int .i64 v2],.bool true]))))) .fail) .fail) (.ite (qeu (sAt v v2)) (.ite (qe4 (sAt v v2)) (.ite (qek v (iAdd .i64 v2 1)) (.ite (qaI (qaw v2) (qaw (qbi v (iAdd .i64 v2 1))) (nNat v2) (nNat (qbi v (iAdd .i64 v2 1))) (nLen v)) (.ite (qdq 4 (sSub v (nNat v2) (nNat (qbi v (iAdd .i64 v2 1)))) v2) (.ret (.tup [.agg [.int .i64 (qd9 4 (sSub v (nNat v2) (nNat (qbi v (iAdd .i64 v2 1)))) v2),.str (qd6 4 (sSub v (nNat v2) (nNat (qbi v (iAdd .i64 v2 1)))) v2),.int .i64 (qcT 4 (sSub v (nNat v2) (nNat (qbi v (iAdd .i64 v2 1)))) v2),.int .i64 (qdn 4 (sSub v (nNat v2) (nNat (qbi v (iAdd .i64 v2 1)))) v2),.str (qc3 4 (sSub v (nNat v2) (nNat (qbi v (iAdd .i64 v2 1)))) v2),.int .i64 (qcZ 4 (sSub v (nNat v2) (nNat (qbi v (iAdd .i64 v2 1)))) v2)],.bool (qdX 4 (sSub v (nNat v2) (nNat (qbi v (iAdd .i64 v2 1)))) v2)])) .fail) .fail) .fail) (.ite (iEq (sAt v v2) 45) (.ite (iLt (iAdd .i64 v2 1) (sLen v)) (.ite (qaJ v (iAdd .i64 v2 1)) (.ite (qeu (sAt v (iAdd .i64 v2 1))) (.ite (qe4 (sAt v (iAdd .i64 v2 1))) (.ite (qek v (iAdd .i64 v2 1)) (.ite (qaI (qaw v2) (qaw (qbi v (iAdd .i64 v2 1))) (nNat v2) (nNat (qbi v (iAdd .i64 v2 1))) (nLen v)) (.ite (qdq 4 (sSub v (nNat v2) (nNat (qbi v (iAdd .i64 v2 1)))) v2) (.ret (.tup [.agg
 [.int .i64 (qd9 4 (sSub v (nNat v2) (nNat (qbi v (iAdd .i64 v2 1)))) v2),.str (qd6 4 (sSub v (nNat v2) (nNat (qbi v (iAdd .i64 v2 1)))) v2),.int .i64 (qcT 4 (sSub v (nNat v2) (nNat (qbi v (iAdd .i64 v2 1)))) v2),.int .i64 (qdn 4 (sSub v (nNat v2) (nNat (qbi v (iAdd .i64 v2 1)))) v2),.str (qc3 4 (sSub v (nNat v2) (nNat (qbi v (iAdd .i64 v2 1)))) v2),.int .i64 (qcZ 4 (sSub v (nNat v2) (nNat (qbi v (iAdd .i64 v2 1)))) v2)],.bool (qdX 4 (sSub v (nNat v2) (nNat (qbi v (iAdd .i64 v2 1)))) v2)])) .fail) .fail) .fail) (.ite (iEq (sAt v v2) 34) (.ite (qdK v v2) (.ite (iLt (qaA v v2) 0) (.ret (.tup [.agg [.int .i64 0,.str [],.int .i64 0,.int .i64 0,.str [],.int .i64 0],.bool false])) (.ite (qaI (qaw v2) (qaw (qaA v v2)) (nNat v2) (nNat (qaA v v2)) (nLen v)) (.ite (qdq 5 (sSub v (nNat v2) (nNat (qaA v v2))) v2) (.ret (.tup [.agg [.int .i64 (qd9 5 (sSub v (nNat v2) (nNat (qaA v v2))) v2),.str (qd6 5 (sSub v (nNat v2) (nNat (qaA v v2))) v2),.int .i64 (qcT 5 (sSub v (nNat v2) (nNat (qaA v v2))) v2),.int .i64 (qdn 5 (sSub v (nNat v2) (nNat (qaA v v2))) v2),.str (qc3 5 (sSub v (nNat v2) (nNat (qaA v v2))) v2),.int .i64 (qcZ 5 (sSub v (nNat v2) (nNat (qaA v v2))) v2)],.bool (qdX 5 (sSub v (nNat v2) (nNat (qaA v v2))) v2)])) .fail) .fail)) .fail) (.ite (qfM v v2) (.ite (qaI (qaw v2) (qaw (iAdd .i64 v2 (qbA v v2))) (nNat v2) (nNat (iAdd .i64 v2 (qbA v v2))) (nLen v)) (.ite (iEq (iAdd .i64 v2 (qbA v v2)) v2) (.ret (.tup [.agg [.int .i64 0,.str [],.int .i64 0,.int .i64 0,.str [],.int .i64 0],.bool false])) (.ite (iLt 64 (sLen (sSub v (nNat v2) (nNat (iAdd .i64 v2 (qbA v v2)))))) (.ret (.tup [.agg [.int .i64 0,.str [],.int .i64 0,.int .i64 0,.str [],.int .i64 0],.bool false])) (.ite (iEq 6 3)
 (.ite (iNe (iAdd .i64 v2 (qbA v v2)) (iAdd .i64 v2 1)) (.ret (.tup [.agg [.int .i64 0,.str [],.int .i64 0,.int .i64 0,.str [],.int .i64 0],.bool false])) (.ret (.tup [.agg [.int .i64 6,.str (sSub v (nNat v2) (nNat (iAdd .i64 v2 (qbA v v2)))),.int .i64 0,.int .i64 0,.str [],.int .i64 v2],.bool true]))) (.ret (.tup [.agg [.int .i64 6,.str (sSub v (nNat v2) (nNat (iAdd .i64 v2 (qbA v v2)))),.int .i64 0,.int .i64 0,.str [],.int .i64 v2],.bool true]))))) .fail) .fail))) .fail) .fail) (.ite (iEq (sAt v v2) 34) (.ite (qdK v v2) (.ite (iLt (qaA v v2) 0) (.ret (.tup [.agg [.int .i64 0,.str [],.int .i64 0,.int .i64 0,.str [],.int .i64 0],.bool false])) (.ite (qaI (qaw v2) (qaw (qaA v v2)) (nNat v2) (nNat (qaA v v2)) (nLen v)) (.ite (qdq 5 (sSub v (nNat v2) (nNat (qaA v v2))) v2) (.ret (.tup [.agg [.int .i64 (qd9 5 (sSub v (nNat v2) (nNat (qaA v v2))) v2),.str (qd6 5 (sSub v (nNat v2) (nNat (qaA v v2))) v2),.int .i64 (qcT 5 (sSub v (nNat v2) (nNat (qaA v v2))) v2),.int .i64 (qdn 5 (sSub v (nNat v2) (nNat (qaA v v2))) v2),.str (qc3 5 (sSub v (nNat v2) (nNat (qaA v v2))) v2),.int .i64 (qcZ 5 (sSub v (nNat v2) (nNat (qaA v v2))) v2)],.bool (qdX 5 (sSub v (nNat v2) (nNat (qaA v v2))) v2)])) .fail) .fail)) .fail) (.ite (qfM v v2) (.ite (qaI (qaw v2) (qaw (iAdd .i64 v2 (qbA v v2))) (nNat v2) (nNat (iAdd .i64 v2 (qbA v v2))) (nLen v)) (.ite (iEq (iAdd .i64 v2 (qbA v v2)) v2) (.ret (.tup [.agg [.int .i64 0,.str [],.int .i64 0,.int .i64 0,.str [],.int .i64 0],.bool false])) (.ite (iLt 64 (sLen (sSub v (nNat v2) (nNat (iAdd .i64 v2 (qbA v v2)))))) (.ret (.tup [.agg [.int .i64 0,.str [],.int .i64 0,.int .i64 0,.str [],.int .i64 0],.bool false])) (.ite (iEq 6 3) (.ite (iNe (iAdd .i64 v2 (qbA v v2)) (iAdd .i64 v2 1)) (.ret
 (.tup [.agg [.int .i64 0,.str [],.int .i64 0,.int .i64 0,.str [],.int .i64 0],.bool false])) (.ret (.tup [.agg [.int .i64 6,.str (sSub v (nNat v2) (nNat (iAdd .i64 v2 (qbA v v2)))),.int .i64 0,.int .i64 0,.str [],.int .i64 v2],.bool true]))) (.ret (.tup [.agg [.int .i64 6,.str (sSub v (nNat v2) (nNat (iAdd .i64 v2 (qbA v v2)))),.int .i64 0,.int .i64 0,.str [],.int .i64 v2],.bool true]))))) .fail) .fail))) (.ite (iEq (sAt v v2) 34) (.ite (qdK v v2) (.ite (iLt (qaA v v2) 0) (.ret (.tup [.agg [.int .i64 0,.str [],.int .i64 0,.int .i64 0,.str [],.int .i64 0],.bool false])) (.ite (qaI (qaw v2) (qaw (qaA v v2)) (nNat v2) (nNat (qaA v v2)) (nLen v)) (.ite (qdq 5 (sSub v (nNat v2) (nNat (qaA v v2))) v2) (.ret (.tup [.agg [.int .i64 (qd9 5 (sSub v (nNat v2) (nNat (qaA v v2))) v2),.str (qd6 5 (sSub v (nNat v2) (nNat (qaA v v2))) v2),.int .i64 (qcT 5 (sSub v (nNat v2) (nNat (qaA v v2))) v2),.int .i64 (qdn 5 (sSub v (nNat v2) (nNat (qaA v v2))) v2),.str (qc3 5 (sSub v (nNat v2) (nNat (qaA v v2))) v2),.int .i64 (qcZ 5 (sSub v (nNat v2) (nNat (qaA v v2))) v2)],.bool (qdX 5 (sSub v (nNat v2) (nNat (qaA v v2))) v2)])) .fail) .fail)) .fail) (.ite (qfM v v2) (.ite (qaI (qaw v2) (qaw (iAdd .i64 v2 (qbA v v2))) (nNat v2) (nNat (iAdd .i64 v2 (qbA v v2))) (nLen v)) (.ite (iEq (iAdd .i64 v2 (qbA v v2)) v2) (.ret (.tup [.agg [.int .i64 0,.str [],.int .i64 0,.int .i64 0,.str [],.int .i64 0],.bool false])) (.ite (iLt 64 (sLen (sSub v (nNat v2) (nNat (iAdd .i64 v2 (qbA v v2)))))) (.ret (.tup [.agg [.int .i64 0,.str [],.int .i64 0,.int .i64 0,.str [],.int .i64 0],.bool false])) (.ite (iEq 6 3) (.ite (iNe (iAdd .i64 v2 (qbA v v2)) (iAdd .i64 v2 1)) (.ret (.tup [.agg [.int .i64 0,.str [],.int .i64 0,.int .i64 0,.str [],.int .i64 0],.bool false])) (.ret (.tup [.agg
 [.int .i64 6,.str (sSub v (nNat v2) (nNat (iAdd .i64 v2 (qbA v v2)))),.int .i64 0,.int .i64 0,.str [],.int .i64 v2],.bool true]))) (.ret (.tup [.agg [.int .i64 6,.str (sSub v (nNat v2) (nNat (iAdd .i64 v2 (qbA v v2)))),.int .i64 0,.int .i64 0,.str [],.int .i64 v2],.bool true]))))) .fail) .fail)))) .fail))) .fail)) .fail) .fail
theorem qIm (v:List UInt8) (v2:Int):(tcall tbT qwV qDs Tryz.f68 [.str v,.int .i64 v2]).flat=qto v v2:=by kernel_rfl
noncomputable def qgs (v:List UInt8) (v2:Int):Option PV:=(qto v v2).run
noncomputable def qea (v:List UInt8) (v2:Int):Int:=(gInt (gAt (gCs (gAt (gCs (gVal (qgs v v2))) 0)) 0))
noncomputable def qcN (v:List UInt8) (v2:Int):List UInt8:=(gStr (gAt (gCs (gAt (gCs (gVal (qgs v v2))) 0)) 1))
noncomputable def qcP (v:List UInt8) (v2:Int):Int:=(gInt (gAt (gCs (gAt (gCs (gVal (qgs v v2))) 0)) 2))
noncomputable def qcO (v:List UInt8) (v2:Int):Int:=(gInt (gAt (gCs (gAt (gCs (gVal (qgs v v2))) 0)) 3))
noncomputable def qcR (v:List UInt8) (v2:Int):List UInt8:=(gStr (gAt (gCs (gAt (gCs (gVal (qgs v v2))) 0)) 4))
noncomputable def qcQ (v:List UInt8) (v2:Int):Int:=(gInt (gAt (gCs (gAt (gCs (gVal (qgs v v2))) 0)) 5))
noncomputable def qgv (v:List UInt8) (v2:Int):Bool:=(qb4 (gAt (gCs (gVal (qgs v v2))) 1))
noncomputable def qfs (v:List UInt8) (v2:Int):Bool:=isW (qgs v v2) (.tup [.agg [.int .i64 (qea v v2),.str (qcN v v2),.int .i64 (qcP v v2),.int .i64 (qcO v v2),.str (qcR v v2),.int .i64 (qcQ v v2)],.bool (qgv v v2)])
noncomputable def qwd:List PV→Tr PV | [.str v,.int .i64 v2]=>.ite (qfs v v2) (.ret (.tup [.agg [.int .i64 (qea v v2),.str (qcN v v2),.int .i64 (qcP v v2),.int .i64 (qcO v v2),.str (qcR v v2),.int .i64 (qcQ v v2)],.bool (qgv v v2)])) (.fail) | _=>.fail
theorem qCH (gl:Gl):SimP Tryz.prog gl 68 fun args=>(qwd args).run:=by
 refine SimP.of_flat (G:=qwV) (L:=qDs) qav (qFt gl ) qah  Tryz.func68 rfl (by rfl) (by kernel_rfl) (qae (by kernel_rfl)) ?_
 intro args x h
 unfold qwd at h
 split at h
 ·exact (congrArg Tr.run (qIm _ _)).trans (qai h fun h=>by cases h)
 ·cases h
noncomputable def qi5:GamT:=ofL [(67,.pure qFa),(68,.pure qwd)]
theorem qrL (gl:Gl):qaR Tryz.prog gl (gam qi5):=(qac (qGp gl) (qac (qCH gl) qag))
noncomputable def qid:Code:=qeP Tryz.f38 5
def qix:LI:=⟨39,[0,5,6],fun e=>match e with | .ret=>[2,3,4] | .exit 0=>[5] | _=>[],true⟩
noncomputable def qjz:LpsT:=fun r fr σ=>.fail
noncomputable def qb6 (vs:List PV) (σ:Store):Option (PExit × List PV × Store):=lval (lstep tbT qi5 qjz qid qix) vs σ
noncomputable def qgH (s:List UInt8) (out:List (List PV)) (at_:Int):Tr LR:=.ite (iLt at_ (sLen s)) (.ite (qfs s at_) (.ite (bNot (qgv s at_)) (.ret (.out .ret [.sl (qay 0 []) .full,.int .i64 at_,.int .i64 120] ⟨[],[],[]⟩)) (.ite (qaP out [[.int .i64 (qea s at_),.str (qcN s at_),.int .i64 (qcP s at_),.int .i64 (qcO s at_),.str (qcR s at_),.int .i64 (qcQ s at_)]] 64) (.ite (qaO [[.int .i64 (qea s at_),.str (qcN s at_),.int .i64 (qcP s at_),.int .i64 (qcO s at_),.str (qcR s at_),.int .i64 (qcQ s at_)]] 6) (.ite (qaC out 6) (.ite (qf6 s (iAdd .i64 at_ (sLen (qcN s at_)))) (.ret (.next [.str s,.sl (qay 0 (xApp out [[.int .i64 (qea s at_),.str (qcN s at_),.int .i64 (qcP s at_),.int .i64 (qcO s at_),.str (qcR s at_),.int .i64 (qcQ s at_)]])) (.tok 0),.int .i64 (qdz s (iAdd .i64 at_ (sLen (qcN s at_))))] (Store.mk [] [(nXs (xApp out [[.int .i64 (qea s at_),.str (qcN s at_),.int .i64 (qcP s at_),.int .i64 (qcO s at_),.str (qcR s at_),.int .i64 (qcQ s at_)]]),6,120)] []))) .fail) .fail) .fail) .fail)) .fail) (.ret (.out (.exit 0) [.sl out .full] ⟨[],[],[]⟩))
theorem qCQ (s:List UInt8) (out:List (List PV)) (at_:Int):lstep tbT qi5 qjz qid qix [.str s,.sl out .full,.int .i64 at_] ⟨[],[],[]⟩=qgH s out at_:=by kernel_rfl
theorem qqD (s:List UInt8) (out:List (List PV)) (at_:Int):qb6 [.str s,.sl out .full,.int .i64 at_] ⟨[],[],[]⟩=lnext qb6 (qgH s out at_).run:=by unfold qb6; rw [qbK,qCQ]
noncomputable def qft (s:List UInt8) (out:List (List PV)) (at_:Int) (k:Nat):Tr LR:=.ite (iLt at_ (sLen s)) (.ite (qfs s at_) (.ite (bNot (qgv s at_)) (.ret (.out .ret [.sl (qay 0 []) .full,.int .i64 at_,.int .i64 120] (Store.mk [] [(k,6,120)] []))) (.ite (qaP out [[.int .i64 (qea s at_),.str (qcN s at_),.int .i64 (qcP s at_),.int .i64 (qcO s at_),.str (qcR s at_),.int .i64 (qcQ s at_)]] 64) (.ite (qaO [[.int .i64 (qea s at_),.str (qcN s at_),.int .i64 (qcP s at_),.int .i64 (qcO s at_),.str (qcR s at_),.int .i64 (qcQ s at_)]] 6) (.ite (qaC out 6) (.ite (nEq k (nXs out)) (.ite (qf6 s (iAdd .i64 at_ (sLen (qcN s at_)))) (.ret (.next [.str s,.sl (qay 0 (xApp out [[.int .i64 (qea s at_),.str (qcN s at_),.int .i64 (qcP s at_),.int .i64 (qcO s at_),.str (qcR s at_),.int .i64 (qcQ s at_)]])) (.tok 0),.int .i64 (qdz s (iAdd .i64 at_ (sLen (qcN s at_))))] (Store.mk [] [(nXs (xApp out [[.int .i64 (qea s at_),.str (qcN s at_),.int .i64 (qcP s at_),.int .i64 (qcO s at_),.str (qcR s at_),.int .i64 (qcQ s at_)]]),6,120)] []))) .fail) .fail) .fail) .fail) .fail)) .fail) (.ret (.out (.exit 0) [.sl out (.tok 0)] (Store.mk [] [(k,6,120)] [])))
theorem qAC (s:List UInt8) (out:List (List PV)) (at_:Int) (k:Nat):lstep tbT qi5 qjz qid qix [.str s,.sl out (.tok 0),.int .i64 at_] ⟨[],[(k,6,120)],[]⟩=qft s out at_ k:=by kernel_rfl
theorem qmO (s:List UInt8) (out:List (List PV)) (at_:Int) (k:Nat):qb6 [.str s,.sl out (.tok 0),.int .i64 at_] ⟨[],[(k,6,120)],[]⟩=lnext qb6 (qft s out at_ k).run:=by unfold qb6; rw [qbK,qAC]
noncomputable def qbR (s:List UInt8) (out:List (List PV)) (at_:Int):Option (PExit × List PV × Store):=qb6 [.str s,.sl out .full,.int .i64 at_] ⟨[],[],[]⟩
noncomputable def qdN (s:List UInt8) (out:List (List PV)) (at_:Int):List (List PV):=(gRow (gOut (qbR s out at_) 0))
noncomputable def qdI (s:List UInt8) (out:List (List PV)) (at_:Int):Int:=(gInt (gOut (qbR s out at_) 1))
noncomputable def qcY (s:List UInt8) (out:List (List PV)) (at_:Int):Int:=(gInt (gOut (qbR s out at_) 2))
noncomputable def qer (s:List UInt8) (out:List (List PV)) (at_:Int):Bool:=isW (qbR s out at_) (.ret,[.sl (qdN s out at_) .full,.int .i64 (qdI s out at_),.int .i64 (qcY s out at_)],⟨[],[],[]⟩)
noncomputable def qcu (s:List UInt8) (out:List (List PV)) (at_:Int):List (List PV):=(gRow (gOut (qbR s out at_) 0))
noncomputable def qex (s:List UInt8) (out:List (List PV)) (at_:Int):Bool:=isW (qbR s out at_) ((.exit 0),[.sl (qcu s out at_) .full],⟨[],[],[]⟩)
noncomputable def qdD (s:List UInt8) (out:List (List PV)) (at_:Int):List (List PV):=(gRow (gOut (qbR s out at_) 0))
noncomputable def qdL (s:List UInt8) (out:List (List PV)) (at_:Int):Int:=(gInt (gOut (qbR s out at_) 1))
noncomputable def qdf (s:List UInt8) (out:List (List PV)) (at_:Int):Int:=(gInt (gOut (qbR s out at_) 2))
noncomputable def qez (s:List UInt8) (out:List (List PV)) (at_:Int):Nat:=(gTok (qbR s out at_) 0)
noncomputable def qeE (s:List UInt8) (out:List (List PV)) (at_:Int):Bool:=isW (qbR s out at_) (.ret,[.sl (qdD s out at_) .full,.int .i64 (qdL s out at_),.int .i64 (qdf s out at_)],⟨[],[((qez s out at_),6,120)],[]⟩)
noncomputable def qcz (s:List UInt8) (out:List (List PV)) (at_:Int):List (List PV):=(gRow (gOut (qbR s out at_) 0))
noncomputable def qeo (s:List UInt8) (out:List (List PV)) (at_:Int):Nat:=(gTok (qbR s out at_) 0)
noncomputable def qei (s:List UInt8) (out:List (List PV)) (at_:Int):Bool:=isW (qbR s out at_) ((.exit 0),[.sl (qcz s out at_) (.tok 0)],⟨[],[((qeo s out at_),6,120)],[]⟩)
noncomputable def qgm:List PV→Store→Tr (PExit × List PV × Store) | [.str s,.sl out .full,.int .i64 at_],⟨[],[],[]⟩=>.ite (qer s out at_) (.ret (.ret,[.sl (qdN s out at_) .full,.int .i64 (qdI s out at_),.int .i64 (qcY s out at_)],⟨[],[],[]⟩)) (.ite (qex s out at_) (.ret ((.exit 0),[.sl (qcu s out at_) .full],⟨[],[],[]⟩)) (.ite (qeE s out at_) (.ret (.ret,[.sl (qdD s out at_) .full,.int .i64 (qdL s out at_),.int .i64 (qdf s out at_)],⟨[],[((qez s out at_),6,120)],[]⟩)) (.ite (qei s out at_) (.ret ((.exit 0),[.sl (qcz s out at_) (.tok 0)],⟨[],[((qeo s out at_),6,120)],[]⟩)) (.fail)))) | _,_=>.fail
theorem qAY:∀ vs σ r,(qgm vs σ).run=some r→qb6 vs σ=some r:=by
 intro vs σ r h
 unfold qgm at h
 split at h
 ·exact qai h fun h=>qai h fun h=>qai h fun h=>qai h fun h=>by cases h
 ·cases h
theorem qvO (gl:Gl):∀ fr σ e fr' σ',(orc qix qgm fr σ).run=some (e,fr',σ')→LDoes Tryz.prog gl qid fr σ e fr' σ':=qcs qav (qrL gl ) qah (L:=qjz) (qae (by kernel_rfl)) (by kernel_rfl) qAY
noncomputable def qs4:LpsT:=fun r fr σ=>bif Nat.beq r 5 then orc qix qgm fr σ else .fail
noncomputable def qpM (s:List UInt8):Tr PV:=.ite (iLt 65536 (sLen s)) (.ret (.tup [.sl [] .non,.int .i64 0,.int .i64 2])) (.ite (qf6 s 0) (.ite (qer s [] (qdz s 0)) (.ret (.tup [.sl (qb5 (qdN s [] (qdz s 0))) .non,.int .i64 (qdI s [] (qdz s 0)),.int .i64 (qcY s [] (qdz s 0))])) (.ite (qex s [] (qdz s 0)) (.ret (.tup [.sl (qb5 (qcu s [] (qdz s 0))) .non,.int .i64 0,.int .i64 0])) (.ite (qeE s [] (qdz s 0)) (.ret (.tup [.sl (qb5 (qdD s [] (qdz s 0))) .non,.int .i64 (qdL s [] (qdz s 0)),.int .i64 (qdf s [] (qdz s 0))])) (.ite (qei s [] (qdz s 0)) (.ret (.tup [.sl (qb5 (qcz s [] (qdz s 0))) .non,.int .i64 0,.int .i64 0])) .fail)))) .fail)
theorem qGw (s:List UInt8):(tcall tbT qi5 qs4 Tryz.f38 [.str s]).flat=qpM s:=by kernel_rfl
noncomputable def qhc (s:List UInt8):Option PV:=(qpM s).run
noncomputable def qn6 (s:List UInt8):List (List PV):=(gRow (gAt (gCs (gVal (qhc s))) 0))
noncomputable def qoe (s:List UInt8):Int:=(gInt (gAt (gCs (gVal (qhc s))) 1))
noncomputable def qiJ (s:List UInt8):Int:=(gInt (gAt (gCs (gVal (qhc s))) 2))
noncomputable def qiP (s:List UInt8):Bool:=isW (qhc s) (.tup [.sl (qn6 s) .non,.int .i64 (qoe s),.int .i64 (qiJ s)])
noncomputable def qtf:List PV→Tr PV | [.str s]=>.ite (qiP s) (.ret (.tup [.sl (qn6 s) .non,.int .i64 (qoe s),.int .i64 (qiJ s)])) (.fail) | _=>.fail
theorem qz7 (gl:Gl):SimP Tryz.prog gl 38 fun args=>(qtf args).run:=by
 refine SimP.of_flat (G:=qi5) (L:=qs4) qav (qrL gl ) qah  Tryz.func38 rfl (by rfl) (by kernel_rfl) (qbg (L:=lps qs4) [(5,qid)] (by kernel_rfl) (List.forall_mem_cons.2 ⟨fun fr σ e fr' σ' h=>qvO gl  fr σ e fr' σ' h,(List.forall_mem_nil _)⟩)) ?_
 intro args x h
 unfold qtf at h
 split at h
 ·exact (congrArg Tr.run (qGw _)).trans (qai h fun h=>by cases h)
 ·cases h
end Go.Pv
