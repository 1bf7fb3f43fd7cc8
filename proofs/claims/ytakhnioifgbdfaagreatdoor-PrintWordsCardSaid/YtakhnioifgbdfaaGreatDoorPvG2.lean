/- Part 2 of the proof: pure values for the machine's values, what functions compute over them, and laws of what is computed. Conditions: none beyond each theorem's own premises. -/
import Derived.Test.YtakhnioifgbdfaaGreatDoorPvG1
import Derived.RangeFuncLeaves
import Derived.RangeFuncRecord
import Derived.WalkKit
import Derived.ProofKit
import Derived.OpenShut
import Derived.Deep.DeepHandedRow
import Derived.Lib.LaidTab
import Derived.Carry
import Derived.Test.YtakhnioifgbdfaaGreatDoorProg
import Derived.Test.YtakhnioifgbdfaaGreatDoorShelf
import Derived.Lib.AppendIntMem
import Derived.Lib.ItoaLen
import Derived.Lib.ParseIntBTie
import Derived.Shelf.Strings.BuilderK
set_option linter.unusedSimpArgs false
set_option linter.unusedVariables false
namespace Go.Pv
open Go.RowKit
def PExit.as:PExit→Exit
 | .normal=>.normal
 | .exit id=>.exit id
 | .ret=>.ret
section
variable {P : Program} {tb : Tab} {gl : Gl} {Γ : Gam} {H0 : Gh} {w0 : World}
def RIn (r:Option Nat) (H:Gh):Prop:=∀ l,r=some l→∃ (t:Nat) (T:Tok),H.tk[t]?=some T∧T.k=0∧T.blk=l
theorem RIn.none (H:Gh):RIn none H:=fun l h=>by cases h
theorem RIn.ev {gl:Gl} {r:Option Nat} {H H':Gh} {w w':World} (h:RIn r H) (e:Ev gl H w H' w'):RIn r H':=fun l hl=>by
 obtain ⟨t,T,h1,h2,h3⟩:=h l hl
 obtain ⟨T',g1,g2⟩:=e.tok t T h1
 obtain ⟨a1,a2,_⟩:=g2.lp h2
 exact ⟨t,T',g1,a1,a2.trans h3⟩
def Does (P:Program) (gl:Gl) (c:Code) (fr:List PV) (σ:Store) (e:PExit) (fr':List PV) (σ':Store):Prop :=
 ∀ (r:Option Nat) (n:Nat) (H0:Gh) (w0:World),RIn r H0→∀ (Q:Exit→Act→World→Prop) (a:Act) (w:World),St gl H0 w0 fr σ a w→(∀ a' w',St gl H0 w0 fr' σ' a' w'→Q e.as a' w')→c.wpIn (rnd r) n P Q a w
def LDoes (P:Program) (gl:Gl) (c:Code) (fr:List PV) (σ:Store) (e:PExit) (fr':List PV) (σ':Store):Prop :=
 ∀ (H0:Gh) (w0:World) (Q:Exit→Act→World→Prop) (a:Act) (w:World),St gl H0 w0 fr σ a w→(∀ a' w',St gl H0 w0 fr' σ' a' w'→Q e.as a' w') →
  ∀ (b:Frame) (k:List Item) (cs:List Frame),RIn b.roundOf H0→∃ e a' w',Q e a' w'∧ArrivesIn (Machine.fenced P (rnd b.roundOf)) P (lone (b.atR a (.code c :: .inLoop c :: k)) cs w) b k cs e a' w'
def Weak:List PV→List PV→Prop
 | [],[]=>True
 | x :: xs,y :: ys=>(y=.top∨y=x)∧Weak xs ys
 | _,_=>False
theorem Weak.refl:∀ (xs:List PV),Weak xs xs
 | []=>trivial
 | _ :: xs=>⟨.inr rfl,Weak.refl xs⟩
theorem Weak.rel {H:Gh} {w:World}:∀ {xs ys:List PV} {vs:List Value},Weak xs ys→RelL H w xs vs→RelL H w ys vs
 | [],[],_,_,h=>h
 | x :: xs,y :: ys,_,hw,h=>by
  cases h with
  | cons _ v _ vs h ht =>
   refine .cons _ _ _ _ ?_ (Weak.rel hw.2 ht)
   rcases hw.1 with rfl | rfl
   ·exact .top v
   ·exact h
 | [],_ :: _,_,hw,_=>hw.elim
 | _ :: _,[],_,hw,_=>hw.elim
theorem qxd {H0:Gh} {w0:World} {fr fr':List PV} {σ:Store} {a:Act} {w:World} (hw:Weak fr fr') (h:St gl H0 w0 fr σ a w):St gl H0 w0 fr' σ a w:=by
 obtain ⟨H,hev,hok,hfr,hd⟩:=h
 exact ⟨H,hev,hok,hw.rel hfr,hd⟩
theorem LDoes.into {c:Code} {fr fr1:List PV} {σ:Store} {e:PExit} {fr':List PV} {σ':Store} (hw:Weak fr fr1) (h:LDoes P gl c fr1 σ e fr' σ'):LDoes P gl c fr σ e fr' σ' :=
 fun H0 w0 Q a w hst hq=>h H0 w0 Q a w (qxd hw hst) hq
theorem LDoes.outof {c:Code} {fr:List PV} {σ:Store} {e:PExit} {fr1 fr':List PV} {σ':Store} (h:LDoes P gl c fr σ e fr1 σ') (hw:Weak fr1 fr'):LDoes P gl c fr σ e fr' σ' :=
 fun H0 w0 Q a w hst hq=>h H0 w0 Q a w hst fun a' w' hs=>hq a' w' (qxd hw hs)
theorem LDoes.next {c:Code} {fr:List PV} {σ:Store} {fr1:List PV} {σ1:Store} {e:PExit} {fr':List PV} {σ':Store} (h:Does P gl c fr σ .normal fr1 σ1) (h':LDoes P gl c fr1 σ1 e fr' σ'):LDoes P gl c fr σ e fr' σ':=by
 intro H0 w0 Q a w hst hq b k cs hR
 obtain ⟨e1,a1,w1,hq1,harr⟩:=h b.roundOf 0 H0 w0 hR (fun e' a' w'=>e'=.normal∧St gl H0 w0 fr1 σ1 a' w') a w hst (fun a' w' hs=>⟨rfl,hs⟩) b (.inLoop c :: k) cs rfl trivial (qov _ _)
 obtain ⟨rfl,hs⟩:=hq1
 obtain ⟨e2,a2,w2,hq2,harr2⟩:=h' H0 w0 Q a1 w1 hs hq b k cs hR
 exact ⟨e2,a2,w2,hq2,.of_steps (StepsIn.trans harr (.one (fenced_calm (n:=0) trivial (qov _ _) rfl) stepR_inLoop)) harr2⟩
theorem LDoes.out {c:Code} {fr:List PV} {σ:Store} {e:PExit} {fr':List PV} {σ':Store} (h:Does P gl c fr σ e fr' σ') (hne:e≠.normal):LDoes P gl c fr σ e fr' σ':=by
 intro H0 w0 Q a w hst hq b k cs hR
 obtain ⟨e1,a1,w1,hq1,harr⟩:=h b.roundOf 0 H0 w0 hR (fun e' a' w'=>e'=e.as∧Q e' a' w') a w hst (fun a' w' hs=>⟨rfl,hq a' w' hs⟩) b (.inLoop c :: k) cs rfl trivial (qov _ _)
 obtain ⟨rfl,hq1⟩:=hq1
 cases e with
 | normal=>exact absurd rfl hne
 | exit id=>exact ⟨_,a1,w1,hq1,.pass (x:=.inLoop c) rfl (fun _ _=>.inl (by simp [PExit.as])) harr⟩
 | ret=>exact ⟨_,a1,w1,hq1,.pass (x:=.inLoop c) rfl (fun _ _=>.inl (by simp [PExit.as])) harr⟩
def qcj (P:Program) (gl:Gl) (L:Lps):Code→Prop
 | .seq a b=>qcj P gl L a∧qcj P gl L b
 | .cond _ a b=>qcj P gl L a∧qcj P gl L b
 | .block _ c=>qcj P gl L c
 | .loop c=>∀ fr σ e fr' σ',L (rid c) fr σ=some (e,fr',σ')→LDoes P gl c fr σ e fr' σ'
 | .rangeFunc g ps x y=>∀ fr σ e fr' σ',L (rfid x y) fr σ=some (e,fr',σ')→Does P gl (.rangeFunc g ps x y) fr σ e fr' σ'
 | _=>True
def qbE (Γ:Gam):Code→Bool
 | .region _ ops draw=>!draw || ordered Γ ops.toList || (mixed ops.toList && qcy true Γ ops.toList)
 | .seq a b=>qbE Γ a && qbE Γ b
 | .cond _ a b=>qbE Γ a && qbE Γ b
 | .block _ c=>qbE Γ c
 | .loop _=>true
 | _=>true
theorem qby (hT:qbY P tb) (hΓ:qaR P gl Γ) (hm:P.follows .mixedOrders=true) {L:Lps}:∀ (c:Code) (fr:List PV) (σ:Store) (e:PExit) (fr':List PV) (σ':Store),
  qcj P gl L c→qbE Γ c=true→pexec tb Γ L c fr σ=some (e,fr',σ')→Does P gl c fr σ e fr' σ':=by
 intro c
 induction c with
 | skip =>
  intro fr σ e fr' σ' hL hd h r n H0 w0 hR Q a w hst hq
  simp only [pexec,Option.some.injEq,Prod.mk.injEq] at h
  obtain ⟨rfl,rfl,rfl⟩:=h
  exact wpIn_skip (hq _ _ hst)
 | label l =>
  intro fr σ e fr' σ' hL hd h r n H0 w0 hR Q a w hst hq
  simp only [pexec,Option.some.injEq,Prod.mk.injEq] at h
  obtain ⟨rfl,rfl,rfl⟩:=h
  exact wpIn_label (hq _ _ hst)
 | exit id =>
  intro fr σ e fr' σ' hL hd h r n H0 w0 hR Q a w hst hq
  simp only [pexec,Option.some.injEq,Prod.mk.injEq] at h
  obtain ⟨rfl,rfl,rfl⟩:=h
  exact wpIn_exit (hq _ _ hst)
 | ret =>
  intro fr σ e fr' σ' hL hd h r n H0 w0 hR Q a w hst hq
  simp only [pexec,Option.some.injEq,Prod.mk.injEq] at h
  obtain ⟨rfl,rfl,rfl⟩:=h
  exact wpIn_ret (hq _ _ hst)
 | region id ops draw =>
  intro fr σ e fr' σ' hL hd h r n H0 w0 hR Q a w hst hq
  simp only [pexec] at h
  split at h
  ·rename_i fr1 σ1 hp
   split at h
   ·cases h
   rename_i hna
   simp only [Option.some.injEq,Prod.mk.injEq] at h
   obtain ⟨rfl,rfl,rfl⟩:=h
   refine qvv hT hΓ hm hst hp (fun hdr=>?_) (fun a' w' hst'=>hq _ _ hst') r n
   simp only [qbE,hdr,Bool.not_true,Bool.false_or,Bool.or_eq_true,Bool.and_eq_true] at hd
   rcases hd with hd | ⟨hd1,hd2⟩
   ·exact .inl hd
   ·cases ho:ordered Γ ops.toList with
    | true=>exact .inl rfl
    | false =>
     refine .inr ⟨hd2,?_⟩
     cases hal:qeZ Γ ops.toList fr1 σ.objs.length with
     | true=>rfl
     | false=>simp [qCG,hdr,hd1,ho,hal] at hna
  ·cases h
 | seq x y ihx ihy =>
  intro fr σ e fr' σ' hL hd h r n H0 w0 hR Q a w hst hq
  simp only [qbE,Bool.and_eq_true] at hd
  simp only [pexec] at h
  refine wpIn_seq ?_
  split at h
  ·rename_i fr1 σ1 hx
   exact ihx _ _ _ _ _ hL.1 hd.1 hx r n H0 w0 hR _ _ _ hst fun a1 w1 hst1=>ihy _ _ _ _ _ hL.2 hd.2 h r n H0 w0 hR _ _ _ hst1 hq
  ·rename_i hne
   refine ihx _ _ _ _ _ hL.1 hd.1 h r n H0 w0 hR _ _ _ hst fun a1 w1 hst1=>?_
   cases e with
   | normal=>exact absurd h (hne _ _)
   | exit id=>exact hq _ _ hst1
   | ret=>exact hq _ _ hst1
 | cond c x y ihx ihy =>
  intro fr σ e fr' σ' hL hd h r n H0 w0 hR Q a w hst hq
  simp only [qbE,Bool.and_eq_true] at hd
  simp only [pexec] at h
  split at h
  ·rename_i t ht
   have hr:a.eval c=.bool t:=by
    obtain ⟨H,hev,hok,hfr,hd⟩:=hst
    have hr:=qbC hfr c
    rw [ht] at hr
    generalize a.eval c=v at hr
    cases hr
    rfl
   refine wpIn_cond hr ?_
   cases t with
   | true=>exact ihx _ _ _ _ _ hL.1 hd.1 h r n H0 w0 hR _ _ _ hst hq
   | false=>exact ihy _ _ _ _ _ hL.2 hd.2 h r n H0 w0 hR _ _ _ hst hq
  ·cases h
 | block id c ih =>
  intro fr σ e fr' σ' hL hd h r n H0 w0 hR Q a w hst hq
  simp only [pexec] at h
  refine wpIn_block ?_
  split at h
  ·rename_i j fr1 σ1 hx
   split at h
   ·rename_i hj
    subst hj
    simp only [Option.some.injEq,Prod.mk.injEq] at h
    obtain ⟨rfl,rfl,rfl⟩:=h
    refine ih _ _ _ _ _ hL hd hx r n H0 w0 hR _ _ _ hst fun a1 w1 hst1=>?_
    simp only [PExit.as,Exit.inBlock,if_true]
    exact hq _ _ hst1
   ·rename_i hj
    simp only [Option.some.injEq,Prod.mk.injEq] at h
    obtain ⟨rfl,rfl,rfl⟩:=h
    refine ih _ _ _ _ _ hL hd hx r n H0 w0 hR _ _ _ hst fun a1 w1 hst1=>?_
    simp only [PExit.as,Exit.inBlock,hj,if_false]
    exact hq _ _ hst1
  ·rename_i hne
   refine ih _ _ _ _ _ hL hd h r n H0 w0 hR _ _ _ hst fun a1 w1 hst1=>?_
   cases e with
   | normal=>exact hq _ _ hst1
   | exit j=>exact absurd h (hne _ _ _)
   | ret=>exact hq _ _ hst1
 | loop c ih =>
  intro fr σ e fr' σ' hL hd h r n H0 w0 hR Q a w hst hq
  simp only [pexec] at h
  intro b k cs hro hb hroom
  obtain rfl:b.roundOf=r:=hro
  obtain ⟨e1,a1,w1,hq1,harr⟩:=hL fr σ e fr' σ' h H0 w0 Q a w hst hq b k cs hR
  exact ⟨e1,a1,w1,hq1,.of_steps (.one (fenced_calm (n:=0) trivial (qov _ _) rfl) stepR_loop) harr⟩
 | scope c ih=>intro fr σ e fr' σ' hL hd h; simp [pexec] at h
 | goto l=>intro fr σ e fr' σ' hL hd h; simp [pexec] at h
 | refuse s=>intro fr σ e fr' σ' hL hd h; simp [pexec] at h
 | rangeFunc f ps x y ihx ihy =>
  intro fr σ e fr' σ' hL hd h
  simp only [pexec] at h
  exact hL fr σ e fr' σ' h
def resF (tmps:Array Value):ResultVar→Sem Value
 | .tmp t=>pure (tmps.getD t undef)
 | .cell c t=>do loadVar t (← asAddr (tmps.getD c undef))
theorem qzX (hT:qbY P tb) {H:Gh} {σ:Store} {w:World} (hok:Ok gl H σ w) {fr:List PV} {a:Act} (hfr:RelL H w fr a.tmps.toList) {r:ResultVar} {x:PV} (h:presult tb fr σ r=some x) :
  ∃ v,(resF a.tmps r).run P w=.ok v w∧Rel H w x v:=by
 have get:∀ t,Rel H w (fr.getD t .top) (a.tmps.getD t undef):=fun t=>by
  have:=hfr.getD t undef
  rw [Array.getD_eq_getD_getElem?]
  rw [List.getD_eq_getElem?_getD] at this ⊢
  simpa using this
 cases r with
 | tmp t =>
  simp only [presult,Option.some.injEq] at h
  subst h
  exact ⟨_,rfl,get t⟩
 | cell c t =>
  simp only [presult] at h
  split at h
  ·rename_i K id off hK hx
   split at h
   ·rename_i cs hcs
    have hr:=get c
    rw [hx] at hr
    generalize hv:a.tmps.getD c undef=v at hr
    cases hr with
    | ptr _ _ b hb =>
     obtain ⟨u,hu,hru⟩:=qzw hT hok hK (.ptr id off b hb) (.inl ⟨id,off,cs,rfl,hcs,h⟩)
     refine ⟨u,?_,hru⟩
     simp only [Instr.loadAt,Instr.sureAddr,Sem.run_bind,Sem.run_pure,Result.andThen_ok] at hu
     simp only [resF,hv,asAddr,Sem.run_bind,Sem.run_pure,Result.andThen_ok]
     exact hu
   ·cases h
  ·cases h
theorem qgW (hT:qbY P tb) {H:Gh} {σ:Store} {w:World} (hok:Ok gl H σ w) {fr:List PV} {a:Act} (hfr:RelL H w fr a.tmps.toList):∀ (rs:List ResultVar) (xs:List PV),presults tb fr σ rs=some xs →
  ∃ vs,(rs.mapM (resF a.tmps)).run P w=.ok vs w∧RelL H w xs vs
 | [],xs,h=>by
  simp only [presults,Option.some.injEq] at h
  subst h
  exact ⟨[],by simp,.nil⟩
 | r :: rs,xs,h=>by
  simp only [presults] at h
  split at h
  ·rename_i x xs' h1 h2
   simp only [Option.some.injEq] at h
   subst h
   obtain ⟨v,hv,hr⟩:=qzX hT hok hfr h1
   obtain ⟨vs,hvs,hrs⟩:=qgW hT hok hfr rs xs' h2
   refine ⟨v :: vs,?_,.cons _ _ _ _ hr hrs⟩
   rw [List.mapM_cons]
   simp only [Sem.run_bind,hv,Result.andThen_ok,hvs,Sem.run_pure]
  ·cases h
theorem qJv {gl:Gl} {H H':Gh} {w w':World} (hev:Ev gl H w H' w') (ho:H.ob=[]) (ht:H.tk=[]) {x:PV} {v:Value} (h:Rel H' w' x v):Rel { H with aux:=fun _ _=>False } w' (shut x) v:=by
 refine qsB (fun b off hp=>⟨⟨hp.1,fun hB=>?_,by simp [ho],by simp [ht]⟩,fun _=>rfl⟩) h
 have:=hp.2.1
 rw [hev.B,hev.base] at this
 exact this hB
theorem qqw {gl:Gl} {H H':Gh} {σ:Store} {w w':World} (hev:Ev gl H w H' w') (hok:Ok gl H' σ w') (ho:H.ob=[]) (ht:H.tk=[]) {x:PV} {v:Value} (h:Rel H' w' x v):Rel { H with aux:=fun _ _=>False } w' (shut (oview σ.objs x)) v:=by
 cases x with
 | osl id off len k =>
  simp only [oview]
  split
  ·rename_i cs hcs
   split
   ·rename_i hle
    cases h with
    | osl _ _ off' _ cap _ b hb hoff hcap hm =>
     obtain ⟨hB,us,ext,T,he,hr⟩:=hok.obj id b cs hb hcs
     have hchunks:=qjA (H:=H') (w:=w') k len _ _ (hr.drop off)
     have hp:∀ b off,H'.prot w' b off→({ H with aux:=fun _ _=>False }:Gh).prot w' b off∧∀ s,w'.cell? ⟨b,off,s⟩=w'.cell? ⟨b,off,s⟩:=fun b off hp=>⟨⟨hp.1,fun hB=>by
      have:=hp.2.1
      rw [hev.B,hev.base] at this
      exact this hB,by simp [ho],by simp [ht]⟩,fun _=>rfl⟩
     simp only [shut]
     refine .sl (some ⟨b,off',none⟩) len cap k _ (vchunks k len (us.drop off)) .non (by rw [qmU]; exact qi1 _ _ _) hcap hm (qm9 hp hchunks) (fun i vs hi=>?_) trivial
     obtain ⟨rfl,hil⟩:=qko k len _ i vs hi
     obtain rfl:=hoff (by omega)
     have hul:=hr.len
     have hik:i * k+k≤len * k:=by
      have:(i+1) * k≤len * k:=Nat.mul_le_mul_right k hil
      rwa [Nat.add_mul,Nat.one_mul] at this
     refine ⟨by simp; omega,_,rfl,fun j u hj=>?_⟩
     have hjk:j < k:=by
      have:=(List.getElem?_eq_some_iff.1 hj).1
      simp at this
      omega
     have hcell:us[off'+i * k+j]?=some u:=by
      rw [List.getElem?_take,if_pos hjk,List.getElem?_drop,List.getElem?_drop] at hj
      rw [← hj]
      congr 1
      omega
     rw [qcn,qcn]
     refine ⟨⟨qax he,fun hlt=>?_,by simp [ho],by simp [ht]⟩,?_⟩
     ·have:H.B≤b:=by rw [← hev.B]; exact hB
      have:b < H.B:=hlt
      omega
     ·rw [cell_of_row w' b (off'+i * k+j) (us++ext).toArray T (0,0) he]
      simpa using qsW hcell
   ·simp only [shut]; exact .top _
  ·simp only [shut]; exact .top _
 | _=>exact qJv hev ho ht h
theorem qmR {gl:Gl} {H H':Gh} {σ:Store} {w w':World} (hev:Ev gl H w H' w') (hok:Ok gl H' σ w') (ho:H.ob=[]) (ht:H.tk=[]):∀ {xs:List PV} {vs:List Value},RelL H' w' xs vs→RelL { H with aux:=fun _ _=>False } w' (qfe (xs.map (oview σ.objs))) vs
 | _,_,.nil=>by simp only [List.map_nil,qfe]; exact .nil
 | _,_,.cons x v xs vs h hs=>by simp only [List.map_cons,qfe]; exact .cons _ _ _ _ (qqw hev hok ho ht h) (qmR hev hok ho ht hs)
theorem qm1 {fn:Func} {tmps:Array Value}:results fn tmps=(do
  let vs ← fn.results.toList.mapM (resF tmps)
  pure (if h:vs.toArray.size=1 then vs.toArray[0] else .tuple vs.toArray)):=by
 have h:∀ g:ResultVar→Sem Value,(∀ r,g r=resF tmps r)→(do
   let vs ← fn.results.mapM g
   pure (if h:vs.size=1 then vs[0] else .tuple vs):Sem Value)=(do
   let vs ← fn.results.toList.mapM (resF tmps)
   pure (if h:vs.toArray.size=1 then vs.toArray[0] else .tuple vs.toArray)):=by
  intro g hg
  have:g=resF tmps:=funext hg
  subst this
  rw [Array.mapM_eq_mapM_toList]
  simp only [bind_map_left]
 exact h _ (fun r=>by cases r <;> rfl)
theorem Mono.trans {H H1 H2:Gh} {w w1 w2:World} (h:Mono H w H1 w1) (k:Mono H1 w1 H2 w2):Mono H w H2 w2 where
 ob:=fun id b e=>k.ob id b (h.ob id b e)
 tok:=qu6 h.tok k.tok
 prot:=fun b off e=>by
  obtain ⟨p1,c1⟩:=h.prot b off e
  obtain ⟨p2,c2⟩:=k.prot b off p1
  exact ⟨p2,fun s=>(c2 s).trans (c1 s)⟩
 prot2:=fun b off e=>by
  obtain ⟨p1,c1⟩:=h.prot2 b off e
  obtain ⟨p2,c2⟩:=k.prot2 b off p1
  exact ⟨p2,fun s=>(c2 s).trans (c1 s)⟩
theorem Mono.setK (H:Gh) (w:World) (k:Nat):Mono { H with K:=k } w H w:=⟨fun _ _ h=>h,fun t T h=>⟨T,h,.refl T⟩,fun b off h=>⟨h,fun _=>rfl⟩,fun b off h=>⟨h,fun _=>rfl⟩⟩
theorem Mono.setK' (H:Gh) (w:World) (k:Nat):Mono H w { H with K:=k } w:=⟨fun _ _ h=>h,fun t T h=>⟨T,h,.refl T⟩,fun b off h=>⟨h,fun _=>rfl⟩,fun b off h=>⟨h,fun _=>rfl⟩⟩
theorem Ok.setK {gl:Gl} {H:Gh} {σ:Store} {w:World} (h:Ok gl H σ w) (k:Nat):Ok gl { H with K:=k } σ w :=
 ⟨h.B,h.gl,h.len,fun id b cs e1 e2=>by
  obtain ⟨h1,vs,ext,T,he,hr⟩:=h.obj id b cs e1 e2
  exact ⟨h1,vs,ext,T,he,hr.mono (Mono.setK' H w k)⟩,h.nd,h.tkl,fun t T e hvv=>by
  obtain ⟨h1,h2,o,he,ho⟩:=h.tok t T e hvv
  exact ⟨h1,h2,o,he,ho.mono (Mono.setK' H w k)⟩,h.tnd,h.tyl,h.ty⟩
theorem Ev.setK {gl:Gl} {H H':Gh} {w w':World} {k:Nat} (h:Ev gl { H with K:=k } w H' w'):Ev gl H w { H' with K:=H.K } w' :=
 ⟨h.B,h.base,h.aux,rfl,h.os,h.tape,h.output,h.size,h.ob,h.tok,h.prot,h.block,h.dr,h.fix,h.old⟩
theorem qcq (w:World) (r:Nat) (o:Obj):(w.putObj r o).heap.size=w.heap.size:=by simp [World.putObj]
theorem qIy {gl:Gl} {H H':Gh} {w w1:World} {D:Nat} {ds ds':Option (List Deferred)} (h:Ev gl H w H' w1) (hB:H.B≤D) (hw:w.heap.size≤D) (hd:w1.heap[D]?=some (.deferred ds)):Ev gl H w H' (w1.putObj D (.deferred ds')) where
 B:=h.B
 base:=h.base
 aux:=h.aux
 K:=h.K
 os:=h.os
 tape:=h.tape
 output:=h.output
 size:=by rw [qcq]; exact h.size
 ob:=h.ob
 tok:=h.tok
 prot:=fun b off hp=>by
  obtain ⟨h1,h2⟩:=h.prot b off hp
  have hne:b≠D:=fun e=>by have:=hp.1; omega
  exact ⟨⟨by rw [qcq]; exact h1.1,h1.2⟩,fun s=>(World.cell?_of_block (a:=⟨b,off,s⟩) (World.putObj_heap_other hne)).trans (h2 s)⟩
 block:=fun b hb=>(World.putObj_heap_other (by omega)).trans (h.block b hb)
 dr:=h.dr
 fix:=fun b l hb=>(World.putObj_heap_other (by have:=qax hb; omega)).trans (h.fix b l hb)
 old:=h.old
theorem qqE {H:Gh} {w:World} {D:Nat} {ds ds':Option (List Deferred)} (hd:w.heap[D]?=some (.deferred ds)):Mono H w H (w.putObj D (.deferred ds')):=by
 have hs:(w.putObj D (.deferred ds')).heap.size=w.heap.size:=qcq ..
 have hlt:=qax hd
 have hc:∀ b off s,(w.putObj D (.deferred ds')).cell? ⟨b,off,s⟩=w.cell? ⟨b,off,s⟩:=fun b off s=>by
  by_cases e:b=D
  ·subst e
   simp only [World.cell?,World.putObj_heap_same hlt,hd]
  ·exact World.cell?_of_block (a:=⟨b,off,s⟩) (World.putObj_heap_other e)
 refine ⟨fun _ _ h=>h,fun t T h=>⟨T,h,.refl T⟩,fun b off hp=>⟨⟨by rw [hs]; exact hp.1,hp.2⟩,hc b off⟩,fun b off hp=>⟨?_,hc b off⟩⟩
 rcases hp with hp | hp
 ·exact .inl ⟨by rw [hs]; exact hp.1,hp.2⟩
 ·exact .inr hp
theorem qKM {gl:Gl} {H:Gh} {σ:Store} {w:World} {D:Nat} {ds ds':Option (List Deferred)} (h:Ok gl H σ w) (hB:H.B≤D) (hd:w.heap[D]?=some (.deferred ds)):Ok gl H σ (w.putObj D (.deferred ds')) where
 B:=by rw [qcq]; exact h.B
 gl:=fun b o e=>⟨(h.gl b o e).1,(World.putObj_heap_other (by have:=(h.gl b o e).1; omega)).trans (h.gl b o e).2⟩
 len:=h.len
 obj:=fun id b cs e1 e2=>by
  obtain ⟨h1,vs,ext,T,he,hr⟩:=h.obj id b cs e1 e2
  have hne:b≠D:=fun e=>by subst e; rw [he] at hd; cases hd
  exact ⟨h1,vs,ext,T,(World.putObj_heap_other hne).trans he,hr.mono (qqE hd)⟩
 nd:=h.nd
 tkl:=h.tkl
 tok:=fun t T e hvv=>by
  obtain ⟨h1,h2,o,he,ho⟩:=h.tok t T e hvv
  have hne:T.blk≠D:=fun e=>by
   subst e
   rw [he] at hd
   cases hd
   rcases ho with ⟨_,cur,fz,e,_⟩ | ⟨_,_,r,e,_⟩ <;> cases e
  exact ⟨h1,h2,o,(World.putObj_heap_other hne).trans he,ho.mono (qqE hd)⟩
 tnd:=h.tnd
 tyl:=h.tyl
 ty:=fun id b T cs e1 e2 e3 hT=>by
  obtain ⟨us,he,hs⟩:=h.ty id b T cs e1 e2 e3 hT
  have hne:b≠D:=fun e=>by subst e; rw [he] at hd; cases hd
  exact ⟨us,(World.putObj_heap_other hne).trans he,hs⟩
theorem qf9 {P:Program} {gl:Gl} {fn:Func} {tmps:Array Value} {R:Ending→World→Prop} {H H':Gh} {w0:World} {σ:Store} (hB:H.B≤w0.heap.size) (hB':H'.B=H.B) :
  ∀ (Ds:List Nat) (w:World),Ev gl H w0 H' w→Ok gl H' σ w→Mono H' w H' w→Ds.Nodup→(∀ D ∈ Ds,w0.heap.size≤D∧w.heap[D]?=some (.deferred (some []))) →
   (∀ w',Ev gl H w0 H' w'→Ok gl H' σ w'→Mono H' w H' w'→∃ v,(results fn tmps).run P w'=.ok v w'∧R (.returned v) w') →
   LeavesInM (rnd none) 0 P fn tmps R (Ds.map fun D=>{ target:=.collected D,args:=#[] }) .returning w
 | [],w,hev,hok,_,_,_,hR=>by
  obtain ⟨v,h1,h2⟩:=hR w hev hok (Ev.refl (gl:=gl) H' w).mono
  exact ⟨v,h1,h2⟩
 | D :: Ds,w,hev,hok,hmo,hnd,hD,hR=>by
  obtain ⟨d1,d2⟩:=hD D (List.mem_cons_self ..)
  have hBD:H.B≤D:=Nat.le_trans hB d1
  have hnd':=List.nodup_cons.1 hnd
  refine ⟨by simp,.inl ⟨D,w.putObj D (.deferred none),rfl,run_takeDeferred d2,?_⟩⟩
  have hev':=qIy (ds':=none) hev hBD d1 d2
  have hok':=qKM (ds':=none) hok (by rw [hB']; exact hBD) d2
  have hm':=qqE (H:=H') (ds':=none) d2
  refine qf9 hB hB' Ds _ hev' hok' (Ev.refl (gl:=gl) H' _).mono hnd'.2 (fun D' hD'=>?_) (fun w' e1 e2 e3=>hR w' e1 e2 (hm'.trans e3))
  obtain ⟨x1,x2⟩:=hD D' (List.mem_cons_of_mem _ hD')
  exact ⟨x1,(World.putObj_heap_other (fun e=>hnd'.1 (by rw [← e]; exact hD'))).trans x2⟩
theorem SimP.of_does (hT : qbY P tb) {f : FuncId} {fn : Func} {c : Code} (hf : P.funcs[f]? = some fn) (hb : fn.body = some c) (hn : (fn.name == "runtime.NumGoroutine") = false)
  {F:List PV→Option PV} (h:∀ args x,F args=some x→(∃ H w vs,RelL H w args vs)→∃ (e:PExit) (fr:List PV) (σ:Store) (xs:List PV),(e=.normal∨e=.ret)∧Does P gl c (args++List.replicate (fn.ntmps - args.length) .top) ⟨[],[],[]⟩ e fr σ∧presults tb fr σ fn.results.toList=some xs∧pout (xs.map (oview σ.objs))=x):SimP P gl f F where
 ent:=⟨fn,hf,hn,by simp [hb]⟩
 run:=by
  intro args x hx H w vs hB hob htk hgl hrel
  obtain ⟨e,fr0,σ0,xs0,he,hdo,hxs0,hpo0⟩:=h args x hx ⟨H,w,vs,hrel⟩
  refine qp6 (r:=none) (n:=0) (callsIn_of_wp_marks hf hb trivial ?_)
  have hst:St gl { H with K:=w.heap.size } w (args++List.replicate (fn.ntmps - args.length) .top) ⟨[],[],[]⟩ { tmps:=vs.toArray++Array.replicate (fn.ntmps - vs.toArray.size) undef,defers:=[] } w:=by
   refine ⟨{ H with K:=w.heap.size },Ev.refl _ w,⟨by show H.B≤_; rw [hB]; exact Nat.le_refl _,fun b o e=>⟨by show b < H.B; rw [hB]; exact qax (hgl b o e),hgl b o e⟩,by simp [hob],fun id b cs e=>by simp [hob] at e,fun i j b e=>by simp [hob] at e,by simp [htk],fun t T e=>by simp [htk] at e,fun t u T U e=>by simp [htk] at e,rfl,fun id b T cs e=>by simp [hob] at e⟩,?_,Marks.nil (Nat.le_refl _)⟩
   have hl:=hrel.len
   have e:(vs.toArray++Array.replicate (fn.ntmps - vs.toArray.size) undef).toList=vs++List.replicate (fn.ntmps - args.length) undef:=by simp [hl]
   rw [e]
   refine (hrel.mono (Mono.setK' H w _)).app ?_
   have:=RelL.tops (H:={ H with K:=w.heap.size }) (w:=w) (List.replicate (fn.ntmps - args.length) undef)
   simpa using this
  have fin:∀ (fr:List PV) (σ:Store) (a:Act) (w':World) (xs:List PV),St gl { H with K:=w.heap.size } w fr σ a w'→presults tb fr σ fn.results.toList=some xs→pout (xs.map (oview σ.objs))=x →
    LeavesInM (rnd none) 0 P fn a.tmps (fun e w'=>∃ v,e=.returned v∧(Below w.heap.size w w'∧Dr gl w w')∧Rel { H with aux:=fun _ _=>False } w' x v) a.defers .returning w':=by
   intro fr σ a w1 xs hst hxs hx
   obtain ⟨H',hev1,hok1,hfr1,_,Ds,hds,hnd,hD⟩:=hst
   rw [hds]
   refine qf9 (gl:=gl) (H:={ H with K:=w.heap.size }) (H':=H') (w0:=w) (σ:=σ) (by show H.B≤_; rw [hB]; exact Nat.le_refl _) hev1.B Ds w1 hev1 hok1 (Ev.refl (gl:=gl) H' w1).mono hnd (fun D hDs=>by have h1:=hD D hDs; rw [hev1.K] at h1; exact h1) ?_
   intro w' hev hok hmo
   have hfr:=hfr1.mono hmo
   obtain ⟨vs',hvs,hrs⟩:=qgW hT hok hfr _ _ hxs
   have hbel:Below w.heap.size w w':=⟨hev.os,hev.tape,hev.output,hev.size,fun b hlt=>hev.block b (by show b < H.B; rw [hB]; exact hlt)⟩
   have hrun:(results fn a.tmps).run P w'=.ok (if h:vs'.toArray.size=1 then vs'.toArray[0] else .tuple vs'.toArray) w':=by
    rw [qm1]
    simp only [Sem.run_bind,hvs,Result.andThen_ok,Sem.run_pure]
   have back:∀ {y:PV} {u:Value},Rel { { H with K:=w.heap.size } with aux:=fun _ _=>False } w' y u→Rel { H with aux:=fun _ _=>False } w' y u:=fun h=>Rel.mono (Mono.setK { H with aux:=fun _ _=>False } w' w.heap.size) h
   have backL:∀ {y:List PV} {u:List Value},RelL { { H with K:=w.heap.size } with aux:=fun _ _=>False } w' y u→RelL { H with aux:=fun _ _=>False } w' y u:=fun h=>RelL.mono (Mono.setK { H with aux:=fun _ _=>False } w' w.heap.size) h
   refine ⟨_,hrun,_,rfl,⟨hbel,hev.dr⟩,?_⟩
   subst hx
   have hl:=hrs.len
   cases hrs with
   | nil =>
    simp only [List.map_nil,pout,qfe]
    exact .tup [] [] .nil
   | cons y v ys us hy hys =>
    cases hys with
    | nil=>exact back (qqw hev hok hob htk hy)
    | cons y2 v2 ys us hy2 hys =>
     have h1:¬ ((v :: v2 :: us).toArray.size=1):=by simp
     rw [dif_neg h1]
     exact .tup _ _ (backL (qmR hev hok hob htk (.cons _ _ _ _ hy (.cons _ _ _ _ hy2 hys))))
  rcases he with rfl | rfl
  ·exact hdo none 0 _ w (RIn.none _) _ _ _ hst fun a' w' hst'=>fin fr0 σ0 a' w' xs0 hst' hxs0 hpo0
  ·exact hdo none 0 _ w (RIn.none _) _ _ _ hst fun a' w' hst'=>fin fr0 σ0 a' w' xs0 hst' hxs0 hpo0
theorem SimP.of_pcall (hT : qbY P tb) (hΓ : qaR P gl Γ) (hm : P.follows .mixedOrders = true) {f : FuncId} {fn : Func} {c : Code} (hf : P.funcs[f]? = some fn) (hb : fn.body = some c) (hn : (fn.name == "runtime.NumGoroutine") = false)
  (hdr:qbE Γ c=true) {F:List PV→Option PV} (h:∀ args x,F args=some x→(∃ H w vs,RelL H w args vs)→∃ L,qcj P gl L c∧pcall tb Γ L fn args=some x):SimP P gl f F:=by
 refine SimP.of_does hT hf hb hn fun args x hx hr=>?_
 obtain ⟨L,hL,hn⟩:=h args x hx hr
 simp only [pcall,hb] at hn
 split at hn
 ·rename_i fr σ he
  obtain ⟨xs,hxs,hpo⟩:=qbt hn
  exact ⟨.normal,fr,σ,xs,.inl rfl,qby hT hΓ hm c _ _ .normal fr σ hL hdr he,hxs,hpo⟩
 ·rename_i fr σ he
  obtain ⟨xs,hxs,hpo⟩:=qbt hn
  exact ⟨.ret,fr,σ,xs,.inr rfl,qby hT hΓ hm c _ _ .ret fr σ hL hdr he,hxs,hpo⟩
 ·cases hn
theorem SimS.of_does (hT : qbY P tb) {f : FuncId} {fn : Func} {c : Code} (hf : P.funcs[f]? = some fn) (hb : fn.body = some c) (hn : (fn.name == "runtime.NumGoroutine") = false)
  {D:List PV→Store→Option (PV × Store)} (h:∀ args σ x σ',D args σ=some (x,σ')→(∃ H w vs,RelL H w args vs)→∃ (e:PExit) (fr:List PV) (xs:List PV),(e=.normal∨e=.ret)∧Does P gl c (args++List.replicate (fn.ntmps - args.length) .top) σ e fr σ'∧presults tb fr σ' fn.results.toList=some xs∧qC5 xs=x):SimS P gl f D where
 ent:=⟨fn,hf,hn,by simp [hb]⟩
 run:=by
  intro args σ x σ' hx H w vs hok hrel
  obtain ⟨e,fr0,xs0,he,hdo,hxs0,hpo0⟩:=h args σ x σ' hx ⟨H,w,vs,hrel⟩
  refine qp6 (r:=none) (n:=0) (callsIn_of_wp_marks hf hb trivial ?_)
  have hst:St gl { H with K:=w.heap.size } w (args++List.replicate (fn.ntmps - args.length) .top) σ { tmps:=vs.toArray++Array.replicate (fn.ntmps - vs.toArray.size) undef,defers:=[] } w:=by
   refine ⟨{ H with K:=w.heap.size },Ev.refl _ w,hok.setK _,?_,Marks.nil (Nat.le_refl _)⟩
   have hl:=hrel.len
   have e:(vs.toArray++Array.replicate (fn.ntmps - vs.toArray.size) undef).toList=vs++List.replicate (fn.ntmps - args.length) undef:=by simp [hl]
   rw [e]
   refine (hrel.mono (Mono.setK' H w _)).app ?_
   have:=RelL.tops (H:={ H with K:=w.heap.size }) (w:=w) (List.replicate (fn.ntmps - args.length) undef)
   simpa using this
  have fin:∀ (fr:List PV) (σ1:Store) (a:Act) (w':World) (xs:List PV),St gl { H with K:=w.heap.size } w fr σ1 a w'→presults tb fr σ1 fn.results.toList=some xs→qC5 xs=x→σ1=σ' →
    LeavesInM (rnd none) 0 P fn a.tmps (fun e w'=>∃ v,e=.returned v∧Post gl H w x σ' v w') a.defers .returning w':=by
   intro fr σ1 a w1 xs hst hxs hpx hσ
   subst hσ
   obtain ⟨H',hev1,hok1,hfr1,_,Ds,hds,hnd,hD⟩:=hst
   rw [hds]
   refine qf9 (gl:=gl) (H:={ H with K:=w.heap.size }) (H':=H') (w0:=w) (σ:=σ1) hok.B hev1.B Ds w1 hev1 hok1 (Ev.refl (gl:=gl) H' w1).mono hnd (fun D hDs=>by have h1:=hD D hDs; rw [hev1.K] at h1; exact h1) ?_
   intro w' hev hok' hmo
   have hfr:=hfr1.mono hmo
   obtain ⟨vs',hvs,hrs⟩:=qgW hT hok' hfr _ _ hxs
   have hrun:(results fn a.tmps).run P w'=.ok (if h:vs'.toArray.size=1 then vs'.toArray[0] else .tuple vs'.toArray) w':=by
    rw [qm1]
    simp only [Sem.run_bind,hvs,Result.andThen_ok,Sem.run_pure]
   refine ⟨_,hrun,_,rfl,_,hev.setK,hok'.setK _,?_⟩
   subst hpx
   refine Rel.mono (Mono.setK' H' w' H.K) ?_
   cases hrs with
   | nil=>exact .tup [] [] .nil
   | cons y v ys us hy hys =>
    cases hys with
    | nil=>exact hy
    | cons y2 v2 ys us hy2 hys =>
     have h1:¬ ((v :: v2 :: us).toArray.size=1):=by simp
     rw [dif_neg h1]
     exact .tup _ _ (.cons _ _ _ _ hy (.cons _ _ _ _ hy2 hys))
  rcases he with rfl | rfl
  ·exact hdo none 0 _ w (RIn.none _) _ _ _ hst fun a' w' hst'=>fin fr0 σ' a' w' xs0 hst' hxs0 hpo0 rfl
  ·exact hdo none 0 _ w (RIn.none _) _ _ _ hst fun a' w' hst'=>fin fr0 σ' a' w' xs0 hst' hxs0 hpo0 rfl
theorem SimS.of_pcallS (hT : qbY P tb) (hΓ : qaR P gl Γ) (hm : P.follows .mixedOrders = true) {f : FuncId} {fn : Func} {c : Code} (hf : P.funcs[f]? = some fn) (hb : fn.body = some c) (hn : (fn.name == "runtime.NumGoroutine") = false)
  (hdr:qbE Γ c=true) {D:List PV→Store→Option (PV × Store)} (h:∀ args σ x σ',D args σ=some (x,σ')→(∃ H w vs,RelL H w args vs)→∃ L,qcj P gl L c∧qyJ tb Γ L fn args σ=some (x,σ')):SimS P gl f D:=by
 refine SimS.of_does hT hf hb hn fun args σ x σ' hx hr=>?_
 obtain ⟨L,hL,hn⟩:=h args σ x σ' hx hr
 simp only [qyJ,hb] at hn
 split at hn
 ·rename_i fr σ1 he
  obtain ⟨xs,hxs,hpo⟩:=qbt hn
  obtain ⟨rfl,rfl⟩:=Prod.mk.inj hpo
  exact ⟨.normal,fr,xs,.inl rfl,qby hT hΓ hm c _ _ .normal fr _ hL hdr he,hxs,rfl⟩
 ·rename_i fr σ1 he
  obtain ⟨xs,hxs,hpo⟩:=qbt hn
  obtain ⟨rfl,rfl⟩:=Prod.mk.inj hpo
  exact ⟨.ret,fr,xs,.inr rfl,qby hT hΓ hm c _ _ .ret fr _ hL hdr he,hxs,rfl⟩
 ·cases hn
end
end Go.Pv
set_option linter.unusedSimpArgs false
set_option linter.unusedVariables false
namespace Go.Pv
open Go.RowKit
inductive Tr (α:Type) where
 | ret (a:α)
 | fail
 | ite (b:Bool) (x y:Tr α)
 | get (xs:List (List PV)) (i:Nat) (z:List PV) (k:List PV→Tr α)
namespace Tr
def run {α:Type}:Tr α→Option α
 | .ret a=>some a
 | .fail=>none
 | .ite b x y=>bif b then run x else run y
 | .get xs i _ k=>match xs[i]? with
  | some cs=>run (k cs)
  | none=>none
def bind {α β:Type}:Tr α→(α→Tr β)→Tr β
 | .ret a,f=>f a
 | .fail,_=>.fail
 | .ite b x y,f=>.ite b (bind x f) (bind y f)
 | .get xs i z k,f=>.get xs i z fun cs=>bind (k cs) f
theorem run_bind {α β:Type}:∀ (x:Tr α) (f:α→Tr β),run (bind x f)=(run x).bind fun a=>run (f a)
 | .ret a,f=>rfl
 | .fail,f=>rfl
 | .ite b x y,f=>by
  simp only [bind,run,run_bind x f,run_bind y f]
  cases b <;> rfl
 | .get xs i z k,f=>by
  simp only [bind,run]
  cases xs[i]? with
  | none=>rfl
  | some cs=>exact run_bind (k cs) f
theorem bind_some {α β:Type} {x:Tr α} {f:α→Tr β} {r:β} (h:run (bind x f)=some r):∃ a,run x=some a∧run (f a)=some r:=by
 rw [run_bind] at h
 cases hx:run x with
 | none=>simp [hx] at h
 | some a=>exact ⟨a,rfl,by simpa [hx] using h⟩
def br {α:Type} (lit:Bool) (b:Bool) (x y:Tr α):Tr α:=bif lit then (bif b then x else y) else .ite b x y
theorem qLe {α:Type} (lit b:Bool) (x y:Tr α):run (br lit b x y)=bif b then run x else run y:=by
 cases lit <;> cases b <;> rfl
def chk {α:Type} (b:Bool) (x:Tr α):Tr α:=.ite b x .fail
theorem chk_some {α:Type} {b:Bool} {x:Tr α} {r:α} (h:run (chk b x)=some r):b=true∧run x=some r:=by
 cases b with
 | true=>exact ⟨rfl,h⟩
 | false=>cases h
def qkr {α:Type}:Option α→Tr α
 | some a=>.ret a
 | none=>.fail
theorem qcd {α:Type} (x:Option α):run (qkr x)=x:=by cases x <;> rfl
end Tr
open Tr
def iAdd (k:IntKind) (a b:Int):Int:=k.wrap (a+b)
def iSub (k:IntKind) (a b:Int):Int:=k.wrap (a - b)
def iMul (k:IntKind) (a b:Int):Int:=k.wrap (a * b)
def iQuo (k:IntKind) (a b:Int):Int:=k.wrap (a.tdiv b)
def iRem (a b:Int):Int:=a.tmod b
def iAnd (k:IntKind) (a b:Int):Int:=k.wrap (BitVec.ofInt k.bits a &&& BitVec.ofInt k.bits b).toNat
def iOr (k:IntKind) (a b:Int):Int:=k.wrap (BitVec.ofInt k.bits a ||| BitVec.ofInt k.bits b).toNat
def iXor (k:IntKind) (a b:Int):Int:=k.wrap (BitVec.ofInt k.bits a ^^^ BitVec.ofInt k.bits b).toNat
def iShl (k:IntKind) (a b:Int):Int:=k.wrap (a * 2 ^ min b.toNat k.bits)
def iShr (k:IntKind) (a b:Int):Int:=a.fdiv (2 ^ min b.toNat k.bits)
def qaT (k:IntKind) (n:Int):Int:=k.wrap n
def iEq (a b:Int):Bool:=a == b
def iNe (a b:Int):Bool:=a != b
def iLt (a b:Int):Bool:=decide (a < b)
def iLe (a b:Int):Bool:=decide (a≤b)
def bNot (b:Bool):Bool:=!b
def bAnd (a b:Bool):Bool:=a && b
def bEq (a b:Bool):Bool:=a == b
def sEq (a b:List UInt8):Bool:=a == b
def sNe (a b:List UInt8):Bool:=!(a == b)
def sLt (a b:List UInt8):Bool:=Op.bytesLess a b
def sLe (a b:List UInt8):Bool:=Op.bytesLess a b || a == b
def sGt (a b:List UInt8):Bool:=!(Op.bytesLess a b || a == b)
def sGe (a b:List UInt8):Bool:=!Op.bytesLess a b
def sApp (a b:List UInt8):List UInt8:=a++b
def sLen (l:List UInt8):Int:=l.length
def sSub (l:List UInt8) (a b:Nat):List UInt8:=(l.take b).drop a
def sAt (l:List UInt8) (n:Int):Int:=(l.getD n.toNat 0).toNat
def sOne (n:Int):List UInt8:=[UInt8.ofNat n.toNat]
def nNat (n:Int):Nat:=n.toNat
def nLen (l:List UInt8):Nat:=l.length
def xLen (xs:List (List PV)):Int:=xs.length
def nXs (xs:List (List PV)):Nat:=xs.length
def xSub (xs:List (List PV)) (a b:Nat):List (List PV):=(xs.take b).drop a
def xApp (xs ys:List (List PV)):List (List PV):=xs++ys
def xNil (xs:List (List PV)):Bool:=xs.isEmpty
def qad (l:List UInt8):List (List PV):=l.map fun b=>[.int .u8 b.toNat]
def qci (xs:List (List PV)):List UInt8:=(pbytes xs).getD []
def qdu (xs:List (List PV)):Bool:=(pbytes xs).isSome
def qaC (xs:List (List PV)) (n:Nat):Bool:=xs.all fun y=>y.length == n
def qaO (ys:List (List PV)) (n:Nat):Bool:=ys.all fun y=>y.length == n && y.all one
def qa2 (a b:List UInt8):Bool:=decide (a.length+b.length≤maxLen)
def qf0 (n:Int):Bool:=decide (0≤n) && decide (n < 128)
def qkC (l:List UInt8):Bool:=decide (l.length≤140737488355328)
def qaJ (l:List UInt8) (n:Int):Bool:=decide (0≤n) && decide (n.toNat < l.length)
def qaw (n:Int):Bool:=decide (0≤n)
def qaI (ca cb:Bool) (a b n:Nat):Bool:=ca && cb && decide (a≤b) && decide (b≤n)
def qBR (ca cb cc:Bool) (a b c n:Nat):Bool:=ca && cb && cc && decide (a≤b) && decide (b=c) && decide (b≤n)
def qaP (xs ys:List (List PV)) (bytes:Nat):Bool:=decide ((xs.length+ys.length) * bytes≤140737488355328) && decide (xs.length+ys.length≤140737488355328)
def nEq (a b:Nat):Bool:=decide (a=b)
def tint (lit:Bool) (op:BinOp) (k:IntKind) (a b:Int):Tr PV :=
 match op with
 | .add=>.ret (.int k (iAdd k a b))
 | .sub=>.ret (.int k (iSub k a b))
 | .mul=>.ret (.int k (iMul k a b))
 | .quo=>if lit then (if b=0 then .fail else .ret (.int k (iQuo k a b))) else .ite (iEq b 0) .fail (.ret (.int k (iQuo k a b)))
 | .rem=>if lit then (if b=0 then .fail else .ret (.int k (iRem a b))) else .ite (iEq b 0) .fail (.ret (.int k (iRem a b)))
 | .and=>.ret (.int k (iAnd k a b))
 | .or=>.ret (.int k (iOr k a b))
 | .xor=>.ret (.int k (iXor k a b))
 | .eql=>.ret (.bool (iEq a b))
 | .neq=>.ret (.bool (iNe a b))
 | .lss=>.ret (.bool (iLt a b))
 | .leq=>.ret (.bool (iLe a b))
 | .gtr=>.ret (.bool (iLt b a))
 | .geq=>.ret (.bool (iLe b a))
 | _=>.fail
theorem qHb {lit : Bool} {op : BinOp} {k : IntKind} {a b : Int} {x : PV} (h : run (tint lit op k a b) = some x) : pint op k a b = some x := by
  cases op <;> simp only [tint, pint] at h ⊢ <;> first
    | exact h
    | (cases h; done)
    | (split at h
       · split at h
         · cases h
         · rename_i hb
           rw [if_neg hb]
           exact h
       · simp only [run, iEq] at h
         by_cases hb : b = 0
         · simp [hb] at h
         · have hb' : (b == 0) = false := by simp [hb]
           rw [hb'] at h
           rw [if_neg hb]
           exact h)
def tstr (op:BinOp) (a b:List UInt8):Tr PV :=
 match op with
 | .add=>chk (qa2 a b) (.ret (.str (sApp a b)))
 | .eql=>.ret (.bool (sEq a b))
 | .neq=>.ret (.bool (sNe a b))
 | .lss=>.ret (.bool (sLt a b))
 | .leq=>.ret (.bool (sLe a b))
 | .gtr=>.ret (.bool (sGt a b))
 | .geq=>.ret (.bool (sGe a b))
 | _=>.fail
theorem qF6 {op : BinOp} {a b : List UInt8} {x : PV} (h : run (tstr op a b) = some x) : pstr op a b = some x := by
  cases op <;> simp only [tstr, pstr] at h ⊢ <;> first
    | exact h
    | (cases h; done)
    | (obtain ⟨h1, h2⟩ := chk_some h
       rw [if_pos (by simpa [qa2] using h1)]
       exact h2)
def qDJ (tb:Tab) (f:TypeId→PV→PV→Option Bool) (xs ys:List PV):List (Nat × TypeId × Bool)→Option Bool
 | []=>some true
 | (off,t,named) :: rest =>
  if named then
   match tb t with
   | none=>none
   | some K=>match pload K xs off,pload K ys off with
    | some x,some y=>match f t x y,qDJ tb f xs ys rest with
     | some b,some c=>some (bAnd b c)
     | _,_=>none
    | _,_=>none
  else qDJ tb f xs ys rest
def beq (tb:Tab):Nat→TypeId→PV→PV→Option Bool
 | 0,_,_,_=>none
 | d+1,t,x,y=>match tb t with
  | none=>none
  | some K=>match K.kd,x,y with
   | .int _,.int k a,.int k' b=>if k=k' then some (iEq a b) else none
   | .bool,.bool a,.bool b=>some (bEq a b)
   | .str,.str a,.str b=>some (sEq a b)
   | .agg fs held _,.agg xs,.agg ys=>if held then none else qDJ tb (beq tb d) xs ys fs
   | _,_,_=>none
theorem qqo {tb:Tab} {f g:TypeId→PV→PV→Option Bool} (hfg:∀ t x y b,f t x y=some b→g t x y=some b) {xs ys:List PV}:∀ (fs:List (Nat × TypeId × Bool)) (b:Bool),qDJ tb f xs ys fs=some b→quR tb g xs ys fs=some b
 | [],b,h=>h
 | (off,t,named) :: rest,b,h=>by
  simp only [qDJ,quR] at h ⊢
  split at h
  ·rename_i hn
   rw [if_pos hn]
   cases hK:tb t with
   | none=>simp [hK] at h
   | some K =>
    simp only [hK] at h ⊢
    split at h
    ·rename_i x y hx hy
     simp only [hx,hy]
     split at h
     ·rename_i p q hp hq
      rw [hfg _ _ _ _ hp]
      have:=qqo hfg rest q hq
      cases p with
      | true=>simp [bAnd] at h; subst h; exact this
      | false=>simp [bAnd] at h; subst h; rfl
     ·cases h
    ·cases h
  ·rename_i hn
   rw [if_neg hn]
   exact qqo hfg rest b h
theorem qCi {tb:Tab}:∀ (d:Nat) (t:TypeId) (x y:PV) (b:Bool),beq tb d t x y=some b→peq tb d t x y=some b
 | 0,t,x,y,b,h=>by cases h
 | d+1,t,x,y,b,h=>by
  simp only [beq,peq] at h ⊢
  cases hK:tb t with
  | none=>simp [hK] at h
  | some K =>
   simp only [hK] at h ⊢
   split at h
   ·rename_i hk; simp only [hk]; exact h
   ·rename_i hk; simp only [hk]; exact h
   ·rename_i hk; simp only [hk]; exact h
   ·rename_i hk
    simp only [hk]
    split at h
    ·cases h
    ·rename_i hh
     rw [if_neg hh]
     exact qqo (fun t x y b=>qCi d t x y b) _ b h
   ·cases h
def bequal (tb:Tab) (t:TypeId) (xo yo:Operand) (x y:PV):Option Bool :=
 match tb t with
 | none=>none
 | some K=>match K.kd,x,y with
  | .iface,.nili,.nili=>if isK xo || isK yo then some true else none
  | .iface,.nili,.iface _ _=>some false
  | .iface,.iface _ _,.nili=>some false
  | .fn,.nilf,.nilf=>some true
  | .fn,.nilf,.fn _ _=>some false
  | .fn,.fn _ _,.nilf=>some false
  | .bool,.bool a,.bool b=>some (bEq a b)
  | .agg _ _ guard,.agg xs,.agg ys=>if guard then none else beq tb 50 t (.agg xs) (.agg ys)
  | _,_,_=>none
theorem qrJ {tb : Tab} {t : TypeId} {xo yo : Operand} {x y : PV} {b : Bool} (h : bequal tb t xo yo x y = some b) : pequal tb t xo yo x y = some b := by
  unfold bequal at h
  unfold pequal
  cases hK : tb t with
  | none => simp [hK] at h
  | some K =>
    simp only [hK] at h ⊢
    split at h <;> first
      | (rename_i hk; simp only [hk]; exact h)
      | (rename_i hk
         simp only [hk]
         split at h
         · cases h
         · rename_i hg
           rw [if_neg hg]
           exact qCi _ _ _ _ _ h)
      | (cases h; done)
def tnilq (tb:Tab) (t:TypeId) (yo:Operand) (xs:List (List PV)) (tg:Tag) (f:Bool→PV):Tr PV :=
 match tb t with
 | none=>.fail
 | some K=>match K.kd with
  | .sl _=>if qpq yo then .ite (xNil xs) (match tg with
   | .nil=>.ret (f true)
   | .own=>.ret (f false)
   | _=>.fail) (.ret (f false)) else .fail
  | _=>.fail
def tbin (tb:Tab) (op:BinOp) (t:TypeId) (xo yo:Operand) (x y:PV):Tr PV :=
 match op,x,y with
 | .shl,.int k a,.int _ b=>if isK yo then (if b < 0 then .fail else .ret (.int k (iShl k a b))) else .ite (iLt b 0) .fail (.ret (.int k (iShl k a b)))
 | .shr,.int k a,.int _ b=>if isK yo then (if b < 0 then .fail else .ret (.int k (iShr k a b))) else .ite (iLt b 0) .fail (.ret (.int k (iShr k a b)))
 | op,.int k a,.int k' b=>if k=k' then tint (isK yo) op k a b else .fail
 | op,.str a,.str b=>tstr op a b
 | .eql,.sl xs tg,.sl ys tg'=>tnilq tb t yo xs tg fun b=>.bool b
 | .neq,.sl xs tg,.sl ys tg'=>tnilq tb t yo xs tg fun b=>.bool (bNot b)
 | .eql,x,y=>qkr ((bequal tb t xo yo x y).map .bool)
 | .neq,x,y=>qkr ((bequal tb t xo yo x y).map fun b=>.bool (bNot b))
 | _,_,_=>.fail
theorem quT {tb:Tab} {t:TypeId} {xo yo:Operand} {xs ys:List (List PV)} {tg tg':Tag} {f:Bool→PV} {r:PV} (h:run (tnilq tb t yo xs tg f)=some r):∃ b,pequal tb t xo yo (.sl xs tg) (.sl ys tg')=some b∧r=f b:=by
 unfold tnilq at h
 unfold pequal
 cases hK:tb t with
 | none=>simp [hK,run] at h
 | some K =>
  simp only [hK] at h ⊢
  split at h
  ·rename_i e hk
   simp only [hk]
   split at h
   ·rename_i hn
    rw [if_pos hn]
    cases xs with
    | nil =>
     cases tg <;> simp [run,xNil] at h ⊢ <;> exact h.symm
    | cons x xs =>
     simp [run,xNil] at h ⊢
     exact h.symm
   ·cases h
  ·cases h
theorem qFM {tb:Tab} {op:BinOp} {t:TypeId} {xo yo:Operand} {x y r:PV} (h:run (tbin tb op t xo yo x y)=some r):pbin tb op t xo yo x y=some r:=by
 unfold tbin at h
 unfold pbin
 split at h
 ·rename_i k a k' b
  simp only []
  split at h
  ·split at h
   ·cases h
   ·rename_i hb
    rw [if_neg hb]
    exact h
  ·simp only [run,iLt] at h
   by_cases hb:b < 0
   ·simp [hb] at h
   ·rw [if_neg hb]
    simp only [hb,decide_false,cond_false] at h
    exact h
 ·rename_i k a k' b
  simp only []
  split at h
  ·split at h
   ·cases h
   ·rename_i hb
    rw [if_neg hb]
    exact h
  ·simp only [run,iLt] at h
   by_cases hb:b < 0
   ·simp [hb] at h
   ·rw [if_neg hb]
    simp only [hb,decide_false,cond_false] at h
    exact h
 ·rename_i op' k a k' b h1 h2
  split at h
  ·rename_i hk
   have:=qHb h
   cases op' <;> first
    | (simp only [hk,if_true] at this ⊢; exact this)
    | exact absurd rfl h1
    | exact absurd rfl h2
    | exact absurd rfl (h1 _ _ _ _ rfl rfl)
    | exact absurd rfl (h2 _ _ _ _ rfl rfl)
  ·cases h
 ·have:=qF6 h
  cases op <;> exact this
 ·obtain ⟨b,hb,rfl⟩:=quT (xo:=xo) h
  simp only []
  rw [hb]
  rfl
 ·obtain ⟨b,hb,rfl⟩:=quT (xo:=xo) h
  simp only []
  rw [hb]
  rfl
 ·rename_i x y hn1 hn2 hn3
  rw [qcd] at h
  obtain ⟨b,hb,rfl⟩:=Option.map_eq_some_iff.1 h
  have hp:=qrJ hb
  split <;> first
   | exact (hn1 _ _ _ _ rfl rfl).elim
   | exact (hn2 _ _ rfl rfl).elim
   | (rw [hp]; rfl)
   | simp_all
 ·rename_i x y hn1 hn2 hn3
  rw [qcd] at h
  obtain ⟨b,hb,rfl⟩:=Option.map_eq_some_iff.1 h
  have hp:=qrJ hb
  split <;> first
   | exact (hn1 _ _ _ _ rfl rfl).elim
   | exact (hn2 _ _ rfl rfl).elim
   | (rw [hp]; rfl)
   | simp_all
 ·cases h
end Go.Pv
set_option linter.unusedSimpArgs false
set_option linter.unusedVariables false
namespace Go.Pv
open Go.RowKit Tr
def pOff (off n k:Nat):Nat:=off+n * k
def nSub (b a:Nat):Nat:=b - a
def okIx (n:Int) (len:Nat):Bool:=decide (0≤n) && decide (n.toNat < len)
def oLen (n:Nat):Int:=n
def cInt (cs:List PV) (off j:Nat):Int:=match cs.getD (off+j) .top with | .int _ n=>n | _=>0
def qNg (cs:List PV) (off j:Nat):Bool:=match cs.getD (off+j) .top with | .bool b=>b | _=>false
def cStr (cs:List PV) (off j:Nat):List UInt8:=match cs.getD (off+j) .top with | .str l=>l | _=>[]
def cRow (cs:List PV) (off j:Nat):List (List PV):=match cs.getD (off+j) .top with | .sl l _=>l | _=>[]
def cPV (cs:List PV) (off j:Nat):PV:=cs.getD (off+j) .top
def qLp (c:PV) (cs:List PV) (off j:Nat):PV:=match c with
 | .int k _=>.int k (cInt cs off j)
 | .bool _=>.bool (qNg cs off j)
 | .str _=>.str (cStr cs off j)
 | .sl _ _=>.sl (cRow cs off j) .non
 | _=>cPV cs off j
def cSel:List PV→List PV→Nat→Nat→List PV
 | [],_,_,_=>[]
 | c :: z,cs,off,j=>qLp c cs off j :: cSel z cs off (j+1)
open Classical in
noncomputable def qzS (z cs:List PV) (off:Nat):Bool:=decide ((cs.drop off).take z.length=cSel z cs off 0∧off+z.length≤cs.length)
theorem qr0 {z cs:List PV} {off:Nat} (h:qzS z cs off=true):(cs.drop off).take z.length=cSel z cs off 0∧off+z.length≤cs.length:=by
 simpa [qzS] using h
def qx9 (cs:List PV) (off n:Nat):Bool:=decide (off+n≤cs.length)
def putC (cs:List PV) (off:Nat) (vs:List PV):List PV:=cs.take off++vs++cs.drop (off+vs.length)
def clrC (cs:List PV) (off len:Nat) (z:List PV):List PV:=cs.take off++pzeros z len++cs.drop (off+len * z.length)
noncomputable def qBY (K : TK) (cs : List PV) (off : Nat) : Tr PV :=
  if K.kd.known ∧ K.zero.length = K.size then
    (if K.kd.isAgg then chk (qzS K.zero cs off) (.ret (.agg (cSel K.zero cs off 0)))
     else match K.zero with
      | [c] => chk (qzS [c] cs off) (.ret (qLp c cs off 0))
      | _ => .fail)
  else .fail
theorem qAu {K:TK} {cs:List PV} {off:Nat} {x:PV} (h:run (qBY K cs off)=some x):pload K cs off=some x:=by
 unfold qBY at h
 unfold pload
 split at h
 ·rename_i hk
  rw [if_pos hk.1]
  split at h
  ·rename_i ha
   rw [if_pos ha]
   obtain ⟨h1,h2⟩:=chk_some h
   have h1:=qr0 h1
   rw [hk.2] at h1
   rw [if_pos h1.2,h1.1]
   exact h2
  ·rename_i ha
   rw [if_neg ha]
   split at h
   ·rename_i c hz
    obtain ⟨h1,h2⟩:=chk_some h
    have h1:=qr0 h1
    simp only [List.length_cons,List.length_nil,cSel] at h1
    simp only [run,Option.some.injEq] at h2
    subst h2
    have h3:=h1.1
    have hlt:off < cs.length:=by omega
    rw [List.drop_eq_getElem_cons hlt] at h3
    simp only [Nat.zero_add,List.take_succ_cons,List.take_zero,List.cons.injEq,and_true] at h3
    rw [List.getElem?_eq_getElem hlt,h3]
   ·cases h
 ·cases h
noncomputable def tload (tb:Tab) (t:TypeId) (a:PV) (σ:Store):Tr PV :=
 match tb t with
 | none=>.fail
 | some K=>match a with
  | .ptr id off=>match σ.objs[id]?,σ.tys[id]? with
   | some cs,some ty=>if qgb≤ty then qBY K cs off else qkr (pload K cs off)
   | _,_=>.fail
  | .ref cs=>qkr (pload K cs 0)
  | _=>.fail
theorem qE8 {tb:Tab} {t:TypeId} {fr:List PV} {a:Operand} {σ:Store} {o:Oper} (ho:o.op=.load t a) {Γ:Gam} {x:PV} (hn:gcells Γ a=none) (h:run (tload tb t (ev fr a) σ)=some x):pop tb Γ fr σ o=some (x,σ):=by
 simp only [pop,ho,hn]
 unfold tload at h
 cases hK:tb t with
 | none=>simp [hK,run] at h
 | some K =>
  simp only [hK] at h ⊢
  split at h
  ·rename_i id off he
   simp only [he]
   split at h
   ·rename_i cs ty hc ht
    simp only [hc]
    split at h
    ·rw [qAu h]; rfl
    ·rw [qcd] at h; rw [h]; rfl
   ·cases h
  ·rename_i cs he
   simp only [he]
   rw [qcd] at h; rw [h]; rfl
  ·cases h
noncomputable def tstore (tb:Tab) (t:TypeId) (a x:PV) (σ:Store):Tr Store :=
 match tb t with
 | none=>.fail
 | some K=>match a,pcells x with
  | .ptr id off,some vs=>match σ.objs[id]?,σ.tys[id]? with
   | some cs,some ty =>
    if qgb≤ty then (if vs.length=K.size∧vs.all one then chk (qx9 cs off K.size) (.ret { σ with objs:=σ.objs.set id (putC cs off vs) }) else .fail)
    else (if vs.length=K.size∧off+K.size≤cs.length∧vs.all one then .ret { σ with objs:=σ.objs.set id (cs.take off++vs++cs.drop (off+K.size)) } else .fail)
   | _,_=>.fail
  | _,_=>.fail
theorem qAJ {tb:Tab} {t:TypeId} {fr:List PV} {a x:Operand} {σ σ':Store} {o:Oper} (ho:o.op=.store t a x) {Γ:Gam} (h:run (tstore tb t (ev fr a) (ev fr x) σ)=some σ'):pop tb Γ fr σ o=some (.top,σ'):=by
 simp only [pop,ho]
 unfold tstore at h
 cases hK:tb t with
 | none=>simp [hK,run] at h
 | some K =>
  simp only [hK] at h ⊢
  split at h
  ·rename_i id off vs he hv
   simp only [he,hv]
   split at h
   ·rename_i cs ty hc ht
    simp only [hc]
    split at h
    ·split at h
     ·rename_i h1
      obtain ⟨h2,h3⟩:=chk_some h
      simp only [qx9,decide_eq_true_eq] at h2
      rw [if_pos ⟨h1.1,h2,h1.2⟩]
      simp only [run,putC,Option.some.injEq] at h3
      rw [h1.1] at h3
      rw [h3]
     ·cases h
    ·split at h
     ·rename_i h1
      rw [if_pos h1]
      simp only [run,Option.some.injEq] at h
      rw [h]
     ·cases h
   ·cases h
  ·cases h
def tconv (tb:Tab) (src dst:TypeId) (x:PV):Tr PV :=
 match tb src,tb dst with
 | some S,some D=>match S.kd,D.kd,x with
  | .int _,.int k,.int _ n=>.ret (.int k (qaT k n))
  | .int _,.str,.int _ n=>chk (qf0 n) (.ret (.str (sOne n)))
  | .str,.str,.str l=>.ret (.str l)
  | .sl e,.str,.sl xs _=>match tb e with
   | some ⟨.int .u8,1,_,_⟩=>chk (qdu xs) (.ret (.str (qci xs)))
   | _=>.fail
  | .str,.sl e,.str l=>match tb e with
   | some ⟨.int .u8,1,_,_⟩=>chk (qkC l) (.ret (.sl (qad l) .non))
   | _=>.fail
  | _,_,_=>.fail
 | _,_=>.fail
theorem qEW {tb:Tab} {src dst:TypeId} {x r:PV} (h:run (tconv tb src dst x)=some r):pconv tb src dst x=some r:=by
 unfold tconv at h
 unfold pconv
 cases hS:tb src with
 | none=>simp [hS,run] at h
 | some S =>
  cases hD:tb dst with
  | none=>simp [hS,hD,run] at h
  | some D =>
   simp only [hS,hD] at h ⊢
   split at h
   ·rename_i hk hk'; simp only [hk,hk']; exact h
   ·rename_i k n hk hk'
    obtain ⟨h1,h2⟩:=chk_some h
    simp only [qf0,Bool.and_eq_true,decide_eq_true_eq] at h1
    simp only [hk,hk']
    rw [if_pos h1]
    exact h2
   ·rename_i hk hk'; simp only [hk,hk']; exact h
   ·rename_i e xs tg hk hk'
    simp only [hk,hk']
    split at h
    ·rename_i b z hE
     obtain ⟨h1,h2⟩:=chk_some h
     simp only [hE]
     cases hp:pbytes xs with
     | none=>simp [qdu,hp] at h1
     | some l =>
      simp only [qci,hp,Option.getD_some,run,Option.some.injEq] at h2
      subst h2
      rfl
    ·cases h
   ·rename_i e l hk hk'
    simp only [hk,hk']
    split at h
    ·rename_i b z hE
     obtain ⟨h1,h2⟩:=chk_some h
     simp only [hE]
     rw [if_pos (by simpa [qkC] using h1)]
     exact h2
    ·cases h
   ·cases h
def tbound:Option PV→Nat→Option (Bool × Nat)
 | none,d=>some (true,d)
 | some (.int _ n),_=>some (qaw n,nNat n)
 | _,_=>none
theorem qds {x:Option PV} {d a:Nat} (h:tbound x d=some (true,a)):pbound x d=some a:=by
 unfold tbound qaw nNat at h
 unfold pbound
 split at h
 ·simpa using h
 ·simp only [Option.some.injEq,Prod.mk.injEq,decide_eq_true_eq] at h
  simp [h.1,h.2]
 ·cases h
def tslice (tb:Tab) (t:TypeId) (x:PV) (lo hi mx:Option PV):Tr PV :=
 match tb t with
 | none=>.fail
 | some K=>match K.kd,x with
  | .str,.str l =>
   match mx,tbound lo 0,tbound hi (nLen l) with
   | none,some (ca,a),some (cb,b)=>chk (qaI ca cb a b (nLen l)) (.ret (.str (sSub l a b)))
   | _,_,_=>.fail
  | .sl e,.sl xs tag=>match tb e with
   | some E=>match mx with
    | none=>match tbound lo 0,tbound hi (nXs xs) with
     | some (ca,a),some (cb,b)=>chk (qaI ca cb a b (nXs xs)) (chk (qaC xs E.size) (.ret (.sl (xSub xs a b) (match lo,hi with | none,none=>tag | _,_=>.non))))
     | _,_=>.fail
    | some m=>match hi with
     | none=>.fail
     | some h=>match tbound lo 0,tbound (some h) 0,tbound (some m) 0 with
      | some (ca,a),some (cb,b),some (cc,c)=>chk (qBR ca cb cc a b c (nXs xs)) (chk (qaC xs E.size) (.ret (.sl (xSub xs a b) .full)))
      | _,_,_=>.fail
   | none=>.fail
  | .sl e,.osl id off len k=>match tb e,mx with
   | some E,none=>match tbound lo 0,tbound hi len with
    | some (ca,a),some (cb,b)=>if k=E.size then chk (qaI ca cb a b len) (.ret (.osl id (pOff off a k) (nSub b a) k)) else .fail
    | _,_=>.fail
   | _,_=>.fail
  | _,_=>.fail
theorem qAE {tb:Tab} {t:TypeId} {x r:PV} {lo hi mx:Option PV} (h:run (tslice tb t x lo hi mx)=some r):pslice tb t x lo hi mx=some r:=by
 unfold tslice at h
 unfold pslice
 cases hK:tb t with
 | none=>simp [hK,run] at h
 | some K =>
  simp only [hK] at h ⊢
  split at h
  ·rename_i l hk
   simp only [hk]
   split at h
   ·rename_i ca a cb b ha hb
    obtain ⟨h1,h2⟩:=chk_some h
    simp only [qaI,Bool.and_eq_true] at h1
    obtain ⟨⟨⟨rfl,rfl⟩,h1⟩,h3⟩:=h1
    simp only [qds ha,show pbound hi l.length=some b from qds hb]
    rw [if_pos ⟨of_decide_eq_true h1,of_decide_eq_true h3⟩]
    exact h2
   ·cases h
  ·rename_i e xs tag hk
   simp only [hk]
   cases hE:tb e with
   | none=>simp [hE,run] at h
   | some E =>
    simp only [hE] at h ⊢
    split at h
    ·split at h
     ·rename_i ca a cb b ha hb
      obtain ⟨h1,h2⟩:=chk_some h
      obtain ⟨h4,h2⟩:=chk_some h2
      simp only [qaI,Bool.and_eq_true] at h1
      obtain ⟨⟨⟨rfl,rfl⟩,h1⟩,h3⟩:=h1
      unfold qaC at h4
      rw [if_pos h4]
      simp only [qds ha,show pbound hi xs.length=some b from qds hb]
      rw [if_pos ⟨of_decide_eq_true h1,of_decide_eq_true h3⟩]
      exact h2
     ·cases h
    ·rename_i m
     split at h
     ·cases h
     ·rename_i hh
      split at h
      ·rename_i ca a cb b cc c ha hb hc
       obtain ⟨h1,h2⟩:=chk_some h
       obtain ⟨h5,h2⟩:=chk_some h2
       simp only [qBR,Bool.and_eq_true] at h1
       obtain ⟨⟨⟨⟨⟨rfl,rfl⟩,rfl⟩,h1⟩,h3⟩,h4⟩:=h1
       unfold qaC at h5
       rw [if_pos h5]
       simp only [qds ha,qds hb,qds hc]
       rw [if_pos ⟨of_decide_eq_true h1,of_decide_eq_true h3,of_decide_eq_true h4⟩]
       exact h2
      ·cases h
  ·rename_i e id off len k hk
   simp only [hk]
   split at h
   ·rename_i E hE
    simp only [hE]
    split at h
    ·rename_i ca a cb b ha hb
     split at h
     ·rename_i hkE
      obtain ⟨h1,h2⟩:=chk_some h
      simp only [qaI,Bool.and_eq_true] at h1
      obtain ⟨⟨⟨rfl,rfl⟩,h1⟩,h3⟩:=h1
      simp only [qds ha,qds hb]
      rw [if_pos ⟨of_decide_eq_true h1,of_decide_eq_true h3,hkE⟩]
      exact h2
     ·cases h
    ·cases h
   ·cases h
  ·cases h
def quc (tb:Tab) (t:TypeId) (x i:PV):Tr PV :=
 match tb t with
 | none=>.fail
 | some K=>match K.kd,x,i with
  | .sl e,.sl xs _,.int _ n=>match tb e with
   | some E=>chk (qaw n) (.get xs (nNat n) E.zero fun cs=>if cs.length=E.size then .ret (.ref cs) else .fail)
   | none=>.fail
  | .sl e,.osl id off len k,.int _ n=>match tb e with
   | some E=>if k=E.size then chk (okIx n len) (.ret (.ptr id (pOff off (nNat n) k))) else .fail
   | none=>.fail
  | .arr m e,.ptr id off,.int _ n=>match tb e with
   | some E=>if 0≤n∧n.toNat < m then .ret (.ptr id (off+n.toNat * E.size)) else .fail
   | none=>.fail
  | _,_,_=>.fail
theorem qvm {tb:Tab} {t:TypeId} {x i r:PV} (h:run (quc tb t x i)=some r):qk7 tb t x i=some r:=by
 unfold quc at h
 unfold qk7
 cases hK:tb t with
 | none=>simp [hK,run] at h
 | some K =>
  simp only [hK] at h ⊢
  split at h
  ·rename_i e xs tg k n hk
   simp only [hk]
   cases hE:tb e with
   | none=>simp [hE,run] at h
   | some E =>
    simp only [hE] at h ⊢
    obtain ⟨h1,h2⟩:=chk_some h
    rw [if_pos (by simpa [qaw] using h1)]
    simp only [run,nNat] at h2
    split at h2
    ·rename_i cs hcs
     simp only [hcs]
     split at h2
     ·rename_i hl
      rw [if_pos hl]
      exact h2
     ·cases h2
    ·cases h2
  ·rename_i e id off len k kk n hk
   simp only [hk]
   cases hE:tb e with
   | none=>simp [hE,run] at h
   | some E =>
    simp only [hE] at h ⊢
    split at h
    ·rename_i h0
     obtain ⟨h1,h2⟩:=chk_some h
     simp only [okIx,Bool.and_eq_true,decide_eq_true_eq] at h1
     rw [if_pos ⟨h1.1,h1.2,h0⟩]
     exact h2
    ·cases h
  ·rename_i m e id off k n hk
   simp only [hk]
   cases hE:tb e with
   | none=>simp [hE,run] at h
   | some E =>
    simp only [hE] at h ⊢
    split at h
    ·rename_i h0
     rw [if_pos h0]
     exact h
    ·cases h
  ·cases h
def tarr (E:TK) (cs:List PV) (n:Int):Nat→Nat→Tr PV
 | 0,_=>.fail
 | k+1,i=>.ite (iEq n i) (qkr (pload E cs (i * E.size))) (tarr E cs n k (i+1))
theorem qy6 {E:TK} {cs:List PV} {n:Int} {r:PV}:∀ (k i:Nat),run (tarr E cs n k i)=some r→0≤n∧n.toNat < i+k∧pload E cs (n.toNat * E.size)=some r
 | 0,_,h=>by cases h
 | k+1,i,h=>by
  unfold tarr at h
  cases hb:iEq n i with
  | true =>
   rw [hb] at h
   have hn:n=i:=by simpa [iEq] using hb
   simp only [run] at h
   rw [qcd] at h
   subst hn
   exact ⟨by omega,by simp,by simpa using h⟩
  | false =>
   rw [hb] at h
   simp only [run] at h
   have:=qy6 k (i+1) h
   exact ⟨this.1,by omega,this.2.2⟩
def tindex (tb:Tab) (t:TypeId) (x i:PV):Tr PV :=
 match tb t with
 | none=>.fail
 | some K=>match K.kd,x,i with
  | .str,.str l,.int _ n=>chk (qaJ l n) (.ret (.int .u8 (sAt l n)))
  | .arr m e,.agg cs,.int _ n=>match tb e with
   | some E=>tarr E cs n m 0
   | none=>.fail
  | _,_,_=>.fail
theorem qAG {tb:Tab} {t:TypeId} {x i r:PV} (h:run (tindex tb t x i)=some r):pindex tb t x i=some r:=by
 unfold tindex at h
 unfold pindex
 cases hK:tb t with
 | none=>simp [hK,run] at h
 | some K =>
  simp only [hK] at h ⊢
  split at h
  ·rename_i l k n hk
   simp only [hk]
   obtain ⟨h1,h2⟩:=chk_some h
   simp only [qaJ,Bool.and_eq_true,decide_eq_true_eq] at h1
   rw [if_pos h1.1,List.getElem?_eq_getElem h1.2]
   unfold sAt at h2
   rw [List.getD_eq_getElem?_getD,List.getElem?_eq_getElem h1.2] at h2
   exact h2
  ·rename_i m e cs k n hk
   simp only [hk]
   cases hE:tb e with
   | none=>simp [hE,run] at h
   | some E =>
    simp only [hE] at h ⊢
    obtain ⟨h1,h2,h3⟩:=qy6 _ _ h
    rw [if_pos ⟨h1,by omega⟩]
    exact h3
  ·cases h
def tnil {α:Type} (lit:Bool) (ys:List (List PV)) (x y:Tr α):Tr α :=
 if lit then (match ys with | []=>x | _ :: _=>y) else .ite (xNil ys) x y
theorem qGS {α:Type} (lit:Bool) (ys:List (List PV)) (x y:Tr α):run (tnil lit ys x y)=match ys with | []=>run x | _ :: _=>run y:=by
 unfold tnil
 split <;> cases ys <;> rfl
def tappend (tb:Tab) (m lit:Bool) (t:TypeId) (s:PV) (ys:List (List PV)) (σ:Store):Tr (PV × Store) :=
 match tb t with
 | none=>.fail
 | some K=>match K.kd,s with
  | .sl e,.sl xs tag=>match tb e with
   | some E =>
    if 0 < E.size∧0 < E.bytes∧E.zero.length=E.size then
     chk (qaP xs ys E.bytes) <| chk (qaO ys E.size) <| chk (qaC xs E.size) <|
      tnil lit ys (.ret (.sl xs tag,σ)) <| match tag with
      | .non=>.fail
      | .nil=>.fail
      | .own=>.fail
      | .full=>if m then .ret (.osl σ.objs.length 0 (nXs (xApp xs ys)) E.size,{ σ with objs:=σ.objs++[(xApp xs ys).flatten],tys:=σ.tys++[e+qgb] }) else .ret (.sl (xApp xs ys) (.tok σ.toks.length),{ σ with toks:=σ.toks++[(nXs (xApp xs ys),E.size,e)] })
      | .tok i=>match σ.toks[i]? with
       | some (v,k,e')=>if k=E.size∧e'=e then chk (nEq v (nXs xs)) (.ret (.sl (xApp xs ys) (.tok i),{ σ with toks:=σ.toks.set i (nXs (xApp xs ys),E.size,e) })) else .fail
       | none=>.fail
    else .fail
   | none=>.fail
  | _,_=>.fail
theorem qpR {tb:Tab} {m lit:Bool} {t:TypeId} {s:PV} {ys:List (List PV)} {tg:Tag} {σ:Store} {r:PV × Store} (h:run (tappend tb m lit t s ys σ)=some r):pappend tb m t s (.sl ys tg) σ=some r:=by
 unfold tappend at h
 unfold pappend
 cases hK:tb t with
 | none=>simp [hK,run] at h
 | some K =>
  simp only [hK,pnews] at h ⊢
  split at h
  ·rename_i e xs tag hk
   simp only [hk]
   cases hE:tb e with
   | none=>simp [hE,run] at h
   | some E =>
    simp only [hE] at h ⊢
    split at h
    ·rename_i hc
     obtain ⟨h1,h2⟩:=chk_some h
     have hh:=chk_some h2
     clear h2
     obtain ⟨h5,h7⟩:=hh
     have hh:=chk_some h7
     clear h7
     obtain ⟨h6,h2⟩:=hh
     simp only [qaP,Bool.and_eq_true,decide_eq_true_eq] at h1
     obtain ⟨h3,h4⟩:=h1
     unfold qaO at h5
     unfold qaC at h6
     rw [if_pos ⟨h3,h4,hc.1,hc.2.1,hc.2.2,by rw [h5,h6]; rfl⟩]
     rw [qGS] at h2
     cases ys with
     | nil=>exact h2
     | cons y ys =>
      simp only [nXs,xApp,List.length_append] at h2 ⊢
      split at h2
      ·cases h2
      ·cases h2
      ·cases h2
      ·cases m <;> exact h2
      ·rename_i i
       simp only []
       cases hσ:σ.toks[i]? with
       | none=>simp [hσ,run] at h2
       | some q =>
        obtain ⟨v,k,e'⟩:=q
        simp only [hσ] at h2 ⊢
        split at h2
        ·rename_i hke
         obtain ⟨h7,h8⟩:=chk_some h2
         rw [if_pos ⟨by simpa [nEq] using h7,hke.1,hke.2⟩]
         exact h8
        ·cases h2
    ·cases h
  ·cases h
noncomputable def tclear (tb:Tab) (t:TypeId) (x:PV) (σ:Store):Tr (PV × Store) :=
 match tb t,x with
 | some K,.osl id off len k=>match K.kd with
  | .sl e=>match tb e with
   | some E=>.ite (nEq len 0) (.ret (.tup [],σ)) (match σ.objs[id]? with
    | some cs=>if E.zero.length=k∧0 < k∧E.zero.all one then chk (qx9 cs off (pOff 0 len k)) (.ret (.tup [],{ σ with objs:=σ.objs.set id (clrC cs off len E.zero) })) else .fail
    | none=>.fail)
   | none=>.fail
  | _=>.fail
 | _,_=>.fail
theorem qz2 {tb:Tab} {t:TypeId} {x:PV} {σ:Store} {r:PV × Store} (h:run (tclear tb t x σ)=some r):pclear tb t x σ=some r:=by
 unfold tclear at h
 unfold pclear
 split at h
 ·rename_i K id off len k hK
  simp only [hK]
  split at h
  ·rename_i e hk
   simp only [hk]
   cases hE:tb e with
   | none=>simp [hE,run] at h
   | some E =>
    simp only [hE,run,nEq] at h ⊢
    by_cases h0:len=0
    ·rw [if_pos h0]
     simp [h0] at h
     rw [← h]
    ·rw [if_neg h0]
     simp only [h0,decide_false,cond_false] at h
     split at h
     ·rename_i cs hc
      simp only [hc]
      split at h
      ·rename_i h1
       obtain ⟨h2,h3⟩:=chk_some h
       simp only [qx9,pOff,Nat.zero_add,decide_eq_true_eq] at h2
       rw [if_pos ⟨h1.1,h1.2.1,h1.2.2,h2⟩]
       simp only [run,clrC,Option.some.injEq] at h3
       rw [h1.1] at h3
       rw [h3]
      ·cases h
     ·cases h
  ·cases h
 ·cases h
inductive ConT where
 | pure (F:List PV→Tr PV)
 | store (D:List PV→Store→Tr (PV × Store))
 | flag
 | yld (e:Nat) (Y:Nat→List PV→Store→Tr (PV × Store))
 | glob (cs:List PV)
 | hint (l:List (Nat × Nat × Nat × TypeId))
def ConT.con:ConT→Con
 | .pure F=>.pure fun args=>Tr.run (F args)
 | .store D=>.store fun args σ=>Tr.run (D args σ)
 | .flag=>.flag
 | .glob cs=>.glob cs
 | .hint l=>.hint l
 | .yld e Y=>.yld e fun t args σ=>Tr.run (Y t args σ)
abbrev GamT:=FuncId→Option ConT
def gam (G:GamT):Gam:=fun f=>(G f).map ConT.con
def qv5 (kn:List Nat):Operand→Bool
 | .const _=>true
 | .tmp t=>kn.contains t
 | _=>false
def qlk (G:GamT):Bool:=match G qCF with
 | some .flag=>true
 | _=>false
theorem qkq (G:GamT):qkP (gam G)=qlk G:=by
 unfold qkP qlk gam
 cases G qCF with
 | none=>rfl
 | some c=>cases c <;> rfl
noncomputable def qwp (tb:Tab) (G:GamT) (kn:List Nat) (fr:List PV) (σ:Store) (c:Call):Tr (PV × Store) :=
 match c.callee with
 | .builtin .append=>match c.argTypes.toList,c.args.toList with
  | [t,t'],[s,x]=>if t=t' then match ev fr x with
   | .sl ys _=>tappend tb (qlk G) (qv5 kn x) t (ev fr s) ys σ
   | _=>.fail
   else match tb t' with
   | some K=>match K.kd,ev fr x with
    | .str,.str l=>tappend tb (qlk G) false t (ev fr s) (qad l) σ
    | _,_=>.fail
   | none=>.fail
  | _,_=>.fail
 | .builtin .len=>match c.argTypes.toList,c.args.toList with
  | [t],[x]=>match tb t with
   | some K=>match K.kd,ev fr x with
    | .str,.str l=>.ret (.int .i64 (sLen l),σ)
    | .sl _,.sl xs _=>.ret (.int .i64 (xLen xs),σ)
    | .sl _,.osl _ _ len _=>.ret (.int .i64 (oLen len),σ)
    | _,_=>.fail
   | none=>.fail
  | _,_=>.fail
 | .builtin .clear=>match c.argTypes.toList,c.args.toList with
  | [t],[x]=>tclear tb t (ev fr x) σ
  | _,_=>.fail
 | .value f=>match ev fr f with
  | .fn g caps=>match G g with
   | some (.pure F)=>bind (F ((c.args.toList.map (ev fr)++caps).map (view σ.objs))) fun x=>.ret (x,σ)
   | some (.store D)=>match f with
    | .func _=>D (c.args.toList.map (ev fr)) σ
    | _=>.fail
   | some .flag=>.fail
   | some (.yld _ _)=>.fail
   | some (.glob _)=>.fail
   | some (.hint _)=>.fail
   | none=>.fail
  | .yld t=>match G qe2 with
   | some (.yld e Y)=>match σ.toks[t]? with
    | some (s,k,e')=>if k=0∧e'=e then chk (nEq s 0) (Y t (c.args.toList.map (ev fr)) σ) else .fail
    | none=>.fail
   | _=>.fail
  | _=>.fail
 | _=>qkr (qd4 tb (gam G) fr σ c)
theorem qwx {tb:Tab} {G:GamT} {kn:List Nat} {fr:List PV} {σ:Store} {c:Call} {r:PV × Store} (h:run (qwp tb G kn fr σ c)=some r):qd4 tb (gam G) fr σ c=some r:=by
 unfold qwp at h
 split at h
 ·rename_i hc
  unfold qd4
  simp only [hc]
  split at h
  ·rename_i t t' s x ht hx
   simp only [ht,hx]
   split at h
   ·rename_i htt
    rw [if_pos htt]
    split at h
    ·rename_i ys tg he
     simp only [he]
     rw [qkq]
     exact qpR h
    ·cases h
   ·rename_i htt
    rw [if_neg htt]
    cases hK:tb t' with
    | none=>simp [hK,run] at h
    | some K =>
     simp only [hK] at h ⊢
     split at h
     ·rename_i l hk he
      simp only [hk,he]
      rw [qkq]
      exact qpR (tg:=.non) h
     ·cases h
  ·cases h
 ·rename_i hc
  unfold qd4
  simp only [hc]
  split at h
  ·rename_i t x ht hx
   simp only [ht,hx]
   cases hK:tb t with
   | none=>simp [hK,run] at h
   | some K =>
    simp only [hK] at h ⊢
    split at h
    ·rename_i l hk he
     simp only [hk,he]
     exact h
    ·rename_i e xs tg hk he
     simp only [hk,he]
     exact h
    ·rename_i e id off len k hk he
     simp only [hk,he]
     exact h
    ·cases h
  ·cases h
 ·rename_i hc
  unfold qd4
  simp only [hc]
  split at h
  ·rename_i t x ht hx
   simp only [ht,hx]
   exact qz2 h
  ·cases h
 ·rename_i f hc
  unfold qd4
  simp only [hc]
  split at h
  ·rename_i g caps he
   simp only [he]
   cases hG:G g with
   | none=>simp [hG,run] at h
   | some K =>
    cases K with
    | pure F =>
     simp only [hG] at h
     obtain ⟨x,hx,hr⟩:=bind_some h
     simp only [gam,hG,Option.map_some,ConT.con,hx]
     exact hr
    | store D =>
     simp only [hG] at h
     simp only [gam,hG,Option.map_some,ConT.con]
     split at h
     ·exact h
     ·cases h
    | flag =>
     simp only [hG] at h
     cases h
    | yld e Y =>
     simp only [hG] at h
     cases h
    | glob cs =>
     simp only [hG] at h
     cases h
    | hint l =>
     simp only [hG] at h
     cases h
  ·rename_i t he
   simp only [he]
   cases hG:G qe2 with
   | none=>simp [hG,run] at h
   | some K =>
    cases K with
    | yld e Y =>
     simp only [hG] at h
     simp only [gam,hG,Option.map_some,ConT.con]
     split at h
     ·rename_i s k e' htk
      simp only [htk]
      split at h
      ·rename_i hc2
       obtain ⟨h1,h2⟩:=chk_some h
       have h3:s=0:=by simpa [nEq] using h1
       rw [if_pos ⟨h3,hc2.1,hc2.2⟩]
       exact h2
      ·cases h
     ·cases h
    | pure F=>simp [hG,run] at h
    | store D=>simp [hG,run] at h
    | flag=>simp [hG,run] at h
    | glob cs=>simp [hG,run] at h
    | hint l=>simp [hG,run] at h
  ·cases h
 ·rwa [qcd] at h
def tun (op:UnOp) (x:PV):Tr PV :=
 match op,x with
 | .neg,.int k n=>.ret (.int k (iSub k 0 n))
 | .not,.bool b=>.ret (.bool (bNot b))
 | _,_=>.fail
theorem qJ9 {op:UnOp} {x r:PV} (h:run (tun op x)=some r):pun op x=some r:=by
 unfold tun at h
 unfold pun
 split at h
 ·exact h
 ·exact h
 ·cases h
def qHM (n m:Int) (s b:Nat):Bool:=decide (0≤n) && decide (n=m) && decide (n.toNat * s≤16777216) && decide (b * n.toNat≤281474976710656)
def zC (n:Nat) (z:List PV):List PV:=reps n z
noncomputable def qnq (tb:Tab) (m:Bool) (t:TypeId) (x y:PV) (σ:Store):Tr (PV × Store):=match m with
 | false=>bind (qkr (qgJ tb t x y)) fun x=>.ret (x,σ)
 | true=>match tb t,x,y with
  | some K,.int _ n,.int _ m=>match K.kd with
   | .sl e=>match tb e with
    | some E=>bif (E.zero.length == E.size && Nat.blt 0 E.size) then chk (qHM n m E.size E.bytes) (.ret (.osl σ.objs.length 0 (nNat n) E.size,{ σ with objs:=σ.objs++[zC (nNat n) E.zero],tys:=σ.tys++[e+qgb] })) else .fail
    | none=>.fail
   | _=>.fail
  | _,_,_=>.fail
theorem qrm {tb:Tab} {m:Bool} {t:TypeId} {x y:PV} {σ:Store} {r:PV × Store} (h:run (qnq tb m t x y σ)=some r):(if m=true then qiW tb t x y σ else (qgJ tb t x y).map fun x=>(x,σ))=some r:=by
 unfold qnq at h
 split at h
 ·obtain ⟨v,hv,h⟩:=bind_some h
  rw [qcd] at hv
  simp only [run,Option.some.injEq] at h
  subst h
  simp [hv]
 ·simp only [if_true]
  unfold qiW
  split at h
  ·rename_i K k1 n k2 m hK
   split at h
   ·rename_i e hk
    split at h
    ·rename_i E hE
     simp only [hK,hk,hE]
     cases hc:(E.zero.length == E.size && Nat.blt 0 E.size) with
     | false=>rw [hc] at h; cases h
     | true =>
      rw [hc] at h
      simp only [cond_true] at h
      obtain ⟨h1,h2⟩:=chk_some h
      simp only [Bool.and_eq_true,beq_iff_eq] at hc
      simp only [qHM,Bool.and_eq_true,decide_eq_true_eq] at h1
      have h3:0 < E.size:=by simpa using hc.2
      rw [if_pos ⟨h1.1.1.1,h1.1.1.2,h1.1.2,h1.2,hc.1,h3⟩]
      exact h2
    ·cases h
   ·cases h
  ·cases h
def qmt (G:GamT):Operand→Option (List PV)
 | .global g=>match G (qxp+g) with
  | some (.glob cs)=>some cs
  | _=>none
 | _=>none
theorem qsi (G:GamT) (a:Operand):gcells (gam G) a=qmt G a:=by
 cases a with
 | global g =>
  simp only [gcells,qmt,gam]
  cases G (qxp+g) with
  | none=>rfl
  | some K=>cases K <;> rfl
 | _=>rfl
theorem quV {G:GamT} {a:Operand} {cs:List PV} (h:qmt G a=some cs):gcells (gam G) a=some cs:=by rw [qsi,h]
theorem quE {G:GamT} {a:Operand} (h:qmt G a=none):gcells (gam G) a=none:=by rw [qsi,h]
def qiV (G:GamT) (o:Oper):List (Nat × Nat × TypeId):=match o.dst with
 | none=>[]
 | some d=>match G qe3 with
  | some (.hint l)=>qt7 l d
  | _=>[]
def qkh (G:GamT) (o:Oper):List (Nat × Nat × TypeId):=match o.op with
 | .move x=>match qpq x with
  | true=>qiV G o
  | false=>[]
 | .assign x=>match qpq x with
  | true=>qiV G o
  | false=>[]
 | .build _ _=>qiV G o
 | .alloc _=>qiV G o
 | _=>[]
theorem qjf (G:GamT) (o:Oper):hinted (gam G) o=qkh G o:=by
 have e:qmn (gam G) o=qiV G o:=by
  unfold qmn qiV gam
  cases o.dst with
  | none=>rfl
  | some d =>
   cases G qe3 with
   | none=>rfl
   | some K=>cases K <;> rfl
 unfold hinted qkh
 rw [e]
 cases o.op <;> rfl
noncomputable def topp (tb:Tab) (G:GamT) (kn:List Nat) (fr:List PV) (σ:Store) (o:Oper):Tr (PV × Bool × Store) :=
 match o.op with
 | .move x | .assign x=>match qkh G o with
  | []=>.ret (ev fr x,qv5 kn x,σ)
  | hs=>.ret ((rtag hs (ev fr x) σ).1,false,(rtag hs (ev fr x) σ).2)
 | .alloc t=>match tb t with
  | some K=>.ret ((robj (qkh G o) K.zero t σ).1,false,(robj (qkh G o) K.zero t σ).2)
  | none=>.fail
 | .build t parts=>bind (qkr (pbuild tb t (parts.toList.map fun p=>(p.1,ev fr p.2)))) fun x=>.ret ((rtag (qkh G o) x σ).1,false,(rtag (qkh G o) x σ).2)
 | .pick c a b=>match ev fr c with
  | .bool t=>br (qv5 kn c) t (.ret (ev fr a,qv5 kn a,σ)) (.ret (ev fr b,qv5 kn b,σ))
  | _=>.fail
 | .buildSlice t len parts=>bind (qkr (qhq tb t len (parts.toList.map fun p=>(p.1,ev fr p.2)))) fun x=>.ret (x,true,σ)
 | .binOp op t x y _=>bind (tbin tb op t x y (ev fr x) (ev fr y)) fun v=>.ret (v,false,σ)
 | .convert s d x=>bind (tconv tb s d (ev fr x)) fun v=>.ret (v,false,σ)
 | .slice t x lo hi mx=>bind (tslice tb t (ev fr x) (lo.map (ev fr)) (hi.map (ev fr)) (mx.map (ev fr))) fun v=>.ret (v,false,σ)
 | .indexAddr t x i=>bind (quc tb t (ev fr x) (ev fr i)) fun v=>.ret (v,false,σ)
 | .index t x i=>bind (tindex tb t (ev fr x) (ev fr i)) fun v=>.ret (v,false,σ)
 | .unOp op _ x=>bind (tun op (ev fr x)) fun v=>.ret (v,qv5 kn x,σ)
 | .load t a=>match qmt G a with
  | some cs=>match tb t with
   | some K=>bind (qkr (pload K cs 0)) fun v=>.ret (v,false,σ)
   | none=>.fail
  | none=>bind (tload tb t (ev fr a) σ) fun v=>.ret (v,false,σ)
 | .store t a x=>bind (tstore tb t (ev fr a) (ev fr x) σ) fun σ'=>.ret (.top,false,σ')
 | .call c=>bind (qwp tb G kn fr σ c) fun r=>.ret (r.1,false,r.2)
 | .makeSlice t l c=>bind (qnq tb (qlk G) t (ev fr l) (ev fr c) σ) fun r=>.ret (r.1,false,r.2)
 | _=>bind (qkr (pop tb (gam G) fr σ o)) fun r=>.ret (r.1,false,r.2)
theorem qHm {tb:Tab} {G:GamT} {kn:List Nat} {fr:List PV} {σ:Store} {o:Oper} {x:PV} {l:Bool} {σ':Store} (h:run (topp tb G kn fr σ o)=some (x,l,σ')):pop tb (gam G) fr σ o=some (x,σ'):=by
 unfold topp at h
 split at h
 ·rename_i y ho
  simp only [pop,ho,qjf]
  split at h
  ·rename_i hh
   simp only [run,Option.some.injEq,Prod.mk.injEq] at h
   obtain ⟨rfl,rfl,rfl⟩:=h
   rw [hh]
   rfl
  ·simp only [run,Option.some.injEq,Prod.mk.injEq] at h
   obtain ⟨h1,h2,h3⟩:=h
   exact congrArg some (Prod.ext h1 h3)
 ·rename_i y ho
  simp only [pop,ho,qjf]
  split at h
  ·rename_i hh
   simp only [run,Option.some.injEq,Prod.mk.injEq] at h
   obtain ⟨rfl,rfl,rfl⟩:=h
   rw [hh]
   rfl
  ·simp only [run,Option.some.injEq,Prod.mk.injEq] at h
   obtain ⟨h1,h2,h3⟩:=h
   exact congrArg some (Prod.ext h1 h3)
 ·rename_i t ho
  simp only [pop,ho,qjf]
  cases hK:tb t with
  | none=>simp [hK,run] at h
  | some K =>
   simp only [hK,run,Option.some.injEq,Prod.mk.injEq] at h ⊢
   obtain ⟨h1,h2,h3⟩:=h
   exact Prod.ext h1 h3
 ·rename_i t parts ho
  obtain ⟨v,hv,h⟩:=bind_some h
  rw [qcd] at hv
  simp only [run,Option.some.injEq,Prod.mk.injEq] at h
  obtain ⟨h1,h2,h3⟩:=h
  simp only [pop,ho,hv,Option.map_some,qjf]
  exact congrArg some (Prod.ext h1 h3)
 ·rename_i c a b ho
  simp only [pop,ho]
  split at h
  ·rename_i t ht
   rw [qLe] at h
   simp only [ht]
   cases t <;>
   ·simp only [run,cond_true,cond_false,Option.some.injEq,Prod.mk.injEq] at h ⊢
    exact ⟨h.1,h.2.2⟩
  ·cases h
 ·rename_i ho
  obtain ⟨v,hv,h⟩:=bind_some h
  rw [qcd] at hv
  simp only [run,Option.some.injEq,Prod.mk.injEq] at h
  obtain ⟨rfl,rfl,rfl⟩:=h
  simp only [pop,ho,hv,Option.map_some]
 ·rename_i ho
  obtain ⟨v,hv,h⟩:=bind_some h
  simp only [run,Option.some.injEq,Prod.mk.injEq] at h
  obtain ⟨rfl,rfl,rfl⟩:=h
  simp only [pop,ho,qFM hv,Option.map_some]
 ·rename_i ho
  obtain ⟨v,hv,h⟩:=bind_some h
  simp only [run,Option.some.injEq,Prod.mk.injEq] at h
  obtain ⟨rfl,rfl,rfl⟩:=h
  simp only [pop,ho,qEW hv,Option.map_some]
 ·rename_i ho
  obtain ⟨v,hv,h⟩:=bind_some h
  simp only [run,Option.some.injEq,Prod.mk.injEq] at h
  obtain ⟨rfl,rfl,rfl⟩:=h
  simp only [pop,ho,qAE hv,Option.map_some]
 ·rename_i ho
  obtain ⟨v,hv,h⟩:=bind_some h
  simp only [run,Option.some.injEq,Prod.mk.injEq] at h
  obtain ⟨rfl,rfl,rfl⟩:=h
  simp only [pop,ho,qvm hv,Option.map_some]
 ·rename_i ho
  obtain ⟨v,hv,h⟩:=bind_some h
  simp only [run,Option.some.injEq,Prod.mk.injEq] at h
  obtain ⟨rfl,rfl,rfl⟩:=h
  simp only [pop,ho,qAG hv,Option.map_some]
 ·rename_i ho
  obtain ⟨v,hv,h⟩:=bind_some h
  simp only [run,Option.some.injEq,Prod.mk.injEq] at h
  obtain ⟨rfl,rfl,rfl⟩:=h
  simp only [pop,ho,qJ9 hv,Option.map_some]
 ·rename_i t y ho
  cases hg:qmt G y with
  | some cs =>
   simp only [hg] at h
   cases hK:tb t with
   | none=>simp [hK,run] at h
   | some K =>
    simp only [hK] at h
    obtain ⟨v,hv,h⟩:=bind_some h
    rw [qcd] at hv
    simp only [run,Option.some.injEq,Prod.mk.injEq] at h
    obtain ⟨rfl,rfl,rfl⟩:=h
    simp only [pop,ho,quV hg,hK,hv,Option.map_some]
  | none =>
   simp only [hg] at h
   obtain ⟨v,hv,h⟩:=bind_some h
   simp only [run,Option.some.injEq,Prod.mk.injEq] at h
   obtain ⟨rfl,rfl,rfl⟩:=h
   exact qE8 ho (quE hg) hv
 ·rename_i t y z ho
  obtain ⟨v,hv,h⟩:=bind_some h
  simp only [run,Option.some.injEq,Prod.mk.injEq] at h
  obtain ⟨rfl,rfl,rfl⟩:=h
  exact qAJ ho hv
 ·rename_i c ho
  obtain ⟨v,hv,h⟩:=bind_some h
  simp only [run,Option.some.injEq,Prod.mk.injEq] at h
  obtain ⟨rfl,rfl,rfl⟩:=h
  simp only [pop,ho,qwx hv]
 ·rename_i t y z ho
  obtain ⟨v,hv,h⟩:=bind_some h
  simp only [run,Option.some.injEq,Prod.mk.injEq] at h
  obtain ⟨rfl,rfl,rfl⟩:=h
  simp only [pop,ho]
  have:=qrm hv
  rw [← qkq] at this
  exact this
 ·obtain ⟨v,hv,h⟩:=bind_some h
  rw [qcd] at hv
  simp only [run,Option.some.injEq,Prod.mk.injEq] at h
  obtain ⟨rfl,rfl,rfl⟩:=h
  exact hv
def kput (kn:List Nat) (dst:Option Tmp) (l:Bool):List Nat :=
 match dst with
 | some d=>bif l then d :: kn else kn.filter (fun t=>!(t == d))
 | none=>kn
abbrev Fm:=List Nat × List PV × Store
noncomputable def tops (tb:Tab) (G:GamT) (ops:List Oper):List Oper→List Nat→List PV→Store→Tr Fm
 | [],kn,fr,σ=>.ret (kn,fr,σ)
 | o :: rest,kn,fr,σ=>match o.guard with
  | none=>bind (topp tb G kn fr σ o) fun r=>tops tb G ops rest (kput kn o.dst r.2.1) (pput fr o.dst r.1) r.2.2
  | some (j,b)=>match (ops[j]?).bind (·.dst) with
   | none=>.fail
   | some d=>match fr[d]? with
    | some (.bool c) =>
     if kn.contains d then
      if c == b then bind (topp tb G kn fr σ o) fun r=>tops tb G ops rest (kput kn o.dst r.2.1) (pput fr o.dst r.1) r.2.2
      else tops tb G ops rest (kput kn o.dst false) (pput fr o.dst (.tup [])) σ
     else
      .ite c
       (if b then bind (topp tb G (d :: kn) (fr.set d (.bool true)) σ o) fun r=>tops tb G ops rest (kput (d :: kn) o.dst r.2.1) (pput (fr.set d (.bool true)) o.dst r.1) r.2.2
       else tops tb G ops rest (kput (d :: kn) o.dst false) (pput (fr.set d (.bool true)) o.dst (.tup [])) σ)
       (if b then tops tb G ops rest (kput (d :: kn) o.dst false) (pput (fr.set d (.bool false)) o.dst (.tup [])) σ
       else bind (topp tb G (d :: kn) (fr.set d (.bool false)) σ o) fun r=>tops tb G ops rest (kput (d :: kn) o.dst r.2.1) (pput (fr.set d (.bool false)) o.dst r.1) r.2.2)
    | some (.tup _)=>tops tb G ops rest (kput kn o.dst false) (pput fr o.dst (.tup [])) σ
    | _=>.fail
theorem qtx {fr:List PV} {d:Nat} {x:PV} (h:fr[d]?=some x):fr.set d x=fr:=by
 apply List.ext_getElem?
 intro i
 rw [List.getElem?_set]
 split
 ·rename_i e
  subst e
  split
  ·exact h.symm
  ·rename_i hl
   exact absurd (List.getElem?_eq_some_iff.1 h).1 hl
 ·rfl
theorem qGi {tb:Tab} {G:GamT} {ops:List Oper}:∀ (l:List Oper) (kn:List Nat) (fr:List PV) (σ:Store) (kn':List Nat) (fr':List PV) (σ':Store),run (tops tb G ops l kn fr σ)=some (kn',fr',σ')→pops tb (gam G) ops l fr σ=some (fr',σ'):=by
 intro l
 induction l with
 | nil =>
  intro kn fr σ kn' fr' σ' h
  simp only [tops,run,Option.some.injEq,Prod.mk.injEq] at h
  obtain ⟨_,rfl,rfl⟩:=h
  rfl
 | cons o rest ih =>
  intro kn fr σ kn' fr' σ' h
  have yes:∀ kn,pwanted ops fr o=some true→run (bind (topp tb G kn fr σ o) fun r=>tops tb G ops rest (kput kn o.dst r.2.1) (pput fr o.dst r.1) r.2.2)=some (kn',fr',σ')→pops tb (gam G) ops (o :: rest) fr σ=some (fr',σ'):=by
   intro kn hw h
   obtain ⟨⟨x,lt,σ1⟩,hx,h⟩:=bind_some h
   simp only [pops,hw,qHm hx]
   exact ih _ _ _ _ _ _ h
  have no:∀ kn,pwanted ops fr o=some false→run (tops tb G ops rest kn (pput fr o.dst (.tup [])) σ)=some (kn',fr',σ')→pops tb (gam G) ops (o :: rest) fr σ=some (fr',σ'):=by
   intro kn hw h
   simp only [pops,hw]
   exact ih _ _ _ _ _ _ h
  simp only [tops] at h
  split at h
  ·rename_i hg
   exact yes _ (by simp [pwanted,hg]) h
  ·rename_i j b hg
   split at h
   ·cases h
   ·rename_i d hd
    split at h
    ·rename_i c hc
     have hw:pwanted ops fr o=some (c == b):=by simp [pwanted,hg,hd,hc]
     split at h
     ·split at h
      ·rename_i hcb
       exact yes _ (by rw [hw,hcb]) h
      ·rename_i hcb
       exact no _ (by rw [hw]; simpa using hcb) h
     ·simp only [run] at h
      cases c with
      | true =>
       rw [qtx hc] at h
       simp only [cond_true] at h
       cases b with
       | true=>exact yes _ hw h
       | false=>exact no _ hw h
      | false =>
       rw [qtx hc] at h
       simp only [cond_false] at h
       cases b with
       | true=>exact no _ hw h
       | false=>exact yes _ hw h
    ·rename_i cs hc
     exact no _ (by simp [pwanted,hg,hd,hc]) h
    ·cases h
abbrev LpsT:=Nat→List PV→Store→Tr (PExit × List PV × Store)
def lps (L:LpsT):Lps:=fun r fr σ=>run (L r fr σ)
def qFI (fr:List PV) (c:Operand) (b:Bool):List PV:=match c with
 | .tmp t=>fr.set t (.bool b)
 | _=>fr
def knIf (kn:List Nat) (c:Operand):List Nat:=match c with
 | .tmp t=>t :: kn
 | _=>kn
noncomputable def texec (tb:Tab) (G:GamT) (L:LpsT):Code→List Nat→List PV→Store→Tr (PExit × Fm)
 | .skip,kn,fr,σ=>.ret (.normal,kn,fr,σ)
 | .label _,kn,fr,σ=>.ret (.normal,kn,fr,σ)
 | .region _ ops draw,kn,fr,σ=>bind (tops tb G ops.toList ops.toList kn fr σ) fun m=>match qCG (gam G) ops.toList draw with
  | false=>.ret (.normal,m)
  | true=>match qeZ (gam G) ops.toList m.2.1 σ.objs.length with
   | true=>.ret (.normal,m)
   | false=>.fail
 | .seq a b,kn,fr,σ=>bind (texec tb G L a kn fr σ) fun r=>match r.1 with
  | .normal=>texec tb G L b r.2.1 r.2.2.1 r.2.2.2
  | _=>.ret r
 | .cond c a b,kn,fr,σ=>match ev fr c with
  | .bool t =>
   if qv5 kn c then (if t then texec tb G L a kn fr σ else texec tb G L b kn fr σ)
   else .ite t (texec tb G L a (knIf kn c) (qFI fr c true) σ) (texec tb G L b (knIf kn c) (qFI fr c false) σ)
  | _=>.fail
 | .block id c,kn,fr,σ=>bind (texec tb G L c kn fr σ) fun r=>match r.1 with
  | .exit j=>if j=id then .ret (.normal,r.2) else .ret r
  | _=>.ret r
 | .loop c,kn,fr,σ=>bind (L (rid c) fr σ) fun r=>.ret (r.1,[],r.2.1,r.2.2)
 | .rangeFunc _ _ x y,kn,fr,σ=>bind (L (rfid x y) fr σ) fun r=>.ret (r.1,[],r.2.1,r.2.2)
 | .exit id,kn,fr,σ=>.ret (.exit id,kn,fr,σ)
 | .ret,kn,fr,σ=>.ret (.ret,kn,fr,σ)
 | _,_,_,_=>.fail
theorem qrS {fr:List PV} {c:Operand} {b:Bool} (h:ev fr c=.bool b):qFI fr c b=fr:=by
 cases c with
 | tmp t =>
  simp only [qFI]
  apply qtx
  simp only [ev,List.getD_eq_getElem?_getD] at h
  cases hx:fr[t]? with
  | none=>simp [hx] at h
  | some x=>simp only [hx,Option.getD_some] at h; rw [h]
 | _=>rfl
theorem qpF {tb:Tab} {G:GamT} {L:LpsT}:∀ (c:Code) (kn:List Nat) (fr:List PV) (σ:Store) (e:PExit) (kn':List Nat) (fr':List PV) (σ':Store),run (texec tb G L c kn fr σ)=some (e,kn',fr',σ')→pexec tb (gam G) (lps L) c fr σ=some (e,fr',σ'):=by
 intro c
 induction c with
 | skip | label | exit | ret =>
  intro kn fr σ e kn' fr' σ' h
  simp only [texec,run,Option.some.injEq,Prod.mk.injEq] at h
  obtain ⟨rfl,_,rfl,rfl⟩:=h
  rfl
 | region id ops draw =>
  intro kn fr σ e kn' fr' σ' h
  obtain ⟨⟨kn1,fr1,σ1⟩,h1,h2⟩:=bind_some h
  simp only at h2
  have fin:qCG (gam G) ops.toList draw=false∨qeZ (gam G) ops.toList fr1 σ.objs.length=true→run (Tr.ret (α:=PExit × Fm) (.normal,kn1,fr1,σ1))=some (e,kn',fr',σ')→pexec tb (gam G) (lps L) (.region id ops draw) fr σ=some (e,fr',σ'):=fun hc h2=>by
   simp only [run,Option.some.injEq,Prod.mk.injEq] at h2
   obtain ⟨rfl,_,rfl,rfl⟩:=h2
   simp only [pexec,qGi _ _ _ _ _ _ _ h1]
   rw [if_neg (by rcases hc with hc | hc <;> simp [hc])]
  split at h2
  ·rename_i hna
   exact fin (.inl hna) h2
  ·split at h2
   ·rename_i hal
    exact fin (.inr hal) h2
   ·cases h2
 | seq a b iha ihb =>
  intro kn fr σ e kn' fr' σ' h
  obtain ⟨⟨e1,kn1,fr1,σ1⟩,h1,h2⟩:=bind_some h
  have:=iha _ _ _ _ _ _ _ h1
  cases e1 with
  | normal =>
   simp only [pexec,this]
   exact ihb _ _ _ _ _ _ _ h2
  | exit j =>
   simp only [run,Option.some.injEq,Prod.mk.injEq] at h2
   obtain ⟨rfl,_,rfl,rfl⟩:=h2
   simp only [pexec,this]
  | ret =>
   simp only [run,Option.some.injEq,Prod.mk.injEq] at h2
   obtain ⟨rfl,_,rfl,rfl⟩:=h2
   simp only [pexec,this]
 | cond c a b iha ihb =>
  intro kn fr σ e kn' fr' σ' h
  simp only [texec] at h
  simp only [pexec]
  split at h
  ·rename_i t ht
   simp only [ht]
   split at h
   ·cases t with
    | true=>exact iha _ _ _ _ _ _ _ h
    | false=>exact ihb _ _ _ _ _ _ _ h
   ·simp only [run] at h
    cases t with
    | true =>
     rw [qrS ht] at h
     exact iha _ _ _ _ _ _ _ h
    | false =>
     rw [qrS ht] at h
     exact ihb _ _ _ _ _ _ _ h
  ·cases h
 | block id c ih =>
  intro kn fr σ e kn' fr' σ' h
  obtain ⟨⟨e1,kn1,fr1,σ1⟩,h1,h2⟩:=bind_some h
  have:=ih _ _ _ _ _ _ _ h1
  simp only [pexec,this]
  cases e1 with
  | normal =>
   simp only [run,Option.some.injEq,Prod.mk.injEq] at h2
   obtain ⟨rfl,_,rfl,rfl⟩:=h2
   rfl
  | ret =>
   simp only [run,Option.some.injEq,Prod.mk.injEq] at h2
   obtain ⟨rfl,_,rfl,rfl⟩:=h2
   rfl
  | exit j =>
   simp only [] at h2 ⊢
   by_cases hj:j=id
   ·rw [if_pos hj] at h2 ⊢
    simp only [run,Option.some.injEq,Prod.mk.injEq] at h2
    obtain ⟨rfl,_,rfl,rfl⟩:=h2
    rfl
   ·rw [if_neg hj] at h2 ⊢
    simp only [run,Option.some.injEq,Prod.mk.injEq] at h2
    obtain ⟨rfl,_,rfl,rfl⟩:=h2
    rfl
 | loop c ih =>
  intro kn fr σ e kn' fr' σ' h
  obtain ⟨⟨e1,fr1,σ1⟩,h1,h2⟩:=bind_some h
  simp only [run,Option.some.injEq,Prod.mk.injEq] at h2
  obtain ⟨rfl,_,rfl,rfl⟩:=h2
  simp only [pexec,lps,h1]
 | rangeFunc g ps x y ihx ihy =>
  intro kn fr σ e kn' fr' σ' h
  obtain ⟨⟨e1,fr1,σ1⟩,h1,h2⟩:=bind_some h
  simp only [run,Option.some.injEq,Prod.mk.injEq] at h2
  obtain ⟨rfl,_,rfl,rfl⟩:=h2
  simp only [pexec,lps,h1]
 | scope | goto | refuse=>intro kn fr σ e kn' fr' σ' h; cases h
def qMU (cs:List PV) (off len k:Nat):List (List PV):=chunks k len (cs.drop off)
noncomputable def tview (objs:List (List PV)):PV→Tr PV
 | .osl id off len k=>match objs[id]? with
  | some cs=>chk (qx9 cs off (pOff 0 len k)) (.ret (.sl (qMU cs off len k) .non))
  | none=>.fail
 | x=>.ret x
noncomputable def tviews (objs:List (List PV)):List PV→Tr (List PV)
 | []=>.ret []
 | x :: xs=>bind (tview objs x) fun y=>bind (tviews objs xs) fun ys=>.ret (y :: ys)
theorem qCK {objs:List (List PV)} {x y:PV} (h:run (tview objs x)=some y):oview objs x=y:=by
 cases x with
 | osl id off len k =>
  simp only [tview] at h
  simp only [oview]
  cases hc:objs[id]? with
  | none=>rw [hc] at h; cases h
  | some cs =>
   rw [hc] at h
   obtain ⟨h1,h2⟩:=chk_some h
   simp only [qx9,pOff,Nat.zero_add,decide_eq_true_eq] at h1
   simp only [run,Option.some.injEq] at h2
   simp only [if_pos h1]
   exact h2
 | _=>simp only [tview,run,Option.some.injEq] at h; exact h
theorem qsk {objs:List (List PV)}:∀ {xs ys:List PV},run (tviews objs xs)=some ys→xs.map (oview objs)=ys
 | [],ys,h=>by simp only [tviews,run,Option.some.injEq] at h; exact h
 | x :: xs,ys,h=>by
  obtain ⟨y,h1,h2⟩:=bind_some h
  obtain ⟨zs,h3,h4⟩:=bind_some h2
  simp only [run,Option.some.injEq] at h4
  rw [List.map_cons,qCK h1,qsk h3,h4]
noncomputable def tcall (tb:Tab) (G:GamT) (L:LpsT) (fn:Func) (args:List PV):Tr PV :=
 match fn.body with
 | none=>.fail
 | some c=>bind (texec tb G L c [] (args++List.replicate (fn.ntmps - args.length) .top) ⟨[],[],[]⟩) fun r=>match r.1 with
  | .exit _=>.fail
  | _=>bind (qkr (presults tb r.2.2.1 r.2.2.2 fn.results.toList)) fun xs=>bind (tviews r.2.2.2.objs xs) fun ys=>.ret (pout ys)
theorem qoX {tb:Tab} {G:GamT} {L:LpsT} {fn:Func} {args:List PV} {x:PV} (h:run (tcall tb G L fn args)=some x):pcall tb (gam G) (lps L) fn args=some x:=by
 unfold tcall at h
 unfold pcall
 cases hb:fn.body with
 | none=>simp [hb,run] at h
 | some c =>
  simp only [hb] at h ⊢
  obtain ⟨⟨e1,kn1,fr1,σ1⟩,h1,h2⟩:=bind_some h
  rw [qpF _ _ _ _ _ _ _ _ h1]
  have key:∀ (o:Option (List PV)),run (bind (qkr o) fun xs=>bind (tviews σ1.objs xs) fun ys=>.ret (pout ys))=some x→(o.map fun xs=>pout (xs.map (oview σ1.objs)))=some x:=by
   intro o h
   obtain ⟨xs,h3,h4⟩:=bind_some h
   obtain ⟨ys,h5,h6⟩:=bind_some h4
   rw [qcd] at h3
   simp only [run,Option.some.injEq] at h6
   rw [h3,Option.map_some,qsk h5,h6]
  cases e1 with
  | normal=>exact key _ h2
  | ret=>exact key _ h2
  | exit j=>cases h2
noncomputable def qlP (tb:Tab) (G:GamT) (L:LpsT) (fn:Func) (args:List PV) (σ:Store):Tr (PV × Store) :=
 match fn.body with
 | none=>.fail
 | some c=>bind (texec tb G L c [] (args++List.replicate (fn.ntmps - args.length) .top) σ) fun r=>match r.1 with
  | .exit _=>.fail
  | _=>qkr ((presults tb r.2.2.1 r.2.2.2 fn.results.toList).map fun xs=>(qC5 xs,r.2.2.2))
theorem qAh {tb:Tab} {G:GamT} {L:LpsT} {fn:Func} {args:List PV} {σ:Store} {x:PV × Store} (h:run (qlP tb G L fn args σ)=some x):qyJ tb (gam G) (lps L) fn args σ=some x:=by
 unfold qlP at h
 unfold qyJ
 cases hb:fn.body with
 | none=>simp [hb,run] at h
 | some c =>
  simp only [hb] at h ⊢
  obtain ⟨⟨e1,kn1,fr1,σ1⟩,h1,h2⟩:=bind_some h
  rw [qpF _ _ _ _ _ _ _ _ h1]
  cases e1 with
  | normal=>simp only [qcd] at h2; exact h2
  | ret=>simp only [qcd] at h2; exact h2
  | exit j=>cases h2
def ofL (l:List (FuncId × ConT)):GamT:=fun f=>(l.find? fun p=>p.1 == f).map (·.2)
theorem qag {P:Program} {gl:Gl}:qaR P gl (gam (ofL [])):=by
 intro f F h
 simp [gam,ofL] at h
theorem qbS {P:Program} {gl:Gl} {f:FuncId} {K:ConT} {l:List (FuncId × ConT)} (h:qnC P gl f K.con) (hl:qaR P gl (gam (ofL l))):qaR P gl (gam (ofL ((f,K) :: l))):=by
 intro g F' hg
 simp only [gam,ofL,List.find?_cons] at hg
 by_cases hfg:f=g
 ·subst hfg
  simp at hg
  subst hg
  exact h
 ·have:(f == g)=false:=by simp [hfg]
  simp only [this] at hg
  exact hl g F' hg
theorem qac {P:Program} {gl:Gl} {f:FuncId} {F:List PV→Tr PV} {l:List (FuncId × ConT)} (h:SimP P gl f fun args=>Tr.run (F args)) (hl:qaR P gl (gam (ofL l))):qaR P gl (gam (ofL ((f,.pure F) :: l))):=qbS (K:=.pure F) h hl
theorem qes {P:Program} {gl:Gl} {f:FuncId} {D:List PV→Store→Tr (PV × Store)} {l:List (FuncId × ConT)} (h:SimS P gl f fun args σ=>Tr.run (D args σ)) (hl:qaR P gl (gam (ofL l))):qaR P gl (gam (ofL ((f,.store D) :: l))):=qbS (K:=.store D) h hl
theorem SimP.of_tree {P : Program} {tb : Tab} {gl : Gl} {G : GamT} (hT : qbY P tb) (hΓ : qaR P gl (gam G)) (hm : P.follows .mixedOrders = true) {f : FuncId} {fn : Func} {c : Code} (hf : P.funcs[f]? = some fn) (hb : fn.body = some c) (hn : (fn.name == "runtime.NumGoroutine") = false)
  (hdr:qbE (gam G) c=true) {L:LpsT} (hL:qcj P gl (lps L) c) {F:List PV→Tr PV} (h:∀ args x,Tr.run (F args)=some x→(∃ H w vs,RelL H w args vs)→Tr.run (tcall tb G L fn args)=some x):SimP P gl f fun args=>Tr.run (F args) :=
 SimP.of_pcall hT hΓ hm hf hb hn hdr fun args x hx hr=>⟨lps L,hL,qoX (h args x hx hr)⟩
theorem SimS.of_tree {P : Program} {tb : Tab} {gl : Gl} {G : GamT} (hT : qbY P tb) (hΓ : qaR P gl (gam G)) (hm : P.follows .mixedOrders = true) {f : FuncId} {fn : Func} {c : Code} (hf : P.funcs[f]? = some fn) (hb : fn.body = some c) (hn : (fn.name == "runtime.NumGoroutine") = false)
  (hdr:qbE (gam G) c=true) {L:LpsT} (hL:qcj P gl (lps L) c) {D:List PV→Store→Tr (PV × Store)} (h:∀ args σ x σ',Tr.run (D args σ)=some (x,σ')→(∃ H w vs,RelL H w args vs)→Tr.run (qlP tb G L fn args σ)=some (x,σ')):SimS P gl f fun args σ=>Tr.run (D args σ) :=
 SimS.of_pcallS hT hΓ hm hf hb hn hdr fun args σ x σ' hx hr=>⟨lps L,hL,qAh (h args σ x σ' hx hr)⟩
theorem Does.of_tree {P:Program} {tb:Tab} {gl:Gl} {G:GamT} (hT:qbY P tb) (hΓ:qaR P gl (gam G)) (hm:P.follows .mixedOrders=true) {L:LpsT} {c:Code} {kn:List Nat} {fr:List PV} {σ:Store} {e:PExit} {kn':List Nat} {fr':List PV} {σ':Store}
  (hL:qcj P gl (lps L) c) (hdr:qbE (gam G) c=true) (h:run (texec tb G L c kn fr σ)=some (e,kn',fr',σ')):Does P gl c fr σ e fr' σ' :=
 qby hT hΓ hm c _ _ _ _ _ hL hdr (qpF _ _ _ _ _ _ _ _ h)
end Go.Pv
namespace Go.Pv
@[simp] theorem Tr.run_ite {α:Type} (b:Bool) (x y:Tr α):(Tr.ite b x y).run=if b=true then x.run else y.run:=by cases b <;> rfl
@[simp] theorem Tr.run_ret {α:Type} (a:α):(Tr.ret a).run=some a:=rfl
@[simp] theorem Tr.run_fail {α:Type}:(Tr.fail:Tr α).run=none:=rfl
@[simp] theorem Tr.run_get {α:Type} (xs:List (List PV)) (i:Nat) (z:List PV) (k:List PV→Tr α):(Tr.get xs i z k).run=match xs[i]? with | some cs=>(k cs).run | none=>none:=by first | (rw [Tr.run.eq_def]; done) | (rw [Tr.run.eq_def]; rfl)
@[simp] theorem qrW (a b:Int):iEq a b=decide (a=b):=by unfold iEq; by_cases h:a=b <;> simp [h]
@[simp] theorem qMj (a b:Int):iNe a b=decide (a≠b):=by unfold iNe; by_cases h:a=b <;> simp [h]
@[simp] theorem qyY (a b:Int):iLt a b=decide (a < b):=rfl
@[simp] theorem qFD (a b:Int):iLe a b=decide (a≤b):=rfl
@[simp] theorem imin_eq (a b:Int):imin a b=if b < a then b else a:=rfl
@[simp] theorem qDC (a:Bool):bNot a=!a:=rfl
@[simp] theorem bAnd_eq (a b:Bool):bAnd a b=(a && b):=rfl
@[simp] theorem bEq_eq (a b:Bool):bEq a b=(a == b):=rfl
@[simp] theorem qHR (a b:List UInt8):sEq a b=decide (a=b):=by unfold sEq; by_cases h:a=b <;> simp [h]
@[simp] theorem sNe_eq (a b:List UInt8):sNe a b=decide (a≠b):=by unfold sNe; by_cases h:a=b <;> simp [h]
@[simp] theorem sLt_eq (a b:List UInt8):sLt a b=Op.bytesLess a b:=rfl
@[simp] theorem sLe_eq (a b:List UInt8):sLe a b=(Op.bytesLess a b || a == b):=rfl
@[simp] theorem sGt_eq (a b:List UInt8):sGt a b=!(Op.bytesLess a b || a == b):=rfl
@[simp] theorem sGe_eq (a b:List UInt8):sGe a b=!Op.bytesLess a b:=rfl
@[simp] theorem sApp_eq (a b:List UInt8):sApp a b=a++b:=rfl
@[simp] theorem qho (l:List UInt8):sLen l=(l.length:Int):=rfl
@[simp] theorem qss (l:List UInt8) (a b:Nat):sSub l a b=(l.take b).drop a:=rfl
@[simp] theorem qHy (l:List UInt8) (n:Int):sAt l n=((l.getD n.toNat 0).toNat:Int):=rfl
@[simp] theorem sOne_eq (n:Int):sOne n=[UInt8.ofNat n.toNat]:=rfl
@[simp] theorem qtD (n:Int):nNat n=n.toNat:=rfl
@[simp] theorem qDt (l:List UInt8):nLen l=l.length:=rfl
@[simp] theorem xLen_eq (l:List (List PV)):xLen l=(l.length:Int):=rfl
@[simp] theorem nXs_eq (l:List (List PV)):nXs l=l.length:=rfl
@[simp] theorem xSub_eq (l:List (List PV)) (a b:Nat):xSub l a b=(l.take b).drop a:=rfl
@[simp] theorem qip (a b:List (List PV)):xApp a b=a++b:=rfl
@[simp] theorem xNil_eq (a:List (List PV)):xNil a=decide (a=[]):=by cases a <;> rfl
@[simp] theorem bytesOf_nil:qad []=[]:=rfl
@[simp] theorem bytesOf_len (l:List UInt8):(qad l).length=l.length:=by simp [qad]
@[simp] theorem bytesOf_get (l:List UInt8) (i:Nat):(qad l)[i]?=(l[i]?).map fun b=>[.int .u8 b.toNat]:=by simp [qad]
theorem qqj (a b:List UInt8):qad (a++b)=qad a++qad b:=by simp [qad]
@[simp] theorem bytesOf_take (l:List UInt8) (n:Nat):(qad l).take n=qad (l.take n):=by simp [qad]
@[simp] theorem bytesOf_drop (l:List UInt8) (n:Nat):(qad l).drop n=qad (l.drop n):=by simp [qad]
theorem qnz (l:List UInt8):pbytes (qad l)=some l:=by
 unfold qad
 induction l with
 | nil=>rfl
 | cons b l ih=>simp [pbytes,ih]
@[simp] theorem qtP (l:List UInt8):qdu (qad l)=true:=by unfold qdu; rw [qnz]; rfl
@[simp] theorem qtC (l:List UInt8):qci (qad l)=l:=by unfold qci; rw [qnz]; rfl
def qB4 (xs:List (List PV)):Option (List UInt8):=xs.mapM fun c=>match c with | [.int .u8 n]=>if 0≤n∧n < 256 then some (UInt8.ofNat n.toNat) else none | _=>none
@[simp] theorem decBs_bytes (l:List UInt8):qB4 (qad l)=some l:=by
 unfold qB4 qad
 induction l with
 | nil=>rfl
 | cons a l ih =>
  have:((a.toNat:Int) < 256):=by have:=a.toNat_lt; omega
  simp_all
theorem qAP {xs:List (List PV)} {l:List UInt8} (h:qB4 xs=some l):xs=qad l:=by
 unfold qB4 at h
 unfold qad
 induction xs generalizing l with
 | nil=>simp at h; subst h; rfl
 | cons c xs ih =>
  rw [List.mapM_cons] at h
  split at h
  ·rename_i n
   split at h
   ·rename_i hn
    cases hx:xs.mapM fun c=>match c with | [.int .u8 n]=>if 0≤n∧n < 256 then some (UInt8.ofNat n.toNat) else none | _=>none with
    | none=>simp [hx] at h
    | some m =>
     simp [hx] at h
     subst h
     simp [ih hx]
     omega
   ·simp at h
  ·simp at h
@[simp] theorem qF2 (a b:List UInt8):qa2 a b=decide (a.length+b.length≤maxLen):=rfl
@[simp] theorem okAscii_eq (n:Int):qf0 n=decide (0≤n∧n < 128):=by unfold qf0; by_cases h:0≤n <;> simp [h]
@[simp] theorem okLen_eq (l:List UInt8):qkC l=decide (l.length≤140737488355328):=rfl
@[simp] theorem okIdx_eq (l:List UInt8) (n:Int):qaJ l n=decide (0≤n∧n.toNat < l.length):=by unfold qaJ; by_cases h:0≤n <;> simp [h]
@[simp] theorem okPos_eq (n:Int):qaw n=decide (0≤n):=rfl
@[simp] theorem okSub_eq (ca cb:Bool) (a b n:Nat):qaI ca cb a b n=(ca && cb && decide (a≤b) && decide (b≤n)):=rfl
@[simp] theorem okSub3_eq (ca cb cc:Bool) (a b c n:Nat):qBR ca cb cc a b c n=(ca && cb && cc && decide (a≤b) && decide (b=c) && decide (b≤n)):=rfl
@[simp] theorem qDZ (xs ys:List (List PV)) (n:Nat):qaP xs ys n=(decide ((xs.length+ys.length) * n≤140737488355328) && decide (xs.length+ys.length≤140737488355328)):=rfl
@[simp] theorem nEq_eq (a b:Nat):nEq a b=decide (a=b):=rfl
@[simp] theorem pOff_eq (off n k:Nat):pOff off n k=off+n * k:=rfl
@[simp] theorem nSub_eq (b a:Nat):nSub b a=b - a:=rfl
@[simp] theorem oLen_eq (n:Nat):oLen n=(n:Int):=rfl
@[simp] theorem okIx_eq (n:Int) (len:Nat):okIx n len=decide (0≤n∧n.toNat < len):=by unfold okIx; by_cases h:0≤n <;> simp [h]
@[simp] theorem okOff_eq (cs:List PV) (off n:Nat):qx9 cs off n=decide (off+n≤cs.length):=rfl
@[simp] theorem qdb (l:List UInt8):qaC (qad l) 1=true:=by simp [qaC,qad]
@[simp] theorem qnu (l:List UInt8):qaO (qad l) 1=true:=by simp [qaO,qad,one]
@[simp] theorem okSize_app (a b:List (List PV)) (n:Nat):qaC (a++b) n=(qaC a n && qaC b n):=by simp [qaC]
@[simp] theorem okSize_nil (n:Nat):qaC [] n=true:=rfl
@[simp] theorem okNews_nil (n:Nat):qaO [] n=true:=rfl
@[simp] theorem okSize_cons (x:List PV) (a:List (List PV)) (n:Nat):qaC (x :: a) n=(x.length == n && qaC a n):=by simp [qaC]
@[simp] theorem okNews_cons (x:List PV) (a:List (List PV)) (n:Nat):qaO (x :: a) n=(x.length == n && x.all one && qaO a n):=by simp [qaO]
theorem qqX:∀ {a:List (List PV)},(∀ x ∈ a,qfl x=x)→qaa a=a
 | [],_=>rfl
 | x :: a,h=>by simp only [qaa]; rw [h x (by simp),qqX fun y hy=>h y (by simp [hy])]
theorem qpu:∀ {a:List (List PV)},(∀ x ∈ a,qfe x=x)→qb5 a=a
 | [],_=>rfl
 | x :: a,h=>by simp only [qb5]; rw [h x (by simp),qpu fun y hy=>h y (by simp [hy])]
@[simp] theorem qu8 (l:List UInt8):qaa (qad l)=qad l:=qqX (by simp [qad,qfl,lock])
@[simp] theorem shutLL_bytes (l:List UInt8):qb5 (qad l)=qad l:=qpu (by simp [qad,qfe,shut])
end Go.Pv
set_option linter.unusedSimpArgs false
set_option linter.unusedVariables false
namespace Go.Pv
open Go.RowKit
def look:List (Nat × PV)→Nat→PV
 | [],_=>.top
 | (j,x) :: l,i=>if j=i then x else look l i
def qcr (l:List (Nat × PV)):Nat→Nat→List PV
 | 0,_=>[]
 | n+1,i=>look l i :: qcr l n (i+1)
def mk (n:Nat) (l:List (Nat × PV)):List PV:=qcr l n 0
theorem qzW (f:Nat→PV):∀ (ss:List Nat) (i:Nat),look (ss.zip (ss.map f)) i=.top∨look (ss.zip (ss.map f)) i=f i
 | [],i=>.inl rfl
 | s :: ss,i=>by
  simp only [List.map_cons,List.zip_cons_cons,look]
  split
  ·rename_i h; subst h; exact .inr rfl
  ·exact qzW f ss i
theorem qpr (f:Nat→PV) (l:List (Nat × PV)) (hl:∀ i,look l i=.top∨look l i=f i):∀ (fr:List PV) (k:Nat),(∀ i,i < fr.length→fr.getD i .top=f (k+i))→Weak fr (qcr l fr.length k)
 | [],k,h=>trivial
 | x :: fr,k,h=>by
  refine ⟨?_,qpr f l hl fr (k+1) (fun i hi=>?_)⟩
  ·have:=h 0 (by simp)
   simp at this
   subst this
   exact hl k
  ·have:=h (i+1) (by simpa using hi)
   simp only [List.getD_cons_succ] at this
   rw [this]
   congr 1
   omega
theorem qCw (fr:List PV) (ss:List Nat):Weak fr (mk fr.length (ss.zip (ss.map fun s=>fr.getD s .top))):=by
 unfold mk
 exact qpr (fun s=>fr.getD s .top) _ (qzW _ ss) fr 0 (fun i _=>by simp)
section
variable {α : Type}
def oracle (n:Nat) (ss:List Nat) (dec:List PV→Store→Option α) (res:α→Tr (PExit × List (Nat × PV) × Store)) (fr:List PV) (σ:Store):Tr (PExit × List PV × Store) :=
 if fr.length=n then match dec (ss.map fun s=>fr.getD s .top) σ with
  | some a=>Tr.bind (res a) fun r=>.ret (r.1,mk n r.2.1,r.2.2)
  | none=>.fail
 else .fail
theorem qh9 {P:Program} {gl:Gl} {c:Code} {n:Nat} {ss:List Nat} {dec:List PV→Store→Option α} {res:α→Tr (PExit × List (Nat × PV) × Store)}
  (h:∀ vs σ a e out σ',dec vs σ=some a→(res a).run=some (e,out,σ')→LDoes P gl c (mk n (ss.zip vs)) σ e (mk n out) σ') :
  ∀ fr σ e fr' σ',(oracle n ss dec res fr σ).run=some (e,fr',σ')→LDoes P gl c fr σ e fr' σ':=by
 intro fr σ e fr' σ' hr
 unfold oracle at hr
 split at hr
 ·rename_i hn
  split at hr
  ·rename_i a ha
   obtain ⟨⟨e1,out,σ1⟩,h1,h2⟩:=Tr.bind_some hr
   simp only [Tr.run_ret,Option.some.injEq,Prod.mk.injEq] at h2
   obtain ⟨rfl,rfl,rfl⟩:=h2
   have hw:=qCw fr ss
   rw [hn] at hw
   exact LDoes.into hw (h _ _ _ _ _ _ ha h1)
  ·cases hr
 ·cases hr
end
section
variable {P : Program} {gl : Gl} {c : Code} {fr : List PV} {σ : Store} {e : PExit} {fr' : List PV} {σ' : Store}
theorem quq {fr:List PV} (h:∃ H w vs,RelL H w fr vs) (i:Nat) {l:List UInt8} (hi:fr[i]?=some (.str l)):l.length≤maxLen:=by
 obtain ⟨H,w,vs,h⟩:=h
 obtain ⟨v,_,hr⟩:=h.get hi
 cases hr with
 | str _ hl=>exact hl
theorem qng {fr:List PV} (h:∃ H w vs,RelL H w fr vs) (i:Nat) {k:IntKind} {n:Int} (hi:fr[i]?=some (.int k n)):k.min≤n∧n≤k.max:=by
 obtain ⟨H,w,vs,h⟩:=h
 obtain ⟨v,_,hr⟩:=h.get hi
 cases hr with
 | int _ _ hl=>simpa [Lit.wf] using hl
end
def qej:Code→List (Nat × Code)
 | .seq a b=>qej a++qej b
 | .cond _ a b=>qej a++qej b
 | .block _ c=>qej c
 | .loop c=>[(rid c,c)]
 | _=>[]
def qE6 (fn:Func) (k:Nat):Code:=match fn.body with
 | some c=>match (qej c)[k]? with
  | some p=>p.2
  | none=>.skip
 | none=>.skip
def qdB:Code→List (Nat × Code)
 | .seq a b=>qdB a++qdB b
 | .cond _ a b=>qdB a++qdB b
 | .block _ c=>qdB c
 | .rangeFunc g ps x y=>[(rfid x y,.rangeFunc g ps x y)]
 | _=>[]
theorem qeC {P:Program} {gl:Gl} {L:Lps}:∀ {c:Code},(∀ p ∈ qej c,∀ fr σ e fr' σ',L p.1 fr σ=some (e,fr',σ')→LDoes P gl p.2 fr σ e fr' σ')→(∀ p ∈ qdB c,∀ fr σ e fr' σ',L p.1 fr σ=some (e,fr',σ')→Does P gl p.2 fr σ e fr' σ')→qcj P gl L c
 | .seq a b,h,k=>⟨qeC (fun p hp=>h p (List.mem_append.2 (.inl hp))) (fun p hp=>k p (List.mem_append.2 (.inl hp))),qeC (fun p hp=>h p (List.mem_append.2 (.inr hp))) (fun p hp=>k p (List.mem_append.2 (.inr hp)))⟩
 | .cond _ a b,h,k=>⟨qeC (fun p hp=>h p (List.mem_append.2 (.inl hp))) (fun p hp=>k p (List.mem_append.2 (.inl hp))),qeC (fun p hp=>h p (List.mem_append.2 (.inr hp))) (fun p hp=>k p (List.mem_append.2 (.inr hp)))⟩
 | .block _ c,h,k=>qeC (c:=c) h k
 | .loop c,h,_=>h (rid c,c) (by simp [qej])
 | .skip,_,_=>trivial
 | .region ..,_,_=>trivial
 | .exit _,_,_=>trivial
 | .ret,_,_=>trivial
 | .label _,_,_=>trivial
 | .goto _,_,_=>trivial
 | .refuse _,_,_=>trivial
 | .scope _,_,_=>trivial
 | .rangeFunc g ps x y,_,k=>k (rfid x y,.rangeFunc g ps x y) (by simp [qdB])
theorem qqp {P:Program} {gl:Gl} {L:Lps} {c:Code} (h:∀ p ∈ qej c,∀ fr σ e fr' σ',L p.1 fr σ=some (e,fr',σ')→LDoes P gl p.2 fr σ e fr' σ') (hn:qdB c=[]):qcj P gl L c:=qeC h (by rw [hn]; simp)
theorem qae {P:Program} {gl:Gl} {L:Lps} {c:Code} (h:qej c=[]) (hn:qdB c=[]:=by kernel_rfl):qcj P gl L c:=qqp (by rw [h]; simp) hn
theorem qgQ {P:Program} {gl:Gl} {L:Lps} {c:Code} {r:Nat} {c1:Code} (h:qej c=[(r,c1)]) (h1:∀ fr σ e fr' σ',L r fr σ=some (e,fr',σ')→LDoes P gl c1 fr σ e fr' σ') (hn:qdB c=[]:=by kernel_rfl):qcj P gl L c :=
 qqp (by rw [h]; intro p hp; simp at hp; subst hp; exact h1) hn
def Tr.all {α:Type}:Tr α→(α→Prop)→Prop
 | .ret a,Q=>Q a
 | .fail,_=>False
 | .ite b x y,Q=>(b=true→x.all Q)∧(b=false→y.all Q)
 | .get xs i _ k,Q=>∃ cs,xs[i]?=some cs∧(k cs).all Q
theorem Tr.all_run {α:Type} {Q:α→Prop}:∀ {t:Tr α},t.all Q→∃ r,t.run=some r∧Q r
 | .ret a,h=>⟨a,rfl,h⟩
 | .fail,h=>h.elim
 | .ite b x y,h=>by
  cases b with
  | true=>obtain ⟨r,h1,h2⟩:=Tr.all_run (h.1 rfl); exact ⟨r,by simpa using h1,h2⟩
  | false=>obtain ⟨r,h1,h2⟩:=Tr.all_run (h.2 rfl); exact ⟨r,by simpa using h1,h2⟩
 | .get xs i _ k,⟨cs,h1,h2⟩=>by
  obtain ⟨r,h3,h4⟩:=Tr.all_run h2
  exact ⟨r,by simp [h1,h3],h4⟩
inductive TrN (α:Type) where
 | ret (a:α)
 | fail
 | ite (b:Bool) (x y:TrN α)
 | need (xs:List (List PV)) (i:Nat) (cs:List PV) (x:TrN α)
def TrN.all {α:Type}:TrN α→(α→Prop)→Prop
 | .ret a,Q=>Q a
 | .fail,_=>False
 | .ite b x y,Q=>(b=true→x.all Q)∧(b=false→y.all Q)
 | .need xs i cs x,Q=>xs[i]?=some cs∧x.all Q
theorem Tr.run_as {α:Type} {t:Tr α} (t':Tr α) (h:t=t') {r:Option α} (hr:t'.run=r):t.run=r:=by rw [h]; exact hr
theorem Tr.all_as {α:Type} {t:Tr α} (t':Tr α) (h:t=t') {Q:α→Prop} (hr:t'.all Q):t.all Q:=by rw [h]; exact hr
theorem TrN.all_as {α:Type} {t:TrN α} (t':TrN α) (h:t=t') {Q:α→Prop} (hr:t'.all Q):t.all Q:=by rw [h]; exact hr
theorem TrN.all_t {α:Type} {b:Bool} {x y:TrN α} {Q:α→Prop} (h:b=true) (hx:x.all Q):(TrN.ite b x y).all Q:=⟨fun _=>hx,fun h'=>by rw [h] at h'; cases h'⟩
theorem TrN.all_f {α:Type} {b:Bool} {x y:TrN α} {Q:α→Prop} (h:b=false) (hy:y.all Q):(TrN.ite b x y).all Q:=⟨fun h'=>(by rw [h] at h'; cases h'),fun _=>hy⟩
def Next (P:Program) (gl:Gl) (c:Code) (e:PExit) (fr':List PV) (σ':Store):PExit × Fm→Prop
 | (.normal,_,fr1,σ1)=>LDoes P gl c fr1 σ1 e fr' σ'
 | (e1,_,fr1,σ1)=>e1=e∧Weak fr1 fr'∧σ1=σ'
theorem LDoes.round {P:Program} {tb:Tab} {gl:Gl} {G:GamT} (hT:qbY P tb) (hΓ:qaR P gl (gam G)) (hm:P.follows .mixedOrders=true) {L:LpsT} {c:Code} (hL:qcj P gl (lps L) c) (hdr:qbE (gam G) c=true)
  {fr:List PV} {σ:Store} {e:PExit} {fr':List PV} {σ':Store} (h:(texec tb G L c [] fr σ).all (Next P gl c e fr' σ')):LDoes P gl c fr σ e fr' σ':=by
 obtain ⟨⟨e1,kn,fr1,σ1⟩,h1,h2⟩:=Tr.all_run h
 have hd:=Does.of_tree hT hΓ hm hL hdr h1
 cases e1 with
 | normal=>exact LDoes.next hd h2
 | exit j =>
  obtain ⟨rfl,hw,rfl⟩:=h2
  exact LDoes.outof (LDoes.out hd (by simp)) hw
 | ret =>
  obtain ⟨rfl,hw,rfl⟩:=h2
  exact LDoes.outof (LDoes.out hd (by simp)) hw
theorem qbB {α:Type} {l:List α} {i:Nat} {v:α} (h:l[i]?=some v):l.drop i=v :: l.drop (i+1):=by
 obtain ⟨hi,rfl⟩:=List.getElem?_eq_some_iff.1 h
 exact List.drop_eq_getElem_cons hi
theorem qe0 {α:Type} {l:List α} {i:Nat} (h:i < l.length):∃ v,l[i]?=some v:=⟨l[i],List.getElem?_eq_getElem h⟩
def qMd (t:Option PV) (l:List UInt8):Bool:=match t with
 | some (.str m)=>m == l
 | _=>false
theorem qFW {t:Option PV} {l:List UInt8} (h:qMd t l=true):t=some (.str l):=by
 unfold qMd at h
 split at h
 ·rw [beq_iff_eq] at h; rw [h]
 ·cases h
def qL0 (t:Option PV) (k:IntKind) (n:Int):Bool:=match t with
 | some (.int j m)=>j == k && m == n
 | _=>false
theorem qzV {t:Option PV} {k:IntKind} {n:Int} (h:qL0 t k n=true):t=some (.int k n):=by
 unfold qL0 at h
 split at h
 ·rw [Bool.and_eq_true,beq_iff_eq] at h; rw [h.1,eq_of_beq h.2]
 ·cases h
def qLO (t:Option PV) (l:List UInt8):Bool:=match t with
 | some (.sl xs .non)=>qB4 xs == some l
 | _=>false
theorem qHl {t:Option PV} {l:List UInt8} (h:qLO t l=true):t=some (.sl (qad l) .non):=by
 unfold qLO at h
 split at h
 ·rw [beq_iff_eq] at h; rw [qAP h]
 ·cases h
theorem qnW {c:Int} (h:IntKind.u8.min≤c∧c≤IntKind.u8.max):∃ n:Fin 256,c=(n.val:Int):=by
 have h1:0≤c∧c≤255:=h
 exact ⟨⟨c.toNat,by omega⟩,by simp; omega⟩
theorem SimP.of_each {P : Program} {gl : Gl} {f : FuncId} {F : List PV → Option PV} (hent : ∃ fn, P.funcs[f]? = some fn ∧ (fn.name == "runtime.NumGoroutine") = false ∧ fn.body.isNone = false)
  (h:∀ args x,F args=some x→∃ F',SimP P gl f F'∧F' args=some x):SimP P gl f F where
 ent:=hent
 run:=fun args x hx H w vs h1 h2 h3 h4 h5=>by
  obtain ⟨F',hF,hx'⟩:=h args x hx
  exact hF.run args x hx' H w vs h1 h2 h3 h4 h5
@[simp] theorem okBytes_one (n:Int):qdu [[.int .u8 n]]=true:=by simp [qdu,pbytes]
@[simp] theorem unBytes_one (n:Int):qci [[.int .u8 n]]=[UInt8.ofNat n.toNat]:=by simp [qci,pbytes]
def ltN (n:Int) (k:Nat):Bool:=decide (n.toNat < k)
@[simp] theorem ltN_eq (n:Int) (k:Nat):ltN n k=decide (n.toNat < k):=rfl
theorem Tr.all_t {α:Type} {b:Bool} {x y:Tr α} {Q:α→Prop} (h:b=true) (hx:x.all Q):(Tr.ite b x y).all Q:=⟨fun _=>hx,fun h'=>by rw [h] at h'; cases h'⟩
theorem Tr.all_f {α:Type} {b:Bool} {x y:Tr α} {Q:α→Prop} (h:b=false) (hy:y.all Q):(Tr.ite b x y).all Q:=⟨fun h'=>(by rw [h] at h'; cases h'),fun _=>hy⟩
theorem qmI {l:List UInt8} (h:1≤l.length):xNil (qad l)=false:=by
 cases l with
 | nil=>simp at h
 | cons a l=>rfl
theorem qd5 (l:List UInt8):nXs (qad l)=nLen l:=by simp
theorem qjm (a b:List UInt8):xApp (qad a) (qad b)=qad (a++b):=(qqj a b).symm
theorem qf8 {a b:List UInt8} (h:a.length+b.length≤140737488355328):qaP (qad a) (qad b) 1=true:=by simp [h]
theorem qhZ (a:List UInt8) {n:Int} (h:0≤n∧n < 256):xApp (qad a) [[.int .u8 n]]=qad (a++[UInt8.ofNat n.toNat]):=by
 rw [qqj]
 simp [qad]
 omega
theorem qKE {fr:List PV} (h:∃ H w vs,RelL H w fr vs) (i:Nat) {cs:List PV} (hi:fr[i]?=some (.agg cs)):∃ H w vs,RelL H w cs vs:=by
 obtain ⟨H,w,vs,h⟩:=h
 obtain ⟨v,_,hr⟩:=h.get hi
 cases hr with
 | agg _ us hl=>exact ⟨H,w,us,hl⟩
theorem qbo {n:Int} (h:-9223372036854775808≤n∧n≤9223372036854775807):IntKind.wrap .i64 n=n:=by
 unfold IntKind.wrap
 simp [IntKind.bits,IntKind.signed]
 split <;> omega
theorem qs9 {n:Int} (h:0≤n∧n≤255):IntKind.wrap .u8 n=n:=by
 unfold IntKind.wrap
 simp [IntKind.bits,IntKind.signed]
 omega
theorem qeM {n:Int} (h:0≤n∧n≤18446744073709551615):IntKind.wrap .u64 n=n:=by
 unfold IntKind.wrap
 simp [IntKind.bits,IntKind.signed]
 omega
end Go.Pv
set_option linter.unusedSimpArgs false
set_option linter.unusedVariables false
namespace Go.Pv
open Go.RowKit Go.ChangeShapes Go.WideShapes
mutual
inductive Shp (P:Program):TypeId→List PV→Prop where
 | bool (t:TypeId) (b:Bool) (h:P.underlying t=some .bool):Shp P t [.bool b]
 | int (t:TypeId) (k:IntKind) (n:Int) (h:P.underlying t=some (.int k)):Shp P t [.int k n]
 | str (t:TypeId) (l:List UInt8) (h:P.underlying t=some .string):Shp P t [.str l]
 | sl (t e:TypeId) (xss:List (List PV)) (h:P.underlying t=some (.slice e)) (hx:∀ xs,xs ∈ xss→Shp P e xs):Shp P t [.sl xss .non]
 | struct (t:TypeId) (fs:Array Field) (xs:List PV) (h:P.underlying t=some (.struct fs)) (hx:ShpL P (fs.toList.map (·.type)) xs):Shp P t xs
inductive ShpL (P:Program):List TypeId→List PV→Prop where
 | nil:ShpL P [] []
 | cons (t:TypeId) (ts:List TypeId) (xs ys:List PV) (h:Shp P t xs) (hs:ShpL P ts ys):ShpL P (t :: ts) (xs++ys)
end
def layF (P:Program):Nat→List Field→Option Nat
 | off,[]=>some off
 | off,f :: fs=>if f.offset=off then layF P (off+P.cellsOf f.type) fs else none
def okT (P:Program):Nat→TypeId→Bool
 | 0,_=>false
 | n+1,t=>match P.underlying t with
  | some .bool | some (.int _) | some .string=>true
  | some (.slice e)=>okT P n e
  | some (.struct fs)=>(layF P 0 fs.toList == some (P.cellsOf t)) && fs.toList.all fun f=>okT P n f.type
  | _=>false
def ghOf (w:World):Gh:=⟨w.heap.size,fun _ _=>True,fun _ _=>False,[],[],w.heap.size⟩
section
variable {H : Type} {enc : TypeId × Value → H} {P : Program} {w : World} {held : Bool}
theorem qKd {w:World} {a:Addr} {v:Value} (h:w.cell? a=some v):a.block < w.heap.size:=by
 unfold World.cell? at h
 cases hb:w.heap[a.block]? with
 | none=>simp [hb] at h
 | some o=>exact (Array.getElem?_eq_some_iff.1 hb).1
theorem qrC {n fuel:Nat} (ih:∀ t cs x,DataW.trod enc P w 0 (fun _=>true) held fuel t cs=some x→okT P n t=true→∃ xs,RelL (ghOf w) w xs cs∧Shp P t xs) (cs:List Value) (tot:Nat) (hl:cs.length=tot) :
  ∀ (fs:List Field) (off:Nat),layF P off fs=some tot→(fs.all fun f=>okT P n f.type)=true →
   (∀ f ∈ fs,∃ y,DataW.trod enc P w 0 (fun _=>true) held fuel f.type ((cs.drop f.offset).take (P.cellsOf f.type))=some y)→∃ ys,RelL (ghOf w) w ys (cs.drop off)∧ShpL P (fs.map (·.type)) ys
 | [],off,hlay,_,_=>by
  simp only [layF,Option.some.injEq] at hlay
  subst hlay
  rw [List.drop_eq_nil_of_le (by omega)]
  exact ⟨[],.nil,.nil⟩
 | f :: fs,off,hlay,hok,hm=>by
  simp only [layF] at hlay
  split at hlay
  ·rename_i ho
   subst ho
   simp only [List.all_cons,Bool.and_eq_true] at hok
   obtain ⟨b,hb⟩:=hm f (by simp)
   obtain ⟨p,hp,hs⟩:=ih _ _ _ hb hok.1
   obtain ⟨ys,hys,hss⟩:=qrC ih cs tot hl fs _ hlay hok.2 (fun g hg=>hm g (by simp [hg]))
   refine ⟨p++ys,?_,.cons _ _ _ _ hs hss⟩
   have e:cs.drop f.offset=(cs.drop f.offset).take (P.cellsOf f.type)++cs.drop (f.offset+P.cellsOf f.type):=by
    rw [← List.drop_drop]
    exact (List.take_append_drop _ _).symm
   rw [e]
   exact hp.app hys
  ·cases hlay
theorem qyT {n fuel:Nat} {e:TypeId} (ih:∀ t cs x,DataW.trod enc P w 0 (fun _=>true) held fuel t cs=some x→okT P n t=true→∃ xs,RelL (ghOf w) w xs cs∧Shp P t xs) (he:okT P n e=true) (a:Addr) (k:Nat) :
  ∀ (len s:Nat),(∀ i,i < len→∃ cs' y,w.cells? 0 (a.add ((s+i) * k)) k=some cs'∧DataW.trod enc P w 0 (fun _=>true) held fuel e cs'=some y) →
   ∃ (xss:List (List PV)) (vss:List (List Value)),xss.length=len∧RelLL (ghOf w) w xss vss∧(∀ xs ∈ xss,Shp P e xs)∧∀ (i:Nat) (vs:List Value),vss[i]?=some vs→vs.length=k∧CellsAt (ghOf w) w (a.add ((s+i) * k)) vs
 | 0,s,_=>⟨[],[],rfl,.nil,by simp,by simp⟩
 | len+1,s,h=>by
  obtain ⟨cs',y,hc,hy⟩:=h 0 (by omega)
  obtain ⟨xs,hxs,hs⟩:=ih _ _ _ hy he
  obtain ⟨xss,vss,h1,h2,h3,h4⟩:=qyT ih he a k len (s+1) (fun i hi=>by
   have:=h (i+1) (by omega)
   have e1:s+(i+1)=s+1+i:=by omega
   rwa [e1] at this)
  obtain ⟨_,hl,hcell⟩:=World.cells?_some hc
  refine ⟨xs :: xss,cs' :: vss,by simp [h1],.cons _ _ _ _ hxs h2,?_,?_⟩
  ·intro z hz
   rcases List.mem_cons.1 hz with rfl | hz
   ·exact hs
   ·exact h3 z hz
  ·intro i vs hi
   cases i with
   | zero =>
    simp at hi
    subst hi
    refine ⟨hl,fun j v hj=>?_⟩
    have hj':j < k:=by rw [← hl]; exact (List.getElem?_eq_some_iff.1 hj).1
    have hcj:=(hcell j hj').trans hj
    exact ⟨⟨qKd hcj,fun _=>trivial,by simp [ghOf],by simp [ghOf]⟩,hcj⟩
   | succ i =>
    have:=h4 i vs (by simpa using hi)
    have e1:s+(i+1)=s+1+i:=by omega
    rw [e1]
    exact this
theorem qyQ:∀ (fuel n:Nat) (t:TypeId) (cs:List Value) (x:DataW H × List MemPlace),DataW.trod enc P w 0 (fun _=>true) held fuel t cs=some x→okT P n t=true→∃ xs,RelL (ghOf w) w xs cs∧Shp P t xs
 | 0,_,_,_,_,h,_=>by simp [DataW.trod] at h
 | fuel+1,0,_,_,_,_,hn=>by simp [okT] at hn
 | fuel+1,n+1,t,cs,x,h,hn=>by
  simp only [okT] at hn
  have ih:∀ t cs x,DataW.trod enc P w 0 (fun _=>true) held fuel t cs=some x→okT P n t=true→∃ xs,RelL (ghOf w) w xs cs∧Shp P t xs:=fun t cs x h hn=>qyQ fuel n t cs x h hn
  split at hn
  ·rename_i hu
   obtain ⟨b,rfl,_⟩:=DataW.trod_bool hu h
   exact ⟨[.bool b],.cons _ _ _ _ (.bool b) .nil,.bool t b hu⟩
  ·rename_i k hu
   obtain ⟨m,rfl,_,hw⟩:=DataW.trod_int hu h
   exact ⟨[.int k m],.cons _ _ _ _ (.int k m hw) .nil,.int t k m hu⟩
  ·rename_i hu
   obtain ⟨s,rfl,_,hs⟩:=DataW.trod_string hu h
   exact ⟨[.str s.data.toList],.cons _ _ _ _ (.str s.data.toList hs) .nil,.str t _ hu⟩
  ·rename_i e hu
   rcases DataW.trod_slice hu h with ⟨rfl,_⟩ | ⟨a,len,cap,elems,rest,n',hn',rfl,_,_,hlc,hcm,hel,helem,_⟩
   ·exact ⟨[.sl [] .non],.cons _ _ _ _ (.sl none 0 0 0 [] [] .non rfl (Nat.le_refl _) (Nat.zero_le _) .nil (by intro i vs hi; simp at hi) trivial) .nil,.sl t e [] hu (by simp)⟩
   ·have:n'=fuel:=by omega
    subst this
    obtain ⟨xss,vss,h1,h2,h3,h4⟩:=qyT ih hn a (P.cellsOf e) len 0 (fun i hi=>by
     have h5:=helem i hi
     have h6:∃ y,elems[i]?=some y:=⟨elems[i]'(by omega),List.getElem?_eq_getElem (by omega)⟩
     obtain ⟨y,hy⟩:=h6
     rw [hy] at h5
     obtain ⟨cs',hc,hd⟩:=Option.bind_eq_some_iff.1 h5
     exact ⟨cs',y,by rw [Nat.zero_add]; exact hc,hd⟩)
    refine ⟨[.sl xss .non],.cons _ _ _ _ (.sl (some a) len cap (P.cellsOf e) xss vss .non h1 hlc hcm h2 (fun i vs hi=>?_) trivial) .nil,.sl t e xss hu h3⟩
    have:=h4 i vs hi
    rw [Nat.zero_add] at this
    exact ⟨this.1,a,rfl,this.2⟩
  ·rename_i fs hu
   simp only [Bool.and_eq_true] at hn
   obtain ⟨xs,n',hn',_,hl,hxl,hf⟩:=DataW.trod_struct hu h
   have:n'=fuel:=by omega
   subst this
   obtain ⟨ys,hys,hss⟩:=qrC ih cs _ hl fs.toList 0 (by simpa using hn.1) hn.2 (fun f hfm=>by
    obtain ⟨i,hi⟩:=List.mem_iff_getElem?.1 hfm
    have hi':fs[i]?=some f:=by simpa using hi
    have hlt:i < fs.size:=(Array.getElem?_eq_some_iff.1 hi').1
    exact ⟨xs[i]'(by omega),(hf i f hi').trans (List.getElem?_eq_getElem (by omega))⟩)
   exact ⟨ys,by simpa using hys,.struct t fs ys hu hss⟩
  ·cases hn
def Arg (P:Program) (t:TypeId) (x:PV):Prop :=
 (∃ fs ys,P.underlying t=some (.struct fs)∧x=.agg ys∧Shp P t ys)∨((∀ fs,P.underlying t≠some (.struct fs))∧Shp P t [x])
inductive ArgL (P:Program):List TypeId→List PV→Prop where
 | nil:ArgL P [] []
 | cons (t:TypeId) (ts:List TypeId) (x:PV) (xs:List PV) (h:Arg P t x) (hs:ArgL P ts xs):ArgL P (t :: ts) (x :: xs)
theorem qKQ {r:Reach} {b0 n:Nat} {t:TypeId} {v:Value} {d:DataW H} {ps:List MemPlace} (hval:Value.okWide P w r b0 t v) (hd:DataW.Trod enc P w 0 (fun _=>true) held t v d ps) (hn:okT P n t=true):∃ x,Rel (ghOf w) w x v∧Arg P t x:=by
 obtain ⟨fuel,h⟩:=hd
 obtain ⟨xs,hxs,hs⟩:=qyQ fuel n t _ _ h hn
 have one:v.cells=#[v]→(∀ fs,P.underlying t≠some (.struct fs))→∃ x,Rel (ghOf w) w x v∧Arg P t x:=by
  intro hc hne
  rw [hc] at hxs
  cases hxs with
  | cons x _ xs _ hx hxs =>
   cases hxs
   exact ⟨x,hx,.inr ⟨hne,hs⟩⟩
 cases n with
 | zero=>simp [okT] at hn
 | succ n =>
  simp only [okT] at hn
  split at hn
  ·rename_i hu
   obtain ⟨b,rfl⟩:=okWide_bool hu hval
   exact one rfl (by rw [hu]; simp)
  ·rename_i k hu
   obtain ⟨m,rfl⟩:=okWide_int hu hval
   exact one rfl (by rw [hu]; simp)
  ·rename_i hu
   obtain ⟨s,rfl⟩:=okWide_string hu hval
   exact one rfl (by rw [hu]; simp)
  ·rename_i e hu
   obtain ⟨a,len,cap,rfl⟩:=okWide_slice hu hval
   exact one rfl (by rw [hu]; simp)
  ·rename_i fs hu
   obtain ⟨cs,rfl,_⟩:=okWide_struct hu hval
   refine ⟨.agg xs,?_,.inl ⟨fs,xs,hu,rfl,hs⟩⟩
   have:=Rel.agg (H:=ghOf w) (w:=w) xs cs.toList hxs
   simpa using this
  ·cases hn
theorem qzI {r:Reach} {b0 n:Nat}:∀ {ts:List TypeId} {vs:List Value} {ds:List (DataW H)} {ps:List MemPlace},(∀ (j:Nat) t v,ts[j]?=some t→vs[j]?=some v→Value.okWide P w r b0 t v) →
  DataW.TrodAll enc P w 0 (fun _=>true) held ts vs ds ps→(ts.all fun t=>okT P n t)=true→∃ xs,RelL (ghOf w) w xs vs∧ArgL P ts xs
 | [],vs,ds,ps,_,h,_=>by
  obtain ⟨rfl,rfl,rfl⟩:=trodAll_nil h
  exact ⟨[],.nil,.nil⟩
 | t :: ts,vs,ds,ps,hval,h,hn=>by
  obtain ⟨v,vs',d,ds',p,q,rfl,rfl,rfl,hd,hrest⟩:=trodAll_cons h
  simp only [List.all_cons,Bool.and_eq_true] at hn
  obtain ⟨x,hx,ha⟩:=qKQ (hval 0 t v rfl rfl) hd hn.1
  obtain ⟨xs,hxs,has⟩:=qzI (fun j t' v' ht hv=>hval (j+1) t' v' ht hv) hrest hn.2
  exact ⟨x :: xs,.cons _ _ _ _ hx hxs,.cons _ _ _ _ ha has⟩
theorem qlM {W W':World} (hlo:laidOutB P=true) (hb:Below W.heap.size W W'):∀ {ts:List TypeId} {vs:List Value} {ds:List (DataW H)} {ps:List MemPlace},(∀ t ∈ ts,P.readableRec t=true∧t < P.types.size)→(∀ x ∈ ps,x.block < W.heap.size) →
  DataW.TrodAll enc P W 0 (fun _=>true) true ts vs ds ps→DataW.TrodAll enc P W' 0 (fun b=>decide (b < W.heap.size)) true ts vs ds ps
 | [],vs,ds,ps,_,_,h=>by
  obtain ⟨rfl,rfl,rfl⟩:=trodAll_nil h
  exact rfl
 | t :: ts,vs,ds,ps,hp,hlt,h=>by
  obtain ⟨v,vs',d,ds',p,q,rfl,rfl,rfl,hd,hrest⟩:=trodAll_cons h
  exact ⟨p,q,Below.trod hlo (hp t (by simp)).1 (hp t (by simp)).2 hd hb (fun x hx=>hlt x (by simp [hx])),qlM hlo hb (fun t' ht=>hp t' (by simp [ht])) (fun x hx=>hlt x (by simp [hx])) hrest,rfl⟩
theorem qHe (hlo:laidOutB P=true) {f:Func} {s:ChangeSpec} {tb:TypeId} (hrt:f.resultTypes=#[tb]) (htb:P.underlying tb=some .bool) (hv:s.vars=[])
  (hpar:∀ t ∈ f.params.toList,P.readableRec t=true∧t < P.types.size) {W W':World} {args:Array Value} {ds gs:List (DataW H)} {before:List MemPlace} {apart fresh handsOn:Bool}
  (hW:DataW.Whole enc P f.params.toList s.vars apart W args.toList ds gs before) (hfn:s.fn H ds={ results:=[.lit (.bool true)],args:=ds }) (hb:Below W.heap.size W W') :
  s.post enc P f apart fresh handsOn false W args (.bool true) W':=by
 have hlt:∀ p ∈ before,p.block < W.heap.size:=fun p hp=>by simpa using hW.lt p hp
 have hW':=hW
 obtain ⟨p,q,hA,hV,rfl,hfz,hnd⟩:=hW
 rw [hv] at hV
 obtain ⟨rfl,rfl⟩:=trodVars_none hV
 refine ⟨ds,[],p++[],[],p,[],hW',?_,?_,?_,?_,fun h=>by cases h⟩
 ·rw [List.append_nil,hfn,hrt]
  exact ⟨[],[],⟨1,by simp [DataW.trod,Value.cells,htb]⟩,rfl,rfl⟩
 ·rw [List.append_nil,hfn]
  exact qlM hlo hb hpar (fun x hx=>hlt x (by simp [hx])) hA
 ·rw [List.append_nil,hfn,hv]
  exact rfl
 ·exact hb.frame _
theorem qlp:∀ {laid:List (String × DataW Unit)} {ps:List MemPlace} {nm:String} {d:DataW Unit},DataW.LaidVars P w laid ps→(nm,d) ∈ laid →
  ∃ g t cs fuel p,P.globalNamed nm=some g∧(P.globals[g]?).map (·.type)=some t∧w.var? P nm=some cs∧DataW.trod (fun _=>()) P w 0 (fun _=>true) false fuel t cs.toList=some (d,p)
 | [],ps,nm,d,_,hm=>by cases hm
 | (n,d') :: r,ps,nm,d,h,hm=>by
  obtain ⟨g,t,cs,fuel,p,q,h1,h2,h3,h4,h5,_⟩:=h
  rcases List.mem_cons.1 hm with hm | hm
  ·cases hm
   exact ⟨g,t,cs,fuel,p,h1,h2,h3,h4⟩
  ·exact qlp h5 hm
theorem qnL {nm:String} {cs:Array Value} {g:Nat} (hg:P.globalNamed nm=some g) (h:w.var? P nm=some cs):∃ T f,w.heap[g]?=some (.cells cs T f):=by
 unfold World.var? at h
 rw [hg] at h
 simp only [Option.bind_some] at h
 split at h
 ·rename_i cs' T f he
  cases h
  exact ⟨T,f,he⟩
 ·cases h
theorem qrG {t:TypeId} {ms:Array (String × TypeId)} {fuel:Nat} {cs:Array Value} {nm:String} {d:DataW Unit} {p:List MemPlace} (hi:P.underlying t=some (.interface ms))
  (h:DataW.trod (fun _=>()) P w 0 (fun _=>true) false fuel t cs.toList=some (.iface nm d,p)):∃ u v,cs=#[.iface u v]:=by
 cases fuel with
 | zero=>simp [DataW.trod] at h
 | succ fuel =>
  obtain ⟨l⟩:=cs
  simp only [DataW.trod,hi] at h
  split at h
  all_goals first | (rename_i heq _; cases heq; done) | (rename_i heq; cases heq; done) | skip
  all_goals first | (exact ⟨_,_,rfl⟩) | (cases h; done)
end
end Go.Pv
set_option linter.unusedSimpArgs false
set_option linter.unusedVariables false
namespace Go.Pv
open Go.RowKit
def dropS (n:Nat) (σ:Store):Store:=⟨(σ.objs.take n).map (qca n),σ.toks,σ.tys.take n⟩
theorem qms (n:Nat):∀ (xs:List PV),(qca n xs).length=xs.length
 | []=>rfl
 | x :: xs=>by simp [qca,qms n xs]
theorem qpV (n:Nat):∀ (xs:List (List PV)),(qay n xs).length=xs.length
 | []=>rfl
 | x :: xs=>by simp [qay,qpV n xs]
theorem qr7 (n:Nat):∀ {a:List (List PV)},(∀ x ∈ a,qca n x=x)→qay n a=a
 | [],_=>rfl
 | x :: a,h=>by simp only [qay]; rw [h x (by simp),qr7 n fun y hy=>h y (by simp [hy])]
@[simp] theorem dropPLL_bytes (n:Nat) (l:List UInt8):qay n (qad l)=qad l:=qr7 n (by simp [qad,qca,qc7])
@[simp] theorem dropPLL_nil (n:Nat):qay n []=[]:=rfl
mutual
theorem qsj (n:Nat):∀ {x:PV},lock x=x→qc7 n x=x
 | .top,_=>rfl
 | .bool _,_=>rfl
 | .int _ _,_=>rfl
 | .str _,_=>rfl
 | .nilp,_=>rfl
 | .ptr _ _,h=>by simp [lock] at h
 | .ref cs,h=>by simp only [lock,PV.ref.injEq] at h; simp only [qc7]; rw [qep n h]
 | .sl xs t,h=>by simp only [lock,PV.sl.injEq] at h; simp only [qc7]; rw [qiF n h.1]
 | .osl _ _ _ _,h=>by simp [lock] at h
 | .fn f caps,h=>by simp only [lock,PV.fn.injEq] at h; simp only [qc7]; rw [qep n h.2]
 | .nilf,_=>rfl
 | .iface t v,h=>by simp only [lock,PV.iface.injEq] at h; simp only [qc7]; rw [qsj n h.2]
 | .nili,_=>rfl
 | .agg cs,h=>by simp only [lock,PV.agg.injEq] at h; simp only [qc7]; rw [qep n h]
 | .tup cs,h=>by simp only [lock,PV.tup.injEq] at h; simp only [qc7]; rw [qep n h]
theorem qep (n:Nat):∀ {x:List PV},qfl x=x→qca n x=x
 | [],_=>rfl
 | x :: xs,h=>by simp only [qfl,List.cons.injEq] at h; simp only [qca]; rw [qsj n h.1,qep n h.2]
theorem qiF (n:Nat):∀ {x:List (List PV)},qaa x=x→qay n x=x
 | [],_=>rfl
 | x :: xs,h=>by simp only [qaa,List.cons.injEq] at h; simp only [qay]; rw [qep n h.1,qiF n h.2]
end
def Gh.keep (H:Gh) (n:Nat):Gh:={ H with ob:=H.ob.take n }
section
variable {H : Gh} {w : World} {n : Nat}
theorem ql4 {b off:Nat} (h:H.prot w b off):(H.keep n).prot w b off:=⟨h.1,h.2.1,fun hm=>h.2.2.1 (List.mem_of_mem_take hm),h.2.2.2⟩
theorem qA5 {b off:Nat} (h:H.prot2 w b off):(H.keep n).prot2 w b off:=h.elim (fun h=>.inl (ql4 h)) .inr
mutual
theorem qy8:∀ {x:PV} {v:Value},Rel H w x v→Rel (H.keep n) w (qc7 n x) v
 | _,_,.top v=>by simp only [qc7]; exact .top v
 | _,_,.bool b=>by simp only [qc7]; exact .bool b
 | _,_,.int k m h=>by simp only [qc7]; exact .int k m h
 | _,_,.str l h=>by simp only [qc7]; exact .str l h
 | _,_,.nilp=>by simp only [qc7]; exact .nilp
 | _,_,.ptr id off b h=>by
  simp only [qc7]
  cases hn:decide (id < n) with
  | true=>exact .ptr id off b (by simp only [Gh.keep]; rw [List.getElem?_take,if_pos (by simpa using hn)]; exact h)
  | false=>exact .top _
 | _,_,.ref a cs vs h hc=>by simp only [qc7]; exact .ref a _ vs (qd3 h) (fun j v e=>⟨qA5 (hc j v e).1,(hc j v e).2⟩)
 | _,_,.osl id off off' len cap k b h ho hcap hm=>by
  simp only [qc7]
  cases hn:decide (id < n) with
  | true=>exact .osl id off off' len cap k b (by simp only [Gh.keep]; rw [List.getElem?_take,if_pos (by simpa using hn)]; exact h) ho hcap hm
  | false=>exact .top _
 | _,_,.sl p len cap k xs vss t hl hcap hm h hr ht=>by
  simp only [qc7]
  exact .sl p len cap k _ vss t (by rw [← hl]; exact qpV n xs) hcap hm (qsd h) (fun i vs e=>⟨(hr i vs e).1,by
   obtain ⟨_,a,ha,hc⟩:=hr i vs e
   exact ⟨a,ha,fun j v e=>⟨ql4 (hc j v e).1,(hc j v e).2⟩⟩⟩) ht
 | _,_,.fn f caps vs h=>by simp only [qc7]; exact .fn f _ vs (qd3 h)
 | _,_,.yld t T h hk=>by simp only [qc7]; exact .yld t T h hk
 | _,_,.nilf=>by simp only [qc7]; exact .nilf
 | _,_,.iface t x v h=>by simp only [qc7]; exact .iface t _ v (qy8 h)
 | _,_,.nili=>by simp only [qc7]; exact .nili
 | _,_,.agg cs vs h=>by simp only [qc7]; exact .agg _ vs (qd3 h)
 | _,_,.tup cs vs h=>by simp only [qc7]; exact .tup _ vs (qd3 h)
theorem qd3:∀ {x:List PV} {v:List Value},RelL H w x v→RelL (H.keep n) w (qca n x) v
 | _,_,.nil=>by simp only [qca]; exact .nil
 | _,_,.cons x v xs vs h ht=>by simp only [qca]; exact .cons _ v _ vs (qy8 h) (qd3 ht)
theorem qsd:∀ {x:List (List PV)} {v:List (List Value)},RelLL H w x v→RelLL (H.keep n) w (qay n x) v
 | _,_,.nil=>by simp only [qay]; exact .nil
 | _,_,.cons x v xs vs h ht=>by simp only [qay]; exact .cons _ v _ vs (qd3 h) (qsd ht)
end
theorem qdo {α:Type} {l:List α} {n i:Nat} {a:α} (h:(l.take n)[i]?=some a):i < n∧l[i]?=some a:=by
 rw [List.getElem?_take] at h
 split at h
 ·exact ⟨‹_›,h⟩
 ·cases h
theorem qEl {gl:Gl} {σ:Store} (h:Ok gl H σ w) (hn:∀ (t:Nat) (T:Tok),H.tk[t]?=some T→T.k=0→T.cap≤n):Ok gl (H.keep n) (dropS n σ) w where
 B:=h.B
 gl:=h.gl
 len:=by simp [Gh.keep,dropS,h.len]
 obj:=fun id b cs e1 e2=>by
  obtain ⟨hn,e1⟩:=qdo e1
  simp only [dropS,List.getElem?_map] at e2
  obtain ⟨c0,hc0,rfl⟩:=Option.map_eq_some_iff.1 e2
  obtain ⟨hB,vs,ext,T,he,hr⟩:=h.obj id b c0 e1 (qdo hc0).2
  exact ⟨hB,vs,ext,T,he,qd3 hr⟩
 nd:=fun i j b e1 e2=>h.nd i j b (qdo e1).2 (qdo e2).2
 tkl:=h.tkl
 tok:=fun t T e hvv=>by
  obtain ⟨hB,ho,o,he,hr⟩:=h.tok t T e hvv
  refine ⟨hB,fun hm=>ho (List.mem_of_mem_take hm),o,he,?_⟩
  rcases hr with hr | ⟨h1,h2,r,h3,h4,h5,h6,h7⟩
  ·exact .inl hr
  ·have hc:=hn t T e h1
   refine .inr ⟨h1,h2,r,h3,?_,h5,?_,h7⟩
   ·have:=qd3 (n:=n) h4
    rwa [h5 n hc] at this
   ·simp only [Gh.keep,List.length_take]
    omega
 tnd:=h.tnd
 tyl:=by simp [dropS,h.tyl]
 ty:=fun id b T cs e1 e2 e3 hT=>by
  obtain ⟨hn,e1⟩:=qdo e1
  simp only [dropS,List.getElem?_map] at e2 e3
  obtain ⟨c0,hc0,rfl⟩:=Option.map_eq_some_iff.1 e3
  obtain ⟨us,he,hs⟩:=h.ty id b T c0 e1 (qdo e2).2 (qdo hc0).2 hT
  exact ⟨us,he,by rw [hs,qms]⟩
end
section
variable {P : Program} {gl : Gl} {c : Code} {fr fr' : List PV} {σ σ' : Store} {e : PExit} {n : Nat}
theorem qIC {H0:Gh} {w0:World} {a:Act} {w:World} (hn:H0.ob.length≤n) (h0:∀ (t:Nat) (T:Tok),H0.tk[t]?=some T→T.k=0→T.cap≤n) (h:St gl H0 w0 fr σ a w):St gl H0 w0 (qca n fr) (dropS n σ) a w:=by
 obtain ⟨H,hev,hok,hfr,hd⟩:=h
 refine ⟨H.keep n,⟨hev.B,hev.base,hev.aux,hev.K,hev.os,hev.tape,hev.output,hev.size,fun id b hid=>?_,hev.tok,fun b off hp=>⟨ql4 (hev.prot b off hp).1,(hev.prot b off hp).2⟩,hev.block,hev.dr,hev.fix,hev.old⟩,qEl hok (fun t T e hk=>?_),qd3 hfr,hd⟩
 rotate_left
 ·obtain ⟨T0,e0,k0⟩:=hev.old t T e hk
  obtain ⟨T1,e1,u⟩:=hev.tok t T0 e0
  rw [e] at e1
  cases e1
  rw [(u.lp k0).2.2.2]
  exact h0 t T0 e0 k0
 simp only [Gh.keep]
 rw [List.getElem?_take,if_pos (Nat.lt_of_lt_of_le (List.getElem?_eq_some_iff.1 hid).1 hn)]
 exact hev.ob id b hid
theorem Does.drop (hn:σ.objs.length≤n) (h:Does P gl c fr σ e fr' σ'):Does P gl c fr σ e (qca n fr') (dropS n σ'):=by
 intro r n' H0 w0 hR Q a w hst hq
 obtain ⟨H,hev,hok,hfr,hd⟩:=hst
 refine h r n' H w (hR.ev hev) Q a w ⟨H,Ev.refl H w,hok,hfr,hd⟩ fun a' w' hst'=>hq a' w' ?_
 obtain ⟨H',hev',hok',hfr',hd'⟩:=qIC (n:=n) (by rw [hok.len]; exact hn) (fun t T e hk=>by
  obtain ⟨_,_,o,_,ho⟩:=hok.tok t T e (fun hh=>hh.2 hk)
  rcases ho with ⟨h1,_⟩ | ⟨_,_,r,_,_,_,h6,_⟩
  ·exact absurd hk h1
  ·rw [hok.len] at h6; omega) hst'
 exact ⟨H',hev.trans hev',hok',hfr',hd'⟩
end
section
variable {H : Gh} {w : World}
end
section
variable {P : Program} {gl : Gl} {c : Code} {fr fr' : List PV} {σ σ' : Store} {e : PExit}
end
end Go.Pv
set_option linter.unusedSimpArgs false
set_option linter.unusedVariables false
namespace Go.Pv
open Go.RowKit
section
variable {P : Program} {tb : Tab} {gl : Gl} {Γ : Gam}
end
section
variable {P : Program} {tb : Tab} {gl : Gl} {Γ : Gam}
end
end Go.Pv
set_option linter.unusedSimpArgs false
set_option linter.unusedVariables false
namespace Go.Pv
structure Cod (α:Type) where
 enc:α→List PV
 dec:List PV→Option α
 k:Nat
 of_dec:∀ c a,dec c=some a→c=enc a
 dec_of:∀ a,dec (enc a)=some a
 lock:∀ a,qfl (enc a)=enc a
 shut:∀ a,qfe (enc a)=enc a
 len:∀ a,(enc a).length=k
 one:∀ a,(enc a).all one=true
section
variable {α : Type} (C : Cod α)
def rOf (l:List α):List (List PV):=l.map C.enc
def deR:List (List PV)→Option (List α)
 | []=>some []
 | c :: xs=>match C.dec c,deR xs with
  | some a,some l=>some (a :: l)
  | _,_=>none
theorem qeF:∀ {xs:List (List PV)} {l:List α},deR C xs=some l→xs=rOf C l
 | [],l,h=>by cases h; rfl
 | c :: xs,l,h=>by
  simp only [deR] at h
  split at h
  ·rename_i a l' h1 h2
   cases h
   rw [C.of_dec _ _ h1,qeF h2]
   rfl
  ·cases h
theorem qib:∀ (l:List α),deR C (rOf C l)=some l
 | []=>rfl
 | a :: l=>by
  have:=qib l
  simp only [rOf,List.map_cons,deR,C.dec_of] at this ⊢
  rw [this]
def okR (xs:List (List PV)):Bool:=(deR C xs).isSome
def unR (xs:List (List PV)):List α:=(deR C xs).getD []
theorem qLv {xs:List (List PV)} (h:okR C xs=true):∃ l,xs=rOf C l:=by
 unfold okR at h
 cases hd:deR C xs with
 | none=>rw [hd] at h; cases h
 | some l=>exact ⟨l,qeF C hd⟩
@[simp] theorem okR_of (l:List α):okR C (rOf C l)=true:=by unfold okR; rw [qib]; rfl
@[simp] theorem qLs (l:List α):unR C (rOf C l)=l:=by unfold unR; rw [qib]; rfl
@[simp] theorem okR_nil:okR C []=true:=rfl
@[simp] theorem unR_nil:unR C []=[]:=rfl
@[simp] theorem qIo:rOf C []=[]:=rfl
theorem qFJ (a:α) (l:List α):rOf C (a :: l)=C.enc a :: rOf C l:=rfl
@[simp] theorem qIJ (l:List α):(rOf C l).length=l.length:=by simp [rOf]
@[simp] theorem qDe (l:List α) (i:Nat):(rOf C l)[i]?=(l[i]?).map C.enc:=by simp [rOf]
theorem qgw (a b:List α):rOf C (a++b)=rOf C a++rOf C b:=by simp [rOf]
@[simp] theorem rOf_take (l:List α) (n:Nat):(rOf C l).take n=rOf C (l.take n):=by simp [rOf]
@[simp] theorem rOf_drop (l:List α) (n:Nat):(rOf C l).drop n=rOf C (l.drop n):=by simp [rOf]
@[simp] theorem rOf_nil_iff (l:List α):(rOf C l=[])↔l=[]:=by simp [rOf]
@[simp] theorem qaz (l:List α):qaa (rOf C l)=rOf C l:=qqX (by
 intro x hx
 simp only [rOf,List.mem_map] at hx
 obtain ⟨a,_,rfl⟩:=hx
 exact C.lock a)
@[simp] theorem qff (l:List α):qb5 (rOf C l)=rOf C l:=qpu (by
 intro x hx
 simp only [rOf,List.mem_map] at hx
 obtain ⟨a,_,rfl⟩:=hx
 exact C.shut a)
@[simp] theorem dropPLL_rOf (n:Nat) (l:List α):qay n (rOf C l)=rOf C l:=qiF n (qaz C l)
theorem qcp (l:List α):qaC (rOf C l) C.k=true:=by
 simp [qaC,rOf,C.len]
theorem qck (l:List α):qaO (rOf C l) C.k=true:=by
 simp only [qaO,rOf,List.all_map,List.all_eq_true]
 intro a _
 simp [C.len,C.one]
theorem qKG {l:List α} {i:Nat} {a:α} (h:l[i]?=some a):(rOf C l)[i]?=some (C.enc a):=by simp [h]
@[simp] theorem xLen_rOf (l:List α):xLen (rOf C l)=(l.length:Int):=by simp
@[simp] theorem nXs_rOf (l:List α):nXs (rOf C l)=l.length:=by simp
@[simp] theorem xSub_rOf (l:List α) (a b:Nat):xSub (rOf C l) a b=rOf C ((l.take b).drop a):=by simp
@[simp] theorem xApp_rOf (a b:List α):xApp (rOf C a) (rOf C b)=rOf C (a++b):=by simp [qgw]
@[simp] theorem xNil_rOf (l:List α):xNil (rOf C l)=decide (l=[]):=by simp
end
abbrev Vl:=Int × Int × List UInt8
def cI:Cod Int where
 enc n:=[.int .i64 n]
 dec c:=match c with | [.int .i64 n]=>some n | _=>none
 k:=1
 of_dec c a h:=by
  split at h
  ·cases h; rfl
  ·cases h
 dec_of a:=rfl
 lock a:=rfl
 shut a:=rfl
 len a:=rfl
 one a:=rfl
abbrev Tm:=Int × List UInt8 × Vl
def cM:Cod Tm where
 enc t:=[.int .i64 t.1,.str t.2.1,.int .i64 t.2.2.1,.int .i64 t.2.2.2.1,.str t.2.2.2.2]
 dec c:=match c with | [.int .i64 a,.str b,.int .i64 k,.int .i64 n,.str s]=>some (a,b,k,n,s) | _=>none
 k:=5
 of_dec c a h:=by
  split at h
  ·cases h; rfl
  ·cases h
 dec_of a:=rfl
 lock a:=rfl
 shut a:=rfl
 len a:=rfl
 one a:=rfl
@[simp] theorem okSize_cI (l:List Int):qaC (rOf cI l) 1=true:=qcp cI l
@[simp] theorem okNews_cI (l:List Int):qaO (rOf cI l) 1=true:=qck cI l
@[simp] theorem qDr (l:List Tm):qaC (rOf cM l) 5=true:=qcp cM l
@[simp] theorem okNews_cM (l:List Tm):qaO (rOf cM l) 5=true:=qck cM l
end Go.Pv
namespace Go.Pv
open Go Go.Proofs
noncomputable def tbT:Tab:=tkOf Tryz.prog
theorem qav:qbY Tryz.prog tbT:=fun _ _ h=>h
end Go.Pv
namespace Go.Pv
open Go Go.Proofs
set_option maxHeartbeats 4000000
set_option maxRecDepth 200000
theorem qah:Tryz.prog.follows .mixedOrders=true:=by kernel_rfl
end Go.Pv
set_option maxHeartbeats 4000000
set_option maxRecDepth 200000
set_option linter.unusedSimpArgs false
set_option linter.unusedVariables false
namespace Go.Pv
open Go Go.Proofs
def qbD (k n:Int) (s:List UInt8):Int:=if k=1∧s=[] then 0 else if k=2∧n=0∧s.length≤256 then 0 else 10
def isV (k n:Int) (s:List UInt8):Bool:=decide (k=1∧s=[]∨k=2∧n=0∧s.length≤256)
def qxY:List PV→Tr PV
 | [.agg [.int .i64 k,.int .i64 n,.str s]]=>.ret (.int .i64 (qbD k n s))
 | _=>.fail
theorem qFz (gl:Gl):SimP Tryz.prog gl 113 fun args=>(qxY args).run:=by
 refine SimP.of_tree (G:=ofL []) (L:=fun _ _ _=>.fail) qav qag qah Tryz.func113 rfl (by rfl) (by kernel_rfl) (qae (by kernel_rfl)) ?_
 intro args x h hr
 unfold qxY at h
 split at h
 ·rename_i k n s
  cases h
  refine Tr.run_as (Tr.ite (iEq k 1)
   (Tr.ite (sEq s []) (Tr.ret (PV.int IntKind.i64 0))
    (Tr.ite (iEq k 2) (Tr.ite (iEq n 0) (Tr.ite (iLe (sLen s) 256) (Tr.ret (PV.int IntKind.i64 0)) (Tr.ret (PV.int IntKind.i64 10))) (Tr.ret (PV.int IntKind.i64 10)))
     (Tr.ret (PV.int IntKind.i64 10))))
   (Tr.ite (iEq k 2) (Tr.ite (iEq n 0) (Tr.ite (iLe (sLen s) 256) (Tr.ret (PV.int IntKind.i64 0)) (Tr.ret (PV.int IntKind.i64 10))) (Tr.ret (PV.int IntKind.i64 10))) (Tr.ret (PV.int IntKind.i64 10)))) (by kernel_rfl) ?_
  simp
  try simp [qbD]
  try ((repeat' split) <;> first | rfl | (simp_all; done) | omega | (simp_all; omega))
 ·cases h
def F_Is:List PV→Tr PV
 | [.agg [.int .i64 k,.int .i64 n,.str s]]=>.ret (.bool (isV k n s))
 | _=>.fail
theorem qMm (gl:Gl):SimP Tryz.prog gl 45 fun args=>(F_Is args).run:=by
 refine SimP.of_tree (G:=ofL []) (L:=fun _ _ _=>.fail) qav qag qah Tryz.func45 rfl (by rfl) (by kernel_rfl) (qae (by kernel_rfl)) ?_
 intro args x h hr
 unfold F_Is at h
 split at h
 ·rename_i k n s
  cases h
  refine Tr.run_as (Tr.ite (iEq k 1) (Tr.ite (sEq s []) (Tr.ret (PV.bool true)) (Tr.ite (iEq k 2) (Tr.ite (iEq n 0) (Tr.ret (PV.bool (iLe (sLen s) 256))) (Tr.ret (PV.bool false))) (Tr.ret (PV.bool false))))
   (Tr.ite (iEq k 2) (Tr.ite (iEq n 0) (Tr.ret (PV.bool (iLe (sLen s) 256))) (Tr.ret (PV.bool false))) (Tr.ret (PV.bool false)))) (by kernel_rfl) ?_
  simp
  try simp [isV]
  try ((repeat' split) <;> first | rfl | (simp_all; done) | omega | (simp_all; omega))
 ·cases h
def qd2 (a b:List UInt8):Bool:=decide (b.length≤a.length) && decide (a.take b.length=b)
def qpE (a b:List UInt8):Bool:=decide (b.length≤a.length) && decide (a.drop (a.length - b.length)=b)
def qqG:List PV→Tr PV
 | [.str a,.str b]=>.ret (.bool (qd2 a b))
 | _=>.fail
theorem qwb (gl:Gl):SimP Tryz.prog gl 170 fun args=>(qqG args).run:=by
 refine SimP.of_tree (G:=ofL []) (L:=fun _ _ _=>.fail) qav qag qah Tryz.func170 rfl (by rfl) (by kernel_rfl) (qae (by kernel_rfl)) ?_
 intro args x h hr
 unfold qqG at h
 split at h
 ·rename_i a b
  cases h
  have h1:=quq hr 0 rfl
  have h2:=quq hr 1 rfl
  unfold maxLen at h1 h2
  refine Tr.run_as (Tr.ite (iLe (sLen b) (sLen a)) (Tr.ite (qaI true (qaw (sLen b)) 0 (nNat (sLen b)) (nLen a)) (Tr.ret (PV.bool (sEq (sSub a 0 (nNat (sLen b))) b))) Tr.fail) (Tr.ret (PV.bool false))) (by kernel_rfl) ?_
  simp [iSub]
  by_cases hl:b.length≤a.length
  ·simp [qd2,hl]
  ·simp [qd2,hl]
 ·cases h
def qqT:List PV→Tr PV
 | [.str a,.str b]=>.ret (.bool (qpE a b))
 | _=>.fail
theorem qyi (gl:Gl):SimP Tryz.prog gl 177 fun args=>(qqT args).run:=by
 refine SimP.of_tree (G:=ofL []) (L:=fun _ _ _=>.fail) qav qag qah Tryz.func177 rfl (by rfl) (by kernel_rfl) (qae (by kernel_rfl)) ?_
 intro args x h hr
 unfold qqT at h
 split at h
 ·rename_i a b
  cases h
  have h1:=quq hr 0 rfl
  have h2:=quq hr 1 rfl
  unfold maxLen at h1 h2
  refine Tr.run_as (Tr.ite (iLe (sLen b) (sLen a))
    (Tr.ite (qaI (qaw (iSub IntKind.i64 (sLen a) (sLen b))) true (nNat (iSub IntKind.i64 (sLen a) (sLen b))) (nLen a) (nLen a))
     (Tr.ret (PV.bool (sEq (sSub a (nNat (iSub IntKind.i64 (sLen a) (sLen b))) (nLen a)) b))) Tr.fail)
    (Tr.ret (PV.bool false))) (by kernel_rfl) ?_
  simp [iSub]
  by_cases hl:b.length≤a.length
  ·have e:IntKind.wrap .i64 ((a.length:Int) - b.length)=(a.length:Int) - b.length:=qbo (by omega)
   have e2:((a.length:Int) - b.length).toNat=a.length - b.length:=by omega
   rw [if_pos hl,e,if_pos (by omega),e2]
   simp [qpE,hl]
  ·simp [qpE,hl]
 ·cases h
def qnG:List PV→Tr PV
 | [.str a,.str b]=>.ret (.bool (qd2 a b))
 | _=>.fail
theorem qrP (gl:Gl):SimP Tryz.prog gl 160 fun args=>(qnG args).run:=by
 refine SimP.of_tree (G:=ofL [(170,.pure qqG)]) (L:=fun _ _ _=>.fail) qav (qac (qwb gl) qag) qah Tryz.func160 rfl (by rfl) (by kernel_rfl) (qae (by kernel_rfl)) ?_
 intro args x h hr
 unfold qnG at h
 split at h
 ·rename_i a b
  cases h
  refine Tr.run_as (Tr.ret (PV.bool (qd2 a b))) (by kernel_rfl) ?_
  simp
  try simp
  try ((repeat' split) <;> first | rfl | (simp_all; done) | omega | (simp_all; omega))
 ·cases h
def qts:List PV→Tr PV
 | [.str a,.str b]=>.ret (.bool (qpE a b))
 | _=>.fail
theorem qAN (gl:Gl):SimP Tryz.prog gl 174 fun args=>(qts args).run:=by
 refine SimP.of_tree (G:=ofL [(177,.pure qqT)]) (L:=fun _ _ _=>.fail) qav (qac (qyi gl) qag) qah Tryz.func174 rfl (by rfl) (by kernel_rfl) (qae (by kernel_rfl)) ?_
 intro args x h hr
 unfold qts at h
 split at h
 ·rename_i a b
  cases h
  refine Tr.run_as (Tr.ret (PV.bool (qpE a b))) (by kernel_rfl) ?_
  simp
  try simp
  try ((repeat' split) <;> first | rfl | (simp_all; done) | omega | (simp_all; omega))
 ·cases h
def hexL:List UInt8:=[48,49,50,51,52,53,54,55,56,57,97,98,99,100,101,102]
def oneV (c:Int):List UInt8 :=
 if c=34∨c=92 then [92,UInt8.ofNat c.toNat] else if c=10 then [92,110] else if c=9 then [92,116] else if 32≤c∧c≤126 then [UInt8.ofNat c.toNat]
 else [92,120,UInt8.ofNat (sAt hexL (iShr .u8 c 4)).toNat,UInt8.ofNat (sAt hexL (iAnd .u8 c 15)).toNat]
def qJu:List PV→Tr PV
 | [.int .u8 c]=>.ret (.str (oneV c))
 | _=>.fail
theorem qJ3 (gl:Gl):SimP Tryz.prog gl 117 fun args=>(qJu args).run:=by
 refine SimP.of_tree (G:=ofL []) (L:=fun _ _ _=>.fail) qav qag qah Tryz.func117 rfl (by rfl) (by kernel_rfl) (qae (by kernel_rfl)) ?_
 intro args x h hr
 unfold qJu at h
 split at h
 ·rename_i c
  cases h
  have h1:=qng hr 0 rfl
  obtain ⟨n,rfl⟩:=qnW h1
  refine Tr.run_as (Tr.ite (iEq (Int.ofNat n.1) 34)
   (Tr.ite (qf0 (qaT IntKind.i32 (Int.ofNat n.1)))
    (Tr.ite (qa2 [92] (sOne (qaT IntKind.i32 (Int.ofNat n.1)))) (Tr.ret (PV.str (sApp [92] (sOne (qaT IntKind.i32 (Int.ofNat n.1)))))) Tr.fail) Tr.fail)
   (Tr.ite (iEq (Int.ofNat n.1) 92)
    (Tr.ite (qf0 (qaT IntKind.i32 (Int.ofNat n.1)))
     (Tr.ite (qa2 [92] (sOne (qaT IntKind.i32 (Int.ofNat n.1)))) (Tr.ret (PV.str (sApp [92] (sOne (qaT IntKind.i32 (Int.ofNat n.1)))))) Tr.fail) Tr.fail)
    (Tr.ite (iEq (Int.ofNat n.1) 10) (Tr.ret (PV.str [92,110]))
     (Tr.ite (iEq (Int.ofNat n.1) 9) (Tr.ret (PV.str [92,116]))
      (Tr.ite (iLe 32 (Int.ofNat n.1))
       (Tr.ite (iLe (Int.ofNat n.1) 126) (Tr.ite (qf0 (qaT IntKind.i32 (Int.ofNat n.1))) (Tr.ret (PV.str (sOne (qaT IntKind.i32 (Int.ofNat n.1))))) Tr.fail)
        (Tr.ite (qaJ [48,49,50,51,52,53,54,55,56,57,97,98,99,100,101,102] (iShr IntKind.u8 (Int.ofNat n.1) 4))
         (Tr.ite (qf0 (qaT IntKind.i32 (sAt [48,49,50,51,52,53,54,55,56,57,97,98,99,100,101,102] (iShr IntKind.u8 (Int.ofNat n.1) 4))))
          (Tr.ite (qa2 [92,120] (sOne (qaT IntKind.i32 (sAt [48,49,50,51,52,53,54,55,56,57,97,98,99,100,101,102] (iShr IntKind.u8 (Int.ofNat n.1) 4)))))
           (Tr.ite (qaJ [48,49,50,51,52,53,54,55,56,57,97,98,99,100,101,102] (iAnd IntKind.u8 (Int.ofNat n.1) 15))
            (Tr.ite (qf0 (qaT IntKind.i32 (sAt [48,49,50,51,52,53,54,55,56,57,97,98,99,100,101,102] (iAnd IntKind.u8 (Int.ofNat n.1) 15))))
             (Tr.ite
              (qa2 (sApp [92,120] (sOne (qaT IntKind.i32 (sAt [48,49,50,51,52,53,54,55,56,57,97,98,99,100,101,102] (iShr IntKind.u8 (Int.ofNat n.1) 4)))))
               (sOne (qaT IntKind.i32 (sAt [48,49,50,51,52,53,54,55,56,57,97,98,99,100,101,102] (iAnd IntKind.u8 (Int.ofNat n.1) 15)))))
              (Tr.ret
               (PV.str
                (sApp (sApp [92,120] (sOne (qaT IntKind.i32 (sAt [48,49,50,51,52,53,54,55,56,57,97,98,99,100,101,102] (iShr IntKind.u8 (Int.ofNat n.1) 4)))))
                 (sOne (qaT IntKind.i32 (sAt [48,49,50,51,52,53,54,55,56,57,97,98,99,100,101,102] (iAnd IntKind.u8 (Int.ofNat n.1) 15)))))))
              Tr.fail)
             Tr.fail)
            Tr.fail)
           Tr.fail)
          Tr.fail)
         Tr.fail))
       (Tr.ite (qaJ [48,49,50,51,52,53,54,55,56,57,97,98,99,100,101,102] (iShr IntKind.u8 (Int.ofNat n.1) 4))
        (Tr.ite (qf0 (qaT IntKind.i32 (sAt [48,49,50,51,52,53,54,55,56,57,97,98,99,100,101,102] (iShr IntKind.u8 (Int.ofNat n.1) 4))))
         (Tr.ite (qa2 [92,120] (sOne (qaT IntKind.i32 (sAt [48,49,50,51,52,53,54,55,56,57,97,98,99,100,101,102] (iShr IntKind.u8 (Int.ofNat n.1) 4)))))
          (Tr.ite (qaJ [48,49,50,51,52,53,54,55,56,57,97,98,99,100,101,102] (iAnd IntKind.u8 (Int.ofNat n.1) 15))
           (Tr.ite (qf0 (qaT IntKind.i32 (sAt [48,49,50,51,52,53,54,55,56,57,97,98,99,100,101,102] (iAnd IntKind.u8 (Int.ofNat n.1) 15))))
            (Tr.ite
             (qa2 (sApp [92,120] (sOne (qaT IntKind.i32 (sAt [48,49,50,51,52,53,54,55,56,57,97,98,99,100,101,102] (iShr IntKind.u8 (Int.ofNat n.1) 4)))))
              (sOne (qaT IntKind.i32 (sAt [48,49,50,51,52,53,54,55,56,57,97,98,99,100,101,102] (iAnd IntKind.u8 (Int.ofNat n.1) 15)))))
             (Tr.ret
              (PV.str
               (sApp (sApp [92,120] (sOne (qaT IntKind.i32 (sAt [48,49,50,51,52,53,54,55,56,57,97,98,99,100,101,102] (iShr IntKind.u8 (Int.ofNat n.1) 4)))))
                (sOne (qaT IntKind.i32 (sAt [48,49,50,51,52,53,54,55,56,57,97,98,99,100,101,102] (iAnd IntKind.u8 (Int.ofNat n.1) 15)))))))
             Tr.fail)
            Tr.fail)
           Tr.fail)
          Tr.fail)
         Tr.fail)
        Tr.fail)))))) (by kernel_rfl) ?_
  clear hr h1
  apply qFW
  revert n
  decide +kernel
 ·cases h
def qDn (c:Int):Int:=if c < 10 then iAdd .u8 48 c else iSub .u8 (iAdd .u8 97 c) 10
def qcw (c:Int):Int:=if 48≤c∧c≤57 then c - 48 else if 97≤c∧c≤102 then c - 87 else -1
def qBr:List PV→Tr PV
 | [.int .u8 c]=>.ret (.int .u8 (qDn c))
 | _=>.fail
theorem qGg (gl:Gl):SimP Tryz.prog gl 119 fun args=>(qBr args).run:=by
 refine SimP.of_tree (G:=ofL []) (L:=fun _ _ _=>.fail) qav qag qah Tryz.func119 rfl (by rfl) (by kernel_rfl) (qae (by kernel_rfl)) ?_
 intro args x h hr
 unfold qBr at h
 split at h
 ·rename_i c
  cases h
  have h1:=qng hr 0 rfl
  obtain ⟨n,rfl⟩:=qnW h1
  refine Tr.run_as (Tr.ite (iLt (Int.ofNat n.1) 10) (Tr.ret (PV.int IntKind.u8 (iAdd IntKind.u8 48 (Int.ofNat n.1)))) (Tr.ret (PV.int IntKind.u8 (iSub IntKind.u8 (iAdd IntKind.u8 97 (Int.ofNat n.1)) 10)))) (by kernel_rfl) ?_
  clear hr h1
  apply qzV
  revert n
  decide +kernel
 ·cases h
def qFw:List PV→Tr PV
 | [.int .u8 c]=>.ret (.int .i64 (qcw c))
 | _=>.fail
theorem qGP (gl:Gl):SimP Tryz.prog gl 162 fun args=>(qFw args).run:=by
 refine SimP.of_tree (G:=ofL []) (L:=fun _ _ _=>.fail) qav qag qah Tryz.func162 rfl (by rfl) (by kernel_rfl) (qae (by kernel_rfl)) ?_
 intro args x h hr
 unfold qFw at h
 split at h
 ·rename_i c
  cases h
  have h1:=qng hr 0 rfl
  obtain ⟨n,rfl⟩:=qnW h1
  refine Tr.run_as (Tr.ite (iLe 48 (Int.ofNat n.1))
   (Tr.ite (iLe (Int.ofNat n.1) 57) (Tr.ret (PV.int IntKind.i64 (qaT IntKind.i64 (iSub IntKind.u8 (Int.ofNat n.1) 48))))
    (Tr.ite (iLe 97 (Int.ofNat n.1))
     (Tr.ite (iLe (Int.ofNat n.1) 102) (Tr.ret (PV.int IntKind.i64 (iAdd IntKind.i64 (qaT IntKind.i64 (iSub IntKind.u8 (Int.ofNat n.1) 97)) 10))) (Tr.ret (PV.int IntKind.i64 (-1))))
     (Tr.ret (PV.int IntKind.i64 (-1)))))
   (Tr.ite (iLe 97 (Int.ofNat n.1))
    (Tr.ite (iLe (Int.ofNat n.1) 102) (Tr.ret (PV.int IntKind.i64 (iAdd IntKind.i64 (qaT IntKind.i64 (iSub IntKind.u8 (Int.ofNat n.1) 97)) 10))) (Tr.ret (PV.int IntKind.i64 (-1))))
    (Tr.ret (PV.int IntKind.i64 (-1))))) (by kernel_rfl) ?_
  clear hr h1
  apply qzV
  revert n
  decide +kernel
 ·cases h
def qC1:List PV→Tr PV
 | [.int .u8 c]=>.ret (.sl (qad (oneV c)) .non)
 | _=>.fail
theorem qFT (gl:Gl):SimP Tryz.prog gl 77 fun args=>(qC1 args).run:=by
 refine SimP.of_tree (G:=ofL [(119,.pure qBr)]) (L:=fun _ _ _=>.fail) qav (qac (qGg gl) qag) qah Tryz.func77 rfl (by rfl) (by kernel_rfl) (qae (by kernel_rfl)) ?_
 intro args x h hr
 unfold qC1 at h
 split at h
 ·rename_i c
  cases h
  have h1:=qng hr 0 rfl
  obtain ⟨n,rfl⟩:=qnW h1
  refine Tr.run_as (Tr.ite (iEq (Int.ofNat n.1) 34) (Tr.ret (PV.sl [[PV.int IntKind.u8 92],[PV.int IntKind.u8 (Int.ofNat n.1)]] Tag.non))
   (Tr.ite (iEq (Int.ofNat n.1) 92) (Tr.ret (PV.sl [[PV.int IntKind.u8 92],[PV.int IntKind.u8 (Int.ofNat n.1)]] Tag.non))
    (Tr.ite (iEq (Int.ofNat n.1) 10) (Tr.ret (PV.sl [[PV.int IntKind.u8 92],[PV.int IntKind.u8 110]] Tag.non))
     (Tr.ite (iEq (Int.ofNat n.1) 9) (Tr.ret (PV.sl [[PV.int IntKind.u8 92],[PV.int IntKind.u8 116]] Tag.non))
      (Tr.ite (iLe 32 (Int.ofNat n.1))
       (Tr.ite (iLe (Int.ofNat n.1) 126) (Tr.ret (PV.sl [[PV.int IntKind.u8 (Int.ofNat n.1)]] Tag.non))
        (Tr.ret
         (PV.sl [[PV.int IntKind.u8 92],[PV.int IntKind.u8 120],[PV.int IntKind.u8 (qDn (iQuo IntKind.u8 (Int.ofNat n.1) 16))],[PV.int IntKind.u8 (qDn (iRem (Int.ofNat n.1) 16))]]
          Tag.non)))
       (Tr.ret
        (PV.sl [[PV.int IntKind.u8 92],[PV.int IntKind.u8 120],[PV.int IntKind.u8 (qDn (iQuo IntKind.u8 (Int.ofNat n.1) 16))],[PV.int IntKind.u8 (qDn (iRem (Int.ofNat n.1) 16))]]
         Tag.non))))))) (by kernel_rfl) ?_
  clear hr h1
  apply qHl
  revert n
  decide +kernel
 ·cases h
end Go.Pv
set_option maxHeartbeats 4000000
set_option maxRecDepth 200000
set_option linter.unusedSimpArgs false
set_option linter.unusedVariables false
namespace Go.Pv
open Go Go.Proofs
theorem qfW {l:List UInt8} {i:Int} {v:UInt8} (h:l[i.toNat]?=some v):sAt l i=v.toNat:=by
 simp [sAt,List.getD_eq_getElem?_getD,h]
theorem qdU {l:List UInt8} {i:Int} {v:UInt8} (h0:0≤i) (h:l[i.toNat]?=some v):qaJ l i=true:=by
 have:=(List.getElem?_eq_some_iff.1 h).1
 simp [h0,this]
def dv:List UInt8→Int→Int→Int
 | [],_,_=>16
 | b :: l,c,i=>if (b.toNat:Int)=c then i else dv l c (i+1)
def digV (c:Int):Int:=dv hexL c 0
def qwO:List PV→Tr PV
 | [.int .u8 c]=>.ret (.int .u8 (digV c))
 | _=>.fail
def qyd:List PV→Store→Option (Int × Int × Store)
 | [.int .u8 c,.int .i64 i],σ=>some (c,i,σ)
 | _,_=>none
def qFo:Int × Int × Store→Tr (PExit × List (Nat × PV) × Store)
 | (c,i,σ)=>Tr.chk (iEq i 0) (.ite (iEq (digV c) 16) (.ret (.exit 0,[],σ)) (.ret (.ret,[(2,.int .u8 (digV c))],σ)))
def qEq:LpsT:=fun r fr σ=>if r=2 then oracle 14 [0,4] qyd qFo fr σ else .fail
noncomputable def qwN:Code:=qE6 Tryz.f181 0
theorem qAz (gl:Gl):∀ vs σ a e out σ',qyd vs σ=some a→(qFo a).run=some (e,out,σ')→LDoes Tryz.prog gl qwN (mk 14 ([0,4].zip vs)) σ e (mk 14 out) σ':=by
 intro vs s a e out σ' hd hr
 unfold qyd at hd
 split at hd
 ·rename_i c i
  cases hd
  obtain ⟨h1,h2⟩:=Tr.chk_some hr
  simp at h1
  subst h1
  clear hr
  have key:∀ (m:Nat) (i:Int),0≤i→i+m=16→dv (hexL.drop i.toNat) c i=digV c→LDoes Tryz.prog gl qwN (mk 14 ([0,4].zip [.int .u8 c,.int .i64 i])) s e (mk 14 out) σ':=by
   intro m
   induction m with
   | zero =>
    intro i h0 hi hf
    have:i=16:=by omega
    subst this
    have hf:16=digV c:=hf
    simp [← hf] at h2
    obtain ⟨rfl,rfl,rfl⟩:=h2
    refine LDoes.round qav (G:=ofL []) qag qah (L:=fun _ _ _=>.fail) (qae (by kernel_rfl)) (by kernel_rfl) ?_
    refine Tr.all_as (Tr.ite (iLt 16 16)
      (Tr.ite (qaJ [48,49,50,51,52,53,54,55,56,57,97,98,99,100,101,102] 16)
       (Tr.ite (iEq (sAt [48,49,50,51,52,53,54,55,56,57,97,98,99,100,101,102] 16) c)
        (Tr.ret
         (PExit.ret,[10,5],
          [PV.int IntKind.u8 c,PV.top,PV.int IntKind.u8 (qaT IntKind.u8 16),PV.int IntKind.i64 16,PV.int IntKind.i64 16,PV.bool true,PV.int IntKind.i64 16,PV.int IntKind.i64 16,
           PV.int IntKind.u8 (sAt [48,49,50,51,52,53,54,55,56,57,97,98,99,100,101,102] 16),PV.int IntKind.u8 c,PV.bool true,PV.int IntKind.i64 16,
           PV.int IntKind.u8 (qaT IntKind.u8 16),PV.top],
          s))
        (Tr.ret
         (PExit.normal,[10,5],
          [PV.int IntKind.u8 c,PV.top,PV.top,PV.int IntKind.i64 16,PV.int IntKind.i64 (iAdd IntKind.i64 16 1),PV.bool true,PV.int IntKind.i64 16,PV.int IntKind.i64 16,
           PV.int IntKind.u8 (sAt [48,49,50,51,52,53,54,55,56,57,97,98,99,100,101,102] 16),PV.int IntKind.u8 c,PV.bool false,PV.top,PV.top,
           PV.int IntKind.i64 (iAdd IntKind.i64 16 1)],
          s)))
       Tr.fail)
      (Tr.ret (PExit.exit 0,[5],[PV.int IntKind.u8 c,PV.top,PV.top,PV.top,PV.int IntKind.i64 16,PV.bool false,PV.top,PV.top,PV.top,PV.top,PV.top,PV.top,PV.top,PV.top],s))) (by kernel_rfl) ?_
    refine ⟨fun h=>by simp at h,fun h=>⟨rfl,by simp [Weak,mk,qcr,look],rfl⟩⟩
   | succ m ih =>
    intro i h0 hi hf
    obtain ⟨v,hv⟩:=qe0 (l:=hexL) (i:=i.toNat) (by show i.toNat < 16; omega)
    rw [qbB hv] at hf
    refine LDoes.round qav (G:=ofL []) qag qah (L:=fun _ _ _=>.fail) (qae (by kernel_rfl)) (by kernel_rfl) ?_
    refine Tr.all_as (Tr.ite (iLt i 16)
      (Tr.ite (qaJ [48,49,50,51,52,53,54,55,56,57,97,98,99,100,101,102] i)
       (Tr.ite (iEq (sAt [48,49,50,51,52,53,54,55,56,57,97,98,99,100,101,102] i) c)
        (Tr.ret
         (PExit.ret,[10,5],
          [PV.int IntKind.u8 c,PV.top,PV.int IntKind.u8 (qaT IntKind.u8 i),PV.int IntKind.i64 i,PV.int IntKind.i64 i,PV.bool true,PV.int IntKind.i64 i,PV.int IntKind.i64 i,
           PV.int IntKind.u8 (sAt [48,49,50,51,52,53,54,55,56,57,97,98,99,100,101,102] i),PV.int IntKind.u8 c,PV.bool true,PV.int IntKind.i64 i,
           PV.int IntKind.u8 (qaT IntKind.u8 i),PV.top],
          s))
        (Tr.ret
         (PExit.normal,[10,5],
          [PV.int IntKind.u8 c,PV.top,PV.top,PV.int IntKind.i64 i,PV.int IntKind.i64 (iAdd IntKind.i64 i 1),PV.bool true,PV.int IntKind.i64 i,PV.int IntKind.i64 i,
           PV.int IntKind.u8 (sAt [48,49,50,51,52,53,54,55,56,57,97,98,99,100,101,102] i),PV.int IntKind.u8 c,PV.bool false,PV.top,PV.top,
           PV.int IntKind.i64 (iAdd IntKind.i64 i 1)],
          s)))
       Tr.fail)
      (Tr.ret (PExit.exit 0,[5],[PV.int IntKind.u8 c,PV.top,PV.top,PV.top,PV.int IntKind.i64 i,PV.bool false,PV.top,PV.top,PV.top,PV.top,PV.top,PV.top,PV.top,PV.top],s))) (by kernel_rfl) ?_
    refine ⟨fun _=>⟨fun _=>⟨fun h=>?_,fun h=>?_⟩,fun h=>?_⟩,fun h=>by simp at h; omega⟩
    ·have h:iEq (sAt hexL i) c=true:=h
     rw [qfW hv] at h
     simp at h
     simp only [dv,if_pos h] at hf
     rw [← hf] at h2
     have h16:¬ i=16:=by omega
     simp [h16] at h2
     obtain ⟨rfl,rfl,rfl⟩:=h2
     refine ⟨rfl,?_,rfl⟩
     simp [Weak,mk,qcr,look,qaT,qs9 (n:=i) (by omega)]
    ·have h:iEq (sAt hexL i) c=false:=h
     rw [qfW hv] at h
     simp at h
     simp only [dv,if_neg h] at hf
     have e1:(i+1).toNat=i.toNat+1:=by omega
     refine LDoes.into ?_ (ih (i+1) (by omega) (by omega) (by rw [e1]; exact hf))
     simp [Weak,mk,qcr,look,iAdd,qbo (n:=i+1) (by omega)]
    ·have h:qaJ hexL i=false:=h
     rw [qdU h0 hv] at h
     cases h
  exact key 16 0 (by omega) (by omega) rfl
 ·cases hd
theorem qEa (gl:Gl):SimP Tryz.prog gl 181 fun args=>(qwO args).run:=by
 refine SimP.of_tree (G:=ofL []) (L:=qEq) qav qag qah Tryz.func181 rfl (by rfl) (by kernel_rfl) (qgQ (r:=2) (c1:=qwN) (by kernel_rfl) ?_) ?_
 ·intro fr σ e fr' σ' hh
  simp only [lps,qEq,if_true] at hh
  exact qh9 (qAz gl) fr σ e fr' σ' hh
 intro args x h hr
 unfold qwO at h
 split at h
 ·rename_i c
  cases h
  refine Tr.run_as (Tr.ite (iEq 0 0) (Tr.ite (iEq (digV c) 16) (Tr.ret (PV.int IntKind.u8 16)) (Tr.ret (PV.int IntKind.u8 (digV c)))) Tr.fail) (by kernel_rfl) ?_
  simp [eq_comm]
 ·cases h
def escB (s:List UInt8):Int :=
 if s=[] then 0 else if sAt s 0=34∨sAt s 0=92 then sAt s 0 else if sAt s 0=110 then 10 else if sAt s 0=116 then 9
 else if sAt s 0=120∧3≤s.length∧digV (sAt s 1) < 16∧digV (sAt s 2) < 16 then iOr .u8 (iShl .u8 (digV (sAt s 1)) 4) (digV (sAt s 2)) else 0
def escN (s:List UInt8):Int :=
 if s=[] then 0 else if sAt s 0=34∨sAt s 0=92 then 1 else if sAt s 0=110 then 1 else if sAt s 0=116 then 1
 else if sAt s 0=120∧3≤s.length∧digV (sAt s 1) < 16∧digV (sAt s 2) < 16 then 3 else 0
def qnF:List PV→Tr PV
 | [.str s]=>.ret (.tup [.int .u8 (escB s),.int .i64 (escN s)])
 | _=>.fail
theorem qr1 (gl:Gl):SimP Tryz.prog gl 178 fun args=>(qnF args).run:=by
 refine SimP.of_tree (G:=ofL [(181,.pure qwO)]) (L:=fun _ _ _=>.fail) qav (qac (qEa gl) qag) qah Tryz.func178 rfl (by rfl) (by kernel_rfl) (qae (by kernel_rfl)) ?_
 intro args x h hr
 unfold qnF at h
 split at h
 ·rename_i s
  cases h
  refine Tr.run_as (Tr.ite (sEq s []) (Tr.ret (PV.tup [PV.int IntKind.u8 0,PV.int IntKind.i64 0]))
    (Tr.ite (qaJ s 0)
     (Tr.ite (iEq (sAt s 0) 34) (Tr.ite (qaJ s 0) (Tr.ret (PV.tup [PV.int IntKind.u8 (sAt s 0),PV.int IntKind.i64 1])) Tr.fail)
      (Tr.ite (iEq (sAt s 0) 92) (Tr.ite (qaJ s 0) (Tr.ret (PV.tup [PV.int IntKind.u8 (sAt s 0),PV.int IntKind.i64 1])) Tr.fail)
       (Tr.ite (iEq (sAt s 0) 110) (Tr.ret (PV.tup [PV.int IntKind.u8 10,PV.int IntKind.i64 1]))
        (Tr.ite (iEq (sAt s 0) 116) (Tr.ret (PV.tup [PV.int IntKind.u8 9,PV.int IntKind.i64 1]))
         (Tr.ite (iEq (sAt s 0) 120)
          (Tr.ite (iLe 3 (sLen s))
           (Tr.ite (qaJ s 1)
            (Tr.ite (iLt (digV (sAt s 1)) 16)
             (Tr.ite (qaJ s 2)
              (Tr.ite (iLt (digV (sAt s 2)) 16)
               (Tr.ite (qaJ s 1)
                (Tr.ite (qaJ s 2) (Tr.ret (PV.tup [PV.int IntKind.u8 (iOr IntKind.u8 (iShl IntKind.u8 (digV (sAt s 1)) 4) (digV (sAt s 2))),PV.int IntKind.i64 3])) Tr.fail) Tr.fail)
               (Tr.ret (PV.tup [PV.int IntKind.u8 0,PV.int IntKind.i64 0])))
              Tr.fail)
             (Tr.ret (PV.tup [PV.int IntKind.u8 0,PV.int IntKind.i64 0])))
            Tr.fail)
           (Tr.ret (PV.tup [PV.int IntKind.u8 0,PV.int IntKind.i64 0])))
          (Tr.ret (PV.tup [PV.int IntKind.u8 0,PV.int IntKind.i64 0])))))))
     Tr.fail)) (by kernel_rfl) ?_
  by_cases h0:s=[]
  ·subst h0; simp [escB,escN]
  ·have hl:0 < s.length:=List.length_pos_iff.2 h0
   have k0:qaJ s 0=true:=by simp [hl]
   by_cases h3:3≤s.length
   ·have k1:qaJ s 1=true:=by simp; omega
    have k2:qaJ s 2=true:=by simp; omega
    have h3':(3:Int)≤s.length:=by omega
    simp only [Tr.run_ite,k0,k1,k2,qrW,qFD,qyY,qHR,qho,decide_eq_true_eq,h0,h3',if_true,if_false,escB,escN,h3,true_and,Tr.run_ret]
    repeat' split
    all_goals first | rfl | (simp_all; done) | (exfalso; simp_all; done) | (exfalso; omega)
   ·have h3':¬ (3:Int)≤s.length:=by omega
    simp only [Tr.run_ite,k0,qrW,qFD,qyY,qHR,qho,decide_eq_true_eq,h0,h3',if_true,if_false,escB,escN,h3,false_and,and_false,Tr.run_ret]
    repeat' split
    all_goals first | rfl | (simp_all; done) | (exfalso; simp_all; done) | (exfalso; omega)
 ·cases h
def qfU (n:Nat):List UInt8:=if h:n < 10 then [UInt8.ofNat (48+n)] else qfU (n / 10)++[UInt8.ofNat (48+n % 10)]
 termination_by n
 decreasing_by omega
theorem qgC:∀ (k n:Nat),n < 10 ^ (k+1)→(qfU n).length≤k+1:=by
 intro k
 induction k with
 | zero=>intro n h; unfold qfU; simp at h; simp [h]
 | succ k ih =>
  intro n h
  unfold qfU
  split
  ·simp
  ·have:=ih (n / 10) (by rw [Nat.pow_succ] at h; omega)
   simp
   omega
def qgO (n:Int):List UInt8:=qfU n.toNat
def qp1 (k:Nat):List PV→Tr PV
 | [.int .u64 n]=>Tr.chk (ltN n k) (.ret (.str (qgO n)))
 | _=>.fail
def qBU:List PV→Tr PV
 | [.int .u64 n]=>.ret (.str (qgO n))
 | _=>.fail
theorem qvz (gl:Gl):∀ k,SimP Tryz.prog gl 76 fun args=>(qp1 k args).run:=by
 intro k
 induction k with
 | zero =>
  refine ⟨⟨_,Tryz.func76,by rfl,by rfl⟩,?_⟩
  intro args x h
  unfold qp1 at h
  split at h
  ·obtain ⟨h1,_⟩:=Tr.chk_some h; simp at h1
  ·cases h
 | succ k ih =>
  refine SimP.of_tree (G:=ofL [(76,.pure (qp1 k))]) (L:=fun _ _ _=>.fail) qav (qac ih qag) qah Tryz.func76 rfl (by rfl) (by kernel_rfl) (qae (by kernel_rfl)) ?_
  intro args x h hr
  unfold qp1 at h
  split at h
  ·rename_i n
   obtain ⟨h1,h2⟩:=Tr.chk_some h
   cases h2
   have hn:0≤n∧n≤18446744073709551615:=qng hr 0 rfl
   simp at h1
   refine Tr.run_as (Tr.ite (iLt n 10)
     (Tr.ite (qdu [[PV.int IntKind.u8 (qaT IntKind.u8 (iAdd IntKind.u64 48 n))]]) (Tr.ret (PV.str (qci [[PV.int IntKind.u8 (qaT IntKind.u8 (iAdd IntKind.u64 48 n))]]))) Tr.fail)
     (Tr.ite (ltN (iQuo IntKind.u64 n 10) k)
      (Tr.ite (qdu [[PV.int IntKind.u8 (qaT IntKind.u8 (iAdd IntKind.u64 48 (iRem n 10)))]])
       (Tr.ite (qa2 (qgO (iQuo IntKind.u64 n 10)) (qci [[PV.int IntKind.u8 (qaT IntKind.u8 (iAdd IntKind.u64 48 (iRem n 10)))]]))
        (Tr.ret (PV.str (sApp (qgO (iQuo IntKind.u64 n 10)) (qci [[PV.int IntKind.u8 (qaT IntKind.u8 (iAdd IntKind.u64 48 (iRem n 10)))]])))) Tr.fail)
       Tr.fail)
      Tr.fail)) (by kernel_rfl) ?_
   by_cases h10:n < 10
   ·have e1:iAdd .u64 48 n=48+n:=qeM (by omega)
    have e2:qaT .u8 (48+n)=48+n:=qs9 (by omega)
    have e3:(48+n).toNat=48+n.toNat:=by omega
    simp [h10,e1,e2,e3,qgO]
    unfold qfU
    rw [dif_pos (by omega)]
    simp [UInt8.ofNat_add]
   ·have e1:iQuo .u64 n 10=n / 10:=by
     unfold iQuo
     rw [Int.tdiv_eq_ediv_of_nonneg hn.1]
     exact qeM (by omega)
    have e2:iRem n 10=n % 10:=Int.tmod_eq_emod_of_nonneg hn.1
    have e3:iAdd .u64 48 (n % 10)=48+n % 10:=qeM (by omega)
    have e4:qaT .u8 (48+n % 10)=48+n % 10:=qs9 (by omega)
    have e5:(48+n % 10).toNat=48+n.toNat % 10:=by omega
    have e6:(n / 10).toNat=n.toNat / 10:=by omega
    have hl:=qgC 19 (n.toNat / 10) (by omega)
    have e7:¬ n.toNat < 10:=by omega
    have e8:n.toNat / 10 < k:=by omega
    have e9:qfU n.toNat=qfU (n.toNat / 10)++[UInt8.ofNat (48+n.toNat % 10)]:=by
     conv=>lhs; unfold qfU
     rw [dif_neg e7]
    have e10:(qfU (n.toNat / 10)).length+1≤maxLen:=by unfold maxLen; omega
    simp [h10,e1,e2,e3,e4,e5,e6,qgO,e8,e9,e10]
  ·cases h
theorem qF0 (gl:Gl):SimP Tryz.prog gl 76 fun args=>(qBU args).run:=by
 refine SimP.of_each (qvz gl 0).ent ?_
 intro args x h
 unfold qBU at h
 split at h
 ·rename_i n
  cases h
  exact ⟨_,qvz gl (n.toNat+1),by simp [qp1,Tr.chk]⟩
 ·cases h
end Go.Pv
set_option maxHeartbeats 4000000
set_option maxRecDepth 200000
set_option linter.unusedSimpArgs false
set_option linter.unusedVariables false
namespace Go.Pv
open Go Go.Proofs
def symB (s:List UInt8):List UInt8:=s.flatMap fun b=>oneV b.toNat
def symV (s:List UInt8):List UInt8:=34 :: symB s++[34]
def intV (n:Int):List UInt8:=if n < 0 then 45 :: qgO (-n) else qgO n
def qf3 (k n:Int) (s:List UInt8):List UInt8:=if isV k n s=true then (if k=1 then intV n else symV s) else []
def symH (s:List UInt8):List UInt8:=34 :: symB s
theorem qoJ (c:Int):1≤(oneV c).length∧(oneV c).length≤4:=by
 unfold oneV
 repeat' split
 all_goals simp
theorem qtN:∀ s,(symB s).length≤4 * s.length
 | []=>by simp [symB]
 | b :: s=>by
  have:=qtN s
  have:=qoJ b.toNat
  simp [symB] at *
  omega
theorem qvc (k n:Int) (s:List UInt8):qbD k n s=if isV k n s=true then 0 else 10:=by
 unfold qbD isV
 by_cases h1:k=1∧s=[]
 ·simp [h1]
 ·by_cases h2:k=2∧n=0∧s.length≤256
  ·simp [h2]
  ·rw [if_neg h1,if_neg h2,if_neg]
   simp only [decide_eq_true_eq]
   rintro (h | h)
   ·exact h1 h
   ·exact h2 h
theorem qCf {n:Int} (h:n≤18446744073709551616):(qgO n).length≤20:=qgC 19 n.toNat (by omega)
def qxj:List PV→Tr PV
 | [.agg [.int .i64 k,.int .i64 n,.str s]]=>.ret (.tup [.str (qf3 k n s),.int .i64 (qbD k n s)])
 | _=>.fail
def qx7:List PV→Store→Option (Int × Int × List UInt8 × Int × Store)
 | [.ptr 0 0,.sl [[.int .u8 34]] .full,.int .i64 i],⟨[[.int .i64 k,.int .i64 n,.str s]],[],[25]⟩=>some (k,n,s,i,⟨[[.int .i64 k,.int .i64 n,.str s]],[],[25]⟩)
 | _,_=>none
def qDQ:Int × Int × List UInt8 × Int × Store→Tr (PExit × List (Nat × PV) × Store)
 | (k,n,s,i,σ)=>Tr.chk (iEq i 0) (Tr.chk (iLe (sLen s) 256) (.ite (sEq s []) (.ret (.exit 0,[(4,.sl (qad (symH s)) .full)],⟨σ.objs,[],σ.tys⟩)) (.ret (.exit 0,[(4,.sl (qad (symH s)) (.tok 0))],⟨σ.objs,[(nLen (symH s),1,5)],σ.tys⟩))))
def qEe:LpsT:=fun r fr σ=>if r=9 then oracle 46 [1,4,5] qx7 qDQ fr σ else .fail
noncomputable def qxq:Code:=qE6 Tryz.f46 0
theorem qAQ (gl:Gl):∀ vs σ a e out σ',qx7 vs σ=some a→(qDQ a).run=some (e,out,σ')→LDoes Tryz.prog gl qxq (mk 46 ([1,4,5].zip vs)) σ e (mk 46 out) σ':=by
 intro vs s a e out σ' hd hr
 unfold qx7 at hd
 split at hd
 ·rename_i i k n s
  cases hd
  obtain ⟨h1,h2⟩:=Tr.chk_some hr
  obtain ⟨h3,h4⟩:=Tr.chk_some h2
  simp at h1 h3
  subst h1
  clear hr h2
  have hG:qaR Tryz.prog gl (gam (ofL [(77,.pure qC1)])):=qac (qFT gl) qag
  -- the row is the call's own
  have key:∀ (m:Nat) (i:Int) (b:List UInt8),0≤i→i+m=s.length→b++symB (s.drop i.toNat)=symH s→b.length≤1+4 * i.toNat→s≠[] →
    LDoes Tryz.prog gl qxq (mk 46 ([1,4,5].zip [.ptr 0 0,.sl (qad b) (.tok 0),.int .i64 i])) ⟨[[.int .i64 k,.int .i64 n,.str s]],[(nLen b,1,5)],[25]⟩ e (mk 46 out) σ':=by
   intro m
   induction m with
   | zero =>
    intro i b h0 hi hf hb hne
    have e1:s.drop i.toNat=[]:=by apply List.drop_eq_nil_of_le; omega
    rw [e1] at hf
    simp [symB] at hf
    subst hf
    simp [hne] at h4
    obtain ⟨rfl,rfl,rfl⟩:=h4
    refine LDoes.round qav hG qah (L:=fun _ _ _=>.fail) (qae (by kernel_rfl)) (by kernel_rfl) ?_
    refine Tr.all_as (Tr.ite (iLt i (sLen s))
      (Tr.ite (qaJ s i)
       (Tr.ite (qaP (qad (symH s)) (qad (oneV (sAt s i))) 1)
        (Tr.ite (qaO (qad (oneV (sAt s i))) 1)
         (Tr.ite (qaC (qad (symH s)) 1)
          (Tr.ite (xNil (qad (oneV (sAt s i))))
           (Tr.ret
            (PExit.normal,[32],
             [PV.top,PV.ptr 0 0,PV.top,PV.top,PV.sl (qad (symH s)) (Tag.tok 0),PV.int IntKind.i64 (iAdd IntKind.i64 i 1),PV.top,PV.top,PV.top,PV.top,PV.top,PV.top,PV.top,PV.top,
              PV.top,PV.top,PV.top,PV.top,PV.top,PV.top,PV.top,PV.top,PV.top,PV.top,PV.top,PV.top,PV.top,PV.top,PV.int IntKind.i64 i,PV.ptr 0 2,PV.str s,
              PV.int IntKind.i64 (sLen s),PV.bool true,PV.int IntKind.i64 i,PV.int IntKind.i64 (iAdd IntKind.i64 i 1),PV.sl (qad (symH s)) (Tag.tok 0),PV.ptr 0 2,PV.str s,
              PV.int IntKind.i64 i,PV.int IntKind.u8 (sAt s i),PV.sl (qad (oneV (sAt s i))) Tag.non,PV.sl (qad (symH s)) (Tag.tok 0),PV.top,PV.top,PV.top,PV.top],
             Store.mk [[PV.int IntKind.i64 k,PV.int IntKind.i64 n,PV.str s]] [(nLen (symH s),1,5)] [25]))
           (Tr.ite (nEq (nLen (symH s)) (nXs (qad (symH s))))
            (Tr.ret
             (PExit.normal,[32],
              [PV.top,PV.ptr 0 0,PV.top,PV.top,PV.sl (xApp (qad (symH s)) (qad (oneV (sAt s i)))) (Tag.tok 0),PV.int IntKind.i64 (iAdd IntKind.i64 i 1),PV.top,PV.top,PV.top,
               PV.top,PV.top,PV.top,PV.top,PV.top,PV.top,PV.top,PV.top,PV.top,PV.top,PV.top,PV.top,PV.top,PV.top,PV.top,PV.top,PV.top,PV.top,PV.top,PV.int IntKind.i64 i,
               PV.ptr 0 2,PV.str s,PV.int IntKind.i64 (sLen s),PV.bool true,PV.int IntKind.i64 i,PV.int IntKind.i64 (iAdd IntKind.i64 i 1),PV.sl (qad (symH s)) (Tag.tok 0),PV.ptr 0 2,
               PV.str s,PV.int IntKind.i64 i,PV.int IntKind.u8 (sAt s i),PV.sl (qad (oneV (sAt s i))) Tag.non,PV.sl (xApp (qad (symH s)) (qad (oneV (sAt s i)))) (Tag.tok 0),
               PV.top,PV.top,PV.top,PV.top],
              Store.mk [[PV.int IntKind.i64 k,PV.int IntKind.i64 n,PV.str s]] [(nXs (xApp (qad (symH s)) (qad (oneV (sAt s i)))),1,5)] [25]))
            Tr.fail))
          Tr.fail)
         Tr.fail)
        Tr.fail)
       Tr.fail)
      (Tr.ret
       (PExit.exit 0,[32],
        [PV.top,PV.ptr 0 0,PV.top,PV.top,PV.sl (qad (symH s)) (Tag.tok 0),PV.int IntKind.i64 i,PV.top,PV.top,PV.top,PV.top,PV.top,PV.top,PV.top,PV.top,PV.top,PV.top,PV.top,PV.top,
         PV.top,PV.top,PV.top,PV.top,PV.top,PV.top,PV.top,PV.top,PV.top,PV.top,PV.int IntKind.i64 i,PV.ptr 0 2,PV.str s,PV.int IntKind.i64 (sLen s),PV.bool false,PV.top,PV.top,PV.top,
         PV.top,PV.top,PV.top,PV.top,PV.top,PV.top,PV.top,PV.top,PV.top,PV.top],
        Store.mk [[PV.int IntKind.i64 k,PV.int IntKind.i64 n,PV.str s]] [(nLen (symH s),1,5)] [25]))) (by kernel_rfl) ?_
    refine Tr.all_f (by simp; omega) ⟨rfl,by simp [Weak,mk,qcr,look],rfl⟩
   | succ m ih =>
    intro i b h0 hi hf hb hne
    obtain ⟨v,hv⟩:=qe0 (l:=s) (i:=i.toNat) (by omega)
    rw [qbB hv] at hf
    have hone:=qoJ v.toNat
    have e2:(i+1).toNat=i.toNat+1:=by omega
    refine LDoes.round qav hG qah (L:=fun _ _ _=>.fail) (qae (by kernel_rfl)) (by kernel_rfl) ?_
    refine Tr.all_as (Tr.ite (iLt i (sLen s))
      (Tr.ite (qaJ s i)
       (Tr.ite (qaP (qad b) (qad (oneV (sAt s i))) 1)
        (Tr.ite (qaO (qad (oneV (sAt s i))) 1)
         (Tr.ite (qaC (qad b) 1)
          (Tr.ite (xNil (qad (oneV (sAt s i))))
           (Tr.ret
            (PExit.normal,[32],
             [PV.top,PV.ptr 0 0,PV.top,PV.top,PV.sl (qad b) (Tag.tok 0),PV.int IntKind.i64 (iAdd IntKind.i64 i 1),PV.top,PV.top,PV.top,PV.top,PV.top,PV.top,PV.top,PV.top,PV.top,
              PV.top,PV.top,PV.top,PV.top,PV.top,PV.top,PV.top,PV.top,PV.top,PV.top,PV.top,PV.top,PV.top,PV.int IntKind.i64 i,PV.ptr 0 2,PV.str s,PV.int IntKind.i64 (sLen s),
              PV.bool true,PV.int IntKind.i64 i,PV.int IntKind.i64 (iAdd IntKind.i64 i 1),PV.sl (qad b) (Tag.tok 0),PV.ptr 0 2,PV.str s,PV.int IntKind.i64 i,PV.int IntKind.u8 (sAt s i),
              PV.sl (qad (oneV (sAt s i))) Tag.non,PV.sl (qad b) (Tag.tok 0),PV.top,PV.top,PV.top,PV.top],
             Store.mk [[PV.int IntKind.i64 k,PV.int IntKind.i64 n,PV.str s]] [(nLen b,1,5)] [25]))
           (Tr.ite (nEq (nLen b) (nXs (qad b)))
            (Tr.ret
             (PExit.normal,[32],
              [PV.top,PV.ptr 0 0,PV.top,PV.top,PV.sl (xApp (qad b) (qad (oneV (sAt s i)))) (Tag.tok 0),PV.int IntKind.i64 (iAdd IntKind.i64 i 1),PV.top,PV.top,PV.top,PV.top,
               PV.top,PV.top,PV.top,PV.top,PV.top,PV.top,PV.top,PV.top,PV.top,PV.top,PV.top,PV.top,PV.top,PV.top,PV.top,PV.top,PV.top,PV.top,PV.int IntKind.i64 i,PV.ptr 0 2,
               PV.str s,PV.int IntKind.i64 (sLen s),PV.bool true,PV.int IntKind.i64 i,PV.int IntKind.i64 (iAdd IntKind.i64 i 1),PV.sl (qad b) (Tag.tok 0),PV.ptr 0 2,PV.str s,
               PV.int IntKind.i64 i,PV.int IntKind.u8 (sAt s i),PV.sl (qad (oneV (sAt s i))) Tag.non,PV.sl (xApp (qad b) (qad (oneV (sAt s i)))) (Tag.tok 0),PV.top,PV.top,
               PV.top,PV.top],
              Store.mk [[PV.int IntKind.i64 k,PV.int IntKind.i64 n,PV.str s]] [(nXs (xApp (qad b) (qad (oneV (sAt s i)))),1,5)] [25]))
            Tr.fail))
          Tr.fail)
         Tr.fail)
        Tr.fail)
       Tr.fail)
      (Tr.ret
       (PExit.exit 0,[32],
        [PV.top,PV.ptr 0 0,PV.top,PV.top,PV.sl (qad b) (Tag.tok 0),PV.int IntKind.i64 i,PV.top,PV.top,PV.top,PV.top,PV.top,PV.top,PV.top,PV.top,PV.top,PV.top,PV.top,PV.top,PV.top,
         PV.top,PV.top,PV.top,PV.top,PV.top,PV.top,PV.top,PV.top,PV.top,PV.int IntKind.i64 i,PV.ptr 0 2,PV.str s,PV.int IntKind.i64 (sLen s),PV.bool false,PV.top,PV.top,PV.top,PV.top,
         PV.top,PV.top,PV.top,PV.top,PV.top,PV.top,PV.top,PV.top,PV.top],
        Store.mk [[PV.int IntKind.i64 k,PV.int IntKind.i64 n,PV.str s]] [(nLen b,1,5)] [25]))) (by kernel_rfl) ?_
    rw [qfW hv,qjm,qd5,qd5]
    refine Tr.all_t (by simp; omega) <| Tr.all_t (qdU h0 hv) <| Tr.all_t (qf8 (by omega)) <| Tr.all_t (qnu _) <| Tr.all_t (qdb _) <| Tr.all_f (qmI hone.1) <| Tr.all_t (by simp) ?_
    refine LDoes.into ?_ (ih (i+1) (b++oneV v.toNat) (by omega) (by omega) (by rw [← hf,e2]; simp [symB]) (by simp; omega) hne)
    simp [Weak,mk,qcr,look,iAdd,qbo (n:=i+1) (by omega)]
  by_cases hne:s=[]
  ·subst hne
   simp at h4
   obtain ⟨rfl,rfl,rfl⟩:=h4
   refine LDoes.round qav hG qah (L:=fun _ _ _=>.fail) (qae (by kernel_rfl)) (by kernel_rfl) ?_
   refine Tr.all_as (Tr.ite (iLt 0 (sLen []))
     (Tr.ite (qaJ [] 0)
      (Tr.ite (qaP [[PV.int IntKind.u8 34]] (qad (oneV (sAt [] 0))) 1)
       (Tr.ite (qaO (qad (oneV (sAt [] 0))) 1)
        (Tr.ite (qaC [[PV.int IntKind.u8 34]] 1)
         (Tr.ite (xNil (qad (oneV (sAt [] 0))))
          (Tr.ret
           (PExit.normal,[32],
            [PV.top,PV.ptr 0 0,PV.top,PV.top,PV.sl [[PV.int IntKind.u8 34]] Tag.full,PV.int IntKind.i64 (iAdd IntKind.i64 0 1),PV.top,PV.top,PV.top,PV.top,PV.top,PV.top,PV.top,PV.top,
             PV.top,PV.top,PV.top,PV.top,PV.top,PV.top,PV.top,PV.top,PV.top,PV.top,PV.top,PV.top,PV.top,PV.top,PV.int IntKind.i64 0,PV.ptr 0 2,PV.str [],
             PV.int IntKind.i64 (sLen []),PV.bool true,PV.int IntKind.i64 0,PV.int IntKind.i64 (iAdd IntKind.i64 0 1),PV.sl [[PV.int IntKind.u8 34]] Tag.full,PV.ptr 0 2,PV.str [],
             PV.int IntKind.i64 0,PV.int IntKind.u8 (sAt [] 0),PV.sl (qad (oneV (sAt [] 0))) Tag.non,PV.sl [[PV.int IntKind.u8 34]] Tag.full,PV.top,PV.top,PV.top,PV.top],
            Store.mk [[PV.int IntKind.i64 k,PV.int IntKind.i64 n,PV.str []]] [] [25]))
          (Tr.ret
           (PExit.normal,[32],
            [PV.top,PV.ptr 0 0,PV.top,PV.top,PV.sl (xApp [[PV.int IntKind.u8 34]] (qad (oneV (sAt [] 0)))) (Tag.tok 0),PV.int IntKind.i64 (iAdd IntKind.i64 0 1),PV.top,PV.top,PV.top,
             PV.top,PV.top,PV.top,PV.top,PV.top,PV.top,PV.top,PV.top,PV.top,PV.top,PV.top,PV.top,PV.top,PV.top,PV.top,PV.top,PV.top,PV.top,PV.top,PV.int IntKind.i64 0,
             PV.ptr 0 2,PV.str [],PV.int IntKind.i64 (sLen []),PV.bool true,PV.int IntKind.i64 0,PV.int IntKind.i64 (iAdd IntKind.i64 0 1),PV.sl [[PV.int IntKind.u8 34]] Tag.full,
             PV.ptr 0 2,PV.str [],PV.int IntKind.i64 0,PV.int IntKind.u8 (sAt [] 0),PV.sl (qad (oneV (sAt [] 0))) Tag.non,
             PV.sl (xApp [[PV.int IntKind.u8 34]] (qad (oneV (sAt [] 0)))) (Tag.tok 0),PV.top,PV.top,PV.top,PV.top],
            Store.mk [[PV.int IntKind.i64 k,PV.int IntKind.i64 n,PV.str []]] [(nXs (xApp [[PV.int IntKind.u8 34]] (qad (oneV (sAt [] 0)))),1,5)] [25])))
         Tr.fail)
        Tr.fail)
       Tr.fail)
      Tr.fail)
     (Tr.ret
      (PExit.exit 0,[32],
       [PV.top,PV.ptr 0 0,PV.top,PV.top,PV.sl [[PV.int IntKind.u8 34]] Tag.full,PV.int IntKind.i64 0,PV.top,PV.top,PV.top,PV.top,PV.top,PV.top,PV.top,PV.top,PV.top,PV.top,PV.top,
        PV.top,PV.top,PV.top,PV.top,PV.top,PV.top,PV.top,PV.top,PV.top,PV.top,PV.top,PV.int IntKind.i64 0,PV.ptr 0 2,PV.str [],PV.int IntKind.i64 (sLen []),PV.bool false,PV.top,
        PV.top,PV.top,PV.top,PV.top,PV.top,PV.top,PV.top,PV.top,PV.top,PV.top,PV.top,PV.top],
       Store.mk [[PV.int IntKind.i64 k,PV.int IntKind.i64 n,PV.str []]] [] [25]))) (by kernel_rfl) ?_
   refine Tr.all_f (by simp) ⟨rfl,by simp [Weak,mk,qcr,look,symH,symB,qad],rfl⟩
  ·obtain ⟨v,hv⟩:=qe0 (l:=s) (i:=0) (List.length_pos_iff.2 hne)
   have hv':s[(0:Int).toNat]?=some v:=hv
   have hone:=qoJ v.toNat
   have hs:s=v :: s.drop 1:=by
    have:=qbB hv
    simpa using this
   refine LDoes.round qav hG qah (L:=fun _ _ _=>.fail) (qae (by kernel_rfl)) (by kernel_rfl) ?_
   refine Tr.all_as (Tr.ite (iLt 0 (sLen s))
     (Tr.ite (qaJ s 0)
      (Tr.ite (qaP [[PV.int IntKind.u8 34]] (qad (oneV (sAt s 0))) 1)
       (Tr.ite (qaO (qad (oneV (sAt s 0))) 1)
        (Tr.ite (qaC [[PV.int IntKind.u8 34]] 1)
         (Tr.ite (xNil (qad (oneV (sAt s 0))))
          (Tr.ret
           (PExit.normal,[32],
            [PV.top,PV.ptr 0 0,PV.top,PV.top,PV.sl [[PV.int IntKind.u8 34]] Tag.full,PV.int IntKind.i64 (iAdd IntKind.i64 0 1),PV.top,PV.top,PV.top,PV.top,PV.top,PV.top,PV.top,PV.top,
             PV.top,PV.top,PV.top,PV.top,PV.top,PV.top,PV.top,PV.top,PV.top,PV.top,PV.top,PV.top,PV.top,PV.top,PV.int IntKind.i64 0,PV.ptr 0 2,PV.str s,
             PV.int IntKind.i64 (sLen s),PV.bool true,PV.int IntKind.i64 0,PV.int IntKind.i64 (iAdd IntKind.i64 0 1),PV.sl [[PV.int IntKind.u8 34]] Tag.full,PV.ptr 0 2,PV.str s,
             PV.int IntKind.i64 0,PV.int IntKind.u8 (sAt s 0),PV.sl (qad (oneV (sAt s 0))) Tag.non,PV.sl [[PV.int IntKind.u8 34]] Tag.full,PV.top,PV.top,PV.top,PV.top],
            Store.mk [[PV.int IntKind.i64 k,PV.int IntKind.i64 n,PV.str s]] [] [25]))
          (Tr.ret
           (PExit.normal,[32],
            [PV.top,PV.ptr 0 0,PV.top,PV.top,PV.sl (xApp [[PV.int IntKind.u8 34]] (qad (oneV (sAt s 0)))) (Tag.tok 0),PV.int IntKind.i64 (iAdd IntKind.i64 0 1),PV.top,PV.top,PV.top,
             PV.top,PV.top,PV.top,PV.top,PV.top,PV.top,PV.top,PV.top,PV.top,PV.top,PV.top,PV.top,PV.top,PV.top,PV.top,PV.top,PV.top,PV.top,PV.top,PV.int IntKind.i64 0,
             PV.ptr 0 2,PV.str s,PV.int IntKind.i64 (sLen s),PV.bool true,PV.int IntKind.i64 0,PV.int IntKind.i64 (iAdd IntKind.i64 0 1),PV.sl [[PV.int IntKind.u8 34]] Tag.full,PV.ptr 0 2,
             PV.str s,PV.int IntKind.i64 0,PV.int IntKind.u8 (sAt s 0),PV.sl (qad (oneV (sAt s 0))) Tag.non,PV.sl (xApp [[PV.int IntKind.u8 34]] (qad (oneV (sAt s 0)))) (Tag.tok 0),
             PV.top,PV.top,PV.top,PV.top],
            Store.mk [[PV.int IntKind.i64 k,PV.int IntKind.i64 n,PV.str s]] [(nXs (xApp [[PV.int IntKind.u8 34]] (qad (oneV (sAt s 0)))),1,5)] [25])))
         Tr.fail)
        Tr.fail)
       Tr.fail)
      Tr.fail)
     (Tr.ret
      (PExit.exit 0,[32],
       [PV.top,PV.ptr 0 0,PV.top,PV.top,PV.sl [[PV.int IntKind.u8 34]] Tag.full,PV.int IntKind.i64 0,PV.top,PV.top,PV.top,PV.top,PV.top,PV.top,PV.top,PV.top,PV.top,PV.top,PV.top,
        PV.top,PV.top,PV.top,PV.top,PV.top,PV.top,PV.top,PV.top,PV.top,PV.top,PV.top,PV.int IntKind.i64 0,PV.ptr 0 2,PV.str s,PV.int IntKind.i64 (sLen s),PV.bool false,PV.top,PV.top,
        PV.top,PV.top,PV.top,PV.top,PV.top,PV.top,PV.top,PV.top,PV.top,PV.top,PV.top],
       Store.mk [[PV.int IntKind.i64 k,PV.int IntKind.i64 n,PV.str s]] [] [25]))) (by kernel_rfl) ?_
   have e3:([[PV.int .u8 34]]:List (List PV))=qad [34]:=rfl
   rw [qfW hv',e3,qjm,qd5]
   refine Tr.all_t (by simp; exact List.length_pos_iff.2 hne) <| Tr.all_t (qdU (by omega) hv') <| Tr.all_t (qf8 (by simp; omega)) <| Tr.all_t (qnu _) <| Tr.all_t (qdb _) <| Tr.all_f (qmI hone.1) ?_
   have hl:s.length=(s.drop 1).length+1:=by rw [List.length_drop]; have:=List.length_pos_iff.2 hne; omega
   refine LDoes.into ?_ (key (s.length - 1) 1 ([34]++oneV v.toNat) (by omega) (by omega) ?_ (by simp; omega) hne)
   ·simp [Weak,mk,qcr,look,iAdd,qbo (n:=1) (by omega)]
   ·unfold symH
    conv=>rhs; rw [hs]
    simp [symB]
 ·cases hd
theorem qDo (gl:Gl):SimP Tryz.prog gl 46 fun args=>(qxj args).run:=by
 refine SimP.of_tree (G:=ofL [(45,.pure F_Is),(76,.pure qBU)]) (L:=qEe) qav (qac (qMm gl) (qac (qF0 gl) qag)) qah Tryz.func46 rfl (by rfl) (by kernel_rfl) (qgQ (r:=9) (c1:=qxq) (by kernel_rfl) ?_) ?_
 ·intro fr σ e fr' σ' hh
  simp only [lps,qEe,if_true] at hh
  exact qh9 (qAQ gl) fr σ e fr' σ' hh
 intro args x h hr
 unfold qxj at h
 split at h
 ·rename_i k n s
  cases h
  refine Tr.run_as (Tr.ite (bNot (isV k n s)) (Tr.ret (PV.tup [PV.str [],PV.int IntKind.i64 10]))
    (Tr.ite (iEq k 1)
     (Tr.ite (iLt n 0)
      (Tr.ite (qa2 [45] (qgO (iAdd IntKind.u64 (qaT IntKind.u64 (iSub IntKind.i64 0 (iAdd IntKind.i64 n 1))) 1)))
       (Tr.ret (PV.tup [PV.str (sApp [45] (qgO (iAdd IntKind.u64 (qaT IntKind.u64 (iSub IntKind.i64 0 (iAdd IntKind.i64 n 1))) 1))),PV.int IntKind.i64 0])) Tr.fail)
      (Tr.ret (PV.tup [PV.str (qgO (qaT IntKind.u64 n)),PV.int IntKind.i64 0])))
     (Tr.ite (iEq 0 0)
      (Tr.ite (iLe (sLen s) 256)
       (Tr.ite (sEq s [])
        (Tr.ite (qaP (qad (symH s)) [[PV.int IntKind.u8 34]] 1)
         (Tr.ite (qaO [[PV.int IntKind.u8 34]] 1)
          (Tr.ite (qaC (qad (symH s)) 1)
           (Tr.ite (qdu (xApp (qad (symH s)) [[PV.int IntKind.u8 34]])) (Tr.ret (PV.tup [PV.str (qci (xApp (qad (symH s)) [[PV.int IntKind.u8 34]])),PV.int IntKind.i64 0]))
            Tr.fail)
           Tr.fail)
          Tr.fail)
         Tr.fail)
        (Tr.ite (qaP (qad (symH s)) [[PV.int IntKind.u8 34]] 1)
         (Tr.ite (qaO [[PV.int IntKind.u8 34]] 1)
          (Tr.ite (qaC (qad (symH s)) 1)
           (Tr.ite (nEq (nLen (symH s)) (nXs (qad (symH s))))
            (Tr.ite (qdu (xApp (qad (symH s)) [[PV.int IntKind.u8 34]])) (Tr.ret (PV.tup [PV.str (qci (xApp (qad (symH s)) [[PV.int IntKind.u8 34]])),PV.int IntKind.i64 0]))
             Tr.fail)
            Tr.fail)
           Tr.fail)
          Tr.fail)
         Tr.fail))
       Tr.fail)
      Tr.fail))) (by kernel_rfl) ?_
  have hc:=qKE hr 0 rfl
  have hn:-9223372036854775808≤n∧n≤9223372036854775807:=qng hc 1 rfl
  rw [qvc]
  cases hI:isV k n s with
  | false=>simp [qf3,hI]
  | true =>
   by_cases hk:k=1
   ·by_cases hneg:n < 0
    ·have e1:iAdd .i64 n 1=n+1:=qbo (by omega)
     have e2:iSub .i64 0 (n+1)=-(n+1):=by unfold iSub; rw [qbo (by omega)]; omega
     have e3:qaT .u64 (-(n+1))=-(n+1):=qeM (by omega)
     have e4:iAdd .u64 (-(n+1)) 1=-n:=by unfold iAdd; rw [qeM (by omega)]; omega
     have e5:=qCf (n:=-n) (by omega)
     have e6:1+(qgO (-n)).length≤maxLen:=by unfold maxLen; omega
     have e7:qa2 [45] (qgO (-n))=true:=by simp; omega
     simp only [e1,e2,e3,e4,hk,hneg,Tr.run_ite,e7,if_true,qDC,Bool.not_true,Bool.false_eq_true,if_false,qrW,qyY,decide_true,Tr.run_ret]
     subst hk
     simp [qf3,hI,intV,hneg]
    ·have e1:qaT .u64 n=n:=qeM (by omega)
     subst hk
     simp [qf3,hI,intV,hneg,e1]
   ·have hs:s.length≤256:=by
     unfold isV at hI
     simp [hk] at hI
     exact hI.2.2
    have hB:=qtN s
    have hH:(symH s).length=1+(symB s).length:=by simp [symH]; omega
    have e1:xApp (qad (symH s)) [[.int .u8 34]]=qad (symV s):=by
     rw [qhZ _ (by omega)]
     rfl
    have e2:qaP (qad (symH s)) [[.int .u8 34]] 1=true:=by simp; omega
    have e3:nEq (nLen (symH s)) (nXs (qad (symH s)))=true:=by simp
    have e4:qaO [[.int .u8 34]] 1=true:=rfl
    have e5:iLe (sLen s) 256=true:=by simp; omega
    simp only [e1,e2,e3,e4,e5,Tr.run_ite,hk,qDC,Bool.not_true,Bool.false_eq_true,if_false,if_true,qrW,decide_false,decide_true,qdb,qtP,qtC,Tr.run_ret]
    simp [qf3,hI,hk]
 ·cases h
end Go.Pv
set_option maxHeartbeats 4000000
set_option maxRecDepth 200000
set_option linter.unusedSimpArgs false
set_option linter.unusedVariables false
namespace Go.Pv
open Go Go.Proofs Go.RowKit
def VarIs (gl:Gl) (name:String) (cs:Array Value):Prop:=∃ g T f,Tryz.prog.globalNamed name=some g∧gl g=some (.cells cs T f)
structure GlPow (gl:Gl):Prop where
 pow : VarIs gl "internal/strconv.uint64pow10" (Lib.pow10Tab.map fun z => Value.int .u64 z).toArray
structure GlOk (gl:Gl):Prop extends GlPow gl where
 syn : ∃ tp p, VarIs gl "strconv.ErrSyntax" #[.iface tp p]
 rng : ∃ tp p, VarIs gl "strconv.ErrRange" #[.iface tp p]
theorem VarIs.var {gl:Gl} {name:String} {cs:Array Value} (h:VarIs gl name cs) {w:World} (hw:∀ b o,gl b=some o→w.heap[b]?=some o):w.var? Tryz.prog name=some cs:=by
 obtain ⟨g,T,f,h1,h2⟩:=h
 simp [World.var?,h1,hw g _ h2]
theorem GlPow.dr {gl:Gl} (h:GlPow gl) (w w':World):Dr gl w w':=fun hg=>by
 obtain ⟨g,T,f,_,h2⟩:=h.pow
 rw [hg g] at h2
 cases h2
def qEs (n:Int):List UInt8:=Lib.itoa n
def qkD:List PV→Tr PV
 | [.int .i64 n,.int .i64 b]=>Tr.chk (iEq b 10) (.ret (.str (qEs n)))
 | _=>.fail
theorem qt2 {gl:Gl} (hgl:GlPow gl):SimP Tryz.prog gl 114 fun args=>(qkD args).run:=by
 refine ⟨⟨_,Tryz.func114,by rfl,by rfl⟩,?_⟩
 intro args x hx H w vs hB hob htk hw hrel
 unfold qkD at hx
 split at hx
 ·rename_i n b
  obtain ⟨h1,h2⟩:=Tr.chk_some hx
  cases h2
  simp at h1
  subst h1
  cases hrel with
  | cons _ v _ vs hv hvs =>
   cases hvs with
   | cons _ v2 _ vs hv2 hvs =>
    cases hvs
    cases hv with
    | int _ _ hwf =>
     cases hv2
     simp [Lit.wf,IntKind.min,IntKind.max,IntKind.signed,IntKind.bits] at hwf
     refine (Tryz.strconv_FormatInt_10 n hwf.1 (by omega) w (hgl.pow.var hw)).mono ?_
     rintro e w' ⟨rfl,k,os,rfl⟩
     refine ⟨_,rfl,⟨Lib.below_grow _ _ (Nat.le_refl _) k os,hgl.dr _ _⟩,.str _ ?_⟩
     have:=Lib.itoa_length_le n hwf.1 (by omega)
     show (Lib.itoa n).length≤maxLen
     unfold maxLen
     omega
 ·cases hx
def pOk (s:List UInt8):Bool:=match Lib.parseIntB 64 s with
 | .ok _=>true
 | _=>false
def pVal (s:List UInt8):Int:=match Lib.parseIntB 64 s with
 | .ok v=>v
 | .range=>Lib.intSat 64 s
 | _=>0
def qgq (s:List UInt8):Bool:=decide (s.length≤281474976710656)
def qnd:List PV→Tr PV
 | [.str s,.int .i64 b,.int .i64 k]=>Tr.chk (iEq b 10) (Tr.chk (iEq k 64) (Tr.chk (qgq s) (.ite (pOk s) (.ret (.tup [.int .i64 (pVal s),.nili])) (.ret (.tup [.int .i64 (pVal s),.iface 237 .top])))))
 | _=>.fail
theorem qED (s:List UInt8):(Lit.int .i64 (pVal s)).wf=true:=by
 have key:-9223372036854775808≤pVal s∧pVal s≤9223372036854775807:=by
  unfold pVal
  split
  ·rename_i v hv
   have h:=Lib.parseIntB_bounds hv
   have e:((2 ^ (64 - 1):Nat):Int)=9223372036854775808:=by decide
   rw [e] at h
   omega
  ·unfold Lib.intSat
   split
   ·have e:-(((2 ^ (64 - 1):Nat)):Int)=-9223372036854775808:=by decide
    rw [e]
    omega
   ·have e:(((2 ^ (64 - 1) - 1:Nat)):Int)=9223372036854775807:=by decide
    rw [e]
    omega
  ·omega
 simp [Lit.wf,IntKind.min,IntKind.max,IntKind.signed,IntKind.bits]
 omega
theorem qvG {gl:Gl} (hgl:GlOk gl):SimP Tryz.prog gl 176 fun args=>(qnd args).run:=by
 refine ⟨⟨_,Tryz.func176,by rfl,by rfl⟩,?_⟩
 intro args x hx H w vs hB hob htk hw hrel
 unfold qnd at hx
 split at hx
 ·rename_i s b k
  obtain ⟨h1,h2⟩:=Tr.chk_some hx
  obtain ⟨h3,h4⟩:=Tr.chk_some h2
  obtain ⟨h5,h6⟩:=Tr.chk_some h4
  simp at h1 h3
  simp [qgq] at h5
  subst h1 h3
  have hwf:=qED s
  cases hrel with
  | cons _ v _ vs hv hvs =>
   cases hvs with
   | cons _ v2 _ vs hv2 hvs =>
    cases hvs with
    | cons _ v3 _ vs hv3 hvs =>
     cases hvs
     cases hv2; cases hv3
     cases hv with
     | str _ hl =>
      have hsz:(ByteArray.mk s.toArray).size=s.length:=by simp [ByteArray.size]
      cases hp:Lib.parseIntB 64 s with
      | ok n =>
       have e1:pOk s=true:=by simp [pOk,hp]
       have e2:pVal s=n:=by simp [pVal,hp]
       rw [e2] at hwf
       simp [e1,e2] at h6
       subst h6
       refine (Any.strconv_ParseInt_10_at64_ok Tryz.laysC174 ⟨s.toArray⟩ (by rw [hsz]; omega) n hp w).mono ?_
       rintro e w' ⟨rfl,hw'⟩
       refine ⟨_,rfl,⟨?_,hgl.dr _ _⟩,.tup _ _ (.cons _ _ _ _ (.int _ _ hwf) (.cons _ _ _ _ .nili .nil))⟩
       rcases hw' with rfl | ⟨t,rfl⟩
       ·exact Below.refl _ _
       ·exact ⟨rfl,rfl,rfl,by rw [Lib.bytesWorld_size]; omega,fun k hk=>Lib.bytesWorld_at_old w _ _ k hk⟩
      | range =>
       have e1:pOk s=false:=by simp [pOk,hp]
       have e2:pVal s=Lib.intSat 64 s:=by simp [pVal,hp]
       simp [e1,e2] at h6
       rw [e2] at hwf
       subst h6
       obtain ⟨tp,p,hv⟩:=hgl.rng
       refine (Any.strconv_ParseInt_10_at64_range_var Tryz.laysC174 ⟨s.toArray⟩ (by rw [hsz]; omega) hp tp p w (hv.var hw)).mono ?_
       rintro e w' ⟨N,rfl,h1,h2,h3⟩
       exact ⟨_,rfl,⟨h3,hgl.dr _ _⟩,.tup _ _ (.cons _ _ _ _ (.int _ _ hwf) (.cons _ _ _ _ (.iface _ _ _ (.top _)) .nil))⟩
      | _ =>
       have e1:pOk s=false:=by simp [pOk,hp]
       have e2:pVal s=0:=by simp [pVal,hp]
       rw [e2] at hwf
       simp [e1,e2] at h6
       subst h6
       obtain ⟨tp,p,hv⟩:=hgl.syn
       refine (Any.strconv_ParseInt_10_at64_syntax_var Tryz.laysC174 ⟨s.toArray⟩ (by rw [hsz]; omega) hp tp p w (hv.var hw)).mono ?_
       rintro e w' ⟨N,rfl,h1,h2,h3⟩
       exact ⟨_,rfl,⟨h3,hgl.dr _ _⟩,.tup _ _ (.cons _ _ _ _ (.int _ _ hwf) (.cons _ _ _ _ (.iface _ _ _ (.top _)) .nil))⟩
 ·cases hx
end Go.Pv
set_option maxHeartbeats 4000000
set_option maxRecDepth 200000
set_option linter.unusedSimpArgs false
set_option linter.unusedVariables false
namespace Go.Pv
open Go Go.Proofs Go.Shelf Go.RowKit
variable {P : Program} {ρ : Ren} {gl : Gl}
theorem qxE {w:World} {b off:Nat} {cs:Array Value} {T:TypeId} {fz:Nat × Nat} (h:w.heap[b]?=some (.cells cs T fz)) (v:Value):w.setCell ⟨b,off,none⟩ v=w.setRow b (cs.setIfInBounds off v):=by
 unfold World.setCell World.setRow
 congr 1
 apply Array.ext_getElem?
 intro i
 rw [Array.getElem?_modify,Array.getElem?_modify]
 by_cases hi:b=i
 ·subst hi
  rw [if_pos rfl,if_pos rfl,h]
  rfl
 ·rw [if_neg hi,if_neg hi]
theorem qEA {w:World} {b n:Nat} {cs:Array Value} {T:TypeId} {fz:Nat × Nat} (h:w.heap[b]?=some (.cells cs T fz)):∃ fz',(w.freeze ⟨b,0,none⟩ n).heap[b]?=some (.cells cs T fz'):=by
 unfold World.freeze
 split
 ·exact ⟨fz,h⟩
 ·obtain ⟨lo,hi⟩:=fz
  exact ⟨_,by simp only [Array.getElem?_modify,if_true,h]; rfl⟩
theorem quY (w:World) (b n k:Nat) (h:k≠b):(w.freeze ⟨b,0,none⟩ n).heap[k]?=w.heap[k]?:=by
 unfold World.freeze
 split
 ·rfl
 ·simp only [Array.getElem?_modify]
  rw [if_neg (fun e=>h e.symm)]
theorem qx6 (w:World) (b n:Nat):(w.freeze ⟨b,0,none⟩ n).heap.size=w.heap.size:=by
 unfold World.freeze
 split
 ·rfl
 ·simp
theorem qwa (w:World) (b n:Nat):(w.freeze ⟨b,0,none⟩ n).os=w.os∧(w.freeze ⟨b,0,none⟩ n).tape=w.tape∧(w.freeze ⟨b,0,none⟩ n).output=w.output:=by
 unfold World.freeze
 split <;> exact ⟨rfl,rfl,rfl⟩
theorem qvo (w:World) (b n:Nat):(w.drew.freeze ⟨b,0,none⟩ n).drawn=w.drew.drawn:=by
 unfold World.freeze
 split <;> rfl
def qfq (T:TypeId):List PV→Store→Tr (PV × Store)
 | [.ptr 1 0],⟨[o,[.nilp,q]],tk,[t0,t1]⟩=>Tr.chk (t1 == T) (.ret (.tup [],⟨[o,[.ptr 1 0,q]],tk,[t0,t1]⟩))
 | [.ptr 1 0],⟨[o,[.ptr 1 0,q]],tk,[t0,t1]⟩=>.ret (.tup [],⟨[o,[.ptr 1 0,q]],tk,[t0,t1]⟩)
 | _,_=>.fail
theorem qyg {H:Gh} {w:World} {args:List Value} {id off:Nat} (h:RelL H w [.ptr id off] args):∃ b,H.ob[id]?=some b∧args=[.pointer (some ⟨b,off,none⟩)]:=by
 cases h with
 | cons _ v _ vs hv hvs =>
  cases hvs
  cases hv with
  | ptr _ _ b hb=>exact ⟨b,hb,rfl⟩
theorem qnB {f:FuncId} {TB:TypeId} (hTB:TB < qgb) (hfresh:∀ (b:Nat) (w:World),w.cell? ⟨b,0,none⟩=some (.pointer none)→w.shape? b=some (TB,2)→w.frozen? ⟨b,0,none⟩=false→Calls P f #[.pointer (some ⟨b,0,none⟩)] w fun e w'=>e=.returned (.tuple #[])∧w'=w.setCell ⟨b,0,none⟩ (.pointer (some ⟨b,0,none⟩)))
  (hused:∀ (b:Nat) (w:World),w.cell? ⟨b,0,none⟩=some (.pointer (some ⟨b,0,none⟩))→Calls P f #[.pointer (some ⟨b,0,none⟩)] w fun e w'=>e=.returned (.tuple #[])∧w'=w)
  (hent : ∃ fn, P.funcs[f]? = some fn ∧ (fn.name == "runtime.NumGoroutine") = false ∧ fn.body.isNone = false) : SimS P gl f fun args σ => (qfq TB args σ).run := by
 refine ⟨hent,?_⟩
 intro args σ x σ' hx H w vs hok hrel
 unfold qfq at hx
 split at hx
 ·rename_i o q tk t0 t1
  obtain ⟨h1,h2⟩:=Tr.chk_some hx
  cases h2
  have h1:t1=TB:=by simpa using h1
  subst h1
  obtain ⟨b,hb,rfl⟩:=qyg hrel
  obtain ⟨hB,us,ext,T,hheap,hus⟩:=hok.obj 1 b _ hb rfl
  obtain ⟨cs,hcs,hsz⟩:=hok.ty 1 b _ _ hb rfl rfl hTB
  rw [hheap] at hcs
  simp only [Option.some.injEq,Obj.cells.injEq] at hcs
  obtain ⟨rfl,rfl,_⟩:=hcs
  have hul:=hus.len
  have hext:ext=[]:=by
   apply List.eq_nil_of_length_eq_zero
   simp at hsz hul
   omega
  subst hext
  cases hus with
  | cons _ u0 _ us hu0 hus =>
   cases hu0
   cases hus with
   | cons _ u1 _ us hu1 hus =>
    cases hus
    refine (hfresh b w (by rw [Lib.cell_of_heap hheap]; rfl) (by simp [World.shape?,hheap]) (by rw [Lib.frozen_of_heap hheap 0])).mono ?_
    rintro e w' ⟨rfl,rfl⟩
    rw [qxE hheap]
    have hset:=qwC (cs':=[.ptr 1 0,q]) (vs':=[.pointer (some ⟨b,0,none⟩),u1]) hok hb hheap (.cons _ _ _ _ (.ptr _ _ _ hb) (.cons _ _ _ _ hu1 .nil)) (fun c0 hc0=>by cases hc0; exact ⟨rfl,rfl⟩)
    exact ⟨_,rfl,H,hset.1,hset.2,.tup _ _ .nil⟩
 ·rename_i o q tk t0 t1
  cases hx
  obtain ⟨b,hb,rfl⟩:=qyg hrel
  obtain ⟨hB,us,ext,T,hheap,hus⟩:=hok.obj 1 b _ hb rfl
  cases hus with
  | cons _ u0 _ us hu0 hus =>
   have hu0':u0=.pointer (some ⟨b,0,none⟩):=by
    cases hu0 with
    | ptr _ _ b' hb' =>
     rw [hb] at hb'
     cases hb'
     rfl
   subst hu0'
   refine (hused b w (by rw [Lib.cell_of_heap hheap]; rfl)).mono ?_
   rintro e w' ⟨rfl,rfl⟩
   exact ⟨_,rfl,.same hok (.tup _ _ .nil)⟩
 ·cases hx
def qnI (T:TypeId):List PV→Store→Tr (PV × Store)
 | [.ptr 1 0],⟨[o,[p,.sl xs (.tok 0)]],[(v,1,e)],ty⟩=>Tr.chk (qdu xs) (Tr.chk (bNot (xNil xs)) (Tr.chk (nEq v (nXs xs)) (Tr.chk (e == T) (.ret (.str (qci xs),⟨[o,[p,.sl xs (.tok 0)]],[(maxLen+1,1,e)],ty⟩)))))
 | _,_=>.fail
set_option maxRecDepth 100000 in
theorem Any.Builder_String_at (L : Lays.n169 P ρ) (X : Builder.Extra P ρ) (b g cap : Nat) (l : List UInt8) (w : World) (p : Value) (cs cur : Array Value) (T : TypeId) (fz : Nat × Nat)
    (hbk : w.cell? ⟨b, 1, none⟩ = some (.slice (some ⟨g, 0, none⟩) l.length cap)) (hg : w.heap[g]? = some (.cells cur (ρ.t 5) fz)) (hnc : l.length ≤ cap) (hcm : cap ≤ maxLen) (hcs : cur.size = cap)
    (hcell : ∀ j x, l[j]? = some x → w.cell? ((⟨g, 0, none⟩ : Addr).add j) = some (.int .u8 x.toNat)) (h0 : l ≠ []) :
    Calls P (ρ.f 169) #[.pointer (some ⟨b, 0, none⟩)] w fun e w' => e = .returned (.string ⟨l.toArray⟩) ∧ w' = w.drew.freeze ⟨g, 0, none⟩ l.length := by
  have hl0 : l.length ≠ 0 := by simpa using h0
  have c1 : w.drew.cell? ⟨b, 1, none⟩ = some (.slice (some ⟨g, 0, none⟩) l.length cap) := hbk
  have hSD : (Builtin.unsafeSliceData_ #[(ρ.t 37)] (ρ.t 127) #[.slice (some ⟨g, 0, none⟩) l.length cap]).run P w.drew = .ok (.pointer (some ⟨g, 0, none⟩)) w.drew :=
    Lib.run_unsafeSliceData_row _ _ _ _ _ _ (by omega)
  have hUS : (Builtin.unsafeString_ #[(ρ.t 127), (ρ.t 3)] (ρ.t 9) #[.pointer (some ⟨g, 0, none⟩), .int .i64 l.length]).run P w.drew = .ok (.string ⟨l.toArray⟩) (w.drew.freeze ⟨g, 0, none⟩ l.length) := by
    refine Lib.run_unsafeString_row w.drew (ρ.t 127) (ρ.t 3) (ρ.t 9) (ρ.t 5) L.t127 X.cellsByte g cur.size (by have hg' : w.drew.heap[g]? = some (.cells cur (ρ.t 5) fz) := hg; simp [World.shape?, hg']) l h0 (by omega) (by unfold maxLen at hcm; omega) ?_
    intro j x hx
    exact hcell j x hx
  have mixed := L.mixed
  have t72 := L.t72; have a72 := L.a72; have z72 := L.z72; have v72 := L.v72; have u72 := run_underlying L.t72
  have t70 := L.t70; have a70 := L.a70; have z70 := L.z70; have v70 := L.v70; have u70 := run_underlying L.t70
  have t37 := L.t37; have a37 := L.a37; have z37 := L.z37; have v37 := L.v37; have u37 := run_underlying L.t37
  have t127 := L.t127; have a127 := L.a127; have z127 := L.z127; have v127 := L.v127; have u127 := run_underlying L.t127
  have t3 := L.t3; have a3 := L.a3; have z3 := L.z3; have v3 := L.v3; have u3 := run_underlying L.t3
  have t9 := L.t9; have a9 := L.a9; have z9 := L.z9; have v9 := L.v9; have u9 := run_underlying L.t9
  have t5 := X.t5; have a5 := X.a5; have z5 := X.z5; have v5 := X.v5; have u5 := run_underlying X.t5
  go_enter L.f169, Body.n169_ntmps ρ
  go_wp2
  go_region_o
  all_goals (go_wp2; go_ret; exact ⟨rfl, rfl⟩)
theorem Any.sim_String (L : Lays.n169 P ρ) (X : Builder.Extra P ρ) (hent : ∃ fn, P.funcs[ρ.f 169]? = some fn ∧ (fn.name == "runtime.NumGoroutine") = false ∧ fn.body.isNone = false) : SimS P gl (ρ.f 169) fun args σ => (qnI (ρ.t 5) args σ).run := by
 refine ⟨hent,?_⟩
 intro args σ x σ' hx H w vs hok hrel
 unfold qnI at hx
 split at hx
 ·rename_i o p xs v e ty
  obtain ⟨h1,q1⟩:=Tr.chk_some hx
  obtain ⟨h2,q2⟩:=Tr.chk_some q1
  obtain ⟨h3,q3⟩:=Tr.chk_some q2
  obtain ⟨h4,q4⟩:=Tr.chk_some q3
  clear hx q1 q2 q3
  have h4:e=ρ.t 5:=by simpa using h4
  subst h4
  simp at h2 h3
  subst h3
  cases q4
  unfold qdu qci at *
  cases hl:pbytes xs with
  | none=>simp [hl] at h1
  | some l =>
   obtain ⟨b,hb,rfl⟩:=qyg hrel
   obtain ⟨hB,us,ext,T,hheap,hus⟩:=hok.obj 1 b _ hb rfl
   cases hus with
   | cons _ u0 _ us hu0 hus =>
    cases hus with
    | cons _ u1 _ us hu1 hus =>
     cases hus
     cases hu1 with
     | sl a len cap k _ vss _ hlen hcap hm hrr hrow htag =>
      obtain ⟨ns,rfl,rfl⟩:=qpd hl
      have hvs:=qsl hrr
      subst hvs
      obtain ⟨U,hU,hUnz,hle,hUv⟩:=htag
      have hUs:(U.ver,U.k,U.e)=(len,1,ρ.t 5):=by
       have hh:=hok.tkl
       have:(H.tk.map fun T=>(T.ver,T.k,T.e))[0]?=some (U.ver,U.k,U.e):=by rw [List.getElem?_map,hU]; rfl
       rw [hh] at this
       simp at this
       rw [← this.1,← this.2.1,← this.2.2]
       simp [← hlen]
      simp only [Prod.mk.injEq] at hUs
      obtain ⟨hUver,hUk,hUe⟩:=hUs
      have hU0:U.ver≠0:=by
       rw [hUver]
       intro h0
       apply h2
       have:ns=[]:=List.eq_nil_of_length_eq_zero (by simpa [h0] using hlen)
       simp [this]
      obtain ⟨rfl,hcapU,hkU⟩:=(hUv hUver.symm).2 hU0
      obtain ⟨hBT,hTob,ob,hcur,hTO⟩:=hok.tok 0 U hU (fun hh=>hU0 hh.1)
      obtain ⟨cur,fz,rfl,hvc,hcm,hcs⟩:∃ cur fz,ob=.cells cur U.e fz∧(U.ver≤maxLen→fz=(0,0)∧U.ver≤U.cap)∧U.cap≤maxLen∧cur.size=U.cap * U.k:=by
       rcases hTO with ⟨_,hc⟩ | ⟨hz,_⟩
       ·exact hc
       ·exact absurd hz hUnz
      have hln:(ns.map fun n=>UInt8.ofNat n.toNat).length=len:=by simpa using hlen
      have hk1:k=1:=by rw [hkU,hUk]
      subst hk1
      have hln:ns.length=len:=by simpa using hlen
      have hwf:∀ (j:Nat) (n:Int),ns[j]?=some n→0≤n∧n < 256:=by
       intro j n hj
       have:=(qc1.1 hrr).2 j [.int .u8 n] [.int .u8 n] (by simp [hj]) (by simp [hj])
       cases this with
       | cons _ _ _ _ hv _ =>
        cases hv with
        | int _ _ hwf=>simp [Lit.wf,IntKind.min,IntKind.max,IntKind.signed,IntKind.bits] at hwf; omega
      have hll:(ns.map fun n=>UInt8.ofNat n.toNat).length=len:=by simpa using hln
      refine (Any.Builder_String_at L X b U.blk cap (ns.map fun n=>UInt8.ofNat n.toNat) w u0 #[] cur T fz (by rw [hll,Lib.cell_of_heap hheap]; rfl) (by rw [← hUe]; exact hcur) (by rw [hll]; exact hcap) hm (by rw [hcs,hUk,hcapU,Nat.mul_one]) ?_ ?_).mono ?_
      ·intro j x hj
       rw [List.getElem?_map] at hj
       cases hn:ns[j]? with
       | none=>simp [hn] at hj
       | some n =>
        simp [hn] at hj
        subst hj
        have hb:=hwf j n hn
        obtain ⟨hk,a',ha',hcell⟩:=hrow j [.int .u8 n] (by simp [hn])
        injection ha' with ha'
        subst ha'
        have:=(hcell 0 _ rfl).2
        rw [Nat.mul_one,qmz,Nat.add_zero] at this
        rw [this]
        simp
        omega
      ·intro hnil
       apply h2
       simpa using hnil
      ·rintro e w' ⟨rfl,rfl⟩
       rw [hll]
       have hcur':w.drew.heap[U.blk]?=some (.cells cur U.e fz):=hcur
       obtain ⟨fz',hfz'⟩:=qEA (n:=len) hcur'
       have hrest:=qwa w.drew U.blk len
       have hset:=qyx (T':=⟨U.blk,maxLen+1,U.cap,U.k,U.e⟩) (w':=w.drew.freeze ⟨U.blk,0,none⟩ len) hok hU hU0 hUnz rfl (by show U.ver < maxLen+1; omega) hcm (fun _=>by rw [qvo]; exact Nat.le_succ _) hrest.1 hrest.2.1 hrest.2.2 (by rw [qx6]; exact Nat.le_refl _) (.inl rfl)
        (fun k _ hk=>quY w.drew U.blk len k hk) (fz':=fz') (by intro h; simp at h; omega) hcur hfz' hcs (fun _ off _=>rfl)
       refine ⟨_,rfl,_,hset.1,?_,?_⟩
       ·have:=hset.2
        simpa [hUk,hUe] using this
       ·exact .str (List.map (fun n=>UInt8.ofNat n.toNat) ns) (by simp; omega)
 ·cases hx
end Go.Pv
set_option maxHeartbeats 4000000
set_option maxRecDepth 200000
set_option linter.unusedSimpArgs false
set_option linter.unusedVariables false
namespace Go.Pv
open Go Go.Proofs Go.RowKit
section
variable (b : Nat) (w : World)
theorem qry (h0:w.cell? ⟨b,0,none⟩=some (.pointer (some ⟨b,0,none⟩))):Calls Tryz.prog 138 #[.pointer (some ⟨b,0,none⟩)] w fun e w'=>e=.returned (.tuple #[])∧w'=w:=by
 obtain ⟨j,hj,_⟩:∃ j,Tryz.prog.info? 163=some j∧j.size=2:=⟨_,rfl,rfl⟩
 have mixed:Tryz.prog.follows .mixedOrders=true:=qah
 have t72:=Tryz.underlying163; have a72:=Tryz.isAgg163; have z72:=Tryz.sizeOf163; have v72:=Tryz.zeroValue163; have u72:=run_underlying Tryz.underlying163
 have t70:=Tryz.underlying161; have a70:=Tryz.isAgg161; have z70:=Tryz.sizeOf161; have v70:=Tryz.zeroValue161; have u70:=run_underlying Tryz.underlying161
 have t164:=Tryz.underlying206; have a164:=Tryz.isAgg206; have z164:=Tryz.sizeOf206; have v164:=Tryz.zeroValue206; have u164:=run_underlying Tryz.underlying206
 go_enter Tryz.func138,Tryz.ntmps138
 go_wp2
 rw [Lib.run_neq_ptr_same w _ t70 hj]
 go_wp2
 go_end0
 exact ⟨rfl,rfl⟩
theorem qoZ (h0:w.cell? ⟨b,0,none⟩=some (.pointer none)) (hsh:w.shape? b=some (163,2)) (hfz:w.frozen? ⟨b,0,none⟩=false) :
  Calls Tryz.prog 138 #[.pointer (some ⟨b,0,none⟩)] w fun e w'=>e=.returned (.tuple #[])∧w'=w.setCell ⟨b,0,none⟩ (.pointer (some ⟨b,0,none⟩)):=by
 obtain ⟨j,hj,hjs⟩:∃ j,Tryz.prog.info? 163=some j∧j.size=2:=⟨_,rfl,rfl⟩
 have mixed:Tryz.prog.follows .mixedOrders=true:=qah
 have t72:=Tryz.underlying163; have a72:=Tryz.isAgg163; have z72:=Tryz.sizeOf163; have v72:=Tryz.zeroValue163; have u72:=run_underlying Tryz.underlying163
 have t70:=Tryz.underlying161; have a70:=Tryz.isAgg161; have z70:=Tryz.sizeOf161; have v70:=Tryz.zeroValue161; have u70:=run_underlying Tryz.underlying161
 have t164:=Tryz.underlying206; have a164:=Tryz.isAgg206; have z164:=Tryz.sizeOf206; have v164:=Tryz.zeroValue206; have u164:=run_underlying Tryz.underlying206
 go_enter Tryz.func138,Tryz.ntmps138
 go_wp2
 rw [Lib.run_to_unsafe w ⟨b,0,none⟩ t70 t164 hj (by rw [hjs]; decide) hsh (Nat.zero_lt_succ 1)]
 simp only [Result.andThen]
 rw [Oper.upon_value]
 go_wp2
 rw [run_callFunc_extern Tryz.func152 (by kernel_rfl) (by kernel_rfl) (by kernel_rfl) (e:=Extern.AbiNoEscape.same) (by kernel_rfl)]
 rw [Lib.run_noEscape]
 simp only [Result.andThen]
 rw [Oper.upon_value]
 go_wp2
 rw [Lib.run_from_unsafe w ⟨b,0,none⟩ t164 t70 hj hsh (by kernel_rfl)]
 simp only [Result.andThen]
 rw [Oper.upon_value]
 go_wp2
 go_end0
 exact ⟨rfl,rfl⟩
end
theorem qkX (gl:Gl):SimS Tryz.prog gl 138 fun args σ=>(qfq 163 args σ).run :=
 qnB (by decide) (fun b w=>qoZ b w) (fun b w=>qry b w) ⟨_,Tryz.func138,by rfl,by rfl⟩
theorem sim_String (gl:Gl):SimS Tryz.prog gl 118 fun args σ=>(qnI 5 args σ).run :=
 Any.sim_String Tryz.lays169 Tryz.Builder_Extra_169 ⟨_,Tryz.func118,by rfl,by rfl⟩
def D_WB:List PV→Store→Tr (PV × Store)
 | [.ptr 1 0,.int .u8 c],⟨[o,[.nilp,.sl [] .full]],[],[t0,163]⟩=>.ret (.nili,⟨[o,[.ptr 1 0,.sl [[.int .u8 c]] (.tok 0)]],[(1,1,5)],[t0,163]⟩)
 | [.ptr 1 0,.int .u8 c],⟨[o,[.ptr 1 0,.sl xs (.tok 0)]],[(v,1,5)],[t0,163]⟩=>Tr.chk (qaP xs [[.int .u8 c]] 1) (Tr.chk (qaC xs 1) (Tr.chk (nEq v (nXs xs))
  (.ret (.nili,⟨[o,[.ptr 1 0,.sl (xApp xs [[.int .u8 c]]) (.tok 0)]],[(nXs (xApp xs [[.int .u8 c]]),1,5)],[t0,163]⟩))))
 | _,_=>.fail
theorem qMu (gl:Gl):SimS Tryz.prog gl 115 fun args σ=>(D_WB args σ).run:=by
 refine SimS.of_tree (G:=ofL [(138,.store (qfq 163))]) (L:=fun _ _ _=>.fail) qav (qes (qkX gl) qag) qah Tryz.func115 rfl (by rfl) (by kernel_rfl) (qae (by kernel_rfl)) ?_
 intro args σ x σ' h hr
 unfold D_WB at h
 split at h
 ·rename_i c o t0
  cases h
  refine Tr.run_as (Tr.ite true
   (Tr.ite (qaP [] [[PV.int IntKind.u8 c]] 1)
    (Tr.ite (qaO [[PV.int IntKind.u8 c]] 1)
     (Tr.ite (qaC [] 1) (Tr.ret (PV.nili,Store.mk [o,[PV.ptr 1 0,PV.sl (xApp [] [[PV.int IntKind.u8 c]]) (Tag.tok 0)]] [(nXs (xApp [] [[PV.int IntKind.u8 c]]),1,5)] [t0,163])) Tr.fail)
     Tr.fail)
    Tr.fail)
   Tr.fail) (by kernel_rfl) ?_
  simp [one]
 ·rename_i c o xs v t0
  obtain ⟨h1,q1⟩:=Tr.chk_some h
  obtain ⟨h2,q2⟩:=Tr.chk_some q1
  obtain ⟨h3,q3⟩:=Tr.chk_some q2
  cases q3
  refine Tr.run_as (Tr.ite (qaP xs [[PV.int IntKind.u8 c]] 1)
   (Tr.ite (qaO [[PV.int IntKind.u8 c]] 1)
    (Tr.ite (qaC xs 1)
     (Tr.ite (nEq v (nXs xs)) (Tr.ret (PV.nili,Store.mk [o,[PV.ptr 1 0,PV.sl (xApp xs [[PV.int IntKind.u8 c]]) (Tag.tok 0)]] [(nXs (xApp xs [[PV.int IntKind.u8 c]]),1,5)] [t0,163])) Tr.fail)
     Tr.fail)
    Tr.fail)
   Tr.fail) (by kernel_rfl) ?_
  simp at h1 h2 h3
  simp [h1,h2,h3,one]
 ·cases h
def D_WS:List PV→Store→Tr (PV × Store)
 | [.ptr 1 0,.str l],⟨[o,[.ptr 1 0,.sl xs (.tok 0)]],[(v,1,5)],[t0,163]⟩=>Tr.chk (bNot (xNil (qad l))) (Tr.chk (qaP xs (qad l) 1) (Tr.chk (qaC xs 1) (Tr.chk (nEq v (nXs xs))
  (.ret (.tup [.int .i64 (sLen l),.nili],⟨[o,[.ptr 1 0,.sl (xApp xs (qad l)) (.tok 0)]],[(nXs (xApp xs (qad l)),1,5)],[t0,163]⟩)))))
 | _,_=>.fail
theorem qK2 (gl:Gl):SimS Tryz.prog gl 116 fun args σ=>(D_WS args σ).run:=by
 refine SimS.of_tree (G:=ofL [(138,.store (qfq 163))]) (L:=fun _ _ _=>.fail) qav (qes (qkX gl) qag) qah Tryz.func116 rfl (by rfl) (by kernel_rfl) (qae (by kernel_rfl)) ?_
 intro args σ x σ' h hr
 unfold D_WS at h
 split at h
 ·rename_i l o xs v t0
  obtain ⟨h0,q0⟩:=Tr.chk_some h
  obtain ⟨h1,q1⟩:=Tr.chk_some q0
  obtain ⟨h2,q2⟩:=Tr.chk_some q1
  obtain ⟨h3,q3⟩:=Tr.chk_some q2
  cases q3
  refine Tr.run_as (Tr.ite (qaP xs (qad l) 1)
   (Tr.ite (qaO (qad l) 1)
    (Tr.ite (qaC xs 1)
     (Tr.ite (xNil (qad l)) (Tr.ret (PV.tup [PV.int IntKind.i64 (sLen l),PV.nili],Store.mk [o,[PV.ptr 1 0,PV.sl xs (Tag.tok 0)]] [(v,1,5)] [t0,163]))
      (Tr.ite (nEq v (nXs xs))
       (Tr.ret (PV.tup [PV.int IntKind.i64 (sLen l),PV.nili],Store.mk [o,[PV.ptr 1 0,PV.sl (xApp xs (qad l)) (Tag.tok 0)]] [(nXs (xApp xs (qad l)),1,5)] [t0,163])) Tr.fail))
     Tr.fail)
    Tr.fail)
   Tr.fail) (by kernel_rfl) ?_
  simp at h0 h1 h2 h3
  simp [h0,h1,h2,h3]
 ·cases h
def qeh (k n:Int) (s:List UInt8):List UInt8:=if isV k n s=true then (if k=1 then qEs n else symV s) else []
def qzR:List PV→Tr PV
 | [.agg [.int .i64 k,.int .i64 n,.str s]]=>.ret (.tup [.str (qeh k n s),.int .i64 (qbD k n s)])
 | _=>.fail
def qFq:List PV→Store→Option (Int × Int × List UInt8 × Int × Int)
 | [.ptr 0 0,.ptr 1 0,.int .i64 m,.int .i64 i],⟨[[.int .i64 k,.int .i64 n,.str s],[.ptr 1 0,.sl [[.int .u8 34]] (.tok 0)]],[(1,1,5)],[25,163]⟩=>some (k,n,s,m,i)
 | _,_=>none
def qs5 (k n:Int) (s:List UInt8) (b:List UInt8):Store:=⟨[[.int .i64 k,.int .i64 n,.str s],[.ptr 1 0,.sl (qad b) (.tok 0)]],[(nLen b,1,5)],[25,163]⟩
def qHN:Int × Int × List UInt8 × Int × Int→Tr (PExit × List (Nat × PV) × Store)
 | (k,n,s,m,i)=>Tr.chk (iEq i 0) (Tr.chk (iEq m (sLen s)) (Tr.chk (iLe (sLen s) 256) (.ret (.exit 0,[(1,.ptr 0 0),(5,.ptr 1 0)],⟨[[.int .i64 k,.int .i64 n,.str s],[.ptr 1 0,.sl (qad (symH s)) (.tok 0)]],[(nLen (symH s),1,5)],[25,163]⟩))))
def qIc:LpsT:=fun r fr σ=>if r=9 then oracle 34 [1,5,21,22] qFq qHN fr σ else .fail
noncomputable def qFf:Code:=qE6 Tryz.f75 0
theorem qB0 (gl:Gl):∀ vs σ a e out σ',qFq vs σ=some a→(qHN a).run=some (e,out,σ')→LDoes Tryz.prog gl qFf (mk 34 ([1,5,21,22].zip vs)) σ e (mk 34 out) σ':=by
 intro vs st a e out σ' hd hr
 unfold qFq at hd
 split at hd
 ·rename_i m i k n s
  cases hd
  obtain ⟨h1,h2⟩:=Tr.chk_some hr
  obtain ⟨h3,h4⟩:=Tr.chk_some h2
  obtain ⟨h5,h6⟩:=Tr.chk_some h4
  simp at h1 h3 h5
  subst h1 h3
  clear hr h2 h4
  cases h6
  have hG:qaR Tryz.prog gl (gam (ofL [(117,.pure qJu),(116,.store D_WS)])):=qac (qJ3 gl) (qes (qK2 gl) qag)
  have key:∀ (m:Nat) (i:Int) (b:List UInt8),0≤i→i+m=s.length→b++symB (s.drop i.toNat)=symH s→b.length≤1+4 * i.toNat →
    LDoes Tryz.prog gl qFf (mk 34 ([1,5,21,22].zip [.ptr 0 0,.ptr 1 0,.int .i64 (sLen s),.int .i64 i])) (qs5 k n s b) (.exit 0) (mk 34 [(1,.ptr 0 0),(5,.ptr 1 0)]) (qs5 k n s (symH s)):=by
   intro m
   induction m with
   | zero =>
    intro i b h0 hi hf hb
    have e1:s.drop i.toNat=[]:=by apply List.drop_eq_nil_of_le; omega
    rw [e1] at hf
    simp [symB] at hf
    subst hf
    unfold qs5
    refine LDoes.round qav hG qah (L:=fun _ _ _=>.fail) (qae (by kernel_rfl)) (by kernel_rfl) ?_
    refine Tr.all_as (Tr.ite (iLt i (sLen s))
     (Tr.ite (qaJ s i)
      (Tr.ite (bNot (xNil (qad (oneV (sAt s i)))))
       (Tr.ite (qaP (qad (symH s)) (qad (oneV (sAt s i))) 1)
        (Tr.ite (qaC (qad (symH s)) 1)
         (Tr.ite (nEq (nLen (symH s)) (nXs (qad (symH s))))
          (Tr.ret
           (PExit.normal,[23],
            [PV.top,PV.ptr 0 0,PV.top,PV.top,PV.top,PV.ptr 1 0,PV.int IntKind.i64 i,PV.top,PV.top,PV.top,PV.top,PV.top,PV.top,PV.top,PV.top,PV.top,PV.top,PV.top,PV.top,PV.top,
             PV.top,PV.int IntKind.i64 (sLen s),PV.int IntKind.i64 (iAdd IntKind.i64 i 1),PV.bool true,PV.int IntKind.i64 i,PV.ptr 0 2,PV.str s,PV.int IntKind.i64 i,
             PV.int IntKind.u8 (sAt s i),PV.str (oneV (sAt s i)),PV.tup [PV.int IntKind.i64 (sLen (oneV (sAt s i))),PV.nili],PV.int IntKind.i64 (iAdd IntKind.i64 i 1),PV.top,PV.top],
            Store.mk [[PV.int IntKind.i64 k,PV.int IntKind.i64 n,PV.str s],[PV.ptr 1 0,PV.sl (xApp (qad (symH s)) (qad (oneV (sAt s i)))) (Tag.tok 0)]]
             [(nXs (xApp (qad (symH s)) (qad (oneV (sAt s i)))),1,5)] [25,163]))
          Tr.fail)
         Tr.fail)
        Tr.fail)
       Tr.fail)
      Tr.fail)
     (Tr.ret
      (PExit.exit 0,[23],
       [PV.top,PV.ptr 0 0,PV.top,PV.top,PV.top,PV.ptr 1 0,PV.top,PV.top,PV.top,PV.top,PV.top,PV.top,PV.top,PV.top,PV.top,PV.top,PV.top,PV.top,PV.top,PV.top,PV.top,
        PV.int IntKind.i64 (sLen s),PV.int IntKind.i64 i,PV.bool false,PV.top,PV.top,PV.top,PV.top,PV.top,PV.top,PV.top,PV.top,PV.top,PV.top],
       Store.mk [[PV.int IntKind.i64 k,PV.int IntKind.i64 n,PV.str s],[PV.ptr 1 0,PV.sl (qad (symH s)) (Tag.tok 0)]] [(nLen (symH s),1,5)] [25,163]))) (by kernel_rfl) ?_
    exact Tr.all_f (by simp; omega) ⟨rfl,by simp [Weak,mk,qcr,look],rfl⟩
   | succ m ih =>
    intro i b h0 hi hf hb
    obtain ⟨v,hv⟩:=qe0 (l:=s) (i:=i.toNat) (by omega)
    rw [qbB hv] at hf
    have hone:=qoJ v.toNat
    have e2:(i+1).toNat=i.toNat+1:=by omega
    unfold qs5
    refine LDoes.round qav hG qah (L:=fun _ _ _=>.fail) (qae (by kernel_rfl)) (by kernel_rfl) ?_
    refine Tr.all_as (Tr.ite (iLt i (sLen s))
     (Tr.ite (qaJ s i)
      (Tr.ite (bNot (xNil (qad (oneV (sAt s i)))))
       (Tr.ite (qaP (qad b) (qad (oneV (sAt s i))) 1)
        (Tr.ite (qaC (qad b) 1)
         (Tr.ite (nEq (nLen b) (nXs (qad b)))
          (Tr.ret
           (PExit.normal,[23],
            [PV.top,PV.ptr 0 0,PV.top,PV.top,PV.top,PV.ptr 1 0,PV.int IntKind.i64 i,PV.top,PV.top,PV.top,PV.top,PV.top,PV.top,PV.top,PV.top,PV.top,PV.top,PV.top,PV.top,PV.top,
             PV.top,PV.int IntKind.i64 (sLen s),PV.int IntKind.i64 (iAdd IntKind.i64 i 1),PV.bool true,PV.int IntKind.i64 i,PV.ptr 0 2,PV.str s,PV.int IntKind.i64 i,
             PV.int IntKind.u8 (sAt s i),PV.str (oneV (sAt s i)),PV.tup [PV.int IntKind.i64 (sLen (oneV (sAt s i))),PV.nili],PV.int IntKind.i64 (iAdd IntKind.i64 i 1),PV.top,PV.top],
            Store.mk [[PV.int IntKind.i64 k,PV.int IntKind.i64 n,PV.str s],[PV.ptr 1 0,PV.sl (xApp (qad b) (qad (oneV (sAt s i)))) (Tag.tok 0)]]
             [(nXs (xApp (qad b) (qad (oneV (sAt s i)))),1,5)] [25,163]))
          Tr.fail)
         Tr.fail)
        Tr.fail)
       Tr.fail)
      Tr.fail)
     (Tr.ret
      (PExit.exit 0,[23],
       [PV.top,PV.ptr 0 0,PV.top,PV.top,PV.top,PV.ptr 1 0,PV.top,PV.top,PV.top,PV.top,PV.top,PV.top,PV.top,PV.top,PV.top,PV.top,PV.top,PV.top,PV.top,PV.top,PV.top,
        PV.int IntKind.i64 (sLen s),PV.int IntKind.i64 i,PV.bool false,PV.top,PV.top,PV.top,PV.top,PV.top,PV.top,PV.top,PV.top,PV.top,PV.top],
       Store.mk [[PV.int IntKind.i64 k,PV.int IntKind.i64 n,PV.str s],[PV.ptr 1 0,PV.sl (qad b) (Tag.tok 0)]] [(nLen b,1,5)] [25,163]))) (by kernel_rfl) ?_
    rw [qfW hv,qjm,qd5,qd5]
    refine Tr.all_t (by simp; omega) <| Tr.all_t (qdU h0 hv) <| Tr.all_t (by rw [qmI hone.1]; rfl) <| Tr.all_t (qf8 (by omega)) <| Tr.all_t (qdb _) <| Tr.all_t (by simp) ?_
    refine LDoes.into ?_ (ih (i+1) (b++oneV v.toNat) (by omega) (by omega) (by rw [← hf,e2]; simp [symB]) (by simp; omega))
    simp [Weak,mk,qcr,look,iAdd,qbo (n:=i+1) (by omega)]
  have hz:=key s.length 0 [34] (by omega) (by omega) (by simp [symH]) (by simp)
  exact hz
 ·cases hd
theorem qyM {gl:Gl} (hgl:GlPow gl):SimP Tryz.prog gl 75 fun args=>(qzR args).run:=by
 refine SimP.of_tree (G:=ofL [(113,.pure qxY),(114,.pure qkD),(115,.store D_WB),(118,.store (qnI 5))]) (L:=qIc) qav (qac (qFz gl) (qac (qt2 hgl) (qes (qMu gl) (qes (sim_String gl) qag)))) qah Tryz.func75 rfl (by rfl) (by kernel_rfl) (qgQ (r:=9) (c1:=qFf) (by kernel_rfl) ?_) ?_
 ·intro fr σ e fr' σ' hh
  simp only [lps,qIc,if_true] at hh
  exact qh9 (qB0 gl) fr σ e fr' σ' hh
 intro args x h hr
 unfold qzR at h
 split at h
 ·rename_i k n s
  cases h
  refine Tr.run_as (Tr.ite (iNe (qbD k n s) 0) (Tr.ret (PV.tup [PV.str [],PV.int IntKind.i64 (qbD k n s)]))
    (Tr.ite (iEq k 1) (Tr.ite (iEq 10 10) (Tr.ret (PV.tup [PV.str (qEs n),PV.int IntKind.i64 0])) Tr.fail)
     (Tr.ite (iEq 0 0)
      (Tr.ite (iEq (sLen s) (sLen s))
       (Tr.ite (iLe (sLen s) 256)
        (Tr.ite (qaP (qad (symH s)) [[PV.int IntKind.u8 34]] 1)
         (Tr.ite (qaC (qad (symH s)) 1)
          (Tr.ite (nEq (nLen (symH s)) (nXs (qad (symH s))))
           (Tr.ite (qdu (xApp (qad (symH s)) [[PV.int IntKind.u8 34]]))
            (Tr.ite (bNot (xNil (xApp (qad (symH s)) [[PV.int IntKind.u8 34]])))
             (Tr.ite (nEq (nXs (xApp (qad (symH s)) [[PV.int IntKind.u8 34]])) (nXs (xApp (qad (symH s)) [[PV.int IntKind.u8 34]])))
              (Tr.ite true (Tr.ret (PV.tup [PV.str (qci (xApp (qad (symH s)) [[PV.int IntKind.u8 34]])),PV.int IntKind.i64 0])) Tr.fail) Tr.fail)
             Tr.fail)
            Tr.fail)
           Tr.fail)
          Tr.fail)
         Tr.fail)
        Tr.fail)
       Tr.fail)
      Tr.fail))) (by kernel_rfl) ?_
  rw [qvc]
  cases hI:isV k n s with
  | false=>simp [qeh,hI]
  | true =>
   by_cases hk:k=1
   ·subst hk
    simp [qeh,hI]
   ·have h2:s.length≤256:=by
     unfold isV at hI
     simp at hI
     omega
    have e3:([[PV.int .u8 34]]:List (List PV))=qad [34]:=rfl
    have hs:=qtN s
    have hl:(symH s).length=1+(symB s).length:=by simp [symH]; omega
    have e4:qaP (qad (symH s)) (qad [34]) 1=true:=qf8 (by simp; omega)
    have e5:symV s=symH s++[34]:=by simp [symV,symH]
    have e6:¬ (symH s++[34]=[]):=by simp
    rw [e3]
    simp [qeh,hI,hk,qjm,e4,e5,qd5,-qDZ,-qip]
    exact ⟨by omega,by simp [qad]⟩
 ·cases h
end Go.Pv
set_option maxHeartbeats 4000000
set_option maxRecDepth 200000
set_option linter.unusedSimpArgs false
set_option linter.unusedVariables false
namespace Go.Pv
open Go Go.Proofs Go.RowKit
theorem qem {c k:UInt8} (h:c≠k):iEq (c.toNat:Int) (k.toNat:Int)=false:=by
 simp only [qrW,decide_eq_false_iff_not]
 intro e
 exact h (UInt8.toNat_inj.1 (by omega))
theorem qgX {c k:UInt8} (h:c=k):iEq (c.toNat:Int) (k.toNat:Int)=true:=by
 subst h
 simp
theorem qIX (s:List UInt8) (n:Int):0≤sAt s n∧sAt s n < 256:=by
 have:=(s.getD n.toNat 0).toNat_lt
 simp only [qHy]
 omega
theorem qH1:∀ (l:List UInt8) (c i:Int),0≤i→i+l.length≤16→0≤dv l c i∧dv l c i≤16
 | [],c,i,h,hl=>by simp [dv]
 | b :: l,c,i,h,hl=>by
  have:=qH1 l c (i+1) (by omega) (by simp at hl; omega)
  unfold dv
  split
  ·simp at hl; omega
  ·exact this
theorem qze (c:Int):0≤digV c∧digV c≤16:=qH1 hexL c 0 (by omega) (by decide)
theorem qFZ {a b:Int} (ha:0≤a∧a≤16) (hb:0≤b∧b≤16):0≤iOr .u8 (iShl .u8 a 4) b∧iOr .u8 (iShl .u8 a 4) b < 256:=by
 have key:∀ (x y:Fin 17),0≤iOr .u8 (iShl .u8 (x.val:Int) 4) (y.val:Int)∧iOr .u8 (iShl .u8 (x.val:Int) 4) (y.val:Int) < 256:=by decide +kernel
 have:=key ⟨a.toNat,by omega⟩ ⟨b.toNat,by omega⟩
 have e1:((a.toNat:Nat):Int)=a:=by omega
 have e2:((b.toNat:Nat):Int)=b:=by omega
 rwa [e1,e2] at this
theorem qzc (s:List UInt8):0≤escB s∧escB s < 256:=by
 have h1:=qIX s 0
 have h2:=qFZ (qze (sAt s 1)) (qze (sAt s 2))
 unfold escB
 repeat' split
 all_goals first | exact h1 | exact h2 | omega
theorem qy2 (s:List UInt8):0≤escN s∧escN s≤s.length:=by
 unfold escN
 by_cases h:s=[]
 ·simp [h]
 ·have:=List.length_pos_iff.2 h
  repeat' split
  all_goals omega
def decP (s:List UInt8):Option (List UInt8):=match s with
 | []=>some []
 | c :: t=>if c=92 then (if escN t=0 then none else (decP (t.drop (escN t).toNat)).map (UInt8.ofNat (escB t).toNat :: ·)) else (decP t).map (c :: ·)
 termination_by s.length
 decreasing_by all_goals (simp; try omega)
def qrc (s:List UInt8):Bool:=(decP s).isSome
def decV (s:List UInt8):List UInt8:=(decP s).getD []
def decL (s:List UInt8):Nat:=match s with
 | []=>0
 | c :: t=>if c=92 then (if escN t=0 then 0 else decL (t.drop (escN t).toNat)+1) else decL t+1
 termination_by s.length
 decreasing_by all_goals (simp; try omega)
def badL (s:List UInt8):Nat:=decL s
def qsy:List PV→Tr PV
 | [.str s]=>Tr.chk (qkC s) (.ite (qrc s) (.ret (.tup [.sl (qad (decV s)) .non,.bool true])) (.ret (.tup [.sl [] .non,.bool false])))
 | _=>.fail
def quf:List PV→Store→Option (List UInt8)
 | [.str s,.sl [] .full],⟨[],[],[]⟩=>some s
 | _,_=>none
def qy4:List UInt8→Tr (PExit × List (Nat × PV) × Store)
 | s=>Tr.chk (qkC s) (.ite (qrc s) (.ite (sEq (decV s) []) (.ret (.exit 0,[(4,.sl [] .full)],⟨[],[],[]⟩)) (.ret (.exit 0,[(4,.sl (qad (decV s)) (.tok 0))],⟨[],[(nLen (decV s),1,5)],[]⟩))) (.ite (nEq (badL s) 0) (.ret (.ret,[(2,.sl [] .full),(3,.bool false)],⟨[],[],[]⟩)) (.ret (.ret,[(2,.sl [] .full),(3,.bool false)],⟨[],[(badL s,1,5)],[]⟩))))
def qzH:LpsT:=fun r fr σ=>if r=2 then oracle 32 [0,4] quf qy4 fr σ else .fail
noncomputable def qnN:Code:=qE6 Tryz.f175 0
theorem qvT (gl : Gl) : ∀ vs σ a e out σ', quf vs σ = some a → (qy4 a).run = some (e, out, σ') → LDoes Tryz.prog gl qnN (mk 32 ([0, 4].zip vs)) σ e (mk 32 out) σ' := by
  intro vs st a e out σ' hd hr
  unfold quf at hd
  split at hd
  · rename_i s
    injection hd with hd
    subst hd
    obtain ⟨hlen, hr⟩ := Tr.chk_some hr
    simp at hlen
    have hG : qaR Tryz.prog gl (gam (ofL [(178, .pure qnF)])) := qac (qr1 gl) qag
    have key : ∀ (k : Nat) (b s : List UInt8), s.length ≤ k → b ≠ [] → b.length + s.length ≤ 140737488355328 →
       (match decP s with
        | some x => (PExit.exit 0, [(4, PV.sl (qad (b ++ x)) (.tok 0))], (⟨[], [(nLen (b ++ x), 1, 5)], []⟩ : Store))
        | none => (.ret, [(2, .sl [] .full), (3, .bool false)], ⟨[], [(b.length + decL s, 1, 5)], []⟩)) = (e, out, σ') →
       LDoes Tryz.prog gl qnN (mk 32 ([0, 4].zip [.str s, .sl (qad b) (.tok 0)])) ⟨[], [(nLen b, 1, 5)], []⟩ e (mk 32 out) σ' := by
      intro k
      have base : ∀ (b : List UInt8), b ≠ [] → (PExit.exit 0, [(4, PV.sl (qad b) (.tok 0))], (⟨[], [(nLen b, 1, 5)], []⟩ : Store)) = (e, out, σ') →
         LDoes Tryz.prog gl qnN (mk 32 ([0, 4].zip [.str [], .sl (qad b) (.tok 0)])) ⟨[], [(nLen b, 1, 5)], []⟩ e (mk 32 out) σ' := by
        intro b hb h
        cases h
        refine LDoes.round qav hG qah (L := fun _ _ _ => .fail) (qae (by kernel_rfl)) (by kernel_rfl) ?_
        refine Tr.all_as (Tr.ite (sNe [] [])
            (Tr.ite (qaJ [] 0)
              (Tr.ite (qaI (qaw 1) true (nNat 1) (nLen []) (nLen []))
                (Tr.ite (iEq (sAt [] 0) 92)
                  (Tr.ite (iEq (escN (sSub [] (nNat 1) (nLen []))) 0)
                    (Tr.ret
                      (PExit.ret, [3, 2, 22, 15, 9],
                        [PV.str (sSub [] (nNat 1) (nLen [])), PV.top, PV.sl [] Tag.full, PV.bool false, PV.sl (qad b) (Tag.tok 0), PV.int IntKind.u8 (sAt [] 0),
                          PV.int IntKind.u8 (escB (sSub [] (nNat 1) (nLen []))), PV.int IntKind.i64 (escN (sSub [] (nNat 1) (nLen []))), PV.str [], PV.bool true, PV.str [], PV.int IntKind.u8 (sAt [] 0),
                          PV.str [], PV.str (sSub [] (nNat 1) (nLen [])), PV.int IntKind.u8 (sAt [] 0), PV.bool true,
                          PV.tup [PV.int IntKind.u8 (escB (sSub [] (nNat 1) (nLen []))), PV.int IntKind.i64 (escN (sSub [] (nNat 1) (nLen [])))], PV.str (sSub [] (nNat 1) (nLen [])),
                          PV.tup [PV.int IntKind.u8 (escB (sSub [] (nNat 1) (nLen []))), PV.int IntKind.i64 (escN (sSub [] (nNat 1) (nLen [])))], PV.int IntKind.u8 (escB (sSub [] (nNat 1) (nLen []))),
                          PV.int IntKind.i64 (escN (sSub [] (nNat 1) (nLen []))), PV.int IntKind.i64 (escN (sSub [] (nNat 1) (nLen []))), PV.bool true, PV.top, PV.top, PV.top, PV.top, PV.top, PV.top, PV.top,
                          PV.top, PV.top],
                        Store.mk [] [(nLen b, 1, 5)] []))
                    (Tr.ite (qaI (qaw (escN (sSub [] (nNat 1) (nLen [])))) true (nNat (escN (sSub [] (nNat 1) (nLen [])))) (nLen (sSub [] (nNat 1) (nLen []))) (nLen (sSub [] (nNat 1) (nLen []))))
                      (Tr.ite (qaP (qad b) [[PV.int IntKind.u8 (escB (sSub [] (nNat 1) (nLen [])))]] 1)
                        (Tr.ite (qaO [[PV.int IntKind.u8 (escB (sSub [] (nNat 1) (nLen [])))]] 1)
                          (Tr.ite (qaC (qad b) 1)
                            (Tr.ite (nEq (nLen b) (nXs (qad b)))
                              (Tr.ret
                                (PExit.normal, [29, 22, 15, 9],
                                  [PV.str (sSub (sSub [] (nNat 1) (nLen [])) (nNat (escN (sSub [] (nNat 1) (nLen [])))) (nLen (sSub [] (nNat 1) (nLen [])))), PV.top, PV.top, PV.top,
                                    PV.sl (xApp (qad b) [[PV.int IntKind.u8 (escB (sSub [] (nNat 1) (nLen [])))]]) (Tag.tok 0), PV.int IntKind.u8 (escB (sSub [] (nNat 1) (nLen []))),
                                    PV.int IntKind.u8 (escB (sSub [] (nNat 1) (nLen []))), PV.int IntKind.i64 (escN (sSub [] (nNat 1) (nLen []))), PV.str [], PV.bool true, PV.str [],
                                    PV.int IntKind.u8 (sAt [] 0), PV.str [], PV.str (sSub [] (nNat 1) (nLen [])), PV.int IntKind.u8 (sAt [] 0), PV.bool true,
                                    PV.tup [PV.int IntKind.u8 (escB (sSub [] (nNat 1) (nLen []))), PV.int IntKind.i64 (escN (sSub [] (nNat 1) (nLen [])))], PV.str (sSub [] (nNat 1) (nLen [])),
                                    PV.tup [PV.int IntKind.u8 (escB (sSub [] (nNat 1) (nLen []))), PV.int IntKind.i64 (escN (sSub [] (nNat 1) (nLen [])))], PV.int IntKind.u8 (escB (sSub [] (nNat 1) (nLen []))),
                                    PV.int IntKind.i64 (escN (sSub [] (nNat 1) (nLen []))), PV.int IntKind.i64 (escN (sSub [] (nNat 1) (nLen []))), PV.bool false,
                                    PV.int IntKind.u8 (escB (sSub [] (nNat 1) (nLen []))), PV.str (sSub [] (nNat 1) (nLen [])), PV.int IntKind.i64 (escN (sSub [] (nNat 1) (nLen []))),
                                    PV.str (sSub (sSub [] (nNat 1) (nLen [])) (nNat (escN (sSub [] (nNat 1) (nLen [])))) (nLen (sSub [] (nNat 1) (nLen [])))), PV.sl (qad b) (Tag.tok 0),
                                    PV.int IntKind.u8 (escB (sSub [] (nNat 1) (nLen []))), PV.sl [[PV.int IntKind.u8 (escB (sSub [] (nNat 1) (nLen [])))]] Tag.full,
                                    PV.sl (xApp (qad b) [[PV.int IntKind.u8 (escB (sSub [] (nNat 1) (nLen [])))]]) (Tag.tok 0), PV.top],
                                  Store.mk [] [(nXs (xApp (qad b) [[PV.int IntKind.u8 (escB (sSub [] (nNat 1) (nLen [])))]]), 1, 5)] []))
                              Tr.fail)
                            Tr.fail)
                          Tr.fail)
                        Tr.fail)
                      Tr.fail))
                  (Tr.ite (qaP (qad b) [[PV.int IntKind.u8 (sAt [] 0)]] 1)
                    (Tr.ite (qaO [[PV.int IntKind.u8 (sAt [] 0)]] 1)
                      (Tr.ite (qaC (qad b) 1)
                        (Tr.ite (nEq (nLen b) (nXs (qad b)))
                          (Tr.ret
                            (PExit.normal, [29, 15, 9],
                              [PV.str (sSub [] (nNat 1) (nLen [])), PV.top, PV.top, PV.top, PV.sl (xApp (qad b) [[PV.int IntKind.u8 (sAt [] 0)]]) (Tag.tok 0), PV.int IntKind.u8 (sAt [] 0), PV.top, PV.top,
                                PV.str [], PV.bool true, PV.str [], PV.int IntKind.u8 (sAt [] 0), PV.str [], PV.str (sSub [] (nNat 1) (nLen [])), PV.int IntKind.u8 (sAt [] 0), PV.bool false, PV.top, PV.top,
                                PV.top, PV.top, PV.top, PV.top, PV.top, PV.top, PV.top, PV.top, PV.top, PV.sl (qad b) (Tag.tok 0), PV.int IntKind.u8 (sAt [] 0),
                                PV.sl [[PV.int IntKind.u8 (sAt [] 0)]] Tag.full, PV.sl (xApp (qad b) [[PV.int IntKind.u8 (sAt [] 0)]]) (Tag.tok 0), PV.top],
                              Store.mk [] [(nXs (xApp (qad b) [[PV.int IntKind.u8 (sAt [] 0)]]), 1, 5)] []))
                          Tr.fail)
                        Tr.fail)
                      Tr.fail)
                    Tr.fail))
                Tr.fail)
              Tr.fail)
            (Tr.ret
              (PExit.exit 0, [9],
                [PV.str [], PV.top, PV.top, PV.top, PV.sl (qad b) (Tag.tok 0), PV.top, PV.top, PV.top, PV.str [], PV.bool false, PV.top, PV.top, PV.top, PV.top, PV.top, PV.top, PV.top, PV.top, PV.top,
                  PV.top, PV.top, PV.top, PV.top, PV.top, PV.top, PV.top, PV.top, PV.top, PV.top, PV.top, PV.top, PV.top],
                Store.mk [] [(nLen b, 1, 5)] []))) (by kernel_rfl) ?_
        exact ⟨fun h => by simp at h, fun h => ⟨rfl, by simp [Weak, mk, qcr, look], rfl⟩⟩
      induction k with
      | zero =>
        intro b s hk hb hbs h
        have : s = [] := by apply List.eq_nil_of_length_eq_zero; omega
        subst this
        simp [decP] at h
        exact base b hb (by simpa using h)
      | succ k ih =>
        intro b s hk hb hbs h
        cases s with
        | nil =>
          simp [decP] at h
          exact base b hb (by simpa using h)
        | cons c t =>
          have e0 : sAt (c :: t) 0 = c.toNat := by simp
          have e1 : sSub (c :: t) (nNat 1) (nLen (c :: t)) = t := by simp
          have hc := c.toNat_lt
          have e7 := qy2 t
          have e8 := qzc t
          simp at hk hbs
          rw [decP, decL] at h
          refine LDoes.round qav hG qah (L := fun _ _ _ => .fail) (qae (by kernel_rfl)) (by kernel_rfl) ?_
          refine Tr.all_as (Tr.ite (sNe (c :: t) [])
              (Tr.ite (qaJ (c :: t) 0)
                (Tr.ite (qaI (qaw 1) true (nNat 1) (nLen (c :: t)) (nLen (c :: t)))
                  (Tr.ite (iEq (sAt (c :: t) 0) 92)
                    (Tr.ite (iEq (escN (sSub (c :: t) (nNat 1) (nLen (c :: t)))) 0)
                      (Tr.ret
                        (PExit.ret, [3, 2, 22, 15, 9],
                          [PV.str (sSub (c :: t) (nNat 1) (nLen (c :: t))), PV.top, PV.sl [] Tag.full, PV.bool false, PV.sl (qad b) (Tag.tok 0), PV.int IntKind.u8 (sAt (c :: t) 0),
                            PV.int IntKind.u8 (escB (sSub (c :: t) (nNat 1) (nLen (c :: t)))), PV.int IntKind.i64 (escN (sSub (c :: t) (nNat 1) (nLen (c :: t)))), PV.str (c :: t), PV.bool true, PV.str (c :: t),
                            PV.int IntKind.u8 (sAt (c :: t) 0), PV.str (c :: t), PV.str (sSub (c :: t) (nNat 1) (nLen (c :: t))), PV.int IntKind.u8 (sAt (c :: t) 0), PV.bool true,
                            PV.tup [PV.int IntKind.u8 (escB (sSub (c :: t) (nNat 1) (nLen (c :: t)))), PV.int IntKind.i64 (escN (sSub (c :: t) (nNat 1) (nLen (c :: t))))],
                            PV.str (sSub (c :: t) (nNat 1) (nLen (c :: t))),
                            PV.tup [PV.int IntKind.u8 (escB (sSub (c :: t) (nNat 1) (nLen (c :: t)))), PV.int IntKind.i64 (escN (sSub (c :: t) (nNat 1) (nLen (c :: t))))],
                            PV.int IntKind.u8 (escB (sSub (c :: t) (nNat 1) (nLen (c :: t)))), PV.int IntKind.i64 (escN (sSub (c :: t) (nNat 1) (nLen (c :: t)))),
                            PV.int IntKind.i64 (escN (sSub (c :: t) (nNat 1) (nLen (c :: t)))), PV.bool true, PV.top, PV.top, PV.top, PV.top, PV.top, PV.top, PV.top, PV.top, PV.top],
                          Store.mk [] [(nLen b, 1, 5)] []))
                      (Tr.ite
                        (qaI (qaw (escN (sSub (c :: t) (nNat 1) (nLen (c :: t))))) true (nNat (escN (sSub (c :: t) (nNat 1) (nLen (c :: t))))) (nLen (sSub (c :: t) (nNat 1) (nLen (c :: t))))
                          (nLen (sSub (c :: t) (nNat 1) (nLen (c :: t)))))
                        (Tr.ite (qaP (qad b) [[PV.int IntKind.u8 (escB (sSub (c :: t) (nNat 1) (nLen (c :: t))))]] 1)
                          (Tr.ite (qaO [[PV.int IntKind.u8 (escB (sSub (c :: t) (nNat 1) (nLen (c :: t))))]] 1)
                            (Tr.ite (qaC (qad b) 1)
                              (Tr.ite (nEq (nLen b) (nXs (qad b)))
                                (Tr.ret
                                  (PExit.normal, [29, 22, 15, 9],
                                    [PV.str (sSub (sSub (c :: t) (nNat 1) (nLen (c :: t))) (nNat (escN (sSub (c :: t) (nNat 1) (nLen (c :: t))))) (nLen (sSub (c :: t) (nNat 1) (nLen (c :: t))))), PV.top, PV.top,
                                      PV.top, PV.sl (xApp (qad b) [[PV.int IntKind.u8 (escB (sSub (c :: t) (nNat 1) (nLen (c :: t))))]]) (Tag.tok 0),
                                      PV.int IntKind.u8 (escB (sSub (c :: t) (nNat 1) (nLen (c :: t)))), PV.int IntKind.u8 (escB (sSub (c :: t) (nNat 1) (nLen (c :: t)))),
                                      PV.int IntKind.i64 (escN (sSub (c :: t) (nNat 1) (nLen (c :: t)))), PV.str (c :: t), PV.bool true, PV.str (c :: t), PV.int IntKind.u8 (sAt (c :: t) 0), PV.str (c :: t),
                                      PV.str (sSub (c :: t) (nNat 1) (nLen (c :: t))), PV.int IntKind.u8 (sAt (c :: t) 0), PV.bool true,
                                      PV.tup [PV.int IntKind.u8 (escB (sSub (c :: t) (nNat 1) (nLen (c :: t)))), PV.int IntKind.i64 (escN (sSub (c :: t) (nNat 1) (nLen (c :: t))))],
                                      PV.str (sSub (c :: t) (nNat 1) (nLen (c :: t))),
                                      PV.tup [PV.int IntKind.u8 (escB (sSub (c :: t) (nNat 1) (nLen (c :: t)))), PV.int IntKind.i64 (escN (sSub (c :: t) (nNat 1) (nLen (c :: t))))],
                                      PV.int IntKind.u8 (escB (sSub (c :: t) (nNat 1) (nLen (c :: t)))), PV.int IntKind.i64 (escN (sSub (c :: t) (nNat 1) (nLen (c :: t)))),
                                      PV.int IntKind.i64 (escN (sSub (c :: t) (nNat 1) (nLen (c :: t)))), PV.bool false, PV.int IntKind.u8 (escB (sSub (c :: t) (nNat 1) (nLen (c :: t)))),
                                      PV.str (sSub (c :: t) (nNat 1) (nLen (c :: t))), PV.int IntKind.i64 (escN (sSub (c :: t) (nNat 1) (nLen (c :: t)))),
                                      PV.str (sSub (sSub (c :: t) (nNat 1) (nLen (c :: t))) (nNat (escN (sSub (c :: t) (nNat 1) (nLen (c :: t))))) (nLen (sSub (c :: t) (nNat 1) (nLen (c :: t))))),
                                      PV.sl (qad b) (Tag.tok 0), PV.int IntKind.u8 (escB (sSub (c :: t) (nNat 1) (nLen (c :: t)))),
                                      PV.sl [[PV.int IntKind.u8 (escB (sSub (c :: t) (nNat 1) (nLen (c :: t))))]] Tag.full,
                                      PV.sl (xApp (qad b) [[PV.int IntKind.u8 (escB (sSub (c :: t) (nNat 1) (nLen (c :: t))))]]) (Tag.tok 0), PV.top],
                                    Store.mk [] [(nXs (xApp (qad b) [[PV.int IntKind.u8 (escB (sSub (c :: t) (nNat 1) (nLen (c :: t))))]]), 1, 5)] []))
                                Tr.fail)
                              Tr.fail)
                            Tr.fail)
                          Tr.fail)
                        Tr.fail))
                    (Tr.ite (qaP (qad b) [[PV.int IntKind.u8 (sAt (c :: t) 0)]] 1)
                      (Tr.ite (qaO [[PV.int IntKind.u8 (sAt (c :: t) 0)]] 1)
                        (Tr.ite (qaC (qad b) 1)
                          (Tr.ite (nEq (nLen b) (nXs (qad b)))
                            (Tr.ret
                              (PExit.normal, [29, 15, 9],
                                [PV.str (sSub (c :: t) (nNat 1) (nLen (c :: t))), PV.top, PV.top, PV.top, PV.sl (xApp (qad b) [[PV.int IntKind.u8 (sAt (c :: t) 0)]]) (Tag.tok 0),
                                  PV.int IntKind.u8 (sAt (c :: t) 0), PV.top, PV.top, PV.str (c :: t), PV.bool true, PV.str (c :: t), PV.int IntKind.u8 (sAt (c :: t) 0), PV.str (c :: t),
                                  PV.str (sSub (c :: t) (nNat 1) (nLen (c :: t))), PV.int IntKind.u8 (sAt (c :: t) 0), PV.bool false, PV.top, PV.top, PV.top, PV.top, PV.top, PV.top, PV.top, PV.top, PV.top,
                                  PV.top, PV.top, PV.sl (qad b) (Tag.tok 0), PV.int IntKind.u8 (sAt (c :: t) 0), PV.sl [[PV.int IntKind.u8 (sAt (c :: t) 0)]] Tag.full,
                                  PV.sl (xApp (qad b) [[PV.int IntKind.u8 (sAt (c :: t) 0)]]) (Tag.tok 0), PV.top],
                                Store.mk [] [(nXs (xApp (qad b) [[PV.int IntKind.u8 (sAt (c :: t) 0)]]), 1, 5)] []))
                            Tr.fail)
                          Tr.fail)
                        Tr.fail)
                      Tr.fail))
                  Tr.fail)
                Tr.fail)
              (Tr.ret
                (PExit.exit 0, [9],
                  [PV.str (c :: t), PV.top, PV.top, PV.top, PV.sl (qad b) (Tag.tok 0), PV.top, PV.top, PV.top, PV.str (c :: t), PV.bool false, PV.top, PV.top, PV.top, PV.top, PV.top, PV.top, PV.top, PV.top,
                    PV.top, PV.top, PV.top, PV.top, PV.top, PV.top, PV.top, PV.top, PV.top, PV.top, PV.top, PV.top, PV.top, PV.top],
                  Store.mk [] [(nLen b, 1, 5)] []))) (by kernel_rfl) ?_
          rw [e1, e0, qhZ b (n := (c.toNat : Int)) (by omega), qhZ b e8, Int.toNat_natCast, UInt8.ofNat_toNat]
          simp only [qd5]
          refine Tr.all_t (by simp) <| Tr.all_t (by simp) <| Tr.all_t (by simp) ?_
          by_cases h92 : c = 92
          · subst h92
            refine Tr.all_t (by simp) ?_
            by_cases hn : escN t = 0
            · simp [hn] at h
              obtain ⟨rfl, rfl, rfl⟩ := h
              exact Tr.all_t (by simp [hn]) ⟨rfl, by simp [Weak, mk, qcr, look], rfl⟩
            · refine Tr.all_f (by simp [hn]) <| Tr.all_t (by simp; omega) <| Tr.all_t (by simp; omega) <| Tr.all_t (by simp [one]) <| Tr.all_t (qdb _) <| Tr.all_t (by simp) ?_
              refine LDoes.into ?_ (ih (b ++ [UInt8.ofNat (escB t).toNat]) (t.drop (escN t).toNat) (by simp; omega) (by simp) (by simp; omega) ?_)
              · simp [Weak, mk, qcr, look]
              · simp [hn] at h
                rw [← h]
                cases hd : decP (t.drop (escN t).toNat) with
                | none => simp; omega
                | some x => simp
          · refine Tr.all_f (qem (k := 92) h92) <| Tr.all_t (by simp; omega) <| Tr.all_t (by simp [one]) <| Tr.all_t (qdb _) <| Tr.all_t (by simp) ?_
            refine LDoes.into ?_ (ih (b ++ [c]) t (by omega) (by simp) (by simp; omega) ?_)
            · simp [Weak, mk, qcr, look]
            · simp [h92] at h
              rw [← h]
              cases hd : decP t with
              | none => simp; omega
              | some x => simp
    cases s with
    | nil =>
      simp [qrc, decV, decP] at hr
      obtain ⟨rfl, rfl, rfl⟩ := hr
      refine LDoes.round qav hG qah (L := fun _ _ _ => .fail) (qae (by kernel_rfl)) (by kernel_rfl) ?_
      refine Tr.all_as (Tr.ite (sNe [] [])
          (Tr.ite (qaJ [] 0)
            (Tr.ite (qaI (qaw 1) true (nNat 1) (nLen []) (nLen []))
              (Tr.ite (iEq (sAt [] 0) 92)
                (Tr.ite (iEq (escN (sSub [] (nNat 1) (nLen []))) 0)
                  (Tr.ret
                    (PExit.ret, [3, 2, 22, 15, 9],
                      [PV.str (sSub [] (nNat 1) (nLen [])), PV.top, PV.sl [] Tag.full, PV.bool false, PV.sl [] Tag.full, PV.int IntKind.u8 (sAt [] 0), PV.int IntKind.u8 (escB (sSub [] (nNat 1) (nLen []))),
                        PV.int IntKind.i64 (escN (sSub [] (nNat 1) (nLen []))), PV.str [], PV.bool true, PV.str [], PV.int IntKind.u8 (sAt [] 0), PV.str [], PV.str (sSub [] (nNat 1) (nLen [])),
                        PV.int IntKind.u8 (sAt [] 0), PV.bool true, PV.tup [PV.int IntKind.u8 (escB (sSub [] (nNat 1) (nLen []))), PV.int IntKind.i64 (escN (sSub [] (nNat 1) (nLen [])))],
                        PV.str (sSub [] (nNat 1) (nLen [])), PV.tup [PV.int IntKind.u8 (escB (sSub [] (nNat 1) (nLen []))), PV.int IntKind.i64 (escN (sSub [] (nNat 1) (nLen [])))],
                        PV.int IntKind.u8 (escB (sSub [] (nNat 1) (nLen []))), PV.int IntKind.i64 (escN (sSub [] (nNat 1) (nLen []))), PV.int IntKind.i64 (escN (sSub [] (nNat 1) (nLen []))), PV.bool true,
                        PV.top, PV.top, PV.top, PV.top, PV.top, PV.top, PV.top, PV.top, PV.top],
                      Store.mk [] [] []))
                  (Tr.ite (qaI (qaw (escN (sSub [] (nNat 1) (nLen [])))) true (nNat (escN (sSub [] (nNat 1) (nLen [])))) (nLen (sSub [] (nNat 1) (nLen []))) (nLen (sSub [] (nNat 1) (nLen []))))
                    (Tr.ite (qaP [] [[PV.int IntKind.u8 (escB (sSub [] (nNat 1) (nLen [])))]] 1)
                      (Tr.ite (qaO [[PV.int IntKind.u8 (escB (sSub [] (nNat 1) (nLen [])))]] 1)
                        (Tr.ite (qaC [] 1)
                          (Tr.ret
                            (PExit.normal, [29, 22, 15, 9],
                              [PV.str (sSub (sSub [] (nNat 1) (nLen [])) (nNat (escN (sSub [] (nNat 1) (nLen [])))) (nLen (sSub [] (nNat 1) (nLen [])))), PV.top, PV.top, PV.top,
                                PV.sl (xApp [] [[PV.int IntKind.u8 (escB (sSub [] (nNat 1) (nLen [])))]]) (Tag.tok 0), PV.int IntKind.u8 (escB (sSub [] (nNat 1) (nLen []))),
                                PV.int IntKind.u8 (escB (sSub [] (nNat 1) (nLen []))), PV.int IntKind.i64 (escN (sSub [] (nNat 1) (nLen []))), PV.str [], PV.bool true, PV.str [], PV.int IntKind.u8 (sAt [] 0),
                                PV.str [], PV.str (sSub [] (nNat 1) (nLen [])), PV.int IntKind.u8 (sAt [] 0), PV.bool true,
                                PV.tup [PV.int IntKind.u8 (escB (sSub [] (nNat 1) (nLen []))), PV.int IntKind.i64 (escN (sSub [] (nNat 1) (nLen [])))], PV.str (sSub [] (nNat 1) (nLen [])),
                                PV.tup [PV.int IntKind.u8 (escB (sSub [] (nNat 1) (nLen []))), PV.int IntKind.i64 (escN (sSub [] (nNat 1) (nLen [])))], PV.int IntKind.u8 (escB (sSub [] (nNat 1) (nLen []))),
                                PV.int IntKind.i64 (escN (sSub [] (nNat 1) (nLen []))), PV.int IntKind.i64 (escN (sSub [] (nNat 1) (nLen []))), PV.bool false,
                                PV.int IntKind.u8 (escB (sSub [] (nNat 1) (nLen []))), PV.str (sSub [] (nNat 1) (nLen [])), PV.int IntKind.i64 (escN (sSub [] (nNat 1) (nLen []))),
                                PV.str (sSub (sSub [] (nNat 1) (nLen [])) (nNat (escN (sSub [] (nNat 1) (nLen [])))) (nLen (sSub [] (nNat 1) (nLen [])))), PV.sl [] Tag.full,
                                PV.int IntKind.u8 (escB (sSub [] (nNat 1) (nLen []))), PV.sl [[PV.int IntKind.u8 (escB (sSub [] (nNat 1) (nLen [])))]] Tag.full,
                                PV.sl (xApp [] [[PV.int IntKind.u8 (escB (sSub [] (nNat 1) (nLen [])))]]) (Tag.tok 0), PV.top],
                              Store.mk [] [(nXs (xApp [] [[PV.int IntKind.u8 (escB (sSub [] (nNat 1) (nLen [])))]]), 1, 5)] []))
                          Tr.fail)
                        Tr.fail)
                      Tr.fail)
                    Tr.fail))
                (Tr.ite (qaP [] [[PV.int IntKind.u8 (sAt [] 0)]] 1)
                  (Tr.ite (qaO [[PV.int IntKind.u8 (sAt [] 0)]] 1)
                    (Tr.ite (qaC [] 1)
                      (Tr.ret
                        (PExit.normal, [29, 15, 9],
                          [PV.str (sSub [] (nNat 1) (nLen [])), PV.top, PV.top, PV.top, PV.sl (xApp [] [[PV.int IntKind.u8 (sAt [] 0)]]) (Tag.tok 0), PV.int IntKind.u8 (sAt [] 0), PV.top, PV.top, PV.str [],
                            PV.bool true, PV.str [], PV.int IntKind.u8 (sAt [] 0), PV.str [], PV.str (sSub [] (nNat 1) (nLen [])), PV.int IntKind.u8 (sAt [] 0), PV.bool false, PV.top, PV.top, PV.top, PV.top,
                            PV.top, PV.top, PV.top, PV.top, PV.top, PV.top, PV.top, PV.sl [] Tag.full, PV.int IntKind.u8 (sAt [] 0), PV.sl [[PV.int IntKind.u8 (sAt [] 0)]] Tag.full,
                            PV.sl (xApp [] [[PV.int IntKind.u8 (sAt [] 0)]]) (Tag.tok 0), PV.top],
                          Store.mk [] [(nXs (xApp [] [[PV.int IntKind.u8 (sAt [] 0)]]), 1, 5)] []))
                      Tr.fail)
                    Tr.fail)
                  Tr.fail))
              Tr.fail)
            Tr.fail)
          (Tr.ret
            (PExit.exit 0, [9],
              [PV.str [], PV.top, PV.top, PV.top, PV.sl [] Tag.full, PV.top, PV.top, PV.top, PV.str [], PV.bool false, PV.top, PV.top, PV.top, PV.top, PV.top, PV.top, PV.top, PV.top, PV.top, PV.top, PV.top,
                PV.top, PV.top, PV.top, PV.top, PV.top, PV.top, PV.top, PV.top, PV.top, PV.top, PV.top],
              Store.mk [] [] []))) (by kernel_rfl) ?_
      exact ⟨fun h => by simp at h, fun h => ⟨rfl, by simp [Weak, mk, qcr, look], rfl⟩⟩
    | cons c t =>
      have e0 : sAt (c :: t) 0 = c.toNat := by simp
      have e1 : sSub (c :: t) (nNat 1) (nLen (c :: t)) = t := by simp
      have hc := c.toNat_lt
      have e7 := qy2 t
      have e8 := qzc t
      simp at hlen
      simp only [qrc, decV, badL] at hr
      rw [decP, decL] at hr
      have x1 : xApp [] [[.int .u8 (c.toNat : Int)]] = qad [c] := by simp [qad]
      have x2 : xApp [] [[.int .u8 (escB t)]] = qad [UInt8.ofNat (escB t).toNat] := qhZ [] e8
      refine LDoes.round qav hG qah (L := fun _ _ _ => .fail) (qae (by kernel_rfl)) (by kernel_rfl) ?_
      refine Tr.all_as (Tr.ite (sNe (c :: t) [])
          (Tr.ite (qaJ (c :: t) 0)
            (Tr.ite (qaI (qaw 1) true (nNat 1) (nLen (c :: t)) (nLen (c :: t)))
              (Tr.ite (iEq (sAt (c :: t) 0) 92)
                (Tr.ite (iEq (escN (sSub (c :: t) (nNat 1) (nLen (c :: t)))) 0)
                  (Tr.ret
                    (PExit.ret, [3, 2, 22, 15, 9],
                      [PV.str (sSub (c :: t) (nNat 1) (nLen (c :: t))), PV.top, PV.sl [] Tag.full, PV.bool false, PV.sl [] Tag.full, PV.int IntKind.u8 (sAt (c :: t) 0),
                        PV.int IntKind.u8 (escB (sSub (c :: t) (nNat 1) (nLen (c :: t)))), PV.int IntKind.i64 (escN (sSub (c :: t) (nNat 1) (nLen (c :: t)))), PV.str (c :: t), PV.bool true, PV.str (c :: t),
                        PV.int IntKind.u8 (sAt (c :: t) 0), PV.str (c :: t), PV.str (sSub (c :: t) (nNat 1) (nLen (c :: t))), PV.int IntKind.u8 (sAt (c :: t) 0), PV.bool true,
                        PV.tup [PV.int IntKind.u8 (escB (sSub (c :: t) (nNat 1) (nLen (c :: t)))), PV.int IntKind.i64 (escN (sSub (c :: t) (nNat 1) (nLen (c :: t))))],
                        PV.str (sSub (c :: t) (nNat 1) (nLen (c :: t))),
                        PV.tup [PV.int IntKind.u8 (escB (sSub (c :: t) (nNat 1) (nLen (c :: t)))), PV.int IntKind.i64 (escN (sSub (c :: t) (nNat 1) (nLen (c :: t))))],
                        PV.int IntKind.u8 (escB (sSub (c :: t) (nNat 1) (nLen (c :: t)))), PV.int IntKind.i64 (escN (sSub (c :: t) (nNat 1) (nLen (c :: t)))),
                        PV.int IntKind.i64 (escN (sSub (c :: t) (nNat 1) (nLen (c :: t)))), PV.bool true, PV.top, PV.top, PV.top, PV.top, PV.top, PV.top, PV.top, PV.top, PV.top],
                      Store.mk [] [] []))
                  (Tr.ite
                    (qaI (qaw (escN (sSub (c :: t) (nNat 1) (nLen (c :: t))))) true (nNat (escN (sSub (c :: t) (nNat 1) (nLen (c :: t))))) (nLen (sSub (c :: t) (nNat 1) (nLen (c :: t))))
                      (nLen (sSub (c :: t) (nNat 1) (nLen (c :: t)))))
                    (Tr.ite (qaP [] [[PV.int IntKind.u8 (escB (sSub (c :: t) (nNat 1) (nLen (c :: t))))]] 1)
                      (Tr.ite (qaO [[PV.int IntKind.u8 (escB (sSub (c :: t) (nNat 1) (nLen (c :: t))))]] 1)
                        (Tr.ite (qaC [] 1)
                          (Tr.ret
                            (PExit.normal, [29, 22, 15, 9],
                              [PV.str (sSub (sSub (c :: t) (nNat 1) (nLen (c :: t))) (nNat (escN (sSub (c :: t) (nNat 1) (nLen (c :: t))))) (nLen (sSub (c :: t) (nNat 1) (nLen (c :: t))))), PV.top, PV.top,
                                PV.top, PV.sl (xApp [] [[PV.int IntKind.u8 (escB (sSub (c :: t) (nNat 1) (nLen (c :: t))))]]) (Tag.tok 0), PV.int IntKind.u8 (escB (sSub (c :: t) (nNat 1) (nLen (c :: t)))),
                                PV.int IntKind.u8 (escB (sSub (c :: t) (nNat 1) (nLen (c :: t)))), PV.int IntKind.i64 (escN (sSub (c :: t) (nNat 1) (nLen (c :: t)))), PV.str (c :: t), PV.bool true,
                                PV.str (c :: t), PV.int IntKind.u8 (sAt (c :: t) 0), PV.str (c :: t), PV.str (sSub (c :: t) (nNat 1) (nLen (c :: t))), PV.int IntKind.u8 (sAt (c :: t) 0), PV.bool true,
                                PV.tup [PV.int IntKind.u8 (escB (sSub (c :: t) (nNat 1) (nLen (c :: t)))), PV.int IntKind.i64 (escN (sSub (c :: t) (nNat 1) (nLen (c :: t))))],
                                PV.str (sSub (c :: t) (nNat 1) (nLen (c :: t))),
                                PV.tup [PV.int IntKind.u8 (escB (sSub (c :: t) (nNat 1) (nLen (c :: t)))), PV.int IntKind.i64 (escN (sSub (c :: t) (nNat 1) (nLen (c :: t))))],
                                PV.int IntKind.u8 (escB (sSub (c :: t) (nNat 1) (nLen (c :: t)))), PV.int IntKind.i64 (escN (sSub (c :: t) (nNat 1) (nLen (c :: t)))),
                                PV.int IntKind.i64 (escN (sSub (c :: t) (nNat 1) (nLen (c :: t)))), PV.bool false, PV.int IntKind.u8 (escB (sSub (c :: t) (nNat 1) (nLen (c :: t)))),
                                PV.str (sSub (c :: t) (nNat 1) (nLen (c :: t))), PV.int IntKind.i64 (escN (sSub (c :: t) (nNat 1) (nLen (c :: t)))),
                                PV.str (sSub (sSub (c :: t) (nNat 1) (nLen (c :: t))) (nNat (escN (sSub (c :: t) (nNat 1) (nLen (c :: t))))) (nLen (sSub (c :: t) (nNat 1) (nLen (c :: t))))),
                                PV.sl [] Tag.full, PV.int IntKind.u8 (escB (sSub (c :: t) (nNat 1) (nLen (c :: t)))), PV.sl [[PV.int IntKind.u8 (escB (sSub (c :: t) (nNat 1) (nLen (c :: t))))]] Tag.full,
                                PV.sl (xApp [] [[PV.int IntKind.u8 (escB (sSub (c :: t) (nNat 1) (nLen (c :: t))))]]) (Tag.tok 0), PV.top],
                              Store.mk [] [(nXs (xApp [] [[PV.int IntKind.u8 (escB (sSub (c :: t) (nNat 1) (nLen (c :: t))))]]), 1, 5)] []))
                          Tr.fail)
                        Tr.fail)
                      Tr.fail)
                    Tr.fail))
                (Tr.ite (qaP [] [[PV.int IntKind.u8 (sAt (c :: t) 0)]] 1)
                  (Tr.ite (qaO [[PV.int IntKind.u8 (sAt (c :: t) 0)]] 1)
                    (Tr.ite (qaC [] 1)
                      (Tr.ret
                        (PExit.normal, [29, 15, 9],
                          [PV.str (sSub (c :: t) (nNat 1) (nLen (c :: t))), PV.top, PV.top, PV.top, PV.sl (xApp [] [[PV.int IntKind.u8 (sAt (c :: t) 0)]]) (Tag.tok 0), PV.int IntKind.u8 (sAt (c :: t) 0),
                            PV.top, PV.top, PV.str (c :: t), PV.bool true, PV.str (c :: t), PV.int IntKind.u8 (sAt (c :: t) 0), PV.str (c :: t), PV.str (sSub (c :: t) (nNat 1) (nLen (c :: t))),
                            PV.int IntKind.u8 (sAt (c :: t) 0), PV.bool false, PV.top, PV.top, PV.top, PV.top, PV.top, PV.top, PV.top, PV.top, PV.top, PV.top, PV.top, PV.sl [] Tag.full,
                            PV.int IntKind.u8 (sAt (c :: t) 0), PV.sl [[PV.int IntKind.u8 (sAt (c :: t) 0)]] Tag.full, PV.sl (xApp [] [[PV.int IntKind.u8 (sAt (c :: t) 0)]]) (Tag.tok 0), PV.top],
                          Store.mk [] [(nXs (xApp [] [[PV.int IntKind.u8 (sAt (c :: t) 0)]]), 1, 5)] []))
                      Tr.fail)
                    Tr.fail)
                  Tr.fail))
              Tr.fail)
            Tr.fail)
          (Tr.ret
            (PExit.exit 0, [9],
              [PV.str (c :: t), PV.top, PV.top, PV.top, PV.sl [] Tag.full, PV.top, PV.top, PV.top, PV.str (c :: t), PV.bool false, PV.top, PV.top, PV.top, PV.top, PV.top, PV.top, PV.top, PV.top, PV.top,
                PV.top, PV.top, PV.top, PV.top, PV.top, PV.top, PV.top, PV.top, PV.top, PV.top, PV.top, PV.top, PV.top],
              Store.mk [] [] []))) (by kernel_rfl) ?_
      rw [e1, e0, x1, x2]
      simp only [qd5]
      refine Tr.all_t (by simp) <| Tr.all_t (by simp) <| Tr.all_t (by simp) ?_
      by_cases h92 : c = 92
      · subst h92
        refine Tr.all_t (by simp) ?_
        by_cases hn : escN t = 0
        · simp [hn] at hr
          obtain ⟨rfl, rfl, rfl⟩ := hr
          exact Tr.all_t (by simp [hn]) ⟨rfl, by simp [Weak, mk, qcr, look], rfl⟩
        · refine Tr.all_f (by simp [hn]) <| Tr.all_t (by simp; omega) <| Tr.all_t (by simp) <| Tr.all_t (by simp [one]) <| Tr.all_t (by simp) ?_
          refine LDoes.into ?_ (key t.length ([UInt8.ofNat (escB t).toNat]) (t.drop (escN t).toNat) (by simp) (by simp) (by simp; omega) ?_)
          · simp [Weak, mk, qcr, look]
          · cases hd : decP (t.drop (escN t).toNat) with
            | none =>
              simp [hn, hd] at hr ⊢
              rw [Nat.add_comm]
              exact hr
            | some x =>
              simp [hn, hd] at hr ⊢
              exact hr
      · refine Tr.all_f (qem (k := 92) h92) <| Tr.all_t (by simp) <| Tr.all_t (by simp [one]) <| Tr.all_t (by simp) ?_
        refine LDoes.into ?_ (key t.length [c] t (by omega) (by simp) (by simp; omega) ?_)
        · simp [Weak, mk, qcr, look]
        · cases hd : decP t with
          | none =>
            simp [h92, hd] at hr ⊢
            rw [Nat.add_comm]
            exact hr
          | some x =>
            simp [h92, hd] at hr ⊢
            exact hr
  · cases hd
theorem qAx (gl:Gl):SimP Tryz.prog gl 175 fun args=>(qsy args).run:=by
 refine SimP.of_tree (G:=ofL [(178,.pure qnF)]) (L:=qzH) qav (qac (qr1 gl) qag) qah Tryz.func175 rfl (by rfl) (by kernel_rfl) (qgQ (r:=2) (c1:=qnN) (by kernel_rfl) ?_) ?_
 ·intro fr σ e fr' σ' hh
  simp only [lps,qzH,if_true] at hh
  exact qh9 (qvT gl) fr σ e fr' σ' hh
 intro args x h hr
 unfold qsy at h
 split at h
 ·rename_i s
  obtain ⟨h1,h2⟩:=Tr.chk_some h
  refine Tr.run_as (Tr.ite (qkC s)
    (Tr.ite (qrc s) (Tr.ite (sEq (decV s) []) (Tr.ret (PV.tup [PV.sl [] Tag.non,PV.bool true])) (Tr.ret (PV.tup [PV.sl (qb5 (qad (decV s))) Tag.non,PV.bool true])))
     (Tr.ite (nEq (badL s) 0) (Tr.ret (PV.tup [PV.sl [] Tag.non,PV.bool false])) (Tr.ret (PV.tup [PV.sl [] Tag.non,PV.bool false]))))
    Tr.fail) (by kernel_rfl) ?_
  by_cases hd:qrc s=true
  ·by_cases he:decV s=[]
   ·simp [hd,he] at h2 ⊢
    simp at h1
    exact ⟨h1,h2⟩
   ·simp [hd,he] at h2 ⊢
    simp at h1
    exact ⟨h1,h2⟩
  ·by_cases he:badL s=0
   ·simp [hd,he] at h2 ⊢
    simp at h1
    exact ⟨h1,h2⟩
   ·simp [hd,he] at h2 ⊢
    simp at h1
    exact ⟨h1,h2⟩
 ·cases h
end Go.Pv
set_option maxHeartbeats 4000000
set_option maxRecDepth 200000
set_option linter.unusedSimpArgs false
set_option linter.unusedVariables false
namespace Go.Pv
open Go Go.Proofs Go.RowKit
def rdV (s:List UInt8):Option (Int × Int × List UInt8) :=
 if qd2 s [34]=true∧qpE s [34]=true∧2≤s.length then
  match decP ((s.take (s.length - 1)).drop 1) with
  | some b=>if qbD 2 0 b=0∧qeh 2 0 b=s then some (2,0,b) else none
  | none=>none
 else if pOk s then (if qbD 1 (pVal s) []=0∧qeh 1 (pVal s) []=s then some (1,pVal s,[]) else none) else none
def kRd (s:List UInt8):Int:=match rdV s with | some v=>v.1 | none=>0
def nRd (s:List UInt8):Int:=match rdV s with | some v=>v.2.1 | none=>0
def sRd (s:List UInt8):List UInt8:=match rdV s with | some v=>v.2.2 | none=>[]
def eRd (s:List UInt8):Int:=match rdV s with | some _=>0 | none=>10
def qrT:List PV→Tr PV
 | [.str s]=>Tr.chk (qkC s) (.ret (.tup [.agg [.int .i64 (kRd s),.int .i64 (nRd s),.str (sRd s)],.int .i64 (eRd s)]))
 | _=>.fail
theorem qHc {gl : Gl} (hgl : GlOk gl) : SimP Tryz.prog gl 169 fun args => (qrT args).run := by
  refine SimP.of_tree (G := ofL [(160, .pure qnG), (174, .pure qts), (175, .pure qsy), (176, .pure qnd), (75, .pure qzR)]) (L := fun _ _ _ => .fail) qav (qac (qrP gl) (qac (qAN gl) (qac (qAx gl) (qac (qvG hgl) (qac (qyM hgl.toGlPow) qag))))) qah Tryz.func169 rfl (by rfl) (by kernel_rfl) (qae (by kernel_rfl)) ?_
  intro args x h hr
  unfold qrT at h
  split at h
  · rename_i s
    obtain ⟨h1, h2⟩ := Tr.chk_some h
    refine Tr.run_as (Tr.ite (qd2 s [34])
        (Tr.ite (qpE s [34])
          (Tr.ite (iLe 2 (sLen s))
            (Tr.ite (qaI (qaw 1) (qaw (iSub IntKind.i64 (sLen s) 1)) (nNat 1) (nNat (iSub IntKind.i64 (sLen s) 1)) (nLen s))
              (Tr.ite (qkC (sSub s (nNat 1) (nNat (iSub IntKind.i64 (sLen s) 1))))
                (Tr.ite (qrc (sSub s (nNat 1) (nNat (iSub IntKind.i64 (sLen s) 1))))
                  (Tr.ite false (Tr.ret (PV.tup [PV.agg [PV.int IntKind.i64 0, PV.int IntKind.i64 0, PV.str []], PV.int IntKind.i64 10]))
                    (Tr.ite (qdu (qad (decV (sSub s (nNat 1) (nNat (iSub IntKind.i64 (sLen s) 1))))))
                      (Tr.ite (iNe (qbD 2 0 (qci (qad (decV (sSub s (nNat 1) (nNat (iSub IntKind.i64 (sLen s) 1))))))) 0)
                        (Tr.ret (PV.tup [PV.agg [PV.int IntKind.i64 0, PV.int IntKind.i64 0, PV.str []], PV.int IntKind.i64 10]))
                        (Tr.ite (sNe (qeh 2 0 (qci (qad (decV (sSub s (nNat 1) (nNat (iSub IntKind.i64 (sLen s) 1))))))) s)
                          (Tr.ret (PV.tup [PV.agg [PV.int IntKind.i64 0, PV.int IntKind.i64 0, PV.str []], PV.int IntKind.i64 10]))
                          (Tr.ret
                            (PV.tup [PV.agg [PV.int IntKind.i64 2, PV.int IntKind.i64 0, PV.str (qci (qad (decV (sSub s (nNat 1) (nNat (iSub IntKind.i64 (sLen s) 1))))))], PV.int IntKind.i64 0]))))
                      Tr.fail))
                  (Tr.ite true (Tr.ret (PV.tup [PV.agg [PV.int IntKind.i64 0, PV.int IntKind.i64 0, PV.str []], PV.int IntKind.i64 10]))
                    (Tr.ite (qdu [])
                      (Tr.ite (iNe (qbD 2 0 (qci [])) 0) (Tr.ret (PV.tup [PV.agg [PV.int IntKind.i64 0, PV.int IntKind.i64 0, PV.str []], PV.int IntKind.i64 10]))
                        (Tr.ite (sNe (qeh 2 0 (qci [])) s) (Tr.ret (PV.tup [PV.agg [PV.int IntKind.i64 0, PV.int IntKind.i64 0, PV.str []], PV.int IntKind.i64 10]))
                          (Tr.ret (PV.tup [PV.agg [PV.int IntKind.i64 2, PV.int IntKind.i64 0, PV.str (qci [])], PV.int IntKind.i64 0]))))
                      Tr.fail)))
                Tr.fail)
              Tr.fail)
            (Tr.ite (iEq 10 10)
              (Tr.ite (iEq 64 64)
                (Tr.ite (qgq s)
                  (Tr.ite (pOk s)
                    (Tr.ite false (Tr.ret (PV.tup [PV.agg [PV.int IntKind.i64 0, PV.int IntKind.i64 0, PV.str []], PV.int IntKind.i64 10]))
                      (Tr.ite (iNe (qbD 1 (pVal s) []) 0) (Tr.ret (PV.tup [PV.agg [PV.int IntKind.i64 0, PV.int IntKind.i64 0, PV.str []], PV.int IntKind.i64 10]))
                        (Tr.ite (sNe (qeh 1 (pVal s) []) s) (Tr.ret (PV.tup [PV.agg [PV.int IntKind.i64 0, PV.int IntKind.i64 0, PV.str []], PV.int IntKind.i64 10]))
                          (Tr.ret (PV.tup [PV.agg [PV.int IntKind.i64 1, PV.int IntKind.i64 (pVal s), PV.str []], PV.int IntKind.i64 0])))))
                    (Tr.ite true (Tr.ret (PV.tup [PV.agg [PV.int IntKind.i64 0, PV.int IntKind.i64 0, PV.str []], PV.int IntKind.i64 10]))
                      (Tr.ite (iNe (qbD 1 (pVal s) []) 0) (Tr.ret (PV.tup [PV.agg [PV.int IntKind.i64 0, PV.int IntKind.i64 0, PV.str []], PV.int IntKind.i64 10]))
                        (Tr.ite (sNe (qeh 1 (pVal s) []) s) (Tr.ret (PV.tup [PV.agg [PV.int IntKind.i64 0, PV.int IntKind.i64 0, PV.str []], PV.int IntKind.i64 10]))
                          (Tr.ret (PV.tup [PV.agg [PV.int IntKind.i64 1, PV.int IntKind.i64 (pVal s), PV.str []], PV.int IntKind.i64 0]))))))
                  Tr.fail)
                Tr.fail)
              Tr.fail))
          (Tr.ite (iEq 10 10)
            (Tr.ite (iEq 64 64)
              (Tr.ite (qgq s)
                (Tr.ite (pOk s)
                  (Tr.ite false (Tr.ret (PV.tup [PV.agg [PV.int IntKind.i64 0, PV.int IntKind.i64 0, PV.str []], PV.int IntKind.i64 10]))
                    (Tr.ite (iNe (qbD 1 (pVal s) []) 0) (Tr.ret (PV.tup [PV.agg [PV.int IntKind.i64 0, PV.int IntKind.i64 0, PV.str []], PV.int IntKind.i64 10]))
                      (Tr.ite (sNe (qeh 1 (pVal s) []) s) (Tr.ret (PV.tup [PV.agg [PV.int IntKind.i64 0, PV.int IntKind.i64 0, PV.str []], PV.int IntKind.i64 10]))
                        (Tr.ret (PV.tup [PV.agg [PV.int IntKind.i64 1, PV.int IntKind.i64 (pVal s), PV.str []], PV.int IntKind.i64 0])))))
                  (Tr.ite true (Tr.ret (PV.tup [PV.agg [PV.int IntKind.i64 0, PV.int IntKind.i64 0, PV.str []], PV.int IntKind.i64 10]))
                    (Tr.ite (iNe (qbD 1 (pVal s) []) 0) (Tr.ret (PV.tup [PV.agg [PV.int IntKind.i64 0, PV.int IntKind.i64 0, PV.str []], PV.int IntKind.i64 10]))
                      (Tr.ite (sNe (qeh 1 (pVal s) []) s) (Tr.ret (PV.tup [PV.agg [PV.int IntKind.i64 0, PV.int IntKind.i64 0, PV.str []], PV.int IntKind.i64 10]))
                        (Tr.ret (PV.tup [PV.agg [PV.int IntKind.i64 1, PV.int IntKind.i64 (pVal s), PV.str []], PV.int IntKind.i64 0]))))))
                Tr.fail)
              Tr.fail)
            Tr.fail))
        (Tr.ite (iEq 10 10)
          (Tr.ite (iEq 64 64)
            (Tr.ite (qgq s)
              (Tr.ite (pOk s)
                (Tr.ite false (Tr.ret (PV.tup [PV.agg [PV.int IntKind.i64 0, PV.int IntKind.i64 0, PV.str []], PV.int IntKind.i64 10]))
                  (Tr.ite (iNe (qbD 1 (pVal s) []) 0) (Tr.ret (PV.tup [PV.agg [PV.int IntKind.i64 0, PV.int IntKind.i64 0, PV.str []], PV.int IntKind.i64 10]))
                    (Tr.ite (sNe (qeh 1 (pVal s) []) s) (Tr.ret (PV.tup [PV.agg [PV.int IntKind.i64 0, PV.int IntKind.i64 0, PV.str []], PV.int IntKind.i64 10]))
                      (Tr.ret (PV.tup [PV.agg [PV.int IntKind.i64 1, PV.int IntKind.i64 (pVal s), PV.str []], PV.int IntKind.i64 0])))))
                (Tr.ite true (Tr.ret (PV.tup [PV.agg [PV.int IntKind.i64 0, PV.int IntKind.i64 0, PV.str []], PV.int IntKind.i64 10]))
                  (Tr.ite (iNe (qbD 1 (pVal s) []) 0) (Tr.ret (PV.tup [PV.agg [PV.int IntKind.i64 0, PV.int IntKind.i64 0, PV.str []], PV.int IntKind.i64 10]))
                    (Tr.ite (sNe (qeh 1 (pVal s) []) s) (Tr.ret (PV.tup [PV.agg [PV.int IntKind.i64 0, PV.int IntKind.i64 0, PV.str []], PV.int IntKind.i64 10]))
                      (Tr.ret (PV.tup [PV.agg [PV.int IntKind.i64 1, PV.int IntKind.i64 (pVal s), PV.str []], PV.int IntKind.i64 0]))))))
              Tr.fail)
            Tr.fail)
          Tr.fail)) (by kernel_rfl) ?_
    have hl : s.length ≤ 140737488355328 := by simpa using h1
    cases h2
    have h48 : qgq s = true := by simp [qgq]; omega
    have int : (Tr.ite (iEq 10 10) (Tr.ite (iEq 64 64) (Tr.ite (qgq s) (Tr.ite (pOk s)
              (Tr.ite false (Tr.ret (PV.tup [PV.agg [PV.int IntKind.i64 0, PV.int IntKind.i64 0, PV.str []], PV.int IntKind.i64 10]))
                (Tr.ite (iNe (qbD 1 (pVal s) []) 0) (Tr.ret (PV.tup [PV.agg [PV.int IntKind.i64 0, PV.int IntKind.i64 0, PV.str []], PV.int IntKind.i64 10]))
                  (Tr.ite (sNe (qeh 1 (pVal s) []) s) (Tr.ret (PV.tup [PV.agg [PV.int IntKind.i64 0, PV.int IntKind.i64 0, PV.str []], PV.int IntKind.i64 10]))
                    (Tr.ret (PV.tup [PV.agg [PV.int IntKind.i64 1, PV.int IntKind.i64 (pVal s), PV.str []], PV.int IntKind.i64 0])))))
              (Tr.ite true (Tr.ret (PV.tup [PV.agg [PV.int IntKind.i64 0, PV.int IntKind.i64 0, PV.str []], PV.int IntKind.i64 10]))
                (Tr.ite (iNe (qbD 1 (pVal s) []) 0) (Tr.ret (PV.tup [PV.agg [PV.int IntKind.i64 0, PV.int IntKind.i64 0, PV.str []], PV.int IntKind.i64 10]))
                  (Tr.ite (sNe (qeh 1 (pVal s) []) s) (Tr.ret (PV.tup [PV.agg [PV.int IntKind.i64 0, PV.int IntKind.i64 0, PV.str []], PV.int IntKind.i64 10]))
                    (Tr.ret (PV.tup [PV.agg [PV.int IntKind.i64 1, PV.int IntKind.i64 (pVal s), PV.str []], PV.int IntKind.i64 0])))))) Tr.fail) Tr.fail) Tr.fail).run =
        some (if pOk s then (if qbD 1 (pVal s) [] = 0 ∧ qeh 1 (pVal s) [] = s then .tup [.agg [.int .i64 1, .int .i64 (pVal s), .str []], .int .i64 0] else .tup [.agg [.int .i64 0, .int .i64 0, .str []], .int .i64 10]) else .tup [.agg [.int .i64 0, .int .i64 0, .str []], .int .i64 10]) := by
      cases hp : pOk s with
      | false => simp [h48]
      | true =>
        by_cases hc : qbD 1 (pVal s) [] = 0 <;> by_cases ht : qeh 1 (pVal s) [] = s <;> simp [h48, hc, ht]
    have fin : ∀ o : Option (Int × Int × List UInt8), rdV s = o → PV.tup [.agg [.int .i64 (kRd s), .int .i64 (nRd s), .str (sRd s)], .int .i64 (eRd s)] = match o with | some v => .tup [.agg [.int .i64 v.1, .int .i64 v.2.1, .str v.2.2], .int .i64 0] | none => .tup [.agg [.int .i64 0, .int .i64 0, .str []], .int .i64 10] := by
      intro o ho
      unfold kRd nRd sRd eRd
      rw [ho]
      cases o <;> rfl
    by_cases hq : qd2 s [34] = true ∧ qpE s [34] = true ∧ 2 ≤ s.length
    · obtain ⟨p1, p2, p3⟩ := hq
      have e1 : sSub s (nNat 1) (nNat (iSub .i64 (sLen s) 1)) = (s.take (s.length - 1)).drop 1 := by
        have : iSub .i64 (sLen s) 1 = s.length - 1 := by unfold iSub; rw [qho, qbo (by omega)]
        rw [this]
        simp
        try (congr 2; omega)
      have e2 : qaI (qaw 1) (qaw (iSub .i64 (sLen s) 1)) (nNat 1) (nNat (iSub .i64 (sLen s) 1)) (nLen s) = true := by
        have : iSub .i64 (sLen s) 1 = s.length - 1 := by unfold iSub; rw [qho, qbo (by omega)]
        rw [this]
        simp
        omega
      have e3 : iLe 2 (sLen s) = true := by simp; omega
      rw [e1, p1, p2, e2, e3]
      have e4 : qkC ((s.take (s.length - 1)).drop 1) = true := by simp; omega
      generalize hm : (s.take (s.length - 1)).drop 1 = m at *
      rw [e4]
      cases hd : decP m with
      | none =>
        have h5 : qrc m = false := by simp [qrc, hd]
        have := fin none (by unfold rdV; rw [if_pos ⟨p1, p2, p3⟩, hm, hd])
        rw [this]
        simp [h5]
      | some b =>
        have h5 : qrc m = true := by simp [qrc, hd]
        have h6 : decV m = b := by simp [decV, hd]
        rw [h6]
        by_cases hc : qbD 2 0 b = 0 ∧ qeh 2 0 b = s
        · have := fin (some (2, 0, b)) (by unfold rdV; rw [if_pos ⟨p1, p2, p3⟩, hm, hd]; simp only []; rw [if_pos hc])
          rw [this]
          simp [h5, hc]
        · have := fin none (by unfold rdV; rw [if_pos ⟨p1, p2, p3⟩, hm, hd]; simp only []; rw [if_neg hc])
          rw [this]
          by_cases hc1 : qbD 2 0 b = 0
          · have hc2 : ¬ qeh 2 0 b = s := fun h => hc ⟨hc1, h⟩
            simp [h5, hc1, hc2]
          · simp [h5, hc1]
    · have e9 : rdV s = if pOk s then (if qbD 1 (pVal s) [] = 0 ∧ qeh 1 (pVal s) [] = s then some (1, pVal s, []) else none) else none := by
        unfold rdV
        rw [if_neg hq]
      have e8 : PV.tup [.agg [.int .i64 (kRd s), .int .i64 (nRd s), .str (sRd s)], .int .i64 (eRd s)] = (if pOk s then (if qbD 1 (pVal s) [] = 0 ∧ qeh 1 (pVal s) [] = s then .tup [.agg [.int .i64 1, .int .i64 (pVal s), .str []], .int .i64 0] else .tup [.agg [.int .i64 0, .int .i64 0, .str []], .int .i64 10]) else .tup [.agg [.int .i64 0, .int .i64 0, .str []], .int .i64 10]) := by
        rw [fin _ e9]
        by_cases c1 : pOk s = true
        · by_cases c2 : qbD 1 (pVal s) [] = 0 ∧ qeh 1 (pVal s) [] = s
          · simp only [c1, if_true, if_pos c2]
          · simp only [c1, if_true, if_neg c2]
        · simp only [if_neg c1]
      rw [e8, ← int]
      cases p1 : qd2 s [34] with
      | false => simp
      | true =>
        cases p2 : qpE s [34] with
        | false => simp
        | true =>
          have e3 : iLe 2 (sLen s) = false := by simp; have : ¬ 2 ≤ s.length := fun h => hq ⟨p1, p2, h⟩; omega
          rw [e3]
          simp
  · cases h
end Go.Pv
set_option linter.unusedSimpArgs false
set_option linter.unusedVariables false
namespace Go.Pv
open Go.RowKit Tr
def xInt (xs:List (List PV)) (i j:Nat):Int:=match (xs.getD i []).getD j .top with | .int _ n=>n | _=>0
def qcm (xs:List (List PV)) (i j:Nat):Bool:=match (xs.getD i []).getD j .top with | .bool b=>b | _=>false
def xStr (xs:List (List PV)) (i j:Nat):List UInt8:=match (xs.getD i []).getD j .top with | .str l=>l | _=>[]
def xRow (xs:List (List PV)) (i j:Nat):List (List PV):=match (xs.getD i []).getD j .top with | .sl l _=>l | _=>[]
def xPV (xs:List (List PV)) (i j:Nat):PV:=(xs.getD i []).getD j .top
def selC (c:PV) (xs:List (List PV)) (i j:Nat):PV:=match c with
 | .int k _=>.int k (xInt xs i j)
 | .bool _=>.bool (qcm xs i j)
 | .str _=>.str (xStr xs i j)
 | .sl _ _=>.sl (xRow xs i j) .non
 | _=>xPV xs i j
def selF:List PV→List (List PV)→Nat→Nat→List PV
 | [],_,_,_=>[]
 | c :: z,xs,i,j=>selC c xs i j :: selF z xs i (j+1)
open Classical in
noncomputable def qbM (z:List PV) (xs:List (List PV)) (i:Nat):Bool:=decide (xs[i]?=some (selF z xs i 0))
noncomputable def Tr.flat {α:Type}:Tr α→Tr α
 | .ret a=>.ret a
 | .fail=>.fail
 | .ite b x y=>.ite b x.flat y.flat
 | .get xs i z k=>.ite (qbM z xs i) (k (selF z xs i 0)).flat .fail
theorem Tr.flat_run {α:Type} {r:α}:∀ {t:Tr α},t.flat.run=some r→t.run=some r
 | .ret a,h=>h
 | .fail,h=>h
 | .ite b x y,h=>by
  cases b with
  | true=>simp only [Tr.flat,Tr.run_ite,if_true] at h ⊢; exact Tr.flat_run h
  | false=>simp only [Tr.flat,Tr.run_ite,Bool.false_eq_true,if_false] at h ⊢; exact Tr.flat_run h
 | .get xs i z k,h=>by
  simp only [Tr.flat,Tr.run_ite] at h
  split at h
  ·rename_i hg
   have hg:xs[i]?=some (selF z xs i 0):=by simpa [qbM] using hg
   simp only [Tr.run_get,hg]
   exact Tr.flat_run h
  ·cases h
def qe1 (m:Nat) (σ:Store):Store:=⟨σ.objs.map (qco m),σ.toks.take m,σ.tys⟩
theorem qmm (m:Nat):∀ (xs:List PV),(qco m xs).length=xs.length
 | []=>rfl
 | x :: xs=>by simp [qco,qmm m xs]
theorem qpp (m:Nat):∀ (xs:List (List PV)),(qdv m xs).length=xs.length
 | []=>rfl
 | x :: xs=>by simp [qdv,qpp m xs]
mutual
theorem qrQ (m:Nat):∀ {x:PV},lock x=x→dropT m x=x
 | .top,_=>rfl
 | .bool _,_=>rfl
 | .int _ _,_=>rfl
 | .str _,_=>rfl
 | .nilp,_=>rfl
 | .ptr _ _,h=>by simp [lock] at h
 | .ref cs,h=>by simp only [lock,PV.ref.injEq] at h; simp only [dropT]; rw [qey m h]
 | .sl xs t,h=>by simp only [lock,PV.sl.injEq] at h; simp only [dropT]; rw [qgf m h.1,← h.2]; rfl
 | .osl _ _ _ _,h=>by simp [lock] at h
 | .fn f caps,h=>by simp only [lock,PV.fn.injEq] at h; simp only [dropT]; rw [qey m h.2]
 | .nilf,_=>rfl
 | .iface t v,h=>by simp only [lock,PV.iface.injEq] at h; simp only [dropT]; rw [qrQ m h.2]
 | .nili,_=>rfl
 | .agg cs,h=>by simp only [lock,PV.agg.injEq] at h; simp only [dropT]; rw [qey m h]
 | .tup cs,h=>by simp only [lock,PV.tup.injEq] at h; simp only [dropT]; rw [qey m h]
theorem qey (m:Nat):∀ {x:List PV},qfl x=x→qco m x=x
 | [],_=>rfl
 | x :: xs,h=>by simp only [qfl,List.cons.injEq] at h; simp only [qco]; rw [qrQ m h.1,qey m h.2]
theorem qgf (m:Nat):∀ {x:List (List PV)},qaa x=x→qdv m x=x
 | [],_=>rfl
 | x :: xs,h=>by simp only [qaa,List.cons.injEq] at h; simp only [qdv]; rw [qey m h.1,qgf m h.2]
end
@[simp] theorem dropTLL_bytes (m:Nat) (l:List UInt8):qdv m (qad l)=qad l:=qgf m (qu8 l)
@[simp] theorem dropTLL_rOf {α:Type} (C:Cod α) (m:Nat) (l:List α):qdv m (rOf C l)=rOf C l:=qgf m (qaz C l)
def Gh.trim (H:Gh) (m:Nat):Gh:={ H with tk:=H.tk.take m }
section
variable {H : Gh} {w : World} {m : Nat}
theorem qig {b off:Nat} (h:H.prot w b off):(H.trim m).prot w b off:=⟨h.1,h.2.1,h.2.2.1,fun T hT=>h.2.2.2 T (List.mem_of_mem_take hT)⟩
theorem qAF {b off:Nat} (h:H.prot2 w b off):(H.trim m).prot2 w b off:=h.elim (fun h=>.inl (qig h)) .inr
theorem qGW {p:Option Addr} {len cap k:Nat} {t:Tag} (h:TagOk H p len cap k t):TagOk (H.trim m) p len cap k (qvZ m t):=by
 cases t with
 | non=>trivial
 | full=>exact h
 | nil=>exact h
 | own=>exact h
 | tok t =>
  simp only [qvZ]
  cases hm:decide (t < m) with
  | false=>trivial
  | true =>
   obtain ⟨T,e,l,q⟩:=h
   exact ⟨T,by simp only [Gh.trim]; rw [List.getElem?_take,if_pos (by simpa using hm)]; exact e,l,q⟩
mutual
theorem qzt:∀ {x:PV} {v:Value},Rel H w x v→Rel (H.trim m) w (dropT m x) v
 | _,_,.top v=>by simp only [dropT]; exact .top v
 | _,_,.bool b=>by simp only [dropT]; exact .bool b
 | _,_,.int k m h=>by simp only [dropT]; exact .int k m h
 | _,_,.str l h=>by simp only [dropT]; exact .str l h
 | _,_,.nilp=>by simp only [dropT]; exact .nilp
 | _,_,.ptr id off b h=>by simp only [dropT]; exact .ptr id off b h
 | _,_,.ref a cs vs h hc=>by simp only [dropT]; exact .ref a _ vs (qd8 h) (fun j v e=>⟨qAF (hc j v e).1,(hc j v e).2⟩)
 | _,_,.osl id off off' len cap k b h ho hcap hm=>by simp only [dropT]; exact .osl id off off' len cap k b h ho hcap hm
 | _,_,.sl p len cap k xs vss t hl hcap hm h hr ht=>by
  simp only [dropT]
  exact .sl p len cap k _ vss _ (by rw [← hl]; exact qpp _ xs) hcap hm (qrF h) (fun i vs e=>⟨(hr i vs e).1,by
   obtain ⟨_,a,ha,hc⟩:=hr i vs e
   exact ⟨a,ha,fun j v e=>⟨qig (hc j v e).1,(hc j v e).2⟩⟩⟩) (qGW ht)
 | _,_,.fn f caps vs h=>by simp only [dropT]; exact .fn f _ vs (qd8 h)
 | _,_,.yld t T h hk=>by
  simp only [dropT]
  cases hm:decide (t < m) with
  | false=>exact .top _
  | true=>exact .yld t T (by simp only [Gh.trim]; rw [List.getElem?_take,if_pos (by simpa using hm)]; exact h) hk
 | _,_,.nilf=>by simp only [dropT]; exact .nilf
 | _,_,.iface t x v h=>by simp only [dropT]; exact .iface t _ v (qzt h)
 | _,_,.nili=>by simp only [dropT]; exact .nili
 | _,_,.agg cs vs h=>by simp only [dropT]; exact .agg _ vs (qd8 h)
 | _,_,.tup cs vs h=>by simp only [dropT]; exact .tup _ vs (qd8 h)
theorem qd8:∀ {x:List PV} {v:List Value},RelL H w x v→RelL (H.trim m) w (qco m x) v
 | _,_,.nil=>by simp only [qco]; exact .nil
 | _,_,.cons x v xs vs h ht=>by simp only [qco]; exact .cons _ v _ vs (qzt h) (qd8 ht)
theorem qrF:∀ {x:List (List PV)} {v:List (List Value)},RelLL H w x v→RelLL (H.trim m) w (qdv m x) v
 | _,_,.nil=>by simp only [qdv]; exact .nil
 | _,_,.cons x v xs vs h ht=>by simp only [qdv]; exact .cons _ v _ vs (qd8 h) (qrF ht)
end
theorem qxl {gl:Gl} {σ:Store} (h:Ok gl H σ w):Ok gl (H.trim m) (qe1 m σ) w where
 B:=h.B
 gl:=h.gl
 len:=by simp [Gh.trim,qe1,h.len]
 obj:=fun id b cs e1 e2=>by
  simp only [qe1,List.getElem?_map] at e2
  obtain ⟨c0,hc0,rfl⟩:=Option.map_eq_some_iff.1 e2
  obtain ⟨hB,vs,ext,T,he,hr⟩:=h.obj id b c0 e1 hc0
  exact ⟨hB,vs,ext,T,he,qd8 hr⟩
 nd:=h.nd
 tkl:=by
  have:=h.tkl
  simp only [Gh.trim,qe1,List.map_take,← this]
 tok:=fun t T e hvv=>by
  obtain ⟨hlt,e⟩:=qdo e
  obtain ⟨hB,ho,o,he,hr⟩:=h.tok t T e hvv
  refine ⟨hB,ho,o,he,?_⟩
  rcases hr with hr | ⟨h1,h2,r,h3,h4,h5,h6,h7⟩
  ·exact .inl hr
  ·refine .inr ⟨h1,h2,r,h3,?_,h5,h6,h7⟩
   have:=qd8 (m:=m) h4
   rwa [h7 m (by omega)] at this
 tnd:=fun t u T U e1 e2=>h.tnd t u T U (qdo e1).2 (qdo e2).2
 tyl:=by simp [qe1,h.tyl]
 ty:=fun id b T cs e1 e2 e3 hT=>by
  simp only [qe1,List.getElem?_map] at e2 e3
  obtain ⟨c0,hc0,rfl⟩:=Option.map_eq_some_iff.1 e3
  obtain ⟨us,he,hs⟩:=h.ty id b T c0 e1 e2 hc0 hT
  exact ⟨us,he,by rw [hs,qmm]⟩
end
section
variable {P : Program} {gl : Gl} {c : Code} {fr fr' : List PV} {σ σ' : Store} {e : PExit} {m : Nat}
theorem qJK {H0:Gh} {w0:World} {a:Act} {w:World} (hn:H0.tk.length≤m) (h:St gl H0 w0 fr σ a w):St gl H0 w0 (qco m fr) (qe1 m σ) a w:=by
 obtain ⟨H,hev,hok,hfr,hd⟩:=h
 refine ⟨H.trim m,⟨hev.B,hev.base,hev.aux,hev.K,hev.os,hev.tape,hev.output,hev.size,hev.ob,fun t T ht=>?_,fun b off hp=>⟨qig (hev.prot b off hp).1,(hev.prot b off hp).2⟩,hev.block,hev.dr,hev.fix,fun t T e hk=>hev.old t T (qdo e).2 hk⟩,qxl hok,qd8 hfr,hd⟩
 obtain ⟨T',h1,h2⟩:=hev.tok t T ht
 refine ⟨T',?_,h2⟩
 simp only [Gh.trim]
 rw [List.getElem?_take,if_pos (Nat.lt_of_lt_of_le (List.getElem?_eq_some_iff.1 ht).1 hn)]
 exact h1
theorem Does.trim (hn:σ.toks.length≤m) (h:Does P gl c fr σ e fr' σ'):Does P gl c fr σ e (qco m fr') (qe1 m σ'):=by
 intro r n' H0 w0 hR Q a w hst hq
 obtain ⟨H,hev,hok,hfr,hd⟩:=hst
 refine h r n' H w (hR.ev hev) Q a w ⟨H,Ev.refl H w,hok,hfr,hd⟩ fun a' w' hst'=>hq a' w' ?_
 have hl:H.tk.length≤m:=by
  have:=congrArg List.length hok.tkl
  simp at this
  omega
 obtain ⟨H',hev',hok',hfr',hd'⟩:=qJK (m:=m) hl hst'
 exact ⟨H',hev.trans hev',hok',hfr',hd'⟩
end
inductive LR where
 | next (vs:List PV) (σ:Store)
 | out (e:PExit) (vs:List PV) (σ:Store)
structure LI where
 nt:Nat
 ss:List Nat
 os:PExit→List Nat
 tr:Bool:=true
def rsl (ss:List Nat) (fr:List PV):List PV:=ss.map fun s=>fr.getD s .top
theorem qlC (fr:List PV) (ss:List Nat):Weak fr (mk fr.length (ss.zip (rsl ss fr))):=qCw fr ss
def qCt (σ:Store) (vs:List PV) (σ':Store):List PV × Store :=
 if σ'.objs.length≤max σ.objs.length (qu5 vs) then (vs,σ') else (qca (max σ.objs.length (qu5 vs)) vs,dropS (max σ.objs.length (qu5 vs)) σ')
def qq3:List (List PV)→Nat
 | []=>0
 | x :: xs=>max (qrB x) (qq3 xs)
def qHo (σ:Store) (vs:List PV) (σ':Store):List PV × Store :=
 if σ'.toks.length≤max σ.toks.length (max (qrB vs) (qq3 (σ'.objs.take σ.objs.length))) then qCt σ vs σ' else qCt σ (qco (max σ.toks.length (max (qrB vs) (qq3 (σ'.objs.take σ.objs.length)))) vs) (qe1 (max σ.toks.length (max (qrB vs) (qq3 (σ'.objs.take σ.objs.length)))) σ')
def qu7 (tr:Bool) (σ:Store) (vs:List PV) (σ':Store):List PV × Store:=match tr with
 | true=>qHo σ vs σ'
 | false=>(vs,σ')
noncomputable def lstep (tb:Tab) (G:GamT) (L:LpsT) (c:Code) (I:LI) (vs:List PV) (σ:Store):Tr LR :=
 (bind (texec tb G L c [] (mk I.nt (I.ss.zip vs)) σ) fun r=>if r.2.2.1.length=I.nt then match r.1 with
  | .normal=>.ret (.next (qu7 I.tr σ (rsl I.ss r.2.2.1) r.2.2.2).1 (qu7 I.tr σ (rsl I.ss r.2.2.1) r.2.2.2).2)
  | e=>.ret (.out e (qu7 I.tr σ (rsl (I.os e) r.2.2.1) r.2.2.2).1 (qu7 I.tr σ (rsl (I.os e) r.2.2.1) r.2.2.2).2) else .fail).flat
def lrun (step:List PV→Store→Tr LR):Nat→List PV→Store→Option (PExit × List PV × Store)
 | 0,_,_=>none
 | n+1,vs,σ=>match (step vs σ).run with
  | some (.next vs' σ')=>lrun step n vs' σ'
  | some (.out e vs' σ')=>some (e,vs',σ')
  | none=>none
theorem qql {step:List PV→Store→Tr LR}:∀ {n m:Nat} {vs:List PV} {σ:Store} {r:PExit × List PV × Store},lrun step n vs σ=some r→n≤m→lrun step m vs σ=some r
 | 0,_,_,_,_,h,_=>by cases h
 | n+1,0,_,_,_,_,hm=>by omega
 | n+1,m+1,vs,σ,r,h,hm=>by
  simp only [lrun] at h ⊢
  split at h
  ·rename_i vs' σ' hs
   exact qql h (by omega)
  ·exact h
  ·cases h
open Classical in
noncomputable def lval (step:List PV→Store→Tr LR) (vs:List PV) (σ:Store):Option (PExit × List PV × Store) :=
 if h:∃ r n,lrun step n vs σ=some r then some h.choose else none
theorem qwz {step:List PV→Store→Tr LR} {vs:List PV} {σ:Store} {n:Nat} {r:PExit × List PV × Store} (h:lrun step n vs σ=some r):lval step vs σ=some r:=by
 unfold lval
 have hx:∃ r n,lrun step n vs σ=some r:=⟨r,n,h⟩
 rw [dif_pos hx]
 obtain ⟨m,hm⟩:=hx.choose_spec
 have h1:=qql h (Nat.le_max_left n m)
 have h2:=qql hm (Nat.le_max_right n m)
 rw [h1] at h2
 exact h2.symm
theorem qn1 {step:List PV→Store→Tr LR} {vs:List PV} {σ:Store} {r:PExit × List PV × Store} (h:lval step vs σ=some r):∃ n,lrun step n vs σ=some r:=by
 unfold lval at h
 split at h
 ·rename_i hx
  cases h
  exact hx.choose_spec
 ·cases h
def lnext (V:List PV→Store→Option (PExit × List PV × Store)) (r:Option LR):Option (PExit × List PV × Store):=match r with
 | some (.next vs' σ')=>V vs' σ'
 | some (.out e vs' σ')=>some (e,vs',σ')
 | none=>none
@[simp] theorem qju (V:List PV→Store→Option (PExit × List PV × Store)) (vs:List PV) (σ:Store):lnext V (some (.next vs σ))=V vs σ:=rfl
@[simp] theorem lnext_out (V:List PV→Store→Option (PExit × List PV × Store)) (e:PExit) (vs:List PV) (σ:Store):lnext V (some (.out e vs σ))=some (e,vs,σ):=rfl
@[simp] theorem lnext_none (V:List PV→Store→Option (PExit × List PV × Store)):lnext V none=none:=rfl
theorem qbK (step:List PV→Store→Tr LR) (vs:List PV) (σ:Store):lval step vs σ=lnext (lval step) (step vs σ).run:=by
 unfold lnext
 cases hs:(step vs σ).run with
 | none =>
  simp only
  cases hv:lval step vs σ with
  | none=>rfl
  | some r =>
   obtain ⟨n,hn⟩:=qn1 hv
   cases n with
   | zero=>cases hn
   | succ n=>simp [lrun,hs] at hn
 | some q =>
  cases q with
  | out e vs' σ'=>exact qwz (n:=1) (by simp [lrun,hs])
  | next vs' σ' =>
   simp only
   cases hv:lval step vs' σ' with
   | some r =>
    obtain ⟨n,hn⟩:=qn1 hv
    exact qwz (n:=n+1) (by simp [lrun,hs,hn])
   | none =>
    cases hw:lval step vs σ with
    | none=>rfl
    | some r =>
     obtain ⟨n,hn⟩:=qn1 hw
     cases n with
     | zero=>cases hn
     | succ n =>
      simp only [lrun,hs] at hn
      rw [qwz hn] at hv
      cases hv
theorem qAr (n:Nat) (ss:List Nat) (fr:List PV):qca n (rsl ss fr)=rsl ss (qca n fr):=by
 unfold rsl
 induction ss with
 | nil=>rfl
 | cons s ss ih =>
  simp only [List.map_cons,qca,ih]
  congr 1
  clear ih
  induction fr generalizing s with
  | nil=>rfl
  | cons x fr ih =>
   cases s with
   | zero=>rfl
   | succ s=>simpa [qca] using ih s
theorem qA9 (n:Nat) (ss:List Nat) (fr:List PV):qco n (rsl ss fr)=rsl ss (qco n fr):=by
 unfold rsl
 induction ss with
 | nil=>rfl
 | cons s ss ih =>
  simp only [List.map_cons,qco,ih]
  congr 1
  clear ih
  induction fr generalizing s with
  | nil=>rfl
  | cons x fr ih =>
   cases s with
   | zero=>rfl
   | succ s=>simpa [qco] using ih s
section
variable {P : Program} {tb : Tab} {gl : Gl} {G : GamT}
theorem qo0 {c:Code} {fr:List PV} {σ σ2:Store} {fr1:List PV} {ss:List Nat} {e:PExit} (hd:Does P gl c fr σ e fr1 σ2) :
  ∃ fr3,fr3.length=fr1.length∧(qCt σ (rsl ss fr1) σ2).1=rsl ss fr3∧Does P gl c fr σ e fr3 (qCt σ (rsl ss fr1) σ2).2:=by
 unfold qCt
 split
 ·exact ⟨fr1,rfl,rfl,hd⟩
 ·exact ⟨_,qms _ _,qAr _ _ _,hd.drop (Nat.le_max_left _ _)⟩
theorem qx4 {c:Code} {fr:List PV} {σ σ2:Store} {fr1:List PV} {ss:List Nat} {e:PExit} (hd:Does P gl c fr σ e fr1 σ2) :
  ∃ fr3,fr3.length=fr1.length∧(qHo σ (rsl ss fr1) σ2).1=rsl ss fr3∧Does P gl c fr σ e fr3 (qHo σ (rsl ss fr1) σ2).2:=by
 unfold qHo
 split
 ·exact qo0 hd
 ·rw [qA9]
  obtain ⟨fr3,h1,h2,h3⟩:=qo0 (ss:=ss) (hd.trim (m:=max σ.toks.length (max (qrB (rsl ss fr1)) (qq3 (σ2.objs.take σ.objs.length)))) (Nat.le_max_left _ _))
  exact ⟨fr3,by rw [h1,qmm],h2,h3⟩
theorem qpk {c:Code} {fr:List PV} {σ σ2:Store} {fr1:List PV} {ss:List Nat} {e:PExit} (tr:Bool) (hd:Does P gl c fr σ e fr1 σ2) :
  ∃ fr3,fr3.length=fr1.length∧(qu7 tr σ (rsl ss fr1) σ2).1=rsl ss fr3∧Does P gl c fr σ e fr3 (qu7 tr σ (rsl ss fr1) σ2).2:=by
 cases tr with
 | true=>exact qx4 hd
 | false=>exact ⟨fr1,rfl,rfl,hd⟩
theorem qBf (hT:qbY P tb) (hΓ:qaR P gl (gam G)) (hm:P.follows .mixedOrders=true) {L:LpsT} {c:Code} (hL:qcj P gl (lps L) c) (hdr:qbE (gam G) c=true) {I:LI}:∀ (n:Nat) (vs:List PV) (σ:Store) (e:PExit) (vs':List PV) (σ':Store),
  lrun (lstep tb G L c I) n vs σ=some (e,vs',σ')→LDoes P gl c (mk I.nt (I.ss.zip vs)) σ e (mk I.nt ((I.os e).zip vs')) σ':=by
 intro n
 induction n with
 | zero=>intro vs σ e vs' σ' h; cases h
 | succ n ih =>
  intro vs σ e vs' σ' h
  simp only [lrun] at h
  split at h
  ·rename_i vs1 σ1 hs
   have hs:=Tr.flat_run hs
   obtain ⟨⟨e1,kn,fr1,σ2⟩,h1,h2⟩:=bind_some hs
   have hd:=Does.of_tree hT hΓ hm hL hdr h1
   simp only at h2
   split at h2
   ·rename_i hn
    cases e1 with
    | normal =>
     simp only [Tr.run_ret,Option.some.injEq,LR.next.injEq] at h2
     obtain ⟨rfl,rfl⟩:=h2
     obtain ⟨fr3,h3,h4,hd3⟩:=qpk (ss:=I.ss) I.tr hd
     rw [h4] at h
     refine LDoes.next hd3 (LDoes.into ?_ (ih _ _ _ _ _ h))
     have hw:=qlC fr3 I.ss
     rw [h3,hn] at hw
     exact hw
    | exit j=>simp [Tr.run_ret] at h2
    | ret=>simp [Tr.run_ret] at h2
   ·cases h2
  ·rename_i e1 vs1 σ1 hs
   simp only [Option.some.injEq,Prod.mk.injEq] at h
   obtain ⟨rfl,rfl,rfl⟩:=h
   have hs:=Tr.flat_run hs
   obtain ⟨⟨e2,kn,fr1,σ2⟩,h1,h2⟩:=bind_some hs
   have hd:=Does.of_tree hT hΓ hm hL hdr h1
   simp only at h2
   split at h2
   ·rename_i hn
    have fin:∀ e,e≠.normal→e2=e→LDoes P gl c (mk I.nt (I.ss.zip vs)) σ e (mk I.nt ((I.os e).zip (qu7 I.tr σ (rsl (I.os e) fr1) σ2).1)) (qu7 I.tr σ (rsl (I.os e) fr1) σ2).2:=by
     rintro e hne rfl
     obtain ⟨fr3,h3,h4,hd3⟩:=qpk (ss:=I.os e2) I.tr hd
     rw [h4]
     refine LDoes.outof (LDoes.out hd3 hne) ?_
     have hw:=qlC fr3 (I.os e2)
     rw [h3,hn] at hw
     exact hw
    cases e2 with
    | normal=>simp [Tr.run_ret] at h2
    | exit j =>
     simp only [Tr.run_ret,Option.some.injEq,LR.out.injEq] at h2
     obtain ⟨rfl,rfl,rfl⟩:=h2
     exact fin _ (by simp) rfl
    | ret =>
     simp only [Tr.run_ret,Option.some.injEq,LR.out.injEq] at h2
     obtain ⟨rfl,rfl,rfl⟩:=h2
     exact fin _ (by simp) rfl
   ·cases h2
  ·cases h
def orc (I:LI) (prop:List PV→Store→Tr (PExit × List PV × Store)) (fr:List PV) (σ:Store):Tr (PExit × List PV × Store) :=
 if fr.length=I.nt then bind (prop (rsl I.ss fr) σ) fun r=>.ret (r.1,mk I.nt ((I.os r.1).zip r.2.1),r.2.2) else .fail
theorem qcs (hT:qbY P tb) (hΓ:qaR P gl (gam G)) (hm:P.follows .mixedOrders=true) {L:LpsT} {c:Code} (hL:qcj P gl (lps L) c) (hdr:qbE (gam G) c=true) {I:LI} {prop:List PV→Store→Tr (PExit × List PV × Store)}
  (h:∀ vs σ r,(prop vs σ).run=some r→lval (lstep tb G L c I) vs σ=some r):∀ fr σ e fr' σ',(orc I prop fr σ).run=some (e,fr',σ')→LDoes P gl c fr σ e fr' σ':=by
 intro fr σ e fr' σ' hr
 unfold orc at hr
 split at hr
 ·rename_i hn
  obtain ⟨⟨e1,vs1,σ1⟩,h1,h2⟩:=bind_some hr
  simp only [Tr.run_ret,Option.some.injEq,Prod.mk.injEq] at h2
  obtain ⟨rfl,rfl,rfl⟩:=h2
  obtain ⟨n,hn'⟩:=qn1 (h _ _ _ h1)
  have hw:=qlC fr I.ss
  rw [hn] at hw
  exact LDoes.into hw (qBf hT hΓ hm hL hdr n _ _ _ _ _ hn')
 ·cases hr
theorem SimP.of_flat (hT : qbY P tb) (hΓ : qaR P gl (gam G)) (hm : P.follows .mixedOrders = true) {f : FuncId} {fn : Func} {c : Code} (hf : P.funcs[f]? = some fn) (hb : fn.body = some c) (hn : (fn.name == "runtime.NumGoroutine") = false)
  (hdr:qbE (gam G) c=true) {L:LpsT} (hL:qcj P gl (lps L) c) {F:List PV→Tr PV} (h:∀ args x,(F args).run=some x→(tcall tb G L fn args).flat.run=some x):SimP P gl f fun args=>(F args).run :=
 SimP.of_tree hT hΓ hm hf hb hn hdr hL fun args x hx _=>Tr.flat_run (h args x hx)
end
theorem SimS.of_flat {P : Program} {tb : Tab} {gl : Gl} {G : GamT} (hT : qbY P tb) (hΓ : qaR P gl (gam G)) (hm : P.follows .mixedOrders = true) {f : FuncId} {fn : Func} {c : Code} (hf : P.funcs[f]? = some fn) (hb : fn.body = some c) (hn : (fn.name == "runtime.NumGoroutine") = false)
  (hdr:qbE (gam G) c=true) {L:LpsT} (hL:qcj P gl (lps L) c) {D:List PV→Store→Tr (PV × Store)} (h:∀ args σ r,(D args σ).run=some r→(qlP tb G L fn args σ).flat.run=some r):SimS P gl f fun args σ=>(D args σ).run :=
 SimS.of_tree hT hΓ hm hf hb hn hdr hL fun args σ x σ' hx _=>Tr.flat_run (h args σ (x,σ') hx)
open Classical in
noncomputable def isW {α:Type} (W:Option α) (r:α):Bool:=decide (W=some r)
@[simp] theorem qGZ {α:Type} (a r:α):isW (some a) r=true↔a=r:=by simp [isW]
theorem qHC {α:Type} {W:Option α} {r:α} (h:isW W r=true):W=some r:=by simpa [isW] using h
theorem qai {α:Type} {W:Option α} {r r':α} {t:Tr α} (h:(Tr.ite (isW W r) (.ret r) t).run=some r') (k:t.run=some r'→W=some r'):W=some r':=by
 simp only [Tr.run_ite] at h
 split at h
 ·rename_i hs
  rw [qHC hs]
  simpa using h
 ·exact k h
def gInt:PV→Int | .int _ n=>n | _=>0
def qb4:PV→Bool | .bool b=>b | _=>false
def gStr:PV→List UInt8 | .str l=>l | _=>[]
def gRow:PV→List (List PV) | .sl l _=>l | _=>[]
def gCs:PV→List PV | .agg l=>l | .tup l=>l | .ref l=>l | .fn _ l=>l | .iface _ v=>[v] | _=>[]
def gAt (l:List PV) (i:Nat):PV:=l.getD i .top
def gVal (W:Option PV):PV:=W.getD .top
def gOut (W:Option (PExit × List PV × Store)) (i:Nat):PV:=match W with | some r=>r.2.1.getD i .top | none=>.top
def gObj (W:Option (PExit × List PV × Store)) (i:Nat):List PV:=match W with | some r=>r.2.2.objs.getD i [] | none=>[]
def gTok (W:Option (PExit × List PV × Store)) (i:Nat):Nat:=match W with | some r=>(r.2.2.toks.getD i (0,0,0)).1 | none=>0
def qee (W:Option (PV × Store)):Option (PExit × List PV × Store):=W.map fun r=>(.ret,[r.1],r.2)
@[simp] theorem asOut_some (x:PV) (σ:Store):qee (some (x,σ))=some (.ret,[x],σ):=rfl
@[simp] theorem qFV (k:IntKind) (n:Int):gInt (.int k n)=n:=rfl
@[simp] theorem gBool_bool (b:Bool):qb4 (.bool b)=b:=rfl
@[simp] theorem gStr_str (l:List UInt8):gStr (.str l)=l:=rfl
@[simp] theorem gRow_sl (l:List (List PV)) (t:Tag):gRow (.sl l t)=l:=rfl
@[simp] theorem gCs_agg (l:List PV):gCs (.agg l)=l:=rfl
@[simp] theorem gCs_tup (l:List PV):gCs (.tup l)=l:=rfl
@[simp] theorem gCs_ref (l:List PV):gCs (.ref l)=l:=rfl
@[simp] theorem gCs_fn (f:FuncId) (l:List PV):gCs (.fn f l)=l:=rfl
@[simp] theorem gCs_iface (t:TypeId) (v:PV):gCs (.iface t v)=[v]:=rfl
@[simp] theorem gAt_zero (x:PV) (l:List PV):gAt (x :: l) 0=x:=rfl
@[simp] theorem gAt_succ (x:PV) (l:List PV) (n:Nat):gAt (x :: l) (n+1)=gAt l n:=rfl
@[simp] theorem qB2 (x:PV):gVal (some x)=x:=rfl
@[simp] theorem gOut_some (e:PExit) (vs:List PV) (σ:Store) (i:Nat):gOut (some (e,vs,σ)) i=gAt vs i:=rfl
@[simp] theorem gObj_some (e:PExit) (vs:List PV) (os:List (List PV)) (ts:List (Nat × Nat × TypeId)) (tys:List TypeId) (i:Nat):gObj (some (e,vs,⟨os,ts,tys⟩)) i=os.getD i []:=rfl
@[simp] theorem gTok_some (e:PExit) (vs:List PV) (os:List (List PV)) (ts:List (Nat × Nat × TypeId)) (tys:List TypeId) (i:Nat):gTok (some (e,vs,⟨os,ts,tys⟩)) i=(ts.getD i (0,0,0)).1:=rfl
def qvx (r:Nat):Code→Option Code
 | .seq a b=>match qvx r a with
  | some c=>some c
  | none=>qvx r b
 | .cond _ a b=>match qvx r a with
  | some c=>some c
  | none=>qvx r b
 | .block _ c=>qvx r c
 | .loop c=>if rid c=r then some c else qvx r c
 | .scope c=>qvx r c
 | _=>none
def qeP (fn:Func) (r:Nat):Code:=match fn.body with
 | some c=>(qvx r c).getD .skip
 | none=>.skip
theorem qbg {P:Program} {gl:Gl} {L:Lps} {c:Code} (l:List (Nat × Code)) (h:qej c=l) (h1:∀ p ∈ l,∀ fr σ e fr' σ',L p.1 fr σ=some (e,fr',σ')→LDoes P gl p.2 fr σ e fr' σ') (hn:qdB c=[]:=by kernel_rfl):qcj P gl L c:=qqp (by rw [h]; exact h1) hn
theorem qtq {P:Program} {gl:Gl} {L:Lps} {c:Code} (l k:List (Nat × Code)) (h:qej c=l) (hk:qdB c=k) (h1:∀ p ∈ l,∀ fr σ e fr' σ',L p.1 fr σ=some (e,fr',σ')→LDoes P gl p.2 fr σ e fr' σ') (h2:∀ p ∈ k,∀ fr σ e fr' σ',L p.1 fr σ=some (e,fr',σ')→Does P gl p.2 fr σ e fr' σ'):qcj P gl L c:=qeC (by rw [h]; exact h1) (by rw [hk]; exact h2)
end Go.Pv
