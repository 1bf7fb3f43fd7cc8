/- Part 2 of the proof: pure values for the machine's values, what functions compute over them, and laws of what is computed. Conditions: none beyond each theorem's own premises. -/
import Derived.Test.YtlemepahgalogaaGreatDoorPvGc1
import Derived.RangeFuncLeaves
import Derived.RangeFuncRecord
import Derived.WalkKit
import Derived.ProofKit
import Derived.OpenShut
import Derived.Deep.DeepHandedRow
import Derived.Lib.LaidTab
import Derived.Carry
import Derived.Test.YtlemepahgalogaaGreatDoorProg
noncomputable section
set_option linter.unusedSimpArgs false
set_option linter.unusedVariables false
namespace Go.Pv
open Go.RowKit
theorem qBJ {Γ:Gam} {ops:List Oper} (h:qod Γ ops=true) :
  (∀ j o,ops[j]?=some o→∀ e∈o.after.toList,Region.binds .any e=true→e.on < j) ∧
  (∀ i j x o,i < j→ops[i]?=some x→ops[j]?=some o→qh1 Γ ops x o=true→Anc ops i j):=by
 have:=qjL (qh1 Γ ops) ops ops [] [] (by simp) (fun k i hk=>by simp at hk) rfl h
 exact⟨fun j o=>this.1 j o (Nat.zero_le _),fun i j x o=>this.2 i j x o (Nat.zero_le _)⟩
theorem qyv {o:Oper} {σ σ':Store}:∀ {l:List (Nat×Nat)} {p:Nat×Nat},qr7 o σ σ' l→p∈l→dirE o p.1=true∨σ'.objs[p.2]?=σ.objs[p.2]?
 |q::l,p,h,hp=>by
  rcases List.mem_cons.1 hp with rfl|hp
  ·exact h.1
  ·exact qyv h.2 hp
theorem qO0 {ops:List Oper} {j k:Nat} {o:Oper} (ho:ops[j]?=some o) (h:dirE o k=true):Anc ops k j:=by
 simp only [dirE,List.any_eq_true,Bool.and_eq_true] at h
 obtain⟨e,he,hb,hk⟩:=h;exact .edge j o e ho he hb (Nat.eq_of_beq_eq_true hk)
structure TraceN (tb:Tab) (Γ:Gam) (ops l:List Oper) (n j0:Nat) (lds:List (Nat×Nat)) (F:Nat→List PV) (S:Nat→Store) (X:Nat→PV):Prop where
 at_:∀ i o,i < n→l[i]?=some o→((pwanted ops (F i) o=some false∧X i=.tup []∧S (i+1)=S i)∨(pwanted ops (F i) o=some true∧pop tb Γ (F i) (S i) o=some (X i,S (i+1))))∧F (i+1)=pput (F i) o.dst (X i)
 keep:∀ i o,i < n→l[i]?=some o→writes Γ o=true→(∀ p∈lds,dirE o p.1=true∨(S (i+1)).objs[p.2]?=(S i).objs[p.2]?) ∧
  ∀ i' o' id,i' < i→l[i']?=some o'→pwanted ops (F i') o'=some true→ldOf (F i') o'=some id→dirE o (j0+i')=true∨(S (i+1)).objs[id]?=(S i).objs[id]?
def qRw (tb:Tab) (Γ:Gam) (ops l:List Oper) (n:Nat) (F:Nat→List PV) (S:Nat→Store):PM→Prop
 |.ok fr σ=>n=l.length∧F n=fr∧S n=σ
 |.pan x σ=>∃ o,l[n]?=some o∧pwanted ops (F n) o=some true∧pop tb Γ (F n) (S n) o=none∧ppan Γ (F n) (S n) o=some (x,σ)
theorem qxC {tb:Tab} {Γ:Gam} {ops:List Oper}:∀ (l:List Oper) (j0:Nat) (lds:List (Nat×Nat)) (fr:List PV) (σ:Store) (r:PM),qir tb Γ ops l j0 lds fr σ=some r →
  ∃ n F S X,n≤l.length∧F 0=fr∧S 0=σ∧TraceN tb Γ ops l n j0 lds F S X∧qRw tb Γ ops l n F S r:=by
 intro l
 induction l with
 |nil =>
  intro j0 lds fr σ r h;simp only [qir,Option.some.injEq] at h
  subst h;exact⟨0,fun _=>fr,fun _=>σ,fun _=>.top,Nat.le_refl _,rfl,rfl,⟨fun i o hi=>by omega,fun i o hi=>by omega⟩,rfl,rfl,rfl⟩
 |cons o l ih =>
  intro j0 lds fr σ r h;have key:∀ x σ1 lds1,qir tb Γ ops l (j0+1) lds1 (pput fr o.dst x) σ1=some r→((pwanted ops fr o=some false∧x=.tup []∧σ1=σ∧lds1=lds)∨(pwanted ops fr o=some true∧pop tb Γ fr σ o=some (x,σ1)∧(writes Γ o=true→qr7 o σ σ1 lds)∧lds1=qIR j0 lds (ldOf fr o))) →
    ∃ n F S X,n≤(o::l).length∧F 0=fr∧S 0=σ∧TraceN tb Γ ops (o::l) n j0 lds F S X∧qRw tb Γ ops (o::l) n F S r:=by
   intro x σ1 lds1 h hx;obtain⟨n,F,S,X,hn,hF,hS,ht,he⟩:=ih _ _ _ _ _ h;have hsub:∀ p∈lds,p∈lds1:=by
    intro p hp;rcases hx with⟨_,_,_,rfl⟩|⟨_,_,_,rfl⟩
    ·exact hp
    ·unfold qIR;split
     ·exact List.mem_cons_of_mem _ hp
     ·exact hp
   refine⟨n+1,fun i=>match i with|0=>fr|i+1=>F i,fun i=>match i with|0=>σ|i+1=>S i,fun i=>match i with|0=>x|i+1=>X i,by simp;omega,rfl,rfl,⟨fun i o' hi ho=>?_,fun i o' hi ho hw=>?_⟩,?_⟩
   ·cases i with
    |zero =>
     simp at ho;subst ho;refine⟨?_,by simp [hF]⟩
     rcases hx with⟨h1,h2,h3,_⟩|⟨h1,h2,_,_⟩
     ·exact .inl ⟨h1,h2,by rw [h3] at hS;exact hS⟩
     ·exact .inr ⟨h1,by show pop tb Γ fr σ o=some (x,S 0);rw [hS];exact h2⟩
    |succ i=>exact ht.at_ i o' (by omega) (by simpa using ho)
   ·cases i with
    |zero =>
     simp at ho;subst ho;refine⟨fun p hp=>?_,fun i' o' id hi'=>by omega⟩
     rcases hx with⟨h1,h2,h3,_⟩|⟨h1,h2,h3,_⟩
     ·exact .inr (by show (S 0).objs[p.2]?=σ.objs[p.2]?;rw [hS,h3])
     ·have:=qyv (h3 hw) hp;rcases this with this|this
      ·exact .inl this
      ·exact .inr (by show (S 0).objs[p.2]?=σ.objs[p.2]?;rw [hS,this])
    |succ i =>
     obtain⟨k1,k2⟩:=ht.keep i o' (by omega) (by simpa using ho) hw
     refine⟨fun p hp=>k1 p (hsub p hp),fun i' o1 id hi' ho1 hw1 hl1=>?_⟩
     cases i' with
     |zero =>
      simp at ho1;subst ho1;rcases hx with⟨h1,_⟩|⟨h1,h2,h3,rfl⟩
      ·rw [h1] at hw1;cases hw1
      ·have:=k1 (j0,id) (by rw [show ldOf fr o=some id from hl1];exact List.mem_cons_self ..)
       exact this
     |succ i' =>
      have:=k2 i' o1 id (by omega) (by simpa using ho1) hw1 hl1
      rw [show j0+(i'+1)=j0+1+i' from by omega]
      exact this
   ·cases r with
    |ok fr' σ' =>
     obtain⟨e1,e2,e3⟩:=he;exact⟨by simp [e1],e2,e3⟩
    |pan y σ' =>
     obtain⟨o',e1,e2⟩:=he;exact⟨o',by simpa using e1,e2⟩
  simp only [qir] at h
  split at h
  ·cases h
  ·rename_i hw;exact key _ _ _ h (.inl ⟨hw,rfl,rfl,rfl⟩)
  ·rename_i hw;split at h
   ·rename_i x σ1 hp;split at h
    ·rename_i hk;exact key _ _ _ h (.inr ⟨hw,hp,hk,rfl⟩)
    ·cases h
   ·rename_i hp;split at h
    ·rename_i x σ1 hpp;simp only [Option.some.injEq] at h
     subst h;exact⟨0,fun _=>fr,fun _=>σ,fun _=>.top,Nat.zero_le _,rfl,rfl,⟨fun i o hi=>by omega,fun i o hi=>by omega⟩,o,rfl,hw,hp,hpp⟩
    ·cases h
structure InvN (Γ:Gam) (ops:List Oper) (n:Nat) (F:Nat→List PV) (S:Nat→Store) (listed:Array Bool) (fr:List PV) (σ:Store):Prop where
 len:fr.length=(F 0).length
 lt:∀ j,In listed j→j < n
 closed:∀ j o,In listed j→ops[j]?=some o→∀ e∈o.after.toList,Region.binds .any e=true→In listed e.on
 frame:∀ t i,i≤n→(∀ j o,j < i→ops[j]?=some o→o.dst=some t→In listed j)→(∀ j o,i≤j→ops[j]?=some o→o.dst=some t→¬ In listed j)→fr[t]?=(F i)[t]?
 store:∀ i,i≤n→(∀ j o,j < i→ops[j]?=some o→writes Γ o=true→In listed j)→(∀ j o,i≤j→ops[j]?=some o→writes Γ o=true→¬ In listed j)→σ=S i
section
variable {tb : Tab} {Γ : Gam} {ops : List Oper} {n : Nat} {F : Nat → List PV} {S : Nat → Store} {X : Nat → PV} {listed : Array Bool} {fr : List PV} {σ : Store}
theorem TraceN.len {lds:List (Nat×Nat)} {j0:Nat} (ht:TraceN tb Γ ops ops n j0 lds F S X) (hn:n≤ops.length):∀ i,i≤n→(F i).length=(F 0).length:=by
 intro i
 induction i with
 |zero=>intro _;rfl
 |succ i ih =>
  intro hi;have:=(ht.at_ i _ (by omega) (List.getElem?_eq_getElem (by omega))).2
  rw [this,qsE,ih (by omega)]
theorem TraceN.still {lds : List (Nat × Nat)} {j0 : Nat} (ht : TraceN tb Γ ops ops n j0 lds F S X) (hn : n ≤ ops.length) {t i j : Nat} (hij : i ≤ j) (hj : j ≤ n) (h : ∀ k o, i ≤ k → k < j → ops[k]? = some o → o.dst ≠ some t) : (F j)[t]? = (F i)[t]? := by
  induction j with
  | zero => have : i = 0 := by omega
            rw [this]
  | succ j ih =>
    rcases Nat.eq_or_lt_of_le hij with rfl | hlt
    · rfl
    · have ho := List.getElem?_eq_getElem (l := ops) (i := j) (by omega)
      rw [(ht.at_ j _ (by omega) ho).2, qCr (h j _ (by omega) (by omega) ho)]
      exact ih (by omega) (by omega) (fun k o h1 h2 => h k o h1 (by omega))
theorem TraceN.stillS {lds : List (Nat × Nat)} {j0 : Nat} (ht : TraceN tb Γ ops ops n j0 lds F S X) (hn : n ≤ ops.length) {i j : Nat} (hij : i ≤ j) (hj : j ≤ n) (h : ∀ k o, i ≤ k → k < j → ops[k]? = some o → writes Γ o = false) : S j = S i := by
  induction j with
  | zero => have : i = 0 := by omega
            rw [this]
  | succ j ih =>
    rcases Nat.eq_or_lt_of_le hij with rfl | hlt
    · rfl
    · have ho := List.getElem?_eq_getElem (l := ops) (i := j) (by omega)
      have hw := h j _ (by omega) (by omega) ho
      have := ih (by omega) (by omega) (fun k o h1 h2 => h k o h1 (by omega))
      rcases (ht.at_ j _ (by omega) ho).1 with ⟨_, _, h3⟩ | ⟨_, h3⟩
      · rw [h3, this]
      · rw [qfC hw h3, this]
theorem TraceN.stillO {lds : List (Nat × Nat)} {j0 : Nat} (ht : TraceN tb Γ ops ops n j0 lds F S X) (hn : n ≤ ops.length) {i j id : Nat} (hij : i ≤ j) (hj : j ≤ n) (h : ∀ k o, i ≤ k → k < j → ops[k]? = some o → writes Γ o = true → (S (k + 1)).objs[id]? = (S k).objs[id]?) : (S j).objs[id]? = (S i).objs[id]? := by
  induction j with
  | zero => have : i = 0 := by omega
            rw [this]
  | succ j ih =>
    rcases Nat.eq_or_lt_of_le hij with rfl | hlt
    · rfl
    · have ho := List.getElem?_eq_getElem (l := ops) (i := j) (by omega)
      have h0 := ih (by omega) (by omega) (fun k o h1 h2 => h k o h1 (by omega))
      cases hw : writes Γ ops[j] with
      | true => rw [h j _ (by omega) (by omega) ho hw, h0]
      | false =>
        rcases (ht.at_ j _ (by omega) ho).1 with ⟨_, _, h3⟩ | ⟨_, h3⟩
        · rw [h3, h0]
        · rw [qfC hw h3, h0]
variable (hO : ∀ i j x o, i < j → ops[i]? = some x → ops[j]? = some o → qh1 Γ ops x o = true → Anc ops i j)
include hO
theorem InvN.sees (hI:InvN Γ ops n F S listed fr σ) {k:Nat} (hkn:k≤n) {o:Oper} (hk:ops[k]?=some o) (hn:¬ In listed k) (he:∀ e∈o.after.toList,Region.binds .any e=true→In listed e.on) :
  (∀ t∈looks ops o,fr[t]?=(F k)[t]?)∧(qbk true Γ o=true→σ=S k):=by
 refine⟨fun t ht=>?_,fun hr=>?_⟩
 ·refine hI.frame t k hkn (fun j o' hj ho hd=>?_) (fun j o' hj ho hd hin=>?_)
  ·refine In.of_anc' hI.closed (hO j k o' o hj ho hk ?_) hk he;simp [qh1,qdJ,hits,hd,ht]
  ·rcases Nat.eq_or_lt_of_le hj with rfl|hlt
   ·exact hn hin
   ·refine hn (In.of_anc hI.closed (hO k j o o' hlt hk ho ?_) hin);simp [qh1,qdJ,hits,hd,ht]
 ·refine hI.store k hkn (fun j o' hj ho hd=>?_) (fun j o' hj ho hd hin=>?_)
  ·refine In.of_anc' hI.closed (hO j k o' o hj ho hk ?_) hk he;simp [qh1,qdJ,hd,hr]
  ·rcases Nat.eq_or_lt_of_le hj with rfl|hlt
   ·exact hn hin
   ·refine hn (In.of_anc hI.closed (hO k j o o' hlt hk ho ?_) hin);simp [qh1,qdJ,hd,hr]
theorem InvN.someS (hI:InvN Γ ops n F S listed fr σ) (hnl:n≤ops.length):∃ i,i≤n∧σ=S i∧(∀ j o,j < i→ops[j]?=some o→writes Γ o=true→In listed j)∧(∀ j o,i≤j→ops[j]?=some o→writes Γ o=true→¬ In listed j):=by
 have key:∀ m i,i+m=n→(∀ j o,j < i→ops[j]?=some o→writes Γ o=true→In listed j)→∃ i,i≤n∧σ=S i∧(∀ j o,j < i→ops[j]?=some o→writes Γ o=true→In listed j)∧(∀ j o,i≤j→ops[j]?=some o→writes Γ o=true→¬ In listed j):=by
  intro m
  induction m with
  |zero =>
   intro i hi hlo;have hhi:∀ j o,i≤j→ops[j]?=some o→writes Γ o=true→¬ In listed j:=fun j o hj ho _ hin=>by have:=hI.lt j hin;omega
   exact⟨i,by omega,hI.store i (by omega) hlo hhi,hlo,hhi⟩
  |succ m ih =>
   intro i hi hlo;have ho:=List.getElem?_eq_getElem (l:=ops) (i:=i) (by omega)
   by_cases hx:writes Γ ops[i]=true∧¬ In listed i
   ·have hhi:∀ j o,i≤j→ops[j]?=some o→writes Γ o=true→¬ In listed j:=fun j o hj ho' hw hin=>by
     rcases Nat.eq_or_lt_of_le hj with rfl|hlt
     ·exact hx.2 hin
     ·exact hx.2 (In.of_anc hI.closed (hO i j _ o hlt ho ho' (by simp [qh1,qdJ,hx.1,hw,qbk])) hin)
    exact⟨i,by omega,hI.store i (by omega) hlo hhi,hlo,hhi⟩
   ·refine ih (i+1) (by omega) fun j o hj ho' hw=>?_
    by_cases hji:j < i
    ·exact hlo j o hji ho' hw
    ·have:j=i:=by omega
     subst this;rw [ho] at ho';cases ho'
     apply Classical.byContradiction;intro hn;exact hx ⟨hw,hn⟩
 exact key n 0 (by omega) (fun j o hj=>by omega)
theorem InvN.next {lds:List (Nat×Nat)} {j0:Nat} (ht:TraceN tb Γ ops ops n j0 lds F S X) (hnl:n≤ops.length) (hI:InvN Γ ops n F S listed fr σ) {k:Nat} (hkn:k < n) {o:Oper} (hk:ops[k]?=some o) (hks:k < listed.size) (hn:¬ In listed k)
  (he:∀ e∈o.after.toList,Region.binds .any e=true→In listed e.on) {σ':Store} (hσ:(writes Γ o=true→σ'=S (k+1))∧(writes Γ o=false→σ'=σ)) :
  InvN Γ ops n F S (listed.setIfInBounds k true) (pput fr o.dst (X k)) σ':=by
 refine⟨by rw [qsE,hI.len],fun j hj=>?_,fun j o' hj ho e he' hb=>?_,fun t i hi hlo hhi=>?_,fun i hi hlo hhi=>?_⟩
 ·rcases (qbG hks).1 hj with rfl|hj
  ·exact hkn
  ·exact hI.lt j hj
 ·rw [qbG hks] at hj ⊢;rcases hj with rfl|hj
  ·rw [hk] at ho;cases ho
   exact .inr (he e he' hb)
  ·exact .inr (hI.closed j o' hj ho e he' hb)
 ·by_cases hd:o.dst=some t
  ·have hki:k < i:=by
    apply Nat.lt_of_not_le;intro hle;exact hhi k o hle hk hd ((qbG hks).2 (.inl rfl))
   have hst:=ht.still hnl (t:=t) (i:=k+1) (j:=i) (by omega) hi (fun j o' hj1 hj2 ho hd'=>by
    have hin:=(qbG hks).1 (hlo j o' hj2 ho hd');rcases hin with rfl|hin
    ·omega
    ·exact hn (In.of_anc hI.closed (hO k j o o' (by omega) hk ho (by simp [qh1,qdJ,hd,hd'])) hin))
   rw [hst,(ht.at_ k o hkn hk).2,hd];simp only [pput,List.getElem?_set];simp [hI.len,ht.len hnl k (by omega)]
  ·rw [qCr hd];refine hI.frame t i hi (fun j o' hj ho hd'=>?_) (fun j o' hj ho hd' hin=>hhi j o' hj ho hd' ((qbG hks).2 (.inr hin)))
   rcases (qbG hks).1 (hlo j o' hj ho hd') with rfl|h
   ·rw [hk] at ho;cases ho
    exact absurd hd' hd
   ·exact h
 ·cases hw:writes Γ o with
  |true =>
   have hki:k < i:=by
    apply Nat.lt_of_not_le;intro hle;exact hhi k o hle hk hw ((qbG hks).2 (.inl rfl))
   have hst:=ht.stillS hnl (i:=k+1) (j:=i) (by omega) hi (fun j o' hj1 hj2 ho=>by
    cases hw':writes Γ o' with
    |false=>rfl
    |true =>
     have hin:=(qbG hks).1 (hlo j o' hj2 ho hw');rcases hin with rfl|hin
     ·omega
     ·exact absurd (In.of_anc hI.closed (hO k j o o' (by omega) hk ho (by simp [qh1,qdJ,hw,hw',qbk])) hin) hn)
   rw [hst,hσ.1 hw]
  |false =>
   rw [hσ.2 hw];refine hI.store i hi (fun j o' hj ho hd'=>?_) (fun j o' hj ho hd' hin=>hhi j o' hj ho hd' ((qbG hks).2 (.inr hin)))
   rcases (qbG hks).1 (hlo j o' hj ho hd') with rfl|h
   ·rw [hk] at ho;cases ho
    rw [hw] at hd';cases hd'
   ·exact h
theorem InvN.load {lds:List (Nat×Nat)} {j0:Nat} (hj0:j0=0) (ht:TraceN tb Γ ops ops n j0 lds F S X) (hnl:n≤ops.length) (hI:InvN Γ ops n F S listed fr σ) {k:Nat} (hkn:k < n) {o:Oper} (hk:ops[k]?=some o) (hn:¬ In listed k)
  (he:∀ e∈o.after.toList,Region.binds .any e=true→In listed e.on) (hr:reads Γ o=true) (hf:qbk true Γ o=false) (hw:pwanted ops (F k) o=some true) (hp:pop tb Γ (F k) (S k) o=some (X k,S (k+1))):pop tb Γ (F k) σ o=some (X k,σ):=by
 obtain⟨i,hi,rfl,hlo,hhi⟩:=hI.someS hO hnl;cases ho:o.op with
 |load t a =>
  refine qon ho hp fun id off hev=>?_
  have hld:ldOf (F k) o=some id:=by simp only [ldOf,ho,hev]
  by_cases hik:i≤k
  ·rw [ht.stillS hnl (i:=i) (j:=k) hik (by omega) (fun j o' hj1 hj2 ho'=>by
    cases hw':writes Γ o' with
    |false=>rfl
    |true =>
     have h1:=hO j k o' o hj2 ho' hk (by simp [qh1,hw',hr])
     exact absurd (In.of_anc' hI.closed h1 hk he) (hhi j o' hj1 ho' hw'))]
  ·refine ht.stillO hnl (i:=k) (j:=i) (by omega) hi fun j o' hj1 hj2 ho' hw'=>?_
   rcases Nat.eq_or_lt_of_le hj1 with rfl|hlt
   ·rw [hk] at ho';cases ho'
    simp [qbk,hw'] at hf
   ·rcases (ht.keep j o' (by omega) ho' hw').2 k o id hlt hk hw hld with hd|hd
    ·rw [hj0,Nat.zero_add] at hd;exact absurd (In.of_anc hI.closed (qO0 ho' hd) (hlo j o' hj2 ho' hw')) hn
    ·exact hd
 |_ =>
  exfalso
  unfold reads qbk at hr;unfold qbk at hf;simp only [ho] at hr hf
  simp_all
end
section
variable {P : Program} {tb : Tab} {gl : Gl} {Γ : Gam} {H0 : Gh} {w0 : World} {Q : Exit → Act → World → Prop}
theorem qSq {fr fr':List PV} {σ:Store} {o:Oper} (h:∀ x∈o.op.operands.toList,ev fr x=ev fr' x):ppan Γ fr σ o=ppan Γ fr' σ o:=by
 unfold ppan;cases ho:o.op<;>simp only [ho,Op.operands] at h ⊢
 case panic x=>rw [h x (by simp)]
 case call c =>
  split
  ·rename_i f hf;have h1:ev fr f=ev fr' f:=h f (by simp [Call.operands,hf])
   have h2:c.args.toList.map (ev fr)=c.args.toList.map (ev fr'):=qHi fun x hx=>h x (by simp [Call.operands,hf];exact .inr (by simpa using hx))
   rw [h1,h2]
  ·rfl
theorem qLm {fr:List PV} {σ:Store} {o:Oper} {r:PV×Store} (h:ppan Γ fr σ o=some r):mayP Γ o=true∧qbk true Γ o=true:=by
 unfold ppan at h
 unfold mayP qbk;cases ho:o.op<;>simp only [ho] at h ⊢<;>(try cases h)
 case panic x=>simp
 case call c =>
  split at h
  ·rename_i f hf;have hrd:qh5 c=true:=by simp [qh5,hf]
   refine⟨?_,by simp [hrd]⟩
   cases f with
   |func g =>
    simp only [hf,ev] at h ⊢;split at h
    ·rename_i D hD;simp only [hD]
    ·cases h
   |_ =>
    simp only [hf];split at h
    ·split at h
     ·split at h
      ·rename_i hd;simpa [qxA] using hd
      ·cases h
     ·cases h
    ·split at h
     ·split at h
      ·rename_i hd;simpa [qxA] using hd
      ·cases h
     ·cases h
    ·cases h
  ·cases h
theorem qJK (hT:qaN P tb) (hΓ:qal P gl Γ) {ops:Array Oper} (hord:qod Γ ops.toList=true) {n:Nat} (hnl:n≤ops.toList.length) {F:Nat→List PV} {S:Nat→Store} {X:Nat→PV} (ht:TraceN tb Γ ops.toList ops.toList n 0 [] F S X) {r:PM} (hend:qRw tb Γ ops.toList ops.toList n F S r)
  (hq:∀ fr σ,r=.ok fr σ→∀ a' w',St gl H0 w0 fr σ a' w'→Q .normal a' w') (hqp:∀ x σ,r=.pan x σ→∀ a' w',St gl H0 w0 (List.replicate (F 0).length .top) σ a' w'→Q (.panic [{ v:=toV x,recovered:=false }]) a' w') :
  ∀ (fuel:Nat) (listed:Array Bool) (fr:List PV) (σ:Store) (a:Act) (w:World),listed.size=ops.size→listed.toList.count false≤fuel→InvN Γ ops.toList n F S listed fr σ→St gl H0 w0 fr σ a w→∀ (r:Option Nat) (m:Nat),wpAnyIn (rnd r) m P .any ops Q fuel listed a w:=by
 obtain⟨h1,hO⟩:=qBJ hord;have hsz:ops.toList.length=ops.size:=by simp
 have all:∀ (listed:Array Bool),listed.size=ops.size→Region.ready .any ops listed=[]→∀ i,i < ops.size→In listed i:=by
  intro listed hs hr i
  induction i using Nat.strongRecOn with
  |_ i ih =>
   intro hi;apply Classical.byContradiction;intro hn;have hmem:i∈Region.ready .any ops listed:=by
    unfold Region.ready;rw [List.mem_filter];refine⟨List.mem_range.2 hi,?_⟩;have e1:listed.getD i true=false:=by
     have hb:i < listed.size:=by omega
     unfold In at hn;rw [Array.getD_eq_getD_getElem?,Array.getElem?_eq_getElem hb] at hn ⊢;simpa using hn
    have e2:ops[i]?=some ops[i]:=Array.getElem?_eq_getElem hi;simp only [e1,e2,Option.map_some,Option.getD_some,Bool.not_false,Bool.true_and,Array.all_eq_true'];intro e he;cases hb:Region.binds .any e with
    |false=>rfl
    |true =>
     have hlt:=h1 i ops[i] (by rw [Array.getElem?_toList];exact e2) e (Array.mem_toList_iff.2 he) hb
     have:=ih e.on hlt (by omega)
     simpa [In] using this
   rw [hr] at hmem;cases hmem
 have done:∀ (listed:Array Bool) (fr:List PV) (σ:Store) (a:Act) (w:World),listed.size=ops.size→InvN Γ ops.toList n F S listed fr σ→St gl H0 w0 fr σ a w→Region.ready .any ops listed=[]→Q .normal a w:=by
  intro listed fr σ a w hs hI hst hr;have ha:=all listed hs hr;cases r with
  |pan x σ' =>
   obtain⟨o,e1,_⟩:=hend;have hlt:=(List.getElem?_eq_some_iff.1 e1).1;have:=hI.lt n (ha n (by omega))
   omega
  |ok fr' σ' =>
   obtain⟨e0,e1,e2⟩:=hend;have e3:fr=F n:=by
    apply List.ext_getElem?;intro t;refine hI.frame t n (Nat.le_refl _) (fun j o hj _ _=>ha j (by omega)) (fun j o hj ho=>?_)
    have:=(List.getElem?_eq_some_iff.1 ho).1;omega
   have e4:σ=S n:=by
    refine hI.store n (Nat.le_refl _) (fun j o hj _ _=>ha j (by omega)) (fun j o hj ho=>?_)
    have:=(List.getElem?_eq_some_iff.1 ho).1;omega
   subst e3 e4;exact hq _ _ rfl a w (by rw [← e1,← e2];exact hst)
 intro fuel
 induction fuel with
 |zero =>
  intro listed fr σ a w hs hc hI hst;have hr:Region.ready .any ops listed=[]:=by
   unfold Region.ready;rw [List.filter_eq_nil_iff];intro i hi;have hi:=List.mem_range.1 hi;have hb:i < listed.size:=by omega
   have:listed.getD i true=true:=by
    rw [Array.getD_eq_getD_getElem?,Array.getElem?_eq_getElem hb];have h0:false∉listed.toList:=List.count_eq_zero.1 (by omega)
    cases hl:listed[i] with
    |true=>rfl
    |false=>exact absurd (by rw [← hl];simp) h0
   simp [this]
  exact fun r n=>⟨hr,done listed fr σ a w hs hI hst hr⟩
 |succ fuel ih =>
  intro listed fr σ a w hs hc hI hst r' m;refine⟨done listed fr σ a w hs hI hst,fun k hk=>?_⟩
  unfold Region.ready at hk;rw [List.mem_filter] at hk;obtain⟨hk,hk'⟩:=hk;have hk:=List.mem_range.1 hk;have hb:k < listed.size:=by omega
  have e2:ops[k]?=some ops[k]:=Array.getElem?_eq_getElem hk;simp only [e2,Option.map_some,Option.getD_some,Bool.and_eq_true,Bool.not_eq_true'] at hk';obtain⟨hk1,hk2⟩:=hk';have hko:ops.toList[k]?=some ops[k]:=by rw [Array.getElem?_toList];exact e2
  have hlk:listed[k]?=some false:=by
   rw [Array.getD_eq_getD_getElem?,Array.getElem?_eq_getElem hb] at hk1;rw [Array.getElem?_eq_getElem hb];simpa using hk1
  have hn:¬ In listed k:=by
   unfold In;rw [Array.getD_eq_getD_getElem?,hlk];simp
  have he:∀ e∈ops[k].after.toList,Region.binds .any e=true→In listed e.on:=by
   intro e he hbd;have:=Array.all_eq_true'.1 hk2 e (Array.mem_toList_iff.1 he);simpa [hbd,In] using this
  -- the one that panics comes ahead of all behind it
  have hkn:k≤n:=by
   apply Nat.le_of_not_lt;intro hlt;cases r with
   |ok fr' σ'=>obtain⟨e0,_⟩:=hend;omega
   |pan x σ' =>
    obtain⟨o,e1,_,_,e4⟩:=hend;have:=In.of_anc' hI.closed (hO n k o ops[k] hlt e1 hko (by simp [qh1,(qLm e4).1])) hko he
    have:=hI.lt n this;omega
  obtain⟨hsee,hsto⟩:=hI.sees hO hkn hko hn he;have hwan:pwanted ops.toList fr ops[k]=pwanted ops.toList (F k) ops[k]:=by
   unfold pwanted;cases hg:ops[k].guard with
   |none=>rfl
   |some jb =>
    obtain⟨j,b⟩:=jb;simp only [];cases hd:(ops.toList[j]?).bind (·.dst) with
    |none=>rfl
    |some d =>
     have:fr[d]?=(F k)[d]?:=hsee d (by simp [looks,hg];exact .inr (by rw [Array.getElem?_toList] at hd;simp [hd]))
     simp only [Option.bind_some,this]
  have hevs:∀ x∈ops[k].op.operands.toList,ev fr x=ev (F k) x:=by
   intro x hx;cases x with
   |tmp t =>
    have:fr[t]?=(F k)[t]?:=hsee t (by
     simp only [looks,List.mem_append,List.mem_filterMap];exact .inl ⟨_,hx,rfl⟩)
    simp only [ev,List.getD_eq_getElem?_getD,this]
   |const v=>rfl
   |global g=>rfl
   |func f=>rfl
  have hpop:∀ s,pop tb Γ fr s ops[k]=pop tb Γ (F k) s ops[k]:=fun s=>qLp hevs
  unfold wpOpIn;simp only [e2];rcases Nat.eq_or_lt_of_le hkn with rfl|hkn
  ·-- it panics
   cases r with
   |ok fr' σ'=>obtain⟨e0,_⟩:=hend;omega
   |pan x σ' =>
    obtain⟨o,e1,e3,e4,e5⟩:=hend;rw [hko] at e1;cases e1
    have hwn:=qbZ hst (hwan.trans e3);simp only [hwn,if_true];have hs':=hsto (qLm e5).2;have hpp:ppan Γ fr σ ops[k]=some (x,σ'):=by rw [qSq hevs,hs'];exact e5
    obtain⟨H,hev,hok,hfr,hd⟩:=hst;refine qrb hΓ hok hfr hpp r' m _ Q fun w' ⟨H',hev',hok'⟩=>hqp x σ' rfl a w' ⟨H',hev.trans hev',hok',qOd ?_,hd.ev hev'⟩
    rw [← hfr.len,hI.len]
  ·have hcount:(listed.setIfInBounds k true).toList.count false≤fuel:=by
    have:=qv3 listed.toList k (by rw [Array.getElem?_toList];exact hlk)
    simp only [Array.toList_setIfInBounds];omega
   have hsize:(listed.setIfInBounds k true).size=ops.size:=by simp [hs]
   rcases (ht.at_ k ops[k] hkn hko).1 with⟨hw,hx,hS⟩|⟨hw,hp⟩
   ·have hwn:=qbZ hst (hwan.trans hw);simp only [hwn];refine⟨fun _ _=>trivial,ih _ _ σ _ _ hsize hcount ?_ (qv9 hst _) r' m⟩
    have:=hI.next hO ht hnl hkn hko hb hn he (σ':=σ) ⟨fun hwr=>?_,fun _=>rfl⟩
    ·rw [hx] at this;exact this
    ·rw [hS];exact hsto (by simp [qbk,hwr])
   ·have hwn:=qbZ hst (hwan.trans hw);simp only [hwn,if_true];cases hr:qbk true Γ ops[k] with
    |true =>
     have hs':=hsto hr;have hp':pop tb Γ fr σ ops[k]=some (X k,S (k+1)):=by rw [hpop,hs'];exact hp
     refine qnN hT hΓ hst hp' (fun a' w' hst'=>ih _ _ _ _ _ hsize hcount (hI.next hO ht hnl hkn hko hb hn he ⟨fun _=>rfl,fun hwf=>?_⟩) hst' r' m) r' m
     rw [qfC hwf hp,hs']
    |false =>
     have hwf:writes Γ ops[k]=false:=by
      cases hwr:writes Γ ops[k] with
      |false=>rfl
      |true=>simp [qbk,hwr] at hr
     have hp':pop tb Γ fr σ ops[k]=some (X k,σ):=by
      rw [hpop];cases hr0:reads Γ ops[k] with
      |false=>exact qv7 hr0 hp σ
      |true=>exact hI.load hO rfl ht hnl hkn hko hn he hr0 hr hw hp
     refine qnN hT hΓ hst hp' (fun a' w' hst'=>ih _ _ _ _ _ hsize hcount (hI.next hO ht hnl hkn hko hb hn he ⟨fun h=>?_,fun _=>rfl⟩) hst' r' m) r' m
     rw [hwf] at h
     cases h
theorem qpQ (hT:qaN P tb) (hΓ:qal P gl Γ) (hm:P.follows .mixedOrders=true) {id:Nat} {ops:Array Oper} {fr:List PV} {σ:Store} {a:Act} {w:World} (hst:St gl H0 w0 fr σ a w) {r:PM}
  (h:qir tb Γ ops.toList ops.toList 0 [] fr σ=some r) (hd:qod Γ ops.toList=true)
  (hq:∀ fr σ,r=.ok fr σ→∀ a' w',St gl H0 w0 fr σ a' w'→Q .normal a' w') (hqp:∀ x σ,r=.pan x σ→∀ a' w',St gl H0 w0 (List.replicate fr.length .top) σ a' w'→Q (.panic [{ v:=toV x,recovered:=false }]) a' w') (r':Option Nat) (m:Nat):(Code.region id ops true).wpIn (rnd r') m P Q a w:=by
 refine wpIn_region_any hm ?_;obtain⟨n,F,S,X,hn,hF,hS,ht,he⟩:=qxC _ _ _ _ _ _ h;have no:∀ i,¬ In (Array.replicate ops.size false) i:=by
  intro i;unfold In;rw [Array.getD_eq_getD_getElem?];by_cases hi:i < ops.size
  ·simp [Array.getElem?_replicate,hi]
  ·simp [Array.getElem?_replicate,hi]
 refine qJK hT hΓ hd hn ht he hq (by rw [hF];exact hqp) ops.size (Array.replicate ops.size false) fr σ _ _ (by simp) (Nat.le_trans List.count_le_length (by simp)) ⟨by rw [hF],fun j hj=>absurd hj (no j),fun j o hj=>absurd hj (no j),fun t i hi hlo hhi=>?_,fun i hi hlo hhi=>?_⟩ (qEY hst) r' m
 ·rw [ht.still hn (i:=0) (j:=i) (Nat.zero_le _) hi (fun k o _ hk ho hd=>no k (hlo k o hk ho hd)),hF]
 ·rw [ht.stillS hn (i:=0) (j:=i) (Nat.zero_le _) hi (fun k o _ hk ho=>by
   cases hw:writes Γ o with
   |false=>rfl
   |true=>exact absurd (hlo k o hk ho hw) (no k)),hS]
end
end Go.Pv
set_option linter.unusedSimpArgs false
set_option linter.unusedVariables false
namespace Go.Pv
open Go.RowKit
def PExit.as:PExit→Exit
 |.normal=>.normal
 |.exit id=>.exit id
 |.ret=>.ret
 |.pan x=>.panic [{ v:=toV x,recovered:=false }]
section
variable {P : Program} {tb : Tab} {gl : Gl} {Γ : Gam} {H0 : Gh} {w0 : World}
def RIn (r:Option Nat) (H:Gh):Prop:=∀ l,r=some l→∃ (t:Nat) (T:Tok),H.tk[t]?=some T∧T.k=0∧T.blk=l
theorem RIn.none (H:Gh):RIn none H:=fun l h=>by cases h
theorem RIn.ev {gl:Gl} {r:Option Nat} {H H':Gh} {w w':World} (h:RIn r H) (e:Ev gl H w H' w'):RIn r H':=fun l hl=>by
 obtain⟨t,T,h1,h2,h3⟩:=h l hl;obtain⟨T',g1,g2⟩:=e.tok t T h1;obtain⟨a1,a2,_⟩:=g2.lp h2;exact⟨t,T',g1,a1,a2.trans h3⟩
def Does (P:Program) (gl:Gl) (c:Code) (fr:List PV) (σ:Store) (e:PExit) (fr':List PV) (σ':Store):Prop :=
 ∀ (r:Option Nat) (n:Nat) (H0:Gh) (w0:World),RIn r H0→∀ (Q:Exit→Act→World→Prop) (a:Act) (w:World),St gl H0 w0 fr σ a w→(∀ a' w',St gl H0 w0 fr' σ' a' w'→Q e.as a' w')→c.wpIn (rnd r) n P Q a w
def LDoes (P:Program) (gl:Gl) (c:Code) (fr:List PV) (σ:Store) (e:PExit) (fr':List PV) (σ':Store):Prop :=
 ∀ (H0:Gh) (w0:World) (Q:Exit→Act→World→Prop) (a:Act) (w:World),St gl H0 w0 fr σ a w→(∀ a' w',St gl H0 w0 fr' σ' a' w'→Q e.as a' w') →
  ∀ (b:Frame) (k:List Item) (cs:List Frame),RIn b.roundOf H0→∃ e a' w',Q e a' w'∧ArrivesIn (Machine.fenced P (rnd b.roundOf)) P (lone (b.atR a (.code c::.inLoop c::k)) cs w) b k cs e a' w'
def Weak:List PV→List PV→Prop
 |[],[]=>True
 |x::xs,y::ys=>(y=.top∨y=x)∧Weak xs ys
 |_,_=>False
theorem Weak.refl:∀ (xs:List PV),Weak xs xs
 |[]=>trivial
 |_::xs=>⟨.inr rfl,Weak.refl xs⟩
theorem Weak.rel {H:Gh} {w:World}:∀ {xs ys:List PV} {vs:List Value},Weak xs ys→RelL H w xs vs→RelL H w ys vs
 |[],[],_,_,h=>h
 |x::xs,y::ys,_,hw,h=>by
  cases h with
  |cons _ v _ vs h ht =>
   refine .cons _ _ _ _ ?_ (Weak.rel hw.2 ht);rcases hw.1 with rfl|rfl
   ·exact .top v
   ·exact h
 |[],_::_,_,hw,_=>hw.elim
 |_::_,[],_,hw,_=>hw.elim
theorem qBp {H0:Gh} {w0:World} {fr fr':List PV} {σ:Store} {a:Act} {w:World} (hw:Weak fr fr') (h:St gl H0 w0 fr σ a w):St gl H0 w0 fr' σ a w:=by
 obtain⟨H,hev,hok,hfr,hd⟩:=h;exact⟨H,hev,hok,hw.rel hfr,hd⟩
theorem LDoes.into {c:Code} {fr fr1:List PV} {σ:Store} {e:PExit} {fr':List PV} {σ':Store} (hw:Weak fr fr1) (h:LDoes P gl c fr1 σ e fr' σ'):LDoes P gl c fr σ e fr' σ' :=
 fun H0 w0 Q a w hst hq=>h H0 w0 Q a w (qBp hw hst) hq
theorem LDoes.outof {c:Code} {fr:List PV} {σ:Store} {e:PExit} {fr1 fr':List PV} {σ':Store} (h:LDoes P gl c fr σ e fr1 σ') (hw:Weak fr1 fr'):LDoes P gl c fr σ e fr' σ' :=
 fun H0 w0 Q a w hst hq=>h H0 w0 Q a w hst fun a' w' hs=>hq a' w' (qBp hw hs)
theorem LDoes.next {c:Code} {fr:List PV} {σ:Store} {fr1:List PV} {σ1:Store} {e:PExit} {fr':List PV} {σ':Store} (h:Does P gl c fr σ .normal fr1 σ1) (h':LDoes P gl c fr1 σ1 e fr' σ'):LDoes P gl c fr σ e fr' σ':=by
 intro H0 w0 Q a w hst hq b k cs hR;obtain⟨e1,a1,w1,hq1,harr⟩:=h b.roundOf 0 H0 w0 hR (fun e' a' w'=>e'=.normal∧St gl H0 w0 fr1 σ1 a' w') a w hst (fun a' w' hs=>⟨rfl,hs⟩) b (.inLoop c::k) cs rfl trivial (qsT _ _)
 obtain⟨rfl,hs⟩:=hq1;obtain⟨e2,a2,w2,hq2,harr2⟩:=h' H0 w0 Q a1 w1 hs hq b k cs hR;exact⟨e2,a2,w2,hq2,.of_steps (StepsIn.trans harr (.one (fenced_calm (n:=0) trivial (qsT _ _) rfl) stepR_inLoop)) harr2⟩
theorem LDoes.out {c:Code} {fr:List PV} {σ:Store} {e:PExit} {fr':List PV} {σ':Store} (h:Does P gl c fr σ e fr' σ') (hne:e≠.normal):LDoes P gl c fr σ e fr' σ':=by
 intro H0 w0 Q a w hst hq b k cs hR;obtain⟨e1,a1,w1,hq1,harr⟩:=h b.roundOf 0 H0 w0 hR (fun e' a' w'=>e'=e.as∧Q e' a' w') a w hst (fun a' w' hs=>⟨rfl,hq a' w' hs⟩) b (.inLoop c::k) cs rfl trivial (qsT _ _)
 obtain⟨rfl,hq1⟩:=hq1;cases e with
 |normal=>exact absurd rfl hne
 |exit id=>exact⟨_,a1,w1,hq1,.pass (x:=.inLoop c) rfl (fun _ _=>.inl (by simp [PExit.as])) harr⟩
 |ret=>exact⟨_,a1,w1,hq1,.pass (x:=.inLoop c) rfl (fun _ _=>.inl (by simp [PExit.as])) harr⟩
 |pan x=>exact⟨_,a1,w1,hq1,.pass (x:=.inLoop c) rfl (fun _ _=>.inl (by simp [PExit.as])) harr⟩
def qbe (P:Program) (gl:Gl) (L:Lps):Code→Prop
 |.seq a b=>qbe P gl L a∧qbe P gl L b
 |.cond _ a b=>qbe P gl L a∧qbe P gl L b
 |.block _ c=>qbe P gl L c
 |.loop c=>∀ fr σ e fr' σ',L (rid c) fr σ=some (e,fr',σ')→LDoes P gl c fr σ e fr' σ'
 |.rangeFunc g ps x y=>∀ fr σ e fr' σ',L (rfid x y) fr σ=some (e,fr',σ')→Does P gl (.rangeFunc g ps x y) fr σ e fr' σ'
 |_=>True
def qaH (Γ:Gam):Code→Bool
 |.region _ ops draw=>match qxs Γ ops.toList draw with
  |true=>qod Γ ops.toList
  |false=>!draw || ordered Γ ops.toList || (mixed ops.toList&&qbR true Γ ops.toList)
 |.seq a b=>qaH Γ a&&qaH Γ b
 |.cond _ a b=>qaH Γ a&&qaH Γ b
 |.block _ c=>qaH Γ c
 |.loop _=>true
 |_=>true
theorem qaJ (hT:qaN P tb) (hΓ:qal P gl Γ) (hm:P.follows .mixedOrders=true) {L:Lps}:∀ (c:Code) (fr:List PV) (σ:Store) (e:PExit) (fr':List PV) (σ':Store),
  qbe P gl L c→qaH Γ c=true→pexec tb Γ L c fr σ=some (e,fr',σ')→Does P gl c fr σ e fr' σ':=by
 intro c
 induction c with
 |skip =>
  intro fr σ e fr' σ' hL hd h r n H0 w0 hR Q a w hst hq;simp only [pexec,Option.some.injEq,Prod.mk.injEq] at h
  obtain⟨rfl,rfl,rfl⟩:=h;exact wpIn_skip (hq _ _ hst)
 |label l =>
  intro fr σ e fr' σ' hL hd h r n H0 w0 hR Q a w hst hq;simp only [pexec,Option.some.injEq,Prod.mk.injEq] at h
  obtain⟨rfl,rfl,rfl⟩:=h;exact wpIn_label (hq _ _ hst)
 |exit id =>
  intro fr σ e fr' σ' hL hd h r n H0 w0 hR Q a w hst hq;simp only [pexec,Option.some.injEq,Prod.mk.injEq] at h
  obtain⟨rfl,rfl,rfl⟩:=h;exact wpIn_exit (hq _ _ hst)
 |ret =>
  intro fr σ e fr' σ' hL hd h r n H0 w0 hR Q a w hst hq;simp only [pexec,Option.some.injEq,Prod.mk.injEq] at h
  obtain⟨rfl,rfl,rfl⟩:=h;exact wpIn_ret (hq _ _ hst)
 |region id ops draw =>
  intro fr σ e fr' σ' hL hd h r n H0 w0 hR Q a w hst hq;simp only [pexec] at h
  simp only [qaH] at hd;cases hdp:qxs Γ ops.toList draw with
  |true =>
   simp only [hdp] at h hd;have hdr:draw=true:=by cases draw with|true=>rfl|false=>cases hdp
   subst hdr;cases hp:qir tb Γ ops.toList ops.toList 0 [] fr σ with
   |none=>simp only [hp] at h;cases h
   |some q =>
    refine qpQ hT hΓ hm hst hp hd (fun fr1 σ1 hq1 a' w' hst'=>?_) (fun x σ1 hq1 a' w' hst'=>?_) r n
    ·subst hq1;simp only [hp,Option.some.injEq,Prod.mk.injEq] at h
     obtain⟨rfl,rfl,rfl⟩:=h;exact hq _ _ hst'
    ·subst hq1;simp only [hp,Option.some.injEq,Prod.mk.injEq] at h
     obtain⟨rfl,rfl,rfl⟩:=h;exact hq _ _ hst'
  |false =>
  simp only [hdp] at h hd;split at h
  ·rename_i fr1 σ1 hp;split at h
   ·cases h
   rename_i hna;simp only [Option.some.injEq,Prod.mk.injEq] at h
   obtain⟨rfl,rfl,rfl⟩:=h;refine qCZ hT hΓ hm hst hp (fun hdr=>?_) (fun a' w' hst'=>hq _ _ hst') r n
   simp only [hdr,Bool.not_true,Bool.false_or,Bool.or_eq_true,Bool.and_eq_true] at hd;rcases hd with hd|⟨hd1,hd2⟩
   ·exact .inl hd
   ·cases ho:ordered Γ ops.toList with
    |true=>exact .inl rfl
    |false =>
     refine .inr ⟨hd2,?_⟩;cases hal:qeB Γ ops.toList fr1 σ.objs.length with
     |true=>rfl
     |false=>simp [qNj,hdr,hd1,ho,hal] at hna
  ·split at h
   ·cases h
   ·split at h
    ·rename_i x σ1 hp;simp only [Option.some.injEq,Prod.mk.injEq] at h
     obtain⟨rfl,rfl,rfl⟩:=h;exact wpIn_region_list (qEJ hT hΓ ops.toList fr σ a w x σ1 rfl hst hp hq r n)
    ·cases h
 |seq x y ihx ihy =>
  intro fr σ e fr' σ' hL hd h r n H0 w0 hR Q a w hst hq;simp only [qaH,Bool.and_eq_true] at hd;simp only [pexec] at h
  refine wpIn_seq ?_;split at h
  ·rename_i fr1 σ1 hx;exact ihx _ _ _ _ _ hL.1 hd.1 hx r n H0 w0 hR _ _ _ hst fun a1 w1 hst1=>ihy _ _ _ _ _ hL.2 hd.2 h r n H0 w0 hR _ _ _ hst1 hq
  ·rename_i hne;refine ihx _ _ _ _ _ hL.1 hd.1 h r n H0 w0 hR _ _ _ hst fun a1 w1 hst1=>?_
   cases e with
   |normal=>exact absurd h (hne _ _)
   |exit id=>exact hq _ _ hst1
   |ret=>exact hq _ _ hst1
   |pan x=>exact hq _ _ hst1
 |cond c x y ihx ihy =>
  intro fr σ e fr' σ' hL hd h r n H0 w0 hR Q a w hst hq;simp only [qaH,Bool.and_eq_true] at hd;simp only [pexec] at h
  split at h
  ·rename_i t ht;have hr:a.eval c=.bool t:=by
    obtain⟨H,hev,hok,hfr,hd⟩:=hst;have hr:=qaL hfr c;rw [ht] at hr;generalize a.eval c=v at hr;cases hr
    rfl
   refine wpIn_cond hr ?_;cases t with
   |true=>exact ihx _ _ _ _ _ hL.1 hd.1 h r n H0 w0 hR _ _ _ hst hq
   |false=>exact ihy _ _ _ _ _ hL.2 hd.2 h r n H0 w0 hR _ _ _ hst hq
  ·cases h
 |block id c ih =>
  intro fr σ e fr' σ' hL hd h r n H0 w0 hR Q a w hst hq;simp only [pexec] at h
  refine wpIn_block ?_;split at h
  ·rename_i j fr1 σ1 hx;split at h
   ·rename_i hj;subst hj;simp only [Option.some.injEq,Prod.mk.injEq] at h
    obtain⟨rfl,rfl,rfl⟩:=h;refine ih _ _ _ _ _ hL hd hx r n H0 w0 hR _ _ _ hst fun a1 w1 hst1=>?_
    simp only [PExit.as,Exit.inBlock,if_true];exact hq _ _ hst1
   ·rename_i hj;simp only [Option.some.injEq,Prod.mk.injEq] at h
    obtain⟨rfl,rfl,rfl⟩:=h;refine ih _ _ _ _ _ hL hd hx r n H0 w0 hR _ _ _ hst fun a1 w1 hst1=>?_
    simp only [PExit.as,Exit.inBlock,hj,if_false];exact hq _ _ hst1
  ·rename_i hne;refine ih _ _ _ _ _ hL hd h r n H0 w0 hR _ _ _ hst fun a1 w1 hst1=>?_
   cases e with
   |normal=>exact hq _ _ hst1
   |exit j=>exact absurd h (hne _ _ _)
   |ret=>exact hq _ _ hst1
   |pan x=>exact hq _ _ hst1
 |loop c ih =>
  intro fr σ e fr' σ' hL hd h r n H0 w0 hR Q a w hst hq;simp only [pexec] at h
  intro b k cs hro hb hroom;obtain rfl:b.roundOf=r:=hro;obtain⟨e1,a1,w1,hq1,harr⟩:=hL fr σ e fr' σ' h H0 w0 Q a w hst hq b k cs hR;exact⟨e1,a1,w1,hq1,.of_steps (.one (fenced_calm (n:=0) trivial (qsT _ _) rfl) stepR_loop) harr⟩
 |scope c ih=>intro fr σ e fr' σ' hL hd h;simp [pexec] at h
 |goto l=>intro fr σ e fr' σ' hL hd h;simp [pexec] at h
 |refuse s=>intro fr σ e fr' σ' hL hd h;simp [pexec] at h
 |rangeFunc f ps x y ihx ihy =>
  intro fr σ e fr' σ' hL hd h;simp only [pexec] at h
  exact hL fr σ e fr' σ' h
def resF (tmps:Array Value):ResultVar→Sem Value
 |.tmp t=>pure (tmps.getD t undef)
 |.cell c t=>do loadVar t (← asAddr (tmps.getD c undef))
theorem qJz (hT:qaN P tb) {H:Gh} {σ:Store} {w:World} (hok:Ok gl H σ w) {fr:List PV} {a:Act} (hfr:RelL H w fr a.tmps.toList) {r:ResultVar} {x:PV} (h:presult tb fr σ r=some x) :
  ∃ v,(resF a.tmps r).run P w=.ok v w∧Rel H w x v:=by
 have get:∀ t,Rel H w (fr.getD t .top) (a.tmps.getD t undef):=fun t=>by
  have:=hfr.getD t undef;rw [Array.getD_eq_getD_getElem?];rw [List.getD_eq_getElem?_getD] at this ⊢;simpa using this
 cases r with
 |tmp t =>
  simp only [presult,Option.some.injEq] at h
  subst h;exact⟨_,rfl,get t⟩
 |cell c t =>
  simp only [presult] at h
  split at h
  ·rename_i K id off hK hx;split at h
   ·rename_i cs hcs;have hr:=get c;rw [hx] at hr;generalize hv:a.tmps.getD c undef=v at hr;cases hr with
    |ptr _ _ b hb =>
     obtain⟨u,hu,hru⟩:=qIm hT hok hK (.ptr id off b hb) (.inl ⟨id,off,cs,rfl,hcs,h⟩);refine⟨u,?_,hru⟩;simp only [Instr.loadAt,Instr.sureAddr,Sem.run_bind,Sem.run_pure,Result.andThen_ok] at hu;simp only [resF,hv,asAddr,Sem.run_bind,Sem.run_pure,Result.andThen_ok];exact hu
   ·cases h
  ·cases h
theorem qdX (hT:qaN P tb) {H:Gh} {σ:Store} {w:World} (hok:Ok gl H σ w) {fr:List PV} {a:Act} (hfr:RelL H w fr a.tmps.toList):∀ (rs:List ResultVar) (xs:List PV),presults tb fr σ rs=some xs →
  ∃ vs,(rs.mapM (resF a.tmps)).run P w=.ok vs w∧RelL H w xs vs
 |[],xs,h=>by
  simp only [presults,Option.some.injEq] at h
  subst h;exact⟨[],by simp,.nil⟩
 |r::rs,xs,h=>by
  simp only [presults] at h
  split at h
  ·rename_i x xs' h1 h2;simp only [Option.some.injEq] at h
   subst h;obtain⟨v,hv,hr⟩:=qJz hT hok hfr h1;obtain⟨vs,hvs,hrs⟩:=qdX hT hok hfr rs xs' h2;refine⟨v::vs,?_,.cons _ _ _ _ hr hrs⟩;rw [List.mapM_cons];simp only [Sem.run_bind,hv,Result.andThen_ok,hvs,Sem.run_pure]
  ·cases h
theorem qUJ {gl:Gl} {H H':Gh} {w w':World} (hev:Ev gl H w H' w') (ho:H.ob=[]) (ht:H.tk=[]) {x:PV} {v:Value} (h:Rel H' w' x v):Rel { H with aux:=fun _ _=>False } w' (shut x) v:=by
 refine qut (fun b off hp=>⟨⟨hp.1,fun hB=>?_,by simp [ho],by simp [ht]⟩,fun _=>rfl⟩) h
 have:=hp.2.1;rw [hev.B,hev.base] at this;exact this hB
theorem qvr {gl:Gl} {H H':Gh} {σ:Store} {w w':World} (hev:Ev gl H w H' w') (hok:Ok gl H' σ w') (ho:H.ob=[]) (ht:H.tk=[]) {x:PV} {v:Value} (h:Rel H' w' x v):Rel { H with aux:=fun _ _=>False } w' (shut (oview σ.objs x)) v:=by
 cases x with
 |osl id off len k =>
  simp only [oview];split
  ·rename_i cs hcs;split
   ·rename_i hle;cases h with
    |osl _ _ off' _ cap _ b hb hoff hcap hm =>
     obtain⟨hB,us,ext,T,he,hr⟩:=hok.obj id b cs hb hcs;have hchunks:=qlK (H:=H') (w:=w') k len _ _ (hr.drop off);have hp:∀ b off,H'.prot w' b off→({ H with aux:=fun _ _=>False }:Gh).prot w' b off∧∀ s,w'.cell? ⟨b,off,s⟩=w'.cell? ⟨b,off,s⟩:=fun b off hp=>⟨⟨hp.1,fun hB=>by
      have:=hp.2.1;rw [hev.B,hev.base] at this;exact this hB,by simp [ho],by simp [ht]⟩,fun _=>rfl⟩
     simp only [shut];refine .sl (some ⟨b,off',none⟩) len cap k _ (vchunks k len (us.drop off)) .non (by rw [qr0];exact ql0 _ _ _) hcap hm (qqV hp hchunks) (fun i vs hi=>?_) trivial
     obtain⟨rfl,hil⟩:=qna k len _ i vs hi;obtain rfl:=hoff (by omega)
     have hul:=hr.len;have hik:i * k+k≤len * k:=by
      have:(i+1) * k≤len * k:=Nat.mul_le_mul_right k hil
      rwa [Nat.add_mul,Nat.one_mul] at this
     refine⟨by simp;omega,_,rfl,fun j u hj=>?_⟩
     have hjk:j < k:=by
      have:=(List.getElem?_eq_some_iff.1 hj).1;simp at this;omega
     have hcell:us[off'+i * k+j]?=some u:=by
      rw [List.getElem?_take,if_pos hjk,List.getElem?_drop,List.getElem?_drop] at hj;rw [← hj]
      congr 1
      omega
     rw [qbJ,qbJ];refine⟨⟨qak he,fun hlt=>?_,by simp [ho],by simp [ht]⟩,?_⟩
     ·have:H.B≤b:=(hev.obn b (List.mem_of_getElem? hb)).resolve_left (by simp [ho])
      have:b < H.B:=hlt;omega
     ·rw [cell_of_row w' b (off'+i * k+j) (us++ext).toArray T (0,0) he];simpa using qCd hcell
   ·simp only [shut];exact .top _
  ·simp only [shut];exact .top _
 |_=>exact qUJ hev ho ht h
theorem qrK {gl:Gl} {H H':Gh} {σ:Store} {w w':World} (hev:Ev gl H w H' w') (hok:Ok gl H' σ w') (ho:H.ob=[]) (ht:H.tk=[]):∀ {xs:List PV} {vs:List Value},RelL H' w' xs vs→RelL { H with aux:=fun _ _=>False } w' (qa4 (xs.map (oview σ.objs))) vs
 |_,_,.nil=>by simp only [List.map_nil,qa4];exact .nil
 |_,_,.cons x v xs vs h hs=>by simp only [List.map_cons,qa4];exact .cons _ _ _ _ (qvr hev hok ho ht h) (qrK hev hok ho ht hs)
theorem qg2 {fn:Func} {tmps:Array Value}:results fn tmps=(do
  let vs ← fn.results.toList.mapM (resF tmps)
  pure (if h:vs.toArray.size=1 then vs.toArray[0] else .tuple vs.toArray)):=by
 have h:∀ g:ResultVar→Sem Value,(∀ r,g r=resF tmps r)→(do
   let vs ← fn.results.mapM g
   pure (if h:vs.size=1 then vs[0] else .tuple vs):Sem Value)=(do
   let vs ← fn.results.toList.mapM (resF tmps)
   pure (if h:vs.toArray.size=1 then vs.toArray[0] else .tuple vs.toArray)):=by
  intro g hg;have:g=resF tmps:=funext hg;subst this;rw [Array.mapM_eq_mapM_toList];simp only [bind_map_left]
 exact h _ (fun r=>by cases r<;>rfl)
theorem Mono.trans {H H1 H2:Gh} {w w1 w2:World} (h:Mono H w H1 w1) (k:Mono H1 w1 H2 w2):Mono H w H2 w2 where
 ob:=fun id b e=>k.ob id b (h.ob id b e)
 tok:=qCX h.tok k.tok
 prot:=fun b off e=>by
  obtain⟨p1,c1⟩:=h.prot b off e;obtain⟨p2,c2⟩:=k.prot b off p1;exact⟨p2,fun s=>(c2 s).trans (c1 s)⟩
 prot2:=fun b off e=>by
  obtain⟨p1,c1⟩:=h.prot2 b off e;obtain⟨p2,c2⟩:=k.prot2 b off p1;exact⟨p2,fun s=>(c2 s).trans (c1 s)⟩
theorem Mono.setK (H:Gh) (w:World) (k:Nat×List Deferred):Mono { H with K:=k } w H w:=⟨fun _ _ h=>h,fun t T h=>⟨T,h,.refl T⟩,fun b off h=>⟨h,fun _=>rfl⟩,fun b off h=>⟨h,fun _=>rfl⟩⟩
theorem Mono.setK' (H:Gh) (w:World) (k:Nat×List Deferred):Mono H w { H with K:=k } w:=⟨fun _ _ h=>h,fun t T h=>⟨T,h,.refl T⟩,fun b off h=>⟨h,fun _=>rfl⟩,fun b off h=>⟨h,fun _=>rfl⟩⟩
theorem Ok.setK {gl:Gl} {H:Gh} {σ:Store} {w:World} (h:Ok gl H σ w) (k:Nat×List Deferred):Ok gl { H with K:=k } σ w :=
 ⟨h.B,h.gl,h.len,fun id b cs e1 e2=>by
  obtain⟨h1,vs,ext,T,he,hr⟩:=h.obj id b cs e1 e2;exact⟨h1,vs,ext,T,he,hr.mono (Mono.setK' H w k)⟩,h.nd,h.tkl,fun t T e hvv=>by
  obtain⟨h1,h2,o,he,ho⟩:=h.tok t T e hvv;exact⟨h1,h2,o,he,ho.mono (Mono.setK' H w k)⟩,h.tnd,h.tyl,h.ty⟩
theorem Ev.setK {gl:Gl} {H H':Gh} {w w':World} {k:Nat×List Deferred} (h:Ev gl { H with K:=k } w H' w'):Ev gl H w { H' with K:=H.K } w' :=
 ⟨h.B,h.base,h.aux,rfl,h.os,h.tape,h.output,h.size,h.ob,h.tok,h.prot,h.block,h.dr,h.fix,h.old,h.obn⟩
theorem qbO (w:World) (r:Nat) (o:Obj):(w.putObj r o).heap.size=w.heap.size:=by simp [World.putObj]
theorem qMg {gl:Gl} {H H':Gh} {w w1:World} {D:Nat} {ds ds':Option (List Deferred)} (h:Ev gl H w H' w1) (hB:H.B≤D) (hw:w.heap.size≤D) (hd:w1.heap[D]?=some (.deferred ds)):Ev gl H w H' (w1.putObj D (.deferred ds')) where
 B:=h.B
 base:=h.base
 aux:=h.aux
 K:=h.K
 os:=h.os
 tape:=h.tape
 output:=h.output
 size:=by rw [qbO];exact h.size
 ob:=h.ob
 tok:=h.tok
 prot:=fun b off hp=>by
  obtain⟨h1,h2⟩:=h.prot b off hp;have hne:b≠D:=fun e=>by have:=hp.1;omega
  exact⟨⟨by rw [qbO];exact h1.1,h1.2⟩,fun s=>(World.cell?_of_block (a:=⟨b,off,s⟩) (World.putObj_heap_other hne)).trans (h2 s)⟩
 block:=fun b hb hno=>(World.putObj_heap_other (by omega)).trans (h.block b hb hno)
 dr:=h.dr
 fix:=fun b l hb=>(World.putObj_heap_other (by have:=qak hb;omega)).trans (h.fix b l hb)
 old:=h.old
 obn:=h.obn
theorem qol {H:Gh} {w:World} {D:Nat} {ds ds':Option (List Deferred)} (hd:w.heap[D]?=some (.deferred ds)):Mono H w H (w.putObj D (.deferred ds')):=by
 have hs:(w.putObj D (.deferred ds')).heap.size=w.heap.size:=qbO ..;have hlt:=qak hd;have hc:∀ b off s,(w.putObj D (.deferred ds')).cell? ⟨b,off,s⟩=w.cell? ⟨b,off,s⟩:=fun b off s=>by
  by_cases e:b=D
  ·subst e;simp only [World.cell?,World.putObj_heap_same hlt,hd]
  ·exact World.cell?_of_block (a:=⟨b,off,s⟩) (World.putObj_heap_other e)
 refine⟨fun _ _ h=>h,fun t T h=>⟨T,h,.refl T⟩,fun b off hp=>⟨⟨by rw [hs];exact hp.1,hp.2⟩,hc b off⟩,fun b off hp=>⟨?_,hc b off⟩⟩
 rcases hp with hp|hp
 ·exact .inl ⟨by rw [hs];exact hp.1,hp.2⟩
 ·exact .inr hp
theorem qL5 {gl:Gl} {H:Gh} {σ:Store} {w:World} {D:Nat} {ds ds':Option (List Deferred)} (h:Ok gl H σ w) (hB:H.B≤D) (hd:w.heap[D]?=some (.deferred ds)):Ok gl H σ (w.putObj D (.deferred ds')) where
 B:=by rw [qbO];exact h.B
 gl:=fun b o e=>⟨(h.gl b o e).1,(World.putObj_heap_other (by have:=(h.gl b o e).1;omega)).trans (h.gl b o e).2⟩
 len:=h.len
 obj:=fun id b cs e1 e2=>by
  obtain⟨h1,vs,ext,T,he,hr⟩:=h.obj id b cs e1 e2;have hne:b≠D:=fun e=>by subst e;rw [he] at hd;cases hd
  exact⟨h1,vs,ext,T,(World.putObj_heap_other hne).trans he,hr.mono (qol hd)⟩
 nd:=h.nd
 tkl:=h.tkl
 tok:=fun t T e hvv=>by
  obtain⟨h1,h2,o,he,ho⟩:=h.tok t T e hvv;have hne:T.blk≠D:=fun e=>by
   subst e;rw [he] at hd;cases hd
   rcases ho with⟨_,cur,fz,e,_⟩|⟨_,_,r,e,_⟩<;>cases e
  exact⟨h1,h2,o,(World.putObj_heap_other hne).trans he,ho.mono (qol hd)⟩
 tnd:=h.tnd
 tyl:=h.tyl
 ty:=fun id b T cs e1 e2 e3 hT=>by
  obtain⟨us,he,hs⟩:=h.ty id b T cs e1 e2 e3 hT;have hne:b≠D:=fun e=>by subst e;rw [he] at hd;cases hd
  exact⟨us,(World.putObj_heap_other hne).trans he,hs⟩
theorem qkG {P:Program} {gl:Gl} {fn:Func} {tmps:Array Value} {R:Ending→World→Prop} {H H':Gh} {w0:World} {σ:Store} (hB:H.B≤w0.heap.size) (hB':H'.B=H.B) :
  ∀ (Ds:List Nat) (w:World),Ev gl H w0 H' w→Ok gl H' σ w→Mono H' w H' w→Ds.Nodup→(∀ D∈Ds,w0.heap.size≤D∧w.heap[D]?=some (.deferred (some []))) →
   (∀ w',Ev gl H w0 H' w'→Ok gl H' σ w'→Mono H' w H' w'→∃ v,(results fn tmps).run P w'=.ok v w'∧R (.returned v) w') →
   LeavesInM (rnd none) 0 P fn tmps R (Ds.map fun D=>{ target:=.collected D,args:=#[] }) .returning w
 |[],w,hev,hok,_,_,_,hR=>by
  obtain⟨v,h1,h2⟩:=hR w hev hok (Ev.refl (gl:=gl) H' w).mono;exact⟨v,h1,h2⟩
 |D::Ds,w,hev,hok,hmo,hnd,hD,hR=>by
  obtain⟨d1,d2⟩:=hD D (List.mem_cons_self ..);have hBD:H.B≤D:=Nat.le_trans hB d1;have hnd':=List.nodup_cons.1 hnd;refine⟨by simp,.inl ⟨D,w.putObj D (.deferred none),rfl,run_takeDeferred d2,?_⟩⟩
  have hev':=qMg (ds':=none) hev hBD d1 d2;have hok':=qL5 (ds':=none) hok (by rw [hB'];exact hBD) d2
  have hm':=qol (H:=H') (ds':=none) d2;refine qkG hB hB' Ds _ hev' hok' (Ev.refl (gl:=gl) H' _).mono hnd'.2 (fun D' hD'=>?_) (fun w' e1 e2 e3=>hR w' e1 e2 (hm'.trans e3))
  obtain⟨x1,x2⟩:=hD D' (List.mem_cons_of_mem _ hD');exact⟨x1,(World.putObj_heap_other (fun e=>hnd'.1 (by rw [← e];exact hD'))).trans x2⟩
theorem qpf {P:Program} {gl:Gl} {fn:Func} {tmps:Array Value} {R:Ending→World→Prop} {H H':Gh} {w0:World} {σ:Store} {u:FrameMode} {rest:List Deferred} (hu:u≠.run) (hB:H.B≤w0.heap.size) (hB':H'.B=H.B) :
  ∀ (Ds:List Nat) (w:World),Ev gl H w0 H' w→Ok gl H' σ w→Mono H' w H' w→Ds.Nodup→(∀ D∈Ds,w0.heap.size≤D∧w.heap[D]?=some (.deferred (some []))) →
   (∀ w',Ev gl H w0 H' w'→Ok gl H' σ w'→Mono H' w H' w'→LeavesInM (rnd none) 0 P fn tmps R rest u w') →
   LeavesInM (rnd none) 0 P fn tmps R (Ds.map (fun D=>{ target:=.collected D,args:=#[] })++rest) u w
 |[],w,hev,hok,_,_,_,hR=>hR w hev hok (Ev.refl (gl:=gl) H' w).mono
 |D::Ds,w,hev,hok,hmo,hnd,hD,hR=>by
  obtain⟨d1,d2⟩:=hD D (List.mem_cons_self ..);have hBD:H.B≤D:=Nat.le_trans hB d1;have hnd':=List.nodup_cons.1 hnd;refine⟨hu,.inl ⟨D,w.putObj D (.deferred none),rfl,run_takeDeferred d2,?_⟩⟩;have hev':=qMg (ds':=none) hev hBD d1 d2;have hok':=qL5 (ds':=none) hok (by rw [hB'];exact hBD) d2
  have hm':=qol (H:=H') (ds':=none) d2;refine qpf hu hB hB' Ds _ hev' hok' (Ev.refl (gl:=gl) H' _).mono hnd'.2 (fun D' hD'=>?_) (fun w' e1 e2 e3=>hR w' e1 e2 (hm'.trans e3))
  obtain⟨x1,x2⟩:=hD D' (List.mem_cons_of_mem _ hD');exact⟨x1,(World.putObj_heap_other (fun e=>hnd'.1 (by rw [← e];exact hD'))).trans x2⟩
theorem SimP.of_does (hT : qaN P tb) {f : FuncId} {fn : Func} {c : Code} (hf : P.funcs[f]? = some fn) (hb : fn.body = some c) (hn : (fn.name == "runtime.NumGoroutine") = false)
  {F:List PV→Option PV} (h:∀ args x,F args=some x→(∃ H w vs,RelL H w args vs)→∃ (e:PExit) (fr:List PV) (σ:Store) (xs:List PV),(e=.normal∨e=.ret)∧Does P gl c (args++List.replicate (fn.ntmps - args.length) .top) ⟨[],[],[]⟩ e fr σ∧presults tb fr σ fn.results.toList=some xs∧pout (xs.map (oview σ.objs))=x):SimP P gl f F where
 ent:=⟨fn,hf,hn,by simp [hb]⟩
 run:=by
  intro args x hx H w vs hB hob htk hgl hrel;obtain⟨e,fr0,σ0,xs0,he,hdo,hxs0,hpo0⟩:=h args x hx ⟨H,w,vs,hrel⟩;refine qpH (r:=none) (n:=0) (callsIn_of_wp_marks hf hb trivial ?_);have hst:St gl { H with K:=(w.heap.size,[]) } w (args++List.replicate (fn.ntmps - args.length) .top) ⟨[],[],[]⟩ { tmps:=vs.toArray++Array.replicate (fn.ntmps - vs.toArray.size) undef,defers:=[] } w:=by
   refine⟨{ H with K:=(w.heap.size,[]) },Ev.refl _ w,⟨by show H.B≤_;rw [hB];exact Nat.le_refl _,fun b o e=>⟨by show b < H.B;rw [hB];exact qak (hgl b o e),hgl b o e⟩,by simp [hob],fun id b cs e=>by simp [hob] at e,fun i j b e=>by simp [hob] at e,by simp [htk],fun t T e=>by simp [htk] at e,fun t u T U e=>by simp [htk] at e,rfl,fun id b T cs e=>by simp [hob] at e⟩,?_,Marks.nil (Nat.le_refl _)⟩
   have hl:=hrel.len;have e:(vs.toArray++Array.replicate (fn.ntmps - vs.toArray.size) undef).toList=vs++List.replicate (fn.ntmps - args.length) undef:=by simp [hl]
   rw [e];refine (hrel.mono (Mono.setK' H w _)).app ?_;have:=RelL.tops (H:={ H with K:=(w.heap.size,[]) }) (w:=w) (List.replicate (fn.ntmps - args.length) undef)
   simpa using this
  have fin:∀ (fr:List PV) (σ:Store) (a:Act) (w':World) (xs:List PV),St gl { H with K:=(w.heap.size,[]) } w fr σ a w'→presults tb fr σ fn.results.toList=some xs→pout (xs.map (oview σ.objs))=x →
    LeavesInM (rnd none) 0 P fn a.tmps (fun e w'=>∃ v,e=.returned v∧(Below w.heap.size w w'∧Dr gl w w')∧Rel { H with aux:=fun _ _=>False } w' x v) a.defers .returning w':=by
   intro fr σ a w1 xs hst hxs hx;obtain⟨H',hev1,hok1,hfr1,_,Ds,hds,hnd,hD⟩:=hst;rw [hds,hev1.K,List.append_nil];refine qkG (gl:=gl) (H:={ H with K:=(w.heap.size,[]) }) (H':=H') (w0:=w) (σ:=σ) (by show H.B≤_;rw [hB];exact Nat.le_refl _) hev1.B Ds w1 hev1 hok1 (Ev.refl (gl:=gl) H' w1).mono hnd (fun D hDs=>by have h1:=hD D hDs;rw [hev1.K] at h1;exact h1) ?_
   intro w' hev hok hmo;have hfr:=hfr1.mono hmo;obtain⟨vs',hvs,hrs⟩:=qdX hT hok hfr _ _ hxs;have hbel:Below w.heap.size w w':=⟨hev.os,hev.tape,hev.output,hev.size,fun b hlt=>hev.block b (by show b < H.B;rw [hB];exact hlt) (by show b∉H.ob;rw [hob];simp)⟩
   have hrun:(results fn a.tmps).run P w'=.ok (if h:vs'.toArray.size=1 then vs'.toArray[0] else .tuple vs'.toArray) w':=by
    rw [qg2];simp only [Sem.run_bind,hvs,Result.andThen_ok,Sem.run_pure]
   have back:∀ {y:PV} {u:Value},Rel { { H with K:=(w.heap.size,[]) } with aux:=fun _ _=>False } w' y u→Rel { H with aux:=fun _ _=>False } w' y u:=fun h=>Rel.mono (Mono.setK { H with aux:=fun _ _=>False } w' (w.heap.size,[])) h
   have backL:∀ {y:List PV} {u:List Value},RelL { { H with K:=(w.heap.size,[]) } with aux:=fun _ _=>False } w' y u→RelL { H with aux:=fun _ _=>False } w' y u:=fun h=>RelL.mono (Mono.setK { H with aux:=fun _ _=>False } w' (w.heap.size,[])) h
   refine⟨_,hrun,_,rfl,⟨hbel,hev.dr⟩,?_⟩;subst hx;have hl:=hrs.len;cases hrs with
   |nil =>
    simp only [List.map_nil,pout,qa4];exact .tup [] [] .nil
   |cons y v ys us hy hys =>
    cases hys with
    |nil=>exact back (qvr hev hok hob htk hy)
    |cons y2 v2 ys us hy2 hys =>
     have h1:¬ ((v::v2::us).toArray.size=1):=by simp
     rw [dif_neg h1];exact .tup _ _ (backL (qrK hev hok hob htk (.cons _ _ _ _ hy (.cons _ _ _ _ hy2 hys))))
  rcases he with rfl|rfl
  ·exact hdo none 0 _ w (RIn.none _) _ _ _ hst fun a' w' hst'=>fin fr0 σ0 a' w' xs0 hst' hxs0 hpo0
  ·exact hdo none 0 _ w (RIn.none _) _ _ _ hst fun a' w' hst'=>fin fr0 σ0 a' w' xs0 hst' hxs0 hpo0
theorem SimP.of_pcall (hT : qaN P tb) (hΓ : qal P gl Γ) (hm : P.follows .mixedOrders = true) {f : FuncId} {fn : Func} {c : Code} (hf : P.funcs[f]? = some fn) (hb : fn.body = some c) (hn : (fn.name == "runtime.NumGoroutine") = false)
  (hdr:qaH Γ c=true) {F:List PV→Option PV} (h:∀ args x,F args=some x→(∃ H w vs,RelL H w args vs)→∃ L,qbe P gl L c∧pcall tb Γ L fn args=some x):SimP P gl f F:=by
 refine SimP.of_does hT hf hb hn fun args x hx hr=>?_
 obtain⟨L,hL,hn⟩:=h args x hx hr;simp only [pcall,hb] at hn;split at hn
 ·rename_i fr σ he;obtain⟨xs,hxs,hpo⟩:=qaC hn;exact⟨.normal,fr,σ,xs,.inl rfl,qaJ hT hΓ hm c _ _ .normal fr σ hL hdr he,hxs,hpo⟩
 ·rename_i fr σ he;obtain⟨xs,hxs,hpo⟩:=qaC hn;exact⟨.ret,fr,σ,xs,.inr rfl,qaJ hT hΓ hm c _ _ .ret fr σ hL hdr he,hxs,hpo⟩
 ·cases hn
theorem SimS.of_does (hT : qaN P tb) {f : FuncId} {fn : Func} {c : Code} (hf : P.funcs[f]? = some fn) (hb : fn.body = some c) (hn : (fn.name == "runtime.NumGoroutine") = false)
  {D:List PV→Store→Option (PV×Store)} (h:∀ args σ x σ',D args σ=some (x,σ')→(∃ H w vs,RelL H w args vs)→∃ (e:PExit) (fr:List PV) (xs:List PV),(e=.normal∨e=.ret)∧Does P gl c (args++List.replicate (fn.ntmps - args.length) .top) σ e fr σ'∧presults tb fr σ' fn.results.toList=some xs∧qBX xs=x):SimS P gl f D where
 ent:=⟨fn,hf,hn,by simp [hb]⟩
 run:=by
  intro args σ x σ' hx H w vs hok hrel;obtain⟨e,fr0,xs0,he,hdo,hxs0,hpo0⟩:=h args σ x σ' hx ⟨H,w,vs,hrel⟩;refine qpH (r:=none) (n:=0) (callsIn_of_wp_marks hf hb trivial ?_);have hst:St gl { H with K:=(w.heap.size,[]) } w (args++List.replicate (fn.ntmps - args.length) .top) σ { tmps:=vs.toArray++Array.replicate (fn.ntmps - vs.toArray.size) undef,defers:=[] } w:=by
   refine⟨{ H with K:=(w.heap.size,[]) },Ev.refl _ w,hok.setK _,?_,Marks.nil (Nat.le_refl _)⟩
   have hl:=hrel.len;have e:(vs.toArray++Array.replicate (fn.ntmps - vs.toArray.size) undef).toList=vs++List.replicate (fn.ntmps - args.length) undef:=by simp [hl]
   rw [e];refine (hrel.mono (Mono.setK' H w _)).app ?_;have:=RelL.tops (H:={ H with K:=(w.heap.size,[]) }) (w:=w) (List.replicate (fn.ntmps - args.length) undef)
   simpa using this
  have fin:∀ (fr:List PV) (σ1:Store) (a:Act) (w':World) (xs:List PV),St gl { H with K:=(w.heap.size,[]) } w fr σ1 a w'→presults tb fr σ1 fn.results.toList=some xs→qBX xs=x→σ1=σ' →
    LeavesInM (rnd none) 0 P fn a.tmps (fun e w'=>∃ v,e=.returned v∧Post gl H w x σ' v w') a.defers .returning w':=by
   intro fr σ1 a w1 xs hst hxs hpx hσ;subst hσ;obtain⟨H',hev1,hok1,hfr1,_,Ds,hds,hnd,hD⟩:=hst;rw [hds,hev1.K,List.append_nil];refine qkG (gl:=gl) (H:={ H with K:=(w.heap.size,[]) }) (H':=H') (w0:=w) (σ:=σ1) hok.B hev1.B Ds w1 hev1 hok1 (Ev.refl (gl:=gl) H' w1).mono hnd (fun D hDs=>by have h1:=hD D hDs;rw [hev1.K] at h1;exact h1) ?_
   intro w' hev hok' hmo;have hfr:=hfr1.mono hmo;obtain⟨vs',hvs,hrs⟩:=qdX hT hok' hfr _ _ hxs;have hrun:(results fn a.tmps).run P w'=.ok (if h:vs'.toArray.size=1 then vs'.toArray[0] else .tuple vs'.toArray) w':=by
    rw [qg2];simp only [Sem.run_bind,hvs,Result.andThen_ok,Sem.run_pure]
   refine⟨_,hrun,_,rfl,_,hev.setK,hok'.setK _,?_⟩;subst hpx;refine Rel.mono (Mono.setK' H' w' H.K) ?_;cases hrs with
   |nil=>exact .tup [] [] .nil
   |cons y v ys us hy hys =>
    cases hys with
    |nil=>exact hy
    |cons y2 v2 ys us hy2 hys =>
     have h1:¬ ((v::v2::us).toArray.size=1):=by simp
     rw [dif_neg h1];exact .tup _ _ (.cons _ _ _ _ hy (.cons _ _ _ _ hy2 hys))
  rcases he with rfl|rfl
  ·exact hdo none 0 _ w (RIn.none _) _ _ _ hst fun a' w' hst'=>fin fr0 σ' a' w' xs0 hst' hxs0 hpo0 rfl
  ·exact hdo none 0 _ w (RIn.none _) _ _ _ hst fun a' w' hst'=>fin fr0 σ' a' w' xs0 hst' hxs0 hpo0 rfl
theorem SimM.of_does (hT : qaN P tb) {f : FuncId} {fn : Func} {c : Code} (hf : P.funcs[f]? = some fn) (hb : fn.body = some c) (hn : (fn.name == "runtime.NumGoroutine") = false)
  {D:List PV→Store→Option (PR×Store)} (h:∀ args σ x σ',D args σ=some (.val x,σ')→(∃ H w vs,RelL H w args vs)→∃ (e:PExit) (fr:List PV) (xs:List PV),(e=.normal∨e=.ret)∧Does P gl c (args++List.replicate (fn.ntmps - args.length) .top) σ e fr σ'∧presults tb fr σ' fn.results.toList=some xs∧qBX xs=x)
  (h':∀ args σ x σ',D args σ=some (.pan x,σ')→(∃ H w vs,RelL H w args vs)→∃ (fr:List PV),Does P gl c (args++List.replicate (fn.ntmps - args.length) .top) σ (.pan x) fr σ'):SimM P gl f D where
 ent:=⟨fn,hf,hn,by simp [hb]⟩
 run:=fun args σ x σ' hx=>(SimS.of_does (D:=fun args σ=>qgi (D args σ)) hT hf hb hn (fun args σ x σ' hx hr=>h args σ x σ' (qrk hx) hr)).run args σ x σ' (by simp only [hx,qgi])
 pan:=by
  intro args σ x σ' hx H w vs hok hrel;obtain⟨fr0,hdo⟩:=h' args σ x σ' hx ⟨H,w,vs,hrel⟩;refine qpH (r:=none) (n:=0) (callsIn_of_wp_marks hf hb trivial ?_);have hst:St gl { H with K:=(w.heap.size,[]) } w (args++List.replicate (fn.ntmps - args.length) .top) σ { tmps:=vs.toArray++Array.replicate (fn.ntmps - vs.toArray.size) undef,defers:=[] } w:=by
   refine⟨{ H with K:=(w.heap.size,[]) },Ev.refl _ w,hok.setK _,?_,Marks.nil (Nat.le_refl _)⟩
   have hl:=hrel.len;have e:(vs.toArray++Array.replicate (fn.ntmps - vs.toArray.size) undef).toList=vs++List.replicate (fn.ntmps - args.length) undef:=by simp [hl]
   rw [e];refine (hrel.mono (Mono.setK' H w _)).app ?_;have:=RelL.tops (H:={ H with K:=(w.heap.size,[]) }) (w:=w) (List.replicate (fn.ntmps - args.length) undef)
   simpa using this
  refine hdo none 0 _ w (RIn.none _) _ _ _ hst fun a w1 hst1=>?_
  obtain⟨H',hev1,hok1,hfr1,_,Ds,hds,hnd,hD⟩:=hst1;show LeavesInM (rnd none) 0 P fn a.tmps _ a.defers (.panicking [{ v:=toV x,recovered:=false }]) w1
  rw [hds,hev1.K];refine qpf (gl:=gl) (H:={ H with K:=(w.heap.size,[]) }) (H':=H') (w0:=w) (σ:=σ') (by simp) hok.B hev1.B Ds w1 hev1 hok1 (Ev.refl (gl:=gl) H' w1).mono hnd (fun D hDs=>by have h1:=hD D hDs;rw [hev1.K] at h1;exact h1) ?_
  intro w' hev hok' hmo;exact⟨rfl,_,hev.setK,hok'.setK _⟩
def qC0 (tb:Tab) (Γ:Gam) (L:Lps) (fn:Func) (args:List PV) (σ:Store):Option (PR×Store) :=
 match fn.body with
 |none=>none
 |some c=>match pexec tb Γ L c (args++List.replicate (fn.ntmps - args.length) .top) σ with
  |some (.normal,fr,σ')=>(presults tb fr σ' fn.results.toList).map fun xs=>(.val (qBX xs),σ')
  |some (.ret,fr,σ')=>(presults tb fr σ' fn.results.toList).map fun xs=>(.val (qBX xs),σ')
  |some (.pan x,fr,σ')=>some (.pan x,σ')
  |_=>none
theorem SimM.of_pcallM (hT : qaN P tb) (hΓ : qal P gl Γ) (hm : P.follows .mixedOrders = true) {f : FuncId} {fn : Func} {c : Code} (hf : P.funcs[f]? = some fn) (hb : fn.body = some c) (hn : (fn.name == "runtime.NumGoroutine") = false)
  (hdr:qaH Γ c=true) {D:List PV→Store→Option (PR×Store)} (h:∀ args σ r,D args σ=some r→(∃ H w vs,RelL H w args vs)→∃ L,qbe P gl L c∧qC0 tb Γ L fn args σ=some r):SimM P gl f D:=by
 refine SimM.of_does hT hf hb hn (fun args σ x σ' hx hr=>?_) (fun args σ x σ' hx hr=>?_)
 ·obtain⟨L,hL,hn⟩:=h args σ _ hx hr;simp only [qC0,hb] at hn;split at hn
  ·rename_i fr σ1 he;obtain⟨xs,hxs,hpo⟩:=qaC hn;simp only [Prod.mk.injEq,PR.val.injEq] at hpo;obtain⟨hpo,rfl⟩:=hpo;exact⟨.normal,fr,xs,.inl rfl,qaJ hT hΓ hm c _ _ .normal fr _ hL hdr he,hxs,hpo⟩
  ·rename_i fr σ1 he;obtain⟨xs,hxs,hpo⟩:=qaC hn;simp only [Prod.mk.injEq,PR.val.injEq] at hpo;obtain⟨hpo,rfl⟩:=hpo;exact⟨.ret,fr,xs,.inr rfl,qaJ hT hΓ hm c _ _ .ret fr _ hL hdr he,hxs,hpo⟩
  ·simp at hn
  ·cases hn
 ·obtain⟨L,hL,hn⟩:=h args σ _ hx hr;simp only [qC0,hb] at hn;split at hn
  ·rename_i fr σ1 he;obtain⟨xs,hxs,hpo⟩:=qaC hn;simp at hpo
  ·rename_i fr σ1 he;obtain⟨xs,hxs,hpo⟩:=qaC hn;simp at hpo
  ·rename_i y fr σ1 he;simp only [Option.some.injEq,Prod.mk.injEq,PR.pan.injEq] at hn;obtain⟨rfl,rfl⟩:=hn;exact⟨fr,qaJ hT hΓ hm c _ _ (.pan y) fr _ hL hdr he⟩
  ·cases hn
theorem SimS.of_pcallS (hT : qaN P tb) (hΓ : qal P gl Γ) (hm : P.follows .mixedOrders = true) {f : FuncId} {fn : Func} {c : Code} (hf : P.funcs[f]? = some fn) (hb : fn.body = some c) (hn : (fn.name == "runtime.NumGoroutine") = false)
  (hdr:qaH Γ c=true) {D:List PV→Store→Option (PV×Store)} (h:∀ args σ x σ',D args σ=some (x,σ')→(∃ H w vs,RelL H w args vs)→∃ L,qbe P gl L c∧qHI tb Γ L fn args σ=some (x,σ')):SimS P gl f D:=by
 refine SimS.of_does hT hf hb hn fun args σ x σ' hx hr=>?_
 obtain⟨L,hL,hn⟩:=h args σ x σ' hx hr;simp only [qHI,hb] at hn;split at hn
 ·rename_i fr σ1 he;obtain⟨xs,hxs,hpo⟩:=qaC hn;obtain⟨rfl,rfl⟩:=Prod.mk.inj hpo;exact⟨.normal,fr,xs,.inl rfl,qaJ hT hΓ hm c _ _ .normal fr _ hL hdr he,hxs,rfl⟩
 ·rename_i fr σ1 he;obtain⟨xs,hxs,hpo⟩:=qaC hn;obtain⟨rfl,rfl⟩:=Prod.mk.inj hpo;exact⟨.ret,fr,xs,.inr rfl,qaJ hT hΓ hm c _ _ .ret fr _ hL hdr he,hxs,rfl⟩
 ·cases hn
end
end Go.Pv
set_option linter.unusedSimpArgs false
set_option linter.unusedVariables false
namespace Go.Pv
open Go.RowKit
inductive Tr (α:Type) where
 |ret (a:α)
 |fail
 |ite (b:Bool) (x y:Tr α)
 |get (xs:qR) (i:Nat) (z:List PV) (k:List PV→Tr α)
namespace Tr
def run {α:Type}:Tr α→Option α
 |.ret a=>some a
 |.fail=>none
 |.ite b x y=>bif b then run x else run y
 |.get xs i _ k=>match xs[i]? with
  |some cs=>run (k cs)
  |none=>none
def bind {α β:Type}:Tr α→(α→Tr β)→Tr β
 |.ret a,f=>f a
 |.fail,_=>.fail
 |.ite b x y,f=>.ite b (bind x f) (bind y f)
 |.get xs i z k,f=>.get xs i z fun cs=>bind (k cs) f
theorem run_bind {α β:Type}:∀ (x:Tr α) (f:α→Tr β),run (bind x f)=(run x).bind fun a=>run (f a)
 |.ret a,f=>rfl
 |.fail,f=>rfl
 |.ite b x y,f=>by
  simp only [bind,run,run_bind x f,run_bind y f];cases b<;>rfl
 |.get xs i z k,f=>by
  simp only [bind,run];cases xs[i]? with
  |none=>rfl
  |some cs=>exact run_bind (k cs) f
theorem bind_some {α β:Type} {x:Tr α} {f:α→Tr β} {r:β} (h:run (bind x f)=some r):∃ a,run x=some a∧run (f a)=some r:=by
 rw [run_bind] at h
 cases hx:run x with
 |none=>simp [hx] at h
 |some a=>exact⟨a,rfl,by simpa [hx] using h⟩
def br {α:Type} (lit:Bool) (b:Bool) (x y:Tr α):Tr α:=bif lit then (bif b then x else y) else .ite b x y
theorem qVr {α:Type} (lit b:Bool) (x y:Tr α):run (br lit b x y)=bif b then run x else run y:=by
 cases lit<;>cases b<;>rfl
def chk {α:Type} (b:Bool) (x:Tr α):Tr α:=.ite b x .fail
theorem chk_some {α:Type} {b:Bool} {x:Tr α} {r:α} (h:run (chk b x)=some r):b=true∧run x=some r:=by
 cases b with
 |true=>exact⟨rfl,h⟩
 |false=>cases h
def qmA {α:Type}:Option α→Tr α
 |some a=>.ret a
 |none=>.fail
theorem qbh {α:Type} (x:Option α):run (qmA x)=x:=by cases x<;>rfl
end Tr
open Tr
def iAdd (k:IntKind) (a b:Int):Int:=k.wrap (a+b)
def iSub (k:IntKind) (a b:Int):Int:=k.wrap (a - b)
def iMul (k:IntKind) (a b:Int):Int:=k.wrap (a * b)
def iQuo (k:IntKind) (a b:Int):Int:=k.wrap (a.tdiv b)
def iRem (a b:Int):Int:=a.tmod b
def iAnd (k:IntKind) (a b:Int):Int:=k.wrap (BitVec.ofInt k.bits a &&& BitVec.ofInt k.bits b).toNat
def iOr (k:IntKind) (a b:Int):Int:=k.wrap (BitVec.ofInt k.bits a ||| BitVec.ofInt k.bits b).toNat
def iXor (k:IntKind) (a b:Int):Int:=k.wrap (BitVec.ofInt k.bits a ^^^ BitVec.ofInt k.bits b).toNat
def iShl (k:IntKind) (a b:Int):Int:=k.wrap (a * 2 ^ min b.toNat k.bits)
def iShr (k:IntKind) (a b:Int):Int:=a.fdiv (2 ^ min b.toNat k.bits)
def qas (k:IntKind) (n:Int):Int:=k.wrap n
def iEq (a b:Int):Bool:=a == b
def iNe (a b:Int):Bool:=a != b
def iLt (a b:Int):Bool:=decide (a < b)
def iLe (a b:Int):Bool:=decide (a≤b)
def bNot (b:Bool):Bool:=!b
def bAnd (a b:Bool):Bool:=a&&b
def bEq (a b:Bool):Bool:=a == b
def sEq (a b:qU):Bool:=a == b
def sNe (a b:qU):Bool:=!(a == b)
def sLt (a b:qU):Bool:=Op.bytesLess a b
def sLe (a b:qU):Bool:=Op.bytesLess a b || a == b
def sGt (a b:qU):Bool:=!(Op.bytesLess a b || a == b)
def sGe (a b:qU):Bool:=!Op.bytesLess a b
def sApp (a b:qU):qU:=a++b
def sLen (l:qU):Int:=l.length
def sSub (l:qU) (a b:Nat):qU:=(l.take b).drop a
def sAt (l:qU) (n:Int):Int:=(l.getD n.toNat 0).toNat
def sOne (n:Int):qU:=[UInt8.ofNat n.toNat]
def nNat (n:Int):Nat:=n.toNat
def nLen (l:qU):Nat:=l.length
def xLen (xs:qR):Int:=xs.length
def nXs (xs:qR):Nat:=xs.length
def xSub (xs:qR) (a b:Nat):qR:=(xs.take b).drop a
def xApp (xs ys:qR):qR:=xs++ys
def xNil (xs:qR):Bool:=xs.isEmpty
def qab (l:qU):qR:=l.map fun b=>[.int .u8 b.toNat]
def qbC (xs:qR):qU:=(pbytes xs).getD []
def qcH (xs:qR):Bool:=(pbytes xs).isSome
def qao (xs:qR) (n:Nat):Bool:=xs.all fun y=>y.length == n
def qaq (ys:qR) (n:Nat):Bool:=ys.all fun y=>y.length == n&&y.all one
def qsh (a b:qU):Bool:=decide (a.length+b.length≤maxLen)
def qfp (n:Int):Bool:=decide (0≤n)&&decide (n < 128)
def qm8 (l:qU):Bool:=decide (l.length≤140737488355328)
def qaz (l:qU) (n:Int):Bool:=decide (0≤n)&&decide (n.toNat < l.length)
def qay (n:Int):Bool:=decide (0≤n)
def qbc (ca cb:Bool) (a b n:Nat):Bool:=ca&&cb&&decide (a≤b)&&decide (b≤n)
def qKX (ca cb cc:Bool) (a b c n:Nat):Bool:=ca&&cb&&cc&&decide (a≤b)&&decide (b=c)&&decide (b≤n)
def qav (xs ys:qR) (bytes:Nat):Bool:=decide ((xs.length+ys.length) * bytes≤140737488355328)&&decide (xs.length+ys.length≤140737488355328)
def nEq (a b:Nat):Bool:=decide (a=b)
def tint (lit:Bool) (op:BinOp) (k:IntKind) (a b:Int):Tr PV :=
 match op with
 |.add=>.ret (.int k (iAdd k a b))
 |.sub=>.ret (.int k (iSub k a b))
 |.mul=>.ret (.int k (iMul k a b))
 |.quo=>if lit then (if b=0 then .fail else .ret (.int k (iQuo k a b))) else .ite (iEq b 0) .fail (.ret (.int k (iQuo k a b)))
 |.rem=>if lit then (if b=0 then .fail else .ret (.int k (iRem a b))) else .ite (iEq b 0) .fail (.ret (.int k (iRem a b)))
 |.and=>.ret (.int k (iAnd k a b))
 |.or=>.ret (.int k (iOr k a b))
 |.xor=>.ret (.int k (iXor k a b))
 |.eql=>.ret (.bool (iEq a b))
 |.neq=>.ret (.bool (iNe a b))
 |.lss=>.ret (.bool (iLt a b))
 |.leq=>.ret (.bool (iLe a b))
 |.gtr=>.ret (.bool (iLt b a))
 |.geq=>.ret (.bool (iLe b a))
 |_=>.fail
theorem qQb {lit : Bool} {op : BinOp} {k : IntKind} {a b : Int} {x : PV} (h : run (tint lit op k a b) = some x) : pint op k a b = some x := by
  cases op <;> simp only [tint, pint] at h ⊢ <;> first
    | exact h
    | (cases h; done)
    | (split at h
       · split at h
         · cases h
         · rename_i hb
           rw [if_neg hb]
           exact h
       · simp only [run, iEq] at h
         by_cases hb : b = 0
         · simp [hb] at h
         · have hb' : (b == 0) = false := by simp [hb]
           rw [hb'] at h
           rw [if_neg hb]
           exact h)
def tstr (op:BinOp) (a b:qU):Tr PV :=
 match op with
 |.add=>chk (qsh a b) (.ret (.str (sApp a b)))
 |.eql=>.ret (.bool (sEq a b))
 |.neq=>.ret (.bool (sNe a b))
 |.lss=>.ret (.bool (sLt a b))
 |.leq=>.ret (.bool (sLe a b))
 |.gtr=>.ret (.bool (sGt a b))
 |.geq=>.ret (.bool (sGe a b))
 |_=>.fail
theorem qOA {op : BinOp} {a b : List UInt8} {x : PV} (h : run (tstr op a b) = some x) : pstr op a b = some x := by
  cases op <;> simp only [tstr, pstr] at h ⊢ <;> first
    | exact h
    | (cases h; done)
    | (obtain ⟨h1, h2⟩ := chk_some h
       rw [if_pos (by simpa [qsh] using h1)]
       exact h2)
def qLH (tb:Tab) (f:TypeId→PV→PV→Option Bool) (xs ys:List PV):List (Nat×TypeId×Bool)→Option Bool
 |[]=>some true
 |(off,t,named)::rest =>
  if named then
   match tb t with
   |none=>none
   |some K=>match pload K xs off,pload K ys off with
    |some x,some y=>match f t x y,qLH tb f xs ys rest with
     |some b,some c=>some (bAnd b c)
     |_,_=>none
    |_,_=>none
  else qLH tb f xs ys rest
def beq (tb:Tab):Nat→TypeId→PV→PV→Option Bool
 |0,_,_,_=>none
 |d+1,t,x,y=>match tb t with
  |none=>none
  |some K=>match K.kd,x,y with
   |.int _,.int k a,.int k' b=>if k=k' then some (iEq a b) else none
   |.bool,.bool a,.bool b=>some (bEq a b)
   |.str,.str a,.str b=>some (sEq a b)
   |.agg fs held _,.agg xs,.agg ys=>if held then none else qLH tb (beq tb d) xs ys fs
   |_,_,_=>none
theorem qwR {tb:Tab} {f g:TypeId→PV→PV→Option Bool} (hfg:∀ t x y b,f t x y=some b→g t x y=some b) {xs ys:List PV}:∀ (fs:List (Nat×TypeId×Bool)) (b:Bool),qLH tb f xs ys fs=some b→qD4 tb g xs ys fs=some b
 |[],b,h=>h
 |(off,t,named)::rest,b,h=>by
  simp only [qLH,qD4] at h ⊢;split at h
  ·rename_i hn;rw [if_pos hn];cases hK:tb t with
   |none=>simp [hK] at h
   |some K =>
    simp only [hK] at h ⊢;split at h
    ·rename_i x y hx hy;simp only [hx,hy];split at h
     ·rename_i p q hp hq;rw [hfg _ _ _ _ hp];have:=qwR hfg rest q hq;cases p with
      |true=>simp [bAnd] at h;subst h;exact this
      |false=>simp [bAnd] at h;subst h;rfl
     ·cases h
    ·cases h
  ·rename_i hn;rw [if_neg hn];exact qwR hfg rest b h
theorem qLS {tb:Tab}:∀ (d:Nat) (t:TypeId) (x y:PV) (b:Bool),beq tb d t x y=some b→peq tb d t x y=some b
 |0,t,x,y,b,h=>by cases h
 |d+1,t,x,y,b,h=>by
  simp only [beq,peq] at h ⊢;cases hK:tb t with
  |none=>simp [hK] at h
  |some K =>
   simp only [hK] at h ⊢;split at h
   ·rename_i hk;simp only [hk];exact h
   ·rename_i hk;simp only [hk];exact h
   ·rename_i hk;simp only [hk];exact h
   ·rename_i hk;simp only [hk];split at h
    ·cases h
    ·rename_i hh;rw [if_neg hh];exact qwR (fun t x y b=>qLS d t x y b) _ b h
   ·cases h
def bequal (tb:Tab) (t:TypeId) (xo yo:Operand) (x y:PV):Option Bool :=
 match tb t with
 |none=>none
 |some K=>match K.kd,x,y with
  |.iface,.nili,.nili=>if isK xo || isK yo then some true else none
  |.iface,.nili,.iface _ _=>some false
  |.iface,.iface _ _,.nili=>some false
  |.fn,.nilf,.nilf=>some true
  |.fn,.nilf,.fn _ _=>some false
  |.fn,.fn _ _,.nilf=>some false
  |.bool,.bool a,.bool b=>some (bEq a b)
  |.agg _ _ guard,.agg xs,.agg ys=>if guard then none else beq tb 50 t (.agg xs) (.agg ys)
  |_,_,_=>none
theorem qyK {tb : Tab} {t : TypeId} {xo yo : Operand} {x y : PV} {b : Bool} (h : bequal tb t xo yo x y = some b) : pequal tb t xo yo x y = some b := by
  unfold bequal at h
  unfold pequal
  cases hK : tb t with
  | none => simp [hK] at h
  | some K =>
    simp only [hK] at h ⊢
    split at h <;> first
      | (rename_i hk; simp only [hk]; exact h)
      | (rename_i hk
         simp only [hk]
         split at h
         · cases h
         · rename_i hg
           rw [if_neg hg]
           exact qLS _ _ _ _ _ h)
      | (cases h; done)
def tnilq (tb:Tab) (t:TypeId) (yo:Operand) (xs:qR) (tg:Tag) (f:Bool→PV):Tr PV :=
 match tb t with
 |none=>.fail
 |some K=>match K.kd with
  |.sl _=>if qwT yo then .ite (xNil xs) (match tg with
   |.nil=>.ret (f true)
   |.own=>.ret (f false)
   |_=>.fail) (.ret (f false)) else .fail
  |_=>.fail
def tbin (tb:Tab) (op:BinOp) (t:TypeId) (xo yo:Operand) (x y:PV):Tr PV :=
 match op,x,y with
 |.shl,.int k a,.int _ b=>if isK yo then (if b < 0 then .fail else .ret (.int k (iShl k a b))) else .ite (iLt b 0) .fail (.ret (.int k (iShl k a b)))
 |.shr,.int k a,.int _ b=>if isK yo then (if b < 0 then .fail else .ret (.int k (iShr k a b))) else .ite (iLt b 0) .fail (.ret (.int k (iShr k a b)))
 |op,.int k a,.int k' b=>if k=k' then tint (isK yo) op k a b else .fail
 |op,.str a,.str b=>tstr op a b
 |.eql,.sl xs tg,.sl ys tg'=>tnilq tb t yo xs tg fun b=>.bool b
 |.neq,.sl xs tg,.sl ys tg'=>tnilq tb t yo xs tg fun b=>.bool (bNot b)
 |.eql,x,y=>qmA ((bequal tb t xo yo x y).map .bool)
 |.neq,x,y=>qmA ((bequal tb t xo yo x y).map fun b=>.bool (bNot b))
 |_,_,_=>.fail
theorem qDz {tb:Tab} {t:TypeId} {xo yo:Operand} {xs ys:List (List PV)} {tg tg':Tag} {f:Bool→PV} {r:PV} (h:run (tnilq tb t yo xs tg f)=some r):∃ b,pequal tb t xo yo (.sl xs tg) (.sl ys tg')=some b∧r=f b:=by
 unfold tnilq at h
 unfold pequal;cases hK:tb t with
 |none=>simp [hK,run] at h
 |some K =>
  simp only [hK] at h ⊢;split at h
  ·rename_i e hk;simp only [hk];split at h
   ·rename_i hn;rw [if_pos hn];cases xs with
    |nil =>
     cases tg<;>simp [run,xNil] at h ⊢<;>exact h.symm
    |cons x xs =>
     simp [run,xNil] at h ⊢;exact h.symm
   ·cases h
  ·cases h
theorem qOP {tb:Tab} {op:BinOp} {t:TypeId} {xo yo:Operand} {x y r:PV} (h:run (tbin tb op t xo yo x y)=some r):pbin tb op t xo yo x y=some r:=by
 unfold tbin at h
 unfold pbin;split at h
 ·rename_i k a k' b;simp only [];split at h
  ·split at h
   ·cases h
   ·rename_i hb;rw [if_neg hb];exact h
  ·simp only [run,iLt] at h
   by_cases hb:b < 0
   ·simp [hb] at h
   ·rw [if_neg hb];simp only [hb,decide_false,cond_false] at h
    exact h
 ·rename_i k a k' b;simp only [];split at h
  ·split at h
   ·cases h
   ·rename_i hb;rw [if_neg hb];exact h
  ·simp only [run,iLt] at h
   by_cases hb:b < 0
   ·simp [hb] at h
   ·rw [if_neg hb];simp only [hb,decide_false,cond_false] at h
    exact h
 ·rename_i op' k a k' b h1 h2;split at h
  ·rename_i hk;have:=qQb h;cases op'<;>first
    |(simp only [hk,if_true] at this ⊢;exact this)
    |exact absurd rfl h1
    |exact absurd rfl h2
    |exact absurd rfl (h1 _ _ _ _ rfl rfl)
    |exact absurd rfl (h2 _ _ _ _ rfl rfl)
  ·cases h
 ·have:=qOA h;cases op<;>exact this
 ·obtain⟨b,hb,rfl⟩:=qDz (xo:=xo) h;simp only [];rw [hb];rfl
 ·obtain⟨b,hb,rfl⟩:=qDz (xo:=xo) h;simp only [];rw [hb];rfl
 ·rename_i x y hn1 hn2 hn3;rw [qbh] at h
  obtain⟨b,hb,rfl⟩:=Option.map_eq_some_iff.1 h;have hp:=qyK hb;split<;>first
   |exact (hn1 _ _ _ _ rfl rfl).elim
   |exact (hn2 _ _ rfl rfl).elim
   |(rw [hp];rfl)
   |simp_all
 ·rename_i x y hn1 hn2 hn3;rw [qbh] at h
  obtain⟨b,hb,rfl⟩:=Option.map_eq_some_iff.1 h;have hp:=qyK hb;split<;>first
   |exact (hn1 _ _ _ _ rfl rfl).elim
   |exact (hn2 _ _ rfl rfl).elim
   |(rw [hp];rfl)
   |simp_all
 ·cases h
end Go.Pv
set_option linter.unusedSimpArgs false
set_option linter.unusedVariables false
namespace Go.Pv
open Go.RowKit Tr
def pOff (off n k:Nat):Nat:=off+n * k
def nSub (b a:Nat):Nat:=b - a
def okIx (n:Int) (len:Nat):Bool:=decide (0≤n)&&decide (n.toNat < len)
def oLen (n:Nat):Int:=n
def cInt (cs:List PV) (off j:Nat):Int:=match cs.getD (off+j) .top with|.int _ n=>n|_=>0
def qWj (cs:List PV) (off j:Nat):Bool:=match cs.getD (off+j) .top with|.bool b=>b|_=>false
def cStr (cs:List PV) (off j:Nat):qU:=match cs.getD (off+j) .top with|.str l=>l|_=>[]
def cRow (cs:List PV) (off j:Nat):qR:=match cs.getD (off+j) .top with|.sl l _=>l|_=>[]
def cPV (cs:List PV) (off j:Nat):PV:=cs.getD (off+j) .top
def qVI (c:PV) (cs:List PV) (off j:Nat):PV:=match c with
 |.int k _=>.int k (cInt cs off j)
 |.bool _=>.bool (qWj cs off j)
 |.str _=>.str (cStr cs off j)
 |.sl _ _=>.sl (cRow cs off j) .non
 |_=>cPV cs off j
def cSel:List PV→List PV→Nat→Nat→List PV
 |[],_,_,_=>[]
 |c::z,cs,off,j=>qVI c cs off j::cSel z cs off (j+1)
open Classical in
def qH1 (z cs:List PV) (off:Nat):Bool:=decide ((cs.drop off).take z.length=cSel z cs off 0∧off+z.length≤cs.length)
theorem qyf {z cs:List PV} {off:Nat} (h:qH1 z cs off=true):(cs.drop off).take z.length=cSel z cs off 0∧off+z.length≤cs.length:=by
 simpa [qH1] using h
def qGt (cs:List PV) (off n:Nat):Bool:=decide (off+n≤cs.length)
def putC (cs:List PV) (off:Nat) (vs:List PV):List PV:=cs.take off++vs++cs.drop (off+vs.length)
def clrC (cs:List PV) (off len:Nat) (z:List PV):List PV:=cs.take off++pzeros z len++cs.drop (off+len * z.length)
def qL6 (K : TK) (cs : List PV) (off : Nat) : Tr PV :=
  if K.kd.known ∧ K.zero.length = K.size then
    (if K.kd.isAgg then chk (qH1 K.zero cs off) (.ret (.agg (cSel K.zero cs off 0)))
     else match K.zero with
      | [c] => chk (qH1 [c] cs off) (.ret (qVI c cs off 0))
      | _ => .fail)
  else .fail
theorem qI2 {K:TK} {cs:List PV} {off:Nat} {x:PV} (h:run (qL6 K cs off)=some x):pload K cs off=some x:=by
 unfold qL6 at h
 unfold pload;split at h
 ·rename_i hk;rw [if_pos hk.1];split at h
  ·rename_i ha;rw [if_pos ha];obtain⟨h1,h2⟩:=chk_some h;have h1:=qyf h1;rw [hk.2] at h1;rw [if_pos h1.2,h1.1];exact h2
  ·rename_i ha;rw [if_neg ha];split at h
   ·rename_i c hz;obtain⟨h1,h2⟩:=chk_some h;have h1:=qyf h1;simp only [List.length_cons,List.length_nil,cSel] at h1;simp only [run,Option.some.injEq] at h2;subst h2;have h3:=h1.1;have hlt:off < cs.length:=by omega
    rw [List.drop_eq_getElem_cons hlt] at h3;simp only [Nat.zero_add,List.take_succ_cons,List.take_zero,List.cons.injEq,and_true] at h3;rw [List.getElem?_eq_getElem hlt,h3]
   ·cases h
 ·cases h
def tload (tb:Tab) (t:TypeId) (a:PV) (σ:Store):Tr PV :=
 match tb t with
 |none=>.fail
 |some K=>match a with
  |.ptr id off=>match σ.objs[id]?,σ.tys[id]? with
   |some cs,some ty=>if qgz≤ty then qL6 K cs off else qmA (pload K cs off)
   |_,_=>.fail
  |.ref cs=>qmA (pload K cs 0)
  |_=>.fail
theorem qN0 {tb:Tab} {t:TypeId} {fr:List PV} {a:Operand} {σ:Store} {o:Oper} (ho:o.op=.load t a) {Γ:Gam} {x:PV} (hn:gcells Γ a=none) (h:run (tload tb t (ev fr a) σ)=some x):pop tb Γ fr σ o=some (x,σ):=by
 simp only [pop,ho,hn];unfold tload at h
 cases hK:tb t with
 |none=>simp [hK,run] at h
 |some K =>
  simp only [hK] at h ⊢;split at h
  ·rename_i id off he;simp only [he];split at h
   ·rename_i cs ty hc ht;simp only [hc];split at h
    ·rw [qI2 h];rfl
    ·rw [qbh] at h;rw [h];rfl
   ·cases h
  ·rename_i cs he;simp only [he];rw [qbh] at h;rw [h];rfl
  ·cases h
def tstore (tb:Tab) (t:TypeId) (a x:PV) (σ:Store):Tr Store :=
 match tb t with
 |none=>.fail
 |some K=>match a,pcells x with
  |.ptr id off,some vs=>match σ.objs[id]?,σ.tys[id]? with
   |some cs,some ty =>
    if qgz≤ty then (if vs.length=K.size∧vs.all one then chk (qGt cs off K.size) (.ret { σ with objs:=σ.objs.set id (putC cs off vs) }) else .fail)
    else (if vs.length=K.size∧off+K.size≤cs.length∧vs.all one then .ret { σ with objs:=σ.objs.set id (cs.take off++vs++cs.drop (off+K.size)) } else .fail)
   |_,_=>.fail
  |_,_=>.fail
theorem qJ8 {tb:Tab} {t:TypeId} {fr:List PV} {a x:Operand} {σ σ':Store} {o:Oper} (ho:o.op=.store t a x) {Γ:Gam} (h:run (tstore tb t (ev fr a) (ev fr x) σ)=some σ'):pop tb Γ fr σ o=some (.top,σ'):=by
 simp only [pop,ho];unfold tstore at h
 cases hK:tb t with
 |none=>simp [hK,run] at h
 |some K =>
  simp only [hK] at h ⊢;split at h
  ·rename_i id off vs he hv;simp only [he,hv];split at h
   ·rename_i cs ty hc ht;simp only [hc];split at h
    ·split at h
     ·rename_i h1;obtain⟨h2,h3⟩:=chk_some h;simp only [qGt,decide_eq_true_eq] at h2;rw [if_pos ⟨h1.1,h2,h1.2⟩];simp only [run,putC,Option.some.injEq] at h3;rw [h1.1] at h3;rw [h3]
     ·cases h
    ·split at h
     ·rename_i h1;rw [if_pos h1];simp only [run,Option.some.injEq] at h
      rw [h]
     ·cases h
   ·cases h
  ·cases h
def tconv (tb:Tab) (src dst:TypeId) (x:PV):Tr PV :=
 match tb src,tb dst with
 |some S,some D=>match S.kd,D.kd,x with
  |.int _,.int k,.int _ n=>.ret (.int k (qas k n))
  |.int _,.str,.int _ n=>chk (qfp n) (.ret (.str (sOne n)))
  |.str,.str,.str l=>.ret (.str l)
  |.sl e,.str,.sl xs _=>match tb e with
   |some ⟨.int .u8,1,_,_⟩=>chk (qcH xs) (.ret (.str (qbC xs)))
   |_=>.fail
  |.str,.sl e,.str l=>match tb e with
   |some ⟨.int .u8,1,_,_⟩=>chk (qm8 l) (.ret (.sl (qab l) .non))
   |_=>.fail
  |_,_,_=>.fail
 |_,_=>.fail
theorem qLZ {tb:Tab} {src dst:TypeId} {x r:PV} (h:run (tconv tb src dst x)=some r):pconv tb src dst x=some r:=by
 unfold tconv at h
 unfold pconv;cases hS:tb src with
 |none=>simp [hS,run] at h
 |some S =>
  cases hD:tb dst with
  |none=>simp [hS,hD,run] at h
  |some D =>
   simp only [hS,hD] at h ⊢;split at h
   ·rename_i hk hk';simp only [hk,hk'];exact h
   ·rename_i k n hk hk';obtain⟨h1,h2⟩:=chk_some h;simp only [qfp,Bool.and_eq_true,decide_eq_true_eq] at h1;simp only [hk,hk'];rw [if_pos h1];exact h2
   ·rename_i hk hk';simp only [hk,hk'];exact h
   ·rename_i e xs tg hk hk';simp only [hk,hk'];split at h
    ·rename_i b z hE;obtain⟨h1,h2⟩:=chk_some h;simp only [hE];cases hp:pbytes xs with
     |none=>simp [qcH,hp] at h1
     |some l =>
      simp only [qbC,hp,Option.getD_some,run,Option.some.injEq] at h2;subst h2;rfl
    ·cases h
   ·rename_i e l hk hk';simp only [hk,hk'];split at h
    ·rename_i b z hE;obtain⟨h1,h2⟩:=chk_some h;simp only [hE];rw [if_pos (by simpa [qm8] using h1)]
     exact h2
    ·cases h
   ·cases h
def tbound:Option PV→Nat→Option (Bool×Nat)
 |none,d=>some (true,d)
 |some (.int _ n),_=>some (qay n,nNat n)
 |_,_=>none
theorem qcx {x:Option PV} {d a:Nat} (h:tbound x d=some (true,a)):pbound x d=some a:=by
 unfold tbound qay nNat at h
 unfold pbound;split at h
 ·simpa using h
 ·simp only [Option.some.injEq,Prod.mk.injEq,decide_eq_true_eq] at h
  simp [h.1,h.2]
 ·cases h
def tslice (tb:Tab) (t:TypeId) (x:PV) (lo hi mx:Option PV):Tr PV :=
 match tb t with
 |none=>.fail
 |some K=>match K.kd,x with
  |.str,.str l =>
   match mx,tbound lo 0,tbound hi (nLen l) with
   |none,some (ca,a),some (cb,b)=>chk (qbc ca cb a b (nLen l)) (.ret (.str (sSub l a b)))
   |_,_,_=>.fail
  |.sl e,.sl xs tag=>match tb e with
   |some E=>match mx with
    |none=>match tbound lo 0,tbound hi (nXs xs) with
     |some (ca,a),some (cb,b)=>chk (qbc ca cb a b (nXs xs)) (chk (qao xs E.size) (.ret (.sl (xSub xs a b) (match lo,hi with|none,none=>tag|_,_=>.non))))
     |_,_=>.fail
    |some m=>match hi with
     |none=>.fail
     |some h=>match tbound lo 0,tbound (some h) 0,tbound (some m) 0 with
      |some (ca,a),some (cb,b),some (cc,c)=>chk (qKX ca cb cc a b c (nXs xs)) (chk (qao xs E.size) (.ret (.sl (xSub xs a b) .full)))
      |_,_,_=>.fail
   |none=>.fail
  |.sl e,.osl id off len k=>match tb e,mx with
   |some E,none=>match tbound lo 0,tbound hi len with
    |some (ca,a),some (cb,b)=>if k=E.size then chk (qbc ca cb a b len) (.ret (.osl id (pOff off a k) (nSub b a) k)) else .fail
    |_,_=>.fail
   |_,_=>.fail
  |_,_=>.fail
theorem qIV {tb:Tab} {t:TypeId} {x r:PV} {lo hi mx:Option PV} (h:run (tslice tb t x lo hi mx)=some r):pslice tb t x lo hi mx=some r:=by
 unfold tslice at h
 unfold pslice;cases hK:tb t with
 |none=>simp [hK,run] at h
 |some K =>
  simp only [hK] at h ⊢;split at h
  ·rename_i l hk;simp only [hk];split at h
   ·rename_i ca a cb b ha hb;obtain⟨h1,h2⟩:=chk_some h;simp only [qbc,Bool.and_eq_true] at h1;obtain⟨⟨⟨rfl,rfl⟩,h1⟩,h3⟩:=h1;simp only [qcx ha,show pbound hi l.length=some b from qcx hb]
    rw [if_pos ⟨of_decide_eq_true h1,of_decide_eq_true h3⟩];exact h2
   ·cases h
  ·rename_i e xs tag hk;simp only [hk];cases hE:tb e with
   |none=>simp [hE,run] at h
   |some E =>
    simp only [hE] at h ⊢;split at h
    ·split at h
     ·rename_i ca a cb b ha hb;obtain⟨h1,h2⟩:=chk_some h;obtain⟨h4,h2⟩:=chk_some h2;simp only [qbc,Bool.and_eq_true] at h1;obtain⟨⟨⟨rfl,rfl⟩,h1⟩,h3⟩:=h1;unfold qao at h4;rw [if_pos h4];simp only [qcx ha,show pbound hi xs.length=some b from qcx hb]
      rw [if_pos ⟨of_decide_eq_true h1,of_decide_eq_true h3⟩];exact h2
     ·cases h
    ·rename_i m;split at h
     ·cases h
     ·rename_i hh;split at h
      ·rename_i ca a cb b cc c ha hb hc;obtain⟨h1,h2⟩:=chk_some h;obtain⟨h5,h2⟩:=chk_some h2;simp only [qKX,Bool.and_eq_true] at h1;obtain⟨⟨⟨⟨⟨rfl,rfl⟩,rfl⟩,h1⟩,h3⟩,h4⟩:=h1;unfold qao at h5;rw [if_pos h5];simp only [qcx ha,qcx hb,qcx hc];rw [if_pos ⟨of_decide_eq_true h1,of_decide_eq_true h3,of_decide_eq_true h4⟩];exact h2
      ·cases h
  ·rename_i e id off len k hk;simp only [hk];split at h
   ·rename_i E hE;simp only [hE];split at h
    ·rename_i ca a cb b ha hb;split at h
     ·rename_i hkE;obtain⟨h1,h2⟩:=chk_some h;simp only [qbc,Bool.and_eq_true] at h1;obtain⟨⟨⟨rfl,rfl⟩,h1⟩,h3⟩:=h1;simp only [qcx ha,qcx hb];rw [if_pos ⟨of_decide_eq_true h1,of_decide_eq_true h3,hkE⟩];exact h2
     ·cases h
    ·cases h
   ·cases h
  ·cases h
def qBc (tb:Tab) (t:TypeId) (x i:PV):Tr PV :=
 match tb t with
 |none=>.fail
 |some K=>match K.kd,x,i with
  |.sl e,.sl xs _,.int _ n=>match tb e with
   |some E=>chk (qay n) (.get xs (nNat n) E.zero fun cs=>if cs.length=E.size then .ret (.ref cs) else .fail)
   |none=>.fail
  |.sl e,.osl id off len k,.int _ n=>match tb e with
   |some E=>if k=E.size then chk (okIx n len) (.ret (.ptr id (pOff off (nNat n) k))) else .fail
   |none=>.fail
  |.arr m e,.ptr id off,.int _ n=>match tb e with
   |some E=>if 0≤n∧n.toNat < m then .ret (.ptr id (off+n.toNat * E.size)) else .fail
   |none=>.fail
  |_,_,_=>.fail
theorem qCM {tb:Tab} {t:TypeId} {x i r:PV} (h:run (qBc tb t x i)=some r):qpE tb t x i=some r:=by
 unfold qBc at h
 unfold qpE;cases hK:tb t with
 |none=>simp [hK,run] at h
 |some K =>
  simp only [hK] at h ⊢;split at h
  ·rename_i e xs tg k n hk;simp only [hk];cases hE:tb e with
   |none=>simp [hE,run] at h
   |some E =>
    simp only [hE] at h ⊢;obtain⟨h1,h2⟩:=chk_some h;rw [if_pos (by simpa [qay] using h1)]
    simp only [run,nNat] at h2;split at h2
    ·rename_i cs hcs;simp only [hcs];split at h2
     ·rename_i hl;rw [if_pos hl];exact h2
     ·cases h2
    ·cases h2
  ·rename_i e id off len k kk n hk;simp only [hk];cases hE:tb e with
   |none=>simp [hE,run] at h
   |some E =>
    simp only [hE] at h ⊢;split at h
    ·rename_i h0;obtain⟨h1,h2⟩:=chk_some h;simp only [okIx,Bool.and_eq_true,decide_eq_true_eq] at h1;rw [if_pos ⟨h1.1,h1.2,h0⟩];exact h2
    ·cases h
  ·rename_i m e id off k n hk;simp only [hk];cases hE:tb e with
   |none=>simp [hE,run] at h
   |some E =>
    simp only [hE] at h ⊢;split at h
    ·rename_i h0;rw [if_pos h0];exact h
    ·cases h
  ·cases h
def tarr (E:TK) (cs:List PV) (n:Int):Nat→Nat→Tr PV
 |0,_=>.fail
 |k+1,i=>.ite (iEq n i) (qmA (pload E cs (i * E.size))) (tarr E cs n k (i+1))
theorem qIg {E:TK} {cs:List PV} {n:Int} {r:PV}:∀ (k i:Nat),run (tarr E cs n k i)=some r→0≤n∧n.toNat < i+k∧pload E cs (n.toNat * E.size)=some r
 |0,_,h=>by cases h
 |k+1,i,h=>by
  unfold tarr at h
  cases hb:iEq n i with
  |true =>
   rw [hb] at h
   have hn:n=i:=by simpa [iEq] using hb
   simp only [run] at h
   rw [qbh] at h
   subst hn;exact⟨by omega,by simp,by simpa using h⟩
  |false =>
   rw [hb] at h
   simp only [run] at h
   have:=qIg k (i+1) h;exact⟨this.1,by omega,this.2.2⟩
def tindex (tb:Tab) (t:TypeId) (x i:PV):Tr PV :=
 match tb t with
 |none=>.fail
 |some K=>match K.kd,x,i with
  |.str,.str l,.int _ n=>chk (qaz l n) (.ret (.int .u8 (sAt l n)))
  |.arr m e,.agg cs,.int _ n=>match tb e with
   |some E=>tarr E cs n m 0
   |none=>.fail
  |_,_,_=>.fail
theorem qIM {tb:Tab} {t:TypeId} {x i r:PV} (h:run (tindex tb t x i)=some r):pindex tb t x i=some r:=by
 unfold tindex at h
 unfold pindex;cases hK:tb t with
 |none=>simp [hK,run] at h
 |some K =>
  simp only [hK] at h ⊢;split at h
  ·rename_i l k n hk;simp only [hk];obtain⟨h1,h2⟩:=chk_some h;simp only [qaz,Bool.and_eq_true,decide_eq_true_eq] at h1;rw [if_pos h1.1,List.getElem?_eq_getElem h1.2];unfold sAt at h2;rw [List.getD_eq_getElem?_getD,List.getElem?_eq_getElem h1.2] at h2;exact h2
  ·rename_i m e cs k n hk;simp only [hk];cases hE:tb e with
   |none=>simp [hE,run] at h
   |some E =>
    simp only [hE] at h ⊢;obtain⟨h1,h2,h3⟩:=qIg _ _ h;rw [if_pos ⟨h1,by omega⟩]
    exact h3
  ·cases h
def tnil {α:Type} (lit:Bool) (ys:qR) (x y:Tr α):Tr α :=
 if lit then (match ys with|[]=>x|_::_=>y) else .ite (xNil ys) x y
theorem qOq {α:Type} (lit:Bool) (ys:qR) (x y:Tr α):run (tnil lit ys x y)=match ys with|[]=>run x|_::_=>run y:=by
 unfold tnil;split<;>cases ys<;>rfl
def tappend (tb:Tab) (m lit:Bool) (t:TypeId) (s:PV) (ys:qR) (σ:Store):Tr (PV×Store) :=
 match tb t with
 |none=>.fail
 |some K=>match K.kd,s with
  |.sl e,.sl xs tag=>match tb e with
   |some E =>
    if 0 < E.size∧0 < E.bytes∧E.zero.length=E.size then
     chk (qav xs ys E.bytes) <| chk (qaq ys E.size) <| chk (qao xs E.size) <|
      tnil lit ys (.ret (.sl xs tag,σ)) <| match tag with
      |.non=>.fail
      |.nil=>.fail
      |.own=>.fail
      |.full=>if m then .ret (.osl σ.objs.length 0 (nXs (xApp xs ys)) E.size,{ σ with objs:=σ.objs++[(xApp xs ys).flatten],tys:=σ.tys++[e+qgz] }) else .ret (.sl (xApp xs ys) (.tok σ.toks.length),{ σ with toks:=σ.toks++[(nXs (xApp xs ys),E.size,e)] })
      |.tok i=>match σ.toks[i]? with
       |some (v,k,e')=>if k=E.size∧e'=e then chk (nEq v (nXs xs)) (.ret (.sl (xApp xs ys) (.tok i),{ σ with toks:=σ.toks.set i (nXs (xApp xs ys),E.size,e) })) else .fail
       |none=>.fail
    else .fail
   |none=>.fail
  |_,_=>.fail
theorem qva {tb:Tab} {m lit:Bool} {t:TypeId} {s:PV} {ys:List (List PV)} {tg:Tag} {σ:Store} {r:PV×Store} (h:run (tappend tb m lit t s ys σ)=some r):pappend tb m t s (.sl ys tg) σ=some r:=by
 unfold tappend at h
 unfold pappend;cases hK:tb t with
 |none=>simp [hK,run] at h
 |some K =>
  simp only [hK,pnews] at h ⊢;split at h
  ·rename_i e xs tag hk;simp only [hk];cases hE:tb e with
   |none=>simp [hE,run] at h
   |some E =>
    simp only [hE] at h ⊢;split at h
    ·rename_i hc;obtain⟨h1,h2⟩:=chk_some h;have hh:=chk_some h2;clear h2;obtain⟨h5,h7⟩:=hh;have hh:=chk_some h7;clear h7;obtain⟨h6,h2⟩:=hh;simp only [qav,Bool.and_eq_true,decide_eq_true_eq] at h1;obtain⟨h3,h4⟩:=h1;unfold qaq at h5;unfold qao at h6;rw [if_pos ⟨h3,h4,hc.1,hc.2.1,hc.2.2,by rw [h5,h6];rfl⟩]
     rw [qOq] at h2;cases ys with
     |nil=>exact h2
     |cons y ys =>
      simp only [nXs,xApp,List.length_append] at h2 ⊢;split at h2
      ·cases h2
      ·cases h2
      ·cases h2
      ·cases m<;>exact h2
      ·rename_i i;simp only [];cases hσ:σ.toks[i]? with
       |none=>simp [hσ,run] at h2
       |some q =>
        obtain⟨v,k,e'⟩:=q;simp only [hσ] at h2 ⊢;split at h2
        ·rename_i hke;obtain⟨h7,h8⟩:=chk_some h2;rw [if_pos ⟨by simpa [nEq] using h7,hke.1,hke.2⟩]
         exact h8
        ·cases h2
    ·cases h
  ·cases h
def tclear (tb:Tab) (t:TypeId) (x:PV) (σ:Store):Tr (PV×Store) :=
 match tb t,x with
 |some K,.osl id off len k=>match K.kd with
  |.sl e=>match tb e with
   |some E=>.ite (nEq len 0) (.ret (.tup [],σ)) (match σ.objs[id]? with
    |some cs=>if E.zero.length=k∧0 < k∧E.zero.all one then chk (qGt cs off (pOff 0 len k)) (.ret (.tup [],{ σ with objs:=σ.objs.set id (clrC cs off len E.zero) })) else .fail
    |none=>.fail)
   |none=>.fail
  |_=>.fail
 |_,_=>.fail
theorem qJk {tb:Tab} {t:TypeId} {x:PV} {σ:Store} {r:PV×Store} (h:run (tclear tb t x σ)=some r):pclear tb t x σ=some r:=by
 unfold tclear at h
 unfold pclear;split at h
 ·rename_i K id off len k hK;simp only [hK];split at h
  ·rename_i e hk;simp only [hk];cases hE:tb e with
   |none=>simp [hE,run] at h
   |some E =>
    simp only [hE,run,nEq] at h ⊢;by_cases h0:len=0
    ·rw [if_pos h0];simp [h0] at h
     rw [← h]
    ·rw [if_neg h0];simp only [h0,decide_false,cond_false] at h
     split at h
     ·rename_i cs hc;simp only [hc];split at h
      ·rename_i h1;obtain⟨h2,h3⟩:=chk_some h;simp only [qGt,pOff,Nat.zero_add,decide_eq_true_eq] at h2;rw [if_pos ⟨h1.1,h1.2.1,h1.2.2,h2⟩];simp only [run,clrC,Option.some.injEq] at h3;rw [h1.1] at h3;rw [h3]
      ·cases h
     ·cases h
  ·cases h
 ·cases h
inductive ConT where
 |pure (F:List PV→Tr PV)
 |store (D:List PV→Store→Tr (PV×Store))
 |may (D:List PV→Store→Tr (PR×Store))
 |flag
 |yld (e:Nat) (Y:Nat→List PV→Store→Tr (PV×Store))
 |glob (cs:List PV)
 |hint (l:List (Nat×Nat×Nat×TypeId))
def ConT.con:ConT→Con
 |.pure F=>.pure fun args=>Tr.run (F args)
 |.store D=>.store fun args σ=>Tr.run (D args σ)
 |.may D=>.may fun args σ=>Tr.run (D args σ)
 |.flag=>.flag
 |.glob cs=>.glob cs
 |.hint l=>.hint l
 |.yld e Y=>.yld e fun t args σ=>Tr.run (Y t args σ)
abbrev GamT:=FuncId→Option ConT
def gam (G:GamT):Gam:=fun f=>(G f).map ConT.con
def qE3 (kn:List Nat):Operand→Bool
 |.const _=>true
 |.tmp t=>kn.contains t
 |_=>false
def qp3 (G:GamT):Bool:=match G qK1 with
 |some .flag=>true
 |_=>false
theorem qnz (G:GamT):qm1 (gam G)=qp3 G:=by
 unfold qm1 qp3 gam;cases G qK1 with
 |none=>rfl
 |some c=>cases c<;>rfl
def qpq (G:GamT):Bool:=match G qdx with
 |some .flag=>true
 |_=>false
theorem qvf (G:GamT):qwc (gam G)=qpq G:=by
 unfold qwc qpq gam;cases G qdx with
 |none=>rfl
 |some c=>cases c<;>rfl
def qyE (G:GamT):Operand→Bool
 |.func _=>true
 |_=>qpq G
theorem qpj (G:GamT) (f:Operand):qxA (gam G) f=qyE G f:=by
 cases f<;>simp only [qxA,qyE,qvf]
def prV (r:PR×Store):Tr (PV×Store):=match r.1 with
 |.val x=>.ret (x,r.2)
 |.pan _=>.fail
def qFf (tb:Tab) (G:GamT) (kn:List Nat) (fr:List PV) (σ:Store) (c:Call):Tr (PV×Store) :=
 match c.callee with
 |.builtin .append=>match c.argTypes.toList,c.args.toList with
  |[t,t'],[s,x]=>if t=t' then match ev fr x with
   |.sl ys _=>tappend tb (qp3 G) (qE3 kn x) t (ev fr s) ys σ
   |_=>.fail
   else match tb t' with
   |some K=>match K.kd,ev fr x with
    |.str,.str l=>tappend tb (qp3 G) false t (ev fr s) (qab l) σ
    |_,_=>.fail
   |none=>.fail
  |_,_=>.fail
 |.builtin .len=>match c.argTypes.toList,c.args.toList with
  |[t],[x]=>match tb t with
   |some K=>match K.kd,ev fr x with
    |.str,.str l=>.ret (.int .i64 (sLen l),σ)
    |.sl _,.sl xs _=>.ret (.int .i64 (xLen xs),σ)
    |.sl _,.osl _ _ len _=>.ret (.int .i64 (oLen len),σ)
    |_,_=>.fail
   |none=>.fail
  |_,_=>.fail
 |.builtin .clear=>match c.argTypes.toList,c.args.toList with
  |[t],[x]=>tclear tb t (ev fr x) σ
  |_,_=>.fail
 |.value f=>match ev fr f with
  |.fn g caps=>match G g with
   |some (.pure F)=>bind (F ((c.args.toList.map (ev fr)++caps).map (view σ.objs))) fun x=>.ret (x,σ)
   |some (.store D)=>match f with
    |.func _=>D (c.args.toList.map (ev fr)) σ
    |_=>.fail
   |some (.may D)=>match qyE G f with
    |true=>bind (D (c.args.toList.map (ev fr)++caps) σ) prV
    |false=>.fail
   |some .flag=>.fail
   |some (.yld _ _)=>.fail
   |some (.glob _)=>.fail
   |some (.hint _)=>.fail
   |none=>.fail
  |.mth g fs=>match G g with
   |some (.may D)=>match qyE G f with
    |true=>bind (D (fs++c.args.toList.map (ev fr)) σ) prV
    |false=>.fail
   |_=>.fail
  |.yld t=>match G qeM with
   |some (.yld e Y)=>match σ.toks[t]? with
    |some (s,k,e')=>if k=0∧e'=e then chk (nEq s 0) (Y t (c.args.toList.map (ev fr)) σ) else .fail
    |none=>.fail
   |_=>.fail
  |_=>.fail
 |_=>qmA (qb8 tb (gam G) fr σ c)
theorem qFo {tb:Tab} {G:GamT} {kn:List Nat} {fr:List PV} {σ:Store} {c:Call} {r:PV×Store} (h:run (qFf tb G kn fr σ c)=some r):qb8 tb (gam G) fr σ c=some r:=by
 unfold qFf at h
 split at h
 ·rename_i hc;unfold qb8;simp only [hc];split at h
  ·rename_i t t' s x ht hx;simp only [ht,hx];split at h
   ·rename_i htt;rw [if_pos htt];split at h
    ·rename_i ys tg he;simp only [he];rw [qnz];exact qva h
    ·cases h
   ·rename_i htt;rw [if_neg htt];cases hK:tb t' with
    |none=>simp [hK,run] at h
    |some K =>
     simp only [hK] at h ⊢;split at h
     ·rename_i l hk he;simp only [hk,he];rw [qnz];exact qva (tg:=.non) h
     ·cases h
  ·cases h
 ·rename_i hc;unfold qb8;simp only [hc];split at h
  ·rename_i t x ht hx;simp only [ht,hx];cases hK:tb t with
   |none=>simp [hK,run] at h
   |some K =>
    simp only [hK] at h ⊢;split at h
    ·rename_i l hk he;simp only [hk,he];exact h
    ·rename_i e xs tg hk he;simp only [hk,he];exact h
    ·rename_i e id off len k hk he;simp only [hk,he];exact h
    ·cases h
  ·cases h
 ·rename_i hc;unfold qb8;simp only [hc];split at h
  ·rename_i t x ht hx;simp only [ht,hx];exact qJk h
  ·cases h
 ·rename_i f hc;unfold qb8;simp only [hc];split at h
  ·rename_i g caps he;simp only [he];cases hG:G g with
   |none=>simp [hG,run] at h
   |some K =>
    cases K with
    |pure F =>
     simp only [hG] at h
     obtain⟨x,hx,hr⟩:=bind_some h;simp only [gam,hG,Option.map_some,ConT.con,hx];exact hr
    |store D =>
     simp only [hG] at h
     simp only [gam,hG,Option.map_some,ConT.con];split at h
     ·exact h
     ·cases h
    |may D =>
     simp only [hG] at h
     simp only [gam,hG,Option.map_some,ConT.con];split at h
     ·rename_i hd;have hd':=(qpj G f).trans hd;simp only [hd'];obtain⟨⟨y,σ1⟩,h1,h2⟩:=bind_some h;simp only [h1];cases y with
      |val x=>exact h2
      |pan x=>cases h2
     ·cases h
    |flag =>
     simp only [hG] at h
     cases h
    |yld e Y =>
     simp only [hG] at h
     cases h
    |glob cs =>
     simp only [hG] at h
     cases h
    |hint l =>
     simp only [hG] at h
     cases h
  ·rename_i g fs he;simp only [he];split at h
   ·rename_i D hG;simp only [gam,hG,Option.map_some,ConT.con];split at h
    ·rename_i hd;have hd':=(qpj G f).trans hd;simp only [hd'];obtain⟨⟨y,σ1⟩,h1,h2⟩:=bind_some h;simp only [h1];cases y with
     |val x=>exact h2
     |pan x=>cases h2
    ·cases h
   ·cases h
  ·rename_i t he;simp only [he];cases hG:G qeM with
   |none=>simp [hG,run] at h
   |some K =>
    cases K with
    |yld e Y =>
     simp only [hG] at h
     simp only [gam,hG,Option.map_some,ConT.con];split at h
     ·rename_i s k e' htk;simp only [htk];split at h
      ·rename_i hc2;obtain⟨h1,h2⟩:=chk_some h;have h3:s=0:=by simpa [nEq] using h1
       rw [if_pos ⟨h3,hc2.1,hc2.2⟩];exact h2
      ·cases h
     ·cases h
    |pure F=>simp [hG,run] at h
    |store D=>simp [hG,run] at h
    |may D=>simp [hG,run] at h
    |flag=>simp [hG,run] at h
    |glob cs=>simp [hG,run] at h
    |hint l=>simp [hG,run] at h
  ·cases h
 ·rwa [qbh] at h
def tun (op:UnOp) (x:PV):Tr PV :=
 match op,x with
 |.neg,.int k n=>.ret (.int k (iSub k 0 n))
 |.not,.bool b=>.ret (.bool (bNot b))
 |_,_=>.fail
theorem qRG {op:UnOp} {x r:PV} (h:run (tun op x)=some r):pun op x=some r:=by
 unfold tun at h
 unfold pun;split at h
 ·exact h
 ·exact h
 ·cases h
def qRe (n m:Int) (s b:Nat):Bool:=decide (0≤n)&&decide (n=m)&&decide (n.toNat * s≤16777216)&&decide (b * n.toNat≤281474976710656)
def zC (n:Nat) (z:List PV):List PV:=reps n z
def qqM (tb:Tab) (m:Bool) (t:TypeId) (x y:PV) (σ:Store):Tr (PV×Store):=match m with
 |false=>bind (qmA (qhr tb t x y)) fun x=>.ret (x,σ)
 |true=>match tb t,x,y with
  |some K,.int _ n,.int _ m=>match K.kd with
   |.sl e=>match tb e with
    |some E=>bif (E.zero.length == E.size&&Nat.blt 0 E.size) then chk (qRe n m E.size E.bytes) (.ret (.osl σ.objs.length 0 (nNat n) E.size,{ σ with objs:=σ.objs++[zC (nNat n) E.zero],tys:=σ.tys++[e+qgz] })) else .fail
    |none=>.fail
   |_=>.fail
  |_,_,_=>.fail
theorem qxG {tb:Tab} {m:Bool} {t:TypeId} {x y:PV} {σ:Store} {r:PV×Store} (h:run (qqM tb m t x y σ)=some r):(if m=true then qlF tb t x y σ else (qhr tb t x y).map fun x=>(x,σ))=some r:=by
 unfold qqM at h
 split at h
 ·obtain⟨v,hv,h⟩:=bind_some h;rw [qbh] at hv;simp only [run,Option.some.injEq] at h
  subst h;simp [hv]
 ·simp only [if_true];unfold qlF;split at h
  ·rename_i K k1 n k2 m hK;split at h
   ·rename_i e hk;split at h
    ·rename_i E hE;simp only [hK,hk,hE];cases hc:(E.zero.length == E.size&&Nat.blt 0 E.size) with
     |false=>rw [hc] at h;cases h
     |true =>
      rw [hc] at h
      simp only [cond_true] at h
      obtain⟨h1,h2⟩:=chk_some h;simp only [Bool.and_eq_true,beq_iff_eq] at hc;simp only [qRe,Bool.and_eq_true,decide_eq_true_eq] at h1;have h3:0 < E.size:=by simpa using hc.2
      rw [if_pos ⟨h1.1.1.1,h1.1.1.2,h1.1.2,h1.2,hc.1,h3⟩];exact h2
    ·cases h
   ·cases h
  ·cases h
def qrJ (G:GamT):Operand→Option (List PV)
 |.global g=>match G (qGp+g) with
  |some (.glob cs)=>some cs
  |_=>none
 |_=>none
theorem qyD (G:GamT) (a:Operand):gcells (gam G) a=qrJ G a:=by
 cases a with
 |global g =>
  simp only [gcells,qrJ,gam];cases G (qGp+g) with
  |none=>rfl
  |some K=>cases K<;>rfl
 |_=>rfl
theorem qEs {G:GamT} {a:Operand} {cs:List PV} (h:qrJ G a=some cs):gcells (gam G) a=some cs:=by rw [qyD,h]
theorem qDy {G:GamT} {a:Operand} (h:qrJ G a=none):gcells (gam G) a=none:=by rw [qyD,h]
def qlS (G:GamT) (o:Oper):List (Nat×Nat×TypeId):=match o.dst with
 |none=>[]
 |some d=>match G quU with
  |some (.hint l)=>qAU l d
  |_=>[]
def qnV (G:GamT) (o:Oper):List (Nat×Nat×TypeId):=match o.op with
 |.move x=>match qwT x with
  |true=>qlS G o
  |false=>[]
 |.assign x=>match qwT x with
  |true=>qlS G o
  |false=>[]
 |.build _ _=>qlS G o
 |.alloc _=>qlS G o
 |_=>[]
theorem qmw (G:GamT) (o:Oper):hinted (gam G) o=qnV G o:=by
 have e:qrE (gam G) o=qlS G o:=by
  unfold qrE qlS gam;cases o.dst with
  |none=>rfl
  |some d =>
   cases G quU with
   |none=>rfl
   |some K=>cases K<;>rfl
 unfold hinted qnV;rw [e];cases o.op<;>rfl
def topp (tb:Tab) (G:GamT) (kn:List Nat) (fr:List PV) (σ:Store) (o:Oper):Tr (PV×Bool×Store) :=
 match o.op with
 |.move x|.assign x=>match qnV G o with
  |[]=>.ret (ev fr x,qE3 kn x,σ)
  |hs=>.ret ((rtag hs (ev fr x) σ).1,false,(rtag hs (ev fr x) σ).2)
 |.alloc t=>match tb t with
  |some K=>.ret ((robj (qnV G o) K.zero t σ).1,false,(robj (qnV G o) K.zero t σ).2)
  |none=>.fail
 |.build t parts=>bind (qmA (pbuild tb t (parts.toList.map fun p=>(p.1,ev fr p.2)))) fun x=>.ret ((rtag (qnV G o) x σ).1,false,(rtag (qnV G o) x σ).2)
 |.pick c a b=>match ev fr c with
  |.bool t=>br (qE3 kn c) t (.ret (ev fr a,qE3 kn a,σ)) (.ret (ev fr b,qE3 kn b,σ))
  |_=>.fail
 |.buildSlice t len parts=>bind (qmA (qju tb t len (parts.toList.map fun p=>(p.1,ev fr p.2)))) fun x=>.ret (x,true,σ)
 |.binOp op t x y _=>bind (tbin tb op t x y (ev fr x) (ev fr y)) fun v=>.ret (v,false,σ)
 |.convert s d x=>bind (tconv tb s d (ev fr x)) fun v=>.ret (v,false,σ)
 |.slice t x lo hi mx=>bind (tslice tb t (ev fr x) (lo.map (ev fr)) (hi.map (ev fr)) (mx.map (ev fr))) fun v=>.ret (v,false,σ)
 |.indexAddr t x i=>bind (qBc tb t (ev fr x) (ev fr i)) fun v=>.ret (v,false,σ)
 |.index t x i=>bind (tindex tb t (ev fr x) (ev fr i)) fun v=>.ret (v,false,σ)
 |.unOp op _ x=>bind (tun op (ev fr x)) fun v=>.ret (v,qE3 kn x,σ)
 |.load t a=>match qrJ G a with
  |some cs=>match tb t with
   |some K=>bind (qmA (pload K cs 0)) fun v=>.ret (v,false,σ)
   |none=>.fail
  |none=>bind (tload tb t (ev fr a) σ) fun v=>.ret (v,false,σ)
 |.store t a x=>bind (tstore tb t (ev fr a) (ev fr x) σ) fun σ'=>.ret (.top,false,σ')
 |.call c=>bind (qFf tb G kn fr σ c) fun r=>.ret (r.1,false,r.2)
 |.makeSlice t l c=>bind (qqM tb (qp3 G) t (ev fr l) (ev fr c) σ) fun r=>.ret (r.1,false,r.2)
 |_=>bind (qmA (pop tb (gam G) fr σ o)) fun r=>.ret (r.1,false,r.2)
theorem qIv {tb:Tab} {G:GamT} {kn:List Nat} {fr:List PV} {σ:Store} {o:Oper} {x:PV} {l:Bool} {σ':Store} (h:run (topp tb G kn fr σ o)=some (x,l,σ')):pop tb (gam G) fr σ o=some (x,σ'):=by
 unfold topp at h
 split at h
 ·rename_i y ho;simp only [pop,ho,qmw];split at h
  ·rename_i hh;simp only [run,Option.some.injEq,Prod.mk.injEq] at h
   obtain⟨rfl,rfl,rfl⟩:=h;rw [hh];rfl
  ·simp only [run,Option.some.injEq,Prod.mk.injEq] at h
   obtain⟨h1,h2,h3⟩:=h;exact congrArg some (Prod.ext h1 h3)
 ·rename_i y ho;simp only [pop,ho,qmw];split at h
  ·rename_i hh;simp only [run,Option.some.injEq,Prod.mk.injEq] at h
   obtain⟨rfl,rfl,rfl⟩:=h;rw [hh];rfl
  ·simp only [run,Option.some.injEq,Prod.mk.injEq] at h
   obtain⟨h1,h2,h3⟩:=h;exact congrArg some (Prod.ext h1 h3)
 ·rename_i t ho;simp only [pop,ho,qmw];cases hK:tb t with
  |none=>simp [hK,run] at h
  |some K =>
   simp only [hK,run,Option.some.injEq,Prod.mk.injEq] at h ⊢;obtain⟨h1,h2,h3⟩:=h;exact Prod.ext h1 h3
 ·rename_i t parts ho;obtain⟨v,hv,h⟩:=bind_some h;rw [qbh] at hv;simp only [run,Option.some.injEq,Prod.mk.injEq] at h
  obtain⟨h1,h2,h3⟩:=h;simp only [pop,ho,hv,Option.map_some,qmw];exact congrArg some (Prod.ext h1 h3)
 ·rename_i c a b ho;simp only [pop,ho];split at h
  ·rename_i t ht;rw [qVr] at h
   simp only [ht];cases t <;>
   ·simp only [run,cond_true,cond_false,Option.some.injEq,Prod.mk.injEq] at h ⊢;exact⟨h.1,h.2.2⟩
  ·cases h
 ·rename_i ho;obtain⟨v,hv,h⟩:=bind_some h;rw [qbh] at hv;simp only [run,Option.some.injEq,Prod.mk.injEq] at h
  obtain⟨rfl,rfl,rfl⟩:=h;simp only [pop,ho,hv,Option.map_some]
 ·rename_i ho;obtain⟨v,hv,h⟩:=bind_some h;simp only [run,Option.some.injEq,Prod.mk.injEq] at h
  obtain⟨rfl,rfl,rfl⟩:=h;simp only [pop,ho,qOP hv,Option.map_some]
 ·rename_i ho;obtain⟨v,hv,h⟩:=bind_some h;simp only [run,Option.some.injEq,Prod.mk.injEq] at h
  obtain⟨rfl,rfl,rfl⟩:=h;simp only [pop,ho,qLZ hv,Option.map_some]
 ·rename_i ho;obtain⟨v,hv,h⟩:=bind_some h;simp only [run,Option.some.injEq,Prod.mk.injEq] at h
  obtain⟨rfl,rfl,rfl⟩:=h;simp only [pop,ho,qIV hv,Option.map_some]
 ·rename_i ho;obtain⟨v,hv,h⟩:=bind_some h;simp only [run,Option.some.injEq,Prod.mk.injEq] at h
  obtain⟨rfl,rfl,rfl⟩:=h;simp only [pop,ho,qCM hv,Option.map_some]
 ·rename_i ho;obtain⟨v,hv,h⟩:=bind_some h;simp only [run,Option.some.injEq,Prod.mk.injEq] at h
  obtain⟨rfl,rfl,rfl⟩:=h;simp only [pop,ho,qIM hv,Option.map_some]
 ·rename_i ho;obtain⟨v,hv,h⟩:=bind_some h;simp only [run,Option.some.injEq,Prod.mk.injEq] at h
  obtain⟨rfl,rfl,rfl⟩:=h;simp only [pop,ho,qRG hv,Option.map_some]
 ·rename_i t y ho;cases hg:qrJ G y with
  |some cs =>
   simp only [hg] at h
   cases hK:tb t with
   |none=>simp [hK,run] at h
   |some K =>
    simp only [hK] at h
    obtain⟨v,hv,h⟩:=bind_some h;rw [qbh] at hv;simp only [run,Option.some.injEq,Prod.mk.injEq] at h
    obtain⟨rfl,rfl,rfl⟩:=h;simp only [pop,ho,qEs hg,hK,hv,Option.map_some]
  |none =>
   simp only [hg] at h
   obtain⟨v,hv,h⟩:=bind_some h;simp only [run,Option.some.injEq,Prod.mk.injEq] at h
   obtain⟨rfl,rfl,rfl⟩:=h;exact qN0 ho (qDy hg) hv
 ·rename_i t y z ho;obtain⟨v,hv,h⟩:=bind_some h;simp only [run,Option.some.injEq,Prod.mk.injEq] at h
  obtain⟨rfl,rfl,rfl⟩:=h;exact qJ8 ho hv
 ·rename_i c ho;obtain⟨v,hv,h⟩:=bind_some h;simp only [run,Option.some.injEq,Prod.mk.injEq] at h
  obtain⟨rfl,rfl,rfl⟩:=h;simp only [pop,ho,qFo hv]
 ·rename_i t y z ho;obtain⟨v,hv,h⟩:=bind_some h;simp only [run,Option.some.injEq,Prod.mk.injEq] at h
  obtain⟨rfl,rfl,rfl⟩:=h;simp only [pop,ho];have:=qxG hv;rw [← qnz] at this;exact this
 ·obtain⟨v,hv,h⟩:=bind_some h;rw [qbh] at hv;simp only [run,Option.some.injEq,Prod.mk.injEq] at h
  obtain⟨rfl,rfl,rfl⟩:=h;exact hv
def kput (kn:List Nat) (dst:Option Tmp) (l:Bool):List Nat :=
 match dst with
 |some d=>bif l then d::kn else kn.filter (fun t=>!(t == d))
 |none=>kn
abbrev Fm:=List Nat×List PV×Store
def tops (tb:Tab) (G:GamT) (ops:List Oper):List Oper→List Nat→List PV→Store→Tr Fm
 |[],kn,fr,σ=>.ret (kn,fr,σ)
 |o::rest,kn,fr,σ=>match o.guard with
  |none=>bind (topp tb G kn fr σ o) fun r=>tops tb G ops rest (kput kn o.dst r.2.1) (pput fr o.dst r.1) r.2.2
  |some (j,b)=>match (ops[j]?).bind (·.dst) with
   |none=>.fail
   |some d=>match fr[d]? with
    |some (.bool c) =>
     if kn.contains d then
      if c == b then bind (topp tb G kn fr σ o) fun r=>tops tb G ops rest (kput kn o.dst r.2.1) (pput fr o.dst r.1) r.2.2
      else tops tb G ops rest (kput kn o.dst false) (pput fr o.dst (.tup [])) σ
     else
      .ite c
       (if b then bind (topp tb G (d::kn) (fr.set d (.bool true)) σ o) fun r=>tops tb G ops rest (kput (d::kn) o.dst r.2.1) (pput (fr.set d (.bool true)) o.dst r.1) r.2.2
       else tops tb G ops rest (kput (d::kn) o.dst false) (pput (fr.set d (.bool true)) o.dst (.tup [])) σ)
       (if b then tops tb G ops rest (kput (d::kn) o.dst false) (pput (fr.set d (.bool false)) o.dst (.tup [])) σ
       else bind (topp tb G (d::kn) (fr.set d (.bool false)) σ o) fun r=>tops tb G ops rest (kput (d::kn) o.dst r.2.1) (pput (fr.set d (.bool false)) o.dst r.1) r.2.2)
    |some (.tup _)=>tops tb G ops rest (kput kn o.dst false) (pput fr o.dst (.tup [])) σ
    |_=>.fail
theorem qn9 {fr:List PV} {d:Nat} {x:PV} (h:fr[d]?=some x):fr.set d x=fr:=by
 apply List.ext_getElem?;intro i;rw [List.getElem?_set];split
 ·rename_i e;subst e;split
  ·exact h.symm
  ·rename_i hl;exact absurd (List.getElem?_eq_some_iff.1 h).1 hl
 ·rfl
theorem qOW {tb:Tab} {G:GamT} {ops:List Oper}:∀ (l:List Oper) (kn:List Nat) (fr:List PV) (σ:Store) (kn':List Nat) (fr':List PV) (σ':Store),run (tops tb G ops l kn fr σ)=some (kn',fr',σ')→pops tb (gam G) ops l fr σ=some (fr',σ'):=by
 intro l
 induction l with
 |nil =>
  intro kn fr σ kn' fr' σ' h;simp only [tops,run,Option.some.injEq,Prod.mk.injEq] at h
  obtain⟨_,rfl,rfl⟩:=h;rfl
 |cons o rest ih =>
  intro kn fr σ kn' fr' σ' h;have yes:∀ kn,pwanted ops fr o=some true→run (bind (topp tb G kn fr σ o) fun r=>tops tb G ops rest (kput kn o.dst r.2.1) (pput fr o.dst r.1) r.2.2)=some (kn',fr',σ')→pops tb (gam G) ops (o::rest) fr σ=some (fr',σ'):=by
   intro kn hw h;obtain⟨⟨x,lt,σ1⟩,hx,h⟩:=bind_some h;simp only [pops,hw,qIv hx];exact ih _ _ _ _ _ _ h
  have no:∀ kn,pwanted ops fr o=some false→run (tops tb G ops rest kn (pput fr o.dst (.tup [])) σ)=some (kn',fr',σ')→pops tb (gam G) ops (o::rest) fr σ=some (fr',σ'):=by
   intro kn hw h;simp only [pops,hw];exact ih _ _ _ _ _ _ h
  simp only [tops] at h
  split at h
  ·rename_i hg;exact yes _ (by simp [pwanted,hg]) h
  ·rename_i j b hg;split at h
   ·cases h
   ·rename_i d hd;split at h
    ·rename_i c hc;have hw:pwanted ops fr o=some (c == b):=by simp [pwanted,hg,hd,hc]
     split at h
     ·split at h
      ·rename_i hcb;exact yes _ (by rw [hw,hcb]) h
      ·rename_i hcb;exact no _ (by rw [hw];simpa using hcb) h
     ·simp only [run] at h
      cases c with
      |true =>
       rw [qn9 hc] at h
       simp only [cond_true] at h
       cases b with
       |true=>exact yes _ hw h
       |false=>exact no _ hw h
      |false =>
       rw [qn9 hc] at h
       simp only [cond_false] at h
       cases b with
       |true=>exact no _ hw h
       |false=>exact yes _ hw h
    ·rename_i cs hc;exact no _ (by simp [pwanted,hg,hd,hc]) h
    ·cases h
inductive TM where
 |ok (m:Fm)
 |pan (x:PV) (σ:Store)
def mayT (G:GamT) (o:Oper):Bool:=match o.op with
 |.panic _=>true
 |.call c=>match c.callee with
  |.value (.func g)=>match G g with
   |some (.may _)=>true
   |_=>false
  |.value _=>qpq G
  |_=>false
 |_=>false
def qVy (G:GamT) (fr:List PV) (o:Oper):Option (List PV→Store→Tr (PR×Store)):=match o.op with
 |.call c=>match c.callee with
  |.value f=>match ev fr f with
   |.fn g _=>match G g with
    |some (.may D)=>match qyE G f with
     |true=>some D
     |false=>none
    |_=>none
   |.mth g _=>match G g with
    |some (.may D)=>match qyE G f with
     |true=>some D
     |false=>none
    |_=>none
   |_=>none
  |_=>none
 |_=>none
def qGM (fr:List PV) (o:Oper):List PV:=match o.op with
 |.call c=>match c.callee with
  |.value f=>match ev fr f with
   |.fn _ caps=>c.args.toList.map (ev fr)++caps
   |.mth _ fs=>fs++c.args.toList.map (ev fr)
   |_=>[]
  |_=>[]
 |_=>[]
def panX (fr:List PV) (o:Oper):Option PV:=match o.op with
 |.panic x=>match qFI (ev fr x) with
  |true=>some (ev fr x)
  |false=>none
 |_=>none
def qVs (o:Oper):Bool:=match o.op with
 |.panic _=>true
 |_=>false
def topM (tb:Tab) (G:GamT) (kn:List Nat) (fr:List PV) (σ:Store) (o:Oper) (k:PV→Bool→Store→Tr TM):Tr TM:=match qVs o with
 |true=>match panX fr o with
  |some x=>.ret (.pan x σ)
  |none=>.fail
 |false=>match qVy G fr o with
  |some D=>bind (D (qGM fr o) σ) fun r=>match r.1 with
   |.val x=>k x false r.2
   |.pan x=>.ret (.pan x r.2)
  |none=>bind (topp tb G kn fr σ o) fun r=>k r.1 r.2.1 r.2.2
theorem qH9 {tb:Tab} {G:GamT} {kn:List Nat} {fr:List PV} {σ:Store} {o:Oper} {k:PV→Bool→Store→Tr TM} {r:TM} (h:run (topM tb G kn fr σ o k)=some r) :
  (∃ x l σ',pop tb (gam G) fr σ o=some (x,σ')∧run (k x l σ')=some r)∨(∃ x σ',r=.pan x σ'∧pop tb (gam G) fr σ o=none∧ppan (gam G) fr σ o=some (x,σ')):=by
 unfold topM at h
 split at h
 ·rename_i hp;unfold qVs at hp;split at hp
  ·rename_i y ho;unfold panX at h
   simp only [ho] at h
   cases hc:qFI (ev fr y) with
   |true =>
    simp only [hc,run,Option.some.injEq] at h
    subst h;exact .inr ⟨_,_,rfl,by simp only [pop,ho],by simp only [ppan,ho,hc]⟩
   |false=>simp only [hc] at h;cases h
  ·cases hp
 ·split at h
  ·rename_i D hD;obtain⟨⟨y,σ1⟩,h1,h2⟩:=bind_some h;unfold qVy at hD;split at hD
   ·rename_i c ho;split at hD
    ·rename_i f hc;split at hD
     ·rename_i g caps hf;split at hD
      ·rename_i D' hG;split at hD
       ·rename_i hdy;simp only [Option.some.injEq] at hD;subst hD;have hdy':=(qpj G f).trans hdy;simp only [qGM,ho,hc,hf] at h1;have hΓ:gam G g=some (.may fun args σ=>Tr.run (D' args σ)):=by simp only [gam,hG,Option.map_some,ConT.con]
        cases y with
        |val x =>
         refine .inl ⟨x,false,σ1,?_,h2⟩;simp only [pop,ho,qb8,hc,hf,hΓ,hdy',h1,qgi]
        |pan x =>
         simp only [run,Option.some.injEq] at h2;subst h2;refine .inr ⟨x,σ1,rfl,?_,?_⟩
         ·simp only [pop,ho,qb8,hc,hf,hΓ,hdy',h1,qgi]
         ·simp only [ppan,ho,hc,hf,hΓ,hdy',h1,qjT]
       ·cases hD
      ·cases hD
     ·rename_i g caps hf;split at hD
      ·rename_i D' hG;split at hD
       ·rename_i hdy;simp only [Option.some.injEq] at hD;subst hD;have hdy':=(qpj G f).trans hdy;simp only [qGM,ho,hc,hf] at h1;have hΓ:gam G g=some (.may fun args σ=>Tr.run (D' args σ)):=by simp only [gam,hG,Option.map_some,ConT.con]
        cases y with
        |val x =>
         refine .inl ⟨x,false,σ1,?_,h2⟩;simp only [pop,ho,qb8,hc,hf,hΓ,hdy',h1,qgi]
        |pan x =>
         simp only [run,Option.some.injEq] at h2;subst h2;refine .inr ⟨x,σ1,rfl,?_,?_⟩
         ·simp only [pop,ho,qb8,hc,hf,hΓ,hdy',h1,qgi]
         ·simp only [ppan,ho,hc,hf,hΓ,hdy',h1,qjT]
       ·cases hD
      ·cases hD
     ·cases hD
    ·cases hD
   ·cases hD
  ·obtain⟨⟨x,l,σ1⟩,h1,h2⟩:=bind_some h;exact .inl ⟨x,l,σ1,qIv h1,h2⟩
def qpA (tb:Tab) (G:GamT) (ops:List Oper):List Oper→List Nat→List PV→Store→Tr TM
 |[],kn,fr,σ=>.ret (.ok (kn,fr,σ))
 |o::rest,kn,fr,σ=>match o.guard with
  |none=>topM tb G kn fr σ o fun x l σ'=>qpA tb G ops rest (kput kn o.dst l) (pput fr o.dst x) σ'
  |some (j,b)=>match (ops[j]?).bind (·.dst) with
   |none=>.fail
   |some d=>match fr[d]? with
    |some (.bool c) =>
     if kn.contains d then
      if c == b then topM tb G kn fr σ o fun x l σ'=>qpA tb G ops rest (kput kn o.dst l) (pput fr o.dst x) σ'
      else qpA tb G ops rest (kput kn o.dst false) (pput fr o.dst (.tup [])) σ
     else
      .ite c
       (if b then topM tb G (d::kn) (fr.set d (.bool true)) σ o fun x l σ'=>qpA tb G ops rest (kput (d::kn) o.dst l) (pput (fr.set d (.bool true)) o.dst x) σ'
       else qpA tb G ops rest (kput (d::kn) o.dst false) (pput (fr.set d (.bool true)) o.dst (.tup [])) σ)
       (if b then qpA tb G ops rest (kput (d::kn) o.dst false) (pput (fr.set d (.bool false)) o.dst (.tup [])) σ
       else topM tb G (d::kn) (fr.set d (.bool false)) σ o fun x l σ'=>qpA tb G ops rest (kput (d::kn) o.dst l) (pput (fr.set d (.bool false)) o.dst x) σ')
    |some (.tup _)=>qpA tb G ops rest (kput kn o.dst false) (pput fr o.dst (.tup [])) σ
    |_=>.fail
def TMok (tb:Tab) (Γ:Gam) (ops l:List Oper) (fr:List PV) (σ:Store):TM→Prop
 |.ok (_,fr',σ')=>pops tb Γ ops l fr σ=some (fr',σ')
 |.pan x σ'=>pops tb Γ ops l fr σ=none∧ppans tb Γ ops l fr σ=some (x,σ')
theorem qNp {tb:Tab} {G:GamT} {ops:List Oper}:∀ (l:List Oper) (kn:List Nat) (fr:List PV) (σ:Store) (r:TM),run (qpA tb G ops l kn fr σ)=some r→TMok tb (gam G) ops l fr σ r:=by
 intro l
 induction l with
 |nil =>
  intro kn fr σ r h;simp only [qpA,run,Option.some.injEq] at h
  subst h;rfl
 |cons o rest ih =>
  intro kn fr σ r h;have yes:∀ kn kn',pwanted ops fr o=some true→run (topM tb G kn fr σ o fun x l σ'=>qpA tb G ops rest (kput kn' o.dst l) (pput fr o.dst x) σ')=some r→TMok tb (gam G) ops (o::rest) fr σ r:=by
   intro kn kn' hw h;rcases qH9 h with⟨x,lt,σ1,hx,h⟩|⟨x,σ1,rfl,hx,hp⟩
   ·have:=ih _ _ _ _ h;cases r with
    |ok m=>simp only [TMok,pops,hw,hx] at this ⊢;exact this
    |pan y σ2=>simp only [TMok,pops,ppans,hw,hx] at this ⊢;exact this
   ·simp only [TMok,pops,ppans,hw,hx,hp,and_self]
  have no:∀ kn,pwanted ops fr o=some false→run (qpA tb G ops rest kn (pput fr o.dst (.tup [])) σ)=some r→TMok tb (gam G) ops (o::rest) fr σ r:=by
   intro kn hw h;have:=ih _ _ _ _ h;cases r with
   |ok m=>simp only [TMok,pops,hw] at this ⊢;exact this
   |pan y σ2=>simp only [TMok,pops,ppans,hw] at this ⊢;exact this
  simp only [qpA] at h
  split at h
  ·rename_i hg;exact yes _ _ (by simp [pwanted,hg]) h
  ·rename_i j b hg;split at h
   ·cases h
   ·rename_i d hd;split at h
    ·rename_i c hc;have hw:pwanted ops fr o=some (c == b):=by simp [pwanted,hg,hd,hc]
     split at h
     ·split at h
      ·rename_i hcb;exact yes _ _ (by rw [hw,hcb]) h
      ·rename_i hcb;exact no _ (by rw [hw];simpa using hcb) h
     ·simp only [run] at h
      cases c with
      |true =>
       rw [qn9 hc] at h
       simp only [cond_true] at h
       cases b with
       |true=>exact yes _ _ hw h
       |false=>exact no _ hw h
      |false =>
       rw [qn9 hc] at h
       simp only [cond_false] at h
       cases b with
       |true=>exact no _ hw h
       |false=>exact yes _ _ hw h
    ·rename_i cs hc;exact no _ (by simp [pwanted,hg,hd,hc]) h
    ·cases h
def qQH (G:GamT):List Oper→Bool
 |[]=>false
 |o::l=>match mayT G o with
  |true=>true
  |false=>qQH G l
def qPX (G:GamT) (o:Oper):Bool:=match o.op with
 |.panic _=>true
 |.call c=>match c.callee with
  |.value (.func g)=>match G g with
   |some (.may _)=>true
   |_=>false
  |.value _=>qpq G
  |_=>false
 |_=>false
theorem qPU (G:GamT) (o:Oper):mayP (gam G) o=qPX G o:=by
 unfold mayP qPX;cases ho:o.op with
 |call c =>
  simp only [];cases hc:c.callee with
  |value f =>
   cases f with
   |func g =>
    simp only [gam];cases G g with
    |none=>rfl
    |some K=>cases K<;>rfl
   |_=>exact qvf G
  |_=>rfl
 |_=>rfl
def qPV (G:GamT):List Oper→Bool
 |[]=>false
 |o::l=>match qPX G o with
  |true=>true
  |false=>qPV G l
theorem qHa (G:GamT):∀ (l:List Oper),anyP (gam G) l=qPV G l
 |[]=>rfl
 |o::l=>by
  simp only [anyP,qPV,qPU,qHa G l];cases qPX G o<;>rfl
def qNB (G:GamT) (ops:List Oper) (draw:Bool):Bool:=match draw with
 |true=>qPV G ops
 |false=>false
theorem qyN (G:GamT) (ops:List Oper) (draw:Bool):qxs (gam G) ops draw=qNB G ops draw:=by
 cases draw with
 |true=>exact qHa G ops
 |false=>rfl
open Classical in
def qg6 (a b:List PV):Bool:=decide (a=b)
@[simp] theorem okSame_self (a:List PV):qg6 a a=true:=by simp [qg6]
def qCL {α:Type} (o:Oper) (σ σ':Store) (t:Tr α):List (Nat×Nat)→Tr α
 |[]=>t
 |p::l=>match dirE o p.1 with
  |true=>qCL o σ σ' t l
  |false=>match σ.objs[p.2]?,σ'.objs[p.2]? with
   |some a,some b=>chk (qg6 b a) (qCL o σ σ' t l)
   |_,_=>.fail
theorem qia {α:Type} {o:Oper} {σ σ':Store} {t:Tr α} {r:α}:∀ (l:List (Nat×Nat)),run (qCL o σ σ' t l)=some r→qr7 o σ σ' l∧run t=some r
 |[],h=>⟨trivial,h⟩
 |p::l,h=>by
  simp only [qCL] at h
  split at h
  ·rename_i hd;exact⟨⟨.inl hd,(qia l h).1⟩,(qia l h).2⟩
  ·split at h
   ·rename_i a b ha hb;obtain⟨h1,h2⟩:=chk_some h;have:b=a:=by simpa [qg6] using h1
    exact⟨⟨.inr (by rw [ha,hb,this]),(qia l h2).1⟩,(qia l h2).2⟩
   ·cases h
def qI4 (tb:Tab) (G:GamT) (ops:List Oper):List Oper→Nat→List (Nat×Nat)→List Nat→List PV→Store→Tr TM
 |[],_,_,kn,fr,σ=>.ret (.ok (kn,fr,σ))
 |o::rest,j,lds,kn,fr,σ=>match o.guard with
  |none=>topM tb G kn fr σ o fun x l σ'=>match writes (gam G) o with
   |true=>qCL o σ σ' (qI4 tb G ops rest (j+1) (qIR j lds (ldOf fr o)) (kput kn o.dst l) (pput fr o.dst x) σ') lds
   |false=>qI4 tb G ops rest (j+1) (qIR j lds (ldOf fr o)) (kput kn o.dst l) (pput fr o.dst x) σ'
  |some _=>.fail
def TMD (r:TM):PM:=match r with
 |.ok m=>.ok m.2.1 m.2.2
 |.pan x σ=>.pan x σ
theorem qMs {tb:Tab} {G:GamT} {ops:List Oper}:∀ (l:List Oper) (j:Nat) (lds:List (Nat×Nat)) (kn:List Nat) (fr:List PV) (σ:Store) (r:TM),run (qI4 tb G ops l j lds kn fr σ)=some r→qir tb (gam G) ops l j lds fr σ=some (TMD r):=by
 intro l
 induction l with
 |nil =>
  intro j lds kn fr σ r h;simp only [qI4,run,Option.some.injEq] at h
  subst h;rfl
 |cons o rest ih =>
  intro j lds kn fr σ r h;simp only [qI4] at h
  split at h
  ·rename_i hg;have hw:pwanted ops fr o=some true:=by simp [pwanted,hg]
   rcases qH9 h with⟨x,lt,σ1,hx,h⟩|⟨x,σ1,rfl,hx,hp⟩
   ·simp only [qir,hw,hx];split at h
    ·rename_i hwr;obtain⟨h1,h2⟩:=qia _ h;rw [if_pos (fun _=>h1)]
     exact ih _ _ _ _ _ _ h2
    ·rename_i hwr;rw [if_pos (fun e=>by rw [hwr] at e;cases e)]
     exact ih _ _ _ _ _ _ h
   ·simp only [qir,hw,hx,hp,TMD]
  ·cases h
abbrev LpsT:=Nat→List PV→Store→Tr (PExit×List PV×Store)
def lps (L:LpsT):Lps:=fun r fr σ=>run (L r fr σ)
def qP5 (fr:List PV) (c:Operand) (b:Bool):List PV:=match c with
 |.tmp t=>fr.set t (.bool b)
 |_=>fr
def knIf (kn:List Nat) (c:Operand):List Nat:=match c with
 |.tmp t=>t::kn
 |_=>kn
def texec (tb : Tab) (G : GamT) (L : LpsT) : Code → List Nat → List PV → Store → Tr (PExit × Fm)
  | .skip, kn, fr, σ => .ret (.normal, kn, fr, σ)
  | .label _, kn, fr, σ => .ret (.normal, kn, fr, σ)
  | .region _ ops draw, kn, fr, σ => match (match draw with | true => false | false => qQH G ops.toList) with
   | true => bind (qpA tb G ops.toList ops.toList kn fr σ) fun r => match r with
    | .ok m => .ret (.normal, m)
    | .pan x σ' => .ret (.pan x, [], List.replicate fr.length .top, σ')
   | false => match qNB G ops.toList draw with
    | true => bind (qI4 tb G ops.toList ops.toList 0 [] kn fr σ) fun r => match r with
     | .ok m => .ret (.normal, m)
     | .pan x σ' => .ret (.pan x, [], List.replicate fr.length .top, σ')
    | false => bind (tops tb G ops.toList ops.toList kn fr σ) fun m => match qNj (gam G) ops.toList draw with
    | false => .ret (.normal, m)
    | true => match qeB (gam G) ops.toList m.2.1 σ.objs.length with
      | true => .ret (.normal, m)
      | false => .fail
  | .seq a b, kn, fr, σ => bind (texec tb G L a kn fr σ) fun r => match r.1 with
    | .normal => texec tb G L b r.2.1 r.2.2.1 r.2.2.2
    | _ => .ret r
  | .cond c a b, kn, fr, σ => match ev fr c with
    | .bool t =>
      if qE3 kn c then (if t then texec tb G L a kn fr σ else texec tb G L b kn fr σ)
      else .ite t (texec tb G L a (knIf kn c) (qP5 fr c true) σ) (texec tb G L b (knIf kn c) (qP5 fr c false) σ)
    | _ => .fail
  | .block id c, kn, fr, σ => bind (texec tb G L c kn fr σ) fun r => match r.1 with
    | .exit j => if j = id then .ret (.normal, r.2) else .ret r
    | _ => .ret r
  | .loop c, kn, fr, σ => bind (L (rid c) fr σ) fun r => .ret (r.1, [], r.2.1, r.2.2)
  | .rangeFunc _ _ x y, kn, fr, σ => bind (L (rfid x y) fr σ) fun r => .ret (r.1, [], r.2.1, r.2.2)
  | .exit id, kn, fr, σ => .ret (.exit id, kn, fr, σ)
  | .ret, kn, fr, σ => .ret (.ret, kn, fr, σ)
  | _, _, _, _ => .fail
theorem qy3 {fr:List PV} {c:Operand} {b:Bool} (h:ev fr c=.bool b):qP5 fr c b=fr:=by
 cases c with
 |tmp t =>
  simp only [qP5];apply qn9;simp only [ev,List.getD_eq_getElem?_getD] at h
  cases hx:fr[t]? with
  |none=>simp [hx] at h
  |some x=>simp only [hx,Option.getD_some] at h;rw [h]
 |_=>rfl
theorem qg0 {tb:Tab} {G:GamT} {L:LpsT}:∀ (c:Code) (kn:List Nat) (fr:List PV) (σ:Store) (e:PExit) (kn':List Nat) (fr':List PV) (σ':Store),run (texec tb G L c kn fr σ)=some (e,kn',fr',σ')→pexec tb (gam G) (lps L) c fr σ=some (e,fr',σ'):=by
 intro c
 induction c with
 |skip|label|exit|ret =>
  intro kn fr σ e kn' fr' σ' h;simp only [texec,run,Option.some.injEq,Prod.mk.injEq] at h
  obtain⟨rfl,_,rfl,rfl⟩:=h;rfl
 |region id ops draw =>
  intro kn fr σ e kn' fr' σ' h;simp only [texec] at h
  split at h
  ·rename_i hdm;cases draw with
   |true=>cases hdm
   |false =>
    obtain⟨r,h1,h2⟩:=bind_some h;have hk:=qNp _ _ _ _ _ h1;cases r with
    |ok m =>
     simp only [run,Option.some.injEq,Prod.mk.injEq] at h2;obtain⟨rfl,rfl⟩:=h2;simp only [TMok] at hk;simp only [pexec,qxs,hk];rfl
    |pan x σ1 =>
     simp only [run,Option.some.injEq,Prod.mk.injEq] at h2;obtain⟨rfl,_,rfl,rfl⟩:=h2;simp only [TMok] at hk;simp only [pexec,qxs,hk.1,hk.2]
  split at h
  ·rename_i hdp;have hdp':=(qyN G ops.toList draw).trans hdp;obtain⟨r,h1,h2⟩:=bind_some h;have hk:=qMs _ _ _ _ _ _ _ h1;cases r with
   |ok m =>
    simp only [run,Option.some.injEq,Prod.mk.injEq] at h2;obtain⟨rfl,rfl⟩:=h2;simp only [pexec,hdp',hk,TMD]
   |pan x σ1 =>
    simp only [run,Option.some.injEq,Prod.mk.injEq] at h2;obtain⟨rfl,_,rfl,rfl⟩:=h2;simp only [pexec,hdp',hk,TMD]
  rename_i hdp;have hdp':=(qyN G ops.toList draw).trans hdp;obtain⟨⟨kn1,fr1,σ1⟩,h1,h2⟩:=bind_some h;simp only at h2;have fin:qNj (gam G) ops.toList draw=false∨qeB (gam G) ops.toList fr1 σ.objs.length=true→run (Tr.ret (α:=PExit×Fm) (.normal,kn1,fr1,σ1))=some (e,kn',fr',σ')→pexec tb (gam G) (lps L) (.region id ops draw) fr σ=some (e,fr',σ'):=fun hc h2=>by
   simp only [run,Option.some.injEq,Prod.mk.injEq] at h2;obtain⟨rfl,_,rfl,rfl⟩:=h2;simp only [pexec,hdp',qOW _ _ _ _ _ _ _ h1];rw [if_neg (by rcases hc with hc|hc<;>simp [hc])]
  split at h2
  ·rename_i hna;exact fin (.inl hna) h2
  ·split at h2
   ·rename_i hal;exact fin (.inr hal) h2
   ·cases h2
 |seq a b iha ihb =>
  intro kn fr σ e kn' fr' σ' h;obtain⟨⟨e1,kn1,fr1,σ1⟩,h1,h2⟩:=bind_some h;have:=iha _ _ _ _ _ _ _ h1;cases e1 with
  |normal =>
   simp only [pexec,this];exact ihb _ _ _ _ _ _ _ h2
  |exit j =>
   simp only [run,Option.some.injEq,Prod.mk.injEq] at h2;obtain⟨rfl,_,rfl,rfl⟩:=h2;simp only [pexec,this]
  |ret =>
   simp only [run,Option.some.injEq,Prod.mk.injEq] at h2;obtain⟨rfl,_,rfl,rfl⟩:=h2;simp only [pexec,this]
  |pan x =>
   simp only [run,Option.some.injEq,Prod.mk.injEq] at h2;obtain⟨rfl,_,rfl,rfl⟩:=h2;simp only [pexec,this]
 |cond c a b iha ihb =>
  intro kn fr σ e kn' fr' σ' h;simp only [texec] at h
  simp only [pexec];split at h
  ·rename_i t ht;simp only [ht];split at h
   ·cases t with
    |true=>exact iha _ _ _ _ _ _ _ h
    |false=>exact ihb _ _ _ _ _ _ _ h
   ·simp only [run] at h
    cases t with
    |true =>
     rw [qy3 ht] at h
     exact iha _ _ _ _ _ _ _ h
    |false =>
     rw [qy3 ht] at h
     exact ihb _ _ _ _ _ _ _ h
  ·cases h
 |block id c ih =>
  intro kn fr σ e kn' fr' σ' h;obtain⟨⟨e1,kn1,fr1,σ1⟩,h1,h2⟩:=bind_some h;have:=ih _ _ _ _ _ _ _ h1;simp only [pexec,this];cases e1 with
  |normal =>
   simp only [run,Option.some.injEq,Prod.mk.injEq] at h2;obtain⟨rfl,_,rfl,rfl⟩:=h2;rfl
  |ret =>
   simp only [run,Option.some.injEq,Prod.mk.injEq] at h2;obtain⟨rfl,_,rfl,rfl⟩:=h2;rfl
  |pan x =>
   simp only [run,Option.some.injEq,Prod.mk.injEq] at h2;obtain⟨rfl,_,rfl,rfl⟩:=h2;rfl
  |exit j =>
   simp only [] at h2 ⊢;by_cases hj:j=id
   ·rw [if_pos hj] at h2 ⊢;simp only [run,Option.some.injEq,Prod.mk.injEq] at h2;obtain⟨rfl,_,rfl,rfl⟩:=h2;rfl
   ·rw [if_neg hj] at h2 ⊢;simp only [run,Option.some.injEq,Prod.mk.injEq] at h2;obtain⟨rfl,_,rfl,rfl⟩:=h2;rfl
 |loop c ih =>
  intro kn fr σ e kn' fr' σ' h;obtain⟨⟨e1,fr1,σ1⟩,h1,h2⟩:=bind_some h;simp only [run,Option.some.injEq,Prod.mk.injEq] at h2;obtain⟨rfl,_,rfl,rfl⟩:=h2;simp only [pexec,lps,h1]
 |rangeFunc g ps x y ihx ihy =>
  intro kn fr σ e kn' fr' σ' h;obtain⟨⟨e1,fr1,σ1⟩,h1,h2⟩:=bind_some h;simp only [run,Option.some.injEq,Prod.mk.injEq] at h2;obtain⟨rfl,_,rfl,rfl⟩:=h2;simp only [pexec,lps,h1]
 |scope|goto|refuse=>intro kn fr σ e kn' fr' σ' h;cases h
def qWB (cs:List PV) (off len k:Nat):qR:=chunks k len (cs.drop off)
def tview (objs:qR):PV→Tr PV
 |.osl id off len k=>match objs[id]? with
  |some cs=>chk (qGt cs off (pOff 0 len k)) (.ret (.sl (qWB cs off len k) .non))
  |none=>.fail
 |x=>.ret x
def tviews (objs:qR):List PV→Tr (List PV)
 |[]=>.ret []
 |x::xs=>bind (tview objs x) fun y=>bind (tviews objs xs) fun ys=>.ret (y::ys)
theorem qLa {objs:List (List PV)} {x y:PV} (h:run (tview objs x)=some y):oview objs x=y:=by
 cases x with
 |osl id off len k =>
  simp only [tview] at h
  simp only [oview];cases hc:objs[id]? with
  |none=>rw [hc] at h;cases h
  |some cs =>
   rw [hc] at h
   obtain⟨h1,h2⟩:=chk_some h;simp only [qGt,pOff,Nat.zero_add,decide_eq_true_eq] at h1;simp only [run,Option.some.injEq] at h2;simp only [if_pos h1];exact h2
 |_=>simp only [tview,run,Option.some.injEq] at h;exact h
theorem qxN {objs:List (List PV)}:∀ {xs ys:List PV},run (tviews objs xs)=some ys→xs.map (oview objs)=ys
 |[],ys,h=>by simp only [tviews,run,Option.some.injEq] at h;exact h
 |x::xs,ys,h=>by
  obtain⟨y,h1,h2⟩:=bind_some h;obtain⟨zs,h3,h4⟩:=bind_some h2;simp only [run,Option.some.injEq] at h4;rw [List.map_cons,qLa h1,qxN h3,h4]
def tcall (tb:Tab) (G:GamT) (L:LpsT) (fn:Func) (args:List PV):Tr PV :=
 match fn.body with
 |none=>.fail
 |some c=>bind (texec tb G L c [] (args++List.replicate (fn.ntmps - args.length) .top) ⟨[],[],[]⟩) fun r=>match r.1 with
  |.exit _=>.fail
  |.pan _=>.fail
  |_=>bind (qmA (presults tb r.2.2.1 r.2.2.2 fn.results.toList)) fun xs=>bind (tviews r.2.2.2.objs xs) fun ys=>.ret (pout ys)
theorem qLX {tb:Tab} {G:GamT} {L:LpsT} {fn:Func} {args:List PV} {x:PV} (h:run (tcall tb G L fn args)=some x):pcall tb (gam G) (lps L) fn args=some x:=by
 unfold tcall at h
 unfold pcall;cases hb:fn.body with
 |none=>simp [hb,run] at h
 |some c =>
  simp only [hb] at h ⊢;obtain⟨⟨e1,kn1,fr1,σ1⟩,h1,h2⟩:=bind_some h;rw [qg0 _ _ _ _ _ _ _ _ h1];have key:∀ (o:Option (List PV)),run (bind (qmA o) fun xs=>bind (tviews σ1.objs xs) fun ys=>.ret (pout ys))=some x→(o.map fun xs=>pout (xs.map (oview σ1.objs)))=some x:=by
   intro o h;obtain⟨xs,h3,h4⟩:=bind_some h;obtain⟨ys,h5,h6⟩:=bind_some h4;rw [qbh] at h3;simp only [run,Option.some.injEq] at h6;rw [h3,Option.map_some,qxN h5,h6]
  cases e1 with
  |normal=>exact key _ h2
  |ret=>exact key _ h2
  |exit j=>cases h2
  |pan x=>cases h2
def qop (tb:Tab) (G:GamT) (L:LpsT) (fn:Func) (args:List PV) (σ:Store):Tr (PV×Store) :=
 match fn.body with
 |none=>.fail
 |some c=>bind (texec tb G L c [] (args++List.replicate (fn.ntmps - args.length) .top) σ) fun r=>match r.1 with
  |.exit _=>.fail
  |.pan _=>.fail
  |_=>qmA ((presults tb r.2.2.1 r.2.2.2 fn.results.toList).map fun xs=>(qBX xs,r.2.2.2))
theorem qJH {tb:Tab} {G:GamT} {L:LpsT} {fn:Func} {args:List PV} {σ:Store} {x:PV×Store} (h:run (qop tb G L fn args σ)=some x):qHI tb (gam G) (lps L) fn args σ=some x:=by
 unfold qop at h
 unfold qHI;cases hb:fn.body with
 |none=>simp [hb,run] at h
 |some c =>
  simp only [hb] at h ⊢;obtain⟨⟨e1,kn1,fr1,σ1⟩,h1,h2⟩:=bind_some h;rw [qg0 _ _ _ _ _ _ _ _ h1];cases e1 with
  |normal=>simp only [qbh] at h2;exact h2
  |ret=>simp only [qbh] at h2;exact h2
  |exit j=>cases h2
  |pan x=>cases h2
def qyz (tb:Tab) (G:GamT) (L:LpsT) (fn:Func) (args:List PV) (σ:Store):Tr (PR×Store) :=
 match fn.body with
 |none=>.fail
 |some c=>bind (texec tb G L c [] (args++List.replicate (fn.ntmps - args.length) .top) σ) fun r=>match r.1 with
  |.exit _=>.fail
  |.pan x=>.ret (.pan x,r.2.2.2)
  |_=>qmA ((presults tb r.2.2.1 r.2.2.2 fn.results.toList).map fun xs=>(.val (qBX xs),r.2.2.2))
theorem qJ1 {tb:Tab} {G:GamT} {L:LpsT} {fn:Func} {args:List PV} {σ:Store} {x:PR×Store} (h:run (qyz tb G L fn args σ)=some x):qC0 tb (gam G) (lps L) fn args σ=some x:=by
 unfold qyz at h
 unfold qC0;cases hb:fn.body with
 |none=>simp [hb,run] at h
 |some c =>
  simp only [hb] at h ⊢;obtain⟨⟨e1,kn1,fr1,σ1⟩,h1,h2⟩:=bind_some h;rw [qg0 _ _ _ _ _ _ _ _ h1];cases e1 with
  |normal=>simp only [qbh] at h2;exact h2
  |ret=>simp only [qbh] at h2;exact h2
  |exit j=>cases h2
  |pan x=>exact h2
def ofL (l:List (FuncId×ConT)):GamT:=fun f=>(l.find? fun p=>p.1 == f).map (·.2)
theorem qaf {P:Program} {gl:Gl}:qal P gl (gam (ofL [])):=by
 intro f F h;simp [gam,ofL] at h
theorem qcj {P:Program} {gl:Gl} {f:FuncId} {K:ConT} {l:List (FuncId×ConT)} (h:qsj P gl f K.con) (hl:qal P gl (gam (ofL l))):qal P gl (gam (ofL ((f,K)::l))):=by
 intro g F' hg;simp only [gam,ofL,List.find?_cons] at hg;by_cases hfg:f=g
 ·subst hfg;simp at hg;subst hg;exact h
 ·have:(f == g)=false:=by simp [hfg]
  simp only [this] at hg;exact hl g F' hg
theorem qag {P:Program} {gl:Gl} {f:FuncId} {F:List PV→Tr PV} {l:List (FuncId×ConT)} (h:SimP P gl f fun args=>Tr.run (F args)) (hl:qal P gl (gam (ofL l))):qal P gl (gam (ofL ((f,.pure F)::l))):=qcj (K:=.pure F) h hl
theorem qcf {P:Program} {gl:Gl} {f:FuncId} {D:List PV→Store→Tr (PV×Store)} {l:List (FuncId×ConT)} (h:SimS P gl f fun args σ=>Tr.run (D args σ)) (hl:qal P gl (gam (ofL l))):qal P gl (gam (ofL ((f,.store D)::l))):=qcj (K:=.store D) h hl
theorem qah {P:Program} {gl:Gl} {f:FuncId} {D:List PV→Store→Tr (PR×Store)} {l:List (FuncId×ConT)} (h:SimM P gl f fun args σ=>Tr.run (D args σ)) (hl:qal P gl (gam (ofL l))):qal P gl (gam (ofL ((f,.may D)::l))):=qcj (K:=.may D) h hl
theorem qbt {P:Program} {gl:Gl} {l:List (FuncId×ConT)} (hl:qal P gl (gam (ofL l))):qal P gl (gam (ofL ((qdx,.flag)::l))):=qcj (K:=.flag) trivial hl
theorem SimP.of_tree {P : Program} {tb : Tab} {gl : Gl} {G : GamT} (hT : qaN P tb) (hΓ : qal P gl (gam G)) (hm : P.follows .mixedOrders = true) {f : FuncId} {fn : Func} {c : Code} (hf : P.funcs[f]? = some fn) (hb : fn.body = some c) (hn : (fn.name == "runtime.NumGoroutine") = false)
  (hdr:qaH (gam G) c=true) {L:LpsT} (hL:qbe P gl (lps L) c) {F:List PV→Tr PV} (h:∀ args x,Tr.run (F args)=some x→(∃ H w vs,RelL H w args vs)→Tr.run (tcall tb G L fn args)=some x):SimP P gl f fun args=>Tr.run (F args) :=
 SimP.of_pcall hT hΓ hm hf hb hn hdr fun args x hx hr=>⟨lps L,hL,qLX (h args x hx hr)⟩
theorem SimS.of_tree {P : Program} {tb : Tab} {gl : Gl} {G : GamT} (hT : qaN P tb) (hΓ : qal P gl (gam G)) (hm : P.follows .mixedOrders = true) {f : FuncId} {fn : Func} {c : Code} (hf : P.funcs[f]? = some fn) (hb : fn.body = some c) (hn : (fn.name == "runtime.NumGoroutine") = false)
  (hdr:qaH (gam G) c=true) {L:LpsT} (hL:qbe P gl (lps L) c) {D:List PV→Store→Tr (PV×Store)} (h:∀ args σ x σ',Tr.run (D args σ)=some (x,σ')→(∃ H w vs,RelL H w args vs)→Tr.run (qop tb G L fn args σ)=some (x,σ')):SimS P gl f fun args σ=>Tr.run (D args σ) :=
 SimS.of_pcallS hT hΓ hm hf hb hn hdr fun args σ x σ' hx hr=>⟨lps L,hL,qJH (h args σ x σ' hx hr)⟩
theorem SimM.of_tree {P : Program} {tb : Tab} {gl : Gl} {G : GamT} (hT : qaN P tb) (hΓ : qal P gl (gam G)) (hm : P.follows .mixedOrders = true) {f : FuncId} {fn : Func} {c : Code} (hf : P.funcs[f]? = some fn) (hb : fn.body = some c) (hn : (fn.name == "runtime.NumGoroutine") = false)
  (hdr:qaH (gam G) c=true) {L:LpsT} (hL:qbe P gl (lps L) c) {D:List PV→Store→Tr (PR×Store)} (h:∀ args σ r,Tr.run (D args σ)=some r→(∃ H w vs,RelL H w args vs)→Tr.run (qyz tb G L fn args σ)=some r):SimM P gl f fun args σ=>Tr.run (D args σ) :=
 SimM.of_pcallM hT hΓ hm hf hb hn hdr fun args σ r hx hr=>⟨lps L,hL,qJ1 (h args σ r hx hr)⟩
theorem Does.of_tree {P:Program} {tb:Tab} {gl:Gl} {G:GamT} (hT:qaN P tb) (hΓ:qal P gl (gam G)) (hm:P.follows .mixedOrders=true) {L:LpsT} {c:Code} {kn:List Nat} {fr:List PV} {σ:Store} {e:PExit} {kn':List Nat} {fr':List PV} {σ':Store}
  (hL:qbe P gl (lps L) c) (hdr:qaH (gam G) c=true) (h:run (texec tb G L c kn fr σ)=some (e,kn',fr',σ')):Does P gl c fr σ e fr' σ' :=
 qaJ hT hΓ hm c _ _ _ _ _ hL hdr (qg0 _ _ _ _ _ _ _ _ h)
end Go.Pv
namespace Go.Pv
@[simp] theorem Tr.run_ite {α:Type} (b:Bool) (x y:Tr α):(Tr.ite b x y).run=if b=true then x.run else y.run:=by cases b<;>rfl
@[simp] theorem Tr.run_ret {α:Type} (a:α):(Tr.ret a).run=some a:=rfl
@[simp] theorem Tr.run_fail {α:Type}:(Tr.fail:Tr α).run=none:=rfl
@[simp] theorem Tr.run_get {α:Type} (xs:qR) (i:Nat) (z:List PV) (k:List PV→Tr α):(Tr.get xs i z k).run=match xs[i]? with|some cs=>(k cs).run|none=>none:=by first|(rw [Tr.run.eq_def];done)|(rw [Tr.run.eq_def];rfl)
@[simp] theorem qx9 (a b:Int):iEq a b=decide (a=b):=by unfold iEq;by_cases h:a=b<;>simp [h]
@[simp] theorem qVo (a b:Int):iNe a b=decide (a≠b):=by unfold iNe;by_cases h:a=b<;>simp [h]
@[simp] theorem qIi (a b:Int):iLt a b=decide (a < b):=rfl
@[simp] theorem qNg (a b:Int):iLe a b=decide (a≤b):=rfl
@[simp] theorem imin_eq (a b:Int):imin a b=if b < a then b else a:=rfl
@[simp] theorem qOj (a:Bool):bNot a=!a:=rfl
@[simp] theorem bAnd_eq (a b:Bool):bAnd a b=(a&&b):=rfl
@[simp] theorem bEq_eq (a b:Bool):bEq a b=(a == b):=rfl
@[simp] theorem qRo (a b:qU):sEq a b=decide (a=b):=by unfold sEq;by_cases h:a=b<;>simp [h]
@[simp] theorem sNe_eq (a b:qU):sNe a b=decide (a≠b):=by unfold sNe;by_cases h:a=b<;>simp [h]
@[simp] theorem sLt_eq (a b:qU):sLt a b=Op.bytesLess a b:=rfl
@[simp] theorem sLe_eq (a b:qU):sLe a b=(Op.bytesLess a b || a == b):=rfl
@[simp] theorem sGt_eq (a b:qU):sGt a b=!(Op.bytesLess a b || a == b):=rfl
@[simp] theorem sGe_eq (a b:qU):sGe a b=!Op.bytesLess a b:=rfl
@[simp] theorem sApp_eq (a b:qU):sApp a b=a++b:=rfl
@[simp] theorem qjx (l:qU):sLen l=(l.length:Int):=rfl
@[simp] theorem qAj (l:qU) (a b:Nat):sSub l a b=(l.take b).drop a:=rfl
@[simp] theorem qRg (l:qU) (n:Int):sAt l n=((l.getD n.toNat 0).toNat:Int):=rfl
@[simp] theorem sOne_eq (n:Int):sOne n=[UInt8.ofNat n.toNat]:=rfl
@[simp] theorem qBm (n:Int):nNat n=n.toNat:=rfl
@[simp] theorem qKs (l:qU):nLen l=l.length:=rfl
@[simp] theorem xLen_eq (l:qR):xLen l=(l.length:Int):=rfl
@[simp] theorem nXs_eq (l:qR):nXs l=l.length:=rfl
@[simp] theorem xSub_eq (l:qR) (a b:Nat):xSub l a b=(l.take b).drop a:=rfl
@[simp] theorem qUk (a b:qR):xApp a b=a++b:=rfl
@[simp] theorem xNil_eq (a:qR):xNil a=decide (a=[]):=by cases a<;>rfl
@[simp] theorem bytesOf_nil:qab []=[]:=rfl
@[simp] theorem bytesOf_len (l:qU):(qab l).length=l.length:=by simp [qab]
@[simp] theorem bytesOf_get (l:qU) (i:Nat):(qab l)[i]?=(l[i]?).map fun b=>[.int .u8 b.toNat]:=by simp [qab]
theorem qw3 (a b:qU):qab (a++b)=qab a++qab b:=by simp [qab]
@[simp] theorem bytesOf_take (l:qU) (n:Nat):(qab l).take n=qab (l.take n):=by simp [qab]
@[simp] theorem bytesOf_drop (l:qU) (n:Nat):(qab l).drop n=qab (l.drop n):=by simp [qab]
theorem qr4 (l:qU):pbytes (qab l)=some l:=by
 unfold qab
 induction l with
 |nil=>rfl
 |cons b l ih=>simp [pbytes,ih]
@[simp] theorem qAz (l:qU):qcH (qab l)=true:=by unfold qcH;rw [qr4];rfl
@[simp] theorem qBG (l:qU):qbC (qab l)=l:=by unfold qbC;rw [qr4];rfl
def qN7 (xs:qR):Option (List UInt8):=xs.mapM fun c=>match c with|[.int .u8 n]=>if 0≤n∧n < 256 then some (UInt8.ofNat n.toNat) else none|_=>none
@[simp] theorem decBs_bytes (l:qU):qN7 (qab l)=some l:=by
 unfold qN7 qab
 induction l with
 |nil=>rfl
 |cons a l ih =>
  have:((a.toNat:Int) < 256):=by have:=a.toNat_lt;omega
  simp_all
theorem qJM {xs:List (List PV)} {l:List UInt8} (h:qN7 xs=some l):xs=qab l:=by
 unfold qN7 at h
 unfold qab
 induction xs generalizing l with
 |nil=>simp at h;subst h;rfl
 |cons c xs ih =>
  rw [List.mapM_cons] at h
  split at h
  ·rename_i n;split at h
   ·rename_i hn;cases hx:xs.mapM fun c=>match c with|[.int .u8 n]=>if 0≤n∧n < 256 then some (UInt8.ofNat n.toNat) else none|_=>none with
    |none=>simp [hx] at h
    |some m =>
     simp [hx] at h
     subst h;simp [ih hx];omega
   ·simp at h
  ·simp at h
@[simp] theorem okApp_eq (a b:qU):qsh a b=decide (a.length+b.length≤maxLen):=rfl
@[simp] theorem okAscii_eq (n:Int):qfp n=decide (0≤n∧n < 128):=by unfold qfp;by_cases h:0≤n<;>simp [h]
@[simp] theorem okLen_eq (l:qU):qm8 l=decide (l.length≤140737488355328):=rfl
@[simp] theorem okIdx_eq (l:qU) (n:Int):qaz l n=decide (0≤n∧n.toNat < l.length):=by unfold qaz;by_cases h:0≤n<;>simp [h]
@[simp] theorem okPos_eq (n:Int):qay n=decide (0≤n):=rfl
@[simp] theorem okSub_eq (ca cb:Bool) (a b n:Nat):qbc ca cb a b n=(ca&&cb&&decide (a≤b)&&decide (b≤n)):=rfl
@[simp] theorem okSub3_eq (ca cb cc:Bool) (a b c n:Nat):qKX ca cb cc a b c n=(ca&&cb&&cc&&decide (a≤b)&&decide (b=c)&&decide (b≤n)):=rfl
@[simp] theorem qOa (xs ys:qR) (n:Nat):qav xs ys n=(decide ((xs.length+ys.length) * n≤140737488355328)&&decide (xs.length+ys.length≤140737488355328)):=rfl
@[simp] theorem nEq_eq (a b:Nat):nEq a b=decide (a=b):=rfl
@[simp] theorem pOff_eq (off n k:Nat):pOff off n k=off+n * k:=rfl
@[simp] theorem nSub_eq (b a:Nat):nSub b a=b - a:=rfl
@[simp] theorem oLen_eq (n:Nat):oLen n=(n:Int):=rfl
@[simp] theorem okIx_eq (n:Int) (len:Nat):okIx n len=decide (0≤n∧n.toNat < len):=by unfold okIx;by_cases h:0≤n<;>simp [h]
@[simp] theorem okOff_eq (cs:List PV) (off n:Nat):qGt cs off n=decide (off+n≤cs.length):=rfl
@[simp] theorem qcd (l:qU):qao (qab l) 1=true:=by simp [qao,qab]
@[simp] theorem qr1 (l:qU):qaq (qab l) 1=true:=by simp [qaq,qab,one]
@[simp] theorem okSize_app (a b:qR) (n:Nat):qao (a++b) n=(qao a n&&qao b n):=by simp [qao]
@[simp] theorem okSize_nil (n:Nat):qao [] n=true:=rfl
@[simp] theorem okNews_nil (n:Nat):qaq [] n=true:=rfl
@[simp] theorem okSize_cons (x:List PV) (a:qR) (n:Nat):qao (x::a) n=(x.length == n&&qao a n):=by simp [qao]
@[simp] theorem okNews_cons (x:List PV) (a:qR) (n:Nat):qaq (x::a) n=(x.length == n&&x.all one&&qaq a n):=by simp [qaq]
theorem qvs:∀ {a:List (List PV)},(∀ x∈a,qdf x=x)→qad a=a
 |[],_=>rfl
 |x::a,h=>by simp only [qad];rw [h x (by simp),qvs fun y hy=>h y (by simp [hy])]
theorem qv6:∀ {a:List (List PV)},(∀ x∈a,qa4 x=x)→qaa a=a
 |[],_=>rfl
 |x::a,h=>by simp only [qaa];rw [h x (by simp),qv6 fun y hy=>h y (by simp [hy])]
@[simp] theorem qDd (l:qU):qad (qab l)=qab l:=qvs (by simp [qab,qdf,lock])
@[simp] theorem shutLL_bytes (l:qU):qaa (qab l)=qab l:=qv6 (by simp [qab,qa4,shut])
end Go.Pv
set_option linter.unusedSimpArgs false
set_option linter.unusedVariables false
namespace Go.Pv
open Go.RowKit
def look:List (Nat×PV)→Nat→PV
 |[],_=>.top
 |(j,x)::l,i=>if j=i then x else look l i
def qbN (l:List (Nat×PV)):Nat→Nat→List PV
 |0,_=>[]
 |n+1,i=>look l i::qbN l n (i+1)
def mk (n:Nat) (l:List (Nat×PV)):List PV:=qbN l n 0
theorem qG9 (f:Nat→PV):∀ (ss:List Nat) (i:Nat),look (ss.zip (ss.map f)) i=.top∨look (ss.zip (ss.map f)) i=f i
 |[],i=>.inl rfl
 |s::ss,i=>by
  simp only [List.map_cons,List.zip_cons_cons,look];split
  ·rename_i h;subst h;exact .inr rfl
  ·exact qG9 f ss i
theorem qxq (f:Nat→PV) (l:List (Nat×PV)) (hl:∀ i,look l i=.top∨look l i=f i):∀ (fr:List PV) (k:Nat),(∀ i,i < fr.length→fr.getD i .top=f (k+i))→Weak fr (qbN l fr.length k)
 |[],k,h=>trivial
 |x::fr,k,h=>by
  refine⟨?_,qxq f l hl fr (k+1) (fun i hi=>?_)⟩
  ·have:=h 0 (by simp)
   simp at this;subst this;exact hl k
  ·have:=h (i+1) (by simpa using hi)
   simp only [List.getD_cons_succ] at this;rw [this]
   congr 1
   omega
theorem qNx (fr:List PV) (ss:List Nat):Weak fr (mk fr.length (ss.zip (ss.map fun s=>fr.getD s .top))):=by
 unfold mk;exact qxq (fun s=>fr.getD s .top) _ (qG9 _ ss) fr 0 (fun i _=>by simp)
section
variable {α : Type}
def oracle (n:Nat) (ss:List Nat) (dec:List PV→Store→Option α) (res:α→Tr (PExit×List (Nat×PV)×Store)) (fr:List PV) (σ:Store):Tr (PExit×List PV×Store) :=
 if fr.length=n then match dec (ss.map fun s=>fr.getD s .top) σ with
  |some a=>Tr.bind (res a) fun r=>.ret (r.1,mk n r.2.1,r.2.2)
  |none=>.fail
 else .fail
theorem qkB {P:Program} {gl:Gl} {c:Code} {n:Nat} {ss:List Nat} {dec:List PV→Store→Option α} {res:α→Tr (PExit×List (Nat×PV)×Store)}
  (h:∀ vs σ a e out σ',dec vs σ=some a→(res a).run=some (e,out,σ')→LDoes P gl c (mk n (ss.zip vs)) σ e (mk n out) σ') :
  ∀ fr σ e fr' σ',(oracle n ss dec res fr σ).run=some (e,fr',σ')→LDoes P gl c fr σ e fr' σ':=by
 intro fr σ e fr' σ' hr;unfold oracle at hr;split at hr
 ·rename_i hn;split at hr
  ·rename_i a ha;obtain⟨⟨e1,out,σ1⟩,h1,h2⟩:=Tr.bind_some hr;simp only [Tr.run_ret,Option.some.injEq,Prod.mk.injEq] at h2;obtain⟨rfl,rfl,rfl⟩:=h2;have hw:=qNx fr ss;rw [hn] at hw;exact LDoes.into hw (h _ _ _ _ _ _ ha h1)
  ·cases hr
 ·cases hr
end
section
variable {P : Program} {gl : Gl} {c : Code} {fr : List PV} {σ : Store} {e : PExit} {fr' : List PV} {σ' : Store}
theorem qBw {fr:List PV} (h:∃ H w vs,RelL H w fr vs) (i:Nat) {l:List UInt8} (hi:fr[i]?=some (.str l)):l.length≤maxLen:=by
 obtain⟨H,w,vs,h⟩:=h;obtain⟨v,_,hr⟩:=h.get hi;cases hr with
 |str _ hl=>exact hl
theorem qq9 {fr:List PV} (h:∃ H w vs,RelL H w fr vs) (i:Nat) {k:IntKind} {n:Int} (hi:fr[i]?=some (.int k n)):k.min≤n∧n≤k.max:=by
 obtain⟨H,w,vs,h⟩:=h;obtain⟨v,_,hr⟩:=h.get hi;cases hr with
 |int _ _ hl=>simpa [Lit.wf] using hl
end
def qdU:Code→List (Nat×Code)
 |.seq a b=>qdU a++qdU b
 |.cond _ a b=>qdU a++qdU b
 |.block _ c=>qdU c
 |.loop c=>[(rid c,c)]
 |_=>[]
def qLg (fn:Func) (k:Nat):Code:=match fn.body with
 |some c=>match (qdU c)[k]? with
  |some p=>p.2
  |none=>.skip
 |none=>.skip
def qcX:Code→List (Nat×Code)
 |.seq a b=>qcX a++qcX b
 |.cond _ a b=>qcX a++qcX b
 |.block _ c=>qcX c
 |.rangeFunc g ps x y=>[(rfid x y,.rangeFunc g ps x y)]
 |_=>[]
theorem qdY {P:Program} {gl:Gl} {L:Lps}:∀ {c:Code},(∀ p∈qdU c,∀ fr σ e fr' σ',L p.1 fr σ=some (e,fr',σ')→LDoes P gl p.2 fr σ e fr' σ')→(∀ p∈qcX c,∀ fr σ e fr' σ',L p.1 fr σ=some (e,fr',σ')→Does P gl p.2 fr σ e fr' σ')→qbe P gl L c
 |.seq a b,h,k=>⟨qdY (fun p hp=>h p (List.mem_append.2 (.inl hp))) (fun p hp=>k p (List.mem_append.2 (.inl hp))),qdY (fun p hp=>h p (List.mem_append.2 (.inr hp))) (fun p hp=>k p (List.mem_append.2 (.inr hp)))⟩
 |.cond _ a b,h,k=>⟨qdY (fun p hp=>h p (List.mem_append.2 (.inl hp))) (fun p hp=>k p (List.mem_append.2 (.inl hp))),qdY (fun p hp=>h p (List.mem_append.2 (.inr hp))) (fun p hp=>k p (List.mem_append.2 (.inr hp)))⟩
 |.block _ c,h,k=>qdY (c:=c) h k
 |.loop c,h,_=>h (rid c,c) (by simp [qdU])
 |.skip,_,_=>trivial
 |.region ..,_,_=>trivial
 |.exit _,_,_=>trivial
 |.ret,_,_=>trivial
 |.label _,_,_=>trivial
 |.goto _,_,_=>trivial
 |.refuse _,_,_=>trivial
 |.scope _,_,_=>trivial
 |.rangeFunc g ps x y,_,k=>k (rfid x y,.rangeFunc g ps x y) (by simp [qcX])
theorem qvQ {P:Program} {gl:Gl} {L:Lps} {c:Code} (h:∀ p∈qdU c,∀ fr σ e fr' σ',L p.1 fr σ=some (e,fr',σ')→LDoes P gl p.2 fr σ e fr' σ') (hn:qcX c=[]):qbe P gl L c:=qdY h (by rw [hn];simp)
theorem qac {P:Program} {gl:Gl} {L:Lps} {c:Code} (h:qdU c=[]) (hn:qcX c=[]:=by kernel_rfl):qbe P gl L c:=qvQ (by rw [h];simp) hn
theorem qh3 {P:Program} {gl:Gl} {L:Lps} {c:Code} {r:Nat} {c1:Code} (h:qdU c=[(r,c1)]) (h1:∀ fr σ e fr' σ',L r fr σ=some (e,fr',σ')→LDoes P gl c1 fr σ e fr' σ') (hn:qcX c=[]:=by kernel_rfl):qbe P gl L c :=
 qvQ (by rw [h];intro p hp;simp at hp;subst hp;exact h1) hn
def Tr.all {α:Type}:Tr α→(α→Prop)→Prop
 |.ret a,Q=>Q a
 |.fail,_=>False
 |.ite b x y,Q=>(b=true→x.all Q)∧(b=false→y.all Q)
 |.get xs i _ k,Q=>∃ cs,xs[i]?=some cs∧(k cs).all Q
theorem Tr.all_run {α:Type} {Q:α→Prop}:∀ {t:Tr α},t.all Q→∃ r,t.run=some r∧Q r
 |.ret a,h=>⟨a,rfl,h⟩
 |.fail,h=>h.elim
 |.ite b x y,h=>by
  cases b with
  |true=>obtain⟨r,h1,h2⟩:=Tr.all_run (h.1 rfl);exact⟨r,by simpa using h1,h2⟩
  |false=>obtain⟨r,h1,h2⟩:=Tr.all_run (h.2 rfl);exact⟨r,by simpa using h1,h2⟩
 |.get xs i _ k,⟨cs,h1,h2⟩=>by
  obtain⟨r,h3,h4⟩:=Tr.all_run h2;exact⟨r,by simp [h1,h3],h4⟩
inductive TrN (α:Type) where
 |ret (a:α)
 |fail
 |ite (b:Bool) (x y:TrN α)
 |need (xs:qR) (i:Nat) (cs:List PV) (x:TrN α)
def TrN.all {α:Type}:TrN α→(α→Prop)→Prop
 |.ret a,Q=>Q a
 |.fail,_=>False
 |.ite b x y,Q=>(b=true→x.all Q)∧(b=false→y.all Q)
 |.need xs i cs x,Q=>xs[i]?=some cs∧x.all Q
theorem Tr.run_as {α:Type} {t:Tr α} (t':Tr α) (h:t=t') {r:Option α} (hr:t'.run=r):t.run=r:=by rw [h];exact hr
theorem Tr.all_as {α:Type} {t:Tr α} (t':Tr α) (h:t=t') {Q:α→Prop} (hr:t'.all Q):t.all Q:=by rw [h];exact hr
theorem TrN.all_as {α:Type} {t:TrN α} (t':TrN α) (h:t=t') {Q:α→Prop} (hr:t'.all Q):t.all Q:=by rw [h];exact hr
theorem TrN.all_t {α:Type} {b:Bool} {x y:TrN α} {Q:α→Prop} (h:b=true) (hx:x.all Q):(TrN.ite b x y).all Q:=⟨fun _=>hx,fun h'=>by rw [h] at h';cases h'⟩
theorem TrN.all_f {α:Type} {b:Bool} {x y:TrN α} {Q:α→Prop} (h:b=false) (hy:y.all Q):(TrN.ite b x y).all Q:=⟨fun h'=>(by rw [h] at h';cases h'),fun _=>hy⟩
def Next (P:Program) (gl:Gl) (c:Code) (e:PExit) (fr':List PV) (σ':Store):PExit×Fm→Prop
 |(.normal,_,fr1,σ1)=>LDoes P gl c fr1 σ1 e fr' σ'
 |(e1,_,fr1,σ1)=>e1=e∧Weak fr1 fr'∧σ1=σ'
theorem LDoes.round {P:Program} {tb:Tab} {gl:Gl} {G:GamT} (hT:qaN P tb) (hΓ:qal P gl (gam G)) (hm:P.follows .mixedOrders=true) {L:LpsT} {c:Code} (hL:qbe P gl (lps L) c) (hdr:qaH (gam G) c=true)
  {fr:List PV} {σ:Store} {e:PExit} {fr':List PV} {σ':Store} (h:(texec tb G L c [] fr σ).all (Next P gl c e fr' σ')):LDoes P gl c fr σ e fr' σ':=by
 obtain⟨⟨e1,kn,fr1,σ1⟩,h1,h2⟩:=Tr.all_run h;have hd:=Does.of_tree hT hΓ hm hL hdr h1;cases e1 with
 |normal=>exact LDoes.next hd h2
 |exit j =>
  obtain⟨rfl,hw,rfl⟩:=h2;exact LDoes.outof (LDoes.out hd (by simp)) hw
 |ret =>
  obtain⟨rfl,hw,rfl⟩:=h2;exact LDoes.outof (LDoes.out hd (by simp)) hw
 |pan x =>
  obtain⟨rfl,hw,rfl⟩:=h2;exact LDoes.outof (LDoes.out hd (by simp)) hw
theorem qaR {α:Type} {l:List α} {i:Nat} {v:α} (h:l[i]?=some v):l.drop i=v::l.drop (i+1):=by
 obtain⟨hi,rfl⟩:=List.getElem?_eq_some_iff.1 h;exact List.drop_eq_getElem_cons hi
theorem qeK {α:Type} {l:List α} {i:Nat} (h:i < l.length):∃ v,l[i]?=some v:=⟨l[i],List.getElem?_eq_getElem h⟩
def qVg (t:Option PV) (l:qU):Bool:=match t with
 |some (.str m)=>m == l
 |_=>false
theorem qQa {t:Option PV} {l:List UInt8} (h:qVg t l=true):t=some (.str l):=by
 unfold qVg at h
 split at h
 ·rw [beq_iff_eq] at h;rw [h]
 ·cases h
def qVX (t:Option PV) (k:IntKind) (n:Int):Bool:=match t with
 |some (.int j m)=>j == k&&m == n
 |_=>false
theorem qHc {t:Option PV} {k:IntKind} {n:Int} (h:qVX t k n=true):t=some (.int k n):=by
 unfold qVX at h
 split at h
 ·rw [Bool.and_eq_true,beq_iff_eq] at h;rw [h.1,eq_of_beq h.2]
 ·cases h
def qV0 (t:Option PV) (l:qU):Bool:=match t with
 |some (.sl xs .non)=>qN7 xs == some l
 |_=>false
theorem qQn {t:Option PV} {l:List UInt8} (h:qV0 t l=true):t=some (.sl (qab l) .non):=by
 unfold qV0 at h
 split at h
 ·rw [beq_iff_eq] at h;rw [qJM h]
 ·cases h
theorem qtT {c:Int} (h:IntKind.u8.min≤c∧c≤IntKind.u8.max):∃ n:Fin 256,c=(n.val:Int):=by
 have h1:0≤c∧c≤255:=h;exact⟨⟨c.toNat,by omega⟩,by simp;omega⟩
theorem SimP.of_each {P : Program} {gl : Gl} {f : FuncId} {F : List PV → Option PV} (hent : ∃ fn, P.funcs[f]? = some fn ∧ (fn.name == "runtime.NumGoroutine") = false ∧ fn.body.isNone = false)
  (h:∀ args x,F args=some x→∃ F',SimP P gl f F'∧F' args=some x):SimP P gl f F where
 ent:=hent
 run:=fun args x hx H w vs h1 h2 h3 h4 h5=>by
  obtain⟨F',hF,hx'⟩:=h args x hx;exact hF.run args x hx' H w vs h1 h2 h3 h4 h5
@[simp] theorem okBytes_one (n:Int):qcH [[.int .u8 n]]=true:=by simp [qcH,pbytes]
@[simp] theorem unBytes_one (n:Int):qbC [[.int .u8 n]]=[UInt8.ofNat n.toNat]:=by simp [qbC,pbytes]
def ltN (n:Int) (k:Nat):Bool:=decide (n.toNat < k)
@[simp] theorem ltN_eq (n:Int) (k:Nat):ltN n k=decide (n.toNat < k):=rfl
theorem Tr.all_t {α:Type} {b:Bool} {x y:Tr α} {Q:α→Prop} (h:b=true) (hx:x.all Q):(Tr.ite b x y).all Q:=⟨fun _=>hx,fun h'=>by rw [h] at h';cases h'⟩
theorem Tr.all_f {α:Type} {b:Bool} {x y:Tr α} {Q:α→Prop} (h:b=false) (hy:y.all Q):(Tr.ite b x y).all Q:=⟨fun h'=>(by rw [h] at h';cases h'),fun _=>hy⟩
theorem qrf {l:List UInt8} (h:1≤l.length):xNil (qab l)=false:=by
 cases l with
 |nil=>simp at h
 |cons a l=>rfl
theorem qdD (l:qU):nXs (qab l)=nLen l:=by simp
theorem ql8 (a b:qU):xApp (qab a) (qab b)=qab (a++b):=(qw3 a b).symm
theorem qgL {a b:List UInt8} (h:a.length+b.length≤140737488355328):qav (qab a) (qab b) 1=true:=by simp [h]
theorem qj2 (a:qU) {n:Int} (h:0≤n∧n < 256):xApp (qab a) [[.int .u8 n]]=qab (a++[UInt8.ofNat n.toNat]):=by
 rw [qw3];simp [qab];omega
theorem qRt {fr:List PV} (h:∃ H w vs,RelL H w fr vs) (i:Nat) {cs:List PV} (hi:fr[i]?=some (.agg cs)):∃ H w vs,RelL H w cs vs:=by
 obtain⟨H,w,vs,h⟩:=h;obtain⟨v,_,hr⟩:=h.get hi;cases hr with
 |agg _ us hl=>exact⟨H,w,us,hl⟩
theorem qaI {n:Int} (h:-9223372036854775808≤n∧n≤9223372036854775807):IntKind.wrap .i64 n=n:=by
 unfold IntKind.wrap;simp [IntKind.bits,IntKind.signed];split<;>omega
theorem qzF {n:Int} (h:0≤n∧n≤255):IntKind.wrap .u8 n=n:=by
 unfold IntKind.wrap;simp [IntKind.bits,IntKind.signed];omega
theorem qee {n:Int} (h:0≤n∧n≤18446744073709551615):IntKind.wrap .u64 n=n:=by
 unfold IntKind.wrap;simp [IntKind.bits,IntKind.signed];omega
end Go.Pv
set_option linter.unusedSimpArgs false
set_option linter.unusedVariables false
namespace Go.Pv
open Go.RowKit Go.ChangeShapes Go.WideShapes
mutual
inductive Shp (P:Program):TypeId→List PV→Prop where
 |bool (t:TypeId) (b:Bool) (h:P.underlying t=some .bool):Shp P t [.bool b]
 |int (t:TypeId) (k:IntKind) (n:Int) (h:P.underlying t=some (.int k)):Shp P t [.int k n]
 |str (t:TypeId) (l:qU) (h:P.underlying t=some .string):Shp P t [.str l]
 |sl (t e:TypeId) (xss:qR) (h:P.underlying t=some (.slice e)) (hx:∀ xs,xs∈xss→Shp P e xs):Shp P t [.sl xss .non]
 |struct (t:TypeId) (fs:Array Field) (xs:List PV) (h:P.underlying t=some (.struct fs)) (hx:ShpL P (fs.toList.map (·.type)) xs):Shp P t xs
inductive ShpL (P:Program):List TypeId→List PV→Prop where
 |nil:ShpL P [] []
 |cons (t:TypeId) (ts:List TypeId) (xs ys:List PV) (h:Shp P t xs) (hs:ShpL P ts ys):ShpL P (t::ts) (xs++ys)
end
def layF (P:Program):Nat→List Field→Option Nat
 |off,[]=>some off
 |off,f::fs=>if f.offset=off then layF P (off+P.cellsOf f.type) fs else none
def okT (P:Program):Nat→TypeId→Bool
 |0,_=>false
 |n+1,t=>match P.underlying t with
  |some .bool|some (.int _)|some .string=>true
  |some (.slice e)=>okT P n e
  |some (.struct fs)=>(layF P 0 fs.toList == some (P.cellsOf t))&&fs.toList.all fun f=>okT P n f.type
  |_=>false
def ghOf (w:World):Gh:=⟨w.heap.size,fun _ _=>True,fun _ _=>False,[],[],(w.heap.size,[])⟩
section
variable {H : Type} {enc : TypeId × Value → H} {P : Program} {w : World} {held : Bool}
theorem qSH {w:World} {a:Addr} {v:Value} (h:w.cell? a=some v):a.block < w.heap.size:=by
 unfold World.cell? at h
 cases hb:w.heap[a.block]? with
 |none=>simp [hb] at h
 |some o=>exact (Array.getElem?_eq_some_iff.1 hb).1
theorem qyq {n fuel:Nat} (ih:∀ t cs x,DataW.trod enc P w 0 (fun _=>true) held fuel t cs=some x→okT P n t=true→∃ xs,RelL (ghOf w) w xs cs∧Shp P t xs) (cs:List Value) (tot:Nat) (hl:cs.length=tot) :
  ∀ (fs:List Field) (off:Nat),layF P off fs=some tot→(fs.all fun f=>okT P n f.type)=true →
   (∀ f∈fs,∃ y,DataW.trod enc P w 0 (fun _=>true) held fuel f.type ((cs.drop f.offset).take (P.cellsOf f.type))=some y)→∃ ys,RelL (ghOf w) w ys (cs.drop off)∧ShpL P (fs.map (·.type)) ys
 |[],off,hlay,_,_=>by
  simp only [layF,Option.some.injEq] at hlay;subst hlay;rw [List.drop_eq_nil_of_le (by omega)]
  exact⟨[],.nil,.nil⟩
 |f::fs,off,hlay,hok,hm=>by
  simp only [layF] at hlay;split at hlay
  ·rename_i ho;subst ho;simp only [List.all_cons,Bool.and_eq_true] at hok;obtain⟨b,hb⟩:=hm f (by simp)
   obtain⟨p,hp,hs⟩:=ih _ _ _ hb hok.1;obtain⟨ys,hys,hss⟩:=qyq ih cs tot hl fs _ hlay hok.2 (fun g hg=>hm g (by simp [hg]))
   refine⟨p++ys,?_,.cons _ _ _ _ hs hss⟩;have e:cs.drop f.offset=(cs.drop f.offset).take (P.cellsOf f.type)++cs.drop (f.offset+P.cellsOf f.type):=by
    rw [← List.drop_drop];exact (List.take_append_drop _ _).symm
   rw [e];exact hp.app hys
  ·cases hlay
theorem qH0 {n fuel:Nat} {e:TypeId} (ih:∀ t cs x,DataW.trod enc P w 0 (fun _=>true) held fuel t cs=some x→okT P n t=true→∃ xs,RelL (ghOf w) w xs cs∧Shp P t xs) (he:okT P n e=true) (a:Addr) (k:Nat) :
  ∀ (len s:Nat),(∀ i,i < len→∃ cs' y,w.cells? 0 (a.add ((s+i) * k)) k=some cs'∧DataW.trod enc P w 0 (fun _=>true) held fuel e cs'=some y) →
   ∃ (xss:qR) (vss:List (List Value)),xss.length=len∧RelLL (ghOf w) w xss vss∧(∀ xs∈xss,Shp P e xs)∧∀ (i:Nat) (vs:List Value),vss[i]?=some vs→vs.length=k∧CellsAt (ghOf w) w (a.add ((s+i) * k)) vs
 |0,s,_=>⟨[],[],rfl,.nil,by simp,by simp⟩
 |len+1,s,h=>by
  obtain⟨cs',y,hc,hy⟩:=h 0 (by omega)
  obtain⟨xs,hxs,hs⟩:=ih _ _ _ hy he;obtain⟨xss,vss,h1,h2,h3,h4⟩:=qH0 ih he a k len (s+1) (fun i hi=>by
   have:=h (i+1) (by omega)
   have e1:s+(i+1)=s+1+i:=by omega
   rwa [e1] at this)
  obtain⟨_,hl,hcell⟩:=World.cells?_some hc;refine⟨xs::xss,cs'::vss,by simp [h1],.cons _ _ _ _ hxs h2,?_,?_⟩
  ·intro z hz;rcases List.mem_cons.1 hz with rfl|hz
   ·exact hs
   ·exact h3 z hz
  ·intro i vs hi;cases i with
   |zero =>
    simp at hi;subst hi;refine⟨hl,fun j v hj=>?_⟩
    have hj':j < k:=by rw [← hl];exact (List.getElem?_eq_some_iff.1 hj).1
    have hcj:=(hcell j hj').trans hj;exact⟨⟨qSH hcj,fun _=>trivial,by simp [ghOf],by simp [ghOf]⟩,hcj⟩
   |succ i =>
    have:=h4 i vs (by simpa using hi)
    have e1:s+(i+1)=s+1+i:=by omega
    rw [e1];exact this
theorem qHX:∀ (fuel n:Nat) (t:TypeId) (cs:List Value) (x:DataW H×List MemPlace),DataW.trod enc P w 0 (fun _=>true) held fuel t cs=some x→okT P n t=true→∃ xs,RelL (ghOf w) w xs cs∧Shp P t xs
 |0,_,_,_,_,h,_=>by simp [DataW.trod] at h
 |fuel+1,0,_,_,_,_,hn=>by simp [okT] at hn
 |fuel+1,n+1,t,cs,x,h,hn=>by
  simp only [okT] at hn;have ih:∀ t cs x,DataW.trod enc P w 0 (fun _=>true) held fuel t cs=some x→okT P n t=true→∃ xs,RelL (ghOf w) w xs cs∧Shp P t xs:=fun t cs x h hn=>qHX fuel n t cs x h hn
  split at hn
  ·rename_i hu;obtain⟨b,rfl,_⟩:=DataW.trod_bool hu h;exact⟨[.bool b],.cons _ _ _ _ (.bool b) .nil,.bool t b hu⟩
  ·rename_i k hu;obtain⟨m,rfl,_,hw⟩:=DataW.trod_int hu h;exact⟨[.int k m],.cons _ _ _ _ (.int k m hw) .nil,.int t k m hu⟩
  ·rename_i hu;obtain⟨s,rfl,_,hs⟩:=DataW.trod_string hu h;exact⟨[.str s.data.toList],.cons _ _ _ _ (.str s.data.toList hs) .nil,.str t _ hu⟩
  ·rename_i e hu;rcases DataW.trod_slice hu h with⟨rfl,_⟩|⟨a,len,cap,elems,rest,n',hn',rfl,_,_,hlc,hcm,hel,helem,_⟩
   ·exact⟨[.sl [] .non],.cons _ _ _ _ (.sl none 0 0 0 [] [] .non rfl (Nat.le_refl _) (Nat.zero_le _) .nil (by intro i vs hi;simp at hi) trivial) .nil,.sl t e [] hu (by simp)⟩
   ·have:n'=fuel:=by omega
    subst this;obtain⟨xss,vss,h1,h2,h3,h4⟩:=qH0 ih hn a (P.cellsOf e) len 0 (fun i hi=>by
     have h5:=helem i hi;have h6:∃ y,elems[i]?=some y:=⟨elems[i]'(by omega),List.getElem?_eq_getElem (by omega)⟩
     obtain⟨y,hy⟩:=h6;rw [hy] at h5;obtain⟨cs',hc,hd⟩:=Option.bind_eq_some_iff.1 h5;exact⟨cs',y,by rw [Nat.zero_add];exact hc,hd⟩)
    refine⟨[.sl xss .non],.cons _ _ _ _ (.sl (some a) len cap (P.cellsOf e) xss vss .non h1 hlc hcm h2 (fun i vs hi=>?_) trivial) .nil,.sl t e xss hu h3⟩
    have:=h4 i vs hi;rw [Nat.zero_add] at this;exact⟨this.1,a,rfl,this.2⟩
  ·rename_i fs hu;simp only [Bool.and_eq_true] at hn;obtain⟨xs,n',hn',_,hl,hxl,hf⟩:=DataW.trod_struct hu h;have:n'=fuel:=by omega
   subst this;obtain⟨ys,hys,hss⟩:=qyq ih cs _ hl fs.toList 0 (by simpa using hn.1) hn.2 (fun f hfm=>by
    obtain⟨i,hi⟩:=List.mem_iff_getElem?.1 hfm;have hi':fs[i]?=some f:=by simpa using hi
    have hlt:i < fs.size:=(Array.getElem?_eq_some_iff.1 hi').1;exact⟨xs[i]'(by omega),(hf i f hi').trans (List.getElem?_eq_getElem (by omega))⟩)
   exact⟨ys,by simpa using hys,.struct t fs ys hu hss⟩
  ·cases hn
def Arg (P:Program) (t:TypeId) (x:PV):Prop :=
 (∃ fs ys,P.underlying t=some (.struct fs)∧x=.agg ys∧Shp P t ys)∨((∀ fs,P.underlying t≠some (.struct fs))∧Shp P t [x])
inductive ArgL (P:Program):List TypeId→List PV→Prop where
 |nil:ArgL P [] []
 |cons (t:TypeId) (ts:List TypeId) (x:PV) (xs:List PV) (h:Arg P t x) (hs:ArgL P ts xs):ArgL P (t::ts) (x::xs)
theorem qTp {r:Reach} {b0 n:Nat} {t:TypeId} {v:Value} {d:DataW H} {ps:List MemPlace} (hval:Value.okWide P w r b0 t v) (hd:DataW.Trod enc P w 0 (fun _=>true) held t v d ps) (hn:okT P n t=true):∃ x,Rel (ghOf w) w x v∧Arg P t x:=by
 obtain⟨fuel,h⟩:=hd;obtain⟨xs,hxs,hs⟩:=qHX fuel n t _ _ h hn;have one:v.cells=#[v]→(∀ fs,P.underlying t≠some (.struct fs))→∃ x,Rel (ghOf w) w x v∧Arg P t x:=by
  intro hc hne;rw [hc] at hxs;cases hxs with
  |cons x _ xs _ hx hxs =>
   cases hxs
   exact⟨x,hx,.inr ⟨hne,hs⟩⟩
 cases n with
 |zero=>simp [okT] at hn
 |succ n =>
  simp only [okT] at hn;split at hn
  ·rename_i hu;obtain⟨b,rfl⟩:=okWide_bool hu hval;exact one rfl (by rw [hu];simp)
  ·rename_i k hu;obtain⟨m,rfl⟩:=okWide_int hu hval;exact one rfl (by rw [hu];simp)
  ·rename_i hu;obtain⟨s,rfl⟩:=okWide_string hu hval;exact one rfl (by rw [hu];simp)
  ·rename_i e hu;obtain⟨a,len,cap,rfl⟩:=okWide_slice hu hval;exact one rfl (by rw [hu];simp)
  ·rename_i fs hu;obtain⟨cs,rfl,_⟩:=okWide_struct hu hval;refine⟨.agg xs,?_,.inl ⟨fs,xs,hu,rfl,hs⟩⟩;have:=Rel.agg (H:=ghOf w) (w:=w) xs cs.toList hxs;simpa using this
  ·cases hn
theorem qHn {r:Reach} {b0 n:Nat}:∀ {ts:List TypeId} {vs:List Value} {ds:List (DataW H)} {ps:List MemPlace},(∀ (j:Nat) t v,ts[j]?=some t→vs[j]?=some v→Value.okWide P w r b0 t v) →
  DataW.TrodAll enc P w 0 (fun _=>true) held ts vs ds ps→(ts.all fun t=>okT P n t)=true→∃ xs,RelL (ghOf w) w xs vs∧ArgL P ts xs
 |[],vs,ds,ps,_,h,_=>by
  obtain⟨rfl,rfl,rfl⟩:=trodAll_nil h;exact⟨[],.nil,.nil⟩
 |t::ts,vs,ds,ps,hval,h,hn=>by
  obtain⟨v,vs',d,ds',p,q,rfl,rfl,rfl,hd,hrest⟩:=trodAll_cons h;simp only [List.all_cons,Bool.and_eq_true] at hn;obtain⟨x,hx,ha⟩:=qTp (hval 0 t v rfl rfl) hd hn.1;obtain⟨xs,hxs,has⟩:=qHn (fun j t' v' ht hv=>hval (j+1) t' v' ht hv) hrest hn.2
  exact⟨x::xs,.cons _ _ _ _ hx hxs,.cons _ _ _ _ ha has⟩
theorem qpB {W W':World} (hlo:laidOutB P=true) (hb:Below W.heap.size W W'):∀ {ts:List TypeId} {vs:List Value} {ds:List (DataW H)} {ps:List MemPlace},(∀ t∈ts,P.readableRec t=true∧t < P.types.size)→(∀ x∈ps,x.block < W.heap.size) →
  DataW.TrodAll enc P W 0 (fun _=>true) true ts vs ds ps→DataW.TrodAll enc P W' 0 (fun b=>decide (b < W.heap.size)) true ts vs ds ps
 |[],vs,ds,ps,_,_,h=>by
  obtain⟨rfl,rfl,rfl⟩:=trodAll_nil h;exact rfl
 |t::ts,vs,ds,ps,hp,hlt,h=>by
  obtain⟨v,vs',d,ds',p,q,rfl,rfl,rfl,hd,hrest⟩:=trodAll_cons h;exact⟨p,q,Below.trod hlo (hp t (by simp)).1 (hp t (by simp)).2 hd hb (fun x hx=>hlt x (by simp [hx])),qpB hlo hb (fun t' ht=>hp t' (by simp [ht])) (fun x hx=>hlt x (by simp [hx])) hrest,rfl⟩
theorem qPK (hlo:laidOutB P=true) {f:Func} {s:ChangeSpec} {tb:TypeId} (hrt:f.resultTypes=#[tb]) (htb:P.underlying tb=some .bool) (hv:s.vars=[])
  (hpar:∀ t∈f.params.toList,P.readableRec t=true∧t < P.types.size) {W W':World} {args:Array Value} {ds gs:List (DataW H)} {before:List MemPlace} {apart fresh handsOn:Bool}
  (hW:DataW.Whole enc P f.params.toList s.vars apart W args.toList ds gs before) (hfn:s.fn H ds={ results:=[.lit (.bool true)],args:=ds }) (hb:Below W.heap.size W W') :
  s.post enc P f apart fresh handsOn false W args (.bool true) W':=by
 have hlt:∀ p∈before,p.block < W.heap.size:=fun p hp=>by simpa using hW.lt p hp
 have hW':=hW;obtain⟨p,q,hA,hV,rfl,hfz,hnd⟩:=hW;rw [hv] at hV;obtain⟨rfl,rfl⟩:=trodVars_none hV;refine⟨ds,[],p++[],[],p,[],hW',?_,?_,?_,?_,fun h=>by cases h⟩
 ·rw [List.append_nil,hfn,hrt];exact⟨[],[],⟨1,by simp [DataW.trod,Value.cells,htb]⟩,rfl,rfl⟩
 ·rw [List.append_nil,hfn];exact qpB hlo hb hpar (fun x hx=>hlt x (by simp [hx])) hA
 ·rw [List.append_nil,hfn,hv];exact rfl
 ·exact hb.frame _
theorem qoH:∀ {laid:List (String×DataW Unit)} {ps:List MemPlace} {nm:String} {d:DataW Unit},DataW.LaidVars P w laid ps→(nm,d)∈laid →
  ∃ g t cs fuel p,P.globalNamed nm=some g∧(P.globals[g]?).map (·.type)=some t∧w.var? P nm=some cs∧DataW.trod (fun _=>()) P w 0 (fun _=>true) false fuel t cs.toList=some (d,p)
 |[],ps,nm,d,_,hm=>by cases hm
 |(n,d')::r,ps,nm,d,h,hm=>by
  obtain⟨g,t,cs,fuel,p,q,h1,h2,h3,h4,h5,_⟩:=h;rcases List.mem_cons.1 hm with hm|hm
  ·cases hm
   exact⟨g,t,cs,fuel,p,h1,h2,h3,h4⟩
  ·exact qoH h5 hm
theorem qt7 {nm:String} {cs:Array Value} {g:Nat} (hg:P.globalNamed nm=some g) (h:w.var? P nm=some cs):∃ T f,w.heap[g]?=some (.cells cs T f):=by
 unfold World.var? at h
 rw [hg] at h
 simp only [Option.bind_some] at h
 split at h
 ·rename_i cs' T f he;cases h
  exact⟨T,f,he⟩
 ·cases h
theorem qyX {t:TypeId} {ms:Array (String×TypeId)} {fuel:Nat} {cs:Array Value} {nm:String} {d:DataW Unit} {p:List MemPlace} (hi:P.underlying t=some (.interface ms))
  (h:DataW.trod (fun _=>()) P w 0 (fun _=>true) false fuel t cs.toList=some (.iface nm d,p)):∃ u v,cs=#[.iface u v]:=by
 cases fuel with
 |zero=>simp [DataW.trod] at h
 |succ fuel =>
  obtain⟨l⟩:=cs;simp only [DataW.trod,hi] at h
  split at h
  all_goals first|(rename_i heq _;cases heq;done)|(rename_i heq;cases heq;done)|skip
  all_goals first|(exact⟨_,_,rfl⟩)|(cases h;done)
end
end Go.Pv
set_option linter.unusedSimpArgs false
set_option linter.unusedVariables false
namespace Go.Pv
open Go.RowKit
def dropS (n:Nat) (σ:Store):Store:=⟨(σ.objs.take n).map (qby n),σ.toks,σ.tys.take n⟩
theorem qmq (n:Nat):∀ (xs:List PV),(qby n xs).length=xs.length
 |[]=>rfl
 |x::xs=>by simp [qby,qmq n xs]
theorem qwF (n:Nat):∀ (xs:qR),(qaF n xs).length=xs.length
 |[]=>rfl
 |x::xs=>by simp [qaF,qwF n xs]
theorem qx3 (n:Nat):∀ {a:List (List PV)},(∀ x∈a,qby n x=x)→qaF n a=a
 |[],_=>rfl
 |x::a,h=>by simp only [qaF];rw [h x (by simp),qx3 n fun y hy=>h y (by simp [hy])]
@[simp] theorem dropPLL_bytes (n:Nat) (l:qU):qaF n (qab l)=qab l:=qx3 n (by simp [qab,qby,qbX])
@[simp] theorem dropPLL_nil (n:Nat):qaF n []=[]:=rfl
mutual
theorem qyb (n:Nat):∀ {x:PV},lock x=x→qbX n x=x
 |.top,_=>rfl
 |.bool _,_=>rfl
 |.int _ _,_=>rfl
 |.str _,_=>rfl
 |.nilp,_=>rfl
 |.ptr _ _,h=>by simp [lock] at h
 |.ref cs,h=>by simp only [lock,PV.ref.injEq] at h;simp only [qbX];rw [qc1 n h]
 |.sl xs t,h=>by simp only [lock,PV.sl.injEq] at h;simp only [qbX];rw [qkJ n h.1]
 |.osl _ _ _ _,h=>by simp [lock] at h
 |.fn f caps,h=>by simp only [lock,PV.fn.injEq] at h;simp only [qbX];rw [qc1 n h.2]
 |.mth f caps,h=>by simp only [lock,PV.mth.injEq] at h;simp only [qbX];rw [qc1 n h.2]
 |.nilf,_=>rfl
 |.iface t v,h=>by simp only [lock,PV.iface.injEq] at h;simp only [qbX];rw [qyb n h.2]
 |.nili,_=>rfl
 |.agg cs,h=>by simp only [lock,PV.agg.injEq] at h;simp only [qbX];rw [qc1 n h]
 |.tup cs,h=>by simp only [lock,PV.tup.injEq] at h;simp only [qbX];rw [qc1 n h]
theorem qc1 (n:Nat):∀ {x:List PV},qdf x=x→qby n x=x
 |[],_=>rfl
 |x::xs,h=>by simp only [qdf,List.cons.injEq] at h;simp only [qby];rw [qyb n h.1,qc1 n h.2]
theorem qkJ (n:Nat):∀ {x:List (List PV)},qad x=x→qaF n x=x
 |[],_=>rfl
 |x::xs,h=>by simp only [qad,List.cons.injEq] at h;simp only [qaF];rw [qc1 n h.1,qkJ n h.2]
end
def Gh.keep (H:Gh) (n:Nat):Gh:={ H with ob:=H.ob.take n }
section
variable {H : Gh} {w : World} {n : Nat}
theorem qoP {b off:Nat} (h:H.prot w b off):(H.keep n).prot w b off:=⟨h.1,h.2.1,fun hm=>h.2.2.1 (List.mem_of_mem_take hm),h.2.2.2⟩
theorem qJr {b off:Nat} (h:H.prot2 w b off):(H.keep n).prot2 w b off:=h.elim (fun h=>.inl (qoP h)) (fun h=>.inr ⟨h.1,fun hm=>h.2.1 (List.mem_of_mem_take hm),h.2.2⟩)
mutual
theorem qHC:∀ {x:PV} {v:Value},Rel H w x v→Rel (H.keep n) w (qbX n x) v
 |_,_,.top v=>by simp only [qbX];exact .top v
 |_,_,.bool b=>by simp only [qbX];exact .bool b
 |_,_,.int k m h=>by simp only [qbX];exact .int k m h
 |_,_,.str l h=>by simp only [qbX];exact .str l h
 |_,_,.nilp=>by simp only [qbX];exact .nilp
 |_,_,.ptr id off b h=>by
  simp only [qbX];cases hn:decide (id < n) with
  |true=>exact .ptr id off b (by simp only [Gh.keep];rw [List.getElem?_take,if_pos (by simpa using hn)];exact h)
  |false=>exact .top _
 |_,_,.ref a cs vs h hc=>by simp only [qbX];exact .ref a _ vs (qcN h) (fun j v e=>⟨qJr (hc j v e).1,(hc j v e).2⟩)
 |_,_,.osl id off off' len cap k b h ho hcap hm=>by
  simp only [qbX];cases hn:decide (id < n) with
  |true=>exact .osl id off off' len cap k b (by simp only [Gh.keep];rw [List.getElem?_take,if_pos (by simpa using hn)];exact h) ho hcap hm
  |false=>exact .top _
 |_,_,.sl p len cap k xs vss t hl hcap hm h hr ht=>by
  simp only [qbX];exact .sl p len cap k _ vss t (by rw [← hl];exact qwF n xs) hcap hm (qyF h) (fun i vs e=>⟨(hr i vs e).1,by
   obtain⟨_,a,ha,hc⟩:=hr i vs e;exact⟨a,ha,fun j v e=>⟨qoP (hc j v e).1,(hc j v e).2⟩⟩⟩) ht
 |_,_,.fn f caps vs h=>by simp only [qbX];exact .fn f _ vs (qcN h)
 |_,_,.mth f caps vs h=>by simp only [qbX];exact .mth f _ vs (qcN h)
 |_,_,.yld t T h hk=>by simp only [qbX];exact .yld t T h hk
 |_,_,.nilf=>by simp only [qbX];exact .nilf
 |_,_,.iface t x v h=>by simp only [qbX];exact .iface t _ v (qHC h)
 |_,_,.nili=>by simp only [qbX];exact .nili
 |_,_,.agg cs vs h=>by simp only [qbX];exact .agg _ vs (qcN h)
 |_,_,.tup cs vs h=>by simp only [qbX];exact .tup _ vs (qcN h)
theorem qcN:∀ {x:List PV} {v:List Value},RelL H w x v→RelL (H.keep n) w (qby n x) v
 |_,_,.nil=>by simp only [qby];exact .nil
 |_,_,.cons x v xs vs h ht=>by simp only [qby];exact .cons _ v _ vs (qHC h) (qcN ht)
theorem qyF:∀ {x:List (List PV)} {v:List (List Value)},RelLL H w x v→RelLL (H.keep n) w (qaF n x) v
 |_,_,.nil=>by simp only [qaF];exact .nil
 |_,_,.cons x v xs vs h ht=>by simp only [qaF];exact .cons _ v _ vs (qcN h) (qyF ht)
end
theorem qct {α:Type} {l:List α} {n i:Nat} {a:α} (h:(l.take n)[i]?=some a):i < n∧l[i]?=some a:=by
 rw [List.getElem?_take] at h
 split at h
 ·exact⟨‹_›,h⟩
 ·cases h
theorem qNI {gl:Gl} {σ:Store} (h:Ok gl H σ w) (hn:∀ (t:Nat) (T:Tok),H.tk[t]?=some T→T.k=0→T.cap≤n):Ok gl (H.keep n) (dropS n σ) w where
 B:=h.B
 gl:=h.gl
 len:=by simp [Gh.keep,dropS,h.len]
 obj:=fun id b cs e1 e2=>by
  obtain⟨hn,e1⟩:=qct e1;simp only [dropS,List.getElem?_map] at e2;obtain⟨c0,hc0,rfl⟩:=Option.map_eq_some_iff.1 e2;obtain⟨hB,vs,ext,T,he,hr⟩:=h.obj id b c0 e1 (qct hc0).2;exact⟨hB,vs,ext,T,he,qcN hr⟩
 nd:=fun i j b e1 e2=>h.nd i j b (qct e1).2 (qct e2).2
 tkl:=h.tkl
 tok:=fun t T e hvv=>by
  obtain⟨hB,ho,o,he,hr⟩:=h.tok t T e hvv;refine⟨hB,fun hm=>ho (List.mem_of_mem_take hm),o,he,?_⟩
  rcases hr with hr|⟨h1,h2,r,h3,h4,h5,h6,h7⟩
  ·exact .inl hr
  ·have hc:=hn t T e h1;refine .inr ⟨h1,h2,r,h3,?_,h5,?_,h7⟩
   ·have:=qcN (n:=n) h4
    rwa [h5 n hc] at this
   ·simp only [Gh.keep,List.length_take];omega
 tnd:=h.tnd
 tyl:=by simp [dropS,h.tyl]
 ty:=fun id b T cs e1 e2 e3 hT=>by
  obtain⟨hn,e1⟩:=qct e1;simp only [dropS,List.getElem?_map] at e2 e3;obtain⟨c0,hc0,rfl⟩:=Option.map_eq_some_iff.1 e3;obtain⟨us,he,hs⟩:=h.ty id b T c0 e1 (qct e2).2 (qct hc0).2 hT;exact⟨us,he,by rw [hs,qmq]⟩
end
section
variable {P : Program} {gl : Gl} {c : Code} {fr fr' : List PV} {σ σ' : Store} {e : PExit} {n : Nat}
theorem qMR {H0:Gh} {w0:World} {a:Act} {w:World} (hn:H0.ob.length≤n) (h0:∀ (t:Nat) (T:Tok),H0.tk[t]?=some T→T.k=0→T.cap≤n) (h:St gl H0 w0 fr σ a w):St gl H0 w0 (qby n fr) (dropS n σ) a w:=by
 obtain⟨H,hev,hok,hfr,hd⟩:=h;refine⟨H.keep n,⟨hev.B,hev.base,hev.aux,hev.K,hev.os,hev.tape,hev.output,hev.size,fun id b hid=>?_,hev.tok,fun b off hp=>⟨qoP (hev.prot b off hp).1,(hev.prot b off hp).2⟩,hev.block,hev.dr,hev.fix,hev.old,fun b hb=>hev.obn b (List.mem_of_mem_take hb)⟩,qNI hok (fun t T e hk=>?_),qcN hfr,hd⟩
 rotate_left
 ·obtain⟨T0,e0,k0⟩:=hev.old t T e hk;obtain⟨T1,e1,u⟩:=hev.tok t T0 e0;rw [e] at e1;cases e1
  rw [(u.lp k0).2.2.2];exact h0 t T0 e0 k0
 simp only [Gh.keep];rw [List.getElem?_take,if_pos (Nat.lt_of_lt_of_le (List.getElem?_eq_some_iff.1 hid).1 hn)];exact hev.ob id b hid
theorem Does.drop (hn:σ.objs.length≤n) (h:Does P gl c fr σ e fr' σ'):Does P gl c fr σ e (qby n fr') (dropS n σ'):=by
 intro r n' H0 w0 hR Q a w hst hq;obtain⟨H,hev,hok,hfr,hd⟩:=hst;refine h r n' H w (hR.ev hev) Q a w ⟨H,Ev.refl H w,hok,hfr,hd⟩ fun a' w' hst'=>hq a' w' ?_
 obtain⟨H',hev',hok',hfr',hd'⟩:=qMR (n:=n) (by rw [hok.len];exact hn) (fun t T e hk=>by
  obtain⟨_,_,o,_,ho⟩:=hok.tok t T e (fun hh=>hh.2 hk)
  rcases ho with⟨h1,_⟩|⟨_,_,r,_,_,_,h6,_⟩
  ·exact absurd hk h1
  ·rw [hok.len] at h6;omega) hst'
 exact⟨H',hev.trans hev',hok',hfr',hd'⟩
end
section
variable {H : Gh} {w : World}
end
section
variable {P : Program} {gl : Gl} {c : Code} {fr fr' : List PV} {σ σ' : Store} {e : PExit}
end
end Go.Pv
set_option linter.unusedSimpArgs false
set_option linter.unusedVariables false
namespace Go.Pv
open Go.RowKit
section
variable {P : Program} {tb : Tab} {gl : Gl} {Γ : Gam}
end
section
variable {P : Program} {tb : Tab} {gl : Gl} {Γ : Gam}
end
end Go.Pv
set_option linter.unusedSimpArgs false
set_option linter.unusedVariables false
namespace Go.Pv
structure Cod (α:Type) where
 enc:α→List PV
 dec:List PV→Option α
 k:Nat
 of_dec:∀ c a,dec c=some a→c=enc a
 dec_of:∀ a,dec (enc a)=some a
 lock:∀ a,qdf (enc a)=enc a
 shut:∀ a,qa4 (enc a)=enc a
 len:∀ a,(enc a).length=k
 one:∀ a,(enc a).all one=true
section
variable {α : Type} (C : Cod α)
def rOf (l:List α):qR:=l.map C.enc
def deR:qR→Option (List α)
 |[]=>some []
 |c::xs=>match C.dec c,deR xs with
  |some a,some l=>some (a::l)
  |_,_=>none
theorem qgH:∀ {xs:List (List PV)} {l:List α},deR C xs=some l→xs=rOf C l
 |[],l,h=>by cases h;rfl
 |c::xs,l,h=>by
  simp only [deR] at h
  split at h
  ·rename_i a l' h1 h2;cases h
   rw [C.of_dec _ _ h1,qgH h2];rfl
  ·cases h
theorem qr9:∀ (l:List α),deR C (rOf C l)=some l
 |[]=>rfl
 |a::l=>by
  have:=qr9 l;simp only [rOf,List.map_cons,deR,C.dec_of] at this ⊢;rw [this]
@[simp] theorem qiU:rOf C []=[]:=rfl
@[simp] theorem rOf_len (l:List α):(rOf C l).length=l.length:=by simp [rOf]
@[simp] theorem qMQ (l:List α) (i:Nat):(rOf C l)[i]?=(l[i]?).map C.enc:=by simp [rOf]
theorem qga (a b:List α):rOf C (a++b)=rOf C a++rOf C b:=by simp [rOf]
@[simp] theorem rOf_take (l:List α) (n:Nat):(rOf C l).take n=rOf C (l.take n):=by simp [rOf]
@[simp] theorem rOf_drop (l:List α) (n:Nat):(rOf C l).drop n=rOf C (l.drop n):=by simp [rOf]
@[simp] theorem rOf_nil_iff (l:List α):(rOf C l=[])↔l=[]:=by simp [rOf]
@[simp] theorem qbm (l:List α):qad (rOf C l)=rOf C l:=qvs (by
 intro x hx;simp only [rOf,List.mem_map] at hx;obtain⟨a,_,rfl⟩:=hx;exact C.lock a)
@[simp] theorem qda (l:List α):qaa (rOf C l)=rOf C l:=qv6 (by
 intro x hx;simp only [rOf,List.mem_map] at hx;obtain⟨a,_,rfl⟩:=hx;exact C.shut a)
@[simp] theorem dropPLL_rOf (n:Nat) (l:List α):qaF n (rOf C l)=rOf C l:=qkJ n (qbm C l)
theorem qb4 (l:List α):qao (rOf C l) C.k=true:=by
 simp [qao,rOf,C.len]
theorem qb6 (l:List α):qaq (rOf C l) C.k=true:=by
 simp only [qaq,rOf,List.all_map,List.all_eq_true];intro a _;simp [C.len,C.one]
@[simp] theorem xLen_rOf (l:List α):xLen (rOf C l)=(l.length:Int):=by simp
@[simp] theorem nXs_rOf (l:List α):nXs (rOf C l)=l.length:=by simp
@[simp] theorem xSub_rOf (l:List α) (a b:Nat):xSub (rOf C l) a b=rOf C ((l.take b).drop a):=by simp
@[simp] theorem xApp_rOf (a b:List α):xApp (rOf C a) (rOf C b)=rOf C (a++b):=by simp [qga]
@[simp] theorem xNil_rOf (l:List α):xNil (rOf C l)=decide (l=[]):=by simp
end
abbrev Vl:=Int×Int×List UInt8
def cI:Cod Int where
 enc n:=[.int .i64 n]
 dec c:=match c with|[.int .i64 n]=>some n|_=>none
 k:=1
 of_dec c a h:=by
  split at h
  ·cases h;rfl
  ·cases h
 dec_of a:=rfl
 lock a:=rfl
 shut a:=rfl
 len a:=rfl
 one a:=rfl
abbrev Tm:=Int×List UInt8×Vl
def cM:Cod Tm where
 enc t:=[.int .i64 t.1,.str t.2.1,.int .i64 t.2.2.1,.int .i64 t.2.2.2.1,.str t.2.2.2.2]
 dec c:=match c with|[.int .i64 a,.str b,.int .i64 k,.int .i64 n,.str s]=>some (a,b,k,n,s)|_=>none
 k:=5
 of_dec c a h:=by
  split at h
  ·cases h;rfl
  ·cases h
 dec_of a:=rfl
 lock a:=rfl
 shut a:=rfl
 len a:=rfl
 one a:=rfl
@[simp] theorem okSize_cI (l:List Int):qao (rOf cI l) 1=true:=qb4 cI l
@[simp] theorem okNews_cI (l:List Int):qaq (rOf cI l) 1=true:=qb6 cI l
@[simp] theorem okSize_cM (l:List Tm):qao (rOf cM l) 5=true:=qb4 cM l
@[simp] theorem okNews_cM (l:List Tm):qaq (rOf cM l) 5=true:=qb6 cM l
end Go.Pv
namespace Go.Pv
open Go Go.Proofs
def tbT:Tab:=tkOf Tryz.prog
theorem qaj:qaN Tryz.prog tbT:=fun _ _ h=>h
end Go.Pv
namespace Go.Pv
open Go Go.Proofs
set_option maxHeartbeats 4000000
set_option maxRecDepth 200000
theorem qai:Tryz.prog.follows .mixedOrders=true:=by kernel_rfl
end Go.Pv
set_option linter.unusedSimpArgs false
set_option linter.unusedVariables false
namespace Go.Pv
open Go.RowKit Tr
def xInt (xs:qR) (i j:Nat):Int:=match (xs.getD i []).getD j .top with|.int _ n=>n|_=>0
def qIT (xs:qR) (i j:Nat):Bool:=match (xs.getD i []).getD j .top with|.bool b=>b|_=>false
def xStr (xs:qR) (i j:Nat):qU:=match (xs.getD i []).getD j .top with|.str l=>l|_=>[]
def xRow (xs:qR) (i j:Nat):qR:=match (xs.getD i []).getD j .top with|.sl l _=>l|_=>[]
def xPV (xs:qR) (i j:Nat):PV:=(xs.getD i []).getD j .top
def selC (c:PV) (xs:qR) (i j:Nat):PV:=match c with
 |.int k _=>.int k (xInt xs i j)
 |.bool _=>.bool (qIT xs i j)
 |.str _=>.str (xStr xs i j)
 |.sl _ _=>.sl (xRow xs i j) .non
 |_=>xPV xs i j
def selF:List PV→qR→Nat→Nat→List PV
 |[],_,_,_=>[]
 |c::z,xs,i,j=>selC c xs i j::selF z xs i (j+1)
open Classical in
def qbV (z:List PV) (xs:qR) (i:Nat):Bool:=decide (xs[i]?=some (selF z xs i 0))
def Tr.flat {α:Type}:Tr α→Tr α
 |.ret a=>.ret a
 |.fail=>.fail
 |.ite b x y=>.ite b x.flat y.flat
 |.get xs i z k=>.ite (qbV z xs i) (k (selF z xs i 0)).flat .fail
theorem Tr.flat_run {α:Type} {r:α}:∀ {t:Tr α},t.flat.run=some r→t.run=some r
 |.ret a,h=>h
 |.fail,h=>h
 |.ite b x y,h=>by
  cases b with
  |true=>simp only [Tr.flat,Tr.run_ite,if_true] at h ⊢;exact Tr.flat_run h
  |false=>simp only [Tr.flat,Tr.run_ite,Bool.false_eq_true,if_false] at h ⊢;exact Tr.flat_run h
 |.get xs i z k,h=>by
  simp only [Tr.flat,Tr.run_ite] at h
  split at h
  ·rename_i hg;have hg:xs[i]?=some (selF z xs i 0):=by simpa [qbV] using hg
   simp only [Tr.run_get,hg];exact Tr.flat_run h
  ·cases h
def qeI (m:Nat) (σ:Store):Store:=⟨σ.objs.map (qbF m),σ.toks.take m,σ.tys⟩
theorem ql1 (m:Nat):∀ (xs:List PV),(qbF m xs).length=xs.length
 |[]=>rfl
 |x::xs=>by simp [qbF,ql1 m xs]
theorem qwQ (m:Nat):∀ (xs:qR),(qcF m xs).length=xs.length
 |[]=>rfl
 |x::xs=>by simp [qcF,qwQ m xs]
mutual
theorem qxO (m:Nat):∀ {x:PV},lock x=x→dropT m x=x
 |.top,_=>rfl
 |.bool _,_=>rfl
 |.int _ _,_=>rfl
 |.str _,_=>rfl
 |.nilp,_=>rfl
 |.ptr _ _,h=>by simp [lock] at h
 |.ref cs,h=>by simp only [lock,PV.ref.injEq] at h;simp only [dropT];rw [qc5 m h]
 |.sl xs t,h=>by simp only [lock,PV.sl.injEq] at h;simp only [dropT];rw [qgx m h.1,← h.2];rfl
 |.osl _ _ _ _,h=>by simp [lock] at h
 |.fn f caps,h=>by simp only [lock,PV.fn.injEq] at h;simp only [dropT];rw [qc5 m h.2]
 |.mth f caps,h=>by simp only [lock,PV.mth.injEq] at h;simp only [dropT];rw [qc5 m h.2]
 |.nilf,_=>rfl
 |.iface t v,h=>by simp only [lock,PV.iface.injEq] at h;simp only [dropT];rw [qxO m h.2]
 |.nili,_=>rfl
 |.agg cs,h=>by simp only [lock,PV.agg.injEq] at h;simp only [dropT];rw [qc5 m h]
 |.tup cs,h=>by simp only [lock,PV.tup.injEq] at h;simp only [dropT];rw [qc5 m h]
theorem qc5 (m:Nat):∀ {x:List PV},qdf x=x→qbF m x=x
 |[],_=>rfl
 |x::xs,h=>by simp only [qdf,List.cons.injEq] at h;simp only [qbF];rw [qxO m h.1,qc5 m h.2]
theorem qgx (m:Nat):∀ {x:List (List PV)},qad x=x→qcF m x=x
 |[],_=>rfl
 |x::xs,h=>by simp only [qad,List.cons.injEq] at h;simp only [qcF];rw [qc5 m h.1,qgx m h.2]
end
@[simp] theorem dropTLL_bytes (m:Nat) (l:qU):qcF m (qab l)=qab l:=qgx m (qDd l)
@[simp] theorem dropTLL_rOf {α:Type} (C:Cod α) (m:Nat) (l:List α):qcF m (rOf C l)=rOf C l:=qgx m (qbm C l)
def Gh.trim (H:Gh) (m:Nat):Gh:={ H with tk:=H.tk.take m }
section
variable {H : Gh} {w : World} {m : Nat}
theorem qkz {b off:Nat} (h:H.prot w b off):(H.trim m).prot w b off:=⟨h.1,h.2.1,h.2.2.1,fun T hT=>h.2.2.2 T (List.mem_of_mem_take hT)⟩
theorem qIF {b off:Nat} (h:H.prot2 w b off):(H.trim m).prot2 w b off:=h.elim (fun h=>.inl (qkz h)) .inr
theorem qOy {p:Option Addr} {len cap k:Nat} {t:Tag} (h:TagOk H p len cap k t):TagOk (H.trim m) p len cap k (qEw m t):=by
 cases t with
 |non=>trivial
 |full=>exact h
 |nil=>exact h
 |own=>exact h
 |tok t =>
  simp only [qEw];cases hm:decide (t < m) with
  |false=>trivial
  |true =>
   obtain⟨T,e,l,q⟩:=h;exact⟨T,by simp only [Gh.trim];rw [List.getElem?_take,if_pos (by simpa using hm)];exact e,l,q⟩
mutual
theorem qHO:∀ {x:PV} {v:Value},Rel H w x v→Rel (H.trim m) w (dropT m x) v
 |_,_,.top v=>by simp only [dropT];exact .top v
 |_,_,.bool b=>by simp only [dropT];exact .bool b
 |_,_,.int k m h=>by simp only [dropT];exact .int k m h
 |_,_,.str l h=>by simp only [dropT];exact .str l h
 |_,_,.nilp=>by simp only [dropT];exact .nilp
 |_,_,.ptr id off b h=>by simp only [dropT];exact .ptr id off b h
 |_,_,.ref a cs vs h hc=>by simp only [dropT];exact .ref a _ vs (qcK h) (fun j v e=>⟨qIF (hc j v e).1,(hc j v e).2⟩)
 |_,_,.osl id off off' len cap k b h ho hcap hm=>by simp only [dropT];exact .osl id off off' len cap k b h ho hcap hm
 |_,_,.sl p len cap k xs vss t hl hcap hm h hr ht=>by
  simp only [dropT];exact .sl p len cap k _ vss _ (by rw [← hl];exact qwQ _ xs) hcap hm (qy1 h) (fun i vs e=>⟨(hr i vs e).1,by
   obtain⟨_,a,ha,hc⟩:=hr i vs e;exact⟨a,ha,fun j v e=>⟨qkz (hc j v e).1,(hc j v e).2⟩⟩⟩) (qOy ht)
 |_,_,.fn f caps vs h=>by simp only [dropT];exact .fn f _ vs (qcK h)
 |_,_,.mth f caps vs h=>by simp only [dropT];exact .mth f _ vs (qcK h)
 |_,_,.yld t T h hk=>by
  simp only [dropT];cases hm:decide (t < m) with
  |false=>exact .top _
  |true=>exact .yld t T (by simp only [Gh.trim];rw [List.getElem?_take,if_pos (by simpa using hm)];exact h) hk
 |_,_,.nilf=>by simp only [dropT];exact .nilf
 |_,_,.iface t x v h=>by simp only [dropT];exact .iface t _ v (qHO h)
 |_,_,.nili=>by simp only [dropT];exact .nili
 |_,_,.agg cs vs h=>by simp only [dropT];exact .agg _ vs (qcK h)
 |_,_,.tup cs vs h=>by simp only [dropT];exact .tup _ vs (qcK h)
theorem qcK:∀ {x:List PV} {v:List Value},RelL H w x v→RelL (H.trim m) w (qbF m x) v
 |_,_,.nil=>by simp only [qbF];exact .nil
 |_,_,.cons x v xs vs h ht=>by simp only [qbF];exact .cons _ v _ vs (qHO h) (qcK ht)
theorem qy1:∀ {x:List (List PV)} {v:List (List Value)},RelLL H w x v→RelLL (H.trim m) w (qcF m x) v
 |_,_,.nil=>by simp only [qcF];exact .nil
 |_,_,.cons x v xs vs h ht=>by simp only [qcF];exact .cons _ v _ vs (qcK h) (qy1 ht)
end
theorem qEP {gl:Gl} {σ:Store} (h:Ok gl H σ w):Ok gl (H.trim m) (qeI m σ) w where
 B:=h.B
 gl:=h.gl
 len:=by simp [Gh.trim,qeI,h.len]
 obj:=fun id b cs e1 e2=>by
  simp only [qeI,List.getElem?_map] at e2;obtain⟨c0,hc0,rfl⟩:=Option.map_eq_some_iff.1 e2;obtain⟨hB,vs,ext,T,he,hr⟩:=h.obj id b c0 e1 hc0;exact⟨hB,vs,ext,T,he,qcK hr⟩
 nd:=h.nd
 tkl:=by
  have:=h.tkl;simp only [Gh.trim,qeI,List.map_take,← this]
 tok:=fun t T e hvv=>by
  obtain⟨hlt,e⟩:=qct e;obtain⟨hB,ho,o,he,hr⟩:=h.tok t T e hvv;refine⟨hB,ho,o,he,?_⟩;rcases hr with hr|⟨h1,h2,r,h3,h4,h5,h6,h7⟩
  ·exact .inl hr
  ·refine .inr ⟨h1,h2,r,h3,?_,h5,h6,h7⟩;have:=qcK (m:=m) h4
   rwa [h7 m (by omega)] at this
 tnd:=fun t u T U e1 e2=>h.tnd t u T U (qct e1).2 (qct e2).2
 tyl:=by simp [qeI,h.tyl]
 ty:=fun id b T cs e1 e2 e3 hT=>by
  simp only [qeI,List.getElem?_map] at e2 e3;obtain⟨c0,hc0,rfl⟩:=Option.map_eq_some_iff.1 e3;obtain⟨us,he,hs⟩:=h.ty id b T c0 e1 e2 hc0 hT;exact⟨us,he,by rw [hs,ql1]⟩
end
section
variable {P : Program} {gl : Gl} {c : Code} {fr fr' : List PV} {σ σ' : Store} {e : PExit} {m : Nat}
theorem qNW {H0:Gh} {w0:World} {a:Act} {w:World} (hn:H0.tk.length≤m) (h:St gl H0 w0 fr σ a w):St gl H0 w0 (qbF m fr) (qeI m σ) a w:=by
 obtain⟨H,hev,hok,hfr,hd⟩:=h;refine⟨H.trim m,⟨hev.B,hev.base,hev.aux,hev.K,hev.os,hev.tape,hev.output,hev.size,hev.ob,fun t T ht=>?_,fun b off hp=>⟨qkz (hev.prot b off hp).1,(hev.prot b off hp).2⟩,hev.block,hev.dr,hev.fix,fun t T e hk=>hev.old t T (qct e).2 hk,hev.obn⟩,qEP hok,qcK hfr,hd⟩
 obtain⟨T',h1,h2⟩:=hev.tok t T ht;refine⟨T',?_,h2⟩;simp only [Gh.trim];rw [List.getElem?_take,if_pos (Nat.lt_of_lt_of_le (List.getElem?_eq_some_iff.1 ht).1 hn)];exact h1
theorem Does.trim (hn:σ.toks.length≤m) (h:Does P gl c fr σ e fr' σ'):Does P gl c fr σ e (qbF m fr') (qeI m σ'):=by
 intro r n' H0 w0 hR Q a w hst hq;obtain⟨H,hev,hok,hfr,hd⟩:=hst;refine h r n' H w (hR.ev hev) Q a w ⟨H,Ev.refl H w,hok,hfr,hd⟩ fun a' w' hst'=>hq a' w' ?_
 have hl:H.tk.length≤m:=by
  have:=congrArg List.length hok.tkl;simp at this;omega
 obtain⟨H',hev',hok',hfr',hd'⟩:=qNW (m:=m) hl hst';exact⟨H',hev.trans hev',hok',hfr',hd'⟩
end
inductive LR where
 |next (vs:List PV) (σ:Store)
 |out (e:PExit) (vs:List PV) (σ:Store)
structure LI where
 nt:Nat
 ss:List Nat
 os:PExit→List Nat
 tr:Bool:=true
def rsl (ss:List Nat) (fr:List PV):List PV:=ss.map fun s=>fr.getD s .top
theorem qiP (fr:List PV) (ss:List Nat):Weak fr (mk fr.length (ss.zip (rsl ss fr))):=qNx fr ss
def qCQ (σ:Store) (vs:List PV) (σ':Store):List PV×Store :=
 if σ'.objs.length≤max σ.objs.length (qBD vs) then (vs,σ') else (qby (max σ.objs.length (qBD vs)) vs,dropS (max σ.objs.length (qBD vs)) σ')
def qsc:qR→Nat
 |[]=>0
 |x::xs=>max (qsk x) (qsc xs)
def qN5 (σ:Store) (vs:List PV) (σ':Store):List PV×Store :=
 if σ'.toks.length≤max σ.toks.length (max (qsk vs) (qsc (σ'.objs.take σ.objs.length))) then qCQ σ vs σ' else qCQ σ (qbF (max σ.toks.length (max (qsk vs) (qsc (σ'.objs.take σ.objs.length)))) vs) (qeI (max σ.toks.length (max (qsk vs) (qsc (σ'.objs.take σ.objs.length)))) σ')
def qgU (tr:Bool) (σ:Store) (vs:List PV) (σ':Store):List PV×Store:=match tr with
 |true=>qN5 σ vs σ'
 |false=>(vs,σ')
def lstep (tb:Tab) (G:GamT) (L:LpsT) (c:Code) (I:LI) (vs:List PV) (σ:Store):Tr LR :=
 (bind (texec tb G L c [] (mk I.nt (I.ss.zip vs)) σ) fun r=>if r.2.2.1.length=I.nt then match r.1 with
  |.normal=>.ret (.next (qgU I.tr σ (rsl I.ss r.2.2.1) r.2.2.2).1 (qgU I.tr σ (rsl I.ss r.2.2.1) r.2.2.2).2)
  |e=>.ret (.out e (qgU I.tr σ (rsl (I.os e) r.2.2.1) r.2.2.2).1 (qgU I.tr σ (rsl (I.os e) r.2.2.1) r.2.2.2).2) else .fail).flat
def lrun (step:List PV→Store→Tr LR):Nat→List PV→Store→Option (PExit×List PV×Store)
 |0,_,_=>none
 |n+1,vs,σ=>match (step vs σ).run with
  |some (.next vs' σ')=>lrun step n vs' σ'
  |some (.out e vs' σ')=>some (e,vs',σ')
  |none=>none
theorem qwH {step:List PV→Store→Tr LR}:∀ {n m:Nat} {vs:List PV} {σ:Store} {r:PExit×List PV×Store},lrun step n vs σ=some r→n≤m→lrun step m vs σ=some r
 |0,_,_,_,_,h,_=>by cases h
 |n+1,0,_,_,_,_,hm=>by omega
 |n+1,m+1,vs,σ,r,h,hm=>by
  simp only [lrun] at h ⊢;split at h
  ·rename_i vs' σ' hs;exact qwH h (by omega)
  ·exact h
  ·cases h
open Classical in
def lval (step:List PV→Store→Tr LR) (vs:List PV) (σ:Store):Option (PExit×List PV×Store) :=
 if h:∃ r n,lrun step n vs σ=some r then some h.choose else none
theorem qG1 {step:List PV→Store→Tr LR} {vs:List PV} {σ:Store} {n:Nat} {r:PExit×List PV×Store} (h:lrun step n vs σ=some r):lval step vs σ=some r:=by
 unfold lval;have hx:∃ r n,lrun step n vs σ=some r:=⟨r,n,h⟩;rw [dif_pos hx];obtain⟨m,hm⟩:=hx.choose_spec;have h1:=qwH h (Nat.le_max_left n m);have h2:=qwH hm (Nat.le_max_right n m);rw [h1] at h2;exact h2.symm
theorem qo5 {step:List PV→Store→Tr LR} {vs:List PV} {σ:Store} {r:PExit×List PV×Store} (h:lval step vs σ=some r):∃ n,lrun step n vs σ=some r:=by
 unfold lval at h
 split at h
 ·rename_i hx;cases h
  exact hx.choose_spec
 ·cases h
def lnext (V:List PV→Store→Option (PExit×List PV×Store)) (r:Option LR):Option (PExit×List PV×Store):=match r with
 |some (.next vs' σ')=>V vs' σ'
 |some (.out e vs' σ')=>some (e,vs',σ')
 |none=>none
@[simp] theorem qmx (V:List PV→Store→Option (PExit×List PV×Store)) (vs:List PV) (σ:Store):lnext V (some (.next vs σ))=V vs σ:=rfl
@[simp] theorem lnext_out (V:List PV→Store→Option (PExit×List PV×Store)) (e:PExit) (vs:List PV) (σ:Store):lnext V (some (.out e vs σ))=some (e,vs,σ):=rfl
@[simp] theorem lnext_none (V:List PV→Store→Option (PExit×List PV×Store)):lnext V none=none:=rfl
theorem qaQ (step:List PV→Store→Tr LR) (vs:List PV) (σ:Store):lval step vs σ=lnext (lval step) (step vs σ).run:=by
 unfold lnext;cases hs:(step vs σ).run with
 |none =>
  simp only;cases hv:lval step vs σ with
  |none=>rfl
  |some r =>
   obtain⟨n,hn⟩:=qo5 hv;cases n with
   |zero=>cases hn
   |succ n=>simp [lrun,hs] at hn
 |some q =>
  cases q with
  |out e vs' σ'=>exact qG1 (n:=1) (by simp [lrun,hs])
  |next vs' σ' =>
   simp only;cases hv:lval step vs' σ' with
   |some r =>
    obtain⟨n,hn⟩:=qo5 hv;exact qG1 (n:=n+1) (by simp [lrun,hs,hn])
   |none =>
    cases hw:lval step vs σ with
    |none=>rfl
    |some r =>
     obtain⟨n,hn⟩:=qo5 hw;cases n with
     |zero=>cases hn
     |succ n =>
      simp only [lrun,hs] at hn;rw [qG1 hn] at hv;cases hv
theorem qxS (n:Nat) (ss:List Nat) (fr:List PV):qby n (rsl ss fr)=rsl ss (qby n fr):=by
 unfold rsl
 induction ss with
 |nil=>rfl
 |cons s ss ih =>
  simp only [List.map_cons,qby,ih]
  congr 1
  clear ih
  induction fr generalizing s with
  |nil=>rfl
  |cons x fr ih =>
   cases s with
   |zero=>rfl
   |succ s=>simpa [qby] using ih s
theorem qyT (n:Nat) (ss:List Nat) (fr:List PV):qbF n (rsl ss fr)=rsl ss (qbF n fr):=by
 unfold rsl
 induction ss with
 |nil=>rfl
 |cons s ss ih =>
  simp only [List.map_cons,qbF,ih]
  congr 1
  clear ih
  induction fr generalizing s with
  |nil=>rfl
  |cons x fr ih =>
   cases s with
   |zero=>rfl
   |succ s=>simpa [qbF] using ih s
section
variable {P : Program} {tb : Tab} {gl : Gl} {G : GamT}
theorem qu1 {c:Code} {fr:List PV} {σ σ2:Store} {fr1:List PV} {ss:List Nat} {e:PExit} (hd:Does P gl c fr σ e fr1 σ2) :
  ∃ fr3,fr3.length=fr1.length∧(qCQ σ (rsl ss fr1) σ2).1=rsl ss fr3∧Does P gl c fr σ e fr3 (qCQ σ (rsl ss fr1) σ2).2:=by
 unfold qCQ;split
 ·exact⟨fr1,rfl,rfl,hd⟩
 ·exact⟨_,qmq _ _,qxS _ _ _,hd.drop (Nat.le_max_left _ _)⟩
theorem qER {c:Code} {fr:List PV} {σ σ2:Store} {fr1:List PV} {ss:List Nat} {e:PExit} (hd:Does P gl c fr σ e fr1 σ2) :
  ∃ fr3,fr3.length=fr1.length∧(qN5 σ (rsl ss fr1) σ2).1=rsl ss fr3∧Does P gl c fr σ e fr3 (qN5 σ (rsl ss fr1) σ2).2:=by
 unfold qN5;split
 ·exact qu1 hd
 ·rw [qyT];obtain⟨fr3,h1,h2,h3⟩:=qu1 (ss:=ss) (hd.trim (m:=max σ.toks.length (max (qsk (rsl ss fr1)) (qsc (σ2.objs.take σ.objs.length)))) (Nat.le_max_left _ _));exact⟨fr3,by rw [h1,ql1],h2,h3⟩
theorem qvV {c:Code} {fr:List PV} {σ σ2:Store} {fr1:List PV} {ss:List Nat} {e:PExit} (tr:Bool) (hd:Does P gl c fr σ e fr1 σ2) :
  ∃ fr3,fr3.length=fr1.length∧(qgU tr σ (rsl ss fr1) σ2).1=rsl ss fr3∧Does P gl c fr σ e fr3 (qgU tr σ (rsl ss fr1) σ2).2:=by
 cases tr with
 |true=>exact qER hd
 |false=>exact⟨fr1,rfl,rfl,hd⟩
theorem qJX (hT:qaN P tb) (hΓ:qal P gl (gam G)) (hm:P.follows .mixedOrders=true) {L:LpsT} {c:Code} (hL:qbe P gl (lps L) c) (hdr:qaH (gam G) c=true) {I:LI}:∀ (n:Nat) (vs:List PV) (σ:Store) (e:PExit) (vs':List PV) (σ':Store),
  lrun (lstep tb G L c I) n vs σ=some (e,vs',σ')→LDoes P gl c (mk I.nt (I.ss.zip vs)) σ e (mk I.nt ((I.os e).zip vs')) σ':=by
 intro n
 induction n with
 |zero=>intro vs σ e vs' σ' h;cases h
 |succ n ih =>
  intro vs σ e vs' σ' h;simp only [lrun] at h
  split at h
  ·rename_i vs1 σ1 hs;have hs:=Tr.flat_run hs;obtain⟨⟨e1,kn,fr1,σ2⟩,h1,h2⟩:=bind_some hs;have hd:=Does.of_tree hT hΓ hm hL hdr h1;simp only at h2;split at h2
   ·rename_i hn;cases e1 with
    |normal =>
     simp only [Tr.run_ret,Option.some.injEq,LR.next.injEq] at h2;obtain⟨rfl,rfl⟩:=h2;obtain⟨fr3,h3,h4,hd3⟩:=qvV (ss:=I.ss) I.tr hd;rw [h4] at h
     refine LDoes.next hd3 (LDoes.into ?_ (ih _ _ _ _ _ h));have hw:=qiP fr3 I.ss;rw [h3,hn] at hw;exact hw
    |exit j=>simp [Tr.run_ret] at h2
    |ret=>simp [Tr.run_ret] at h2
    |pan x=>simp [Tr.run_ret] at h2
   ·cases h2
  ·rename_i e1 vs1 σ1 hs;simp only [Option.some.injEq,Prod.mk.injEq] at h
   obtain⟨rfl,rfl,rfl⟩:=h;have hs:=Tr.flat_run hs;obtain⟨⟨e2,kn,fr1,σ2⟩,h1,h2⟩:=bind_some hs;have hd:=Does.of_tree hT hΓ hm hL hdr h1;simp only at h2;split at h2
   ·rename_i hn;have fin:∀ e,e≠.normal→e2=e→LDoes P gl c (mk I.nt (I.ss.zip vs)) σ e (mk I.nt ((I.os e).zip (qgU I.tr σ (rsl (I.os e) fr1) σ2).1)) (qgU I.tr σ (rsl (I.os e) fr1) σ2).2:=by
     rintro e hne rfl;obtain⟨fr3,h3,h4,hd3⟩:=qvV (ss:=I.os e2) I.tr hd;rw [h4];refine LDoes.outof (LDoes.out hd3 hne) ?_;have hw:=qiP fr3 (I.os e2);rw [h3,hn] at hw;exact hw
    cases e2 with
    |normal=>simp [Tr.run_ret] at h2
    |exit j =>
     simp only [Tr.run_ret,Option.some.injEq,LR.out.injEq] at h2;obtain⟨rfl,rfl,rfl⟩:=h2;exact fin _ (by simp) rfl
    |ret =>
     simp only [Tr.run_ret,Option.some.injEq,LR.out.injEq] at h2;obtain⟨rfl,rfl,rfl⟩:=h2;exact fin _ (by simp) rfl
    |pan x =>
     simp only [Tr.run_ret,Option.some.injEq,LR.out.injEq] at h2;obtain⟨rfl,rfl,rfl⟩:=h2;exact fin _ (by simp) rfl
   ·cases h2
  ·cases h
def orc (I:LI) (prop:List PV→Store→Tr (PExit×List PV×Store)) (fr:List PV) (σ:Store):Tr (PExit×List PV×Store) :=
 if fr.length=I.nt then bind (prop (rsl I.ss fr) σ) fun r=>.ret (r.1,mk I.nt ((I.os r.1).zip r.2.1),r.2.2) else .fail
theorem qcB (hT:qaN P tb) (hΓ:qal P gl (gam G)) (hm:P.follows .mixedOrders=true) {L:LpsT} {c:Code} (hL:qbe P gl (lps L) c) (hdr:qaH (gam G) c=true) {I:LI} {prop:List PV→Store→Tr (PExit×List PV×Store)}
  (h:∀ vs σ r,(prop vs σ).run=some r→lval (lstep tb G L c I) vs σ=some r):∀ fr σ e fr' σ',(orc I prop fr σ).run=some (e,fr',σ')→LDoes P gl c fr σ e fr' σ':=by
 intro fr σ e fr' σ' hr;unfold orc at hr;split at hr
 ·rename_i hn;obtain⟨⟨e1,vs1,σ1⟩,h1,h2⟩:=bind_some hr;simp only [Tr.run_ret,Option.some.injEq,Prod.mk.injEq] at h2;obtain⟨rfl,rfl,rfl⟩:=h2;obtain⟨n,hn'⟩:=qo5 (h _ _ _ h1);have hw:=qiP fr I.ss;rw [hn] at hw;exact LDoes.into hw (qJX hT hΓ hm hL hdr n _ _ _ _ _ hn')
 ·cases hr
theorem SimP.of_flat (hT : qaN P tb) (hΓ : qal P gl (gam G)) (hm : P.follows .mixedOrders = true) {f : FuncId} {fn : Func} {c : Code} (hf : P.funcs[f]? = some fn) (hb : fn.body = some c) (hn : (fn.name == "runtime.NumGoroutine") = false)
  (hdr:qaH (gam G) c=true) {L:LpsT} (hL:qbe P gl (lps L) c) {F:List PV→Tr PV} (h:∀ args x,(F args).run=some x→(tcall tb G L fn args).flat.run=some x):SimP P gl f fun args=>(F args).run :=
 SimP.of_tree hT hΓ hm hf hb hn hdr hL fun args x hx _=>Tr.flat_run (h args x hx)
end
theorem SimS.of_flat {P : Program} {tb : Tab} {gl : Gl} {G : GamT} (hT : qaN P tb) (hΓ : qal P gl (gam G)) (hm : P.follows .mixedOrders = true) {f : FuncId} {fn : Func} {c : Code} (hf : P.funcs[f]? = some fn) (hb : fn.body = some c) (hn : (fn.name == "runtime.NumGoroutine") = false)
  (hdr:qaH (gam G) c=true) {L:LpsT} (hL:qbe P gl (lps L) c) {D:List PV→Store→Tr (PV×Store)} (h:∀ args σ r,(D args σ).run=some r→(qop tb G L fn args σ).flat.run=some r):SimS P gl f fun args σ=>(D args σ).run :=
 SimS.of_tree hT hΓ hm hf hb hn hdr hL fun args σ x σ' hx _=>Tr.flat_run (h args σ (x,σ') hx)
theorem SimM.of_flat {P : Program} {tb : Tab} {gl : Gl} {G : GamT} (hT : qaN P tb) (hΓ : qal P gl (gam G)) (hm : P.follows .mixedOrders = true) {f : FuncId} {fn : Func} {c : Code} (hf : P.funcs[f]? = some fn) (hb : fn.body = some c) (hn : (fn.name == "runtime.NumGoroutine") = false)
  (hdr:qaH (gam G) c=true) {L:LpsT} (hL:qbe P gl (lps L) c) {D:List PV→Store→Tr (PR×Store)} (h:∀ args σ r,(D args σ).run=some r→(qyz tb G L fn args σ).flat.run=some r):SimM P gl f fun args σ=>(D args σ).run :=
 SimM.of_tree hT hΓ hm hf hb hn hdr hL fun args σ r hx _=>Tr.flat_run (h args σ r hx)
open Classical in
def isW {α:Type} (W:Option α) (r:α):Bool:=decide (W=some r)
@[simp] theorem qPe {α:Type} (a r:α):isW (some a) r=true↔a=r:=by simp [isW]
theorem qRb {α:Type} {W:Option α} {r:α} (h:isW W r=true):W=some r:=by simpa [isW] using h
theorem qae {α:Type} {W:Option α} {r r':α} {t:Tr α} (h:(Tr.ite (isW W r) (.ret r) t).run=some r') (k:t.run=some r'→W=some r'):W=some r':=by
 simp only [Tr.run_ite] at h
 split at h
 ·rename_i hs;rw [qRb hs];simpa using h
 ·exact k h
def gInt:PV→Int|.int _ n=>n|_=>0
def qeS:PV→Bool|.bool b=>b|_=>false
def gStr:PV→List UInt8|.str l=>l|_=>[]
def gRow:PV→List (List PV)|.sl l _=>l|_=>[]
def gCs:PV→List PV|.agg l=>l|.tup l=>l|.ref l=>l|.fn _ l=>l|.mth _ l=>l|.iface _ v=>[v]|_=>[]
def gAt (l:List PV) (i:Nat):PV:=l.getD i .top
def gVal (W:Option PV):PV:=W.getD .top
def gOut (W:Option (PExit×List PV×Store)) (i:Nat):PV:=match W with|some r=>r.2.1.getD i .top|none=>.top
def gObj (W:Option (PExit×List PV×Store)) (i:Nat):List PV:=match W with|some r=>r.2.2.objs.getD i []|none=>[]
def gTok (W:Option (PExit×List PV×Store)) (i:Nat):Nat:=match W with|some r=>(r.2.2.toks.getD i (0,0,0)).1|none=>0
def gPan (W:Option (PExit×List PV×Store)):PV:=match W with|some (.pan x,_)=>x|_=>.top
@[simp] theorem gPan_some (x:PV) (vs:List PV) (σ:Store):gPan (some (.pan x,vs,σ))=x:=rfl
def prX:PR→PV
 |.val x=>x
 |.pan x=>x
def qge (W:Option (PR×Store)):Option (PExit×List PV×Store):=W.map fun r=>(.ret,[prX r.1],r.2)
@[simp] theorem asOutM_val (x:PV) (σ:Store):qge (some (.val x,σ))=some (.ret,[x],σ):=rfl
@[simp] theorem asOutM_pan (x:PV) (σ:Store):qge (some (.pan x,σ))=some (.ret,[x],σ):=rfl
def qaX (W:Option (PV×Store)):Option (PExit×List PV×Store):=W.map fun r=>(.ret,[r.1],r.2)
@[simp] theorem asOut_some (x:PV) (σ:Store):qaX (some (x,σ))=some (.ret,[x],σ):=rfl
@[simp] theorem qPi (k:IntKind) (n:Int):gInt (.int k n)=n:=rfl
@[simp] theorem gBool_bool (b:Bool):qeS (.bool b)=b:=rfl
@[simp] theorem gStr_str (l:qU):gStr (.str l)=l:=rfl
@[simp] theorem gRow_sl (l:qR) (t:Tag):gRow (.sl l t)=l:=rfl
@[simp] theorem gCs_agg (l:List PV):gCs (.agg l)=l:=rfl
@[simp] theorem gCs_tup (l:List PV):gCs (.tup l)=l:=rfl
@[simp] theorem gCs_ref (l:List PV):gCs (.ref l)=l:=rfl
@[simp] theorem gCs_fn (f:FuncId) (l:List PV):gCs (.fn f l)=l:=rfl
@[simp] theorem gCs_mth (f:FuncId) (l:List PV):gCs (.mth f l)=l:=rfl
@[simp] theorem gCs_iface (t:TypeId) (v:PV):gCs (.iface t v)=[v]:=rfl
@[simp] theorem gAt_zero (x:PV) (l:List PV):gAt (x::l) 0=x:=rfl
@[simp] theorem gAt_succ (x:PV) (l:List PV) (n:Nat):gAt (x::l) (n+1)=gAt l n:=rfl
@[simp] theorem qLB (x:PV):gVal (some x)=x:=rfl
@[simp] theorem gOut_some (e:PExit) (vs:List PV) (σ:Store) (i:Nat):gOut (some (e,vs,σ)) i=gAt vs i:=rfl
@[simp] theorem gObj_some (e:PExit) (vs:List PV) (os:qR) (ts:List (Nat×Nat×TypeId)) (tys:List TypeId) (i:Nat):gObj (some (e,vs,⟨os,ts,tys⟩)) i=os.getD i []:=rfl
@[simp] theorem gTok_some (e:PExit) (vs:List PV) (os:qR) (ts:List (Nat×Nat×TypeId)) (tys:List TypeId) (i:Nat):gTok (some (e,vs,⟨os,ts,tys⟩)) i=(ts.getD i (0,0,0)).1:=rfl
def qEr (r:Nat):Code→Option Code
 |.seq a b=>match qEr r a with
  |some c=>some c
  |none=>qEr r b
 |.cond _ a b=>match qEr r a with
  |some c=>some c
  |none=>qEr r b
 |.block _ c=>qEr r c
 |.loop c=>if rid c=r then some c else qEr r c
 |.scope c=>qEr r c
 |_=>none
def qfZ (fn:Func) (r:Nat):Code:=match fn.body with
 |some c=>(qEr r c).getD .skip
 |none=>.skip
theorem qaD {P:Program} {gl:Gl} {L:Lps} {c:Code} (l:List (Nat×Code)) (h:qdU c=l) (h1:∀ p∈l,∀ fr σ e fr' σ',L p.1 fr σ=some (e,fr',σ')→LDoes P gl p.2 fr σ e fr' σ') (hn:qcX c=[]:=by kernel_rfl):qbe P gl L c:=qvQ (by rw [h];exact h1) hn
theorem qA3 {P:Program} {gl:Gl} {L:Lps} {c:Code} (l k:List (Nat×Code)) (h:qdU c=l) (hk:qcX c=k) (h1:∀ p∈l,∀ fr σ e fr' σ',L p.1 fr σ=some (e,fr',σ')→LDoes P gl p.2 fr σ e fr' σ') (h2:∀ p∈k,∀ fr σ e fr' σ',L p.1 fr σ=some (e,fr',σ')→Does P gl p.2 fr σ e fr' σ'):qbe P gl L c:=qdY (by rw [h];exact h1) (by rw [hk];exact h2)
@[simp] def qa7 (k : Nat) (W : Option (PR × Store)) : Int := gInt (gAt (gCs (gOut (qge W) 0)) k)
@[simp] def qN4 (W : Option (PR × Store)) : Int := gInt (gOut (qge W) 0)
@[simp] def qbY (i k : Nat) (W : Option (PR × Store)) : Int := gInt (gAt (gObj (qge W) i) k)
@[simp] def qcm (i k : Nat) (W : Option (PExit × List PV × Store)) : Int := gInt (gAt (gObj W i) k)
@[simp] def qjR (i : Nat) (W : Option (PExit × List PV × Store)) : Int := gInt (gOut W i)
@[simp] def qp6 (k : Nat) (W : Option PV) : Int := gInt (gAt (gCs (gVal W)) k)
@[simp] def qbx (k : Nat) (W : Option (PR × Store)) : List UInt8 := gStr (gAt (gCs (gOut (qge W) 0)) k)
@[simp] def qQi (W : Option (PR × Store)) : List UInt8 := gStr (gOut (qge W) 0)
@[simp] def oCStr (i k : Nat) (W : Option (PR × Store)) : List UInt8 := gStr (gAt (gObj (qge W) i) k)
@[simp] def qxk (i k : Nat) (W : Option (PExit × List PV × Store)) : List UInt8 := gStr (gAt (gObj W i) k)
@[simp] def qTP (i : Nat) (W : Option (PExit × List PV × Store)) : List UInt8 := gStr (gOut W i)
@[simp] def qWw (k : Nat) (W : Option PV) : List UInt8 := gStr (gAt (gCs (gVal W)) k)
@[simp] def qet (k : Nat) (W : Option (PR × Store)) : List (List PV) := gRow (gAt (gCs (gOut (qge W) 0)) k)
@[simp] def qCT (W : Option (PR × Store)) : List (List PV) := gRow (gOut (qge W) 0)
@[simp] def qbd (i k : Nat) (W : Option (PR × Store)) : List (List PV) := gRow (gAt (gObj (qge W) i) k)
@[simp] def qa8 (i k : Nat) (W : Option (PExit × List PV × Store)) : List (List PV) := gRow (gAt (gObj W i) k)
@[simp] def qmV (i : Nat) (W : Option (PExit × List PV × Store)) : List (List PV) := gRow (gOut W i)
@[simp] def qVB (k : Nat) (W : Option PV) : List (List PV) := gRow (gAt (gCs (gVal W)) k)
@[simp] def qQ8 (k : Nat) (W : Option (PR × Store)) : Bool := qeS (gAt (gCs (gOut (qge W) 0)) k)
@[simp] def qVC (W : Option (PR × Store)) : Bool := qeS (gOut (qge W) 0)
@[simp] def oCBool (i k : Nat) (W : Option (PR × Store)) : Bool := qeS (gAt (gObj (qge W) i) k)
@[simp] def oDBool (i k : Nat) (W : Option (PExit × List PV × Store)) : Bool := qeS (gAt (gObj W i) k)
@[simp] def qHB (i : Nat) (W : Option (PExit × List PV × Store)) : Bool := qeS (gOut W i)
@[simp] def qyt (k : Nat) (W : Option PV) : Bool := qeS (gAt (gCs (gVal W)) k)
@[simp] def oG (W : Option (PR × Store)) : Int := gInt (gAt (gCs (gAt (gCs (gOut (qge W) 0)) 0)) 0)
end Go.Pv
set_option linter.unusedSimpArgs false
set_option linter.unusedVariables false
namespace Go.Pv
open Go.RowKit
def sub1 (H:Gh) (w:World) (b:Nat):Gh where
 B:=w.heap.size
 base:=H.prot w
 aux:=fun b' off=>H.prot2 w b' off∨b'∈H.ob
 ob:=[b]
 tk:=[]
 K:=(w.heap.size,[])
def ren1 (id:Nat) (objs:qR):PV→PV
 |.ptr i off=>match Nat.beq i id with
  |true=>.ptr 0 off
  |false=>qAP objs (.ptr i off)
 |x=>lock x
def ren (id:Nat) (objs:qR):PV→PV
 |.fn f caps=>.fn f (caps.map (ren1 id objs))
 |.mth f caps=>.mth f (caps.map (ren1 id objs))
 |x=>ren1 id objs x
def qOs:List PV→Option Nat
 |.ptr id _::_=>some id
 |_=>none
def qJG:PR→PR
 |.val x=>.val (shut x)
 |.pan x=>.pan x
def qOb (id:Nat) (t:TypeId) (σ:Store) (r:PR×Store):Option (PR×Store):=match r.2.objs,r.2.tys with
 |c'::_,t'::_=>match Nat.beq t t' with
  |true=>some (qJG r.1,{ σ with objs:=σ.objs.set id (qa4 c') })
  |false=>none
 |_,_=>none
def qDe (D:List PV→Store→Option (PR×Store)) (args:List PV) (σ:Store):Option (PR×Store):=match qOs args with
 |some id=>match σ.objs[id]?,σ.tys[id]? with
  |some c,some t=>(D (args.map (ren id σ.objs)) ⟨[qdf c],[],[t]⟩).bind (qOb id t σ)
  |_,_=>none
 |none=>none
theorem qC4:∀ (xs:List PV),(qdf xs).length=xs.length
 |[]=>rfl
 |x::xs=>by simp only [qdf,List.length_cons,qC4 xs]
theorem qEp:∀ (xs:List PV),(qa4 xs).length=xs.length
 |[]=>rfl
 |x::xs=>by simp only [qa4,List.length_cons,qEp xs]
section
variable {gl : Gl} {H : Gh} {σ : Store} {w : World}
theorem qxm {b0 b off:Nat} (hb:b0∈H.ob) (h:H.prot w b off):(sub1 H w b0).prot w b off :=
 ⟨h.1,fun _=>h,fun hm=>by simp [sub1] at hm;subst hm;exact h.2.2.1 hb,by simp [sub1]⟩
theorem qrc (hok:Ok gl H σ w) {b0 b off:Nat} (hb:b0∈H.ob) (h:H.prot2 w b off):(sub1 H w b0).prot2 w b off:=by
 have hne:b∉H.ob:=by
  rcases h with h|h
  ·exact h.2.2.1
  ·exact h.2.1
 refine .inr ⟨?_,fun hm=>by simp [sub1] at hm;subst hm;exact hne hb,.inl h⟩
 rcases h with h|h
 ·exact h.1
 ·exact Nat.lt_of_lt_of_le h.1 hok.B
theorem qIl (hok:Ok gl H σ w) {id b0:Nat} (hb0:H.ob[id]?=some b0) {x:PV} {v:Value} (h:Rel H w x v):Rel (sub1 H w b0) w (ren1 id σ.objs x) v:=by
 have hm0:b0∈H.ob:=List.mem_of_getElem? hb0;have plain:∀ {x:PV} {v:Value},Rel H w x v→Rel (sub1 H w b0) w (lock x) v:=fun h=>quw (fun b off hp=>⟨qxm hm0 hp,fun _=>rfl⟩) (fun b off hp=>⟨qrc hok hm0 hp,fun _=>rfl⟩) h
 cases h
 case ptr i off b hb =>
  simp only [ren1];split
  ·rename_i he;have he:i=id:=Nat.eq_of_beq_eq_true he;subst he;rw [hb0] at hb;cases hb
   exact .ptr 0 off b0 rfl
  ·rename_i he;have hne:i≠id:=fun e=>by subst e;simp at he
   have hl:i < σ.objs.length:=by rw [← hok.len];exact (List.getElem?_eq_some_iff.1 hb).1
   simp only [qAP,List.getElem?_eq_getElem hl];obtain⟨hB,vs,ext,T,he,hr⟩:=hok.obj i b _ hb (List.getElem?_eq_getElem hl);refine .ref _ _ (vs.drop off) (qcQ (fun b off hp=>⟨qxm hm0 hp,fun _=>rfl⟩) (fun b off hp=>⟨qrc hok hm0 hp,fun _=>rfl⟩) (hr.drop off)) (fun j u hj=>?_)
   rw [qbJ];refine⟨.inr ⟨qak he,fun hm=>?_,.inr (List.mem_of_getElem? hb)⟩,?_⟩
   ·have e:b=b0:=by simpa [sub1] using hm
    subst e;exact hne (hok.nd i id b hb hb0)
   ·rw [cell_of_row w b (off+j) (vs++ext).toArray T (0,0) he];rw [List.getElem?_drop] at hj;simpa using qCd hj
 all_goals
  simp only [ren1];exact plain (by first
   |exact .top _
   |exact .bool _
   |exact .int _ _ ‹_›
   |exact .str _ ‹_›
   |exact .nilp
   |exact .ref _ _ _ ‹_› ‹_›
   |exact .sl _ _ _ _ _ _ _ ‹_› ‹_› ‹_› ‹_› ‹_› ‹_›
   |exact .osl _ _ _ _ _ _ _ ‹_› ‹_› ‹_› ‹_›
   |exact .fn _ _ _ ‹_›
   |exact .mth _ _ _ ‹_›
   |exact .yld _ _ ‹_› ‹_›
   |exact .nilf
   |exact .iface _ _ _ ‹_›
   |exact .nili
   |exact .agg _ _ ‹_›
   |exact .tup _ _ ‹_›)
theorem qDh (hok:Ok gl H σ w) {id b0:Nat} (hb0:H.ob[id]?=some b0):∀ {xs:List PV} {vs:List Value},RelL H w xs vs→RelL (sub1 H w b0) w (xs.map (ren1 id σ.objs)) vs:=by
 intro xs
 induction xs with
 |nil=>intro vs h;cases h;exact .nil
 |cons x xs ih =>
  intro vs h;cases h with
  |cons _ v _ vs h ht=>exact .cons _ _ _ _ (qIl hok hb0 h) (ih ht)
theorem qRY (hok:Ok gl H σ w) {id b0:Nat} (hb0:H.ob[id]?=some b0) {x:PV} {v:Value} (h:Rel H w x v):Rel (sub1 H w b0) w (ren id σ.objs x) v:=by
 unfold ren;split
 ·rename_i f caps;cases h with
  |fn _ _ vs h=>exact .fn f _ vs (qDh hok hb0 h)
 ·rename_i f caps;cases h with
  |mth _ _ vs h=>exact .mth f _ vs (qDh hok hb0 h)
 ·exact qIl hok hb0 h
theorem qHf (hok:Ok gl H σ w) {id b0:Nat} (hb0:H.ob[id]?=some b0):∀ {xs:List PV} {vs:List Value},RelL H w xs vs→RelL (sub1 H w b0) w (xs.map (ren id σ.objs)) vs:=by
 intro xs
 induction xs with
 |nil=>intro vs h;cases h;exact .nil
 |cons x xs ih =>
  intro vs h;cases h with
  |cons _ v _ vs h ht=>exact .cons _ _ _ _ (qRY hok hb0 h) (ih ht)
theorem qMc (hok:Ok gl H σ w) {id b0:Nat} {c:List PV} {t:TypeId} (hb0:H.ob[id]?=some b0) (hc:σ.objs[id]?=some c) (ht:σ.tys[id]?=some t):Ok gl (sub1 H w b0) ⟨[qdf c],[],[t]⟩ w:=by
 have hm0:b0∈H.ob:=List.mem_of_getElem? hb0;obtain⟨hg,vs,ext,T,he,hr⟩:=hok.obj id b0 c hb0 hc;refine⟨Nat.le_refl _,fun b o e=>⟨qak (hok.gl b o e).2,(hok.gl b o e).2⟩,rfl,fun i b cs e1 e2=>?_,fun i j b e1 e2=>?_,rfl,fun t T e=>by simp [sub1] at e,fun t u T U e=>by simp [sub1] at e,rfl,fun i b T' cs e1 e2 e3 hT=>?_⟩
 ·cases i with
  |succ i=>simp [sub1] at e1
  |zero =>
   simp [sub1] at e1 e2;subst e1 e2;exact⟨hg,vs,ext,T,he,qcQ (fun b off hp=>⟨qxm hm0 hp,fun _=>rfl⟩) (fun b off hp=>⟨qrc hok hm0 hp,fun _=>rfl⟩) hr⟩
 ·cases i with
  |succ i=>simp [sub1] at e1
  |zero =>
   cases j with
   |succ j=>simp [sub1] at e2
   |zero=>rfl
 ·cases i with
  |succ i=>simp [sub1] at e1
  |zero =>
   simp [sub1] at e1 e2 e3;subst e1 e2 e3;obtain⟨us,hu,hs⟩:=hok.ty id b0 t c hb0 ht hc hT;exact⟨us,hu,by rw [hs,qC4]⟩
theorem qyg (hok:Ok gl H σ w) {id b0:Nat} {c c':List PV} {t:TypeId} (hb0:H.ob[id]?=some b0) (hc:σ.objs[id]?=some c) (ht:σ.tys[id]?=some t) {H':Gh} {w':World} {σ1:Store}
  (hev:Ev gl (sub1 H w b0) w H' w') (hok':Ok gl H' σ1 w') (hc':σ1.objs[0]?=some c') (ht':σ1.tys[0]?=some t) :
  Ev gl H w H w'∧Ok gl H { σ with objs:=σ.objs.set id (qa4 c') } w'∧∀ x v,Rel H' w' x v→Rel H w' (shut x) v:=by
 have hm0:b0∈H.ob:=List.mem_of_getElem? hb0;obtain⟨hg,vs0,ext0,T0,he0,hr0⟩:=hok.obj id b0 c hb0 hc;have hblk:∀ b,b < w.heap.size→b≠b0→w'.heap[b]?=w.heap[b]?:=fun b hb hne=>hev.block b hb (by simp [sub1];exact hne)
 have hb1:H'.ob[0]?=some b0:=hev.ob 0 b0 rfl;have e:Ev gl H w H w':=by
  refine⟨rfl,rfl,rfl,rfl,hev.os,hev.tape,hev.output,hev.size,fun _ _ h=>h,fun _ T h=>⟨T,h,.refl T⟩,fun b off hp=>?_,fun b hlt hno=>hblk b (Nat.lt_of_lt_of_le hlt hok.B) (fun e=>hno (e ▸ hm0)),hev.dr,fun b ds hf=>(hblk b (qak hf) (fun e=>by subst e;rw [he0] at hf;cases hf)).trans hf,fun _ T h hk=>⟨T,h,hk⟩,fun _ hb=>.inl hb⟩
  have hne:b≠b0:=fun e=>hp.2.2.1 (e ▸ hm0)
  exact⟨⟨Nat.lt_of_lt_of_le hp.1 hev.size,hp.2⟩,fun s=>World.cell?_of_block (a:=⟨b,off,s⟩) (hblk b hp.1 hne)⟩
 have hp:∀ b off,H'.prot w' b off→H.prot w' b off∧∀ s,w'.cell? ⟨b,off,s⟩=w'.cell? ⟨b,off,s⟩:=fun b off hp=>by
  refine⟨?_,fun _=>rfl⟩
  by_cases hlt:b < w.heap.size
  ·have h1:=hp.2.1;rw [hev.B,hev.base] at h1;have h2:=h1 hlt;exact⟨hp.1,h2.2⟩
  ·refine⟨hp.1,fun hB=>absurd (Nat.lt_of_lt_of_le hB hok.B) hlt,fun hm=>hlt (hok.ob_at hm).2,fun T hT hvv hbk=>absurd (hbk ▸ (hok.tk_at hT hvv).2) hlt⟩
 obtain⟨_,vs1,ext1,T1,he1,hr1⟩:=hok'.obj 0 b0 c' hb1 hc';have hl:id < σ.objs.length:=(List.getElem?_eq_some_iff.1 hc).1;refine⟨e,⟨Nat.le_trans hok.B hev.size,fun b o eg=>⟨(hok.gl b o eg).1,(hblk b (qak (hok.gl b o eg).2) (fun e=>by subst e;rw [hg] at eg;cases eg)).trans (hok.gl b o eg).2⟩,by simp [hok.len],fun i b cs e1 e2=>?_,hok.nd,hok.tkl,fun t' T ht' hvv=>?_,hok.tnd,by simp [hok.tyl],fun i b T cs e1 e2 e3 hT=>?_⟩,fun x v h=>qut hp h⟩
 ·by_cases hi:i=id
  ·subst hi;rw [hb0] at e1;cases e1
   have e2':(σ.objs.set i (qa4 c'))[i]?=some cs:=e2;rw [List.getElem?_set_self hl] at e2';cases e2'
   exact⟨hg,vs1,ext1,T1,he1,qfF hp hr1⟩
  ·have e2':(σ.objs.set id (qa4 c'))[i]?=some cs:=e2;rw [List.getElem?_set_ne (fun e=>hi e.symm)] at e2'
   obtain⟨hB,vs2,ext2,T2,he2,hr2⟩:=hok.obj i b cs e1 e2';have hne:b≠b0:=fun h=>hi (hok.nd i id b e1 (h ▸ hb0))
   exact⟨hB,vs2,ext2,T2,(hblk b (qak he2) hne).trans he2,hr2.mono e.mono⟩
 ·obtain⟨hB,ho,o,heo,hto⟩:=hok.tok t' T ht' hvv;exact⟨hB,ho,o,(hblk _ (qak heo) (fun e=>ho (by rw [e];exact hm0))).trans heo,hto.mono e.mono⟩
 ·by_cases hi:i=id
  ·subst hi;rw [hb0] at e1;cases e1
   have e2':σ.tys[i]?=some T:=e2;rw [ht] at e2';cases e2'
   have e3':(σ.objs.set i (qa4 c'))[i]?=some cs:=e3;rw [List.getElem?_set_self hl] at e3';cases e3'
   obtain⟨us,hu,hs⟩:=hok'.ty 0 b0 t c' hb1 ht' hc' hT;exact⟨us,hu,by rw [hs,qEp]⟩
  ·have e3':(σ.objs.set id (qa4 c'))[i]?=some cs:=e3;rw [List.getElem?_set_ne (fun e=>hi e.symm)] at e3'
   obtain⟨us,hu,hs⟩:=hok.ty i b T cs e1 e2 e3' hT;have hne:b≠b0:=fun h=>hi (hok.nd i id b e1 (h ▸ hb0))
   exact⟨us,(hblk b (qak hu) hne).trans hu,hs⟩
end
theorem SimM.frame {P:Program} {gl:Gl} {f:FuncId} {D:List PV→Store→Option (PR×Store)} (h:SimM P gl f D):SimM P gl f (qDe D):=by
 have key:∀ (args:List PV) (σ:Store) (r:PR) (σ':Store),qDe D args σ=some (r,σ')→∃ id off xs c t r1 σ1 c',args=.ptr id off::xs∧σ.objs[id]?=some c∧σ.tys[id]?=some t∧D (args.map (ren id σ.objs)) ⟨[qdf c],[],[t]⟩=some (r1,σ1) ∧
   σ1.objs[0]?=some c'∧σ1.tys[0]?=some t∧r=qJG r1∧σ'={ σ with objs:=σ.objs.set id (qa4 c') }:=by
  intro args σ r σ' hx;unfold qDe at hx;split at hx
  ·rename_i id hid;obtain⟨off,xs,rfl⟩:∃ off xs,args=.ptr id off::xs:=by
    unfold qOs at hid;split at hid
    ·cases hid;exact⟨_,_,rfl⟩
    ·cases hid
   split at hx
   ·rename_i c t hc ht;obtain⟨⟨r1,σ1⟩,h1,h2⟩:=Option.bind_eq_some_iff.1 hx;unfold qOb at h2;split at h2
    ·rename_i c' l t' l' hc' ht';split at h2
     ·rename_i htt;have htt:t=t':=Nat.eq_of_beq_eq_true htt;subst htt;simp only [Option.some.injEq,Prod.mk.injEq] at h2;simp only at hc' ht';exact⟨id,off,xs,c,t,r1,σ1,c',rfl,hc,ht,h1,by rw [hc'];rfl,by rw [ht'];rfl,h2.1.symm,h2.2.symm⟩
     ·cases h2
    ·cases h2
   ·cases hx
  ·cases hx
 refine⟨h.ent,fun args σ x σ' hx H w vs hok hr=>?_,fun args σ x σ' hx H w vs hok hr=>?_⟩
 ·obtain⟨id,off,xs,c,t,r1,σ1,c',rfl,hc,ht,hd,hc',ht',hrr,rfl⟩:=key _ _ _ _ hx;have hr0:=hr;cases hr0 with
  |cons _ v _ vs' hv hvs =>
   cases hv with
   |ptr _ _ b0 hb0 =>
    cases r1 with
    |pan y=>cases hrr
    |val y =>
     simp only [qJG,PR.val.injEq] at hrr;subst hrr;refine (h.run _ _ _ _ hd (sub1 H w b0) w _ (qMc hok hb0 hc ht) (qHf hok hb0 hr)).mono ?_;rintro e w' ⟨v,he,H',hev,hok',hv'⟩;obtain⟨k1,k2,k3⟩:=qyg hok hb0 hc ht hev hok' hc' ht';exact⟨v,he,H,k1,k2,k3 _ _ hv'⟩
 ·obtain⟨id,off,xs,c,t,r1,σ1,c',rfl,hc,ht,hd,hc',ht',hrr,rfl⟩:=key _ _ _ _ hx;have hr0:=hr;cases hr0 with
  |cons _ v _ vs' hv hvs =>
   cases hv with
   |ptr _ _ b0 hb0 =>
    cases r1 with
    |val y=>cases hrr
    |pan y =>
     simp only [qJG,PR.pan.injEq] at hrr;subst hrr;refine (h.pan _ _ _ _ hd (sub1 H w b0) w _ (qMc hok hb0 hc ht) (qHf hok hb0 hr)).mono ?_;rintro e w' ⟨he,H',hev,hok'⟩;obtain⟨k1,k2,k3⟩:=qyg hok hb0 hc ht hev hok' hc' ht';exact⟨he,H,k1,k2⟩
def qGN (id:Nat) (t:TypeId) (σ:Store) (r:PR×Store):Tr (PR×Store):=match r.2.objs,r.2.tys with
 |c'::_,t'::_=>match Nat.beq t t' with
  |true=>.ret (qJG r.1,{ σ with objs:=σ.objs.set id (qa4 c') })
  |false=>.fail
 |_,_=>.fail
def frameT (D:List PV→Store→Tr (PR×Store)) (args:List PV) (σ:Store):Tr (PR×Store):=match qOs args with
 |some id=>match σ.objs[id]?,σ.tys[id]? with
  |some c,some t=>Tr.bind (D (args.map (ren id σ.objs)) ⟨[qdf c],[],[t]⟩) (qGN id t σ)
  |_,_=>.fail
 |none=>.fail
theorem qyZ {D:List PV→Store→Tr (PR×Store)} {args:List PV} {σ:Store} {r:PR×Store} (h:(frameT D args σ).run=some r):qDe (fun args σ=>(D args σ).run) args σ=some r:=by
 unfold frameT at h
 unfold qDe;split at h
 ·rename_i id hid;simp only [hid];split at h
  ·rename_i c t hc ht;obtain⟨x,h1,h2⟩:=Tr.bind_some h;simp only [h1,Option.bind_some];unfold qGN at h2;unfold qOb;split at h2
   ·rename_i c' l t' l' hc' ht';split at h2
    ·exact h2
    ·cases h2
   ·cases h2
  ·cases h
 ·cases h
theorem SimM.frameT {P:Program} {gl:Gl} {f:FuncId} {D:List PV→Store→Tr (PR×Store)} (h:SimM P gl f fun args σ=>(D args σ).run):SimM P gl f fun args σ=>(Go.Pv.frameT D args σ).run :=
 ⟨h.ent,fun args σ x σ' hx=>h.frame.run args σ x σ' (qyZ hx),fun args σ x σ' hx=>h.frame.pan args σ x σ' (qyZ hx)⟩
theorem SimM.sub {P:Program} {gl:Gl} {f:FuncId} {D D0:List PV→Store→Tr (PR×Store)} (h:SimM P gl f fun args σ=>(D0 args σ).run) (hs:∀ args σ r,(D args σ).run=some r→(D0 args σ).flat.run=some r):SimM P gl f fun args σ=>(D args σ).run :=
 ⟨h.ent,fun args σ x σ' hx=>h.run args σ x σ' (Tr.flat_run (hs args σ _ hx)),fun args σ x σ' hx=>h.pan args σ x σ' (Tr.flat_run (hs args σ _ hx))⟩
def nrmM (tb:Tab) (G:GamT) (L:LpsT) (fn:Func):List PV→Store→Tr (PR×Store):=frameT fun args σ=>(qyz tb G L fn args σ).flat
theorem SimM.of_nrm {P : Program} {tb : Tab} {gl : Gl} {G : GamT} (hT : qaN P tb) (hΓ : qal P gl (gam G)) (hm : P.follows .mixedOrders = true) {f : FuncId} {fn : Func} {c : Code} (hf : P.funcs[f]? = some fn) (hb : fn.body = some c) (hn : (fn.name == "runtime.NumGoroutine") = false)
  (hdr:qaH (gam G) c=true) {L:LpsT} (hL:qbe P gl (lps L) c) {D:List PV→Store→Tr (PR×Store)} (h:∀ args σ r,(D args σ).run=some r→(nrmM tb G L fn args σ).flat.run=some r):SimM P gl f fun args σ=>(D args σ).run :=
 SimM.sub (SimM.frameT (SimM.of_flat hT hΓ hm hf hb hn hdr hL (D:=fun args σ=>(qyz tb G L fn args σ).flat) fun _ _ _ h=>h)) h
end Go.Pv
set_option linter.unusedSimpArgs false
set_option linter.unusedVariables false
namespace Go.Pv
section
variable {α : Type} (C : Cod α)
theorem qap (l:List α) (i:Nat):(rOf C l).getD i []=match l[i]? with|some a=>C.enc a|none=>[]:=by
 rw [List.getD_eq_getElem?_getD,qMQ];cases l[i]?<;>rfl
theorem qO2 (z:List PV) (l:List α) (i:Nat) (h:∀ a,selF z [C.enc a] 0 0=C.enc a) (hs:∀ (xs:qR) (k j:Nat) (c:List PV),xs[k]?=some c→selF z xs k j=selF z [c] 0 j):qbV z (rOf C l) i=decide (i < l.length):=by
 unfold qbV
 congr 1
 rw [qMQ];cases hi:l[i]? with
 |none =>
  have:¬ i < l.length:=by simpa using hi
  simp [this]
 |some a =>
  have hl:=(List.getElem?_eq_some_iff.1 hi).1;have hx:(rOf C l)[i]?=some (C.enc a):=by simp [hi]
  rw [hs _ _ _ _ hx,h];simp [hl]
end
theorem qUu (c:PV) {xs:List (List PV)} {k j:Nat} {d:List PV} (h:xs[k]?=some d):selC c xs k j=selC c [d] 0 j:=by
 have e:xs.getD k []=d:=by rw [List.getD_eq_getElem?_getD,h];rfl
 have e':([d]:List (List PV)).getD 0 []=d:=rfl;cases c<;>simp only [selC,xInt,qIT,xStr,xRow,xPV,e,e']
theorem qNr:∀ (z:List PV) (xs:qR) (k j:Nat) (d:List PV),xs[k]?=some d→selF z xs k j=selF z [d] 0 j
 |[],_,_,_,_,_=>rfl
 |c::z,xs,k,j,d,h=>by simp only [selF];rw [qUu c h,qNr z xs k (j+1) d h]
theorem qcS {α:Type} (C:Cod α) (z:List PV) (h:∀ a,selF z [C.enc a] 0 0=C.enc a) (l:List α) (i:Nat):qbV z (rOf C l) i=decide (i < l.length):=qO2 C z l i h (qNr z)
@[simp] theorem okGet_cI (l:List Int) (i:Nat):qbV [.int .i64 0] (rOf cI l) i=decide (i < l.length):=qcS _ _ (fun _=>rfl) l i
@[simp] theorem xInt_cI0 (l:List Int) (i:Nat):xInt (rOf cI l) i 0=(l[i]?.getD 0):=by unfold xInt;rw [qap];cases l[i]?<;>rfl
@[simp] theorem okGet_cM (l:List Tm) (i:Nat):qbV [.int .i64 0,.str [],.int .i64 0,.int .i64 0,.str []] (rOf cM l) i=decide (i < l.length):=qcS _ _ (fun _=>rfl) l i
@[simp] theorem xInt_cM0 (l:List Tm) (i:Nat):xInt (rOf cM l) i 0=(l[i]?.getD (0,[],0,0,[])).1:=by unfold xInt;rw [qap];cases l[i]?<;>rfl
@[simp] theorem xStr_cM1 (l:List Tm) (i:Nat):xStr (rOf cM l) i 1=(l[i]?.getD (0,[],0,0,[])).2.1:=by unfold xStr;rw [qap];cases l[i]?<;>rfl
@[simp] theorem xInt_cM2 (l:List Tm) (i:Nat):xInt (rOf cM l) i 2=(l[i]?.getD (0,[],0,0,[])).2.2.1:=by unfold xInt;rw [qap];cases l[i]?<;>rfl
@[simp] theorem xInt_cM3 (l:List Tm) (i:Nat):xInt (rOf cM l) i 3=(l[i]?.getD (0,[],0,0,[])).2.2.2.1:=by unfold xInt;rw [qap];cases l[i]?<;>rfl
@[simp] theorem xStr_cM4 (l:List Tm) (i:Nat):xStr (rOf cM l) i 4=(l[i]?.getD (0,[],0,0,[])).2.2.2.2:=by unfold xStr;rw [qap];cases l[i]?<;>rfl
def cS:Cod (List UInt8) where
 enc s:=[.str s]
 dec c:=match c with|[.str s]=>some s|_=>none
 k:=1
 of_dec c a h:=by
  split at h
  ·cases h;rfl
  ·cases h
 dec_of a:=rfl
 lock a:=rfl
 shut a:=rfl
 len a:=rfl
 one a:=rfl
@[simp] theorem okSize_cS (l:List (List UInt8)):qao (rOf cS l) 1=true:=qb4 cS l
@[simp] theorem okNews_cS (l:List (List UInt8)):qaq (rOf cS l) 1=true:=qb6 cS l
@[simp] theorem okGet_cS (l:List (List UInt8)) (i:Nat):qbV [.str []] (rOf cS l) i=decide (i < l.length):=qcS _ _ (fun _=>rfl) l i
@[simp] theorem xStr_cS0 (l:List (List UInt8)) (i:Nat):xStr (rOf cS l) i 0=(l[i]?.getD []):=by unfold xStr;rw [qap];cases l[i]?<;>rfl
@[simp] theorem qdI (s:qU):([[.str s]]:List (List PV))=rOf cS [s]:=rfl
@[simp] theorem snoc_cM (l:List Tm) (a:Int) (b:qU) (k n:Int) (s:qU):rOf cM l++[[.int .i64 a,.str b,.int .i64 k,.int .i64 n,.str s]]=rOf cM (l++[(a,b,k,n,s)]):=by rw [qga];rfl
@[simp] theorem one_cM (a:Int) (b:qU) (k n:Int) (s:qU):([[.int .i64 a,.str b,.int .i64 k,.int .i64 n,.str s]]:List (List PV))=rOf cM [(a,b,k,n,s)]:=rfl
@[simp] theorem rOf_append {α:Type} (C:Cod α) (a b:List α):rOf C a++rOf C b=rOf C (a++b):=(qga C a b).symm
@[simp] theorem cons_cM (l:List Tm) (a:Int) (b:qU) (k n:Int) (s:qU):[.int .i64 a,.str b,.int .i64 k,.int .i64 n,.str s]::rOf cM l=rOf cM ((a,b,k,n,s)::l):=rfl
@[simp] theorem qGb (l:List (List UInt8)) (s:qU):[.str s]::rOf cS l=rOf cS (s::l):=rfl
@[simp] theorem lockLL_nil':qad []=[]:=rfl
@[simp] theorem shutLL_nil':qaa []=[]:=rfl
@[simp] theorem dropPLL_nil' (n:Nat):qaF n []=[]:=rfl
@[simp] theorem dropTLL_nil' (n:Nat):qcF n []=[]:=rfl
@[simp] theorem pnil_rOf {α:Type} (C:Cod α):(rOf C []:List (List PV))=[]:=rfl
def aT {α:Type}:List α→Tag
 |[]=>.full
 |_=>.tok 0
def aS (k:Nat) (e:TypeId) {α:Type}:List α→Store
 |[]=>⟨[],[],[]⟩
 |a::l=>⟨[],[((a::l).length,k,e)],[]⟩
@[simp] theorem qVl {α:Type}:aT ([]:List α)=.full:=rfl
@[simp] theorem qVt {α:Type} (k:Nat) (e:TypeId):aS k e ([]:List α)=⟨[],[],[]⟩:=rfl
theorem qSj {α:Type} (l:List α) (a:α):aT (l++[a])=.tok 0:=by cases l<;>rfl
theorem qUD {α:Type} (k:Nat) (e:TypeId) (l:List α) (a:α):aS k e (l++[a])=⟨[],[((l++[a]).length,k,e)],[]⟩:=by cases l<;>rfl
theorem Tr.run_t {α:Type} {b:Bool} {x y:Tr α} {r:Option α} (h:b=true) (hx:x.run=r):(Tr.ite b x y).run=r:=by rw [h];simpa using hx
theorem qbS {i:Nat} (h:i < 9223372036854775807):iAdd .i64 (i:Int) 1=((i+1:Nat):Int):=qaI (by omega)
end Go.Pv
set_option linter.unusedSimpArgs false
set_option linter.unusedVariables false
namespace Go.Pv
abbrev At:=List UInt8×List Tm
abbrev Li:=Int×At×Int×Tm×Tm
def cL:Cod Li where
 enc t:=[.int .i64 t.1,.str t.2.1.1,.sl (rOf cM t.2.1.2) .non,.int .i64 t.2.2.1,.int .i64 t.2.2.2.1.1,.str t.2.2.2.1.2.1,.int .i64 t.2.2.2.1.2.2.1,.int .i64 t.2.2.2.1.2.2.2.1,.str t.2.2.2.1.2.2.2.2,.int .i64 t.2.2.2.2.1,.str t.2.2.2.2.2.1,.int .i64 t.2.2.2.2.2.2.1,.int .i64 t.2.2.2.2.2.2.2.1,.str t.2.2.2.2.2.2.2.2]
 dec c:=match c with|[.int .i64 x0,.str x1,.sl x2 .non,.int .i64 x3,.int .i64 x4,.str x5,.int .i64 x6,.int .i64 x7,.str x8,.int .i64 x9,.str x10,.int .i64 x11,.int .i64 x12,.str x13]=>(match deR cM x2 with|some y2=>some (x0,(x1,y2),x3,(x4,x5,x6,x7,x8),(x9,x10,x11,x12,x13))|_=>none)|_=>none
 k:=14
 of_dec c a h:=by
  split at h
  ·split at h
   ·cases h
    rename_i h2;rw [qgH cM h2]
   ·cases h
  ·cases h
 dec_of a:=by simp only [qr9 cM]
 lock a:=by simp only [qdf,lock,qbm]
 shut a:=by simp only [qa4,shut,qda]
 len a:=rfl
 one a:=rfl
@[simp] theorem okSize_cL (l:List Li):qao (rOf cL l) 14=true:=qb4 cL l
@[simp] theorem okNews_cL (l:List Li):qaq (rOf cL l) 14=true:=qb6 cL l
@[simp] theorem okGet_cL (l:List Li) (i:Nat):qbV [.int .i64 0,.str [],.sl [] .full,.int .i64 0,.int .i64 0,.str [],.int .i64 0,.int .i64 0,.str [],.int .i64 0,.str [],.int .i64 0,.int .i64 0,.str []] (rOf cL l) i=decide (i < l.length):=qcS _ _ (fun _=>rfl) l i
@[simp] theorem xInt_cL0 (l:List Li) (i:Nat):xInt (rOf cL l) i 0=(l[i]?.getD (0,([],[]),0,(0,[],0,0,[]),(0,[],0,0,[]))).1:=by unfold xInt;rw [qap];cases l[i]?<;>rfl
@[simp] theorem xStr_cL1 (l:List Li) (i:Nat):xStr (rOf cL l) i 1=(l[i]?.getD (0,([],[]),0,(0,[],0,0,[]),(0,[],0,0,[]))).2.1.1:=by unfold xStr;rw [qap];cases l[i]?<;>rfl
@[simp] theorem xRow_cL2 (l:List Li) (i:Nat):xRow (rOf cL l) i 2=rOf cM ((l[i]?.getD (0,([],[]),0,(0,[],0,0,[]),(0,[],0,0,[]))).2.1.2):=by unfold xRow;rw [qap];cases l[i]?<;>rfl
@[simp] theorem xInt_cL3 (l:List Li) (i:Nat):xInt (rOf cL l) i 3=(l[i]?.getD (0,([],[]),0,(0,[],0,0,[]),(0,[],0,0,[]))).2.2.1:=by unfold xInt;rw [qap];cases l[i]?<;>rfl
@[simp] theorem xInt_cL4 (l:List Li) (i:Nat):xInt (rOf cL l) i 4=(l[i]?.getD (0,([],[]),0,(0,[],0,0,[]),(0,[],0,0,[]))).2.2.2.1.1:=by unfold xInt;rw [qap];cases l[i]?<;>rfl
@[simp] theorem xStr_cL5 (l:List Li) (i:Nat):xStr (rOf cL l) i 5=(l[i]?.getD (0,([],[]),0,(0,[],0,0,[]),(0,[],0,0,[]))).2.2.2.1.2.1:=by unfold xStr;rw [qap];cases l[i]?<;>rfl
@[simp] theorem xInt_cL6 (l:List Li) (i:Nat):xInt (rOf cL l) i 6=(l[i]?.getD (0,([],[]),0,(0,[],0,0,[]),(0,[],0,0,[]))).2.2.2.1.2.2.1:=by unfold xInt;rw [qap];cases l[i]?<;>rfl
@[simp] theorem xInt_cL7 (l:List Li) (i:Nat):xInt (rOf cL l) i 7=(l[i]?.getD (0,([],[]),0,(0,[],0,0,[]),(0,[],0,0,[]))).2.2.2.1.2.2.2.1:=by unfold xInt;rw [qap];cases l[i]?<;>rfl
@[simp] theorem xStr_cL8 (l:List Li) (i:Nat):xStr (rOf cL l) i 8=(l[i]?.getD (0,([],[]),0,(0,[],0,0,[]),(0,[],0,0,[]))).2.2.2.1.2.2.2.2:=by unfold xStr;rw [qap];cases l[i]?<;>rfl
@[simp] theorem xInt_cL9 (l:List Li) (i:Nat):xInt (rOf cL l) i 9=(l[i]?.getD (0,([],[]),0,(0,[],0,0,[]),(0,[],0,0,[]))).2.2.2.2.1:=by unfold xInt;rw [qap];cases l[i]?<;>rfl
@[simp] theorem xStr_cL10 (l:List Li) (i:Nat):xStr (rOf cL l) i 10=(l[i]?.getD (0,([],[]),0,(0,[],0,0,[]),(0,[],0,0,[]))).2.2.2.2.2.1:=by unfold xStr;rw [qap];cases l[i]?<;>rfl
@[simp] theorem xInt_cL11 (l:List Li) (i:Nat):xInt (rOf cL l) i 11=(l[i]?.getD (0,([],[]),0,(0,[],0,0,[]),(0,[],0,0,[]))).2.2.2.2.2.2.1:=by unfold xInt;rw [qap];cases l[i]?<;>rfl
@[simp] theorem xInt_cL12 (l:List Li) (i:Nat):xInt (rOf cL l) i 12=(l[i]?.getD (0,([],[]),0,(0,[],0,0,[]),(0,[],0,0,[]))).2.2.2.2.2.2.2.1:=by unfold xInt;rw [qap];cases l[i]?<;>rfl
@[simp] theorem xStr_cL13 (l:List Li) (i:Nat):xStr (rOf cL l) i 13=(l[i]?.getD (0,([],[]),0,(0,[],0,0,[]),(0,[],0,0,[]))).2.2.2.2.2.2.2.2:=by unfold xStr;rw [qap];cases l[i]?<;>rfl
theorem qm4 (l:List Li) (x0:Int) (x1:qU) (x2:List Tm) (x3:Int) (x4:Int) (x5:qU) (x6:Int) (x7:Int) (x8:qU) (x9:Int) (x10:qU) (x11:Int) (x12:Int) (x13:qU):rOf cL l++[[.int .i64 x0,.str x1,.sl (rOf cM x2) .non,.int .i64 x3,.int .i64 x4,.str x5,.int .i64 x6,.int .i64 x7,.str x8,.int .i64 x9,.str x10,.int .i64 x11,.int .i64 x12,.str x13]]=rOf cL (l++[(x0,(x1,x2),x3,(x4,x5,x6,x7,x8),(x9,x10,x11,x12,x13))]):=by rw [qga];rfl
theorem qvn (x0:Int) (x1:qU) (x2:List Tm) (x3:Int) (x4:Int) (x5:qU) (x6:Int) (x7:Int) (x8:qU) (x9:Int) (x10:qU) (x11:Int) (x12:Int) (x13:qU):([[.int .i64 x0,.str x1,.sl (rOf cM x2) .non,.int .i64 x3,.int .i64 x4,.str x5,.int .i64 x6,.int .i64 x7,.str x8,.int .i64 x9,.str x10,.int .i64 x11,.int .i64 x12,.str x13]]:List (List PV))=rOf cL [(x0,(x1,x2),x3,(x4,x5,x6,x7,x8),(x9,x10,x11,x12,x13))]:=rfl
abbrev Ru:=At×List Li
def cRu:Cod Ru where
 enc t:=[.str t.1.1,.sl (rOf cM t.1.2) .non,.sl (rOf cL t.2) .non]
 dec c:=match c with|[.str x0,.sl x1 .non,.sl x2 .non]=>(match deR cM x1,deR cL x2 with|some y1,some y2=>some ((x0,y1),y2)|_,_=>none)|_=>none
 k:=3
 of_dec c a h:=by
  split at h
  ·split at h
   ·cases h
    rename_i h1 h2;rw [qgH cM h1,qgH cL h2]
   ·cases h
  ·cases h
 dec_of a:=by simp only [qr9 cL,qr9 cM]
 lock a:=by simp only [qdf,lock,qbm]
 shut a:=by simp only [qa4,shut,qda]
 len a:=rfl
 one a:=rfl
@[simp] theorem okSize_cRu (l:List Ru):qao (rOf cRu l) 3=true:=qb4 cRu l
@[simp] theorem okNews_cRu (l:List Ru):qaq (rOf cRu l) 3=true:=qb6 cRu l
@[simp] theorem okGet_cRu (l:List Ru) (i:Nat):qbV [.str [],.sl [] .full,.sl [] .full] (rOf cRu l) i=decide (i < l.length):=qcS _ _ (fun _=>rfl) l i
@[simp] theorem xStr_cRu0 (l:List Ru) (i:Nat):xStr (rOf cRu l) i 0=(l[i]?.getD (([],[]),[])).1.1:=by unfold xStr;rw [qap];cases l[i]?<;>rfl
@[simp] theorem xRow_cRu1 (l:List Ru) (i:Nat):xRow (rOf cRu l) i 1=rOf cM ((l[i]?.getD (([],[]),[])).1.2):=by unfold xRow;rw [qap];cases l[i]?<;>rfl
@[simp] theorem xRow_cRu2 (l:List Ru) (i:Nat):xRow (rOf cRu l) i 2=rOf cL ((l[i]?.getD (([],[]),[])).2):=by unfold xRow;rw [qap];cases l[i]?<;>rfl
theorem qPL (l:List Ru) (x0:qU) (x1:List Tm) (x2:List Li):rOf cRu l++[[.str x0,.sl (rOf cM x1) .non,.sl (rOf cL x2) .non]]=rOf cRu (l++[((x0,x1),x2)]):=by rw [qga];rfl
theorem qTU (x0:qU) (x1:List Tm) (x2:List Li):([[.str x0,.sl (rOf cM x1) .non,.sl (rOf cL x2) .non]]:List (List PV))=rOf cRu [((x0,x1),x2)]:=rfl
abbrev De:=List UInt8×Bool×List Int
def cD:Cod De where
 enc t:=[.str t.1,.bool t.2.1,.sl (rOf cI t.2.2) .non]
 dec c:=match c with|[.str x0,.bool x1,.sl x2 .non]=>(match deR cI x2 with|some y2=>some (x0,x1,y2)|_=>none)|_=>none
 k:=3
 of_dec c a h:=by
  split at h
  ·split at h
   ·cases h
    rename_i h2;rw [qgH cI h2]
   ·cases h
  ·cases h
 dec_of a:=by simp only [qr9 cI]
 lock a:=by simp only [qdf,lock,qbm]
 shut a:=by simp only [qa4,shut,qda]
 len a:=rfl
 one a:=rfl
@[simp] theorem okSize_cD (l:List De):qao (rOf cD l) 3=true:=qb4 cD l
@[simp] theorem okNews_cD (l:List De):qaq (rOf cD l) 3=true:=qb6 cD l
@[simp] theorem okGet_cD (l:List De) (i:Nat):qbV [.str [],.bool false,.sl [] .full] (rOf cD l) i=decide (i < l.length):=qcS _ _ (fun _=>rfl) l i
@[simp] theorem xStr_cD0 (l:List De) (i:Nat):xStr (rOf cD l) i 0=(l[i]?.getD ([],false,[])).1:=by unfold xStr;rw [qap];cases l[i]?<;>rfl
@[simp] theorem xBool_cD1 (l:List De) (i:Nat):qIT (rOf cD l) i 1=(l[i]?.getD ([],false,[])).2.1:=by unfold qIT;rw [qap];cases l[i]?<;>rfl
@[simp] theorem xRow_cD2 (l:List De) (i:Nat):xRow (rOf cD l) i 2=rOf cI ((l[i]?.getD ([],false,[])).2.2):=by unfold xRow;rw [qap];cases l[i]?<;>rfl
theorem qOl (l:List De) (x0:qU) (x1:Bool) (x2:List Int):rOf cD l++[[.str x0,.bool x1,.sl (rOf cI x2) .non]]=rOf cD (l++[(x0,x1,x2)]):=by rw [qga];rfl
theorem qQT (x0:qU) (x1:Bool) (x2:List Int):([[.str x0,.bool x1,.sl (rOf cI x2) .non]]:List (List PV))=rOf cD [(x0,x1,x2)]:=rfl
abbrev Pa:=List UInt8×Int
def cP:Cod Pa where
 enc t:=[.str t.1,.int .i64 t.2]
 dec c:=match c with|[.str x0,.int .i64 x1]=>(some (x0,x1))|_=>none
 k:=2
 of_dec c a h:=by
  split at h
  ·cases h;rfl
  ·cases h
 dec_of a:=rfl
 lock a:=rfl
 shut a:=rfl
 len a:=rfl
 one a:=rfl
@[simp] theorem okSize_cP (l:List Pa):qao (rOf cP l) 2=true:=qb4 cP l
@[simp] theorem okNews_cP (l:List Pa):qaq (rOf cP l) 2=true:=qb6 cP l
@[simp] theorem okGet_cP (l:List Pa) (i:Nat):qbV [.str [],.int .i64 0] (rOf cP l) i=decide (i < l.length):=qcS _ _ (fun _=>rfl) l i
@[simp] theorem xStr_cP0 (l:List Pa) (i:Nat):xStr (rOf cP l) i 0=(l[i]?.getD ([],0)).1:=by unfold xStr;rw [qap];cases l[i]?<;>rfl
@[simp] theorem xInt_cP1 (l:List Pa) (i:Nat):xInt (rOf cP l) i 1=(l[i]?.getD ([],0)).2:=by unfold xInt;rw [qap];cases l[i]?<;>rfl
theorem qCj (l:List Pa) (x0:qU) (x1:Int):rOf cP l++[[.str x0,.int .i64 x1]]=rOf cP (l++[(x0,x1)]):=by rw [qga];rfl
theorem qH8 (x0:qU) (x1:Int):([[.str x0,.int .i64 x1]]:List (List PV))=rOf cP [(x0,x1)]:=rfl
abbrev Ac:=Bool×At
def cAc:Cod Ac where
 enc t:=[.bool t.1,.str t.2.1,.sl (rOf cM t.2.2) .non]
 dec c:=match c with|[.bool x0,.str x1,.sl x2 .non]=>(match deR cM x2 with|some y2=>some (x0,(x1,y2))|_=>none)|_=>none
 k:=3
 of_dec c a h:=by
  split at h
  ·split at h
   ·cases h
    rename_i h2;rw [qgH cM h2]
   ·cases h
  ·cases h
 dec_of a:=by simp only [qr9 cM]
 lock a:=by simp only [qdf,lock,qbm]
 shut a:=by simp only [qa4,shut,qda]
 len a:=rfl
 one a:=rfl
@[simp] theorem okSize_cAc (l:List Ac):qao (rOf cAc l) 3=true:=qb4 cAc l
@[simp] theorem okNews_cAc (l:List Ac):qaq (rOf cAc l) 3=true:=qb6 cAc l
@[simp] theorem okGet_cAc (l:List Ac) (i:Nat):qbV [.bool false,.str [],.sl [] .full] (rOf cAc l) i=decide (i < l.length):=qcS _ _ (fun _=>rfl) l i
@[simp] theorem xBool_cAc0 (l:List Ac) (i:Nat):qIT (rOf cAc l) i 0=(l[i]?.getD (false,([],[]))).1:=by unfold qIT;rw [qap];cases l[i]?<;>rfl
@[simp] theorem xStr_cAc1 (l:List Ac) (i:Nat):xStr (rOf cAc l) i 1=(l[i]?.getD (false,([],[]))).2.1:=by unfold xStr;rw [qap];cases l[i]?<;>rfl
@[simp] theorem xRow_cAc2 (l:List Ac) (i:Nat):xRow (rOf cAc l) i 2=rOf cM ((l[i]?.getD (false,([],[]))).2.2):=by unfold xRow;rw [qap];cases l[i]?<;>rfl
theorem qso (l:List Ac) (x0:Bool) (x1:qU) (x2:List Tm):rOf cAc l++[[.bool x0,.str x1,.sl (rOf cM x2) .non]]=rOf cAc (l++[(x0,(x1,x2))]):=by rw [qga];rfl
theorem qAe (x0:Bool) (x1:qU) (x2:List Tm):([[.bool x0,.str x1,.sl (rOf cM x2) .non]]:List (List PV))=rOf cAc [(x0,(x1,x2))]:=rfl
abbrev En:=List UInt8×List Pa×List Ac
def cE:Cod En where
 enc t:=[.str t.1,.sl (rOf cP t.2.1) .non,.sl (rOf cAc t.2.2) .non]
 dec c:=match c with|[.str x0,.sl x1 .non,.sl x2 .non]=>(match deR cP x1,deR cAc x2 with|some y1,some y2=>some (x0,y1,y2)|_,_=>none)|_=>none
 k:=3
 of_dec c a h:=by
  split at h
  ·split at h
   ·cases h
    rename_i h1 h2;rw [qgH cP h1,qgH cAc h2]
   ·cases h
  ·cases h
 dec_of a:=by simp only [qr9 cAc,qr9 cP]
 lock a:=by simp only [qdf,lock,qbm]
 shut a:=by simp only [qa4,shut,qda]
 len a:=rfl
 one a:=rfl
@[simp] theorem okSize_cE (l:List En):qao (rOf cE l) 3=true:=qb4 cE l
@[simp] theorem okNews_cE (l:List En):qaq (rOf cE l) 3=true:=qb6 cE l
@[simp] theorem okGet_cE (l:List En) (i:Nat):qbV [.str [],.sl [] .full,.sl [] .full] (rOf cE l) i=decide (i < l.length):=qcS _ _ (fun _=>rfl) l i
@[simp] theorem xStr_cE0 (l:List En) (i:Nat):xStr (rOf cE l) i 0=(l[i]?.getD ([],[],[])).1:=by unfold xStr;rw [qap];cases l[i]?<;>rfl
@[simp] theorem xRow_cE1 (l:List En) (i:Nat):xRow (rOf cE l) i 1=rOf cP ((l[i]?.getD ([],[],[])).2.1):=by unfold xRow;rw [qap];cases l[i]?<;>rfl
@[simp] theorem xRow_cE2 (l:List En) (i:Nat):xRow (rOf cE l) i 2=rOf cAc ((l[i]?.getD ([],[],[])).2.2):=by unfold xRow;rw [qap];cases l[i]?<;>rfl
theorem qSc (l:List En) (x0:qU) (x1:List Pa) (x2:List Ac):rOf cE l++[[.str x0,.sl (rOf cP x1) .non,.sl (rOf cAc x2) .non]]=rOf cE (l++[(x0,x1,x2)]):=by rw [qga];rfl
theorem qVb (x0:qU) (x1:List Pa) (x2:List Ac):([[.str x0,.sl (rOf cP x1) .non,.sl (rOf cAc x2) .non]]:List (List PV))=rOf cE [(x0,x1,x2)]:=rfl
end Go.Pv
