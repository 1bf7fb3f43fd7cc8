/- Part 6 of the proof: pure values for the machine's values, what functions compute over them, and laws of what is computed. Conditions: none beyond each theorem's own premises. -/
import Derived.Test.YtakhnioifgbdfaaGreatDoorPvG5
import Derived.Test.YtakhnioifgbdfaaGreatDoorCards
import Derived.Test.YtakhnioifgbdfaaGreatDoorTie
set_option maxHeartbeats 4000000
set_option linter.unusedSimpArgs false
set_option linter.unusedVariables false
namespace Go.Pv
open Go.RowKit
def swp (i k:Nat):Nat:=if k=i then i+1 else if k=i+1 then i else k
theorem qxN (i k:Nat):swp i (swp i k)=k:=by
 unfold swp
 repeat' split
 all_goals omega
theorem qI4 {i k n:Nat} (hi:i+1 < n) (hk:k < n):swp i k < n:=by
 unfold swp
 repeat' split
 all_goals omega
theorem qsQ {i k:Nat} (h1:k≠i) (h2:k≠i+1):swp i k=k:=by
 unfold swp
 rw [if_neg h1,if_neg h2]
def eA (i k:Nat) (o:Oper):Oper:=if k=i+1 then { o with after:=o.after.push ⟨i,.data⟩ } else o
def opsA (i:Nat) (ops:Array Oper):Array Oper:=ops.mapIdx fun k o=>eA i k o
def eB (i k:Nat) (o:Oper):Oper:={ o with after:=(o.after.map fun e=>{ e with on:=swp i e.on })++(if k=i+1 then #[⟨i,.data⟩] else #[]) }
def opsB (i:Nat) (ops:Array Oper):Array Oper:=ops.mapIdx fun k o=>eB i k ((ops[swp i k]?).getD o)
def qkK (i:Nat) (ops:Array Oper):Bool:=ops.toList.all fun o=>match o.guard with
 | some (g,_)=>!Nat.beq g i && !Nat.beq g (i+1)
 | none=>true
theorem atA (i:Nat) (ops:Array Oper) (k:Nat):(opsA i ops)[k]?=(ops[k]?).map (eA i k):=by
 unfold opsA
 rw [Array.getElem?_mapIdx]
theorem atB {i:Nat} {ops:Array Oper} (hi:i+1 < ops.size) {k:Nat} {o:Oper} (h:ops[k]?=some o):(opsB i ops)[swp i k]?=some (eB i (swp i k) o):=by
 have hk:k < ops.size:=by
  have:=Array.getElem?_eq_some_iff.1 h
  exact this.1
 unfold opsB
 rw [Array.getElem?_mapIdx,Array.getElem?_eq_getElem (qI4 hi hk),qxN,h]
 rfl
theorem qLe (i k:Nat) (o:Oper):∃ x,eA i k o={ o with after:=x }:=by
 unfold eA
 split
 ·exact ⟨_,rfl⟩
 ·exact ⟨o.after,rfl⟩
theorem qxv (i:Nat) (ops:Array Oper):(opsA i ops).size=ops.size:=by simp [opsA]
theorem qsi (i:Nat) (ops:Array Oper):(opsB i ops).size=ops.size:=by simp [opsB]
theorem qsO {i:Nat} {ops:Array Oper} (h:qkK i ops=true) {k:Nat} {o:Oper} (ho:ops[k]?=some o) {g:Nat} {b:Bool} (hg:o.guard=some (g,b)):g≠i∧g≠i+1:=by
 unfold qkK at h
 rw [List.all_eq_true] at h
 have h1:=h o (by
  rw [Array.mem_toList_iff]
  exact Array.mem_of_getElem? ho)
 rw [hg] at h1
 simp only [Bool.and_eq_true,Bool.not_eq_true'] at h1
 exact ⟨Nat.ne_of_beq_eq_false h1.1,Nat.ne_of_beq_eq_false h1.2⟩
theorem qdm {ops:Array Oper} {listed:Array Bool} (hs:listed.size=ops.size) {k:Nat}:k ∈ Region.ready .any ops listed↔∃ o,ops[k]?=some o∧¬ In listed k∧∀ e ∈ o.after.toList,Region.binds .any e=true→In listed e.on:=by
 unfold Region.ready
 rw [List.mem_filter,List.mem_range]
 constructor
 ·rintro ⟨hk,hk'⟩
  have hb:k < listed.size:=by omega
  have e2:ops[k]?=some ops[k]:=Array.getElem?_eq_getElem hk
  simp only [e2,Option.map_some,Option.getD_some,Bool.and_eq_true,Bool.not_eq_true'] at hk'
  obtain ⟨hk1,hk2⟩:=hk'
  refine ⟨_,e2,?_,?_⟩
  ·rw [Array.getD_eq_getD_getElem?,Array.getElem?_eq_getElem hb] at hk1
   unfold In
   rw [Array.getD_eq_getD_getElem?,Array.getElem?_eq_getElem hb]
   simpa using hk1
  ·intro e he hbd
   have:=Array.all_eq_true'.1 hk2 e (Array.mem_toList_iff.1 he)
   simpa [hbd,In] using this
 ·rintro ⟨o,ho,hn,he⟩
  have hk:k < ops.size:=(Array.getElem?_eq_some_iff.1 ho).1
  have hb:k < listed.size:=by omega
  refine ⟨hk,?_⟩
  simp only [ho,Option.map_some,Option.getD_some,Bool.and_eq_true,Bool.not_eq_true']
  constructor
  ·unfold In at hn
   rw [Array.getD_eq_getD_getElem?,Array.getElem?_eq_getElem hb] at hn ⊢
   simpa using hn
  ·rw [Array.all_eq_true']
   intro e hm
   cases hbd:Region.binds .any e with
   | false=>rfl
   | true =>
    have:=he e (Array.mem_toList_iff.2 hm) hbd
    simpa [In] using this
section
variable {F : Fence} {n : Nat} {P : Program} {Q : Exit → Act → World → Prop}
theorem qw0 {ops ops2:Array Oper} (hsz:ops2.size=ops.size) (π:Nat→Nat) (hπ:∀ k,π (π k)=k) (hlt:∀ k,k < ops.size→π k < ops.size) (j:Nat)
  (hop:∀ (K:Act→World→Prop) k a w,wpOpIn F n P ops2 Q (π k) K a w→wpOpIn F n P ops Q k K a w)
  (hr:∀ listed listed2:Array Bool,listed.size=ops.size→listed2.size=ops2.size→(∀ k,In listed2 (π k)↔In listed k)→In listed j→∀ k,(k ∈ Region.ready .any ops listed↔π k ∈ Region.ready .any ops2 listed2)) :
  ∀ (fuel:Nat) (listed listed2:Array Bool) (a:Act) (w:World),listed.size=ops.size→listed2.size=ops2.size→(∀ k,In listed2 (π k)↔In listed k)→In listed j→wpAnyIn F n P .any ops2 Q fuel listed2 a w→wpAnyIn F n P .any ops Q fuel listed a w:=by
 intro fuel
 induction fuel with
 | zero =>
  intro l l2 a w h1 h2 h3 h4 h
  refine ⟨List.eq_nil_iff_forall_not_mem.2 fun k hk=>?_,h.2⟩
  have:=(hr l l2 h1 h2 h3 h4 k).1 hk
  rw [h.1] at this
  cases this
 | succ fuel ih =>
  intro l l2 a w h1 h2 h3 h4 h
  refine ⟨fun hn=>h.1 (List.eq_nil_iff_forall_not_mem.2 fun k hk=>?_),fun k hk=>?_⟩
  ·have:=(hr l l2 h1 h2 h3 h4 (π k)).2 (by rw [hπ]; exact hk)
   rw [hn] at this
   cases this
  ·have hk2:=(hr l l2 h1 h2 h3 h4 k).1 hk
   obtain ⟨o,ho,_⟩:=(qdm h1).1 hk
   have hkl:k < ops.size:=(Array.getElem?_eq_some_iff.1 ho).1
   refine hop _ k a w (wpOpIn_mono (fun a' w' h'=>ih _ _ a' w' (by simp [h1]) (by simp [h2]) (fun m=>?_) ?_ h') (h.2 _ hk2))
   ·rw [qed (by have:=hlt k hkl; omega),qed (by omega),h3]
    constructor
    ·rintro (h | h)
     ·exact .inl (by rw [← hπ m,h,hπ])
     ·exact .inr h
    ·rintro (rfl | h)
     ·exact .inl rfl
     ·exact .inr h
   ·exact (qed (by omega)).2 (.inr h4)
theorem qH4 (i:Nat) (ops:Array Oper) (t:Array Value):yielded (opsA i ops) t=yielded ops t:=by
 funext g
 unfold yielded
 rw [atA]
 cases h:ops[g]? with
 | none=>rfl
 | some o =>
  obtain ⟨x,hx⟩:=qLe i g o
  simp only [Option.map_some,Option.bind_some,hx]
theorem qHf {i:Nat} {ops:Array Oper} (hi:i+1 < ops.size) (t:Array Value) {g:Nat} (h1:g≠i) (h2:g≠i+1):yielded (opsB i ops) t g=yielded ops t g:=by
 unfold yielded
 cases h:ops[g]? with
 | none =>
  have:(opsB i ops)[g]?=none:=by
   rw [Array.getElem?_eq_none_iff] at h ⊢
   rw [qsi]
   exact h
  rw [this]
 | some o =>
  have:=atB hi h
  rw [qsQ h1 h2] at this
  rw [this]
  rfl
theorem opA (i:Nat) (ops:Array Oper) (K:Act→World→Prop) (k:Nat) (a:Act) (w:World) (h:wpOpIn F n P (opsA i ops) Q k K a w):wpOpIn F n P ops Q k K a w:=by
 unfold wpOpIn at h ⊢
 rw [atA,qH4] at h
 cases ho:ops[k]? with
 | none=>rw [ho] at h; exact h
 | some o =>
  obtain ⟨x,hx⟩:=qLe i k o
  rw [ho] at h
  simp only [Option.map_some,hx] at h
  exact h
theorem opB {i:Nat} {ops:Array Oper} (hi:i+1 < ops.size) (hg:qkK i ops=true) (K:Act→World→Prop) (k:Nat) (a:Act) (w:World) (h:wpOpIn F n P (opsB i ops) Q (swp i k) K a w):wpOpIn F n P ops Q k K a w:=by
 unfold wpOpIn at h ⊢
 cases ho:ops[k]? with
 | none =>
  have hk:ops.size≤k:=by rwa [Array.getElem?_eq_none_iff] at ho
  have:(opsB i ops)[swp i k]?=none:=by
   rw [qsQ (by omega) (by omega),Array.getElem?_eq_none_iff,qsi]
   exact hk
  rw [this] at h
  exact h
 | some o =>
  rw [atB hi ho] at h
  have hw:Region.wanted (eB i (swp i k) o) (yielded (opsB i ops) a.tmps)=Region.wanted o (yielded ops a.tmps):=by
   unfold Region.wanted
   have e:(eB i (swp i k) o).guard=o.guard:=rfl
   rw [e]
   cases hgd:o.guard with
   | none=>rfl
   | some gb =>
    obtain ⟨g,b⟩:=gb
    obtain ⟨h1,h2⟩:=qsO hg ho hgd
    simp only [qHf hi a.tmps h1 h2]
  simp only [hw] at h
  exact h
theorem simA (i:Nat) (ops:Array Oper) (fuel:Nat) (listed:Array Bool) (a:Act) (w:World) (hs:listed.size=ops.size) (hin:In listed i) (h:wpAnyIn F n P .any (opsA i ops) Q fuel listed a w):wpAnyIn F n P .any ops Q fuel listed a w:=by
 refine qw0 (qxv i ops) id (fun _=>rfl) (fun _ h=>h) i (opA i ops) ?_ fuel listed listed a w hs (by rw [qxv,hs]) (fun _=>Iff.rfl) hin h
 intro l l2 h1 h2 h3 h4 k
 have h3:∀ k,In l2 k↔In l k:=h3
 rw [qdm h1,qdm h2]
 show _↔∃ o,(opsA i ops)[k]?=some o∧_
 rw [atA]
 constructor
 ·rintro ⟨o,ho,hn,he⟩
  refine ⟨eA i k o,by rw [ho]; rfl,fun h=>hn ((h3 k).1 h),fun e he' hb=>(h3 _).2 ?_⟩
  unfold eA at he'
  split at he'
  ·simp only [Array.toList_push,List.mem_append,List.mem_singleton] at he'
   rcases he' with he' | rfl
   ·exact he e he' hb
   ·exact h4
  ·exact he e he' hb
 ·rintro ⟨o2,ho2,hn,he⟩
  cases ho:ops[k]? with
  | none=>rw [ho] at ho2; cases ho2
  | some o =>
   rw [ho] at ho2
   simp only [Option.map_some,Option.some.injEq] at ho2
   subst ho2
   refine ⟨o,rfl,fun h=>hn ((h3 k).2 h),fun e he' hb=>(h3 _).1 (he e ?_ hb)⟩
   unfold eA
   split
   ·simp only [Array.toList_push,List.mem_append]
    exact .inl he'
   ·exact he'
theorem simB {i:Nat} {ops:Array Oper} (hi:i+1 < ops.size) (hg:qkK i ops=true) (fuel:Nat) (listed listed2:Array Bool) (a:Act) (w:World) (hs:listed.size=ops.size) (hs2:listed2.size=ops.size) (hin:In listed (i+1)) (hl:∀ k,In listed2 (swp i k)↔In listed k)
  (h:wpAnyIn F n P .any (opsB i ops) Q fuel listed2 a w):wpAnyIn F n P .any ops Q fuel listed a w:=by
 refine qw0 (qsi i ops) (swp i) (qxN i) (fun _ h=>qI4 hi h) (i+1) (opB hi hg) ?_ fuel listed listed2 a w hs (by rw [qsi,hs2]) hl hin h
 intro l l2 h1 h2 h3 h4 k
 have h5:In l2 i:=by
  have:=(h3 (i+1)).2 h4
  simpa [swp] using this
 rw [qdm h1,qdm h2]
 constructor
 ·rintro ⟨o,ho,hn,he⟩
  refine ⟨_,atB hi ho,fun h=>hn ((h3 k).1 h),fun e he' hb=>?_⟩
  simp only [eB,Array.toList_append,Array.toList_map,List.mem_append,List.mem_map] at he'
  rcases he' with ⟨e0,he0,rfl⟩ | he'
  ·exact (h3 _).2 (he e0 he0 hb)
  ·split at he'
   ·simp at he'
    subst he'
    exact h5
   ·simp at he'
 ·rintro ⟨o2,ho2,hn,he⟩
  cases ho:ops[k]? with
  | none =>
   have hk:ops.size≤k:=by rwa [Array.getElem?_eq_none_iff] at ho
   have:(opsB i ops)[swp i k]?=none:=by
    rw [qsQ (by omega) (by omega),Array.getElem?_eq_none_iff,qsi]
    exact hk
   rw [this] at ho2
   cases ho2
  | some o =>
   rw [atB hi ho] at ho2
   cases ho2
   refine ⟨o,rfl,fun h=>hn ((h3 k).2 h),fun e he' hb=>(h3 _).1 (he { e with on:=swp i e.on } ?_ hb)⟩
   simp only [eB,Array.toList_append,Array.toList_map,List.mem_append,List.mem_map]
   exact .inl ⟨e,he',rfl⟩
end
section
variable {P : Program} {tb : Tab} {gl : Gl} {Γ : Gam} {H0 : Gh} {w0 : World} {Q : Exit → Act → World → Prop}
theorem qAA {b:Bool} {ops:List Oper} (hord:qcq b Γ ops=true) {F:Nat→List PV} {S:Nat→Store} {X:Nat→PV} (ht:Trace tb Γ ops ops F S X)
  (hfree:∀ (k i:Nat) (o:Oper),ops[k]?=some o→reads Γ o=true→qdJ b Γ o=false→i≤ops.length→pop tb Γ (F k) (S k) o=some (X k,S (k+1))→pop tb Γ (F k) (S i) o=some (X k,S i))
  {listed:Array Bool} {fr:List PV} {σ:Store} (hI:Inv Γ ops F S listed fr σ) {k:Nat} {o:Oper} (hko:ops[k]?=some o) (hb:k < listed.size) (hn:¬ In listed k) (he:∀ e ∈ o.after.toList,Region.binds .any e=true→In listed e.on) :
  ∃ x σ',((pwanted ops fr o=some false∧x=.tup []∧σ'=σ)∨(pwanted ops fr o=some true∧pop tb Γ fr σ o=some (x,σ')))∧Inv Γ ops F S (listed.setIfInBounds k true) (pput fr o.dst x) σ':=by
 obtain ⟨hsee,hsto⟩:=hI.sees hord hko hn he
 have hwan:pwanted ops fr o=pwanted ops (F k) o:=by
  unfold pwanted
  cases hg:o.guard with
  | none=>rfl
  | some jb =>
   obtain ⟨j,b⟩:=jb
   simp only []
   cases hd:(ops[j]?).bind (·.dst) with
   | none=>rfl
   | some d =>
    have:fr[d]?=(F k)[d]?:=hsee d (by simp [looks,hg,hd])
    simp only [Option.bind_some,this]
 have hpop:∀ s,pop tb Γ fr s o=pop tb Γ (F k) s o:=by
  intro s
  refine qJs fun x hx=>?_
  cases x with
  | tmp t =>
   have:fr[t]?=(F k)[t]?:=hsee t (by
    simp only [looks,List.mem_append,List.mem_filterMap]
    exact .inl ⟨_,hx,rfl⟩)
   simp only [ev,List.getD_eq_getElem?_getD,this]
  | const v=>rfl
  | global g=>rfl
  | func f=>rfl
 rcases (ht.at_ k o hko).1 with ⟨hw,hx,hS⟩ | ⟨hw,hp⟩
 ·refine ⟨.tup [],σ,.inl ⟨hwan.trans hw,rfl,rfl⟩,?_⟩
  have:=hI.next hord ht hko hb hn he (σ':=σ) ⟨fun hwr=>?_,fun _=>rfl⟩
  ·rw [hx] at this
   exact this
  ·rw [hS]
   exact hsto (by simp [qdJ,hwr])
 ·cases hr:qdJ b Γ o with
  | true =>
   have hs':=hsto hr
   have hp':pop tb Γ fr σ o=some (X k,S (k+1)):=by rw [hpop,hs']; exact hp
   refine ⟨X k,S (k+1),.inr ⟨hwan.trans hw,hp'⟩,hI.next hord ht hko hb hn he ⟨fun _=>rfl,fun hwf=>?_⟩⟩
   rw [qmt hwf hp,hs']
  | false =>
   have hwf:writes Γ o=false:=by
    cases hwr:writes Γ o with
    | false=>rfl
    | true=>simp [qdJ,hwr] at hr
   have hp':pop tb Γ fr σ o=some (X k,σ):=by
    rw [hpop]
    cases hr0:reads Γ o with
    | false=>exact qvT hr0 hp σ
    | true =>
     obtain ⟨i,hi,rfl⟩:=hI.someS hord
     exact hfree k i _ hko hr0 hr hi hp
   refine ⟨X k,σ,.inr ⟨hwan.trans hw,hp'⟩,hI.next hord ht hko hb hn he ⟨fun h=>?_,fun _=>rfl⟩⟩
   rw [hwf] at h
   cases h
theorem qEX (n i:Nat):¬ In (Array.replicate n false) i:=by
 unfold In
 rw [Array.getD_eq_getD_getElem?]
 by_cases hi:i < n
 ·simp [Array.getElem?_replicate,hi]
 ·simp [Array.getElem?_replicate,hi]
theorem inv0 {ops:List Oper} {F:Nat→List PV} {S:Nat→Store} {X:Nat→PV} (ht:Trace tb Γ ops ops F S X) (n:Nat):Inv Γ ops F S (Array.replicate n false) (F 0) (S 0) :=
 ⟨rfl,fun j o hj=>absurd hj (qEX n j),fun t i hi hlo hhi=>by
  rw [ht.still (i:=0) (j:=i) (Nat.zero_le _) hi (fun k o _ hk ho hd=>qEX n k (hlo k o hk ho hd))],fun i hi hlo hhi=>by
  rw [ht.stillS (i:=0) (j:=i) (Nat.zero_le _) hi (fun k o _ hk ho=>by
   cases hw:writes Γ o with
   | false=>rfl
   | true=>exact absurd (hlo k o hk ho hw) (qEX n k))]⟩
structure Told (tb:Tab) (Γ:Gam) (ops:Array Oper) (b:Bool) (F:Nat→List PV) (S:Nat→Store) (X:Nat→PV):Prop where
 ord:qcq b Γ ops.toList=true
 tr:Trace tb Γ ops.toList ops.toList F S X
 free:∀ (k i:Nat) (o:Oper),ops.toList[k]?=some o→reads Γ o=true→qdJ b Γ o=false→i≤ops.size→pop tb Γ (F k) (S k) o=some (X k,S (k+1))→pop tb Γ (F k) (S i) o=some (X k,S i)
theorem qFk {ops:Array Oper} {fr fr':List PV} {σ σ':Store} (h:pops tb Γ ops.toList ops.toList fr σ=some (fr',σ')) (hd:ordered Γ ops.toList=true∨(qcq true Γ ops.toList=true∧qe0 Γ ops.toList fr' σ.objs.length=true)) :
  ∃ b F S X,Told tb Γ ops b F S X∧F 0=fr∧S 0=σ∧F ops.size=fr'∧S ops.size=σ':=by
 obtain ⟨F,S,X,hF,hS,hF',hS',ht⟩:=qlZ _ _ _ _ _ h
 rcases hd with h1 | ⟨h1,h2⟩
 ·exact ⟨false,F,S,X,⟨h1,ht,fun k i o hk hr hf=>by
   unfold reads at hr
   rw [hf] at hr
   cases hr⟩,hF,hS,by simpa using hF',by simpa using hS'⟩
 ·refine ⟨true,F,S,X,⟨h1,ht,fun k i o hk hr hf hi hp=>qsv ht ?_ k i o hk hr hf (by simpa using hi) hp⟩,hF,hS,by simpa using hF',by simpa using hS'⟩
  rw [hF',hS]
  exact h2
theorem qDX (hT:qbR P tb) (hΓ:qaH P gl Γ) {ops:Array Oper} {i:Nat} (hi:i+1 < ops.size) (hg:qkK i ops=true)
  {bA bB:Bool} {FA FB:Nat→List PV} {SA SB:Nat→Store} {XA XB:Nat→PV} (hA:Told tb Γ (opsA i ops) bA FA SA XA) (hB:Told tb Γ (opsB i ops) bB FB SB XB)
  (hqA:∀ a' w',St gl H0 w0 (FA ops.size) (SA ops.size) a' w'→Q .normal a' w') (hqB:∀ a' w',St gl H0 w0 (FB ops.size) (SB ops.size) a' w'→Q .normal a' w') :
  ∀ (fuel:Nat) (listed:Array Bool) (fr:List PV) (σ:Store) (a:Act) (w:World),listed.size=ops.size→listed.toList.count false≤fuel→¬ In listed i→¬ In listed (i+1)→Inv Γ (opsA i ops).toList FA SA listed fr σ→Inv Γ (opsB i ops).toList FB SB listed fr σ→St gl H0 w0 fr σ a w→∀ (r:Option Nat) (n:Nat),wpAnyIn (rnd r) n P .any ops Q fuel listed a w:=by
 have dA:∀ (fuel:Nat) (listed:Array Bool) (fr:List PV) (σ:Store) (a:Act) (w:World),listed.size=ops.size→listed.toList.count false≤fuel→Inv Γ (opsA i ops).toList FA SA listed fr σ→St gl H0 w0 fr σ a w→∀ (r:Option Nat) (n:Nat),wpAnyIn (rnd r) n P .any (opsA i ops) Q fuel listed a w :=
  fun fuel listed fr σ a w hs=>qpS hT hΓ hA.ord hA.tr hA.free (by rw [qxv]; exact hqA) fuel listed fr σ a w (by rw [qxv]; exact hs)
 have dB:∀ (fuel:Nat) (listed:Array Bool) (fr:List PV) (σ:Store) (a:Act) (w:World),listed.size=ops.size→listed.toList.count false≤fuel→Inv Γ (opsB i ops).toList FB SB listed fr σ→St gl H0 w0 fr σ a w→∀ (r:Option Nat) (n:Nat),wpAnyIn (rnd r) n P .any (opsB i ops) Q fuel listed a w :=
  fun fuel listed fr σ a w hs=>qpS hT hΓ hB.ord hB.tr hB.free (by rw [qsi]; exact hqB) fuel listed fr σ a w (by rw [qsi]; exact hs)
 have hl0:∀ listed:Array Bool,¬ In listed i→¬ In listed (i+1)→∀ k,In listed (swp i k)↔In listed k:=by
  intro listed h1 h2 k
  by_cases e1:k=i
  ·subst e1
   simp [swp,h1,h2]
  ·by_cases e2:k=i+1
   ·subst e2
    simp [swp,h1,h2]
   ·rw [qsQ e1 e2]
 intro fuel
 induction fuel with
 | zero =>
  intro listed fr σ a w hs hc h1 h2 hIA hIB hst
  have hb:i < listed.size:=by omega
  have h0:false ∉ listed.toList:=List.count_eq_zero.1 (by omega)
  unfold In at h1
  rw [Array.getD_eq_getD_getElem?,Array.getElem?_eq_getElem hb] at h1
  cases hl:listed[i] with
  | true=>simp [hl] at h1
  | false=>exact absurd (by rw [← hl]; simp) h0
 | succ fuel ih =>
  intro listed fr σ a w hs hc h1 h2 hIA hIB hst r n
  have wA:=dA (fuel+1) listed fr σ a w hs hc hIA hst r n
  have wB:=dB (fuel+1) listed fr σ a w hs hc hIB hst r n
  have hsub:∀ k,k ∈ Region.ready .any (opsA i ops) listed→k ∈ Region.ready .any ops listed:=by
   intro k hk
   rw [qdm (by rw [qxv]; exact hs)] at hk
   obtain ⟨o2,ho2,hn,he⟩:=hk
   rw [atA] at ho2
   cases ho:ops[k]? with
   | none=>rw [ho] at ho2; cases ho2
   | some o =>
    rw [ho] at ho2
    simp only [Option.map_some,Option.some.injEq] at ho2
    subst ho2
    refine (qdm hs).2 ⟨o,ho,hn,fun e he' hb=>he e ?_ hb⟩
    unfold eA
    split
    ·simp only [Array.toList_push,List.mem_append]
     exact .inl he'
    ·exact he'
  refine ⟨fun hnil=>wA.1 (List.eq_nil_iff_forall_not_mem.2 fun k hk=>?_),fun k hk=>?_⟩
  ·have:=hsub k hk
   rw [hnil] at this
   cases this
  obtain ⟨o,ho,hn,he⟩:=(qdm hs).1 hk
  have hkl:k < ops.size:=(Array.getElem?_eq_some_iff.1 ho).1
  by_cases e1:k=i
  ·subst e1
   have hrA:k ∈ Region.ready .any (opsA k ops) listed:=by
    rw [qdm (by rw [qxv]; exact hs),atA,ho]
    refine ⟨_,rfl,hn,fun e he' hb=>he e ?_ hb⟩
    unfold eA at he'
    rw [if_neg (by omega)] at he'
    exact he'
   exact opA k ops _ k a w (wpOpIn_mono (fun a' w' h'=>simA k ops fuel _ a' w' (by simp [hs]) ((qed (by omega)).2 (.inl rfl)) h') (wA.2 k hrA))
  by_cases e2:k=i+1
  ·subst e2
   have hat:=atB hi ho
   have hsw:swp i (i+1)=i:=by simp [swp]
   rw [hsw] at hat
   have hrB:i ∈ Region.ready .any (opsB i ops) listed:=by
    rw [qdm (by rw [qsi]; exact hs)]
    refine ⟨_,hat,h1,fun e he' hb=>?_⟩
    simp only [eB,Array.toList_append,Array.toList_map,List.mem_append,List.mem_map] at he'
    rcases he' with ⟨e0,he0,rfl⟩ | he'
    ·exact (hl0 listed h1 h2 _).2 (he e0 he0 hb)
    ·rw [if_neg (by omega)] at he'
     simp at he'
   refine opB hi hg _ (i+1) a w ?_
   rw [hsw]
   refine wpOpIn_mono (fun a' w' h'=>simB hi hg fuel _ _ a' w' (by simp [hs]) (by simp [hs]) ((qed (by omega)).2 (.inl rfl)) (fun m=>?_) h') (wB.2 i hrB)
   rw [qed (by omega),qed (by omega),hl0 listed h1 h2]
   constructor
   ·rintro (h | h)
    ·exact .inl (by rw [← qxN i m,h]; simp [swp])
    ·exact .inr h
   ·rintro (rfl | h)
    ·exact .inl hsw
    ·exact .inr h
  -- another one
  have hoA:(opsA i ops).toList[k]?=some o:=by
   rw [Array.getElem?_toList,atA,ho]
   simp only [Option.map_some,eA,if_neg e2]
  have hoB:(opsB i ops).toList[k]?=some (eB i k o):=by
   rw [Array.getElem?_toList]
   have:=atB hi ho
   rwa [qsQ e1 e2] at this
  obtain ⟨xA,σA,hcA,hIA'⟩:=qAA hA.ord hA.tr (by simpa using hA.free) hIA hoA (by omega) hn he
  obtain ⟨xB,σB,hcB,hIB'⟩:=qAA hB.ord hB.tr (by simpa using hB.free) hIB hoB (by omega) hn (fun e he' hb=>by
   simp only [eB,Array.toList_append,Array.toList_map,List.mem_append,List.mem_map] at he'
   rcases he' with ⟨e0,he0,rfl⟩ | he'
   ·exact (hl0 listed h1 h2 _).2 (he e0 he0 hb)
   ·rw [if_neg e2] at he'
    simp at he')
  have hwA:pwanted (opsA i ops).toList fr o=pwanted ops.toList fr o:=by
   unfold pwanted
   cases hgd:o.guard with
   | none=>rfl
   | some gb =>
    obtain ⟨g,b⟩:=gb
    simp only []
    have:((opsA i ops).toList[g]?).bind (·.dst)=(ops.toList[g]?).bind (·.dst):=by
     rw [Array.getElem?_toList,Array.getElem?_toList,atA]
     cases ops[g]? with
     | none=>rfl
     | some y =>
      obtain ⟨z,hz⟩:=qLe i g y
      simp only [Option.map_some,Option.bind_some,hz]
    rw [this]
  have hwB:pwanted (opsB i ops).toList fr (eB i k o)=pwanted ops.toList fr o:=by
   unfold pwanted
   have e:(eB i k o).guard=o.guard:=rfl
   rw [e]
   cases hgd:o.guard with
   | none=>rfl
   | some gb =>
    obtain ⟨g,b⟩:=gb
    obtain ⟨g1,g2⟩:=qsO hg ho hgd
    simp only []
    have:((opsB i ops).toList[g]?).bind (·.dst)=(ops.toList[g]?).bind (·.dst):=by
     rw [Array.getElem?_toList,Array.getElem?_toList]
     cases hx:ops[g]? with
     | none =>
      have:(opsB i ops)[g]?=none:=by
       rw [Array.getElem?_eq_none_iff] at hx ⊢
       rw [qsi]
       exact hx
      rw [this]
     | some y =>
      have:=atB hi hx
      rw [qsQ g1 g2] at this
      rw [this]
      rfl
    rw [this]
  have hpB:pop tb Γ fr σ (eB i k o)=pop tb Γ fr σ o:=rfl
  have hdB:(eB i k o).dst=o.dst:=rfl
  rw [hwA] at hcA
  rw [hwB,hpB] at hcB
  rw [hdB] at hIB'
  have hcount:(listed.setIfInBounds k true).toList.count false≤fuel:=by
   have hlk:listed[k]?=some false:=by
    have hb:k < listed.size:=by omega
    unfold In at hn
    rw [Array.getD_eq_getD_getElem?,Array.getElem?_eq_getElem hb] at hn
    rw [Array.getElem?_eq_getElem hb]
    simpa using hn
   have:=qwm listed.toList k (by rw [Array.getElem?_toList]; exact hlk)
   simp only [Array.toList_setIfInBounds]
   omega
  have hsize:(listed.setIfInBounds k true).size=ops.size:=by simp [hs]
  have n1:¬ In (listed.setIfInBounds k true) i:=by
   rw [qed (by omega)]
   rintro (h | h)
   ·exact e1 h.symm
   ·exact h1 h
  have n2:¬ In (listed.setIfInBounds k true) (i+1):=by
   rw [qed (by omega)]
   rintro (h | h)
   ·exact e2 h.symm
   ·exact h2 h
  unfold wpOpIn
  simp only [ho]
  rcases hcA with ⟨hw,rfl,rfl⟩ | ⟨hw,hp⟩
  ·rcases hcB with ⟨_,rfl,rfl⟩ | ⟨hw',_⟩
   ·have hwn:=qgL hst hw
    simp only [hwn]
    exact ⟨fun _ _=>trivial,ih _ _ _ _ _ hsize hcount n1 n2 hIA' hIB' (qyq hst _) r n⟩
   ·rw [hw] at hw'
    cases hw'
  ·rcases hcB with ⟨hw',_⟩ | ⟨_,hp'⟩
   ·rw [hw] at hw'
    cases hw'
   ·rw [hp] at hp'
    simp only [Option.some.injEq,Prod.mk.injEq] at hp'
    obtain ⟨rfl,rfl⟩:=hp'
    have hwn:=qgL hst hw
    simp only [hwn,if_true]
    exact qvy hT hΓ hst hp (fun a' w' hst'=>ih _ _ _ _ _ hsize hcount n1 n2 hIA' hIB' hst' r n) r n
theorem qug (hT:qbR P tb) (hΓ:qaH P gl Γ) (hm:P.follows .mixedOrders=true) {id i:Nat} {ops:Array Oper} (hi:i+1 < ops.size) (hg:qkK i ops=true) {fr frA frB:List PV} {σ σA σB:Store} {a:Act} {w:World} (hst:St gl H0 w0 fr σ a w)
  (hA:pops tb Γ (opsA i ops).toList (opsA i ops).toList fr σ=some (frA,σA)) (hdA:ordered Γ (opsA i ops).toList=true∨(qcq true Γ (opsA i ops).toList=true∧qe0 Γ (opsA i ops).toList frA σ.objs.length=true))
  (hB:pops tb Γ (opsB i ops).toList (opsB i ops).toList fr σ=some (frB,σB)) (hdB:ordered Γ (opsB i ops).toList=true∨(qcq true Γ (opsB i ops).toList=true∧qe0 Γ (opsB i ops).toList frB σ.objs.length=true))
  (hqA:∀ a' w',St gl H0 w0 frA σA a' w'→Q .normal a' w') (hqB:∀ a' w',St gl H0 w0 frB σB a' w'→Q .normal a' w') (r:Option Nat) (n:Nat):(Code.region id ops true).wpIn (rnd r) n P Q a w:=by
 refine wpIn_region_any hm ?_
 obtain ⟨bA,FA,SA,XA,tA,hFA,hSA,hFA',hSA'⟩:=qFk hA hdA
 obtain ⟨bB,FB,SB,XB,tB,hFB,hSB,hFB',hSB'⟩:=qFk hB hdB
 rw [qxv] at hFA' hSA'
 rw [qsi] at hFB' hSB'
 have iA:=inv0 tA.tr ops.size
 have iB:=inv0 tB.tr ops.size
 rw [hFA,hSA] at iA
 rw [hFB,hSB] at iB
 exact qDX hT hΓ hi hg tA tB (by rw [hFA',hSA']; exact hqA) (by rw [hFB',hSB']; exact hqB) ops.size _ fr σ _ _ (by simp) (Nat.le_trans List.count_le_length (by simp)) (qEX _ _) (qEX _ _) iA iB (qEC hst) r n
end
def hasR (id:Nat):Code→Bool
 | .region id' _ draw=>Nat.beq id' id && draw
 | .seq x y=>hasR id x || hasR id y
 | _=>false
def qiu (id i:Nat) (b:Bool):Code→Code
 | .region id' ops draw=>match Nat.beq id' id && draw with
  | true=>.region id' (match b with | true=>opsB i ops | false=>opsA i ops) draw
  | false=>.region id' ops draw
 | .seq x y=>match hasR id x with
  | true=>.seq (qiu id i b x) y
  | false=>.seq x (qiu id i b y)
 | c=>c
def qsB (id i:Nat):Code→Bool
 | .region id' ops draw=>!(Nat.beq id' id && draw) || (Nat.blt (i+1) ops.size && qkK i ops)
 | .seq x y=>qsB id i x && qsB id i y
 | _=>true
def qCm (id i:Nat) (b:Bool) (fn:Func):Func:={ fn with body:=fn.body.map (qiu id i b) }
section
variable {P : Program} {tb : Tab} {gl : Gl} {Γ : Gam}
def qKO (P:Program) (gl:Gl) (c:Code) (fr:List PV) (σ:Store) (O:PExit→List PV→Store→Prop):Prop :=
 ∀ (r:Option Nat) (n:Nat) (H0:Gh) (w0:World),RIn r H0→∀ (Q:Exit→Act→World→Prop) (a:Act) (w:World),St gl H0 w0 fr σ a w→(∀ e fr' σ',O e fr' σ'→∀ a' w',St gl H0 w0 fr' σ' a' w'→Q e.as a' w')→c.wpIn (rnd r) n P Q a w
theorem Does.all {c:Code} {fr:List PV} {σ:Store} {e:PExit} {fr':List PV} {σ':Store} {O:PExit→List PV→Store→Prop} (h:Does P gl c fr σ e fr' σ') (ho:O e fr' σ'):qKO P gl c fr σ O :=
 fun r n H0 w0 hR Q a w hst hq=>h r n H0 w0 hR Q a w hst (hq _ _ _ ho)
theorem qJi {ops:Array Oper} {fr fr1:List PV} {σ σ1:Store} {id:Nat} {e:PExit} {fr':List PV} {σ':Store} (hd:qbB Γ (.region id ops true)=true) {L:Lps} (h:pexec tb Γ L (.region id ops true) fr σ=some (e,fr',σ')) :
  e=.normal∧pops tb Γ ops.toList ops.toList fr σ=some (fr',σ')∧(ordered Γ ops.toList=true∨(qcq true Γ ops.toList=true∧qe0 Γ ops.toList fr' σ.objs.length=true)):=by
 simp only [pexec] at h
 split at h
 ·rename_i fr1 σ1 hp
  split at h
  ·cases h
  rename_i hna
  simp only [Option.some.injEq,Prod.mk.injEq] at h
  obtain ⟨rfl,rfl,rfl⟩:=h
  refine ⟨rfl,hp,?_⟩
  simp only [qbB,Bool.not_true,Bool.false_or,Bool.or_eq_true,Bool.and_eq_true] at hd
  rcases hd with hd | ⟨hd1,hd2⟩
  ·exact .inl hd
  ·cases ho:ordered Γ ops.toList with
   | true=>exact .inl rfl
   | false =>
    refine .inr ⟨hd2,?_⟩
    cases hal:qe0 Γ ops.toList fr1 σ.objs.length with
    | true=>rfl
    | false=>simp [qFK,hd1,ho,hal] at hna
 ·cases h
theorem qne (hT:qbR P tb) (hΓ:qaH P gl Γ) (hm:P.follows .mixedOrders=true) {L:Lps} {id i:Nat} {O:PExit→List PV→Store→Prop}:∀ (c:Code) (fr:List PV) (σ:Store) (eA:PExit) (frA:List PV) (σA:Store) (eB:PExit) (frB:List PV) (σB:Store),
  qsB id i c=true→qcc P gl L c→qbB Γ (qiu id i false c)=true→qbB Γ (qiu id i true c)=true→pexec tb Γ L (qiu id i false c) fr σ=some (eA,frA,σA)→pexec tb Γ L (qiu id i true c) fr σ=some (eB,frB,σB)→O eA frA σA→O eB frB σB→qKO P gl c fr σ O
 | .region id' ops draw,fr,σ,eA,frA,σA,eB,frB,σB,hp,hL,hdA,hdB,hA,hB,oA,oB=>by
  cases hid:Nat.beq id' id && draw with
  | false =>
   simp only [qiu,hid] at hdA hA
   exact (qbt hT hΓ hm _ fr σ eA frA σA hL hdA hA).all oA
  | true =>
   have hdr:draw=true:=by
    cases draw with
    | true=>rfl
    | false=>simp at hid
   subst hdr
   simp only [qiu,hid] at hdA hdB hA hB
   simp only [qsB,hid,Bool.not_true,Bool.false_or,Bool.and_eq_true] at hp
   obtain ⟨rfl,a1,a2⟩:=qJi (fr1:=fr) (σ1:=σ) hdA hA
   obtain ⟨rfl,b1,b2⟩:=qJi (fr1:=fr) (σ1:=σ) hdB hB
   intro r n H0 w0 hR Q a w hst hq
   exact qug hT hΓ hm (by simpa [Nat.blt_eq] using hp.1) hp.2 hst a1 a2 b1 b2 (hq _ _ _ oA) (hq _ _ _ oB) r n
 | .seq x y,fr,σ,eA,frA,σA,eB,frB,σB,hp,hL,hdA,hdB,hA,hB,oA,oB=>by
  simp only [qsB,Bool.and_eq_true] at hp
  cases hx:hasR id x with
  | true =>
   simp only [qiu,hx,qbB,Bool.and_eq_true] at hdA hdB
   simp only [qiu,hx,pexec] at hA hB
   intro r n H0 w0 hR Q a w hst hq
   refine wpIn_seq ?_
   -- behind the first part: the second,or out
   have key:∀ (b:Bool) (eX:PExit) (frX:List PV) (σX:Store),(match pexec tb Γ L (qiu id i b x) fr σ with | some (.normal,fr',σ')=>pexec tb Γ L y fr' σ' | r=>r)=some (eX,frX,σX)→O eX frX σX →
     ∃ e1 fr1 σ1,pexec tb Γ L (qiu id i b x) fr σ=some (e1,fr1,σ1)∧∀ a1 w1,St gl H0 w0 fr1 σ1 a1 w1→(match e1.as with | .normal=>y.wpIn (rnd r) n P Q a1 w1 | e=>Q e a1 w1):=by
    intro b eX frX σX h ho
    split at h
    ·rename_i fr1 σ1 hx1
     exact ⟨.normal,fr1,σ1,hx1,fun a1 w1 hst1=>qbt hT hΓ hm y fr1 σ1 eX frX σX hL.2 hdA.2 h r n H0 w0 hR _ _ _ hst1 (hq _ _ _ ho)⟩
    ·rename_i hne
     refine ⟨eX,frX,σX,h,fun a1 w1 hst1=>?_⟩
     cases eX with
     | normal=>exact absurd h (hne _ _)
     | exit id=>exact hq _ _ _ ho _ _ hst1
     | ret=>exact hq _ _ _ ho _ _ hst1
   obtain ⟨e1,f1,s1,p1,k1⟩:=key false _ _ _ hA oA
   obtain ⟨e2,f2,s2,p2,k2⟩:=key true _ _ _ hB oB
   refine qne hT hΓ hm (O:=fun e f s=>(e,f,s)=(e1,f1,s1)∨(e,f,s)=(e2,f2,s2)) x fr σ _ _ _ _ _ _ hp.1 hL.1 hdA.1 hdB.1 p1 p2 (.inl rfl) (.inr rfl) r n H0 w0 hR _ a w hst ?_
   rintro e f s (h | h) a1 w1 hst1
   ·cases h
    have:=k1 a1 w1 hst1
    cases e1 <;> exact this
   ·cases h
    have:=k2 a1 w1 hst1
    cases e2 <;> exact this
  | false =>
   simp only [qiu,hx,qbB,Bool.and_eq_true] at hdA hdB
   simp only [qiu,hx,pexec] at hA hB
   intro r n H0 w0 hR Q a w hst hq
   refine wpIn_seq ?_
   cases hx1:pexec tb Γ L x fr σ with
   | none=>rw [hx1] at hA; cases hA
   | some t =>
    obtain ⟨e1,f1,s1⟩:=t
    refine qbt hT hΓ hm x fr σ e1 f1 s1 hL.1 hdA.1 hx1 r n H0 w0 hR _ a w hst fun a1 w1 hst1=>?_
    rw [hx1] at hA hB
    cases e1 with
    | normal=>exact qne hT hΓ hm (O:=O) y f1 s1 _ _ _ _ _ _ hp.2 hL.2 hdA.2 hdB.2 hA hB oA oB r n H0 w0 hR Q a1 w1 hst1 hq
    | exit id =>
     simp only [Option.some.injEq,Prod.mk.injEq] at hA
     obtain ⟨rfl,rfl,rfl⟩:=hA
     exact hq _ _ _ oA _ _ hst1
    | ret =>
     simp only [Option.some.injEq,Prod.mk.injEq] at hA
     obtain ⟨rfl,rfl,rfl⟩:=hA
     exact hq _ _ _ oA _ _ hst1
 | .skip,fr,σ,eA,frA,σA,eB,frB,σB,hp,hL,hdA,hdB,hA,hB,oA,oB=>(qbt hT hΓ hm _ fr σ eA frA σA hL hdA hA).all oA
 | .label _,fr,σ,eA,frA,σA,eB,frB,σB,hp,hL,hdA,hdB,hA,hB,oA,oB=>(qbt hT hΓ hm _ fr σ eA frA σA hL hdA hA).all oA
 | .cond _ _ _,fr,σ,eA,frA,σA,eB,frB,σB,hp,hL,hdA,hdB,hA,hB,oA,oB=>(qbt hT hΓ hm _ fr σ eA frA σA hL hdA hA).all oA
 | .block _ _,fr,σ,eA,frA,σA,eB,frB,σB,hp,hL,hdA,hdB,hA,hB,oA,oB=>(qbt hT hΓ hm _ fr σ eA frA σA hL hdA hA).all oA
 | .loop _,fr,σ,eA,frA,σA,eB,frB,σB,hp,hL,hdA,hdB,hA,hB,oA,oB=>(qbt hT hΓ hm _ fr σ eA frA σA hL hdA hA).all oA
 | .scope _,fr,σ,eA,frA,σA,eB,frB,σB,hp,hL,hdA,hdB,hA,hB,oA,oB=>(qbt hT hΓ hm _ fr σ eA frA σA hL hdA hA).all oA
 | .exit _,fr,σ,eA,frA,σA,eB,frB,σB,hp,hL,hdA,hdB,hA,hB,oA,oB=>(qbt hT hΓ hm _ fr σ eA frA σA hL hdA hA).all oA
 | .rangeFunc _ _ _ _,fr,σ,eA,frA,σA,eB,frB,σB,hp,hL,hdA,hdB,hA,hB,oA,oB=>(qbt hT hΓ hm _ fr σ eA frA σA hL hdA hA).all oA
 | .goto _,fr,σ,eA,frA,σA,eB,frB,σB,hp,hL,hdA,hdB,hA,hB,oA,oB=>(qbt hT hΓ hm _ fr σ eA frA σA hL hdA hA).all oA
 | .refuse _,fr,σ,eA,frA,σA,eB,frB,σB,hp,hL,hdA,hdB,hA,hB,oA,oB=>(qbt hT hΓ hm _ fr σ eA frA σA hL hdA hA).all oA
 | .ret,fr,σ,eA,frA,σA,eB,frB,σB,hp,hL,hdA,hdB,hA,hB,oA,oB=>(qbt hT hΓ hm _ fr σ eA frA σA hL hdA hA).all oA
theorem SimP.of_doesO (hT : qbR P tb) {f : FuncId} {fn : Func} {c : Code} (hf : P.funcs[f]? = some fn) (hb : fn.body = some c) (hn : (fn.name == "runtime.NumGoroutine") = false)
  {F:List PV→Option PV} (h:∀ args x,F args=some x→(∃ H w vs,RelL H w args vs)→∃ O:PExit→List PV→Store→Prop,qKO P gl c (args++List.replicate (fn.ntmps - args.length) .top) ⟨[],[],[]⟩ O ∧
   ∀ e fr σ,O e fr σ→(e=.normal∨e=.ret)∧∃ xs,presults tb fr σ fn.results.toList=some xs∧pout (xs.map (oview σ.objs))=x):SimP P gl f F where
 ent:=⟨fn,hf,hn,by simp [hb]⟩
 run:=by
  intro args x hx H w vs hB hob htk hgl hrel
  obtain ⟨O,hdo,hO⟩:=h args x hx ⟨H,w,vs,hrel⟩
  refine qrE (r:=none) (n:=0) (callsIn_of_wp_marks hf hb trivial ?_)
  have hst:St gl { H with K:=w.heap.size } w (args++List.replicate (fn.ntmps - args.length) .top) ⟨[],[],[]⟩ { tmps:=vs.toArray++Array.replicate (fn.ntmps - vs.toArray.size) undef,defers:=[] } w:=by
   refine ⟨{ H with K:=w.heap.size },Ev.refl _ w,⟨by show H.B≤_; rw [hB]; exact Nat.le_refl _,fun b o e=>⟨by show b < H.B; rw [hB]; exact qal (hgl b o e),hgl b o e⟩,by simp [hob],fun id b cs e=>by simp [hob] at e,fun i j b e=>by simp [hob] at e,by simp [htk],fun t T e=>by simp [htk] at e,fun t u T U e=>by simp [htk] at e,rfl,fun id b T cs e=>by simp [hob] at e⟩,?_,Marks.nil (Nat.le_refl _)⟩
   have hl:=hrel.len
   have e:(vs.toArray++Array.replicate (fn.ntmps - vs.toArray.size) undef).toList=vs++List.replicate (fn.ntmps - args.length) undef:=by simp [hl]
   rw [e]
   refine (hrel.mono (Mono.setK' H w _)).app ?_
   have:=RelL.tops (H:={ H with K:=w.heap.size }) (w:=w) (List.replicate (fn.ntmps - args.length) undef)
   simpa using this
  have fin:∀ (fr:List PV) (σ:Store) (a:Act) (w':World) (xs:List PV),St gl { H with K:=w.heap.size } w fr σ a w'→presults tb fr σ fn.results.toList=some xs→pout (xs.map (oview σ.objs))=x →
    LeavesInM (rnd none) 0 P fn a.tmps (fun e w'=>∃ v,e=.returned v∧(Below w.heap.size w w'∧Dr gl w w')∧Rel { H with aux:=fun _ _=>False } w' x v) a.defers .returning w':=by
   intro fr σ a w1 xs hst hxs hx
   obtain ⟨H',hev1,hok1,hfr1,_,Ds,hds,hnd,hD⟩:=hst
   rw [hds]
   refine qgi (gl:=gl) (H:={ H with K:=w.heap.size }) (H':=H') (w0:=w) (σ:=σ) (by show H.B≤_; rw [hB]; exact Nat.le_refl _) hev1.B Ds w1 hev1 hok1 (Ev.refl (gl:=gl) H' w1).mono hnd (fun D hDs=>by have h1:=hD D hDs; rw [hev1.K] at h1; exact h1) ?_
   intro w' hev hok hmo
   have hfr:=hfr1.mono hmo
   obtain ⟨vs',hvs,hrs⟩:=qhA hT hok hfr _ _ hxs
   have hbel:Below w.heap.size w w':=⟨hev.os,hev.tape,hev.output,hev.size,fun b hlt=>hev.block b (by show b < H.B; rw [hB]; exact hlt)⟩
   have hrun:(results fn a.tmps).run P w'=.ok (if h:vs'.toArray.size=1 then vs'.toArray[0] else .tuple vs'.toArray) w':=by
    rw [qnn]
    simp only [Sem.run_bind,hvs,Result.andThen_ok,Sem.run_pure]
   have back:∀ {y:PV} {u:Value},Rel { { H with K:=w.heap.size } with aux:=fun _ _=>False } w' y u→Rel { H with aux:=fun _ _=>False } w' y u:=fun h=>Rel.mono (Mono.setK { H with aux:=fun _ _=>False } w' w.heap.size) h
   have backL:∀ {y:List PV} {u:List Value},RelL { { H with K:=w.heap.size } with aux:=fun _ _=>False } w' y u→RelL { H with aux:=fun _ _=>False } w' y u:=fun h=>RelL.mono (Mono.setK { H with aux:=fun _ _=>False } w' w.heap.size) h
   refine ⟨_,hrun,_,rfl,⟨hbel,hev.dr⟩,?_⟩
   subst hx
   have hl:=hrs.len
   cases hrs with
   | nil =>
    simp only [List.map_nil,pout,qf7]
    exact .tup [] [] .nil
   | cons y v ys us hy hys =>
    cases hys with
    | nil=>exact back (qqD hev hok hob htk hy)
    | cons y2 v2 ys us hy2 hys =>
     have h1:¬ ((v :: v2 :: us).toArray.size=1):=by simp
     rw [dif_neg h1]
     exact .tup _ _ (backL (qnE hev hok hob htk (.cons _ _ _ _ hy (.cons _ _ _ _ hy2 hys))))
  refine hdo none 0 _ w (RIn.none _) _ _ _ hst fun e fr1 σ1 ho a' w' hst'=>?_
  obtain ⟨he,xs,hxs,hpo⟩:=hO e fr1 σ1 ho
  rcases he with rfl | rfl
  ·exact fin fr1 σ1 a' w' xs hst' hxs hpo
  ·exact fin fr1 σ1 a' w' xs hst' hxs hpo
theorem qsp {L:Lps} {fn:Func} {c:Code} (hb:fn.body=some c) {args:List PV} {x:PV} (h:pcall tb Γ L fn args=some x):∃ e fr σ,pexec tb Γ L c (args++List.replicate (fn.ntmps - args.length) .top) ⟨[],[],[]⟩=some (e,fr,σ)∧(e=.normal∨e=.ret)∧∃ xs,presults tb fr σ fn.results.toList=some xs∧pout (xs.map (oview σ.objs))=x:=by
 simp only [pcall,hb] at h
 split at h
 ·rename_i fr σ he
  obtain ⟨xs,hxs,hpo⟩:=qbp h
  exact ⟨.normal,fr,σ,he,.inl rfl,xs,hxs,hpo⟩
 ·rename_i fr σ he
  obtain ⟨xs,hxs,hpo⟩:=qbp h
  exact ⟨.ret,fr,σ,he,.inr rfl,xs,hxs,hpo⟩
 ·cases h
theorem SimP.of_swap {G : GamT} (hT : qbR P tb) (hΓ : qaH P gl (gam G)) (hm : P.follows .mixedOrders = true) (id i : Nat) {f : FuncId} {fn : Func} {c : Code} (hf : P.funcs[f]? = some fn) (hb : fn.body = some c) (hn : (fn.name == "runtime.NumGoroutine") = false)
  (hp:qsB id i c=true) (hdA:qbB (gam G) (qiu id i false c)=true) (hdB:qbB (gam G) (qiu id i true c)=true) {L:LpsT} (hL:qcc P gl (lps L) c) {F:List PV→Tr PV}
  (h:∀ args x,(F args).run=some x→(tcall tb G L (qCm id i false fn) args).flat.run=some x∧(tcall tb G L (qCm id i true fn) args).flat.run=some x):SimP P gl f fun args=>(F args).run:=by
 refine SimP.of_doesO hT hf hb hn fun args x hx _=>?_
 obtain ⟨hA,hB⟩:=h args x hx
 have bd:∀ b,(qCm id i b fn).body=some (qiu id i b c):=fun b=>by simp [qCm,hb]
 obtain ⟨eA,frA,σA,pA,qA⟩:=qsp (bd false) (qqf (Tr.flat_run hA))
 obtain ⟨eB,frB,σB,pB,qB⟩:=qsp (bd true) (qqf (Tr.flat_run hB))
 refine ⟨fun e fr σ=>(e=.normal∨e=.ret)∧∃ xs,presults tb fr σ fn.results.toList=some xs∧pout (xs.map (oview σ.objs))=x,?_,fun _ _ _ h=>h⟩
 exact qne hT hΓ hm c _ _ eA frA σA eB frB σB hp hL hdA hdB pA pB qA qB
end
end Go.Pv
set_option maxHeartbeats 4000000
set_option maxRecDepth 200000
set_option linter.unusedSimpArgs false
set_option linter.unusedVariables false
namespace Go.Pv
open Go Go.Proofs
noncomputable def qtu:GamT:=ofL [(18,.pure qmP),(20,.pure qwZ),(26,.pure qvD),(30,.pure qHn)]
theorem qEi (gl:Gl) (hg:GlLex gl):qaH Tryz.prog gl (gam qtu):=(qac (qlR gl hg) (qac (qu0 gl hg) (qac (qvH gl hg) (qac (qGA gl hg) qag))))
noncomputable def qw8:LpsT:=fun r fr σ=>.fail
noncomputable def qo2:Tr PV:=.ite (qea [112] [[.int .i64 1,.str [88],.int .i64 0,.int .i64 0,.str []]] [[.int .i64 2,.str [113],.sl [[.int .i64 1,.str [88],.int .i64 0,.int .i64 0,.str []],[.int .i64 3,.str [],.int .i64 0,.int .i64 0,.str []]] .non,.int .i64 0,.int .i64 0,.str [],.int .i64 0,.int .i64 0,.str [],.int .i64 0,.str [],.int .i64 0,.int .i64 0,.str []],[.int .i64 3,.str [],.sl [] .non,.int .i64 2,.int .i64 1,.str [88],.int .i64 0,.int .i64 0,.str [],.int .i64 2,.str [],.int .i64 1,.int .i64 (-3),.str []]]) (.ite (qip [103,111] [[.str [88],.int .i64 1]] [[.bool true,.str [112],.sl [[.int .i64 1,.str [88],.int .i64 0,.int .i64 0,.str []]] .non]]) (.ite (iEq (qgz [112] [[.int .i64 1,.str [88],.int .i64 0,.int .i64 0,.str []]] [[.int .i64 2,.str [113],.sl [[.int .i64 1,.str [88],.int .i64 0,.int .i64 0,.str []],[.int .i64 3,.str [],.int .i64 0,.int .i64 0,.str []]] .non,.int .i64 0,.int .i64 0,.str [],.int .i64 0,.int .i64 0,.str [],.int .i64 0,.str [],.int .i64 0,.int .i64 0,.str []],[.int .i64 3,.str [],.sl [] .non,.int .i64 2,.int .i64 1,.str [88],.int .i64 0,.int .i64 0,.str [],.int .i64 2,.str [],.int .i64 1,.int .i64 (-3),.str []]]) 0) (.ite (sEq (qgA [112] [[.int .i64 1,.str [88],.int .i64 0,.int .i64 0,.str []]] [[.int .i64 2,.str [113],.sl [[.int .i64 1,.str [88],.int .i64 0,.int .i64 0,.str []],[.int .i64 3,.str [],.int .i64 0,.int .i64 0,.str []]] .non,.int .i64 0,.int .i64 0,.str [],.int .i64 0,.int .i64 0,.str [],.int .i64 0,.str [],.int .i64 0,.int .i64 0,.str []],[.int .i64 3,.str [],.sl [] .non,.int .i64 2,.int .i64 1,.str [88],.int .i64 0,.int .i64 0,.str [],.int .i64 2,.str [],.int .i64 1,.int .i64 (-3),.str []]]) [112,40,88,41,32,58,45,32,110,111,116,32,113,40,88,44,32,95,41,44,32,88,32,33,61,32,45,51,46]) (.ite (iEq (qse [103,111] [[.str [88],.int .i64 1]] [[.bool true,.str [112],.sl [[.int .i64 1,.str [88],.int .i64 0,.int .i64 0,.str []]] .non]]) 0) (.ite (sEq
 (qsf [103,111] [[.str [88],.int .i64 1]] [[.bool true,.str [112],.sl [[.int .i64 1,.str [88],.int .i64 0,.int .i64 0,.str []]] .non]]) [111,110,32,103,111,40,88,32,105,110,116,41,58,32,43,112,40,88,41,46]) (.ite (qcT [110,111,116]) (.ite (bNot (qeZ [110,111,116])) (.ite (qgg [65,98]) (.ret (.bool (qmw [65,98]))) .fail) (.ret (.bool false))) .fail) (.ret (.bool false))) (.ret (.bool false))) (.ret (.bool false))) (.ret (.bool false))) .fail) .fail
theorem qKl:(tcall tbT qtu qw8 (qCm 2 7 false Tryz.f22) []).flat=qo2:=by kernel_rfl
theorem qHX:(tcall tbT qtu qw8 (qCm 2 7 true Tryz.f22) []).flat=qo2:=by kernel_rfl
noncomputable def qt1:Option PV:=(qo2).run
noncomputable def qnh:Bool:=(qb0 (gVal (qt1)))
noncomputable def qlW:Bool:=isW (qt1) (.bool (qnh))
noncomputable def qw9:List PV→Tr PV | []=>.ite (qlW) (.ret (.bool (qnh))) (.fail) | _=>.fail
theorem qGq (gl:Gl) (hg:GlLex gl):SimP Tryz.prog gl 22 fun args=>(qw9 args).run:=by
 refine SimP.of_swap (G:=qtu) (L:=qw8) qaj (qEi gl hg ) qah 2 7 Tryz.func22 rfl (by rfl) (by kernel_rfl) (by kernel_rfl) (by kernel_rfl) (qae (by kernel_rfl)) ?_
 intro args x h
 unfold qw9 at h
 split at h
 ·have h:=(qai h fun h=>by cases h)
  exact ⟨(congrArg Tr.run (qKl)).trans h,(congrArg Tr.run (qHX)).trans h⟩
 ·cases h
noncomputable def qu2:GamT:=ofL [(22,.pure qw9),(23,.pure qzl),(24,.pure qyB),(25,.pure qKA),(26,.pure qvD),(27,.pure qzr),(28,.pure qxB),(29,.pure qxH),(30,.pure qHn),(31,.pure qJI)]
theorem qCu (gl:Gl) (hg:GlLex gl):qaH Tryz.prog gl (gam qu2):=(qac (qGq gl hg) (qac (qGh gl) (qac (qC8 gl) (qac (qLT gl) (qac (qvH gl hg) (qac (qCN gl) (qac (qFS gl hg) (qac (qGP gl) (qac (qGA gl hg) (qac (qK8 gl) qag))))))))))
noncomputable def qAg:LpsT:=fun r fr σ=>.fail
noncomputable def qqo (v:List UInt8) (v2:List (List PV)) (v3:List (List PV)) (v4:List UInt8) (v5:Bool) (v6:List (List PV)) (v7:List UInt8) (v8:List (List PV)) (v9:List (List PV)):Tr PV:=.ite (qft v (qaa v2) (qaa v3)) (.ite (qfR v4 v5 (qaa v6)) (.ite (qkG v7 (qaa v8) (qaa v9)) (.ite (qea (qez v (qaa v2) (qaa v3)) (qaa (qeJ v (qaa v2) (qaa v3))) (qaa (qdh v (qaa v2) (qaa v3)))) (.ite (qg6 (qez v (qaa v2) (qaa v3)) (qaa (qeJ v (qaa v2) (qaa v3))) (qaa (qdh v (qaa v2) (qaa v3)))) (.ite (qgN (qee v4 v5 (qaa v6)) (qev v4 v5 (qaa v6)) (qaa (qeu v4 v5 (qaa v6)))) (.ite (qgG (qee v4 v5 (qaa v6)) (qev v4 v5 (qaa v6)) (qaa (qeu v4 v5 (qaa v6)))) (.ite (qip (qmU v7 (qaa v8) (qaa v9)) (qaa (qnx v7 (qaa v8) (qaa v9))) (qaa (qgK v7 (qaa v8) (qaa v9)))) (.ite (qnd (qmU v7 (qaa v8) (qaa v9)) (qaa (qnx v7 (qaa v8) (qaa v9))) (qaa (qgK v7 (qaa v8) (qaa v9)))) (.ite (sEq (qgA (qez v (qaa v2) (qaa v3)) (qaa (qeJ v (qaa v2) (qaa v3))) (qaa (qdh v (qaa v2) (qaa v3)))) (qkI (qez v (qaa v2) (qaa v3)) (qaa (qeJ v (qaa v2) (qaa v3))) (qaa (qdh v (qaa v2) (qaa v3))))) (.ite (iEq (qgz (qez v (qaa v2) (qaa v3)) (qaa (qeJ v (qaa v2) (qaa v3))) (qaa (qdh v (qaa v2) (qaa v3)))) (qkQ (qez v (qaa v2) (qaa v3)) (qaa (qeJ v (qaa v2) (qaa v3))) (qaa (qdh v (qaa v2) (qaa v3))))) (.ite (sEq (qlf (qee v4 v5 (qaa v6)) (qev v4 v5 (qaa v6)) (qaa (qeu v4 v5 (qaa v6)))) (qkT (qee v4 v5 (qaa v6)) (qev v4 v5 (qaa v6)) (qaa (qeu v4 v5 (qaa v6))))) (.ite
 (iEq (qli (qee v4 v5 (qaa v6)) (qev v4 v5 (qaa v6)) (qaa (qeu v4 v5 (qaa v6)))) (qkX (qee v4 v5 (qaa v6)) (qev v4 v5 (qaa v6)) (qaa (qeu v4 v5 (qaa v6))))) (.ite (sEq (qsf (qmU v7 (qaa v8) (qaa v9)) (qaa (qnx v7 (qaa v8) (qaa v9))) (qaa (qgK v7 (qaa v8) (qaa v9)))) (qye (qmU v7 (qaa v8) (qaa v9)) (qaa (qnx v7 (qaa v8) (qaa v9))) (qaa (qgK v7 (qaa v8) (qaa v9))))) (.ite (iEq (qse (qmU v7 (qaa v8) (qaa v9)) (qaa (qnx v7 (qaa v8) (qaa v9))) (qaa (qgK v7 (qaa v8) (qaa v9)))) (qyi (qmU v7 (qaa v8) (qaa v9)) (qaa (qnx v7 (qaa v8) (qaa v9))) (qaa (qgK v7 (qaa v8) (qaa v9))))) (.ite qlW (.ret (.bool qnh)) .fail) (.ret (.bool false))) (.ret (.bool false))) (.ret (.bool false))) (.ret (.bool false))) (.ret (.bool false))) (.ret (.bool false))) .fail) .fail) .fail) .fail) .fail) .fail) .fail) .fail) .fail
theorem qHs (v:List UInt8) (v2:List (List PV)) (v3:List (List PV)) (v4:List UInt8) (v5:Bool) (v6:List (List PV)) (v7:List UInt8) (v8:List (List PV)) (v9:List (List PV)):(tcall tbT qu2 qAg Tryz.f4 [.agg [.str v,.sl v2 .non,.sl v3 .non],.agg [.str v4,.bool v5,.sl v6 .non],.agg [.str v7,.sl v8 .non,.sl v9 .non]]).flat=qqo v v2 v3 v4 v5 v6 v7 v8 v9:=by kernel_rfl
noncomputable def qof (v:List UInt8) (v2:List (List PV)) (v3:List (List PV)) (v4:List UInt8) (v5:Bool) (v6:List (List PV)) (v7:List UInt8) (v8:List (List PV)) (v9:List (List PV)):Option PV:=(qqo v v2 v3 v4 v5 v6 v7 v8 v9).run
noncomputable def qpc (v:List UInt8) (v2:List (List PV)) (v3:List (List PV)) (v4:List UInt8) (v5:Bool) (v6:List (List PV)) (v7:List UInt8) (v8:List (List PV)) (v9:List (List PV)):Bool:=(qb0 (gVal (qof v v2 v3 v4 v5 v6 v7 v8 v9)))
noncomputable def qmG (v:List UInt8) (v2:List (List PV)) (v3:List (List PV)) (v4:List UInt8) (v5:Bool) (v6:List (List PV)) (v7:List UInt8) (v8:List (List PV)) (v9:List (List PV)):Bool:=isW (qof v v2 v3 v4 v5 v6 v7 v8 v9) (.bool (qpc v v2 v3 v4 v5 v6 v7 v8 v9))
noncomputable def qmu:List PV→Tr PV | [.agg [.str v,.sl v2 .non,.sl v3 .non],.agg [.str v4,.bool v5,.sl v6 .non],.agg [.str v7,.sl v8 .non,.sl v9 .non]]=>.ite (qmG v v2 v3 v4 v5 v6 v7 v8 v9) (.ret (.bool (qpc v v2 v3 v4 v5 v6 v7 v8 v9))) (.fail) | _=>.fail
theorem qBH (gl:Gl) (hg:GlLex gl):SimP Tryz.prog gl 4 fun args=>(qmu args).run:=by
 refine SimP.of_flat (G:=qu2) (L:=qAg) qaj (qCu gl hg ) qah  Tryz.func4 rfl (by rfl) (by kernel_rfl) (qae (by kernel_rfl)) ?_
 intro args x h
 unfold qmu at h
 split at h
 ·exact (congrArg Tr.run (qHs _ _ _ _ _ _ _ _ _)).trans (qai h fun h=>by cases h)
 ·cases h
end Go.Pv
set_option maxHeartbeats 8000000
set_option maxRecDepth 200000
set_option linter.unusedSimpArgs false
set_option linter.unusedVariables false
namespace Go.Pv
open Go Go.Proofs Go.RowKit
def cutT (s:Txt):Txt:=s.take 300
def cpTm (t:Tm):Tm:=(t.1,cutT t.2.1,t.2.2.1,t.2.2.2.1,cutT t.2.2.2.2)
def cpAt (a:At):At:=(cutT a.1,(a.2.take 12).map cpTm)
def cpLi (l:Li):Li:=(l.1,cpAt l.2.1,l.2.2.1,cpTm l.2.2.2.1,cpTm l.2.2.2.2)
def cpRu (r:Ru):Ru:=(cpAt r.1,(r.2.take 8).map cpLi)
def cpDe (d:De):De:=(cutT d.1,d.2.1,d.2.2.take 12)
def cpPa (p:Pa):Pa:=(cutT p.1,p.2)
def cpAc (a:Ac):Ac:=(a.1,cpAt a.2)
def cpEn (o:En):En:=(cutT o.1,(o.2.1.take 12).map cpPa,(o.2.2.take 8).map cpAc)
theorem qJt (s:Txt):tx_W s=some (.str (cutT s)):=by
 unfold tx_W qLd cutT
 by_cases h:(300:Int) < s.length
 ·have h2:300≤s.length:=by omega
  have h3:(300:Int)≤s.length:=by omega
  simp [h,h2,h3]
 ·have:s.take 300=s:=List.take_of_length_le (by omega)
  simp [h,this]
@[simp] theorem qMA (s:Txt):qlI s=true:=by simp [qlI,tx_s,qJt]
@[simp] theorem tx_v (s:Txt):tx_s s=cutT s:=by simp [tx_s,qJt]
theorem qg4 (k:Int) (b:Txt) (c n:Int) (s:Txt):qiw k b c n s=some (.agg [.int .i64 k,.str (cutT b),.int .i64 c,.int .i64 n,.str (cutT s)]):=by
 unfold qiw qtJ
 simp
@[simp] theorem tterm_is (k:Int) (b:Txt) (c n:Int) (s:Txt):qc8 k b c n s=true:=by simp only [qc8,qdw,qcn,qct,qdy,qco,qg4]; simp
@[simp] theorem tterm_v0 (k:Int) (b:Txt) (c n:Int) (s:Txt):qdw k b c n s=k:=by simp only [qc8,qdw,qcn,qct,qdy,qco,qg4]; simp
@[simp] theorem tterm_v1 (k:Int) (b:Txt) (c n:Int) (s:Txt):qdy k b c n s=cutT b:=by simp only [qc8,qdw,qcn,qct,qdy,qco,qg4]; simp
@[simp] theorem tterm_v2 (k:Int) (b:Txt) (c n:Int) (s:Txt):qcn k b c n s=c:=by simp only [qc8,qdw,qcn,qct,qdy,qco,qg4]; simp
@[simp] theorem tterm_v3 (k:Int) (b:Txt) (c n:Int) (s:Txt):qct k b c n s=n:=by simp only [qc8,qdw,qcn,qct,qdy,qco,qg4]; simp
@[simp] theorem tterm_v4 (k:Int) (b:Txt) (c n:Int) (s:Txt):qco k b c n s=cutT s:=by simp only [qc8,qdw,qcn,qct,qdy,qco,qg4]; simp
theorem qAO {n m:Nat}:min n m≤n:=Nat.min_le_left _ _
theorem qpi {α:Type} (l:List α) (m:Nat):l.take (min l.length m)=l.take m:=by
 by_cases h:l.length≤m
 ·rw [Nat.min_eq_left h,List.take_length,List.take_of_length_le h]
 ·rw [Nat.min_eq_right (by omega)]
theorem qyv (s s2 s3:Txt) (r2:List (List PV)) (l:List Tm):qeR [.ptr 0 0,.ptr 1 0,.ptr 2 0,.int .i64 0] ⟨[[.str s,.sl (rOf cM l) .non],[.str s2,.sl r2 .full],[.str s3,.sl [] (.tok 0)]],[(0,5,27)],[31,31,31]⟩=some (.exit 0,[.ptr 1 0,.ptr 2 0],⟨[[.str s,.sl (rOf cM l) .non],[.str s2,.sl r2 .full],[.str s3,.sl (rOf cM ((l.take 12).map cpTm)) (.tok 0)]],[((min l.length 12),5,27)],[31,31,31]⟩):=by
 have hl:=qop (l:=l) (min l.length 12) qAO (V:=fun i b=>qeR [.ptr 0 0,.ptr 1 0,.ptr 2 0,.int .i64 (i:Nat)] ⟨[[.str s,.sl (rOf cM l) .non],[.str s2,.sl r2 .full],[.str s3,.sl (rOf cM b) (.tok 0)]],[(b.length,5,27)],[31,31,31]⟩) cpTm (fun b=>some (.exit 0,[.ptr 1 0,.ptr 2 0],⟨[[.str s,.sl (rOf cM l) .non],[.str s2,.sl r2 .full],[.str s3,.sl (rOf cM b) (.tok 0)]],[(b.length,5,27)],[31,31,31]⟩)) ?_ ?_
 ·rw [qpi] at hl
  rw [show min l.length 12=((l.take 12).map cpTm).length by rw [List.length_map,List.length_take]; omega]
  exact hl
 ·intro i b a hb hi hn ha
  have q1:iLt (i:Int) (xLen (rOf cM l))=true:=by simp; omega
  have q2:iLt (i:Int) 12=true:=by simp; omega
  have q3:qak (i:Int)=true:=by simp
  have q4:qbs [PV.int .i64 0,.str [],.int .i64 0,.int .i64 0,.str []] (rOf cM l) (nNat (i:Int))=true:=by simp; omega
  have w:=qbj (i:=i) (by omega)
  have o1:∀ c,qaz (rOf cM b) [c] 56=true:=fun c=>by simp; omega
  have o3:qao (rOf cM b) 5=true:=qFR _
  have o4:nEq b.length (nXs (rOf cM b))=true:=by simp
  have x0:xInt (rOf cM l) (nNat (i:Int)) 0=a.1:=by simp [hi,ha]
  have x1:xStr (rOf cM l) (nNat (i:Int)) 1=a.2.1:=by simp [hi,ha]
  have x2:xInt (rOf cM l) (nNat (i:Int)) 2=a.2.2.1:=by simp [hi,ha]
  have x3:xInt (rOf cM l) (nNat (i:Int)) 3=a.2.2.2.1:=by simp [hi,ha]
  have x4:xStr (rOf cM l) (nNat (i:Int)) 4=a.2.2.2.2:=by simp [hi,ha]
  show qeR [.ptr 0 0,.ptr 1 0,.ptr 2 0,.int .i64 (i:Nat)] ⟨[[.str s,.sl (rOf cM l) .non],[.str s2,.sl r2 .full],[.str s3,.sl (rOf cM b) (.tok 0)]],[(b.length,5,27)],[31,31,31]⟩=qeR [.ptr 0 0,.ptr 1 0,.ptr 2 0,.int .i64 ((i+1:Nat):Int)] ⟨[[.str s,.sl (rOf cM l) .non],[.str s2,.sl r2 .full],[.str s3,.sl (rOf cM (b++[cpTm a])) (.tok 0)]],[((b++[cpTm a]).length,5,27)],[31,31,31]⟩
  rw [qA0]
  simp only [qiG,q1,q2,q3,q4,o1,o3,o4,w,x0,x1,x2,x3,x4,qqj,qap]
  simp [one,qLE,cpTm]
 ·intro b hb
  have q:iLt ((min l.length 12:Nat):Int) (xLen (rOf cM l))=false∨iLt ((min l.length 12:Nat):Int) 12=false:=by
   by_cases h:l.length≤12
   ·left; simp; omega
   ·right; simp; omega
  show qeR [.ptr 0 0,.ptr 1 0,.ptr 2 0,.int .i64 ((min l.length 12:Nat):Int)] ⟨[[.str s,.sl (rOf cM l) .non],[.str s2,.sl r2 .full],[.str s3,.sl (rOf cM b) (.tok 0)]],[(b.length,5,27)],[31,31,31]⟩=_
  rw [qA0]
  rcases q with q | q
  ·simp only [qiG,q]
   simp
  ·cases q2:iLt ((min l.length 12:Nat):Int) (xLen (rOf cM l)) <;> (simp only [qiG,q,q2]; simp)
theorem qrI (a:At):qrs a.1 (rOf cM a.2)=some (.agg [.str (cpAt a).1,.sl (rOf cM (cpAt a).2) .non]):=by
 have h:=qyv a.1 [] (cutT a.1) [] a.2
 have h':qfa 0 a.1 (rOf cM a.2) [] [] (cutT a.1) [] 0=_:=h
 unfold qrs qvf
 simp only [qMA,tx_v,qnB,qtY,qum,qqe,qmr,quP,qr2,qml,h']
 simp [cpAt]
@[simp] theorem qIL (a:Txt) (l:List Tm):qeY a (rOf cM l)=true:=by simp only [qeY,qdE,qdG,qrI (a,l)]; simp
@[simp] theorem qGV (a:Txt) (l:List Tm):qdG a (rOf cM l)=cutT a:=by simp only [qeY,qdE,qdG,qrI (a,l)]; simp [cpAt]
@[simp] theorem qHy (a:Txt) (l:List Tm):qdE a (rOf cM l)=rOf cM ((l.take 12).map cpTm):=by simp only [qeY,qdE,qdG,qrI (a,l)]; simp [cpAt]
theorem qbr (l:Li):qbC l.1 l.2.1.1 (rOf cM l.2.1.2) l.2.2.1 l.2.2.2.1.1 l.2.2.2.1.2.1 l.2.2.2.1.2.2.1 l.2.2.2.1.2.2.2.1 l.2.2.2.1.2.2.2.2 l.2.2.2.2.1 l.2.2.2.2.2.1 l.2.2.2.2.2.2.1 l.2.2.2.2.2.2.2.1 l.2.2.2.2.2.2.2.2=some (.agg [.int .i64 (cpLi l).1,.str (cpLi l).2.1.1,.sl (rOf cM (cpLi l).2.1.2) .non,.int .i64 (cpLi l).2.2.1,.int .i64 (cpLi l).2.2.2.1.1,.str (cpLi l).2.2.2.1.2.1,.int .i64 (cpLi l).2.2.2.1.2.2.1,.int .i64 (cpLi l).2.2.2.1.2.2.2.1,.str (cpLi l).2.2.2.1.2.2.2.2,.int .i64 (cpLi l).2.2.2.2.1,.str (cpLi l).2.2.2.2.2.1,.int .i64 (cpLi l).2.2.2.2.2.2.1,.int .i64 (cpLi l).2.2.2.2.2.2.2.1,.str (cpLi l).2.2.2.2.2.2.2.2]):=by
 unfold qbC qlj
 simp [cpLi,cpAt,cpTm]
@[simp] theorem tliteral_is (a0:Int) (a1:Txt) (a2:List Tm) (a3 a4:Int) (a5:Txt) (a6 a7:Int) (a8:Txt) (a9:Int) (a10:Txt) (a11 a12:Int) (a13:Txt):qa5 a0 a1 (rOf cM a2) a3 a4 a5 a6 a7 a8 a9 a10 a11 a12 a13=true:=by simp only [qa5,qbg,qaU,qaT,qaO,qaR,qaM,qaS,qaP,qbd,qbe,qaN,qaV,qaQ,qaL,qbr (a0,(a1,a2),a3,(a4,a5,a6,a7,a8),(a9,a10,a11,a12,a13))]; simp
@[simp] theorem tliteral_v0 (a0:Int) (a1:Txt) (a2:List Tm) (a3 a4:Int) (a5:Txt) (a6 a7:Int) (a8:Txt) (a9:Int) (a10:Txt) (a11 a12:Int) (a13:Txt):qbg a0 a1 (rOf cM a2) a3 a4 a5 a6 a7 a8 a9 a10 a11 a12 a13=(cpLi (a0,(a1,a2),a3,(a4,a5,a6,a7,a8),(a9,a10,a11,a12,a13))).1:=by simp only [qa5,qbg,qaU,qaT,qaO,qaR,qaM,qaS,qaP,qbd,qbe,qaN,qaV,qaQ,qaL,qbr (a0,(a1,a2),a3,(a4,a5,a6,a7,a8),(a9,a10,a11,a12,a13))]; simp
@[simp] theorem tliteral_v1 (a0:Int) (a1:Txt) (a2:List Tm) (a3 a4:Int) (a5:Txt) (a6 a7:Int) (a8:Txt) (a9:Int) (a10:Txt) (a11 a12:Int) (a13:Txt):qbe a0 a1 (rOf cM a2) a3 a4 a5 a6 a7 a8 a9 a10 a11 a12 a13=(cpLi (a0,(a1,a2),a3,(a4,a5,a6,a7,a8),(a9,a10,a11,a12,a13))).2.1.1:=by simp only [qa5,qbg,qaU,qaT,qaO,qaR,qaM,qaS,qaP,qbd,qbe,qaN,qaV,qaQ,qaL,qbr (a0,(a1,a2),a3,(a4,a5,a6,a7,a8),(a9,a10,a11,a12,a13))]; simp
@[simp] theorem tliteral_v2 (a0:Int) (a1:Txt) (a2:List Tm) (a3 a4:Int) (a5:Txt) (a6 a7:Int) (a8:Txt) (a9:Int) (a10:Txt) (a11 a12:Int) (a13:Txt):qbd a0 a1 (rOf cM a2) a3 a4 a5 a6 a7 a8 a9 a10 a11 a12 a13=rOf cM (cpLi (a0,(a1,a2),a3,(a4,a5,a6,a7,a8),(a9,a10,a11,a12,a13))).2.1.2:=by simp only [qa5,qbg,qaU,qaT,qaO,qaR,qaM,qaS,qaP,qbd,qbe,qaN,qaV,qaQ,qaL,qbr (a0,(a1,a2),a3,(a4,a5,a6,a7,a8),(a9,a10,a11,a12,a13))]; simp
@[simp] theorem tliteral_v3 (a0:Int) (a1:Txt) (a2:List Tm) (a3 a4:Int) (a5:Txt) (a6 a7:Int) (a8:Txt) (a9:Int) (a10:Txt) (a11 a12:Int) (a13:Txt):qaU a0 a1 (rOf cM a2) a3 a4 a5 a6 a7 a8 a9 a10 a11 a12 a13=(cpLi (a0,(a1,a2),a3,(a4,a5,a6,a7,a8),(a9,a10,a11,a12,a13))).2.2.1:=by simp only [qa5,qbg,qaU,qaT,qaO,qaR,qaM,qaS,qaP,qbd,qbe,qaN,qaV,qaQ,qaL,qbr (a0,(a1,a2),a3,(a4,a5,a6,a7,a8),(a9,a10,a11,a12,a13))]; simp
@[simp] theorem tliteral_v4 (a0:Int) (a1:Txt) (a2:List Tm) (a3 a4:Int) (a5:Txt) (a6 a7:Int) (a8:Txt) (a9:Int) (a10:Txt) (a11 a12:Int) (a13:Txt):qaT a0 a1 (rOf cM a2) a3 a4 a5 a6 a7 a8 a9 a10 a11 a12 a13=(cpLi (a0,(a1,a2),a3,(a4,a5,a6,a7,a8),(a9,a10,a11,a12,a13))).2.2.2.1.1:=by simp only [qa5,qbg,qaU,qaT,qaO,qaR,qaM,qaS,qaP,qbd,qbe,qaN,qaV,qaQ,qaL,qbr (a0,(a1,a2),a3,(a4,a5,a6,a7,a8),(a9,a10,a11,a12,a13))]; simp
@[simp] theorem tliteral_v5 (a0:Int) (a1:Txt) (a2:List Tm) (a3 a4:Int) (a5:Txt) (a6 a7:Int) (a8:Txt) (a9:Int) (a10:Txt) (a11 a12:Int) (a13:Txt):qaN a0 a1 (rOf cM a2) a3 a4 a5 a6 a7 a8 a9 a10 a11 a12 a13=(cpLi (a0,(a1,a2),a3,(a4,a5,a6,a7,a8),(a9,a10,a11,a12,a13))).2.2.2.1.2.1:=by simp only [qa5,qbg,qaU,qaT,qaO,qaR,qaM,qaS,qaP,qbd,qbe,qaN,qaV,qaQ,qaL,qbr (a0,(a1,a2),a3,(a4,a5,a6,a7,a8),(a9,a10,a11,a12,a13))]; simp
@[simp] theorem tliteral_v6 (a0:Int) (a1:Txt) (a2:List Tm) (a3 a4:Int) (a5:Txt) (a6 a7:Int) (a8:Txt) (a9:Int) (a10:Txt) (a11 a12:Int) (a13:Txt):qaO a0 a1 (rOf cM a2) a3 a4 a5 a6 a7 a8 a9 a10 a11 a12 a13=(cpLi (a0,(a1,a2),a3,(a4,a5,a6,a7,a8),(a9,a10,a11,a12,a13))).2.2.2.1.2.2.1:=by simp only [qa5,qbg,qaU,qaT,qaO,qaR,qaM,qaS,qaP,qbd,qbe,qaN,qaV,qaQ,qaL,qbr (a0,(a1,a2),a3,(a4,a5,a6,a7,a8),(a9,a10,a11,a12,a13))]; simp
@[simp] theorem tliteral_v7 (a0:Int) (a1:Txt) (a2:List Tm) (a3 a4:Int) (a5:Txt) (a6 a7:Int) (a8:Txt) (a9:Int) (a10:Txt) (a11 a12:Int) (a13:Txt):qaR a0 a1 (rOf cM a2) a3 a4 a5 a6 a7 a8 a9 a10 a11 a12 a13=(cpLi (a0,(a1,a2),a3,(a4,a5,a6,a7,a8),(a9,a10,a11,a12,a13))).2.2.2.1.2.2.2.1:=by simp only [qa5,qbg,qaU,qaT,qaO,qaR,qaM,qaS,qaP,qbd,qbe,qaN,qaV,qaQ,qaL,qbr (a0,(a1,a2),a3,(a4,a5,a6,a7,a8),(a9,a10,a11,a12,a13))]; simp
@[simp] theorem tliteral_v8 (a0:Int) (a1:Txt) (a2:List Tm) (a3 a4:Int) (a5:Txt) (a6 a7:Int) (a8:Txt) (a9:Int) (a10:Txt) (a11 a12:Int) (a13:Txt):qaV a0 a1 (rOf cM a2) a3 a4 a5 a6 a7 a8 a9 a10 a11 a12 a13=(cpLi (a0,(a1,a2),a3,(a4,a5,a6,a7,a8),(a9,a10,a11,a12,a13))).2.2.2.1.2.2.2.2:=by simp only [qa5,qbg,qaU,qaT,qaO,qaR,qaM,qaS,qaP,qbd,qbe,qaN,qaV,qaQ,qaL,qbr (a0,(a1,a2),a3,(a4,a5,a6,a7,a8),(a9,a10,a11,a12,a13))]; simp
@[simp] theorem tliteral_v9 (a0:Int) (a1:Txt) (a2:List Tm) (a3 a4:Int) (a5:Txt) (a6 a7:Int) (a8:Txt) (a9:Int) (a10:Txt) (a11 a12:Int) (a13:Txt):qaM a0 a1 (rOf cM a2) a3 a4 a5 a6 a7 a8 a9 a10 a11 a12 a13=(cpLi (a0,(a1,a2),a3,(a4,a5,a6,a7,a8),(a9,a10,a11,a12,a13))).2.2.2.2.1:=by simp only [qa5,qbg,qaU,qaT,qaO,qaR,qaM,qaS,qaP,qbd,qbe,qaN,qaV,qaQ,qaL,qbr (a0,(a1,a2),a3,(a4,a5,a6,a7,a8),(a9,a10,a11,a12,a13))]; simp
@[simp] theorem tliteral_v10 (a0:Int) (a1:Txt) (a2:List Tm) (a3 a4:Int) (a5:Txt) (a6 a7:Int) (a8:Txt) (a9:Int) (a10:Txt) (a11 a12:Int) (a13:Txt):qaQ a0 a1 (rOf cM a2) a3 a4 a5 a6 a7 a8 a9 a10 a11 a12 a13=(cpLi (a0,(a1,a2),a3,(a4,a5,a6,a7,a8),(a9,a10,a11,a12,a13))).2.2.2.2.2.1:=by simp only [qa5,qbg,qaU,qaT,qaO,qaR,qaM,qaS,qaP,qbd,qbe,qaN,qaV,qaQ,qaL,qbr (a0,(a1,a2),a3,(a4,a5,a6,a7,a8),(a9,a10,a11,a12,a13))]; simp
@[simp] theorem tliteral_v11 (a0:Int) (a1:Txt) (a2:List Tm) (a3 a4:Int) (a5:Txt) (a6 a7:Int) (a8:Txt) (a9:Int) (a10:Txt) (a11 a12:Int) (a13:Txt):qaS a0 a1 (rOf cM a2) a3 a4 a5 a6 a7 a8 a9 a10 a11 a12 a13=(cpLi (a0,(a1,a2),a3,(a4,a5,a6,a7,a8),(a9,a10,a11,a12,a13))).2.2.2.2.2.2.1:=by simp only [qa5,qbg,qaU,qaT,qaO,qaR,qaM,qaS,qaP,qbd,qbe,qaN,qaV,qaQ,qaL,qbr (a0,(a1,a2),a3,(a4,a5,a6,a7,a8),(a9,a10,a11,a12,a13))]; simp
@[simp] theorem tliteral_v12 (a0:Int) (a1:Txt) (a2:List Tm) (a3 a4:Int) (a5:Txt) (a6 a7:Int) (a8:Txt) (a9:Int) (a10:Txt) (a11 a12:Int) (a13:Txt):qaP a0 a1 (rOf cM a2) a3 a4 a5 a6 a7 a8 a9 a10 a11 a12 a13=(cpLi (a0,(a1,a2),a3,(a4,a5,a6,a7,a8),(a9,a10,a11,a12,a13))).2.2.2.2.2.2.2.1:=by simp only [qa5,qbg,qaU,qaT,qaO,qaR,qaM,qaS,qaP,qbd,qbe,qaN,qaV,qaQ,qaL,qbr (a0,(a1,a2),a3,(a4,a5,a6,a7,a8),(a9,a10,a11,a12,a13))]; simp
@[simp] theorem tliteral_v13 (a0:Int) (a1:Txt) (a2:List Tm) (a3 a4:Int) (a5:Txt) (a6 a7:Int) (a8:Txt) (a9:Int) (a10:Txt) (a11 a12:Int) (a13:Txt):qaL a0 a1 (rOf cM a2) a3 a4 a5 a6 a7 a8 a9 a10 a11 a12 a13=(cpLi (a0,(a1,a2),a3,(a4,a5,a6,a7,a8),(a9,a10,a11,a12,a13))).2.2.2.2.2.2.2.2:=by simp only [qa5,qbg,qaU,qaT,qaO,qaR,qaM,qaS,qaP,qbd,qbe,qaN,qaV,qaQ,qaL,qbr (a0,(a1,a2),a3,(a4,a5,a6,a7,a8),(a9,a10,a11,a12,a13))]; simp
theorem qzj (s s2 s3:Txt) (r r3 r4:List (List PV)) (r5:List (List PV)) (l:List Li):qeK [.ptr 0 0,.ptr 1 0,.ptr 2 0,.int .i64 0] ⟨[[.str s,.sl r .non,.sl (rOf cL l) .non],[.str s2,.sl r3 .full,.sl r4 .full],[.str s3,.sl r5 .non,.sl [] (.tok 0)]],[(0,14,34)],[48,48,48]⟩=some (.exit 0,[.ptr 1 0,.ptr 2 0],⟨[[.str s,.sl r .non,.sl (rOf cL l) .non],[.str s2,.sl r3 .full,.sl r4 .full],[.str s3,.sl r5 .non,.sl (rOf cL ((l.take 8).map cpLi)) (.tok 0)]],[((min l.length 8),14,34)],[48,48,48]⟩):=by
 have hl:=qop (l:=l) (min l.length 8) qAO (V:=fun i b=>qeK [.ptr 0 0,.ptr 1 0,.ptr 2 0,.int .i64 (i:Nat)] ⟨[[.str s,.sl r .non,.sl (rOf cL l) .non],[.str s2,.sl r3 .full,.sl r4 .full],[.str s3,.sl r5 .non,.sl (rOf cL b) (.tok 0)]],[(b.length,14,34)],[48,48,48]⟩) cpLi (fun b=>some (.exit 0,[.ptr 1 0,.ptr 2 0],⟨[[.str s,.sl r .non,.sl (rOf cL l) .non],[.str s2,.sl r3 .full,.sl r4 .full],[.str s3,.sl r5 .non,.sl (rOf cL b) (.tok 0)]],[(b.length,14,34)],[48,48,48]⟩)) ?_ ?_
 ·rw [qpi] at hl
  rw [show min l.length 8=((l.take 8).map cpLi).length by rw [List.length_map,List.length_take]; omega]
  exact hl
 ·intro i b a hb hi hn ha
  have q1:iLt (i:Int) (xLen (rOf cL l))=true:=by simp; omega
  have q2:iLt (i:Int) 8=true:=by simp; omega
  have q3:qak (i:Int)=true:=by simp
  have q4:qbs [PV.int .i64 0,.str [],.sl [] .full,.int .i64 0,.int .i64 0,.str [],.int .i64 0,.int .i64 0,.str [],.int .i64 0,.str [],.int .i64 0,.int .i64 0,.str []] (rOf cL l) (nNat (i:Int))=true:=by simp; omega
  have w:=qbj (i:=i) (by omega)
  have o1:∀ c,qaz (rOf cL b) [c] 168=true:=fun c=>by simp; omega
  have o3:qao (rOf cL b) 14=true:=qGO _
  have o4:nEq b.length (nXs (rOf cL b))=true:=by simp
  have x0:xInt (rOf cL l) (nNat (i:Int)) 0=a.1:=by simp [hi,ha]
  have x1:xStr (rOf cL l) (nNat (i:Int)) 1=a.2.1.1:=by simp [hi,ha]
  have x2:xRow (rOf cL l) (nNat (i:Int)) 2=rOf cM a.2.1.2:=by simp [hi,ha]
  have x3:xInt (rOf cL l) (nNat (i:Int)) 3=a.2.2.1:=by simp [hi,ha]
  have x4:xInt (rOf cL l) (nNat (i:Int)) 4=a.2.2.2.1.1:=by simp [hi,ha]
  have x5:xStr (rOf cL l) (nNat (i:Int)) 5=a.2.2.2.1.2.1:=by simp [hi,ha]
  have x6:xInt (rOf cL l) (nNat (i:Int)) 6=a.2.2.2.1.2.2.1:=by simp [hi,ha]
  have x7:xInt (rOf cL l) (nNat (i:Int)) 7=a.2.2.2.1.2.2.2.1:=by simp [hi,ha]
  have x8:xStr (rOf cL l) (nNat (i:Int)) 8=a.2.2.2.1.2.2.2.2:=by simp [hi,ha]
  have x9:xInt (rOf cL l) (nNat (i:Int)) 9=a.2.2.2.2.1:=by simp [hi,ha]
  have x10:xStr (rOf cL l) (nNat (i:Int)) 10=a.2.2.2.2.2.1:=by simp [hi,ha]
  have x11:xInt (rOf cL l) (nNat (i:Int)) 11=a.2.2.2.2.2.2.1:=by simp [hi,ha]
  have x12:xInt (rOf cL l) (nNat (i:Int)) 12=a.2.2.2.2.2.2.2.1:=by simp [hi,ha]
  have x13:xStr (rOf cL l) (nNat (i:Int)) 13=a.2.2.2.2.2.2.2.2:=by simp [hi,ha]
  show qeK [.ptr 0 0,.ptr 1 0,.ptr 2 0,.int .i64 (i:Nat)] ⟨[[.str s,.sl r .non,.sl (rOf cL l) .non],[.str s2,.sl r3 .full,.sl r4 .full],[.str s3,.sl r5 .non,.sl (rOf cL b) (.tok 0)]],[(b.length,14,34)],[48,48,48]⟩=qeK [.ptr 0 0,.ptr 1 0,.ptr 2 0,.int .i64 ((i+1:Nat):Int)] ⟨[[.str s,.sl r .non,.sl (rOf cL l) .non],[.str s2,.sl r3 .full,.sl r4 .full],[.str s3,.sl r5 .non,.sl (rOf cL (b++[cpLi a])) (.tok 0)]],[((b++[cpLi a]).length,14,34)],[48,48,48]⟩
  rw [qAX]
  simp only [qiT,q1,q2,q3,q4,o1,o3,o4,w,x0,x1,x2,x3,x4,x5,x6,x7,x8,x9,x10,x11,x12,x13,qqj,qap]
  simp [one,qKa,cpLi]
 ·intro b hb
  have q:iLt ((min l.length 8:Nat):Int) (xLen (rOf cL l))=false∨iLt ((min l.length 8:Nat):Int) 8=false:=by
   by_cases h:l.length≤8
   ·left; simp; omega
   ·right; simp; omega
  show qeK [.ptr 0 0,.ptr 1 0,.ptr 2 0,.int .i64 ((min l.length 8:Nat):Int)] ⟨[[.str s,.sl r .non,.sl (rOf cL l) .non],[.str s2,.sl r3 .full,.sl r4 .full],[.str s3,.sl r5 .non,.sl (rOf cL b) (.tok 0)]],[(b.length,14,34)],[48,48,48]⟩=_
  rw [qAX]
  rcases q with q | q
  ·simp only [qiT,q]
   simp
  ·cases q2:iLt ((min l.length 8:Nat):Int) (xLen (rOf cL l)) <;> (simp only [qiT,q,q2]; simp)
theorem qly (x:Ru):qnl x.1.1 (rOf cM x.1.2) (rOf cL x.2)=some (.agg [.str (cpRu x).1.1,.sl (rOf cM (cpRu x).1.2) .non,.sl (rOf cL (cpRu x).2) .non]):=by
 have h:=qzj x.1.1 [] (cutT x.1.1) (rOf cM x.1.2) [] [] (rOf cM ((x.1.2.take 12).map cpTm)) x.2
 have h':qdu 0 x.1.1 (rOf cM x.1.2) (rOf cL x.2) [] [] [] (cutT x.1.1) (rOf cM ((x.1.2.take 12).map cpTm)) [] 0=_:=h
 unfold qnl quf
 simp only [qap,qIL,qGV,qHy,qnm,qux,qtz,qr4,qqq,qqK,qmC,qmd,qtZ,qpu,qlX,h']
 simp [cpRu,cpAt]
@[simp] theorem qIE (a:Txt) (l:List Tm) (b:List Li):qft a (rOf cM l) (rOf cL b)=true:=by simp only [qft,qeJ,qdh,qez,qly ((a,l),b)]; simp
@[simp] theorem qG9 (a:Txt) (l:List Tm) (b:List Li):qez a (rOf cM l) (rOf cL b)=cutT a:=by simp only [qft,qeJ,qdh,qez,qly ((a,l),b)]; simp [cpRu,cpAt]
@[simp] theorem qIa (a:Txt) (l:List Tm) (b:List Li):qeJ a (rOf cM l) (rOf cL b)=rOf cM ((l.take 12).map cpTm):=by simp only [qft,qeJ,qdh,qez,qly ((a,l),b)]; simp [cpRu,cpAt]
@[simp] theorem qG2 (a:Txt) (l:List Tm) (b:List Li):qdh a (rOf cM l) (rOf cL b)=rOf cL ((b.take 8).map cpLi):=by simp only [qft,qeJ,qdh,qez,qly ((a,l),b)]; simp [cpRu,cpAt]
theorem qmp (d:De):qnG d.1 d.2.1 (rOf cI d.2.2)=some (.agg [.str (cpDe d).1,.bool (cpDe d).2.1,.sl (rOf cI (cpDe d).2.2) .non]):=by
 unfold qnG quZ
 by_cases h:(12:Int) < d.2.2.length
 ·have h2:12≤d.2.2.length:=by omega
  have h3:(12:Int)≤d.2.2.length:=by omega
  simp [h,h2,h3,cpDe]
 ·have:d.2.2.take 12=d.2.2:=List.take_of_length_le (by omega)
  simp [h,this,cpDe]
@[simp] theorem qIn (a:Txt) (b:Bool) (l:List Int):qfR a b (rOf cI l)=true:=by simp only [qev,qfR,qeu,qee,qmp (a,b,l)]; simp
@[simp] theorem qHD (a:Txt) (b:Bool) (l:List Int):qee a b (rOf cI l)=cutT a:=by simp only [qev,qfR,qeu,qee,qmp (a,b,l)]; simp [cpDe]
@[simp] theorem qH0 (a:Txt) (b:Bool) (l:List Int):qev a b (rOf cI l)=b:=by simp only [qev,qfR,qeu,qee,qmp (a,b,l)]; simp [cpDe]
@[simp] theorem qHd (a:Txt) (b:Bool) (l:List Int):qeu a b (rOf cI l)=rOf cI (l.take 12):=by simp only [qev,qfR,qeu,qee,qmp (a,b,l)]; simp [cpDe]
theorem qFr (s s2 s3:Txt) (r2 r3 r4 r6:List (List PV)) (k2:Nat) (l:List Pa):qkq [.ptr 0 0,.ptr 1 0,.ptr 2 0,.int .i64 0] ⟨[[.str s,.sl (rOf cP l) .non,.sl r2 .non],[.str s2,.sl r3 .full,.sl r4 .full],[.str s3,.sl [] (.tok 0),.sl r6 (.tok 1)]],[(0,2,101),(k2,3,103)],[55,55,55]⟩=some (.exit 0,[.ptr 0 0,.ptr 1 0,.ptr 2 0],⟨[[.str s,.sl (rOf cP l) .non,.sl r2 .non],[.str s2,.sl r3 .full,.sl r4 .full],[.str s3,.sl (rOf cP ((l.take 12).map cpPa)) (.tok 0),.sl r6 (.tok 1)]],[((min l.length 12),2,101),(k2,3,103)],[55,55,55]⟩):=by
 have hl:=qop (l:=l) (min l.length 12) qAO (V:=fun i b=>qkq [.ptr 0 0,.ptr 1 0,.ptr 2 0,.int .i64 (i:Nat)] ⟨[[.str s,.sl (rOf cP l) .non,.sl r2 .non],[.str s2,.sl r3 .full,.sl r4 .full],[.str s3,.sl (rOf cP b) (.tok 0),.sl r6 (.tok 1)]],[(b.length,2,101),(k2,3,103)],[55,55,55]⟩) cpPa (fun b=>some (.exit 0,[.ptr 0 0,.ptr 1 0,.ptr 2 0],⟨[[.str s,.sl (rOf cP l) .non,.sl r2 .non],[.str s2,.sl r3 .full,.sl r4 .full],[.str s3,.sl (rOf cP b) (.tok 0),.sl r6 (.tok 1)]],[(b.length,2,101),(k2,3,103)],[55,55,55]⟩)) ?_ ?_
 ·rw [qpi] at hl
  rw [show min l.length 12=((l.take 12).map cpPa).length by rw [List.length_map,List.length_take]; omega]
  exact hl
 ·intro i b a hb hi hn ha
  have q1:iLt (i:Int) (xLen (rOf cP l))=true:=by simp; omega
  have q2:iLt (i:Int) 12=true:=by simp; omega
  have q3:qak (i:Int)=true:=by simp
  have q4:qbs [PV.str [],.int .i64 0] (rOf cP l) (nNat (i:Int))=true:=by simp; omega
  have w:=qbj (i:=i) (by omega)
  have o1:∀ c,qaz (rOf cP b) [c] 24=true:=fun c=>by simp; omega
  have o3:qao (rOf cP b) 2=true:=qGd _
  have o4:nEq b.length (nXs (rOf cP b))=true:=by simp
  have x0:xStr (rOf cP l) (nNat (i:Int)) 0=a.1:=by simp [hi,ha]
  have x1:xInt (rOf cP l) (nNat (i:Int)) 1=a.2:=by simp [hi,ha]
  show qkq [.ptr 0 0,.ptr 1 0,.ptr 2 0,.int .i64 (i:Nat)] ⟨[[.str s,.sl (rOf cP l) .non,.sl r2 .non],[.str s2,.sl r3 .full,.sl r4 .full],[.str s3,.sl (rOf cP b) (.tok 0),.sl r6 (.tok 1)]],[(b.length,2,101),(k2,3,103)],[55,55,55]⟩=qkq [.ptr 0 0,.ptr 1 0,.ptr 2 0,.int .i64 ((i+1:Nat):Int)] ⟨[[.str s,.sl (rOf cP l) .non,.sl r2 .non],[.str s2,.sl r3 .full,.sl r4 .full],[.str s3,.sl (rOf cP (b++[cpPa a])) (.tok 0),.sl r6 (.tok 1)]],[((b++[cpPa a]).length,2,101),(k2,3,103)],[55,55,55]⟩
  rw [qI5]
  simp only [qpI,q1,q2,q3,q4,o1,o3,o4,w,x0,x1,qqj,qap]
  simp [one,qKt,cpPa]
 ·intro b hb
  have q:iLt ((min l.length 12:Nat):Int) (xLen (rOf cP l))=false∨iLt ((min l.length 12:Nat):Int) 12=false:=by
   by_cases h:l.length≤12
   ·left; simp; omega
   ·right; simp; omega
  show qkq [.ptr 0 0,.ptr 1 0,.ptr 2 0,.int .i64 ((min l.length 12:Nat):Int)] ⟨[[.str s,.sl (rOf cP l) .non,.sl r2 .non],[.str s2,.sl r3 .full,.sl r4 .full],[.str s3,.sl (rOf cP b) (.tok 0),.sl r6 (.tok 1)]],[(b.length,2,101),(k2,3,103)],[55,55,55]⟩=_
  rw [qI5]
  rcases q with q | q
  ·simp only [qpI,q]
   simp
  ·cases q2:iLt ((min l.length 12:Nat):Int) (xLen (rOf cP l)) <;> (simp only [qpI,q,q2]; simp)
theorem qGH (s s2 s3:Txt) (r r3 r4 r5:List (List PV)) (k:Nat) (l:List Ac):qkl [.ptr 0 0,.ptr 1 0,.ptr 2 0,.int .i64 0] ⟨[[.str s,.sl r .non,.sl (rOf cAc l) .non],[.str s2,.sl r3 .full,.sl r4 .full],[.str s3,.sl r5 (.tok 0),.sl [] (.tok 1)]],[(k,2,101),(0,3,103)],[55,55,55]⟩=some (.exit 2,[.ptr 1 0,.ptr 2 0],⟨[[.str s,.sl r .non,.sl (rOf cAc l) .non],[.str s2,.sl r3 .full,.sl r4 .full],[.str s3,.sl r5 (.tok 0),.sl (rOf cAc ((l.take 8).map cpAc)) (.tok 1)]],[(k,2,101),((min l.length 8),3,103)],[55,55,55]⟩):=by
 have hl:=qop (l:=l) (min l.length 8) qAO (V:=fun i b=>qkl [.ptr 0 0,.ptr 1 0,.ptr 2 0,.int .i64 (i:Nat)] ⟨[[.str s,.sl r .non,.sl (rOf cAc l) .non],[.str s2,.sl r3 .full,.sl r4 .full],[.str s3,.sl r5 (.tok 0),.sl (rOf cAc b) (.tok 1)]],[(k,2,101),(b.length,3,103)],[55,55,55]⟩) cpAc (fun b=>some (.exit 2,[.ptr 1 0,.ptr 2 0],⟨[[.str s,.sl r .non,.sl (rOf cAc l) .non],[.str s2,.sl r3 .full,.sl r4 .full],[.str s3,.sl r5 (.tok 0),.sl (rOf cAc b) (.tok 1)]],[(k,2,101),(b.length,3,103)],[55,55,55]⟩)) ?_ ?_
 ·rw [qpi] at hl
  rw [show min l.length 8=((l.take 8).map cpAc).length by rw [List.length_map,List.length_take]; omega]
  exact hl
 ·intro i b a hb hi hn ha
  have q1:iLt (i:Int) (xLen (rOf cAc l))=true:=by simp; omega
  have q2:iLt (i:Int) 8=true:=by simp; omega
  have q3:qak (i:Int)=true:=by simp
  have q4:qbs [PV.bool false,.str [],.sl [] .full] (rOf cAc l) (nNat (i:Int))=true:=by simp; omega
  have w:=qbj (i:=i) (by omega)
  have o1:∀ c,qaz (rOf cAc b) [c] 48=true:=fun c=>by simp; omega
  have o3:qao (rOf cAc b) 3=true:=qCE _
  have o4:nEq b.length (nXs (rOf cAc b))=true:=by simp
  have x0:qf8 (rOf cAc l) (nNat (i:Int)) 0=a.1:=by simp [hi,ha]
  have x1:xStr (rOf cAc l) (nNat (i:Int)) 1=a.2.1:=by simp [hi,ha]
  have x2:xRow (rOf cAc l) (nNat (i:Int)) 2=rOf cM a.2.2:=by simp [hi,ha]
  show qkl [.ptr 0 0,.ptr 1 0,.ptr 2 0,.int .i64 (i:Nat)] ⟨[[.str s,.sl r .non,.sl (rOf cAc l) .non],[.str s2,.sl r3 .full,.sl r4 .full],[.str s3,.sl r5 (.tok 0),.sl (rOf cAc b) (.tok 1)]],[(k,2,101),(b.length,3,103)],[55,55,55]⟩=qkl [.ptr 0 0,.ptr 1 0,.ptr 2 0,.int .i64 ((i+1:Nat):Int)] ⟨[[.str s,.sl r .non,.sl (rOf cAc l) .non],[.str s2,.sl r3 .full,.sl r4 .full],[.str s3,.sl r5 (.tok 0),.sl (rOf cAc (b++[cpAc a])) (.tok 1)]],[(k,2,101),((b++[cpAc a]).length,3,103)],[55,55,55]⟩
  rw [qI9]
  simp only [qp8,q1,q2,q3,q4,o1,o3,o4,w,x0,x1,x2,cpAt,qqj,qap]
  simp [one,qIo,cpAt,cpAc]
 ·intro b hb
  have q:iLt ((min l.length 8:Nat):Int) (xLen (rOf cAc l))=false∨iLt ((min l.length 8:Nat):Int) 8=false:=by
   by_cases h:l.length≤8
   ·left; simp; omega
   ·right; simp; omega
  show qkl [.ptr 0 0,.ptr 1 0,.ptr 2 0,.int .i64 ((min l.length 8:Nat):Int)] ⟨[[.str s,.sl r .non,.sl (rOf cAc l) .non],[.str s2,.sl r3 .full,.sl r4 .full],[.str s3,.sl r5 (.tok 0),.sl (rOf cAc b) (.tok 1)]],[(k,2,101),(b.length,3,103)],[55,55,55]⟩=_
  rw [qI9]
  rcases q with q | q
  ·simp only [qp8,q]
   simp
  ·cases q2:iLt ((min l.length 8:Nat):Int) (xLen (rOf cAc l)) <;> (simp only [qp8,q,q2]; simp)
theorem qut (o:En):qBo o.1 (rOf cP o.2.1) (rOf cAc o.2.2)=some (.agg [.str (cpEn o).1,.sl (rOf cP (cpEn o).2.1) .non,.sl (rOf cAc (cpEn o).2.2) .non]):=by
 have h:=qFr o.1 [] (cutT o.1) (rOf cAc o.2.2) [] [] [] 0 o.2.1
 have h':qgZ 0 o.1 (rOf cP o.2.1) (rOf cAc o.2.2) [] [] [] (cutT o.1) [] [] 0 0=_:=h
 have g:=qGH o.1 [] (cutT o.1) (rOf cP o.2.1) [] [] (rOf cP ((o.2.1.take 12).map cpPa)) (min o.2.1.length 12) o.2.2
 have g':qgU 0 o.1 (rOf cP o.2.1) (rOf cAc o.2.2) [] [] [] (cutT o.1) (rOf cP ((o.2.1.take 12).map cpPa)) [] (min o.2.1.length 12) 0=_:=g
 unfold qBo qGv
 simp only [qMA,tx_v,qtF,qq0,qk9,qqh,qk4,qkB,qla,qkW,qkJ,qqU,qkR,qk6,h']
 simp [-List.map_take]
 simp only [qtE,qEO,qx3,qDt,qxh,qxP,qzs,qus,quk,qDy,qxq,qtU,g']
 simp [cpEn]
@[simp] theorem qMH (a:Txt) (l:List Pa) (b:List Ac):qkG a (rOf cP l) (rOf cAc b)=true:=by simp only [qkG,qnx,qgK,qmU,qut (a,l,b)]; simp
@[simp] theorem qMj (a:Txt) (l:List Pa) (b:List Ac):qmU a (rOf cP l) (rOf cAc b)=cutT a:=by simp only [qkG,qnx,qgK,qmU,qut (a,l,b)]; simp [cpEn]
@[simp] theorem qNl (a:Txt) (l:List Pa) (b:List Ac):qnx a (rOf cP l) (rOf cAc b)=rOf cP ((l.take 12).map cpPa):=by simp only [qkG,qnx,qgK,qmU,qut (a,l,b)]; simp [cpEn]
@[simp] theorem qM8 (a:Txt) (l:List Pa) (b:List Ac):qgK a (rOf cP l) (rOf cAc b)=rOf cAc ((b.take 8).map cpAc):=by simp only [qkG,qnx,qgK,qmU,qut (a,l,b)]; simp [cpEn]
end Go.Pv
set_option linter.unusedSimpArgs false
set_option linter.unusedVariables false
namespace Go.Pv
theorem qHp {α ρ:Type} [DecidableEq α] {l m:List α} (hlen:l.length=m.length) {V:Nat→ρ} (good bad:ρ)
  (hsame:∀ (i:Nat) (hi:i < l.length) (hj:i < m.length),l[i]=m[i]→V i=V (i+1))
  (hdiff:∀ (i:Nat) (hi:i < l.length) (hj:i < m.length),l[i]≠m[i]→V i=bad)
  (hend:V l.length=good):V 0=if l=m then good else bad:=by
 have key:∀ (k i:Nat),i+k=l.length→V i=if l.drop i=m.drop i then good else bad:=by
  intro k
  induction k with
  | zero =>
   intro i hi
   have:i=l.length:=by omega
   subst this
   have h1:l.drop l.length=[]:=List.drop_eq_nil_of_le (Nat.le_refl _)
   have h2:m.drop l.length=[]:=List.drop_eq_nil_of_le (by omega)
   rw [h1,h2,if_pos rfl]
   exact hend
  | succ k ih =>
   intro i hi
   have h1:i < l.length:=by omega
   have h2:i < m.length:=by omega
   rw [List.drop_eq_getElem_cons h1,List.drop_eq_getElem_cons h2]
   by_cases h:l[i]=m[i]
   ·rw [hsame i h1 h2 h,ih (i+1) (by omega),h]
    by_cases h3:l.drop (i+1)=m.drop (i+1)
    ·rw [if_pos h3,if_pos (by rw [h3])]
    ·rw [if_neg h3,if_neg (fun e=>h3 (List.cons.inj e).2)]
   ·rw [hdiff i h1 h2 h,if_neg (fun e=>h (List.cons.inj e).1)]
 simpa using key l.length 0 (by omega)
end Go.Pv
set_option maxHeartbeats 8000000
set_option maxRecDepth 200000
set_option linter.unusedSimpArgs false
set_option linter.unusedVariables false
namespace Go.Pv
open Go Go.Proofs Go.RowKit
theorem qwL {s:Txt} (hs:s.length≤65536) (k:Int):qvB s k=some (.bool (isW1 k s)):=by
 unfold qvB qvv
 rw [qFa k hs,qyp hs,qst hs,qs4 hs]
 have x0:xLen (rOf cW (wL s))=((wL s).length:Nat):=by simp
 rw [x0]
 by_cases h1:wE s=0
 ·by_cases h2:(wL s).length=1
  ·have g:qbs [PV.int .i64 0,.str [],.int .i64 0,.int .i64 0,.str [],.int .i64 0] (rOf cW (wL s)) (nNat 0)=true:=by rw [qzS]; simp [h2]
   have y0:xInt (rOf cW (wL s)) (nNat 0) 0=((wL s)[0]?.getD (0,[],(0,0,[]),0)).1:=qAE _ _
   have y1:xStr (rOf cW (wL s)) (nNat 0) 1=((wL s)[0]?.getD (0,[],(0,0,[]),0)).2.1:=qzU _ _
   rw [g,y0,y1]
   generalize (wL s)[0]?.getD (0,[],(0,0,[]),0)=w
   by_cases h3:w.1=k <;> simp [h1,h2,h3]
  ·have h2':¬ ((wL s).length:Int)=1:=by omega
   simp [h1,h2,h2']
 ·simp [h1]
theorem qzP {s:Txt} (hs:s.length≤65536) (k:Int):qgV s k=true:=by simp only [qkx,qgV,qwL hs]; simp
theorem qGm {s:Txt} (hs:s.length≤65536) (k:Int):qkx s k=isW1 k s:=by simp only [qkx,qgV,qwL hs]; simp
theorem qw6 {s:Txt} (hs:s.length≤65536):quK s=some (.bool (nmB s)):=by
 unfold quK qu1 nmB resv
 rw [qzP hs,qGm hs]
 cases hw:isW1 1 s with
 | false=>simp
 | true =>
  by_cases h1:s=[98,97,115,101]
  ·simp [h1]
  ·by_cases h2:s=[118,105,101,119]
   ·simp [h2]
   ·by_cases h3:s=[111,110]
    ·simp [h3]
    ·by_cases h4:s=[110,111,116]
     ·simp [h4]
     ·simp [h1,h2,h3,h4]
theorem qt0 {s:Txt} (hs:s.length≤65536):qeT s=true:=by simp only [qhq,qeT,qw6 hs]; simp
theorem qxO {s:Txt} (hs:s.length≤65536):qhq s=nmB s:=by simp only [qhq,qeT,qw6 hs]; simp
theorem qzJ {s:Txt} (hs:s.length≤65536):qAJ s=some (.bool (vrB s)):=by
 unfold qAJ qxJ vrB
 rw [qzP hs,qGm hs]
 simp
theorem qys {s:Txt} (hs:s.length≤65536):qjn s=true:=by simp only [qrq,qjn,qzJ hs]; simp
theorem qD3 {s:Txt} (hs:s.length≤65536):qrq s=vrB s:=by simp only [qrq,qjn,qzJ hs]; simp
theorem qA8 (t:Int):qA3 t=some (.str (tyT t)):=by
 unfold qA3 qxC tyT
 by_cases h1:t=1
 ·simp [h1]
 ·by_cases h2:t=2
  ·simp [h2]
  ·simp [h1,h2]
theorem quv (t:Int):qgm t=true:=by simp only [qgm,qe5,qA8]; simp
theorem qAC (t:Int):qe5 t=tyT t:=by simp only [qgm,qe5,qA8]; simp
theorem qzQ (t:Int):sEq (tyT t) []=!tyOk t:=by
 unfold tyT tyOk
 by_cases h1:t=1
 ·simp [h1]
 ·by_cases h2:t=2
  ·simp [h2]
  ·simp [h1,h2]
theorem qFj (o:Int):qG3 o=some (.str (if opOk o then opW o else [])):=by
 unfold qG3 qDY opW opOk
 by_cases h1:o=1
 ·simp [h1]
 ·by_cases h2:o=2
  ·simp [h2]
  ·by_cases h3:o=3
   ·simp [h3]
   ·by_cases h4:o=4
    ·simp [h4]
    ·by_cases h5:o=5
     ·simp [h5]
     ·by_cases h6:o=6
      ·simp [h6]
      ·have h7:¬ (1≤o∧o≤6):=by omega
       simp only [decide_eq_false h7,Bool.false_eq_true,if_false]
       simp [h1,h2,h3,h4,h5,h6]
theorem qNe (o:Int):qcL o=true:=by simp only [qcL,qck,qFj]; simp
theorem qNp (o:Int):qck o=if opOk o then opW o else []:=by simp only [qcL,qck,qFj]; simp
theorem qND {o:Int} (h:opOk o=true):opT o=32 :: (opW o++[32]):=by
 simp only [opOk,decide_eq_true_eq] at h
 obtain ⟨n,rfl⟩:∃ n:Nat,o=(n:Int):=⟨o.toNat,by omega⟩
 have h1:1≤n∧n≤6:=by omega
 match n,h1 with
 | 1,_=>rfl
 | 2,_=>rfl
 | 3,_=>rfl
 | 4,_=>rfl
 | 5,_=>rfl
 | 6,_=>rfl
 | 0,h=>omega
 | n+7,h=>omega
theorem qMe {o:Int}:opW o≠[]:=by
 unfold opW
 repeat' split
 all_goals simp
def jrS (l:List Txt) (sep:Txt) (i:Nat):Txt:=qdR (l.take i) sep
theorem qwq (sep:Txt):∀ (l:List Txt) (x:Txt),l≠[]→qdR (l++[x]) sep=qdR l sep++(sep++x)
 | [],_,h=>absurd rfl h
 | [a],x,_=>by rw [List.singleton_append,qln,qlB,qlB]
 | a :: b :: l,x,_=>by
  have ih:=qwq sep (b :: l) x (by simp)
  simp only [List.cons_append] at ih ⊢
  rw [qln,qln,ih]
  simp
theorem qIP {l:List Txt} {sep:Txt} {i:Nat} (hi:i < l.length):jrS l sep (i+1)=if i=0 then l[i] else jrS l sep i++(sep++l[i]):=by
 unfold jrS
 rw [← List.take_append_getElem hi]
 by_cases h:i=0
 ·subst h
  simp [qlB]
 ·have:l.take i≠[]:=by
   intro h0
   have:=congrArg List.length h0
   rw [List.length_take,List.length_nil] at this
   omega
  rw [if_neg h,qwq _ _ _ this]
theorem qBj (l:List Txt) (hl:l.length≤100000) (hw:∀ x ∈ l,x.length≤1000000) (sep:Txt) (hs:sep.length≤10):∀ (m i:Nat),i+m=l.length →
  qj8 [.sl (rOf cS l) .non,.str sep,.sl (qab (jrS l sep i)) (.tok 0),.int .i64 (i:Nat)] ⟨[],[((jrS l sep i).length,1,5)],[]⟩=some (.exit 0,[.sl (qab (qdR l sep)) (.tok 0)],⟨[],[((qdR l sep).length,1,5)],[]⟩):=by
 intro m
 induction m with
 | zero =>
  intro i hi
  have:i=l.length:=by omega
  subst this
  have t1:iLt (l.length:Int) (xLen (rOf cS l))=false:=by simp
  have e:jrS l sep l.length=qdR l sep:=by unfold jrS; rw [List.take_length]
  rw [e,qt9]
  simp only [qdV,t1]
  simp
 | succ m ih =>
  intro i hi
  have w:=qbj (i:=i) (by omega)
  have hlt:i < l.length:=by omega
  have h1:=ih (i+1) (by omega)
  rw [← h1,qIP hlt]
  have hb:(jrS l sep i).length≤100000 * 1000010:=by
   unfold jrS
   refine Nat.le_trans (qgu (M:=1000000) sep _ (fun x hx=>hw x (List.mem_of_mem_take hx))) ?_
   refine Nat.mul_le_mul ?_ (by omega)
   rw [List.length_take]; omega
  have ha:(l[i]).length≤1000000:=hw _ (List.getElem_mem hlt)
  have q1:iLt (i:Int) (xLen (rOf cS l))=true:=by simp; omega
  have q2:qbs [PV.str []] (rOf cS l) (nNat (i:Int))=true:=by simp; omega
  have q3:xStr (rOf cS l) (nNat (i:Int)) 0=l[i]:=by simp [hlt]
  have q4:qak (i:Int)=true:=by simp
  generalize l[i]=x at ha q3 ⊢
  generalize hj:jrS l sep i=b at hb ⊢
  have o2:qas (qab x) 1=true:=qgw _
  have o4:qas (qab sep) 1=true:=qgw _
  have o5:qao (qab b) 1=true:=qbc _
  have o6:qao (qab (b++sep)) 1=true:=qbc _
  have g1:qaz (qab b) (qab x) 1=true:=qcV (by omega)
  have g2:qaz (qab b) (qab sep) 1=true:=qcV (by omega)
  have g3:qaz (qab (b++sep)) (qab x) 1=true:=qcV (by simp; omega)
  have e1:nEq b.length (nXs (qab b))=true:=by simp
  by_cases h0:i=0
  ·subst h0
   have hj0:b=[]:=by rw [← hj]; rfl
   subst hj0
   have t5:iLt 0 ((0:Nat):Int)=false:=rfl
   rw [if_pos rfl,qt9]
   cases x with
   | nil =>
    simp only [qdV,q1,q2,q3,q4,t5,g1,o2,o5,w]
    simp
   | cons y x =>
    simp only [qdV,q1,q2,q3,q4,t5,g1,o2,o5,w,e1]
    simp [qs3]
  ·have t5:iLt 0 (i:Int)=true:=by simp; omega
   rw [if_neg h0,qt9]
   cases sep with
   | nil =>
    cases x with
    | nil =>
     simp only [qdV,q1,q2,q3,q4,t5,g1,g2,o2,o4,o5,w,e1]
     simp
    | cons y x =>
     simp only [qdV,q1,q2,q3,q4,t5,g1,g2,o2,o4,o5,w,e1,qek]
     simp [qs3]
   | cons z sep =>
    have nz:xNil (qab (z :: sep))=false:=qg1 (by simp)
    cases x with
    | nil =>
     simp only [qdV,q1,q2,q3,q4,t5,g1,g2,g3,o2,o4,o5,o6,w,e1,nz,qek]
     simp
    | cons y x =>
     have ny:xNil (qab (y :: x))=false:=qg1 (by simp)
     simp only [qdV,q1,q2,q3,q4,t5,g1,g2,g3,o2,o4,o5,o6,w,e1,nz,ny,qek]
     simp
theorem qwU {l:List Txt} (hl:l.length≤100000) (hw:∀ x ∈ l,x.length≤1000000) {sep:Txt} (hs:sep.length≤10):quQ (rOf cS l) sep=some (.str (qdR l sep)):=by
 have h:=qBj l hl hw sep hs l.length 0 (by omega)
 have h':qol (rOf cS l) sep [] 0 0=_:=h
 unfold quQ qtq
 simp only [qlz,qng,qtw,h']
 simp
theorem qG4 {l:List Txt} (hl:l.length≤100000) (hw:∀ x ∈ l,x.length≤1000000) {sep:Txt} (hs:sep.length≤10):qc1 (rOf cS l) sep=true:=by simp only [qc1,qbU,qwU hl hw hs]; simp
theorem qKd {l:List Txt} (hl:l.length≤100000) (hw:∀ x ∈ l,x.length≤1000000) {sep:Txt} (hs:sep.length≤10):qbU (rOf cS l) sep=qdR l sep:=by simp only [qc1,qbU,qwU hl hw hs]; simp
theorem qpq {t:Tm} (h:tmS t):qqR t.1 t.2.1 t.2.2.1 t.2.2.2.1 t.2.2.2.2=some (.tup [.str (tdS (tmOk t) (tmT t)),.int .i64 (tdE (tmOk t))]):=by
 obtain ⟨k,b,c,n,s⟩:=t
 have hb:b.length≤65536:=Nat.le_trans h.1 (by decide)
 unfold qqR qvs tmT tmOk vlOk vlT
 simp only [qys hb,qD3 hb]
 have b0:bAnd=and:=rfl
 have z0:(bAnd (iEq c 0) (bAnd (iEq n 0) (bAnd (sEq s []) true)))=decide ((c,n,s)=((0,0,[]):Vl)):=by simp [b0,Bool.decide_and]
 rw [z0]
 by_cases h1:k=1
 ·subst h1
  have n1:iEq 1 1=true:=rfl
  have n2:iEq 1 2=false:=rfl
  have n3:iEq 1 3=false:=rfl
  rw [n1,n2,n3]
  cases hv:vrB b <;> by_cases hz:(c,n,s)=((0,0,[]):Vl) <;> simp [hv,hz,tdS,tdE]
 ·by_cases h2:k=2
  ·subst h2
   have n1:iEq 2 1=false:=rfl
   have n2:iEq 2 2=true:=rfl
   have n3:iEq 2 3=false:=rfl
   rw [n1,n2,n3]
   by_cases h3:b=[] <;> cases hv:isV c n s <;> simp [h3,hv,tdS,tdE]
  ·have n1:iEq k 1=false:=by simp [h1]
   have n2:iEq k 2=false:=by simp [h2]
   rw [n1,n2]
   by_cases h3:k=3
   ·subst h3
    have n3:iEq 3 3=true:=rfl
    rw [n3]
    by_cases hb0:b=[] <;> by_cases hz:(c,n,s)=((0,0,[]):Vl) <;> simp [hb0,hz,tdS,tdE]
   ·have n3:iEq k 3=false:=by simp [h3]
    rw [n3]
    simp [h1,h2,h3,tdS,tdE]
theorem qoE {t:Tm} (h:tmS t):qbE t.1 t.2.1 t.2.2.1 t.2.2.2.1 t.2.2.2.2=true:=by simp only [qbE,qb2,qaE,qpq h]; simp
theorem qoe {t:Tm} (h:tmS t):qaE t.1 t.2.1 t.2.2.1 t.2.2.2.1 t.2.2.2.2=tdS (tmOk t) (tmT t):=by simp only [qbE,qb2,qaE,qpq h]; simp
theorem qov {t:Tm} (h:tmS t):qb2 t.1 t.2.1 t.2.2.1 t.2.2.2.1 t.2.2.2.2=tdE (tmOk t):=by simp only [qbE,qb2,qaE,qpq h]; simp
theorem qx1 {l:List Tm} (hs:∀ a ∈ l,tmS a) (hn:l.length≤100000) (s:Txt) :
  (l.all tmOk=true→qdq [.ptr 0 0,.sl [] (.tok 0),.int .i64 0] ⟨[[.str s,.sl (rOf cM l) .non]],[(0,1,9)],[31]⟩=some (.exit 0,[.ptr 0 0,.sl (rOf cS (l.map tmT)) (.tok 0)],⟨[[.str s,.sl (rOf cM l) .non]],[((l.map tmT).length,1,9)],[31]⟩)) ∧
  (l.all tmOk=false→∃ k:Nat,qdq [.ptr 0 0,.sl [] (.tok 0),.int .i64 0] ⟨[[.str s,.sl (rOf cM l) .non]],[(0,1,9)],[31]⟩=some (.ret,[.str [],.int .i64 140],⟨[[.str s,.sl (rOf cM l) .non]],[(k,1,9)],[31]⟩)):=by
 have hl:=qcS (l:=l) l.length (Nat.le_refl _) (V:=fun i b=>qdq [.ptr 0 0,.sl (rOf cS b) (.tok 0),.int .i64 (i:Nat)] ⟨[[.str s,.sl (rOf cM l) .non]],[(b.length,1,9)],[31]⟩) tmOk tmT (fun b=>some (.exit 0,[.ptr 0 0,.sl (rOf cS b) (.tok 0)],⟨[[.str s,.sl (rOf cM l) .non]],[(b.length,1,9)],[31]⟩)) (fun r=>∃ k:Nat,r=some (.ret,[.str [],.int .i64 140],⟨[[.str s,.sl (rOf cM l) .non]],[(k,1,9)],[31]⟩)) ?_ ?_ ?_
 ·rw [List.take_length] at hl
  exact hl
 ·intro i b a hb hi hi2 ha ho
  have hm:tmS a:=hs a (ha ▸ List.getElem_mem hi)
  have q1:iLt (i:Int) (xLen (rOf cM l))=true:=by simp; omega
  have q3:qak (i:Int)=true:=by simp
  have q4:qbs [PV.int .i64 0,.str [],.int .i64 0,.int .i64 0,.str []] (rOf cM l) (nNat (i:Int))=true:=by simp; omega
  have w:=qbj (i:=i) (by omega)
  have e1:=qoE hm
  have e2:=qoe hm
  have e3:=qov hm
  rw [ho] at e2 e3
  have z1:iNe (tdE true) 0=false:=rfl
  have z2:iNe (tdE false) 0=true:=rfl
  have z3:∀ s,tdS true s=s:=fun _=>rfl
  have z4:tdE false=140:=rfl
  have x0:xInt (rOf cM l) (nNat (i:Int)) 0=a.1:=by simp [hi,ha]
  have x1:xStr (rOf cM l) (nNat (i:Int)) 1=a.2.1:=by simp [hi,ha]
  have x2:xInt (rOf cM l) (nNat (i:Int)) 2=a.2.2.1:=by simp [hi,ha]
  have x3:xInt (rOf cM l) (nNat (i:Int)) 3=a.2.2.2.1:=by simp [hi,ha]
  have x4:xStr (rOf cM l) (nNat (i:Int)) 4=a.2.2.2.2:=by simp [hi,ha]
  have o1:∀ c,qaz (rOf cS b) [c] 16=true:=fun c=>by simp; omega
  have o2:∀ t:Txt,qas [[PV.str t]] 1=true:=fun t=>by simp [one]
  have o3:qao (rOf cS b) 1=true:=qdl _
  have o4:nEq b.length (nXs (rOf cS b))=true:=by simp
  show qdq [.ptr 0 0,.sl (rOf cS b) (.tok 0),.int .i64 (i:Nat)] ⟨[[.str s,.sl (rOf cM l) .non]],[(b.length,1,9)],[31]⟩=qdq [.ptr 0 0,.sl (rOf cS (b++[tmT a])) (.tok 0),.int .i64 ((i+1:Nat):Int)] ⟨[[.str s,.sl (rOf cM l) .non]],[((b++[tmT a]).length,1,9)],[31]⟩
  rw [qvh]
  simp only [qiH,q1,q3,q4,x0,x1,x2,x3,x4,qap,e1,e2,e3,z1,z3,o1,o2,o3,o4,w]
  simp
 ·intro i b a hb hi hi2 ha ho
  have hm:tmS a:=hs a (ha ▸ List.getElem_mem hi)
  have q1:iLt (i:Int) (xLen (rOf cM l))=true:=by simp; omega
  have q3:qak (i:Int)=true:=by simp
  have q4:qbs [PV.int .i64 0,.str [],.int .i64 0,.int .i64 0,.str []] (rOf cM l) (nNat (i:Int))=true:=by simp; omega
  have w:=qbj (i:=i) (by omega)
  have e1:=qoE hm
  have e2:=qoe hm
  have e3:=qov hm
  rw [ho] at e2 e3
  have z1:iNe (tdE true) 0=false:=rfl
  have z2:iNe (tdE false) 0=true:=rfl
  have z3:∀ s,tdS true s=s:=fun _=>rfl
  have z4:tdE false=140:=rfl
  have x0:xInt (rOf cM l) (nNat (i:Int)) 0=a.1:=by simp [hi,ha]
  have x1:xStr (rOf cM l) (nNat (i:Int)) 1=a.2.1:=by simp [hi,ha]
  have x2:xInt (rOf cM l) (nNat (i:Int)) 2=a.2.2.1:=by simp [hi,ha]
  have x3:xInt (rOf cM l) (nNat (i:Int)) 3=a.2.2.2.1:=by simp [hi,ha]
  have x4:xStr (rOf cM l) (nNat (i:Int)) 4=a.2.2.2.2:=by simp [hi,ha]
  show ∃ k:Nat,qdq [.ptr 0 0,.sl (rOf cS b) (.tok 0),.int .i64 (i:Nat)] ⟨[[.str s,.sl (rOf cM l) .non]],[(b.length,1,9)],[31]⟩=_
  refine ⟨b.length,?_⟩
  rw [qvh]
  simp only [qiH,q1,q3,q4,x0,x1,x2,x3,x4,qap,e1,e3,z2,z4]
  simp
 ·intro b hb
  have q1:iLt (l.length:Nat) (xLen (rOf cM l))=false:=by simp
  show qdq [.ptr 0 0,.sl (rOf cS b) (.tok 0),.int .i64 (l.length:Nat)] ⟨[[.str s,.sl (rOf cM l) .non]],[(b.length,1,9)],[31]⟩=_
  rw [qvh]
  simp only [qiH,q1]
  simp
theorem qCW {α:Type} {T:α→Txt} {l:List α} {M:Nat} (hM:M≤1000000) (hn:l.length≤100) (h:∀ a ∈ l,(T a).length≤M):qc1 (rOf cS (l.map T)) [44,32]=true :=
 qG4 (by simp; omega) (fun x hx=>by
  obtain ⟨a,ha,rfl⟩:=List.mem_map.1 hx
  exact Nat.le_trans (h a ha) hM) (by decide)
theorem qj_v {α:Type} {T:α→Txt} {l:List α} {M:Nat} (hM:M≤1000000) (hn:l.length≤100) (h:∀ a ∈ l,(T a).length≤M):qbU (rOf cS (l.map T)) [44,32]=qdR (l.map T) [44,32] :=
 qKd (by simp; omega) (fun x hx=>by
  obtain ⟨a,ha,rfl⟩:=List.mem_map.1 hx
  exact Nat.le_trans (h a ha) hM) (by decide)
theorem qsJ {α:Type} {ok:α→Bool} {T:α→Txt} {sep:Txt} {l:List α} (h:l.all ok=true):qdR (l.map T) sep=jn ok T sep l:=(qNM h).symm
theorem mxl:maxLen=9223372036854775807:=rfl
theorem td_t (s:Txt):tdS true s=s:=rfl
theorem td_f (s:Txt):tdS false s=[]:=rfl
theorem te_t:tdE true=0:=rfl
theorem te_f:tdE false=140:=rfl
theorem nt_t:bNot true=false:=rfl
theorem nt_f:bNot false=true:=rfl
theorem ie00:iEq 0 0=true:=rfl
theorem qNv:iEq 140 0=false:=rfl
theorem qqx {a:At} (h:atS a):qp7 a.1 (rOf cM a.2)=some (.tup [.str (tdS (atOk a) (atT a)),.int .i64 (tdE (atOk a))]):=by
 obtain ⟨g1,g2⟩:=qx1 (l:=a.2) h.2.2 (by have:=h.2.1; omega) a.1
 have hb:a.1.length≤65536:=Nat.le_trans h.1 (by decide)
 have hn:=h.1
 have j1:=qCW (T:=tmT) (M:=1100) (by decide) (by have:=h.2.1; omega) (fun t ht=>qe2 (h.2.2 t ht))
 have j2:=qj_v (T:=tmT) (M:=1100) (by decide) (by have:=h.2.1; omega) (fun t ht=>qe2 (h.2.2 t ht))
 have hj:=qnU (ok:=tmOk) (T:=tmT) (M:=1100) [44,32] a.2 12 h.2.1 (fun t ht=>qe2 (h.2.2 t ht))
 simp at hj
 unfold qp7 qvo atT atOk
 simp only [qt0 hb,qxO hb]
 cases hN:nmB a.1 with
 | false=>simp [td_f,te_f]
 | true =>
  cases hA:a.2.all tmOk with
  | true =>
   have h':qde [] 0 a.1 (rOf cM a.2) 0=_:=g1 hA
   rw [qsJ hA] at j2
   have o1:qan a.1 [40]=true:=qaK (by simp; omega)
   have o2:qan (sApp a.1 [40]) (jn tmOk tmT [44,32] a.2)=true:=qaK (by simp; omega)
   have o3:qan (sApp (sApp a.1 [40]) (jn tmOk tmT [44,32] a.2)) [41]=true:=qaK (by simp; omega)
   simp only [qj9,qju,qjG,qj7,qdQ,qgO,qj5,qjK,qhN,qgI,qdP,h']
   simp [j1,j2,o2,o3,td_t,te_t,mxl]
   omega
  | false =>
   obtain ⟨k,hk⟩:=g2 hA
   have h':qde [] 0 a.1 (rOf cM a.2) 0=_:=hk
   simp only [qj9,qju,qjG,qj7,qdQ,qgO,qj5,qjK,qhN,qgI,qdP,h']
   simp [td_f,te_f]
theorem qoq {a:At} (h:atS a):qd5 a.1 (rOf cM a.2)=true:=by simp only [qd5,qcJ,qbh,qqx h]; simp
theorem qoN {a:At} (h:atS a):qbh a.1 (rOf cM a.2)=tdS (atOk a) (atT a):=by simp only [qd5,qcJ,qbh,qqx h]; simp
theorem qoB {a:At} (h:atS a):qcJ a.1 (rOf cM a.2)=tdE (atOk a):=by simp only [qd5,qcJ,qbh,qqx h]; simp
theorem qwl (s s2:Txt) {l m:List Tm} (hlen:l.length=m.length) (hn:l.length≤100000):qc6 [.ptr 0 0,.ptr 1 0,.int .i64 0] ⟨[[.str s,.sl (rOf cM l) .non],[.str s2,.sl (rOf cM m) .non]],[],[31,31]⟩ =
  if l=m then some (.exit 0,[],⟨[[.str s,.sl (rOf cM l) .non],[.str s2,.sl (rOf cM m) .non]],[],[31,31]⟩) else some (.ret,[.bool false],⟨[[.str s,.sl (rOf cM l) .non],[.str s2,.sl (rOf cM m) .non]],[],[31,31]⟩):=by
 refine qHp hlen (V:=fun i=>qc6 [.ptr 0 0,.ptr 1 0,.int .i64 (i:Nat)] ⟨[[.str s,.sl (rOf cM l) .non],[.str s2,.sl (rOf cM m) .non]],[],[31,31]⟩) _ _ ?_ ?_ ?_
 ·intro i hi hj he
  have w:=qbj (i:=i) (by omega)
  have b0:bAnd=and:=rfl
  show qc6 _ _=qc6 [.ptr 0 0,.ptr 1 0,.int .i64 ((i+1:Nat):Int)] _
  rw [qrN,← w]
  simp [qg0,hi,hj,he,b0]
 ·intro i hi hj he
  have b0:bAnd=and:=rfl
  have hne:(decide (l[i].1=m[i].1) && (decide (l[i].2.1=m[i].2.1) && ((decide (l[i].2.2.1=m[i].2.2.1) && (decide (l[i].2.2.2.1=m[i].2.2.2.1) && (decide (l[i].2.2.2.2=m[i].2.2.2.2) && true))) && true)))=false:=by
   cases hd:(decide (l[i].1=m[i].1) && (decide (l[i].2.1=m[i].2.1) && ((decide (l[i].2.2.1=m[i].2.2.1) && (decide (l[i].2.2.2.1=m[i].2.2.2.1) && (decide (l[i].2.2.2.2=m[i].2.2.2.2) && true))) && true))) with
   | false=>rfl
   | true =>
    simp only [Bool.and_eq_true,decide_eq_true_eq,and_true] at hd
    exact absurd (Prod.ext hd.1 (Prod.ext hd.2.1 (Prod.ext hd.2.2.1 (Prod.ext hd.2.2.2.1 hd.2.2.2.2)))) he
  have x0:xInt (rOf cM l) (nNat (i:Int)) 0=l[i].1:=by simp [hi]
  have x1:xStr (rOf cM l) (nNat (i:Int)) 1=l[i].2.1:=by simp [hi]
  have x2:xInt (rOf cM l) (nNat (i:Int)) 2=l[i].2.2.1:=by simp [hi]
  have x3:xInt (rOf cM l) (nNat (i:Int)) 3=l[i].2.2.2.1:=by simp [hi]
  have x4:xStr (rOf cM l) (nNat (i:Int)) 4=l[i].2.2.2.2:=by simp [hi]
  have y0:xInt (rOf cM m) (nNat (i:Int)) 0=m[i].1:=by simp [hj]
  have y1:xStr (rOf cM m) (nNat (i:Int)) 1=m[i].2.1:=by simp [hj]
  have y2:xInt (rOf cM m) (nNat (i:Int)) 2=m[i].2.2.1:=by simp [hj]
  have y3:xInt (rOf cM m) (nNat (i:Int)) 3=m[i].2.2.2.1:=by simp [hj]
  have y4:xStr (rOf cM m) (nNat (i:Int)) 4=m[i].2.2.2.2:=by simp [hj]
  show qc6 _ _=_
  rw [qrN]
  simp only [qg0,x0,x1,x2,x3,x4,y0,y1,y2,y3,y4,b0,qsa,qGk,hne]
  simp [hi,hj]
 ·show qc6 _ _=_
  rw [qrN]
  simp [qg0]
theorem qsr (a b:At) (hn:a.2.length≤100000):qoL a.1 (rOf cM a.2) b.1 (rOf cM b.2)=some (.bool (decide (a=b))):=by
 obtain ⟨a1,a2⟩:=a
 obtain ⟨b1,b2⟩:=b
 unfold qoL qp5
 by_cases h1:a1=b1
 ·by_cases h2:a2.length=b2.length
  ·have h:=qwl a1 b1 h2 hn
   have h':qcw 0 a1 (rOf cM a2) b1 (rOf cM b2)=_:=h
   by_cases h3:a2=b2
   ·rw [if_pos h3] at h'
    simp only [qfA,qhn,qhf,qgk,qgd,qh8,qig,qgo,qgp,qhE,qii,h']
    simp [h1,h3]
   ·rw [if_neg h3] at h'
    simp only [qfA,qhn,qhf,qgk,qgd,qh8,qig,qgo,qgp,qhE,qii,h']
    simp [h1,h2,h3]
  ·have h3:a2≠b2:=fun h=>h2 (by rw [h])
   have h4:¬ ((a2.length:Int)=b2.length):=by omega
   simp [h1,h2,h3,h4]
 ·simp [h1]
theorem qE5 (a b:At) (hn:a.2.length≤100000):qb3 a.1 (rOf cM a.2) b.1 (rOf cM b.2)=true:=by simp only [qdd,qb3,qsr a b hn]; simp
theorem qHU (a b:At) (hn:a.2.length≤100000):qdd a.1 (rOf cM a.2) b.1 (rOf cM b.2)=decide (a=b):=by simp only [qdd,qb3,qsr a b hn]; simp
theorem qi5 {l:Li} (h:liS l):qhb l.1 l.2.1.1 (rOf cM l.2.1.2) l.2.2.1 l.2.2.2.1.1 l.2.2.2.1.2.1 l.2.2.2.1.2.2.1 l.2.2.2.1.2.2.2.1 l.2.2.2.1.2.2.2.2 l.2.2.2.2.1 l.2.2.2.2.2.1 l.2.2.2.2.2.2.1 l.2.2.2.2.2.2.2.1 l.2.2.2.2.2.2.2.2=some (.tup [.str (tdS (liOk l) (liT l)),.int .i64 (tdE (liOk l))]):=by
 have e1:=qoq h.1
 have e2:=qoN h.1
 have e3:=qoB h.1
 have a1:=qoE h.2.1
 have a2:=qoe h.2.1
 have a3:=qov h.2.1
 have b1:=qoE h.2.2
 have b2:=qoe h.2.2
 have b3:=qov h.2.2
 have l1:=qhh h.1
 have l2:=qe2 h.2.1
 have l3:=qe2 h.2.2
 have l4:=qzo l.2.2.1
 have s1:qb3 l.2.1.1 (rOf cM l.2.1.2) [] []=true:=qE5 l.2.1 ([],[]) (by have:=h.1.2.1; omega)
 have s2:qdd l.2.1.1 (rOf cM l.2.1.2) [] []=decide (l.2.1=([],[])):=qHU l.2.1 ([],[]) (by have:=h.1.2.1; omega)
 have o1:qan [110,111,116,32] (atT l.2.1)=true:=qaK (by simp; omega)
 have o2:qan (tmT l.2.2.2.1) [32]=true:=qaK (by simp; omega)
 have lw:(opW l.2.2.1).length≤2:=by
  unfold opW
  repeat' split
  all_goals simp
 have o3:qan (sApp (tmT l.2.2.2.1) [32]) (opW l.2.2.1)=true:=qaK (by simp; omega)
 have o4:qan (sApp (sApp (tmT l.2.2.2.1) [32]) (opW l.2.2.1)) [32]=true:=qaK (by simp; omega)
 have o5:qan (sApp (sApp (sApp (tmT l.2.2.2.1) [32]) (opW l.2.2.1)) [32]) (tmT l.2.2.2.2)=true:=qaK (by simp; omega)
 have osp:=fun hh:opOk l.2.2.1=true=>qND hh
 have one':sNe (opW l.2.2.1) []=true:=by simp [qMe]
 have pl:qCU l=(decide (l.2.2.1=0) && decide (l.2.2.2.1=tm0) && decide (l.2.2.2.2=tm0)):=rfl
 have b0:bAnd=and:=rfl
 have z0:∀ t:Tm,(bAnd (iEq t.1 0) (bAnd (sEq t.2.1 []) (bAnd (bAnd (iEq t.2.2.1 0) (bAnd (iEq t.2.2.2.1 0) (bAnd (sEq t.2.2.2.2 []) true))) true)))=decide (t=tm0):=fun t=>by
  obtain ⟨a,b,c,d,e⟩:=t
  simp [tm0,b0,Bool.decide_and]
 unfold qhb qkF liT liOk
 simp only [qap,e1,e2,e3,a1,a2,a3,b1,b2,b3,qNe,qNp,s1,s2,pl,z0]
 generalize l.1=k
 generalize l.2.2.2.1=A at *
 generalize l.2.2.2.2=B at *
 generalize l.2.1=T at *
 generalize l.2.2.1=o at *
 by_cases k1:k=1
 ·subst k1
  have n1:iEq 1 1=true:=rfl
  have n2:iEq 1 2=false:=rfl
  have n3:iEq 1 3=false:=rfl
  rw [n1,n2,n3]
  by_cases h0:o=0 <;> by_cases hA:A=tm0 <;> by_cases hB:B=tm0 <;> cases hT:atOk T <;> simp [h0,hA,hB,hT,td_t,td_f,te_t,te_f]
 ·by_cases k2:k=2
  ·subst k2
   have n1:iEq 2 1=false:=rfl
   have n2:iEq 2 2=true:=rfl
   have n3:iEq 2 3=false:=rfl
   rw [n1,n2,n3]
   cases hT:atOk T with
   | true =>
    simp only [td_t,te_t,o1]
    by_cases h0:o=0 <;> by_cases hA:A=tm0 <;> by_cases hB:B=tm0 <;> simp [h0,hA,hB,td_t,td_f,te_t,te_f]
   | false =>
    by_cases h0:o=0 <;> by_cases hA:A=tm0 <;> by_cases hB:B=tm0 <;> simp [h0,hA,hB,td_t,td_f,te_t,te_f]
  ·have n1:iEq k 1=false:=by simp [k1]
   have n2:iEq k 2=false:=by simp [k2]
   rw [n1,n2]
   by_cases k3:k=3
   ·subst k3
    have n3:iEq 3 3=true:=rfl
    rw [n3]
    cases hO:opOk o with
    | false=>cases tmOk A <;> cases tmOk B <;> by_cases hT:T=([],[]) <;> simp [hT,td_f,te_f]
    | true =>
     have hsp:=osp hO
     cases hA:tmOk A <;> cases hB:tmOk B <;> by_cases hT:T=([],[]) <;>
      (simp only [td_t,td_f,te_t,te_f,ie00,qNv,o2,o3,o4,o5,one',if_true,hT,decide_true,decide_false]; simp [hsp,hT,td_t,td_f,te_t,te_f])
   ·have n3:iEq k 3=false:=by simp [k3]
    rw [n3]
    simp [k1,k2,k3,td_f,te_f]
theorem qqW {l:Li} (h:liS l):qdN l.1 l.2.1.1 (rOf cM l.2.1.2) l.2.2.1 l.2.2.2.1.1 l.2.2.2.1.2.1 l.2.2.2.1.2.2.1 l.2.2.2.1.2.2.2.1 l.2.2.2.1.2.2.2.2 l.2.2.2.2.1 l.2.2.2.2.2.1 l.2.2.2.2.2.2.1 l.2.2.2.2.2.2.2.1 l.2.2.2.2.2.2.2.2=true:=by simp only [qdN,qdL,qcF,qi5 h]; simp
theorem qrP {l:Li} (h:liS l):qcF l.1 l.2.1.1 (rOf cM l.2.1.2) l.2.2.1 l.2.2.2.1.1 l.2.2.2.1.2.1 l.2.2.2.1.2.2.1 l.2.2.2.1.2.2.2.1 l.2.2.2.1.2.2.2.2 l.2.2.2.2.1 l.2.2.2.2.2.1 l.2.2.2.2.2.2.1 l.2.2.2.2.2.2.2.1 l.2.2.2.2.2.2.2.2=tdS (liOk l) (liT l):=by simp only [qdN,qdL,qcF,qi5 h]; simp
theorem qp1 {l:Li} (h:liS l):qdL l.1 l.2.1.1 (rOf cM l.2.1.2) l.2.2.1 l.2.2.2.1.1 l.2.2.2.1.2.1 l.2.2.2.1.2.2.1 l.2.2.2.1.2.2.2.1 l.2.2.2.1.2.2.2.2 l.2.2.2.2.1 l.2.2.2.2.2.1 l.2.2.2.2.2.2.1 l.2.2.2.2.2.2.2.1 l.2.2.2.2.2.2.2.2=tdE (liOk l):=by simp only [qdN,qdL,qcF,qi5 h]; simp
theorem qxA {l:List Li} (hs:∀ a ∈ l,liS a) (hn:l.length≤100000) (s s2:Txt) (rr:List (List PV)) :
  (l.all liOk=true→qds [.ptr 0 0,.str s,.sl [] (.tok 0),.int .i64 0] ⟨[[.str s2,.sl rr .non,.sl (rOf cL l) .non]],[(0,1,9)],[48]⟩=some (.exit 0,[.str s,.sl (rOf cS (l.map liT)) (.tok 0)],⟨[[.str s2,.sl rr .non,.sl (rOf cL l) .non]],[((l.map liT).length,1,9)],[48]⟩)) ∧
  (l.all liOk=false→∃ k:Nat,qds [.ptr 0 0,.str s,.sl [] (.tok 0),.int .i64 0] ⟨[[.str s2,.sl rr .non,.sl (rOf cL l) .non]],[(0,1,9)],[48]⟩=some (.ret,[.str [],.int .i64 140],⟨[[.str s2,.sl rr .non,.sl (rOf cL l) .non]],[(k,1,9)],[48]⟩)):=by
 have hl:=qcS (l:=l) l.length (Nat.le_refl _) (V:=fun i b=>qds [.ptr 0 0,.str s,.sl (rOf cS b) (.tok 0),.int .i64 (i:Nat)] ⟨[[.str s2,.sl rr .non,.sl (rOf cL l) .non]],[(b.length,1,9)],[48]⟩) liOk liT (fun b=>some (.exit 0,[.str s,.sl (rOf cS b) (.tok 0)],⟨[[.str s2,.sl rr .non,.sl (rOf cL l) .non]],[(b.length,1,9)],[48]⟩)) (fun r=>∃ k:Nat,r=some (.ret,[.str [],.int .i64 140],⟨[[.str s2,.sl rr .non,.sl (rOf cL l) .non]],[(k,1,9)],[48]⟩)) ?_ ?_ ?_
 ·rw [List.take_length] at hl
  exact hl
 ·intro i b a hb hi hi2 ha ho
  have hm:liS a:=hs a (ha ▸ List.getElem_mem hi)
  have q1:iLt (i:Int) (xLen (rOf cL l))=true:=by simp; omega
  have q3:qak (i:Int)=true:=by simp
  have q4:qbs [PV.int .i64 0,.str [],.sl [] .full,.int .i64 0,.int .i64 0,.str [],.int .i64 0,.int .i64 0,.str [],.int .i64 0,.str [],.int .i64 0,.int .i64 0,.str []] (rOf cL l) (nNat (i:Int))=true:=by simp; omega
  have w:=qbj (i:=i) (by omega)
  have e1:=qqW hm
  have e2:=qrP hm
  have e3:=qp1 hm
  rw [ho] at e2 e3
  have z1:iNe (tdE true) 0=false:=rfl
  have z2:iNe (tdE false) 0=true:=rfl
  have z3:∀ s,tdS true s=s:=fun _=>rfl
  have z4:tdE false=140:=rfl
  have x0:xInt (rOf cL l) (nNat (i:Int)) 0=a.1:=by simp [hi,ha]
  have x1:xStr (rOf cL l) (nNat (i:Int)) 1=a.2.1.1:=by simp [hi,ha]
  have x2:xRow (rOf cL l) (nNat (i:Int)) 2=rOf cM a.2.1.2:=by simp [hi,ha]
  have x3:xInt (rOf cL l) (nNat (i:Int)) 3=a.2.2.1:=by simp [hi,ha]
  have x4:xInt (rOf cL l) (nNat (i:Int)) 4=a.2.2.2.1.1:=by simp [hi,ha]
  have x5:xStr (rOf cL l) (nNat (i:Int)) 5=a.2.2.2.1.2.1:=by simp [hi,ha]
  have x6:xInt (rOf cL l) (nNat (i:Int)) 6=a.2.2.2.1.2.2.1:=by simp [hi,ha]
  have x7:xInt (rOf cL l) (nNat (i:Int)) 7=a.2.2.2.1.2.2.2.1:=by simp [hi,ha]
  have x8:xStr (rOf cL l) (nNat (i:Int)) 8=a.2.2.2.1.2.2.2.2:=by simp [hi,ha]
  have x9:xInt (rOf cL l) (nNat (i:Int)) 9=a.2.2.2.2.1:=by simp [hi,ha]
  have x10:xStr (rOf cL l) (nNat (i:Int)) 10=a.2.2.2.2.2.1:=by simp [hi,ha]
  have x11:xInt (rOf cL l) (nNat (i:Int)) 11=a.2.2.2.2.2.2.1:=by simp [hi,ha]
  have x12:xInt (rOf cL l) (nNat (i:Int)) 12=a.2.2.2.2.2.2.2.1:=by simp [hi,ha]
  have x13:xStr (rOf cL l) (nNat (i:Int)) 13=a.2.2.2.2.2.2.2.2:=by simp [hi,ha]
  have o1:∀ c,qaz (rOf cS b) [c] 16=true:=fun c=>by simp; omega
  have o2:∀ t:Txt,qas [[PV.str t]] 1=true:=fun t=>by simp [one]
  have o3:qao (rOf cS b) 1=true:=qdl _
  have o4:nEq b.length (nXs (rOf cS b))=true:=by simp
  show qds [.ptr 0 0,.str s,.sl (rOf cS b) (.tok 0),.int .i64 (i:Nat)] ⟨[[.str s2,.sl rr .non,.sl (rOf cL l) .non]],[(b.length,1,9)],[48]⟩=qds [.ptr 0 0,.str s,.sl (rOf cS (b++[liT a])) (.tok 0),.int .i64 ((i+1:Nat):Int)] ⟨[[.str s2,.sl rr .non,.sl (rOf cL l) .non]],[((b++[liT a]).length,1,9)],[48]⟩
  rw [qtB]
  simp only [qi7,q1,q3,q4,x0,x1,x2,x3,x4,x5,x6,x7,x8,x9,x10,x11,x12,x13,qap,e1,e2,e3,z1,z3,o1,o2,o3,o4,w]
  simp
 ·intro i b a hb hi hi2 ha ho
  have hm:liS a:=hs a (ha ▸ List.getElem_mem hi)
  have q1:iLt (i:Int) (xLen (rOf cL l))=true:=by simp; omega
  have q3:qak (i:Int)=true:=by simp
  have q4:qbs [PV.int .i64 0,.str [],.sl [] .full,.int .i64 0,.int .i64 0,.str [],.int .i64 0,.int .i64 0,.str [],.int .i64 0,.str [],.int .i64 0,.int .i64 0,.str []] (rOf cL l) (nNat (i:Int))=true:=by simp; omega
  have w:=qbj (i:=i) (by omega)
  have e1:=qqW hm
  have e2:=qrP hm
  have e3:=qp1 hm
  rw [ho] at e2 e3
  have z1:iNe (tdE true) 0=false:=rfl
  have z2:iNe (tdE false) 0=true:=rfl
  have z3:∀ s,tdS true s=s:=fun _=>rfl
  have z4:tdE false=140:=rfl
  have x0:xInt (rOf cL l) (nNat (i:Int)) 0=a.1:=by simp [hi,ha]
  have x1:xStr (rOf cL l) (nNat (i:Int)) 1=a.2.1.1:=by simp [hi,ha]
  have x2:xRow (rOf cL l) (nNat (i:Int)) 2=rOf cM a.2.1.2:=by simp [hi,ha]
  have x3:xInt (rOf cL l) (nNat (i:Int)) 3=a.2.2.1:=by simp [hi,ha]
  have x4:xInt (rOf cL l) (nNat (i:Int)) 4=a.2.2.2.1.1:=by simp [hi,ha]
  have x5:xStr (rOf cL l) (nNat (i:Int)) 5=a.2.2.2.1.2.1:=by simp [hi,ha]
  have x6:xInt (rOf cL l) (nNat (i:Int)) 6=a.2.2.2.1.2.2.1:=by simp [hi,ha]
  have x7:xInt (rOf cL l) (nNat (i:Int)) 7=a.2.2.2.1.2.2.2.1:=by simp [hi,ha]
  have x8:xStr (rOf cL l) (nNat (i:Int)) 8=a.2.2.2.1.2.2.2.2:=by simp [hi,ha]
  have x9:xInt (rOf cL l) (nNat (i:Int)) 9=a.2.2.2.2.1:=by simp [hi,ha]
  have x10:xStr (rOf cL l) (nNat (i:Int)) 10=a.2.2.2.2.2.1:=by simp [hi,ha]
  have x11:xInt (rOf cL l) (nNat (i:Int)) 11=a.2.2.2.2.2.2.1:=by simp [hi,ha]
  have x12:xInt (rOf cL l) (nNat (i:Int)) 12=a.2.2.2.2.2.2.2.1:=by simp [hi,ha]
  have x13:xStr (rOf cL l) (nNat (i:Int)) 13=a.2.2.2.2.2.2.2.2:=by simp [hi,ha]
  show ∃ k:Nat,qds [.ptr 0 0,.str s,.sl (rOf cS b) (.tok 0),.int .i64 (i:Nat)] ⟨[[.str s2,.sl rr .non,.sl (rOf cL l) .non]],[(b.length,1,9)],[48]⟩=_
  refine ⟨b.length,?_⟩
  rw [qtB]
  simp only [qi7,q1,q3,q4,x0,x1,x2,x3,x4,x5,x6,x7,x8,x9,x10,x11,x12,x13,qap,e1,e3,z2,z4]
  simp
 ·intro b hb
  have q1:iLt (l.length:Nat) (xLen (rOf cL l))=false:=by simp
  show qds [.ptr 0 0,.str s,.sl (rOf cS b) (.tok 0),.int .i64 (l.length:Nat)] ⟨[[.str s2,.sl rr .non,.sl (rOf cL l) .non]],[(b.length,1,9)],[48]⟩=_
  rw [qtB]
  simp only [qi7,q1]
  simp
theorem qpB {r:Ru} (h:ruS r):qqL r.1.1 (rOf cM r.1.2) (rOf cL r.2)=some (.tup [.str (tdS (ruOk r) (ruT r)),.int .i64 (tdE (ruOk r))]):=by
 obtain ⟨g1,g2⟩:=qxA (l:=r.2) h.2.2 (by have:=h.2.1; omega) (atT r.1) r.1.1 (rOf cM r.1.2)
 have e1:=qoq h.1
 have e2:=qoN h.1
 have e3:=qoB h.1
 have l1:=qhh h.1
 have j1:=qCW (T:=liT) (M:=14004) (by decide) (by have:=h.2.1; omega) (fun t ht=>qqw (h.2.2 t ht))
 have j2:=qj_v (T:=liT) (M:=14004) (by decide) (by have:=h.2.1; omega) (fun t ht=>qqw (h.2.2 t ht))
 have hj:=qnU (ok:=liOk) (T:=liT) (M:=14004) [44,32] r.2 8 h.2.1 (fun t ht=>qqw (h.2.2 t ht))
 simp at hj
 unfold qqL qvd ruT ruOk
 simp only [qap,e1,e2,e3]
 cases hN:atOk r.1 with
 | false=>simp [td_f,te_f]
 | true =>
  simp only [td_t,te_t]
  cases hA:r.2.all liOk with
  | true =>
   have h':qcd (atT r.1) [] 0 r.1.1 (rOf cM r.1.2) (rOf cL r.2) 0=_:=g1 hA
   rw [qsJ hA] at j2
   have o1:qan (atT r.1) [46]=true:=qaK (by simp; omega)
   have o2:qan (atT r.1) [32,58,45,32]=true:=qaK (by simp; omega)
   have o3:qan (sApp (atT r.1) [32,58,45,32]) (jn liOk liT [44,32] r.2)=true:=qaK (by simp; omega)
   have o4:qan (sApp (sApp (atT r.1) [32,58,45,32]) (jn liOk liT [44,32] r.2)) [46]=true:=qaK (by simp; omega)
   simp only [qjY,qjF,qjk,qj2,qdi,qgH,qih,qiq,qjO,qja,qhM,qhH,qgD,qcB,h']
   by_cases h0:r.2=[]
   ·simp [h0,td_t,te_t,mxl]
    omega
   ·have h1:0 < r.2.length:=List.length_pos_iff.2 h0
    simp [h0,h1,j1,j2,o3,o4,td_t,te_t,mxl]
    try omega
  | false =>
   obtain ⟨k,hk⟩:=g2 hA
   have h':qcd (atT r.1) [] 0 r.1.1 (rOf cM r.1.2) (rOf cL r.2) 0=_:=hk
   simp only [qjY,qjF,qjk,qj2,qdi,qgH,qih,qiq,qjO,qja,qhM,qhH,qgD,qcB,h']
   simp [td_f,te_f]
theorem qIi {r:Ru} (h:ruS r):qg6 r.1.1 (rOf cM r.1.2) (rOf cL r.2)=true:=by simp only [qg6,qkQ,qkI,qpB h]; simp
theorem qGY {r:Ru} (h:ruS r):qkI r.1.1 (rOf cM r.1.2) (rOf cL r.2)=tdS (ruOk r) (ruT r):=by simp only [qg6,qkQ,qkI,qpB h]; simp
theorem qGX {r:Ru} (h:ruS r):qkQ r.1.1 (rOf cM r.1.2) (rOf cL r.2)=tdE (ruOk r):=by simp only [qg6,qkQ,qkI,qpB h]; simp
theorem qrF {l:List Int} (hs:∀ a ∈ l,tyS a) (hn:l.length≤100000) (s s2:Txt) (b2:Bool) :
  (l.all tyOk=true→qdv [.ptr 0 0,.str s,.sl [] (.tok 0),.int .i64 0] ⟨[[.str s2,.bool b2,.sl (rOf cI l) .non]],[(0,1,9)],[51]⟩=some (.exit 0,[.ptr 0 0,.str s,.sl (rOf cS (l.map tyT)) (.tok 0)],⟨[[.str s2,.bool b2,.sl (rOf cI l) .non]],[((l.map tyT).length,1,9)],[51]⟩)) ∧
  (l.all tyOk=false→∃ k:Nat,qdv [.ptr 0 0,.str s,.sl [] (.tok 0),.int .i64 0] ⟨[[.str s2,.bool b2,.sl (rOf cI l) .non]],[(0,1,9)],[51]⟩=some (.ret,[.str [],.int .i64 140],⟨[[.str s2,.bool b2,.sl (rOf cI l) .non]],[(k,1,9)],[51]⟩)):=by
 have hl:=qcS (l:=l) l.length (Nat.le_refl _) (V:=fun i b=>qdv [.ptr 0 0,.str s,.sl (rOf cS b) (.tok 0),.int .i64 (i:Nat)] ⟨[[.str s2,.bool b2,.sl (rOf cI l) .non]],[(b.length,1,9)],[51]⟩) tyOk tyT (fun b=>some (.exit 0,[.ptr 0 0,.str s,.sl (rOf cS b) (.tok 0)],⟨[[.str s2,.bool b2,.sl (rOf cI l) .non]],[(b.length,1,9)],[51]⟩)) (fun r=>∃ k:Nat,r=some (.ret,[.str [],.int .i64 140],⟨[[.str s2,.bool b2,.sl (rOf cI l) .non]],[(k,1,9)],[51]⟩)) ?_ ?_ ?_
 ·rw [List.take_length] at hl
  exact hl
 ·intro i b a hb hi hi2 ha ho
  have hm:tyS a:=hs a (ha ▸ List.getElem_mem hi)
  have q1:iLt (i:Int) (xLen (rOf cI l))=true:=by simp; omega
  have q3:qak (i:Int)=true:=by simp
  have q4:qbs [PV.int .i64 0] (rOf cI l) (nNat (i:Int))=true:=by simp; omega
  have w:=qbj (i:=i) (by omega)
  have e1:=quv a
  have e2:=qAC a
  have e3:=qzQ a
  rw [ho] at e3
  have x0:xInt (rOf cI l) (nNat (i:Int)) 0=a:=by simp [hi,ha]
  have o1:∀ c,qaz (rOf cS b) [c] 16=true:=fun c=>by simp; omega
  have o2:∀ t:Txt,qas [[PV.str t]] 1=true:=fun t=>by simp [one]
  have o3:qao (rOf cS b) 1=true:=qdl _
  have o4:nEq b.length (nXs (rOf cS b))=true:=by simp
  show qdv [.ptr 0 0,.str s,.sl (rOf cS b) (.tok 0),.int .i64 (i:Nat)] ⟨[[.str s2,.bool b2,.sl (rOf cI l) .non]],[(b.length,1,9)],[51]⟩=qdv [.ptr 0 0,.str s,.sl (rOf cS (b++[tyT a])) (.tok 0),.int .i64 ((i+1:Nat):Int)] ⟨[[.str s2,.bool b2,.sl (rOf cI l) .non]],[((b++[tyT a]).length,1,9)],[51]⟩
  rw [qu8]
  simp only [qiR,q1,q3,q4,x0,qap,e1,e2,e3,Bool.not_true,o1,o2,o3,o4,w]
  simp
 ·intro i b a hb hi hi2 ha ho
  have hm:tyS a:=hs a (ha ▸ List.getElem_mem hi)
  have q1:iLt (i:Int) (xLen (rOf cI l))=true:=by simp; omega
  have q3:qak (i:Int)=true:=by simp
  have q4:qbs [PV.int .i64 0] (rOf cI l) (nNat (i:Int))=true:=by simp; omega
  have w:=qbj (i:=i) (by omega)
  have e1:=quv a
  have e2:=qAC a
  have e3:=qzQ a
  rw [ho] at e3
  have x0:xInt (rOf cI l) (nNat (i:Int)) 0=a:=by simp [hi,ha]
  show ∃ k:Nat,qdv [.ptr 0 0,.str s,.sl (rOf cS b) (.tok 0),.int .i64 (i:Nat)] ⟨[[.str s2,.bool b2,.sl (rOf cI l) .non]],[(b.length,1,9)],[51]⟩=_
  refine ⟨b.length,?_⟩
  rw [qu8]
  simp only [qiR,q1,q3,q4,x0,qap,e1,e2,e3,Bool.not_false]
  simp
 ·intro b hb
  have q1:iLt (l.length:Nat) (xLen (rOf cI l))=false:=by simp
  show qdv [.ptr 0 0,.str s,.sl (rOf cS b) (.tok 0),.int .i64 (l.length:Nat)] ⟨[[.str s2,.bool b2,.sl (rOf cI l) .non]],[(b.length,1,9)],[51]⟩=_
  rw [qu8]
  simp only [qiR,q1]
  simp
theorem qpt {d:De} (h:deS d):qrJ d.1 d.2.1 (rOf cI d.2.2)=some (.tup [.str (tdS (deOk d) (deT d)),.int .i64 (tdE (deOk d))]):=by
 obtain ⟨n,b,l⟩:=d
 obtain ⟨hn,hl⟩:=h
 simp only at hn hl
 have hb:n.length≤65536:=Nat.le_trans hn (by decide)
 have j1:=qCW (T:=tyT) (M:=3) (by decide) (by omega) (fun t (_:t ∈ l)=>qir t)
 have j2:=qj_v (T:=tyT) (M:=3) (by decide) (by omega) (fun t (_:t ∈ l)=>qir t)
 have hj:=qnU (ok:=tyOk) (T:=tyT) (M:=3) [44,32] l 12 hl (fun t _=>qir t)
 simp at hj
 unfold qrJ qvz deT deOk
 simp only [qt0 hb,qxO hb]
 cases b with
 | true =>
  obtain ⟨g1,g2⟩:=qrF (l:=l) (fun _ _=>trivial) (by omega) [98,97,115,101,32] n true
  cases hN:nmB n with
  | false=>simp [td_f,te_f]
  | true =>
   cases hA:l.all tyOk with
   | true =>
    have h':qb1 [98,97,115,101,32] [] 0 n true (rOf cI l) 0=_:=g1 hA
    rw [qsJ hA] at j2
    have o1:qan [98,97,115,101,32] n=true:=qaK (by simp; omega)
    have o2:qan (sApp [98,97,115,101,32] n) [40]=true:=qaK (by simp; omega)
    have o3:qan (sApp (sApp [98,97,115,101,32] n) [40]) (jn tyOk tyT [44,32] l)=true:=qaK (by simp; omega)
    have o4:qan (sApp (sApp (sApp [98,97,115,101,32] n) [40]) (jn tyOk tyT [44,32] l)) [41,46]=true:=qaK (by simp; omega)
    simp only [qfp,qfq,qes,qeq,qfk,qfm,qbT,qdM,qfo,qfi,qeA,qbv,qdK,qbI,h']
    simp [j1,j2,o1,o2,o3,o4,td_t,te_t,mxl]
    try omega
   | false =>
    obtain ⟨k,hk⟩:=g2 hA
    have h':qb1 [98,97,115,101,32] [] 0 n true (rOf cI l) 0=_:=hk
    simp only [qfp,qfq,qes,qeq,qfk,qfm,qbT,qdM,qfo,qfi,qeA,qbv,qdK,qbI,h']
    simp [td_f,te_f]
 | false =>
  obtain ⟨g1,g2⟩:=qrF (l:=l) (fun _ _=>trivial) (by omega) [118,105,101,119,32] n false
  cases hN:nmB n with
  | false=>simp [td_f,te_f]
  | true =>
   cases hA:l.all tyOk with
   | true =>
    have h':qb1 [118,105,101,119,32] [] 0 n false (rOf cI l) 0=_:=g1 hA
    rw [qsJ hA] at j2
    have o1:qan [118,105,101,119,32] n=true:=qaK (by simp; omega)
    have o2:qan (sApp [118,105,101,119,32] n) [40]=true:=qaK (by simp; omega)
    have o3:qan (sApp (sApp [118,105,101,119,32] n) [40]) (jn tyOk tyT [44,32] l)=true:=qaK (by simp; omega)
    have o4:qan (sApp (sApp (sApp [118,105,101,119,32] n) [40]) (jn tyOk tyT [44,32] l)) [41,46]=true:=qaK (by simp; omega)
    simp only [qfp,qfq,qes,qeq,qfk,qfm,qbT,qdM,qfo,qfi,qeA,qbv,qdK,qbI,h']
    simp [j1,j2,o1,o2,o3,o4,td_t,te_t,mxl]
    try omega
   | false =>
    obtain ⟨k,hk⟩:=g2 hA
    have h':qb1 [118,105,101,119,32] [] 0 n false (rOf cI l) 0=_:=hk
    simp only [qfp,qfq,qes,qeq,qfk,qfm,qbT,qdM,qfo,qfi,qeA,qbv,qdK,qbI,h']
    simp [td_f,te_f]
theorem qHO {d:De} (h:deS d):qgG d.1 d.2.1 (rOf cI d.2.2)=true:=by simp only [qgG,qkX,qkT,qpt h]; simp
theorem qG0 {d:De} (h:deS d):qkT d.1 d.2.1 (rOf cI d.2.2)=tdS (deOk d) (deT d):=by simp only [qgG,qkX,qkT,qpt h]; simp
theorem qIq {d:De} (h:deS d):qkX d.1 d.2.1 (rOf cI d.2.2)=tdE (deOk d):=by simp only [qgG,qkX,qkT,qpt h]; simp
theorem qxV {l:List Ac} (hs:∀ a ∈ l,acS a) (hn:l.length≤100000) (s:Txt) (rr:List (List PV)) :
  (l.all acOk=true→qdt [.ptr 0 0,.sl [] (.tok 0),.int .i64 0] ⟨[[.str s,.sl rr .non,.sl (rOf cAc l) .non]],[(0,1,9)],[55]⟩=some (.exit 0,[.sl (rOf cS (l.map acT)) (.tok 0)],⟨[[.str s,.sl rr .non,.sl (rOf cAc l) .non]],[((l.map acT).length,1,9)],[55]⟩)) ∧
  (l.all acOk=false→∃ k:Nat,qdt [.ptr 0 0,.sl [] (.tok 0),.int .i64 0] ⟨[[.str s,.sl rr .non,.sl (rOf cAc l) .non]],[(0,1,9)],[55]⟩=some (.ret,[.str [],.int .i64 140],⟨[[.str s,.sl rr .non,.sl (rOf cAc l) .non]],[(k,1,9)],[55]⟩)):=by
 have hl:=qcS (l:=l) l.length (Nat.le_refl _) (V:=fun i b=>qdt [.ptr 0 0,.sl (rOf cS b) (.tok 0),.int .i64 (i:Nat)] ⟨[[.str s,.sl rr .non,.sl (rOf cAc l) .non]],[(b.length,1,9)],[55]⟩) acOk acT (fun b=>some (.exit 0,[.sl (rOf cS b) (.tok 0)],⟨[[.str s,.sl rr .non,.sl (rOf cAc l) .non]],[(b.length,1,9)],[55]⟩)) (fun r=>∃ k:Nat,r=some (.ret,[.str [],.int .i64 140],⟨[[.str s,.sl rr .non,.sl (rOf cAc l) .non]],[(k,1,9)],[55]⟩)) ?_ ?_ ?_
 ·rw [List.take_length] at hl
  exact hl
 ·intro i b a hb hi hi2 ha ho
  have hm:acS a:=hs a (ha ▸ List.getElem_mem hi)
  have q1:iLt (i:Int) (xLen (rOf cAc l))=true:=by simp; omega
  have q3:qak (i:Int)=true:=by simp
  have q4:qbs [PV.bool false,.str [],.sl [] .full] (rOf cAc l) (nNat (i:Int))=true:=by simp; omega
  have w:=qbj (i:=i) (by omega)
  have hm':atS a.2:=hm
  have e1:=qoq hm'
  have e2:=qoN hm'
  have e3:=qoB hm'
  have ho':atOk a.2=_:=ho
  rw [ho'] at e2 e3
  have z1:iNe (tdE true) 0=false:=rfl
  have z2:iNe (tdE false) 0=true:=rfl
  have z3:∀ s,tdS true s=s:=fun _=>rfl
  have z4:tdE false=140:=rfl
  have l1:=qhh hm'
  have o5:∀ c,qan [c] (atT a.2)=true:=fun c=>qaK (by simp; omega)
  have x0:qf8 (rOf cAc l) (nNat (i:Int)) 0=a.1:=by simp [hi,ha]
  have x1:xStr (rOf cAc l) (nNat (i:Int)) 1=a.2.1:=by simp [hi,ha]
  have x2:xRow (rOf cAc l) (nNat (i:Int)) 2=rOf cM a.2.2:=by simp [hi,ha]
  have o1:∀ c,qaz (rOf cS b) [c] 16=true:=fun c=>by simp; omega
  have o2:∀ t:Txt,qas [[PV.str t]] 1=true:=fun t=>by simp [one]
  have o3:qao (rOf cS b) 1=true:=qdl _
  have o4:nEq b.length (nXs (rOf cS b))=true:=by simp
  show qdt [.ptr 0 0,.sl (rOf cS b) (.tok 0),.int .i64 (i:Nat)] ⟨[[.str s,.sl rr .non,.sl (rOf cAc l) .non]],[(b.length,1,9)],[55]⟩=qdt [.ptr 0 0,.sl (rOf cS (b++[acT a])) (.tok 0),.int .i64 ((i+1:Nat):Int)] ⟨[[.str s,.sl rr .non,.sl (rOf cAc l) .non]],[((b++[acT a]).length,1,9)],[55]⟩
  rw [quU]
  simp only [qiy,q1,q3,q4,x0,x1,x2,qap,e1,e2,e3,z1,z3,o5,o1,o2,o3,o4,w]
  cases h1:a.1 <;> simp [acT,h1]
 ·intro i b a hb hi hi2 ha ho
  have hm:acS a:=hs a (ha ▸ List.getElem_mem hi)
  have q1:iLt (i:Int) (xLen (rOf cAc l))=true:=by simp; omega
  have q3:qak (i:Int)=true:=by simp
  have q4:qbs [PV.bool false,.str [],.sl [] .full] (rOf cAc l) (nNat (i:Int))=true:=by simp; omega
  have w:=qbj (i:=i) (by omega)
  have hm':atS a.2:=hm
  have e1:=qoq hm'
  have e2:=qoN hm'
  have e3:=qoB hm'
  have ho':atOk a.2=_:=ho
  rw [ho'] at e2 e3
  have z1:iNe (tdE true) 0=false:=rfl
  have z2:iNe (tdE false) 0=true:=rfl
  have z3:∀ s,tdS true s=s:=fun _=>rfl
  have z4:tdE false=140:=rfl
  have l1:=qhh hm'
  have o5:∀ c,qan [c] (atT a.2)=true:=fun c=>qaK (by simp; omega)
  have x0:qf8 (rOf cAc l) (nNat (i:Int)) 0=a.1:=by simp [hi,ha]
  have x1:xStr (rOf cAc l) (nNat (i:Int)) 1=a.2.1:=by simp [hi,ha]
  have x2:xRow (rOf cAc l) (nNat (i:Int)) 2=rOf cM a.2.2:=by simp [hi,ha]
  show ∃ k:Nat,qdt [.ptr 0 0,.sl (rOf cS b) (.tok 0),.int .i64 (i:Nat)] ⟨[[.str s,.sl rr .non,.sl (rOf cAc l) .non]],[(b.length,1,9)],[55]⟩=_
  refine ⟨b.length,?_⟩
  rw [quU]
  simp only [qiy,q1,q3,q4,x0,x1,x2,qap,e1,e3,z2,z4]
  simp
 ·intro b hb
  have q1:iLt (l.length:Nat) (xLen (rOf cAc l))=false:=by simp
  show qdt [.ptr 0 0,.sl (rOf cS b) (.tok 0),.int .i64 (l.length:Nat)] ⟨[[.str s,.sl rr .non,.sl (rOf cAc l) .non]],[(b.length,1,9)],[55]⟩=_
  rw [quU]
  simp only [qiy,q1]
  simp
def qCe (l:List Ac):Txt:=if l=[] then [] else [58,32]++jn acOk acT [44,32] l
theorem qqN (n:Txt) (rr:List (List PV)) {l:List Ac} (hl:l.length≤8) (hs:∀ a ∈ l,acS a):qrx n rr (rOf cAc l)=some (.tup [.str (tdS (l.all acOk) (qCe l)),.int .i64 (tdE (l.all acOk))]):=by
 obtain ⟨g1,g2⟩:=qxV (l:=l) hs (by omega) n rr
 have j1:=qCW (T:=acT) (M:=14001) (by decide) (by omega) (fun t ht=>qmF (hs t ht))
 have j2:=qj_v (T:=acT) (M:=14001) (by decide) (by omega) (fun t ht=>qmF (hs t ht))
 have hj:=qnU (ok:=acOk) (T:=acT) (M:=14001) [44,32] l 8 hl (fun t ht=>qmF (hs t ht))
 simp at hj
 unfold qrx qt6 qCe
 cases hA:l.all acOk with
 | true =>
  have h':qcr [] 0 n rr (rOf cAc l) 0=_:=g1 hA
  rw [qsJ hA] at j2
  simp only [qjq,qje,qjf,qkb,qdI,qg8,qhW,qhe,qj1,qjA,qh1,qg2,qj6,h']
  by_cases h0:l=[]
  ·simp [h0,td_t,te_t]
  ·simp [h0,j1,j2,td_t,te_t,mxl]
   try omega
 | false =>
  obtain ⟨k,hk⟩:=g2 hA
  have h':qcr [] 0 n rr (rOf cAc l) 0=_:=hk
  simp only [qjq,qje,qjf,qkb,qdI,qg8,qhW,qhe,qj1,qjA,qh1,qg2,qj6,h']
  simp [td_f,te_f]
theorem qH3 (n:Txt) (rr:List (List PV)) {l:List Ac} (hl:l.length≤8) (hs:∀ a ∈ l,acS a):qgJ n rr (rOf cAc l)=true:=by simp only [qgJ,qiO,qia,qqN n rr hl hs]; simp
theorem qIS (n:Txt) (rr:List (List PV)) {l:List Ac} (hl:l.length≤8) (hs:∀ a ∈ l,acS a):qia n rr (rOf cAc l)=tdS (l.all acOk) (qCe l):=by simp only [qgJ,qiO,qia,qqN n rr hl hs]; simp
theorem qHj (n:Txt) (rr:List (List PV)) {l:List Ac} (hl:l.length≤8) (hs:∀ a ∈ l,acS a):qiO n rr (rOf cAc l)=tdE (l.all acOk):=by simp only [qgJ,qiO,qia,qqN n rr hl hs]; simp
theorem qGf {l:List Pa} (hs:∀ a ∈ l,paS a) (hn:l.length≤100000) (s:Txt) (as_:List Ac) :
  (l.all paOk=true→qit [.ptr 0 0,.sl [] (.tok 0),.int .i64 0] ⟨[[.str s,.sl (rOf cP l) .non,.sl (rOf cAc as_) .non]],[(0,1,9)],[55]⟩=some (.exit 0,[.ptr 0 0,.sl (rOf cS (l.map paT)) (.tok 0)],⟨[[.str s,.sl (rOf cP l) .non,.sl (rOf cAc as_) .non]],[((l.map paT).length,1,9)],[55]⟩)) ∧
  (l.all paOk=false→∃ k:Nat,qit [.ptr 0 0,.sl [] (.tok 0),.int .i64 0] ⟨[[.str s,.sl (rOf cP l) .non,.sl (rOf cAc as_) .non]],[(0,1,9)],[55]⟩=some (.ret,[.str [],.int .i64 140],⟨[[.str s,.sl (rOf cP l) .non,.sl (rOf cAc as_) .non]],[(k,1,9)],[55]⟩)):=by
 have hl:=qcS (l:=l) l.length (Nat.le_refl _) (V:=fun i b=>qit [.ptr 0 0,.sl (rOf cS b) (.tok 0),.int .i64 (i:Nat)] ⟨[[.str s,.sl (rOf cP l) .non,.sl (rOf cAc as_) .non]],[(b.length,1,9)],[55]⟩) paOk paT (fun b=>some (.exit 0,[.ptr 0 0,.sl (rOf cS b) (.tok 0)],⟨[[.str s,.sl (rOf cP l) .non,.sl (rOf cAc as_) .non]],[(b.length,1,9)],[55]⟩)) (fun r=>∃ k:Nat,r=some (.ret,[.str [],.int .i64 140],⟨[[.str s,.sl (rOf cP l) .non,.sl (rOf cAc as_) .non]],[(k,1,9)],[55]⟩)) ?_ ?_ ?_
 ·rw [List.take_length] at hl
  exact hl
 ·intro i b a hb hi hi2 ha ho
  have hm:paS a:=hs a (ha ▸ List.getElem_mem hi)
  have q1:iLt (i:Int) (xLen (rOf cP l))=true:=by simp; omega
  have q3:qak (i:Int)=true:=by simp
  have q4:qbs [PV.str [],.int .i64 0] (rOf cP l) (nNat (i:Int))=true:=by simp; omega
  have w:=qbj (i:=i) (by omega)
  have l1:a.1.length≤300:=hm
  have l2:=qir a.2
  have e1:=qys (s:=a.1) (by omega)
  have e2:=qD3 (s:=a.1) (by omega)
  have e3:=quv a.2
  have e4:=qAC a.2
  have e5:=qzQ a.2
  have o5:qan a.1 [32]=true:=qaK (by simp; omega)
  have o6:qan (sApp a.1 [32]) (tyT a.2)=true:=qaK (by simp; omega)
  have x0:xStr (rOf cP l) (nNat (i:Int)) 0=a.1:=by simp [hi,ha]
  have x1:xInt (rOf cP l) (nNat (i:Int)) 1=a.2:=by simp [hi,ha]
  have o1:∀ c,qaz (rOf cS b) [c] 16=true:=fun c=>by simp; omega
  have o2:∀ t:Txt,qas [[PV.str t]] 1=true:=fun t=>by simp [one]
  have o3:qao (rOf cS b) 1=true:=qdl _
  have o4:nEq b.length (nXs (rOf cS b))=true:=by simp
  show qit [.ptr 0 0,.sl (rOf cS b) (.tok 0),.int .i64 (i:Nat)] ⟨[[.str s,.sl (rOf cP l) .non,.sl (rOf cAc as_) .non]],[(b.length,1,9)],[55]⟩=qit [.ptr 0 0,.sl (rOf cS (b++[paT a])) (.tok 0),.int .i64 ((i+1:Nat):Int)] ⟨[[.str s,.sl (rOf cP l) .non,.sl (rOf cAc as_) .non]],[((b++[paT a]).length,1,9)],[55]⟩
  rw [qGx]
  simp only [qpH,q1,q3,q4,x0,x1,qap,e1,e2,e3,e4,e5,o5,o6,o1,o2,o3,o4,w]
  simp only [paOk,Bool.and_eq_true] at ho
  simp [ho.1,ho.2,paT,nt_t]
 ·intro i b a hb hi hi2 ha ho
  have hm:paS a:=hs a (ha ▸ List.getElem_mem hi)
  have q1:iLt (i:Int) (xLen (rOf cP l))=true:=by simp; omega
  have q3:qak (i:Int)=true:=by simp
  have q4:qbs [PV.str [],.int .i64 0] (rOf cP l) (nNat (i:Int))=true:=by simp; omega
  have w:=qbj (i:=i) (by omega)
  have l1:a.1.length≤300:=hm
  have l2:=qir a.2
  have e1:=qys (s:=a.1) (by omega)
  have e2:=qD3 (s:=a.1) (by omega)
  have e3:=quv a.2
  have e4:=qAC a.2
  have e5:=qzQ a.2
  have o5:qan a.1 [32]=true:=qaK (by simp; omega)
  have o6:qan (sApp a.1 [32]) (tyT a.2)=true:=qaK (by simp; omega)
  have x0:xStr (rOf cP l) (nNat (i:Int)) 0=a.1:=by simp [hi,ha]
  have x1:xInt (rOf cP l) (nNat (i:Int)) 1=a.2:=by simp [hi,ha]
  show ∃ k:Nat,qit [.ptr 0 0,.sl (rOf cS b) (.tok 0),.int .i64 (i:Nat)] ⟨[[.str s,.sl (rOf cP l) .non,.sl (rOf cAc as_) .non]],[(b.length,1,9)],[55]⟩=_
  refine ⟨b.length,?_⟩
  rw [qGx]
  simp only [qpH,q1,q3,q4,x0,x1,qap,e1,e2,e3,e4,e5,o5,o6]
  cases hv:vrB a.1 <;> cases ht:tyOk a.2 <;> simp [paOk,hv,ht,nt_t,nt_f] at ho ⊢
 ·intro b hb
  have q1:iLt (l.length:Nat) (xLen (rOf cP l))=false:=by simp
  show qit [.ptr 0 0,.sl (rOf cS b) (.tok 0),.int .i64 (l.length:Nat)] ⟨[[.str s,.sl (rOf cP l) .non,.sl (rOf cAc as_) .non]],[(b.length,1,9)],[55]⟩=_
  rw [qGx]
  simp only [qpH,q1]
  simp
theorem qyr {o:En} (h:enS o):qGS o.1 (rOf cP o.2.1) (rOf cAc o.2.2)=some (.tup [.str (tdS (enOk o) (enT o)),.int .i64 (tdE (enOk o))]):=by
 obtain ⟨n,l,as_⟩:=o
 obtain ⟨hn,⟨hl,hs⟩,⟨hal,has⟩⟩:=h
 simp only at hn hl hs hal has
 obtain ⟨g1,g2⟩:=qGf (l:=l) hs (by omega) n as_
 have hb:n.length≤65536:=Nat.le_trans hn (by decide)
 have j1:=qCW (T:=paT) (M:=304) (by decide) (by omega) (fun t ht=>qpM (hs t ht))
 have j2:=qj_v (T:=paT) (M:=304) (by decide) (by omega) (fun t ht=>qpM (hs t ht))
 have hj:=qnU (ok:=paOk) (T:=paT) (M:=304) [44,32] l 12 hl (fun t ht=>qpM (hs t ht))
 have hj2:=qnU (ok:=acOk) (T:=acT) (M:=14001) [44,32] as_ 8 hal (fun t ht=>qmF (has t ht))
 simp at hj hj2
 have hj3:(qCe as_).length≤112026:=by
  unfold qCe
  split <;> simp
  omega
 have a1:=qH3 n (rOf cP l) hal has
 have a2:=qIS n (rOf cP l) hal has
 have a3:=qHj n (rOf cP l) hal has
 unfold qGS qD1 enT enOk
 simp only [qt0 hb,qxO hb]
 cases hN:nmB n with
 | false=>simp [td_f,te_f]
 | true =>
  cases hA:l.all paOk with
  | true =>
   have h':qfW [] 0 n (rOf cP l) (rOf cAc as_) 0=_:=g1 hA
   rw [qsJ hA] at j2
   simp only [qn2,qpn,qoh,qoa,qeO,qlP,qmz,qdo,qoi,qeN,qlr,qmg,qb6,h']
   cases hC:as_.all acOk with
   | true =>
    rw [hC,td_t] at a2
    rw [hC,te_t] at a3
    have aT:(if as_=[] then [] else [58,32]++jn acOk acT [44,32] as_)=qCe as_:=rfl
    simp only [aT]
    simp [j1,j2,a1,a2,a3,td_t,te_t,mxl]
    try omega
   | false =>
    rw [hC,te_f] at a3
    simp [a1,a3,td_f,te_f]
  | false =>
   obtain ⟨k,hk⟩:=g2 hA
   have h':qfW [] 0 n (rOf cP l) (rOf cAc as_) 0=_:=hk
   simp only [qn2,qpn,qoh,qoa,qeO,qlP,qmz,qdo,qoi,qeN,qlr,qmg,qb6,h']
   simp [td_f,te_f]
theorem qM3 {o:En} (h:enS o):qnd o.1 (rOf cP o.2.1) (rOf cAc o.2.2)=true:=by simp only [qnd,qyi,qye,qyr h]; simp
theorem qMq {o:En} (h:enS o):qye o.1 (rOf cP o.2.1) (rOf cAc o.2.2)=tdS (enOk o) (enT o):=by simp only [qnd,qyi,qye,qyr h]; simp
theorem qL3 {o:En} (h:enS o):qyi o.1 (rOf cP o.2.1) (rOf cAc o.2.2)=tdE (enOk o):=by simp only [qnd,qyi,qye,qyr h]; simp
end Go.Pv
set_option maxHeartbeats 8000000
set_option maxRecDepth 200000
set_option linter.unusedSimpArgs false
set_option linter.unusedVariables false
namespace Go.Pv
open Go Go.Proofs Go.RowKit
theorem qmA (s:Txt):(cutT s).length≤300:=by
 unfold cutT
 rw [List.length_take]
 omega
theorem qEK {t:Tm} (h:tmR t):tmS (cpTm t):=⟨qmA _,h⟩
theorem qDI {a:At} (h:atR a):atS (cpAt a):=by
 refine ⟨qmA _,by simp [cpAt]; omega,fun t ht=>?_⟩
 simp only [cpAt,List.mem_map] at ht
 obtain ⟨u,hu,rfl⟩:=ht
 exact qEK (h u (List.mem_of_mem_take hu))
theorem qMJ {l:Li} (h:liR l):liS (cpLi l):=⟨qDI h.1,qEK h.2.1,qEK h.2.2⟩
theorem qL5 {r:Ru} (h:ruR r):ruS (cpRu r):=by
 refine ⟨qDI h.1,by simp [cpRu]; omega,fun t ht=>?_⟩
 simp only [cpRu,List.mem_map] at ht
 obtain ⟨u,hu,rfl⟩:=ht
 exact qMJ (h.2 u (List.mem_of_mem_take hu))
theorem qNm (d:De):deS (cpDe d):=⟨qmA _,by simp [cpDe]; omega⟩
theorem qNk {o:En} (h:enR o):enS (cpEn o):=by
 refine ⟨qmA _,⟨by simp [cpEn]; omega,fun t ht=>?_⟩,⟨by simp [cpEn]; omega,fun t ht=>?_⟩⟩
 ·simp only [cpEn,List.mem_map] at ht
  obtain ⟨u,hu,rfl⟩:=ht
  exact qmA _
 ·simp only [cpEn,List.mem_map] at ht
  obtain ⟨u,hu,rfl⟩:=ht
  exact qDI (h u (List.mem_of_mem_take hu))
def awX:Tm:=(1,[88],0,0,[])
def awP:At:=([112],[awX])
def awQ:At:=([113],[awX,(3,[],0,0,[])])
def awR:Ru:=(awP,[(2,awQ,0,tm0,tm0),(3,([],[]),2,awX,(2,[],1,-3,[]))])
def awO:En:=([103,111],[([88],1)],[(true,awP)])
theorem qJP:tmS awX:=⟨by decide,by decide,by decide⟩
theorem qMy:tmS tm0:=⟨by decide,by decide,by decide⟩
theorem qMO:atS awP:=⟨by decide,by decide,fun t ht=>by
 simp only [awP,List.mem_singleton] at ht
 subst ht
 exact qJP⟩
theorem qKP:ruS awR:=by
 refine ⟨qMO,by decide,fun l hl=>?_⟩
 simp only [awR,List.mem_cons,List.not_mem_nil,or_false] at hl
 rcases hl with rfl | rfl
 ·refine ⟨⟨by decide,by decide,fun t ht=>?_⟩,qMy,qMy⟩
  simp only [awQ,List.mem_cons,List.not_mem_nil,or_false] at ht
  rcases ht with rfl | rfl
  ·exact qJP
  ·exact ⟨by decide,by decide,by decide⟩
 ·exact ⟨⟨by decide,by decide,fun t ht=>by simp at ht⟩,qJP,⟨by decide,by decide,by decide⟩⟩
theorem qLR:enS awO:=by
 refine ⟨by decide,⟨by decide,fun t ht=>?_⟩,⟨by decide,fun t ht=>?_⟩⟩
 ·simp only [awO,List.mem_singleton] at ht
  subst ht
  exact (by decide:(88 :: ([]:Txt)).length≤300)
 ·simp only [awO,List.mem_singleton] at ht
  subst ht
  exact qMO
theorem qJe:ruOk awR=true:=by kernel_rfl
theorem qNE:ruT awR=[112,40,88,41,32,58,45,32,110,111,116,32,113,40,88,44,32,95,41,44,32,88,32,33,61,32,45,51,46]:=by kernel_rfl
theorem qJa:enOk awO=true:=by kernel_rfl
theorem qNI:enT awO=[111,110,32,103,111,40,88,32,105,110,116,41,58,32,43,112,40,88,41,46]:=by kernel_rfl
theorem awN:nmB [110,111,116]=false:=by kernel_rfl
theorem awV:vrB [65,98]=true:=by kernel_rfl
theorem qvP:qt1=some (.bool true):=by
 unfold qt1 qo2
 have e1:qea awR.1.1 (rOf cM awR.1.2) (rOf cL awR.2)=true:=qA7 qKP
 have e2:qgA awR.1.1 (rOf cM awR.1.2) (rOf cL awR.2)=_:=qAa qKP
 have e3:qgz awR.1.1 (rOf cM awR.1.2) (rOf cL awR.2)=_:=qBa qKP
 have f1:qip awO.1 (rOf cP awO.2.1) (rOf cAc awO.2.2)=true:=qI3 qLR
 have f2:qsf awO.1 (rOf cP awO.2.1) (rOf cAc awO.2.2)=_:=qI7 qLR
 have f3:qse awO.1 (rOf cP awO.2.1) (rOf cAc awO.2.2)=_:=qJj qLR
 rw [qJe,qNE] at e2
 rw [qJe] at e3
 rw [qJa,qNI] at f2
 rw [qJa] at f3
 show (Tr.ite (qea awR.1.1 (rOf cM awR.1.2) (rOf cL awR.2)) (Tr.ite (qip awO.1 (rOf cP awO.2.1) (rOf cAc awO.2.2)) (Tr.ite (iEq (qgz awR.1.1 (rOf cM awR.1.2) (rOf cL awR.2)) 0)
  (Tr.ite (sEq (qgA awR.1.1 (rOf cM awR.1.2) (rOf cL awR.2)) [112,40,88,41,32,58,45,32,110,111,116,32,113,40,88,44,32,95,41,44,32,88,32,33,61,32,45,51,46])
   (Tr.ite (iEq (qse awO.1 (rOf cP awO.2.1) (rOf cAc awO.2.2)) 0) (Tr.ite (sEq (qsf awO.1 (rOf cP awO.2.1) (rOf cAc awO.2.2)) [111,110,32,103,111,40,88,32,105,110,116,41,58,32,43,112,40,88,41,46])
    (Tr.ite (qcT [110,111,116]) (Tr.ite (bNot (qeZ [110,111,116])) (Tr.ite (qgg [65,98]) (Tr.ret (PV.bool (qmw [65,98]))) Tr.fail) (Tr.ret (PV.bool false))) Tr.fail)
    (Tr.ret (PV.bool false))) (Tr.ret (PV.bool false))) (Tr.ret (PV.bool false))) (Tr.ret (PV.bool false))) Tr.fail) Tr.fail).run=_
 rw [e1,e2,e3,f1,f2,f3,qos (by decide),qt7 (by decide),qyw (by decide),qEY (by decide),awN,awV]
 rfl
theorem qHe:qlW=true:=by simp [qlW,qnh,qvP]
theorem qLq:qnh=true:=by simp [qnh,qvP]
theorem qCo {r:Ru} {d:De} {o:En} (hr:ruR r) (ho:enR o):qof r.1.1 (rOf cM r.1.2) (rOf cL r.2) d.1 d.2.1 (rOf cI d.2.2) o.1 (rOf cP o.2.1) (rOf cAc o.2.2)=some (.bool true):=by
 have hr':=qL5 hr
 have hd':=qNm d
 have ho':=qNk ho
 have a1:=qA7 hr'
 have a2:=qAa hr'
 have a3:=qBa hr'
 have a4:=qIi hr'
 have a5:=qGY hr'
 have a6:=qGX hr'
 have b1:=qHw hd'
 have b2:=qIU hd'
 have b3:=qHg hd'
 have b4:=qHO hd'
 have b5:=qG0 hd'
 have b6:=qIq hd'
 have c1:=qI3 ho'
 have c2:=qI7 ho'
 have c3:=qJj ho'
 have c4:=qM3 ho'
 have c5:=qMq ho'
 have c6:=qL3 ho'
 unfold qof qqo
 simp only [qap,qIE,qG9,qIa,qG2,qIn,qHD,qH0,qHd,qMH,qMj,qNl,qM8]
 simp only [cpRu,cpAt,cpDe,cpEn] at a1 a2 a3 a4 a5 a6 b1 b2 b3 b4 b5 b6 c1 c2 c3 c4 c5 c6
 simp only [a1,a2,a3,a4,a5,a6,b1,b2,b3,b4,b5,b6,c1,c2,c3,c4,c5,c6,qHe,qLq]
 simp
end Go.Pv
set_option maxHeartbeats 8000000
set_option maxRecDepth 200000
set_option linter.unusedSimpArgs false
set_option linter.unusedVariables false
namespace Go.Pv
open Go Go.Proofs Go.RowKit
def Std (x:PV):Prop:=∃ H w v,Rel H w x v
def StdL (xs:List PV):Prop:=∃ H w vs,RelL H w xs vs
theorem StdL.at_ {xs:List PV} (h:StdL xs) (i:Nat) {x:PV} (hi:xs[i]?=some x):Std x:=by
 obtain ⟨H,w,vs,h⟩:=h
 obtain ⟨v,_,hr⟩:=h.get hi
 exact ⟨H,w,v,hr⟩
theorem Std.agg {xs:List PV} (h:Std (.agg xs)):StdL xs:=by
 obtain ⟨H,w,v,h⟩:=h
 cases h with
 | agg _ vs h=>exact ⟨H,w,vs,h⟩
theorem Std.rows {α:Type} {C:Cod α} {l:List α} {t:Tag} (h:Std (.sl (rOf C l) t)):∀ a ∈ l,StdL (C.enc a):=by
 obtain ⟨H,w,v,h⟩:=h
 intro a ha
 obtain ⟨i,hi⟩:=List.getElem?_of_mem ha
 cases h with
 | sl p len cap k xs vss t hl hcap hm h hr ht =>
  obtain ⟨u,_,hu⟩:=h.get (qLA C hi)
  exact ⟨H,w,u,hu⟩
theorem Std.int {n:Int} (h:Std (.int .i64 n)):-9223372036854775808≤n∧n≤9223372036854775807:=by
 obtain ⟨H,w,v,h⟩:=h
 cases h with
 | int _ _ hl=>simpa [Lit.wf,IntKind.min,IntKind.max,IntKind.signed,IntKind.bits] using hl
theorem qLr {t:Tm} (h:StdL (cM.enc t)):tmR t:=(h.at_ 3 (x:=.int .i64 t.2.2.2.1) rfl).int
theorem qNt {l:Li} (h:StdL (cL.enc l)):liR l :=
 ⟨fun t ht=>qLr ((h.at_ 2 (x:=.sl (rOf cM l.2.1.2) .non) rfl).rows t ht),(h.at_ 7 (x:=.int .i64 l.2.2.2.1.2.2.2.1) rfl).int,(h.at_ 12 (x:=.int .i64 l.2.2.2.2.2.2.2.1) rfl).int⟩
theorem qNJ {x:Ru} (h:StdL (cRu.enc x)):ruR x :=
 ⟨fun t ht=>qLr ((h.at_ 1 (x:=.sl (rOf cM x.1.2) .non) rfl).rows t ht),fun l hl=>qNt ((h.at_ 2 (x:=.sl (rOf cL x.2) .non) rfl).rows l hl)⟩
theorem qNA {o:En} (h:StdL (cE.enc o)):enR o:=fun a ha t ht=>qLr (Std.rows (C:=cM) (l:=a.2.2) (t:=.non) (((h.at_ 2 (x:=.sl (rOf cAc o.2.2) .non) rfl).rows a ha).at_ 2 rfl) t ht)
theorem qGD (r:Ru) (d:De) (o:En):qmu [.agg (cRu.enc r),.agg (cD.enc d),.agg (cE.enc o)]=.ite (qmG r.1.1 (rOf cM r.1.2) (rOf cL r.2) d.1 d.2.1 (rOf cI d.2.2) o.1 (rOf cP o.2.1) (rOf cAc o.2.2)) (.ret (.bool (qpc r.1.1 (rOf cM r.1.2) (rOf cL r.2) d.1 d.2.1 (rOf cI d.2.2) o.1 (rOf cP o.2.1) (rOf cAc o.2.2)))) .fail:=rfl
theorem qB2 (r:Ru) (d:De) (o:En) (hg:∃ H w vs,RelL H w [.agg (cRu.enc r),.agg (cD.enc d),.agg (cE.enc o)] vs):(qmu [.agg (cRu.enc r),.agg (cD.enc d),.agg (cE.enc o)]).run=some (.bool true):=by
 have hg:StdL [.agg (cRu.enc r),.agg (cD.enc d),.agg (cE.enc o)]:=hg
 have h:=qCo (d:=d) (qNJ (hg.at_ 0 rfl).agg) (qNA (hg.at_ 2 rfl).agg)
 rw [qGD]
 simp [qmG,qpc,h]
end Go.Pv
set_option maxHeartbeats 4000000
set_option maxRecDepth 200000
set_option linter.unusedSimpArgs false
set_option linter.unusedVariables false
namespace Go.Pv
open Go Go.Proofs Go.RowKit Go.Proofs.YtakhnioifgbdfaaGreatDoor
theorem g_pow : Tryz.prog.globalNamed "internal/strconv.uint64pow10" = some 1 := by kernel_rfl
theorem gt_pow:(Tryz.prog.globals[1]?).map (·.type)=some 217:=by kernel_rfl
theorem g_rng : Tryz.prog.globalNamed "strconv.ErrRange" = some 6 := by kernel_rfl
theorem gt_rng:(Tryz.prog.globals[6]?).map (·.type)=some 165:=by kernel_rfl
theorem g_syn : Tryz.prog.globalNamed "strconv.ErrSyntax" = some 5 := by kernel_rfl
theorem gt_syn:(Tryz.prog.globals[5]?).map (·.type)=some 165:=by kernel_rfl
theorem g_two : Tryz.prog.globalNamed "pedigree/lex.twos" = some 0 := by kernel_rfl
theorem gt_two:(Tryz.prog.globals[0]?).map (·.type)=some 211:=by kernel_rfl
def glAt (W:World):Gl:=⟨fun b=>W.heap[b]?,fun _ _=>.cells #[] 0 (0,0),fun _=>[]⟩
def laidL : List (String × DataW Unit) := [("math/bits.deBruijn32tab", Rows.laid_math_bits_deBruijn32tab), ("math/bits.deBruijn64tab", Rows.laid_math_bits_deBruijn64tab), ("internal/strconv.uint64pow10", Rows.laid_internal_strconv_uint64pow10), ("strconv.ErrRange", Rows.laid_strconv_ErrRange), ("strconv.ErrSyntax", Rows.laid_strconv_ErrSyntax), ("pedigree/lex.twos", Rows.laid_pedigree_lex_twos)]
theorem qlg:(laidL.filter fun x=>x.2.handleName?.isSome)=[]:=by kernel_rfl
theorem qBS {W:World} (h:laidMetH Tryz.prog laidL W):GlPow (glAt W):=by
 unfold laidMetH at h
 rw [qlg] at h
 obtain ⟨ps,hl,_⟩:=h
 refine ⟨?_⟩
 obtain ⟨g, t, cs, fuel, p, h1, h2, h3, h4⟩ := qlK (nm := "internal/strconv.uint64pow10") hl (.tail _ (.tail _ (.head _)))
 obtain rfl:=Option.some.inj (g_pow.symm.trans h1)
 obtain rfl:=Option.some.inj (gt_pow.symm.trans h2)
 have e:(Rows.laid_internal_strconv_uint64pow10:DataW Unit)=Lib.tabData .u64 Lib.pow10Tab:=by rfl
 rw [e] at h4
 have hc:=Lib.cells_of_tab Tryz.underlying217 Tryz.underlying132 (by kernel_rfl) (by kernel_rfl) h4
 obtain ⟨T,f,hh⟩:=qoC h1 h3
 refine ⟨1,T,f,g_pow,?_⟩
 show W.heap[1]?=_
 rw [← hc]
 simpa using hh
theorem qDT {W:World} (h0:laidMetH Tryz.prog laidL W):GlOk (glAt W):=by
 have h:=h0
 unfold laidMetH at h
 rw [qlg] at h
 obtain ⟨ps,hl,_⟩:=h
 refine ⟨qBS h0,?_,?_⟩
 ·obtain ⟨g, t, cs, fuel, p, h1, h2, h3, h4⟩ := qlK (nm := "strconv.ErrSyntax") hl (.tail _ (.tail _ (.tail _ (.tail _ (.head _)))))
  obtain rfl:=Option.some.inj (g_syn.symm.trans h1)
  obtain rfl:=Option.some.inj (gt_syn.symm.trans h2)
  obtain ⟨u,v,rfl⟩:=qs2 Tryz.underlying165 h4
  obtain ⟨T,f,hh⟩:=qoC h1 h3
  exact ⟨u,v,5,T,f,g_syn,hh⟩
 ·obtain ⟨g, t, cs, fuel, p, h1, h2, h3, h4⟩ := qlK (nm := "strconv.ErrRange") hl (.tail _ (.tail _ (.tail _ (.head _))))
  obtain rfl:=Option.some.inj (g_rng.symm.trans h1)
  obtain rfl:=Option.some.inj (gt_rng.symm.trans h2)
  obtain ⟨u,v,rfl⟩:=qs2 Tryz.underlying165 h4
  obtain ⟨T,f,hh⟩:=qoC h1 h3
  exact ⟨u,v,6,T,f,g_rng,hh⟩
theorem quD {H:Type} {enc:TypeId × Value→H} {P:Program} {w:World} {base:Nat} {sp:Nat→Bool} {held:Bool} {fuel:Nat} {t e:TypeId} {n:Nat} {cs:List Value} {zs:List (List UInt8)} {p:List MemPlace}
  (ht:P.underlying t=some (.array n e)) (he:P.underlying e=some .string) (hce:P.cellsOf e=1) (hct:P.cellsOf t=n)
  (h:DataW.trod enc P w base sp held fuel t cs=some (.agg (zs.map fun z=>.lit (.string z)),p)):cs=zs.map fun z=>Value.string ⟨z.toArray⟩:=by
 cases fuel with
 | zero=>simp [DataW.trod] at h
 | succ fuel =>
  simp only [DataW.trod,ht,hce,hct,Nat.mul_one] at h
  split at h
  ·rename_i hl
   obtain ⟨xs,hm,hx⟩:=Option.map_eq_some_iff.1 h
   have hxs:xs.map (·.1)=zs.map fun z=>(DataW.lit (.string z):DataW H):=by
    have:=congrArg Prod.fst hx
    simpa using this
   have hxl:xs.length=n:=by simpa using Lib.mapM_length hm
   have hzl:zs.length=n:=by
    have:=congrArg List.length hxs
    simp at this
    omega
   apply List.ext_getElem?
   intro i
   by_cases hi:i < n
   ·obtain ⟨b,hb,hf⟩:=Lib.mapM_at hm i i (by simp [hi])
    obtain ⟨z,hc,rfl,_⟩:=DataW.trod_string he hf
    have h1:cs[i]?=some (.string z):=by
     have:=congrArg (·[0]?) hc
     simpa [List.getElem?_take,List.getElem?_drop] using this
    have h2:(xs.map (·.1))[i]?=some (DataW.lit (.string z.data.toList):DataW H):=by simp [hb]
    rw [hxs] at h2
    simp only [List.getElem?_map,Option.map_eq_some_iff,DataW.lit.injEq,Lit.string.injEq] at h2
    obtain ⟨z',hz',rfl⟩:=h2
    simp [h1,hz']
   ·rw [List.getElem?_eq_none (by omega),List.getElem?_eq_none (by simp; omega)]
  ·cases h
theorem qBq {W:World} (h0:laidMetH Tryz.prog laidL W):GlLex (glAt W):=by
 have h:=h0
 unfold laidMetH at h
 rw [qlg] at h
 obtain ⟨ps,hl,_⟩:=h
 refine ⟨qDT h0,?_⟩
 obtain ⟨g, t, cs, fuel, p, h1, h2, h3, h4⟩ := qlK (nm := "pedigree/lex.twos") hl (.tail _ (.tail _ (.tail _ (.tail _ (.tail _ (.head _))))))
 obtain rfl:=Option.some.inj (g_two.symm.trans h1)
 obtain rfl:=Option.some.inj (gt_two.symm.trans h2)
 have e:(Rows.laid_pedigree_lex_twos:DataW Unit)=.agg (twosV.map fun z=>.lit (.string z)):=by rfl
 rw [e] at h4
 have hc:=quD Tryz.underlying211 Tryz.underlying9 (by kernel_rfl) (by kernel_rfl) h4
 obtain ⟨T,f,hh⟩:=qoC h1 h3
 refine ⟨0,T,f,g_two,?_⟩
 show W.heap[0]?=_
 rw [← hc]
 simpa using hh
theorem qKI:laidOutB Tryz.prog=true:=by kernel_rfl
theorem qD6 {F:List PV→Tr PV} {f:FuncId} {fn:Func} {s:ChangeSpec} (hsim:∀ {gl:Gl},GlLex gl→SimP Tryz.prog gl f fun args=>(F args).run) (hF:∀ xs,ArgL Tryz.prog fn.params.toList xs→(∃ H w vs,RelL H w xs vs)→(F xs).run=some (.bool true))
  (hrt:fn.resultTypes=#[4]) (hsv:s.vars=[]) (hT:(fn.params.toList.all fun t=>okT Tryz.prog 16 t && Tryz.prog.readableRec t && decide (t < Tryz.prog.types.size))=true)
  {H:Type} {enc:TypeId × Value→H} {W:World} {base:Nat} {args:Array Value} {ds gs:List (DataW H)} {before:List MemPlace} (hfn:∀ ds:List (DataW H),ds.length=fn.params.size→s.fn H ds={ results:=[.lit (.bool true)],args:=ds })
  (hval:∀ (j:Nat) t v,fn.params[j]?=some t→args[j]?=some v→Value.okWide Tryz.prog W .any base t v) (hW:DataW.Whole enc Tryz.prog fn.params.toList s.vars false W args.toList ds gs before) (hL:laidMetH Tryz.prog laidL W) :
  Calls Tryz.prog f args W fun e W'=>∃ v,e=.returned v∧s.post enc Tryz.prog fn false true false false W args v W':=by
 have hW':=hW
 obtain ⟨p,q,hA,hV,rfl,hfz,hnd⟩:=hW'
 have hT':∀ t ∈ fn.params.toList,okT Tryz.prog 16 t=true∧Tryz.prog.readableRec t=true∧t < Tryz.prog.types.size:=by
  intro t ht
  have:=List.all_eq_true.1 hT t ht
  simp only [Bool.and_eq_true,decide_eq_true_eq] at this
  exact ⟨this.1.1,this.1.2,this.2⟩
 obtain ⟨xs,hx,ha⟩:=qAB (n:=16) (fun j t v ht hv=>hval j t v (by simpa using ht) (by simpa using hv)) hA (List.all_eq_true.2 fun t ht=>(hT' t ht).1)
 have hlen:ds.length=fn.params.size:=by
  have h1:∀ {ts:List TypeId} {vs:List Value} {ds:List (DataW H)} {ps:List MemPlace},DataW.TrodAll enc Tryz.prog W 0 (fun _=>true) true ts vs ds ps→ds.length=ts.length:=by
   intro ts
   induction ts with
   | nil=>intro vs ds ps h; obtain ⟨rfl,rfl,rfl⟩:=Go.ChangeShapes.trodAll_nil h; rfl
   | cons t ts ih =>
    intro vs ds ps h
    obtain ⟨v,vs',d,ds',p,q,rfl,rfl,rfl,hd,hrest⟩:=Go.ChangeShapes.trodAll_cons h
    simp [ih hrest]
  simpa using h1 hA
 have hc:=(hsim (qBq hL)).run xs _ (hF xs ha ⟨_,_,_,hx⟩) (ghOf W) W args.toList rfl rfl rfl (fun b o h=>h) hx
 simp only [Array.toArray_toList] at hc
 refine hc.mono ?_
 rintro e W' ⟨v,rfl,hb,hr⟩
 cases hr
 exact ⟨_,rfl,qIJ qKI hrt Tryz.underlying4 hsv (fun t ht=>(hT' t ht).2) hW (hfn ds hlen) hb.1⟩
end Go.Pv
namespace Go.Proofs.YtakhnioifgbdfaaGreatDoor
open Go Go.Proofs Go.RowKit Go.Pv Go.ChangeShapes Go.WideShapes Go.ChangeAt
theorem qlk {t:TypeId} {k:IntKind} {xs:List PV} (hu:Tryz.prog.underlying t=some (.int k)) (h:Shp Tryz.prog t xs):∃ n,xs=[.int k n]:=by
 cases h with
 | int t k' n h=>rw [hu] at h; cases h; exact ⟨n,rfl⟩
 | bool t b h=>rw [hu] at h; cases h
 | str t l h=>rw [hu] at h; cases h
 | sl t e xss h hx=>rw [hu] at h; cases h
 | struct t fs xs h hx=>rw [hu] at h; cases h
theorem qmX {t:TypeId} {xs:List PV} (hu:Tryz.prog.underlying t=some .string) (h:Shp Tryz.prog t xs):∃ l,xs=[.str l]:=by
 cases h with
 | str t l h=>exact ⟨l,rfl⟩
 | int t k' n h=>rw [hu] at h; cases h
 | bool t b h=>rw [hu] at h; cases h
 | sl t e xss h hx=>rw [hu] at h; cases h
 | struct t fs xs h hx=>rw [hu] at h; cases h
theorem qdf {t:TypeId} {fs:Array Field} {xs:List PV} (hu:Tryz.prog.underlying t=some (.struct fs)) (h:Shp Tryz.prog t xs):ShpL Tryz.prog (fs.toList.map (·.type)) xs:=by
 cases h with
 | struct t fs xs h hx=>rw [hu] at h; cases h; exact hx
 | str t l h=>rw [hu] at h; cases h
 | int t k' n h=>rw [hu] at h; cases h
 | bool t b h=>rw [hu] at h; cases h
 | sl t e xss h hx=>rw [hu] at h; cases h
theorem qL6 {t e:TypeId} {xs:List PV} (hu:Tryz.prog.underlying t=some (.slice e)) (h:Shp Tryz.prog t xs):∃ xss,xs=[.sl xss .non]∧∀ ys,ys ∈ xss→Shp Tryz.prog e ys:=by
 cases h with
 | sl t e xss h hx=>rw [hu] at h; cases h; exact ⟨xss,rfl,hx⟩
 | str t l h=>rw [hu] at h; cases h
 | int t k' n h=>rw [hu] at h; cases h
 | bool t b h=>rw [hu] at h; cases h
 | struct t fs xs h hx=>rw [hu] at h; cases h
theorem qmv {α:Type} (C:Cod α) {t e:TypeId} {xs:List PV} (hu:Tryz.prog.underlying t=some (.slice e)) (he:∀ ys,Shp Tryz.prog e ys→∃ a,ys=C.enc a) (h:Shp Tryz.prog t xs):∃ l:List α,xs=[.sl (rOf C l) .non]:=by
 obtain ⟨xss,rfl,hx⟩:=qL6 hu h
 have:∃ l:List α,xss=rOf C l:=by
  clear h
  induction xss with
  | nil=>exact ⟨[],rfl⟩
  | cons y ys ih =>
   obtain ⟨a,rfl⟩:=he y (hx y (List.mem_cons_self ..))
   obtain ⟨l,rfl⟩:=ih fun z hz=>hx z (List.mem_cons_of_mem _ hz)
   exact ⟨a :: l,rfl⟩
 obtain ⟨l,rfl⟩:=this
 exact ⟨l,rfl⟩
theorem qKB {xs:List PV} (h:Shp Tryz.prog 25 xs):∃ v:Vl,xs=[.int .i64 v.1,.int .i64 v.2.1,.str v.2.2]:=by
 have h1:=qdf Tryz.underlying25 h
 cases h1 with
 | cons t ts xs ys ha hs =>
  obtain ⟨k,rfl⟩:=qlk Tryz.underlying23 ha
  cases hs with
  | cons t ts xs ys hb hs =>
   obtain ⟨n,rfl⟩:=qlk Tryz.underlying2 hb
   cases hs with
   | cons t ts xs ys hc hs =>
    obtain ⟨s,rfl⟩:=qmX Tryz.underlying9 hc
    cases hs
    exact ⟨(k,n,s),rfl⟩
theorem qAr {t:TypeId} {xs:List PV} (hu:Tryz.prog.underlying t=some .bool) (h:Shp Tryz.prog t xs):∃ b,xs=[.bool b]:=by
 cases h with
 | bool _ b _=>exact ⟨b,rfl⟩
 | int _ _ _ h=>rw [hu] at h; cases h
 | str _ _ h=>rw [hu] at h; cases h
 | sl _ _ _ h _=>rw [hu] at h; cases h
 | struct _ _ _ h _=>rw [hu] at h; cases h
theorem qtD {xs:List PV} (h:Shp Tryz.prog 27 xs):∃ v:Tm,xs=cM.enc v:=by
 have h1:=qdf Tryz.underlying27 h
 cases h1 with
 | cons t ts xs ys ha0 hs =>
  obtain ⟨x0,rfl⟩:=qlk Tryz.underlying22 ha0
  cases hs with
  | cons t ts xs ys ha1 hs =>
   obtain ⟨x1,rfl⟩:=qmX Tryz.underlying9 ha1
   cases hs with
   | cons t ts xs ys ha2 hs =>
    obtain ⟨x2,rfl⟩:=qKB ha2
    cases hs
    exact ⟨(x0,x1,x2),rfl⟩
theorem quE {xs:List PV} (h:Shp Tryz.prog 31 xs):∃ v:At,xs=cA.enc v:=by
 have h1:=qdf Tryz.underlying31 h
 cases h1 with
 | cons t ts xs ys ha0 hs =>
  obtain ⟨x0,rfl⟩:=qmX Tryz.underlying9 ha0
  cases hs with
  | cons t ts xs ys ha1 hs =>
   obtain ⟨x1,rfl⟩:=qmv cM Tryz.underlying29 (fun _ h=>qtD h) ha1
   cases hs
   exact ⟨(x0,x1),rfl⟩
theorem qK5 {xs:List PV} (h:Shp Tryz.prog 34 xs):∃ v:Li,xs=cL.enc v:=by
 have h1:=qdf Tryz.underlying34 h
 cases h1 with
 | cons t ts xs ys ha0 hs =>
  obtain ⟨x0,rfl⟩:=qlk Tryz.underlying28 ha0
  cases hs with
  | cons t ts xs ys ha1 hs =>
   obtain ⟨x1,rfl⟩:=quE ha1
   cases hs with
   | cons t ts xs ys ha2 hs =>
    obtain ⟨x2,rfl⟩:=qlk Tryz.underlying32 ha2
    cases hs with
    | cons t ts xs ys ha3 hs =>
     obtain ⟨x3,rfl⟩:=qtD ha3
     cases hs with
     | cons t ts xs ys ha4 hs =>
      obtain ⟨x4,rfl⟩:=qtD ha4
      cases hs
      exact ⟨(x0,x1,x2,x3,x4),rfl⟩
theorem qHB {xs:List PV} (h:Shp Tryz.prog 48 xs):∃ v:Ru,xs=cRu.enc v:=by
 have h1:=qdf Tryz.underlying48 h
 cases h1 with
 | cons t ts xs ys ha0 hs =>
  obtain ⟨x0,rfl⟩:=quE ha0
  cases hs with
  | cons t ts xs ys ha1 hs =>
   obtain ⟨x1,rfl⟩:=qmv cL Tryz.underlying46 (fun _ h=>qK5 h) ha1
   cases hs
   exact ⟨(x0,x1),rfl⟩
theorem qKg {xs:List PV} (h:Shp Tryz.prog 99 xs):∃ v:Int,xs=cI.enc v:=by
 obtain ⟨n,rfl⟩:=qlk Tryz.underlying99 h
 exact ⟨n,rfl⟩
theorem qHq {xs:List PV} (h:Shp Tryz.prog 51 xs):∃ v:De,xs=cD.enc v:=by
 have h1:=qdf Tryz.underlying51 h
 cases h1 with
 | cons t ts xs ys ha0 hs =>
  obtain ⟨x0,rfl⟩:=qmX Tryz.underlying9 ha0
  cases hs with
  | cons t ts xs ys ha1 hs =>
   obtain ⟨x1,rfl⟩:=qAr Tryz.underlying4 ha1
   cases hs with
   | cons t ts xs ys ha2 hs =>
    obtain ⟨x2,rfl⟩:=qmv cI Tryz.underlying49 (fun _ h=>qKg h) ha2
    cases hs
    exact ⟨(x0,x1,x2),rfl⟩
theorem qDu {xs:List PV} (h:Shp Tryz.prog 101 xs):∃ v:Pa,xs=cP.enc v:=by
 have h1:=qdf Tryz.underlying101 h
 cases h1 with
 | cons t ts xs ys ha0 hs =>
  obtain ⟨x0,rfl⟩:=qmX Tryz.underlying9 ha0
  cases hs with
  | cons t ts xs ys ha1 hs =>
   obtain ⟨x1,rfl⟩:=qlk Tryz.underlying99 ha1
   cases hs
   exact ⟨(x0,x1),rfl⟩
theorem qJ3 {xs:List PV} (h:Shp Tryz.prog 103 xs):∃ v:Ac,xs=cAc.enc v:=by
 have h1:=qdf Tryz.underlying103 h
 cases h1 with
 | cons t ts xs ys ha0 hs =>
  obtain ⟨x0,rfl⟩:=qAr Tryz.underlying4 ha0
  cases hs with
  | cons t ts xs ys ha1 hs =>
   obtain ⟨x1,rfl⟩:=quE ha1
   cases hs
   exact ⟨(x0,x1),rfl⟩
theorem qM9 {xs:List PV} (h:Shp Tryz.prog 55 xs):∃ v:En,xs=cE.enc v:=by
 have h1:=qdf Tryz.underlying55 h
 cases h1 with
 | cons t ts xs ys ha0 hs =>
  obtain ⟨x0,rfl⟩:=qmX Tryz.underlying9 ha0
  cases hs with
  | cons t ts xs ys ha1 hs =>
   obtain ⟨x1,rfl⟩:=qmv cP Tryz.underlying52 (fun _ h=>qDu h) ha1
   cases hs with
   | cons t ts xs ys ha2 hs =>
    obtain ⟨x2,rfl⟩:=qmv cAc Tryz.underlying53 (fun _ h=>qJ3 h) ha2
    cases hs
    exact ⟨(x0,x1,x2),rfl⟩
theorem qHY {x:PV} (h:Arg Tryz.prog 48 x):∃ v:Ru,x=.agg (cRu.enc v):=by
 rcases h with ⟨fs,ys,hu,rfl,hs⟩ | ⟨hne,_⟩
 ·obtain ⟨v,rfl⟩:=qHB hs
  exact ⟨v,rfl⟩
 ·exact absurd Tryz.underlying48 (hne _)
theorem qIh {x:PV} (h:Arg Tryz.prog 51 x):∃ v:De,x=.agg (cD.enc v):=by
 rcases h with ⟨fs,ys,hu,rfl,hs⟩ | ⟨hne,_⟩
 ·obtain ⟨v,rfl⟩:=qHq hs
  exact ⟨v,rfl⟩
 ·exact absurd Tryz.underlying51 (hne _)
theorem qLX {x:PV} (h:Arg Tryz.prog 55 x):∃ v:En,x=.agg (cE.enc v):=by
 rcases h with ⟨fs,ys,hu,rfl,hs⟩ | ⟨hne,_⟩
 ·obtain ⟨v,rfl⟩:=qM9 hs
  exact ⟨v,rfl⟩
 ·exact absurd Tryz.underlying55 (hne _)
def qvw:DataW Unit→Array Value
 | .agg l=>(l.map fun d=>match d with | .lit (.int k n)=>Value.int k n | .lit (.string s)=>Value.string ⟨s.toArray⟩ | _=>undef).toArray
 | _=>#[]
noncomputable def low:Nat:=(World.holding Tryz.prog default ⟨#[],#[],[]⟩).heap.size
noncomputable def qrS (os:Os):World :=
 let w0:=World.holding Tryz.prog os ⟨#[.cells #[.string ⟨#[118,97,108,117,101,32,111,117,116,32,111,102,32,114,97,110,103,101]⟩] 245,.cells #[.string ⟨#[105,110,118,97,108,105,100,32,115,121,110,116,97,120]⟩] 245],#[],[]⟩
 { w0 with heap:=((((((w0.heap.modify 5 fun
  | .cells _ t frozen=>.cells #[.iface 243 (.pointer (some ⟨low+1,0,none⟩))] t frozen
  | o=>o).modify 6 fun
  | .cells _ t frozen=>.cells #[.iface 243 (.pointer (some ⟨low,0,none⟩))] t frozen
  | o=>o).modify 3 fun
  | .cells _ t frozen=>.cells (qvw Rows.laid_math_bits_deBruijn32tab) t frozen
  | o=>o).modify 4 fun
  | .cells _ t frozen=>.cells (qvw Rows.laid_math_bits_deBruijn64tab) t frozen
  | o=>o).modify 1 fun
  | .cells _ t frozen=>.cells (qvw Rows.laid_internal_strconv_uint64pow10) t frozen
  | o=>o).modify 0 fun
  | .cells _ t frozen=>.cells (qvw Rows.laid_pedigree_lex_twos) t frozen
  | o=>o) }
theorem own:ownKnob Tryz.prog.godebug=none:=by kernel_rfl
theorem qHx (os:Os) (args:Array Value):laidMet Tryz.prog laidL ((qrS os).forCall (fun _ _=>0) ⟨#[],args,[]⟩).memory :=
 laidMet_of_run' 8 (by kernel_rfl) (by kernel_rfl)
end Go.Proofs.YtakhnioifgbdfaaGreatDoor
