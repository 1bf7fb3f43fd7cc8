/- Part 4 of the proof: pure values for the machine's values, what functions compute over them, and laws of what is computed. Conditions: none beyond each theorem's own premises. -/
import Derived.Test.YtakhnioifgbdfaaGreatDoorPvG3
set_option maxHeartbeats 8000000
set_option maxRecDepth 200000
set_option linter.unusedSimpArgs false
set_option linter.unusedVariables false
namespace Go.Pv
open Go Go.Proofs Go.RowKit
theorem qrN (c:Int):qnO c=some (.bool (smI c)):=by
 unfold qnO qq8 smI
 by_cases h:(97:Int)≤c <;> simp [h]
@[simp] theorem qiu (c:Int):qgE c=true:=by simp [qgE,qgU,qrN]
@[simp] theorem qkR (c:Int):qgU c=smI c:=by simp [qgU,qrN]
theorem qrE (c:Int):qn8 c=some (.bool (grI c)):=by
 unfold qn8 qpP grI
 by_cases h:(65:Int)≤c <;> simp [h]
@[simp] theorem qiL (c:Int):qeD c=true:=by simp [qeD,qfd,qrE]
@[simp] theorem ql0 (c:Int):qfd c=grI c:=by simp [qfd,qrE]
theorem qrO (c:Int):qot c=some (.bool (dgI c)):=by
 unfold qot qo4 dgI
 by_cases h:(48:Int)≤c <;> simp [h]
@[simp] theorem qvC (c:Int):qeu c=true:=by simp [qeu,qe4,qrO]
@[simp] theorem qyA (c:Int):qe4 c=dgI c:=by simp [qe4,qrO]
theorem qr9 (c:Int):qnX c=some (.bool (inI c)):=by
 unfold qnX qps inI
 cases h1:smI c <;> cases h2:grI c <;> cases h3:dgI c <;> simp [h1,h2,h3]
@[simp] theorem rinner_is (c:Int):qjh c=true:=by simp [qjh,qiT,qr9]
@[simp] theorem rinner_v (c:Int):qiT c=inI c:=by simp [qiT,qr9]
def blI (c:Int):Bool:=decide (c=32) || decide (c=9) || decide (c=10) || decide (c=13)
theorem qHj (b:UInt8):blI (b.toNat:Int)=blB b:=by
 unfold blI blB
 congr 1
 ·congr 1
  ·congr 1 <;> (apply decide_eq_decide.2; omega)
  ·apply decide_eq_decide.2; omega
 ·apply decide_eq_decide.2; omega
theorem qrK (c:Int):qnS c=some (.bool (blI c)):=by
 unfold qnS qpO blI
 by_cases h1:c=32 <;> by_cases h2:c=9 <;> by_cases h3:c=10 <;> simp [h1,h2,h3]
@[simp] theorem qvF (c:Int):qjb c=true:=by simp [qjb,qhk,qrK]
@[simp] theorem rblank_v (c:Int):qhk c=blI c:=by simp [qhk,qrK]
theorem qzZ (s:List UInt8) (hs:s.length < 9223372036854775807):∀ (m i:Nat),i+m=s.length→qiS [.str s,.int .i64 (i:Nat)] ⟨[],[],[]⟩=some (.exit 0,[.int .i64 ((i+runL innB (s.drop i):Nat):Int)],⟨[],[],[]⟩):=by
 intro m
 induction m with
 | zero =>
  intro i hi
  rw [qy0,List.drop_eq_nil_of_le (by omega)]
  have:¬ (i:Int) < s.length:=by omega
  simp [qiH,runL,this]
 | succ m ih =>
  intro i hi
  obtain ⟨b,hb⟩:=qe0 (l:=s) (i:=i) (by omega)
  have hbe:=(List.getElem?_eq_some_iff.1 hb).2
  have w:=qbw (i:=i) (by omega)
  have hlt:i < s.length:=by omega
  have h1:=ih (i+1) (by omega)
  rw [qbB hb,qy0]
  cases hc:innB b with
  | true =>
   have e:i+(runL innB (s.drop (i+1))+1)=i+1+runL innB (s.drop (i+1)):=by omega
   simp only [runL,hc,if_true,e]
   rw [← h1]
   simp [qiH,hlt,hbe,ql1,hc,w]
  | false=>simp [qiH,hlt,hbe,ql1,hc,runL]
theorem qvf {s:List UInt8} (hs:s.length < 9223372036854775807) {i:Nat} (hi:i≤s.length):qty s (i:Nat)=some (.int .i64 ((i+runL innB (s.drop i):Nat):Int)):=by
 have h:=qzZ s hs (s.length - i) i (by omega)
 unfold qty que
 simp only [qnp,qjt,qsC,h]
 simp
theorem qG0 {s:List UInt8} (hs:s.length < 9223372036854775807) {i:Nat} (hi:i≤s.length):qgF s (i:Nat)=true:=by simp only [qgF,qbh,qvf hs hi]; simp
theorem qKt {s:List UInt8} (hs:s.length < 9223372036854775807) {i:Nat} (hi:i≤s.length):qbh s (i:Nat)=((i+runL innB (s.drop i):Nat):Int):=by simp only [qbh,qvf hs hi]; simp
theorem qvb (s:List UInt8) (hs:s.length < 9223372036854775807):∀ (m i:Nat),i+m=s.length→qfg [.str s,.int .i64 (i:Nat)] ⟨[],[],[]⟩=some (.exit 0,[.int .i64 ((i+runL qaN (s.drop i):Nat):Int)],⟨[],[],[]⟩):=by
 intro m
 induction m with
 | zero =>
  intro i hi
  rw [qsn,List.drop_eq_nil_of_le (by omega)]
  have:¬ (i:Int) < s.length:=by omega
  simp [qfx,runL,this]
 | succ m ih =>
  intro i hi
  obtain ⟨b,hb⟩:=qe0 (l:=s) (i:=i) (by omega)
  have hbe:=(List.getElem?_eq_some_iff.1 hb).2
  have w:=qbw (i:=i) (by omega)
  have hlt:i < s.length:=by omega
  have h1:=ih (i+1) (by omega)
  rw [qbB hb,qsn]
  cases hc:qaN b with
  | true =>
   have e:i+(runL qaN (s.drop (i+1))+1)=i+1+runL qaN (s.drop (i+1)):=by omega
   simp only [runL,hc,if_true,e]
   rw [← h1]
   simp [qfx,hlt,hbe,qec,hc,w]
  | false=>simp [qfx,hlt,hbe,qec,hc,runL]
theorem qqy {s:List UInt8} (hs:s.length < 9223372036854775807) {i:Nat} (hi:i≤s.length):ql6 s (i:Nat)=some (.int .i64 ((i+runL qaN (s.drop i):Nat):Int)):=by
 have h:=qvb s hs (s.length - i) i (by omega)
 unfold ql6 qm4
 simp only [qiI,qf4,qmQ,h]
 simp
theorem qz8 {s:List UInt8} (hs:s.length < 9223372036854775807) {i:Nat} (hi:i≤s.length):qek s (i:Nat)=true:=by simp only [qek,qbi,qqy hs hi]; simp
theorem qEX {s:List UInt8} (hs:s.length < 9223372036854775807) {i:Nat} (hi:i≤s.length):qbi s (i:Nat)=((i+runL qaN (s.drop i):Nat):Int):=by simp only [qbi,qqy hs hi]; simp
theorem qE4 (s:List UInt8) (hs:s.length < 9223372036854775807):∀ (m i:Nat) (c:Bool),i+m=s.length→qmi [.str s,.int .i64 (i:Nat),.bool c] ⟨[],[],[]⟩=some (.exit 0,[.int .i64 ((i+gapL c (s.drop i):Nat):Int)],⟨[],[],[]⟩):=by
 intro m
 induction m with
 | zero =>
  intro i c hi
  rw [qEk,List.drop_eq_nil_of_le (by omega)]
  have:¬ (i:Int) < s.length:=by omega
  simp [qlm,gapL,this]
 | succ m ih =>
  intro i c hi
  obtain ⟨b,hb⟩:=qe0 (l:=s) (i:=i) (by omega)
  have hbe:=(List.getElem?_eq_some_iff.1 hb).2
  have w:=qbw (i:=i) (by omega)
  have hlt:i < s.length:=by omega
  rw [qbB hb,qEk]
  have q1:iEq (sAt s (i:Int)) 37=decide (b.toNat=37):=by simp [hlt,hbe]; omega
  have q2:iNe (sAt s (i:Int)) 10=decide (b.toNat≠10):=by simp [hlt,hbe]; omega
  have q3:qhk (sAt s (i:Int))=blB b:=by simp [hlt,hbe,qHj]
  have q4:qaJ s (i:Int)=true:=by simp; omega
  have q5:iLt (i:Int) (sLen s)=true:=by simp; omega
  have h1:=ih (i+1) (decide (b.toNat=37) || c && decide (b.toNat≠10)) (by omega)
  cases hg:(c || blB b || decide (b.toNat=37)) with
  | true =>
   have e:gapL c (b :: s.drop (i+1))=gapL (decide (b.toNat=37) || c && decide (b.toNat≠10)) (s.drop (i+1))+1:=by
    simp only [gapL,hg,if_true]
   rw [e,show i+(gapL (decide (b.toNat=37) || c && decide (b.toNat≠10)) (s.drop (i+1))+1)=i+1+gapL (decide (b.toNat=37) || c && decide (b.toNat≠10)) (s.drop (i+1)) from by omega,← h1]
   simp only [qlm,q1,q2,q3,q4,q5,qvF,w]
   cases c <;> cases hb2:blB b <;> by_cases h37:b.toNat=37 <;> simp [hb2,h37] at hg ⊢
  | false =>
   have e:gapL c (b :: s.drop (i+1))=0:=by
    simp only [gapL,hg,Bool.false_eq_true,if_false]
   rw [e]
   simp only [Bool.or_eq_false_iff,decide_eq_false_iff_not] at hg
   obtain ⟨⟨rfl,hb2⟩,h37⟩:=hg
   simp only [qlm,q1,q2,q3,q4,q5,qvF,w,hb2]
   simp [h37]
theorem qyy {s:List UInt8} (hs:s.length < 9223372036854775807) {i:Nat} (hi:i≤s.length):qzF s (i:Nat)=some (.int .i64 ((i+gapL false (s.drop i):Nat):Int)):=by
 have h:=qE4 s hs (s.length - i) i false (by omega)
 unfold qzF qx8
 simp only [qpn,qla,qw7,h]
 simp
theorem qDR {s:List UInt8} (hs:s.length < 9223372036854775807) {i:Nat} (hi:i≤s.length):qf6 s (i:Nat)=true:=by simp only [qf6,qdz,qyy hs hi]; simp
theorem qH2 {s:List UInt8} (hs:s.length < 9223372036854775807) {i:Nat} (hi:i≤s.length):qdz s (i:Nat)=((i+gapL false (s.drop i):Nat):Int):=by simp only [qdz,qyy hs hi]; simp
theorem qvn (s:List UInt8) (hs:s.length < 9223372036854775800):∀ (m i:Nat),s.length≤i+m→i≤s.length+1→qdP [.str s,.int .i64 (i:Nat)] ⟨[],[],[]⟩=qOut i (quoE false (s.drop i)):=by
 have hend:∀ i:Nat,s.length≤i→qdP [.str s,.int .i64 (i:Nat)] ⟨[],[],[]⟩=some (.exit 0,[],⟨[],[],[]⟩):=fun i hi=>by
  rw [qr3]
  have:¬ (i:Int) < s.length:=by omega
  simp [qen,this]
 intro m
 induction m with
 | zero =>
  intro i hi _
  rw [hend i (by omega),List.drop_eq_nil_of_le (by omega)]
  simp [quoE,qOut]
 | succ m ih =>
  intro i hi hi2
  by_cases hlt:i < s.length
  ·obtain ⟨b,hb⟩:=qe0 (l:=s) (i:=i) hlt
   have hbe:=(List.getElem?_eq_some_iff.1 hb).2
   have w:=qbw (i:=i) (by omega)
   have w2:=qbw (i:=i+1) (by omega)
   have h1:=ih (i+1) (by omega) (by omega)
   rw [qbB hb,qr3]
   simp only [quoE]
   have t1:iLt (i:Int) (sLen s)=true:=by simp; omega
   have t2:qaJ s (i:Int)=true:=by simp; omega
   have t3:sAt s (i:Int)=b.toNat:=by simp [hbe,hlt]
   by_cases hq:b.toNat=34
   ·rw [if_pos hq]
    simp only [qen,t1,t2,t3]
    simp [hq,w,qOut]
   ·rw [if_neg hq]
    have hq':¬ ((b.toNat:Int)=34):=by omega
    by_cases hp:b.toNat=92
    ·rw [if_pos hp,qi2]
     have e1:qdP [.str s,.int .i64 (iAdd .i64 (iAdd .i64 (i:Int) 1) 1)] ⟨[],[],[]⟩=qOut (i+1) (quoE true (s.drop (i+1))):=by
      rw [w,w2]
      by_cases hl2:i+1 < s.length
      ·obtain ⟨c,hc⟩:=qe0 (l:=s) (i:=i+1) hl2
       rw [qbB hc]
       simp only [quoE]
       rw [qi2]
       exact ih (i+1+1) (by omega) (by omega)
      ·rw [hend (i+1+1) (by omega),List.drop_eq_nil_of_le (by omega)]
       simp [quoE,qOut]
     rw [← e1]
     simp only [qen,t1,t2,t3]
     simp [hp]
    ·have hp':¬ ((b.toNat:Int)=92):=by omega
     rw [if_neg hp,qi2,← h1,← w]
     simp only [qen,t1,t2,t3]
     simp [hq',hp']
  ·rw [hend i (by omega),List.drop_eq_nil_of_le (by omega)]
   simp [quoE,qOut]
theorem qo7 {s:List UInt8} (hs:s.length < 9223372036854775800) {i:Nat} (hi:i < s.length):qmb s (i:Nat)=some (.int .i64 (if quoL (s.drop (i+1))=0 then -1 else ((i+1+quoL (s.drop (i+1)):Nat):Int))):=by
 have h:=qvn s hs (s.length - (i+1)) (i+1) (by omega) (by omega)
 have w:=qbw (i:=i) (by omega)
 unfold qmb qnl
 rw [w]
 unfold qOut at h
 rw [show quoE false (s.drop (i+1))=quoL (s.drop (i+1)) from rfl] at h
 by_cases h0:quoL (s.drop (i+1))=0
 ·rw [if_pos h0] at h ⊢
  simp only [qgk,qgp,qeV,qgM,h]
  simp
 ·rw [if_neg h0] at h ⊢
  simp only [qgk,qgp,qeV,qgM,h]
  simp
theorem qAA {s:List UInt8} (hs:s.length < 9223372036854775800) {i:Nat} (hi:i < s.length):qdK s (i:Nat)=true:=by simp only [qdK,qaA,qo7 hs hi]; simp
theorem qDh {s:List UInt8} (hs:s.length < 9223372036854775800) {i:Nat} (hi:i < s.length):qaA s (i:Nat)=(if quoL (s.drop (i+1))=0 then -1 else ((i+1+quoL (s.drop (i+1)):Nat):Int)):=by simp only [qaA,qo7 hs hi]; simp
theorem qsg {s:List UInt8} (hs:s.length≤140737488355328) (k at_:Int):qeG k s at_=some (if eRd s=0 then wTup k s (kRd s,nRd s,sRd s) at_ true else wTup 0 [] (0,0,[]) 0 false):=by
 unfold qeG qqJ wTup
 by_cases h:eRd s=0 <;> simp [hs,h]
theorem qp9 {s:List UInt8} (hs:s.length≤140737488355328) (k at_:Int):qdq k s at_=true:=by
 simp only [qdq,qd9,qd6,qcT,qdn,qc3,qcZ,qdX,qsg hs]
 by_cases h:eRd s=0 <;> simp [h,wTup]
theorem qsu {s:List UInt8} (hs:s.length≤140737488355328) (k at_:Int):(PV.tup [.agg [.int .i64 (qd9 k s at_),.str (qd6 k s at_),.int .i64 (qcT k s at_),.int .i64 (qdn k s at_),.str (qc3 k s at_),.int .i64 (qcZ k s at_)],.bool (qdX k s at_)])=if eRd s=0 then wTup k s (kRd s,nRd s,sRd s) at_ true else wTup 0 [] (0,0,[]) 0 false:=by
 simp only [qd9,qd6,qcT,qdn,qc3,qcZ,qdX,qsg hs]
 by_cases h:eRd s=0 <;> simp [h,wTup]
theorem quz {v:List UInt8} (hs:v.length < 9223372036854775800) {i:Nat} {c:UInt8} {t:List UInt8} (hv:v.drop i=c :: t):qsR v (i:Nat)=some (.int .i64 (qdE c t:Nat)):=by
 have hl:v.length=i+(t.length+1):=by
  have:=congrArg List.length hv
  simp at this
  omega
 have hc:v[i]?=some c:=by
  have:(v.drop i)[0]?=some c:=by rw [hv]; rfl
  simpa using this
 have hbe:=(List.getElem?_eq_some_iff.1 hc).2
 have e3:sAt v (i:Int)=(c.toNat:Int):=by
  have:i < v.length:=by omega
  simp [this,hbe]
 have q:qaJ v (i:Int)=true:=by simp; omega
 have k40:iEq (sAt v (i:Int)) 40=decide (c.toNat=40):=by rw [e3]; simp; omega
 have k41:iEq (sAt v (i:Int)) 41=decide (c.toNat=41):=by rw [e3]; simp; omega
 have k44:iEq (sAt v (i:Int)) 44=decide (c.toNat=44):=by rw [e3]; simp; omega
 have k46:iEq (sAt v (i:Int)) 46=decide (c.toNat=46):=by rw [e3]; simp; omega
 have k43:iEq (sAt v (i:Int)) 43=decide (c.toNat=43):=by rw [e3]; simp; omega
 have k45:iEq (sAt v (i:Int)) 45=decide (c.toNat=45):=by rw [e3]; simp; omega
 have k61:iEq (sAt v (i:Int)) 61=decide (c.toNat=61):=by rw [e3]; simp; omega
 have k58:iEq (sAt v (i:Int)) 58=decide (c.toNat=58):=by rw [e3]; simp; omega
 have k60:iEq (sAt v (i:Int)) 60=decide (c.toNat=60):=by rw [e3]; simp; omega
 have k62:iEq (sAt v (i:Int)) 62=decide (c.toNat=62):=by rw [e3]; simp; omega
 have w2:iAdd .i64 (i:Int) 2=((i+2:Nat):Int):=qbo (by omega)
 have w3:iSub .i64 (sLen v) (i:Int)=((t.length+1:Nat):Int):=by
  rw [qho]
  unfold iSub
  rw [qbo (by omega)]
  omega
 have ones:∀ T:Option PV,T=(if c.toNat=40 then some (.int .i64 1) else if c.toNat=41 then some (.int .i64 1) else if c.toNat=44 then some (.int .i64 1) else if c.toNat=46 then some (.int .i64 1) else if c.toNat=43 then some (.int .i64 1) else if c.toNat=45 then some (.int .i64 1) else if c.toNat=61 then some (.int .i64 1) else if c.toNat=58 then some (.int .i64 1) else if c.toNat=60 then some (.int .i64 1) else if c.toNat=62 then some (.int .i64 1) else some (.int .i64 0))→T=some (.int .i64 ((if qhb c then 1 else 0:Nat):Int)):=fun T hT=>by
  rw [hT]
  cases ho:qhb c with
  | true =>
   simp [qhb] at ho
   simp only [if_true]
   repeat' split
   all_goals first | rfl | (exfalso; omega)
  | false =>
   simp [qhb] at ho
   simp only [Bool.false_eq_true,if_false]
   repeat' split
   all_goals first | rfl | (exfalso; omega)
 unfold qsR qsO qdE
 rw [w3,w2]
 cases t with
 | nil =>
  have g:iLe 2 (([]:List UInt8).length+1:Nat)=false:=by decide
  rw [g]
  simp only [hdIs,Bool.false_eq_true,if_false]
  refine ones _ ?_
  simp only [k40,k41,k44,k46,k43,k45,k61,k58,k60,k62,q]
  simp
 | cons d u =>
  have g:iLe 2 (((d :: u).length+1:Nat):Int)=true:=by simp; omega
  have g2:qaI (qaw (i:Int)) (qaw ((i+2:Nat):Int)) (nNat (i:Int)) (nNat ((i+2:Nat):Int)) (nLen v)=true:=by simp at hl ⊢; omega
  have g3:sSub v (nNat (i:Int)) (nNat ((i+2:Nat):Int))=[c,d]:=by
   simp only [qss,qtD,Int.toNat_natCast]
   rw [List.drop_take,hv,show i+2 - i=2 from by omega]
   rfl
  rw [g,g2,g3]
  have two:∀ a b:UInt8,sEq [c,d] [a,b]=decide (c.toNat=a.toNat∧d.toNat=b.toNat):=fun a b=>by
   simp [← UInt8.toNat_inj]
  rw [two,two,two,two]
  have ht:hdIs (twoB c) (d :: u)=(decide (c.toNat=58∧d.toNat=45) || decide (c.toNat=60∧d.toNat=61) || decide (c.toNat=62∧d.toNat=61) || decide (c.toNat=33∧d.toNat=61)):=rfl
  rw [ht]
  by_cases z1:c.toNat=58∧d.toNat=45
  ·simp [z1]
  ·by_cases z2:c.toNat=60∧d.toNat=61
   ·simp [z2]
   ·by_cases z3:c.toNat=62∧d.toNat=61
    ·simp [z3]
    ·by_cases z4:c.toNat=33∧d.toNat=61
     ·simp [z4]
     ·have y1:decide (c.toNat=(58:UInt8).toNat∧d.toNat=(45:UInt8).toNat)=false:=decide_eq_false z1
      have y2:decide (c.toNat=(60:UInt8).toNat∧d.toNat=(61:UInt8).toNat)=false:=decide_eq_false z2
      have y3:decide (c.toNat=(62:UInt8).toNat∧d.toNat=(61:UInt8).toNat)=false:=decide_eq_false z3
      have y4:decide (c.toNat=(33:UInt8).toNat∧d.toNat=(61:UInt8).toNat)=false:=decide_eq_false z4
      rw [y1,y2,y3,y4,decide_eq_false z1,decide_eq_false z2,decide_eq_false z3,decide_eq_false z4]
      simp only [Bool.or_false,Bool.false_eq_true,if_false]
      refine ones _ ?_
      simp only [k40,k41,k44,k46,k43,k45,k61,k58,k60,k62,q]
      simp
theorem qFU {v:List UInt8} (hs:v.length < 9223372036854775800) {i:Nat} {c:UInt8} {t:List UInt8} (hv:v.drop i=c :: t):qfM v (i:Nat)=true:=by simp only [qfM,qbA,quz hs hv]; simp
theorem qIp {v:List UInt8} (hs:v.length < 9223372036854775800) {i:Nat} {c:UInt8} {t:List UInt8} (hv:v.drop i=c :: t):qbA v (i:Nat)=(qdE c t:Nat):=by simp only [qbA,quz hs hv]; simp
def rOut (v:List UInt8) (i:Nat):Option (Int × Nat × Vl)→PV
 | some (k,m,x)=>wTup k ((v.drop i).take m) x (i:Nat) true
 | none=>wTup 0 [] (0,0,[]) 0 false
theorem qwK (k:Int) (s:List UInt8) (n:Nat) (v:List UInt8) (i:Nat) (hv:v.drop i=s):rOut v i (valL k s n)=if eRd (s.take n)=0 then wTup k (s.take n) (kRd (s.take n),nRd (s.take n),sRd (s.take n)) (i:Nat) true else wTup 0 [] (0,0,[]) 0 false:=by
 unfold valL eRd kRd nRd sRd rOut
 rw [hv]
 cases h:rdV (s.take n) <;> simp
theorem qDd {v:List UInt8} (hs:v.length≤140737488355328) {i:Nat} {c:UInt8} {t:List UInt8} (hv:v.drop i=c :: t):qgs v (i:Nat)=some (rOut v i (wdL (c :: t))):=by
 have hs1:v.length < 9223372036854775807:=by omega
 have hs2:v.length < 9223372036854775800:=by omega
 have hl:v.length=i+(t.length+1):=by
  have:=congrArg List.length hv
  simp at this
  omega
 have hc:v[i]?=some c:=by
  have:(v.drop i)[0]?=some c:=by rw [hv]; rfl
  simpa using this
 have ht:v.drop (i+1)=t:=by rw [← List.drop_drop,hv]; rfl
 have hbe:=(List.getElem?_eq_some_iff.1 hc).2
 have hlt:i < v.length:=by omega
 have e3:sAt v (i:Int)=(c.toNat:Int):=by simp [hlt,hbe]
 have w:=qbw (i:=i) (by omega)
 -- parts of the text from i
 have hsub:∀ n:Nat,sSub v (nNat (i:Int)) (nNat ((i+n:Nat):Int))=(c :: t).take n:=fun n=>by
  simp only [qss,qtD,Int.toNat_natCast]
  rw [List.drop_take,hv,show i+n - i=n from by omega]
 have hok:∀ n:Nat,n≤t.length+1→qaI (qaw (i:Int)) (qaw ((i+n:Nat):Int)) (nNat (i:Int)) (nNat ((i+n:Nat):Int)) (nLen v)=true:=fun n hn=>by simp; omega
 have hne:∀ n:Nat,n≠0→iEq ((i+n:Nat):Int) (i:Int)=false:=fun n hn=>by simp; omega
 have hln:∀ n:Nat,n≤t.length+1→iLt 64 (sLen ((c :: t).take n))=decide (64 < n):=fun n hn=>by
  simp only [qho,qyY,List.length_take,List.length_cons]
  apply decide_eq_decide.2
  omega
 have q0:qaJ v (i:Int)=true:=by simp; omega
 have q1:smI (sAt v (i:Int))=qeb c:=by rw [e3,qzN]
 have q2:grI (sAt v (i:Int))=qfD c:=by rw [e3,qzA]
 have q3:iEq (sAt v (i:Int)) 95=decide (c.toNat=95):=by rw [e3]; simp; omega
 have q4:dgI (sAt v (i:Int))=qaN c:=by rw [e3,qec]
 have q5:iEq (sAt v (i:Int)) 45=decide (c.toNat=45):=by rw [e3]; simp; omega
 have q6:iEq (sAt v (i:Int)) 34=decide (c.toNat=34):=by rw [e3]; simp; omega
 have n1:=qG0 hs1 (i:=i) (by omega)
 have n2:=qKt hs1 (i:=i) (by omega)
 rw [hv] at n2
 have z23:iEq 2 3=false:=by decide
 have z13:iEq 1 3=false:=by decide
 have z33:iEq 3 3=true:=by decide
 have z63:iEq 6 3=false:=by decide
 have hr1:=qky innB t
 unfold qgs qto
 by_cases h1:qeb c=true
 ·have e:runL innB (c :: t)=runL innB t+1:=by simp [runL,innB,h1]
  rw [e] at n2
  have g:qfD c=false:=by
   simp [qeb] at h1
   simp [qfD]
   omega
  simp only [q0,qiu,qkR,qiL,ql0,q1,q2,h1,g,n1,n2,hok (runL innB t+1) (by omega),hne (runL innB t+1) (by omega),hsub,hln (runL innB t+1) (by omega),z13,wdL,if_true]
  by_cases h64:runL innB t+1≤64
  ·have:¬ 64 < runL innB t+1:=by omega
   simp [this,h64,rOut,wTup,hv]
  ·have:64 < runL innB t+1:=by omega
   simp [this,h64,rOut,wTup]
 ·have h1':qeb c=false:=by simpa using h1
  by_cases h2:qfD c=true
  ·have e:runL innB (c :: t)=runL innB t+1:=by simp [runL,innB,h2]
   rw [e] at n2
   simp only [q0,qiu,qkR,qiL,ql0,q1,q2,h1',h2,n1,n2,hok (runL innB t+1) (by omega),hne (runL innB t+1) (by omega),hsub,hln (runL innB t+1) (by omega),z23,wdL,if_true,Bool.false_eq_true,if_false]
   by_cases h64:runL innB t+1≤64
   ·have:¬ 64 < runL innB t+1:=by omega
    simp [this,h64,rOut,wTup,hv]
   ·have:64 < runL innB t+1:=by omega
    simp [this,h64,rOut,wTup]
  ·have h2':qfD c=false:=by simpa using h2
   by_cases h3:c.toNat=95
   ·have e:runL innB (c :: t)=runL innB t+1:=by simp [runL,innB,h3]
    rw [e] at n2
    have ee:wdL (c :: t)=if hdIs innB t then none else some (3,1,0,0,[]):=by
     show (if qeb c=true then _ else _)=_
     rw [if_neg h1,if_neg h2,if_pos h3]
    have nn:iNe ((i+(runL innB t+1):Nat):Int) (iAdd .i64 (i:Int) 1)=hdIs innB t:=by
     rw [w]
     cases t with
     | nil=>simp [runL,hdIs]
     | cons d u =>
      simp only [runL,hdIs]
      cases innB d <;> simp <;> omega
    rw [ee]
    simp only [q0,qiu,qkR,qiL,ql0,q1,q2,h1',h2',q3,h3,decide_true,n1,n2,hok (runL innB t+1) (by omega),hne (runL innB t+1) (by omega),hsub,hln (runL innB t+1) (by omega),z33,nn]
    cases hh:hdIs innB t with
    | true =>
     by_cases h64:64 < runL innB t+1 <;> simp [h64,rOut,wTup]
    | false =>
     have r0:runL innB t=0:=by
      cases t with
      | nil=>rfl
      | cons d u=>simp [hdIs] at hh; simp [runL,hh]
     rw [r0]
     simp [rOut,wTup,hv]
   ·have val:∀ (k:Int) (n:Nat),n≤t.length+1→((c :: t).take n).length≤140737488355328:=fun k n hn=>by rw [List.length_take]; simp; omega
    have hr2:=qky qaN t
    have d1:qek v ((i+1:Nat):Int)=true:=qz8 hs1 (by omega)
    have d2:qbi v ((i+1:Nat):Int)=((i+(runL qaN t+1):Nat):Int):=by
     rw [qEX hs1 (by omega),ht]
     congr 1
     omega
    by_cases h4:qaN c=true
    ·have ee:wdL (c :: t)=valL 4 (c :: t) (runL qaN t+1):=by
      show (if qeb c=true then _ else _)=_
      rw [if_neg h1,if_neg h2,if_neg h3,if_pos (by simp [h4])]
     rw [ee,qwK 4 (c :: t) _ v i hv]
     simp only [q0,qiu,qkR,qiL,ql0,q1,q2,h1',h2',q3,decide_eq_false h3,qvC,qyA,q4,h4,w,d1,d2,hok (runL qaN t+1) (by omega),hsub,qp9 (val 4 (runL qaN t+1) (by omega)),qsu (val 4 (runL qaN t+1) (by omega))]
     rfl
    ·have h4':qaN c=false:=by simpa using h4
     -- a symbol,or a mark
     have rest:∀ T:Tr PV,(c.toNat=45→hdIs qaN t=false)→T.run=(Tr.ite (iEq (sAt v (i:Int)) 34)
       (Tr.ite (qdK v (i:Int))
        (Tr.ite (iLt (qaA v (i:Int)) 0)
         (Tr.ret (PV.tup [PV.agg [PV.int .i64 0,PV.str [],PV.int .i64 0,PV.int .i64 0,PV.str [],PV.int .i64 0],PV.bool false]))
         (Tr.ite (qaI (qaw (i:Int)) (qaw (qaA v (i:Int))) (nNat (i:Int)) (nNat (qaA v (i:Int))) (nLen v))
          (Tr.ite (qdq 5 (sSub v (nNat (i:Int)) (nNat (qaA v (i:Int)))) (i:Int))
           (Tr.ret (PV.tup [PV.agg [PV.int .i64 (qd9 5 (sSub v (nNat (i:Int)) (nNat (qaA v (i:Int)))) (i:Int)),PV.str (qd6 5 (sSub v (nNat (i:Int)) (nNat (qaA v (i:Int)))) (i:Int)),PV.int .i64 (qcT 5 (sSub v (nNat (i:Int)) (nNat (qaA v (i:Int)))) (i:Int)),PV.int .i64 (qdn 5 (sSub v (nNat (i:Int)) (nNat (qaA v (i:Int)))) (i:Int)),PV.str (qc3 5 (sSub v (nNat (i:Int)) (nNat (qaA v (i:Int)))) (i:Int)),PV.int .i64 (qcZ 5 (sSub v (nNat (i:Int)) (nNat (qaA v (i:Int)))) (i:Int))],PV.bool (qdX 5 (sSub v (nNat (i:Int)) (nNat (qaA v (i:Int)))) (i:Int))]))
           Tr.fail)
          Tr.fail))
        Tr.fail)
       (Tr.ite (qfM v (i:Int))
        (Tr.ite (qaI (qaw (i:Int)) (qaw (iAdd .i64 (i:Int) (qbA v (i:Int)))) (nNat (i:Int)) (nNat (iAdd .i64 (i:Int) (qbA v (i:Int)))) (nLen v))
         (Tr.ite (iEq (iAdd .i64 (i:Int) (qbA v (i:Int))) (i:Int))
          (Tr.ret (PV.tup [PV.agg [PV.int .i64 0,PV.str [],PV.int .i64 0,PV.int .i64 0,PV.str [],PV.int .i64 0],PV.bool false]))
          (Tr.ite (iLt 64 (sLen (sSub v (nNat (i:Int)) (nNat (iAdd .i64 (i:Int) (qbA v (i:Int)))))))
           (Tr.ret (PV.tup [PV.agg [PV.int .i64 0,PV.str [],PV.int .i64 0,PV.int .i64 0,PV.str [],PV.int .i64 0],PV.bool false]))
           (Tr.ite (iEq 6 3)
            (Tr.ite (iNe (iAdd .i64 (i:Int) (qbA v (i:Int))) (iAdd .i64 (i:Int) 1))
             (Tr.ret (PV.tup [PV.agg [PV.int .i64 0,PV.str [],PV.int .i64 0,PV.int .i64 0,PV.str [],PV.int .i64 0],PV.bool false]))
             (Tr.ret (PV.tup [PV.agg [PV.int .i64 6,PV.str (sSub v (nNat (i:Int)) (nNat (iAdd .i64 (i:Int) (qbA v (i:Int))))),PV.int .i64 0,PV.int .i64 0,PV.str [],PV.int .i64 (i:Int)],PV.bool true])))
            (Tr.ret (PV.tup [PV.agg [PV.int .i64 6,PV.str (sSub v (nNat (i:Int)) (nNat (iAdd .i64 (i:Int) (qbA v (i:Int))))),PV.int .i64 0,PV.int .i64 0,PV.str [],PV.int .i64 (i:Int)],PV.bool true])))))
         Tr.fail)
        Tr.fail)).run→T.run=some (rOut v i (wdL (c :: t))):=by
      intro T h45 hT
      rw [hT,q6]
      have hd:¬ (qaN c || (decide (c.toNat=45) && hdIs qaN t))=true:=by
       rw [h4']
       by_cases hc45:c.toNat=45
       ·simp [hc45,h45 hc45]
       ·simp [hc45]
      by_cases h6:c.toNat=34
      ·have ee:wdL (c :: t)=if quoL t=0 then none else valL 5 (c :: t) (quoL t+1):=by
        show (if qeb c=true then _ else _)=_
        rw [if_neg h1,if_neg h2,if_neg h3,if_neg hd,if_pos h6]
       rw [ee,decide_eq_true h6,qAA hs2 hlt,qDh hs2 hlt,ht]
       have hq:=qxM t
       by_cases h0:quoL t=0
       ·rw [if_pos h0,if_pos h0]
        rfl
       ·rw [if_neg h0,if_neg h0,qwK 5 (c :: t) _ v i hv]
        have e5:((i+1+quoL t:Nat):Int)=((i+(quoL t+1):Nat):Int):=by omega
        have e6:iLt ((i+(quoL t+1):Nat):Int) 0=false:=by simp; omega
        rw [e5,e6,hok (quoL t+1) (by omega),hsub,qp9 (val 5 (quoL t+1) (by omega)),qsu (val 5 (quoL t+1) (by omega))]
        rfl
      ·have ee:wdL (c :: t)=if qdE c t=0 then none else some (6,qdE c t,0,0,[]):=by
        show (if qeb c=true then _ else _)=_
        rw [if_neg h1,if_neg h2,if_neg h3,if_neg hd,if_neg h6]
       have hm:qdE c t≤t.length+1∧qdE c t≤2:=by
        unfold qdE
        cases t with
        | nil=>cases qhb c <;> simp [hdIs]
        | cons d u=>cases hdIs (twoB c) (d :: u) <;> cases qhb c <;> simp
       have wm:iAdd .i64 (i:Int) ((qdE c t:Nat):Int)=((i+qdE c t:Nat):Int):=qbo (by omega)
       rw [ee,decide_eq_false h6,qFU hs2 hv,qIp hs2 hv,wm,hok (qdE c t) hm.1,hsub,hln (qdE c t) hm.1,z63]
       by_cases h0:qdE c t=0
       ·rw [if_pos h0,h0]
        have:iEq ((i+0:Nat):Int) (i:Int)=true:=by simp
        rw [this]
        rfl
       ·have:decide (64 < qdE c t)=false:=decide_eq_false (by omega)
        rw [if_neg h0,hne _ h0,this]
        simp [rOut,wTup,hv]
     simp only [q0,qiu,qkR,qiL,ql0,q1,q2,h1',h2',q3,decide_eq_false h3,qvC,qyA,q4,h4',q5,w]
     by_cases h45:c.toNat=45
     ·rw [decide_eq_true h45]
      cases t with
      | nil =>
       have g:iLt ((i+1:Nat):Int) (sLen v)=false:=by simp at hl ⊢; omega
       rw [g]
       refine rest _ (fun _=>rfl) ?_
       rw [w]
       rfl
      | cons d u =>
       have g:iLt ((i+1:Nat):Int) (sLen v)=true:=by simp at hl ⊢; omega
       have g2:qaJ v ((i+1:Nat):Int)=true:=by simp at hl ⊢; omega
       have hd1:v[i+1]?=some d:=by
        have:(v.drop (i+1))[0]?=some d:=by rw [ht]; rfl
        simpa using this
       have g3:dgI (sAt v ((i+1:Nat):Int))=qaN d:=by
        rw [← qec]
        have h5:=(List.getElem?_eq_some_iff.1 hd1)
        obtain ⟨h5a,h5b⟩:=h5
        congr 1
        simp only [qHy,Int.toNat_natCast,List.getD_eq_getElem?_getD,hd1,Option.getD_some]
       rw [g,g2,g3]
       cases hdd:qaN d with
       | true =>
        have ee:wdL (c :: d :: u)=valL 4 (c :: d :: u) (runL qaN (d :: u)+1):=by
         show (if qeb c=true then _ else _)=_
         rw [if_neg h1,if_neg h2,if_neg h3,if_pos (by simp [h45,hdIs,hdd])]
        rw [ee,qwK 4 (c :: d :: u) _ v i hv]
        simp only [d1,d2,hok (runL qaN (d :: u)+1) (by omega),hsub,qp9 (val 4 (runL qaN (d :: u)+1) (by omega)),qsu (val 4 (runL qaN (d :: u)+1) (by omega))]
        rfl
       | false =>
        refine rest _ (fun _=>by simp [hdIs,hdd]) ?_
        rw [w]
        rfl
     ·rw [decide_eq_false h45]
      refine rest _ (fun h=>absurd h h45) ?_
      rw [w]
      rfl
end Go.Pv
set_option maxHeartbeats 4000000
set_option maxRecDepth 200000
set_option linter.unusedSimpArgs false
set_option linter.unusedVariables false
namespace Go.Pv
open Go Go.Proofs Go.RowKit
noncomputable def qi0:Code:=rngC Tryz.f80 500007
def qsq:RI:=⟨24,[2,3,4,5,12],[2,3,4,5],[.ptr 0 0,.ptr 1 0,.ptr 2 0,.ptr 3 0],[13,14],1⟩
noncomputable def qqR:Nat→List PV→Store→Tr (PV × Store):=rtree tbT (ofL []) (fun _ _ _=>.fail) qsq (rngX qi0) (rngY qi0)
end Go.Pv
set_option maxHeartbeats 4000000
set_option maxRecDepth 200000
set_option linter.unusedSimpArgs false
set_option linter.unusedVariables false
namespace Go.Pv
open Go Go.Proofs
noncomputable def qAv:GamT:=ofL [(140,.pure qCg),(141,.pure qxo),(qe2,.yld 1 qqR)]
theorem qER (gl:Gl) (hg:GlLex gl) (hy:qnC Tryz.prog gl qe2 (.yld 1 fun t a σ=>(qqR t a σ).run)):qaR Tryz.prog gl (gam qAv):=(qac (qGB gl) (qac (qEv gl hg) (qbS (K:=.yld 1 qqR) hy qag)))
noncomputable def quI:Code:=qeP Tryz.f139 1
def quF:LI:=⟨41,[0,1,3],fun e=>match e with | .ret=>[] | .exit 0=>[] | _=>[],true⟩
noncomputable def qtv:LpsT:=fun r fr σ=>.fail
noncomputable def qfP (vs:List PV) (σ:Store):Option (PExit × List PV × Store):=lval (lstep tbT qAv qtv quI quF) vs σ
noncomputable def qra (at_:Int) (r:List (List PV)) (n:Int) (n2:Int) (r2:List (List PV)) (s:List UInt8):Tr LR:=.ite (iLt at_ (sLen s)) (.ite (qaI (qaw at_) true (nNat at_) (nLen s) (nLen s)) (.ite (qh3 (sSub s (nNat at_) (nLen s))) (.ite (nEq 0 0) (.ite (bNot (qfC (sSub s (nNat at_) (nLen s)))) (.ite true (.ret (.out .ret [] (Store.mk [[.sl (qay 5 (qay 6 [])) .full],[.int .i64 at_],[.int .i64 120],[.sl (qay 5 (qay 6 r2)) .full],[.str s]] [(2,0,1)] [75,3,38,75,9]))) (.ite (bNot (qfC (sSub s (nNat at_) (nLen s)))) (.ret (.out .ret [] (Store.mk [[.sl (qay 5 (qay 6 [])) .full],[.int .i64 at_],[.int .i64 120],[.sl (qay 5 (qay 6 r2)) .full],[.str s]] [(2,0,1)] [75,3,38,75,9]))) (.ite (qaI (qaw (iAdd .i64 at_ (sLen (qbf (sSub s (nNat at_) (nLen s)))))) true (nNat (iAdd .i64 at_ (sLen (qbf (sSub s (nNat at_) (nLen s)))))) (nLen s) (nLen s)) (.ite (qfc (sSub s (nNat (iAdd .i64 at_ (sLen (qbf (sSub s (nNat at_) (nLen s)))))) (nLen s))) (.ret (.next [.yld 0,.ptr 4 0,.int .i64 (iAdd .i64 (iAdd .i64 at_ (sLen (qbf (sSub s (nNat at_) (nLen s))))) (qbb (sSub s (nNat (iAdd .i64 at_ (sLen (qbf (sSub s (nNat at_) (nLen s)))))) (nLen s))))] (Store.mk [[.sl (qay 5 (qay 6 [])) .full],[.int .i64 at_],[.int .i64 120],[.sl (qay 5 (qay 6 r2)) .full],[.str s]] [(2,0,1)] [75,3,38,75,9]))) .fail) .fail))) (.ite (qaP r2 [[.int .i64 (qch (sSub s (nNat at_) (nLen s))),.str (qbf (sSub s (nNat at_) (nLen s))),.int .i64 (qbU (sSub s (nNat at_) (nLen s))),.int .i64 (qbV (sSub s (nNat at_) (nLen s))),.str (qbT (sSub s (nNat at_) (nLen s))),.int .i64 at_]] 64) (.ite (qaO [[.int .i64 (qch (sSub s (nNat at_) (nLen s))),.str (qbf (sSub s (nNat at_) (nLen s))),.int .i64 (qbU (sSub s (nNat at_) (nLen s))),.int .i64 (qbV (sSub s (nNat at_) (nLen s))),.str (qbT (sSub s (nNat at_) (nLen s))),.int .i64 at_]] 6) (.ite (qaC r2 6)
 (.ite false (.ret (.out .ret [] (Store.mk [[.sl (qay 5 (qay 6 r)) .full],[.int .i64 n],[.int .i64 n2],[.sl (qay 5 (qay 6 (xApp r2 [[.int .i64 (qch (sSub s (nNat at_) (nLen s))),.str (qbf (sSub s (nNat at_) (nLen s))),.int .i64 (qbU (sSub s (nNat at_) (nLen s))),.int .i64 (qbV (sSub s (nNat at_) (nLen s))),.str (qbT (sSub s (nNat at_) (nLen s))),.int .i64 at_]]))) (.tok 1)],[.str s]] [(0,0,1),(nXs (xApp r2 [[.int .i64 (qch (sSub s (nNat at_) (nLen s))),.str (qbf (sSub s (nNat at_) (nLen s))),.int .i64 (qbU (sSub s (nNat at_) (nLen s))),.int .i64 (qbV (sSub s (nNat at_) (nLen s))),.str (qbT (sSub s (nNat at_) (nLen s))),.int .i64 at_]]),6,120)] [75,3,38,75,9]))) (.ite (bNot (qfC (sSub s (nNat at_) (nLen s)))) (.ret (.out .ret [] (Store.mk [[.sl (qay 5 (qay 6 r)) .full],[.int .i64 n],[.int .i64 n2],[.sl (qay 5 (qay 6 (xApp r2 [[.int .i64 (qch (sSub s (nNat at_) (nLen s))),.str (qbf (sSub s (nNat at_) (nLen s))),.int .i64 (qbU (sSub s (nNat at_) (nLen s))),.int .i64 (qbV (sSub s (nNat at_) (nLen s))),.str (qbT (sSub s (nNat at_) (nLen s))),.int .i64 at_]]))) (.tok 1)],[.str s]] [(0,0,1),(nXs (xApp r2 [[.int .i64 (qch (sSub s (nNat at_) (nLen s))),.str (qbf (sSub s (nNat at_) (nLen s))),.int .i64 (qbU (sSub s (nNat at_) (nLen s))),.int .i64 (qbV (sSub s (nNat at_) (nLen s))),.str (qbT (sSub s (nNat at_) (nLen s))),.int .i64 at_]]),6,120)] [75,3,38,75,9]))) (.ite (qaI (qaw (iAdd .i64 at_ (sLen (qbf (sSub s (nNat at_) (nLen s)))))) true (nNat (iAdd .i64 at_ (sLen (qbf (sSub s (nNat at_) (nLen s)))))) (nLen s) (nLen s)) (.ite (qfc (sSub s (nNat (iAdd .i64 at_ (sLen (qbf (sSub s (nNat at_) (nLen s)))))) (nLen s))) (.ret (.next [.yld 0,.ptr 4 0,.int .i64 (iAdd .i64 (iAdd .i64 at_ (sLen (qbf (sSub s (nNat at_) (nLen s)))))
 (qbb (sSub s (nNat (iAdd .i64 at_ (sLen (qbf (sSub s (nNat at_) (nLen s)))))) (nLen s))))] (Store.mk [[.sl (qay 5 (qay 6 r)) .full],[.int .i64 n],[.int .i64 n2],[.sl (qay 5 (qay 6 (xApp r2 [[.int .i64 (qch (sSub s (nNat at_) (nLen s))),.str (qbf (sSub s (nNat at_) (nLen s))),.int .i64 (qbU (sSub s (nNat at_) (nLen s))),.int .i64 (qbV (sSub s (nNat at_) (nLen s))),.str (qbT (sSub s (nNat at_) (nLen s))),.int .i64 at_]]))) (.tok 1)],[.str s]] [(0,0,1),(nXs (xApp r2 [[.int .i64 (qch (sSub s (nNat at_) (nLen s))),.str (qbf (sSub s (nNat at_) (nLen s))),.int .i64 (qbU (sSub s (nNat at_) (nLen s))),.int .i64 (qbV (sSub s (nNat at_) (nLen s))),.str (qbT (sSub s (nNat at_) (nLen s))),.int .i64 at_]]),6,120)] [75,3,38,75,9]))) .fail) .fail))) .fail) .fail) .fail)) .fail) .fail) .fail) (.ret (.out (.exit 0) [] (Store.mk [[.sl r .full],[.int .i64 n],[.int .i64 n2],[.sl r2 .full],[.str s]] [(0,0,1)] [75,3,38,75,9])))
theorem qLG (at_:Int) (r:List (List PV)) (n:Int) (n2:Int) (r2:List (List PV)) (s:List UInt8):lstep tbT qAv qtv quI quF [.yld 0,.ptr 4 0,.int .i64 at_] ⟨[[.sl r .full],[.int .i64 n],[.int .i64 n2],[.sl r2 .full],[.str s]],[(0,0,1)],[75,3,38,75,9]⟩=qra at_ r n n2 r2 s:=by kernel_rfl
theorem qBz (at_:Int) (r:List (List PV)) (n:Int) (n2:Int) (r2:List (List PV)) (s:List UInt8):qfP [.yld 0,.ptr 4 0,.int .i64 at_] ⟨[[.sl r .full],[.int .i64 n],[.int .i64 n2],[.sl r2 .full],[.str s]],[(0,0,1)],[75,3,38,75,9]⟩=lnext qfP (qra at_ r n n2 r2 s).run:=by unfold qfP; rw [qbK,qLG]
noncomputable def qlh (at_:Int) (r:List (List PV)) (n:Int) (n2:Int) (r2:List (List PV)) (s:List UInt8) (k:Nat):Tr LR:=.ite (iLt at_ (sLen s)) (.ite (qaI (qaw at_) true (nNat at_) (nLen s) (nLen s)) (.ite (qh3 (sSub s (nNat at_) (nLen s))) (.ite (nEq 0 0) (.ite (bNot (qfC (sSub s (nNat at_) (nLen s)))) (.ite true (.ret (.out .ret [] (Store.mk [[.sl (qay 5 (qay 6 [])) .full],[.int .i64 at_],[.int .i64 120],[.sl (qay 5 (qay 6 r2)) (.tok 1)],[.str s]] [(2,0,1),(k,6,120)] [75,3,38,75,9]))) (.ite (bNot (qfC (sSub s (nNat at_) (nLen s)))) (.ret (.out .ret [] (Store.mk [[.sl (qay 5 (qay 6 [])) .full],[.int .i64 at_],[.int .i64 120],[.sl (qay 5 (qay 6 r2)) (.tok 1)],[.str s]] [(2,0,1),(k,6,120)] [75,3,38,75,9]))) (.ite (qaI (qaw (iAdd .i64 at_ (sLen (qbf (sSub s (nNat at_) (nLen s)))))) true (nNat (iAdd .i64 at_ (sLen (qbf (sSub s (nNat at_) (nLen s)))))) (nLen s) (nLen s)) (.ite (qfc (sSub s (nNat (iAdd .i64 at_ (sLen (qbf (sSub s (nNat at_) (nLen s)))))) (nLen s))) (.ret (.next [.yld 0,.ptr 4 0,.int .i64 (iAdd .i64 (iAdd .i64 at_ (sLen (qbf (sSub s (nNat at_) (nLen s))))) (qbb (sSub s (nNat (iAdd .i64 at_ (sLen (qbf (sSub s (nNat at_) (nLen s)))))) (nLen s))))] (Store.mk [[.sl (qay 5 (qay 6 [])) .full],[.int .i64 at_],[.int .i64 120],[.sl (qay 5 (qay 6 r2)) (.tok 1)],[.str s]] [(2,0,1),(k,6,120)] [75,3,38,75,9]))) .fail) .fail))) (.ite (qaP r2 [[.int .i64 (qch (sSub s (nNat at_) (nLen s))),.str (qbf (sSub s (nNat at_) (nLen s))),.int .i64 (qbU (sSub s (nNat at_) (nLen s))),.int .i64 (qbV (sSub s (nNat at_) (nLen s))),.str (qbT (sSub s (nNat at_) (nLen s))),.int .i64 at_]] 64) (.ite (qaO [[.int .i64 (qch (sSub s (nNat at_) (nLen s))),.str (qbf (sSub s (nNat at_) (nLen s))),.int .i64 (qbU (sSub s (nNat at_) (nLen s))),.int .i64 (qbV (sSub s (nNat at_) (nLen s))),
 .str (qbT (sSub s (nNat at_) (nLen s))),.int .i64 at_]] 6) (.ite (qaC r2 6) (.ite (nEq k (nXs r2)) (.ite false (.ret (.out .ret [] (Store.mk [[.sl (qay 5 (qay 6 r)) .full],[.int .i64 n],[.int .i64 n2],[.sl (qay 5 (qay 6 (xApp r2 [[.int .i64 (qch (sSub s (nNat at_) (nLen s))),.str (qbf (sSub s (nNat at_) (nLen s))),.int .i64 (qbU (sSub s (nNat at_) (nLen s))),.int .i64 (qbV (sSub s (nNat at_) (nLen s))),.str (qbT (sSub s (nNat at_) (nLen s))),.int .i64 at_]]))) (.tok 1)],[.str s]] [(0,0,1),(nXs (xApp r2 [[.int .i64 (qch (sSub s (nNat at_) (nLen s))),.str (qbf (sSub s (nNat at_) (nLen s))),.int .i64 (qbU (sSub s (nNat at_) (nLen s))),.int .i64 (qbV (sSub s (nNat at_) (nLen s))),.str (qbT (sSub s (nNat at_) (nLen s))),.int .i64 at_]]),6,120)] [75,3,38,75,9]))) (.ite (bNot (qfC (sSub s (nNat at_) (nLen s)))) (.ret (.out .ret [] (Store.mk [[.sl (qay 5 (qay 6 r)) .full],[.int .i64 n],[.int .i64 n2],[.sl (qay 5 (qay 6 (xApp r2 [[.int .i64 (qch (sSub s (nNat at_) (nLen s))),.str (qbf (sSub s (nNat at_) (nLen s))),.int .i64 (qbU (sSub s (nNat at_) (nLen s))),.int .i64 (qbV (sSub s (nNat at_) (nLen s))),.str (qbT (sSub s (nNat at_) (nLen s))),.int .i64 at_]]))) (.tok 1)],[.str s]] [(0,0,1),(nXs (xApp r2 [[.int .i64 (qch (sSub s (nNat at_) (nLen s))),.str (qbf (sSub s (nNat at_) (nLen s))),.int .i64 (qbU (sSub s (nNat at_) (nLen s))),.int .i64 (qbV (sSub s (nNat at_) (nLen s))),.str (qbT (sSub s (nNat at_) (nLen s))),.int .i64 at_]]),6,120)] [75,3,38,75,9]))) (.ite (qaI (qaw (iAdd .i64 at_ (sLen (qbf (sSub s (nNat at_) (nLen s)))))) true (nNat (iAdd .i64 at_ (sLen (qbf (sSub s (nNat at_) (nLen s)))))) (nLen s) (nLen s)) (.ite (qfc (sSub s (nNat (iAdd .i64 at_ (sLen (qbf (sSub s (nNat at_) (nLen s)))))) (nLen s))) (.ret (.next [.yld 0,.ptr 4 0,.int .i64
 (iAdd .i64 (iAdd .i64 at_ (sLen (qbf (sSub s (nNat at_) (nLen s))))) (qbb (sSub s (nNat (iAdd .i64 at_ (sLen (qbf (sSub s (nNat at_) (nLen s)))))) (nLen s))))] (Store.mk [[.sl (qay 5 (qay 6 r)) .full],[.int .i64 n],[.int .i64 n2],[.sl (qay 5 (qay 6 (xApp r2 [[.int .i64 (qch (sSub s (nNat at_) (nLen s))),.str (qbf (sSub s (nNat at_) (nLen s))),.int .i64 (qbU (sSub s (nNat at_) (nLen s))),.int .i64 (qbV (sSub s (nNat at_) (nLen s))),.str (qbT (sSub s (nNat at_) (nLen s))),.int .i64 at_]]))) (.tok 1)],[.str s]] [(0,0,1),(nXs (xApp r2 [[.int .i64 (qch (sSub s (nNat at_) (nLen s))),.str (qbf (sSub s (nNat at_) (nLen s))),.int .i64 (qbU (sSub s (nNat at_) (nLen s))),.int .i64 (qbV (sSub s (nNat at_) (nLen s))),.str (qbT (sSub s (nNat at_) (nLen s))),.int .i64 at_]]),6,120)] [75,3,38,75,9]))) .fail) .fail))) .fail) .fail) .fail) .fail)) .fail) .fail) .fail) (.ret (.out (.exit 0) [] (Store.mk [[.sl r .full],[.int .i64 n],[.int .i64 n2],[.sl r2 (.tok 1)],[.str s]] [(0,0,1),(k,6,120)] [75,3,38,75,9])))
theorem qKU (at_:Int) (r:List (List PV)) (n:Int) (n2:Int) (r2:List (List PV)) (s:List UInt8) (k:Nat):lstep tbT qAv qtv quI quF [.yld 0,.ptr 4 0,.int .i64 at_] ⟨[[.sl r .full],[.int .i64 n],[.int .i64 n2],[.sl r2 (.tok 1)],[.str s]],[(0,0,1),(k,6,120)],[75,3,38,75,9]⟩=qlh at_ r n n2 r2 s k:=by kernel_rfl
theorem qwZ (at_:Int) (r:List (List PV)) (n:Int) (n2:Int) (r2:List (List PV)) (s:List UInt8) (k:Nat):qfP [.yld 0,.ptr 4 0,.int .i64 at_] ⟨[[.sl r .full],[.int .i64 n],[.int .i64 n2],[.sl r2 (.tok 1)],[.str s]],[(0,0,1),(k,6,120)],[75,3,38,75,9]⟩=lnext qfP (qlh at_ r n n2 r2 s k).run:=by unfold qfP; rw [qbK,qKU]
noncomputable def qbs (at_:Int) (r:List (List PV)) (n:Int) (n2:Int) (r2:List (List PV)) (s:List UInt8):Option (PExit × List PV × Store):=qfP [.yld 0,.ptr 4 0,.int .i64 at_] ⟨[[.sl r .full],[.int .i64 n],[.int .i64 n2],[.sl r2 .full],[.str s]],[(0,0,1)],[75,3,38,75,9]⟩
noncomputable def qhg (at_:Int) (r:List (List PV)) (n:Int) (n2:Int) (r2:List (List PV)) (s:List UInt8):List (List PV):=(gRow (gAt (gObj (qbs at_ r n n2 r2 s) 0) 0))
noncomputable def qhK (at_:Int) (r:List (List PV)) (n:Int) (n2:Int) (r2:List (List PV)) (s:List UInt8):Int:=(gInt (gAt (gObj (qbs at_ r n n2 r2 s) 1) 0))
noncomputable def qfz (at_:Int) (r:List (List PV)) (n:Int) (n2:Int) (r2:List (List PV)) (s:List UInt8):Int:=(gInt (gAt (gObj (qbs at_ r n n2 r2 s) 2) 0))
noncomputable def qfi (at_:Int) (r:List (List PV)) (n:Int) (n2:Int) (r2:List (List PV)) (s:List UInt8):List (List PV):=(gRow (gAt (gObj (qbs at_ r n n2 r2 s) 3) 0))
noncomputable def qhF (at_:Int) (r:List (List PV)) (n:Int) (n2:Int) (r2:List (List PV)) (s:List UInt8):List UInt8:=(gStr (gAt (gObj (qbs at_ r n n2 r2 s) 4) 0))
noncomputable def qiZ (at_:Int) (r:List (List PV)) (n:Int) (n2:Int) (r2:List (List PV)) (s:List UInt8):Bool:=isW (qbs at_ r n n2 r2 s) (.ret,[],⟨[[.sl (qhg at_ r n n2 r2 s) .full],[.int .i64 (qhK at_ r n n2 r2 s)],[.int .i64 (qfz at_ r n n2 r2 s)],[.sl (qfi at_ r n n2 r2 s) .full],[.str (qhF at_ r n n2 r2 s)]],[(2,0,1)],[75,3,38,75,9]⟩)
noncomputable def qhv (at_:Int) (r:List (List PV)) (n:Int) (n2:Int) (r2:List (List PV)) (s:List UInt8):List (List PV):=(gRow (gAt (gObj (qbs at_ r n n2 r2 s) 0) 0))
noncomputable def qhP (at_:Int) (r:List (List PV)) (n:Int) (n2:Int) (r2:List (List PV)) (s:List UInt8):Int:=(gInt (gAt (gObj (qbs at_ r n n2 r2 s) 1) 0))
noncomputable def qfZ (at_:Int) (r:List (List PV)) (n:Int) (n2:Int) (r2:List (List PV)) (s:List UInt8):Int:=(gInt (gAt (gObj (qbs at_ r n n2 r2 s) 2) 0))
noncomputable def qfS (at_:Int) (r:List (List PV)) (n:Int) (n2:Int) (r2:List (List PV)) (s:List UInt8):List (List PV):=(gRow (gAt (gObj (qbs at_ r n n2 r2 s) 3) 0))
noncomputable def qhI (at_:Int) (r:List (List PV)) (n:Int) (n2:Int) (r2:List (List PV)) (s:List UInt8):List UInt8:=(gStr (gAt (gObj (qbs at_ r n n2 r2 s) 4) 0))
noncomputable def qhV (at_:Int) (r:List (List PV)) (n:Int) (n2:Int) (r2:List (List PV)) (s:List UInt8):Nat:=(gTok (qbs at_ r n n2 r2 s) 1)
noncomputable def qjq (at_:Int) (r:List (List PV)) (n:Int) (n2:Int) (r2:List (List PV)) (s:List UInt8):Bool:=isW (qbs at_ r n n2 r2 s) (.ret,[],⟨[[.sl (qhv at_ r n n2 r2 s) .full],[.int .i64 (qhP at_ r n n2 r2 s)],[.int .i64 (qfZ at_ r n n2 r2 s)],[.sl (qfS at_ r n n2 r2 s) (.tok 1)],[.str (qhI at_ r n n2 r2 s)]],[(0,0,1),((qhV at_ r n n2 r2 s),6,120)],[75,3,38,75,9]⟩)
noncomputable def qhG (at_:Int) (r:List (List PV)) (n:Int) (n2:Int) (r2:List (List PV)) (s:List UInt8):List (List PV):=(gRow (gAt (gObj (qbs at_ r n n2 r2 s) 0) 0))
noncomputable def qhT (at_:Int) (r:List (List PV)) (n:Int) (n2:Int) (r2:List (List PV)) (s:List UInt8):Int:=(gInt (gAt (gObj (qbs at_ r n n2 r2 s) 1) 0))
noncomputable def qfL (at_:Int) (r:List (List PV)) (n:Int) (n2:Int) (r2:List (List PV)) (s:List UInt8):Int:=(gInt (gAt (gObj (qbs at_ r n n2 r2 s) 2) 0))
noncomputable def qfX (at_:Int) (r:List (List PV)) (n:Int) (n2:Int) (r2:List (List PV)) (s:List UInt8):List (List PV):=(gRow (gAt (gObj (qbs at_ r n n2 r2 s) 3) 0))
noncomputable def qhs (at_:Int) (r:List (List PV)) (n:Int) (n2:Int) (r2:List (List PV)) (s:List UInt8):List UInt8:=(gStr (gAt (gObj (qbs at_ r n n2 r2 s) 4) 0))
noncomputable def qiU (at_:Int) (r:List (List PV)) (n:Int) (n2:Int) (r2:List (List PV)) (s:List UInt8):Bool:=isW (qbs at_ r n n2 r2 s) ((.exit 0),[],⟨[[.sl (qhG at_ r n n2 r2 s) .full],[.int .i64 (qhT at_ r n n2 r2 s)],[.int .i64 (qfL at_ r n n2 r2 s)],[.sl (qfX at_ r n n2 r2 s) .full],[.str (qhs at_ r n n2 r2 s)]],[(0,0,1)],[75,3,38,75,9]⟩)
noncomputable def qg9 (at_:Int) (r:List (List PV)) (n:Int) (n2:Int) (r2:List (List PV)) (s:List UInt8):List (List PV):=(gRow (gAt (gObj (qbs at_ r n n2 r2 s) 0) 0))
noncomputable def qhl (at_:Int) (r:List (List PV)) (n:Int) (n2:Int) (r2:List (List PV)) (s:List UInt8):Int:=(gInt (gAt (gObj (qbs at_ r n n2 r2 s) 1) 0))
noncomputable def qfO (at_:Int) (r:List (List PV)) (n:Int) (n2:Int) (r2:List (List PV)) (s:List UInt8):Int:=(gInt (gAt (gObj (qbs at_ r n n2 r2 s) 2) 0))
noncomputable def qfp (at_:Int) (r:List (List PV)) (n:Int) (n2:Int) (r2:List (List PV)) (s:List UInt8):List (List PV):=(gRow (gAt (gObj (qbs at_ r n n2 r2 s) 3) 0))
noncomputable def qhd (at_:Int) (r:List (List PV)) (n:Int) (n2:Int) (r2:List (List PV)) (s:List UInt8):List UInt8:=(gStr (gAt (gObj (qbs at_ r n n2 r2 s) 4) 0))
noncomputable def qjp (at_:Int) (r:List (List PV)) (n:Int) (n2:Int) (r2:List (List PV)) (s:List UInt8):Bool:=isW (qbs at_ r n n2 r2 s) ((.exit 0),[],⟨[[.sl (qg9 at_ r n n2 r2 s) .full],[.int .i64 (qhl at_ r n n2 r2 s)],[.int .i64 (qfO at_ r n n2 r2 s)],[.sl (qfp at_ r n n2 r2 s) .full],[.str (qhd at_ r n n2 r2 s)]],[(2,0,1)],[75,3,38,75,9]⟩)
noncomputable def qhj (at_:Int) (r:List (List PV)) (n:Int) (n2:Int) (r2:List (List PV)) (s:List UInt8):List (List PV):=(gRow (gAt (gObj (qbs at_ r n n2 r2 s) 0) 0))
noncomputable def qhC (at_:Int) (r:List (List PV)) (n:Int) (n2:Int) (r2:List (List PV)) (s:List UInt8):Int:=(gInt (gAt (gObj (qbs at_ r n n2 r2 s) 1) 0))
noncomputable def qf1 (at_:Int) (r:List (List PV)) (n:Int) (n2:Int) (r2:List (List PV)) (s:List UInt8):Int:=(gInt (gAt (gObj (qbs at_ r n n2 r2 s) 2) 0))
noncomputable def qfr (at_:Int) (r:List (List PV)) (n:Int) (n2:Int) (r2:List (List PV)) (s:List UInt8):List (List PV):=(gRow (gAt (gObj (qbs at_ r n n2 r2 s) 3) 0))
noncomputable def qhm (at_:Int) (r:List (List PV)) (n:Int) (n2:Int) (r2:List (List PV)) (s:List UInt8):List UInt8:=(gStr (gAt (gObj (qbs at_ r n n2 r2 s) 4) 0))
noncomputable def qhL (at_:Int) (r:List (List PV)) (n:Int) (n2:Int) (r2:List (List PV)) (s:List UInt8):Nat:=(gTok (qbs at_ r n n2 r2 s) 1)
noncomputable def qje (at_:Int) (r:List (List PV)) (n:Int) (n2:Int) (r2:List (List PV)) (s:List UInt8):Bool:=isW (qbs at_ r n n2 r2 s) (.ret,[],⟨[[.sl (qhj at_ r n n2 r2 s) .full],[.int .i64 (qhC at_ r n n2 r2 s)],[.int .i64 (qf1 at_ r n n2 r2 s)],[.sl (qfr at_ r n n2 r2 s) (.tok 1)],[.str (qhm at_ r n n2 r2 s)]],[(2,0,1),((qhL at_ r n n2 r2 s),6,120)],[75,3,38,75,9]⟩)
noncomputable def qhi (at_:Int) (r:List (List PV)) (n:Int) (n2:Int) (r2:List (List PV)) (s:List UInt8):List (List PV):=(gRow (gAt (gObj (qbs at_ r n n2 r2 s) 0) 0))
noncomputable def qgY (at_:Int) (r:List (List PV)) (n:Int) (n2:Int) (r2:List (List PV)) (s:List UInt8):Int:=(gInt (gAt (gObj (qbs at_ r n n2 r2 s) 1) 0))
noncomputable def qfR (at_:Int) (r:List (List PV)) (n:Int) (n2:Int) (r2:List (List PV)) (s:List UInt8):Int:=(gInt (gAt (gObj (qbs at_ r n n2 r2 s) 2) 0))
noncomputable def qfV (at_:Int) (r:List (List PV)) (n:Int) (n2:Int) (r2:List (List PV)) (s:List UInt8):List (List PV):=(gRow (gAt (gObj (qbs at_ r n n2 r2 s) 3) 0))
noncomputable def qg1 (at_:Int) (r:List (List PV)) (n:Int) (n2:Int) (r2:List (List PV)) (s:List UInt8):List UInt8:=(gStr (gAt (gObj (qbs at_ r n n2 r2 s) 4) 0))
noncomputable def qg8 (at_:Int) (r:List (List PV)) (n:Int) (n2:Int) (r2:List (List PV)) (s:List UInt8):Nat:=(gTok (qbs at_ r n n2 r2 s) 1)
noncomputable def qjx (at_:Int) (r:List (List PV)) (n:Int) (n2:Int) (r2:List (List PV)) (s:List UInt8):Bool:=isW (qbs at_ r n n2 r2 s) ((.exit 0),[],⟨[[.sl (qhi at_ r n n2 r2 s) .full],[.int .i64 (qgY at_ r n n2 r2 s)],[.int .i64 (qfR at_ r n n2 r2 s)],[.sl (qfV at_ r n n2 r2 s) (.tok 1)],[.str (qg1 at_ r n n2 r2 s)]],[(0,0,1),((qg8 at_ r n n2 r2 s),6,120)],[75,3,38,75,9]⟩)
noncomputable def qhU (at_:Int) (r:List (List PV)) (n:Int) (n2:Int) (r2:List (List PV)) (s:List UInt8):List (List PV):=(gRow (gAt (gObj (qbs at_ r n n2 r2 s) 0) 0))
noncomputable def qhM (at_:Int) (r:List (List PV)) (n:Int) (n2:Int) (r2:List (List PV)) (s:List UInt8):Int:=(gInt (gAt (gObj (qbs at_ r n n2 r2 s) 1) 0))
noncomputable def qfA (at_:Int) (r:List (List PV)) (n:Int) (n2:Int) (r2:List (List PV)) (s:List UInt8):Int:=(gInt (gAt (gObj (qbs at_ r n n2 r2 s) 2) 0))
noncomputable def qfG (at_:Int) (r:List (List PV)) (n:Int) (n2:Int) (r2:List (List PV)) (s:List UInt8):List (List PV):=(gRow (gAt (gObj (qbs at_ r n n2 r2 s) 3) 0))
noncomputable def qhD (at_:Int) (r:List (List PV)) (n:Int) (n2:Int) (r2:List (List PV)) (s:List UInt8):List UInt8:=(gStr (gAt (gObj (qbs at_ r n n2 r2 s) 4) 0))
noncomputable def qhr (at_:Int) (r:List (List PV)) (n:Int) (n2:Int) (r2:List (List PV)) (s:List UInt8):Nat:=(gTok (qbs at_ r n n2 r2 s) 1)
noncomputable def qjl (at_:Int) (r:List (List PV)) (n:Int) (n2:Int) (r2:List (List PV)) (s:List UInt8):Bool:=isW (qbs at_ r n n2 r2 s) ((.exit 0),[],⟨[[.sl (qhU at_ r n n2 r2 s) .full],[.int .i64 (qhM at_ r n n2 r2 s)],[.int .i64 (qfA at_ r n n2 r2 s)],[.sl (qfG at_ r n n2 r2 s) (.tok 1)],[.str (qhD at_ r n n2 r2 s)]],[(2,0,1),((qhr at_ r n n2 r2 s),6,120)],[75,3,38,75,9]⟩)
noncomputable def qkY:List PV→Store→Tr (PExit × List PV × Store) | [.yld 0,.ptr 4 0,.int .i64 at_],⟨[[.sl r .full],[.int .i64 n],[.int .i64 n2],[.sl r2 .full],[.str s]],[(0,0,1)],[75,3,38,75,9]⟩=>.ite (qiZ at_ r n n2 r2 s) (.ret (.ret,[],⟨[[.sl (qhg at_ r n n2 r2 s) .full],[.int .i64 (qhK at_ r n n2 r2 s)],[.int .i64 (qfz at_ r n n2 r2 s)],[.sl (qfi at_ r n n2 r2 s) .full],[.str (qhF at_ r n n2 r2 s)]],[(2,0,1)],[75,3,38,75,9]⟩)) (.ite (qjq at_ r n n2 r2 s) (.ret (.ret,[],⟨[[.sl (qhv at_ r n n2 r2 s) .full],[.int .i64 (qhP at_ r n n2 r2 s)],[.int .i64 (qfZ at_ r n n2 r2 s)],[.sl (qfS at_ r n n2 r2 s) (.tok 1)],[.str (qhI at_ r n n2 r2 s)]],[(0,0,1),((qhV at_ r n n2 r2 s),6,120)],[75,3,38,75,9]⟩)) (.ite (qiU at_ r n n2 r2 s) (.ret ((.exit 0),[],⟨[[.sl (qhG at_ r n n2 r2 s) .full],[.int .i64 (qhT at_ r n n2 r2 s)],[.int .i64 (qfL at_ r n n2 r2 s)],[.sl (qfX at_ r n n2 r2 s) .full],[.str (qhs at_ r n n2 r2 s)]],[(0,0,1)],[75,3,38,75,9]⟩)) (.ite (qjp at_ r n n2 r2 s) (.ret ((.exit 0),[],⟨[[.sl (qg9 at_ r n n2 r2 s) .full],[.int .i64 (qhl at_ r n n2 r2 s)],[.int .i64 (qfO at_ r n n2 r2 s)],[.sl (qfp at_ r n n2 r2 s) .full],[.str (qhd at_ r n n2 r2 s)]],[(2,0,1)],[75,3,38,75,9]⟩)) (.ite (qje at_ r n n2 r2 s) (.ret (.ret,[],⟨[[.sl (qhj at_ r n n2 r2 s) .full],[.int .i64 (qhC at_ r n n2 r2 s)],[.int .i64 (qf1 at_ r n n2 r2 s)],[.sl (qfr at_ r n n2 r2 s) (.tok 1)],[.str (qhm at_ r n n2 r2 s)]],[(2,0,1),((qhL at_ r n n2 r2 s),6,120)],[75,3,38,75,9]⟩)) (.ite (qjx at_ r n n2 r2 s) (.ret ((.exit 0),[],⟨[[.sl (qhi at_ r n n2 r2 s) .full],[.int .i64 (qgY at_ r n n2 r2 s)],[.int .i64 (qfR at_ r n n2 r2 s)],[.sl (qfV at_ r n n2 r2 s) (.tok 1)],[.str (qg1 at_ r n n2 r2 s)]],[(0,0,1),((qg8 at_ r n n2 r2 s),6,120)],[75,3,38,75,9]⟩)) (.ite (qjl at_ r n n2 r2 s) (.ret ((.exit 0),[],⟨[[.sl (qhU at_ r n n2 r2 s) .full],[.int .i64 (qhM at_ r n n2 r2 s)],[.int .i64 (qfA at_ r n n2 r2 s)],[.sl (qfG at_ r n n2 r2 s) (.tok 1)],[.str (qhD at_ r n n2 r2 s)]],[(2,0,1),((qhr at_ r n n2 r2 s),6,120)],[75,3,38,75,9]⟩)) (.fail))))))) | _,_=>.fail
theorem qKP:∀ vs σ r,(qkY vs σ).run=some r→qfP vs σ=some r:=by
 intro vs σ r h
 unfold qkY at h
 split at h
 ·exact qai h fun h=>qai h fun h=>qai h fun h=>qai h fun h=>qai h fun h=>qai h fun h=>qai h fun h=>by cases h
 ·cases h
theorem qFd (gl:Gl) (hg:GlLex gl) (hy:qnC Tryz.prog gl qe2 (.yld 1 fun t a σ=>(qqR t a σ).run)):∀ fr σ e fr' σ',(orc quF qkY fr σ).run=some (e,fr',σ')→LDoes Tryz.prog gl quI fr σ e fr' σ':=qcs qav (qER gl hg hy ) qah (L:=qtv) (qae (by kernel_rfl)) (by kernel_rfl) qKP
noncomputable def qJx:LpsT:=fun r fr σ=>bif Nat.beq r 1 then orc quF qkY fr σ else .fail
noncomputable def qCo (r:List (List PV)) (n:Int) (n2:Int) (r2:List (List PV)) (s:List UInt8):Tr (PV × Store):=.ite (qfc s) (.ite (qiZ (qbb s) r n n2 r2 s) (.ret (.tup [],Store.mk [[.sl (qhg (qbb s) r n n2 r2 s) .full],[.int .i64 (qhK (qbb s) r n n2 r2 s)],[.int .i64 (qfz (qbb s) r n n2 r2 s)],[.sl (qfi (qbb s) r n n2 r2 s) .full],[.str (qhF (qbb s) r n n2 r2 s)]] [(2,0,1)] [75,3,38,75,9])) (.ite (qjq (qbb s) r n n2 r2 s) (.ret (.tup [],Store.mk [[.sl (qhv (qbb s) r n n2 r2 s) .full],[.int .i64 (qhP (qbb s) r n n2 r2 s)],[.int .i64 (qfZ (qbb s) r n n2 r2 s)],[.sl (qfS (qbb s) r n n2 r2 s) (.tok 1)],[.str (qhI (qbb s) r n n2 r2 s)]] [(0,0,1),(qhV (qbb s) r n n2 r2 s,6,120)] [75,3,38,75,9])) (.ite (qiU (qbb s) r n n2 r2 s) (.ret (.tup [],Store.mk [[.sl (qhG (qbb s) r n n2 r2 s) .full],[.int .i64 (qhT (qbb s) r n n2 r2 s)],[.int .i64 (qfL (qbb s) r n n2 r2 s)],[.sl (qfX (qbb s) r n n2 r2 s) .full],[.str (qhs (qbb s) r n n2 r2 s)]] [(0,0,1)] [75,3,38,75,9])) (.ite (qjp (qbb s) r n n2 r2 s) (.ret (.tup [],Store.mk [[.sl (qg9 (qbb s) r n n2 r2 s) .full],[.int .i64 (qhl (qbb s) r n n2 r2 s)],[.int .i64 (qfO (qbb s) r n n2 r2 s)],[.sl (qfp (qbb s) r n n2 r2 s) .full],[.str (qhd (qbb s) r n n2 r2 s)]] [(2,0,1)] [75,3,38,75,9])) (.ite (qje (qbb s) r n n2 r2 s) (.ret (.tup [],Store.mk [[.sl (qhj (qbb s) r n n2 r2 s) .full],[.int .i64 (qhC (qbb s) r n n2 r2 s)],[.int .i64 (qf1 (qbb s) r n n2 r2 s)],[.sl (qfr (qbb s) r n n2 r2 s) (.tok 1)],[.str (qhm (qbb s) r n n2 r2 s)]] [(2,0,1),(qhL (qbb s) r n n2 r2 s,6,120)] [75,3,38,75,9])) (.ite (qjx (qbb s) r n n2 r2 s) (.ret (.tup [],Store.mk [[.sl (qhi (qbb s) r n n2 r2 s) .full],[.int .i64 (qgY (qbb s) r n n2 r2 s)],
 [.int .i64 (qfR (qbb s) r n n2 r2 s)],[.sl (qfV (qbb s) r n n2 r2 s) (.tok 1)],[.str (qg1 (qbb s) r n n2 r2 s)]] [(0,0,1),(qg8 (qbb s) r n n2 r2 s,6,120)] [75,3,38,75,9])) (.ite (qjl (qbb s) r n n2 r2 s) (.ret (.tup [],Store.mk [[.sl (qhU (qbb s) r n n2 r2 s) .full],[.int .i64 (qhM (qbb s) r n n2 r2 s)],[.int .i64 (qfA (qbb s) r n n2 r2 s)],[.sl (qfG (qbb s) r n n2 r2 s) (.tok 1)],[.str (qhD (qbb s) r n n2 r2 s)]] [(2,0,1),(qhr (qbb s) r n n2 r2 s,6,120)] [75,3,38,75,9])) .fail))))))) .fail
theorem qNj (r:List (List PV)) (n:Int) (n2:Int) (r2:List (List PV)) (s:List UInt8):(qlP tbT qAv qJx Tryz.f139 [.yld 0,.ptr 4 0] ⟨[[.sl r .full],[.int .i64 n],[.int .i64 n2],[.sl r2 .full],[.str s]],[(0,0,1)],[75,3,38,75,9]⟩).flat=qCo r n n2 r2 s:=by kernel_rfl
noncomputable def qed (r:List (List PV)) (n:Int) (n2:Int) (r2:List (List PV)) (s:List UInt8):Option (PV × Store):=(qCo r n n2 r2 s).run
noncomputable def qkz (r:List (List PV)) (n:Int) (n2:Int) (r2:List (List PV)) (s:List UInt8):List (List PV):=(gRow (gAt (gObj (qee (qed r n n2 r2 s)) 0) 0))
noncomputable def qkH (r:List (List PV)) (n:Int) (n2:Int) (r2:List (List PV)) (s:List UInt8):Int:=(gInt (gAt (gObj (qee (qed r n n2 r2 s)) 1) 0))
noncomputable def qhB (r:List (List PV)) (n:Int) (n2:Int) (r2:List (List PV)) (s:List UInt8):Int:=(gInt (gAt (gObj (qee (qed r n n2 r2 s)) 2) 0))
noncomputable def qjd (r:List (List PV)) (n:Int) (n2:Int) (r2:List (List PV)) (s:List UInt8):List (List PV):=(gRow (gAt (gObj (qee (qed r n n2 r2 s)) 3) 0))
noncomputable def qm0 (r:List (List PV)) (n:Int) (n2:Int) (r2:List (List PV)) (s:List UInt8):List UInt8:=(gStr (gAt (gObj (qee (qed r n n2 r2 s)) 4) 0))
noncomputable def qmM (r:List (List PV)) (n:Int) (n2:Int) (r2:List (List PV)) (s:List UInt8):Bool:=isW (qed r n n2 r2 s) (.tup [],⟨[[.sl (qkz r n n2 r2 s) .full],[.int .i64 (qkH r n n2 r2 s)],[.int .i64 (qhB r n n2 r2 s)],[.sl (qjd r n n2 r2 s) .full],[.str (qm0 r n n2 r2 s)]],[(2,0,1)],[75,3,38,75,9]⟩)
noncomputable def qmV (r:List (List PV)) (n:Int) (n2:Int) (r2:List (List PV)) (s:List UInt8):List (List PV):=(gRow (gAt (gObj (qee (qed r n n2 r2 s)) 0) 0))
noncomputable def qm6 (r:List (List PV)) (n:Int) (n2:Int) (r2:List (List PV)) (s:List UInt8):Int:=(gInt (gAt (gObj (qee (qed r n n2 r2 s)) 1) 0))
noncomputable def qi6 (r:List (List PV)) (n:Int) (n2:Int) (r2:List (List PV)) (s:List UInt8):Int:=(gInt (gAt (gObj (qee (qed r n n2 r2 s)) 2) 0))
noncomputable def qhA (r:List (List PV)) (n:Int) (n2:Int) (r2:List (List PV)) (s:List UInt8):List (List PV):=(gRow (gAt (gObj (qee (qed r n n2 r2 s)) 3) 0))
noncomputable def qmp (r:List (List PV)) (n:Int) (n2:Int) (r2:List (List PV)) (s:List UInt8):List UInt8:=(gStr (gAt (gObj (qee (qed r n n2 r2 s)) 4) 0))
noncomputable def qmr (r:List (List PV)) (n:Int) (n2:Int) (r2:List (List PV)) (s:List UInt8):Nat:=(gTok (qee (qed r n n2 r2 s)) 1)
noncomputable def qmL (r:List (List PV)) (n:Int) (n2:Int) (r2:List (List PV)) (s:List UInt8):Bool:=isW (qed r n n2 r2 s) (.tup [],⟨[[.sl (qmV r n n2 r2 s) .full],[.int .i64 (qm6 r n n2 r2 s)],[.int .i64 (qi6 r n n2 r2 s)],[.sl (qhA r n n2 r2 s) (.tok 1)],[.str (qmp r n n2 r2 s)]],[(0,0,1),((qmr r n n2 r2 s),6,120)],[75,3,38,75,9]⟩)
noncomputable def qmE (r:List (List PV)) (n:Int) (n2:Int) (r2:List (List PV)) (s:List UInt8):List (List PV):=(gRow (gAt (gObj (qee (qed r n n2 r2 s)) 0) 0))
noncomputable def qmC (r:List (List PV)) (n:Int) (n2:Int) (r2:List (List PV)) (s:List UInt8):Int:=(gInt (gAt (gObj (qee (qed r n n2 r2 s)) 1) 0))
noncomputable def qjs (r:List (List PV)) (n:Int) (n2:Int) (r2:List (List PV)) (s:List UInt8):Int:=(gInt (gAt (gObj (qee (qed r n n2 r2 s)) 2) 0))
noncomputable def qhN (r:List (List PV)) (n:Int) (n2:Int) (r2:List (List PV)) (s:List UInt8):List (List PV):=(gRow (gAt (gObj (qee (qed r n n2 r2 s)) 3) 0))
noncomputable def qnh (r:List (List PV)) (n:Int) (n2:Int) (r2:List (List PV)) (s:List UInt8):List UInt8:=(gStr (gAt (gObj (qee (qed r n n2 r2 s)) 4) 0))
noncomputable def qnr (r:List (List PV)) (n:Int) (n2:Int) (r2:List (List PV)) (s:List UInt8):Bool:=isW (qed r n n2 r2 s) (.tup [],⟨[[.sl (qmE r n n2 r2 s) .full],[.int .i64 (qmC r n n2 r2 s)],[.int .i64 (qjs r n n2 r2 s)],[.sl (qhN r n n2 r2 s) .full],[.str (qnh r n n2 r2 s)]],[(0,0,1)],[75,3,38,75,9]⟩)
noncomputable def qkA (r:List (List PV)) (n:Int) (n2:Int) (r2:List (List PV)) (s:List UInt8):List (List PV):=(gRow (gAt (gObj (qee (qed r n n2 r2 s)) 0) 0))
noncomputable def qkt (r:List (List PV)) (n:Int) (n2:Int) (r2:List (List PV)) (s:List UInt8):Int:=(gInt (gAt (gObj (qee (qed r n n2 r2 s)) 1) 0))
noncomputable def qgZ (r:List (List PV)) (n:Int) (n2:Int) (r2:List (List PV)) (s:List UInt8):Int:=(gInt (gAt (gObj (qee (qed r n n2 r2 s)) 2) 0))
noncomputable def qi4 (r:List (List PV)) (n:Int) (n2:Int) (r2:List (List PV)) (s:List UInt8):List (List PV):=(gRow (gAt (gObj (qee (qed r n n2 r2 s)) 3) 0))
noncomputable def qnf (r:List (List PV)) (n:Int) (n2:Int) (r2:List (List PV)) (s:List UInt8):List UInt8:=(gStr (gAt (gObj (qee (qed r n n2 r2 s)) 4) 0))
noncomputable def qmW (r:List (List PV)) (n:Int) (n2:Int) (r2:List (List PV)) (s:List UInt8):Nat:=(gTok (qee (qed r n n2 r2 s)) 1)
noncomputable def qnj (r:List (List PV)) (n:Int) (n2:Int) (r2:List (List PV)) (s:List UInt8):Bool:=isW (qed r n n2 r2 s) (.tup [],⟨[[.sl (qkA r n n2 r2 s) .full],[.int .i64 (qkt r n n2 r2 s)],[.int .i64 (qgZ r n n2 r2 s)],[.sl (qi4 r n n2 r2 s) (.tok 1)],[.str (qnf r n n2 r2 s)]],[(2,0,1),((qmW r n n2 r2 s),6,120)],[75,3,38,75,9]⟩)
noncomputable def qGh:List PV→Store→Tr (PV × Store) | [.yld 0,.ptr 4 0],⟨[[.sl r .full],[.int .i64 n],[.int .i64 n2],[.sl r2 .full],[.str s]],[(0,0,1)],[75,3,38,75,9]⟩=>.ite (qmM r n n2 r2 s) (.ret (.tup [],⟨[[.sl (qkz r n n2 r2 s) .full],[.int .i64 (qkH r n n2 r2 s)],[.int .i64 (qhB r n n2 r2 s)],[.sl (qjd r n n2 r2 s) .full],[.str (qm0 r n n2 r2 s)]],[(2,0,1)],[75,3,38,75,9]⟩)) (.ite (qmL r n n2 r2 s) (.ret (.tup [],⟨[[.sl (qmV r n n2 r2 s) .full],[.int .i64 (qm6 r n n2 r2 s)],[.int .i64 (qi6 r n n2 r2 s)],[.sl (qhA r n n2 r2 s) (.tok 1)],[.str (qmp r n n2 r2 s)]],[(0,0,1),((qmr r n n2 r2 s),6,120)],[75,3,38,75,9]⟩)) (.ite (qnr r n n2 r2 s) (.ret (.tup [],⟨[[.sl (qmE r n n2 r2 s) .full],[.int .i64 (qmC r n n2 r2 s)],[.int .i64 (qjs r n n2 r2 s)],[.sl (qhN r n n2 r2 s) .full],[.str (qnh r n n2 r2 s)]],[(0,0,1)],[75,3,38,75,9]⟩)) (.ite (qnj r n n2 r2 s) (.ret (.tup [],⟨[[.sl (qkA r n n2 r2 s) .full],[.int .i64 (qkt r n n2 r2 s)],[.int .i64 (qgZ r n n2 r2 s)],[.sl (qi4 r n n2 r2 s) (.tok 1)],[.str (qnf r n n2 r2 s)]],[(2,0,1),((qmW r n n2 r2 s),6,120)],[75,3,38,75,9]⟩)) (.fail)))) | _,_=>.fail
theorem qJ8 (gl:Gl) (hg:GlLex gl) (hy:qnC Tryz.prog gl qe2 (.yld 1 fun t a σ=>(qqR t a σ).run)):SimS Tryz.prog gl 139 fun args σ=>(qGh args σ).run:=by
 refine SimS.of_flat (G:=qAv) (L:=qJx) qav (qER gl hg hy ) qah Tryz.func139 rfl (by rfl) (by kernel_rfl) (qbg (L:=lps qJx) [(1,quI)] (by kernel_rfl) (List.forall_mem_cons.2 ⟨fun fr σ e fr' σ' h=>qFd gl hg hy  fr σ e fr' σ' h,(List.forall_mem_nil _)⟩)) ?_
 intro args σ x h
 unfold qGh at h
 split at h
 ·exact (congrArg Tr.run (qNj _ _ _ _ _)).trans (qai h fun h=>qai h fun h=>qai h fun h=>qai h fun h=>by cases h)
 ·cases h
end Go.Pv
set_option maxHeartbeats 4000000
set_option maxRecDepth 200000
set_option linter.unusedSimpArgs false
set_option linter.unusedVariables false
namespace Go.Pv
open Go Go.Proofs Go.RowKit
theorem qwT (gl:Gl) (hg:GlLex gl):∀ fr σ e fr' σ',(rorc qsq (rngG qi0) 139 qGh fr σ).run=some (e,fr',σ')→Does Tryz.prog gl (rngO qi0) fr σ e fr' σ' :=
 qJb (G:=ofL []) (L:=fun _ _ _=>.fail) qav (fun _ _=>qag) qah (fun _ _=>qae (by kernel_rfl)) (fun _ _=>qae (by kernel_rfl)) (by kernel_rfl) (by kernel_rfl) (by kernel_rfl)
  ⟨Tryz.f139,Tryz.func139,by rfl,by rfl⟩ (fun gl' hv hy=>qJ8 gl' (hg.of_v hv) hy)
end Go.Pv
set_option maxHeartbeats 4000000
set_option maxRecDepth 200000
set_option linter.unusedSimpArgs false
set_option linter.unusedVariables false
namespace Go.Pv
open Go Go.Proofs
noncomputable def qtw:GamT:=ofL []
theorem qAi (gl:Gl):qaR Tryz.prog gl (gam qtw):=qag
noncomputable def qys:LpsT:=fun r fr σ=>.fail
noncomputable def qpo (s:List UInt8):Tr (PV × Store):=.ret (.fn 139 [.ptr 4 0],Store.mk [[.sl [] .full],[.int .i64 0],[.int .i64 0],[.sl [] .full],[.str s]] [] [75,3,38,75,9])
theorem qFL (s:List UInt8):(qlP tbT qtw qys Tryz.f120 [.str s] ⟨[[.sl [] .full],[.int .i64 0],[.int .i64 0],[.sl [] .full]],[],[75,3,38,75]⟩).flat=qpo s:=by kernel_rfl
noncomputable def qgj (s:List UInt8):Option (PV × Store):=(qpo s).run
noncomputable def qb9 (s:List UInt8):List (List PV):=(gRow (gAt (gObj (qee (qgj s)) 0) 0))
noncomputable def qcb (s:List UInt8):Int:=(gInt (gAt (gObj (qee (qgj s)) 1) 0))
noncomputable def qbX (s:List UInt8):Int:=(gInt (gAt (gObj (qee (qgj s)) 2) 0))
noncomputable def qbW (s:List UInt8):List (List PV):=(gRow (gAt (gObj (qee (qgj s)) 3) 0))
noncomputable def qcc (s:List UInt8):List UInt8:=(gStr (gAt (gObj (qee (qgj s)) 4) 0))
noncomputable def qjc (s:List UInt8):Bool:=isW (qgj s) (.fn 139 [.ptr 4 0],⟨[[.sl (qb9 s) .full],[.int .i64 (qcb s)],[.int .i64 (qbX s)],[.sl (qbW s) .full],[.str (qcc s)]],[],[75,3,38,75,9]⟩)
noncomputable def qsX:List PV→Store→Tr (PV × Store) | [.str s],⟨[[.sl [] .full],[.int .i64 0],[.int .i64 0],[.sl [] .full]],[],[75,3,38,75]⟩=>.ite (qjc s) (.ret (.fn 139 [.ptr 4 0],⟨[[.sl (qb9 s) .full],[.int .i64 (qcb s)],[.int .i64 (qbX s)],[.sl (qbW s) .full],[.str (qcc s)]],[],[75,3,38,75,9]⟩)) (.fail) | _,_=>.fail
theorem qz4 (gl:Gl):SimS Tryz.prog gl 120 fun args σ=>(qsX args σ).run:=by
 refine SimS.of_flat (G:=qtw) (L:=qys) qav (qAi gl ) qah Tryz.func120 rfl (by rfl) (by kernel_rfl) (qae (by kernel_rfl)) ?_
 intro args σ x h
 unfold qsX at h
 split at h
 ·exact (congrArg Tr.run (qFL _)).trans (qai h fun h=>by cases h)
 ·cases h
noncomputable def qtl:GamT:=ofL [(120,.store qsX),(qxp+0,.glob qBs)]
theorem qz5 (gl:Gl) (hg:GlLex gl):qaR Tryz.prog gl (gam qtl):=(qes (qz4 gl) (qbS (K:=.glob qBs) (qzD hg) qag))
noncomputable def qsM:LpsT:=fun r fr σ=>if r=500007 then rorc qsq (rngG qi0) 139 qGh fr σ else .fail
noncomputable def qqU (s:List UInt8):Tr PV:=.ite (iLt 65536 (sLen s)) (.ret (.tup [.sl [] .non,.int .i64 0,.int .i64 2])) (.ite (qjc s) (.ite (qmM (qb9 s) (qcb s) (qbX s) (qbW s) (qcc s)) (.ret (.tup [.sl (qb5 (qdv 0 (qkz (qb9 s) (qcb s) (qbX s) (qbW s) (qcc s)))) .non,.int .i64 (qkH (qb9 s) (qcb s) (qbX s) (qbW s) (qcc s)),.int .i64 (qhB (qb9 s) (qcb s) (qbX s) (qbW s) (qcc s))])) (.ite (qmL (qb9 s) (qcb s) (qbX s) (qbW s) (qcc s)) (.ret (.tup [.sl (qb5 (qdv 0 (qhA (qb9 s) (qcb s) (qbX s) (qbW s) (qcc s)))) .non,.int .i64 0,.int .i64 0])) (.ite (qnr (qb9 s) (qcb s) (qbX s) (qbW s) (qcc s)) (.ret (.tup [.sl (qb5 (qdv 0 (qhN (qb9 s) (qcb s) (qbX s) (qbW s) (qcc s)))) .non,.int .i64 0,.int .i64 0])) (.ite (qnj (qb9 s) (qcb s) (qbX s) (qbW s) (qcc s)) (.ret (.tup [.sl (qb5 (qdv 0 (qkA (qb9 s) (qcb s) (qbX s) (qbW s) (qcc s)))) .non,.int .i64 (qkt (qb9 s) (qcb s) (qbX s) (qbW s) (qcc s)),.int .i64 (qgZ (qb9 s) (qcb s) (qbX s) (qbW s) (qcc s))])) .fail)))) .fail)
theorem qHh (s:List UInt8):(tcall tbT qtl qsM Tryz.f80 [.str s]).flat=qqU s:=by kernel_rfl
noncomputable def qhy (s:List UInt8):Option PV:=(qqU s).run
noncomputable def qe6 (s:List UInt8):List (List PV):=(gRow (gAt (gCs (gVal (qhy s))) 0))
noncomputable def qol (s:List UInt8):Int:=(gInt (gAt (gCs (gVal (qhy s))) 1))
noncomputable def qiB (s:List UInt8):Int:=(gInt (gAt (gCs (gVal (qhy s))) 2))
noncomputable def qiR (s:List UInt8):Bool:=isW (qhy s) (.tup [.sl (qe6 s) .non,.int .i64 (qol s),.int .i64 (qiB s)])
noncomputable def qsI:List PV→Tr PV | [.str s]=>.ite (qiR s) (.ret (.tup [.sl (qe6 s) .non,.int .i64 (qol s),.int .i64 (qiB s)])) (.fail) | _=>.fail
theorem qA1 (gl:Gl) (hg:GlLex gl):SimP Tryz.prog gl 80 fun args=>(qsI args).run:=by
 refine SimP.of_flat (G:=qtl) (L:=qsM) qav (qz5 gl hg ) qah  Tryz.func80 rfl (by rfl) (by kernel_rfl) (qtq (L:=lps qsM) [] [(500007,rngO qi0)] (by kernel_rfl) (by kernel_rfl) (List.forall_mem_nil _) (List.forall_mem_cons.2 ⟨fun fr σ e fr' σ' h=>qwT gl hg fr σ e fr' σ' h,(List.forall_mem_nil _)⟩)) ?_
 intro args x h
 unfold qsI at h
 split at h
 ·exact (congrArg Tr.run (qHh _)).trans (qai h fun h=>by cases h)
 ·cases h
end Go.Pv
set_option maxHeartbeats 8000000
set_option maxRecDepth 200000
set_option linter.unusedSimpArgs false
set_option linter.unusedVariables false
namespace Go.Pv
open Go Go.Proofs Go.RowKit
theorem qEI {s:List UInt8} (hs:s.length≤140737488355328) (hne:s≠[]):∃ k x v,qb1 s=some (wTup k x v 0 (wdL s).isSome)∧∀ k' m v',wdL s=some (k',m,v')→k'=k∧x=s.take m∧v'=v:=by
 obtain ⟨c,t,rfl⟩:=List.exists_cons_of_ne_nil hne
 have val:∀ (k:Int) (n:Nat),(valL k (c :: t) n).isSome=decide (eRd ((c :: t).take n)=0)∧∀ k' m v',valL k (c :: t) n=some (k',m,v')→k'=k∧(c :: t).take n=(c :: t).take m∧v'=(kRd ((c :: t).take n),nRd ((c :: t).take n),sRd ((c :: t).take n)):=fun k n=>by
  unfold valL eRd kRd nRd sRd
  cases h:rdV ((c :: t).take n) with
  | none=>simp
  | some v =>
   refine ⟨by simp,fun k' m v' he=>?_⟩
   cases he
   exact ⟨rfl,rfl,rfl⟩
 by_cases h1:qeb c=true
 ·have e:runL innB (c :: t)=runL innB t+1:=by simp [runL,innB,h1]
  refine ⟨1,(c :: t).take (runL innB t+1),(0,0,[]),?_,fun k' m v' he=>?_⟩
  ·rw [qwL hs h1,e]
   congr 2
   simp only [wdL,h1,if_true]
   by_cases hl:runL innB t+1≤64 <;> simp [hl]
  ·simp only [wdL,h1,if_true] at he
   split at he
   ·cases he; exact ⟨rfl,rfl,rfl⟩
   ·cases he
 ·have h1':qeb c=false:=by simpa using h1
  by_cases h2:qfD c=true
  ·have e:runL innB (c :: t)=runL innB t+1:=by simp [runL,innB,h2]
   refine ⟨2,(c :: t).take (runL innB t+1),(0,0,[]),?_,fun k' m v' he=>?_⟩
   ·rw [qwm hs h2,e]
    congr 2
    simp only [wdL,h1',h2,if_true,Bool.false_eq_true,if_false]
    by_cases hl:runL innB t+1≤64 <;> simp [hl]
   ·simp only [wdL,h1',h2,if_true,Bool.false_eq_true,if_false] at he
    split at he
    ·cases he; exact ⟨rfl,rfl,rfl⟩
    ·cases he
  ·have h2':qfD c=false:=by simpa using h2
   by_cases h3:c.toNat=95
   ·have hc:c=95:=UInt8.toNat_inj.1 h3
    refine ⟨3,[95],(0,0,[]),?_,fun k' m v' he=>?_⟩
    ·rw [qCM hs h3]
     congr 2
     simp only [wdL,h1',h2',h3,if_true,Bool.false_eq_true,if_false]
     cases hdIs innB t <;> simp
    ·simp only [wdL,h1',h2',h3,if_true,Bool.false_eq_true,if_false] at he
     split at he
     ·cases he
     ·cases he; exact ⟨rfl,by rw [hc]; simp,rfl⟩
   ·have dg:qb1 (c :: t)=some (dgW (c :: t))→(qaN c || (decide (c.toNat=45) && hdIs qaN t))=true→∃ k x v,qb1 (c :: t)=some (wTup k x v 0 (wdL (c :: t)).isSome)∧∀ k' m v',wdL (c :: t)=some (k',m,v')→k'=k∧x=(c :: t).take m∧v'=v:=fun hw hd=>by
     have e:wdL (c :: t)=valL 4 (c :: t) (runL qaN t+1):=by simp only [wdL,h1',h2',h3,hd,if_true,Bool.false_eq_true,if_false]
     obtain ⟨v1,v2⟩:=val 4 (runL qaN t+1)
     refine ⟨4,(c :: t).take (runL qaN t+1),(kRd ((c :: t).take (runL qaN t+1)),nRd ((c :: t).take (runL qaN t+1)),sRd ((c :: t).take (runL qaN t+1))),?_,fun k' m v' he=>v2 k' m v' (by rw [← e]; exact he)⟩
     rw [hw,e,v1]
     rfl
    by_cases h4:qaN c=true
    ·exact dg (qGk hs h4) (by simp [h4])
    ·have h4':qaN c=false:=by simpa using h4
     by_cases h5:c.toNat=45∧hdIs qaN t=true
     ·cases t with
      | nil=>simp [hdIs] at h5
      | cons d u=>exact dg (qE7 hs h5.1 h5.2) (by simp [h5.1,h5.2])
     ·have h5':(qaN c || (decide (c.toNat=45) && hdIs qaN t))=false:=by
       rw [h4']
       by_cases hc:c.toNat=45
       ·have:hdIs qaN t=false:=by
         cases hh:hdIs qaN t with
         | false=>rfl
         | true=>exact absurd ⟨hc,hh⟩ h5
        simp [this]
       ·simp [hc]
      by_cases h6:c.toNat=34
      ·have e:wdL (c :: t)=if quoL t=0 then none else valL 5 (c :: t) (quoL t+1):=by
        show (if qeb c=true then _ else _)=_
        rw [if_neg h1,if_neg h2,if_neg h3,if_neg (by rw [h5']; simp),if_pos h6]
       obtain ⟨v1,v2⟩:=val 5 (symN t)
       refine ⟨5,(c :: t).take (symN t),(kRd ((c :: t).take (symN t)),nRd ((c :: t).take (symN t)),sRd ((c :: t).take (symN t))),?_,fun k' m v' he=>?_⟩
       ·rw [qCb hs h6,e]
        by_cases hq:quoL t=0
        ·rw [if_pos hq]
         unfold syW symN
         rw [if_pos hq]
         have:eRd []=10:=by decide
         simp [this,wTup]
        ·rw [if_neg hq]
         unfold symN at v1 ⊢
         rw [if_neg hq] at v1 ⊢
         rw [v1]
         rfl
       ·rw [e] at he
        by_cases hq:quoL t=0
        ·rw [if_pos hq] at he; cases he
        ·rw [if_neg hq] at he
         refine v2 k' m v' ?_
         unfold symN
         rw [if_neg hq]
         exact he
      ·have e:wdL (c :: t)=if qdE c t=0 then none else some (6,qdE c t,0,0,[]):=by
        show (if qeb c=true then _ else _)=_
        rw [if_neg h1,if_neg h2,if_neg h3,if_neg (by rw [h5']; simp),if_neg h6]
       have hm:=qAM hs h1' h2' h3 h4' (fun hc=>by
        cases hh:hdIs qaN t with
        | false=>rfl
        | true=>exact absurd ⟨hc,hh⟩ h5) h6
       unfold mkW at hm
       cases ht:hdIs (twoB c) t with
       | true =>
        rw [ht,if_pos rfl] at hm
        have em:qdE c t=2:=by simp [qdE,ht]
        refine ⟨6,(c :: t).take 2,(0,0,[]),?_,fun k' m v' he=>?_⟩
        ·rw [hm,e,em]; rfl
        ·rw [e,em] at he
         cases he
         exact ⟨rfl,rfl,rfl⟩
       | false =>
        rw [ht,if_neg (by simp)] at hm
        refine ⟨6,[c],(0,0,[]),?_,fun k' m v' he=>?_⟩
        ·rw [hm,e]
         congr 2
         unfold qdE
         rw [ht]
         cases qhb c <;> simp
        ·rw [e] at he
         split at he
         ·cases he
         ·rename_i hn
          have em:qdE c t=1:=by
           unfold qdE at hn ⊢
           rw [ht] at hn ⊢
           cases ho:qhb c with
           | true=>simp
           | false=>simp [ho] at hn
          rw [em] at he
          cases he
          exact ⟨rfl,by simp,rfl⟩
def wdT:List TypeId:=[75,3,38,75,9]
def lst (s:List UInt8) (st:Nat) (n n2:Int):List Wd→Store
 | []=>⟨[[.sl [] .full],[.int .i64 n],[.int .i64 n2],[.sl [] .full],[.str s]],[(st,0,1)],wdT⟩
 | a :: l=>⟨[[.sl [] .full],[.int .i64 n],[.int .i64 n2],[.sl (rOf cW (a :: l)) (.tok 1)],[.str s]],[(st,0,1),((a :: l).length,6,120)],wdT⟩
theorem qGv (s:List UInt8) (st:Nat) (n n2:Int) (l:List Wd) (a:Wd):lst s st n n2 (l++[a])=⟨[[.sl [] .full],[.int .i64 n],[.int .i64 n2],[.sl (rOf cW (l++[a])) (.tok 1)],[.str s]],[(st,0,1),((l++[a]).length,6,120)],wdT⟩:=by
 cases l <;> rfl
def wEnd (s:List UInt8) (acc:List Wd):List Wd × Option Nat→Option (PExit × List PV × Store)
 | (l,none)=>some (.exit 0,[],lst s 0 0 0 (acc++l))
 | (l,some p)=>some (.ret,[],lst s 2 (p:Nat) 120 (acc++l))
theorem qll (f i:Nat):lexL f i []=([],none):=by cases f <;> rfl
theorem qJn (s:List UInt8) (hs:s.length≤70000):∀ (f i:Nat) (acc:List Wd),i≤s.length→s.length < i+f→acc.length≤i→qfP [.yld 0,.ptr 4 0,.int .i64 (i:Nat)] (lst s 0 0 0 acc)=wEnd s acc (lexL f i (s.drop i)):=by
 intro f
 induction f with
 | zero=>intro i acc h1 h2 _; omega
 | succ f ih =>
  intro i acc h1 h2 h3
  by_cases hlt:i < s.length
  ·have hS:sSub s (nNat (i:Int)) (nLen s)=s.drop i:=by simp
   have hne:s.drop i≠[]:=by
    intro h
    have:=congrArg List.length h
    simp at this
    omega
   have hSl:(s.drop i).length≤140737488355328:=by simp; omega
   obtain ⟨k,x,v,hw,hw2⟩:=qEI hSl hne
   have a0:qh3 (s.drop i)=true:=by simp [qh3,qch,qbf,qbU,qbV,qbT,qs0,qfC,hw,wTup]
   have a1:qch (s.drop i)=k:=by simp [qch,hw,wTup]
   have a2:qbf (s.drop i)=x:=by simp [qbf,hw,wTup]
   have a3:qbU (s.drop i)=v.1:=by simp [qbU,hw,wTup]
   have a4:qbV (s.drop i)=v.2.1:=by simp [qbV,hw,wTup]
   have a5:qbT (s.drop i)=v.2.2:=by simp [qbT,hw,wTup]
   have a6:qfC (s.drop i)=(wdL (s.drop i)).isSome:=by simp [qfC,hw,wTup]
   have t1:iLt (i:Int) (sLen s)=true:=by simp; omega
   have t2:qaI (qaw (i:Int)) true (nNat (i:Int)) (nLen s) (nLen s)=true:=by simp; omega
   have eL:lexL (f+1) i (s.drop i)=match wdL (s.drop i) with
     | none=>([],some i)
     | some (k,m,v) =>
      ((k,(s.drop i).take m,v,(i:Int)) :: (lexL f (i+m+gapL false ((s.drop i).drop m)) ((s.drop i).drop (m+gapL false ((s.drop i).drop m)))).1,(lexL f (i+m+gapL false ((s.drop i).drop m)) ((s.drop i).drop (m+gapL false ((s.drop i).drop m)))).2):=by
    obtain ⟨c,t,hct⟩:=List.exists_cons_of_ne_nil hne
    rw [hct]
    rfl
   rw [eL]
   cases hwd:wdL (s.drop i) with
   | none =>
    rw [hwd] at a6
    cases acc with
    | nil =>
     show qfP _ ⟨_,_,_⟩=_
     simp only [wdT]
     rw [qBz]
     simp only [qra,hS,a0,a1,a2,a3,a4,a5,a6,t1,t2]
     simp [wEnd,lst,wdT]
    | cons a l =>
     show qfP _ ⟨_,_,_⟩=_
     simp only [wdT]
     rw [qwZ]
     simp only [qlh,hS,a0,a1,a2,a3,a4,a5,a6,t1,t2]
     simp [wEnd,lst,wdT]
   | some r =>
    obtain ⟨k',m,v'⟩:=r
    obtain ⟨rfl,rfl,rfl⟩:=hw2 k' m v' hwd
    rw [hwd] at a6
    obtain ⟨m1,m2⟩:=qmg hwd
    have hx:((s.drop i).take m).length=m:=by rw [List.length_take]; omega
    have m3:i+m≤s.length:=by simp at m2; omega
    have e1:iAdd .i64 (i:Int) (sLen ((s.drop i).take m))=((i+m:Nat):Int):=by
     rw [qho,hx]
     exact qbo (by omega)
    have hS2:sSub s (nNat ((i+m:Nat):Int)) (nLen s)=s.drop (i+m):=by simp only [qss,qtD,qDt,Int.toNat_natCast,List.take_length]
    have t3:qaI (qaw ((i+m:Nat):Int)) true (nNat ((i+m:Nat):Int)) (nLen s) (nLen s)=true:=by simp; omega
    have g1:qfc (s.drop (i+m))=true:=qDA (by simp; omega)
    have g2:qbb (s.drop (i+m))=(gapL false (s.drop (i+m)):Nat):=qHV (by simp; omega)
    have g3:=qkE false (s.drop (i+m))
    have e2:iAdd .i64 ((i+m:Nat):Int) ((gapL false (s.drop (i+m)):Nat):Int)=((i+m+gapL false (s.drop (i+m)):Nat):Int):=qbo (by simp at g3; omega)
    have hd1:(s.drop i).drop m=s.drop (i+m):=by rw [List.drop_drop]
    have hd2:(s.drop i).drop (m+gapL false (s.drop (i+m)))=s.drop (i+m+gapL false (s.drop (i+m))):=by rw [List.drop_drop]; congr 1; omega
    simp only [hd1,hd2]
    have hih:=ih (i+m+gapL false (s.drop (i+m))) (acc++[(k',(s.drop i).take m,v',(i:Int))]) (by simp at g3; omega) (by omega) (by simp; omega)
    have hfin:wEnd s (acc++[(k',(s.drop i).take m,v',(i:Int))]) (lexL f (i+m+gapL false (s.drop (i+m))) (s.drop (i+m+gapL false (s.drop (i+m)))))=wEnd s acc ((k',(s.drop i).take m,v',(i:Int)) :: (lexL f (i+m+gapL false (s.drop (i+m))) (s.drop (i+m+gapL false (s.drop (i+m))))).1,(lexL f (i+m+gapL false (s.drop (i+m))) (s.drop (i+m+gapL false (s.drop (i+m))))).2):=by
     cases hr:lexL f (i+m+gapL false (s.drop (i+m))) (s.drop (i+m+gapL false (s.drop (i+m)))) with
     | mk l o=>cases o <;> simp [wEnd]
    rw [← hfin,← hih,qGv]
    cases acc with
    | nil =>
     show qfP _ ⟨_,_,_⟩=_
     simp only [wdT]
     rw [qBz]
     have o1:qaP [] [[PV.int .i64 k',.str ((s.drop i).take m),.int .i64 v'.1,.int .i64 v'.2.1,.str v'.2.2,.int .i64 (i:Int)]] 64=true:=by simp
     have o2:qaO [[PV.int .i64 k',.str ((s.drop i).take m),.int .i64 v'.1,.int .i64 v'.2.1,.str v'.2.2,.int .i64 (i:Int)]] 6=true:=by simp [one]
     simp only [qra,hS,a0,a1,a2,a3,a4,a5,a6,t1,t2,e1,hS2,t3,g1,g2,e2,o1,o2]
     simp [qHQ,qDO]
    | cons a l =>
     show qfP _ ⟨_,_,_⟩=_
     simp only [wdT]
     rw [qwZ]
     have o1:qaP (rOf cW (a :: l)) [[PV.int .i64 k',.str ((s.drop i).take m),.int .i64 v'.1,.int .i64 v'.2.1,.str v'.2.2,.int .i64 (i:Int)]] 64=true:=by
      simp only [List.length_cons] at h3
      simp
      omega
     have o2:qaO [[PV.int .i64 k',.str ((s.drop i).take m),.int .i64 v'.1,.int .i64 v'.2.1,.str v'.2.2,.int .i64 (i:Int)]] 6=true:=by simp [one]
     simp only [qlh,hS,a0,a1,a2,a3,a4,a5,a6,t1,t2,e1,hS2,t3,g1,g2,e2,o1,o2]
     simp [qDW]
  ·have:i=s.length:=by omega
   subst this
   rw [List.drop_eq_nil_of_le (Nat.le_refl _),qll]
   have t1:iLt (s.length:Int) (sLen s)=false:=by simp
   cases acc with
   | nil =>
    show qfP _ ⟨_,_,_⟩=_
    simp only [wdT]
    rw [qBz]
    simp only [qra,t1]
    simp [wEnd,lst,wdT]
   | cons a l =>
    show qfP _ ⟨_,_,_⟩=_
    simp only [wdT]
    rw [qwZ]
    simp only [qlh,t1]
    simp [wEnd,lst,wdT]
def quh (s:List UInt8):List Wd × Option Nat→Option (PV × Store)
 | (l,none)=>some (.tup [],lst s 0 0 0 l)
 | (l,some p)=>some (.tup [],lst s 2 (p:Nat) 120 l)
theorem qIs {s:List UInt8} (hs:s.length≤70000):qed [] 0 0 [] s=quh s (qeg s):=by
 have hg:=qkE false s
 have h:=qJn s hs (s.length+1) (gapL false s) [] hg (by omega) (by simp)
 rw [show lexL (s.length+1) (gapL false s) (s.drop (gapL false s))=qeg s from rfl] at h
 unfold qed qCo
 rw [qDA (by omega),qHV (by omega)]
 generalize qeg s=r at h ⊢
 simp only [lst,wdT] at h
 generalize ((gapL false s:Nat):Int)=g at h ⊢
 obtain ⟨l,o⟩:=r
 cases o with
 | none =>
  cases l with
  | nil =>
   simp only [wEnd,lst,wdT,List.append_nil,List.nil_append] at h
   simp only [qiZ,qjq,qiU,qjp,qje,qjx,qjl,qhV,qhL,qg8,qhr,qfz,qfZ,qfL,qfO,qf1,qfR,qfA,qhK,qhP,qhT,qhl,qhC,qgY,qhM,qfi,qfS,qfX,qfp,qfr,qfV,qfG,qhg,qhv,qhG,qg9,qhj,qhi,qhU,qhF,qhI,qhs,qhd,qhm,qg1,qhD,qbs,h]
   simp [-qfQ,quh,lst,wdT]
  | cons a l =>
   simp only [wEnd,lst,wdT,List.nil_append] at h
   simp only [qiZ,qjq,qiU,qjp,qje,qjx,qjl,qhV,qhL,qg8,qhr,qfz,qfZ,qfL,qfO,qf1,qfR,qfA,qhK,qhP,qhT,qhl,qhC,qgY,qhM,qfi,qfS,qfX,qfp,qfr,qfV,qfG,qhg,qhv,qhG,qg9,qhj,qhi,qhU,qhF,qhI,qhs,qhd,qhm,qg1,qhD,qbs,h]
   simp [-qfQ,quh,lst,wdT]
 | some p =>
  cases l with
  | nil =>
   simp only [wEnd,lst,wdT,List.append_nil,List.nil_append] at h
   simp only [qiZ,qjq,qiU,qjp,qje,qjx,qjl,qhV,qhL,qg8,qhr,qfz,qfZ,qfL,qfO,qf1,qfR,qfA,qhK,qhP,qhT,qhl,qhC,qgY,qhM,qfi,qfS,qfX,qfp,qfr,qfV,qfG,qhg,qhv,qhG,qg9,qhj,qhi,qhU,qhF,qhI,qhs,qhd,qhm,qg1,qhD,qbs,h]
   simp [-qfQ,quh,lst,wdT]
  | cons a l =>
   simp only [wEnd,lst,wdT,List.nil_append] at h
   simp only [qiZ,qjq,qiU,qjp,qje,qjx,qjl,qhV,qhL,qg8,qhr,qfz,qfZ,qfL,qfO,qf1,qfR,qfA,qhK,qhP,qhT,qhl,qhC,qgY,qhM,qfi,qfS,qfX,qfp,qfr,qfV,qfG,qhg,qhv,qhG,qg9,qhj,qhi,qhU,qhF,qhI,qhs,qhd,qhm,qg1,qhD,qbs,h]
   simp [-qfQ,quh,lst,wdT]
def wOut:List Wd × Option Nat→PV
 | (l,none)=>.tup [.sl (rOf cW l) .non,.int .i64 0,.int .i64 0]
 | (_,some p)=>.tup [.sl [] .non,.int .i64 (p:Nat),.int .i64 120]
theorem qAS {s:List UInt8} (hs:s.length≤70000):qhy s=some (if 65536 < s.length then .tup [.sl [] .non,.int .i64 0,.int .i64 2] else wOut (qeg s)):=by
 have h:=qIs hs
 unfold qhy qqU
 have b:qgj s=some (.fn 139 [.ptr 4 0],⟨[[.sl [] .full],[.int .i64 0],[.int .i64 0],[.sl [] .full],[.str s]],[],wdT⟩):=by simp [-qfQ,qgj,qpo,wdT]
 have b0:qjc s=true:=by
  simp only [qjc,qcb,qbX,qb9,qbW,qcc,b,wdT]
  simp [-qfQ]
 have b1:qcb s=0:=by simp only [qcb,b]; simp [-qfQ]
 have b2:qbX s=0:=by simp only [qbX,b]; simp [-qfQ]
 have b3:qb9 s=[]:=by simp only [qb9,b]; simp [-qfQ]
 have b4:qbW s=[]:=by simp only [qbW,b]; simp [-qfQ]
 have b5:qcc s=s:=by simp only [qcc,b]; simp [-qfQ]
 rw [b0,b1,b2,b3,b4,b5]
 by_cases hl:65536 < s.length
 ·have:iLt 65536 (sLen s)=true:=by simp; omega
  rw [this,if_pos hl]
  rfl
 ·have:iLt 65536 (sLen s)=false:=by simp; omega
  rw [this,if_neg hl]
  generalize qeg s=r at h ⊢
  obtain ⟨l,o⟩:=r
  cases o with
  | none =>
   cases l with
   | nil =>
    simp only [quh,lst,wdT] at h
    simp only [qmM,qmL,qnr,qnj,qmr,qmW,qhB,qi6,qjs,qgZ,qkH,qm6,qmC,qkt,qjd,qhA,qhN,qi4,qkz,qmV,qmE,qkA,qm0,qmp,qnh,qnf,h]
    simp [-qfQ,wOut]
   | cons a l =>
    simp only [quh,lst,wdT] at h
    simp only [qmM,qmL,qnr,qnj,qmr,qmW,qhB,qi6,qjs,qgZ,qkH,qm6,qmC,qkt,qjd,qhA,qhN,qi4,qkz,qmV,qmE,qkA,qm0,qmp,qnh,qnf,h]
    simp [-qfQ,wOut]
  | some p =>
   cases l with
   | nil =>
    simp only [quh,lst,wdT] at h
    simp only [qmM,qmL,qnr,qnj,qmr,qmW,qhB,qi6,qjs,qgZ,qkH,qm6,qmC,qkt,qjd,qhA,qhN,qi4,qkz,qmV,qmE,qkA,qm0,qmp,qnh,qnf,h]
    simp [-qfQ,wOut]
   | cons a l =>
    simp only [quh,lst,wdT] at h
    simp only [qmM,qmL,qnr,qnj,qmr,qmW,qhB,qi6,qjs,qgZ,qkH,qm6,qmC,qkt,qjd,qhA,qhN,qi4,qkz,qmV,qmE,qkA,qm0,qmp,qnh,qnf,h]
    simp [-qfQ,wOut]
end Go.Pv
set_option maxHeartbeats 8000000
set_option maxRecDepth 200000
set_option linter.unusedSimpArgs false
set_option linter.unusedVariables false
namespace Go.Pv
open Go Go.Proofs Go.RowKit
def rEnd (acc:List Wd):List Wd × Option Nat→Option (PExit × List PV × Store)
 | (l,none)=>some (.exit 0,[.sl (rOf cW (acc++l)) (aT (acc++l))],aS 6 120 (acc++l))
 | (l,some p)=>some (.ret,[.sl [] .full,.int .i64 (p:Nat),.int .i64 120],aS 6 120 (acc++l))
theorem qI1 (s:List UInt8) (hs:s.length≤70000):∀ (f i:Nat) (acc:List Wd),i≤s.length→s.length < i+f→acc.length≤i→qb6 [.str s,.sl (rOf cW acc) (aT acc),.int .i64 (i:Nat)] (aS 6 120 acc)=rEnd acc (lexL f i (s.drop i)):=by
 intro f
 induction f with
 | zero=>intro i acc h1 h2 _; omega
 | succ f ih =>
  intro i acc h1 h2 h3
  by_cases hlt:i < s.length
  ·have hne:s.drop i≠[]:=by
    intro h
    have:=congrArg List.length h
    simp at this
    omega
   obtain ⟨c,t,hct⟩:=List.exists_cons_of_ne_nil hne
   have hw:=qDd (v:=s) (by omega) hct
   rw [← hct] at hw
   have t1:iLt (i:Int) (sLen s)=true:=by simp; omega
   have eL:lexL (f+1) i (s.drop i)=match wdL (s.drop i) with
     | none=>([],some i)
     | some (k,m,v) =>
      ((k,(s.drop i).take m,v,(i:Int)) :: (lexL f (i+m+gapL false ((s.drop i).drop m)) ((s.drop i).drop (m+gapL false ((s.drop i).drop m)))).1,(lexL f (i+m+gapL false ((s.drop i).drop m)) ((s.drop i).drop (m+gapL false ((s.drop i).drop m)))).2):=by
    rw [hct]
    rfl
   rw [eL]
   cases hwd:wdL (s.drop i) with
   | none =>
    rw [hwd] at hw
    simp only [rOut,wTup] at hw
    have a0:qfs s (i:Int)=true:=by simp only [qfs,qea,qcN,qcP,qcO,qcR,qcQ,qgv,hw]; simp
    have a6:qgv s (i:Int)=false:=by simp only [qgv,hw]; simp
    cases acc with
    | nil =>
     show qb6 [_,.sl [] .full,_] ⟨[],[],[]⟩=_
     rw [qqD]
     simp only [qgH,t1,a0,a6]
     simp [rEnd]
    | cons a l =>
     show qb6 [_,.sl (rOf cW (a :: l)) (.tok 0),_] ⟨[],[((a :: l).length,6,120)],[]⟩=_
     rw [qmO]
     simp only [qft,t1,a0,a6]
     simp [rEnd,aS]
   | some r =>
    obtain ⟨k,m,v⟩:=r
    rw [hwd] at hw
    simp only [rOut,wTup] at hw
    have a0:qfs s (i:Int)=true:=by simp only [qfs,qea,qcN,qcP,qcO,qcR,qcQ,qgv,hw]; simp
    have a1:qea s (i:Int)=k:=by simp only [qea,hw]; simp
    have a2:qcN s (i:Int)=(s.drop i).take m:=by simp only [qcN,hw]; simp
    have a3:qcP s (i:Int)=v.1:=by simp only [qcP,hw]; simp
    have a4:qcO s (i:Int)=v.2.1:=by simp only [qcO,hw]; simp
    have a5:qcR s (i:Int)=v.2.2:=by simp only [qcR,hw]; simp
    have a7:qcQ s (i:Int)=(i:Int):=by simp only [qcQ,hw]; simp
    have a6:qgv s (i:Int)=true:=by simp only [qgv,hw]; simp
    obtain ⟨m1,m2⟩:=qmg hwd
    have hx:((s.drop i).take m).length=m:=by rw [List.length_take]; omega
    have m3:i+m≤s.length:=by simp at m2; omega
    have e1:iAdd .i64 (i:Int) (sLen ((s.drop i).take m))=((i+m:Nat):Int):=by
     rw [qho,hx]
     exact qbo (by omega)
    have g1:qf6 s ((i+m:Nat):Int)=true:=qDR (by omega) m3
    have g2:qdz s ((i+m:Nat):Int)=((i+m+gapL false (s.drop (i+m)):Nat):Int):=qH2 (by omega) m3
    have g3:=qkE false (s.drop (i+m))
    have hd1:(s.drop i).drop m=s.drop (i+m):=by rw [List.drop_drop]
    have hd2:(s.drop i).drop (m+gapL false (s.drop (i+m)))=s.drop (i+m+gapL false (s.drop (i+m))):=by rw [List.drop_drop]; congr 1; omega
    simp only [hd1,hd2]
    have hih:=ih (i+m+gapL false (s.drop (i+m))) (acc++[(k,(s.drop i).take m,v,(i:Int))]) (by simp at g3; omega) (by omega) (by simp; omega)
    have hfin:rEnd (acc++[(k,(s.drop i).take m,v,(i:Int))]) (lexL f (i+m+gapL false (s.drop (i+m))) (s.drop (i+m+gapL false (s.drop (i+m)))))=rEnd acc ((k,(s.drop i).take m,v,(i:Int)) :: (lexL f (i+m+gapL false (s.drop (i+m))) (s.drop (i+m+gapL false (s.drop (i+m))))).1,(lexL f (i+m+gapL false (s.drop (i+m))) (s.drop (i+m+gapL false (s.drop (i+m))))).2):=by
     cases hr:lexL f (i+m+gapL false (s.drop (i+m))) (s.drop (i+m+gapL false (s.drop (i+m)))) with
     | mk l o=>cases o <;> simp [rEnd]
    rw [← hfin,← hih,qI0,qKq]
    have o2:qaO [[PV.int .i64 k,.str ((s.drop i).take m),.int .i64 v.1,.int .i64 v.2.1,.str v.2.2,.int .i64 (i:Int)]] 6=true:=by simp [one]
    cases acc with
    | nil =>
     show qb6 [_,.sl [] .full,_] ⟨[],[],[]⟩=_
     rw [qqD]
     have o1:qaP [] [[PV.int .i64 k,.str ((s.drop i).take m),.int .i64 v.1,.int .i64 v.2.1,.str v.2.2,.int .i64 (i:Int)]] 64=true:=by simp
     simp only [qgH,t1,a0,a1,a2,a3,a4,a5,a6,a7,e1,g1,g2,o1,o2]
     simp [qHQ,qDO]
    | cons a l =>
     show qb6 [_,.sl (rOf cW (a :: l)) (.tok 0),_] ⟨[],[((a :: l).length,6,120)],[]⟩=_
     rw [qmO]
     have o1:qaP (rOf cW (a :: l)) [[PV.int .i64 k,.str ((s.drop i).take m),.int .i64 v.1,.int .i64 v.2.1,.str v.2.2,.int .i64 (i:Int)]] 64=true:=by
      simp only [List.length_cons] at h3
      simp
      omega
     simp only [qft,t1,a0,a1,a2,a3,a4,a5,a6,a7,e1,g1,g2,o1,o2]
     simp [qDW]
  ·have:i=s.length:=by omega
   subst this
   rw [List.drop_eq_nil_of_le (Nat.le_refl _),qll]
   have t1:iLt (s.length:Int) (sLen s)=false:=by simp
   cases acc with
   | nil =>
    show qb6 [_,.sl [] .full,_] ⟨[],[],[]⟩=_
    rw [qqD]
    simp only [qgH,t1]
    simp [rEnd]
   | cons a l =>
    show qb6 [_,.sl (rOf cW (a :: l)) (.tok 0),_] ⟨[],[((a :: l).length,6,120)],[]⟩=_
    rw [qmO]
    simp only [qft,t1]
    simp [rEnd,aT,aS]
theorem qAf {s:List UInt8} (hs:s.length≤70000):qhc s=some (if 65536 < s.length then .tup [.sl [] .non,.int .i64 0,.int .i64 2] else wOut (qeg s)):=by
 have hg:=qkE false s
 have h:=qI1 s hs (s.length+1) (gapL false s) [] hg (by omega) (by simp)
 rw [show lexL (s.length+1) (gapL false s) (s.drop (gapL false s))=qeg s from rfl] at h
 unfold qhc qpM
 have g1:qf6 s 0=true:=qDR (i:=0) (by omega) (by omega)
 have g2:qdz s 0=(gapL false s:Nat):=by
  have:=qH2 (s:=s) (i:=0) (by omega) (by omega)
  simpa using this
 rw [g1,g2]
 by_cases hl:65536 < s.length
 ·have:iLt 65536 (sLen s)=true:=by simp; omega
  rw [this,if_pos hl]
  rfl
 ·have:iLt 65536 (sLen s)=false:=by simp; omega
  rw [this,if_neg hl]
  generalize qeg s=r at h ⊢
  simp only [qLd,qLh,qIo] at h
  generalize ((gapL false s:Nat):Int)=g at h ⊢
  obtain ⟨l,o⟩:=r
  cases o with
  | none =>
   cases l with
   | nil =>
    simp only [rEnd,List.append_nil,List.nil_append,aT,aS] at h
    simp only [qer,qex,qeE,qei,qez,qeo,qcY,qdf,qdI,qdL,qcu,qcz,qdN,qdD,qbR,h]
    simp [wOut]
   | cons a l =>
    simp only [rEnd,List.nil_append,aT,aS] at h
    simp only [qer,qex,qeE,qei,qez,qeo,qcY,qdf,qdI,qdL,qcu,qcz,qdN,qdD,qbR,h]
    simp [wOut]
  | some p =>
   cases l with
   | nil =>
    simp only [rEnd,List.append_nil,List.nil_append,aT,aS] at h
    simp only [qer,qex,qeE,qei,qez,qeo,qcY,qdf,qdI,qdL,qcu,qcz,qdN,qdD,qbR,h]
    simp [wOut]
   | cons a l =>
    simp only [rEnd,List.nil_append,aT,aS] at h
    simp only [qer,qex,qeE,qei,qez,qeo,qcY,qdf,qdI,qdL,qcu,qcz,qdN,qdD,qbR,h]
    simp [wOut]
end Go.Pv
set_option maxHeartbeats 8000000
set_option maxRecDepth 200000
set_option linter.unusedSimpArgs false
set_option linter.unusedVariables false
namespace Go.Pv
open Go Go.Proofs Go.RowKit
def wL (s:List UInt8):List Wd:=match qeg s with | (l,none)=>l | _=>[]
def wN (s:List UInt8):Int:=match (qeg s).2 with | none=>0 | some p=>(p:Nat)
def wE (s:List UInt8):Int:=match (qeg s).2 with | none=>0 | some _=>120
theorem qEu (s:List UInt8):wOut (qeg s)=.tup [.sl (rOf cW (wL s)) .non,.int .i64 (wN s),.int .i64 (wE s)]:=by
 unfold wL wN wE
 cases h:qeg s with
 | mk l o=>cases o <;> rfl
theorem qi3 {s:List UInt8} (hs:s.length≤65536):qhy s=some (.tup [.sl (rOf cW (wL s)) .non,.int .i64 (wN s),.int .i64 (wE s)]):=by
 rw [qAS (by omega),if_neg (by omega),qEu]
theorem qjr {s:List UInt8} (hs:s.length≤65536):qhc s=some (.tup [.sl (rOf cW (wL s)) .non,.int .i64 (wN s),.int .i64 (wE s)]):=by
 rw [qAf (by omega),if_neg (by omega),qEu]
section
variable {s : List UInt8} (hs : s.length ≤ 65536)
include hs
theorem qrM:qe6 s=rOf cW (wL s):=by simp only [qe6,qi3 hs]; simp
theorem qBg:qol s=wN s:=by simp only [qol,qi3 hs]; simp
theorem qrD:qiB s=wE s:=by simp only [qiB,qi3 hs]; simp
theorem qxa:qiR s=true:=by simp only [qiR,qrM hs,qBg hs,qrD hs,qi3 hs]; simp
theorem qAe:qn6 s=rOf cW (wL s):=by simp only [qn6,qjr hs]; simp
theorem qz0:qoe s=wN s:=by simp only [qoe,qjr hs]; simp
theorem qr2:qiJ s=wE s:=by simp only [qiJ,qjr hs]; simp
theorem qwl:qiP s=true:=by simp only [qiP,qAe hs,qz0 hs,qr2 hs,qjr hs]; simp
end
end Go.Pv
set_option maxHeartbeats 8000000
set_option maxRecDepth 200000
set_option linter.unusedSimpArgs false
set_option linter.unusedVariables false
namespace Go.Pv
open Go Go.Proofs Go.RowKit
def gpB (b:UInt8):Bool:=blB b || decide (b.toNat=37)
def Nxt (r r':List UInt8):Prop:=r'=[]∨hdIs gpB r'=true∨∃ b t t',r=b :: t∧r'=b :: t'
theorem qoi {p:UInt8→Bool} (hp:∀ b,gpB b=true→p b=false) {r r':List UInt8} (hn:Nxt r r') (h:hdIs p r=false):hdIs p r'=false:=by
 rcases hn with rfl | hg | ⟨b,t,t',rfl,rfl⟩
 ·rfl
 ·cases r' with
  | nil=>rfl
  | cons b t=>exact hp b hg
 ·exact h
theorem qnH {p:UInt8→Bool} (hp:∀ b,gpB b=true→p b=false) {r r':List UInt8} (hn:Nxt r r'):∀ t:List UInt8,runL p (t++r)=t.length→runL p (t++r')=t.length
 | [],h=>by
  have h1:hdIs p r=false:=by
   cases r with
   | nil=>rfl
   | cons b t =>
    simp only [List.nil_append,runL,List.length_nil] at h
    cases hb:p b with
    | false=>exact hb
    | true=>rw [hb] at h; simp at h
  have h2:=qoi hp hn h1
  cases r' with
  | nil=>rfl
  | cons b t =>
   have h2:p b=false:=h2
   simp [runL,h2]
 | a :: t,h=>by
  simp only [List.cons_append,runL,List.length_cons] at h ⊢
  cases ha:p a with
  | false=>rw [ha] at h; simp at h
  | true =>
   rw [ha] at h
   simp only [if_true,Nat.add_right_cancel_iff] at h ⊢
   exact qnH hp hn t h
theorem qs7 {n m:Nat} (h:incN n=m+1):n=m∧m≠0:=by
 unfold incN at h
 split at h <;> omega
theorem qlU (r r':List UInt8):∀ (e:Bool) (t:List UInt8),quoE e (t++r)=t.length→t.length≠0→quoE e (t++r')=t.length
 | _,[],_,h=>absurd rfl h
 | true,a :: t,h,_=>by
  simp only [List.cons_append,quoE,List.length_cons] at h ⊢
  obtain ⟨h1,h2⟩:=qs7 h
  rw [qlU r r' false t h1 h2]
  simp [incN,h2]
 | false,a :: t,h,_=>by
  simp only [List.cons_append,quoE,List.length_cons] at h ⊢
  split at h
  ·rename_i h1
   rw [if_pos h1]
   exact h
  ·rename_i h1
   rw [if_neg h1]
   split at h
   ·rename_i h2
    rw [if_pos h2]
    obtain ⟨h1,h2⟩:=qs7 h
    rw [qlU r r' true t h1 h2]
    simp [incN,h2]
   ·rename_i h2
    rw [if_neg h2]
    obtain ⟨h1,h2⟩:=qs7 h
    rw [qlU r r' false t h1 h2]
    simp [incN,h2]
theorem qhH {b:UInt8} (h:gpB b=true):b.toNat=32∨b.toNat=9∨b.toNat=10∨b.toNat=13∨b.toNat=37:=by
 simp only [gpB,blB,Bool.or_eq_true,decide_eq_true_eq] at h
 omega
theorem qyI (b:UInt8) (h:gpB b=true):innB b=false:=by
 rcases qhH h with h | h | h | h | h <;> simp [innB,qeb,qfD,qaN,h]
theorem qID (b:UInt8) (h:gpB b=true):qaN b=false:=by
 rcases qhH h with h | h | h | h | h <;> simp [qaN,h]
theorem qLQ (c b:UInt8) (h:gpB b=true):twoB c b=false:=by
 rcases qhH h with h | h | h | h | h <;> simp [twoB,h]
theorem qfJ {k k':Int} {s:List UInt8} {n m:Nat} {v:Vl} (h:valL k s n=some (k',m,v)):k'=k∧m=n∧rdV (s.take n)=some v:=by
 unfold valL at h
 split at h
 ·rename_i v' hv
  cases h
  exact ⟨rfl,rfl,hv⟩
 ·cases h
theorem qsY {k:Int} {s s':List UInt8} {n m:Nat} {k':Int} {v:Vl} (h:valL k s n=some (k',m,v)) (e:s'.take n=s.take n):valL k s' n=some (k',m,v):=by
 unfold valL at h ⊢
 rw [e]
 exact h
theorem qKD {x r r':List UInt8} {k:Int} {v:Vl} (h:wdL (x++r)=some (k,x.length,v)) (hn:Nxt r r'):wdL (x++r')=some (k,x.length,v):=by
 have hl:=(qmg h).1
 cases x with
 | nil=>simp at hl
 | cons c t =>
  simp only [List.cons_append,wdL,List.length_cons] at h ⊢
  by_cases h1:qeb c=true
  ·simp only [h1,if_true] at h ⊢
   split at h
   ·rename_i h2
    simp only [Option.some.injEq,Prod.mk.injEq,Nat.add_right_cancel_iff] at h
    obtain ⟨rfl,h3,rfl⟩:=h
    have:=qnH qyI hn t h3
    rw [this,if_pos (by omega)]
   ·cases h
  ·rw [if_neg h1] at h ⊢
   by_cases h2:qfD c=true
   ·simp only [h2,if_true] at h ⊢
    split at h
    ·rename_i h4
     simp only [Option.some.injEq,Prod.mk.injEq,Nat.add_right_cancel_iff] at h
     obtain ⟨rfl,h3,rfl⟩:=h
     have:=qnH qyI hn t h3
     rw [this,if_pos (by omega)]
    ·cases h
   ·rw [if_neg h2] at h ⊢
    by_cases h3:c.toNat=95
    ·rw [if_pos h3] at h ⊢
     split at h
     ·cases h
     ·rename_i h4
      simp only [Option.some.injEq,Prod.mk.injEq] at h
      obtain ⟨rfl,h5,rfl⟩:=h
      have ht:t=[]:=by cases t with | nil=>rfl | cons=>simp at h5
      subst ht
      have h6:=qoi qyI hn (by simpa using h4)
      simp [h6]
    ·rw [if_neg h3] at h ⊢
     have dgs:∀ q:Bool,(q || (decide (c.toNat=45) && hdIs qaN (t++r)))=(q || (decide (c.toNat=45) && hdIs qaN (t++r')))∨(t=[]∧hdIs qaN r=true):=by
      intro q
      cases t with
      | cons a t=>exact .inl rfl
      | nil =>
       cases hr:hdIs qaN r with
       | true=>exact .inr ⟨rfl,rfl⟩
       | false =>
        have:=qoi qID hn hr
        left
        simp [hr,this]
     by_cases h4:(qaN c || (decide (c.toNat=45) && hdIs qaN (t++r)))=true
     ·rw [if_pos h4] at h
      obtain ⟨hk,hm,hv⟩:=qfJ h
      have h5:runL qaN (t++r)=t.length:=by omega
      have h6:=qnH qID hn t h5
      have h7:(qaN c || (decide (c.toNat=45) && hdIs qaN (t++r')))=true:=by
       rcases dgs (qaN c) with e | ⟨rfl,e⟩
       ·rw [← e]; exact h4
       ·cases r with
        | nil=>simp [hdIs] at e
        | cons b u =>
         have e:qaN b=true:=e
         simp [runL,e] at h5
      rw [if_pos h7,h6]
      rw [h5] at h
      refine qsY h ?_
      simp
     ·rw [if_neg h4] at h
      have h7:¬ (qaN c || (decide (c.toNat=45) && hdIs qaN (t++r')))=true:=by
       rcases dgs (qaN c) with e | ⟨rfl,e⟩
       ·rw [← e]; exact h4
       ·intro hh
        apply h4
        simp only [List.nil_append,Bool.or_eq_true,Bool.and_eq_true] at hh ⊢
        rcases hh with hh | ⟨hh,_⟩
        ·exact .inl hh
        ·exact .inr ⟨hh,e⟩
      rw [if_neg h7]
      by_cases h5:c.toNat=34
      ·rw [if_pos h5] at h ⊢
       split at h
       ·cases h
       ·rename_i h6
        obtain ⟨hk,hm,hv⟩:=qfJ h
        have h8:quoL (t++r)=t.length:=by omega
        have h9:quoL (t++r')=t.length:=qlU r r' false t h8 (by omega)
        rw [h9,if_neg (by omega)]
        rw [h8] at h
        refine qsY h ?_
        simp
      ·rw [if_neg h5] at h ⊢
       split at h
       ·cases h
       ·rename_i h6
        simp only [Option.some.injEq,Prod.mk.injEq] at h
        obtain ⟨rfl,h8,rfl⟩:=h
        have h9:qdE c (t++r')=t.length+1:=by
         unfold qdE at h8 ⊢
         cases t with
         | nil =>
          show (if hdIs (twoB c) r'=true then 2 else if qhb c=true then 1 else 0)=1
          have h8:(if hdIs (twoB c) r=true then 2 else if qhb c=true then 1 else 0)=1:=h8
          cases hr:hdIs (twoB c) r with
          | true=>rw [if_pos hr] at h8; omega
          | false =>
           rw [if_neg (by rw [hr]; simp)] at h8
           rw [if_neg (by rw [qoi (qLQ c) hn hr]; simp)]
           exact h8
         | cons d t =>
          simp only [List.cons_append,hdIs] at h8 ⊢
          exact h8
        rw [h9]
        simp
def gpS:Bool→List UInt8→Option Bool
 | c,[]=>some c
 | c,b :: s=>if c || blB b || decide (b.toNat=37) then gpS (decide (b.toNat=37) || c && decide (b.toNat≠10)) s else none
theorem qyn:∀ (g:List UInt8) (c c':Bool) (s:List UInt8),gpS c g=some c'→gapL c (g++s)=g.length+gapL c' s
 | [],c,c',s,h=>by cases h; simp
 | b :: g,c,c',s,h=>by
  simp only [gpS] at h
  split at h
  ·rename_i hb
   simp only [List.cons_append,gapL,hb,if_true,List.length_cons]
   rw [qyn g _ c' s h]
   omega
  ·cases h
theorem qsG:∀ (g:List UInt8) (c c':Bool) (s:List UInt8),gpS c g=some c'→gpS c (g++s)=gpS c' s
 | [],c,c',s,h=>by cases h; simp
 | b :: g,c,c',s,h=>by
  simp only [gpS] at h
  split at h
  ·rename_i hb
   simp only [List.cons_append,gpS,hb,if_true]
   exact qsG g _ c' s h
  ·cases h
theorem qtG:∀ (s:List UInt8) (c:Bool),gapL c s=s.length↔∃ c',gpS c s=some c'
 | [],c=>by simp [gapL,gpS]
 | b :: s,c=>by
  have ih:=qtG s (decide (b.toNat=37) || c && decide (b.toNat≠10))
  simp only [gapL,gpS,List.length_cons]
  split
  ·rw [← ih]; omega
  ·simp
theorem qst:∀ (s:List UInt8) (c:Bool),gapL c s < s.length→gpS c (s.take (gapL c s))=some false
 | [],c,h=>by simp at h
 | b :: s,c,h=>by
  have ih:=qst s (decide (b.toNat=37) || c && decide (b.toNat≠10))
  simp only [gapL,List.length_cons] at h ⊢
  split
  ·rename_i hb
   rw [if_pos hb] at h
   simp only [List.take_succ_cons,gpS,hb,if_true]
   exact ih (by omega)
  ·rename_i hb
   simp only [List.take_zero,gpS]
   cases c <;> simp_all
theorem qpU:∀ (s:List UInt8) (c:Bool),gapL false (s.drop (gapL c s))=0
 | [],c=>by simp [gapL]
 | b :: s,c=>by
  simp only [gapL]
  split
  ·simpa using qpU s _
  ·rename_i hb
   have hb:(c || blB b || decide (b.toNat=37))=false:=by simpa using hb
   simp only [Bool.or_eq_false_iff] at hb
   simp [gapL,hb.1.2,hb.2]
theorem qGD {s:List UInt8} {r} (h:wdL s=some r):gapL false s=0:=by
 cases s with
 | nil=>rfl
 | cons b s =>
  simp only [gapL,Bool.false_or]
  split
  ·rename_i hb
   have hb:gpB b=true:=hb
   exfalso
   have hi:=qyI b hb
   have hd:=qID b hb
   simp only [innB,Bool.or_eq_false_iff] at hi
   have h34:b.toNat≠34:=by rcases qhH hb with h | h | h | h | h <;> omega
   have h45:b.toNat≠45:=by rcases qhH hb with h | h | h | h | h <;> omega
   have h95:b.toNat≠95:=by simpa using hi.2
   have hm:qdE b s=0:=by
    unfold qdE
    have h1:hdIs (twoB b) s=false:=by
     cases s with
     | nil=>rfl
     | cons d s=>rcases qhH hb with h | h | h | h | h <;> simp [hdIs,twoB,h]
    have h2:qhb b=false:=by rcases qhH hb with h | h | h | h | h <;> simp [qhb,h]
    rw [h1,h2]
    rfl
   simp [wdL,hi.1.1.1,hi.1.1.2,h95,hd,h45,h34,hm] at h
  ·rfl
abbrev Wv:=Int × List UInt8 × Vl
def stW (w:Wd):Wv:=(w.1,w.2.1,w.2.2.1)
inductive Lx:List Wv→List UInt8→Prop
 | nil (s:List UInt8) (c:Bool) (h:gpS false s=some c):Lx [] s
 | cons (g x r:List UInt8) (k:Int) (v:Vl) (l:List Wv) (hg:gpS false g=some false) (hw:wdL (x++r)=some (k,x.length,v)) (h:Lx l r):Lx ((k,x,v) :: l) (g++(x++r))
theorem Lx.pre {g:List UInt8} (hg:gpS false g=some false) {l:List Wv} {s:List UInt8} (h:Lx l s):Lx l (g++s):=by
 cases h with
 | nil s c h=>exact .nil _ c (by rw [qsG g false false s hg]; exact h)
 | cons g' x r k v l hg' hw h =>
  rw [← List.append_assoc]
  exact .cons _ x r k v l (by rw [qsG g false false g' hg]; exact hg') hw h
theorem Lx.tail {z:List UInt8} (hz:hdIs gpB z=true) (h0:∀ c,∃ c',gpS c z=some c') {l:List Wv} {s:List UInt8} (h:Lx l s):Lx l (s++z):=by
 induction h with
 | nil s c h =>
  obtain ⟨c',hc⟩:=h0 c
  exact .nil _ c' (by rw [qsG s false c z h]; exact hc)
 | cons g x r k v l hg hw h ih =>
  rw [List.append_assoc,List.append_assoc]
  refine .cons g x (r++z) k v l hg (qKD hw ?_) ih
  cases r with
  | nil=>exact .inr (.inl hz)
  | cons b r=>exact .inr (.inr ⟨b,r,r++z,rfl,rfl⟩)
theorem qMR:∀ (f i:Nat) (s:List UInt8) (l:List Wd),s.length < f→gapL false s=0→lexL f i s=(l,none)→Lx (l.map stW) s:=by
 intro f
 induction f with
 | zero=>intro i s l h; omega
 | succ f ih =>
  intro i s l hf hg h
  cases s with
  | nil =>
   simp only [lexL,Prod.mk.injEq] at h
   obtain ⟨rfl,_⟩:=h
   exact .nil [] false rfl
  | cons c t =>
   simp only [lexL] at h
   cases hw:wdL (c :: t) with
   | none=>rw [hw] at h; simp at h
   | some r =>
    obtain ⟨k,m,v⟩:=r
    rw [hw] at h
    simp only [Prod.mk.injEq] at h
    obtain ⟨h1,h2⟩:=h
    obtain ⟨m1,m2⟩:=qmg hw
    generalize hs:c :: t=s at *
    have hd:s.drop (m+gapL false (s.drop m))=(s.drop m).drop (gapL false (s.drop m)):=List.drop_drop.symm
    rw [hd] at h1 h2
    have hgl:=qkE false (s.drop m)
    have hx:s=[]++(s.take m++s.drop m):=(List.take_append_drop m s).symm
    have hm:(s.take m).length=m:=by rw [List.length_take]; omega
    have ih1:=ih (i+m+gapL false (s.drop m)) ((s.drop m).drop (gapL false (s.drop m))) (lexL f (i+m+gapL false (s.drop m)) ((s.drop m).drop (gapL false (s.drop m)))).1 (by simp only [List.length_drop]; omega) (qpU _ _) (Prod.ext rfl h2)
    rw [hx,← h1]
    refine .cons [] (s.take m) (s.drop m) k v _ rfl (by rw [List.take_append_drop,hm]; exact hw) ?_
    by_cases he:gapL false (s.drop m)=(s.drop m).length
    ·have:(s.drop m).drop (gapL false (s.drop m))=[]:=by rw [he]; exact List.drop_length
     rw [this,qll]
     obtain ⟨c',hc⟩:=(qtG _ _).1 he
     exact .nil _ c' hc
    ·have h3:=qst (s.drop m) false (by omega)
     have h4:=Lx.pre h3 ih1
     rwa [List.take_append_drop] at h4
theorem qG6 {s:List UInt8} {l:List Wd} (h:qeg s=(l,none)):Lx (l.map stW) s:=by
 unfold qeg at h
 have hgl:=qkE false s
 have h1:=qMR _ _ _ _ (by simp; omega) (qpU _ _) h
 by_cases he:gapL false s=s.length
 ·have:s.drop (gapL false s)=[]:=by rw [he]; exact List.drop_length
  rw [this,qll] at h
  simp only [Prod.mk.injEq] at h
  obtain ⟨rfl,_⟩:=h
  obtain ⟨c',hc⟩:=(qtG _ _).1 he
  exact .nil _ c' hc
 ·have h4:=Lx.pre (qst s false (by omega)) h1
  rwa [List.take_append_drop] at h4
theorem qK7 {l:List Wv} {s:List UInt8} (h:Lx l s):∀ (f i:Nat),s.length < f→∃ l',lexL f i (s.drop (gapL false s))=(l',none)∧l'.map stW=l:=by
 induction h with
 | nil s c h =>
  intro f i hf
  have:=(qtG s false).2 ⟨c,h⟩
  rw [this,List.drop_length,qll]
  exact ⟨[],rfl,rfl⟩
 | cons g x r k v l hg hw h ih =>
  intro f i hf
  obtain ⟨m1,m2⟩:=qmg hw
  have e:gapL false (g++(x++r))=g.length:=by rw [qyn g false false _ hg,qGD hw]; rfl
  rw [e,List.drop_left]
  cases f with
  | zero=>omega
  | succ f =>
   have hne:x++r≠[]:=by
    intro hh
    rw [hh,List.length_nil] at m2
    omega
   have eL:lexL (f+1) i (x++r)=match wdL (x++r) with
     | none=>([],some i)
     | some (k,m,v) =>
      ((k,(x++r).take m,v,(i:Int)) :: (lexL f (i+m+gapL false ((x++r).drop m)) ((x++r).drop (m+gapL false ((x++r).drop m)))).1,(lexL f (i+m+gapL false ((x++r).drop m)) ((x++r).drop (m+gapL false ((x++r).drop m)))).2):=by
    obtain ⟨c,t,hct⟩:=List.exists_cons_of_ne_nil hne
    rw [hct]
    rfl
   rw [eL,hw]
   simp only [List.drop_left,List.take_left,← List.drop_drop]
   obtain ⟨l',h1,h2⟩:=ih f (i+x.length+gapL false r) (by simp only [List.length_append] at hf m2; omega)
   rw [h1]
   exact ⟨_,rfl,by simp [stW,h2]⟩
theorem qGI {l:List Wv} {s:List UInt8} (h:Lx l s):∃ l',qeg s=(l',none)∧l'.map stW=l:=qK7 h _ _ (by omega)
theorem join_nil (sep:List UInt8):qdy [] sep=[]:=rfl
end Go.Pv
set_option linter.unusedSimpArgs false
set_option linter.unusedVariables false
namespace Go.Pv
abbrev At:=List UInt8 × List Tm
def cA:Cod At where
 enc t:=[.str t.1,.sl (rOf cM t.2) .non]
 dec c:=match c with | [.str x0,.sl x1 .non]=>(match deR cM x1 with | some y1=>some (x0,y1) | _=>none) | _=>none
 k:=2
 of_dec c a h:=by
  split at h
  ·split at h
   ·cases h
    rename_i h1
    rw [qeF cM h1]
   ·cases h
  ·cases h
 dec_of a:=by simp only [qib cM]
 lock a:=by simp only [qfl,lock,qaz]
 shut a:=by simp only [qfe,shut,qff]
 len a:=rfl
 one a:=rfl
@[simp] theorem okSize_cA (l:List At):qaC (rOf cA l) 2=true:=qcp cA l
@[simp] theorem okNews_cA (l:List At):qaO (rOf cA l) 2=true:=qck cA l
@[simp] theorem okGet_cA (l:List At) (i:Nat):qbM [.str [],.sl [] .full] (rOf cA l) i=decide (i < l.length):=qc8 _ _ (fun _=>rfl) l i
@[simp] theorem xStr_cA0 (l:List At) (i:Nat):xStr (rOf cA l) i 0=(l[i]?.getD ([],[])).1:=by unfold xStr; rw [qaQ]; cases l[i]? <;> rfl
@[simp] theorem xRow_cA1 (l:List At) (i:Nat):xRow (rOf cA l) i 1=rOf cM ((l[i]?.getD ([],[])).2):=by unfold xRow; rw [qaQ]; cases l[i]? <;> rfl
abbrev Li:=Int × At × Int × Tm × Tm
def cL:Cod Li where
 enc t:=[.int .i64 t.1,.str t.2.1.1,.sl (rOf cM t.2.1.2) .non,.int .i64 t.2.2.1,.int .i64 t.2.2.2.1.1,.str t.2.2.2.1.2.1,.int .i64 t.2.2.2.1.2.2.1,.int .i64 t.2.2.2.1.2.2.2.1,.str t.2.2.2.1.2.2.2.2,.int .i64 t.2.2.2.2.1,.str t.2.2.2.2.2.1,.int .i64 t.2.2.2.2.2.2.1,.int .i64 t.2.2.2.2.2.2.2.1,.str t.2.2.2.2.2.2.2.2]
 dec c:=match c with | [.int .i64 x0,.str x1,.sl x2 .non,.int .i64 x3,.int .i64 x4,.str x5,.int .i64 x6,.int .i64 x7,.str x8,.int .i64 x9,.str x10,.int .i64 x11,.int .i64 x12,.str x13]=>(match deR cM x2 with | some y2=>some (x0,(x1,y2),x3,(x4,x5,x6,x7,x8),(x9,x10,x11,x12,x13)) | _=>none) | _=>none
 k:=14
 of_dec c a h:=by
  split at h
  ·split at h
   ·cases h
    rename_i h2
    rw [qeF cM h2]
   ·cases h
  ·cases h
 dec_of a:=by simp only [qib cM]
 lock a:=by simp only [qfl,lock,qaz]
 shut a:=by simp only [qfe,shut,qff]
 len a:=rfl
 one a:=rfl
@[simp] theorem qBD (l:List Li):qaC (rOf cL l) 14=true:=qcp cL l
@[simp] theorem okNews_cL (l:List Li):qaO (rOf cL l) 14=true:=qck cL l
@[simp] theorem okGet_cL (l:List Li) (i:Nat):qbM [.int .i64 0,.str [],.sl [] .full,.int .i64 0,.int .i64 0,.str [],.int .i64 0,.int .i64 0,.str [],.int .i64 0,.str [],.int .i64 0,.int .i64 0,.str []] (rOf cL l) i=decide (i < l.length):=qc8 _ _ (fun _=>rfl) l i
@[simp] theorem xInt_cL0 (l:List Li) (i:Nat):xInt (rOf cL l) i 0=(l[i]?.getD (0,([],[]),0,(0,[],0,0,[]),(0,[],0,0,[]))).1:=by unfold xInt; rw [qaQ]; cases l[i]? <;> rfl
@[simp] theorem xStr_cL1 (l:List Li) (i:Nat):xStr (rOf cL l) i 1=(l[i]?.getD (0,([],[]),0,(0,[],0,0,[]),(0,[],0,0,[]))).2.1.1:=by unfold xStr; rw [qaQ]; cases l[i]? <;> rfl
@[simp] theorem xRow_cL2 (l:List Li) (i:Nat):xRow (rOf cL l) i 2=rOf cM ((l[i]?.getD (0,([],[]),0,(0,[],0,0,[]),(0,[],0,0,[]))).2.1.2):=by unfold xRow; rw [qaQ]; cases l[i]? <;> rfl
@[simp] theorem xInt_cL3 (l:List Li) (i:Nat):xInt (rOf cL l) i 3=(l[i]?.getD (0,([],[]),0,(0,[],0,0,[]),(0,[],0,0,[]))).2.2.1:=by unfold xInt; rw [qaQ]; cases l[i]? <;> rfl
@[simp] theorem xInt_cL4 (l:List Li) (i:Nat):xInt (rOf cL l) i 4=(l[i]?.getD (0,([],[]),0,(0,[],0,0,[]),(0,[],0,0,[]))).2.2.2.1.1:=by unfold xInt; rw [qaQ]; cases l[i]? <;> rfl
@[simp] theorem xStr_cL5 (l:List Li) (i:Nat):xStr (rOf cL l) i 5=(l[i]?.getD (0,([],[]),0,(0,[],0,0,[]),(0,[],0,0,[]))).2.2.2.1.2.1:=by unfold xStr; rw [qaQ]; cases l[i]? <;> rfl
@[simp] theorem xInt_cL6 (l:List Li) (i:Nat):xInt (rOf cL l) i 6=(l[i]?.getD (0,([],[]),0,(0,[],0,0,[]),(0,[],0,0,[]))).2.2.2.1.2.2.1:=by unfold xInt; rw [qaQ]; cases l[i]? <;> rfl
@[simp] theorem xInt_cL7 (l:List Li) (i:Nat):xInt (rOf cL l) i 7=(l[i]?.getD (0,([],[]),0,(0,[],0,0,[]),(0,[],0,0,[]))).2.2.2.1.2.2.2.1:=by unfold xInt; rw [qaQ]; cases l[i]? <;> rfl
@[simp] theorem xStr_cL8 (l:List Li) (i:Nat):xStr (rOf cL l) i 8=(l[i]?.getD (0,([],[]),0,(0,[],0,0,[]),(0,[],0,0,[]))).2.2.2.1.2.2.2.2:=by unfold xStr; rw [qaQ]; cases l[i]? <;> rfl
@[simp] theorem xInt_cL9 (l:List Li) (i:Nat):xInt (rOf cL l) i 9=(l[i]?.getD (0,([],[]),0,(0,[],0,0,[]),(0,[],0,0,[]))).2.2.2.2.1:=by unfold xInt; rw [qaQ]; cases l[i]? <;> rfl
@[simp] theorem xStr_cL10 (l:List Li) (i:Nat):xStr (rOf cL l) i 10=(l[i]?.getD (0,([],[]),0,(0,[],0,0,[]),(0,[],0,0,[]))).2.2.2.2.2.1:=by unfold xStr; rw [qaQ]; cases l[i]? <;> rfl
@[simp] theorem xInt_cL11 (l:List Li) (i:Nat):xInt (rOf cL l) i 11=(l[i]?.getD (0,([],[]),0,(0,[],0,0,[]),(0,[],0,0,[]))).2.2.2.2.2.2.1:=by unfold xInt; rw [qaQ]; cases l[i]? <;> rfl
@[simp] theorem xInt_cL12 (l:List Li) (i:Nat):xInt (rOf cL l) i 12=(l[i]?.getD (0,([],[]),0,(0,[],0,0,[]),(0,[],0,0,[]))).2.2.2.2.2.2.2.1:=by unfold xInt; rw [qaQ]; cases l[i]? <;> rfl
@[simp] theorem xStr_cL13 (l:List Li) (i:Nat):xStr (rOf cL l) i 13=(l[i]?.getD (0,([],[]),0,(0,[],0,0,[]),(0,[],0,0,[]))).2.2.2.2.2.2.2.2:=by unfold xStr; rw [qaQ]; cases l[i]? <;> rfl
theorem qII (l:List Li) (x0:Int) (x1:List UInt8) (x2:List Tm) (x3:Int) (x4:Int) (x5:List UInt8) (x6:Int) (x7:Int) (x8:List UInt8) (x9:Int) (x10:List UInt8) (x11:Int) (x12:Int) (x13:List UInt8):rOf cL l++[[.int .i64 x0,.str x1,.sl (rOf cM x2) .non,.int .i64 x3,.int .i64 x4,.str x5,.int .i64 x6,.int .i64 x7,.str x8,.int .i64 x9,.str x10,.int .i64 x11,.int .i64 x12,.str x13]]=rOf cL (l++[(x0,(x1,x2),x3,(x4,x5,x6,x7,x8),(x9,x10,x11,x12,x13))]):=by rw [qgw]; rfl
abbrev Ru:=At × List Li
def cRu:Cod Ru where
 enc t:=[.str t.1.1,.sl (rOf cM t.1.2) .non,.sl (rOf cL t.2) .non]
 dec c:=match c with | [.str x0,.sl x1 .non,.sl x2 .non]=>(match deR cM x1,deR cL x2 with | some y1,some y2=>some ((x0,y1),y2) | _,_=>none) | _=>none
 k:=3
 of_dec c a h:=by
  split at h
  ·split at h
   ·cases h
    rename_i h1 h2
    rw [qeF cM h1,qeF cL h2]
   ·cases h
  ·cases h
 dec_of a:=by simp only [qib cL,qib cM]
 lock a:=by simp only [qfl,lock,qaz]
 shut a:=by simp only [qfe,shut,qff]
 len a:=rfl
 one a:=rfl
@[simp] theorem qAb (l:List Ru):qaC (rOf cRu l) 3=true:=qcp cRu l
@[simp] theorem okNews_cRu (l:List Ru):qaO (rOf cRu l) 3=true:=qck cRu l
@[simp] theorem okGet_cRu (l:List Ru) (i:Nat):qbM [.str [],.sl [] .full,.sl [] .full] (rOf cRu l) i=decide (i < l.length):=qc8 _ _ (fun _=>rfl) l i
@[simp] theorem xStr_cRu0 (l:List Ru) (i:Nat):xStr (rOf cRu l) i 0=(l[i]?.getD (([],[]),[])).1.1:=by unfold xStr; rw [qaQ]; cases l[i]? <;> rfl
@[simp] theorem xRow_cRu1 (l:List Ru) (i:Nat):xRow (rOf cRu l) i 1=rOf cM ((l[i]?.getD (([],[]),[])).1.2):=by unfold xRow; rw [qaQ]; cases l[i]? <;> rfl
@[simp] theorem xRow_cRu2 (l:List Ru) (i:Nat):xRow (rOf cRu l) i 2=rOf cL ((l[i]?.getD (([],[]),[])).2):=by unfold xRow; rw [qaQ]; cases l[i]? <;> rfl
theorem qHf (l:List Ru) (x0:List UInt8) (x1:List Tm) (x2:List Li):rOf cRu l++[[.str x0,.sl (rOf cM x1) .non,.sl (rOf cL x2) .non]]=rOf cRu (l++[((x0,x1),x2)]):=by rw [qgw]; rfl
abbrev De:=List UInt8 × Bool × List Int
def cD:Cod De where
 enc t:=[.str t.1,.bool t.2.1,.sl (rOf cI t.2.2) .non]
 dec c:=match c with | [.str x0,.bool x1,.sl x2 .non]=>(match deR cI x2 with | some y2=>some (x0,x1,y2) | _=>none) | _=>none
 k:=3
 of_dec c a h:=by
  split at h
  ·split at h
   ·cases h
    rename_i h2
    rw [qeF cI h2]
   ·cases h
  ·cases h
 dec_of a:=by simp only [qib cI]
 lock a:=by simp only [qfl,lock,qaz]
 shut a:=by simp only [qfe,shut,qff]
 len a:=rfl
 one a:=rfl
@[simp] theorem qFG (l:List De):qaC (rOf cD l) 3=true:=qcp cD l
@[simp] theorem okNews_cD (l:List De):qaO (rOf cD l) 3=true:=qck cD l
@[simp] theorem okGet_cD (l:List De) (i:Nat):qbM [.str [],.bool false,.sl [] .full] (rOf cD l) i=decide (i < l.length):=qc8 _ _ (fun _=>rfl) l i
@[simp] theorem xStr_cD0 (l:List De) (i:Nat):xStr (rOf cD l) i 0=(l[i]?.getD ([],false,[])).1:=by unfold xStr; rw [qaQ]; cases l[i]? <;> rfl
@[simp] theorem xBool_cD1 (l:List De) (i:Nat):qcm (rOf cD l) i 1=(l[i]?.getD ([],false,[])).2.1:=by unfold qcm; rw [qaQ]; cases l[i]? <;> rfl
@[simp] theorem xRow_cD2 (l:List De) (i:Nat):xRow (rOf cD l) i 2=rOf cI ((l[i]?.getD ([],false,[])).2.2):=by unfold xRow; rw [qaQ]; cases l[i]? <;> rfl
theorem qJ2 (l:List De) (x0:List UInt8) (x1:Bool) (x2:List Int):rOf cD l++[[.str x0,.bool x1,.sl (rOf cI x2) .non]]=rOf cD (l++[(x0,x1,x2)]):=by rw [qgw]; rfl
abbrev Pa:=List UInt8 × Int
def cP:Cod Pa where
 enc t:=[.str t.1,.int .i64 t.2]
 dec c:=match c with | [.str x0,.int .i64 x1]=>(some (x0,x1)) | _=>none
 k:=2
 of_dec c a h:=by
  split at h
  ·cases h; rfl
  ·cases h
 dec_of a:=rfl
 lock a:=rfl
 shut a:=rfl
 len a:=rfl
 one a:=rfl
@[simp] theorem qFh (l:List Pa):qaC (rOf cP l) 2=true:=qcp cP l
@[simp] theorem okNews_cP (l:List Pa):qaO (rOf cP l) 2=true:=qck cP l
@[simp] theorem okGet_cP (l:List Pa) (i:Nat):qbM [.str [],.int .i64 0] (rOf cP l) i=decide (i < l.length):=qc8 _ _ (fun _=>rfl) l i
@[simp] theorem xStr_cP0 (l:List Pa) (i:Nat):xStr (rOf cP l) i 0=(l[i]?.getD ([],0)).1:=by unfold xStr; rw [qaQ]; cases l[i]? <;> rfl
@[simp] theorem xInt_cP1 (l:List Pa) (i:Nat):xInt (rOf cP l) i 1=(l[i]?.getD ([],0)).2:=by unfold xInt; rw [qaQ]; cases l[i]? <;> rfl
theorem qJU (l:List Pa) (x0:List UInt8) (x1:Int):rOf cP l++[[.str x0,.int .i64 x1]]=rOf cP (l++[(x0,x1)]):=by rw [qgw]; rfl
abbrev Ac:=Bool × At
def cAc:Cod Ac where
 enc t:=[.bool t.1,.str t.2.1,.sl (rOf cM t.2.2) .non]
 dec c:=match c with | [.bool x0,.str x1,.sl x2 .non]=>(match deR cM x2 with | some y2=>some (x0,(x1,y2)) | _=>none) | _=>none
 k:=3
 of_dec c a h:=by
  split at h
  ·split at h
   ·cases h
    rename_i h2
    rw [qeF cM h2]
   ·cases h
  ·cases h
 dec_of a:=by simp only [qib cM]
 lock a:=by simp only [qfl,lock,qaz]
 shut a:=by simp only [qfe,shut,qff]
 len a:=rfl
 one a:=rfl
@[simp] theorem qAd (l:List Ac):qaC (rOf cAc l) 3=true:=qcp cAc l
@[simp] theorem okNews_cAc (l:List Ac):qaO (rOf cAc l) 3=true:=qck cAc l
@[simp] theorem okGet_cAc (l:List Ac) (i:Nat):qbM [.bool false,.str [],.sl [] .full] (rOf cAc l) i=decide (i < l.length):=qc8 _ _ (fun _=>rfl) l i
@[simp] theorem xBool_cAc0 (l:List Ac) (i:Nat):qcm (rOf cAc l) i 0=(l[i]?.getD (false,([],[]))).1:=by unfold qcm; rw [qaQ]; cases l[i]? <;> rfl
@[simp] theorem xStr_cAc1 (l:List Ac) (i:Nat):xStr (rOf cAc l) i 1=(l[i]?.getD (false,([],[]))).2.1:=by unfold xStr; rw [qaQ]; cases l[i]? <;> rfl
@[simp] theorem xRow_cAc2 (l:List Ac) (i:Nat):xRow (rOf cAc l) i 2=rOf cM ((l[i]?.getD (false,([],[]))).2.2):=by unfold xRow; rw [qaQ]; cases l[i]? <;> rfl
theorem qHp (l:List Ac) (x0:Bool) (x1:List UInt8) (x2:List Tm):rOf cAc l++[[.bool x0,.str x1,.sl (rOf cM x2) .non]]=rOf cAc (l++[(x0,(x1,x2))]):=by rw [qgw]; rfl
abbrev En:=List UInt8 × List Pa × List Ac
def cE:Cod En where
 enc t:=[.str t.1,.sl (rOf cP t.2.1) .non,.sl (rOf cAc t.2.2) .non]
 dec c:=match c with | [.str x0,.sl x1 .non,.sl x2 .non]=>(match deR cP x1,deR cAc x2 with | some y1,some y2=>some (x0,y1,y2) | _,_=>none) | _=>none
 k:=3
 of_dec c a h:=by
  split at h
  ·split at h
   ·cases h
    rename_i h1 h2
    rw [qeF cP h1,qeF cAc h2]
   ·cases h
  ·cases h
 dec_of a:=by simp only [qib cAc,qib cP]
 lock a:=by simp only [qfl,lock,qaz]
 shut a:=by simp only [qfe,shut,qff]
 len a:=rfl
 one a:=rfl
@[simp] theorem qDE (l:List En):qaC (rOf cE l) 3=true:=qcp cE l
@[simp] theorem okNews_cE (l:List En):qaO (rOf cE l) 3=true:=qck cE l
@[simp] theorem okGet_cE (l:List En) (i:Nat):qbM [.str [],.sl [] .full,.sl [] .full] (rOf cE l) i=decide (i < l.length):=qc8 _ _ (fun _=>rfl) l i
@[simp] theorem xStr_cE0 (l:List En) (i:Nat):xStr (rOf cE l) i 0=(l[i]?.getD ([],[],[])).1:=by unfold xStr; rw [qaQ]; cases l[i]? <;> rfl
@[simp] theorem xRow_cE1 (l:List En) (i:Nat):xRow (rOf cE l) i 1=rOf cP ((l[i]?.getD ([],[],[])).2.1):=by unfold xRow; rw [qaQ]; cases l[i]? <;> rfl
@[simp] theorem xRow_cE2 (l:List En) (i:Nat):xRow (rOf cE l) i 2=rOf cAc ((l[i]?.getD ([],[],[])).2.2):=by unfold xRow; rw [qaQ]; cases l[i]? <;> rfl
theorem qKp (l:List En) (x0:List UInt8) (x1:List Pa) (x2:List Ac):rOf cE l++[[.str x0,.sl (rOf cP x1) .non,.sl (rOf cAc x2) .non]]=rOf cE (l++[(x0,x1,x2)]):=by rw [qgw]; rfl
end Go.Pv
set_option maxHeartbeats 8000000
set_option maxRecDepth 200000
set_option linter.unusedSimpArgs false
set_option linter.unusedVariables false
namespace Go.Pv
open Go Go.Proofs Go.RowKit
theorem qmc {p:UInt8→Bool} {r:List UInt8} (h:hdIs p r=false):∀ t:List UInt8,runL p t=t.length→runL p (t++r)=t.length
 | [],_=>by
  cases r with
  | nil=>rfl
  | cons b r =>
   have h:p b=false:=h
   simp [runL,h]
 | a :: t,e=>by
  simp only [runL,List.length_cons,List.cons_append] at e ⊢
  cases ha:p a with
  | false=>rw [ha] at e; simp at e
  | true =>
   rw [ha] at e
   simp only [if_true,Nat.add_right_cancel_iff] at e ⊢
   exact qmc h t e
theorem qMz {r:List UInt8} (h:hdIs innB r=false):hdIs qaN r=false:=by
 cases r with
 | nil=>rfl
 | cons b r =>
  have h:innB b=false:=h
  simp only [innB,Bool.or_eq_false_iff] at h
  exact h.1.2
theorem qD3 (r:List UInt8) (e:Bool) (t:List UInt8) (h:quoE e t=t.length) (h0:t.length≠0):quoE e (t++r)=t.length:=qlU [] r e t (by rw [List.append_nil]; exact h) h0
theorem qsz {x r:List UInt8} {k:Int} {v:Vl} (h:wdL x=some (k,x.length,v)) (hk:k≠6) (hr:hdIs innB r=false):wdL (x++r)=some (k,x.length,v):=by
 cases x with
 | nil=>have:=(qmg h).1; simp at this
 | cons c t =>
  simp only [List.cons_append,wdL,List.length_cons] at h ⊢
  by_cases h1:qeb c=true
  ·simp only [h1,if_true] at h ⊢
   split at h
   ·simp only [Option.some.injEq,Prod.mk.injEq,Nat.add_right_cancel_iff] at h
    obtain ⟨rfl,h3,rfl⟩:=h
    rw [qmc hr t h3,if_pos (by omega)]
   ·cases h
  ·rw [if_neg h1] at h ⊢
   by_cases h2:qfD c=true
   ·simp only [h2,if_true] at h ⊢
    split at h
    ·simp only [Option.some.injEq,Prod.mk.injEq,Nat.add_right_cancel_iff] at h
     obtain ⟨rfl,h3,rfl⟩:=h
     rw [qmc hr t h3,if_pos (by omega)]
    ·cases h
   ·rw [if_neg h2] at h ⊢
    by_cases h3:c.toNat=95
    ·rw [if_pos h3] at h ⊢
     split at h
     ·cases h
     ·simp only [Option.some.injEq,Prod.mk.injEq] at h
      obtain ⟨rfl,h5,rfl⟩:=h
      have ht:t=[]:=by cases t with | nil=>rfl | cons=>simp at h5
      subst ht
      simp [hr]
    ·rw [if_neg h3] at h ⊢
     by_cases h4:(qaN c || (decide (c.toNat=45) && hdIs qaN t))=true
     ·rw [if_pos h4] at h
      obtain ⟨hk,hm,hv⟩:=qfJ h
      have h5:runL qaN t=t.length:=by omega
      have h6:=qmc (qMz hr) t h5
      have h7:(qaN c || (decide (c.toNat=45) && hdIs qaN (t++r)))=true:=by
       cases t with
       | nil=>simpa [hdIs] using Or.inl h4
       | cons d t=>exact h4
      rw [if_pos h7,h6]
      rw [h5] at h
      refine qsY h ?_
      simp
     ·rw [if_neg h4] at h
      by_cases h5:c.toNat=34
      ·have h7:¬ (qaN c || (decide (c.toNat=45) && hdIs qaN (t++r)))=true:=by simp [qaN,h5]
       rw [if_neg h7]
       rw [if_pos h5] at h ⊢
       split at h
       ·cases h
       ·rename_i h6
        obtain ⟨hk,hm,hv⟩:=qfJ h
        have h8:quoL t=t.length:=by omega
        have h9:quoL (t++r)=t.length:=qD3 r false t h8 (by omega)
        rw [h9,if_neg (by omega)]
        rw [h8] at h
        refine qsY h ?_
        simp
      ·rw [if_neg h5] at h
       split at h
       ·cases h
       ·simp only [Option.some.injEq,Prod.mk.injEq] at h
        exact absurd h.1.symm hk
theorem qIz {s:List UInt8} {k:Int} {m:Nat} {v:Vl} (h:wdL s=some (k,m,v)) (h4:k≠4) (h5:k≠5):v=(0,0,[]):=by
 cases s with
 | nil=>cases h
 | cons c t =>
  simp only [wdL] at h
  repeat' (split at h)
  all_goals first
   | (cases h; done)
   | (cases h; rfl)
   | exact absurd (qfJ h).1 h4
   | exact absurd (qfJ h).1 h5
def isW1 (k:Int) (s:List UInt8):Bool:=match qeg s with
 | ([w],none)=>decide (w.1=k) && decide (w.2.1=s)
 | _=>false
theorem qCp {k:Int} {s:List UInt8} (h:isW1 k s=true):∃ v,wdL s=some (k,s.length,v):=by
 unfold isW1 at h
 split at h
 ·rename_i w e
  obtain ⟨wk,wt,wv,wa⟩:=w
  simp only [Bool.and_eq_true,decide_eq_true_eq] at h
  obtain ⟨rfl,h⟩:=h
  have hx:=qG6 e
  simp only [List.map,stW] at hx
  cases hx with
  | cons g x r k v l hg hw h0 =>
   have hl:=congrArg List.length h
   simp only [List.length_append] at hl
   have hg0:g=[]:=List.eq_nil_of_length_eq_zero (by omega)
   have hr0:r=[]:=List.eq_nil_of_length_eq_zero (by omega)
   subst hg0 hr0
   refine ⟨wv,?_⟩
   rw [List.append_nil] at hw
   rw [List.nil_append,List.append_nil]
   exact hw
 ·cases h
theorem qir {x r:List UInt8} {k:Int} {v:Vl} {l:List Wv} (hw:wdL (x++r)=some (k,x.length,v)) (h:Lx l r):Lx ((k,x,v) :: l) (x++r):=.cons [] x r k v l rfl hw h
theorem qhu {l:List Wv} {s:List UInt8} (h:Lx l s):Lx l (32 :: s):=Lx.pre (g:=[32]) rfl h
theorem qMZ {l:List Wv} {s:List UInt8} (h:Lx l s):Lx l (10 :: s):=Lx.pre (g:=[10]) rfl h
def tk (k:Int) (s:List UInt8):Wv:=(k,s,0,0,[])
theorem qq9 {k:Int} {s:List UInt8} (hk:k=1∨k=2) (h:isW1 k s=true) {r:List UInt8} (hr:hdIs innB r=false) {l:List Wv} (hl:Lx l r):Lx (tk k s :: l) (s++r):=by
 obtain ⟨v,hv⟩:=qCp h
 have hz:=qIz hv (by omega) (by omega)
 subst hz
 exact qir (qsz hv (by omega) hr) hl
theorem qFE {c:UInt8} {r:List UInt8} (h1:qeb c=false) (h2:qfD c=false) (h3:c.toNat≠95) (h4:qaN c=false) (h5:c.toNat=45→hdIs qaN r=false) (h6:c.toNat≠34) (h7:hdIs (twoB c) r=false) (h8:qhb c=true):wdL (c :: r)=some (6,1,0,0,[]):=by
 have hm:qdE c r=1:=by simp [qdE,h7,h8]
 have h9:(qaN c || (decide (c.toNat=45) && hdIs qaN r))=false:=by
  rw [h4]
  by_cases hc:c.toNat=45
  ·simp [h5 hc]
  ·simp [hc]
 simp only [wdL,h1,h2,h9,hm,if_neg h3,if_neg h6,Bool.false_eq_true,if_false]
 rfl
theorem qH9 {c:UInt8} (h:c.toNat≠58∧c.toNat≠60∧c.toNat≠62∧c.toNat≠33) (r:List UInt8):hdIs (twoB c) r=false:=by
 cases r with
 | nil=>rfl
 | cons b r=>simp [hdIs,twoB,h.1,h.2.1,h.2.2.1,h.2.2.2]
theorem qeX (c:UInt8) (hc:c=40∨c=41∨c=44∨c=46∨c=43∨c=61) {l:List Wv} {r:List UInt8} (h:Lx l r):Lx (tk 6 [c] :: l) (c :: r):=by
 refine qir (x:=[c]) ?_ h
 rcases hc with rfl | rfl | rfl | rfl | rfl | rfl <;>
  exact qFE (by decide) (by decide) (by decide) (by decide) (fun h=>absurd h (by decide)) (by decide) (qH9 (by decide) r) (by decide)
theorem qGr {l:List Wv} {r:List UInt8} (h:Lx l r) (hd:hdIs qaN r=false):Lx (tk 6 [45] :: l) (45 :: r) :=
 qir (x:=[45]) (qFE (by decide) (by decide) (by decide) (by decide) (fun _=>hd) (by decide) (qH9 (by decide) r) (by decide)) h
theorem qm2 (c:UInt8) (hc:c=58∨c=60∨c=62) {l:List Wv} {r:List UInt8} (h:Lx l r):Lx (tk 6 [c] :: l) (c :: 32 :: r):=by
 refine qir (x:=[c]) (r:=32 :: r) ?_ (qhu h)
 rcases hc with rfl | rfl | rfl <;>
  exact qFE (by decide) (by decide) (by decide) (by decide) (fun h=>absurd h (by decide)) (by decide) (by rfl) (by decide)
theorem qzQ (c d:UInt8) (hc:(c=58∧d=45)∨(c=60∧d=61)∨(c=62∧d=61)∨(c=33∧d=61)) {l:List Wv} {r:List UInt8} (h:Lx l r):Lx (tk 6 [c,d] :: l) (c :: d :: r):=by
 refine qir (x:=[c,d]) ?_ h
 rcases hc with ⟨rfl,rfl⟩ | ⟨rfl,rfl⟩ | ⟨rfl,rfl⟩ | ⟨rfl,rfl⟩ <;> rfl
def vlR (v:Vl):Prop:=-9223372036854775808≤v.2.1∧v.2.1≤9223372036854775807
def vlT (v:Vl):List UInt8:=qf3 v.1 v.2.1 v.2.2
def vlOk (v:Vl):Bool:=isV v.1 v.2.1 v.2.2
theorem quQ {c:UInt8} (h:48≤c.toNat∧c.toNat≤57):qaN c=true:=by simp [qaN,h.1,h.2]
theorem qyj {p:UInt8→Bool}:∀ {t:List UInt8},(∀ c ∈ t,p c=true)→runL p t=t.length
 | [],_=>rfl
 | a :: t,h=>by
  simp only [runL,h a (by simp),if_true,List.length_cons,qyj (t:=t) fun c hc=>h c (by simp [hc])]
theorem qNi {c:UInt8} {t:List UInt8} (hc:48≤c.toNat∧c.toNat≤57) (ht:∀ d ∈ t,48≤d.toNat∧d.toNat≤57) {v:Vl} (hv:rdV (c :: t)=some v):wdL (c :: t)=some (4,t.length+1,v):=by
 have h1:qeb c=false:=by simp [qeb]; omega
 have h2:qfD c=false:=by simp [qfD]; omega
 have h3:c.toNat≠95:=by omega
 have hr:runL qaN t=t.length:=qyj fun d hd=>quQ (ht d hd)
 simp only [wdL,h1,h2,if_neg h3,quQ hc,hr,Bool.true_or,Bool.false_eq_true,if_false,if_true]
 unfold valL
 rw [show (c :: t).take (t.length+1)=c :: t by simp,hv]
theorem qLM {c:UInt8} {t:List UInt8} (hc:48≤c.toNat∧c.toNat≤57) (ht:∀ d ∈ t,48≤d.toNat∧d.toNat≤57) {v:Vl} (hv:rdV (45 :: c :: t)=some v):wdL (45 :: c :: t)=some (4,t.length+2,v):=by
 have hr:runL qaN (c :: t)=t.length+1:=by
  have:=qyj (p:=qaN) (t:=c :: t) (by
   intro d hd
   rcases List.mem_cons.1 hd with rfl | hd
   ·exact quQ hc
   ·exact quQ (ht d hd))
  simpa using this
 have h0:(qaN 45 || (decide ((45:UInt8).toNat=45) && hdIs qaN (c :: t)))=true:=by
  have:hdIs qaN (c :: t)=true:=quQ hc
  rw [this]; rfl
 have e:wdL (45 :: c :: t)=valL 4 (45 :: c :: t) (runL qaN (c :: t)+1):=by
  simp only [wdL,h0,if_true]
  rfl
 rw [e,hr]
 unfold valL
 rw [show (45 :: c :: t).take (t.length+1+1)=45 :: c :: t by simp,hv]
theorem qFY {v:Vl} (h:vlOk v=true) (hr:vlR v):valid v:=by
 obtain ⟨k,n,s⟩:=v
 simp only [vlOk,isV,decide_eq_true_eq] at h
 unfold valid
 rcases h with ⟨rfl,rfl⟩ | ⟨rfl,rfl,h⟩
 ·exact .inl ⟨rfl,rfl,hr.1,hr.2⟩
 ·exact .inr ⟨rfl,rfl,h⟩
def vlK (v:Vl):Int:=if v.1=1 then 4 else 5
theorem qNm {v:Vl} (h:vlOk v=true) (hr:vlR v):wdL (vlT v)=some (vlK v,(vlT v).length,v):=by
 have hb:=qEZ (qFY h hr)
 obtain ⟨k,n,s⟩:=v
 have hb:rdV (vlT (k,n,s))=some (k,n,s):=hb
 simp only [vlOk,isV,decide_eq_true_eq] at h
 rcases h with ⟨rfl,rfl⟩ | ⟨rfl,rfl,h⟩
 ·have e:vlT (1,n,[])=intV n:=qk9 n
  rw [e] at hb ⊢
  show _=some (4,_,_)
  unfold intV qgO at hb ⊢
  by_cases hn:n < 0
  ·rw [if_pos hn] at hb ⊢
   obtain ⟨c,t,hct,hc⟩:=qgL (-n).toNat
   have hd:=qkS _ (-n).toNat (Nat.lt_succ_self _)
   rw [hct] at hb hd ⊢
   exact qLM hc (fun d hd'=>hd d (by simp [hd'])) hb
  ·rw [if_neg hn] at hb ⊢
   obtain ⟨c,t,hct,hc⟩:=qgL n.toNat
   have hd:=qkS _ n.toNat (Nat.lt_succ_self _)
   rw [hct] at hb hd ⊢
   exact qNi hc (fun d hd'=>hd d (by simp [hd'])) hb
 ·have e:vlT (2,0,s)=symV s:=ql9 h
  rw [e] at hb ⊢
  show _=some (5,_,_)
  have hq:quoL (symB s++[34])=(symB s).length+1:=by
   have key:∀ s:List UInt8,quoE false (symB s++[34])=(symB s).length+1:=by
    intro s
    induction s with
    | nil=>rfl
    | cons c s ih =>
     have ne:∀ {x:UInt8} (u:List UInt8),x.toNat≠34→x.toNat≠92→quoE false (x :: u)=incN (quoE false u):=fun u h1 h2=>by simp [quoE,h1,h2]
     have esc:∀ (x:UInt8) (u:List UInt8),quoE false (92 :: x :: u)=incN (incN (quoE false u)):=fun x u=>by
      have h92:(92:UInt8).toNat=92:=rfl
      simp [quoE,h92]
     have inc:∀ n:Nat,incN (n+1)=n+2:=fun n=>by simp [incN]
     rw [qln,List.append_assoc,List.length_append,qs8]
     split
     ·show quoE false (92 :: c :: (symB s++[34]))=_
      rw [esc,ih]
      simp only [inc,List.length_cons,List.length_nil]
      omega
     ·rename_i hc
      split
      ·show quoE false (92 :: 110 :: (symB s++[34]))=_
       rw [esc,ih]
       simp only [inc,List.length_cons,List.length_nil]
       omega
      ·split
       ·show quoE false (92 :: 116 :: (symB s++[34]))=_
        rw [esc,ih]
        simp only [inc,List.length_cons,List.length_nil]
        omega
       ·split
        ·rename_i hp
         show quoE false (c :: (symB s++[34]))=_
         have c34:c.toNat≠34:=fun h=>hc (.inl (UInt8.toNat_inj.1 h))
         have c92:c.toNat≠92:=fun h=>hc (.inr (UInt8.toNat_inj.1 h))
         rw [ne _ c34 c92,ih]
         simp only [inc,List.length_cons,List.length_nil]
         omega
        ·show quoE false (92 :: 120 :: hx1 c :: hx2 c :: (symB s++[34]))=_
         have hx:∀ c:UInt8,(hx1 c).toNat≠34∧(hx1 c).toNat≠92∧(hx2 c).toNat≠34∧(hx2 c).toNat≠92:=by
          have fin:∀ n:Fin 256,(hx1 (UInt8.ofNat n.val)).toNat≠34∧(hx1 (UInt8.ofNat n.val)).toNat≠92∧(hx2 (UInt8.ofNat n.val)).toNat≠34∧(hx2 (UInt8.ofNat n.val)).toNat≠92:=by decide +kernel
          intro c
          have:=fin ⟨c.toNat,c.toNat_lt⟩
          simpa using this
         obtain ⟨x1,x2,x3,x4⟩:=hx c
         rw [esc,ne _ x1 x2,ne _ x3 x4,ih]
         simp only [inc,List.length_cons,List.length_nil]
         omega
   exact key s
  have e2:symV s=34 :: (symB s++[34]):=rfl
  rw [e2] at hb ⊢
  have e3:wdL (34 :: (symB s++[34]))=if quoL (symB s++[34])=0 then none else valL 5 (34 :: (symB s++[34])) (quoL (symB s++[34])+1):=rfl
  rw [e3,hq,if_neg (by omega)]
  unfold valL
  rw [show (34 :: (symB s++[34])).take ((symB s).length+1+1)=34 :: (symB s++[34]) by
   rw [List.take_of_length_le (by simp)],hb]
  simp
theorem qMO {v:Vl} (h:vlOk v=true) (hv:vlR v) {r:List UInt8} (hr:hdIs innB r=false) {l:List Wv} (hl:Lx l r):Lx ((vlK v,vlT v,v) :: l) (vlT v++r) :=
 qir (qsz (qNm h hv) (by unfold vlK; split <;> decide) hr) hl
end Go.Pv
set_option maxHeartbeats 8000000
set_option maxRecDepth 200000
set_option linter.unusedSimpArgs false
set_option linter.unusedVariables false
namespace Go.Pv
open Go Go.Proofs Go.RowKit
abbrev Txt:=List UInt8
def resv:List Txt:=[[98,97,115,101],[118,105,101,119],[111,110],[110,111,116]]
def nmB (s:Txt):Bool:=isW1 1 s && !resv.contains s
def vrB (s:Txt):Bool:=isW1 2 s
def jn {α:Type} (ok:α→Bool) (T:α→Txt) (sep:Txt) (l:List α):Txt:=if l.all ok then qdy (l.map T) sep else []
def tmOk (t:Tm):Bool:=if t.1=1 then vrB t.2.1 && decide (t.2.2=(0,0,[])) else if t.1=2 then vlOk t.2.2 && decide (t.2.1=[]) else decide (t=(3,[],0,0,[]))
def tmT (t:Tm):Txt:=if t.1=1 then t.2.1 else if t.1=2 then vlT t.2.2 else [95]
def atOk (a:At):Bool:=a.2.all tmOk && nmB a.1
def atT (a:At):Txt:=a.1++[40]++jn tmOk tmT [44,32] a.2++[41]
def opOk (o:Int):Bool:=decide (1≤o∧o≤6)
def opT (o:Int):Txt:=if o=1 then [32,61,32] else if o=2 then [32,33,61,32] else if o=3 then [32,60,32] else if o=4 then [32,60,61,32] else if o=5 then [32,62,32] else if o=6 then [32,62,61,32] else []
def tm0:Tm:=(0,[],0,0,[])
def qHu (l:Li):Bool:=decide (l.2.2.1=0) && decide (l.2.2.2.1=tm0) && decide (l.2.2.2.2=tm0)
def liOk (l:Li):Bool:=if l.1=1∨l.1=2 then atOk l.2.1 && qHu l else if l.1=3 then tmOk l.2.2.2.1 && opOk l.2.2.1 && tmOk l.2.2.2.2 && decide (l.2.1=([],[])) else false
def liT (l:Li):Txt:=if l.1=1 then atT l.2.1 else if l.1=2 then [110,111,116,32]++atT l.2.1 else if l.1=3 then tmT l.2.2.2.1++opT l.2.2.1++tmT l.2.2.2.2 else []
def ruOk (r:Ru):Bool:=atOk r.1 && r.2.all liOk
def ruT (r:Ru):Txt:=atT r.1++(if r.2=[] then [] else [32,58,45,32]++jn liOk liT [44,32] r.2)++[46]
def tyOk (t:Int):Bool:=decide (t=1∨t=2)
def tyT (t:Int):Txt:=if t=1 then [105,110,116] else if t=2 then [115,121,109] else []
def deOk (d:De):Bool:=d.2.2.all tyOk && nmB d.1
def deT (d:De):Txt:=(if d.2.1 then [98,97,115,101,32] else [118,105,101,119,32])++d.1++[40]++jn tyOk tyT [44,32] d.2.2++[41,46]
def paOk (p:Pa):Bool:=tyOk p.2 && vrB p.1
def paT (p:Pa):Txt:=p.1++[32]++tyT p.2
def acOk (a:Ac):Bool:=atOk a.2
def acT (a:Ac):Txt:=(if a.1 then [43] else [45])++atT a.2
def enOk (o:En):Bool:=o.2.1.all paOk && o.2.2.all acOk && nmB o.1
def enT (o:En):Txt:=[111,110,32]++o.1++[40]++jn paOk paT [44,32] o.2.1++[41]++(if o.2.2=[] then [] else [58,32]++jn acOk acT [44,32] o.2.2)++[46]
def sepK {α:Type} (K:α→List Wv):List α→List Wv
 | []=>[]
 | a :: l=>K a++l.flatMap fun b=>tk 6 [44] :: K b
def tmK (t:Tm):Wv:=if t.1=1 then tk 2 t.2.1 else if t.1=2 then (vlK t.2.2,vlT t.2.2,t.2.2) else tk 3 [95]
def atK (a:At):List Wv:=tk 1 a.1 :: tk 6 [40] :: (sepK (fun t=>[tmK t]) a.2++[tk 6 [41]])
def opW (o:Int):Txt:=if o=1 then [61] else if o=2 then [33,61] else if o=3 then [60] else if o=4 then [60,61] else if o=5 then [62] else [62,61]
def liK (l:Li):List Wv:=if l.1=1 then atK l.2.1 else if l.1=2 then tk 1 [110,111,116] :: atK l.2.1 else [tmK l.2.2.2.1,tk 6 (opW l.2.2.1),tmK l.2.2.2.2]
def ruK (r:Ru):List Wv:=atK r.1++((if r.2=[] then [] else tk 6 [58,45] :: sepK liK r.2)++[tk 6 [46]])
def tyK (t:Int):List Wv:=[tk 1 (tyT t)]
def deK (d:De):List Wv:=tk 1 (if d.2.1 then [98,97,115,101] else [118,105,101,119]) :: tk 1 d.1 :: tk 6 [40] :: (sepK tyK d.2.2++[tk 6 [41],tk 6 [46]])
def paK (p:Pa):List Wv:=[tk 2 p.1,tk 1 (tyT p.2)]
def acK (a:Ac):List Wv:=tk 6 (if a.1 then [43] else [45]) :: atK a.2
def enK (o:En):List Wv:=tk 1 [111,110] :: tk 1 o.1 :: tk 6 [40] :: (sepK paK o.2.1++tk 6 [41] :: ((if o.2.2=[] then [] else tk 6 [58] :: sepK acK o.2.2)++[tk 6 [46]]))
def tmR (t:Tm):Prop:=vlR t.2.2
def atR (a:At):Prop:=∀ t ∈ a.2,tmR t
def liR (l:Li):Prop:=atR l.2.1∧tmR l.2.2.2.1∧tmR l.2.2.2.2
def ruR (r:Ru):Prop:=atR r.1∧∀ l ∈ r.2,liR l
def acR (a:Ac):Prop:=atR a.2
def enR (o:En):Prop:=∀ a ∈ o.2.2,acR a
def Has (x:Txt) (K:List Wv):Prop:=∀ (m:List Wv) (r:Txt),hdIs innB r=false→Lx m r→Lx (K++m) (x++r)
theorem qlV (sep:Txt):qdy [] sep=[]:=rfl
theorem qp8 (x sep:Txt):qdy [x] sep=x:=by simp [qdy,Lib.join_one]
theorem qq7 (x y:Txt) (l:List Txt) (sep:Txt):qdy (x :: y :: l) sep=x++(sep++qdy (y :: l) sep):=by simp [qdy,Lib.join,List.intercalate]
theorem qCB {α:Type} {T:α→Txt} {K:α→List Wv} {l:List α} (h:∀ a ∈ l,Has (T a) (K a)):Has (qdy (l.map T) [44,32]) (sepK K l):=by
 induction l with
 | nil=>intro m r hr hl; exact hl
 | cons a l ih =>
  intro m r hr hl
  cases l with
  | nil =>
   simp only [List.map_cons,List.map_nil,qp8,sepK,List.flatMap_nil,List.append_nil]
   exact h a (by simp) m r hr hl
  | cons b l =>
   have ih':=ih (fun x hx=>h x (by simp [hx])) m r hr hl
   simp only [List.map_cons,qq7,sepK,List.flatMap_cons,List.append_assoc,List.cons_append,List.nil_append] at ih' ⊢
   exact h a (by simp) _ _ rfl (qeX 44 (by simp) (qhu ih'))
theorem qvy {α:Type} {ok:α→Bool} {T:α→Txt} {sep:Txt} {l:List α} (h:l.all ok=true):jn ok T sep l=qdy (l.map T) sep:=by unfold jn; rw [if_pos h]
theorem qCP {t:Tm} (h:tmOk t=true) (hr:tmR t):Has (tmT t) [tmK t]:=by
 intro m r hi hl
 unfold tmOk at h
 unfold tmT tmK
 by_cases h1:t.1=1
 ·rw [if_pos h1] at h ⊢
  rw [if_pos h1]
  simp only [Bool.and_eq_true] at h
  exact qq9 (.inr rfl) h.1 hi hl
 ·rw [if_neg h1] at h ⊢
  rw [if_neg h1]
  by_cases h2:t.1=2
  ·rw [if_pos h2] at h ⊢
   rw [if_pos h2]
   simp only [Bool.and_eq_true] at h
   exact qMO h.1 hr hi hl
  ·rw [if_neg h2,if_neg h2]
   refine qir (x:=[95]) (k:=3) (v:=(0,0,[])) ?_ hl
   show wdL (95 :: r)=_
   have e:wdL (95 :: r)=if hdIs innB r then none else some (3,1,0,0,[]):=rfl
   rw [e,hi]
   rfl
theorem qvj {a:At} (h:atOk a=true) (hr:atR a):Has (atT a) (atK a):=by
 intro m r hi hl
 unfold atOk nmB at h
 simp only [Bool.and_eq_true] at h
 unfold atT atK
 rw [qvy h.1]
 have ha:∀ t ∈ a.2,Has (tmT t) [tmK t]:=fun t ht=>qCP (List.all_eq_true.1 h.1 t ht) (hr t ht)
 have hs:=qCB ha (tk 6 [41] :: m) (41 :: r) rfl (qeX 41 (by simp) hl)
 have:=qq9 (.inl rfl) h.2.1 (r:=40 :: (qdy (a.2.map tmT) [44,32]++41 :: r)) rfl (qeX 40 (by simp) hs)
 simpa using this
theorem qMs {o:Int} (h:opOk o=true) {m:List Wv} {r:Txt} (hl:Lx m r):Lx (tk 6 (opW o) :: m) (opT o++r):=by
 simp only [opOk,decide_eq_true_eq] at h
 obtain ⟨n,rfl⟩:∃ n:Nat,o=(n:Int):=⟨o.toNat,by omega⟩
 have h1:1≤n∧n≤6:=by omega
 match n,h1 with
 | 1,_=>exact qhu (qeX 61 (by simp) (qhu hl))
 | 2,_=>exact qhu (qzQ 33 61 (by simp) (qhu hl))
 | 3,_=>exact qhu (qm2 60 (by simp) hl)
 | 4,_=>exact qhu (qzQ 60 61 (by simp) (qhu hl))
 | 5,_=>exact qhu (qm2 62 (by simp) hl)
 | 6,_=>exact qhu (qzQ 62 61 (by simp) (qhu hl))
 | 0,h=>omega
 | n+7,h=>omega
theorem qI9 {o:Int} (h:opOk o=true) (r:Txt):hdIs innB (opT o++r)=false:=by
 simp only [opOk,decide_eq_true_eq] at h
 obtain ⟨n,rfl⟩:∃ n:Nat,o=(n:Int):=⟨o.toNat,by omega⟩
 have h1:1≤n∧n≤6:=by omega
 match n,h1 with
 | 1,_=>rfl
 | 2,_=>rfl
 | 3,_=>rfl
 | 4,_=>rfl
 | 5,_=>rfl
 | 6,_=>rfl
 | 0,h=>omega
 | n+7,h=>omega
theorem qmG {s:Txt} (h:wdL s=some (1,s.length,0,0,[])) {m:List Wv} {r:Txt} (hr:hdIs innB r=false) (hl:Lx m r):Lx (tk 1 s :: m) (s++r):=qir (qsz h (by decide) hr) hl
theorem qMk {l:Li} (h:liOk l=true) (hr:liR l):Has (liT l) (liK l):=by
 intro m r hi hl
 unfold liOk at h
 unfold liT liK
 by_cases h1:l.1=1
 ·rw [if_pos (.inl h1)] at h
  rw [if_pos h1,if_pos h1]
  simp only [Bool.and_eq_true] at h
  exact qvj h.1 hr.1 m r hi hl
 ·by_cases h2:l.1=2
  ·rw [if_pos (.inr h2)] at h
   rw [if_neg h1,if_neg h1,if_pos h2,if_pos h2]
   simp only [Bool.and_eq_true] at h
   have:=qmG (s:=[110,111,116]) (by rfl) (r:=32 :: (atT l.2.1++r)) rfl (qhu (qvj h.1 hr.1 m r hi hl))
   simpa using this
  ·rw [if_neg (by omega)] at h
   by_cases h3:l.1=3
   ·rw [if_pos h3] at h
    rw [if_neg h1,if_neg h1,if_neg h2,if_neg h2,if_pos h3]
    simp only [Bool.and_eq_true] at h
    have hb:=qCP h.1.2 hr.2.2 m r hi hl
    have ho:=qMs h.1.1.2 hb
    have:=qCP h.1.1.1 hr.2.1 _ _ (qI9 h.1.1.2 _) ho
    simpa using this
   ·rw [if_neg h3] at h
    cases h
theorem qtp {α:Type} {ok:α→Bool} {R:α→Prop} {T:α→Txt} {K:α→List Wv} (H:∀ a,ok a=true→R a→Has (T a) (K a)) {l:List α} (h:l.all ok=true) (hr:∀ a ∈ l,R a):Has (qdy (l.map T) [44,32]) (sepK K l) :=
 qCB fun a ha=>H a (List.all_eq_true.1 h a ha) (hr a ha)
theorem qMc {x:Ru} (h:ruOk x=true) (hr:ruR x):Has (ruT x) (ruK x):=by
 intro m r hi hl
 unfold ruOk at h
 simp only [Bool.and_eq_true] at h
 have hd:=qeX 46 (by simp) hl
 unfold ruT ruK
 by_cases hb:x.2=[]
 ·rw [if_pos hb,if_pos hb]
  have:=qvj h.1 hr.1 (tk 6 [46] :: m) (46 :: r) rfl hd
  simpa using this
 ·rw [if_neg hb,if_neg hb,qvy h.2]
  have hs:=qtp (T:=liT) (K:=liK) (R:=liR) (fun a h1 h2=>qMk h1 h2) h.2 hr.2 (tk 6 [46] :: m) (46 :: r) rfl hd
  have:=qvj h.1 hr.1 _ _ rfl (qhu (qzQ 58 45 (by simp) (qhu hs)))
  simpa using this
theorem qHD {t:Int} (h:tyOk t=true):Has (tyT t) (tyK t):=by
 intro m r hi hl
 simp only [tyOk,decide_eq_true_eq] at h
 rcases h with rfl | rfl
 ·exact qmG (s:=[105,110,116]) (by rfl) hi hl
 ·exact qmG (s:=[115,121,109]) (by rfl) hi hl
theorem qLm {d:De} (h:deOk d=true):Has (deT d) (deK d):=by
 intro m r hi hl
 unfold deOk nmB at h
 simp only [Bool.and_eq_true] at h
 unfold deT deK
 rw [qvy h.1]
 have hs:=qtp (T:=tyT) (K:=tyK) (R:=fun _=>True) (fun a h1 _=>qHD h1) h.1 (fun _ _=>trivial) (tk 6 [41] :: tk 6 [46] :: m) (41 :: 46 :: r) rfl (qeX 41 (by simp) (qeX 46 (by simp) hl))
 have hn:=qq9 (.inl rfl) h.2.1 (r:=40 :: (qdy (d.2.2.map tyT) [44,32]++41 :: 46 :: r)) rfl (qeX 40 (by simp) hs)
 cases d.2.1 with
 | true =>
  have:=qmG (s:=[98,97,115,101]) (by rfl) (r:=32 :: (d.1++40 :: (qdy (d.2.2.map tyT) [44,32]++41 :: 46 :: r))) rfl (qhu hn)
  simpa using this
 | false =>
  have:=qmG (s:=[118,105,101,119]) (by rfl) (r:=32 :: (d.1++40 :: (qdy (d.2.2.map tyT) [44,32]++41 :: 46 :: r))) rfl (qhu hn)
  simpa using this
theorem qMe {p:Pa} (h:paOk p=true):Has (paT p) (paK p):=by
 intro m r hi hl
 unfold paOk at h
 simp only [Bool.and_eq_true] at h
 have ht:=qHD h.1 m r hi hl
 have:=qq9 (.inr rfl) h.2 (r:=32 :: (tyT p.2++r)) rfl (qhu ht)
 simpa [paT,paK,tyK] using this
theorem qKR {a:At} (h:atOk a=true) (r:Txt):hdIs qaN (atT a++r)=false:=by
 unfold atOk nmB at h
 simp only [Bool.and_eq_true] at h
 obtain ⟨v,hv⟩:=qCp h.2.1
 unfold atT
 cases ha:a.1 with
 | nil=>rw [ha] at hv; cases hv
 | cons c t =>
  rw [ha] at hv
  simp only [List.cons_append,hdIs]
  cases hd:qaN c with
  | false=>rfl
  | true =>
   simp only [qaN,Bool.and_eq_true,decide_eq_true_eq] at hd
   have h1:qeb c=false:=by simp [qeb]; omega
   have h2:qfD c=false:=by simp [qfD]; omega
   have h3:c.toNat≠95:=by omega
   have h4:qaN c=true:=by simp [qaN,hd]
   simp only [wdL,h1,h2,if_neg h3,h4,Bool.true_or,if_true,Bool.false_eq_true,if_false] at hv
   have:=(qfJ hv).1
   omega
theorem qLB {a:Ac} (h:acOk a=true) (hr:acR a):Has (acT a) (acK a):=by
 intro m r hi hl
 have h1:=qvj h hr m r hi hl
 have h2:=qKR h r
 unfold acT acK
 cases a.1 with
 | true=>exact qeX 43 (by simp) h1
 | false=>exact qGr h1 h2
theorem qL3 {o:En} (h:enOk o=true) (hr:enR o):Has (enT o) (enK o):=by
 intro m r hi hl
 unfold enOk nmB at h
 simp only [Bool.and_eq_true] at h
 have hd:=qeX 46 (by simp) hl
 unfold enT enK
 rw [qvy h.1.1]
 have rest:Lx (((if o.2.2=[] then [] else tk 6 [58] :: sepK acK o.2.2)++[tk 6 [46]])++m) ((if o.2.2=[] then [] else [58,32]++jn acOk acT [44,32] o.2.2)++[46]++r)∧hdIs innB ((if o.2.2=[] then [] else [58,32]++jn acOk acT [44,32] o.2.2)++[46]++r)=false:=by
  by_cases hb:o.2.2=[]
  ·rw [if_pos hb,if_pos hb]
   exact ⟨hd,rfl⟩
  ·rw [if_neg hb,if_neg hb,qvy h.1.2]
   have hs:=qtp (T:=acT) (K:=acK) (R:=acR) (fun a h1 h2=>qLB h1 h2) h.1.2 hr (tk 6 [46] :: m) (46 :: r) rfl hd
   have:=qm2 58 (by simp) hs
   exact ⟨by simpa using this,rfl⟩
 have hs:=qtp (T:=paT) (K:=paK) (R:=fun _=>True) (fun a h1 _=>qMe h1) h.1.1 (fun _ _=>trivial) _ _ rfl (qeX 41 (by simp) rest.1)
 have hn:=qq9 (.inl rfl) h.2.1 (r:=40 :: (qdy (o.2.1.map paT) [44,32]++41 :: ((if o.2.2=[] then [] else [58,32]++jn acOk acT [44,32] o.2.2)++[46]++r))) rfl (qeX 40 (by simp) hs)
 have:=qmG (s:=[111,110]) (by rfl) (r:=32 :: (o.1++40 :: (qdy (o.2.1.map paT) [44,32]++41 :: ((if o.2.2=[] then [] else [58,32]++jn acOk acT [44,32] o.2.2)++[46]++r)))) rfl (qhu hn)
 simpa using this
theorem qlQ {α:Type} {T:α→Txt} {K:α→List Wv}:∀ {l:List α},(∀ a ∈ l,Has (T a) (K a))→∀ {m:List Wv} {r:Txt},Lx m r→Lx (l.flatMap K++m) (l.flatMap (fun a=>T a++[10])++r)
 | [],_,_,_,hl=>hl
 | a :: l,h,m,r,hl=>by
  have ih:=qlQ (l:=l) (fun x hx=>h x (by simp [hx])) hl
  have:=h a (by simp) _ _ rfl (qMZ ih)
  simpa using this
end Go.Pv
set_option linter.unusedSimpArgs false
set_option linter.unusedVariables false
namespace Go.Pv
theorem qdY {α β ρ:Type} {l:List α} (n:Nat) (hn:n≤l.length) {V:Nat→List β→ρ} (ok:α→Bool) (g:α→β) (fin:List β→ρ) (Bad:ρ→Prop)
  (hgood:∀ (i:Nat) (b:List β) (a:α),b.length=i→(hi:i < l.length)→i < n→l[i]=a→ok a=true→V i b=V (i+1) (b++[g a]))
  (hbad:∀ (i:Nat) (b:List β) (a:α),b.length=i→(hi:i < l.length)→i < n→l[i]=a→ok a=false→Bad (V i b))
  (hend:∀ b:List β,b.length=n→V n b=fin b):((l.take n).all ok=true→V 0 []=fin ((l.take n).map g))∧((l.take n).all ok=false→Bad (V 0 [])):=by
 have key:∀ (m i:Nat),i+m=n→(((l.take n).drop i).all ok=true→V i ((l.take i).map g)=fin ((l.take n).map g))∧(((l.take n).drop i).all ok=false→Bad (V i ((l.take i).map g))):=by
  intro m
  induction m with
  | zero =>
   intro i hi
   have e:i=n:=by omega
   subst e
   have hd:(l.take i).drop i=[]:=List.drop_eq_nil_of_le (by rw [List.length_take]; omega)
   rw [hd]
   exact ⟨fun _=>hend _ (by rw [List.length_map,List.length_take]; omega),fun h=>by simp at h⟩
  | succ m ih =>
   intro i hi
   obtain ⟨ih1,ih2⟩:=ih (i+1) (by omega)
   have hlt:i < l.length:=by omega
   have hd:(l.take n).drop i=l[i] :: (l.take n).drop (i+1):=by
    have hlt':i < (l.take n).length:=by rw [List.length_take]; omega
    rw [List.drop_eq_getElem_cons hlt']
    simp
   have hb:((l.take i).map g).length=i:=by rw [List.length_map,List.length_take]; omega
   have ht:(l.take (i+1)).map g=(l.take i).map g++[g l[i]]:=by
    rw [← List.take_append_getElem hlt,List.map_append]
    rfl
   rw [hd,List.all_cons]
   cases ho:ok l[i] with
   | true =>
    rw [Bool.true_and,hgood i _ l[i] hb hlt (by omega) rfl ho,← ht]
    exact ⟨ih1,ih2⟩
   | false =>
    rw [Bool.false_and]
    exact ⟨fun h=>(by cases h),fun _=>hbad i _ l[i] hb hlt (by omega) rfl ho⟩
 have:=key n 0 (by omega)
 simpa using this
theorem qg0 {α β ρ:Type} {l:List α} (n:Nat) (hn:n≤l.length) {V:Nat→List β→ρ} (g:α→β) (fin:List β→ρ)
  (hstep:∀ (i:Nat) (b:List β) (a:α),b.length=i→(hi:i < l.length)→i < n→l[i]=a→V i b=V (i+1) (b++[g a]))
  (hend:∀ b:List β,b.length=n→V n b=fin b):V 0 []=fin ((l.take n).map g) :=
 (qdY n hn (fun _=>true) g fin (fun _=>False) (fun i b a h1 h2 h3 h4 _=>hstep i b a h1 h2 h3 h4) (fun _ _ _ _ _ _ _ h=>by cases h) hend).1 (by simp)
end Go.Pv
set_option maxHeartbeats 4000000
set_option maxRecDepth 200000
set_option linter.unusedSimpArgs false
set_option linter.unusedVariables false
namespace Go.Pv
open Go Go.Proofs
noncomputable def qJY:GamT:=ofL [(80,.pure qsI)]
theorem qJg (gl:Gl) (hg:GlLex gl):qaR Tryz.prog gl (gam qJY):=(qac (qA1 gl hg) qag)
noncomputable def qLN:LpsT:=fun r fr σ=>.fail
noncomputable def qBq (s:List UInt8) (k:Int):Tr PV:=.ite (qiR s) (.ite (iEq (qiB s) 0) (.ite (iEq (xLen (qe6 s)) 1) (.ite (qaw 0) (.ite (qbM [.int .i64 0,.str [],.int .i64 0,.int .i64 0,.str [],.int .i64 0] (qe6 s) (nNat 0)) (.ite (iEq (xInt (qe6 s) (nNat 0) 0) k) (.ite (qaw 0) (.ite (qbM [.int .i64 0,.str [],.int .i64 0,.int .i64 0,.str [],.int .i64 0] (qe6 s) (nNat 0)) (.ret (.bool (sEq (xStr (qe6 s) (nNat 0) 1) s))) .fail) .fail) (.ret (.bool false))) .fail) .fail) (.ret (.bool false))) (.ret (.bool false))) .fail
theorem qM6 (s:List UInt8) (k:Int):(tcall tbT qJY qLN Tryz.f52 [.str s,.int .i64 k]).flat=qBq s k:=by kernel_rfl
noncomputable def qFO (s:List UInt8) (k:Int):Option PV:=(qBq s k).run
noncomputable def qwB (s:List UInt8) (k:Int):Bool:=(qb4 (gVal (qFO s k)))
noncomputable def qmy (s:List UInt8) (k:Int):Bool:=isW (qFO s k) (.bool (qwB s k))
noncomputable def qFX:List PV→Tr PV | [.str s,.int .i64 k]=>.ite (qmy s k) (.ret (.bool (qwB s k))) (.fail) | _=>.fail
theorem qBN (gl:Gl) (hg:GlLex gl):SimP Tryz.prog gl 52 fun args=>(qFX args).run:=by
 refine SimP.of_flat (G:=qJY) (L:=qLN) qav (qJg gl hg ) qah  Tryz.func52 rfl (by rfl) (by kernel_rfl) (qae (by kernel_rfl)) ?_
 intro args x h
 unfold qFX at h
 split at h
 ·exact (congrArg Tr.run (qM6 _ _)).trans (qai h fun h=>by cases h)
 ·cases h
noncomputable def qv7:GamT:=ofL [(52,.pure qFX)]
theorem qCm (gl:Gl) (hg:GlLex gl):qaR Tryz.prog gl (gam qv7):=(qac (qBN gl hg) qag)
noncomputable def qBK:LpsT:=fun r fr σ=>.fail
noncomputable def qtn (s:List UInt8):Tr PV:=.ite (sEq s [98,97,115,101]) (.ret (.bool false)) (.ite (sEq s [118,105,101,119]) (.ret (.bool false)) (.ite (sEq s [111,110]) (.ret (.bool false)) (.ite (sEq s [110,111,116]) (.ret (.bool false)) (.ite (qmy s 1) (.ret (.bool (qwB s 1))) .fail))))
theorem qJB (s:List UInt8):(tcall tbT qv7 qBK Tryz.f18 [.str s]).flat=qtn s:=by kernel_rfl
noncomputable def qsx (s:List UInt8):Option PV:=(qtn s).run
noncomputable def qeY (s:List UInt8):Bool:=(qb4 (gVal (qsx s)))
noncomputable def qdj (s:List UInt8):Bool:=isW (qsx s) (.bool (qeY s))
noncomputable def qmX:List PV→Tr PV | [.str s]=>.ite (qdj s) (.ret (.bool (qeY s))) (.fail) | _=>.fail
theorem qlK (gl:Gl) (hg:GlLex gl):SimP Tryz.prog gl 18 fun args=>(qmX args).run:=by
 refine SimP.of_flat (G:=qv7) (L:=qBK) qav (qCm gl hg ) qah  Tryz.func18 rfl (by rfl) (by kernel_rfl) (qae (by kernel_rfl)) ?_
 intro args x h
 unfold qmX at h
 split at h
 ·exact (congrArg Tr.run (qJB _)).trans (qai h fun h=>by cases h)
 ·cases h
noncomputable def qC8:GamT:=ofL [(52,.pure qFX)]
theorem qGT (gl:Gl) (hg:GlLex gl):qaR Tryz.prog gl (gam qC8):=(qac (qBN gl hg) qag)
noncomputable def qHv:LpsT:=fun r fr σ=>.fail
noncomputable def qvW (s:List UInt8):Tr PV:=.ite (qmy s 2) (.ret (.bool (qwB s 2))) .fail
theorem qK8 (s:List UInt8):(tcall tbT qC8 qHv Tryz.f20 [.str s]).flat=qvW s:=by kernel_rfl
noncomputable def qzM (s:List UInt8):Option PV:=(qvW s).run
noncomputable def qlx (s:List UInt8):Bool:=(qb4 (gVal (qzM s)))
noncomputable def qge (s:List UInt8):Bool:=isW (qzM s) (.bool (qlx s))
noncomputable def qvQ:List PV→Tr PV | [.str s]=>.ite (qge s) (.ret (.bool (qlx s))) (.fail) | _=>.fail
theorem qs3 (gl:Gl) (hg:GlLex gl):SimP Tryz.prog gl 20 fun args=>(qvQ args).run:=by
 refine SimP.of_flat (G:=qC8) (L:=qHv) qav (qGT gl hg ) qah  Tryz.func20 rfl (by rfl) (by kernel_rfl) (qae (by kernel_rfl)) ?_
 intro args x h
 unfold qvQ at h
 split at h
 ·exact (congrArg Tr.run (qK8 _)).trans (qai h fun h=>by cases h)
 ·cases h
noncomputable def qxg:GamT:=ofL [(20,.pure qvQ),(75,.pure qzR)]
theorem qB6 (gl:Gl) (hg:GlLex gl):qaR Tryz.prog gl (gam qxg):=(qac (qs3 gl hg) (qac (qyM hg.toGlOk.toGlPow) qag))
noncomputable def qEG:LpsT:=fun r fr σ=>.fail
noncomputable def qtj (t:Int) (t2:List UInt8) (t3:Int) (t4:Int) (t5:List UInt8):Tr PV:=.ite (iEq t 1) (.ite (qge t2) (.ite (qlx t2) (.ret (.tup [.str t2,.bool (bAnd (iEq t3 0) (bAnd (iEq t4 0) (bAnd (sEq t5 []) true)))])) (.ret (.tup [.str t2,.bool false]))) .fail) (.ite (iEq t 2) (.ite (iEq (qbD t3 t4 t5) 0) (.ret (.tup [.str (qeh t3 t4 t5),.bool (sEq t2 [])])) (.ret (.tup [.str (qeh t3 t4 t5),.bool false]))) (.ret (.tup [.str [95],.bool (bAnd (iEq t 3) (bAnd (sEq t2 []) (bAnd (bAnd (iEq t3 0) (bAnd (iEq t4 0) (bAnd (sEq t5 []) true))) true)))])))
theorem qIG (t:Int) (t2:List UInt8) (t3:Int) (t4:Int) (t5:List UInt8):(tcall tbT qxg qEG Tryz.f44 [.agg [.int .i64 t,.str t2,.int .i64 t3,.int .i64 t4,.str t5]]).flat=qtj t t2 t3 t4 t5:=by kernel_rfl
noncomputable def qpf (t:Int) (t2:List UInt8) (t3:Int) (t4:Int) (t5:List UInt8):Option PV:=(qtj t t2 t3 t4 t5).run
noncomputable def qaS (t:Int) (t2:List UInt8) (t3:Int) (t4:Int) (t5:List UInt8):List UInt8:=(gStr (gAt (gCs (gVal (qpf t t2 t3 t4 t5))) 0))
noncomputable def qev (t:Int) (t2:List UInt8) (t3:Int) (t4:Int) (t5:List UInt8):Bool:=(qb4 (gAt (gCs (gVal (qpf t t2 t3 t4 t5))) 1))
noncomputable def qcA (t:Int) (t2:List UInt8) (t3:Int) (t4:Int) (t5:List UInt8):Bool:=isW (qpf t t2 t3 t4 t5) (.tup [.str (qaS t t2 t3 t4 t5),.bool (qev t t2 t3 t4 t5)])
noncomputable def qqQ:List PV→Tr PV | [.agg [.int .i64 t,.str t2,.int .i64 t3,.int .i64 t4,.str t5]]=>.ite (qcA t t2 t3 t4 t5) (.ret (.tup [.str (qaS t t2 t3 t4 t5),.bool (qev t t2 t3 t4 t5)])) (.fail) | _=>.fail
theorem qqe (gl:Gl) (hg:GlLex gl):SimP Tryz.prog gl 44 fun args=>(qqQ args).run:=by
 refine SimP.of_flat (G:=qxg) (L:=qEG) qav (qB6 gl hg ) qah  Tryz.func44 rfl (by rfl) (by kernel_rfl) (qae (by kernel_rfl)) ?_
 intro args x h
 unfold qqQ at h
 split at h
 ·exact (congrArg Tr.run (qIG _ _ _ _ _)).trans (qai h fun h=>by cases h)
 ·cases h
noncomputable def qCc:GamT:=ofL [(44,.pure qqQ),(88,.pure qjR),(qe3,.hint [(8,0,1,9)])]
theorem qDV (gl:Gl) (hg:GlLex gl):qaR Tryz.prog gl (gam qCc):=(qac (qqe gl hg) (qac (qf7 hg.toGlOk.toGlPow) (qbS (K:=.hint [(8,0,1,9)]) trivial qag)))
noncomputable def qyZ:Code:=qeP Tryz.f78 3
def qyP:LI:=⟨35,[1,2,8,13,14,15],fun e=>match e with | .ret=>[6,7] | .exit 0=>[1,8] | _=>[],true⟩
noncomputable def qwy:LpsT:=fun r fr σ=>.fail
noncomputable def qjZ (vs:List PV) (σ:Store):Option (PExit × List PV × Store):=lval (lstep tbT qCc qwy qyZ qyP) vs σ
noncomputable def qqs (between:List UInt8) (texts:List (List PV)) (r:List (List PV)) (n:Int) (n2:Int) (k:Nat):Tr LR:=.ite (iLt n2 n) (.ite (qaw n2) (.ite (qbM [.int .i64 0,.str [],.int .i64 0,.int .i64 0,.str []] r (nNat n2)) (.ite (qcA (xInt r (nNat n2) 0) (xStr r (nNat n2) 1) (xInt r (nNat n2) 2) (xInt r (nNat n2) 3) (xStr r (nNat n2) 4)) (.ite (bNot (qev (xInt r (nNat n2) 0) (xStr r (nNat n2) 1) (xInt r (nNat n2) 2) (xInt r (nNat n2) 3) (xStr r (nNat n2) 4))) (.ret (.out .ret [.str [],.bool false] (Store.mk [] [(k,1,9)] []))) (.ite (qaP texts [[.str (qaS (xInt r (nNat n2) 0) (xStr r (nNat n2) 1) (xInt r (nNat n2) 2) (xInt r (nNat n2) 3) (xStr r (nNat n2) 4))]] 16) (.ite (qaO [[.str (qaS (xInt r (nNat n2) 0) (xStr r (nNat n2) 1) (xInt r (nNat n2) 2) (xInt r (nNat n2) 3) (xStr r (nNat n2) 4))]] 1) (.ite (qaC texts 1) (.ite (nEq k (nXs texts)) (.ret (.next [.str between,.fn 44 [],.sl (qay 0 (xApp texts [[.str (qaS (xInt r (nNat n2) 0) (xStr r (nNat n2) 1) (xInt r (nNat n2) 2) (xInt r (nNat n2) 3) (xStr r (nNat n2) 4))]])) (.tok 0),.sl (qay 0 r) .non,.int .i64 n,.int .i64 (iAdd .i64 n2 1)] (Store.mk [] [(nXs (xApp texts [[.str (qaS (xInt r (nNat n2) 0) (xStr r (nNat n2) 1) (xInt r (nNat n2) 2) (xInt r (nNat n2) 3) (xStr r (nNat n2) 4))]]),1,9)] []))) .fail) .fail) .fail) .fail)) .fail) .fail) .fail) (.ret (.out (.exit 0) [.str between,.sl texts (.tok 0)] (Store.mk [] [(k,1,9)] [])))
theorem qMr (between:List UInt8) (texts:List (List PV)) (r:List (List PV)) (n:Int) (n2:Int) (k:Nat):lstep tbT qCc qwy qyZ qyP [.str between,.fn 44 [],.sl texts (.tok 0),.sl r .non,.int .i64 n,.int .i64 n2] ⟨[],[(k,1,9)],[]⟩=qqs between texts r n n2 k:=by kernel_rfl
theorem qDu (between:List UInt8) (texts:List (List PV)) (r:List (List PV)) (n:Int) (n2:Int) (k:Nat):qjZ [.str between,.fn 44 [],.sl texts (.tok 0),.sl r .non,.int .i64 n,.int .i64 n2] ⟨[],[(k,1,9)],[]⟩=lnext qjZ (qqs between texts r n n2 k).run:=by unfold qjZ; rw [qbK,qMr]
noncomputable def qjE (between:List UInt8) (texts:List (List PV)) (r:List (List PV)) (n:Int) (n2:Int) (k:Nat):Option (PExit × List PV × Store):=qjZ [.str between,.fn 44 [],.sl texts (.tok 0),.sl r .non,.int .i64 n,.int .i64 n2] ⟨[],[(k,1,9)],[]⟩
noncomputable def qlY (between:List UInt8) (texts:List (List PV)) (r:List (List PV)) (n:Int) (n2:Int) (k:Nat):List UInt8:=(gStr (gOut (qjE between texts r n n2 k) 0))
noncomputable def qk4 (between:List UInt8) (texts:List (List PV)) (r:List (List PV)) (n:Int) (n2:Int) (k:Nat):Bool:=(qb4 (gOut (qjE between texts r n n2 k) 1))
noncomputable def qn2 (between:List UInt8) (texts:List (List PV)) (r:List (List PV)) (n:Int) (n2:Int) (k:Nat):Nat:=(gTok (qjE between texts r n n2 k) 0)
noncomputable def qoF (between:List UInt8) (texts:List (List PV)) (r:List (List PV)) (n:Int) (n2:Int) (k:Nat):Bool:=isW (qjE between texts r n n2 k) (.ret,[.str (qlY between texts r n n2 k),.bool (qk4 between texts r n n2 k)],⟨[],[((qn2 between texts r n n2 k),1,9)],[]⟩)
noncomputable def qcI (between:List UInt8) (texts:List (List PV)) (r:List (List PV)) (n:Int) (n2:Int) (k:Nat):List UInt8:=(gStr (gOut (qjE between texts r n n2 k) 0))
noncomputable def qdc (between:List UInt8) (texts:List (List PV)) (r:List (List PV)) (n:Int) (n2:Int) (k:Nat):List (List PV):=(gRow (gOut (qjE between texts r n n2 k) 1))
noncomputable def qoq (between:List UInt8) (texts:List (List PV)) (r:List (List PV)) (n:Int) (n2:Int) (k:Nat):Nat:=(gTok (qjE between texts r n n2 k) 0)
noncomputable def qnQ (between:List UInt8) (texts:List (List PV)) (r:List (List PV)) (n:Int) (n2:Int) (k:Nat):Bool:=isW (qjE between texts r n n2 k) ((.exit 0),[.str (qcI between texts r n n2 k),.sl (qdc between texts r n n2 k) (.tok 0)],⟨[],[((qoq between texts r n n2 k),1,9)],[]⟩)
noncomputable def qlZ:List PV→Store→Tr (PExit × List PV × Store) | [.str between,.fn 44 [],.sl texts (.tok 0),.sl r .non,.int .i64 n,.int .i64 n2],⟨[],[(k,1,9)],[]⟩=>.ite (qoF between texts r n n2 k) (.ret (.ret,[.str (qlY between texts r n n2 k),.bool (qk4 between texts r n n2 k)],⟨[],[((qn2 between texts r n n2 k),1,9)],[]⟩)) (.ite (qnQ between texts r n n2 k) (.ret ((.exit 0),[.str (qcI between texts r n n2 k),.sl (qdc between texts r n n2 k) (.tok 0)],⟨[],[((qoq between texts r n n2 k),1,9)],[]⟩)) (.fail)) | _,_=>.fail
theorem qIW:∀ vs σ r,(qlZ vs σ).run=some r→qjZ vs σ=some r:=by
 intro vs σ r h
 unfold qlZ at h
 split at h
 ·exact qai h fun h=>qai h fun h=>by cases h
 ·cases h
theorem qDB (gl:Gl) (hg:GlLex gl):∀ fr σ e fr' σ',(orc qyP qlZ fr σ).run=some (e,fr',σ')→LDoes Tryz.prog gl qyZ fr σ e fr' σ':=qcs qav (qDV gl hg ) qah (L:=qwy) (qae (by kernel_rfl)) (by kernel_rfl) qIW
noncomputable def qKB:LpsT:=fun r fr σ=>bif Nat.beq r 3 then orc qyP qlZ fr σ else .fail
noncomputable def qFF (l:List (List PV)) (sep:List UInt8):Tr PV:=.ite (qoF sep [] l (xLen l) 0 0) (.ret (.tup [.str (qlY sep [] l (xLen l) 0 0),.bool (qk4 sep [] l (xLen l) 0 0)])) (.ite (qnQ sep [] l (xLen l) 0 0) (.ite (okR cS (qaa (qdc sep [] l (xLen l) 0 0))) (.ite (qdZ (unR cS (qaa (qdc sep [] l (xLen l) 0 0))) (qcI sep [] l (xLen l) 0 0)) (.ret (.tup [.str (qdy (unR cS (qaa (qdc sep [] l (xLen l) 0 0))) (qcI sep [] l (xLen l) 0 0)),.bool true])) .fail) .fail) .fail)
theorem qM1 (l:List (List PV)) (sep:List UInt8):(tcall tbT qCc qKB Tryz.f78 [.sl l .non,.str sep,.fn 44 []]).flat=qFF l sep:=by kernel_rfl
noncomputable def qDH (l:List (List PV)) (sep:List UInt8):Option PV:=(qFF l sep).run
noncomputable def qrt (l:List (List PV)) (sep:List UInt8):List UInt8:=(gStr (gAt (gCs (gVal (qDH l sep))) 0))
noncomputable def qwk (l:List (List PV)) (sep:List UInt8):Bool:=(qb4 (gAt (gCs (gVal (qDH l sep))) 1))
noncomputable def qmj (l:List (List PV)) (sep:List UInt8):Bool:=isW (qDH l sep) (.tup [.str (qrt l sep),.bool (qwk l sep)])
noncomputable def qId:List PV→Tr PV | [.sl l .non,.str sep,.fn 44 []]=>.ite (qmj l sep) (.ret (.tup [.str (qrt l sep),.bool (qwk l sep)])) (.fail) | _=>.fail
theorem qIK (gl:Gl) (hg:GlLex gl):SimP Tryz.prog gl 78 fun args=>(qId args).run:=by
 refine SimP.of_flat (G:=qCc) (L:=qKB) qav (qDV gl hg ) qah  Tryz.func78 rfl (by rfl) (by kernel_rfl) (qbg (L:=lps qKB) [(3,qyZ)] (by kernel_rfl) (List.forall_mem_cons.2 ⟨fun fr σ e fr' σ' h=>qDB gl hg  fr σ e fr' σ' h,(List.forall_mem_nil _)⟩)) ?_
 intro args x h
 unfold qId at h
 split at h
 ·exact (congrArg Tr.run (qM1 _ _)).trans (qai h fun h=>by cases h)
 ·cases h
noncomputable def qwg:GamT:=ofL [(18,.pure qmX),(44,.pure qqQ),(78,.pure qId)]
theorem qCU (gl:Gl) (hg:GlLex gl):qaR Tryz.prog gl (gam qwg):=(qac (qlK gl hg) (qac (qqe gl hg) (qac (qIK gl hg) qag)))
noncomputable def qFu:LpsT:=fun r fr σ=>.fail
noncomputable def qtS (a:List UInt8) (a2:List (List PV)):Tr PV:=.ite (qmj (qaa a2) [44,32]) (.ite (qa2 a [40]) (.ite (qa2 (sApp a [40]) (qrt (qaa a2) [44,32])) (.ite (qa2 (sApp (sApp a [40]) (qrt (qaa a2) [44,32])) [41]) (.ite (qwk (qaa a2) [44,32]) (.ite (qdj a) (.ret (.tup [.str (sApp (sApp (sApp a [40]) (qrt (qaa a2) [44,32])) [41]),.bool (qeY a)])) .fail) (.ret (.tup [.str (sApp (sApp (sApp a [40]) (qrt (qaa a2) [44,32])) [41]),.bool false]))) .fail) .fail) .fail) .fail
theorem qI6 (a:List UInt8) (a2:List (List PV)):(tcall tbT qwg qFu Tryz.f47 [.agg [.str a,.sl a2 .non]]).flat=qtS a a2:=by kernel_rfl
noncomputable def qp2 (a:List UInt8) (a2:List (List PV)):Option PV:=(qtS a a2).run
noncomputable def qbz (a:List UInt8) (a2:List (List PV)):List UInt8:=(gStr (gAt (gCs (gVal (qp2 a a2))) 0))
noncomputable def qdt (a:List UInt8) (a2:List (List PV)):Bool:=(qb4 (gAt (gCs (gVal (qp2 a a2))) 1))
noncomputable def qcl (a:List UInt8) (a2:List (List PV)):Bool:=isW (qp2 a a2) (.tup [.str (qbz a a2),.bool (qdt a a2)])
noncomputable def qp5:List PV→Tr PV | [.agg [.str a,.sl a2 .non]]=>.ite (qcl a a2) (.ret (.tup [.str (qbz a a2),.bool (qdt a a2)])) (.fail) | _=>.fail
theorem qpD (gl:Gl) (hg:GlLex gl):SimP Tryz.prog gl 47 fun args=>(qp5 args).run:=by
 refine SimP.of_flat (G:=qwg) (L:=qFu) qav (qCU gl hg ) qah  Tryz.func47 rfl (by rfl) (by kernel_rfl) (qae (by kernel_rfl)) ?_
 intro args x h
 unfold qp5 at h
 split at h
 ·exact (congrArg Tr.run (qI6 _ _)).trans (qai h fun h=>by cases h)
 ·cases h
noncomputable def qKJ:GamT:=ofL []
theorem qIx (gl:Gl):qaR Tryz.prog gl (gam qKJ):=qag
noncomputable def qLa:LpsT:=fun r fr σ=>.fail
noncomputable def qCD (o:Int):Tr PV:=.ite (iEq o 1) (.ret (.tup [.str [32,61,32],.bool true])) (.ite (iEq o 2) (.ret (.tup [.str [32,33,61,32],.bool true])) (.ite (iEq o 3) (.ret (.tup [.str [32,60,32],.bool true])) (.ite (iEq o 4) (.ret (.tup [.str [32,60,61,32],.bool true])) (.ite (iEq o 5) (.ret (.tup [.str [32,62,32],.bool true])) (.ite (iEq o 6) (.ret (.tup [.str [32,62,61,32],.bool true])) (.ret (.tup [.str [],.bool false])))))))
theorem qM4 (o:Int):(tcall tbT qKJ qLa Tryz.f79 [.int .i64 o]).flat=qCD o:=by kernel_rfl
noncomputable def qD7 (o:Int):Option PV:=(qCD o).run
noncomputable def qeq (o:Int):List UInt8:=(gStr (gAt (gCs (gVal (qD7 o))) 0))
noncomputable def qui (o:Int):Bool:=(qb4 (gAt (gCs (gVal (qD7 o))) 1))
noncomputable def qih (o:Int):Bool:=isW (qD7 o) (.tup [.str (qeq o),.bool (qui o)])
noncomputable def qJN:List PV→Tr PV | [.int .i64 o]=>.ite (qih o) (.ret (.tup [.str (qeq o),.bool (qui o)])) (.fail) | _=>.fail
theorem qIq (gl:Gl):SimP Tryz.prog gl 79 fun args=>(qJN args).run:=by
 refine SimP.of_flat (G:=qKJ) (L:=qLa) qav (qIx gl ) qah  Tryz.func79 rfl (by rfl) (by kernel_rfl) (qae (by kernel_rfl)) ?_
 intro args x h
 unfold qJN at h
 split at h
 ·exact (congrArg Tr.run (qM4 _)).trans (qai h fun h=>by cases h)
 ·cases h
noncomputable def qno:GamT:=ofL [(44,.pure qqQ),(47,.pure qp5),(79,.pure qJN)]
theorem qvu (gl:Gl) (hg:GlLex gl):qaR Tryz.prog gl (gam qno):=(qac (qqe gl hg) (qac (qpD gl hg) (qac (qIq gl) qag)))
noncomputable def qrV:LpsT:=fun r fr σ=>.fail
noncomputable def qkb (v:Int) (v2:List UInt8) (v3:List (List PV)) (v4:Int) (v5:Int) (v6:List UInt8) (v7:Int) (v8:Int) (v9:List UInt8) (v10:Int) (v11:List UInt8) (v12:Int) (v13:Int) (v14:List UInt8):Tr PV:=.ite (iEq v4 0) (.ite (bAnd (iEq v5 0) (bAnd (sEq v6 []) (bAnd (bAnd (iEq v7 0) (bAnd (iEq v8 0) (bAnd (sEq v9 []) true))) true))) (.ite (iEq v 1) (.ite (qcl v2 (qaa v3)) (.ite (qdt v2 (qaa v3)) (.ret (.tup [.str (qbz v2 (qaa v3)),.bool (bAnd (iEq v10 0) (bAnd (sEq v11 []) (bAnd (bAnd (iEq v12 0) (bAnd (iEq v13 0) (bAnd (sEq v14 []) true))) true)))])) (.ret (.tup [.str (qbz v2 (qaa v3)),.bool false]))) .fail) (.ite (iEq v 2) (.ite (qcl v2 (qaa v3)) (.ite (qa2 [110,111,116,32] (qbz v2 (qaa v3))) (.ite (qdt v2 (qaa v3)) (.ret (.tup [.str (sApp [110,111,116,32] (qbz v2 (qaa v3))),.bool (bAnd (iEq v10 0) (bAnd (sEq v11 []) (bAnd (bAnd (iEq v12 0) (bAnd (iEq v13 0) (bAnd (sEq v14 []) true))) true)))])) (.ret (.tup [.str (sApp [110,111,116,32] (qbz v2 (qaa v3))),.bool false]))) .fail) .fail) (.ite (iEq v 3) (.ite (qcA v5 v6 v7 v8 v9) (.ite (qih v4) (.ite (qcA v10 v11 v12 v13 v14) (.ite (qa2 (qaS v5 v6 v7 v8 v9) (qeq v4)) (.ite (qa2 (sApp (qaS v5 v6 v7 v8 v9) (qeq v4)) (qaS v10 v11 v12 v13 v14)) (.ite (qev v5 v6 v7 v8 v9) (.ite (qui v4) (.ite (qev v10 v11 v12 v13 v14) (.ite (sEq v2 []) (.ret (.tup [.str (sApp (sApp (qaS v5 v6 v7 v8 v9) (qeq v4)) (qaS v10 v11 v12 v13 v14)),.bool (iEq (xLen v3) 0)])) (.ret (.tup [.str (sApp (sApp (qaS v5 v6 v7 v8 v9) (qeq v4)) (qaS v10 v11 v12 v13 v14)),.bool false]))) (.ret (.tup [.str (sApp (sApp (qaS v5 v6 v7 v8 v9) (qeq v4)) (qaS v10 v11 v12 v13 v14)),.bool false]))) (.ret (.tup [.str (sApp (sApp (qaS v5 v6 v7 v8 v9) (qeq v4)) (qaS v10 v11 v12 v13 v14)),.bool false])))
 (.ret (.tup [.str (sApp (sApp (qaS v5 v6 v7 v8 v9) (qeq v4)) (qaS v10 v11 v12 v13 v14)),.bool false]))) .fail) .fail) .fail) .fail) .fail) (.ret (.tup [.str [],.bool false]))))) (.ite (iEq v 1) (.ite (qcl v2 (qaa v3)) (.ite (qdt v2 (qaa v3)) (.ret (.tup [.str (qbz v2 (qaa v3)),.bool false])) (.ret (.tup [.str (qbz v2 (qaa v3)),.bool false]))) .fail) (.ite (iEq v 2) (.ite (qcl v2 (qaa v3)) (.ite (qa2 [110,111,116,32] (qbz v2 (qaa v3))) (.ite (qdt v2 (qaa v3)) (.ret (.tup [.str (sApp [110,111,116,32] (qbz v2 (qaa v3))),.bool false])) (.ret (.tup [.str (sApp [110,111,116,32] (qbz v2 (qaa v3))),.bool false]))) .fail) .fail) (.ite (iEq v 3) (.ite (qcA v5 v6 v7 v8 v9) (.ite (qih v4) (.ite (qcA v10 v11 v12 v13 v14) (.ite (qa2 (qaS v5 v6 v7 v8 v9) (qeq v4)) (.ite (qa2 (sApp (qaS v5 v6 v7 v8 v9) (qeq v4)) (qaS v10 v11 v12 v13 v14)) (.ite (qev v5 v6 v7 v8 v9) (.ite (qui v4) (.ite (qev v10 v11 v12 v13 v14) (.ite (sEq v2 []) (.ret (.tup [.str (sApp (sApp (qaS v5 v6 v7 v8 v9) (qeq v4)) (qaS v10 v11 v12 v13 v14)),.bool (iEq (xLen v3) 0)])) (.ret (.tup [.str (sApp (sApp (qaS v5 v6 v7 v8 v9) (qeq v4)) (qaS v10 v11 v12 v13 v14)),.bool false]))) (.ret (.tup [.str (sApp (sApp (qaS v5 v6 v7 v8 v9) (qeq v4)) (qaS v10 v11 v12 v13 v14)),.bool false]))) (.ret (.tup [.str (sApp (sApp (qaS v5 v6 v7 v8 v9) (qeq v4)) (qaS v10 v11 v12 v13 v14)),.bool false]))) (.ret (.tup [.str (sApp (sApp (qaS v5 v6 v7 v8 v9) (qeq v4)) (qaS v10 v11 v12 v13 v14)),.bool false]))) .fail) .fail) .fail) .fail) .fail) (.ret (.tup [.str [],.bool false])))))) (.ite (iEq v 1) (.ite (qcl v2 (qaa v3)) (.ite (qdt v2 (qaa v3)) (.ret (.tup [.str (qbz v2 (qaa v3)),.bool false])) (.ret (.tup [.str (qbz v2 (qaa v3)),.bool false]))) .fail) (.ite (iEq v 2) (.ite (qcl v2 (qaa v3))
 (.ite (qa2 [110,111,116,32] (qbz v2 (qaa v3))) (.ite (qdt v2 (qaa v3)) (.ret (.tup [.str (sApp [110,111,116,32] (qbz v2 (qaa v3))),.bool false])) (.ret (.tup [.str (sApp [110,111,116,32] (qbz v2 (qaa v3))),.bool false]))) .fail) .fail) (.ite (iEq v 3) (.ite (qcA v5 v6 v7 v8 v9) (.ite (qih v4) (.ite (qcA v10 v11 v12 v13 v14) (.ite (qa2 (qaS v5 v6 v7 v8 v9) (qeq v4)) (.ite (qa2 (sApp (qaS v5 v6 v7 v8 v9) (qeq v4)) (qaS v10 v11 v12 v13 v14)) (.ite (qev v5 v6 v7 v8 v9) (.ite (qui v4) (.ite (qev v10 v11 v12 v13 v14) (.ite (sEq v2 []) (.ret (.tup [.str (sApp (sApp (qaS v5 v6 v7 v8 v9) (qeq v4)) (qaS v10 v11 v12 v13 v14)),.bool (iEq (xLen v3) 0)])) (.ret (.tup [.str (sApp (sApp (qaS v5 v6 v7 v8 v9) (qeq v4)) (qaS v10 v11 v12 v13 v14)),.bool false]))) (.ret (.tup [.str (sApp (sApp (qaS v5 v6 v7 v8 v9) (qeq v4)) (qaS v10 v11 v12 v13 v14)),.bool false]))) (.ret (.tup [.str (sApp (sApp (qaS v5 v6 v7 v8 v9) (qeq v4)) (qaS v10 v11 v12 v13 v14)),.bool false]))) (.ret (.tup [.str (sApp (sApp (qaS v5 v6 v7 v8 v9) (qeq v4)) (qaS v10 v11 v12 v13 v14)),.bool false]))) .fail) .fail) .fail) .fail) .fail) (.ret (.tup [.str [],.bool false])))))
theorem qBa (v:Int) (v2:List UInt8) (v3:List (List PV)) (v4:Int) (v5:Int) (v6:List UInt8) (v7:Int) (v8:Int) (v9:List UInt8) (v10:Int) (v11:List UInt8) (v12:Int) (v13:Int) (v14:List UInt8):(tcall tbT qno qrV Tryz.f49 [.agg [.int .i64 v,.str v2,.sl v3 .non,.int .i64 v4,.int .i64 v5,.str v6,.int .i64 v7,.int .i64 v8,.str v9,.int .i64 v10,.str v11,.int .i64 v12,.int .i64 v13,.str v14]]).flat=qkb v v2 v3 v4 v5 v6 v7 v8 v9 v10 v11 v12 v13 v14:=by kernel_rfl
noncomputable def qgI (v:Int) (v2:List UInt8) (v3:List (List PV)) (v4:Int) (v5:Int) (v6:List UInt8) (v7:Int) (v8:Int) (v9:List UInt8) (v10:Int) (v11:List UInt8) (v12:Int) (v13:Int) (v14:List UInt8):Option PV:=(qkb v v2 v3 v4 v5 v6 v7 v8 v9 v10 v11 v12 v13 v14).run
noncomputable def qcJ (v:Int) (v2:List UInt8) (v3:List (List PV)) (v4:Int) (v5:Int) (v6:List UInt8) (v7:Int) (v8:Int) (v9:List UInt8) (v10:Int) (v11:List UInt8) (v12:Int) (v13:Int) (v14:List UInt8):List UInt8:=(gStr (gAt (gCs (gVal (qgI v v2 v3 v4 v5 v6 v7 v8 v9 v10 v11 v12 v13 v14))) 0))
noncomputable def qeB (v:Int) (v2:List UInt8) (v3:List (List PV)) (v4:Int) (v5:Int) (v6:List UInt8) (v7:Int) (v8:Int) (v9:List UInt8) (v10:Int) (v11:List UInt8) (v12:Int) (v13:Int) (v14:List UInt8):Bool:=(qb4 (gAt (gCs (gVal (qgI v v2 v3 v4 v5 v6 v7 v8 v9 v10 v11 v12 v13 v14))) 1))
noncomputable def qdR (v:Int) (v2:List UInt8) (v3:List (List PV)) (v4:Int) (v5:Int) (v6:List UInt8) (v7:Int) (v8:Int) (v9:List UInt8) (v10:Int) (v11:List UInt8) (v12:Int) (v13:Int) (v14:List UInt8):Bool:=isW (qgI v v2 v3 v4 v5 v6 v7 v8 v9 v10 v11 v12 v13 v14) (.tup [.str (qcJ v v2 v3 v4 v5 v6 v7 v8 v9 v10 v11 v12 v13 v14),.bool (qeB v v2 v3 v4 v5 v6 v7 v8 v9 v10 v11 v12 v13 v14)])
noncomputable def qjw:List PV→Tr PV | [.agg [.int .i64 v,.str v2,.sl v3 .non,.int .i64 v4,.int .i64 v5,.str v6,.int .i64 v7,.int .i64 v8,.str v9,.int .i64 v10,.str v11,.int .i64 v12,.int .i64 v13,.str v14]]=>.ite (qdR v v2 v3 v4 v5 v6 v7 v8 v9 v10 v11 v12 v13 v14) (.ret (.tup [.str (qcJ v v2 v3 v4 v5 v6 v7 v8 v9 v10 v11 v12 v13 v14),.bool (qeB v v2 v3 v4 v5 v6 v7 v8 v9 v10 v11 v12 v13 v14)])) (.fail) | _=>.fail
theorem qnv (gl:Gl) (hg:GlLex gl):SimP Tryz.prog gl 49 fun args=>(qjw args).run:=by
 refine SimP.of_flat (G:=qno) (L:=qrV) qav (qvu gl hg ) qah  Tryz.func49 rfl (by rfl) (by kernel_rfl) (qae (by kernel_rfl)) ?_
 intro args x h
 unfold qjw at h
 split at h
 ·exact (congrArg Tr.run (qBa _ _ _ _ _ _ _ _ _ _ _ _ _ _)).trans (qai h fun h=>by cases h)
 ·cases h
noncomputable def qC3:GamT:=ofL [(49,.pure qjw),(88,.pure qjR),(qe3,.hint [(8,0,1,9)])]
theorem qDL (gl:Gl) (hg:GlLex gl):qaR Tryz.prog gl (gam qC3):=(qac (qnv gl hg) (qac (qf7 hg.toGlOk.toGlPow) (qbS (K:=.hint [(8,0,1,9)]) trivial qag)))
noncomputable def qyG:Code:=qeP Tryz.f81 3
def qzC:LI:=⟨35,[1,2,8,13,14,15],fun e=>match e with | .ret=>[6,7] | .exit 0=>[1,8] | _=>[],true⟩
noncomputable def qw3:LpsT:=fun r fr σ=>.fail
noncomputable def qjT (vs:List PV) (σ:Store):Option (PExit × List PV × Store):=lval (lstep tbT qC3 qw3 qyG qzC) vs σ
noncomputable def qq6 (between:List UInt8) (texts:List (List PV)) (r:List (List PV)) (n:Int) (n2:Int) (k:Nat):Tr LR:=.ite (iLt n2 n) (.ite (qaw n2) (.ite (qbM [.int .i64 0,.str [],.sl [] .full,.int .i64 0,.int .i64 0,.str [],.int .i64 0,.int .i64 0,.str [],.int .i64 0,.str [],.int .i64 0,.int .i64 0,.str []] r (nNat n2)) (.ite (qdR (xInt r (nNat n2) 0) (xStr r (nNat n2) 1) (qaa (xRow r (nNat n2) 2)) (xInt r (nNat n2) 3) (xInt r (nNat n2) 4) (xStr r (nNat n2) 5) (xInt r (nNat n2) 6) (xInt r (nNat n2) 7) (xStr r (nNat n2) 8) (xInt r (nNat n2) 9) (xStr r (nNat n2) 10) (xInt r (nNat n2) 11) (xInt r (nNat n2) 12) (xStr r (nNat n2) 13)) (.ite (bNot (qeB (xInt r (nNat n2) 0) (xStr r (nNat n2) 1) (qaa (xRow r (nNat n2) 2)) (xInt r (nNat n2) 3) (xInt r (nNat n2) 4) (xStr r (nNat n2) 5) (xInt r (nNat n2) 6) (xInt r (nNat n2) 7) (xStr r (nNat n2) 8) (xInt r (nNat n2) 9) (xStr r (nNat n2) 10) (xInt r (nNat n2) 11) (xInt r (nNat n2) 12) (xStr r (nNat n2) 13))) (.ret (.out .ret [.str [],.bool false] (Store.mk [] [(k,1,9)] []))) (.ite (qaP texts [[.str (qcJ (xInt r (nNat n2) 0) (xStr r (nNat n2) 1) (qaa (xRow r (nNat n2) 2)) (xInt r (nNat n2) 3) (xInt r (nNat n2) 4) (xStr r (nNat n2) 5) (xInt r (nNat n2) 6) (xInt r (nNat n2) 7) (xStr r (nNat n2) 8) (xInt r (nNat n2) 9) (xStr r (nNat n2) 10) (xInt r (nNat n2) 11) (xInt r (nNat n2) 12) (xStr r (nNat n2) 13))]] 16) (.ite (qaO [[.str (qcJ (xInt r (nNat n2) 0) (xStr r (nNat n2) 1) (qaa (xRow r (nNat n2) 2)) (xInt r (nNat n2) 3) (xInt r (nNat n2) 4) (xStr r (nNat n2) 5) (xInt r (nNat n2) 6) (xInt r (nNat n2) 7) (xStr r (nNat n2) 8) (xInt r (nNat n2) 9) (xStr r (nNat n2) 10) (xInt r (nNat n2) 11) (xInt r (nNat n2) 12) (xStr r (nNat n2) 13))]] 1) (.ite (qaC texts 1) (.ite (nEq k (nXs texts)) (.ret (.next [.str between,.fn 49 [],.sl (qay 0 (xApp texts [[.str
 (qcJ (xInt r (nNat n2) 0) (xStr r (nNat n2) 1) (qaa (xRow r (nNat n2) 2)) (xInt r (nNat n2) 3) (xInt r (nNat n2) 4) (xStr r (nNat n2) 5) (xInt r (nNat n2) 6) (xInt r (nNat n2) 7) (xStr r (nNat n2) 8) (xInt r (nNat n2) 9) (xStr r (nNat n2) 10) (xInt r (nNat n2) 11) (xInt r (nNat n2) 12) (xStr r (nNat n2) 13))]])) (.tok 0),.sl (qay 0 r) .non,.int .i64 n,.int .i64 (iAdd .i64 n2 1)] (Store.mk [] [(nXs (xApp texts [[.str (qcJ (xInt r (nNat n2) 0) (xStr r (nNat n2) 1) (qaa (xRow r (nNat n2) 2)) (xInt r (nNat n2) 3) (xInt r (nNat n2) 4) (xStr r (nNat n2) 5) (xInt r (nNat n2) 6) (xInt r (nNat n2) 7) (xStr r (nNat n2) 8) (xInt r (nNat n2) 9) (xStr r (nNat n2) 10) (xInt r (nNat n2) 11) (xInt r (nNat n2) 12) (xStr r (nNat n2) 13))]]),1,9)] []))) .fail) .fail) .fail) .fail)) .fail) .fail) .fail) (.ret (.out (.exit 0) [.str between,.sl texts (.tok 0)] (Store.mk [] [(k,1,9)] [])))
theorem qLW (between:List UInt8) (texts:List (List PV)) (r:List (List PV)) (n:Int) (n2:Int) (k:Nat):lstep tbT qC3 qw3 qyG qzC [.str between,.fn 49 [],.sl texts (.tok 0),.sl r .non,.int .i64 n,.int .i64 n2] ⟨[],[(k,1,9)],[]⟩=qq6 between texts r n n2 k:=by kernel_rfl
theorem qBV (between:List UInt8) (texts:List (List PV)) (r:List (List PV)) (n:Int) (n2:Int) (k:Nat):qjT [.str between,.fn 49 [],.sl texts (.tok 0),.sl r .non,.int .i64 n,.int .i64 n2] ⟨[],[(k,1,9)],[]⟩=lnext qjT (qq6 between texts r n n2 k).run:=by unfold qjT; rw [qbK,qLW]
noncomputable def qjK (between:List UInt8) (texts:List (List PV)) (r:List (List PV)) (n:Int) (n2:Int) (k:Nat):Option (PExit × List PV × Store):=qjT [.str between,.fn 49 [],.sl texts (.tok 0),.sl r .non,.int .i64 n,.int .i64 n2] ⟨[],[(k,1,9)],[]⟩
noncomputable def qlE (between:List UInt8) (texts:List (List PV)) (r:List (List PV)) (n:Int) (n2:Int) (k:Nat):List UInt8:=(gStr (gOut (qjK between texts r n n2 k) 0))
noncomputable def qkU (between:List UInt8) (texts:List (List PV)) (r:List (List PV)) (n:Int) (n2:Int) (k:Nat):Bool:=(qb4 (gOut (qjK between texts r n n2 k) 1))
noncomputable def qoO (between:List UInt8) (texts:List (List PV)) (r:List (List PV)) (n:Int) (n2:Int) (k:Nat):Nat:=(gTok (qjK between texts r n n2 k) 0)
noncomputable def qoG (between:List UInt8) (texts:List (List PV)) (r:List (List PV)) (n:Int) (n2:Int) (k:Nat):Bool:=isW (qjK between texts r n n2 k) (.ret,[.str (qlE between texts r n n2 k),.bool (qkU between texts r n n2 k)],⟨[],[((qoO between texts r n n2 k),1,9)],[]⟩)
noncomputable def qcM (between:List UInt8) (texts:List (List PV)) (r:List (List PV)) (n:Int) (n2:Int) (k:Nat):List UInt8:=(gStr (gOut (qjK between texts r n n2 k) 0))
noncomputable def qc6 (between:List UInt8) (texts:List (List PV)) (r:List (List PV)) (n:Int) (n2:Int) (k:Nat):List (List PV):=(gRow (gOut (qjK between texts r n n2 k) 1))
noncomputable def qn3 (between:List UInt8) (texts:List (List PV)) (r:List (List PV)) (n:Int) (n2:Int) (k:Nat):Nat:=(gTok (qjK between texts r n n2 k) 0)
noncomputable def qn7 (between:List UInt8) (texts:List (List PV)) (r:List (List PV)) (n:Int) (n2:Int) (k:Nat):Bool:=isW (qjK between texts r n n2 k) ((.exit 0),[.str (qcM between texts r n n2 k),.sl (qc6 between texts r n n2 k) (.tok 0)],⟨[],[((qn3 between texts r n n2 k),1,9)],[]⟩)
noncomputable def qlb:List PV→Store→Tr (PExit × List PV × Store) | [.str between,.fn 49 [],.sl texts (.tok 0),.sl r .non,.int .i64 n,.int .i64 n2],⟨[],[(k,1,9)],[]⟩=>.ite (qoG between texts r n n2 k) (.ret (.ret,[.str (qlE between texts r n n2 k),.bool (qkU between texts r n n2 k)],⟨[],[((qoO between texts r n n2 k),1,9)],[]⟩)) (.ite (qn7 between texts r n n2 k) (.ret ((.exit 0),[.str (qcM between texts r n n2 k),.sl (qc6 between texts r n n2 k) (.tok 0)],⟨[],[((qn3 between texts r n n2 k),1,9)],[]⟩)) (.fail)) | _,_=>.fail
theorem qJL:∀ vs σ r,(qlb vs σ).run=some r→qjT vs σ=some r:=by
 intro vs σ r h
 unfold qlb at h
 split at h
 ·exact qai h fun h=>qai h fun h=>by cases h
 ·cases h
theorem qFB (gl:Gl) (hg:GlLex gl):∀ fr σ e fr' σ',(orc qzC qlb fr σ).run=some (e,fr',σ')→LDoes Tryz.prog gl qyG fr σ e fr' σ':=qcs qav (qDL gl hg ) qah (L:=qw3) (qae (by kernel_rfl)) (by kernel_rfl) qJL
noncomputable def qJ7:LpsT:=fun r fr σ=>bif Nat.beq r 3 then orc qzC qlb fr σ else .fail
noncomputable def qBC (l:List (List PV)) (sep:List UInt8):Tr PV:=.ite (qoG sep [] l (xLen l) 0 0) (.ret (.tup [.str (qlE sep [] l (xLen l) 0 0),.bool (qkU sep [] l (xLen l) 0 0)])) (.ite (qn7 sep [] l (xLen l) 0 0) (.ite (okR cS (qaa (qc6 sep [] l (xLen l) 0 0))) (.ite (qdZ (unR cS (qaa (qc6 sep [] l (xLen l) 0 0))) (qcM sep [] l (xLen l) 0 0)) (.ret (.tup [.str (qdy (unR cS (qaa (qc6 sep [] l (xLen l) 0 0))) (qcM sep [] l (xLen l) 0 0)),.bool true])) .fail) .fail) .fail)
theorem qM5 (l:List (List PV)) (sep:List UInt8):(tcall tbT qC3 qJ7 Tryz.f81 [.sl l .non,.str sep,.fn 49 []]).flat=qBC l sep:=by kernel_rfl
noncomputable def qCX (l:List (List PV)) (sep:List UInt8):Option PV:=(qBC l sep).run
noncomputable def qj9 (l:List (List PV)) (sep:List UInt8):List UInt8:=(gStr (gAt (gCs (gVal (qCX l sep))) 0))
noncomputable def quM (l:List (List PV)) (sep:List UInt8):Bool:=(qb4 (gAt (gCs (gVal (qCX l sep))) 1))
noncomputable def qne (l:List (List PV)) (sep:List UInt8):Bool:=isW (qCX l sep) (.tup [.str (qj9 l sep),.bool (quM l sep)])
noncomputable def qJW:List PV→Tr PV | [.sl l .non,.str sep,.fn 49 []]=>.ite (qne l sep) (.ret (.tup [.str (qj9 l sep),.bool (quM l sep)])) (.fail) | _=>.fail
theorem qJZ (gl:Gl) (hg:GlLex gl):SimP Tryz.prog gl 81 fun args=>(qJW args).run:=by
 refine SimP.of_flat (G:=qC3) (L:=qJ7) qav (qDL gl hg ) qah  Tryz.func81 rfl (by rfl) (by kernel_rfl) (qbg (L:=lps qJ7) [(3,qyG)] (by kernel_rfl) (List.forall_mem_cons.2 ⟨fun fr σ e fr' σ' h=>qFB gl hg  fr σ e fr' σ' h,(List.forall_mem_nil _)⟩)) ?_
 intro args x h
 unfold qJW at h
 split at h
 ·exact (congrArg Tr.run (qM5 _ _)).trans (qai h fun h=>by cases h)
 ·cases h
noncomputable def qx3:GamT:=ofL [(47,.pure qp5),(49,.pure qjw),(81,.pure qJW)]
theorem qCs (gl:Gl) (hg:GlLex gl):qaR Tryz.prog gl (gam qx3):=(qac (qpD gl hg) (qac (qnv gl hg) (qac (qJZ gl hg) qag)))
noncomputable def qDm:LpsT:=fun r fr σ=>.fail
noncomputable def qsP (r_:List UInt8) (r_2:List (List PV)) (r_3:List (List PV)):Tr PV:=.ite (qcl r_ (qaa r_2)) (.ite (qne (qaa r_3) [44,32]) (.ite (iLt 0 (xLen r_3)) (.ite (qa2 [32,58,45,32] (qj9 (qaa r_3) [44,32])) (.ite (qa2 (qbz r_ (qaa r_2)) (sApp [32,58,45,32] (qj9 (qaa r_3) [44,32]))) (.ite (qa2 (sApp (qbz r_ (qaa r_2)) (sApp [32,58,45,32] (qj9 (qaa r_3) [44,32]))) [46]) (.ite (qdt r_ (qaa r_2)) (.ret (.tup [.str (sApp (sApp (qbz r_ (qaa r_2)) (sApp [32,58,45,32] (qj9 (qaa r_3) [44,32]))) [46]),.bool (quM (qaa r_3) [44,32])])) (.ret (.tup [.str (sApp (sApp (qbz r_ (qaa r_2)) (sApp [32,58,45,32] (qj9 (qaa r_3) [44,32]))) [46]),.bool false]))) .fail) .fail) .fail) (.ite (qa2 (qbz r_ (qaa r_2)) (qj9 (qaa r_3) [44,32])) (.ite (qa2 (sApp (qbz r_ (qaa r_2)) (qj9 (qaa r_3) [44,32])) [46]) (.ite (qdt r_ (qaa r_2)) (.ret (.tup [.str (sApp (sApp (qbz r_ (qaa r_2)) (qj9 (qaa r_3) [44,32])) [46]),.bool (quM (qaa r_3) [44,32])])) (.ret (.tup [.str (sApp (sApp (qbz r_ (qaa r_2)) (qj9 (qaa r_3) [44,32])) [46]),.bool false]))) .fail) .fail)) .fail) .fail
theorem qJR (r_:List UInt8) (r_2:List (List PV)) (r_3:List (List PV)):(tcall tbT qx3 qDm Tryz.f54 [.agg [.str r_,.sl r_2 .non,.sl r_3 .non]]).flat=qsP r_ r_2 r_3:=by kernel_rfl
noncomputable def qqc (r_:List UInt8) (r_2:List (List PV)) (r_3:List (List PV)):Option PV:=(qsP r_ r_2 r_3).run
noncomputable def qf2 (r_:List UInt8) (r_2:List (List PV)) (r_3:List (List PV)):List UInt8:=(gStr (gAt (gCs (gVal (qqc r_ r_2 r_3))) 0))
noncomputable def qgu (r_:List UInt8) (r_2:List (List PV)) (r_3:List (List PV)):Bool:=(qb4 (gAt (gCs (gVal (qqc r_ r_2 r_3))) 1))
noncomputable def qfT (r_:List UInt8) (r_2:List (List PV)) (r_3:List (List PV)):Bool:=isW (qqc r_ r_2 r_3) (.tup [.str (qf2 r_ r_2 r_3),.bool (qgu r_ r_2 r_3)])
noncomputable def qqv:List PV→Tr PV | [.agg [.str r_,.sl r_2 .non,.sl r_3 .non]]=>.ite (qfT r_ r_2 r_3) (.ret (.tup [.str (qf2 r_ r_2 r_3),.bool (qgu r_ r_2 r_3)])) (.fail) | _=>.fail
theorem qqt (gl:Gl) (hg:GlLex gl):SimP Tryz.prog gl 54 fun args=>(qqv args).run:=by
 refine SimP.of_flat (G:=qx3) (L:=qDm) qav (qCs gl hg ) qah  Tryz.func54 rfl (by rfl) (by kernel_rfl) (qae (by kernel_rfl)) ?_
 intro args x h
 unfold qqv at h
 split at h
 ·exact (congrArg Tr.run (qJR _ _ _)).trans (qai h fun h=>by cases h)
 ·cases h
noncomputable def qwY:GamT:=ofL []
theorem qFp (gl:Gl):qaR Tryz.prog gl (gam qwY):=qag
noncomputable def qEQ:LpsT:=fun r fr σ=>.fail
noncomputable def quw (t:Int):Tr PV:=.ite (iEq t 1) (.ret (.tup [.str [105,110,116],.bool true])) (.ite (iEq t 2) (.ret (.tup [.str [115,121,109],.bool true])) (.ret (.tup [.str [],.bool false])))
theorem qJ4 (t:Int):(tcall tbT qwY qEQ Tryz.f83 [.int .i64 t]).flat=quw t:=by kernel_rfl
noncomputable def qqO (t:Int):Option PV:=(quw t).run
noncomputable def qet (t:Int):List UInt8:=(gStr (gAt (gCs (gVal (qqO t))) 0))
noncomputable def qio (t:Int):Bool:=(qb4 (gAt (gCs (gVal (qqO t))) 1))
noncomputable def qfy (t:Int):Bool:=isW (qqO t) (.tup [.str (qet t),.bool (qio t)])
noncomputable def qqH:List PV→Tr PV | [.int .i64 t]=>.ite (qfy t) (.ret (.tup [.str (qet t),.bool (qio t)])) (.fail) | _=>.fail
theorem qp7 (gl:Gl):SimP Tryz.prog gl 83 fun args=>(qqH args).run:=by
 refine SimP.of_flat (G:=qwY) (L:=qEQ) qav (qFp gl ) qah  Tryz.func83 rfl (by rfl) (by kernel_rfl) (qae (by kernel_rfl)) ?_
 intro args x h
 unfold qqH at h
 split at h
 ·exact (congrArg Tr.run (qJ4 _)).trans (qai h fun h=>by cases h)
 ·cases h
noncomputable def qFs:GamT:=ofL [(83,.pure qqH),(88,.pure qjR),(qe3,.hint [(8,0,1,9)])]
theorem qC7 (gl:Gl) (hg:GlPow gl):qaR Tryz.prog gl (gam qFs):=(qac (qp7 gl) (qac (qf7 hg) (qbS (K:=.hint [(8,0,1,9)]) trivial qag)))
noncomputable def qyk:Code:=qeP Tryz.f82 3
def qyW:LI:=⟨35,[1,2,8,13,14,15],fun e=>match e with | .ret=>[6,7] | .exit 0=>[1,8] | _=>[],true⟩
noncomputable def qwI:LpsT:=fun r fr σ=>.fail
noncomputable def qjU (vs:List PV) (σ:Store):Option (PExit × List PV × Store):=lval (lstep tbT qFs qwI qyk qyW) vs σ
noncomputable def qqq (between:List UInt8) (texts:List (List PV)) (r:List (List PV)) (n:Int) (n2:Int) (k:Nat):Tr LR:=.ite (iLt n2 n) (.ite (qaw n2) (.ite (qbM [.int .i64 0] r (nNat n2)) (.ite (qfy (xInt r (nNat n2) 0)) (.ite (bNot (qio (xInt r (nNat n2) 0))) (.ret (.out .ret [.str [],.bool false] (Store.mk [] [(k,1,9)] []))) (.ite (qaP texts [[.str (qet (xInt r (nNat n2) 0))]] 16) (.ite (qaO [[.str (qet (xInt r (nNat n2) 0))]] 1) (.ite (qaC texts 1) (.ite (nEq k (nXs texts)) (.ret (.next [.str between,.fn 83 [],.sl (xApp texts [[.str (qet (xInt r (nNat n2) 0))]]) (.tok 0),.sl r .non,.int .i64 n,.int .i64 (iAdd .i64 n2 1)] (Store.mk [] [(nXs (xApp texts [[.str (qet (xInt r (nNat n2) 0))]]),1,9)] []))) .fail) .fail) .fail) .fail)) .fail) .fail) .fail) (.ret (.out (.exit 0) [.str between,.sl texts (.tok 0)] (Store.mk [] [(k,1,9)] [])))
theorem qLr (between:List UInt8) (texts:List (List PV)) (r:List (List PV)) (n:Int) (n2:Int) (k:Nat):lstep tbT qFs qwI qyk qyW [.str between,.fn 83 [],.sl texts (.tok 0),.sl r .non,.int .i64 n,.int .i64 n2] ⟨[],[(k,1,9)],[]⟩=qqq between texts r n n2 k:=by kernel_rfl
theorem qBo (between:List UInt8) (texts:List (List PV)) (r:List (List PV)) (n:Int) (n2:Int) (k:Nat):qjU [.str between,.fn 83 [],.sl texts (.tok 0),.sl r .non,.int .i64 n,.int .i64 n2] ⟨[],[(k,1,9)],[]⟩=lnext qjU (qqq between texts r n n2 k).run:=by unfold qjU; rw [qbK,qLr]
noncomputable def qjD (between:List UInt8) (texts:List (List PV)) (r:List (List PV)) (n:Int) (n2:Int) (k:Nat):Option (PExit × List PV × Store):=qjU [.str between,.fn 83 [],.sl texts (.tok 0),.sl r .non,.int .i64 n,.int .i64 n2] ⟨[],[(k,1,9)],[]⟩
noncomputable def qkW (between:List UInt8) (texts:List (List PV)) (r:List (List PV)) (n:Int) (n2:Int) (k:Nat):List UInt8:=(gStr (gOut (qjD between texts r n n2 k) 0))
noncomputable def qlF (between:List UInt8) (texts:List (List PV)) (r:List (List PV)) (n:Int) (n2:Int) (k:Nat):Bool:=(qb4 (gOut (qjD between texts r n n2 k) 1))
noncomputable def qoL (between:List UInt8) (texts:List (List PV)) (r:List (List PV)) (n:Int) (n2:Int) (k:Nat):Nat:=(gTok (qjD between texts r n n2 k) 0)
noncomputable def qnP (between:List UInt8) (texts:List (List PV)) (r:List (List PV)) (n:Int) (n2:Int) (k:Nat):Bool:=isW (qjD between texts r n n2 k) (.ret,[.str (qkW between texts r n n2 k),.bool (qlF between texts r n n2 k)],⟨[],[((qoL between texts r n n2 k),1,9)],[]⟩)
noncomputable def qcC (between:List UInt8) (texts:List (List PV)) (r:List (List PV)) (n:Int) (n2:Int) (k:Nat):List UInt8:=(gStr (gOut (qjD between texts r n n2 k) 0))
noncomputable def qc2 (between:List UInt8) (texts:List (List PV)) (r:List (List PV)) (n:Int) (n2:Int) (k:Nat):List (List PV):=(gRow (gOut (qjD between texts r n n2 k) 1))
noncomputable def qoT (between:List UInt8) (texts:List (List PV)) (r:List (List PV)) (n:Int) (n2:Int) (k:Nat):Nat:=(gTok (qjD between texts r n n2 k) 0)
noncomputable def qnJ (between:List UInt8) (texts:List (List PV)) (r:List (List PV)) (n:Int) (n2:Int) (k:Nat):Bool:=isW (qjD between texts r n n2 k) ((.exit 0),[.str (qcC between texts r n n2 k),.sl (qc2 between texts r n n2 k) (.tok 0)],⟨[],[((qoT between texts r n n2 k),1,9)],[]⟩)
noncomputable def qlB:List PV→Store→Tr (PExit × List PV × Store) | [.str between,.fn 83 [],.sl texts (.tok 0),.sl r .non,.int .i64 n,.int .i64 n2],⟨[],[(k,1,9)],[]⟩=>.ite (qnP between texts r n n2 k) (.ret (.ret,[.str (qkW between texts r n n2 k),.bool (qlF between texts r n n2 k)],⟨[],[((qoL between texts r n n2 k),1,9)],[]⟩)) (.ite (qnJ between texts r n n2 k) (.ret ((.exit 0),[.str (qcC between texts r n n2 k),.sl (qc2 between texts r n n2 k) (.tok 0)],⟨[],[((qoT between texts r n n2 k),1,9)],[]⟩)) (.fail)) | _,_=>.fail
theorem qIj:∀ vs σ r,(qlB vs σ).run=some r→qjU vs σ=some r:=by
 intro vs σ r h
 unfold qlB at h
 split at h
 ·exact qai h fun h=>qai h fun h=>by cases h
 ·cases h
theorem qBn (gl:Gl) (hg:GlPow gl):∀ fr σ e fr' σ',(orc qyW qlB fr σ).run=some (e,fr',σ')→LDoes Tryz.prog gl qyk fr σ e fr' σ':=qcs qav (qC7 gl hg ) qah (L:=qwI) (qae (by kernel_rfl)) (by kernel_rfl) qIj
noncomputable def qI4:LpsT:=fun r fr σ=>bif Nat.beq r 3 then orc qyW qlB fr σ else .fail
noncomputable def qEp (l:List (List PV)) (sep:List UInt8):Tr PV:=.ite (qnP sep [] l (xLen l) 0 0) (.ret (.tup [.str (qkW sep [] l (xLen l) 0 0),.bool (qlF sep [] l (xLen l) 0 0)])) (.ite (qnJ sep [] l (xLen l) 0 0) (.ite (okR cS (qaa (qc2 sep [] l (xLen l) 0 0))) (.ite (qdZ (unR cS (qaa (qc2 sep [] l (xLen l) 0 0))) (qcC sep [] l (xLen l) 0 0)) (.ret (.tup [.str (qdy (unR cS (qaa (qc2 sep [] l (xLen l) 0 0))) (qcC sep [] l (xLen l) 0 0)),.bool true])) .fail) .fail) .fail)
theorem qNc (l:List (List PV)) (sep:List UInt8):(tcall tbT qFs qI4 Tryz.f82 [.sl l .non,.str sep,.fn 83 []]).flat=qEp l sep:=by kernel_rfl
noncomputable def qCy (l:List (List PV)) (sep:List UInt8):Option PV:=(qEp l sep).run
noncomputable def qlN (l:List (List PV)) (sep:List UInt8):List UInt8:=(gStr (gAt (gCs (gVal (qCy l sep))) 0))
noncomputable def qvr (l:List (List PV)) (sep:List UInt8):Bool:=(qb4 (gAt (gCs (gVal (qCy l sep))) 1))
noncomputable def qj3 (l:List (List PV)) (sep:List UInt8):Bool:=isW (qCy l sep) (.tup [.str (qlN l sep),.bool (qvr l sep)])
noncomputable def qJC:List PV→Tr PV | [.sl l .non,.str sep,.fn 83 []]=>.ite (qj3 l sep) (.ret (.tup [.str (qlN l sep),.bool (qvr l sep)])) (.fail) | _=>.fail
theorem qJ1 (gl:Gl) (hg:GlPow gl):SimP Tryz.prog gl 82 fun args=>(qJC args).run:=by
 refine SimP.of_flat (G:=qFs) (L:=qI4) qav (qC7 gl hg ) qah  Tryz.func82 rfl (by rfl) (by kernel_rfl) (qbg (L:=lps qI4) [(3,qyk)] (by kernel_rfl) (List.forall_mem_cons.2 ⟨fun fr σ e fr' σ' h=>qBn gl hg  fr σ e fr' σ' h,(List.forall_mem_nil _)⟩)) ?_
 intro args x h
 unfold qJC at h
 split at h
 ·exact (congrArg Tr.run (qNc _ _)).trans (qai h fun h=>by cases h)
 ·cases h
noncomputable def qwv:GamT:=ofL [(18,.pure qmX),(82,.pure qJC),(83,.pure qqH)]
theorem qFy (gl:Gl) (hg:GlLex gl):qaR Tryz.prog gl (gam qwv):=(qac (qlK gl hg) (qac (qJ1 gl hg.toGlOk.toGlPow) (qac (qp7 gl) qag)))
noncomputable def qCS:LpsT:=fun r fr σ=>.fail
noncomputable def qsD (d:List UInt8) (d2:Bool) (d3:List (List PV)):Tr PV:=.ite d2 (.ite (qj3 (qaa d3) [44,32]) (.ite (qa2 [98,97,115,101,32] d) (.ite (qa2 (sApp [98,97,115,101,32] d) [40]) (.ite (qa2 (sApp (sApp [98,97,115,101,32] d) [40]) (qlN (qaa d3) [44,32])) (.ite (qa2 (sApp (sApp (sApp [98,97,115,101,32] d) [40]) (qlN (qaa d3) [44,32])) [41,46]) (.ite (qvr (qaa d3) [44,32]) (.ite (qdj d) (.ret (.tup [.str (sApp (sApp (sApp (sApp [98,97,115,101,32] d) [40]) (qlN (qaa d3) [44,32])) [41,46]),.bool (qeY d)])) .fail) (.ret (.tup [.str (sApp (sApp (sApp (sApp [98,97,115,101,32] d) [40]) (qlN (qaa d3) [44,32])) [41,46]),.bool false]))) .fail) .fail) .fail) .fail) .fail) (.ite (qj3 (qaa d3) [44,32]) (.ite (qa2 [118,105,101,119,32] d) (.ite (qa2 (sApp [118,105,101,119,32] d) [40]) (.ite (qa2 (sApp (sApp [118,105,101,119,32] d) [40]) (qlN (qaa d3) [44,32])) (.ite (qa2 (sApp (sApp (sApp [118,105,101,119,32] d) [40]) (qlN (qaa d3) [44,32])) [41,46]) (.ite (qvr (qaa d3) [44,32]) (.ite (qdj d) (.ret (.tup [.str (sApp (sApp (sApp (sApp [118,105,101,119,32] d) [40]) (qlN (qaa d3) [44,32])) [41,46]),.bool (qeY d)])) .fail) (.ret (.tup [.str (sApp (sApp (sApp (sApp [118,105,101,119,32] d) [40]) (qlN (qaa d3) [44,32])) [41,46]),.bool false]))) .fail) .fail) .fail) .fail) .fail)
theorem qJl (d:List UInt8) (d2:Bool) (d3:List (List PV)):(tcall tbT qwv qCS Tryz.f55 [.agg [.str d,.bool d2,.sl d3 .non]]).flat=qsD d d2 d3:=by kernel_rfl
noncomputable def qrd (d:List UInt8) (d2:Bool) (d3:List (List PV)):Option PV:=(qsD d d2 d3).run
noncomputable def qis (d:List UInt8) (d2:Bool) (d3:List (List PV)):List UInt8:=(gStr (gAt (gCs (gVal (qrd d d2 d3))) 0))
noncomputable def qkJ (d:List UInt8) (d2:Bool) (d3:List (List PV)):Bool:=(qb4 (gAt (gCs (gVal (qrd d d2 d3))) 1))
noncomputable def qgG (d:List UInt8) (d2:Bool) (d3:List (List PV)):Bool:=isW (qrd d d2 d3) (.tup [.str (qis d d2 d3),.bool (qkJ d d2 d3)])
noncomputable def qtt:List PV→Tr PV | [.agg [.str d,.bool d2,.sl d3 .non]]=>.ite (qgG d d2 d3) (.ret (.tup [.str (qis d d2 d3),.bool (qkJ d d2 d3)])) (.fail) | _=>.fail
theorem quA (gl:Gl) (hg:GlLex gl):SimP Tryz.prog gl 55 fun args=>(qtt args).run:=by
 refine SimP.of_flat (G:=qwv) (L:=qCS) qav (qFy gl hg ) qah  Tryz.func55 rfl (by rfl) (by kernel_rfl) (qae (by kernel_rfl)) ?_
 intro args x h
 unfold qtt at h
 split at h
 ·exact (congrArg Tr.run (qJl _ _ _)).trans (qai h fun h=>by cases h)
 ·cases h
noncomputable def qCT:GamT:=ofL [(20,.pure qvQ),(83,.pure qqH)]
theorem qGn (gl:Gl) (hg:GlLex gl):qaR Tryz.prog gl (gam qCT):=(qac (qs3 gl hg) (qac (qp7 gl) qag))
noncomputable def qHA:LpsT:=fun r fr σ=>.fail
noncomputable def qxe (p_:List UInt8) (p_2:Int):Tr PV:=.ite (qfy p_2) (.ite (qa2 p_ [32]) (.ite (qa2 (sApp p_ [32]) (qet p_2)) (.ite (qio p_2) (.ite (qge p_) (.ret (.tup [.str (sApp (sApp p_ [32]) (qet p_2)),.bool (qlx p_)])) .fail) (.ret (.tup [.str (sApp (sApp p_ [32]) (qet p_2)),.bool false]))) .fail) .fail) .fail
theorem qLF (p_:List UInt8) (p_2:Int):(tcall tbT qCT qHA Tryz.f85 [.agg [.str p_,.int .i64 p_2]]).flat=qxe p_ p_2:=by kernel_rfl
noncomputable def qvA (p_:List UInt8) (p_2:Int):Option PV:=(qxe p_ p_2).run
noncomputable def qjJ (p_:List UInt8) (p_2:Int):List UInt8:=(gStr (gAt (gCs (gVal (qvA p_ p_2))) 0))
noncomputable def qpN (p_:List UInt8) (p_2:Int):Bool:=(qb4 (gAt (gCs (gVal (qvA p_ p_2))) 1))
noncomputable def qiY (p_:List UInt8) (p_2:Int):Bool:=isW (qvA p_ p_2) (.tup [.str (qjJ p_ p_2),.bool (qpN p_ p_2)])
noncomputable def qzp:List PV→Tr PV | [.agg [.str p_,.int .i64 p_2]]=>.ite (qiY p_ p_2) (.ret (.tup [.str (qjJ p_ p_2),.bool (qpN p_ p_2)])) (.fail) | _=>.fail
theorem qy5 (gl:Gl) (hg:GlLex gl):SimP Tryz.prog gl 85 fun args=>(qzp args).run:=by
 refine SimP.of_flat (G:=qCT) (L:=qHA) qav (qGn gl hg ) qah  Tryz.func85 rfl (by rfl) (by kernel_rfl) (qae (by kernel_rfl)) ?_
 intro args x h
 unfold qzp at h
 split at h
 ·exact (congrArg Tr.run (qLF _ _)).trans (qai h fun h=>by cases h)
 ·cases h
noncomputable def qBy:GamT:=ofL [(47,.pure qp5)]
theorem qGs (gl:Gl) (hg:GlLex gl):qaR Tryz.prog gl (gam qBy):=(qac (qpD gl hg) qag)
noncomputable def qHU:LpsT:=fun r fr σ=>.fail
noncomputable def qv9 (a:Bool) (a2:List UInt8) (a3:List (List PV)):Tr PV:=.ite (qcl a2 (qaa a3)) (.ite a (.ite (qa2 [43] (qbz a2 (qaa a3))) (.ret (.tup [.str (sApp [43] (qbz a2 (qaa a3))),.bool (qdt a2 (qaa a3))])) .fail) (.ite (qa2 [45] (qbz a2 (qaa a3))) (.ret (.tup [.str (sApp [45] (qbz a2 (qaa a3))),.bool (qdt a2 (qaa a3))])) .fail)) .fail
theorem qLE (a:Bool) (a2:List UInt8) (a3:List (List PV)):(tcall tbT qBy qHU Tryz.f87 [.agg [.bool a,.str a2,.sl a3 .non]]).flat=qv9 a a2 a3:=by kernel_rfl
noncomputable def qvi (a:Bool) (a2:List UInt8) (a3:List (List PV)):Option PV:=(qv9 a a2 a3).run
noncomputable def qjP (a:Bool) (a2:List UInt8) (a3:List (List PV)):List UInt8:=(gStr (gAt (gCs (gVal (qvi a a2 a3))) 0))
noncomputable def qqu (a:Bool) (a2:List UInt8) (a3:List (List PV)):Bool:=(qb4 (gAt (gCs (gVal (qvi a a2 a3))) 1))
noncomputable def qjy (a:Bool) (a2:List UInt8) (a3:List (List PV)):Bool:=isW (qvi a a2 a3) (.tup [.str (qjP a a2 a3),.bool (qqu a a2 a3)])
noncomputable def qzK:List PV→Tr PV | [.agg [.bool a,.str a2,.sl a3 .non]]=>.ite (qjy a a2 a3) (.ret (.tup [.str (qjP a a2 a3),.bool (qqu a a2 a3)])) (.fail) | _=>.fail
theorem qy9 (gl:Gl) (hg:GlLex gl):SimP Tryz.prog gl 87 fun args=>(qzK args).run:=by
 refine SimP.of_flat (G:=qBy) (L:=qHU) qav (qGs gl hg ) qah  Tryz.func87 rfl (by rfl) (by kernel_rfl) (qae (by kernel_rfl)) ?_
 intro args x h
 unfold qzK at h
 split at h
 ·exact (congrArg Tr.run (qLE _ _ _)).trans (qai h fun h=>by cases h)
 ·cases h
noncomputable def qCO:GamT:=ofL [(85,.pure qzp),(88,.pure qjR),(qe3,.hint [(8,0,1,9)])]
theorem qFx (gl:Gl) (hg:GlLex gl):qaR Tryz.prog gl (gam qCO):=(qac (qy5 gl hg) (qac (qf7 hg.toGlOk.toGlPow) (qbS (K:=.hint [(8,0,1,9)]) trivial qag)))
noncomputable def qyU:Code:=qeP Tryz.f84 3
def qyp:LI:=⟨35,[1,2,8,13,14,15],fun e=>match e with | .ret=>[6,7] | .exit 0=>[1,8] | _=>[],true⟩
noncomputable def qxB:LpsT:=fun r fr σ=>.fail
noncomputable def qjH (vs:List PV) (σ:Store):Option (PExit × List PV × Store):=lval (lstep tbT qCO qxB qyU qyp) vs σ
noncomputable def qrb (between:List UInt8) (texts:List (List PV)) (r:List (List PV)) (n:Int) (n2:Int) (k:Nat):Tr LR:=.ite (iLt n2 n) (.ite (qaw n2) (.ite (qbM [.str [],.int .i64 0] r (nNat n2)) (.ite (qiY (xStr r (nNat n2) 0) (xInt r (nNat n2) 1)) (.ite (bNot (qpN (xStr r (nNat n2) 0) (xInt r (nNat n2) 1))) (.ret (.out .ret [.str [],.bool false] (Store.mk [] [(k,1,9)] []))) (.ite (qaP texts [[.str (qjJ (xStr r (nNat n2) 0) (xInt r (nNat n2) 1))]] 16) (.ite (qaO [[.str (qjJ (xStr r (nNat n2) 0) (xInt r (nNat n2) 1))]] 1) (.ite (qaC texts 1) (.ite (nEq k (nXs texts)) (.ret (.next [.str between,.fn 85 [],.sl (qay 0 (xApp texts [[.str (qjJ (xStr r (nNat n2) 0) (xInt r (nNat n2) 1))]])) (.tok 0),.sl (qay 0 r) .non,.int .i64 n,.int .i64 (iAdd .i64 n2 1)] (Store.mk [] [(nXs (xApp texts [[.str (qjJ (xStr r (nNat n2) 0) (xInt r (nNat n2) 1))]]),1,9)] []))) .fail) .fail) .fail) .fail)) .fail) .fail) .fail) (.ret (.out (.exit 0) [.str between,.sl texts (.tok 0)] (Store.mk [] [(k,1,9)] [])))
theorem qL4 (between:List UInt8) (texts:List (List PV)) (r:List (List PV)) (n:Int) (n2:Int) (k:Nat):lstep tbT qCO qxB qyU qyp [.str between,.fn 85 [],.sl texts (.tok 0),.sl r .non,.int .i64 n,.int .i64 n2] ⟨[],[(k,1,9)],[]⟩=qrb between texts r n n2 k:=by kernel_rfl
theorem qD1 (between:List UInt8) (texts:List (List PV)) (r:List (List PV)) (n:Int) (n2:Int) (k:Nat):qjH [.str between,.fn 85 [],.sl texts (.tok 0),.sl r .non,.int .i64 n,.int .i64 n2] ⟨[],[(k,1,9)],[]⟩=lnext qjH (qrb between texts r n n2 k).run:=by unfold qjH; rw [qbK,qL4]
noncomputable def qjB (between:List UInt8) (texts:List (List PV)) (r:List (List PV)) (n:Int) (n2:Int) (k:Nat):Option (PExit × List PV × Store):=qjH [.str between,.fn 85 [],.sl texts (.tok 0),.sl r .non,.int .i64 n,.int .i64 n2] ⟨[],[(k,1,9)],[]⟩
noncomputable def ql8 (between:List UInt8) (texts:List (List PV)) (r:List (List PV)) (n:Int) (n2:Int) (k:Nat):List UInt8:=(gStr (gOut (qjB between texts r n n2 k) 0))
noncomputable def qlf (between:List UInt8) (texts:List (List PV)) (r:List (List PV)) (n:Int) (n2:Int) (k:Nat):Bool:=(qb4 (gOut (qjB between texts r n n2 k) 1))
noncomputable def qnV (between:List UInt8) (texts:List (List PV)) (r:List (List PV)) (n:Int) (n2:Int) (k:Nat):Nat:=(gTok (qjB between texts r n n2 k) 0)
noncomputable def qok (between:List UInt8) (texts:List (List PV)) (r:List (List PV)) (n:Int) (n2:Int) (k:Nat):Bool:=isW (qjB between texts r n n2 k) (.ret,[.str (ql8 between texts r n n2 k),.bool (qlf between texts r n n2 k)],⟨[],[((qnV between texts r n n2 k),1,9)],[]⟩)
noncomputable def qcL (between:List UInt8) (texts:List (List PV)) (r:List (List PV)) (n:Int) (n2:Int) (k:Nat):List UInt8:=(gStr (gOut (qjB between texts r n n2 k) 0))
noncomputable def qdh (between:List UInt8) (texts:List (List PV)) (r:List (List PV)) (n:Int) (n2:Int) (k:Nat):List (List PV):=(gRow (gOut (qjB between texts r n n2 k) 1))
noncomputable def qon (between:List UInt8) (texts:List (List PV)) (r:List (List PV)) (n:Int) (n2:Int) (k:Nat):Nat:=(gTok (qjB between texts r n n2 k) 0)
noncomputable def qop (between:List UInt8) (texts:List (List PV)) (r:List (List PV)) (n:Int) (n2:Int) (k:Nat):Bool:=isW (qjB between texts r n n2 k) ((.exit 0),[.str (qcL between texts r n n2 k),.sl (qdh between texts r n n2 k) (.tok 0)],⟨[],[((qon between texts r n n2 k),1,9)],[]⟩)
noncomputable def qk1:List PV→Store→Tr (PExit × List PV × Store) | [.str between,.fn 85 [],.sl texts (.tok 0),.sl r .non,.int .i64 n,.int .i64 n2],⟨[],[(k,1,9)],[]⟩=>.ite (qok between texts r n n2 k) (.ret (.ret,[.str (ql8 between texts r n n2 k),.bool (qlf between texts r n n2 k)],⟨[],[((qnV between texts r n n2 k),1,9)],[]⟩)) (.ite (qop between texts r n n2 k) (.ret ((.exit 0),[.str (qcL between texts r n n2 k),.sl (qdh between texts r n n2 k) (.tok 0)],⟨[],[((qon between texts r n n2 k),1,9)],[]⟩)) (.fail)) | _,_=>.fail
theorem qKk:∀ vs σ r,(qk1 vs σ).run=some r→qjH vs σ=some r:=by
 intro vs σ r h
 unfold qk1 at h
 split at h
 ·exact qai h fun h=>qai h fun h=>by cases h
 ·cases h
theorem qBX (gl:Gl) (hg:GlLex gl):∀ fr σ e fr' σ',(orc qyp qk1 fr σ).run=some (e,fr',σ')→LDoes Tryz.prog gl qyU fr σ e fr' σ':=qcs qav (qFx gl hg ) qah (L:=qxB) (qae (by kernel_rfl)) (by kernel_rfl) qKk
noncomputable def qJF:LpsT:=fun r fr σ=>bif Nat.beq r 3 then orc qyp qk1 fr σ else .fail
noncomputable def qEC (l:List (List PV)) (sep:List UInt8):Tr PV:=.ite (qok sep [] l (xLen l) 0 0) (.ret (.tup [.str (ql8 sep [] l (xLen l) 0 0),.bool (qlf sep [] l (xLen l) 0 0)])) (.ite (qop sep [] l (xLen l) 0 0) (.ite (okR cS (qaa (qdh sep [] l (xLen l) 0 0))) (.ite (qdZ (unR cS (qaa (qdh sep [] l (xLen l) 0 0))) (qcL sep [] l (xLen l) 0 0)) (.ret (.tup [.str (qdy (unR cS (qaa (qdh sep [] l (xLen l) 0 0))) (qcL sep [] l (xLen l) 0 0)),.bool true])) .fail) .fail) .fail)
theorem qMT (l:List (List PV)) (sep:List UInt8):(tcall tbT qCO qJF Tryz.f84 [.sl l .non,.str sep,.fn 85 []]).flat=qEC l sep:=by kernel_rfl
noncomputable def qCa (l:List (List PV)) (sep:List UInt8):Option PV:=(qEC l sep).run
noncomputable def qgD (l:List (List PV)) (sep:List UInt8):List UInt8:=(gStr (gAt (gCs (gVal (qCa l sep))) 0))
noncomputable def quB (l:List (List PV)) (sep:List UInt8):Bool:=(qb4 (gAt (gCs (gVal (qCa l sep))) 1))
noncomputable def qmJ (l:List (List PV)) (sep:List UInt8):Bool:=isW (qCa l sep) (.tup [.str (qgD l sep),.bool (quB l sep)])
noncomputable def qKL:List PV→Tr PV | [.sl l .non,.str sep,.fn 85 []]=>.ite (qmJ l sep) (.ret (.tup [.str (qgD l sep),.bool (quB l sep)])) (.fail) | _=>.fail
theorem qJh (gl:Gl) (hg:GlLex gl):SimP Tryz.prog gl 84 fun args=>(qKL args).run:=by
 refine SimP.of_flat (G:=qCO) (L:=qJF) qav (qFx gl hg ) qah  Tryz.func84 rfl (by rfl) (by kernel_rfl) (qbg (L:=lps qJF) [(3,qyU)] (by kernel_rfl) (List.forall_mem_cons.2 ⟨fun fr σ e fr' σ' h=>qBX gl hg  fr σ e fr' σ' h,(List.forall_mem_nil _)⟩)) ?_
 intro args x h
 unfold qKL at h
 split at h
 ·exact (congrArg Tr.run (qMT _ _)).trans (qai h fun h=>by cases h)
 ·cases h
noncomputable def qCE:GamT:=ofL [(87,.pure qzK),(88,.pure qjR),(qe3,.hint [(8,0,1,9)])]
theorem qCn (gl:Gl) (hg:GlLex gl):qaR Tryz.prog gl (gam qCE):=(qac (qy9 gl hg) (qac (qf7 hg.toGlOk.toGlPow) (qbS (K:=.hint [(8,0,1,9)]) trivial qag)))
noncomputable def qyz:Code:=qeP Tryz.f86 3
def qy1:LI:=⟨35,[1,2,8,13,14,15],fun e=>match e with | .ret=>[6,7] | .exit 0=>[1,8] | _=>[],true⟩
noncomputable def qv2:LpsT:=fun r fr σ=>.fail
noncomputable def qjS (vs:List PV) (σ:Store):Option (PExit × List PV × Store):=lval (lstep tbT qCE qv2 qyz qy1) vs σ
noncomputable def qoW (between:List UInt8) (texts:List (List PV)) (r:List (List PV)) (n:Int) (n2:Int) (k:Nat):Tr LR:=.ite (iLt n2 n) (.ite (qaw n2) (.ite (qbM [.bool false,.str [],.sl [] .full] r (nNat n2)) (.ite (qjy (qcm r (nNat n2) 0) (xStr r (nNat n2) 1) (qaa (xRow r (nNat n2) 2))) (.ite (bNot (qqu (qcm r (nNat n2) 0) (xStr r (nNat n2) 1) (qaa (xRow r (nNat n2) 2)))) (.ret (.out .ret [.str [],.bool false] (Store.mk [] [(k,1,9)] []))) (.ite (qaP texts [[.str (qjP (qcm r (nNat n2) 0) (xStr r (nNat n2) 1) (qaa (xRow r (nNat n2) 2)))]] 16) (.ite (qaO [[.str (qjP (qcm r (nNat n2) 0) (xStr r (nNat n2) 1) (qaa (xRow r (nNat n2) 2)))]] 1) (.ite (qaC texts 1) (.ite (nEq k (nXs texts)) (.ret (.next [.str between,.fn 87 [],.sl (qay 0 (xApp texts [[.str (qjP (qcm r (nNat n2) 0) (xStr r (nNat n2) 1) (qaa (xRow r (nNat n2) 2)))]])) (.tok 0),.sl (qay 0 r) .non,.int .i64 n,.int .i64 (iAdd .i64 n2 1)] (Store.mk [] [(nXs (xApp texts [[.str (qjP (qcm r (nNat n2) 0) (xStr r (nNat n2) 1) (qaa (xRow r (nNat n2) 2)))]]),1,9)] []))) .fail) .fail) .fail) .fail)) .fail) .fail) .fail) (.ret (.out (.exit 0) [.str between,.sl texts (.tok 0)] (Store.mk [] [(k,1,9)] [])))
theorem qLV (between:List UInt8) (texts:List (List PV)) (r:List (List PV)) (n:Int) (n2:Int) (k:Nat):lstep tbT qCE qv2 qyz qy1 [.str between,.fn 87 [],.sl texts (.tok 0),.sl r .non,.int .i64 n,.int .i64 n2] ⟨[],[(k,1,9)],[]⟩=qoW between texts r n n2 k:=by kernel_rfl
theorem qFi (between:List UInt8) (texts:List (List PV)) (r:List (List PV)) (n:Int) (n2:Int) (k:Nat):qjS [.str between,.fn 87 [],.sl texts (.tok 0),.sl r .non,.int .i64 n,.int .i64 n2] ⟨[],[(k,1,9)],[]⟩=lnext qjS (qoW between texts r n n2 k).run:=by unfold qjS; rw [qbK,qLV]
noncomputable def qjV (between:List UInt8) (texts:List (List PV)) (r:List (List PV)) (n:Int) (n2:Int) (k:Nat):Option (PExit × List PV × Store):=qjS [.str between,.fn 87 [],.sl texts (.tok 0),.sl r .non,.int .i64 n,.int .i64 n2] ⟨[],[(k,1,9)],[]⟩
noncomputable def qlj (between:List UInt8) (texts:List (List PV)) (r:List (List PV)) (n:Int) (n2:Int) (k:Nat):List UInt8:=(gStr (gOut (qjV between texts r n n2 k) 0))
noncomputable def ql2 (between:List UInt8) (texts:List (List PV)) (r:List (List PV)) (n:Int) (n2:Int) (k:Nat):Bool:=(qb4 (gOut (qjV between texts r n n2 k) 1))
noncomputable def qom (between:List UInt8) (texts:List (List PV)) (r:List (List PV)) (n:Int) (n2:Int) (k:Nat):Nat:=(gTok (qjV between texts r n n2 k) 0)
noncomputable def qoS (between:List UInt8) (texts:List (List PV)) (r:List (List PV)) (n:Int) (n2:Int) (k:Nat):Bool:=isW (qjV between texts r n n2 k) (.ret,[.str (qlj between texts r n n2 k),.bool (ql2 between texts r n n2 k)],⟨[],[((qom between texts r n n2 k),1,9)],[]⟩)
noncomputable def qcG (between:List UInt8) (texts:List (List PV)) (r:List (List PV)) (n:Int) (n2:Int) (k:Nat):List UInt8:=(gStr (gOut (qjV between texts r n n2 k) 0))
noncomputable def qda (between:List UInt8) (texts:List (List PV)) (r:List (List PV)) (n:Int) (n2:Int) (k:Nat):List (List PV):=(gRow (gOut (qjV between texts r n n2 k) 1))
noncomputable def qoB (between:List UInt8) (texts:List (List PV)) (r:List (List PV)) (n:Int) (n2:Int) (k:Nat):Nat:=(gTok (qjV between texts r n n2 k) 0)
noncomputable def qoD (between:List UInt8) (texts:List (List PV)) (r:List (List PV)) (n:Int) (n2:Int) (k:Nat):Bool:=isW (qjV between texts r n n2 k) ((.exit 0),[.str (qcG between texts r n n2 k),.sl (qda between texts r n n2 k) (.tok 0)],⟨[],[((qoB between texts r n n2 k),1,9)],[]⟩)
noncomputable def qli:List PV→Store→Tr (PExit × List PV × Store) | [.str between,.fn 87 [],.sl texts (.tok 0),.sl r .non,.int .i64 n,.int .i64 n2],⟨[],[(k,1,9)],[]⟩=>.ite (qoS between texts r n n2 k) (.ret (.ret,[.str (qlj between texts r n n2 k),.bool (ql2 between texts r n n2 k)],⟨[],[((qom between texts r n n2 k),1,9)],[]⟩)) (.ite (qoD between texts r n n2 k) (.ret ((.exit 0),[.str (qcG between texts r n n2 k),.sl (qda between texts r n n2 k) (.tok 0)],⟨[],[((qoB between texts r n n2 k),1,9)],[]⟩)) (.fail)) | _,_=>.fail
theorem qKe:∀ vs σ r,(qli vs σ).run=some r→qjS vs σ=some r:=by
 intro vs σ r h
 unfold qli at h
 split at h
 ·exact qai h fun h=>qai h fun h=>by cases h
 ·cases h
theorem qDT (gl:Gl) (hg:GlLex gl):∀ fr σ e fr' σ',(orc qy1 qli fr σ).run=some (e,fr',σ')→LDoes Tryz.prog gl qyz fr σ e fr' σ':=qcs qav (qCn gl hg ) qah (L:=qv2) (qae (by kernel_rfl)) (by kernel_rfl) qKe
noncomputable def qIg:LpsT:=fun r fr σ=>bif Nat.beq r 3 then orc qy1 qli fr σ else .fail
noncomputable def qDK (l:List (List PV)) (sep:List UInt8):Tr PV:=.ite (qoS sep [] l (xLen l) 0 0) (.ret (.tup [.str (qlj sep [] l (xLen l) 0 0),.bool (ql2 sep [] l (xLen l) 0 0)])) (.ite (qoD sep [] l (xLen l) 0 0) (.ite (okR cS (qaa (qda sep [] l (xLen l) 0 0))) (.ite (qdZ (unR cS (qaa (qda sep [] l (xLen l) 0 0))) (qcG sep [] l (xLen l) 0 0)) (.ret (.tup [.str (qdy (unR cS (qaa (qda sep [] l (xLen l) 0 0))) (qcG sep [] l (xLen l) 0 0)),.bool true])) .fail) .fail) .fail)
theorem qM2 (l:List (List PV)) (sep:List UInt8):(tcall tbT qCE qIg Tryz.f86 [.sl l .non,.str sep,.fn 87 []]).flat=qDK l sep:=by kernel_rfl
noncomputable def qEt (l:List (List PV)) (sep:List UInt8):Option PV:=(qDK l sep).run
noncomputable def qiG (l:List (List PV)) (sep:List UInt8):List UInt8:=(gStr (gAt (gCs (gVal (qEt l sep))) 0))
noncomputable def qva (l:List (List PV)) (sep:List UInt8):Bool:=(qb4 (gAt (gCs (gVal (qEt l sep))) 1))
noncomputable def qnb (l:List (List PV)) (sep:List UInt8):Bool:=isW (qEt l sep) (.tup [.str (qiG l sep),.bool (qva l sep)])
noncomputable def qJf:List PV→Tr PV | [.sl l .non,.str sep,.fn 87 []]=>.ite (qnb l sep) (.ret (.tup [.str (qiG l sep),.bool (qva l sep)])) (.fail) | _=>.fail
theorem qKy (gl:Gl) (hg:GlLex gl):SimP Tryz.prog gl 86 fun args=>(qJf args).run:=by
 refine SimP.of_flat (G:=qCE) (L:=qIg) qav (qCn gl hg ) qah  Tryz.func86 rfl (by rfl) (by kernel_rfl) (qbg (L:=lps qIg) [(3,qyz)] (by kernel_rfl) (List.forall_mem_cons.2 ⟨fun fr σ e fr' σ' h=>qDT gl hg  fr σ e fr' σ' h,(List.forall_mem_nil _)⟩)) ?_
 intro args x h
 unfold qJf at h
 split at h
 ·exact (congrArg Tr.run (qM2 _ _)).trans (qai h fun h=>by cases h)
 ·cases h
noncomputable def qJA:GamT:=ofL [(18,.pure qmX),(84,.pure qKL),(85,.pure qzp),(86,.pure qJf),(87,.pure qzK)]
theorem qJk (gl:Gl) (hg:GlLex gl):qaR Tryz.prog gl (gam qJA):=(qac (qlK gl hg) (qac (qJh gl hg) (qac (qy5 gl hg) (qac (qKy gl hg) (qac (qy9 gl hg) qag)))))
noncomputable def qK4:LpsT:=fun r fr σ=>.fail
noncomputable def qBZ (o:List UInt8) (o2:List (List PV)) (o3:List (List PV)):Tr PV:=.ite (qmJ (qaa o2) [44,32]) (.ite (qnb (qaa o3) [44,32]) (.ite (iLt 0 (xLen o3)) (.ite (qa2 [58,32] (qiG (qaa o3) [44,32])) (.ite (qa2 [111,110,32] o) (.ite (qa2 (sApp [111,110,32] o) [40]) (.ite (qa2 (sApp (sApp [111,110,32] o) [40]) (qgD (qaa o2) [44,32])) (.ite (qa2 (sApp (sApp (sApp [111,110,32] o) [40]) (qgD (qaa o2) [44,32])) [41]) (.ite (qa2 (sApp (sApp (sApp (sApp [111,110,32] o) [40]) (qgD (qaa o2) [44,32])) [41]) (sApp [58,32] (qiG (qaa o3) [44,32]))) (.ite (qa2 (sApp (sApp (sApp (sApp (sApp [111,110,32] o) [40]) (qgD (qaa o2) [44,32])) [41]) (sApp [58,32] (qiG (qaa o3) [44,32]))) [46]) (.ite (quB (qaa o2) [44,32]) (.ite (qva (qaa o3) [44,32]) (.ite (qdj o) (.ret (.tup [.str (sApp (sApp (sApp (sApp (sApp (sApp [111,110,32] o) [40]) (qgD (qaa o2) [44,32])) [41]) (sApp [58,32] (qiG (qaa o3) [44,32]))) [46]),.bool (qeY o)])) .fail) (.ret (.tup [.str (sApp (sApp (sApp (sApp (sApp (sApp [111,110,32] o) [40]) (qgD (qaa o2) [44,32])) [41]) (sApp [58,32] (qiG (qaa o3) [44,32]))) [46]),.bool false]))) (.ret (.tup [.str (sApp (sApp (sApp (sApp (sApp (sApp [111,110,32] o) [40]) (qgD (qaa o2) [44,32])) [41]) (sApp [58,32] (qiG (qaa o3) [44,32]))) [46]),.bool false]))) .fail) .fail) .fail) .fail) .fail) .fail) .fail) (.ite (qa2 [111,110,32] o) (.ite (qa2 (sApp [111,110,32] o) [40]) (.ite (qa2 (sApp (sApp [111,110,32] o) [40]) (qgD (qaa o2) [44,32])) (.ite (qa2 (sApp (sApp (sApp [111,110,32] o) [40]) (qgD (qaa o2) [44,32])) [41]) (.ite (qa2 (sApp (sApp (sApp (sApp [111,110,32] o) [40]) (qgD (qaa o2) [44,32])) [41]) (qiG (qaa o3) [44,32])) (.ite (qa2 (sApp (sApp (sApp (sApp (sApp [111,110,32] o) [40]) (qgD (qaa o2) [44,32])) [41]) (qiG (qaa o3) [44,32])) [46]) (.ite (quB (qaa o2) [44,32])
 (.ite (qva (qaa o3) [44,32]) (.ite (qdj o) (.ret (.tup [.str (sApp (sApp (sApp (sApp (sApp (sApp [111,110,32] o) [40]) (qgD (qaa o2) [44,32])) [41]) (qiG (qaa o3) [44,32])) [46]),.bool (qeY o)])) .fail) (.ret (.tup [.str (sApp (sApp (sApp (sApp (sApp (sApp [111,110,32] o) [40]) (qgD (qaa o2) [44,32])) [41]) (qiG (qaa o3) [44,32])) [46]),.bool false]))) (.ret (.tup [.str (sApp (sApp (sApp (sApp (sApp (sApp [111,110,32] o) [40]) (qgD (qaa o2) [44,32])) [41]) (qiG (qaa o3) [44,32])) [46]),.bool false]))) .fail) .fail) .fail) .fail) .fail) .fail)) .fail) .fail
theorem qMY (o:List UInt8) (o2:List (List PV)) (o3:List (List PV)):(tcall tbT qJA qK4 Tryz.f57 [.agg [.str o,.sl o2 .non,.sl o3 .non]]).flat=qBZ o o2 o3:=by kernel_rfl
noncomputable def qC2 (o:List UInt8) (o2:List (List PV)) (o3:List (List PV)):Option PV:=(qBZ o o2 o3).run
noncomputable def qoY (o:List UInt8) (o2:List (List PV)) (o3:List (List PV)):List UInt8:=(gStr (gAt (gCs (gVal (qC2 o o2 o3))) 0))
noncomputable def qrl (o:List UInt8) (o2:List (List PV)) (o3:List (List PV)):Bool:=(qb4 (gAt (gCs (gVal (qC2 o o2 o3))) 1))
noncomputable def qj0 (o:List UInt8) (o2:List (List PV)) (o3:List (List PV)):Bool:=isW (qC2 o o2 o3) (.tup [.str (qoY o o2 o3),.bool (qrl o o2 o3)])
noncomputable def qFe:List PV→Tr PV | [.agg [.str o,.sl o2 .non,.sl o3 .non]]=>.ite (qj0 o o2 o3) (.ret (.tup [.str (qoY o o2 o3),.bool (qrl o o2 o3)])) (.fail) | _=>.fail
theorem qyb (gl:Gl) (hg:GlLex gl):SimP Tryz.prog gl 57 fun args=>(qFe args).run:=by
 refine SimP.of_flat (G:=qJA) (L:=qK4) qav (qJk gl hg ) qah  Tryz.func57 rfl (by rfl) (by kernel_rfl) (qae (by kernel_rfl)) ?_
 intro args x h
 unfold qFe at h
 split at h
 ·exact (congrArg Tr.run (qMY _ _ _)).trans (qai h fun h=>by cases h)
 ·cases h
noncomputable def qxv:GamT:=ofL []
theorem qB5 (gl:Gl):qaR Tryz.prog gl (gam qxv):=qag
noncomputable def qDg:LpsT:=fun r fr σ=>.fail
noncomputable def qsE (s:List UInt8) (ok:Bool):Tr PV:=.ite (bNot ok) (.ret (.tup [.str [],.int .i64 140])) (.ret (.tup [.str s,.int .i64 0]))
theorem qJp (s:List UInt8) (ok:Bool):(tcall tbT qxv qDg Tryz.f43 [.str s,.bool ok]).flat=qsE s ok:=by kernel_rfl
noncomputable def qqz (s:List UInt8) (ok:Bool):Option PV:=(qsE s ok).run
noncomputable def qiC (s:List UInt8) (ok:Bool):List UInt8:=(gStr (gAt (gCs (gVal (qqz s ok))) 0))
noncomputable def qit (s:List UInt8) (ok:Bool):Int:=(gInt (gAt (gCs (gVal (qqz s ok))) 1))
noncomputable def qfI (s:List UInt8) (ok:Bool):Bool:=isW (qqz s ok) (.tup [.str (qiC s ok),.int .i64 (qit s ok)])
noncomputable def qtL:List PV→Tr PV | [.str s,.bool ok]=>.ite (qfI s ok) (.ret (.tup [.str (qiC s ok),.int .i64 (qit s ok)])) (.fail) | _=>.fail
theorem qve (gl:Gl):SimP Tryz.prog gl 43 fun args=>(qtL args).run:=by
 refine SimP.of_flat (G:=qxv) (L:=qDg) qav (qB5 gl ) qah  Tryz.func43 rfl (by rfl) (by kernel_rfl) (qae (by kernel_rfl)) ?_
 intro args x h
 unfold qtL at h
 split at h
 ·exact (congrArg Tr.run (qJp _ _)).trans (qai h fun h=>by cases h)
 ·cases h
noncomputable def qxm:GamT:=ofL [(43,.pure qtL),(54,.pure qqv)]
theorem qEb (gl:Gl) (hg:GlLex gl):qaR Tryz.prog gl (gam qxm):=(qac (qve gl) (qac (qqt gl hg) qag))
noncomputable def qCk:LpsT:=fun r fr σ=>.fail
noncomputable def qtF (r_:List UInt8) (r_2:List (List PV)) (r_3:List (List PV)):Tr PV:=.ite (qfT r_ (qaa r_2) (qaa r_3)) (.ite (qfI (qf2 r_ (qaa r_2) (qaa r_3)) (qgu r_ (qaa r_2) (qaa r_3))) (.ret (.tup [.str (qiC (qf2 r_ (qaa r_2) (qaa r_3)) (qgu r_ (qaa r_2) (qaa r_3))),.int .i64 (qit (qf2 r_ (qaa r_2) (qaa r_3)) (qgu r_ (qaa r_2) (qaa r_3)))])) .fail) .fail
theorem qIh (r_:List UInt8) (r_2:List (List PV)) (r_3:List (List PV)):(tcall tbT qxm qCk Tryz.f26 [.agg [.str r_,.sl r_2 .non,.sl r_3 .non]]).flat=qtF r_ r_2 r_3:=by kernel_rfl
noncomputable def qpv (r_:List UInt8) (r_2:List (List PV)) (r_3:List (List PV)):Option PV:=(qtF r_ r_2 r_3).run
noncomputable def qhh (r_:List UInt8) (r_2:List (List PV)) (r_3:List (List PV)):List UInt8:=(gStr (gAt (gCs (gVal (qpv r_ r_2 r_3))) 0))
noncomputable def qg5 (r_:List UInt8) (r_2:List (List PV)) (r_3:List (List PV)):Int:=(gInt (gAt (gCs (gVal (qpv r_ r_2 r_3))) 1))
noncomputable def qeW (r_:List UInt8) (r_2:List (List PV)) (r_3:List (List PV)):Bool:=isW (qpv r_ r_2 r_3) (.tup [.str (qhh r_ r_2 r_3),.int .i64 (qg5 r_ r_2 r_3)])
noncomputable def qxU:List PV→Tr PV | [.agg [.str r_,.sl r_2 .non,.sl r_3 .non]]=>.ite (qeW r_ r_2 r_3) (.ret (.tup [.str (qhh r_ r_2 r_3),.int .i64 (qg5 r_ r_2 r_3)])) (.fail) | _=>.fail
theorem qE0 (gl:Gl) (hg:GlLex gl):SimP Tryz.prog gl 26 fun args=>(qxU args).run:=by
 refine SimP.of_flat (G:=qxm) (L:=qCk) qav (qEb gl hg ) qah  Tryz.func26 rfl (by rfl) (by kernel_rfl) (qae (by kernel_rfl)) ?_
 intro args x h
 unfold qxU at h
 split at h
 ·exact (congrArg Tr.run (qIh _ _ _)).trans (qai h fun h=>by cases h)
 ·cases h
noncomputable def qKX:GamT:=ofL [(43,.pure qtL),(57,.pure qFe)]
theorem qJI (gl:Gl) (hg:GlLex gl):qaR Tryz.prog gl (gam qKX):=(qac (qve gl) (qac (qyb gl hg) qag))
noncomputable def qLn:LpsT:=fun r fr σ=>.fail
noncomputable def qEO (o:List UInt8) (o2:List (List PV)) (o3:List (List PV)):Tr PV:=.ite (qj0 o (qaa o2) (qaa o3)) (.ite (qfI (qoY o (qaa o2) (qaa o3)) (qrl o (qaa o2) (qaa o3))) (.ret (.tup [.str (qiC (qoY o (qaa o2) (qaa o3)) (qrl o (qaa o2) (qaa o3))),.int .i64 (qit (qoY o (qaa o2) (qaa o3)) (qrl o (qaa o2) (qaa o3)))])) .fail) .fail
theorem qNb (o:List UInt8) (o2:List (List PV)) (o3:List (List PV)):(tcall tbT qKX qLn Tryz.f30 [.agg [.str o,.sl o2 .non,.sl o3 .non]]).flat=qEO o o2 o3:=by kernel_rfl
noncomputable def qEB (o:List UInt8) (o2:List (List PV)) (o3:List (List PV)):Option PV:=(qEO o o2 o3).run
noncomputable def qtY (o:List UInt8) (o2:List (List PV)) (o3:List (List PV)):List UInt8:=(gStr (gAt (gCs (gVal (qEB o o2 o3))) 0))
noncomputable def qtV (o:List UInt8) (o2:List (List PV)) (o3:List (List PV)):Int:=(gInt (gAt (gCs (gVal (qEB o o2 o3))) 1))
noncomputable def qif (o:List UInt8) (o2:List (List PV)) (o3:List (List PV)):Bool:=isW (qEB o o2 o3) (.tup [.str (qtY o o2 o3),.int .i64 (qtV o o2 o3)])
noncomputable def qJc:List PV→Tr PV | [.agg [.str o,.sl o2 .non,.sl o3 .non]]=>.ite (qif o o2 o3) (.ret (.tup [.str (qtY o o2 o3),.int .i64 (qtV o o2 o3)])) (.fail) | _=>.fail
theorem qJq (gl:Gl) (hg:GlLex gl):SimP Tryz.prog gl 30 fun args=>(qJc args).run:=by
 refine SimP.of_flat (G:=qKX) (L:=qLn) qav (qJI gl hg ) qah  Tryz.func30 rfl (by rfl) (by kernel_rfl) (qae (by kernel_rfl)) ?_
 intro args x h
 unfold qJc at h
 split at h
 ·exact (congrArg Tr.run (qNb _ _ _)).trans (qai h fun h=>by cases h)
 ·cases h
end Go.Pv
set_option maxHeartbeats 8000000
set_option maxRecDepth 200000
set_option linter.unusedSimpArgs false
set_option linter.unusedVariables false
namespace Go.Pv
open Go Go.Proofs Go.RowKit
theorem qeK {M:Nat} (sep:Txt):∀ l:List Txt,(∀ x ∈ l,x.length≤M)→(qdy l sep).length≤l.length * (M+sep.length)
 | [],_=>by simp [qlV]
 | [x],h=>by
  rw [qp8]
  have:=h x (by simp)
  simp
  omega
 | x :: y :: l,h=>by
  rw [qq7]
  have h1:=h x (by simp)
  have h2:=qeK sep (y :: l) (fun z hz=>h z (by simp [hz]))
  simp only [List.length_append,List.length_cons] at h2 ⊢
  rw [Nat.add_mul _ 1]
  omega
theorem qJs {α:Type} {ok:α→Bool} {T:α→Txt} {M:Nat} (sep:Txt) (l:List α) (h:∀ a ∈ l,(T a).length≤M):(jn ok T sep l).length≤l.length * (M+sep.length):=by
 unfold jn
 split
 ·have:=qeK (M:=M) sep (l.map T) (fun x hx=>by
   obtain ⟨a,ha,rfl⟩:=List.mem_map.1 hx
   exact h a ha)
  simpa using this
 ·simp
theorem qnn {α:Type} {ok:α→Bool} {T:α→Txt} {M:Nat} (sep:Txt) (l:List α) (n:Nat) (hn:l.length≤n) (h:∀ a ∈ l,(T a).length≤M):(jn ok T sep l).length≤n * (M+sep.length) :=
 Nat.le_trans (qJs sep l h) (Nat.mul_le_mul_right _ hn)
theorem qJM {v:Vl} (hr:vlR v):(vlT v).length≤1100:=by
 obtain ⟨k,n,s⟩:=v
 unfold vlT qf3
 simp only
 by_cases h:isV k n s=true
 ·rw [if_pos h]
  simp only [isV,decide_eq_true_eq] at h
  rcases h with ⟨rfl,_⟩ | ⟨rfl,_,h⟩
  ·rw [if_pos rfl]
   have hr1:=hr.1
   have hr2:=hr.2
   simp only at hr1 hr2
   unfold intV qgO
   split
   ·have:=qgC 19 (-n).toNat (by omega)
    simp only [List.length_cons]
    omega
   ·have:=qgC 19 n.toNat (by omega)
    omega
  ·rw [if_neg (by decide)]
   have key:∀ s:List UInt8,(symB s).length≤4 * s.length:=by
    intro s
    induction s with
    | nil=>simp [symB]
    | cons c s ih =>
     rw [qln,List.length_append,List.length_cons]
     have:(oneV c.toNat).length≤4:=by
      rw [qs8]
      repeat' split
      all_goals simp
     omega
   have:=key s
   unfold symV
   simp
   omega
 ·rw [if_neg h]
  simp
def tmS (t:Tm):Prop:=t.2.1.length≤300∧tmR t
def atS (a:At):Prop:=a.1.length≤300∧a.2.length≤12∧∀ t ∈ a.2,tmS t
def liS (l:Li):Prop:=atS l.2.1∧tmS l.2.2.2.1∧tmS l.2.2.2.2
def ruS (r:Ru):Prop:=atS r.1∧r.2.length≤8∧∀ l ∈ r.2,liS l
def tyS (_:Int):Prop:=True
def deS (d:De):Prop:=d.1.length≤300∧d.2.2.length≤12
def paS (p:Pa):Prop:=p.1.length≤300
def acS (a:Ac):Prop:=atS a.2
def enS (o:En):Prop:=o.1.length≤300∧(o.2.1.length≤12∧∀ p ∈ o.2.1,paS p)∧(o.2.2.length≤8∧∀ a ∈ o.2.2,acS a)
theorem qj2 {t:Tm} (h:tmS t):(tmT t).length≤1100:=by
 unfold tmT
 split
 ·have:=h.1; omega
 ·split
  ·exact qJM h.2
  ·simp
theorem qnk {a:At} (h:atS a):(atT a).length≤14000:=by
 have:=qnn (ok:=tmOk) (T:=tmT) (M:=1100) [44,32] a.2 12 h.2.1 (fun t ht=>qj2 (h.2.2 t ht))
 have:=h.1
 unfold atT
 simp at *
 omega
theorem qCv (o:Int):(opT o).length≤4:=by
 unfold opT
 repeat' split
 all_goals simp
theorem qv3 {l:Li} (h:liS l):(liT l).length≤14004:=by
 have h1:=qnk h.1
 have h2:=qj2 h.2.1
 have h3:=qj2 h.2.2
 have h4:=qCv l.2.2.1
 unfold liT
 repeat' split
 all_goals simp
 all_goals omega
theorem qqb (t:Int):(tyT t).length≤3:=by
 unfold tyT
 repeat' split
 all_goals simp
theorem qwM {p:Pa} (h:paS p):(paT p).length≤304:=by
 have:=qqb p.2
 have h:p.1.length≤300:=h
 unfold paT
 simp
 omega
theorem qxk {a:Ac} (h:acS a):(acT a).length≤14001:=by
 have:=qnk h
 unfold acT
 split <;> simp <;> omega
theorem qBL {r:Ru} (h:ruS r):(ruT r).length≤140000:=by
 have h1:=qnn (ok:=liOk) (T:=liT) (M:=14004) [44,32] r.2 8 h.2.1 (fun l hl=>qv3 (h.2.2 l hl))
 have h2:=qnk h.1
 unfold ruT
 simp at h1
 split <;> simp <;> omega
theorem qD2 {d:De} (h:deS d):(deT d).length≤1000:=by
 have h1:=qnn (ok:=tyOk) (T:=tyT) (M:=3) [44,32] d.2.2 12 h.2 (fun t _=>qqb t)
 have h2:=h.1
 unfold deT
 simp at h1
 split <;> simp <;> omega
theorem qBW {o:En} (h:enS o):(enT o).length≤140000:=by
 have h1:=qnn (ok:=paOk) (T:=paT) (M:=304) [44,32] o.2.1 12 h.2.1.1 (fun p hp=>qwM (h.2.1.2 p hp))
 have h2:=qnn (ok:=acOk) (T:=acT) (M:=14001) [44,32] o.2.2 8 h.2.2.1 (fun a ha=>qxk (h.2.2.2 a ha))
 have h3:=h.1
 unfold enT
 simp at h1 h2
 split <;> simp <;> omega
theorem qbH {a b:Txt} (h:a.length+b.length≤9223372036854775807):qa2 a b=true:=by rw [qF2]; exact decide_eq_true h
theorem qIu (k:Int) {s:Txt} (hs:s.length≤65536):isW1 k s=(decide (wE s=0) && decide ((wL s).length=1) && decide (((wL s)[0]?.getD (0,[],(0,0,[]),0)).1=k) && decide (((wL s)[0]?.getD (0,[],(0,0,[]),0)).2.1=s)):=by
 unfold isW1 wE wL
 cases h:qeg s with
 | mk l o =>
  cases o with
  | some p=>cases l <;> simp
  | none =>
   cases l with
   | nil=>simp
   | cons w l =>
    cases l with
    | nil=>simp
    | cons w' l=>simp
theorem qBJ {s:Txt} (hs:s.length≤65536) (k:Int):qFO s k=some (.bool (isW1 k s)):=by
 unfold qFO qBq
 rw [qIu k hs,qxa hs,qrD hs,qrM hs]
 have x0:xLen (rOf cW (wL s))=((wL s).length:Nat):=by simp
 rw [x0]
 by_cases h1:wE s=0
 ·by_cases h2:(wL s).length=1
  ·have g:qbM [PV.int .i64 0,.str [],.int .i64 0,.int .i64 0,.str [],.int .i64 0] (rOf cW (wL s)) (nNat 0)=true:=by rw [qHi]; simp [h2]
   have y0:xInt (rOf cW (wL s)) (nNat 0) 0=((wL s)[0]?.getD (0,[],(0,0,[]),0)).1:=qHd _ _
   have y1:xStr (rOf cW (wL s)) (nNat 0) 1=((wL s)[0]?.getD (0,[],(0,0,[]),0)).2.1:=qGC _ _
   rw [g,y0,y1]
   generalize (wL s)[0]?.getD (0,[],(0,0,[]),0)=w
   by_cases h3:w.1=k <;> simp [h1,h2,h3]
  ·have h2':¬ ((wL s).length:Int)=1:=by omega
   simp [h1,h2,h2']
 ·simp [h1]
theorem qHI {s:Txt} (hs:s.length≤65536) (k:Int):qmy s k=true:=by simp only [qwB,qmy,qBJ hs]; simp
theorem qLy {s:Txt} (hs:s.length≤65536) (k:Int):qwB s k=isW1 k s:=by simp only [qwB,qmy,qBJ hs]; simp
theorem quL {s:Txt} (hs:s.length≤65536):qsx s=some (.bool (nmB s)):=by
 unfold qsx qtn nmB resv
 rw [qHI hs,qLy hs]
 by_cases h1:s=[98,97,115,101]
 ·simp [h1]
 ·by_cases h2:s=[118,105,101,119]
  ·simp [h2]
  ·by_cases h3:s=[111,110]
   ·simp [h3]
   ·by_cases h4:s=[110,111,116]
    ·simp [h4]
    ·simp [h1,h2,h3,h4]
theorem qoP {s:Txt} (hs:s.length≤65536):qdj s=true:=by simp only [qeY,qdj,quL hs]; simp
theorem qt6 {s:Txt} (hs:s.length≤65536):qeY s=nmB s:=by simp only [qeY,qdj,quL hs]; simp
theorem qzg {s:Txt} (hs:s.length≤65536):qzM s=some (.bool (vrB s)):=by
 unfold qzM qvW vrB
 rw [qHI hs,qLy hs]
 simp
theorem qxs {s:Txt} (hs:s.length≤65536):qge s=true:=by simp only [qlx,qge,qzg hs]; simp
theorem qEi {s:Txt} (hs:s.length≤65536):qlx s=vrB s:=by simp only [qlx,qge,qzg hs]; simp
theorem qDF (k n:Int) (s:Txt):(qbD k n s=0)↔isV k n s=true:=by
 unfold qbD isV
 by_cases h1:k=1∧s=[]
 ·simp [h1]
 ·by_cases h2:k=2∧n=0∧s.length≤256
  ·simp [h2]
  ·rw [if_neg h1,if_neg h2]
   exact ⟨fun h=>absurd h (by decide),fun h=>(of_decide_eq_true h).elim (fun a=>absurd a h1) (fun a=>absurd a h2)⟩
theorem qpi {t:Tm} (h:tmS t):qpf t.1 t.2.1 t.2.2.1 t.2.2.2.1 t.2.2.2.2=some (.tup [.str (tmT t),.bool (tmOk t)]):=by
 obtain ⟨k,b,c,n,s⟩:=t
 have hb:b.length≤65536:=Nat.le_trans h.1 (by decide)
 unfold qpf qtj tmT tmOk vlOk vlT
 simp only [qxs hb,qEi hb,qlD]
 by_cases h1:k=1
 ·cases hv:vrB b <;> simp [h1,hv,bAnd,Bool.decide_and]
 ·by_cases h2:k=2
  ·by_cases h3:isV c n s=true
   ·have h4:=(qDF c n s).2 h3
    simp [h2,h3,h4]
   ·have h4:¬ qbD c n s=0:=fun h=>h3 ((qDF c n s).1 h)
    simp [h2,h3,h4]
  ·simp [h1,h2,bAnd,Bool.decide_and]
theorem qoE {t:Tm} (h:tmS t):qcA t.1 t.2.1 t.2.2.1 t.2.2.2.1 t.2.2.2.2=true:=by simp only [qev,qcA,qaS,qpi h]; simp
theorem qof {t:Tm} (h:tmS t):qaS t.1 t.2.1 t.2.2.1 t.2.2.2.1 t.2.2.2.2=tmT t:=by simp only [qev,qcA,qaS,qpi h]; simp
theorem qn9 {t:Tm} (h:tmS t):qev t.1 t.2.1 t.2.2.1 t.2.2.2.1 t.2.2.2.2=tmOk t:=by simp only [qev,qcA,qaS,qpi h]; simp
theorem qwc {l:List Tm} (hs:∀ a ∈ l,tmS a) (hn:l.length≤100000) {sep:Txt} (hsep:sep.length≤10):qDH (rOf cM l) sep=some (.tup [.str (jn tmOk tmT sep l),.bool (l.all tmOk)]):=by
 have hl:=qdY (l:=l) l.length (Nat.le_refl _) (V:=fun i b=>qjZ [.str sep,.fn 44 [],.sl (rOf cS b) (.tok 0),.sl (rOf cM l) .non,.int .i64 (l.length:Nat),.int .i64 (i:Nat)] ⟨[],[(b.length,1,9)],[]⟩) tmOk tmT (fun b=>some (.exit 0,[.str sep,.sl (rOf cS b) (.tok 0)],⟨[],[(b.length,1,9)],[]⟩)) (fun r=>∃ k:Nat,r=some (.ret,[.str [],.bool false],⟨[],[(k,1,9)],[]⟩)) ?_ ?_ ?_
 ·rw [List.take_length] at hl
  obtain ⟨h1,h2⟩:=hl
  have x0:xLen (rOf cM l)=(l.length:Nat):=by simp
  unfold qDH qFF jn
  rw [x0]
  cases ha:l.all tmOk with
  | true =>
   have h':qjE sep [] (rOf cM l) (l.length:Nat) 0 0=_:=h1 ha
   have o:qdZ (l.map tmT) sep=true:=by
    rw [qbF]
    have:=qeK (M:=1100) sep (l.map tmT) (fun x hx=>by
     obtain ⟨a,ha,rfl⟩:=List.mem_map.1 hx
     exact qj2 (hs a ha))
    have h3:(l.map tmT).length * (1100+sep.length)≤100000 * (1100+10):=Nat.mul_le_mul (by simpa using hn) (by omega)
    exact ⟨by simp; omega,by omega⟩
   simp only [qk4,qcI,qoF,qnQ,qn2,qoq,qlY,qdc,h']
   rw [qbF] at o
   simp [o.2]
   omega
  | false =>
   obtain ⟨k,hk⟩:=h2 ha
   have h':qjE sep [] (rOf cM l) (l.length:Nat) 0 0=_:=hk
   simp only [qk4,qcI,qoF,qnQ,qn2,qoq,qlY,qdc,h']
   simp
 ·intro i b a hb hi hi2 ha ho
  have hm:tmS a:=hs a (ha ▸ List.getElem_mem hi)
  have q1:iLt (i:Int) (l.length:Nat)=true:=by simp; omega
  have q3:qaw (i:Int)=true:=by simp
  have q4:qbM [PV.int .i64 0,.str [],.int .i64 0,.int .i64 0,.str []] (rOf cM l) (nNat (i:Int))=true:=by simp; omega
  have w:=qbw (i:=i) (by omega)
  have e1:=qoE hm
  have e2:=qof hm
  have e3:=qn9 hm
  rw [ho] at e3
  have x0:xInt (rOf cM l) (nNat (i:Int)) 0=a.1:=by simp [hi,ha]
  have x1:xStr (rOf cM l) (nNat (i:Int)) 1=a.2.1:=by simp [hi,ha]
  have x2:xInt (rOf cM l) (nNat (i:Int)) 2=a.2.2.1:=by simp [hi,ha]
  have x3:xInt (rOf cM l) (nNat (i:Int)) 3=a.2.2.2.1:=by simp [hi,ha]
  have x4:xStr (rOf cM l) (nNat (i:Int)) 4=a.2.2.2.2:=by simp [hi,ha]
  have o1:∀ c,qaP (rOf cS b) [c] 16=true:=fun c=>by simp; omega
  have o2:∀ t:Txt,qaO [[PV.str t]] 1=true:=fun t=>by simp [one]
  have o3:qaC (rOf cS b) 1=true:=qeU _
  have o4:nEq b.length (nXs (rOf cS b))=true:=by simp
  have o5:bNot true=false:=rfl
  show qjZ [.str sep,.fn 44 [],.sl (rOf cS b) (.tok 0),.sl (rOf cM l) .non,.int .i64 (l.length:Nat),.int .i64 (i:Nat)] ⟨[],[(b.length,1,9)],[]⟩=qjZ [.str sep,.fn 44 [],.sl (rOf cS (b++[tmT a])) (.tok 0),.sl (rOf cM l) .non,.int .i64 (l.length:Nat),.int .i64 ((i+1:Nat):Int)] ⟨[],[((b++[tmT a]).length,1,9)],[]⟩
  rw [qDu]
  simp only [qqs,q1,q3,q4,x0,x1,x2,x3,x4,qaz,e1,e2,e3,o1,o2,o3,o4,o5,w]
  simp
 ·intro i b a hb hi hi2 ha ho
  have hm:tmS a:=hs a (ha ▸ List.getElem_mem hi)
  have q1:iLt (i:Int) (l.length:Nat)=true:=by simp; omega
  have q3:qaw (i:Int)=true:=by simp
  have q4:qbM [PV.int .i64 0,.str [],.int .i64 0,.int .i64 0,.str []] (rOf cM l) (nNat (i:Int))=true:=by simp; omega
  have w:=qbw (i:=i) (by omega)
  have e1:=qoE hm
  have e2:=qof hm
  have e3:=qn9 hm
  rw [ho] at e3
  have x0:xInt (rOf cM l) (nNat (i:Int)) 0=a.1:=by simp [hi,ha]
  have x1:xStr (rOf cM l) (nNat (i:Int)) 1=a.2.1:=by simp [hi,ha]
  have x2:xInt (rOf cM l) (nNat (i:Int)) 2=a.2.2.1:=by simp [hi,ha]
  have x3:xInt (rOf cM l) (nNat (i:Int)) 3=a.2.2.2.1:=by simp [hi,ha]
  have x4:xStr (rOf cM l) (nNat (i:Int)) 4=a.2.2.2.2:=by simp [hi,ha]
  have o5:bNot false=true:=rfl
  show ∃ k:Nat,qjZ [.str sep,.fn 44 [],.sl (rOf cS b) (.tok 0),.sl (rOf cM l) .non,.int .i64 (l.length:Nat),.int .i64 (i:Nat)] ⟨[],[(b.length,1,9)],[]⟩=_
  refine ⟨b.length,?_⟩
  rw [qDu]
  simp only [qqs,q1,q3,q4,x0,x1,x2,x3,x4,qaz,e1,e2,e3,o5]
  simp
 ·intro b hb
  have q1:iLt (l.length:Nat) (l.length:Nat)=false:=by simp
  show qjZ [.str sep,.fn 44 [],.sl (rOf cS b) (.tok 0),.sl (rOf cM l) .non,.int .i64 (l.length:Nat),.int .i64 (l.length:Nat)] ⟨[],[(b.length,1,9)],[]⟩=_
  rw [qDu]
  simp only [qqs,q1]
  simp
theorem qMa {l:List Tm} (hs:∀ a ∈ l,tmS a) (hn:l.length≤100000) {sep:Txt} (hsep:sep.length≤10):qmj (rOf cM l) sep=true:=by simp only [qwk,qmj,qrt,qwc hs hn hsep]; simp
theorem qMD {l:List Tm} (hs:∀ a ∈ l,tmS a) (hn:l.length≤100000) {sep:Txt} (hsep:sep.length≤10):qrt (rOf cM l) sep=jn tmOk tmT sep l:=by simp only [qwk,qmj,qrt,qwc hs hn hsep]; simp
theorem qL6 {l:List Tm} (hs:∀ a ∈ l,tmS a) (hn:l.length≤100000) {sep:Txt} (hsep:sep.length≤10):qwk (rOf cM l) sep=l.all tmOk:=by simp only [qwk,qmj,qrt,qwc hs hn hsep]; simp
theorem qqr {a:At} (h:atS a):qp2 a.1 (rOf cM a.2)=some (.tup [.str (atT a),.bool (atOk a)]):=by
 have e1:=qMa h.2.2 (by have:=h.2.1; omega) (sep:=[44,32]) (by decide)
 have e2:=qMD h.2.2 (by have:=h.2.1; omega) (sep:=[44,32]) (by decide)
 have e3:=qL6 h.2.2 (by have:=h.2.1; omega) (sep:=[44,32]) (by decide)
 have hb:a.1.length≤65536:=Nat.le_trans h.1 (by decide)
 have hj:=qnn (ok:=tmOk) (T:=tmT) (M:=1100) [44,32] a.2 12 h.2.1 (fun t ht=>qj2 (h.2.2 t ht))
 have hn:=h.1
 simp at hj
 unfold qp2 qtS atT atOk
 simp only [qaz,e1,e2,e3,qoP hb,qt6 hb]
 rw [qbH (by simp; omega),qbH (by simp; omega),qbH (by simp; omega)]
 cases a.2.all tmOk <;> simp
theorem qtZ {a:At} (h:atS a):qcl a.1 (rOf cM a.2)=true:=by simp only [qdt,qcl,qbz,qqr h]; simp
theorem qt0 {a:At} (h:atS a):qbz a.1 (rOf cM a.2)=atT a:=by simp only [qdt,qcl,qbz,qqr h]; simp
theorem qsK {a:At} (h:atS a):qdt a.1 (rOf cM a.2)=atOk a:=by simp only [qdt,qcl,qbz,qqr h]; simp
theorem qyf (o:Int):qD7 o=some (.tup [.str (opT o),.bool (opOk o)]):=by
 unfold qD7 qCD opT opOk
 by_cases h1:o=1
 ·simp [h1]
 ·by_cases h2:o=2
  ·simp [h2]
  ·by_cases h3:o=3
   ·simp [h3]
   ·by_cases h4:o=4
    ·simp [h4]
    ·by_cases h5:o=5
     ·simp [h5]
     ·by_cases h6:o=6
      ·simp [h6]
      ·have:¬ (1≤o∧o≤6):=by omega
       simp [h1,h2,h3,h4,h5,h6]
       omega
theorem qL2 (o:Int):qih o=true:=by simp only [qui,qih,qeq,qyf]; simp
theorem qLU (o:Int):qeq o=opT o:=by simp only [qui,qih,qeq,qyf]; simp
theorem qLc (o:Int):qui o=opOk o:=by simp only [qui,qih,qeq,qyf]; simp
theorem qiA {l:Li} (h:liS l):qgI l.1 l.2.1.1 (rOf cM l.2.1.2) l.2.2.1 l.2.2.2.1.1 l.2.2.2.1.2.1 l.2.2.2.1.2.2.1 l.2.2.2.1.2.2.2.1 l.2.2.2.1.2.2.2.2 l.2.2.2.2.1 l.2.2.2.2.2.1 l.2.2.2.2.2.2.1 l.2.2.2.2.2.2.2.1 l.2.2.2.2.2.2.2.2=some (.tup [.str (liT l),.bool (liOk l)]):=by
 have e1:=qtZ h.1
 have e2:=qt0 h.1
 have e3:=qsK h.1
 have a1:=qoE h.2.1
 have a2:=qof h.2.1
 have a3:=qn9 h.2.1
 have b1:=qoE h.2.2
 have b2:=qof h.2.2
 have b3:=qn9 h.2.2
 have l1:=qnk h.1
 have l2:=qj2 h.2.1
 have l3:=qj2 h.2.2
 have l4:=qCv l.2.2.1
 have o1:qa2 [110,111,116,32] (atT l.2.1)=true:=qbH (by simp; omega)
 have o2:qa2 (tmT l.2.2.2.1) (opT l.2.2.1)=true:=qbH (by omega)
 have o3:qa2 (sApp (tmT l.2.2.2.1) (opT l.2.2.1)) (tmT l.2.2.2.2)=true:=qbH (by simp; omega)
 have pl:qHu l=(decide (l.2.2.1=0) && decide (l.2.2.2.1=tm0) && decide (l.2.2.2.2=tm0)):=rfl
 have t0:∀ t:Tm,(t=tm0)=(t.1=0∧t.2.1=[]∧t.2.2.1=0∧t.2.2.2.1=0∧t.2.2.2.2=[]):=fun t=>by
  obtain ⟨a,b,c,d,e⟩:=t
  simp [tm0]
 unfold qgI qkb liT liOk
 simp only [qaz,e1,e2,e3,a1,a2,a3,b1,b2,b3,qL2,qLU,qLc,o1,o2,o3,pl,t0]
 have at0:(l.2.1=([],[]))=(l.2.1.1=[]∧l.2.1.2=[]):=by
  cases hl:l.2.1 with
  | mk x y=>simp
 simp only [at0]
 generalize l.1=k
 generalize l.2.2.1=o
 generalize l.2.2.2.1=A
 generalize l.2.2.2.2=B
 generalize l.2.1=T
 obtain ⟨A1,A2,A3,A4,A5⟩:=A
 obtain ⟨B1,B2,B3,B4,B5⟩:=B
 obtain ⟨T1,T2⟩:=T
 simp only
 have b0:bAnd=and:=rfl
 by_cases k1:k=1
 ·by_cases h0:o=0
  ·by_cases hA:(A1=0∧A2=[]∧A3=0∧A4=0∧A5=[])
   ·cases hO:atOk (T1,T2) <;> simp [k1,h0,hA,hO,b0,Bool.decide_and]
   ·have hA':(decide (A1=0) && (decide (A2=[]) && (decide (A3=0) && (decide (A4=0) && decide (A5=[])))))=false:=by
     simpa [Bool.decide_and] using hA
    cases hO:atOk (T1,T2) <;> simp [k1,h0,hA,hA',hO,b0,Bool.decide_and] <;> simp_all
  ·cases hO:atOk (T1,T2) <;> simp [k1,h0,hO,b0]
 ·by_cases k2:k=2
  ·by_cases h0:o=0
   ·by_cases hA:(A1=0∧A2=[]∧A3=0∧A4=0∧A5=[])
    ·cases hO:atOk (T1,T2) <;> simp [k2,h0,hA,hO,b0,Bool.decide_and]
    ·have hA':(decide (A1=0) && (decide (A2=[]) && (decide (A3=0) && (decide (A4=0) && decide (A5=[])))))=false:=by
      simpa [Bool.decide_and] using hA
     cases hO:atOk (T1,T2) <;> simp [k2,h0,hA,hA',hO,b0,Bool.decide_and] <;> simp_all
   ·cases hO:atOk (T1,T2) <;> simp [k2,h0,hO,b0]
  ·by_cases k3:k=3
   ·have fin:∀ c:Bool,(if c=true then (if k=3 then (1:Nat) else 0) else 0)=(if c=true then (if k=3 then 1 else 0) else 0):=fun _=>rfl
    subst k3
    have n1:iEq 3 1=false:=rfl
    have n2:iEq 3 2=false:=rfl
    have n3:iEq 3 3=true:=rfl
    rw [n1,n2,n3]
    cases iEq o 0 <;> cases (bAnd (iEq A1 0) (bAnd (sEq A2 []) (bAnd (bAnd (iEq A3 0) (bAnd (iEq A4 0) (bAnd (sEq A5 []) true))) true))) <;>
     cases tmOk (A1,A2,A3,A4,A5) <;> cases opOk o <;> cases tmOk (B1,B2,B3,B4,B5) <;> by_cases hT:T1=[] <;> simp [hT]
   ·simp [k1,k2,k3]
    repeat' split
    all_goals simp
theorem qpe {l:Li} (h:liS l):qdR l.1 l.2.1.1 (rOf cM l.2.1.2) l.2.2.1 l.2.2.2.1.1 l.2.2.2.1.2.1 l.2.2.2.1.2.2.1 l.2.2.2.1.2.2.2.1 l.2.2.2.1.2.2.2.2 l.2.2.2.2.1 l.2.2.2.2.2.1 l.2.2.2.2.2.2.1 l.2.2.2.2.2.2.2.1 l.2.2.2.2.2.2.2.2=true:=by simp only [qeB,qdR,qcJ,qiA h]; simp
theorem qqn {l:Li} (h:liS l):qcJ l.1 l.2.1.1 (rOf cM l.2.1.2) l.2.2.1 l.2.2.2.1.1 l.2.2.2.1.2.1 l.2.2.2.1.2.2.1 l.2.2.2.1.2.2.2.1 l.2.2.2.1.2.2.2.2 l.2.2.2.2.1 l.2.2.2.2.2.1 l.2.2.2.2.2.2.1 l.2.2.2.2.2.2.2.1 l.2.2.2.2.2.2.2.2=liT l:=by simp only [qeB,qdR,qcJ,qiA h]; simp
theorem qpC {l:Li} (h:liS l):qeB l.1 l.2.1.1 (rOf cM l.2.1.2) l.2.2.1 l.2.2.2.1.1 l.2.2.2.1.2.1 l.2.2.2.1.2.2.1 l.2.2.2.1.2.2.2.1 l.2.2.2.1.2.2.2.2 l.2.2.2.2.1 l.2.2.2.2.2.1 l.2.2.2.2.2.2.1 l.2.2.2.2.2.2.2.1 l.2.2.2.2.2.2.2.2=liOk l:=by simp only [qeB,qdR,qcJ,qiA h]; simp
theorem qwi {l:List Li} (hs:∀ a ∈ l,liS a) (hn:l.length≤100000) {sep:Txt} (hsep:sep.length≤10):qCX (rOf cL l) sep=some (.tup [.str (jn liOk liT sep l),.bool (l.all liOk)]):=by
 have hl:=qdY (l:=l) l.length (Nat.le_refl _) (V:=fun i b=>qjT [.str sep,.fn 49 [],.sl (rOf cS b) (.tok 0),.sl (rOf cL l) .non,.int .i64 (l.length:Nat),.int .i64 (i:Nat)] ⟨[],[(b.length,1,9)],[]⟩) liOk liT (fun b=>some (.exit 0,[.str sep,.sl (rOf cS b) (.tok 0)],⟨[],[(b.length,1,9)],[]⟩)) (fun r=>∃ k:Nat,r=some (.ret,[.str [],.bool false],⟨[],[(k,1,9)],[]⟩)) ?_ ?_ ?_
 ·rw [List.take_length] at hl
  obtain ⟨h1,h2⟩:=hl
  have x0:xLen (rOf cL l)=(l.length:Nat):=by simp
  unfold qCX qBC jn
  rw [x0]
  cases ha:l.all liOk with
  | true =>
   have h':qjK sep [] (rOf cL l) (l.length:Nat) 0 0=_:=h1 ha
   have o:qdZ (l.map liT) sep=true:=by
    rw [qbF]
    have:=qeK (M:=14004) sep (l.map liT) (fun x hx=>by
     obtain ⟨a,ha,rfl⟩:=List.mem_map.1 hx
     exact qv3 (hs a ha))
    have h3:(l.map liT).length * (14004+sep.length)≤100000 * (14004+10):=Nat.mul_le_mul (by simpa using hn) (by omega)
    exact ⟨by simp; omega,by omega⟩
   simp only [qkU,qcM,qoG,qn7,qoO,qn3,qlE,qc6,h']
   rw [qbF] at o
   simp [o.2]
   omega
  | false =>
   obtain ⟨k,hk⟩:=h2 ha
   have h':qjK sep [] (rOf cL l) (l.length:Nat) 0 0=_:=hk
   simp only [qkU,qcM,qoG,qn7,qoO,qn3,qlE,qc6,h']
   simp
 ·intro i b a hb hi hi2 ha ho
  have hm:liS a:=hs a (ha ▸ List.getElem_mem hi)
  have q1:iLt (i:Int) (l.length:Nat)=true:=by simp; omega
  have q3:qaw (i:Int)=true:=by simp
  have q4:qbM [PV.int .i64 0,.str [],.sl [] .full,.int .i64 0,.int .i64 0,.str [],.int .i64 0,.int .i64 0,.str [],.int .i64 0,.str [],.int .i64 0,.int .i64 0,.str []] (rOf cL l) (nNat (i:Int))=true:=by simp; omega
  have w:=qbw (i:=i) (by omega)
  have e1:=qpe hm
  have e2:=qqn hm
  have e3:=qpC hm
  rw [ho] at e3
  have x0:xInt (rOf cL l) (nNat (i:Int)) 0=a.1:=by simp [hi,ha]
  have x1:xStr (rOf cL l) (nNat (i:Int)) 1=a.2.1.1:=by simp [hi,ha]
  have x2:xRow (rOf cL l) (nNat (i:Int)) 2=rOf cM a.2.1.2:=by simp [hi,ha]
  have x3:xInt (rOf cL l) (nNat (i:Int)) 3=a.2.2.1:=by simp [hi,ha]
  have x4:xInt (rOf cL l) (nNat (i:Int)) 4=a.2.2.2.1.1:=by simp [hi,ha]
  have x5:xStr (rOf cL l) (nNat (i:Int)) 5=a.2.2.2.1.2.1:=by simp [hi,ha]
  have x6:xInt (rOf cL l) (nNat (i:Int)) 6=a.2.2.2.1.2.2.1:=by simp [hi,ha]
  have x7:xInt (rOf cL l) (nNat (i:Int)) 7=a.2.2.2.1.2.2.2.1:=by simp [hi,ha]
  have x8:xStr (rOf cL l) (nNat (i:Int)) 8=a.2.2.2.1.2.2.2.2:=by simp [hi,ha]
  have x9:xInt (rOf cL l) (nNat (i:Int)) 9=a.2.2.2.2.1:=by simp [hi,ha]
  have x10:xStr (rOf cL l) (nNat (i:Int)) 10=a.2.2.2.2.2.1:=by simp [hi,ha]
  have x11:xInt (rOf cL l) (nNat (i:Int)) 11=a.2.2.2.2.2.2.1:=by simp [hi,ha]
  have x12:xInt (rOf cL l) (nNat (i:Int)) 12=a.2.2.2.2.2.2.2.1:=by simp [hi,ha]
  have x13:xStr (rOf cL l) (nNat (i:Int)) 13=a.2.2.2.2.2.2.2.2:=by simp [hi,ha]
  have o1:∀ c,qaP (rOf cS b) [c] 16=true:=fun c=>by simp; omega
  have o2:∀ t:Txt,qaO [[PV.str t]] 1=true:=fun t=>by simp [one]
  have o3:qaC (rOf cS b) 1=true:=qeU _
  have o4:nEq b.length (nXs (rOf cS b))=true:=by simp
  have o5:bNot true=false:=rfl
  show qjT [.str sep,.fn 49 [],.sl (rOf cS b) (.tok 0),.sl (rOf cL l) .non,.int .i64 (l.length:Nat),.int .i64 (i:Nat)] ⟨[],[(b.length,1,9)],[]⟩=qjT [.str sep,.fn 49 [],.sl (rOf cS (b++[liT a])) (.tok 0),.sl (rOf cL l) .non,.int .i64 (l.length:Nat),.int .i64 ((i+1:Nat):Int)] ⟨[],[((b++[liT a]).length,1,9)],[]⟩
  rw [qBV]
  simp only [qq6,q1,q3,q4,x0,x1,x2,x3,x4,x5,x6,x7,x8,x9,x10,x11,x12,x13,qaz,e1,e2,e3,o1,o2,o3,o4,o5,w]
  simp
 ·intro i b a hb hi hi2 ha ho
  have hm:liS a:=hs a (ha ▸ List.getElem_mem hi)
  have q1:iLt (i:Int) (l.length:Nat)=true:=by simp; omega
  have q3:qaw (i:Int)=true:=by simp
  have q4:qbM [PV.int .i64 0,.str [],.sl [] .full,.int .i64 0,.int .i64 0,.str [],.int .i64 0,.int .i64 0,.str [],.int .i64 0,.str [],.int .i64 0,.int .i64 0,.str []] (rOf cL l) (nNat (i:Int))=true:=by simp; omega
  have w:=qbw (i:=i) (by omega)
  have e1:=qpe hm
  have e2:=qqn hm
  have e3:=qpC hm
  rw [ho] at e3
  have x0:xInt (rOf cL l) (nNat (i:Int)) 0=a.1:=by simp [hi,ha]
  have x1:xStr (rOf cL l) (nNat (i:Int)) 1=a.2.1.1:=by simp [hi,ha]
  have x2:xRow (rOf cL l) (nNat (i:Int)) 2=rOf cM a.2.1.2:=by simp [hi,ha]
  have x3:xInt (rOf cL l) (nNat (i:Int)) 3=a.2.2.1:=by simp [hi,ha]
  have x4:xInt (rOf cL l) (nNat (i:Int)) 4=a.2.2.2.1.1:=by simp [hi,ha]
  have x5:xStr (rOf cL l) (nNat (i:Int)) 5=a.2.2.2.1.2.1:=by simp [hi,ha]
  have x6:xInt (rOf cL l) (nNat (i:Int)) 6=a.2.2.2.1.2.2.1:=by simp [hi,ha]
  have x7:xInt (rOf cL l) (nNat (i:Int)) 7=a.2.2.2.1.2.2.2.1:=by simp [hi,ha]
  have x8:xStr (rOf cL l) (nNat (i:Int)) 8=a.2.2.2.1.2.2.2.2:=by simp [hi,ha]
  have x9:xInt (rOf cL l) (nNat (i:Int)) 9=a.2.2.2.2.1:=by simp [hi,ha]
  have x10:xStr (rOf cL l) (nNat (i:Int)) 10=a.2.2.2.2.2.1:=by simp [hi,ha]
  have x11:xInt (rOf cL l) (nNat (i:Int)) 11=a.2.2.2.2.2.2.1:=by simp [hi,ha]
  have x12:xInt (rOf cL l) (nNat (i:Int)) 12=a.2.2.2.2.2.2.2.1:=by simp [hi,ha]
  have x13:xStr (rOf cL l) (nNat (i:Int)) 13=a.2.2.2.2.2.2.2.2:=by simp [hi,ha]
  have o5:bNot false=true:=rfl
  show ∃ k:Nat,qjT [.str sep,.fn 49 [],.sl (rOf cS b) (.tok 0),.sl (rOf cL l) .non,.int .i64 (l.length:Nat),.int .i64 (i:Nat)] ⟨[],[(b.length,1,9)],[]⟩=_
  refine ⟨b.length,?_⟩
  rw [qBV]
  simp only [qq6,q1,q3,q4,x0,x1,x2,x3,x4,x5,x6,x7,x8,x9,x10,x11,x12,x13,qaz,e1,e2,e3,o5]
  simp
 ·intro b hb
  have q1:iLt (l.length:Nat) (l.length:Nat)=false:=by simp
  show qjT [.str sep,.fn 49 [],.sl (rOf cS b) (.tok 0),.sl (rOf cL l) .non,.int .i64 (l.length:Nat),.int .i64 (l.length:Nat)] ⟨[],[(b.length,1,9)],[]⟩=_
  rw [qBV]
  simp only [qq6,q1]
  simp
theorem qMi {l:List Li} (hs:∀ a ∈ l,liS a) (hn:l.length≤100000) {sep:Txt} (hsep:sep.length≤10):qne (rOf cL l) sep=true:=by simp only [quM,qne,qj9,qwi hs hn hsep]; simp
theorem qL1 {l:List Li} (hs:∀ a ∈ l,liS a) (hn:l.length≤100000) {sep:Txt} (hsep:sep.length≤10):qj9 (rOf cL l) sep=jn liOk liT sep l:=by simp only [quM,qne,qj9,qwi hs hn hsep]; simp
theorem qLf {l:List Li} (hs:∀ a ∈ l,liS a) (hn:l.length≤100000) {sep:Txt} (hsep:sep.length≤10):quM (rOf cL l) sep=l.all liOk:=by simp only [quM,qne,qj9,qwi hs hn hsep]; simp
theorem qpS {x:Ru} (h:ruS x):qqc x.1.1 (rOf cM x.1.2) (rOf cL x.2)=some (.tup [.str (ruT x),.bool (ruOk x)]):=by
 have e1:=qtZ h.1
 have e2:=qt0 h.1
 have e3:=qsK h.1
 have j1:=qMi h.2.2 (by have:=h.2.1; omega) (sep:=[44,32]) (by decide)
 have j2:=qL1 h.2.2 (by have:=h.2.1; omega) (sep:=[44,32]) (by decide)
 have j3:=qLf h.2.2 (by have:=h.2.1; omega) (sep:=[44,32]) (by decide)
 have hj:=qnn (ok:=liOk) (T:=liT) (M:=14004) [44,32] x.2 8 h.2.1 (fun l hl=>qv3 (h.2.2 l hl))
 have l1:=qnk h.1
 simp at hj
 unfold qqc qsP ruT ruOk
 simp only [qaz,e1,e2,e3,j1,j2,j3]
 by_cases hb:x.2=[]
 ·rw [hb] at hj ⊢
  have t:iLt 0 (xLen (rOf cL []))=false:=rfl
  have o1:qa2 (atT x.1) (jn liOk liT [44,32] [])=true:=qbH (by omega)
  have o2:qa2 (sApp (atT x.1) (jn liOk liT [44,32] [])) [46]=true:=qbH (by simp; omega)
  simp only [t,o1,o2]
  cases atOk x.1 <;> simp [jn,qlV]
 ·have t:iLt 0 (xLen (rOf cL x.2))=true:=by simp; exact List.length_pos_iff.2 hb
  rw [t,qbH (by simp; omega),qbH (by simp; omega),qbH (by simp; omega)]
  cases atOk x.1 <;> simp [hb]
theorem qyr {x:Ru} (h:ruS x):qfT x.1.1 (rOf cM x.1.2) (rOf cL x.2)=true:=by simp only [qgu,qfT,qf2,qpS h]; simp
theorem qyB {x:Ru} (h:ruS x):qf2 x.1.1 (rOf cM x.1.2) (rOf cL x.2)=ruT x:=by simp only [qgu,qfT,qf2,qpS h]; simp
theorem qzl {x:Ru} (h:ruS x):qgu x.1.1 (rOf cM x.1.2) (rOf cL x.2)=ruOk x:=by simp only [qgu,qfT,qf2,qpS h]; simp
theorem qpy {t:Int} (h:tyS t):qqO t=some (.tup [.str (tyT t),.bool (tyOk t)]):=by
 unfold qqO quw tyT tyOk
 by_cases h1:t=1
 ·simp [h1]
 ·by_cases h2:t=2
  ·simp [h2]
  ·simp [h1,h2]
theorem quk {t:Int} (h:tyS t):qfy t=true:=by simp only [qio,qfy,qet,qpy h]; simp
theorem qth {t:Int} (h:tyS t):qet t=tyT t:=by simp only [qio,qfy,qet,qpy h]; simp
theorem qsV {t:Int} (h:tyS t):qio t=tyOk t:=by simp only [qio,qfy,qet,qpy h]; simp
theorem qvS {l:List Int} (hs:∀ a ∈ l,tyS a) (hn:l.length≤100000) {sep:Txt} (hsep:sep.length≤10):qCy (rOf cI l) sep=some (.tup [.str (jn tyOk tyT sep l),.bool (l.all tyOk)]):=by
 have hl:=qdY (l:=l) l.length (Nat.le_refl _) (V:=fun i b=>qjU [.str sep,.fn 83 [],.sl (rOf cS b) (.tok 0),.sl (rOf cI l) .non,.int .i64 (l.length:Nat),.int .i64 (i:Nat)] ⟨[],[(b.length,1,9)],[]⟩) tyOk tyT (fun b=>some (.exit 0,[.str sep,.sl (rOf cS b) (.tok 0)],⟨[],[(b.length,1,9)],[]⟩)) (fun r=>∃ k:Nat,r=some (.ret,[.str [],.bool false],⟨[],[(k,1,9)],[]⟩)) ?_ ?_ ?_
 ·rw [List.take_length] at hl
  obtain ⟨h1,h2⟩:=hl
  have x0:xLen (rOf cI l)=(l.length:Nat):=by simp
  unfold qCy qEp jn
  rw [x0]
  cases ha:l.all tyOk with
  | true =>
   have h':qjD sep [] (rOf cI l) (l.length:Nat) 0 0=_:=h1 ha
   have o:qdZ (l.map tyT) sep=true:=by
    rw [qbF]
    have:=qeK (M:=3) sep (l.map tyT) (fun x hx=>by
     obtain ⟨a,ha,rfl⟩:=List.mem_map.1 hx
     exact qqb a)
    have h3:(l.map tyT).length * (3+sep.length)≤100000 * (3+10):=Nat.mul_le_mul (by simpa using hn) (by omega)
    exact ⟨by simp; omega,by omega⟩
   simp only [qlF,qcC,qnP,qnJ,qoL,qoT,qkW,qc2,h']
   rw [qbF] at o
   simp [o.2]
   omega
  | false =>
   obtain ⟨k,hk⟩:=h2 ha
   have h':qjD sep [] (rOf cI l) (l.length:Nat) 0 0=_:=hk
   simp only [qlF,qcC,qnP,qnJ,qoL,qoT,qkW,qc2,h']
   simp
 ·intro i b a hb hi hi2 ha ho
  have hm:tyS a:=hs a (ha ▸ List.getElem_mem hi)
  have q1:iLt (i:Int) (l.length:Nat)=true:=by simp; omega
  have q3:qaw (i:Int)=true:=by simp
  have q4:qbM [PV.int .i64 0] (rOf cI l) (nNat (i:Int))=true:=by simp; omega
  have w:=qbw (i:=i) (by omega)
  have e1:=quk hm
  have e2:=qth hm
  have e3:=qsV hm
  rw [ho] at e3
  have x0:xInt (rOf cI l) (nNat (i:Int)) 0=a:=by simp [hi,ha]
  have o1:∀ c,qaP (rOf cS b) [c] 16=true:=fun c=>by simp; omega
  have o2:∀ t:Txt,qaO [[PV.str t]] 1=true:=fun t=>by simp [one]
  have o3:qaC (rOf cS b) 1=true:=qeU _
  have o4:nEq b.length (nXs (rOf cS b))=true:=by simp
  have o5:bNot true=false:=rfl
  show qjU [.str sep,.fn 83 [],.sl (rOf cS b) (.tok 0),.sl (rOf cI l) .non,.int .i64 (l.length:Nat),.int .i64 (i:Nat)] ⟨[],[(b.length,1,9)],[]⟩=qjU [.str sep,.fn 83 [],.sl (rOf cS (b++[tyT a])) (.tok 0),.sl (rOf cI l) .non,.int .i64 (l.length:Nat),.int .i64 ((i+1:Nat):Int)] ⟨[],[((b++[tyT a]).length,1,9)],[]⟩
  rw [qBo]
  simp only [qqq,q1,q3,q4,x0,qaz,e1,e2,e3,o1,o2,o3,o4,o5,w]
  simp
 ·intro i b a hb hi hi2 ha ho
  have hm:tyS a:=hs a (ha ▸ List.getElem_mem hi)
  have q1:iLt (i:Int) (l.length:Nat)=true:=by simp; omega
  have q3:qaw (i:Int)=true:=by simp
  have q4:qbM [PV.int .i64 0] (rOf cI l) (nNat (i:Int))=true:=by simp; omega
  have w:=qbw (i:=i) (by omega)
  have e1:=quk hm
  have e2:=qth hm
  have e3:=qsV hm
  rw [ho] at e3
  have x0:xInt (rOf cI l) (nNat (i:Int)) 0=a:=by simp [hi,ha]
  have o5:bNot false=true:=rfl
  show ∃ k:Nat,qjU [.str sep,.fn 83 [],.sl (rOf cS b) (.tok 0),.sl (rOf cI l) .non,.int .i64 (l.length:Nat),.int .i64 (i:Nat)] ⟨[],[(b.length,1,9)],[]⟩=_
  refine ⟨b.length,?_⟩
  rw [qBo]
  simp only [qqq,q1,q3,q4,x0,qaz,e1,e2,e3,o5]
  simp
 ·intro b hb
  have q1:iLt (l.length:Nat) (l.length:Nat)=false:=by simp
  show qjU [.str sep,.fn 83 [],.sl (rOf cS b) (.tok 0),.sl (rOf cI l) .non,.int .i64 (l.length:Nat),.int .i64 (l.length:Nat)] ⟨[],[(b.length,1,9)],[]⟩=_
  rw [qBo]
  simp only [qqq,q1]
  simp
theorem qLq {l:List Int} (hs:∀ a ∈ l,tyS a) (hn:l.length≤100000) {sep:Txt} (hsep:sep.length≤10):qj3 (rOf cI l) sep=true:=by simp only [qvr,qj3,qlN,qvS hs hn hsep]; simp
theorem qMK {l:List Int} (hs:∀ a ∈ l,tyS a) (hn:l.length≤100000) {sep:Txt} (hsep:sep.length≤10):qlN (rOf cI l) sep=jn tyOk tyT sep l:=by simp only [qvr,qj3,qlN,qvS hs hn hsep]; simp
theorem qL8 {l:List Int} (hs:∀ a ∈ l,tyS a) (hn:l.length≤100000) {sep:Txt} (hsep:sep.length≤10):qvr (rOf cI l) sep=l.all tyOk:=by simp only [qvr,qj3,qlN,qvS hs hn hsep]; simp
theorem qqN {d:De} (h:deS d):qrd d.1 d.2.1 (rOf cI d.2.2)=some (.tup [.str (deT d),.bool (deOk d)]):=by
 have j1:=qLq (l:=d.2.2) (fun _ _=>trivial) (by have:=h.2; omega) (sep:=[44,32]) (by decide)
 have j2:=qMK (l:=d.2.2) (fun _ _=>trivial) (by have:=h.2; omega) (sep:=[44,32]) (by decide)
 have j3:=qL8 (l:=d.2.2) (fun _ _=>trivial) (by have:=h.2; omega) (sep:=[44,32]) (by decide)
 have hj:=qnn (ok:=tyOk) (T:=tyT) (M:=3) [44,32] d.2.2 12 h.2 (fun t _=>qqb t)
 have hb:d.1.length≤65536:=Nat.le_trans h.1 (by decide)
 have hn:=h.1
 simp at hj
 unfold qrd qsD deT deOk
 simp only [qaz,j1,j2,j3,qoP hb,qt6 hb]
 cases d.2.1 with
 | true =>
  have o1:qa2 [98,97,115,101,32] d.1=true:=qbH (by simp; omega)
  have o2:qa2 (sApp [98,97,115,101,32] d.1) [40]=true:=qbH (by simp; omega)
  have o3:qa2 (sApp (sApp [98,97,115,101,32] d.1) [40]) (jn tyOk tyT [44,32] d.2.2)=true:=qbH (by simp; omega)
  have o4:qa2 (sApp (sApp (sApp [98,97,115,101,32] d.1) [40]) (jn tyOk tyT [44,32] d.2.2)) [41,46]=true:=qbH (by simp; omega)
  simp only [o1,o2,o3,o4]
  cases d.2.2.all tyOk <;> simp
 | false =>
  have o1:qa2 [118,105,101,119,32] d.1=true:=qbH (by simp; omega)
  have o2:qa2 (sApp [118,105,101,119,32] d.1) [40]=true:=qbH (by simp; omega)
  have o3:qa2 (sApp (sApp [118,105,101,119,32] d.1) [40]) (jn tyOk tyT [44,32] d.2.2)=true:=qbH (by simp; omega)
  have o4:qa2 (sApp (sApp (sApp [118,105,101,119,32] d.1) [40]) (jn tyOk tyT [44,32] d.2.2)) [41,46]=true:=qbH (by simp; omega)
  simp only [o1,o2,o3,o4]
  cases d.2.2.all tyOk <;> simp
theorem qGb {d:De} (h:deS d):qgG d.1 d.2.1 (rOf cI d.2.2)=true:=by simp only [qkJ,qgG,qis,qqN h]; simp
theorem qGV {d:De} (h:deS d):qis d.1 d.2.1 (rOf cI d.2.2)=deT d:=by simp only [qkJ,qgG,qis,qqN h]; simp
theorem qGd {d:De} (h:deS d):qkJ d.1 d.2.1 (rOf cI d.2.2)=deOk d:=by simp only [qkJ,qgG,qis,qqN h]; simp
theorem qt1 {p:Pa} (h:paS p):qvA p.1 p.2=some (.tup [.str (paT p),.bool (paOk p)]):=by
 have hb:p.1.length≤65536:=Nat.le_trans h (by decide)
 have hn:p.1.length≤300:=h
 have ht:=qqb p.2
 have k1:=quk (t:=p.2) trivial
 have k2:=qth (t:=p.2) trivial
 have k3:=qsV (t:=p.2) trivial
 unfold qvA qxe paT paOk
 simp only [k1,k2,k3,qxs hb,qEi hb]
 rw [qbH (by simp; omega),qbH (by simp; omega)]
 cases tyOk p.2 <;> simp
theorem qFg {p:Pa} (h:paS p):qiY p.1 p.2=true:=by simp only [qpN,qiY,qjJ,qt1 h]; simp
theorem qDD {p:Pa} (h:paS p):qjJ p.1 p.2=paT p:=by simp only [qpN,qiY,qjJ,qt1 h]; simp
theorem qEz {p:Pa} (h:paS p):qpN p.1 p.2=paOk p:=by simp only [qpN,qiY,qjJ,qt1 h]; simp
theorem qt4 {a:Ac} (h:acS a):qvi a.1 a.2.1 (rOf cM a.2.2)=some (.tup [.str (acT a),.bool (acOk a)]):=by
 have h:atS a.2:=h
 have e1:=qtZ h
 have e2:=qt0 h
 have e3:=qsK h
 have l1:=qnk h
 unfold qvi qv9 acT acOk
 simp only [qaz,e1,e2,e3]
 rw [qbH (a:=[43]) (by simp; omega),qbH (a:=[45]) (by simp; omega)]
 cases a.1 <;> simp
theorem qBw {a:Ac} (h:acS a):qjy a.1 a.2.1 (rOf cM a.2.2)=true:=by simp only [qqu,qjy,qjP,qt4 h]; simp
theorem qBM {a:Ac} (h:acS a):qjP a.1 a.2.1 (rOf cM a.2.2)=acT a:=by simp only [qqu,qjy,qjP,qt4 h]; simp
theorem qBm {a:Ac} (h:acS a):qqu a.1 a.2.1 (rOf cM a.2.2)=acOk a:=by simp only [qqu,qjy,qjP,qt4 h]; simp
theorem qx0 {l:List Pa} (hs:∀ a ∈ l,paS a) (hn:l.length≤100000) {sep:Txt} (hsep:sep.length≤10):qCa (rOf cP l) sep=some (.tup [.str (jn paOk paT sep l),.bool (l.all paOk)]):=by
 have hl:=qdY (l:=l) l.length (Nat.le_refl _) (V:=fun i b=>qjH [.str sep,.fn 85 [],.sl (rOf cS b) (.tok 0),.sl (rOf cP l) .non,.int .i64 (l.length:Nat),.int .i64 (i:Nat)] ⟨[],[(b.length,1,9)],[]⟩) paOk paT (fun b=>some (.exit 0,[.str sep,.sl (rOf cS b) (.tok 0)],⟨[],[(b.length,1,9)],[]⟩)) (fun r=>∃ k:Nat,r=some (.ret,[.str [],.bool false],⟨[],[(k,1,9)],[]⟩)) ?_ ?_ ?_
 ·rw [List.take_length] at hl
  obtain ⟨h1,h2⟩:=hl
  have x0:xLen (rOf cP l)=(l.length:Nat):=by simp
  unfold qCa qEC jn
  rw [x0]
  cases ha:l.all paOk with
  | true =>
   have h':qjB sep [] (rOf cP l) (l.length:Nat) 0 0=_:=h1 ha
   have o:qdZ (l.map paT) sep=true:=by
    rw [qbF]
    have:=qeK (M:=304) sep (l.map paT) (fun x hx=>by
     obtain ⟨a,ha,rfl⟩:=List.mem_map.1 hx
     exact qwM (hs a ha))
    have h3:(l.map paT).length * (304+sep.length)≤100000 * (304+10):=Nat.mul_le_mul (by simpa using hn) (by omega)
    exact ⟨by simp; omega,by omega⟩
   simp only [qlf,qcL,qok,qop,qnV,qon,ql8,qdh,h']
   rw [qbF] at o
   simp [o.2]
   omega
  | false =>
   obtain ⟨k,hk⟩:=h2 ha
   have h':qjB sep [] (rOf cP l) (l.length:Nat) 0 0=_:=hk
   simp only [qlf,qcL,qok,qop,qnV,qon,ql8,qdh,h']
   simp
 ·intro i b a hb hi hi2 ha ho
  have hm:paS a:=hs a (ha ▸ List.getElem_mem hi)
  have q1:iLt (i:Int) (l.length:Nat)=true:=by simp; omega
  have q3:qaw (i:Int)=true:=by simp
  have q4:qbM [PV.str [],.int .i64 0] (rOf cP l) (nNat (i:Int))=true:=by simp; omega
  have w:=qbw (i:=i) (by omega)
  have e1:=qFg hm
  have e2:=qDD hm
  have e3:=qEz hm
  rw [ho] at e3
  have x0:xStr (rOf cP l) (nNat (i:Int)) 0=a.1:=by simp [hi,ha]
  have x1:xInt (rOf cP l) (nNat (i:Int)) 1=a.2:=by simp [hi,ha]
  have o1:∀ c,qaP (rOf cS b) [c] 16=true:=fun c=>by simp; omega
  have o2:∀ t:Txt,qaO [[PV.str t]] 1=true:=fun t=>by simp [one]
  have o3:qaC (rOf cS b) 1=true:=qeU _
  have o4:nEq b.length (nXs (rOf cS b))=true:=by simp
  have o5:bNot true=false:=rfl
  show qjH [.str sep,.fn 85 [],.sl (rOf cS b) (.tok 0),.sl (rOf cP l) .non,.int .i64 (l.length:Nat),.int .i64 (i:Nat)] ⟨[],[(b.length,1,9)],[]⟩=qjH [.str sep,.fn 85 [],.sl (rOf cS (b++[paT a])) (.tok 0),.sl (rOf cP l) .non,.int .i64 (l.length:Nat),.int .i64 ((i+1:Nat):Int)] ⟨[],[((b++[paT a]).length,1,9)],[]⟩
  rw [qD1]
  simp only [qrb,q1,q3,q4,x0,x1,qaz,e1,e2,e3,o1,o2,o3,o4,o5,w]
  simp
 ·intro i b a hb hi hi2 ha ho
  have hm:paS a:=hs a (ha ▸ List.getElem_mem hi)
  have q1:iLt (i:Int) (l.length:Nat)=true:=by simp; omega
  have q3:qaw (i:Int)=true:=by simp
  have q4:qbM [PV.str [],.int .i64 0] (rOf cP l) (nNat (i:Int))=true:=by simp; omega
  have w:=qbw (i:=i) (by omega)
  have e1:=qFg hm
  have e2:=qDD hm
  have e3:=qEz hm
  rw [ho] at e3
  have x0:xStr (rOf cP l) (nNat (i:Int)) 0=a.1:=by simp [hi,ha]
  have x1:xInt (rOf cP l) (nNat (i:Int)) 1=a.2:=by simp [hi,ha]
  have o5:bNot false=true:=rfl
  show ∃ k:Nat,qjH [.str sep,.fn 85 [],.sl (rOf cS b) (.tok 0),.sl (rOf cP l) .non,.int .i64 (l.length:Nat),.int .i64 (i:Nat)] ⟨[],[(b.length,1,9)],[]⟩=_
  refine ⟨b.length,?_⟩
  rw [qD1]
  simp only [qrb,q1,q3,q4,x0,x1,qaz,e1,e2,e3,o5]
  simp
 ·intro b hb
  have q1:iLt (l.length:Nat) (l.length:Nat)=false:=by simp
  show qjH [.str sep,.fn 85 [],.sl (rOf cS b) (.tok 0),.sl (rOf cP l) .non,.int .i64 (l.length:Nat),.int .i64 (l.length:Nat)] ⟨[],[(b.length,1,9)],[]⟩=_
  rw [qD1]
  simp only [qrb,q1]
  simp
theorem qL9 {l:List Pa} (hs:∀ a ∈ l,paS a) (hn:l.length≤100000) {sep:Txt} (hsep:sep.length≤10):qmJ (rOf cP l) sep=true:=by simp only [quB,qmJ,qgD,qx0 hs hn hsep]; simp
theorem qMh {l:List Pa} (hs:∀ a ∈ l,paS a) (hn:l.length≤100000) {sep:Txt} (hsep:sep.length≤10):qgD (rOf cP l) sep=jn paOk paT sep l:=by simp only [quB,qmJ,qgD,qx0 hs hn hsep]; simp
theorem qLR {l:List Pa} (hs:∀ a ∈ l,paS a) (hn:l.length≤100000) {sep:Txt} (hsep:sep.length≤10):quB (rOf cP l) sep=l.all paOk:=by simp only [quB,qmJ,qgD,qx0 hs hn hsep]; simp
theorem qxQ {l:List Ac} (hs:∀ a ∈ l,acS a) (hn:l.length≤100000) {sep:Txt} (hsep:sep.length≤10):qEt (rOf cAc l) sep=some (.tup [.str (jn acOk acT sep l),.bool (l.all acOk)]):=by
 have hl:=qdY (l:=l) l.length (Nat.le_refl _) (V:=fun i b=>qjS [.str sep,.fn 87 [],.sl (rOf cS b) (.tok 0),.sl (rOf cAc l) .non,.int .i64 (l.length:Nat),.int .i64 (i:Nat)] ⟨[],[(b.length,1,9)],[]⟩) acOk acT (fun b=>some (.exit 0,[.str sep,.sl (rOf cS b) (.tok 0)],⟨[],[(b.length,1,9)],[]⟩)) (fun r=>∃ k:Nat,r=some (.ret,[.str [],.bool false],⟨[],[(k,1,9)],[]⟩)) ?_ ?_ ?_
 ·rw [List.take_length] at hl
  obtain ⟨h1,h2⟩:=hl
  have x0:xLen (rOf cAc l)=(l.length:Nat):=by simp
  unfold qEt qDK jn
  rw [x0]
  cases ha:l.all acOk with
  | true =>
   have h':qjV sep [] (rOf cAc l) (l.length:Nat) 0 0=_:=h1 ha
   have o:qdZ (l.map acT) sep=true:=by
    rw [qbF]
    have:=qeK (M:=14001) sep (l.map acT) (fun x hx=>by
     obtain ⟨a,ha,rfl⟩:=List.mem_map.1 hx
     exact qxk (hs a ha))
    have h3:(l.map acT).length * (14001+sep.length)≤100000 * (14001+10):=Nat.mul_le_mul (by simpa using hn) (by omega)
    exact ⟨by simp; omega,by omega⟩
   simp only [ql2,qcG,qoS,qoD,qom,qoB,qlj,qda,h']
   rw [qbF] at o
   simp [o.2]
   omega
  | false =>
   obtain ⟨k,hk⟩:=h2 ha
   have h':qjV sep [] (rOf cAc l) (l.length:Nat) 0 0=_:=hk
   simp only [ql2,qcG,qoS,qoD,qom,qoB,qlj,qda,h']
   simp
 ·intro i b a hb hi hi2 ha ho
  have hm:acS a:=hs a (ha ▸ List.getElem_mem hi)
  have q1:iLt (i:Int) (l.length:Nat)=true:=by simp; omega
  have q3:qaw (i:Int)=true:=by simp
  have q4:qbM [PV.bool false,.str [],.sl [] .full] (rOf cAc l) (nNat (i:Int))=true:=by simp; omega
  have w:=qbw (i:=i) (by omega)
  have e1:=qBw hm
  have e2:=qBM hm
  have e3:=qBm hm
  rw [ho] at e3
  have x0:qcm (rOf cAc l) (nNat (i:Int)) 0=a.1:=by simp [hi,ha]
  have x1:xStr (rOf cAc l) (nNat (i:Int)) 1=a.2.1:=by simp [hi,ha]
  have x2:xRow (rOf cAc l) (nNat (i:Int)) 2=rOf cM a.2.2:=by simp [hi,ha]
  have o1:∀ c,qaP (rOf cS b) [c] 16=true:=fun c=>by simp; omega
  have o2:∀ t:Txt,qaO [[PV.str t]] 1=true:=fun t=>by simp [one]
  have o3:qaC (rOf cS b) 1=true:=qeU _
  have o4:nEq b.length (nXs (rOf cS b))=true:=by simp
  have o5:bNot true=false:=rfl
  show qjS [.str sep,.fn 87 [],.sl (rOf cS b) (.tok 0),.sl (rOf cAc l) .non,.int .i64 (l.length:Nat),.int .i64 (i:Nat)] ⟨[],[(b.length,1,9)],[]⟩=qjS [.str sep,.fn 87 [],.sl (rOf cS (b++[acT a])) (.tok 0),.sl (rOf cAc l) .non,.int .i64 (l.length:Nat),.int .i64 ((i+1:Nat):Int)] ⟨[],[((b++[acT a]).length,1,9)],[]⟩
  rw [qFi]
  simp only [qoW,q1,q3,q4,x0,x1,x2,qaz,e1,e2,e3,o1,o2,o3,o4,o5,w]
  simp
 ·intro i b a hb hi hi2 ha ho
  have hm:acS a:=hs a (ha ▸ List.getElem_mem hi)
  have q1:iLt (i:Int) (l.length:Nat)=true:=by simp; omega
  have q3:qaw (i:Int)=true:=by simp
  have q4:qbM [PV.bool false,.str [],.sl [] .full] (rOf cAc l) (nNat (i:Int))=true:=by simp; omega
  have w:=qbw (i:=i) (by omega)
  have e1:=qBw hm
  have e2:=qBM hm
  have e3:=qBm hm
  rw [ho] at e3
  have x0:qcm (rOf cAc l) (nNat (i:Int)) 0=a.1:=by simp [hi,ha]
  have x1:xStr (rOf cAc l) (nNat (i:Int)) 1=a.2.1:=by simp [hi,ha]
  have x2:xRow (rOf cAc l) (nNat (i:Int)) 2=rOf cM a.2.2:=by simp [hi,ha]
  have o5:bNot false=true:=rfl
  show ∃ k:Nat,qjS [.str sep,.fn 87 [],.sl (rOf cS b) (.tok 0),.sl (rOf cAc l) .non,.int .i64 (l.length:Nat),.int .i64 (i:Nat)] ⟨[],[(b.length,1,9)],[]⟩=_
  refine ⟨b.length,?_⟩
  rw [qFi]
  simp only [qoW,q1,q3,q4,x0,x1,x2,qaz,e1,e2,e3,o5]
  simp
 ·intro b hb
  have q1:iLt (l.length:Nat) (l.length:Nat)=false:=by simp
  show qjS [.str sep,.fn 87 [],.sl (rOf cS b) (.tok 0),.sl (rOf cAc l) .non,.int .i64 (l.length:Nat),.int .i64 (l.length:Nat)] ⟨[],[(b.length,1,9)],[]⟩=_
  rw [qFi]
  simp only [qoW,q1]
  simp
theorem qMl {l:List Ac} (hs:∀ a ∈ l,acS a) (hn:l.length≤100000) {sep:Txt} (hsep:sep.length≤10):qnb (rOf cAc l) sep=true:=by simp only [qva,qnb,qiG,qxQ hs hn hsep]; simp
theorem qLK {l:List Ac} (hs:∀ a ∈ l,acS a) (hn:l.length≤100000) {sep:Txt} (hsep:sep.length≤10):qiG (rOf cAc l) sep=jn acOk acT sep l:=by simp only [qva,qnb,qiG,qxQ hs hn hsep]; simp
theorem qLD {l:List Ac} (hs:∀ a ∈ l,acS a) (hn:l.length≤100000) {sep:Txt} (hsep:sep.length≤10):qva (rOf cAc l) sep=l.all acOk:=by simp only [qva,qnb,qiG,qxQ hs hn hsep]; simp
theorem qxw {o:En} (h:enS o):qC2 o.1 (rOf cP o.2.1) (rOf cAc o.2.2)=some (.tup [.str (enT o),.bool (enOk o)]):=by
 have j1:=qL9 h.2.1.2 (by have:=h.2.1.1; omega) (sep:=[44,32]) (by decide)
 have j2:=qMh h.2.1.2 (by have:=h.2.1.1; omega) (sep:=[44,32]) (by decide)
 have j3:=qLR h.2.1.2 (by have:=h.2.1.1; omega) (sep:=[44,32]) (by decide)
 have k1:=qMl h.2.2.2 (by have:=h.2.2.1; omega) (sep:=[44,32]) (by decide)
 have k2:=qLK h.2.2.2 (by have:=h.2.2.1; omega) (sep:=[44,32]) (by decide)
 have k3:=qLD h.2.2.2 (by have:=h.2.2.1; omega) (sep:=[44,32]) (by decide)
 have hj:=qnn (ok:=paOk) (T:=paT) (M:=304) [44,32] o.2.1 12 h.2.1.1 (fun p hp=>qwM (h.2.1.2 p hp))
 have hk:=qnn (ok:=acOk) (T:=acT) (M:=14001) [44,32] o.2.2 8 h.2.2.1 (fun a ha=>qxk (h.2.2.2 a ha))
 have hb:o.1.length≤65536:=Nat.le_trans h.1 (by decide)
 have hn:=h.1
 simp at hj hk
 unfold qC2 qBZ enT enOk
 simp only [qaz,j1,j2,j3,k1,k2,k3,qoP hb,qt6 hb]
 by_cases hc:o.2.2=[]
 ·rw [hc] at hk ⊢
  have t:iLt 0 (xLen (rOf cAc []))=false:=rfl
  have o1:qa2 [111,110,32] o.1=true:=qbH (by simp; omega)
  have o2:qa2 (sApp [111,110,32] o.1) [40]=true:=qbH (by simp; omega)
  have o3:qa2 (sApp (sApp [111,110,32] o.1) [40]) (jn paOk paT [44,32] o.2.1)=true:=qbH (by simp; omega)
  have o4:qa2 (sApp (sApp (sApp [111,110,32] o.1) [40]) (jn paOk paT [44,32] o.2.1)) [41]=true:=qbH (by simp; omega)
  have o5:qa2 (sApp (sApp (sApp (sApp [111,110,32] o.1) [40]) (jn paOk paT [44,32] o.2.1)) [41]) (jn acOk acT [44,32] [])=true:=qbH (by simp; omega)
  have o6:qa2 (sApp (sApp (sApp (sApp (sApp [111,110,32] o.1) [40]) (jn paOk paT [44,32] o.2.1)) [41]) (jn acOk acT [44,32] [])) [46]=true:=qbH (by simp; omega)
  simp only [t,o1,o2,o3,o4,o5,o6]
  cases o.2.1.all paOk <;> simp [jn,qlV]
 ·have t:iLt 0 (xLen (rOf cAc o.2.2))=true:=by simp; exact List.length_pos_iff.2 hc
  have o0:qa2 [58,32] (jn acOk acT [44,32] o.2.2)=true:=qbH (by simp; omega)
  have o1:qa2 [111,110,32] o.1=true:=qbH (by simp; omega)
  have o2:qa2 (sApp [111,110,32] o.1) [40]=true:=qbH (by simp; omega)
  have o3:qa2 (sApp (sApp [111,110,32] o.1) [40]) (jn paOk paT [44,32] o.2.1)=true:=qbH (by simp; omega)
  have o4:qa2 (sApp (sApp (sApp [111,110,32] o.1) [40]) (jn paOk paT [44,32] o.2.1)) [41]=true:=qbH (by simp; omega)
  have o5:qa2 (sApp (sApp (sApp (sApp [111,110,32] o.1) [40]) (jn paOk paT [44,32] o.2.1)) [41]) (sApp [58,32] (jn acOk acT [44,32] o.2.2))=true:=qbH (by simp; omega)
  have o6:qa2 (sApp (sApp (sApp (sApp (sApp [111,110,32] o.1) [40]) (jn paOk paT [44,32] o.2.1)) [41]) (sApp [58,32] (jn acOk acT [44,32] o.2.2))) [46]=true:=qbH (by simp; omega)
  simp only [t,o0,o1,o2,o3,o4,o5,o6]
  cases o.2.1.all paOk <;> cases o.2.2.all acOk <;> simp [hc]
theorem qH3 {o:En} (h:enS o):qj0 o.1 (rOf cP o.2.1) (rOf cAc o.2.2)=true:=by simp only [qrl,qj0,qoY,qxw h]; simp
theorem qHZ {o:En} (h:enS o):qoY o.1 (rOf cP o.2.1) (rOf cAc o.2.2)=enT o:=by simp only [qrl,qj0,qoY,qxw h]; simp
theorem qHS {o:En} (h:enS o):qrl o.1 (rOf cP o.2.1) (rOf cAc o.2.2)=enOk o:=by simp only [qrl,qj0,qoY,qxw h]; simp
def tdS (ok:Bool) (s:Txt):Txt:=if ok then s else []
def tdE (ok:Bool):Int:=if ok then 0 else 140
theorem qpj (s:Txt) (ok:Bool):qqz s ok=some (.tup [.str (tdS ok s),.int .i64 (tdE ok)]):=by
 unfold qqz qsE tdS tdE
 cases ok <;> rfl
theorem qzO (s:Txt) (ok:Bool):qfI s ok=true:=by simp only [qfI,qit,qiC,qpj]; simp
theorem qyH (s:Txt) (ok:Bool):qiC s ok=tdS ok s:=by simp only [qfI,qit,qiC,qpj]; simp
theorem qzJ (s:Txt) (ok:Bool):qit s ok=tdE ok:=by simp only [qfI,qit,qiC,qpj]; simp
theorem qqd {x:Ru} (h:ruS x):qpv x.1.1 (rOf cM x.1.2) (rOf cL x.2)=some (.tup [.str (tdS (ruOk x) (ruT x)),.int .i64 (tdE (ruOk x))]):=by
 have e1:=qyr h
 have e2:=qyB h
 have e3:=qzl h
 unfold qpv qtF
 simp only [qaz,e1,e2,e3,qzO,qyH,qzJ]
 rfl
theorem qG2 {x:Ru} (h:ruS x):qeW x.1.1 (rOf cM x.1.2) (rOf cL x.2)=true:=by simp only [qeW,qg5,qhh,qqd h]; simp
theorem qFP {x:Ru} (h:ruS x):qhh x.1.1 (rOf cM x.1.2) (rOf cL x.2)=tdS (ruOk x) (ruT x):=by simp only [qeW,qg5,qhh,qqd h]; simp
theorem qF5 {x:Ru} (h:ruS x):qg5 x.1.1 (rOf cM x.1.2) (rOf cL x.2)=tdE (ruOk x):=by simp only [qeW,qg5,qhh,qqd h]; simp
theorem qxt {o:En} (h:enS o):qEB o.1 (rOf cP o.2.1) (rOf cAc o.2.2)=some (.tup [.str (tdS (enOk o) (enT o)),.int .i64 (tdE (enOk o))]):=by
 have e1:=qH3 h
 have e2:=qHZ h
 have e3:=qHS h
 unfold qEB qEO
 simp only [qaz,e1,e2,e3,qzO,qyH,qzJ]
 rfl
theorem qLP {o:En} (h:enS o):qif o.1 (rOf cP o.2.1) (rOf cAc o.2.2)=true:=by simp only [qif,qtV,qtY,qxt h]; simp
theorem qMw {o:En} (h:enS o):qtY o.1 (rOf cP o.2.1) (rOf cAc o.2.2)=tdS (enOk o) (enT o):=by simp only [qif,qtV,qtY,qxt h]; simp
theorem qME {o:En} (h:enS o):qtV o.1 (rOf cP o.2.1) (rOf cAc o.2.2)=tdE (enOk o):=by simp only [qif,qtV,qtY,qxt h]; simp
end Go.Pv
set_option linter.unusedSimpArgs false
set_option linter.unusedVariables false
namespace Go.Pv
open Go.RowKit
theorem SimP.of_clos {P:Program} {gl:Gl} {f:FuncId} {D:List PV→Store→Option (PV × Store)} (hS:SimS P gl f D) {F:List PV→Option PV}
  (h:∀ args x,F args=some x→∃ (g:FuncId) (cs:List PV) (t:TypeId),D args ⟨[],[],[]⟩=some (.fn g [.ptr 0 0],⟨[cs],[],[t]⟩)∧x=.fn g [.ref (qfe cs)]):SimP P gl f F where
 ent:=hS.ent
 run:=by
  intro args x hx H w vs hB hob htk hgl hrel
  obtain ⟨g,cs,t,hD,rfl⟩:=h args x hx
  have hok:Ok gl H ⟨[],[],[]⟩ w:=⟨by rw [hB]; exact Nat.le_refl _,fun b o e=>⟨by rw [hB]; exact qax (hgl b o e),hgl b o e⟩,by simp [hob],fun id b cs e=>by simp [hob] at e,fun i j b e=>by simp [hob] at e,by simp [htk],fun t T e=>by simp [htk] at e,fun t u T U e=>by simp [htk] at e,rfl,fun id b T cs e=>by simp [hob] at e⟩
  refine (hS.run args _ _ _ hD H w vs hok hrel).mono ?_
  rintro e w' ⟨v,rfl,H',hev,hok',hr⟩
  have hbel:Below w.heap.size w w':=⟨hev.os,hev.tape,hev.output,hev.size,fun b hlt=>hev.block b (by rw [hB]; exact hlt)⟩
  refine ⟨v,rfl,⟨hbel,hev.dr⟩,?_⟩
  cases hr with
  | fn _ _ us hus =>
   cases hus with
   | cons _ u _ us hu hus =>
    cases hus
    cases hu with
    | ptr _ _ b hb =>
     obtain ⟨hBb,ws,ext,T,he,hr⟩:=hok'.obj 0 b cs hb rfl
     have hp:∀ b off,H'.prot w' b off→({ H with aux:=fun _ _=>False }:Gh).prot w' b off∧∀ s,w'.cell? ⟨b,off,s⟩=w'.cell? ⟨b,off,s⟩:=fun b off hp=>⟨⟨hp.1,fun hB=>by
      have:=hp.2.1
      rw [hev.B,hev.base] at this
      exact this hB,by simp [hob],by simp [htk]⟩,fun _=>rfl⟩
     refine .fn g _ _ (.cons _ _ _ _ (.ref ⟨b,0,none⟩ _ ws (qgA hp hr) (fun j u hj=>?_)) .nil)
     have hlt:=qax he
     have hc:w'.cell? ⟨b,0+j,none⟩=some u:=by
      rw [cell_of_row w' b (0+j) (ws++ext).toArray T (0,0) he]
      simpa using qsW hj
     rw [qcn]
     refine ⟨.inl ⟨hlt,fun hlt=>?_,by simp [hob],by simp [htk]⟩,hc⟩
     have h1:H.B≤b:=by rw [← hev.B]; exact hBb
     have h2:b < H.B:=hlt
     omega
end Go.Pv
