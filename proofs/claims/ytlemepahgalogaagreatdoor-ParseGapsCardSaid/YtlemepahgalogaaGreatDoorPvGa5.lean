/- Part 5 of the proof: pure values for the machine's values, what functions compute over them, and laws of what is computed. Conditions: none beyond each theorem's own premises. -/
import Derived.Test.YtlemepahgalogaaGreatDoorPvGa4
import Derived.Test.YtlemepahgalogaaGreatDoorCards
import Derived.Test.YtlemepahgalogaaGreatDoorTie
noncomputable section
set_option maxHeartbeats 4000000
set_option maxRecDepth 200000
set_option linter.unusedSimpArgs false
set_option linter.unusedVariables false
namespace Go.Pv
open Go Go.Proofs Go.RowKit
def smI (c:Int):Bool:=decide (97≤c)&&decide (c≤122)
def grI (c:Int):Bool:=decide (65≤c)&&decide (c≤90)
def dgI (c:Int):Bool:=decide (48≤c)&&decide (c≤57)
def inI (c:Int):Bool:=smI c || grI c || dgI c || decide (c=95)
theorem qCv (b:UInt8):smI (b.toNat:Int)=qe6 b:=by unfold smI qe6;congr 1<;>(apply decide_eq_decide.2;omega)
theorem qDi (b:UInt8):grI (b.toNat:Int)=qiK b:=by unfold grI qiK;congr 1<;>(apply decide_eq_decide.2;omega)
theorem qc0 (b:UInt8):dgI (b.toNat:Int)=qat b:=by unfold dgI qat;congr 1<;>(apply decide_eq_decide.2;omega)
theorem qmz (b:UInt8):inI (b.toNat:Int)=innB b:=by
 unfold inI innB;rw [qCv,qDi,qc0]
 congr 1
 apply decide_eq_decide.2;omega
theorem qu1 (c:Int):qp7 c=some (.bool (dgI c)):=by
 unfold qp7 qtF dgI
 try dsimp only
 by_cases h:(48:Int)≤c<;>simp [h]
@[simp] theorem qcS (c:Int):qb0 c=true:=by simp [qb0,qbj,qu1]
@[simp] theorem ldigit_v (c:Int):qbj c=dgI c:=by simp [qbj,qu1]
theorem qpk (c:Int):qkc c=some (.bool (inI c)):=by
 unfold qkc qlf inI smI grI
 try dsimp only
 by_cases h1:(97:Int)≤c<;>by_cases h2:c≤122<;>by_cases h3:(65:Int)≤c<;>by_cases h4:c≤90<;>by_cases h5:c=95<;>simp [h1,h2,h3,h4,h5]
@[simp] theorem lfollows_is (c:Int):qcD c=true:=by simp [qcD,qcB,qpk]
@[simp] theorem lfollows_v (c:Int):qcB c=inI c:=by simp [qcB,qpk]
theorem qFS (s:qU) (hs:s.length < 9223372036854775807):∀ (m i:Nat),i+m=s.length→qet [.str s,.fn 172 [],.int .i64 (i:Nat)] ⟨[],[],[]⟩=some (.exit 0,[.int .i64 ((i+runL innB (s.drop i):Nat):Int)],⟨[],[],[]⟩):=by
 intro m
 induction m with
 |zero =>
  intro i hi;rw [qFU,List.drop_eq_nil_of_le (by omega)]
  have:¬ (i:Int) < s.length:=by omega
  simp [qnI,runL,this]
 |succ m ih =>
  intro i hi;obtain⟨b,hb⟩:=qd0 (l:=s) (i:=i) (by omega)
  have hbe:=(List.getElem?_eq_some_iff.1 hb).2;have w:=qbR (i:=i) (by omega)
  have hlt:i < s.length:=by omega
  have h1:=ih (i+1) (by omega)
  rw [qaO hb,qFU];cases hc:innB b with
  |true =>
   have e:i+(runL innB (s.drop (i+1))+1)=i+1+runL innB (s.drop (i+1)):=by omega
   simp only [runL,hc,if_true,e];rw [← h1];simp [qnI,hlt,hbe,qmz,hc,w]
  |false=>simp [qnI,hlt,hbe,qmz,hc,runL]
theorem qEr (s:qU) (hs:s.length < 9223372036854775807):∀ (m i:Nat),i+m=s.length→qet [.str s,.fn 173 [],.int .i64 (i:Nat)] ⟨[],[],[]⟩=some (.exit 0,[.int .i64 ((i+runL qat (s.drop i):Nat):Int)],⟨[],[],[]⟩):=by
 intro m
 induction m with
 |zero =>
  intro i hi;rw [qC2,List.drop_eq_nil_of_le (by omega)]
  have:¬ (i:Int) < s.length:=by omega
  simp [qig,runL,this]
 |succ m ih =>
  intro i hi;obtain⟨b,hb⟩:=qd0 (l:=s) (i:=i) (by omega)
  have hbe:=(List.getElem?_eq_some_iff.1 hb).2;have w:=qbR (i:=i) (by omega)
  have hlt:i < s.length:=by omega
  have h1:=ih (i+1) (by omega)
  rw [qaO hb,qC2];cases hc:qat b with
  |true =>
   have e:i+(runL qat (s.drop (i+1))+1)=i+1+runL qat (s.drop (i+1)):=by omega
   simp only [runL,hc,if_true,e];rw [← h1];simp [qig,hlt,hbe,qc0,hc,w]
  |false=>simp [qig,hlt,hbe,qc0,hc,runL]
theorem qCW {s:List UInt8} (hs:s.length < 9223372036854775807):qDV s=some (.int .i64 (runL innB s:Nat)):=by
 have h:=qFS s hs s.length 0 (by omega)
 simp at h
 unfold qDV qAW
 try dsimp only
 simp [qsF,qxj,qCb,h]
theorem qNm {s:List UInt8} (hs:s.length < 9223372036854775807):qpF s=true:=by simp [qpF,qnc,qCW hs]
theorem qP6 {s:List UInt8} (hs:s.length < 9223372036854775807):qnc s=(runL innB s:Nat):=by simp [qnc,qCW hs]
theorem qzr {s:List UInt8} (hs:s.length < 9223372036854775807):qwd s=some (.int .i64 (runL qat s:Nat)):=by
 have h:=qEr s hs s.length 0 (by omega)
 simp at h
 unfold qwd qvT
 try dsimp only
 simp [qo4,qp0,qxE,h]
theorem qLa {s:List UInt8} (hs:s.length < 9223372036854775807):qiX s=true:=by simp [qiX,qb9,qzr hs]
theorem qMP {s:List UInt8} (hs:s.length < 9223372036854775807):qb9 s=(runL qat s:Nat):=by simp [qb9,qzr hs]
def qOut (i n:Nat):Option (PExit×List PV×Store):=if n=0 then some (.exit 0,[],⟨[],[],[]⟩) else some (.ret,[.int .i64 ((i+n:Nat):Int)],⟨[],[],[]⟩)
theorem qkq (i n:Nat):qOut i (incN n)=qOut (i+1) n:=by
 unfold qOut incN;by_cases h:n=0
 ·simp [h]
 ·simp [h];omega
theorem qzw (s:qU) (hs:s.length < 9223372036854775800):∀ (m i:Nat),s.length≤i+m→i≤s.length+1→qbI [.str s,.int .i64 (i:Nat)] ⟨[],[],[]⟩=qOut i (quoE false (s.drop i)):=by
 have hend:∀ i:Nat,s.length≤i→qbI [.str s,.int .i64 (i:Nat)] ⟨[],[],[]⟩=some (.exit 0,[],⟨[],[],[]⟩):=fun i hi=>by
  rw [qu6];have:¬ (i:Int) < s.length:=by omega
  simp [qdy,this]
 intro m
 induction m with
 |zero =>
  intro i hi _;rw [hend i (by omega),List.drop_eq_nil_of_le (by omega)]
  simp [quoE,qOut]
 |succ m ih =>
  intro i hi hi2;by_cases hlt:i < s.length
  ·obtain⟨b,hb⟩:=qd0 (l:=s) (i:=i) hlt;have hbe:=(List.getElem?_eq_some_iff.1 hb).2;have w:=qbR (i:=i) (by omega)
   have w2:=qbR (i:=i+1) (by omega)
   have h1:=ih (i+1) (by omega) (by omega)
   rw [qaO hb,qu6];simp only [quoE];by_cases hq:b.toNat=34
   ·rw [if_pos hq];simp [qdy,hlt,hbe,hq,w,qOut]
   ·rw [if_neg hq];have hq':¬ ((b.toNat:Int)=34):=by omega
    by_cases hp:b.toNat=92
    ·rw [if_pos hp,qkq];have e1:qbI [.str s,.int .i64 (iAdd .i64 (iAdd .i64 (i:Int) 1) 1)] ⟨[],[],[]⟩=qOut (i+1) (quoE true (s.drop (i+1))):=by
      rw [w,w2];by_cases hl2:i+1 < s.length
      ·obtain⟨c,hc⟩:=qd0 (l:=s) (i:=i+1) hl2;rw [qaO hc];simp only [quoE];rw [qkq];exact ih (i+1+1) (by omega) (by omega)
      ·rw [hend (i+1+1) (by omega),List.drop_eq_nil_of_le (by omega)]
       simp [quoE,qOut]
     rw [← e1];have t1:iLt (i:Int) (sLen s)=true:=by simp;omega
     have t2:qau s (i:Int)=true:=by simp;omega
     have t3:sAt s (i:Int)=92:=by simp [hbe,hlt,hp]
     simp only [qdy,t1,t2,t3];simp
    ·have hp':¬ ((b.toNat:Int)=92):=by omega
     rw [if_neg hp,qkq,← h1,← w];have t1:iLt (i:Int) (sLen s)=true:=by simp;omega
     have t2:qau s (i:Int)=true:=by simp;omega
     have t3:sAt s (i:Int)=b.toNat:=by simp [hbe,hlt]
     simp only [qdy,t1,t2,t3];simp [hq',hp']
  ·rw [hend i (by omega),List.drop_eq_nil_of_le (by omega)]
   simp [quoE,qOut]
theorem qsb {c:UInt8} {t:List UInt8} (hs:(c::t).length < 9223372036854775800):qmE (c::t)=some (.int .i64 (if quoL t=0 then 0 else ((quoL t+1:Nat):Int))):=by
 have h:=qzw (c::t) hs t.length 1 (by simp;omega) (by simp)
 simp only [List.drop_succ_cons,List.drop_zero] at h
 unfold qmE qn6
 try dsimp only
 unfold qOut at h
 rw [show quoE false t=quoL t from rfl] at h
 by_cases h0:quoL t=0
 ·rw [if_pos h0] at h ⊢;have h':qbI [.str (c::t),.int .i64 1] ⟨[],[],[]⟩=some (.exit 0,[],⟨[],[],[]⟩):=h;simp [qfs,qfq,qdG,qgi,h']
 ·rw [if_neg h0] at h ⊢;have h':qbI [.str (c::t),.int .i64 1] ⟨[],[],[]⟩=some (.ret,[.int .i64 ((1+quoL t:Nat):Int)],⟨[],[],[]⟩):=h;simp [qfs,qfq,qdG,qgi,h'];omega
theorem qIE:∀ t:qU,(Lib.indexByte t 10=-1∧gapL true t=t.length)∨∃ n:Nat,Lib.indexByte t 10=n∧n < t.length∧gapL true t=n+gapL false (t.drop n)
 |[]=>.inl ⟨rfl,rfl⟩
 |b::u=>by
  by_cases hb:b=10
  ·subst hb;refine .inr ⟨0,rfl,by simp,?_⟩
   simp [gapL,blB]
  ·have hb':(b == 10)=false:=by simpa using hb
   have hbn:b.toNat≠10:=fun h=>hb (UInt8.toNat.inj h)
   have e1:gapL true (b::u)=gapL true u+1:=by simp [gapL,hbn]
   rcases qIE u with⟨h1,h2⟩|⟨n,h1,h2,h3⟩
   ·refine .inl ⟨?_,by rw [e1,h2];rfl⟩
    simp [Lib.indexByte,hb',h1]
   ·refine .inr ⟨n+1,?_,by simpa using h2,?_⟩
    ·have:((n:Int) == -1)=false:=by simp
     simp [Lib.indexByte,hb',h1,this]
    ·rw [e1,h3];simp only [List.drop_succ_cons];omega
theorem qI3 {b:UInt8} (h:blB b=true) (t:qU):gapL false (b::t)=gapL false t+1:=by
 have:b.toNat≠37:=by
  intro e;simp [blB,e] at h
 simp [gapL,h,this]
theorem qIJ (s:qU) (hs:s.length < 9223372036854775800):∀ (m i:Nat),i+m=s.length→∃ e,(e=PExit.ret∨e=.exit 0)∧qkP [.str s,.int .i64 (i:Nat)] ⟨[],[],[]⟩=some (e,[.int .i64 ((i+gapL false (s.drop i):Nat):Int)],⟨[],[],[]⟩):=by
 intro m
 induction m using Nat.strongRecOn with
 |_ m ih =>
  intro i hi;by_cases hlt:i < s.length
  ·obtain⟨b,hb⟩:=qd0 (l:=s) (i:=i) hlt;have hbe:=(List.getElem?_eq_some_iff.1 hb).2;have w:=qbR (i:=i) (by omega)
   rw [qaO hb,qIH];by_cases hbl:blB b=true
   ·obtain⟨e,he,hv⟩:=ih (m - 1) (by omega) (i+1) (by omega)
    refine⟨e,he,?_⟩;rw [qI3 hbl];have hv':qkP [.str s,.int .i64 (iAdd .i64 (i:Int) 1)] ⟨[],[],[]⟩=some (e,[.int .i64 ((i+(gapL false (s.drop (i+1))+1):Nat):Int)],⟨[],[],[]⟩):=by
     rw [w,hv,show i+1+gapL false (s.drop (i+1))=i+(gapL false (s.drop (i+1))+1) from by omega]
    rw [← hv'];have hbl2:b.toNat=32∨b.toNat=9∨b.toNat=10∨b.toNat=13:=by simpa [blB,or_assoc] using hbl
    rcases hbl2 with h|h|h|h<;>simp [qhl,hlt,hbe,h]
   ·have hbl2:¬ (b.toNat=32∨b.toNat=9∨b.toNat=10∨b.toNat=13):=by simpa [blB,or_assoc] using hbl
    have n1:¬ ((b.toNat:Int)=32):=by omega
    have n2:¬ ((b.toNat:Int)=9):=by omega
    have n3:¬ ((b.toNat:Int)=10):=by omega
    have n4:¬ ((b.toNat:Int)=13):=by omega
    by_cases h37:b.toNat=37
    ·have e1:gapL false (b::s.drop (i+1))=gapL true (s.drop (i+1))+1:=by simp [gapL,h37]
     have e2:sSub s (nNat (i:Int)) (nLen s)=b::s.drop (i+1):=by
      simp only [qv7,qxQ,qGF,Int.toNat_natCast,List.take_length];exact qaO hb
     have hb10:(b == 10)=false:=by
      cases hq:b == 10 with
      |false=>rfl
      |true=>simp at hq;subst hq;simp at h37
     have e3:idxV (b::s.drop (i+1)) 10=if Lib.indexByte (s.drop (i+1)) 10 == -1 then -1 else Lib.indexByte (s.drop (i+1)) 10+1:=by
      show Lib.indexByte (b::s.drop (i+1)) 10=_
      simp only [Lib.indexByte,hb10,Bool.false_eq_true,if_false]
     rw [e1];rcases qIE (s.drop (i+1)) with⟨h1,h2⟩|⟨n,h1,h2,h3⟩
     ·refine⟨.ret,.inl rfl,?_⟩;have e4:idxV (b::s.drop (i+1)) 10=-1:=by rw [e3,h1];rfl
      have e5:i+(gapL true (s.drop (i+1))+1)=s.length:=by rw [h2];simp;omega
      rw [e5];have t1:iLt (i:Int) (sLen s)=true:=by simp;omega
      have t2:qau s (i:Int)=true:=by simp;omega
      have t3:sAt s (i:Int)=37:=by simp [hbe,hlt,h37]
      have t4:qa1 (qas (i:Int)) true (nNat (i:Int)) (nLen s) (nLen s)=true:=by simp;omega
      simp only [qhl,e2,e4,t1,t2,t3,t4];simp
     ·have e4:idxV (b::s.drop (i+1)) 10=((n+1:Nat):Int):=by
       rw [e3,h1];have:((n:Int) == -1)=false:=by simp
       rw [this];simp
      have hn:n < s.length - (i+1):=by simpa using h2
      obtain⟨e,he,hv⟩:=ih (m - (n+1)) (by omega) (i+(n+1)) (by omega)
      refine⟨e,he,?_⟩;have w2:iAdd .i64 (i:Int) ((n+1:Nat):Int)=((i+(n+1):Nat):Int):=qaD (by omega)
      have e6:i+(n+1)+gapL false (s.drop (i+(n+1)))=i+(gapL true (s.drop (i+1))+1):=by
       rw [h3,List.drop_drop,show i+1+n=i+(n+1) from by omega]
       omega
      rw [e6] at hv;have hge:¬ ((n+1:Nat):Int) < 0:=by omega
      have t1:iLt (i:Int) (sLen s)=true:=by simp;omega
      have t2:qau s (i:Int)=true:=by simp;omega
      have t3:sAt s (i:Int)=37:=by simp [hbe,hlt,h37]
      have t5:iLt ((n+1:Nat):Int) 0=false:=by simp;omega
      have t4:qa1 (qas (i:Int)) true (nNat (i:Int)) (nLen s) (nLen s)=true:=by simp;omega
      simp only [qhl,e2,e4,w2,t1,t2,t3,t4,t5];simpa using hv
    ·refine⟨.ret,.inl rfl,?_⟩;have n5:¬ ((b.toNat:Int)=37):=by omega
     have e1:gapL false (b::s.drop (i+1))=0:=by
      have:blB b=false:=by simpa using hbl
      simp [gapL,this,h37]
     rw [e1];simp [qhl,hlt,hbe,n1,n2,n3,n4,n5]
  ·refine⟨.exit 0,.inr rfl,?_⟩;rw [qIH,List.drop_eq_nil_of_le (by omega)]
   have:¬ (i:Int) < s.length:=by omega
   simp [qhl,gapL,this]
theorem qDa {s:List UInt8} (hs:s.length < 9223372036854775800):qDo s=some (.int .i64 (gapL false s:Nat)):=by
 obtain⟨e,he,h⟩:=qIJ s hs s.length 0 (by omega)
 simp at h
 unfold qDo qCr
 try dsimp only
 rcases he with rfl|rfl<;>simp [qtr,qty,qmG,qgC,qrK,h]
theorem qG2 {s:List UInt8} (hs:s.length < 9223372036854775800):qhL s=true:=by simp [qhL,qiI,qDa hs]
theorem qLP {s:List UInt8} (hs:s.length < 9223372036854775800):qiI s=(gapL false s:Nat):=by simp [qiI,qDa hs]
theorem qyL {s:List UInt8} (hs:s.length < 9223372036854775807) (k:Int):qfI s k=some (.tup [.agg [.int .i64 k,.str (s.take (runL innB s)),.int .i64 0,.int .i64 0,.str [],.int .i64 0],.bool (decide (runL innB s≤64))]):=by
 unfold qfI qx4
 try dsimp only
 have h:=qlj innB s;have e:iLe (runL innB s:Nat) 64=decide (runL innB s≤64):=by simp;omega
 rw [qP6 hs,qNm hs,e];have t:qa1 true (qas ((runL innB s:Nat):Int)) 0 (nNat ((runL innB s:Nat):Int)) (nLen s)=true:=by simp;omega
 rw [t];simp
theorem qCM {s:List UInt8} (hs:s.length < 9223372036854775807) (k:Int):qiT s k=true:=by simp [qiT,qlE,qlF,qhU,qhy,qhI,qgT,qkL,qyL hs]
def wTup (k:Int) (x:qU) (v:Vl) (p:Int) (b:Bool):PV:=.tup [.agg [.int .i64 k,.str x,.int .i64 v.1,.int .i64 v.2.1,.str v.2.2,.int .i64 p],.bool b]
theorem qIv {s:List UInt8} (hs:s.length < 9223372036854775807) (k:Int):(PV.tup [.agg [.int .i64 (qlE s k),.str (qlF s k),.int .i64 (qhU s k),.int .i64 (qhy s k),.str (qhI s k),.int .i64 (qgT s k)],.bool (qkL s k)])=wTup k (s.take (runL innB s)) (0,0,[]) 0 (decide (runL innB s≤64)):=by
 simp [wTup,qlE,qlF,qhU,qhy,qhI,qgT,qkL,qyL hs]
theorem qsf {s:List UInt8} (hs:s.length≤140737488355328) (k:Int):qcm s k=some (wTup k s (kRd s,nRd s,sRd s) 0 (decide (eRd s=0))):=by
 unfold qcm qn3 wTup
 try dsimp only
 simp [hs]
theorem qn1 {s:List UInt8} (hs:s.length≤140737488355328) (k:Int):qdf s k=true:=by simp [qdf,qcY,qcU,qb3,qbY,qb2,qbV,qcX,qsf hs,wTup]
theorem qzu {s:List UInt8} (hs:s.length≤140737488355328) (k:Int):(PV.tup [.agg [.int .i64 (qcY s k),.str (qcU s k),.int .i64 (qb3 s k),.int .i64 (qbY s k),.str (qb2 s k),.int .i64 (qbV s k)],.bool (qcX s k)])=wTup k s (kRd s,nRd s,sRd s) 0 (decide (eRd s=0)):=by
 simp [wTup,qcY,qcU,qb3,qbY,qb2,qbV,qcX,qsf hs]
theorem qGu (c:UInt8) (t:qU) (a b:UInt8):qcK (c::t) [a,b]=(decide (c=a)&&hdIs (fun d=>decide (d=b)) t):=by
 unfold qcK;cases t with
 |nil=>simp [hdIs]
 |cons d u=>simp [hdIs,Bool.decide_and]
def wst:Store:=⟨[[.int .i64 0,.str [],.int .i64 0,.int .i64 0,.str [],.int .i64 0]],[],[44]⟩
theorem qPT (c:UInt8) (t:qU):hdIs (twoB c) t=(qcK (c::t) [58,45] || qcK (c::t) [60,61] || qcK (c::t) [62,61] || qcK (c::t) [33,61]):=by
 simp only [qGu];cases t with
 |nil=>simp [hdIs]
 |cons d u =>
  simp only [hdIs,twoB];simp only [← UInt8.toNat_inj];simp [Bool.decide_and]
theorem qjr {s p:List UInt8} (h:qcK s p=true) (hp:p.length=2):s.take 2=p:=by
 simp [qcK] at h
 rw [← hp];exact h.2
theorem qBF (c:UInt8) (t:qU) (n:Int):qi3 [.str (c::t),.ptr 0 0,.int .u8 n,.agg [.str [58,45],.str [60,61],.str [62,61],.str [33,61]],.int .i64 0] wst =
  if hdIs (twoB c) t then some (.ret,[.ptr 0 0,.bool true],⟨[[.int .i64 6,.str ((c::t).take 2),.int .i64 0,.int .i64 0,.str [],.int .i64 0]],[],[44]⟩)
  else some (.exit 1,[.str (c::t),.ptr 0 0,.int .u8 n],wst):=by
 have i1:iAdd .i64 0 1=1:=by decide
 have i2:iAdd .i64 1 1=2:=by decide
 have i3:iAdd .i64 2 1=3:=by decide
 have i4:iAdd .i64 3 1=4:=by decide
 unfold wst;rw [qPT];rw [qmO];cases h1:qcK (c::t) [58,45] with
 |true=>have q:=qjr h1 rfl;simp [qbf,h1];simpa using q.symm
 |false =>
  have e1:(qbf (c::t) n [58,45] [60,61] [62,61] [33,61] 0 0 [] 0 0 [] 0).run=some (.next [.str (c::t),.ptr 0 0,.int .u8 n,.agg [.str [58,45],.str [60,61],.str [62,61],.str [33,61]],.int .i64 1] ⟨[[.int .i64 0,.str [],.int .i64 0,.int .i64 0,.str [],.int .i64 0]],[],[44]⟩):=by simp [qbf,h1,i1]
  rw [e1,qi6,qmO];cases h2:qcK (c::t) [60,61] with
  |true=>have q:=qjr h2 rfl;simp [qbf,h2];simpa using q.symm
  |false =>
   have e2:(qbf (c::t) n [58,45] [60,61] [62,61] [33,61] 1 0 [] 0 0 [] 0).run=some (.next [.str (c::t),.ptr 0 0,.int .u8 n,.agg [.str [58,45],.str [60,61],.str [62,61],.str [33,61]],.int .i64 2] ⟨[[.int .i64 0,.str [],.int .i64 0,.int .i64 0,.str [],.int .i64 0]],[],[44]⟩):=by simp [qbf,h2,i2]
   rw [e2,qi6,qmO];cases h3:qcK (c::t) [62,61] with
   |true=>have q:=qjr h3 rfl;simp [qbf,h3];simpa using q.symm
   |false =>
    have e3:(qbf (c::t) n [58,45] [60,61] [62,61] [33,61] 2 0 [] 0 0 [] 0).run=some (.next [.str (c::t),.ptr 0 0,.int .u8 n,.agg [.str [58,45],.str [60,61],.str [62,61],.str [33,61]],.int .i64 3] ⟨[[.int .i64 0,.str [],.int .i64 0,.int .i64 0,.str [],.int .i64 0]],[],[44]⟩):=by simp [qbf,h3,i3]
    rw [e3,qi6,qmO];cases h4:qcK (c::t) [33,61] with
    |true=>have q:=qjr h4 rfl;simp [qbf,h4];simpa using q.symm
    |false =>
     have e4:(qbf (c::t) n [58,45] [60,61] [62,61] [33,61] 3 0 [] 0 0 [] 0).run=some (.next [.str (c::t),.ptr 0 0,.int .u8 n,.agg [.str [58,45],.str [60,61],.str [62,61],.str [33,61]],.int .i64 4] ⟨[[.int .i64 0,.str [],.int .i64 0,.int .i64 0,.str [],.int .i64 0]],[],[44]⟩):=by simp [qbf,h4,i4]
     rw [e4,qi6,qmO];simp [qbf]
theorem qID (c:UInt8):∀ l:qU,0≤Lib.indexByte l c↔c∈l
 |[]=>by simp [Lib.indexByte]
 |b::l=>by
  have h1:=qID c l;have h2:=Lib.indexByte_ge l c;unfold Lib.indexByte;by_cases hb:b=c
  ·subst hb;simp
  ·have hb':(b == c)=false:=by simpa using hb
   have hc:¬ c=b:=fun e=>hb e.symm
   rw [hb'];by_cases h3:Lib.indexByte l c=-1
   ·have:¬ c∈l:=fun hm=>by have:=h1.2 hm;omega
    simp [h3,hc,this]
   ·have:c∈l:=h1.1 (by omega)
    simp [h3,this];omega
theorem qJx (c:UInt8):iLe 0 (idxV [40,41,44,46,43,45,61,58,60,62] (c.toNat:Int))=qh5 c:=by
 have e:idxV [40,41,44,46,43,45,61,58,60,62] (c.toNat:Int)=Lib.indexByte [40,41,44,46,43,45,61,58,60,62] c:=by
  unfold idxV
  congr 1
  simp
 rw [qH8];have h:=qID c [40,41,44,46,43,45,61,58,60,62];have h':decide (0≤Lib.indexByte [40,41,44,46,43,45,61,58,60,62] c)=decide (c∈[40,41,44,46,43,45,61,58,60,62]):=decide_eq_decide.2 h;rw [e,h'];simp only [List.mem_cons,List.not_mem_nil,or_false,← UInt8.toNat_inj,qh5,List.contains,List.elem_eq_mem];simp
theorem qAj {c:UInt8} {t:List UInt8} (hs:(c::t).length≤140737488355328) (h:qe6 c=true):qa5 (c::t)=some (wTup 1 ((c::t).take (runL innB (c::t))) (0,0,[]) 0 (decide (runL innB (c::t)≤64))):=by
 have hs':(c::t).length < 9223372036854775807:=by omega
 have h1:97≤c.toNat∧c.toNat≤122:=by simpa [qe6] using h
 have g1:(97:Int)≤c.toNat:=by omega
 have g2:(c.toNat:Int)≤122:=by omega
 rw [← qIv hs'];unfold qa5 qeg
 try dsimp only
 cases t<;>simp [g1,g2,qCM hs']
theorem qBg {c:UInt8} {t:List UInt8} (hs:(c::t).length≤140737488355328) (h:qiK c=true):qa5 (c::t)=some (wTup 2 ((c::t).take (runL innB (c::t))) (0,0,[]) 0 (decide (runL innB (c::t)≤64))):=by
 have hs':(c::t).length < 9223372036854775807:=by omega
 have h1:65≤c.toNat∧c.toNat≤90:=by simpa [qiK] using h
 have g1:¬ (97:Int)≤c.toNat:=by omega
 have g2:(65:Int)≤c.toNat:=by omega
 have g3:(c.toNat:Int)≤90:=by omega
 rw [← qIv hs'];unfold qa5 qeg
 try dsimp only
 cases t<;>simp [g1,g2,g3,qCM hs']
theorem qG3 {c:UInt8} {t:List UInt8} (hs:(c::t).length≤140737488355328) (h:c.toNat=95):qa5 (c::t)=some (wTup 3 [95] (0,0,[]) 0 (!hdIs innB t)):=by
 unfold qa5 qeg
 try dsimp only
 cases t with
 |nil =>
  have e:inI 0=false:=by decide
  simp [h,hdIs,wTup,e]
 |cons d u =>
  have g:iLt 1 (sLen (c::d::u))=true:=by simp;omega
  rw [g];simp [h,hdIs,qmz,wTup]
def dgW (s:qU):PV:=wTup 4 (s.take (runL qat (s.drop 1)+1)) (kRd (s.take (runL qat (s.drop 1)+1)),nRd (s.take (runL qat (s.drop 1)+1)),sRd (s.take (runL qat (s.drop 1)+1))) 0 (decide (eRd (s.take (runL qat (s.drop 1)+1))=0))
theorem qHn {c : UInt8} {t : List UInt8} (hs : (c :: t).length ≤ 140737488355328) : (Tr.ite (qa1 (qas 1) true (nNat 1) (nLen (c :: t)) (nLen (c :: t)))
          (Tr.ite (qiX (sSub (c :: t) (nNat 1) (nLen (c :: t))))
            (Tr.ite (qa1 true (qas (iAdd .i64 1 (qb9 (sSub (c :: t) (nNat 1) (nLen (c :: t)))))) 0 (nNat (iAdd .i64 1 (qb9 (sSub (c :: t) (nNat 1) (nLen (c :: t)))))) (nLen (c :: t)))
              (Tr.ite (qdf (sSub (c :: t) 0 (nNat (iAdd .i64 1 (qb9 (sSub (c :: t) (nNat 1) (nLen (c :: t))))))) 4)
                (Tr.ret (PV.tup [PV.agg [PV.int .i64 (qcY (sSub (c :: t) 0 (nNat (iAdd .i64 1 (qb9 (sSub (c :: t) (nNat 1) (nLen (c :: t))))))) 4), PV.str (qcU (sSub (c :: t) 0 (nNat (iAdd .i64 1 (qb9 (sSub (c :: t) (nNat 1) (nLen (c :: t))))))) 4), PV.int .i64 (qb3 (sSub (c :: t) 0 (nNat (iAdd .i64 1 (qb9 (sSub (c :: t) (nNat 1) (nLen (c :: t))))))) 4), PV.int .i64 (qbY (sSub (c :: t) 0 (nNat (iAdd .i64 1 (qb9 (sSub (c :: t) (nNat 1) (nLen (c :: t))))))) 4), PV.str (qb2 (sSub (c :: t) 0 (nNat (iAdd .i64 1 (qb9 (sSub (c :: t) (nNat 1) (nLen (c :: t))))))) 4), PV.int .i64 (qbV (sSub (c :: t) 0 (nNat (iAdd .i64 1 (qb9 (sSub (c :: t) (nNat 1) (nLen (c :: t))))))) 4)], PV.bool (qcX (sSub (c :: t) 0 (nNat (iAdd .i64 1 (qb9 (sSub (c :: t) (nNat 1) (nLen (c :: t))))))) 4)]))
                Tr.fail) Tr.fail) Tr.fail) Tr.fail).run = some (dgW (c :: t)) := by
  have e0 : sSub (c :: t) (nNat 1) (nLen (c :: t)) = t := by simp
  have hl : t.length + 1 ≤ 140737488355328 := by simpa using hs
  have hr := qlj qat t
  rw [e0, qLa (by omega), qMP (by omega)]
  have e1 : iAdd .i64 1 ((runL qat t : Nat) : Int) = ((runL qat t + 1 : Nat) : Int) := by
    have : iAdd .i64 1 ((runL qat t : Nat) : Int) = (1 : Int) + (runL qat t : Nat) := qaD (by omega)
    rw [this]; omega
  rw [e1]
  have e2 : sSub (c :: t) 0 (nNat ((runL qat t + 1 : Nat) : Int)) = (c :: t).take (runL qat t + 1) := by simp [-List.take_succ_cons]
  rw [e2]
  have hl2 : ((c :: t).take (runL qat t + 1)).length ≤ 140737488355328 := by rw [List.length_take]; omega
  have t1 : qa1 (qas 1) true (nNat 1) (nLen (c :: t)) (nLen (c :: t)) = true := by simp
  have t2 : qa1 true (qas ((runL qat t + 1 : Nat) : Int)) 0 (nNat ((runL qat t + 1 : Nat) : Int)) (nLen (c :: t)) = true := by simp; omega
  rw [t1, t2, qn1 hl2, qzu hl2]
  rfl
theorem qJk {c:UInt8} {t:List UInt8} (hs:(c::t).length≤140737488355328) (h:qat c=true):qa5 (c::t)=some (dgW (c::t)):=by
 have h1:48≤c.toNat∧c.toNat≤57:=by simpa [qat] using h
 have f0:qau (c::t) 0=true:=by simp
 have f1:iLe 97 (sAt (c::t) 0)=false:=by simp;omega
 have f3:iLe 65 (sAt (c::t) 0)=false:=by simp;omega
 have f5:iEq (sAt (c::t) 0) 95=false:=by simp;omega
 have f6:qbj (sAt (c::t) 0)=true:=by simp [qc0,h]
 rw [← qHn hs];unfold qa5 qeg
 try dsimp only
 cases t with
 |nil =>
  have g:iLt 1 (sLen [c])=false:=by simp
  rw [f0,g,f1,f3,f5,f6,qcS];rfl
 |cons d u =>
  have g:iLt 1 (sLen (c::d::u))=true:=by simp;omega
  have g2:qau (c::d::u) 1=true:=by simp
  rw [f0,g,g2,f1,f3,f5,f6,qcS];rfl
theorem qFM {c d:UInt8} {u:List UInt8} (hs:(c::d::u).length≤140737488355328) (h:c.toNat=45) (hd:qat d=true):qa5 (c::d::u)=some (dgW (c::d::u)):=by
 have f0:qau (c::d::u) 0=true:=by simp
 have f1:iLe 97 (sAt (c::d::u) 0)=false:=by simp;omega
 have f3:iLe 65 (sAt (c::d::u) 0)=false:=by simp;omega
 have f5:iEq (sAt (c::d::u) 0) 95=false:=by simp;omega
 have f6:qbj (sAt (c::d::u) 0)=false:=by simp [dgI,h]
 have f7:iEq (sAt (c::d::u) 0) 45=true:=by simp;omega
 have f8:qbj (sAt (c::d::u) 1)=true:=by simp [qc0,hd]
 rw [← qHn hs];unfold qa5 qeg
 try dsimp only
 have g:iLt 1 (sLen (c::d::u))=true:=by simp;omega
 have g2:qau (c::d::u) 1=true:=by simp
 rw [f0,g,g2,f1,f3,f5,f6,f7,f8,qcS,qcS];rfl
def symN (t:qU):Nat:=if quoL t=0 then 0 else quoL t+1
def syW (s:qU) (n:Nat):PV:=wTup 5 (s.take n) (kRd (s.take n),nRd (s.take n),sRd (s.take n)) 0 (decide (eRd (s.take n)=0))
theorem qGH {c:UInt8} {t:List UInt8} (hs:(c::t).length≤140737488355328) (h:c.toNat=34):qa5 (c::t)=some (syW (c::t) (symN t)):=by
 have hq:qe0 (c::t)=((symN t:Nat):Int):=by
  simp only [qe0,qsb (c:=c) (t:=t) (by omega),qIa,qLb,symN]
  split<;>simp
 have hqi:qg4 (c::t)=true:=by
  simp only [qg4,qJn,qsb (c:=c) (t:=t) (by omega),hq,symN]
  split<;>simp
 have hle:symN t≤(c::t).length:=by
  have:=qB1 t;unfold symN;split<;>simp<;>omega
 have hl2:((c::t).take (symN t)).length≤140737488355328:=by rw [List.length_take];omega
 have f0:qau (c::t) 0=true:=by simp
 have f1:iLe 97 (sAt (c::t) 0)=false:=by simp;omega
 have f3:iLe 65 (sAt (c::t) 0)=false:=by simp;omega
 have f5:iEq (sAt (c::t) 0) 95=false:=by simp;omega
 have f6:qbj (sAt (c::t) 0)=false:=by simp [dgI,h]
 have f7:iEq (sAt (c::t) 0) 45=false:=by simp;omega
 have f9:iEq (sAt (c::t) 0) 34=true:=by simp;omega
 have e2:sSub (c::t) 0 (nNat ((symN t:Nat):Int))=(c::t).take (symN t):=by simp
 have t2:qa1 true (qas ((symN t:Nat):Int)) 0 (nNat ((symN t:Nat):Int)) (nLen (c::t))=true:=by simp at hle ⊢;omega
 have leaf:(PV.tup [PV.agg [PV.int .i64 (qcY ((c::t).take (symN t)) 5),PV.str (qcU ((c::t).take (symN t)) 5),PV.int .i64 (qb3 ((c::t).take (symN t)) 5),PV.int .i64 (qbY ((c::t).take (symN t)) 5),PV.str (qb2 ((c::t).take (symN t)) 5),PV.int .i64 (qbV ((c::t).take (symN t)) 5)],PV.bool (qcX ((c::t).take (symN t)) 5)])=syW (c::t) (symN t):=by rw [qzu hl2];rfl
 rw [← leaf];unfold qa5 qeg
 try dsimp only
 cases t with
 |nil =>
  have g:iLt 1 (sLen [c])=false:=by simp
  rw [f0,g,f1,f3,f5,f6,f7,f9,qcS,hqi,hq,t2,e2,qn1 hl2];rfl
 |cons d u =>
  have g:iLt 1 (sLen (c::d::u))=true:=by simp;omega
  have g2:qau (c::d::u) 1=true:=by simp
  rw [f0,g,g2,f1,f3,f5,f6,f7,f9,qcS,hqi,hq,t2,e2,qn1 hl2];rfl
def mkW (c:UInt8) (t:qU):PV:=if hdIs (twoB c) t then wTup 6 ((c::t).take 2) (0,0,[]) 0 true else wTup 6 [c] (0,0,[]) 0 (qh5 c)
def mkT (v:qU):Tr PV:=(Tr.ite (qcC v (sAt v 0) [58,45] [60,61] [62,61] [33,61] 0 0 [] 0 0 [] 0)
 (Tr.ret (PV.tup [PV.agg [PV.int .i64 (qen v (sAt v 0) [58,45] [60,61] [62,61] [33,61] 0 0 [] 0 0 [] 0),PV.str (qel v (sAt v 0) [58,45] [60,61] [62,61] [33,61] 0 0 [] 0 0 [] 0),PV.int .i64 (qdw v (sAt v 0) [58,45] [60,61] [62,61] [33,61] 0 0 [] 0 0 [] 0),PV.int .i64 (qdu v (sAt v 0) [58,45] [60,61] [62,61] [33,61] 0 0 [] 0 0 [] 0),PV.str (qdk v (sAt v 0) [58,45] [60,61] [62,61] [33,61] 0 0 [] 0 0 [] 0),PV.int .i64 (qc8 v (sAt v 0) [58,45] [60,61] [62,61] [33,61] 0 0 [] 0 0 [] 0)],PV.bool (qeo v (sAt v 0) [58,45] [60,61] [62,61] [33,61] 0 0 [] 0 0 [] 0)]))
 (Tr.ite (qgz v (sAt v 0) [58,45] [60,61] [62,61] [33,61] 0 0 [] 0 0 [] 0)
  (Tr.ite (qa1 true (qas 1) 0 (nNat 1) (nLen (qcA v (sAt v 0) [58,45] [60,61] [62,61] [33,61] 0 0 [] 0 0 [] 0)))
   (Tr.ret (PV.tup [PV.agg [PV.int .i64 6,PV.str (sSub (qcA v (sAt v 0) [58,45] [60,61] [62,61] [33,61] 0 0 [] 0 0 [] 0) 0 (nNat 1)),PV.int .i64 0,PV.int .i64 0,PV.str [],PV.int .i64 0],PV.bool (iLe 0 (idxV [40,41,44,46,43,45,61,58,60,62] (qde v (sAt v 0) [58,45] [60,61] [62,61] [33,61] 0 0 [] 0 0 [] 0)))]))
   Tr.fail)
  Tr.fail))
theorem qN7 (c:UInt8) (t:qU):(mkT (c::t)).run=some (mkW c t):=by
 have hL:=qBF c t (sAt (c::t) 0);unfold wst at hL;have e2:sSub (c::t) 0 (nNat 1)=[c]:=by simp
 have t2:qa1 true (qas 1) 0 (nNat 1) (nLen (c::t))=true:=by simp
 have e3:sAt (c::t) 0=(c.toNat:Int):=by simp
 have ho:=qJx c;unfold mkT mkW;cases h:hdIs (twoB c) t with
 |true =>
  rw [h] at hL;simp only [if_true] at hL ⊢;have a1:qcC (c::t) (sAt (c::t) 0) [58,45] [60,61] [62,61] [33,61] 0 0 [] 0 0 [] 0=true:=by
   simp only [qcC,qen,qel,qdw,qdu,qdk,qc8,qeo,qaX,hL];simp
  rw [a1];simp only [qen,qel,qdw,qdu,qdk,qc8,qeo,qaX,hL];simp [wTup]
 |false =>
  rw [h] at hL;simp only [Bool.false_eq_true,if_false] at hL ⊢;have a0:qcC (c::t) (sAt (c::t) 0) [58,45] [60,61] [62,61] [33,61] 0 0 [] 0 0 [] 0=false:=by
   cases hq:qcC (c::t) (sAt (c::t) 0) [58,45] [60,61] [62,61] [33,61] 0 0 [] 0 0 [] 0 with
   |false=>rfl
   |true =>
    simp only [qcC,qaX,hL] at hq;simp at hq
  have a1:qgz (c::t) (sAt (c::t) 0) [58,45] [60,61] [62,61] [33,61] 0 0 [] 0 0 [] 0=true:=by
   simp only [qgz,qcA,qde,qlB,qli,qkN,qkW,qle,qlv,qaX,hL];simp
  have a2:qcA (c::t) (sAt (c::t) 0) [58,45] [60,61] [62,61] [33,61] 0 0 [] 0 0 [] 0=c::t:=by
   simp only [qcA,qaX,hL];simp
  have a3:qde (c::t) (sAt (c::t) 0) [58,45] [60,61] [62,61] [33,61] 0 0 [] 0 0 [] 0=(c.toNat:Int):=by
   simp only [qde,qaX,hL];simp
  rw [a0,a1,a2,a3,t2,e2,ho];rfl
theorem qEs {c:UInt8} {t:List UInt8} (hs:(c::t).length≤140737488355328) (h1:qe6 c=false) (h2:qiK c=false) (h3:c.toNat≠95) (h4:qat c=false) (h5:c.toNat=45→hdIs qat t=false) (h6:c.toNat≠34):qa5 (c::t)=some (mkW c t):=by
 have f0:qau (c::t) 0=true:=by simp
 have f5:iEq (sAt (c::t) 0) 95=false:=by simp;omega
 have f6:qbj (sAt (c::t) 0)=false:=by simp [qc0,h4]
 have f9:iEq (sAt (c::t) 0) 34=false:=by simp;omega
 have g1:¬ (97≤c.toNat∧c.toNat≤122):=by simpa [qe6] using h1
 have g2:¬ (65≤c.toNat∧c.toNat≤90):=by simpa [qiK] using h2
 rw [← qN7];unfold qa5 qeg
 try dsimp only
 have f8:c.toNat=45→qbj (if iLt 1 (sLen (c::t))=true then sAt (c::t) 1 else 0)=false:=fun h=>by
  have:=h5 h;cases t with
  |nil=>simp [dgI]
  |cons d u =>
   have g:iLt 1 (sLen (c::d::u))=true:=by simp;omega
   rw [if_pos g];simpa [qc0,hdIs] using this
 have e97:iLe 97 (sAt (c::t) 0)=decide (97≤c.toNat):=by simp;omega
 have e122:iLe (sAt (c::t) 0) 122=decide (c.toNat≤122):=by simp;omega
 have e65:iLe 65 (sAt (c::t) 0)=decide (65≤c.toNat):=by simp;omega
 have e90:iLe (sAt (c::t) 0) 90=decide (c.toNat≤90):=by simp;omega
 have e45:iEq (sAt (c::t) 0) 45=decide (c.toNat=45):=by simp;omega
 rw [f0,e97,e122,e65,e90,e45,f5,f6,f9,qcS];have key:∀ b:Bool,iLt 1 (sLen (c::t))=b→(b=true→qau (c::t) 1=true)→True:=fun _ _ _=>trivial
 by_cases k1:97≤c.toNat
 ·have k2:¬ c.toNat≤122:=fun h=>g1 ⟨k1,h⟩
  have k3:65≤c.toNat:=by omega
  have k4:¬ c.toNat≤90:=by omega
  have k5:¬ c.toNat=45:=by omega
  rw [decide_eq_true k1,decide_eq_false k2,decide_eq_true k3,decide_eq_false k4,decide_eq_false k5];cases t with
  |nil =>
   have g:iLt 1 (sLen [c])=false:=by simp
   rw [g];rfl
  |cons d u =>
   have g:iLt 1 (sLen (c::d::u))=true:=by simp;omega
   have g2:qau (c::d::u) 1=true:=by simp
   rw [g,g2];rfl
 ·by_cases k3:65≤c.toNat
  ·have k4:¬ c.toNat≤90:=fun h=>g2 ⟨k3,h⟩
   have k5:¬ c.toNat=45:=by omega
   rw [decide_eq_false k1,decide_eq_true k3,decide_eq_false k4,decide_eq_false k5];cases t with
   |nil =>
    have g:iLt 1 (sLen [c])=false:=by simp
    rw [g];rfl
   |cons d u =>
    have g:iLt 1 (sLen (c::d::u))=true:=by simp;omega
    have g2:qau (c::d::u) 1=true:=by simp
    rw [g,g2];rfl
  ·by_cases k5:c.toNat=45
   ·rw [decide_eq_false k1,decide_eq_false k3,decide_eq_true k5];cases t with
    |nil =>
     have g:iLt 1 (sLen [c])=false:=by simp
     have f8':qbj 0=false:=by simp [dgI]
     rw [g,f8',qcS 0];rfl
    |cons d u =>
     have g:iLt 1 (sLen (c::d::u))=true:=by simp;omega
     have g2:qau (c::d::u) 1=true:=by simp
     have f8':=f8 k5;rw [if_pos g] at f8';rw [g,g2,f8',qcS (sAt (c::d::u) 1)];rfl
   ·rw [decide_eq_false k1,decide_eq_false k3,decide_eq_false k5];cases t with
    |nil =>
     have g:iLt 1 (sLen [c])=false:=by simp
     rw [g];rfl
    |cons d u =>
     have g:iLt 1 (sLen (c::d::u))=true:=by simp;omega
     have g2:qau (c::d::u) 1=true:=by simp
     rw [g,g2];rfl
end Go.Pv
set_option maxHeartbeats 4000000
set_option maxRecDepth 200000
set_option linter.unusedSimpArgs false
set_option linter.unusedVariables false
namespace Go.Pv
open Go Go.Proofs
def qvU:GamT:=ofL []
theorem qE1 (gl:Gl):qam Tryz.prog gl (gam qvU):=qag
def qCC:LpsT:=fun r fr σ=>.fail
def qsS (c:Int):Tr PV:=.ite (iLe 97 c) (.ret (.bool (iLe c 122))) (.ret (.bool false))
theorem qJ5 (c:Int):(tcall tbT qvU qCC Tryz.f97 [.int .u8 c]).flat=qsS c:=by kernel_rfl
def qp2 (c:Int):Option PV:=(qsS c).run
def qhA (c:Int):Bool:=(qbQ (gVal (qp2 c)))
def qfY (c:Int):Bool:=isW (qp2 c) (.bool (qhA c))
def qrj:List PV→Tr PV|[.int .u8 c]=>.ite (qfY c) (.ret (.bool (qhA c))) (.fail)|_=>.fail
theorem qt4 (gl:Gl):SimP Tryz.prog gl 97 fun args=>(qrj args).run:=by
 refine SimP.of_flat (G:=qvU) (L:=qCC) qai (qE1 gl ) qah  Tryz.func97 rfl (by rfl) (by kernel_rfl) (qac (by kernel_rfl)) ?_
 intro args x h;unfold qrj at h
 split at h
 ·exact (congrArg Tr.run (qJ5 _)).trans (qae h fun h=>by cases h)
 ·cases h
def qxP:GamT:=ofL []
theorem qFE (gl:Gl):qam Tryz.prog gl (gam qxP):=qag
def qCy:LpsT:=fun r fr σ=>.fail
def qse (c:Int):Tr PV:=.ite (iLe 65 c) (.ret (.bool (iLe c 90))) (.ret (.bool false))
theorem qJY (c:Int):(tcall tbT qxP qCy Tryz.f98 [.int .u8 c]).flat=qse c:=by kernel_rfl
def qq6 (c:Int):Option PV:=(qse c).run
def qfk (c:Int):Bool:=(qbQ (gVal (qq6 c)))
def qej (c:Int):Bool:=isW (qq6 c) (.bool (qfk c))
def qqb:List PV→Tr PV|[.int .u8 c]=>.ite (qej c) (.ret (.bool (qfk c))) (.fail)|_=>.fail
theorem qtZ (gl:Gl):SimP Tryz.prog gl 98 fun args=>(qqb args).run:=by
 refine SimP.of_flat (G:=qxP) (L:=qCy) qai (qFE gl ) qah  Tryz.func98 rfl (by rfl) (by kernel_rfl) (qac (by kernel_rfl)) ?_
 intro args x h;unfold qqb at h
 split at h
 ·exact (congrArg Tr.run (qJY _)).trans (qae h fun h=>by cases h)
 ·cases h
def qvQ:GamT:=ofL []
theorem qFv (gl:Gl):qam Tryz.prog gl (gam qvQ):=qag
def qC7:LpsT:=fun r fr σ=>.fail
def qsC (c:Int):Tr PV:=.ite (iLe 48 c) (.ret (.bool (iLe c 57))) (.ret (.bool false))
theorem qKK (c:Int):(tcall tbT qvQ qC7 Tryz.f100 [.int .u8 c]).flat=qsC c:=by kernel_rfl
def qqs (c:Int):Option PV:=(qsC c).run
def qec (c:Int):Bool:=(qbQ (gVal (qqs c)))
def qdd (c:Int):Bool:=isW (qqs c) (.bool (qec c))
def qnp:List PV→Tr PV|[.int .u8 c]=>.ite (qdd c) (.ret (.bool (qec c))) (.fail)|_=>.fail
theorem qoS (gl:Gl):SimP Tryz.prog gl 100 fun args=>(qnp args).run:=by
 refine SimP.of_flat (G:=qvQ) (L:=qC7) qai (qFv gl ) qah  Tryz.func100 rfl (by rfl) (by kernel_rfl) (qac (by kernel_rfl)) ?_
 intro args x h;unfold qnp at h
 split at h
 ·exact (congrArg Tr.run (qKK _)).trans (qae h fun h=>by cases h)
 ·cases h
def qv5:GamT:=ofL [(97,.pure qrj),(98,.pure qqb),(100,.pure qnp)]
theorem qEe (gl:Gl):qam Tryz.prog gl (gam qv5):=(qaf (qt4 gl) (qaf (qtZ gl) (qaf (qoS gl) qag)))
def qDx:LpsT:=fun r fr σ=>.fail
def qsc (c:Int):Tr PV:=.ite (qfY c) (.ite (qhA c) (.ret (.bool true)) (.ite (qej c) (.ite (qfk c) (.ret (.bool true)) (.ite (qdd c) (.ite (qec c) (.ret (.bool true)) (.ret (.bool (iEq c 95)))) .fail)) .fail)) .fail
theorem qKx (c:Int):(tcall tbT qv5 qDx Tryz.f146 [.int .u8 c]).flat=qsc c:=by kernel_rfl
def qqX (c:Int):Option PV:=(qsc c).run
def qjI (c:Int):Bool:=(qbQ (gVal (qqX c)))
def qji (c:Int):Bool:=isW (qqX c) (.bool (qjI c))
def qwP:List PV→Tr PV|[.int .u8 c]=>.ite (qji c) (.ret (.bool (qjI c))) (.fail)|_=>.fail
theorem qEi (gl:Gl):SimP Tryz.prog gl 146 fun args=>(qwP args).run:=by
 refine SimP.of_flat (G:=qv5) (L:=qDx) qai (qEe gl ) qah  Tryz.func146 rfl (by rfl) (by kernel_rfl) (qac (by kernel_rfl)) ?_
 intro args x h;unfold qwP at h
 split at h
 ·exact (congrArg Tr.run (qKx _)).trans (qae h fun h=>by cases h)
 ·cases h
def qxh:GamT:=ofL []
theorem qEJ (gl:Gl):qam Tryz.prog gl (gam qxh):=qag
def qDj:LpsT:=fun r fr σ=>.fail
def qrW (c:Int):Tr PV:=.ite (iEq c 32) (.ret (.bool true)) (.ite (iEq c 9) (.ret (.bool true)) (.ite (iEq c 10) (.ret (.bool true)) (.ret (.bool (iEq c 13)))))
theorem qKj (c:Int):(tcall tbT qxh qDj Tryz.f96 [.int .u8 c]).flat=qrW c:=by kernel_rfl
def qra (c:Int):Option PV:=(qrW c).run
def qhb (c:Int):Bool:=(qbQ (gVal (qra c)))
def qjM (c:Int):Bool:=isW (qra c) (.bool (qhb c))
def qyh:List PV→Tr PV|[.int .u8 c]=>.ite (qjM c) (.ret (.bool (qhb c))) (.fail)|_=>.fail
theorem qFd (gl:Gl):SimP Tryz.prog gl 96 fun args=>(qyh args).run:=by
 refine SimP.of_flat (G:=qxh) (L:=qDj) qai (qEJ gl ) qah  Tryz.func96 rfl (by rfl) (by kernel_rfl) (qac (by kernel_rfl)) ?_
 intro args x h;unfold qyh at h
 split at h
 ·exact (congrArg Tr.run (qKj _)).trans (qae h fun h=>by cases h)
 ·cases h
def qzU:GamT:=ofL [(96,.pure qyh)]
theorem qCN (gl:Gl):qam Tryz.prog gl (gam qzU):=(qaf (qFd gl) qag)
def qyb:Code:=qc3 Tryz.f43 2
def qwn:LI:=⟨41,[0,1,5],fun e=>match e with|.exit 0=>[1]|_=>[],true⟩
def qyr:LpsT:=fun r fr σ=>.fail
def qoV (vs:List PV) (σ:Store):Option (PExit×List PV×Store):=lval (lstep tbT qzU qyr qyb qwn) vs σ
def qmD (s:qU) (at_:Int) (comment:Bool):Tr LR:=let z1:=qau s at_;let z2:=iAdd .i64 at_ 1;let z3:Store:=Store.mk [] [] [];let z4:Tr LR:=.ite z1 (.ite (iEq (sAt s at_) 37) (.ret (.next [.str s,.int .i64 z2,.bool true] z3)) (.ite comment (.ite z1 (.ret (.next [.str s,.int .i64 z2,.bool (iNe (sAt s at_) 10)] z3)) .fail) (.ret (.next [.str s,.int .i64 z2,.bool false] z3)))) .fail;.ite (iLt at_ (sLen s)) (.ite comment z4 (.ite z1 (.ite (qjM (sAt s at_)) (.ite (qhb (sAt s at_)) z4 (.ite z1 (.ite (iEq (sAt s at_) 37) z4 (.ret (.out (.exit 0) [.int .i64 at_] z3))) .fail)) .fail) .fail)) (.ret (.out (.exit 0) [.int .i64 at_] z3))
theorem qOK (s:qU) (at_:Int) (comment:Bool):lstep tbT qzU qyr qyb qwn [.str s,.int .i64 at_,.bool comment] ⟨[],[],[]⟩=qmD s at_ comment:=by kernel_rfl
theorem qHZ (s:qU) (at_:Int) (comment:Bool):qoV [.str s,.int .i64 at_,.bool comment] ⟨[],[],[]⟩=lnext qoV (qmD s at_ comment).run:=by unfold qoV;rw [qaJ,qOK]
def qAI (s:qU) (at_:Int) (comment:Bool):Option (PExit×List PV×Store):=qoV [.str s,.int .i64 at_,.bool comment] ⟨[],[],[]⟩
def ql8 (s:qU) (at_:Int) (comment:Bool):Int:=(gInt (gOut (qAI s at_ comment) 0))
def qtd (s:qU) (at_:Int) (comment:Bool):Bool:=isW (qAI s at_ comment) ((.exit 0),[.int .i64 (ql8 s at_ comment)],⟨[],[],[]⟩)
def qj9:List PV→Store→Tr (PExit×List PV×Store)|[.str s,.int .i64 at_,.bool comment],⟨[],[],[]⟩=>.ite (qtd s at_ comment) (.ret ((.exit 0),[.int .i64 (ql8 s at_ comment)],⟨[],[],[]⟩)) (.fail)|_,_=>.fail
theorem qJp:∀ vs σ r,(qj9 vs σ).run=some r→qoV vs σ=some r:=by
 intro vs σ r h;unfold qj9 at h
 split at h
 ·exact qae h fun h=>by cases h
 ·cases h
theorem qEO (gl:Gl):∀ fr σ e fr' σ',(orc qwn qj9 fr σ).run=some (e,fr',σ')→LDoes Tryz.prog gl qyb fr σ e fr' σ':=qbu qai (qCN gl ) qah (L:=qyr) (qac (by kernel_rfl)) (by kernel_rfl) qJp
def qF5:LpsT:=fun r fr σ=>bif Nat.beq r 2 then orc qwn qj9 fr σ else .fail
def qBV (s:qU) (at_:Int):Tr PV:=.ite (qtd s at_ false) (.ret (.int .i64 (ql8 s at_ false))) .fail
theorem qP8 (s:qU) (at_:Int):(tcall tbT qzU qF5 Tryz.f43 [.str s,.int .i64 at_]).flat=qBV s at_:=by kernel_rfl
def qCI (s:qU) (at_:Int):Option PV:=(qBV s at_).run
def qky (s:qU) (at_:Int):Int:=(gInt (gVal (qCI s at_)))
def qfr (s:qU) (at_:Int):Bool:=isW (qCI s at_) (.int .i64 (qky s at_))
def qGT:List PV→Tr PV|[.str s,.int .i64 at_]=>.ite (qfr s at_) (.ret (.int .i64 (qky s at_))) (.fail)|_=>.fail
theorem qK6 (gl:Gl):SimP Tryz.prog gl 43 fun args=>(qGT args).run:=by
 refine SimP.of_flat (G:=qzU) (L:=qF5) qai (qCN gl ) qah  Tryz.func43 rfl (by rfl) (by kernel_rfl) (qax (L:=lps qF5) [(2,qyb)] (by kernel_rfl) (List.forall_mem_cons.2 ⟨fun fr σ e fr' σ' h=>qEO gl  fr σ e fr' σ' h,(List.forall_mem_nil _)⟩)) ?_
 intro args x h;unfold qGT at h
 split at h
 ·exact (congrArg Tr.run (qP8 _ _)).trans (qae h fun h=>by cases h)
 ·cases h
def qtE:GamT:=ofL [(146,.pure qwP)]
theorem qyB (gl:Gl):qam Tryz.prog gl (gam qtE):=(qaf (qEi gl) qag)
def qpR:Code:=qc3 Tryz.f99 1
def qpx:LI:=⟨18,[0,1],fun e=>match e with|.exit 0=>[1]|_=>[],true⟩
def qth:LpsT:=fun r fr σ=>.fail
def qj2 (vs:List PV) (σ:Store):Option (PExit×List PV×Store):=lval (lstep tbT qtE qth qpR qpx) vs σ
def qiJ (s:qU) (at_:Int):Tr LR:=.ite (iLt at_ (sLen s)) (.ite (qau s at_) (.ite (qji (sAt s at_)) (.ite (qjI (sAt s at_)) (.ret (.next [.str s,.int .i64 (iAdd .i64 at_ 1)] ⟨[],[],[]⟩)) (.ret (.out (.exit 0) [.int .i64 at_] ⟨[],[],[]⟩))) .fail) .fail) (.ret (.out (.exit 0) [.int .i64 at_] ⟨[],[],[]⟩))
theorem qJC (s:qU) (at_:Int):lstep tbT qtE qth qpR qpx [.str s,.int .i64 at_] ⟨[],[],[]⟩=qiJ s at_:=by kernel_rfl
theorem qDG (s:qU) (at_:Int):qj2 [.str s,.int .i64 at_] ⟨[],[],[]⟩=lnext qj2 (qiJ s at_).run:=by unfold qj2;rw [qaJ,qJC]
def qv6 (s:qU) (at_:Int):Option (PExit×List PV×Store):=qj2 [.str s,.int .i64 at_] ⟨[],[],[]⟩
def qkh (s:qU) (at_:Int):Int:=(gInt (gOut (qv6 s at_) 0))
def qoj (s:qU) (at_:Int):Bool:=isW (qv6 s at_) ((.exit 0),[.int .i64 (qkh s at_)],⟨[],[],[]⟩)
def qgO:List PV→Store→Tr (PExit×List PV×Store)|[.str s,.int .i64 at_],⟨[],[],[]⟩=>.ite (qoj s at_) (.ret ((.exit 0),[.int .i64 (qkh s at_)],⟨[],[],[]⟩)) (.fail)|_,_=>.fail
theorem qFT:∀ vs σ r,(qgO vs σ).run=some r→qj2 vs σ=some r:=by
 intro vs σ r h;unfold qgO at h
 split at h
 ·exact qae h fun h=>by cases h
 ·cases h
theorem qA5 (gl:Gl):∀ fr σ e fr' σ',(orc qpx qgO fr σ).run=some (e,fr',σ')→LDoes Tryz.prog gl qpR fr σ e fr' σ':=qbu qai (qyB gl ) qah (L:=qth) (qac (by kernel_rfl)) (by kernel_rfl) qFT
def qB4:LpsT:=fun r fr σ=>bif Nat.beq r 1 then orc qpx qgO fr σ else .fail
def qwo (s:qU) (at_:Int):Tr PV:=.ite (qoj s at_) (.ret (.int .i64 (qkh s at_))) .fail
theorem qN8 (s:qU) (at_:Int):(tcall tbT qtE qB4 Tryz.f99 [.str s,.int .i64 at_]).flat=qwo s at_:=by kernel_rfl
def qxq (s:qU) (at_:Int):Option PV:=(qwo s at_).run
def qoA (s:qU) (at_:Int):Int:=(gInt (gVal (qxq s at_)))
def qiu (s:qU) (at_:Int):Bool:=isW (qxq s at_) (.int .i64 (qoA s at_))
def qB9:List PV→Tr PV|[.str s,.int .i64 at_]=>.ite (qiu s at_) (.ret (.int .i64 (qoA s at_))) (.fail)|_=>.fail
theorem qJe (gl:Gl):SimP Tryz.prog gl 99 fun args=>(qB9 args).run:=by
 refine SimP.of_flat (G:=qtE) (L:=qB4) qai (qyB gl ) qah  Tryz.func99 rfl (by rfl) (by kernel_rfl) (qax (L:=lps qB4) [(1,qpR)] (by kernel_rfl) (List.forall_mem_cons.2 ⟨fun fr σ e fr' σ' h=>qA5 gl  fr σ e fr' σ' h,(List.forall_mem_nil _)⟩)) ?_
 intro args x h;unfold qB9 at h
 split at h
 ·exact (congrArg Tr.run (qN8 _ _)).trans (qae h fun h=>by cases h)
 ·cases h
def qiS:GamT:=ofL [(100,.pure qnp)]
theorem qsG (gl:Gl):qam Tryz.prog gl (gam qiS):=(qaf (qoS gl) qag)
def qjO:Code:=qc3 Tryz.f102 1
def qi7:LI:=⟨18,[0,1],fun e=>match e with|.exit 0=>[1]|_=>[],true⟩
def qkJ:LpsT:=fun r fr σ=>.fail
def qep (vs:List PV) (σ:Store):Option (PExit×List PV×Store):=lval (lstep tbT qiS qkJ qjO qi7) vs σ
def qex (s:qU) (at_:Int):Tr LR:=.ite (iLt at_ (sLen s)) (.ite (qau s at_) (.ite (qdd (sAt s at_)) (.ite (qec (sAt s at_)) (.ret (.next [.str s,.int .i64 (iAdd .i64 at_ 1)] ⟨[],[],[]⟩)) (.ret (.out (.exit 0) [.int .i64 at_] ⟨[],[],[]⟩))) .fail) .fail) (.ret (.out (.exit 0) [.int .i64 at_] ⟨[],[],[]⟩))
theorem qFr (s:qU) (at_:Int):lstep tbT qiS qkJ qjO qi7 [.str s,.int .i64 at_] ⟨[],[],[]⟩=qex s at_:=by kernel_rfl
theorem quQ (s:qU) (at_:Int):qep [.str s,.int .i64 at_] ⟨[],[],[]⟩=lnext qep (qex s at_).run:=by unfold qep;rw [qaJ,qFr]
def qoB (s:qU) (at_:Int):Option (PExit×List PV×Store):=qep [.str s,.int .i64 at_] ⟨[],[],[]⟩
def qfp (s:qU) (at_:Int):Int:=(gInt (gOut (qoB s at_) 0))
def qiD (s:qU) (at_:Int):Bool:=isW (qoB s at_) ((.exit 0),[.int .i64 (qfp s at_)],⟨[],[],[]⟩)
def qd7:List PV→Store→Tr (PExit×List PV×Store)|[.str s,.int .i64 at_],⟨[],[],[]⟩=>.ite (qiD s at_) (.ret ((.exit 0),[.int .i64 (qfp s at_)],⟨[],[],[]⟩)) (.fail)|_,_=>.fail
theorem qAk:∀ vs σ r,(qd7 vs σ).run=some r→qep vs σ=some r:=by
 intro vs σ r h;unfold qd7 at h
 split at h
 ·exact qae h fun h=>by cases h
 ·cases h
theorem qxV (gl:Gl):∀ fr σ e fr' σ',(orc qi7 qd7 fr σ).run=some (e,fr',σ')→LDoes Tryz.prog gl qjO fr σ e fr' σ':=qbu qai (qsG gl ) qah (L:=qkJ) (qac (by kernel_rfl)) (by kernel_rfl) qAk
def qsi:LpsT:=fun r fr σ=>bif Nat.beq r 1 then orc qi7 qd7 fr σ else .fail
def qor (s:qU) (at_:Int):Tr PV:=.ite (qiD s at_) (.ret (.int .i64 (qfp s at_))) .fail
theorem qFW (s:qU) (at_:Int):(tcall tbT qiS qsi Tryz.f102 [.str s,.int .i64 at_]).flat=qor s at_:=by kernel_rfl
def qm9 (s:qU) (at_:Int):Option PV:=(qor s at_).run
def qcJ (s:qU) (at_:Int):Int:=(gInt (gVal (qm9 s at_)))
def qeY (s:qU) (at_:Int):Bool:=isW (qm9 s at_) (.int .i64 (qcJ s at_))
def qrC:List PV→Tr PV|[.str s,.int .i64 at_]=>.ite (qeY s at_) (.ret (.int .i64 (qcJ s at_))) (.fail)|_=>.fail
theorem qBl (gl:Gl):SimP Tryz.prog gl 102 fun args=>(qrC args).run:=by
 refine SimP.of_flat (G:=qiS) (L:=qsi) qai (qsG gl ) qah  Tryz.func102 rfl (by rfl) (by kernel_rfl) (qax (L:=lps qsi) [(1,qjO)] (by kernel_rfl) (List.forall_mem_cons.2 ⟨fun fr σ e fr' σ' h=>qxV gl  fr σ e fr' σ' h,(List.forall_mem_nil _)⟩)) ?_
 intro args x h;unfold qrC at h
 split at h
 ·exact (congrArg Tr.run (qFW _ _)).trans (qae h fun h=>by cases h)
 ·cases h
def qix:GamT:=ofL []
theorem qtw (gl:Gl):qam Tryz.prog gl (gam qix):=qag
def qjs:Code:=qc3 Tryz.f103 2
def qjd:LI:=⟨26,[0,5],fun e=>match e with|.ret=>[4]|.exit 0=>[]|_=>[],true⟩
def qk6:LpsT:=fun r fr σ=>.fail
def qcE (vs:List PV) (σ:Store):Option (PExit×List PV×Store):=lval (lstep tbT qix qk6 qjs qjd) vs σ
def qdj (s:qU) (i:Int):Tr LR:=let z1:Store:=Store.mk [] [] [];.ite (iLt i (sLen s)) (.ite (qau s i) (.ite (iEq (sAt s i) 34) (.ret (.out .ret [.int .i64 (iAdd .i64 i 1)] z1)) (.ite (qau s i) (.ite (iEq (sAt s i) 92) (.ret (.next [.str s,.int .i64 (iAdd .i64 (iAdd .i64 i 1) 1)] z1)) (.ret (.next [.str s,.int .i64 (iAdd .i64 i 1)] z1))) .fail)) .fail) (.ret (.out (.exit 0) [] z1))
theorem qEZ (s:qU) (i:Int):lstep tbT qix qk6 qjs qjd [.str s,.int .i64 i] ⟨[],[],[]⟩=qdj s i:=by kernel_rfl
theorem quc (s:qU) (i:Int):qcE [.str s,.int .i64 i] ⟨[],[],[]⟩=lnext qcE (qdj s i).run:=by unfold qcE;rw [qaJ,qEZ]
def qgk (s:qU) (i:Int):Option (PExit×List PV×Store):=qcE [.str s,.int .i64 i] ⟨[],[],[]⟩
def qdH (s:qU) (i:Int):Int:=(gInt (gOut (qgk s i) 0))
def qfw (s:qU) (i:Int):Bool:=isW (qgk s i) (.ret,[.int .i64 (qdH s i)],⟨[],[],[]⟩)
def qfu (s:qU) (i:Int):Bool:=isW (qgk s i) ((.exit 0),[],⟨[],[],[]⟩)
def qeb:List PV→Store→Tr (PExit×List PV×Store)|[.str s,.int .i64 i],⟨[],[],[]⟩=>.ite (qfw s i) (.ret (.ret,[.int .i64 (qdH s i)],⟨[],[],[]⟩)) (.ite (qfu s i) (.ret ((.exit 0),[],⟨[],[],[]⟩)) (.fail))|_,_=>.fail
theorem qAK:∀ vs σ r,(qeb vs σ).run=some r→qcE vs σ=some r:=by
 intro vs σ r h;unfold qeb at h
 split at h
 ·exact qae h fun h=>qae h fun h=>by cases h
 ·cases h
theorem qxy (gl:Gl):∀ fr σ e fr' σ',(orc qjd qeb fr σ).run=some (e,fr',σ')→LDoes Tryz.prog gl qjs fr σ e fr' σ':=qbu qai (qtw gl ) qah (L:=qk6) (qac (by kernel_rfl)) (by kernel_rfl) qAK
def qs7:LpsT:=fun r fr σ=>bif Nat.beq r 2 then orc qjd qeb fr σ else .fail
def qou (s:qU) (at_:Int):Tr PV:=let z1:=iAdd .i64 at_ 1;.ite (qfw s z1) (.ret (.int .i64 (qdH s z1))) (.ite (qfu s z1) (.ret (.int .i64 (-1))) .fail)
theorem qGn (s:qU) (at_:Int):(tcall tbT qix qs7 Tryz.f103 [.str s,.int .i64 at_]).flat=qou s at_:=by kernel_rfl
def qnF (s:qU) (at_:Int):Option PV:=(qou s at_).run
def qaV (s:qU) (at_:Int):Int:=(gInt (gVal (qnF s at_)))
def qeL (s:qU) (at_:Int):Bool:=isW (qnF s at_) (.int .i64 (qaV s at_))
def qrP:List PV→Tr PV|[.str s,.int .i64 at_]=>.ite (qeL s at_) (.ret (.int .i64 (qaV s at_))) (.fail)|_=>.fail
theorem qAa (gl:Gl):SimP Tryz.prog gl 103 fun args=>(qrP args).run:=by
 refine SimP.of_flat (G:=qix) (L:=qs7) qai (qtw gl ) qah  Tryz.func103 rfl (by rfl) (by kernel_rfl) (qax (L:=lps qs7) [(2,qjs)] (by kernel_rfl) (List.forall_mem_cons.2 ⟨fun fr σ e fr' σ' h=>qxy gl  fr σ e fr' σ' h,(List.forall_mem_nil _)⟩)) ?_
 intro args x h;unfold qrP at h
 split at h
 ·exact (congrArg Tr.run (qGn _ _)).trans (qae h fun h=>by cases h)
 ·cases h
def qA8:GamT:=ofL []
theorem qIF (gl:Gl):qam Tryz.prog gl (gam qA8):=qag
def qFO:LpsT:=fun r fr σ=>.fail
def qvJ (v:qU) (v2:Int):Tr PV:=let z1:=sSub v (nNat v2) (nNat (iAdd .i64 v2 2));let z2:=qau v v2;let z3:=sAt v v2;let z4:Tr PV:=.ite z2 (.ite (iEq z3 40) (.ret (.int .i64 1)) (.ite z2 (.ite (iEq z3 41) (.ret (.int .i64 1)) (.ite z2 (.ite (iEq z3 44) (.ret (.int .i64 1)) (.ite z2 (.ite (iEq z3 46) (.ret (.int .i64 1)) (.ite z2 (.ite (iEq z3 43) (.ret (.int .i64 1)) (.ite z2 (.ite (iEq z3 45) (.ret (.int .i64 1)) (.ite z2 (.ite (iEq z3 61) (.ret (.int .i64 1)) (.ite z2 (.ite (iEq z3 58) (.ret (.int .i64 1)) (.ite z2 (.ite (iEq z3 60) (.ret (.int .i64 1)) (.ite z2 (.ite (iEq z3 62) (.ret (.int .i64 1)) (.ret (.int .i64 0))) .fail)) .fail)) .fail)) .fail)) .fail)) .fail)) .fail)) .fail)) .fail)) .fail;.ite (iLe 2 (iSub .i64 (sLen v) v2)) (.ite (qa1 (qas v2) (qas (iAdd .i64 v2 2)) (nNat v2) (nNat (iAdd .i64 v2 2)) (nLen v)) (.ite (sEq z1 [58,45]) (.ret (.int .i64 2)) (.ite (sEq z1 [60,61]) (.ret (.int .i64 2)) (.ite (sEq z1 [62,61]) (.ret (.int .i64 2)) (.ite (sEq z1 [33,61]) (.ret (.int .i64 2)) z4)))) .fail) (.ite (sEq [] [58,45]) (.ret (.int .i64 2)) (.ite (sEq [] [60,61]) (.ret (.int .i64 2)) (.ite (sEq [] [62,61]) (.ret (.int .i64 2)) (.ite (sEq [] [33,61]) (.ret (.int .i64 2)) z4))))
theorem qOd (v:qU) (v2:Int):(tcall tbT qA8 qFO Tryz.f104 [.str v,.int .i64 v2]).flat=qvJ v v2:=by kernel_rfl
def qwe (v:qU) (v2:Int):Option PV:=(qvJ v v2).run
def qdp (v:qU) (v2:Int):Int:=(gInt (gVal (qwe v v2)))
def qiy (v:qU) (v2:Int):Bool:=isW (qwe v v2) (.int .i64 (qdp v v2))
def qBm:List PV→Tr PV|[.str v,.int .i64 v2]=>.ite (qiy v v2) (.ret (.int .i64 (qdp v v2))) (.fail)|_=>.fail
theorem qGb (gl:Gl):SimP Tryz.prog gl 104 fun args=>(qBm args).run:=by
 refine SimP.of_flat (G:=qA8) (L:=qFO) qai (qIF gl ) qah  Tryz.func104 rfl (by rfl) (by kernel_rfl) (qac (by kernel_rfl)) ?_
 intro args x h;unfold qBm at h
 split at h
 ·exact (congrArg Tr.run (qOd _ _)).trans (qae h fun h=>by cases h)
 ·cases h
def qyd:GamT:=ofL [(147,.pure quC)]
theorem qE3 (gl:Gl):qam Tryz.prog gl (gam qyd):=(qaf (qHb gl) qag)
def qD7:LpsT:=fun r fr σ=>.fail
def qs0 (k:Int) (s:qU) (at_:Int):Tr PV:=.ite (qkV s) (.ite (iNe (eRd s) 0) (.ret (.tup [.agg [.int .i64 0,.str [],.int .i64 0,.int .i64 0,.str [],.int .i64 0],.bool false])) (.ret (.tup [.agg [.int .i64 k,.str s,.int .i64 (kRd s),.int .i64 (nRd s),.str (sRd s),.int .i64 at_],.bool true]))) .fail
theorem qJw (k:Int) (s:qU) (at_:Int):(tcall tbT qyd qD7 Tryz.f101 [.int .i64 k,.str s,.int .i64 at_]).flat=qs0 k s at_:=by kernel_rfl
def qdD (k:Int) (s:qU) (at_:Int):Option PV:=(qs0 k s at_).run
def qfn (k:Int) (s:qU) (at_:Int):Int:=(gInt (gAt (gCs (gAt (gCs (gVal (qdD k s at_))) 0)) 0))
def qff (k:Int) (s:qU) (at_:Int):qU:=(gStr (gAt (gCs (gAt (gCs (gVal (qdD k s at_))) 0)) 1))
def qdI (k:Int) (s:qU) (at_:Int):Int:=(gInt (gAt (gCs (gAt (gCs (gVal (qdD k s at_))) 0)) 2))
def qdP (k:Int) (s:qU) (at_:Int):Int:=(gInt (gAt (gCs (gAt (gCs (gVal (qdD k s at_))) 0)) 3))
def qdL (k:Int) (s:qU) (at_:Int):qU:=(gStr (gAt (gCs (gAt (gCs (gVal (qdD k s at_))) 0)) 4))
def qdM (k:Int) (s:qU) (at_:Int):Int:=(gInt (gAt (gCs (gAt (gCs (gVal (qdD k s at_))) 0)) 5))
def qfo (k:Int) (s:qU) (at_:Int):Bool:=(qbQ (gAt (gCs (gVal (qdD k s at_))) 1))
def qeq (k:Int) (s:qU) (at_:Int):Bool:=isW (qdD k s at_) (.tup [.agg [.int .i64 (qfn k s at_),.str (qff k s at_),.int .i64 (qdI k s at_),.int .i64 (qdP k s at_),.str (qdL k s at_),.int .i64 (qdM k s at_)],.bool (qfo k s at_)])
def qx7:List PV→Tr PV|[.int .i64 k,.str s,.int .i64 at_]=>.ite (qeq k s at_) (.ret (.tup [.agg [.int .i64 (qfn k s at_),.str (qff k s at_),.int .i64 (qdI k s at_),.int .i64 (qdP k s at_),.str (qdL k s at_),.int .i64 (qdM k s at_)],.bool (qfo k s at_)])) (.fail)|_=>.fail
theorem qES (gl:Gl):SimP Tryz.prog gl 101 fun args=>(qx7 args).run:=by
 refine SimP.of_flat (G:=qyd) (L:=qD7) qai (qE3 gl ) qah  Tryz.func101 rfl (by rfl) (by kernel_rfl) (qac (by kernel_rfl)) ?_
 intro args x h;unfold qx7 at h
 split at h
 ·exact (congrArg Tr.run (qJw _ _ _)).trans (qae h fun h=>by cases h)
 ·cases h
def qA3:GamT:=ofL [(97,.pure qrj),(98,.pure qqb),(99,.pure qB9),(100,.pure qnp),(101,.pure qx7),(102,.pure qrC),(103,.pure qrP),(104,.pure qBm)]
theorem qGK (gl:Gl):qam Tryz.prog gl (gam qA3):=(qaf (qt4 gl) (qaf (qtZ gl) (qaf (qJe gl) (qaf (qoS gl) (qaf (qES gl) (qaf (qBl gl) (qaf (qAa gl) (qaf (qGb gl) qag))))))))
def qHX:LpsT:=fun r fr σ=>.fail
def qw0 (v:qU) (v2:Int):Tr PV:=let z1:=sAt v v2;let z2:=qoA v v2;let z3:=nNat v2;let z4:=qa1 (qas v2) (qas z2) z3 (nNat z2) (nLen v);let z5:=sSub v z3 (nNat z2);let z6:=iLt 64 (sLen z5);let z7:=iAdd .i64 v2 1;let z8:Tr PV:=.ite (qiu v v2) (.ite (qej z1) (.ite (qfk z1) (.ite z4 (.ite (iEq z2 v2) (.ret (.tup [.agg [.int .i64 0,.str [],.int .i64 0,.int .i64 0,.str [],.int .i64 0],.bool false])) (.ite z6 (.ret (.tup [.agg [.int .i64 0,.str [],.int .i64 0,.int .i64 0,.str [],.int .i64 0],.bool false])) (.ite (iEq 2 3) (.ite (iNe z2 z7) (.ret (.tup [.agg [.int .i64 0,.str [],.int .i64 0,.int .i64 0,.str [],.int .i64 0],.bool false])) (.ret (.tup [.agg [.int .i64 2,.str z5,.int .i64 0,.int .i64 0,.str [],.int .i64 v2],.bool true]))) (.ret (.tup [.agg [.int .i64 2,.str z5,.int .i64 0,.int .i64 0,.str [],.int .i64 v2],.bool true]))))) .fail) (.ite z4 (.ite (iEq z2 v2) (.ret (.tup [.agg [.int .i64 0,.str [],.int .i64 0,.int .i64 0,.str [],.int .i64 0],.bool false])) (.ite z6 (.ret (.tup [.agg [.int .i64 0,.str [],.int .i64 0,.int .i64 0,.str [],.int .i64 0],.bool false])) (.ite (iEq 1 3) (.ite (iNe z2 z7) (.ret (.tup [.agg [.int .i64 0,.str [],.int .i64 0,.int .i64 0,.str [],.int .i64 0],.bool false])) (.ret (.tup [.agg [.int .i64 1,.str z5,.int .i64 0,.int .i64 0,.str [],.int .i64 v2],.bool true]))) (.ret (.tup [.agg [.int .i64 1,.str z5,.int .i64 0,.int .i64 0,.str [],.int .i64 v2],.bool true]))))) .fail)) .fail) .fail;let z9:=sSub v z3 (nNat (qcJ v z7));let z10:Tr PV:=.ite (qeY v z7) (.ite (qa1 (qas v2) (qas (qcJ v z7)) z3 (nNat (qcJ v z7)) (nLen v)) (.ite (qeq 4 z9 v2) (.ret (.tup [.agg [.int .i64 (qfn 4 z9 v2),.str (qff 4 z9 v2),.int .i64 (qdI 4 z9 v2),.int .i64 (qdP 4 z9 v2),.str (qdL 4 z9 v2),.int .i64 (qdM 4 z9 v2)],.bool (qfo 4 z9 v2)])) .fail) .fail) .fail;let z11:=sSub v z3 (nNat (qaV v v2));let z12:=iAdd .i64 v2 (qdp v v2);let z13:Tr PV:=.ite (iEq z1 34) (.ite (qeL v v2) (.ite (iLt (qaV v v2) 0) (.ret (.tup [.agg [.int .i64 0,.str [],.int .i64 0,.int .i64 0,.str [],.int .i64 0],.bool false])) (.ite (qa1 (qas v2) (qas (qaV v v2)) z3 (nNat (qaV v v2)) (nLen v)) (.ite (qeq 5 z11 v2) (.ret (.tup [.agg [.int .i64 (qfn 5 z11 v2),.str (qff 5 z11 v2),.int .i64 (qdI 5 z11 v2),.int .i64 (qdP 5 z11 v2),.str (qdL 5 z11 v2),.int .i64 (qdM 5 z11 v2)],.bool (qfo 5 z11 v2)])) .fail) .fail)) .fail) (.ite (qiy v v2) (.ite (qa1 (qas v2) (qas z12) z3 (nNat z12) (nLen v)) (.ite (iEq z12 v2) (.ret (.tup [.agg [.int .i64 0,.str [],.int .i64 0,.int .i64 0,.str [],.int .i64 0],.bool false])) (.ite (iLt 64 (sLen (sSub v z3 (nNat z12)))) (.ret (.tup [.agg [.int .i64 0,.str [],.int .i64 0,.int .i64 0,.str [],.int .i64 0],.bool false])) (.ite (iEq 6 3) (.ite (iNe z12 z7) (.ret (.tup [.agg [.int .i64 0,.str [],.int .i64 0,.int .i64 0,.str [],.int .i64 0],.bool false])) (.ret (.tup [.agg [.int .i64 6,.str (sSub v z3 (nNat z12)),.int .i64 0,.int .i64 0,.str [],.int .i64 v2],.bool true]))) (.ret (.tup [.agg [.int .i64 6,.str (sSub v z3 (nNat z12)),.int .i64 0,.int .i64 0,.str [],.int .i64 v2],.bool true]))))) .fail) .fail);.ite (qau v v2) (.ite (qfY z1) (.ite (qhA z1) z8 (.ite (qej z1) (.ite (qfk z1) z8 (.ite (iEq z1 95) (.ite (qiu v v2) (.ite z4 (.ite (iEq z2 v2) (.ret (.tup [.agg [.int .i64 0,.str [],.int .i64 0,.int .i64 0,.str [],.int .i64 0],.bool false])) (.ite z6 (.ret (.tup [.agg [.int .i64 0,.str [],.int .i64 0,.int .i64 0,.str [],.int .i64 0],.bool false])) (.ite (iEq 3 3) (.ite (iNe z2 z7) (.ret (.tup [.agg [.int .i64 0,.str [],.int .i64 0,.int .i64 0,.str [],.int .i64 0],.bool false])) (.ret (.tup [.agg [.int .i64 3,.str z5,.int .i64 0,.int .i64 0,.str [],.int .i64 v2],.bool true]))) (.ret (.tup [.agg [.int .i64 3,.str z5,.int .i64 0,.int .i64 0,.str [],.int .i64 v2],.bool true]))))) .fail) .fail) (.ite (qdd z1) (.ite (qec z1) z10 (.ite (iEq z1 45) (.ite (iLt z7 (sLen v)) (.ite (qau v z7) (.ite (qdd (sAt v z7)) (.ite (qec (sAt v z7)) z10 z13) .fail) .fail) z13) z13)) .fail))) .fail)) .fail) .fail
theorem qOC (v:qU) (v2:Int):(tcall tbT qA3 qHX Tryz.f44 [.str v,.int .i64 v2]).flat=qw0 v v2:=by kernel_rfl
def qfK (v:qU) (v2:Int):Option PV:=(qw0 v v2).run
def qdW (v:qU) (v2:Int):Int:=(gInt (gAt (gCs (gAt (gCs (gVal (qfK v v2))) 0)) 0))
def qcM (v:qU) (v2:Int):qU:=(gStr (gAt (gCs (gAt (gCs (gVal (qfK v v2))) 0)) 1))
def qcq (v:qU) (v2:Int):Int:=(gInt (gAt (gCs (gAt (gCs (gVal (qfK v v2))) 0)) 2))
def qcs (v:qU) (v2:Int):Int:=(gInt (gAt (gCs (gAt (gCs (gVal (qfK v v2))) 0)) 3))
def qcp (v:qU) (v2:Int):qU:=(gStr (gAt (gCs (gAt (gCs (gVal (qfK v v2))) 0)) 4))
def qcr (v:qU) (v2:Int):Int:=(gInt (gAt (gCs (gAt (gCs (gVal (qfK v v2))) 0)) 5))
def qfH (v:qU) (v2:Int):Bool:=(qbQ (gAt (gCs (gVal (qfK v v2))) 1))
def qeT (v:qU) (v2:Int):Bool:=isW (qfK v v2) (.tup [.agg [.int .i64 (qdW v v2),.str (qcM v v2),.int .i64 (qcq v v2),.int .i64 (qcs v v2),.str (qcp v v2),.int .i64 (qcr v v2)],.bool (qfH v v2)])
def qB0:List PV→Tr PV|[.str v,.int .i64 v2]=>.ite (qeT v v2) (.ret (.tup [.agg [.int .i64 (qdW v v2),.str (qcM v v2),.int .i64 (qcq v v2),.int .i64 (qcs v v2),.str (qcp v v2),.int .i64 (qcr v v2)],.bool (qfH v v2)])) (.fail)|_=>.fail
theorem qIN (gl:Gl):SimP Tryz.prog gl 44 fun args=>(qB0 args).run:=by
 refine SimP.of_flat (G:=qA3) (L:=qHX) qai (qGK gl ) qah  Tryz.func44 rfl (by rfl) (by kernel_rfl) (qac (by kernel_rfl)) ?_
 intro args x h;unfold qB0 at h
 split at h
 ·exact (congrArg Tr.run (qOC _ _)).trans (qae h fun h=>by cases h)
 ·cases h
def qj3:GamT:=ofL [(43,.pure qGT),(44,.pure qB0)]
theorem qt0 (gl:Gl):qam Tryz.prog gl (gam qj3):=(qaf (qK6 gl) (qaf (qIN gl) qag))
def qia:Code:=qc3 Tryz.f15 5
def qiF:LI:=⟨39,[0,5,6],fun e=>match e with|.ret=>[2,3,4]|.exit 0=>[5]|_=>[],true⟩
def qj4:LpsT:=fun r fr σ=>.fail
def qbi (vs:List PV) (σ:Store):Option (PExit×List PV×Store):=lval (lstep tbT qj3 qj4 qia qiF) vs σ
def qgq (s:qU) (out:qR) (at_:Int):Tr LR:=let z1:=iAdd .i64 at_ (sLen (qcM s at_));let z2:=xApp out [[.int .i64 (qdW s at_),.str (qcM s at_),.int .i64 (qcq s at_),.int .i64 (qcs s at_),.str (qcp s at_),.int .i64 (qcr s at_)]];.ite (iLt at_ (sLen s)) (.ite (qeT s at_) (.ite (bNot (qfH s at_)) (.ret (.out .ret [.sl (qaB 0 []) .full,.int .i64 at_,.int .i64 120] ⟨[],[],[]⟩)) (.ite (qaz out [[.int .i64 (qdW s at_),.str (qcM s at_),.int .i64 (qcq s at_),.int .i64 (qcs s at_),.str (qcp s at_),.int .i64 (qcr s at_)]] 64) (.ite (qar [[.int .i64 (qdW s at_),.str (qcM s at_),.int .i64 (qcq s at_),.int .i64 (qcs s at_),.str (qcp s at_),.int .i64 (qcr s at_)]] 6) (.ite (qan out 6) (.ite (qfr s z1) (.ret (.next [.str s,.sl (qaB 0 z2) (.tok 0),.int .i64 (qky s z1)] (Store.mk [] [(nXs z2,6,44)] []))) .fail) .fail) .fail) .fail)) .fail) (.ret (.out (.exit 0) [.sl out .full] ⟨[],[],[]⟩))
theorem qGQ (s:qU) (out:qR) (at_:Int):lstep tbT qj3 qj4 qia qiF [.str s,.sl out .full,.int .i64 at_] ⟨[],[],[]⟩=qgq s out at_:=by kernel_rfl
theorem qr6 (s:qU) (out:qR) (at_:Int):qbi [.str s,.sl out .full,.int .i64 at_] ⟨[],[],[]⟩=lnext qbi (qgq s out at_).run:=by unfold qbi;rw [qaJ,qGQ]
def qeZ (s:qU) (out:qR) (at_:Int) (k:Nat):Tr LR:=let z1:=iAdd .i64 at_ (sLen (qcM s at_));let z2:=xApp out [[.int .i64 (qdW s at_),.str (qcM s at_),.int .i64 (qcq s at_),.int .i64 (qcs s at_),.str (qcp s at_),.int .i64 (qcr s at_)]];.ite (iLt at_ (sLen s)) (.ite (qeT s at_) (.ite (bNot (qfH s at_)) (.ret (.out .ret [.sl (qaB 0 []) .full,.int .i64 at_,.int .i64 120] (Store.mk [] [(k,6,44)] []))) (.ite (qaz out [[.int .i64 (qdW s at_),.str (qcM s at_),.int .i64 (qcq s at_),.int .i64 (qcs s at_),.str (qcp s at_),.int .i64 (qcr s at_)]] 64) (.ite (qar [[.int .i64 (qdW s at_),.str (qcM s at_),.int .i64 (qcq s at_),.int .i64 (qcs s at_),.str (qcp s at_),.int .i64 (qcr s at_)]] 6) (.ite (qan out 6) (.ite (nEq k (nXs out)) (.ite (qfr s z1) (.ret (.next [.str s,.sl (qaB 0 z2) (.tok 0),.int .i64 (qky s z1)] (Store.mk [] [(nXs z2,6,44)] []))) .fail) .fail) .fail) .fail) .fail)) .fail) (.ret (.out (.exit 0) [.sl out (.tok 0)] (Store.mk [] [(k,6,44)] [])))
theorem qFx (s:qU) (out:qR) (at_:Int) (k:Nat):lstep tbT qj3 qj4 qia qiF [.str s,.sl out (.tok 0),.int .i64 at_] ⟨[],[(k,6,44)],[]⟩=qeZ s out at_ k:=by kernel_rfl
theorem qop (s:qU) (out:qR) (at_:Int) (k:Nat):qbi [.str s,.sl out (.tok 0),.int .i64 at_] ⟨[],[(k,6,44)],[]⟩=lnext qbi (qeZ s out at_ k).run:=by unfold qbi;rw [qaJ,qFx]
def qa0 (s:qU) (out:qR) (at_:Int):Option (PExit×List PV×Store):=qbi [.str s,.sl out .full,.int .i64 at_] ⟨[],[],[]⟩
def qcu (s:qU) (out:qR) (at_:Int):qR:=(gRow (gOut (qa0 s out at_) 0))
def qcx (s:qU) (out:qR) (at_:Int):Int:=(gInt (gOut (qa0 s out at_) 1))
def qbO (s:qU) (out:qR) (at_:Int):Int:=(gInt (gOut (qa0 s out at_) 2))
def qdl (s:qU) (out:qR) (at_:Int):Bool:=isW (qa0 s out at_) (.ret,[.sl (qcu s out at_) .full,.int .i64 (qcx s out at_),.int .i64 (qbO s out at_)],⟨[],[],[]⟩)
def qbA (s:qU) (out:qR) (at_:Int):qR:=(gRow (gOut (qa0 s out at_) 0))
def qdq (s:qU) (out:qR) (at_:Int):Bool:=isW (qa0 s out at_) ((.exit 0),[.sl (qbA s out at_) .full],⟨[],[],[]⟩)
def qcy (s:qU) (out:qR) (at_:Int):qR:=(gRow (gOut (qa0 s out at_) 0))
def qcv (s:qU) (out:qR) (at_:Int):Int:=(gInt (gOut (qa0 s out at_) 1))
def qbP (s:qU) (out:qR) (at_:Int):Int:=(gInt (gOut (qa0 s out at_) 2))
def qdo (s:qU) (out:qR) (at_:Int):Nat:=(gTok (qa0 s out at_) 0)
def qda (s:qU) (out:qR) (at_:Int):Bool:=isW (qa0 s out at_) (.ret,[.sl (qcy s out at_) .full,.int .i64 (qcv s out at_),.int .i64 (qbP s out at_)],⟨[],[((qdo s out at_),6,44)],[]⟩)
def qbB (s:qU) (out:qR) (at_:Int):qR:=(gRow (gOut (qa0 s out at_) 0))
def qdi (s:qU) (out:qR) (at_:Int):Nat:=(gTok (qa0 s out at_) 0)
def qdv (s:qU) (out:qR) (at_:Int):Bool:=isW (qa0 s out at_) ((.exit 0),[.sl (qbB s out at_) (.tok 0)],⟨[],[((qdi s out at_),6,44)],[]⟩)
def qfB:List PV→Store→Tr (PExit×List PV×Store)|[.str s,.sl out .full,.int .i64 at_],⟨[],[],[]⟩=>.ite (qdl s out at_) (.ret (.ret,[.sl (qcu s out at_) .full,.int .i64 (qcx s out at_),.int .i64 (qbO s out at_)],⟨[],[],[]⟩)) (.ite (qdq s out at_) (.ret ((.exit 0),[.sl (qbA s out at_) .full],⟨[],[],[]⟩)) (.ite (qda s out at_) (.ret (.ret,[.sl (qcy s out at_) .full,.int .i64 (qcv s out at_),.int .i64 (qbP s out at_)],⟨[],[((qdo s out at_),6,44)],[]⟩)) (.ite (qdv s out at_) (.ret ((.exit 0),[.sl (qbB s out at_) (.tok 0)],⟨[],[((qdi s out at_),6,44)],[]⟩)) (.fail))))|_,_=>.fail
theorem qE7:∀ vs σ r,(qfB vs σ).run=some r→qbi vs σ=some r:=by
 intro vs σ r h;unfold qfB at h
 split at h
 ·exact qae h fun h=>qae h fun h=>qae h fun h=>qae h fun h=>by cases h
 ·cases h
theorem qyu (gl:Gl):∀ fr σ e fr' σ',(orc qiF qfB fr σ).run=some (e,fr',σ')→LDoes Tryz.prog gl qia fr σ e fr' σ':=qbu qai (qt0 gl ) qah (L:=qj4) (qac (by kernel_rfl)) (by kernel_rfl) qE7
def qxe:LpsT:=fun r fr σ=>bif Nat.beq r 5 then orc qiF qfB fr σ else .fail
def qlR (s:qU):Tr PV:=let z1:=qky s 0;.ite (iLt 65536 (sLen s)) (.ret (.tup [.sl [] .non,.int .i64 0,.int .i64 2])) (.ite (qfr s 0) (.ite (qdl s [] z1) (.ret (.tup [.sl (qaa (qcu s [] z1)) .non,.int .i64 (qcx s [] z1),.int .i64 (qbO s [] z1)])) (.ite (qdq s [] z1) (.ret (.tup [.sl (qaa (qbA s [] z1)) .non,.int .i64 0,.int .i64 0])) (.ite (qda s [] z1) (.ret (.tup [.sl (qaa (qcy s [] z1)) .non,.int .i64 (qcv s [] z1),.int .i64 (qbP s [] z1)])) (.ite (qdv s [] z1) (.ret (.tup [.sl (qaa (qbB s [] z1)) .non,.int .i64 0,.int .i64 0])) .fail)))) .fail)
theorem qJu (s:qU):(tcall tbT qj3 qxe Tryz.f15 [.str s]).flat=qlR s:=by kernel_rfl
def qea (s:qU):Option PV:=(qlR s).run
def qqL (s:qU):qR:=(gRow (gAt (gCs (gVal (qea s))) 0))
def qxB (s:qU):Int:=(gInt (gAt (gCs (gVal (qea s))) 1))
def qnm (s:qU):Int:=(gInt (gAt (gCs (gVal (qea s))) 2))
def qn0 (s:qU):Bool:=isW (qea s) (.tup [.sl (qqL s) .non,.int .i64 (qxB s),.int .i64 (qnm s)])
def qxg:List PV→Tr PV|[.str s]=>.ite (qn0 s) (.ret (.tup [.sl (qqL s) .non,.int .i64 (qxB s),.int .i64 (qnm s)])) (.fail)|_=>.fail
theorem qFq (gl:Gl):SimP Tryz.prog gl 15 fun args=>(qxg args).run:=by
 refine SimP.of_flat (G:=qj3) (L:=qxe) qai (qt0 gl ) qah  Tryz.func15 rfl (by rfl) (by kernel_rfl) (qax (L:=lps qxe) [(5,qia)] (by kernel_rfl) (List.forall_mem_cons.2 ⟨fun fr σ e fr' σ' h=>qyu gl  fr σ e fr' σ' h,(List.forall_mem_nil _)⟩)) ?_
 intro args x h;unfold qxg at h
 split at h
 ·exact (congrArg Tr.run (qJu _)).trans (qae h fun h=>by cases h)
 ·cases h
end Go.Pv
set_option maxHeartbeats 8000000
set_option maxRecDepth 200000
set_option linter.unusedSimpArgs false
set_option linter.unusedVariables false
namespace Go.Pv
open Go Go.Proofs Go.RowKit
theorem qum (c:Int):qp2 c=some (.bool (smI c)):=by
 unfold qp2 qsS smI
 try dsimp only
 by_cases h:(97:Int)≤c<;>simp [h]
@[simp] theorem qiW (c:Int):qfY c=true:=by simp [qfY,qhA,qum]
@[simp] theorem qnL (c:Int):qhA c=smI c:=by simp [qhA,qum]
theorem quv (c:Int):qq6 c=some (.bool (grI c)):=by
 unfold qq6 qse grI
 try dsimp only
 by_cases h:(65:Int)≤c<;>simp [h]
@[simp] theorem qiC (c:Int):qej c=true:=by simp [qej,qfk,quv]
@[simp] theorem qmJ (c:Int):qfk c=grI c:=by simp [qfk,quv]
theorem qu0 (c:Int):qqs c=some (.bool (dgI c)):=by
 unfold qqs qsC dgI
 try dsimp only
 by_cases h:(48:Int)≤c<;>simp [h]
@[simp] theorem qz6 (c:Int):qdd c=true:=by simp [qdd,qec,qu0]
@[simp] theorem qDW (c:Int):qec c=dgI c:=by simp [qec,qu0]
theorem qut (c:Int):qqX c=some (.bool (inI c)):=by
 unfold qqX qsc inI
 try dsimp only
 cases h1:smI c<;>cases h2:grI c<;>cases h3:dgI c<;>simp [h1,h2,h3]
@[simp] theorem rinner_is (c:Int):qji c=true:=by simp [qji,qjI,qut]
@[simp] theorem rinner_v (c:Int):qjI c=inI c:=by simp [qjI,qut]
def blI (c:Int):Bool:=decide (c=32) || decide (c=9) || decide (c=10) || decide (c=13)
theorem qJR (b:UInt8):blI (b.toNat:Int)=blB b:=by
 unfold blI blB
 congr 1
 ·congr 1
  ·congr 1<;>(apply decide_eq_decide.2;omega)
  ·apply decide_eq_decide.2;omega
 ·apply decide_eq_decide.2;omega
theorem quY (c:Int):qra c=some (.bool (blI c)):=by
 unfold qra qrW blI
 try dsimp only
 by_cases h1:c=32<;>by_cases h2:c=9<;>by_cases h3:c=10<;>simp [h1,h2,h3]
@[simp] theorem qzR (c:Int):qjM c=true:=by simp [qjM,qhb,quY]
@[simp] theorem rblank_v (c:Int):qhb c=blI c:=by simp [qhb,quY]
theorem qFh (s:qU) (hs:s.length < 9223372036854775807):∀ (m i:Nat),i+m=s.length→qj2 [.str s,.int .i64 (i:Nat)] ⟨[],[],[]⟩=some (.exit 0,[.int .i64 ((i+runL innB (s.drop i):Nat):Int)],⟨[],[],[]⟩):=by
 intro m
 induction m with
 |zero =>
  intro i hi;rw [qDG,List.drop_eq_nil_of_le (by omega)]
  have:¬ (i:Int) < s.length:=by omega
  simp [qiJ,runL,this]
 |succ m ih =>
  intro i hi;obtain⟨b,hb⟩:=qd0 (l:=s) (i:=i) (by omega)
  have hbe:=(List.getElem?_eq_some_iff.1 hb).2;have w:=qbR (i:=i) (by omega)
  have hlt:i < s.length:=by omega
  have h1:=ih (i+1) (by omega)
  rw [qaO hb,qDG];cases hc:innB b with
  |true =>
   have e:i+(runL innB (s.drop (i+1))+1)=i+1+runL innB (s.drop (i+1)):=by omega
   simp only [runL,hc,if_true,e];rw [← h1];simp [qiJ,hlt,hbe,qmz,hc,w]
  |false=>simp [qiJ,hlt,hbe,qmz,hc,runL]
theorem qyy {s:List UInt8} (hs:s.length < 9223372036854775807) {i:Nat} (hi:i≤s.length):qxq s (i:Nat)=some (.int .i64 ((i+runL innB (s.drop i):Nat):Int)):=by
 have h:=qFh s hs (s.length - i) i (by omega)
 unfold qxq qwo
 try dsimp only
 simp only [qoj,qkh,qv6,h];simp
theorem qK1 {s:List UInt8} (hs:s.length < 9223372036854775807) {i:Nat} (hi:i≤s.length):qiu s (i:Nat)=true:=by simp only [qiu,qoA,qyy hs hi];simp
theorem qOH {s:List UInt8} (hs:s.length < 9223372036854775807) {i:Nat} (hi:i≤s.length):qoA s (i:Nat)=((i+runL innB (s.drop i):Nat):Int):=by simp only [qoA,qyy hs hi];simp
theorem qz3 (s:qU) (hs:s.length < 9223372036854775807):∀ (m i:Nat),i+m=s.length→qep [.str s,.int .i64 (i:Nat)] ⟨[],[],[]⟩=some (.exit 0,[.int .i64 ((i+runL qat (s.drop i):Nat):Int)],⟨[],[],[]⟩):=by
 intro m
 induction m with
 |zero =>
  intro i hi;rw [quQ,List.drop_eq_nil_of_le (by omega)]
  have:¬ (i:Int) < s.length:=by omega
  simp [qex,runL,this]
 |succ m ih =>
  intro i hi;obtain⟨b,hb⟩:=qd0 (l:=s) (i:=i) (by omega)
  have hbe:=(List.getElem?_eq_some_iff.1 hb).2;have w:=qbR (i:=i) (by omega)
  have hlt:i < s.length:=by omega
  have h1:=ih (i+1) (by omega)
  rw [qaO hb,quQ];cases hc:qat b with
  |true =>
   have e:i+(runL qat (s.drop (i+1))+1)=i+1+runL qat (s.drop (i+1)):=by omega
   simp only [runL,hc,if_true,e];rw [← h1];simp [qex,hlt,hbe,qc0,hc,w]
  |false=>simp [qex,hlt,hbe,qc0,hc,runL]
theorem qsB {s:List UInt8} (hs:s.length < 9223372036854775807) {i:Nat} (hi:i≤s.length):qm9 s (i:Nat)=some (.int .i64 ((i+runL qat (s.drop i):Nat):Int)):=by
 have h:=qz3 s hs (s.length - i) i (by omega)
 unfold qm9 qor
 try dsimp only
 simp only [qiD,qfp,qoB,h];simp
theorem qEa {s:List UInt8} (hs:s.length < 9223372036854775807) {i:Nat} (hi:i≤s.length):qeY s (i:Nat)=true:=by simp only [qeY,qcJ,qsB hs hi];simp
theorem qIO {s:List UInt8} (hs:s.length < 9223372036854775807) {i:Nat} (hi:i≤s.length):qcJ s (i:Nat)=((i+runL qat (s.drop i):Nat):Int):=by simp only [qcJ,qsB hs hi];simp
theorem qIC (s:qU) (hs:s.length < 9223372036854775807):∀ (m i:Nat) (c:Bool),i+m=s.length→qoV [.str s,.int .i64 (i:Nat),.bool c] ⟨[],[],[]⟩=some (.exit 0,[.int .i64 ((i+gapL c (s.drop i):Nat):Int)],⟨[],[],[]⟩):=by
 intro m
 induction m with
 |zero =>
  intro i c hi;rw [qHZ,List.drop_eq_nil_of_le (by omega)]
  have:¬ (i:Int) < s.length:=by omega
  simp [qmD,gapL,this]
 |succ m ih =>
  intro i c hi;obtain⟨b,hb⟩:=qd0 (l:=s) (i:=i) (by omega)
  have hbe:=(List.getElem?_eq_some_iff.1 hb).2;have w:=qbR (i:=i) (by omega)
  have hlt:i < s.length:=by omega
  rw [qaO hb,qHZ];have q1:iEq (sAt s (i:Int)) 37=decide (b.toNat=37):=by simp [hlt,hbe];omega
  have q2:iNe (sAt s (i:Int)) 10=decide (b.toNat≠10):=by simp [hlt,hbe];omega
  have q3:qhb (sAt s (i:Int))=blB b:=by simp [hlt,hbe,qJR]
  have q4:qau s (i:Int)=true:=by simp;omega
  have q5:iLt (i:Int) (sLen s)=true:=by simp;omega
  have h1:=ih (i+1) (decide (b.toNat=37) || c&&decide (b.toNat≠10)) (by omega)
  cases hg:(c || blB b || decide (b.toNat=37)) with
  |true =>
   have e:gapL c (b::s.drop (i+1))=gapL (decide (b.toNat=37) || c&&decide (b.toNat≠10)) (s.drop (i+1))+1:=by
    simp only [gapL,hg,if_true]
   rw [e,show i+(gapL (decide (b.toNat=37) || c&&decide (b.toNat≠10)) (s.drop (i+1))+1)=i+1+gapL (decide (b.toNat=37) || c&&decide (b.toNat≠10)) (s.drop (i+1)) from by omega,← h1]
   simp only [qmD,q1,q2,q3,q4,q5,qzR,w];cases c<;>cases hb2:blB b<;>by_cases h37:b.toNat=37<;>simp [hb2,h37] at hg ⊢
  |false =>
   have e:gapL c (b::s.drop (i+1))=0:=by
    simp only [gapL,hg,Bool.false_eq_true,if_false]
   rw [e];simp only [Bool.or_eq_false_iff,decide_eq_false_iff_not] at hg;obtain⟨⟨rfl,hb2⟩,h37⟩:=hg;simp only [qmD,q1,q2,q3,q4,q5,qzR,w,hb2];simp [h37]
theorem qDm {s:List UInt8} (hs:s.length < 9223372036854775807) {i:Nat} (hi:i≤s.length):qCI s (i:Nat)=some (.int .i64 ((i+gapL false (s.drop i):Nat):Int)):=by
 have h:=qIC s hs (s.length - i) i false (by omega)
 unfold qCI qBV
 try dsimp only
 simp only [qtd,ql8,qAI,h];simp
theorem qGv {s:List UInt8} (hs:s.length < 9223372036854775807) {i:Nat} (hi:i≤s.length):qfr s (i:Nat)=true:=by simp only [qfr,qky,qDm hs hi];simp
theorem qLt {s:List UInt8} (hs:s.length < 9223372036854775807) {i:Nat} (hi:i≤s.length):qky s (i:Nat)=((i+gapL false (s.drop i):Nat):Int):=by simp only [qky,qDm hs hi];simp
theorem qy1 (s:qU) (hs:s.length < 9223372036854775800):∀ (m i:Nat),s.length≤i+m→i≤s.length+1→qcE [.str s,.int .i64 (i:Nat)] ⟨[],[],[]⟩=qOut i (quoE false (s.drop i)):=by
 have hend:∀ i:Nat,s.length≤i→qcE [.str s,.int .i64 (i:Nat)] ⟨[],[],[]⟩=some (.exit 0,[],⟨[],[],[]⟩):=fun i hi=>by
  rw [quc];have:¬ (i:Int) < s.length:=by omega
  simp [qdj,this]
 intro m
 induction m with
 |zero =>
  intro i hi _;rw [hend i (by omega),List.drop_eq_nil_of_le (by omega)]
  simp [quoE,qOut]
 |succ m ih =>
  intro i hi hi2;by_cases hlt:i < s.length
  ·obtain⟨b,hb⟩:=qd0 (l:=s) (i:=i) hlt;have hbe:=(List.getElem?_eq_some_iff.1 hb).2;have w:=qbR (i:=i) (by omega)
   have w2:=qbR (i:=i+1) (by omega)
   have h1:=ih (i+1) (by omega) (by omega)
   rw [qaO hb,quc];simp only [quoE];have t1:iLt (i:Int) (sLen s)=true:=by simp;omega
   have t2:qau s (i:Int)=true:=by simp;omega
   have t3:sAt s (i:Int)=b.toNat:=by simp [hbe,hlt]
   by_cases hq:b.toNat=34
   ·rw [if_pos hq];simp only [qdj,t1,t2,t3];simp [hq,w,qOut]
   ·rw [if_neg hq];have hq':¬ ((b.toNat:Int)=34):=by omega
    by_cases hp:b.toNat=92
    ·rw [if_pos hp,qkq];have e1:qcE [.str s,.int .i64 (iAdd .i64 (iAdd .i64 (i:Int) 1) 1)] ⟨[],[],[]⟩=qOut (i+1) (quoE true (s.drop (i+1))):=by
      rw [w,w2];by_cases hl2:i+1 < s.length
      ·obtain⟨c,hc⟩:=qd0 (l:=s) (i:=i+1) hl2;rw [qaO hc];simp only [quoE];rw [qkq];exact ih (i+1+1) (by omega) (by omega)
      ·rw [hend (i+1+1) (by omega),List.drop_eq_nil_of_le (by omega)]
       simp [quoE,qOut]
     rw [← e1];simp only [qdj,t1,t2,t3];simp [hp]
    ·have hp':¬ ((b.toNat:Int)=92):=by omega
     rw [if_neg hp,qkq,← h1,← w];simp only [qdj,t1,t2,t3];simp [hq',hp']
  ·rw [hend i (by omega),List.drop_eq_nil_of_le (by omega)]
   simp [quoE,qOut]
theorem qtg {s:List UInt8} (hs:s.length < 9223372036854775800) {i:Nat} (hi:i < s.length):qnF s (i:Nat)=some (.int .i64 (if quoL (s.drop (i+1))=0 then -1 else ((i+1+quoL (s.drop (i+1)):Nat):Int))):=by
 have h:=qy1 s hs (s.length - (i+1)) (i+1) (by omega) (by omega)
 have w:=qbR (i:=i) (by omega)
 unfold qnF qou
 try dsimp only
 rw [w];unfold qOut at h
 rw [show quoE false (s.drop (i+1))=quoL (s.drop (i+1)) from rfl] at h
 by_cases h0:quoL (s.drop (i+1))=0
 ·rw [if_pos h0] at h ⊢;simp only [qfw,qfu,qdH,qgk,h];simp
 ·rw [if_neg h0] at h ⊢;simp only [qfw,qfu,qdH,qgk,h];simp
theorem qE9 {s:List UInt8} (hs:s.length < 9223372036854775800) {i:Nat} (hi:i < s.length):qeL s (i:Nat)=true:=by simp only [qeL,qaV,qtg hs hi];simp
theorem qG7 {s:List UInt8} (hs:s.length < 9223372036854775800) {i:Nat} (hi:i < s.length):qaV s (i:Nat)=(if quoL (s.drop (i+1))=0 then -1 else ((i+1+quoL (s.drop (i+1)):Nat):Int)):=by simp only [qaV,qtg hs hi];simp
theorem qud {s:List UInt8} (hs:s.length≤140737488355328) (k at_:Int):qdD k s at_=some (if eRd s=0 then wTup k s (kRd s,nRd s,sRd s) at_ true else wTup 0 [] (0,0,[]) 0 false):=by
 unfold qdD qs0 wTup
 try dsimp only
 by_cases h:eRd s=0<;>simp [hs,h]
theorem qrT {s:List UInt8} (hs:s.length≤140737488355328) (k at_:Int):qeq k s at_=true:=by
 simp only [qeq,qfn,qff,qdI,qdP,qdL,qdM,qfo,qud hs];by_cases h:eRd s=0<;>simp [h,wTup]
theorem qx6 {s:List UInt8} (hs:s.length≤140737488355328) (k at_:Int):(PV.tup [.agg [.int .i64 (qfn k s at_),.str (qff k s at_),.int .i64 (qdI k s at_),.int .i64 (qdP k s at_),.str (qdL k s at_),.int .i64 (qdM k s at_)],.bool (qfo k s at_)])=if eRd s=0 then wTup k s (kRd s,nRd s,sRd s) at_ true else wTup 0 [] (0,0,[]) 0 false:=by
 simp only [qfn,qff,qdI,qdP,qdL,qdM,qfo,qud hs];by_cases h:eRd s=0<;>simp [h,wTup]
theorem qyw {v:List UInt8} (hs:v.length < 9223372036854775800) {i:Nat} {c:UInt8} {t:List UInt8} (hv:v.drop i=c::t):qwe v (i:Nat)=some (.int .i64 (qcI c t:Nat)):=by
 have hl:v.length=i+(t.length+1):=by
  have:=congrArg List.length hv;simp at this;omega
 have hc:v[i]?=some c:=by
  have:(v.drop i)[0]?=some c:=by rw [hv];rfl
  simpa using this
 have hbe:=(List.getElem?_eq_some_iff.1 hc).2;have e3:sAt v (i:Int)=(c.toNat:Int):=by
  have:i < v.length:=by omega
  simp [this,hbe]
 have q:qau v (i:Int)=true:=by simp;omega
 have k40:iEq (sAt v (i:Int)) 40=decide (c.toNat=40):=by rw [e3];simp;omega
 have k41:iEq (sAt v (i:Int)) 41=decide (c.toNat=41):=by rw [e3];simp;omega
 have k44:iEq (sAt v (i:Int)) 44=decide (c.toNat=44):=by rw [e3];simp;omega
 have k46:iEq (sAt v (i:Int)) 46=decide (c.toNat=46):=by rw [e3];simp;omega
 have k43:iEq (sAt v (i:Int)) 43=decide (c.toNat=43):=by rw [e3];simp;omega
 have k45:iEq (sAt v (i:Int)) 45=decide (c.toNat=45):=by rw [e3];simp;omega
 have k61:iEq (sAt v (i:Int)) 61=decide (c.toNat=61):=by rw [e3];simp;omega
 have k58:iEq (sAt v (i:Int)) 58=decide (c.toNat=58):=by rw [e3];simp;omega
 have k60:iEq (sAt v (i:Int)) 60=decide (c.toNat=60):=by rw [e3];simp;omega
 have k62:iEq (sAt v (i:Int)) 62=decide (c.toNat=62):=by rw [e3];simp;omega
 have w2:iAdd .i64 (i:Int) 2=((i+2:Nat):Int):=qaD (by omega)
 have w3:iSub .i64 (sLen v) (i:Int)=((t.length+1:Nat):Int):=by
  rw [qgY];unfold iSub;rw [qaD (by omega)]
  omega
 have ones:∀ T:Option PV,T=(if c.toNat=40 then some (.int .i64 1) else if c.toNat=41 then some (.int .i64 1) else if c.toNat=44 then some (.int .i64 1) else if c.toNat=46 then some (.int .i64 1) else if c.toNat=43 then some (.int .i64 1) else if c.toNat=45 then some (.int .i64 1) else if c.toNat=61 then some (.int .i64 1) else if c.toNat=58 then some (.int .i64 1) else if c.toNat=60 then some (.int .i64 1) else if c.toNat=62 then some (.int .i64 1) else some (.int .i64 0))→T=some (.int .i64 ((if qh5 c then 1 else 0:Nat):Int)):=fun T hT=>by
  rw [hT];cases ho:qh5 c with
  |true =>
   simp [qh5] at ho;simp only [if_true]
   repeat' split
   all_goals first|rfl|(exfalso;omega)
  |false =>
   simp [qh5] at ho;simp only [Bool.false_eq_true,if_false]
   repeat' split
   all_goals first|rfl|(exfalso;omega)
 unfold qwe qvJ qcI
 try dsimp only
 rw [w3,w2];cases t with
 |nil =>
  have g:iLe 2 (([]:List UInt8).length+1:Nat)=false:=by decide
  rw [g];simp only [hdIs,Bool.false_eq_true,if_false];refine ones _ ?_;simp only [k40,k41,k44,k46,k43,k45,k61,k58,k60,k62,q];simp
 |cons d u =>
  have g:iLe 2 (((d::u).length+1:Nat):Int)=true:=by simp;omega
  have g2:qa1 (qas (i:Int)) (qas ((i+2:Nat):Int)) (nNat (i:Int)) (nNat ((i+2:Nat):Int)) (nLen v)=true:=by simp at hl ⊢;omega
  have g3:sSub v (nNat (i:Int)) (nNat ((i+2:Nat):Int))=[c,d]:=by
   simp only [qv7,qxQ,Int.toNat_natCast];rw [List.drop_take,hv,show i+2 - i=2 from by omega]
   rfl
  rw [g,g2,g3];have two:∀ a b:UInt8,sEq [c,d] [a,b]=decide (c.toNat=a.toNat∧d.toNat=b.toNat):=fun a b=>by
   simp [← UInt8.toNat_inj]
  rw [two,two,two,two];have ht:hdIs (twoB c) (d::u)=(decide (c.toNat=58∧d.toNat=45) || decide (c.toNat=60∧d.toNat=61) || decide (c.toNat=62∧d.toNat=61) || decide (c.toNat=33∧d.toNat=61)):=rfl;rw [ht];by_cases z1:c.toNat=58∧d.toNat=45
  ·simp [z1]
  ·by_cases z2:c.toNat=60∧d.toNat=61
   ·simp [z2]
   ·by_cases z3:c.toNat=62∧d.toNat=61
    ·simp [z3]
    ·by_cases z4:c.toNat=33∧d.toNat=61
     ·simp [z4]
     ·have y1:decide (c.toNat=(58:UInt8).toNat∧d.toNat=(45:UInt8).toNat)=false:=decide_eq_false z1;have y2:decide (c.toNat=(60:UInt8).toNat∧d.toNat=(61:UInt8).toNat)=false:=decide_eq_false z2;have y3:decide (c.toNat=(62:UInt8).toNat∧d.toNat=(61:UInt8).toNat)=false:=decide_eq_false z3;have y4:decide (c.toNat=(33:UInt8).toNat∧d.toNat=(61:UInt8).toNat)=false:=decide_eq_false z4;rw [y1,y2,y3,y4,decide_eq_false z1,decide_eq_false z2,decide_eq_false z3,decide_eq_false z4];simp only [Bool.or_false,Bool.false_eq_true,if_false];refine ones _ ?_;simp only [k40,k41,k44,k46,k43,k45,k61,k58,k60,k62,q];simp
theorem qKf {v:List UInt8} (hs:v.length < 9223372036854775800) {i:Nat} {c:UInt8} {t:List UInt8} (hv:v.drop i=c::t):qiy v (i:Nat)=true:=by simp only [qiy,qdp,qyw hs hv];simp
theorem qOu {v:List UInt8} (hs:v.length < 9223372036854775800) {i:Nat} {c:UInt8} {t:List UInt8} (hv:v.drop i=c::t):qdp v (i:Nat)=(qcI c t:Nat):=by simp only [qdp,qyw hs hv];simp
def rOut (v:qU) (i:Nat):Option (Int×Nat×Vl)→PV
 |some (k,m,x)=>wTup k ((v.drop i).take m) x (i:Nat) true
 |none=>wTup 0 [] (0,0,[]) 0 false
theorem qBL (k:Int) (s:qU) (n:Nat) (v:qU) (i:Nat) (hv:v.drop i=s):rOut v i (valL k s n)=if eRd (s.take n)=0 then wTup k (s.take n) (kRd (s.take n),nRd (s.take n),sRd (s.take n)) (i:Nat) true else wTup 0 [] (0,0,[]) 0 false:=by
 unfold valL eRd kRd nRd sRd rOut;rw [hv];cases h:rdV (s.take n)<;>simp
theorem qHA {v:List UInt8} (hs:v.length≤140737488355328) {i:Nat} {c:UInt8} {t:List UInt8} (hv:v.drop i=c::t):qfK v (i:Nat)=some (rOut v i (wdL (c::t))):=by
 have hs1:v.length < 9223372036854775807:=by omega
 have hs2:v.length < 9223372036854775800:=by omega
 have hl:v.length=i+(t.length+1):=by
  have:=congrArg List.length hv;simp at this;omega
 have hc:v[i]?=some c:=by
  have:(v.drop i)[0]?=some c:=by rw [hv];rfl
  simpa using this
 have ht:v.drop (i+1)=t:=by rw [← List.drop_drop,hv];rfl
 have hbe:=(List.getElem?_eq_some_iff.1 hc).2;have hlt:i < v.length:=by omega
 have e3:sAt v (i:Int)=(c.toNat:Int):=by simp [hlt,hbe]
 have w:=qbR (i:=i) (by omega)
 -- parts of the text from i
 have hsub:∀ n:Nat,sSub v (nNat (i:Int)) (nNat ((i+n:Nat):Int))=(c::t).take n:=fun n=>by
  simp only [qv7,qxQ,Int.toNat_natCast];rw [List.drop_take,hv,show i+n - i=n from by omega]
 have hok:∀ n:Nat,n≤t.length+1→qa1 (qas (i:Int)) (qas ((i+n:Nat):Int)) (nNat (i:Int)) (nNat ((i+n:Nat):Int)) (nLen v)=true:=fun n hn=>by simp;omega
 have hne:∀ n:Nat,n≠0→iEq ((i+n:Nat):Int) (i:Int)=false:=fun n hn=>by simp;omega
 have hln:∀ n:Nat,n≤t.length+1→iLt 64 (sLen ((c::t).take n))=decide (64 < n):=fun n hn=>by
  simp only [qgY,qCU,List.length_take,List.length_cons];apply decide_eq_decide.2;omega
 have q0:qau v (i:Int)=true:=by simp;omega
 have q1:smI (sAt v (i:Int))=qe6 c:=by rw [e3,qCv]
 have q2:grI (sAt v (i:Int))=qiK c:=by rw [e3,qDi]
 have q3:iEq (sAt v (i:Int)) 95=decide (c.toNat=95):=by rw [e3];simp;omega
 have q4:dgI (sAt v (i:Int))=qat c:=by rw [e3,qc0]
 have q5:iEq (sAt v (i:Int)) 45=decide (c.toNat=45):=by rw [e3];simp;omega
 have q6:iEq (sAt v (i:Int)) 34=decide (c.toNat=34):=by rw [e3];simp;omega
 have n1:=qK1 hs1 (i:=i) (by omega)
 have n2:=qOH hs1 (i:=i) (by omega)
 rw [hv] at n2;have z23:iEq 2 3=false:=by decide
 have z13:iEq 1 3=false:=by decide
 have z33:iEq 3 3=true:=by decide
 have z63:iEq 6 3=false:=by decide
 have hr1:=qlj innB t;unfold qfK qw0
 try dsimp only
 by_cases h1:qe6 c=true
 ·have e:runL innB (c::t)=runL innB t+1:=by simp [runL,innB,h1]
  rw [e] at n2;have g:qiK c=false:=by
   simp [qe6] at h1;simp [qiK];omega
  simp only [q0,qiW,qnL,qiC,qmJ,q1,q2,h1,g,n1,n2,hok (runL innB t+1) (by omega),hne (runL innB t+1) (by omega),hsub,hln (runL innB t+1) (by omega),z13,wdL,if_true]
  by_cases h64:runL innB t+1≤64
  ·have:¬ 64 < runL innB t+1:=by omega
   simp [this,h64,rOut,wTup,hv]
  ·have:64 < runL innB t+1:=by omega
   simp [this,h64,rOut,wTup]
 ·have h1':qe6 c=false:=by simpa using h1
  by_cases h2:qiK c=true
  ·have e:runL innB (c::t)=runL innB t+1:=by simp [runL,innB,h2]
   rw [e] at n2;simp only [q0,qiW,qnL,qiC,qmJ,q1,q2,h1',h2,n1,n2,hok (runL innB t+1) (by omega),hne (runL innB t+1) (by omega),hsub,hln (runL innB t+1) (by omega),z23,wdL,if_true,Bool.false_eq_true,if_false]
   by_cases h64:runL innB t+1≤64
   ·have:¬ 64 < runL innB t+1:=by omega
    simp [this,h64,rOut,wTup,hv]
   ·have:64 < runL innB t+1:=by omega
    simp [this,h64,rOut,wTup]
  ·have h2':qiK c=false:=by simpa using h2
   by_cases h3:c.toNat=95
   ·have e:runL innB (c::t)=runL innB t+1:=by simp [runL,innB,h3]
    rw [e] at n2;have ee:wdL (c::t)=if hdIs innB t then none else some (3,1,0,0,[]):=by
     show (if qe6 c=true then _ else _)=_
     rw [if_neg h1,if_neg h2,if_pos h3]
    have nn:iNe ((i+(runL innB t+1):Nat):Int) (iAdd .i64 (i:Int) 1)=hdIs innB t:=by
     rw [w];cases t with
     |nil=>simp [runL,hdIs]
     |cons d u =>
      simp only [runL,hdIs];cases innB d<;>simp<;>omega
    rw [ee];simp only [q0,qiW,qnL,qiC,qmJ,q1,q2,h1',h2',q3,h3,decide_true,n1,n2,hok (runL innB t+1) (by omega),hne (runL innB t+1) (by omega),hsub,hln (runL innB t+1) (by omega),z33,nn]
    cases hh:hdIs innB t with
    |true =>
     by_cases h64:64 < runL innB t+1<;>simp [h64,rOut,wTup]
    |false =>
     have r0:runL innB t=0:=by
      cases t with
      |nil=>rfl
      |cons d u=>simp [hdIs] at hh;simp [runL,hh]
     rw [r0];simp [rOut,wTup,hv]
   ·have val:∀ (k:Int) (n:Nat),n≤t.length+1→((c::t).take n).length≤140737488355328:=fun k n hn=>by rw [List.length_take];simp;omega
    have hr2:=qlj qat t;have d1:qeY v ((i+1:Nat):Int)=true:=qEa hs1 (by omega)
    have d2:qcJ v ((i+1:Nat):Int)=((i+(runL qat t+1):Nat):Int):=by
     rw [qIO hs1 (by omega),ht]
     congr 1
     omega
    by_cases h4:qat c=true
    ·have ee:wdL (c::t)=valL 4 (c::t) (runL qat t+1):=by
      show (if qe6 c=true then _ else _)=_
      rw [if_neg h1,if_neg h2,if_neg h3,if_pos (by simp [h4])]
     rw [ee,qBL 4 (c::t) _ v i hv];simp only [q0,qiW,qnL,qiC,qmJ,q1,q2,h1',h2',q3,decide_eq_false h3,qz6,qDW,q4,h4,w,d1,d2,hok (runL qat t+1) (by omega),hsub,qrT (val 4 (runL qat t+1) (by omega)),qx6 (val 4 (runL qat t+1) (by omega))]
     rfl
    ·have h4':qat c=false:=by simpa using h4
     -- a symbol,or a mark
     have rest:∀ T:Tr PV,(c.toNat=45→hdIs qat t=false)→T.run=(Tr.ite (iEq (sAt v (i:Int)) 34)
       (Tr.ite (qeL v (i:Int))
        (Tr.ite (iLt (qaV v (i:Int)) 0)
         (Tr.ret (PV.tup [PV.agg [PV.int .i64 0,PV.str [],PV.int .i64 0,PV.int .i64 0,PV.str [],PV.int .i64 0],PV.bool false]))
         (Tr.ite (qa1 (qas (i:Int)) (qas (qaV v (i:Int))) (nNat (i:Int)) (nNat (qaV v (i:Int))) (nLen v))
          (Tr.ite (qeq 5 (sSub v (nNat (i:Int)) (nNat (qaV v (i:Int)))) (i:Int))
           (Tr.ret (PV.tup [PV.agg [PV.int .i64 (qfn 5 (sSub v (nNat (i:Int)) (nNat (qaV v (i:Int)))) (i:Int)),PV.str (qff 5 (sSub v (nNat (i:Int)) (nNat (qaV v (i:Int)))) (i:Int)),PV.int .i64 (qdI 5 (sSub v (nNat (i:Int)) (nNat (qaV v (i:Int)))) (i:Int)),PV.int .i64 (qdP 5 (sSub v (nNat (i:Int)) (nNat (qaV v (i:Int)))) (i:Int)),PV.str (qdL 5 (sSub v (nNat (i:Int)) (nNat (qaV v (i:Int)))) (i:Int)),PV.int .i64 (qdM 5 (sSub v (nNat (i:Int)) (nNat (qaV v (i:Int)))) (i:Int))],PV.bool (qfo 5 (sSub v (nNat (i:Int)) (nNat (qaV v (i:Int)))) (i:Int))]))
           Tr.fail)
          Tr.fail))
        Tr.fail)
       (Tr.ite (qiy v (i:Int))
        (Tr.ite (qa1 (qas (i:Int)) (qas (iAdd .i64 (i:Int) (qdp v (i:Int)))) (nNat (i:Int)) (nNat (iAdd .i64 (i:Int) (qdp v (i:Int)))) (nLen v))
         (Tr.ite (iEq (iAdd .i64 (i:Int) (qdp v (i:Int))) (i:Int))
          (Tr.ret (PV.tup [PV.agg [PV.int .i64 0,PV.str [],PV.int .i64 0,PV.int .i64 0,PV.str [],PV.int .i64 0],PV.bool false]))
          (Tr.ite (iLt 64 (sLen (sSub v (nNat (i:Int)) (nNat (iAdd .i64 (i:Int) (qdp v (i:Int)))))))
           (Tr.ret (PV.tup [PV.agg [PV.int .i64 0,PV.str [],PV.int .i64 0,PV.int .i64 0,PV.str [],PV.int .i64 0],PV.bool false]))
           (Tr.ite (iEq 6 3)
            (Tr.ite (iNe (iAdd .i64 (i:Int) (qdp v (i:Int))) (iAdd .i64 (i:Int) 1))
             (Tr.ret (PV.tup [PV.agg [PV.int .i64 0,PV.str [],PV.int .i64 0,PV.int .i64 0,PV.str [],PV.int .i64 0],PV.bool false]))
             (Tr.ret (PV.tup [PV.agg [PV.int .i64 6,PV.str (sSub v (nNat (i:Int)) (nNat (iAdd .i64 (i:Int) (qdp v (i:Int))))),PV.int .i64 0,PV.int .i64 0,PV.str [],PV.int .i64 (i:Int)],PV.bool true])))
            (Tr.ret (PV.tup [PV.agg [PV.int .i64 6,PV.str (sSub v (nNat (i:Int)) (nNat (iAdd .i64 (i:Int) (qdp v (i:Int))))),PV.int .i64 0,PV.int .i64 0,PV.str [],PV.int .i64 (i:Int)],PV.bool true])))))
         Tr.fail)
        Tr.fail)).run→T.run=some (rOut v i (wdL (c::t))):=by
      intro T h45 hT;rw [hT,q6];have hd:¬ (qat c || (decide (c.toNat=45)&&hdIs qat t))=true:=by
       rw [h4'];by_cases hc45:c.toNat=45
       ·simp [hc45,h45 hc45]
       ·simp [hc45]
      by_cases h6:c.toNat=34
      ·have ee:wdL (c::t)=if quoL t=0 then none else valL 5 (c::t) (quoL t+1):=by
        show (if qe6 c=true then _ else _)=_
        rw [if_neg h1,if_neg h2,if_neg h3,if_neg hd,if_pos h6]
       rw [ee,decide_eq_true h6,qE9 hs2 hlt,qG7 hs2 hlt,ht];have hq:=qB1 t;by_cases h0:quoL t=0
       ·rw [if_pos h0,if_pos h0];rfl
       ·rw [if_neg h0,if_neg h0,qBL 5 (c::t) _ v i hv];have e5:((i+1+quoL t:Nat):Int)=((i+(quoL t+1):Nat):Int):=by omega
        have e6:iLt ((i+(quoL t+1):Nat):Int) 0=false:=by simp;omega
        rw [e5,e6,hok (quoL t+1) (by omega),hsub,qrT (val 5 (quoL t+1) (by omega)),qx6 (val 5 (quoL t+1) (by omega))]
        rfl
      ·have ee:wdL (c::t)=if qcI c t=0 then none else some (6,qcI c t,0,0,[]):=by
        show (if qe6 c=true then _ else _)=_
        rw [if_neg h1,if_neg h2,if_neg h3,if_neg hd,if_neg h6]
       have hm:qcI c t≤t.length+1∧qcI c t≤2:=by
        unfold qcI;cases t with
        |nil=>cases qh5 c<;>simp [hdIs]
        |cons d u=>cases hdIs (twoB c) (d::u)<;>cases qh5 c<;>simp
       have wm:iAdd .i64 (i:Int) ((qcI c t:Nat):Int)=((i+qcI c t:Nat):Int):=qaD (by omega)
       rw [ee,decide_eq_false h6,qKf hs2 hv,qOu hs2 hv,wm,hok (qcI c t) hm.1,hsub,hln (qcI c t) hm.1,z63];by_cases h0:qcI c t=0
       ·rw [if_pos h0,h0];have:iEq ((i+0:Nat):Int) (i:Int)=true:=by simp
        rw [this];rfl
       ·have:decide (64 < qcI c t)=false:=decide_eq_false (by omega)
        rw [if_neg h0,hne _ h0,this];simp [rOut,wTup,hv]
     simp only [q0,qiW,qnL,qiC,qmJ,q1,q2,h1',h2',q3,decide_eq_false h3,qz6,qDW,q4,h4',q5,w];by_cases h45:c.toNat=45
     ·rw [decide_eq_true h45];cases t with
      |nil =>
       have g:iLt ((i+1:Nat):Int) (sLen v)=false:=by simp at hl ⊢;omega
       rw [g];refine rest _ (fun _=>rfl) ?_
       rw [w];rfl
      |cons d u =>
       have g:iLt ((i+1:Nat):Int) (sLen v)=true:=by simp at hl ⊢;omega
       have g2:qau v ((i+1:Nat):Int)=true:=by simp at hl ⊢;omega
       have hd1:v[i+1]?=some d:=by
        have:(v.drop (i+1))[0]?=some d:=by rw [ht];rfl
        simpa using this
       have g3:dgI (sAt v ((i+1:Nat):Int))=qat d:=by
        rw [← qc0];have h5:=(List.getElem?_eq_some_iff.1 hd1);obtain⟨h5a,h5b⟩:=h5
        congr 1
        simp only [qLQ,Int.toNat_natCast,List.getD_eq_getElem?_getD,hd1,Option.getD_some]
       rw [g,g2,g3];cases hdd:qat d with
       |true =>
        have ee:wdL (c::d::u)=valL 4 (c::d::u) (runL qat (d::u)+1):=by
         show (if qe6 c=true then _ else _)=_
         rw [if_neg h1,if_neg h2,if_neg h3,if_pos (by simp [h45,hdIs,hdd])]
        rw [ee,qBL 4 (c::d::u) _ v i hv];simp only [d1,d2,hok (runL qat (d::u)+1) (by omega),hsub,qrT (val 4 (runL qat (d::u)+1) (by omega)),qx6 (val 4 (runL qat (d::u)+1) (by omega))]
        rfl
       |false =>
        refine rest _ (fun _=>by simp [hdIs,hdd]) ?_
        rw [w];rfl
     ·rw [decide_eq_false h45];refine rest _ (fun h=>absurd h h45) ?_
      rw [w];rfl
end Go.Pv
set_option maxHeartbeats 8000000
set_option maxRecDepth 200000
set_option linter.unusedSimpArgs false
set_option linter.unusedVariables false
namespace Go.Pv
open Go Go.Proofs Go.RowKit
theorem qFX {s:List UInt8} (hs:s.length≤140737488355328) (hne:s≠[]):∃ k x v,qa5 s=some (wTup k x v 0 (wdL s).isSome)∧∀ k' m v',wdL s=some (k',m,v')→k'=k∧x=s.take m∧v'=v:=by
 obtain⟨c,t,rfl⟩:=List.exists_cons_of_ne_nil hne;have val:∀ (k:Int) (n:Nat),(valL k (c::t) n).isSome=decide (eRd ((c::t).take n)=0)∧∀ k' m v',valL k (c::t) n=some (k',m,v')→k'=k∧(c::t).take n=(c::t).take m∧v'=(kRd ((c::t).take n),nRd ((c::t).take n),sRd ((c::t).take n)):=fun k n=>by
  unfold valL eRd kRd nRd sRd;cases h:rdV ((c::t).take n) with
  |none=>simp
  |some v =>
   refine⟨by simp,fun k' m v' he=>?_⟩
   cases he
   exact⟨rfl,rfl,rfl⟩
 by_cases h1:qe6 c=true
 ·have e:runL innB (c::t)=runL innB t+1:=by simp [runL,innB,h1]
  refine⟨1,(c::t).take (runL innB t+1),(0,0,[]),?_,fun k' m v' he=>?_⟩
  ·rw [qAj hs h1,e]
   congr 2
   simp only [wdL,h1,if_true];by_cases hl:runL innB t+1≤64<;>simp [hl]
  ·simp only [wdL,h1,if_true] at he;split at he
   ·cases he;exact⟨rfl,rfl,rfl⟩
   ·cases he
 ·have h1':qe6 c=false:=by simpa using h1
  by_cases h2:qiK c=true
  ·have e:runL innB (c::t)=runL innB t+1:=by simp [runL,innB,h2]
   refine⟨2,(c::t).take (runL innB t+1),(0,0,[]),?_,fun k' m v' he=>?_⟩
   ·rw [qBg hs h2,e]
    congr 2
    simp only [wdL,h1',h2,if_true,Bool.false_eq_true,if_false];by_cases hl:runL innB t+1≤64<;>simp [hl]
   ·simp only [wdL,h1',h2,if_true,Bool.false_eq_true,if_false] at he;split at he
    ·cases he;exact⟨rfl,rfl,rfl⟩
    ·cases he
  ·have h2':qiK c=false:=by simpa using h2
   by_cases h3:c.toNat=95
   ·have hc:c=95:=UInt8.toNat_inj.1 h3;refine⟨3,[95],(0,0,[]),?_,fun k' m v' he=>?_⟩
    ·rw [qG3 hs h3]
     congr 2
     simp only [wdL,h1',h2',h3,if_true,Bool.false_eq_true,if_false];cases hdIs innB t<;>simp
    ·simp only [wdL,h1',h2',h3,if_true,Bool.false_eq_true,if_false] at he;split at he
     ·cases he
     ·cases he;exact⟨rfl,by rw [hc];simp,rfl⟩
   ·have dg:qa5 (c::t)=some (dgW (c::t))→(qat c || (decide (c.toNat=45)&&hdIs qat t))=true→∃ k x v,qa5 (c::t)=some (wTup k x v 0 (wdL (c::t)).isSome)∧∀ k' m v',wdL (c::t)=some (k',m,v')→k'=k∧x=(c::t).take m∧v'=v:=fun hw hd=>by
     have e:wdL (c::t)=valL 4 (c::t) (runL qat t+1):=by simp only [wdL,h1',h2',h3,hd,if_true,Bool.false_eq_true,if_false]
     obtain⟨v1,v2⟩:=val 4 (runL qat t+1);refine⟨4,(c::t).take (runL qat t+1),(kRd ((c::t).take (runL qat t+1)),nRd ((c::t).take (runL qat t+1)),sRd ((c::t).take (runL qat t+1))),?_,fun k' m v' he=>v2 k' m v' (by rw [← e];exact he)⟩
     rw [hw,e,v1];rfl
    by_cases h4:qat c=true
    ·exact dg (qJk hs h4) (by simp [h4])
    ·have h4':qat c=false:=by simpa using h4
     by_cases h5:c.toNat=45∧hdIs qat t=true
     ·cases t with
      |nil=>simp [hdIs] at h5
      |cons d u=>exact dg (qFM hs h5.1 h5.2) (by simp [h5.1,h5.2])
     ·have h5':(qat c || (decide (c.toNat=45)&&hdIs qat t))=false:=by
       rw [h4'];by_cases hc:c.toNat=45
       ·have:hdIs qat t=false:=by
         cases hh:hdIs qat t with
         |false=>rfl
         |true=>exact absurd ⟨hc,hh⟩ h5
        simp [this]
       ·simp [hc]
      by_cases h6:c.toNat=34
      ·have e:wdL (c::t)=if quoL t=0 then none else valL 5 (c::t) (quoL t+1):=by
        show (if qe6 c=true then _ else _)=_
        rw [if_neg h1,if_neg h2,if_neg h3,if_neg (by rw [h5'];simp),if_pos h6]
       obtain⟨v1,v2⟩:=val 5 (symN t);refine⟨5,(c::t).take (symN t),(kRd ((c::t).take (symN t)),nRd ((c::t).take (symN t)),sRd ((c::t).take (symN t))),?_,fun k' m v' he=>?_⟩
       ·rw [qGH hs h6,e];by_cases hq:quoL t=0
        ·rw [if_pos hq];unfold syW symN;rw [if_pos hq];have:eRd []=10:=by decide
         simp [this,wTup]
        ·rw [if_neg hq];unfold symN at v1 ⊢;rw [if_neg hq] at v1 ⊢;rw [v1];rfl
       ·rw [e] at he;by_cases hq:quoL t=0
        ·rw [if_pos hq] at he;cases he
        ·rw [if_neg hq] at he;refine v2 k' m v' ?_;unfold symN;rw [if_neg hq];exact he
      ·have e:wdL (c::t)=if qcI c t=0 then none else some (6,qcI c t,0,0,[]):=by
        show (if qe6 c=true then _ else _)=_
        rw [if_neg h1,if_neg h2,if_neg h3,if_neg (by rw [h5'];simp),if_neg h6]
       have hm:=qEs hs h1' h2' h3 h4' (fun hc=>by
        cases hh:hdIs qat t with
        |false=>rfl
        |true=>exact absurd ⟨hc,hh⟩ h5) h6
       unfold mkW at hm;cases ht:hdIs (twoB c) t with
       |true =>
        rw [ht,if_pos rfl] at hm;have em:qcI c t=2:=by simp [qcI,ht]
        refine⟨6,(c::t).take 2,(0,0,[]),?_,fun k' m v' he=>?_⟩
        ·rw [hm,e,em];rfl
        ·rw [e,em] at he;cases he
         exact⟨rfl,rfl,rfl⟩
       |false =>
        rw [ht,if_neg (by simp)] at hm
        refine⟨6,[c],(0,0,[]),?_,fun k' m v' he=>?_⟩
        ·rw [hm,e]
         congr 2
         unfold qcI;rw [ht];cases qh5 c<;>simp
        ·rw [e] at he;split at he
         ·cases he
         ·rename_i hn;have em:qcI c t=1:=by
           unfold qcI at hn ⊢;rw [ht] at hn ⊢;cases ho:qh5 c with
           |true=>simp
           |false=>simp [ho] at hn
          rw [em] at he;cases he
          exact⟨rfl,by simp,rfl⟩
def wdT:List TypeId:=[36,3,28,36,9]
def lst (s:qU) (st:Nat) (n n2:Int):List Wd→Store
 |[]=>⟨[[.sl [] .full],[.int .i64 n],[.int .i64 n2],[.sl [] .full],[.str s]],[(st,0,1)],wdT⟩
 |a::l=>⟨[[.sl [] .full],[.int .i64 n],[.int .i64 n2],[.sl (rOf cW (a::l)) (.tok 1)],[.str s]],[(st,0,1),((a::l).length,6,44)],wdT⟩
theorem qKl (s:qU) (st:Nat) (n n2:Int) (l:List Wd) (a:Wd):lst s st n n2 (l++[a])=⟨[[.sl [] .full],[.int .i64 n],[.int .i64 n2],[.sl (rOf cW (l++[a])) (.tok 1)],[.str s]],[(st,0,1),((l++[a]).length,6,44)],wdT⟩:=by
 cases l<;>rfl
def wEnd (s:qU) (acc:List Wd):List Wd×Option Nat→Option (PExit×List PV×Store)
 |(l,none)=>some (.exit 0,[],lst s 0 0 0 (acc++l))
 |(l,some p)=>some (.ret,[],lst s 2 (p:Nat) 120 (acc++l))
theorem qnb (f i:Nat):lexL f i []=([],none):=by cases f<;>rfl
theorem qL2 (s:qU) (hs:s.length≤70000):∀ (f i:Nat) (acc:List Wd),i≤s.length→s.length < i+f→acc.length≤i→qeW [.yld 0,.ptr 4 0,.int .i64 (i:Nat)] (lst s 0 0 0 acc)=wEnd s acc (lexL f i (s.drop i)):=by
 intro f
 induction f with
 |zero=>intro i acc h1 h2 _;omega
 |succ f ih =>
  intro i acc h1 h2 h3;by_cases hlt:i < s.length
  ·have hS:sSub s (nNat (i:Int)) (nLen s)=s.drop i:=by simp
   have hne:s.drop i≠[]:=by
    intro h;have:=congrArg List.length h;simp at this;omega
   have hSl:(s.drop i).length≤140737488355328:=by simp;omega
   obtain⟨k,x,v,hw,hw2⟩:=qFX hSl hne;have a0:qiH (s.drop i)=true:=by simp [qiH,qeV,qdg,qcH,qcG,qcN,qvB,qlI,hw,wTup]
   have a1:qeV (s.drop i)=k:=by simp [qeV,hw,wTup]
   have a2:qdg (s.drop i)=x:=by simp [qdg,hw,wTup]
   have a3:qcH (s.drop i)=v.1:=by simp [qcH,hw,wTup]
   have a4:qcG (s.drop i)=v.2.1:=by simp [qcG,hw,wTup]
   have a5:qcN (s.drop i)=v.2.2:=by simp [qcN,hw,wTup]
   have a6:qlI (s.drop i)=(wdL (s.drop i)).isSome:=by simp [qlI,hw,wTup]
   have t1:iLt (i:Int) (sLen s)=true:=by simp;omega
   have t2:qa1 (qas (i:Int)) true (nNat (i:Int)) (nLen s) (nLen s)=true:=by simp;omega
   have eL:lexL (f+1) i (s.drop i)=match wdL (s.drop i) with
     |none=>([],some i)
     |some (k,m,v) =>
      ((k,(s.drop i).take m,v,(i:Int))::(lexL f (i+m+gapL false ((s.drop i).drop m)) ((s.drop i).drop (m+gapL false ((s.drop i).drop m)))).1,(lexL f (i+m+gapL false ((s.drop i).drop m)) ((s.drop i).drop (m+gapL false ((s.drop i).drop m)))).2):=by
    obtain⟨c,t,hct⟩:=List.exists_cons_of_ne_nil hne;rw [hct];rfl
   rw [eL];cases hwd:wdL (s.drop i) with
   |none =>
    rw [hwd] at a6;cases acc with
    |nil =>
     show qeW _ ⟨_,_,_⟩=_
     simp only [wdT];rw [qGm];simp only [qsX,hS,a0,a1,a2,a3,a4,a5,a6,t1,t2];simp [wEnd,lst,wdT]
    |cons a l =>
     show qeW _ ⟨_,_,_⟩=_
     simp only [wdT];rw [qBd];simp only [qnO,hS,a0,a1,a2,a3,a4,a5,a6,t1,t2];simp [wEnd,lst,wdT]
   |some r =>
    obtain⟨k',m,v'⟩:=r;obtain⟨rfl,rfl,rfl⟩:=hw2 k' m v' hwd;rw [hwd] at a6;obtain⟨m1,m2⟩:=qlK hwd;have hx:((s.drop i).take m).length=m:=by rw [List.length_take];omega
    have m3:i+m≤s.length:=by simp at m2;omega
    have e1:iAdd .i64 (i:Int) (sLen ((s.drop i).take m))=((i+m:Nat):Int):=by
     rw [qgY,hx];exact qaD (by omega)
    have hS2:sSub s (nNat ((i+m:Nat):Int)) (nLen s)=s.drop (i+m):=by simp only [qv7,qxQ,qGF,Int.toNat_natCast,List.take_length]
    have t3:qa1 (qas ((i+m:Nat):Int)) true (nNat ((i+m:Nat):Int)) (nLen s) (nLen s)=true:=by simp;omega
    have g1:qhL (s.drop (i+m))=true:=qG2 (by simp;omega)
    have g2:qiI (s.drop (i+m))=(gapL false (s.drop (i+m)):Nat):=qLP (by simp;omega)
    have g3:=qgK false (s.drop (i+m));have e2:iAdd .i64 ((i+m:Nat):Int) ((gapL false (s.drop (i+m)):Nat):Int)=((i+m+gapL false (s.drop (i+m)):Nat):Int):=qaD (by simp at g3;omega)
    have hd1:(s.drop i).drop m=s.drop (i+m):=by rw [List.drop_drop]
    have hd2:(s.drop i).drop (m+gapL false (s.drop (i+m)))=s.drop (i+m+gapL false (s.drop (i+m))):=by rw [List.drop_drop];congr 1;omega
    simp only [hd1,hd2];have hih:=ih (i+m+gapL false (s.drop (i+m))) (acc++[(k',(s.drop i).take m,v',(i:Int))]) (by simp at g3;omega) (by omega) (by simp;omega)
    have hfin:wEnd s (acc++[(k',(s.drop i).take m,v',(i:Int))]) (lexL f (i+m+gapL false (s.drop (i+m))) (s.drop (i+m+gapL false (s.drop (i+m)))))=wEnd s acc ((k',(s.drop i).take m,v',(i:Int))::(lexL f (i+m+gapL false (s.drop (i+m))) (s.drop (i+m+gapL false (s.drop (i+m))))).1,(lexL f (i+m+gapL false (s.drop (i+m))) (s.drop (i+m+gapL false (s.drop (i+m))))).2):=by
     cases hr:lexL f (i+m+gapL false (s.drop (i+m))) (s.drop (i+m+gapL false (s.drop (i+m)))) with
     |mk l o=>cases o<;>simp [wEnd]
    rw [← hfin,← hih,qKl];cases acc with
    |nil =>
     show qeW _ ⟨_,_,_⟩=_
     simp only [wdT];rw [qGm];have o1:qaz [] [[PV.int .i64 k',.str ((s.drop i).take m),.int .i64 v'.1,.int .i64 v'.2.1,.str v'.2.2,.int .i64 (i:Int)]] 64=true:=by simp
     have o2:qar [[PV.int .i64 k',.str ((s.drop i).take m),.int .i64 v'.1,.int .i64 v'.2.1,.str v'.2.2,.int .i64 (i:Int)]] 6=true:=by simp [one]
     simp only [qsX,hS,a0,a1,a2,a3,a4,a5,a6,t1,t2,e1,hS2,t3,g1,g2,e2,o1,o2];simp [qLS,qHU]
    |cons a l =>
     show qeW _ ⟨_,_,_⟩=_
     simp only [wdT];rw [qBd];have o1:qaz (rOf cW (a::l)) [[PV.int .i64 k',.str ((s.drop i).take m),.int .i64 v'.1,.int .i64 v'.2.1,.str v'.2.2,.int .i64 (i:Int)]] 64=true:=by
      simp only [List.length_cons] at h3;simp;omega
     have o2:qar [[PV.int .i64 k',.str ((s.drop i).take m),.int .i64 v'.1,.int .i64 v'.2.1,.str v'.2.2,.int .i64 (i:Int)]] 6=true:=by simp [one]
     simp only [qnO,hS,a0,a1,a2,a3,a4,a5,a6,t1,t2,e1,hS2,t3,g1,g2,e2,o1,o2];simp [qII]
  ·have:i=s.length:=by omega
   subst this;rw [List.drop_eq_nil_of_le (Nat.le_refl _),qnb];have t1:iLt (s.length:Int) (sLen s)=false:=by simp
   cases acc with
   |nil =>
    show qeW _ ⟨_,_,_⟩=_
    simp only [wdT];rw [qGm];simp only [qsX,t1];simp [wEnd,lst,wdT]
   |cons a l =>
    show qeW _ ⟨_,_,_⟩=_
    simp only [wdT];rw [qBd];simp only [qnO,t1];simp [wEnd,lst,wdT]
def qvY (s:qU):List Wd×Option Nat→Option (PV×Store)
 |(l,none)=>some (.tup [],lst s 0 0 0 l)
 |(l,some p)=>some (.tup [],lst s 2 (p:Nat) 120 l)
theorem qMu {s:List UInt8} (hs:s.length≤70000):qc4 [] 0 0 [] s=qvY s (qa3 s):=by
 have hg:=qgK false s;have h:=qL2 s hs (s.length+1) (gapL false s) [] hg (by omega) (by simp)
 rw [show lexL (s.length+1) (gapL false s) (s.drop (gapL false s))=qa3 s from rfl] at h
 unfold qc4 qHK
 try dsimp only
 rw [qG2 (by omega),qLP (by omega)]
 generalize qa3 s=r at h ⊢;simp only [lst,wdT] at h
 generalize ((gapL false s:Nat):Int)=g at h ⊢;obtain⟨l,o⟩:=r;cases o with
 |none =>
  cases l with
  |nil =>
   simp only [wEnd,lst,wdT,List.append_nil,List.nil_append] at h
   simp only [qki,qjt,qjX,qkt,qjE,qke,qjj,qhx,qgR,qg7,qgN,qeE,qeU,qe8,qes,qeN,qeK,qeR,qhO,qhn,qhC,qhi,qg9,qhz,qgQ,qez,qeC,qeQ,qey,qeA,qe1,qfa,qhh,qhT,qhm,qhS,qhj,qhH,qg5,qhk,qgG,qht,qhr,qhJ,qhM,qgE,qaG,h];simp [-qew,qvY,lst,wdT]
  |cons a l =>
   simp only [wEnd,lst,wdT,List.nil_append] at h
   simp only [qki,qjt,qjX,qkt,qjE,qke,qjj,qhx,qgR,qg7,qgN,qeE,qeU,qe8,qes,qeN,qeK,qeR,qhO,qhn,qhC,qhi,qg9,qhz,qgQ,qez,qeC,qeQ,qey,qeA,qe1,qfa,qhh,qhT,qhm,qhS,qhj,qhH,qg5,qhk,qgG,qht,qhr,qhJ,qhM,qgE,qaG,h];simp [-qew,qvY,lst,wdT]
 |some p =>
  cases l with
  |nil =>
   simp only [wEnd,lst,wdT,List.append_nil,List.nil_append] at h
   simp only [qki,qjt,qjX,qkt,qjE,qke,qjj,qhx,qgR,qg7,qgN,qeE,qeU,qe8,qes,qeN,qeK,qeR,qhO,qhn,qhC,qhi,qg9,qhz,qgQ,qez,qeC,qeQ,qey,qeA,qe1,qfa,qhh,qhT,qhm,qhS,qhj,qhH,qg5,qhk,qgG,qht,qhr,qhJ,qhM,qgE,qaG,h];simp [-qew,qvY,lst,wdT]
  |cons a l =>
   simp only [wEnd,lst,wdT,List.nil_append] at h
   simp only [qki,qjt,qjX,qkt,qjE,qke,qjj,qhx,qgR,qg7,qgN,qeE,qeU,qe8,qes,qeN,qeK,qeR,qhO,qhn,qhC,qhi,qg9,qhz,qgQ,qez,qeC,qeQ,qey,qeA,qe1,qfa,qhh,qhT,qhm,qhS,qhj,qhH,qg5,qhk,qgG,qht,qhr,qhJ,qhM,qgE,qaG,h];simp [-qew,qvY,lst,wdT]
def wOut:List Wd×Option Nat→PV
 |(l,none)=>.tup [.sl (rOf cW l) .non,.int .i64 0,.int .i64 0]
 |(_,some p)=>.tup [.sl [] .non,.int .i64 (p:Nat),.int .i64 120]
theorem qEv {s:List UInt8} (hs:s.length≤70000):qef s=some (if 65536 < s.length then .tup [.sl [] .non,.int .i64 0,.int .i64 2] else wOut (qa3 s)):=by
 have h:=qMu hs;unfold qef qmr
 try dsimp only
 have b:qft s=some (.fn 158 [.ptr 4 0],⟨[[.sl [] .full],[.int .i64 0],[.int .i64 0],[.sl [] .full],[.str s]],[],wdT⟩):=by simp [-qew,qft,qss,wdT]
 have b0:qjD s=true:=by
  simp only [qjD,qjk,qgl,qjc,qfZ,qjN,b,wdT];simp [-qew]
 have b1:qjk s=0:=by simp only [qjk,b];simp [-qew]
 have b2:qgl s=0:=by simp only [qgl,b];simp [-qew]
 have b3:qjc s=[]:=by simp only [qjc,b];simp [-qew]
 have b4:qfZ s=[]:=by simp only [qfZ,b];simp [-qew]
 have b5:qjN s=s:=by simp only [qjN,b];simp [-qew]
 rw [b0,b1,b2,b3,b4,b5];by_cases hl:65536 < s.length
 ·have:iLt 65536 (sLen s)=true:=by simp;omega
  rw [this,if_pos hl];rfl
 ·have:iLt 65536 (sLen s)=false:=by simp;omega
  rw [this,if_neg hl];generalize qa3 s=r at h ⊢;obtain⟨l,o⟩:=r;cases o with
  |none =>
   cases l with
   |nil =>
    simp only [qvY,lst,wdT] at h
    simp only [qoN,qoH,qnW,qoC,qoO,qn2,qgU,qi5,qku,qgF,qkO,qof,qoL,qlk,qjG,qhD,qg2,qjx,qkI,qnY,qoW,qlg,qow,qoI,qoo,qox,h];simp [-qew,wOut]
   |cons a l =>
    simp only [qvY,lst,wdT] at h
    simp only [qoN,qoH,qnW,qoC,qoO,qn2,qgU,qi5,qku,qgF,qkO,qof,qoL,qlk,qjG,qhD,qg2,qjx,qkI,qnY,qoW,qlg,qow,qoI,qoo,qox,h];simp [-qew,wOut]
  |some p =>
   cases l with
   |nil =>
    simp only [qvY,lst,wdT] at h
    simp only [qoN,qoH,qnW,qoC,qoO,qn2,qgU,qi5,qku,qgF,qkO,qof,qoL,qlk,qjG,qhD,qg2,qjx,qkI,qnY,qoW,qlg,qow,qoI,qoo,qox,h];simp [-qew,wOut]
   |cons a l =>
    simp only [qvY,lst,wdT] at h
    simp only [qoN,qoH,qnW,qoC,qoO,qn2,qgU,qi5,qku,qgF,qkO,qof,qoL,qlk,qjG,qhD,qg2,qjx,qkI,qnY,qoW,qlg,qow,qoI,qoo,qox,h];simp [-qew,wOut]
end Go.Pv
set_option maxHeartbeats 8000000
set_option maxRecDepth 200000
set_option linter.unusedSimpArgs false
set_option linter.unusedVariables false
namespace Go.Pv
open Go Go.Proofs Go.RowKit
def rEnd (acc:List Wd):List Wd×Option Nat→Option (PExit×List PV×Store)
 |(l,none)=>some (.exit 0,[.sl (rOf cW (acc++l)) (aT (acc++l))],aS 6 44 (acc++l))
 |(l,some p)=>some (.ret,[.sl [] .full,.int .i64 (p:Nat),.int .i64 120],aS 6 44 (acc++l))
theorem qMT (s:qU) (hs:s.length≤70000):∀ (f i:Nat) (acc:List Wd),i≤s.length→s.length < i+f→acc.length≤i→qbi [.str s,.sl (rOf cW acc) (aT acc),.int .i64 (i:Nat)] (aS 6 44 acc)=rEnd acc (lexL f i (s.drop i)):=by
 intro f
 induction f with
 |zero=>intro i acc h1 h2 _;omega
 |succ f ih =>
  intro i acc h1 h2 h3;by_cases hlt:i < s.length
  ·have hne:s.drop i≠[]:=by
    intro h;have:=congrArg List.length h;simp at this;omega
   obtain⟨c,t,hct⟩:=List.exists_cons_of_ne_nil hne;have hw:=qHA (v:=s) (by omega) hct
   rw [← hct] at hw;have t1:iLt (i:Int) (sLen s)=true:=by simp;omega
   have eL:lexL (f+1) i (s.drop i)=match wdL (s.drop i) with
     |none=>([],some i)
     |some (k,m,v) =>
      ((k,(s.drop i).take m,v,(i:Int))::(lexL f (i+m+gapL false ((s.drop i).drop m)) ((s.drop i).drop (m+gapL false ((s.drop i).drop m)))).1,(lexL f (i+m+gapL false ((s.drop i).drop m)) ((s.drop i).drop (m+gapL false ((s.drop i).drop m)))).2):=by
    rw [hct];rfl
   rw [eL];cases hwd:wdL (s.drop i) with
   |none =>
    rw [hwd] at hw;simp only [rOut,wTup] at hw;have a0:qeT s (i:Int)=true:=by simp only [qeT,qdW,qcM,qcq,qcs,qcp,qcr,qfH,hw];simp
    have a6:qfH s (i:Int)=false:=by simp only [qfH,hw];simp
    cases acc with
    |nil =>
     show qbi [_,.sl [] .full,_] ⟨[],[],[]⟩=_
     rw [qr6];simp only [qgq,t1,a0,a6];simp [rEnd]
    |cons a l =>
     show qbi [_,.sl (rOf cW (a::l)) (.tok 0),_] ⟨[],[((a::l).length,6,44)],[]⟩=_
     rw [qop];simp only [qeZ,t1,a0,a6];simp [rEnd,aS]
   |some r =>
    obtain⟨k,m,v⟩:=r;rw [hwd] at hw;simp only [rOut,wTup] at hw;have a0:qeT s (i:Int)=true:=by simp only [qeT,qdW,qcM,qcq,qcs,qcp,qcr,qfH,hw];simp
    have a1:qdW s (i:Int)=k:=by simp only [qdW,hw];simp
    have a2:qcM s (i:Int)=(s.drop i).take m:=by simp only [qcM,hw];simp
    have a3:qcq s (i:Int)=v.1:=by simp only [qcq,hw];simp
    have a4:qcs s (i:Int)=v.2.1:=by simp only [qcs,hw];simp
    have a5:qcp s (i:Int)=v.2.2:=by simp only [qcp,hw];simp
    have a7:qcr s (i:Int)=(i:Int):=by simp only [qcr,hw];simp
    have a6:qfH s (i:Int)=true:=by simp only [qfH,hw];simp
    obtain⟨m1,m2⟩:=qlK hwd;have hx:((s.drop i).take m).length=m:=by rw [List.length_take];omega
    have m3:i+m≤s.length:=by simp at m2;omega
    have e1:iAdd .i64 (i:Int) (sLen ((s.drop i).take m))=((i+m:Nat):Int):=by
     rw [qgY,hx];exact qaD (by omega)
    have g1:qfr s ((i+m:Nat):Int)=true:=qGv (by omega) m3
    have g2:qky s ((i+m:Nat):Int)=((i+m+gapL false (s.drop (i+m)):Nat):Int):=qLt (by omega) m3
    have g3:=qgK false (s.drop (i+m));have hd1:(s.drop i).drop m=s.drop (i+m):=by rw [List.drop_drop]
    have hd2:(s.drop i).drop (m+gapL false (s.drop (i+m)))=s.drop (i+m+gapL false (s.drop (i+m))):=by rw [List.drop_drop];congr 1;omega
    simp only [hd1,hd2];have hih:=ih (i+m+gapL false (s.drop (i+m))) (acc++[(k,(s.drop i).take m,v,(i:Int))]) (by simp at g3;omega) (by omega) (by simp;omega)
    have hfin:rEnd (acc++[(k,(s.drop i).take m,v,(i:Int))]) (lexL f (i+m+gapL false (s.drop (i+m))) (s.drop (i+m+gapL false (s.drop (i+m)))))=rEnd acc ((k,(s.drop i).take m,v,(i:Int))::(lexL f (i+m+gapL false (s.drop (i+m))) (s.drop (i+m+gapL false (s.drop (i+m))))).1,(lexL f (i+m+gapL false (s.drop (i+m))) (s.drop (i+m+gapL false (s.drop (i+m))))).2):=by
     cases hr:lexL f (i+m+gapL false (s.drop (i+m))) (s.drop (i+m+gapL false (s.drop (i+m)))) with
     |mk l o=>cases o<;>simp [rEnd]
    rw [← hfin,← hih,qMv,qOg];have o2:qar [[PV.int .i64 k,.str ((s.drop i).take m),.int .i64 v.1,.int .i64 v.2.1,.str v.2.2,.int .i64 (i:Int)]] 6=true:=by simp [one]
    cases acc with
    |nil =>
     show qbi [_,.sl [] .full,_] ⟨[],[],[]⟩=_
     rw [qr6];have o1:qaz [] [[PV.int .i64 k,.str ((s.drop i).take m),.int .i64 v.1,.int .i64 v.2.1,.str v.2.2,.int .i64 (i:Int)]] 64=true:=by simp
     simp only [qgq,t1,a0,a1,a2,a3,a4,a5,a6,a7,e1,g1,g2,o1,o2];simp [qLS,qHU]
    |cons a l =>
     show qbi [_,.sl (rOf cW (a::l)) (.tok 0),_] ⟨[],[((a::l).length,6,44)],[]⟩=_
     rw [qop];have o1:qaz (rOf cW (a::l)) [[PV.int .i64 k,.str ((s.drop i).take m),.int .i64 v.1,.int .i64 v.2.1,.str v.2.2,.int .i64 (i:Int)]] 64=true:=by
      simp only [List.length_cons] at h3;simp;omega
     simp only [qeZ,t1,a0,a1,a2,a3,a4,a5,a6,a7,e1,g1,g2,o1,o2];simp [qII]
  ·have:i=s.length:=by omega
   subst this;rw [List.drop_eq_nil_of_le (Nat.le_refl _),qnb];have t1:iLt (s.length:Int) (sLen s)=false:=by simp
   cases acc with
   |nil =>
    show qbi [_,.sl [] .full,_] ⟨[],[],[]⟩=_
    rw [qr6];simp only [qgq,t1];simp [rEnd]
   |cons a l =>
    show qbi [_,.sl (rOf cW (a::l)) (.tok 0),_] ⟨[],[((a::l).length,6,44)],[]⟩=_
    rw [qop];simp only [qeZ,t1];simp [rEnd,aT,aS]
theorem qEW {s:List UInt8} (hs:s.length≤70000):qea s=some (if 65536 < s.length then .tup [.sl [] .non,.int .i64 0,.int .i64 2] else wOut (qa3 s)):=by
 have hg:=qgK false s;have h:=qMT s hs (s.length+1) (gapL false s) [] hg (by omega) (by simp)
 rw [show lexL (s.length+1) (gapL false s) (s.drop (gapL false s))=qa3 s from rfl] at h
 unfold qea qlR
 try dsimp only
 have g1:qfr s 0=true:=qGv (i:=0) (by omega) (by omega)
 have g2:qky s 0=(gapL false s:Nat):=by
  have:=qLt (s:=s) (i:=0) (by omega) (by omega)
  simpa using this
 rw [g1,g2];by_cases hl:65536 < s.length
 ·have:iLt 65536 (sLen s)=true:=by simp;omega
  rw [this,if_pos hl];rfl
 ·have:iLt 65536 (sLen s)=false:=by simp;omega
  rw [this,if_neg hl];generalize qa3 s=r at h ⊢;simp only [qPw,qPb,qwv] at h
  generalize ((gapL false s:Nat):Int)=g at h ⊢;obtain⟨l,o⟩:=r;cases o with
  |none =>
   cases l with
   |nil =>
    simp only [rEnd,List.append_nil,List.nil_append,aT,aS] at h
    simp only [qdl,qdq,qda,qdv,qdo,qdi,qbO,qbP,qcx,qcv,qbA,qbB,qcu,qcy,qa0,h];simp [wOut]
   |cons a l =>
    simp only [rEnd,List.nil_append,aT,aS] at h
    simp only [qdl,qdq,qda,qdv,qdo,qdi,qbO,qbP,qcx,qcv,qbA,qbB,qcu,qcy,qa0,h];simp [wOut]
  |some p =>
   cases l with
   |nil =>
    simp only [rEnd,List.append_nil,List.nil_append,aT,aS] at h
    simp only [qdl,qdq,qda,qdv,qdo,qdi,qbO,qbP,qcx,qcv,qbA,qbB,qcu,qcy,qa0,h];simp [wOut]
   |cons a l =>
    simp only [rEnd,List.nil_append,aT,aS] at h
    simp only [qdl,qdq,qda,qdv,qdo,qdi,qbO,qbP,qcx,qcv,qbA,qbB,qcu,qcy,qa0,h];simp [wOut]
end Go.Pv
set_option maxHeartbeats 8000000
set_option maxRecDepth 200000
set_option linter.unusedSimpArgs false
set_option linter.unusedVariables false
namespace Go.Pv
open Go Go.Proofs Go.RowKit
def wL (s:qU):List Wd:=match qa3 s with|(l,none)=>l|_=>[]
def wN (s:qU):Int:=match (qa3 s).2 with|none=>0|some p=>(p:Nat)
def wE (s:qU):Int:=match (qa3 s).2 with|none=>0|some _=>120
theorem qH6 (s:qU):wOut (qa3 s)=.tup [.sl (rOf cW (wL s)) .non,.int .i64 (wN s),.int .i64 (wE s)]:=by
 unfold wL wN wE;cases h:qa3 s with
 |mk l o=>cases o<;>rfl
theorem qkb {s:List UInt8} (hs:s.length≤65536):qef s=some (.tup [.sl (rOf cW (wL s)) .non,.int .i64 (wN s),.int .i64 (wE s)]):=by
 rw [qEv (by omega),if_neg (by omega),qH6]
theorem qFe {s:List UInt8} (hs:s.length≤65536):qea s=some (.tup [.sl (rOf cW (wL s)) .non,.int .i64 (wN s),.int .i64 (wE s)]):=by
 rw [qEW (by omega),if_neg (by omega),qH6]
section
variable {s : List UInt8} (hs : s.length ≤ 65536)
include hs
theorem qu9:qjn s=rOf cW (wL s):=by simp only [qjn,qkb hs];simp
theorem quM:qje s=wN s:=by simp only [qje,qkb hs];simp
theorem qve:qf5 s=wE s:=by simp only [qf5,qkb hs];simp
theorem qBe:qgt s=true:=by simp only [qgt,qu9 hs,quM hs,qve hs,qkb hs];simp
end
theorem qJE:∀ (f i:Nat) (s:qU),(lexL f i s).1.length≤s.length:=by
 intro f
 induction f with
 |zero=>intro i s;simp [lexL]
 |succ f ih =>
  intro i s;cases s with
  |nil=>simp [lexL]
  |cons c t =>
   simp only [lexL];cases hw:wdL (c::t) with
   |none=>simp
   |some r =>
    obtain⟨k,m,v⟩:=r;have h1:=qlK hw;have:=ih (i+m+gapL false ((c::t).drop m)) ((c::t).drop (m+gapL false ((c::t).drop m)));simp only [List.length_cons,List.length_drop] at this ⊢;simp only [List.length_cons] at h1;omega
theorem qIG (s:qU):(wL s).length≤s.length:=by
 have h:=qJE (s.length+1) (gapL false s) (s.drop (gapL false s));rw [show lexL (s.length+1) (gapL false s) (s.drop (gapL false s))=qa3 s from rfl] at h
 unfold wL;cases hw:qa3 s with
 |mk l o =>
  rw [hw] at h
  have h2:(s.drop (gapL false s)).length≤s.length:=by simp
  cases o with
  |none=>exact Nat.le_trans h h2
  |some p=>simp
end Go.Pv
set_option maxHeartbeats 8000000
set_option maxRecDepth 200000
set_option linter.unusedSimpArgs false
set_option linter.unusedVariables false
namespace Go.Pv
open Go Go.Proofs Go.RowKit
def gpB (b:UInt8):Bool:=blB b || decide (b.toNat=37)
def Nxt (r r':qU):Prop:=r'=[]∨hdIs gpB r'=true∨∃ b t t',r=b::t∧r'=b::t'
theorem qqH {p:UInt8→Bool} (hp:∀ b,gpB b=true→p b=false) {r r':List UInt8} (hn:Nxt r r') (h:hdIs p r=false):hdIs p r'=false:=by
 rcases hn with rfl|hg|⟨b,t,t',rfl,rfl⟩
 ·rfl
 ·cases r' with
  |nil=>rfl
  |cons b t=>exact hp b hg
 ·exact h
theorem qqu {p:UInt8→Bool} (hp:∀ b,gpB b=true→p b=false) {r r':List UInt8} (hn:Nxt r r'):∀ t:qU,runL p (t++r)=t.length→runL p (t++r')=t.length
 |[],h=>by
  have h1:hdIs p r=false:=by
   cases r with
   |nil=>rfl
   |cons b t =>
    simp only [List.nil_append,runL,List.length_nil] at h
    cases hb:p b with
    |false=>exact hb
    |true=>rw [hb] at h;simp at h
  have h2:=qqH hp hn h1;cases r' with
  |nil=>rfl
  |cons b t =>
   have h2:p b=false:=h2;simp [runL,h2]
 |a::t,h=>by
  simp only [List.cons_append,runL,List.length_cons] at h ⊢;cases ha:p a with
  |false=>rw [ha] at h;simp at h
  |true =>
   rw [ha] at h
   simp only [if_true,Nat.add_right_cancel_iff] at h ⊢;exact qqu hp hn t h
theorem qvG {n m:Nat} (h:incN n=m+1):n=m∧m≠0:=by
 unfold incN at h
 split at h<;>omega
theorem qq0 (r r':qU):∀ (e:Bool) (t:qU),quoE e (t++r)=t.length→t.length≠0→quoE e (t++r')=t.length
 |_,[],_,h=>absurd rfl h
 |true,a::t,h,_=>by
  simp only [List.cons_append,quoE,List.length_cons] at h ⊢;obtain⟨h1,h2⟩:=qvG h;rw [qq0 r r' false t h1 h2];simp [incN,h2]
 |false,a::t,h,_=>by
  simp only [List.cons_append,quoE,List.length_cons] at h ⊢;split at h
  ·rename_i h1;rw [if_pos h1];exact h
  ·rename_i h1;rw [if_neg h1];split at h
   ·rename_i h2;rw [if_pos h2];obtain⟨h1,h2⟩:=qvG h;rw [qq0 r r' true t h1 h2];simp [incN,h2]
   ·rename_i h2;rw [if_neg h2];obtain⟨h1,h2⟩:=qvG h;rw [qq0 r r' false t h1 h2];simp [incN,h2]
theorem qhw {b:UInt8} (h:gpB b=true):b.toNat=32∨b.toNat=9∨b.toNat=10∨b.toNat=13∨b.toNat=37:=by
 simp only [gpB,blB,Bool.or_eq_true,decide_eq_true_eq] at h
 omega
theorem qC0 (b:UInt8) (h:gpB b=true):innB b=false:=by
 rcases qhw h with h|h|h|h|h<;>simp [innB,qe6,qiK,qat,h]
theorem qLV (b:UInt8) (h:gpB b=true):qat b=false:=by
 rcases qhw h with h|h|h|h|h<;>simp [qat,h]
theorem qPh (c b:UInt8) (h:gpB b=true):twoB c b=false:=by
 rcases qhw h with h|h|h|h|h<;>simp [twoB,h]
theorem qyF {k k':Int} {s:List UInt8} {n m:Nat} {v:Vl} (h:valL k s n=some (k',m,v)):k'=k∧m=n∧rdV (s.take n)=some v:=by
 unfold valL at h
 split at h
 ·rename_i v' hv;cases h
  exact⟨rfl,rfl,hv⟩
 ·cases h
theorem qIU {k:Int} {s s':List UInt8} {n m:Nat} {k':Int} {v:Vl} (h:valL k s n=some (k',m,v)) (e:s'.take n=s.take n):valL k s' n=some (k',m,v):=by
 unfold valL at h ⊢;rw [e];exact h
theorem qGf {x r r':List UInt8} {k:Int} {v:Vl} (h:wdL (x++r)=some (k,x.length,v)) (hn:Nxt r r'):wdL (x++r')=some (k,x.length,v):=by
 have hl:=(qlK h).1;cases x with
 |nil=>simp at hl
 |cons c t =>
  simp only [List.cons_append,wdL,List.length_cons] at h ⊢;by_cases h1:qe6 c=true
  ·simp only [h1,if_true] at h ⊢;split at h
   ·rename_i h2;simp only [Option.some.injEq,Prod.mk.injEq,Nat.add_right_cancel_iff] at h
    obtain⟨rfl,h3,rfl⟩:=h;have:=qqu qC0 hn t h3;rw [this,if_pos (by omega)]
   ·cases h
  ·rw [if_neg h1] at h ⊢;by_cases h2:qiK c=true
   ·simp only [h2,if_true] at h ⊢;split at h
    ·rename_i h4;simp only [Option.some.injEq,Prod.mk.injEq,Nat.add_right_cancel_iff] at h
     obtain⟨rfl,h3,rfl⟩:=h;have:=qqu qC0 hn t h3;rw [this,if_pos (by omega)]
    ·cases h
   ·rw [if_neg h2] at h ⊢;by_cases h3:c.toNat=95
    ·rw [if_pos h3] at h ⊢;split at h
     ·cases h
     ·rename_i h4;simp only [Option.some.injEq,Prod.mk.injEq] at h
      obtain⟨rfl,h5,rfl⟩:=h;have ht:t=[]:=by cases t with|nil=>rfl|cons=>simp at h5
      subst ht;have h6:=qqH qC0 hn (by simpa using h4)
      simp [h6]
    ·rw [if_neg h3] at h ⊢;have dgs:∀ q:Bool,(q || (decide (c.toNat=45)&&hdIs qat (t++r)))=(q || (decide (c.toNat=45)&&hdIs qat (t++r')))∨(t=[]∧hdIs qat r=true):=by
      intro q;cases t with
      |cons a t=>exact .inl rfl
      |nil =>
       cases hr:hdIs qat r with
       |true=>exact .inr ⟨rfl,rfl⟩
       |false =>
        have:=qqH qLV hn hr
        left
        simp [hr,this]
     by_cases h4:(qat c || (decide (c.toNat=45)&&hdIs qat (t++r)))=true
     ·rw [if_pos h4] at h
      obtain⟨hk,hm,hv⟩:=qyF h;have h5:runL qat (t++r)=t.length:=by omega
      have h6:=qqu qLV hn t h5;have h7:(qat c || (decide (c.toNat=45)&&hdIs qat (t++r')))=true:=by
       rcases dgs (qat c) with e|⟨rfl,e⟩
       ·rw [← e];exact h4
       ·cases r with
        |nil=>simp [hdIs] at e
        |cons b u =>
         have e:qat b=true:=e;simp [runL,e] at h5
      rw [if_pos h7,h6];rw [h5] at h
      refine qIU h ?_;simp
     ·rw [if_neg h4] at h
      have h7:¬ (qat c || (decide (c.toNat=45)&&hdIs qat (t++r')))=true:=by
       rcases dgs (qat c) with e|⟨rfl,e⟩
       ·rw [← e];exact h4
       ·intro hh;apply h4;simp only [List.nil_append,Bool.or_eq_true,Bool.and_eq_true] at hh ⊢;rcases hh with hh|⟨hh,_⟩
        ·exact .inl hh
        ·exact .inr ⟨hh,e⟩
      rw [if_neg h7];by_cases h5:c.toNat=34
      ·rw [if_pos h5] at h ⊢;split at h
       ·cases h
       ·rename_i h6;obtain⟨hk,hm,hv⟩:=qyF h;have h8:quoL (t++r)=t.length:=by omega
        have h9:quoL (t++r')=t.length:=qq0 r r' false t h8 (by omega)
        rw [h9,if_neg (by omega)]
        rw [h8] at h
        refine qIU h ?_;simp
      ·rw [if_neg h5] at h ⊢;split at h
       ·cases h
       ·rename_i h6;simp only [Option.some.injEq,Prod.mk.injEq] at h
        obtain⟨rfl,h8,rfl⟩:=h;have h9:qcI c (t++r')=t.length+1:=by
         unfold qcI at h8 ⊢;cases t with
         |nil =>
          show (if hdIs (twoB c) r'=true then 2 else if qh5 c=true then 1 else 0)=1
          have h8:(if hdIs (twoB c) r=true then 2 else if qh5 c=true then 1 else 0)=1:=h8;cases hr:hdIs (twoB c) r with
          |true=>rw [if_pos hr] at h8;omega
          |false =>
           rw [if_neg (by rw [hr];simp)] at h8
           rw [if_neg (by rw [qqH (qPh c) hn hr];simp)]
           exact h8
         |cons d t =>
          simp only [List.cons_append,hdIs] at h8 ⊢;exact h8
        rw [h9];simp
def gpS:Bool→qU→Option Bool
 |c,[]=>some c
 |c,b::s=>if c || blB b || decide (b.toNat=37) then gpS (decide (b.toNat=37) || c&&decide (b.toNat≠10)) s else none
theorem qDK:∀ (g:qU) (c c':Bool) (s:qU),gpS c g=some c'→gapL c (g++s)=g.length+gapL c' s
 |[],c,c',s,h=>by cases h;simp
 |b::g,c,c',s,h=>by
  simp only [gpS] at h
  split at h
  ·rename_i hb;simp only [List.cons_append,gapL,hb,if_true,List.length_cons];rw [qDK g _ c' s h];omega
  ·cases h
theorem qyl:∀ (g:qU) (c c':Bool) (s:qU),gpS c g=some c'→gpS c (g++s)=gpS c' s
 |[],c,c',s,h=>by cases h;simp
 |b::g,c,c',s,h=>by
  simp only [gpS] at h
  split at h
  ·rename_i hb;simp only [List.cons_append,gpS,hb,if_true];exact qyl g _ c' s h
  ·cases h
theorem qvR:∀ (s:qU) (c:Bool),gapL c s=s.length↔∃ c',gpS c s=some c'
 |[],c=>by simp [gapL,gpS]
 |b::s,c=>by
  have ih:=qvR s (decide (b.toNat=37) || c&&decide (b.toNat≠10));simp only [gapL,gpS,List.length_cons];split
  ·rw [← ih];omega
  ·simp
theorem qxm:∀ (s:qU) (c:Bool),gapL c s < s.length→gpS c (s.take (gapL c s))=some false
 |[],c,h=>by simp at h
 |b::s,c,h=>by
  have ih:=qxm s (decide (b.toNat=37) || c&&decide (b.toNat≠10));simp only [gapL,List.length_cons] at h ⊢;split
  ·rename_i hb;rw [if_pos hb] at h
   simp only [List.take_succ_cons,gpS,hb,if_true];exact ih (by omega)
  ·rename_i hb;simp only [List.take_zero,gpS];cases c<;>simp_all
theorem qrJ:∀ (s:qU) (c:Bool),gapL false (s.drop (gapL c s))=0
 |[],c=>by simp [gapL]
 |b::s,c=>by
  simp only [gapL];split
  ·simpa using qrJ s _
  ·rename_i hb;have hb:(c || blB b || decide (b.toNat=37))=false:=by simpa using hb
   simp only [Bool.or_eq_false_iff] at hb;simp [gapL,hb.1.2,hb.2]
theorem qJt {s:List UInt8} {r} (h:wdL s=some r):gapL false s=0:=by
 cases s with
 |nil=>rfl
 |cons b s =>
  simp only [gapL,Bool.false_or];split
  ·rename_i hb;have hb:gpB b=true:=hb
   exfalso
   have hi:=qC0 b hb;have hd:=qLV b hb;simp only [innB,Bool.or_eq_false_iff] at hi;have h34:b.toNat≠34:=by rcases qhw hb with h|h|h|h|h<;>omega
   have h45:b.toNat≠45:=by rcases qhw hb with h|h|h|h|h<;>omega
   have h95:b.toNat≠95:=by simpa using hi.2
   have hm:qcI b s=0:=by
    unfold qcI;have h1:hdIs (twoB b) s=false:=by
     cases s with
     |nil=>rfl
     |cons d s=>rcases qhw hb with h|h|h|h|h<;>simp [hdIs,twoB,h]
    have h2:qh5 b=false:=by rcases qhw hb with h|h|h|h|h<;>simp [qh5,h]
    rw [h1,h2];rfl
   simp [wdL,hi.1.1.1,hi.1.1.2,h95,hd,h45,h34,hm] at h
  ·rfl
abbrev Wv:=Int×List UInt8×Vl
def stW (w:Wd):Wv:=(w.1,w.2.1,w.2.2.1)
inductive Lx:List Wv→qU→Prop
 |nil (s:qU) (c:Bool) (h:gpS false s=some c):Lx [] s
 |cons (g x r:qU) (k:Int) (v:Vl) (l:List Wv) (hg:gpS false g=some false) (hw:wdL (x++r)=some (k,x.length,v)) (h:Lx l r):Lx ((k,x,v)::l) (g++(x++r))
theorem Lx.pre {g:List UInt8} (hg:gpS false g=some false) {l:List Wv} {s:List UInt8} (h:Lx l s):Lx l (g++s):=by
 cases h with
 |nil s c h=>exact .nil _ c (by rw [qyl g false false s hg];exact h)
 |cons g' x r k v l hg' hw h =>
  rw [← List.append_assoc];exact .cons _ x r k v l (by rw [qyl g false false g' hg];exact hg') hw h
theorem Lx.tail {z:List UInt8} (hz:hdIs gpB z=true) (h0:∀ c,∃ c',gpS c z=some c') {l:List Wv} {s:List UInt8} (h:Lx l s):Lx l (s++z):=by
 induction h with
 |nil s c h =>
  obtain⟨c',hc⟩:=h0 c;exact .nil _ c' (by rw [qyl s false c z h];exact hc)
 |cons g x r k v l hg hw h ih =>
  rw [List.append_assoc,List.append_assoc];refine .cons g x (r++z) k v l hg (qGf hw ?_) ih;cases r with
  |nil=>exact .inr (.inl hz)
  |cons b r=>exact .inr (.inr ⟨b,r,r++z,rfl,rfl⟩)
theorem qQo:∀ (f i:Nat) (s:qU) (l:List Wd),s.length < f→gapL false s=0→lexL f i s=(l,none)→Lx (l.map stW) s:=by
 intro f
 induction f with
 |zero=>intro i s l h;omega
 |succ f ih =>
  intro i s l hf hg h;cases s with
  |nil =>
   simp only [lexL,Prod.mk.injEq] at h
   obtain⟨rfl,_⟩:=h;exact .nil [] false rfl
  |cons c t =>
   simp only [lexL] at h
   cases hw:wdL (c::t) with
   |none=>rw [hw] at h;simp at h
   |some r =>
    obtain⟨k,m,v⟩:=r;rw [hw] at h
    simp only [Prod.mk.injEq] at h
    obtain⟨h1,h2⟩:=h;obtain⟨m1,m2⟩:=qlK hw;generalize hs:c::t=s at *;have hd:s.drop (m+gapL false (s.drop m))=(s.drop m).drop (gapL false (s.drop m)):=List.drop_drop.symm;rw [hd] at h1 h2;have hgl:=qgK false (s.drop m);have hx:s=[]++(s.take m++s.drop m):=(List.take_append_drop m s).symm;have hm:(s.take m).length=m:=by rw [List.length_take];omega
    have ih1:=ih (i+m+gapL false (s.drop m)) ((s.drop m).drop (gapL false (s.drop m))) (lexL f (i+m+gapL false (s.drop m)) ((s.drop m).drop (gapL false (s.drop m)))).1 (by simp only [List.length_drop];omega) (qrJ _ _) (Prod.ext rfl h2)
    rw [hx,← h1];refine .cons [] (s.take m) (s.drop m) k v _ rfl (by rw [List.take_append_drop,hm];exact hw) ?_
    by_cases he:gapL false (s.drop m)=(s.drop m).length
    ·have:(s.drop m).drop (gapL false (s.drop m))=[]:=by rw [he];exact List.drop_length
     rw [this,qnb];obtain⟨c',hc⟩:=(qvR _ _).1 he;exact .nil _ c' hc
    ·have h3:=qxm (s.drop m) false (by omega)
     have h4:=Lx.pre h3 ih1
     rwa [List.take_append_drop] at h4
theorem qLd {s:List UInt8} {l:List Wd} (h:qa3 s=(l,none)):Lx (l.map stW) s:=by
 unfold qa3 at h
 have hgl:=qgK false s;have h1:=qQo _ _ _ _ (by simp;omega) (qrJ _ _) h
 by_cases he:gapL false s=s.length
 ·have:s.drop (gapL false s)=[]:=by rw [he];exact List.drop_length
  rw [this,qnb] at h
  simp only [Prod.mk.injEq] at h
  obtain⟨rfl,_⟩:=h;obtain⟨c',hc⟩:=(qvR _ _).1 he;exact .nil _ c' hc
 ·have h4:=Lx.pre (qxm s false (by omega)) h1
  rwa [List.take_append_drop] at h4
theorem qPY {l:List Wv} {s:List UInt8} (h:Lx l s):∀ (f i:Nat),s.length < f→∃ l',lexL f i (s.drop (gapL false s))=(l',none)∧l'.map stW=l:=by
 induction h with
 |nil s c h =>
  intro f i hf;have:=(qvR s false).2 ⟨c,h⟩;rw [this,List.drop_length,qnb];exact⟨[],rfl,rfl⟩
 |cons g x r k v l hg hw h ih =>
  intro f i hf;obtain⟨m1,m2⟩:=qlK hw;have e:gapL false (g++(x++r))=g.length:=by rw [qDK g false false _ hg,qJt hw];rfl
  rw [e,List.drop_left];cases f with
  |zero=>omega
  |succ f =>
   have hne:x++r≠[]:=by
    intro hh;rw [hh,List.length_nil] at m2;omega
   have eL:lexL (f+1) i (x++r)=match wdL (x++r) with
     |none=>([],some i)
     |some (k,m,v) =>
      ((k,(x++r).take m,v,(i:Int))::(lexL f (i+m+gapL false ((x++r).drop m)) ((x++r).drop (m+gapL false ((x++r).drop m)))).1,(lexL f (i+m+gapL false ((x++r).drop m)) ((x++r).drop (m+gapL false ((x++r).drop m)))).2):=by
    obtain⟨c,t,hct⟩:=List.exists_cons_of_ne_nil hne;rw [hct];rfl
   rw [eL,hw];simp only [List.drop_left,List.take_left,← List.drop_drop];obtain⟨l',h1,h2⟩:=ih f (i+x.length+gapL false r) (by simp only [List.length_append] at hf m2;omega)
   rw [h1];exact⟨_,rfl,by simp [stW,h2]⟩
theorem qK3 {l:List Wv} {s:List UInt8} (h:Lx l s):∃ l',qa3 s=(l',none)∧l'.map stW=l:=qPY h _ _ (by omega)
end Go.Pv
set_option maxHeartbeats 4000000
set_option linter.unusedSimpArgs false
set_option linter.unusedVariables false
namespace Go.Pv
inductive Rs (α:Type) where
 |ok (a:α) (l:List Wd)
 |no (l:List Wd)
abbrev Ps (α:Type):=List Wd→Rs α
def plc (n:Int):List Wd→Int
 |[]=>n
 |w::_=>w.2.2.2
def wIs (k:Int) (t:qU):List Wd→Bool
 |[]=>false
 |w::_=>decide (w.1=k)&&(decide (t=[]) || decide (w.2.1=t))
def resv (t:qU):Bool:=decide (t=[98,97,115,101]) || decide (t=[118,105,101,119]) || decide (t=[111,110]) || decide (t=[110,111,116])
def wNm:List Wd→Bool
 |[]=>false
 |w::_=>decide (w.1=1)&&!resv w.2.1
section
variable {α β : Type}
def qay (a:α):Ps α:=fun l=>.ok a l
def qlC:Ps α:=fun l=>.no l
def qap (p:Ps α) (f:α→Ps β):Ps β:=fun l=>match p l with
 |.ok a r=>f a r
 |.no r=>.no r
def pIf (k:Int) (t:qU) (p:Wd→Ps α) (q:Ps α):Ps α:=fun l=>match l with
 |[]=>q []
 |w::r=>if wIs k t (w::r) then p w r else q (w::r)
def pCh (c:List Wd→Bool) (p:Ps α) (q:Ps α):Ps α:=fun l=>if c l then p l else q l
def qBA:Ps Wd:=fun l=>match l with
 |[]=>.no []
 |w::r=>.ok w r
def pRep (p:Ps α):Nat→List α→Ps (List α)
 |0,_=>qlC
 |n+1,acc=>qap p fun a=>pIf 6 [44] (fun _=>pRep p n (acc++[a])) (qay (acc++[a]))
def pRow (p:Ps α):Ps (List α):=fun l=>pRep p (l.length+1) [] l
def qh4 (p:Ps α) (n:Nat) (acc:List α):Ps (List α):=pIf 6 [44] (fun _=>pRep p n acc) (qay acc)
theorem qcd (p:Ps α) (n:Nat) (acc:List α):pRep p (n+1) acc=qap p fun a=>qh4 p n (acc++[a]):=rfl
def qcl (k:Int) (t:qU):Ps Wd:=pIf k t qay qlC
def qkw (p:Ps α):Ps (List α):=qap (qcl 6 [40]) fun _=>pIf 6 [41] (fun _=>qay []) (qap (pRow p) fun l=>qap (qcl 6 [41]) fun _=>qay l)
end
def qo3:Ps (List UInt8):=pCh wNm (qap qBA fun w=>qay w.2.1) qlC
def pTyp:Ps Int:=pIf 1 [105,110,116] (fun _=>qay 1) (pIf 1 [115,121,109] (fun _=>qay 2) qlC)
def qeP:Ps Tm:=pIf 2 [] (fun w=>qay (1,w.2.1,0,0,[])) (pIf 4 [] (fun w=>qay (2,[],w.2.2.1)) (pIf 5 [] (fun w=>qay (2,[],w.2.2.1)) (pIf 3 [] (fun _=>qay (3,[],0,0,[])) qlC)))
def qmR:Ps At:=qap qo3 fun n=>qap (qkw qeP) fun l=>qay (n,l)
def pOp:Ps Int:=pIf 6 [61] (fun _=>qay 1) (pIf 6 [33,61] (fun _=>qay 2) (pIf 6 [60] (fun _=>qay 3) (pIf 6 [60,61] (fun _=>qay 4) (pIf 6 [62] (fun _=>qay 5) (pIf 6 [62,61] (fun _=>qay 6) qlC)))))
def tm0:Tm:=(0,[],0,0,[])
def pLit:Ps Li:=pIf 1 [110,111,116] (fun _=>qap qmR fun a=>qay (2,a,0,tm0,tm0))
 (pCh wNm (qap qmR fun a=>qay (1,a,0,tm0,tm0))
  (qap qeP fun a=>qap pOp fun o=>qap qeP fun b=>qay (3,([],[]),o,a,b)))
def pDot {α:Type} (x:α):Ps α:=qap (qcl 6 [46]) fun _=>qay x
def qhg:Ps Ru:=qap qmR fun a=>pIf 6 [58,45] (fun _=>qap (pRow pLit) fun b=>pDot (a,b)) (pDot (a,[]))
def qvE:Ps De:=qap qBA fun w=>qap qo3 fun n=>qap (qkw pTyp) fun t=>pDot (n,decide (w.2.1=[98,97,115,101]),t)
def pAct:Ps Ac:=pIf 6 [43] (fun _=>qap qmR fun a=>qay (true,a)) (qap (qcl 6 [45]) fun _=>qap qmR fun a=>qay (false,a))
def qd5:Ps Pa:=qap (qcl 2 []) fun w=>qap pTyp fun t=>qay (w.2.1,t)
def pOn:Ps En:=qap qBA fun _=>qap qo3 fun n=>qap (qkw qd5) fun ps=>pIf 6 [58] (fun _=>qap (pRow pAct) fun l=>pDot (n,ps,l)) (pDot (n,ps,[]))
abbrev Pg:=List De×List En×List Ru
def isDe (l:List Wd):Bool:=wIs 1 [98,97,115,101] l || wIs 1 [118,105,101,119] l
def pOne (g:Pg):Ps Pg:=pCh isDe (qap qvE fun d=>qay (g.1++[d],g.2.1,g.2.2))
 (pCh (wIs 1 [111,110]) (qap pOn fun d=>qay (g.1,g.2.1++[d],g.2.2)) (qap qhg fun d=>qay (g.1,g.2.1,g.2.2++[d])))
def qiE:Nat→Pg→Ps Pg
 |0,_=>qlC
 |n+1,g=>fun l=>match l with
  |[]=>.ok g []
  |w::r=>qap (pOne g) (qiE n) (w::r)
def qh7:Ps Pg:=fun l=>qiE (l.length+1) ([],[],[]) l
def pEnd {α:Type}:Rs α→Rs α
 |.ok a []=>.ok a []
 |.ok _ (w::r)=>.no (w::r)
 |.no r=>.no r
def Alk (l l':List Wd):Prop:=l.map stW=l'.map stW
theorem Alk.nil_iff {l l':List Wd} (h:Alk l l'):l=[]↔l'=[]:=by
 cases l<;>cases l'<;>simp_all [Alk]
theorem Alk.len {l l':List Wd} (h:Alk l l'):l.length=l'.length:=by
 have:=congrArg List.length h;simpa using this
theorem Alk.cons {w:Wd} {l:List Wd} {m:List Wd} (h:Alk (w::l) m):∃ w' l',m=w'::l'∧w'.1=w.1∧w'.2.1=w.2.1∧w'.2.2.1=w.2.2.1∧Alk l l':=by
 cases m with
 |nil=>simp [Alk] at h
 |cons w' l' =>
  simp only [Alk,stW,List.map_cons,List.cons.injEq,Prod.mk.injEq] at h
  exact⟨w',l',rfl,h.1.1.symm,h.1.2.1.symm,h.1.2.2.symm,h.2⟩
theorem Alk.wIs {l l':List Wd} (h:Alk l l') (k:Int) (t:qU):wIs k t l'=wIs k t l:=by
 cases l with
 |nil=>rw [(h.nil_iff.1 rfl)]
 |cons w l =>
  obtain⟨w',l',rfl,h1,h2,_,_⟩:=h.cons;simp only [Go.Pv.wIs,h1,h2]
theorem Alk.wNm {l l':List Wd} (h:Alk l l'):wNm l'=wNm l:=by
 cases l with
 |nil=>rw [(h.nil_iff.1 rfl)]
 |cons w l =>
  obtain⟨w',l',rfl,h1,h2,_,_⟩:=h.cons;simp only [Go.Pv.wNm,h1,h2]
theorem qoF (k:Int) (t:qU) {l:List Wd} (h:l≠[]) (m:List Wd):wIs k t (l++m)=wIs k t l:=by
 cases l with
 |nil=>exact absurd rfl h
 |cons=>rfl
theorem qNY {l:List Wd} (h:l≠[]) (m:List Wd):wNm (l++m)=wNm l:=by
 cases l with
 |nil=>exact absurd rfl h
 |cons=>rfl
def Rs.rest {α:Type}:Rs α→List Wd
 |.ok _ r=>r
 |.no r=>r
def Rs.app {α:Type} (m:List Wd):Rs α→Rs α
 |.ok a r=>.ok a (r++m)
 |.no r=>.no (r++m)
def RAlk {α:Type}:Rs α→Rs α→Prop
 |.ok a r,.ok b r'=>a=b∧Alk r r'
 |.no r,.no r'=>Alk r r'
 |_,_=>False
theorem RAlk.ok {α:Type} {a:α} {r:List Wd} {y:Rs α} (h:RAlk (.ok a r) y):∃ r',y=.ok a r'∧Alk r r':=by
 cases y with
 |ok b r'=>exact⟨r',by rw [h.1],h.2⟩
 |no r'=>exact h.elim
theorem RAlk.no {α:Type} {r:List Wd} {y:Rs α} (h:RAlk (.no r) y):∃ r',y=.no r'∧Alk r r':=by
 cases y with
 |ok b r'=>exact h.elim
 |no r'=>exact⟨r',rfl,h⟩
theorem qHa {u r:List Wd} (h:r≠[]):u++r≠[]:=by simp [h]
structure Good {α:Type} (p:Ps α):Prop where
 suf:∀ l,∃ u,l=u++(p l).rest
 ext:∀ l,(p l).rest≠[]→∀ m,p (l++m)=(p l).app m
 alk:∀ {l l'},Alk l l'→RAlk (p l) (p l')
section
variable {α β : Type}
theorem qaA (a:α):Good (qay a):=⟨fun _=>⟨[],rfl⟩,fun _ _ _=>rfl,fun h=>⟨rfl,h⟩⟩
theorem qir:Good (qlC:Ps α):=⟨fun _=>⟨[],rfl⟩,fun _ _ _=>rfl,fun h=>h⟩
theorem qaP {p:Ps α} {f:α→Ps β} (hp:Good p) (hf:∀ a,Good (f a)):Good (qap p f):=by
 refine⟨fun l=>?_,fun l=>?_,fun {l l'} hl=>?_⟩
 ·obtain⟨u,hu⟩:=hp.suf l;unfold qap;split
  ·rename_i a r h1;rw [h1] at hu;obtain⟨v,hv⟩:=(hf a).suf r;exact⟨u++v,by rw [List.append_assoc,← hv];exact hu⟩
  ·rename_i r h1;rw [h1] at hu;exact⟨u,hu⟩
 ·have he:=hp.ext l;unfold qap;split
  ·rename_i a r h1;rw [h1] at he;intro hr m;obtain⟨v,hv⟩:=(hf a).suf r;rw [he (by show r≠[];rw [hv];exact qHa hr) m]
   exact (hf a).ext r hr m
  ·rename_i r h1;rw [h1] at he;intro hr m;rw [he hr m];rfl
 ·have ha:=hp.alk hl;unfold qap;split
  ·rename_i a r h1;rw [h1] at ha;obtain⟨r',h2,h3⟩:=ha.ok;rw [h2];exact (hf a).alk h3
  ·rename_i r h1;rw [h1] at ha;obtain⟨r',h2,h3⟩:=ha.no;rw [h2];exact h3
abbrev NoAt (f:Wd→β):Prop:=∀ w w':Wd,w'.1=w.1→w'.2.1=w.2.1→w'.2.2.1=w.2.2.1→f w'=f w
theorem qbb {k:Int} {t:List UInt8} {p:Wd→Ps α} {q:Ps α} {w:Wd} {l:List Wd} (h:wIs k t (w::l)=true):pIf k t p q (w::l)=p w l:=if_pos h
theorem qa2 {k:Int} {t:List UInt8} {p:Wd→Ps α} {q:Ps α} {l:List Wd} (h:wIs k t l=false):pIf k t p q l=q l:=by
 cases l with
 |nil=>rfl
 |cons w l=>exact if_neg (by rw [h];simp)
theorem qbJ {k:Int} {t:List UInt8} {p:Wd→Ps α} {q:Ps α} (hp:∀ w,Good (p w)) (hw:NoAt p) (hq:Good q):Good (pIf k t p q):=by
 refine⟨fun l=>?_,fun l=>?_,fun {l l'} hl=>?_⟩
 ·cases hi:wIs k t l with
  |false=>rw [qa2 hi];exact hq.suf l
  |true=>cases l with
   |nil=>cases hi
   |cons w l =>
    rw [qbb hi];obtain⟨u,hu⟩:=(hp w).suf l;exact⟨w::u,by rw [List.cons_append,← hu]⟩
 ·cases hi:wIs k t l with
  |false =>
   rw [qa2 hi];intro hr m;obtain⟨u,hu⟩:=hq.suf l;have hne:l≠[]:=by rw [hu];exact qHa hr
   rw [qa2 (by rw [qoF k t hne];exact hi)]
   exact hq.ext l hr m
  |true=>cases l with
   |nil=>cases hi
   |cons w l =>
    rw [qbb hi];intro hr m;exact (qbb (l:=l++m) hi).trans ((hp w).ext l hr m)
 ·cases hi:wIs k t l with
  |false=>rw [qa2 hi,qa2 (by rw [hl.wIs];exact hi)];exact hq.alk hl
  |true=>cases l with
   |nil=>cases hi
   |cons w l =>
    have hi':=(hl.wIs k t).trans hi;obtain⟨w',l',rfl,a1,a2,a3,a4⟩:=hl.cons;rw [qbb hi,qbb hi',hw w w' a1 a2 a3];exact (hp w).alk a4
structure HdT (c:List Wd→Bool):Prop where
 app:∀ {l:List Wd},l≠[]→∀ m,c (l++m)=c l
 alk:∀ {l l':List Wd},Alk l l'→c l'=c l
theorem qLn (k:Int) (t:qU):HdT (wIs k t):=⟨fun h m=>qoF k t h m,fun h=>h.wIs k t⟩
theorem qLi:HdT wNm:=⟨fun h m=>qNY h m,fun h=>h.wNm⟩
theorem qIy:HdT isDe:=⟨fun h m=>by unfold isDe;rw [qoF _ _ h,qoF _ _ h],fun h=>by unfold isDe;rw [h.wIs,h.wIs]⟩
theorem qxC {c:List Wd→Bool} {p q:Ps α} (hc:HdT c) (hp:Good p) (hq:Good q):Good (pCh c p q):=by
 refine⟨fun l=>?_,fun l=>?_,fun {l l'} hl=>?_⟩
 ·unfold pCh;split
  ·exact hp.suf l
  ·exact hq.suf l
 ·have key:∀ {z:Ps α},Good z→(z l).rest≠[]→l≠[]:=fun {z} hz hr=>by
   obtain⟨u,hu⟩:=hz.suf l;rw [hu];exact qHa hr
  unfold pCh;split
  ·rename_i hi;intro hr m;rw [hc.app (key hp hr),if_pos hi];exact hp.ext l hr m
  ·rename_i hi;intro hr m;rw [hc.app (key hq hr),if_neg hi];exact hq.ext l hr m
 ·unfold pCh;rw [hc.alk hl];split
  ·exact hp.alk hl
  ·exact hq.alk hl
theorem qtz {f:Wd→Ps β} (hp:∀ w,Good (f w)) (hw:NoAt f):Good (qap qBA f):=by
 refine⟨fun l=>?_,fun l=>?_,fun {l l'} hl=>?_⟩
 ·cases l with
  |nil=>exact⟨[],rfl⟩
  |cons w l =>
   obtain⟨u,hu⟩:=(hp w).suf l;exact⟨w::u,congrArg (w::·) hu⟩
 ·cases l with
  |nil=>exact fun h=>absurd rfl h
  |cons w l=>exact (hp w).ext l
 ·cases l with
  |nil =>
   have:=hl.nil_iff.1 rfl;subst this;exact hl
  |cons w l =>
   obtain⟨w',l',rfl,a1,a2,a3,a4⟩:=hl.cons;show RAlk (f w l) (f w' l')
   rw [hw w w' a1 a2 a3];exact (hp w).alk a4
theorem qiY (k:Int) (t:qU) {f:Wd→Ps β} (hp:∀ w,Good (f w)) (hw:NoAt f):Good (qap (qcl k t) f):=by
 have e:qap (qcl k t) f=pIf k t f qlC:=by
  funext l
  unfold qap qcl;cases hi:wIs k t l with
  |false=>rw [qa2 hi,qa2 hi];rfl
  |true=>cases l with
   |nil=>cases hi
   |cons w l=>rw [qbb hi,qbb hi];rfl
 rw [e];exact qbJ hp hw qir
theorem qDn {p:Ps α} (hp:Good p) (l:List Wd):(p l).rest.length≤l.length:=by
 obtain⟨u,hu⟩:=hp.suf l;have:=congrArg List.length hu;simp only [List.length_append] at this;omega
theorem qrz {p:Ps α} (hp:Good p):∀ (n:Nat) (acc:List α) (l:List Wd),l.length < n→(∃ u,l=u++(pRep p n acc l).rest)∧((pRep p n acc l).rest≠[]→∀ m n',(l++m).length < n'→pRep p n' acc (l++m)=(pRep p n acc l).app m)∧∀ {l' n'},Alk l l'→l'.length < n'→RAlk (pRep p n acc l) (pRep p n' acc l')
 |0,_,_,h=>absurd h (Nat.not_lt_zero _)
 |n+1,acc,l,h=>by
  have hz:∀ {n':Nat} {l':List Wd},l'.length < n'→n'=n' - 1+1:=fun h=>by omega
  cases h1:p l with
  |no r =>
   have e:∀ n' l' x,p l'=.no x→pRep p (n'+1) acc l'=.no x:=fun n' l' x hx=>by rw [qcd];unfold qap;rw [hx]
   rw [e n l r h1];have hs:=hp.suf l;have he:=hp.ext l;rw [h1] at hs he;refine⟨hs,fun hr m n' hn=>?_,fun {l' n'} hl hn=>?_⟩
   ·rw [hz hn,e _ _ _ (he hr m)];rfl
   ·have ha:=hp.alk hl;rw [h1] at ha;obtain⟨r',h2,h3⟩:=ha.no;rw [hz hn,e _ _ _ h2];exact h3
  |ok a r =>
   have e:∀ n' l' x,p l'=.ok a x→pRep p (n'+1) acc l'=qh4 p n' (acc++[a]) x:=fun n' l' x hx=>by rw [qcd];unfold qap;rw [hx]
   rw [e n l r h1];obtain⟨u,hs⟩:=hp.suf l;have he:=hp.ext l;rw [h1] at hs he;have hs:l=u++r:=hs;have hle:=qDn hp l;rw [h1] at hle;have hle:r.length≤l.length:=hle;cases hi:wIs 6 [44] r with
   |false =>
    have e2:∀ n' x,wIs 6 [44] x=false→qh4 p n' (acc++[a]) x=.ok (acc++[a]) x:=fun n' x hx=>by unfold qh4;rw [qa2 hx];rfl
    rw [e2 n r hi];refine⟨⟨u,hs⟩,fun hr m n' hn=>?_,fun {l' n'} hl hn=>?_⟩
    ·rw [hz hn,e _ _ _ (he hr m),e2 _ _ (by rw [qoF _ _ (show r≠[] from hr)];exact hi)]
     rfl
    ·have ha:=hp.alk hl;rw [h1] at ha;obtain⟨r',h2,h3⟩:=ha.ok;rw [hz hn,e _ _ _ h2,e2 _ _ (by rw [h3.wIs];exact hi)]
     exact⟨rfl,h3⟩
   |true=>cases r with
    |nil=>cases hi
    |cons w r =>
     have e2:∀ n' w' x,wIs 6 [44] (w'::x)=true→qh4 p n' (acc++[a]) (w'::x)=pRep p n' (acc++[a]) x:=fun n' w' x hx=>by unfold qh4;rw [qbb hx]
     rw [e2 n w r hi];simp only [List.length_cons] at hle;obtain⟨⟨v,hv⟩,k2,k3⟩:=qrz hp n (acc++[a]) r (by omega)
     refine⟨⟨u++w::v,by rw [List.append_assoc,List.cons_append,← hv];exact hs⟩,fun hr m n' hn=>?_,fun {l' n'} hl hn=>?_⟩
     ·rw [hz hn,e _ _ _ (he (by simp [Rs.rest]) m)]
      refine (e2 _ w (r++m) hi).trans (k2 hr m _ ?_);simp only [List.length_append] at hn ⊢;omega
     ·have ha:=hp.alk hl;rw [h1] at ha;obtain⟨r',h2,h3⟩:=ha.ok;have hi':=(h3.wIs 6 [44]).trans hi;have hl':=qDn hp l';rw [h2] at hl';have hl':r'.length≤l'.length:=hl';obtain⟨w',r'',rfl,_,_,_,a4⟩:=h3.cons;rw [hz hn,e _ _ _ h2,e2 _ _ _ hi'];refine k3 a4 ?_;simp only [List.length_cons] at hl';omega
theorem qmL {p:Ps α} (hp:Good p):Good (pRow p) :=
 ⟨fun l=>(qrz hp _ _ l (Nat.lt_succ_self _)).1,fun l hr m=>(qrz hp _ _ l (Nat.lt_succ_self _)).2.1 hr m _ (Nat.lt_succ_self _),fun hl=>(qrz hp _ _ _ (Nat.lt_succ_self _)).2.2 hl (Nat.lt_succ_self _)⟩
theorem qcZ (f:β):NoAt (fun _:Wd=>f):=fun _ _ _ _ _=>rfl
theorem qf6 {p:Ps α} (hp:Good p):Good (qkw p) :=
 qiY _ _ (fun _=>qbJ (fun _=>qaA _) (qcZ _) (qaP (qmL hp) fun _=>qiY _ _ (fun _=>qaA _) (qcZ _))) (qcZ _)
theorem qnH (a:α):Good (pDot a):=qiY _ _ (fun _=>qaA _) (qcZ _)
end
theorem qdF:Good qo3:=qxC qLi (qtz (fun _=>qaA _) fun w w' _ h _=>by rw [h]) qir
theorem qnd:Good pTyp:=qbJ (fun _=>qaA _) (qcZ _) (qbJ (fun _=>qaA _) (qcZ _) qir)
theorem qiw:Good qeP:=qbJ (fun _=>qaA _) (fun w w' _ h _=>by rw [h]) (qbJ (fun _=>qaA _) (fun w w' _ _ h=>by rw [h]) (qbJ (fun _=>qaA _) (fun w w' _ _ h=>by rw [h]) (qbJ (fun _=>qaA _) (qcZ _) qir)))
theorem qeI:Good qmR:=qaP qdF fun _=>qaP (qf6 qiw) fun _=>qaA _
theorem qNa:Good pOp:=qbJ (fun _=>qaA _) (qcZ _) (qbJ (fun _=>qaA _) (qcZ _) (qbJ (fun _=>qaA _) (qcZ _) (qbJ (fun _=>qaA _) (qcZ _) (qbJ (fun _=>qaA _) (qcZ _) (qbJ (fun _=>qaA _) (qcZ _) qir)))))
theorem qpJ:Good pLit:=qbJ (fun _=>qaP qeI fun _=>qaA _) (qcZ _) (qxC qLi (qaP qeI fun _=>qaA _) (qaP qiw fun _=>qaP qNa fun _=>qaP qiw fun _=>qaA _))
theorem good_rule:Good qhg:=qaP qeI fun _=>qbJ (fun _=>qaP (qmL qpJ) fun _=>qnH _) (qcZ _) (qnH _)
theorem qFP:Good qvE:=qtz (fun _=>qaP qdF fun _=>qaP (qf6 qnd) fun _=>qnH _) fun w w' _ h _=>by rw [h]
theorem qry:Good pAct:=qbJ (fun _=>qaP qeI fun _=>qaA _) (qcZ _) (qiY _ _ (fun _=>qaP qeI fun _=>qaA _) (qcZ _))
theorem qfV:Good qd5:=qiY _ _ (fun _=>qaP qnd fun _=>qaA _) fun w w' _ h _=>by rw [h]
theorem qNU:Good pOn:=qtz (fun _=>qaP qdF fun _=>qaP (qf6 qfV) fun _=>qbJ (fun _=>qaP (qmL qry) fun _=>qnH _) (qcZ _) (qnH _)) (qcZ _)
theorem qDz (g:Pg):Good (pOne g):=qxC qIy (qaP qFP fun _=>qaA _) (qxC (qLn _ _) (qaP qNU fun _=>qaA _) (qaP good_rule fun _=>qaA _))
structure Str {α:Type} (p:Ps α):Prop where
 of:∀ {l a r},p l=.ok a r→r.length < l.length∧∀ m,p (l++m)=.ok a (r++m)
section
variable {α β : Type}
theorem qsy (x:α):Str (pDot x):=by
 refine⟨fun {l a r} h=>?_⟩
 cases l with
 |nil=>cases h
 |cons w l =>
  have e:∀ l',pDot x (w::l')=if wIs 6 [46] (w::l') then .ok x l' else .no (w::l'):=fun l'=>by
   unfold pDot qap qcl;cases hi:wIs 6 [46] (w::l') with
   |false=>rw [qa2 hi];rfl
   |true=>rw [qbb hi];rfl
  rw [e] at h
  split at h
  ·rename_i hi;cases h
   exact⟨Nat.lt_succ_self _,fun m=>(e _).trans (if_pos hi)⟩
  ·cases h
theorem qDs {r:List Wd} {n:Nat} (h:n < r.length):r≠[]:=by
 intro e;rw [e] at h
 exact absurd h (Nat.not_lt_zero _)
theorem qhe {p:Ps α} {f:α→Ps β} (hp:Good p) (hf:∀ a,Str (f a)):Str (qap p f):=by
 refine⟨fun {l b r} h=>?_⟩
 unfold qap at h
 split at h
 ·rename_i a r1 h1;obtain⟨k1,k2⟩:=(hf a).of h;have h2:=qDn hp l;have h3:=hp.ext l;rw [h1] at h2 h3;have h2:r1.length≤l.length:=h2;refine⟨by omega,fun m=>?_⟩
  unfold qap;rw [h3 (qDs k1) m];exact k2 m
 ·cases h
theorem qxJ {p:Ps α} {g:α→β} (hp:Str p):Str (qap p fun a=>qay (g a)):=by
 refine⟨fun {l b r} h=>?_⟩
 unfold qap at h
 split at h
 ·rename_i a r1 h1;cases h
  obtain⟨k1,k2⟩:=hp.of h1;exact⟨k1,fun m=>by unfold qap;rw [k2 m];rfl⟩
 ·cases h
theorem qCK {f:Wd→Ps β} (hf:∀ w,Str (f w)):Str (qap qBA f):=by
 refine⟨fun {l b r} h=>?_⟩
 cases l with
 |nil=>cases h
 |cons w l =>
  obtain⟨k1,k2⟩:=(hf w).of (show f w l=.ok b r from h)
  exact⟨Nat.lt_succ_of_lt k1,fun m=>k2 m⟩
theorem qLN {k:Int} {t:List UInt8} {p:Wd→Ps α} {q:Ps α} (hp:∀ w,Str (p w)) (hq:Str q):Str (pIf k t p q):=by
 refine⟨fun {l b r} h=>?_⟩
 cases hi:wIs k t l with
 |false =>
  rw [qa2 hi] at h
  obtain⟨k1,k2⟩:=hq.of h;exact⟨k1,fun m=>by rw [qa2 (by rw [qoF _ _ (qDs k1)];exact hi)];exact k2 m⟩
 |true=>cases l with
  |nil=>cases hi
  |cons w l =>
   rw [qbb hi] at h
   obtain⟨k1,k2⟩:=(hp w).of h;exact⟨Nat.lt_succ_of_lt k1,fun m=>(qbb (l:=l++m) hi).trans (k2 m)⟩
theorem qLy {c:List Wd→Bool} {p q:Ps α} (hc:HdT c) (hp:Str p) (hq:Str q):Str (pCh c p q):=by
 refine⟨fun {l b r} h=>?_⟩
 unfold pCh at h ⊢;split at h
 ·rename_i hi;obtain⟨k1,k2⟩:=hp.of h;exact⟨k1,fun m=>by rw [hc.app (qDs k1),if_pos hi];exact k2 m⟩
 ·rename_i hi;obtain⟨k1,k2⟩:=hq.of h;exact⟨k1,fun m=>by rw [hc.app (qDs k1),if_neg hi];exact k2 m⟩
end
theorem str_rule:Str qhg:=qhe qeI fun _=>qLN (fun _=>qhe (qmL qpJ) fun _=>qsy _) (qsy _)
theorem qJU:Str qvE:=qCK fun _=>qhe qdF fun _=>qhe (qf6 qnd) fun _=>qsy _
theorem qPJ:Str pOn:=qCK fun _=>qhe qdF fun _=>qhe (qf6 qfV) fun _=>qLN (fun _=>qhe (qmL qry) fun _=>qsy _) (qsy _)
theorem qsV (g:Pg):Str (pOne g):=qLy qIy (qxJ qJU) (qLy (qLn _ _) (qxJ qPJ) (qxJ str_rule))
theorem qfU {n:Nat} {g:Pg} {l:List Wd} (h:l≠[]):qiE (n+1) g l=qap (pOne g) (qiE n) l:=by
 cases l with
 |nil=>exact absurd rfl h
 |cons=>rfl
theorem qaQ {α β:Type} {p:Ps α} {f:α→Ps β} {l r:List Wd} {a:α} (h:p l=.ok a r):qap p f l=f a r:=by unfold qap;rw [h]
theorem qaS {α β:Type} {p:Ps α} {f:α→Ps β} {l r:List Wd} (h:p l=.no r):qap p f l=.no r:=by unfold qap;rw [h]
theorem qzj:∀ (n:Nat) (g:Pg) (l l':List Wd) (n':Nat),l.length < n→l'.length < n'→Alk l l'→RAlk (qiE n g l) (qiE n' g l')
 |0,_,_,_,_,h,_,_=>absurd h (Nat.not_lt_zero _)
 |n+1,g,l,l',0,h,h',_=>absurd h' (Nat.not_lt_zero _)
 |n+1,g,[],l',n'+1,h,h',e=>by
  have:=e.nil_iff.1 rfl;subst this;exact⟨rfl,rfl⟩
 |n+1,g,w::l,l',n'+1,h,h',e=>by
  have hne:l'≠[]:=fun h=>by have:=e.nil_iff.2 h;cases this
  rw [qfU (by simp),qfU hne]
  have ha:=(qDz g).alk e;cases h1:pOne g (w::l) with
  |no r1 =>
   rw [h1] at ha;obtain⟨r',h2,h3⟩:=ha.no;rw [qaS h1,qaS h2];exact h3
  |ok b r1 =>
   rw [h1] at ha;obtain⟨r',h2,h3⟩:=ha.ok;rw [qaQ h1,qaQ h2];have k1:=((qsV g).of h1).1;have k2:=((qsV g).of h2).1;exact qzj n b r1 r' n' (by simp only [List.length_cons] at k1 h;omega) (by omega) h3
theorem qyV:∀ (n:Nat) (g:Pg) (l:List Wd),l.length < n→∃ u,l=u++(qiE n g l).rest
 |0,_,_,h=>absurd h (Nat.not_lt_zero _)
 |n+1,g,[],h=>⟨[],rfl⟩
 |n+1,g,w::l,h=>by
  rw [qfU (by simp)]
  obtain⟨u,hu⟩:=(qDz g).suf (w::l);cases h1:pOne g (w::l) with
  |no r=>rw [h1] at hu;rw [qaS h1];exact⟨u,hu⟩
  |ok b r =>
   have k1:=((qsV g).of h1).1;rw [h1] at hu;rw [qaQ h1];obtain⟨v,hv⟩:=qyV n b r (by simp only [List.length_cons] at k1 h;omega)
   exact⟨u++v,by rw [List.append_assoc,← hv];exact hu⟩
theorem qKn (l:List Wd):∃ u,l=u++(qh7 l).rest:=qyV _ _ _ (Nat.lt_succ_self _)
theorem qJJ {l l':List Wd} (h:Alk l l'):RAlk (qh7 l) (qh7 l'):=qzj _ _ _ _ _ (Nat.lt_succ_self _) (Nat.lt_succ_self _) h
theorem ch_f {α:Type} {c:List Wd→Bool} {p q:Ps α} {l:List Wd} (h:c l=false):pCh c p q l=q l:=if_neg (by rw [h];simp)
theorem qIP {l r:List Wd} {x:Ru} (h:pEnd (qhg l)=.ok x r):qh7 l=.ok ([],[],[x]) []:=by
 cases h1:qhg l with
 |no r1=>rw [h1] at h;cases h
 |ok y r1 =>
  rw [h1] at h
  cases r1 with
  |cons w r1=>cases h
  |nil =>
   cases h
   cases l with
   |nil=>exact absurd (str_rule.of h1).1 (by simp)
   |cons w l =>
    have hn:wNm (w::l)=true:=by
     cases hn:wNm (w::l) with
     |true=>rfl
     |false =>
      have:qhg (w::l)=.no (w::l):=qaS (qaS (ch_f hn));rw [this] at h1;cases h1
    simp only [wNm,resv,Bool.and_eq_true,decide_eq_true_eq,Bool.not_eq_true',Bool.or_eq_false_iff,decide_eq_false_iff_not] at hn;obtain⟨k1,⟨⟨k2,k3⟩,k4⟩,k5⟩:=hn;have e1:isDe (w::l)=false:=by simp [isDe,wIs,k1,k2,k3]
    have e2:wIs 1 [111,110] (w::l)=false:=by simp [wIs,k4]
    have e3:pOne ([],[],[]) (w::l)=.ok ([],[],[x]) []:=by
     unfold pOne;rw [ch_f e1,ch_f e2,qaQ h1];rfl
    show qiE ((w::l).length+1) _ _=_
    rw [qfU (by simp),qaQ e3]
    rfl
end Go.Pv
set_option maxHeartbeats 4000000
set_option maxRecDepth 200000
set_option linter.unusedSimpArgs false
set_option linter.unusedVariables false
namespace Go.Pv
open Go Go.Proofs
@[simp] def bst (l:List Wd) (n:Int):Store:=⟨[[.sl (rOf cW l) .non,.int .i64 n]],[],[138]⟩
@[simp] def mfit (n:Int):PV:=.iface 172 (.agg [.int .i64 n])
def bOut {α:Type} (f:α→PV) (n:Int):Rs α→PR×Store
 |.ok a r=>(.val (f a),bst r n)
 |.no r=>(.pan (mfit (plc n r)),bst r n)
@[simp] theorem bOut_ok {α:Type} (f:α→PV) (n:Int) (a:α) (r:List Wd):bOut f n (.ok a r)=(.val (f a),bst r n):=rfl
@[simp] theorem bOut_no {α:Type} (f:α→PV) (n:Int) (r:List Wd):bOut f n (.no r)=(.pan (mfit (plc n r)),bst r n):=rfl
@[simp] def vcW (w:Wd):PV:=.agg [.int .i64 w.1,.str w.2.1,.int .i64 w.2.2.1.1,.int .i64 w.2.2.1.2.1,.str w.2.2.1.2.2,.int .i64 w.2.2.2]
@[simp] def vcM (t:Tm):PV:=.agg [.int .i64 t.1,.str t.2.1,.int .i64 t.2.2.1,.int .i64 t.2.2.2.1,.str t.2.2.2.2]
@[simp] def vcA (a:At):PV:=.agg [.str a.1,.sl (rOf cM a.2) .non]
@[simp] def vcL (t:Li):PV:=.agg [.int .i64 t.1,.str t.2.1.1,.sl (rOf cM t.2.1.2) .non,.int .i64 t.2.2.1,.int .i64 t.2.2.2.1.1,.str t.2.2.2.1.2.1,.int .i64 t.2.2.2.1.2.2.1,.int .i64 t.2.2.2.1.2.2.2.1,.str t.2.2.2.1.2.2.2.2,.int .i64 t.2.2.2.2.1,.str t.2.2.2.2.2.1,.int .i64 t.2.2.2.2.2.2.1,.int .i64 t.2.2.2.2.2.2.2.1,.str t.2.2.2.2.2.2.2.2]
@[simp] def vcRu (t:Ru):PV:=.agg [.str t.1.1,.sl (rOf cM t.1.2) .non,.sl (rOf cL t.2) .non]
@[simp] def vcD (t:De):PV:=.agg [.str t.1,.bool t.2.1,.sl (rOf cI t.2.2) .non]
@[simp] def vcP (t:Pa):PV:=.agg [.str t.1,.int .i64 t.2]
@[simp] def vcAc (t:Ac):PV:=.agg [.bool t.1,.str t.2.1,.sl (rOf cM t.2.2) .non]
@[simp] def vcE (t:En):PV:=.agg [.str t.1,.sl (rOf cP t.2.1) .non,.sl (rOf cAc t.2.2) .non]
@[simp] def vcPg (t:Pg):PV:=.agg [.sl (rOf cD t.1) .non,.sl (rOf cE t.2.1) .non,.sl (rOf cRu t.2.2) .non]
attribute [simp] qpn qeS ql7 qjT qo7 qAd qAP qcT qwL qmi qmF qq7 qgX qkF qlU qbd qaN qbh qis qie qoM qnU qoR qfR qs1 qf4 qf8 qoJ qmh qbn qbq qbg qbc qbe qiA qik qf1 qge qga qeH qjp qkv qha qhG qgI qgL qeX qeB qb1 qb6 qcR qdJ qdS qdO qbT qcQ
@[simp] theorem bis_law (l:List Wd) (n k:Int) (t:qU):qHO (rOf cW l) n k t=some (.bool (wIs k t l)):=by
 cases l with
 |nil=>simp [qHO,qDp,↓Tr.run_ite,wIs]
 |cons w l =>
  by_cases h1:w.1=k<;>by_cases h2:t=[]<;>simp [qHO,qDp,↓Tr.run_ite,wIs,h1,h2]
@[simp] theorem tail_rOf {α:Type} (C:Cod α) (l:List α):(rOf C l).tail=rOf C l.tail:=by cases l<;>rfl
@[simp] theorem bnamed_law (l:List Wd) (n:Int):qlX (rOf cW l) n=some (.bool (wNm l)):=by
 cases h:wIs 1 [] l with
 |false =>
  have:wNm l=false:=by
   cases l with
   |nil=>rfl
   |cons w l =>
    simp only [wIs,decide_true,Bool.true_or,Bool.and_true,decide_eq_false_iff_not] at h
    simp [wNm,h]
  simp [qlX,qmY,↓Tr.run_ite,this,h]
 |true=>cases l with
  |nil=>cases h
  |cons w l =>
   have h1:w.1=1:=by simpa [wIs] using h
   by_cases h2:w.2.1=[98,97,115,101]<;>by_cases h3:w.2.1=[118,105,101,119]<;>by_cases h4:w.2.1=[111,110]<;>by_cases h5:w.2.1=[110,111,116]<;>simp [qlX,qmY,↓Tr.run_ite,wNm,wIs,resv,h1,h2,h3,h4,h5]
@[simp] theorem bno_law (l:List Wd) (n:Int):qEL (rOf cW l) n=some (.pan (mfit (plc n l)),bst l n):=by
 cases l with
 |nil=>simp [qEL,qDX,↓Tr.run_ite,plc]
 |cons w l=>simp [qEL,qDX,↓Tr.run_ite,plc]
@[simp] theorem bpass_law (w:Wd) (l:List Wd) (n:Int):qfG (rOf cW (w::l)) n=some (.val (vcW w),bst l n):=by
 simp [qfG,qvm,↓Tr.run_ite]
theorem qaU {k:Int} {t:List UInt8} {l:List Wd} (h:wIs k t l=false) (n:Int):qlG k t (rOf cW l) n=some (.val (.bool false),bst l n):=by
 simp [qlG,qpE,↓Tr.run_ite,h]
theorem qaR {k:Int} {t:List UInt8} {w:Wd} {l:List Wd} (h:wIs k t (w::l)=true) (n:Int):qlG k t (rOf cW (w::l)) n=some (.val (.bool true),bst l n):=by
 simp [qlG,qpE,↓Tr.run_ite,h]
@[simp] theorem bneed_law (k:Int) (t:qU) (l:List Wd) (n:Int):qcV k t (rOf cW l) n=some (bOut vcW n (qcl k t l)):=by
 cases h:wIs k t l with
 |false=>simp [qcV,qpL,↓Tr.run_ite,qcl,qa2 h,h,qlC]
 |true=>cases l with
  |nil=>cases h
  |cons w l=>simp [qcV,qpL,↓Tr.run_ite,qcl,qbb h,h,qay]
@[simp] theorem bmark_law (t:qU) (l:List Wd) (n:Int):qlt t (rOf cW l) n=some (bOut (fun _=>.tup []) n (qcl 6 t l)):=by
 cases h:qcl 6 t l<;>simp [qlt,qxW,↓Tr.run_ite,h]
@[simp] theorem bname_law (l:List Wd) (n:Int):qhp (rOf cW l) n=some (bOut .str n (qo3 l)):=by
 cases h:wNm l with
 |false=>simp [qhp,qqV,↓Tr.run_ite,qo3,pCh,h,qlC]
 |true=>cases l with
  |nil=>cases h
  |cons w l=>simp [qhp,qqV,↓Tr.run_ite,qo3,pCh,h,qBA,qap,qay]
@[simp] theorem btyp_law (l:List Wd) (n:Int):qkB (rOf cW l) n=some (bOut (.int .i64) n (pTyp l)):=by
 cases h:wIs 1 [105,110,116] l with
 |true=>cases l with
  |nil=>cases h
  |cons w l=>simp [qkB,qsm,↓Tr.run_ite,pTyp,qbb h,qaR h,qay]
 |false=>cases h2:wIs 1 [115,121,109] l with
  |true=>cases l with
   |nil=>cases h2
   |cons w l=>simp [qkB,qsm,↓Tr.run_ite,pTyp,qa2 h,qaU h,qbb h2,qaR h2,qay]
  |false=>simp [qkB,qsm,↓Tr.run_ite,pTyp,qa2 h,qaU h,qa2 h2,qaU h2,qlC]
@[simp] theorem bterm_law (l:List Wd) (n:Int):qb8 (rOf cW l) n=some (bOut vcM n (qeP l)):=by
 cases h2:wIs 2 [] l with
 |true=>cases l with
  |nil=>cases h2
  |cons w l=>simp [qb8,qhc,↓Tr.run_ite,qeP,qbb h2,qay,h2]
 |false=>cases h4:wIs 4 [] l with
  |true=>cases l with
   |nil=>cases h4
   |cons w l=>simp [qb8,qhc,↓Tr.run_ite,qeP,qa2 h2,qbb h4,qay,h2,h4]
  |false=>cases h5:wIs 5 [] l with
   |true=>cases l with
    |nil=>cases h5
    |cons w l=>simp [qb8,qhc,↓Tr.run_ite,qeP,qa2 h2,qa2 h4,qbb h5,qay,h2,h4,h5]
   |false=>cases h3:wIs 3 [] l with
    |true=>cases l with
     |nil=>cases h3
     |cons w l=>simp [qb8,qhc,↓Tr.run_ite,qeP,qcl,qa2 h2,qa2 h4,qa2 h5,qbb h3,qay,h2,h4,h5,h3]
    |false=>simp [qb8,qhc,↓Tr.run_ite,qeP,qcl,qa2 h2,qa2 h4,qa2 h5,qa2 h3,qlC,h2,h4,h5,h3]
end Go.Pv
set_option maxHeartbeats 4000000
set_option maxRecDepth 200000
set_option linter.unusedSimpArgs false
set_option linter.unusedVariables false
namespace Go.Pv
open Go Go.Proofs
theorem qpm {α:Type} {p:Ps α} (hp:Good p) {l r:List Wd} {a:α} (h:p l=.ok a r):r.length≤l.length:=by
 have:=qDn hp l;rw [h] at this;exact this
theorem qpN {k:Int} {t:List UInt8} {l r:List Wd} {w:Wd} (h:qcl k t l=.ok w r):l=w::r∧wIs k t l=true:=by
 unfold qcl at h
 cases hi:wIs k t l with
 |false=>rw [qa2 hi] at h;cases h
 |true=>cases l with
  |nil=>cases hi
  |cons w l=>rw [qbb hi] at h;cases h;exact⟨rfl,rfl⟩
def qdX {α:Type} (p:Ps α):Ps (Option α):=pIf 6 [44] (fun _=>qap p fun a=>qay (some a)) (qay none)
def mstep {α γ:Type} (V X:List α→List Wd→γ) (P:List Wd→γ) (acc:List α):Rs (Option α)→γ
 |.ok (some a) r=>V (acc++[a]) r
 |.ok none r=>X acc r
 |.no r=>P r
theorem qD6 {α γ:Type} {p:Ps α} (hp:Good p) {V X P:List α→List Wd→γ} (E:∀ acc r,acc.length+r.length≤65537→V acc r=mstep V X (P acc) acc (qdX p r)) :
  ∀ (m:Nat) (acc:List α) (r:List Wd),r.length≤m→acc.length+r.length≤65537→match qh4 p m acc r with
   |.ok bs r'=>V acc r=X bs r'
   |.no r'=>∃ acc',V acc r=P acc' r'
 |m,acc,r,h,hb=>by
  rw [E acc r hb];unfold qh4 qdX;cases hw:wIs 6 [44] r with
  |false=>rw [qa2 hw,qa2 hw];rfl
  |true=>cases r with
   |nil=>cases hw
   |cons w r =>
    rw [qbb hw,qbb hw];simp only [List.length_cons] at h hb;cases m with
    |zero=>omega
    |succ m =>
     rw [qcd];cases h1:p r with
     |no r'=>rw [qaS h1,qaS h1];exact⟨acc,rfl⟩
     |ok a r' =>
      have:=qpm hp h1;rw [qaQ h1,qaQ h1];exact qD6 hp E m (acc++[a]) r' (by omega) (by simp only [List.length_append,List.length_singleton];omega)
theorem qim {α γ:Type} {p:Ps α} (hp:Good p) {V0 V X0 X P:List α→List Wd→γ} {P0:List Wd→γ} (E0:∀ acc r,acc.length+r.length≤65537→V0 acc r=mstep V X0 P0 acc (qdX p r)) (E:∀ acc r,acc.length+r.length≤65537→V acc r=mstep V X (P acc) acc (qdX p r))
  (m:Nat) (acc:List α) (r:List Wd) (h:r.length≤m) (hb:acc.length+r.length≤65537):match qh4 p m acc r with
   |.ok bs r'=>V0 acc r=X0 bs r'∨V0 acc r=X bs r'
   |.no r'=>V0 acc r=P0 r'∨∃ acc',V0 acc r=P acc' r':=by
 rw [E0 acc r hb];unfold qh4 qdX;cases hw:wIs 6 [44] r with
 |false=>rw [qa2 hw,qa2 hw];exact .inl rfl
 |true=>cases r with
  |nil=>cases hw
  |cons w r =>
   rw [qbb hw,qbb hw];simp only [List.length_cons] at h hb;cases m with
   |zero=>omega
   |succ m =>
    rw [qcd];cases h1:p r with
    |no r'=>rw [qaS h1,qaS h1];exact .inl rfl
    |ok a r' =>
     have:=qpm hp h1;rw [qaQ h1,qaQ h1];have H:=qD6 hp E m (acc++[a]) r' (by omega) (by simp only [List.length_append,List.length_singleton];omega)
     cases h2:qh4 p m (acc++[a]) r' with
     |ok bs r''=>rw [h2] at H;exact .inr H
     |no r''=>rw [h2] at H;exact .inr H
abbrev LOut:=Option (PExit×List PV×Store)
def qlz {α:Type} (C:Cod α) (n:Int) (acc:List α) (r:List Wd):LOut:=some (.exit 0,[.sl (rOf C acc) .full],bst r n)
def qk7 (n:Int) (r:List Wd):LOut:=some (.pan (mfit (plc n r)),[],bst r n)
def qkM {α:Type} (C:Cod α) (k:Nat) (t:TypeId) (n:Int) (acc:List α) (r:List Wd):LOut:=some (.exit 0,[.sl (rOf C acc) (.tok 0)],⟨[[.sl (rOf cW r) .non,.int .i64 n]],[(acc.length,k,t)],[138]⟩)
def qkH {α:Type} (k:Nat) (t:TypeId) (n:Int) (acc:List α) (r:List Wd):LOut:=some (.pan (mfit (plc n r)),[],⟨[[.sl (rOf cW r) .non,.int .i64 n]],[(acc.length,k,t)],[138]⟩)
theorem qDc (n:Int):([[.int .i64 n]]:List (List PV))=rOf cI [n]:=rfl
theorem qx9 (l:List Int) (n:Int):rOf cI l++[[.int .i64 n]]=rOf cI (l++[n]):=by rw [qe2];rfl
attribute [simp] qAD qB7 qxt qqC qxY qvP qwB qv9 qxH qxX qvS qxT qrr qqd qrk qqn qq9 qqr qqD qp9
def quS (n:Int) (acc:List Tm) (r:List Wd):LOut:=qhW [.ptr 0 0,.mth 113 [.ptr 0 0],.sl (rOf cM acc) (.tok 0)] ⟨[[.sl (rOf cW r) .non,.int .i64 n]],[(acc.length,5,94)],[138]⟩
def qLT (n:Int) (acc:List Tm) (r:List Wd):LOut:=qhW [.ptr 0 0,.mth 113 [.ptr 0 0],.sl (rOf cM acc) .full] (bst r n)
theorem qMd (n:Int) (acc:List Tm) (r:List Wd) (h:acc.length+r.length≤65537):quS n acc r=mstep (quS n) (qkM cM 5 94 n) (qkH 5 94 n acc) acc (qdX qeP r):=by
 conv=>lhs;rw [quS,qL0]
 unfold qdX;cases hw:wIs 6 [44] r with
 |false=>simp [qnS,↓Tr.run_ite,qa2 hw,qaU hw,qay,qkM,mstep]
 |true=>cases r with
  |nil=>cases hw
  |cons w r =>
   skip
   simp only [qbb hw,qap];cases hp:qeP r with
   |no r'=>simp [qnS,↓Tr.run_ite,qaR hw,hp,qkH,mstep]
   |ok a r' =>
    obtain⟨x1,x2,x3,x4,x5⟩:=a;simp only [List.length_cons] at h
    simp [qnS,↓Tr.run_ite,qaR hw,hp,qay,mstep,quS,];rw [if_pos (by omega)]
    simp
theorem qOF (n:Int) (acc:List Tm) (r:List Wd) (h:acc.length+r.length≤65537):qLT n acc r=mstep (quS n) (qlz cM n) (qk7 n) acc (qdX qeP r):=by
 conv=>lhs;rw [qLT,bst,qP5]
 unfold qdX;cases hw:wIs 6 [44] r with
 |false=>simp [qsD,↓Tr.run_ite,qa2 hw,qaU hw,qay,qlz,mstep]
 |true=>cases r with
  |nil=>cases hw
  |cons w r =>
   skip
   simp only [qbb hw,qap];cases hp:qeP r with
   |no r'=>simp [qsD,↓Tr.run_ite,qaR hw,hp,qk7,mstep]
   |ok a r' =>
    obtain⟨x1,x2,x3,x4,x5⟩:=a;simp only [List.length_cons] at h
    simp [qsD,↓Tr.run_ite,qaR hw,hp,qay,mstep,quS,];rw [if_pos (by omega)]
    simp
theorem qOZ {l:List Wd} (hl:l.length≤65536) (n:Int):qtX (rOf cW l) n=some (bOut (fun a=>.sl (rOf cM a) .non) n (pRow qeP l)):=by
 unfold pRow;rw [qcd];unfold qap;cases hp:qeP l with
 |no r=>simp [qtX,qzt,↓Tr.run_ite,hp]
 |ok a r =>
  have hr:=qpm qiw hp;have H:=qim qiw (qOF n) (qMd n) l.length [a] r hr (by simp only [List.length_singleton];omega)
  simp only [List.nil_append];obtain⟨x1,x2,x3,x4,x5⟩:=a;cases ht:qh4 qeP l.length [(x1,x2,x3,x4,x5)] r with
  |ok bs r' =>
   rw [ht] at H;rcases H with H|H<;>simp [qtX,qzt,qd1,↓Tr.run_ite,hp,show qhW _ ⟨[[.sl (rOf cW r) .non,.int .i64 n]],[],[138]⟩=_ from H,qlz,qkM]
  |no r' =>
   rw [ht] at H;rcases H with H|⟨_,H⟩<;>simp [qtX,qzt,qd1,↓Tr.run_ite,hp,show qhW _ ⟨[[.sl (rOf cW r) .non,.int .i64 n]],[],[138]⟩=_ from H,qk7,qkH]
attribute [simp] qCi qBN qvt qrs qxw qv3
theorem qNg {l:List Wd} (hl:l.length≤65536) (n:Int):qpt (rOf cW l) n=some (bOut (fun a=>.sl (rOf cM a) .non) n (qkw qeP l)):=by
 unfold qkw;cases h1:qcl 6 [40] l with
 |no r=>simp [qpt,qr3,↓Tr.run_ite,qaS h1,h1]
 |ok w l =>
  obtain⟨rfl,-⟩:=qpN h1;simp only [List.length_cons] at hl;rw [qaQ h1];cases h2:wIs 6 [41] l with
  |true=>cases l with
   |nil=>cases h2
   |cons w l=>simp [qpt,qr3,↓Tr.run_ite,h1,qbb h2,qaR h2,qay]
  |false =>
   have k1:=qOZ (l:=l) (by omega) n
   rw [qa2 h2];cases h3:pRow qeP l with
   |no r=>simp [qpt,qr3,↓Tr.run_ite,h1,qaU h2,qaS h3,k1,h3]
   |ok a r =>
    rw [qaQ h3];cases h4:qcl 6 [41] r with
    |no r=>simp [qpt,qr3,↓Tr.run_ite,h1,qaU h2,qaS h4,k1,h3,h4]
    |ok w r=>simp [qpt,qr3,↓Tr.run_ite,h1,qaU h2,qaQ h4,k1,h3,h4,qay]
attribute [simp] qBq qAu qyf qq3 qxo qvw qxO qvu qxx qyj qxN qvk qpD qqc qqO qrv qrh qp5 qrm qrA
def quP (n:Int) (acc:List Int) (r:List Wd):LOut:=qh2 [.ptr 0 0,.mth 138 [.ptr 0 0],.sl (rOf cI acc) (.tok 0)] ⟨[[.sl (rOf cW r) .non,.int .i64 n]],[(acc.length,1,112)],[138]⟩
def qLm (n:Int) (acc:List Int) (r:List Wd):LOut:=qh2 [.ptr 0 0,.mth 138 [.ptr 0 0],.sl (rOf cI acc) .full] (bst r n)
theorem qME (n:Int) (acc:List Int) (r:List Wd) (h:acc.length+r.length≤65537):quP n acc r=mstep (quP n) (qkM cI 1 112 n) (qkH 1 112 n acc) acc (qdX pTyp r):=by
 conv=>lhs;rw [quP,qOQ]
 unfold qdX;cases hw:wIs 6 [44] r with
 |false=>simp [qnx,↓Tr.run_ite,qa2 hw,qaU hw,qay,qkM,mstep]
 |true=>cases r with
  |nil=>cases hw
  |cons w r =>
   skip
   simp only [qbb hw,qap];cases hp:pTyp r with
   |no r'=>simp [qnx,↓Tr.run_ite,qaR hw,hp,qkH,mstep]
   |ok a r' =>
    skip
    simp only [List.length_cons] at h
    simp [qnx,↓Tr.run_ite,qaR hw,hp,qay,mstep,quP,qDc,qx9,];rw [if_pos (by omega)]
    simp
theorem qOX (n:Int) (acc:List Int) (r:List Wd) (h:acc.length+r.length≤65537):qLm n acc r=mstep (quP n) (qlz cI n) (qk7 n) acc (qdX pTyp r):=by
 conv=>lhs;rw [qLm,bst,qPo]
 unfold qdX;cases hw:wIs 6 [44] r with
 |false=>simp [qtB,↓Tr.run_ite,qa2 hw,qaU hw,qay,qlz,mstep]
 |true=>cases r with
  |nil=>cases hw
  |cons w r =>
   skip
   simp only [qbb hw,qap];cases hp:pTyp r with
   |no r'=>simp [qtB,↓Tr.run_ite,qaR hw,hp,qk7,mstep]
   |ok a r' =>
    skip
    simp only [List.length_cons] at h
    simp [qtB,↓Tr.run_ite,qaR hw,hp,qay,mstep,quP,qDc,qx9,];rw [if_pos (by omega)]
    simp
theorem qNd {l:List Wd} (hl:l.length≤65536) (n:Int):qtR (rOf cW l) n=some (bOut (fun a=>.sl (rOf cI a) .non) n (pRow pTyp l)):=by
 unfold pRow;rw [qcd];unfold qap;cases hp:pTyp l with
 |no r=>simp [qtR,qyP,↓Tr.run_ite,hp]
 |ok a r =>
  have hr:=qpm qnd hp;have H:=qim qnd (qOX n) (qME n) l.length [a] r hr (by simp only [List.length_singleton];omega)
  simp only [List.nil_append]
  skip
  cases ht:qh4 pTyp l.length [a] r with
  |ok bs r' =>
   rw [ht] at H;rcases H with H|H<;>simp [qtR,qyP,qdZ,↓Tr.run_ite,hp,qDc,qx9,show qh2 _ ⟨[[.sl (rOf cW r) .non,.int .i64 n]],[],[138]⟩=_ from H,qlz,qkM]
  |no r' =>
   rw [ht] at H;rcases H with H|⟨_,H⟩<;>simp [qtR,qyP,qdZ,↓Tr.run_ite,hp,qDc,qx9,show qh2 _ ⟨[[.sl (rOf cW r) .non,.int .i64 n]],[],[138]⟩=_ from H,qk7,qkH]
attribute [simp] qA4 qAg qyq qpu qvK qwN
theorem qMF {l:List Wd} (hl:l.length≤65536) (n:Int):qpq (rOf cW l) n=some (bOut (fun a=>.sl (rOf cI a) .non) n (qkw pTyp l)):=by
 unfold qkw;cases h1:qcl 6 [40] l with
 |no r=>simp [qpq,qsP,↓Tr.run_ite,qaS h1,h1]
 |ok w l =>
  obtain⟨rfl,-⟩:=qpN h1;simp only [List.length_cons] at hl;rw [qaQ h1];cases h2:wIs 6 [41] l with
  |true=>cases l with
   |nil=>cases h2
   |cons w l=>simp [qpq,qsP,↓Tr.run_ite,h1,qbb h2,qaR h2,qay]
  |false =>
   have k1:=qNd (l:=l) (by omega) n
   rw [qa2 h2];cases h3:pRow pTyp l with
   |no r=>simp [qpq,qsP,↓Tr.run_ite,h1,qaU h2,qaS h3,k1,h3]
   |ok a r =>
    rw [qaQ h3];cases h4:qcl 6 [41] r with
    |no r=>simp [qpq,qsP,↓Tr.run_ite,h1,qaU h2,qaS h4,k1,h3,h4]
    |ok w r=>simp [qpq,qsP,↓Tr.run_ite,h1,qaU h2,qaQ h4,k1,h3,h4,qay]
attribute [simp] qgj qf7 qek qeh qem qei qer
@[simp] theorem bparam_law (l:List Wd) (n:Int):qdE (rOf cW l) n=some (bOut vcP n (qd5 l)):=by
 unfold qd5;cases h1:qcl 2 [] l with
 |no r=>simp [qdE,qmt,↓Tr.run_ite,qaS h1,h1]
 |ok w r =>
  rw [qaQ h1];cases h2:pTyp r<;>simp [qdE,qmt,↓Tr.run_ite,qap,qay,h1,h2]
attribute [simp] qCj qAN qwW qpU qw9 qwC qw4 qvW qwh qwX qyk qvz qri qqf qq1 qqK qrp qqq qpK qpv
def quz (n:Int) (acc:List Pa) (r:List Wd):LOut:=qhZ [.ptr 0 0,.mth 140 [.ptr 0 0],.sl (rOf cP acc) (.tok 0)] ⟨[[.sl (rOf cW r) .non,.int .i64 n]],[(acc.length,2,114)],[138]⟩
def qLj (n:Int) (acc:List Pa) (r:List Wd):LOut:=qhZ [.ptr 0 0,.mth 140 [.ptr 0 0],.sl (rOf cP acc) .full] (bst r n)
theorem qNj (n:Int) (acc:List Pa) (r:List Wd) (h:acc.length+r.length≤65537):quz n acc r=mstep (quz n) (qkM cP 2 114 n) (qkH 2 114 n acc) acc (qdX qd5 r):=by
 conv=>lhs;rw [quz,qO1]
 unfold qdX;cases hw:wIs 6 [44] r with
 |false=>simp [qmo,↓Tr.run_ite,qa2 hw,qaU hw,qay,qkM,mstep]
 |true=>cases r with
  |nil=>cases hw
  |cons w r =>
   skip
   simp only [qbb hw,qap];cases hp:qd5 r with
   |no r'=>simp [qmo,↓Tr.run_ite,qaR hw,hp,qkH,mstep]
   |ok a r' =>
    obtain⟨x1,x2⟩:=a;simp only [List.length_cons] at h
    simp [qmo,↓Tr.run_ite,qaR hw,hp,qay,mstep,quz,qDU,qwa,];rw [if_pos (by omega)]
    simp
theorem qNN (n:Int) (acc:List Pa) (r:List Wd) (h:acc.length+r.length≤65537):qLj n acc r=mstep (quz n) (qlz cP n) (qk7 n) acc (qdX qd5 r):=by
 conv=>lhs;rw [qLj,bst,qPI]
 unfold qdX;cases hw:wIs 6 [44] r with
 |false=>simp [qsj,↓Tr.run_ite,qa2 hw,qaU hw,qay,qlz,mstep]
 |true=>cases r with
  |nil=>cases hw
  |cons w r =>
   skip
   simp only [qbb hw,qap];cases hp:qd5 r with
   |no r'=>simp [qsj,↓Tr.run_ite,qaR hw,hp,qk7,mstep]
   |ok a r' =>
    obtain⟨x1,x2⟩:=a;simp only [List.length_cons] at h
    simp [qsj,↓Tr.run_ite,qaR hw,hp,qay,mstep,quz,qDU,qwa,];rw [if_pos (by omega)]
    simp
theorem qMD {l:List Wd} (hl:l.length≤65536) (n:Int):qtI (rOf cW l) n=some (bOut (fun a=>.sl (rOf cP a) .non) n (pRow qd5 l)):=by
 unfold pRow;rw [qcd];unfold qap;cases hp:qd5 l with
 |no r=>simp [qtI,qzB,↓Tr.run_ite,hp]
 |ok a r =>
  have hr:=qpm qfV hp;have H:=qim qfV (qNN n) (qNj n) l.length [a] r hr (by simp only [List.length_singleton];omega)
  simp only [List.nil_append];obtain⟨x1,x2⟩:=a;cases ht:qh4 qd5 l.length [(x1,x2)] r with
  |ok bs r' =>
   rw [ht] at H;rcases H with H|H<;>simp [qtI,qzB,qd3,↓Tr.run_ite,hp,qDU,qwa,show qhZ _ ⟨[[.sl (rOf cW r) .non,.int .i64 n]],[],[138]⟩=_ from H,qlz,qkM]
  |no r' =>
   rw [ht] at H;rcases H with H|⟨_,H⟩<;>simp [qtI,qzB,qd3,↓Tr.run_ite,hp,qDU,qwa,show qhZ _ ⟨[[.sl (rOf cW r) .non,.int .i64 n]],[],[138]⟩=_ from H,qk7,qkH]
attribute [simp] qAn qBc qvh qpQ qw6 qws
theorem qMK {l:List Wd} (hl:l.length≤65536) (n:Int):qps (rOf cW l) n=some (bOut (fun a=>.sl (rOf cP a) .non) n (qkw qd5 l)):=by
 unfold qkw;cases h1:qcl 6 [40] l with
 |no r=>simp [qps,qsd,↓Tr.run_ite,qaS h1,h1]
 |ok w l =>
  obtain⟨rfl,-⟩:=qpN h1;simp only [List.length_cons] at hl;rw [qaQ h1];cases h2:wIs 6 [41] l with
  |true=>cases l with
   |nil=>cases h2
   |cons w l=>simp [qps,qsd,↓Tr.run_ite,h1,qbb h2,qaR h2,qay]
  |false =>
   have k1:=qMD (l:=l) (by omega) n
   rw [qa2 h2];cases h3:pRow qd5 l with
   |no r=>simp [qps,qsd,↓Tr.run_ite,h1,qaU h2,qaS h3,k1,h3]
   |ok a r =>
    rw [qaQ h3];cases h4:qcl 6 [41] r with
    |no r=>simp [qps,qsd,↓Tr.run_ite,h1,qaU h2,qaS h4,k1,h3,h4]
    |ok w r=>simp [qps,qsd,↓Tr.run_ite,h1,qaU h2,qaQ h4,k1,h3,h4,qay]
attribute [simp] qfd qeG qdR qdm qdN qfb qcP qCp qCo qvC qx2 qww qwc qxA qvD qq8 qrx qqt qnP qmq qgA qgg qfQ qfX qgs qfW qgr qjm qkn qgw qjy qkl qgB qfN qgb qgp qjl qlS qmK qin qf9 qfM qif qi0 qiV qna qrN qtf qnJ qjw qml qme qmX qjL qnG qmN qjF qgm qjo qi8 qj7 qCh qAA qvA qqe qpH qxM qwA qv4
theorem qh9 {l:List Wd} (hl:l.length≤65536) (n:Int):qfJ (rOf cW l) n=some (bOut vcA n (qmR l)):=by
 unfold qmR;cases h1:qo3 l with
 |no r=>simp [qfJ,qqm,↓Tr.run_ite,qaS h1,h1]
 |ok a r =>
  have hr:=qpm qdF h1;have k:=qNg (l:=r) (by omega) n
  rw [qaQ h1];cases h2:qkw qeP r<;>simp [qfJ,qqm,↓Tr.run_ite,qap,qay,h1,h2,k]
def opL:List (List UInt8):=[[61],[33,61],[60],[60,61],[62],[62,61]]
def opV (i:Nat) (l:List Wd) (n:Int):LOut:=qsA [.ptr 0 0,.sl (rOf cS opL) .full,.int .i64 6,.int .i64 i] (bst l n)
theorem qEd {i:Nat} {t:List UInt8} (h:opL[i]?=some t) {w:Wd} {l:List Wd} (hw:wIs 6 t (w::l)=true) (n:Int):opV i (w::l) n=some (.ret,[.int .i64 (i+1:Nat)],bst l n):=by
 obtain⟨h3,h4⟩:=List.getElem?_eq_some_iff.1 h;have hi:i < 6:=h3;have h2:((i:Nat):Int) < 6:=by omega
 unfold opV bst;rw [qGc];simp [qsZ,↓Tr.run_ite,h4,qaR hw,qbR (show i < 9223372036854775807 by omega),h2,h3]
theorem qEb {i:Nat} {t:List UInt8} (h:opL[i]?=some t) {l:List Wd} (hw:wIs 6 t l=false) (n:Int):opV i l n=opV (i+1) l n:=by
 obtain⟨h3,h4⟩:=List.getElem?_eq_some_iff.1 h;have hi:i < 6:=h3;have h2:((i:Nat):Int) < 6:=by omega
 unfold opV bst
 conv=>lhs;rw [qGc]
 simp [qsZ,↓Tr.run_ite,h4,qaU hw,qbR (show i < 9223372036854775807 by omega),h2,h3]
theorem qQe (l:List Wd) (n:Int):opV 6 l n=some (.exit 0,[.ptr 0 0],bst l n):=by
 unfold opV bst;rw [qGc];simp [qsZ,↓Tr.run_ite]
@[simp] theorem bop_law (l:List Wd) (n:Int):qtK (rOf cW l) n=some (bOut (.int .i64) n (pOp l)):=by
 have e:∀ x,opV 0 l n=x→qsA [.ptr 0 0,.sl (rOf cS opL) .full,.int .i64 6,.int .i64 0] (bst l n)=x:=fun x h=>h
 have fin:∀ i a r,opV 0 l n=some (.ret,[.int .i64 ((i+1:Nat):Int)],bst r n)→((i+1:Nat):Int)=a→qtK (rOf cW l) n=some (.val (.int .i64 a),bst r n):=by
  intro i a r h ha;have h:=e _ h;simp only [opL,bst] at h
  simp [qtK,qCD,↓Tr.run_ite,qrV,h,← ha]
 unfold pOp;cases h1:wIs 6 [61] l with
 |true=>cases l with
  |nil=>cases h1
  |cons w l=>rw [qbb h1];exact fin 0 1 l (qEd rfl h1 n) rfl
 |false =>
  have f1:=qEb (i:=0) rfl h1 n;rw [qa2 h1];cases h2:wIs 6 [33,61] l with
  |true=>cases l with
   |nil=>cases h2
   |cons w l=>rw [qbb h2];exact fin 1 2 l (f1.trans (qEd rfl h2 n)) rfl
  |false =>
   have f2:=f1.trans (qEb (i:=1) rfl h2 n);rw [qa2 h2];cases h3:wIs 6 [60] l with
   |true=>cases l with
    |nil=>cases h3
    |cons w l=>rw [qbb h3];exact fin 2 3 l (f2.trans (qEd rfl h3 n)) rfl
   |false =>
    have f3:=f2.trans (qEb (i:=2) rfl h3 n);rw [qa2 h3];cases h4:wIs 6 [60,61] l with
    |true=>cases l with
     |nil=>cases h4
     |cons w l=>rw [qbb h4];exact fin 3 4 l (f3.trans (qEd rfl h4 n)) rfl
    |false =>
     have f4:=f3.trans (qEb (i:=3) rfl h4 n);rw [qa2 h4];cases h5:wIs 6 [62] l with
     |true=>cases l with
      |nil=>cases h5
      |cons w l=>rw [qbb h5];exact fin 4 5 l (f4.trans (qEd rfl h5 n)) rfl
     |false =>
      have f5:=f4.trans (qEb (i:=4) rfl h5 n);rw [qa2 h5];cases h6:wIs 6 [62,61] l with
      |true=>cases l with
       |nil=>cases h6
       |cons w l=>rw [qbb h6];exact fin 5 6 l (f5.trans (qEd rfl h6 n)) rfl
      |false =>
       have h:=e _ ((f5.trans (qEb (i:=5) rfl h6 n)).trans (qQe l n));simp only [opL,bst] at h
       rw [qa2 h6];simp [qtK,qCD,↓Tr.run_ite,qrV,h,qlC]
theorem qhQ {l:List Wd} (hl:l.length≤65536) (n:Int):qbD (rOf cW l) n=some (bOut vcL n (pLit l)):=by
 unfold pLit;cases h1:wIs 1 [110,111,116] l with
 |true=>cases l with
  |nil=>cases h1
  |cons w l =>
   simp only [List.length_cons] at hl;have k:=qh9 (l:=l) (by omega) n
   rw [qbb h1];cases h2:qmR l<;>simp [qbD,qlh,↓Tr.run_ite,qaR h1,qap,qay,tm0,h2,k]
 |false =>
  rw [qa2 h1];cases h2:wNm l with
  |true =>
   have k:=qh9 hl n;unfold pCh;rw [h2];simp only [if_true];cases h3:qmR l<;>simp [qbD,qlh,↓Tr.run_ite,qaU h1,qap,qay,tm0,h2,h3,k]
  |false =>
   rw [ch_f h2];cases h3:qeP l with
   |no r=>simp [qbD,qlh,↓Tr.run_ite,qaU h1,h2,h3,qaS h3]
   |ok a r =>
    rw [qaQ h3];cases h4:pOp r with
    |no r=>simp [qbD,qlh,↓Tr.run_ite,qaU h1,h2,h3,h4,qaS h4]
    |ok o r =>
     rw [qaQ h4];cases h5:qeP r<;>simp [qbD,qlh,↓Tr.run_ite,qaU h1,h2,h3,h4,h5,qap,qay]
theorem qgD {l:List Wd} (hl:l.length≤65536) (n:Int):qhX (rOf cW l) n=some (bOut vcAc n (pAct l)):=by
 unfold pAct;cases h1:wIs 6 [43] l with
 |true=>cases l with
  |nil=>cases h1
  |cons w l =>
   simp only [List.length_cons] at hl;have k:=qh9 (l:=l) (by omega) n
   rw [qbb h1];cases h2:qmR l<;>simp [qhX,qs5,↓Tr.run_ite,qaR h1,qap,qay,h2,k]
 |false =>
  rw [qa2 h1];cases h2:qcl 6 [45] l with
  |no r=>simp [qhX,qs5,↓Tr.run_ite,qaU h1,h2,qaS h2]
  |ok w l =>
   obtain⟨rfl,-⟩:=qpN h2;simp only [List.length_cons] at hl;have k:=qh9 (l:=l) (by omega) n
   rw [qaQ h2];cases h3:qmR l<;>simp [qhX,qs5,↓Tr.run_ite,qaU h1,qap,qay,h2,h3,k]
attribute [simp] qBR qBw qys qq4 qwF qw1 qvn qxS qvr qv1 qvy qvj qpO qqQ qqv qqG qqZ qpG qqE qpz
def quf (n:Int) (acc:List Li) (r:List Wd):LOut:=qhY [.ptr 0 0,.mth 108 [.ptr 0 0],.sl (rOf cL acc) (.tok 0)] ⟨[[.sl (rOf cW r) .non,.int .i64 n]],[(acc.length,14,96)],[138]⟩
def qLL (n:Int) (acc:List Li) (r:List Wd):LOut:=qhY [.ptr 0 0,.mth 108 [.ptr 0 0],.sl (rOf cL acc) .full] (bst r n)
theorem qNp (n:Int) (acc:List Li) (r:List Wd) (h:acc.length+r.length≤65537):quf n acc r=mstep (quf n) (qkM cL 14 96 n) (qkH 14 96 n acc) acc (qdX pLit r):=by
 conv=>lhs;rw [quf,qOe]
 unfold qdX;cases hw:wIs 6 [44] r with
 |false=>simp [qmS,↓Tr.run_ite,qa2 hw,qaU hw,qay,qkM,mstep]
 |true=>cases r with
  |nil=>cases hw
  |cons w r =>
   have hl:r.length≤65536:=by simp only [List.length_cons] at h;omega
   simp only [qbb hw,qap];cases hp:pLit r with
   |no r'=>simp [qmS,↓Tr.run_ite,qaR hw,hp,qkH,mstep,qhQ hl]
   |ok a r' =>
    obtain⟨x1,⟨x2,x3⟩,x4,⟨x5,x6,x7,x8,x9⟩,⟨y5,y6,y7,y8,y9⟩⟩:=a;simp only [List.length_cons] at h
    simp [qmS,↓Tr.run_ite,qaR hw,hp,qay,mstep,quf,qDv,qxf,qhQ hl];rw [if_pos (by omega)]
    simp
theorem qOG (n:Int) (acc:List Li) (r:List Wd) (h:acc.length+r.length≤65537):qLL n acc r=mstep (quf n) (qlz cL n) (qk7 n) acc (qdX pLit r):=by
 conv=>lhs;rw [qLL,bst,qPX]
 unfold qdX;cases hw:wIs 6 [44] r with
 |false=>simp [qtH,↓Tr.run_ite,qa2 hw,qaU hw,qay,qlz,mstep]
 |true=>cases r with
  |nil=>cases hw
  |cons w r =>
   have hl:r.length≤65536:=by simp only [List.length_cons] at h;omega
   simp only [qbb hw,qap];cases hp:pLit r with
   |no r'=>simp [qtH,↓Tr.run_ite,qaR hw,hp,qk7,mstep,qhQ hl]
   |ok a r' =>
    obtain⟨x1,⟨x2,x3⟩,x4,⟨x5,x6,x7,x8,x9⟩,⟨y5,y6,y7,y8,y9⟩⟩:=a;simp only [List.length_cons] at h
    simp [qtH,↓Tr.run_ite,qaR hw,hp,qay,mstep,quf,qDv,qxf,qhQ hl];rw [if_pos (by omega)]
    simp
theorem qMl {l:List Wd} (hl:l.length≤65536) (n:Int):qtL (rOf cW l) n=some (bOut (fun a=>.sl (rOf cL a) .non) n (pRow pLit l)):=by
 unfold pRow;rw [qcd];unfold qap;cases hp:pLit l with
 |no r=>simp [qtL,qzN,↓Tr.run_ite,hp,qhQ hl]
 |ok a r =>
  have hr:=qpm qpJ hp;have H:=qim qpJ (qOG n) (qNp n) l.length [a] r hr (by simp only [List.length_singleton];omega)
  simp only [List.nil_append];obtain⟨x1,⟨x2,x3⟩,x4,⟨x5,x6,x7,x8,x9⟩,⟨y5,y6,y7,y8,y9⟩⟩:=a;cases ht:qh4 pLit l.length [(x1,(x2,x3),x4,(x5,x6,x7,x8,x9),(y5,y6,y7,y8,y9))] r with
  |ok bs r' =>
   rw [ht] at H;rcases H with H|H<;>simp [qtL,qzN,qd6,↓Tr.run_ite,hp,qDv,qxf,qhQ hl,show qhY _ ⟨[[.sl (rOf cW r) .non,.int .i64 n]],[],[138]⟩=_ from H,qlz,qkM]
  |no r' =>
   rw [ht] at H;rcases H with H|⟨_,H⟩<;>simp [qtL,qzN,qd6,↓Tr.run_ite,hp,qDv,qxf,qhQ hl,show qhY _ ⟨[[.sl (rOf cW r) .non,.int .i64 n]],[],[138]⟩=_ from H,qk7,qkH]
attribute [simp] qAe qCk qvX qpC qyo qv8 qxs qyn qvl qxu qxr qvM qrq qro qqP qqp qpX qp6 qrn qqw
def quy (n:Int) (acc:List Ac) (r:List Wd):LOut:=qh1 [.ptr 0 0,.mth 142 [.ptr 0 0],.sl (rOf cAc acc) (.tok 0)] ⟨[[.sl (rOf cW r) .non,.int .i64 n]],[(acc.length,3,116)],[138]⟩
def qLr (n:Int) (acc:List Ac) (r:List Wd):LOut:=qh1 [.ptr 0 0,.mth 142 [.ptr 0 0],.sl (rOf cAc acc) .full] (bst r n)
theorem qNQ (n:Int) (acc:List Ac) (r:List Wd) (h:acc.length+r.length≤65537):quy n acc r=mstep (quy n) (qkM cAc 3 116 n) (qkH 3 116 n acc) acc (qdX pAct r):=by
 conv=>lhs;rw [quy,qMt]
 unfold qdX;cases hw:wIs 6 [44] r with
 |false=>simp [qlZ,↓Tr.run_ite,qa2 hw,qaU hw,qay,qkM,mstep]
 |true=>cases r with
  |nil=>cases hw
  |cons w r =>
   have hl:r.length≤65536:=by simp only [List.length_cons] at h;omega
   simp only [qbb hw,qap];cases hp:pAct r with
   |no r'=>simp [qlZ,↓Tr.run_ite,qaR hw,hp,qkH,mstep,qgD hl]
   |ok a r' =>
    obtain⟨x1,⟨x2,x3⟩⟩:=a;simp only [List.length_cons] at h
    simp [qlZ,↓Tr.run_ite,qaR hw,hp,qay,mstep,quy,qw7,qqz,qgD hl];rw [if_pos (by omega)]
    simp
theorem qOA (n:Int) (acc:List Ac) (r:List Wd) (h:acc.length+r.length≤65537):qLr n acc r=mstep (quy n) (qlz cAc n) (qk7 n) acc (qdX pAct r):=by
 conv=>lhs;rw [qLr,bst,qP0]
 unfold qdX;cases hw:wIs 6 [44] r with
 |false=>simp [qsn,↓Tr.run_ite,qa2 hw,qaU hw,qay,qlz,mstep]
 |true=>cases r with
  |nil=>cases hw
  |cons w r =>
   have hl:r.length≤65536:=by simp only [List.length_cons] at h;omega
   simp only [qbb hw,qap];cases hp:pAct r with
   |no r'=>simp [qsn,↓Tr.run_ite,qaR hw,hp,qk7,mstep,qgD hl]
   |ok a r' =>
    obtain⟨x1,⟨x2,x3⟩⟩:=a;simp only [List.length_cons] at h
    simp [qsn,↓Tr.run_ite,qaR hw,hp,qay,mstep,quy,qw7,qqz,qgD hl];rw [if_pos (by omega)]
    simp
theorem qOq {l:List Wd} (hl:l.length≤65536) (n:Int):qtW (rOf cW l) n=some (bOut (fun a=>.sl (rOf cAc a) .non) n (pRow pAct l)):=by
 unfold pRow;rw [qcd];unfold qap;cases hp:pAct l with
 |no r=>simp [qtW,qzJ,↓Tr.run_ite,hp,qgD hl]
 |ok a r =>
  have hr:=qpm qry hp;have H:=qim qry (qOA n) (qNQ n) l.length [a] r hr (by simp only [List.length_singleton];omega)
  simp only [List.nil_append];obtain⟨x1,⟨x2,x3⟩⟩:=a;cases ht:qh4 pAct l.length [(x1,(x2,x3))] r with
  |ok bs r' =>
   rw [ht] at H;rcases H with H|H<;>simp [qtW,qzJ,qd4,↓Tr.run_ite,hp,qw7,qqz,qgD hl,show qh1 _ ⟨[[.sl (rOf cW r) .non,.int .i64 n]],[],[138]⟩=_ from H,qlz,qkM]
  |no r' =>
   rw [ht] at H;rcases H with H|⟨_,H⟩<;>simp [qtW,qzJ,qd4,↓Tr.run_ite,hp,qw7,qqz,qgD hl,show qh1 _ ⟨[[.sl (rOf cW r) .non,.int .i64 n]],[],[138]⟩=_ from H,qk7,qkH]
theorem qyz {l:List Wd} (hl:l.length≤65536) (n:Int):qdc (rOf cW l) n=some (bOut vcRu n (qhg l)):=by
 have k1:=qh9 hl n;unfold qhg;cases h1:qmR l with
 |no r=>simp [qdc,qjJ,↓Tr.run_ite,k1,h1,qaS h1]
 |ok a r =>
  have hr:=qpm qeI h1;rw [qaQ h1];cases h2:wIs 6 [58,45] r with
  |true=>cases r with
   |nil=>cases h2
   |cons w r =>
    simp only [List.length_cons] at hr;have k2:=qMl (l:=r) (by omega) n
    rw [qbb h2];cases h3:pRow pLit r with
    |no r=>simp [qdc,qjJ,↓Tr.run_ite,k1,h1,qaR h2,k2,h3,qaS h3]
    |ok b r =>
     rw [qaQ h3];unfold pDot;cases h4:qcl 6 [46] r<;>simp [qdc,qjJ,↓Tr.run_ite,k1,h1,qaR h2,k2,h3,h4,qap,qay]
  |false =>
   rw [qa2 h2];unfold pDot;cases h4:qcl 6 [46] r<;>simp [qdc,qjJ,↓Tr.run_ite,k1,h1,qaU h2,h4,qap,qay]
theorem qFQ {w:Wd} {l:List Wd} (hl:l.length≤65536) (n:Int):qdU (rOf cW (w::l)) n=some (bOut vcD n (qvE (w::l))):=by
 have e:qvE (w::l)=qap qo3 (fun x=>qap (qkw pTyp) fun t=>pDot (x,decide (w.2.1=[98,97,115,101]),t)) l:=rfl
 rw [e];cases h1:qo3 l with
 |no r=>simp [qdU,ql4,↓Tr.run_ite,h1,qaS h1]
 |ok a r =>
  have hr:=qpm qdF h1;have k2:=qMF (l:=r) (by omega) n
  rw [qaQ h1];cases h3:qkw pTyp r with
  |no r=>simp [qdU,ql4,↓Tr.run_ite,h1,k2,h3,qaS h3]
  |ok b r =>
   rw [qaQ h3];unfold pDot;cases h4:qcl 6 [46] r<;>simp [qdU,ql4,↓Tr.run_ite,h1,k2,h3,h4,qap,qay]
theorem qOI {w:Wd} {l:List Wd} (hl:l.length≤65536) (n:Int):qnR (rOf cW (w::l)) n=some (bOut vcE n (pOn (w::l))):=by
 have e:pOn (w::l)=qap qo3 (fun x=>qap (qkw qd5) fun ps=>pIf 6 [58] (fun _=>qap (pRow pAct) fun b=>pDot (x,ps,b)) (pDot (x,ps,[]))) l:=rfl
 rw [e];cases h1:qo3 l with
 |no r=>simp [qnR,qsJ,↓Tr.run_ite,h1,qaS h1]
 |ok a r =>
  have hr:=qpm qdF h1;have k2:=qMK (l:=r) (by omega) n
  rw [qaQ h1];cases h3:qkw qd5 r with
  |no r=>simp [qnR,qsJ,↓Tr.run_ite,h1,k2,h3,qaS h3]
  |ok b r =>
   have hr3:=qpm (qf6 qfV) h3;rw [qaQ h3];cases h5:wIs 6 [58] r with
   |true=>cases r with
    |nil=>cases h5
    |cons w r =>
     simp only [List.length_cons] at hr3;have k6:=qOq (l:=r) (by omega) n
     rw [qbb h5];cases h6:pRow pAct r with
     |no r=>simp [qnR,qsJ,↓Tr.run_ite,h1,k2,h3,qaR h5,k6,h6,qaS h6]
     |ok b r =>
      rw [qaQ h6];unfold pDot;cases h4:qcl 6 [46] r<;>simp [qnR,qsJ,↓Tr.run_ite,h1,k2,h3,qaR h5,k6,h6,h4,qap,qay]
   |false =>
    rw [qa2 h5];unfold pDot;cases h4:qcl 6 [46] r<;>simp [qnR,qsJ,↓Tr.run_ite,h1,k2,h3,qaU h5,h4,qap,qay]
end Go.Pv
set_option maxHeartbeats 4000000
set_option maxRecDepth 200000
set_option linter.unusedSimpArgs false
set_option linter.unusedVariables false
namespace Go.Pv
open Go Go.Proofs
attribute [simp] qs2 qsl qm2 qjS qjQ qi4 qnw qm1 qok qn9 qkK qlq qln qkX qnV qov qko qkT qlr qlN qkU qk8 qkY qlu qhu qla qg6 qlL qhF qjZ qkk
def bpS (n:Int) (g:Pg) (l:List Wd):Store:=⟨[[.sl (rOf cW l) .non,.int .i64 n],[.sl [] .full,.sl [] .full,.sl [] .full],[.sl (rOf cD g.1) (.tok 0),.sl (rOf cE g.2.1) (.tok 1),.sl (rOf cRu g.2.2) (.tok 2)]],[(g.1.length,3,80),(g.2.1.length,3,85),(g.2.2.length,3,51)],[138,27,27]⟩
def bpV (n:Int) (g:Pg) (l:List Wd):LOut:=qfg [.ptr 0 0,.ptr 1 0,.ptr 2 0] (bpS n g l)
theorem qNw (n:Int) (g:Pg):bpV n g []=some (.exit 0,[.ptr 1 0,.ptr 2 0],bpS n g []):=by
 unfold bpV bpS;rw [qwr];simp [qbM,↓Tr.run_ite]
theorem qKp (n:Int) (g:Pg) (w:Wd) (r:List Wd) (hb:g.1.length+g.2.1.length+g.2.2.length+(w::r).length≤65536):bpV n g (w::r)=match pOne g (w::r) with
  |.ok g' r'=>bpV n g' r'
  |.no r'=>some (.pan (mfit (plc n r')),[],bpS n g r'):=by
 have hw:(w::r).length≤65536:=by omega
 simp only [List.length_cons] at hb;have hr:r.length≤65536:=by omega
 have kd:=qFQ (w:=w) hr n;have ko:=qOI (w:=w) hr n;have kr:=qyz hw n;have c1:iLt 0 (xLen (rOf cW (w::r)))=true:=by simp
 have dec:isDe (w::r)=true→(bpV n g (w::r)=match pOne g (w::r) with
   |.ok g' r'=>bpV n g' r'
   |.no r'=>some (.pan (mfit (plc n r')),[],bpS n g r')):=by
  intro h1
  conv=>lhs;unfold bpV bpS;rw [qwr]
  have e:pOne g (w::r)=qap qvE (fun d=>qay (g.1++[d],g.2.1,g.2.2)) (w::r):=if_pos h1
  rw [e];have h1:(wIs 1 [98,97,115,101] (w::r) || wIs 1 [118,105,101,119] (w::r))=true:=h1;cases h2:wIs 1 [98,97,115,101] (w::r) with
  |true =>
   cases h3:qvE (w::r) with
   |no r'=>simp [qbM,↓Tr.run_ite,c1,h2,kd,h3,bpS,qap]
   |ok d r' =>
    obtain⟨x1,x2,x3⟩:=d;simp [qbM,↓Tr.run_ite,c1,h2,kd,h3,bpS,qap,qay,qLf,qJb,bpV];rw [if_pos (by omega)]
    simp
  |false =>
   rw [h2,Bool.false_or] at h1;cases h3:qvE (w::r) with
   |no r'=>simp [qbM,↓Tr.run_ite,c1,h1,h2,kd,h3,bpS,qap]
   |ok d r' =>
    obtain⟨x1,x2,x3⟩:=d;simp [qbM,↓Tr.run_ite,c1,h1,h2,kd,h3,bpS,qap,qay,qLf,qJb,bpV];rw [if_pos (by omega)]
    simp
 cases h1:isDe (w::r) with
 |true=>exact dec h1
 |false =>
  conv=>lhs;unfold bpV bpS;rw [qwr]
  have f:=h1;simp only [isDe,Bool.or_eq_false_iff] at f;unfold pOne;rw [ch_f h1];cases h2:wIs 1 [111,110] (w::r) with
  |true =>
   have e:∀ p q:Ps Pg,pCh (wIs 1 [111,110]) p q (w::r)=p (w::r):=fun p q=>if_pos h2
   rw [e];cases h3:pOn (w::r) with
   |no r'=>simp [qbM,↓Tr.run_ite,c1,f.1,f.2,h2,ko,h3,bpS,qap]
   |ok d r' =>
    obtain⟨x1,x2,x3⟩:=d;simp [qbM,↓Tr.run_ite,c1,f.1,f.2,h2,ko,h3,bpS,qap,qay,qPS,qNR,bpV];rw [if_pos (by omega)]
    simp
  |false =>
   rw [ch_f h2];cases h3:qhg (w::r) with
   |no r'=>simp [qbM,↓Tr.run_ite,c1,f.1,f.2,h2,kr,h3,bpS,qap]
   |ok d r' =>
    obtain⟨⟨x1,x2⟩,x3⟩:=d;simp [qbM,↓Tr.run_ite,c1,f.1,f.2,h2,kr,h3,bpS,qap,qay,qNx,qJW,bpV];rw [if_pos (by omega)]
    simp
theorem qJD {g g':Pg} {l r:List Wd} (h:pOne g l=.ok g' r):g'.1.length+g'.2.1.length+g'.2.2.length=g.1.length+g.2.1.length+g.2.2.length+1:=by
 unfold pOne pCh qap qay at h
 split at h
 ·split at h
  ·cases h;simp only [List.length_append,List.length_singleton];omega
  ·cases h
 ·split at h
  ·split at h
   ·cases h;simp only [List.length_append,List.length_singleton];omega
   ·cases h
  ·split at h
   ·cases h;simp only [List.length_append,List.length_singleton];omega
   ·cases h
theorem qI7 (n:Int):∀ (m:Nat) (g:Pg) (l:List Wd),l.length < m→g.1.length+g.2.1.length+g.2.2.length+l.length≤65536→match qiE m g l with
  |.ok g' r=>bpV n g l=some (.exit 0,[.ptr 1 0,.ptr 2 0],bpS n g' r)
  |.no r=>∃ g',bpV n g l=some (.pan (mfit (plc n r)),[],bpS n g' r)
 |0,_,_,h,_=>absurd h (Nat.not_lt_zero _)
 |m+1,g,[],h,hb=>qNw n g
 |m+1,g,w::r,h,hb=>by
  rw [qfU (by simp),qKp n g w r hb]
  cases h1:pOne g (w::r) with
  |no r'=>rw [qaS h1];exact⟨g,rfl⟩
  |ok g' r' =>
   rw [qaQ h1];have k1:=((qsV g).of h1).1;have k2:=qJD h1;exact qI7 n m g' r' (by omega) (by omega)
theorem qIX {l:List Wd} (hl:l.length≤65536) (n:Int):qe7 (rOf cW l) n=some (bOut vcPg n (qh7 l)):=by
 have H:=qI7 n (l.length+1) ([],[],[]) l (Nat.lt_succ_self _) (by simpa using hl)
 unfold qh7;cases h:qiE (l.length+1) ([],[],[]) l with
 |ok g r =>
  rw [h] at H;have H:qfg _ _=_:=H;simp only [bpS,qwv,List.length_nil] at H;simp [qe7,qqR,qaT,↓Tr.run_ite,H]
 |no r =>
  rw [h] at H;obtain⟨g,H⟩:=H;have H:qfg _ _=_:=H;simp only [bpS,qwv,List.length_nil] at H;simp [qe7,qqR,qaT,↓Tr.run_ite,H]
end Go.Pv
set_option maxHeartbeats 4000000
set_option linter.unusedSimpArgs false
set_option linter.unusedVariables false
namespace Go.Pv
def lexG (f i:Nat) (s:qU):List Wd×Option Nat:=lexL f (i+gapL false s) (s.drop (gapL false s))
theorem qyD (f i:Nat) {s:List UInt8} (h:s≠[]):lexL (f+1) i s=match wdL s with
  |none=>([],some i)
  |some (k,m,v)=>((k,s.take m,v,(i:Int))::(lexG f (i+m) (s.drop m)).1,(lexG f (i+m) (s.drop m)).2):=by
 obtain⟨c,t,rfl⟩:=List.exists_cons_of_ne_nil h;unfold lexG;simp only [List.drop_drop];rfl
def gpZ (c:qU):qU:=37::(c++[10])
def gpL (c:qU):qU:=[9,32,37]++(c++[10,13])
def gpT (c:qU) (l:List Wd):qU:=l.flatMap fun w=>w.2.1++gpL c
theorem qB2:∀ (c:qU) (t:qU),10∉c→gpS true (c++t)=gpS true t
 |[],_,_=>rfl
 |b::c,t,h=>by
  have hb:b.toNat≠10:=fun e=>h (by simp;exact .inl (UInt8.toNat_inj.1 e.symm))
  have hc:10∉c:=fun e=>h (List.mem_cons_of_mem _ e)
  simp only [List.cons_append,gpS,Bool.true_or,if_true,Bool.true_and];rw [show (decide (b.toNat=37) || decide (b.toNat≠10))=true by simp [hb]]
  exact qB2 c t hc
theorem qQC {c:List UInt8} (h:10∉c):gpS false (gpZ c)=some false:=by
 show gpS true (c++[10])=_
 rw [qB2 c _ h];rfl
theorem qQb {c:List UInt8} (h:10∉c):gpS false (gpL c)=some false:=by
 show gpS true (c++[10,13])=_
 rw [qB2 c _ h];rfl
theorem qMY {c:List UInt8} (hc:10∉c) {l:List Wv} {s:List UInt8} (h:Lx l s):Lx l (l.flatMap fun w=>w.2.1++gpL c):=by
 induction h with
 |nil s c h=>exact .nil _ false rfl
 |cons g x r k v l hg hw h ih =>
  have e:(((k,x,v)::l).flatMap fun w=>w.2.1++gpL c)=[]++(x++(gpL c++l.flatMap fun w=>w.2.1++gpL c)):=by simp
  rw [e];exact .cons [] x _ k v l rfl (qGf hw (.inr (.inl rfl))) (Lx.pre (qQb hc) ih)
theorem qEc {c:List UInt8} (hc:10∉c) {s:List UInt8} {l:List Wd} (h:qa3 s=(l,none)):∃ k,qa3 (gpZ c++gpT c l)=(k,none)∧Alk l k:=by
 have h1:=qMY hc (qLd h);have e:((l.map stW).flatMap fun w=>w.2.1++gpL c)=gpT c l:=by unfold gpT;rw [List.flatMap_map];rfl
 rw [e] at h1;obtain⟨k,h2,h3⟩:=qK3 (Lx.pre (qQC hc) h1);exact⟨k,h2,h3.symm⟩
end Go.Pv
set_option maxHeartbeats 4000000
set_option maxRecDepth 200000
set_option linter.unusedSimpArgs false
set_option linter.unusedVariables false
namespace Go.Pv
open Go Go.Proofs
theorem qIj:∀ (f i:Nat) (s:qU) (w:Wd),w∈(lexL f i s).1→(i:Int)≤w.2.2.2∧w.2.2.2≤((i+s.length:Nat):Int)
 |0,_,_,_,h=>by simp [lexL] at h
 |f+1,i,s,w,h=>by
  cases hs:s with
  |nil=>rw [hs] at h;simp [lexL] at h
  |cons c t =>
   have hne:s≠[]:=by rw [hs];simp
   rw [qyD f i hne] at h
   rw [← hs];cases hw:wdL s with
   |none=>rw [hw] at h;simp at h
   |some x =>
    obtain⟨k,m,v⟩:=x;rw [hw] at h
    obtain⟨m1,m2⟩:=qlK hw;simp only [List.mem_cons] at h
    rcases h with rfl|h
    ·exact⟨Int.le_refl _,by simp only;omega⟩
    ·have hg:=qgK false (s.drop m);have:=qIj f (i+m+gapL false (s.drop m)) ((s.drop m).drop (gapL false (s.drop m))) w h;simp only [List.length_drop] at this hg;omega
theorem qJo {s:List UInt8} {l:List Wd} {o:Option Nat} (h:qa3 s=(l,o)) {w:Wd} (hw:w∈l):0≤w.2.2.2∧w.2.2.2≤(s.length:Int):=by
 have:=qIj (s.length+1) (gapL false s) (s.drop (gapL false s)) w (by rw [show lexL (s.length+1) (gapL false s) (s.drop (gapL false s))=qa3 s from rfl,h];exact hw)
 have hg:=qgK false s;simp only [List.length_drop] at this;omega
def prs {α:Type} (p:Ps α) (z:α) (s:qU):α×Int×Int:=if 65536 < s.length then (z,0,2) else match qa3 s with
 |(_,some a)=>(z,(a:Int),120)
 |(l,none)=>match pEnd (p l) with
  |.ok a _=>(a,0,0)
  |.no r=>(z,plc s.length r,130)
theorem qsp {s:List UInt8} (h:65536 < s.length):(qaH [.str s]).run=some (.tup [.sl [] .non,.int .i64 0,.int .i64 2]):=by
 have e:qef s=some (.tup [.sl [] .non,.int .i64 0,.int .i64 2]):=by
  unfold qef qmr;have:iLt 65536 (sLen s)=true:=by simp;omega
  exact Tr.run_t this rfl
 have e0:qgt s=true:=by simp [qgt,qjn,qje,qf5,e]
 unfold qaH;simp [e0,qjn,qje,qf5,e]
theorem qo8 {s:List UInt8} (h:s.length≤65536):(qaH [.str s]).run=some (.tup [.sl (rOf cW (wL s)) .non,.int .i64 (wN s),.int .i64 (wE s)]):=by
 unfold qaH;simp [qBe h,qu9 h,quM h,qve h]
theorem qCP {s:List UInt8} {l:List Wd} {o:Option Nat} (hs:s.length≤65536) (h:qa3 s=(l,o)) {u r:List Wd} (hr:l=u++r):(Lit.int .i64 (plc s.length r)).wf=true:=by
 have hb:0≤plc (s.length:Int) r∧plc (s.length:Int) r≤65536:=by
  cases r with
  |nil=>exact⟨Int.natCast_nonneg _,by simp only [plc];omega⟩
  |cons w r =>
   have:=qJo h (w:=w) (by rw [hr];simp)
   exact⟨this.1,by simp only [plc];omega⟩
 generalize plc (s.length:Int) r=x at hb;have h1:IntKind.min .i64=-9223372036854775808:=by decide
 have h2:IntKind.max .i64=9223372036854775807:=by decide
 simp only [Lit.wf,h1,h2,Bool.and_eq_true,decide_eq_true_eq];omega
attribute [simp] qHF qGp qBD qwg qvo qxp qBC qCg
theorem qNI {l:List Wd} (hl:l.length≤65536) (n:Int):qtQ (rOf cW l) n=some (bOut vcPg n (qh7 l)):=by
 have k:=qIX hl n;cases h:qh7 l<;>simp [qtQ,qI2,↓Tr.run_ite,k,h]
theorem qKo (s:qU):outP s=some (.tup [vcPg (prs qh7 ([],[],[]) s).1,.int .i64 (prs qh7 ([],[],[]) s).2.1,.int .i64 (prs qh7 ([],[],[]) s).2.2]):=by
 unfold outP prs;by_cases h:65536 < s.length
 ·rw [if_pos h,qsp h];rfl
 ·rw [if_neg h,qo8 (by omega)]
  have hs:s.length≤65536:=by omega
  rcases hw:qa3 s with⟨l,o⟩
  cases o with
  |some a =>
   have e1:wN s=(a:Nat):=by unfold wN;rw [hw]
   have e2:wE s=120:=by unfold wE;rw [hw]
   rw [e1,e2];rfl
  |none =>
    have e1:wN s=0:=by unfold wN;rw [hw]
    have e2:wE s=0:=by unfold wE;rw [hw]
    have e3:wL s=l:=by unfold wL;rw [hw]
    rw [e1,e2,e3];have hl:l.length≤65536:=by have:=qIG s;rw [e3] at this;omega
    have k:=qNI hl s.length;have hd:(qlO [.ptr 0 0] ⟨[[.sl (qad (rOf cW l)) .non,.int .i64 s.length]],[],[138]⟩).run=some (bOut vcPg s.length (qh7 l)):=by
     unfold qlO;rw [qbw];cases h1:qh7 l<;>simp [k,h1]
    show finP _=_
    rw [hd];obtain⟨u,hu⟩:=qKn l;cases h1:qh7 l with
    |no r =>
     rw [h1] at hu;have hu:l=u++r:=hu;simp [finP,qkC,qCP hs hw hu,pEnd,h1]
    |ok a r =>
     rw [h1] at hu;have hu:l=u++r:=hu;cases r with
     |nil=>simp [finP,pEnd,h1]
     |cons w r =>
      have e4:qaa (rOf cW (w::r))=cW.enc w::rOf cW r:=qdh cW (w::r);have e5:qad (cW.enc w::rOf cW r)=rOf cW (w::r):=qbw cW (w::r);have hb:(qed [.ptr 0 0] ⟨[[.sl (rOf cW (w::r)) .non,.int .i64 s.length]],[],[138]⟩).run=some (.pan (mfit (plc s.length (w::r))),bst (w::r) s.length):=by
       unfold qed;simp
      simp only [mfit,bst] at hb;simp [finP,e4,e5,hb,qkC,qCP hs hw hu,pEnd,bst,h1]
attribute [simp] qI9 qG0 qBo qwb qwT qAx qAF qCl
theorem qNy {l:List Wd} (hl:l.length≤65536) (n:Int):qtU (rOf cW l) n=some (bOut vcRu n (qhg l)):=by
 have k:=qyz hl n;cases h:qhg l<;>simp [qtU,qGR,↓Tr.run_ite,k,h]
theorem qKk (s:qU):outR s=some (.tup [vcRu (prs qhg (([],[]),[]) s).1,.int .i64 (prs qhg (([],[]),[]) s).2.1,.int .i64 (prs qhg (([],[]),[]) s).2.2]):=by
 unfold outR prs;by_cases h:65536 < s.length
 ·rw [if_pos h,qsp h];rfl
 ·rw [if_neg h,qo8 (by omega)]
  have hs:s.length≤65536:=by omega
  rcases hw:qa3 s with⟨l,o⟩
  cases o with
  |some a =>
   have e1:wN s=(a:Nat):=by unfold wN;rw [hw]
   have e2:wE s=120:=by unfold wE;rw [hw]
   rw [e1,e2];rfl
  |none =>
    have e1:wN s=0:=by unfold wN;rw [hw]
    have e2:wE s=0:=by unfold wE;rw [hw]
    have e3:wL s=l:=by unfold wL;rw [hw]
    rw [e1,e2,e3];have hl:l.length≤65536:=by have:=qIG s;rw [e3] at this;omega
    have k:=qNy hl s.length;have hd:(ql5 [.ptr 0 0] ⟨[[.sl (qad (rOf cW l)) .non,.int .i64 s.length]],[],[138]⟩).run=some (bOut vcRu s.length (qhg l)):=by
     unfold ql5;rw [qbw];cases h1:qhg l<;>simp [k,h1]
    show finR _=_
    rw [hd];obtain⟨u,hu⟩:=good_rule.suf l;cases h1:qhg l with
    |no r =>
     rw [h1] at hu;have hu:l=u++r:=hu;simp [finR,qkC,qCP hs hw hu,pEnd,h1]
    |ok a r =>
     rw [h1] at hu;have hu:l=u++r:=hu;cases r with
     |nil=>simp [finR,pEnd,h1]
     |cons w r =>
      have e4:qaa (rOf cW (w::r))=cW.enc w::rOf cW r:=qdh cW (w::r);have e5:qad (cW.enc w::rOf cW r)=rOf cW (w::r):=qbw cW (w::r);have hb:(qed [.ptr 0 0] ⟨[[.sl (rOf cW (w::r)) .non,.int .i64 s.length]],[],[138]⟩).run=some (.pan (mfit (plc s.length (w::r))),bst (w::r) s.length):=by
       unfold qed;simp
      simp only [mfit,bst] at hb;simp [finR,e4,e5,hb,qkC,qCP hs hw hu,pEnd,bst,h1]
end Go.Pv
set_option maxHeartbeats 4000000
set_option linter.unusedSimpArgs false
set_option linter.unusedVariables false
namespace Go.Pv
def maxW:Nat:=65538
structure Res {α:Type} (p:Ps α) (Q:α→Prop):Prop where
 of:∀ {l a r},l.length < maxW→p l=.ok a r→Q a∧r.length≤l.length
section
variable {α β : Type}
theorem qaM {a:α} {Q:α→Prop} (h:Q a):Res (qay a) Q:=⟨fun _ e=>by cases e;exact⟨h,Nat.le_refl _⟩⟩
theorem ql0 {Q:α→Prop}:Res (qlC:Ps α) Q:=⟨fun _ e=>by cases e⟩
theorem qaI {p:Ps α} {f:α→Ps β} {Q:α→Prop} {R:β→Prop} (hp:Res p Q) (hf:∀ a,Q a→Res (f a) R):Res (qap p f) R:=by
 refine⟨fun {l b r} hl h=>?_⟩
 unfold qap at h
 split at h
 ·rename_i a r1 h1;obtain⟨q,k⟩:=hp.of hl h1;obtain⟨q2,k2⟩:=(hf a q).of (Nat.lt_of_le_of_lt k hl) h;exact⟨q2,Nat.le_trans k2 k⟩
 ·cases h
theorem qc5 {k:Int} {t:List UInt8} {p:Wd→Ps α} {q:Ps α} {Q:α→Prop} (hp:∀ w,Res (p w) Q) (hq:Res q Q):Res (pIf k t p q) Q:=by
 refine⟨fun {l b r} hl h=>?_⟩
 cases hi:wIs k t l with
 |false=>rw [qa2 hi] at h;exact hq.of hl h
 |true=>cases l with
  |nil=>cases hi
  |cons w l =>
   rw [qbb hi] at h
   obtain⟨a,b⟩:=(hp w).of (Nat.lt_of_succ_lt hl) h;exact⟨a,Nat.le_succ_of_le b⟩
theorem qCA {c:List Wd→Bool} {p q:Ps α} {Q:α→Prop} (hp:Res p Q) (hq:Res q Q):Res (pCh c p q) Q:=by
 refine⟨fun {l b r} hl h=>?_⟩
 unfold pCh at h
 split at h
 ·exact hp.of hl h
 ·exact hq.of hl h
theorem qwt {Q:Wd→Prop} (hq:∀ w,Q w):Res qBA Q:=by
 refine⟨fun {l b r} hl h=>?_⟩
 cases l with
 |nil=>cases h
 |cons w l=>cases h;exact⟨hq _,Nat.le_succ _⟩
theorem qmj (k:Int) (t:qU):Res (qcl k t) fun _=>True:=qc5 (fun _=>qaM trivial) ql0
theorem qFL {p:Ps α} {Q:α→Prop} (hp:Res p Q):∀ (n:Nat) (acc:List α),(∀ a∈acc,Q a)→∀ {l bs r},l.length < maxW→pRep p n acc l=.ok bs r→((∀ a∈bs,Q a)∧bs.length≤acc.length+1+l.length)∧r.length≤l.length
 |0,_,_,_,_,_,_,h=>by cases h
 |n+1,acc,ha,l,bs,r,hl,h=>by
  rw [qcd] at h
  unfold qap at h
  split at h
  ·rename_i a r1 h1;obtain⟨q,k⟩:=hp.of hl h1;have ha':∀ x∈acc++[a],Q x:=fun x hx=>by
    rcases List.mem_append.1 hx with hx|hx
    ·exact ha x hx
    ·rw [List.mem_singleton.1 hx];exact q
   have h:qh4 p n (acc++[a]) r1=.ok bs r:=h;unfold qh4 at h
   cases hi:wIs 6 [44] r1 with
   |false =>
    rw [qa2 hi] at h
    cases h
    exact⟨⟨ha',by simp only [List.length_append,List.length_singleton];omega⟩,k⟩
   |true=>cases r1 with
    |nil=>cases hi
    |cons w r1 =>
     rw [qbb hi] at h
     simp only [List.length_cons] at k;obtain⟨⟨b1,b2⟩,b3⟩:=qFL hp n (acc++[a]) ha' (by omega) h
     simp only [List.length_append,List.length_singleton] at b2;exact⟨⟨b1,by omega⟩,by omega⟩
  ·cases h
theorem qAo {p:Ps α} {Q:α→Prop} (hp:Res p Q):Res (pRow p) fun bs=>bs.length≤maxW∧∀ a∈bs,Q a:=by
 refine⟨fun {l b r} hl h=>?_⟩
 obtain⟨⟨b1,b2⟩,b3⟩:=qFL hp _ [] (fun _ h=>by cases h) hl h
 simp only [List.length_nil] at b2;exact⟨⟨by omega,b1⟩,b3⟩
theorem qxZ {p:Ps α} {Q:α→Prop} (hp:Res p Q):Res (qkw p) fun bs=>bs.length≤maxW∧∀ a∈bs,Q a :=
 qaI (qmj _ _) fun _ _=>qc5 (fun _=>qaM ⟨Nat.zero_le _,fun _ h=>by cases h⟩) (qaI (qAo hp) fun _ h=>qaI (qmj _ _) fun _ _=>qaM h)
theorem qs6 {a:α} {Q:α→Prop} (h:Q a):Res (pDot a) Q:=qaI (qmj _ _) fun _ _=>qaM h
end
theorem qwD:Res qo3 fun _=>True:=qCA (qaI (qwt fun _=>trivial) fun _ _=>qaM trivial) ql0
theorem qH9:Res pTyp fun _=>True:=qc5 (fun _=>qaM trivial) (qc5 (fun _=>qaM trivial) ql0)
theorem qwY:Res qeP fun _=>True:=qc5 (fun _=>qaM trivial) (qc5 (fun _=>qaM trivial) (qc5 (fun _=>qaM trivial) (qc5 (fun _=>qaM trivial) ql0)))
theorem qO4:Res pOp fun _=>True:=qc5 (fun _=>qaM trivial) (qc5 (fun _=>qaM trivial) (qc5 (fun _=>qaM trivial) (qc5 (fun _=>qaM trivial) (qc5 (fun _=>qaM trivial) (qc5 (fun _=>qaM trivial) ql0)))))
def okA (a:At):Prop:=a.2.length≤maxW
def okLi (x:Li):Prop:=okA x.2.1
def okRu (r:Ru):Prop:=okA r.1∧r.2.length≤maxW∧∀ x∈r.2,okLi x
def okDe (d:De):Prop:=d.2.2.length≤maxW
def okEn (e:En):Prop:=e.2.1.length≤maxW∧e.2.2.length≤maxW∧∀ x∈e.2.2,okA x.2
def okPg (g:Pg):Prop:=(g.1.length≤maxW∧∀ x∈g.1,okDe x)∧(g.2.1.length≤maxW∧∀ x∈g.2.1,okEn x)∧(g.2.2.length≤maxW∧∀ x∈g.2.2,okRu x)
theorem ql3:Res qmR okA:=qaI qwD fun _ _=>qaI (qxZ qwY) fun _ h=>qaM h.1
theorem qNX:Res pLit okLi:=qc5 (fun _=>qaI ql3 fun _ h=>qaM h) (qCA (qaI ql3 fun _ h=>qaM h) (qaI qwY fun _ _=>qaI qO4 fun _ _=>qaI qwY fun _ _=>qaM (Nat.zero_le _)))
theorem qJV:Res qhg okRu:=qaI ql3 fun _ h=>qc5 (fun _=>qaI (qAo qNX) fun _ k=>qs6 ⟨h,k.1,k.2⟩) (qs6 ⟨h,Nat.zero_le _,fun _ h=>by cases h⟩)
theorem qKE:Res qvE okDe:=qaI (qwt fun _=>trivial) fun _ _=>qaI qwD fun _ _=>qaI (qxZ qH9) fun _ h=>qs6 h.1
theorem qOs:Res pAct fun x=>okA x.2:=qc5 (fun _=>qaI ql3 fun _ h=>qaM h) (qaI (qmj _ _) fun _ _=>qaI ql3 fun _ h=>qaM h)
theorem qHv:Res qd5 fun _=>True:=qaI (qmj _ _) fun _ _=>qaI qH9 fun _ _=>qaM trivial
theorem qPC:Res pOn okEn:=qaI (qwt fun _=>trivial) fun _ _=>qaI qwD fun _ _=>qaI (qxZ qHv) fun _ h=>qc5 (fun _=>qaI (qAo qOs) fun _ k=>qs6 ⟨h.1,k.1,k.2⟩) (qs6 ⟨h.1,Nat.zero_le _,fun _ h=>by cases h⟩)
def inPg (g:Pg):Prop:=(∀ x∈g.1,okDe x)∧(∀ x∈g.2.1,okEn x)∧∀ x∈g.2.2,okRu x
def cnt (g:Pg):Nat:=g.1.length+g.2.1.length+g.2.2.length
theorem qxb {α:Type} {Q:α→Prop} {l:List α} {a:α} (h:∀ x∈l,Q x) (ha:Q a):∀ x∈l++[a],Q x:=fun x hx=>by
 rcases List.mem_append.1 hx with hx|hx
 ·exact h x hx
 ·rw [List.mem_singleton.1 hx];exact ha
theorem qLZ {g:Pg} (h:inPg g):Res (pOne g) fun g'=>inPg g'∧cnt g'=cnt g+1 :=
 qCA (qaI qKE fun _ k=>qaM ⟨⟨qxb h.1 k,h.2.1,h.2.2⟩,by simp only [cnt,List.length_append,List.length_singleton];omega⟩)
  (qCA (qaI qPC fun _ k=>qaM ⟨⟨h.1,qxb h.2.1 k,h.2.2⟩,by simp only [cnt,List.length_append,List.length_singleton];omega⟩)
   (qaI qJV fun _ k=>qaM ⟨⟨h.1,h.2.1,qxb h.2.2 k⟩,by simp only [cnt,List.length_append,List.length_singleton];omega⟩))
theorem qyA:∀ (n:Nat) (g:Pg) {l g' r},inPg g→l.length < maxW→qiE n g l=.ok g' r→inPg g'∧cnt g'≤cnt g+l.length
 |0,_,_,_,_,_,_,h=>by cases h
 |n+1,g,[],g',r,hg,_,h=>by cases h;exact⟨hg,Nat.le_refl _⟩
 |n+1,g,w::l,g',r,hg,hl,h=>by
  rw [qfU (by simp)] at h
  cases h1:pOne g (w::l) with
  |no r1=>rw [qaS h1] at h;cases h
  |ok b r1 =>
   rw [qaQ h1] at h
   obtain⟨⟨k1,k2⟩,_⟩:=(qLZ hg).of hl h1;have k3:=((qsV g).of h1).1;obtain⟨k4,k5⟩:=qyA n b k1 (Nat.lt_trans k3 hl) h;exact⟨k4,by omega⟩
theorem qMw {l:List Wd} {g:Pg} {r:List Wd} (hl:l.length < maxW) (h:qh7 l=.ok g r):okPg g:=by
 have h0:inPg (([],[],[]):Pg):=by simp [inPg]
 obtain⟨⟨a,b,c⟩,d⟩:=qyA _ ([],[],[]) h0 hl h;simp only [cnt,List.length_nil,Nat.zero_add] at d;exact⟨⟨by omega,a⟩,⟨by omega,b⟩,⟨by omega,c⟩⟩
end Go.Pv
set_option maxHeartbeats 8000000
set_option maxRecDepth 200000
set_option linter.unusedSimpArgs false
set_option linter.unusedVariables false
namespace Go.Pv
open Go Go.Proofs
theorem qfm {ρ:Type} {n:Nat} {V:Nat→ρ} {good:ρ} (hs:∀ i,i < n→V i=V (i+1)) (he:V n=good):V 0=good:=by
 have:∀ k i,i+k=n→V i=good:=by
  intro k
  induction k with
  |zero=>intro i hi;rw [show i=n by omega];exact he
  |succ k ih=>intro i hi;rw [hs i (by omega)];exact ih (i+1) (by omega)
 exact this n 0 (by omega)
theorem qiP {i:Nat} (h:i < 100000):iAdd .i64 (i:Int) 1=((i+1:Nat):Int):=qbR (by omega)
theorem qAv (s:qU) (l:List Tm) (hl:l.length≤maxW):qcf [.ptr 0 0,.ptr 1 0,.int .i64 0] ⟨[[.str s,.sl (rOf cM l) .non],[.str s,.sl (rOf cM l) .non]],[],[48,48]⟩=some (.exit 0,[],⟨[[.str s,.sl (rOf cM l) .non],[.str s,.sl (rOf cM l) .non]],[],[48,48]⟩):=by
 have h:=qfm (n:=l.length) (V:=fun i=>qcf [.ptr 0 0,.ptr 1 0,.int .i64 (i:Nat)] ⟨[[.str s,.sl (rOf cM l) .non],[.str s,.sl (rOf cM l) .non]],[],[48,48]⟩) (good:=some (.exit 0,[],⟨[[.str s,.sl (rOf cM l) .non],[.str s,.sl (rOf cM l) .non]],[],[48,48]⟩)) (fun i hi=>?_) ?_
 ·exact h
 ·show qcf _ _=qcf [.ptr 0 0,.ptr 1 0,.int .i64 ((i+1:Nat):Int)] _
  have hb:i < 100000:=by have:=hl;unfold maxW at this;omega
  conv=>lhs;rw [qzh]
  rw [← qiP hb];simp [qkm,↓Tr.run_ite,hi]
 ·show qcf _ _=_
  rw [qzh];simp [qkm,↓Tr.run_ite]
attribute [simp] qjK qgc qgZ qk3 qly qqk qol qho qlx qlJ qp3 qot qg8 qkG qlw qp4 qnX qhs qlH qkQ qhv qll qlb qo1 qio qka qn8 qoz qjR qnZ qn4 qj0 qoi qoQ
theorem qk4 {a:At} (h:okA a):qre a.1 (rOf cM a.2) a.1 (rOf cM a.2)=some (.bool true):=by
 simp [qre,qtD,qnh,↓Tr.run_ite,qAv a.1 a.2 h]
theorem qB5 (s:qU) (m:List Tm) (l:List Li) (hl:l.length≤maxW) (hx:∀ x∈l,okLi x):qci [.ptr 0 0,.ptr 1 0,.int .i64 0] ⟨[[.str s,.sl (rOf cM m) .non,.sl (rOf cL l) .non],[.str s,.sl (rOf cM m) .non,.sl (rOf cL l) .non]],[],[51,51]⟩=some (.exit 0,[],⟨[[.str s,.sl (rOf cM m) .non,.sl (rOf cL l) .non],[.str s,.sl (rOf cM m) .non,.sl (rOf cL l) .non]],[],[51,51]⟩):=by
 have h:=qfm (n:=l.length) (V:=fun i=>qci [.ptr 0 0,.ptr 1 0,.int .i64 (i:Nat)] ⟨[[.str s,.sl (rOf cM m) .non,.sl (rOf cL l) .non],[.str s,.sl (rOf cM m) .non,.sl (rOf cL l) .non]],[],[51,51]⟩) (good:=some (.exit 0,[],⟨[[.str s,.sl (rOf cM m) .non,.sl (rOf cL l) .non],[.str s,.sl (rOf cM m) .non,.sl (rOf cL l) .non]],[],[51,51]⟩)) (fun i hi=>?_) ?_
 ·exact h
 ·show qci _ _=qci [.ptr 0 0,.ptr 1 0,.int .i64 ((i+1:Nat):Int)] _
  have hb:i < 100000:=by have:=hl;unfold maxW at this;omega
  conv=>lhs;rw [qzs]
  rw [← qiP hb];have ha:=qk4 (hx _ (List.getElem_mem hi));simp [qgy,↓Tr.run_ite,hi,ha]
 ·show qci _ _=_
  rw [qzs];simp [qgy,↓Tr.run_ite]
theorem qCa {x:Ru} (h:okRu x):qqi x.1.1 (rOf cM x.1.2) (rOf cL x.2) x.1.1 (rOf cM x.1.2) (rOf cL x.2)=some (.bool true):=by
 have ha:=qk4 h.1;simp [qqi,qsw,qlP,↓Tr.run_ite,ha,qB5 x.1.1 x.1.2 x.2 h.2.1 h.2.2]
theorem qAc (s:qU) (b:Bool) (l:List Int) (hl:l.length≤maxW):qcg [.ptr 0 0,.ptr 1 0,.int .i64 0] ⟨[[.str s,.bool b,.sl (rOf cI l) .non],[.str s,.bool b,.sl (rOf cI l) .non]],[],[80,80]⟩=some (.exit 0,[],⟨[[.str s,.bool b,.sl (rOf cI l) .non],[.str s,.bool b,.sl (rOf cI l) .non]],[],[80,80]⟩):=by
 have h:=qfm (n:=l.length) (V:=fun i=>qcg [.ptr 0 0,.ptr 1 0,.int .i64 (i:Nat)] ⟨[[.str s,.bool b,.sl (rOf cI l) .non],[.str s,.bool b,.sl (rOf cI l) .non]],[],[80,80]⟩) (good:=some (.exit 0,[],⟨[[.str s,.bool b,.sl (rOf cI l) .non],[.str s,.bool b,.sl (rOf cI l) .non]],[],[80,80]⟩)) (fun i hi=>?_) ?_
 ·exact h
 ·show qcg _ _=qcg [.ptr 0 0,.ptr 1 0,.int .i64 ((i+1:Nat):Int)] _
  have hb:i < 100000:=by have:=hl;unfold maxW at this;omega
  conv=>lhs;rw [qze]
  rw [← qiP hb];simp [qjv,↓Tr.run_ite,hi]
 ·show qcg _ _=_
  rw [qze];simp [qjv,↓Tr.run_ite]
theorem qAm {x:De} (h:okDe x):qpW x.1 x.2.1 (rOf cI x.2.2) x.1 x.2.1 (rOf cI x.2.2)=some (.bool true):=by
 simp [qpW,qtm,ql2,↓Tr.run_ite,qAc x.1 x.2.1 x.2.2 h]
theorem qAs (s:qU) (l:List Pa) (m:List Ac) (hl:l.length≤maxW):qco [.ptr 0 0,.ptr 1 0,.int .i64 0] ⟨[[.str s,.sl (rOf cP l) .non,.sl (rOf cAc m) .non],[.str s,.sl (rOf cP l) .non,.sl (rOf cAc m) .non]],[],[85,85]⟩=some (.exit 0,[.ptr 0 0,.ptr 1 0],⟨[[.str s,.sl (rOf cP l) .non,.sl (rOf cAc m) .non],[.str s,.sl (rOf cP l) .non,.sl (rOf cAc m) .non]],[],[85,85]⟩):=by
 have h:=qfm (n:=l.length) (V:=fun i=>qco [.ptr 0 0,.ptr 1 0,.int .i64 (i:Nat)] ⟨[[.str s,.sl (rOf cP l) .non,.sl (rOf cAc m) .non],[.str s,.sl (rOf cP l) .non,.sl (rOf cAc m) .non]],[],[85,85]⟩) (good:=some (.exit 0,[.ptr 0 0,.ptr 1 0],⟨[[.str s,.sl (rOf cP l) .non,.sl (rOf cAc m) .non],[.str s,.sl (rOf cP l) .non,.sl (rOf cAc m) .non]],[],[85,85]⟩)) (fun i hi=>?_) ?_
 ·exact h
 ·show qco _ _=qco [.ptr 0 0,.ptr 1 0,.int .i64 ((i+1:Nat):Int)] _
  have hb:i < 100000:=by have:=hl;unfold maxW at this;omega
  conv=>lhs;rw [qzV]
  rw [← qiP hb];simp [qkp,↓Tr.run_ite,hi]
 ·show qco _ _=_
  rw [qzV];simp [qkp,↓Tr.run_ite]
theorem qBI (s:qU) (l:List Pa) (m:List Ac) (hl:m.length≤maxW) (hx:∀ x∈m,okA x.2):qch [.ptr 0 0,.ptr 1 0,.int .i64 0] ⟨[[.str s,.sl (rOf cP l) .non,.sl (rOf cAc m) .non],[.str s,.sl (rOf cP l) .non,.sl (rOf cAc m) .non]],[],[85,85]⟩=some (.exit 2,[],⟨[[.str s,.sl (rOf cP l) .non,.sl (rOf cAc m) .non],[.str s,.sl (rOf cP l) .non,.sl (rOf cAc m) .non]],[],[85,85]⟩):=by
 have h:=qfm (n:=m.length) (V:=fun i=>qch [.ptr 0 0,.ptr 1 0,.int .i64 (i:Nat)] ⟨[[.str s,.sl (rOf cP l) .non,.sl (rOf cAc m) .non],[.str s,.sl (rOf cP l) .non,.sl (rOf cAc m) .non]],[],[85,85]⟩) (good:=some (.exit 2,[],⟨[[.str s,.sl (rOf cP l) .non,.sl (rOf cAc m) .non],[.str s,.sl (rOf cP l) .non,.sl (rOf cAc m) .non]],[],[85,85]⟩)) (fun i hi=>?_) ?_
 ·exact h
 ·show qch _ _=qch [.ptr 0 0,.ptr 1 0,.int .i64 ((i+1:Nat):Int)] _
  have hb:i < 100000:=by have:=hl;unfold maxW at this;omega
  conv=>lhs;rw [qzl]
  rw [← qiP hb];have ha:=qk4 (hx _ (List.getElem_mem hi));simp [qj8,↓Tr.run_ite,hi,ha]
 ·show qch _ _=_
  rw [qzl];simp [qj8,↓Tr.run_ite]
theorem qAO {x:En} (h:okEn x):qrl x.1 (rOf cP x.2.1) (rOf cAc x.2.2) x.1 (rOf cP x.2.1) (rOf cAc x.2.2)=some (.bool true):=by
 simp [qrl,qsR,qm8,qmC,↓Tr.run_ite,qAs x.1 x.2.1 x.2.2 h.1,qBI x.1 x.2.1 x.2.2 h.2.1 h.2.2]
theorem qFI (g:Pg) (h:okPg g):qdC [.ptr 0 0,.ptr 1 0,.int .i64 0] ⟨[[.sl (rOf cD g.1) .non,.sl (rOf cE g.2.1) .non,.sl (rOf cRu g.2.2) .non],[.sl (rOf cD g.1) .non,.sl (rOf cE g.2.1) .non,.sl (rOf cRu g.2.2) .non]],[],[27,27]⟩=some (.exit 0,[.ptr 0 0,.ptr 1 0],⟨[[.sl (rOf cD g.1) .non,.sl (rOf cE g.2.1) .non,.sl (rOf cRu g.2.2) .non],[.sl (rOf cD g.1) .non,.sl (rOf cE g.2.1) .non,.sl (rOf cRu g.2.2) .non]],[],[27,27]⟩):=by
 have h:=qfm (n:=g.1.length) (V:=fun i=>qdC [.ptr 0 0,.ptr 1 0,.int .i64 (i:Nat)] ⟨[[.sl (rOf cD g.1) .non,.sl (rOf cE g.2.1) .non,.sl (rOf cRu g.2.2) .non],[.sl (rOf cD g.1) .non,.sl (rOf cE g.2.1) .non,.sl (rOf cRu g.2.2) .non]],[],[27,27]⟩) (good:=some (.exit 0,[.ptr 0 0,.ptr 1 0],⟨[[.sl (rOf cD g.1) .non,.sl (rOf cE g.2.1) .non,.sl (rOf cRu g.2.2) .non],[.sl (rOf cD g.1) .non,.sl (rOf cE g.2.1) .non,.sl (rOf cRu g.2.2) .non]],[],[27,27]⟩)) (fun i hi=>?_) ?_
 ·exact h
 ·show qdC _ _=qdC [.ptr 0 0,.ptr 1 0,.int .i64 ((i+1:Nat):Int)] _
  have hb:i < 100000:=by have:=h.1.1;unfold maxW at this;omega
  conv=>lhs;rw [qC5]
  rw [← qiP hb];have ha:=qAm (h.1.2 _ (List.getElem_mem hi));simp [ql6,↓Tr.run_ite,hi,ha]
 ·show qdC _ _=_
  rw [qC5];simp [ql6,↓Tr.run_ite]
theorem qEl (g:Pg) (h:okPg g):qdz [.ptr 0 0,.ptr 1 0,.int .i64 0] ⟨[[.sl (rOf cD g.1) .non,.sl (rOf cE g.2.1) .non,.sl (rOf cRu g.2.2) .non],[.sl (rOf cD g.1) .non,.sl (rOf cE g.2.1) .non,.sl (rOf cRu g.2.2) .non]],[],[27,27]⟩=some (.exit 2,[.ptr 0 0,.ptr 1 0],⟨[[.sl (rOf cD g.1) .non,.sl (rOf cE g.2.1) .non,.sl (rOf cRu g.2.2) .non],[.sl (rOf cD g.1) .non,.sl (rOf cE g.2.1) .non,.sl (rOf cRu g.2.2) .non]],[],[27,27]⟩):=by
 have h:=qfm (n:=g.2.1.length) (V:=fun i=>qdz [.ptr 0 0,.ptr 1 0,.int .i64 (i:Nat)] ⟨[[.sl (rOf cD g.1) .non,.sl (rOf cE g.2.1) .non,.sl (rOf cRu g.2.2) .non],[.sl (rOf cD g.1) .non,.sl (rOf cE g.2.1) .non,.sl (rOf cRu g.2.2) .non]],[],[27,27]⟩) (good:=some (.exit 2,[.ptr 0 0,.ptr 1 0],⟨[[.sl (rOf cD g.1) .non,.sl (rOf cE g.2.1) .non,.sl (rOf cRu g.2.2) .non],[.sl (rOf cD g.1) .non,.sl (rOf cE g.2.1) .non,.sl (rOf cRu g.2.2) .non]],[],[27,27]⟩)) (fun i hi=>?_) ?_
 ·exact h
 ·show qdz _ _=qdz [.ptr 0 0,.ptr 1 0,.int .i64 ((i+1:Nat):Int)] _
  have hb:i < 100000:=by have:=h.2.1.1;unfold maxW at this;omega
  conv=>lhs;rw [qDT]
  rw [← qiP hb];have ha:=qAO (h.2.1.2 _ (List.getElem_mem hi));simp [qny,↓Tr.run_ite,hi,ha]
 ·show qdz _ _=_
  rw [qDT];simp [qny,↓Tr.run_ite]
theorem qFj (g:Pg) (h:okPg g):qdB [.ptr 0 0,.ptr 1 0,.int .i64 0] ⟨[[.sl (rOf cD g.1) .non,.sl (rOf cE g.2.1) .non,.sl (rOf cRu g.2.2) .non],[.sl (rOf cD g.1) .non,.sl (rOf cE g.2.1) .non,.sl (rOf cRu g.2.2) .non]],[],[27,27]⟩=some (.exit 4,[],⟨[[.sl (rOf cD g.1) .non,.sl (rOf cE g.2.1) .non,.sl (rOf cRu g.2.2) .non],[.sl (rOf cD g.1) .non,.sl (rOf cE g.2.1) .non,.sl (rOf cRu g.2.2) .non]],[],[27,27]⟩):=by
 have h:=qfm (n:=g.2.2.length) (V:=fun i=>qdB [.ptr 0 0,.ptr 1 0,.int .i64 (i:Nat)] ⟨[[.sl (rOf cD g.1) .non,.sl (rOf cE g.2.1) .non,.sl (rOf cRu g.2.2) .non],[.sl (rOf cD g.1) .non,.sl (rOf cE g.2.1) .non,.sl (rOf cRu g.2.2) .non]],[],[27,27]⟩) (good:=some (.exit 4,[],⟨[[.sl (rOf cD g.1) .non,.sl (rOf cE g.2.1) .non,.sl (rOf cRu g.2.2) .non],[.sl (rOf cD g.1) .non,.sl (rOf cE g.2.1) .non,.sl (rOf cRu g.2.2) .non]],[],[27,27]⟩)) (fun i hi=>?_) ?_
 ·exact h
 ·show qdB _ _=qdB [.ptr 0 0,.ptr 1 0,.int .i64 ((i+1:Nat):Int)] _
  have hb:i < 100000:=by have:=h.2.2.1;unfold maxW at this;omega
  conv=>lhs;rw [qCz]
  rw [← qiP hb];have ha:=qCa (h.2.2.2 _ (List.getElem_mem hi));simp [qng,↓Tr.run_ite,hi,ha]
 ·show qdB _ _=_
  rw [qCz];simp [qng,↓Tr.run_ite]
theorem quZ {g:Pg} (h:okPg g):qwV (rOf cD g.1) (rOf cE g.2.1) (rOf cRu g.2.2) (rOf cD g.1) (rOf cE g.2.1) (rOf cRu g.2.2)=some (.bool true):=by
 simp [qwV,qxk,qql,qpS,qqA,↓Tr.run_ite,qFI g h,qEl g h,qFj g h]
abbrev prP (s:qU):Pg×Int×Int:=prs qh7 ([],[],[]) s
abbrev prR (s:qU):Ru×Int×Int:=prs qhg (([],[]),[]) s
attribute [simp] wP_e qJg wP_n qKz qJG qKP wR_e qH1 wR_n qKD qKr qKm qdK qx3 qd8 qdr qbZ qbW qmW qBt qmg qwl qlY qrY
@[simp] theorem pProg_law (s:qU):qi2 s=some (.tup [vcPg (prP s).1,.int .i64 (prP s).2.1,.int .i64 (prP s).2.2]):=by simp [qi2,qvL,↓Tr.run_ite,qKo]
@[simp] theorem pRule_law (s:qU):qit s=some (.tup [vcRu (prR s).1,.int .i64 (prR s).2.1,.int .i64 (prR s).2.2]):=by simp [qit,qxa,↓Tr.run_ite,qKk]
theorem qKS {α:Type} (p:Ps α) (z:α) (s:qU) (h:(prs p z s).2.2≠0):(prs p z s).1=z:=by
 unfold prs at h ⊢;split
 ·rfl
 ·rename_i hl;rw [if_neg hl] at h
  split
  ·rfl
  ·rename_i l e;rw [e] at h
   simp only at h
   split
   ·rename_i a r e2;rw [e2] at h
    exact absurd rfl h
   ·rfl
theorem qLH {α:Type} {p:Ps α} {z:α} {s:List UInt8} (h:(prs p z s).2.2=0):s.length≤65536∧∃ l,qa3 s=(l,none)∧pEnd (p l)=.ok (prs p z s).1 []:=by
 unfold prs at h ⊢;split at h
 ·cases h
 ·rename_i hl;rw [if_neg hl];refine⟨by omega,?_⟩
  rcases hw:qa3 s with⟨l,o⟩
  rw [hw] at h
  cases o with
  |some a=>cases h
  |none =>
   refine⟨l,rfl,?_⟩;simp only at h ⊢;cases hp:p l with
   |no r=>rw [hp] at h;cases h
   |ok a r =>
    rw [hp] at h
    cases r with
    |nil=>rfl
    |cons w r=>cases h
theorem qKt {s:List UInt8} {l:List Wd} (hs:s.length≤65536) (h:qa3 s=(l,none)):l.length < maxW:=by
 have:=qIG s;unfold wL at this;rw [h] at this;unfold maxW;exact Nat.lt_of_le_of_lt this (by omega)
theorem qL9 {α:Type} {x:Rs α} {a:α} {r:List Wd} (h:pEnd x=.ok a r):x=.ok a []∧r=[]:=by
 cases x with
 |no r=>cases h
 |ok b l=>cases l with
  |nil=>cases h;exact⟨rfl,rfl⟩
  |cons=>cases h
theorem qLw (s:qU):okPg (prP s).1:=by
 by_cases h:(prP s).2.2=0
 ·obtain⟨hs,l,hw,hp⟩:=qLH h;exact qMw (qKt hs hw) (qL9 hp).1
 ·rw [qKS _ _ _ h];exact⟨⟨Nat.zero_le _,by simp⟩,⟨Nat.zero_le _,by simp⟩,⟨Nat.zero_le _,by simp⟩⟩
def xTm:Tm:=(1,[88],0,0,[])
theorem qMh:prR [112,40,88,41,32,58,45,32,113,40,88,44,32,95,41,44,32,88,32,33,61,32,45,51,46]=((([112],[xTm]),[(1,([113],[xTm,(3,[],0,0,[])]),0,tm0,tm0),(3,([],[]),2,xTm,(2,[],1,-3,[]))]),0,0):=by kernel_rfl
theorem qM9:prP [112,40,88,41,32,58,45,32,46]=(([],[],[]),8,130):=by kernel_rfl
attribute [simp] qnA qks qrB qzD
@[simp] theorem valive_law:qqS=some (.bool true):=by
 simp [qqS,qr8,↓Tr.run_ite,qMh,qM9]
def cutP (s:qU):qU:=if 1500 < s.length∧s.length≤65536 then s.take 1500 else s
@[simp] theorem vcut_law (s:qU):quB s=some (.str (cutP s)):=by
 unfold cutP;by_cases h1:1500 < s.length
 ·by_cases h2:s.length≤65536
  ·rw [if_pos ⟨h1,h2⟩];have e1:(1500:Int) < (s.length:Int):=by omega
   have e2:(s.length:Int)≤65536:=by omega
   have e3:(1500:Nat)≤s.length:=by omega
   simp [quB,qsI,↓Tr.run_ite,e1,e2,e3]
  ·rw [if_neg (fun h=>h2 h.2)]
   have e1:(1500:Int) < (s.length:Int):=by omega
   have e2:¬ (s.length:Int)≤65536:=by omega
   simp [quB,qsI,↓Tr.run_ite,e1,e2]
 ·rw [if_neg (fun h=>h1 h.1)]
  have e1:¬ (1500:Int) < (s.length:Int):=by omega
  simp [quB,qsI,↓Tr.run_ite,e1]
end Go.Pv
set_option maxHeartbeats 8000000
set_option maxRecDepth 200000
set_option linter.unusedSimpArgs false
set_option linter.unusedVariables false
namespace Go.Pv
open Go Go.Proofs
theorem qFw (s:qU):(qmx [.str s]).run=some (.bool true):=by
 unfold qmx;by_cases h:(prR (cutP s)).2.2=0
 ·obtain⟨hs,l,hw,hp⟩:=qLH h;have hq:=qIP hp;have e:prP (cutP s)=(([],[],[(prR (cutP s)).1]),0,0):=by
   show prs qh7 _ _=_
   unfold prs;rw [if_neg (by omega),hw]
   simp only [hq,pEnd]
  have hk:okPg ([],[],[(prR (cutP s)).1]):=by
   have:=qLw (cutP s);rw [e] at this;exact this
  have k:=quZ hk;simp only [qwv] at k;have hk3:rOf cRu [(prR (cutP s)).1]=[[.str (prR (cutP s)).1.1.1,.sl (rOf cM (prR (cutP s)).1.1.2) .non,.sl (rOf cL (prR (cutP s)).1.2) .non]]:=rfl;simp [qnv,↓Tr.run_ite,h,e,← hk3,k]
 ·simp [qnv,↓Tr.run_ite,h]
end Go.Pv
set_option maxHeartbeats 4000000
set_option maxRecDepth 200000
set_option linter.unusedSimpArgs false
set_option linter.unusedVariables false
namespace Go.Pv
open Go Go.Proofs Go.RowKit Go.Proofs.YtlemepahgalogaaGreatDoor
theorem g_pow : Tryz.prog.globalNamed "internal/strconv.uint64pow10" = some 2 := by kernel_rfl
theorem gt_pow:(Tryz.prog.globals[2]?).map (·.type)=some 240:=by kernel_rfl
theorem g_rng : Tryz.prog.globalNamed "strconv.ErrRange" = some 4 := by kernel_rfl
theorem gt_rng:(Tryz.prog.globals[4]?).map (·.type)=some 189:=by kernel_rfl
theorem g_syn : Tryz.prog.globalNamed "strconv.ErrSyntax" = some 3 := by kernel_rfl
theorem gt_syn:(Tryz.prog.globals[3]?).map (·.type)=some 189:=by kernel_rfl
theorem g_two : Tryz.prog.globalNamed "pedigree/lex.twos" = some 0 := by kernel_rfl
theorem gt_two:(Tryz.prog.globals[0]?).map (·.type)=some 208:=by kernel_rfl
def glAt (W:World):Gl:=⟨fun b=>W.heap[b]?,fun _ _=>.cells #[] 0 (0,0),fun _=>[]⟩
def laidL : List (String × DataW Unit) := [("math/bits.deBruijn32tab", Rows.laid_math_bits_deBruijn32tab), ("math/bits.deBruijn64tab", Rows.laid_math_bits_deBruijn64tab), ("internal/strconv.uint64pow10", Rows.laid_internal_strconv_uint64pow10), ("strconv.ErrRange", Rows.laid_strconv_ErrRange), ("strconv.ErrSyntax", Rows.laid_strconv_ErrSyntax), ("pedigree/lex.twos", Rows.laid_pedigree_lex_twos)]
theorem qkZ:(laidL.filter fun x=>x.2.handleName?.isSome)=[]:=by kernel_rfl
theorem qEm {W:World} (h:laidMetH Tryz.prog laidL W):GlPow (glAt W):=by
 unfold laidMetH at h
 rw [qkZ] at h
 obtain⟨ps,hl,_⟩:=h;refine⟨?_⟩;obtain ⟨g, t, cs, fuel, p, h1, h2, h3, h4⟩ := qnf (nm := "internal/strconv.uint64pow10") hl (.tail _ (.tail _ (.head _)));obtain rfl:=Option.some.inj (g_pow.symm.trans h1);obtain rfl:=Option.some.inj (gt_pow.symm.trans h2);have e:(Rows.laid_internal_strconv_uint64pow10:DataW Unit)=Lib.tabData .u64 Lib.pow10Tab:=by rfl
 rw [e] at h4;have hc:=Lib.cells_of_tab Tryz.underlying240 Tryz.underlying209 (by kernel_rfl) (by kernel_rfl) h4
 obtain⟨T,f,hh⟩:=qpB h1 h3;refine⟨2,T,f,g_pow,?_⟩;show W.heap[2]?=_
 rw [← hc];simpa using hh
theorem qHw {W:World} (h0:laidMetH Tryz.prog laidL W):GlOk (glAt W):=by
 have h:=h0;unfold laidMetH at h
 rw [qkZ] at h
 obtain⟨ps,hl,_⟩:=h;refine⟨qEm h0,?_,?_⟩
 ·obtain ⟨g, t, cs, fuel, p, h1, h2, h3, h4⟩ := qnf (nm := "strconv.ErrSyntax") hl (.tail _ (.tail _ (.tail _ (.tail _ (.head _)))));obtain rfl:=Option.some.inj (g_syn.symm.trans h1);obtain rfl:=Option.some.inj (gt_syn.symm.trans h2);obtain⟨u,v,rfl⟩:=qvb Tryz.underlying189 h4;obtain⟨T,f,hh⟩:=qpB h1 h3;exact⟨u,v,3,T,f,g_syn,hh⟩
 ·obtain ⟨g, t, cs, fuel, p, h1, h2, h3, h4⟩ := qnf (nm := "strconv.ErrRange") hl (.tail _ (.tail _ (.tail _ (.head _))));obtain rfl:=Option.some.inj (g_rng.symm.trans h1);obtain rfl:=Option.some.inj (gt_rng.symm.trans h2);obtain⟨u,v,rfl⟩:=qvb Tryz.underlying189 h4;obtain⟨T,f,hh⟩:=qpB h1 h3;exact⟨u,v,4,T,f,g_rng,hh⟩
theorem qv0 {H:Type} {enc:TypeId×Value→H} {P:Program} {w:World} {base:Nat} {sp:Nat→Bool} {held:Bool} {fuel:Nat} {t e:TypeId} {n:Nat} {cs:List Value} {zs:List (List UInt8)} {p:List MemPlace}
  (ht:P.underlying t=some (.array n e)) (he:P.underlying e=some .string) (hce:P.cellsOf e=1) (hct:P.cellsOf t=n)
  (h:DataW.trod enc P w base sp held fuel t cs=some (.agg (zs.map fun z=>.lit (.string z)),p)):cs=zs.map fun z=>Value.string ⟨z.toArray⟩:=by
 cases fuel with
 |zero=>simp [DataW.trod] at h
 |succ fuel =>
  simp only [DataW.trod,ht,hce,hct,Nat.mul_one] at h
  split at h
  ·rename_i hl;obtain⟨xs,hm,hx⟩:=Option.map_eq_some_iff.1 h;have hxs:xs.map (·.1)=zs.map fun z=>(DataW.lit (.string z):DataW H):=by
    have:=congrArg Prod.fst hx;simpa using this
   have hxl:xs.length=n:=by simpa using Lib.mapM_length hm
   have hzl:zs.length=n:=by
    have:=congrArg List.length hxs;simp at this;omega
   apply List.ext_getElem?;intro i;by_cases hi:i < n
   ·obtain⟨b,hb,hf⟩:=Lib.mapM_at hm i i (by simp [hi])
    obtain⟨z,hc,rfl,_⟩:=DataW.trod_string he hf;have h1:cs[i]?=some (.string z):=by
     have:=congrArg (·[0]?) hc;simpa [List.getElem?_take,List.getElem?_drop] using this
    have h2:(xs.map (·.1))[i]?=some (DataW.lit (.string z.data.toList):DataW H):=by simp [hb]
    rw [hxs] at h2;simp only [List.getElem?_map,Option.map_eq_some_iff,DataW.lit.injEq,Lit.string.injEq] at h2;obtain⟨z',hz',rfl⟩:=h2;simp [h1,hz']
   ·rw [List.getElem?_eq_none (by omega),List.getElem?_eq_none (by simp;omega)]
  ·cases h
theorem qEM {W:World} (h0:laidMetH Tryz.prog laidL W):GlLex (glAt W):=by
 have h:=h0;unfold laidMetH at h
 rw [qkZ] at h
 obtain⟨ps,hl,_⟩:=h;refine⟨qHw h0,?_⟩;obtain ⟨g, t, cs, fuel, p, h1, h2, h3, h4⟩ := qnf (nm := "pedigree/lex.twos") hl (.tail _ (.tail _ (.tail _ (.tail _ (.tail _ (.head _))))));obtain rfl:=Option.some.inj (g_two.symm.trans h1);obtain rfl:=Option.some.inj (gt_two.symm.trans h2);have e:(Rows.laid_pedigree_lex_twos:DataW Unit)=.agg (twosV.map fun z=>.lit (.string z)):=by rfl
 rw [e] at h4;have hc:=qv0 Tryz.underlying208 Tryz.underlying9 (by kernel_rfl) (by kernel_rfl) h4
 obtain⟨T,f,hh⟩:=qpB h1 h3;refine⟨0,T,f,g_two,?_⟩;show W.heap[0]?=_
 rw [← hc];simpa using hh
theorem qMq:laidOutB Tryz.prog=true:=by kernel_rfl
theorem qyH {F:List PV→Tr PV} {f:FuncId} {fn:Func} {s:ChangeSpec} (hsim:∀ {gl:Gl},GlLex gl→SimP Tryz.prog gl f fun args=>(F args).run) (hF:∀ xs,ArgL Tryz.prog fn.params.toList xs→(∃ H w vs,RelL H w xs vs)→(F xs).run=some (.bool true))
  (hrt:fn.resultTypes=#[4]) (hsv:s.vars=[]) (hT:(fn.params.toList.all fun t=>okT Tryz.prog 16 t&&Tryz.prog.readableRec t&&decide (t < Tryz.prog.types.size))=true)
  {H:Type} {enc:TypeId×Value→H} {W:World} {base:Nat} {args:Array Value} {ds gs:List (DataW H)} {before:List MemPlace} (hfn:∀ ds:List (DataW H),ds.length=fn.params.size→s.fn H ds={ results:=[.lit (.bool true)],args:=ds })
  (hval:∀ (j:Nat) t v,fn.params[j]?=some t→args[j]?=some v→Value.okWide Tryz.prog W .any base t v) (hW:DataW.Whole enc Tryz.prog fn.params.toList s.vars false W args.toList ds gs before) (hL:laidMetH Tryz.prog laidL W) :
  Calls Tryz.prog f args W fun e W'=>∃ v,e=.returned v∧s.post enc Tryz.prog fn false true false false W args v W':=by
 have hW':=hW;obtain⟨p,q,hA,hV,rfl,hfz,hnd⟩:=hW';have hT':∀ t∈fn.params.toList,okT Tryz.prog 16 t=true∧Tryz.prog.readableRec t=true∧t < Tryz.prog.types.size:=by
  intro t ht;have:=List.all_eq_true.1 hT t ht;simp only [Bool.and_eq_true,decide_eq_true_eq] at this;exact⟨this.1.1,this.1.2,this.2⟩
 obtain⟨xs,hx,ha⟩:=qCR (n:=16) (fun j t v ht hv=>hval j t v (by simpa using ht) (by simpa using hv)) hA (List.all_eq_true.2 fun t ht=>(hT' t ht).1)
 have hlen:ds.length=fn.params.size:=by
  have h1:∀ {ts:List TypeId} {vs:List Value} {ds:List (DataW H)} {ps:List MemPlace},DataW.TrodAll enc Tryz.prog W 0 (fun _=>true) true ts vs ds ps→ds.length=ts.length:=by
   intro ts
   induction ts with
   |nil=>intro vs ds ps h;obtain⟨rfl,rfl,rfl⟩:=Go.ChangeShapes.trodAll_nil h;rfl
   |cons t ts ih =>
    intro vs ds ps h;obtain⟨v,vs',d,ds',p,q,rfl,rfl,rfl,hd,hrest⟩:=Go.ChangeShapes.trodAll_cons h;simp [ih hrest]
  simpa using h1 hA
 have hc:=(hsim (qEM hL)).run xs _ (hF xs ha ⟨_,_,_,hx⟩) (ghOf W) W args.toList rfl rfl rfl (fun b o h=>h) hx
 simp only [Array.toArray_toList] at hc;refine hc.mono ?_;rintro e W' ⟨v,rfl,hb,hr⟩;cases hr
 exact⟨_,rfl,qKX qMq hrt Tryz.underlying4 hsv (fun t ht=>(hT' t ht).2) hW (hfn ds hlen) hb.1⟩
end Go.Pv
namespace Go.Proofs.YtlemepahgalogaaGreatDoor
open Go Go.Proofs Go.RowKit Go.Pv Go.ChangeShapes Go.WideShapes Go.ChangeAt
theorem qOW {t:TypeId} {xs:List PV} (hu:Tryz.prog.underlying t=some .string) (h:Shp Tryz.prog t xs):∃ l,xs=[.str l]:=by
 cases h with
 |str t l h=>exact⟨l,rfl⟩
 |int t k' n h=>rw [hu] at h;cases h
 |bool t b h=>rw [hu] at h;cases h
 |sl t e xss h hx=>rw [hu] at h;cases h
 |struct t fs xs h hx=>rw [hu] at h;cases h
theorem qBa {x:PV} (h:Arg Tryz.prog 9 x):∃ s,x=.str s:=by
 rcases h with⟨fs,ys,hu,rfl,hs⟩|⟨hne,hs⟩
 ·rw [Tryz.underlying9] at hu;cases hu
 ·obtain⟨s,h⟩:=qOW Tryz.underlying9 hs;cases h
  exact⟨s,rfl⟩
def qvZ:DataW Unit→Array Value
 |.agg l=>(l.map fun d=>match d with|.lit (.int k n)=>Value.int k n|.lit (.string s)=>Value.string ⟨s.toArray⟩|_=>undef).toArray
 |_=>#[]
def low:Nat:=(World.holding Tryz.prog default ⟨#[],#[],[]⟩).heap.size
def qih (os:Os):World :=
 let w0:=World.holding Tryz.prog os ⟨#[.cells #[.string ⟨#[118,97,108,117,101,32,111,117,116,32,111,102,32,114,97,110,103,101]⟩] 259,.cells #[.string ⟨#[105,110,118,97,108,105,100,32,115,121,110,116,97,120]⟩] 259],#[],[]⟩
 { w0 with heap:=((((((w0.heap.modify 3 fun
  |.cells _ t frozen=>.cells #[.iface 257 (.pointer (some ⟨low+1,0,none⟩))] t frozen
  |o=>o).modify 4 fun
  |.cells _ t frozen=>.cells #[.iface 257 (.pointer (some ⟨low,0,none⟩))] t frozen
  |o=>o).modify 5 fun
  |.cells _ t frozen=>.cells (qvZ Rows.laid_math_bits_deBruijn32tab) t frozen
  |o=>o).modify 6 fun
  |.cells _ t frozen=>.cells (qvZ Rows.laid_math_bits_deBruijn64tab) t frozen
  |o=>o).modify 2 fun
  |.cells _ t frozen=>.cells (qvZ Rows.laid_internal_strconv_uint64pow10) t frozen
  |o=>o).modify 0 fun
  |.cells _ t frozen=>.cells (qvZ Rows.laid_pedigree_lex_twos) t frozen
  |o=>o) }
theorem own:ownKnob Tryz.prog.godebug=none:=by kernel_rfl
theorem qD2 (os:Os) (args:Array Value):laidMet Tryz.prog laidL ((qih os).forCall (fun _ _=>0) ⟨#[],args,[]⟩).memory :=
 laidMet_of_run' 8 (by kernel_rfl) (by kernel_rfl)
end Go.Proofs.YtlemepahgalogaaGreatDoor
set_option maxHeartbeats 4000000
set_option maxRecDepth 200000
set_option linter.unusedSimpArgs false
set_option linter.unusedVariables false
namespace Go.Pv
open Go Go.Proofs
def qlD:GamT:=ofL [(10,.pure qDQ),(11,.pure qsg),(13,.pure qx5),(14,.pure qpA),(15,.pure qxg)]
theorem qs4 (gl:Gl) (hg:GlLex gl):qam Tryz.prog gl (gam qlD):=(qaf (qCL gl) (qaf (qtq gl hg) (qaf (qza gl) (qaf (quw gl hg) (qaf (qFq gl) qag)))))
def qpM:Code:=qc3 Tryz.f4 8
def qpV:Code:=qc3 Tryz.f4 14
def qqW:LI:=⟨98,[0,1,5,8],fun e=>match e with|.exit 0=>[0,1,5]|_=>[],true⟩
def qst:LpsT:=fun r fr σ=>.fail
def qjY (vs:List PV) (σ:Store):Option (PExit×List PV×Store):=lval (lstep tbT qlD qst qpM qqW) vs σ
def qi1 (s s2:qU) (r:qR) (n:Int):Tr LR:=let z1:Store:=Store.mk [] [] [];.ite (iLt n (sLen s2)) (.ite (qau s2 n) (.ite (iEq (sAt s2 n) 10) (.ite (qa1 true (qas n) 0 (nNat n) (nLen s2)) (.ret (.out (.exit 0) [.str s,.str (sSub s2 0 (nNat n)),.sl r .non] z1)) .fail) (.ret (.next [.str s,.str s2,.sl r .non,.int .i64 (iAdd .i64 n 1)] z1))) .fail) (.ret (.out (.exit 0) [.str s,.str s2,.sl r .non] z1))
theorem qJX (s s2:qU) (r:qR) (n:Int):lstep tbT qlD qst qpM qqW [.str s,.str s2,.sl r .non,.int .i64 n] ⟨[],[],[]⟩=qi1 s s2 r n:=by kernel_rfl
theorem qCV (s s2:qU) (r:qR) (n:Int):qjY [.str s,.str s2,.sl r .non,.int .i64 n] ⟨[],[],[]⟩=lnext qjY (qi1 s s2 r n).run:=by unfold qjY;rw [qaJ,qJX]
def qm0 (s s2:qU) (r:qR) (n:Int):Option (PExit×List PV×Store):=qjY [.str s,.str s2,.sl r .non,.int .i64 n] ⟨[],[],[]⟩
def qmp (s s2:qU) (r:qR) (n:Int):qU:=(gStr (gOut (qm0 s s2 r n) 0))
def qiL (s s2:qU) (r:qR) (n:Int):qU:=(gStr (gOut (qm0 s s2 r n) 1))
def qnE (s s2:qU) (r:qR) (n:Int):qR:=(gRow (gOut (qm0 s s2 r n) 2))
def qj1 (s s2:qU) (r:qR) (n:Int):Bool:=isW (qm0 s s2 r n) ((.exit 0),[.str (qmp s s2 r n),.str (qiL s s2 r n),.sl (qnE s s2 r n) .non],⟨[],[],[]⟩)
def qgS:List PV→Store→Tr (PExit×List PV×Store)|[.str s,.str s2,.sl r .non,.int .i64 n],⟨[],[],[]⟩=>.ite (qj1 s s2 r n) (.ret ((.exit 0),[.str (qmp s s2 r n),.str (qiL s s2 r n),.sl (qnE s s2 r n) .non],⟨[],[],[]⟩)) (.fail)|_,_=>.fail
theorem qH7:∀ vs σ r,(qgS vs σ).run=some r→qjY vs σ=some r:=by
 intro vs σ r h;unfold qgS at h
 split at h
 ·exact qae h fun h=>by cases h
 ·cases h
theorem qAM (gl:Gl) (hg:GlLex gl):∀ fr σ e fr' σ',(orc qqW qgS fr σ).run=some (e,fr',σ')→LDoes Tryz.prog gl qpM fr σ e fr' σ':=qbu qai (qs4 gl hg ) qah (L:=qst) (qac (by kernel_rfl)) (by kernel_rfl) qH7
def qqY:LI:=⟨98,[0,1,5,9,10],fun e=>match e with|.exit 2=>[0,9]|_=>[],true⟩
def qr7:LpsT:=fun r fr σ=>.fail
def qjg (vs:List PV) (σ:Store):Option (PExit×List PV×Store):=lval (lstep tbT qlD qr7 qpV qqY) vs σ
def qlT (s s2:qU) (r:qR) (s3:qU) (n:Int):Tr LR:=let z1:=sApp (sApp s3 (xStr r (nNat n) 1)) [9,32,37];.ite (iLt n (xLen r)) (.ite (qas n) (.ite (qbo [.int .i64 0,.str [],.int .i64 0,.int .i64 0,.str [],.int .i64 0] r (nNat n)) (.ite (qgo s3 (xStr r (nNat n) 1)) (.ite (qgo (sApp s3 (xStr r (nNat n) 1)) [9,32,37]) (.ite (qgo z1 s2) (.ite (qgo (sApp z1 s2) [10,13]) (.ret (.next [.str s,.str s2,.sl r .non,.str (sApp (sApp z1 s2) [10,13]),.int .i64 (iAdd .i64 n 1)] ⟨[],[],[]⟩)) .fail) .fail) .fail) .fail) .fail) .fail) (.ret (.out (.exit 2) [.str s,.str s3] ⟨[],[],[]⟩))
theorem qJ0 (s s2:qU) (r:qR) (s3:qU) (n:Int):lstep tbT qlD qr7 qpV qqY [.str s,.str s2,.sl r .non,.str s3,.int .i64 n] ⟨[],[],[]⟩=qlT s s2 r s3 n:=by kernel_rfl
theorem qCB (s s2:qU) (r:qR) (s3:qU) (n:Int):qjg [.str s,.str s2,.sl r .non,.str s3,.int .i64 n] ⟨[],[],[]⟩=lnext qjg (qlT s s2 r s3 n).run:=by unfold qjg;rw [qaJ,qJ0]
def qrb (s s2:qU) (r:qR) (s3:qU) (n:Int):Option (PExit×List PV×Store):=qjg [.str s,.str s2,.sl r .non,.str s3,.int .i64 n] ⟨[],[],[]⟩
def qm3 (s s2:qU) (r:qR) (s3:qU) (n:Int):qU:=(gStr (gOut (qrb s s2 r s3 n) 0))
def qiR (s s2:qU) (r:qR) (s3:qU) (n:Int):qU:=(gStr (gOut (qrb s s2 r s3 n) 1))
def qkj (s s2:qU) (r:qR) (s3:qU) (n:Int):Bool:=isW (qrb s s2 r s3 n) ((.exit 2),[.str (qm3 s s2 r s3 n),.str (qiR s s2 r s3 n)],⟨[],[],[]⟩)
def qg1:List PV→Store→Tr (PExit×List PV×Store)|[.str s,.str s2,.sl r .non,.str s3,.int .i64 n],⟨[],[],[]⟩=>.ite (qkj s s2 r s3 n) (.ret ((.exit 2),[.str (qm3 s s2 r s3 n),.str (qiR s s2 r s3 n)],⟨[],[],[]⟩)) (.fail)|_,_=>.fail
theorem qI5:∀ vs σ r,(qg1 vs σ).run=some r→qjg vs σ=some r:=by
 intro vs σ r h;unfold qg1 at h
 split at h
 ·exact qae h fun h=>by cases h
 ·cases h
theorem qAq (gl:Gl) (hg:GlLex gl):∀ fr σ e fr' σ',(orc qqY qg1 fr σ).run=some (e,fr',σ')→LDoes Tryz.prog gl qpV fr σ e fr' σ':=qbu qai (qs4 gl hg ) qah (L:=qr7) (qac (by kernel_rfl)) (by kernel_rfl) qI5
def qBQ:LpsT:=fun r fr σ=>bif Nat.beq r 8 then orc qqW qgS fr σ else bif Nat.beq r 14 then orc qqY qg1 fr σ else .fail
def qd9 (v v2:qU):Tr PV:=let z1:=qzD v;let z2:Tr PV:=.ite qks (.ret (.bool qnA)) .fail;let z3:=qqL z1;let z4:=sSub v2 0 (nNat 20);let z5:=qiL z1 z4 z3 0;let z6:=qmp z1 z4 z3 0;let z7:=qnE z1 z4 z3 0;let z8:=sApp (sApp [37] z5) [10];let z9:=qiR z6 z5 z7 z8 0;let z10:=qm3 z6 z5 z7 z8 0;let z11:=qiL z1 v2 z3 0;let z12:=qmp z1 v2 z3 0;let z13:=qnE z1 v2 z3 0;let z14:=sApp (sApp [37] z11) [10];let z15:=qiR z12 z11 z13 z14 0;let z16:=qm3 z12 z11 z13 z14 0;.ite (qrB v) (.ite (qn0 z1) (.ite (iNe (qnm z1) 0) z2 (.ite (iLt 300 (xLen z3)) z2 (.ite (iLt 20 (sLen v2)) (.ite (qa1 true (qas 20) 0 (nNat 20) (nLen v2)) (.ite (qj1 z1 z4 z3 0) (.ite (qgo [37] z5) (.ite (qgo (sApp [37] z5) [10]) (.ite (qkj z6 z5 z7 z8 0) (.ite (iLt 65536 (sLen z9)) z2 (.ite (qdK z10) (.ite (qdK z9) (.ite (iEq (qd8 z10) (qd8 z9)) (.ite (qio (qad (qdr z10)) (qad (qbZ z10)) (qad (qbW z10)) (qad (qdr z9)) (qad (qbZ z9)) (qad (qbW z9))) (.ite (qo1 (qad (qdr z10)) (qad (qbZ z10)) (qad (qbW z10)) (qad (qdr z9)) (qad (qbZ z9)) (qad (qbW z9))) z2 (.ret (.bool false))) .fail) (.ret (.bool false))) .fail) .fail)) .fail) .fail) .fail) .fail) .fail) (.ite (qj1 z1 v2 z3 0) (.ite (qgo [37] z11) (.ite (qgo (sApp [37] z11) [10]) (.ite (qkj z12 z11 z13 z14 0) (.ite (iLt 65536 (sLen z15)) z2 (.ite (qdK z16) (.ite (qdK z15) (.ite (iEq (qd8 z16) (qd8 z15)) (.ite (qio (qad (qdr z16)) (qad (qbZ z16)) (qad (qbW z16)) (qad (qdr z15)) (qad (qbZ z15)) (qad (qbW z15))) (.ite (qo1 (qad (qdr z16)) (qad (qbZ z16)) (qad (qbW z16)) (qad (qdr z15)) (qad (qbZ z15)) (qad (qbW z15))) z2 (.ret (.bool false))) .fail) (.ret (.bool false))) .fail) .fail)) .fail) .fail) .fail) .fail)))) .fail) .fail
theorem qMN (v v2:qU):(tcall tbT qlD qBQ Tryz.f4 [.str v,.str v2]).flat=qd9 v v2:=by kernel_rfl
def qsq:List PV→Tr PV|[.str v,.str v2]=>qd9 v v2|_=>.fail
theorem qH2 (gl:Gl) (hg:GlLex gl):SimP Tryz.prog gl 4 fun args=>(qsq args).run:=by
 refine SimP.of_flat (G:=qlD) (L:=qBQ) qai (qs4 gl hg ) qah  Tryz.func4 rfl (by rfl) (by kernel_rfl) (qax (L:=lps qBQ) [(8,qpM),(14,qpV)] (by kernel_rfl) (List.forall_mem_cons.2 ⟨fun fr σ e fr' σ' h=>qAM gl hg  fr σ e fr' σ' h,(List.forall_mem_cons.2 ⟨fun fr σ e fr' σ' h=>qAq gl hg  fr σ e fr' σ' h,(List.forall_mem_nil _)⟩)⟩)) ?_
 intro args x h;unfold qsq at h
 split at h
 ·exact (congrArg Tr.run (qMN _ _)).trans h
 ·cases h
end Go.Pv
set_option maxHeartbeats 8000000
set_option maxRecDepth 200000
set_option linter.unusedSimpArgs false
set_option linter.unusedVariables false
namespace Go.Pv
open Go Go.Proofs
theorem qDk:∀ (f i:Nat) (s:qU) (w:Wd),w∈(lexL f i s).1→w.2.1.length≤s.length
 |0,_,_,_,h=>by simp [lexL] at h
 |f+1,i,s,w,h=>by
  cases hs:s with
  |nil=>rw [hs] at h;simp [lexL] at h
  |cons c t =>
   have hne:s≠[]:=by rw [hs];simp
   rw [qyD f i hne] at h
   rw [← hs];cases hw:wdL s with
   |none=>rw [hw] at h;simp at h
   |some x =>
    obtain⟨k,m,v⟩:=x;rw [hw] at h
    simp only [List.mem_cons] at h
    rcases h with rfl|h
    ·simp only [List.length_take];omega
    ·have:=qDk f (i+m+gapL false (s.drop m)) ((s.drop m).drop (gapL false (s.drop m))) w h;simp only [List.length_drop] at this;omega
theorem qHh {s:List UInt8} {w:Wd} (hw:w∈wL s):w.2.1.length≤s.length:=by
 unfold wL at hw;split at hw
 ·rename_i l h;have:=qDk (s.length+1) (gapL false s) (s.drop (gapL false s)) w (by rw [show lexL (s.length+1) (gapL false s) (s.drop (gapL false s))=qa3 s from rfl,h];exact hw)
  simp only [List.length_drop] at this;omega
 ·simp at hw
theorem qBO {s:List UInt8} (h:65536 < s.length):qea s=some (.tup [.sl [] .non,.int .i64 0,.int .i64 2]):=by
 unfold qea qlR;have:iLt 65536 (sLen s)=true:=by simp;omega
 exact Tr.run_t this rfl
attribute [simp] qj1 qnE qmp qiL qkj qm3 qiR qn0 qxB qnm qqL
theorem qy5 (s c:qU) (r:qR) (hc:c.length≤20):∀ (k m:Nat),m+k=c.length→10∉c.take m→∃ c',qjY [.str s,.str c,.sl r .non,.int .i64 (m:Nat)] ⟨[],[],[]⟩=some (.exit 0,[.str s,.str c',.sl r .non],⟨[],[],[]⟩)∧10∉c'∧c'.length≤20
 |0,m,hm,h=>by
  refine⟨c,?_,?_,hc⟩
  ·rw [qCV];have:¬ ((m:Int) < (c.length:Int)):=by omega
   simp [qi1,↓Tr.run_ite,this]
  ·rwa [List.take_of_length_le (by omega)] at h
 |k+1,m,hm,h=>by
  have hl:m < c.length:=by omega
  rw [qCV];have h1:(m:Int) < (c.length:Int):=by omega
  by_cases hb:c[m]=10
  ·refine⟨c.take m,?_,h,by rw [List.length_take];omega⟩
   simp [qi1,↓Tr.run_ite,h1,hl,hb,Nat.le_of_lt hl]
  ·have hn:¬ ((c[m].toNat:Int)=10):=fun e=>hb (UInt8.toNat_inj.1 (by simpa using Int.ofNat.inj e))
   obtain⟨c',h2,h3⟩:=qy5 s c r hc k (m+1) (by omega) (by
    rw [List.take_succ_eq_append_getElem hl];intro hh;rcases List.mem_append.1 hh with hh|hh
    ·exact h hh
    ·exact hb (List.mem_singleton.1 hh).symm)
   refine⟨c',?_,h3⟩;rw [← h2];simp [qi1,↓Tr.run_ite,h1,hl,hn,qbR (show m < 9223372036854775807 by omega)]
theorem qyE (s c:qU) (l:List Wd) (hl:l.length≤300) (hc:c.length≤20) (hw:∀ w∈l,w.2.1.length≤65536):∀ (k m:Nat) (t:qU),m+k=l.length→t.length≤100+m * 70000 →
  qjg [.str s,.str c,.sl (rOf cW l) .non,.str t,.int .i64 (m:Nat)] ⟨[],[],[]⟩=some (.exit 2,[.str s,.str (t++gpT c (l.drop m))],⟨[],[],[]⟩)
 |0,m,t,hm,ht=>by
  rw [qCB,List.drop_of_length_le (by omega)]
  have:¬ ((m:Int) < (l.length:Int)):=by omega
  simp [qlT,↓Tr.run_ite,this,gpT]
 |k+1,m,t,hm,ht=>by
  have hlm:m < l.length:=by omega
  have h1:(m:Int) < (l.length:Int):=by omega
  have hwm:=hw _ (List.getElem_mem hlm);have ih:=qyE s c l hl hc hw k (m+1) (t++(l[m].2.1++gpL c)) (by omega) (by simp [gpL];omega)
  have e:t++gpT c (l.drop m)=t++(l[m].2.1++gpL c)++gpT c (l.drop (m+1)):=by
   unfold gpT;rw [List.drop_eq_getElem_cons hlm,List.flatMap_cons];simp only [List.append_assoc]
  rw [e,← ih,qCB];have mx:100000000≤maxLen:=by decide
  simp [qlT,↓Tr.run_ite,h1,hlm,qbR (show m < 9223372036854775807 by omega),gpL]
  rw [if_pos (by omega),if_pos (by omega),if_pos (by omega),if_pos (by omega)]
  simp
theorem qzd {α:Type} {p:Ps α} {z:α} {s:List UInt8} {l:List Wd} (hs:s.length≤65536) (h:qa3 s=(l,none)):prs p z s=match pEnd (p l) with
  |.ok a _=>(a,0,0)
  |.no r=>(z,plc s.length r,130):=by
 unfold prs;rw [if_neg (by omega)]
 simp only [h]<;>cases pEnd (p l)<;>rfl
theorem qKM {α:Type} {x y:Rs α} (h:RAlk x y):RAlk (pEnd x) (pEnd y):=by
 cases x with
 |no r=>obtain⟨r',rfl,h2⟩:=h.no;exact h2
 |ok a r =>
  obtain⟨r',rfl,h2⟩:=h.ok;cases r with
  |nil =>
   have:=h2.nil_iff.1 rfl;subst this;exact⟨rfl,rfl⟩
  |cons w r =>
   obtain⟨w',r'',rfl,_⟩:=h2.cons;exact h2
theorem qNf {s t:List UInt8} {l k:List Wd} (hs:s.length≤65536) (ht:t.length≤65536) (h:qa3 s=(l,none)) (h2:qa3 t=(k,none)) (ha:Alk l k):(prP s).1=(prP t).1∧(prP s).2.2=(prP t).2.2:=by
 have e:=qKM (qJJ ha);unfold prP;rw [qzd hs h,qzd ht h2];cases h1:pEnd (qh7 l) with
 |no r =>
  rw [h1] at e;obtain⟨r',e1,_⟩:=e.no;rw [e1];exact⟨rfl,rfl⟩
 |ok a r =>
  rw [h1] at e;obtain⟨r',e1,_⟩:=e.ok;rw [e1];exact⟨rfl,rfl⟩
theorem qK7 (s:qU):(cutP s).length≤1500∨65536 < (cutP s).length:=by
 unfold cutP;split
 ·left;rw [List.length_take];omega
 ·omega
theorem qGV (s t:qU):(qsq [.str s,.str t]).run=some (.bool true):=by
 unfold qsq;rcases qK7 s with hx|hx
 ·have hx2:(cutP s).length≤65536:=by omega
  have hr:=qFe hx2;by_cases he:wE (cutP s)=0
  ·obtain⟨l,hw⟩:∃ l,qa3 (cutP s)=(l,none):=by
    unfold wE at he;rcases h:qa3 (cutP s) with⟨l,o⟩
    rw [h] at he;cases o with
    |none=>exact⟨l,rfl⟩
    |some p=>cases he
   have el:wL (cutP s)=l:=by unfold wL;rw [hw]
   rw [el] at hr;by_cases hn:l.length≤300
   ·have hn1:¬ (300:Int) < (l.length:Int):=by omega
    have htx:∀ w∈l,w.2.1.length≤65536:=fun w h=>by
     have:=qHh (s:=cutP s) (by rw [el];exact h)
     omega
    have fin:∀ c:qU,c.length≤20→∃ c',qm0 (cutP s) c (rOf cW l) 0=some (.exit 0,[.str (cutP s),.str c',.sl (rOf cW l) .non],⟨[],[],[]⟩)∧c'.length≤20 ∧
      qrb (cutP s) c' (rOf cW l) (gpZ c') 0=some (.exit 2,[.str (cutP s),.str (gpZ c'++gpT c' l)],⟨[],[],[]⟩)∧((gpZ c'++gpT c' l).length≤65536→(prP (cutP s)).1=(prP (gpZ c'++gpT c' l)).1∧(prP (cutP s)).2.2=(prP (gpZ c'++gpT c' l)).2.2):=by
     intro c hc;obtain⟨c',h1,h2,h3⟩:=qy5 (cutP s) c (rOf cW l) hc c.length 0 (by omega) (by simp)
     have h4:=qyE (cutP s) c' l hn h3 htx l.length 0 (gpZ c') (by omega) (by simp [gpZ];omega)
     obtain⟨k,h5,h6⟩:=qEc h2 hw;exact⟨c',h1,h3,h4,fun hl=>qNf hx2 hl hw h5 h6⟩
    have mx:100000000≤maxLen:=by decide
    have ok:=qLw (cutP s);have ks:=quZ ok;by_cases ht:20 < t.length
    ·have ht1:(20:Int) < (t.length:Int):=by omega
     have ht2:20≤t.length:=by omega
     obtain⟨c',h1,h3,h4,h5⟩:=fin (t.take 20) (by rw [List.length_take];omega)
     have z:[37]++c'++[10]=gpZ c':=by simp [gpZ]
     have z2:37::(c'++[10])=gpZ c':=rfl;by_cases hl:(gpZ c'++gpT c' l).length≤65536
     ·obtain⟨e1,e2⟩:=h5 hl;have hl1:¬ (65536:Int) < ((gpZ c'++gpT c' l).length:Int):=by omega
      rw [List.length_append] at hl1;simp [qd9,↓Tr.run_ite,hr,he,hn1,ht1,ht2,h1,z2,h4,hl1,← e1,← e2,ks];omega
     ·have hl1:(65536:Int) < ((gpZ c'++gpT c' l).length:Int):=by omega
      rw [List.length_append] at hl1;simp [qd9,↓Tr.run_ite,hr,he,hn1,ht1,ht2,h1,z2,h4,hl1];omega
    ·have ht1:¬ (20:Int) < (t.length:Int):=by omega
     obtain⟨c',h1,h3,h4,h5⟩:=fin t (by omega)
     have z2:37::(c'++[10])=gpZ c':=rfl;by_cases hl:(gpZ c'++gpT c' l).length≤65536
     ·obtain⟨e1,e2⟩:=h5 hl;have hl1:¬ (65536:Int) < ((gpZ c'++gpT c' l).length:Int):=by omega
      rw [List.length_append] at hl1;simp [qd9,↓Tr.run_ite,hr,he,hn1,ht1,h1,z2,h4,hl1,← e1,← e2,ks];omega
     ·have hl1:(65536:Int) < ((gpZ c'++gpT c' l).length:Int):=by omega
      rw [List.length_append] at hl1;simp [qd9,↓Tr.run_ite,hr,he,hn1,ht1,h1,z2,h4,hl1];omega
   ·have hn1:(300:Int) < (l.length:Int):=by omega
    simp [qd9,↓Tr.run_ite,hr,he,hn1]
  ·simp [qd9,↓Tr.run_ite,hr,he]
 ·simp [qd9,↓Tr.run_ite,qBO hx]
end Go.Pv
