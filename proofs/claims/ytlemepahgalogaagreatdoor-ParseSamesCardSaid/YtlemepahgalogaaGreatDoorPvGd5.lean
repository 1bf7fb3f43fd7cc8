/- Part 5 of the proof: pure values for the machine's values, what functions compute over them, and laws of what is computed. Conditions: none beyond each theorem's own premises. -/
import Derived.Test.YtlemepahgalogaaGreatDoorPvGd4
import Derived.Test.YtlemepahgalogaaGreatDoorCards
import Derived.Test.YtlemepahgalogaaGreatDoorTie
noncomputable section
set_option maxHeartbeats 8000000
set_option maxRecDepth 200000
set_option linter.unusedSimpArgs false
set_option linter.unusedVariables false
namespace Go.Pv
open Go Go.Proofs Go.RowKit
theorem qDs {s:List UInt8} (hs:s.length≤140737488355328) (hne:s≠[]):∃ k x v,qaX s=some (wTup k x v 0 (wdL s).isSome)∧∀ k' m v',wdL s=some (k',m,v')→k'=k∧x=s.take m∧v'=v:=by
 obtain⟨c,t,rfl⟩:=List.exists_cons_of_ne_nil hne;have val:∀ (k:Int) (n:Nat),(valL k (c::t) n).isSome=decide (eRd ((c::t).take n)=0)∧∀ k' m v',valL k (c::t) n=some (k',m,v')→k'=k∧(c::t).take n=(c::t).take m∧v'=(kRd ((c::t).take n),nRd ((c::t).take n),sRd ((c::t).take n)):=fun k n=>by
  unfold valL eRd kRd nRd sRd;cases h:rdV ((c::t).take n) with
  |none=>simp
  |some v =>
   refine⟨by simp,fun k' m v' he=>?_⟩
   cases he
   exact⟨rfl,rfl,rfl⟩
 by_cases h1:qkO c=true
 ·have e:runL innB (c::t)=runL innB t+1:=by simp [runL,innB,h1]
  refine⟨1,(c::t).take (runL innB t+1),(0,0,[]),?_,fun k' m v' he=>?_⟩
  ·rw [qyo hs h1,e]
   congr 2
   simp only [wdL,h1,if_true];by_cases hl:runL innB t+1≤64<;>simp [hl]
  ·simp only [wdL,h1,if_true] at he;split at he
   ·cases he;exact⟨rfl,rfl,rfl⟩
   ·cases he
 ·have h1':qkO c=false:=by simpa using h1
  by_cases h2:qnR c=true
  ·have e:runL innB (c::t)=runL innB t+1:=by simp [runL,innB,h2]
   refine⟨2,(c::t).take (runL innB t+1),(0,0,[]),?_,fun k' m v' he=>?_⟩
   ·rw [qyJ hs h2,e]
    congr 2
    simp only [wdL,h1',h2,if_true,Bool.false_eq_true,if_false];by_cases hl:runL innB t+1≤64<;>simp [hl]
   ·simp only [wdL,h1',h2,if_true,Bool.false_eq_true,if_false] at he;split at he
    ·cases he;exact⟨rfl,rfl,rfl⟩
    ·cases he
  ·have h2':qnR c=false:=by simpa using h2
   by_cases h3:c.toNat=95
   ·have hc:c=95:=UInt8.toNat_inj.1 h3;refine⟨3,[95],(0,0,[]),?_,fun k' m v' he=>?_⟩
    ·rw [qGb hs h3]
     congr 2
     simp only [wdL,h1',h2',h3,if_true,Bool.false_eq_true,if_false];cases hdIs innB t<;>simp
    ·simp only [wdL,h1',h2',h3,if_true,Bool.false_eq_true,if_false] at he;split at he
     ·cases he
     ·cases he;exact⟨rfl,by rw [hc];simp,rfl⟩
   ·have dg:qaX (c::t)=some (dgW (c::t))→(qaH c || (decide (c.toNat=45)&&hdIs qaH t))=true→∃ k x v,qaX (c::t)=some (wTup k x v 0 (wdL (c::t)).isSome)∧∀ k' m v',wdL (c::t)=some (k',m,v')→k'=k∧x=(c::t).take m∧v'=v:=fun hw hd=>by
     have e:wdL (c::t)=valL 4 (c::t) (runL qaH t+1):=by simp only [wdL,h1',h2',h3,hd,if_true,Bool.false_eq_true,if_false]
     obtain⟨v1,v2⟩:=val 4 (runL qaH t+1);refine⟨4,(c::t).take (runL qaH t+1),(kRd ((c::t).take (runL qaH t+1)),nRd ((c::t).take (runL qaH t+1)),sRd ((c::t).take (runL qaH t+1))),?_,fun k' m v' he=>v2 k' m v' (by rw [← e];exact he)⟩
     rw [hw,e,v1];rfl
    by_cases h4:qaH c=true
    ·exact dg (qIC hs h4) (by simp [h4])
    ·have h4':qaH c=false:=by simpa using h4
     by_cases h5:c.toNat=45∧hdIs qaH t=true
     ·cases t with
      |nil=>simp [hdIs] at h5
      |cons d u=>exact dg (qDr hs h5.1 h5.2) (by simp [h5.1,h5.2])
     ·have h5':(qaH c || (decide (c.toNat=45)&&hdIs qaH t))=false:=by
       rw [h4'];by_cases hc:c.toNat=45
       ·have:hdIs qaH t=false:=by
         cases hh:hdIs qaH t with
         |false=>rfl
         |true=>exact absurd ⟨hc,hh⟩ h5
        simp [this]
       ·simp [hc]
      by_cases h6:c.toNat=34
      ·have e:wdL (c::t)=if quoL t=0 then none else valL 5 (c::t) (quoL t+1):=by
        show (if qkO c=true then _ else _)=_
        rw [if_neg h1,if_neg h2,if_neg h3,if_neg (by rw [h5'];simp),if_pos h6]
       obtain⟨v1,v2⟩:=val 5 (symN t);refine⟨5,(c::t).take (symN t),(kRd ((c::t).take (symN t)),nRd ((c::t).take (symN t)),sRd ((c::t).take (symN t))),?_,fun k' m v' he=>?_⟩
       ·rw [qD8 hs h6,e];by_cases hq:quoL t=0
        ·rw [if_pos hq];unfold syW symN;rw [if_pos hq];have:eRd []=10:=by decide
         simp [this,wTup]
        ·rw [if_neg hq];unfold symN at v1 ⊢;rw [if_neg hq] at v1 ⊢;rw [v1];rfl
       ·rw [e] at he;by_cases hq:quoL t=0
        ·rw [if_pos hq] at he;cases he
        ·rw [if_neg hq] at he;refine v2 k' m v' ?_;unfold symN;rw [if_neg hq];exact he
      ·have e:wdL (c::t)=if qmM c t=0 then none else some (6,qmM c t,0,0,[]):=by
        show (if qkO c=true then _ else _)=_
        rw [if_neg h1,if_neg h2,if_neg h3,if_neg (by rw [h5'];simp),if_neg h6]
       have hm:=qC5 hs h1' h2' h3 h4' (fun hc=>by
        cases hh:hdIs qaH t with
        |false=>rfl
        |true=>exact absurd ⟨hc,hh⟩ h5) h6
       unfold mkW at hm;cases ht:hdIs (twoB c) t with
       |true =>
        rw [ht,if_pos rfl] at hm;have em:qmM c t=2:=by simp [qmM,ht]
        refine⟨6,(c::t).take 2,(0,0,[]),?_,fun k' m v' he=>?_⟩
        ·rw [hm,e,em];rfl
        ·rw [e,em] at he;cases he
         exact⟨rfl,rfl,rfl⟩
       |false =>
        rw [ht,if_neg (by simp)] at hm
        refine⟨6,[c],(0,0,[]),?_,fun k' m v' he=>?_⟩
        ·rw [hm,e]
         congr 2
         unfold qmM;rw [ht];cases qsj c<;>simp
        ·rw [e] at he;split at he
         ·cases he
         ·rename_i hn;have em:qmM c t=1:=by
           unfold qmM at hn ⊢;rw [ht] at hn ⊢;cases ho:qsj c with
           |true=>simp
           |false=>simp [ho] at hn
          rw [em] at he;cases he
          exact⟨rfl,by simp,rfl⟩
def wdT:List TypeId:=[36,3,28,36,9]
def lst (s:qU) (st:Nat) (n n2:Int):List Wd→Store
 |[]=>⟨[[.sl [] .full],[.int .i64 n],[.int .i64 n2],[.sl [] .full],[.str s]],[(st,0,1)],wdT⟩
 |a::l=>⟨[[.sl [] .full],[.int .i64 n],[.int .i64 n2],[.sl (rOf cW (a::l)) (.tok 1)],[.str s]],[(st,0,1),((a::l).length,6,44)],wdT⟩
theorem qH0 (s:qU) (st:Nat) (n n2:Int) (l:List Wd) (a:Wd):lst s st n n2 (l++[a])=⟨[[.sl [] .full],[.int .i64 n],[.int .i64 n2],[.sl (rOf cW (l++[a])) (.tok 1)],[.str s]],[(st,0,1),((l++[a]).length,6,44)],wdT⟩:=by
 cases l<;>rfl
def wEnd (s:qU) (acc:List Wd):List Wd×Option Nat→Option (PExit×List PV×Store)
 |(l,none)=>some (.exit 0,[],lst s 0 0 0 (acc++l))
 |(l,some p)=>some (.ret,[],lst s 2 (p:Nat) 120 (acc++l))
theorem qIw (f i:Nat):lexL f i []=([],none):=by cases f<;>rfl
theorem qLq (s:qU) (hs:s.length≤70000):∀ (f i:Nat) (acc:List Wd),i≤s.length→s.length < i+f→acc.length≤i→qdS [.yld 0,.ptr 4 0,.int .i64 (i:Nat)] (lst s 0 0 0 acc)=wEnd s acc (lexL f i (s.drop i)):=by
 intro f
 induction f with
 |zero=>intro i acc h1 h2 _;omega
 |succ f ih =>
  intro i acc h1 h2 h3;by_cases hlt:i < s.length
  ·have hS:sSub s (nNat (i:Int)) (nLen s)=s.drop i:=by simp
   have hne:s.drop i≠[]:=by
    intro h;have:=congrArg List.length h;simp at this;omega
   have hSl:(s.drop i).length≤140737488355328:=by simp;omega
   obtain⟨k,x,v,hw,hw2⟩:=qDs hSl hne;have a0:qhg (s.drop i)=true:=by simp [qhg,qei,qcO,qcl,qcs,qcp,qtL,qkd,hw,wTup]
   have a1:qei (s.drop i)=k:=by simp [qei,hw,wTup]
   have a2:qcO (s.drop i)=x:=by simp [qcO,hw,wTup]
   have a3:qcl (s.drop i)=v.1:=by simp [qcl,hw,wTup]
   have a4:qcs (s.drop i)=v.2.1:=by simp [qcs,hw,wTup]
   have a5:qcp (s.drop i)=v.2.2:=by simp [qcp,hw,wTup]
   have a6:qkd (s.drop i)=(wdL (s.drop i)).isSome:=by simp [qkd,hw,wTup]
   have t1:iLt (i:Int) (sLen s)=true:=by simp;omega
   have t2:qbd (qas (i:Int)) true (nNat (i:Int)) (nLen s) (nLen s)=true:=by simp;omega
   have eL:lexL (f+1) i (s.drop i)=match wdL (s.drop i) with
     |none=>([],some i)
     |some (k,m,v) =>
      ((k,(s.drop i).take m,v,(i:Int))::(lexL f (i+m+gapL false ((s.drop i).drop m)) ((s.drop i).drop (m+gapL false ((s.drop i).drop m)))).1,(lexL f (i+m+gapL false ((s.drop i).drop m)) ((s.drop i).drop (m+gapL false ((s.drop i).drop m)))).2):=by
    obtain⟨c,t,hct⟩:=List.exists_cons_of_ne_nil hne;rw [hct];rfl
   rw [eL];cases hwd:wdL (s.drop i) with
   |none =>
    rw [hwd] at a6;cases acc with
    |nil =>
     show qdS _ ⟨_,_,_⟩=_
     simp only [wdT];rw [qGI];simp only [qrW,hS,a0,a1,a2,a3,a4,a5,a6,t1,t2];simp [wEnd,lst,wdT]
    |cons a l =>
     show qdS _ ⟨_,_,_⟩=_
     simp only [wdT];rw [qzR];simp only [qla,hS,a0,a1,a2,a3,a4,a5,a6,t1,t2];simp [wEnd,lst,wdT]
   |some r =>
    obtain⟨k',m,v'⟩:=r;obtain⟨rfl,rfl,rfl⟩:=hw2 k' m v' hwd;rw [hwd] at a6;obtain⟨m1,m2⟩:=qwp hwd;have hx:((s.drop i).take m).length=m:=by rw [List.length_take];omega
    have m3:i+m≤s.length:=by simp at m2;omega
    have e1:iAdd .i64 (i:Int) (sLen ((s.drop i).take m))=((i+m:Nat):Int):=by
     rw [qrr,hx];exact qcY (by omega)
    have hS2:sSub s (nNat ((i+m:Nat):Int)) (nLen s)=s.drop (i+m):=by simp only [qEv,qGe,qDM,Int.toNat_natCast,List.take_length]
    have t3:qbd (qas ((i+m:Nat):Int)) true (nNat ((i+m:Nat):Int)) (nLen s) (nLen s)=true:=by simp;omega
    have g1:qgG (s.drop (i+m))=true:=qFB (by simp;omega)
    have g2:qhd (s.drop (i+m))=(gapL false (s.drop (i+m)):Nat):=qJb (by simp;omega)
    have g3:=qrm false (s.drop (i+m));have e2:iAdd .i64 ((i+m:Nat):Int) ((gapL false (s.drop (i+m)):Nat):Int)=((i+m+gapL false (s.drop (i+m)):Nat):Int):=qcY (by simp at g3;omega)
    have hd1:(s.drop i).drop m=s.drop (i+m):=by rw [List.drop_drop]
    have hd2:(s.drop i).drop (m+gapL false (s.drop (i+m)))=s.drop (i+m+gapL false (s.drop (i+m))):=by rw [List.drop_drop];congr 1;omega
    simp only [hd1,hd2];have hih:=ih (i+m+gapL false (s.drop (i+m))) (acc++[(k',(s.drop i).take m,v',(i:Int))]) (by simp at g3;omega) (by omega) (by simp;omega)
    have hfin:wEnd s (acc++[(k',(s.drop i).take m,v',(i:Int))]) (lexL f (i+m+gapL false (s.drop (i+m))) (s.drop (i+m+gapL false (s.drop (i+m)))))=wEnd s acc ((k',(s.drop i).take m,v',(i:Int))::(lexL f (i+m+gapL false (s.drop (i+m))) (s.drop (i+m+gapL false (s.drop (i+m))))).1,(lexL f (i+m+gapL false (s.drop (i+m))) (s.drop (i+m+gapL false (s.drop (i+m))))).2):=by
     cases hr:lexL f (i+m+gapL false (s.drop (i+m))) (s.drop (i+m+gapL false (s.drop (i+m)))) with
     |mk l o=>cases o<;>simp [wEnd]
    rw [← hfin,← hih,qH0];cases acc with
    |nil =>
     show qdS _ ⟨_,_,_⟩=_
     simp only [wdT];rw [qGI];have o1:qaP [] [[PV.int .i64 k',.str ((s.drop i).take m),.int .i64 v'.1,.int .i64 v'.2.1,.str v'.2.2,.int .i64 (i:Int)]] 64=true:=by simp
     have o2:qaC [[PV.int .i64 k',.str ((s.drop i).take m),.int .i64 v'.1,.int .i64 v'.2.1,.str v'.2.2,.int .i64 (i:Int)]] 6=true:=by simp [one]
     simp only [qrW,hS,a0,a1,a2,a3,a4,a5,a6,t1,t2,e1,hS2,t3,g1,g2,e2,o1,o2];simp [qMy,qLu]
    |cons a l =>
     show qdS _ ⟨_,_,_⟩=_
     simp only [wdT];rw [qzR];have o1:qaP (rOf cW (a::l)) [[PV.int .i64 k',.str ((s.drop i).take m),.int .i64 v'.1,.int .i64 v'.2.1,.str v'.2.2,.int .i64 (i:Int)]] 64=true:=by
      simp only [List.length_cons] at h3;simp;omega
     have o2:qaC [[PV.int .i64 k',.str ((s.drop i).take m),.int .i64 v'.1,.int .i64 v'.2.1,.str v'.2.2,.int .i64 (i:Int)]] 6=true:=by simp [one]
     simp only [qla,hS,a0,a1,a2,a3,a4,a5,a6,t1,t2,e1,hS2,t3,g1,g2,e2,o1,o2];simp [qL7]
  ·have:i=s.length:=by omega
   subst this;rw [List.drop_eq_nil_of_le (Nat.le_refl _),qIw];have t1:iLt (s.length:Int) (sLen s)=false:=by simp
   cases acc with
   |nil =>
    show qdS _ ⟨_,_,_⟩=_
    simp only [wdT];rw [qGI];simp only [qrW,t1];simp [wEnd,lst,wdT]
   |cons a l =>
    show qdS _ ⟨_,_,_⟩=_
    simp only [wdT];rw [qzR];simp only [qla,t1];simp [wEnd,lst,wdT]
def qvj (s:qU):List Wd×Option Nat→Option (PV×Store)
 |(l,none)=>some (.tup [],lst s 0 0 0 l)
 |(l,some p)=>some (.tup [],lst s 2 (p:Nat) 120 l)
theorem qL4 {s:List UInt8} (hs:s.length≤70000):qcz [] 0 0 [] s=qvj s (qcE s):=by
 have hg:=qrm false s;have h:=qLq s hs (s.length+1) (gapL false s) [] hg (by omega) (by simp)
 rw [show lexL (s.length+1) (gapL false s) (s.drop (gapL false s))=qcE s from rfl] at h
 unfold qcz qFy
 try dsimp only
 rw [qFB (by omega),qJb (by omega)]
 generalize qcE s=r at h ⊢;simp only [lst,wdT] at h
 generalize ((gapL false s:Nat):Int)=g at h ⊢;obtain⟨l,o⟩:=r;cases o with
 |none =>
  cases l with
  |nil =>
   simp only [wEnd,lst,wdT,List.append_nil,List.nil_append] at h
   simp only [qhX,qhS,qi6,qi3,qix,qh6,qib,qgL,qgP,qgt,qgD,qdL,qdI,qd3,qej,qd5,qdX,qdT,qfV,qfJ,qgb,qfQ,qf6,qgu,qgO,qdM,qdU,qdN,qeb,qd2,qd0,qd9,qgv,qfH,qgK,qgp,qf3,qfS,qf0,qgH,qga,qgF,qfT,qfW,qf9,qgw,qaA,h];simp [-qeg,qvj,lst,wdT]
  |cons a l =>
   simp only [wEnd,lst,wdT,List.nil_append] at h
   simp only [qhX,qhS,qi6,qi3,qix,qh6,qib,qgL,qgP,qgt,qgD,qdL,qdI,qd3,qej,qd5,qdX,qdT,qfV,qfJ,qgb,qfQ,qf6,qgu,qgO,qdM,qdU,qdN,qeb,qd2,qd0,qd9,qgv,qfH,qgK,qgp,qf3,qfS,qf0,qgH,qga,qgF,qfT,qfW,qf9,qgw,qaA,h];simp [-qeg,qvj,lst,wdT]
 |some p =>
  cases l with
  |nil =>
   simp only [wEnd,lst,wdT,List.append_nil,List.nil_append] at h
   simp only [qhX,qhS,qi6,qi3,qix,qh6,qib,qgL,qgP,qgt,qgD,qdL,qdI,qd3,qej,qd5,qdX,qdT,qfV,qfJ,qgb,qfQ,qf6,qgu,qgO,qdM,qdU,qdN,qeb,qd2,qd0,qd9,qgv,qfH,qgK,qgp,qf3,qfS,qf0,qgH,qga,qgF,qfT,qfW,qf9,qgw,qaA,h];simp [-qeg,qvj,lst,wdT]
  |cons a l =>
   simp only [wEnd,lst,wdT,List.nil_append] at h
   simp only [qhX,qhS,qi6,qi3,qix,qh6,qib,qgL,qgP,qgt,qgD,qdL,qdI,qd3,qej,qd5,qdX,qdT,qfV,qfJ,qgb,qfQ,qf6,qgu,qgO,qdM,qdU,qdN,qeb,qd2,qd0,qd9,qgv,qfH,qgK,qgp,qf3,qfS,qf0,qgH,qga,qgF,qfT,qfW,qf9,qgw,qaA,h];simp [-qeg,qvj,lst,wdT]
def wOut:List Wd×Option Nat→PV
 |(l,none)=>.tup [.sl (rOf cW l) .non,.int .i64 0,.int .i64 0]
 |(_,some p)=>.tup [.sl [] .non,.int .i64 (p:Nat),.int .i64 120]
theorem qCw {s:List UInt8} (hs:s.length≤70000):qdm s=some (if 65536 < s.length then .tup [.sl [] .non,.int .i64 0,.int .i64 2] else wOut (qcE s)):=by
 have h:=qL4 hs;unfold qdm qmm
 try dsimp only
 have b:qep s=some (.fn 158 [.ptr 4 0],⟨[[.sl [] .full],[.int .i64 0],[.int .i64 0],[.sl [] .full],[.str s]],[],wdT⟩):=by simp [-qeg,qep,qqC,wdT]
 have b0:qi5 s=true:=by
  simp only [qi5,qic,qfx,qiR,qfe,qiB,b,wdT];simp [-qeg]
 have b1:qic s=0:=by simp only [qic,b];simp [-qeg]
 have b2:qfx s=0:=by simp only [qfx,b];simp [-qeg]
 have b3:qiR s=[]:=by simp only [qiR,b];simp [-qeg]
 have b4:qfe s=[]:=by simp only [qfe,b];simp [-qeg]
 have b5:qiB s=s:=by simp only [qiB,b];simp [-qeg]
 rw [b0,b1,b2,b3,b4,b5];by_cases hl:65536 < s.length
 ·have:iLt 65536 (sLen s)=true:=by simp;omega
  rw [this,if_pos hl];rfl
 ·have:iLt 65536 (sLen s)=false:=by simp;omega
  rw [this,if_neg hl];generalize qcE s=r at h ⊢;obtain⟨l,o⟩:=r;cases o with
  |none =>
   cases l with
   |nil =>
    simp only [qvj,lst,wdT] at h
    simp only [qnk,qmq,qmp,qmv,qmu,qne,qgC,qiG,qio,qfG,qjv,qmN,qmT,qj7,qiN,qfI,qfE,qiw,qjw,qmY,qmo,qjD,qm4,qnv,qmH,qmS,h];simp [-qeg,wOut]
   |cons a l =>
    simp only [qvj,lst,wdT] at h
    simp only [qnk,qmq,qmp,qmv,qmu,qne,qgC,qiG,qio,qfG,qjv,qmN,qmT,qj7,qiN,qfI,qfE,qiw,qjw,qmY,qmo,qjD,qm4,qnv,qmH,qmS,h];simp [-qeg,wOut]
  |some p =>
   cases l with
   |nil =>
    simp only [qvj,lst,wdT] at h
    simp only [qnk,qmq,qmp,qmv,qmu,qne,qgC,qiG,qio,qfG,qjv,qmN,qmT,qj7,qiN,qfI,qfE,qiw,qjw,qmY,qmo,qjD,qm4,qnv,qmH,qmS,h];simp [-qeg,wOut]
   |cons a l =>
    simp only [qvj,lst,wdT] at h
    simp only [qnk,qmq,qmp,qmv,qmu,qne,qgC,qiG,qio,qfG,qjv,qmN,qmT,qj7,qiN,qfI,qfE,qiw,qjw,qmY,qmo,qjD,qm4,qnv,qmH,qmS,h];simp [-qeg,wOut]
end Go.Pv
set_option maxHeartbeats 8000000
set_option maxRecDepth 200000
set_option linter.unusedSimpArgs false
set_option linter.unusedVariables false
namespace Go.Pv
open Go Go.Proofs Go.RowKit
end Go.Pv
set_option maxHeartbeats 8000000
set_option maxRecDepth 200000
set_option linter.unusedSimpArgs false
set_option linter.unusedVariables false
namespace Go.Pv
open Go Go.Proofs Go.RowKit
def wL (s:qU):List Wd:=match qcE s with|(l,none)=>l|_=>[]
def wN (s:qU):Int:=match (qcE s).2 with|none=>0|some p=>(p:Nat)
def wE (s:qU):Int:=match (qcE s).2 with|none=>0|some _=>120
theorem qKs (s:qU):wOut (qcE s)=.tup [.sl (rOf cW (wL s)) .non,.int .i64 (wN s),.int .i64 (wE s)]:=by
 unfold wL wN wE;cases h:qcE s with
 |mk l o=>cases o<;>rfl
theorem qiM {s:List UInt8} (hs:s.length≤65536):qdm s=some (.tup [.sl (rOf cW (wL s)) .non,.int .i64 (wN s),.int .i64 (wE s)]):=by
 rw [qCw (by omega),if_neg (by omega),qKs]
section
variable {s : List UInt8} (hs : s.length ≤ 65536)
include hs
theorem qsu:qiP s=rOf cW (wL s):=by simp only [qiP,qiM hs];simp
theorem qsS:qi0 s=wN s:=by simp only [qi0,qiM hs];simp
theorem qte:qeZ s=wE s:=by simp only [qeZ,qiM hs];simp
theorem qzI:qfh s=true:=by simp only [qfh,qsu hs,qsS hs,qte hs,qiM hs];simp
end
theorem qG6:∀ (f i:Nat) (s:qU),(lexL f i s).1.length≤s.length:=by
 intro f
 induction f with
 |zero=>intro i s;simp [lexL]
 |succ f ih =>
  intro i s;cases s with
  |nil=>simp [lexL]
  |cons c t =>
   simp only [lexL];cases hw:wdL (c::t) with
   |none=>simp
   |some r =>
    obtain⟨k,m,v⟩:=r;have h1:=qwp hw;have:=ih (i+m+gapL false ((c::t).drop m)) ((c::t).drop (m+gapL false ((c::t).drop m)));simp only [List.length_cons,List.length_drop] at this ⊢;simp only [List.length_cons] at h1;omega
theorem qIS (s:qU):(wL s).length≤s.length:=by
 have h:=qG6 (s.length+1) (gapL false s) (s.drop (gapL false s));rw [show lexL (s.length+1) (gapL false s) (s.drop (gapL false s))=qcE s from rfl] at h
 unfold wL;cases hw:qcE s with
 |mk l o =>
  rw [hw] at h
  have h2:(s.drop (gapL false s)).length≤s.length:=by simp
  cases o with
  |none=>exact Nat.le_trans h h2
  |some p=>simp
end Go.Pv
set_option maxHeartbeats 8000000
set_option maxRecDepth 200000
set_option linter.unusedSimpArgs false
set_option linter.unusedVariables false
namespace Go.Pv
open Go Go.Proofs Go.RowKit
def gpB (b:UInt8):Bool:=blB b || decide (b.toNat=37)
def Nxt (r r':qU):Prop:=r'=[]∨hdIs gpB r'=true∨∃ b t t',r=b::t∧r'=b::t'
theorem qoT {p:UInt8→Bool} (hp:∀ b,gpB b=true→p b=false) {r r':List UInt8} (hn:Nxt r r') (h:hdIs p r=false):hdIs p r'=false:=by
 rcases hn with rfl|hg|⟨b,t,t',rfl,rfl⟩
 ·rfl
 ·cases r' with
  |nil=>rfl
  |cons b t=>exact hp b hg
 ·exact h
theorem qoj {p:UInt8→Bool} (hp:∀ b,gpB b=true→p b=false) {r r':List UInt8} (hn:Nxt r r'):∀ t:qU,runL p (t++r)=t.length→runL p (t++r')=t.length
 |[],h=>by
  have h1:hdIs p r=false:=by
   cases r with
   |nil=>rfl
   |cons b t =>
    simp only [List.nil_append,runL,List.length_nil] at h
    cases hb:p b with
    |false=>exact hb
    |true=>rw [hb] at h;simp at h
  have h2:=qoT hp hn h1;cases r' with
  |nil=>rfl
  |cons b t =>
   have h2:p b=false:=h2;simp [runL,h2]
 |a::t,h=>by
  simp only [List.cons_append,runL,List.length_cons] at h ⊢;cases ha:p a with
  |false=>rw [ha] at h;simp at h
  |true =>
   rw [ha] at h
   simp only [if_true,Nat.add_right_cancel_iff] at h ⊢;exact qoj hp hn t h
theorem quQ {n m:Nat} (h:incN n=m+1):n=m∧m≠0:=by
 unfold incN at h
 split at h<;>omega
theorem qpk (r r':qU):∀ (e:Bool) (t:qU),quoE e (t++r)=t.length→t.length≠0→quoE e (t++r')=t.length
 |_,[],_,h=>absurd rfl h
 |true,a::t,h,_=>by
  simp only [List.cons_append,quoE,List.length_cons] at h ⊢;obtain⟨h1,h2⟩:=quQ h;rw [qpk r r' false t h1 h2];simp [incN,h2]
 |false,a::t,h,_=>by
  simp only [List.cons_append,quoE,List.length_cons] at h ⊢;split at h
  ·rename_i h1;rw [if_pos h1];exact h
  ·rename_i h1;rw [if_neg h1];split at h
   ·rename_i h2;rw [if_pos h2];obtain⟨h1,h2⟩:=quQ h;rw [qpk r r' true t h1 h2];simp [incN,h2]
   ·rename_i h2;rw [if_neg h2];obtain⟨h1,h2⟩:=quQ h;rw [qpk r r' false t h1 h2];simp [incN,h2]
theorem quc {b:UInt8} (h:gpB b=true):b.toNat=32∨b.toNat=9∨b.toNat=10∨b.toNat=13∨b.toNat=37:=by
 simp only [gpB,blB,Bool.or_eq_true,decide_eq_true_eq] at h
 omega
theorem qFl (b:UInt8) (h:gpB b=true):innB b=false:=by
 rcases quc h with h|h|h|h|h<;>simp [innB,qkO,qnR,qaH,h]
theorem qM1 (b:UInt8) (h:gpB b=true):qaH b=false:=by
 rcases quc h with h|h|h|h|h<;>simp [qaH,h]
theorem qMR (c b:UInt8) (h:gpB b=true):twoB c b=false:=by
 rcases quc h with h|h|h|h|h<;>simp [twoB,h]
theorem qyg {k k':Int} {s:List UInt8} {n m:Nat} {v:Vl} (h:valL k s n=some (k',m,v)):k'=k∧m=n∧rdV (s.take n)=some v:=by
 unfold valL at h
 split at h
 ·rename_i v' hv;cases h
  exact⟨rfl,rfl,hv⟩
 ·cases h
theorem qE4 {k:Int} {s s':List UInt8} {n m:Nat} {k':Int} {v:Vl} (h:valL k s n=some (k',m,v)) (e:s'.take n=s.take n):valL k s' n=some (k',m,v):=by
 unfold valL at h ⊢;rw [e];exact h
theorem qJV {x r r':List UInt8} {k:Int} {v:Vl} (h:wdL (x++r)=some (k,x.length,v)) (hn:Nxt r r'):wdL (x++r')=some (k,x.length,v):=by
 have hl:=(qwp h).1;cases x with
 |nil=>simp at hl
 |cons c t =>
  simp only [List.cons_append,wdL,List.length_cons] at h ⊢;by_cases h1:qkO c=true
  ·simp only [h1,if_true] at h ⊢;split at h
   ·rename_i h2;simp only [Option.some.injEq,Prod.mk.injEq,Nat.add_right_cancel_iff] at h
    obtain⟨rfl,h3,rfl⟩:=h;have:=qoj qFl hn t h3;rw [this,if_pos (by omega)]
   ·cases h
  ·rw [if_neg h1] at h ⊢;by_cases h2:qnR c=true
   ·simp only [h2,if_true] at h ⊢;split at h
    ·rename_i h4;simp only [Option.some.injEq,Prod.mk.injEq,Nat.add_right_cancel_iff] at h
     obtain⟨rfl,h3,rfl⟩:=h;have:=qoj qFl hn t h3;rw [this,if_pos (by omega)]
    ·cases h
   ·rw [if_neg h2] at h ⊢;by_cases h3:c.toNat=95
    ·rw [if_pos h3] at h ⊢;split at h
     ·cases h
     ·rename_i h4;simp only [Option.some.injEq,Prod.mk.injEq] at h
      obtain⟨rfl,h5,rfl⟩:=h;have ht:t=[]:=by cases t with|nil=>rfl|cons=>simp at h5
      subst ht;have h6:=qoT qFl hn (by simpa using h4)
      simp [h6]
    ·rw [if_neg h3] at h ⊢;have dgs:∀ q:Bool,(q || (decide (c.toNat=45)&&hdIs qaH (t++r)))=(q || (decide (c.toNat=45)&&hdIs qaH (t++r')))∨(t=[]∧hdIs qaH r=true):=by
      intro q;cases t with
      |cons a t=>exact .inl rfl
      |nil =>
       cases hr:hdIs qaH r with
       |true=>exact .inr ⟨rfl,rfl⟩
       |false =>
        have:=qoT qM1 hn hr
        left
        simp [hr,this]
     by_cases h4:(qaH c || (decide (c.toNat=45)&&hdIs qaH (t++r)))=true
     ·rw [if_pos h4] at h
      obtain⟨hk,hm,hv⟩:=qyg h;have h5:runL qaH (t++r)=t.length:=by omega
      have h6:=qoj qM1 hn t h5;have h7:(qaH c || (decide (c.toNat=45)&&hdIs qaH (t++r')))=true:=by
       rcases dgs (qaH c) with e|⟨rfl,e⟩
       ·rw [← e];exact h4
       ·cases r with
        |nil=>simp [hdIs] at e
        |cons b u =>
         have e:qaH b=true:=e;simp [runL,e] at h5
      rw [if_pos h7,h6];rw [h5] at h
      refine qE4 h ?_;simp
     ·rw [if_neg h4] at h
      have h7:¬ (qaH c || (decide (c.toNat=45)&&hdIs qaH (t++r')))=true:=by
       rcases dgs (qaH c) with e|⟨rfl,e⟩
       ·rw [← e];exact h4
       ·intro hh;apply h4;simp only [List.nil_append,Bool.or_eq_true,Bool.and_eq_true] at hh ⊢;rcases hh with hh|⟨hh,_⟩
        ·exact .inl hh
        ·exact .inr ⟨hh,e⟩
      rw [if_neg h7];by_cases h5:c.toNat=34
      ·rw [if_pos h5] at h ⊢;split at h
       ·cases h
       ·rename_i h6;obtain⟨hk,hm,hv⟩:=qyg h;have h8:quoL (t++r)=t.length:=by omega
        have h9:quoL (t++r')=t.length:=qpk r r' false t h8 (by omega)
        rw [h9,if_neg (by omega)]
        rw [h8] at h
        refine qE4 h ?_;simp
      ·rw [if_neg h5] at h ⊢;split at h
       ·cases h
       ·rename_i h6;simp only [Option.some.injEq,Prod.mk.injEq] at h
        obtain⟨rfl,h8,rfl⟩:=h;have h9:qmM c (t++r')=t.length+1:=by
         unfold qmM at h8 ⊢;cases t with
         |nil =>
          show (if hdIs (twoB c) r'=true then 2 else if qsj c=true then 1 else 0)=1
          have h8:(if hdIs (twoB c) r=true then 2 else if qsj c=true then 1 else 0)=1:=h8;cases hr:hdIs (twoB c) r with
          |true=>rw [if_pos hr] at h8;omega
          |false =>
           rw [if_neg (by rw [hr];simp)] at h8
           rw [if_neg (by rw [qoT (qMR c) hn hr];simp)]
           exact h8
         |cons d t =>
          simp only [List.cons_append,hdIs] at h8 ⊢;exact h8
        rw [h9];simp
def gpS:Bool→qU→Option Bool
 |c,[]=>some c
 |c,b::s=>if c || blB b || decide (b.toNat=37) then gpS (decide (b.toNat=37) || c&&decide (b.toNat≠10)) s else none
theorem qGf:∀ (g:qU) (c c':Bool) (s:qU),gpS c g=some c'→gpS c (g++s)=gpS c' s
 |[],c,c',s,h=>by cases h;simp
 |b::g,c,c',s,h=>by
  simp only [gpS] at h
  split at h
  ·rename_i hb;simp only [List.cons_append,gpS,hb,if_true];exact qGf g _ c' s h
  ·cases h
abbrev Wv:=Int×List UInt8×Vl
def stW (w:Wd):Wv:=(w.1,w.2.1,w.2.2.1)
inductive Lx:List Wv→qU→Prop
 |nil (s:qU) (c:Bool) (h:gpS false s=some c):Lx [] s
 |cons (g x r:qU) (k:Int) (v:Vl) (l:List Wv) (hg:gpS false g=some false) (hw:wdL (x++r)=some (k,x.length,v)) (h:Lx l r):Lx ((k,x,v)::l) (g++(x++r))
theorem Lx.tail {z:List UInt8} (hz:hdIs gpB z=true) (h0:∀ c,∃ c',gpS c z=some c') {l:List Wv} {s:List UInt8} (h:Lx l s):Lx l (s++z):=by
 induction h with
 |nil s c h =>
  obtain⟨c',hc⟩:=h0 c;exact .nil _ c' (by rw [qGf s false c z h];exact hc)
 |cons g x r k v l hg hw h ih =>
  rw [List.append_assoc,List.append_assoc];refine .cons g x (r++z) k v l hg (qJV hw ?_) ih;cases r with
  |nil=>exact .inr (.inl hz)
  |cons b r=>exact .inr (.inr ⟨b,r,r++z,rfl,rfl⟩)
end Go.Pv
set_option maxHeartbeats 4000000
set_option linter.unusedSimpArgs false
set_option linter.unusedVariables false
namespace Go.Pv
inductive Rs (α:Type) where
 |ok (a:α) (l:List Wd)
 |no (l:List Wd)
abbrev Ps (α:Type):=List Wd→Rs α
def plc (n:Int):List Wd→Int
 |[]=>n
 |w::_=>w.2.2.2
def wIs (k:Int) (t:qU):List Wd→Bool
 |[]=>false
 |w::_=>decide (w.1=k)&&(decide (t=[]) || decide (w.2.1=t))
def resv (t:qU):Bool:=decide (t=[98,97,115,101]) || decide (t=[118,105,101,119]) || decide (t=[111,110]) || decide (t=[110,111,116])
def wNm:List Wd→Bool
 |[]=>false
 |w::_=>decide (w.1=1)&&!resv w.2.1
section
variable {α β : Type}
def qav (a:α):Ps α:=fun l=>.ok a l
def qlZ:Ps α:=fun l=>.no l
def qap (p:Ps α) (f:α→Ps β):Ps β:=fun l=>match p l with
 |.ok a r=>f a r
 |.no r=>.no r
def pIf (k:Int) (t:qU) (p:Wd→Ps α) (q:Ps α):Ps α:=fun l=>match l with
 |[]=>q []
 |w::r=>if wIs k t (w::r) then p w r else q (w::r)
def pCh (c:List Wd→Bool) (p:Ps α) (q:Ps α):Ps α:=fun l=>if c l then p l else q l
def qCX:Ps Wd:=fun l=>match l with
 |[]=>.no []
 |w::r=>.ok w r
def pRep (p:Ps α):Nat→List α→Ps (List α)
 |0,_=>qlZ
 |n+1,acc=>qap p fun a=>pIf 6 [44] (fun _=>pRep p n (acc++[a])) (qav (acc++[a]))
def pRow (p:Ps α):Ps (List α):=fun l=>pRep p (l.length+1) [] l
def qi8 (p:Ps α) (n:Nat) (acc:List α):Ps (List α):=pIf 6 [44] (fun _=>pRep p n acc) (qav acc)
theorem qco (p:Ps α) (n:Nat) (acc:List α):pRep p (n+1) acc=qap p fun a=>qi8 p n (acc++[a]):=rfl
def qb9 (k:Int) (t:qU):Ps Wd:=pIf k t qav qlZ
def qjq (p:Ps α):Ps (List α):=qap (qb9 6 [40]) fun _=>pIf 6 [41] (fun _=>qav []) (qap (pRow p) fun l=>qap (qb9 6 [41]) fun _=>qav l)
end
def qnM:Ps (List UInt8):=pCh wNm (qap qCX fun w=>qav w.2.1) qlZ
def pTyp:Ps Int:=pIf 1 [105,110,116] (fun _=>qav 1) (pIf 1 [115,121,109] (fun _=>qav 2) qlZ)
def qek:Ps Tm:=pIf 2 [] (fun w=>qav (1,w.2.1,0,0,[])) (pIf 4 [] (fun w=>qav (2,[],w.2.2.1)) (pIf 5 [] (fun w=>qav (2,[],w.2.2.1)) (pIf 3 [] (fun _=>qav (3,[],0,0,[])) qlZ)))
def qmI:Ps At:=qap qnM fun n=>qap (qjq qek) fun l=>qav (n,l)
def pOp:Ps Int:=pIf 6 [61] (fun _=>qav 1) (pIf 6 [33,61] (fun _=>qav 2) (pIf 6 [60] (fun _=>qav 3) (pIf 6 [60,61] (fun _=>qav 4) (pIf 6 [62] (fun _=>qav 5) (pIf 6 [62,61] (fun _=>qav 6) qlZ)))))
def tm0:Tm:=(0,[],0,0,[])
def pLit:Ps Li:=pIf 1 [110,111,116] (fun _=>qap qmI fun a=>qav (2,a,0,tm0,tm0))
 (pCh wNm (qap qmI fun a=>qav (1,a,0,tm0,tm0))
  (qap qek fun a=>qap pOp fun o=>qap qek fun b=>qav (3,([],[]),o,a,b)))
def pDot {α:Type} (x:α):Ps α:=qap (qb9 6 [46]) fun _=>qav x
def qkg:Ps Ru:=qap qmI fun a=>pIf 6 [58,45] (fun _=>qap (pRow pLit) fun b=>pDot (a,b)) (pDot (a,[]))
def qxQ:Ps De:=qap qCX fun w=>qap qnM fun n=>qap (qjq pTyp) fun t=>pDot (n,decide (w.2.1=[98,97,115,101]),t)
def pAct:Ps Ac:=pIf 6 [43] (fun _=>qap qmI fun a=>qav (true,a)) (qap (qb9 6 [45]) fun _=>qap qmI fun a=>qav (false,a))
def qd8:Ps Pa:=qap (qb9 2 []) fun w=>qap pTyp fun t=>qav (w.2.1,t)
def pOn:Ps En:=qap qCX fun _=>qap qnM fun n=>qap (qjq qd8) fun ps=>pIf 6 [58] (fun _=>qap (pRow pAct) fun l=>pDot (n,ps,l)) (pDot (n,ps,[]))
abbrev Pg:=List De×List En×List Ru
def isDe (l:List Wd):Bool:=wIs 1 [98,97,115,101] l || wIs 1 [118,105,101,119] l
def pOne (g:Pg):Ps Pg:=pCh isDe (qap qxQ fun d=>qav (g.1++[d],g.2.1,g.2.2))
 (pCh (wIs 1 [111,110]) (qap pOn fun d=>qav (g.1,g.2.1++[d],g.2.2)) (qap qkg fun d=>qav (g.1,g.2.1,g.2.2++[d])))
def qqi:Nat→Pg→Ps Pg
 |0,_=>qlZ
 |n+1,g=>fun l=>match l with
  |[]=>.ok g []
  |w::r=>qap (pOne g) (qqi n) (w::r)
def qnU:Ps Pg:=fun l=>qqi (l.length+1) ([],[],[]) l
def pEnd {α:Type}:Rs α→Rs α
 |.ok a []=>.ok a []
 |.ok _ (w::r)=>.no (w::r)
 |.no r=>.no r
def Alk (l l':List Wd):Prop:=l.map stW=l'.map stW
theorem Alk.nil_iff {l l':List Wd} (h:Alk l l'):l=[]↔l'=[]:=by
 cases l<;>cases l'<;>simp_all [Alk]
theorem Alk.len {l l':List Wd} (h:Alk l l'):l.length=l'.length:=by
 have:=congrArg List.length h;simpa using this
theorem Alk.cons {w:Wd} {l:List Wd} {m:List Wd} (h:Alk (w::l) m):∃ w' l',m=w'::l'∧w'.1=w.1∧w'.2.1=w.2.1∧w'.2.2.1=w.2.2.1∧Alk l l':=by
 cases m with
 |nil=>simp [Alk] at h
 |cons w' l' =>
  simp only [Alk,stW,List.map_cons,List.cons.injEq,Prod.mk.injEq] at h
  exact⟨w',l',rfl,h.1.1.symm,h.1.2.1.symm,h.1.2.2.symm,h.2⟩
theorem Alk.wIs {l l':List Wd} (h:Alk l l') (k:Int) (t:qU):wIs k t l'=wIs k t l:=by
 cases l with
 |nil=>rw [(h.nil_iff.1 rfl)]
 |cons w l =>
  obtain⟨w',l',rfl,h1,h2,_,_⟩:=h.cons;simp only [Go.Pv.wIs,h1,h2]
theorem Alk.wNm {l l':List Wd} (h:Alk l l'):wNm l'=wNm l:=by
 cases l with
 |nil=>rw [(h.nil_iff.1 rfl)]
 |cons w l =>
  obtain⟨w',l',rfl,h1,h2,_,_⟩:=h.cons;simp only [Go.Pv.wNm,h1,h2]
theorem qni (k:Int) (t:qU) {l:List Wd} (h:l≠[]) (m:List Wd):wIs k t (l++m)=wIs k t l:=by
 cases l with
 |nil=>exact absurd rfl h
 |cons=>rfl
theorem qK0 {l:List Wd} (h:l≠[]) (m:List Wd):wNm (l++m)=wNm l:=by
 cases l with
 |nil=>exact absurd rfl h
 |cons=>rfl
def Rs.rest {α:Type}:Rs α→List Wd
 |.ok _ r=>r
 |.no r=>r
def Rs.app {α:Type} (m:List Wd):Rs α→Rs α
 |.ok a r=>.ok a (r++m)
 |.no r=>.no (r++m)
def RAlk {α:Type}:Rs α→Rs α→Prop
 |.ok a r,.ok b r'=>a=b∧Alk r r'
 |.no r,.no r'=>Alk r r'
 |_,_=>False
theorem RAlk.ok {α:Type} {a:α} {r:List Wd} {y:Rs α} (h:RAlk (.ok a r) y):∃ r',y=.ok a r'∧Alk r r':=by
 cases y with
 |ok b r'=>exact⟨r',by rw [h.1],h.2⟩
 |no r'=>exact h.elim
theorem RAlk.no {α:Type} {r:List Wd} {y:Rs α} (h:RAlk (.no r) y):∃ r',y=.no r'∧Alk r r':=by
 cases y with
 |ok b r'=>exact h.elim
 |no r'=>exact⟨r',rfl,h⟩
theorem qF9 {u r:List Wd} (h:r≠[]):u++r≠[]:=by simp [h]
structure Good {α:Type} (p:Ps α):Prop where
 suf:∀ l,∃ u,l=u++(p l).rest
 ext:∀ l,(p l).rest≠[]→∀ m,p (l++m)=(p l).app m
 alk:∀ {l l'},Alk l l'→RAlk (p l) (p l')
section
variable {α β : Type}
theorem qaw (a:α):Good (qav a):=⟨fun _=>⟨[],rfl⟩,fun _ _ _=>rfl,fun h=>⟨rfl,h⟩⟩
theorem qhs:Good (qlZ:Ps α):=⟨fun _=>⟨[],rfl⟩,fun _ _ _=>rfl,fun h=>h⟩
theorem qaJ {p:Ps α} {f:α→Ps β} (hp:Good p) (hf:∀ a,Good (f a)):Good (qap p f):=by
 refine⟨fun l=>?_,fun l=>?_,fun {l l'} hl=>?_⟩
 ·obtain⟨u,hu⟩:=hp.suf l;unfold qap;split
  ·rename_i a r h1;rw [h1] at hu;obtain⟨v,hv⟩:=(hf a).suf r;exact⟨u++v,by rw [List.append_assoc,← hv];exact hu⟩
  ·rename_i r h1;rw [h1] at hu;exact⟨u,hu⟩
 ·have he:=hp.ext l;unfold qap;split
  ·rename_i a r h1;rw [h1] at he;intro hr m;obtain⟨v,hv⟩:=(hf a).suf r;rw [he (by show r≠[];rw [hv];exact qF9 hr) m]
   exact (hf a).ext r hr m
  ·rename_i r h1;rw [h1] at he;intro hr m;rw [he hr m];rfl
 ·have ha:=hp.alk hl;unfold qap;split
  ·rename_i a r h1;rw [h1] at ha;obtain⟨r',h2,h3⟩:=ha.ok;rw [h2];exact (hf a).alk h3
  ·rename_i r h1;rw [h1] at ha;obtain⟨r',h2,h3⟩:=ha.no;rw [h2];exact h3
abbrev NoAt (f:Wd→β):Prop:=∀ w w':Wd,w'.1=w.1→w'.2.1=w.2.1→w'.2.2.1=w.2.2.1→f w'=f w
theorem qbb {k:Int} {t:List UInt8} {p:Wd→Ps α} {q:Ps α} {w:Wd} {l:List Wd} (h:wIs k t (w::l)=true):pIf k t p q (w::l)=p w l:=if_pos h
theorem qaT {k:Int} {t:List UInt8} {p:Wd→Ps α} {q:Ps α} {l:List Wd} (h:wIs k t l=false):pIf k t p q l=q l:=by
 cases l with
 |nil=>rfl
 |cons w l=>exact if_neg (by rw [h];simp)
theorem qbA {k:Int} {t:List UInt8} {p:Wd→Ps α} {q:Ps α} (hp:∀ w,Good (p w)) (hw:NoAt p) (hq:Good q):Good (pIf k t p q):=by
 refine⟨fun l=>?_,fun l=>?_,fun {l l'} hl=>?_⟩
 ·cases hi:wIs k t l with
  |false=>rw [qaT hi];exact hq.suf l
  |true=>cases l with
   |nil=>cases hi
   |cons w l =>
    rw [qbb hi];obtain⟨u,hu⟩:=(hp w).suf l;exact⟨w::u,by rw [List.cons_append,← hu]⟩
 ·cases hi:wIs k t l with
  |false =>
   rw [qaT hi];intro hr m;obtain⟨u,hu⟩:=hq.suf l;have hne:l≠[]:=by rw [hu];exact qF9 hr
   rw [qaT (by rw [qni k t hne];exact hi)]
   exact hq.ext l hr m
  |true=>cases l with
   |nil=>cases hi
   |cons w l =>
    rw [qbb hi];intro hr m;exact (qbb (l:=l++m) hi).trans ((hp w).ext l hr m)
 ·cases hi:wIs k t l with
  |false=>rw [qaT hi,qaT (by rw [hl.wIs];exact hi)];exact hq.alk hl
  |true=>cases l with
   |nil=>cases hi
   |cons w l =>
    have hi':=(hl.wIs k t).trans hi;obtain⟨w',l',rfl,a1,a2,a3,a4⟩:=hl.cons;rw [qbb hi,qbb hi',hw w w' a1 a2 a3];exact (hp w).alk a4
structure HdT (c:List Wd→Bool):Prop where
 app:∀ {l:List Wd},l≠[]→∀ m,c (l++m)=c l
 alk:∀ {l l':List Wd},Alk l l'→c l'=c l
theorem qIQ (k:Int) (t:qU):HdT (wIs k t):=⟨fun h m=>qni k t h m,fun h=>h.wIs k t⟩
theorem qI4:HdT wNm:=⟨fun h m=>qK0 h m,fun h=>h.wNm⟩
theorem qEu:HdT isDe:=⟨fun h m=>by unfold isDe;rw [qni _ _ h,qni _ _ h],fun h=>by unfold isDe;rw [h.wIs,h.wIs]⟩
theorem qvS {c:List Wd→Bool} {p q:Ps α} (hc:HdT c) (hp:Good p) (hq:Good q):Good (pCh c p q):=by
 refine⟨fun l=>?_,fun l=>?_,fun {l l'} hl=>?_⟩
 ·unfold pCh;split
  ·exact hp.suf l
  ·exact hq.suf l
 ·have key:∀ {z:Ps α},Good z→(z l).rest≠[]→l≠[]:=fun {z} hz hr=>by
   obtain⟨u,hu⟩:=hz.suf l;rw [hu];exact qF9 hr
  unfold pCh;split
  ·rename_i hi;intro hr m;rw [hc.app (key hp hr),if_pos hi];exact hp.ext l hr m
  ·rename_i hi;intro hr m;rw [hc.app (key hq hr),if_neg hi];exact hq.ext l hr m
 ·unfold pCh;rw [hc.alk hl];split
  ·exact hp.alk hl
  ·exact hq.alk hl
theorem qqy {f:Wd→Ps β} (hp:∀ w,Good (f w)) (hw:NoAt f):Good (qap qCX f):=by
 refine⟨fun l=>?_,fun l=>?_,fun {l l'} hl=>?_⟩
 ·cases l with
  |nil=>exact⟨[],rfl⟩
  |cons w l =>
   obtain⟨u,hu⟩:=(hp w).suf l;exact⟨w::u,congrArg (w::·) hu⟩
 ·cases l with
  |nil=>exact fun h=>absurd rfl h
  |cons w l=>exact (hp w).ext l
 ·cases l with
  |nil =>
   have:=hl.nil_iff.1 rfl;subst this;exact hl
  |cons w l =>
   obtain⟨w',l',rfl,a1,a2,a3,a4⟩:=hl.cons;show RAlk (f w l) (f w' l')
   rw [hw w w' a1 a2 a3];exact (hp w).alk a4
theorem qhA (k:Int) (t:qU) {f:Wd→Ps β} (hp:∀ w,Good (f w)) (hw:NoAt f):Good (qap (qb9 k t) f):=by
 have e:qap (qb9 k t) f=pIf k t f qlZ:=by
  funext l
  unfold qap qb9;cases hi:wIs k t l with
  |false=>rw [qaT hi,qaT hi];rfl
  |true=>cases l with
   |nil=>cases hi
   |cons w l=>rw [qbb hi,qbb hi];rfl
 rw [e];exact qbA hp hw qhs
theorem qBN {p:Ps α} (hp:Good p) (l:List Wd):(p l).rest.length≤l.length:=by
 obtain⟨u,hu⟩:=hp.suf l;have:=congrArg List.length hu;simp only [List.length_append] at this;omega
theorem qor {p:Ps α} (hp:Good p):∀ (n:Nat) (acc:List α) (l:List Wd),l.length < n→(∃ u,l=u++(pRep p n acc l).rest)∧((pRep p n acc l).rest≠[]→∀ m n',(l++m).length < n'→pRep p n' acc (l++m)=(pRep p n acc l).app m)∧∀ {l' n'},Alk l l'→l'.length < n'→RAlk (pRep p n acc l) (pRep p n' acc l')
 |0,_,_,h=>absurd h (Nat.not_lt_zero _)
 |n+1,acc,l,h=>by
  have hz:∀ {n':Nat} {l':List Wd},l'.length < n'→n'=n' - 1+1:=fun h=>by omega
  cases h1:p l with
  |no r =>
   have e:∀ n' l' x,p l'=.no x→pRep p (n'+1) acc l'=.no x:=fun n' l' x hx=>by rw [qco];unfold qap;rw [hx]
   rw [e n l r h1];have hs:=hp.suf l;have he:=hp.ext l;rw [h1] at hs he;refine⟨hs,fun hr m n' hn=>?_,fun {l' n'} hl hn=>?_⟩
   ·rw [hz hn,e _ _ _ (he hr m)];rfl
   ·have ha:=hp.alk hl;rw [h1] at ha;obtain⟨r',h2,h3⟩:=ha.no;rw [hz hn,e _ _ _ h2];exact h3
  |ok a r =>
   have e:∀ n' l' x,p l'=.ok a x→pRep p (n'+1) acc l'=qi8 p n' (acc++[a]) x:=fun n' l' x hx=>by rw [qco];unfold qap;rw [hx]
   rw [e n l r h1];obtain⟨u,hs⟩:=hp.suf l;have he:=hp.ext l;rw [h1] at hs he;have hs:l=u++r:=hs;have hle:=qBN hp l;rw [h1] at hle;have hle:r.length≤l.length:=hle;cases hi:wIs 6 [44] r with
   |false =>
    have e2:∀ n' x,wIs 6 [44] x=false→qi8 p n' (acc++[a]) x=.ok (acc++[a]) x:=fun n' x hx=>by unfold qi8;rw [qaT hx];rfl
    rw [e2 n r hi];refine⟨⟨u,hs⟩,fun hr m n' hn=>?_,fun {l' n'} hl hn=>?_⟩
    ·rw [hz hn,e _ _ _ (he hr m),e2 _ _ (by rw [qni _ _ (show r≠[] from hr)];exact hi)]
     rfl
    ·have ha:=hp.alk hl;rw [h1] at ha;obtain⟨r',h2,h3⟩:=ha.ok;rw [hz hn,e _ _ _ h2,e2 _ _ (by rw [h3.wIs];exact hi)]
     exact⟨rfl,h3⟩
   |true=>cases r with
    |nil=>cases hi
    |cons w r =>
     have e2:∀ n' w' x,wIs 6 [44] (w'::x)=true→qi8 p n' (acc++[a]) (w'::x)=pRep p n' (acc++[a]) x:=fun n' w' x hx=>by unfold qi8;rw [qbb hx]
     rw [e2 n w r hi];simp only [List.length_cons] at hle;obtain⟨⟨v,hv⟩,k2,k3⟩:=qor hp n (acc++[a]) r (by omega)
     refine⟨⟨u++w::v,by rw [List.append_assoc,List.cons_append,← hv];exact hs⟩,fun hr m n' hn=>?_,fun {l' n'} hl hn=>?_⟩
     ·rw [hz hn,e _ _ _ (he (by simp [Rs.rest]) m)]
      refine (e2 _ w (r++m) hi).trans (k2 hr m _ ?_);simp only [List.length_append] at hn ⊢;omega
     ·have ha:=hp.alk hl;rw [h1] at ha;obtain⟨r',h2,h3⟩:=ha.ok;have hi':=(h3.wIs 6 [44]).trans hi;have hl':=qBN hp l';rw [h2] at hl';have hl':r'.length≤l'.length:=hl';obtain⟨w',r'',rfl,_,_,_,a4⟩:=h3.cons;rw [hz hn,e _ _ _ h2,e2 _ _ _ hi'];refine k3 a4 ?_;simp only [List.length_cons] at hl';omega
theorem qkG {p:Ps α} (hp:Good p):Good (pRow p) :=
 ⟨fun l=>(qor hp _ _ l (Nat.lt_succ_self _)).1,fun l hr m=>(qor hp _ _ l (Nat.lt_succ_self _)).2.1 hr m _ (Nat.lt_succ_self _),fun hl=>(qor hp _ _ _ (Nat.lt_succ_self _)).2.2 hl (Nat.lt_succ_self _)⟩
theorem qck (f:β):NoAt (fun _:Wd=>f):=fun _ _ _ _ _=>rfl
theorem qeR {p:Ps α} (hp:Good p):Good (qjq p) :=
 qhA _ _ (fun _=>qbA (fun _=>qaw _) (qck _) (qaJ (qkG hp) fun _=>qhA _ _ (fun _=>qaw _) (qck _))) (qck _)
theorem qk4 (a:α):Good (pDot a):=qhA _ _ (fun _=>qaw _) (qck _)
end
theorem qc7:Good qnM:=qvS qI4 (qqy (fun _=>qaw _) fun w w' _ h _=>by rw [h]) qhs
theorem qmc:Good pTyp:=qbA (fun _=>qaw _) (qck _) (qbA (fun _=>qaw _) (qck _) qhs)
theorem qhB:Good qek:=qbA (fun _=>qaw _) (fun w w' _ h _=>by rw [h]) (qbA (fun _=>qaw _) (fun w w' _ _ h=>by rw [h]) (qbA (fun _=>qaw _) (fun w w' _ _ h=>by rw [h]) (qbA (fun _=>qaw _) (qck _) qhs)))
theorem qdV:Good qmI:=qaJ qc7 fun _=>qaJ (qeR qhB) fun _=>qaw _
theorem qLY:Good pOp:=qbA (fun _=>qaw _) (qck _) (qbA (fun _=>qaw _) (qck _) (qbA (fun _=>qaw _) (qck _) (qbA (fun _=>qaw _) (qck _) (qbA (fun _=>qaw _) (qck _) (qbA (fun _=>qaw _) (qck _) qhs)))))
theorem qpw:Good pLit:=qbA (fun _=>qaJ qdV fun _=>qaw _) (qck _) (qvS qI4 (qaJ qdV fun _=>qaw _) (qaJ qhB fun _=>qaJ qLY fun _=>qaJ qhB fun _=>qaw _))
theorem good_rule:Good qkg:=qaJ qdV fun _=>qbA (fun _=>qaJ (qkG qpw) fun _=>qk4 _) (qck _) (qk4 _)
theorem qEH:Good qxQ:=qqy (fun _=>qaJ qc7 fun _=>qaJ (qeR qmc) fun _=>qk4 _) fun w w' _ h _=>by rw [h]
theorem qoX:Good pAct:=qbA (fun _=>qaJ qdV fun _=>qaw _) (qck _) (qhA _ _ (fun _=>qaJ qdV fun _=>qaw _) (qck _))
theorem qfw:Good qd8:=qhA _ _ (fun _=>qaJ qmc fun _=>qaw _) fun w w' _ h _=>by rw [h]
theorem qKu:Good pOn:=qqy (fun _=>qaJ qc7 fun _=>qaJ (qeR qfw) fun _=>qbA (fun _=>qaJ (qkG qoX) fun _=>qk4 _) (qck _) (qk4 _)) (qck _)
theorem qIv (g:Pg):Good (pOne g):=qvS qEu (qaJ qEH fun _=>qaw _) (qvS (qIQ _ _) (qaJ qKu fun _=>qaw _) (qaJ good_rule fun _=>qaw _))
structure Str {α:Type} (p:Ps α):Prop where
 of:∀ {l a r},p l=.ok a r→r.length < l.length∧∀ m,p (l++m)=.ok a (r++m)
section
variable {α β : Type}
theorem qqc (x:α):Str (pDot x):=by
 refine⟨fun {l a r} h=>?_⟩
 cases l with
 |nil=>cases h
 |cons w l =>
  have e:∀ l',pDot x (w::l')=if wIs 6 [46] (w::l') then .ok x l' else .no (w::l'):=fun l'=>by
   unfold pDot qap qb9;cases hi:wIs 6 [46] (w::l') with
   |false=>rw [qaT hi];rfl
   |true=>rw [qbb hi];rfl
  rw [e] at h
  split at h
  ·rename_i hi;cases h
   exact⟨Nat.lt_succ_self _,fun m=>(e _).trans (if_pos hi)⟩
  ·cases h
theorem qBu {r:List Wd} {n:Nat} (h:n < r.length):r≠[]:=by
 intro e;rw [e] at h
 exact absurd h (Nat.not_lt_zero _)
theorem qgk {p:Ps α} {f:α→Ps β} (hp:Good p) (hf:∀ a,Str (f a)):Str (qap p f):=by
 refine⟨fun {l b r} h=>?_⟩
 unfold qap at h
 split at h
 ·rename_i a r1 h1;obtain⟨k1,k2⟩:=(hf a).of h;have h2:=qBN hp l;have h3:=hp.ext l;rw [h1] at h2 h3;have h2:r1.length≤l.length:=h2;refine⟨by omega,fun m=>?_⟩
  unfold qap;rw [h3 (qBu k1) m];exact k2 m
 ·cases h
theorem qwb {p:Ps α} {g:α→β} (hp:Str p):Str (qap p fun a=>qav (g a)):=by
 refine⟨fun {l b r} h=>?_⟩
 unfold qap at h
 split at h
 ·rename_i a r1 h1;cases h
  obtain⟨k1,k2⟩:=hp.of h1;exact⟨k1,fun m=>by unfold qap;rw [k2 m];rfl⟩
 ·cases h
theorem qA6 {f:Wd→Ps β} (hf:∀ w,Str (f w)):Str (qap qCX f):=by
 refine⟨fun {l b r} h=>?_⟩
 cases l with
 |nil=>cases h
 |cons w l =>
  obtain⟨k1,k2⟩:=(hf w).of (show f w l=.ok b r from h)
  exact⟨Nat.lt_succ_of_lt k1,fun m=>k2 m⟩
theorem qIU {k:Int} {t:List UInt8} {p:Wd→Ps α} {q:Ps α} (hp:∀ w,Str (p w)) (hq:Str q):Str (pIf k t p q):=by
 refine⟨fun {l b r} h=>?_⟩
 cases hi:wIs k t l with
 |false =>
  rw [qaT hi] at h
  obtain⟨k1,k2⟩:=hq.of h;exact⟨k1,fun m=>by rw [qaT (by rw [qni _ _ (qBu k1)];exact hi)];exact k2 m⟩
 |true=>cases l with
  |nil=>cases hi
  |cons w l =>
   rw [qbb hi] at h
   obtain⟨k1,k2⟩:=(hp w).of h;exact⟨Nat.lt_succ_of_lt k1,fun m=>(qbb (l:=l++m) hi).trans (k2 m)⟩
theorem qI0 {c:List Wd→Bool} {p q:Ps α} (hc:HdT c) (hp:Str p) (hq:Str q):Str (pCh c p q):=by
 refine⟨fun {l b r} h=>?_⟩
 unfold pCh at h ⊢;split at h
 ·rename_i hi;obtain⟨k1,k2⟩:=hp.of h;exact⟨k1,fun m=>by rw [hc.app (qBu k1),if_pos hi];exact k2 m⟩
 ·rename_i hi;obtain⟨k1,k2⟩:=hq.of h;exact⟨k1,fun m=>by rw [hc.app (qBu k1),if_neg hi];exact k2 m⟩
end
theorem qHj:Str qkg:=qgk qdV fun _=>qIU (fun _=>qgk (qkG qpw) fun _=>qqc _) (qqc _)
theorem qH4:Str qxQ:=qA6 fun _=>qgk qc7 fun _=>qgk (qeR qmc) fun _=>qqc _
theorem qMO:Str pOn:=qA6 fun _=>qgk qc7 fun _=>qgk (qeR qfw) fun _=>qIU (fun _=>qgk (qkG qoX) fun _=>qqc _) (qqc _)
theorem qF4 (g:Pg):Str (pOne g):=qI0 qEu (qwb qH4) (qI0 (qIQ _ _) (qwb qMO) (qwb qHj))
theorem qxE {n:Nat} {g:Pg} {l:List Wd} (h:l≠[]):qqi (n+1) g l=qap (pOne g) (qqi n) l:=by
 cases l with
 |nil=>exact absurd rfl h
 |cons=>rfl
theorem qaS {α β:Type} {p:Ps α} {f:α→Ps β} {l r:List Wd} {a:α} (h:p l=.ok a r):qap p f l=f a r:=by unfold qap;rw [h]
theorem qaR {α β:Type} {p:Ps α} {f:α→Ps β} {l r:List Wd} (h:p l=.no r):qap p f l=.no r:=by unfold qap;rw [h]
theorem qxr:∀ (n:Nat) (g:Pg) (l:List Wd),l.length < n→∃ u,l=u++(qqi n g l).rest
 |0,_,_,h=>absurd h (Nat.not_lt_zero _)
 |n+1,g,[],h=>⟨[],rfl⟩
 |n+1,g,w::l,h=>by
  rw [qxE (by simp)]
  obtain⟨u,hu⟩:=(qIv g).suf (w::l);cases h1:pOne g (w::l) with
  |no r=>rw [h1] at hu;rw [qaR h1];exact⟨u,hu⟩
  |ok b r =>
   have k1:=((qF4 g).of h1).1;rw [h1] at hu;rw [qaS h1];obtain⟨v,hv⟩:=qxr n b r (by simp only [List.length_cons] at k1 h;omega)
   exact⟨u++v,by rw [List.append_assoc,← hv];exact hu⟩
theorem qG8 (l:List Wd):∃ u,l=u++(qnU l).rest:=qxr _ _ _ (Nat.lt_succ_self _)
theorem ch_f {α:Type} {c:List Wd→Bool} {p q:Ps α} {l:List Wd} (h:c l=false):pCh c p q l=q l:=if_neg (by rw [h];simp)
end Go.Pv
set_option maxHeartbeats 4000000
set_option maxRecDepth 200000
set_option linter.unusedSimpArgs false
set_option linter.unusedVariables false
namespace Go.Pv
open Go Go.Proofs
@[simp] def bst (l:List Wd) (n:Int):Store:=⟨[[.sl (rOf cW l) .non,.int .i64 n]],[],[138]⟩
@[simp] def mfit (n:Int):PV:=.iface 172 (.agg [.int .i64 n])
def bOut {α:Type} (f:α→PV) (n:Int):Rs α→PR×Store
 |.ok a r=>(.val (f a),bst r n)
 |.no r=>(.pan (mfit (plc n r)),bst r n)
@[simp] theorem bOut_ok {α:Type} (f:α→PV) (n:Int) (a:α) (r:List Wd):bOut f n (.ok a r)=(.val (f a),bst r n):=rfl
@[simp] theorem bOut_no {α:Type} (f:α→PV) (n:Int) (r:List Wd):bOut f n (.no r)=(.pan (mfit (plc n r)),bst r n):=rfl
@[simp] def vcW (w:Wd):PV:=.agg [.int .i64 w.1,.str w.2.1,.int .i64 w.2.2.1.1,.int .i64 w.2.2.1.2.1,.str w.2.2.1.2.2,.int .i64 w.2.2.2]
@[simp] def vcM (t:Tm):PV:=.agg [.int .i64 t.1,.str t.2.1,.int .i64 t.2.2.1,.int .i64 t.2.2.2.1,.str t.2.2.2.2]
@[simp] def vcA (a:At):PV:=.agg [.str a.1,.sl (rOf cM a.2) .non]
@[simp] def vcL (t:Li):PV:=.agg [.int .i64 t.1,.str t.2.1.1,.sl (rOf cM t.2.1.2) .non,.int .i64 t.2.2.1,.int .i64 t.2.2.2.1.1,.str t.2.2.2.1.2.1,.int .i64 t.2.2.2.1.2.2.1,.int .i64 t.2.2.2.1.2.2.2.1,.str t.2.2.2.1.2.2.2.2,.int .i64 t.2.2.2.2.1,.str t.2.2.2.2.2.1,.int .i64 t.2.2.2.2.2.2.1,.int .i64 t.2.2.2.2.2.2.2.1,.str t.2.2.2.2.2.2.2.2]
@[simp] def vcRu (t:Ru):PV:=.agg [.str t.1.1,.sl (rOf cM t.1.2) .non,.sl (rOf cL t.2) .non]
@[simp] def vcD (t:De):PV:=.agg [.str t.1,.bool t.2.1,.sl (rOf cI t.2.2) .non]
@[simp] def vcP (t:Pa):PV:=.agg [.str t.1,.int .i64 t.2]
@[simp] def vcAc (t:Ac):PV:=.agg [.bool t.1,.str t.2.1,.sl (rOf cM t.2.2) .non]
@[simp] def vcE (t:En):PV:=.agg [.str t.1,.sl (rOf cP t.2.1) .non,.sl (rOf cAc t.2.2) .non]
@[simp] def vcPg (t:Pg):PV:=.agg [.sl (rOf cD t.1) .non,.sl (rOf cE t.2.1) .non,.sl (rOf cRu t.2.2) .non]
attribute [simp] qnQ qd1 qmj qhT qmC qzP qAf qcj qwr qlx qkT qow qf1 qjn qlh qa7 qaG qa5 qhD qhL qm9 qmr qng qeY qrt qe7 qe4 qmW qlP qbh qbg qa4 qa6 qa9 qhN qhI qfa qfl qfd qdW qhW qiE qfX qgB qgm qgc qea qdQ qbM qbL qci qc5 qc4 qc9 qbI qct
@[simp] theorem bis_law (l:List Wd) (n k:Int) (t:qU):qEN (rOf cW l) n k t=some (.bool (wIs k t l)):=by
 cases l with
 |nil=>simp [qEN,qA0,↓Tr.run_ite,wIs]
 |cons w l =>
  by_cases h1:w.1=k<;>by_cases h2:t=[]<;>simp [qEN,qA0,↓Tr.run_ite,wIs,h1,h2]
@[simp] theorem tail_rOf {α:Type} (C:Cod α) (l:List α):(rOf C l).tail=rOf C l.tail:=by cases l<;>rfl
@[simp] theorem bnamed_law (l:List Wd) (n:Int):qkD (rOf cW l) n=some (.bool (wNm l)):=by
 cases h:wIs 1 [] l with
 |false =>
  have:wNm l=false:=by
   cases l with
   |nil=>rfl
   |cons w l =>
    simp only [wIs,decide_true,Bool.true_or,Bool.and_true,decide_eq_false_iff_not] at h
    simp [wNm,h]
  simp [qkD,qkm,↓Tr.run_ite,this,h]
 |true=>cases l with
  |nil=>cases h
  |cons w l =>
   have h1:w.1=1:=by simpa [wIs] using h
   by_cases h2:w.2.1=[98,97,115,101]<;>by_cases h3:w.2.1=[118,105,101,119]<;>by_cases h4:w.2.1=[111,110]<;>by_cases h5:w.2.1=[110,111,116]<;>simp [qkD,qkm,↓Tr.run_ite,wNm,wIs,resv,h1,h2,h3,h4,h5]
@[simp] theorem bno_law (l:List Wd) (n:Int):qB3 (rOf cW l) n=some (.pan (mfit (plc n l)),bst l n):=by
 cases l with
 |nil=>simp [qB3,qBp,↓Tr.run_ite,plc]
 |cons w l=>simp [qB3,qBp,↓Tr.run_ite,plc]
@[simp] theorem bpass_law (w:Wd) (l:List Wd) (n:Int):qeI (rOf cW (w::l)) n=some (.val (vcW w),bst l n):=by
 simp [qeI,quB,↓Tr.run_ite]
theorem qaL {k:Int} {t:List UInt8} {l:List Wd} (h:wIs k t l=false) (n:Int):qjj k t (rOf cW l) n=some (.val (.bool false),bst l n):=by
 simp [qjj,qoK,↓Tr.run_ite,h]
theorem qaI {k:Int} {t:List UInt8} {w:Wd} {l:List Wd} (h:wIs k t (w::l)=true) (n:Int):qjj k t (rOf cW (w::l)) n=some (.val (.bool true),bst l n):=by
 simp [qjj,qoK,↓Tr.run_ite,h]
@[simp] theorem bneed_law (k:Int) (t:qU) (l:List Wd) (n:Int):qcw k t (rOf cW l) n=some (bOut vcW n (qb9 k t l)):=by
 cases h:wIs k t l with
 |false=>simp [qcw,qpr,↓Tr.run_ite,qb9,qaT h,h,qlZ]
 |true=>cases l with
  |nil=>cases h
  |cons w l=>simp [qcw,qpr,↓Tr.run_ite,qb9,qbb h,h,qav]
@[simp] theorem bmark_law (t:qU) (l:List Wd) (n:Int):qjP t (rOf cW l) n=some (bOut (fun _=>.tup []) n (qb9 6 t l)):=by
 cases h:qb9 6 t l<;>simp [qjP,qwa,↓Tr.run_ite,h]
@[simp] theorem bname_law (l:List Wd) (n:Int):qfP (rOf cW l) n=some (bOut .str n (qnM l)):=by
 cases h:wNm l with
 |false=>simp [qfP,qo4,↓Tr.run_ite,qnM,pCh,h,qlZ]
 |true=>cases l with
  |nil=>cases h
  |cons w l=>simp [qfP,qo4,↓Tr.run_ite,qnM,pCh,h,qCX,qap,qav]
@[simp] theorem btyp_law (l:List Wd) (n:Int):qja (rOf cW l) n=some (bOut (.int .i64) n (pTyp l)):=by
 cases h:wIs 1 [105,110,116] l with
 |true=>cases l with
  |nil=>cases h
  |cons w l=>simp [qja,qqr,↓Tr.run_ite,pTyp,qbb h,qaI h,qav]
 |false=>cases h2:wIs 1 [115,121,109] l with
  |true=>cases l with
   |nil=>cases h2
   |cons w l=>simp [qja,qqr,↓Tr.run_ite,pTyp,qaT h,qaL h,qbb h2,qaI h2,qav]
  |false=>simp [qja,qqr,↓Tr.run_ite,pTyp,qaT h,qaL h,qaT h2,qaL h2,qlZ]
@[simp] theorem bterm_law (l:List Wd) (n:Int):qbS (rOf cW l) n=some (bOut vcM n (qek l)):=by
 cases h2:wIs 2 [] l with
 |true=>cases l with
  |nil=>cases h2
  |cons w l=>simp [qbS,qgM,↓Tr.run_ite,qek,qbb h2,qav,h2]
 |false=>cases h4:wIs 4 [] l with
  |true=>cases l with
   |nil=>cases h4
   |cons w l=>simp [qbS,qgM,↓Tr.run_ite,qek,qaT h2,qbb h4,qav,h2,h4]
  |false=>cases h5:wIs 5 [] l with
   |true=>cases l with
    |nil=>cases h5
    |cons w l=>simp [qbS,qgM,↓Tr.run_ite,qek,qaT h2,qaT h4,qbb h5,qav,h2,h4,h5]
   |false=>cases h3:wIs 3 [] l with
    |true=>cases l with
     |nil=>cases h3
     |cons w l=>simp [qbS,qgM,↓Tr.run_ite,qek,qb9,qaT h2,qaT h4,qaT h5,qbb h3,qav,h2,h4,h5,h3]
    |false=>simp [qbS,qgM,↓Tr.run_ite,qek,qb9,qaT h2,qaT h4,qaT h5,qaT h3,qlZ,h2,h4,h5,h3]
end Go.Pv
set_option maxHeartbeats 4000000
set_option maxRecDepth 200000
set_option linter.unusedSimpArgs false
set_option linter.unusedVariables false
namespace Go.Pv
open Go Go.Proofs
theorem qnT {α:Type} {p:Ps α} (hp:Good p) {l r:List Wd} {a:α} (h:p l=.ok a r):r.length≤l.length:=by
 have:=qBN hp l;rw [h] at this;exact this
theorem qpC {k:Int} {t:List UInt8} {l r:List Wd} {w:Wd} (h:qb9 k t l=.ok w r):l=w::r∧wIs k t l=true:=by
 unfold qb9 at h
 cases hi:wIs k t l with
 |false=>rw [qaT hi] at h;cases h
 |true=>cases l with
  |nil=>cases hi
  |cons w l=>rw [qbb hi] at h;cases h;exact⟨rfl,rfl⟩
def qdc {α:Type} (p:Ps α):Ps (Option α):=pIf 6 [44] (fun _=>qap p fun a=>qav (some a)) (qav none)
def mstep {α γ:Type} (V X:List α→List Wd→γ) (P:List Wd→γ) (acc:List α):Rs (Option α)→γ
 |.ok (some a) r=>V (acc++[a]) r
 |.ok none r=>X acc r
 |.no r=>P r
theorem qBO {α γ:Type} {p:Ps α} (hp:Good p) {V X P:List α→List Wd→γ} (E:∀ acc r,acc.length+r.length≤65537→V acc r=mstep V X (P acc) acc (qdc p r)) :
  ∀ (m:Nat) (acc:List α) (r:List Wd),r.length≤m→acc.length+r.length≤65537→match qi8 p m acc r with
   |.ok bs r'=>V acc r=X bs r'
   |.no r'=>∃ acc',V acc r=P acc' r'
 |m,acc,r,h,hb=>by
  rw [E acc r hb];unfold qi8 qdc;cases hw:wIs 6 [44] r with
  |false=>rw [qaT hw,qaT hw];rfl
  |true=>cases r with
   |nil=>cases hw
   |cons w r =>
    rw [qbb hw,qbb hw];simp only [List.length_cons] at h hb;cases m with
    |zero=>omega
    |succ m =>
     rw [qco];cases h1:p r with
     |no r'=>rw [qaR h1,qaR h1];exact⟨acc,rfl⟩
     |ok a r' =>
      have:=qnT hp h1;rw [qaS h1,qaS h1];exact qBO hp E m (acc++[a]) r' (by omega) (by simp only [List.length_append,List.length_singleton];omega)
theorem qhu {α γ:Type} {p:Ps α} (hp:Good p) {V0 V X0 X P:List α→List Wd→γ} {P0:List Wd→γ} (E0:∀ acc r,acc.length+r.length≤65537→V0 acc r=mstep V X0 P0 acc (qdc p r)) (E:∀ acc r,acc.length+r.length≤65537→V acc r=mstep V X (P acc) acc (qdc p r))
  (m:Nat) (acc:List α) (r:List Wd) (h:r.length≤m) (hb:acc.length+r.length≤65537):match qi8 p m acc r with
   |.ok bs r'=>V0 acc r=X0 bs r'∨V0 acc r=X bs r'
   |.no r'=>V0 acc r=P0 r'∨∃ acc',V0 acc r=P acc' r':=by
 rw [E0 acc r hb];unfold qi8 qdc;cases hw:wIs 6 [44] r with
 |false=>rw [qaT hw,qaT hw];exact .inl rfl
 |true=>cases r with
  |nil=>cases hw
  |cons w r =>
   rw [qbb hw,qbb hw];simp only [List.length_cons] at h hb;cases m with
   |zero=>omega
   |succ m =>
    rw [qco];cases h1:p r with
    |no r'=>rw [qaR h1,qaR h1];exact .inl rfl
    |ok a r' =>
     have:=qnT hp h1;rw [qaS h1,qaS h1];have H:=qBO hp E m (acc++[a]) r' (by omega) (by simp only [List.length_append,List.length_singleton];omega)
     cases h2:qi8 p m (acc++[a]) r' with
     |ok bs r''=>rw [h2] at H;exact .inr H
     |no r''=>rw [h2] at H;exact .inr H
abbrev LOut:=Option (PExit×List PV×Store)
def qji {α:Type} (C:Cod α) (n:Int) (acc:List α) (r:List Wd):LOut:=some (.exit 0,[.sl (rOf C acc) .full],bst r n)
def qjU (n:Int) (r:List Wd):LOut:=some (.pan (mfit (plc n r)),[],bst r n)
def qjW {α:Type} (C:Cod α) (k:Nat) (t:TypeId) (n:Int) (acc:List α) (r:List Wd):LOut:=some (.exit 0,[.sl (rOf C acc) (.tok 0)],⟨[[.sl (rOf cW r) .non,.int .i64 n]],[(acc.length,k,t)],[138]⟩)
def qjy {α:Type} (k:Nat) (t:TypeId) (n:Int) (acc:List α) (r:List Wd):LOut:=some (.pan (mfit (plc n r)),[],⟨[[.sl (rOf cW r) .non,.int .i64 n]],[(acc.length,k,t)],[138]⟩)
theorem qAt (n:Int):([[.int .i64 n]]:List (List PV))=rOf cI [n]:=rfl
theorem qvh (l:List Int) (n:Int):rOf cI l++[[.int .i64 n]]=rOf cI (l++[n]):=by rw [qef];rfl
attribute [simp] qyD qzj qwq qpB quq qwL qwd qt8 quv qwy que qwF qo2 qoO qo6 qoS qoi qoh qpf qn7
def qsv (n:Int) (acc:List Tm) (r:List Wd):LOut:=qgS [.ptr 0 0,.mth 113 [.ptr 0 0],.sl (rOf cM acc) (.tok 0)] ⟨[[.sl (rOf cW r) .non,.int .i64 n]],[(acc.length,5,94)],[138]⟩
def qI3 (n:Int) (acc:List Tm) (r:List Wd):LOut:=qgS [.ptr 0 0,.mth 113 [.ptr 0 0],.sl (rOf cM acc) .full] (bst r n)
theorem qKm (n:Int) (acc:List Tm) (r:List Wd) (h:acc.length+r.length≤65537):qsv n acc r=mstep (qsv n) (qjW cM 5 94 n) (qjy 5 94 n acc) acc (qdc qek r):=by
 conv=>lhs;rw [qsv,qK4]
 unfold qdc;cases hw:wIs 6 [44] r with
 |false=>simp [qkS,↓Tr.run_ite,qaT hw,qaL hw,qav,qjW,mstep]
 |true=>cases r with
  |nil=>cases hw
  |cons w r =>
   skip
   simp only [qbb hw,qap];cases hp:qek r with
   |no r'=>simp [qkS,↓Tr.run_ite,qaI hw,hp,qjy,mstep]
   |ok a r' =>
    obtain⟨x1,x2,x3,x4,x5⟩:=a;simp only [List.length_cons] at h
    simp [qkS,↓Tr.run_ite,qaI hw,hp,qav,mstep,qsv,];rw [if_pos (by omega)]
    simp
theorem qLn (n:Int) (acc:List Tm) (r:List Wd) (h:acc.length+r.length≤65537):qI3 n acc r=mstep (qsv n) (qji cM n) (qjU n) acc (qdc qek r):=by
 conv=>lhs;rw [qI3,bst,qMJ]
 unfold qdc;cases hw:wIs 6 [44] r with
 |false=>simp [qqY,↓Tr.run_ite,qaT hw,qaL hw,qav,qji,mstep]
 |true=>cases r with
  |nil=>cases hw
  |cons w r =>
   skip
   simp only [qbb hw,qap];cases hp:qek r with
   |no r'=>simp [qqY,↓Tr.run_ite,qaI hw,hp,qjU,mstep]
   |ok a r' =>
    obtain⟨x1,x2,x3,x4,x5⟩:=a;simp only [List.length_cons] at h
    simp [qqY,↓Tr.run_ite,qaI hw,hp,qav,mstep,qsv,];rw [if_pos (by omega)]
    simp
theorem qJT {l:List Wd} (hl:l.length≤65536) (n:Int):qr7 (rOf cW l) n=some (bOut (fun a=>.sl (rOf cM a) .non) n (pRow qek l)):=by
 unfold pRow;rw [qco];unfold qap;cases hp:qek l with
 |no r=>simp [qr7,qx5,↓Tr.run_ite,hp]
 |ok a r =>
  have hr:=qnT qhB hp;have H:=qhu qhB (qLn n) (qKm n) l.length [a] r hr (by simp only [List.length_singleton];omega)
  simp only [List.nil_append];obtain⟨x1,x2,x3,x4,x5⟩:=a;cases ht:qi8 qek l.length [(x1,x2,x3,x4,x5)] r with
  |ok bs r' =>
   rw [ht] at H;rcases H with H|H<;>simp [qr7,qx5,qdj,↓Tr.run_ite,hp,show qgS _ ⟨[[.sl (rOf cW r) .non,.int .i64 n]],[],[138]⟩=_ from H,qji,qjW]
  |no r' =>
   rw [ht] at H;rcases H with H|⟨_,H⟩<;>simp [qr7,qx5,qdj,↓Tr.run_ite,hp,show qgS _ ⟨[[.sl (rOf cW r) .non,.int .i64 n]],[],[138]⟩=_ from H,qjU,qjy]
attribute [simp] qyr qzb qwA qpj qtJ qt1
theorem qJU {l:List Wd} (hl:l.length≤65536) (n:Int):qnP (rOf cW l) n=some (bOut (fun a=>.sl (rOf cM a) .non) n (qjq qek l)):=by
 unfold qjq;cases h1:qb9 6 [40] l with
 |no r=>simp [qnP,qpZ,↓Tr.run_ite,qaR h1,h1]
 |ok w l =>
  obtain⟨rfl,-⟩:=qpC h1;simp only [List.length_cons] at hl;rw [qaS h1];cases h2:wIs 6 [41] l with
  |true=>cases l with
   |nil=>cases h2
   |cons w l=>simp [qnP,qpZ,↓Tr.run_ite,h1,qbb h2,qaI h2,qav]
  |false =>
   have k1:=qJT (l:=l) (by omega) n
   rw [qaT h2];cases h3:pRow qek l with
   |no r=>simp [qnP,qpZ,↓Tr.run_ite,h1,qaL h2,qaR h3,k1,h3]
   |ok a r =>
    rw [qaS h3];cases h4:qb9 6 [41] r with
    |no r=>simp [qnP,qpZ,↓Tr.run_ite,h1,qaL h2,qaR h4,k1,h3,h4]
    |ok w r=>simp [qnP,qpZ,↓Tr.run_ite,h1,qaL h2,qaS h4,k1,h3,h4,qav]
attribute [simp] qzs qyw qui qoM qup qvZ quf qv8 qvX qvW quj qul qpA qpd qnY qpL qok qpM qpI qoq
def qsH (n:Int) (acc:List Int) (r:List Wd):LOut:=qgU [.ptr 0 0,.mth 138 [.ptr 0 0],.sl (rOf cI acc) (.tok 0)] ⟨[[.sl (rOf cW r) .non,.int .i64 n]],[(acc.length,1,112)],[138]⟩
def qJh (n:Int) (acc:List Int) (r:List Wd):LOut:=qgU [.ptr 0 0,.mth 138 [.ptr 0 0],.sl (rOf cI acc) .full] (bst r n)
theorem qKJ (n:Int) (acc:List Int) (r:List Wd) (h:acc.length+r.length≤65537):qsH n acc r=mstep (qsH n) (qjW cI 1 112 n) (qjy 1 112 n acc) acc (qdc pTyp r):=by
 conv=>lhs;rw [qsH,qK9]
 unfold qdc;cases hw:wIs 6 [44] r with
 |false=>simp [qmg,↓Tr.run_ite,qaT hw,qaL hw,qav,qjW,mstep]
 |true=>cases r with
  |nil=>cases hw
  |cons w r =>
   skip
   simp only [qbb hw,qap];cases hp:pTyp r with
   |no r'=>simp [qmg,↓Tr.run_ite,qaI hw,hp,qjy,mstep]
   |ok a r' =>
    skip
    simp only [List.length_cons] at h
    simp [qmg,↓Tr.run_ite,qaI hw,hp,qav,mstep,qsH,qAt,qvh,];rw [if_pos (by omega)]
    simp
theorem qKn (n:Int) (acc:List Int) (r:List Wd) (h:acc.length+r.length≤65537):qJh n acc r=mstep (qsH n) (qji cI n) (qjU n) acc (qdc pTyp r):=by
 conv=>lhs;rw [qJh,bst,qMB]
 unfold qdc;cases hw:wIs 6 [44] r with
 |false=>simp [qrh,↓Tr.run_ite,qaT hw,qaL hw,qav,qji,mstep]
 |true=>cases r with
  |nil=>cases hw
  |cons w r =>
   skip
   simp only [qbb hw,qap];cases hp:pTyp r with
   |no r'=>simp [qrh,↓Tr.run_ite,qaI hw,hp,qjU,mstep]
   |ok a r' =>
    skip
    simp only [List.length_cons] at h
    simp [qrh,↓Tr.run_ite,qaI hw,hp,qav,mstep,qsH,qAt,qvh,];rw [if_pos (by omega)]
    simp
theorem qMg {l:List Wd} (hl:l.length≤65536) (n:Int):qsl (rOf cW l) n=some (bOut (fun a=>.sl (rOf cI a) .non) n (pRow pTyp l)):=by
 unfold pRow;rw [qco];unfold qap;cases hp:pTyp l with
 |no r=>simp [qsl,qwX,↓Tr.run_ite,hp]
 |ok a r =>
  have hr:=qnT qmc hp;have H:=qhu qmc (qKn n) (qKJ n) l.length [a] r hr (by simp only [List.length_singleton];omega)
  simp only [List.nil_append]
  skip
  cases ht:qi8 pTyp l.length [a] r with
  |ok bs r' =>
   rw [ht] at H;rcases H with H|H<;>simp [qsl,qwX,qdh,↓Tr.run_ite,hp,qAt,qvh,show qgU _ ⟨[[.sl (rOf cW r) .non,.int .i64 n]],[],[138]⟩=_ from H,qji,qjW]
  |no r' =>
   rw [ht] at H;rcases H with H|⟨_,H⟩<;>simp [qsl,qwX,qdh,↓Tr.run_ite,hp,qAt,qvh,show qgU _ ⟨[[.sl (rOf cW r) .non,.int .i64 n]],[],[138]⟩=_ from H,qjU,qjy]
attribute [simp] qyF qzp qt4 qpl qvp qu5
theorem qKo {l:List Wd} (hl:l.length≤65536) (n:Int):qnN (rOf cW l) n=some (bOut (fun a=>.sl (rOf cI a) .non) n (qjq pTyp l)):=by
 unfold qjq;cases h1:qb9 6 [40] l with
 |no r=>simp [qnN,qrB,↓Tr.run_ite,qaR h1,h1]
 |ok w l =>
  obtain⟨rfl,-⟩:=qpC h1;simp only [List.length_cons] at hl;rw [qaS h1];cases h2:wIs 6 [41] l with
  |true=>cases l with
   |nil=>cases h2
   |cons w l=>simp [qnN,qrB,↓Tr.run_ite,h1,qbb h2,qaI h2,qav]
  |false =>
   have k1:=qMg (l:=l) (by omega) n
   rw [qaT h2];cases h3:pRow pTyp l with
   |no r=>simp [qnN,qrB,↓Tr.run_ite,h1,qaL h2,qaR h3,k1,h3]
   |ok a r =>
    rw [qaS h3];cases h4:qb9 6 [41] r with
    |no r=>simp [qnN,qrB,↓Tr.run_ite,h1,qaL h2,qaR h4,k1,h3,h4]
    |ok w r=>simp [qnN,qrB,↓Tr.run_ite,h1,qaL h2,qaS h4,k1,h3,h4,qav]
attribute [simp] qff qeV qdD qdv qdC qdy qdz
@[simp] theorem bparam_law (l:List Wd) (n:Int):qc0 (rOf cW l) n=some (bOut vcP n (qd8 l)):=by
 unfold qd8;cases h1:qb9 2 [] l with
 |no r=>simp [qc0,qlU,↓Tr.run_ite,qaR h1,h1]
 |ok w r =>
  rw [qaS h1];cases h2:pTyp r<;>simp [qc0,qlU,↓Tr.run_ite,qap,qav,h1,h2]
attribute [simp] qy9 qzB qvx qpF qtN qvJ qwl qvg qtM qwe qtZ qut qoY qox qoR qpx qpe qoG qol qoe
def qty (n:Int) (acc:List Pa) (r:List Wd):LOut:=qgY [.ptr 0 0,.mth 140 [.ptr 0 0],.sl (rOf cP acc) (.tok 0)] ⟨[[.sl (rOf cW r) .non,.int .i64 n]],[(acc.length,2,114)],[138]⟩
def qJd (n:Int) (acc:List Pa) (r:List Wd):LOut:=qgY [.ptr 0 0,.mth 140 [.ptr 0 0],.sl (rOf cP acc) .full] (bst r n)
theorem qJt (n:Int) (acc:List Pa) (r:List Wd) (h:acc.length+r.length≤65537):qty n acc r=mstep (qty n) (qjW cP 2 114 n) (qjy 2 114 n acc) acc (qdc qd8 r):=by
 conv=>lhs;rw [qty,qJ4]
 unfold qdc;cases hw:wIs 6 [44] r with
 |false=>simp [qlE,↓Tr.run_ite,qaT hw,qaL hw,qav,qjW,mstep]
 |true=>cases r with
  |nil=>cases hw
  |cons w r =>
   skip
   simp only [qbb hw,qap];cases hp:qd8 r with
   |no r'=>simp [qlE,↓Tr.run_ite,qaI hw,hp,qjy,mstep]
   |ok a r' =>
    obtain⟨x1,x2⟩:=a;simp only [List.length_cons] at h
    simp [qlE,↓Tr.run_ite,qaI hw,hp,qav,mstep,qty,qBJ,qv4,];rw [if_pos (by omega)]
    simp
theorem qLH (n:Int) (acc:List Pa) (r:List Wd) (h:acc.length+r.length≤65537):qJd n acc r=mstep (qty n) (qji cP n) (qjU n) acc (qdc qd8 r):=by
 conv=>lhs;rw [qJd,bst,qNl]
 unfold qdc;cases hw:wIs 6 [44] r with
 |false=>simp [qrF,↓Tr.run_ite,qaT hw,qaL hw,qav,qji,mstep]
 |true=>cases r with
  |nil=>cases hw
  |cons w r =>
   skip
   simp only [qbb hw,qap];cases hp:qd8 r with
   |no r'=>simp [qrF,↓Tr.run_ite,qaI hw,hp,qjU,mstep]
   |ok a r' =>
    obtain⟨x1,x2⟩:=a;simp only [List.length_cons] at h
    simp [qrF,↓Tr.run_ite,qaI hw,hp,qav,mstep,qty,qBJ,qv4,];rw [if_pos (by omega)]
    simp
theorem qKh {l:List Wd} (hl:l.length≤65536) (n:Int):qsd (rOf cW l) n=some (bOut (fun a=>.sl (rOf cP a) .non) n (pRow qd8 l)):=by
 unfold pRow;rw [qco];unfold qap;cases hp:qd8 l with
 |no r=>simp [qsd,qw3,↓Tr.run_ite,hp]
 |ok a r =>
  have hr:=qnT qfw hp;have H:=qhu qfw (qLH n) (qJt n) l.length [a] r hr (by simp only [List.length_singleton];omega)
  simp only [List.nil_append];obtain⟨x1,x2⟩:=a;cases ht:qi8 qd8 l.length [(x1,x2)] r with
  |ok bs r' =>
   rw [ht] at H;rcases H with H|H<;>simp [qsd,qw3,qdf,↓Tr.run_ite,hp,qBJ,qv4,show qgY _ ⟨[[.sl (rOf cW r) .non,.int .i64 n]],[],[138]⟩=_ from H,qji,qjW]
  |no r' =>
   rw [ht] at H;rcases H with H|⟨_,H⟩<;>simp [qsd,qw3,qdf,↓Tr.run_ite,hp,qBJ,qv4,show qgY _ ⟨[[.sl (rOf cW r) .non,.int .i64 n]],[],[138]⟩=_ from H,qjU,qjy]
attribute [simp] qyS qz0 qvO qo9 qt5 qtH
theorem qKL {l:List Wd} (hl:l.length≤65536) (n:Int):qnO (rOf cW l) n=some (bOut (fun a=>.sl (rOf cP a) .non) n (qjq qd8 l)):=by
 unfold qjq;cases h1:qb9 6 [40] l with
 |no r=>simp [qnO,qqt,↓Tr.run_ite,qaR h1,h1]
 |ok w l =>
  obtain⟨rfl,-⟩:=qpC h1;simp only [List.length_cons] at hl;rw [qaS h1];cases h2:wIs 6 [41] l with
  |true=>cases l with
   |nil=>cases h2
   |cons w l=>simp [qnO,qqt,↓Tr.run_ite,h1,qbb h2,qaI h2,qav]
  |false =>
   have k1:=qKh (l:=l) (by omega) n
   rw [qaT h2];cases h3:pRow qd8 l with
   |no r=>simp [qnO,qqt,↓Tr.run_ite,h1,qaL h2,qaR h3,k1,h3]
   |ok a r =>
    rw [qaS h3];cases h4:qb9 6 [41] r with
    |no r=>simp [qnO,qqt,↓Tr.run_ite,h1,qaL h2,qaR h4,k1,h3,h4]
    |ok w r=>simp [qnO,qqt,↓Tr.run_ite,h1,qaL h2,qaS h4,k1,h3,h4,qav]
attribute [simp] qeh qdR qc8 qcT qc3 qd7 qcv qyx qAg quJ qv0 qu2 qu7 quG qvz qpn qpJ qoL qlB qlz qeQ qfp qeT qfu qeU qfC qfc qit qih qfn qii qif qfg qfs qe6 qfv qiH qlo qlu qht qfB qft qg5 qhh qhv qlD qqE qpQ qkH qiT qkV ql1 qkU qiD ql9 qlN qim qe0 qh9 qie qiO qzm qyN qu8 qoJ qo0 qvV qwE quL
theorem qhC {l:List Wd} (hl:l.length≤65536) (n:Int):qeM (rOf cW l) n=some (bOut vcA n (qmI l)):=by
 unfold qmI;cases h1:qnM l with
 |no r=>simp [qeM,qoB,↓Tr.run_ite,qaR h1,h1]
 |ok a r =>
  have hr:=qnT qc7 h1;have k:=qJU (l:=r) (by omega) n
  rw [qaS h1];cases h2:qjq qek r<;>simp [qeM,qoB,↓Tr.run_ite,qap,qav,h1,h2,k]
def opL:List (List UInt8):=[[61],[33,61],[60],[60,61],[62],[62,61]]
def opV (i:Nat) (l:List Wd) (n:Int):LOut:=qpU [.ptr 0 0,.sl (rOf cS opL) .full,.int .i64 6,.int .i64 i] (bst l n)
theorem qCV {i:Nat} {t:List UInt8} (h:opL[i]?=some t) {w:Wd} {l:List Wd} (hw:wIs 6 t (w::l)=true) (n:Int):opV i (w::l) n=some (.ret,[.int .i64 (i+1:Nat)],bst l n):=by
 obtain⟨h3,h4⟩:=List.getElem?_eq_some_iff.1 h;have hi:i < 6:=h3;have h2:((i:Nat):Int) < 6:=by omega
 unfold opV bst;rw [qD4];simp [qrp,↓Tr.run_ite,h4,qaI hw,qa1 (show i < 9223372036854775807 by omega),h2,h3]
theorem qDb {i:Nat} {t:List UInt8} (h:opL[i]?=some t) {l:List Wd} (hw:wIs 6 t l=false) (n:Int):opV i l n=opV (i+1) l n:=by
 obtain⟨h3,h4⟩:=List.getElem?_eq_some_iff.1 h;have hi:i < 6:=h3;have h2:((i:Nat):Int) < 6:=by omega
 unfold opV bst
 conv=>lhs;rw [qD4]
 simp [qrp,↓Tr.run_ite,h4,qaL hw,qa1 (show i < 9223372036854775807 by omega),h2,h3]
theorem qNw (l:List Wd) (n:Int):opV 6 l n=some (.exit 0,[.ptr 0 0],bst l n):=by
 unfold opV bst;rw [qD4];simp [qrp,↓Tr.run_ite]
@[simp] theorem bop_law (l:List Wd) (n:Int):qsi (rOf cW l) n=some (bOut (.int .i64) n (pOp l)):=by
 have e:∀ x,opV 0 l n=x→qpU [.ptr 0 0,.sl (rOf cS opL) .full,.int .i64 6,.int .i64 0] (bst l n)=x:=fun x h=>h
 have fin:∀ i a r,opV 0 l n=some (.ret,[.int .i64 ((i+1:Nat):Int)],bst r n)→((i+1:Nat):Int)=a→qsi (rOf cW l) n=some (.val (.int .i64 a),bst r n):=by
  intro i a r h ha;have h:=e _ h;simp only [opL,bst] at h
  simp [qsi,qAF,↓Tr.run_ite,qr0,h,← ha]
 unfold pOp;cases h1:wIs 6 [61] l with
 |true=>cases l with
  |nil=>cases h1
  |cons w l=>rw [qbb h1];exact fin 0 1 l (qCV rfl h1 n) rfl
 |false =>
  have f1:=qDb (i:=0) rfl h1 n;rw [qaT h1];cases h2:wIs 6 [33,61] l with
  |true=>cases l with
   |nil=>cases h2
   |cons w l=>rw [qbb h2];exact fin 1 2 l (f1.trans (qCV rfl h2 n)) rfl
  |false =>
   have f2:=f1.trans (qDb (i:=1) rfl h2 n);rw [qaT h2];cases h3:wIs 6 [60] l with
   |true=>cases l with
    |nil=>cases h3
    |cons w l=>rw [qbb h3];exact fin 2 3 l (f2.trans (qCV rfl h3 n)) rfl
   |false =>
    have f3:=f2.trans (qDb (i:=2) rfl h3 n);rw [qaT h3];cases h4:wIs 6 [60,61] l with
    |true=>cases l with
     |nil=>cases h4
     |cons w l=>rw [qbb h4];exact fin 3 4 l (f3.trans (qCV rfl h4 n)) rfl
    |false =>
     have f4:=f3.trans (qDb (i:=3) rfl h4 n);rw [qaT h4];cases h5:wIs 6 [62] l with
     |true=>cases l with
      |nil=>cases h5
      |cons w l=>rw [qbb h5];exact fin 4 5 l (f4.trans (qCV rfl h5 n)) rfl
     |false =>
      have f5:=f4.trans (qDb (i:=4) rfl h5 n);rw [qaT h5];cases h6:wIs 6 [62,61] l with
      |true=>cases l with
       |nil=>cases h6
       |cons w l=>rw [qbb h6];exact fin 5 6 l (f5.trans (qCV rfl h6 n)) rfl
      |false =>
       have h:=e _ ((f5.trans (qDb (i:=5) rfl h6 n)).trans (qNw l n));simp only [opL,bst] at h
       rw [qaT h6];simp [qsi,qAF,↓Tr.run_ite,qr0,h,qlZ]
theorem qgI {l:List Wd} (hl:l.length≤65536) (n:Int):qbv (rOf cW l) n=some (bOut vcL n (pLit l)):=by
 unfold pLit;cases h1:wIs 1 [110,111,116] l with
 |true=>cases l with
  |nil=>cases h1
  |cons w l =>
   simp only [List.length_cons] at hl;have k:=qhC (l:=l) (by omega) n
   rw [qbb h1];cases h2:qmI l<;>simp [qbv,qj9,↓Tr.run_ite,qaI h1,qap,qav,tm0,h2,k]
 |false =>
  rw [qaT h1];cases h2:wNm l with
  |true =>
   have k:=qhC hl n;unfold pCh;rw [h2];simp only [if_true];cases h3:qmI l<;>simp [qbv,qj9,↓Tr.run_ite,qaL h1,qap,qav,tm0,h2,h3,k]
  |false =>
   rw [ch_f h2];cases h3:qek l with
   |no r=>simp [qbv,qj9,↓Tr.run_ite,qaL h1,h2,h3,qaR h3]
   |ok a r =>
    rw [qaS h3];cases h4:pOp r with
    |no r=>simp [qbv,qj9,↓Tr.run_ite,qaL h1,h2,h3,h4,qaR h4]
    |ok o r =>
     rw [qaS h4];cases h5:qek r<;>simp [qbv,qj9,↓Tr.run_ite,qaL h1,h2,h3,h4,h5,qap,qav]
theorem qf5 {l:List Wd} (hl:l.length≤65536) (n:Int):qgX (rOf cW l) n=some (bOut vcAc n (pAct l)):=by
 unfold pAct;cases h1:wIs 6 [43] l with
 |true=>cases l with
  |nil=>cases h1
  |cons w l =>
   simp only [List.length_cons] at hl;have k:=qhC (l:=l) (by omega) n
   rw [qbb h1];cases h2:qmI l<;>simp [qgX,qqw,↓Tr.run_ite,qaI h1,qap,qav,h2,k]
 |false =>
  rw [qaT h1];cases h2:qb9 6 [45] l with
  |no r=>simp [qgX,qqw,↓Tr.run_ite,qaL h1,h2,qaR h2]
  |ok w l =>
   obtain⟨rfl,-⟩:=qpC h2;simp only [List.length_cons] at hl;have k:=qhC (l:=l) (by omega) n
   rw [qaS h2];cases h3:qmI l<;>simp [qgX,qqw,↓Tr.run_ite,qaL h1,qap,qav,h2,h3,k]
attribute [simp] qzA qy6 qvN qoH qvc quF qtB qvT qu6 qt9 qwn quD qop qoo qo5 qpv qpg qoZ qpy qoW
def qs1 (n:Int) (acc:List Li) (r:List Wd):LOut:=qgT [.ptr 0 0,.mth 108 [.ptr 0 0],.sl (rOf cL acc) (.tok 0)] ⟨[[.sl (rOf cW r) .non,.int .i64 n]],[(acc.length,14,96)],[138]⟩
def qIZ (n:Int) (acc:List Li) (r:List Wd):LOut:=qgT [.ptr 0 0,.mth 108 [.ptr 0 0],.sl (rOf cL acc) .full] (bst r n)
theorem qJS (n:Int) (acc:List Li) (r:List Wd) (h:acc.length+r.length≤65537):qs1 n acc r=mstep (qs1 n) (qjW cL 14 96 n) (qjy 14 96 n acc) acc (qdc pLit r):=by
 conv=>lhs;rw [qs1,qJm]
 unfold qdc;cases hw:wIs 6 [44] r with
 |false=>simp [ql8,↓Tr.run_ite,qaT hw,qaL hw,qav,qjW,mstep]
 |true=>cases r with
  |nil=>cases hw
  |cons w r =>
   have hl:r.length≤65536:=by simp only [List.length_cons] at h;omega
   simp only [qbb hw,qap];cases hp:pLit r with
   |no r'=>simp [ql8,↓Tr.run_ite,qaI hw,hp,qjy,mstep,qgI hl]
   |ok a r' =>
    obtain⟨x1,⟨x2,x3⟩,x4,⟨x5,x6,x7,x8,x9⟩,⟨y5,y6,y7,y8,y9⟩⟩:=a;simp only [List.length_cons] at h
    simp [ql8,↓Tr.run_ite,qaI hw,hp,qav,mstep,qs1,qAp,qtY,qgI hl];rw [if_pos (by omega)]
    simp
theorem qJW (n:Int) (acc:List Li) (r:List Wd) (h:acc.length+r.length≤65537):qIZ n acc r=mstep (qs1 n) (qji cL n) (qjU n) acc (qdc pLit r):=by
 conv=>lhs;rw [qIZ,bst,qNm]
 unfold qdc;cases hw:wIs 6 [44] r with
 |false=>simp [qpV,↓Tr.run_ite,qaT hw,qaL hw,qav,qji,mstep]
 |true=>cases r with
  |nil=>cases hw
  |cons w r =>
   have hl:r.length≤65536:=by simp only [List.length_cons] at h;omega
   simp only [qbb hw,qap];cases hp:pLit r with
   |no r'=>simp [qpV,↓Tr.run_ite,qaI hw,hp,qjU,mstep,qgI hl]
   |ok a r' =>
    obtain⟨x1,⟨x2,x3⟩,x4,⟨x5,x6,x7,x8,x9⟩,⟨y5,y6,y7,y8,y9⟩⟩:=a;simp only [List.length_cons] at h
    simp [qpV,↓Tr.run_ite,qaI hw,hp,qav,mstep,qs1,qAp,qtY,qgI hl];rw [if_pos (by omega)]
    simp
theorem qKS {l:List Wd} (hl:l.length≤65536) (n:Int):qse (rOf cW l) n=some (bOut (fun a=>.sl (rOf cL a) .non) n (pRow pLit l)):=by
 unfold pRow;rw [qco];unfold qap;cases hp:pLit l with
 |no r=>simp [qse,qxS,↓Tr.run_ite,hp,qgI hl]
 |ok a r =>
  have hr:=qnT qpw hp;have H:=qhu qpw (qJW n) (qJS n) l.length [a] r hr (by simp only [List.length_singleton];omega)
  simp only [List.nil_append];obtain⟨x1,⟨x2,x3⟩,x4,⟨x5,x6,x7,x8,x9⟩,⟨y5,y6,y7,y8,y9⟩⟩:=a;cases ht:qi8 pLit l.length [(x1,(x2,x3),x4,(x5,x6,x7,x8,x9),(y5,y6,y7,y8,y9))] r with
  |ok bs r' =>
   rw [ht] at H;rcases H with H|H<;>simp [qse,qxS,qdg,↓Tr.run_ite,hp,qAp,qtY,qgI hl,show qgT _ ⟨[[.sl (rOf cW r) .non,.int .i64 n]],[],[138]⟩=_ from H,qji,qjW]
  |no r' =>
   rw [ht] at H;rcases H with H|⟨_,H⟩<;>simp [qse,qxS,qdg,↓Tr.run_ite,hp,qAp,qtY,qgI hl,show qgT _ ⟨[[.sl (rOf cW r) .non,.int .i64 n]],[],[138]⟩=_ from H,qjU,qjy]
attribute [simp] qz6 qyX qwf qpo qvQ qt2 qwk qvY quP quM qwI qwj qoP qpi qph qo1 qpa qoF qn5 qn4
def qtb (n:Int) (acc:List Ac) (r:List Wd):LOut:=qgW [.ptr 0 0,.mth 142 [.ptr 0 0],.sl (rOf cAc acc) (.tok 0)] ⟨[[.sl (rOf cW r) .non,.int .i64 n]],[(acc.length,3,116)],[138]⟩
def qJf (n:Int) (acc:List Ac) (r:List Wd):LOut:=qgW [.ptr 0 0,.mth 142 [.ptr 0 0],.sl (rOf cAc acc) .full] (bst r n)
theorem qJP (n:Int) (acc:List Ac) (r:List Wd) (h:acc.length+r.length≤65537):qtb n acc r=mstep (qtb n) (qjW cAc 3 116 n) (qjy 3 116 n acc) acc (qdc pAct r):=by
 conv=>lhs;rw [qtb,qLI]
 unfold qdc;cases hw:wIs 6 [44] r with
 |false=>simp [qkL,↓Tr.run_ite,qaT hw,qaL hw,qav,qjW,mstep]
 |true=>cases r with
  |nil=>cases hw
  |cons w r =>
   have hl:r.length≤65536:=by simp only [List.length_cons] at h;omega
   simp only [qbb hw,qap];cases hp:pAct r with
   |no r'=>simp [qkL,↓Tr.run_ite,qaI hw,hp,qjy,mstep,qf5 hl]
   |ok a r' =>
    obtain⟨x1,⟨x2,x3⟩⟩:=a;simp only [List.length_cons] at h
    simp [qkL,↓Tr.run_ite,qaI hw,hp,qav,mstep,qtb,qvB,qot,qf5 hl];rw [if_pos (by omega)]
    simp
theorem qK1 (n:Int) (acc:List Ac) (r:List Wd) (h:acc.length+r.length≤65537):qJf n acc r=mstep (qtb n) (qji cAc n) (qjU n) acc (qdc pAct r):=by
 conv=>lhs;rw [qJf,bst,qMv]
 unfold qdc;cases hw:wIs 6 [44] r with
 |false=>simp [qrc,↓Tr.run_ite,qaT hw,qaL hw,qav,qji,mstep]
 |true=>cases r with
  |nil=>cases hw
  |cons w r =>
   have hl:r.length≤65536:=by simp only [List.length_cons] at h;omega
   simp only [qbb hw,qap];cases hp:pAct r with
   |no r'=>simp [qrc,↓Tr.run_ite,qaI hw,hp,qjU,mstep,qf5 hl]
   |ok a r' =>
    obtain⟨x1,⟨x2,x3⟩⟩:=a;simp only [List.length_cons] at h
    simp [qrc,↓Tr.run_ite,qaI hw,hp,qav,mstep,qtb,qvB,qot,qf5 hl];rw [if_pos (by omega)]
    simp
theorem qKT {l:List Wd} (hl:l.length≤65536) (n:Int):qsc (rOf cW l) n=some (bOut (fun a=>.sl (rOf cAc a) .non) n (pRow pAct l)):=by
 unfold pRow;rw [qco];unfold qap;cases hp:pAct l with
 |no r=>simp [qsc,qxI,↓Tr.run_ite,hp,qf5 hl]
 |ok a r =>
  have hr:=qnT qoX hp;have H:=qhu qoX (qK1 n) (qJP n) l.length [a] r hr (by simp only [List.length_singleton];omega)
  simp only [List.nil_append];obtain⟨x1,⟨x2,x3⟩⟩:=a;cases ht:qi8 pAct l.length [(x1,(x2,x3))] r with
  |ok bs r' =>
   rw [ht] at H;rcases H with H|H<;>simp [qsc,qxI,qdi,↓Tr.run_ite,hp,qvB,qot,qf5 hl,show qgW _ ⟨[[.sl (rOf cW r) .non,.int .i64 n]],[],[138]⟩=_ from H,qji,qjW]
  |no r' =>
   rw [ht] at H;rcases H with H|⟨_,H⟩<;>simp [qsc,qxI,qdi,↓Tr.run_ite,hp,qvB,qot,qf5 hl,show qgW _ ⟨[[.sl (rOf cW r) .non,.int .i64 n]],[],[138]⟩=_ from H,qjU,qjy]
theorem qyk {l:List Wd} (hl:l.length≤65536) (n:Int):qcN (rOf cW l) n=some (bOut vcRu n (qkg l)):=by
 have k1:=qhC hl n;unfold qkg;cases h1:qmI l with
 |no r=>simp [qcN,qh1,↓Tr.run_ite,k1,h1,qaR h1]
 |ok a r =>
  have hr:=qnT qdV h1;rw [qaS h1];cases h2:wIs 6 [58,45] r with
  |true=>cases r with
   |nil=>cases h2
   |cons w r =>
    simp only [List.length_cons] at hr;have k2:=qKS (l:=r) (by omega) n
    rw [qbb h2];cases h3:pRow pLit r with
    |no r=>simp [qcN,qh1,↓Tr.run_ite,k1,h1,qaI h2,k2,h3,qaR h3]
    |ok b r =>
     rw [qaS h3];unfold pDot;cases h4:qb9 6 [46] r<;>simp [qcN,qh1,↓Tr.run_ite,k1,h1,qaI h2,k2,h3,h4,qap,qav]
  |false =>
   rw [qaT h2];unfold pDot;cases h4:qb9 6 [46] r<;>simp [qcN,qh1,↓Tr.run_ite,k1,h1,qaL h2,h4,qap,qav]
theorem qD3 {w:Wd} {l:List Wd} (hl:l.length≤65536) (n:Int):qde (rOf cW (w::l)) n=some (bOut vcD n (qxQ (w::l))):=by
 have e:qxQ (w::l)=qap qnM (fun x=>qap (qjq pTyp) fun t=>pDot (x,decide (w.2.1=[98,97,115,101]),t)) l:=rfl
 rw [e];cases h1:qnM l with
 |no r=>simp [qde,qlg,↓Tr.run_ite,h1,qaR h1]
 |ok a r =>
  have hr:=qnT qc7 h1;have k2:=qKo (l:=r) (by omega) n
  rw [qaS h1];cases h3:qjq pTyp r with
  |no r=>simp [qde,qlg,↓Tr.run_ite,h1,k2,h3,qaR h3]
  |ok b r =>
   rw [qaS h3];unfold pDot;cases h4:qb9 6 [46] r<;>simp [qde,qlg,↓Tr.run_ite,h1,k2,h3,h4,qap,qav]
theorem qKO {w:Wd} {l:List Wd} (hl:l.length≤65536) (n:Int):qmk (rOf cW (w::l)) n=some (bOut vcE n (pOn (w::l))):=by
 have e:pOn (w::l)=qap qnM (fun x=>qap (qjq qd8) fun ps=>pIf 6 [58] (fun _=>qap (pRow pAct) fun b=>pDot (x,ps,b)) (pDot (x,ps,[]))) l:=rfl
 rw [e];cases h1:qnM l with
 |no r=>simp [qmk,qrw,↓Tr.run_ite,h1,qaR h1]
 |ok a r =>
  have hr:=qnT qc7 h1;have k2:=qKL (l:=r) (by omega) n
  rw [qaS h1];cases h3:qjq qd8 r with
  |no r=>simp [qmk,qrw,↓Tr.run_ite,h1,k2,h3,qaR h3]
  |ok b r =>
   have hr3:=qnT (qeR qfw) h3;rw [qaS h3];cases h5:wIs 6 [58] r with
   |true=>cases r with
    |nil=>cases h5
    |cons w r =>
     simp only [List.length_cons] at hr3;have k6:=qKT (l:=r) (by omega) n
     rw [qbb h5];cases h6:pRow pAct r with
     |no r=>simp [qmk,qrw,↓Tr.run_ite,h1,k2,h3,qaI h5,k6,h6,qaR h6]
     |ok b r =>
      rw [qaS h6];unfold pDot;cases h4:qb9 6 [46] r<;>simp [qmk,qrw,↓Tr.run_ite,h1,k2,h3,qaI h5,k6,h6,h4,qap,qav]
   |false =>
    rw [qaT h5];unfold pDot;cases h4:qb9 6 [46] r<;>simp [qmk,qrw,↓Tr.run_ite,h1,k2,h3,qaL h5,h4,qap,qav]
end Go.Pv
set_option maxHeartbeats 4000000
set_option maxRecDepth 200000
set_option linter.unusedSimpArgs false
set_option linter.unusedVariables false
namespace Go.Pv
open Go Go.Proofs
attribute [simp] qrq qq7 ql7 qip qiJ qh5 qkM ql4 qmx qmJ qjK qj4 qka qjg qns qmA qid qje qjz qjG qjA qjm qjt qjI qfL qj5 qfZ qjV qge qin qh4
def bpS (n:Int) (g:Pg) (l:List Wd):Store:=⟨[[.sl (rOf cW l) .non,.int .i64 n],[.sl [] .full,.sl [] .full,.sl [] .full],[.sl (rOf cD g.1) (.tok 0),.sl (rOf cE g.2.1) (.tok 1),.sl (rOf cRu g.2.2) (.tok 2)]],[(g.1.length,3,80),(g.2.1.length,3,85),(g.2.2.length,3,51)],[138,27,27]⟩
def bpV (n:Int) (g:Pg) (l:List Wd):LOut:=qet [.ptr 0 0,.ptr 1 0,.ptr 2 0] (bpS n g l)
theorem qKq (n:Int) (g:Pg):bpV n g []=some (.exit 0,[.ptr 1 0,.ptr 2 0],bpS n g []):=by
 unfold bpV bpS;rw [qum];simp [qbD,↓Tr.run_ite]
theorem qIq (n:Int) (g:Pg) (w:Wd) (r:List Wd) (hb:g.1.length+g.2.1.length+g.2.2.length+(w::r).length≤65536):bpV n g (w::r)=match pOne g (w::r) with
  |.ok g' r'=>bpV n g' r'
  |.no r'=>some (.pan (mfit (plc n r')),[],bpS n g r'):=by
 have hw:(w::r).length≤65536:=by omega
 simp only [List.length_cons] at hb;have hr:r.length≤65536:=by omega
 have kd:=qD3 (w:=w) hr n;have ko:=qKO (w:=w) hr n;have kr:=qyk hw n;have c1:iLt 0 (xLen (rOf cW (w::r)))=true:=by simp
 have dec:isDe (w::r)=true→(bpV n g (w::r)=match pOne g (w::r) with
   |.ok g' r'=>bpV n g' r'
   |.no r'=>some (.pan (mfit (plc n r')),[],bpS n g r')):=by
  intro h1
  conv=>lhs;unfold bpV bpS;rw [qum]
  have e:pOne g (w::r)=qap qxQ (fun d=>qav (g.1++[d],g.2.1,g.2.2)) (w::r):=if_pos h1
  rw [e];have h1:(wIs 1 [98,97,115,101] (w::r) || wIs 1 [118,105,101,119] (w::r))=true:=h1;cases h2:wIs 1 [98,97,115,101] (w::r) with
  |true =>
   cases h3:qxQ (w::r) with
   |no r'=>simp [qbD,↓Tr.run_ite,c1,h2,kd,h3,bpS,qap]
   |ok d r' =>
    obtain⟨x1,x2,x3⟩:=d;simp [qbD,↓Tr.run_ite,c1,h2,kd,h3,bpS,qap,qav,qI5,qGJ,bpV];rw [if_pos (by omega)]
    simp
  |false =>
   rw [h2,Bool.false_or] at h1;cases h3:qxQ (w::r) with
   |no r'=>simp [qbD,↓Tr.run_ite,c1,h1,h2,kd,h3,bpS,qap]
   |ok d r' =>
    obtain⟨x1,x2,x3⟩:=d;simp [qbD,↓Tr.run_ite,c1,h1,h2,kd,h3,bpS,qap,qav,qI5,qGJ,bpV];rw [if_pos (by omega)]
    simp
 cases h1:isDe (w::r) with
 |true=>exact dec h1
 |false =>
  conv=>lhs;unfold bpV bpS;rw [qum]
  have f:=h1;simp only [isDe,Bool.or_eq_false_iff] at f;unfold pOne;rw [ch_f h1];cases h2:wIs 1 [111,110] (w::r) with
  |true =>
   have e:∀ p q:Ps Pg,pCh (wIs 1 [111,110]) p q (w::r)=p (w::r):=fun p q=>if_pos h2
   rw [e];cases h3:pOn (w::r) with
   |no r'=>simp [qbD,↓Tr.run_ite,c1,f.1,f.2,h2,ko,h3,bpS,qap]
   |ok d r' =>
    obtain⟨x1,x2,x3⟩:=d;simp [qbD,↓Tr.run_ite,c1,f.1,f.2,h2,ko,h3,bpS,qap,qav,qM2,qMf,bpV];rw [if_pos (by omega)]
    simp
  |false =>
   rw [ch_f h2];cases h3:qkg (w::r) with
   |no r'=>simp [qbD,↓Tr.run_ite,c1,f.1,f.2,h2,kr,h3,bpS,qap]
   |ok d r' =>
    obtain⟨⟨x1,x2⟩,x3⟩:=d;simp [qbD,↓Tr.run_ite,c1,f.1,f.2,h2,kr,h3,bpS,qap,qav,qLg,qIn,bpV];rw [if_pos (by omega)]
    simp
theorem qHH {g g':Pg} {l r:List Wd} (h:pOne g l=.ok g' r):g'.1.length+g'.2.1.length+g'.2.2.length=g.1.length+g.2.1.length+g.2.2.length+1:=by
 unfold pOne pCh qap qav at h
 split at h
 ·split at h
  ·cases h;simp only [List.length_append,List.length_singleton];omega
  ·cases h
 ·split at h
  ·split at h
   ·cases h;simp only [List.length_append,List.length_singleton];omega
   ·cases h
  ·split at h
   ·cases h;simp only [List.length_append,List.length_singleton];omega
   ·cases h
theorem qF0 (n:Int):∀ (m:Nat) (g:Pg) (l:List Wd),l.length < m→g.1.length+g.2.1.length+g.2.2.length+l.length≤65536→match qqi m g l with
  |.ok g' r=>bpV n g l=some (.exit 0,[.ptr 1 0,.ptr 2 0],bpS n g' r)
  |.no r=>∃ g',bpV n g l=some (.pan (mfit (plc n r)),[],bpS n g' r)
 |0,_,_,h,_=>absurd h (Nat.not_lt_zero _)
 |m+1,g,[],h,hb=>qKq n g
 |m+1,g,w::r,h,hb=>by
  rw [qxE (by simp),qIq n g w r hb]
  cases h1:pOne g (w::r) with
  |no r'=>rw [qaR h1];exact⟨g,rfl⟩
  |ok g' r' =>
   rw [qaS h1];have k1:=((qF4 g).of h1).1;have k2:=qHH h1;exact qF0 n m g' r' (by omega) (by omega)
theorem qEb {l:List Wd} (hl:l.length≤65536) (n:Int):qdG (rOf cW l) n=some (bOut vcPg n (qnU l)):=by
 have H:=qF0 n (l.length+1) ([],[],[]) l (Nat.lt_succ_self _) (by simpa using hl)
 unfold qnU;cases h:qqi (l.length+1) ([],[],[]) l with
 |ok g r =>
  rw [h] at H;have H:qet _ _=_:=H;simp only [bpS,qEI,List.length_nil] at H;simp [qdG,qod,qaK,↓Tr.run_ite,H]
 |no r =>
  rw [h] at H;obtain⟨g,H⟩:=H;have H:qet _ _=_:=H;simp only [bpS,qEI,List.length_nil] at H;simp [qdG,qod,qaK,↓Tr.run_ite,H]
end Go.Pv
set_option maxHeartbeats 4000000
set_option linter.unusedSimpArgs false
set_option linter.unusedVariables false
namespace Go.Pv
def lexG (f i:Nat) (s:qU):List Wd×Option Nat:=lexL f (i+gapL false s) (s.drop (gapL false s))
theorem qFr (f i:Nat) {s:List UInt8} (h:s≠[]):lexL (f+1) i s=match wdL s with
  |none=>([],some i)
  |some (k,m,v)=>((k,s.take m,v,(i:Int))::(lexG f (i+m) (s.drop m)).1,(lexG f (i+m) (s.drop m)).2):=by
 obtain⟨c,t,rfl⟩:=List.exists_cons_of_ne_nil h;unfold lexG;simp only [List.drop_drop];rfl
end Go.Pv
set_option maxHeartbeats 4000000
set_option maxRecDepth 200000
set_option linter.unusedSimpArgs false
set_option linter.unusedVariables false
namespace Go.Pv
open Go Go.Proofs
theorem qDS:∀ (f i:Nat) (s:qU) (w:Wd),w∈(lexL f i s).1→(i:Int)≤w.2.2.2∧w.2.2.2≤((i+s.length:Nat):Int)
 |0,_,_,_,h=>by simp [lexL] at h
 |f+1,i,s,w,h=>by
  cases hs:s with
  |nil=>rw [hs] at h;simp [lexL] at h
  |cons c t =>
   have hne:s≠[]:=by rw [hs];simp
   rw [qFr f i hne] at h
   rw [← hs];cases hw:wdL s with
   |none=>rw [hw] at h;simp at h
   |some x =>
    obtain⟨k,m,v⟩:=x;rw [hw] at h
    obtain⟨m1,m2⟩:=qwp hw;simp only [List.mem_cons] at h
    rcases h with rfl|h
    ·exact⟨Int.le_refl _,by simp only;omega⟩
    ·have hg:=qrm false (s.drop m);have:=qDS f (i+m+gapL false (s.drop m)) ((s.drop m).drop (gapL false (s.drop m))) w h;simp only [List.length_drop] at this hg;omega
theorem qIp {s:List UInt8} {l:List Wd} {o:Option Nat} (h:qcE s=(l,o)) {w:Wd} (hw:w∈l):0≤w.2.2.2∧w.2.2.2≤(s.length:Int):=by
 have:=qDS (s.length+1) (gapL false s) (s.drop (gapL false s)) w (by rw [show lexL (s.length+1) (gapL false s) (s.drop (gapL false s))=qcE s from rfl,h];exact hw)
 have hg:=qrm false s;simp only [List.length_drop] at this;omega
def prs {α:Type} (p:Ps α) (z:α) (s:qU):α×Int×Int:=if 65536 < s.length then (z,0,2) else match qcE s with
 |(_,some a)=>(z,(a:Int),120)
 |(l,none)=>match pEnd (p l) with
  |.ok a _=>(a,0,0)
  |.no r=>(z,plc s.length r,130)
theorem qrV {s:List UInt8} (h:65536 < s.length):(qaB [.str s]).run=some (.tup [.sl [] .non,.int .i64 0,.int .i64 2]):=by
 have e:qdm s=some (.tup [.sl [] .non,.int .i64 0,.int .i64 2]):=by
  unfold qdm qmm;have:iLt 65536 (sLen s)=true:=by simp;omega
  exact Tr.run_t this rfl
 have e0:qfh s=true:=by simp [qfh,qiP,qi0,qeZ,e]
 unfold qaB;simp [e0,qiP,qi0,qeZ,e]
theorem qnL {s:List UInt8} (h:s.length≤65536):(qaB [.str s]).run=some (.tup [.sl (rOf cW (wL s)) .non,.int .i64 (wN s),.int .i64 (wE s)]):=by
 unfold qaB;simp [qzI h,qsu h,qsS h,qte h]
theorem qBv {s:List UInt8} {l:List Wd} {o:Option Nat} (hs:s.length≤65536) (h:qcE s=(l,o)) {u r:List Wd} (hr:l=u++r):(Lit.int .i64 (plc s.length r)).wf=true:=by
 have hb:0≤plc (s.length:Int) r∧plc (s.length:Int) r≤65536:=by
  cases r with
  |nil=>exact⟨Int.natCast_nonneg _,by simp only [plc];omega⟩
  |cons w r =>
   have:=qIp h (w:=w) (by rw [hr];simp)
   exact⟨this.1,by simp only [plc];omega⟩
 generalize plc (s.length:Int) r=x at hb;have h1:IntKind.min .i64=-9223372036854775808:=by decide
 have h2:IntKind.max .i64=9223372036854775807:=by decide
 simp only [Lit.wf,h1,h2,Bool.and_eq_true,decide_eq_true_eq];omega
attribute [simp] qE6 qGt qzt qtI qvi qtA qyM qyT
theorem qLK {l:List Wd} (hl:l.length≤65536) (n:Int):qsf (rOf cW l) n=some (bOut vcPg n (qnU l)):=by
 have k:=qEb hl n;cases h:qnU l<;>simp [qsf,qE5,↓Tr.run_ite,k,h]
theorem qGX (s:qU):outP s=some (.tup [vcPg (prs qnU ([],[],[]) s).1,.int .i64 (prs qnU ([],[],[]) s).2.1,.int .i64 (prs qnU ([],[],[]) s).2.2]):=by
 unfold outP prs;by_cases h:65536 < s.length
 ·rw [if_pos h,qrV h];rfl
 ·rw [if_neg h,qnL (by omega)]
  have hs:s.length≤65536:=by omega
  rcases hw:qcE s with⟨l,o⟩
  cases o with
  |some a =>
   have e1:wN s=(a:Nat):=by unfold wN;rw [hw]
   have e2:wE s=120:=by unfold wE;rw [hw]
   rw [e1,e2];rfl
  |none =>
    have e1:wN s=0:=by unfold wN;rw [hw]
    have e2:wE s=0:=by unfold wE;rw [hw]
    have e3:wL s=l:=by unfold wL;rw [hw]
    rw [e1,e2,e3];have hl:l.length≤65536:=by have:=qIS s;rw [e3] at this;omega
    have k:=qLK hl s.length;have hd:(qkN [.ptr 0 0] ⟨[[.sl (qab (rOf cW l)) .non,.int .i64 s.length]],[],[138]⟩).run=some (bOut vcPg s.length (qnU l)):=by
     unfold qkN;rw [qbf];cases h1:qnU l<;>simp [k,h1]
    show finP _=_
    rw [hd];obtain⟨u,hu⟩:=qG8 l;cases h1:qnU l with
    |no r =>
     rw [h1] at hu;have hu:l=u++r:=hu;simp [finP,qjb,qBv hs hw hu,pEnd,h1]
    |ok a r =>
     rw [h1] at hu;have hu:l=u++r:=hu;cases r with
     |nil=>simp [finP,pEnd,h1]
     |cons w r =>
      have e4:qaa (rOf cW (w::r))=cW.enc w::rOf cW r:=qcf cW (w::r);have e5:qab (cW.enc w::rOf cW r)=rOf cW (w::r):=qbf cW (w::r);have hb:(qds [.ptr 0 0] ⟨[[.sl (rOf cW (w::r)) .non,.int .i64 s.length]],[],[138]⟩).run=some (.pan (mfit (plc s.length (w::r))),bst (w::r) s.length):=by
       unfold qds;simp
      simp only [mfit,bst] at hb;simp [finP,e4,e5,hb,qjb,qBv hs hw hu,pEnd,bst,h1]
attribute [simp] qFX qDZ qyV qun qtX qzM qAe qz2
theorem qKK {l:List Wd} (hl:l.length≤65536) (n:Int):qr5 (rOf cW l) n=some (bOut vcRu n (qkg l)):=by
 have k:=qyk hl n;cases h:qkg l<;>simp [qr5,qFj,↓Tr.run_ite,k,h]
theorem qIF (s:qU):outR s=some (.tup [vcRu (prs qkg (([],[]),[]) s).1,.int .i64 (prs qkg (([],[]),[]) s).2.1,.int .i64 (prs qkg (([],[]),[]) s).2.2]):=by
 unfold outR prs;by_cases h:65536 < s.length
 ·rw [if_pos h,qrV h];rfl
 ·rw [if_neg h,qnL (by omega)]
  have hs:s.length≤65536:=by omega
  rcases hw:qcE s with⟨l,o⟩
  cases o with
  |some a =>
   have e1:wN s=(a:Nat):=by unfold wN;rw [hw]
   have e2:wE s=120:=by unfold wE;rw [hw]
   rw [e1,e2];rfl
  |none =>
    have e1:wN s=0:=by unfold wN;rw [hw]
    have e2:wE s=0:=by unfold wE;rw [hw]
    have e3:wL s=l:=by unfold wL;rw [hw]
    rw [e1,e2,e3];have hl:l.length≤65536:=by have:=qIS s;rw [e3] at this;omega
    have k:=qKK hl s.length;have hd:(qlY [.ptr 0 0] ⟨[[.sl (qab (rOf cW l)) .non,.int .i64 s.length]],[],[138]⟩).run=some (bOut vcRu s.length (qkg l)):=by
     unfold qlY;rw [qbf];cases h1:qkg l<;>simp [k,h1]
    show finR _=_
    rw [hd];obtain⟨u,hu⟩:=good_rule.suf l;cases h1:qkg l with
    |no r =>
     rw [h1] at hu;have hu:l=u++r:=hu;simp [finR,qjb,qBv hs hw hu,pEnd,h1]
    |ok a r =>
     rw [h1] at hu;have hu:l=u++r:=hu;cases r with
     |nil=>simp [finR,pEnd,h1]
     |cons w r =>
      have e4:qaa (rOf cW (w::r))=cW.enc w::rOf cW r:=qcf cW (w::r);have e5:qab (cW.enc w::rOf cW r)=rOf cW (w::r):=qbf cW (w::r);have hb:(qds [.ptr 0 0] ⟨[[.sl (rOf cW (w::r)) .non,.int .i64 s.length]],[],[138]⟩).run=some (.pan (mfit (plc s.length (w::r))),bst (w::r) s.length):=by
       unfold qds;simp
      simp only [mfit,bst] at hb;simp [finR,e4,e5,hb,qjb,qBv hs hw hu,pEnd,bst,h1]
end Go.Pv
set_option maxHeartbeats 4000000
set_option linter.unusedSimpArgs false
set_option linter.unusedVariables false
namespace Go.Pv
section
variable {α β : Type}
end
end Go.Pv
set_option maxHeartbeats 8000000
set_option maxRecDepth 200000
set_option linter.unusedSimpArgs false
set_option linter.unusedVariables false
namespace Go.Pv
open Go Go.Proofs
theorem qHV {ρ:Type} {n:Nat} {V:Nat→ρ} {good:ρ} (hs:∀ i,i < n→V i=V (i+1)) (he:V n=good):V 0=good:=by
 have:∀ k i,i+k=n→V i=good:=by
  intro k
  induction k with
  |zero=>intro i hi;rw [show i=n by omega];exact he
  |succ k ih=>intro i hi;rw [hs i (by omega)];exact ih (i+1) (by omega)
 exact this n 0 (by omega)
attribute [simp] qf4 qdA qfR qjN qjM ql0 qhU qfN qjF qjJ qos qmz qf2 qjr qjB qnZ qnu qfF qkc qjL qgz qjs qjl qwG qqL qiU qm6 qm5 qik qmU qmV qi4 qnp qm1
abbrev prP (s:qU):Pg×Int×Int:=prs qnU ([],[],[]) s
abbrev prR (s:qU):Ru×Int×Int:=prs qkg (([],[]),[]) s
attribute [simp] wP_e qEa wP_n qHS qIN qHs wR_e qDT wR_n qHg qHX qHh qrS qv7 qou qyv qt3 qur qra qzK qpc qAa qpD qud
@[simp] theorem pProg_law (s:qU):qhi s=some (.tup [vcPg (prP s).1,.int .i64 (prP s).2.1,.int .i64 (prP s).2.2]):=by simp [qhi,quy,↓Tr.run_ite,qGX]
@[simp] theorem pRule_law (s:qU):qhp s=some (.tup [vcRu (prR s).1,.int .i64 (prR s).2.1,.int .i64 (prR s).2.2]):=by simp [qhp,qwC,↓Tr.run_ite,qIF]
def xTm:Tm:=(1,[88],0,0,[])
theorem qKC:prR [112,40,88,41,32,58,45,32,113,40,88,44,32,95,41,44,32,88,32,33,61,32,45,51,46]=((([112],[xTm]),[(1,([113],[xTm,(3,[],0,0,[])]),0,tm0,tm0),(3,([],[]),2,xTm,(2,[],1,-3,[]))]),0,0):=by kernel_rfl
theorem qKE:prP [112,40,88,41,32,58,45,32,46]=(([],[],[]),8,130):=by kernel_rfl
attribute [simp] qo7 qmE
@[simp] theorem valive_law:qpp=some (.bool true):=by
 simp [qpp,qqn,↓Tr.run_ite,qKC,qKE]
end Go.Pv
set_option maxHeartbeats 8000000
set_option maxRecDepth 200000
set_option synthInstance.maxSize 4000
set_option synthInstance.maxHeartbeats 400000
set_option linter.unusedSimpArgs false
set_option linter.unusedVariables false
namespace Go.Pv
open Go Go.Proofs
abbrev mI:Nat:=9223372036854775807
def bA (a:At):Prop:=a.2.length≤mI
def bRu (r:Ru):Prop:=bA r.1∧r.2.length≤mI∧∀ x∈r.2,bA x.2.1
def bDe (d:De):Prop:=d.2.2.length≤mI
def bEn (e:En):Prop:=e.2.1.length≤mI∧e.2.2.length≤mI∧∀ x∈e.2.2,bA x.2
def bPg (g:Pg):Prop:=(g.1.length≤mI∧∀ x∈g.1,bDe x)∧(g.2.1.length≤mI∧∀ x∈g.2.1,bEn x)∧(g.2.2.length≤mI∧∀ x∈g.2.2,bRu x)
instance decTm:DecidableEq Tm:=inferInstance
instance decLi:DecidableEq Li:=inferInstance
instance decRu:DecidableEq Ru:=inferInstance
instance decEn:DecidableEq En:=inferInstance
instance decDe:DecidableEq De:=inferInstance
instance decPg:DecidableEq Pg:=inferInstance
theorem qbm {α ρ:Type} [DecidableEq α] {l m:List α} (hlen:l.length=m.length) {V:Nat→ρ} (good bad:ρ)
  (hs:∀ (i:Nat) (hi:i < l.length) (hj:i < m.length),V i=if l[i]=m[i] then V (i+1) else bad) (hend:V l.length=good):V 0=if l=m then good else bad :=
 qH1 hlen good bad (fun i hi hj h=>(hs i hi hj).trans (if_pos h)) (fun i hi hj h=>(hs i hi hj).trans (if_neg h)) hend
attribute [simp] qAC qt6 qk8 qqg qrP qBF qtU qkl qrk qrO qBk quU qlH qq5 qro qfO qdw qoD qmP qAM quR ql3 qqJ qqB qli qiq qpH qnb qlX qj2 qww qqF qiL qnm qny qo3 qmn qAN quY qkp qrx qp6 qA3 qvF qkA qqk qqK qAO qv3 qlq qri qrR qqX qlJ qh3 qks qhF qhw qgi qjo qjE
theorem qzl (s s2:qU) (l m:List Tm) (hlen:l.length=m.length) (hM:l.length≤mI):qb0 [.ptr 0 0,.ptr 1 0,.int .i64 0] ⟨[[.str s,.sl (rOf cM l) .non],[.str s2,.sl (rOf cM m) .non]],[],[48,48]⟩=if l=m then some (.exit 0,[],⟨[[.str s,.sl (rOf cM l) .non],[.str s2,.sl (rOf cM m) .non]],[],[48,48]⟩) else some (.ret,[.bool false],⟨[[.str s,.sl (rOf cM l) .non],[.str s2,.sl (rOf cM m) .non]],[],[48,48]⟩):=by
 refine qbm hlen (V:=fun i=>qb0 [.ptr 0 0,.ptr 1 0,.int .i64 (i:Nat)] ⟨[[.str s,.sl (rOf cM l) .non],[.str s2,.sl (rOf cM m) .non]],[],[48,48]⟩) _ _ (fun i hi hj=>?_) ?_
 ·have hb:i < 9223372036854775807:=Nat.lt_of_lt_of_le hi hM;have hj2:i < l.length:=hi;show qb0 _ _=if _ then qb0 [.ptr 0 0,.ptr 1 0,.int .i64 ((i+1:Nat):Int)] _ else _
  conv=>lhs;rw [qwO]
  by_cases h:l[i]=m[i]
  ·rw [if_pos h,← qa1 hb];simp [qfk,↓Tr.run_ite,hi,hj,h,hlen]
  ·rw [if_neg h];simp [qfk,↓Tr.run_ite,hi,hj,hlen];split
   ·rfl
   ·rename_i hc;exact absurd (by simpa [Prod.ext_iff] using hc) h
 ·show qb0 _ _=_
  rw [qwO];simp [qfk,↓Tr.run_ite,hlen]
theorem qFi (l m:List Tm) (hlen:l.length=m.length) (hM:l.length≤mI):qeL [.sl (rOf cM l) .non,.sl (rOf cM m) .non,.int .i64 l.length,.int .i64 0] ⟨[],[],[]⟩=if l=m then some (.exit 0,[],⟨[],[],[]⟩) else some (.ret,[.bool false],⟨[],[],[]⟩):=by
 refine qbm hlen (V:=fun i=>qeL [.sl (rOf cM l) .non,.sl (rOf cM m) .non,.int .i64 l.length,.int .i64 (i:Nat)] ⟨[],[],[]⟩) _ _ (fun i hi hj=>?_) ?_
 ·have hb:i < 9223372036854775807:=Nat.lt_of_lt_of_le hi hM;have hj2:i < l.length:=hi;show qeL _ _=if _ then qeL [.sl (rOf cM l) .non,.sl (rOf cM m) .non,.int .i64 l.length,.int .i64 ((i+1:Nat):Int)] _ else _
  conv=>lhs;rw [qFa]
  by_cases h:l[i]=m[i]
  ·rw [if_pos h,← qa1 hb];simp [qlF,↓Tr.run_ite,hi,hj,h,hlen]
  ·rw [if_neg h];simp [qlF,↓Tr.run_ite,hi,hj,hlen];split
   ·rfl
   ·rename_i hc;exact absurd (by simpa [Prod.ext_iff] using hc) h
 ·show qeL _ _=_
  rw [qFa];simp [qlF,↓Tr.run_ite,hlen]
theorem qEK (l m:List Int) (hlen:l.length=m.length) (hM:l.length≤mI):qeD [.sl (rOf cI l) .non,.sl (rOf cI m) .non,.int .i64 l.length,.int .i64 0] ⟨[],[],[]⟩=if l=m then some (.exit 0,[],⟨[],[],[]⟩) else some (.ret,[.bool false],⟨[],[],[]⟩):=by
 refine qbm hlen (V:=fun i=>qeD [.sl (rOf cI l) .non,.sl (rOf cI m) .non,.int .i64 l.length,.int .i64 (i:Nat)] ⟨[],[],[]⟩) _ _ (fun i hi hj=>?_) ?_
 ·have hb:i < 9223372036854775807:=Nat.lt_of_lt_of_le hi hM;have hj2:i < l.length:=hi;show qeD _ _=if _ then qeD [.sl (rOf cI l) .non,.sl (rOf cI m) .non,.int .i64 l.length,.int .i64 ((i+1:Nat):Int)] _ else _
  conv=>lhs;rw [qGB]
  by_cases h:l[i]=m[i]
  ·rw [if_pos h,← qa1 hb];simp [qkB,↓Tr.run_ite,hi,hj,h,hlen]
  ·rw [if_neg h];simp [qkB,↓Tr.run_ite,hi,hj,hlen,h]
 ·show qeD _ _=_
  rw [qGB];simp [qkB,↓Tr.run_ite,hlen]
theorem qFt (l m:List Pa) (hlen:l.length=m.length) (hM:l.length≤mI):qeK [.sl (rOf cP l) .non,.sl (rOf cP m) .non,.int .i64 l.length,.int .i64 0] ⟨[],[],[]⟩=if l=m then some (.exit 0,[],⟨[],[],[]⟩) else some (.ret,[.bool false],⟨[],[],[]⟩):=by
 refine qbm hlen (V:=fun i=>qeK [.sl (rOf cP l) .non,.sl (rOf cP m) .non,.int .i64 l.length,.int .i64 (i:Nat)] ⟨[],[],[]⟩) _ _ (fun i hi hj=>?_) ?_
 ·have hb:i < 9223372036854775807:=Nat.lt_of_lt_of_le hi hM;have hj2:i < l.length:=hi;show qeK _ _=if _ then qeK [.sl (rOf cP l) .non,.sl (rOf cP m) .non,.int .i64 l.length,.int .i64 ((i+1:Nat):Int)] _ else _
  conv=>lhs;rw [qFd]
  by_cases h:l[i]=m[i]
  ·rw [if_pos h,← qa1 hb];simp [qlp,↓Tr.run_ite,hi,hj,h,hlen]
  ·rw [if_neg h];simp [qlp,↓Tr.run_ite,hi,hj,hlen];split
   ·rfl
   ·rename_i hc;exact absurd (by simpa [Prod.ext_iff] using hc) h
 ·show qeK _ _=_
  rw [qFd];simp [qlp,↓Tr.run_ite,hlen]
theorem qJH (l m:List Tm) (h:l.length≤mI):qsG (rOf cM l) (rOf cM m)=some (.bool (decide (l=m))):=by
 by_cases hl:l.length=m.length
 ·have k:=qFi l m hl h;by_cases he:l=m
  ·rw [if_pos he] at k;simp [qsG,qp9,qpN,↓Tr.run_ite,← hl,k,he];subst he;simp [k]
  ·rw [if_neg he] at k;simp [qsG,qp9,qpN,↓Tr.run_ite,← hl,k,he]
 ·have he:l≠m:=fun e=>hl (by rw [e])
  have hi:¬ ((l.length:Int)=(m.length:Int)):=by omega
  simp [qsG,qp9,↓Tr.run_ite,hi,he]
theorem qLl (l m:List Int) (h:l.length≤mI):qsJ (rOf cI l) (rOf cI m)=some (.bool (decide (l=m))):=by
 by_cases hl:l.length=m.length
 ·have k:=qEK l m hl h;by_cases he:l=m
  ·rw [if_pos he] at k;simp [qsJ,qrQ,qr3,↓Tr.run_ite,← hl,k,he];subst he;simp [k]
  ·rw [if_neg he] at k;simp [qsJ,qrQ,qr3,↓Tr.run_ite,← hl,k,he]
 ·have he:l≠m:=fun e=>hl (by rw [e])
  have hi:¬ ((l.length:Int)=(m.length:Int)):=by omega
  simp [qsJ,qrQ,↓Tr.run_ite,hi,he]
theorem qMh (l m:List Pa) (h:l.length≤mI):qsR (rOf cP l) (rOf cP m)=some (.bool (decide (l=m))):=by
 by_cases hl:l.length=m.length
 ·have k:=qFt l m hl h;by_cases he:l=m
  ·rw [if_pos he] at k;simp [qsR,qq2,qrM,↓Tr.run_ite,← hl,k,he];subst he;simp [k]
  ·rw [if_neg he] at k;simp [qsR,qq2,qrM,↓Tr.run_ite,← hl,k,he]
 ·have he:l≠m:=fun e=>hl (by rw [e])
  have hi:¬ ((l.length:Int)=(m.length:Int)):=by omega
  simp [qsR,qq2,↓Tr.run_ite,hi,he]
theorem qlf (a b:At) (h:bA a):qgR a.1 (rOf cM a.2) b.1 (rOf cM b.2)=some (.bool (decide (a=b))):=by
 obtain⟨s,l⟩:=a;obtain⟨s2,m⟩:=b;by_cases hs:s=s2
 ·subst hs;by_cases hl:l.length=m.length
  ·have k:=qzl s s l m hl h;by_cases he:l=m
   ·subst he;rw [if_pos rfl] at k;simp [qgR,qeS,qg3,↓Tr.run_ite,k]
   ·rw [if_neg he] at k;simp [qgR,qeS,qg3,↓Tr.run_ite,k,he,hl]
  ·have he:l≠m:=fun e=>hl (by rw [e])
   have hi:¬ ((l.length:Int)=(m.length:Int)):=by omega
   simp [qgR,qeS,↓Tr.run_ite,hi,he]
 ·simp [qgR,qeS,↓Tr.run_ite,hs]
theorem qkI (a b:At) (h:bA a):qoC a.1 (rOf cM a.2) b.1 (rOf cM b.2)=some (.bool (decide (a=b))):=by
 have k:=qJH a.2 b.2 h;by_cases hs:a.1=b.1<;>simp [qoC,qrb,↓Tr.run_ite,k,hs,Prod.ext_iff]
theorem qNh (a b:Tm):bAnd (iEq a.1 b.1) (bAnd (sEq a.2.1 b.2.1) (bAnd (bAnd (iEq a.2.2.1 b.2.2.1) (bAnd (iEq a.2.2.2.1 b.2.2.2.1) (bAnd (sEq a.2.2.2.2 b.2.2.2.2) true))) true))=decide (a=b):=by
 obtain⟨x1,x2,x3,x4,x5⟩:=a;obtain⟨y1,y2,y3,y4,y5⟩:=b;by_cases h1:x1=y1<;>by_cases h2:x2=y2<;>by_cases h3:x3=y3<;>by_cases h4:x4=y4<;>by_cases h5:x5=y5<;>simp [h1,h2,h3,h4,h5]
theorem qI8 (a b:Li):a=b↔a.1=b.1∧a.2.2.1=b.2.2.1∧a.2.2.2.1=b.2.2.2.1∧a.2.2.2.2=b.2.2.2.2∧a.2.1=b.2.1:=by
 obtain⟨a1,a2,a3,a4,a5⟩:=a;obtain⟨b1,b2,b3,b4,b5⟩:=b;simp only [Prod.mk.injEq];constructor
 ·rintro⟨h1,h2,h3,h4,h5⟩;exact⟨h1,h3,h4,h5,h2⟩
 ·rintro⟨h1,h3,h4,h5,h2⟩;exact⟨h1,h2,h3,h4,h5⟩
theorem qD6 (a b:Li) (h:bA a.2.1):qoQ a.1 a.2.1.1 (rOf cM a.2.1.2) a.2.2.1 a.2.2.2.1.1 a.2.2.2.1.2.1 a.2.2.2.1.2.2.1 a.2.2.2.1.2.2.2.1 a.2.2.2.1.2.2.2.2 a.2.2.2.2.1 a.2.2.2.2.2.1 a.2.2.2.2.2.2.1 a.2.2.2.2.2.2.2.1 a.2.2.2.2.2.2.2.2 b.1 b.2.1.1 (rOf cM b.2.1.2) b.2.2.1 b.2.2.2.1.1 b.2.2.2.1.2.1 b.2.2.2.1.2.2.1 b.2.2.2.1.2.2.2.1 b.2.2.2.1.2.2.2.2 b.2.2.2.2.1 b.2.2.2.2.2.1 b.2.2.2.2.2.2.1 b.2.2.2.2.2.2.2.1 b.2.2.2.2.2.2.2.2=some (.bool (decide (a=b))):=by
 have k:=qkI a.2.1 b.2.1 h;unfold qoQ qru;rw [qNh a.2.2.2.1 b.2.2.2.1,qNh a.2.2.2.2 b.2.2.2.2];by_cases h1:a.1=b.1<;>by_cases h2:a.2.2.1=b.2.2.1<;>by_cases h3:a.2.2.2.1=b.2.2.2.1<;>by_cases h4:a.2.2.2.2=b.2.2.2.2<;>simp [↓Tr.run_ite,k,h1,h2,h3,h4,qI8 a b]
theorem qFx (l m:List Li) (hlen:l.length=m.length) (hM:l.length≤mI) (hx:∀ x∈l,bA x.2.1):qeF [.sl (rOf cL m) .non,.fn 59 [],.sl (rOf cL l) .non,.int .i64 l.length,.int .i64 0] ⟨[],[],[]⟩=if l=m then some (.exit 0,[],⟨[],[],[]⟩) else some (.ret,[.bool false],⟨[],[],[]⟩):=by
 refine qbm hlen (V:=fun i=>qeF [.sl (rOf cL m) .non,.fn 59 [],.sl (rOf cL l) .non,.int .i64 l.length,.int .i64 (i:Nat)] ⟨[],[],[]⟩) _ _ (fun i hi hj=>?_) ?_
 ·have hb:i < 9223372036854775807:=Nat.lt_of_lt_of_le hi hM;have hj2:i < l.length:=hi;show qeF _ _=if _ then qeF [.sl (rOf cL m) .non,.fn 59 [],.sl (rOf cL l) .non,.int .i64 l.length,.int .i64 ((i+1:Nat):Int)] _ else _
  conv=>lhs;rw [qDX]
  have hk:=qD6 l[i] m[i] (hx _ (List.getElem_mem hi));by_cases h:l[i]=m[i]
  ·rw [if_pos h,← qa1 hb];rw [decide_eq_true h] at hk;simp [qko,↓Tr.run_ite,hi,hj,hlen,hk]
  ·rw [if_neg h];rw [decide_eq_false h] at hk;simp [qko,↓Tr.run_ite,hi,hj,hlen,hk]
 ·show qeF _ _=_
  rw [qDX];simp [qko,↓Tr.run_ite,hlen]
theorem qLp (l m:List Li) (h:l.length≤mI) (hx:∀ x∈l,bA x.2.1):qtd (rOf cL l) (rOf cL m)=some (.bool (decide (l=m))):=by
 by_cases hl:l.length=m.length
 ·have k:=qFx l m hl h hx;rw [hl] at k;by_cases he:l=m
  ·subst he;rw [if_pos rfl] at k;simp [qtd,qrK,qqI,↓Tr.run_ite,k]
  ·rw [if_neg he] at k;simp [qtd,qrK,qqI,↓Tr.run_ite,hl,k,he]
 ·have he:l≠m:=fun e=>hl (by rw [e])
  have hi:¬ ((l.length:Int)=(m.length:Int)):=by omega
  simp [qtd,qrK,↓Tr.run_ite,hi,he]
theorem qw6 (a b:Ru) (h:bRu a):qk2 a.1.1 (rOf cM a.1.2) (rOf cL a.2) b.1.1 (rOf cM b.1.2) (rOf cL b.2)=some (.bool (decide (a=b))):=by
 obtain⟨a1,a2⟩:=a;obtain⟨b1,b2⟩:=b;have k:=qkI a1 b1 h.1;have k2:=qLp a2 b2 h.2.1 h.2.2;by_cases h1:a1=b1
 ·subst h1;rw [decide_eq_true rfl] at k;simp [qk2,qlm,↓Tr.run_ite,k,k2]
 ·rw [decide_eq_false h1] at k;simp [qk2,qlm,↓Tr.run_ite,k,h1]
theorem qDE (a b:De) (h:bDe a):qoU a.1 a.2.1 (rOf cI a.2.2) b.1 b.2.1 (rOf cI b.2.2)=some (.bool (decide (a=b))):=by
 obtain⟨a1,a2,a3⟩:=a;obtain⟨b1,b2,b3⟩:=b;have k:=qLl a3 b3 h;by_cases h1:a1=b1<;>by_cases h2:a2=b2<;>simp [qoU,qp4,↓Tr.run_ite,k,h1,h2]
theorem qDl (a b:Ac) (h:bA a.2):qku a.1 a.2.1 (rOf cM a.2.2) b.1 b.2.1 (rOf cM b.2.2)=some (.bool (decide (a=b))):=by
 obtain⟨a1,a2⟩:=a;obtain⟨b1,b2⟩:=b;have k:=qkI a2 b2 h;by_cases h1:a1=b1<;>simp [qku,qmt,↓Tr.run_ite,k,h1]
theorem qBZ (l m:List Ac) (hlen:l.length=m.length) (hM:l.length≤mI) (hx:∀ x∈l,bA x.2):qcV [.sl (rOf cAc m) .non,.fn 118 [],.sl (rOf cAc l) .non,.int .i64 l.length,.int .i64 0] ⟨[],[],[]⟩=if l=m then some (.exit 0,[],⟨[],[],[]⟩) else some (.ret,[.bool false],⟨[],[],[]⟩):=by
 refine qbm hlen (V:=fun i=>qcV [.sl (rOf cAc m) .non,.fn 118 [],.sl (rOf cAc l) .non,.int .i64 l.length,.int .i64 (i:Nat)] ⟨[],[],[]⟩) _ _ (fun i hi hj=>?_) ?_
 ·have hb:i < 9223372036854775807:=Nat.lt_of_lt_of_le hi hM;have hj2:i < l.length:=hi;show qcV _ _=if _ then qcV [.sl (rOf cAc m) .non,.fn 118 [],.sl (rOf cAc l) .non,.int .i64 l.length,.int .i64 ((i+1:Nat):Int)] _ else _
  conv=>lhs;rw [qAP]
  have hk:=qDl l[i] m[i] (hx _ (List.getElem_mem hi));by_cases h:l[i]=m[i]
  ·rw [if_pos h,← qa1 hb];rw [decide_eq_true h] at hk;simp [qhl,↓Tr.run_ite,hi,hj,hlen,hk]
  ·rw [if_neg h];rw [decide_eq_false h] at hk;simp [qhl,↓Tr.run_ite,hi,hj,hlen,hk]
 ·show qcV _ _=_
  rw [qAP];simp [qhl,↓Tr.run_ite,hlen]
theorem qHt (l m:List Ac) (h:l.length≤mI) (hx:∀ x∈l,bA x.2):qmQ (rOf cAc l) (rOf cAc m)=some (.bool (decide (l=m))):=by
 by_cases hl:l.length=m.length
 ·have k:=qBZ l m hl h hx;rw [hl] at k;by_cases he:l=m
  ·subst he;rw [if_pos rfl] at k;simp [qmQ,qlv,qld,↓Tr.run_ite,k]
  ·rw [if_neg he] at k;simp [qmQ,qlv,qld,↓Tr.run_ite,hl,k,he]
 ·have he:l≠m:=fun e=>hl (by rw [e])
  have hi:¬ ((l.length:Int)=(m.length:Int)):=by omega
  simp [qmQ,qlv,↓Tr.run_ite,hi,he]
theorem qEw (a b:En) (h:bEn a):qiK a.1 (rOf cP a.2.1) (rOf cAc a.2.2) b.1 (rOf cP b.2.1) (rOf cAc b.2.2)=some (.bool (decide (a=b))):=by
 obtain⟨a1,a2,a3⟩:=a;obtain⟨b1,b2,b3⟩:=b;have k:=qMh a2 b2 h.1;have k2:=qHt a3 b3 h.2.1 h.2.2;by_cases h1:a1=b1
 ·subst h1;by_cases h2:a2=b2
  ·subst h2;rw [decide_eq_true rfl] at k;simp [qiK,qhf,↓Tr.run_ite,k,k2]
  ·rw [decide_eq_false h2] at k;simp [qiK,qhf,↓Tr.run_ite,k,h2]
 ·simp [qiK,qhf,↓Tr.run_ite,h1]
theorem qGE (l m:List De) (hlen:l.length=m.length) (hM:l.length≤mI) (hx:∀ x∈l,bDe x):qeP [.sl (rOf cD m) .non,.fn 54 [],.sl (rOf cD l) .non,.int .i64 l.length,.int .i64 0] ⟨[],[],[]⟩=if l=m then some (.exit 0,[],⟨[],[],[]⟩) else some (.ret,[.bool false],⟨[],[],[]⟩):=by
 refine qbm hlen (V:=fun i=>qeP [.sl (rOf cD m) .non,.fn 54 [],.sl (rOf cD l) .non,.int .i64 l.length,.int .i64 (i:Nat)] ⟨[],[],[]⟩) _ _ (fun i hi hj=>?_) ?_
 ·have hb:i < 9223372036854775807:=Nat.lt_of_lt_of_le hi hM;have hj2:i < l.length:=hi;show qeP _ _=if _ then qeP [.sl (rOf cD m) .non,.fn 54 [],.sl (rOf cD l) .non,.int .i64 l.length,.int .i64 ((i+1:Nat):Int)] _ else _
  conv=>lhs;rw [qFK]
  have hk:=qDE l[i] m[i] (hx _ (List.getElem_mem hi));by_cases h:l[i]=m[i]
  ·rw [if_pos h,← qa1 hb];rw [decide_eq_true h] at hk;simp [qkF,↓Tr.run_ite,hi,hj,hlen,hk]
  ·rw [if_neg h];rw [decide_eq_false h] at hk;simp [qkF,↓Tr.run_ite,hi,hj,hlen,hk]
 ·show qeP _ _=_
  rw [qFK];simp [qkF,↓Tr.run_ite,hlen]
theorem qJ5 (l m:List De) (h:l.length≤mI) (hx:∀ x∈l,bDe x):qsC (rOf cD l) (rOf cD m)=some (.bool (decide (l=m))):=by
 by_cases hl:l.length=m.length
 ·have k:=qGE l m hl h hx;rw [hl] at k;by_cases he:l=m
  ·subst he;rw [if_pos rfl] at k;simp [qsC,qq9,qrf,↓Tr.run_ite,k]
  ·rw [if_neg he] at k;simp [qsC,qq9,qrf,↓Tr.run_ite,hl,k,he]
 ·have he:l≠m:=fun e=>hl (by rw [e])
  have hi:¬ ((l.length:Int)=(m.length:Int)):=by omega
  simp [qsC,qq9,↓Tr.run_ite,hi,he]
theorem qEt (l m:List En) (hlen:l.length=m.length) (hM:l.length≤mI) (hx:∀ x∈l,bEn x):qeN [.sl (rOf cE m) .non,.fn 56 [],.sl (rOf cE l) .non,.int .i64 l.length,.int .i64 0] ⟨[],[],[]⟩=if l=m then some (.exit 0,[],⟨[],[],[]⟩) else some (.ret,[.bool false],⟨[],[],[]⟩):=by
 refine qbm hlen (V:=fun i=>qeN [.sl (rOf cE m) .non,.fn 56 [],.sl (rOf cE l) .non,.int .i64 l.length,.int .i64 (i:Nat)] ⟨[],[],[]⟩) _ _ (fun i hi hj=>?_) ?_
 ·have hb:i < 9223372036854775807:=Nat.lt_of_lt_of_le hi hM;have hj2:i < l.length:=hi;show qeN _ _=if _ then qeN [.sl (rOf cE m) .non,.fn 56 [],.sl (rOf cE l) .non,.int .i64 l.length,.int .i64 ((i+1:Nat):Int)] _ else _
  conv=>lhs;rw [qFO]
  have hk:=qEw l[i] m[i] (hx _ (List.getElem_mem hi));by_cases h:l[i]=m[i]
  ·rw [if_pos h,← qa1 hb];rw [decide_eq_true h] at hk;simp [qlj,↓Tr.run_ite,hi,hj,hlen,hk]
  ·rw [if_neg h];rw [decide_eq_false h] at hk;simp [qlj,↓Tr.run_ite,hi,hj,hlen,hk]
 ·show qeN _ _=_
  rw [qFO];simp [qlj,↓Tr.run_ite,hlen]
theorem qLB (l m:List En) (h:l.length≤mI) (hx:∀ x∈l,bEn x):qsQ (rOf cE l) (rOf cE m)=some (.bool (decide (l=m))):=by
 by_cases hl:l.length=m.length
 ·have k:=qEt l m hl h hx;rw [hl] at k;by_cases he:l=m
  ·subst he;rw [if_pos rfl] at k;simp [qsQ,qqs,qry,↓Tr.run_ite,k]
  ·rw [if_neg he] at k;simp [qsQ,qqs,qry,↓Tr.run_ite,hl,k,he]
 ·have he:l≠m:=fun e=>hl (by rw [e])
  have hi:¬ ((l.length:Int)=(m.length:Int)):=by omega
  simp [qsQ,qqs,↓Tr.run_ite,hi,he]
theorem qGC (l m:List Ru) (hlen:l.length=m.length) (hM:l.length≤mI) (hx:∀ x∈l,bRu x):qeG [.sl (rOf cRu m) .non,.fn 24 [],.sl (rOf cRu l) .non,.int .i64 l.length,.int .i64 0] ⟨[],[],[]⟩=if l=m then some (.exit 0,[],⟨[],[],[]⟩) else some (.ret,[.bool false],⟨[],[],[]⟩):=by
 refine qbm hlen (V:=fun i=>qeG [.sl (rOf cRu m) .non,.fn 24 [],.sl (rOf cRu l) .non,.int .i64 l.length,.int .i64 (i:Nat)] ⟨[],[],[]⟩) _ _ (fun i hi hj=>?_) ?_
 ·have hb:i < 9223372036854775807:=Nat.lt_of_lt_of_le hi hM;have hj2:i < l.length:=hi;show qeG _ _=if _ then qeG [.sl (rOf cRu m) .non,.fn 24 [],.sl (rOf cRu l) .non,.int .i64 l.length,.int .i64 ((i+1:Nat):Int)] _ else _
  conv=>lhs;rw [qDU]
  have hk:=qw6 l[i] m[i] (hx _ (List.getElem_mem hi));by_cases h:l[i]=m[i]
  ·rw [if_pos h,← qa1 hb];rw [decide_eq_true h] at hk;simp [qlQ,↓Tr.run_ite,hi,hj,hlen,hk]
  ·rw [if_neg h];rw [decide_eq_false h] at hk;simp [qlQ,↓Tr.run_ite,hi,hj,hlen,hk]
 ·show qeG _ _=_
  rw [qDU];simp [qlQ,↓Tr.run_ite,hlen]
theorem qJO (l m:List Ru) (h:l.length≤mI) (hx:∀ x∈l,bRu x):qs4 (rOf cRu l) (rOf cRu m)=some (.bool (decide (l=m))):=by
 by_cases hl:l.length=m.length
 ·have k:=qGC l m hl h hx;rw [hl] at k;by_cases he:l=m
  ·subst he;rw [if_pos rfl] at k;simp [qs4,qrC,qrd,↓Tr.run_ite,k]
  ·rw [if_neg he] at k;simp [qs4,qrC,qrd,↓Tr.run_ite,hl,k,he]
 ·have he:l≠m:=fun e=>hl (by rw [e])
  have hi:¬ ((l.length:Int)=(m.length:Int)):=by omega
  simp [qs4,qrC,↓Tr.run_ite,hi,he]
theorem qA5 (a b:Pg) (h:bPg a):qnj (rOf cD a.1) (rOf cE a.2.1) (rOf cRu a.2.2) (rOf cD b.1) (rOf cE b.2.1) (rOf cRu b.2.2)=some (.bool (decide (a=b))):=by
 obtain⟨a1,a2,a3⟩:=a;obtain⟨b1,b2,b3⟩:=b;have k:=qJ5 a1 b1 h.1.1 h.1.2;have k2:=qLB a2 b2 h.2.1.1 h.2.1.2;have k3:=qJO a3 b3 h.2.2.1 h.2.2.2;by_cases h1:a1=b1
 ·subst h1;rw [decide_eq_true rfl] at k;by_cases h2:a2=b2
  ·subst h2;rw [decide_eq_true rfl] at k2;simp [qnj,qlM,↓Tr.run_ite,k,k2,k3]
  ·rw [decide_eq_false h2] at k2;simp [qnj,qlM,↓Tr.run_ite,k,k2,h2]
 ·rw [decide_eq_false h1] at k;simp [qnj,qlM,↓Tr.run_ite,k,h1]
theorem qzE (a b:Ru) (hlen:a.2.length=b.2.length) (hM:a.2.length≤mI) (hx:∀ x∈a.2,bA x.2.1):qbZ [.ptr 0 0,.ptr 1 0,.int .i64 0] ⟨[[.str a.1.1,.sl (rOf cM a.1.2) .non,.sl (rOf cL a.2) .non],[.str b.1.1,.sl (rOf cM b.1.2) .non,.sl (rOf cL b.2) .non]],[],[51,51]⟩=if a.2=b.2 then some (.exit 0,[],⟨[[.str a.1.1,.sl (rOf cM a.1.2) .non,.sl (rOf cL a.2) .non],[.str b.1.1,.sl (rOf cM b.1.2) .non,.sl (rOf cL b.2) .non]],[],[51,51]⟩) else some (.ret,[.bool false],⟨[[.str a.1.1,.sl (rOf cM a.1.2) .non,.sl (rOf cL a.2) .non],[.str b.1.1,.sl (rOf cM b.1.2) .non,.sl (rOf cL b.2) .non]],[],[51,51]⟩):=by
 refine qbm hlen (V:=fun i=>qbZ [.ptr 0 0,.ptr 1 0,.int .i64 (i:Nat)] ⟨[[.str a.1.1,.sl (rOf cM a.1.2) .non,.sl (rOf cL a.2) .non],[.str b.1.1,.sl (rOf cM b.1.2) .non,.sl (rOf cL b.2) .non]],[],[51,51]⟩) _ _ (fun i hi hj=>?_) ?_
 ·have hb:i < 9223372036854775807:=Nat.lt_of_lt_of_le hi hM;have hj2:i < a.2.length:=hi;show qbZ _ _=if _ then qbZ [.ptr 0 0,.ptr 1 0,.int .i64 ((i+1:Nat):Int)] _ else _
  conv=>lhs;rw [qyc]
  have hk:=qlf a.2[i].2.1 b.2[i].2.1 (hx _ (List.getElem_mem hi));by_cases h:a.2[i]=b.2[i]
  ·rw [if_pos h,← qa1 hb];rw [decide_eq_true (by rw [h])] at hk
   simp [qcG,↓Tr.run_ite,hi,hj,hlen,hk];simp [h]
  ·rw [if_neg h];by_cases hA:a.2[i].2.1=b.2[i].2.1
   ·rw [decide_eq_true hA] at hk;simp [qcG,↓Tr.run_ite,hi,hj,hlen,hk]
    (repeat' split)<;>first
     |rfl
     |(exfalso;apply h;rw [qI8];simp_all [Prod.ext_iff])
   ·rw [decide_eq_false hA] at hk;simp [qcG,↓Tr.run_ite,hi,hj,hlen,hk]
 ·show qbZ _ _=_
  rw [qyc];simp [qcG,↓Tr.run_ite,hlen]
theorem qAj (a b:De) (hlen:a.2.2.length=b.2.2.length) (hM:a.2.2.length≤mI):qb4 [.ptr 0 0,.ptr 1 0,.int .i64 0] ⟨[[.str a.1,.bool a.2.1,.sl (rOf cI a.2.2) .non],[.str b.1,.bool b.2.1,.sl (rOf cI b.2.2) .non]],[],[80,80]⟩=if a.2.2=b.2.2 then some (.exit 0,[],⟨[[.str a.1,.bool a.2.1,.sl (rOf cI a.2.2) .non],[.str b.1,.bool b.2.1,.sl (rOf cI b.2.2) .non]],[],[80,80]⟩) else some (.ret,[.bool false],⟨[[.str a.1,.bool a.2.1,.sl (rOf cI a.2.2) .non],[.str b.1,.bool b.2.1,.sl (rOf cI b.2.2) .non]],[],[80,80]⟩):=by
 refine qbm hlen (V:=fun i=>qb4 [.ptr 0 0,.ptr 1 0,.int .i64 (i:Nat)] ⟨[[.str a.1,.bool a.2.1,.sl (rOf cI a.2.2) .non],[.str b.1,.bool b.2.1,.sl (rOf cI b.2.2) .non]],[],[80,80]⟩) _ _ (fun i hi hj=>?_) ?_
 ·have hb:i < 9223372036854775807:=Nat.lt_of_lt_of_le hi hM;have hj2:i < a.2.2.length:=hi;show qb4 _ _=if _ then qb4 [.ptr 0 0,.ptr 1 0,.int .i64 ((i+1:Nat):Int)] _ else _
  conv=>lhs;rw [qxq]
  by_cases h:a.2.2[i]=b.2.2[i]
  ·rw [if_pos h,← qa1 hb];simp [qfy,↓Tr.run_ite,hi,hj,h,hlen]
  ·rw [if_neg h];simp [qfy,↓Tr.run_ite,hi,hj,hlen,h]
 ·show qb4 _ _=_
  rw [qxq];simp [qfy,↓Tr.run_ite,hlen]
theorem qzH (a b:En) (hlen:a.2.1.length=b.2.1.length) (hM:a.2.1.length≤mI):qbY [.ptr 0 0,.ptr 1 0,.int .i64 0] ⟨[[.str a.1,.sl (rOf cP a.2.1) .non,.sl (rOf cAc a.2.2) .non],[.str b.1,.sl (rOf cP b.2.1) .non,.sl (rOf cAc b.2.2) .non]],[],[85,85]⟩=if a.2.1=b.2.1 then some (.exit 0,[.ptr 0 0,.ptr 1 0],⟨[[.str a.1,.sl (rOf cP a.2.1) .non,.sl (rOf cAc a.2.2) .non],[.str b.1,.sl (rOf cP b.2.1) .non,.sl (rOf cAc b.2.2) .non]],[],[85,85]⟩) else some (.ret,[.bool false],⟨[[.str a.1,.sl (rOf cP a.2.1) .non,.sl (rOf cAc a.2.2) .non],[.str b.1,.sl (rOf cP b.2.1) .non,.sl (rOf cAc b.2.2) .non]],[],[85,85]⟩):=by
 refine qbm hlen (V:=fun i=>qbY [.ptr 0 0,.ptr 1 0,.int .i64 (i:Nat)] ⟨[[.str a.1,.sl (rOf cP a.2.1) .non,.sl (rOf cAc a.2.2) .non],[.str b.1,.sl (rOf cP b.2.1) .non,.sl (rOf cAc b.2.2) .non]],[],[85,85]⟩) _ _ (fun i hi hj=>?_) ?_
 ·have hb:i < 9223372036854775807:=Nat.lt_of_lt_of_le hi hM;have hj2:i < a.2.1.length:=hi;show qbY _ _=if _ then qbY [.ptr 0 0,.ptr 1 0,.int .i64 ((i+1:Nat):Int)] _ else _
  conv=>lhs;rw [qxv]
  by_cases h:a.2.1[i]=b.2.1[i]
  ·rw [if_pos h,← qa1 hb];simp [qeX,↓Tr.run_ite,hi,hj,h,hlen]
  ·rw [if_neg h];simp [qeX,↓Tr.run_ite,hi,hj,hlen];split
   ·rfl
   ·rename_i hc;exact absurd (by simpa [Prod.ext_iff] using hc) h
 ·show qbY _ _=_
  rw [qxv];simp [qeX,↓Tr.run_ite,hlen]
theorem qy0 (a b:En) (hlen:a.2.2.length=b.2.2.length) (hM:a.2.2.length≤mI) (hx:∀ x∈a.2.2,bA x.2):qb2 [.ptr 0 0,.ptr 1 0,.int .i64 0] ⟨[[.str a.1,.sl (rOf cP a.2.1) .non,.sl (rOf cAc a.2.2) .non],[.str b.1,.sl (rOf cP b.2.1) .non,.sl (rOf cAc b.2.2) .non]],[],[85,85]⟩=if a.2.2=b.2.2 then some (.exit 2,[],⟨[[.str a.1,.sl (rOf cP a.2.1) .non,.sl (rOf cAc a.2.2) .non],[.str b.1,.sl (rOf cP b.2.1) .non,.sl (rOf cAc b.2.2) .non]],[],[85,85]⟩) else some (.ret,[.bool false],⟨[[.str a.1,.sl (rOf cP a.2.1) .non,.sl (rOf cAc a.2.2) .non],[.str b.1,.sl (rOf cP b.2.1) .non,.sl (rOf cAc b.2.2) .non]],[],[85,85]⟩):=by
 refine qbm hlen (V:=fun i=>qb2 [.ptr 0 0,.ptr 1 0,.int .i64 (i:Nat)] ⟨[[.str a.1,.sl (rOf cP a.2.1) .non,.sl (rOf cAc a.2.2) .non],[.str b.1,.sl (rOf cP b.2.1) .non,.sl (rOf cAc b.2.2) .non]],[],[85,85]⟩) _ _ (fun i hi hj=>?_) ?_
 ·have hb:i < 9223372036854775807:=Nat.lt_of_lt_of_le hi hM;have hj2:i < a.2.2.length:=hi;show qb2 _ _=if _ then qb2 [.ptr 0 0,.ptr 1 0,.int .i64 ((i+1:Nat):Int)] _ else _
  conv=>lhs;rw [qw1]
  have hk:=qlf a.2.2[i].2 b.2.2[i].2 (hx _ (List.getElem_mem hi));by_cases h:a.2.2[i]=b.2.2[i]
  ·rw [if_pos h,← qa1 hb];rw [decide_eq_true (by rw [h])] at hk
   simp [qdt,↓Tr.run_ite,hi,hj,hlen,hk];simp [h]
  ·rw [if_neg h];by_cases hA:a.2.2[i].2=b.2.2[i].2
   ·rw [decide_eq_true hA] at hk;simp [qdt,↓Tr.run_ite,hi,hj,hlen,hk]
    (repeat' split)<;>first
     |rfl
     |(exfalso;apply h;simp_all [Prod.ext_iff])
   ·rw [decide_eq_false hA] at hk;simp [qdt,↓Tr.run_ite,hi,hj,hlen,hk]
 ·show qb2 _ _=_
  rw [qw1];simp [qdt,↓Tr.run_ite,hlen]
theorem qw4 (a b:Ru) (h:bRu a):qgQ a.1.1 (rOf cM a.1.2) (rOf cL a.2) b.1.1 (rOf cM b.1.2) (rOf cL b.2)=some (.bool (decide (a=b))):=by
 obtain⟨a1,a2⟩:=a;obtain⟨b1,b2⟩:=b;have k:=qlf a1 b1 h.1;by_cases h1:a1=b1
 ·subst h1;rw [decide_eq_true rfl] at k;by_cases hl:a2.length=b2.length
  ·have k2:=qzE (a1,a2) (a1,b2) hl h.2.1 h.2.2;by_cases h2:a2=b2
   ·subst h2;rw [if_pos rfl] at k2;simp [qgQ,qfr,qhK,↓Tr.run_ite,k,k2]
   ·rw [if_neg h2] at k2;simp [qgQ,qfr,qhK,↓Tr.run_ite,k,k2,hl,h2]
  ·have h2:a2≠b2:=fun e=>hl (by rw [e])
   have hi:¬ ((a2.length:Int)=(b2.length:Int)):=by omega
   simp [qgQ,qfr,↓Tr.run_ite,k,hi,h2]
 ·rw [decide_eq_false h1] at k;simp [qgQ,qfr,↓Tr.run_ite,k,h1]
theorem qFT (a b:De) (h:bDe a):qey a.1 a.2.1 (rOf cI a.2.2) b.1 b.2.1 (rOf cI b.2.2)=some (.bool (decide (a=b))):=by
 obtain⟨a1,a2,a3⟩:=a;obtain⟨b1,b2,b3⟩:=b;by_cases h1:a1=b1
 ·subst h1;by_cases h2:a2=b2
  ·subst h2;by_cases hl:a3.length=b3.length
   ·have k2:=qAj (a1,a2,a3) (a1,a2,b3) hl h;by_cases h3:a3=b3
    ·subst h3;rw [if_pos rfl] at k2;simp [qey,qee,qhe,↓Tr.run_ite,k2]
    ·rw [if_neg h3] at k2;simp [qey,qee,qhe,↓Tr.run_ite,k2,hl,h3]
   ·have h3:a3≠b3:=fun e=>hl (by rw [e])
    have hi:¬ ((a3.length:Int)=(b3.length:Int)):=by omega
    simp [qey,qee,↓Tr.run_ite,hi,h3]
  ·simp [qey,qee,↓Tr.run_ite,h2]
 ·simp [qey,qee,↓Tr.run_ite,h1]
theorem qEc (a b:En) (h:bEn a):qdo a.1 (rOf cP a.2.1) (rOf cAc a.2.2) b.1 (rOf cP b.2.1) (rOf cAc b.2.2)=some (.bool (decide (a=b))):=by
 obtain⟨a1,a2,a3⟩:=a;obtain⟨b1,b2,b3⟩:=b;by_cases h1:a1=b1
 ·subst h1;by_cases hl:a2.length=b2.length
  ·by_cases hm:a3.length=b3.length
   ·have k2:=qzH (a1,a2,a3) (a1,b2,b3) hl h.1;have k3:=qy0 (a1,a2,a3) (a1,b2,b3) hm h.2.1 h.2.2;by_cases h2:a2=b2
    ·subst h2;rw [if_pos rfl] at k2;by_cases h3:a3=b3
     ·subst h3;rw [if_pos rfl] at k3;simp [qdo,qc6,qfA,qhM,↓Tr.run_ite,k2,k3]
     ·rw [if_neg h3] at k3;simp [qdo,qc6,qfA,qhM,↓Tr.run_ite,k2,k3,hm,h3]
    ·rw [if_neg h2] at k2;simp [qdo,qc6,qfA,↓Tr.run_ite,k2,hl,hm,h2]
   ·have h3:a3≠b3:=fun e=>hm (by rw [e])
    have hi:¬ ((a3.length:Int)=(b3.length:Int)):=by omega
    simp [qdo,qc6,↓Tr.run_ite,hi,h3,hl]
  ·have h3:a2≠b2:=fun e=>hl (by rw [e])
   have hi:¬ ((a2.length:Int)=(b2.length:Int)):=by omega
   simp [qdo,qc6,↓Tr.run_ite,hi,h3]
 ·simp [qdo,qc6,↓Tr.run_ite,h1]
theorem qB7 (a b:Pg) (hlen:a.1.length=b.1.length) (hM:a.1.length≤mI) (hx:∀ x∈a.1,bDe x):qcW [.ptr 0 0,.ptr 1 0,.int .i64 0] ⟨[[.sl (rOf cD a.1) .non,.sl (rOf cE a.2.1) .non,.sl (rOf cRu a.2.2) .non],[.sl (rOf cD b.1) .non,.sl (rOf cE b.2.1) .non,.sl (rOf cRu b.2.2) .non]],[],[27,27]⟩=if a.1=b.1 then some (.exit 0,[.ptr 0 0,.ptr 1 0],⟨[[.sl (rOf cD a.1) .non,.sl (rOf cE a.2.1) .non,.sl (rOf cRu a.2.2) .non],[.sl (rOf cD b.1) .non,.sl (rOf cE b.2.1) .non,.sl (rOf cRu b.2.2) .non]],[],[27,27]⟩) else some (.ret,[.bool false],⟨[[.sl (rOf cD a.1) .non,.sl (rOf cE a.2.1) .non,.sl (rOf cRu a.2.2) .non],[.sl (rOf cD b.1) .non,.sl (rOf cE b.2.1) .non,.sl (rOf cRu b.2.2) .non]],[],[27,27]⟩):=by
 refine qbm hlen (V:=fun i=>qcW [.ptr 0 0,.ptr 1 0,.int .i64 (i:Nat)] ⟨[[.sl (rOf cD a.1) .non,.sl (rOf cE a.2.1) .non,.sl (rOf cRu a.2.2) .non],[.sl (rOf cD b.1) .non,.sl (rOf cE b.2.1) .non,.sl (rOf cRu b.2.2) .non]],[],[27,27]⟩) _ _ (fun i hi hj=>?_) ?_
 ·have hb:i < 9223372036854775807:=Nat.lt_of_lt_of_le hi hM;have hj2:i < a.1.length:=hi;show qcW _ _=if _ then qcW [.ptr 0 0,.ptr 1 0,.int .i64 ((i+1:Nat):Int)] _ else _
  conv=>lhs;rw [qBB]
  have hk:=qFT (a.1)[i] (b.1)[i] (hx _ (List.getElem_mem hi));by_cases h:a.1[i]=b.1[i]
  ·rw [if_pos h,← qa1 hb];rw [decide_eq_true h] at hk;simp [qho,↓Tr.run_ite,hi,hj,hlen,hk]
  ·rw [if_neg h];rw [decide_eq_false h] at hk;simp [qho,↓Tr.run_ite,hi,hj,hlen,hk]
 ·show qcW _ _=_
  rw [qBB];simp [qho,↓Tr.run_ite,hlen]
theorem qB2 (a b:Pg) (hlen:a.2.1.length=b.2.1.length) (hM:a.2.1.length≤mI) (hx:∀ x∈a.2.1,bEn x):qcX [.ptr 0 0,.ptr 1 0,.int .i64 0] ⟨[[.sl (rOf cD a.1) .non,.sl (rOf cE a.2.1) .non,.sl (rOf cRu a.2.2) .non],[.sl (rOf cD b.1) .non,.sl (rOf cE b.2.1) .non,.sl (rOf cRu b.2.2) .non]],[],[27,27]⟩=if a.2.1=b.2.1 then some (.exit 2,[.ptr 0 0,.ptr 1 0],⟨[[.sl (rOf cD a.1) .non,.sl (rOf cE a.2.1) .non,.sl (rOf cRu a.2.2) .non],[.sl (rOf cD b.1) .non,.sl (rOf cE b.2.1) .non,.sl (rOf cRu b.2.2) .non]],[],[27,27]⟩) else some (.ret,[.bool false],⟨[[.sl (rOf cD a.1) .non,.sl (rOf cE a.2.1) .non,.sl (rOf cRu a.2.2) .non],[.sl (rOf cD b.1) .non,.sl (rOf cE b.2.1) .non,.sl (rOf cRu b.2.2) .non]],[],[27,27]⟩):=by
 refine qbm hlen (V:=fun i=>qcX [.ptr 0 0,.ptr 1 0,.int .i64 (i:Nat)] ⟨[[.sl (rOf cD a.1) .non,.sl (rOf cE a.2.1) .non,.sl (rOf cRu a.2.2) .non],[.sl (rOf cD b.1) .non,.sl (rOf cE b.2.1) .non,.sl (rOf cRu b.2.2) .non]],[],[27,27]⟩) _ _ (fun i hi hj=>?_) ?_
 ·have hb:i < 9223372036854775807:=Nat.lt_of_lt_of_le hi hM;have hj2:i < a.2.1.length:=hi;show qcX _ _=if _ then qcX [.ptr 0 0,.ptr 1 0,.int .i64 ((i+1:Nat):Int)] _ else _
  conv=>lhs;rw [qAD]
  have hk:=qEc (a.2.1)[i] (b.2.1)[i] (hx _ (List.getElem_mem hi));by_cases h:a.2.1[i]=b.2.1[i]
  ·rw [if_pos h,← qa1 hb];rw [decide_eq_true h] at hk;simp [qhH,↓Tr.run_ite,hi,hj,hlen,hk]
  ·rw [if_neg h];rw [decide_eq_false h] at hk;simp [qhH,↓Tr.run_ite,hi,hj,hlen,hk]
 ·show qcX _ _=_
  rw [qAD];simp [qhH,↓Tr.run_ite,hlen]
theorem qCD (a b:Pg) (hlen:a.2.2.length=b.2.2.length) (hM:a.2.2.length≤mI) (hx:∀ x∈a.2.2,bRu x):qcZ [.ptr 0 0,.ptr 1 0,.int .i64 0] ⟨[[.sl (rOf cD a.1) .non,.sl (rOf cE a.2.1) .non,.sl (rOf cRu a.2.2) .non],[.sl (rOf cD b.1) .non,.sl (rOf cE b.2.1) .non,.sl (rOf cRu b.2.2) .non]],[],[27,27]⟩=if a.2.2=b.2.2 then some (.exit 4,[],⟨[[.sl (rOf cD a.1) .non,.sl (rOf cE a.2.1) .non,.sl (rOf cRu a.2.2) .non],[.sl (rOf cD b.1) .non,.sl (rOf cE b.2.1) .non,.sl (rOf cRu b.2.2) .non]],[],[27,27]⟩) else some (.ret,[.bool false],⟨[[.sl (rOf cD a.1) .non,.sl (rOf cE a.2.1) .non,.sl (rOf cRu a.2.2) .non],[.sl (rOf cD b.1) .non,.sl (rOf cE b.2.1) .non,.sl (rOf cRu b.2.2) .non]],[],[27,27]⟩):=by
 refine qbm hlen (V:=fun i=>qcZ [.ptr 0 0,.ptr 1 0,.int .i64 (i:Nat)] ⟨[[.sl (rOf cD a.1) .non,.sl (rOf cE a.2.1) .non,.sl (rOf cRu a.2.2) .non],[.sl (rOf cD b.1) .non,.sl (rOf cE b.2.1) .non,.sl (rOf cRu b.2.2) .non]],[],[27,27]⟩) _ _ (fun i hi hj=>?_) ?_
 ·have hb:i < 9223372036854775807:=Nat.lt_of_lt_of_le hi hM;have hj2:i < a.2.2.length:=hi;show qcZ _ _=if _ then qcZ [.ptr 0 0,.ptr 1 0,.int .i64 ((i+1:Nat):Int)] _ else _
  conv=>lhs;rw [qAm]
  have hk:=qw4 (a.2.2)[i] (b.2.2)[i] (hx _ (List.getElem_mem hi));by_cases h:a.2.2[i]=b.2.2[i]
  ·rw [if_pos h,← qa1 hb];rw [decide_eq_true h] at hk;simp [qhG,↓Tr.run_ite,hi,hj,hlen,hk]
  ·rw [if_neg h];rw [decide_eq_false h] at hk;simp [qhG,↓Tr.run_ite,hi,hj,hlen,hk]
 ·show qcZ _ _=_
  rw [qAm];simp [qhG,↓Tr.run_ite,hlen]
theorem qH6 (a b:Pg) (h:bPg a):qeJ (rOf cD a.1) (rOf cE a.2.1) (rOf cRu a.2.2) (rOf cD b.1) (rOf cE b.2.1) (rOf cRu b.2.2)=some (.bool (decide (a=b))):=by
 obtain⟨a1,a2,a3⟩:=a;obtain⟨b1,b2,b3⟩:=b;by_cases hl:a1.length=b1.length
 ·by_cases hm:a2.length=b2.length
  ·by_cases hn:a3.length=b3.length
   ·have k1:=qB7 (a1,a2,a3) (b1,b2,b3) hl h.1.1 h.1.2;have k2:=qB2 (a1,a2,a3) (b1,b2,b3) hm h.2.1.1 h.2.1.2;have k3:=qCD (a1,a2,a3) (b1,b2,b3) hn h.2.2.1 h.2.2.2;by_cases h1:a1=b1
    ·subst h1;rw [if_pos rfl] at k1;by_cases h2:a2=b2
     ·subst h2;rw [if_pos rfl] at k2;by_cases h3:a3=b3
      ·subst h3;rw [if_pos rfl] at k3;simp [qeJ,qdp,qgj,qhV,qky,↓Tr.run_ite,k1,k2,k3]
      ·rw [if_neg h3] at k3;simp [qeJ,qdp,qgj,qhV,qky,↓Tr.run_ite,k1,k2,k3,hn,h3]
     ·rw [if_neg h2] at k2;simp [qeJ,qdp,qgj,qhV,↓Tr.run_ite,k1,k2,hm,hn,h2]
    ·rw [if_neg h1] at k1;simp [qeJ,qdp,qgj,↓Tr.run_ite,k1,hl,hm,hn,h1]
   ·have h3:a3≠b3:=fun e=>hn (by rw [e])
    have hi:¬ ((a3.length:Int)=(b3.length:Int)):=by omega
    simp [qeJ,qdp,↓Tr.run_ite,hi,h3,hl,hm]
  ·have h3:a2≠b2:=fun e=>hm (by rw [e])
   have hi:¬ ((a2.length:Int)=(b2.length:Int)):=by omega
   simp [qeJ,qdp,↓Tr.run_ite,hi,h3,hl]
 ·have h3:a1≠b1:=fun e=>hl (by rw [e])
  have hi:¬ ((a1.length:Int)=(b1.length:Int)):=by omega
  simp [qeJ,qdp,↓Tr.run_ite,hi,h3]
def smP (g:Pg):Pg:=(g.1.take 20,g.2.1.take 20,g.2.2.take 20)
theorem qE7 {g:Pg} (h:bPg g):bPg (smP g):=by
 have t:∀ {α:Type} (l:List α),(l.take 20).length≤mI:=fun l=>by simp only [List.length_take];show _≤9223372036854775807;omega
 exact⟨⟨t _,fun x hx=>h.1.2 x (List.mem_of_mem_take hx)⟩,⟨t _,fun x hx=>h.2.1.2 x (List.mem_of_mem_take hx)⟩,⟨t _,fun x hx=>h.2.2.2 x (List.mem_of_mem_take hx)⟩⟩
theorem qta (g:Pg):qiV (rOf cD g.1) (rOf cE g.2.1) (rOf cRu g.2.2)=some (.agg [.sl (rOf cD (smP g).1) .non,.sl (rOf cE (smP g).2.1) .non,.sl (rOf cRu (smP g).2.2) .non]):=by
 obtain⟨a,b,c⟩:=g;have k:∀ {α:Type} (l:List α),¬ 20 < l.length→l.take 20=l:=fun l hl=>List.take_of_length_le (by omega)
 have z:∀ n:Nat,((20:Int) < (n:Int))=(20 < n):=fun n=>propext (by omega)
 by_cases h1:20 < a.length<;>by_cases h2:20 < b.length<;>by_cases h3:20 < c.length<;>simp [qiV,qrl,↓Tr.run_ite,smP,z,h1,h2,h3,Nat.le_of_lt,k]
theorem qyG (a b:Pg) (h:bPg a):qbW [.ptr 0 0,.ptr 1 0,.int .i64 0] ⟨[[.sl (rOf cD a.1) .non,.sl (rOf cE a.2.1) .non,.sl (rOf cRu a.2.2) .non],[.sl (rOf cD b.1) .non,.sl (rOf cE b.2.1) .non,.sl (rOf cRu b.2.2) .non]],[],[27,27]⟩=some (.exit 0,[],⟨[[.sl (rOf cD a.1) .non,.sl (rOf cE a.2.1) .non,.sl (rOf cRu a.2.2) .non],[.sl (rOf cD b.1) .non,.sl (rOf cE b.2.1) .non,.sl (rOf cRu b.2.2) .non]],[],[27,27]⟩):=by
 refine qHV (n:=Nat.min a.2.2.length b.2.2.length) (V:=fun i=>qbW [.ptr 0 0,.ptr 1 0,.int .i64 (i:Nat)] ⟨[[.sl (rOf cD a.1) .non,.sl (rOf cE a.2.1) .non,.sl (rOf cRu a.2.2) .non],[.sl (rOf cD b.1) .non,.sl (rOf cE b.2.1) .non,.sl (rOf cRu b.2.2) .non]],[],[27,27]⟩) (good:=some (.exit 0,[],⟨[[.sl (rOf cD a.1) .non,.sl (rOf cE a.2.1) .non,.sl (rOf cRu a.2.2) .non],[.sl (rOf cD b.1) .non,.sl (rOf cE b.2.1) .non,.sl (rOf cRu b.2.2) .non]],[],[27,27]⟩)) (fun i hi=>?_) ?_
 ·have hi1:i < a.2.2.length:=Nat.lt_of_lt_of_le hi (Nat.min_le_left _ _);have hi2:i < b.2.2.length:=Nat.lt_of_lt_of_le hi (Nat.min_le_right _ _);have hb:i < 9223372036854775807:=Nat.lt_of_lt_of_le hi1 h.2.2.1;show qbW _ _=qbW [.ptr 0 0,.ptr 1 0,.int .i64 ((i+1:Nat):Int)] _
  conv=>lhs;rw [qyd]
  rw [← qa1 hb];have hr:=h.2.2.2 _ (List.getElem_mem hi1);have k1:=qw6 a.2.2[i] b.2.2[i] hr;have k2:=qw4 a.2.2[i] b.2.2[i] hr;have k3:=qkI a.2.2[i].1 b.2.2[i].1 hr.1;have k4:=qlf a.2.2[i].1 b.2.2[i].1 hr.1;simp [qdu,↓Tr.run_ite,hi1,hi2,k1,k2,k3,k4]
 ·show qbW _ _=_
  rw [qyd];by_cases hl:a.2.2.length≤b.2.2.length
  ·have e:Nat.min a.2.2.length b.2.2.length=a.2.2.length:=Nat.min_eq_left hl;simp [qdu,↓Tr.run_ite,e]
  ·have e:Nat.min a.2.2.length b.2.2.length=b.2.2.length:=Nat.min_eq_right (by omega)
   have hl2:b.2.2.length < a.2.2.length:=by omega
   simp [qdu,↓Tr.run_ite,e,hl2]
theorem qCx (p q:Pg) (h:bPg p):(qk3 (rOf cD p.1) (rOf cE p.2.1) (rOf cRu p.2.2) (rOf cD q.1) (rOf cE q.2.1) (rOf cRu q.2.2)).run=some (.bool true):=by
 have h1:=qta p;have h2:=qta q;have hp:=qE7 h;generalize smP p=a at h1 hp;generalize smP q=b at h2;have k1:=qA5 a b hp;have k2:=qH6 a b hp;have k3:=qA5 a a hp;rw [decide_eq_true rfl] at k3;have k4:=qyG a b hp;simp [qk3,qle,↓Tr.run_ite,h1,h2,k1,k2,k3,k4]
def Sd (x:PV):Prop:=∃ H w v,Rel H w x v
def SdL (xs:List PV):Prop:=∃ H w vs,RelL H w xs vs
theorem SdL.at_ {xs:List PV} (h:SdL xs) (i:Nat) {x:PV} (hi:xs[i]?=some x):Sd x:=by
 obtain⟨H,w,vs,h⟩:=h;obtain⟨v,_,hr⟩:=h.get hi;exact⟨H,w,v,hr⟩
theorem Sd.agg {xs:List PV} (h:Sd (.agg xs)):SdL xs:=by
 obtain⟨H,w,v,h⟩:=h;cases h with
 |agg _ vs h=>exact⟨H,w,vs,h⟩
theorem Sd.rows {α:Type} {C:Cod α} {l:List α} {t:Tag} (h:Sd (.sl (rOf C l) t)):∀ a∈l,SdL (C.enc a):=by
 obtain⟨H,w,v,h⟩:=h;intro a ha;obtain⟨i,hi⟩:=List.getElem?_of_mem ha;cases h with
 |sl p len cap k xs vss t hl hcap hm h hr ht =>
  obtain⟨u,_,hu⟩:=h.get (qKV C hi);exact⟨H,w,u,hu⟩
theorem Sd.len {α:Type} {C:Cod α} {l:List α} {t:Tag} (h:Sd (.sl (rOf C l) t)):l.length≤mI:=by
 obtain⟨H,w,v,h⟩:=h;cases h with
 |sl p len cap k xs vss t hl hcap hm h hr ht =>
  have e:(rOf C l).length=l.length:=by simp
  have m:maxLen=mI:=by decide
  omega
theorem qNt {x:Ru} (h:SdL (cRu.enc x)):bRu x :=
 ⟨(h.at_ 1 (x:=.sl (rOf cM x.1.2) .non) rfl).len,(h.at_ 2 (x:=.sl (rOf cL x.2) .non) rfl).len,fun l hl=>(((h.at_ 2 (x:=.sl (rOf cL x.2) .non) rfl).rows l hl).at_ 2 (x:=.sl (rOf cM l.2.1.2) .non) rfl).len⟩
theorem qMt {d:De} (h:SdL (cD.enc d)):bDe d:=(h.at_ 2 (x:=.sl (rOf cI d.2.2) .non) rfl).len
theorem qMQ {o:En} (h:SdL (cE.enc o)):bEn o :=
 ⟨(h.at_ 1 (x:=.sl (rOf cP o.2.1) .non) rfl).len,(h.at_ 2 (x:=.sl (rOf cAc o.2.2) .non) rfl).len,fun a ha=>(((h.at_ 2 (x:=.sl (rOf cAc o.2.2) .non) rfl).rows a ha).at_ 2 (x:=.sl (rOf cM a.2.2) .non) rfl).len⟩
theorem qMp {p:Pg} (h:SdL [.sl (rOf cD p.1) .non,.sl (rOf cE p.2.1) .non,.sl (rOf cRu p.2.2) .non]):bPg p :=
 ⟨⟨(h.at_ 0 rfl).len,fun x hx=>qMt ((h.at_ 0 (x:=.sl (rOf cD p.1) .non) rfl).rows x hx)⟩,⟨(h.at_ 1 rfl).len,fun x hx=>qMQ ((h.at_ 1 (x:=.sl (rOf cE p.2.1) .non) rfl).rows x hx)⟩,⟨(h.at_ 2 rfl).len,fun x hx=>qNt ((h.at_ 2 (x:=.sl (rOf cRu p.2.2) .non) rfl).rows x hx)⟩⟩
theorem qCE (p q:Pg) (hg:∃ H w vs,RelL H w [.agg [.sl (rOf cD p.1) .non,.sl (rOf cE p.2.1) .non,.sl (rOf cRu p.2.2) .non],.agg [.sl (rOf cD q.1) .non,.sl (rOf cE q.2.1) .non,.sl (rOf cRu q.2.2) .non]] vs):(qkQ [.agg [.sl (rOf cD p.1) .non,.sl (rOf cE p.2.1) .non,.sl (rOf cRu p.2.2) .non],.agg [.sl (rOf cD q.1) .non,.sl (rOf cE q.2.1) .non,.sl (rOf cRu q.2.2) .non]]).run=some (.bool true):=by
 have hg:SdL [.agg [.sl (rOf cD p.1) .non,.sl (rOf cE p.2.1) .non,.sl (rOf cRu p.2.2) .non],.agg [.sl (rOf cD q.1) .non,.sl (rOf cE q.2.1) .non,.sl (rOf cRu q.2.2) .non]]:=hg;have h:=qCx p q (qMp (hg.at_ 0 rfl).agg);unfold qkQ;simpa using h
end Go.Pv
set_option maxHeartbeats 4000000
set_option maxRecDepth 200000
set_option linter.unusedSimpArgs false
set_option linter.unusedVariables false
namespace Go.Pv
open Go Go.Proofs Go.RowKit Go.Proofs.YtlemepahgalogaaGreatDoor
theorem g_pow : Tryz.prog.globalNamed "internal/strconv.uint64pow10" = some 2 := by kernel_rfl
theorem gt_pow:(Tryz.prog.globals[2]?).map (·.type)=some 240:=by kernel_rfl
theorem g_rng : Tryz.prog.globalNamed "strconv.ErrRange" = some 4 := by kernel_rfl
theorem gt_rng:(Tryz.prog.globals[4]?).map (·.type)=some 189:=by kernel_rfl
theorem g_syn : Tryz.prog.globalNamed "strconv.ErrSyntax" = some 3 := by kernel_rfl
theorem gt_syn:(Tryz.prog.globals[3]?).map (·.type)=some 189:=by kernel_rfl
theorem g_two : Tryz.prog.globalNamed "pedigree/lex.twos" = some 0 := by kernel_rfl
theorem gt_two:(Tryz.prog.globals[0]?).map (·.type)=some 208:=by kernel_rfl
def glAt (W:World):Gl:=⟨fun b=>W.heap[b]?,fun _ _=>.cells #[] 0 (0,0),fun _=>[]⟩
def laidL : List (String × DataW Unit) := [("math/bits.deBruijn32tab", Rows.laid_math_bits_deBruijn32tab), ("math/bits.deBruijn64tab", Rows.laid_math_bits_deBruijn64tab), ("internal/strconv.uint64pow10", Rows.laid_internal_strconv_uint64pow10), ("strconv.ErrRange", Rows.laid_strconv_ErrRange), ("strconv.ErrSyntax", Rows.laid_strconv_ErrSyntax), ("pedigree/lex.twos", Rows.laid_pedigree_lex_twos)]
theorem qj6:(laidL.filter fun x=>x.2.handleName?.isSome)=[]:=by kernel_rfl
theorem qCj {W:World} (h:laidMetH Tryz.prog laidL W):GlPow (glAt W):=by
 unfold laidMetH at h
 rw [qj6] at h
 obtain⟨ps,hl,_⟩:=h;refine⟨?_⟩;obtain ⟨g, t, cs, fuel, p, h1, h2, h3, h4⟩ := qlW (nm := "internal/strconv.uint64pow10") hl (.tail _ (.tail _ (.head _)));obtain rfl:=Option.some.inj (g_pow.symm.trans h1);obtain rfl:=Option.some.inj (gt_pow.symm.trans h2);have e:(Rows.laid_internal_strconv_uint64pow10:DataW Unit)=Lib.tabData .u64 Lib.pow10Tab:=by rfl
 rw [e] at h4;have hc:=Lib.cells_of_tab Tryz.underlying240 Tryz.underlying209 (by kernel_rfl) (by kernel_rfl) h4
 obtain⟨T,f,hh⟩:=qom h1 h3;refine⟨2,T,f,g_pow,?_⟩;show W.heap[2]?=_
 rw [← hc];simpa using hh
theorem qGS {W:World} (h0:laidMetH Tryz.prog laidL W):GlOk (glAt W):=by
 have h:=h0;unfold laidMetH at h
 rw [qj6] at h
 obtain⟨ps,hl,_⟩:=h;refine⟨qCj h0,?_,?_⟩
 ·obtain ⟨g, t, cs, fuel, p, h1, h2, h3, h4⟩ := qlW (nm := "strconv.ErrSyntax") hl (.tail _ (.tail _ (.tail _ (.tail _ (.head _)))));obtain rfl:=Option.some.inj (g_syn.symm.trans h1);obtain rfl:=Option.some.inj (gt_syn.symm.trans h2);obtain⟨u,v,rfl⟩:=qsn Tryz.underlying189 h4;obtain⟨T,f,hh⟩:=qom h1 h3;exact⟨u,v,3,T,f,g_syn,hh⟩
 ·obtain ⟨g, t, cs, fuel, p, h1, h2, h3, h4⟩ := qlW (nm := "strconv.ErrRange") hl (.tail _ (.tail _ (.tail _ (.head _))));obtain rfl:=Option.some.inj (g_rng.symm.trans h1);obtain rfl:=Option.some.inj (gt_rng.symm.trans h2);obtain⟨u,v,rfl⟩:=qsn Tryz.underlying189 h4;obtain⟨T,f,hh⟩:=qom h1 h3;exact⟨u,v,4,T,f,g_rng,hh⟩
theorem quW {H:Type} {enc:TypeId×Value→H} {P:Program} {w:World} {base:Nat} {sp:Nat→Bool} {held:Bool} {fuel:Nat} {t e:TypeId} {n:Nat} {cs:List Value} {zs:List (List UInt8)} {p:List MemPlace}
  (ht:P.underlying t=some (.array n e)) (he:P.underlying e=some .string) (hce:P.cellsOf e=1) (hct:P.cellsOf t=n)
  (h:DataW.trod enc P w base sp held fuel t cs=some (.agg (zs.map fun z=>.lit (.string z)),p)):cs=zs.map fun z=>Value.string ⟨z.toArray⟩:=by
 cases fuel with
 |zero=>simp [DataW.trod] at h
 |succ fuel =>
  simp only [DataW.trod,ht,hce,hct,Nat.mul_one] at h
  split at h
  ·rename_i hl;obtain⟨xs,hm,hx⟩:=Option.map_eq_some_iff.1 h;have hxs:xs.map (·.1)=zs.map fun z=>(DataW.lit (.string z):DataW H):=by
    have:=congrArg Prod.fst hx;simpa using this
   have hxl:xs.length=n:=by simpa using Lib.mapM_length hm
   have hzl:zs.length=n:=by
    have:=congrArg List.length hxs;simp at this;omega
   apply List.ext_getElem?;intro i;by_cases hi:i < n
   ·obtain⟨b,hb,hf⟩:=Lib.mapM_at hm i i (by simp [hi])
    obtain⟨z,hc,rfl,_⟩:=DataW.trod_string he hf;have h1:cs[i]?=some (.string z):=by
     have:=congrArg (·[0]?) hc;simpa [List.getElem?_take,List.getElem?_drop] using this
    have h2:(xs.map (·.1))[i]?=some (DataW.lit (.string z.data.toList):DataW H):=by simp [hb]
    rw [hxs] at h2;simp only [List.getElem?_map,Option.map_eq_some_iff,DataW.lit.injEq,Lit.string.injEq] at h2;obtain⟨z',hz',rfl⟩:=h2;simp [h1,hz']
   ·rw [List.getElem?_eq_none (by omega),List.getElem?_eq_none (by simp;omega)]
  ·cases h
theorem qCM {W:World} (h0:laidMetH Tryz.prog laidL W):GlLex (glAt W):=by
 have h:=h0;unfold laidMetH at h
 rw [qj6] at h
 obtain⟨ps,hl,_⟩:=h;refine⟨qGS h0,?_⟩;obtain ⟨g, t, cs, fuel, p, h1, h2, h3, h4⟩ := qlW (nm := "pedigree/lex.twos") hl (.tail _ (.tail _ (.tail _ (.tail _ (.tail _ (.head _))))));obtain rfl:=Option.some.inj (g_two.symm.trans h1);obtain rfl:=Option.some.inj (gt_two.symm.trans h2);have e:(Rows.laid_pedigree_lex_twos:DataW Unit)=.agg (twosV.map fun z=>.lit (.string z)):=by rfl
 rw [e] at h4;have hc:=quW Tryz.underlying208 Tryz.underlying9 (by kernel_rfl) (by kernel_rfl) h4
 obtain⟨T,f,hh⟩:=qom h1 h3;refine⟨0,T,f,g_two,?_⟩;show W.heap[0]?=_
 rw [← hc];simpa using hh
theorem qLc:laidOutB Tryz.prog=true:=by kernel_rfl
theorem qDw {F:List PV→Tr PV} {f:FuncId} {fn:Func} {s:ChangeSpec} (hsim:∀ {gl:Gl},GlLex gl→SimP Tryz.prog gl f fun args=>(F args).run) (hF:∀ xs,ArgL Tryz.prog fn.params.toList xs→(∃ H w vs,RelL H w xs vs)→(F xs).run=some (.bool true))
  (hrt:fn.resultTypes=#[4]) (hsv:s.vars=[]) (hT:(fn.params.toList.all fun t=>okT Tryz.prog 16 t&&Tryz.prog.readableRec t&&decide (t < Tryz.prog.types.size))=true)
  {H:Type} {enc:TypeId×Value→H} {W:World} {base:Nat} {args:Array Value} {ds gs:List (DataW H)} {before:List MemPlace} (hfn:∀ ds:List (DataW H),ds.length=fn.params.size→s.fn H ds={ results:=[.lit (.bool true)],args:=ds })
  (hval:∀ (j:Nat) t v,fn.params[j]?=some t→args[j]?=some v→Value.okWide Tryz.prog W .any base t v) (hW:DataW.Whole enc Tryz.prog fn.params.toList s.vars false W args.toList ds gs before) (hL:laidMetH Tryz.prog laidL W) :
  Calls Tryz.prog f args W fun e W'=>∃ v,e=.returned v∧s.post enc Tryz.prog fn false true false false W args v W':=by
 have hW':=hW;obtain⟨p,q,hA,hV,rfl,hfz,hnd⟩:=hW';have hT':∀ t∈fn.params.toList,okT Tryz.prog 16 t=true∧Tryz.prog.readableRec t=true∧t < Tryz.prog.types.size:=by
  intro t ht;have:=List.all_eq_true.1 hT t ht;simp only [Bool.and_eq_true,decide_eq_true_eq] at this;exact⟨this.1.1,this.1.2,this.2⟩
 obtain⟨xs,hx,ha⟩:=qBj (n:=16) (fun j t v ht hv=>hval j t v (by simpa using ht) (by simpa using hv)) hA (List.all_eq_true.2 fun t ht=>(hT' t ht).1)
 have hlen:ds.length=fn.params.size:=by
  have h1:∀ {ts:List TypeId} {vs:List Value} {ds:List (DataW H)} {ps:List MemPlace},DataW.TrodAll enc Tryz.prog W 0 (fun _=>true) true ts vs ds ps→ds.length=ts.length:=by
   intro ts
   induction ts with
   |nil=>intro vs ds ps h;obtain⟨rfl,rfl,rfl⟩:=Go.ChangeShapes.trodAll_nil h;rfl
   |cons t ts ih =>
    intro vs ds ps h;obtain⟨v,vs',d,ds',p,q,rfl,rfl,rfl,hd,hrest⟩:=Go.ChangeShapes.trodAll_cons h;simp [ih hrest]
  simpa using h1 hA
 have hc:=(hsim (qCM hL)).run xs _ (hF xs ha ⟨_,_,_,hx⟩) (ghOf W) W args.toList rfl rfl rfl (fun b o h=>h) hx
 simp only [Array.toArray_toList] at hc;refine hc.mono ?_;rintro e W' ⟨v,rfl,hb,hr⟩;cases hr
 exact⟨_,rfl,qHO qLc hrt Tryz.underlying4 hsv (fun t ht=>(hT' t ht).2) hW (hfn ds hlen) hb.1⟩
end Go.Pv
namespace Go.Proofs.YtlemepahgalogaaGreatDoor
open Go Go.Proofs Go.RowKit Go.Pv Go.ChangeShapes Go.WideShapes Go.ChangeAt
theorem qjR {t:TypeId} {k:IntKind} {xs:List PV} (hu:Tryz.prog.underlying t=some (.int k)) (h:Shp Tryz.prog t xs):∃ n,xs=[.int k n]:=by
 cases h with
 |int t k' n h=>rw [hu] at h;cases h;exact⟨n,rfl⟩
 |bool t b h=>rw [hu] at h;cases h
 |str t l h=>rw [hu] at h;cases h
 |sl t e xss h hx=>rw [hu] at h;cases h
 |struct t fs xs h hx=>rw [hu] at h;cases h
theorem qm0 {t:TypeId} {xs:List PV} (hu:Tryz.prog.underlying t=some .string) (h:Shp Tryz.prog t xs):∃ l,xs=[.str l]:=by
 cases h with
 |str t l h=>exact⟨l,rfl⟩
 |int t k' n h=>rw [hu] at h;cases h
 |bool t b h=>rw [hu] at h;cases h
 |sl t e xss h hx=>rw [hu] at h;cases h
 |struct t fs xs h hx=>rw [hu] at h;cases h
theorem qbz {t:TypeId} {fs:Array Field} {xs:List PV} (hu:Tryz.prog.underlying t=some (.struct fs)) (h:Shp Tryz.prog t xs):ShpL Tryz.prog (fs.toList.map (·.type)) xs:=by
 cases h with
 |struct t fs xs h hx=>rw [hu] at h;cases h;exact hx
 |str t l h=>rw [hu] at h;cases h
 |int t k' n h=>rw [hu] at h;cases h
 |bool t b h=>rw [hu] at h;cases h
 |sl t e xss h hx=>rw [hu] at h;cases h
theorem qMM {t e:TypeId} {xs:List PV} (hu:Tryz.prog.underlying t=some (.slice e)) (h:Shp Tryz.prog t xs):∃ xss,xs=[.sl xss .non]∧∀ ys,ys∈xss→Shp Tryz.prog e ys:=by
 cases h with
 |sl t e xss h hx=>rw [hu] at h;cases h;exact⟨xss,rfl,hx⟩
 |str t l h=>rw [hu] at h;cases h
 |int t k' n h=>rw [hu] at h;cases h
 |bool t b h=>rw [hu] at h;cases h
 |struct t fs xs h hx=>rw [hu] at h;cases h
theorem qen {α:Type} (C:Cod α) {t e:TypeId} {xs:List PV} (hu:Tryz.prog.underlying t=some (.slice e)) (he:∀ ys,Shp Tryz.prog e ys→∃ a,ys=C.enc a) (h:Shp Tryz.prog t xs):∃ l:List α,xs=[.sl (rOf C l) .non]:=by
 obtain⟨xss,rfl,hx⟩:=qMM hu h;have:∃ l:List α,xss=rOf C l:=by
  clear h
  induction xss with
  |nil=>exact⟨[],rfl⟩
  |cons y ys ih =>
   obtain⟨a,rfl⟩:=he y (hx y (List.mem_cons_self ..));obtain⟨l,rfl⟩:=ih fun z hz=>hx z (List.mem_cons_of_mem _ hz)
   exact⟨a::l,rfl⟩
 obtain⟨l,rfl⟩:=this;exact⟨l,rfl⟩
def qu1:DataW Unit→Array Value
 |.agg l=>(l.map fun d=>match d with|.lit (.int k n)=>Value.int k n|.lit (.string s)=>Value.string ⟨s.toArray⟩|_=>undef).toArray
 |_=>#[]
def low:Nat:=(World.holding Tryz.prog default ⟨#[],#[],[]⟩).heap.size
def qpW (os:Os):World :=
 let w0:=World.holding Tryz.prog os ⟨#[.cells #[.string ⟨#[118,97,108,117,101,32,111,117,116,32,111,102,32,114,97,110,103,101]⟩] 259,.cells #[.string ⟨#[105,110,118,97,108,105,100,32,115,121,110,116,97,120]⟩] 259],#[],[]⟩
 { w0 with heap:=((((((w0.heap.modify 3 fun
  |.cells _ t frozen=>.cells #[.iface 257 (.pointer (some ⟨low+1,0,none⟩))] t frozen
  |o=>o).modify 4 fun
  |.cells _ t frozen=>.cells #[.iface 257 (.pointer (some ⟨low,0,none⟩))] t frozen
  |o=>o).modify 5 fun
  |.cells _ t frozen=>.cells (qu1 Rows.laid_math_bits_deBruijn32tab) t frozen
  |o=>o).modify 6 fun
  |.cells _ t frozen=>.cells (qu1 Rows.laid_math_bits_deBruijn64tab) t frozen
  |o=>o).modify 2 fun
  |.cells _ t frozen=>.cells (qu1 Rows.laid_internal_strconv_uint64pow10) t frozen
  |o=>o).modify 0 fun
  |.cells _ t frozen=>.cells (qu1 Rows.laid_pedigree_lex_twos) t frozen
  |o=>o) }
theorem own:ownKnob Tryz.prog.godebug=none:=by kernel_rfl
theorem qIb (os:Os) (args:Array Value):laidMet Tryz.prog laidL ((qpW os).forCall (fun _ _=>0) ⟨#[],args,[]⟩).memory :=
 laidMet_of_run' 8 (by kernel_rfl) (by kernel_rfl)
end Go.Proofs.YtlemepahgalogaaGreatDoor
set_option maxHeartbeats 4000000
set_option maxRecDepth 200000
set_option linter.unusedSimpArgs false
set_option linter.unusedVariables false
namespace Go.Proofs.YtlemepahgalogaaGreatDoor
open Go Go.Proofs Go.RowKit Go.Pv Go.ChangeShapes Go.WideShapes Go.ChangeAt
abbrev Pr:=List De×List En×List Ru
theorem qL0 {xs:List PV} (h:Shp Tryz.prog 42 xs):∃ v:Vl,xs=[.int .i64 v.1,.int .i64 v.2.1,.str v.2.2]:=by
 have h1:=qbz Tryz.underlying42 h;cases h1 with
 |cons t ts xs ys ha hs =>
  obtain⟨k,rfl⟩:=qjR Tryz.underlying40 ha;cases hs with
  |cons t ts xs ys hb hs =>
   obtain⟨n,rfl⟩:=qjR Tryz.underlying2 hb;cases hs with
   |cons t ts xs ys hc hs =>
    obtain⟨s,rfl⟩:=qm0 Tryz.underlying9 hc;cases hs
    exact⟨(k,n,s),rfl⟩
theorem qBH {t:TypeId} {xs:List PV} (hu:Tryz.prog.underlying t=some .bool) (h:Shp Tryz.prog t xs):∃ b,xs=[.bool b]:=by
 cases h with
 |bool _ b _=>exact⟨b,rfl⟩
 |int _ _ _ h=>rw [hu] at h;cases h
 |str _ _ h=>rw [hu] at h;cases h
 |sl _ _ _ h _=>rw [hu] at h;cases h
 |struct _ _ _ h _=>rw [hu] at h;cases h
theorem qwg {xs:List PV} (h:Shp Tryz.prog 94 xs):∃ v:Tm,xs=cM.enc v:=by
 have h1:=qbz Tryz.underlying94 h;cases h1 with
 |cons t ts xs ys ha0 hs =>
  obtain⟨x0,rfl⟩:=qjR Tryz.underlying92 ha0;cases hs with
  |cons t ts xs ys ha1 hs =>
   obtain⟨x1,rfl⟩:=qm0 Tryz.underlying9 ha1;cases hs with
   |cons t ts xs ys ha2 hs =>
    obtain⟨x2,rfl⟩:=qL0 ha2;cases hs
    exact⟨(x0,x1,x2),rfl⟩
theorem qwt {xs:List PV} (h:Shp Tryz.prog 48 xs):∃ v:At,xs=cA.enc v:=by
 have h1:=qbz Tryz.underlying48 h;cases h1 with
 |cons t ts xs ys ha0 hs =>
  obtain⟨x0,rfl⟩:=qm0 Tryz.underlying9 ha0;cases hs with
  |cons t ts xs ys ha1 hs =>
   obtain⟨x1,rfl⟩:=qen cM Tryz.underlying46 (fun _ h=>qwg h) ha1
   cases hs
   exact⟨(x0,x1),rfl⟩
theorem qKj {xs:List PV} (h:Shp Tryz.prog 96 xs):∃ v:Li,xs=cL.enc v:=by
 have h1:=qbz Tryz.underlying96 h;cases h1 with
 |cons t ts xs ys ha0 hs =>
  obtain⟨x0,rfl⟩:=qjR Tryz.underlying90 ha0;cases hs with
  |cons t ts xs ys ha1 hs =>
   obtain⟨x1,rfl⟩:=qwt ha1;cases hs with
   |cons t ts xs ys ha2 hs =>
    obtain⟨x2,rfl⟩:=qjR Tryz.underlying91 ha2;cases hs with
    |cons t ts xs ys ha3 hs =>
     obtain⟨x3,rfl⟩:=qwg ha3;cases hs with
     |cons t ts xs ys ha4 hs =>
      obtain⟨x4,rfl⟩:=qwg ha4;cases hs
      exact⟨(x0,x1,x2,x3,x4),rfl⟩
theorem qHK {xs:List PV} (h:Shp Tryz.prog 51 xs):∃ v:Ru,xs=cRu.enc v:=by
 have h1:=qbz Tryz.underlying51 h;cases h1 with
 |cons t ts xs ys ha0 hs =>
  obtain⟨x0,rfl⟩:=qwt ha0;cases hs with
  |cons t ts xs ys ha1 hs =>
   obtain⟨x1,rfl⟩:=qen cL Tryz.underlying49 (fun _ h=>qKj h) ha1
   cases hs
   exact⟨(x0,x1),rfl⟩
theorem qKg {xs:List PV} (h:Shp Tryz.prog 112 xs):∃ v:Int,xs=cI.enc v:=by
 obtain⟨n,rfl⟩:=qjR Tryz.underlying112 h;exact⟨n,rfl⟩
theorem qIl {xs:List PV} (h:Shp Tryz.prog 80 xs):∃ v:De,xs=cD.enc v:=by
 have h1:=qbz Tryz.underlying80 h;cases h1 with
 |cons t ts xs ys ha0 hs =>
  obtain⟨x0,rfl⟩:=qm0 Tryz.underlying9 ha0;cases hs with
  |cons t ts xs ys ha1 hs =>
   obtain⟨x1,rfl⟩:=qBH Tryz.underlying4 ha1;cases hs with
   |cons t ts xs ys ha2 hs =>
    obtain⟨x2,rfl⟩:=qen cI Tryz.underlying78 (fun _ h=>qKg h) ha2
    cases hs
    exact⟨(x0,x1,x2),rfl⟩
theorem qEX {xs:List PV} (h:Shp Tryz.prog 114 xs):∃ v:Pa,xs=cP.enc v:=by
 have h1:=qbz Tryz.underlying114 h;cases h1 with
 |cons t ts xs ys ha0 hs =>
  obtain⟨x0,rfl⟩:=qm0 Tryz.underlying9 ha0;cases hs with
  |cons t ts xs ys ha1 hs =>
   obtain⟨x1,rfl⟩:=qjR Tryz.underlying112 ha1;cases hs
   exact⟨(x0,x1),rfl⟩
theorem qLb {xs:List PV} (h:Shp Tryz.prog 116 xs):∃ v:Ac,xs=cAc.enc v:=by
 have h1:=qbz Tryz.underlying116 h;cases h1 with
 |cons t ts xs ys ha0 hs =>
  obtain⟨x0,rfl⟩:=qBH Tryz.underlying4 ha0;cases hs with
  |cons t ts xs ys ha1 hs =>
   obtain⟨x1,rfl⟩:=qwt ha1;cases hs
   exact⟨(x0,x1),rfl⟩
theorem qNb {xs:List PV} (h:Shp Tryz.prog 85 xs):∃ v:En,xs=cE.enc v:=by
 have h1:=qbz Tryz.underlying85 h;cases h1 with
 |cons t ts xs ys ha0 hs =>
  obtain⟨x0,rfl⟩:=qm0 Tryz.underlying9 ha0;cases hs with
  |cons t ts xs ys ha1 hs =>
   obtain⟨x1,rfl⟩:=qen cP Tryz.underlying82 (fun _ h=>qEX h) ha1
   cases hs with
   |cons t ts xs ys ha2 hs =>
    obtain⟨x2,rfl⟩:=qen cAc Tryz.underlying83 (fun _ h=>qLb h) ha2
    cases hs
    exact⟨(x0,x1,x2),rfl⟩
theorem qIH {xs:List PV} (h:Shp Tryz.prog 27 xs):∃ p:Pr,xs=[.sl (rOf cD p.1) .non,.sl (rOf cE p.2.1) .non,.sl (rOf cRu p.2.2) .non]:=by
 have h1:=qbz Tryz.underlying27 h;cases h1 with
 |cons t ts xs ys ha hs =>
  obtain⟨a,rfl⟩:=qen cD Tryz.underlying23 (fun _ h=>qIl h) ha
  cases hs with
  |cons t ts xs ys hb hs =>
   obtain⟨b,rfl⟩:=qen cE Tryz.underlying24 (fun _ h=>qNb h) hb
   cases hs with
   |cons t ts xs ys hc hs =>
    obtain⟨c,rfl⟩:=qen cRu Tryz.underlying25 (fun _ h=>qHK h) hc
    cases hs
    exact⟨(a,b,c),rfl⟩
theorem qAJ {x:PV} (h:Arg Tryz.prog 27 x):∃ p:Pr,x=.agg [.sl (rOf cD p.1) .non,.sl (rOf cE p.2.1) .non,.sl (rOf cRu p.2.2) .non]:=by
 rcases h with⟨fs,ys,hu,rfl,hs⟩|⟨hne,_⟩
 ·obtain⟨p,rfl⟩:=qIH hs;exact⟨p,rfl⟩
 ·exact absurd Tryz.underlying27 (hne _)
end Go.Proofs.YtlemepahgalogaaGreatDoor
