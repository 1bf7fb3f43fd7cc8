/- Part 4 of the proof: pure values for the machine's values, what functions compute over them, and laws of what is computed. Conditions: none beyond each theorem's own premises. -/
import Derived.Test.YtakhnioifgbdfaaGreatDoorPvG3
noncomputable section
set_option maxHeartbeats 8000000
set_option maxRecDepth 200000
set_option linter.unusedSimpArgs false
set_option linter.unusedVariables false
namespace Go.Pv
open Go Go.Proofs Go.RowKit
def rEnd (acc:List Wd):List Wd×Option Nat→Option (PExit×List PV×Store)
 |(l,none)=>some (.exit 0,[.sl (rOf cW (acc++l)) (aT (acc++l))],aS 6 120 (acc++l))
 |(l,some p)=>some (.ret,[.sl [] .full,.int .i64 (p:Nat),.int .i64 120],aS 6 120 (acc++l))
theorem qQL (s:qU) (hs:s.length≤70000):∀ (f i:Nat) (acc:List Wd),i≤s.length→s.length < i+f→acc.length≤i→qcK [.str s,.sl (rOf cW acc) (aT acc),.int .i64 (i:Nat)] (aS 6 120 acc)=rEnd acc (lexL f i (s.drop i)):=by
 intro f
 induction f with
 |zero=>intro i acc h1 h2 _;omega
 |succ f ih =>
  intro i acc h1 h2 h3;by_cases hlt:i < s.length
  ·have hne:s.drop i≠[]:=by
    intro h;have:=congrArg List.length h;simp at this;omega
   obtain⟨c,t,hct⟩:=List.exists_cons_of_ne_nil hne;have hw:=qK2 (v:=s) (by omega) hct
   rw [← hct] at hw;have t1:iLt (i:Int) (sLen s)=true:=by simp;omega
   have eL:lexL (f+1) i (s.drop i)=match wdL (s.drop i) with
     |none=>([],some i)
     |some (k,m,v) =>
      ((k,(s.drop i).take m,v,(i:Int))::(lexL f (i+m+gapL false ((s.drop i).drop m)) ((s.drop i).drop (m+gapL false ((s.drop i).drop m)))).1,(lexL f (i+m+gapL false ((s.drop i).drop m)) ((s.drop i).drop (m+gapL false ((s.drop i).drop m)))).2):=by
    rw [hct];rfl
   rw [eL];cases hwd:wdL (s.drop i) with
   |none =>
    rw [hwd] at hw;simp only [rOut,wTup] at hw;have a0:qg8 s (i:Int)=true:=by simp only [qg8,qfz,qdQ,qdU,qdW,qdY,qdV,qiz,hw];simp
    have a6:qiz s (i:Int)=false:=by simp only [qiz,hw];simp
    cases acc with
    |nil =>
     show qcK [_,.sl [] .full,_] ⟨[],[],[]⟩=_
     rw [qvE];simp only [qiS,t1,a0,a6];simp [rEnd]
    |cons a l =>
     show qcK [_,.sl (rOf cW (a::l)) (.tok 0),_] ⟨[],[((a::l).length,6,120)],[]⟩=_
     rw [qpV];simp only [qhg,t1,a0,a6];simp [rEnd,aS]
   |some r =>
    obtain⟨k,m,v⟩:=r;rw [hwd] at hw;simp only [rOut,wTup] at hw;have a0:qg8 s (i:Int)=true:=by simp only [qg8,qfz,qdQ,qdU,qdW,qdY,qdV,qiz,hw];simp
    have a1:qfz s (i:Int)=k:=by simp only [qfz,hw];simp
    have a2:qdQ s (i:Int)=(s.drop i).take m:=by simp only [qdQ,hw];simp
    have a3:qdU s (i:Int)=v.1:=by simp only [qdU,hw];simp
    have a4:qdW s (i:Int)=v.2.1:=by simp only [qdW,hw];simp
    have a5:qdY s (i:Int)=v.2.2:=by simp only [qdY,hw];simp
    have a7:qdV s (i:Int)=(i:Int):=by simp only [qdV,hw];simp
    have a6:qiz s (i:Int)=true:=by simp only [qiz,hw];simp
    obtain⟨m1,m2⟩:=qDB hwd;have hx:((s.drop i).take m).length=m:=by rw [List.length_take];omega
    have m3:i+m≤s.length:=by simp at m2;omega
    have e1:iAdd .i64 (i:Int) (sLen ((s.drop i).take m))=((i+m:Nat):Int):=by
     rw [qji,hx];exact qbD (by omega)
    have g1:qio s ((i+m:Nat):Int)=true:=qMq (by omega) m3
    have g2:qeK s ((i+m:Nat):Int)=((i+m+gapL false (s.drop (i+m)):Nat):Int):=qOJ (by omega) m3
    have g3:=qtP false (s.drop (i+m));have hd1:(s.drop i).drop m=s.drop (i+m):=by rw [List.drop_drop]
    have hd2:(s.drop i).drop (m+gapL false (s.drop (i+m)))=s.drop (i+m+gapL false (s.drop (i+m))):=by rw [List.drop_drop];congr 1;omega
    simp only [hd1,hd2];have hih:=ih (i+m+gapL false (s.drop (i+m))) (acc++[(k,(s.drop i).take m,v,(i:Int))]) (by simp at g3;omega) (by omega) (by simp;omega)
    have hfin:rEnd (acc++[(k,(s.drop i).take m,v,(i:Int))]) (lexL f (i+m+gapL false (s.drop (i+m))) (s.drop (i+m+gapL false (s.drop (i+m)))))=rEnd acc ((k,(s.drop i).take m,v,(i:Int))::(lexL f (i+m+gapL false (s.drop (i+m))) (s.drop (i+m+gapL false (s.drop (i+m))))).1,(lexL f (i+m+gapL false (s.drop (i+m))) (s.drop (i+m+gapL false (s.drop (i+m))))).2):=by
     cases hr:lexL f (i+m+gapL false (s.drop (i+m))) (s.drop (i+m+gapL false (s.drop (i+m)))) with
     |mk l o=>cases o<;>simp [rEnd]
    rw [← hfin,← hih,qPN,qQR];have o2:qaH [[PV.int .i64 k,.str ((s.drop i).take m),.int .i64 v.1,.int .i64 v.2.1,.str v.2.2,.int .i64 (i:Int)]] 6=true:=by simp [one]
    cases acc with
    |nil =>
     show qcK [_,.sl [] .full,_] ⟨[],[],[]⟩=_
     rw [qvE];have o1:qaI [] [[PV.int .i64 k,.str ((s.drop i).take m),.int .i64 v.1,.int .i64 v.2.1,.str v.2.2,.int .i64 (i:Int)]] 64=true:=by simp
     simp only [qiS,t1,a0,a1,a2,a3,a4,a5,a6,a7,e1,g1,g2,o1,o2];simp [qOR,qKb]
    |cons a l =>
     show qcK [_,.sl (rOf cW (a::l)) (.tok 0),_] ⟨[],[((a::l).length,6,120)],[]⟩=_
     rw [qpV];have o1:qaI (rOf cW (a::l)) [[PV.int .i64 k,.str ((s.drop i).take m),.int .i64 v.1,.int .i64 v.2.1,.str v.2.2,.int .i64 (i:Int)]] 64=true:=by
      simp only [List.length_cons] at h3;simp;omega
     simp only [qhg,t1,a0,a1,a2,a3,a4,a5,a6,a7,e1,g1,g2,o1,o2];simp [qIA]
  ·have:i=s.length:=by omega
   subst this;rw [List.drop_eq_nil_of_le (Nat.le_refl _),qEA];have t1:iLt (s.length:Int) (sLen s)=false:=by simp
   cases acc with
   |nil =>
    show qcK [_,.sl [] .full,_] ⟨[],[],[]⟩=_
    rw [qvE];simp only [qiS,t1];simp [rEnd]
   |cons a l =>
    show qcK [_,.sl (rOf cW (a::l)) (.tok 0),_] ⟨[],[((a::l).length,6,120)],[]⟩=_
    rw [qpV];simp only [qhg,t1];simp [rEnd,aT,aS]
theorem qHl {s:List UInt8} (hs:s.length≤70000):qjN s=some (if 65536 < s.length then .tup [.sl [] .non,.int .i64 0,.int .i64 2] else wOut (qhJ s)):=by
 have hg:=qtP false s;have h:=qQL s hs (s.length+1) (gapL false s) [] hg (by omega) (by simp)
 rw [show lexL (s.length+1) (gapL false s) (s.drop (gapL false s))=qhJ s from rfl] at h
 unfold qjN qtu;have g1:qio s 0=true:=qMq (i:=0) (by omega) (by omega)
 have g2:qeK s 0=(gapL false s:Nat):=by
  have:=qOJ (s:=s) (i:=0) (by omega) (by omega)
  simpa using this
 rw [g1,g2];by_cases hl:65536 < s.length
 ·have:iLt 65536 (sLen s)=true:=by simp;omega
  rw [this,if_pos hl];rfl
 ·have:iLt 65536 (sLen s)=false:=by simp;omega
  rw [this,if_neg hl];generalize qhJ s=r at h ⊢;simp only [qSY,qSs,qRC] at h
  generalize ((gapL false s:Nat):Int)=g at h ⊢;obtain⟨l,o⟩:=r;cases o with
  |none =>
   cases l with
   |nil =>
    simp only [rEnd,List.append_nil,List.nil_append,aT,aS] at h
    simp only [qf0,qf3,qf7,qfL,qf5,qfS,qd5,qel,qeU,qeX,qdr,qdp,qe4,qe1,qcl,h];simp [wOut]
   |cons a l =>
    simp only [rEnd,List.nil_append,aT,aS] at h
    simp only [qf0,qf3,qf7,qfL,qf5,qfS,qd5,qel,qeU,qeX,qdr,qdp,qe4,qe1,qcl,h];simp [wOut]
  |some p =>
   cases l with
   |nil =>
    simp only [rEnd,List.append_nil,List.nil_append,aT,aS] at h
    simp only [qf0,qf3,qf7,qfL,qf5,qfS,qd5,qel,qeU,qeX,qdr,qdp,qe4,qe1,qcl,h];simp [wOut]
   |cons a l =>
    simp only [rEnd,List.nil_append,aT,aS] at h
    simp only [qf0,qf3,qf7,qfL,qf5,qfS,qd5,qel,qeU,qeX,qdr,qdp,qe4,qe1,qcl,h];simp [wOut]
end Go.Pv
set_option maxHeartbeats 8000000
set_option maxRecDepth 200000
set_option linter.unusedSimpArgs false
set_option linter.unusedVariables false
namespace Go.Pv
open Go Go.Proofs Go.RowKit
def wL (s:qU):List Wd:=match qhJ s with|(l,none)=>l|_=>[]
def wN (s:qU):Int:=match (qhJ s).2 with|none=>0|some p=>(p:Nat)
def wE (s:qU):Int:=match (qhJ s).2 with|none=>0|some _=>120
theorem qJ3 (s:qU):wOut (qhJ s)=.tup [.sl (rOf cW (wL s)) .non,.int .i64 (wN s),.int .i64 (wE s)]:=by
 unfold wL wN wE;cases h:qhJ s with
 |mk l o=>cases o<;>rfl
theorem qmJ {s:List UInt8} (hs:s.length≤65536):qjZ s=some (.tup [.sl (rOf cW (wL s)) .non,.int .i64 (wN s),.int .i64 (wE s)]):=by
 rw [qG0 (by omega),if_neg (by omega),qJ3]
theorem qmv {s:List UInt8} (hs:s.length≤65536):qjN s=some (.tup [.sl (rOf cW (wL s)) .non,.int .i64 (wN s),.int .i64 (wE s)]):=by
 rw [qHl (by omega),if_neg (by omega),qJ3]
section
variable {s : List UInt8} (hs : s.length ≤ 65536)
include hs
theorem qww:qgP s=rOf cW (wL s):=by simp only [qgP,qmJ hs];simp
theorem qGj:qsS s=wN s:=by simp only [qsS,qmJ hs];simp
theorem qwS:qkY s=wE s:=by simp only [qkY,qmJ hs];simp
theorem qBD:qmr s=true:=by simp only [qmr,qww hs,qGj hs,qwS hs,qmJ hs];simp
theorem qw5:qgM s=rOf cW (wL s):=by simp only [qgM,qmv hs];simp
theorem qGR:qr9 s=wN s:=by simp only [qr9,qmv hs];simp
theorem qwC:qlm s=wE s:=by simp only [qlm,qmv hs];simp
theorem qC5:qmI s=true:=by simp only [qmI,qw5 hs,qGR hs,qwC hs,qmv hs];simp
end
end Go.Pv
set_option maxHeartbeats 8000000
set_option maxRecDepth 200000
set_option linter.unusedSimpArgs false
set_option linter.unusedVariables false
namespace Go.Pv
open Go Go.Proofs Go.RowKit
def gpB (b:UInt8):Bool:=blB b || decide (b.toNat=37)
def Nxt (r r':qU):Prop:=r'=[]∨hdIs gpB r'=true∨∃ b t t',r=b::t∧r'=b::t'
theorem qrA {p:UInt8→Bool} (hp:∀ b,gpB b=true→p b=false) {r r':List UInt8} (hn:Nxt r r') (h:hdIs p r=false):hdIs p r'=false:=by
 rcases hn with rfl|hg|⟨b,t,t',rfl,rfl⟩
 ·rfl
 ·cases r' with
  |nil=>rfl
  |cons b t=>exact hp b hg
 ·exact h
theorem qrL {p:UInt8→Bool} (hp:∀ b,gpB b=true→p b=false) {r r':List UInt8} (hn:Nxt r r'):∀ t:qU,runL p (t++r)=t.length→runL p (t++r')=t.length
 |[],h=>by
  have h1:hdIs p r=false:=by
   cases r with
   |nil=>rfl
   |cons b t =>
    simp only [List.nil_append,runL,List.length_nil] at h
    cases hb:p b with
    |false=>exact hb
    |true=>rw [hb] at h;simp at h
  have h2:=qrA hp hn h1;cases r' with
  |nil=>rfl
  |cons b t =>
   have h2:p b=false:=h2;simp [runL,h2]
 |a::t,h=>by
  simp only [List.cons_append,runL,List.length_cons] at h ⊢;cases ha:p a with
  |false=>rw [ha] at h;simp at h
  |true =>
   rw [ha] at h
   simp only [if_true,Nat.add_right_cancel_iff] at h ⊢;exact qrL hp hn t h
theorem qxS {n m:Nat} (h:incN n=m+1):n=m∧m≠0:=by
 unfold incN at h
 split at h<;>omega
theorem qsH (r r':qU):∀ (e:Bool) (t:qU),quoE e (t++r)=t.length→t.length≠0→quoE e (t++r')=t.length
 |_,[],_,h=>absurd rfl h
 |true,a::t,h,_=>by
  simp only [List.cons_append,quoE,List.length_cons] at h ⊢;obtain⟨h1,h2⟩:=qxS h;rw [qsH r r' false t h1 h2];simp [incN,h2]
 |false,a::t,h,_=>by
  simp only [List.cons_append,quoE,List.length_cons] at h ⊢;split at h
  ·rename_i h1;rw [if_pos h1];exact h
  ·rename_i h1;rw [if_neg h1];split at h
   ·rename_i h2;rw [if_pos h2];obtain⟨h1,h2⟩:=qxS h;rw [qsH r r' true t h1 h2];simp [incN,h2]
   ·rename_i h2;rw [if_neg h2];obtain⟨h1,h2⟩:=qxS h;rw [qsH r r' false t h1 h2];simp [incN,h2]
theorem qyo {b:UInt8} (h:gpB b=true):b.toNat=32∨b.toNat=9∨b.toNat=10∨b.toNat=13∨b.toNat=37:=by
 simp only [gpB,blB,Bool.or_eq_true,decide_eq_true_eq] at h
 omega
theorem qJ0 (b:UInt8) (h:gpB b=true):innB b=false:=by
 rcases qyo h with h|h|h|h|h<;>simp [innB,qhI,qlq,qbf,h]
theorem qTm (b:UInt8) (h:gpB b=true):qbf b=false:=by
 rcases qyo h with h|h|h|h|h<;>simp [qbf,h]
theorem qSB (c b:UInt8) (h:gpB b=true):twoB c b=false:=by
 rcases qyo h with h|h|h|h|h<;>simp [twoB,h]
theorem qAk {k k':Int} {s:List UInt8} {n m:Nat} {v:Vl} (h:valL k s n=some (k',m,v)):k'=k∧m=n∧rdV (s.take n)=some v:=by
 unfold valL at h
 split at h
 ·rename_i v' hv;cases h
  exact⟨rfl,rfl,hv⟩
 ·cases h
theorem qK7 {k:Int} {s s':List UInt8} {n m:Nat} {k':Int} {v:Vl} (h:valL k s n=some (k',m,v)) (e:s'.take n=s.take n):valL k s' n=some (k',m,v):=by
 unfold valL at h ⊢;rw [e];exact h
theorem qQ2 {x r r':List UInt8} {k:Int} {v:Vl} (h:wdL (x++r)=some (k,x.length,v)) (hn:Nxt r r'):wdL (x++r')=some (k,x.length,v):=by
 have hl:=(qDB h).1;cases x with
 |nil=>simp at hl
 |cons c t =>
  simp only [List.cons_append,wdL,List.length_cons] at h ⊢;by_cases h1:qhI c=true
  ·simp only [h1,if_true] at h ⊢;split at h
   ·rename_i h2;simp only [Option.some.injEq,Prod.mk.injEq,Nat.add_right_cancel_iff] at h
    obtain⟨rfl,h3,rfl⟩:=h;have:=qrL qJ0 hn t h3;rw [this,if_pos (by omega)]
   ·cases h
  ·rw [if_neg h1] at h ⊢;by_cases h2:qlq c=true
   ·simp only [h2,if_true] at h ⊢;split at h
    ·rename_i h4;simp only [Option.some.injEq,Prod.mk.injEq,Nat.add_right_cancel_iff] at h
     obtain⟨rfl,h3,rfl⟩:=h;have:=qrL qJ0 hn t h3;rw [this,if_pos (by omega)]
    ·cases h
   ·rw [if_neg h2] at h ⊢;by_cases h3:c.toNat=95
    ·rw [if_pos h3] at h ⊢;split at h
     ·cases h
     ·rename_i h4;simp only [Option.some.injEq,Prod.mk.injEq] at h
      obtain⟨rfl,h5,rfl⟩:=h;have ht:t=[]:=by cases t with|nil=>rfl|cons=>simp at h5
      subst ht;have h6:=qrA qJ0 hn (by simpa using h4)
      simp [h6]
    ·rw [if_neg h3] at h ⊢;have dgs:∀ q:Bool,(q || (decide (c.toNat=45)&&hdIs qbf (t++r)))=(q || (decide (c.toNat=45)&&hdIs qbf (t++r')))∨(t=[]∧hdIs qbf r=true):=by
      intro q;cases t with
      |cons a t=>exact .inl rfl
      |nil =>
       cases hr:hdIs qbf r with
       |true=>exact .inr ⟨rfl,rfl⟩
       |false =>
        have:=qrA qTm hn hr
        left
        simp [hr,this]
     by_cases h4:(qbf c || (decide (c.toNat=45)&&hdIs qbf (t++r)))=true
     ·rw [if_pos h4] at h
      obtain⟨hk,hm,hv⟩:=qAk h;have h5:runL qbf (t++r)=t.length:=by omega
      have h6:=qrL qTm hn t h5;have h7:(qbf c || (decide (c.toNat=45)&&hdIs qbf (t++r')))=true:=by
       rcases dgs (qbf c) with e|⟨rfl,e⟩
       ·rw [← e];exact h4
       ·cases r with
        |nil=>simp [hdIs] at e
        |cons b u =>
         have e:qbf b=true:=e;simp [runL,e] at h5
      rw [if_pos h7,h6];rw [h5] at h
      refine qK7 h ?_;simp
     ·rw [if_neg h4] at h
      have h7:¬ (qbf c || (decide (c.toNat=45)&&hdIs qbf (t++r')))=true:=by
       rcases dgs (qbf c) with e|⟨rfl,e⟩
       ·rw [← e];exact h4
       ·intro hh;apply h4;simp only [List.nil_append,Bool.or_eq_true,Bool.and_eq_true] at hh ⊢;rcases hh with hh|⟨hh,_⟩
        ·exact .inl hh
        ·exact .inr ⟨hh,e⟩
      rw [if_neg h7];by_cases h5:c.toNat=34
      ·rw [if_pos h5] at h ⊢;split at h
       ·cases h
       ·rename_i h6;obtain⟨hk,hm,hv⟩:=qAk h;have h8:quoL (t++r)=t.length:=by omega
        have h9:quoL (t++r')=t.length:=qsH r r' false t h8 (by omega)
        rw [h9,if_neg (by omega)]
        rw [h8] at h
        refine qK7 h ?_;simp
      ·rw [if_neg h5] at h ⊢;split at h
       ·cases h
       ·rename_i h6;simp only [Option.some.injEq,Prod.mk.injEq] at h
        obtain⟨rfl,h8,rfl⟩:=h;have h9:qfK c (t++r')=t.length+1:=by
         unfold qfK at h8 ⊢;cases t with
         |nil =>
          show (if hdIs (twoB c) r'=true then 2 else if qmR c=true then 1 else 0)=1
          have h8:(if hdIs (twoB c) r=true then 2 else if qmR c=true then 1 else 0)=1:=h8;cases hr:hdIs (twoB c) r with
          |true=>rw [if_pos hr] at h8;omega
          |false =>
           rw [if_neg (by rw [hr];simp)] at h8
           rw [if_neg (by rw [qrA (qSB c) hn hr];simp)]
           exact h8
         |cons d t =>
          simp only [List.cons_append,hdIs] at h8 ⊢;exact h8
        rw [h9];simp
def gpS:Bool→qU→Option Bool
 |c,[]=>some c
 |c,b::s=>if c || blB b || decide (b.toNat=37) then gpS (decide (b.toNat=37) || c&&decide (b.toNat≠10)) s else none
theorem qJD:∀ (g:qU) (c c':Bool) (s:qU),gpS c g=some c'→gpS c (g++s)=gpS c' s
 |[],c,c',s,h=>by cases h;simp
 |b::g,c,c',s,h=>by
  simp only [gpS] at h
  split at h
  ·rename_i hb;simp only [List.cons_append,gpS,hb,if_true];exact qJD g _ c' s h
  ·cases h
abbrev Wv:=Int×List UInt8×Vl
inductive Lx:List Wv→qU→Prop
 |nil (s:qU) (c:Bool) (h:gpS false s=some c):Lx [] s
 |cons (g x r:qU) (k:Int) (v:Vl) (l:List Wv) (hg:gpS false g=some false) (hw:wdL (x++r)=some (k,x.length,v)) (h:Lx l r):Lx ((k,x,v)::l) (g++(x++r))
theorem Lx.tail {z:List UInt8} (hz:hdIs gpB z=true) (h0:∀ c,∃ c',gpS c z=some c') {l:List Wv} {s:List UInt8} (h:Lx l s):Lx l (s++z):=by
 induction h with
 |nil s c h =>
  obtain⟨c',hc⟩:=h0 c;exact .nil _ c' (by rw [qJD s false c z h];exact hc)
 |cons g x r k v l hg hw h ih =>
  rw [List.append_assoc,List.append_assoc];refine .cons g x (r++z) k v l hg (qQ2 hw ?_) ih;cases r with
  |nil=>exact .inr (.inl hz)
  |cons b r=>exact .inr (.inr ⟨b,r,r++z,rfl,rfl⟩)
theorem join_nil (sep:qU):qeB [] sep=[]:=rfl
end Go.Pv
set_option linter.unusedSimpArgs false
set_option linter.unusedVariables false
namespace Go.Pv
abbrev At:=List UInt8×List Tm
def cA:Cod At where
 enc t:=[.str t.1,.sl (rOf cM t.2) .non]
 dec c:=match c with|[.str x0,.sl x1 .non]=>(match deR cM x1 with|some y1=>some (x0,y1)|_=>none)|_=>none
 k:=2
 of_dec c a h:=by
  split at h
  ·split at h
   ·cases h
    rename_i h1;rw [qgp cM h1]
   ·cases h
  ·cases h
 dec_of a:=by simp only [qk7 cM]
 lock a:=by simp only [qhy,lock,qau]
 shut a:=by simp only [qgU,shut,qgX]
 len a:=rfl
 one a:=rfl
@[simp] theorem okSize_cA (l:List At):qaB (rOf cA l) 2=true:=qdb cA l
@[simp] theorem okNews_cA (l:List At):qaH (rOf cA l) 2=true:=qdc cA l
@[simp] theorem okGet_cA (l:List At) (i:Nat):qa3 [.str [],.sl [] .full] (rOf cA l) i=decide (i < l.length):=qeg _ _ (fun _=>rfl) l i
@[simp] theorem xStr_cA0 (l:List At) (i:Nat):xStr (rOf cA l) i 0=(l[i]?.getD ([],[])).1:=by unfold xStr;rw [qaY];cases l[i]?<;>rfl
@[simp] theorem xRow_cA1 (l:List At) (i:Nat):xRow (rOf cA l) i 1=rOf cM ((l[i]?.getD ([],[])).2):=by unfold xRow;rw [qaY];cases l[i]?<;>rfl
abbrev Li:=Int×At×Int×Tm×Tm
def cL:Cod Li where
 enc t:=[.int .i64 t.1,.str t.2.1.1,.sl (rOf cM t.2.1.2) .non,.int .i64 t.2.2.1,.int .i64 t.2.2.2.1.1,.str t.2.2.2.1.2.1,.int .i64 t.2.2.2.1.2.2.1,.int .i64 t.2.2.2.1.2.2.2.1,.str t.2.2.2.1.2.2.2.2,.int .i64 t.2.2.2.2.1,.str t.2.2.2.2.2.1,.int .i64 t.2.2.2.2.2.2.1,.int .i64 t.2.2.2.2.2.2.2.1,.str t.2.2.2.2.2.2.2.2]
 dec c:=match c with|[.int .i64 x0,.str x1,.sl x2 .non,.int .i64 x3,.int .i64 x4,.str x5,.int .i64 x6,.int .i64 x7,.str x8,.int .i64 x9,.str x10,.int .i64 x11,.int .i64 x12,.str x13]=>(match deR cM x2 with|some y2=>some (x0,(x1,y2),x3,(x4,x5,x6,x7,x8),(x9,x10,x11,x12,x13))|_=>none)|_=>none
 k:=14
 of_dec c a h:=by
  split at h
  ·split at h
   ·cases h
    rename_i h2;rw [qgp cM h2]
   ·cases h
  ·cases h
 dec_of a:=by simp only [qk7 cM]
 lock a:=by simp only [qhy,lock,qau]
 shut a:=by simp only [qgU,shut,qgX]
 len a:=rfl
 one a:=rfl
@[simp] theorem qKv (l:List Li):qaB (rOf cL l) 14=true:=qdb cL l
@[simp] theorem okNews_cL (l:List Li):qaH (rOf cL l) 14=true:=qdc cL l
@[simp] theorem okGet_cL (l:List Li) (i:Nat):qa3 [.int .i64 0,.str [],.sl [] .full,.int .i64 0,.int .i64 0,.str [],.int .i64 0,.int .i64 0,.str [],.int .i64 0,.str [],.int .i64 0,.int .i64 0,.str []] (rOf cL l) i=decide (i < l.length):=qeg _ _ (fun _=>rfl) l i
@[simp] theorem xInt_cL0 (l:List Li) (i:Nat):xInt (rOf cL l) i 0=(l[i]?.getD (0,([],[]),0,(0,[],0,0,[]),(0,[],0,0,[]))).1:=by unfold xInt;rw [qaY];cases l[i]?<;>rfl
@[simp] theorem xStr_cL1 (l:List Li) (i:Nat):xStr (rOf cL l) i 1=(l[i]?.getD (0,([],[]),0,(0,[],0,0,[]),(0,[],0,0,[]))).2.1.1:=by unfold xStr;rw [qaY];cases l[i]?<;>rfl
@[simp] theorem xRow_cL2 (l:List Li) (i:Nat):xRow (rOf cL l) i 2=rOf cM ((l[i]?.getD (0,([],[]),0,(0,[],0,0,[]),(0,[],0,0,[]))).2.1.2):=by unfold xRow;rw [qaY];cases l[i]?<;>rfl
@[simp] theorem xInt_cL3 (l:List Li) (i:Nat):xInt (rOf cL l) i 3=(l[i]?.getD (0,([],[]),0,(0,[],0,0,[]),(0,[],0,0,[]))).2.2.1:=by unfold xInt;rw [qaY];cases l[i]?<;>rfl
@[simp] theorem xInt_cL4 (l:List Li) (i:Nat):xInt (rOf cL l) i 4=(l[i]?.getD (0,([],[]),0,(0,[],0,0,[]),(0,[],0,0,[]))).2.2.2.1.1:=by unfold xInt;rw [qaY];cases l[i]?<;>rfl
@[simp] theorem xStr_cL5 (l:List Li) (i:Nat):xStr (rOf cL l) i 5=(l[i]?.getD (0,([],[]),0,(0,[],0,0,[]),(0,[],0,0,[]))).2.2.2.1.2.1:=by unfold xStr;rw [qaY];cases l[i]?<;>rfl
@[simp] theorem xInt_cL6 (l:List Li) (i:Nat):xInt (rOf cL l) i 6=(l[i]?.getD (0,([],[]),0,(0,[],0,0,[]),(0,[],0,0,[]))).2.2.2.1.2.2.1:=by unfold xInt;rw [qaY];cases l[i]?<;>rfl
@[simp] theorem xInt_cL7 (l:List Li) (i:Nat):xInt (rOf cL l) i 7=(l[i]?.getD (0,([],[]),0,(0,[],0,0,[]),(0,[],0,0,[]))).2.2.2.1.2.2.2.1:=by unfold xInt;rw [qaY];cases l[i]?<;>rfl
@[simp] theorem xStr_cL8 (l:List Li) (i:Nat):xStr (rOf cL l) i 8=(l[i]?.getD (0,([],[]),0,(0,[],0,0,[]),(0,[],0,0,[]))).2.2.2.1.2.2.2.2:=by unfold xStr;rw [qaY];cases l[i]?<;>rfl
@[simp] theorem xInt_cL9 (l:List Li) (i:Nat):xInt (rOf cL l) i 9=(l[i]?.getD (0,([],[]),0,(0,[],0,0,[]),(0,[],0,0,[]))).2.2.2.2.1:=by unfold xInt;rw [qaY];cases l[i]?<;>rfl
@[simp] theorem xStr_cL10 (l:List Li) (i:Nat):xStr (rOf cL l) i 10=(l[i]?.getD (0,([],[]),0,(0,[],0,0,[]),(0,[],0,0,[]))).2.2.2.2.2.1:=by unfold xStr;rw [qaY];cases l[i]?<;>rfl
@[simp] theorem xInt_cL11 (l:List Li) (i:Nat):xInt (rOf cL l) i 11=(l[i]?.getD (0,([],[]),0,(0,[],0,0,[]),(0,[],0,0,[]))).2.2.2.2.2.2.1:=by unfold xInt;rw [qaY];cases l[i]?<;>rfl
@[simp] theorem xInt_cL12 (l:List Li) (i:Nat):xInt (rOf cL l) i 12=(l[i]?.getD (0,([],[]),0,(0,[],0,0,[]),(0,[],0,0,[]))).2.2.2.2.2.2.2.1:=by unfold xInt;rw [qaY];cases l[i]?<;>rfl
@[simp] theorem xStr_cL13 (l:List Li) (i:Nat):xStr (rOf cL l) i 13=(l[i]?.getD (0,([],[]),0,(0,[],0,0,[]),(0,[],0,0,[]))).2.2.2.2.2.2.2.2:=by unfold xStr;rw [qaY];cases l[i]?<;>rfl
theorem qP2 (l:List Li) (x0:Int) (x1:qU) (x2:List Tm) (x3:Int) (x4:Int) (x5:qU) (x6:Int) (x7:Int) (x8:qU) (x9:Int) (x10:qU) (x11:Int) (x12:Int) (x13:qU):rOf cL l++[[.int .i64 x0,.str x1,.sl (rOf cM x2) .non,.int .i64 x3,.int .i64 x4,.str x5,.int .i64 x6,.int .i64 x7,.str x8,.int .i64 x9,.str x10,.int .i64 x11,.int .i64 x12,.str x13]]=rOf cL (l++[(x0,(x1,x2),x3,(x4,x5,x6,x7,x8),(x9,x10,x11,x12,x13))]):=by rw [qit];rfl
abbrev Ru:=At×List Li
def cRu:Cod Ru where
 enc t:=[.str t.1.1,.sl (rOf cM t.1.2) .non,.sl (rOf cL t.2) .non]
 dec c:=match c with|[.str x0,.sl x1 .non,.sl x2 .non]=>(match deR cM x1,deR cL x2 with|some y1,some y2=>some ((x0,y1),y2)|_,_=>none)|_=>none
 k:=3
 of_dec c a h:=by
  split at h
  ·split at h
   ·cases h
    rename_i h1 h2;rw [qgp cM h1,qgp cL h2]
   ·cases h
  ·cases h
 dec_of a:=by simp only [qk7 cL,qk7 cM]
 lock a:=by simp only [qhy,lock,qau]
 shut a:=by simp only [qgU,shut,qgX]
 len a:=rfl
 one a:=rfl
@[simp] theorem qG4 (l:List Ru):qaB (rOf cRu l) 3=true:=qdb cRu l
@[simp] theorem okNews_cRu (l:List Ru):qaH (rOf cRu l) 3=true:=qdc cRu l
@[simp] theorem okGet_cRu (l:List Ru) (i:Nat):qa3 [.str [],.sl [] .full,.sl [] .full] (rOf cRu l) i=decide (i < l.length):=qeg _ _ (fun _=>rfl) l i
@[simp] theorem xStr_cRu0 (l:List Ru) (i:Nat):xStr (rOf cRu l) i 0=(l[i]?.getD (([],[]),[])).1.1:=by unfold xStr;rw [qaY];cases l[i]?<;>rfl
@[simp] theorem xRow_cRu1 (l:List Ru) (i:Nat):xRow (rOf cRu l) i 1=rOf cM ((l[i]?.getD (([],[]),[])).1.2):=by unfold xRow;rw [qaY];cases l[i]?<;>rfl
@[simp] theorem xRow_cRu2 (l:List Ru) (i:Nat):xRow (rOf cRu l) i 2=rOf cL ((l[i]?.getD (([],[]),[])).2):=by unfold xRow;rw [qaY];cases l[i]?<;>rfl
theorem qOk (l:List Ru) (x0:qU) (x1:List Tm) (x2:List Li):rOf cRu l++[[.str x0,.sl (rOf cM x1) .non,.sl (rOf cL x2) .non]]=rOf cRu (l++[((x0,x1),x2)]):=by rw [qit];rfl
abbrev De:=List UInt8×Bool×List Int
def cD:Cod De where
 enc t:=[.str t.1,.bool t.2.1,.sl (rOf cI t.2.2) .non]
 dec c:=match c with|[.str x0,.bool x1,.sl x2 .non]=>(match deR cI x2 with|some y2=>some (x0,x1,y2)|_=>none)|_=>none
 k:=3
 of_dec c a h:=by
  split at h
  ·split at h
   ·cases h
    rename_i h2;rw [qgp cI h2]
   ·cases h
  ·cases h
 dec_of a:=by simp only [qk7 cI]
 lock a:=by simp only [qhy,lock,qau]
 shut a:=by simp only [qgU,shut,qgX]
 len a:=rfl
 one a:=rfl
@[simp] theorem qJt (l:List De):qaB (rOf cD l) 3=true:=qdb cD l
@[simp] theorem okNews_cD (l:List De):qaH (rOf cD l) 3=true:=qdc cD l
@[simp] theorem okGet_cD (l:List De) (i:Nat):qa3 [.str [],.bool false,.sl [] .full] (rOf cD l) i=decide (i < l.length):=qeg _ _ (fun _=>rfl) l i
@[simp] theorem xStr_cD0 (l:List De) (i:Nat):xStr (rOf cD l) i 0=(l[i]?.getD ([],false,[])).1:=by unfold xStr;rw [qaY];cases l[i]?<;>rfl
@[simp] theorem xBool_cD1 (l:List De) (i:Nat):qcu (rOf cD l) i 1=(l[i]?.getD ([],false,[])).2.1:=by unfold qcu;rw [qaY];cases l[i]?<;>rfl
@[simp] theorem xRow_cD2 (l:List De) (i:Nat):xRow (rOf cD l) i 2=rOf cI ((l[i]?.getD ([],false,[])).2.2):=by unfold xRow;rw [qaY];cases l[i]?<;>rfl
theorem qRe (l:List De) (x0:qU) (x1:Bool) (x2:List Int):rOf cD l++[[.str x0,.bool x1,.sl (rOf cI x2) .non]]=rOf cD (l++[(x0,x1,x2)]):=by rw [qit];rfl
abbrev Pa:=List UInt8×Int
def cP:Cod Pa where
 enc t:=[.str t.1,.int .i64 t.2]
 dec c:=match c with|[.str x0,.int .i64 x1]=>(some (x0,x1))|_=>none
 k:=2
 of_dec c a h:=by
  split at h
  ·cases h;rfl
  ·cases h
 dec_of a:=rfl
 lock a:=rfl
 shut a:=rfl
 len a:=rfl
 one a:=rfl
@[simp] theorem qKx (l:List Pa):qaB (rOf cP l) 2=true:=qdb cP l
@[simp] theorem okNews_cP (l:List Pa):qaH (rOf cP l) 2=true:=qdc cP l
@[simp] theorem okGet_cP (l:List Pa) (i:Nat):qa3 [.str [],.int .i64 0] (rOf cP l) i=decide (i < l.length):=qeg _ _ (fun _=>rfl) l i
@[simp] theorem xStr_cP0 (l:List Pa) (i:Nat):xStr (rOf cP l) i 0=(l[i]?.getD ([],0)).1:=by unfold xStr;rw [qaY];cases l[i]?<;>rfl
@[simp] theorem xInt_cP1 (l:List Pa) (i:Nat):xInt (rOf cP l) i 1=(l[i]?.getD ([],0)).2:=by unfold xInt;rw [qaY];cases l[i]?<;>rfl
theorem qQC (l:List Pa) (x0:qU) (x1:Int):rOf cP l++[[.str x0,.int .i64 x1]]=rOf cP (l++[(x0,x1)]):=by rw [qit];rfl
abbrev Ac:=Bool×At
def cAc:Cod Ac where
 enc t:=[.bool t.1,.str t.2.1,.sl (rOf cM t.2.2) .non]
 dec c:=match c with|[.bool x0,.str x1,.sl x2 .non]=>(match deR cM x2 with|some y2=>some (x0,(x1,y2))|_=>none)|_=>none
 k:=3
 of_dec c a h:=by
  split at h
  ·split at h
   ·cases h
    rename_i h2;rw [qgp cM h2]
   ·cases h
  ·cases h
 dec_of a:=by simp only [qk7 cM]
 lock a:=by simp only [qhy,lock,qau]
 shut a:=by simp only [qgU,shut,qgX]
 len a:=rfl
 one a:=rfl
@[simp] theorem qHq (l:List Ac):qaB (rOf cAc l) 3=true:=qdb cAc l
@[simp] theorem okNews_cAc (l:List Ac):qaH (rOf cAc l) 3=true:=qdc cAc l
@[simp] theorem okGet_cAc (l:List Ac) (i:Nat):qa3 [.bool false,.str [],.sl [] .full] (rOf cAc l) i=decide (i < l.length):=qeg _ _ (fun _=>rfl) l i
@[simp] theorem xBool_cAc0 (l:List Ac) (i:Nat):qcu (rOf cAc l) i 0=(l[i]?.getD (false,([],[]))).1:=by unfold qcu;rw [qaY];cases l[i]?<;>rfl
@[simp] theorem xStr_cAc1 (l:List Ac) (i:Nat):xStr (rOf cAc l) i 1=(l[i]?.getD (false,([],[]))).2.1:=by unfold xStr;rw [qaY];cases l[i]?<;>rfl
@[simp] theorem xRow_cAc2 (l:List Ac) (i:Nat):xRow (rOf cAc l) i 2=rOf cM ((l[i]?.getD (false,([],[]))).2.2):=by unfold xRow;rw [qaY];cases l[i]?<;>rfl
theorem qNI (l:List Ac) (x0:Bool) (x1:qU) (x2:List Tm):rOf cAc l++[[.bool x0,.str x1,.sl (rOf cM x2) .non]]=rOf cAc (l++[(x0,(x1,x2))]):=by rw [qit];rfl
abbrev En:=List UInt8×List Pa×List Ac
def cE:Cod En where
 enc t:=[.str t.1,.sl (rOf cP t.2.1) .non,.sl (rOf cAc t.2.2) .non]
 dec c:=match c with|[.str x0,.sl x1 .non,.sl x2 .non]=>(match deR cP x1,deR cAc x2 with|some y1,some y2=>some (x0,y1,y2)|_,_=>none)|_=>none
 k:=3
 of_dec c a h:=by
  split at h
  ·split at h
   ·cases h
    rename_i h1 h2;rw [qgp cP h1,qgp cAc h2]
   ·cases h
  ·cases h
 dec_of a:=by simp only [qk7 cAc,qk7 cP]
 lock a:=by simp only [qhy,lock,qau]
 shut a:=by simp only [qgU,shut,qgX]
 len a:=rfl
 one a:=rfl
@[simp] theorem qLv (l:List En):qaB (rOf cE l) 3=true:=qdb cE l
@[simp] theorem okNews_cE (l:List En):qaH (rOf cE l) 3=true:=qdc cE l
@[simp] theorem okGet_cE (l:List En) (i:Nat):qa3 [.str [],.sl [] .full,.sl [] .full] (rOf cE l) i=decide (i < l.length):=qeg _ _ (fun _=>rfl) l i
@[simp] theorem xStr_cE0 (l:List En) (i:Nat):xStr (rOf cE l) i 0=(l[i]?.getD ([],[],[])).1:=by unfold xStr;rw [qaY];cases l[i]?<;>rfl
@[simp] theorem xRow_cE1 (l:List En) (i:Nat):xRow (rOf cE l) i 1=rOf cP ((l[i]?.getD ([],[],[])).2.1):=by unfold xRow;rw [qaY];cases l[i]?<;>rfl
@[simp] theorem xRow_cE2 (l:List En) (i:Nat):xRow (rOf cE l) i 2=rOf cAc ((l[i]?.getD ([],[],[])).2.2):=by unfold xRow;rw [qaY];cases l[i]?<;>rfl
theorem qPs (l:List En) (x0:qU) (x1:List Pa) (x2:List Ac):rOf cE l++[[.str x0,.sl (rOf cP x1) .non,.sl (rOf cAc x2) .non]]=rOf cE (l++[(x0,x1,x2)]):=by rw [qit];rfl
end Go.Pv
set_option maxHeartbeats 8000000
set_option maxRecDepth 200000
set_option linter.unusedSimpArgs false
set_option linter.unusedVariables false
namespace Go.Pv
open Go Go.Proofs Go.RowKit
def isW1 (k:Int) (s:qU):Bool:=match qhJ s with
 |([w],none)=>decide (w.1=k)&&decide (w.2.1=s)
 |_=>false
def tk (k:Int) (s:qU):Wv:=(k,s,0,0,[])
def vlR (v:Vl):Prop:=-9223372036854775808≤v.2.1∧v.2.1≤9223372036854775807
def vlT (v:Vl):List UInt8:=qgA v.1 v.2.1 v.2.2
def vlOk (v:Vl):Bool:=isV v.1 v.2.1 v.2.2
end Go.Pv
set_option maxHeartbeats 8000000
set_option maxRecDepth 200000
set_option linter.unusedSimpArgs false
set_option linter.unusedVariables false
namespace Go.Pv
open Go Go.Proofs Go.RowKit
abbrev Txt:=List UInt8
def resv:List Txt:=[[98,97,115,101],[118,105,101,119],[111,110],[110,111,116]]
def nmB (s:Txt):Bool:=isW1 1 s&&!resv.contains s
def vrB (s:Txt):Bool:=isW1 2 s
def jn {α:Type} (ok:α→Bool) (T:α→Txt) (sep:Txt) (l:List α):Txt:=if l.all ok then qeB (l.map T) sep else []
def tmOk (t:Tm):Bool:=if t.1=1 then vrB t.2.1&&decide (t.2.2=(0,0,[])) else if t.1=2 then vlOk t.2.2&&decide (t.2.1=[]) else decide (t=(3,[],0,0,[]))
def tmT (t:Tm):Txt:=if t.1=1 then t.2.1 else if t.1=2 then vlT t.2.2 else [95]
def atOk (a:At):Bool:=a.2.all tmOk&&nmB a.1
def atT (a:At):Txt:=a.1++[40]++jn tmOk tmT [44,32] a.2++[41]
def opOk (o:Int):Bool:=decide (1≤o∧o≤6)
def opT (o:Int):Txt:=if o=1 then [32,61,32] else if o=2 then [32,33,61,32] else if o=3 then [32,60,32] else if o=4 then [32,60,61,32] else if o=5 then [32,62,32] else if o=6 then [32,62,61,32] else []
def tm0:Tm:=(0,[],0,0,[])
def qMw (l:Li):Bool:=decide (l.2.2.1=0)&&decide (l.2.2.2.1=tm0)&&decide (l.2.2.2.2=tm0)
def liOk (l:Li):Bool:=if l.1=1∨l.1=2 then atOk l.2.1&&qMw l else if l.1=3 then tmOk l.2.2.2.1&&opOk l.2.2.1&&tmOk l.2.2.2.2&&decide (l.2.1=([],[])) else false
def liT (l:Li):Txt:=if l.1=1 then atT l.2.1 else if l.1=2 then [110,111,116,32]++atT l.2.1 else if l.1=3 then tmT l.2.2.2.1++opT l.2.2.1++tmT l.2.2.2.2 else []
def ruOk (r:Ru):Bool:=atOk r.1&&r.2.all liOk
def ruT (r:Ru):Txt:=atT r.1++(if r.2=[] then [] else [32,58,45,32]++jn liOk liT [44,32] r.2)++[46]
def tyOk (t:Int):Bool:=decide (t=1∨t=2)
def tyT (t:Int):Txt:=if t=1 then [105,110,116] else if t=2 then [115,121,109] else []
def deOk (d:De):Bool:=d.2.2.all tyOk&&nmB d.1
def deT (d:De):Txt:=(if d.2.1 then [98,97,115,101,32] else [118,105,101,119,32])++d.1++[40]++jn tyOk tyT [44,32] d.2.2++[41,46]
def paOk (p:Pa):Bool:=tyOk p.2&&vrB p.1
def paT (p:Pa):Txt:=p.1++[32]++tyT p.2
def acOk (a:Ac):Bool:=atOk a.2
def acT (a:Ac):Txt:=(if a.1 then [43] else [45])++atT a.2
def enOk (o:En):Bool:=o.2.1.all paOk&&o.2.2.all acOk&&nmB o.1
def enT (o:En):Txt:=[111,110,32]++o.1++[40]++jn paOk paT [44,32] o.2.1++[41]++(if o.2.2=[] then [] else [58,32]++jn acOk acT [44,32] o.2.2)++[46]
def opW (o:Int):Txt:=if o=1 then [61] else if o=2 then [33,61] else if o=3 then [60] else if o=4 then [60,61] else if o=5 then [62] else [62,61]
def tmR (t:Tm):Prop:=vlR t.2.2
def atR (a:At):Prop:=∀ t∈a.2,tmR t
def liR (l:Li):Prop:=atR l.2.1∧tmR l.2.2.2.1∧tmR l.2.2.2.2
def ruR (r:Ru):Prop:=atR r.1∧∀ l∈r.2,liR l
def acR (a:Ac):Prop:=atR a.2
def enR (o:En):Prop:=∀ a∈o.2.2,acR a
theorem qoH (sep:Txt):qeB [] sep=[]:=rfl
theorem qlg (x sep:Txt):qeB [x] sep=x:=by simp [qeB,Lib.join_one]
theorem qlF (x y:Txt) (l:List Txt) (sep:Txt):qeB (x::y::l) sep=x++(sep++qeB (y::l) sep):=by simp [qeB,Lib.join,List.intercalate]
theorem qNe {α:Type} {ok:α→Bool} {T:α→Txt} {sep:Txt} {l:List α} (h:l.all ok=true):jn ok T sep l=qeB (l.map T) sep:=by unfold jn;rw [if_pos h]
end Go.Pv
set_option linter.unusedSimpArgs false
set_option linter.unusedVariables false
namespace Go.Pv
theorem qcy {α β ρ:Type} {l:List α} (n:Nat) (hn:n≤l.length) {V:Nat→List β→ρ} (ok:α→Bool) (g:α→β) (fin:List β→ρ) (Bad:ρ→Prop)
  (hgood:∀ (i:Nat) (b:List β) (a:α),b.length=i→(hi:i < l.length)→i < n→l[i]=a→ok a=true→V i b=V (i+1) (b++[g a]))
  (hbad:∀ (i:Nat) (b:List β) (a:α),b.length=i→(hi:i < l.length)→i < n→l[i]=a→ok a=false→Bad (V i b))
  (hend:∀ b:List β,b.length=n→V n b=fin b):((l.take n).all ok=true→V 0 []=fin ((l.take n).map g))∧((l.take n).all ok=false→Bad (V 0 [])):=by
 have key:∀ (m i:Nat),i+m=n→(((l.take n).drop i).all ok=true→V i ((l.take i).map g)=fin ((l.take n).map g))∧(((l.take n).drop i).all ok=false→Bad (V i ((l.take i).map g))):=by
  intro m
  induction m with
  |zero =>
   intro i hi;have e:i=n:=by omega
   subst e;have hd:(l.take i).drop i=[]:=List.drop_eq_nil_of_le (by rw [List.length_take];omega)
   rw [hd];exact⟨fun _=>hend _ (by rw [List.length_map,List.length_take];omega),fun h=>by simp at h⟩
  |succ m ih =>
   intro i hi;obtain⟨ih1,ih2⟩:=ih (i+1) (by omega)
   have hlt:i < l.length:=by omega
   have hd:(l.take n).drop i=l[i]::(l.take n).drop (i+1):=by
    have hlt':i < (l.take n).length:=by rw [List.length_take];omega
    rw [List.drop_eq_getElem_cons hlt'];simp
   have hb:((l.take i).map g).length=i:=by rw [List.length_map,List.length_take];omega
   have ht:(l.take (i+1)).map g=(l.take i).map g++[g l[i]]:=by
    rw [← List.take_append_getElem hlt,List.map_append];rfl
   rw [hd,List.all_cons];cases ho:ok l[i] with
   |true =>
    rw [Bool.true_and,hgood i _ l[i] hb hlt (by omega) rfl ho,← ht]
    exact⟨ih1,ih2⟩
   |false =>
    rw [Bool.false_and];exact⟨fun h=>(by cases h),fun _=>hbad i _ l[i] hb hlt (by omega) rfl ho⟩
 have:=key n 0 (by omega)
 simpa using this
theorem qjK {α β ρ:Type} {l:List α} (n:Nat) (hn:n≤l.length) {V:Nat→List β→ρ} (g:α→β) (fin:List β→ρ)
  (hstep:∀ (i:Nat) (b:List β) (a:α),b.length=i→(hi:i < l.length)→i < n→l[i]=a→V i b=V (i+1) (b++[g a]))
  (hend:∀ b:List β,b.length=n→V n b=fin b):V 0 []=fin ((l.take n).map g) :=
 (qcy n hn (fun _=>true) g fin (fun _=>False) (fun i b a h1 h2 h3 h4 _=>hstep i b a h1 h2 h3 h4) (fun _ _ _ _ _ _ _ h=>by cases h) hend).1 (by simp)
end Go.Pv
set_option maxHeartbeats 4000000
set_option maxRecDepth 200000
set_option linter.unusedSimpArgs false
set_option linter.unusedVariables false
namespace Go.Pv
open Go Go.Proofs
def qRa:GamT:=ofL [(80,.pure qyB)]
theorem qRq (gl:Gl) (hg:GlLex gl):qaU Tryz.prog gl (gam qRa):=(qac (qHD gl hg) qag)
def qS5:LpsT:=fun r fr σ=>.fail
def qKk (s:qU) (k:Int):Tr PV:=.ite (qmr s) (.ite (iEq (qkY s) 0) (.ite (iEq (xLen (qgP s)) 1) (.ite (qav 0) (.ite (qa3 [.int .i64 0,.str [],.int .i64 0,.int .i64 0,.str [],.int .i64 0] (qgP s) (nNat 0)) (.ite (iEq (xInt (qgP s) (nNat 0) 0) k) (.ite (qav 0) (.ite (qa3 [.int .i64 0,.str [],.int .i64 0,.int .i64 0,.str [],.int .i64 0] (qgP s) (nNat 0)) (.ret (.bool (sEq (xStr (qgP s) (nNat 0) 1) s))) .fail) .fail) (.ret (.bool false))) .fail) .fail) (.ret (.bool false))) (.ret (.bool false))) .fail
theorem qUm (s:qU) (k:Int):(tcall tbT qRa qS5 Tryz.f52 [.str s,.int .i64 k]).flat=qKk s k:=by kernel_rfl
def qME (s:qU) (k:Int):Option PV:=(qKk s k).run
def qCt (s:qU) (k:Int):Bool:=(qcb (gVal (qME s k)))
def qqz (s:qU) (k:Int):Bool:=isW (qME s k) (.bool (qCt s k))
def qNO:List PV→Tr PV|[.str s,.int .i64 k]=>.ite (qqz s k) (.ret (.bool (qCt s k))) (.fail)|_=>.fail
theorem qLg (gl:Gl) (hg:GlLex gl):SimP Tryz.prog gl 52 fun args=>(qNO args).run:=by
 refine SimP.of_flat (G:=qRa) (L:=qS5) qat (qRq gl hg ) qah  Tryz.func52 rfl (by rfl) (by kernel_rfl) (qae (by kernel_rfl)) ?_
 intro args x h;unfold qNO at h
 split at h
 ·exact (congrArg Tr.run (qUm _ _)).trans (qai h fun h=>by cases h)
 ·cases h
def qC4:GamT:=ofL [(52,.pure qNO)]
theorem qJl (gl:Gl) (hg:GlLex gl):qaU Tryz.prog gl (gam qC4):=(qac (qLg gl hg) qag)
def qI8:LpsT:=fun r fr σ=>.fail
def qyG (s:qU):Tr PV:=.ite (sEq s [98,97,115,101]) (.ret (.bool false)) (.ite (sEq s [118,105,101,119]) (.ret (.bool false)) (.ite (sEq s [111,110]) (.ret (.bool false)) (.ite (sEq s [110,111,116]) (.ret (.bool false)) (.ite (qqz s 1) (.ret (.bool (qCt s 1))) .fail))))
theorem qRM (s:qU):(tcall tbT qC4 qI8 Tryz.f18 [.str s]).flat=qyG s:=by kernel_rfl
def qyX (s:qU):Option PV:=(qyG s).run
def qgC (s:qU):Bool:=(qcb (gVal (qyX s)))
def qet (s:qU):Bool:=isW (qyX s) (.bool (qgC s))
def qq1:List PV→Tr PV|[.str s]=>.ite (qet s) (.ret (.bool (qgC s))) (.fail)|_=>.fail
theorem qox (gl:Gl) (hg:GlLex gl):SimP Tryz.prog gl 18 fun args=>(qq1 args).run:=by
 refine SimP.of_flat (G:=qC4) (L:=qI8) qat (qJl gl hg ) qah  Tryz.func18 rfl (by rfl) (by kernel_rfl) (qae (by kernel_rfl)) ?_
 intro args x h;unfold qq1 at h
 split at h
 ·exact (congrArg Tr.run (qRM _)).trans (qai h fun h=>by cases h)
 ·cases h
def qIh:GamT:=ofL [(52,.pure qNO)]
theorem qNs (gl:Gl) (hg:GlLex gl):qaU Tryz.prog gl (gam qIh):=(qac (qLg gl hg) qag)
def qOy:LpsT:=fun r fr σ=>.fail
def qDL (s:qU):Tr PV:=.ite (qqz s 2) (.ret (.bool (qCt s 2))) .fail
theorem qSy (s:qU):(tcall tbT qIh qOy Tryz.f20 [.str s]).flat=qDL s:=by kernel_rfl
def qEG (s:qU):Option PV:=(qDL s).run
def qoh (s:qU):Bool:=(qcb (gVal (qEG s)))
def qia (s:qU):Bool:=isW (qEG s) (.bool (qoh s))
def qAF:List PV→Tr PV|[.str s]=>.ite (qia s) (.ret (.bool (qoh s))) (.fail)|_=>.fail
theorem qxh (gl:Gl) (hg:GlLex gl):SimP Tryz.prog gl 20 fun args=>(qAF args).run:=by
 refine SimP.of_flat (G:=qIh) (L:=qOy) qat (qNs gl hg ) qah  Tryz.func20 rfl (by rfl) (by kernel_rfl) (qae (by kernel_rfl)) ?_
 intro args x h;unfold qAF at h
 split at h
 ·exact (congrArg Tr.run (qSy _)).trans (qai h fun h=>by cases h)
 ·cases h
def qCj:GamT:=ofL [(20,.pure qAF),(75,.pure qEq)]
theorem qKd (gl:Gl) (hg:GlLex gl):qaU Tryz.prog gl (gam qCj):=(qac (qxh gl hg) (qac (qEu hg.toGlOk.toGlPow) qag))
def qHR:LpsT:=fun r fr σ=>.fail
def qxV (t:Int) (t2:qU) (t3:Int) (t4:Int) (t5:qU):Tr PV:=.ite (iEq t 1) (.ite (qia t2) (.ite (qoh t2) (.ret (.tup [.str t2,.bool (bAnd (iEq t3 0) (bAnd (iEq t4 0) (bAnd (sEq t5 []) true)))])) (.ret (.tup [.str t2,.bool false]))) .fail) (.ite (iEq t 2) (.ite (iEq (qbU t3 t4 t5) 0) (.ret (.tup [.str (qfY t3 t4 t5),.bool (sEq t2 [])])) (.ret (.tup [.str (qfY t3 t4 t5),.bool false]))) (.ret (.tup [.str [95],.bool (bAnd (iEq t 3) (bAnd (sEq t2 []) (bAnd (bAnd (iEq t3 0) (bAnd (iEq t4 0) (bAnd (sEq t5 []) true))) true)))])))
theorem qRD (t:Int) (t2:qU) (t3:Int) (t4:Int) (t5:qU):(tcall tbT qCj qHR Tryz.f44 [.agg [.int .i64 t,.str t2,.int .i64 t3,.int .i64 t4,.str t5]]).flat=qxV t t2 t3 t4 t5:=by kernel_rfl
def qvi (t:Int) (t2:qU) (t3:Int) (t4:Int) (t5:qU):Option PV:=(qxV t t2 t3 t4 t5).run
def qa1 (t:Int) (t2:qU) (t3:Int) (t4:Int) (t5:qU):List UInt8:=(gStr (gAt (gCs (gVal (qvi t t2 t3 t4 t5))) 0))
def qfX (t:Int) (t2:qU) (t3:Int) (t4:Int) (t5:qU):Bool:=(qcb (gAt (gCs (gVal (qvi t t2 t3 t4 t5))) 1))
def qdz (t:Int) (t2:qU) (t3:Int) (t4:Int) (t5:qU):Bool:=isW (qvi t t2 t3 t4 t5) (.tup [.str (qa1 t t2 t3 t4 t5),.bool (qfX t t2 t3 t4 t5)])
def qtM:List PV→Tr PV|[.agg [.int .i64 t,.str t2,.int .i64 t3,.int .i64 t4,.str t5]]=>.ite (qdz t t2 t3 t4 t5) (.ret (.tup [.str (qa1 t t2 t3 t4 t5),.bool (qfX t t2 t3 t4 t5)])) (.fail)|_=>.fail
theorem qtH (gl:Gl) (hg:GlLex gl):SimP Tryz.prog gl 44 fun args=>(qtM args).run:=by
 refine SimP.of_flat (G:=qCj) (L:=qHR) qat (qKd gl hg ) qah  Tryz.func44 rfl (by rfl) (by kernel_rfl) (qae (by kernel_rfl)) ?_
 intro args x h;unfold qtM at h
 split at h
 ·exact (congrArg Tr.run (qRD _ _ _ _ _)).trans (qai h fun h=>by cases h)
 ·cases h
def qMi:GamT:=ofL [(44,.pure qtM),(88,.pure qne),(qdX,.hint [(8,0,1,9)])]
theorem qJW (gl:Gl) (hg:GlLex gl):qaU Tryz.prog gl (gam qMi):=(qac (qtH gl hg) (qac (qik hg.toGlOk.toGlPow) (qbv (K:=.hint [(8,0,1,9)]) trivial qag)))
def qFd:Code:=qdT Tryz.f78 3
def qFI:LI:=⟨35,[1,2,8,13,14,15],fun e=>match e with|.ret=>[6,7]|.exit 0=>[1,8]|_=>[],true⟩
def qDe:LpsT:=fun r fr σ=>.fail
def qmW (vs:List PV) (σ:Store):Option (PExit×List PV×Store):=lval (lstep tbT qMi qDe qFd qFI) vs σ
def qtr (between:qU) (texts:qR) (r:qR) (n:Int) (n2:Int) (k:Nat):Tr LR:=.ite (iLt n2 n) (.ite (qav n2) (.ite (qa3 [.int .i64 0,.str [],.int .i64 0,.int .i64 0,.str []] r (nNat n2)) (.ite (qdz (xInt r (nNat n2) 0) (xStr r (nNat n2) 1) (xInt r (nNat n2) 2) (xInt r (nNat n2) 3) (xStr r (nNat n2) 4)) (.ite (bNot (qfX (xInt r (nNat n2) 0) (xStr r (nNat n2) 1) (xInt r (nNat n2) 2) (xInt r (nNat n2) 3) (xStr r (nNat n2) 4))) (.ret (.out .ret [.str [],.bool false] (Store.mk [] [(k,1,9)] []))) (.ite (qaI texts [[.str (qa1 (xInt r (nNat n2) 0) (xStr r (nNat n2) 1) (xInt r (nNat n2) 2) (xInt r (nNat n2) 3) (xStr r (nNat n2) 4))]] 16) (.ite (qaH [[.str (qa1 (xInt r (nNat n2) 0) (xStr r (nNat n2) 1) (xInt r (nNat n2) 2) (xInt r (nNat n2) 3) (xStr r (nNat n2) 4))]] 1) (.ite (qaB texts 1) (.ite (nEq k (nXs texts)) (.ret (.next [.str between,.fn 44 [],.sl (qaD 0 (xApp texts [[.str (qa1 (xInt r (nNat n2) 0) (xStr r (nNat n2) 1) (xInt r (nNat n2) 2) (xInt r (nNat n2) 3) (xStr r (nNat n2) 4))]])) (.tok 0),.sl (qaD 0 r) .non,.int .i64 n,.int .i64 (iAdd .i64 n2 1)] (Store.mk [] [(nXs (xApp texts [[.str (qa1 (xInt r (nNat n2) 0) (xStr r (nNat n2) 1) (xInt r (nNat n2) 2) (xInt r (nNat n2) 3) (xStr r (nNat n2) 4))]]),1,9)] []))) .fail) .fail) .fail) .fail)) .fail) .fail) .fail) (.ret (.out (.exit 0) [.str between,.sl texts (.tok 0)] (Store.mk [] [(k,1,9)] [])))
theorem qTf (between:qU) (texts:qR) (r:qR) (n:Int) (n2:Int) (k:Nat):lstep tbT qMi qDe qFd qFI [.str between,.fn 44 [],.sl texts (.tok 0),.sl r .non,.int .i64 n,.int .i64 n2] ⟨[],[(k,1,9)],[]⟩=qtr between texts r n n2 k:=by kernel_rfl
theorem qHT (between:qU) (texts:qR) (r:qR) (n:Int) (n2:Int) (k:Nat):qmW [.str between,.fn 44 [],.sl texts (.tok 0),.sl r .non,.int .i64 n,.int .i64 n2] ⟨[],[(k,1,9)],[]⟩=lnext qmW (qtr between texts r n n2 k).run:=by unfold qmW;rw [qbu,qTf]
def qm2 (between:qU) (texts:qR) (r:qR) (n:Int) (n2:Int) (k:Nat):Option (PExit×List PV×Store):=qmW [.str between,.fn 44 [],.sl texts (.tok 0),.sl r .non,.int .i64 n,.int .i64 n2] ⟨[],[(k,1,9)],[]⟩
def qoo (between:qU) (texts:qR) (r:qR) (n:Int) (n2:Int) (k:Nat):List UInt8:=(gStr (gOut (qm2 between texts r n n2 k) 0))
def qoi (between:qU) (texts:qR) (r:qR) (n:Int) (n2:Int) (k:Nat):Bool:=(qcb (gOut (qm2 between texts r n n2 k) 1))
def qsu (between:qU) (texts:qR) (r:qR) (n:Int) (n2:Int) (k:Nat):Nat:=(gTok (qm2 between texts r n n2 k) 0)
def qsK (between:qU) (texts:qR) (r:qR) (n:Int) (n2:Int) (k:Nat):Bool:=isW (qm2 between texts r n n2 k) (.ret,[.str (qoo between texts r n n2 k),.bool (qoi between texts r n n2 k)],⟨[],[((qsu between texts r n n2 k),1,9)],[]⟩)
def qdK (between:qU) (texts:qR) (r:qR) (n:Int) (n2:Int) (k:Nat):List UInt8:=(gStr (gOut (qm2 between texts r n n2 k) 0))
def qd2 (between:qU) (texts:qR) (r:qR) (n:Int) (n2:Int) (k:Nat):List (List PV):=(gRow (gOut (qm2 between texts r n n2 k) 1))
def qrI (between:qU) (texts:qR) (r:qR) (n:Int) (n2:Int) (k:Nat):Nat:=(gTok (qm2 between texts r n n2 k) 0)
def qsB (between:qU) (texts:qR) (r:qR) (n:Int) (n2:Int) (k:Nat):Bool:=isW (qm2 between texts r n n2 k) ((.exit 0),[.str (qdK between texts r n n2 k),.sl (qd2 between texts r n n2 k) (.tok 0)],⟨[],[((qrI between texts r n n2 k),1,9)],[]⟩)
def qpa:List PV→Store→Tr (PExit×List PV×Store)|[.str between,.fn 44 [],.sl texts (.tok 0),.sl r .non,.int .i64 n,.int .i64 n2],⟨[],[(k,1,9)],[]⟩=>.ite (qsK between texts r n n2 k) (.ret (.ret,[.str (qoo between texts r n n2 k),.bool (qoi between texts r n n2 k)],⟨[],[((qsu between texts r n n2 k),1,9)],[]⟩)) (.ite (qsB between texts r n n2 k) (.ret ((.exit 0),[.str (qdK between texts r n n2 k),.sl (qd2 between texts r n n2 k) (.tok 0)],⟨[],[((qrI between texts r n n2 k),1,9)],[]⟩)) (.fail))|_,_=>.fail
theorem qRg:∀ vs σ r,(qpa vs σ).run=some r→qmW vs σ=some r:=by
 intro vs σ r h;unfold qpa at h
 split at h
 ·exact qai h fun h=>qai h fun h=>by cases h
 ·cases h
theorem qJJ (gl:Gl) (hg:GlLex gl):∀ fr σ e fr' σ',(orc qFI qpa fr σ).run=some (e,fr',σ')→LDoes Tryz.prog gl qFd fr σ e fr' σ':=qck qat (qJW gl hg ) qah (L:=qDe) (qae (by kernel_rfl)) (by kernel_rfl) qRg
def qRd:LpsT:=fun r fr σ=>bif Nat.beq r 3 then orc qFI qpa fr σ else .fail
def qLc (l:qR) (sep:qU):Tr PV:=.ite (qsK sep [] l (xLen l) 0 0) (.ret (.tup [.str (qoo sep [] l (xLen l) 0 0),.bool (qoi sep [] l (xLen l) 0 0)])) (.ite (qsB sep [] l (xLen l) 0 0) (.ite (okR cS (qaa (qd2 sep [] l (xLen l) 0 0))) (.ite (qfD (unR cS (qaa (qd2 sep [] l (xLen l) 0 0))) (qdK sep [] l (xLen l) 0 0)) (.ret (.tup [.str (qeB (unR cS (qaa (qd2 sep [] l (xLen l) 0 0))) (qdK sep [] l (xLen l) 0 0)),.bool true])) .fail) .fail) .fail)
theorem qUg (l:qR) (sep:qU):(tcall tbT qMi qRd Tryz.f78 [.sl l .non,.str sep,.fn 44 []]).flat=qLc l sep:=by kernel_rfl
def qKr (l:qR) (sep:qU):Option PV:=(qLc l sep).run
def qv5 (l:qR) (sep:qU):List UInt8:=(gStr (gAt (gCs (gVal (qKr l sep))) 0))
def qDo (l:qR) (sep:qU):Bool:=(qcb (gAt (gCs (gVal (qKr l sep))) 1))
def qqi (l:qR) (sep:qU):Bool:=isW (qKr l sep) (.tup [.str (qv5 l sep),.bool (qDo l sep)])
def qRs:List PV→Tr PV|[.sl l .non,.str sep,.fn 44 []]=>.ite (qqi l sep) (.ret (.tup [.str (qv5 l sep),.bool (qDo l sep)])) (.fail)|_=>.fail
theorem qQD (gl:Gl) (hg:GlLex gl):SimP Tryz.prog gl 78 fun args=>(qRs args).run:=by
 refine SimP.of_flat (G:=qMi) (L:=qRd) qat (qJW gl hg ) qah  Tryz.func78 rfl (by rfl) (by kernel_rfl) (qaX (L:=lps qRd) [(3,qFd)] (by kernel_rfl) (List.forall_mem_cons.2 ⟨fun fr σ e fr' σ' h=>qJJ gl hg  fr σ e fr' σ' h,(List.forall_mem_nil _)⟩)) ?_
 intro args x h;unfold qRs at h
 split at h
 ·exact (congrArg Tr.run (qUg _ _)).trans (qai h fun h=>by cases h)
 ·cases h
def qDH:GamT:=ofL [(18,.pure qq1),(44,.pure qtM),(78,.pure qRs)]
theorem qIO (gl:Gl) (hg:GlLex gl):qaU Tryz.prog gl (gam qDH):=(qac (qox gl hg) (qac (qtH gl hg) (qac (qQD gl hg) qag)))
def qMo:LpsT:=fun r fr σ=>.fail
def qyL (a:qU) (a2:qR):Tr PV:=.ite (qqi (qaa a2) [44,32]) (.ite (qaE a [40]) (.ite (qaE (sApp a [40]) (qv5 (qaa a2) [44,32])) (.ite (qaE (sApp (sApp a [40]) (qv5 (qaa a2) [44,32])) [41]) (.ite (qDo (qaa a2) [44,32]) (.ite (qet a) (.ret (.tup [.str (sApp (sApp (sApp a [40]) (qv5 (qaa a2) [44,32])) [41]),.bool (qgC a)])) .fail) (.ret (.tup [.str (sApp (sApp (sApp a [40]) (qv5 (qaa a2) [44,32])) [41]),.bool false]))) .fail) .fail) .fail) .fail
theorem qRf (a:qU) (a2:qR):(tcall tbT qDH qMo Tryz.f47 [.agg [.str a,.sl a2 .non]]).flat=qyL a a2:=by kernel_rfl
def qtm (a:qU) (a2:qR):Option PV:=(qyL a a2).run
def qbS (a:qU) (a2:qR):List UInt8:=(gStr (gAt (gCs (gVal (qtm a a2))) 0))
def qeJ (a:qU) (a2:qR):Bool:=(qcb (gAt (gCs (gVal (qtm a a2))) 1))
def qda (a:qU) (a2:qR):Bool:=isW (qtm a a2) (.tup [.str (qbS a a2),.bool (qeJ a a2)])
def quF:List PV→Tr PV|[.agg [.str a,.sl a2 .non]]=>.ite (qda a a2) (.ret (.tup [.str (qbS a a2),.bool (qeJ a a2)])) (.fail)|_=>.fail
theorem quK (gl:Gl) (hg:GlLex gl):SimP Tryz.prog gl 47 fun args=>(quF args).run:=by
 refine SimP.of_flat (G:=qDH) (L:=qMo) qat (qIO gl hg ) qah  Tryz.func47 rfl (by rfl) (by kernel_rfl) (qae (by kernel_rfl)) ?_
 intro args x h;unfold quF at h
 split at h
 ·exact (congrArg Tr.run (qRf _ _)).trans (qai h fun h=>by cases h)
 ·cases h
def qQe:GamT:=ofL []
theorem qPL (gl:Gl):qaU Tryz.prog gl (gam qQe):=qag
def qSS:LpsT:=fun r fr σ=>.fail
def qH3 (o:Int):Tr PV:=.ite (iEq o 1) (.ret (.tup [.str [32,61,32],.bool true])) (.ite (iEq o 2) (.ret (.tup [.str [32,33,61,32],.bool true])) (.ite (iEq o 3) (.ret (.tup [.str [32,60,32],.bool true])) (.ite (iEq o 4) (.ret (.tup [.str [32,60,61,32],.bool true])) (.ite (iEq o 5) (.ret (.tup [.str [32,62,32],.bool true])) (.ite (iEq o 6) (.ret (.tup [.str [32,62,61,32],.bool true])) (.ret (.tup [.str [],.bool false])))))))
theorem qUl (o:Int):(tcall tbT qQe qSS Tryz.f79 [.int .i64 o]).flat=qH3 o:=by kernel_rfl
def qLl (o:Int):Option PV:=(qH3 o).run
def qfJ (o:Int):List UInt8:=(gStr (gAt (gCs (gVal (qLl o))) 0))
def qzu (o:Int):Bool:=(qcb (gAt (gCs (gVal (qLl o))) 1))
def qli (o:Int):Bool:=isW (qLl o) (.tup [.str (qfJ o),.bool (qzu o)])
def qRt:List PV→Tr PV|[.int .i64 o]=>.ite (qli o) (.ret (.tup [.str (qfJ o),.bool (qzu o)])) (.fail)|_=>.fail
theorem qQK (gl:Gl):SimP Tryz.prog gl 79 fun args=>(qRt args).run:=by
 refine SimP.of_flat (G:=qQe) (L:=qSS) qat (qPL gl ) qah  Tryz.func79 rfl (by rfl) (by kernel_rfl) (qae (by kernel_rfl)) ?_
 intro args x h;unfold qRt at h
 split at h
 ·exact (congrArg Tr.run (qUl _)).trans (qai h fun h=>by cases h)
 ·cases h
def qp6:GamT:=ofL [(44,.pure qtM),(47,.pure quF),(79,.pure qRt)]
theorem qAx (gl:Gl) (hg:GlLex gl):qaU Tryz.prog gl (gam qp6):=(qac (qtH gl hg) (qac (quK gl hg) (qac (qQK gl) qag)))
def qwW:LpsT:=fun r fr σ=>.fail
def qnC (v:Int) (v2:qU) (v3:qR) (v4:Int) (v5:Int) (v6:qU) (v7:Int) (v8:Int) (v9:qU) (v10:Int) (v11:qU) (v12:Int) (v13:Int) (v14:qU):Tr PV:=.ite (iEq v4 0) (.ite (bAnd (iEq v5 0) (bAnd (sEq v6 []) (bAnd (bAnd (iEq v7 0) (bAnd (iEq v8 0) (bAnd (sEq v9 []) true))) true))) (.ite (iEq v 1) (.ite (qda v2 (qaa v3)) (.ite (qeJ v2 (qaa v3)) (.ret (.tup [.str (qbS v2 (qaa v3)),.bool (bAnd (iEq v10 0) (bAnd (sEq v11 []) (bAnd (bAnd (iEq v12 0) (bAnd (iEq v13 0) (bAnd (sEq v14 []) true))) true)))])) (.ret (.tup [.str (qbS v2 (qaa v3)),.bool false]))) .fail) (.ite (iEq v 2) (.ite (qda v2 (qaa v3)) (.ite (qaE [110,111,116,32] (qbS v2 (qaa v3))) (.ite (qeJ v2 (qaa v3)) (.ret (.tup [.str (sApp [110,111,116,32] (qbS v2 (qaa v3))),.bool (bAnd (iEq v10 0) (bAnd (sEq v11 []) (bAnd (bAnd (iEq v12 0) (bAnd (iEq v13 0) (bAnd (sEq v14 []) true))) true)))])) (.ret (.tup [.str (sApp [110,111,116,32] (qbS v2 (qaa v3))),.bool false]))) .fail) .fail) (.ite (iEq v 3) (.ite (qdz v5 v6 v7 v8 v9) (.ite (qli v4) (.ite (qdz v10 v11 v12 v13 v14) (.ite (qaE (qa1 v5 v6 v7 v8 v9) (qfJ v4)) (.ite (qaE (sApp (qa1 v5 v6 v7 v8 v9) (qfJ v4)) (qa1 v10 v11 v12 v13 v14)) (.ite (qfX v5 v6 v7 v8 v9) (.ite (qzu v4) (.ite (qfX v10 v11 v12 v13 v14) (.ite (sEq v2 []) (.ret (.tup [.str (sApp (sApp (qa1 v5 v6 v7 v8 v9) (qfJ v4)) (qa1 v10 v11 v12 v13 v14)),.bool (iEq (xLen v3) 0)])) (.ret (.tup [.str (sApp (sApp (qa1 v5 v6 v7 v8 v9) (qfJ v4)) (qa1 v10 v11 v12 v13 v14)),.bool false]))) (.ret (.tup [.str (sApp (sApp (qa1 v5 v6 v7 v8 v9) (qfJ v4)) (qa1 v10 v11 v12 v13 v14)),.bool false]))) (.ret (.tup [.str (sApp (sApp (qa1 v5 v6 v7 v8 v9) (qfJ v4)) (qa1 v10 v11 v12 v13 v14)),.bool false])))
 (.ret (.tup [.str (sApp (sApp (qa1 v5 v6 v7 v8 v9) (qfJ v4)) (qa1 v10 v11 v12 v13 v14)),.bool false]))) .fail) .fail) .fail) .fail) .fail) (.ret (.tup [.str [],.bool false]))))) (.ite (iEq v 1) (.ite (qda v2 (qaa v3)) (.ite (qeJ v2 (qaa v3)) (.ret (.tup [.str (qbS v2 (qaa v3)),.bool false])) (.ret (.tup [.str (qbS v2 (qaa v3)),.bool false]))) .fail) (.ite (iEq v 2) (.ite (qda v2 (qaa v3)) (.ite (qaE [110,111,116,32] (qbS v2 (qaa v3))) (.ite (qeJ v2 (qaa v3)) (.ret (.tup [.str (sApp [110,111,116,32] (qbS v2 (qaa v3))),.bool false])) (.ret (.tup [.str (sApp [110,111,116,32] (qbS v2 (qaa v3))),.bool false]))) .fail) .fail) (.ite (iEq v 3) (.ite (qdz v5 v6 v7 v8 v9) (.ite (qli v4) (.ite (qdz v10 v11 v12 v13 v14) (.ite (qaE (qa1 v5 v6 v7 v8 v9) (qfJ v4)) (.ite (qaE (sApp (qa1 v5 v6 v7 v8 v9) (qfJ v4)) (qa1 v10 v11 v12 v13 v14)) (.ite (qfX v5 v6 v7 v8 v9) (.ite (qzu v4) (.ite (qfX v10 v11 v12 v13 v14) (.ite (sEq v2 []) (.ret (.tup [.str (sApp (sApp (qa1 v5 v6 v7 v8 v9) (qfJ v4)) (qa1 v10 v11 v12 v13 v14)),.bool (iEq (xLen v3) 0)])) (.ret (.tup [.str (sApp (sApp (qa1 v5 v6 v7 v8 v9) (qfJ v4)) (qa1 v10 v11 v12 v13 v14)),.bool false]))) (.ret (.tup [.str (sApp (sApp (qa1 v5 v6 v7 v8 v9) (qfJ v4)) (qa1 v10 v11 v12 v13 v14)),.bool false]))) (.ret (.tup [.str (sApp (sApp (qa1 v5 v6 v7 v8 v9) (qfJ v4)) (qa1 v10 v11 v12 v13 v14)),.bool false]))) (.ret (.tup [.str (sApp (sApp (qa1 v5 v6 v7 v8 v9) (qfJ v4)) (qa1 v10 v11 v12 v13 v14)),.bool false]))) .fail) .fail) .fail) .fail) .fail) (.ret (.tup [.str [],.bool false])))))) (.ite (iEq v 1) (.ite (qda v2 (qaa v3)) (.ite (qeJ v2 (qaa v3)) (.ret (.tup [.str (qbS v2 (qaa v3)),.bool false])) (.ret (.tup [.str (qbS v2 (qaa v3)),.bool false]))) .fail) (.ite (iEq v 2) (.ite (qda v2 (qaa v3))
 (.ite (qaE [110,111,116,32] (qbS v2 (qaa v3))) (.ite (qeJ v2 (qaa v3)) (.ret (.tup [.str (sApp [110,111,116,32] (qbS v2 (qaa v3))),.bool false])) (.ret (.tup [.str (sApp [110,111,116,32] (qbS v2 (qaa v3))),.bool false]))) .fail) .fail) (.ite (iEq v 3) (.ite (qdz v5 v6 v7 v8 v9) (.ite (qli v4) (.ite (qdz v10 v11 v12 v13 v14) (.ite (qaE (qa1 v5 v6 v7 v8 v9) (qfJ v4)) (.ite (qaE (sApp (qa1 v5 v6 v7 v8 v9) (qfJ v4)) (qa1 v10 v11 v12 v13 v14)) (.ite (qfX v5 v6 v7 v8 v9) (.ite (qzu v4) (.ite (qfX v10 v11 v12 v13 v14) (.ite (sEq v2 []) (.ret (.tup [.str (sApp (sApp (qa1 v5 v6 v7 v8 v9) (qfJ v4)) (qa1 v10 v11 v12 v13 v14)),.bool (iEq (xLen v3) 0)])) (.ret (.tup [.str (sApp (sApp (qa1 v5 v6 v7 v8 v9) (qfJ v4)) (qa1 v10 v11 v12 v13 v14)),.bool false]))) (.ret (.tup [.str (sApp (sApp (qa1 v5 v6 v7 v8 v9) (qfJ v4)) (qa1 v10 v11 v12 v13 v14)),.bool false]))) (.ret (.tup [.str (sApp (sApp (qa1 v5 v6 v7 v8 v9) (qfJ v4)) (qa1 v10 v11 v12 v13 v14)),.bool false]))) (.ret (.tup [.str (sApp (sApp (qa1 v5 v6 v7 v8 v9) (qfJ v4)) (qa1 v10 v11 v12 v13 v14)),.bool false]))) .fail) .fail) .fail) .fail) .fail) (.ret (.tup [.str [],.bool false])))))
theorem qG6 (v:Int) (v2:qU) (v3:qR) (v4:Int) (v5:Int) (v6:qU) (v7:Int) (v8:Int) (v9:qU) (v10:Int) (v11:qU) (v12:Int) (v13:Int) (v14:qU):(tcall tbT qp6 qwW Tryz.f49 [.agg [.int .i64 v,.str v2,.sl v3 .non,.int .i64 v4,.int .i64 v5,.str v6,.int .i64 v7,.int .i64 v8,.str v9,.int .i64 v10,.str v11,.int .i64 v12,.int .i64 v13,.str v14]]).flat=qnC v v2 v3 v4 v5 v6 v7 v8 v9 v10 v11 v12 v13 v14:=by kernel_rfl
def qja (v:Int) (v2:qU) (v3:qR) (v4:Int) (v5:Int) (v6:qU) (v7:Int) (v8:Int) (v9:qU) (v10:Int) (v11:qU) (v12:Int) (v13:Int) (v14:qU):Option PV:=(qnC v v2 v3 v4 v5 v6 v7 v8 v9 v10 v11 v12 v13 v14).run
def qdI (v:Int) (v2:qU) (v3:qR) (v4:Int) (v5:Int) (v6:qU) (v7:Int) (v8:Int) (v9:qU) (v10:Int) (v11:qU) (v12:Int) (v13:Int) (v14:qU):List UInt8:=(gStr (gAt (gCs (gVal (qja v v2 v3 v4 v5 v6 v7 v8 v9 v10 v11 v12 v13 v14))) 0))
def qf6 (v:Int) (v2:qU) (v3:qR) (v4:Int) (v5:Int) (v6:qU) (v7:Int) (v8:Int) (v9:qU) (v10:Int) (v11:qU) (v12:Int) (v13:Int) (v14:qU):Bool:=(qcb (gAt (gCs (gVal (qja v v2 v3 v4 v5 v6 v7 v8 v9 v10 v11 v12 v13 v14))) 1))
def qff (v:Int) (v2:qU) (v3:qR) (v4:Int) (v5:Int) (v6:qU) (v7:Int) (v8:Int) (v9:qU) (v10:Int) (v11:qU) (v12:Int) (v13:Int) (v14:qU):Bool:=isW (qja v v2 v3 v4 v5 v6 v7 v8 v9 v10 v11 v12 v13 v14) (.tup [.str (qdI v v2 v3 v4 v5 v6 v7 v8 v9 v10 v11 v12 v13 v14),.bool (qf6 v v2 v3 v4 v5 v6 v7 v8 v9 v10 v11 v12 v13 v14)])
def qmf:List PV→Tr PV|[.agg [.int .i64 v,.str v2,.sl v3 .non,.int .i64 v4,.int .i64 v5,.str v6,.int .i64 v7,.int .i64 v8,.str v9,.int .i64 v10,.str v11,.int .i64 v12,.int .i64 v13,.str v14]]=>.ite (qff v v2 v3 v4 v5 v6 v7 v8 v9 v10 v11 v12 v13 v14) (.ret (.tup [.str (qdI v v2 v3 v4 v5 v6 v7 v8 v9 v10 v11 v12 v13 v14),.bool (qf6 v v2 v3 v4 v5 v6 v7 v8 v9 v10 v11 v12 v13 v14)])) (.fail)|_=>.fail
theorem qq7 (gl:Gl) (hg:GlLex gl):SimP Tryz.prog gl 49 fun args=>(qmf args).run:=by
 refine SimP.of_flat (G:=qp6) (L:=qwW) qat (qAx gl hg ) qah  Tryz.func49 rfl (by rfl) (by kernel_rfl) (qae (by kernel_rfl)) ?_
 intro args x h;unfold qmf at h
 split at h
 ·exact (congrArg Tr.run (qG6 _ _ _ _ _ _ _ _ _ _ _ _ _ _)).trans (qai h fun h=>by cases h)
 ·cases h
def qKB:GamT:=ofL [(49,.pure qmf),(88,.pure qne),(qdX,.hint [(8,0,1,9)])]
theorem qKO (gl:Gl) (hg:GlLex gl):qaU Tryz.prog gl (gam qKB):=(qac (qq7 gl hg) (qac (qik hg.toGlOk.toGlPow) (qbv (K:=.hint [(8,0,1,9)]) trivial qag)))
def qFl:Code:=qdT Tryz.f81 3
def qED:LI:=⟨35,[1,2,8,13,14,15],fun e=>match e with|.ret=>[6,7]|.exit 0=>[1,8]|_=>[],true⟩
def qCX:LpsT:=fun r fr σ=>.fail
def qnb (vs:List PV) (σ:Store):Option (PExit×List PV×Store):=lval (lstep tbT qKB qCX qFl qED) vs σ
def qtL (between:qU) (texts:qR) (r:qR) (n:Int) (n2:Int) (k:Nat):Tr LR:=.ite (iLt n2 n) (.ite (qav n2) (.ite (qa3 [.int .i64 0,.str [],.sl [] .full,.int .i64 0,.int .i64 0,.str [],.int .i64 0,.int .i64 0,.str [],.int .i64 0,.str [],.int .i64 0,.int .i64 0,.str []] r (nNat n2)) (.ite (qff (xInt r (nNat n2) 0) (xStr r (nNat n2) 1) (qaa (xRow r (nNat n2) 2)) (xInt r (nNat n2) 3) (xInt r (nNat n2) 4) (xStr r (nNat n2) 5) (xInt r (nNat n2) 6) (xInt r (nNat n2) 7) (xStr r (nNat n2) 8) (xInt r (nNat n2) 9) (xStr r (nNat n2) 10) (xInt r (nNat n2) 11) (xInt r (nNat n2) 12) (xStr r (nNat n2) 13)) (.ite (bNot (qf6 (xInt r (nNat n2) 0) (xStr r (nNat n2) 1) (qaa (xRow r (nNat n2) 2)) (xInt r (nNat n2) 3) (xInt r (nNat n2) 4) (xStr r (nNat n2) 5) (xInt r (nNat n2) 6) (xInt r (nNat n2) 7) (xStr r (nNat n2) 8) (xInt r (nNat n2) 9) (xStr r (nNat n2) 10) (xInt r (nNat n2) 11) (xInt r (nNat n2) 12) (xStr r (nNat n2) 13))) (.ret (.out .ret [.str [],.bool false] (Store.mk [] [(k,1,9)] []))) (.ite (qaI texts [[.str (qdI (xInt r (nNat n2) 0) (xStr r (nNat n2) 1) (qaa (xRow r (nNat n2) 2)) (xInt r (nNat n2) 3) (xInt r (nNat n2) 4) (xStr r (nNat n2) 5) (xInt r (nNat n2) 6) (xInt r (nNat n2) 7) (xStr r (nNat n2) 8) (xInt r (nNat n2) 9) (xStr r (nNat n2) 10) (xInt r (nNat n2) 11) (xInt r (nNat n2) 12) (xStr r (nNat n2) 13))]] 16) (.ite (qaH [[.str (qdI (xInt r (nNat n2) 0) (xStr r (nNat n2) 1) (qaa (xRow r (nNat n2) 2)) (xInt r (nNat n2) 3) (xInt r (nNat n2) 4) (xStr r (nNat n2) 5) (xInt r (nNat n2) 6) (xInt r (nNat n2) 7) (xStr r (nNat n2) 8) (xInt r (nNat n2) 9) (xStr r (nNat n2) 10) (xInt r (nNat n2) 11) (xInt r (nNat n2) 12) (xStr r (nNat n2) 13))]] 1) (.ite (qaB texts 1) (.ite (nEq k (nXs texts)) (.ret (.next [.str between,.fn 49 [],.sl (qaD 0 (xApp texts [[.str
 (qdI (xInt r (nNat n2) 0) (xStr r (nNat n2) 1) (qaa (xRow r (nNat n2) 2)) (xInt r (nNat n2) 3) (xInt r (nNat n2) 4) (xStr r (nNat n2) 5) (xInt r (nNat n2) 6) (xInt r (nNat n2) 7) (xStr r (nNat n2) 8) (xInt r (nNat n2) 9) (xStr r (nNat n2) 10) (xInt r (nNat n2) 11) (xInt r (nNat n2) 12) (xStr r (nNat n2) 13))]])) (.tok 0),.sl (qaD 0 r) .non,.int .i64 n,.int .i64 (iAdd .i64 n2 1)] (Store.mk [] [(nXs (xApp texts [[.str (qdI (xInt r (nNat n2) 0) (xStr r (nNat n2) 1) (qaa (xRow r (nNat n2) 2)) (xInt r (nNat n2) 3) (xInt r (nNat n2) 4) (xStr r (nNat n2) 5) (xInt r (nNat n2) 6) (xInt r (nNat n2) 7) (xStr r (nNat n2) 8) (xInt r (nNat n2) 9) (xStr r (nNat n2) 10) (xInt r (nNat n2) 11) (xInt r (nNat n2) 12) (xStr r (nNat n2) 13))]]),1,9)] []))) .fail) .fail) .fail) .fail)) .fail) .fail) .fail) (.ret (.out (.exit 0) [.str between,.sl texts (.tok 0)] (Store.mk [] [(k,1,9)] [])))
theorem qSP (between:qU) (texts:qR) (r:qR) (n:Int) (n2:Int) (k:Nat):lstep tbT qKB qCX qFl qED [.str between,.fn 49 [],.sl texts (.tok 0),.sl r .non,.int .i64 n,.int .i64 n2] ⟨[],[(k,1,9)],[]⟩=qtL between texts r n n2 k:=by kernel_rfl
theorem qKX (between:qU) (texts:qR) (r:qR) (n:Int) (n2:Int) (k:Nat):qnb [.str between,.fn 49 [],.sl texts (.tok 0),.sl r .non,.int .i64 n,.int .i64 n2] ⟨[],[(k,1,9)],[]⟩=lnext qnb (qtL between texts r n n2 k).run:=by unfold qnb;rw [qbu,qSP]
def qm5 (between:qU) (texts:qR) (r:qR) (n:Int) (n2:Int) (k:Nat):Option (PExit×List PV×Store):=qnb [.str between,.fn 49 [],.sl texts (.tok 0),.sl r .non,.int .i64 n,.int .i64 n2] ⟨[],[(k,1,9)],[]⟩
def qpb (between:qU) (texts:qR) (r:qR) (n:Int) (n2:Int) (k:Nat):List UInt8:=(gStr (gOut (qm5 between texts r n n2 k) 0))
def qpg (between:qU) (texts:qR) (r:qR) (n:Int) (n2:Int) (k:Nat):Bool:=(qcb (gOut (qm5 between texts r n n2 k) 1))
def qsq (between:qU) (texts:qR) (r:qR) (n:Int) (n2:Int) (k:Nat):Nat:=(gTok (qm5 between texts r n n2 k) 0)
def qsO (between:qU) (texts:qR) (r:qR) (n:Int) (n2:Int) (k:Nat):Bool:=isW (qm5 between texts r n n2 k) (.ret,[.str (qpb between texts r n n2 k),.bool (qpg between texts r n n2 k)],⟨[],[((qsq between texts r n n2 k),1,9)],[]⟩)
def qdE (between:qU) (texts:qR) (r:qR) (n:Int) (n2:Int) (k:Nat):List UInt8:=(gStr (gOut (qm5 between texts r n n2 k) 0))
def qee (between:qU) (texts:qR) (r:qR) (n:Int) (n2:Int) (k:Nat):List (List PV):=(gRow (gOut (qm5 between texts r n n2 k) 1))
def qsw (between:qU) (texts:qR) (r:qR) (n:Int) (n2:Int) (k:Nat):Nat:=(gTok (qm5 between texts r n n2 k) 0)
def qrT (between:qU) (texts:qR) (r:qR) (n:Int) (n2:Int) (k:Nat):Bool:=isW (qm5 between texts r n n2 k) ((.exit 0),[.str (qdE between texts r n n2 k),.sl (qee between texts r n n2 k) (.tok 0)],⟨[],[((qsw between texts r n n2 k),1,9)],[]⟩)
def qoT:List PV→Store→Tr (PExit×List PV×Store)|[.str between,.fn 49 [],.sl texts (.tok 0),.sl r .non,.int .i64 n,.int .i64 n2],⟨[],[(k,1,9)],[]⟩=>.ite (qsO between texts r n n2 k) (.ret (.ret,[.str (qpb between texts r n n2 k),.bool (qpg between texts r n n2 k)],⟨[],[((qsq between texts r n n2 k),1,9)],[]⟩)) (.ite (qrT between texts r n n2 k) (.ret ((.exit 0),[.str (qdE between texts r n n2 k),.sl (qee between texts r n n2 k) (.tok 0)],⟨[],[((qsw between texts r n n2 k),1,9)],[]⟩)) (.fail))|_,_=>.fail
theorem qQf:∀ vs σ r,(qoT vs σ).run=some r→qnb vs σ=some r:=by
 intro vs σ r h;unfold qoT at h
 split at h
 ·exact qai h fun h=>qai h fun h=>by cases h
 ·cases h
theorem qMb (gl:Gl) (hg:GlLex gl):∀ fr σ e fr' σ',(orc qED qoT fr σ).run=some (e,fr',σ')→LDoes Tryz.prog gl qFl fr σ e fr' σ':=qck qat (qKO gl hg ) qah (L:=qCX) (qae (by kernel_rfl)) (by kernel_rfl) qQf
def qQE:LpsT:=fun r fr σ=>bif Nat.beq r 3 then orc qED qoT fr σ else .fail
def qJa (l:qR) (sep:qU):Tr PV:=.ite (qsO sep [] l (xLen l) 0 0) (.ret (.tup [.str (qpb sep [] l (xLen l) 0 0),.bool (qpg sep [] l (xLen l) 0 0)])) (.ite (qrT sep [] l (xLen l) 0 0) (.ite (okR cS (qaa (qee sep [] l (xLen l) 0 0))) (.ite (qfD (unR cS (qaa (qee sep [] l (xLen l) 0 0))) (qdE sep [] l (xLen l) 0 0)) (.ret (.tup [.str (qeB (unR cS (qaa (qee sep [] l (xLen l) 0 0))) (qdE sep [] l (xLen l) 0 0)),.bool true])) .fail) .fail) .fail)
theorem qUj (l:qR) (sep:qU):(tcall tbT qKB qQE Tryz.f81 [.sl l .non,.str sep,.fn 49 []]).flat=qJa l sep:=by kernel_rfl
def qKw (l:qR) (sep:qU):Option PV:=(qJa l sep).run
def qnT (l:qR) (sep:qU):List UInt8:=(gStr (gAt (gCs (gVal (qKw l sep))) 0))
def qAW (l:qR) (sep:qU):Bool:=(qcb (gAt (gCs (gVal (qKw l sep))) 1))
def qp9 (l:qR) (sep:qU):Bool:=isW (qKw l sep) (.tup [.str (qnT l sep),.bool (qAW l sep)])
def qP7:List PV→Tr PV|[.sl l .non,.str sep,.fn 49 []]=>.ite (qp9 l sep) (.ret (.tup [.str (qnT l sep),.bool (qAW l sep)])) (.fail)|_=>.fail
theorem qQJ (gl:Gl) (hg:GlLex gl):SimP Tryz.prog gl 81 fun args=>(qP7 args).run:=by
 refine SimP.of_flat (G:=qKB) (L:=qQE) qat (qKO gl hg ) qah  Tryz.func81 rfl (by rfl) (by kernel_rfl) (qaX (L:=lps qQE) [(3,qFl)] (by kernel_rfl) (List.forall_mem_cons.2 ⟨fun fr σ e fr' σ' h=>qMb gl hg  fr σ e fr' σ' h,(List.forall_mem_nil _)⟩)) ?_
 intro args x h;unfold qP7 at h
 split at h
 ·exact (congrArg Tr.run (qUj _ _)).trans (qai h fun h=>by cases h)
 ·cases h
def qDJ:GamT:=ofL [(47,.pure quF),(49,.pure qmf),(81,.pure qP7)]
theorem qJB (gl:Gl) (hg:GlLex gl):qaU Tryz.prog gl (gam qDJ):=(qac (quK gl hg) (qac (qq7 gl hg) (qac (qQJ gl hg) qag)))
def qHM:LpsT:=fun r fr σ=>.fail
def qx2 (r_:qU) (r_2:qR) (r_3:qR):Tr PV:=.ite (qda r_ (qaa r_2)) (.ite (qp9 (qaa r_3) [44,32]) (.ite (iLt 0 (xLen r_3)) (.ite (qaE [32,58,45,32] (qnT (qaa r_3) [44,32])) (.ite (qaE (qbS r_ (qaa r_2)) (sApp [32,58,45,32] (qnT (qaa r_3) [44,32]))) (.ite (qaE (sApp (qbS r_ (qaa r_2)) (sApp [32,58,45,32] (qnT (qaa r_3) [44,32]))) [46]) (.ite (qeJ r_ (qaa r_2)) (.ret (.tup [.str (sApp (sApp (qbS r_ (qaa r_2)) (sApp [32,58,45,32] (qnT (qaa r_3) [44,32]))) [46]),.bool (qAW (qaa r_3) [44,32])])) (.ret (.tup [.str (sApp (sApp (qbS r_ (qaa r_2)) (sApp [32,58,45,32] (qnT (qaa r_3) [44,32]))) [46]),.bool false]))) .fail) .fail) .fail) (.ite (qaE (qbS r_ (qaa r_2)) (qnT (qaa r_3) [44,32])) (.ite (qaE (sApp (qbS r_ (qaa r_2)) (qnT (qaa r_3) [44,32])) [46]) (.ite (qeJ r_ (qaa r_2)) (.ret (.tup [.str (sApp (sApp (qbS r_ (qaa r_2)) (qnT (qaa r_3) [44,32])) [46]),.bool (qAW (qaa r_3) [44,32])])) (.ret (.tup [.str (sApp (sApp (qbS r_ (qaa r_2)) (qnT (qaa r_3) [44,32])) [46]),.bool false]))) .fail) .fail)) .fail) .fail
theorem qQA (r_:qU) (r_2:qR) (r_3:qR):(tcall tbT qDJ qHM Tryz.f54 [.agg [.str r_,.sl r_2 .non,.sl r_3 .non]]).flat=qx2 r_ r_2 r_3:=by kernel_rfl
def qur (r_:qU) (r_2:qR) (r_3:qR):Option PV:=(qx2 r_ r_2 r_3).run
def qhN (r_:qU) (r_2:qR) (r_3:qR):List UInt8:=(gStr (gAt (gCs (gVal (qur r_ r_2 r_3))) 0))
def qiu (r_:qU) (r_2:qR) (r_3:qR):Bool:=(qcb (gAt (gCs (gVal (qur r_ r_2 r_3))) 1))
def qhb (r_:qU) (r_2:qR) (r_3:qR):Bool:=isW (qur r_ r_2 r_3) (.tup [.str (qhN r_ r_2 r_3),.bool (qiu r_ r_2 r_3)])
def qvs:List PV→Tr PV|[.agg [.str r_,.sl r_2 .non,.sl r_3 .non]]=>.ite (qhb r_ r_2 r_3) (.ret (.tup [.str (qhN r_ r_2 r_3),.bool (qiu r_ r_2 r_3)])) (.fail)|_=>.fail
theorem qu5 (gl:Gl) (hg:GlLex gl):SimP Tryz.prog gl 54 fun args=>(qvs args).run:=by
 refine SimP.of_flat (G:=qDJ) (L:=qHM) qat (qJB gl hg ) qah  Tryz.func54 rfl (by rfl) (by kernel_rfl) (qae (by kernel_rfl)) ?_
 intro args x h;unfold qvs at h
 split at h
 ·exact (congrArg Tr.run (qQA _ _ _)).trans (qai h fun h=>by cases h)
 ·cases h
def qBg:GamT:=ofL []
theorem qMv (gl:Gl):qaU Tryz.prog gl (gam qBg):=qag
def qHX:LpsT:=fun r fr σ=>.fail
def qxb (t:Int):Tr PV:=.ite (iEq t 1) (.ret (.tup [.str [105,110,116],.bool true])) (.ite (iEq t 2) (.ret (.tup [.str [115,121,109],.bool true])) (.ret (.tup [.str [],.bool false])))
theorem qQ7 (t:Int):(tcall tbT qBg qHX Tryz.f83 [.int .i64 t]).flat=qxb t:=by kernel_rfl
def qvz (t:Int):Option PV:=(qxb t).run
def qfP (t:Int):List UInt8:=(gStr (gAt (gCs (gVal (qvz t))) 0))
def qkJ (t:Int):Bool:=(qcb (gAt (gCs (gVal (qvz t))) 1))
def qhf (t:Int):Bool:=isW (qvz t) (.tup [.str (qfP t),.bool (qkJ t)])
def qvu:List PV→Tr PV|[.int .i64 t]=>.ite (qhf t) (.ret (.tup [.str (qfP t),.bool (qkJ t)])) (.fail)|_=>.fail
theorem quX (gl:Gl):SimP Tryz.prog gl 83 fun args=>(qvu args).run:=by
 refine SimP.of_flat (G:=qBg) (L:=qHX) qat (qMv gl ) qah  Tryz.func83 rfl (by rfl) (by kernel_rfl) (qae (by kernel_rfl)) ?_
 intro args x h;unfold qvu at h
 split at h
 ·exact (congrArg Tr.run (qQ7 _)).trans (qai h fun h=>by cases h)
 ·cases h
def qKy:GamT:=ofL [(83,.pure qvu),(88,.pure qne),(qdX,.hint [(8,0,1,9)])]
theorem qI3 (gl:Gl) (hg:GlPow gl):qaU Tryz.prog gl (gam qKy):=(qac (quX gl) (qac (qik hg) (qbv (K:=.hint [(8,0,1,9)]) trivial qag)))
def qE5:Code:=qdT Tryz.f82 3
def qFy:LI:=⟨35,[1,2,8,13,14,15],fun e=>match e with|.ret=>[6,7]|.exit 0=>[1,8]|_=>[],true⟩
def qBC:LpsT:=fun r fr σ=>.fail
def qm3 (vs:List PV) (σ:Store):Option (PExit×List PV×Store):=lval (lstep tbT qKy qBC qE5 qFy) vs σ
def quN (between:qU) (texts:qR) (r:qR) (n:Int) (n2:Int) (k:Nat):Tr LR:=.ite (iLt n2 n) (.ite (qav n2) (.ite (qa3 [.int .i64 0] r (nNat n2)) (.ite (qhf (xInt r (nNat n2) 0)) (.ite (bNot (qkJ (xInt r (nNat n2) 0))) (.ret (.out .ret [.str [],.bool false] (Store.mk [] [(k,1,9)] []))) (.ite (qaI texts [[.str (qfP (xInt r (nNat n2) 0))]] 16) (.ite (qaH [[.str (qfP (xInt r (nNat n2) 0))]] 1) (.ite (qaB texts 1) (.ite (nEq k (nXs texts)) (.ret (.next [.str between,.fn 83 [],.sl (xApp texts [[.str (qfP (xInt r (nNat n2) 0))]]) (.tok 0),.sl r .non,.int .i64 n,.int .i64 (iAdd .i64 n2 1)] (Store.mk [] [(nXs (xApp texts [[.str (qfP (xInt r (nNat n2) 0))]]),1,9)] []))) .fail) .fail) .fail) .fail)) .fail) .fail) .fail) (.ret (.out (.exit 0) [.str between,.sl texts (.tok 0)] (Store.mk [] [(k,1,9)] [])))
theorem qSn (between:qU) (texts:qR) (r:qR) (n:Int) (n2:Int) (k:Nat):lstep tbT qKy qBC qE5 qFy [.str between,.fn 83 [],.sl texts (.tok 0),.sl r .non,.int .i64 n,.int .i64 n2] ⟨[],[(k,1,9)],[]⟩=quN between texts r n n2 k:=by kernel_rfl
theorem qJ9 (between:qU) (texts:qR) (r:qR) (n:Int) (n2:Int) (k:Nat):qm3 [.str between,.fn 83 [],.sl texts (.tok 0),.sl r .non,.int .i64 n,.int .i64 n2] ⟨[],[(k,1,9)],[]⟩=lnext qm3 (quN between texts r n n2 k).run:=by unfold qm3;rw [qbu,qSn]
def qmS (between:qU) (texts:qR) (r:qR) (n:Int) (n2:Int) (k:Nat):Option (PExit×List PV×Store):=qm3 [.str between,.fn 83 [],.sl texts (.tok 0),.sl r .non,.int .i64 n,.int .i64 n2] ⟨[],[(k,1,9)],[]⟩
def qpm (between:qU) (texts:qR) (r:qR) (n:Int) (n2:Int) (k:Nat):List UInt8:=(gStr (gOut (qmS between texts r n n2 k) 0))
def qo4 (between:qU) (texts:qR) (r:qR) (n:Int) (n2:Int) (k:Nat):Bool:=(qcb (gOut (qmS between texts r n n2 k) 1))
def qrK (between:qU) (texts:qR) (r:qR) (n:Int) (n2:Int) (k:Nat):Nat:=(gTok (qmS between texts r n n2 k) 0)
def qsT (between:qU) (texts:qR) (r:qR) (n:Int) (n2:Int) (k:Nat):Bool:=isW (qmS between texts r n n2 k) (.ret,[.str (qpm between texts r n n2 k),.bool (qo4 between texts r n n2 k)],⟨[],[((qrK between texts r n n2 k),1,9)],[]⟩)
def qdM (between:qU) (texts:qR) (r:qR) (n:Int) (n2:Int) (k:Nat):List UInt8:=(gStr (gOut (qmS between texts r n n2 k) 0))
def qd3 (between:qU) (texts:qR) (r:qR) (n:Int) (n2:Int) (k:Nat):List (List PV):=(gRow (gOut (qmS between texts r n n2 k) 1))
def qrF (between:qU) (texts:qR) (r:qR) (n:Int) (n2:Int) (k:Nat):Nat:=(gTok (qmS between texts r n n2 k) 0)
def qsM (between:qU) (texts:qR) (r:qR) (n:Int) (n2:Int) (k:Nat):Bool:=isW (qmS between texts r n n2 k) ((.exit 0),[.str (qdM between texts r n n2 k),.sl (qd3 between texts r n n2 k) (.tok 0)],⟨[],[((qrF between texts r n n2 k),1,9)],[]⟩)
def qoE:List PV→Store→Tr (PExit×List PV×Store)|[.str between,.fn 83 [],.sl texts (.tok 0),.sl r .non,.int .i64 n,.int .i64 n2],⟨[],[(k,1,9)],[]⟩=>.ite (qsT between texts r n n2 k) (.ret (.ret,[.str (qpm between texts r n n2 k),.bool (qo4 between texts r n n2 k)],⟨[],[((qrK between texts r n n2 k),1,9)],[]⟩)) (.ite (qsM between texts r n n2 k) (.ret ((.exit 0),[.str (qdM between texts r n n2 k),.sl (qd3 between texts r n n2 k) (.tok 0)],⟨[],[((qrF between texts r n n2 k),1,9)],[]⟩)) (.fail))|_,_=>.fail
theorem qPR:∀ vs σ r,(qoE vs σ).run=some r→qm3 vs σ=some r:=by
 intro vs σ r h;unfold qoE at h
 split at h
 ·exact qai h fun h=>qai h fun h=>by cases h
 ·cases h
theorem qJZ (gl:Gl) (hg:GlPow gl):∀ fr σ e fr' σ',(orc qFy qoE fr σ).run=some (e,fr',σ')→LDoes Tryz.prog gl qE5 fr σ e fr' σ':=qck qat (qI3 gl hg ) qah (L:=qBC) (qae (by kernel_rfl)) (by kernel_rfl) qPR
def qR6:LpsT:=fun r fr σ=>bif Nat.beq r 3 then orc qFy qoE fr σ else .fail
def qJN (l:qR) (sep:qU):Tr PV:=.ite (qsT sep [] l (xLen l) 0 0) (.ret (.tup [.str (qpm sep [] l (xLen l) 0 0),.bool (qo4 sep [] l (xLen l) 0 0)])) (.ite (qsM sep [] l (xLen l) 0 0) (.ite (okR cS (qaa (qd3 sep [] l (xLen l) 0 0))) (.ite (qfD (unR cS (qaa (qd3 sep [] l (xLen l) 0 0))) (qdM sep [] l (xLen l) 0 0)) (.ret (.tup [.str (qeB (unR cS (qaa (qd3 sep [] l (xLen l) 0 0))) (qdM sep [] l (xLen l) 0 0)),.bool true])) .fail) .fail) .fail)
theorem qUx (l:qR) (sep:qU):(tcall tbT qKy qR6 Tryz.f82 [.sl l .non,.str sep,.fn 83 []]).flat=qJN l sep:=by kernel_rfl
def qJd (l:qR) (sep:qU):Option PV:=(qJN l sep).run
def qoN (l:qR) (sep:qU):List UInt8:=(gStr (gAt (gCs (gVal (qJd l sep))) 0))
def qzV (l:qR) (sep:qU):Bool:=(qcb (gAt (gCs (gVal (qJd l sep))) 1))
def qnx (l:qR) (sep:qU):Bool:=isW (qJd l sep) (.tup [.str (qoN l sep),.bool (qzV l sep)])
def qR8:List PV→Tr PV|[.sl l .non,.str sep,.fn 83 []]=>.ite (qnx l sep) (.ret (.tup [.str (qoN l sep),.bool (qzV l sep)])) (.fail)|_=>.fail
theorem qP0 (gl:Gl) (hg:GlPow gl):SimP Tryz.prog gl 82 fun args=>(qR8 args).run:=by
 refine SimP.of_flat (G:=qKy) (L:=qR6) qat (qI3 gl hg ) qah  Tryz.func82 rfl (by rfl) (by kernel_rfl) (qaX (L:=lps qR6) [(3,qE5)] (by kernel_rfl) (List.forall_mem_cons.2 ⟨fun fr σ e fr' σ' h=>qJZ gl hg  fr σ e fr' σ' h,(List.forall_mem_nil _)⟩)) ?_
 intro args x h;unfold qR8 at h
 split at h
 ·exact (congrArg Tr.run (qUx _ _)).trans (qai h fun h=>by cases h)
 ·cases h
def qCL:GamT:=ofL [(18,.pure qq1),(82,.pure qR8),(83,.pure qvu)]
theorem qMg (gl:Gl) (hg:GlLex gl):qaU Tryz.prog gl (gam qCL):=(qac (qox gl hg) (qac (qP0 gl hg.toGlOk.toGlPow) (qac (quX gl) qag)))
def qJS:LpsT:=fun r fr σ=>.fail
def qxm (d:qU) (d2:Bool) (d3:qR):Tr PV:=.ite d2 (.ite (qnx (qaa d3) [44,32]) (.ite (qaE [98,97,115,101,32] d) (.ite (qaE (sApp [98,97,115,101,32] d) [40]) (.ite (qaE (sApp (sApp [98,97,115,101,32] d) [40]) (qoN (qaa d3) [44,32])) (.ite (qaE (sApp (sApp (sApp [98,97,115,101,32] d) [40]) (qoN (qaa d3) [44,32])) [41,46]) (.ite (qzV (qaa d3) [44,32]) (.ite (qet d) (.ret (.tup [.str (sApp (sApp (sApp (sApp [98,97,115,101,32] d) [40]) (qoN (qaa d3) [44,32])) [41,46]),.bool (qgC d)])) .fail) (.ret (.tup [.str (sApp (sApp (sApp (sApp [98,97,115,101,32] d) [40]) (qoN (qaa d3) [44,32])) [41,46]),.bool false]))) .fail) .fail) .fail) .fail) .fail) (.ite (qnx (qaa d3) [44,32]) (.ite (qaE [118,105,101,119,32] d) (.ite (qaE (sApp [118,105,101,119,32] d) [40]) (.ite (qaE (sApp (sApp [118,105,101,119,32] d) [40]) (qoN (qaa d3) [44,32])) (.ite (qaE (sApp (sApp (sApp [118,105,101,119,32] d) [40]) (qoN (qaa d3) [44,32])) [41,46]) (.ite (qzV (qaa d3) [44,32]) (.ite (qet d) (.ret (.tup [.str (sApp (sApp (sApp (sApp [118,105,101,119,32] d) [40]) (qoN (qaa d3) [44,32])) [41,46]),.bool (qgC d)])) .fail) (.ret (.tup [.str (sApp (sApp (sApp (sApp [118,105,101,119,32] d) [40]) (qoN (qaa d3) [44,32])) [41,46]),.bool false]))) .fail) .fail) .fail) .fail) .fail)
theorem qRn (d:qU) (d2:Bool) (d3:qR):(tcall tbT qCL qJS Tryz.f55 [.agg [.str d,.bool d2,.sl d3 .non]]).flat=qxm d d2 d3:=by kernel_rfl
def quf (d:qU) (d2:Bool) (d3:qR):Option PV:=(qxm d d2 d3).run
def qlr (d:qU) (d2:Bool) (d3:qR):List UInt8:=(gStr (gAt (gCs (gVal (quf d d2 d3))) 0))
def qn9 (d:qU) (d2:Bool) (d3:qR):Bool:=(qcb (gAt (gCs (gVal (quf d d2 d3))) 1))
def qiU (d:qU) (d2:Bool) (d3:qR):Bool:=isW (quf d d2 d3) (.tup [.str (qlr d d2 d3),.bool (qn9 d d2 d3)])
def qzf:List PV→Tr PV|[.agg [.str d,.bool d2,.sl d3 .non]]=>.ite (qiU d d2 d3) (.ret (.tup [.str (qlr d d2 d3),.bool (qn9 d d2 d3)])) (.fail)|_=>.fail
theorem qAS (gl:Gl) (hg:GlLex gl):SimP Tryz.prog gl 55 fun args=>(qzf args).run:=by
 refine SimP.of_flat (G:=qCL) (L:=qJS) qat (qMg gl hg ) qah  Tryz.func55 rfl (by rfl) (by kernel_rfl) (qae (by kernel_rfl)) ?_
 intro args x h;unfold qzf at h
 split at h
 ·exact (congrArg Tr.run (qRn _ _ _)).trans (qai h fun h=>by cases h)
 ·cases h
def qJE:GamT:=ofL [(20,.pure qAF),(83,.pure qvu)]
theorem qOm (gl:Gl) (hg:GlLex gl):qaU Tryz.prog gl (gam qJE):=(qac (qxh gl hg) (qac (quX gl) qag))
def qOu:LpsT:=fun r fr σ=>.fail
def qDi (p_:qU) (p_2:Int):Tr PV:=.ite (qhf p_2) (.ite (qaE p_ [32]) (.ite (qaE (sApp p_ [32]) (qfP p_2)) (.ite (qkJ p_2) (.ite (qia p_) (.ret (.tup [.str (sApp (sApp p_ [32]) (qfP p_2)),.bool (qoh p_)])) .fail) (.ret (.tup [.str (sApp (sApp p_ [32]) (qfP p_2)),.bool false]))) .fail) .fail) .fail
theorem qSx (p_:qU) (p_2:Int):(tcall tbT qJE qOu Tryz.f85 [.agg [.str p_,.int .i64 p_2]]).flat=qDi p_ p_2:=by kernel_rfl
def qzQ (p_:qU) (p_2:Int):Option PV:=(qDi p_ p_2).run
def qng (p_:qU) (p_2:Int):List UInt8:=(gStr (gAt (gCs (gVal (qzQ p_ p_2))) 0))
def qtJ (p_:qU) (p_2:Int):Bool:=(qcb (gAt (gCs (gVal (qzQ p_ p_2))) 1))
def qmm (p_:qU) (p_2:Int):Bool:=isW (qzQ p_ p_2) (.tup [.str (qng p_ p_2),.bool (qtJ p_ p_2)])
def qEK:List PV→Tr PV|[.agg [.str p_,.int .i64 p_2]]=>.ite (qmm p_ p_2) (.ret (.tup [.str (qng p_ p_2),.bool (qtJ p_ p_2)])) (.fail)|_=>.fail
theorem qEV (gl:Gl) (hg:GlLex gl):SimP Tryz.prog gl 85 fun args=>(qEK args).run:=by
 refine SimP.of_flat (G:=qJE) (L:=qOu) qat (qOm gl hg ) qah  Tryz.func85 rfl (by rfl) (by kernel_rfl) (qae (by kernel_rfl)) ?_
 intro args x h;unfold qEK at h
 split at h
 ·exact (congrArg Tr.run (qSx _ _)).trans (qai h fun h=>by cases h)
 ·cases h
def qIL:GamT:=ofL [(47,.pure quF)]
theorem qML (gl:Gl) (hg:GlLex gl):qaU Tryz.prog gl (gam qIL):=(qac (quK gl hg) qag)
def qO5:LpsT:=fun r fr σ=>.fail
def qCw (a:Bool) (a2:qU) (a3:qR):Tr PV:=.ite (qda a2 (qaa a3)) (.ite a (.ite (qaE [43] (qbS a2 (qaa a3))) (.ret (.tup [.str (sApp [43] (qbS a2 (qaa a3))),.bool (qeJ a2 (qaa a3))])) .fail) (.ite (qaE [45] (qbS a2 (qaa a3))) (.ret (.tup [.str (sApp [45] (qbS a2 (qaa a3))),.bool (qeJ a2 (qaa a3))])) .fail)) .fail
theorem qS6 (a:Bool) (a2:qU) (a3:qR):(tcall tbT qIL qO5 Tryz.f87 [.agg [.bool a,.str a2,.sl a3 .non]]).flat=qCw a a2 a3:=by kernel_rfl
def qA7 (a:Bool) (a2:qU) (a3:qR):Option PV:=(qCw a a2 a3).run
def qmU (a:Bool) (a2:qU) (a3:qR):List UInt8:=(gStr (gAt (gCs (gVal (qA7 a a2 a3))) 0))
def quE (a:Bool) (a2:qU) (a3:qR):Bool:=(qcb (gAt (gCs (gVal (qA7 a a2 a3))) 1))
def qlU (a:Bool) (a2:qU) (a3:qR):Bool:=isW (qA7 a a2 a3) (.tup [.str (qmU a a2 a3),.bool (quE a a2 a3)])
def qEh:List PV→Tr PV|[.agg [.bool a,.str a2,.sl a3 .non]]=>.ite (qlU a a2 a3) (.ret (.tup [.str (qmU a a2 a3),.bool (quE a a2 a3)])) (.fail)|_=>.fail
theorem qFC (gl:Gl) (hg:GlLex gl):SimP Tryz.prog gl 87 fun args=>(qEh args).run:=by
 refine SimP.of_flat (G:=qIL) (L:=qO5) qat (qML gl hg ) qah  Tryz.func87 rfl (by rfl) (by kernel_rfl) (qae (by kernel_rfl)) ?_
 intro args x h;unfold qEh at h
 split at h
 ·exact (congrArg Tr.run (qS6 _ _ _)).trans (qai h fun h=>by cases h)
 ·cases h
def qMl:GamT:=ofL [(85,.pure qEK),(88,.pure qne),(qdX,.hint [(8,0,1,9)])]
theorem qKp (gl:Gl) (hg:GlLex gl):qaU Tryz.prog gl (gam qMl):=(qac (qEV gl hg) (qac (qik hg.toGlOk.toGlPow) (qbv (K:=.hint [(8,0,1,9)]) trivial qag)))
def qFW:Code:=qdT Tryz.f84 3
def qF5:LI:=⟨35,[1,2,8,13,14,15],fun e=>match e with|.ret=>[6,7]|.exit 0=>[1,8]|_=>[],true⟩
def qBS:LpsT:=fun r fr σ=>.fail
def qm6 (vs:List PV) (σ:Store):Option (PExit×List PV×Store):=lval (lstep tbT qMl qBS qFW qF5) vs σ
def qux (between:qU) (texts:qR) (r:qR) (n:Int) (n2:Int) (k:Nat):Tr LR:=.ite (iLt n2 n) (.ite (qav n2) (.ite (qa3 [.str [],.int .i64 0] r (nNat n2)) (.ite (qmm (xStr r (nNat n2) 0) (xInt r (nNat n2) 1)) (.ite (bNot (qtJ (xStr r (nNat n2) 0) (xInt r (nNat n2) 1))) (.ret (.out .ret [.str [],.bool false] (Store.mk [] [(k,1,9)] []))) (.ite (qaI texts [[.str (qng (xStr r (nNat n2) 0) (xInt r (nNat n2) 1))]] 16) (.ite (qaH [[.str (qng (xStr r (nNat n2) 0) (xInt r (nNat n2) 1))]] 1) (.ite (qaB texts 1) (.ite (nEq k (nXs texts)) (.ret (.next [.str between,.fn 85 [],.sl (qaD 0 (xApp texts [[.str (qng (xStr r (nNat n2) 0) (xInt r (nNat n2) 1))]])) (.tok 0),.sl (qaD 0 r) .non,.int .i64 n,.int .i64 (iAdd .i64 n2 1)] (Store.mk [] [(nXs (xApp texts [[.str (qng (xStr r (nNat n2) 0) (xInt r (nNat n2) 1))]]),1,9)] []))) .fail) .fail) .fail) .fail)) .fail) .fail) .fail) (.ret (.out (.exit 0) [.str between,.sl texts (.tok 0)] (Store.mk [] [(k,1,9)] [])))
theorem qTu (between:qU) (texts:qR) (r:qR) (n:Int) (n2:Int) (k:Nat):lstep tbT qMl qBS qFW qF5 [.str between,.fn 85 [],.sl texts (.tok 0),.sl r .non,.int .i64 n,.int .i64 n2] ⟨[],[(k,1,9)],[]⟩=qux between texts r n n2 k:=by kernel_rfl
theorem qK9 (between:qU) (texts:qR) (r:qR) (n:Int) (n2:Int) (k:Nat):qm6 [.str between,.fn 85 [],.sl texts (.tok 0),.sl r .non,.int .i64 n,.int .i64 n2] ⟨[],[(k,1,9)],[]⟩=lnext qm6 (qux between texts r n n2 k).run:=by unfold qm6;rw [qbu,qTu]
def qmX (between:qU) (texts:qR) (r:qR) (n:Int) (n2:Int) (k:Nat):Option (PExit×List PV×Store):=qm6 [.str between,.fn 85 [],.sl texts (.tok 0),.sl r .non,.int .i64 n,.int .i64 n2] ⟨[],[(k,1,9)],[]⟩
def qpf (between:qU) (texts:qR) (r:qR) (n:Int) (n2:Int) (k:Nat):List UInt8:=(gStr (gOut (qmX between texts r n n2 k) 0))
def qpi (between:qU) (texts:qR) (r:qR) (n:Int) (n2:Int) (k:Nat):Bool:=(qcb (gOut (qmX between texts r n n2 k) 1))
def qsD (between:qU) (texts:qR) (r:qR) (n:Int) (n2:Int) (k:Nat):Nat:=(gTok (qmX between texts r n n2 k) 0)
def qrj (between:qU) (texts:qR) (r:qR) (n:Int) (n2:Int) (k:Nat):Bool:=isW (qmX between texts r n n2 k) (.ret,[.str (qpf between texts r n n2 k),.bool (qpi between texts r n n2 k)],⟨[],[((qsD between texts r n n2 k),1,9)],[]⟩)
def qdO (between:qU) (texts:qR) (r:qR) (n:Int) (n2:Int) (k:Nat):List UInt8:=(gStr (gOut (qmX between texts r n n2 k) 0))
def qek (between:qU) (texts:qR) (r:qR) (n:Int) (n2:Int) (k:Nat):List (List PV):=(gRow (gOut (qmX between texts r n n2 k) 1))
def qrJ (between:qU) (texts:qR) (r:qR) (n:Int) (n2:Int) (k:Nat):Nat:=(gTok (qmX between texts r n n2 k) 0)
def qss (between:qU) (texts:qR) (r:qR) (n:Int) (n2:Int) (k:Nat):Bool:=isW (qmX between texts r n n2 k) ((.exit 0),[.str (qdO between texts r n n2 k),.sl (qek between texts r n n2 k) (.tok 0)],⟨[],[((qrJ between texts r n n2 k),1,9)],[]⟩)
def qoK:List PV→Store→Tr (PExit×List PV×Store)|[.str between,.fn 85 [],.sl texts (.tok 0),.sl r .non,.int .i64 n,.int .i64 n2],⟨[],[(k,1,9)],[]⟩=>.ite (qrj between texts r n n2 k) (.ret (.ret,[.str (qpf between texts r n n2 k),.bool (qpi between texts r n n2 k)],⟨[],[((qsD between texts r n n2 k),1,9)],[]⟩)) (.ite (qss between texts r n n2 k) (.ret ((.exit 0),[.str (qdO between texts r n n2 k),.sl (qek between texts r n n2 k) (.tok 0)],⟨[],[((qrJ between texts r n n2 k),1,9)],[]⟩)) (.fail))|_,_=>.fail
theorem qSb:∀ vs σ r,(qoK vs σ).run=some r→qm6 vs σ=some r:=by
 intro vs σ r h;unfold qoK at h
 split at h
 ·exact qai h fun h=>qai h fun h=>by cases h
 ·cases h
theorem qIp (gl:Gl) (hg:GlLex gl):∀ fr σ e fr' σ',(orc qF5 qoK fr σ).run=some (e,fr',σ')→LDoes Tryz.prog gl qFW fr σ e fr' σ':=qck qat (qKp gl hg ) qah (L:=qBS) (qae (by kernel_rfl)) (by kernel_rfl) qSb
def qQU:LpsT:=fun r fr σ=>bif Nat.beq r 3 then orc qF5 qoK fr σ else .fail
def qKe (l:qR) (sep:qU):Tr PV:=.ite (qrj sep [] l (xLen l) 0 0) (.ret (.tup [.str (qpf sep [] l (xLen l) 0 0),.bool (qpi sep [] l (xLen l) 0 0)])) (.ite (qss sep [] l (xLen l) 0 0) (.ite (okR cS (qaa (qek sep [] l (xLen l) 0 0))) (.ite (qfD (unR cS (qaa (qek sep [] l (xLen l) 0 0))) (qdO sep [] l (xLen l) 0 0)) (.ret (.tup [.str (qeB (unR cS (qaa (qek sep [] l (xLen l) 0 0))) (qdO sep [] l (xLen l) 0 0)),.bool true])) .fail) .fail) .fail)
theorem qUw (l:qR) (sep:qU):(tcall tbT qMl qQU Tryz.f84 [.sl l .non,.str sep,.fn 85 []]).flat=qKe l sep:=by kernel_rfl
def qJe (l:qR) (sep:qU):Option PV:=(qKe l sep).run
def qiR (l:qR) (sep:qU):List UInt8:=(gStr (gAt (gCs (gVal (qJe l sep))) 0))
def qz6 (l:qR) (sep:qU):Bool:=(qcb (gAt (gCs (gVal (qJe l sep))) 1))
def qqL (l:qR) (sep:qU):Bool:=isW (qJe l sep) (.tup [.str (qiR l sep),.bool (qz6 l sep)])
def qPW:List PV→Tr PV|[.sl l .non,.str sep,.fn 85 []]=>.ite (qqL l sep) (.ret (.tup [.str (qiR l sep),.bool (qz6 l sep)])) (.fail)|_=>.fail
theorem qPp (gl:Gl) (hg:GlLex gl):SimP Tryz.prog gl 84 fun args=>(qPW args).run:=by
 refine SimP.of_flat (G:=qMl) (L:=qQU) qat (qKp gl hg ) qah  Tryz.func84 rfl (by rfl) (by kernel_rfl) (qaX (L:=lps qQU) [(3,qFW)] (by kernel_rfl) (List.forall_mem_cons.2 ⟨fun fr σ e fr' σ' h=>qIp gl hg  fr σ e fr' σ' h,(List.forall_mem_nil _)⟩)) ?_
 intro args x h;unfold qPW at h
 split at h
 ·exact (congrArg Tr.run (qUw _ _)).trans (qai h fun h=>by cases h)
 ·cases h
def qL2:GamT:=ofL [(87,.pure qEh),(88,.pure qne),(qdX,.hint [(8,0,1,9)])]
theorem qL7 (gl:Gl) (hg:GlLex gl):qaU Tryz.prog gl (gam qL2):=(qac (qFC gl hg) (qac (qik hg.toGlOk.toGlPow) (qbv (K:=.hint [(8,0,1,9)]) trivial qag)))
def qFO:Code:=qdT Tryz.f86 3
def qEl:LI:=⟨35,[1,2,8,13,14,15],fun e=>match e with|.ret=>[6,7]|.exit 0=>[1,8]|_=>[],true⟩
def qDZ:LpsT:=fun r fr σ=>.fail
def qm8 (vs:List PV) (σ:Store):Option (PExit×List PV×Store):=lval (lstep tbT qL2 qDZ qFO qEl) vs σ
def quS (between:qU) (texts:qR) (r:qR) (n:Int) (n2:Int) (k:Nat):Tr LR:=.ite (iLt n2 n) (.ite (qav n2) (.ite (qa3 [.bool false,.str [],.sl [] .full] r (nNat n2)) (.ite (qlU (qcu r (nNat n2) 0) (xStr r (nNat n2) 1) (qaa (xRow r (nNat n2) 2))) (.ite (bNot (quE (qcu r (nNat n2) 0) (xStr r (nNat n2) 1) (qaa (xRow r (nNat n2) 2)))) (.ret (.out .ret [.str [],.bool false] (Store.mk [] [(k,1,9)] []))) (.ite (qaI texts [[.str (qmU (qcu r (nNat n2) 0) (xStr r (nNat n2) 1) (qaa (xRow r (nNat n2) 2)))]] 16) (.ite (qaH [[.str (qmU (qcu r (nNat n2) 0) (xStr r (nNat n2) 1) (qaa (xRow r (nNat n2) 2)))]] 1) (.ite (qaB texts 1) (.ite (nEq k (nXs texts)) (.ret (.next [.str between,.fn 87 [],.sl (qaD 0 (xApp texts [[.str (qmU (qcu r (nNat n2) 0) (xStr r (nNat n2) 1) (qaa (xRow r (nNat n2) 2)))]])) (.tok 0),.sl (qaD 0 r) .non,.int .i64 n,.int .i64 (iAdd .i64 n2 1)] (Store.mk [] [(nXs (xApp texts [[.str (qmU (qcu r (nNat n2) 0) (xStr r (nNat n2) 1) (qaa (xRow r (nNat n2) 2)))]]),1,9)] []))) .fail) .fail) .fail) .fail)) .fail) .fail) .fail) (.ret (.out (.exit 0) [.str between,.sl texts (.tok 0)] (Store.mk [] [(k,1,9)] [])))
theorem qSJ (between:qU) (texts:qR) (r:qR) (n:Int) (n2:Int) (k:Nat):lstep tbT qL2 qDZ qFO qEl [.str between,.fn 87 [],.sl texts (.tok 0),.sl r .non,.int .i64 n,.int .i64 n2] ⟨[],[(k,1,9)],[]⟩=quS between texts r n n2 k:=by kernel_rfl
theorem qIZ (between:qU) (texts:qR) (r:qR) (n:Int) (n2:Int) (k:Nat):qm8 [.str between,.fn 87 [],.sl texts (.tok 0),.sl r .non,.int .i64 n,.int .i64 n2] ⟨[],[(k,1,9)],[]⟩=lnext qm8 (quS between texts r n n2 k).run:=by unfold qm8;rw [qbu,qSJ]
def qmZ (between:qU) (texts:qR) (r:qR) (n:Int) (n2:Int) (k:Nat):Option (PExit×List PV×Store):=qm8 [.str between,.fn 87 [],.sl texts (.tok 0),.sl r .non,.int .i64 n,.int .i64 n2] ⟨[],[(k,1,9)],[]⟩
def qpj (between:qU) (texts:qR) (r:qR) (n:Int) (n2:Int) (k:Nat):List UInt8:=(gStr (gOut (qmZ between texts r n n2 k) 0))
def qow (between:qU) (texts:qR) (r:qR) (n:Int) (n2:Int) (k:Nat):Bool:=(qcb (gOut (qmZ between texts r n n2 k) 1))
def qrW (between:qU) (texts:qR) (r:qR) (n:Int) (n2:Int) (k:Nat):Nat:=(gTok (qmZ between texts r n n2 k) 0)
def qsk (between:qU) (texts:qR) (r:qR) (n:Int) (n2:Int) (k:Nat):Bool:=isW (qmZ between texts r n n2 k) (.ret,[.str (qpj between texts r n n2 k),.bool (qow between texts r n n2 k)],⟨[],[((qrW between texts r n n2 k),1,9)],[]⟩)
def qdJ (between:qU) (texts:qR) (r:qR) (n:Int) (n2:Int) (k:Nat):List UInt8:=(gStr (gOut (qmZ between texts r n n2 k) 0))
def qd4 (between:qU) (texts:qR) (r:qR) (n:Int) (n2:Int) (k:Nat):List (List PV):=(gRow (gOut (qmZ between texts r n n2 k) 1))
def qr8 (between:qU) (texts:qR) (r:qR) (n:Int) (n2:Int) (k:Nat):Nat:=(gTok (qmZ between texts r n n2 k) 0)
def qsd (between:qU) (texts:qR) (r:qR) (n:Int) (n2:Int) (k:Nat):Bool:=isW (qmZ between texts r n n2 k) ((.exit 0),[.str (qdJ between texts r n n2 k),.sl (qd4 between texts r n n2 k) (.tok 0)],⟨[],[((qr8 between texts r n n2 k),1,9)],[]⟩)
def qoy:List PV→Store→Tr (PExit×List PV×Store)|[.str between,.fn 87 [],.sl texts (.tok 0),.sl r .non,.int .i64 n,.int .i64 n2],⟨[],[(k,1,9)],[]⟩=>.ite (qsk between texts r n n2 k) (.ret (.ret,[.str (qpj between texts r n n2 k),.bool (qow between texts r n n2 k)],⟨[],[((qrW between texts r n n2 k),1,9)],[]⟩)) (.ite (qsd between texts r n n2 k) (.ret ((.exit 0),[.str (qdJ between texts r n n2 k),.sl (qd4 between texts r n n2 k) (.tok 0)],⟨[],[((qr8 between texts r n n2 k),1,9)],[]⟩)) (.fail))|_,_=>.fail
theorem qRc:∀ vs σ r,(qoy vs σ).run=some r→qm8 vs σ=some r:=by
 intro vs σ r h;unfold qoy at h
 split at h
 ·exact qai h fun h=>qai h fun h=>by cases h
 ·cases h
theorem qKA (gl:Gl) (hg:GlLex gl):∀ fr σ e fr' σ',(orc qEl qoy fr σ).run=some (e,fr',σ')→LDoes Tryz.prog gl qFO fr σ e fr' σ':=qck qat (qL7 gl hg ) qah (L:=qDZ) (qae (by kernel_rfl)) (by kernel_rfl) qRc
def qQQ:LpsT:=fun r fr σ=>bif Nat.beq r 3 then orc qEl qoy fr σ else .fail
def qKU (l:qR) (sep:qU):Tr PV:=.ite (qsk sep [] l (xLen l) 0 0) (.ret (.tup [.str (qpj sep [] l (xLen l) 0 0),.bool (qow sep [] l (xLen l) 0 0)])) (.ite (qsd sep [] l (xLen l) 0 0) (.ite (okR cS (qaa (qd4 sep [] l (xLen l) 0 0))) (.ite (qfD (unR cS (qaa (qd4 sep [] l (xLen l) 0 0))) (qdJ sep [] l (xLen l) 0 0)) (.ret (.tup [.str (qeB (unR cS (qaa (qd4 sep [] l (xLen l) 0 0))) (qdJ sep [] l (xLen l) 0 0)),.bool true])) .fail) .fail) .fail)
theorem qUi (l:qR) (sep:qU):(tcall tbT qL2 qQQ Tryz.f86 [.sl l .non,.str sep,.fn 87 []]).flat=qKU l sep:=by kernel_rfl
def qLo (l:qR) (sep:qU):Option PV:=(qKU l sep).run
def qlu (l:qR) (sep:qU):List UInt8:=(gStr (gAt (gCs (gVal (qLo l sep))) 0))
def qAY (l:qR) (sep:qU):Bool:=(qcb (gAt (gCs (gVal (qLo l sep))) 1))
def qp5 (l:qR) (sep:qU):Bool:=isW (qLo l sep) (.tup [.str (qlu l sep),.bool (qAY l sep)])
def qPH:List PV→Tr PV|[.sl l .non,.str sep,.fn 87 []]=>.ite (qp5 l sep) (.ret (.tup [.str (qlu l sep),.bool (qAY l sep)])) (.fail)|_=>.fail
theorem qSa (gl:Gl) (hg:GlLex gl):SimP Tryz.prog gl 86 fun args=>(qPH args).run:=by
 refine SimP.of_flat (G:=qL2) (L:=qQQ) qat (qL7 gl hg ) qah  Tryz.func86 rfl (by rfl) (by kernel_rfl) (qaX (L:=lps qQQ) [(3,qFO)] (by kernel_rfl) (List.forall_mem_cons.2 ⟨fun fr σ e fr' σ' h=>qKA gl hg  fr σ e fr' σ' h,(List.forall_mem_nil _)⟩)) ?_
 intro args x h;unfold qPH at h
 split at h
 ·exact (congrArg Tr.run (qUi _ _)).trans (qai h fun h=>by cases h)
 ·cases h
def qRI:GamT:=ofL [(18,.pure qq1),(84,.pure qPW),(85,.pure qEK),(86,.pure qPH),(87,.pure qEh)]
theorem qPD (gl:Gl) (hg:GlLex gl):qaU Tryz.prog gl (gam qRI):=(qac (qox gl hg) (qac (qPp gl hg) (qac (qEV gl hg) (qac (qSa gl hg) (qac (qFC gl hg) qag)))))
def qTv:LpsT:=fun r fr σ=>.fail
def qIr (o:qU) (o2:qR) (o3:qR):Tr PV:=.ite (qqL (qaa o2) [44,32]) (.ite (qp5 (qaa o3) [44,32]) (.ite (iLt 0 (xLen o3)) (.ite (qaE [58,32] (qlu (qaa o3) [44,32])) (.ite (qaE [111,110,32] o) (.ite (qaE (sApp [111,110,32] o) [40]) (.ite (qaE (sApp (sApp [111,110,32] o) [40]) (qiR (qaa o2) [44,32])) (.ite (qaE (sApp (sApp (sApp [111,110,32] o) [40]) (qiR (qaa o2) [44,32])) [41]) (.ite (qaE (sApp (sApp (sApp (sApp [111,110,32] o) [40]) (qiR (qaa o2) [44,32])) [41]) (sApp [58,32] (qlu (qaa o3) [44,32]))) (.ite (qaE (sApp (sApp (sApp (sApp (sApp [111,110,32] o) [40]) (qiR (qaa o2) [44,32])) [41]) (sApp [58,32] (qlu (qaa o3) [44,32]))) [46]) (.ite (qz6 (qaa o2) [44,32]) (.ite (qAY (qaa o3) [44,32]) (.ite (qet o) (.ret (.tup [.str (sApp (sApp (sApp (sApp (sApp (sApp [111,110,32] o) [40]) (qiR (qaa o2) [44,32])) [41]) (sApp [58,32] (qlu (qaa o3) [44,32]))) [46]),.bool (qgC o)])) .fail) (.ret (.tup [.str (sApp (sApp (sApp (sApp (sApp (sApp [111,110,32] o) [40]) (qiR (qaa o2) [44,32])) [41]) (sApp [58,32] (qlu (qaa o3) [44,32]))) [46]),.bool false]))) (.ret (.tup [.str (sApp (sApp (sApp (sApp (sApp (sApp [111,110,32] o) [40]) (qiR (qaa o2) [44,32])) [41]) (sApp [58,32] (qlu (qaa o3) [44,32]))) [46]),.bool false]))) .fail) .fail) .fail) .fail) .fail) .fail) .fail) (.ite (qaE [111,110,32] o) (.ite (qaE (sApp [111,110,32] o) [40]) (.ite (qaE (sApp (sApp [111,110,32] o) [40]) (qiR (qaa o2) [44,32])) (.ite (qaE (sApp (sApp (sApp [111,110,32] o) [40]) (qiR (qaa o2) [44,32])) [41]) (.ite (qaE (sApp (sApp (sApp (sApp [111,110,32] o) [40]) (qiR (qaa o2) [44,32])) [41]) (qlu (qaa o3) [44,32])) (.ite (qaE (sApp (sApp (sApp (sApp (sApp [111,110,32] o) [40]) (qiR (qaa o2) [44,32])) [41]) (qlu (qaa o3) [44,32])) [46]) (.ite (qz6 (qaa o2) [44,32])
 (.ite (qAY (qaa o3) [44,32]) (.ite (qet o) (.ret (.tup [.str (sApp (sApp (sApp (sApp (sApp (sApp [111,110,32] o) [40]) (qiR (qaa o2) [44,32])) [41]) (qlu (qaa o3) [44,32])) [46]),.bool (qgC o)])) .fail) (.ret (.tup [.str (sApp (sApp (sApp (sApp (sApp (sApp [111,110,32] o) [40]) (qiR (qaa o2) [44,32])) [41]) (qlu (qaa o3) [44,32])) [46]),.bool false]))) (.ret (.tup [.str (sApp (sApp (sApp (sApp (sApp (sApp [111,110,32] o) [40]) (qiR (qaa o2) [44,32])) [41]) (qlu (qaa o3) [44,32])) [46]),.bool false]))) .fail) .fail) .fail) .fail) .fail) .fail)) .fail) .fail
theorem qUs (o:qU) (o2:qR) (o3:qR):(tcall tbT qRI qTv Tryz.f57 [.agg [.str o,.sl o2 .non,.sl o3 .non]]).flat=qIr o o2 o3:=by kernel_rfl
def qIk (o:qU) (o2:qR) (o3:qR):Option PV:=(qIr o o2 o3).run
def qu6 (o:qU) (o2:qR) (o3:qR):List UInt8:=(gStr (gAt (gCs (gVal (qIk o o2 o3))) 0))
def qvS (o:qU) (o2:qR) (o3:qR):Bool:=(qcb (gAt (gCs (gVal (qIk o o2 o3))) 1))
def qnm (o:qU) (o2:qR) (o3:qR):Bool:=isW (qIk o o2 o3) (.tup [.str (qu6 o o2 o3),.bool (qvS o o2 o3)])
def qIJ:List PV→Tr PV|[.agg [.str o,.sl o2 .non,.sl o3 .non]]=>.ite (qnm o o2 o3) (.ret (.tup [.str (qu6 o o2 o3),.bool (qvS o o2 o3)])) (.fail)|_=>.fail
theorem qC2 (gl:Gl) (hg:GlLex gl):SimP Tryz.prog gl 57 fun args=>(qIJ args).run:=by
 refine SimP.of_flat (G:=qRI) (L:=qTv) qat (qPD gl hg ) qah  Tryz.func57 rfl (by rfl) (by kernel_rfl) (qae (by kernel_rfl)) ?_
 intro args x h;unfold qIJ at h
 split at h
 ·exact (congrArg Tr.run (qUs _ _ _)).trans (qai h fun h=>by cases h)
 ·cases h
def qDx:GamT:=ofL []
theorem qLH (gl:Gl):qaU Tryz.prog gl (gam qDx):=qag
def qLK:LpsT:=fun r fr σ=>.fail
def qyp (s:qU) (ok:Bool):Tr PV:=.ite (bNot ok) (.ret (.tup [.str [],.int .i64 140])) (.ret (.tup [.str s,.int .i64 0]))
theorem qRh (s:qU) (ok:Bool):(tcall tbT qDx qLK Tryz.f43 [.str s,.bool ok]).flat=qyp s ok:=by kernel_rfl
def quA (s:qU) (ok:Bool):Option PV:=(qyp s ok).run
def qlj (s:qU) (ok:Bool):List UInt8:=(gStr (gAt (gCs (gVal (quA s ok))) 0))
def qlA (s:qU) (ok:Bool):Int:=(gInt (gAt (gCs (gVal (quA s ok))) 1))
def qhm (s:qU) (ok:Bool):Bool:=isW (quA s ok) (.tup [.str (qlj s ok),.int .i64 (qlA s ok)])
def qxo:List PV→Tr PV|[.str s,.bool ok]=>.ite (qhm s ok) (.ret (.tup [.str (qlj s ok),.int .i64 (qlA s ok)])) (.fail)|_=>.fail
theorem qAd (gl:Gl):SimP Tryz.prog gl 43 fun args=>(qxo args).run:=by
 refine SimP.of_flat (G:=qDx) (L:=qLK) qat (qLH gl ) qah  Tryz.func43 rfl (by rfl) (by kernel_rfl) (qae (by kernel_rfl)) ?_
 intro args x h;unfold qxo at h
 split at h
 ·exact (congrArg Tr.run (qRh _ _)).trans (qai h fun h=>by cases h)
 ·cases h
def qCo:GamT:=ofL [(43,.pure qxo),(54,.pure qvs)]
theorem qKL (gl:Gl) (hg:GlLex gl):qaU Tryz.prog gl (gam qCo):=(qac (qAd gl) (qac (qu5 gl hg) qag))
def qLU:LpsT:=fun r fr σ=>.fail
def qxK (r_:qU) (r_2:qR) (r_3:qR):Tr PV:=.ite (qhb r_ (qaa r_2) (qaa r_3)) (.ite (qhm (qhN r_ (qaa r_2) (qaa r_3)) (qiu r_ (qaa r_2) (qaa r_3))) (.ret (.tup [.str (qlj (qhN r_ (qaa r_2) (qaa r_3)) (qiu r_ (qaa r_2) (qaa r_3))),.int .i64 (qlA (qhN r_ (qaa r_2) (qaa r_3)) (qiu r_ (qaa r_2) (qaa r_3)))])) .fail) .fail
theorem qQB (r_:qU) (r_2:qR) (r_3:qR):(tcall tbT qCo qLU Tryz.f26 [.agg [.str r_,.sl r_2 .non,.sl r_3 .non]]).flat=qxK r_ r_2 r_3:=by kernel_rfl
def qu3 (r_:qU) (r_2:qR) (r_3:qR):Option PV:=(qxK r_ r_2 r_3).run
def qko (r_:qU) (r_2:qR) (r_3:qR):List UInt8:=(gStr (gAt (gCs (gVal (qu3 r_ r_2 r_3))) 0))
def qj0 (r_:qU) (r_2:qR) (r_3:qR):Int:=(gInt (gAt (gCs (gVal (qu3 r_ r_2 r_3))) 1))
def qgw (r_:qU) (r_2:qR) (r_3:qR):Bool:=isW (qu3 r_ r_2 r_3) (.tup [.str (qko r_ r_2 r_3),.int .i64 (qj0 r_ r_2 r_3)])
def qCE:List PV→Tr PV|[.agg [.str r_,.sl r_2 .non,.sl r_3 .non]]=>.ite (qgw r_ r_2 r_3) (.ret (.tup [.str (qko r_ r_2 r_3),.int .i64 (qj0 r_ r_2 r_3)])) (.fail)|_=>.fail
theorem qJ2 (gl:Gl) (hg:GlLex gl):SimP Tryz.prog gl 26 fun args=>(qCE args).run:=by
 refine SimP.of_flat (G:=qCo) (L:=qLU) qat (qKL gl hg ) qah  Tryz.func26 rfl (by rfl) (by kernel_rfl) (qae (by kernel_rfl)) ?_
 intro args x h;unfold qCE at h
 split at h
 ·exact (congrArg Tr.run (qQB _ _ _)).trans (qai h fun h=>by cases h)
 ·cases h
def qQg:GamT:=ofL [(43,.pure qxo),(57,.pure qIJ)]
theorem qQn (gl:Gl) (hg:GlLex gl):qaU Tryz.prog gl (gam qQg):=(qac (qAd gl) (qac (qC2 gl hg) qag))
def qSo:LpsT:=fun r fr σ=>.fail
def qI1 (o:qU) (o2:qR) (o3:qR):Tr PV:=.ite (qnm o (qaa o2) (qaa o3)) (.ite (qhm (qu6 o (qaa o2) (qaa o3)) (qvS o (qaa o2) (qaa o3))) (.ret (.tup [.str (qlj (qu6 o (qaa o2) (qaa o3)) (qvS o (qaa o2) (qaa o3))),.int .i64 (qlA (qu6 o (qaa o2) (qaa o3)) (qvS o (qaa o2) (qaa o3)))])) .fail) .fail
theorem qT4 (o:qU) (o2:qR) (o3:qR):(tcall tbT qQg qSo Tryz.f30 [.agg [.str o,.sl o2 .non,.sl o3 .non]]).flat=qI1 o o2 o3:=by kernel_rfl
def qKP (o:qU) (o2:qR) (o3:qR):Option PV:=(qI1 o o2 o3).run
def qxl (o:qU) (o2:qR) (o3:qR):List UInt8:=(gStr (gAt (gCs (gVal (qKP o o2 o3))) 0))
def qy9 (o:qU) (o2:qR) (o3:qR):Int:=(gInt (gAt (gCs (gVal (qKP o o2 o3))) 1))
def qlD (o:qU) (o2:qR) (o3:qR):Bool:=isW (qKP o o2 o3) (.tup [.str (qxl o o2 o3),.int .i64 (qy9 o o2 o3)])
def qQG:List PV→Tr PV|[.agg [.str o,.sl o2 .non,.sl o3 .non]]=>.ite (qlD o o2 o3) (.ret (.tup [.str (qxl o o2 o3),.int .i64 (qy9 o o2 o3)])) (.fail)|_=>.fail
theorem qRp (gl:Gl) (hg:GlLex gl):SimP Tryz.prog gl 30 fun args=>(qQG args).run:=by
 refine SimP.of_flat (G:=qQg) (L:=qSo) qat (qQn gl hg ) qah  Tryz.func30 rfl (by rfl) (by kernel_rfl) (qae (by kernel_rfl)) ?_
 intro args x h;unfold qQG at h
 split at h
 ·exact (congrArg Tr.run (qT4 _ _ _)).trans (qai h fun h=>by cases h)
 ·cases h
end Go.Pv
set_option maxHeartbeats 8000000
set_option maxRecDepth 200000
set_option linter.unusedSimpArgs false
set_option linter.unusedVariables false
namespace Go.Pv
open Go Go.Proofs Go.RowKit
theorem qfv {M:Nat} (sep:Txt):∀ l:List Txt,(∀ x∈l,x.length≤M)→(qeB l sep).length≤l.length * (M+sep.length)
 |[],_=>by simp [qoH]
 |[x],h=>by
  rw [qlg];have:=h x (by simp)
  simp;omega
 |x::y::l,h=>by
  rw [qlF];have h1:=h x (by simp)
  have h2:=qfv sep (y::l) (fun z hz=>h z (by simp [hz]))
  simp only [List.length_append,List.length_cons] at h2 ⊢;rw [Nat.add_mul _ 1];omega
theorem qRw {α:Type} {ok:α→Bool} {T:α→Txt} {M:Nat} (sep:Txt) (l:List α) (h:∀ a∈l,(T a).length≤M):(jn ok T sep l).length≤l.length * (M+sep.length):=by
 unfold jn;split
 ·have:=qfv (M:=M) sep (l.map T) (fun x hx=>by
   obtain⟨a,ha,rfl⟩:=List.mem_map.1 hx;exact h a ha)
  simpa using this
 ·simp
theorem qkD {α:Type} {ok:α→Bool} {T:α→Txt} {M:Nat} (sep:Txt) (l:List α) (n:Nat) (hn:l.length≤n) (h:∀ a∈l,(T a).length≤M):(jn ok T sep l).length≤n * (M+sep.length) :=
 Nat.le_trans (qRw sep l h) (Nat.mul_le_mul_right _ hn)
theorem qPj {v:Vl} (hr:vlR v):(vlT v).length≤1100:=by
 obtain⟨k,n,s⟩:=v;unfold vlT qgA;simp only;by_cases h:isV k n s=true
 ·rw [if_pos h];simp only [isV,decide_eq_true_eq] at h
  rcases h with⟨rfl,_⟩|⟨rfl,_,h⟩
  ·rw [if_pos rfl];have hr1:=hr.1;have hr2:=hr.2;simp only at hr1 hr2;unfold intV qjn;split
   ·have:=qiO 19 (-n).toNat (by omega)
    simp only [List.length_cons];omega
   ·have:=qiO 19 n.toNat (by omega)
    omega
  ·rw [if_neg (by decide)]
   have key:∀ s:qU,(symB s).length≤4 * s.length:=by
    intro s
    induction s with
    |nil=>simp [symB]
    |cons c s ih =>
     rw [qva,List.length_append,List.length_cons];have:(oneV c.toNat).length≤4:=by
      rw [qDI]
      repeat' split
      all_goals simp
     omega
   have:=key s;unfold symV;simp;omega
 ·rw [if_neg h];simp
def tmS (t:Tm):Prop:=t.2.1.length≤300∧tmR t
def atS (a:At):Prop:=a.1.length≤300∧a.2.length≤12∧∀ t∈a.2,tmS t
def liS (l:Li):Prop:=atS l.2.1∧tmS l.2.2.2.1∧tmS l.2.2.2.2
def ruS (r:Ru):Prop:=atS r.1∧r.2.length≤8∧∀ l∈r.2,liS l
def tyS (_:Int):Prop:=True
def deS (d:De):Prop:=d.1.length≤300∧d.2.2.length≤12
def paS (p:Pa):Prop:=p.1.length≤300
def acS (a:Ac):Prop:=atS a.2
def enS (o:En):Prop:=o.1.length≤300∧(o.2.1.length≤12∧∀ p∈o.2.1,paS p)∧(o.2.2.length≤8∧∀ a∈o.2.2,acS a)
theorem qgB {t:Tm} (h:tmS t):(tmT t).length≤1100:=by
 unfold tmT;split
 ·have:=h.1;omega
 ·split
  ·exact qPj h.2
  ·simp
theorem qiw {a:At} (h:atS a):(atT a).length≤14000:=by
 have:=qkD (ok:=tmOk) (T:=tmT) (M:=1100) [44,32] a.2 12 h.2.1 (fun t ht=>qgB (h.2.2 t ht))
 have:=h.1;unfold atT;simp at *;omega
theorem qCW (o:Int):(opT o).length≤4:=by
 unfold opT
 repeat' split
 all_goals simp
theorem qqa {l:Li} (h:liS l):(liT l).length≤14004:=by
 have h1:=qiw h.1;have h2:=qgB h.2.1;have h3:=qgB h.2.2;have h4:=qCW l.2.2.1;unfold liT
 repeat' split
 all_goals simp
 all_goals omega
theorem qis (t:Int):(tyT t).length≤3:=by
 unfold tyT
 repeat' split
 all_goals simp
theorem qqm {p:Pa} (h:paS p):(paT p).length≤304:=by
 have:=qis p.2;have h:p.1.length≤300:=h;unfold paT;simp;omega
theorem qnr {a:Ac} (h:acS a):(acT a).length≤14001:=by
 have:=qiw h;unfold acT;split<;>simp<;>omega
theorem qCs {r:Ru} (h:ruS r):(ruT r).length≤140000:=by
 have h1:=qkD (ok:=liOk) (T:=liT) (M:=14004) [44,32] r.2 8 h.2.1 (fun l hl=>qqa (h.2.2 l hl))
 have h2:=qiw h.1;unfold ruT;simp at h1;split<;>simp<;>omega
theorem qCU {d:De} (h:deS d):(deT d).length≤1000:=by
 have h1:=qkD (ok:=tyOk) (T:=tyT) (M:=3) [44,32] d.2.2 12 h.2 (fun t _=>qis t)
 have h2:=h.1;unfold deT;simp at h1;split<;>simp<;>omega
theorem qDq {o:En} (h:enS o):(enT o).length≤140000:=by
 have h1:=qkD (ok:=paOk) (T:=paT) (M:=304) [44,32] o.2.1 12 h.2.1.1 (fun p hp=>qqm (h.2.1.2 p hp))
 have h2:=qkD (ok:=acOk) (T:=acT) (M:=14001) [44,32] o.2.2 8 h.2.2.1 (fun a ha=>qnr (h.2.2.2 a ha))
 have h3:=h.1;unfold enT;simp at h1 h2;split<;>simp<;>omega
theorem qa0 {a b:Txt} (h:a.length+b.length≤9223372036854775807):qaE a b=true:=by rw [qMI];exact decide_eq_true h
theorem qMe (k:Int) {s:Txt} (hs:s.length≤65536):isW1 k s=(decide (wE s=0)&&decide ((wL s).length=1)&&decide (((wL s)[0]?.getD (0,[],(0,0,[]),0)).1=k)&&decide (((wL s)[0]?.getD (0,[],(0,0,[]),0)).2.1=s)):=by
 unfold isW1 wE wL;cases h:qhJ s with
 |mk l o =>
  cases o with
  |some p=>cases l<;>simp
  |none =>
   cases l with
   |nil=>simp
   |cons w l =>
    cases l with
    |nil=>simp
    |cons w' l=>simp
theorem qLE {s:Txt} (hs:s.length≤65536) (k:Int):qME s k=some (.bool (isW1 k s)):=by
 unfold qME qKk;rw [qMe k hs,qBD hs,qwS hs,qww hs];have x0:xLen (rOf cW (wL s))=((wL s).length:Nat):=by simp
 rw [x0];by_cases h1:wE s=0
 ·by_cases h2:(wL s).length=1
  ·have g:qa3 [PV.int .i64 0,.str [],.int .i64 0,.int .i64 0,.str [],.int .i64 0] (rOf cW (wL s)) (nNat 0)=true:=by rw [qE9];simp [h2]
   have y0:xInt (rOf cW (wL s)) (nNat 0) 0=((wL s)[0]?.getD (0,[],(0,0,[]),0)).1:=qFL _ _;have y1:xStr (rOf cW (wL s)) (nNat 0) 1=((wL s)[0]?.getD (0,[],(0,0,[]),0)).2.1:=qEN _ _;rw [g,y0,y1];generalize (wL s)[0]?.getD (0,[],(0,0,[]),0)=w;by_cases h3:w.1=k<;>simp [h1,h2,h3]
  ·have h2':¬ ((wL s).length:Int)=1:=by omega
   simp [h1,h2,h2']
 ·simp [h1]
theorem qOz {s:Txt} (hs:s.length≤65536) (k:Int):qqz s k=true:=by simp only [qCt,qqz,qLE hs];simp
theorem qSu {s:Txt} (hs:s.length≤65536) (k:Int):qCt s k=isW1 k s:=by simp only [qCt,qqz,qLE hs];simp
theorem qAK {s:Txt} (hs:s.length≤65536):qyX s=some (.bool (nmB s)):=by
 unfold qyX qyG nmB resv;rw [qOz hs,qSu hs];by_cases h1:s=[98,97,115,101]
 ·simp [h1]
 ·by_cases h2:s=[118,105,101,119]
  ·simp [h2]
  ·by_cases h3:s=[111,110]
   ·simp [h3]
   ·by_cases h4:s=[110,111,116]
    ·simp [h4]
    ·simp [h1,h2,h3,h4]
theorem qr2 {s:Txt} (hs:s.length≤65536):qet s=true:=by simp only [qgC,qet,qAK hs];simp
theorem qzb {s:Txt} (hs:s.length≤65536):qgC s=nmB s:=by simp only [qgC,qet,qAK hs];simp
theorem qEr {s:Txt} (hs:s.length≤65536):qEG s=some (.bool (vrB s)):=by
 unfold qEG qDL vrB;rw [qOz hs,qSu hs];simp
theorem qB8 {s:Txt} (hs:s.length≤65536):qia s=true:=by simp only [qoh,qia,qEr hs];simp
theorem qJg {s:Txt} (hs:s.length≤65536):qoh s=vrB s:=by simp only [qoh,qia,qEr hs];simp
theorem qI6 (k n:Int) (s:Txt):(qbU k n s=0)↔isV k n s=true:=by
 unfold qbU isV;by_cases h1:k=1∧s=[]
 ·simp [h1]
 ·by_cases h2:k=2∧n=0∧s.length≤256
  ·simp [h2]
  ·rw [if_neg h1,if_neg h2];exact⟨fun h=>absurd h (by decide),fun h=>(of_decide_eq_true h).elim (fun a=>absurd a h1) (fun a=>absurd a h2)⟩
theorem qs2 {t:Tm} (h:tmS t):qvi t.1 t.2.1 t.2.2.1 t.2.2.2.1 t.2.2.2.2=some (.tup [.str (tmT t),.bool (tmOk t)]):=by
 obtain⟨k,b,c,n,s⟩:=t;have hb:b.length≤65536:=Nat.le_trans h.1 (by decide)
 unfold qvi qxV tmT tmOk vlOk vlT;simp only [qB8 hb,qJg hb,qog];by_cases h1:k=1
 ·cases hv:vrB b<;>simp [h1,hv,bAnd,Bool.decide_and]
 ·by_cases h2:k=2
  ·by_cases h3:isV c n s=true
   ·have h4:=(qI6 c n s).2 h3;simp [h2,h3,h4]
   ·have h4:¬ qbU c n s=0:=fun h=>h3 ((qI6 c n s).1 h)
    simp [h2,h3,h4]
  ·simp [h1,h2,bAnd,Bool.decide_and]
theorem qsg {t:Tm} (h:tmS t):qdz t.1 t.2.1 t.2.2.1 t.2.2.2.1 t.2.2.2.2=true:=by simp only [qfX,qdz,qa1,qs2 h];simp
theorem qrN {t:Tm} (h:tmS t):qa1 t.1 t.2.1 t.2.2.1 t.2.2.2.1 t.2.2.2.2=tmT t:=by simp only [qfX,qdz,qa1,qs2 h];simp
theorem qsI {t:Tm} (h:tmS t):qfX t.1 t.2.1 t.2.2.1 t.2.2.2.1 t.2.2.2.2=tmOk t:=by simp only [qfX,qdz,qa1,qs2 h];simp
theorem qBk {l:List Tm} (hs:∀ a∈l,tmS a) (hn:l.length≤100000) {sep:Txt} (hsep:sep.length≤10):qKr (rOf cM l) sep=some (.tup [.str (jn tmOk tmT sep l),.bool (l.all tmOk)]):=by
 have hl:=qcy (l:=l) l.length (Nat.le_refl _) (V:=fun i b=>qmW [.str sep,.fn 44 [],.sl (rOf cS b) (.tok 0),.sl (rOf cM l) .non,.int .i64 (l.length:Nat),.int .i64 (i:Nat)] ⟨[],[(b.length,1,9)],[]⟩) tmOk tmT (fun b=>some (.exit 0,[.str sep,.sl (rOf cS b) (.tok 0)],⟨[],[(b.length,1,9)],[]⟩)) (fun r=>∃ k:Nat,r=some (.ret,[.str [],.bool false],⟨[],[(k,1,9)],[]⟩)) ?_ ?_ ?_
 ·rw [List.take_length] at hl;obtain⟨h1,h2⟩:=hl;have x0:xLen (rOf cM l)=(l.length:Nat):=by simp
  unfold qKr qLc jn;rw [x0];cases ha:l.all tmOk with
  |true =>
   have h':qm2 sep [] (rOf cM l) (l.length:Nat) 0 0=_:=h1 ha;have o:qfD (l.map tmT) sep=true:=by
    rw [qbZ];have:=qfv (M:=1100) sep (l.map tmT) (fun x hx=>by
     obtain⟨a,ha,rfl⟩:=List.mem_map.1 hx;exact qgB (hs a ha))
    have h3:(l.map tmT).length * (1100+sep.length)≤100000 * (1100+10):=Nat.mul_le_mul (by simpa using hn) (by omega)
    exact⟨by simp;omega,by omega⟩
   simp only [qoi,qdK,qsK,qsB,qsu,qrI,qoo,qd2,h'];rw [qbZ] at o;simp [o.2];omega
  |false =>
   obtain⟨k,hk⟩:=h2 ha;have h':qm2 sep [] (rOf cM l) (l.length:Nat) 0 0=_:=hk;simp only [qoi,qdK,qsK,qsB,qsu,qrI,qoo,qd2,h'];simp
 ·intro i b a hb hi hi2 ha ho;have hm:tmS a:=hs a (ha ▸ List.getElem_mem hi);have q1:iLt (i:Int) (l.length:Nat)=true:=by simp;omega
  have q3:qav (i:Int)=true:=by simp
  have q4:qa3 [PV.int .i64 0,.str [],.int .i64 0,.int .i64 0,.str []] (rOf cM l) (nNat (i:Int))=true:=by simp;omega
  have w:=qaZ (i:=i) (by omega)
  have e1:=qsg hm;have e2:=qrN hm;have e3:=qsI hm;rw [ho] at e3;have x0:xInt (rOf cM l) (nNat (i:Int)) 0=a.1:=by simp [hi,ha]
  have x1:xStr (rOf cM l) (nNat (i:Int)) 1=a.2.1:=by simp [hi,ha]
  have x2:xInt (rOf cM l) (nNat (i:Int)) 2=a.2.2.1:=by simp [hi,ha]
  have x3:xInt (rOf cM l) (nNat (i:Int)) 3=a.2.2.2.1:=by simp [hi,ha]
  have x4:xStr (rOf cM l) (nNat (i:Int)) 4=a.2.2.2.2:=by simp [hi,ha]
  have o1:∀ c,qaI (rOf cS b) [c] 16=true:=fun c=>by simp;omega
  have o2:∀ t:Txt,qaH [[PV.str t]] 1=true:=fun t=>by simp [one]
  have o3:qaB (rOf cS b) 1=true:=qcH _;have o4:nEq b.length (nXs (rOf cS b))=true:=by simp
  have o5:bNot true=false:=rfl;show qmW [.str sep,.fn 44 [],.sl (rOf cS b) (.tok 0),.sl (rOf cM l) .non,.int .i64 (l.length:Nat),.int .i64 (i:Nat)] ⟨[],[(b.length,1,9)],[]⟩=qmW [.str sep,.fn 44 [],.sl (rOf cS (b++[tmT a])) (.tok 0),.sl (rOf cM l) .non,.int .i64 (l.length:Nat),.int .i64 ((i+1:Nat):Int)] ⟨[],[((b++[tmT a]).length,1,9)],[]⟩
  rw [qHT];simp only [qtr,q1,q3,q4,x0,x1,x2,x3,x4,qau,e1,e2,e3,o1,o2,o3,o4,o5,w];simp
 ·intro i b a hb hi hi2 ha ho;have hm:tmS a:=hs a (ha ▸ List.getElem_mem hi);have q1:iLt (i:Int) (l.length:Nat)=true:=by simp;omega
  have q3:qav (i:Int)=true:=by simp
  have q4:qa3 [PV.int .i64 0,.str [],.int .i64 0,.int .i64 0,.str []] (rOf cM l) (nNat (i:Int))=true:=by simp;omega
  have w:=qaZ (i:=i) (by omega)
  have e1:=qsg hm;have e2:=qrN hm;have e3:=qsI hm;rw [ho] at e3;have x0:xInt (rOf cM l) (nNat (i:Int)) 0=a.1:=by simp [hi,ha]
  have x1:xStr (rOf cM l) (nNat (i:Int)) 1=a.2.1:=by simp [hi,ha]
  have x2:xInt (rOf cM l) (nNat (i:Int)) 2=a.2.2.1:=by simp [hi,ha]
  have x3:xInt (rOf cM l) (nNat (i:Int)) 3=a.2.2.2.1:=by simp [hi,ha]
  have x4:xStr (rOf cM l) (nNat (i:Int)) 4=a.2.2.2.2:=by simp [hi,ha]
  have o5:bNot false=true:=rfl;show ∃ k:Nat,qmW [.str sep,.fn 44 [],.sl (rOf cS b) (.tok 0),.sl (rOf cM l) .non,.int .i64 (l.length:Nat),.int .i64 (i:Nat)] ⟨[],[(b.length,1,9)],[]⟩=_
  refine⟨b.length,?_⟩;rw [qHT];simp only [qtr,q1,q3,q4,x0,x1,x2,x3,x4,qau,e1,e2,e3,o5];simp
 ·intro b hb;have q1:iLt (l.length:Nat) (l.length:Nat)=false:=by simp
  show qmW [.str sep,.fn 44 [],.sl (rOf cS b) (.tok 0),.sl (rOf cM l) .non,.int .i64 (l.length:Nat),.int .i64 (l.length:Nat)] ⟨[],[(b.length,1,9)],[]⟩=_
  rw [qHT];simp only [qtr,q1];simp
theorem qTg {l:List Tm} (hs:∀ a∈l,tmS a) (hn:l.length≤100000) {sep:Txt} (hsep:sep.length≤10):qqi (rOf cM l) sep=true:=by simp only [qDo,qqi,qv5,qBk hs hn hsep];simp
theorem qTt {l:List Tm} (hs:∀ a∈l,tmS a) (hn:l.length≤100000) {sep:Txt} (hsep:sep.length≤10):qv5 (rOf cM l) sep=jn tmOk tmT sep l:=by simp only [qDo,qqi,qv5,qBk hs hn hsep];simp
theorem qTy {l:List Tm} (hs:∀ a∈l,tmS a) (hn:l.length≤100000) {sep:Txt} (hsep:sep.length≤10):qDo (rOf cM l) sep=l.all tmOk:=by simp only [qDo,qqi,qv5,qBk hs hn hsep];simp
theorem qtK {a:At} (h:atS a):qtm a.1 (rOf cM a.2)=some (.tup [.str (atT a),.bool (atOk a)]):=by
 have e1:=qTg h.2.2 (by have:=h.2.1;omega) (sep:=[44,32]) (by decide)
 have e2:=qTt h.2.2 (by have:=h.2.1;omega) (sep:=[44,32]) (by decide)
 have e3:=qTy h.2.2 (by have:=h.2.1;omega) (sep:=[44,32]) (by decide)
 have hb:a.1.length≤65536:=Nat.le_trans h.1 (by decide)
 have hj:=qkD (ok:=tmOk) (T:=tmT) (M:=1100) [44,32] a.2 12 h.2.1 (fun t ht=>qgB (h.2.2 t ht))
 have hn:=h.1;simp at hj;unfold qtm qyL atT atOk;simp only [qau,e1,e2,e3,qr2 hb,qzb hb];rw [qa0 (by simp;omega),qa0 (by simp;omega),qa0 (by simp;omega)]
 cases a.2.all tmOk<;>simp
theorem qys {a:At} (h:atS a):qda a.1 (rOf cM a.2)=true:=by simp only [qeJ,qda,qbS,qtK h];simp
theorem qzx {a:At} (h:atS a):qbS a.1 (rOf cM a.2)=atT a:=by simp only [qeJ,qda,qbS,qtK h];simp
theorem qxk {a:At} (h:atS a):qeJ a.1 (rOf cM a.2)=atOk a:=by simp only [qeJ,qda,qbS,qtK h];simp
theorem qDd (o:Int):qLl o=some (.tup [.str (opT o),.bool (opOk o)]):=by
 unfold qLl qH3 opT opOk;by_cases h1:o=1
 ·simp [h1]
 ·by_cases h2:o=2
  ·simp [h2]
  ·by_cases h3:o=3
   ·simp [h3]
   ·by_cases h4:o=4
    ·simp [h4]
    ·by_cases h5:o=5
     ·simp [h5]
     ·by_cases h6:o=6
      ·simp [h6]
      ·have:¬ (1≤o∧o≤6):=by omega
       simp [h1,h2,h3,h4,h5,h6];omega
theorem qS9 (o:Int):qli o=true:=by simp only [qzu,qli,qfJ,qDd];simp
theorem qTe (o:Int):qfJ o=opT o:=by simp only [qzu,qli,qfJ,qDd];simp
theorem qTi (o:Int):qzu o=opOk o:=by simp only [qzu,qli,qfJ,qDd];simp
theorem qkL {l:Li} (h:liS l):qja l.1 l.2.1.1 (rOf cM l.2.1.2) l.2.2.1 l.2.2.2.1.1 l.2.2.2.1.2.1 l.2.2.2.1.2.2.1 l.2.2.2.1.2.2.2.1 l.2.2.2.1.2.2.2.2 l.2.2.2.2.1 l.2.2.2.2.2.1 l.2.2.2.2.2.2.1 l.2.2.2.2.2.2.2.1 l.2.2.2.2.2.2.2.2=some (.tup [.str (liT l),.bool (liOk l)]):=by
 have e1:=qys h.1;have e2:=qzx h.1;have e3:=qxk h.1;have a1:=qsg h.2.1;have a2:=qrN h.2.1;have a3:=qsI h.2.1;have b1:=qsg h.2.2;have b2:=qrN h.2.2;have b3:=qsI h.2.2;have l1:=qiw h.1;have l2:=qgB h.2.1;have l3:=qgB h.2.2;have l4:=qCW l.2.2.1;have o1:qaE [110,111,116,32] (atT l.2.1)=true:=qa0 (by simp;omega)
 have o2:qaE (tmT l.2.2.2.1) (opT l.2.2.1)=true:=qa0 (by omega)
 have o3:qaE (sApp (tmT l.2.2.2.1) (opT l.2.2.1)) (tmT l.2.2.2.2)=true:=qa0 (by simp;omega)
 have pl:qMw l=(decide (l.2.2.1=0)&&decide (l.2.2.2.1=tm0)&&decide (l.2.2.2.2=tm0)):=rfl;have t0:∀ t:Tm,(t=tm0)=(t.1=0∧t.2.1=[]∧t.2.2.1=0∧t.2.2.2.1=0∧t.2.2.2.2=[]):=fun t=>by
  obtain⟨a,b,c,d,e⟩:=t;simp [tm0]
 unfold qja qnC liT liOk;simp only [qau,e1,e2,e3,a1,a2,a3,b1,b2,b3,qS9,qTe,qTi,o1,o2,o3,pl,t0];have at0:(l.2.1=([],[]))=(l.2.1.1=[]∧l.2.1.2=[]):=by
  cases hl:l.2.1 with
  |mk x y=>simp
 simp only [at0];generalize l.1=k;generalize l.2.2.1=o;generalize l.2.2.2.1=A;generalize l.2.2.2.2=B;generalize l.2.1=T;obtain⟨A1,A2,A3,A4,A5⟩:=A;obtain⟨B1,B2,B3,B4,B5⟩:=B;obtain⟨T1,T2⟩:=T;simp only;have b0:bAnd=and:=rfl;by_cases k1:k=1
 ·by_cases h0:o=0
  ·by_cases hA:(A1=0∧A2=[]∧A3=0∧A4=0∧A5=[])
   ·cases hO:atOk (T1,T2)<;>simp [k1,h0,hA,hO,b0,Bool.decide_and]
   ·have hA':(decide (A1=0)&&(decide (A2=[])&&(decide (A3=0)&&(decide (A4=0)&&decide (A5=[])))))=false:=by
     simpa [Bool.decide_and] using hA
    cases hO:atOk (T1,T2)<;>simp [k1,h0,hA,hA',hO,b0,Bool.decide_and]<;>simp_all
  ·cases hO:atOk (T1,T2)<;>simp [k1,h0,hO,b0]
 ·by_cases k2:k=2
  ·by_cases h0:o=0
   ·by_cases hA:(A1=0∧A2=[]∧A3=0∧A4=0∧A5=[])
    ·cases hO:atOk (T1,T2)<;>simp [k2,h0,hA,hO,b0,Bool.decide_and]
    ·have hA':(decide (A1=0)&&(decide (A2=[])&&(decide (A3=0)&&(decide (A4=0)&&decide (A5=[])))))=false:=by
      simpa [Bool.decide_and] using hA
     cases hO:atOk (T1,T2)<;>simp [k2,h0,hA,hA',hO,b0,Bool.decide_and]<;>simp_all
   ·cases hO:atOk (T1,T2)<;>simp [k2,h0,hO,b0]
  ·by_cases k3:k=3
   ·have fin:∀ c:Bool,(if c=true then (if k=3 then (1:Nat) else 0) else 0)=(if c=true then (if k=3 then 1 else 0) else 0):=fun _=>rfl
    subst k3;have n1:iEq 3 1=false:=rfl;have n2:iEq 3 2=false:=rfl;have n3:iEq 3 3=true:=rfl;rw [n1,n2,n3];cases iEq o 0<;>cases (bAnd (iEq A1 0) (bAnd (sEq A2 []) (bAnd (bAnd (iEq A3 0) (bAnd (iEq A4 0) (bAnd (sEq A5 []) true))) true))) <;>
     cases tmOk (A1,A2,A3,A4,A5)<;>cases opOk o<;>cases tmOk (B1,B2,B3,B4,B5)<;>by_cases hT:T1=[]<;>simp [hT]
   ·simp [k1,k2,k3]
    repeat' split
    all_goals simp
theorem qvk {l:Li} (h:liS l):qff l.1 l.2.1.1 (rOf cM l.2.1.2) l.2.2.1 l.2.2.2.1.1 l.2.2.2.1.2.1 l.2.2.2.1.2.2.1 l.2.2.2.1.2.2.2.1 l.2.2.2.1.2.2.2.2 l.2.2.2.2.1 l.2.2.2.2.2.1 l.2.2.2.2.2.2.1 l.2.2.2.2.2.2.2.1 l.2.2.2.2.2.2.2.2=true:=by simp only [qf6,qff,qdI,qkL h];simp
theorem qtE {l:Li} (h:liS l):qdI l.1 l.2.1.1 (rOf cM l.2.1.2) l.2.2.1 l.2.2.2.1.1 l.2.2.2.1.2.1 l.2.2.2.1.2.2.1 l.2.2.2.1.2.2.2.1 l.2.2.2.1.2.2.2.2 l.2.2.2.2.1 l.2.2.2.2.2.1 l.2.2.2.2.2.2.1 l.2.2.2.2.2.2.2.1 l.2.2.2.2.2.2.2.2=liT l:=by simp only [qf6,qff,qdI,qkL h];simp
theorem quT {l:Li} (h:liS l):qf6 l.1 l.2.1.1 (rOf cM l.2.1.2) l.2.2.1 l.2.2.2.1.1 l.2.2.2.1.2.1 l.2.2.2.1.2.2.1 l.2.2.2.1.2.2.2.1 l.2.2.2.1.2.2.2.2 l.2.2.2.2.1 l.2.2.2.2.2.1 l.2.2.2.2.2.2.1 l.2.2.2.2.2.2.2.1 l.2.2.2.2.2.2.2.2=liOk l:=by simp only [qf6,qff,qdI,qkL h];simp
theorem qD8 {l:List Li} (hs:∀ a∈l,liS a) (hn:l.length≤100000) {sep:Txt} (hsep:sep.length≤10):qKw (rOf cL l) sep=some (.tup [.str (jn liOk liT sep l),.bool (l.all liOk)]):=by
 have hl:=qcy (l:=l) l.length (Nat.le_refl _) (V:=fun i b=>qnb [.str sep,.fn 49 [],.sl (rOf cS b) (.tok 0),.sl (rOf cL l) .non,.int .i64 (l.length:Nat),.int .i64 (i:Nat)] ⟨[],[(b.length,1,9)],[]⟩) liOk liT (fun b=>some (.exit 0,[.str sep,.sl (rOf cS b) (.tok 0)],⟨[],[(b.length,1,9)],[]⟩)) (fun r=>∃ k:Nat,r=some (.ret,[.str [],.bool false],⟨[],[(k,1,9)],[]⟩)) ?_ ?_ ?_
 ·rw [List.take_length] at hl;obtain⟨h1,h2⟩:=hl;have x0:xLen (rOf cL l)=(l.length:Nat):=by simp
  unfold qKw qJa jn;rw [x0];cases ha:l.all liOk with
  |true =>
   have h':qm5 sep [] (rOf cL l) (l.length:Nat) 0 0=_:=h1 ha;have o:qfD (l.map liT) sep=true:=by
    rw [qbZ];have:=qfv (M:=14004) sep (l.map liT) (fun x hx=>by
     obtain⟨a,ha,rfl⟩:=List.mem_map.1 hx;exact qqa (hs a ha))
    have h3:(l.map liT).length * (14004+sep.length)≤100000 * (14004+10):=Nat.mul_le_mul (by simpa using hn) (by omega)
    exact⟨by simp;omega,by omega⟩
   simp only [qpg,qdE,qsO,qrT,qsq,qsw,qpb,qee,h'];rw [qbZ] at o;simp [o.2];omega
  |false =>
   obtain⟨k,hk⟩:=h2 ha;have h':qm5 sep [] (rOf cL l) (l.length:Nat) 0 0=_:=hk;simp only [qpg,qdE,qsO,qrT,qsq,qsw,qpb,qee,h'];simp
 ·intro i b a hb hi hi2 ha ho;have hm:liS a:=hs a (ha ▸ List.getElem_mem hi);have q1:iLt (i:Int) (l.length:Nat)=true:=by simp;omega
  have q3:qav (i:Int)=true:=by simp
  have q4:qa3 [PV.int .i64 0,.str [],.sl [] .full,.int .i64 0,.int .i64 0,.str [],.int .i64 0,.int .i64 0,.str [],.int .i64 0,.str [],.int .i64 0,.int .i64 0,.str []] (rOf cL l) (nNat (i:Int))=true:=by simp;omega
  have w:=qaZ (i:=i) (by omega)
  have e1:=qvk hm;have e2:=qtE hm;have e3:=quT hm;rw [ho] at e3;have x0:xInt (rOf cL l) (nNat (i:Int)) 0=a.1:=by simp [hi,ha]
  have x1:xStr (rOf cL l) (nNat (i:Int)) 1=a.2.1.1:=by simp [hi,ha]
  have x2:xRow (rOf cL l) (nNat (i:Int)) 2=rOf cM a.2.1.2:=by simp [hi,ha]
  have x3:xInt (rOf cL l) (nNat (i:Int)) 3=a.2.2.1:=by simp [hi,ha]
  have x4:xInt (rOf cL l) (nNat (i:Int)) 4=a.2.2.2.1.1:=by simp [hi,ha]
  have x5:xStr (rOf cL l) (nNat (i:Int)) 5=a.2.2.2.1.2.1:=by simp [hi,ha]
  have x6:xInt (rOf cL l) (nNat (i:Int)) 6=a.2.2.2.1.2.2.1:=by simp [hi,ha]
  have x7:xInt (rOf cL l) (nNat (i:Int)) 7=a.2.2.2.1.2.2.2.1:=by simp [hi,ha]
  have x8:xStr (rOf cL l) (nNat (i:Int)) 8=a.2.2.2.1.2.2.2.2:=by simp [hi,ha]
  have x9:xInt (rOf cL l) (nNat (i:Int)) 9=a.2.2.2.2.1:=by simp [hi,ha]
  have x10:xStr (rOf cL l) (nNat (i:Int)) 10=a.2.2.2.2.2.1:=by simp [hi,ha]
  have x11:xInt (rOf cL l) (nNat (i:Int)) 11=a.2.2.2.2.2.2.1:=by simp [hi,ha]
  have x12:xInt (rOf cL l) (nNat (i:Int)) 12=a.2.2.2.2.2.2.2.1:=by simp [hi,ha]
  have x13:xStr (rOf cL l) (nNat (i:Int)) 13=a.2.2.2.2.2.2.2.2:=by simp [hi,ha]
  have o1:∀ c,qaI (rOf cS b) [c] 16=true:=fun c=>by simp;omega
  have o2:∀ t:Txt,qaH [[PV.str t]] 1=true:=fun t=>by simp [one]
  have o3:qaB (rOf cS b) 1=true:=qcH _;have o4:nEq b.length (nXs (rOf cS b))=true:=by simp
  have o5:bNot true=false:=rfl;show qnb [.str sep,.fn 49 [],.sl (rOf cS b) (.tok 0),.sl (rOf cL l) .non,.int .i64 (l.length:Nat),.int .i64 (i:Nat)] ⟨[],[(b.length,1,9)],[]⟩=qnb [.str sep,.fn 49 [],.sl (rOf cS (b++[liT a])) (.tok 0),.sl (rOf cL l) .non,.int .i64 (l.length:Nat),.int .i64 ((i+1:Nat):Int)] ⟨[],[((b++[liT a]).length,1,9)],[]⟩
  rw [qKX];simp only [qtL,q1,q3,q4,x0,x1,x2,x3,x4,x5,x6,x7,x8,x9,x10,x11,x12,x13,qau,e1,e2,e3,o1,o2,o3,o4,o5,w];simp
 ·intro i b a hb hi hi2 ha ho;have hm:liS a:=hs a (ha ▸ List.getElem_mem hi);have q1:iLt (i:Int) (l.length:Nat)=true:=by simp;omega
  have q3:qav (i:Int)=true:=by simp
  have q4:qa3 [PV.int .i64 0,.str [],.sl [] .full,.int .i64 0,.int .i64 0,.str [],.int .i64 0,.int .i64 0,.str [],.int .i64 0,.str [],.int .i64 0,.int .i64 0,.str []] (rOf cL l) (nNat (i:Int))=true:=by simp;omega
  have w:=qaZ (i:=i) (by omega)
  have e1:=qvk hm;have e2:=qtE hm;have e3:=quT hm;rw [ho] at e3;have x0:xInt (rOf cL l) (nNat (i:Int)) 0=a.1:=by simp [hi,ha]
  have x1:xStr (rOf cL l) (nNat (i:Int)) 1=a.2.1.1:=by simp [hi,ha]
  have x2:xRow (rOf cL l) (nNat (i:Int)) 2=rOf cM a.2.1.2:=by simp [hi,ha]
  have x3:xInt (rOf cL l) (nNat (i:Int)) 3=a.2.2.1:=by simp [hi,ha]
  have x4:xInt (rOf cL l) (nNat (i:Int)) 4=a.2.2.2.1.1:=by simp [hi,ha]
  have x5:xStr (rOf cL l) (nNat (i:Int)) 5=a.2.2.2.1.2.1:=by simp [hi,ha]
  have x6:xInt (rOf cL l) (nNat (i:Int)) 6=a.2.2.2.1.2.2.1:=by simp [hi,ha]
  have x7:xInt (rOf cL l) (nNat (i:Int)) 7=a.2.2.2.1.2.2.2.1:=by simp [hi,ha]
  have x8:xStr (rOf cL l) (nNat (i:Int)) 8=a.2.2.2.1.2.2.2.2:=by simp [hi,ha]
  have x9:xInt (rOf cL l) (nNat (i:Int)) 9=a.2.2.2.2.1:=by simp [hi,ha]
  have x10:xStr (rOf cL l) (nNat (i:Int)) 10=a.2.2.2.2.2.1:=by simp [hi,ha]
  have x11:xInt (rOf cL l) (nNat (i:Int)) 11=a.2.2.2.2.2.2.1:=by simp [hi,ha]
  have x12:xInt (rOf cL l) (nNat (i:Int)) 12=a.2.2.2.2.2.2.2.1:=by simp [hi,ha]
  have x13:xStr (rOf cL l) (nNat (i:Int)) 13=a.2.2.2.2.2.2.2.2:=by simp [hi,ha]
  have o5:bNot false=true:=rfl;show ∃ k:Nat,qnb [.str sep,.fn 49 [],.sl (rOf cS b) (.tok 0),.sl (rOf cL l) .non,.int .i64 (l.length:Nat),.int .i64 (i:Nat)] ⟨[],[(b.length,1,9)],[]⟩=_
  refine⟨b.length,?_⟩;rw [qKX];simp only [qtL,q1,q3,q4,x0,x1,x2,x3,x4,x5,x6,x7,x8,x9,x10,x11,x12,x13,qau,e1,e2,e3,o5];simp
 ·intro b hb;have q1:iLt (l.length:Nat) (l.length:Nat)=false:=by simp
  show qnb [.str sep,.fn 49 [],.sl (rOf cS b) (.tok 0),.sl (rOf cL l) .non,.int .i64 (l.length:Nat),.int .i64 (l.length:Nat)] ⟨[],[(b.length,1,9)],[]⟩=_
  rw [qKX];simp only [qtL,q1];simp
theorem qSr {l:List Li} (hs:∀ a∈l,liS a) (hn:l.length≤100000) {sep:Txt} (hsep:sep.length≤10):qp9 (rOf cL l) sep=true:=by simp only [qAW,qp9,qnT,qD8 hs hn hsep];simp
theorem qSz {l:List Li} (hs:∀ a∈l,liS a) (hn:l.length≤100000) {sep:Txt} (hsep:sep.length≤10):qnT (rOf cL l) sep=jn liOk liT sep l:=by simp only [qAW,qp9,qnT,qD8 hs hn hsep];simp
theorem qTc {l:List Li} (hs:∀ a∈l,liS a) (hn:l.length≤100000) {sep:Txt} (hsep:sep.length≤10):qAW (rOf cL l) sep=l.all liOk:=by simp only [qAW,qp9,qnT,qD8 hs hn hsep];simp
theorem qtA {x:Ru} (h:ruS x):qur x.1.1 (rOf cM x.1.2) (rOf cL x.2)=some (.tup [.str (ruT x),.bool (ruOk x)]):=by
 have e1:=qys h.1;have e2:=qzx h.1;have e3:=qxk h.1;have j1:=qSr h.2.2 (by have:=h.2.1;omega) (sep:=[44,32]) (by decide)
 have j2:=qSz h.2.2 (by have:=h.2.1;omega) (sep:=[44,32]) (by decide)
 have j3:=qTc h.2.2 (by have:=h.2.1;omega) (sep:=[44,32]) (by decide)
 have hj:=qkD (ok:=liOk) (T:=liT) (M:=14004) [44,32] x.2 8 h.2.1 (fun l hl=>qqa (h.2.2 l hl))
 have l1:=qiw h.1;simp at hj;unfold qur qx2 ruT ruOk;simp only [qau,e1,e2,e3,j1,j2,j3];by_cases hb:x.2=[]
 ·rw [hb] at hj ⊢;have t:iLt 0 (xLen (rOf cL []))=false:=rfl;have o1:qaE (atT x.1) (jn liOk liT [44,32] [])=true:=qa0 (by omega)
  have o2:qaE (sApp (atT x.1) (jn liOk liT [44,32] [])) [46]=true:=qa0 (by simp;omega)
  simp only [t,o1,o2];cases atOk x.1<;>simp [jn,qoH]
 ·have t:iLt 0 (xLen (rOf cL x.2))=true:=by simp;exact List.length_pos_iff.2 hb
  rw [t,qa0 (by simp;omega),qa0 (by simp;omega),qa0 (by simp;omega)]
  cases atOk x.1<;>simp [hb]
theorem qFk {x:Ru} (h:ruS x):qhb x.1.1 (rOf cM x.1.2) (rOf cL x.2)=true:=by simp only [qiu,qhb,qhN,qtA h];simp
theorem qFr {x:Ru} (h:ruS x):qhN x.1.1 (rOf cM x.1.2) (rOf cL x.2)=ruT x:=by simp only [qiu,qhb,qhN,qtA h];simp
theorem qE4 {x:Ru} (h:ruS x):qiu x.1.1 (rOf cM x.1.2) (rOf cL x.2)=ruOk x:=by simp only [qiu,qhb,qhN,qtA h];simp
theorem quj {t:Int} (h:tyS t):qvz t=some (.tup [.str (tyT t),.bool (tyOk t)]):=by
 unfold qvz qxb tyT tyOk;by_cases h1:t=1
 ·simp [h1]
 ·by_cases h2:t=2
  ·simp [h2]
  ·simp [h1,h2]
theorem qy1 {t:Int} (h:tyS t):qhf t=true:=by simp only [qkJ,qhf,qfP,quj h];simp
theorem qx9 {t:Int} (h:tyS t):qfP t=tyT t:=by simp only [qkJ,qhf,qfP,quj h];simp
theorem qyl {t:Int} (h:tyS t):qkJ t=tyOk t:=by simp only [qkJ,qhf,qfP,quj h];simp
theorem qDP {l:List Int} (hs:∀ a∈l,tyS a) (hn:l.length≤100000) {sep:Txt} (hsep:sep.length≤10):qJd (rOf cI l) sep=some (.tup [.str (jn tyOk tyT sep l),.bool (l.all tyOk)]):=by
 have hl:=qcy (l:=l) l.length (Nat.le_refl _) (V:=fun i b=>qm3 [.str sep,.fn 83 [],.sl (rOf cS b) (.tok 0),.sl (rOf cI l) .non,.int .i64 (l.length:Nat),.int .i64 (i:Nat)] ⟨[],[(b.length,1,9)],[]⟩) tyOk tyT (fun b=>some (.exit 0,[.str sep,.sl (rOf cS b) (.tok 0)],⟨[],[(b.length,1,9)],[]⟩)) (fun r=>∃ k:Nat,r=some (.ret,[.str [],.bool false],⟨[],[(k,1,9)],[]⟩)) ?_ ?_ ?_
 ·rw [List.take_length] at hl;obtain⟨h1,h2⟩:=hl;have x0:xLen (rOf cI l)=(l.length:Nat):=by simp
  unfold qJd qJN jn;rw [x0];cases ha:l.all tyOk with
  |true =>
   have h':qmS sep [] (rOf cI l) (l.length:Nat) 0 0=_:=h1 ha;have o:qfD (l.map tyT) sep=true:=by
    rw [qbZ];have:=qfv (M:=3) sep (l.map tyT) (fun x hx=>by
     obtain⟨a,ha,rfl⟩:=List.mem_map.1 hx;exact qis a)
    have h3:(l.map tyT).length * (3+sep.length)≤100000 * (3+10):=Nat.mul_le_mul (by simpa using hn) (by omega)
    exact⟨by simp;omega,by omega⟩
   simp only [qo4,qdM,qsT,qsM,qrK,qrF,qpm,qd3,h'];rw [qbZ] at o;simp [o.2];omega
  |false =>
   obtain⟨k,hk⟩:=h2 ha;have h':qmS sep [] (rOf cI l) (l.length:Nat) 0 0=_:=hk;simp only [qo4,qdM,qsT,qsM,qrK,qrF,qpm,qd3,h'];simp
 ·intro i b a hb hi hi2 ha ho;have hm:tyS a:=hs a (ha ▸ List.getElem_mem hi);have q1:iLt (i:Int) (l.length:Nat)=true:=by simp;omega
  have q3:qav (i:Int)=true:=by simp
  have q4:qa3 [PV.int .i64 0] (rOf cI l) (nNat (i:Int))=true:=by simp;omega
  have w:=qaZ (i:=i) (by omega)
  have e1:=qy1 hm;have e2:=qx9 hm;have e3:=qyl hm;rw [ho] at e3;have x0:xInt (rOf cI l) (nNat (i:Int)) 0=a:=by simp [hi,ha]
  have o1:∀ c,qaI (rOf cS b) [c] 16=true:=fun c=>by simp;omega
  have o2:∀ t:Txt,qaH [[PV.str t]] 1=true:=fun t=>by simp [one]
  have o3:qaB (rOf cS b) 1=true:=qcH _;have o4:nEq b.length (nXs (rOf cS b))=true:=by simp
  have o5:bNot true=false:=rfl;show qm3 [.str sep,.fn 83 [],.sl (rOf cS b) (.tok 0),.sl (rOf cI l) .non,.int .i64 (l.length:Nat),.int .i64 (i:Nat)] ⟨[],[(b.length,1,9)],[]⟩=qm3 [.str sep,.fn 83 [],.sl (rOf cS (b++[tyT a])) (.tok 0),.sl (rOf cI l) .non,.int .i64 (l.length:Nat),.int .i64 ((i+1:Nat):Int)] ⟨[],[((b++[tyT a]).length,1,9)],[]⟩
  rw [qJ9];simp only [quN,q1,q3,q4,x0,qau,e1,e2,e3,o1,o2,o3,o4,o5,w];simp
 ·intro i b a hb hi hi2 ha ho;have hm:tyS a:=hs a (ha ▸ List.getElem_mem hi);have q1:iLt (i:Int) (l.length:Nat)=true:=by simp;omega
  have q3:qav (i:Int)=true:=by simp
  have q4:qa3 [PV.int .i64 0] (rOf cI l) (nNat (i:Int))=true:=by simp;omega
  have w:=qaZ (i:=i) (by omega)
  have e1:=qy1 hm;have e2:=qx9 hm;have e3:=qyl hm;rw [ho] at e3;have x0:xInt (rOf cI l) (nNat (i:Int)) 0=a:=by simp [hi,ha]
  have o5:bNot false=true:=rfl;show ∃ k:Nat,qm3 [.str sep,.fn 83 [],.sl (rOf cS b) (.tok 0),.sl (rOf cI l) .non,.int .i64 (l.length:Nat),.int .i64 (i:Nat)] ⟨[],[(b.length,1,9)],[]⟩=_
  refine⟨b.length,?_⟩;rw [qJ9];simp only [quN,q1,q3,q4,x0,qau,e1,e2,e3,o5];simp
 ·intro b hb;have q1:iLt (l.length:Nat) (l.length:Nat)=false:=by simp
  show qm3 [.str sep,.fn 83 [],.sl (rOf cS b) (.tok 0),.sl (rOf cI l) .non,.int .i64 (l.length:Nat),.int .i64 (l.length:Nat)] ⟨[],[(b.length,1,9)],[]⟩=_
  rw [qJ9];simp only [quN,q1];simp
theorem qTp {l:List Int} (hs:∀ a∈l,tyS a) (hn:l.length≤100000) {sep:Txt} (hsep:sep.length≤10):qnx (rOf cI l) sep=true:=by simp only [qzV,qnx,qoN,qDP hs hn hsep];simp
theorem qTo {l:List Int} (hs:∀ a∈l,tyS a) (hn:l.length≤100000) {sep:Txt} (hsep:sep.length≤10):qoN (rOf cI l) sep=jn tyOk tyT sep l:=by simp only [qzV,qnx,qoN,qDP hs hn hsep];simp
theorem qTT {l:List Int} (hs:∀ a∈l,tyS a) (hn:l.length≤100000) {sep:Txt} (hsep:sep.length≤10):qzV (rOf cI l) sep=l.all tyOk:=by simp only [qzV,qnx,qoN,qDP hs hn hsep];simp
theorem qtz {d:De} (h:deS d):quf d.1 d.2.1 (rOf cI d.2.2)=some (.tup [.str (deT d),.bool (deOk d)]):=by
 have j1:=qTp (l:=d.2.2) (fun _ _=>trivial) (by have:=h.2;omega) (sep:=[44,32]) (by decide)
 have j2:=qTo (l:=d.2.2) (fun _ _=>trivial) (by have:=h.2;omega) (sep:=[44,32]) (by decide)
 have j3:=qTT (l:=d.2.2) (fun _ _=>trivial) (by have:=h.2;omega) (sep:=[44,32]) (by decide)
 have hj:=qkD (ok:=tyOk) (T:=tyT) (M:=3) [44,32] d.2.2 12 h.2 (fun t _=>qis t)
 have hb:d.1.length≤65536:=Nat.le_trans h.1 (by decide)
 have hn:=h.1;simp at hj;unfold quf qxm deT deOk;simp only [qau,j1,j2,j3,qr2 hb,qzb hb];cases d.2.1 with
 |true =>
  have o1:qaE [98,97,115,101,32] d.1=true:=qa0 (by simp;omega)
  have o2:qaE (sApp [98,97,115,101,32] d.1) [40]=true:=qa0 (by simp;omega)
  have o3:qaE (sApp (sApp [98,97,115,101,32] d.1) [40]) (jn tyOk tyT [44,32] d.2.2)=true:=qa0 (by simp;omega)
  have o4:qaE (sApp (sApp (sApp [98,97,115,101,32] d.1) [40]) (jn tyOk tyT [44,32] d.2.2)) [41,46]=true:=qa0 (by simp;omega)
  simp only [o1,o2,o3,o4];cases d.2.2.all tyOk<;>simp
 |false =>
  have o1:qaE [118,105,101,119,32] d.1=true:=qa0 (by simp;omega)
  have o2:qaE (sApp [118,105,101,119,32] d.1) [40]=true:=qa0 (by simp;omega)
  have o3:qaE (sApp (sApp [118,105,101,119,32] d.1) [40]) (jn tyOk tyT [44,32] d.2.2)=true:=qa0 (by simp;omega)
  have o4:qaE (sApp (sApp (sApp [118,105,101,119,32] d.1) [40]) (jn tyOk tyT [44,32] d.2.2)) [41,46]=true:=qa0 (by simp;omega)
  simp only [o1,o2,o3,o4];cases d.2.2.all tyOk<;>simp
theorem qNk {d:De} (h:deS d):qiU d.1 d.2.1 (rOf cI d.2.2)=true:=by simp only [qn9,qiU,qlr,qtz h];simp
theorem qMT {d:De} (h:deS d):qlr d.1 d.2.1 (rOf cI d.2.2)=deT d:=by simp only [qn9,qiU,qlr,qtz h];simp
theorem qMB {d:De} (h:deS d):qn9 d.1 d.2.1 (rOf cI d.2.2)=deOk d:=by simp only [qn9,qiU,qlr,qtz h];simp
theorem qyI {p:Pa} (h:paS p):qzQ p.1 p.2=some (.tup [.str (paT p),.bool (paOk p)]):=by
 have hb:p.1.length≤65536:=Nat.le_trans h (by decide)
 have hn:p.1.length≤300:=h;have ht:=qis p.2;have k1:=qy1 (t:=p.2) trivial;have k2:=qx9 (t:=p.2) trivial;have k3:=qyl (t:=p.2) trivial;unfold qzQ qDi paT paOk;simp only [k1,k2,k3,qB8 hb,qJg hb];rw [qa0 (by simp;omega),qa0 (by simp;omega)]
 cases tyOk p.2<;>simp
theorem qHV {p:Pa} (h:paS p):qmm p.1 p.2=true:=by simp only [qtJ,qmm,qng,qyI h];simp
theorem qMu {p:Pa} (h:paS p):qng p.1 p.2=paT p:=by simp only [qtJ,qmm,qng,qyI h];simp
theorem qKo {p:Pa} (h:paS p):qtJ p.1 p.2=paOk p:=by simp only [qtJ,qmm,qng,qyI h];simp
theorem qx4 {a:Ac} (h:acS a):qA7 a.1 a.2.1 (rOf cM a.2.2)=some (.tup [.str (acT a),.bool (acOk a)]):=by
 have h:atS a.2:=h;have e1:=qys h;have e2:=qzx h;have e3:=qxk h;have l1:=qiw h;unfold qA7 qCw acT acOk;simp only [qau,e1,e2,e3];rw [qa0 (a:=[43]) (by simp;omega),qa0 (a:=[45]) (by simp;omega)]
 cases a.1<;>simp
theorem qHP {a:Ac} (h:acS a):qlU a.1 a.2.1 (rOf cM a.2.2)=true:=by simp only [quE,qlU,qmU,qx4 h];simp
theorem qIx {a:Ac} (h:acS a):qmU a.1 a.2.1 (rOf cM a.2.2)=acT a:=by simp only [quE,qlU,qmU,qx4 h];simp
theorem qL1 {a:Ac} (h:acS a):quE a.1 a.2.1 (rOf cM a.2.2)=acOk a:=by simp only [quE,qlU,qmU,qx4 h];simp
theorem qEa {l:List Pa} (hs:∀ a∈l,paS a) (hn:l.length≤100000) {sep:Txt} (hsep:sep.length≤10):qJe (rOf cP l) sep=some (.tup [.str (jn paOk paT sep l),.bool (l.all paOk)]):=by
 have hl:=qcy (l:=l) l.length (Nat.le_refl _) (V:=fun i b=>qm6 [.str sep,.fn 85 [],.sl (rOf cS b) (.tok 0),.sl (rOf cP l) .non,.int .i64 (l.length:Nat),.int .i64 (i:Nat)] ⟨[],[(b.length,1,9)],[]⟩) paOk paT (fun b=>some (.exit 0,[.str sep,.sl (rOf cS b) (.tok 0)],⟨[],[(b.length,1,9)],[]⟩)) (fun r=>∃ k:Nat,r=some (.ret,[.str [],.bool false],⟨[],[(k,1,9)],[]⟩)) ?_ ?_ ?_
 ·rw [List.take_length] at hl;obtain⟨h1,h2⟩:=hl;have x0:xLen (rOf cP l)=(l.length:Nat):=by simp
  unfold qJe qKe jn;rw [x0];cases ha:l.all paOk with
  |true =>
   have h':qmX sep [] (rOf cP l) (l.length:Nat) 0 0=_:=h1 ha;have o:qfD (l.map paT) sep=true:=by
    rw [qbZ];have:=qfv (M:=304) sep (l.map paT) (fun x hx=>by
     obtain⟨a,ha,rfl⟩:=List.mem_map.1 hx;exact qqm (hs a ha))
    have h3:(l.map paT).length * (304+sep.length)≤100000 * (304+10):=Nat.mul_le_mul (by simpa using hn) (by omega)
    exact⟨by simp;omega,by omega⟩
   simp only [qpi,qdO,qrj,qss,qsD,qrJ,qpf,qek,h'];rw [qbZ] at o;simp [o.2];omega
  |false =>
   obtain⟨k,hk⟩:=h2 ha;have h':qmX sep [] (rOf cP l) (l.length:Nat) 0 0=_:=hk;simp only [qpi,qdO,qrj,qss,qsD,qrJ,qpf,qek,h'];simp
 ·intro i b a hb hi hi2 ha ho;have hm:paS a:=hs a (ha ▸ List.getElem_mem hi);have q1:iLt (i:Int) (l.length:Nat)=true:=by simp;omega
  have q3:qav (i:Int)=true:=by simp
  have q4:qa3 [PV.str [],.int .i64 0] (rOf cP l) (nNat (i:Int))=true:=by simp;omega
  have w:=qaZ (i:=i) (by omega)
  have e1:=qHV hm;have e2:=qMu hm;have e3:=qKo hm;rw [ho] at e3;have x0:xStr (rOf cP l) (nNat (i:Int)) 0=a.1:=by simp [hi,ha]
  have x1:xInt (rOf cP l) (nNat (i:Int)) 1=a.2:=by simp [hi,ha]
  have o1:∀ c,qaI (rOf cS b) [c] 16=true:=fun c=>by simp;omega
  have o2:∀ t:Txt,qaH [[PV.str t]] 1=true:=fun t=>by simp [one]
  have o3:qaB (rOf cS b) 1=true:=qcH _;have o4:nEq b.length (nXs (rOf cS b))=true:=by simp
  have o5:bNot true=false:=rfl;show qm6 [.str sep,.fn 85 [],.sl (rOf cS b) (.tok 0),.sl (rOf cP l) .non,.int .i64 (l.length:Nat),.int .i64 (i:Nat)] ⟨[],[(b.length,1,9)],[]⟩=qm6 [.str sep,.fn 85 [],.sl (rOf cS (b++[paT a])) (.tok 0),.sl (rOf cP l) .non,.int .i64 (l.length:Nat),.int .i64 ((i+1:Nat):Int)] ⟨[],[((b++[paT a]).length,1,9)],[]⟩
  rw [qK9];simp only [qux,q1,q3,q4,x0,x1,qau,e1,e2,e3,o1,o2,o3,o4,o5,w];simp
 ·intro i b a hb hi hi2 ha ho;have hm:paS a:=hs a (ha ▸ List.getElem_mem hi);have q1:iLt (i:Int) (l.length:Nat)=true:=by simp;omega
  have q3:qav (i:Int)=true:=by simp
  have q4:qa3 [PV.str [],.int .i64 0] (rOf cP l) (nNat (i:Int))=true:=by simp;omega
  have w:=qaZ (i:=i) (by omega)
  have e1:=qHV hm;have e2:=qMu hm;have e3:=qKo hm;rw [ho] at e3;have x0:xStr (rOf cP l) (nNat (i:Int)) 0=a.1:=by simp [hi,ha]
  have x1:xInt (rOf cP l) (nNat (i:Int)) 1=a.2:=by simp [hi,ha]
  have o5:bNot false=true:=rfl;show ∃ k:Nat,qm6 [.str sep,.fn 85 [],.sl (rOf cS b) (.tok 0),.sl (rOf cP l) .non,.int .i64 (l.length:Nat),.int .i64 (i:Nat)] ⟨[],[(b.length,1,9)],[]⟩=_
  refine⟨b.length,?_⟩;rw [qK9];simp only [qux,q1,q3,q4,x0,x1,qau,e1,e2,e3,o5];simp
 ·intro b hb;have q1:iLt (l.length:Nat) (l.length:Nat)=false:=by simp
  show qm6 [.str sep,.fn 85 [],.sl (rOf cS b) (.tok 0),.sl (rOf cP l) .non,.int .i64 (l.length:Nat),.int .i64 (l.length:Nat)] ⟨[],[(b.length,1,9)],[]⟩=_
  rw [qK9];simp only [qux,q1];simp
theorem qTk {l:List Pa} (hs:∀ a∈l,paS a) (hn:l.length≤100000) {sep:Txt} (hsep:sep.length≤10):qqL (rOf cP l) sep=true:=by simp only [qz6,qqL,qiR,qEa hs hn hsep];simp
theorem qTI {l:List Pa} (hs:∀ a∈l,paS a) (hn:l.length≤100000) {sep:Txt} (hsep:sep.length≤10):qiR (rOf cP l) sep=jn paOk paT sep l:=by simp only [qz6,qqL,qiR,qEa hs hn hsep];simp
theorem qTa {l:List Pa} (hs:∀ a∈l,paS a) (hn:l.length≤100000) {sep:Txt} (hsep:sep.length≤10):qz6 (rOf cP l) sep=l.all paOk:=by simp only [qz6,qqL,qiR,qEa hs hn hsep];simp
theorem qEb {l:List Ac} (hs:∀ a∈l,acS a) (hn:l.length≤100000) {sep:Txt} (hsep:sep.length≤10):qLo (rOf cAc l) sep=some (.tup [.str (jn acOk acT sep l),.bool (l.all acOk)]):=by
 have hl:=qcy (l:=l) l.length (Nat.le_refl _) (V:=fun i b=>qm8 [.str sep,.fn 87 [],.sl (rOf cS b) (.tok 0),.sl (rOf cAc l) .non,.int .i64 (l.length:Nat),.int .i64 (i:Nat)] ⟨[],[(b.length,1,9)],[]⟩) acOk acT (fun b=>some (.exit 0,[.str sep,.sl (rOf cS b) (.tok 0)],⟨[],[(b.length,1,9)],[]⟩)) (fun r=>∃ k:Nat,r=some (.ret,[.str [],.bool false],⟨[],[(k,1,9)],[]⟩)) ?_ ?_ ?_
 ·rw [List.take_length] at hl;obtain⟨h1,h2⟩:=hl;have x0:xLen (rOf cAc l)=(l.length:Nat):=by simp
  unfold qLo qKU jn;rw [x0];cases ha:l.all acOk with
  |true =>
   have h':qmZ sep [] (rOf cAc l) (l.length:Nat) 0 0=_:=h1 ha;have o:qfD (l.map acT) sep=true:=by
    rw [qbZ];have:=qfv (M:=14001) sep (l.map acT) (fun x hx=>by
     obtain⟨a,ha,rfl⟩:=List.mem_map.1 hx;exact qnr (hs a ha))
    have h3:(l.map acT).length * (14001+sep.length)≤100000 * (14001+10):=Nat.mul_le_mul (by simpa using hn) (by omega)
    exact⟨by simp;omega,by omega⟩
   simp only [qow,qdJ,qsk,qsd,qrW,qr8,qpj,qd4,h'];rw [qbZ] at o;simp [o.2];omega
  |false =>
   obtain⟨k,hk⟩:=h2 ha;have h':qmZ sep [] (rOf cAc l) (l.length:Nat) 0 0=_:=hk;simp only [qow,qdJ,qsk,qsd,qrW,qr8,qpj,qd4,h'];simp
 ·intro i b a hb hi hi2 ha ho;have hm:acS a:=hs a (ha ▸ List.getElem_mem hi);have q1:iLt (i:Int) (l.length:Nat)=true:=by simp;omega
  have q3:qav (i:Int)=true:=by simp
  have q4:qa3 [PV.bool false,.str [],.sl [] .full] (rOf cAc l) (nNat (i:Int))=true:=by simp;omega
  have w:=qaZ (i:=i) (by omega)
  have e1:=qHP hm;have e2:=qIx hm;have e3:=qL1 hm;rw [ho] at e3;have x0:qcu (rOf cAc l) (nNat (i:Int)) 0=a.1:=by simp [hi,ha]
  have x1:xStr (rOf cAc l) (nNat (i:Int)) 1=a.2.1:=by simp [hi,ha]
  have x2:xRow (rOf cAc l) (nNat (i:Int)) 2=rOf cM a.2.2:=by simp [hi,ha]
  have o1:∀ c,qaI (rOf cS b) [c] 16=true:=fun c=>by simp;omega
  have o2:∀ t:Txt,qaH [[PV.str t]] 1=true:=fun t=>by simp [one]
  have o3:qaB (rOf cS b) 1=true:=qcH _;have o4:nEq b.length (nXs (rOf cS b))=true:=by simp
  have o5:bNot true=false:=rfl;show qm8 [.str sep,.fn 87 [],.sl (rOf cS b) (.tok 0),.sl (rOf cAc l) .non,.int .i64 (l.length:Nat),.int .i64 (i:Nat)] ⟨[],[(b.length,1,9)],[]⟩=qm8 [.str sep,.fn 87 [],.sl (rOf cS (b++[acT a])) (.tok 0),.sl (rOf cAc l) .non,.int .i64 (l.length:Nat),.int .i64 ((i+1:Nat):Int)] ⟨[],[((b++[acT a]).length,1,9)],[]⟩
  rw [qIZ];simp only [quS,q1,q3,q4,x0,x1,x2,qau,e1,e2,e3,o1,o2,o3,o4,o5,w];simp
 ·intro i b a hb hi hi2 ha ho;have hm:acS a:=hs a (ha ▸ List.getElem_mem hi);have q1:iLt (i:Int) (l.length:Nat)=true:=by simp;omega
  have q3:qav (i:Int)=true:=by simp
  have q4:qa3 [PV.bool false,.str [],.sl [] .full] (rOf cAc l) (nNat (i:Int))=true:=by simp;omega
  have w:=qaZ (i:=i) (by omega)
  have e1:=qHP hm;have e2:=qIx hm;have e3:=qL1 hm;rw [ho] at e3;have x0:qcu (rOf cAc l) (nNat (i:Int)) 0=a.1:=by simp [hi,ha]
  have x1:xStr (rOf cAc l) (nNat (i:Int)) 1=a.2.1:=by simp [hi,ha]
  have x2:xRow (rOf cAc l) (nNat (i:Int)) 2=rOf cM a.2.2:=by simp [hi,ha]
  have o5:bNot false=true:=rfl;show ∃ k:Nat,qm8 [.str sep,.fn 87 [],.sl (rOf cS b) (.tok 0),.sl (rOf cAc l) .non,.int .i64 (l.length:Nat),.int .i64 (i:Nat)] ⟨[],[(b.length,1,9)],[]⟩=_
  refine⟨b.length,?_⟩;rw [qIZ];simp only [quS,q1,q3,q4,x0,x1,x2,qau,e1,e2,e3,o5];simp
 ·intro b hb;have q1:iLt (l.length:Nat) (l.length:Nat)=false:=by simp
  show qm8 [.str sep,.fn 87 [],.sl (rOf cS b) (.tok 0),.sl (rOf cAc l) .non,.int .i64 (l.length:Nat),.int .i64 (l.length:Nat)] ⟨[],[(b.length,1,9)],[]⟩=_
  rw [qIZ];simp only [quS,q1];simp
theorem qS0 {l:List Ac} (hs:∀ a∈l,acS a) (hn:l.length≤100000) {sep:Txt} (hsep:sep.length≤10):qp5 (rOf cAc l) sep=true:=by simp only [qAY,qp5,qlu,qEb hs hn hsep];simp
theorem qSA {l:List Ac} (hs:∀ a∈l,acS a) (hn:l.length≤100000) {sep:Txt} (hsep:sep.length≤10):qlu (rOf cAc l) sep=jn acOk acT sep l:=by simp only [qAY,qp5,qlu,qEb hs hn hsep];simp
theorem qTK {l:List Ac} (hs:∀ a∈l,acS a) (hn:l.length≤100000) {sep:Txt} (hsep:sep.length≤10):qAY (rOf cAc l) sep=l.all acOk:=by simp only [qAY,qp5,qlu,qEb hs hn hsep];simp
theorem qCn {o:En} (h:enS o):qIk o.1 (rOf cP o.2.1) (rOf cAc o.2.2)=some (.tup [.str (enT o),.bool (enOk o)]):=by
 have j1:=qTk h.2.1.2 (by have:=h.2.1.1;omega) (sep:=[44,32]) (by decide)
 have j2:=qTI h.2.1.2 (by have:=h.2.1.1;omega) (sep:=[44,32]) (by decide)
 have j3:=qTa h.2.1.2 (by have:=h.2.1.1;omega) (sep:=[44,32]) (by decide)
 have k1:=qS0 h.2.2.2 (by have:=h.2.2.1;omega) (sep:=[44,32]) (by decide)
 have k2:=qSA h.2.2.2 (by have:=h.2.2.1;omega) (sep:=[44,32]) (by decide)
 have k3:=qTK h.2.2.2 (by have:=h.2.2.1;omega) (sep:=[44,32]) (by decide)
 have hj:=qkD (ok:=paOk) (T:=paT) (M:=304) [44,32] o.2.1 12 h.2.1.1 (fun p hp=>qqm (h.2.1.2 p hp))
 have hk:=qkD (ok:=acOk) (T:=acT) (M:=14001) [44,32] o.2.2 8 h.2.2.1 (fun a ha=>qnr (h.2.2.2 a ha))
 have hb:o.1.length≤65536:=Nat.le_trans h.1 (by decide)
 have hn:=h.1;simp at hj hk;unfold qIk qIr enT enOk;simp only [qau,j1,j2,j3,k1,k2,k3,qr2 hb,qzb hb];by_cases hc:o.2.2=[]
 ·rw [hc] at hk ⊢;have t:iLt 0 (xLen (rOf cAc []))=false:=rfl;have o1:qaE [111,110,32] o.1=true:=qa0 (by simp;omega)
  have o2:qaE (sApp [111,110,32] o.1) [40]=true:=qa0 (by simp;omega)
  have o3:qaE (sApp (sApp [111,110,32] o.1) [40]) (jn paOk paT [44,32] o.2.1)=true:=qa0 (by simp;omega)
  have o4:qaE (sApp (sApp (sApp [111,110,32] o.1) [40]) (jn paOk paT [44,32] o.2.1)) [41]=true:=qa0 (by simp;omega)
  have o5:qaE (sApp (sApp (sApp (sApp [111,110,32] o.1) [40]) (jn paOk paT [44,32] o.2.1)) [41]) (jn acOk acT [44,32] [])=true:=qa0 (by simp;omega)
  have o6:qaE (sApp (sApp (sApp (sApp (sApp [111,110,32] o.1) [40]) (jn paOk paT [44,32] o.2.1)) [41]) (jn acOk acT [44,32] [])) [46]=true:=qa0 (by simp;omega)
  simp only [t,o1,o2,o3,o4,o5,o6];cases o.2.1.all paOk<;>simp [jn,qoH]
 ·have t:iLt 0 (xLen (rOf cAc o.2.2))=true:=by simp;exact List.length_pos_iff.2 hc
  have o0:qaE [58,32] (jn acOk acT [44,32] o.2.2)=true:=qa0 (by simp;omega)
  have o1:qaE [111,110,32] o.1=true:=qa0 (by simp;omega)
  have o2:qaE (sApp [111,110,32] o.1) [40]=true:=qa0 (by simp;omega)
  have o3:qaE (sApp (sApp [111,110,32] o.1) [40]) (jn paOk paT [44,32] o.2.1)=true:=qa0 (by simp;omega)
  have o4:qaE (sApp (sApp (sApp [111,110,32] o.1) [40]) (jn paOk paT [44,32] o.2.1)) [41]=true:=qa0 (by simp;omega)
  have o5:qaE (sApp (sApp (sApp (sApp [111,110,32] o.1) [40]) (jn paOk paT [44,32] o.2.1)) [41]) (sApp [58,32] (jn acOk acT [44,32] o.2.2))=true:=qa0 (by simp;omega)
  have o6:qaE (sApp (sApp (sApp (sApp (sApp [111,110,32] o.1) [40]) (jn paOk paT [44,32] o.2.1)) [41]) (sApp [58,32] (jn acOk acT [44,32] o.2.2))) [46]=true:=qa0 (by simp;omega)
  simp only [t,o0,o1,o2,o3,o4,o5,o6];cases o.2.1.all paOk<;>cases o.2.2.all acOk<;>simp [hc]
theorem qOU {o:En} (h:enS o):qnm o.1 (rOf cP o.2.1) (rOf cAc o.2.2)=true:=by simp only [qvS,qnm,qu6,qCn h];simp
theorem qOA {o:En} (h:enS o):qu6 o.1 (rOf cP o.2.1) (rOf cAc o.2.2)=enT o:=by simp only [qvS,qnm,qu6,qCn h];simp
theorem qOY {o:En} (h:enS o):qvS o.1 (rOf cP o.2.1) (rOf cAc o.2.2)=enOk o:=by simp only [qvS,qnm,qu6,qCn h];simp
def tdS (ok:Bool) (s:Txt):Txt:=if ok then s else []
def tdE (ok:Bool):Int:=if ok then 0 else 140
theorem qs1 (s:Txt) (ok:Bool):quA s ok=some (.tup [.str (tdS ok s),.int .i64 (tdE ok)]):=by
 unfold quA qyp tdS tdE;cases ok<;>rfl
theorem qFG (s:Txt) (ok:Bool):qhm s ok=true:=by simp only [qhm,qlA,qlj,qs1];simp
theorem qFX (s:Txt) (ok:Bool):qlj s ok=tdS ok s:=by simp only [qhm,qlA,qlj,qs1];simp
theorem qF0 (s:Txt) (ok:Bool):qlA s ok=tdE ok:=by simp only [qhm,qlA,qlj,qs1];simp
theorem qtI {x:Ru} (h:ruS x):qu3 x.1.1 (rOf cM x.1.2) (rOf cL x.2)=some (.tup [.str (tdS (ruOk x) (ruT x)),.int .i64 (tdE (ruOk x))]):=by
 have e1:=qFk h;have e2:=qFr h;have e3:=qE4 h;unfold qu3 qxK;simp only [qau,e1,e2,e3,qFG,qFX,qF0];rfl
theorem qMz {x:Ru} (h:ruS x):qgw x.1.1 (rOf cM x.1.2) (rOf cL x.2)=true:=by simp only [qgw,qj0,qko,qtI h];simp
theorem qM3 {x:Ru} (h:ruS x):qko x.1.1 (rOf cM x.1.2) (rOf cL x.2)=tdS (ruOk x) (ruT x):=by simp only [qgw,qj0,qko,qtI h];simp
theorem qNn {x:Ru} (h:ruS x):qj0 x.1.1 (rOf cM x.1.2) (rOf cL x.2)=tdE (ruOk x):=by simp only [qgw,qj0,qko,qtI h];simp
theorem qBW {o:En} (h:enS o):qKP o.1 (rOf cP o.2.1) (rOf cAc o.2.2)=some (.tup [.str (tdS (enOk o) (enT o)),.int .i64 (tdE (enOk o))]):=by
 have e1:=qOU h;have e2:=qOA h;have e3:=qOY h;unfold qKP qI1;simp only [qau,e1,e2,e3,qFG,qFX,qF0];rfl
theorem qSD {o:En} (h:enS o):qlD o.1 (rOf cP o.2.1) (rOf cAc o.2.2)=true:=by simp only [qlD,qy9,qxl,qBW h];simp
theorem qTG {o:En} (h:enS o):qxl o.1 (rOf cP o.2.1) (rOf cAc o.2.2)=tdS (enOk o) (enT o):=by simp only [qlD,qy9,qxl,qBW h];simp
theorem qTz {o:En} (h:enS o):qy9 o.1 (rOf cP o.2.1) (rOf cAc o.2.2)=tdE (enOk o):=by simp only [qlD,qy9,qxl,qBW h];simp
end Go.Pv
set_option linter.unusedSimpArgs false
set_option linter.unusedVariables false
namespace Go.Pv
open Go.RowKit
theorem SimP.of_clos {P:Program} {gl:Gl} {f:FuncId} {D:List PV→Store→Option (PV×Store)} (hS:SimS P gl f D) {F:List PV→Option PV}
  (h:∀ args x,F args=some x→∃ (g:FuncId) (cs:List PV) (t:TypeId),D args ⟨[],[],[]⟩=some (.fn g [.ptr 0 0],⟨[cs],[],[t]⟩)∧x=.fn g [.ref (qgU cs)]):SimP P gl f F where
 ent:=hS.ent
 run:=by
  intro args x hx H w vs hB hob htk hgl hrel;obtain⟨g,cs,t,hD,rfl⟩:=h args x hx;have hok:Ok gl H ⟨[],[],[]⟩ w:=⟨by rw [hB];exact Nat.le_refl _,fun b o e=>⟨by rw [hB];exact qaC (hgl b o e),hgl b o e⟩,by simp [hob],fun id b cs e=>by simp [hob] at e,fun i j b e=>by simp [hob] at e,by simp [htk],fun t T e=>by simp [htk] at e,fun t u T U e=>by simp [htk] at e,rfl,fun id b T cs e=>by simp [hob] at e⟩
  refine (hS.run args _ _ _ hD H w vs hok hrel).mono ?_;rintro e w' ⟨v,rfl,H',hev,hok',hr⟩;have hbel:Below w.heap.size w w':=⟨hev.os,hev.tape,hev.output,hev.size,fun b hlt=>hev.block b (by rw [hB];exact hlt)⟩
  refine⟨v,rfl,⟨hbel,hev.dr⟩,?_⟩;cases hr with
  |fn _ _ us hus =>
   cases hus with
   |cons _ u _ us hu hus =>
    cases hus
    cases hu with
    |ptr _ _ b hb =>
     obtain⟨hBb,ws,ext,T,he,hr⟩:=hok'.obj 0 b cs hb rfl;have hp:∀ b off,H'.prot w' b off→({ H with aux:=fun _ _=>False }:Gh).prot w' b off∧∀ s,w'.cell? ⟨b,off,s⟩=w'.cell? ⟨b,off,s⟩:=fun b off hp=>⟨⟨hp.1,fun hB=>by
      have:=hp.2.1;rw [hev.B,hev.base] at this;exact this hB,by simp [hob],by simp [htk]⟩,fun _=>rfl⟩
     refine .fn g _ _ (.cons _ _ _ _ (.ref ⟨b,0,none⟩ _ ws (qiT hp hr) (fun j u hj=>?_)) .nil)
     have hlt:=qaC he;have hc:w'.cell? ⟨b,0+j,none⟩=some u:=by
      rw [cell_of_row w' b (0+j) (ws++ext).toArray T (0,0) he];simpa using qzl hj
     rw [qdd];refine⟨.inl ⟨hlt,fun hlt=>?_,by simp [hob],by simp [htk]⟩,hc⟩
     have h1:H.B≤b:=by rw [← hev.B];exact hBb
     have h2:b < H.B:=hlt;omega
end Go.Pv
set_option maxHeartbeats 4000000
set_option maxRecDepth 200000
set_option linter.unusedSimpArgs false
set_option linter.unusedVariables false
namespace Go.Pv
open Go Go.Proofs
def qR2:GamT:=ofL [(55,.pure qzf)]
theorem qPE (gl:Gl) (hg:GlLex gl):qaU Tryz.prog gl (gam qR2):=(qac (qAS gl hg) qag)
def qTY:LpsT:=fun r fr σ=>.fail
def qKh (d:qU) (d2:Bool) (d3:qR):Tr PV:=.ite (qiU d d2 (qaa d3)) (.ite (qaE (qlr d d2 (qaa d3)) [10]) (.ret (.tup [.str (sApp (qlr d d2 (qaa d3)) [10]),.bool (qn9 d d2 (qaa d3))])) .fail) .fail
theorem qUu (d:qU) (d2:Bool) (d3:qR):(tcall tbT qR2 qTY Tryz.f89 [.agg [.str d,.bool d2,.sl d3 .non],.ref [.fn 55 []]]).flat=qKh d d2 d3:=by kernel_rfl
def qLy (d:qU) (d2:Bool) (d3:qR):Option PV:=(qKh d d2 d3).run
def qv0 (d:qU) (d2:Bool) (d3:qR):List UInt8:=(gStr (gAt (gCs (gVal (qLy d d2 d3))) 0))
def qCf (d:qU) (d2:Bool) (d3:qR):Bool:=(qcb (gAt (gCs (gVal (qLy d d2 d3))) 1))
def qqX (d:qU) (d2:Bool) (d3:qR):Bool:=isW (qLy d d2 d3) (.tup [.str (qv0 d d2 d3),.bool (qCf d d2 d3)])
def qN6:List PV→Tr PV|[.agg [.str d,.bool d2,.sl d3 .non],.ref [.fn 55 []]]=>.ite (qqX d d2 d3) (.ret (.tup [.str (qv0 d d2 d3),.bool (qCf d d2 d3)])) (.fail)|_=>.fail
theorem qIN (gl:Gl) (hg:GlLex gl):SimP Tryz.prog gl 89 fun args=>(qN6 args).run:=by
 refine SimP.of_flat (G:=qR2) (L:=qTY) qat (qPE gl hg ) qah  Tryz.func89 rfl (by rfl) (by kernel_rfl) (qae (by kernel_rfl)) ?_
 intro args x h;unfold qN6 at h
 split at h
 ·exact (congrArg Tr.run (qUu _ _ _)).trans (qai h fun h=>by cases h)
 ·cases h
def qQx:GamT:=ofL [(57,.pure qIJ)]
theorem qPX (gl:Gl) (hg:GlLex gl):qaU Tryz.prog gl (gam qQx):=(qac (qC2 gl hg) qag)
def qSG:LpsT:=fun r fr σ=>.fail
def qKJ (o:qU) (o2:qR) (o3:qR):Tr PV:=.ite (qnm o (qaa o2) (qaa o3)) (.ite (qaE (qu6 o (qaa o2) (qaa o3)) [10]) (.ret (.tup [.str (sApp (qu6 o (qaa o2) (qaa o3)) [10]),.bool (qvS o (qaa o2) (qaa o3))])) .fail) .fail
theorem qUd (o:qU) (o2:qR) (o3:qR):(tcall tbT qQx qSG Tryz.f90 [.agg [.str o,.sl o2 .non,.sl o3 .non],.ref [.fn 57 []]]).flat=qKJ o o2 o3:=by kernel_rfl
def qHK (o:qU) (o2:qR) (o3:qR):Option PV:=(qKJ o o2 o3).run
def qv1 (o:qU) (o2:qR) (o3:qR):List UInt8:=(gStr (gAt (gCs (gVal (qHK o o2 o3))) 0))
def qBy (o:qU) (o2:qR) (o3:qR):Bool:=(qcb (gAt (gCs (gVal (qHK o o2 o3))) 1))
def qpJ (o:qU) (o2:qR) (o3:qR):Bool:=isW (qHK o o2 o3) (.tup [.str (qv1 o o2 o3),.bool (qBy o o2 o3)])
def qNd:List PV→Tr PV|[.agg [.str o,.sl o2 .non,.sl o3 .non],.ref [.fn 57 []]]=>.ite (qpJ o o2 o3) (.ret (.tup [.str (qv1 o o2 o3),.bool (qBy o o2 o3)])) (.fail)|_=>.fail
theorem qKS (gl:Gl) (hg:GlLex gl):SimP Tryz.prog gl 90 fun args=>(qNd args).run:=by
 refine SimP.of_flat (G:=qQx) (L:=qSG) qat (qPX gl hg ) qah  Tryz.func90 rfl (by rfl) (by kernel_rfl) (qae (by kernel_rfl)) ?_
 intro args x h;unfold qNd at h
 split at h
 ·exact (congrArg Tr.run (qUd _ _ _)).trans (qai h fun h=>by cases h)
 ·cases h
def qRF:GamT:=ofL [(54,.pure qvs)]
theorem qR3 (gl:Gl) (hg:GlLex gl):qaU Tryz.prog gl (gam qRF):=(qac (qu5 gl hg) qag)
def qTL:LpsT:=fun r fr σ=>.fail
def qK5 (x:qU) (x2:qR) (x3:qR):Tr PV:=.ite (qhb x (qaa x2) (qaa x3)) (.ite (qaE (qhN x (qaa x2) (qaa x3)) [10]) (.ret (.tup [.str (sApp (qhN x (qaa x2) (qaa x3)) [10]),.bool (qiu x (qaa x2) (qaa x3))])) .fail) .fail
theorem qT3 (x:qU) (x2:qR) (x3:qR):(tcall tbT qRF qTL Tryz.f91 [.agg [.str x,.sl x2 .non,.sl x3 .non],.ref [.fn 54 []]]).flat=qK5 x x2 x3:=by kernel_rfl
def qLd (x:qU) (x2:qR) (x3:qR):Option PV:=(qK5 x x2 x3).run
def qv6 (x:qU) (x2:qR) (x3:qR):List UInt8:=(gStr (gAt (gCs (gVal (qLd x x2 x3))) 0))
def qD9 (x:qU) (x2:qR) (x3:qR):Bool:=(qcb (gAt (gCs (gVal (qLd x x2 x3))) 1))
def qqt (x:qU) (x2:qR) (x3:qR):Bool:=isW (qLd x x2 x3) (.tup [.str (qv6 x x2 x3),.bool (qD9 x x2 x3)])
def qOr:List PV→Tr PV|[.agg [.str x,.sl x2 .non,.sl x3 .non],.ref [.fn 54 []]]=>.ite (qqt x x2 x3) (.ret (.tup [.str (qv6 x x2 x3),.bool (qD9 x x2 x3)])) (.fail)|_=>.fail
theorem qKD (gl:Gl) (hg:GlLex gl):SimP Tryz.prog gl 91 fun args=>(qOr args).run:=by
 refine SimP.of_flat (G:=qRF) (L:=qTL) qat (qR3 gl hg ) qah  Tryz.func91 rfl (by rfl) (by kernel_rfl) (qae (by kernel_rfl)) ?_
 intro args x h;unfold qOr at h
 split at h
 ·exact (congrArg Tr.run (qT3 _ _ _)).trans (qai h fun h=>by cases h)
 ·cases h
def qIi:GamT:=ofL [(88,.pure qne),(89,.pure qN6),(qdX,.hint [(8,0,1,9)])]
theorem qMx (gl:Gl) (hg:GlLex gl):qaU Tryz.prog gl (gam qIi):=(qac (qik hg.toGlOk.toGlPow) (qac (qIN gl hg) (qbv (K:=.hint [(8,0,1,9)]) trivial qag)))
def qFU:Code:=qdT Tryz.f60 3
def qEJ:LI:=⟨35,[1,2,8,13,14,15],fun e=>match e with|.ret=>[6,7]|.exit 0=>[1,8]|_=>[],true⟩
def qBT:LpsT:=fun r fr σ=>.fail
def qmY (vs:List PV) (σ:Store):Option (PExit×List PV×Store):=lval (lstep tbT qIi qBT qFU qEJ) vs σ
def qtf (between:qU) (texts:qR) (r:qR) (n:Int) (n2:Int) (k:Nat):Tr LR:=.ite (iLt n2 n) (.ite (qav n2) (.ite (qa3 [.str [],.bool false,.sl [] .full] r (nNat n2)) (.ite (qqX (xStr r (nNat n2) 0) (qcu r (nNat n2) 1) (qaa (xRow r (nNat n2) 2))) (.ite (bNot (qCf (xStr r (nNat n2) 0) (qcu r (nNat n2) 1) (qaa (xRow r (nNat n2) 2)))) (.ret (.out .ret [.str [],.bool false] (Store.mk [] [(k,1,9)] []))) (.ite (qaI texts [[.str (qv0 (xStr r (nNat n2) 0) (qcu r (nNat n2) 1) (qaa (xRow r (nNat n2) 2)))]] 16) (.ite (qaH [[.str (qv0 (xStr r (nNat n2) 0) (qcu r (nNat n2) 1) (qaa (xRow r (nNat n2) 2)))]] 1) (.ite (qaB texts 1) (.ite (nEq k (nXs texts)) (.ret (.next [.str between,.fn 89 [.ref [.fn 55 []]],.sl (qaD 0 (xApp texts [[.str (qv0 (xStr r (nNat n2) 0) (qcu r (nNat n2) 1) (qaa (xRow r (nNat n2) 2)))]])) (.tok 0),.sl (qaD 0 r) .non,.int .i64 n,.int .i64 (iAdd .i64 n2 1)] (Store.mk [] [(nXs (xApp texts [[.str (qv0 (xStr r (nNat n2) 0) (qcu r (nNat n2) 1) (qaa (xRow r (nNat n2) 2)))]]),1,9)] []))) .fail) .fail) .fail) .fail)) .fail) .fail) .fail) (.ret (.out (.exit 0) [.str between,.sl texts (.tok 0)] (Store.mk [] [(k,1,9)] [])))
theorem qTq (between:qU) (texts:qR) (r:qR) (n:Int) (n2:Int) (k:Nat):lstep tbT qIi qBT qFU qEJ [.str between,.fn 89 [.ref [.fn 55 []]],.sl texts (.tok 0),.sl r .non,.int .i64 n,.int .i64 n2] ⟨[],[(k,1,9)],[]⟩=qtf between texts r n n2 k:=by kernel_rfl
theorem qLm (between:qU) (texts:qR) (r:qR) (n:Int) (n2:Int) (k:Nat):qmY [.str between,.fn 89 [.ref [.fn 55 []]],.sl texts (.tok 0),.sl r .non,.int .i64 n,.int .i64 n2] ⟨[],[(k,1,9)],[]⟩=lnext qmY (qtf between texts r n n2 k).run:=by unfold qmY;rw [qbu,qTq]
def qm7 (between:qU) (texts:qR) (r:qR) (n:Int) (n2:Int) (k:Nat):Option (PExit×List PV×Store):=qmY [.str between,.fn 89 [.ref [.fn 55 []]],.sl texts (.tok 0),.sl r .non,.int .i64 n,.int .i64 n2] ⟨[],[(k,1,9)],[]⟩
def qpF (between:qU) (texts:qR) (r:qR) (n:Int) (n2:Int) (k:Nat):List UInt8:=(gStr (gOut (qm7 between texts r n n2 k) 0))
def qpy (between:qU) (texts:qR) (r:qR) (n:Int) (n2:Int) (k:Nat):Bool:=(qcb (gOut (qm7 between texts r n n2 k) 1))
def qry (between:qU) (texts:qR) (r:qR) (n:Int) (n2:Int) (k:Nat):Nat:=(gTok (qm7 between texts r n n2 k) 0)
def qse (between:qU) (texts:qR) (r:qR) (n:Int) (n2:Int) (k:Nat):Bool:=isW (qm7 between texts r n n2 k) (.ret,[.str (qpF between texts r n n2 k),.bool (qpy between texts r n n2 k)],⟨[],[((qry between texts r n n2 k),1,9)],[]⟩)
def qdG (between:qU) (texts:qR) (r:qR) (n:Int) (n2:Int) (k:Nat):List UInt8:=(gStr (gOut (qm7 between texts r n n2 k) 0))
def qd7 (between:qU) (texts:qR) (r:qR) (n:Int) (n2:Int) (k:Nat):List (List PV):=(gRow (gOut (qm7 between texts r n n2 k) 1))
def qsr (between:qU) (texts:qR) (r:qR) (n:Int) (n2:Int) (k:Nat):Nat:=(gTok (qm7 between texts r n n2 k) 0)
def qrs (between:qU) (texts:qR) (r:qR) (n:Int) (n2:Int) (k:Nat):Bool:=isW (qm7 between texts r n n2 k) ((.exit 0),[.str (qdG between texts r n n2 k),.sl (qd7 between texts r n n2 k) (.tok 0)],⟨[],[((qsr between texts r n n2 k),1,9)],[]⟩)
def qoR:List PV→Store→Tr (PExit×List PV×Store)|[.str between,.fn 89 [.ref [.fn 55 []]],.sl texts (.tok 0),.sl r .non,.int .i64 n,.int .i64 n2],⟨[],[(k,1,9)],[]⟩=>.ite (qse between texts r n n2 k) (.ret (.ret,[.str (qpF between texts r n n2 k),.bool (qpy between texts r n n2 k)],⟨[],[((qry between texts r n n2 k),1,9)],[]⟩)) (.ite (qrs between texts r n n2 k) (.ret ((.exit 0),[.str (qdG between texts r n n2 k),.sl (qd7 between texts r n n2 k) (.tok 0)],⟨[],[((qsr between texts r n n2 k),1,9)],[]⟩)) (.fail))|_,_=>.fail
theorem qPq:∀ vs σ r,(qoR vs σ).run=some r→qmY vs σ=some r:=by
 intro vs σ r h;unfold qoR at h
 split at h
 ·exact qai h fun h=>qai h fun h=>by cases h
 ·cases h
theorem qJ1 (gl:Gl) (hg:GlLex gl):∀ fr σ e fr' σ',(orc qEJ qoR fr σ).run=some (e,fr',σ')→LDoes Tryz.prog gl qFU fr σ e fr' σ':=qck qat (qMx gl hg ) qah (L:=qBT) (qae (by kernel_rfl)) (by kernel_rfl) qPq
def qRS:LpsT:=fun r fr σ=>bif Nat.beq r 3 then orc qEJ qoR fr σ else .fail
def qLW (l:qR) (sep:qU):Tr PV:=.ite (qse sep [] l (xLen l) 0 0) (.ret (.tup [.str (qpF sep [] l (xLen l) 0 0),.bool (qpy sep [] l (xLen l) 0 0)])) (.ite (qrs sep [] l (xLen l) 0 0) (.ite (okR cS (qaa (qd7 sep [] l (xLen l) 0 0))) (.ite (qfD (unR cS (qaa (qd7 sep [] l (xLen l) 0 0))) (qdG sep [] l (xLen l) 0 0)) (.ret (.tup [.str (qeB (unR cS (qaa (qd7 sep [] l (xLen l) 0 0))) (qdG sep [] l (xLen l) 0 0)),.bool true])) .fail) .fail) .fail)
theorem qT2 (l:qR) (sep:qU):(tcall tbT qIi qRS Tryz.f60 [.sl l .non,.str sep,.fn 89 [.ref [.fn 55 []]]]).flat=qLW l sep:=by kernel_rfl
def qJb (l:qR) (sep:qU):Option PV:=(qLW l sep).run
def qv3 (l:qR) (sep:qU):List UInt8:=(gStr (gAt (gCs (gVal (qJb l sep))) 0))
def qBp (l:qR) (sep:qU):Bool:=(qcb (gAt (gCs (gVal (qJb l sep))) 1))
def qqP (l:qR) (sep:qU):Bool:=isW (qJb l sep) (.tup [.str (qv3 l sep),.bool (qBp l sep)])
def qPm:List PV→Tr PV|[.sl l .non,.str sep,.fn 89 [.ref [.fn 55 []]]]=>.ite (qqP l sep) (.ret (.tup [.str (qv3 l sep),.bool (qBp l sep)])) (.fail)|_=>.fail
theorem qPQ (gl:Gl) (hg:GlLex gl):SimP Tryz.prog gl 60 fun args=>(qPm args).run:=by
 refine SimP.of_flat (G:=qIi) (L:=qRS) qat (qMx gl hg ) qah  Tryz.func60 rfl (by rfl) (by kernel_rfl) (qaX (L:=lps qRS) [(3,qFU)] (by kernel_rfl) (List.forall_mem_cons.2 ⟨fun fr σ e fr' σ' h=>qJ1 gl hg  fr σ e fr' σ' h,(List.forall_mem_nil _)⟩)) ?_
 intro args x h;unfold qPm at h
 split at h
 ·exact (congrArg Tr.run (qT2 _ _)).trans (qai h fun h=>by cases h)
 ·cases h
def qIn:GamT:=ofL [(88,.pure qne),(90,.pure qNd),(qdX,.hint [(8,0,1,9)])]
theorem qLX (gl:Gl) (hg:GlLex gl):qaU Tryz.prog gl (gam qIn):=(qac (qik hg.toGlOk.toGlPow) (qac (qKS gl hg) (qbv (K:=.hint [(8,0,1,9)]) trivial qag)))
def qEH:Code:=qdT Tryz.f62 3
def qF7:LI:=⟨35,[1,2,8,13,14,15],fun e=>match e with|.ret=>[6,7]|.exit 0=>[1,8]|_=>[],true⟩
def qCv:LpsT:=fun r fr σ=>.fail
def qmT (vs:List PV) (σ:Store):Option (PExit×List PV×Store):=lval (lstep tbT qIn qCv qEH qF7) vs σ
def qtd (between:qU) (texts:qR) (r:qR) (n:Int) (n2:Int) (k:Nat):Tr LR:=.ite (iLt n2 n) (.ite (qav n2) (.ite (qa3 [.str [],.sl [] .full,.sl [] .full] r (nNat n2)) (.ite (qpJ (xStr r (nNat n2) 0) (qaa (xRow r (nNat n2) 1)) (qaa (xRow r (nNat n2) 2))) (.ite (bNot (qBy (xStr r (nNat n2) 0) (qaa (xRow r (nNat n2) 1)) (qaa (xRow r (nNat n2) 2)))) (.ret (.out .ret [.str [],.bool false] (Store.mk [] [(k,1,9)] []))) (.ite (qaI texts [[.str (qv1 (xStr r (nNat n2) 0) (qaa (xRow r (nNat n2) 1)) (qaa (xRow r (nNat n2) 2)))]] 16) (.ite (qaH [[.str (qv1 (xStr r (nNat n2) 0) (qaa (xRow r (nNat n2) 1)) (qaa (xRow r (nNat n2) 2)))]] 1) (.ite (qaB texts 1) (.ite (nEq k (nXs texts)) (.ret (.next [.str between,.fn 90 [.ref [.fn 57 []]],.sl (qaD 0 (xApp texts [[.str (qv1 (xStr r (nNat n2) 0) (qaa (xRow r (nNat n2) 1)) (qaa (xRow r (nNat n2) 2)))]])) (.tok 0),.sl (qaD 0 r) .non,.int .i64 n,.int .i64 (iAdd .i64 n2 1)] (Store.mk [] [(nXs (xApp texts [[.str (qv1 (xStr r (nNat n2) 0) (qaa (xRow r (nNat n2) 1)) (qaa (xRow r (nNat n2) 2)))]]),1,9)] []))) .fail) .fail) .fail) .fail)) .fail) .fail) .fail) (.ret (.out (.exit 0) [.str between,.sl texts (.tok 0)] (Store.mk [] [(k,1,9)] [])))
theorem qTM (between:qU) (texts:qR) (r:qR) (n:Int) (n2:Int) (k:Nat):lstep tbT qIn qCv qEH qF7 [.str between,.fn 90 [.ref [.fn 57 []]],.sl texts (.tok 0),.sl r .non,.int .i64 n,.int .i64 n2] ⟨[],[(k,1,9)],[]⟩=qtd between texts r n n2 k:=by kernel_rfl
theorem qIq (between:qU) (texts:qR) (r:qR) (n:Int) (n2:Int) (k:Nat):qmT [.str between,.fn 90 [.ref [.fn 57 []]],.sl texts (.tok 0),.sl r .non,.int .i64 n,.int .i64 n2] ⟨[],[(k,1,9)],[]⟩=lnext qmT (qtd between texts r n n2 k).run:=by unfold qmT;rw [qbu,qTM]
def qnf (between:qU) (texts:qR) (r:qR) (n:Int) (n2:Int) (k:Nat):Option (PExit×List PV×Store):=qmT [.str between,.fn 90 [.ref [.fn 57 []]],.sl texts (.tok 0),.sl r .non,.int .i64 n,.int .i64 n2] ⟨[],[(k,1,9)],[]⟩
def qpp (between:qU) (texts:qR) (r:qR) (n:Int) (n2:Int) (k:Nat):List UInt8:=(gStr (gOut (qnf between texts r n n2 k) 0))
def qpo (between:qU) (texts:qR) (r:qR) (n:Int) (n2:Int) (k:Nat):Bool:=(qcb (gOut (qnf between texts r n n2 k) 1))
def qrH (between:qU) (texts:qR) (r:qR) (n:Int) (n2:Int) (k:Nat):Nat:=(gTok (qnf between texts r n n2 k) 0)
def qrh (between:qU) (texts:qR) (r:qR) (n:Int) (n2:Int) (k:Nat):Bool:=isW (qnf between texts r n n2 k) (.ret,[.str (qpp between texts r n n2 k),.bool (qpo between texts r n n2 k)],⟨[],[((qrH between texts r n n2 k),1,9)],[]⟩)
def qdH (between:qU) (texts:qR) (r:qR) (n:Int) (n2:Int) (k:Nat):List UInt8:=(gStr (gOut (qnf between texts r n n2 k) 0))
def qef (between:qU) (texts:qR) (r:qR) (n:Int) (n2:Int) (k:Nat):List (List PV):=(gRow (gOut (qnf between texts r n n2 k) 1))
def qrD (between:qU) (texts:qR) (r:qR) (n:Int) (n2:Int) (k:Nat):Nat:=(gTok (qnf between texts r n n2 k) 0)
def qrB (between:qU) (texts:qR) (r:qR) (n:Int) (n2:Int) (k:Nat):Bool:=isW (qnf between texts r n n2 k) ((.exit 0),[.str (qdH between texts r n n2 k),.sl (qef between texts r n n2 k) (.tok 0)],⟨[],[((qrD between texts r n n2 k),1,9)],[]⟩)
def qpl:List PV→Store→Tr (PExit×List PV×Store)|[.str between,.fn 90 [.ref [.fn 57 []]],.sl texts (.tok 0),.sl r .non,.int .i64 n,.int .i64 n2],⟨[],[(k,1,9)],[]⟩=>.ite (qrh between texts r n n2 k) (.ret (.ret,[.str (qpp between texts r n n2 k),.bool (qpo between texts r n n2 k)],⟨[],[((qrH between texts r n n2 k),1,9)],[]⟩)) (.ite (qrB between texts r n n2 k) (.ret ((.exit 0),[.str (qdH between texts r n n2 k),.sl (qef between texts r n n2 k) (.tok 0)],⟨[],[((qrD between texts r n n2 k),1,9)],[]⟩)) (.fail))|_,_=>.fail
theorem qRb:∀ vs σ r,(qpl vs σ).run=some r→qmT vs σ=some r:=by
 intro vs σ r h;unfold qpl at h
 split at h
 ·exact qai h fun h=>qai h fun h=>by cases h
 ·cases h
theorem qJY (gl:Gl) (hg:GlLex gl):∀ fr σ e fr' σ',(orc qF7 qpl fr σ).run=some (e,fr',σ')→LDoes Tryz.prog gl qEH fr σ e fr' σ':=qck qat (qLX gl hg ) qah (L:=qCv) (qae (by kernel_rfl)) (by kernel_rfl) qRb
def qPo:LpsT:=fun r fr σ=>bif Nat.beq r 3 then orc qF7 qpl fr σ else .fail
def qKY (l:qR) (sep:qU):Tr PV:=.ite (qrh sep [] l (xLen l) 0 0) (.ret (.tup [.str (qpp sep [] l (xLen l) 0 0),.bool (qpo sep [] l (xLen l) 0 0)])) (.ite (qrB sep [] l (xLen l) 0 0) (.ite (okR cS (qaa (qef sep [] l (xLen l) 0 0))) (.ite (qfD (unR cS (qaa (qef sep [] l (xLen l) 0 0))) (qdH sep [] l (xLen l) 0 0)) (.ret (.tup [.str (qeB (unR cS (qaa (qef sep [] l (xLen l) 0 0))) (qdH sep [] l (xLen l) 0 0)),.bool true])) .fail) .fail) .fail)
theorem qT1 (l:qR) (sep:qU):(tcall tbT qIn qPo Tryz.f62 [.sl l .non,.str sep,.fn 90 [.ref [.fn 57 []]]]).flat=qKY l sep:=by kernel_rfl
def qLV (l:qR) (sep:qU):Option PV:=(qKY l sep).run
def qvX (l:qR) (sep:qU):List UInt8:=(gStr (gAt (gCs (gVal (qLV l sep))) 0))
def qCV (l:qR) (sep:qU):Bool:=(qcb (gAt (gCs (gVal (qLV l sep))) 1))
def qqO (l:qR) (sep:qU):Bool:=isW (qLV l sep) (.tup [.str (qvX l sep),.bool (qCV l sep)])
def qPO:List PV→Tr PV|[.sl l .non,.str sep,.fn 90 [.ref [.fn 57 []]]]=>.ite (qqO l sep) (.ret (.tup [.str (qvX l sep),.bool (qCV l sep)])) (.fail)|_=>.fail
theorem qRA (gl:Gl) (hg:GlLex gl):SimP Tryz.prog gl 62 fun args=>(qPO args).run:=by
 refine SimP.of_flat (G:=qIn) (L:=qPo) qat (qLX gl hg ) qah  Tryz.func62 rfl (by rfl) (by kernel_rfl) (qaX (L:=lps qPo) [(3,qEH)] (by kernel_rfl) (List.forall_mem_cons.2 ⟨fun fr σ e fr' σ' h=>qJY gl hg  fr σ e fr' σ' h,(List.forall_mem_nil _)⟩)) ?_
 intro args x h;unfold qPO at h
 split at h
 ·exact (congrArg Tr.run (qT1 _ _)).trans (qai h fun h=>by cases h)
 ·cases h
def qIW:GamT:=ofL [(88,.pure qne),(91,.pure qOr),(qdX,.hint [(8,0,1,9)])]
theorem qJC (gl:Gl) (hg:GlLex gl):qaU Tryz.prog gl (gam qIW):=(qac (qik hg.toGlOk.toGlPow) (qac (qKD gl hg) (qbv (K:=.hint [(8,0,1,9)]) trivial qag)))
def qEj:Code:=qdT Tryz.f64 3
def qEM:LI:=⟨35,[1,2,8,13,14,15],fun e=>match e with|.ret=>[6,7]|.exit 0=>[1,8]|_=>[],true⟩
def qCT:LpsT:=fun r fr σ=>.fail
def qnd (vs:List PV) (σ:Store):Option (PExit×List PV×Store):=lval (lstep tbT qIW qCT qEj qEM) vs σ
def quP (between:qU) (texts:qR) (r:qR) (n:Int) (n2:Int) (k:Nat):Tr LR:=.ite (iLt n2 n) (.ite (qav n2) (.ite (qa3 [.str [],.sl [] .full,.sl [] .full] r (nNat n2)) (.ite (qqt (xStr r (nNat n2) 0) (qaa (xRow r (nNat n2) 1)) (qaa (xRow r (nNat n2) 2))) (.ite (bNot (qD9 (xStr r (nNat n2) 0) (qaa (xRow r (nNat n2) 1)) (qaa (xRow r (nNat n2) 2)))) (.ret (.out .ret [.str [],.bool false] (Store.mk [] [(k,1,9)] []))) (.ite (qaI texts [[.str (qv6 (xStr r (nNat n2) 0) (qaa (xRow r (nNat n2) 1)) (qaa (xRow r (nNat n2) 2)))]] 16) (.ite (qaH [[.str (qv6 (xStr r (nNat n2) 0) (qaa (xRow r (nNat n2) 1)) (qaa (xRow r (nNat n2) 2)))]] 1) (.ite (qaB texts 1) (.ite (nEq k (nXs texts)) (.ret (.next [.str between,.fn 91 [.ref [.fn 54 []]],.sl (qaD 0 (xApp texts [[.str (qv6 (xStr r (nNat n2) 0) (qaa (xRow r (nNat n2) 1)) (qaa (xRow r (nNat n2) 2)))]])) (.tok 0),.sl (qaD 0 r) .non,.int .i64 n,.int .i64 (iAdd .i64 n2 1)] (Store.mk [] [(nXs (xApp texts [[.str (qv6 (xStr r (nNat n2) 0) (qaa (xRow r (nNat n2) 1)) (qaa (xRow r (nNat n2) 2)))]]),1,9)] []))) .fail) .fail) .fail) .fail)) .fail) .fail) .fail) (.ret (.out (.exit 0) [.str between,.sl texts (.tok 0)] (Store.mk [] [(k,1,9)] [])))
theorem qSH (between:qU) (texts:qR) (r:qR) (n:Int) (n2:Int) (k:Nat):lstep tbT qIW qCT qEj qEM [.str between,.fn 91 [.ref [.fn 54 []]],.sl texts (.tok 0),.sl r .non,.int .i64 n,.int .i64 n2] ⟨[],[(k,1,9)],[]⟩=quP between texts r n n2 k:=by kernel_rfl
theorem qLZ (between:qU) (texts:qR) (r:qR) (n:Int) (n2:Int) (k:Nat):qnd [.str between,.fn 91 [.ref [.fn 54 []]],.sl texts (.tok 0),.sl r .non,.int .i64 n,.int .i64 n2] ⟨[],[(k,1,9)],[]⟩=lnext qnd (quP between texts r n n2 k).run:=by unfold qnd;rw [qbu,qSH]
def qmV (between:qU) (texts:qR) (r:qR) (n:Int) (n2:Int) (k:Nat):Option (PExit×List PV×Store):=qnd [.str between,.fn 91 [.ref [.fn 54 []]],.sl texts (.tok 0),.sl r .non,.int .i64 n,.int .i64 n2] ⟨[],[(k,1,9)],[]⟩
def qou (between:qU) (texts:qR) (r:qR) (n:Int) (n2:Int) (k:Nat):List UInt8:=(gStr (gOut (qmV between texts r n n2 k) 0))
def qok (between:qU) (texts:qR) (r:qR) (n:Int) (n2:Int) (k:Nat):Bool:=(qcb (gOut (qmV between texts r n n2 k) 1))
def qsf (between:qU) (texts:qR) (r:qR) (n:Int) (n2:Int) (k:Nat):Nat:=(gTok (qmV between texts r n n2 k) 0)
def qrC (between:qU) (texts:qR) (r:qR) (n:Int) (n2:Int) (k:Nat):Bool:=isW (qmV between texts r n n2 k) (.ret,[.str (qou between texts r n n2 k),.bool (qok between texts r n n2 k)],⟨[],[((qsf between texts r n n2 k),1,9)],[]⟩)
def qdL (between:qU) (texts:qR) (r:qR) (n:Int) (n2:Int) (k:Nat):List UInt8:=(gStr (gOut (qmV between texts r n n2 k) 0))
def qeq (between:qU) (texts:qR) (r:qR) (n:Int) (n2:Int) (k:Nat):List (List PV):=(gRow (gOut (qmV between texts r n n2 k) 1))
def qsE (between:qU) (texts:qR) (r:qR) (n:Int) (n2:Int) (k:Nat):Nat:=(gTok (qmV between texts r n n2 k) 0)
def qsN (between:qU) (texts:qR) (r:qR) (n:Int) (n2:Int) (k:Nat):Bool:=isW (qmV between texts r n n2 k) ((.exit 0),[.str (qdL between texts r n n2 k),.sl (qeq between texts r n n2 k) (.tok 0)],⟨[],[((qsE between texts r n n2 k),1,9)],[]⟩)
def qpr:List PV→Store→Tr (PExit×List PV×Store)|[.str between,.fn 91 [.ref [.fn 54 []]],.sl texts (.tok 0),.sl r .non,.int .i64 n,.int .i64 n2],⟨[],[(k,1,9)],[]⟩=>.ite (qrC between texts r n n2 k) (.ret (.ret,[.str (qou between texts r n n2 k),.bool (qok between texts r n n2 k)],⟨[],[((qsf between texts r n n2 k),1,9)],[]⟩)) (.ite (qsN between texts r n n2 k) (.ret ((.exit 0),[.str (qdL between texts r n n2 k),.sl (qeq between texts r n n2 k) (.tok 0)],⟨[],[((qsE between texts r n n2 k),1,9)],[]⟩)) (.fail))|_,_=>.fail
theorem qQ0:∀ vs σ r,(qpr vs σ).run=some r→qnd vs σ=some r:=by
 intro vs σ r h;unfold qpr at h
 split at h
 ·exact qai h fun h=>qai h fun h=>by cases h
 ·cases h
theorem qJG (gl:Gl) (hg:GlLex gl):∀ fr σ e fr' σ',(orc qEM qpr fr σ).run=some (e,fr',σ')→LDoes Tryz.prog gl qEj fr σ e fr' σ':=qck qat (qJC gl hg ) qah (L:=qCT) (qae (by kernel_rfl)) (by kernel_rfl) qQ0
def qQi:LpsT:=fun r fr σ=>bif Nat.beq r 3 then orc qEM qpr fr σ else .fail
def qJp (l:qR) (sep:qU):Tr PV:=.ite (qrC sep [] l (xLen l) 0 0) (.ret (.tup [.str (qou sep [] l (xLen l) 0 0),.bool (qok sep [] l (xLen l) 0 0)])) (.ite (qsN sep [] l (xLen l) 0 0) (.ite (okR cS (qaa (qeq sep [] l (xLen l) 0 0))) (.ite (qfD (unR cS (qaa (qeq sep [] l (xLen l) 0 0))) (qdL sep [] l (xLen l) 0 0)) (.ret (.tup [.str (qeB (unR cS (qaa (qeq sep [] l (xLen l) 0 0))) (qdL sep [] l (xLen l) 0 0)),.bool true])) .fail) .fail) .fail)
theorem qT8 (l:qR) (sep:qU):(tcall tbT qIW qQi Tryz.f64 [.sl l .non,.str sep,.fn 91 [.ref [.fn 54 []]]]).flat=qJp l sep:=by kernel_rfl
def qMd (l:qR) (sep:qU):Option PV:=(qJp l sep).run
def qxF (l:qR) (sep:qU):List UInt8:=(gStr (gAt (gCs (gVal (qMd l sep))) 0))
def qBi (l:qR) (sep:qU):Bool:=(qcb (gAt (gCs (gVal (qMd l sep))) 1))
def qqM (l:qR) (sep:qU):Bool:=isW (qMd l sep) (.tup [.str (qxF l sep),.bool (qBi l sep)])
def qPw:List PV→Tr PV|[.sl l .non,.str sep,.fn 91 [.ref [.fn 54 []]]]=>.ite (qqM l sep) (.ret (.tup [.str (qxF l sep),.bool (qBi l sep)])) (.fail)|_=>.fail
theorem qQp (gl:Gl) (hg:GlLex gl):SimP Tryz.prog gl 64 fun args=>(qPw args).run:=by
 refine SimP.of_flat (G:=qIW) (L:=qQi) qat (qJC gl hg ) qah  Tryz.func64 rfl (by rfl) (by kernel_rfl) (qaX (L:=lps qQi) [(3,qEj)] (by kernel_rfl) (List.forall_mem_cons.2 ⟨fun fr σ e fr' σ' h=>qJG gl hg  fr σ e fr' σ' h,(List.forall_mem_nil _)⟩)) ?_
 intro args x h;unfold qPw at h
 split at h
 ·exact (congrArg Tr.run (qT8 _ _)).trans (qai h fun h=>by cases h)
 ·cases h
def qR9:GamT:=ofL [(89,.pure qN6)]
theorem qQM (gl:Gl) (hg:GlLex gl):qaU Tryz.prog gl (gam qR9):=(qac (qIN gl hg) qag)
def qSi:LpsT:=fun r fr σ=>.fail
def qOM:Tr (PV×Store):=.ret (.fn 89 [.ptr 0 0],Store.mk [[.fn 55 []]] [] [105])
theorem qUh:(qpx tbT qR9 qSi Tryz.f61 [.fn 55 []] ⟨[],[],[]⟩).flat=qOM:=by kernel_rfl
def qS7:Option (PV×Store):=(qOM).run
def qIt:Bool:=isW (qS7) (.fn 89 [.ptr 0 0],⟨[[.fn 55 []]],[],[105]⟩)
def qN9:List PV→Store→Tr (PV×Store)|[.fn 55 []],⟨[],[],[]⟩=>.ite (qIt) (.ret (.fn 89 [.ptr 0 0],⟨[[.fn 55 []]],[],[105]⟩)) (.fail)|_,_=>.fail
theorem qQk (gl:Gl) (hg:GlLex gl):SimS Tryz.prog gl 61 fun args σ=>(qN9 args σ).run:=by
 refine SimS.of_flat (G:=qR9) (L:=qSi) qat (qQM gl hg ) qah Tryz.func61 rfl (by rfl) (by kernel_rfl) (qae (by kernel_rfl)) ?_
 intro args σ x h;unfold qN9 at h
 split at h
 ·exact (congrArg Tr.run (qUh)).trans (qai h fun h=>by cases h)
 ·cases h
def qPz:GamT:=ofL [(90,.pure qNd)]
theorem qSc (gl:Gl) (hg:GlLex gl):qaU Tryz.prog gl (gam qPz):=(qac (qKS gl hg) qag)
def qSZ:LpsT:=fun r fr σ=>.fail
def qOV:Tr (PV×Store):=.ret (.fn 90 [.ptr 0 0],Store.mk [[.fn 57 []]] [] [107])
theorem qUa:(qpx tbT qPz qSZ Tryz.f63 [.fn 57 []] ⟨[],[],[]⟩).flat=qOV:=by kernel_rfl
def qSX:Option (PV×Store):=(qOV).run
def qMj:Bool:=isW (qSX) (.fn 90 [.ptr 0 0],⟨[[.fn 57 []]],[],[107]⟩)
def qMJ:List PV→Store→Tr (PV×Store)|[.fn 57 []],⟨[],[],[]⟩=>.ite (qMj) (.ret (.fn 90 [.ptr 0 0],⟨[[.fn 57 []]],[],[107]⟩)) (.fail)|_,_=>.fail
theorem qRl (gl:Gl) (hg:GlLex gl):SimS Tryz.prog gl 63 fun args σ=>(qMJ args σ).run:=by
 refine SimS.of_flat (G:=qPz) (L:=qSZ) qat (qSc gl hg ) qah Tryz.func63 rfl (by rfl) (by kernel_rfl) (qae (by kernel_rfl)) ?_
 intro args σ x h;unfold qMJ at h
 split at h
 ·exact (congrArg Tr.run (qUa)).trans (qai h fun h=>by cases h)
 ·cases h
def qP6:GamT:=ofL [(91,.pure qOr)]
theorem qPC (gl:Gl) (hg:GlLex gl):qaU Tryz.prog gl (gam qP6):=(qac (qKD gl hg) qag)
def qTQ:LpsT:=fun r fr σ=>.fail
def qPe:Tr (PV×Store):=.ret (.fn 91 [.ptr 0 0],Store.mk [[.fn 54 []]] [] [104])
theorem qUz:(qpx tbT qP6 qTQ Tryz.f65 [.fn 54 []] ⟨[],[],[]⟩).flat=qPe:=by kernel_rfl
def qSF:Option (PV×Store):=(qPe).run
def qIm:Bool:=isW (qSF) (.fn 91 [.ptr 0 0],⟨[[.fn 54 []]],[],[104]⟩)
def qMQ:List PV→Store→Tr (PV×Store)|[.fn 54 []],⟨[],[],[]⟩=>.ite (qIm) (.ret (.fn 91 [.ptr 0 0],⟨[[.fn 54 []]],[],[104]⟩)) (.fail)|_,_=>.fail
theorem qQO (gl:Gl) (hg:GlLex gl):SimS Tryz.prog gl 65 fun args σ=>(qMQ args σ).run:=by
 refine SimS.of_flat (G:=qP6) (L:=qTQ) qat (qPC gl hg ) qah Tryz.func65 rfl (by rfl) (by kernel_rfl) (qae (by kernel_rfl)) ?_
 intro args σ x h;unfold qMQ at h
 split at h
 ·exact (congrArg Tr.run (qUz)).trans (qai h fun h=>by cases h)
 ·cases h
end Go.Pv
set_option maxHeartbeats 8000000
set_option maxRecDepth 200000
set_option linter.unusedSimpArgs false
set_option linter.unusedVariables false
namespace Go.Pv
open Go Go.Proofs Go.RowKit
def lnD (d:De):Txt:=deT d++[10]
def lnO (o:En):Txt:=enT o++[10]
def lnR (x:Ru):Txt:=ruT x++[10]
theorem qJF {d:De} (h:deS d):(lnD d).length≤1001:=by
 have:=qCU h;unfold lnD;simp;omega
theorem qIX {o:En} (h:enS o):(lnO o).length≤140001:=by
 have:=qDq h;unfold lnO;simp;omega
theorem qKn {x:Ru} (h:ruS x):(lnR x).length≤140001:=by
 have:=qCs h;unfold lnR;simp;omega
theorem qBV {d:De} (h:deS d):qLy d.1 d.2.1 (rOf cI d.2.2)=some (.tup [.str (lnD d),.bool (deOk d)]):=by
 have e1:=qNk h;have e2:=qMT h;have e3:=qMB h;have l1:=qCU h;have o:∀ t:Txt,t.length≤140000→qaE t [10]=true:=fun t ht=>qa0 (by simp;omega)
 unfold qLy qKh lnD;simp only [qau,e1,e2,e3];rw [o _ (by omega)]
 rfl
theorem qPb {d:De} (h:deS d):qqX d.1 d.2.1 (rOf cI d.2.2)=true:=by simp only [qCf,qqX,qv0,qBV h];simp
theorem qOK {d:De} (h:deS d):qv0 d.1 d.2.1 (rOf cI d.2.2)=lnD d:=by simp only [qCf,qqX,qv0,qBV h];simp
theorem qOW {d:De} (h:deS d):qCf d.1 d.2.1 (rOf cI d.2.2)=deOk d:=by simp only [qCf,qqX,qv0,qBV h];simp
theorem qB4 {l:List De} (hs:∀ a∈l,deS a) (hn:l.length≤100000) {sep:Txt} (hsep:sep.length≤10):qJb (rOf cD l) sep=some (.tup [.str (jn deOk lnD sep l),.bool (l.all deOk)]):=by
 have hl:=qcy (l:=l) l.length (Nat.le_refl _) (V:=fun i b=>qmY [.str sep,.fn 89 [.ref [.fn 55 []]],.sl (rOf cS b) (.tok 0),.sl (rOf cD l) .non,.int .i64 (l.length:Nat),.int .i64 (i:Nat)] ⟨[],[(b.length,1,9)],[]⟩) deOk lnD (fun b=>some (.exit 0,[.str sep,.sl (rOf cS b) (.tok 0)],⟨[],[(b.length,1,9)],[]⟩)) (fun r=>∃ k:Nat,r=some (.ret,[.str [],.bool false],⟨[],[(k,1,9)],[]⟩)) ?_ ?_ ?_
 ·rw [List.take_length] at hl;obtain⟨h1,h2⟩:=hl;have x0:xLen (rOf cD l)=(l.length:Nat):=by simp
  unfold qJb qLW jn;rw [x0];cases ha:l.all deOk with
  |true =>
   have h':qm7 sep [] (rOf cD l) (l.length:Nat) 0 0=_:=h1 ha;have o:qfD (l.map lnD) sep=true:=by
    rw [qbZ];have:=qfv (M:=1001) sep (l.map lnD) (fun x hx=>by
     obtain⟨a,ha,rfl⟩:=List.mem_map.1 hx;exact qJF (hs a ha))
    have h3:(l.map lnD).length * (1001+sep.length)≤100000 * (1001+10):=Nat.mul_le_mul (by simpa using hn) (by omega)
    exact⟨by simp;omega,by omega⟩
   simp only [qpy,qdG,qse,qrs,qry,qsr,qpF,qd7,h'];rw [qbZ] at o;simp [o.2];omega
  |false =>
   obtain⟨k,hk⟩:=h2 ha;have h':qm7 sep [] (rOf cD l) (l.length:Nat) 0 0=_:=hk;simp only [qpy,qdG,qse,qrs,qry,qsr,qpF,qd7,h'];simp
 ·intro i b a hb hi hi2 ha ho;have hm:deS a:=hs a (ha ▸ List.getElem_mem hi);have q1:iLt (i:Int) (l.length:Nat)=true:=by simp;omega
  have q3:qav (i:Int)=true:=by simp
  have q4:qa3 [PV.str [],.bool false,.sl [] .full] (rOf cD l) (nNat (i:Int))=true:=by simp;omega
  have w:=qaZ (i:=i) (by omega)
  have e1:=qPb hm;have e2:=qOK hm;have e3:=qOW hm;rw [ho] at e3;have x0:xStr (rOf cD l) (nNat (i:Int)) 0=a.1:=by simp [hi,ha]
  have x1:qcu (rOf cD l) (nNat (i:Int)) 1=a.2.1:=by simp [hi,ha]
  have x2:xRow (rOf cD l) (nNat (i:Int)) 2=rOf cI a.2.2:=by simp [hi,ha]
  have o1:∀ c,qaI (rOf cS b) [c] 16=true:=fun c=>by simp;omega
  have o2:∀ t:Txt,qaH [[PV.str t]] 1=true:=fun t=>by simp [one]
  have o3:qaB (rOf cS b) 1=true:=qcH _;have o4:nEq b.length (nXs (rOf cS b))=true:=by simp
  have o5:bNot true=false:=rfl;show qmY [.str sep,.fn 89 [.ref [.fn 55 []]],.sl (rOf cS b) (.tok 0),.sl (rOf cD l) .non,.int .i64 (l.length:Nat),.int .i64 (i:Nat)] ⟨[],[(b.length,1,9)],[]⟩=qmY [.str sep,.fn 89 [.ref [.fn 55 []]],.sl (rOf cS (b++[lnD a])) (.tok 0),.sl (rOf cD l) .non,.int .i64 (l.length:Nat),.int .i64 ((i+1:Nat):Int)] ⟨[],[((b++[lnD a]).length,1,9)],[]⟩
  rw [qLm];simp only [qtf,q1,q3,q4,x0,x1,x2,qau,e1,e2,e3,o1,o2,o3,o4,o5,w];simp
 ·intro i b a hb hi hi2 ha ho;have hm:deS a:=hs a (ha ▸ List.getElem_mem hi);have q1:iLt (i:Int) (l.length:Nat)=true:=by simp;omega
  have q3:qav (i:Int)=true:=by simp
  have q4:qa3 [PV.str [],.bool false,.sl [] .full] (rOf cD l) (nNat (i:Int))=true:=by simp;omega
  have w:=qaZ (i:=i) (by omega)
  have e1:=qPb hm;have e2:=qOK hm;have e3:=qOW hm;rw [ho] at e3;have x0:xStr (rOf cD l) (nNat (i:Int)) 0=a.1:=by simp [hi,ha]
  have x1:qcu (rOf cD l) (nNat (i:Int)) 1=a.2.1:=by simp [hi,ha]
  have x2:xRow (rOf cD l) (nNat (i:Int)) 2=rOf cI a.2.2:=by simp [hi,ha]
  have o5:bNot false=true:=rfl;show ∃ k:Nat,qmY [.str sep,.fn 89 [.ref [.fn 55 []]],.sl (rOf cS b) (.tok 0),.sl (rOf cD l) .non,.int .i64 (l.length:Nat),.int .i64 (i:Nat)] ⟨[],[(b.length,1,9)],[]⟩=_
  refine⟨b.length,?_⟩;rw [qLm];simp only [qtf,q1,q3,q4,x0,x1,x2,qau,e1,e2,e3,o5];simp
 ·intro b hb;have q1:iLt (l.length:Nat) (l.length:Nat)=false:=by simp
  show qmY [.str sep,.fn 89 [.ref [.fn 55 []]],.sl (rOf cS b) (.tok 0),.sl (rOf cD l) .non,.int .i64 (l.length:Nat),.int .i64 (l.length:Nat)] ⟨[],[(b.length,1,9)],[]⟩=_
  rw [qLm];simp only [qtf,q1];simp
theorem qSm {l:List De} (hs:∀ a∈l,deS a) (hn:l.length≤100000) {sep:Txt} (hsep:sep.length≤10):qqP (rOf cD l) sep=true:=by simp only [qBp,qqP,qv3,qB4 hs hn hsep];simp
theorem qTA {l:List De} (hs:∀ a∈l,deS a) (hn:l.length≤100000) {sep:Txt} (hsep:sep.length≤10):qv3 (rOf cD l) sep=jn deOk lnD sep l:=by simp only [qBp,qqP,qv3,qB4 hs hn hsep];simp
theorem qTw {l:List De} (hs:∀ a∈l,deS a) (hn:l.length≤100000) {sep:Txt} (hsep:sep.length≤10):qBp (rOf cD l) sep=l.all deOk:=by simp only [qBp,qqP,qv3,qB4 hs hn hsep];simp
theorem qCx {o:En} (h:enS o):qHK o.1 (rOf cP o.2.1) (rOf cAc o.2.2)=some (.tup [.str (lnO o),.bool (enOk o)]):=by
 have e1:=qOU h;have e2:=qOA h;have e3:=qOY h;have l1:=qDq h;have o:∀ t:Txt,t.length≤140000→qaE t [10]=true:=fun t ht=>qa0 (by simp;omega)
 unfold qHK qKJ lnO;simp only [qau,e1,e2,e3];rw [o _ (by omega)]
 rfl
theorem qOH {o:En} (h:enS o):qpJ o.1 (rOf cP o.2.1) (rOf cAc o.2.2)=true:=by simp only [qBy,qpJ,qv1,qCx h];simp
theorem qPc {o:En} (h:enS o):qv1 o.1 (rOf cP o.2.1) (rOf cAc o.2.2)=lnO o:=by simp only [qBy,qpJ,qv1,qCx h];simp
theorem qO8 {o:En} (h:enS o):qBy o.1 (rOf cP o.2.1) (rOf cAc o.2.2)=enOk o:=by simp only [qBy,qpJ,qv1,qCx h];simp
theorem qDA {l:List En} (hs:∀ a∈l,enS a) (hn:l.length≤100000) {sep:Txt} (hsep:sep.length≤10):qLV (rOf cE l) sep=some (.tup [.str (jn enOk lnO sep l),.bool (l.all enOk)]):=by
 have hl:=qcy (l:=l) l.length (Nat.le_refl _) (V:=fun i b=>qmT [.str sep,.fn 90 [.ref [.fn 57 []]],.sl (rOf cS b) (.tok 0),.sl (rOf cE l) .non,.int .i64 (l.length:Nat),.int .i64 (i:Nat)] ⟨[],[(b.length,1,9)],[]⟩) enOk lnO (fun b=>some (.exit 0,[.str sep,.sl (rOf cS b) (.tok 0)],⟨[],[(b.length,1,9)],[]⟩)) (fun r=>∃ k:Nat,r=some (.ret,[.str [],.bool false],⟨[],[(k,1,9)],[]⟩)) ?_ ?_ ?_
 ·rw [List.take_length] at hl;obtain⟨h1,h2⟩:=hl;have x0:xLen (rOf cE l)=(l.length:Nat):=by simp
  unfold qLV qKY jn;rw [x0];cases ha:l.all enOk with
  |true =>
   have h':qnf sep [] (rOf cE l) (l.length:Nat) 0 0=_:=h1 ha;have o:qfD (l.map lnO) sep=true:=by
    rw [qbZ];have:=qfv (M:=140001) sep (l.map lnO) (fun x hx=>by
     obtain⟨a,ha,rfl⟩:=List.mem_map.1 hx;exact qIX (hs a ha))
    have h3:(l.map lnO).length * (140001+sep.length)≤100000 * (140001+10):=Nat.mul_le_mul (by simpa using hn) (by omega)
    exact⟨by simp;omega,by omega⟩
   simp only [qpo,qdH,qrh,qrB,qrH,qrD,qpp,qef,h'];rw [qbZ] at o;simp [o.2];omega
  |false =>
   obtain⟨k,hk⟩:=h2 ha;have h':qnf sep [] (rOf cE l) (l.length:Nat) 0 0=_:=hk;simp only [qpo,qdH,qrh,qrB,qrH,qrD,qpp,qef,h'];simp
 ·intro i b a hb hi hi2 ha ho;have hm:enS a:=hs a (ha ▸ List.getElem_mem hi);have q1:iLt (i:Int) (l.length:Nat)=true:=by simp;omega
  have q3:qav (i:Int)=true:=by simp
  have q4:qa3 [PV.str [],.sl [] .full,.sl [] .full] (rOf cE l) (nNat (i:Int))=true:=by simp;omega
  have w:=qaZ (i:=i) (by omega)
  have e1:=qOH hm;have e2:=qPc hm;have e3:=qO8 hm;rw [ho] at e3;have x0:xStr (rOf cE l) (nNat (i:Int)) 0=a.1:=by simp [hi,ha]
  have x1:xRow (rOf cE l) (nNat (i:Int)) 1=rOf cP a.2.1:=by simp [hi,ha]
  have x2:xRow (rOf cE l) (nNat (i:Int)) 2=rOf cAc a.2.2:=by simp [hi,ha]
  have o1:∀ c,qaI (rOf cS b) [c] 16=true:=fun c=>by simp;omega
  have o2:∀ t:Txt,qaH [[PV.str t]] 1=true:=fun t=>by simp [one]
  have o3:qaB (rOf cS b) 1=true:=qcH _;have o4:nEq b.length (nXs (rOf cS b))=true:=by simp
  have o5:bNot true=false:=rfl;show qmT [.str sep,.fn 90 [.ref [.fn 57 []]],.sl (rOf cS b) (.tok 0),.sl (rOf cE l) .non,.int .i64 (l.length:Nat),.int .i64 (i:Nat)] ⟨[],[(b.length,1,9)],[]⟩=qmT [.str sep,.fn 90 [.ref [.fn 57 []]],.sl (rOf cS (b++[lnO a])) (.tok 0),.sl (rOf cE l) .non,.int .i64 (l.length:Nat),.int .i64 ((i+1:Nat):Int)] ⟨[],[((b++[lnO a]).length,1,9)],[]⟩
  rw [qIq];simp only [qtd,q1,q3,q4,x0,x1,x2,qau,e1,e2,e3,o1,o2,o3,o4,o5,w];simp
 ·intro i b a hb hi hi2 ha ho;have hm:enS a:=hs a (ha ▸ List.getElem_mem hi);have q1:iLt (i:Int) (l.length:Nat)=true:=by simp;omega
  have q3:qav (i:Int)=true:=by simp
  have q4:qa3 [PV.str [],.sl [] .full,.sl [] .full] (rOf cE l) (nNat (i:Int))=true:=by simp;omega
  have w:=qaZ (i:=i) (by omega)
  have e1:=qOH hm;have e2:=qPc hm;have e3:=qO8 hm;rw [ho] at e3;have x0:xStr (rOf cE l) (nNat (i:Int)) 0=a.1:=by simp [hi,ha]
  have x1:xRow (rOf cE l) (nNat (i:Int)) 1=rOf cP a.2.1:=by simp [hi,ha]
  have x2:xRow (rOf cE l) (nNat (i:Int)) 2=rOf cAc a.2.2:=by simp [hi,ha]
  have o5:bNot false=true:=rfl;show ∃ k:Nat,qmT [.str sep,.fn 90 [.ref [.fn 57 []]],.sl (rOf cS b) (.tok 0),.sl (rOf cE l) .non,.int .i64 (l.length:Nat),.int .i64 (i:Nat)] ⟨[],[(b.length,1,9)],[]⟩=_
  refine⟨b.length,?_⟩;rw [qIq];simp only [qtd,q1,q3,q4,x0,x1,x2,qau,e1,e2,e3,o5];simp
 ·intro b hb;have q1:iLt (l.length:Nat) (l.length:Nat)=false:=by simp
  show qmT [.str sep,.fn 90 [.ref [.fn 57 []]],.sl (rOf cS b) (.tok 0),.sl (rOf cE l) .non,.int .i64 (l.length:Nat),.int .i64 (l.length:Nat)] ⟨[],[(b.length,1,9)],[]⟩=_
  rw [qIq];simp only [qtd,q1];simp
theorem qS4 {l:List En} (hs:∀ a∈l,enS a) (hn:l.length≤100000) {sep:Txt} (hsep:sep.length≤10):qqO (rOf cE l) sep=true:=by simp only [qCV,qqO,qvX,qDA hs hn hsep];simp
theorem qSj {l:List En} (hs:∀ a∈l,enS a) (hn:l.length≤100000) {sep:Txt} (hsep:sep.length≤10):qvX (rOf cE l) sep=jn enOk lnO sep l:=by simp only [qCV,qqO,qvX,qDA hs hn hsep];simp
theorem qTD {l:List En} (hs:∀ a∈l,enS a) (hn:l.length≤100000) {sep:Txt} (hsep:sep.length≤10):qCV (rOf cE l) sep=l.all enOk:=by simp only [qCV,qqO,qvX,qDA hs hn hsep];simp
theorem qDw {x:Ru} (h:ruS x):qLd x.1.1 (rOf cM x.1.2) (rOf cL x.2)=some (.tup [.str (lnR x),.bool (ruOk x)]):=by
 have e1:=qFk h;have e2:=qFr h;have e3:=qE4 h;have l1:=qCs h;have o:∀ t:Txt,t.length≤140000→qaE t [10]=true:=fun t ht=>qa0 (by simp;omega)
 unfold qLd qK5 lnR;simp only [qau,e1,e2,e3];rw [o _ (by omega)]
 rfl
theorem qOE {x:Ru} (h:ruS x):qqt x.1.1 (rOf cM x.1.2) (rOf cL x.2)=true:=by simp only [qD9,qqt,qv6,qDw h];simp
theorem qOO {x:Ru} (h:ruS x):qv6 x.1.1 (rOf cM x.1.2) (rOf cL x.2)=lnR x:=by simp only [qD9,qqt,qv6,qDw h];simp
theorem qOF {x:Ru} (h:ruS x):qD9 x.1.1 (rOf cM x.1.2) (rOf cL x.2)=ruOk x:=by simp only [qD9,qqt,qv6,qDw h];simp
theorem qD3 {l:List Ru} (hs:∀ a∈l,ruS a) (hn:l.length≤100000) {sep:Txt} (hsep:sep.length≤10):qMd (rOf cRu l) sep=some (.tup [.str (jn ruOk lnR sep l),.bool (l.all ruOk)]):=by
 have hl:=qcy (l:=l) l.length (Nat.le_refl _) (V:=fun i b=>qnd [.str sep,.fn 91 [.ref [.fn 54 []]],.sl (rOf cS b) (.tok 0),.sl (rOf cRu l) .non,.int .i64 (l.length:Nat),.int .i64 (i:Nat)] ⟨[],[(b.length,1,9)],[]⟩) ruOk lnR (fun b=>some (.exit 0,[.str sep,.sl (rOf cS b) (.tok 0)],⟨[],[(b.length,1,9)],[]⟩)) (fun r=>∃ k:Nat,r=some (.ret,[.str [],.bool false],⟨[],[(k,1,9)],[]⟩)) ?_ ?_ ?_
 ·rw [List.take_length] at hl;obtain⟨h1,h2⟩:=hl;have x0:xLen (rOf cRu l)=(l.length:Nat):=by simp
  unfold qMd qJp jn;rw [x0];cases ha:l.all ruOk with
  |true =>
   have h':qmV sep [] (rOf cRu l) (l.length:Nat) 0 0=_:=h1 ha;have o:qfD (l.map lnR) sep=true:=by
    rw [qbZ];have:=qfv (M:=140001) sep (l.map lnR) (fun x hx=>by
     obtain⟨a,ha,rfl⟩:=List.mem_map.1 hx;exact qKn (hs a ha))
    have h3:(l.map lnR).length * (140001+sep.length)≤100000 * (140001+10):=Nat.mul_le_mul (by simpa using hn) (by omega)
    exact⟨by simp;omega,by omega⟩
   simp only [qok,qdL,qrC,qsN,qsf,qsE,qou,qeq,h'];rw [qbZ] at o;simp [o.2];omega
  |false =>
   obtain⟨k,hk⟩:=h2 ha;have h':qmV sep [] (rOf cRu l) (l.length:Nat) 0 0=_:=hk;simp only [qok,qdL,qrC,qsN,qsf,qsE,qou,qeq,h'];simp
 ·intro i b a hb hi hi2 ha ho;have hm:ruS a:=hs a (ha ▸ List.getElem_mem hi);have q1:iLt (i:Int) (l.length:Nat)=true:=by simp;omega
  have q3:qav (i:Int)=true:=by simp
  have q4:qa3 [PV.str [],.sl [] .full,.sl [] .full] (rOf cRu l) (nNat (i:Int))=true:=by simp;omega
  have w:=qaZ (i:=i) (by omega)
  have e1:=qOE hm;have e2:=qOO hm;have e3:=qOF hm;rw [ho] at e3;have x0:xStr (rOf cRu l) (nNat (i:Int)) 0=a.1.1:=by simp [hi,ha]
  have x1:xRow (rOf cRu l) (nNat (i:Int)) 1=rOf cM a.1.2:=by simp [hi,ha]
  have x2:xRow (rOf cRu l) (nNat (i:Int)) 2=rOf cL a.2:=by simp [hi,ha]
  have o1:∀ c,qaI (rOf cS b) [c] 16=true:=fun c=>by simp;omega
  have o2:∀ t:Txt,qaH [[PV.str t]] 1=true:=fun t=>by simp [one]
  have o3:qaB (rOf cS b) 1=true:=qcH _;have o4:nEq b.length (nXs (rOf cS b))=true:=by simp
  have o5:bNot true=false:=rfl;show qnd [.str sep,.fn 91 [.ref [.fn 54 []]],.sl (rOf cS b) (.tok 0),.sl (rOf cRu l) .non,.int .i64 (l.length:Nat),.int .i64 (i:Nat)] ⟨[],[(b.length,1,9)],[]⟩=qnd [.str sep,.fn 91 [.ref [.fn 54 []]],.sl (rOf cS (b++[lnR a])) (.tok 0),.sl (rOf cRu l) .non,.int .i64 (l.length:Nat),.int .i64 ((i+1:Nat):Int)] ⟨[],[((b++[lnR a]).length,1,9)],[]⟩
  rw [qLZ];simp only [quP,q1,q3,q4,x0,x1,x2,qau,e1,e2,e3,o1,o2,o3,o4,o5,w];simp
 ·intro i b a hb hi hi2 ha ho;have hm:ruS a:=hs a (ha ▸ List.getElem_mem hi);have q1:iLt (i:Int) (l.length:Nat)=true:=by simp;omega
  have q3:qav (i:Int)=true:=by simp
  have q4:qa3 [PV.str [],.sl [] .full,.sl [] .full] (rOf cRu l) (nNat (i:Int))=true:=by simp;omega
  have w:=qaZ (i:=i) (by omega)
  have e1:=qOE hm;have e2:=qOO hm;have e3:=qOF hm;rw [ho] at e3;have x0:xStr (rOf cRu l) (nNat (i:Int)) 0=a.1.1:=by simp [hi,ha]
  have x1:xRow (rOf cRu l) (nNat (i:Int)) 1=rOf cM a.1.2:=by simp [hi,ha]
  have x2:xRow (rOf cRu l) (nNat (i:Int)) 2=rOf cL a.2:=by simp [hi,ha]
  have o5:bNot false=true:=rfl;show ∃ k:Nat,qnd [.str sep,.fn 91 [.ref [.fn 54 []]],.sl (rOf cS b) (.tok 0),.sl (rOf cRu l) .non,.int .i64 (l.length:Nat),.int .i64 (i:Nat)] ⟨[],[(b.length,1,9)],[]⟩=_
  refine⟨b.length,?_⟩;rw [qLZ];simp only [quP,q1,q3,q4,x0,x1,x2,qau,e1,e2,e3,o5];simp
 ·intro b hb;have q1:iLt (l.length:Nat) (l.length:Nat)=false:=by simp
  show qnd [.str sep,.fn 91 [.ref [.fn 54 []]],.sl (rOf cS b) (.tok 0),.sl (rOf cRu l) .non,.int .i64 (l.length:Nat),.int .i64 (l.length:Nat)] ⟨[],[(b.length,1,9)],[]⟩=_
  rw [qLZ];simp only [quP,q1];simp
theorem qTr {l:List Ru} (hs:∀ a∈l,ruS a) (hn:l.length≤100000) {sep:Txt} (hsep:sep.length≤10):qqM (rOf cRu l) sep=true:=by simp only [qBi,qqM,qxF,qD3 hs hn hsep];simp
theorem qTZ {l:List Ru} (hs:∀ a∈l,ruS a) (hn:l.length≤100000) {sep:Txt} (hsep:sep.length≤10):qxF (rOf cRu l) sep=jn ruOk lnR sep l:=by simp only [qBi,qqM,qxF,qD3 hs hn hsep];simp
theorem qSq {l:List Ru} (hs:∀ a∈l,ruS a) (hn:l.length≤100000) {sep:Txt} (hsep:sep.length≤10):qBi (rOf cRu l) sep=l.all ruOk:=by simp only [qBi,qqM,qxF,qD3 hs hn hsep];simp
def F_L1:List PV→Tr PV
 |[.fn 55 []]=>.ret (.fn 89 [.ref [.fn 55 []]])
 |_=>.fail
theorem qSK (gl:Gl) (hg:GlLex gl):SimP Tryz.prog gl 61 fun args=>(F_L1 args).run:=by
 refine SimP.of_clos (qQk gl hg) ?_;intro args x h;unfold F_L1 at h
 split at h
 ·cases h
  refine⟨89,[.fn 55 []],105,?_,rfl⟩;have hw:qS7=some (.fn 89 [.ptr 0 0],⟨[[.fn 55 []]],[],[105]⟩):=rfl;show (qN9 _ _).run=_
  unfold qN9 qIt;rw [hw];simp
 ·cases h
def F_L2:List PV→Tr PV
 |[.fn 57 []]=>.ret (.fn 90 [.ref [.fn 57 []]])
 |_=>.fail
theorem qTx (gl:Gl) (hg:GlLex gl):SimP Tryz.prog gl 63 fun args=>(F_L2 args).run:=by
 refine SimP.of_clos (qRl gl hg) ?_;intro args x h;unfold F_L2 at h
 split at h
 ·cases h
  refine⟨90,[.fn 57 []],107,?_,rfl⟩;have hw:qSX=some (.fn 90 [.ptr 0 0],⟨[[.fn 57 []]],[],[107]⟩):=rfl;show (qMJ _ _).run=_
  unfold qMJ qMj;rw [hw];simp
 ·cases h
def F_L3:List PV→Tr PV
 |[.fn 54 []]=>.ret (.fn 91 [.ref [.fn 54 []]])
 |_=>.fail
theorem qSv (gl:Gl) (hg:GlLex gl):SimP Tryz.prog gl 65 fun args=>(F_L3 args).run:=by
 refine SimP.of_clos (qQO gl hg) ?_;intro args x h;unfold F_L3 at h
 split at h
 ·cases h
  refine⟨91,[.fn 54 []],104,?_,rfl⟩;have hw:qSF=some (.fn 91 [.ptr 0 0],⟨[[.fn 54 []]],[],[104]⟩):=rfl;show (qMQ _ _).run=_
  unfold qMQ qIm;rw [hw];simp
 ·cases h
end Go.Pv
set_option maxHeartbeats 4000000
set_option maxRecDepth 200000
set_option linter.unusedSimpArgs false
set_option linter.unusedVariables false
namespace Go.Pv
open Go Go.Proofs
def qqK:GamT:=ofL [(54,.pure qvs),(55,.pure qzf),(57,.pure qIJ),(60,.pure qPm),(61,.pure F_L1),(62,.pure qPO),(63,.pure F_L2),(64,.pure qPw),(65,.pure F_L3)]
theorem qBa (gl:Gl) (hg:GlLex gl):qaU Tryz.prog gl (gam qqK):=(qac (qu5 gl hg) (qac (qAS gl hg) (qac (qC2 gl hg) (qac (qPQ gl hg) (qac (qSK gl hg) (qac (qRA gl hg) (qac (qTx gl hg) (qac (qQp gl hg) (qac (qSv gl hg) qag)))))))))
def qwf:LpsT:=fun r fr σ=>.fail
def qnv (p_:qR) (p_2:qR) (p_3:qR):Tr PV:=.ite (qqP (qaa p_) []) (.ite (qqO (qaa p_2) []) (.ite (qqM (qaa p_3) []) (.ite (qaE (qv3 (qaa p_) []) (qvX (qaa p_2) [])) (.ite (qaE (sApp (qv3 (qaa p_) []) (qvX (qaa p_2) [])) (qxF (qaa p_3) [])) (.ite (bNot (qBp (qaa p_) [])) (.ret (.tup [.str [],.int .i64 140])) (.ite (bNot (qCV (qaa p_2) [])) (.ret (.tup [.str [],.int .i64 140])) (.ite (bNot (qBi (qaa p_3) [])) (.ret (.tup [.str [],.int .i64 140])) (.ite (iLt 65536 (sLen (sApp (sApp (qv3 (qaa p_) []) (qvX (qaa p_2) [])) (qxF (qaa p_3) [])))) (.ret (.tup [.str [],.int .i64 2])) (.ret (.tup [.str (sApp (sApp (qv3 (qaa p_) []) (qvX (qaa p_2) [])) (qxF (qaa p_3) [])),.int .i64 0])))))) .fail) .fail) .fail) .fail) .fail
theorem qGk (p_:qR) (p_2:qR) (p_3:qR):(tcall tbT qqK qwf Tryz.f36 [.agg [.sl p_ .non,.sl p_2 .non,.sl p_3 .non]]).flat=qnv p_ p_2 p_3:=by kernel_rfl
def qiY (p_:qR) (p_2:qR) (p_3:qR):Option PV:=(qnv p_ p_2 p_3).run
def qfM (p_:qR) (p_2:qR) (p_3:qR):List UInt8:=(gStr (gAt (gCs (gVal (qiY p_ p_2 p_3))) 0))
def qgd (p_:qR) (p_2:qR) (p_3:qR):Int:=(gInt (gAt (gCs (gVal (qiY p_ p_2 p_3))) 1))
def qfh (p_:qR) (p_2:qR) (p_3:qR):Bool:=isW (qiY p_ p_2 p_3) (.tup [.str (qfM p_ p_2 p_3),.int .i64 (qgd p_ p_2 p_3)])
def qqo:List PV→Tr PV|[.agg [.sl p_ .non,.sl p_2 .non,.sl p_3 .non]]=>.ite (qfh p_ p_2 p_3) (.ret (.tup [.str (qfM p_ p_2 p_3),.int .i64 (qgd p_ p_2 p_3)])) (.fail)|_=>.fail
theorem qzP (gl:Gl) (hg:GlLex gl):SimP Tryz.prog gl 36 fun args=>(qqo args).run:=by
 refine SimP.of_flat (G:=qqK) (L:=qwf) qat (qBa gl hg ) qah  Tryz.func36 rfl (by rfl) (by kernel_rfl) (qae (by kernel_rfl)) ?_
 intro args x h;unfold qqo at h
 split at h
 ·exact (congrArg Tr.run (qGk _ _ _)).trans (qai h fun h=>by cases h)
 ·cases h
end Go.Pv
set_option maxHeartbeats 4000000
set_option maxRecDepth 200000
set_option linter.unusedSimpArgs false
set_option linter.unusedVariables false
namespace Go.Pv
open Go Go.Proofs
def qB1:GamT:=ofL [(38,.pure qyM)]
theorem qJu (gl:Gl):qaU Tryz.prog gl (gam qB1):=(qac (qHA gl) qag)
def qHZ:LpsT:=fun r fr σ=>.fail
def qxq (s:qU) (k:Int):Tr PV:=.ite (qmI s) (.ite (iEq (qlm s) 0) (.ite (iEq (xLen (qgM s)) 1) (.ite (qav 0) (.ite (qa3 [.int .i64 0,.str [],.int .i64 0,.int .i64 0,.str [],.int .i64 0] (qgM s) (nNat 0)) (.ite (iEq (xInt (qgM s) (nNat 0) 0) k) (.ite (qav 0) (.ite (qa3 [.int .i64 0,.str [],.int .i64 0,.int .i64 0,.str [],.int .i64 0] (qgM s) (nNat 0)) (.ret (.bool (sEq (xStr (qgM s) (nNat 0) 1) s))) .fail) .fail) (.ret (.bool false))) .fail) .fail) (.ret (.bool false))) (.ret (.bool false))) .fail
theorem qR5 (s:qU) (k:Int):(tcall tbT qB1 qHZ Tryz.f53 [.str s,.int .i64 k]).flat=qxq s k:=by kernel_rfl
def qxs (s:qU) (k:Int):Option PV:=(qxq s k).run
def qnE (s:qU) (k:Int):Bool:=(qcb (gVal (qxs s k)))
def qiQ (s:qU) (k:Int):Bool:=isW (qxs s k) (.bool (qnE s k))
def qyZ:List PV→Tr PV|[.str s,.int .i64 k]=>.ite (qiQ s k) (.ret (.bool (qnE s k))) (.fail)|_=>.fail
theorem qAO (gl:Gl):SimP Tryz.prog gl 53 fun args=>(qyZ args).run:=by
 refine SimP.of_flat (G:=qB1) (L:=qHZ) qat (qJu gl ) qah  Tryz.func53 rfl (by rfl) (by kernel_rfl) (qae (by kernel_rfl)) ?_
 intro args x h;unfold qyZ at h
 split at h
 ·exact (congrArg Tr.run (qR5 _ _)).trans (qai h fun h=>by cases h)
 ·cases h
def qDR:GamT:=ofL [(53,.pure qyZ)]
theorem qJj (gl:Gl):qaU Tryz.prog gl (gam qDR):=(qac (qAO gl) qag)
def qH9:LpsT:=fun r fr σ=>.fail
def qyN (s:qU):Tr PV:=.ite (qiQ s 1) (.ite (qnE s 1) (.ite (sNe s [98,97,115,101]) (.ite (sNe s [118,105,101,119]) (.ite (sNe s [111,110]) (.ret (.bool (sNe s [110,111,116]))) (.ret (.bool false))) (.ret (.bool false))) (.ret (.bool false))) (.ret (.bool false))) .fail
theorem qRm (s:qU):(tcall tbT qDR qH9 Tryz.f19 [.str s]).flat=qyN s:=by kernel_rfl
def qxW (s:qU):Option PV:=(qyN s).run
def qkj (s:qU):Bool:=(qcb (gVal (qxW s)))
def qgt (s:qU):Bool:=isW (qxW s) (.bool (qkj s))
def qtY:List PV→Tr PV|[.str s]=>.ite (qgt s) (.ret (.bool (qkj s))) (.fail)|_=>.fail
theorem qvP (gl:Gl):SimP Tryz.prog gl 19 fun args=>(qtY args).run:=by
 refine SimP.of_flat (G:=qDR) (L:=qH9) qat (qJj gl ) qah  Tryz.func19 rfl (by rfl) (by kernel_rfl) (qae (by kernel_rfl)) ?_
 intro args x h;unfold qtY at h
 split at h
 ·exact (congrArg Tr.run (qRm _)).trans (qai h fun h=>by cases h)
 ·cases h
def qMf:GamT:=ofL [(53,.pure qyZ)]
theorem qNA (gl:Gl):qaU Tryz.prog gl (gam qMf):=(qac (qAO gl) qag)
def qO9:LpsT:=fun r fr σ=>.fail
def qD0 (s:qU):Tr PV:=.ite (qiQ s 2) (.ret (.bool (qnE s 2))) .fail
theorem qTU (s:qU):(tcall tbT qMf qO9 Tryz.f21 [.str s]).flat=qD0 s:=by kernel_rfl
def qFJ (s:qU):Option PV:=(qD0 s).run
def qtn (s:qU):Bool:=(qcb (gVal (qFJ s)))
def qml (s:qU):Bool:=isW (qFJ s) (.bool (qtn s))
def qEB:List PV→Tr PV|[.str s]=>.ite (qml s) (.ret (.bool (qtn s))) (.fail)|_=>.fail
theorem qEP (gl:Gl):SimP Tryz.prog gl 21 fun args=>(qEB args).run:=by
 refine SimP.of_flat (G:=qMf) (L:=qO9) qat (qNA gl ) qah  Tryz.func21 rfl (by rfl) (by kernel_rfl) (qae (by kernel_rfl)) ?_
 intro args x h;unfold qEB at h
 split at h
 ·exact (congrArg Tr.run (qTU _)).trans (qai h fun h=>by cases h)
 ·cases h
def qJ8:GamT:=ofL []
theorem qNx (gl:Gl):qaU Tryz.prog gl (gam qJ8):=qag
def qOI:LpsT:=fun r fr σ=>.fail
def qCr (t:Int):Tr PV:=.ite (iEq t 1) (.ret (.str [105,110,116])) (.ite (iEq t 2) (.ret (.str [115,121,109])) (.ret (.str [])))
theorem qSR (t:Int):(tcall tbT qJ8 qOI Tryz.f56 [.int .i64 t]).flat=qCr t:=by kernel_rfl
def qFB (t:Int):Option PV:=(qCr t).run
def qgE (t:Int):List UInt8:=(gStr (gVal (qFB t)))
def qh4 (t:Int):Bool:=isW (qFB t) (.str (qgE t))
def qEz:List PV→Tr PV|[.int .i64 t]=>.ite (qh4 t) (.ret (.str (qgE t))) (.fail)|_=>.fail
theorem qFq (gl:Gl):SimP Tryz.prog gl 56 fun args=>(qEz args).run:=by
 refine SimP.of_flat (G:=qJ8) (L:=qOI) qat (qNx gl ) qah  Tryz.func56 rfl (by rfl) (by kernel_rfl) (qae (by kernel_rfl)) ?_
 intro args x h;unfold qEz at h
 split at h
 ·exact (congrArg Tr.run (qSR _)).trans (qai h fun h=>by cases h)
 ·cases h
def qsV:GamT:=ofL [(qdX,.hint [(5,0,1,5)])]
theorem qAj (gl:Gl):qaU Tryz.prog gl (gam qsV):=(qbv (K:=.hint [(5,0,1,5)]) trivial qag)
def qrz:Code:=qdT Tryz.f48 3
def qrt:LI:=⟨26,[0,1,5,6],fun e=>match e with|.exit 0=>[5]|_=>[],true⟩
def quh:LpsT:=fun r fr σ=>.fail
def ql6 (vs:List PV) (σ:Store):Option (PExit×List PV×Store):=lval (lstep tbT qsV quh qrz qrt) vs σ
def qfu (l:qR) (between:qU) (b:qR) (i:Int) (k:Nat):Tr LR:=.ite (iLt i (xLen l)) (.ite (iLt 0 i) (.ite (qaI b (qab between) 1) (.ite (qaH (qab between) 1) (.ite (qaB b 1) (.ite (xNil (qab between)) (.ite (qav i) (.ite (qa3 [.str []] l (nNat i)) (.ite (qaI b (qab (xStr l (nNat i) 0)) 1) (.ite (qaH (qab (xStr l (nNat i) 0)) 1) (.ite (qaB b 1) (.ite (xNil (qab (xStr l (nNat i) 0))) (.ret (.next [.sl l .non,.str between,.sl b (.tok 0),.int .i64 (iAdd .i64 i 1)] (Store.mk [] [(k,1,5)] []))) (.ite (nEq k (nXs b)) (.ret (.next [.sl l .non,.str between,.sl (xApp b (qab (xStr l (nNat i) 0))) (.tok 0),.int .i64 (iAdd .i64 i 1)] (Store.mk [] [(nXs (xApp b (qab (xStr l (nNat i) 0))),1,5)] []))) .fail)) .fail) .fail) .fail) .fail) .fail) (.ite (nEq k (nXs b)) (.ite (qav i) (.ite (qa3 [.str []] l (nNat i)) (.ite (qaI (xApp b (qab between)) (qab (xStr l (nNat i) 0)) 1) (.ite (qaH (qab (xStr l (nNat i) 0)) 1) (.ite (qaB (xApp b (qab between)) 1) (.ite (xNil (qab (xStr l (nNat i) 0))) (.ret (.next [.sl l .non,.str between,.sl (xApp b (qab between)) (.tok 0),.int .i64 (iAdd .i64 i 1)] (Store.mk [] [(nXs (xApp b (qab between)),1,5)] []))) (.ite (nEq (nXs (xApp b (qab between))) (nXs (xApp b (qab between)))) (.ret (.next [.sl l .non,.str between,.sl (xApp (xApp b (qab between)) (qab (xStr l (nNat i) 0))) (.tok 0),.int .i64 (iAdd .i64 i 1)] (Store.mk [] [(nXs (xApp (xApp b (qab between)) (qab (xStr l (nNat i) 0))),1,5)] []))) .fail)) .fail) .fail) .fail) .fail) .fail) .fail)) .fail) .fail) .fail) (.ite (qav i) (.ite (qa3 [.str []] l (nNat i)) (.ite (qaI b (qab (xStr l (nNat i) 0)) 1) (.ite (qaH (qab (xStr l (nNat i) 0)) 1) (.ite (qaB b 1) (.ite (xNil (qab (xStr l (nNat i) 0)))
 (.ret (.next [.sl l .non,.str between,.sl b (.tok 0),.int .i64 (iAdd .i64 i 1)] (Store.mk [] [(k,1,5)] []))) (.ite (nEq k (nXs b)) (.ret (.next [.sl l .non,.str between,.sl (xApp b (qab (xStr l (nNat i) 0))) (.tok 0),.int .i64 (iAdd .i64 i 1)] (Store.mk [] [(nXs (xApp b (qab (xStr l (nNat i) 0))),1,5)] []))) .fail)) .fail) .fail) .fail) .fail) .fail)) (.ret (.out (.exit 0) [.sl b (.tok 0)] (Store.mk [] [(k,1,5)] [])))
theorem qNu (l:qR) (between:qU) (b:qR) (i:Int) (k:Nat):lstep tbT qsV quh qrz qrt [.sl l .non,.str between,.sl b (.tok 0),.int .i64 i] ⟨[],[(k,1,5)],[]⟩=qfu l between b i k:=by kernel_rfl
theorem qxG (l:qR) (between:qU) (b:qR) (i:Int) (k:Nat):ql6 [.sl l .non,.str between,.sl b (.tok 0),.int .i64 i] ⟨[],[(k,1,5)],[]⟩=lnext ql6 (qfu l between b i k).run:=by unfold ql6;rw [qbu,qNu]
def qrn (l:qR) (between:qU) (b:qR) (i:Int) (k:Nat):Option (PExit×List PV×Store):=ql6 [.sl l .non,.str between,.sl b (.tok 0),.int .i64 i] ⟨[],[(k,1,5)],[]⟩
def qoW (l:qR) (between:qU) (b:qR) (i:Int) (k:Nat):List (List PV):=(gRow (gOut (qrn l between b i k) 0))
def qxa (l:qR) (between:qU) (b:qR) (i:Int) (k:Nat):Nat:=(gTok (qrn l between b i k) 0)
def qqH (l:qR) (between:qU) (b:qR) (i:Int) (k:Nat):Bool:=isW (qrn l between b i k) ((.exit 0),[.sl (qoW l between b i k) (.tok 0)],⟨[],[((qxa l between b i k),1,5)],[]⟩)
def qjO:List PV→Store→Tr (PExit×List PV×Store)|[.sl l .non,.str between,.sl b (.tok 0),.int .i64 i],⟨[],[(k,1,5)],[]⟩=>.ite (qqH l between b i k) (.ret ((.exit 0),[.sl (qoW l between b i k) (.tok 0)],⟨[],[((qxa l between b i k),1,5)],[]⟩)) (.fail)|_,_=>.fail
theorem qIz:∀ vs σ r,(qjO vs σ).run=some r→ql6 vs σ=some r:=by
 intro vs σ r h;unfold qjO at h
 split at h
 ·exact qai h fun h=>by cases h
 ·cases h
theorem qBw (gl:Gl):∀ fr σ e fr' σ',(orc qrt qjO fr σ).run=some (e,fr',σ')→LDoes Tryz.prog gl qrz fr σ e fr' σ':=qck qat (qAj gl ) qah (L:=quh) (qae (by kernel_rfl)) (by kernel_rfl) qIz
def qDS:LpsT:=fun r fr σ=>bif Nat.beq r 3 then orc qrt qjO fr σ else .fail
def qyn (l:qR) (between:qU):Tr PV:=.ite (qqH l between [] 0 0) (.ite (qdS (qoW l between [] 0 0)) (.ret (.str (qcL (qoW l between [] 0 0)))) .fail) .fail
theorem qQN (l:qR) (between:qU):(tcall tbT qsV qDS Tryz.f48 [.sl l .non,.str between]).flat=qyn l between:=by kernel_rfl
def qyO (l:qR) (between:qU):Option PV:=(qyn l between).run
def qcC (l:qR) (between:qU):List UInt8:=(gStr (gVal (qyO l between)))
def qei (l:qR) (between:qU):Bool:=isW (qyO l between) (.str (qcC l between))
def qnh:List PV→Tr PV|[.sl l .non,.str between]=>.ite (qei l between) (.ret (.str (qcC l between))) (.fail)|_=>.fail
theorem qk6 (gl:Gl):SimP Tryz.prog gl 48 fun args=>(qnh args).run:=by
 refine SimP.of_flat (G:=qsV) (L:=qDS) qat (qAj gl ) qah  Tryz.func48 rfl (by rfl) (by kernel_rfl) (qaX (L:=lps qDS) [(3,qrz)] (by kernel_rfl) (List.forall_mem_cons.2 ⟨fun fr σ e fr' σ' h=>qBw gl  fr σ e fr' σ' h,(List.forall_mem_nil _)⟩)) ?_
 intro args x h;unfold qnh at h
 split at h
 ·exact (congrArg Tr.run (qQN _ _)).trans (qai h fun h=>by cases h)
 ·cases h
def qBZ:GamT:=ofL [(21,.pure qEB),(45,.pure F_Is),(46,.pure qzw)]
theorem qL4 (gl:Gl):qaU Tryz.prog gl (gam qBZ):=(qac (qEP gl) (qac (qOP gl) (qac (qA5 gl) qag)))
def qIU:LpsT:=fun r fr σ=>.fail
def qxP (t:Int) (t2:qU) (t3:Int) (t4:Int) (t5:qU):Tr PV:=.ite (iEq t 1) (.ite (qml t2) (.ite (qtn t2) (.ite (bAnd (iEq t3 0) (bAnd (iEq t4 0) (bAnd (sEq t5 []) true))) (.ret (.tup [.str t2,.int .i64 0])) (.ite (iEq t 2) (.ite (sEq t2 []) (.ite (isV t3 t4 t5) (.ret (.tup [.str (qgA t3 t4 t5),.int .i64 0])) (.ite (iEq t 3) (.ite (sEq t2 []) (.ite (bAnd (iEq t3 0) (bAnd (iEq t4 0) (bAnd (sEq t5 []) true))) (.ret (.tup [.str [95],.int .i64 0])) (.ret (.tup [.str [],.int .i64 140]))) (.ret (.tup [.str [],.int .i64 140]))) (.ret (.tup [.str [],.int .i64 140])))) (.ite (iEq t 3) (.ite (sEq t2 []) (.ite (bAnd (iEq t3 0) (bAnd (iEq t4 0) (bAnd (sEq t5 []) true))) (.ret (.tup [.str [95],.int .i64 0])) (.ret (.tup [.str [],.int .i64 140]))) (.ret (.tup [.str [],.int .i64 140]))) (.ret (.tup [.str [],.int .i64 140])))) (.ite (iEq t 3) (.ite (sEq t2 []) (.ite (bAnd (iEq t3 0) (bAnd (iEq t4 0) (bAnd (sEq t5 []) true))) (.ret (.tup [.str [95],.int .i64 0])) (.ret (.tup [.str [],.int .i64 140]))) (.ret (.tup [.str [],.int .i64 140]))) (.ret (.tup [.str [],.int .i64 140]))))) (.ite (iEq t 2) (.ite (sEq t2 []) (.ite (isV t3 t4 t5) (.ret (.tup [.str (qgA t3 t4 t5),.int .i64 0])) (.ite (iEq t 3) (.ite (sEq t2 []) (.ite (bAnd (iEq t3 0) (bAnd (iEq t4 0) (bAnd (sEq t5 []) true))) (.ret (.tup [.str [95],.int .i64 0])) (.ret (.tup [.str [],.int .i64 140]))) (.ret (.tup [.str [],.int .i64 140]))) (.ret (.tup [.str [],.int .i64 140])))) (.ite (iEq t 3) (.ite (sEq t2 []) (.ite (bAnd (iEq t3 0) (bAnd (iEq t4 0) (bAnd (sEq t5 []) true))) (.ret (.tup [.str [95],.int .i64 0])) (.ret (.tup [.str [],.int .i64 140]))) (.ret (.tup [.str [],.int .i64 140]))) (.ret (.tup [.str [],.int .i64 140])))) (.ite (iEq t 3) (.ite (sEq t2 []) (.ite (bAnd (iEq t3 0) (bAnd (iEq t4 0) (bAnd (sEq t5 []) true))) (.ret (.tup [.str [95],.int .i64 0])) (.ret (.tup [.str [],.int .i64 140]))) (.ret (.tup [.str [],.int .i64 140])))
 (.ret (.tup [.str [],.int .i64 140]))))) .fail) (.ite (iEq t 2) (.ite (sEq t2 []) (.ite (isV t3 t4 t5) (.ret (.tup [.str (qgA t3 t4 t5),.int .i64 0])) (.ite (iEq t 3) (.ite (sEq t2 []) (.ite (bAnd (iEq t3 0) (bAnd (iEq t4 0) (bAnd (sEq t5 []) true))) (.ret (.tup [.str [95],.int .i64 0])) (.ret (.tup [.str [],.int .i64 140]))) (.ret (.tup [.str [],.int .i64 140]))) (.ret (.tup [.str [],.int .i64 140])))) (.ite (iEq t 3) (.ite (sEq t2 []) (.ite (bAnd (iEq t3 0) (bAnd (iEq t4 0) (bAnd (sEq t5 []) true))) (.ret (.tup [.str [95],.int .i64 0])) (.ret (.tup [.str [],.int .i64 140]))) (.ret (.tup [.str [],.int .i64 140]))) (.ret (.tup [.str [],.int .i64 140])))) (.ite (iEq t 3) (.ite (sEq t2 []) (.ite (bAnd (iEq t3 0) (bAnd (iEq t4 0) (bAnd (sEq t5 []) true))) (.ret (.tup [.str [95],.int .i64 0])) (.ret (.tup [.str [],.int .i64 140]))) (.ret (.tup [.str [],.int .i64 140]))) (.ret (.tup [.str [],.int .i64 140]))))
theorem qQ9 (t:Int) (t2:qU) (t3:Int) (t4:Int) (t5:qU):(tcall tbT qBZ qIU Tryz.f13 [.agg [.int .i64 t,.str t2,.int .i64 t3,.int .i64 t4,.str t5]]).flat=qxP t t2 t3 t4 t5:=by kernel_rfl
def quU (t:Int) (t2:qU) (t3:Int) (t4:Int) (t5:qU):Option PV:=(qxP t t2 t3 t4 t5).run
def qaV (t:Int) (t2:qU) (t3:Int) (t4:Int) (t5:qU):List UInt8:=(gStr (gAt (gCs (gVal (quU t t2 t3 t4 t5))) 0))
def qcR (t:Int) (t2:qU) (t3:Int) (t4:Int) (t5:qU):Int:=(gInt (gAt (gCs (gVal (quU t t2 t3 t4 t5))) 1))
def qbY (t:Int) (t2:qU) (t3:Int) (t4:Int) (t5:qU):Bool:=isW (quU t t2 t3 t4 t5) (.tup [.str (qaV t t2 t3 t4 t5),.int .i64 (qcR t t2 t3 t4 t5)])
def qyq:List PV→Tr PV|[.agg [.int .i64 t,.str t2,.int .i64 t3,.int .i64 t4,.str t5]]=>.ite (qbY t t2 t3 t4 t5) (.ret (.tup [.str (qaV t t2 t3 t4 t5),.int .i64 (qcR t t2 t3 t4 t5)])) (.fail)|_=>.fail
theorem qzI (gl:Gl):SimP Tryz.prog gl 13 fun args=>(qyq args).run:=by
 refine SimP.of_flat (G:=qBZ) (L:=qIU) qat (qL4 gl ) qah  Tryz.func13 rfl (by rfl) (by kernel_rfl) (qae (by kernel_rfl)) ?_
 intro args x h;unfold qyq at h
 split at h
 ·exact (congrArg Tr.run (qQ9 _ _ _ _ _)).trans (qai h fun h=>by cases h)
 ·cases h
def qun:GamT:=ofL [(13,.pure qyq),(19,.pure qtY),(48,.pure qnh),(qdX,.hint [(4,0,1,9)])]
theorem qA8 (gl:Gl):qaU Tryz.prog gl (gam qun):=(qac (qzI gl) (qac (qvP gl) (qac (qk6 gl) (qbv (K:=.hint [(4,0,1,9)]) trivial qag))))
def qrl:Code:=qdT Tryz.f15 5
def qrQ:LI:=⟨42,[1,4,5],fun e=>match e with|.ret=>[2,3]|.exit 0=>[1,4]|_=>[],true⟩
def qvA:LpsT:=fun r fr σ=>.fail
def qeS (vs:List PV) (σ:Store):Option (PExit×List PV×Store):=lval (lstep tbT qun qvA qrl qrQ) vs σ
def qlp (l:qR) (i:Int) (s:qU) (r:qR) (k:Nat):Tr LR:=.ite (iLt i (xLen r)) (.ite (qav i) (.ite (qa3 [.int .i64 0,.str [],.int .i64 0,.int .i64 0,.str []] r (nNat i)) (.ite (qbY (xInt r (nNat i) 0) (xStr r (nNat i) 1) (xInt r (nNat i) 2) (xInt r (nNat i) 3) (xStr r (nNat i) 4)) (.ite (iNe (qcR (xInt r (nNat i) 0) (xStr r (nNat i) 1) (xInt r (nNat i) 2) (xInt r (nNat i) 3) (xStr r (nNat i) 4)) 0) (.ret (.out .ret [.str [],.int .i64 (qcR (xInt r (nNat i) 0) (xStr r (nNat i) 1) (xInt r (nNat i) 2) (xInt r (nNat i) 3) (xStr r (nNat i) 4))] (Store.mk [[.str s,.sl r .non]] [(k,1,9)] [31]))) (.ite (qaI l [[.str (qaV (xInt r (nNat i) 0) (xStr r (nNat i) 1) (xInt r (nNat i) 2) (xInt r (nNat i) 3) (xStr r (nNat i) 4))]] 16) (.ite (qaH [[.str (qaV (xInt r (nNat i) 0) (xStr r (nNat i) 1) (xInt r (nNat i) 2) (xInt r (nNat i) 3) (xStr r (nNat i) 4))]] 1) (.ite (qaB l 1) (.ite (nEq k (nXs l)) (.ret (.next [.ptr 0 0,.sl (xApp l [[.str (qaV (xInt r (nNat i) 0) (xStr r (nNat i) 1) (xInt r (nNat i) 2) (xInt r (nNat i) 3) (xStr r (nNat i) 4))]]) (.tok 0),.int .i64 (iAdd .i64 i 1)] (Store.mk [[.str s,.sl r .non]] [(nXs (xApp l [[.str (qaV (xInt r (nNat i) 0) (xStr r (nNat i) 1) (xInt r (nNat i) 2) (xInt r (nNat i) 3) (xStr r (nNat i) 4))]]),1,9)] [31]))) .fail) .fail) .fail) .fail)) .fail) .fail) .fail) (.ret (.out (.exit 0) [.ptr 0 0,.sl l (.tok 0)] (Store.mk [[.str s,.sl r .non]] [(k,1,9)] [31])))
theorem qNC (l:qR) (i:Int) (s:qU) (r:qR) (k:Nat):lstep tbT qun qvA qrl qrQ [.ptr 0 0,.sl l (.tok 0),.int .i64 i] ⟨[[.str s,.sl r .non]],[(k,1,9)],[31]⟩=qlp l i s r k:=by kernel_rfl
theorem qxL (l:qR) (i:Int) (s:qU) (r:qR) (k:Nat):qeS [.ptr 0 0,.sl l (.tok 0),.int .i64 i] ⟨[[.str s,.sl r .non]],[(k,1,9)],[31]⟩=lnext qeS (qlp l i s r k).run:=by unfold qeS;rw [qbu,qNC]
def qeC (l:qR) (i:Int) (s:qU) (r:qR) (k:Nat):Option (PExit×List PV×Store):=qeS [.ptr 0 0,.sl l (.tok 0),.int .i64 i] ⟨[[.str s,.sl r .non]],[(k,1,9)],[31]⟩
def qi5 (l:qR) (i:Int) (s:qU) (r:qR) (k:Nat):List UInt8:=(gStr (gOut (qeC l i s r k) 0))
def qiD (l:qR) (i:Int) (s:qU) (r:qR) (k:Nat):Int:=(gInt (gOut (qeC l i s r k) 1))
def qjm (l:qR) (i:Int) (s:qU) (r:qR) (k:Nat):List UInt8:=(gStr (gAt (gObj (qeC l i s r k) 0) 0))
def qlP (l:qR) (i:Int) (s:qU) (r:qR) (k:Nat):List (List PV):=(gRow (gAt (gObj (qeC l i s r k) 0) 1))
def qlN (l:qR) (i:Int) (s:qU) (r:qR) (k:Nat):Nat:=(gTok (qeC l i s r k) 0)
def ql4 (l:qR) (i:Int) (s:qU) (r:qR) (k:Nat):Bool:=isW (qeC l i s r k) (.ret,[.str (qi5 l i s r k),.int .i64 (qiD l i s r k)],⟨[[.str (qjm l i s r k),.sl (qlP l i s r k) .non]],[((qlN l i s r k),1,9)],[31]⟩)
def qfa (l:qR) (i:Int) (s:qU) (r:qR) (k:Nat):List (List PV):=(gRow (gOut (qeC l i s r k) 1))
def qe9 (l:qR) (i:Int) (s:qU) (r:qR) (k:Nat):List UInt8:=(gStr (gAt (gObj (qeC l i s r k) 0) 0))
def qmK (l:qR) (i:Int) (s:qU) (r:qR) (k:Nat):List (List PV):=(gRow (gAt (gObj (qeC l i s r k) 0) 1))
def qmc (l:qR) (i:Int) (s:qU) (r:qR) (k:Nat):Nat:=(gTok (qeC l i s r k) 0)
def qlS (l:qR) (i:Int) (s:qU) (r:qR) (k:Nat):Bool:=isW (qeC l i s r k) ((.exit 0),[.ptr 0 0,.sl (qfa l i s r k) (.tok 0)],⟨[[.str (qe9 l i s r k),.sl (qmK l i s r k) .non]],[((qmc l i s r k),1,9)],[31]⟩)
def qj5:List PV→Store→Tr (PExit×List PV×Store)|[.ptr 0 0,.sl l (.tok 0),.int .i64 i],⟨[[.str s,.sl r .non]],[(k,1,9)],[31]⟩=>.ite (ql4 l i s r k) (.ret (.ret,[.str (qi5 l i s r k),.int .i64 (qiD l i s r k)],⟨[[.str (qjm l i s r k),.sl (qlP l i s r k) .non]],[((qlN l i s r k),1,9)],[31]⟩)) (.ite (qlS l i s r k) (.ret ((.exit 0),[.ptr 0 0,.sl (qfa l i s r k) (.tok 0)],⟨[[.str (qe9 l i s r k),.sl (qmK l i s r k) .non]],[((qmc l i s r k),1,9)],[31]⟩)) (.fail))|_,_=>.fail
theorem qJw:∀ vs σ r,(qj5 vs σ).run=some r→qeS vs σ=some r:=by
 intro vs σ r h;unfold qj5 at h
 split at h
 ·exact qai h fun h=>qai h fun h=>by cases h
 ·cases h
theorem qDr (gl:Gl):∀ fr σ e fr' σ',(orc qrQ qj5 fr σ).run=some (e,fr',σ')→LDoes Tryz.prog gl qrl fr σ e fr' σ':=qck qat (qA8 gl ) qah (L:=qvA) (qae (by kernel_rfl)) (by kernel_rfl) qJw
def qB5:LpsT:=fun r fr σ=>bif Nat.beq r 5 then orc qrQ qj5 fr σ else .fail
def qzc (a:qU) (a2:qR):Tr PV:=.ite (qgt a) (.ite (bNot (qkj a)) (.ret (.tup [.str [],.int .i64 140])) (.ite (ql4 [] 0 a a2 0) (.ret (.tup [.str (qi5 [] 0 a a2 0),.int .i64 (qiD [] 0 a a2 0)])) (.ite (qlS [] 0 a a2 0) (.ite (qaE (qe9 [] 0 a a2 0) [40]) (.ite (qei (qaa (qfa [] 0 a a2 0)) [44,32]) (.ite (qaE (sApp (qe9 [] 0 a a2 0) [40]) (qcC (qaa (qfa [] 0 a a2 0)) [44,32])) (.ite (qaE (sApp (sApp (qe9 [] 0 a a2 0) [40]) (qcC (qaa (qfa [] 0 a a2 0)) [44,32])) [41]) (.ret (.tup [.str (sApp (sApp (sApp (qe9 [] 0 a a2 0) [40]) (qcC (qaa (qfa [] 0 a a2 0)) [44,32])) [41]),.int .i64 0])) .fail) .fail) .fail) .fail) .fail))) .fail
theorem qRH (a:qU) (a2:qR):(tcall tbT qun qB5 Tryz.f15 [.agg [.str a,.sl a2 .non]]).flat=qzc a a2:=by kernel_rfl
def qvo (a:qU) (a2:qR):Option PV:=(qzc a a2).run
def qbB (a:qU) (a2:qR):List UInt8:=(gStr (gAt (gCs (gVal (qvo a a2))) 0))
def qdP (a:qU) (a2:qR):Int:=(gInt (gAt (gCs (gVal (qvo a a2))) 1))
def qfx (a:qU) (a2:qR):Bool:=isW (qvo a a2) (.tup [.str (qbB a a2),.int .i64 (qdP a a2)])
def qvN:List PV→Tr PV|[.agg [.str a,.sl a2 .non]]=>.ite (qfx a a2) (.ret (.tup [.str (qbB a a2),.int .i64 (qdP a a2)])) (.fail)|_=>.fail
theorem qty (gl:Gl):SimP Tryz.prog gl 15 fun args=>(qvN args).run:=by
 refine SimP.of_flat (G:=qun) (L:=qB5) qat (qA8 gl ) qah  Tryz.func15 rfl (by rfl) (by kernel_rfl) (qaX (L:=lps qB5) [(5,qrl)] (by kernel_rfl) (List.forall_mem_cons.2 ⟨fun fr σ e fr' σ' h=>qDr gl  fr σ e fr' σ' h,(List.forall_mem_nil _)⟩)) ?_
 intro args x h;unfold qvN at h
 split at h
 ·exact (congrArg Tr.run (qRH _ _)).trans (qai h fun h=>by cases h)
 ·cases h
def qov:GamT:=ofL []
theorem qwu (gl:Gl):qaU Tryz.prog gl (gam qov):=qag
def qoQ:Code:=qdT Tryz.f51 4
def qoV:LI:=⟨38,[2,3,5],fun e=>match e with|.ret=>[4]|.exit 0=>[]|_=>[],true⟩
def qqG:LpsT:=fun r fr σ=>.fail
def qeu (vs:List PV) (σ:Store):Option (PExit×List PV×Store):=lval (lstep tbT qov qqG qoQ qoV) vs σ
def qiP (i:Int) (s:qU) (r:qR) (s2:qU) (r2:qR):Tr LR:=.ite (iLt i (xLen r)) (.ite (qav i) (.ite (qa3 [.int .i64 0,.str [],.int .i64 0,.int .i64 0,.str []] r (nNat i)) (.ite (qav i) (.ite (qa3 [.int .i64 0,.str [],.int .i64 0,.int .i64 0,.str []] r2 (nNat i)) (.ite (bNot (bAnd (iEq (xInt r (nNat i) 0) (xInt r2 (nNat i) 0)) (bAnd (sEq (xStr r (nNat i) 1) (xStr r2 (nNat i) 1)) (bAnd (bAnd (iEq (xInt r (nNat i) 2) (xInt r2 (nNat i) 2)) (bAnd (iEq (xInt r (nNat i) 3) (xInt r2 (nNat i) 3)) (bAnd (sEq (xStr r (nNat i) 4) (xStr r2 (nNat i) 4)) true))) true)))) (.ret (.out .ret [.bool false] (Store.mk [[.str s,.sl r .non],[.str s2,.sl r2 .non]] [] [31,31]))) (.ret (.next [.ptr 0 0,.ptr 1 0,.int .i64 (iAdd .i64 i 1)] (Store.mk [[.str s,.sl r .non],[.str s2,.sl r2 .non]] [] [31,31])))) .fail) .fail) .fail) .fail) (.ret (.out (.exit 0) [] (Store.mk [[.str s,.sl r .non],[.str s2,.sl r2 .non]] [] [31,31])))
theorem qLA (i:Int) (s:qU) (r:qR) (s2:qU) (r2:qR):lstep tbT qov qqG qoQ qoV [.ptr 0 0,.ptr 1 0,.int .i64 i] ⟨[[.str s,.sl r .non],[.str s2,.sl r2 .non]],[],[31,31]⟩=qiP i s r s2 r2:=by kernel_rfl
theorem qu7 (i:Int) (s:qU) (r:qR) (s2:qU) (r2:qR):qeu [.ptr 0 0,.ptr 1 0,.int .i64 i] ⟨[[.str s,.sl r .non],[.str s2,.sl r2 .non]],[],[31,31]⟩=lnext qeu (qiP i s r s2 r2).run:=by unfold qeu;rw [qbu,qLA]
def qdA (i:Int) (s:qU) (r:qR) (s2:qU) (r2:qR):Option (PExit×List PV×Store):=qeu [.ptr 0 0,.ptr 1 0,.int .i64 i] ⟨[[.str s,.sl r .non],[.str s2,.sl r2 .non]],[],[31,31]⟩
def qhc (i:Int) (s:qU) (r:qR) (s2:qU) (r2:qR):Bool:=(qcb (gOut (qdA i s r s2 r2) 0))
def qjc (i:Int) (s:qU) (r:qR) (s2:qU) (r2:qR):List UInt8:=(gStr (gAt (gObj (qdA i s r s2 r2) 0) 0))
def qjw (i:Int) (s:qU) (r:qR) (s2:qU) (r2:qR):List (List PV):=(gRow (gAt (gObj (qdA i s r s2 r2) 0) 1))
def qh1 (i:Int) (s:qU) (r:qR) (s2:qU) (r2:qR):List UInt8:=(gStr (gAt (gObj (qdA i s r s2 r2) 1) 0))
def qh8 (i:Int) (s:qU) (r:qR) (s2:qU) (r2:qR):List (List PV):=(gRow (gAt (gObj (qdA i s r s2 r2) 1) 1))
def qkb (i:Int) (s:qU) (r:qR) (s2:qU) (r2:qR):Bool:=isW (qdA i s r s2 r2) (.ret,[.bool (qhc i s r s2 r2)],⟨[[.str (qjc i s r s2 r2),.sl (qjw i s r s2 r2) .non],[.str (qh1 i s r s2 r2),.sl (qh8 i s r s2 r2) .non]],[],[31,31]⟩)
def qka (i:Int) (s:qU) (r:qR) (s2:qU) (r2:qR):List UInt8:=(gStr (gAt (gObj (qdA i s r s2 r2) 0) 0))
def qjW (i:Int) (s:qU) (r:qR) (s2:qU) (r2:qR):List (List PV):=(gRow (gAt (gObj (qdA i s r s2 r2) 0) 1))
def qim (i:Int) (s:qU) (r:qR) (s2:qU) (r2:qR):List UInt8:=(gStr (gAt (gObj (qdA i s r s2 r2) 1) 0))
def qib (i:Int) (s:qU) (r:qR) (s2:qU) (r2:qR):List (List PV):=(gRow (gAt (gObj (qdA i s r s2 r2) 1) 1))
def qj7 (i:Int) (s:qU) (r:qR) (s2:qU) (r2:qR):Bool:=isW (qdA i s r s2 r2) ((.exit 0),[],⟨[[.str (qka i s r s2 r2),.sl (qjW i s r s2 r2) .non],[.str (qim i s r s2 r2),.sl (qib i s r s2 r2) .non]],[],[31,31]⟩)
def qh5:List PV→Store→Tr (PExit×List PV×Store)|[.ptr 0 0,.ptr 1 0,.int .i64 i],⟨[[.str s,.sl r .non],[.str s2,.sl r2 .non]],[],[31,31]⟩=>.ite (qkb i s r s2 r2) (.ret (.ret,[.bool (qhc i s r s2 r2)],⟨[[.str (qjc i s r s2 r2),.sl (qjw i s r s2 r2) .non],[.str (qh1 i s r s2 r2),.sl (qh8 i s r s2 r2) .non]],[],[31,31]⟩)) (.ite (qj7 i s r s2 r2) (.ret ((.exit 0),[],⟨[[.str (qka i s r s2 r2),.sl (qjW i s r s2 r2) .non],[.str (qim i s r s2 r2),.sl (qib i s r s2 r2) .non]],[],[31,31]⟩)) (.fail))|_,_=>.fail
theorem qGe:∀ vs σ r,(qh5 vs σ).run=some r→qeu vs σ=some r:=by
 intro vs σ r h;unfold qh5 at h
 split at h
 ·exact qai h fun h=>qai h fun h=>by cases h
 ·cases h
theorem qA3 (gl:Gl):∀ fr σ e fr' σ',(orc qoV qh5 fr σ).run=some (e,fr',σ')→LDoes Tryz.prog gl qoQ fr σ e fr' σ':=qck qat (qwu gl ) qah (L:=qqG) (qae (by kernel_rfl)) (by kernel_rfl) qGe
def qxD:LpsT:=fun r fr σ=>bif Nat.beq r 4 then orc qoV qh5 fr σ else .fail
def qtD (a:qU) (a2:qR) (b:qU) (b2:qR):Tr PV:=.ite (sNe a b) (.ret (.bool false)) (.ite (iNe (xLen a2) (xLen b2)) (.ret (.bool false)) (.ite (qkb 0 a a2 b b2) (.ret (.bool (qhc 0 a a2 b b2))) (.ite (qj7 0 a a2 b b2) (.ret (.bool true)) .fail)))
theorem qMW (a:qU) (a2:qR) (b:qU) (b2:qR):(tcall tbT qov qxD Tryz.f51 [.agg [.str a,.sl a2 .non],.agg [.str b,.sl b2 .non]]).flat=qtD a a2 b b2:=by kernel_rfl
def qsn (a:qU) (a2:qR) (b:qU) (b2:qR):Option PV:=(qtD a a2 b b2).run
def qeG (a:qU) (a2:qR) (b:qU) (b2:qR):Bool:=(qcb (gVal (qsn a a2 b b2)))
def qcS (a:qU) (a2:qR) (b:qU) (b2:qR):Bool:=isW (qsn a a2 b b2) (.bool (qeG a a2 b b2))
def qyw:List PV→Tr PV|[.agg [.str a,.sl a2 .non],.agg [.str b,.sl b2 .non]]=>.ite (qcS a a2 b b2) (.ret (.bool (qeG a a2 b b2))) (.fail)|_=>.fail
theorem qGn (gl:Gl):SimP Tryz.prog gl 51 fun args=>(qyw args).run:=by
 refine SimP.of_flat (G:=qov) (L:=qxD) qat (qwu gl ) qah  Tryz.func51 rfl (by rfl) (by kernel_rfl) (qaX (L:=lps qxD) [(4,qoQ)] (by kernel_rfl) (List.forall_mem_cons.2 ⟨fun fr σ e fr' σ' h=>qA3 gl  fr σ e fr' σ' h,(List.forall_mem_nil _)⟩)) ?_
 intro args x h;unfold qyw at h
 split at h
 ·exact (congrArg Tr.run (qMW _ _ _ _)).trans (qai h fun h=>by cases h)
 ·cases h
def qPU:GamT:=ofL []
theorem qPx (gl:Gl):qaU Tryz.prog gl (gam qPU):=qag
def qST:LpsT:=fun r fr σ=>.fail
def qIc (c:Int):Tr PV:=.ite (iEq c 1) (.ret (.str [61])) (.ite (iEq c 2) (.ret (.str [33,61])) (.ite (iEq c 3) (.ret (.str [60])) (.ite (iEq c 4) (.ret (.str [60,61])) (.ite (iEq c 5) (.ret (.str [62])) (.ite (iEq c 6) (.ret (.str [62,61])) (.ret (.str [])))))))
theorem qUc (c:Int):(tcall tbT qPU qST Tryz.f50 [.int .i64 c]).flat=qIc c:=by kernel_rfl
def qMX (c:Int):Option PV:=(qIc c).run
def qde (c:Int):List UInt8:=(gStr (gVal (qMX c)))
def qdR (c:Int):Bool:=isW (qMX c) (.str (qde c))
def qPI:List PV→Tr PV|[.int .i64 c]=>.ite (qdR c) (.ret (.str (qde c))) (.fail)|_=>.fail
theorem qQq (gl:Gl):SimP Tryz.prog gl 50 fun args=>(qPI args).run:=by
 refine SimP.of_flat (G:=qPU) (L:=qST) qat (qPx gl ) qah  Tryz.func50 rfl (by rfl) (by kernel_rfl) (qae (by kernel_rfl)) ?_
 intro args x h;unfold qPI at h
 split at h
 ·exact (congrArg Tr.run (qUc _)).trans (qai h fun h=>by cases h)
 ·cases h
def qqy:GamT:=ofL [(13,.pure qyq),(15,.pure qvN),(50,.pure qPI),(51,.pure qyw)]
theorem qzJ (gl:Gl):qaU Tryz.prog gl (gam qqy):=(qac (qzI gl) (qac (qty gl) (qac (qQq gl) (qac (qGn gl) qag))))
def qwD:LpsT:=fun r fr σ=>.fail
def qn7 (v:Int) (v2:qU) (v3:qR) (v4:Int) (v5:Int) (v6:qU) (v7:Int) (v8:Int) (v9:qU) (v10:Int) (v11:qU) (v12:Int) (v13:Int) (v14:qU):Tr PV:=.ite (iEq v 1) (.ite (iEq v4 0) (.ite (bAnd (iEq v5 0) (bAnd (sEq v6 []) (bAnd (bAnd (iEq v7 0) (bAnd (iEq v8 0) (bAnd (sEq v9 []) true))) true))) (.ite (bAnd (iEq v10 0) (bAnd (sEq v11 []) (bAnd (bAnd (iEq v12 0) (bAnd (iEq v13 0) (bAnd (sEq v14 []) true))) true))) (.ite (qfx v2 (qaa v3)) (.ite (iEq (qdP v2 (qaa v3)) 0) (.ite (iEq v 2) (.ite (qaE [110,111,116,32] (qbB v2 (qaa v3))) (.ret (.tup [.str (sApp [110,111,116,32] (qbB v2 (qaa v3))),.int .i64 (qdP v2 (qaa v3))])) .fail) (.ret (.tup [.str (qbB v2 (qaa v3)),.int .i64 (qdP v2 (qaa v3))]))) (.ret (.tup [.str (qbB v2 (qaa v3)),.int .i64 (qdP v2 (qaa v3))]))) .fail) (.ite (iEq v 3) (.ite (qdR v4) (.ite (sNe (qde v4) []) (.ite (qcS v2 (qaa v3) [] []) (.ite (qeG v2 (qaa v3) [] []) (.ite (qbY v5 v6 v7 v8 v9) (.ite (qbY v10 v11 v12 v13 v14) (.ite (iEq (qcR v5 v6 v7 v8 v9) 0) (.ite (iEq (qcR v10 v11 v12 v13 v14) 0) (.ite (qaE (qaV v5 v6 v7 v8 v9) [32]) (.ite (qdR v4) (.ite (qaE (sApp (qaV v5 v6 v7 v8 v9) [32]) (qde v4)) (.ite (qaE (sApp (sApp (qaV v5 v6 v7 v8 v9) [32]) (qde v4)) [32]) (.ite (qaE (sApp (sApp (sApp (qaV v5 v6 v7 v8 v9) [32]) (qde v4)) [32]) (qaV v10 v11 v12 v13 v14)) (.ret (.tup [.str (sApp (sApp (sApp (sApp (qaV v5 v6 v7 v8 v9) [32]) (qde v4)) [32]) (qaV v10 v11 v12 v13 v14)),.int .i64 0])) .fail) .fail) .fail) .fail) .fail) (.ret (.tup [.str [],.int .i64 140]))) (.ret (.tup [.str [],.int .i64 140]))) .fail) .fail) (.ret (.tup [.str [],.int .i64 140]))) .fail) (.ret (.tup [.str [],.int .i64 140]))) .fail) (.ret (.tup [.str [],.int .i64 140])))) (.ite (iEq v 3) (.ite (qdR v4) (.ite (sNe (qde v4) [])
 (.ite (qcS v2 (qaa v3) [] []) (.ite (qeG v2 (qaa v3) [] []) (.ite (qbY v5 v6 v7 v8 v9) (.ite (qbY v10 v11 v12 v13 v14) (.ite (iEq (qcR v5 v6 v7 v8 v9) 0) (.ite (iEq (qcR v10 v11 v12 v13 v14) 0) (.ite (qaE (qaV v5 v6 v7 v8 v9) [32]) (.ite (qdR v4) (.ite (qaE (sApp (qaV v5 v6 v7 v8 v9) [32]) (qde v4)) (.ite (qaE (sApp (sApp (qaV v5 v6 v7 v8 v9) [32]) (qde v4)) [32]) (.ite (qaE (sApp (sApp (sApp (qaV v5 v6 v7 v8 v9) [32]) (qde v4)) [32]) (qaV v10 v11 v12 v13 v14)) (.ret (.tup [.str (sApp (sApp (sApp (sApp (qaV v5 v6 v7 v8 v9) [32]) (qde v4)) [32]) (qaV v10 v11 v12 v13 v14)),.int .i64 0])) .fail) .fail) .fail) .fail) .fail) (.ret (.tup [.str [],.int .i64 140]))) (.ret (.tup [.str [],.int .i64 140]))) .fail) .fail) (.ret (.tup [.str [],.int .i64 140]))) .fail) (.ret (.tup [.str [],.int .i64 140]))) .fail) (.ret (.tup [.str [],.int .i64 140])))) (.ite (iEq v 3) (.ite (qdR v4) (.ite (sNe (qde v4) []) (.ite (qcS v2 (qaa v3) [] []) (.ite (qeG v2 (qaa v3) [] []) (.ite (qbY v5 v6 v7 v8 v9) (.ite (qbY v10 v11 v12 v13 v14) (.ite (iEq (qcR v5 v6 v7 v8 v9) 0) (.ite (iEq (qcR v10 v11 v12 v13 v14) 0) (.ite (qaE (qaV v5 v6 v7 v8 v9) [32]) (.ite (qdR v4) (.ite (qaE (sApp (qaV v5 v6 v7 v8 v9) [32]) (qde v4)) (.ite (qaE (sApp (sApp (qaV v5 v6 v7 v8 v9) [32]) (qde v4)) [32]) (.ite (qaE (sApp (sApp (sApp (qaV v5 v6 v7 v8 v9) [32]) (qde v4)) [32]) (qaV v10 v11 v12 v13 v14)) (.ret (.tup [.str (sApp (sApp (sApp (sApp (qaV v5 v6 v7 v8 v9) [32]) (qde v4)) [32]) (qaV v10 v11 v12 v13 v14)),.int .i64 0])) .fail) .fail) .fail) .fail) .fail) (.ret (.tup [.str [],.int .i64 140]))) (.ret (.tup [.str [],.int .i64 140]))) .fail) .fail) (.ret (.tup [.str [],.int .i64 140]))) .fail) (.ret (.tup [.str [],.int .i64 140]))) .fail) (.ret (.tup [.str [],.int .i64 140])))) (.ite (iEq v 2) (.ite (iEq v4 0)
 (.ite (bAnd (iEq v5 0) (bAnd (sEq v6 []) (bAnd (bAnd (iEq v7 0) (bAnd (iEq v8 0) (bAnd (sEq v9 []) true))) true))) (.ite (bAnd (iEq v10 0) (bAnd (sEq v11 []) (bAnd (bAnd (iEq v12 0) (bAnd (iEq v13 0) (bAnd (sEq v14 []) true))) true))) (.ite (qfx v2 (qaa v3)) (.ite (iEq (qdP v2 (qaa v3)) 0) (.ite (iEq v 2) (.ite (qaE [110,111,116,32] (qbB v2 (qaa v3))) (.ret (.tup [.str (sApp [110,111,116,32] (qbB v2 (qaa v3))),.int .i64 (qdP v2 (qaa v3))])) .fail) (.ret (.tup [.str (qbB v2 (qaa v3)),.int .i64 (qdP v2 (qaa v3))]))) (.ret (.tup [.str (qbB v2 (qaa v3)),.int .i64 (qdP v2 (qaa v3))]))) .fail) (.ite (iEq v 3) (.ite (qdR v4) (.ite (sNe (qde v4) []) (.ite (qcS v2 (qaa v3) [] []) (.ite (qeG v2 (qaa v3) [] []) (.ite (qbY v5 v6 v7 v8 v9) (.ite (qbY v10 v11 v12 v13 v14) (.ite (iEq (qcR v5 v6 v7 v8 v9) 0) (.ite (iEq (qcR v10 v11 v12 v13 v14) 0) (.ite (qaE (qaV v5 v6 v7 v8 v9) [32]) (.ite (qdR v4) (.ite (qaE (sApp (qaV v5 v6 v7 v8 v9) [32]) (qde v4)) (.ite (qaE (sApp (sApp (qaV v5 v6 v7 v8 v9) [32]) (qde v4)) [32]) (.ite (qaE (sApp (sApp (sApp (qaV v5 v6 v7 v8 v9) [32]) (qde v4)) [32]) (qaV v10 v11 v12 v13 v14)) (.ret (.tup [.str (sApp (sApp (sApp (sApp (qaV v5 v6 v7 v8 v9) [32]) (qde v4)) [32]) (qaV v10 v11 v12 v13 v14)),.int .i64 0])) .fail) .fail) .fail) .fail) .fail) (.ret (.tup [.str [],.int .i64 140]))) (.ret (.tup [.str [],.int .i64 140]))) .fail) .fail) (.ret (.tup [.str [],.int .i64 140]))) .fail) (.ret (.tup [.str [],.int .i64 140]))) .fail) (.ret (.tup [.str [],.int .i64 140])))) (.ite (iEq v 3) (.ite (qdR v4) (.ite (sNe (qde v4) []) (.ite (qcS v2 (qaa v3) [] []) (.ite (qeG v2 (qaa v3) [] []) (.ite (qbY v5 v6 v7 v8 v9) (.ite (qbY v10 v11 v12 v13 v14) (.ite (iEq (qcR v5 v6 v7 v8 v9) 0) (.ite (iEq (qcR v10 v11 v12 v13 v14) 0) (.ite (qaE (qaV v5 v6 v7 v8 v9) [32])
 (.ite (qdR v4) (.ite (qaE (sApp (qaV v5 v6 v7 v8 v9) [32]) (qde v4)) (.ite (qaE (sApp (sApp (qaV v5 v6 v7 v8 v9) [32]) (qde v4)) [32]) (.ite (qaE (sApp (sApp (sApp (qaV v5 v6 v7 v8 v9) [32]) (qde v4)) [32]) (qaV v10 v11 v12 v13 v14)) (.ret (.tup [.str (sApp (sApp (sApp (sApp (qaV v5 v6 v7 v8 v9) [32]) (qde v4)) [32]) (qaV v10 v11 v12 v13 v14)),.int .i64 0])) .fail) .fail) .fail) .fail) .fail) (.ret (.tup [.str [],.int .i64 140]))) (.ret (.tup [.str [],.int .i64 140]))) .fail) .fail) (.ret (.tup [.str [],.int .i64 140]))) .fail) (.ret (.tup [.str [],.int .i64 140]))) .fail) (.ret (.tup [.str [],.int .i64 140])))) (.ite (iEq v 3) (.ite (qdR v4) (.ite (sNe (qde v4) []) (.ite (qcS v2 (qaa v3) [] []) (.ite (qeG v2 (qaa v3) [] []) (.ite (qbY v5 v6 v7 v8 v9) (.ite (qbY v10 v11 v12 v13 v14) (.ite (iEq (qcR v5 v6 v7 v8 v9) 0) (.ite (iEq (qcR v10 v11 v12 v13 v14) 0) (.ite (qaE (qaV v5 v6 v7 v8 v9) [32]) (.ite (qdR v4) (.ite (qaE (sApp (qaV v5 v6 v7 v8 v9) [32]) (qde v4)) (.ite (qaE (sApp (sApp (qaV v5 v6 v7 v8 v9) [32]) (qde v4)) [32]) (.ite (qaE (sApp (sApp (sApp (qaV v5 v6 v7 v8 v9) [32]) (qde v4)) [32]) (qaV v10 v11 v12 v13 v14)) (.ret (.tup [.str (sApp (sApp (sApp (sApp (qaV v5 v6 v7 v8 v9) [32]) (qde v4)) [32]) (qaV v10 v11 v12 v13 v14)),.int .i64 0])) .fail) .fail) .fail) .fail) .fail) (.ret (.tup [.str [],.int .i64 140]))) (.ret (.tup [.str [],.int .i64 140]))) .fail) .fail) (.ret (.tup [.str [],.int .i64 140]))) .fail) (.ret (.tup [.str [],.int .i64 140]))) .fail) (.ret (.tup [.str [],.int .i64 140])))) (.ite (iEq v 3) (.ite (qdR v4) (.ite (sNe (qde v4) []) (.ite (qcS v2 (qaa v3) [] []) (.ite (qeG v2 (qaa v3) [] []) (.ite (qbY v5 v6 v7 v8 v9) (.ite (qbY v10 v11 v12 v13 v14) (.ite (iEq (qcR v5 v6 v7 v8 v9) 0) (.ite (iEq (qcR v10 v11 v12 v13 v14) 0) (.ite (qaE (qaV v5 v6 v7 v8 v9) [32])
 (.ite (qdR v4) (.ite (qaE (sApp (qaV v5 v6 v7 v8 v9) [32]) (qde v4)) (.ite (qaE (sApp (sApp (qaV v5 v6 v7 v8 v9) [32]) (qde v4)) [32]) (.ite (qaE (sApp (sApp (sApp (qaV v5 v6 v7 v8 v9) [32]) (qde v4)) [32]) (qaV v10 v11 v12 v13 v14)) (.ret (.tup [.str (sApp (sApp (sApp (sApp (qaV v5 v6 v7 v8 v9) [32]) (qde v4)) [32]) (qaV v10 v11 v12 v13 v14)),.int .i64 0])) .fail) .fail) .fail) .fail) .fail) (.ret (.tup [.str [],.int .i64 140]))) (.ret (.tup [.str [],.int .i64 140]))) .fail) .fail) (.ret (.tup [.str [],.int .i64 140]))) .fail) (.ret (.tup [.str [],.int .i64 140]))) .fail) (.ret (.tup [.str [],.int .i64 140]))))
theorem qGT (v:Int) (v2:qU) (v3:qR) (v4:Int) (v5:Int) (v6:qU) (v7:Int) (v8:Int) (v9:qU) (v10:Int) (v11:qU) (v12:Int) (v13:Int) (v14:qU):(tcall tbT qqy qwD Tryz.f17 [.agg [.int .i64 v,.str v2,.sl v3 .non,.int .i64 v4,.int .i64 v5,.str v6,.int .i64 v7,.int .i64 v8,.str v9,.int .i64 v10,.str v11,.int .i64 v12,.int .i64 v13,.str v14]]).flat=qn7 v v2 v3 v4 v5 v6 v7 v8 v9 v10 v11 v12 v13 v14:=by kernel_rfl
def qiK (v:Int) (v2:qU) (v3:qR) (v4:Int) (v5:Int) (v6:qU) (v7:Int) (v8:Int) (v9:qU) (v10:Int) (v11:qU) (v12:Int) (v13:Int) (v14:qU):Option PV:=(qn7 v v2 v3 v4 v5 v6 v7 v8 v9 v10 v11 v12 v13 v14).run
def qdF (v:Int) (v2:qU) (v3:qR) (v4:Int) (v5:Int) (v6:qU) (v7:Int) (v8:Int) (v9:qU) (v10:Int) (v11:qU) (v12:Int) (v13:Int) (v14:qU):List UInt8:=(gStr (gAt (gCs (gVal (qiK v v2 v3 v4 v5 v6 v7 v8 v9 v10 v11 v12 v13 v14))) 0))
def qe6 (v:Int) (v2:qU) (v3:qR) (v4:Int) (v5:Int) (v6:qU) (v7:Int) (v8:Int) (v9:qU) (v10:Int) (v11:qU) (v12:Int) (v13:Int) (v14:qU):Int:=(gInt (gAt (gCs (gVal (qiK v v2 v3 v4 v5 v6 v7 v8 v9 v10 v11 v12 v13 v14))) 1))
def qfe (v:Int) (v2:qU) (v3:qR) (v4:Int) (v5:Int) (v6:qU) (v7:Int) (v8:Int) (v9:qU) (v10:Int) (v11:qU) (v12:Int) (v13:Int) (v14:qU):Bool:=isW (qiK v v2 v3 v4 v5 v6 v7 v8 v9 v10 v11 v12 v13 v14) (.tup [.str (qdF v v2 v3 v4 v5 v6 v7 v8 v9 v10 v11 v12 v13 v14),.int .i64 (qe6 v v2 v3 v4 v5 v6 v7 v8 v9 v10 v11 v12 v13 v14)])
def qqB:List PV→Tr PV|[.agg [.int .i64 v,.str v2,.sl v3 .non,.int .i64 v4,.int .i64 v5,.str v6,.int .i64 v7,.int .i64 v8,.str v9,.int .i64 v10,.str v11,.int .i64 v12,.int .i64 v13,.str v14]]=>.ite (qfe v v2 v3 v4 v5 v6 v7 v8 v9 v10 v11 v12 v13 v14) (.ret (.tup [.str (qdF v v2 v3 v4 v5 v6 v7 v8 v9 v10 v11 v12 v13 v14),.int .i64 (qe6 v v2 v3 v4 v5 v6 v7 v8 v9 v10 v11 v12 v13 v14)])) (.fail)|_=>.fail
theorem qzD (gl:Gl):SimP Tryz.prog gl 17 fun args=>(qqB args).run:=by
 refine SimP.of_flat (G:=qqy) (L:=qwD) qat (qzJ gl ) qah  Tryz.func17 rfl (by rfl) (by kernel_rfl) (qae (by kernel_rfl)) ?_
 intro args x h;unfold qqB at h
 split at h
 ·exact (congrArg Tr.run (qGT _ _ _ _ _ _ _ _ _ _ _ _ _ _)).trans (qai h fun h=>by cases h)
 ·cases h
def quV:GamT:=ofL [(15,.pure qvN),(17,.pure qqB),(48,.pure qnh),(qdX,.hint [(6,0,1,9)])]
theorem qAg (gl:Gl):qaU Tryz.prog gl (gam quV):=(qac (qty gl) (qac (qzD gl) (qac (qk6 gl) (qbv (K:=.hint [(6,0,1,9)]) trivial qag))))
def qsl:Code:=qdT Tryz.f27 6
def qrS:LI:=⟨52,[1,4,6,7],fun e=>match e with|.ret=>[2,3]|.exit 0=>[4,6]|_=>[],true⟩
def quw:LpsT:=fun r fr σ=>.fail
def qeP (vs:List PV) (σ:Store):Option (PExit×List PV×Store):=lval (lstep tbT quV quw qsl qrS) vs σ
def qls (s:qU) (l:qR) (i:Int) (s2:qU) (r:qR) (r2:qR) (k:Nat):Tr LR:=.ite (iLt i (xLen r2)) (.ite (qav i) (.ite (qa3 [.int .i64 0,.str [],.sl [] .full,.int .i64 0,.int .i64 0,.str [],.int .i64 0,.int .i64 0,.str [],.int .i64 0,.str [],.int .i64 0,.int .i64 0,.str []] r2 (nNat i)) (.ite (qfe (xInt r2 (nNat i) 0) (xStr r2 (nNat i) 1) (qaa (xRow r2 (nNat i) 2)) (xInt r2 (nNat i) 3) (xInt r2 (nNat i) 4) (xStr r2 (nNat i) 5) (xInt r2 (nNat i) 6) (xInt r2 (nNat i) 7) (xStr r2 (nNat i) 8) (xInt r2 (nNat i) 9) (xStr r2 (nNat i) 10) (xInt r2 (nNat i) 11) (xInt r2 (nNat i) 12) (xStr r2 (nNat i) 13)) (.ite (iNe (qe6 (xInt r2 (nNat i) 0) (xStr r2 (nNat i) 1) (qaa (xRow r2 (nNat i) 2)) (xInt r2 (nNat i) 3) (xInt r2 (nNat i) 4) (xStr r2 (nNat i) 5) (xInt r2 (nNat i) 6) (xInt r2 (nNat i) 7) (xStr r2 (nNat i) 8) (xInt r2 (nNat i) 9) (xStr r2 (nNat i) 10) (xInt r2 (nNat i) 11) (xInt r2 (nNat i) 12) (xStr r2 (nNat i) 13)) 0) (.ret (.out .ret [.str [],.int .i64 (qe6 (xInt r2 (nNat i) 0) (xStr r2 (nNat i) 1) (qaa (xRow r2 (nNat i) 2)) (xInt r2 (nNat i) 3) (xInt r2 (nNat i) 4) (xStr r2 (nNat i) 5) (xInt r2 (nNat i) 6) (xInt r2 (nNat i) 7) (xStr r2 (nNat i) 8) (xInt r2 (nNat i) 9) (xStr r2 (nNat i) 10) (xInt r2 (nNat i) 11) (xInt r2 (nNat i) 12) (xStr r2 (nNat i) 13))] (Store.mk [[.str s2,.sl r .non,.sl r2 .non]] [(k,1,9)] [48]))) (.ite (qaI l [[.str (qdF (xInt r2 (nNat i) 0) (xStr r2 (nNat i) 1) (qaa (xRow r2 (nNat i) 2)) (xInt r2 (nNat i) 3) (xInt r2 (nNat i) 4) (xStr r2 (nNat i) 5) (xInt r2 (nNat i) 6) (xInt r2 (nNat i) 7) (xStr r2 (nNat i) 8) (xInt r2 (nNat i) 9) (xStr r2 (nNat i) 10) (xInt r2 (nNat i) 11) (xInt r2 (nNat i) 12) (xStr r2 (nNat i) 13))]] 16) (.ite (qaH [[.str (qdF (xInt r2 (nNat i) 0) (xStr r2 (nNat i) 1) (qaa (xRow r2 (nNat i) 2)) (xInt r2 (nNat i) 3) (xInt r2 (nNat i) 4) (xStr r2 (nNat i) 5)
 (xInt r2 (nNat i) 6) (xInt r2 (nNat i) 7) (xStr r2 (nNat i) 8) (xInt r2 (nNat i) 9) (xStr r2 (nNat i) 10) (xInt r2 (nNat i) 11) (xInt r2 (nNat i) 12) (xStr r2 (nNat i) 13))]] 1) (.ite (qaB l 1) (.ite (nEq k (nXs l)) (.ret (.next [.ptr 0 0,.str s,.sl (xApp l [[.str (qdF (xInt r2 (nNat i) 0) (xStr r2 (nNat i) 1) (qaa (xRow r2 (nNat i) 2)) (xInt r2 (nNat i) 3) (xInt r2 (nNat i) 4) (xStr r2 (nNat i) 5) (xInt r2 (nNat i) 6) (xInt r2 (nNat i) 7) (xStr r2 (nNat i) 8) (xInt r2 (nNat i) 9) (xStr r2 (nNat i) 10) (xInt r2 (nNat i) 11) (xInt r2 (nNat i) 12) (xStr r2 (nNat i) 13))]]) (.tok 0),.int .i64 (iAdd .i64 i 1)] (Store.mk [[.str s2,.sl r .non,.sl r2 .non]] [(nXs (xApp l [[.str (qdF (xInt r2 (nNat i) 0) (xStr r2 (nNat i) 1) (qaa (xRow r2 (nNat i) 2)) (xInt r2 (nNat i) 3) (xInt r2 (nNat i) 4) (xStr r2 (nNat i) 5) (xInt r2 (nNat i) 6) (xInt r2 (nNat i) 7) (xStr r2 (nNat i) 8) (xInt r2 (nNat i) 9) (xStr r2 (nNat i) 10) (xInt r2 (nNat i) 11) (xInt r2 (nNat i) 12) (xStr r2 (nNat i) 13))]]),1,9)] [48]))) .fail) .fail) .fail) .fail)) .fail) .fail) .fail) (.ret (.out (.exit 0) [.str s,.sl l (.tok 0)] (Store.mk [[.str s2,.sl r .non,.sl r2 .non]] [(k,1,9)] [48])))
theorem qNw (s:qU) (l:qR) (i:Int) (s2:qU) (r:qR) (r2:qR) (k:Nat):lstep tbT quV quw qsl qrS [.ptr 0 0,.str s,.sl l (.tok 0),.int .i64 i] ⟨[[.str s2,.sl r .non,.sl r2 .non]],[(k,1,9)],[48]⟩=qls s l i s2 r r2 k:=by kernel_rfl
theorem qya (s:qU) (l:qR) (i:Int) (s2:qU) (r:qR) (r2:qR) (k:Nat):qeP [.ptr 0 0,.str s,.sl l (.tok 0),.int .i64 i] ⟨[[.str s2,.sl r .non,.sl r2 .non]],[(k,1,9)],[48]⟩=lnext qeP (qls s l i s2 r r2 k).run:=by unfold qeP;rw [qbu,qNw]
def qc8 (s:qU) (l:qR) (i:Int) (s2:qU) (r:qR) (r2:qR) (k:Nat):Option (PExit×List PV×Store):=qeP [.ptr 0 0,.str s,.sl l (.tok 0),.int .i64 i] ⟨[[.str s2,.sl r .non,.sl r2 .non]],[(k,1,9)],[48]⟩
def qiG (s:qU) (l:qR) (i:Int) (s2:qU) (r:qR) (r2:qR) (k:Nat):List UInt8:=(gStr (gOut (qc8 s l i s2 r r2 k) 0))
def qiH (s:qU) (l:qR) (i:Int) (s2:qU) (r:qR) (r2:qR) (k:Nat):Int:=(gInt (gOut (qc8 s l i s2 r r2 k) 1))
def qjS (s:qU) (l:qR) (i:Int) (s2:qU) (r:qR) (r2:qR) (k:Nat):List UInt8:=(gStr (gAt (gObj (qc8 s l i s2 r r2 k) 0) 0))
def qmP (s:qU) (l:qR) (i:Int) (s2:qU) (r:qR) (r2:qR) (k:Nat):List (List PV):=(gRow (gAt (gObj (qc8 s l i s2 r r2 k) 0) 1))
def qjA (s:qU) (l:qR) (i:Int) (s2:qU) (r:qR) (r2:qR) (k:Nat):List (List PV):=(gRow (gAt (gObj (qc8 s l i s2 r r2 k) 0) 2))
def qmb (s:qU) (l:qR) (i:Int) (s2:qU) (r:qR) (r2:qR) (k:Nat):Nat:=(gTok (qc8 s l i s2 r r2 k) 0)
def qmq (s:qU) (l:qR) (i:Int) (s2:qU) (r:qR) (r2:qR) (k:Nat):Bool:=isW (qc8 s l i s2 r r2 k) (.ret,[.str (qiG s l i s2 r r2 k),.int .i64 (qiH s l i s2 r r2 k)],⟨[[.str (qjS s l i s2 r r2 k),.sl (qmP s l i s2 r r2 k) .non,.sl (qjA s l i s2 r r2 k) .non]],[((qmb s l i s2 r r2 k),1,9)],[48]⟩)
def qdD (s:qU) (l:qR) (i:Int) (s2:qU) (r:qR) (r2:qR) (k:Nat):List UInt8:=(gStr (gOut (qc8 s l i s2 r r2 k) 0))
def qez (s:qU) (l:qR) (i:Int) (s2:qU) (r:qR) (r2:qR) (k:Nat):List (List PV):=(gRow (gOut (qc8 s l i s2 r r2 k) 1))
def qkg (s:qU) (l:qR) (i:Int) (s2:qU) (r:qR) (r2:qR) (k:Nat):List UInt8:=(gStr (gAt (gObj (qc8 s l i s2 r r2 k) 0) 0))
def qmn (s:qU) (l:qR) (i:Int) (s2:qU) (r:qR) (r2:qR) (k:Nat):List (List PV):=(gRow (gAt (gObj (qc8 s l i s2 r r2 k) 0) 1))
def qkx (s:qU) (l:qR) (i:Int) (s2:qU) (r:qR) (r2:qR) (k:Nat):List (List PV):=(gRow (gAt (gObj (qc8 s l i s2 r r2 k) 0) 2))
def qmt (s:qU) (l:qR) (i:Int) (s2:qU) (r:qR) (r2:qR) (k:Nat):Nat:=(gTok (qc8 s l i s2 r r2 k) 0)
def qlZ (s:qU) (l:qR) (i:Int) (s2:qU) (r:qR) (r2:qR) (k:Nat):Bool:=isW (qc8 s l i s2 r r2 k) ((.exit 0),[.str (qdD s l i s2 r r2 k),.sl (qez s l i s2 r r2 k) (.tok 0)],⟨[[.str (qkg s l i s2 r r2 k),.sl (qmn s l i s2 r r2 k) .non,.sl (qkx s l i s2 r r2 k) .non]],[((qmt s l i s2 r r2 k),1,9)],[48]⟩)
def qjq:List PV→Store→Tr (PExit×List PV×Store)|[.ptr 0 0,.str s,.sl l (.tok 0),.int .i64 i],⟨[[.str s2,.sl r .non,.sl r2 .non]],[(k,1,9)],[48]⟩=>.ite (qmq s l i s2 r r2 k) (.ret (.ret,[.str (qiG s l i s2 r r2 k),.int .i64 (qiH s l i s2 r r2 k)],⟨[[.str (qjS s l i s2 r r2 k),.sl (qmP s l i s2 r r2 k) .non,.sl (qjA s l i s2 r r2 k) .non]],[((qmb s l i s2 r r2 k),1,9)],[48]⟩)) (.ite (qlZ s l i s2 r r2 k) (.ret ((.exit 0),[.str (qdD s l i s2 r r2 k),.sl (qez s l i s2 r r2 k) (.tok 0)],⟨[[.str (qkg s l i s2 r r2 k),.sl (qmn s l i s2 r r2 k) .non,.sl (qkx s l i s2 r r2 k) .non]],[((qmt s l i s2 r r2 k),1,9)],[48]⟩)) (.fail))|_,_=>.fail
theorem qI7:∀ vs σ r,(qjq vs σ).run=some r→qeP vs σ=some r:=by
 intro vs σ r h;unfold qjq at h
 split at h
 ·exact qai h fun h=>qai h fun h=>by cases h
 ·cases h
theorem qDu (gl:Gl):∀ fr σ e fr' σ',(orc qrS qjq fr σ).run=some (e,fr',σ')→LDoes Tryz.prog gl qsl fr σ e fr' σ':=qck qat (qAg gl ) qah (L:=quw) (qae (by kernel_rfl)) (by kernel_rfl) qI7
def qCb:LpsT:=fun r fr σ=>bif Nat.beq r 6 then orc qrS qjq fr σ else .fail
def qyr (r_:qU) (r_2:qR) (r_3:qR):Tr PV:=.ite (qfx r_ (qaa r_2)) (.ite (iNe (qdP r_ (qaa r_2)) 0) (.ret (.tup [.str [],.int .i64 (qdP r_ (qaa r_2))])) (.ite (qmq (qbB r_ (qaa r_2)) [] 0 r_ r_2 r_3 0) (.ret (.tup [.str (qiG (qbB r_ (qaa r_2)) [] 0 r_ r_2 r_3 0),.int .i64 (qiH (qbB r_ (qaa r_2)) [] 0 r_ r_2 r_3 0)])) (.ite (qlZ (qbB r_ (qaa r_2)) [] 0 r_ r_2 r_3 0) (.ite (iLt 0 (xLen (qez (qbB r_ (qaa r_2)) [] 0 r_ r_2 r_3 0))) (.ite (qaE (qdD (qbB r_ (qaa r_2)) [] 0 r_ r_2 r_3 0) [32,58,45,32]) (.ite (qei (qaa (qez (qbB r_ (qaa r_2)) [] 0 r_ r_2 r_3 0)) [44,32]) (.ite (qaE (sApp (qdD (qbB r_ (qaa r_2)) [] 0 r_ r_2 r_3 0) [32,58,45,32]) (qcC (qaa (qez (qbB r_ (qaa r_2)) [] 0 r_ r_2 r_3 0)) [44,32])) (.ite (qaE (sApp (sApp (qdD (qbB r_ (qaa r_2)) [] 0 r_ r_2 r_3 0) [32,58,45,32]) (qcC (qaa (qez (qbB r_ (qaa r_2)) [] 0 r_ r_2 r_3 0)) [44,32])) [46]) (.ret (.tup [.str (sApp (sApp (sApp (qdD (qbB r_ (qaa r_2)) [] 0 r_ r_2 r_3 0) [32,58,45,32]) (qcC (qaa (qez (qbB r_ (qaa r_2)) [] 0 r_ r_2 r_3 0)) [44,32])) [46]),.int .i64 0])) .fail) .fail) .fail) .fail) (.ite (qaE (qdD (qbB r_ (qaa r_2)) [] 0 r_ r_2 r_3 0) [46]) (.ret (.tup [.str (sApp (qdD (qbB r_ (qaa r_2)) [] 0 r_ r_2 r_3 0) [46]),.int .i64 0])) .fail)) .fail))) .fail
theorem qQV (r_:qU) (r_2:qR) (r_3:qR):(tcall tbT quV qCb Tryz.f27 [.agg [.str r_,.sl r_2 .non,.sl r_3 .non]]).flat=qyr r_ r_2 r_3:=by kernel_rfl
def quD (r_:qU) (r_2:qR) (r_3:qR):Option PV:=(qyr r_ r_2 r_3).run
def qiA (r_:qU) (r_2:qR) (r_3:qR):List UInt8:=(gStr (gAt (gCs (gVal (quD r_ r_2 r_3))) 0))
def qk5 (r_:qU) (r_2:qR) (r_3:qR):Int:=(gInt (gAt (gCs (gVal (quD r_ r_2 r_3))) 1))
def qiE (r_:qU) (r_2:qR) (r_3:qR):Bool:=isW (quD r_ r_2 r_3) (.tup [.str (qiA r_ r_2 r_3),.int .i64 (qk5 r_ r_2 r_3)])
def qDW:List PV→Tr PV|[.agg [.str r_,.sl r_2 .non,.sl r_3 .non]]=>.ite (qiE r_ r_2 r_3) (.ret (.tup [.str (qiA r_ r_2 r_3),.int .i64 (qk5 r_ r_2 r_3)])) (.fail)|_=>.fail
theorem qKs (gl:Gl):SimP Tryz.prog gl 27 fun args=>(qDW args).run:=by
 refine SimP.of_flat (G:=quV) (L:=qCb) qat (qAg gl ) qah  Tryz.func27 rfl (by rfl) (by kernel_rfl) (qaX (L:=lps qCb) [(6,qsl)] (by kernel_rfl) (List.forall_mem_cons.2 ⟨fun fr σ e fr' σ' h=>qDu gl  fr σ e fr' σ' h,(List.forall_mem_nil _)⟩)) ?_
 intro args x h;unfold qDW at h
 split at h
 ·exact (congrArg Tr.run (qQV _ _ _)).trans (qai h fun h=>by cases h)
 ·cases h
def qs7:GamT:=ofL [(19,.pure qtY),(48,.pure qnh),(56,.pure qEz),(qdX,.hint [(5,0,1,9)])]
theorem qAc (gl:Gl):qaU Tryz.prog gl (gam qs7):=(qac (qvP gl) (qac (qk6 gl) (qac (qFq gl) (qbv (K:=.hint [(5,0,1,9)]) trivial qag))))
def qsh:Code:=qdT Tryz.f29 8
def qrE:LI:=⟨45,[1,4,5,6],fun e=>match e with|.ret=>[2,3]|.exit 0=>[1,4,5]|_=>[],true⟩
def qtR:LpsT:=fun r fr σ=>.fail
def qeR (vs:List PV) (σ:Store):Option (PExit×List PV×Store):=lval (lstep tbT qs7 qtR qsh qrE) vs σ
def qk9 (s:qU) (l:qR) (i:Int) (s2:qU) (b:Bool) (r:qR) (k:Nat):Tr LR:=.ite (iLt i (xLen r)) (.ite (qav i) (.ite (qa3 [.int .i64 0] r (nNat i)) (.ite (qh4 (xInt r (nNat i) 0)) (.ite (sEq (qgE (xInt r (nNat i) 0)) []) (.ret (.out .ret [.str [],.int .i64 140] (Store.mk [[.str s2,.bool b,.sl r .non]] [(k,1,9)] [51]))) (.ite (qav i) (.ite (qa3 [.int .i64 0] r (nNat i)) (.ite (qh4 (xInt r (nNat i) 0)) (.ite (qaI l [[.str (qgE (xInt r (nNat i) 0))]] 16) (.ite (qaH [[.str (qgE (xInt r (nNat i) 0))]] 1) (.ite (qaB l 1) (.ite (nEq k (nXs l)) (.ret (.next [.ptr 0 0,.str s,.sl (xApp l [[.str (qgE (xInt r (nNat i) 0))]]) (.tok 0),.int .i64 (iAdd .i64 i 1)] (Store.mk [[.str s2,.bool b,.sl r .non]] [(nXs (xApp l [[.str (qgE (xInt r (nNat i) 0))]]),1,9)] [51]))) .fail) .fail) .fail) .fail) .fail) .fail) .fail)) .fail) .fail) .fail) (.ret (.out (.exit 0) [.ptr 0 0,.str s,.sl l (.tok 0)] (Store.mk [[.str s2,.bool b,.sl r .non]] [(k,1,9)] [51])))
theorem qNY (s:qU) (l:qR) (i:Int) (s2:qU) (b:Bool) (r:qR) (k:Nat):lstep tbT qs7 qtR qsh qrE [.ptr 0 0,.str s,.sl l (.tok 0),.int .i64 i] ⟨[[.str s2,.bool b,.sl r .non]],[(k,1,9)],[51]⟩=qk9 s l i s2 b r k:=by kernel_rfl
theorem qza (s:qU) (l:qR) (i:Int) (s2:qU) (b:Bool) (r:qR) (k:Nat):qeR [.ptr 0 0,.str s,.sl l (.tok 0),.int .i64 i] ⟨[[.str s2,.bool b,.sl r .non]],[(k,1,9)],[51]⟩=lnext qeR (qk9 s l i s2 b r k).run:=by unfold qeR;rw [qbu,qNY]
def qcQ (s:qU) (l:qR) (i:Int) (s2:qU) (b:Bool) (r:qR) (k:Nat):Option (PExit×List PV×Store):=qeR [.ptr 0 0,.str s,.sl l (.tok 0),.int .i64 i] ⟨[[.str s2,.bool b,.sl r .non]],[(k,1,9)],[51]⟩
def qfb (s:qU) (l:qR) (i:Int) (s2:qU) (b:Bool) (r:qR) (k:Nat):List UInt8:=(gStr (gOut (qcQ s l i s2 b r k) 0))
def qfd (s:qU) (l:qR) (i:Int) (s2:qU) (b:Bool) (r:qR) (k:Nat):Int:=(gInt (gOut (qcQ s l i s2 b r k) 1))
def qgc (s:qU) (l:qR) (i:Int) (s2:qU) (b:Bool) (r:qR) (k:Nat):List UInt8:=(gStr (gAt (gObj (qcQ s l i s2 b r k) 0) 0))
def qg1 (s:qU) (l:qR) (i:Int) (s2:qU) (b:Bool) (r:qR) (k:Nat):Bool:=(qcb (gAt (gObj (qcQ s l i s2 b r k) 0) 1))
def qg2 (s:qU) (l:qR) (i:Int) (s2:qU) (b:Bool) (r:qR) (k:Nat):List (List PV):=(gRow (gAt (gObj (qcQ s l i s2 b r k) 0) 2))
def qgZ (s:qU) (l:qR) (i:Int) (s2:qU) (b:Bool) (r:qR) (k:Nat):Nat:=(gTok (qcQ s l i s2 b r k) 0)
def qfV (s:qU) (l:qR) (i:Int) (s2:qU) (b:Bool) (r:qR) (k:Nat):Bool:=isW (qcQ s l i s2 b r k) (.ret,[.str (qfb s l i s2 b r k),.int .i64 (qfd s l i s2 b r k)],⟨[[.str (qgc s l i s2 b r k),.bool (qg1 s l i s2 b r k),.sl (qg2 s l i s2 b r k) .non]],[((qgZ s l i s2 b r k),1,9)],[51]⟩)
def qca (s:qU) (l:qR) (i:Int) (s2:qU) (b:Bool) (r:qR) (k:Nat):List UInt8:=(gStr (gOut (qcQ s l i s2 b r k) 1))
def qcB (s:qU) (l:qR) (i:Int) (s2:qU) (b:Bool) (r:qR) (k:Nat):List (List PV):=(gRow (gOut (qcQ s l i s2 b r k) 2))
def qbQ (s:qU) (l:qR) (i:Int) (s2:qU) (b:Bool) (r:qR) (k:Nat):List UInt8:=(gStr (gAt (gObj (qcQ s l i s2 b r k) 0) 0))
def qg0 (s:qU) (l:qR) (i:Int) (s2:qU) (b:Bool) (r:qR) (k:Nat):Bool:=(qcb (gAt (gObj (qcQ s l i s2 b r k) 0) 1))
def qg3 (s:qU) (l:qR) (i:Int) (s2:qU) (b:Bool) (r:qR) (k:Nat):List (List PV):=(gRow (gAt (gObj (qcQ s l i s2 b r k) 0) 2))
def qgY (s:qU) (l:qR) (i:Int) (s2:qU) (b:Bool) (r:qR) (k:Nat):Nat:=(gTok (qcQ s l i s2 b r k) 0)
def qga (s:qU) (l:qR) (i:Int) (s2:qU) (b:Bool) (r:qR) (k:Nat):Bool:=isW (qcQ s l i s2 b r k) ((.exit 0),[.ptr 0 0,.str (qca s l i s2 b r k),.sl (qcB s l i s2 b r k) (.tok 0)],⟨[[.str (qbQ s l i s2 b r k),.bool (qg0 s l i s2 b r k),.sl (qg3 s l i s2 b r k) .non]],[((qgY s l i s2 b r k),1,9)],[51]⟩)
def qjj:List PV→Store→Tr (PExit×List PV×Store)|[.ptr 0 0,.str s,.sl l (.tok 0),.int .i64 i],⟨[[.str s2,.bool b,.sl r .non]],[(k,1,9)],[51]⟩=>.ite (qfV s l i s2 b r k) (.ret (.ret,[.str (qfb s l i s2 b r k),.int .i64 (qfd s l i s2 b r k)],⟨[[.str (qgc s l i s2 b r k),.bool (qg1 s l i s2 b r k),.sl (qg2 s l i s2 b r k) .non]],[((qgZ s l i s2 b r k),1,9)],[51]⟩)) (.ite (qga s l i s2 b r k) (.ret ((.exit 0),[.ptr 0 0,.str (qca s l i s2 b r k),.sl (qcB s l i s2 b r k) (.tok 0)],⟨[[.str (qbQ s l i s2 b r k),.bool (qg0 s l i s2 b r k),.sl (qg3 s l i s2 b r k) .non]],[((qgY s l i s2 b r k),1,9)],[51]⟩)) (.fail))|_,_=>.fail
theorem qIf:∀ vs σ r,(qjj vs σ).run=some r→qeR vs σ=some r:=by
 intro vs σ r h;unfold qjj at h
 split at h
 ·exact qai h fun h=>qai h fun h=>by cases h
 ·cases h
theorem qDV (gl:Gl):∀ fr σ e fr' σ',(orc qrE qjj fr σ).run=some (e,fr',σ')→LDoes Tryz.prog gl qsh fr σ e fr' σ':=qck qat (qAc gl ) qah (L:=qtR) (qae (by kernel_rfl)) (by kernel_rfl) qIf
def qDX:LpsT:=fun r fr σ=>bif Nat.beq r 8 then orc qrE qjj fr σ else .fail
def qxQ (d:qU) (d2:Bool) (d3:qR):Tr PV:=.ite d2 (.ite (qgt d) (.ite (bNot (qkj d)) (.ret (.tup [.str [],.int .i64 140])) (.ite (qfV [98,97,115,101,32] [] 0 d d2 d3 0) (.ret (.tup [.str (qfb [98,97,115,101,32] [] 0 d d2 d3 0),.int .i64 (qfd [98,97,115,101,32] [] 0 d d2 d3 0)])) (.ite (qga [98,97,115,101,32] [] 0 d d2 d3 0) (.ite (qaE (qca [98,97,115,101,32] [] 0 d d2 d3 0) (qbQ [98,97,115,101,32] [] 0 d d2 d3 0)) (.ite (qaE (sApp (qca [98,97,115,101,32] [] 0 d d2 d3 0) (qbQ [98,97,115,101,32] [] 0 d d2 d3 0)) [40]) (.ite (qei (qaa (qcB [98,97,115,101,32] [] 0 d d2 d3 0)) [44,32]) (.ite (qaE (sApp (sApp (qca [98,97,115,101,32] [] 0 d d2 d3 0) (qbQ [98,97,115,101,32] [] 0 d d2 d3 0)) [40]) (qcC (qaa (qcB [98,97,115,101,32] [] 0 d d2 d3 0)) [44,32])) (.ite (qaE (sApp (sApp (sApp (qca [98,97,115,101,32] [] 0 d d2 d3 0) (qbQ [98,97,115,101,32] [] 0 d d2 d3 0)) [40]) (qcC (qaa (qcB [98,97,115,101,32] [] 0 d d2 d3 0)) [44,32])) [41,46]) (.ret (.tup [.str (sApp (sApp (sApp (sApp (qca [98,97,115,101,32] [] 0 d d2 d3 0) (qbQ [98,97,115,101,32] [] 0 d d2 d3 0)) [40]) (qcC (qaa (qcB [98,97,115,101,32] [] 0 d d2 d3 0)) [44,32])) [41,46]),.int .i64 0])) .fail) .fail) .fail) .fail) .fail) .fail))) .fail) (.ite (qgt d) (.ite (bNot (qkj d)) (.ret (.tup [.str [],.int .i64 140])) (.ite (qfV [118,105,101,119,32] [] 0 d d2 d3 0) (.ret (.tup [.str (qfb [118,105,101,119,32] [] 0 d d2 d3 0),.int .i64 (qfd [118,105,101,119,32] [] 0 d d2 d3 0)])) (.ite (qga [118,105,101,119,32] [] 0 d d2 d3 0) (.ite (qaE (qca [118,105,101,119,32] [] 0 d d2 d3 0) (qbQ [118,105,101,119,32] [] 0 d d2 d3 0)) (.ite (qaE (sApp (qca [118,105,101,119,32] [] 0 d d2 d3 0) (qbQ [118,105,101,119,32] [] 0 d d2 d3 0)) [40])
 (.ite (qei (qaa (qcB [118,105,101,119,32] [] 0 d d2 d3 0)) [44,32]) (.ite (qaE (sApp (sApp (qca [118,105,101,119,32] [] 0 d d2 d3 0) (qbQ [118,105,101,119,32] [] 0 d d2 d3 0)) [40]) (qcC (qaa (qcB [118,105,101,119,32] [] 0 d d2 d3 0)) [44,32])) (.ite (qaE (sApp (sApp (sApp (qca [118,105,101,119,32] [] 0 d d2 d3 0) (qbQ [118,105,101,119,32] [] 0 d d2 d3 0)) [40]) (qcC (qaa (qcB [118,105,101,119,32] [] 0 d d2 d3 0)) [44,32])) [41,46]) (.ret (.tup [.str (sApp (sApp (sApp (sApp (qca [118,105,101,119,32] [] 0 d d2 d3 0) (qbQ [118,105,101,119,32] [] 0 d d2 d3 0)) [40]) (qcC (qaa (qcB [118,105,101,119,32] [] 0 d d2 d3 0)) [44,32])) [41,46]),.int .i64 0])) .fail) .fail) .fail) .fail) .fail) .fail))) .fail)
theorem qP8 (d:qU) (d2:Bool) (d3:qR):(tcall tbT qs7 qDX Tryz.f29 [.agg [.str d,.bool d2,.sl d3 .non]]).flat=qxQ d d2 d3:=by kernel_rfl
def qtC (d:qU) (d2:Bool) (d3:qR):Option PV:=(qxQ d d2 d3).run
def qiv (d:qU) (d2:Bool) (d3:qR):List UInt8:=(gStr (gAt (gCs (gVal (qtC d d2 d3))) 0))
def qlz (d:qU) (d2:Bool) (d3:qR):Int:=(gInt (gAt (gCs (gVal (qtC d d2 d3))) 1))
def qiX (d:qU) (d2:Bool) (d3:qR):Bool:=isW (qtC d d2 d3) (.tup [.str (qiv d d2 d3),.int .i64 (qlz d d2 d3)])
def qD6:List PV→Tr PV|[.agg [.str d,.bool d2,.sl d3 .non]]=>.ite (qiX d d2 d3) (.ret (.tup [.str (qiv d d2 d3),.int .i64 (qlz d d2 d3)])) (.fail)|_=>.fail
theorem qL6 (gl:Gl):SimP Tryz.prog gl 29 fun args=>(qD6 args).run:=by
 refine SimP.of_flat (G:=qs7) (L:=qDX) qat (qAc gl ) qah  Tryz.func29 rfl (by rfl) (by kernel_rfl) (qaX (L:=lps qDX) [(8,qsh)] (by kernel_rfl) (List.forall_mem_cons.2 ⟨fun fr σ e fr' σ' h=>qDV gl  fr σ e fr' σ' h,(List.forall_mem_nil _)⟩)) ?_
 intro args x h;unfold qD6 at h
 split at h
 ·exact (congrArg Tr.run (qP8 _ _ _)).trans (qai h fun h=>by cases h)
 ·cases h
def qub:GamT:=ofL [(15,.pure qvN),(48,.pure qnh),(qdX,.hint [(4,0,1,9)])]
theorem qAr (gl:Gl):qaU Tryz.prog gl (gam qub):=(qac (qty gl) (qac (qk6 gl) (qbv (K:=.hint [(4,0,1,9)]) trivial qag)))
def qsa:Code:=qdT Tryz.f58 3
def qr5:LI:=⟨47,[1,4,5],fun e=>match e with|.ret=>[2,3]|.exit 0=>[4]|_=>[],true⟩
def qui:LpsT:=fun r fr σ=>.fail
def qeQ (vs:List PV) (σ:Store):Option (PExit×List PV×Store):=lval (lstep tbT qub qui qsa qr5) vs σ
def qlc (l:qR) (i:Int) (s:qU) (r:qR) (r2:qR) (k:Nat):Tr LR:=.ite (iLt i (xLen r2)) (.ite (qav i) (.ite (qa3 [.bool false,.str [],.sl [] .full] r2 (nNat i)) (.ite (qfx (xStr r2 (nNat i) 1) (qaa (xRow r2 (nNat i) 2))) (.ite (iNe (qdP (xStr r2 (nNat i) 1) (qaa (xRow r2 (nNat i) 2))) 0) (.ret (.out .ret [.str [],.int .i64 (qdP (xStr r2 (nNat i) 1) (qaa (xRow r2 (nNat i) 2)))] (Store.mk [[.str s,.sl r .non,.sl r2 .non]] [(k,1,9)] [55]))) (.ite (qav i) (.ite (qa3 [.bool false,.str [],.sl [] .full] r2 (nNat i)) (.ite (qcu r2 (nNat i) 0) (.ite (qaE [43] (qbB (xStr r2 (nNat i) 1) (qaa (xRow r2 (nNat i) 2)))) (.ite (qaI l [[.str (sApp [43] (qbB (xStr r2 (nNat i) 1) (qaa (xRow r2 (nNat i) 2))))]] 16) (.ite (qaH [[.str (sApp [43] (qbB (xStr r2 (nNat i) 1) (qaa (xRow r2 (nNat i) 2))))]] 1) (.ite (qaB l 1) (.ite (nEq k (nXs l)) (.ret (.next [.ptr 0 0,.sl (xApp l [[.str (sApp [43] (qbB (xStr r2 (nNat i) 1) (qaa (xRow r2 (nNat i) 2))))]]) (.tok 0),.int .i64 (iAdd .i64 i 1)] (Store.mk [[.str s,.sl r .non,.sl r2 .non]] [(nXs (xApp l [[.str (sApp [43] (qbB (xStr r2 (nNat i) 1) (qaa (xRow r2 (nNat i) 2))))]]),1,9)] [55]))) .fail) .fail) .fail) .fail) .fail) (.ite (qaE [45] (qbB (xStr r2 (nNat i) 1) (qaa (xRow r2 (nNat i) 2)))) (.ite (qaI l [[.str (sApp [45] (qbB (xStr r2 (nNat i) 1) (qaa (xRow r2 (nNat i) 2))))]] 16) (.ite (qaH [[.str (sApp [45] (qbB (xStr r2 (nNat i) 1) (qaa (xRow r2 (nNat i) 2))))]] 1) (.ite (qaB l 1) (.ite (nEq k (nXs l)) (.ret (.next [.ptr 0 0,.sl (xApp l [[.str (sApp [45] (qbB (xStr r2 (nNat i) 1) (qaa (xRow r2 (nNat i) 2))))]]) (.tok 0),.int .i64 (iAdd .i64 i 1)] (Store.mk [[.str s,.sl r .non,.sl r2 .non]] [(nXs (xApp l [[.str (sApp [45] (qbB (xStr r2 (nNat i) 1) (qaa (xRow r2 (nNat i) 2))))]]),1,9)] [55]))) .fail) .fail) .fail) .fail) .fail)) .fail) .fail))
 .fail) .fail) .fail) (.ret (.out (.exit 0) [.sl l (.tok 0)] (Store.mk [[.str s,.sl r .non,.sl r2 .non]] [(k,1,9)] [55])))
theorem qMF (l:qR) (i:Int) (s:qU) (r:qR) (r2:qR) (k:Nat):lstep tbT qub qui qsa qr5 [.ptr 0 0,.sl l (.tok 0),.int .i64 i] ⟨[[.str s,.sl r .non,.sl r2 .non]],[(k,1,9)],[55]⟩=qlc l i s r r2 k:=by kernel_rfl
theorem qzv (l:qR) (i:Int) (s:qU) (r:qR) (r2:qR) (k:Nat):qeQ [.ptr 0 0,.sl l (.tok 0),.int .i64 i] ⟨[[.str s,.sl r .non,.sl r2 .non]],[(k,1,9)],[55]⟩=lnext qeQ (qlc l i s r r2 k).run:=by unfold qeQ;rw [qbu,qMF]
def qdo (l:qR) (i:Int) (s:qU) (r:qR) (r2:qR) (k:Nat):Option (PExit×List PV×Store):=qeQ [.ptr 0 0,.sl l (.tok 0),.int .i64 i] ⟨[[.str s,.sl r .non,.sl r2 .non]],[(k,1,9)],[55]⟩
def qi6 (l:qR) (i:Int) (s:qU) (r:qR) (r2:qR) (k:Nat):List UInt8:=(gStr (gOut (qdo l i s r r2 k) 0))
def qiB (l:qR) (i:Int) (s:qU) (r:qR) (r2:qR) (k:Nat):Int:=(gInt (gOut (qdo l i s r r2 k) 1))
def qky (l:qR) (i:Int) (s:qU) (r:qR) (r2:qR) (k:Nat):List UInt8:=(gStr (gAt (gObj (qdo l i s r r2 k) 0) 0))
def qmH (l:qR) (i:Int) (s:qU) (r:qR) (r2:qR) (k:Nat):List (List PV):=(gRow (gAt (gObj (qdo l i s r r2 k) 0) 1))
def qjV (l:qR) (i:Int) (s:qU) (r:qR) (r2:qR) (k:Nat):List (List PV):=(gRow (gAt (gObj (qdo l i s r r2 k) 0) 2))
def qmD (l:qR) (i:Int) (s:qU) (r:qR) (r2:qR) (k:Nat):Nat:=(gTok (qdo l i s r r2 k) 0)
def qmL (l:qR) (i:Int) (s:qU) (r:qR) (r2:qR) (k:Nat):Bool:=isW (qdo l i s r r2 k) (.ret,[.str (qi6 l i s r r2 k),.int .i64 (qiB l i s r r2 k)],⟨[[.str (qky l i s r r2 k),.sl (qmH l i s r r2 k) .non,.sl (qjV l i s r r2 k) .non]],[((qmD l i s r r2 k),1,9)],[55]⟩)
def qe8 (l:qR) (i:Int) (s:qU) (r:qR) (r2:qR) (k:Nat):List (List PV):=(gRow (gOut (qdo l i s r r2 k) 0))
def ql7 (l:qR) (i:Int) (s:qU) (r:qR) (r2:qR) (k:Nat):List UInt8:=(gStr (gAt (gObj (qdo l i s r r2 k) 0) 0))
def qlR (l:qR) (i:Int) (s:qU) (r:qR) (r2:qR) (k:Nat):List (List PV):=(gRow (gAt (gObj (qdo l i s r r2 k) 0) 1))
def qjD (l:qR) (i:Int) (s:qU) (r:qR) (r2:qR) (k:Nat):List (List PV):=(gRow (gAt (gObj (qdo l i s r r2 k) 0) 2))
def ql8 (l:qR) (i:Int) (s:qU) (r:qR) (r2:qR) (k:Nat):Nat:=(gTok (qdo l i s r r2 k) 0)
def qmw (l:qR) (i:Int) (s:qU) (r:qR) (r2:qR) (k:Nat):Bool:=isW (qdo l i s r r2 k) ((.exit 0),[.sl (qe8 l i s r r2 k) (.tok 0)],⟨[[.str (ql7 l i s r r2 k),.sl (qlR l i s r r2 k) .non,.sl (qjD l i s r r2 k) .non]],[((ql8 l i s r r2 k),1,9)],[55]⟩)
def qjB:List PV→Store→Tr (PExit×List PV×Store)|[.ptr 0 0,.sl l (.tok 0),.int .i64 i],⟨[[.str s,.sl r .non,.sl r2 .non]],[(k,1,9)],[55]⟩=>.ite (qmL l i s r r2 k) (.ret (.ret,[.str (qi6 l i s r r2 k),.int .i64 (qiB l i s r r2 k)],⟨[[.str (qky l i s r r2 k),.sl (qmH l i s r r2 k) .non,.sl (qjV l i s r r2 k) .non]],[((qmD l i s r r2 k),1,9)],[55]⟩)) (.ite (qmw l i s r r2 k) (.ret ((.exit 0),[.sl (qe8 l i s r r2 k) (.tok 0)],⟨[[.str (ql7 l i s r r2 k),.sl (qlR l i s r r2 k) .non,.sl (qjD l i s r r2 k) .non]],[((ql8 l i s r r2 k),1,9)],[55]⟩)) (.fail))|_,_=>.fail
theorem qMh:∀ vs σ r,(qjB vs σ).run=some r→qeQ vs σ=some r:=by
 intro vs σ r h;unfold qjB at h
 split at h
 ·exact qai h fun h=>qai h fun h=>by cases h
 ·cases h
theorem qDY (gl:Gl):∀ fr σ e fr' σ',(orc qr5 qjB fr σ).run=some (e,fr',σ')→LDoes Tryz.prog gl qsa fr σ e fr' σ':=qck qat (qAr gl ) qah (L:=qui) (qae (by kernel_rfl)) (by kernel_rfl) qMh
def qCZ:LpsT:=fun r fr σ=>bif Nat.beq r 3 then orc qr5 qjB fr σ else .fail
def qzt (o:qU) (o2:qR) (o3:qR):Tr PV:=.ite (qmL [] 0 o o2 o3 0) (.ret (.tup [.str (qi6 [] 0 o o2 o3 0),.int .i64 (qiB [] 0 o o2 o3 0)])) (.ite (qmw [] 0 o o2 o3 0) (.ite (iEq (xLen (qe8 [] 0 o o2 o3 0)) 0) (.ret (.tup [.str [],.int .i64 0])) (.ite (qei (qaa (qe8 [] 0 o o2 o3 0)) [44,32]) (.ite (qaE [58,32] (qcC (qaa (qe8 [] 0 o o2 o3 0)) [44,32])) (.ret (.tup [.str (sApp [58,32] (qcC (qaa (qe8 [] 0 o o2 o3 0)) [44,32])),.int .i64 0])) .fail) .fail)) .fail)
theorem qQI (o:qU) (o2:qR) (o3:qR):(tcall tbT qub qCZ Tryz.f58 [.agg [.str o,.sl o2 .non,.sl o3 .non]]).flat=qzt o o2 o3:=by kernel_rfl
def qvI (o:qU) (o2:qR) (o3:qR):Option PV:=(qzt o o2 o3).run
def qkr (o:qU) (o2:qR) (o3:qR):List UInt8:=(gStr (gAt (gCs (gVal (qvI o o2 o3))) 0))
def qla (o:qU) (o2:qR) (o3:qR):Int:=(gInt (gAt (gCs (gVal (qvI o o2 o3))) 1))
def qiJ (o:qU) (o2:qR) (o3:qR):Bool:=isW (qvI o o2 o3) (.tup [.str (qkr o o2 o3),.int .i64 (qla o o2 o3)])
def qDc:List PV→Tr PV|[.agg [.str o,.sl o2 .non,.sl o3 .non]]=>.ite (qiJ o o2 o3) (.ret (.tup [.str (qkr o o2 o3),.int .i64 (qla o o2 o3)])) (.fail)|_=>.fail
theorem qJQ (gl:Gl):SimP Tryz.prog gl 58 fun args=>(qDc args).run:=by
 refine SimP.of_flat (G:=qub) (L:=qCZ) qat (qAr gl ) qah  Tryz.func58 rfl (by rfl) (by kernel_rfl) (qaX (L:=lps qCZ) [(3,qsa)] (by kernel_rfl) (List.forall_mem_cons.2 ⟨fun fr σ e fr' σ' h=>qDY gl  fr σ e fr' σ' h,(List.forall_mem_nil _)⟩)) ?_
 intro args x h;unfold qDc at h
 split at h
 ·exact (congrArg Tr.run (qQI _ _ _)).trans (qai h fun h=>by cases h)
 ·cases h
def qJT:GamT:=ofL [(19,.pure qtY),(21,.pure qEB),(48,.pure qnh),(56,.pure qEz),(58,.pure qDc),(qdX,.hint [(4,0,1,9)])]
theorem qJx (gl:Gl):qaU Tryz.prog gl (gam qJT):=(qac (qvP gl) (qac (qEP gl) (qac (qk6 gl) (qac (qFq gl) (qac (qJQ gl) (qbv (K:=.hint [(4,0,1,9)]) trivial qag))))))
def qF6:Code:=qdT Tryz.f31 5
def qFx:LI:=⟨64,[1,4,5],fun e=>match e with|.ret=>[2,3]|.exit 0=>[1,4]|_=>[],true⟩
def qDO:LpsT:=fun r fr σ=>.fail
def qkE (vs:List PV) (σ:Store):Option (PExit×List PV×Store):=lval (lstep tbT qJT qDO qF6 qFx) vs σ
def quM (l:qR) (i:Int) (s:qU) (r:qR) (r2:qR) (k:Nat):Tr LR:=.ite (iLt i (xLen r)) (.ite (qav i) (.ite (qa3 [.str [],.int .i64 0] r (nNat i)) (.ite (qml (xStr r (nNat i) 0)) (.ite (bNot (qtn (xStr r (nNat i) 0))) (.ret (.out .ret [.str [],.int .i64 140] (Store.mk [[.str s,.sl (qaD 1 r) .non,.sl (qaD 1 r2) .non]] [(k,1,9)] [55]))) (.ite (qh4 (xInt r (nNat i) 1)) (.ite (sEq (qgE (xInt r (nNat i) 1)) []) (.ret (.out .ret [.str [],.int .i64 140] (Store.mk [[.str s,.sl (qaD 1 r) .non,.sl (qaD 1 r2) .non]] [(k,1,9)] [55]))) (.ite (qaE (xStr r (nNat i) 0) [32]) (.ite (qh4 (xInt r (nNat i) 1)) (.ite (qaE (sApp (xStr r (nNat i) 0) [32]) (qgE (xInt r (nNat i) 1))) (.ite (qaI l [[.str (sApp (sApp (xStr r (nNat i) 0) [32]) (qgE (xInt r (nNat i) 1)))]] 16) (.ite (qaH [[.str (sApp (sApp (xStr r (nNat i) 0) [32]) (qgE (xInt r (nNat i) 1)))]] 1) (.ite (qaB l 1) (.ite (nEq k (nXs l)) (.ret (.next [.ptr 0 0,.sl (qaD 1 (xApp l [[.str (sApp (sApp (xStr r (nNat i) 0) [32]) (qgE (xInt r (nNat i) 1)))]])) (.tok 0),.int .i64 (iAdd .i64 i 1)] (Store.mk [[.str s,.sl (qaD 1 r) .non,.sl (qaD 1 r2) .non]] [(nXs (xApp l [[.str (sApp (sApp (xStr r (nNat i) 0) [32]) (qgE (xInt r (nNat i) 1)))]]),1,9)] [55]))) .fail) .fail) .fail) .fail) .fail) .fail) .fail)) .fail)) .fail) .fail) .fail) (.ret (.out (.exit 0) [.ptr 0 0,.sl l (.tok 0)] (Store.mk [[.str s,.sl r .non,.sl r2 .non]] [(k,1,9)] [55])))
theorem qSk (l:qR) (i:Int) (s:qU) (r:qR) (r2:qR) (k:Nat):lstep tbT qJT qDO qF6 qFx [.ptr 0 0,.sl l (.tok 0),.int .i64 i] ⟨[[.str s,.sl r .non,.sl r2 .non]],[(k,1,9)],[55]⟩=quM l i s r r2 k:=by kernel_rfl
theorem qIv (l:qR) (i:Int) (s:qU) (r:qR) (r2:qR) (k:Nat):qkE [.ptr 0 0,.sl l (.tok 0),.int .i64 i] ⟨[[.str s,.sl r .non,.sl r2 .non]],[(k,1,9)],[55]⟩=lnext qkE (quM l i s r r2 k).run:=by unfold qkE;rw [qbu,qSk]
def qhh (l:qR) (i:Int) (s:qU) (r:qR) (r2:qR) (k:Nat):Option (PExit×List PV×Store):=qkE [.ptr 0 0,.sl l (.tok 0),.int .i64 i] ⟨[[.str s,.sl r .non,.sl r2 .non]],[(k,1,9)],[55]⟩
def qpe (l:qR) (i:Int) (s:qU) (r:qR) (r2:qR) (k:Nat):List UInt8:=(gStr (gOut (qhh l i s r r2 k) 0))
def qpd (l:qR) (i:Int) (s:qU) (r:qR) (r2:qR) (k:Nat):Int:=(gInt (gOut (qhh l i s r r2 k) 1))
def qoU (l:qR) (i:Int) (s:qU) (r:qR) (r2:qR) (k:Nat):List UInt8:=(gStr (gAt (gObj (qhh l i s r r2 k) 0) 0))
def qrR (l:qR) (i:Int) (s:qU) (r:qR) (r2:qR) (k:Nat):List (List PV):=(gRow (gAt (gObj (qhh l i s r r2 k) 0) 1))
def qoe (l:qR) (i:Int) (s:qU) (r:qR) (r2:qR) (k:Nat):List (List PV):=(gRow (gAt (gObj (qhh l i s r r2 k) 0) 2))
def qro (l:qR) (i:Int) (s:qU) (r:qR) (r2:qR) (k:Nat):Nat:=(gTok (qhh l i s r r2 k) 0)
def qrV (l:qR) (i:Int) (s:qU) (r:qR) (r2:qR) (k:Nat):Bool:=isW (qhh l i s r r2 k) (.ret,[.str (qpe l i s r r2 k),.int .i64 (qpd l i s r r2 k)],⟨[[.str (qoU l i s r r2 k),.sl (qrR l i s r r2 k) .non,.sl (qoe l i s r r2 k) .non]],[((qro l i s r r2 k),1,9)],[55]⟩)
def qgm (l:qR) (i:Int) (s:qU) (r:qR) (r2:qR) (k:Nat):List (List PV):=(gRow (gOut (qhh l i s r r2 k) 1))
def qcY (l:qR) (i:Int) (s:qU) (r:qR) (r2:qR) (k:Nat):List UInt8:=(gStr (gAt (gObj (qhh l i s r r2 k) 0) 0))
def qgq (l:qR) (i:Int) (s:qU) (r:qR) (r2:qR) (k:Nat):List (List PV):=(gRow (gAt (gObj (qhh l i s r r2 k) 0) 1))
def qeL (l:qR) (i:Int) (s:qU) (r:qR) (r2:qR) (k:Nat):List (List PV):=(gRow (gAt (gObj (qhh l i s r r2 k) 0) 2))
def qrP (l:qR) (i:Int) (s:qU) (r:qR) (r2:qR) (k:Nat):Nat:=(gTok (qhh l i s r r2 k) 0)
def qrk (l:qR) (i:Int) (s:qU) (r:qR) (r2:qR) (k:Nat):Bool:=isW (qhh l i s r r2 k) ((.exit 0),[.ptr 0 0,.sl (qgm l i s r r2 k) (.tok 0)],⟨[[.str (qcY l i s r r2 k),.sl (qgq l i s r r2 k) .non,.sl (qeL l i s r r2 k) .non]],[((qrP l i s r r2 k),1,9)],[55]⟩)
def qob:List PV→Store→Tr (PExit×List PV×Store)|[.ptr 0 0,.sl l (.tok 0),.int .i64 i],⟨[[.str s,.sl r .non,.sl r2 .non]],[(k,1,9)],[55]⟩=>.ite (qrV l i s r r2 k) (.ret (.ret,[.str (qpe l i s r r2 k),.int .i64 (qpd l i s r r2 k)],⟨[[.str (qoU l i s r r2 k),.sl (qrR l i s r r2 k) .non,.sl (qoe l i s r r2 k) .non]],[((qro l i s r r2 k),1,9)],[55]⟩)) (.ite (qrk l i s r r2 k) (.ret ((.exit 0),[.ptr 0 0,.sl (qgm l i s r r2 k) (.tok 0)],⟨[[.str (qcY l i s r r2 k),.sl (qgq l i s r r2 k) .non,.sl (qeL l i s r r2 k) .non]],[((qrP l i s r r2 k),1,9)],[55]⟩)) (.fail))|_,_=>.fail
theorem qPA:∀ vs σ r,(qob vs σ).run=some r→qkE vs σ=some r:=by
 intro vs σ r h;unfold qob at h
 split at h
 ·exact qai h fun h=>qai h fun h=>by cases h
 ·cases h
theorem qKG (gl:Gl):∀ fr σ e fr' σ',(orc qFx qob fr σ).run=some (e,fr',σ')→LDoes Tryz.prog gl qF6 fr σ e fr' σ':=qck qat (qJx gl ) qah (L:=qDO) (qae (by kernel_rfl)) (by kernel_rfl) qPA
def qRu:LpsT:=fun r fr σ=>bif Nat.beq r 5 then orc qFx qob fr σ else .fail
def qKT (o:qU) (o2:qR) (o3:qR):Tr PV:=.ite (qgt o) (.ite (bNot (qkj o)) (.ret (.tup [.str [],.int .i64 140])) (.ite (qrV [] 0 o o2 o3 0) (.ret (.tup [.str (qpe [] 0 o o2 o3 0),.int .i64 (qpd [] 0 o o2 o3 0)])) (.ite (qrk [] 0 o o2 o3 0) (.ite (qiJ (qcY [] 0 o o2 o3 0) (qaa (qgq [] 0 o o2 o3 0)) (qaa (qeL [] 0 o o2 o3 0))) (.ite (iNe (qla (qcY [] 0 o o2 o3 0) (qaa (qgq [] 0 o o2 o3 0)) (qaa (qeL [] 0 o o2 o3 0))) 0) (.ret (.tup [.str [],.int .i64 (qla (qcY [] 0 o o2 o3 0) (qaa (qgq [] 0 o o2 o3 0)) (qaa (qeL [] 0 o o2 o3 0)))])) (.ite (qaE [111,110,32] (qcY [] 0 o o2 o3 0)) (.ite (qaE (sApp [111,110,32] (qcY [] 0 o o2 o3 0)) [40]) (.ite (qei (qaa (qgm [] 0 o o2 o3 0)) [44,32]) (.ite (qaE (sApp (sApp [111,110,32] (qcY [] 0 o o2 o3 0)) [40]) (qcC (qaa (qgm [] 0 o o2 o3 0)) [44,32])) (.ite (qaE (sApp (sApp (sApp [111,110,32] (qcY [] 0 o o2 o3 0)) [40]) (qcC (qaa (qgm [] 0 o o2 o3 0)) [44,32])) [41]) (.ite (qaE (sApp (sApp (sApp (sApp [111,110,32] (qcY [] 0 o o2 o3 0)) [40]) (qcC (qaa (qgm [] 0 o o2 o3 0)) [44,32])) [41]) (qkr (qcY [] 0 o o2 o3 0) (qaa (qgq [] 0 o o2 o3 0)) (qaa (qeL [] 0 o o2 o3 0)))) (.ite (qaE (sApp (sApp (sApp (sApp (sApp [111,110,32] (qcY [] 0 o o2 o3 0)) [40]) (qcC (qaa (qgm [] 0 o o2 o3 0)) [44,32])) [41]) (qkr (qcY [] 0 o o2 o3 0) (qaa (qgq [] 0 o o2 o3 0)) (qaa (qeL [] 0 o o2 o3 0)))) [46]) (.ret (.tup [.str (sApp (sApp (sApp (sApp (sApp (sApp [111,110,32] (qcY [] 0 o o2 o3 0)) [40]) (qcC (qaa (qgm [] 0 o o2 o3 0)) [44,32])) [41]) (qkr (qcY [] 0 o o2 o3 0) (qaa (qgq [] 0 o o2 o3 0)) (qaa (qeL [] 0 o o2 o3 0)))) [46]),.int .i64 0])) .fail) .fail) .fail) .fail) .fail) .fail) .fail))
 .fail) .fail))) .fail
theorem qUk (o:qU) (o2:qR) (o3:qR):(tcall tbT qJT qRu Tryz.f31 [.agg [.str o,.sl o2 .non,.sl o3 .non]]).flat=qKT o o2 o3:=by kernel_rfl
def qH0 (o:qU) (o2:qR) (o3:qR):Option PV:=(qKT o o2 o3).run
def qwa (o:qU) (o2:qR) (o3:qR):List UInt8:=(gStr (gAt (gCs (gVal (qH0 o o2 o3))) 0))
def qAu (o:qU) (o2:qR) (o3:qR):Int:=(gInt (gAt (gCs (gVal (qH0 o o2 o3))) 1))
def qqd (o:qU) (o2:qR) (o3:qR):Bool:=isW (qH0 o o2 o3) (.tup [.str (qwa o o2 o3),.int .i64 (qAu o o2 o3)])
def qQP:List PV→Tr PV|[.agg [.str o,.sl o2 .non,.sl o3 .non]]=>.ite (qqd o o2 o3) (.ret (.tup [.str (qwa o o2 o3),.int .i64 (qAu o o2 o3)])) (.fail)|_=>.fail
theorem qQS (gl:Gl):SimP Tryz.prog gl 31 fun args=>(qQP args).run:=by
 refine SimP.of_flat (G:=qJT) (L:=qRu) qat (qJx gl ) qah  Tryz.func31 rfl (by rfl) (by kernel_rfl) (qaX (L:=lps qRu) [(5,qF6)] (by kernel_rfl) (List.forall_mem_cons.2 ⟨fun fr σ e fr' σ' h=>qKG gl  fr σ e fr' σ' h,(List.forall_mem_nil _)⟩)) ?_
 intro args x h;unfold qQP at h
 split at h
 ·exact (congrArg Tr.run (qUk _ _ _)).trans (qai h fun h=>by cases h)
 ·cases h
def qgO:GamT:=ofL [(27,.pure qDW),(29,.pure qD6),(31,.pure qQP),(qdX,.hint [(4,0,1,9)])]
theorem qlY (gl:Gl):qaU Tryz.prog gl (gam qgO):=(qac (qKs gl) (qac (qL6 gl) (qac (qQS gl) (qbv (K:=.hint [(4,0,1,9)]) trivial qag))))
def qoL:Code:=qdT Tryz.f66 3
def qoM:Code:=qdT Tryz.f66 10
def qoY:Code:=qdT Tryz.f66 17
def qoj:LI:=⟨84,[1,4,5],fun e=>match e with|.ret=>[2,3]|.exit 0=>[1,4]|_=>[],true⟩
def qpR:LpsT:=fun r fr σ=>.fail
def qdw (vs:List PV) (σ:Store):Option (PExit×List PV×Store):=lval (lstep tbT qgO qpR qoL qoj) vs σ
def qiI (r:qR) (n:Int) (r2:qR) (r3:qR) (r4:qR) (k:Nat):Tr LR:=.ite (iLt n (xLen r2)) (.ite (qav n) (.ite (qa3 [.str [],.bool false,.sl [] .full] r2 (nNat n)) (.ite (qiX (xStr r2 (nNat n) 0) (qcu r2 (nNat n) 1) (qaa (xRow r2 (nNat n) 2))) (.ite (iNe (qlz (xStr r2 (nNat n) 0) (qcu r2 (nNat n) 1) (qaa (xRow r2 (nNat n) 2))) 0) (.ret (.out .ret [.sl [] .full,.int .i64 (qlz (xStr r2 (nNat n) 0) (qcu r2 (nNat n) 1) (qaa (xRow r2 (nNat n) 2)))] (Store.mk [[.sl r2 .non,.sl r3 .non,.sl r4 .non]] [(k,1,9)] [71]))) (.ite (qaI r [[.str (qiv (xStr r2 (nNat n) 0) (qcu r2 (nNat n) 1) (qaa (xRow r2 (nNat n) 2)))]] 16) (.ite (qaH [[.str (qiv (xStr r2 (nNat n) 0) (qcu r2 (nNat n) 1) (qaa (xRow r2 (nNat n) 2)))]] 1) (.ite (qaB r 1) (.ite (nEq k (nXs r)) (.ret (.next [.ptr 0 0,.sl (xApp r [[.str (qiv (xStr r2 (nNat n) 0) (qcu r2 (nNat n) 1) (qaa (xRow r2 (nNat n) 2)))]]) (.tok 0),.int .i64 (iAdd .i64 n 1)] (Store.mk [[.sl r2 .non,.sl r3 .non,.sl r4 .non]] [(nXs (xApp r [[.str (qiv (xStr r2 (nNat n) 0) (qcu r2 (nNat n) 1) (qaa (xRow r2 (nNat n) 2)))]]),1,9)] [71]))) .fail) .fail) .fail) .fail)) .fail) .fail) .fail) (.ret (.out (.exit 0) [.ptr 0 0,.sl r (.tok 0)] (Store.mk [[.sl r2 .non,.sl r3 .non,.sl r4 .non]] [(k,1,9)] [71])))
theorem qJ5 (r:qR) (n:Int) (r2:qR) (r3:qR) (r4:qR) (k:Nat):lstep tbT qgO qpR qoL qoj [.ptr 0 0,.sl r (.tok 0),.int .i64 n] ⟨[[.sl r2 .non,.sl r3 .non,.sl r4 .non]],[(k,1,9)],[71]⟩=qiI r n r2 r3 r4 k:=by kernel_rfl
theorem qvM (r:qR) (n:Int) (r2:qR) (r3:qR) (r4:qR) (k:Nat):qdw [.ptr 0 0,.sl r (.tok 0),.int .i64 n] ⟨[[.sl r2 .non,.sl r3 .non,.sl r4 .non]],[(k,1,9)],[71]⟩=lnext qdw (qiI r n r2 r3 r4 k).run:=by unfold qdw;rw [qbu,qJ5]
def qcM (r:qR) (n:Int) (r2:qR) (r3:qR) (r4:qR) (k:Nat):Option (PExit×List PV×Store):=qdw [.ptr 0 0,.sl r (.tok 0),.int .i64 n] ⟨[[.sl r2 .non,.sl r3 .non,.sl r4 .non]],[(k,1,9)],[71]⟩
def qb0 (r:qR) (n:Int) (r2:qR) (r3:qR) (r4:qR) (k:Nat):List (List PV):=(gRow (gOut (qcM r n r2 r3 r4 k) 0))
def qb6 (r:qR) (n:Int) (r2:qR) (r3:qR) (r4:qR) (k:Nat):Int:=(gInt (gOut (qcM r n r2 r3 r4 k) 1))
def qce (r:qR) (n:Int) (r2:qR) (r3:qR) (r4:qR) (k:Nat):List (List PV):=(gRow (gAt (gObj (qcM r n r2 r3 r4 k) 0) 0))
def qch (r:qR) (n:Int) (r2:qR) (r3:qR) (r4:qR) (k:Nat):List (List PV):=(gRow (gAt (gObj (qcM r n r2 r3 r4 k) 0) 1))
def qci (r:qR) (n:Int) (r2:qR) (r3:qR) (r4:qR) (k:Nat):List (List PV):=(gRow (gAt (gObj (qcM r n r2 r3 r4 k) 0) 2))
def qcE (r:qR) (n:Int) (r2:qR) (r3:qR) (r4:qR) (k:Nat):Nat:=(gTok (qcM r n r2 r3 r4 k) 0)
def qb3 (r:qR) (n:Int) (r2:qR) (r3:qR) (r4:qR) (k:Nat):Bool:=isW (qcM r n r2 r3 r4 k) (.ret,[.sl (qb0 r n r2 r3 r4 k) .full,.int .i64 (qb6 r n r2 r3 r4 k)],⟨[[.sl (qce r n r2 r3 r4 k) .non,.sl (qch r n r2 r3 r4 k) .non,.sl (qci r n r2 r3 r4 k) .non]],[((qcE r n r2 r3 r4 k),1,9)],[71]⟩)
def qaF (r:qR) (n:Int) (r2:qR) (r3:qR) (r4:qR) (k:Nat):List (List PV):=(gRow (gOut (qcM r n r2 r3 r4 k) 1))
def qaA (r:qR) (n:Int) (r2:qR) (r3:qR) (r4:qR) (k:Nat):List (List PV):=(gRow (gAt (gObj (qcM r n r2 r3 r4 k) 0) 0))
def qaz (r:qR) (n:Int) (r2:qR) (r3:qR) (r4:qR) (k:Nat):List (List PV):=(gRow (gAt (gObj (qcM r n r2 r3 r4 k) 0) 1))
def qay (r:qR) (n:Int) (r2:qR) (r3:qR) (r4:qR) (k:Nat):List (List PV):=(gRow (gAt (gObj (qcM r n r2 r3 r4 k) 0) 2))
def qaG (r:qR) (n:Int) (r2:qR) (r3:qR) (r4:qR) (k:Nat):Nat:=(gTok (qcM r n r2 r3 r4 k) 0)
def qcp (r:qR) (n:Int) (r2:qR) (r3:qR) (r4:qR) (k:Nat):Bool:=isW (qcM r n r2 r3 r4 k) ((.exit 0),[.ptr 0 0,.sl (qaF r n r2 r3 r4 k) (.tok 0)],⟨[[.sl (qaA r n r2 r3 r4 k) .non,.sl (qaz r n r2 r3 r4 k) .non,.sl (qay r n r2 r3 r4 k) .non]],[((qaG r n r2 r3 r4 k),1,9)],[71]⟩)
def qh0:List PV→Store→Tr (PExit×List PV×Store)|[.ptr 0 0,.sl r (.tok 0),.int .i64 n],⟨[[.sl r2 .non,.sl r3 .non,.sl r4 .non]],[(k,1,9)],[71]⟩=>.ite (qb3 r n r2 r3 r4 k) (.ret (.ret,[.sl (qb0 r n r2 r3 r4 k) .full,.int .i64 (qb6 r n r2 r3 r4 k)],⟨[[.sl (qce r n r2 r3 r4 k) .non,.sl (qch r n r2 r3 r4 k) .non,.sl (qci r n r2 r3 r4 k) .non]],[((qcE r n r2 r3 r4 k),1,9)],[71]⟩)) (.ite (qcp r n r2 r3 r4 k) (.ret ((.exit 0),[.ptr 0 0,.sl (qaF r n r2 r3 r4 k) (.tok 0)],⟨[[.sl (qaA r n r2 r3 r4 k) .non,.sl (qaz r n r2 r3 r4 k) .non,.sl (qay r n r2 r3 r4 k) .non]],[((qaG r n r2 r3 r4 k),1,9)],[71]⟩)) (.fail))|_,_=>.fail
theorem qGm:∀ vs σ r,(qh0 vs σ).run=some r→qdw vs σ=some r:=by
 intro vs σ r h;unfold qh0 at h
 split at h
 ·exact qai h fun h=>qai h fun h=>by cases h
 ·cases h
theorem qzy (gl:Gl):∀ fr σ e fr' σ',(orc qoj qh0 fr σ).run=some (e,fr',σ')→LDoes Tryz.prog gl qoL fr σ e fr' σ':=qck qat (qlY gl ) qah (L:=qpR) (qae (by kernel_rfl)) (by kernel_rfl) qGm
def qpu:LI:=⟨84,[1,4,8],fun e=>match e with|.ret=>[2,3]|.exit 2=>[1,4]|_=>[],true⟩
def qpO:LpsT:=fun r fr σ=>.fail
def qdy (vs:List PV) (σ:Store):Option (PExit×List PV×Store):=lval (lstep tbT qgO qpO qoM qpu) vs σ
def qiV (r:qR) (n:Int) (r2:qR) (r3:qR) (r4:qR) (k:Nat):Tr LR:=.ite (iLt n (xLen r3)) (.ite (qav n) (.ite (qa3 [.str [],.sl [] .full,.sl [] .full] r3 (nNat n)) (.ite (qqd (xStr r3 (nNat n) 0) (qaa (xRow r3 (nNat n) 1)) (qaa (xRow r3 (nNat n) 2))) (.ite (iNe (qAu (xStr r3 (nNat n) 0) (qaa (xRow r3 (nNat n) 1)) (qaa (xRow r3 (nNat n) 2))) 0) (.ret (.out .ret [.sl [] .full,.int .i64 (qAu (xStr r3 (nNat n) 0) (qaa (xRow r3 (nNat n) 1)) (qaa (xRow r3 (nNat n) 2)))] (Store.mk [[.sl r2 .non,.sl r3 .non,.sl r4 .non]] [(k,1,9)] [71]))) (.ite (qaI r [[.str (qwa (xStr r3 (nNat n) 0) (qaa (xRow r3 (nNat n) 1)) (qaa (xRow r3 (nNat n) 2)))]] 16) (.ite (qaH [[.str (qwa (xStr r3 (nNat n) 0) (qaa (xRow r3 (nNat n) 1)) (qaa (xRow r3 (nNat n) 2)))]] 1) (.ite (qaB r 1) (.ite (nEq k (nXs r)) (.ret (.next [.ptr 0 0,.sl (xApp r [[.str (qwa (xStr r3 (nNat n) 0) (qaa (xRow r3 (nNat n) 1)) (qaa (xRow r3 (nNat n) 2)))]]) (.tok 0),.int .i64 (iAdd .i64 n 1)] (Store.mk [[.sl r2 .non,.sl r3 .non,.sl r4 .non]] [(nXs (xApp r [[.str (qwa (xStr r3 (nNat n) 0) (qaa (xRow r3 (nNat n) 1)) (qaa (xRow r3 (nNat n) 2)))]]),1,9)] [71]))) .fail) .fail) .fail) .fail)) .fail) .fail) .fail) (.ret (.out (.exit 2) [.ptr 0 0,.sl r (.tok 0)] (Store.mk [[.sl r2 .non,.sl r3 .non,.sl r4 .non]] [(k,1,9)] [71])))
theorem qK0 (r:qR) (n:Int) (r2:qR) (r3:qR) (r4:qR) (k:Nat):lstep tbT qgO qpO qoM qpu [.ptr 0 0,.sl r (.tok 0),.int .i64 n] ⟨[[.sl r2 .non,.sl r3 .non,.sl r4 .non]],[(k,1,9)],[71]⟩=qiV r n r2 r3 r4 k:=by kernel_rfl
theorem qvf (r:qR) (n:Int) (r2:qR) (r3:qR) (r4:qR) (k:Nat):qdy [.ptr 0 0,.sl r (.tok 0),.int .i64 n] ⟨[[.sl r2 .non,.sl r3 .non,.sl r4 .non]],[(k,1,9)],[71]⟩=lnext qdy (qiV r n r2 r3 r4 k).run:=by unfold qdy;rw [qbu,qK0]
def qcP (r:qR) (n:Int) (r2:qR) (r3:qR) (r4:qR) (k:Nat):Option (PExit×List PV×Store):=qdy [.ptr 0 0,.sl r (.tok 0),.int .i64 n] ⟨[[.sl r2 .non,.sl r3 .non,.sl r4 .non]],[(k,1,9)],[71]⟩
def qb2 (r:qR) (n:Int) (r2:qR) (r3:qR) (r4:qR) (k:Nat):List (List PV):=(gRow (gOut (qcP r n r2 r3 r4 k) 0))
def qb8 (r:qR) (n:Int) (r2:qR) (r3:qR) (r4:qR) (k:Nat):Int:=(gInt (gOut (qcP r n r2 r3 r4 k) 1))
def qcg (r:qR) (n:Int) (r2:qR) (r3:qR) (r4:qR) (k:Nat):List (List PV):=(gRow (gAt (gObj (qcP r n r2 r3 r4 k) 0) 0))
def qcd (r:qR) (n:Int) (r2:qR) (r3:qR) (r4:qR) (k:Nat):List (List PV):=(gRow (gAt (gObj (qcP r n r2 r3 r4 k) 0) 1))
def qcj (r:qR) (n:Int) (r2:qR) (r3:qR) (r4:qR) (k:Nat):List (List PV):=(gRow (gAt (gObj (qcP r n r2 r3 r4 k) 0) 2))
def qcF (r:qR) (n:Int) (r2:qR) (r3:qR) (r4:qR) (k:Nat):Nat:=(gTok (qcP r n r2 r3 r4 k) 0)
def qb4 (r:qR) (n:Int) (r2:qR) (r3:qR) (r4:qR) (k:Nat):Bool:=isW (qcP r n r2 r3 r4 k) (.ret,[.sl (qb2 r n r2 r3 r4 k) .full,.int .i64 (qb8 r n r2 r3 r4 k)],⟨[[.sl (qcg r n r2 r3 r4 k) .non,.sl (qcd r n r2 r3 r4 k) .non,.sl (qcj r n r2 r3 r4 k) .non]],[((qcF r n r2 r3 r4 k),1,9)],[71]⟩)
def qbI (r:qR) (n:Int) (r2:qR) (r3:qR) (r4:qR) (k:Nat):List (List PV):=(gRow (gOut (qcP r n r2 r3 r4 k) 1))
def qbm (r:qR) (n:Int) (r2:qR) (r3:qR) (r4:qR) (k:Nat):List (List PV):=(gRow (gAt (gObj (qcP r n r2 r3 r4 k) 0) 0))
def qbo (r:qR) (n:Int) (r2:qR) (r3:qR) (r4:qR) (k:Nat):List (List PV):=(gRow (gAt (gObj (qcP r n r2 r3 r4 k) 0) 1))
def qbp (r:qR) (n:Int) (r2:qR) (r3:qR) (r4:qR) (k:Nat):List (List PV):=(gRow (gAt (gObj (qcP r n r2 r3 r4 k) 0) 2))
def qbJ (r:qR) (n:Int) (r2:qR) (r3:qR) (r4:qR) (k:Nat):Nat:=(gTok (qcP r n r2 r3 r4 k) 0)
def qcm (r:qR) (n:Int) (r2:qR) (r3:qR) (r4:qR) (k:Nat):Bool:=isW (qcP r n r2 r3 r4 k) ((.exit 2),[.ptr 0 0,.sl (qbI r n r2 r3 r4 k) (.tok 0)],⟨[[.sl (qbm r n r2 r3 r4 k) .non,.sl (qbo r n r2 r3 r4 k) .non,.sl (qbp r n r2 r3 r4 k) .non]],[((qbJ r n r2 r3 r4 k),1,9)],[71]⟩)
def qip:List PV→Store→Tr (PExit×List PV×Store)|[.ptr 0 0,.sl r (.tok 0),.int .i64 n],⟨[[.sl r2 .non,.sl r3 .non,.sl r4 .non]],[(k,1,9)],[71]⟩=>.ite (qb4 r n r2 r3 r4 k) (.ret (.ret,[.sl (qb2 r n r2 r3 r4 k) .full,.int .i64 (qb8 r n r2 r3 r4 k)],⟨[[.sl (qcg r n r2 r3 r4 k) .non,.sl (qcd r n r2 r3 r4 k) .non,.sl (qcj r n r2 r3 r4 k) .non]],[((qcF r n r2 r3 r4 k),1,9)],[71]⟩)) (.ite (qcm r n r2 r3 r4 k) (.ret ((.exit 2),[.ptr 0 0,.sl (qbI r n r2 r3 r4 k) (.tok 0)],⟨[[.sl (qbm r n r2 r3 r4 k) .non,.sl (qbo r n r2 r3 r4 k) .non,.sl (qbp r n r2 r3 r4 k) .non]],[((qbJ r n r2 r3 r4 k),1,9)],[71]⟩)) (.fail))|_,_=>.fail
theorem qHo:∀ vs σ r,(qip vs σ).run=some r→qdy vs σ=some r:=by
 intro vs σ r h;unfold qip at h
 split at h
 ·exact qai h fun h=>qai h fun h=>by cases h
 ·cases h
theorem qAm (gl:Gl):∀ fr σ e fr' σ',(orc qpu qip fr σ).run=some (e,fr',σ')→LDoes Tryz.prog gl qoM fr σ e fr' σ':=qck qat (qlY gl ) qah (L:=qpO) (qae (by kernel_rfl)) (by kernel_rfl) qHo
def qoA:LI:=⟨84,[1,4,11],fun e=>match e with|.ret=>[2,3]|.exit 4=>[4]|_=>[],true⟩
def qp8:LpsT:=fun r fr σ=>.fail
def qdx (vs:List PV) (σ:Store):Option (PExit×List PV×Store):=lval (lstep tbT qgO qp8 qoY qoA) vs σ
def qiZ (r:qR) (n:Int) (r2:qR) (r3:qR) (r4:qR) (k:Nat):Tr LR:=.ite (iLt n (xLen r4)) (.ite (qav n) (.ite (qa3 [.str [],.sl [] .full,.sl [] .full] r4 (nNat n)) (.ite (qiE (xStr r4 (nNat n) 0) (qaa (xRow r4 (nNat n) 1)) (qaa (xRow r4 (nNat n) 2))) (.ite (iNe (qk5 (xStr r4 (nNat n) 0) (qaa (xRow r4 (nNat n) 1)) (qaa (xRow r4 (nNat n) 2))) 0) (.ret (.out .ret [.sl [] .full,.int .i64 (qk5 (xStr r4 (nNat n) 0) (qaa (xRow r4 (nNat n) 1)) (qaa (xRow r4 (nNat n) 2)))] (Store.mk [[.sl r2 .non,.sl r3 .non,.sl r4 .non]] [(k,1,9)] [71]))) (.ite (qaI r [[.str (qiA (xStr r4 (nNat n) 0) (qaa (xRow r4 (nNat n) 1)) (qaa (xRow r4 (nNat n) 2)))]] 16) (.ite (qaH [[.str (qiA (xStr r4 (nNat n) 0) (qaa (xRow r4 (nNat n) 1)) (qaa (xRow r4 (nNat n) 2)))]] 1) (.ite (qaB r 1) (.ite (nEq k (nXs r)) (.ret (.next [.ptr 0 0,.sl (xApp r [[.str (qiA (xStr r4 (nNat n) 0) (qaa (xRow r4 (nNat n) 1)) (qaa (xRow r4 (nNat n) 2)))]]) (.tok 0),.int .i64 (iAdd .i64 n 1)] (Store.mk [[.sl r2 .non,.sl r3 .non,.sl r4 .non]] [(nXs (xApp r [[.str (qiA (xStr r4 (nNat n) 0) (qaa (xRow r4 (nNat n) 1)) (qaa (xRow r4 (nNat n) 2)))]]),1,9)] [71]))) .fail) .fail) .fail) .fail)) .fail) .fail) .fail) (.ret (.out (.exit 4) [.sl r (.tok 0)] (Store.mk [[.sl r2 .non,.sl r3 .non,.sl r4 .non]] [(k,1,9)] [71])))
theorem qHY (r:qR) (n:Int) (r2:qR) (r3:qR) (r4:qR) (k:Nat):lstep tbT qgO qp8 qoY qoA [.ptr 0 0,.sl r (.tok 0),.int .i64 n] ⟨[[.sl r2 .non,.sl r3 .non,.sl r4 .non]],[(k,1,9)],[71]⟩=qiZ r n r2 r3 r4 k:=by kernel_rfl
theorem qs9 (r:qR) (n:Int) (r2:qR) (r3:qR) (r4:qR) (k:Nat):qdx [.ptr 0 0,.sl r (.tok 0),.int .i64 n] ⟨[[.sl r2 .non,.sl r3 .non,.sl r4 .non]],[(k,1,9)],[71]⟩=lnext qdx (qiZ r n r2 r3 r4 k).run:=by unfold qdx;rw [qbu,qHY]
def qcN (r:qR) (n:Int) (r2:qR) (r3:qR) (r4:qR) (k:Nat):Option (PExit×List PV×Store):=qdx [.ptr 0 0,.sl r (.tok 0),.int .i64 n] ⟨[[.sl r2 .non,.sl r3 .non,.sl r4 .non]],[(k,1,9)],[71]⟩
def qc5 (r:qR) (n:Int) (r2:qR) (r3:qR) (r4:qR) (k:Nat):List (List PV):=(gRow (gOut (qcN r n r2 r3 r4 k) 0))
def qcZ (r:qR) (n:Int) (r2:qR) (r3:qR) (r4:qR) (k:Nat):Int:=(gInt (gOut (qcN r n r2 r3 r4 k) 1))
def qdf (r:qR) (n:Int) (r2:qR) (r3:qR) (r4:qR) (k:Nat):List (List PV):=(gRow (gAt (gObj (qcN r n r2 r3 r4 k) 0) 0))
def qdl (r:qR) (n:Int) (r2:qR) (r3:qR) (r4:qR) (k:Nat):List (List PV):=(gRow (gAt (gObj (qcN r n r2 r3 r4 k) 0) 1))
def qdg (r:qR) (n:Int) (r2:qR) (r3:qR) (r4:qR) (k:Nat):List (List PV):=(gRow (gAt (gObj (qcN r n r2 r3 r4 k) 0) 2))
def qeb (r:qR) (n:Int) (r2:qR) (r3:qR) (r4:qR) (k:Nat):Nat:=(gTok (qcN r n r2 r3 r4 k) 0)
def qc4 (r:qR) (n:Int) (r2:qR) (r3:qR) (r4:qR) (k:Nat):Bool:=isW (qcN r n r2 r3 r4 k) (.ret,[.sl (qc5 r n r2 r3 r4 k) .full,.int .i64 (qcZ r n r2 r3 r4 k)],⟨[[.sl (qdf r n r2 r3 r4 k) .non,.sl (qdl r n r2 r3 r4 k) .non,.sl (qdg r n r2 r3 r4 k) .non]],[((qeb r n r2 r3 r4 k),1,9)],[71]⟩)
def qc0 (r:qR) (n:Int) (r2:qR) (r3:qR) (r4:qR) (k:Nat):List (List PV):=(gRow (gOut (qcN r n r2 r3 r4 k) 0))
def qdh (r:qR) (n:Int) (r2:qR) (r3:qR) (r4:qR) (k:Nat):List (List PV):=(gRow (gAt (gObj (qcN r n r2 r3 r4 k) 0) 0))
def qdk (r:qR) (n:Int) (r2:qR) (r3:qR) (r4:qR) (k:Nat):List (List PV):=(gRow (gAt (gObj (qcN r n r2 r3 r4 k) 0) 1))
def qdj (r:qR) (n:Int) (r2:qR) (r3:qR) (r4:qR) (k:Nat):List (List PV):=(gRow (gAt (gObj (qcN r n r2 r3 r4 k) 0) 2))
def qej (r:qR) (n:Int) (r2:qR) (r3:qR) (r4:qR) (k:Nat):Nat:=(gTok (qcN r n r2 r3 r4 k) 0)
def qdv (r:qR) (n:Int) (r2:qR) (r3:qR) (r4:qR) (k:Nat):Bool:=isW (qcN r n r2 r3 r4 k) ((.exit 4),[.sl (qc0 r n r2 r3 r4 k) (.tok 0)],⟨[[.sl (qdh r n r2 r3 r4 k) .non,.sl (qdk r n r2 r3 r4 k) .non,.sl (qdj r n r2 r3 r4 k) .non]],[((qej r n r2 r3 r4 k),1,9)],[71]⟩)
def qir:List PV→Store→Tr (PExit×List PV×Store)|[.ptr 0 0,.sl r (.tok 0),.int .i64 n],⟨[[.sl r2 .non,.sl r3 .non,.sl r4 .non]],[(k,1,9)],[71]⟩=>.ite (qc4 r n r2 r3 r4 k) (.ret (.ret,[.sl (qc5 r n r2 r3 r4 k) .full,.int .i64 (qcZ r n r2 r3 r4 k)],⟨[[.sl (qdf r n r2 r3 r4 k) .non,.sl (qdl r n r2 r3 r4 k) .non,.sl (qdg r n r2 r3 r4 k) .non]],[((qeb r n r2 r3 r4 k),1,9)],[71]⟩)) (.ite (qdv r n r2 r3 r4 k) (.ret ((.exit 4),[.sl (qc0 r n r2 r3 r4 k) (.tok 0)],⟨[[.sl (qdh r n r2 r3 r4 k) .non,.sl (qdk r n r2 r3 r4 k) .non,.sl (qdj r n r2 r3 r4 k) .non]],[((qej r n r2 r3 r4 k),1,9)],[71]⟩)) (.fail))|_,_=>.fail
theorem qGh:∀ vs σ r,(qir vs σ).run=some r→qdx vs σ=some r:=by
 intro vs σ r h;unfold qir at h
 split at h
 ·exact qai h fun h=>qai h fun h=>by cases h
 ·cases h
theorem qAf (gl:Gl):∀ fr σ e fr' σ',(orc qoA qir fr σ).run=some (e,fr',σ')→LDoes Tryz.prog gl qoY fr σ e fr' σ':=qck qat (qlY gl ) qah (L:=qp8) (qae (by kernel_rfl)) (by kernel_rfl) qGh
def qyP:LpsT:=fun r fr σ=>bif Nat.beq r 3 then orc qoj qh0 fr σ else bif Nat.beq r 10 then orc qpu qip fr σ else bif Nat.beq r 17 then orc qoA qir fr σ else .fail
def qvc (v:qR) (v2:qR) (v3:qR):Tr PV:=.ite (qb3 [] 0 v v2 v3 0) (.ret (.tup [.sl (qcq (qb0 [] 0 v v2 v3 0)) .non,.int .i64 (qb6 [] 0 v v2 v3 0)])) (.ite (qcp [] 0 v v2 v3 0) (.ite (qb4 (qaF [] 0 v v2 v3 0) 0 (qaA [] 0 v v2 v3 0) (qaz [] 0 v v2 v3 0) (qay [] 0 v v2 v3 0) (qaG [] 0 v v2 v3 0)) (.ret (.tup [.sl (qcq (qb2 (qaF [] 0 v v2 v3 0) 0 (qaA [] 0 v v2 v3 0) (qaz [] 0 v v2 v3 0) (qay [] 0 v v2 v3 0) (qaG [] 0 v v2 v3 0))) .non,.int .i64 (qb8 (qaF [] 0 v v2 v3 0) 0 (qaA [] 0 v v2 v3 0) (qaz [] 0 v v2 v3 0) (qay [] 0 v v2 v3 0) (qaG [] 0 v v2 v3 0))])) (.ite (qcm (qaF [] 0 v v2 v3 0) 0 (qaA [] 0 v v2 v3 0) (qaz [] 0 v v2 v3 0) (qay [] 0 v v2 v3 0) (qaG [] 0 v v2 v3 0)) (.ite (qc4 (qbI (qaF [] 0 v v2 v3 0) 0 (qaA [] 0 v v2 v3 0) (qaz [] 0 v v2 v3 0) (qay [] 0 v v2 v3 0) (qaG [] 0 v v2 v3 0)) 0 (qbm (qaF [] 0 v v2 v3 0) 0 (qaA [] 0 v v2 v3 0) (qaz [] 0 v v2 v3 0) (qay [] 0 v v2 v3 0) (qaG [] 0 v v2 v3 0)) (qbo (qaF [] 0 v v2 v3 0) 0 (qaA [] 0 v v2 v3 0) (qaz [] 0 v v2 v3 0) (qay [] 0 v v2 v3 0) (qaG [] 0 v v2 v3 0)) (qbp (qaF [] 0 v v2 v3 0) 0 (qaA [] 0 v v2 v3 0) (qaz [] 0 v v2 v3 0) (qay [] 0 v v2 v3 0) (qaG [] 0 v v2 v3 0)) (qbJ (qaF [] 0 v v2 v3 0) 0 (qaA [] 0 v v2 v3 0) (qaz [] 0 v v2 v3 0) (qay [] 0 v v2 v3 0) (qaG [] 0 v v2 v3 0))) (.ret (.tup [.sl (qcq (qc5
 (qbI (qaF [] 0 v v2 v3 0) 0 (qaA [] 0 v v2 v3 0) (qaz [] 0 v v2 v3 0) (qay [] 0 v v2 v3 0) (qaG [] 0 v v2 v3 0)) 0 (qbm (qaF [] 0 v v2 v3 0) 0 (qaA [] 0 v v2 v3 0) (qaz [] 0 v v2 v3 0) (qay [] 0 v v2 v3 0) (qaG [] 0 v v2 v3 0)) (qbo (qaF [] 0 v v2 v3 0) 0 (qaA [] 0 v v2 v3 0) (qaz [] 0 v v2 v3 0) (qay [] 0 v v2 v3 0) (qaG [] 0 v v2 v3 0)) (qbp (qaF [] 0 v v2 v3 0) 0 (qaA [] 0 v v2 v3 0) (qaz [] 0 v v2 v3 0) (qay [] 0 v v2 v3 0) (qaG [] 0 v v2 v3 0)) (qbJ (qaF [] 0 v v2 v3 0) 0 (qaA [] 0 v v2 v3 0) (qaz [] 0 v v2 v3 0) (qay [] 0 v v2 v3 0) (qaG [] 0 v v2 v3 0)))) .non,.int .i64 (qcZ (qbI (qaF [] 0 v v2 v3 0) 0 (qaA [] 0 v v2 v3 0) (qaz [] 0 v v2 v3 0) (qay [] 0 v v2 v3 0) (qaG [] 0 v v2 v3 0)) 0 (qbm (qaF [] 0 v v2 v3 0) 0 (qaA [] 0 v v2 v3 0) (qaz [] 0 v v2 v3 0) (qay [] 0 v v2 v3 0) (qaG [] 0 v v2 v3 0)) (qbo (qaF [] 0 v v2 v3 0) 0 (qaA [] 0 v v2 v3 0) (qaz [] 0 v v2 v3 0) (qay [] 0 v v2 v3 0) (qaG [] 0 v v2 v3 0)) (qbp (qaF [] 0 v v2 v3 0) 0 (qaA [] 0 v v2 v3 0) (qaz [] 0 v v2 v3 0) (qay [] 0 v v2 v3 0) (qaG [] 0 v v2 v3 0)) (qbJ (qaF [] 0 v v2 v3 0) 0 (qaA [] 0 v v2 v3 0) (qaz [] 0 v v2 v3 0) (qay [] 0 v v2 v3 0) (qaG [] 0 v v2 v3 0)))])) (.ite (qdv (qbI (qaF [] 0 v v2 v3 0) 0 (qaA [] 0 v v2 v3 0) (qaz [] 0 v v2 v3 0) (qay [] 0 v v2 v3 0) (qaG [] 0 v v2 v3 0)) 0
 (qbm (qaF [] 0 v v2 v3 0) 0 (qaA [] 0 v v2 v3 0) (qaz [] 0 v v2 v3 0) (qay [] 0 v v2 v3 0) (qaG [] 0 v v2 v3 0)) (qbo (qaF [] 0 v v2 v3 0) 0 (qaA [] 0 v v2 v3 0) (qaz [] 0 v v2 v3 0) (qay [] 0 v v2 v3 0) (qaG [] 0 v v2 v3 0)) (qbp (qaF [] 0 v v2 v3 0) 0 (qaA [] 0 v v2 v3 0) (qaz [] 0 v v2 v3 0) (qay [] 0 v v2 v3 0) (qaG [] 0 v v2 v3 0)) (qbJ (qaF [] 0 v v2 v3 0) 0 (qaA [] 0 v v2 v3 0) (qaz [] 0 v v2 v3 0) (qay [] 0 v v2 v3 0) (qaG [] 0 v v2 v3 0))) (.ret (.tup [.sl (qcq (qc0 (qbI (qaF [] 0 v v2 v3 0) 0 (qaA [] 0 v v2 v3 0) (qaz [] 0 v v2 v3 0) (qay [] 0 v v2 v3 0) (qaG [] 0 v v2 v3 0)) 0 (qbm (qaF [] 0 v v2 v3 0) 0 (qaA [] 0 v v2 v3 0) (qaz [] 0 v v2 v3 0) (qay [] 0 v v2 v3 0) (qaG [] 0 v v2 v3 0)) (qbo (qaF [] 0 v v2 v3 0) 0 (qaA [] 0 v v2 v3 0) (qaz [] 0 v v2 v3 0) (qay [] 0 v v2 v3 0) (qaG [] 0 v v2 v3 0)) (qbp (qaF [] 0 v v2 v3 0) 0 (qaA [] 0 v v2 v3 0) (qaz [] 0 v v2 v3 0) (qay [] 0 v v2 v3 0) (qaG [] 0 v v2 v3 0)) (qbJ (qaF [] 0 v v2 v3 0) 0 (qaA [] 0 v v2 v3 0) (qaz [] 0 v v2 v3 0) (qay [] 0 v v2 v3 0) (qaG [] 0 v v2 v3 0)))) .non,.int .i64 0])) .fail)) .fail)) .fail)
theorem qMV (v:qR) (v2:qR) (v3:qR):(tcall tbT qgO qyP Tryz.f66 [.agg [.sl v .non,.sl v2 .non,.sl v3 .non]]).flat=qvc v v2 v3:=by kernel_rfl
def qpH (v:qR) (v2:qR) (v3:qR):Option PV:=(qvc v v2 v3).run
def qgl (v:qR) (v2:qR) (v3:qR):List (List PV):=(gRow (gAt (gCs (gVal (qpH v v2 v3))) 0))
def qif (v:qR) (v2:qR) (v3:qR):Int:=(gInt (gAt (gCs (gVal (qpH v v2 v3))) 1))
def qg4 (v:qR) (v2:qR) (v3:qR):Bool:=isW (qpH v v2 v3) (.tup [.sl (qgl v v2 v3) .non,.int .i64 (qif v v2 v3)])
def qyb:List PV→Tr PV|[.agg [.sl v .non,.sl v2 .non,.sl v3 .non]]=>.ite (qg4 v v2 v3) (.ret (.tup [.sl (qgl v v2 v3) .non,.int .i64 (qif v v2 v3)])) (.fail)|_=>.fail
theorem qHm (gl:Gl):SimP Tryz.prog gl 66 fun args=>(qyb args).run:=by
 refine SimP.of_flat (G:=qgO) (L:=qyP) qat (qlY gl ) qah  Tryz.func66 rfl (by rfl) (by kernel_rfl) (qaX (L:=lps qyP) [(3,qoL),(10,qoM),(17,qoY)] (by kernel_rfl) (List.forall_mem_cons.2 ⟨fun fr σ e fr' σ' h=>qzy gl  fr σ e fr' σ' h,(List.forall_mem_cons.2 ⟨fun fr σ e fr' σ' h=>qAm gl  fr σ e fr' σ' h,(List.forall_mem_cons.2 ⟨fun fr σ e fr' σ' h=>qAf gl  fr σ e fr' σ' h,(List.forall_mem_nil _)⟩)⟩)⟩)) ?_
 intro args x h;unfold qyb at h
 split at h
 ·exact (congrArg Tr.run (qMV _ _ _)).trans (qai h fun h=>by cases h)
 ·cases h
def qiW:GamT:=ofL [(66,.pure qyb),(qdX,.hint [(6,0,1,5)])]
theorem qq4 (gl:Gl):qaU Tryz.prog gl (gam qiW):=(qac (qHm gl) (qbv (K:=.hint [(6,0,1,5)]) trivial qag))
def qjr:Code:=qdT Tryz.f37 6
def qj4:LI:=⟨35,[4,6,7],fun e=>match e with|.exit 0=>[6]|_=>[],true⟩
def qk1:LpsT:=fun r fr σ=>.fail
def qfZ (vs:List PV) (σ:Store):Option (PExit×List PV×Store):=lval (lstep tbT qiW qk1 qjr qj4) vs σ
def qgy (l:qR) (b:qR) (i:Int) (r:qR) (r2:qR) (r3:qR) (k:Nat):Tr LR:=.ite (iLt i (xLen l)) (.ite (qav i) (.ite (qa3 [.str []] l (nNat i)) (.ite (qaI b (qab (xStr l (nNat i) 0)) 1) (.ite (qaH (qab (xStr l (nNat i) 0)) 1) (.ite (qaB b 1) (.ite (xNil (qab (xStr l (nNat i) 0))) (.ite (qaI b [[.int .u8 10]] 1) (.ite (qaH [[.int .u8 10]] 1) (.ite (qaB b 1) (.ite (nEq k (nXs b)) (.ret (.next [.sl l .non,.sl (xApp b [[.int .u8 10]]) (.tok 0),.int .i64 (iAdd .i64 i 1)] (Store.mk [[.sl r .non,.sl r2 .non,.sl r3 .non]] [(nXs (xApp b [[.int .u8 10]]),1,5)] [71]))) .fail) .fail) .fail) .fail) (.ite (nEq k (nXs b)) (.ite (qaI (xApp b (qab (xStr l (nNat i) 0))) [[.int .u8 10]] 1) (.ite (qaH [[.int .u8 10]] 1) (.ite (qaB (xApp b (qab (xStr l (nNat i) 0))) 1) (.ite (nEq (nXs (xApp b (qab (xStr l (nNat i) 0)))) (nXs (xApp b (qab (xStr l (nNat i) 0))))) (.ret (.next [.sl l .non,.sl (xApp (xApp b (qab (xStr l (nNat i) 0))) [[.int .u8 10]]) (.tok 0),.int .i64 (iAdd .i64 i 1)] (Store.mk [[.sl r .non,.sl r2 .non,.sl r3 .non]] [(nXs (xApp (xApp b (qab (xStr l (nNat i) 0))) [[.int .u8 10]]),1,5)] [71]))) .fail) .fail) .fail) .fail) .fail)) .fail) .fail) .fail) .fail) .fail) (.ret (.out (.exit 0) [.sl b (.tok 0)] (Store.mk [[.sl r .non,.sl r2 .non,.sl r3 .non]] [(k,1,5)] [71])))
theorem qDn (l:qR) (b:qR) (i:Int) (r:qR) (r2:qR) (r3:qR) (k:Nat):lstep tbT qiW qk1 qjr qj4 [.sl l .non,.sl b (.tok 0),.int .i64 i] ⟨[[.sl r .non,.sl r2 .non,.sl r3 .non]],[(k,1,5)],[71]⟩=qgy l b i r r2 r3 k:=by kernel_rfl
theorem qs4 (l:qR) (b:qR) (i:Int) (r:qR) (r2:qR) (r3:qR) (k:Nat):qfZ [.sl l .non,.sl b (.tok 0),.int .i64 i] ⟨[[.sl r .non,.sl r2 .non,.sl r3 .non]],[(k,1,5)],[71]⟩=lnext qfZ (qgy l b i r r2 r3 k).run:=by unfold qfZ;rw [qbu,qDn]
def qe0 (l:qR) (b:qR) (i:Int) (r:qR) (r2:qR) (r3:qR) (k:Nat):Option (PExit×List PV×Store):=qfZ [.sl l .non,.sl b (.tok 0),.int .i64 i] ⟨[[.sl r .non,.sl r2 .non,.sl r3 .non]],[(k,1,5)],[71]⟩
def qex (l:qR) (b:qR) (i:Int) (r:qR) (r2:qR) (r3:qR) (k:Nat):List (List PV):=(gRow (gOut (qe0 l b i r r2 r3 k) 0))
def qkp (l:qR) (b:qR) (i:Int) (r:qR) (r2:qR) (r3:qR) (k:Nat):List (List PV):=(gRow (gAt (gObj (qe0 l b i r r2 r3 k) 0) 0))
def qh6 (l:qR) (b:qR) (i:Int) (r:qR) (r2:qR) (r3:qR) (k:Nat):List (List PV):=(gRow (gAt (gObj (qe0 l b i r r2 r3 k) 0) 1))
def qij (l:qR) (b:qR) (i:Int) (r:qR) (r2:qR) (r3:qR) (k:Nat):List (List PV):=(gRow (gAt (gObj (qe0 l b i r r2 r3 k) 0) 2))
def qj2 (l:qR) (b:qR) (i:Int) (r:qR) (r2:qR) (r3:qR) (k:Nat):Nat:=(gTok (qe0 l b i r r2 r3 k) 0)
def qfj (l:qR) (b:qR) (i:Int) (r:qR) (r2:qR) (r3:qR) (k:Nat):Bool:=isW (qe0 l b i r r2 r3 k) ((.exit 0),[.sl (qex l b i r r2 r3 k) (.tok 0)],⟨[[.sl (qkp l b i r r2 r3 k) .non,.sl (qh6 l b i r r2 r3 k) .non,.sl (qij l b i r r2 r3 k) .non]],[((qj2 l b i r r2 r3 k),1,5)],[71]⟩)
def qgo:List PV→Store→Tr (PExit×List PV×Store)|[.sl l .non,.sl b (.tok 0),.int .i64 i],⟨[[.sl r .non,.sl r2 .non,.sl r3 .non]],[(k,1,5)],[71]⟩=>.ite (qfj l b i r r2 r3 k) (.ret ((.exit 0),[.sl (qex l b i r r2 r3 k) (.tok 0)],⟨[[.sl (qkp l b i r r2 r3 k) .non,.sl (qh6 l b i r r2 r3 k) .non,.sl (qij l b i r r2 r3 k) .non]],[((qj2 l b i r r2 r3 k),1,5)],[71]⟩)) (.fail)|_,_=>.fail
theorem qAH:∀ vs σ r,(qgo vs σ).run=some r→qfZ vs σ=some r:=by
 intro vs σ r h;unfold qgo at h
 split at h
 ·exact qai h fun h=>by cases h
 ·cases h
theorem qvW (gl:Gl):∀ fr σ e fr' σ',(orc qj4 qgo fr σ).run=some (e,fr',σ')→LDoes Tryz.prog gl qjr fr σ e fr' σ':=qck qat (qq4 gl ) qah (L:=qk1) (qae (by kernel_rfl)) (by kernel_rfl) qAH
def qqn:LpsT:=fun r fr σ=>bif Nat.beq r 6 then orc qj4 qgo fr σ else .fail
def qnl (p_:qR) (p_2:qR) (p_3:qR):Tr PV:=.ite (qg4 (qaa p_) (qaa p_2) (qaa p_3)) (.ite (iNe (qif (qaa p_) (qaa p_2) (qaa p_3)) 0) (.ret (.tup [.str [],.int .i64 (qif (qaa p_) (qaa p_2) (qaa p_3))])) (.ite (qfj (qgl (qaa p_) (qaa p_2) (qaa p_3)) [] 0 p_ p_2 p_3 0) (.ite (iLt 65536 (xLen (qex (qgl (qaa p_) (qaa p_2) (qaa p_3)) [] 0 p_ p_2 p_3 0))) (.ret (.tup [.str [],.int .i64 2])) (.ite (qdS (qex (qgl (qaa p_) (qaa p_2) (qaa p_3)) [] 0 p_ p_2 p_3 0)) (.ret (.tup [.str (qcL (qex (qgl (qaa p_) (qaa p_2) (qaa p_3)) [] 0 p_ p_2 p_3 0)),.int .i64 0])) .fail)) .fail)) .fail
theorem qG9 (p_:qR) (p_2:qR) (p_3:qR):(tcall tbT qiW qqn Tryz.f37 [.agg [.sl p_ .non,.sl p_2 .non,.sl p_3 .non]]).flat=qnl p_ p_2 p_3:=by kernel_rfl
def qiL (p_:qR) (p_2:qR) (p_3:qR):Option PV:=(qnl p_ p_2 p_3).run
def qfR (p_:qR) (p_2:qR) (p_3:qR):List UInt8:=(gStr (gAt (gCs (gVal (qiL p_ p_2 p_3))) 0))
def qf4 (p_:qR) (p_2:qR) (p_3:qR):Int:=(gInt (gAt (gCs (gVal (qiL p_ p_2 p_3))) 1))
def qe7 (p_:qR) (p_2:qR) (p_3:qR):Bool:=isW (qiL p_ p_2 p_3) (.tup [.str (qfR p_ p_2 p_3),.int .i64 (qf4 p_ p_2 p_3)])
def qqU:List PV→Tr PV|[.agg [.sl p_ .non,.sl p_2 .non,.sl p_3 .non]]=>.ite (qe7 p_ p_2 p_3) (.ret (.tup [.str (qfR p_ p_2 p_3),.int .i64 (qf4 p_ p_2 p_3)])) (.fail)|_=>.fail
theorem qAP (gl:Gl):SimP Tryz.prog gl 37 fun args=>(qqU args).run:=by
 refine SimP.of_flat (G:=qiW) (L:=qqn) qat (qq4 gl ) qah  Tryz.func37 rfl (by rfl) (by kernel_rfl) (qaX (L:=lps qqn) [(6,qjr)] (by kernel_rfl) (List.forall_mem_cons.2 ⟨fun fr σ e fr' σ' h=>qvW gl  fr σ e fr' σ' h,(List.forall_mem_nil _)⟩)) ?_
 intro args x h;unfold qqU at h
 split at h
 ·exact (congrArg Tr.run (qG9 _ _ _)).trans (qai h fun h=>by cases h)
 ·cases h
end Go.Pv
