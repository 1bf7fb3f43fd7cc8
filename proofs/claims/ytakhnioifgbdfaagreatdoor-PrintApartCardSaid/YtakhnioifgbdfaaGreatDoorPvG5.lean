/- Part 5 of the proof: pure values for the machine's values, what functions compute over them, and laws of what is computed. Conditions: none beyond each theorem's own premises. -/
import Derived.Test.YtakhnioifgbdfaaGreatDoorPvG4
noncomputable section
set_option maxHeartbeats 8000000
set_option maxRecDepth 200000
set_option synthInstance.maxHeartbeats 1000000
set_option synthInstance.maxSize 10000
set_option linter.unusedSimpArgs false
set_option linter.unusedVariables false
namespace Go.Pv
open Go Go.Proofs Go.RowKit
theorem tm_b (t u:Tm):(decide (t.1=u.1)&&(decide (t.2.1=u.2.1)&&((decide (t.2.2.1=u.2.2.1)&&(decide (t.2.2.2.1=u.2.2.2.1)&&(decide (t.2.2.2.2=u.2.2.2.2)&&true)))&&true)))=decide (t=u):=by
 obtain⟨a,b,c,d,e⟩:=t;obtain⟨a',b',c',d',e'⟩:=u;rw [Bool.eq_iff_iff];simp
theorem qo7 (a b:Li) (hn:a.2.1.2.length≤100000):ql1 a.1 a.2.1.1 (rOf cM a.2.1.2) a.2.2.1 a.2.2.2.1.1 a.2.2.2.1.2.1 a.2.2.2.1.2.2.1 a.2.2.2.1.2.2.2.1 a.2.2.2.1.2.2.2.2 a.2.2.2.2.1 a.2.2.2.2.2.1 a.2.2.2.2.2.2.1 a.2.2.2.2.2.2.2.1 a.2.2.2.2.2.2.2.2 b.1 b.2.1.1 (rOf cM b.2.1.2) b.2.2.1 b.2.2.2.1.1 b.2.2.2.1.2.1 b.2.2.2.1.2.2.1 b.2.2.2.1.2.2.2.1 b.2.2.2.1.2.2.2.2 b.2.2.2.2.1 b.2.2.2.2.2.1 b.2.2.2.2.2.2.1 b.2.2.2.2.2.2.2.1 b.2.2.2.2.2.2.2.2=some (.bool (decide (a=b))):=by
 have b0:bAnd=and:=rfl;have e1:=qja a.2.1 b.2.1 hn;have e2:=qlS a.2.1 b.2.1 hn;unfold ql1 qnU;simp only [qaw,e1,e2,b0,qpi,qoQ,Tr.run_ite,Tr.run_ret,if_true,tm_b,decide_eq_true_eq];obtain⟨k,A,p,t,u⟩:=a;obtain⟨k',A',p',t',u'⟩:=b;by_cases h1:k=k'<;>by_cases h2:A=A'<;>by_cases h3:p=p'<;>by_cases h4:t=t'<;>simp [h1,h2,h3,h4]
theorem qsH (a b:Li) (hn:a.2.1.2.length≤100000):qfy a.1 a.2.1.1 (rOf cM a.2.1.2) a.2.2.1 a.2.2.2.1.1 a.2.2.2.1.2.1 a.2.2.2.1.2.2.1 a.2.2.2.1.2.2.2.1 a.2.2.2.1.2.2.2.2 a.2.2.2.2.1 a.2.2.2.2.2.1 a.2.2.2.2.2.2.1 a.2.2.2.2.2.2.2.1 a.2.2.2.2.2.2.2.2 b.1 b.2.1.1 (rOf cM b.2.1.2) b.2.2.1 b.2.2.2.1.1 b.2.2.2.1.2.1 b.2.2.2.1.2.2.1 b.2.2.2.1.2.2.2.1 b.2.2.2.1.2.2.2.2 b.2.2.2.2.1 b.2.2.2.2.2.1 b.2.2.2.2.2.2.1 b.2.2.2.2.2.2.2.1 b.2.2.2.2.2.2.2.2=true:=by simp only [qhC,qfy,qo7 a b hn];simp
theorem qvM (a b:Li) (hn:a.2.1.2.length≤100000):qhC a.1 a.2.1.1 (rOf cM a.2.1.2) a.2.2.1 a.2.2.2.1.1 a.2.2.2.1.2.1 a.2.2.2.1.2.2.1 a.2.2.2.1.2.2.2.1 a.2.2.2.1.2.2.2.2 a.2.2.2.2.1 a.2.2.2.2.2.1 a.2.2.2.2.2.2.1 a.2.2.2.2.2.2.2.1 a.2.2.2.2.2.2.2.2 b.1 b.2.1.1 (rOf cM b.2.1.2) b.2.2.1 b.2.2.2.1.1 b.2.2.2.1.2.1 b.2.2.2.1.2.2.1 b.2.2.2.1.2.2.2.1 b.2.2.2.1.2.2.2.2 b.2.2.2.2.1 b.2.2.2.2.2.1 b.2.2.2.2.2.2.1 b.2.2.2.2.2.2.2.1 b.2.2.2.2.2.2.2.2=decide (a=b):=by simp only [qhC,qfy,qo7 a b hn];simp
theorem qsF (s s2:Txt) (r r3:qR) {l m:List Li} (hlen:l.length=m.length) (hn:l.length≤100000) (hs:∀ x∈l,x.2.1.2.length≤100000):qcB [.ptr 0 0,.ptr 1 0,.int .i64 0] ⟨[[.str s,.sl r .non,.sl (rOf cL l) .non],[.str s2,.sl r3 .non,.sl (rOf cL m) .non]],[],[48,48]⟩ =
  if l=m then some (.exit 0,[],⟨[[.str s,.sl r .non,.sl (rOf cL l) .non],[.str s2,.sl r3 .non,.sl (rOf cL m) .non]],[],[48,48]⟩) else some (.ret,[.bool false],⟨[[.str s,.sl r .non,.sl (rOf cL l) .non],[.str s2,.sl r3 .non,.sl (rOf cL m) .non]],[],[48,48]⟩):=by
 refine qje hlen (V:=fun i=>qcB [.ptr 0 0,.ptr 1 0,.int .i64 (i:Nat)] ⟨[[.str s,.sl r .non,.sl (rOf cL l) .non],[.str s2,.sl r3 .non,.sl (rOf cL m) .non]],[],[48,48]⟩) _ _ ?_ ?_ ?_
 ·intro i hi hj he;have w:=qbQ (i:=i) (by omega)
  have b0:bAnd=and:=rfl;have e1:=qsH l[i] m[i] (hs _ (List.getElem_mem hi));have e2:=qvM l[i] m[i] (hs _ (List.getElem_mem hi));show qcB _ _=qcB [.ptr 0 0,.ptr 1 0,.int .i64 ((i+1:Nat):Int)] ⟨[[.str s,.sl r .non,.sl (rOf cL l) .non],[.str s2,.sl r3 .non,.sl (rOf cL m) .non]],[],[48,48]⟩
  rw [qos,← w];rw [he] at e1 e2;simp [qfH,hi,hj,b0,he,e1,e2]
 ·intro i hi hj he;have b0:bAnd=and:=rfl;have e1:=qsH l[i] m[i] (hs _ (List.getElem_mem hi));have e2:=qvM l[i] m[i] (hs _ (List.getElem_mem hi));show qcB _ _=_
  rw [qos];simp [qfH,hi,hj,b0,e1,e2,he]
 ·show qcB _ _=_
  rw [qos];simp [qfH,hlen]
theorem qsy (s s2:Txt) (b b2:Bool) {l m:List Int} (hlen:l.length=m.length) (hn:l.length≤100000):qcz [.ptr 0 0,.ptr 1 0,.int .i64 0] ⟨[[.str s,.bool b,.sl (rOf cI l) .non],[.str s2,.bool b2,.sl (rOf cI m) .non]],[],[51,51]⟩ =
  if l=m then some (.exit 0,[],⟨[[.str s,.bool b,.sl (rOf cI l) .non],[.str s2,.bool b2,.sl (rOf cI m) .non]],[],[51,51]⟩) else some (.ret,[.bool false],⟨[[.str s,.bool b,.sl (rOf cI l) .non],[.str s2,.bool b2,.sl (rOf cI m) .non]],[],[51,51]⟩):=by
 refine qje hlen (V:=fun i=>qcz [.ptr 0 0,.ptr 1 0,.int .i64 (i:Nat)] ⟨[[.str s,.bool b,.sl (rOf cI l) .non],[.str s2,.bool b2,.sl (rOf cI m) .non]],[],[51,51]⟩) _ _ ?_ ?_ ?_
 ·intro i hi hj he;have w:=qbQ (i:=i) (by omega)
  have b0:bAnd=and:=rfl;show qcz _ _=qcz [.ptr 0 0,.ptr 1 0,.int .i64 ((i+1:Nat):Int)] ⟨[[.str s,.bool b,.sl (rOf cI l) .non],[.str s2,.bool b2,.sl (rOf cI m) .non]],[],[51,51]⟩
  rw [qmT,← w];simp [qfE,hi,hj,b0,he]
 ·intro i hi hj he;have b0:bAnd=and:=rfl;show qcz _ _=_
  rw [qmT];simp [qfE,hi,hj,b0,he]
 ·show qcz _ _=_
  rw [qmT];simp [qfE,hlen]
theorem qrw (s s2:Txt) (r2 r4:qR) {l m:List Pa} (hlen:l.length=m.length) (hn:l.length≤100000):qcN [.ptr 0 0,.ptr 1 0,.int .i64 0] ⟨[[.str s,.sl (rOf cP l) .non,.sl r2 .non],[.str s2,.sl (rOf cP m) .non,.sl r4 .non]],[],[55,55]⟩ =
  if l=m then some (.exit 0,[.ptr 0 0,.ptr 1 0],⟨[[.str s,.sl (rOf cP l) .non,.sl r2 .non],[.str s2,.sl (rOf cP m) .non,.sl r4 .non]],[],[55,55]⟩) else some (.ret,[.bool false],⟨[[.str s,.sl (rOf cP l) .non,.sl r2 .non],[.str s2,.sl (rOf cP m) .non,.sl r4 .non]],[],[55,55]⟩):=by
 refine qje hlen (V:=fun i=>qcN [.ptr 0 0,.ptr 1 0,.int .i64 (i:Nat)] ⟨[[.str s,.sl (rOf cP l) .non,.sl r2 .non],[.str s2,.sl (rOf cP m) .non,.sl r4 .non]],[],[55,55]⟩) _ _ ?_ ?_ ?_
 ·intro i hi hj he;have w:=qbQ (i:=i) (by omega)
  have b0:bAnd=and:=rfl;show qcN _ _=qcN [.ptr 0 0,.ptr 1 0,.int .i64 ((i+1:Nat):Int)] ⟨[[.str s,.sl (rOf cP l) .non,.sl r2 .non],[.str s2,.sl (rOf cP m) .non,.sl r4 .non]],[],[55,55]⟩
  rw [qnI,← w];simp [qfF,hi,hj,b0,he]
 ·intro i hi hj he;have b0:bAnd=and:=rfl;have hne:(decide (l[i].1=m[i].1)&&(decide (l[i].2=m[i].2)&&true))=false:=by
   cases hd:(decide (l[i].1=m[i].1)&&(decide (l[i].2=m[i].2)&&true)) with
   |false=>rfl
   |true =>
    simp only [Bool.and_eq_true,decide_eq_true_eq,and_true] at hd;exact absurd (Prod.ext hd.1 hd.2) he
  have x0:xStr (rOf cP l) (nNat (i:Int)) 0=l[i].1:=by simp [hi]
  have x1:xInt (rOf cP l) (nNat (i:Int)) 1=l[i].2:=by simp [hi]
  have y0:xStr (rOf cP m) (nNat (i:Int)) 0=m[i].1:=by simp [hj]
  have y1:xInt (rOf cP m) (nNat (i:Int)) 1=m[i].2:=by simp [hj]
  show qcN _ _=_
  rw [qnI];simp only [qfF,x0,x1,y0,y1,b0,qpi,qoQ,hne];simp [hi,hj]
 ·show qcN _ _=_
  rw [qnI];simp [qfF,hlen]
theorem qrP (s s2:Txt) (r r3:qR) {l m:List Ac} (hlen:l.length=m.length) (hn:l.length≤100000) (hs:∀ x∈l,x.2.2.length≤100000):qcO [.ptr 0 0,.ptr 1 0,.int .i64 0] ⟨[[.str s,.sl r .non,.sl (rOf cAc l) .non],[.str s2,.sl r3 .non,.sl (rOf cAc m) .non]],[],[55,55]⟩ =
  if l=m then some (.exit 2,[],⟨[[.str s,.sl r .non,.sl (rOf cAc l) .non],[.str s2,.sl r3 .non,.sl (rOf cAc m) .non]],[],[55,55]⟩) else some (.ret,[.bool false],⟨[[.str s,.sl r .non,.sl (rOf cAc l) .non],[.str s2,.sl r3 .non,.sl (rOf cAc m) .non]],[],[55,55]⟩):=by
 refine qje hlen (V:=fun i=>qcO [.ptr 0 0,.ptr 1 0,.int .i64 (i:Nat)] ⟨[[.str s,.sl r .non,.sl (rOf cAc l) .non],[.str s2,.sl r3 .non,.sl (rOf cAc m) .non]],[],[55,55]⟩) _ _ ?_ ?_ ?_
 ·intro i hi hj he;have w:=qbQ (i:=i) (by omega)
  have b0:bAnd=and:=rfl;have e1:=qja l[i].2 m[i].2 (hs _ (List.getElem_mem hi));have e2:=qlS l[i].2 m[i].2 (hs _ (List.getElem_mem hi));show qcO _ _=qcO [.ptr 0 0,.ptr 1 0,.int .i64 ((i+1:Nat):Int)] ⟨[[.str s,.sl r .non,.sl (rOf cAc l) .non],[.str s2,.sl r3 .non,.sl (rOf cAc m) .non]],[],[55,55]⟩
  rw [qm8,← w];rw [he] at e1 e2;simp [qd2,hi,hj,b0,he,e1,e2]
 ·intro i hi hj he;have b0:bAnd=and:=rfl;have e1:=qja l[i].2 m[i].2 (hs _ (List.getElem_mem hi));have e2:=qlS l[i].2 m[i].2 (hs _ (List.getElem_mem hi));show qcO _ _=_
  rw [qm8];by_cases h1:l[i].1=m[i].1
  ·have h2:¬ l[i].2=m[i].2:=fun h=>he (Prod.ext h1 h)
   simp [qd2,hi,hj,b0,e1,e2,h1,h2]
  ·simp [qd2,hi,hj,b0,e1,e2,h1]
 ·show qcO _ _=_
  rw [qm8];simp [qd2,hlen]
theorem qoY (a b:Ru) (hs:ruS a):qlN a.1.1 (rOf cM a.1.2) (rOf cL a.2) b.1.1 (rOf cM b.1.2) (rOf cL b.2)=some (.bool (decide (a=b))):=by
 have hs2:∀ x∈a.2,x.2.1.2.length≤100000:=fun x hx=>by have:=(hs.2.2 x hx).1.2.1;omega
 have e1:=qja a.1 b.1 (by have:=hs.1.2.1;omega)
 have e2:=qlS a.1 b.1 (by have:=hs.1.2.1;omega)
 have hl:=hs.2.1;obtain⟨A,l⟩:=a;obtain⟨B,m⟩:=b;unfold qlN qmO;simp only [qaw,e1,e2,Tr.run_ite,if_true];by_cases h1:A=B
 ·by_cases h2:l.length=m.length
  ·have h:=qsF A.1 B.1 (rOf cM A.2) (rOf cM B.2) h2 (by simp only at hl;omega) hs2
   have h':qbN 0 A.1 (rOf cM A.2) (rOf cL l) B.1 (rOf cM B.2) (rOf cL m)=_:=h;by_cases h3:l=m
   ·rw [if_pos h3] at h';simp only [qeG,qgp,qgt,qfb,qeP,qfg,qfp,qfc,qeL,qgK,qgi,qeO,qeZ,qf9,qfW,h'];simp [h1,h3]
   ·rw [if_neg h3] at h';simp only [qeG,qgp,qgt,qfb,qeP,qfg,qfp,qfc,qeL,qgK,qgi,qeO,qeZ,qf9,qfW,h'];simp [h1,h2,h3]
  ·have h3:l≠m:=fun h=>h2 (by rw [h])
   have h4:¬ ((l.length:Int)=m.length):=by omega
   simp [h1,h3,h4]
 ·simp [h1]
theorem qyH (a b:Ru) (hs:ruS a):qfD a.1.1 (rOf cM a.1.2) (rOf cL a.2) b.1.1 (rOf cM b.1.2) (rOf cL b.2)=true:=by simp only [qcu,qfD,qoY a b hs];simp
theorem qAL (a b:Ru) (hs:ruS a):qcu a.1.1 (rOf cM a.1.2) (rOf cL a.2) b.1.1 (rOf cM b.1.2) (rOf cL b.2)=decide (a=b):=by simp only [qcu,qfD,qoY a b hs];simp
theorem qoZ (a b:De) (hs:deS a):qmn a.1 a.2.1 (rOf cI a.2.2) b.1 b.2.1 (rOf cI b.2.2)=some (.bool (decide (a=b))):=by
 have hl:=hs.2;obtain⟨s,x,l⟩:=a;obtain⟨s',x',m⟩:=b;unfold qmn qm9;have bq:bEq x x'=decide (x=x'):=by cases x<;>cases x'<;>rfl
 by_cases h1:s=s'
 ·by_cases h0:x=x'
  ·by_cases h2:l.length=m.length
   ·have h:=qsy s s' x x' h2 (by simp only at hl;omega)
    have h':qbL 0 s x (rOf cI l) s' x' (rOf cI m)=_:=h;by_cases h3:l=m
    ·rw [if_pos h3] at h';simp only [qfq,qe4,qeY,qev,qgA,qfR,qfT,qfn,qfi,qgO,qgw,qeN,qe7,qgH,qgX,h'];simp [h1,h3,h0,bq]
    ·rw [if_neg h3] at h';simp only [qfq,qe4,qeY,qev,qgA,qfR,qfT,qfn,qfi,qgO,qgw,qeN,qe7,qgH,qgX,h'];simp [h1,h2,h3,h0,bq]
   ·have h3:l≠m:=fun h=>h2 (by rw [h])
    have h4:¬ ((l.length:Int)=m.length):=by omega
    simp [h1,h3,h4,h0,bq]
  ·simp [h1,h0,bq]
 ·simp [h1]
theorem qyE (a b:De) (hs:deS a):qbS a.1 a.2.1 (rOf cI a.2.2) b.1 b.2.1 (rOf cI b.2.2)=true:=by simp only [qcw,qbS,qoZ a b hs];simp
theorem qAu (a b:De) (hs:deS a):qcw a.1 a.2.1 (rOf cI a.2.2) b.1 b.2.1 (rOf cI b.2.2)=decide (a=b):=by simp only [qcw,qbS,qoZ a b hs];simp
theorem qoW (a b:En) (hs:enS a):qma a.1 (rOf cP a.2.1) (rOf cAc a.2.2) b.1 (rOf cP b.2.1) (rOf cAc b.2.2)=some (.bool (decide (a=b))):=by
 have hs2:∀ x∈a.2.2,x.2.2.length≤100000:=fun x hx=>by have h0:atS x.2:=hs.2.2.2 x hx;have:=h0.2.1;omega
 have hl:=hs.2.1.1;have hl2:=hs.2.2.1;obtain⟨s,l,l2⟩:=a;obtain⟨s',m,m2⟩:=b;unfold qma qnT;by_cases h1:s=s'
 ·by_cases h2:l.length=m.length
  ·by_cases h2':l2.length=m2.length
   ·have h:=qrw s s' (rOf cAc l2) (rOf cAc m2) h2 (by simp only at hl;omega)
    have h':qbO 0 s (rOf cP l) (rOf cAc l2) s' (rOf cP m) (rOf cAc m2)=_:=h;by_cases h3:l=m
    ·rw [if_pos h3] at h';have k:=qrP s s' (rOf cP l) (rOf cP m) h2' (by simp only at hl2;omega) hs2
     have k':qbK 0 s (rOf cP l) (rOf cAc l2) s' (rOf cP m) (rOf cAc m2)=_:=k;by_cases h5:l2=m2
     ·rw [if_pos h5] at k';simp only [qdD,qd4,qef,qdJ,qcc,qdL,qb9,qdQ,qca,qea,qcP,qdP,qcd,qec,qcD,qd9,qgY,qfS,qeK,qfh,qff,qfl,qe1,qeV,qgV,qgS,qeQ,qfa,qgF,qfQ,h'];simp [h1,h3,h5] at k' ⊢;simp [k']
     ·rw [if_neg h5] at k';simp only [qdD,qd4,qef,qdJ,qcc,qdL,qb9,qdQ,qca,qea,qcP,qdP,qcd,qec,qcD,qd9,qgY,qfS,qeK,qfh,qff,qfl,qe1,qeV,qgV,qgS,qeQ,qfa,qgF,qfQ,h'];simp [h1,h3,h5,h2'] at k' ⊢;simp [k']
    ·rw [if_neg h3] at h';simp only [qdD,qd4,qef,qdJ,qcc,qdL,qb9,qdQ,qca,qea,qcP,qdP,qcd,qec,qcD,h'];simp [h1,h2,h2',h3]
   ·have h3:l2≠m2:=fun h=>h2' (by rw [h])
    have h4:¬ ((l2.length:Int)=m2.length):=by omega
    simp [h1,h2,h3,h4]
  ·have h3:l≠m:=fun h=>h2 (by rw [h])
   have h4:¬ ((l.length:Int)=m.length):=by omega
   simp [h1,h3,h4]
 ·simp [h1]
theorem qxm (a b:En) (hs:enS a):qdw a.1 (rOf cP a.2.1) (rOf cAc a.2.2) b.1 (rOf cP b.2.1) (rOf cAc b.2.2)=true:=by simp only [qcv,qdw,qoW a b hs];simp
theorem qBV (a b:En) (hs:enS a):qcv a.1 (rOf cP a.2.1) (rOf cAc a.2.2) b.1 (rOf cP b.2.1) (rOf cAc b.2.2)=decide (a=b):=by simp only [qcv,qdw,qoW a b hs];simp
theorem qBZ {r:Ru} (h:ruR r):ruR (cpRu r):=by
 have:=(qCq (p:=([],[],[r])) ⟨fun o ho=>(by cases ho),fun x hx=>(by simp at hx;subst hx;exact h)⟩).2 (cpRu r) (by simp [cpPr])
 exact this
theorem qCb {o:En} (h:enR o):enR (cpEn o):=by
 have:=(qCq (p:=([],[o],[])) ⟨fun x hx=>(by simp at hx;subst hx;exact h),fun x hx=>(by cases hx)⟩).1 (cpEn o) (by simp [cpPr])
 exact this
theorem qrl {α:Type} [DecidableEq α] {ok:α→Bool} {T:α→Txt} {a b:α} (hi:ok a=true→ok b=true→(T a=T b↔a=b)) (h1:tdE (ok a)=0) (h2:tdE (ok b)=0):(decide (tdS (ok a) (T a)=tdS (ok b) (T b)) == decide (a=b))=true:=by
 have k1:ok a=true:=by unfold tdE at h1;split at h1<;>simp_all
 have k2:ok b=true:=by unfold tdE at h2;split at h2<;>simp_all
 simp [tdS,k1,k2,hi k1 k2]
theorem qvQ {r1 r2:Ru} {o1 o2:En} (d1 d2:De) (hr1:ruR r1) (hr2:ruR r2) (ho1:enR o1) (ho2:enR o2):qmp r1.1.1 (rOf cM r1.1.2) (rOf cL r1.2) r2.1.1 (rOf cM r2.1.2) (rOf cL r2.2) o1.1 (rOf cP o1.2.1) (rOf cAc o1.2.2) o2.1 (rOf cP o2.2.1) (rOf cAc o2.2.2) d1.1 d1.2.1 (rOf cI d1.2.2) d2.1 d2.2.1 (rOf cI d2.2.2)=some (.bool true):=by
 have a1:=qBY hr1;have a2:=qBY hr2;have b1:=qCf ho1;have b2:=qCf ho2;have c1:=qB4 d1;have c2:=qB4 d2;have i1:=fun h1 h2=>qrg (fun a=>qFB) qED h1 h2 (qBZ hr1) (qBZ hr2)
 have i2:=fun h1 h2=>qrg (fun a=>qFz) qFe h1 h2 (qCb ho1) (qCb ho2)
 have i3:=fun h1 h2=>qrg (R:=fun _=>True) (fun a h _=>qF3 h) qE2 (a:=cpDe d1) (b:=cpDe d2) h1 h2 trivial trivial
 have bq:∀ x y:Bool,bEq x y=(x == y):=fun x y=>by cases x<;>cases y<;>rfl
 unfold qmp qnZ;have q1:=qqL a1;have q2:=qp6 a1;have q3:=qqe a1;have q4:=qqL a2;have q5:=qp6 a2;have q6:=qqe a2;have q7:=qyH (cpRu r1) (cpRu r2) a1;have q8:=qAL (cpRu r1) (cpRu r2) a1;have p1:=qzS b1;have p2:=qxX b1;have p3:=qzW b1;have p4:=qzS b2;have p5:=qxX b2;have p6:=qzW b2;have p7:=qxm (cpEn o1) (cpEn o2) b1;have p8:=qBV (cpEn o1) (cpEn o2) b1;have s1:=quK c1;have s2:=qvn c1;have s3:=quO c1;have s4:=quK c2;have s5:=qvn c2;have s6:=quO c2;have s7:=qyE (cpDe d1) (cpDe d2) c1;have s8:=qAu (cpDe d1) (cpDe d2) c1;have f1:=qrl (ok:=ruOk) (T:=ruT) i1;have f2:=qrl (ok:=enOk) (T:=enT) i2;have f3:=qrl (ok:=deOk) (T:=deT) i3;simp only [qaw,qAA,qAT,qAq,qBF,qBq,qAr,qAp,qA9,qFD,qE8,qET,qEQ];generalize hA:cpRu r1=A at *;generalize hB:cpRu r2=B at *;generalize hC:cpEn o1=C at *;generalize hD:cpEn o2=D at *;generalize hE:cpDe d1=E at *;generalize hF:cpDe d2=F at *;have eA:A.1.1=cutT r1.1.1∧A.1.2=(r1.1.2.take 12).map cpTm∧A.2=(r1.2.take 8).map cpLi:=by rw [← hA];exact⟨rfl,rfl,rfl⟩
 have eB:B.1.1=cutT r2.1.1∧B.1.2=(r2.1.2.take 12).map cpTm∧B.2=(r2.2.take 8).map cpLi:=by rw [← hB];exact⟨rfl,rfl,rfl⟩
 have eC:C.1=cutT o1.1∧C.2.1=(o1.2.1.take 12).map cpPa∧C.2.2=(o1.2.2.take 8).map cpAc:=by rw [← hC];exact⟨rfl,rfl,rfl⟩
 have eD:D.1=cutT o2.1∧D.2.1=(o2.2.1.take 12).map cpPa∧D.2.2=(o2.2.2.take 8).map cpAc:=by rw [← hD];exact⟨rfl,rfl,rfl⟩
 have eE:E.1=cutT d1.1∧E.2.1=d1.2.1∧E.2.2=d1.2.2.take 12:=by rw [← hE];exact⟨rfl,rfl,rfl⟩
 have eF:F.1=cutT d2.1∧F.2.1=d2.2.1∧F.2.2=d2.2.2.take 12:=by rw [← hF];exact⟨rfl,rfl,rfl⟩
 simp only [← eA.1,← eA.2.1,← eA.2.2,← eB.1,← eB.2.1,← eB.2.2,← eC.1,← eC.2.1,← eC.2.2,← eD.1,← eD.2.1,← eD.2.2,← eE.1,← eE.2.2,← eF.1,← eF.2.2];rw [← eE.2.1,← eF.2.1];simp only [q1,q2,q3,q4,q5,q6,q7,q8,p1,p2,p3,p4,p5,p6,p7,p8,s1,s2,s3,s4,s5,s6,s7,s8,qBo,qEs,bq,qoQ,Tr.run_ite,Tr.run_ret,if_true];by_cases g1:tdE (ruOk A)=0<;>by_cases g2:tdE (ruOk B)=0<;>by_cases g3:tdE (enOk C)=0<;>by_cases g4:tdE (enOk D)=0<;>by_cases g5:tdE (deOk E)=0<;>by_cases g6:tdE (deOk F)=0 <;>
  simp only [qFm,g1,g2,g3,g4,g5,g6,f1,f2,f3,qCH,not_true_eq_false,not_false_eq_true,decide_true,decide_false,Bool.not_true,Bool.false_eq_true,if_true,if_false,ne_eq,forall_const,eq_self]
theorem qyY (r1 r2:Ru) (o1 o2:En) (d1 d2:De):qjp [.agg (cRu.enc r1),.agg (cRu.enc r2),.agg (cE.enc o1),.agg (cE.enc o2),.agg (cD.enc d1),.agg (cD.enc d2)]=.ite (qkO r1.1.1 (rOf cM r1.1.2) (rOf cL r1.2) r2.1.1 (rOf cM r2.1.2) (rOf cL r2.2) o1.1 (rOf cP o1.2.1) (rOf cAc o1.2.2) o2.1 (rOf cP o2.2.1) (rOf cAc o2.2.2) d1.1 d1.2.1 (rOf cI d1.2.2) d2.1 d2.2.1 (rOf cI d2.2.2)) (.ret (.bool (qlA r1.1.1 (rOf cM r1.1.2) (rOf cL r1.2) r2.1.1 (rOf cM r2.1.2) (rOf cL r2.2) o1.1 (rOf cP o1.2.1) (rOf cAc o1.2.2) o2.1 (rOf cP o2.2.1) (rOf cAc o2.2.2) d1.1 d1.2.1 (rOf cI d1.2.2) d2.1 d2.2.1 (rOf cI d2.2.2)))) .fail:=rfl
theorem qv7 (r1 r2:Ru) (o1 o2:En) (d1 d2:De) (hg:∃ H w vs,RelL H w [.agg (cRu.enc r1),.agg (cRu.enc r2),.agg (cE.enc o1),.agg (cE.enc o2),.agg (cD.enc d1),.agg (cD.enc d2)] vs):(qjp [.agg (cRu.enc r1),.agg (cRu.enc r2),.agg (cE.enc o1),.agg (cE.enc o2),.agg (cD.enc d1),.agg (cD.enc d2)]).run=some (.bool true):=by
 have hg:StdL [.agg (cRu.enc r1),.agg (cRu.enc r2),.agg (cE.enc o1),.agg (cE.enc o2),.agg (cD.enc d1),.agg (cD.enc d2)]:=hg;have h:=qvQ d1 d2 (qE3 (hg.at_ 0 rfl).agg) (qE3 (hg.at_ 1 rfl).agg) (qEZ (hg.at_ 2 rfl).agg) (qEZ (hg.at_ 3 rfl).agg);rw [qyY];simp [qkO,qlA,h]
end Go.Pv
