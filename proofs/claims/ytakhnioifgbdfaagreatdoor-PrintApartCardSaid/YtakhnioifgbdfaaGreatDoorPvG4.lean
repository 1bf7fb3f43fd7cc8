/- Part 4 of the proof: pure values for the machine's values, what functions compute over them, and laws of what is computed. Conditions: none beyond each theorem's own premises. -/
import Derived.Test.YtakhnioifgbdfaaGreatDoorPvG3
import Derived.Test.YtakhnioifgbdfaaGreatDoorCards
import Derived.Test.YtakhnioifgbdfaaGreatDoorTie
noncomputable section
set_option maxHeartbeats 8000000
set_option maxRecDepth 200000
set_option linter.unusedSimpArgs false
set_option linter.unusedVariables false
namespace Go.Pv
open Go Go.Proofs Go.RowKit
theorem qg0 {M:Nat} (sep:Txt):∀ l:List Txt,(∀ x∈l,x.length≤M)→(qdj l sep).length≤l.length * (M+sep.length)
 |[],_=>by simp [qoB]
 |[x],h=>by
  rw [qrE];have:=h x (by simp)
  simp;omega
 |x::y::l,h=>by
  rw [qsg];have h1:=h x (by simp)
  have h2:=qg0 sep (y::l) (fun z hz=>h z (by simp [hz]))
  simp only [List.length_append,List.length_cons] at h2 ⊢;rw [Nat.add_mul _ 1];omega
theorem qDs {α:Type} {ok:α→Bool} {T:α→Txt} {M:Nat} (sep:Txt) (l:List α) (h:∀ a∈l,(T a).length≤M):(jn ok T sep l).length≤l.length * (M+sep.length):=by
 unfold jn;split
 ·have:=qg0 (M:=M) sep (l.map T) (fun x hx=>by
   obtain⟨a,ha,rfl⟩:=List.mem_map.1 hx;exact h a ha)
  simpa using this
 ·simp
theorem qwA {α:Type} {ok:α→Bool} {T:α→Txt} {M:Nat} (sep:Txt) (l:List α) (n:Nat) (hn:l.length≤n) (h:∀ a∈l,(T a).length≤M):(jn ok T sep l).length≤n * (M+sep.length) :=
 Nat.le_trans (qDs sep l h) (Nat.mul_le_mul_right _ hn)
theorem qDm {v:Vl} (hr:vlR v):(vlT v).length≤1100:=by
 obtain⟨k,n,s⟩:=v;unfold vlT qpP;simp only;by_cases h:isV k n s=true
 ·rw [if_pos h];simp only [isV,decide_eq_true_eq] at h
  rcases h with⟨rfl,_⟩|⟨rfl,_,h⟩
  ·rw [if_pos rfl];have hr1:=hr.1;have hr2:=hr.2;simp only at hr1 hr2;unfold intV qt6;split
   ·have:=qrN 19 (-n).toNat (by omega)
    simp only [List.length_cons];omega
   ·have:=qrN 19 n.toNat (by omega)
    omega
  ·rw [if_neg (by decide)]
   have key:∀ s:qU,(symB s).length≤4 * s.length:=by
    intro s
    induction s with
    |nil=>simp [symB]
    |cons c s ih =>
     rw [qn4,List.length_append,List.length_cons];have:(oneV c.toNat).length≤4:=by
      rw [qs1]
      repeat' split
      all_goals simp
     omega
   have:=key s;unfold symV;simp;omega
 ·rw [if_neg h];simp
def tmS (t:Tm):Prop:=t.2.1.length≤300∧tmR t
def atS (a:At):Prop:=a.1.length≤300∧a.2.length≤12∧∀ t∈a.2,tmS t
def liS (l:Li):Prop:=atS l.2.1∧tmS l.2.2.2.1∧tmS l.2.2.2.2
def ruS (r:Ru):Prop:=atS r.1∧r.2.length≤8∧∀ l∈r.2,liS l
def tyS (_:Int):Prop:=True
def deS (d:De):Prop:=d.1.length≤300∧d.2.2.length≤12
def paS (p:Pa):Prop:=p.1.length≤300
def acS (a:Ac):Prop:=atS a.2
def enS (o:En):Prop:=o.1.length≤300∧(o.2.1.length≤12∧∀ p∈o.2.1,paS p)∧(o.2.2.length≤8∧∀ a∈o.2.2,acS a)
theorem qiN {t:Tm} (h:tmS t):(tmT t).length≤1100:=by
 unfold tmT;split
 ·have:=h.1;omega
 ·split
  ·exact qDm h.2
  ·simp
theorem qnJ {a:At} (h:atS a):(atT a).length≤14000:=by
 have:=qwA (ok:=tmOk) (T:=tmT) (M:=1100) [44,32] a.2 12 h.2.1 (fun t ht=>qiN (h.2.2 t ht))
 have:=h.1;unfold atT;simp at *;omega
theorem qxZ (o:Int):(opT o).length≤4:=by
 unfold opT
 repeat' split
 all_goals simp
theorem qyf {l:Li} (h:liS l):(liT l).length≤14004:=by
 have h1:=qnJ h.1;have h2:=qiN h.2.1;have h3:=qiN h.2.2;have h4:=qxZ l.2.2.1;unfold liT
 repeat' split
 all_goals simp
 all_goals omega
theorem qrr (t:Int):(tyT t).length≤3:=by
 unfold tyT
 repeat' split
 all_goals simp
theorem qxj {p:Pa} (h:paS p):(paT p).length≤304:=by
 have:=qrr p.2;have h:p.1.length≤300:=h;unfold paT;simp;omega
theorem qxi {a:Ac} (h:acS a):(acT a).length≤14001:=by
 have:=qnJ h;unfold acT;split<;>simp<;>omega
theorem qbz {a b:Txt} (h:a.length+b.length≤9223372036854775807):qba a b=true:=by rw [qAv];exact decide_eq_true h
theorem qEp (k:Int) {s:Txt} (hs:s.length≤65536):isW1 k s=(decide (wE s=0)&&decide ((wL s).length=1)&&decide (((wL s)[0]?.getD (0,[],(0,0,[]),0)).1=k)&&decide (((wL s)[0]?.getD (0,[],(0,0,[]),0)).2.1=s)):=by
 unfold isW1 wE wL;cases h:qeF s with
 |mk l o =>
  cases o with
  |some p=>cases l<;>simp
  |none =>
   cases l with
   |nil=>simp
   |cons w l =>
    cases l with
    |nil=>simp
    |cons w' l=>simp
theorem qxN {s:Txt} (hs:s.length≤65536) (k:Int):qAU s k=some (.bool (isW1 k s)):=by
 unfold qAU qwY;rw [qEp k hs,qsQ hs,qph hs,qpk hs];have x0:xLen (rOf cW (wL s))=((wL s).length:Nat):=by simp
 rw [x0];by_cases h1:wE s=0
 ·by_cases h2:(wL s).length=1
  ·have g:qbx [PV.int .i64 0,.str [],.int .i64 0,.int .i64 0,.str [],.int .i64 0] (rOf cW (wL s)) (nNat 0)=true:=by rw [qBW];simp [h2]
   have y0:xInt (rOf cW (wL s)) (nNat 0) 0=((wL s)[0]?.getD (0,[],(0,0,[]),0)).1:=qBl _ _;have y1:xStr (rOf cW (wL s)) (nNat 0) 1=((wL s)[0]?.getD (0,[],(0,0,[]),0)).2.1:=qBS _ _;rw [g,y0,y1];generalize (wL s)[0]?.getD (0,[],(0,0,[]),0)=w;by_cases h3:w.1=k<;>simp [h1,h2,h3]
  ·have h2':¬ ((wL s).length:Int)=1:=by omega
   simp [h1,h2,h2']
 ·simp [h1]
theorem qCs {s:Txt} (hs:s.length≤65536) (k:Int):qkD s k=true:=by simp only [qty,qkD,qxN hs];simp
theorem qEC {s:Txt} (hs:s.length≤65536) (k:Int):qty s k=isW1 k s:=by simp only [qty,qkD,qxN hs];simp
theorem qrv {s:Txt} (hs:s.length≤65536):qpz s=some (.bool (nmB s)):=by
 unfold qpz qqJ nmB resv;rw [qCs hs,qEC hs];by_cases h1:s=[98,97,115,101]
 ·simp [h1]
 ·by_cases h2:s=[118,105,101,119]
  ·simp [h2]
  ·by_cases h3:s=[111,110]
   ·simp [h3]
   ·by_cases h4:s=[110,111,116]
    ·simp [h4]
    ·simp [h1,h2,h3,h4]
theorem qme {s:Txt} (hs:s.length≤65536):qcC s=true:=by simp only [qdS,qcC,qrv hs];simp
theorem qri {s:Txt} (hs:s.length≤65536):qdS s=nmB s:=by simp only [qdS,qcC,qrv hs];simp
theorem qvE {s:Txt} (hs:s.length≤65536):qvd s=some (.bool (vrB s)):=by
 unfold qvd qug vrB;rw [qCs hs,qEC hs];simp
theorem qt5 {s:Txt} (hs:s.length≤65536):qfr s=true:=by simp only [qjH,qfr,qvE hs];simp
theorem qyq {s:Txt} (hs:s.length≤65536):qjH s=vrB s:=by simp only [qjH,qfr,qvE hs];simp
theorem qyA (k n:Int) (s:Txt):(qbG k n s=0)↔isV k n s=true:=by
 unfold qbG isV;by_cases h1:k=1∧s=[]
 ·simp [h1]
 ·by_cases h2:k=2∧n=0∧s.length≤256
  ·simp [h2]
  ·rw [if_neg h1,if_neg h2];exact⟨fun h=>absurd h (by decide),fun h=>(of_decide_eq_true h).elim (fun a=>absurd a h1) (fun a=>absurd a h2)⟩
theorem qmE {t:Tm} (h:tmS t):qnS t.1 t.2.1 t.2.2.1 t.2.2.2.1 t.2.2.2.2=some (.tup [.str (tmT t),.bool (tmOk t)]):=by
 obtain⟨k,b,c,n,s⟩:=t;have hb:b.length≤65536:=Nat.le_trans h.1 (by decide)
 unfold qnS qqQ tmT tmOk vlOk vlT;simp only [qt5 hb,qyq hb,qpO];by_cases h1:k=1
 ·cases hv:vrB b<;>simp [h1,hv,bAnd,Bool.decide_and]
 ·by_cases h2:k=2
  ·by_cases h3:isV c n s=true
   ·have h4:=(qyA c n s).2 h3;simp [h2,h3,h4]
   ·have h4:¬ qbG c n s=0:=fun h=>h3 ((qyA c n s).1 h)
    simp [h2,h3,h4]
  ·simp [h1,h2,bAnd,Bool.decide_and]
theorem ql5 {t:Tm} (h:tmS t):qck t.1 t.2.1 t.2.2.1 t.2.2.2.1 t.2.2.2.2=true:=by simp only [qdu,qck,qaE,qmE h];simp
theorem qmc {t:Tm} (h:tmS t):qaE t.1 t.2.1 t.2.2.1 t.2.2.2.1 t.2.2.2.2=tmT t:=by simp only [qdu,qck,qaE,qmE h];simp
theorem qlv {t:Tm} (h:tmS t):qdu t.1 t.2.1 t.2.2.1 t.2.2.2.1 t.2.2.2.2=tmOk t:=by simp only [qdu,qck,qaE,qmE h];simp
theorem quf {l:List Tm} (hs:∀ a∈l,tmS a) (hn:l.length≤100000) {sep:Txt} (hsep:sep.length≤10):qzc (rOf cM l) sep=some (.tup [.str (jn tmOk tmT sep l),.bool (l.all tmOk)]):=by
 have hl:=qfP (l:=l) l.length (Nat.le_refl _) (V:=fun i b=>qiq [.str sep,.fn 44 [],.sl (rOf cS b) (.tok 0),.sl (rOf cM l) .non,.int .i64 (l.length:Nat),.int .i64 (i:Nat)] ⟨[],[(b.length,1,9)],[]⟩) tmOk tmT (fun b=>some (.exit 0,[.str sep,.sl (rOf cS b) (.tok 0)],⟨[],[(b.length,1,9)],[]⟩)) (fun r=>∃ k:Nat,r=some (.ret,[.str [],.bool false],⟨[],[(k,1,9)],[]⟩)) ?_ ?_ ?_
 ·rw [List.take_length] at hl;obtain⟨h1,h2⟩:=hl;have x0:xLen (rOf cM l)=(l.length:Nat):=by simp
  unfold qzc qzg jn;rw [x0];cases ha:l.all tmOk with
  |true =>
   have h':qij sep [] (rOf cM l) (l.length:Nat) 0 0=_:=h1 ha;have o:qfB (l.map tmT) sep=true:=by
    rw [qb5];have:=qg0 (M:=1100) sep (l.map tmT) (fun x hx=>by
     obtain⟨a,ha,rfl⟩:=List.mem_map.1 hx;exact qiN (hs a ha))
    have h3:(l.map tmT).length * (1100+sep.length)≤100000 * (1100+10):=Nat.mul_le_mul (by simpa using hn) (by omega)
    exact⟨by simp;omega,by omega⟩
   simp only [qjE,qco,qlJ,qmd,qmk,ql3,qj8,qcF,h'];rw [qb5] at o;simp [o.2];omega
  |false =>
   obtain⟨k,hk⟩:=h2 ha;have h':qij sep [] (rOf cM l) (l.length:Nat) 0 0=_:=hk;simp only [qjE,qco,qlJ,qmd,qmk,ql3,qj8,qcF,h'];simp
 ·intro i b a hb hi hi2 ha ho;have hm:tmS a:=hs a (ha ▸ List.getElem_mem hi);have q1:iLt (i:Int) (l.length:Nat)=true:=by simp;omega
  have q3:qao (i:Int)=true:=by simp
  have q4:qbx [PV.int .i64 0,.str [],.int .i64 0,.int .i64 0,.str []] (rOf cM l) (nNat (i:Int))=true:=by simp;omega
  have w:=qbQ (i:=i) (by omega)
  have e1:=ql5 hm;have e2:=qmc hm;have e3:=qlv hm;rw [ho] at e3;have x0:xInt (rOf cM l) (nNat (i:Int)) 0=a.1:=by simp [hi,ha]
  have x1:xStr (rOf cM l) (nNat (i:Int)) 1=a.2.1:=by simp [hi,ha]
  have x2:xInt (rOf cM l) (nNat (i:Int)) 2=a.2.2.1:=by simp [hi,ha]
  have x3:xInt (rOf cM l) (nNat (i:Int)) 3=a.2.2.2.1:=by simp [hi,ha]
  have x4:xStr (rOf cM l) (nNat (i:Int)) 4=a.2.2.2.2:=by simp [hi,ha]
  have o1:∀ c,qbm (rOf cS b) [c] 16=true:=fun c=>by simp;omega
  have o2:∀ t:Txt,qbf [[PV.str t]] 1=true:=fun t=>by simp [one]
  have o3:qaD (rOf cS b) 1=true:=qhh _;have o4:nEq b.length (nXs (rOf cS b))=true:=by simp
  have o5:bNot true=false:=rfl;show qiq [.str sep,.fn 44 [],.sl (rOf cS b) (.tok 0),.sl (rOf cM l) .non,.int .i64 (l.length:Nat),.int .i64 (i:Nat)] ⟨[],[(b.length,1,9)],[]⟩=qiq [.str sep,.fn 44 [],.sl (rOf cS (b++[tmT a])) (.tok 0),.sl (rOf cM l) .non,.int .i64 (l.length:Nat),.int .i64 ((i+1:Nat):Int)] ⟨[],[((b++[tmT a]).length,1,9)],[]⟩
  rw [qyn];simp only [qmA,q1,q3,q4,x0,x1,x2,x3,x4,qaw,e1,e2,e3,o1,o2,o3,o4,o5,w];simp
 ·intro i b a hb hi hi2 ha ho;have hm:tmS a:=hs a (ha ▸ List.getElem_mem hi);have q1:iLt (i:Int) (l.length:Nat)=true:=by simp;omega
  have q3:qao (i:Int)=true:=by simp
  have q4:qbx [PV.int .i64 0,.str [],.int .i64 0,.int .i64 0,.str []] (rOf cM l) (nNat (i:Int))=true:=by simp;omega
  have w:=qbQ (i:=i) (by omega)
  have e1:=ql5 hm;have e2:=qmc hm;have e3:=qlv hm;rw [ho] at e3;have x0:xInt (rOf cM l) (nNat (i:Int)) 0=a.1:=by simp [hi,ha]
  have x1:xStr (rOf cM l) (nNat (i:Int)) 1=a.2.1:=by simp [hi,ha]
  have x2:xInt (rOf cM l) (nNat (i:Int)) 2=a.2.2.1:=by simp [hi,ha]
  have x3:xInt (rOf cM l) (nNat (i:Int)) 3=a.2.2.2.1:=by simp [hi,ha]
  have x4:xStr (rOf cM l) (nNat (i:Int)) 4=a.2.2.2.2:=by simp [hi,ha]
  have o5:bNot false=true:=rfl;show ∃ k:Nat,qiq [.str sep,.fn 44 [],.sl (rOf cS b) (.tok 0),.sl (rOf cM l) .non,.int .i64 (l.length:Nat),.int .i64 (i:Nat)] ⟨[],[(b.length,1,9)],[]⟩=_
  refine⟨b.length,?_⟩;rw [qyn];simp only [qmA,q1,q3,q4,x0,x1,x2,x3,x4,qaw,e1,e2,e3,o5];simp
 ·intro b hb;have q1:iLt (l.length:Nat) (l.length:Nat)=false:=by simp
  show qiq [.str sep,.fn 44 [],.sl (rOf cS b) (.tok 0),.sl (rOf cM l) .non,.int .i64 (l.length:Nat),.int .i64 (l.length:Nat)] ⟨[],[(b.length,1,9)],[]⟩=_
  rw [qyn];simp only [qmA,q1];simp
theorem qEI {l:List Tm} (hs:∀ a∈l,tmS a) (hn:l.length≤100000) {sep:Txt} (hsep:sep.length≤10):qkP (rOf cM l) sep=true:=by simp only [qth,qkP,qoG,quf hs hn hsep];simp
theorem qFu {l:List Tm} (hs:∀ a∈l,tmS a) (hn:l.length≤100000) {sep:Txt} (hsep:sep.length≤10):qoG (rOf cM l) sep=jn tmOk tmT sep l:=by simp only [qth,qkP,qoG,quf hs hn hsep];simp
theorem qEK {l:List Tm} (hs:∀ a∈l,tmS a) (hn:l.length≤100000) {sep:Txt} (hsep:sep.length≤10):qth (rOf cM l) sep=l.all tmOk:=by simp only [qth,qkP,qoG,quf hs hn hsep];simp
theorem qm7 {a:At} (h:atS a):qnD a.1 (rOf cM a.2)=some (.tup [.str (atT a),.bool (atOk a)]):=by
 have e1:=qEI h.2.2 (by have:=h.2.1;omega) (sep:=[44,32]) (by decide)
 have e2:=qFu h.2.2 (by have:=h.2.1;omega) (sep:=[44,32]) (by decide)
 have e3:=qEK h.2.2 (by have:=h.2.1;omega) (sep:=[44,32]) (by decide)
 have hb:a.1.length≤65536:=Nat.le_trans h.1 (by decide)
 have hj:=qwA (ok:=tmOk) (T:=tmT) (M:=1100) [44,32] a.2 12 h.2.1 (fun t ht=>qiN (h.2.2 t ht))
 have hn:=h.1;simp at hj;unfold qnD qpR atT atOk;simp only [qaw,e1,e2,e3,qme hb,qri hb];rw [qbz (by simp;omega),qbz (by simp;omega),qbz (by simp;omega)]
 cases a.2.all tmOk<;>simp
theorem qrj {a:At} (h:atS a):qb3 a.1 (rOf cM a.2)=true:=by simp only [qcU,qb3,qbl,qm7 h];simp
theorem qqN {a:At} (h:atS a):qbl a.1 (rOf cM a.2)=atT a:=by simp only [qcU,qb3,qbl,qm7 h];simp
theorem qqk {a:At} (h:atS a):qcU a.1 (rOf cM a.2)=atOk a:=by simp only [qcU,qb3,qbl,qm7 h];simp
theorem qtn (o:Int):qAf o=some (.tup [.str (opT o),.bool (opOk o)]):=by
 unfold qAf qyS opT opOk;by_cases h1:o=1
 ·simp [h1]
 ·by_cases h2:o=2
  ·simp [h2]
  ·by_cases h3:o=3
   ·simp [h3]
   ·by_cases h4:o=4
    ·simp [h4]
    ·by_cases h5:o=5
     ·simp [h5]
     ·by_cases h6:o=6
      ·simp [h6]
      ·have:¬ (1≤o∧o≤6):=by omega
       simp [h1,h2,h3,h4,h5,h6];omega
theorem qF2 (o:Int):qhf o=true:=by simp only [qpG,qhf,qdr,qtn];simp
theorem qE9 (o:Int):qdr o=opT o:=by simp only [qpG,qhf,qdr,qtn];simp
theorem qFF (o:Int):qpG o=opOk o:=by simp only [qpG,qhf,qdr,qtn];simp
theorem qhd {l:Li} (h:liS l):qfz l.1 l.2.1.1 (rOf cM l.2.1.2) l.2.2.1 l.2.2.2.1.1 l.2.2.2.1.2.1 l.2.2.2.1.2.2.1 l.2.2.2.1.2.2.2.1 l.2.2.2.1.2.2.2.2 l.2.2.2.2.1 l.2.2.2.2.2.1 l.2.2.2.2.2.2.1 l.2.2.2.2.2.2.2.1 l.2.2.2.2.2.2.2.2=some (.tup [.str (liT l),.bool (liOk l)]):=by
 have e1:=qrj h.1;have e2:=qqN h.1;have e3:=qqk h.1;have a1:=ql5 h.2.1;have a2:=qmc h.2.1;have a3:=qlv h.2.1;have b1:=ql5 h.2.2;have b2:=qmc h.2.2;have b3:=qlv h.2.2;have l1:=qnJ h.1;have l2:=qiN h.2.1;have l3:=qiN h.2.2;have l4:=qxZ l.2.2.1;have o1:qba [110,111,116,32] (atT l.2.1)=true:=qbz (by simp;omega)
 have o2:qba (tmT l.2.2.2.1) (opT l.2.2.1)=true:=qbz (by omega)
 have o3:qba (sApp (tmT l.2.2.2.1) (opT l.2.2.1)) (tmT l.2.2.2.2)=true:=qbz (by simp;omega)
 have pl:qzo l=(decide (l.2.2.1=0)&&decide (l.2.2.2.1=tm0)&&decide (l.2.2.2.2=tm0)):=rfl;have t0:∀ t:Tm,(t=tm0)=(t.1=0∧t.2.1=[]∧t.2.2.1=0∧t.2.2.2.1=0∧t.2.2.2.2=[]):=fun t=>by
  obtain⟨a,b,c,d,e⟩:=t;simp [tm0]
 unfold qfz qiG liT liOk;simp only [qaw,e1,e2,e3,a1,a2,a3,b1,b2,b3,qF2,qE9,qFF,o1,o2,o3,pl,t0];have at0:(l.2.1=([],[]))=(l.2.1.1=[]∧l.2.1.2=[]):=by
  cases hl:l.2.1 with
  |mk x y=>simp
 simp only [at0];generalize l.1=k;generalize l.2.2.1=o;generalize l.2.2.2.1=A;generalize l.2.2.2.2=B;generalize l.2.1=T;obtain⟨A1,A2,A3,A4,A5⟩:=A;obtain⟨B1,B2,B3,B4,B5⟩:=B;obtain⟨T1,T2⟩:=T;simp only;have b0:bAnd=and:=rfl;by_cases k1:k=1
 ·by_cases h0:o=0
  ·by_cases hA:(A1=0∧A2=[]∧A3=0∧A4=0∧A5=[])
   ·cases hO:atOk (T1,T2)<;>simp [k1,h0,hA,hO,b0,Bool.decide_and]
   ·have hA':(decide (A1=0)&&(decide (A2=[])&&(decide (A3=0)&&(decide (A4=0)&&decide (A5=[])))))=false:=by
     simpa [Bool.decide_and] using hA
    cases hO:atOk (T1,T2)<;>simp [k1,h0,hA,hA',hO,b0,Bool.decide_and]<;>simp_all
  ·cases hO:atOk (T1,T2)<;>simp [k1,h0,hO,b0]
 ·by_cases k2:k=2
  ·by_cases h0:o=0
   ·by_cases hA:(A1=0∧A2=[]∧A3=0∧A4=0∧A5=[])
    ·cases hO:atOk (T1,T2)<;>simp [k2,h0,hA,hO,b0,Bool.decide_and]
    ·have hA':(decide (A1=0)&&(decide (A2=[])&&(decide (A3=0)&&(decide (A4=0)&&decide (A5=[])))))=false:=by
      simpa [Bool.decide_and] using hA
     cases hO:atOk (T1,T2)<;>simp [k2,h0,hA,hA',hO,b0,Bool.decide_and]<;>simp_all
   ·cases hO:atOk (T1,T2)<;>simp [k2,h0,hO,b0]
  ·by_cases k3:k=3
   ·have fin:∀ c:Bool,(if c=true then (if k=3 then (1:Nat) else 0) else 0)=(if c=true then (if k=3 then 1 else 0) else 0):=fun _=>rfl
    subst k3;have n1:iEq 3 1=false:=rfl;have n2:iEq 3 2=false:=rfl;have n3:iEq 3 3=true:=rfl;rw [n1,n2,n3];cases iEq o 0<;>cases (bAnd (iEq A1 0) (bAnd (sEq A2 []) (bAnd (bAnd (iEq A3 0) (bAnd (iEq A4 0) (bAnd (sEq A5 []) true))) true))) <;>
     cases tmOk (A1,A2,A3,A4,A5)<;>cases opOk o<;>cases tmOk (B1,B2,B3,B4,B5)<;>by_cases hT:T1=[]<;>simp [hT]
   ·simp [k1,k2,k3]
    repeat' split
    all_goals simp
theorem qoa {l:Li} (h:liS l):qc6 l.1 l.2.1.1 (rOf cM l.2.1.2) l.2.2.1 l.2.2.2.1.1 l.2.2.2.1.2.1 l.2.2.2.1.2.2.1 l.2.2.2.1.2.2.2.1 l.2.2.2.1.2.2.2.2 l.2.2.2.2.1 l.2.2.2.2.2.1 l.2.2.2.2.2.2.1 l.2.2.2.2.2.2.2.1 l.2.2.2.2.2.2.2.2=true:=by simp only [qdp,qc6,qcs,qhd h];simp
theorem qoy {l:Li} (h:liS l):qcs l.1 l.2.1.1 (rOf cM l.2.1.2) l.2.2.1 l.2.2.2.1.1 l.2.2.2.1.2.1 l.2.2.2.1.2.2.1 l.2.2.2.1.2.2.2.1 l.2.2.2.1.2.2.2.2 l.2.2.2.2.1 l.2.2.2.2.2.1 l.2.2.2.2.2.2.1 l.2.2.2.2.2.2.2.1 l.2.2.2.2.2.2.2.2=liT l:=by simp only [qdp,qc6,qcs,qhd h];simp
theorem qmv {l:Li} (h:liS l):qdp l.1 l.2.1.1 (rOf cM l.2.1.2) l.2.2.1 l.2.2.2.1.1 l.2.2.2.1.2.1 l.2.2.2.1.2.2.1 l.2.2.2.1.2.2.2.1 l.2.2.2.1.2.2.2.2 l.2.2.2.2.1 l.2.2.2.2.2.1 l.2.2.2.2.2.2.1 l.2.2.2.2.2.2.2.1 l.2.2.2.2.2.2.2.2=liOk l:=by simp only [qdp,qc6,qcs,qhd h];simp
theorem qtt {l:List Li} (hs:∀ a∈l,liS a) (hn:l.length≤100000) {sep:Txt} (hsep:sep.length≤10):qyx (rOf cL l) sep=some (.tup [.str (jn liOk liT sep l),.bool (l.all liOk)]):=by
 have hl:=qfP (l:=l) l.length (Nat.le_refl _) (V:=fun i b=>qin [.str sep,.fn 49 [],.sl (rOf cS b) (.tok 0),.sl (rOf cL l) .non,.int .i64 (l.length:Nat),.int .i64 (i:Nat)] ⟨[],[(b.length,1,9)],[]⟩) liOk liT (fun b=>some (.exit 0,[.str sep,.sl (rOf cS b) (.tok 0)],⟨[],[(b.length,1,9)],[]⟩)) (fun r=>∃ k:Nat,r=some (.ret,[.str [],.bool false],⟨[],[(k,1,9)],[]⟩)) ?_ ?_ ?_
 ·rw [List.take_length] at hl;obtain⟨h1,h2⟩:=hl;have x0:xLen (rOf cL l)=(l.length:Nat):=by simp
  unfold qyx qzZ jn;rw [x0];cases ha:l.all liOk with
  |true =>
   have h':qim sep [] (rOf cL l) (l.length:Nat) 0 0=_:=h1 ha;have o:qfB (l.map liT) sep=true:=by
    rw [qb5];have:=qg0 (M:=14004) sep (l.map liT) (fun x hx=>by
     obtain⟨a,ha,rfl⟩:=List.mem_map.1 hx;exact qyf (hs a ha))
    have h3:(l.map liT).length * (14004+sep.length)≤100000 * (14004+10):=Nat.mul_le_mul (by simpa using hn) (by omega)
    exact⟨by simp;omega,by omega⟩
   simp only [qkd,qcq,qly,qlw,qlU,qmi,qjJ,qcK,h'];rw [qb5] at o;simp [o.2];omega
  |false =>
   obtain⟨k,hk⟩:=h2 ha;have h':qim sep [] (rOf cL l) (l.length:Nat) 0 0=_:=hk;simp only [qkd,qcq,qly,qlw,qlU,qmi,qjJ,qcK,h'];simp
 ·intro i b a hb hi hi2 ha ho;have hm:liS a:=hs a (ha ▸ List.getElem_mem hi);have q1:iLt (i:Int) (l.length:Nat)=true:=by simp;omega
  have q3:qao (i:Int)=true:=by simp
  have q4:qbx [PV.int .i64 0,.str [],.sl [] .full,.int .i64 0,.int .i64 0,.str [],.int .i64 0,.int .i64 0,.str [],.int .i64 0,.str [],.int .i64 0,.int .i64 0,.str []] (rOf cL l) (nNat (i:Int))=true:=by simp;omega
  have w:=qbQ (i:=i) (by omega)
  have e1:=qoa hm;have e2:=qoy hm;have e3:=qmv hm;rw [ho] at e3;have x0:xInt (rOf cL l) (nNat (i:Int)) 0=a.1:=by simp [hi,ha]
  have x1:xStr (rOf cL l) (nNat (i:Int)) 1=a.2.1.1:=by simp [hi,ha]
  have x2:xRow (rOf cL l) (nNat (i:Int)) 2=rOf cM a.2.1.2:=by simp [hi,ha]
  have x3:xInt (rOf cL l) (nNat (i:Int)) 3=a.2.2.1:=by simp [hi,ha]
  have x4:xInt (rOf cL l) (nNat (i:Int)) 4=a.2.2.2.1.1:=by simp [hi,ha]
  have x5:xStr (rOf cL l) (nNat (i:Int)) 5=a.2.2.2.1.2.1:=by simp [hi,ha]
  have x6:xInt (rOf cL l) (nNat (i:Int)) 6=a.2.2.2.1.2.2.1:=by simp [hi,ha]
  have x7:xInt (rOf cL l) (nNat (i:Int)) 7=a.2.2.2.1.2.2.2.1:=by simp [hi,ha]
  have x8:xStr (rOf cL l) (nNat (i:Int)) 8=a.2.2.2.1.2.2.2.2:=by simp [hi,ha]
  have x9:xInt (rOf cL l) (nNat (i:Int)) 9=a.2.2.2.2.1:=by simp [hi,ha]
  have x10:xStr (rOf cL l) (nNat (i:Int)) 10=a.2.2.2.2.2.1:=by simp [hi,ha]
  have x11:xInt (rOf cL l) (nNat (i:Int)) 11=a.2.2.2.2.2.2.1:=by simp [hi,ha]
  have x12:xInt (rOf cL l) (nNat (i:Int)) 12=a.2.2.2.2.2.2.2.1:=by simp [hi,ha]
  have x13:xStr (rOf cL l) (nNat (i:Int)) 13=a.2.2.2.2.2.2.2.2:=by simp [hi,ha]
  have o1:∀ c,qbm (rOf cS b) [c] 16=true:=fun c=>by simp;omega
  have o2:∀ t:Txt,qbf [[PV.str t]] 1=true:=fun t=>by simp [one]
  have o3:qaD (rOf cS b) 1=true:=qhh _;have o4:nEq b.length (nXs (rOf cS b))=true:=by simp
  have o5:bNot true=false:=rfl;show qin [.str sep,.fn 49 [],.sl (rOf cS b) (.tok 0),.sl (rOf cL l) .non,.int .i64 (l.length:Nat),.int .i64 (i:Nat)] ⟨[],[(b.length,1,9)],[]⟩=qin [.str sep,.fn 49 [],.sl (rOf cS (b++[liT a])) (.tok 0),.sl (rOf cL l) .non,.int .i64 (l.length:Nat),.int .i64 ((i+1:Nat):Int)] ⟨[],[((b++[liT a]).length,1,9)],[]⟩
  rw [qw9];simp only [qoz,q1,q3,q4,x0,x1,x2,x3,x4,x5,x6,x7,x8,x9,x10,x11,x12,x13,qaw,e1,e2,e3,o1,o2,o3,o4,o5,w];simp
 ·intro i b a hb hi hi2 ha ho;have hm:liS a:=hs a (ha ▸ List.getElem_mem hi);have q1:iLt (i:Int) (l.length:Nat)=true:=by simp;omega
  have q3:qao (i:Int)=true:=by simp
  have q4:qbx [PV.int .i64 0,.str [],.sl [] .full,.int .i64 0,.int .i64 0,.str [],.int .i64 0,.int .i64 0,.str [],.int .i64 0,.str [],.int .i64 0,.int .i64 0,.str []] (rOf cL l) (nNat (i:Int))=true:=by simp;omega
  have w:=qbQ (i:=i) (by omega)
  have e1:=qoa hm;have e2:=qoy hm;have e3:=qmv hm;rw [ho] at e3;have x0:xInt (rOf cL l) (nNat (i:Int)) 0=a.1:=by simp [hi,ha]
  have x1:xStr (rOf cL l) (nNat (i:Int)) 1=a.2.1.1:=by simp [hi,ha]
  have x2:xRow (rOf cL l) (nNat (i:Int)) 2=rOf cM a.2.1.2:=by simp [hi,ha]
  have x3:xInt (rOf cL l) (nNat (i:Int)) 3=a.2.2.1:=by simp [hi,ha]
  have x4:xInt (rOf cL l) (nNat (i:Int)) 4=a.2.2.2.1.1:=by simp [hi,ha]
  have x5:xStr (rOf cL l) (nNat (i:Int)) 5=a.2.2.2.1.2.1:=by simp [hi,ha]
  have x6:xInt (rOf cL l) (nNat (i:Int)) 6=a.2.2.2.1.2.2.1:=by simp [hi,ha]
  have x7:xInt (rOf cL l) (nNat (i:Int)) 7=a.2.2.2.1.2.2.2.1:=by simp [hi,ha]
  have x8:xStr (rOf cL l) (nNat (i:Int)) 8=a.2.2.2.1.2.2.2.2:=by simp [hi,ha]
  have x9:xInt (rOf cL l) (nNat (i:Int)) 9=a.2.2.2.2.1:=by simp [hi,ha]
  have x10:xStr (rOf cL l) (nNat (i:Int)) 10=a.2.2.2.2.2.1:=by simp [hi,ha]
  have x11:xInt (rOf cL l) (nNat (i:Int)) 11=a.2.2.2.2.2.2.1:=by simp [hi,ha]
  have x12:xInt (rOf cL l) (nNat (i:Int)) 12=a.2.2.2.2.2.2.2.1:=by simp [hi,ha]
  have x13:xStr (rOf cL l) (nNat (i:Int)) 13=a.2.2.2.2.2.2.2.2:=by simp [hi,ha]
  have o5:bNot false=true:=rfl;show ∃ k:Nat,qin [.str sep,.fn 49 [],.sl (rOf cS b) (.tok 0),.sl (rOf cL l) .non,.int .i64 (l.length:Nat),.int .i64 (i:Nat)] ⟨[],[(b.length,1,9)],[]⟩=_
  refine⟨b.length,?_⟩;rw [qw9];simp only [qoz,q1,q3,q4,x0,x1,x2,x3,x4,x5,x6,x7,x8,x9,x10,x11,x12,x13,qaw,e1,e2,e3,o5];simp
 ·intro b hb;have q1:iLt (l.length:Nat) (l.length:Nat)=false:=by simp
  show qin [.str sep,.fn 49 [],.sl (rOf cS b) (.tok 0),.sl (rOf cL l) .non,.int .i64 (l.length:Nat),.int .i64 (l.length:Nat)] ⟨[],[(b.length,1,9)],[]⟩=_
  rw [qw9];simp only [qoz,q1];simp
theorem qFL {l:List Li} (hs:∀ a∈l,liS a) (hn:l.length≤100000) {sep:Txt} (hsep:sep.length≤10):qli (rOf cL l) sep=true:=by simp only [qsz,qli,qiA,qtt hs hn hsep];simp
theorem qEM {l:List Li} (hs:∀ a∈l,liS a) (hn:l.length≤100000) {sep:Txt} (hsep:sep.length≤10):qiA (rOf cL l) sep=jn liOk liT sep l:=by simp only [qsz,qli,qiA,qtt hs hn hsep];simp
theorem qFh {l:List Li} (hs:∀ a∈l,liS a) (hn:l.length≤100000) {sep:Txt} (hsep:sep.length≤10):qsz (rOf cL l) sep=l.all liOk:=by simp only [qsz,qli,qiA,qtt hs hn hsep];simp
theorem qmC {x:Ru} (h:ruS x):qmW x.1.1 (rOf cM x.1.2) (rOf cL x.2)=some (.tup [.str (ruT x),.bool (ruOk x)]):=by
 have e1:=qrj h.1;have e2:=qqN h.1;have e3:=qqk h.1;have j1:=qFL h.2.2 (by have:=h.2.1;omega) (sep:=[44,32]) (by decide)
 have j2:=qEM h.2.2 (by have:=h.2.1;omega) (sep:=[44,32]) (by decide)
 have j3:=qFh h.2.2 (by have:=h.2.1;omega) (sep:=[44,32]) (by decide)
 have hj:=qwA (ok:=liOk) (T:=liT) (M:=14004) [44,32] x.2 8 h.2.1 (fun l hl=>qyf (h.2.2 l hl))
 have l1:=qnJ h.1;simp at hj;unfold qmW qqw ruT ruOk;simp only [qaw,e1,e2,e3,j1,j2,j3];by_cases hb:x.2=[]
 ·rw [hb] at hj ⊢;have t:iLt 0 (xLen (rOf cL []))=false:=rfl;have o1:qba (atT x.1) (jn liOk liT [44,32] [])=true:=qbz (by omega)
  have o2:qba (sApp (atT x.1) (jn liOk liT [44,32] [])) [46]=true:=qbz (by simp;omega)
  simp only [t,o1,o2];cases atOk x.1<;>simp [jn,qoB]
 ·have t:iLt 0 (xLen (rOf cL x.2))=true:=by simp;exact List.length_pos_iff.2 hb
  rw [t,qbz (by simp;omega),qbz (by simp;omega),qbz (by simp;omega)]
  cases atOk x.1<;>simp [hb]
theorem qA1 {x:Ru} (h:ruS x):qfO x.1.1 (rOf cM x.1.2) (rOf cL x.2)=true:=by simp only [qgv,qfO,qgZ,qmC h];simp
theorem qBv {x:Ru} (h:ruS x):qgZ x.1.1 (rOf cM x.1.2) (rOf cL x.2)=ruT x:=by simp only [qgv,qfO,qgZ,qmC h];simp
theorem qBw {x:Ru} (h:ruS x):qgv x.1.1 (rOf cM x.1.2) (rOf cL x.2)=ruOk x:=by simp only [qgv,qfO,qgZ,qmC h];simp
theorem qn8 {t:Int} (h:tyS t):qns t=some (.tup [.str (tyT t),.bool (tyOk t)]):=by
 unfold qns qro tyT tyOk;by_cases h1:t=1
 ·simp [h1]
 ·by_cases h2:t=2
  ·simp [h2]
  ·simp [h1,h2]
theorem qpB {t:Int} (h:tyS t):qd8 t=true:=by simp only [qhs,qd8,qdx,qn8 h];simp
theorem qqp {t:Int} (h:tyS t):qdx t=tyT t:=by simp only [qhs,qd8,qdx,qn8 h];simp
theorem qqq {t:Int} (h:tyS t):qhs t=tyOk t:=by simp only [qhs,qd8,qdx,qn8 h];simp
theorem qtx {l:List Int} (hs:∀ a∈l,tyS a) (hn:l.length≤100000) {sep:Txt} (hsep:sep.length≤10):qzt (rOf cI l) sep=some (.tup [.str (jn tyOk tyT sep l),.bool (l.all tyOk)]):=by
 have hl:=qfP (l:=l) l.length (Nat.le_refl _) (V:=fun i b=>qia [.str sep,.fn 83 [],.sl (rOf cS b) (.tok 0),.sl (rOf cI l) .non,.int .i64 (l.length:Nat),.int .i64 (i:Nat)] ⟨[],[(b.length,1,9)],[]⟩) tyOk tyT (fun b=>some (.exit 0,[.str sep,.sl (rOf cS b) (.tok 0)],⟨[],[(b.length,1,9)],[]⟩)) (fun r=>∃ k:Nat,r=some (.ret,[.str [],.bool false],⟨[],[(k,1,9)],[]⟩)) ?_ ?_ ?_
 ·rw [List.take_length] at hl;obtain⟨h1,h2⟩:=hl;have x0:xLen (rOf cI l)=(l.length:Nat):=by simp
  unfold qzt qAc jn;rw [x0];cases ha:l.all tyOk with
  |true =>
   have h':qik sep [] (rOf cI l) (l.length:Nat) 0 0=_:=h1 ha;have o:qfB (l.map tyT) sep=true:=by
    rw [qb5];have:=qg0 (M:=3) sep (l.map tyT) (fun x hx=>by
     obtain⟨a,ha,rfl⟩:=List.mem_map.1 hx;exact qrr a)
    have h3:(l.map tyT).length * (3+sep.length)≤100000 * (3+10):=Nat.mul_le_mul (by simpa using hn) (by omega)
    exact⟨by simp;omega,by omega⟩
   simp only [qju,qct,ql8,qmf,qmo,ql6,qjO,qcM,h'];rw [qb5] at o;simp [o.2];omega
  |false =>
   obtain⟨k,hk⟩:=h2 ha;have h':qik sep [] (rOf cI l) (l.length:Nat) 0 0=_:=hk;simp only [qju,qct,ql8,qmf,qmo,ql6,qjO,qcM,h'];simp
 ·intro i b a hb hi hi2 ha ho;have hm:tyS a:=hs a (ha ▸ List.getElem_mem hi);have q1:iLt (i:Int) (l.length:Nat)=true:=by simp;omega
  have q3:qao (i:Int)=true:=by simp
  have q4:qbx [PV.int .i64 0] (rOf cI l) (nNat (i:Int))=true:=by simp;omega
  have w:=qbQ (i:=i) (by omega)
  have e1:=qpB hm;have e2:=qqp hm;have e3:=qqq hm;rw [ho] at e3;have x0:xInt (rOf cI l) (nNat (i:Int)) 0=a:=by simp [hi,ha]
  have o1:∀ c,qbm (rOf cS b) [c] 16=true:=fun c=>by simp;omega
  have o2:∀ t:Txt,qbf [[PV.str t]] 1=true:=fun t=>by simp [one]
  have o3:qaD (rOf cS b) 1=true:=qhh _;have o4:nEq b.length (nXs (rOf cS b))=true:=by simp
  have o5:bNot true=false:=rfl;show qia [.str sep,.fn 83 [],.sl (rOf cS b) (.tok 0),.sl (rOf cI l) .non,.int .i64 (l.length:Nat),.int .i64 (i:Nat)] ⟨[],[(b.length,1,9)],[]⟩=qia [.str sep,.fn 83 [],.sl (rOf cS (b++[tyT a])) (.tok 0),.sl (rOf cI l) .non,.int .i64 (l.length:Nat),.int .i64 ((i+1:Nat):Int)] ⟨[],[((b++[tyT a]).length,1,9)],[]⟩
  rw [qw4];simp only [qmM,q1,q3,q4,x0,qaw,e1,e2,e3,o1,o2,o3,o4,o5,w];simp
 ·intro i b a hb hi hi2 ha ho;have hm:tyS a:=hs a (ha ▸ List.getElem_mem hi);have q1:iLt (i:Int) (l.length:Nat)=true:=by simp;omega
  have q3:qao (i:Int)=true:=by simp
  have q4:qbx [PV.int .i64 0] (rOf cI l) (nNat (i:Int))=true:=by simp;omega
  have w:=qbQ (i:=i) (by omega)
  have e1:=qpB hm;have e2:=qqp hm;have e3:=qqq hm;rw [ho] at e3;have x0:xInt (rOf cI l) (nNat (i:Int)) 0=a:=by simp [hi,ha]
  have o5:bNot false=true:=rfl;show ∃ k:Nat,qia [.str sep,.fn 83 [],.sl (rOf cS b) (.tok 0),.sl (rOf cI l) .non,.int .i64 (l.length:Nat),.int .i64 (i:Nat)] ⟨[],[(b.length,1,9)],[]⟩=_
  refine⟨b.length,?_⟩;rw [qw4];simp only [qmM,q1,q3,q4,x0,qaw,e1,e2,e3,o5];simp
 ·intro b hb;have q1:iLt (l.length:Nat) (l.length:Nat)=false:=by simp
  show qia [.str sep,.fn 83 [],.sl (rOf cS b) (.tok 0),.sl (rOf cI l) .non,.int .i64 (l.length:Nat),.int .i64 (l.length:Nat)] ⟨[],[(b.length,1,9)],[]⟩=_
  rw [qw4];simp only [qmM,q1];simp
theorem qE7 {l:List Int} (hs:∀ a∈l,tyS a) (hn:l.length≤100000) {sep:Txt} (hsep:sep.length≤10):qiz (rOf cI l) sep=true:=by simp only [qr2,qiz,qjo,qtx hs hn hsep];simp
theorem qF4 {l:List Int} (hs:∀ a∈l,tyS a) (hn:l.length≤100000) {sep:Txt} (hsep:sep.length≤10):qjo (rOf cI l) sep=jn tyOk tyT sep l:=by simp only [qr2,qiz,qjo,qtx hs hn hsep];simp
theorem qFv {l:List Int} (hs:∀ a∈l,tyS a) (hn:l.length≤100000) {sep:Txt} (hsep:sep.length≤10):qr2 (rOf cI l) sep=l.all tyOk:=by simp only [qr2,qiz,qjo,qtx hs hn hsep];simp
theorem qnb {d:De} (h:deS d):qnd d.1 d.2.1 (rOf cI d.2.2)=some (.tup [.str (deT d),.bool (deOk d)]):=by
 have j1:=qE7 (l:=d.2.2) (fun _ _=>trivial) (by have:=h.2;omega) (sep:=[44,32]) (by decide)
 have j2:=qF4 (l:=d.2.2) (fun _ _=>trivial) (by have:=h.2;omega) (sep:=[44,32]) (by decide)
 have j3:=qFv (l:=d.2.2) (fun _ _=>trivial) (by have:=h.2;omega) (sep:=[44,32]) (by decide)
 have hj:=qwA (ok:=tyOk) (T:=tyT) (M:=3) [44,32] d.2.2 12 h.2 (fun t _=>qrr t)
 have hb:d.1.length≤65536:=Nat.le_trans h.1 (by decide)
 have hn:=h.1;simp at hj;unfold qnd qpw deT deOk;simp only [qaw,j1,j2,j3,qme hb,qri hb];cases d.2.1 with
 |true =>
  have o1:qba [98,97,115,101,32] d.1=true:=qbz (by simp;omega)
  have o2:qba (sApp [98,97,115,101,32] d.1) [40]=true:=qbz (by simp;omega)
  have o3:qba (sApp (sApp [98,97,115,101,32] d.1) [40]) (jn tyOk tyT [44,32] d.2.2)=true:=qbz (by simp;omega)
  have o4:qba (sApp (sApp (sApp [98,97,115,101,32] d.1) [40]) (jn tyOk tyT [44,32] d.2.2)) [41,46]=true:=qbz (by simp;omega)
  simp only [o1,o2,o3,o4];cases d.2.2.all tyOk<;>simp
 |false =>
  have o1:qba [118,105,101,119,32] d.1=true:=qbz (by simp;omega)
  have o2:qba (sApp [118,105,101,119,32] d.1) [40]=true:=qbz (by simp;omega)
  have o3:qba (sApp (sApp [118,105,101,119,32] d.1) [40]) (jn tyOk tyT [44,32] d.2.2)=true:=qbz (by simp;omega)
  have o4:qba (sApp (sApp (sApp [118,105,101,119,32] d.1) [40]) (jn tyOk tyT [44,32] d.2.2)) [41,46]=true:=qbz (by simp;omega)
  simp only [o1,o2,o3,o4];cases d.2.2.all tyOk<;>simp
theorem qA7 {d:De} (h:deS d):qfw d.1 d.2.1 (rOf cI d.2.2)=true:=by simp only [qgn,qfw,qf1,qnb h];simp
theorem qBR {d:De} (h:deS d):qf1 d.1 d.2.1 (rOf cI d.2.2)=deT d:=by simp only [qgn,qfw,qf1,qnb h];simp
theorem qAP {d:De} (h:deS d):qgn d.1 d.2.1 (rOf cI d.2.2)=deOk d:=by simp only [qgn,qfw,qf1,qnb h];simp
theorem qqn {p:Pa} (h:paS p):qsm p.1 p.2=some (.tup [.str (paT p),.bool (paOk p)]):=by
 have hb:p.1.length≤65536:=Nat.le_trans h (by decide)
 have hn:p.1.length≤300:=h;have ht:=qrr p.2;have k1:=qpB (t:=p.2) trivial;have k2:=qqp (t:=p.2) trivial;have k3:=qqq (t:=p.2) trivial;unfold qsm qt0 paT paOk;simp only [k1,k2,k3,qt5 hb,qyq hb];rw [qbz (by simp;omega),qbz (by simp;omega)]
 cases tyOk p.2<;>simp
theorem qyo {p:Pa} (h:paS p):qh4 p.1 p.2=true:=by simp only [qne,qh4,qio,qqn h];simp
theorem qxg {p:Pa} (h:paS p):qio p.1 p.2=paT p:=by simp only [qne,qh4,qio,qqn h];simp
theorem qyi {p:Pa} (h:paS p):qne p.1 p.2=paOk p:=by simp only [qne,qh4,qio,qqn h];simp
theorem qqT {a:Ac} (h:acS a):qsA a.1 a.2.1 (rOf cM a.2.2)=some (.tup [.str (acT a),.bool (acOk a)]):=by
 have h:atS a.2:=h;have e1:=qrj h;have e2:=qqN h;have e3:=qqk h;have l1:=qnJ h;unfold qsA qtZ acT acOk;simp only [qaw,e1,e2,e3];rw [qbz (a:=[43]) (by simp;omega),qbz (a:=[45]) (by simp;omega)]
 cases a.1<;>simp
theorem qx7 {a:Ac} (h:acS a):qhO a.1 a.2.1 (rOf cM a.2.2)=true:=by simp only [qmH,qhO,qid,qqT h];simp
theorem qx3 {a:Ac} (h:acS a):qid a.1 a.2.1 (rOf cM a.2.2)=acT a:=by simp only [qmH,qhO,qid,qqT h];simp
theorem qAm {a:Ac} (h:acS a):qmH a.1 a.2.1 (rOf cM a.2.2)=acOk a:=by simp only [qmH,qhO,qid,qqT h];simp
theorem qtS {l:List Pa} (hs:∀ a∈l,paS a) (hn:l.length≤100000) {sep:Txt} (hsep:sep.length≤10):qxA (rOf cP l) sep=some (.tup [.str (jn paOk paT sep l),.bool (l.all paOk)]):=by
 have hl:=qfP (l:=l) l.length (Nat.le_refl _) (V:=fun i b=>qig [.str sep,.fn 85 [],.sl (rOf cS b) (.tok 0),.sl (rOf cP l) .non,.int .i64 (l.length:Nat),.int .i64 (i:Nat)] ⟨[],[(b.length,1,9)],[]⟩) paOk paT (fun b=>some (.exit 0,[.str sep,.sl (rOf cS b) (.tok 0)],⟨[],[(b.length,1,9)],[]⟩)) (fun r=>∃ k:Nat,r=some (.ret,[.str [],.bool false],⟨[],[(k,1,9)],[]⟩)) ?_ ?_ ?_
 ·rw [List.take_length] at hl;obtain⟨h1,h2⟩:=hl;have x0:xLen (rOf cP l)=(l.length:Nat):=by simp
  unfold qxA qxv jn;rw [x0];cases ha:l.all paOk with
  |true =>
   have h':qil sep [] (rOf cP l) (l.length:Nat) 0 0=_:=h1 ha;have o:qfB (l.map paT) sep=true:=by
    rw [qb5];have:=qg0 (M:=304) sep (l.map paT) (fun x hx=>by
     obtain⟨a,ha,rfl⟩:=List.mem_map.1 hx;exact qxj (hs a ha))
    have h3:(l.map paT).length * (304+sep.length)≤100000 * (304+10):=Nat.mul_le_mul (by simpa using hn) (by omega)
    exact⟨by simp;omega,by omega⟩
   simp only [qjW,qcp,ql2,qlB,qlZ,qlY,qjR,qcE,h'];rw [qb5] at o;simp [o.2];omega
  |false =>
   obtain⟨k,hk⟩:=h2 ha;have h':qil sep [] (rOf cP l) (l.length:Nat) 0 0=_:=hk;simp only [qjW,qcp,ql2,qlB,qlZ,qlY,qjR,qcE,h'];simp
 ·intro i b a hb hi hi2 ha ho;have hm:paS a:=hs a (ha ▸ List.getElem_mem hi);have q1:iLt (i:Int) (l.length:Nat)=true:=by simp;omega
  have q3:qao (i:Int)=true:=by simp
  have q4:qbx [PV.str [],.int .i64 0] (rOf cP l) (nNat (i:Int))=true:=by simp;omega
  have w:=qbQ (i:=i) (by omega)
  have e1:=qyo hm;have e2:=qxg hm;have e3:=qyi hm;rw [ho] at e3;have x0:xStr (rOf cP l) (nNat (i:Int)) 0=a.1:=by simp [hi,ha]
  have x1:xInt (rOf cP l) (nNat (i:Int)) 1=a.2:=by simp [hi,ha]
  have o1:∀ c,qbm (rOf cS b) [c] 16=true:=fun c=>by simp;omega
  have o2:∀ t:Txt,qbf [[PV.str t]] 1=true:=fun t=>by simp [one]
  have o3:qaD (rOf cS b) 1=true:=qhh _;have o4:nEq b.length (nXs (rOf cS b))=true:=by simp
  have o5:bNot true=false:=rfl;show qig [.str sep,.fn 85 [],.sl (rOf cS b) (.tok 0),.sl (rOf cP l) .non,.int .i64 (l.length:Nat),.int .i64 (i:Nat)] ⟨[],[(b.length,1,9)],[]⟩=qig [.str sep,.fn 85 [],.sl (rOf cS (b++[paT a])) (.tok 0),.sl (rOf cP l) .non,.int .i64 (l.length:Nat),.int .i64 ((i+1:Nat):Int)] ⟨[],[((b++[paT a]).length,1,9)],[]⟩
  rw [qzU];simp only [qm4,q1,q3,q4,x0,x1,qaw,e1,e2,e3,o1,o2,o3,o4,o5,w];simp
 ·intro i b a hb hi hi2 ha ho;have hm:paS a:=hs a (ha ▸ List.getElem_mem hi);have q1:iLt (i:Int) (l.length:Nat)=true:=by simp;omega
  have q3:qao (i:Int)=true:=by simp
  have q4:qbx [PV.str [],.int .i64 0] (rOf cP l) (nNat (i:Int))=true:=by simp;omega
  have w:=qbQ (i:=i) (by omega)
  have e1:=qyo hm;have e2:=qxg hm;have e3:=qyi hm;rw [ho] at e3;have x0:xStr (rOf cP l) (nNat (i:Int)) 0=a.1:=by simp [hi,ha]
  have x1:xInt (rOf cP l) (nNat (i:Int)) 1=a.2:=by simp [hi,ha]
  have o5:bNot false=true:=rfl;show ∃ k:Nat,qig [.str sep,.fn 85 [],.sl (rOf cS b) (.tok 0),.sl (rOf cP l) .non,.int .i64 (l.length:Nat),.int .i64 (i:Nat)] ⟨[],[(b.length,1,9)],[]⟩=_
  refine⟨b.length,?_⟩;rw [qzU];simp only [qm4,q1,q3,q4,x0,x1,qaw,e1,e2,e3,o5];simp
 ·intro b hb;have q1:iLt (l.length:Nat) (l.length:Nat)=false:=by simp
  show qig [.str sep,.fn 85 [],.sl (rOf cS b) (.tok 0),.sl (rOf cP l) .non,.int .i64 (l.length:Nat),.int .i64 (l.length:Nat)] ⟨[],[(b.length,1,9)],[]⟩=_
  rw [qzU];simp only [qm4,q1];simp
theorem qEV {l:List Pa} (hs:∀ a∈l,paS a) (hn:l.length≤100000) {sep:Txt} (hsep:sep.length≤10):qk2 (rOf cP l) sep=true:=by simp only [qsp,qk2,qfI,qtS hs hn hsep];simp
theorem qFP {l:List Pa} (hs:∀ a∈l,paS a) (hn:l.length≤100000) {sep:Txt} (hsep:sep.length≤10):qfI (rOf cP l) sep=jn paOk paT sep l:=by simp only [qsp,qk2,qfI,qtS hs hn hsep];simp
theorem qF5 {l:List Pa} (hs:∀ a∈l,paS a) (hn:l.length≤100000) {sep:Txt} (hsep:sep.length≤10):qsp (rOf cP l) sep=l.all paOk:=by simp only [qsp,qk2,qfI,qtS hs hn hsep];simp
theorem qsM {l:List Ac} (hs:∀ a∈l,acS a) (hn:l.length≤100000) {sep:Txt} (hsep:sep.length≤10):qxo (rOf cAc l) sep=some (.tup [.str (jn acOk acT sep l),.bool (l.all acOk)]):=by
 have hl:=qfP (l:=l) l.length (Nat.le_refl _) (V:=fun i b=>qif [.str sep,.fn 87 [],.sl (rOf cS b) (.tok 0),.sl (rOf cAc l) .non,.int .i64 (l.length:Nat),.int .i64 (i:Nat)] ⟨[],[(b.length,1,9)],[]⟩) acOk acT (fun b=>some (.exit 0,[.str sep,.sl (rOf cS b) (.tok 0)],⟨[],[(b.length,1,9)],[]⟩)) (fun r=>∃ k:Nat,r=some (.ret,[.str [],.bool false],⟨[],[(k,1,9)],[]⟩)) ?_ ?_ ?_
 ·rw [List.take_length] at hl;obtain⟨h1,h2⟩:=hl;have x0:xLen (rOf cAc l)=(l.length:Nat):=by simp
  unfold qxo qyP jn;rw [x0];cases ha:l.all acOk with
  |true =>
   have h':qib sep [] (rOf cAc l) (l.length:Nat) 0 0=_:=h1 ha;have o:qfB (l.map acT) sep=true:=by
    rw [qb5];have:=qg0 (M:=14001) sep (l.map acT) (fun x hx=>by
     obtain⟨a,ha,rfl⟩:=List.mem_map.1 hx;exact qxi (hs a ha))
    have h3:(l.map acT).length * (14001+sep.length)≤100000 * (14001+10):=Nat.mul_le_mul (by simpa using hn) (by omega)
    exact⟨by simp;omega,by omega⟩
   simp only [qj7,qcn,qlW,qlx,ql9,qlM,qjr,qcA,h'];rw [qb5] at o;simp [o.2];omega
  |false =>
   obtain⟨k,hk⟩:=h2 ha;have h':qib sep [] (rOf cAc l) (l.length:Nat) 0 0=_:=hk;simp only [qj7,qcn,qlW,qlx,ql9,qlM,qjr,qcA,h'];simp
 ·intro i b a hb hi hi2 ha ho;have hm:acS a:=hs a (ha ▸ List.getElem_mem hi);have q1:iLt (i:Int) (l.length:Nat)=true:=by simp;omega
  have q3:qao (i:Int)=true:=by simp
  have q4:qbx [PV.bool false,.str [],.sl [] .full] (rOf cAc l) (nNat (i:Int))=true:=by simp;omega
  have w:=qbQ (i:=i) (by omega)
  have e1:=qx7 hm;have e2:=qx3 hm;have e3:=qAm hm;rw [ho] at e3;have x0:qfu (rOf cAc l) (nNat (i:Int)) 0=a.1:=by simp [hi,ha]
  have x1:xStr (rOf cAc l) (nNat (i:Int)) 1=a.2.1:=by simp [hi,ha]
  have x2:xRow (rOf cAc l) (nNat (i:Int)) 2=rOf cM a.2.2:=by simp [hi,ha]
  have o1:∀ c,qbm (rOf cS b) [c] 16=true:=fun c=>by simp;omega
  have o2:∀ t:Txt,qbf [[PV.str t]] 1=true:=fun t=>by simp [one]
  have o3:qaD (rOf cS b) 1=true:=qhh _;have o4:nEq b.length (nXs (rOf cS b))=true:=by simp
  have o5:bNot true=false:=rfl;show qif [.str sep,.fn 87 [],.sl (rOf cS b) (.tok 0),.sl (rOf cAc l) .non,.int .i64 (l.length:Nat),.int .i64 (i:Nat)] ⟨[],[(b.length,1,9)],[]⟩=qif [.str sep,.fn 87 [],.sl (rOf cS (b++[acT a])) (.tok 0),.sl (rOf cAc l) .non,.int .i64 (l.length:Nat),.int .i64 ((i+1:Nat):Int)] ⟨[],[((b++[acT a]).length,1,9)],[]⟩
  rw [qx5];simp only [qmJ,q1,q3,q4,x0,x1,x2,qaw,e1,e2,e3,o1,o2,o3,o4,o5,w];simp
 ·intro i b a hb hi hi2 ha ho;have hm:acS a:=hs a (ha ▸ List.getElem_mem hi);have q1:iLt (i:Int) (l.length:Nat)=true:=by simp;omega
  have q3:qao (i:Int)=true:=by simp
  have q4:qbx [PV.bool false,.str [],.sl [] .full] (rOf cAc l) (nNat (i:Int))=true:=by simp;omega
  have w:=qbQ (i:=i) (by omega)
  have e1:=qx7 hm;have e2:=qx3 hm;have e3:=qAm hm;rw [ho] at e3;have x0:qfu (rOf cAc l) (nNat (i:Int)) 0=a.1:=by simp [hi,ha]
  have x1:xStr (rOf cAc l) (nNat (i:Int)) 1=a.2.1:=by simp [hi,ha]
  have x2:xRow (rOf cAc l) (nNat (i:Int)) 2=rOf cM a.2.2:=by simp [hi,ha]
  have o5:bNot false=true:=rfl;show ∃ k:Nat,qif [.str sep,.fn 87 [],.sl (rOf cS b) (.tok 0),.sl (rOf cAc l) .non,.int .i64 (l.length:Nat),.int .i64 (i:Nat)] ⟨[],[(b.length,1,9)],[]⟩=_
  refine⟨b.length,?_⟩;rw [qx5];simp only [qmJ,q1,q3,q4,x0,x1,x2,qaw,e1,e2,e3,o5];simp
 ·intro b hb;have q1:iLt (l.length:Nat) (l.length:Nat)=false:=by simp
  show qif [.str sep,.fn 87 [],.sl (rOf cS b) (.tok 0),.sl (rOf cAc l) .non,.int .i64 (l.length:Nat),.int .i64 (l.length:Nat)] ⟨[],[(b.length,1,9)],[]⟩=_
  rw [qx5];simp only [qmJ,q1];simp
theorem qFb {l:List Ac} (hs:∀ a∈l,acS a) (hn:l.length≤100000) {sep:Txt} (hsep:sep.length≤10):qk7 (rOf cAc l) sep=true:=by simp only [qr3,qk7,qhk,qsM hs hn hsep];simp
theorem qEY {l:List Ac} (hs:∀ a∈l,acS a) (hn:l.length≤100000) {sep:Txt} (hsep:sep.length≤10):qhk (rOf cAc l) sep=jn acOk acT sep l:=by simp only [qr3,qk7,qhk,qsM hs hn hsep];simp
theorem qE5 {l:List Ac} (hs:∀ a∈l,acS a) (hn:l.length≤100000) {sep:Txt} (hsep:sep.length≤10):qr3 (rOf cAc l) sep=l.all acOk:=by simp only [qr3,qk7,qhk,qsM hs hn hsep];simp
theorem qun {o:En} (h:enS o):qAd o.1 (rOf cP o.2.1) (rOf cAc o.2.2)=some (.tup [.str (enT o),.bool (enOk o)]):=by
 have j1:=qEV h.2.1.2 (by have:=h.2.1.1;omega) (sep:=[44,32]) (by decide)
 have j2:=qFP h.2.1.2 (by have:=h.2.1.1;omega) (sep:=[44,32]) (by decide)
 have j3:=qF5 h.2.1.2 (by have:=h.2.1.1;omega) (sep:=[44,32]) (by decide)
 have k1:=qFb h.2.2.2 (by have:=h.2.2.1;omega) (sep:=[44,32]) (by decide)
 have k2:=qEY h.2.2.2 (by have:=h.2.2.1;omega) (sep:=[44,32]) (by decide)
 have k3:=qE5 h.2.2.2 (by have:=h.2.2.1;omega) (sep:=[44,32]) (by decide)
 have hj:=qwA (ok:=paOk) (T:=paT) (M:=304) [44,32] o.2.1 12 h.2.1.1 (fun p hp=>qxj (h.2.1.2 p hp))
 have hk:=qwA (ok:=acOk) (T:=acT) (M:=14001) [44,32] o.2.2 8 h.2.2.1 (fun a ha=>qxi (h.2.2.2 a ha))
 have hb:o.1.length≤65536:=Nat.le_trans h.1 (by decide)
 have hn:=h.1;simp at hj hk;unfold qAd qzR enT enOk;simp only [qaw,j1,j2,j3,k1,k2,k3,qme hb,qri hb];by_cases hc:o.2.2=[]
 ·rw [hc] at hk ⊢;have t:iLt 0 (xLen (rOf cAc []))=false:=rfl;have o1:qba [111,110,32] o.1=true:=qbz (by simp;omega)
  have o2:qba (sApp [111,110,32] o.1) [40]=true:=qbz (by simp;omega)
  have o3:qba (sApp (sApp [111,110,32] o.1) [40]) (jn paOk paT [44,32] o.2.1)=true:=qbz (by simp;omega)
  have o4:qba (sApp (sApp (sApp [111,110,32] o.1) [40]) (jn paOk paT [44,32] o.2.1)) [41]=true:=qbz (by simp;omega)
  have o5:qba (sApp (sApp (sApp (sApp [111,110,32] o.1) [40]) (jn paOk paT [44,32] o.2.1)) [41]) (jn acOk acT [44,32] [])=true:=qbz (by simp;omega)
  have o6:qba (sApp (sApp (sApp (sApp (sApp [111,110,32] o.1) [40]) (jn paOk paT [44,32] o.2.1)) [41]) (jn acOk acT [44,32] [])) [46]=true:=qbz (by simp;omega)
  simp only [t,o1,o2,o3,o4,o5,o6];cases o.2.1.all paOk<;>simp [jn,qoB]
 ·have t:iLt 0 (xLen (rOf cAc o.2.2))=true:=by simp;exact List.length_pos_iff.2 hc
  have o0:qba [58,32] (jn acOk acT [44,32] o.2.2)=true:=qbz (by simp;omega)
  have o1:qba [111,110,32] o.1=true:=qbz (by simp;omega)
  have o2:qba (sApp [111,110,32] o.1) [40]=true:=qbz (by simp;omega)
  have o3:qba (sApp (sApp [111,110,32] o.1) [40]) (jn paOk paT [44,32] o.2.1)=true:=qbz (by simp;omega)
  have o4:qba (sApp (sApp (sApp [111,110,32] o.1) [40]) (jn paOk paT [44,32] o.2.1)) [41]=true:=qbz (by simp;omega)
  have o5:qba (sApp (sApp (sApp (sApp [111,110,32] o.1) [40]) (jn paOk paT [44,32] o.2.1)) [41]) (sApp [58,32] (jn acOk acT [44,32] o.2.2))=true:=qbz (by simp;omega)
  have o6:qba (sApp (sApp (sApp (sApp (sApp [111,110,32] o.1) [40]) (jn paOk paT [44,32] o.2.1)) [41]) (sApp [58,32] (jn acOk acT [44,32] o.2.2))) [46]=true:=qbz (by simp;omega)
  simp only [t,o0,o1,o2,o3,o4,o5,o6];cases o.2.1.all paOk<;>cases o.2.2.all acOk<;>simp [hc]
theorem qFH {o:En} (h:enS o):qkB o.1 (rOf cP o.2.1) (rOf cAc o.2.2)=true:=by simp only [qpy,qkB,qqb,qun h];simp
theorem qE0 {o:En} (h:enS o):qqb o.1 (rOf cP o.2.1) (rOf cAc o.2.2)=enT o:=by simp only [qpy,qkB,qqb,qun h];simp
theorem qFl {o:En} (h:enS o):qpy o.1 (rOf cP o.2.1) (rOf cAc o.2.2)=enOk o:=by simp only [qpy,qkB,qqb,qun h];simp
def tdS (ok:Bool) (s:Txt):Txt:=if ok then s else []
def tdE (ok:Bool):Int:=if ok then 0 else 140
theorem qm5 (s:Txt) (ok:Bool):qmS s ok=some (.tup [.str (tdS ok s),.int .i64 (tdE ok)]):=by
 unfold qmS qp4 tdS tdE;cases ok<;>rfl
theorem qq6 (s:Txt) (ok:Bool):qdO s ok=true:=by simp only [qdO,qfY,qgG,qm5];simp
theorem qqW (s:Txt) (ok:Bool):qgG s ok=tdS ok s:=by simp only [qdO,qfY,qgG,qm5];simp
theorem qqa (s:Txt) (ok:Bool):qfY s ok=tdE ok:=by simp only [qdO,qfY,qgG,qm5];simp
theorem qnB {x:Ru} (h:ruS x):qms x.1.1 (rOf cM x.1.2) (rOf cL x.2)=some (.tup [.str (tdS (ruOk x) (ruT x)),.int .i64 (tdE (ruOk x))]):=by
 have e1:=qA1 h;have e2:=qBv h;have e3:=qBw h;unfold qms qrk;simp only [qaw,e1,e2,e3,qq6,qqW,qqa];rfl
theorem qqL {x:Ru} (h:ruS x):qcW x.1.1 (rOf cM x.1.2) (rOf cL x.2)=true:=by simp only [qcW,qeD,qby,qnB h];simp
theorem qp6 {x:Ru} (h:ruS x):qby x.1.1 (rOf cM x.1.2) (rOf cL x.2)=tdS (ruOk x) (ruT x):=by simp only [qcW,qeD,qby,qnB h];simp
theorem qqe {x:Ru} (h:ruS x):qeD x.1.1 (rOf cM x.1.2) (rOf cL x.2)=tdE (ruOk x):=by simp only [qcW,qeD,qby,qnB h];simp
theorem qod {d:De} (h:deS d):qnM d.1 d.2.1 (rOf cI d.2.2)=some (.tup [.str (tdS (deOk d) (deT d)),.int .i64 (tdE (deOk d))]):=by
 have e1:=qA7 h;have e2:=qBR h;have e3:=qAP h;unfold qnM qqF;simp only [qaw,e1,e2,e3,qq6,qqW,qqa];rfl
theorem quK {d:De} (h:deS d):qeC d.1 d.2.1 (rOf cI d.2.2)=true:=by simp only [qeC,qbP,qbR,qod h];simp
theorem qvn {d:De} (h:deS d):qbR d.1 d.2.1 (rOf cI d.2.2)=tdS (deOk d) (deT d):=by simp only [qeC,qbP,qbR,qod h];simp
theorem quO {d:De} (h:deS d):qbP d.1 d.2.1 (rOf cI d.2.2)=tdE (deOk d):=by simp only [qeC,qbP,qbR,qod h];simp
theorem qta {o:En} (h:enS o):qz1 o.1 (rOf cP o.2.1) (rOf cAc o.2.2)=some (.tup [.str (tdS (enOk o) (enT o)),.int .i64 (tdE (enOk o))]):=by
 have e1:=qFH h;have e2:=qE0 h;have e3:=qFl h;unfold qz1 qzh;simp only [qaw,e1,e2,e3,qq6,qqW,qqa];rfl
theorem qzS {o:En} (h:enS o):qft o.1 (rOf cP o.2.1) (rOf cAc o.2.2)=true:=by simp only [qft,qiQ,qdo,qta h];simp
theorem qxX {o:En} (h:enS o):qdo o.1 (rOf cP o.2.1) (rOf cAc o.2.2)=tdS (enOk o) (enT o):=by simp only [qft,qiQ,qdo,qta h];simp
theorem qzW {o:En} (h:enS o):qiQ o.1 (rOf cP o.2.1) (rOf cAc o.2.2)=tdE (enOk o):=by simp only [qft,qiQ,qdo,qta h];simp
end Go.Pv
set_option linter.unusedSimpArgs false
set_option linter.unusedVariables false
namespace Go.Pv
open Go.RowKit
end Go.Pv
set_option maxHeartbeats 4000000
set_option maxRecDepth 200000
set_option linter.unusedSimpArgs false
set_option linter.unusedVariables false
namespace Go.Pv
open Go Go.Proofs
end Go.Pv
set_option maxHeartbeats 8000000
set_option maxRecDepth 200000
set_option linter.unusedSimpArgs false
set_option linter.unusedVariables false
namespace Go.Pv
open Go Go.Proofs Go.RowKit
end Go.Pv
set_option maxHeartbeats 4000000
set_option maxRecDepth 200000
set_option linter.unusedSimpArgs false
set_option linter.unusedVariables false
namespace Go.Pv
open Go Go.Proofs
end Go.Pv
set_option maxHeartbeats 4000000
set_option maxRecDepth 200000
set_option linter.unusedSimpArgs false
set_option linter.unusedVariables false
namespace Go.Pv
open Go Go.Proofs
def qjL:GamT:=ofL []
theorem qpc (gl:Gl):qa3 Tryz.prog gl (gam qjL):=qag
def qi9:Code:=qgr Tryz.f51 4
def qjm:LI:=⟨38,[2,3,5],fun e=>match e with|.ret=>[4]|.exit 0=>[]|_=>[],true⟩
def qkF:LpsT:=fun r fr σ=>.fail
def qcy (vs:List PV) (σ:Store):Option (PExit×List PV×Store):=lval (lstep tbT qjL qkF qi9 qjm) vs σ
def qfM (i:Int) (s:qU) (r:qR) (s2:qU) (r2:qR):Tr LR:=.ite (iLt i (xLen r)) (.ite (qao i) (.ite (qbx [.int .i64 0,.str [],.int .i64 0,.int .i64 0,.str []] r (nNat i)) (.ite (qao i) (.ite (qbx [.int .i64 0,.str [],.int .i64 0,.int .i64 0,.str []] r2 (nNat i)) (.ite (bNot (bAnd (iEq (xInt r (nNat i) 0) (xInt r2 (nNat i) 0)) (bAnd (sEq (xStr r (nNat i) 1) (xStr r2 (nNat i) 1)) (bAnd (bAnd (iEq (xInt r (nNat i) 2) (xInt r2 (nNat i) 2)) (bAnd (iEq (xInt r (nNat i) 3) (xInt r2 (nNat i) 3)) (bAnd (sEq (xStr r (nNat i) 4) (xStr r2 (nNat i) 4)) true))) true)))) (.ret (.out .ret [.bool false] (Store.mk [[.str s,.sl r .non],[.str s2,.sl r2 .non]] [] [31,31]))) (.ret (.next [.ptr 0 0,.ptr 1 0,.int .i64 (iAdd .i64 i 1)] (Store.mk [[.str s,.sl r .non],[.str s2,.sl r2 .non]] [] [31,31])))) .fail) .fail) .fail) .fail) (.ret (.out (.exit 0) [] (Store.mk [[.str s,.sl r .non],[.str s2,.sl r2 .non]] [] [31,31])))
theorem qw7 (i:Int) (s:qU) (r:qR) (s2:qU) (r2:qR):lstep tbT qjL qkF qi9 qjm [.ptr 0 0,.ptr 1 0,.int .i64 i] ⟨[[.str s,.sl r .non],[.str s2,.sl r2 .non]],[],[31,31]⟩=qfM i s r s2 r2:=by kernel_rfl
theorem qnp (i:Int) (s:qU) (r:qR) (s2:qU) (r2:qR):qcy [.ptr 0 0,.ptr 1 0,.int .i64 i] ⟨[[.str s,.sl r .non],[.str s2,.sl r2 .non]],[],[31,31]⟩=lnext qcy (qfM i s r s2 r2).run:=by unfold qcy;rw [qb0,qw7]
def qci (i:Int) (s:qU) (r:qR) (s2:qU) (r2:qR):Option (PExit×List PV×Store):=qcy [.ptr 0 0,.ptr 1 0,.int .i64 i] ⟨[[.str s,.sl r .non],[.str s2,.sl r2 .non]],[],[31,31]⟩
def qeb (i:Int) (s:qU) (r:qR) (s2:qU) (r2:qR):Bool:=(qbU (gOut (qci i s r s2 r2) 0))
def qgm (i:Int) (s:qU) (r:qR) (s2:qU) (r2:qR):List UInt8:=(gStr (gAt (gObj (qci i s r s2 r2) 0) 0))
def qgU (i:Int) (s:qU) (r:qR) (s2:qU) (r2:qR):List (List PV):=(gRow (gAt (gObj (qci i s r s2 r2) 0) 1))
def qfo (i:Int) (s:qU) (r:qR) (s2:qU) (r2:qR):List UInt8:=(gStr (gAt (gObj (qci i s r s2 r2) 1) 0))
def qfk (i:Int) (s:qU) (r:qR) (s2:qU) (r2:qR):List (List PV):=(gRow (gAt (gObj (qci i s r s2 r2) 1) 1))
def qfZ (i:Int) (s:qU) (r:qR) (s2:qU) (r2:qR):Bool:=isW (qci i s r s2 r2) (.ret,[.bool (qeb i s r s2 r2)],⟨[[.str (qgm i s r s2 r2),.sl (qgU i s r s2 r2) .non],[.str (qfo i s r s2 r2),.sl (qfk i s r s2 r2) .non]],[],[31,31]⟩)
def qgy (i:Int) (s:qU) (r:qR) (s2:qU) (r2:qR):List UInt8:=(gStr (gAt (gObj (qci i s r s2 r2) 0) 0))
def qgd (i:Int) (s:qU) (r:qR) (s2:qU) (r2:qR):List (List PV):=(gRow (gAt (gObj (qci i s r s2 r2) 0) 1))
def qeR (i:Int) (s:qU) (r:qR) (s2:qU) (r2:qR):List UInt8:=(gStr (gAt (gObj (qci i s r s2 r2) 1) 0))
def qfm (i:Int) (s:qU) (r:qR) (s2:qU) (r2:qR):List (List PV):=(gRow (gAt (gObj (qci i s r s2 r2) 1) 1))
def qg6 (i:Int) (s:qU) (r:qR) (s2:qU) (r2:qR):Bool:=isW (qci i s r s2 r2) ((.exit 0),[],⟨[[.str (qgy i s r s2 r2),.sl (qgd i s r s2 r2) .non],[.str (qeR i s r s2 r2),.sl (qfm i s r s2 r2) .non]],[],[31,31]⟩)
def qe0:List PV→Store→Tr (PExit×List PV×Store)|[.ptr 0 0,.ptr 1 0,.int .i64 i],⟨[[.str s,.sl r .non],[.str s2,.sl r2 .non]],[],[31,31]⟩=>.ite (qfZ i s r s2 r2) (.ret (.ret,[.bool (qeb i s r s2 r2)],⟨[[.str (qgm i s r s2 r2),.sl (qgU i s r s2 r2) .non],[.str (qfo i s r s2 r2),.sl (qfk i s r s2 r2) .non]],[],[31,31]⟩)) (.ite (qg6 i s r s2 r2) (.ret ((.exit 0),[],⟨[[.str (qgy i s r s2 r2),.sl (qgd i s r s2 r2) .non],[.str (qeR i s r s2 r2),.sl (qfm i s r s2 r2) .non]],[],[31,31]⟩)) (.fail))|_,_=>.fail
theorem qwf:∀ vs σ r,(qe0 vs σ).run=some r→qcy vs σ=some r:=by
 intro vs σ r h;unfold qe0 at h
 split at h
 ·exact qah h fun h=>qah h fun h=>by cases h
 ·cases h
theorem qrI (gl:Gl):∀ fr σ e fr' σ',(orc qjm qe0 fr σ).run=some (e,fr',σ')→LDoes Tryz.prog gl qi9 fr σ e fr' σ':=qdi qav (qpc gl ) qai (L:=qkF) (qae (by kernel_rfl)) (by kernel_rfl) qwf
def qpS:LpsT:=fun r fr σ=>bif Nat.beq r 4 then orc qjm qe0 fr σ else .fail
def qn6 (a:qU) (a2:qR) (b:qU) (b2:qR):Tr PV:=.ite (sNe a b) (.ret (.bool false)) (.ite (iNe (xLen a2) (xLen b2)) (.ret (.bool false)) (.ite (qfZ 0 a a2 b b2) (.ret (.bool (qeb 0 a a2 b b2))) (.ite (qg6 0 a a2 b b2) (.ret (.bool true)) .fail)))
theorem qBd (a:qU) (a2:qR) (b:qU) (b2:qR):(tcall tbT qjL qpS Tryz.f51 [.agg [.str a,.sl a2 .non],.agg [.str b,.sl b2 .non]]).flat=qn6 a a2 b b2:=by kernel_rfl
def qlI (a:qU) (a2:qR) (b:qU) (b2:qR):Option PV:=(qn6 a a2 b b2).run
def qfd (a:qU) (a2:qR) (b:qU) (b2:qR):Bool:=(qbU (gVal (qlI a a2 b b2)))
def qdA (a:qU) (a2:qR) (b:qU) (b2:qR):Bool:=isW (qlI a a2 b b2) (.bool (qfd a a2 b b2))
def qjx:List PV→Tr PV|[.agg [.str a,.sl a2 .non],.agg [.str b,.sl b2 .non]]=>.ite (qdA a a2 b b2) (.ret (.bool (qfd a a2 b b2))) (.fail)|_=>.fail
theorem qkq (gl:Gl):SimP Tryz.prog gl 51 fun args=>(qjx args).run:=by
 refine SimP.of_flat (G:=qjL) (L:=qpS) qav (qpc gl ) qai  Tryz.func51 rfl (by rfl) (by kernel_rfl) (qbp (L:=lps qpS) [(4,qi9)] (by kernel_rfl) (List.forall_mem_cons.2 ⟨fun fr σ e fr' σ' h=>qrI gl  fr σ e fr' σ' h,(List.forall_mem_nil _)⟩)) ?_
 intro args x h;unfold qjx at h
 split at h
 ·exact (congrArg Tr.run (qBd _ _ _ _)).trans (qah h fun h=>by cases h)
 ·cases h
def qpF:GamT:=ofL [(51,.pure qjx)]
theorem qwg (gl:Gl):qa3 Tryz.prog gl (gam qpF):=(qad (qkq gl) qag)
def qu8:LpsT:=fun r fr σ=>.fail
def qnU (a:Int) (a2:qU) (a3:qR) (a4:Int) (a5:Int) (a6:qU) (a7:Int) (a8:Int) (a9:qU) (a10:Int) (a11:qU) (a12:Int) (a13:Int) (a14:qU) (b:Int) (b2:qU) (b3:qR) (b4:Int) (b5:Int) (b6:qU) (b7:Int) (b8:Int) (b9:qU) (b10:Int) (b11:qU) (b12:Int) (b13:Int) (b14:qU):Tr PV:=.ite (iEq a b) (.ite (qdA a2 (qaa a3) b2 (qaa b3)) (.ite (qfd a2 (qaa a3) b2 (qaa b3)) (.ite (iEq a4 b4) (.ite (bAnd (iEq a5 b5) (bAnd (sEq a6 b6) (bAnd (bAnd (iEq a7 b7) (bAnd (iEq a8 b8) (bAnd (sEq a9 b9) true))) true))) (.ret (.bool (bAnd (iEq a10 b10) (bAnd (sEq a11 b11) (bAnd (bAnd (iEq a12 b12) (bAnd (iEq a13 b13) (bAnd (sEq a14 b14) true))) true))))) (.ret (.bool false))) (.ret (.bool false))) (.ret (.bool false))) .fail) (.ret (.bool false))
theorem qBe (a:Int) (a2:qU) (a3:qR) (a4:Int) (a5:Int) (a6:qU) (a7:Int) (a8:Int) (a9:qU) (a10:Int) (a11:qU) (a12:Int) (a13:Int) (a14:qU) (b:Int) (b2:qU) (b3:qR) (b4:Int) (b5:Int) (b6:qU) (b7:Int) (b8:Int) (b9:qU) (b10:Int) (b11:qU) (b12:Int) (b13:Int) (b14:qU):(tcall tbT qpF qu8 Tryz.f59 [.agg [.int .i64 a,.str a2,.sl a3 .non,.int .i64 a4,.int .i64 a5,.str a6,.int .i64 a7,.int .i64 a8,.str a9,.int .i64 a10,.str a11,.int .i64 a12,.int .i64 a13,.str a14],.agg [.int .i64 b,.str b2,.sl b3 .non,.int .i64 b4,.int .i64 b5,.str b6,.int .i64 b7,.int .i64 b8,.str b9,.int .i64 b10,.str b11,.int .i64 b12,.int .i64 b13,.str b14]]).flat=qnU a a2 a3 a4 a5 a6 a7 a8 a9 a10 a11 a12 a13 a14 b b2 b3 b4 b5 b6 b7 b8 b9 b10 b11 b12 b13 b14:=by kernel_rfl
def ql1 (a:Int) (a2:qU) (a3:qR) (a4:Int) (a5:Int) (a6:qU) (a7:Int) (a8:Int) (a9:qU) (a10:Int) (a11:qU) (a12:Int) (a13:Int) (a14:qU) (b:Int) (b2:qU) (b3:qR) (b4:Int) (b5:Int) (b6:qU) (b7:Int) (b8:Int) (b9:qU) (b10:Int) (b11:qU) (b12:Int) (b13:Int) (b14:qU):Option PV:=(qnU a a2 a3 a4 a5 a6 a7 a8 a9 a10 a11 a12 a13 a14 b b2 b3 b4 b5 b6 b7 b8 b9 b10 b11 b12 b13 b14).run
def qhC (a:Int) (a2:qU) (a3:qR) (a4:Int) (a5:Int) (a6:qU) (a7:Int) (a8:Int) (a9:qU) (a10:Int) (a11:qU) (a12:Int) (a13:Int) (a14:qU) (b:Int) (b2:qU) (b3:qR) (b4:Int) (b5:Int) (b6:qU) (b7:Int) (b8:Int) (b9:qU) (b10:Int) (b11:qU) (b12:Int) (b13:Int) (b14:qU):Bool:=(qbU (gVal (ql1 a a2 a3 a4 a5 a6 a7 a8 a9 a10 a11 a12 a13 a14 b b2 b3 b4 b5 b6 b7 b8 b9 b10 b11 b12 b13 b14)))
def qfy (a:Int) (a2:qU) (a3:qR) (a4:Int) (a5:Int) (a6:qU) (a7:Int) (a8:Int) (a9:qU) (a10:Int) (a11:qU) (a12:Int) (a13:Int) (a14:qU) (b:Int) (b2:qU) (b3:qR) (b4:Int) (b5:Int) (b6:qU) (b7:Int) (b8:Int) (b9:qU) (b10:Int) (b11:qU) (b12:Int) (b13:Int) (b14:qU):Bool:=isW (ql1 a a2 a3 a4 a5 a6 a7 a8 a9 a10 a11 a12 a13 a14 b b2 b3 b4 b5 b6 b7 b8 b9 b10 b11 b12 b13 b14) (.bool (qhC a a2 a3 a4 a5 a6 a7 a8 a9 a10 a11 a12 a13 a14 b b2 b3 b4 b5 b6 b7 b8 b9 b10 b11 b12 b13 b14))
def qqO:List PV→Tr PV|[.agg [.int .i64 a,.str a2,.sl a3 .non,.int .i64 a4,.int .i64 a5,.str a6,.int .i64 a7,.int .i64 a8,.str a9,.int .i64 a10,.str a11,.int .i64 a12,.int .i64 a13,.str a14],.agg [.int .i64 b,.str b2,.sl b3 .non,.int .i64 b4,.int .i64 b5,.str b6,.int .i64 b7,.int .i64 b8,.str b9,.int .i64 b10,.str b11,.int .i64 b12,.int .i64 b13,.str b14]]=>.ite (qfy a a2 a3 a4 a5 a6 a7 a8 a9 a10 a11 a12 a13 a14 b b2 b3 b4 b5 b6 b7 b8 b9 b10 b11 b12 b13 b14) (.ret (.bool (qhC a a2 a3 a4 a5 a6 a7 a8 a9 a10 a11 a12 a13 a14 b b2 b3 b4 b5 b6 b7 b8 b9 b10 b11 b12 b13 b14))) (.fail)|_=>.fail
theorem qwa (gl:Gl):SimP Tryz.prog gl 59 fun args=>(qqO args).run:=by
 refine SimP.of_flat (G:=qpF) (L:=qu8) qav (qwg gl ) qai  Tryz.func59 rfl (by rfl) (by kernel_rfl) (qae (by kernel_rfl)) ?_
 intro args x h;unfold qqO at h
 split at h
 ·exact (congrArg Tr.run (qBe _ _ _ _ _ _ _ _ _ _ _ _ _ _ _ _ _ _ _ _ _ _ _ _ _ _ _ _)).trans (qah h fun h=>by cases h)
 ·cases h
def qki:GamT:=ofL [(51,.pure qjx),(59,.pure qqO)]
theorem qo5 (gl:Gl):qa3 Tryz.prog gl (gam qki):=(qad (qkq gl) (qad (qwa gl) qag))
def qjn:Code:=qgr Tryz.f32 4
def qj3:LI:=⟨40,[2,3,5],fun e=>match e with|.ret=>[4]|.exit 0=>[]|_=>[],true⟩
def qk5:LpsT:=fun r fr σ=>.fail
def qcB (vs:List PV) (σ:Store):Option (PExit×List PV×Store):=lval (lstep tbT qki qk5 qjn qj3) vs σ
def qfH (i:Int) (s:qU) (r:qR) (r2:qR) (s2:qU) (r3:qR) (r4:qR):Tr LR:=.ite (iLt i (xLen r2)) (.ite (qao i) (.ite (qbx [.int .i64 0,.str [],.sl [] .full,.int .i64 0,.int .i64 0,.str [],.int .i64 0,.int .i64 0,.str [],.int .i64 0,.str [],.int .i64 0,.int .i64 0,.str []] r2 (nNat i)) (.ite (qao i) (.ite (qbx [.int .i64 0,.str [],.sl [] .full,.int .i64 0,.int .i64 0,.str [],.int .i64 0,.int .i64 0,.str [],.int .i64 0,.str [],.int .i64 0,.int .i64 0,.str []] r4 (nNat i)) (.ite (qfy (xInt r2 (nNat i) 0) (xStr r2 (nNat i) 1) (qaa (xRow r2 (nNat i) 2)) (xInt r2 (nNat i) 3) (xInt r2 (nNat i) 4) (xStr r2 (nNat i) 5) (xInt r2 (nNat i) 6) (xInt r2 (nNat i) 7) (xStr r2 (nNat i) 8) (xInt r2 (nNat i) 9) (xStr r2 (nNat i) 10) (xInt r2 (nNat i) 11) (xInt r2 (nNat i) 12) (xStr r2 (nNat i) 13) (xInt r4 (nNat i) 0) (xStr r4 (nNat i) 1) (qaa (xRow r4 (nNat i) 2)) (xInt r4 (nNat i) 3) (xInt r4 (nNat i) 4) (xStr r4 (nNat i) 5) (xInt r4 (nNat i) 6) (xInt r4 (nNat i) 7) (xStr r4 (nNat i) 8) (xInt r4 (nNat i) 9) (xStr r4 (nNat i) 10) (xInt r4 (nNat i) 11) (xInt r4 (nNat i) 12) (xStr r4 (nNat i) 13)) (.ite (bNot (qhC (xInt r2 (nNat i) 0) (xStr r2 (nNat i) 1) (qaa (xRow r2 (nNat i) 2)) (xInt r2 (nNat i) 3) (xInt r2 (nNat i) 4) (xStr r2 (nNat i) 5) (xInt r2 (nNat i) 6) (xInt r2 (nNat i) 7) (xStr r2 (nNat i) 8) (xInt r2 (nNat i) 9) (xStr r2 (nNat i) 10) (xInt r2 (nNat i) 11) (xInt r2 (nNat i) 12) (xStr r2 (nNat i) 13) (xInt r4 (nNat i) 0) (xStr r4 (nNat i) 1) (qaa (xRow r4 (nNat i) 2)) (xInt r4 (nNat i) 3) (xInt r4 (nNat i) 4) (xStr r4 (nNat i) 5) (xInt r4 (nNat i) 6) (xInt r4 (nNat i) 7) (xStr r4 (nNat i) 8) (xInt r4 (nNat i) 9) (xStr r4 (nNat i) 10) (xInt r4 (nNat i) 11) (xInt r4 (nNat i) 12) (xStr r4 (nNat i) 13))) (.ret (.out .ret [.bool false] (Store.mk [[.str s,.sl r .non,.sl r2 .non],[.str s2,.sl r3 .non,.sl r4 .non]] [] [48,48]))) (.ret
 (.next [.ptr 0 0,.ptr 1 0,.int .i64 (iAdd .i64 i 1)] (Store.mk [[.str s,.sl r .non,.sl r2 .non],[.str s2,.sl r3 .non,.sl r4 .non]] [] [48,48])))) .fail) .fail) .fail) .fail) .fail) (.ret (.out (.exit 0) [] (Store.mk [[.str s,.sl r .non,.sl r2 .non],[.str s2,.sl r3 .non,.sl r4 .non]] [] [48,48])))
theorem qyX (i:Int) (s:qU) (r:qR) (r2:qR) (s2:qU) (r3:qR) (r4:qR):lstep tbT qki qk5 qjn qj3 [.ptr 0 0,.ptr 1 0,.int .i64 i] ⟨[[.str s,.sl r .non,.sl r2 .non],[.str s2,.sl r3 .non,.sl r4 .non]],[],[48,48]⟩=qfH i s r r2 s2 r3 r4:=by kernel_rfl
theorem qos (i:Int) (s:qU) (r:qR) (r2:qR) (s2:qU) (r3:qR) (r4:qR):qcB [.ptr 0 0,.ptr 1 0,.int .i64 i] ⟨[[.str s,.sl r .non,.sl r2 .non],[.str s2,.sl r3 .non,.sl r4 .non]],[],[48,48]⟩=lnext qcB (qfH i s r r2 s2 r3 r4).run:=by unfold qcB;rw [qb0,qyX]
def qbN (i:Int) (s:qU) (r:qR) (r2:qR) (s2:qU) (r3:qR) (r4:qR):Option (PExit×List PV×Store):=qcB [.ptr 0 0,.ptr 1 0,.int .i64 i] ⟨[[.str s,.sl r .non,.sl r2 .non],[.str s2,.sl r3 .non,.sl r4 .non]],[],[48,48]⟩
def qeG (i:Int) (s:qU) (r:qR) (r2:qR) (s2:qU) (r3:qR) (r4:qR):Bool:=(qbU (gOut (qbN i s r r2 s2 r3 r4) 0))
def qf9 (i:Int) (s:qU) (r:qR) (r2:qR) (s2:qU) (r3:qR) (r4:qR):List UInt8:=(gStr (gAt (gObj (qbN i s r r2 s2 r3 r4) 0) 0))
def qgK (i:Int) (s:qU) (r:qR) (r2:qR) (s2:qU) (r3:qR) (r4:qR):List (List PV):=(gRow (gAt (gObj (qbN i s r r2 s2 r3 r4) 0) 1))
def qfb (i:Int) (s:qU) (r:qR) (r2:qR) (s2:qU) (r3:qR) (r4:qR):List (List PV):=(gRow (gAt (gObj (qbN i s r r2 s2 r3 r4) 0) 2))
def qeO (i:Int) (s:qU) (r:qR) (r2:qR) (s2:qU) (r3:qR) (r4:qR):List UInt8:=(gStr (gAt (gObj (qbN i s r r2 s2 r3 r4) 1) 0))
def qfg (i:Int) (s:qU) (r:qR) (r2:qR) (s2:qU) (r3:qR) (r4:qR):List (List PV):=(gRow (gAt (gObj (qbN i s r r2 s2 r3 r4) 1) 1))
def qfc (i:Int) (s:qU) (r:qR) (r2:qR) (s2:qU) (r3:qR) (r4:qR):List (List PV):=(gRow (gAt (gObj (qbN i s r r2 s2 r3 r4) 1) 2))
def qgp (i:Int) (s:qU) (r:qR) (r2:qR) (s2:qU) (r3:qR) (r4:qR):Bool:=isW (qbN i s r r2 s2 r3 r4) (.ret,[.bool (qeG i s r r2 s2 r3 r4)],⟨[[.str (qf9 i s r r2 s2 r3 r4),.sl (qgK i s r r2 s2 r3 r4) .non,.sl (qfb i s r r2 s2 r3 r4) .non],[.str (qeO i s r r2 s2 r3 r4),.sl (qfg i s r r2 s2 r3 r4) .non,.sl (qfc i s r r2 s2 r3 r4) .non]],[],[48,48]⟩)
def qfW (i:Int) (s:qU) (r:qR) (r2:qR) (s2:qU) (r3:qR) (r4:qR):List UInt8:=(gStr (gAt (gObj (qbN i s r r2 s2 r3 r4) 0) 0))
def qgi (i:Int) (s:qU) (r:qR) (r2:qR) (s2:qU) (r3:qR) (r4:qR):List (List PV):=(gRow (gAt (gObj (qbN i s r r2 s2 r3 r4) 0) 1))
def qeP (i:Int) (s:qU) (r:qR) (r2:qR) (s2:qU) (r3:qR) (r4:qR):List (List PV):=(gRow (gAt (gObj (qbN i s r r2 s2 r3 r4) 0) 2))
def qeZ (i:Int) (s:qU) (r:qR) (r2:qR) (s2:qU) (r3:qR) (r4:qR):List UInt8:=(gStr (gAt (gObj (qbN i s r r2 s2 r3 r4) 1) 0))
def qfp (i:Int) (s:qU) (r:qR) (r2:qR) (s2:qU) (r3:qR) (r4:qR):List (List PV):=(gRow (gAt (gObj (qbN i s r r2 s2 r3 r4) 1) 1))
def qeL (i:Int) (s:qU) (r:qR) (r2:qR) (s2:qU) (r3:qR) (r4:qR):List (List PV):=(gRow (gAt (gObj (qbN i s r r2 s2 r3 r4) 1) 2))
def qgt (i:Int) (s:qU) (r:qR) (r2:qR) (s2:qU) (r3:qR) (r4:qR):Bool:=isW (qbN i s r r2 s2 r3 r4) ((.exit 0),[],⟨[[.str (qfW i s r r2 s2 r3 r4),.sl (qgi i s r r2 s2 r3 r4) .non,.sl (qeP i s r r2 s2 r3 r4) .non],[.str (qeZ i s r r2 s2 r3 r4),.sl (qfp i s r r2 s2 r3 r4) .non,.sl (qeL i s r r2 s2 r3 r4) .non]],[],[48,48]⟩)
def qeU:List PV→Store→Tr (PExit×List PV×Store)|[.ptr 0 0,.ptr 1 0,.int .i64 i],⟨[[.str s,.sl r .non,.sl r2 .non],[.str s2,.sl r3 .non,.sl r4 .non]],[],[48,48]⟩=>.ite (qgp i s r r2 s2 r3 r4) (.ret (.ret,[.bool (qeG i s r r2 s2 r3 r4)],⟨[[.str (qf9 i s r r2 s2 r3 r4),.sl (qgK i s r r2 s2 r3 r4) .non,.sl (qfb i s r r2 s2 r3 r4) .non],[.str (qeO i s r r2 s2 r3 r4),.sl (qfg i s r r2 s2 r3 r4) .non,.sl (qfc i s r r2 s2 r3 r4) .non]],[],[48,48]⟩)) (.ite (qgt i s r r2 s2 r3 r4) (.ret ((.exit 0),[],⟨[[.str (qfW i s r r2 s2 r3 r4),.sl (qgi i s r r2 s2 r3 r4) .non,.sl (qeP i s r r2 s2 r3 r4) .non],[.str (qeZ i s r r2 s2 r3 r4),.sl (qfp i s r r2 s2 r3 r4) .non,.sl (qeL i s r r2 s2 r3 r4) .non]],[],[48,48]⟩)) (.fail))|_,_=>.fail
theorem qvW:∀ vs σ r,(qeU vs σ).run=some r→qcB vs σ=some r:=by
 intro vs σ r h;unfold qeU at h
 split at h
 ·exact qah h fun h=>qah h fun h=>by cases h
 ·cases h
theorem qrG (gl:Gl):∀ fr σ e fr' σ',(orc qj3 qeU fr σ).run=some (e,fr',σ')→LDoes Tryz.prog gl qjn fr σ e fr' σ':=qdi qav (qo5 gl ) qai (L:=qk5) (qae (by kernel_rfl)) (by kernel_rfl) qvW
def qrc:LpsT:=fun r fr σ=>bif Nat.beq r 4 then orc qj3 qeU fr σ else .fail
def qmO (a:qU) (a2:qR) (a3:qR) (b:qU) (b2:qR) (b3:qR):Tr PV:=.ite (qdA a (qaa a2) b (qaa b2)) (.ite (bNot (qfd a (qaa a2) b (qaa b2))) (.ret (.bool false)) (.ite (iNe (xLen a3) (xLen b3)) (.ret (.bool false)) (.ite (qgp 0 a a2 a3 b b2 b3) (.ret (.bool (qeG 0 a a2 a3 b b2 b3))) (.ite (qgt 0 a a2 a3 b b2 b3) (.ret (.bool true)) .fail)))) .fail
theorem qAO (a:qU) (a2:qR) (a3:qR) (b:qU) (b2:qR) (b3:qR):(tcall tbT qki qrc Tryz.f32 [.agg [.str a,.sl a2 .non,.sl a3 .non],.agg [.str b,.sl b2 .non,.sl b3 .non]]).flat=qmO a a2 a3 b b2 b3:=by kernel_rfl
def qlN (a:qU) (a2:qR) (a3:qR) (b:qU) (b2:qR) (b3:qR):Option PV:=(qmO a a2 a3 b b2 b3).run
def qcu (a:qU) (a2:qR) (a3:qR) (b:qU) (b2:qR) (b3:qR):Bool:=(qbU (gVal (qlN a a2 a3 b b2 b3)))
def qfD (a:qU) (a2:qR) (a3:qR) (b:qU) (b2:qR) (b3:qR):Bool:=isW (qlN a a2 a3 b b2 b3) (.bool (qcu a a2 a3 b b2 b3))
def qpY:List PV→Tr PV|[.agg [.str a,.sl a2 .non,.sl a3 .non],.agg [.str b,.sl b2 .non,.sl b3 .non]]=>.ite (qfD a a2 a3 b b2 b3) (.ret (.bool (qcu a a2 a3 b b2 b3))) (.fail)|_=>.fail
theorem qwy (gl:Gl):SimP Tryz.prog gl 32 fun args=>(qpY args).run:=by
 refine SimP.of_flat (G:=qki) (L:=qrc) qav (qo5 gl ) qai  Tryz.func32 rfl (by rfl) (by kernel_rfl) (qbp (L:=lps qrc) [(4,qjn)] (by kernel_rfl) (List.forall_mem_cons.2 ⟨fun fr σ e fr' σ' h=>qrG gl  fr σ e fr' σ' h,(List.forall_mem_nil _)⟩)) ?_
 intro args x h;unfold qpY at h
 split at h
 ·exact (congrArg Tr.run (qAO _ _ _ _ _ _)).trans (qah h fun h=>by cases h)
 ·cases h
def qjy:GamT:=ofL []
theorem qpd (gl:Gl):qa3 Tryz.prog gl (gam qjy):=qag
def qj6:Code:=qgr Tryz.f34 4
def qjh:LI:=⟨45,[2,3,5],fun e=>match e with|.ret=>[4]|.exit 0=>[]|_=>[],true⟩
def qkE:LpsT:=fun r fr σ=>.fail
def qcz (vs:List PV) (σ:Store):Option (PExit×List PV×Store):=lval (lstep tbT qjy qkE qj6 qjh) vs σ
def qfE (i:Int) (s:qU) (b:Bool) (r:qR) (s2:qU) (b2:Bool) (r2:qR):Tr LR:=.ite (iLt i (xLen r)) (.ite (qao i) (.ite (qbx [.int .i64 0] r (nNat i)) (.ite (qao i) (.ite (qbx [.int .i64 0] r2 (nNat i)) (.ite (iNe (xInt r (nNat i) 0) (xInt r2 (nNat i) 0)) (.ret (.out .ret [.bool false] (Store.mk [[.str s,.bool b,.sl r .non],[.str s2,.bool b2,.sl r2 .non]] [] [51,51]))) (.ret (.next [.ptr 0 0,.ptr 1 0,.int .i64 (iAdd .i64 i 1)] (Store.mk [[.str s,.bool b,.sl r .non],[.str s2,.bool b2,.sl r2 .non]] [] [51,51])))) .fail) .fail) .fail) .fail) (.ret (.out (.exit 0) [] (Store.mk [[.str s,.bool b,.sl r .non],[.str s2,.bool b2,.sl r2 .non]] [] [51,51])))
theorem qyR (i:Int) (s:qU) (b:Bool) (r:qR) (s2:qU) (b2:Bool) (r2:qR):lstep tbT qjy qkE qj6 qjh [.ptr 0 0,.ptr 1 0,.int .i64 i] ⟨[[.str s,.bool b,.sl r .non],[.str s2,.bool b2,.sl r2 .non]],[],[51,51]⟩=qfE i s b r s2 b2 r2:=by kernel_rfl
theorem qmT (i:Int) (s:qU) (b:Bool) (r:qR) (s2:qU) (b2:Bool) (r2:qR):qcz [.ptr 0 0,.ptr 1 0,.int .i64 i] ⟨[[.str s,.bool b,.sl r .non],[.str s2,.bool b2,.sl r2 .non]],[],[51,51]⟩=lnext qcz (qfE i s b r s2 b2 r2).run:=by unfold qcz;rw [qb0,qyR]
def qbL (i:Int) (s:qU) (b:Bool) (r:qR) (s2:qU) (b2:Bool) (r2:qR):Option (PExit×List PV×Store):=qcz [.ptr 0 0,.ptr 1 0,.int .i64 i] ⟨[[.str s,.bool b,.sl r .non],[.str s2,.bool b2,.sl r2 .non]],[],[51,51]⟩
def qev (i:Int) (s:qU) (b:Bool) (r:qR) (s2:qU) (b2:Bool) (r2:qR):Bool:=(qbU (gOut (qbL i s b r s2 b2 r2) 0))
def qgH (i:Int) (s:qU) (b:Bool) (r:qR) (s2:qU) (b2:Bool) (r2:qR):List UInt8:=(gStr (gAt (gObj (qbL i s b r s2 b2 r2) 0) 0))
def qfq (i:Int) (s:qU) (b:Bool) (r:qR) (s2:qU) (b2:Bool) (r2:qR):Bool:=(qbU (gAt (gObj (qbL i s b r s2 b2 r2) 0) 1))
def qgO (i:Int) (s:qU) (b:Bool) (r:qR) (s2:qU) (b2:Bool) (r2:qR):List (List PV):=(gRow (gAt (gObj (qbL i s b r s2 b2 r2) 0) 2))
def qeN (i:Int) (s:qU) (b:Bool) (r:qR) (s2:qU) (b2:Bool) (r2:qR):List UInt8:=(gStr (gAt (gObj (qbL i s b r s2 b2 r2) 1) 0))
def qeY (i:Int) (s:qU) (b:Bool) (r:qR) (s2:qU) (b2:Bool) (r2:qR):Bool:=(qbU (gAt (gObj (qbL i s b r s2 b2 r2) 1) 1))
def qfn (i:Int) (s:qU) (b:Bool) (r:qR) (s2:qU) (b2:Bool) (r2:qR):List (List PV):=(gRow (gAt (gObj (qbL i s b r s2 b2 r2) 1) 2))
def qfR (i:Int) (s:qU) (b:Bool) (r:qR) (s2:qU) (b2:Bool) (r2:qR):Bool:=isW (qbL i s b r s2 b2 r2) (.ret,[.bool (qev i s b r s2 b2 r2)],⟨[[.str (qgH i s b r s2 b2 r2),.bool (qfq i s b r s2 b2 r2),.sl (qgO i s b r s2 b2 r2) .non],[.str (qeN i s b r s2 b2 r2),.bool (qeY i s b r s2 b2 r2),.sl (qfn i s b r s2 b2 r2) .non]],[],[51,51]⟩)
def qgX (i:Int) (s:qU) (b:Bool) (r:qR) (s2:qU) (b2:Bool) (r2:qR):List UInt8:=(gStr (gAt (gObj (qbL i s b r s2 b2 r2) 0) 0))
def qgA (i:Int) (s:qU) (b:Bool) (r:qR) (s2:qU) (b2:Bool) (r2:qR):Bool:=(qbU (gAt (gObj (qbL i s b r s2 b2 r2) 0) 1))
def qgw (i:Int) (s:qU) (b:Bool) (r:qR) (s2:qU) (b2:Bool) (r2:qR):List (List PV):=(gRow (gAt (gObj (qbL i s b r s2 b2 r2) 0) 2))
def qe7 (i:Int) (s:qU) (b:Bool) (r:qR) (s2:qU) (b2:Bool) (r2:qR):List UInt8:=(gStr (gAt (gObj (qbL i s b r s2 b2 r2) 1) 0))
def qe4 (i:Int) (s:qU) (b:Bool) (r:qR) (s2:qU) (b2:Bool) (r2:qR):Bool:=(qbU (gAt (gObj (qbL i s b r s2 b2 r2) 1) 1))
def qfi (i:Int) (s:qU) (b:Bool) (r:qR) (s2:qU) (b2:Bool) (r2:qR):List (List PV):=(gRow (gAt (gObj (qbL i s b r s2 b2 r2) 1) 2))
def qfT (i:Int) (s:qU) (b:Bool) (r:qR) (s2:qU) (b2:Bool) (r2:qR):Bool:=isW (qbL i s b r s2 b2 r2) ((.exit 0),[],⟨[[.str (qgX i s b r s2 b2 r2),.bool (qgA i s b r s2 b2 r2),.sl (qgw i s b r s2 b2 r2) .non],[.str (qe7 i s b r s2 b2 r2),.bool (qe4 i s b r s2 b2 r2),.sl (qfi i s b r s2 b2 r2) .non]],[],[51,51]⟩)
def qe8:List PV→Store→Tr (PExit×List PV×Store)|[.ptr 0 0,.ptr 1 0,.int .i64 i],⟨[[.str s,.bool b,.sl r .non],[.str s2,.bool b2,.sl r2 .non]],[],[51,51]⟩=>.ite (qfR i s b r s2 b2 r2) (.ret (.ret,[.bool (qev i s b r s2 b2 r2)],⟨[[.str (qgH i s b r s2 b2 r2),.bool (qfq i s b r s2 b2 r2),.sl (qgO i s b r s2 b2 r2) .non],[.str (qeN i s b r s2 b2 r2),.bool (qeY i s b r s2 b2 r2),.sl (qfn i s b r s2 b2 r2) .non]],[],[51,51]⟩)) (.ite (qfT i s b r s2 b2 r2) (.ret ((.exit 0),[],⟨[[.str (qgX i s b r s2 b2 r2),.bool (qgA i s b r s2 b2 r2),.sl (qgw i s b r s2 b2 r2) .non],[.str (qe7 i s b r s2 b2 r2),.bool (qe4 i s b r s2 b2 r2),.sl (qfi i s b r s2 b2 r2) .non]],[],[51,51]⟩)) (.fail))|_,_=>.fail
theorem qvZ:∀ vs σ r,(qe8 vs σ).run=some r→qcz vs σ=some r:=by
 intro vs σ r h;unfold qe8 at h
 split at h
 ·exact qah h fun h=>qah h fun h=>by cases h
 ·cases h
theorem qr4 (gl:Gl):∀ fr σ e fr' σ',(orc qjh qe8 fr σ).run=some (e,fr',σ')→LDoes Tryz.prog gl qj6 fr σ e fr' σ':=qdi qav (qpd gl ) qai (L:=qkE) (qae (by kernel_rfl)) (by kernel_rfl) qvZ
def qqZ:LpsT:=fun r fr σ=>bif Nat.beq r 4 then orc qjh qe8 fr σ else .fail
def qm9 (a:qU) (a2:Bool) (a3:qR) (b:qU) (b2:Bool) (b3:qR):Tr PV:=.ite (sNe a b) (.ret (.bool false)) (.ite (bNot (bEq a2 b2)) (.ret (.bool false)) (.ite (iNe (xLen a3) (xLen b3)) (.ret (.bool false)) (.ite (qfR 0 a a2 a3 b b2 b3) (.ret (.bool (qev 0 a a2 a3 b b2 b3))) (.ite (qfT 0 a a2 a3 b b2 b3) (.ret (.bool true)) .fail))))
theorem qBj (a:qU) (a2:Bool) (a3:qR) (b:qU) (b2:Bool) (b3:qR):(tcall tbT qjy qqZ Tryz.f34 [.agg [.str a,.bool a2,.sl a3 .non],.agg [.str b,.bool b2,.sl b3 .non]]).flat=qm9 a a2 a3 b b2 b3:=by kernel_rfl
def qmn (a:qU) (a2:Bool) (a3:qR) (b:qU) (b2:Bool) (b3:qR):Option PV:=(qm9 a a2 a3 b b2 b3).run
def qcw (a:qU) (a2:Bool) (a3:qR) (b:qU) (b2:Bool) (b3:qR):Bool:=(qbU (gVal (qmn a a2 a3 b b2 b3)))
def qbS (a:qU) (a2:Bool) (a3:qR) (b:qU) (b2:Bool) (b3:qR):Bool:=isW (qmn a a2 a3 b b2 b3) (.bool (qcw a a2 a3 b b2 b3))
def qqP:List PV→Tr PV|[.agg [.str a,.bool a2,.sl a3 .non],.agg [.str b,.bool b2,.sl b3 .non]]=>.ite (qbS a a2 a3 b b2 b3) (.ret (.bool (qcw a a2 a3 b b2 b3))) (.fail)|_=>.fail
theorem qv1 (gl:Gl):SimP Tryz.prog gl 34 fun args=>(qqP args).run:=by
 refine SimP.of_flat (G:=qjy) (L:=qqZ) qav (qpd gl ) qai  Tryz.func34 rfl (by rfl) (by kernel_rfl) (qbp (L:=lps qqZ) [(4,qj6)] (by kernel_rfl) (List.forall_mem_cons.2 ⟨fun fr σ e fr' σ' h=>qr4 gl  fr σ e fr' σ' h,(List.forall_mem_nil _)⟩)) ?_
 intro args x h;unfold qqP at h
 split at h
 ·exact (congrArg Tr.run (qBj _ _ _ _ _ _)).trans (qah h fun h=>by cases h)
 ·cases h
def qgR:GamT:=ofL [(51,.pure qjx)]
theorem qld (gl:Gl):qa3 Tryz.prog gl (gam qgR):=(qad (qkq gl) qag)
def qjZ:Code:=qgr Tryz.f33 4
def qka:Code:=qgr Tryz.f33 9
def qji:LI:=⟨84,[2,3,5],fun e=>match e with|.ret=>[4]|.exit 0=>[2,3]|_=>[],true⟩
def qkz:LpsT:=fun r fr σ=>.fail
def qcN (vs:List PV) (σ:Store):Option (PExit×List PV×Store):=lval (lstep tbT qgR qkz qjZ qji) vs σ
def qfF (n:Int) (s:qU) (r:qR) (r2:qR) (s2:qU) (r3:qR) (r4:qR):Tr LR:=.ite (iLt n (xLen r)) (.ite (qao n) (.ite (qbx [.str [],.int .i64 0] r (nNat n)) (.ite (qao n) (.ite (qbx [.str [],.int .i64 0] r3 (nNat n)) (.ite (bNot (bAnd (sEq (xStr r (nNat n) 0) (xStr r3 (nNat n) 0)) (bAnd (iEq (xInt r (nNat n) 1) (xInt r3 (nNat n) 1)) true))) (.ret (.out .ret [.bool false] (Store.mk [[.str s,.sl r .non,.sl r2 .non],[.str s2,.sl r3 .non,.sl r4 .non]] [] [55,55]))) (.ret (.next [.ptr 0 0,.ptr 1 0,.int .i64 (iAdd .i64 n 1)] (Store.mk [[.str s,.sl r .non,.sl r2 .non],[.str s2,.sl r3 .non,.sl r4 .non]] [] [55,55])))) .fail) .fail) .fail) .fail) (.ret (.out (.exit 0) [.ptr 0 0,.ptr 1 0] (Store.mk [[.str s,.sl r .non,.sl r2 .non],[.str s2,.sl r3 .non,.sl r4 .non]] [] [55,55])))
theorem qy7 (n:Int) (s:qU) (r:qR) (r2:qR) (s2:qU) (r3:qR) (r4:qR):lstep tbT qgR qkz qjZ qji [.ptr 0 0,.ptr 1 0,.int .i64 n] ⟨[[.str s,.sl r .non,.sl r2 .non],[.str s2,.sl r3 .non,.sl r4 .non]],[],[55,55]⟩=qfF n s r r2 s2 r3 r4:=by kernel_rfl
theorem qnI (n:Int) (s:qU) (r:qR) (r2:qR) (s2:qU) (r3:qR) (r4:qR):qcN [.ptr 0 0,.ptr 1 0,.int .i64 n] ⟨[[.str s,.sl r .non,.sl r2 .non],[.str s2,.sl r3 .non,.sl r4 .non]],[],[55,55]⟩=lnext qcN (qfF n s r r2 s2 r3 r4).run:=by unfold qcN;rw [qb0,qy7]
def qbO (n:Int) (s:qU) (r:qR) (r2:qR) (s2:qU) (r3:qR) (r4:qR):Option (PExit×List PV×Store):=qcN [.ptr 0 0,.ptr 1 0,.int .i64 n] ⟨[[.str s,.sl r .non,.sl r2 .non],[.str s2,.sl r3 .non,.sl r4 .non]],[],[55,55]⟩
def qdD (n:Int) (s:qU) (r:qR) (r2:qR) (s2:qU) (r3:qR) (r4:qR):Bool:=(qbU (gOut (qbO n s r r2 s2 r3 r4) 0))
def qec (n:Int) (s:qU) (r:qR) (r2:qR) (s2:qU) (r3:qR) (r4:qR):List UInt8:=(gStr (gAt (gObj (qbO n s r r2 s2 r3 r4) 0) 0))
def qea (n:Int) (s:qU) (r:qR) (r2:qR) (s2:qU) (r3:qR) (r4:qR):List (List PV):=(gRow (gAt (gObj (qbO n s r r2 s2 r3 r4) 0) 1))
def qdJ (n:Int) (s:qU) (r:qR) (r2:qR) (s2:qU) (r3:qR) (r4:qR):List (List PV):=(gRow (gAt (gObj (qbO n s r r2 s2 r3 r4) 0) 2))
def qdP (n:Int) (s:qU) (r:qR) (r2:qR) (s2:qU) (r3:qR) (r4:qR):List UInt8:=(gStr (gAt (gObj (qbO n s r r2 s2 r3 r4) 1) 0))
def qdL (n:Int) (s:qU) (r:qR) (r2:qR) (s2:qU) (r3:qR) (r4:qR):List (List PV):=(gRow (gAt (gObj (qbO n s r r2 s2 r3 r4) 1) 1))
def qdQ (n:Int) (s:qU) (r:qR) (r2:qR) (s2:qU) (r3:qR) (r4:qR):List (List PV):=(gRow (gAt (gObj (qbO n s r r2 s2 r3 r4) 1) 2))
def qd4 (n:Int) (s:qU) (r:qR) (r2:qR) (s2:qU) (r3:qR) (r4:qR):Bool:=isW (qbO n s r r2 s2 r3 r4) (.ret,[.bool (qdD n s r r2 s2 r3 r4)],⟨[[.str (qec n s r r2 s2 r3 r4),.sl (qea n s r r2 s2 r3 r4) .non,.sl (qdJ n s r r2 s2 r3 r4) .non],[.str (qdP n s r r2 s2 r3 r4),.sl (qdL n s r r2 s2 r3 r4) .non,.sl (qdQ n s r r2 s2 r3 r4) .non]],[],[55,55]⟩)
def qcD (n:Int) (s:qU) (r:qR) (r2:qR) (s2:qU) (r3:qR) (r4:qR):List UInt8:=(gStr (gAt (gObj (qbO n s r r2 s2 r3 r4) 0) 0))
def qcP (n:Int) (s:qU) (r:qR) (r2:qR) (s2:qU) (r3:qR) (r4:qR):List (List PV):=(gRow (gAt (gObj (qbO n s r r2 s2 r3 r4) 0) 1))
def qcc (n:Int) (s:qU) (r:qR) (r2:qR) (s2:qU) (r3:qR) (r4:qR):List (List PV):=(gRow (gAt (gObj (qbO n s r r2 s2 r3 r4) 0) 2))
def qcd (n:Int) (s:qU) (r:qR) (r2:qR) (s2:qU) (r3:qR) (r4:qR):List UInt8:=(gStr (gAt (gObj (qbO n s r r2 s2 r3 r4) 1) 0))
def qb9 (n:Int) (s:qU) (r:qR) (r2:qR) (s2:qU) (r3:qR) (r4:qR):List (List PV):=(gRow (gAt (gObj (qbO n s r r2 s2 r3 r4) 1) 1))
def qca (n:Int) (s:qU) (r:qR) (r2:qR) (s2:qU) (r3:qR) (r4:qR):List (List PV):=(gRow (gAt (gObj (qbO n s r r2 s2 r3 r4) 1) 2))
def qef (n:Int) (s:qU) (r:qR) (r2:qR) (s2:qU) (r3:qR) (r4:qR):Bool:=isW (qbO n s r r2 s2 r3 r4) ((.exit 0),[.ptr 0 0,.ptr 1 0],⟨[[.str (qcD n s r r2 s2 r3 r4),.sl (qcP n s r r2 s2 r3 r4) .non,.sl (qcc n s r r2 s2 r3 r4) .non],[.str (qcd n s r r2 s2 r3 r4),.sl (qb9 n s r r2 s2 r3 r4) .non,.sl (qca n s r r2 s2 r3 r4) .non]],[],[55,55]⟩)
def qe9:List PV→Store→Tr (PExit×List PV×Store)|[.ptr 0 0,.ptr 1 0,.int .i64 n],⟨[[.str s,.sl r .non,.sl r2 .non],[.str s2,.sl r3 .non,.sl r4 .non]],[],[55,55]⟩=>.ite (qd4 n s r r2 s2 r3 r4) (.ret (.ret,[.bool (qdD n s r r2 s2 r3 r4)],⟨[[.str (qec n s r r2 s2 r3 r4),.sl (qea n s r r2 s2 r3 r4) .non,.sl (qdJ n s r r2 s2 r3 r4) .non],[.str (qdP n s r r2 s2 r3 r4),.sl (qdL n s r r2 s2 r3 r4) .non,.sl (qdQ n s r r2 s2 r3 r4) .non]],[],[55,55]⟩)) (.ite (qef n s r r2 s2 r3 r4) (.ret ((.exit 0),[.ptr 0 0,.ptr 1 0],⟨[[.str (qcD n s r r2 s2 r3 r4),.sl (qcP n s r r2 s2 r3 r4) .non,.sl (qcc n s r r2 s2 r3 r4) .non],[.str (qcd n s r r2 s2 r3 r4),.sl (qb9 n s r r2 s2 r3 r4) .non,.sl (qca n s r r2 s2 r3 r4) .non]],[],[55,55]⟩)) (.fail))|_,_=>.fail
theorem qwN:∀ vs σ r,(qe9 vs σ).run=some r→qcN vs σ=some r:=by
 intro vs σ r h;unfold qe9 at h
 split at h
 ·exact qah h fun h=>qah h fun h=>by cases h
 ·cases h
theorem qrH (gl:Gl):∀ fr σ e fr' σ',(orc qji qe9 fr σ).run=some (e,fr',σ')→LDoes Tryz.prog gl qjZ fr σ e fr' σ':=qdi qav (qld gl ) qai (L:=qkz) (qae (by kernel_rfl)) (by kernel_rfl) qwN
def qjX:LI:=⟨84,[2,3,6],fun e=>match e with|.ret=>[4]|.exit 2=>[]|_=>[],true⟩
def qlh:LpsT:=fun r fr σ=>.fail
def qcO (vs:List PV) (σ:Store):Option (PExit×List PV×Store):=lval (lstep tbT qgR qlh qka qjX) vs σ
def qd2 (n:Int) (s:qU) (r:qR) (r2:qR) (s2:qU) (r3:qR) (r4:qR):Tr LR:=.ite (iLt n (xLen r2)) (.ite (qao n) (.ite (qbx [.bool false,.str [],.sl [] .full] r2 (nNat n)) (.ite (qao n) (.ite (qbx [.bool false,.str [],.sl [] .full] r4 (nNat n)) (.ite (bNot (bEq (qfu r2 (nNat n) 0) (qfu r4 (nNat n) 0))) (.ret (.out .ret [.bool false] (Store.mk [[.str s,.sl r .non,.sl r2 .non],[.str s2,.sl r3 .non,.sl r4 .non]] [] [55,55]))) (.ite (qao n) (.ite (qbx [.bool false,.str [],.sl [] .full] r2 (nNat n)) (.ite (qao n) (.ite (qbx [.bool false,.str [],.sl [] .full] r4 (nNat n)) (.ite (qdA (xStr r2 (nNat n) 1) (qaa (xRow r2 (nNat n) 2)) (xStr r4 (nNat n) 1) (qaa (xRow r4 (nNat n) 2))) (.ite (bNot (qfd (xStr r2 (nNat n) 1) (qaa (xRow r2 (nNat n) 2)) (xStr r4 (nNat n) 1) (qaa (xRow r4 (nNat n) 2)))) (.ret (.out .ret [.bool false] (Store.mk [[.str s,.sl r .non,.sl r2 .non],[.str s2,.sl r3 .non,.sl r4 .non]] [] [55,55]))) (.ret (.next [.ptr 0 0,.ptr 1 0,.int .i64 (iAdd .i64 n 1)] (Store.mk [[.str s,.sl r .non,.sl r2 .non],[.str s2,.sl r3 .non,.sl r4 .non]] [] [55,55])))) .fail) .fail) .fail) .fail) .fail)) .fail) .fail) .fail) .fail) (.ret (.out (.exit 2) [] (Store.mk [[.str s,.sl r .non,.sl r2 .non],[.str s2,.sl r3 .non,.sl r4 .non]] [] [55,55])))
theorem qyT (n:Int) (s:qU) (r:qR) (r2:qR) (s2:qU) (r3:qR) (r4:qR):lstep tbT qgR qlh qka qjX [.ptr 0 0,.ptr 1 0,.int .i64 n] ⟨[[.str s,.sl r .non,.sl r2 .non],[.str s2,.sl r3 .non,.sl r4 .non]],[],[55,55]⟩=qd2 n s r r2 s2 r3 r4:=by kernel_rfl
theorem qm8 (n:Int) (s:qU) (r:qR) (r2:qR) (s2:qU) (r3:qR) (r4:qR):qcO [.ptr 0 0,.ptr 1 0,.int .i64 n] ⟨[[.str s,.sl r .non,.sl r2 .non],[.str s2,.sl r3 .non,.sl r4 .non]],[],[55,55]⟩=lnext qcO (qd2 n s r r2 s2 r3 r4).run:=by unfold qcO;rw [qb0,qyT]
def qbK (n:Int) (s:qU) (r:qR) (r2:qR) (s2:qU) (r3:qR) (r4:qR):Option (PExit×List PV×Store):=qcO [.ptr 0 0,.ptr 1 0,.int .i64 n] ⟨[[.str s,.sl r .non,.sl r2 .non],[.str s2,.sl r3 .non,.sl r4 .non]],[],[55,55]⟩
def qd9 (n:Int) (s:qU) (r:qR) (r2:qR) (s2:qU) (r3:qR) (r4:qR):Bool:=(qbU (gOut (qbK n s r r2 s2 r3 r4) 0))
def qgF (n:Int) (s:qU) (r:qR) (r2:qR) (s2:qU) (r3:qR) (r4:qR):List UInt8:=(gStr (gAt (gObj (qbK n s r r2 s2 r3 r4) 0) 0))
def qgV (n:Int) (s:qU) (r:qR) (r2:qR) (s2:qU) (r3:qR) (r4:qR):List (List PV):=(gRow (gAt (gObj (qbK n s r r2 s2 r3 r4) 0) 1))
def qeK (n:Int) (s:qU) (r:qR) (r2:qR) (s2:qU) (r3:qR) (r4:qR):List (List PV):=(gRow (gAt (gObj (qbK n s r r2 s2 r3 r4) 0) 2))
def qeQ (n:Int) (s:qU) (r:qR) (r2:qR) (s2:qU) (r3:qR) (r4:qR):List UInt8:=(gStr (gAt (gObj (qbK n s r r2 s2 r3 r4) 1) 0))
def qff (n:Int) (s:qU) (r:qR) (r2:qR) (s2:qU) (r3:qR) (r4:qR):List (List PV):=(gRow (gAt (gObj (qbK n s r r2 s2 r3 r4) 1) 1))
def qe1 (n:Int) (s:qU) (r:qR) (r2:qR) (s2:qU) (r3:qR) (r4:qR):List (List PV):=(gRow (gAt (gObj (qbK n s r r2 s2 r3 r4) 1) 2))
def qgY (n:Int) (s:qU) (r:qR) (r2:qR) (s2:qU) (r3:qR) (r4:qR):Bool:=isW (qbK n s r r2 s2 r3 r4) (.ret,[.bool (qd9 n s r r2 s2 r3 r4)],⟨[[.str (qgF n s r r2 s2 r3 r4),.sl (qgV n s r r2 s2 r3 r4) .non,.sl (qeK n s r r2 s2 r3 r4) .non],[.str (qeQ n s r r2 s2 r3 r4),.sl (qff n s r r2 s2 r3 r4) .non,.sl (qe1 n s r r2 s2 r3 r4) .non]],[],[55,55]⟩)
def qfQ (n:Int) (s:qU) (r:qR) (r2:qR) (s2:qU) (r3:qR) (r4:qR):List UInt8:=(gStr (gAt (gObj (qbK n s r r2 s2 r3 r4) 0) 0))
def qgS (n:Int) (s:qU) (r:qR) (r2:qR) (s2:qU) (r3:qR) (r4:qR):List (List PV):=(gRow (gAt (gObj (qbK n s r r2 s2 r3 r4) 0) 1))
def qfh (n:Int) (s:qU) (r:qR) (r2:qR) (s2:qU) (r3:qR) (r4:qR):List (List PV):=(gRow (gAt (gObj (qbK n s r r2 s2 r3 r4) 0) 2))
def qfa (n:Int) (s:qU) (r:qR) (r2:qR) (s2:qU) (r3:qR) (r4:qR):List UInt8:=(gStr (gAt (gObj (qbK n s r r2 s2 r3 r4) 1) 0))
def qfl (n:Int) (s:qU) (r:qR) (r2:qR) (s2:qU) (r3:qR) (r4:qR):List (List PV):=(gRow (gAt (gObj (qbK n s r r2 s2 r3 r4) 1) 1))
def qeV (n:Int) (s:qU) (r:qR) (r2:qR) (s2:qU) (r3:qR) (r4:qR):List (List PV):=(gRow (gAt (gObj (qbK n s r r2 s2 r3 r4) 1) 2))
def qfS (n:Int) (s:qU) (r:qR) (r2:qR) (s2:qU) (r3:qR) (r4:qR):Bool:=isW (qbK n s r r2 s2 r3 r4) ((.exit 2),[],⟨[[.str (qfQ n s r r2 s2 r3 r4),.sl (qgS n s r r2 s2 r3 r4) .non,.sl (qfh n s r r2 s2 r3 r4) .non],[.str (qfa n s r r2 s2 r3 r4),.sl (qfl n s r r2 s2 r3 r4) .non,.sl (qeV n s r r2 s2 r3 r4) .non]],[],[55,55]⟩)
def qeM:List PV→Store→Tr (PExit×List PV×Store)|[.ptr 0 0,.ptr 1 0,.int .i64 n],⟨[[.str s,.sl r .non,.sl r2 .non],[.str s2,.sl r3 .non,.sl r4 .non]],[],[55,55]⟩=>.ite (qgY n s r r2 s2 r3 r4) (.ret (.ret,[.bool (qd9 n s r r2 s2 r3 r4)],⟨[[.str (qgF n s r r2 s2 r3 r4),.sl (qgV n s r r2 s2 r3 r4) .non,.sl (qeK n s r r2 s2 r3 r4) .non],[.str (qeQ n s r r2 s2 r3 r4),.sl (qff n s r r2 s2 r3 r4) .non,.sl (qe1 n s r r2 s2 r3 r4) .non]],[],[55,55]⟩)) (.ite (qfS n s r r2 s2 r3 r4) (.ret ((.exit 2),[],⟨[[.str (qfQ n s r r2 s2 r3 r4),.sl (qgS n s r r2 s2 r3 r4) .non,.sl (qfh n s r r2 s2 r3 r4) .non],[.str (qfa n s r r2 s2 r3 r4),.sl (qfl n s r r2 s2 r3 r4) .non,.sl (qeV n s r r2 s2 r3 r4) .non]],[],[55,55]⟩)) (.fail))|_,_=>.fail
theorem qwR:∀ vs σ r,(qeM vs σ).run=some r→qcO vs σ=some r:=by
 intro vs σ r h;unfold qeM at h
 split at h
 ·exact qah h fun h=>qah h fun h=>by cases h
 ·cases h
theorem qsx (gl:Gl):∀ fr σ e fr' σ',(orc qjX qeM fr σ).run=some (e,fr',σ')→LDoes Tryz.prog gl qka fr σ e fr' σ':=qdi qav (qld gl ) qai (L:=qlh) (qae (by kernel_rfl)) (by kernel_rfl) qwR
def qqz:LpsT:=fun r fr σ=>bif Nat.beq r 4 then orc qji qe9 fr σ else bif Nat.beq r 9 then orc qjX qeM fr σ else .fail
def qnT (v:qU) (v2:qR) (v3:qR) (v4:qU) (v5:qR) (v6:qR):Tr PV:=.ite (sNe v v4) (.ret (.bool false)) (.ite (iNe (xLen v2) (xLen v5)) (.ret (.bool false)) (.ite (iNe (xLen v3) (xLen v6)) (.ret (.bool false)) (.ite (qd4 0 v v2 v3 v4 v5 v6) (.ret (.bool (qdD 0 v v2 v3 v4 v5 v6))) (.ite (qef 0 v v2 v3 v4 v5 v6) (.ite (qgY 0 (qcD 0 v v2 v3 v4 v5 v6) (qcP 0 v v2 v3 v4 v5 v6) (qcc 0 v v2 v3 v4 v5 v6) (qcd 0 v v2 v3 v4 v5 v6) (qb9 0 v v2 v3 v4 v5 v6) (qca 0 v v2 v3 v4 v5 v6)) (.ret (.bool (qd9 0 (qcD 0 v v2 v3 v4 v5 v6) (qcP 0 v v2 v3 v4 v5 v6) (qcc 0 v v2 v3 v4 v5 v6) (qcd 0 v v2 v3 v4 v5 v6) (qb9 0 v v2 v3 v4 v5 v6) (qca 0 v v2 v3 v4 v5 v6)))) (.ite (qfS 0 (qcD 0 v v2 v3 v4 v5 v6) (qcP 0 v v2 v3 v4 v5 v6) (qcc 0 v v2 v3 v4 v5 v6) (qcd 0 v v2 v3 v4 v5 v6) (qb9 0 v v2 v3 v4 v5 v6) (qca 0 v v2 v3 v4 v5 v6)) (.ret (.bool true)) .fail)) .fail))))
theorem qBg (v:qU) (v2:qR) (v3:qR) (v4:qU) (v5:qR) (v6:qR):(tcall tbT qgR qqz Tryz.f33 [.agg [.str v,.sl v2 .non,.sl v3 .non],.agg [.str v4,.sl v5 .non,.sl v6 .non]]).flat=qnT v v2 v3 v4 v5 v6:=by kernel_rfl
def qma (v:qU) (v2:qR) (v3:qR) (v4:qU) (v5:qR) (v6:qR):Option PV:=(qnT v v2 v3 v4 v5 v6).run
def qcv (v:qU) (v2:qR) (v3:qR) (v4:qU) (v5:qR) (v6:qR):Bool:=(qbU (gVal (qma v v2 v3 v4 v5 v6)))
def qdw (v:qU) (v2:qR) (v3:qR) (v4:qU) (v5:qR) (v6:qR):Bool:=isW (qma v v2 v3 v4 v5 v6) (.bool (qcv v v2 v3 v4 v5 v6))
def qqt:List PV→Tr PV|[.agg [.str v,.sl v2 .non,.sl v3 .non],.agg [.str v4,.sl v5 .non,.sl v6 .non]]=>.ite (qdw v v2 v3 v4 v5 v6) (.ret (.bool (qcv v v2 v3 v4 v5 v6))) (.fail)|_=>.fail
theorem qwV (gl:Gl):SimP Tryz.prog gl 33 fun args=>(qqt args).run:=by
 refine SimP.of_flat (G:=qgR) (L:=qqz) qav (qld gl ) qai  Tryz.func33 rfl (by rfl) (by kernel_rfl) (qbp (L:=lps qqz) [(4,qjZ),(9,qka)] (by kernel_rfl) (List.forall_mem_cons.2 ⟨fun fr σ e fr' σ' h=>qrH gl  fr σ e fr' σ' h,(List.forall_mem_cons.2 ⟨fun fr σ e fr' σ' h=>qsx gl  fr σ e fr' σ' h,(List.forall_mem_nil _)⟩)⟩)) ?_
 intro args x h;unfold qqt at h
 split at h
 ·exact (congrArg Tr.run (qBg _ _ _ _ _ _)).trans (qah h fun h=>by cases h)
 ·cases h
end Go.Pv
set_option maxHeartbeats 4000000
set_option maxRecDepth 200000
set_option linter.unusedSimpArgs false
set_option linter.unusedVariables false
namespace Go.Pv
open Go Go.Proofs
def G_tx:GamT:=ofL []
theorem qFo (gl:Gl):qa3 Tryz.prog gl (gam G_tx):=qag
def L_tx:LpsT:=fun r fr σ=>.fail
def qEx (s:qU):Tr PV:=.ite (iLt 300 (sLen s)) (.ite (qaC true (qao 300) 0 (nNat 300) (nLen s)) (.ret (.str (sSub s 0 (nNat 300)))) .fail) (.ret (.str s))
theorem tx_T (s:qU):(tcall tbT G_tx L_tx Tryz.f11 [.str s]).flat=qEx s:=by kernel_rfl
def tx_W (s:qU):Option PV:=(qEx s).run
def tx_s (s:qU):List UInt8:=(gStr (gVal (tx_W s)))
def qjN (s:qU):Bool:=isW (tx_W s) (.str (tx_s s))
def F_tx:List PV→Tr PV|[.str s]=>.ite (qjN s) (.ret (.str (tx_s s))) (.fail)|_=>.fail
theorem qvl (gl:Gl):SimP Tryz.prog gl 11 fun args=>(F_tx args).run:=by
 refine SimP.of_flat (G:=G_tx) (L:=L_tx) qav (qFo gl ) qai  Tryz.func11 rfl (by rfl) (by kernel_rfl) (qae (by kernel_rfl)) ?_
 intro args x h;unfold F_tx at h
 split at h
 ·exact (congrArg Tr.run (tx_T _)).trans (qah h fun h=>by cases h)
 ·cases h
def qtO:GamT:=ofL [(11,.pure F_tx)]
theorem qzJ (gl:Gl):qa3 Tryz.prog gl (gam qtO):=(qad (qvl gl) qag)
def qxR:LpsT:=fun r fr σ=>.fail
def qra (t:Int) (t2:qU) (t3:Int) (t4:Int) (t5:qU):Tr PV:=.ite (qjN t2) (.ite (qjN t5) (.ret (.agg [.int .i64 t,.str (tx_s t2),.int .i64 t3,.int .i64 t4,.str (tx_s t5)])) .fail) .fail
theorem qC3 (t:Int) (t2:qU) (t3:Int) (t4:Int) (t5:qU):(tcall tbT qtO qxR Tryz.f9 [.agg [.int .i64 t,.str t2,.int .i64 t3,.int .i64 t4,.str t5]]).flat=qra t t2 t3 t4 t5:=by kernel_rfl
def qhA (t:Int) (t2:qU) (t3:Int) (t4:Int) (t5:qU):Option PV:=(qra t t2 t3 t4 t5).run
def qc1 (t:Int) (t2:qU) (t3:Int) (t4:Int) (t5:qU):Int:=(gInt (gAt (gCs (gVal (qhA t t2 t3 t4 t5))) 0))
def qc4 (t:Int) (t2:qU) (t3:Int) (t4:Int) (t5:qU):List UInt8:=(gStr (gAt (gCs (gVal (qhA t t2 t3 t4 t5))) 1))
def qce (t:Int) (t2:qU) (t3:Int) (t4:Int) (t5:qU):Int:=(gInt (gAt (gCs (gVal (qhA t t2 t3 t4 t5))) 2))
def qcg (t:Int) (t2:qU) (t3:Int) (t4:Int) (t5:qU):Int:=(gInt (gAt (gCs (gVal (qhA t t2 t3 t4 t5))) 3))
def qch (t:Int) (t2:qU) (t3:Int) (t4:Int) (t5:qU):List UInt8:=(gStr (gAt (gCs (gVal (qhA t t2 t3 t4 t5))) 4))
def qcH (t:Int) (t2:qU) (t3:Int) (t4:Int) (t5:qU):Bool:=isW (qhA t t2 t3 t4 t5) (.agg [.int .i64 (qc1 t t2 t3 t4 t5),.str (qc4 t t2 t3 t4 t5),.int .i64 (qce t t2 t3 t4 t5),.int .i64 (qcg t t2 t3 t4 t5),.str (qch t t2 t3 t4 t5)])
def qqi:List PV→Tr PV|[.agg [.int .i64 t,.str t2,.int .i64 t3,.int .i64 t4,.str t5]]=>.ite (qcH t t2 t3 t4 t5) (.ret (.agg [.int .i64 (qc1 t t2 t3 t4 t5),.str (qc4 t t2 t3 t4 t5),.int .i64 (qce t t2 t3 t4 t5),.int .i64 (qcg t t2 t3 t4 t5),.str (qch t t2 t3 t4 t5)])) (.fail)|_=>.fail
theorem qr7 (gl:Gl):SimP Tryz.prog gl 9 fun args=>(qqi args).run:=by
 refine SimP.of_flat (G:=qtO) (L:=qxR) qav (qzJ gl ) qai  Tryz.func9 rfl (by rfl) (by kernel_rfl) (qae (by kernel_rfl)) ?_
 intro args x h;unfold qqi at h
 split at h
 ·exact (congrArg Tr.run (qC3 _ _ _ _ _)).trans (qah h fun h=>by cases h)
 ·cases h
def qnn:GamT:=ofL [(9,.pure qqi),(11,.pure F_tx),(qhg,.hint [(8,1,5,27)])]
theorem qrK (gl:Gl):qa3 Tryz.prog gl (gam qnn):=(qad (qr7 gl) (qad (qvl gl) (qb6 (K:=.hint [(8,1,5,27)]) trivial qag)))
def ql7:Code:=qgr Tryz.f42 3
def qlO:LI:=⟨32,[1,2,3,4],fun e=>match e with|.exit 0=>[2,3]|_=>[],true⟩
def qmR:LpsT:=fun r fr σ=>.fail
def qdG (vs:List PV) (σ:Store):Option (PExit×List PV×Store):=lval (lstep tbT qnn qmR ql7 qlO) vs σ
def qhm (i:Int) (s:qU) (r:qR) (s2:qU) (r2:qR) (s3:qU) (r3:qR) (k:Nat):Tr LR:=.ite (iLt i (xLen r)) (.ite (iLt i 12) (.ite (qao i) (.ite (qbx [.int .i64 0,.str [],.int .i64 0,.int .i64 0,.str []] r (nNat i)) (.ite (qcH (xInt r (nNat i) 0) (xStr r (nNat i) 1) (xInt r (nNat i) 2) (xInt r (nNat i) 3) (xStr r (nNat i) 4)) (.ite (qbm r3 [[.int .i64 (qc1 (xInt r (nNat i) 0) (xStr r (nNat i) 1) (xInt r (nNat i) 2) (xInt r (nNat i) 3) (xStr r (nNat i) 4)),.str (qc4 (xInt r (nNat i) 0) (xStr r (nNat i) 1) (xInt r (nNat i) 2) (xInt r (nNat i) 3) (xStr r (nNat i) 4)),.int .i64 (qce (xInt r (nNat i) 0) (xStr r (nNat i) 1) (xInt r (nNat i) 2) (xInt r (nNat i) 3) (xStr r (nNat i) 4)),.int .i64 (qcg (xInt r (nNat i) 0) (xStr r (nNat i) 1) (xInt r (nNat i) 2) (xInt r (nNat i) 3) (xStr r (nNat i) 4)),.str (qch (xInt r (nNat i) 0) (xStr r (nNat i) 1) (xInt r (nNat i) 2) (xInt r (nNat i) 3) (xStr r (nNat i) 4))]] 56) (.ite (qbf [[.int .i64 (qc1 (xInt r (nNat i) 0) (xStr r (nNat i) 1) (xInt r (nNat i) 2) (xInt r (nNat i) 3) (xStr r (nNat i) 4)),.str (qc4 (xInt r (nNat i) 0) (xStr r (nNat i) 1) (xInt r (nNat i) 2) (xInt r (nNat i) 3) (xStr r (nNat i) 4)),.int .i64 (qce (xInt r (nNat i) 0) (xStr r (nNat i) 1) (xInt r (nNat i) 2) (xInt r (nNat i) 3) (xStr r (nNat i) 4)),.int .i64 (qcg (xInt r (nNat i) 0) (xStr r (nNat i) 1) (xInt r (nNat i) 2) (xInt r (nNat i) 3) (xStr r (nNat i) 4)),.str (qch (xInt r (nNat i) 0) (xStr r (nNat i) 1) (xInt r (nNat i) 2) (xInt r (nNat i) 3) (xStr r (nNat i) 4))]] 5) (.ite (qaD r3 5) (.ite (nEq k (nXs r3)) (.ret (.next [.ptr 0 0,.ptr 1 0,.ptr 2 0,.int .i64 (iAdd .i64 i 1)] (Store.mk [[.str s,.sl r .non],[.str s2,.sl r2 .full],[.str s3,.sl (xApp r3 [[.int .i64 (qc1 (xInt r (nNat i) 0) (xStr r (nNat i) 1) (xInt r (nNat i) 2) (xInt r (nNat i) 3) (xStr r (nNat i) 4)),
 .str (qc4 (xInt r (nNat i) 0) (xStr r (nNat i) 1) (xInt r (nNat i) 2) (xInt r (nNat i) 3) (xStr r (nNat i) 4)),.int .i64 (qce (xInt r (nNat i) 0) (xStr r (nNat i) 1) (xInt r (nNat i) 2) (xInt r (nNat i) 3) (xStr r (nNat i) 4)),.int .i64 (qcg (xInt r (nNat i) 0) (xStr r (nNat i) 1) (xInt r (nNat i) 2) (xInt r (nNat i) 3) (xStr r (nNat i) 4)),.str (qch (xInt r (nNat i) 0) (xStr r (nNat i) 1) (xInt r (nNat i) 2) (xInt r (nNat i) 3) (xStr r (nNat i) 4))]]) (.tok 0)]] [(nXs (xApp r3 [[.int .i64 (qc1 (xInt r (nNat i) 0) (xStr r (nNat i) 1) (xInt r (nNat i) 2) (xInt r (nNat i) 3) (xStr r (nNat i) 4)),.str (qc4 (xInt r (nNat i) 0) (xStr r (nNat i) 1) (xInt r (nNat i) 2) (xInt r (nNat i) 3) (xStr r (nNat i) 4)),.int .i64 (qce (xInt r (nNat i) 0) (xStr r (nNat i) 1) (xInt r (nNat i) 2) (xInt r (nNat i) 3) (xStr r (nNat i) 4)),.int .i64 (qcg (xInt r (nNat i) 0) (xStr r (nNat i) 1) (xInt r (nNat i) 2) (xInt r (nNat i) 3) (xStr r (nNat i) 4)),.str (qch (xInt r (nNat i) 0) (xStr r (nNat i) 1) (xInt r (nNat i) 2) (xInt r (nNat i) 3) (xStr r (nNat i) 4))]]),5,27)] [31,31,31]))) .fail) .fail) .fail) .fail) .fail) .fail) .fail) (.ret (.out (.exit 0) [.ptr 1 0,.ptr 2 0] (Store.mk [[.str s,.sl r .non],[.str s2,.sl r2 .full],[.str s3,.sl r3 (.tok 0)]] [(k,5,27)] [31,31,31])))) (.ret (.out (.exit 0) [.ptr 1 0,.ptr 2 0] (Store.mk [[.str s,.sl r .non],[.str s2,.sl r2 .full],[.str s3,.sl r3 (.tok 0)]] [(k,5,27)] [31,31,31])))
theorem qBz (i:Int) (s:qU) (r:qR) (s2:qU) (r2:qR) (s3:qU) (r3:qR) (k:Nat):lstep tbT qnn qmR ql7 qlO [.ptr 0 0,.ptr 1 0,.ptr 2 0,.int .i64 i] ⟨[[.str s,.sl r .non],[.str s2,.sl r2 .full],[.str s3,.sl r3 (.tok 0)]],[(k,5,27)],[31,31,31]⟩=qhm i s r s2 r2 s3 r3 k:=by kernel_rfl
theorem qvs (i:Int) (s:qU) (r:qR) (s2:qU) (r2:qR) (s3:qU) (r3:qR) (k:Nat):qdG [.ptr 0 0,.ptr 1 0,.ptr 2 0,.int .i64 i] ⟨[[.str s,.sl r .non],[.str s2,.sl r2 .full],[.str s3,.sl r3 (.tok 0)]],[(k,5,27)],[31,31,31]⟩=lnext qdG (qhm i s r s2 r2 s3 r3 k).run:=by unfold qdG;rw [qb0,qBz]
def qd1 (i:Int) (s:qU) (r:qR) (s2:qU) (r2:qR) (s3:qU) (r3:qR) (k:Nat):Option (PExit×List PV×Store):=qdG [.ptr 0 0,.ptr 1 0,.ptr 2 0,.int .i64 i] ⟨[[.str s,.sl r .non],[.str s2,.sl r2 .full],[.str s3,.sl r3 (.tok 0)]],[(k,5,27)],[31,31,31]⟩
def qpA (i:Int) (s:qU) (r:qR) (s2:qU) (r2:qR) (s3:qU) (r3:qR) (k:Nat):List UInt8:=(gStr (gAt (gObj (qd1 i s r s2 r2 s3 r3 k) 0) 0))
def qqR (i:Int) (s:qU) (r:qR) (s2:qU) (r2:qR) (s3:qU) (r3:qR) (k:Nat):List (List PV):=(gRow (gAt (gObj (qd1 i s r s2 r2 s3 r3 k) 0) 1))
def qop (i:Int) (s:qU) (r:qR) (s2:qU) (r2:qR) (s3:qU) (r3:qR) (k:Nat):List UInt8:=(gStr (gAt (gObj (qd1 i s r s2 r2 s3 r3 k) 1) 0))
def qmB (i:Int) (s:qU) (r:qR) (s2:qU) (r2:qR) (s3:qU) (r3:qR) (k:Nat):List (List PV):=(gRow (gAt (gObj (qd1 i s r s2 r2 s3 r3 k) 1) 1))
def qjc (i:Int) (s:qU) (r:qR) (s2:qU) (r2:qR) (s3:qU) (r3:qR) (k:Nat):List UInt8:=(gStr (gAt (gObj (qd1 i s r s2 r2 s3 r3 k) 2) 0))
def qkc (i:Int) (s:qU) (r:qR) (s2:qU) (r2:qR) (s3:qU) (r3:qR) (k:Nat):List (List PV):=(gRow (gAt (gObj (qd1 i s r s2 r2 s3 r3 k) 2) 1))
def qrm (i:Int) (s:qU) (r:qR) (s2:qU) (r2:qR) (s3:qU) (r3:qR) (k:Nat):Nat:=(gTok (qd1 i s r s2 r2 s3 r3 k) 0)
def qkM (i:Int) (s:qU) (r:qR) (s2:qU) (r2:qR) (s3:qU) (r3:qR) (k:Nat):Bool:=isW (qd1 i s r s2 r2 s3 r3 k) ((.exit 0),[.ptr 1 0,.ptr 2 0],⟨[[.str (qpA i s r s2 r2 s3 r3 k),.sl (qqR i s r s2 r2 s3 r3 k) .non],[.str (qop i s r s2 r2 s3 r3 k),.sl (qmB i s r s2 r2 s3 r3 k) .full],[.str (qjc i s r s2 r2 s3 r3 k),.sl (qkc i s r s2 r2 s3 r3 k) (.tok 0)]],[((qrm i s r s2 r2 s3 r3 k),5,27)],[31,31,31]⟩)
def qf6:List PV→Store→Tr (PExit×List PV×Store)|[.ptr 0 0,.ptr 1 0,.ptr 2 0,.int .i64 i],⟨[[.str s,.sl r .non],[.str s2,.sl r2 .full],[.str s3,.sl r3 (.tok 0)]],[(k,5,27)],[31,31,31]⟩=>.ite (qkM i s r s2 r2 s3 r3 k) (.ret ((.exit 0),[.ptr 1 0,.ptr 2 0],⟨[[.str (qpA i s r s2 r2 s3 r3 k),.sl (qqR i s r s2 r2 s3 r3 k) .non],[.str (qop i s r s2 r2 s3 r3 k),.sl (qmB i s r s2 r2 s3 r3 k) .full],[.str (qjc i s r s2 r2 s3 r3 k),.sl (qkc i s r s2 r2 s3 r3 k) (.tok 0)]],[((qrm i s r s2 r2 s3 r3 k),5,27)],[31,31,31]⟩)) (.fail)|_,_=>.fail
theorem qy1:∀ vs σ r,(qf6 vs σ).run=some r→qdG vs σ=some r:=by
 intro vs σ r h;unfold qf6 at h
 split at h
 ·exact qah h fun h=>by cases h
 ·cases h
theorem qsS (gl:Gl):∀ fr σ e fr' σ',(orc qlO qf6 fr σ).run=some (e,fr',σ')→LDoes Tryz.prog gl ql7 fr σ e fr' σ':=qdi qav (qrK gl ) qai (L:=qmR) (qae (by kernel_rfl)) (by kernel_rfl) qy1
def qs9:LpsT:=fun r fr σ=>bif Nat.beq r 3 then orc qlO qf6 fr σ else .fail
def qq1 (a:qU) (a2:qR):Tr PV:=.ite (qjN a) (.ite (qkM 0 a a2 [] [] (tx_s a) [] 0) (.ret (.agg [.str (qjc 0 a a2 [] [] (tx_s a) [] 0),.sl (qcj (qkc 0 a a2 [] [] (tx_s a) [] 0)) .non])) .fail) .fail
theorem qC7 (a:qU) (a2:qR):(tcall tbT qnn qs9 Tryz.f42 [.agg [.str a,.sl a2 .non]]).flat=qq1 a a2:=by kernel_rfl
def qno (a:qU) (a2:qR):Option PV:=(qq1 a a2).run
def qc0 (a:qU) (a2:qR):List UInt8:=(gStr (gAt (gCs (gVal (qno a a2))) 0))
def qc3 (a:qU) (a2:qR):List (List PV):=(gRow (gAt (gCs (gVal (qno a a2))) 1))
def qdI (a:qU) (a2:qR):Bool:=isW (qno a a2) (.agg [.str (qc0 a a2),.sl (qc3 a a2) .non])
def qol:List PV→Tr PV|[.agg [.str a,.sl a2 .non]]=>.ite (qdI a a2) (.ret (.agg [.str (qc0 a a2),.sl (qc3 a a2) .non])) (.fail)|_=>.fail
theorem qnC (gl:Gl):SimP Tryz.prog gl 42 fun args=>(qol args).run:=by
 refine SimP.of_flat (G:=qnn) (L:=qs9) qav (qrK gl ) qai  Tryz.func42 rfl (by rfl) (by kernel_rfl) (qbp (L:=lps qs9) [(3,ql7)] (by kernel_rfl) (List.forall_mem_cons.2 ⟨fun fr σ e fr' σ' h=>qsS gl  fr σ e fr' σ' h,(List.forall_mem_nil _)⟩)) ?_
 intro args x h;unfold qol at h
 split at h
 ·exact (congrArg Tr.run (qC7 _ _)).trans (qah h fun h=>by cases h)
 ·cases h
def qkZ:GamT:=ofL [(9,.pure qqi),(42,.pure qol)]
theorem qrT (gl:Gl):qa3 Tryz.prog gl (gam qkZ):=(qad (qr7 gl) (qad (qnC gl) qag))
def qo2:LpsT:=fun r fr σ=>.fail
def qi4 (l:Int) (l2:qU) (l3:qR) (l4:Int) (l5:Int) (l6:qU) (l7:Int) (l8:Int) (l9:qU) (l10:Int) (l11:qU) (l12:Int) (l13:Int) (l14:qU):Tr PV:=.ite (qdI l2 (qaa l3)) (.ite (qcH l5 l6 l7 l8 l9) (.ite (qcH l10 l11 l12 l13 l14) (.ret (.agg [.int .i64 l,.str (qc0 l2 (qaa l3)),.sl (qcj (qc3 l2 (qaa l3))) .non,.int .i64 l4,.int .i64 (qc1 l5 l6 l7 l8 l9),.str (qc4 l5 l6 l7 l8 l9),.int .i64 (qce l5 l6 l7 l8 l9),.int .i64 (qcg l5 l6 l7 l8 l9),.str (qch l5 l6 l7 l8 l9),.int .i64 (qc1 l10 l11 l12 l13 l14),.str (qc4 l10 l11 l12 l13 l14),.int .i64 (qce l10 l11 l12 l13 l14),.int .i64 (qcg l10 l11 l12 l13 l14),.str (qch l10 l11 l12 l13 l14)])) .fail) .fail) .fail
theorem qv4 (l:Int) (l2:qU) (l3:qR) (l4:Int) (l5:Int) (l6:qU) (l7:Int) (l8:Int) (l9:qU) (l10:Int) (l11:qU) (l12:Int) (l13:Int) (l14:qU):(tcall tbT qkZ qo2 Tryz.f10 [.agg [.int .i64 l,.str l2,.sl l3 .non,.int .i64 l4,.int .i64 l5,.str l6,.int .i64 l7,.int .i64 l8,.str l9,.int .i64 l10,.str l11,.int .i64 l12,.int .i64 l13,.str l14]]).flat=qi4 l l2 l3 l4 l5 l6 l7 l8 l9 l10 l11 l12 l13 l14:=by kernel_rfl
def qbq (l:Int) (l2:qU) (l3:qR) (l4:Int) (l5:Int) (l6:qU) (l7:Int) (l8:Int) (l9:qU) (l10:Int) (l11:qU) (l12:Int) (l13:Int) (l14:qU):Option PV:=(qi4 l l2 l3 l4 l5 l6 l7 l8 l9 l10 l11 l12 l13 l14).run
def qa6 (l:Int) (l2:qU) (l3:qR) (l4:Int) (l5:Int) (l6:qU) (l7:Int) (l8:Int) (l9:qU) (l10:Int) (l11:qU) (l12:Int) (l13:Int) (l14:qU):Int:=(gInt (gAt (gCs (gVal (qbq l l2 l3 l4 l5 l6 l7 l8 l9 l10 l11 l12 l13 l14))) 0))
def qa8 (l:Int) (l2:qU) (l3:qR) (l4:Int) (l5:Int) (l6:qU) (l7:Int) (l8:Int) (l9:qU) (l10:Int) (l11:qU) (l12:Int) (l13:Int) (l14:qU):List UInt8:=(gStr (gAt (gCs (gVal (qbq l l2 l3 l4 l5 l6 l7 l8 l9 l10 l11 l12 l13 l14))) 1))
def qa5 (l:Int) (l2:qU) (l3:qR) (l4:Int) (l5:Int) (l6:qU) (l7:Int) (l8:Int) (l9:qU) (l10:Int) (l11:qU) (l12:Int) (l13:Int) (l14:qU):List (List PV):=(gRow (gAt (gCs (gVal (qbq l l2 l3 l4 l5 l6 l7 l8 l9 l10 l11 l12 l13 l14))) 2))
def qaN (l:Int) (l2:qU) (l3:qR) (l4:Int) (l5:Int) (l6:qU) (l7:Int) (l8:Int) (l9:qU) (l10:Int) (l11:qU) (l12:Int) (l13:Int) (l14:qU):Int:=(gInt (gAt (gCs (gVal (qbq l l2 l3 l4 l5 l6 l7 l8 l9 l10 l11 l12 l13 l14))) 3))
def qaQ (l:Int) (l2:qU) (l3:qR) (l4:Int) (l5:Int) (l6:qU) (l7:Int) (l8:Int) (l9:qU) (l10:Int) (l11:qU) (l12:Int) (l13:Int) (l14:qU):Int:=(gInt (gAt (gCs (gVal (qbq l l2 l3 l4 l5 l6 l7 l8 l9 l10 l11 l12 l13 l14))) 4))
def qaK (l:Int) (l2:qU) (l3:qR) (l4:Int) (l5:Int) (l6:qU) (l7:Int) (l8:Int) (l9:qU) (l10:Int) (l11:qU) (l12:Int) (l13:Int) (l14:qU):List UInt8:=(gStr (gAt (gCs (gVal (qbq l l2 l3 l4 l5 l6 l7 l8 l9 l10 l11 l12 l13 l14))) 5))
def qaJ (l:Int) (l2:qU) (l3:qR) (l4:Int) (l5:Int) (l6:qU) (l7:Int) (l8:Int) (l9:qU) (l10:Int) (l11:qU) (l12:Int) (l13:Int) (l14:qU):Int:=(gInt (gAt (gCs (gVal (qbq l l2 l3 l4 l5 l6 l7 l8 l9 l10 l11 l12 l13 l14))) 6))
def qaP (l:Int) (l2:qU) (l3:qR) (l4:Int) (l5:Int) (l6:qU) (l7:Int) (l8:Int) (l9:qU) (l10:Int) (l11:qU) (l12:Int) (l13:Int) (l14:qU):Int:=(gInt (gAt (gCs (gVal (qbq l l2 l3 l4 l5 l6 l7 l8 l9 l10 l11 l12 l13 l14))) 7))
def qaI (l:Int) (l2:qU) (l3:qR) (l4:Int) (l5:Int) (l6:qU) (l7:Int) (l8:Int) (l9:qU) (l10:Int) (l11:qU) (l12:Int) (l13:Int) (l14:qU):List UInt8:=(gStr (gAt (gCs (gVal (qbq l l2 l3 l4 l5 l6 l7 l8 l9 l10 l11 l12 l13 l14))) 8))
def qaO (l:Int) (l2:qU) (l3:qR) (l4:Int) (l5:Int) (l6:qU) (l7:Int) (l8:Int) (l9:qU) (l10:Int) (l11:qU) (l12:Int) (l13:Int) (l14:qU):Int:=(gInt (gAt (gCs (gVal (qbq l l2 l3 l4 l5 l6 l7 l8 l9 l10 l11 l12 l13 l14))) 9))
def qaS (l:Int) (l2:qU) (l3:qR) (l4:Int) (l5:Int) (l6:qU) (l7:Int) (l8:Int) (l9:qU) (l10:Int) (l11:qU) (l12:Int) (l13:Int) (l14:qU):List UInt8:=(gStr (gAt (gCs (gVal (qbq l l2 l3 l4 l5 l6 l7 l8 l9 l10 l11 l12 l13 l14))) 10))
def qaL (l:Int) (l2:qU) (l3:qR) (l4:Int) (l5:Int) (l6:qU) (l7:Int) (l8:Int) (l9:qU) (l10:Int) (l11:qU) (l12:Int) (l13:Int) (l14:qU):Int:=(gInt (gAt (gCs (gVal (qbq l l2 l3 l4 l5 l6 l7 l8 l9 l10 l11 l12 l13 l14))) 11))
def qaM (l:Int) (l2:qU) (l3:qR) (l4:Int) (l5:Int) (l6:qU) (l7:Int) (l8:Int) (l9:qU) (l10:Int) (l11:qU) (l12:Int) (l13:Int) (l14:qU):Int:=(gInt (gAt (gCs (gVal (qbq l l2 l3 l4 l5 l6 l7 l8 l9 l10 l11 l12 l13 l14))) 12))
def qaR (l:Int) (l2:qU) (l3:qR) (l4:Int) (l5:Int) (l6:qU) (l7:Int) (l8:Int) (l9:qU) (l10:Int) (l11:qU) (l12:Int) (l13:Int) (l14:qU):List UInt8:=(gStr (gAt (gCs (gVal (qbq l l2 l3 l4 l5 l6 l7 l8 l9 l10 l11 l12 l13 l14))) 13))
def qaZ (l:Int) (l2:qU) (l3:qR) (l4:Int) (l5:Int) (l6:qU) (l7:Int) (l8:Int) (l9:qU) (l10:Int) (l11:qU) (l12:Int) (l13:Int) (l14:qU):Bool:=isW (qbq l l2 l3 l4 l5 l6 l7 l8 l9 l10 l11 l12 l13 l14) (.agg [.int .i64 (qa6 l l2 l3 l4 l5 l6 l7 l8 l9 l10 l11 l12 l13 l14),.str (qa8 l l2 l3 l4 l5 l6 l7 l8 l9 l10 l11 l12 l13 l14),.sl (qa5 l l2 l3 l4 l5 l6 l7 l8 l9 l10 l11 l12 l13 l14) .non,.int .i64 (qaN l l2 l3 l4 l5 l6 l7 l8 l9 l10 l11 l12 l13 l14),.int .i64 (qaQ l l2 l3 l4 l5 l6 l7 l8 l9 l10 l11 l12 l13 l14),.str (qaK l l2 l3 l4 l5 l6 l7 l8 l9 l10 l11 l12 l13 l14),.int .i64 (qaJ l l2 l3 l4 l5 l6 l7 l8 l9 l10 l11 l12 l13 l14),.int .i64 (qaP l l2 l3 l4 l5 l6 l7 l8 l9 l10 l11 l12 l13 l14),.str (qaI l l2 l3 l4 l5 l6 l7 l8 l9 l10 l11 l12 l13 l14),.int .i64 (qaO l l2 l3 l4 l5 l6 l7 l8 l9 l10 l11 l12 l13 l14),.str (qaS l l2 l3 l4 l5 l6 l7 l8 l9 l10 l11 l12 l13 l14),.int .i64 (qaL l l2 l3 l4 l5 l6 l7 l8 l9 l10 l11 l12 l13 l14),.int .i64 (qaM l l2 l3 l4 l5 l6 l7 l8 l9 l10 l11 l12 l13 l14),.str (qaR l l2 l3 l4 l5 l6 l7 l8 l9 l10 l11 l12 l13 l14)])
def qkw:List PV→Tr PV|[.agg [.int .i64 l,.str l2,.sl l3 .non,.int .i64 l4,.int .i64 l5,.str l6,.int .i64 l7,.int .i64 l8,.str l9,.int .i64 l10,.str l11,.int .i64 l12,.int .i64 l13,.str l14]]=>.ite (qaZ l l2 l3 l4 l5 l6 l7 l8 l9 l10 l11 l12 l13 l14) (.ret (.agg [.int .i64 (qa6 l l2 l3 l4 l5 l6 l7 l8 l9 l10 l11 l12 l13 l14),.str (qa8 l l2 l3 l4 l5 l6 l7 l8 l9 l10 l11 l12 l13 l14),.sl (qa5 l l2 l3 l4 l5 l6 l7 l8 l9 l10 l11 l12 l13 l14) .non,.int .i64 (qaN l l2 l3 l4 l5 l6 l7 l8 l9 l10 l11 l12 l13 l14),.int .i64 (qaQ l l2 l3 l4 l5 l6 l7 l8 l9 l10 l11 l12 l13 l14),.str (qaK l l2 l3 l4 l5 l6 l7 l8 l9 l10 l11 l12 l13 l14),.int .i64 (qaJ l l2 l3 l4 l5 l6 l7 l8 l9 l10 l11 l12 l13 l14),.int .i64 (qaP l l2 l3 l4 l5 l6 l7 l8 l9 l10 l11 l12 l13 l14),.str (qaI l l2 l3 l4 l5 l6 l7 l8 l9 l10 l11 l12 l13 l14),.int .i64 (qaO l l2 l3 l4 l5 l6 l7 l8 l9 l10 l11 l12 l13 l14),.str (qaS l l2 l3 l4 l5 l6 l7 l8 l9 l10 l11 l12 l13 l14),.int .i64 (qaL l l2 l3 l4 l5 l6 l7 l8 l9 l10 l11 l12 l13 l14),.int .i64 (qaM l l2 l3 l4 l5 l6 l7 l8 l9 l10 l11 l12 l13 l14),.str (qaR l l2 l3 l4 l5 l6 l7 l8 l9 l10 l11 l12 l13 l14)])) (.fail)|_=>.fail
theorem qsC (gl:Gl):SimP Tryz.prog gl 10 fun args=>(qkw args).run:=by
 refine SimP.of_flat (G:=qkZ) (L:=qo2) qav (qrT gl ) qai  Tryz.func10 rfl (by rfl) (by kernel_rfl) (qae (by kernel_rfl)) ?_
 intro args x h;unfold qkw at h
 split at h
 ·exact (congrArg Tr.run (qv4 _ _ _ _ _ _ _ _ _ _ _ _ _ _)).trans (qah h fun h=>by cases h)
 ·cases h
def qmD:GamT:=ofL [(10,.pure qkw),(42,.pure qol),(qhg,.hint [(8,2,14,34)])]
theorem qrY (gl:Gl):qa3 Tryz.prog gl (gam qmD):=(qad (qsC gl) (qad (qnC gl) (qb6 (K:=.hint [(8,2,14,34)]) trivial qag)))
def qlQ:Code:=qgr Tryz.f23 3
def ql4:LI:=⟨32,[1,2,3,4],fun e=>match e with|.exit 0=>[2,3]|_=>[],true⟩
def qmK:LpsT:=fun r fr σ=>.fail
def qdE (vs:List PV) (σ:Store):Option (PExit×List PV×Store):=lval (lstep tbT qmD qmK qlQ ql4) vs σ
def qhc (i:Int) (s:qU) (r:qR) (r2:qR) (s2:qU) (r3:qR) (r4:qR) (s3:qU) (r5:qR) (r6:qR) (k:Nat):Tr LR:=.ite (iLt i (xLen r2)) (.ite (iLt i 8) (.ite (qao i) (.ite (qbx [.int .i64 0,.str [],.sl [] .full,.int .i64 0,.int .i64 0,.str [],.int .i64 0,.int .i64 0,.str [],.int .i64 0,.str [],.int .i64 0,.int .i64 0,.str []] r2 (nNat i)) (.ite (qaZ (xInt r2 (nNat i) 0) (xStr r2 (nNat i) 1) (qaa (xRow r2 (nNat i) 2)) (xInt r2 (nNat i) 3) (xInt r2 (nNat i) 4) (xStr r2 (nNat i) 5) (xInt r2 (nNat i) 6) (xInt r2 (nNat i) 7) (xStr r2 (nNat i) 8) (xInt r2 (nNat i) 9) (xStr r2 (nNat i) 10) (xInt r2 (nNat i) 11) (xInt r2 (nNat i) 12) (xStr r2 (nNat i) 13)) (.ite (qbm r6 [[.int .i64 (qa6 (xInt r2 (nNat i) 0) (xStr r2 (nNat i) 1) (qaa (xRow r2 (nNat i) 2)) (xInt r2 (nNat i) 3) (xInt r2 (nNat i) 4) (xStr r2 (nNat i) 5) (xInt r2 (nNat i) 6) (xInt r2 (nNat i) 7) (xStr r2 (nNat i) 8) (xInt r2 (nNat i) 9) (xStr r2 (nNat i) 10) (xInt r2 (nNat i) 11) (xInt r2 (nNat i) 12) (xStr r2 (nNat i) 13)),.str (qa8 (xInt r2 (nNat i) 0) (xStr r2 (nNat i) 1) (qaa (xRow r2 (nNat i) 2)) (xInt r2 (nNat i) 3) (xInt r2 (nNat i) 4) (xStr r2 (nNat i) 5) (xInt r2 (nNat i) 6) (xInt r2 (nNat i) 7) (xStr r2 (nNat i) 8) (xInt r2 (nNat i) 9) (xStr r2 (nNat i) 10) (xInt r2 (nNat i) 11) (xInt r2 (nNat i) 12) (xStr r2 (nNat i) 13)),.sl (qa5 (xInt r2 (nNat i) 0) (xStr r2 (nNat i) 1) (qaa (xRow r2 (nNat i) 2)) (xInt r2 (nNat i) 3) (xInt r2 (nNat i) 4) (xStr r2 (nNat i) 5) (xInt r2 (nNat i) 6) (xInt r2 (nNat i) 7) (xStr r2 (nNat i) 8) (xInt r2 (nNat i) 9) (xStr r2 (nNat i) 10) (xInt r2 (nNat i) 11) (xInt r2 (nNat i) 12) (xStr r2 (nNat i) 13)) .non,.int .i64 (qaN (xInt r2 (nNat i) 0) (xStr r2 (nNat i) 1) (qaa (xRow r2 (nNat i) 2)) (xInt r2 (nNat i) 3) (xInt r2 (nNat i) 4) (xStr r2 (nNat i) 5)
 (xInt r2 (nNat i) 6) (xInt r2 (nNat i) 7) (xStr r2 (nNat i) 8) (xInt r2 (nNat i) 9) (xStr r2 (nNat i) 10) (xInt r2 (nNat i) 11) (xInt r2 (nNat i) 12) (xStr r2 (nNat i) 13)),.int .i64 (qaQ (xInt r2 (nNat i) 0) (xStr r2 (nNat i) 1) (qaa (xRow r2 (nNat i) 2)) (xInt r2 (nNat i) 3) (xInt r2 (nNat i) 4) (xStr r2 (nNat i) 5) (xInt r2 (nNat i) 6) (xInt r2 (nNat i) 7) (xStr r2 (nNat i) 8) (xInt r2 (nNat i) 9) (xStr r2 (nNat i) 10) (xInt r2 (nNat i) 11) (xInt r2 (nNat i) 12) (xStr r2 (nNat i) 13)),.str (qaK (xInt r2 (nNat i) 0) (xStr r2 (nNat i) 1) (qaa (xRow r2 (nNat i) 2)) (xInt r2 (nNat i) 3) (xInt r2 (nNat i) 4) (xStr r2 (nNat i) 5) (xInt r2 (nNat i) 6) (xInt r2 (nNat i) 7) (xStr r2 (nNat i) 8) (xInt r2 (nNat i) 9) (xStr r2 (nNat i) 10) (xInt r2 (nNat i) 11) (xInt r2 (nNat i) 12) (xStr r2 (nNat i) 13)),.int .i64 (qaJ (xInt r2 (nNat i) 0) (xStr r2 (nNat i) 1) (qaa (xRow r2 (nNat i) 2)) (xInt r2 (nNat i) 3) (xInt r2 (nNat i) 4) (xStr r2 (nNat i) 5) (xInt r2 (nNat i) 6) (xInt r2 (nNat i) 7) (xStr r2 (nNat i) 8) (xInt r2 (nNat i) 9) (xStr r2 (nNat i) 10) (xInt r2 (nNat i) 11) (xInt r2 (nNat i) 12) (xStr r2 (nNat i) 13)),.int .i64 (qaP (xInt r2 (nNat i) 0) (xStr r2 (nNat i) 1) (qaa (xRow r2 (nNat i) 2)) (xInt r2 (nNat i) 3) (xInt r2 (nNat i) 4) (xStr r2 (nNat i) 5) (xInt r2 (nNat i) 6) (xInt r2 (nNat i) 7) (xStr r2 (nNat i) 8) (xInt r2 (nNat i) 9) (xStr r2 (nNat i) 10) (xInt r2 (nNat i) 11) (xInt r2 (nNat i) 12) (xStr r2 (nNat i) 13)),.str (qaI (xInt r2 (nNat i) 0) (xStr r2 (nNat i) 1) (qaa (xRow r2 (nNat i) 2)) (xInt r2 (nNat i) 3) (xInt r2 (nNat i) 4) (xStr r2 (nNat i) 5) (xInt r2 (nNat i) 6) (xInt r2 (nNat i) 7) (xStr r2 (nNat i) 8) (xInt r2 (nNat i) 9) (xStr r2 (nNat i) 10) (xInt r2 (nNat i) 11) (xInt r2 (nNat i) 12) (xStr r2 (nNat i) 13)),.int .i64 (qaO (xInt r2 (nNat i) 0) (xStr r2 (nNat i) 1) (qaa (xRow r2 (nNat i) 2)) (xInt r2 (nNat i) 3) (xInt r2 (nNat i) 4) (xStr r2 (nNat i) 5)
 (xInt r2 (nNat i) 6) (xInt r2 (nNat i) 7) (xStr r2 (nNat i) 8) (xInt r2 (nNat i) 9) (xStr r2 (nNat i) 10) (xInt r2 (nNat i) 11) (xInt r2 (nNat i) 12) (xStr r2 (nNat i) 13)),.str (qaS (xInt r2 (nNat i) 0) (xStr r2 (nNat i) 1) (qaa (xRow r2 (nNat i) 2)) (xInt r2 (nNat i) 3) (xInt r2 (nNat i) 4) (xStr r2 (nNat i) 5) (xInt r2 (nNat i) 6) (xInt r2 (nNat i) 7) (xStr r2 (nNat i) 8) (xInt r2 (nNat i) 9) (xStr r2 (nNat i) 10) (xInt r2 (nNat i) 11) (xInt r2 (nNat i) 12) (xStr r2 (nNat i) 13)),.int .i64 (qaL (xInt r2 (nNat i) 0) (xStr r2 (nNat i) 1) (qaa (xRow r2 (nNat i) 2)) (xInt r2 (nNat i) 3) (xInt r2 (nNat i) 4) (xStr r2 (nNat i) 5) (xInt r2 (nNat i) 6) (xInt r2 (nNat i) 7) (xStr r2 (nNat i) 8) (xInt r2 (nNat i) 9) (xStr r2 (nNat i) 10) (xInt r2 (nNat i) 11) (xInt r2 (nNat i) 12) (xStr r2 (nNat i) 13)),.int .i64 (qaM (xInt r2 (nNat i) 0) (xStr r2 (nNat i) 1) (qaa (xRow r2 (nNat i) 2)) (xInt r2 (nNat i) 3) (xInt r2 (nNat i) 4) (xStr r2 (nNat i) 5) (xInt r2 (nNat i) 6) (xInt r2 (nNat i) 7) (xStr r2 (nNat i) 8) (xInt r2 (nNat i) 9) (xStr r2 (nNat i) 10) (xInt r2 (nNat i) 11) (xInt r2 (nNat i) 12) (xStr r2 (nNat i) 13)),.str (qaR (xInt r2 (nNat i) 0) (xStr r2 (nNat i) 1) (qaa (xRow r2 (nNat i) 2)) (xInt r2 (nNat i) 3) (xInt r2 (nNat i) 4) (xStr r2 (nNat i) 5) (xInt r2 (nNat i) 6) (xInt r2 (nNat i) 7) (xStr r2 (nNat i) 8) (xInt r2 (nNat i) 9) (xStr r2 (nNat i) 10) (xInt r2 (nNat i) 11) (xInt r2 (nNat i) 12) (xStr r2 (nNat i) 13))]] 168) (.ite (qbf [[.int .i64 (qa6 (xInt r2 (nNat i) 0) (xStr r2 (nNat i) 1) (qaa (xRow r2 (nNat i) 2)) (xInt r2 (nNat i) 3) (xInt r2 (nNat i) 4) (xStr r2 (nNat i) 5) (xInt r2 (nNat i) 6) (xInt r2 (nNat i) 7) (xStr r2 (nNat i) 8) (xInt r2 (nNat i) 9) (xStr r2 (nNat i) 10) (xInt r2 (nNat i) 11) (xInt r2 (nNat i) 12) (xStr r2 (nNat i) 13)),.str (qa8 (xInt r2 (nNat i) 0) (xStr r2 (nNat i) 1) (qaa (xRow r2 (nNat i) 2)) (xInt r2 (nNat i) 3) (xInt r2 (nNat i) 4) (xStr r2 (nNat i) 5)
 (xInt r2 (nNat i) 6) (xInt r2 (nNat i) 7) (xStr r2 (nNat i) 8) (xInt r2 (nNat i) 9) (xStr r2 (nNat i) 10) (xInt r2 (nNat i) 11) (xInt r2 (nNat i) 12) (xStr r2 (nNat i) 13)),.sl (qa5 (xInt r2 (nNat i) 0) (xStr r2 (nNat i) 1) (qaa (xRow r2 (nNat i) 2)) (xInt r2 (nNat i) 3) (xInt r2 (nNat i) 4) (xStr r2 (nNat i) 5) (xInt r2 (nNat i) 6) (xInt r2 (nNat i) 7) (xStr r2 (nNat i) 8) (xInt r2 (nNat i) 9) (xStr r2 (nNat i) 10) (xInt r2 (nNat i) 11) (xInt r2 (nNat i) 12) (xStr r2 (nNat i) 13)) .non,.int .i64 (qaN (xInt r2 (nNat i) 0) (xStr r2 (nNat i) 1) (qaa (xRow r2 (nNat i) 2)) (xInt r2 (nNat i) 3) (xInt r2 (nNat i) 4) (xStr r2 (nNat i) 5) (xInt r2 (nNat i) 6) (xInt r2 (nNat i) 7) (xStr r2 (nNat i) 8) (xInt r2 (nNat i) 9) (xStr r2 (nNat i) 10) (xInt r2 (nNat i) 11) (xInt r2 (nNat i) 12) (xStr r2 (nNat i) 13)),.int .i64 (qaQ (xInt r2 (nNat i) 0) (xStr r2 (nNat i) 1) (qaa (xRow r2 (nNat i) 2)) (xInt r2 (nNat i) 3) (xInt r2 (nNat i) 4) (xStr r2 (nNat i) 5) (xInt r2 (nNat i) 6) (xInt r2 (nNat i) 7) (xStr r2 (nNat i) 8) (xInt r2 (nNat i) 9) (xStr r2 (nNat i) 10) (xInt r2 (nNat i) 11) (xInt r2 (nNat i) 12) (xStr r2 (nNat i) 13)),.str (qaK (xInt r2 (nNat i) 0) (xStr r2 (nNat i) 1) (qaa (xRow r2 (nNat i) 2)) (xInt r2 (nNat i) 3) (xInt r2 (nNat i) 4) (xStr r2 (nNat i) 5) (xInt r2 (nNat i) 6) (xInt r2 (nNat i) 7) (xStr r2 (nNat i) 8) (xInt r2 (nNat i) 9) (xStr r2 (nNat i) 10) (xInt r2 (nNat i) 11) (xInt r2 (nNat i) 12) (xStr r2 (nNat i) 13)),.int .i64 (qaJ (xInt r2 (nNat i) 0) (xStr r2 (nNat i) 1) (qaa (xRow r2 (nNat i) 2)) (xInt r2 (nNat i) 3) (xInt r2 (nNat i) 4) (xStr r2 (nNat i) 5) (xInt r2 (nNat i) 6) (xInt r2 (nNat i) 7) (xStr r2 (nNat i) 8) (xInt r2 (nNat i) 9) (xStr r2 (nNat i) 10) (xInt r2 (nNat i) 11) (xInt r2 (nNat i) 12) (xStr r2 (nNat i) 13)),.int .i64 (qaP (xInt r2 (nNat i) 0) (xStr r2 (nNat i) 1) (qaa (xRow r2 (nNat i) 2)) (xInt r2 (nNat i) 3) (xInt r2 (nNat i) 4) (xStr r2 (nNat i) 5)
 (xInt r2 (nNat i) 6) (xInt r2 (nNat i) 7) (xStr r2 (nNat i) 8) (xInt r2 (nNat i) 9) (xStr r2 (nNat i) 10) (xInt r2 (nNat i) 11) (xInt r2 (nNat i) 12) (xStr r2 (nNat i) 13)),.str (qaI (xInt r2 (nNat i) 0) (xStr r2 (nNat i) 1) (qaa (xRow r2 (nNat i) 2)) (xInt r2 (nNat i) 3) (xInt r2 (nNat i) 4) (xStr r2 (nNat i) 5) (xInt r2 (nNat i) 6) (xInt r2 (nNat i) 7) (xStr r2 (nNat i) 8) (xInt r2 (nNat i) 9) (xStr r2 (nNat i) 10) (xInt r2 (nNat i) 11) (xInt r2 (nNat i) 12) (xStr r2 (nNat i) 13)),.int .i64 (qaO (xInt r2 (nNat i) 0) (xStr r2 (nNat i) 1) (qaa (xRow r2 (nNat i) 2)) (xInt r2 (nNat i) 3) (xInt r2 (nNat i) 4) (xStr r2 (nNat i) 5) (xInt r2 (nNat i) 6) (xInt r2 (nNat i) 7) (xStr r2 (nNat i) 8) (xInt r2 (nNat i) 9) (xStr r2 (nNat i) 10) (xInt r2 (nNat i) 11) (xInt r2 (nNat i) 12) (xStr r2 (nNat i) 13)),.str (qaS (xInt r2 (nNat i) 0) (xStr r2 (nNat i) 1) (qaa (xRow r2 (nNat i) 2)) (xInt r2 (nNat i) 3) (xInt r2 (nNat i) 4) (xStr r2 (nNat i) 5) (xInt r2 (nNat i) 6) (xInt r2 (nNat i) 7) (xStr r2 (nNat i) 8) (xInt r2 (nNat i) 9) (xStr r2 (nNat i) 10) (xInt r2 (nNat i) 11) (xInt r2 (nNat i) 12) (xStr r2 (nNat i) 13)),.int .i64 (qaL (xInt r2 (nNat i) 0) (xStr r2 (nNat i) 1) (qaa (xRow r2 (nNat i) 2)) (xInt r2 (nNat i) 3) (xInt r2 (nNat i) 4) (xStr r2 (nNat i) 5) (xInt r2 (nNat i) 6) (xInt r2 (nNat i) 7) (xStr r2 (nNat i) 8) (xInt r2 (nNat i) 9) (xStr r2 (nNat i) 10) (xInt r2 (nNat i) 11) (xInt r2 (nNat i) 12) (xStr r2 (nNat i) 13)),.int .i64 (qaM (xInt r2 (nNat i) 0) (xStr r2 (nNat i) 1) (qaa (xRow r2 (nNat i) 2)) (xInt r2 (nNat i) 3) (xInt r2 (nNat i) 4) (xStr r2 (nNat i) 5) (xInt r2 (nNat i) 6) (xInt r2 (nNat i) 7) (xStr r2 (nNat i) 8) (xInt r2 (nNat i) 9) (xStr r2 (nNat i) 10) (xInt r2 (nNat i) 11) (xInt r2 (nNat i) 12) (xStr r2 (nNat i) 13)),.str (qaR (xInt r2 (nNat i) 0) (xStr r2 (nNat i) 1) (qaa (xRow r2 (nNat i) 2)) (xInt r2 (nNat i) 3) (xInt r2 (nNat i) 4) (xStr r2 (nNat i) 5)
 (xInt r2 (nNat i) 6) (xInt r2 (nNat i) 7) (xStr r2 (nNat i) 8) (xInt r2 (nNat i) 9) (xStr r2 (nNat i) 10) (xInt r2 (nNat i) 11) (xInt r2 (nNat i) 12) (xStr r2 (nNat i) 13))]] 14) (.ite (qaD r6 14) (.ite (nEq k (nXs r6)) (.ret (.next [.ptr 0 0,.ptr 1 0,.ptr 2 0,.int .i64 (iAdd .i64 i 1)] (Store.mk [[.str s,.sl r .non,.sl r2 .non],[.str s2,.sl r3 .full,.sl r4 .full],[.str s3,.sl r5 .non,.sl (xApp r6 [[.int .i64 (qa6 (xInt r2 (nNat i) 0) (xStr r2 (nNat i) 1) (qaa (xRow r2 (nNat i) 2)) (xInt r2 (nNat i) 3) (xInt r2 (nNat i) 4) (xStr r2 (nNat i) 5) (xInt r2 (nNat i) 6) (xInt r2 (nNat i) 7) (xStr r2 (nNat i) 8) (xInt r2 (nNat i) 9) (xStr r2 (nNat i) 10) (xInt r2 (nNat i) 11) (xInt r2 (nNat i) 12) (xStr r2 (nNat i) 13)),.str (qa8 (xInt r2 (nNat i) 0) (xStr r2 (nNat i) 1) (qaa (xRow r2 (nNat i) 2)) (xInt r2 (nNat i) 3) (xInt r2 (nNat i) 4) (xStr r2 (nNat i) 5) (xInt r2 (nNat i) 6) (xInt r2 (nNat i) 7) (xStr r2 (nNat i) 8) (xInt r2 (nNat i) 9) (xStr r2 (nNat i) 10) (xInt r2 (nNat i) 11) (xInt r2 (nNat i) 12) (xStr r2 (nNat i) 13)),.sl (qa5 (xInt r2 (nNat i) 0) (xStr r2 (nNat i) 1) (qaa (xRow r2 (nNat i) 2)) (xInt r2 (nNat i) 3) (xInt r2 (nNat i) 4) (xStr r2 (nNat i) 5) (xInt r2 (nNat i) 6) (xInt r2 (nNat i) 7) (xStr r2 (nNat i) 8) (xInt r2 (nNat i) 9) (xStr r2 (nNat i) 10) (xInt r2 (nNat i) 11) (xInt r2 (nNat i) 12) (xStr r2 (nNat i) 13)) .non,.int .i64 (qaN (xInt r2 (nNat i) 0) (xStr r2 (nNat i) 1) (qaa (xRow r2 (nNat i) 2)) (xInt r2 (nNat i) 3) (xInt r2 (nNat i) 4) (xStr r2 (nNat i) 5) (xInt r2 (nNat i) 6) (xInt r2 (nNat i) 7) (xStr r2 (nNat i) 8) (xInt r2 (nNat i) 9) (xStr r2 (nNat i) 10) (xInt r2 (nNat i) 11) (xInt r2 (nNat i) 12) (xStr r2 (nNat i) 13)),.int .i64 (qaQ (xInt r2 (nNat i) 0) (xStr r2 (nNat i) 1) (qaa (xRow r2 (nNat i) 2)) (xInt r2 (nNat i) 3) (xInt r2 (nNat i) 4) (xStr r2 (nNat i) 5) (xInt r2 (nNat i) 6) (xInt r2 (nNat i) 7) (xStr r2 (nNat i) 8) (xInt r2 (nNat i) 9) (xStr r2 (nNat i) 10)
 (xInt r2 (nNat i) 11) (xInt r2 (nNat i) 12) (xStr r2 (nNat i) 13)),.str (qaK (xInt r2 (nNat i) 0) (xStr r2 (nNat i) 1) (qaa (xRow r2 (nNat i) 2)) (xInt r2 (nNat i) 3) (xInt r2 (nNat i) 4) (xStr r2 (nNat i) 5) (xInt r2 (nNat i) 6) (xInt r2 (nNat i) 7) (xStr r2 (nNat i) 8) (xInt r2 (nNat i) 9) (xStr r2 (nNat i) 10) (xInt r2 (nNat i) 11) (xInt r2 (nNat i) 12) (xStr r2 (nNat i) 13)),.int .i64 (qaJ (xInt r2 (nNat i) 0) (xStr r2 (nNat i) 1) (qaa (xRow r2 (nNat i) 2)) (xInt r2 (nNat i) 3) (xInt r2 (nNat i) 4) (xStr r2 (nNat i) 5) (xInt r2 (nNat i) 6) (xInt r2 (nNat i) 7) (xStr r2 (nNat i) 8) (xInt r2 (nNat i) 9) (xStr r2 (nNat i) 10) (xInt r2 (nNat i) 11) (xInt r2 (nNat i) 12) (xStr r2 (nNat i) 13)),.int .i64 (qaP (xInt r2 (nNat i) 0) (xStr r2 (nNat i) 1) (qaa (xRow r2 (nNat i) 2)) (xInt r2 (nNat i) 3) (xInt r2 (nNat i) 4) (xStr r2 (nNat i) 5) (xInt r2 (nNat i) 6) (xInt r2 (nNat i) 7) (xStr r2 (nNat i) 8) (xInt r2 (nNat i) 9) (xStr r2 (nNat i) 10) (xInt r2 (nNat i) 11) (xInt r2 (nNat i) 12) (xStr r2 (nNat i) 13)),.str (qaI (xInt r2 (nNat i) 0) (xStr r2 (nNat i) 1) (qaa (xRow r2 (nNat i) 2)) (xInt r2 (nNat i) 3) (xInt r2 (nNat i) 4) (xStr r2 (nNat i) 5) (xInt r2 (nNat i) 6) (xInt r2 (nNat i) 7) (xStr r2 (nNat i) 8) (xInt r2 (nNat i) 9) (xStr r2 (nNat i) 10) (xInt r2 (nNat i) 11) (xInt r2 (nNat i) 12) (xStr r2 (nNat i) 13)),.int .i64 (qaO (xInt r2 (nNat i) 0) (xStr r2 (nNat i) 1) (qaa (xRow r2 (nNat i) 2)) (xInt r2 (nNat i) 3) (xInt r2 (nNat i) 4) (xStr r2 (nNat i) 5) (xInt r2 (nNat i) 6) (xInt r2 (nNat i) 7) (xStr r2 (nNat i) 8) (xInt r2 (nNat i) 9) (xStr r2 (nNat i) 10) (xInt r2 (nNat i) 11) (xInt r2 (nNat i) 12) (xStr r2 (nNat i) 13)),.str (qaS (xInt r2 (nNat i) 0) (xStr r2 (nNat i) 1) (qaa (xRow r2 (nNat i) 2)) (xInt r2 (nNat i) 3) (xInt r2 (nNat i) 4) (xStr r2 (nNat i) 5) (xInt r2 (nNat i) 6) (xInt r2 (nNat i) 7) (xStr r2 (nNat i) 8) (xInt r2 (nNat i) 9) (xStr r2 (nNat i) 10)
 (xInt r2 (nNat i) 11) (xInt r2 (nNat i) 12) (xStr r2 (nNat i) 13)),.int .i64 (qaL (xInt r2 (nNat i) 0) (xStr r2 (nNat i) 1) (qaa (xRow r2 (nNat i) 2)) (xInt r2 (nNat i) 3) (xInt r2 (nNat i) 4) (xStr r2 (nNat i) 5) (xInt r2 (nNat i) 6) (xInt r2 (nNat i) 7) (xStr r2 (nNat i) 8) (xInt r2 (nNat i) 9) (xStr r2 (nNat i) 10) (xInt r2 (nNat i) 11) (xInt r2 (nNat i) 12) (xStr r2 (nNat i) 13)),.int .i64 (qaM (xInt r2 (nNat i) 0) (xStr r2 (nNat i) 1) (qaa (xRow r2 (nNat i) 2)) (xInt r2 (nNat i) 3) (xInt r2 (nNat i) 4) (xStr r2 (nNat i) 5) (xInt r2 (nNat i) 6) (xInt r2 (nNat i) 7) (xStr r2 (nNat i) 8) (xInt r2 (nNat i) 9) (xStr r2 (nNat i) 10) (xInt r2 (nNat i) 11) (xInt r2 (nNat i) 12) (xStr r2 (nNat i) 13)),.str (qaR (xInt r2 (nNat i) 0) (xStr r2 (nNat i) 1) (qaa (xRow r2 (nNat i) 2)) (xInt r2 (nNat i) 3) (xInt r2 (nNat i) 4) (xStr r2 (nNat i) 5) (xInt r2 (nNat i) 6) (xInt r2 (nNat i) 7) (xStr r2 (nNat i) 8) (xInt r2 (nNat i) 9) (xStr r2 (nNat i) 10) (xInt r2 (nNat i) 11) (xInt r2 (nNat i) 12) (xStr r2 (nNat i) 13))]]) (.tok 0)]] [(nXs (xApp r6 [[.int .i64 (qa6 (xInt r2 (nNat i) 0) (xStr r2 (nNat i) 1) (qaa (xRow r2 (nNat i) 2)) (xInt r2 (nNat i) 3) (xInt r2 (nNat i) 4) (xStr r2 (nNat i) 5) (xInt r2 (nNat i) 6) (xInt r2 (nNat i) 7) (xStr r2 (nNat i) 8) (xInt r2 (nNat i) 9) (xStr r2 (nNat i) 10) (xInt r2 (nNat i) 11) (xInt r2 (nNat i) 12) (xStr r2 (nNat i) 13)),.str (qa8 (xInt r2 (nNat i) 0) (xStr r2 (nNat i) 1) (qaa (xRow r2 (nNat i) 2)) (xInt r2 (nNat i) 3) (xInt r2 (nNat i) 4) (xStr r2 (nNat i) 5) (xInt r2 (nNat i) 6) (xInt r2 (nNat i) 7) (xStr r2 (nNat i) 8) (xInt r2 (nNat i) 9) (xStr r2 (nNat i) 10) (xInt r2 (nNat i) 11) (xInt r2 (nNat i) 12) (xStr r2 (nNat i) 13)),.sl (qa5 (xInt r2 (nNat i) 0) (xStr r2 (nNat i) 1) (qaa (xRow r2 (nNat i) 2)) (xInt r2 (nNat i) 3) (xInt r2 (nNat i) 4)
 (xStr r2 (nNat i) 5) (xInt r2 (nNat i) 6) (xInt r2 (nNat i) 7) (xStr r2 (nNat i) 8) (xInt r2 (nNat i) 9) (xStr r2 (nNat i) 10) (xInt r2 (nNat i) 11) (xInt r2 (nNat i) 12) (xStr r2 (nNat i) 13)) .non,.int .i64 (qaN (xInt r2 (nNat i) 0) (xStr r2 (nNat i) 1) (qaa (xRow r2 (nNat i) 2)) (xInt r2 (nNat i) 3) (xInt r2 (nNat i) 4) (xStr r2 (nNat i) 5) (xInt r2 (nNat i) 6) (xInt r2 (nNat i) 7) (xStr r2 (nNat i) 8) (xInt r2 (nNat i) 9) (xStr r2 (nNat i) 10) (xInt r2 (nNat i) 11) (xInt r2 (nNat i) 12) (xStr r2 (nNat i) 13)),.int .i64 (qaQ (xInt r2 (nNat i) 0) (xStr r2 (nNat i) 1) (qaa (xRow r2 (nNat i) 2)) (xInt r2 (nNat i) 3) (xInt r2 (nNat i) 4) (xStr r2 (nNat i) 5) (xInt r2 (nNat i) 6) (xInt r2 (nNat i) 7) (xStr r2 (nNat i) 8) (xInt r2 (nNat i) 9) (xStr r2 (nNat i) 10) (xInt r2 (nNat i) 11) (xInt r2 (nNat i) 12) (xStr r2 (nNat i) 13)),.str (qaK (xInt r2 (nNat i) 0) (xStr r2 (nNat i) 1) (qaa (xRow r2 (nNat i) 2)) (xInt r2 (nNat i) 3) (xInt r2 (nNat i) 4) (xStr r2 (nNat i) 5) (xInt r2 (nNat i) 6) (xInt r2 (nNat i) 7) (xStr r2 (nNat i) 8) (xInt r2 (nNat i) 9) (xStr r2 (nNat i) 10) (xInt r2 (nNat i) 11) (xInt r2 (nNat i) 12) (xStr r2 (nNat i) 13)),.int .i64 (qaJ (xInt r2 (nNat i) 0) (xStr r2 (nNat i) 1) (qaa (xRow r2 (nNat i) 2)) (xInt r2 (nNat i) 3) (xInt r2 (nNat i) 4) (xStr r2 (nNat i) 5) (xInt r2 (nNat i) 6) (xInt r2 (nNat i) 7) (xStr r2 (nNat i) 8) (xInt r2 (nNat i) 9) (xStr r2 (nNat i) 10) (xInt r2 (nNat i) 11) (xInt r2 (nNat i) 12) (xStr r2 (nNat i) 13)),.int .i64 (qaP (xInt r2 (nNat i) 0) (xStr r2 (nNat i) 1) (qaa (xRow r2 (nNat i) 2)) (xInt r2 (nNat i) 3) (xInt r2 (nNat i) 4) (xStr r2 (nNat i) 5) (xInt r2 (nNat i) 6) (xInt r2 (nNat i) 7) (xStr r2 (nNat i) 8) (xInt r2 (nNat i) 9) (xStr r2 (nNat i) 10) (xInt r2 (nNat i) 11) (xInt r2 (nNat i) 12) (xStr r2 (nNat i) 13)),.str (qaI (xInt r2 (nNat i) 0) (xStr r2 (nNat i) 1) (qaa (xRow r2 (nNat i) 2)) (xInt r2 (nNat i) 3) (xInt r2 (nNat i) 4)
 (xStr r2 (nNat i) 5) (xInt r2 (nNat i) 6) (xInt r2 (nNat i) 7) (xStr r2 (nNat i) 8) (xInt r2 (nNat i) 9) (xStr r2 (nNat i) 10) (xInt r2 (nNat i) 11) (xInt r2 (nNat i) 12) (xStr r2 (nNat i) 13)),.int .i64 (qaO (xInt r2 (nNat i) 0) (xStr r2 (nNat i) 1) (qaa (xRow r2 (nNat i) 2)) (xInt r2 (nNat i) 3) (xInt r2 (nNat i) 4) (xStr r2 (nNat i) 5) (xInt r2 (nNat i) 6) (xInt r2 (nNat i) 7) (xStr r2 (nNat i) 8) (xInt r2 (nNat i) 9) (xStr r2 (nNat i) 10) (xInt r2 (nNat i) 11) (xInt r2 (nNat i) 12) (xStr r2 (nNat i) 13)),.str (qaS (xInt r2 (nNat i) 0) (xStr r2 (nNat i) 1) (qaa (xRow r2 (nNat i) 2)) (xInt r2 (nNat i) 3) (xInt r2 (nNat i) 4) (xStr r2 (nNat i) 5) (xInt r2 (nNat i) 6) (xInt r2 (nNat i) 7) (xStr r2 (nNat i) 8) (xInt r2 (nNat i) 9) (xStr r2 (nNat i) 10) (xInt r2 (nNat i) 11) (xInt r2 (nNat i) 12) (xStr r2 (nNat i) 13)),.int .i64 (qaL (xInt r2 (nNat i) 0) (xStr r2 (nNat i) 1) (qaa (xRow r2 (nNat i) 2)) (xInt r2 (nNat i) 3) (xInt r2 (nNat i) 4) (xStr r2 (nNat i) 5) (xInt r2 (nNat i) 6) (xInt r2 (nNat i) 7) (xStr r2 (nNat i) 8) (xInt r2 (nNat i) 9) (xStr r2 (nNat i) 10) (xInt r2 (nNat i) 11) (xInt r2 (nNat i) 12) (xStr r2 (nNat i) 13)),.int .i64 (qaM (xInt r2 (nNat i) 0) (xStr r2 (nNat i) 1) (qaa (xRow r2 (nNat i) 2)) (xInt r2 (nNat i) 3) (xInt r2 (nNat i) 4) (xStr r2 (nNat i) 5) (xInt r2 (nNat i) 6) (xInt r2 (nNat i) 7) (xStr r2 (nNat i) 8) (xInt r2 (nNat i) 9) (xStr r2 (nNat i) 10) (xInt r2 (nNat i) 11) (xInt r2 (nNat i) 12) (xStr r2 (nNat i) 13)),.str (qaR (xInt r2 (nNat i) 0) (xStr r2 (nNat i) 1) (qaa (xRow r2 (nNat i) 2)) (xInt r2 (nNat i) 3) (xInt r2 (nNat i) 4) (xStr r2 (nNat i) 5) (xInt r2 (nNat i) 6) (xInt r2 (nNat i) 7) (xStr r2 (nNat i) 8) (xInt r2 (nNat i) 9) (xStr r2 (nNat i) 10) (xInt r2 (nNat i) 11) (xInt r2 (nNat i) 12) (xStr r2 (nNat i) 13))]]),14,34)] [48,48,48]))) .fail) .fail) .fail) .fail) .fail) .fail) .fail) (.ret (.out (.exit 0) [.ptr 1 0,.ptr 2 0]
 (Store.mk [[.str s,.sl r .non,.sl r2 .non],[.str s2,.sl r3 .full,.sl r4 .full],[.str s3,.sl r5 .non,.sl r6 (.tok 0)]] [(k,14,34)] [48,48,48])))) (.ret (.out (.exit 0) [.ptr 1 0,.ptr 2 0] (Store.mk [[.str s,.sl r .non,.sl r2 .non],[.str s2,.sl r3 .full,.sl r4 .full],[.str s3,.sl r5 .non,.sl r6 (.tok 0)]] [(k,14,34)] [48,48,48])))
theorem qBr (i:Int) (s:qU) (r:qR) (r2:qR) (s2:qU) (r3:qR) (r4:qR) (s3:qU) (r5:qR) (r6:qR) (k:Nat):lstep tbT qmD qmK qlQ ql4 [.ptr 0 0,.ptr 1 0,.ptr 2 0,.int .i64 i] ⟨[[.str s,.sl r .non,.sl r2 .non],[.str s2,.sl r3 .full,.sl r4 .full],[.str s3,.sl r5 .non,.sl r6 (.tok 0)]],[(k,14,34)],[48,48,48]⟩=qhc i s r r2 s2 r3 r4 s3 r5 r6 k:=by kernel_rfl
theorem qvq (i:Int) (s:qU) (r:qR) (r2:qR) (s2:qU) (r3:qR) (r4:qR) (s3:qU) (r5:qR) (r6:qR) (k:Nat):qdE [.ptr 0 0,.ptr 1 0,.ptr 2 0,.int .i64 i] ⟨[[.str s,.sl r .non,.sl r2 .non],[.str s2,.sl r3 .full,.sl r4 .full],[.str s3,.sl r5 .non,.sl r6 (.tok 0)]],[(k,14,34)],[48,48,48]⟩=lnext qdE (qhc i s r r2 s2 r3 r4 s3 r5 r6 k).run:=by unfold qdE;rw [qb0,qBr]
def qcY (i:Int) (s:qU) (r:qR) (r2:qR) (s2:qU) (r3:qR) (r4:qR) (s3:qU) (r5:qR) (r6:qR) (k:Nat):Option (PExit×List PV×Store):=qdE [.ptr 0 0,.ptr 1 0,.ptr 2 0,.int .i64 i] ⟨[[.str s,.sl r .non,.sl r2 .non],[.str s2,.sl r3 .full,.sl r4 .full],[.str s3,.sl r5 .non,.sl r6 (.tok 0)]],[(k,14,34)],[48,48,48]⟩
def qpM (i:Int) (s:qU) (r:qR) (r2:qR) (s2:qU) (r3:qR) (r4:qR) (s3:qU) (r5:qR) (r6:qR) (k:Nat):List UInt8:=(gStr (gAt (gObj (qcY i s r r2 s2 r3 r4 s3 r5 r6 k) 0) 0))
def qrd (i:Int) (s:qU) (r:qR) (r2:qR) (s2:qU) (r3:qR) (r4:qR) (s3:qU) (r5:qR) (r6:qR) (k:Nat):List (List PV):=(gRow (gAt (gObj (qcY i s r r2 s2 r3 r4 s3 r5 r6 k) 0) 1))
def qnz (i:Int) (s:qU) (r:qR) (r2:qR) (s2:qU) (r3:qR) (r4:qR) (s3:qU) (r5:qR) (r6:qR) (k:Nat):List (List PV):=(gRow (gAt (gObj (qcY i s r r2 s2 r3 r4 s3 r5 r6 k) 0) 2))
def qnL (i:Int) (s:qU) (r:qR) (r2:qR) (s2:qU) (r3:qR) (r4:qR) (s3:qU) (r5:qR) (r6:qR) (k:Nat):List UInt8:=(gStr (gAt (gObj (qcY i s r r2 s2 r3 r4 s3 r5 r6 k) 1) 0))
def qoj (i:Int) (s:qU) (r:qR) (r2:qR) (s2:qU) (r3:qR) (r4:qR) (s3:qU) (r5:qR) (r6:qR) (k:Nat):List (List PV):=(gRow (gAt (gObj (qcY i s r r2 s2 r3 r4 s3 r5 r6 k) 1) 1))
def qnE (i:Int) (s:qU) (r:qR) (r2:qR) (s2:qU) (r3:qR) (r4:qR) (s3:qU) (r5:qR) (r6:qR) (k:Nat):List (List PV):=(gRow (gAt (gObj (qcY i s r r2 s2 r3 r4 s3 r5 r6 k) 1) 2))
def qjk (i:Int) (s:qU) (r:qR) (r2:qR) (s2:qU) (r3:qR) (r4:qR) (s3:qU) (r5:qR) (r6:qR) (k:Nat):List UInt8:=(gStr (gAt (gObj (qcY i s r r2 s2 r3 r4 s3 r5 r6 k) 2) 0))
def qjF (i:Int) (s:qU) (r:qR) (r2:qR) (s2:qU) (r3:qR) (r4:qR) (s3:qU) (r5:qR) (r6:qR) (k:Nat):List (List PV):=(gRow (gAt (gObj (qcY i s r r2 s2 r3 r4 s3 r5 r6 k) 2) 1))
def qi7 (i:Int) (s:qU) (r:qR) (r2:qR) (s2:qU) (r3:qR) (r4:qR) (s3:qU) (r5:qR) (r6:qR) (k:Nat):List (List PV):=(gRow (gAt (gObj (qcY i s r r2 s2 r3 r4 s3 r5 r6 k) 2) 2))
def qqd (i:Int) (s:qU) (r:qR) (r2:qR) (s2:qU) (r3:qR) (r4:qR) (s3:qU) (r5:qR) (r6:qR) (k:Nat):Nat:=(gTok (qcY i s r r2 s2 r3 r4 s3 r5 r6 k) 0)
def qlb (i:Int) (s:qU) (r:qR) (r2:qR) (s2:qU) (r3:qR) (r4:qR) (s3:qU) (r5:qR) (r6:qR) (k:Nat):Bool:=isW (qcY i s r r2 s2 r3 r4 s3 r5 r6 k) ((.exit 0),[.ptr 1 0,.ptr 2 0],⟨[[.str (qpM i s r r2 s2 r3 r4 s3 r5 r6 k),.sl (qrd i s r r2 s2 r3 r4 s3 r5 r6 k) .non,.sl (qnz i s r r2 s2 r3 r4 s3 r5 r6 k) .non],[.str (qnL i s r r2 s2 r3 r4 s3 r5 r6 k),.sl (qoj i s r r2 s2 r3 r4 s3 r5 r6 k) .full,.sl (qnE i s r r2 s2 r3 r4 s3 r5 r6 k) .full],[.str (qjk i s r r2 s2 r3 r4 s3 r5 r6 k),.sl (qjF i s r r2 s2 r3 r4 s3 r5 r6 k) .non,.sl (qi7 i s r r2 s2 r3 r4 s3 r5 r6 k) (.tok 0)]],[((qqd i s r r2 s2 r3 r4 s3 r5 r6 k),14,34)],[48,48,48]⟩)
def qgc:List PV→Store→Tr (PExit×List PV×Store)|[.ptr 0 0,.ptr 1 0,.ptr 2 0,.int .i64 i],⟨[[.str s,.sl r .non,.sl r2 .non],[.str s2,.sl r3 .full,.sl r4 .full],[.str s3,.sl r5 .non,.sl r6 (.tok 0)]],[(k,14,34)],[48,48,48]⟩=>.ite (qlb i s r r2 s2 r3 r4 s3 r5 r6 k) (.ret ((.exit 0),[.ptr 1 0,.ptr 2 0],⟨[[.str (qpM i s r r2 s2 r3 r4 s3 r5 r6 k),.sl (qrd i s r r2 s2 r3 r4 s3 r5 r6 k) .non,.sl (qnz i s r r2 s2 r3 r4 s3 r5 r6 k) .non],[.str (qnL i s r r2 s2 r3 r4 s3 r5 r6 k),.sl (qoj i s r r2 s2 r3 r4 s3 r5 r6 k) .full,.sl (qnE i s r r2 s2 r3 r4 s3 r5 r6 k) .full],[.str (qjk i s r r2 s2 r3 r4 s3 r5 r6 k),.sl (qjF i s r r2 s2 r3 r4 s3 r5 r6 k) .non,.sl (qi7 i s r r2 s2 r3 r4 s3 r5 r6 k) (.tok 0)]],[((qqd i s r r2 s2 r3 r4 s3 r5 r6 k),14,34)],[48,48,48]⟩)) (.fail)|_,_=>.fail
theorem qxx:∀ vs σ r,(qgc vs σ).run=some r→qdE vs σ=some r:=by
 intro vs σ r h;unfold qgc at h
 split at h
 ·exact qah h fun h=>by cases h
 ·cases h
theorem qti (gl:Gl):∀ fr σ e fr' σ',(orc ql4 qgc fr σ).run=some (e,fr',σ')→LDoes Tryz.prog gl qlQ fr σ e fr' σ':=qdi qav (qrY gl ) qai (L:=qmK) (qae (by kernel_rfl)) (by kernel_rfl) qxx
def quj:LpsT:=fun r fr σ=>bif Nat.beq r 3 then orc ql4 qgc fr σ else .fail
def qqf (r_:qU) (r_2:qR) (r_3:qR):Tr PV:=.ite (qdI r_ (qaa r_2)) (.ite (qlb 0 r_ r_2 r_3 [] [] [] (qc0 r_ (qaa r_2)) (qc3 r_ (qaa r_2)) [] 0) (.ret (.agg [.str (qjk 0 r_ r_2 r_3 [] [] [] (qc0 r_ (qaa r_2)) (qc3 r_ (qaa r_2)) [] 0),.sl (qcj (qjF 0 r_ r_2 r_3 [] [] [] (qc0 r_ (qaa r_2)) (qc3 r_ (qaa r_2)) [] 0)) .non,.sl (qcj (qi7 0 r_ r_2 r_3 [] [] [] (qc0 r_ (qaa r_2)) (qc3 r_ (qaa r_2)) [] 0)) .non])) .fail) .fail
theorem qDJ (r_:qU) (r_2:qR) (r_3:qR):(tcall tbT qmD quj Tryz.f23 [.agg [.str r_,.sl r_2 .non,.sl r_3 .non]]).flat=qqf r_ r_2 r_3:=by kernel_rfl
def qkp (r_:qU) (r_2:qR) (r_3:qR):Option PV:=(qqf r_ r_2 r_3).run
def qaG (r_:qU) (r_2:qR) (r_3:qR):List UInt8:=(gStr (gAt (gCs (gVal (qkp r_ r_2 r_3))) 0))
def qaF (r_:qU) (r_2:qR) (r_3:qR):List (List PV):=(gRow (gAt (gCs (gVal (qkp r_ r_2 r_3))) 1))
def qax (r_:qU) (r_2:qR) (r_3:qR):List (List PV):=(gRow (gAt (gCs (gVal (qkp r_ r_2 r_3))) 2))
def qdK (r_:qU) (r_2:qR) (r_3:qR):Bool:=isW (qkp r_ r_2 r_3) (.agg [.str (qaG r_ r_2 r_3),.sl (qaF r_ r_2 r_3) .non,.sl (qax r_ r_2 r_3) .non])
def qsN:List PV→Tr PV|[.agg [.str r_,.sl r_2 .non,.sl r_3 .non]]=>.ite (qdK r_ r_2 r_3) (.ret (.agg [.str (qaG r_ r_2 r_3),.sl (qaF r_ r_2 r_3) .non,.sl (qax r_ r_2 r_3) .non])) (.fail)|_=>.fail
theorem qxf (gl:Gl):SimP Tryz.prog gl 23 fun args=>(qsN args).run:=by
 refine SimP.of_flat (G:=qmD) (L:=quj) qav (qrY gl ) qai  Tryz.func23 rfl (by rfl) (by kernel_rfl) (qbp (L:=lps quj) [(3,qlQ)] (by kernel_rfl) (List.forall_mem_cons.2 ⟨fun fr σ e fr' σ' h=>qti gl  fr σ e fr' σ' h,(List.forall_mem_nil _)⟩)) ?_
 intro args x h;unfold qsN at h
 split at h
 ·exact (congrArg Tr.run (qDJ _ _ _)).trans (qah h fun h=>by cases h)
 ·cases h
def qtV:GamT:=ofL [(11,.pure F_tx)]
theorem qze (gl:Gl):qa3 Tryz.prog gl (gam qtV):=(qad (qvl gl) qag)
def qxB:LpsT:=fun r fr σ=>.fail
def qrt (d:qU) (d2:Bool) (d3:qR):Tr PV:=.ite (qjN d) (.ite (iLt 12 (xLen d3)) (.ite (qaC true (qao 12) 0 (nNat 12) (nXs d3)) (.ite (qaD d3 1) (.ret (.agg [.str (tx_s d),.bool d2,.sl (qcj (xSub d3 0 (nNat 12))) .non])) .fail) .fail) (.ret (.agg [.str (tx_s d),.bool d2,.sl (qcj d3) .non]))) .fail
theorem qDB (d:qU) (d2:Bool) (d3:qR):(tcall tbT qtV qxB Tryz.f24 [.agg [.str d,.bool d2,.sl d3 .non]]).flat=qrt d d2 d3:=by kernel_rfl
def qk4 (d:qU) (d2:Bool) (d3:qR):Option PV:=(qrt d d2 d3).run
def qal (d:qU) (d2:Bool) (d3:qR):List UInt8:=(gStr (gAt (gCs (gVal (qk4 d d2 d3))) 0))
def qak (d:qU) (d2:Bool) (d3:qR):Bool:=(qbU (gAt (gCs (gVal (qk4 d d2 d3))) 1))
def qam (d:qU) (d2:Bool) (d3:qR):List (List PV):=(gRow (gAt (gCs (gVal (qk4 d d2 d3))) 2))
def qdM (d:qU) (d2:Bool) (d3:qR):Bool:=isW (qk4 d d2 d3) (.agg [.str (qal d d2 d3),.bool (qak d d2 d3),.sl (qam d d2 d3) .non])
def qsU:List PV→Tr PV|[.agg [.str d,.bool d2,.sl d3 .non]]=>.ite (qdM d d2 d3) (.ret (.agg [.str (qal d d2 d3),.bool (qak d d2 d3),.sl (qam d d2 d3) .non])) (.fail)|_=>.fail
theorem qxV (gl:Gl):SimP Tryz.prog gl 24 fun args=>(qsU args).run:=by
 refine SimP.of_flat (G:=qtV) (L:=qxB) qav (qze gl ) qai  Tryz.func24 rfl (by rfl) (by kernel_rfl) (qae (by kernel_rfl)) ?_
 intro args x h;unfold qsU at h
 split at h
 ·exact (congrArg Tr.run (qDB _ _ _)).trans (qah h fun h=>by cases h)
 ·cases h
def qtr:GamT:=ofL [(11,.pure F_tx),(42,.pure qol),(qhg,.hint [(9,1,2,101),(9,2,3,103)])]
theorem quh (gl:Gl):qa3 Tryz.prog gl (gam qtr):=(qad (qvl gl) (qad (qnC gl) (qb6 (K:=.hint [(9,1,2,101),(9,2,3,103)]) trivial qag)))
def quH:Code:=qgr Tryz.f25 3
def qvu:Code:=qgr Tryz.f25 7
def quG:LI:=⟨71,[1,2,3,4],fun e=>match e with|.exit 0=>[1,2,3]|_=>[],true⟩
def qs7:LpsT:=fun r fr σ=>.fail
def qii (vs:List PV) (σ:Store):Option (PExit×List PV×Store):=lval (lstep tbT qtr qs7 quH quG) vs σ
def qnA (n:Int) (s:qU) (r:qR) (r2:qR) (s2:qU) (r3:qR) (r4:qR) (s3:qU) (r5:qR) (r6:qR) (k:Nat) (k2:Nat):Tr LR:=.ite (iLt n (xLen r)) (.ite (iLt n 12) (.ite (qao n) (.ite (qbx [.str [],.int .i64 0] r (nNat n)) (.ite (qjN (xStr r (nNat n) 0)) (.ite (qao n) (.ite (qbx [.str [],.int .i64 0] r (nNat n)) (.ite (qbm r5 [[.str (tx_s (xStr r (nNat n) 0)),.int .i64 (xInt r (nNat n) 1)]] 24) (.ite (qbf [[.str (tx_s (xStr r (nNat n) 0)),.int .i64 (xInt r (nNat n) 1)]] 2) (.ite (qaD r5 2) (.ite (nEq k (nXs r5)) (.ret (.next [.ptr 0 0,.ptr 1 0,.ptr 2 0,.int .i64 (iAdd .i64 n 1)] (Store.mk [[.str s,.sl r .non,.sl r2 .non],[.str s2,.sl r3 .full,.sl r4 .full],[.str s3,.sl (xApp r5 [[.str (tx_s (xStr r (nNat n) 0)),.int .i64 (xInt r (nNat n) 1)]]) (.tok 0),.sl r6 (.tok 1)]] [(nXs (xApp r5 [[.str (tx_s (xStr r (nNat n) 0)),.int .i64 (xInt r (nNat n) 1)]]),2,101),(k2,3,103)] [55,55,55]))) .fail) .fail) .fail) .fail) .fail) .fail) .fail) .fail) .fail) (.ret (.out (.exit 0) [.ptr 0 0,.ptr 1 0,.ptr 2 0] (Store.mk [[.str s,.sl r .non,.sl r2 .non],[.str s2,.sl r3 .full,.sl r4 .full],[.str s3,.sl r5 (.tok 0),.sl r6 (.tok 1)]] [(k,2,101),(k2,3,103)] [55,55,55])))) (.ret (.out (.exit 0) [.ptr 0 0,.ptr 1 0,.ptr 2 0] (Store.mk [[.str s,.sl r .non,.sl r2 .non],[.str s2,.sl r3 .full,.sl r4 .full],[.str s3,.sl r5 (.tok 0),.sl r6 (.tok 1)]] [(k,2,101),(k2,3,103)] [55,55,55])))
theorem qFr (n:Int) (s:qU) (r:qR) (r2:qR) (s2:qU) (r3:qR) (r4:qR) (s3:qU) (r5:qR) (r6:qR) (k:Nat) (k2:Nat):lstep tbT qtr qs7 quH quG [.ptr 0 0,.ptr 1 0,.ptr 2 0,.int .i64 n] ⟨[[.str s,.sl r .non,.sl r2 .non],[.str s2,.sl r3 .full,.sl r4 .full],[.str s3,.sl r5 (.tok 0),.sl r6 (.tok 1)]],[(k,2,101),(k2,3,103)],[55,55,55]⟩=qnA n s r r2 s2 r3 r4 s3 r5 r6 k k2:=by kernel_rfl
theorem qB2 (n:Int) (s:qU) (r:qR) (r2:qR) (s2:qU) (r3:qR) (r4:qR) (s3:qU) (r5:qR) (r6:qR) (k:Nat) (k2:Nat):qii [.ptr 0 0,.ptr 1 0,.ptr 2 0,.int .i64 n] ⟨[[.str s,.sl r .non,.sl r2 .non],[.str s2,.sl r3 .full,.sl r4 .full],[.str s3,.sl r5 (.tok 0),.sl r6 (.tok 1)]],[(k,2,101),(k2,3,103)],[55,55,55]⟩=lnext qii (qnA n s r r2 s2 r3 r4 s3 r5 r6 k k2).run:=by unfold qii;rw [qb0,qFr]
def qfJ (n:Int) (s:qU) (r:qR) (r2:qR) (s2:qU) (r3:qR) (r4:qR) (s3:qU) (r5:qR) (r6:qR) (k:Nat) (k2:Nat):Option (PExit×List PV×Store):=qii [.ptr 0 0,.ptr 1 0,.ptr 2 0,.int .i64 n] ⟨[[.str s,.sl r .non,.sl r2 .non],[.str s2,.sl r3 .full,.sl r4 .full],[.str s3,.sl r5 (.tok 0),.sl r6 (.tok 1)]],[(k,2,101),(k2,3,103)],[55,55,55]⟩
def qn9 (n:Int) (s:qU) (r:qR) (r2:qR) (s2:qU) (r3:qR) (r4:qR) (s3:qU) (r5:qR) (r6:qR) (k:Nat) (k2:Nat):List UInt8:=(gStr (gAt (gObj (qfJ n s r r2 s2 r3 r4 s3 r5 r6 k k2) 0) 0))
def qnw (n:Int) (s:qU) (r:qR) (r2:qR) (s2:qU) (r3:qR) (r4:qR) (s3:qU) (r5:qR) (r6:qR) (k:Nat) (k2:Nat):List (List PV):=(gRow (gAt (gObj (qfJ n s r r2 s2 r3 r4 s3 r5 r6 k k2) 0) 1))
def qiK (n:Int) (s:qU) (r:qR) (r2:qR) (s2:qU) (r3:qR) (r4:qR) (s3:qU) (r5:qR) (r6:qR) (k:Nat) (k2:Nat):List (List PV):=(gRow (gAt (gObj (qfJ n s r r2 s2 r3 r4 s3 r5 r6 k k2) 0) 2))
def qiB (n:Int) (s:qU) (r:qR) (r2:qR) (s2:qU) (r3:qR) (r4:qR) (s3:qU) (r5:qR) (r6:qR) (k:Nat) (k2:Nat):List UInt8:=(gStr (gAt (gObj (qfJ n s r r2 s2 r3 r4 s3 r5 r6 k k2) 1) 0))
def qiD (n:Int) (s:qU) (r:qR) (r2:qR) (s2:qU) (r3:qR) (r4:qR) (s3:qU) (r5:qR) (r6:qR) (k:Nat) (k2:Nat):List (List PV):=(gRow (gAt (gObj (qfJ n s r r2 s2 r3 r4 s3 r5 r6 k k2) 1) 1))
def qiI (n:Int) (s:qU) (r:qR) (r2:qR) (s2:qU) (r3:qR) (r4:qR) (s3:qU) (r5:qR) (r6:qR) (k:Nat) (k2:Nat):List (List PV):=(gRow (gAt (gObj (qfJ n s r r2 s2 r3 r4 s3 r5 r6 k k2) 1) 2))
def qiT (n:Int) (s:qU) (r:qR) (r2:qR) (s2:qU) (r3:qR) (r4:qR) (s3:qU) (r5:qR) (r6:qR) (k:Nat) (k2:Nat):List UInt8:=(gStr (gAt (gObj (qfJ n s r r2 s2 r3 r4 s3 r5 r6 k k2) 2) 0))
def qiw (n:Int) (s:qU) (r:qR) (r2:qR) (s2:qU) (r3:qR) (r4:qR) (s3:qU) (r5:qR) (r6:qR) (k:Nat) (k2:Nat):List (List PV):=(gRow (gAt (gObj (qfJ n s r r2 s2 r3 r4 s3 r5 r6 k k2) 2) 1))
def qiZ (n:Int) (s:qU) (r:qR) (r2:qR) (s2:qU) (r3:qR) (r4:qR) (s3:qU) (r5:qR) (r6:qR) (k:Nat) (k2:Nat):List (List PV):=(gRow (gAt (gObj (qfJ n s r r2 s2 r3 r4 s3 r5 r6 k k2) 2) 2))
def qnK (n:Int) (s:qU) (r:qR) (r2:qR) (s2:qU) (r3:qR) (r4:qR) (s3:qU) (r5:qR) (r6:qR) (k:Nat) (k2:Nat):Nat:=(gTok (qfJ n s r r2 s2 r3 r4 s3 r5 r6 k k2) 0)
def qix (n:Int) (s:qU) (r:qR) (r2:qR) (s2:qU) (r3:qR) (r4:qR) (s3:qU) (r5:qR) (r6:qR) (k:Nat) (k2:Nat):Nat:=(gTok (qfJ n s r r2 s2 r3 r4 s3 r5 r6 k k2) 1)
def qrf (n:Int) (s:qU) (r:qR) (r2:qR) (s2:qU) (r3:qR) (r4:qR) (s3:qU) (r5:qR) (r6:qR) (k:Nat) (k2:Nat):Bool:=isW (qfJ n s r r2 s2 r3 r4 s3 r5 r6 k k2) ((.exit 0),[.ptr 0 0,.ptr 1 0,.ptr 2 0],⟨[[.str (qn9 n s r r2 s2 r3 r4 s3 r5 r6 k k2),.sl (qnw n s r r2 s2 r3 r4 s3 r5 r6 k k2) .non,.sl (qiK n s r r2 s2 r3 r4 s3 r5 r6 k k2) .non],[.str (qiB n s r r2 s2 r3 r4 s3 r5 r6 k k2),.sl (qiD n s r r2 s2 r3 r4 s3 r5 r6 k k2) .full,.sl (qiI n s r r2 s2 r3 r4 s3 r5 r6 k k2) .full],[.str (qiT n s r r2 s2 r3 r4 s3 r5 r6 k k2),.sl (qiw n s r r2 s2 r3 r4 s3 r5 r6 k k2) (.tok 0),.sl (qiZ n s r r2 s2 r3 r4 s3 r5 r6 k k2) (.tok 1)]],[((qnK n s r r2 s2 r3 r4 s3 r5 r6 k k2),2,101),((qix n s r r2 s2 r3 r4 s3 r5 r6 k k2),3,103)],[55,55,55]⟩)
def qkg:List PV→Store→Tr (PExit×List PV×Store)|[.ptr 0 0,.ptr 1 0,.ptr 2 0,.int .i64 n],⟨[[.str s,.sl r .non,.sl r2 .non],[.str s2,.sl r3 .full,.sl r4 .full],[.str s3,.sl r5 (.tok 0),.sl r6 (.tok 1)]],[(k,2,101),(k2,3,103)],[55,55,55]⟩=>.ite (qrf n s r r2 s2 r3 r4 s3 r5 r6 k k2) (.ret ((.exit 0),[.ptr 0 0,.ptr 1 0,.ptr 2 0],⟨[[.str (qn9 n s r r2 s2 r3 r4 s3 r5 r6 k k2),.sl (qnw n s r r2 s2 r3 r4 s3 r5 r6 k k2) .non,.sl (qiK n s r r2 s2 r3 r4 s3 r5 r6 k k2) .non],[.str (qiB n s r r2 s2 r3 r4 s3 r5 r6 k k2),.sl (qiD n s r r2 s2 r3 r4 s3 r5 r6 k k2) .full,.sl (qiI n s r r2 s2 r3 r4 s3 r5 r6 k k2) .full],[.str (qiT n s r r2 s2 r3 r4 s3 r5 r6 k k2),.sl (qiw n s r r2 s2 r3 r4 s3 r5 r6 k k2) (.tok 0),.sl (qiZ n s r r2 s2 r3 r4 s3 r5 r6 k k2) (.tok 1)]],[((qnK n s r r2 s2 r3 r4 s3 r5 r6 k k2),2,101),((qix n s r r2 s2 r3 r4 s3 r5 r6 k k2),3,103)],[55,55,55]⟩)) (.fail)|_,_=>.fail
theorem qCI:∀ vs σ r,(qkg vs σ).run=some r→qii vs σ=some r:=by
 intro vs σ r h;unfold qkg at h
 split at h
 ·exact qah h fun h=>by cases h
 ·cases h
theorem qAh (gl:Gl):∀ fr σ e fr' σ',(orc quG qkg fr σ).run=some (e,fr',σ')→LDoes Tryz.prog gl quH fr σ e fr' σ':=qdi qav (quh gl ) qai (L:=qs7) (qae (by kernel_rfl)) (by kernel_rfl) qCI
def qvc:LI:=⟨71,[1,2,3,5],fun e=>match e with|.exit 2=>[2,3]|_=>[],true⟩
def qtp:LpsT:=fun r fr σ=>.fail
def qic (vs:List PV) (σ:Store):Option (PExit×List PV×Store):=lval (lstep tbT qtr qtp qvu qvc) vs σ
def qmV (n:Int) (s:qU) (r:qR) (r2:qR) (s2:qU) (r3:qR) (r4:qR) (s3:qU) (r5:qR) (r6:qR) (k:Nat) (k2:Nat):Tr LR:=.ite (iLt n (xLen r2)) (.ite (iLt n 8) (.ite (qao n) (.ite (qbx [.bool false,.str [],.sl [] .full] r2 (nNat n)) (.ite (qao n) (.ite (qbx [.bool false,.str [],.sl [] .full] r2 (nNat n)) (.ite (qdI (xStr r2 (nNat n) 1) (qaa (xRow r2 (nNat n) 2))) (.ite (qbm r6 [[.bool (qfu r2 (nNat n) 0),.str (qc0 (xStr r2 (nNat n) 1) (qaa (xRow r2 (nNat n) 2))),.sl (qc3 (xStr r2 (nNat n) 1) (qaa (xRow r2 (nNat n) 2))) .non]] 48) (.ite (qbf [[.bool (qfu r2 (nNat n) 0),.str (qc0 (xStr r2 (nNat n) 1) (qaa (xRow r2 (nNat n) 2))),.sl (qc3 (xStr r2 (nNat n) 1) (qaa (xRow r2 (nNat n) 2))) .non]] 3) (.ite (qaD r6 3) (.ite (nEq k2 (nXs r6)) (.ret (.next [.ptr 0 0,.ptr 1 0,.ptr 2 0,.int .i64 (iAdd .i64 n 1)] (Store.mk [[.str s,.sl r .non,.sl r2 .non],[.str s2,.sl r3 .full,.sl r4 .full],[.str s3,.sl r5 (.tok 0),.sl (xApp r6 [[.bool (qfu r2 (nNat n) 0),.str (qc0 (xStr r2 (nNat n) 1) (qaa (xRow r2 (nNat n) 2))),.sl (qc3 (xStr r2 (nNat n) 1) (qaa (xRow r2 (nNat n) 2))) .non]]) (.tok 1)]] [(k,2,101),(nXs (xApp r6 [[.bool (qfu r2 (nNat n) 0),.str (qc0 (xStr r2 (nNat n) 1) (qaa (xRow r2 (nNat n) 2))),.sl (qc3 (xStr r2 (nNat n) 1) (qaa (xRow r2 (nNat n) 2))) .non]]),3,103)] [55,55,55]))) .fail) .fail) .fail) .fail) .fail) .fail) .fail) .fail) .fail) (.ret (.out (.exit 2) [.ptr 1 0,.ptr 2 0] (Store.mk [[.str s,.sl r .non,.sl r2 .non],[.str s2,.sl r3 .full,.sl r4 .full],[.str s3,.sl r5 (.tok 0),.sl r6 (.tok 1)]] [(k,2,101),(k2,3,103)] [55,55,55])))) (.ret (.out (.exit 2) [.ptr 1 0,.ptr 2 0] (Store.mk [[.str s,.sl r .non,.sl r2 .non],[.str s2,.sl r3 .full,.sl r4 .full],[.str s3,.sl r5 (.tok 0),.sl r6 (.tok 1)]] [(k,2,101),(k2,3,103)] [55,55,55])))
theorem qFN (n:Int) (s:qU) (r:qR) (r2:qR) (s2:qU) (r3:qR) (r4:qR) (s3:qU) (r5:qR) (r6:qR) (k:Nat) (k2:Nat):lstep tbT qtr qtp qvu qvc [.ptr 0 0,.ptr 1 0,.ptr 2 0,.int .i64 n] ⟨[[.str s,.sl r .non,.sl r2 .non],[.str s2,.sl r3 .full,.sl r4 .full],[.str s3,.sl r5 (.tok 0),.sl r6 (.tok 1)]],[(k,2,101),(k2,3,103)],[55,55,55]⟩=qmV n s r r2 s2 r3 r4 s3 r5 r6 k k2:=by kernel_rfl
theorem qB8 (n:Int) (s:qU) (r:qR) (r2:qR) (s2:qU) (r3:qR) (r4:qR) (s3:qU) (r5:qR) (r6:qR) (k:Nat) (k2:Nat):qic [.ptr 0 0,.ptr 1 0,.ptr 2 0,.int .i64 n] ⟨[[.str s,.sl r .non,.sl r2 .non],[.str s2,.sl r3 .full,.sl r4 .full],[.str s3,.sl r5 (.tok 0),.sl r6 (.tok 1)]],[(k,2,101),(k2,3,103)],[55,55,55]⟩=lnext qic (qmV n s r r2 s2 r3 r4 s3 r5 r6 k k2).run:=by unfold qic;rw [qb0,qFN]
def qfL (n:Int) (s:qU) (r:qR) (r2:qR) (s2:qU) (r3:qR) (r4:qR) (s3:qU) (r5:qR) (r6:qR) (k:Nat) (k2:Nat):Option (PExit×List PV×Store):=qic [.ptr 0 0,.ptr 1 0,.ptr 2 0,.int .i64 n] ⟨[[.str s,.sl r .non,.sl r2 .non],[.str s2,.sl r3 .full,.sl r4 .full],[.str s3,.sl r5 (.tok 0),.sl r6 (.tok 1)]],[(k,2,101),(k2,3,103)],[55,55,55]⟩
def qzV (n:Int) (s:qU) (r:qR) (r2:qR) (s2:qU) (r3:qR) (r4:qR) (s3:qU) (r5:qR) (r6:qR) (k:Nat) (k2:Nat):List UInt8:=(gStr (gAt (gObj (qfL n s r r2 s2 r3 r4 s3 r5 r6 k k2) 0) 0))
def qya (n:Int) (s:qU) (r:qR) (r2:qR) (s2:qU) (r3:qR) (r4:qR) (s3:qU) (r5:qR) (r6:qR) (k:Nat) (k2:Nat):List (List PV):=(gRow (gAt (gObj (qfL n s r r2 s2 r3 r4 s3 r5 r6 k k2) 0) 1))
def qtM (n:Int) (s:qU) (r:qR) (r2:qR) (s2:qU) (r3:qR) (r4:qR) (s3:qU) (r5:qR) (r6:qR) (k:Nat) (k2:Nat):List (List PV):=(gRow (gAt (gObj (qfL n s r r2 s2 r3 r4 s3 r5 r6 k k2) 0) 2))
def qtX (n:Int) (s:qU) (r:qR) (r2:qR) (s2:qU) (r3:qR) (r4:qR) (s3:qU) (r5:qR) (r6:qR) (k:Nat) (k2:Nat):List UInt8:=(gStr (gAt (gObj (qfL n s r r2 s2 r3 r4 s3 r5 r6 k k2) 1) 0))
def quc (n:Int) (s:qU) (r:qR) (r2:qR) (s2:qU) (r3:qR) (r4:qR) (s3:qU) (r5:qR) (r6:qR) (k:Nat) (k2:Nat):List (List PV):=(gRow (gAt (gObj (qfL n s r r2 s2 r3 r4 s3 r5 r6 k k2) 1) 1))
def qt4 (n:Int) (s:qU) (r:qR) (r2:qR) (s2:qU) (r3:qR) (r4:qR) (s3:qU) (r5:qR) (r6:qR) (k:Nat) (k2:Nat):List (List PV):=(gRow (gAt (gObj (qfL n s r r2 s2 r3 r4 s3 r5 r6 k k2) 1) 2))
def qqu (n:Int) (s:qU) (r:qR) (r2:qR) (s2:qU) (r3:qR) (r4:qR) (s3:qU) (r5:qR) (r6:qR) (k:Nat) (k2:Nat):List UInt8:=(gStr (gAt (gObj (qfL n s r r2 s2 r3 r4 s3 r5 r6 k k2) 2) 0))
def qqj (n:Int) (s:qU) (r:qR) (r2:qR) (s2:qU) (r3:qR) (r4:qR) (s3:qU) (r5:qR) (r6:qR) (k:Nat) (k2:Nat):List (List PV):=(gRow (gAt (gObj (qfL n s r r2 s2 r3 r4 s3 r5 r6 k k2) 2) 1))
def qq0 (n:Int) (s:qU) (r:qR) (r2:qR) (s2:qU) (r3:qR) (r4:qR) (s3:qU) (r5:qR) (r6:qR) (k:Nat) (k2:Nat):List (List PV):=(gRow (gAt (gObj (qfL n s r r2 s2 r3 r4 s3 r5 r6 k k2) 2) 2))
def qw2 (n:Int) (s:qU) (r:qR) (r2:qR) (s2:qU) (r3:qR) (r4:qR) (s3:qU) (r5:qR) (r6:qR) (k:Nat) (k2:Nat):Nat:=(gTok (qfL n s r r2 s2 r3 r4 s3 r5 r6 k k2) 0)
def quk (n:Int) (s:qU) (r:qR) (r2:qR) (s2:qU) (r3:qR) (r4:qR) (s3:qU) (r5:qR) (r6:qR) (k:Nat) (k2:Nat):Nat:=(gTok (qfL n s r r2 s2 r3 r4 s3 r5 r6 k k2) 1)
def qq8 (n:Int) (s:qU) (r:qR) (r2:qR) (s2:qU) (r3:qR) (r4:qR) (s3:qU) (r5:qR) (r6:qR) (k:Nat) (k2:Nat):Bool:=isW (qfL n s r r2 s2 r3 r4 s3 r5 r6 k k2) ((.exit 2),[.ptr 1 0,.ptr 2 0],⟨[[.str (qzV n s r r2 s2 r3 r4 s3 r5 r6 k k2),.sl (qya n s r r2 s2 r3 r4 s3 r5 r6 k k2) .non,.sl (qtM n s r r2 s2 r3 r4 s3 r5 r6 k k2) .non],[.str (qtX n s r r2 s2 r3 r4 s3 r5 r6 k k2),.sl (quc n s r r2 s2 r3 r4 s3 r5 r6 k k2) .full,.sl (qt4 n s r r2 s2 r3 r4 s3 r5 r6 k k2) .full],[.str (qqu n s r r2 s2 r3 r4 s3 r5 r6 k k2),.sl (qqj n s r r2 s2 r3 r4 s3 r5 r6 k k2) (.tok 0),.sl (qq0 n s r r2 s2 r3 r4 s3 r5 r6 k k2) (.tok 1)]],[((qw2 n s r r2 s2 r3 r4 s3 r5 r6 k k2),2,101),((quk n s r r2 s2 r3 r4 s3 r5 r6 k k2),3,103)],[55,55,55]⟩)
def qjI:List PV→Store→Tr (PExit×List PV×Store)|[.ptr 0 0,.ptr 1 0,.ptr 2 0,.int .i64 n],⟨[[.str s,.sl r .non,.sl r2 .non],[.str s2,.sl r3 .full,.sl r4 .full],[.str s3,.sl r5 (.tok 0),.sl r6 (.tok 1)]],[(k,2,101),(k2,3,103)],[55,55,55]⟩=>.ite (qq8 n s r r2 s2 r3 r4 s3 r5 r6 k k2) (.ret ((.exit 2),[.ptr 1 0,.ptr 2 0],⟨[[.str (qzV n s r r2 s2 r3 r4 s3 r5 r6 k k2),.sl (qya n s r r2 s2 r3 r4 s3 r5 r6 k k2) .non,.sl (qtM n s r r2 s2 r3 r4 s3 r5 r6 k k2) .non],[.str (qtX n s r r2 s2 r3 r4 s3 r5 r6 k k2),.sl (quc n s r r2 s2 r3 r4 s3 r5 r6 k k2) .full,.sl (qt4 n s r r2 s2 r3 r4 s3 r5 r6 k k2) .full],[.str (qqu n s r r2 s2 r3 r4 s3 r5 r6 k k2),.sl (qqj n s r r2 s2 r3 r4 s3 r5 r6 k k2) (.tok 0),.sl (qq0 n s r r2 s2 r3 r4 s3 r5 r6 k k2) (.tok 1)]],[((qw2 n s r r2 s2 r3 r4 s3 r5 r6 k k2),2,101),((quk n s r r2 s2 r3 r4 s3 r5 r6 k k2),3,103)],[55,55,55]⟩)) (.fail)|_,_=>.fail
theorem qDt:∀ vs σ r,(qjI vs σ).run=some r→qic vs σ=some r:=by
 intro vs σ r h;unfold qjI at h
 split at h
 ·exact qah h fun h=>by cases h
 ·cases h
theorem qy8 (gl:Gl):∀ fr σ e fr' σ',(orc qvc qjI fr σ).run=some (e,fr',σ')→LDoes Tryz.prog gl qvu fr σ e fr' σ':=qdi qav (quh gl ) qai (L:=qtp) (qae (by kernel_rfl)) (by kernel_rfl) qDt
def qC5:LpsT:=fun r fr σ=>bif Nat.beq r 3 then orc quG qkg fr σ else bif Nat.beq r 7 then orc qvc qjI fr σ else .fail
def qxq (v:qU) (v2:qR) (v3:qR):Tr PV:=.ite (qjN v) (.ite (qrf 0 v v2 v3 [] [] [] (tx_s v) [] [] 0 0) (.ite (qq8 0 (qn9 0 v v2 v3 [] [] [] (tx_s v) [] [] 0 0) (qnw 0 v v2 v3 [] [] [] (tx_s v) [] [] 0 0) (qiK 0 v v2 v3 [] [] [] (tx_s v) [] [] 0 0) (qiB 0 v v2 v3 [] [] [] (tx_s v) [] [] 0 0) (qiD 0 v v2 v3 [] [] [] (tx_s v) [] [] 0 0) (qiI 0 v v2 v3 [] [] [] (tx_s v) [] [] 0 0) (qiT 0 v v2 v3 [] [] [] (tx_s v) [] [] 0 0) (qiw 0 v v2 v3 [] [] [] (tx_s v) [] [] 0 0) (qiZ 0 v v2 v3 [] [] [] (tx_s v) [] [] 0 0) (qnK 0 v v2 v3 [] [] [] (tx_s v) [] [] 0 0) (qix 0 v v2 v3 [] [] [] (tx_s v) [] [] 0 0)) (.ret (.agg [.str (qqu 0 (qn9 0 v v2 v3 [] [] [] (tx_s v) [] [] 0 0) (qnw 0 v v2 v3 [] [] [] (tx_s v) [] [] 0 0) (qiK 0 v v2 v3 [] [] [] (tx_s v) [] [] 0 0) (qiB 0 v v2 v3 [] [] [] (tx_s v) [] [] 0 0) (qiD 0 v v2 v3 [] [] [] (tx_s v) [] [] 0 0) (qiI 0 v v2 v3 [] [] [] (tx_s v) [] [] 0 0) (qiT 0 v v2 v3 [] [] [] (tx_s v) [] [] 0 0) (qiw 0 v v2 v3 [] [] [] (tx_s v) [] [] 0 0) (qiZ 0 v v2 v3 [] [] [] (tx_s v) [] [] 0 0) (qnK 0 v v2 v3 [] [] [] (tx_s v) [] [] 0 0) (qix 0 v v2 v3 [] [] [] (tx_s v) [] [] 0 0)),.sl (qcj (qqj 0 (qn9 0 v v2 v3 [] [] [] (tx_s v) [] [] 0 0) (qnw 0 v v2 v3 [] [] [] (tx_s v) [] [] 0 0) (qiK 0 v v2 v3 [] [] [] (tx_s v) [] [] 0 0) (qiB 0 v v2 v3 [] [] [] (tx_s v) [] [] 0 0) (qiD 0 v v2 v3 [] [] [] (tx_s v) [] [] 0 0) (qiI 0 v v2 v3 [] [] [] (tx_s v) [] [] 0 0) (qiT 0 v v2 v3 [] [] [] (tx_s v) [] [] 0 0) (qiw 0 v v2 v3 [] [] [] (tx_s v) [] [] 0 0) (qiZ 0 v v2 v3 [] [] [] (tx_s v) [] [] 0 0) (qnK 0 v v2 v3 [] [] [] (tx_s v) [] [] 0 0) (qix 0 v v2 v3 [] [] [] (tx_s v) [] [] 0 0))) .non,.sl (qcj (qq0 0 (qn9 0 v v2 v3 [] [] [] (tx_s v) [] [] 0 0) (qnw 0 v v2 v3 [] [] [] (tx_s v) [] [] 0 0) (qiK 0 v v2 v3 [] [] [] (tx_s v) [] [] 0 0)
 (qiB 0 v v2 v3 [] [] [] (tx_s v) [] [] 0 0) (qiD 0 v v2 v3 [] [] [] (tx_s v) [] [] 0 0) (qiI 0 v v2 v3 [] [] [] (tx_s v) [] [] 0 0) (qiT 0 v v2 v3 [] [] [] (tx_s v) [] [] 0 0) (qiw 0 v v2 v3 [] [] [] (tx_s v) [] [] 0 0) (qiZ 0 v v2 v3 [] [] [] (tx_s v) [] [] 0 0) (qnK 0 v v2 v3 [] [] [] (tx_s v) [] [] 0 0) (qix 0 v v2 v3 [] [] [] (tx_s v) [] [] 0 0))) .non])) .fail) .fail) .fail
theorem qGb (v:qU) (v2:qR) (v3:qR):(tcall tbT qtr qC5 Tryz.f25 [.agg [.str v,.sl v2 .non,.sl v3 .non]]).flat=qxq v v2 v3:=by kernel_rfl
def qvV (v:qU) (v2:qR) (v3:qR):Option PV:=(qxq v v2 v3).run
def qbv (v:qU) (v2:qR) (v3:qR):List UInt8:=(gStr (gAt (gCs (gVal (qvV v v2 v3))) 0))
def qbw (v:qU) (v2:qR) (v3:qR):List (List PV):=(gRow (gAt (gCs (gVal (qvV v v2 v3))) 1))
def qaY (v:qU) (v2:qR) (v3:qR):List (List PV):=(gRow (gAt (gCs (gVal (qvV v v2 v3))) 2))
def qhr (v:qU) (v2:qR) (v3:qR):Bool:=isW (qvV v v2 v3) (.agg [.str (qbv v v2 v3),.sl (qbw v v2 v3) .non,.sl (qaY v v2 v3) .non])
def qCZ:List PV→Tr PV|[.agg [.str v,.sl v2 .non,.sl v3 .non]]=>.ite (qhr v v2 v3) (.ret (.agg [.str (qbv v v2 v3),.sl (qbw v v2 v3) .non,.sl (qaY v v2 v3) .non])) (.fail)|_=>.fail
theorem qC4 (gl:Gl):SimP Tryz.prog gl 25 fun args=>(qCZ args).run:=by
 refine SimP.of_flat (G:=qtr) (L:=qC5) qav (quh gl ) qai  Tryz.func25 rfl (by rfl) (by kernel_rfl) (qbp (L:=lps qC5) [(3,quH),(7,qvu)] (by kernel_rfl) (List.forall_mem_cons.2 ⟨fun fr σ e fr' σ' h=>qAh gl  fr σ e fr' σ' h,(List.forall_mem_cons.2 ⟨fun fr σ e fr' σ' h=>qy8 gl  fr σ e fr' σ' h,(List.forall_mem_nil _)⟩)⟩)) ?_
 intro args x h;unfold qCZ at h
 split at h
 ·exact (congrArg Tr.run (qGb _ _ _)).trans (qah h fun h=>by cases h)
 ·cases h
end Go.Pv
set_option maxHeartbeats 4000000
set_option linter.unusedSimpArgs false
set_option linter.unusedVariables false
namespace Go.Pv
open Go.RowKit
def swp (i k:Nat):Nat:=if k=i then i+1 else if k=i+1 then i else k
theorem qsZ (i k:Nat):swp i (swp i k)=k:=by
 unfold swp
 repeat' split
 all_goals omega
theorem qCg {i k n:Nat} (hi:i+1 < n) (hk:k < n):swp i k < n:=by
 unfold swp
 repeat' split
 all_goals omega
theorem qpp {i k:Nat} (h1:k≠i) (h2:k≠i+1):swp i k=k:=by
 unfold swp;rw [if_neg h1,if_neg h2]
def eA (i k:Nat) (o:Oper):Oper:=if k=i+1 then { o with after:=o.after.push ⟨i,.data⟩ } else o
def opsA (i:Nat) (ops:Array Oper):Array Oper:=ops.mapIdx fun k o=>eA i k o
def eB (i k:Nat) (o:Oper):Oper:={ o with after:=(o.after.map fun e=>{ e with on:=swp i e.on })++(if k=i+1 then #[⟨i,.data⟩] else #[]) }
def opsB (i:Nat) (ops:Array Oper):Array Oper:=ops.mapIdx fun k o=>eB i k ((ops[swp i k]?).getD o)
def qit (i:Nat) (ops:Array Oper):Bool:=ops.toList.all fun o=>match o.guard with
 |some (g,_)=>!Nat.beq g i&&!Nat.beq g (i+1)
 |none=>true
theorem atA (i:Nat) (ops:Array Oper) (k:Nat):(opsA i ops)[k]?=(ops[k]?).map (eA i k):=by
 unfold opsA;rw [Array.getElem?_mapIdx]
theorem atB {i:Nat} {ops:Array Oper} (hi:i+1 < ops.size) {k:Nat} {o:Oper} (h:ops[k]?=some o):(opsB i ops)[swp i k]?=some (eB i (swp i k) o):=by
 have hk:k < ops.size:=by
  have:=Array.getElem?_eq_some_iff.1 h;exact this.1
 unfold opsB;rw [Array.getElem?_mapIdx,Array.getElem?_eq_getElem (qCg hi hk),qsZ,h];rfl
theorem qDb (i k:Nat) (o:Oper):∃ x,eA i k o={ o with after:=x }:=by
 unfold eA;split
 ·exact⟨_,rfl⟩
 ·exact⟨o.after,rfl⟩
theorem qsV (i:Nat) (ops:Array Oper):(opsA i ops).size=ops.size:=by simp [opsA]
theorem qoH (i:Nat) (ops:Array Oper):(opsB i ops).size=ops.size:=by simp [opsB]
theorem qo6 {i:Nat} {ops:Array Oper} (h:qit i ops=true) {k:Nat} {o:Oper} (ho:ops[k]?=some o) {g:Nat} {b:Bool} (hg:o.guard=some (g,b)):g≠i∧g≠i+1:=by
 unfold qit at h
 rw [List.all_eq_true] at h
 have h1:=h o (by
  rw [Array.mem_toList_iff];exact Array.mem_of_getElem? ho)
 rw [hg] at h1;simp only [Bool.and_eq_true,Bool.not_eq_true'] at h1;exact⟨Nat.ne_of_beq_eq_false h1.1,Nat.ne_of_beq_eq_false h1.2⟩
theorem qcX {ops:Array Oper} {listed:Array Bool} (hs:listed.size=ops.size) {k:Nat}:k∈Region.ready .any ops listed↔∃ o,ops[k]?=some o∧¬ In listed k∧∀ e∈o.after.toList,Region.binds .any e=true→In listed e.on:=by
 unfold Region.ready;rw [List.mem_filter,List.mem_range];constructor
 ·rintro⟨hk,hk'⟩;have hb:k < listed.size:=by omega
  have e2:ops[k]?=some ops[k]:=Array.getElem?_eq_getElem hk;simp only [e2,Option.map_some,Option.getD_some,Bool.and_eq_true,Bool.not_eq_true'] at hk';obtain⟨hk1,hk2⟩:=hk';refine⟨_,e2,?_,?_⟩
  ·rw [Array.getD_eq_getD_getElem?,Array.getElem?_eq_getElem hb] at hk1;unfold In;rw [Array.getD_eq_getD_getElem?,Array.getElem?_eq_getElem hb];simpa using hk1
  ·intro e he hbd;have:=Array.all_eq_true'.1 hk2 e (Array.mem_toList_iff.1 he);simpa [hbd,In] using this
 ·rintro⟨o,ho,hn,he⟩;have hk:k < ops.size:=(Array.getElem?_eq_some_iff.1 ho).1;have hb:k < listed.size:=by omega
  refine⟨hk,?_⟩;simp only [ho,Option.map_some,Option.getD_some,Bool.and_eq_true,Bool.not_eq_true'];constructor
  ·unfold In at hn;rw [Array.getD_eq_getD_getElem?,Array.getElem?_eq_getElem hb] at hn ⊢;simpa using hn
  ·rw [Array.all_eq_true'];intro e hm;cases hbd:Region.binds .any e with
   |false=>rfl
   |true =>
    have:=he e (Array.mem_toList_iff.2 hm) hbd;simpa [In] using this
section
variable {F : Fence} {n : Nat} {P : Program} {Q : Exit → Act → World → Prop}
theorem qsq {ops ops2:Array Oper} (hsz:ops2.size=ops.size) (π:Nat→Nat) (hπ:∀ k,π (π k)=k) (hlt:∀ k,k < ops.size→π k < ops.size) (j:Nat)
  (hop:∀ (K:Act→World→Prop) k a w,wpOpIn F n P ops2 Q (π k) K a w→wpOpIn F n P ops Q k K a w)
  (hr:∀ listed listed2:Array Bool,listed.size=ops.size→listed2.size=ops2.size→(∀ k,In listed2 (π k)↔In listed k)→In listed j→∀ k,(k∈Region.ready .any ops listed↔π k∈Region.ready .any ops2 listed2)) :
  ∀ (fuel:Nat) (listed listed2:Array Bool) (a:Act) (w:World),listed.size=ops.size→listed2.size=ops2.size→(∀ k,In listed2 (π k)↔In listed k)→In listed j→wpAnyIn F n P .any ops2 Q fuel listed2 a w→wpAnyIn F n P .any ops Q fuel listed a w:=by
 intro fuel
 induction fuel with
 |zero =>
  intro l l2 a w h1 h2 h3 h4 h;refine⟨List.eq_nil_iff_forall_not_mem.2 fun k hk=>?_,h.2⟩
  have:=(hr l l2 h1 h2 h3 h4 k).1 hk;rw [h.1] at this;cases this
 |succ fuel ih =>
  intro l l2 a w h1 h2 h3 h4 h;refine⟨fun hn=>h.1 (List.eq_nil_iff_forall_not_mem.2 fun k hk=>?_),fun k hk=>?_⟩
  ·have:=(hr l l2 h1 h2 h3 h4 (π k)).2 (by rw [hπ];exact hk)
   rw [hn] at this;cases this
  ·have hk2:=(hr l l2 h1 h2 h3 h4 k).1 hk;obtain⟨o,ho,_⟩:=(qcX h1).1 hk;have hkl:k < ops.size:=(Array.getElem?_eq_some_iff.1 ho).1;refine hop _ k a w (wpOpIn_mono (fun a' w' h'=>ih _ _ a' w' (by simp [h1]) (by simp [h2]) (fun m=>?_) ?_ h') (h.2 _ hk2))
   ·rw [qdm (by have:=hlt k hkl;omega),qdm (by omega),h3]
    constructor
    ·rintro (h|h)
     ·exact .inl (by rw [← hπ m,h,hπ])
     ·exact .inr h
    ·rintro (rfl|h)
     ·exact .inl rfl
     ·exact .inr h
   ·exact (qdm (by omega)).2 (.inr h4)
theorem qAF (i:Nat) (ops:Array Oper) (t:Array Value):yielded (opsA i ops) t=yielded ops t:=by
 funext g
 unfold yielded;rw [atA];cases h:ops[g]? with
 |none=>rfl
 |some o =>
  obtain⟨x,hx⟩:=qDb i g o;simp only [Option.map_some,Option.bind_some,hx]
theorem qAE {i:Nat} {ops:Array Oper} (hi:i+1 < ops.size) (t:Array Value) {g:Nat} (h1:g≠i) (h2:g≠i+1):yielded (opsB i ops) t g=yielded ops t g:=by
 unfold yielded;cases h:ops[g]? with
 |none =>
  have:(opsB i ops)[g]?=none:=by
   rw [Array.getElem?_eq_none_iff] at h ⊢;rw [qoH];exact h
  rw [this]
 |some o =>
  have:=atB hi h;rw [qpp h1 h2] at this;rw [this];rfl
theorem opA (i:Nat) (ops:Array Oper) (K:Act→World→Prop) (k:Nat) (a:Act) (w:World) (h:wpOpIn F n P (opsA i ops) Q k K a w):wpOpIn F n P ops Q k K a w:=by
 unfold wpOpIn at h ⊢;rw [atA,qAF] at h
 cases ho:ops[k]? with
 |none=>rw [ho] at h;exact h
 |some o =>
  obtain⟨x,hx⟩:=qDb i k o;rw [ho] at h
  simp only [Option.map_some,hx] at h
  exact h
theorem opB {i:Nat} {ops:Array Oper} (hi:i+1 < ops.size) (hg:qit i ops=true) (K:Act→World→Prop) (k:Nat) (a:Act) (w:World) (h:wpOpIn F n P (opsB i ops) Q (swp i k) K a w):wpOpIn F n P ops Q k K a w:=by
 unfold wpOpIn at h ⊢;cases ho:ops[k]? with
 |none =>
  have hk:ops.size≤k:=by rwa [Array.getElem?_eq_none_iff] at ho
  have:(opsB i ops)[swp i k]?=none:=by
   rw [qpp (by omega) (by omega),Array.getElem?_eq_none_iff,qoH]
   exact hk
  rw [this] at h
  exact h
 |some o =>
  rw [atB hi ho] at h
  have hw:Region.wanted (eB i (swp i k) o) (yielded (opsB i ops) a.tmps)=Region.wanted o (yielded ops a.tmps):=by
   unfold Region.wanted;have e:(eB i (swp i k) o).guard=o.guard:=rfl;rw [e];cases hgd:o.guard with
   |none=>rfl
   |some gb =>
    obtain⟨g,b⟩:=gb;obtain⟨h1,h2⟩:=qo6 hg ho hgd;simp only [qAE hi a.tmps h1 h2]
  simp only [hw] at h
  exact h
theorem simA (i:Nat) (ops:Array Oper) (fuel:Nat) (listed:Array Bool) (a:Act) (w:World) (hs:listed.size=ops.size) (hin:In listed i) (h:wpAnyIn F n P .any (opsA i ops) Q fuel listed a w):wpAnyIn F n P .any ops Q fuel listed a w:=by
 refine qsq (qsV i ops) id (fun _=>rfl) (fun _ h=>h) i (opA i ops) ?_ fuel listed listed a w hs (by rw [qsV,hs]) (fun _=>Iff.rfl) hin h
 intro l l2 h1 h2 h3 h4 k;have h3:∀ k,In l2 k↔In l k:=h3;rw [qcX h1,qcX h2];show _↔∃ o,(opsA i ops)[k]?=some o∧_
 rw [atA];constructor
 ·rintro⟨o,ho,hn,he⟩;refine⟨eA i k o,by rw [ho];rfl,fun h=>hn ((h3 k).1 h),fun e he' hb=>(h3 _).2 ?_⟩
  unfold eA at he';split at he'
  ·simp only [Array.toList_push,List.mem_append,List.mem_singleton] at he';rcases he' with he'|rfl
   ·exact he e he' hb
   ·exact h4
  ·exact he e he' hb
 ·rintro⟨o2,ho2,hn,he⟩;cases ho:ops[k]? with
  |none=>rw [ho] at ho2;cases ho2
  |some o =>
   rw [ho] at ho2;simp only [Option.map_some,Option.some.injEq] at ho2;subst ho2;refine⟨o,rfl,fun h=>hn ((h3 k).2 h),fun e he' hb=>(h3 _).1 (he e ?_ hb)⟩
   unfold eA;split
   ·simp only [Array.toList_push,List.mem_append];exact .inl he'
   ·exact he'
theorem simB {i:Nat} {ops:Array Oper} (hi:i+1 < ops.size) (hg:qit i ops=true) (fuel:Nat) (listed listed2:Array Bool) (a:Act) (w:World) (hs:listed.size=ops.size) (hs2:listed2.size=ops.size) (hin:In listed (i+1)) (hl:∀ k,In listed2 (swp i k)↔In listed k)
  (h:wpAnyIn F n P .any (opsB i ops) Q fuel listed2 a w):wpAnyIn F n P .any ops Q fuel listed a w:=by
 refine qsq (qoH i ops) (swp i) (qsZ i) (fun _ h=>qCg hi h) (i+1) (opB hi hg) ?_ fuel listed listed2 a w hs (by rw [qoH,hs2]) hl hin h
 intro l l2 h1 h2 h3 h4 k;have h5:In l2 i:=by
  have:=(h3 (i+1)).2 h4;simpa [swp] using this
 rw [qcX h1,qcX h2];constructor
 ·rintro⟨o,ho,hn,he⟩;refine⟨_,atB hi ho,fun h=>hn ((h3 k).1 h),fun e he' hb=>?_⟩
  simp only [eB,Array.toList_append,Array.toList_map,List.mem_append,List.mem_map] at he';rcases he' with⟨e0,he0,rfl⟩|he'
  ·exact (h3 _).2 (he e0 he0 hb)
  ·split at he'
   ·simp at he';subst he';exact h5
   ·simp at he'
 ·rintro⟨o2,ho2,hn,he⟩;cases ho:ops[k]? with
  |none =>
   have hk:ops.size≤k:=by rwa [Array.getElem?_eq_none_iff] at ho
   have:(opsB i ops)[swp i k]?=none:=by
    rw [qpp (by omega) (by omega),Array.getElem?_eq_none_iff,qoH]
    exact hk
   rw [this] at ho2;cases ho2
  |some o =>
   rw [atB hi ho] at ho2;cases ho2
   refine⟨o,rfl,fun h=>hn ((h3 k).2 h),fun e he' hb=>(h3 _).1 (he { e with on:=swp i e.on } ?_ hb)⟩
   simp only [eB,Array.toList_append,Array.toList_map,List.mem_append,List.mem_map];exact .inl ⟨e,he',rfl⟩
end
section
variable {P : Program} {tb : Tab} {gl : Gl} {Γ : Gam} {H0 : Gh} {w0 : World} {Q : Exit → Act → World → Prop}
theorem qvb {b:Bool} {ops:List Oper} (hord:qcf b Γ ops=true) {F:Nat→List PV} {S:Nat→Store} {X:Nat→PV} (ht:Trace tb Γ ops ops F S X)
  (hfree:∀ (k i:Nat) (o:Oper),ops[k]?=some o→reads Γ o=true→qc5 b Γ o=false→i≤ops.length→pop tb Γ (F k) (S k) o=some (X k,S (k+1))→pop tb Γ (F k) (S i) o=some (X k,S i))
  {listed:Array Bool} {fr:List PV} {σ:Store} (hI:Inv Γ ops F S listed fr σ) {k:Nat} {o:Oper} (hko:ops[k]?=some o) (hb:k < listed.size) (hn:¬ In listed k) (he:∀ e∈o.after.toList,Region.binds .any e=true→In listed e.on) :
  ∃ x σ',((pwanted ops fr o=some false∧x=.tup []∧σ'=σ)∨(pwanted ops fr o=some true∧pop tb Γ fr σ o=some (x,σ')))∧Inv Γ ops F S (listed.setIfInBounds k true) (pput fr o.dst x) σ':=by
 obtain⟨hsee,hsto⟩:=hI.sees hord hko hn he;have hwan:pwanted ops fr o=pwanted ops (F k) o:=by
  unfold pwanted;cases hg:o.guard with
  |none=>rfl
  |some jb =>
   obtain⟨j,b⟩:=jb;simp only [];cases hd:(ops[j]?).bind (·.dst) with
   |none=>rfl
   |some d =>
    have:fr[d]?=(F k)[d]?:=hsee d (by simp [looks,hg,hd])
    simp only [Option.bind_some,this]
 have hpop:∀ s,pop tb Γ fr s o=pop tb Γ (F k) s o:=by
  intro s;refine qCk fun x hx=>?_
  cases x with
  |tmp t =>
   have:fr[t]?=(F k)[t]?:=hsee t (by
    simp only [looks,List.mem_append,List.mem_filterMap];exact .inl ⟨_,hx,rfl⟩)
   simp only [ev,List.getD_eq_getElem?_getD,this]
  |const v=>rfl
  |global g=>rfl
  |func f=>rfl
 rcases (ht.at_ k o hko).1 with⟨hw,hx,hS⟩|⟨hw,hp⟩
 ·refine⟨.tup [],σ,.inl ⟨hwan.trans hw,rfl,rfl⟩,?_⟩;have:=hI.next hord ht hko hb hn he (σ':=σ) ⟨fun hwr=>?_,fun _=>rfl⟩
  ·rw [hx] at this;exact this
  ·rw [hS];exact hsto (by simp [qc5,hwr])
 ·cases hr:qc5 b Γ o with
  |true =>
   have hs':=hsto hr;have hp':pop tb Γ fr σ o=some (X k,S (k+1)):=by rw [hpop,hs'];exact hp
   refine⟨X k,S (k+1),.inr ⟨hwan.trans hw,hp'⟩,hI.next hord ht hko hb hn he ⟨fun _=>rfl,fun hwf=>?_⟩⟩
   rw [qjb hwf hp,hs']
  |false =>
   have hwf:writes Γ o=false:=by
    cases hwr:writes Γ o with
    |false=>rfl
    |true=>simp [qc5,hwr] at hr
   have hp':pop tb Γ fr σ o=some (X k,σ):=by
    rw [hpop];cases hr0:reads Γ o with
    |false=>exact qsn hr0 hp σ
    |true =>
     obtain⟨i,hi,rfl⟩:=hI.someS hord;exact hfree k i _ hko hr0 hr hi hp
   refine⟨X k,σ,.inr ⟨hwan.trans hw,hp'⟩,hI.next hord ht hko hb hn he ⟨fun h=>?_,fun _=>rfl⟩⟩
   rw [hwf] at h
   cases h
theorem qyd (n i:Nat):¬ In (Array.replicate n false) i:=by
 unfold In;rw [Array.getD_eq_getD_getElem?];by_cases hi:i < n
 ·simp [Array.getElem?_replicate,hi]
 ·simp [Array.getElem?_replicate,hi]
theorem inv0 {ops:List Oper} {F:Nat→List PV} {S:Nat→Store} {X:Nat→PV} (ht:Trace tb Γ ops ops F S X) (n:Nat):Inv Γ ops F S (Array.replicate n false) (F 0) (S 0) :=
 ⟨rfl,fun j o hj=>absurd hj (qyd n j),fun t i hi hlo hhi=>by
  rw [ht.still (i:=0) (j:=i) (Nat.zero_le _) hi (fun k o _ hk ho hd=>qyd n k (hlo k o hk ho hd))],fun i hi hlo hhi=>by
  rw [ht.stillS (i:=0) (j:=i) (Nat.zero_le _) hi (fun k o _ hk ho=>by
   cases hw:writes Γ o with
   |false=>rfl
   |true=>exact absurd (hlo k o hk ho hw) (qyd n k))]⟩
structure Told (tb:Tab) (Γ:Gam) (ops:Array Oper) (b:Bool) (F:Nat→List PV) (S:Nat→Store) (X:Nat→PV):Prop where
 ord:qcf b Γ ops.toList=true
 tr:Trace tb Γ ops.toList ops.toList F S X
 free:∀ (k i:Nat) (o:Oper),ops.toList[k]?=some o→reads Γ o=true→qc5 b Γ o=false→i≤ops.size→pop tb Γ (F k) (S k) o=some (X k,S (k+1))→pop tb Γ (F k) (S i) o=some (X k,S i)
theorem qxr {ops:Array Oper} {fr fr':List PV} {σ σ':Store} (h:pops tb Γ ops.toList ops.toList fr σ=some (fr',σ')) (hd:ordered Γ ops.toList=true∨(qcf true Γ ops.toList=true∧qdT Γ ops.toList fr' σ.objs.length=true)) :
  ∃ b F S X,Told tb Γ ops b F S X∧F 0=fr∧S 0=σ∧F ops.size=fr'∧S ops.size=σ':=by
 obtain⟨F,S,X,hF,hS,hF',hS',ht⟩:=qke _ _ _ _ _ h;rcases hd with h1|⟨h1,h2⟩
 ·exact⟨false,F,S,X,⟨h1,ht,fun k i o hk hr hf=>by
   unfold reads at hr;rw [hf] at hr;cases hr⟩,hF,hS,by simpa using hF',by simpa using hS'⟩
 ·refine⟨true,F,S,X,⟨h1,ht,fun k i o hk hr hf hi hp=>qpe ht ?_ k i o hk hr hf (by simpa using hi) hp⟩,hF,hS,by simpa using hF',by simpa using hS'⟩
  rw [hF',hS];exact h2
theorem qzY (hT:qbF P tb) (hΓ:qa3 P gl Γ) {ops:Array Oper} {i:Nat} (hi:i+1 < ops.size) (hg:qit i ops=true)
  {bA bB:Bool} {FA FB:Nat→List PV} {SA SB:Nat→Store} {XA XB:Nat→PV} (hA:Told tb Γ (opsA i ops) bA FA SA XA) (hB:Told tb Γ (opsB i ops) bB FB SB XB)
  (hqA:∀ a' w',St gl H0 w0 (FA ops.size) (SA ops.size) a' w'→Q .normal a' w') (hqB:∀ a' w',St gl H0 w0 (FB ops.size) (SB ops.size) a' w'→Q .normal a' w') :
  ∀ (fuel:Nat) (listed:Array Bool) (fr:List PV) (σ:Store) (a:Act) (w:World),listed.size=ops.size→listed.toList.count false≤fuel→¬ In listed i→¬ In listed (i+1)→Inv Γ (opsA i ops).toList FA SA listed fr σ→Inv Γ (opsB i ops).toList FB SB listed fr σ→St gl H0 w0 fr σ a w→∀ (r:Option Nat) (n:Nat),wpAnyIn (rnd r) n P .any ops Q fuel listed a w:=by
 have dA:∀ (fuel:Nat) (listed:Array Bool) (fr:List PV) (σ:Store) (a:Act) (w:World),listed.size=ops.size→listed.toList.count false≤fuel→Inv Γ (opsA i ops).toList FA SA listed fr σ→St gl H0 w0 fr σ a w→∀ (r:Option Nat) (n:Nat),wpAnyIn (rnd r) n P .any (opsA i ops) Q fuel listed a w :=
  fun fuel listed fr σ a w hs=>qmu hT hΓ hA.ord hA.tr hA.free (by rw [qsV];exact hqA) fuel listed fr σ a w (by rw [qsV];exact hs)
 have dB:∀ (fuel:Nat) (listed:Array Bool) (fr:List PV) (σ:Store) (a:Act) (w:World),listed.size=ops.size→listed.toList.count false≤fuel→Inv Γ (opsB i ops).toList FB SB listed fr σ→St gl H0 w0 fr σ a w→∀ (r:Option Nat) (n:Nat),wpAnyIn (rnd r) n P .any (opsB i ops) Q fuel listed a w :=
  fun fuel listed fr σ a w hs=>qmu hT hΓ hB.ord hB.tr hB.free (by rw [qoH];exact hqB) fuel listed fr σ a w (by rw [qoH];exact hs)
 have hl0:∀ listed:Array Bool,¬ In listed i→¬ In listed (i+1)→∀ k,In listed (swp i k)↔In listed k:=by
  intro listed h1 h2 k;by_cases e1:k=i
  ·subst e1;simp [swp,h1,h2]
  ·by_cases e2:k=i+1
   ·subst e2;simp [swp,h1,h2]
   ·rw [qpp e1 e2]
 intro fuel
 induction fuel with
 |zero =>
  intro listed fr σ a w hs hc h1 h2 hIA hIB hst;have hb:i < listed.size:=by omega
  have h0:false∉listed.toList:=List.count_eq_zero.1 (by omega)
  unfold In at h1;rw [Array.getD_eq_getD_getElem?,Array.getElem?_eq_getElem hb] at h1;cases hl:listed[i] with
  |true=>simp [hl] at h1
  |false=>exact absurd (by rw [← hl];simp) h0
 |succ fuel ih =>
  intro listed fr σ a w hs hc h1 h2 hIA hIB hst r n;have wA:=dA (fuel+1) listed fr σ a w hs hc hIA hst r n;have wB:=dB (fuel+1) listed fr σ a w hs hc hIB hst r n;have hsub:∀ k,k∈Region.ready .any (opsA i ops) listed→k∈Region.ready .any ops listed:=by
   intro k hk;rw [qcX (by rw [qsV];exact hs)] at hk
   obtain⟨o2,ho2,hn,he⟩:=hk;rw [atA] at ho2;cases ho:ops[k]? with
   |none=>rw [ho] at ho2;cases ho2
   |some o =>
    rw [ho] at ho2;simp only [Option.map_some,Option.some.injEq] at ho2;subst ho2;refine (qcX hs).2 ⟨o,ho,hn,fun e he' hb=>he e ?_ hb⟩
    unfold eA;split
    ·simp only [Array.toList_push,List.mem_append];exact .inl he'
    ·exact he'
  refine⟨fun hnil=>wA.1 (List.eq_nil_iff_forall_not_mem.2 fun k hk=>?_),fun k hk=>?_⟩
  ·have:=hsub k hk;rw [hnil] at this;cases this
  obtain⟨o,ho,hn,he⟩:=(qcX hs).1 hk;have hkl:k < ops.size:=(Array.getElem?_eq_some_iff.1 ho).1;by_cases e1:k=i
  ·subst e1;have hrA:k∈Region.ready .any (opsA k ops) listed:=by
    rw [qcX (by rw [qsV];exact hs),atA,ho]
    refine⟨_,rfl,hn,fun e he' hb=>he e ?_ hb⟩
    unfold eA at he';rw [if_neg (by omega)] at he'
    exact he'
   exact opA k ops _ k a w (wpOpIn_mono (fun a' w' h'=>simA k ops fuel _ a' w' (by simp [hs]) ((qdm (by omega)).2 (.inl rfl)) h') (wA.2 k hrA))
  by_cases e2:k=i+1
  ·subst e2;have hat:=atB hi ho;have hsw:swp i (i+1)=i:=by simp [swp]
   rw [hsw] at hat;have hrB:i∈Region.ready .any (opsB i ops) listed:=by
    rw [qcX (by rw [qoH];exact hs)]
    refine⟨_,hat,h1,fun e he' hb=>?_⟩
    simp only [eB,Array.toList_append,Array.toList_map,List.mem_append,List.mem_map] at he';rcases he' with⟨e0,he0,rfl⟩|he'
    ·exact (hl0 listed h1 h2 _).2 (he e0 he0 hb)
    ·rw [if_neg (by omega)] at he'
     simp at he'
   refine opB hi hg _ (i+1) a w ?_;rw [hsw];refine wpOpIn_mono (fun a' w' h'=>simB hi hg fuel _ _ a' w' (by simp [hs]) (by simp [hs]) ((qdm (by omega)).2 (.inl rfl)) (fun m=>?_) h') (wB.2 i hrB)
   rw [qdm (by omega),qdm (by omega),hl0 listed h1 h2]
   constructor
   ·rintro (h|h)
    ·exact .inl (by rw [← qsZ i m,h];simp [swp])
    ·exact .inr h
   ·rintro (rfl|h)
    ·exact .inl hsw
    ·exact .inr h
  -- another one
  have hoA:(opsA i ops).toList[k]?=some o:=by
   rw [Array.getElem?_toList,atA,ho];simp only [Option.map_some,eA,if_neg e2]
  have hoB:(opsB i ops).toList[k]?=some (eB i k o):=by
   rw [Array.getElem?_toList];have:=atB hi ho
   rwa [qpp e1 e2] at this
  obtain⟨xA,σA,hcA,hIA'⟩:=qvb hA.ord hA.tr (by simpa using hA.free) hIA hoA (by omega) hn he
  obtain⟨xB,σB,hcB,hIB'⟩:=qvb hB.ord hB.tr (by simpa using hB.free) hIB hoB (by omega) hn (fun e he' hb=>by
   simp only [eB,Array.toList_append,Array.toList_map,List.mem_append,List.mem_map] at he';rcases he' with⟨e0,he0,rfl⟩|he'
   ·exact (hl0 listed h1 h2 _).2 (he e0 he0 hb)
   ·rw [if_neg e2] at he';simp at he')
  have hwA:pwanted (opsA i ops).toList fr o=pwanted ops.toList fr o:=by
   unfold pwanted;cases hgd:o.guard with
   |none=>rfl
   |some gb =>
    obtain⟨g,b⟩:=gb;simp only [];have:((opsA i ops).toList[g]?).bind (·.dst)=(ops.toList[g]?).bind (·.dst):=by
     rw [Array.getElem?_toList,Array.getElem?_toList,atA];cases ops[g]? with
     |none=>rfl
     |some y =>
      obtain⟨z,hz⟩:=qDb i g y;simp only [Option.map_some,Option.bind_some,hz]
    rw [this]
  have hwB:pwanted (opsB i ops).toList fr (eB i k o)=pwanted ops.toList fr o:=by
   unfold pwanted;have e:(eB i k o).guard=o.guard:=rfl;rw [e];cases hgd:o.guard with
   |none=>rfl
   |some gb =>
    obtain⟨g,b⟩:=gb;obtain⟨g1,g2⟩:=qo6 hg ho hgd;simp only [];have:((opsB i ops).toList[g]?).bind (·.dst)=(ops.toList[g]?).bind (·.dst):=by
     rw [Array.getElem?_toList,Array.getElem?_toList];cases hx:ops[g]? with
     |none =>
      have:(opsB i ops)[g]?=none:=by
       rw [Array.getElem?_eq_none_iff] at hx ⊢;rw [qoH];exact hx
      rw [this]
     |some y =>
      have:=atB hi hx;rw [qpp g1 g2] at this;rw [this];rfl
    rw [this]
  have hpB:pop tb Γ fr σ (eB i k o)=pop tb Γ fr σ o:=rfl;have hdB:(eB i k o).dst=o.dst:=rfl;rw [hwA] at hcA;rw [hwB,hpB] at hcB;rw [hdB] at hIB';have hcount:(listed.setIfInBounds k true).toList.count false≤fuel:=by
   have hlk:listed[k]?=some false:=by
    have hb:k < listed.size:=by omega
    unfold In at hn;rw [Array.getD_eq_getD_getElem?,Array.getElem?_eq_getElem hb] at hn;rw [Array.getElem?_eq_getElem hb];simpa using hn
   have:=qse listed.toList k (by rw [Array.getElem?_toList];exact hlk)
   simp only [Array.toList_setIfInBounds];omega
  have hsize:(listed.setIfInBounds k true).size=ops.size:=by simp [hs]
  have n1:¬ In (listed.setIfInBounds k true) i:=by
   rw [qdm (by omega)]
   rintro (h|h)
   ·exact e1 h.symm
   ·exact h1 h
  have n2:¬ In (listed.setIfInBounds k true) (i+1):=by
   rw [qdm (by omega)]
   rintro (h|h)
   ·exact e2 h.symm
   ·exact h2 h
  unfold wpOpIn;simp only [ho];rcases hcA with⟨hw,rfl,rfl⟩|⟨hw,hp⟩
  ·rcases hcB with⟨_,rfl,rfl⟩|⟨hw',_⟩
   ·have hwn:=qfA hst hw;simp only [hwn];exact⟨fun _ _=>trivial,ih _ _ _ _ _ hsize hcount n1 n2 hIA' hIB' (qtv hst _) r n⟩
   ·rw [hw] at hw';cases hw'
  ·rcases hcB with⟨hw',_⟩|⟨_,hp'⟩
   ·rw [hw] at hw';cases hw'
   ·rw [hp] at hp';simp only [Option.some.injEq,Prod.mk.injEq] at hp';obtain⟨rfl,rfl⟩:=hp';have hwn:=qfA hst hw;simp only [hwn,if_true];exact qp0 hT hΓ hst hp (fun a' w' hst'=>ih _ _ _ _ _ hsize hcount n1 n2 hIA' hIB' hst' r n) r n
theorem qqB (hT:qbF P tb) (hΓ:qa3 P gl Γ) (hm:P.follows .mixedOrders=true) {id i:Nat} {ops:Array Oper} (hi:i+1 < ops.size) (hg:qit i ops=true) {fr frA frB:List PV} {σ σA σB:Store} {a:Act} {w:World} (hst:St gl H0 w0 fr σ a w)
  (hA:pops tb Γ (opsA i ops).toList (opsA i ops).toList fr σ=some (frA,σA)) (hdA:ordered Γ (opsA i ops).toList=true∨(qcf true Γ (opsA i ops).toList=true∧qdT Γ (opsA i ops).toList frA σ.objs.length=true))
  (hB:pops tb Γ (opsB i ops).toList (opsB i ops).toList fr σ=some (frB,σB)) (hdB:ordered Γ (opsB i ops).toList=true∨(qcf true Γ (opsB i ops).toList=true∧qdT Γ (opsB i ops).toList frB σ.objs.length=true))
  (hqA:∀ a' w',St gl H0 w0 frA σA a' w'→Q .normal a' w') (hqB:∀ a' w',St gl H0 w0 frB σB a' w'→Q .normal a' w') (r:Option Nat) (n:Nat):(Code.region id ops true).wpIn (rnd r) n P Q a w:=by
 refine wpIn_region_any hm ?_;obtain⟨bA,FA,SA,XA,tA,hFA,hSA,hFA',hSA'⟩:=qxr hA hdA;obtain⟨bB,FB,SB,XB,tB,hFB,hSB,hFB',hSB'⟩:=qxr hB hdB;rw [qsV] at hFA' hSA';rw [qoH] at hFB' hSB';have iA:=inv0 tA.tr ops.size;have iB:=inv0 tB.tr ops.size;rw [hFA,hSA] at iA;rw [hFB,hSB] at iB;exact qzY hT hΓ hi hg tA tB (by rw [hFA',hSA'];exact hqA) (by rw [hFB',hSB'];exact hqB) ops.size _ fr σ _ _ (by simp) (Nat.le_trans List.count_le_length (by simp)) (qyd _ _) (qyd _ _) iA iB (qyt hst) r n
end
def hasR (id:Nat):Code→Bool
 |.region id' _ draw=>Nat.beq id' id&&draw
 |.seq x y=>hasR id x || hasR id y
 |_=>false
def qg8 (id i:Nat) (b:Bool):Code→Code
 |.region id' ops draw=>match Nat.beq id' id&&draw with
  |true=>.region id' (match b with|true=>opsB i ops|false=>opsA i ops) draw
  |false=>.region id' ops draw
 |.seq x y=>match hasR id x with
  |true=>.seq (qg8 id i b x) y
  |false=>.seq x (qg8 id i b y)
 |c=>c
def qo8 (id i:Nat):Code→Bool
 |.region id' ops draw=>!(Nat.beq id' id&&draw) || (Nat.blt (i+1) ops.size&&qit i ops)
 |.seq x y=>qo8 id i x&&qo8 id i y
 |_=>true
def qwu (id i:Nat) (b:Bool) (fn:Func):Func:={ fn with body:=fn.body.map (qg8 id i b) }
section
variable {P : Program} {tb : Tab} {gl : Gl} {Γ : Gam}
def qCv (P:Program) (gl:Gl) (c:Code) (fr:List PV) (σ:Store) (O:PExit→List PV→Store→Prop):Prop :=
 ∀ (r:Option Nat) (n:Nat) (H0:Gh) (w0:World),RIn r H0→∀ (Q:Exit→Act→World→Prop) (a:Act) (w:World),St gl H0 w0 fr σ a w→(∀ e fr' σ',O e fr' σ'→∀ a' w',St gl H0 w0 fr' σ' a' w'→Q e.as a' w')→c.wpIn (rnd r) n P Q a w
theorem Does.all {c:Code} {fr:List PV} {σ:Store} {e:PExit} {fr':List PV} {σ':Store} {O:PExit→List PV→Store→Prop} (h:Does P gl c fr σ e fr' σ') (ho:O e fr' σ'):qCv P gl c fr σ O :=
 fun r n H0 w0 hR Q a w hst hq=>h r n H0 w0 hR Q a w hst (hq _ _ _ ho)
theorem qCh {ops:Array Oper} {fr fr1:List PV} {σ σ1:Store} {id:Nat} {e:PExit} {fr':List PV} {σ':Store} (hd:qbo Γ (.region id ops true)=true) {L:Lps} (h:pexec tb Γ L (.region id ops true) fr σ=some (e,fr',σ')) :
  e=.normal∧pops tb Γ ops.toList ops.toList fr σ=some (fr',σ')∧(ordered Γ ops.toList=true∨(qcf true Γ ops.toList=true∧qdT Γ ops.toList fr' σ.objs.length=true)):=by
 simp only [pexec] at h
 split at h
 ·rename_i fr1 σ1 hp;split at h
  ·cases h
  rename_i hna;simp only [Option.some.injEq,Prod.mk.injEq] at h
  obtain⟨rfl,rfl,rfl⟩:=h;refine⟨rfl,hp,?_⟩;simp only [qbo,Bool.not_true,Bool.false_or,Bool.or_eq_true,Bool.and_eq_true] at hd;rcases hd with hd|⟨hd1,hd2⟩
  ·exact .inl hd
  ·cases ho:ordered Γ ops.toList with
   |true=>exact .inl rfl
   |false =>
    refine .inr ⟨hd2,?_⟩;cases hal:qdT Γ ops.toList fr1 σ.objs.length with
    |true=>rfl
    |false=>simp [qyy,hd1,ho,hal] at hna
 ·cases h
theorem qkH (hT:qbF P tb) (hΓ:qa3 P gl Γ) (hm:P.follows .mixedOrders=true) {L:Lps} {id i:Nat} {O:PExit→List PV→Store→Prop}:∀ (c:Code) (fr:List PV) (σ:Store) (eA:PExit) (frA:List PV) (σA:Store) (eB:PExit) (frB:List PV) (σB:Store),
  qo8 id i c=true→qb2 P gl L c→qbo Γ (qg8 id i false c)=true→qbo Γ (qg8 id i true c)=true→pexec tb Γ L (qg8 id i false c) fr σ=some (eA,frA,σA)→pexec tb Γ L (qg8 id i true c) fr σ=some (eB,frB,σB)→O eA frA σA→O eB frB σB→qCv P gl c fr σ O
 |.region id' ops draw,fr,σ,eA,frA,σA,eB,frB,σB,hp,hL,hdA,hdB,hA,hB,oA,oB=>by
  cases hid:Nat.beq id' id&&draw with
  |false =>
   simp only [qg8,hid] at hdA hA;exact (qbk hT hΓ hm _ fr σ eA frA σA hL hdA hA).all oA
  |true =>
   have hdr:draw=true:=by
    cases draw with
    |true=>rfl
    |false=>simp at hid
   subst hdr;simp only [qg8,hid] at hdA hdB hA hB;simp only [qo8,hid,Bool.not_true,Bool.false_or,Bool.and_eq_true] at hp;obtain⟨rfl,a1,a2⟩:=qCh (fr1:=fr) (σ1:=σ) hdA hA;obtain⟨rfl,b1,b2⟩:=qCh (fr1:=fr) (σ1:=σ) hdB hB;intro r n H0 w0 hR Q a w hst hq;exact qqB hT hΓ hm (by simpa [Nat.blt_eq] using hp.1) hp.2 hst a1 a2 b1 b2 (hq _ _ _ oA) (hq _ _ _ oB) r n
 |.seq x y,fr,σ,eA,frA,σA,eB,frB,σB,hp,hL,hdA,hdB,hA,hB,oA,oB=>by
  simp only [qo8,Bool.and_eq_true] at hp;cases hx:hasR id x with
  |true =>
   simp only [qg8,hx,qbo,Bool.and_eq_true] at hdA hdB;simp only [qg8,hx,pexec] at hA hB;intro r n H0 w0 hR Q a w hst hq;refine wpIn_seq ?_
   -- behind the first part: the second,or out
   have key:∀ (b:Bool) (eX:PExit) (frX:List PV) (σX:Store),(match pexec tb Γ L (qg8 id i b x) fr σ with|some (.normal,fr',σ')=>pexec tb Γ L y fr' σ'|r=>r)=some (eX,frX,σX)→O eX frX σX →
     ∃ e1 fr1 σ1,pexec tb Γ L (qg8 id i b x) fr σ=some (e1,fr1,σ1)∧∀ a1 w1,St gl H0 w0 fr1 σ1 a1 w1→(match e1.as with|.normal=>y.wpIn (rnd r) n P Q a1 w1|e=>Q e a1 w1):=by
    intro b eX frX σX h ho;split at h
    ·rename_i fr1 σ1 hx1;exact⟨.normal,fr1,σ1,hx1,fun a1 w1 hst1=>qbk hT hΓ hm y fr1 σ1 eX frX σX hL.2 hdA.2 h r n H0 w0 hR _ _ _ hst1 (hq _ _ _ ho)⟩
    ·rename_i hne;refine⟨eX,frX,σX,h,fun a1 w1 hst1=>?_⟩
     cases eX with
     |normal=>exact absurd h (hne _ _)
     |exit id=>exact hq _ _ _ ho _ _ hst1
     |ret=>exact hq _ _ _ ho _ _ hst1
   obtain⟨e1,f1,s1,p1,k1⟩:=key false _ _ _ hA oA;obtain⟨e2,f2,s2,p2,k2⟩:=key true _ _ _ hB oB;refine qkH hT hΓ hm (O:=fun e f s=>(e,f,s)=(e1,f1,s1)∨(e,f,s)=(e2,f2,s2)) x fr σ _ _ _ _ _ _ hp.1 hL.1 hdA.1 hdB.1 p1 p2 (.inl rfl) (.inr rfl) r n H0 w0 hR _ a w hst ?_
   rintro e f s (h|h) a1 w1 hst1
   ·cases h
    have:=k1 a1 w1 hst1;cases e1<;>exact this
   ·cases h
    have:=k2 a1 w1 hst1;cases e2<;>exact this
  |false =>
   simp only [qg8,hx,qbo,Bool.and_eq_true] at hdA hdB;simp only [qg8,hx,pexec] at hA hB;intro r n H0 w0 hR Q a w hst hq;refine wpIn_seq ?_;cases hx1:pexec tb Γ L x fr σ with
   |none=>rw [hx1] at hA;cases hA
   |some t =>
    obtain⟨e1,f1,s1⟩:=t;refine qbk hT hΓ hm x fr σ e1 f1 s1 hL.1 hdA.1 hx1 r n H0 w0 hR _ a w hst fun a1 w1 hst1=>?_
    rw [hx1] at hA hB;cases e1 with
    |normal=>exact qkH hT hΓ hm (O:=O) y f1 s1 _ _ _ _ _ _ hp.2 hL.2 hdA.2 hdB.2 hA hB oA oB r n H0 w0 hR Q a1 w1 hst1 hq
    |exit id =>
     simp only [Option.some.injEq,Prod.mk.injEq] at hA;obtain⟨rfl,rfl,rfl⟩:=hA;exact hq _ _ _ oA _ _ hst1
    |ret =>
     simp only [Option.some.injEq,Prod.mk.injEq] at hA;obtain⟨rfl,rfl,rfl⟩:=hA;exact hq _ _ _ oA _ _ hst1
 |.skip,fr,σ,eA,frA,σA,eB,frB,σB,hp,hL,hdA,hdB,hA,hB,oA,oB=>(qbk hT hΓ hm _ fr σ eA frA σA hL hdA hA).all oA
 |.label _,fr,σ,eA,frA,σA,eB,frB,σB,hp,hL,hdA,hdB,hA,hB,oA,oB=>(qbk hT hΓ hm _ fr σ eA frA σA hL hdA hA).all oA
 |.cond _ _ _,fr,σ,eA,frA,σA,eB,frB,σB,hp,hL,hdA,hdB,hA,hB,oA,oB=>(qbk hT hΓ hm _ fr σ eA frA σA hL hdA hA).all oA
 |.block _ _,fr,σ,eA,frA,σA,eB,frB,σB,hp,hL,hdA,hdB,hA,hB,oA,oB=>(qbk hT hΓ hm _ fr σ eA frA σA hL hdA hA).all oA
 |.loop _,fr,σ,eA,frA,σA,eB,frB,σB,hp,hL,hdA,hdB,hA,hB,oA,oB=>(qbk hT hΓ hm _ fr σ eA frA σA hL hdA hA).all oA
 |.scope _,fr,σ,eA,frA,σA,eB,frB,σB,hp,hL,hdA,hdB,hA,hB,oA,oB=>(qbk hT hΓ hm _ fr σ eA frA σA hL hdA hA).all oA
 |.exit _,fr,σ,eA,frA,σA,eB,frB,σB,hp,hL,hdA,hdB,hA,hB,oA,oB=>(qbk hT hΓ hm _ fr σ eA frA σA hL hdA hA).all oA
 |.rangeFunc _ _ _ _,fr,σ,eA,frA,σA,eB,frB,σB,hp,hL,hdA,hdB,hA,hB,oA,oB=>(qbk hT hΓ hm _ fr σ eA frA σA hL hdA hA).all oA
 |.goto _,fr,σ,eA,frA,σA,eB,frB,σB,hp,hL,hdA,hdB,hA,hB,oA,oB=>(qbk hT hΓ hm _ fr σ eA frA σA hL hdA hA).all oA
 |.refuse _,fr,σ,eA,frA,σA,eB,frB,σB,hp,hL,hdA,hdB,hA,hB,oA,oB=>(qbk hT hΓ hm _ fr σ eA frA σA hL hdA hA).all oA
 |.ret,fr,σ,eA,frA,σA,eB,frB,σB,hp,hL,hdA,hdB,hA,hB,oA,oB=>(qbk hT hΓ hm _ fr σ eA frA σA hL hdA hA).all oA
theorem SimP.of_doesO (hT : qbF P tb) {f : FuncId} {fn : Func} {c : Code} (hf : P.funcs[f]? = some fn) (hb : fn.body = some c) (hn : (fn.name == "runtime.NumGoroutine") = false)
  {F:List PV→Option PV} (h:∀ args x,F args=some x→(∃ H w vs,RelL H w args vs)→∃ O:PExit→List PV→Store→Prop,qCv P gl c (args++List.replicate (fn.ntmps - args.length) .top) ⟨[],[],[]⟩ O ∧
   ∀ e fr σ,O e fr σ→(e=.normal∨e=.ret)∧∃ xs,presults tb fr σ fn.results.toList=some xs∧pout (xs.map (oview σ.objs))=x):SimP P gl f F where
 ent:=⟨fn,hf,hn,by simp [hb]⟩
 run:=by
  intro args x hx H w vs hB hob htk hgl hrel;obtain⟨O,hdo,hO⟩:=h args x hx ⟨H,w,vs,hrel⟩;refine qmI (r:=none) (n:=0) (callsIn_of_wp_marks hf hb trivial ?_);have hst:St gl { H with K:=w.heap.size } w (args++List.replicate (fn.ntmps - args.length) .top) ⟨[],[],[]⟩ { tmps:=vs.toArray++Array.replicate (fn.ntmps - vs.toArray.size) undef,defers:=[] } w:=by
   refine⟨{ H with K:=w.heap.size },Ev.refl _ w,⟨by show H.B≤_;rw [hB];exact Nat.le_refl _,fun b o e=>⟨by show b < H.B;rw [hB];exact qaj (hgl b o e),hgl b o e⟩,by simp [hob],fun id b cs e=>by simp [hob] at e,fun i j b e=>by simp [hob] at e,by simp [htk],fun t T e=>by simp [htk] at e,fun t u T U e=>by simp [htk] at e,rfl,fun id b T cs e=>by simp [hob] at e⟩,?_,Marks.nil (Nat.le_refl _)⟩
   have hl:=hrel.len;have e:(vs.toArray++Array.replicate (fn.ntmps - vs.toArray.size) undef).toList=vs++List.replicate (fn.ntmps - args.length) undef:=by simp [hl]
   rw [e];refine (hrel.mono (Mono.setK' H w _)).app ?_;have:=RelL.tops (H:={ H with K:=w.heap.size }) (w:=w) (List.replicate (fn.ntmps - args.length) undef)
   simpa using this
  have fin:∀ (fr:List PV) (σ:Store) (a:Act) (w':World) (xs:List PV),St gl { H with K:=w.heap.size } w fr σ a w'→presults tb fr σ fn.results.toList=some xs→pout (xs.map (oview σ.objs))=x →
    LeavesInM (rnd none) 0 P fn a.tmps (fun e w'=>∃ v,e=.returned v∧(Below w.heap.size w w'∧Dr gl w w')∧Rel { H with aux:=fun _ _=>False } w' x v) a.defers .returning w':=by
   intro fr σ a w1 xs hst hxs hx;obtain⟨H',hev1,hok1,hfr1,_,Ds,hds,hnd,hD⟩:=hst;rw [hds];refine qeT (gl:=gl) (H:={ H with K:=w.heap.size }) (H':=H') (w0:=w) (σ:=σ) (by show H.B≤_;rw [hB];exact Nat.le_refl _) hev1.B Ds w1 hev1 hok1 (Ev.refl (gl:=gl) H' w1).mono hnd (fun D hDs=>by have h1:=hD D hDs;rw [hev1.K] at h1;exact h1) ?_
   intro w' hev hok hmo;have hfr:=hfr1.mono hmo;obtain⟨vs',hvs,hrs⟩:=qgJ hT hok hfr _ _ hxs;have hbel:Below w.heap.size w w':=⟨hev.os,hev.tape,hev.output,hev.size,fun b hlt=>hev.block b (by show b < H.B;rw [hB];exact hlt)⟩
   have hrun:(results fn a.tmps).run P w'=.ok (if h:vs'.toArray.size=1 then vs'.toArray[0] else .tuple vs'.toArray) w':=by
    rw [qkT];simp only [Sem.run_bind,hvs,Result.andThen_ok,Sem.run_pure]
   have back:∀ {y:PV} {u:Value},Rel { { H with K:=w.heap.size } with aux:=fun _ _=>False } w' y u→Rel { H with aux:=fun _ _=>False } w' y u:=fun h=>Rel.mono (Mono.setK { H with aux:=fun _ _=>False } w' w.heap.size) h
   have backL:∀ {y:List PV} {u:List Value},RelL { { H with K:=w.heap.size } with aux:=fun _ _=>False } w' y u→RelL { H with aux:=fun _ _=>False } w' y u:=fun h=>RelL.mono (Mono.setK { H with aux:=fun _ _=>False } w' w.heap.size) h
   refine⟨_,hrun,_,rfl,⟨hbel,hev.dr⟩,?_⟩;subst hx;have hl:=hrs.len;cases hrs with
   |nil =>
    simp only [List.map_nil,pout,qes];exact .tup [] [] .nil
   |cons y v ys us hy hys =>
    cases hys with
    |nil=>exact back (qmz hev hok hob htk hy)
    |cons y2 v2 ys us hy2 hys =>
     have h1:¬ ((v::v2::us).toArray.size=1):=by simp
     rw [dif_neg h1];exact .tup _ _ (backL (qkL hev hok hob htk (.cons _ _ _ _ hy (.cons _ _ _ _ hy2 hys))))
  refine hdo none 0 _ w (RIn.none _) _ _ _ hst fun e fr1 σ1 ho a' w' hst'=>?_
  obtain⟨he,xs,hxs,hpo⟩:=hO e fr1 σ1 ho;rcases he with rfl|rfl
  ·exact fin fr1 σ1 a' w' xs hst' hxs hpo
  ·exact fin fr1 σ1 a' w' xs hst' hxs hpo
theorem qoR {L:Lps} {fn:Func} {c:Code} (hb:fn.body=some c) {args:List PV} {x:PV} (h:pcall tb Γ L fn args=some x):∃ e fr σ,pexec tb Γ L c (args++List.replicate (fn.ntmps - args.length) .top) ⟨[],[],[]⟩=some (e,fr,σ)∧(e=.normal∨e=.ret)∧∃ xs,presults tb fr σ fn.results.toList=some xs∧pout (xs.map (oview σ.objs))=x:=by
 simp only [pcall,hb] at h
 split at h
 ·rename_i fr σ he;obtain⟨xs,hxs,hpo⟩:=qbg h;exact⟨.normal,fr,σ,he,.inl rfl,xs,hxs,hpo⟩
 ·rename_i fr σ he;obtain⟨xs,hxs,hpo⟩:=qbg h;exact⟨.ret,fr,σ,he,.inr rfl,xs,hxs,hpo⟩
 ·cases h
theorem SimP.of_swap {G : GamT} (hT : qbF P tb) (hΓ : qa3 P gl (gam G)) (hm : P.follows .mixedOrders = true) (id i : Nat) {f : FuncId} {fn : Func} {c : Code} (hf : P.funcs[f]? = some fn) (hb : fn.body = some c) (hn : (fn.name == "runtime.NumGoroutine") = false)
  (hp:qo8 id i c=true) (hdA:qbo (gam G) (qg8 id i false c)=true) (hdB:qbo (gam G) (qg8 id i true c)=true) {L:LpsT} (hL:qb2 P gl (lps L) c) {F:List PV→Tr PV}
  (h:∀ args x,(F args).run=some x→(tcall tb G L (qwu id i false fn) args).flat.run=some x∧(tcall tb G L (qwu id i true fn) args).flat.run=some x):SimP P gl f fun args=>(F args).run:=by
 refine SimP.of_doesO hT hf hb hn fun args x hx _=>?_
 obtain⟨hA,hB⟩:=h args x hx;have bd:∀ b,(qwu id i b fn).body=some (qg8 id i b c):=fun b=>by simp [qwu,hb]
 obtain⟨eA,frA,σA,pA,qA⟩:=qoR (bd false) (qon (Tr.flat_run hA));obtain⟨eB,frB,σB,pB,qB⟩:=qoR (bd true) (qon (Tr.flat_run hB));refine⟨fun e fr σ=>(e=.normal∨e=.ret)∧∃ xs,presults tb fr σ fn.results.toList=some xs∧pout (xs.map (oview σ.objs))=x,?_,fun _ _ _ h=>h⟩
 exact qkH hT hΓ hm c _ _ eA frA σA eB frB σB hp hL hdA hdB pA pB qA qB
end
end Go.Pv
set_option maxHeartbeats 4000000
set_option maxRecDepth 200000
set_option linter.unusedSimpArgs false
set_option linter.unusedVariables false
namespace Go.Pv
open Go Go.Proofs
def qp9:GamT:=ofL [(18,.pure qk6),(20,.pure qr1),(26,.pure qqH),(30,.pure qAJ)]
theorem qzX (gl:Gl) (hg:GlLex gl):qa3 Tryz.prog gl (gam qp9):=(qad (qj0 gl hg) (qad (qrb gl hg) (qad (qrU gl hg) (qad (qyv gl hg) qag))))
def qtd:LpsT:=fun r fr σ=>.fail
def qlX:Tr PV:=.ite (qcW [112] [[.int .i64 1,.str [88],.int .i64 0,.int .i64 0,.str []]] [[.int .i64 2,.str [113],.sl [[.int .i64 1,.str [88],.int .i64 0,.int .i64 0,.str []],[.int .i64 3,.str [],.int .i64 0,.int .i64 0,.str []]] .non,.int .i64 0,.int .i64 0,.str [],.int .i64 0,.int .i64 0,.str [],.int .i64 0,.str [],.int .i64 0,.int .i64 0,.str []],[.int .i64 3,.str [],.sl [] .non,.int .i64 2,.int .i64 1,.str [88],.int .i64 0,.int .i64 0,.str [],.int .i64 2,.str [],.int .i64 1,.int .i64 (-3),.str []]]) (.ite (qft [103,111] [[.str [88],.int .i64 1]] [[.bool true,.str [112],.sl [[.int .i64 1,.str [88],.int .i64 0,.int .i64 0,.str []]] .non]]) (.ite (iEq (qeD [112] [[.int .i64 1,.str [88],.int .i64 0,.int .i64 0,.str []]] [[.int .i64 2,.str [113],.sl [[.int .i64 1,.str [88],.int .i64 0,.int .i64 0,.str []],[.int .i64 3,.str [],.int .i64 0,.int .i64 0,.str []]] .non,.int .i64 0,.int .i64 0,.str [],.int .i64 0,.int .i64 0,.str [],.int .i64 0,.str [],.int .i64 0,.int .i64 0,.str []],[.int .i64 3,.str [],.sl [] .non,.int .i64 2,.int .i64 1,.str [88],.int .i64 0,.int .i64 0,.str [],.int .i64 2,.str [],.int .i64 1,.int .i64 (-3),.str []]]) 0) (.ite (sEq (qby [112] [[.int .i64 1,.str [88],.int .i64 0,.int .i64 0,.str []]] [[.int .i64 2,.str [113],.sl [[.int .i64 1,.str [88],.int .i64 0,.int .i64 0,.str []],[.int .i64 3,.str [],.int .i64 0,.int .i64 0,.str []]] .non,.int .i64 0,.int .i64 0,.str [],.int .i64 0,.int .i64 0,.str [],.int .i64 0,.str [],.int .i64 0,.int .i64 0,.str []],[.int .i64 3,.str [],.sl [] .non,.int .i64 2,.int .i64 1,.str [88],.int .i64 0,.int .i64 0,.str [],.int .i64 2,.str [],.int .i64 1,.int .i64 (-3),.str []]]) [112,40,88,41,32,58,45,32,110,111,116,32,113,40,88,44,32,95,41,44,32,88,32,33,61,32,45,51,46]) (.ite (iEq (qiQ [103,111] [[.str [88],.int .i64 1]] [[.bool true,.str [112],.sl [[.int .i64 1,.str [88],.int .i64 0,.int .i64 0,.str []]] .non]]) 0) (.ite (sEq
 (qdo [103,111] [[.str [88],.int .i64 1]] [[.bool true,.str [112],.sl [[.int .i64 1,.str [88],.int .i64 0,.int .i64 0,.str []]] .non]]) [111,110,32,103,111,40,88,32,105,110,116,41,58,32,43,112,40,88,41,46]) (.ite (qcC [110,111,116]) (.ite (bNot (qdS [110,111,116])) (.ite (qfr [65,98]) (.ret (.bool (qjH [65,98]))) .fail) (.ret (.bool false))) .fail) (.ret (.bool false))) (.ret (.bool false))) (.ret (.bool false))) (.ret (.bool false))) .fail) .fail
theorem qDH:(tcall tbT qp9 qtd (qwu 2 7 false Tryz.f22) []).flat=qlX:=by kernel_rfl
theorem qAt:(tcall tbT qp9 qtd (qwu 2 7 true Tryz.f22) []).flat=qlX:=by kernel_rfl
def qpU:Option PV:=(qlX).run
def qle:Bool:=(qbU (gVal (qpU)))
def qkf:Bool:=isW (qpU) (.bool (qle))
def qts:List PV→Tr PV|[]=>.ite (qkf) (.ret (.bool (qle))) (.fail)|_=>.fail
theorem qz4 (gl:Gl) (hg:GlLex gl):SimP Tryz.prog gl 22 fun args=>(qts args).run:=by
 refine SimP.of_swap (G:=qp9) (L:=qtd) qav (qzX gl hg ) qai 2 7 Tryz.func22 rfl (by rfl) (by kernel_rfl) (by kernel_rfl) (by kernel_rfl) (qae (by kernel_rfl)) ?_
 intro args x h;unfold qts at h
 split at h
 ·have h:=(qah h fun h=>by cases h)
  exact⟨(congrArg Tr.run (qDH)).trans h,(congrArg Tr.run (qAt)).trans h⟩
 ·cases h
def qp5:GamT:=ofL [(22,.pure qts),(23,.pure qsN),(24,.pure qsU),(25,.pure qCZ),(26,.pure qqH),(28,.pure qsR),(30,.pure qAJ),(32,.pure qpY),(33,.pure qqt),(34,.pure qqP)]
theorem qwn (gl:Gl) (hg:GlLex gl):qa3 Tryz.prog gl (gam qp5):=(qad (qz4 gl hg) (qad (qxf gl) (qad (qxV gl) (qad (qC4 gl) (qad (qrU gl hg) (qad (qxa gl hg) (qad (qyv gl hg) (qad (qwy gl) (qad (qwV gl) (qad (qv1 gl) qag))))))))))
def qvF:LpsT:=fun r fr σ=>.fail
def qnZ (v:qU) (v2:qR) (v3:qR) (v4:qU) (v5:qR) (v6:qR) (v7:qU) (v8:qR) (v9:qR) (v10:qU) (v11:qR) (v12:qR) (v13:qU) (v14:Bool) (v15:qR) (v16:qU) (v17:Bool) (v18:qR):Tr PV:=.ite qkf (.ite (bNot qle) (.ret (.bool false)) (.ite (qdK v (qaa v2) (qaa v3)) (.ite (qdK v4 (qaa v5) (qaa v6)) (.ite (qhr v7 (qaa v8) (qaa v9)) (.ite (qhr v10 (qaa v11) (qaa v12)) (.ite (qdM v13 v14 (qaa v15)) (.ite (qdM v16 v17 (qaa v18)) (.ite (qcW (qaG v (qaa v2) (qaa v3)) (qaa (qaF v (qaa v2) (qaa v3))) (qaa (qax v (qaa v2) (qaa v3)))) (.ite (qcW (qaG v4 (qaa v5) (qaa v6)) (qaa (qaF v4 (qaa v5) (qaa v6))) (qaa (qax v4 (qaa v5) (qaa v6)))) (.ite (qft (qbv v7 (qaa v8) (qaa v9)) (qaa (qbw v7 (qaa v8) (qaa v9))) (qaa (qaY v7 (qaa v8) (qaa v9)))) (.ite (qft (qbv v10 (qaa v11) (qaa v12)) (qaa (qbw v10 (qaa v11) (qaa v12))) (qaa (qaY v10 (qaa v11) (qaa v12)))) (.ite (qeC (qal v13 v14 (qaa v15)) (qak v13 v14 (qaa v15)) (qaa (qam v13 v14 (qaa v15)))) (.ite (qeC (qal v16 v17 (qaa v18)) (qak v16 v17 (qaa v18)) (qaa (qam v16 v17 (qaa v18)))) (.ite (iNe (qeD (qaG v (qaa v2) (qaa v3)) (qaa (qaF v (qaa v2) (qaa v3))) (qaa (qax v (qaa v2) (qaa v3)))) 0) (.ite (iNe (qiQ (qbv v7 (qaa v8) (qaa v9)) (qaa (qbw v7 (qaa v8) (qaa v9))) (qaa (qaY v7 (qaa v8) (qaa v9)))) 0) (.ite (iNe (qbP (qal v13 v14 (qaa v15)) (qak v13 v14 (qaa v15)) (qaa (qam v13 v14 (qaa v15)))) 0) (.ret (.bool true))
 (.ite (iNe (qbP (qal v16 v17 (qaa v18)) (qak v16 v17 (qaa v18)) (qaa (qam v16 v17 (qaa v18)))) 0) (.ret (.bool true)) (.ite (qbS (qal v13 v14 (qaa v15)) (qak v13 v14 (qaa v15)) (qaa (qam v13 v14 (qaa v15))) (qal v16 v17 (qaa v18)) (qak v16 v17 (qaa v18)) (qaa (qam v16 v17 (qaa v18)))) (.ret (.bool (bEq (sEq (qbR (qal v13 v14 (qaa v15)) (qak v13 v14 (qaa v15)) (qaa (qam v13 v14 (qaa v15)))) (qbR (qal v16 v17 (qaa v18)) (qak v16 v17 (qaa v18)) (qaa (qam v16 v17 (qaa v18))))) (qcw (qal v13 v14 (qaa v15)) (qak v13 v14 (qaa v15)) (qaa (qam v13 v14 (qaa v15))) (qal v16 v17 (qaa v18)) (qak v16 v17 (qaa v18)) (qaa (qam v16 v17 (qaa v18))))))) .fail))) (.ite (iNe (qiQ (qbv v10 (qaa v11) (qaa v12)) (qaa (qbw v10 (qaa v11) (qaa v12))) (qaa (qaY v10 (qaa v11) (qaa v12)))) 0) (.ite (iNe (qbP (qal v13 v14 (qaa v15)) (qak v13 v14 (qaa v15)) (qaa (qam v13 v14 (qaa v15)))) 0) (.ret (.bool true)) (.ite (iNe (qbP (qal v16 v17 (qaa v18)) (qak v16 v17 (qaa v18)) (qaa (qam v16 v17 (qaa v18)))) 0) (.ret (.bool true)) (.ite (qbS (qal v13 v14 (qaa v15)) (qak v13 v14 (qaa v15)) (qaa (qam v13 v14 (qaa v15))) (qal v16 v17 (qaa v18)) (qak v16 v17 (qaa v18)) (qaa (qam v16 v17 (qaa v18)))) (.ret (.bool (bEq (sEq (qbR (qal v13 v14 (qaa v15)) (qak v13 v14 (qaa v15)) (qaa (qam v13 v14 (qaa v15)))) (qbR (qal v16 v17 (qaa v18)) (qak v16 v17 (qaa v18)) (qaa (qam v16 v17 (qaa v18))))) (qcw (qal v13 v14 (qaa v15)) (qak v13 v14 (qaa v15)) (qaa (qam v13 v14 (qaa v15))) (qal v16 v17 (qaa v18)) (qak v16 v17 (qaa v18)) (qaa (qam v16 v17 (qaa v18))))))) .fail))) (.ite
 (qdw (qbv v7 (qaa v8) (qaa v9)) (qaa (qbw v7 (qaa v8) (qaa v9))) (qaa (qaY v7 (qaa v8) (qaa v9))) (qbv v10 (qaa v11) (qaa v12)) (qaa (qbw v10 (qaa v11) (qaa v12))) (qaa (qaY v10 (qaa v11) (qaa v12)))) (.ite (iNe (qbP (qal v13 v14 (qaa v15)) (qak v13 v14 (qaa v15)) (qaa (qam v13 v14 (qaa v15)))) 0) (.ite (bEq (sEq (qdo (qbv v7 (qaa v8) (qaa v9)) (qaa (qbw v7 (qaa v8) (qaa v9))) (qaa (qaY v7 (qaa v8) (qaa v9)))) (qdo (qbv v10 (qaa v11) (qaa v12)) (qaa (qbw v10 (qaa v11) (qaa v12))) (qaa (qaY v10 (qaa v11) (qaa v12))))) (qcv (qbv v7 (qaa v8) (qaa v9)) (qaa (qbw v7 (qaa v8) (qaa v9))) (qaa (qaY v7 (qaa v8) (qaa v9))) (qbv v10 (qaa v11) (qaa v12)) (qaa (qbw v10 (qaa v11) (qaa v12))) (qaa (qaY v10 (qaa v11) (qaa v12))))) (.ret (.bool true)) (.ret (.bool false))) (.ite (iNe (qbP (qal v16 v17 (qaa v18)) (qak v16 v17 (qaa v18)) (qaa (qam v16 v17 (qaa v18)))) 0) (.ite (bEq (sEq (qdo (qbv v7 (qaa v8) (qaa v9)) (qaa (qbw v7 (qaa v8) (qaa v9))) (qaa (qaY v7 (qaa v8) (qaa v9)))) (qdo (qbv v10 (qaa v11) (qaa v12)) (qaa (qbw v10 (qaa v11) (qaa v12))) (qaa (qaY v10 (qaa v11) (qaa v12))))) (qcv (qbv v7 (qaa v8) (qaa v9)) (qaa (qbw v7 (qaa v8) (qaa v9))) (qaa (qaY v7 (qaa v8) (qaa v9))) (qbv v10 (qaa v11) (qaa v12)) (qaa (qbw v10 (qaa v11) (qaa v12))) (qaa (qaY v10 (qaa v11) (qaa v12))))) (.ret (.bool true)) (.ret (.bool false))) (.ite (qbS (qal v13 v14 (qaa v15)) (qak v13 v14 (qaa v15)) (qaa (qam v13 v14 (qaa v15))) (qal v16 v17 (qaa v18)) (qak v16 v17 (qaa v18)) (qaa (qam v16 v17 (qaa v18)))) (.ite (bEq (sEq
 (qdo (qbv v7 (qaa v8) (qaa v9)) (qaa (qbw v7 (qaa v8) (qaa v9))) (qaa (qaY v7 (qaa v8) (qaa v9)))) (qdo (qbv v10 (qaa v11) (qaa v12)) (qaa (qbw v10 (qaa v11) (qaa v12))) (qaa (qaY v10 (qaa v11) (qaa v12))))) (qcv (qbv v7 (qaa v8) (qaa v9)) (qaa (qbw v7 (qaa v8) (qaa v9))) (qaa (qaY v7 (qaa v8) (qaa v9))) (qbv v10 (qaa v11) (qaa v12)) (qaa (qbw v10 (qaa v11) (qaa v12))) (qaa (qaY v10 (qaa v11) (qaa v12))))) (.ret (.bool (bEq (sEq (qbR (qal v13 v14 (qaa v15)) (qak v13 v14 (qaa v15)) (qaa (qam v13 v14 (qaa v15)))) (qbR (qal v16 v17 (qaa v18)) (qak v16 v17 (qaa v18)) (qaa (qam v16 v17 (qaa v18))))) (qcw (qal v13 v14 (qaa v15)) (qak v13 v14 (qaa v15)) (qaa (qam v13 v14 (qaa v15))) (qal v16 v17 (qaa v18)) (qak v16 v17 (qaa v18)) (qaa (qam v16 v17 (qaa v18))))))) (.ret (.bool false))) .fail))) .fail))) (.ite (iNe (qeD (qaG v4 (qaa v5) (qaa v6)) (qaa (qaF v4 (qaa v5) (qaa v6))) (qaa (qax v4 (qaa v5) (qaa v6)))) 0) (.ite (iNe (qiQ (qbv v7 (qaa v8) (qaa v9)) (qaa (qbw v7 (qaa v8) (qaa v9))) (qaa (qaY v7 (qaa v8) (qaa v9)))) 0) (.ite (iNe (qbP (qal v13 v14 (qaa v15)) (qak v13 v14 (qaa v15)) (qaa (qam v13 v14 (qaa v15)))) 0) (.ret (.bool true)) (.ite (iNe (qbP (qal v16 v17 (qaa v18)) (qak v16 v17 (qaa v18)) (qaa (qam v16 v17 (qaa v18)))) 0) (.ret (.bool true)) (.ite (qbS (qal v13 v14 (qaa v15)) (qak v13 v14 (qaa v15)) (qaa (qam v13 v14 (qaa v15))) (qal v16 v17 (qaa v18)) (qak v16 v17 (qaa v18)) (qaa (qam v16 v17 (qaa v18)))) (.ret (.bool (bEq (sEq (qbR (qal v13 v14 (qaa v15)) (qak v13 v14 (qaa v15)) (qaa (qam v13 v14 (qaa v15))))
 (qbR (qal v16 v17 (qaa v18)) (qak v16 v17 (qaa v18)) (qaa (qam v16 v17 (qaa v18))))) (qcw (qal v13 v14 (qaa v15)) (qak v13 v14 (qaa v15)) (qaa (qam v13 v14 (qaa v15))) (qal v16 v17 (qaa v18)) (qak v16 v17 (qaa v18)) (qaa (qam v16 v17 (qaa v18))))))) .fail))) (.ite (iNe (qiQ (qbv v10 (qaa v11) (qaa v12)) (qaa (qbw v10 (qaa v11) (qaa v12))) (qaa (qaY v10 (qaa v11) (qaa v12)))) 0) (.ite (iNe (qbP (qal v13 v14 (qaa v15)) (qak v13 v14 (qaa v15)) (qaa (qam v13 v14 (qaa v15)))) 0) (.ret (.bool true)) (.ite (iNe (qbP (qal v16 v17 (qaa v18)) (qak v16 v17 (qaa v18)) (qaa (qam v16 v17 (qaa v18)))) 0) (.ret (.bool true)) (.ite (qbS (qal v13 v14 (qaa v15)) (qak v13 v14 (qaa v15)) (qaa (qam v13 v14 (qaa v15))) (qal v16 v17 (qaa v18)) (qak v16 v17 (qaa v18)) (qaa (qam v16 v17 (qaa v18)))) (.ret (.bool (bEq (sEq (qbR (qal v13 v14 (qaa v15)) (qak v13 v14 (qaa v15)) (qaa (qam v13 v14 (qaa v15)))) (qbR (qal v16 v17 (qaa v18)) (qak v16 v17 (qaa v18)) (qaa (qam v16 v17 (qaa v18))))) (qcw (qal v13 v14 (qaa v15)) (qak v13 v14 (qaa v15)) (qaa (qam v13 v14 (qaa v15))) (qal v16 v17 (qaa v18)) (qak v16 v17 (qaa v18)) (qaa (qam v16 v17 (qaa v18))))))) .fail))) (.ite (qdw (qbv v7 (qaa v8) (qaa v9)) (qaa (qbw v7 (qaa v8) (qaa v9))) (qaa (qaY v7 (qaa v8) (qaa v9))) (qbv v10 (qaa v11) (qaa v12)) (qaa (qbw v10 (qaa v11) (qaa v12))) (qaa (qaY v10 (qaa v11) (qaa v12)))) (.ite (iNe (qbP (qal v13 v14 (qaa v15)) (qak v13 v14 (qaa v15)) (qaa (qam v13 v14 (qaa v15)))) 0) (.ite (bEq
 (sEq (qdo (qbv v7 (qaa v8) (qaa v9)) (qaa (qbw v7 (qaa v8) (qaa v9))) (qaa (qaY v7 (qaa v8) (qaa v9)))) (qdo (qbv v10 (qaa v11) (qaa v12)) (qaa (qbw v10 (qaa v11) (qaa v12))) (qaa (qaY v10 (qaa v11) (qaa v12))))) (qcv (qbv v7 (qaa v8) (qaa v9)) (qaa (qbw v7 (qaa v8) (qaa v9))) (qaa (qaY v7 (qaa v8) (qaa v9))) (qbv v10 (qaa v11) (qaa v12)) (qaa (qbw v10 (qaa v11) (qaa v12))) (qaa (qaY v10 (qaa v11) (qaa v12))))) (.ret (.bool true)) (.ret (.bool false))) (.ite (iNe (qbP (qal v16 v17 (qaa v18)) (qak v16 v17 (qaa v18)) (qaa (qam v16 v17 (qaa v18)))) 0) (.ite (bEq (sEq (qdo (qbv v7 (qaa v8) (qaa v9)) (qaa (qbw v7 (qaa v8) (qaa v9))) (qaa (qaY v7 (qaa v8) (qaa v9)))) (qdo (qbv v10 (qaa v11) (qaa v12)) (qaa (qbw v10 (qaa v11) (qaa v12))) (qaa (qaY v10 (qaa v11) (qaa v12))))) (qcv (qbv v7 (qaa v8) (qaa v9)) (qaa (qbw v7 (qaa v8) (qaa v9))) (qaa (qaY v7 (qaa v8) (qaa v9))) (qbv v10 (qaa v11) (qaa v12)) (qaa (qbw v10 (qaa v11) (qaa v12))) (qaa (qaY v10 (qaa v11) (qaa v12))))) (.ret (.bool true)) (.ret (.bool false))) (.ite (qbS (qal v13 v14 (qaa v15)) (qak v13 v14 (qaa v15)) (qaa (qam v13 v14 (qaa v15))) (qal v16 v17 (qaa v18)) (qak v16 v17 (qaa v18)) (qaa (qam v16 v17 (qaa v18)))) (.ite (bEq (sEq (qdo (qbv v7 (qaa v8) (qaa v9)) (qaa (qbw v7 (qaa v8) (qaa v9))) (qaa (qaY v7 (qaa v8) (qaa v9)))) (qdo (qbv v10 (qaa v11) (qaa v12)) (qaa (qbw v10 (qaa v11) (qaa v12))) (qaa (qaY v10 (qaa v11) (qaa v12))))) (qcv (qbv v7 (qaa v8) (qaa v9)) (qaa (qbw v7 (qaa v8) (qaa v9)))
 (qaa (qaY v7 (qaa v8) (qaa v9))) (qbv v10 (qaa v11) (qaa v12)) (qaa (qbw v10 (qaa v11) (qaa v12))) (qaa (qaY v10 (qaa v11) (qaa v12))))) (.ret (.bool (bEq (sEq (qbR (qal v13 v14 (qaa v15)) (qak v13 v14 (qaa v15)) (qaa (qam v13 v14 (qaa v15)))) (qbR (qal v16 v17 (qaa v18)) (qak v16 v17 (qaa v18)) (qaa (qam v16 v17 (qaa v18))))) (qcw (qal v13 v14 (qaa v15)) (qak v13 v14 (qaa v15)) (qaa (qam v13 v14 (qaa v15))) (qal v16 v17 (qaa v18)) (qak v16 v17 (qaa v18)) (qaa (qam v16 v17 (qaa v18))))))) (.ret (.bool false))) .fail))) .fail))) (.ite (qfD (qaG v (qaa v2) (qaa v3)) (qaa (qaF v (qaa v2) (qaa v3))) (qaa (qax v (qaa v2) (qaa v3))) (qaG v4 (qaa v5) (qaa v6)) (qaa (qaF v4 (qaa v5) (qaa v6))) (qaa (qax v4 (qaa v5) (qaa v6)))) (.ite (iNe (qiQ (qbv v7 (qaa v8) (qaa v9)) (qaa (qbw v7 (qaa v8) (qaa v9))) (qaa (qaY v7 (qaa v8) (qaa v9)))) 0) (.ite (iNe (qbP (qal v13 v14 (qaa v15)) (qak v13 v14 (qaa v15)) (qaa (qam v13 v14 (qaa v15)))) 0) (.ite (bEq (sEq (qby (qaG v (qaa v2) (qaa v3)) (qaa (qaF v (qaa v2) (qaa v3))) (qaa (qax v (qaa v2) (qaa v3)))) (qby (qaG v4 (qaa v5) (qaa v6)) (qaa (qaF v4 (qaa v5) (qaa v6))) (qaa (qax v4 (qaa v5) (qaa v6))))) (qcu (qaG v (qaa v2) (qaa v3)) (qaa (qaF v (qaa v2) (qaa v3))) (qaa (qax v (qaa v2) (qaa v3))) (qaG v4 (qaa v5) (qaa v6)) (qaa (qaF v4 (qaa v5) (qaa v6))) (qaa (qax v4 (qaa v5) (qaa v6))))) (.ret (.bool true)) (.ret (.bool false))) (.ite (iNe (qbP (qal v16 v17 (qaa v18)) (qak v16 v17 (qaa v18)) (qaa (qam v16 v17 (qaa v18)))) 0) (.ite (bEq (sEq
 (qby (qaG v (qaa v2) (qaa v3)) (qaa (qaF v (qaa v2) (qaa v3))) (qaa (qax v (qaa v2) (qaa v3)))) (qby (qaG v4 (qaa v5) (qaa v6)) (qaa (qaF v4 (qaa v5) (qaa v6))) (qaa (qax v4 (qaa v5) (qaa v6))))) (qcu (qaG v (qaa v2) (qaa v3)) (qaa (qaF v (qaa v2) (qaa v3))) (qaa (qax v (qaa v2) (qaa v3))) (qaG v4 (qaa v5) (qaa v6)) (qaa (qaF v4 (qaa v5) (qaa v6))) (qaa (qax v4 (qaa v5) (qaa v6))))) (.ret (.bool true)) (.ret (.bool false))) (.ite (qbS (qal v13 v14 (qaa v15)) (qak v13 v14 (qaa v15)) (qaa (qam v13 v14 (qaa v15))) (qal v16 v17 (qaa v18)) (qak v16 v17 (qaa v18)) (qaa (qam v16 v17 (qaa v18)))) (.ite (bEq (sEq (qby (qaG v (qaa v2) (qaa v3)) (qaa (qaF v (qaa v2) (qaa v3))) (qaa (qax v (qaa v2) (qaa v3)))) (qby (qaG v4 (qaa v5) (qaa v6)) (qaa (qaF v4 (qaa v5) (qaa v6))) (qaa (qax v4 (qaa v5) (qaa v6))))) (qcu (qaG v (qaa v2) (qaa v3)) (qaa (qaF v (qaa v2) (qaa v3))) (qaa (qax v (qaa v2) (qaa v3))) (qaG v4 (qaa v5) (qaa v6)) (qaa (qaF v4 (qaa v5) (qaa v6))) (qaa (qax v4 (qaa v5) (qaa v6))))) (.ret (.bool (bEq (sEq (qbR (qal v13 v14 (qaa v15)) (qak v13 v14 (qaa v15)) (qaa (qam v13 v14 (qaa v15)))) (qbR (qal v16 v17 (qaa v18)) (qak v16 v17 (qaa v18)) (qaa (qam v16 v17 (qaa v18))))) (qcw (qal v13 v14 (qaa v15)) (qak v13 v14 (qaa v15)) (qaa (qam v13 v14 (qaa v15))) (qal v16 v17 (qaa v18)) (qak v16 v17 (qaa v18)) (qaa (qam v16 v17 (qaa v18))))))) (.ret (.bool false))) .fail))) (.ite (iNe
 (qiQ (qbv v10 (qaa v11) (qaa v12)) (qaa (qbw v10 (qaa v11) (qaa v12))) (qaa (qaY v10 (qaa v11) (qaa v12)))) 0) (.ite (iNe (qbP (qal v13 v14 (qaa v15)) (qak v13 v14 (qaa v15)) (qaa (qam v13 v14 (qaa v15)))) 0) (.ite (bEq (sEq (qby (qaG v (qaa v2) (qaa v3)) (qaa (qaF v (qaa v2) (qaa v3))) (qaa (qax v (qaa v2) (qaa v3)))) (qby (qaG v4 (qaa v5) (qaa v6)) (qaa (qaF v4 (qaa v5) (qaa v6))) (qaa (qax v4 (qaa v5) (qaa v6))))) (qcu (qaG v (qaa v2) (qaa v3)) (qaa (qaF v (qaa v2) (qaa v3))) (qaa (qax v (qaa v2) (qaa v3))) (qaG v4 (qaa v5) (qaa v6)) (qaa (qaF v4 (qaa v5) (qaa v6))) (qaa (qax v4 (qaa v5) (qaa v6))))) (.ret (.bool true)) (.ret (.bool false))) (.ite (iNe (qbP (qal v16 v17 (qaa v18)) (qak v16 v17 (qaa v18)) (qaa (qam v16 v17 (qaa v18)))) 0) (.ite (bEq (sEq (qby (qaG v (qaa v2) (qaa v3)) (qaa (qaF v (qaa v2) (qaa v3))) (qaa (qax v (qaa v2) (qaa v3)))) (qby (qaG v4 (qaa v5) (qaa v6)) (qaa (qaF v4 (qaa v5) (qaa v6))) (qaa (qax v4 (qaa v5) (qaa v6))))) (qcu (qaG v (qaa v2) (qaa v3)) (qaa (qaF v (qaa v2) (qaa v3))) (qaa (qax v (qaa v2) (qaa v3))) (qaG v4 (qaa v5) (qaa v6)) (qaa (qaF v4 (qaa v5) (qaa v6))) (qaa (qax v4 (qaa v5) (qaa v6))))) (.ret (.bool true)) (.ret (.bool false))) (.ite (qbS (qal v13 v14 (qaa v15)) (qak v13 v14 (qaa v15)) (qaa (qam v13 v14 (qaa v15))) (qal v16 v17 (qaa v18)) (qak v16 v17 (qaa v18)) (qaa (qam v16 v17 (qaa v18)))) (.ite (bEq (sEq (qby (qaG v (qaa v2) (qaa v3)) (qaa (qaF v (qaa v2) (qaa v3))) (qaa (qax v (qaa v2) (qaa v3))))
 (qby (qaG v4 (qaa v5) (qaa v6)) (qaa (qaF v4 (qaa v5) (qaa v6))) (qaa (qax v4 (qaa v5) (qaa v6))))) (qcu (qaG v (qaa v2) (qaa v3)) (qaa (qaF v (qaa v2) (qaa v3))) (qaa (qax v (qaa v2) (qaa v3))) (qaG v4 (qaa v5) (qaa v6)) (qaa (qaF v4 (qaa v5) (qaa v6))) (qaa (qax v4 (qaa v5) (qaa v6))))) (.ret (.bool (bEq (sEq (qbR (qal v13 v14 (qaa v15)) (qak v13 v14 (qaa v15)) (qaa (qam v13 v14 (qaa v15)))) (qbR (qal v16 v17 (qaa v18)) (qak v16 v17 (qaa v18)) (qaa (qam v16 v17 (qaa v18))))) (qcw (qal v13 v14 (qaa v15)) (qak v13 v14 (qaa v15)) (qaa (qam v13 v14 (qaa v15))) (qal v16 v17 (qaa v18)) (qak v16 v17 (qaa v18)) (qaa (qam v16 v17 (qaa v18))))))) (.ret (.bool false))) .fail))) (.ite (qdw (qbv v7 (qaa v8) (qaa v9)) (qaa (qbw v7 (qaa v8) (qaa v9))) (qaa (qaY v7 (qaa v8) (qaa v9))) (qbv v10 (qaa v11) (qaa v12)) (qaa (qbw v10 (qaa v11) (qaa v12))) (qaa (qaY v10 (qaa v11) (qaa v12)))) (.ite (iNe (qbP (qal v13 v14 (qaa v15)) (qak v13 v14 (qaa v15)) (qaa (qam v13 v14 (qaa v15)))) 0) (.ite (bEq (sEq (qby (qaG v (qaa v2) (qaa v3)) (qaa (qaF v (qaa v2) (qaa v3))) (qaa (qax v (qaa v2) (qaa v3)))) (qby (qaG v4 (qaa v5) (qaa v6)) (qaa (qaF v4 (qaa v5) (qaa v6))) (qaa (qax v4 (qaa v5) (qaa v6))))) (qcu (qaG v (qaa v2) (qaa v3)) (qaa (qaF v (qaa v2) (qaa v3))) (qaa (qax v (qaa v2) (qaa v3))) (qaG v4 (qaa v5) (qaa v6)) (qaa (qaF v4 (qaa v5) (qaa v6))) (qaa (qax v4 (qaa v5) (qaa v6))))) (.ite (bEq (sEq (qdo (qbv v7 (qaa v8) (qaa v9)) (qaa (qbw v7 (qaa v8) (qaa v9)))
 (qaa (qaY v7 (qaa v8) (qaa v9)))) (qdo (qbv v10 (qaa v11) (qaa v12)) (qaa (qbw v10 (qaa v11) (qaa v12))) (qaa (qaY v10 (qaa v11) (qaa v12))))) (qcv (qbv v7 (qaa v8) (qaa v9)) (qaa (qbw v7 (qaa v8) (qaa v9))) (qaa (qaY v7 (qaa v8) (qaa v9))) (qbv v10 (qaa v11) (qaa v12)) (qaa (qbw v10 (qaa v11) (qaa v12))) (qaa (qaY v10 (qaa v11) (qaa v12))))) (.ret (.bool true)) (.ret (.bool false))) (.ret (.bool false))) (.ite (iNe (qbP (qal v16 v17 (qaa v18)) (qak v16 v17 (qaa v18)) (qaa (qam v16 v17 (qaa v18)))) 0) (.ite (bEq (sEq (qby (qaG v (qaa v2) (qaa v3)) (qaa (qaF v (qaa v2) (qaa v3))) (qaa (qax v (qaa v2) (qaa v3)))) (qby (qaG v4 (qaa v5) (qaa v6)) (qaa (qaF v4 (qaa v5) (qaa v6))) (qaa (qax v4 (qaa v5) (qaa v6))))) (qcu (qaG v (qaa v2) (qaa v3)) (qaa (qaF v (qaa v2) (qaa v3))) (qaa (qax v (qaa v2) (qaa v3))) (qaG v4 (qaa v5) (qaa v6)) (qaa (qaF v4 (qaa v5) (qaa v6))) (qaa (qax v4 (qaa v5) (qaa v6))))) (.ite (bEq (sEq (qdo (qbv v7 (qaa v8) (qaa v9)) (qaa (qbw v7 (qaa v8) (qaa v9))) (qaa (qaY v7 (qaa v8) (qaa v9)))) (qdo (qbv v10 (qaa v11) (qaa v12)) (qaa (qbw v10 (qaa v11) (qaa v12))) (qaa (qaY v10 (qaa v11) (qaa v12))))) (qcv (qbv v7 (qaa v8) (qaa v9)) (qaa (qbw v7 (qaa v8) (qaa v9))) (qaa (qaY v7 (qaa v8) (qaa v9))) (qbv v10 (qaa v11) (qaa v12)) (qaa (qbw v10 (qaa v11) (qaa v12))) (qaa (qaY v10 (qaa v11) (qaa v12))))) (.ret (.bool true)) (.ret (.bool false))) (.ret (.bool false))) (.ite (qbS (qal v13 v14 (qaa v15)) (qak v13 v14 (qaa v15)) (qaa (qam v13 v14 (qaa v15)))
 (qal v16 v17 (qaa v18)) (qak v16 v17 (qaa v18)) (qaa (qam v16 v17 (qaa v18)))) (.ite (bEq (sEq (qby (qaG v (qaa v2) (qaa v3)) (qaa (qaF v (qaa v2) (qaa v3))) (qaa (qax v (qaa v2) (qaa v3)))) (qby (qaG v4 (qaa v5) (qaa v6)) (qaa (qaF v4 (qaa v5) (qaa v6))) (qaa (qax v4 (qaa v5) (qaa v6))))) (qcu (qaG v (qaa v2) (qaa v3)) (qaa (qaF v (qaa v2) (qaa v3))) (qaa (qax v (qaa v2) (qaa v3))) (qaG v4 (qaa v5) (qaa v6)) (qaa (qaF v4 (qaa v5) (qaa v6))) (qaa (qax v4 (qaa v5) (qaa v6))))) (.ite (bEq (sEq (qdo (qbv v7 (qaa v8) (qaa v9)) (qaa (qbw v7 (qaa v8) (qaa v9))) (qaa (qaY v7 (qaa v8) (qaa v9)))) (qdo (qbv v10 (qaa v11) (qaa v12)) (qaa (qbw v10 (qaa v11) (qaa v12))) (qaa (qaY v10 (qaa v11) (qaa v12))))) (qcv (qbv v7 (qaa v8) (qaa v9)) (qaa (qbw v7 (qaa v8) (qaa v9))) (qaa (qaY v7 (qaa v8) (qaa v9))) (qbv v10 (qaa v11) (qaa v12)) (qaa (qbw v10 (qaa v11) (qaa v12))) (qaa (qaY v10 (qaa v11) (qaa v12))))) (.ret (.bool (bEq (sEq (qbR (qal v13 v14 (qaa v15)) (qak v13 v14 (qaa v15)) (qaa (qam v13 v14 (qaa v15)))) (qbR (qal v16 v17 (qaa v18)) (qak v16 v17 (qaa v18)) (qaa (qam v16 v17 (qaa v18))))) (qcw (qal v13 v14 (qaa v15)) (qak v13 v14 (qaa v15)) (qaa (qam v13 v14 (qaa v15))) (qal v16 v17 (qaa v18)) (qak v16 v17 (qaa v18)) (qaa (qam v16 v17 (qaa v18))))))) (.ret (.bool false))) (.ret (.bool false))) .fail))) .fail))) .fail))) .fail) .fail) .fail) .fail) .fail) .fail) .fail) .fail) .fail) .fail) .fail) .fail)) .fail
theorem qBB (v:qU) (v2:qR) (v3:qR) (v4:qU) (v5:qR) (v6:qR) (v7:qU) (v8:qR) (v9:qR) (v10:qU) (v11:qR) (v12:qR) (v13:qU) (v14:Bool) (v15:qR) (v16:qU) (v17:Bool) (v18:qR):(tcall tbT qp5 qvF Tryz.f5 [.agg [.str v,.sl v2 .non,.sl v3 .non],.agg [.str v4,.sl v5 .non,.sl v6 .non],.agg [.str v7,.sl v8 .non,.sl v9 .non],.agg [.str v10,.sl v11 .non,.sl v12 .non],.agg [.str v13,.bool v14,.sl v15 .non],.agg [.str v16,.bool v17,.sl v18 .non]]).flat=qnZ v v2 v3 v4 v5 v6 v7 v8 v9 v10 v11 v12 v13 v14 v15 v16 v17 v18:=by kernel_rfl
def qmp (v:qU) (v2:qR) (v3:qR) (v4:qU) (v5:qR) (v6:qR) (v7:qU) (v8:qR) (v9:qR) (v10:qU) (v11:qR) (v12:qR) (v13:qU) (v14:Bool) (v15:qR) (v16:qU) (v17:Bool) (v18:qR):Option PV:=(qnZ v v2 v3 v4 v5 v6 v7 v8 v9 v10 v11 v12 v13 v14 v15 v16 v17 v18).run
def qlA (v:qU) (v2:qR) (v3:qR) (v4:qU) (v5:qR) (v6:qR) (v7:qU) (v8:qR) (v9:qR) (v10:qU) (v11:qR) (v12:qR) (v13:qU) (v14:Bool) (v15:qR) (v16:qU) (v17:Bool) (v18:qR):Bool:=(qbU (gVal (qmp v v2 v3 v4 v5 v6 v7 v8 v9 v10 v11 v12 v13 v14 v15 v16 v17 v18)))
def qkO (v:qU) (v2:qR) (v3:qR) (v4:qU) (v5:qR) (v6:qR) (v7:qU) (v8:qR) (v9:qR) (v10:qU) (v11:qR) (v12:qR) (v13:qU) (v14:Bool) (v15:qR) (v16:qU) (v17:Bool) (v18:qR):Bool:=isW (qmp v v2 v3 v4 v5 v6 v7 v8 v9 v10 v11 v12 v13 v14 v15 v16 v17 v18) (.bool (qlA v v2 v3 v4 v5 v6 v7 v8 v9 v10 v11 v12 v13 v14 v15 v16 v17 v18))
def qjp:List PV→Tr PV|[.agg [.str v,.sl v2 .non,.sl v3 .non],.agg [.str v4,.sl v5 .non,.sl v6 .non],.agg [.str v7,.sl v8 .non,.sl v9 .non],.agg [.str v10,.sl v11 .non,.sl v12 .non],.agg [.str v13,.bool v14,.sl v15 .non],.agg [.str v16,.bool v17,.sl v18 .non]]=>.ite (qkO v v2 v3 v4 v5 v6 v7 v8 v9 v10 v11 v12 v13 v14 v15 v16 v17 v18) (.ret (.bool (qlA v v2 v3 v4 v5 v6 v7 v8 v9 v10 v11 v12 v13 v14 v15 v16 v17 v18))) (.fail)|_=>.fail
theorem qwE (gl:Gl) (hg:GlLex gl):SimP Tryz.prog gl 5 fun args=>(qjp args).run:=by
 refine SimP.of_flat (G:=qp5) (L:=qvF) qav (qwn gl hg ) qai  Tryz.func5 rfl (by rfl) (by kernel_rfl) (qae (by kernel_rfl)) ?_
 intro args x h;unfold qjp at h
 split at h
 ·exact (congrArg Tr.run (qBB _ _ _ _ _ _ _ _ _ _ _ _ _ _ _ _ _ _)).trans (qah h fun h=>by cases h)
 ·cases h
end Go.Pv
set_option maxHeartbeats 8000000
set_option maxRecDepth 200000
set_option linter.unusedSimpArgs false
set_option linter.unusedVariables false
namespace Go.Pv
open Go Go.Proofs Go.RowKit
def cutT (s:Txt):Txt:=s.take 300
def cpTm (t:Tm):Tm:=(t.1,cutT t.2.1,t.2.2.1,t.2.2.2.1,cutT t.2.2.2.2)
def cpAt (a:At):At:=(cutT a.1,(a.2.take 12).map cpTm)
def cpLi (l:Li):Li:=(l.1,cpAt l.2.1,l.2.2.1,cpTm l.2.2.2.1,cpTm l.2.2.2.2)
def cpRu (r:Ru):Ru:=(cpAt r.1,(r.2.take 8).map cpLi)
def cpDe (d:De):De:=(cutT d.1,d.2.1,d.2.2.take 12)
def cpPa (p:Pa):Pa:=(cutT p.1,p.2)
def cpAc (a:Ac):Ac:=(a.1,cpAt a.2)
def cpEn (o:En):En:=(cutT o.1,(o.2.1.take 12).map cpPa,(o.2.2.take 8).map cpAc)
theorem qCa (s:Txt):tx_W s=some (.str (cutT s)):=by
 unfold tx_W qEx cutT;by_cases h:(300:Int) < s.length
 ·have h2:300≤s.length:=by omega
  have h3:(300:Int)≤s.length:=by omega
  simp [h,h2,h3]
 ·have:s.take 300=s:=List.take_of_length_le (by omega)
  simp [h,this]
@[simp] theorem qEW (s:Txt):qjN s=true:=by simp [qjN,tx_s,qCa]
@[simp] theorem tx_v (s:Txt):tx_s s=cutT s:=by simp [tx_s,qCa]
theorem qfv (k:Int) (b:Txt) (c n:Int) (s:Txt):qhA k b c n s=some (.agg [.int .i64 k,.str (cutT b),.int .i64 c,.int .i64 n,.str (cutT s)]):=by
 unfold qhA qra;simp
@[simp] theorem tterm_is (k:Int) (b:Txt) (c n:Int) (s:Txt):qcH k b c n s=true:=by simp only [qcH,qc1,qce,qcg,qc4,qch,qfv];simp
@[simp] theorem tterm_v0 (k:Int) (b:Txt) (c n:Int) (s:Txt):qc1 k b c n s=k:=by simp only [qcH,qc1,qce,qcg,qc4,qch,qfv];simp
@[simp] theorem tterm_v1 (k:Int) (b:Txt) (c n:Int) (s:Txt):qc4 k b c n s=cutT b:=by simp only [qcH,qc1,qce,qcg,qc4,qch,qfv];simp
@[simp] theorem tterm_v2 (k:Int) (b:Txt) (c n:Int) (s:Txt):qce k b c n s=c:=by simp only [qcH,qc1,qce,qcg,qc4,qch,qfv];simp
@[simp] theorem tterm_v3 (k:Int) (b:Txt) (c n:Int) (s:Txt):qcg k b c n s=n:=by simp only [qcH,qc1,qce,qcg,qc4,qch,qfv];simp
@[simp] theorem tterm_v4 (k:Int) (b:Txt) (c n:Int) (s:Txt):qch k b c n s=cutT s:=by simp only [qcH,qc1,qce,qcg,qc4,qch,qfv];simp
theorem quv {n m:Nat}:min n m≤n:=Nat.min_le_left _ _
theorem qlL {α:Type} (l:List α) (m:Nat):l.take (min l.length m)=l.take m:=by
 by_cases h:l.length≤m
 ·rw [Nat.min_eq_left h,List.take_length,List.take_of_length_le h]
 ·rw [Nat.min_eq_right (by omega)]
theorem qtB (s s2 s3:Txt) (r2:qR) (l:List Tm):qdG [.ptr 0 0,.ptr 1 0,.ptr 2 0,.int .i64 0] ⟨[[.str s,.sl (rOf cM l) .non],[.str s2,.sl r2 .full],[.str s3,.sl [] (.tok 0)]],[(0,5,27)],[31,31,31]⟩=some (.exit 0,[.ptr 1 0,.ptr 2 0],⟨[[.str s,.sl (rOf cM l) .non],[.str s2,.sl r2 .full],[.str s3,.sl (rOf cM ((l.take 12).map cpTm)) (.tok 0)]],[((min l.length 12),5,27)],[31,31,31]⟩):=by
 have hl:=qmg (l:=l) (min l.length 12) quv (V:=fun i b=>qdG [.ptr 0 0,.ptr 1 0,.ptr 2 0,.int .i64 (i:Nat)] ⟨[[.str s,.sl (rOf cM l) .non],[.str s2,.sl r2 .full],[.str s3,.sl (rOf cM b) (.tok 0)]],[(b.length,5,27)],[31,31,31]⟩) cpTm (fun b=>some (.exit 0,[.ptr 1 0,.ptr 2 0],⟨[[.str s,.sl (rOf cM l) .non],[.str s2,.sl r2 .full],[.str s3,.sl (rOf cM b) (.tok 0)]],[(b.length,5,27)],[31,31,31]⟩)) ?_ ?_
 ·rw [qlL] at hl;rw [show min l.length 12=((l.take 12).map cpTm).length by rw [List.length_map,List.length_take];omega]
  exact hl
 ·intro i b a hb hi hn ha;have q1:iLt (i:Int) (xLen (rOf cM l))=true:=by simp;omega
  have q2:iLt (i:Int) 12=true:=by simp;omega
  have q3:qao (i:Int)=true:=by simp
  have q4:qbx [PV.int .i64 0,.str [],.int .i64 0,.int .i64 0,.str []] (rOf cM l) (nNat (i:Int))=true:=by simp;omega
  have w:=qbQ (i:=i) (by omega)
  have o1:∀ c,qbm (rOf cM b) [c] 56=true:=fun c=>by simp;omega
  have o3:qaD (rOf cM b) 5=true:=qzG _;have o4:nEq b.length (nXs (rOf cM b))=true:=by simp
  have x0:xInt (rOf cM l) (nNat (i:Int)) 0=a.1:=by simp [hi,ha]
  have x1:xStr (rOf cM l) (nNat (i:Int)) 1=a.2.1:=by simp [hi,ha]
  have x2:xInt (rOf cM l) (nNat (i:Int)) 2=a.2.2.1:=by simp [hi,ha]
  have x3:xInt (rOf cM l) (nNat (i:Int)) 3=a.2.2.2.1:=by simp [hi,ha]
  have x4:xStr (rOf cM l) (nNat (i:Int)) 4=a.2.2.2.2:=by simp [hi,ha]
  show qdG [.ptr 0 0,.ptr 1 0,.ptr 2 0,.int .i64 (i:Nat)] ⟨[[.str s,.sl (rOf cM l) .non],[.str s2,.sl r2 .full],[.str s3,.sl (rOf cM b) (.tok 0)]],[(b.length,5,27)],[31,31,31]⟩=qdG [.ptr 0 0,.ptr 1 0,.ptr 2 0,.int .i64 ((i+1:Nat):Int)] ⟨[[.str s,.sl (rOf cM l) .non],[.str s2,.sl r2 .full],[.str s3,.sl (rOf cM (b++[cpTm a])) (.tok 0)]],[((b++[cpTm a]).length,5,27)],[31,31,31]⟩
  rw [qvs];simp only [qhm,q1,q2,q3,q4,o1,o3,o4,w,x0,x1,x2,x3,x4,qn2,qaw];simp [one,qCu,cpTm]
 ·intro b hb;have q:iLt ((min l.length 12:Nat):Int) (xLen (rOf cM l))=false∨iLt ((min l.length 12:Nat):Int) 12=false:=by
   by_cases h:l.length≤12
   ·left;simp;omega
   ·right;simp;omega
  show qdG [.ptr 0 0,.ptr 1 0,.ptr 2 0,.int .i64 ((min l.length 12:Nat):Int)] ⟨[[.str s,.sl (rOf cM l) .non],[.str s2,.sl r2 .full],[.str s3,.sl (rOf cM b) (.tok 0)]],[(b.length,5,27)],[31,31,31]⟩=_
  rw [qvs];rcases q with q|q
  ·simp only [qhm,q];simp
  ·cases q2:iLt ((min l.length 12:Nat):Int) (xLen (rOf cM l))<;>(simp only [qhm,q,q2];simp)
theorem qm1 (a:At):qno a.1 (rOf cM a.2)=some (.agg [.str (cpAt a).1,.sl (rOf cM (cpAt a).2) .non]):=by
 have h:=qtB a.1 [] (cutT a.1) [] a.2;have h':qd1 0 a.1 (rOf cM a.2) [] [] (cutT a.1) [] 0=_:=h;unfold qno qq1;simp only [qEW,tx_v,qkM,qrm,qqR,qmB,qkc,qpA,qop,qjc,h'];simp [cpAt]
@[simp] theorem qBN (a:Txt) (l:List Tm):qdI a (rOf cM l)=true:=by simp only [qdI,qc3,qc0,qm1 (a,l)];simp
@[simp] theorem qAV (a:Txt) (l:List Tm):qc0 a (rOf cM l)=cutT a:=by simp only [qdI,qc3,qc0,qm1 (a,l)];simp [cpAt]
@[simp] theorem qA4 (a:Txt) (l:List Tm):qc3 a (rOf cM l)=rOf cM ((l.take 12).map cpTm):=by simp only [qdI,qc3,qc0,qm1 (a,l)];simp [cpAt]
theorem qbi (l:Li):qbq l.1 l.2.1.1 (rOf cM l.2.1.2) l.2.2.1 l.2.2.2.1.1 l.2.2.2.1.2.1 l.2.2.2.1.2.2.1 l.2.2.2.1.2.2.2.1 l.2.2.2.1.2.2.2.2 l.2.2.2.2.1 l.2.2.2.2.2.1 l.2.2.2.2.2.2.1 l.2.2.2.2.2.2.2.1 l.2.2.2.2.2.2.2.2=some (.agg [.int .i64 (cpLi l).1,.str (cpLi l).2.1.1,.sl (rOf cM (cpLi l).2.1.2) .non,.int .i64 (cpLi l).2.2.1,.int .i64 (cpLi l).2.2.2.1.1,.str (cpLi l).2.2.2.1.2.1,.int .i64 (cpLi l).2.2.2.1.2.2.1,.int .i64 (cpLi l).2.2.2.1.2.2.2.1,.str (cpLi l).2.2.2.1.2.2.2.2,.int .i64 (cpLi l).2.2.2.2.1,.str (cpLi l).2.2.2.2.2.1,.int .i64 (cpLi l).2.2.2.2.2.2.1,.int .i64 (cpLi l).2.2.2.2.2.2.2.1,.str (cpLi l).2.2.2.2.2.2.2.2]):=by
 unfold qbq qi4;simp [cpLi,cpAt,cpTm]
@[simp] theorem tliteral_is (a0:Int) (a1:Txt) (a2:List Tm) (a3 a4:Int) (a5:Txt) (a6 a7:Int) (a8:Txt) (a9:Int) (a10:Txt) (a11 a12:Int) (a13:Txt):qaZ a0 a1 (rOf cM a2) a3 a4 a5 a6 a7 a8 a9 a10 a11 a12 a13=true:=by simp only [qaZ,qa6,qaN,qaQ,qaJ,qaP,qaO,qaL,qaM,qa5,qa8,qaK,qaI,qaS,qaR,qbi (a0,(a1,a2),a3,(a4,a5,a6,a7,a8),(a9,a10,a11,a12,a13))];simp
@[simp] theorem tliteral_v0 (a0:Int) (a1:Txt) (a2:List Tm) (a3 a4:Int) (a5:Txt) (a6 a7:Int) (a8:Txt) (a9:Int) (a10:Txt) (a11 a12:Int) (a13:Txt):qa6 a0 a1 (rOf cM a2) a3 a4 a5 a6 a7 a8 a9 a10 a11 a12 a13=(cpLi (a0,(a1,a2),a3,(a4,a5,a6,a7,a8),(a9,a10,a11,a12,a13))).1:=by simp only [qaZ,qa6,qaN,qaQ,qaJ,qaP,qaO,qaL,qaM,qa5,qa8,qaK,qaI,qaS,qaR,qbi (a0,(a1,a2),a3,(a4,a5,a6,a7,a8),(a9,a10,a11,a12,a13))];simp
@[simp] theorem tliteral_v1 (a0:Int) (a1:Txt) (a2:List Tm) (a3 a4:Int) (a5:Txt) (a6 a7:Int) (a8:Txt) (a9:Int) (a10:Txt) (a11 a12:Int) (a13:Txt):qa8 a0 a1 (rOf cM a2) a3 a4 a5 a6 a7 a8 a9 a10 a11 a12 a13=(cpLi (a0,(a1,a2),a3,(a4,a5,a6,a7,a8),(a9,a10,a11,a12,a13))).2.1.1:=by simp only [qaZ,qa6,qaN,qaQ,qaJ,qaP,qaO,qaL,qaM,qa5,qa8,qaK,qaI,qaS,qaR,qbi (a0,(a1,a2),a3,(a4,a5,a6,a7,a8),(a9,a10,a11,a12,a13))];simp
@[simp] theorem tliteral_v2 (a0:Int) (a1:Txt) (a2:List Tm) (a3 a4:Int) (a5:Txt) (a6 a7:Int) (a8:Txt) (a9:Int) (a10:Txt) (a11 a12:Int) (a13:Txt):qa5 a0 a1 (rOf cM a2) a3 a4 a5 a6 a7 a8 a9 a10 a11 a12 a13=rOf cM (cpLi (a0,(a1,a2),a3,(a4,a5,a6,a7,a8),(a9,a10,a11,a12,a13))).2.1.2:=by simp only [qaZ,qa6,qaN,qaQ,qaJ,qaP,qaO,qaL,qaM,qa5,qa8,qaK,qaI,qaS,qaR,qbi (a0,(a1,a2),a3,(a4,a5,a6,a7,a8),(a9,a10,a11,a12,a13))];simp
@[simp] theorem tliteral_v3 (a0:Int) (a1:Txt) (a2:List Tm) (a3 a4:Int) (a5:Txt) (a6 a7:Int) (a8:Txt) (a9:Int) (a10:Txt) (a11 a12:Int) (a13:Txt):qaN a0 a1 (rOf cM a2) a3 a4 a5 a6 a7 a8 a9 a10 a11 a12 a13=(cpLi (a0,(a1,a2),a3,(a4,a5,a6,a7,a8),(a9,a10,a11,a12,a13))).2.2.1:=by simp only [qaZ,qa6,qaN,qaQ,qaJ,qaP,qaO,qaL,qaM,qa5,qa8,qaK,qaI,qaS,qaR,qbi (a0,(a1,a2),a3,(a4,a5,a6,a7,a8),(a9,a10,a11,a12,a13))];simp
@[simp] theorem tliteral_v4 (a0:Int) (a1:Txt) (a2:List Tm) (a3 a4:Int) (a5:Txt) (a6 a7:Int) (a8:Txt) (a9:Int) (a10:Txt) (a11 a12:Int) (a13:Txt):qaQ a0 a1 (rOf cM a2) a3 a4 a5 a6 a7 a8 a9 a10 a11 a12 a13=(cpLi (a0,(a1,a2),a3,(a4,a5,a6,a7,a8),(a9,a10,a11,a12,a13))).2.2.2.1.1:=by simp only [qaZ,qa6,qaN,qaQ,qaJ,qaP,qaO,qaL,qaM,qa5,qa8,qaK,qaI,qaS,qaR,qbi (a0,(a1,a2),a3,(a4,a5,a6,a7,a8),(a9,a10,a11,a12,a13))];simp
@[simp] theorem tliteral_v5 (a0:Int) (a1:Txt) (a2:List Tm) (a3 a4:Int) (a5:Txt) (a6 a7:Int) (a8:Txt) (a9:Int) (a10:Txt) (a11 a12:Int) (a13:Txt):qaK a0 a1 (rOf cM a2) a3 a4 a5 a6 a7 a8 a9 a10 a11 a12 a13=(cpLi (a0,(a1,a2),a3,(a4,a5,a6,a7,a8),(a9,a10,a11,a12,a13))).2.2.2.1.2.1:=by simp only [qaZ,qa6,qaN,qaQ,qaJ,qaP,qaO,qaL,qaM,qa5,qa8,qaK,qaI,qaS,qaR,qbi (a0,(a1,a2),a3,(a4,a5,a6,a7,a8),(a9,a10,a11,a12,a13))];simp
@[simp] theorem tliteral_v6 (a0:Int) (a1:Txt) (a2:List Tm) (a3 a4:Int) (a5:Txt) (a6 a7:Int) (a8:Txt) (a9:Int) (a10:Txt) (a11 a12:Int) (a13:Txt):qaJ a0 a1 (rOf cM a2) a3 a4 a5 a6 a7 a8 a9 a10 a11 a12 a13=(cpLi (a0,(a1,a2),a3,(a4,a5,a6,a7,a8),(a9,a10,a11,a12,a13))).2.2.2.1.2.2.1:=by simp only [qaZ,qa6,qaN,qaQ,qaJ,qaP,qaO,qaL,qaM,qa5,qa8,qaK,qaI,qaS,qaR,qbi (a0,(a1,a2),a3,(a4,a5,a6,a7,a8),(a9,a10,a11,a12,a13))];simp
@[simp] theorem tliteral_v7 (a0:Int) (a1:Txt) (a2:List Tm) (a3 a4:Int) (a5:Txt) (a6 a7:Int) (a8:Txt) (a9:Int) (a10:Txt) (a11 a12:Int) (a13:Txt):qaP a0 a1 (rOf cM a2) a3 a4 a5 a6 a7 a8 a9 a10 a11 a12 a13=(cpLi (a0,(a1,a2),a3,(a4,a5,a6,a7,a8),(a9,a10,a11,a12,a13))).2.2.2.1.2.2.2.1:=by simp only [qaZ,qa6,qaN,qaQ,qaJ,qaP,qaO,qaL,qaM,qa5,qa8,qaK,qaI,qaS,qaR,qbi (a0,(a1,a2),a3,(a4,a5,a6,a7,a8),(a9,a10,a11,a12,a13))];simp
@[simp] theorem tliteral_v8 (a0:Int) (a1:Txt) (a2:List Tm) (a3 a4:Int) (a5:Txt) (a6 a7:Int) (a8:Txt) (a9:Int) (a10:Txt) (a11 a12:Int) (a13:Txt):qaI a0 a1 (rOf cM a2) a3 a4 a5 a6 a7 a8 a9 a10 a11 a12 a13=(cpLi (a0,(a1,a2),a3,(a4,a5,a6,a7,a8),(a9,a10,a11,a12,a13))).2.2.2.1.2.2.2.2:=by simp only [qaZ,qa6,qaN,qaQ,qaJ,qaP,qaO,qaL,qaM,qa5,qa8,qaK,qaI,qaS,qaR,qbi (a0,(a1,a2),a3,(a4,a5,a6,a7,a8),(a9,a10,a11,a12,a13))];simp
@[simp] theorem tliteral_v9 (a0:Int) (a1:Txt) (a2:List Tm) (a3 a4:Int) (a5:Txt) (a6 a7:Int) (a8:Txt) (a9:Int) (a10:Txt) (a11 a12:Int) (a13:Txt):qaO a0 a1 (rOf cM a2) a3 a4 a5 a6 a7 a8 a9 a10 a11 a12 a13=(cpLi (a0,(a1,a2),a3,(a4,a5,a6,a7,a8),(a9,a10,a11,a12,a13))).2.2.2.2.1:=by simp only [qaZ,qa6,qaN,qaQ,qaJ,qaP,qaO,qaL,qaM,qa5,qa8,qaK,qaI,qaS,qaR,qbi (a0,(a1,a2),a3,(a4,a5,a6,a7,a8),(a9,a10,a11,a12,a13))];simp
@[simp] theorem tliteral_v10 (a0:Int) (a1:Txt) (a2:List Tm) (a3 a4:Int) (a5:Txt) (a6 a7:Int) (a8:Txt) (a9:Int) (a10:Txt) (a11 a12:Int) (a13:Txt):qaS a0 a1 (rOf cM a2) a3 a4 a5 a6 a7 a8 a9 a10 a11 a12 a13=(cpLi (a0,(a1,a2),a3,(a4,a5,a6,a7,a8),(a9,a10,a11,a12,a13))).2.2.2.2.2.1:=by simp only [qaZ,qa6,qaN,qaQ,qaJ,qaP,qaO,qaL,qaM,qa5,qa8,qaK,qaI,qaS,qaR,qbi (a0,(a1,a2),a3,(a4,a5,a6,a7,a8),(a9,a10,a11,a12,a13))];simp
@[simp] theorem tliteral_v11 (a0:Int) (a1:Txt) (a2:List Tm) (a3 a4:Int) (a5:Txt) (a6 a7:Int) (a8:Txt) (a9:Int) (a10:Txt) (a11 a12:Int) (a13:Txt):qaL a0 a1 (rOf cM a2) a3 a4 a5 a6 a7 a8 a9 a10 a11 a12 a13=(cpLi (a0,(a1,a2),a3,(a4,a5,a6,a7,a8),(a9,a10,a11,a12,a13))).2.2.2.2.2.2.1:=by simp only [qaZ,qa6,qaN,qaQ,qaJ,qaP,qaO,qaL,qaM,qa5,qa8,qaK,qaI,qaS,qaR,qbi (a0,(a1,a2),a3,(a4,a5,a6,a7,a8),(a9,a10,a11,a12,a13))];simp
@[simp] theorem tliteral_v12 (a0:Int) (a1:Txt) (a2:List Tm) (a3 a4:Int) (a5:Txt) (a6 a7:Int) (a8:Txt) (a9:Int) (a10:Txt) (a11 a12:Int) (a13:Txt):qaM a0 a1 (rOf cM a2) a3 a4 a5 a6 a7 a8 a9 a10 a11 a12 a13=(cpLi (a0,(a1,a2),a3,(a4,a5,a6,a7,a8),(a9,a10,a11,a12,a13))).2.2.2.2.2.2.2.1:=by simp only [qaZ,qa6,qaN,qaQ,qaJ,qaP,qaO,qaL,qaM,qa5,qa8,qaK,qaI,qaS,qaR,qbi (a0,(a1,a2),a3,(a4,a5,a6,a7,a8),(a9,a10,a11,a12,a13))];simp
@[simp] theorem tliteral_v13 (a0:Int) (a1:Txt) (a2:List Tm) (a3 a4:Int) (a5:Txt) (a6 a7:Int) (a8:Txt) (a9:Int) (a10:Txt) (a11 a12:Int) (a13:Txt):qaR a0 a1 (rOf cM a2) a3 a4 a5 a6 a7 a8 a9 a10 a11 a12 a13=(cpLi (a0,(a1,a2),a3,(a4,a5,a6,a7,a8),(a9,a10,a11,a12,a13))).2.2.2.2.2.2.2.2:=by simp only [qaZ,qa6,qaN,qaQ,qaJ,qaP,qaO,qaL,qaM,qa5,qa8,qaK,qaI,qaS,qaR,qbi (a0,(a1,a2),a3,(a4,a5,a6,a7,a8),(a9,a10,a11,a12,a13))];simp
theorem qtI (s s2 s3:Txt) (r r3 r4:qR) (r5:qR) (l:List Li):qdE [.ptr 0 0,.ptr 1 0,.ptr 2 0,.int .i64 0] ⟨[[.str s,.sl r .non,.sl (rOf cL l) .non],[.str s2,.sl r3 .full,.sl r4 .full],[.str s3,.sl r5 .non,.sl [] (.tok 0)]],[(0,14,34)],[48,48,48]⟩=some (.exit 0,[.ptr 1 0,.ptr 2 0],⟨[[.str s,.sl r .non,.sl (rOf cL l) .non],[.str s2,.sl r3 .full,.sl r4 .full],[.str s3,.sl r5 .non,.sl (rOf cL ((l.take 8).map cpLi)) (.tok 0)]],[((min l.length 8),14,34)],[48,48,48]⟩):=by
 have hl:=qmg (l:=l) (min l.length 8) quv (V:=fun i b=>qdE [.ptr 0 0,.ptr 1 0,.ptr 2 0,.int .i64 (i:Nat)] ⟨[[.str s,.sl r .non,.sl (rOf cL l) .non],[.str s2,.sl r3 .full,.sl r4 .full],[.str s3,.sl r5 .non,.sl (rOf cL b) (.tok 0)]],[(b.length,14,34)],[48,48,48]⟩) cpLi (fun b=>some (.exit 0,[.ptr 1 0,.ptr 2 0],⟨[[.str s,.sl r .non,.sl (rOf cL l) .non],[.str s2,.sl r3 .full,.sl r4 .full],[.str s3,.sl r5 .non,.sl (rOf cL b) (.tok 0)]],[(b.length,14,34)],[48,48,48]⟩)) ?_ ?_
 ·rw [qlL] at hl;rw [show min l.length 8=((l.take 8).map cpLi).length by rw [List.length_map,List.length_take];omega]
  exact hl
 ·intro i b a hb hi hn ha;have q1:iLt (i:Int) (xLen (rOf cL l))=true:=by simp;omega
  have q2:iLt (i:Int) 8=true:=by simp;omega
  have q3:qao (i:Int)=true:=by simp
  have q4:qbx [PV.int .i64 0,.str [],.sl [] .full,.int .i64 0,.int .i64 0,.str [],.int .i64 0,.int .i64 0,.str [],.int .i64 0,.str [],.int .i64 0,.int .i64 0,.str []] (rOf cL l) (nNat (i:Int))=true:=by simp;omega
  have w:=qbQ (i:=i) (by omega)
  have o1:∀ c,qbm (rOf cL b) [c] 168=true:=fun c=>by simp;omega
  have o3:qaD (rOf cL b) 14=true:=qxO _;have o4:nEq b.length (nXs (rOf cL b))=true:=by simp
  have x0:xInt (rOf cL l) (nNat (i:Int)) 0=a.1:=by simp [hi,ha]
  have x1:xStr (rOf cL l) (nNat (i:Int)) 1=a.2.1.1:=by simp [hi,ha]
  have x2:xRow (rOf cL l) (nNat (i:Int)) 2=rOf cM a.2.1.2:=by simp [hi,ha]
  have x3:xInt (rOf cL l) (nNat (i:Int)) 3=a.2.2.1:=by simp [hi,ha]
  have x4:xInt (rOf cL l) (nNat (i:Int)) 4=a.2.2.2.1.1:=by simp [hi,ha]
  have x5:xStr (rOf cL l) (nNat (i:Int)) 5=a.2.2.2.1.2.1:=by simp [hi,ha]
  have x6:xInt (rOf cL l) (nNat (i:Int)) 6=a.2.2.2.1.2.2.1:=by simp [hi,ha]
  have x7:xInt (rOf cL l) (nNat (i:Int)) 7=a.2.2.2.1.2.2.2.1:=by simp [hi,ha]
  have x8:xStr (rOf cL l) (nNat (i:Int)) 8=a.2.2.2.1.2.2.2.2:=by simp [hi,ha]
  have x9:xInt (rOf cL l) (nNat (i:Int)) 9=a.2.2.2.2.1:=by simp [hi,ha]
  have x10:xStr (rOf cL l) (nNat (i:Int)) 10=a.2.2.2.2.2.1:=by simp [hi,ha]
  have x11:xInt (rOf cL l) (nNat (i:Int)) 11=a.2.2.2.2.2.2.1:=by simp [hi,ha]
  have x12:xInt (rOf cL l) (nNat (i:Int)) 12=a.2.2.2.2.2.2.2.1:=by simp [hi,ha]
  have x13:xStr (rOf cL l) (nNat (i:Int)) 13=a.2.2.2.2.2.2.2.2:=by simp [hi,ha]
  show qdE [.ptr 0 0,.ptr 1 0,.ptr 2 0,.int .i64 (i:Nat)] ⟨[[.str s,.sl r .non,.sl (rOf cL l) .non],[.str s2,.sl r3 .full,.sl r4 .full],[.str s3,.sl r5 .non,.sl (rOf cL b) (.tok 0)]],[(b.length,14,34)],[48,48,48]⟩=qdE [.ptr 0 0,.ptr 1 0,.ptr 2 0,.int .i64 ((i+1:Nat):Int)] ⟨[[.str s,.sl r .non,.sl (rOf cL l) .non],[.str s2,.sl r3 .full,.sl r4 .full],[.str s3,.sl r5 .non,.sl (rOf cL (b++[cpLi a])) (.tok 0)]],[((b++[cpLi a]).length,14,34)],[48,48,48]⟩
  rw [qvq];simp only [qhc,q1,q2,q3,q4,o1,o3,o4,w,x0,x1,x2,x3,x4,x5,x6,x7,x8,x9,x10,x11,x12,x13,qn2,qaw];simp [one,qD4,cpLi]
 ·intro b hb;have q:iLt ((min l.length 8:Nat):Int) (xLen (rOf cL l))=false∨iLt ((min l.length 8:Nat):Int) 8=false:=by
   by_cases h:l.length≤8
   ·left;simp;omega
   ·right;simp;omega
  show qdE [.ptr 0 0,.ptr 1 0,.ptr 2 0,.int .i64 ((min l.length 8:Nat):Int)] ⟨[[.str s,.sl r .non,.sl (rOf cL l) .non],[.str s2,.sl r3 .full,.sl r4 .full],[.str s3,.sl r5 .non,.sl (rOf cL b) (.tok 0)]],[(b.length,14,34)],[48,48,48]⟩=_
  rw [qvq];rcases q with q|q
  ·simp only [qhc,q];simp
  ·cases q2:iLt ((min l.length 8:Nat):Int) (xLen (rOf cL l))<;>(simp only [qhc,q,q2];simp)
theorem qjs (x:Ru):qkp x.1.1 (rOf cM x.1.2) (rOf cL x.2)=some (.agg [.str (cpRu x).1.1,.sl (rOf cM (cpRu x).1.2) .non,.sl (rOf cL (cpRu x).2) .non]):=by
 have h:=qtI x.1.1 [] (cutT x.1.1) (rOf cM x.1.2) [] [] (rOf cM ((x.1.2.take 12).map cpTm)) x.2;have h':qcY 0 x.1.1 (rOf cM x.1.2) (rOf cL x.2) [] [] [] (cutT x.1.1) (rOf cM ((x.1.2.take 12).map cpTm)) [] 0=_:=h;unfold qkp qqf;simp only [qaw,qBN,qAV,qA4,qlb,qqd,qrd,qnz,qoj,qnE,qjF,qi7,qpM,qnL,qjk,h'];simp [cpRu,cpAt]
@[simp] theorem qAA (a:Txt) (l:List Tm) (b:List Li):qdK a (rOf cM l) (rOf cL b)=true:=by simp only [qdK,qaF,qax,qaG,qjs ((a,l),b)];simp
@[simp] theorem qAT (a:Txt) (l:List Tm) (b:List Li):qaG a (rOf cM l) (rOf cL b)=cutT a:=by simp only [qdK,qaF,qax,qaG,qjs ((a,l),b)];simp [cpRu,cpAt]
@[simp] theorem qAq (a:Txt) (l:List Tm) (b:List Li):qaF a (rOf cM l) (rOf cL b)=rOf cM ((l.take 12).map cpTm):=by simp only [qdK,qaF,qax,qaG,qjs ((a,l),b)];simp [cpRu,cpAt]
@[simp] theorem qBF (a:Txt) (l:List Tm) (b:List Li):qax a (rOf cM l) (rOf cL b)=rOf cL ((b.take 8).map cpLi):=by simp only [qdK,qaF,qax,qaG,qjs ((a,l),b)];simp [cpRu,cpAt]
theorem qjK (d:De):qk4 d.1 d.2.1 (rOf cI d.2.2)=some (.agg [.str (cpDe d).1,.bool (cpDe d).2.1,.sl (rOf cI (cpDe d).2.2) .non]):=by
 unfold qk4 qrt;by_cases h:(12:Int) < d.2.2.length
 ·have h2:12≤d.2.2.length:=by omega
  have h3:(12:Int)≤d.2.2.length:=by omega
  simp [h,h2,h3,cpDe]
 ·have:d.2.2.take 12=d.2.2:=List.take_of_length_le (by omega)
  simp [h,this,cpDe]
@[simp] theorem qBq (a:Txt) (b:Bool) (l:List Int):qdM a b (rOf cI l)=true:=by simp only [qak,qdM,qam,qal,qjK (a,b,l)];simp
@[simp] theorem qAr (a:Txt) (b:Bool) (l:List Int):qal a b (rOf cI l)=cutT a:=by simp only [qak,qdM,qam,qal,qjK (a,b,l)];simp [cpDe]
@[simp] theorem qAp (a:Txt) (b:Bool) (l:List Int):qak a b (rOf cI l)=b:=by simp only [qak,qdM,qam,qal,qjK (a,b,l)];simp [cpDe]
@[simp] theorem qA9 (a:Txt) (b:Bool) (l:List Int):qam a b (rOf cI l)=rOf cI (l.take 12):=by simp only [qak,qdM,qam,qal,qjK (a,b,l)];simp [cpDe]
theorem qzK (s s2 s3:Txt) (r2 r3 r4 r6:qR) (k2:Nat) (l:List Pa):qii [.ptr 0 0,.ptr 1 0,.ptr 2 0,.int .i64 0] ⟨[[.str s,.sl (rOf cP l) .non,.sl r2 .non],[.str s2,.sl r3 .full,.sl r4 .full],[.str s3,.sl [] (.tok 0),.sl r6 (.tok 1)]],[(0,2,101),(k2,3,103)],[55,55,55]⟩=some (.exit 0,[.ptr 0 0,.ptr 1 0,.ptr 2 0],⟨[[.str s,.sl (rOf cP l) .non,.sl r2 .non],[.str s2,.sl r3 .full,.sl r4 .full],[.str s3,.sl (rOf cP ((l.take 12).map cpPa)) (.tok 0),.sl r6 (.tok 1)]],[((min l.length 12),2,101),(k2,3,103)],[55,55,55]⟩):=by
 have hl:=qmg (l:=l) (min l.length 12) quv (V:=fun i b=>qii [.ptr 0 0,.ptr 1 0,.ptr 2 0,.int .i64 (i:Nat)] ⟨[[.str s,.sl (rOf cP l) .non,.sl r2 .non],[.str s2,.sl r3 .full,.sl r4 .full],[.str s3,.sl (rOf cP b) (.tok 0),.sl r6 (.tok 1)]],[(b.length,2,101),(k2,3,103)],[55,55,55]⟩) cpPa (fun b=>some (.exit 0,[.ptr 0 0,.ptr 1 0,.ptr 2 0],⟨[[.str s,.sl (rOf cP l) .non,.sl r2 .non],[.str s2,.sl r3 .full,.sl r4 .full],[.str s3,.sl (rOf cP b) (.tok 0),.sl r6 (.tok 1)]],[(b.length,2,101),(k2,3,103)],[55,55,55]⟩)) ?_ ?_
 ·rw [qlL] at hl;rw [show min l.length 12=((l.take 12).map cpPa).length by rw [List.length_map,List.length_take];omega]
  exact hl
 ·intro i b a hb hi hn ha;have q1:iLt (i:Int) (xLen (rOf cP l))=true:=by simp;omega
  have q2:iLt (i:Int) 12=true:=by simp;omega
  have q3:qao (i:Int)=true:=by simp
  have q4:qbx [PV.str [],.int .i64 0] (rOf cP l) (nNat (i:Int))=true:=by simp;omega
  have w:=qbQ (i:=i) (by omega)
  have o1:∀ c,qbm (rOf cP b) [c] 24=true:=fun c=>by simp;omega
  have o3:qaD (rOf cP b) 2=true:=qxT _;have o4:nEq b.length (nXs (rOf cP b))=true:=by simp
  have x0:xStr (rOf cP l) (nNat (i:Int)) 0=a.1:=by simp [hi,ha]
  have x1:xInt (rOf cP l) (nNat (i:Int)) 1=a.2:=by simp [hi,ha]
  show qii [.ptr 0 0,.ptr 1 0,.ptr 2 0,.int .i64 (i:Nat)] ⟨[[.str s,.sl (rOf cP l) .non,.sl r2 .non],[.str s2,.sl r3 .full,.sl r4 .full],[.str s3,.sl (rOf cP b) (.tok 0),.sl r6 (.tok 1)]],[(b.length,2,101),(k2,3,103)],[55,55,55]⟩=qii [.ptr 0 0,.ptr 1 0,.ptr 2 0,.int .i64 ((i+1:Nat):Int)] ⟨[[.str s,.sl (rOf cP l) .non,.sl r2 .non],[.str s2,.sl r3 .full,.sl r4 .full],[.str s3,.sl (rOf cP (b++[cpPa a])) (.tok 0),.sl r6 (.tok 1)]],[((b++[cpPa a]).length,2,101),(k2,3,103)],[55,55,55]⟩
  rw [qB2];simp only [qnA,q1,q2,q3,q4,o1,o3,o4,w,x0,x1,qn2,qaw];simp [one,qEw,cpPa]
 ·intro b hb;have q:iLt ((min l.length 12:Nat):Int) (xLen (rOf cP l))=false∨iLt ((min l.length 12:Nat):Int) 12=false:=by
   by_cases h:l.length≤12
   ·left;simp;omega
   ·right;simp;omega
  show qii [.ptr 0 0,.ptr 1 0,.ptr 2 0,.int .i64 ((min l.length 12:Nat):Int)] ⟨[[.str s,.sl (rOf cP l) .non,.sl r2 .non],[.str s2,.sl r3 .full,.sl r4 .full],[.str s3,.sl (rOf cP b) (.tok 0),.sl r6 (.tok 1)]],[(b.length,2,101),(k2,3,103)],[55,55,55]⟩=_
  rw [qB2];rcases q with q|q
  ·simp only [qnA,q];simp
  ·cases q2:iLt ((min l.length 12:Nat):Int) (xLen (rOf cP l))<;>(simp only [qnA,q,q2];simp)
theorem qz6 (s s2 s3:Txt) (r r3 r4 r5:qR) (k:Nat) (l:List Ac):qic [.ptr 0 0,.ptr 1 0,.ptr 2 0,.int .i64 0] ⟨[[.str s,.sl r .non,.sl (rOf cAc l) .non],[.str s2,.sl r3 .full,.sl r4 .full],[.str s3,.sl r5 (.tok 0),.sl [] (.tok 1)]],[(k,2,101),(0,3,103)],[55,55,55]⟩=some (.exit 2,[.ptr 1 0,.ptr 2 0],⟨[[.str s,.sl r .non,.sl (rOf cAc l) .non],[.str s2,.sl r3 .full,.sl r4 .full],[.str s3,.sl r5 (.tok 0),.sl (rOf cAc ((l.take 8).map cpAc)) (.tok 1)]],[(k,2,101),((min l.length 8),3,103)],[55,55,55]⟩):=by
 have hl:=qmg (l:=l) (min l.length 8) quv (V:=fun i b=>qic [.ptr 0 0,.ptr 1 0,.ptr 2 0,.int .i64 (i:Nat)] ⟨[[.str s,.sl r .non,.sl (rOf cAc l) .non],[.str s2,.sl r3 .full,.sl r4 .full],[.str s3,.sl r5 (.tok 0),.sl (rOf cAc b) (.tok 1)]],[(k,2,101),(b.length,3,103)],[55,55,55]⟩) cpAc (fun b=>some (.exit 2,[.ptr 1 0,.ptr 2 0],⟨[[.str s,.sl r .non,.sl (rOf cAc l) .non],[.str s2,.sl r3 .full,.sl r4 .full],[.str s3,.sl r5 (.tok 0),.sl (rOf cAc b) (.tok 1)]],[(k,2,101),(b.length,3,103)],[55,55,55]⟩)) ?_ ?_
 ·rw [qlL] at hl;rw [show min l.length 8=((l.take 8).map cpAc).length by rw [List.length_map,List.length_take];omega]
  exact hl
 ·intro i b a hb hi hn ha;have q1:iLt (i:Int) (xLen (rOf cAc l))=true:=by simp;omega
  have q2:iLt (i:Int) 8=true:=by simp;omega
  have q3:qao (i:Int)=true:=by simp
  have q4:qbx [PV.bool false,.str [],.sl [] .full] (rOf cAc l) (nNat (i:Int))=true:=by simp;omega
  have w:=qbQ (i:=i) (by omega)
  have o1:∀ c,qbm (rOf cAc b) [c] 48=true:=fun c=>by simp;omega
  have o3:qaD (rOf cAc b) 3=true:=qwC _;have o4:nEq b.length (nXs (rOf cAc b))=true:=by simp
  have x0:qfu (rOf cAc l) (nNat (i:Int)) 0=a.1:=by simp [hi,ha]
  have x1:xStr (rOf cAc l) (nNat (i:Int)) 1=a.2.1:=by simp [hi,ha]
  have x2:xRow (rOf cAc l) (nNat (i:Int)) 2=rOf cM a.2.2:=by simp [hi,ha]
  show qic [.ptr 0 0,.ptr 1 0,.ptr 2 0,.int .i64 (i:Nat)] ⟨[[.str s,.sl r .non,.sl (rOf cAc l) .non],[.str s2,.sl r3 .full,.sl r4 .full],[.str s3,.sl r5 (.tok 0),.sl (rOf cAc b) (.tok 1)]],[(k,2,101),(b.length,3,103)],[55,55,55]⟩=qic [.ptr 0 0,.ptr 1 0,.ptr 2 0,.int .i64 ((i+1:Nat):Int)] ⟨[[.str s,.sl r .non,.sl (rOf cAc l) .non],[.str s2,.sl r3 .full,.sl r4 .full],[.str s3,.sl r5 (.tok 0),.sl (rOf cAc (b++[cpAc a])) (.tok 1)]],[(k,2,101),((b++[cpAc a]).length,3,103)],[55,55,55]⟩
  rw [qB8];simp only [qmV,q1,q2,q3,q4,o1,o3,o4,w,x0,x1,x2,cpAt,qn2,qaw];simp [one,qBa,cpAt,cpAc]
 ·intro b hb;have q:iLt ((min l.length 8:Nat):Int) (xLen (rOf cAc l))=false∨iLt ((min l.length 8:Nat):Int) 8=false:=by
   by_cases h:l.length≤8
   ·left;simp;omega
   ·right;simp;omega
  show qic [.ptr 0 0,.ptr 1 0,.ptr 2 0,.int .i64 ((min l.length 8:Nat):Int)] ⟨[[.str s,.sl r .non,.sl (rOf cAc l) .non],[.str s2,.sl r3 .full,.sl r4 .full],[.str s3,.sl r5 (.tok 0),.sl (rOf cAc b) (.tok 1)]],[(k,2,101),(b.length,3,103)],[55,55,55]⟩=_
  rw [qB8];rcases q with q|q
  ·simp only [qmV,q];simp
  ·cases q2:iLt ((min l.length 8:Nat):Int) (xLen (rOf cAc l))<;>(simp only [qmV,q,q2];simp)
theorem qq9 (o:En):qvV o.1 (rOf cP o.2.1) (rOf cAc o.2.2)=some (.agg [.str (cpEn o).1,.sl (rOf cP (cpEn o).2.1) .non,.sl (rOf cAc (cpEn o).2.2) .non]):=by
 have h:=qzK o.1 [] (cutT o.1) (rOf cAc o.2.2) [] [] [] 0 o.2.1;have h':qfJ 0 o.1 (rOf cP o.2.1) (rOf cAc o.2.2) [] [] [] (cutT o.1) [] [] 0 0=_:=h;have g:=qz6 o.1 [] (cutT o.1) (rOf cP o.2.1) [] [] (rOf cP ((o.2.1.take 12).map cpPa)) (min o.2.1.length 12) o.2.2;have g':qfL 0 o.1 (rOf cP o.2.1) (rOf cAc o.2.2) [] [] [] (cutT o.1) (rOf cP ((o.2.1.take 12).map cpPa)) [] (min o.2.1.length 12) 0=_:=g;unfold qvV qxq;simp only [qEW,tx_v,qrf,qnK,qix,qnw,qiK,qiD,qiI,qiw,qiZ,qn9,qiB,qiT,h'];simp [-List.map_take];simp only [qq8,qw2,quk,qya,qtM,quc,qt4,qqj,qq0,qzV,qtX,qqu,g'];simp [cpEn]
@[simp] theorem qFD (a:Txt) (l:List Pa) (b:List Ac):qhr a (rOf cP l) (rOf cAc b)=true:=by simp only [qhr,qbw,qaY,qbv,qq9 (a,l,b)];simp
@[simp] theorem qE8 (a:Txt) (l:List Pa) (b:List Ac):qbv a (rOf cP l) (rOf cAc b)=cutT a:=by simp only [qhr,qbw,qaY,qbv,qq9 (a,l,b)];simp [cpEn]
@[simp] theorem qET (a:Txt) (l:List Pa) (b:List Ac):qbw a (rOf cP l) (rOf cAc b)=rOf cP ((l.take 12).map cpPa):=by simp only [qhr,qbw,qaY,qbv,qq9 (a,l,b)];simp [cpEn]
@[simp] theorem qEQ (a:Txt) (l:List Pa) (b:List Ac):qaY a (rOf cP l) (rOf cAc b)=rOf cAc ((b.take 8).map cpAc):=by simp only [qhr,qbw,qaY,qbv,qq9 (a,l,b)];simp [cpEn]
abbrev Pr:=List De×List En×List Ru
def cpPr (p:Pr):Pr:=((p.1.take 12).map cpDe,(p.2.1.take 8).map cpEn,(p.2.2.take 12).map cpRu)
end Go.Pv
set_option linter.unusedSimpArgs false
set_option linter.unusedVariables false
namespace Go.Pv
theorem qje {α ρ:Type} [DecidableEq α] {l m:List α} (hlen:l.length=m.length) {V:Nat→ρ} (good bad:ρ)
  (hsame:∀ (i:Nat) (hi:i < l.length) (hj:i < m.length),l[i]=m[i]→V i=V (i+1))
  (hdiff:∀ (i:Nat) (hi:i < l.length) (hj:i < m.length),l[i]≠m[i]→V i=bad)
  (hend:V l.length=good):V 0=if l=m then good else bad:=by
 have key:∀ (k i:Nat),i+k=l.length→V i=if l.drop i=m.drop i then good else bad:=by
  intro k
  induction k with
  |zero =>
   intro i hi;have:i=l.length:=by omega
   subst this;have h1:l.drop l.length=[]:=List.drop_eq_nil_of_le (Nat.le_refl _);have h2:m.drop l.length=[]:=List.drop_eq_nil_of_le (by omega)
   rw [h1,h2,if_pos rfl];exact hend
  |succ k ih =>
   intro i hi;have h1:i < l.length:=by omega
   have h2:i < m.length:=by omega
   rw [List.drop_eq_getElem_cons h1,List.drop_eq_getElem_cons h2];by_cases h:l[i]=m[i]
   ·rw [hsame i h1 h2 h,ih (i+1) (by omega),h]
    by_cases h3:l.drop (i+1)=m.drop (i+1)
    ·rw [if_pos h3,if_pos (by rw [h3])]
    ·rw [if_neg h3,if_neg (fun e=>h3 (List.cons.inj e).2)]
   ·rw [hdiff i h1 h2 h,if_neg (fun e=>h (List.cons.inj e).1)]
 simpa using key l.length 0 (by omega)
end Go.Pv
set_option maxHeartbeats 8000000
set_option maxRecDepth 200000
set_option linter.unusedSimpArgs false
set_option linter.unusedVariables false
namespace Go.Pv
open Go Go.Proofs Go.RowKit
theorem qsv (s s2:Txt) {l m:List Tm} (hlen:l.length=m.length) (hn:l.length≤100000):qcy [.ptr 0 0,.ptr 1 0,.int .i64 0] ⟨[[.str s,.sl (rOf cM l) .non],[.str s2,.sl (rOf cM m) .non]],[],[31,31]⟩ =
  if l=m then some (.exit 0,[],⟨[[.str s,.sl (rOf cM l) .non],[.str s2,.sl (rOf cM m) .non]],[],[31,31]⟩) else some (.ret,[.bool false],⟨[[.str s,.sl (rOf cM l) .non],[.str s2,.sl (rOf cM m) .non]],[],[31,31]⟩):=by
 refine qje hlen (V:=fun i=>qcy [.ptr 0 0,.ptr 1 0,.int .i64 (i:Nat)] ⟨[[.str s,.sl (rOf cM l) .non],[.str s2,.sl (rOf cM m) .non]],[],[31,31]⟩) _ _ ?_ ?_ ?_
 ·intro i hi hj he;have w:=qbQ (i:=i) (by omega)
  have b0:bAnd=and:=rfl;show qcy _ _=qcy [.ptr 0 0,.ptr 1 0,.int .i64 ((i+1:Nat):Int)] _
  rw [qnp,← w];simp [qfM,hi,hj,he,b0]
 ·intro i hi hj he;have b0:bAnd=and:=rfl;have hne:(decide (l[i].1=m[i].1)&&(decide (l[i].2.1=m[i].2.1)&&((decide (l[i].2.2.1=m[i].2.2.1)&&(decide (l[i].2.2.2.1=m[i].2.2.2.1)&&(decide (l[i].2.2.2.2=m[i].2.2.2.2)&&true)))&&true)))=false:=by
   cases hd:(decide (l[i].1=m[i].1)&&(decide (l[i].2.1=m[i].2.1)&&((decide (l[i].2.2.1=m[i].2.2.1)&&(decide (l[i].2.2.2.1=m[i].2.2.2.1)&&(decide (l[i].2.2.2.2=m[i].2.2.2.2)&&true)))&&true))) with
   |false=>rfl
   |true =>
    simp only [Bool.and_eq_true,decide_eq_true_eq,and_true] at hd;exact absurd (Prod.ext hd.1 (Prod.ext hd.2.1 (Prod.ext hd.2.2.1 (Prod.ext hd.2.2.2.1 hd.2.2.2.2)))) he
  have x0:xInt (rOf cM l) (nNat (i:Int)) 0=l[i].1:=by simp [hi]
  have x1:xStr (rOf cM l) (nNat (i:Int)) 1=l[i].2.1:=by simp [hi]
  have x2:xInt (rOf cM l) (nNat (i:Int)) 2=l[i].2.2.1:=by simp [hi]
  have x3:xInt (rOf cM l) (nNat (i:Int)) 3=l[i].2.2.2.1:=by simp [hi]
  have x4:xStr (rOf cM l) (nNat (i:Int)) 4=l[i].2.2.2.2:=by simp [hi]
  have y0:xInt (rOf cM m) (nNat (i:Int)) 0=m[i].1:=by simp [hj]
  have y1:xStr (rOf cM m) (nNat (i:Int)) 1=m[i].2.1:=by simp [hj]
  have y2:xInt (rOf cM m) (nNat (i:Int)) 2=m[i].2.2.1:=by simp [hj]
  have y3:xInt (rOf cM m) (nNat (i:Int)) 3=m[i].2.2.2.1:=by simp [hj]
  have y4:xStr (rOf cM m) (nNat (i:Int)) 4=m[i].2.2.2.2:=by simp [hj]
  show qcy _ _=_
  rw [qnp];simp only [qfM,x0,x1,x2,x3,x4,y0,y1,y2,y3,y4,b0,qpi,qoQ,hne];simp [hi,hj]
 ·show qcy _ _=_
  rw [qnp];simp [qfM]
theorem qpg (a b:At) (hn:a.2.length≤100000):qlI a.1 (rOf cM a.2) b.1 (rOf cM b.2)=some (.bool (decide (a=b))):=by
 obtain⟨a1,a2⟩:=a;obtain⟨b1,b2⟩:=b;unfold qlI qn6;by_cases h1:a1=b1
 ·by_cases h2:a2.length=b2.length
  ·have h:=qsv a1 b1 h2 hn;have h':qci 0 a1 (rOf cM a2) b1 (rOf cM b2)=_:=h;by_cases h3:a2=b2
   ·rw [if_pos h3] at h';simp only [qeb,qfZ,qg6,qfk,qfm,qgU,qgd,qfo,qeR,qgm,qgy,h'];simp [h1,h3]
   ·rw [if_neg h3] at h';simp only [qeb,qfZ,qg6,qfk,qfm,qgU,qgd,qfo,qeR,qgm,qgy,h'];simp [h1,h2,h3]
  ·have h3:a2≠b2:=fun h=>h2 (by rw [h])
   have h4:¬ ((a2.length:Int)=b2.length):=by omega
   simp [h1,h2,h3,h4]
 ·simp [h1]
theorem qja (a b:At) (hn:a.2.length≤100000):qdA a.1 (rOf cM a.2) b.1 (rOf cM b.2)=true:=by simp only [qfd,qdA,qpg a b hn];simp
theorem qlS (a b:At) (hn:a.2.length≤100000):qfd a.1 (rOf cM a.2) b.1 (rOf cM b.2)=decide (a=b):=by simp only [qfd,qdA,qpg a b hn];simp
end Go.Pv
set_option maxHeartbeats 8000000
set_option maxRecDepth 200000
set_option linter.unusedSimpArgs false
set_option linter.unusedVariables false
namespace Go.Pv
open Go Go.Proofs Go.RowKit
theorem qjf (s:Txt):(cutT s).length≤300:=by
 unfold cutT;rw [List.length_take];omega
theorem qyu {t:Tm} (h:tmR t):tmS (cpTm t):=⟨qjf _,h⟩
theorem qxb {a:At} (h:atR a):atS (cpAt a):=by
 refine⟨qjf _,by simp [cpAt];omega,fun t ht=>?_⟩
 simp only [cpAt,List.mem_map] at ht;obtain⟨u,hu,rfl⟩:=ht;exact qyu (h u (List.mem_of_mem_take hu))
theorem qF0 {l:Li} (h:liR l):liS (cpLi l):=⟨qxb h.1,qyu h.2.1,qyu h.2.2⟩
theorem qBY {r:Ru} (h:ruR r):ruS (cpRu r):=by
 refine⟨qxb h.1,by simp [cpRu];omega,fun t ht=>?_⟩
 simp only [cpRu,List.mem_map] at ht;obtain⟨u,hu,rfl⟩:=ht;exact qF0 (h.2 u (List.mem_of_mem_take hu))
theorem qB4 (d:De):deS (cpDe d):=⟨qjf _,by simp [cpDe];omega⟩
theorem qCf {o:En} (h:enR o):enS (cpEn o):=by
 refine⟨qjf _,⟨by simp [cpEn];omega,fun t ht=>?_⟩,⟨by simp [cpEn];omega,fun t ht=>?_⟩⟩
 ·simp only [cpEn,List.mem_map] at ht;obtain⟨u,hu,rfl⟩:=ht;exact qjf _
 ·simp only [cpEn,List.mem_map] at ht;obtain⟨u,hu,rfl⟩:=ht;exact qxb (h u (List.mem_of_mem_take hu))
def prR (p:Pr):Prop:=(∀ o∈p.2.1,enR o)∧∀ x∈p.2.2,ruR x
def awX:Tm:=(1,[88],0,0,[])
def awP:At:=([112],[awX])
def awQ:At:=([113],[awX,(3,[],0,0,[])])
def awR:Ru:=(awP,[(2,awQ,0,tm0,tm0),(3,([],[]),2,awX,(2,[],1,-3,[]))])
def awO:En:=([103,111],[([88],1)],[(true,awP)])
theorem qDV:tmS awX:=⟨by decide,by decide,by decide⟩
theorem qFx:tmS tm0:=⟨by decide,by decide,by decide⟩
theorem qE4:atS awP:=⟨by decide,by decide,fun t ht=>by
 simp only [awP,List.mem_singleton] at ht;subst ht;exact qDV⟩
theorem qCN:ruS awR:=by
 refine⟨qE4,by decide,fun l hl=>?_⟩
 simp only [awR,List.mem_cons,List.not_mem_nil,or_false] at hl;rcases hl with rfl|rfl
 ·refine⟨⟨by decide,by decide,fun t ht=>?_⟩,qFx,qFx⟩
  simp only [awQ,List.mem_cons,List.not_mem_nil,or_false] at ht;rcases ht with rfl|rfl
  ·exact qDV
  ·exact⟨by decide,by decide,by decide⟩
 ·exact⟨⟨by decide,by decide,fun t ht=>by simp at ht⟩,qDV,⟨by decide,by decide,by decide⟩⟩
theorem qCx:enS awO:=by
 refine⟨by decide,⟨by decide,fun t ht=>?_⟩,⟨by decide,fun t ht=>?_⟩⟩
 ·simp only [awO,List.mem_singleton] at ht;subst ht;exact (by decide:(88::([]:Txt)).length≤300)
 ·simp only [awO,List.mem_singleton] at ht;subst ht;exact qE4
theorem qB6:ruOk awR=true:=by kernel_rfl
theorem qGp:ruT awR=[112,40,88,41,32,58,45,32,110,111,116,32,113,40,88,44,32,95,41,44,32,88,32,33,61,32,45,51,46]:=by kernel_rfl
theorem qCi:enOk awO=true:=by kernel_rfl
theorem qGj:enT awO=[111,110,32,103,111,40,88,32,105,110,116,41,58,32,43,112,40,88,41,46]:=by kernel_rfl
theorem awN:nmB [110,111,116]=false:=by kernel_rfl
theorem awV:vrB [65,98]=true:=by kernel_rfl
theorem qrO:qpU=some (.bool true):=by
 unfold qpU qlX;have e1:qcW awR.1.1 (rOf cM awR.1.2) (rOf cL awR.2)=true:=qqL qCN;have e2:qby awR.1.1 (rOf cM awR.1.2) (rOf cL awR.2)=_:=qp6 qCN;have e3:qeD awR.1.1 (rOf cM awR.1.2) (rOf cL awR.2)=_:=qqe qCN;have f1:qft awO.1 (rOf cP awO.2.1) (rOf cAc awO.2.2)=true:=qzS qCx;have f2:qdo awO.1 (rOf cP awO.2.1) (rOf cAc awO.2.2)=_:=qxX qCx;have f3:qiQ awO.1 (rOf cP awO.2.1) (rOf cAc awO.2.2)=_:=qzW qCx;rw [qB6,qGp] at e2;rw [qB6] at e3;rw [qCi,qGj] at f2;rw [qCi] at f3;show (Tr.ite (qcW awR.1.1 (rOf cM awR.1.2) (rOf cL awR.2)) (Tr.ite (qft awO.1 (rOf cP awO.2.1) (rOf cAc awO.2.2)) (Tr.ite (iEq (qeD awR.1.1 (rOf cM awR.1.2) (rOf cL awR.2)) 0)
  (Tr.ite (sEq (qby awR.1.1 (rOf cM awR.1.2) (rOf cL awR.2)) [112,40,88,41,32,58,45,32,110,111,116,32,113,40,88,44,32,95,41,44,32,88,32,33,61,32,45,51,46])
   (Tr.ite (iEq (qiQ awO.1 (rOf cP awO.2.1) (rOf cAc awO.2.2)) 0) (Tr.ite (sEq (qdo awO.1 (rOf cP awO.2.1) (rOf cAc awO.2.2)) [111,110,32,103,111,40,88,32,105,110,116,41,58,32,43,112,40,88,41,46])
    (Tr.ite (qcC [110,111,116]) (Tr.ite (bNot (qdS [110,111,116])) (Tr.ite (qfr [65,98]) (Tr.ret (PV.bool (qjH [65,98]))) Tr.fail) (Tr.ret (PV.bool false))) Tr.fail)
    (Tr.ret (PV.bool false))) (Tr.ret (PV.bool false))) (Tr.ret (PV.bool false))) (Tr.ret (PV.bool false))) Tr.fail) Tr.fail).run=_
 rw [e1,e2,e3,f1,f2,f3,qme (by decide),qri (by decide),qt5 (by decide),qyq (by decide),awN,awV]
 rfl
theorem qBo:qkf=true:=by simp [qkf,qle,qrO]
theorem qEs:qle=true:=by simp [qle,qrO]
theorem qCq {p:Pr} (h:prR p):(∀ o∈(cpPr p).2.1,enR o)∧∀ x∈(cpPr p).2.2,ruR x:=by
 have ra:∀ a:At,atR a→atR (cpAt a):=fun a ha t ht=>by
  simp only [cpAt,List.mem_map] at ht;obtain⟨u,hu,rfl⟩:=ht;exact ha u (List.mem_of_mem_take hu)
 refine⟨fun o ho a ha=>?_,fun x hx=>?_⟩
 ·simp only [cpPr,List.mem_map] at ho;obtain⟨u,hu,rfl⟩:=ho;simp only [cpEn,List.mem_map] at ha;obtain⟨v,hv,rfl⟩:=ha;exact ra _ (h.1 u (List.mem_of_mem_take hu) v (List.mem_of_mem_take hv))
 ·simp only [cpPr,List.mem_map] at hx;obtain⟨u,hu,rfl⟩:=hx;have hu':=h.2 u (List.mem_of_mem_take hu);refine⟨ra _ hu'.1,fun l hl=>?_⟩
  simp only [cpRu,List.mem_map] at hl;obtain⟨v,hv,rfl⟩:=hl;have hv':=hu'.2 v (List.mem_of_mem_take hv);exact⟨ra _ hv'.1,hv'.2.1,hv'.2.2⟩
end Go.Pv
set_option maxHeartbeats 8000000
set_option maxRecDepth 200000
set_option linter.unusedSimpArgs false
set_option linter.unusedVariables false
namespace Go.Pv
open Go Go.Proofs Go.RowKit
def Std (x:PV):Prop:=∃ H w v,Rel H w x v
def StdL (xs:List PV):Prop:=∃ H w vs,RelL H w xs vs
theorem StdL.at_ {xs:List PV} (h:StdL xs) (i:Nat) {x:PV} (hi:xs[i]?=some x):Std x:=by
 obtain⟨H,w,vs,h⟩:=h;obtain⟨v,_,hr⟩:=h.get hi;exact⟨H,w,v,hr⟩
theorem Std.agg {xs:List PV} (h:Std (.agg xs)):StdL xs:=by
 obtain⟨H,w,v,h⟩:=h;cases h with
 |agg _ vs h=>exact⟨H,w,vs,h⟩
theorem Std.rows {α:Type} {C:Cod α} {l:List α} {t:Tag} (h:Std (.sl (rOf C l) t)):∀ a∈l,StdL (C.enc a):=by
 obtain⟨H,w,v,h⟩:=h;intro a ha;obtain⟨i,hi⟩:=List.getElem?_of_mem ha;cases h with
 |sl p len cap k xs vss t hl hcap hm h hr ht =>
  obtain⟨u,_,hu⟩:=h.get (qEz C hi);exact⟨H,w,u,hu⟩
theorem Std.int {n:Int} (h:Std (.int .i64 n)):-9223372036854775808≤n∧n≤9223372036854775807:=by
 obtain⟨H,w,v,h⟩:=h;cases h with
 |int _ _ hl=>simpa [Lit.wf,IntKind.min,IntKind.max,IntKind.signed,IntKind.bits] using hl
theorem qCt {t:Tm} (h:StdL (cM.enc t)):tmR t:=(h.at_ 3 (x:=.int .i64 t.2.2.2.1) rfl).int
theorem qGd {l:Li} (h:StdL (cL.enc l)):liR l :=
 ⟨fun t ht=>qCt ((h.at_ 2 (x:=.sl (rOf cM l.2.1.2) .non) rfl).rows t ht),(h.at_ 7 (x:=.int .i64 l.2.2.2.1.2.2.2.1) rfl).int,(h.at_ 12 (x:=.int .i64 l.2.2.2.2.2.2.2.1) rfl).int⟩
theorem qE3 {x:Ru} (h:StdL (cRu.enc x)):ruR x :=
 ⟨fun t ht=>qCt ((h.at_ 1 (x:=.sl (rOf cM x.1.2) .non) rfl).rows t ht),fun l hl=>qGd ((h.at_ 2 (x:=.sl (rOf cL x.2) .non) rfl).rows l hl)⟩
theorem qEZ {o:En} (h:StdL (cE.enc o)):enR o:=fun a ha t ht=>qCt (Std.rows (C:=cM) (l:=a.2.2) (t:=.non) (((h.at_ 2 (x:=.sl (rOf cAc o.2.2) .non) rfl).rows a ha).at_ 2 rfl) t ht)
end Go.Pv
set_option maxHeartbeats 4000000
set_option maxRecDepth 200000
set_option linter.unusedSimpArgs false
set_option linter.unusedVariables false
namespace Go.Pv
open Go Go.Proofs Go.RowKit Go.Proofs.YtakhnioifgbdfaaGreatDoor
theorem g_pow : Tryz.prog.globalNamed "internal/strconv.uint64pow10" = some 1 := by kernel_rfl
theorem gt_pow:(Tryz.prog.globals[1]?).map (·.type)=some 217:=by kernel_rfl
theorem g_rng : Tryz.prog.globalNamed "strconv.ErrRange" = some 6 := by kernel_rfl
theorem gt_rng:(Tryz.prog.globals[6]?).map (·.type)=some 165:=by kernel_rfl
theorem g_syn : Tryz.prog.globalNamed "strconv.ErrSyntax" = some 5 := by kernel_rfl
theorem gt_syn:(Tryz.prog.globals[5]?).map (·.type)=some 165:=by kernel_rfl
theorem g_two : Tryz.prog.globalNamed "pedigree/lex.twos" = some 0 := by kernel_rfl
theorem gt_two:(Tryz.prog.globals[0]?).map (·.type)=some 211:=by kernel_rfl
def glAt (W:World):Gl:=⟨fun b=>W.heap[b]?,fun _ _=>.cells #[] 0 (0,0),fun _=>[]⟩
def laidL : List (String × DataW Unit) := [("math/bits.deBruijn32tab", Rows.laid_math_bits_deBruijn32tab), ("math/bits.deBruijn64tab", Rows.laid_math_bits_deBruijn64tab), ("internal/strconv.uint64pow10", Rows.laid_internal_strconv_uint64pow10), ("strconv.ErrRange", Rows.laid_strconv_ErrRange), ("strconv.ErrSyntax", Rows.laid_strconv_ErrSyntax), ("pedigree/lex.twos", Rows.laid_pedigree_lex_twos)]
theorem qiH:(laidL.filter fun x=>x.2.handleName?.isSome)=[]:=by kernel_rfl
theorem qws {W:World} (h:laidMetH Tryz.prog laidL W):GlPow (glAt W):=by
 unfold laidMetH at h
 rw [qiH] at h
 obtain⟨ps,hl,_⟩:=h;refine⟨?_⟩;obtain ⟨g, t, cs, fuel, p, h1, h2, h3, h4⟩ := qkh (nm := "internal/strconv.uint64pow10") hl (.tail _ (.tail _ (.head _)));obtain rfl:=Option.some.inj (g_pow.symm.trans h1);obtain rfl:=Option.some.inj (gt_pow.symm.trans h2);have e:(Rows.laid_internal_strconv_uint64pow10:DataW Unit)=Lib.tabData .u64 Lib.pow10Tab:=by rfl
 rw [e] at h4;have hc:=Lib.cells_of_tab Tryz.underlying217 Tryz.underlying132 (by kernel_rfl) (by kernel_rfl) h4
 obtain⟨T,f,hh⟩:=qlD h1 h3;refine⟨1,T,f,g_pow,?_⟩;show W.heap[1]?=_
 rw [← hc];simpa using hh
theorem qx0 {W:World} (h0:laidMetH Tryz.prog laidL W):GlOk (glAt W):=by
 have h:=h0;unfold laidMetH at h
 rw [qiH] at h
 obtain⟨ps,hl,_⟩:=h;refine⟨qws h0,?_,?_⟩
 ·obtain ⟨g, t, cs, fuel, p, h1, h2, h3, h4⟩ := qkh (nm := "strconv.ErrSyntax") hl (.tail _ (.tail _ (.tail _ (.tail _ (.head _)))));obtain rfl:=Option.some.inj (g_syn.symm.trans h1);obtain rfl:=Option.some.inj (gt_syn.symm.trans h2);obtain⟨u,v,rfl⟩:=qpq Tryz.underlying165 h4;obtain⟨T,f,hh⟩:=qlD h1 h3;exact⟨u,v,5,T,f,g_syn,hh⟩
 ·obtain ⟨g, t, cs, fuel, p, h1, h2, h3, h4⟩ := qkh (nm := "strconv.ErrRange") hl (.tail _ (.tail _ (.tail _ (.head _))));obtain rfl:=Option.some.inj (g_rng.symm.trans h1);obtain rfl:=Option.some.inj (gt_rng.symm.trans h2);obtain⟨u,v,rfl⟩:=qpq Tryz.underlying165 h4;obtain⟨T,f,hh⟩:=qlD h1 h3;exact⟨u,v,6,T,f,g_rng,hh⟩
theorem qqy {H:Type} {enc:TypeId×Value→H} {P:Program} {w:World} {base:Nat} {sp:Nat→Bool} {held:Bool} {fuel:Nat} {t e:TypeId} {n:Nat} {cs:List Value} {zs:List (List UInt8)} {p:List MemPlace}
  (ht:P.underlying t=some (.array n e)) (he:P.underlying e=some .string) (hce:P.cellsOf e=1) (hct:P.cellsOf t=n)
  (h:DataW.trod enc P w base sp held fuel t cs=some (.agg (zs.map fun z=>.lit (.string z)),p)):cs=zs.map fun z=>Value.string ⟨z.toArray⟩:=by
 cases fuel with
 |zero=>simp [DataW.trod] at h
 |succ fuel =>
  simp only [DataW.trod,ht,hce,hct,Nat.mul_one] at h
  split at h
  ·rename_i hl;obtain⟨xs,hm,hx⟩:=Option.map_eq_some_iff.1 h;have hxs:xs.map (·.1)=zs.map fun z=>(DataW.lit (.string z):DataW H):=by
    have:=congrArg Prod.fst hx;simpa using this
   have hxl:xs.length=n:=by simpa using Lib.mapM_length hm
   have hzl:zs.length=n:=by
    have:=congrArg List.length hxs;simp at this;omega
   apply List.ext_getElem?;intro i;by_cases hi:i < n
   ·obtain⟨b,hb,hf⟩:=Lib.mapM_at hm i i (by simp [hi])
    obtain⟨z,hc,rfl,_⟩:=DataW.trod_string he hf;have h1:cs[i]?=some (.string z):=by
     have:=congrArg (·[0]?) hc;simpa [List.getElem?_take,List.getElem?_drop] using this
    have h2:(xs.map (·.1))[i]?=some (DataW.lit (.string z.data.toList):DataW H):=by simp [hb]
    rw [hxs] at h2;simp only [List.getElem?_map,Option.map_eq_some_iff,DataW.lit.injEq,Lit.string.injEq] at h2;obtain⟨z',hz',rfl⟩:=h2;simp [h1,hz']
   ·rw [List.getElem?_eq_none (by omega),List.getElem?_eq_none (by simp;omega)]
  ·cases h
theorem qvU {W:World} (h0:laidMetH Tryz.prog laidL W):GlLex (glAt W):=by
 have h:=h0;unfold laidMetH at h
 rw [qiH] at h
 obtain⟨ps,hl,_⟩:=h;refine⟨qx0 h0,?_⟩;obtain ⟨g, t, cs, fuel, p, h1, h2, h3, h4⟩ := qkh (nm := "pedigree/lex.twos") hl (.tail _ (.tail _ (.tail _ (.tail _ (.tail _ (.head _))))));obtain rfl:=Option.some.inj (g_two.symm.trans h1);obtain rfl:=Option.some.inj (gt_two.symm.trans h2);have e:(Rows.laid_pedigree_lex_twos:DataW Unit)=.agg (twosV.map fun z=>.lit (.string z)):=by rfl
 rw [e] at h4;have hc:=qqy Tryz.underlying211 Tryz.underlying9 (by kernel_rfl) (by kernel_rfl) h4
 obtain⟨T,f,hh⟩:=qlD h1 h3;refine⟨0,T,f,g_two,?_⟩;show W.heap[0]?=_
 rw [← hc];simpa using hh
theorem qCY:laidOutB Tryz.prog=true:=by kernel_rfl
theorem qzb {F:List PV→Tr PV} {f:FuncId} {fn:Func} {s:ChangeSpec} (hsim:∀ {gl:Gl},GlLex gl→SimP Tryz.prog gl f fun args=>(F args).run) (hF:∀ xs,ArgL Tryz.prog fn.params.toList xs→(∃ H w vs,RelL H w xs vs)→(F xs).run=some (.bool true))
  (hrt:fn.resultTypes=#[4]) (hsv:s.vars=[]) (hT:(fn.params.toList.all fun t=>okT Tryz.prog 16 t&&Tryz.prog.readableRec t&&decide (t < Tryz.prog.types.size))=true)
  {H:Type} {enc:TypeId×Value→H} {W:World} {base:Nat} {args:Array Value} {ds gs:List (DataW H)} {before:List MemPlace} (hfn:∀ ds:List (DataW H),ds.length=fn.params.size→s.fn H ds={ results:=[.lit (.bool true)],args:=ds })
  (hval:∀ (j:Nat) t v,fn.params[j]?=some t→args[j]?=some v→Value.okWide Tryz.prog W .any base t v) (hW:DataW.Whole enc Tryz.prog fn.params.toList s.vars false W args.toList ds gs before) (hL:laidMetH Tryz.prog laidL W) :
  Calls Tryz.prog f args W fun e W'=>∃ v,e=.returned v∧s.post enc Tryz.prog fn false true false false W args v W':=by
 have hW':=hW;obtain⟨p,q,hA,hV,rfl,hfz,hnd⟩:=hW';have hT':∀ t∈fn.params.toList,okT Tryz.prog 16 t=true∧Tryz.prog.readableRec t=true∧t < Tryz.prog.types.size:=by
  intro t ht;have:=List.all_eq_true.1 hT t ht;simp only [Bool.and_eq_true,decide_eq_true_eq] at this;exact⟨this.1.1,this.1.2,this.2⟩
 obtain⟨xs,hx,ha⟩:=qvf (n:=16) (fun j t v ht hv=>hval j t v (by simpa using ht) (by simpa using hv)) hA (List.all_eq_true.2 fun t ht=>(hT' t ht).1)
 have hlen:ds.length=fn.params.size:=by
  have h1:∀ {ts:List TypeId} {vs:List Value} {ds:List (DataW H)} {ps:List MemPlace},DataW.TrodAll enc Tryz.prog W 0 (fun _=>true) true ts vs ds ps→ds.length=ts.length:=by
   intro ts
   induction ts with
   |nil=>intro vs ds ps h;obtain⟨rfl,rfl,rfl⟩:=Go.ChangeShapes.trodAll_nil h;rfl
   |cons t ts ih =>
    intro vs ds ps h;obtain⟨v,vs',d,ds',p,q,rfl,rfl,rfl,hd,hrest⟩:=Go.ChangeShapes.trodAll_cons h;simp [ih hrest]
  simpa using h1 hA
 have hc:=(hsim (qvU hL)).run xs _ (hF xs ha ⟨_,_,_,hx⟩) (ghOf W) W args.toList rfl rfl rfl (fun b o h=>h) hx
 simp only [Array.toArray_toList] at hc;refine hc.mono ?_;rintro e W' ⟨v,rfl,hb,hr⟩;cases hr
 exact⟨_,rfl,qBK qCY hrt Tryz.underlying4 hsv (fun t ht=>(hT' t ht).2) hW (hfn ds hlen) hb.1⟩
end Go.Pv
namespace Go.Proofs.YtakhnioifgbdfaaGreatDoor
open Go Go.Proofs Go.RowKit Go.Pv Go.ChangeShapes Go.WideShapes Go.ChangeAt
theorem qi3 {t:TypeId} {k:IntKind} {xs:List PV} (hu:Tryz.prog.underlying t=some (.int k)) (h:Shp Tryz.prog t xs):∃ n,xs=[.int k n]:=by
 cases h with
 |int t k' n h=>rw [hu] at h;cases h;exact⟨n,rfl⟩
 |bool t b h=>rw [hu] at h;cases h
 |str t l h=>rw [hu] at h;cases h
 |sl t e xss h hx=>rw [hu] at h;cases h
 |struct t fs xs h hx=>rw [hu] at h;cases h
theorem qkJ {t:TypeId} {xs:List PV} (hu:Tryz.prog.underlying t=some .string) (h:Shp Tryz.prog t xs):∃ l,xs=[.str l]:=by
 cases h with
 |str t l h=>exact⟨l,rfl⟩
 |int t k' n h=>rw [hu] at h;cases h
 |bool t b h=>rw [hu] at h;cases h
 |sl t e xss h hx=>rw [hu] at h;cases h
 |struct t fs xs h hx=>rw [hu] at h;cases h
theorem qcS {t:TypeId} {fs:Array Field} {xs:List PV} (hu:Tryz.prog.underlying t=some (.struct fs)) (h:Shp Tryz.prog t xs):ShpL Tryz.prog (fs.toList.map (·.type)) xs:=by
 cases h with
 |struct t fs xs h hx=>rw [hu] at h;cases h;exact hx
 |str t l h=>rw [hu] at h;cases h
 |int t k' n h=>rw [hu] at h;cases h
 |bool t b h=>rw [hu] at h;cases h
 |sl t e xss h hx=>rw [hu] at h;cases h
theorem qFc {t e:TypeId} {xs:List PV} (hu:Tryz.prog.underlying t=some (.slice e)) (h:Shp Tryz.prog t xs):∃ xss,xs=[.sl xss .non]∧∀ ys,ys∈xss→Shp Tryz.prog e ys:=by
 cases h with
 |sl t e xss h hx=>rw [hu] at h;cases h;exact⟨xss,rfl,hx⟩
 |str t l h=>rw [hu] at h;cases h
 |int t k' n h=>rw [hu] at h;cases h
 |bool t b h=>rw [hu] at h;cases h
 |struct t fs xs h hx=>rw [hu] at h;cases h
theorem qjv {α:Type} (C:Cod α) {t e:TypeId} {xs:List PV} (hu:Tryz.prog.underlying t=some (.slice e)) (he:∀ ys,Shp Tryz.prog e ys→∃ a,ys=C.enc a) (h:Shp Tryz.prog t xs):∃ l:List α,xs=[.sl (rOf C l) .non]:=by
 obtain⟨xss,rfl,hx⟩:=qFc hu h;have:∃ l:List α,xss=rOf C l:=by
  clear h
  induction xss with
  |nil=>exact⟨[],rfl⟩
  |cons y ys ih =>
   obtain⟨a,rfl⟩:=he y (hx y (List.mem_cons_self ..));obtain⟨l,rfl⟩:=ih fun z hz=>hx z (List.mem_cons_of_mem _ hz)
   exact⟨a::l,rfl⟩
 obtain⟨l,rfl⟩:=this;exact⟨l,rfl⟩
theorem qDe {xs:List PV} (h:Shp Tryz.prog 25 xs):∃ v:Vl,xs=[.int .i64 v.1,.int .i64 v.2.1,.str v.2.2]:=by
 have h1:=qcS Tryz.underlying25 h;cases h1 with
 |cons t ts xs ys ha hs =>
  obtain⟨k,rfl⟩:=qi3 Tryz.underlying23 ha;cases hs with
  |cons t ts xs ys hb hs =>
   obtain⟨n,rfl⟩:=qi3 Tryz.underlying2 hb;cases hs with
   |cons t ts xs ys hc hs =>
    obtain⟨s,rfl⟩:=qkJ Tryz.underlying9 hc;cases hs
    exact⟨(k,n,s),rfl⟩
theorem qvI {t:TypeId} {xs:List PV} (hu:Tryz.prog.underlying t=some .bool) (h:Shp Tryz.prog t xs):∃ b,xs=[.bool b]:=by
 cases h with
 |bool _ b _=>exact⟨b,rfl⟩
 |int _ _ _ h=>rw [hu] at h;cases h
 |str _ _ h=>rw [hu] at h;cases h
 |sl _ _ _ h _=>rw [hu] at h;cases h
 |struct _ _ _ h _=>rw [hu] at h;cases h
theorem qqG {xs:List PV} (h:Shp Tryz.prog 27 xs):∃ v:Tm,xs=cM.enc v:=by
 have h1:=qcS Tryz.underlying27 h;cases h1 with
 |cons t ts xs ys ha0 hs =>
  obtain⟨x0,rfl⟩:=qi3 Tryz.underlying22 ha0;cases hs with
  |cons t ts xs ys ha1 hs =>
   obtain⟨x1,rfl⟩:=qkJ Tryz.underlying9 ha1;cases hs with
   |cons t ts xs ys ha2 hs =>
    obtain⟨x2,rfl⟩:=qDe ha2;cases hs
    exact⟨(x0,x1,x2),rfl⟩
theorem qql {xs:List PV} (h:Shp Tryz.prog 31 xs):∃ v:At,xs=cA.enc v:=by
 have h1:=qcS Tryz.underlying31 h;cases h1 with
 |cons t ts xs ys ha0 hs =>
  obtain⟨x0,rfl⟩:=qkJ Tryz.underlying9 ha0;cases hs with
  |cons t ts xs ys ha1 hs =>
   obtain⟨x1,rfl⟩:=qjv cM Tryz.underlying29 (fun _ h=>qqG h) ha1
   cases hs
   exact⟨(x0,x1),rfl⟩
theorem qDZ {xs:List PV} (h:Shp Tryz.prog 34 xs):∃ v:Li,xs=cL.enc v:=by
 have h1:=qcS Tryz.underlying34 h;cases h1 with
 |cons t ts xs ys ha0 hs =>
  obtain⟨x0,rfl⟩:=qi3 Tryz.underlying28 ha0;cases hs with
  |cons t ts xs ys ha1 hs =>
   obtain⟨x1,rfl⟩:=qql ha1;cases hs with
   |cons t ts xs ys ha2 hs =>
    obtain⟨x2,rfl⟩:=qi3 Tryz.underlying32 ha2;cases hs with
    |cons t ts xs ys ha3 hs =>
     obtain⟨x3,rfl⟩:=qqG ha3;cases hs with
     |cons t ts xs ys ha4 hs =>
      obtain⟨x4,rfl⟩:=qqG ha4;cases hs
      exact⟨(x0,x1,x2,x3,x4),rfl⟩
theorem qBJ {xs:List PV} (h:Shp Tryz.prog 48 xs):∃ v:Ru,xs=cRu.enc v:=by
 have h1:=qcS Tryz.underlying48 h;cases h1 with
 |cons t ts xs ys ha0 hs =>
  obtain⟨x0,rfl⟩:=qql ha0;cases hs with
  |cons t ts xs ys ha1 hs =>
   obtain⟨x1,rfl⟩:=qjv cL Tryz.underlying46 (fun _ h=>qDZ h) ha1
   cases hs
   exact⟨(x0,x1),rfl⟩
theorem qEq {xs:List PV} (h:Shp Tryz.prog 99 xs):∃ v:Int,xs=cI.enc v:=by
 obtain⟨n,rfl⟩:=qi3 Tryz.underlying99 h;exact⟨n,rfl⟩
theorem qBC {xs:List PV} (h:Shp Tryz.prog 51 xs):∃ v:De,xs=cD.enc v:=by
 have h1:=qcS Tryz.underlying51 h;cases h1 with
 |cons t ts xs ys ha0 hs =>
  obtain⟨x0,rfl⟩:=qkJ Tryz.underlying9 ha0;cases hs with
  |cons t ts xs ys ha1 hs =>
   obtain⟨x1,rfl⟩:=qvI Tryz.underlying4 ha1;cases hs with
   |cons t ts xs ys ha2 hs =>
    obtain⟨x2,rfl⟩:=qjv cI Tryz.underlying49 (fun _ h=>qEq h) ha2
    cases hs
    exact⟨(x0,x1,x2),rfl⟩
theorem qxt {xs:List PV} (h:Shp Tryz.prog 101 xs):∃ v:Pa,xs=cP.enc v:=by
 have h1:=qcS Tryz.underlying101 h;cases h1 with
 |cons t ts xs ys ha0 hs =>
  obtain⟨x0,rfl⟩:=qkJ Tryz.underlying9 ha0;cases hs with
  |cons t ts xs ys ha1 hs =>
   obtain⟨x1,rfl⟩:=qi3 Tryz.underlying99 ha1;cases hs
   exact⟨(x0,x1),rfl⟩
theorem qEa {xs:List PV} (h:Shp Tryz.prog 103 xs):∃ v:Ac,xs=cAc.enc v:=by
 have h1:=qcS Tryz.underlying103 h;cases h1 with
 |cons t ts xs ys ha0 hs =>
  obtain⟨x0,rfl⟩:=qvI Tryz.underlying4 ha0;cases hs with
  |cons t ts xs ys ha1 hs =>
   obtain⟨x1,rfl⟩:=qql ha1;cases hs
   exact⟨(x0,x1),rfl⟩
theorem qFG {xs:List PV} (h:Shp Tryz.prog 55 xs):∃ v:En,xs=cE.enc v:=by
 have h1:=qcS Tryz.underlying55 h;cases h1 with
 |cons t ts xs ys ha0 hs =>
  obtain⟨x0,rfl⟩:=qkJ Tryz.underlying9 ha0;cases hs with
  |cons t ts xs ys ha1 hs =>
   obtain⟨x1,rfl⟩:=qjv cP Tryz.underlying52 (fun _ h=>qxt h) ha1
   cases hs with
   |cons t ts xs ys ha2 hs =>
    obtain⟨x2,rfl⟩:=qjv cAc Tryz.underlying53 (fun _ h=>qEa h) ha2
    cases hs
    exact⟨(x0,x1,x2),rfl⟩
theorem quA {x:PV} (h:Arg Tryz.prog 48 x):∃ v:Ru,x=.agg (cRu.enc v):=by
 rcases h with⟨fs,ys,hu,rfl,hs⟩|⟨hne,_⟩
 ·obtain⟨v,rfl⟩:=qBJ hs;exact⟨v,rfl⟩
 ·exact absurd Tryz.underlying48 (hne _)
theorem qvC {x:PV} (h:Arg Tryz.prog 51 x):∃ v:De,x=.agg (cD.enc v):=by
 rcases h with⟨fs,ys,hu,rfl,hs⟩|⟨hne,_⟩
 ·obtain⟨v,rfl⟩:=qBC hs;exact⟨v,rfl⟩
 ·exact absurd Tryz.underlying51 (hne _)
theorem qCe {x:PV} (h:Arg Tryz.prog 55 x):∃ v:En,x=.agg (cE.enc v):=by
 rcases h with⟨fs,ys,hu,rfl,hs⟩|⟨hne,_⟩
 ·obtain⟨v,rfl⟩:=qFG hs;exact⟨v,rfl⟩
 ·exact absurd Tryz.underlying55 (hne _)
def qq2:DataW Unit→Array Value
 |.agg l=>(l.map fun d=>match d with|.lit (.int k n)=>Value.int k n|.lit (.string s)=>Value.string ⟨s.toArray⟩|_=>undef).toArray
 |_=>#[]
def low:Nat:=(World.holding Tryz.prog default ⟨#[],#[],[]⟩).heap.size
def qmF (os:Os):World :=
 let w0:=World.holding Tryz.prog os ⟨#[.cells #[.string ⟨#[118,97,108,117,101,32,111,117,116,32,111,102,32,114,97,110,103,101]⟩] 245,.cells #[.string ⟨#[105,110,118,97,108,105,100,32,115,121,110,116,97,120]⟩] 245],#[],[]⟩
 { w0 with heap:=((((((w0.heap.modify 5 fun
  |.cells _ t frozen=>.cells #[.iface 243 (.pointer (some ⟨low+1,0,none⟩))] t frozen
  |o=>o).modify 6 fun
  |.cells _ t frozen=>.cells #[.iface 243 (.pointer (some ⟨low,0,none⟩))] t frozen
  |o=>o).modify 3 fun
  |.cells _ t frozen=>.cells (qq2 Rows.laid_math_bits_deBruijn32tab) t frozen
  |o=>o).modify 4 fun
  |.cells _ t frozen=>.cells (qq2 Rows.laid_math_bits_deBruijn64tab) t frozen
  |o=>o).modify 1 fun
  |.cells _ t frozen=>.cells (qq2 Rows.laid_internal_strconv_uint64pow10) t frozen
  |o=>o).modify 0 fun
  |.cells _ t frozen=>.cells (qq2 Rows.laid_pedigree_lex_twos) t frozen
  |o=>o) }
theorem own:ownKnob Tryz.prog.godebug=none:=by kernel_rfl
theorem qAn (os:Os) (args:Array Value):laidMet Tryz.prog laidL ((qmF os).forCall (fun _ _=>0) ⟨#[],args,[]⟩).memory :=
 laidMet_of_run' 8 (by kernel_rfl) (by kernel_rfl)
end Go.Proofs.YtakhnioifgbdfaaGreatDoor
set_option maxHeartbeats 8000000
set_option maxRecDepth 200000
set_option linter.unusedSimpArgs false
set_option linter.unusedVariables false
namespace Go.Pv
open Go Go.Proofs Go.RowKit
def Inj {α:Type} (ok:α→Bool) (K:α→List Wv):Prop:=∀ a b m m',ok a=true→ok b=true→K a++m=K b++m'→a=b∧m=m'
theorem qvz {α:Type} {ok:α→Bool} {K:α→List Wv} (H:Inj ok K) {c:Wv} (hc:c≠tk 6 [44]):∀ (l l':List α),l.all ok=true→l'.all ok=true→∀ m m',(l.flatMap fun b=>tk 6 [44]::K b)++c::m=(l'.flatMap fun b=>tk 6 [44]::K b)++c::m'→l=l'∧m=m'
 |[],[],_,_,m,m',h=>by
  simp only [List.flatMap_nil,List.nil_append,List.cons.injEq,true_and] at h
  exact⟨rfl,h⟩
 |[],b::l',_,_,m,m',h=>by
  simp only [List.flatMap_nil,List.nil_append,List.flatMap_cons,List.cons_append,List.cons.injEq] at h
  exact absurd h.1 hc
 |a::l,[],_,_,m,m',h=>by
  simp only [List.flatMap_nil,List.nil_append,List.flatMap_cons,List.cons_append,List.cons.injEq] at h
  exact absurd h.1.symm hc
 |a::l,b::l',h1,h2,m,m',h=>by
  simp only [List.all_cons,Bool.and_eq_true] at h1 h2;simp only [List.flatMap_cons,List.cons_append,List.cons.injEq,true_and,List.append_assoc] at h
  obtain⟨e1,k1⟩:=H a b _ _ h1.1 h2.1 h;obtain⟨e2,k2⟩:=qvz H hc l l' h1.2 h2.2 m m' k1;exact⟨by rw [e1,e2],k2⟩
theorem qpv {α:Type} {ok:α→Bool} {K:α→List Wv} (H:Inj ok K) {c:Wv} (hc:c≠tk 6 [44]) (hk:∀ a,ok a=true→∀ m m',K a++m≠c::m'):∀ (l l':List α),l.all ok=true→l'.all ok=true→∀ m m',sepK K l++c::m=sepK K l'++c::m'→l=l'∧m=m'
 |[],[],_,_,m,m',h=>by
  simp only [sepK,List.nil_append,List.cons.injEq,true_and] at h
  exact⟨rfl,h⟩
 |[],b::l',_,h2,m,m',h=>by
  simp only [List.all_cons,Bool.and_eq_true] at h2;simp only [sepK,List.nil_append,List.append_assoc] at h
  exact absurd h.symm (hk b h2.1 _ _)
 |a::l,[],h1,_,m,m',h=>by
  simp only [List.all_cons,Bool.and_eq_true] at h1;simp only [sepK,List.nil_append,List.append_assoc] at h
  exact absurd h (hk a h1.1 _ _)
 |a::l,b::l',h1,h2,m,m',h=>by
  simp only [List.all_cons,Bool.and_eq_true] at h1 h2;simp only [sepK,List.append_assoc] at h
  obtain⟨e1,k1⟩:=H a b _ _ h1.1 h2.1 h;obtain⟨e2,k2⟩:=qvz H hc l l' h1.2 h2.2 m m' k1;exact⟨by rw [e1,e2],k2⟩
theorem qqK {t:Tm}:(tmK t).1=2∨(tmK t).1=4∨(tmK t).1=5∨(tmK t).1=3:=by
 unfold tmK;split
 ·exact .inl rfl
 ·split
  ·show vlK _=2∨vlK _=4∨vlK _=5∨vlK _=3
   unfold vlK;split<;>simp
  ·exact .inr (.inr (.inr rfl))
theorem qt8 {a b:Tm} (ha:tmOk a=true) (hb:tmOk b=true) (h:tmK a=tmK b):a=b:=by
 obtain⟨ak,an,av⟩:=a;obtain⟨bk,bn,bv⟩:=b;unfold tmOk at ha hb;unfold tmK at h
 simp only at ha hb h;have vk:∀ v:Vl,vlK v=4∨vlK v=5:=fun v=>by unfold vlK;split<;>simp
 by_cases a1:ak=1
 ·rw [if_pos a1] at ha h;simp only [Bool.and_eq_true,decide_eq_true_eq] at ha;by_cases b1:bk=1
  ·rw [if_pos b1] at hb h;simp only [Bool.and_eq_true,decide_eq_true_eq] at hb;simp only [tk,Prod.mk.injEq,true_and,and_true] at h
   rw [a1,b1,ha.2,hb.2,h]
  ·rw [if_neg b1] at hb h;by_cases b2:bk=2
   ·rw [if_pos b2] at h
    simp only [tk,Prod.mk.injEq] at h
    rcases vk bv with e|e<;>rw [e] at h<;>exact absurd h.1 (by decide)
   ·rw [if_neg b2] at h
    simp [tk] at h
 ·rw [if_neg a1] at ha h;by_cases a2:ak=2
  ·rw [if_pos a2] at ha h;simp only [Bool.and_eq_true,decide_eq_true_eq] at ha;by_cases b1:bk=1
   ·rw [if_pos b1] at h
    simp only [tk,Prod.mk.injEq] at h
    rcases vk av with e|e<;>rw [e] at h<;>exact absurd h.1 (by decide)
   ·rw [if_neg b1] at hb h;by_cases b2:bk=2
    ·rw [if_pos b2] at hb h;simp only [Bool.and_eq_true,decide_eq_true_eq] at hb;simp only [Prod.mk.injEq] at h
     rw [a2,b2,ha.2,hb.2,h.2.2]
    ·rw [if_neg b2] at h
     simp only [tk,Prod.mk.injEq] at h
     rcases vk av with e|e<;>rw [e] at h<;>exact absurd h.1 (by decide)
  ·rw [if_neg a2] at ha h;simp only [decide_eq_true_eq] at ha;by_cases b1:bk=1
   ·rw [if_pos b1] at h
    simp [tk] at h
   ·rw [if_neg b1] at hb h;by_cases b2:bk=2
    ·rw [if_pos b2] at h
     simp only [tk,Prod.mk.injEq] at h
     rcases vk bv with e|e<;>rw [e] at h<;>exact absurd h.1 (by decide)
    ·rw [if_neg b2] at hb;simp only [decide_eq_true_eq] at hb;rw [ha,hb]
theorem qEX:Inj tmOk fun t=>[tmK t]:=by
 intro a b m m' ha hb h;simp only [List.cons_append,List.nil_append,List.cons.injEq] at h
 exact⟨qt8 ha hb h.1,h.2⟩
theorem qCj {t:Tm} {x:Txt} {m m':List Wv}:[tmK t]++m≠tk 6 x::m':=by
 intro h;simp only [List.cons_append,List.nil_append,List.cons.injEq] at h
 have h1:=congrArg Prod.fst h.1;simp only [tk] at h1;rcases qqK (t:=t) with e|e|e|e<;>omega
theorem qvB:Inj atOk atK:=by
 intro a b m m' ha hb h;unfold atOk at ha hb;simp only [Bool.and_eq_true] at ha hb;unfold atK at h
 simp only [List.cons_append,List.cons.injEq,List.append_assoc,List.nil_append,true_and] at h
 obtain⟨h1,h2⟩:=qpv qEX (c:=tk 6 [41]) (by decide) (fun a _ m m'=>qCj) a.2 b.2 ha.1 hb.1 m m' h.2
 refine⟨Prod.ext ?_ h1,h2⟩;have:=h.1;simp only [tk,Prod.mk.injEq] at this;exact this.2.1
theorem qFy {o p:Int} (ho:opOk o=true) (hp:opOk p=true) (h:opW o=opW p):o=p:=by
 simp only [opOk,decide_eq_true_eq] at ho hp;obtain⟨n,rfl⟩:∃ n:Nat,o=(n:Int):=⟨o.toNat,by omega⟩
 obtain⟨k,rfl⟩:∃ n:Nat,p=(n:Int):=⟨p.toNat,by omega⟩
 have fin:∀ n k:Fin 7,1≤n.val→1≤k.val→opW (n.val:Nat)=opW (k.val:Nat)→n=k:=by decide
 have:=fin ⟨n,by omega⟩ ⟨k,by omega⟩ (by simp;omega) (by simp;omega) h
 simp only [Fin.mk.injEq] at this;omega
theorem qES {s:Txt} (h:nmB s=true):∀ r∈resv,s≠r:=by
 intro r hr e;unfold nmB at h
 simp only [Bool.and_eq_true,Bool.not_eq_true',List.contains_eq_mem,decide_eq_false_iff_not] at h
 exact h.2 (by rw [e];exact hr)
theorem qFT:Inj liOk liK:=by
 intro a b m m' ha hb h;obtain⟨ak,aa,ao,ax,ay⟩:=a;obtain⟨bk,ba,bo,bx,byy⟩:=b;unfold liOk qzo at ha hb;unfold liK at h
 simp only at ha hb h;have atN:∀ {x:At},atOk x=true→x.1≠[110,111,116]:=fun hx=>by
  unfold atOk at hx;simp only [Bool.and_eq_true] at hx;exact qES hx.2 _ (by simp [resv])
 have atT:∀ {x:At} {t:Tm} {l l':List Wv},atK x++l≠tmK t::l':=fun {x t l l'} h=>by
  unfold atK at h
  simp only [List.cons_append,List.cons.injEq] at h
  have h1:=congrArg Prod.fst h.1;simp only [tk] at h1;rcases qqK (t:=t) with e|e|e|e<;>omega
 have nT:∀ {t:Tm} {s:Txt} {l l':List Wv},tk 1 s::l≠tmK t::l':=fun {t s l l'} h=>by
  simp only [List.cons.injEq] at h
  have h1:=congrArg Prod.fst h.1;simp only [tk] at h1;rcases qqK (t:=t) with e|e|e|e<;>omega
 have atH:∀ {x:At} {s:Txt} {l l':List Wv},atK x++l=tk 1 s::l'→x.1=s:=fun {x s l l'} h=>by
  unfold atK at h
  simp only [List.cons_append,List.cons.injEq] at h
  have:=h.1;simp only [tk,Prod.mk.injEq] at this;exact this.2.1
 have plain:∀ {o:Int} {x y:Tm},(decide (o=0)&&decide (x=tm0)&&decide (y=tm0))=true→o=0∧x=tm0∧y=tm0:=fun h=>by
  simp only [Bool.and_eq_true,decide_eq_true_eq] at h
  exact⟨h.1.1,h.1.2,h.2⟩
 by_cases a1:ak=1
 ·rw [if_pos (.inl a1)] at ha;rw [if_pos a1] at h
  rw [Bool.and_eq_true] at ha;obtain⟨ha1,ha2⟩:=ha;obtain⟨p1,p2,p3⟩:=plain ha2;by_cases b1:bk=1
  ·rw [if_pos (.inl b1)] at hb;rw [if_pos b1] at h
   rw [Bool.and_eq_true] at hb;obtain⟨hb1,hb2⟩:=hb;obtain⟨q1,q2,q3⟩:=plain hb2;obtain⟨h1,h2⟩:=qvB aa ba m m' ha1 hb1 h;exact⟨by rw [a1,b1,h1,p1,p2,p3,q1,q2,q3],h2⟩
  ·by_cases b2:bk=2
   ·rw [if_neg b1,if_pos b2] at h
    exact absurd (atH h) (atN ha1)
   ·rw [if_neg b1,if_neg b2] at h
    exact absurd h atT
 ·by_cases a2:ak=2
  ·rw [if_pos (.inr a2)] at ha;rw [if_neg a1,if_pos a2] at h
   rw [Bool.and_eq_true] at ha;obtain⟨ha1,ha2⟩:=ha;obtain⟨p1,p2,p3⟩:=plain ha2;by_cases b1:bk=1
   ·rw [if_pos (.inl b1)] at hb;rw [if_pos b1] at h
    rw [Bool.and_eq_true] at hb;exact absurd (atH h.symm) (atN hb.1)
   ·by_cases b2:bk=2
    ·rw [if_pos (.inr b2)] at hb;rw [if_neg b1,if_pos b2] at h
     rw [Bool.and_eq_true] at hb;obtain⟨hb1,hb2⟩:=hb;obtain⟨q1,q2,q3⟩:=plain hb2;simp only [List.cons_append,List.cons.injEq,true_and] at h
     obtain⟨h1,h2⟩:=qvB aa ba m m' ha1 hb1 h;exact⟨by rw [a2,b2,h1,p1,p2,p3,q1,q2,q3],h2⟩
    ·rw [if_neg b1,if_neg b2] at h
     exact absurd h nT
  ·rw [if_neg (by omega)] at ha
   rw [if_neg a1,if_neg a2] at h
   by_cases a3:ak=3
   ·rw [if_pos a3] at ha;simp only [Bool.and_eq_true,decide_eq_true_eq] at ha;by_cases b1:bk=1
    ·rw [if_pos b1] at h
     exact absurd h.symm atT
    ·by_cases b2:bk=2
     ·rw [if_neg b1,if_pos b2] at h
      exact absurd h.symm nT
     ·rw [if_neg (by omega)] at hb
      rw [if_neg b1,if_neg b2] at h
      by_cases b3:bk=3
      ·rw [if_pos b3] at hb;simp only [Bool.and_eq_true,decide_eq_true_eq] at hb;simp only [List.cons_append,List.nil_append,List.cons.injEq] at h
       obtain⟨h1,h2,h3,h4⟩:=h;have e1:=qt8 ha.1.1.1 hb.1.1.1 h1;have e3:=qt8 ha.1.2 hb.1.2 h3;simp only [tk,Prod.mk.injEq,true_and,and_true] at h2;have e2:=qFy ha.1.1.2 hb.1.1.2 h2;exact⟨by rw [a3,b3,ha.2,hb.2,e1,e2,e3],h4⟩
      ·rw [if_neg b3] at hb;cases hb
   ·rw [if_neg a3] at ha;cases ha
theorem qFX {l:Li} {x:Txt} {m m':List Wv}:liK l++m≠tk 6 x::m':=by
 unfold liK;split
 ·intro h;unfold atK at h
  simp only [List.cons_append,List.cons.injEq] at h
  exact absurd (congrArg Prod.fst h.1) (by simp [tk])
 ·split
  ·intro h;simp only [List.cons_append,List.cons.injEq] at h
   exact absurd (congrArg Prod.fst h.1) (by simp [tk])
  ·exact qCj (m:=tk 6 (opW l.2.2.1)::tmK l.2.2.2.2::m)
theorem quF {α:Type} {ok:α→Bool} {K:α→List Wv} (H:Inj ok K) {c d:Wv} (hc:c≠tk 6 [44]) (hd:d≠c) (hk:∀ a,ok a=true→∀ m m',K a++m≠c::m') {l l':List α} (h1:l.all ok=true) (h2:l'.all ok=true) {m m':List Wv}
  (h:((if l=[] then [] else d::sepK K l)++[c])++m=((if l'=[] then [] else d::sepK K l')++[c])++m'):l=l'∧m=m':=by
 by_cases e:l=[]<;>by_cases e':l'=[]
 ·rw [if_pos e,if_pos e'] at h
  simp only [List.nil_append,List.cons_append,List.cons.injEq,true_and] at h
  exact⟨by rw [e,e'],h⟩
 ·rw [if_pos e,if_neg e'] at h
  simp only [List.nil_append,List.cons_append,List.cons.injEq] at h
  exact absurd h.1.symm hd
 ·rw [if_neg e,if_pos e'] at h
  simp only [List.nil_append,List.cons_append,List.cons.injEq] at h
  exact absurd h.1 hd
 ·rw [if_neg e,if_neg e'] at h
  simp only [List.nil_append,List.cons_append,List.cons.injEq,true_and,List.append_assoc] at h
  exact qpv H hc hk l l' h1 h2 m m' h
theorem qED:Inj ruOk ruK:=by
 intro a b m m' ha hb h;unfold ruOk at ha hb;simp only [Bool.and_eq_true] at ha hb;unfold ruK at h
 rw [List.append_assoc (atK a.1),List.append_assoc (atK b.1)] at h
 obtain⟨h1,h2⟩:=qvB a.1 b.1 _ _ ha.1 hb.1 h;obtain⟨h3,h4⟩:=quF qFT (c:=tk 6 [46]) (d:=tk 6 [58,45]) (by decide) (by decide) (fun a _ m m'=>qFX) ha.2 hb.2 h2
 exact⟨Prod.ext h1 h3,h4⟩
theorem qCd:Inj tyOk tyK:=by
 intro a b m m' ha hb h;simp only [tyOk,decide_eq_true_eq] at ha hb;unfold tyK at h
 simp only [List.cons_append,List.nil_append,List.cons.injEq] at h
 refine⟨?_,h.2⟩;rcases ha with rfl|rfl<;>rcases hb with rfl|rfl
 ·rfl
 ·exact absurd h.1 (by decide)
 ·exact absurd h.1 (by decide)
 ·rfl
theorem qE2:Inj deOk deK:=by
 intro a b m m' ha hb h;unfold deOk at ha hb;simp only [Bool.and_eq_true] at ha hb;unfold deK at h
 simp only [List.cons_append,List.cons.injEq,List.append_assoc,List.nil_append,true_and] at h
 obtain⟨h1,h2,h3⟩:=h;obtain⟨h4,h5⟩:=qpv qCd (c:=tk 6 [41]) (by decide) (fun a _ m m' h=>by
  unfold tyK at h
  simp only [List.cons_append,List.cons.injEq] at h
  exact absurd (congrArg Prod.fst h.1) (by simp [tk])) a.2.2 b.2.2 ha.1 hb.1 _ _ h3
 simp only [List.cons.injEq,true_and] at h5;refine⟨Prod.ext ?_ (Prod.ext ?_ h4),h5⟩
 ·simp only [tk,Prod.mk.injEq] at h2;exact h2.2.1
 ·cases ea:a.2.1<;>cases eb:b.2.1
  ·rfl
  ·rw [ea,eb] at h1;exact absurd h1 (by decide)
  ·rw [ea,eb] at h1;exact absurd h1 (by decide)
  ·rfl
theorem qEJ:Inj paOk paK:=by
 intro a b m m' ha hb h;unfold paOk at ha hb;simp only [Bool.and_eq_true] at ha hb;unfold paK at h
 simp only [List.cons_append,List.nil_append,List.cons.injEq] at h
 obtain⟨h1,h2,h3⟩:=h;obtain⟨e,_⟩:=qCd a.2 b.2 [] [] ha.1 hb.1 (by unfold tyK;rw [h2])
 simp only [tk,Prod.mk.injEq] at h1;exact⟨Prod.ext h1.2.1 e,h3⟩
theorem qF1:Inj acOk acK:=by
 intro a b m m' ha hb h;unfold acK at h
 simp only [List.cons_append,List.cons.injEq] at h
 obtain⟨h1,h2⟩:=qvB a.2 b.2 m m' ha hb h.2;refine⟨Prod.ext ?_ h1,h2⟩;have h3:=h.1;cases ea:a.1<;>cases eb:b.1
 ·rfl
 ·rw [ea,eb] at h3;exact absurd h3 (by decide)
 ·rw [ea,eb] at h3;exact absurd h3 (by decide)
 ·rfl
theorem qFe:Inj enOk enK:=by
 intro a b m m' ha hb h;unfold enOk at ha hb;simp only [Bool.and_eq_true] at ha hb;unfold enK at h
 simp only [List.cons_append,List.cons.injEq,List.append_assoc,true_and] at h
 obtain⟨h1,h2⟩:=h;obtain⟨h3,h4⟩:=qpv qEJ (c:=tk 6 [41]) (by decide) (fun a _ m m' h=>by
  unfold paK at h
  simp only [List.cons_append,List.cons.injEq] at h
  exact absurd (congrArg Prod.fst h.1) (by simp [tk])) a.2.1 b.2.1 ha.1.1 hb.1.1 _ _ h2
 have h4:((if a.2.2=[] then [] else tk 6 [58]::sepK acK a.2.2)++[tk 6 [46]])++m=((if b.2.2=[] then [] else tk 6 [58]::sepK acK b.2.2)++[tk 6 [46]])++m':=by simpa using h4
 obtain⟨h5,h6⟩:=quF qF1 (c:=tk 6 [46]) (d:=tk 6 [58]) (by decide) (by decide) (fun a _ m m' h=>by
  unfold acK at h
  simp only [List.cons_append,List.cons.injEq] at h
  have:=h.1;cases ea:a.1<;>rw [ea] at this<;>exact absurd this (by decide)) ha.1.2 hb.1.2 h4
 simp only [tk,Prod.mk.injEq] at h1;exact⟨Prod.ext h1.2.1 (Prod.ext h3 h5),h6⟩
theorem qyU {l l':List Wv} {s:Txt} (h:Lx l s) (h':Lx l' s):l=l':=by
 obtain⟨a,h1,h2⟩:=qvO h;obtain⟨b,h3,h4⟩:=qvO h';rw [h1] at h3;cases h3
 rw [← h2,h4]
theorem qrg {α:Type} {ok:α→Bool} {R:α→Prop} {T:α→Txt} {K:α→List Wv} (H:∀ a,ok a=true→R a→Has (T a) (K a)) (I:Inj ok K) {a b:α} (ha:ok a=true) (hb:ok b=true) (ra:R a) (rb:R b):T a=T b↔a=b:=by
 refine⟨fun h=>?_,fun h=>by rw [h]⟩
 have h1:=H a ha ra [] [] rfl (.nil [] false rfl);have h2:=H b hb rb [] [] rfl (.nil [] false rfl);rw [h] at h1;exact (I a b [] [] ha hb (qyU h1 h2)).1
end Go.Pv
