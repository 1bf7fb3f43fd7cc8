/- Part 6 of the proof: pure values for the machine's values, what functions compute over them, and laws of what is computed. Conditions: none beyond each theorem's own premises. -/
import Derived.Test.YtlemepahgalogaaGreatDoorPvGb5
import Derived.Test.YtlemepahgalogaaGreatDoorCards
import Derived.Test.YtlemepahgalogaaGreatDoorTie
noncomputable section
set_option maxHeartbeats 8000000
set_option maxRecDepth 200000
set_option linter.unusedSimpArgs false
set_option linter.unusedVariables false
namespace Go.Pv
open Go Go.Proofs
def AtI (L:List Wd) (i:Int) (l:List Wd):Prop:=∃ m:Nat,i=m∧L.drop m=l∧m≤L.length
@[simp] def qst (L:List Wd) (i n:Int):Store:=⟨[[.sl (rOf cW L) .non,.int .i64 i,.int .i64 n,.bool false,.int .i64 0]],[],[76]⟩
@[simp] def qsb (L:List Wd) (i n a:Int):Store:=⟨[[.sl (rOf cW L) .non,.int .i64 i,.int .i64 n,.bool true,.int .i64 a]],[],[76]⟩
def QOk {α:Type} (f:α→PV) (n:Int) (L:List Wd):Rs α→Option (PR×Store)→Prop
 |.ok a r,W=>∃ i,AtI L i r∧W=some (.val (f a),qst L i n)
 |.no r,W=>∃ a i,W=some (.val (f a),qsb L i n (plc n r))
section
variable {L l : List Wd} {i : Int} {w : Wd}
theorem AtI.step (h:AtI L i (w::l)) (hL:L.length≤65536):AtI L (iAdd .i64 i 1) l:=by
 obtain⟨m,rfl,hd,hm⟩:=h;have hlt:m < L.length:=by
  have:=congrArg List.length hd;simp only [List.length_drop,List.length_cons] at this;omega
 refine⟨m+1,qcf (by omega),?_,hlt⟩
 rw [← List.drop_drop,hd];rfl
theorem AtI.cons (h:AtI L i (w::l)):∃ (m:Nat) (hlt:m < L.length),i=m∧L[m]=w:=by
 obtain⟨m,rfl,hd,hm⟩:=h;have hlt:m < L.length:=by
  have:=congrArg List.length hd;simp only [List.length_drop,List.length_cons] at this;omega
 refine⟨m,hlt,rfl,?_⟩;rw [List.drop_eq_getElem_cons hlt] at hd;exact (List.cons.inj hd).1
theorem AtI.nil (h:AtI L i []):i=L.length:=by
 obtain⟨m,rfl,hd,hm⟩:=h;have:=List.drop_eq_nil_iff.1 hd;omega
end
attribute [simp] qGK qwz qzM qFo qbj qaL qaA qaq qzl qqA qvs qtm qet qeb qcF qdD qdz qbT qcC qdf qdj qh1 qiE qhM qhO qt4 qtj qb0 qb4 qb3 qyz qAw qhL qi4 qhK qgg qct qGo qk3 qlN qAI qcD qn7 qlp qbR qbM qbi qbr qbB qat qaD qhX qiK qd9 qcS qfE qfG qfF qpU qlu qp8 qqd qqg qiB qia qin qk2 qkZ qiy qmC qh7 qls qle qfR qfx qfP qfN qfu qfC qfM qim qio qfw qfz qiv qhS qiz qmP qiS qiw qi0 qn4 qiZ
@[simp] theorem qres_law (t:qU):qLQ t=some (.bool (resv t)):=by
 by_cases h2:t=[98,97,115,101]<;>by_cases h3:t=[118,105,101,119]<;>by_cases h4:t=[111,110]<;>by_cases h5:t=[110,111,116]<;>simp [qLQ,qJY,↓Tr.run_ite,resv,h2,h3,h4,h5]
section
variable {L l : List Wd} {i : Int} (h : AtI L i l) (n : Int)
include h
theorem qRv:qzf (rOf cW L) i n=some (.int .i64 (plc n l)):=by
 cases l with
 |nil=>have:=h.nil;subst this;simp [qzf,qx6,↓Tr.run_ite,plc]
 |cons w l =>
  obtain⟨m,hlt,rfl,hw⟩:=h.cons;have h2:(m:Int) < (L.length:Int):=by omega
  simp [qzf,qx6,↓Tr.run_ite,plc,hlt,hw,h2]
theorem qaH (k:Int) (t:qU):qyb (rOf cW L) i n k t=some (.bool (wIs k t l)):=by
 cases l with
 |nil=>have:=h.nil;subst this;simp [qyb,qw2,↓Tr.run_ite,wIs]
 |cons w l =>
  obtain⟨m,hlt,rfl,hw⟩:=h.cons;have h2:(m:Int) < (L.length:Int):=by omega
  by_cases h3:w.1=k<;>by_cases h4:t=[]<;>simp [qyb,qw2,↓Tr.run_ite,wIs,hlt,hw,h2,h3,h4]
theorem qIa:qAd (rOf cW L) i n=some (.bool (wNm l)):=by
 have k:=qaH h n 1 [];cases hi:wIs 1 [] l with
 |false =>
  have:wNm l=false:=by
   cases l with
   |nil=>rfl
   |cons w l =>
    simp only [wIs,decide_true,Bool.true_or,Bool.and_true,decide_eq_false_iff_not] at hi;simp [wNm,hi]
  simp [qAd,qwF,↓Tr.run_ite,this,k,hi]
 |true=>cases l with
  |nil=>cases hi
  |cons w l =>
   have h1:w.1=1:=by simpa [wIs] using hi
   obtain⟨m,hlt,rfl,hw⟩:=h.cons;simp [qAd,qwF,↓Tr.run_ite,k,hi,hlt,hw,wNm,h1]
theorem qhT:qka (rOf cW L) i n=some (.val (.tup []),qsb L i n (plc n l)):=by
 have k:=qRv h n;simp [qka,qzA,↓Tr.run_ite,k]
variable (hL : L.length ≤ 65536)
include hL
theorem qiC (k:Int) (t:qU):QOk vcW n L (qa2 k t l) (qbU k t (rOf cW L) i n):=by
 have e:=qaH h n k t;cases hi:wIs k t l with
 |false =>
  have f:=qhT h n;rw [show qa2 k t l=.no l from qaK hi]
  refine⟨(0,[],(0,0,[]),0),i,?_⟩;simp [qbU,qvt,↓Tr.run_ite,e,hi,f]
 |true=>cases l with
  |nil=>cases hi
  |cons w l =>
   rw [show qa2 k t (w::l)=.ok w l from qaX hi]
   refine⟨iAdd .i64 i 1,h.step hL,?_⟩;obtain⟨m,hlt,rfl,hw⟩:=h.cons;simp [qbU,qvt,↓Tr.run_ite,e,hi,hlt,hw]
theorem qcn (t:qU):QOk (fun _=>.tup []) n L (qa2 6 t l) (qla t (rOf cW L) i n):=by
 have k:=qiC h n hL 6 t;cases h1:qa2 6 t l with
 |ok w r =>
  rw [h1] at k;obtain⟨i',hi,k⟩:=k;exact⟨i',hi,by simp [qla,qxf,↓Tr.run_ite,k]⟩
 |no r =>
  rw [h1] at k;obtain⟨a,i',k⟩:=k;exact⟨a,i',by simp [qla,qxf,↓Tr.run_ite,k]⟩
theorem qtY:QOk .str n L (qhW l) (qeH (rOf cW L) i n):=by
 have k:=qIa h n;unfold qhW;cases h1:wNm l with
 |false =>
  have f:=qhT h n;rw [ch_f h1];exact⟨[],i,by simp [qeH,qqb,↓Tr.run_ite,k,h1,f]⟩
 |true=>cases l with
  |nil=>cases h1
  |cons w l =>
   have e:pCh wNm (qar qIq fun w=>qaz w.2.1) qoa (w::l)=.ok w.2.1 l:=if_pos h1
   have h2:wIs 1 [] (w::l)=true:=by
    simp only [wNm,Bool.and_eq_true,decide_eq_true_eq] at h1;simp [wIs,h1.1]
   have k2:=qiC h n hL 1 [];rw [show qa2 1 [] (w::l)=.ok w l from qaX h2] at k2
   obtain⟨i',hi,k2⟩:=k2;rw [e];exact⟨i',hi,by simp [qeH,qqb,↓Tr.run_ite,k,h1,k2]⟩
theorem qHz:QOk (.int .i64) n L (pTyp l) (qgh (rOf cW L) i n):=by
 have k:=qaH h n 1 [105,110,116];have k2:=qiC h n hL 1 [115,121,109];unfold pTyp;cases h1:wIs 1 [105,110,116] l with
 |true=>cases l with
  |nil=>cases h1
  |cons w l =>
   rw [qaX h1];exact⟨_,h.step hL,by simp [qgh,qrm,↓Tr.run_ite,k,h1]⟩
 |false =>
  rw [qaK h1];cases h2:wIs 1 [115,121,109] l with
  |true=>cases l with
   |nil=>cases h2
   |cons w l =>
    rw [show qa2 1 [115,121,109] (w::l)=.ok w l from qaX h2] at k2
    obtain⟨i',hi,k2⟩:=k2;rw [qaX h2];exact⟨i',hi,by simp [qgh,qrm,↓Tr.run_ite,k,h1,k2]⟩
  |false =>
   rw [show qa2 1 [115,121,109] l=.no l from qaK h2] at k2
   obtain⟨a,i',k2⟩:=k2;rw [qaK h2];exact⟨2,i',by simp [qgh,qrm,↓Tr.run_ite,k,h1,k2]⟩
theorem qA5:QOk vcM n L (qcz l) (qbV (rOf cW L) i n):=by
 have e2:=qaH h n 2 [];have e4:=qaH h n 4 [];have e5:=qaH h n 5 [];have tk:∀ {k:Int} {w:Wd} {l':List Wd},l=w::l'→wIs k [] l=true→∃ i',AtI L i' l'∧qbU k [] (rOf cW L) i n=some (.val (vcW w),qst L i' n):=by
  intro k w l' e hw;have k2:=qiC h n hL k [];subst e;rw [show qa2 k [] (w::l')=.ok w l' from qaX hw] at k2
  exact k2
 unfold qcz;cases h2:wIs 2 [] l with
 |true=>cases l with
  |nil=>cases h2
  |cons w l =>
   obtain⟨i',hi,k2⟩:=tk rfl h2;rw [qaX h2];exact⟨i',hi,by simp [qbV,qjG,↓Tr.run_ite,e2,h2,k2]⟩
 |false =>
  rw [qaK h2];cases h4:wIs 4 [] l with
  |true=>cases l with
   |nil=>cases h4
   |cons w l =>
    obtain⟨i',hi,k2⟩:=tk rfl h4;rw [qaX h4];exact⟨i',hi,by simp [qbV,qjG,↓Tr.run_ite,e2,h2,e4,h4,k2]⟩
  |false =>
   rw [qaK h4];cases h5:wIs 5 [] l with
   |true=>cases l with
    |nil=>cases h5
    |cons w l =>
     obtain⟨i',hi,k2⟩:=tk rfl h5;rw [qaX h5];exact⟨i',hi,by simp [qbV,qjG,↓Tr.run_ite,e2,h2,e4,h4,e5,h5,k2]⟩
   |false =>
    rw [qaK h5];cases h3:wIs 3 [] l with
    |true=>cases l with
     |nil=>cases h3
     |cons w l =>
      obtain⟨i',hi,k2⟩:=tk rfl h3;rw [qaX h3];exact⟨i',hi,by simp [qbV,qjG,↓Tr.run_ite,e2,h2,e4,h4,e5,h5,k2]⟩
    |false =>
     have k2:=qiC h n hL 3 [];rw [show qa2 3 [] l=.no l from qaK h3] at k2
     obtain⟨a,i',k2⟩:=k2;rw [qaK h3];exact⟨(3,[],0,0,[]),i',by simp [qbV,qjG,↓Tr.run_ite,e2,h2,e4,h4,e5,h5,k2]⟩
end
section
variable (L : List Wd) (i n a : Int)
@[simp] theorem qnextb_law (k:Int) (t:qU):qxg (rOf cW L) i n a k t=some (.bool false):=by simp [qxg,qyu,↓Tr.run_ite]
@[simp] theorem qnameb_law:qwi (rOf cW L) i n a=some (.bool false):=by simp [qwi,qA0,↓Tr.run_ite]
@[simp] theorem qfaultb_law:qrA (rOf cW L) i n a=some (.val (.tup []),qsb L i n a):=by simp [qrA,qtl,↓Tr.run_ite]
@[simp] theorem qtakeb_law (k:Int) (t:qU):qeG k t (rOf cW L) i n a=some (.val (vcW (0,[],(0,0,[]),0)),qsb L i n a):=by simp [qeG,qAM,↓Tr.run_ite]
@[simp] theorem qmarkb_law (t:qU):qxx t (rOf cW L) i n a=some (.val (.tup []),qsb L i n a):=by simp [qxx,qya,↓Tr.run_ite]
@[simp] theorem qtnameb_law:qlr (rOf cW L) i n a=some (.val (.str []),qsb L i n a):=by simp [qlr,qtK,↓Tr.run_ite]
@[simp] theorem qkindb_law:qsh (rOf cW L) i n a=some (.val (.int .i64 2),qsb L i n a):=by simp [qsh,qAO,↓Tr.run_ite]
@[simp] theorem qtermb_law:qfq (rOf cW L) i n a=some (.val (vcM (3,[],0,0,[])),qsb L i n a):=by simp [qfq,qyU,↓Tr.run_ite]
end
end Go.Pv
set_option maxHeartbeats 8000000
set_option maxRecDepth 200000
set_option linter.unusedSimpArgs false
set_option linter.unusedVariables false
namespace Go.Pv
open Go Go.Proofs
def qBg {α γ:Type} (L:List Wd) (n:Int) (V G:List α→Int→γ) (B:List α→Int→Int→γ) (acc:List α) (i:Int):Rs α→Prop
 |.no r=>∃ b i',V acc i=B (acc++[b]) i' (plc n r)
 |.ok a r=>match wIs 6 [44] r with
  |true=>∃ i',AtI L i' (r.drop 1)∧V acc i=V (acc++[a]) i'
  |false=>∃ i',AtI L i' r∧V acc i=G (acc++[a]) i'
def qok {α γ:Type} (L:List Wd) (n:Int) (V G:List α→Int→γ) (B:List α→Int→Int→γ) (acc:List α) (i:Int):Rs α→Prop
 |.no r=>∃ b i',V acc i=B (acc++[b]) i' (plc n r)
 |.ok a r=>match wIs 6 [44] r with
  |true=>match wIs 6 [41] (r.drop 1) with
   |true=>∃ i',V acc i=B (acc++[a]) i' (plc n (r.drop 1))
   |false=>∃ i',AtI L i' (r.drop 1)∧V acc i=V (acc++[a]) i'
  |false=>∃ i',AtI L i' r∧V acc i=G (acc++[a]) i'
section
variable {α γ : Type} {p : Ps α} (hp : Good p) {n : Int} {L : List Wd} {V G : List α → Int → γ} {B : List α → Int → Int → γ}
include hp
theorem qwL (E:∀ acc i l,AtI L i l→acc.length+l.length≤65537→qBg L n V G B acc i (p l)) :
  ∀ (m:Nat) (acc:List α) (l:List Wd) (i:Int),AtI L i l→l.length < m→acc.length+l.length≤65537→match pRep p m acc l with
   |.ok bs r=>∃ i',AtI L i' r∧V acc i=G bs i'
   |.no r=>∃ bs i',V acc i=B bs i' (plc n r)
 |0,_,_,_,_,h,_=>absurd h (Nat.not_lt_zero _)
 |m+1,acc,l,i,hi,h,hb=>by
  have e:=E acc i l hi hb;rw [qb7];cases h1:p l with
  |no r =>
   rw [h1] at e;rw [qam h1];obtain⟨b,i',e⟩:=e;exact⟨_,i',e⟩
  |ok a r =>
   have hr:=qsC hp h1;rw [h1] at e;rw [qao h1];unfold qh9;cases hw:wIs 6 [44] r with
   |false =>
    simp only [qBg,qok,hw] at e;rw [qaK hw];exact e
   |true=>cases r with
    |nil=>cases hw
    |cons w r =>
     simp only [qBg,qok,hw] at e;obtain⟨i',k1,k2⟩:=e;rw [qaX hw,k2];simp only [List.length_cons] at hr;exact qwL E m (acc++[a]) r i' k1 (by omega) (by simp only [List.length_append,List.length_singleton];omega)
theorem qyn (hq:∀ l,wIs 6 [41] l=true→p l=.no l) (E:∀ acc i l,AtI L i l→wIs 6 [41] l=false→acc.length+l.length≤65537→qok L n V G B acc i (p l)) :
  ∀ (m:Nat) (acc:List α) (l:List Wd) (i:Int),AtI L i l→wIs 6 [41] l=false→l.length < m→acc.length+l.length≤65537→match pRep p m acc l with
   |.ok bs r=>∃ i',AtI L i' r∧V acc i=G bs i'
   |.no r=>∃ bs i',V acc i=B bs i' (plc n r)
 |0,_,_,_,_,_,h,_=>absurd h (Nat.not_lt_zero _)
 |m+1,acc,l,i,hi,hn,h,hb=>by
  have e:=E acc i l hi hn hb;rw [qb7];cases h1:p l with
  |no r =>
   rw [h1] at e;rw [qam h1];obtain⟨b,i',e⟩:=e;exact⟨_,i',e⟩
  |ok a r =>
   have hr:=qsC hp h1;rw [h1] at e;rw [qao h1];unfold qh9;cases hw:wIs 6 [44] r with
   |false =>
    simp only [qBg,qok,hw] at e;rw [qaK hw];exact e
   |true=>cases r with
    |nil=>cases hw
    |cons w r =>
     rw [qaX hw];simp only [List.length_cons] at hr;simp only [qok,hw,List.drop_succ_cons,List.drop_zero] at e;cases hb2:wIs 6 [41] r with
     |true =>
      simp only [hb2] at e;obtain⟨i',e⟩:=e;cases m with
      |zero=>omega
      |succ m =>
       rw [qb7,qam (hq r hb2)];exact⟨_,i',e⟩
     |false =>
      simp only [hb2] at e;obtain⟨i',k1,k2⟩:=e;rw [k2];exact qyn hq E m (acc++[a]) r i' k1 hb2 (by omega) (by simp only [List.length_append,List.length_singleton];omega)
end
attribute [simp] qgi qgB qdA qeQ qeZ qe6 qe0 qe5 qeN quf qvN qx4 qwh qiq qEX qnh qh6 qpa qpd qoT qpf qhn qke qjD qg0 qg4
def qaS (b:Bool) (L:List Wd) (n a:Int) (s:qU) (acc:List Tm) (i:Int):Store:=⟨[[.sl (rOf cW L) .non,.int .i64 i,.int .i64 n,.bool b,.int .i64 a],[.str [],.sl [] .full],[.str s,.sl (rOf cM acc) (.tok 0)]],[(acc.length,5,94)],[76,48,48]⟩
def qaV (L:List Wd) (n:Int) (s:qU) (acc:List Tm) (i:Int):LOut:=qcc [.ptr 0 0,.ptr 1 0,.ptr 2 0] (qaS false L n 0 s acc i)
theorem qST (L:List Wd) (n a:Int) (s:qU) (acc:List Tm) (i:Int):qcc [.ptr 0 0,.ptr 1 0,.ptr 2 0] (qaS true L n a s acc i)=some (.exit 0,[.ptr 0 0,.ptr 1 0,.ptr 2 0],qaS true L n a s acc i):=by
 unfold qaS;rw [qTo];simp [qyD,↓Tr.run_ite]
def qaG (L:List Wd) (n:Int) (s:qU) (acc:List Tm) (i:Int):LOut:=some (.exit 0,[.ptr 0 0,.ptr 1 0,.ptr 2 0],qaS false L n 0 s acc i)
def qaB (L:List Wd) (n:Int) (s:qU) (acc:List Tm) (i a:Int):LOut:=some (.exit 0,[.ptr 0 0,.ptr 1 0,.ptr 2 0],qaS true L n a s acc i)
theorem qW6 {L:List Wd} (hL:L.length≤65536) (n:Int) (s:qU) (acc:List Tm) (i:Int) (l:List Wd) (h:AtI L i l) (hb:acc.length+l.length≤65537):qBg L n (qaV L n s) (qaG L n s) (qaB L n s) acc i (qcz l):=by
 have k:=qA5 h n hL;cases h1:qcz l with
 |no r =>
  rw [h1] at k;obtain⟨⟨x1,x2,x3,x4,x5⟩,i',k⟩:=k;refine⟨(x1,x2,x3,x4,x5),i',?_⟩;unfold qaV qaB qaS;rw [qy1];simp [qiV,↓Tr.run_ite,k];rw [if_pos (by omega)]
  rfl
 |ok a r =>
  rw [h1] at k;obtain⟨i',hi,k⟩:=k;obtain⟨x1,x2,x3,x4,x5⟩:=a;have e:=qaH hi n 6 [44];unfold qBg;cases hw:wIs 6 [44] r with
  |false =>
   simp only [hw];refine⟨i',hi,?_⟩;unfold qaV qaG qaS;rw [qy1];simp [qiV,↓Tr.run_ite,k,e,hw];rw [if_pos (by omega)]
   rfl
  |true=>cases r with
   |nil=>cases hw
   |cons w r =>
    simp only [hw];refine⟨_,hi.step hL,?_⟩;unfold qaV qaS
    conv=>lhs;rw [qy1]
    simp [qiV,↓Tr.run_ite,k,e,hw];rw [if_pos (by omega)]
    simp
theorem qli {L l:List Wd} {i:Int} (h:AtI L i l) (n:Int) (hL:L.length≤65536):QOk vcA n L (qhD l) (qc3 (rOf cW L) i n):=by
 have bad:=fun i a s acc=>(show qcc _ _=_ from qST L n a s acc i)
 simp only [qaS] at bad;have bad0:=fun i a s=>bad i a s []
 simp only [qca,List.length_nil] at bad0;have k1:=qtY h n hL;unfold qhD qhC;cases h1:qhW l with
 |no r =>
  rw [h1] at k1;obtain⟨s,i1,k1⟩:=k1;rw [qam h1];exact⟨(s,[]),i1,by simp [qc3,qhk,qkk,↓Tr.run_ite,k1,bad0]⟩
 |ok s l =>
  rw [h1] at k1;obtain⟨i1,hi1,k1⟩:=k1;rw [qao h1];have k2:=qcn hi1 n hL [40];cases h2:qa2 6 [40] l with
  |no r =>
   rw [h2] at k2;obtain⟨a,i2,k2⟩:=k2;rw [qam (qam h2)];exact⟨(s,[]),i2,by simp [qc3,qhk,qkk,↓Tr.run_ite,k1,k2,bad0]⟩
  |ok w l =>
   rw [h2] at k2;obtain⟨i2,hi2,k2⟩:=k2;have k3:=qaH hi2 n 6 [41];have e0:∀ f:List Tm→Ps At,qar (qar (qa2 6 [40]) fun _=>pIf 6 [41] (fun _=>qaz []) (qar (pRow qcz) fun l=>qar (qa2 6 [41]) fun _=>qaz l)) f (w::l)=qar (pIf 6 [41] (fun _=>qaz []) (qar (pRow qcz) fun l=>qar (qa2 6 [41]) fun _=>qaz l)) f l:=by
    intro f;obtain⟨e,_⟩:=qmv h2;have:qa2 6 [40] (w::l)=.ok w l:=by rw [← e];exact h2
    unfold qar;rw [this]
   obtain⟨e,_⟩:=qmv h2;rw [e,e0];cases h3:wIs 6 [41] l with
   |true=>cases l with
    |nil=>cases h3
    |cons w l =>
     rw [qao (show pIf 6 [41] _ _ (w::l)=.ok [] l from qaX h3)]
     exact⟨_,hi2.step hL,by simp [qc3,qhk,↓Tr.run_ite,k1,k2,k3,h3]⟩
   |false =>
    have hl:l.length≤65536:=by
     obtain⟨m,_,hd,hm⟩:=hi2;rw [← hd,List.length_drop];omega
    have k4:=qwL qiL (n:=n) (L:=L) (qW6 hL n s) (l.length+1) [] l i2 hi2 (Nat.lt_succ_self _) (by simp only [List.length_nil];omega)
    have e1:pIf 6 [41] (fun _=>qaz []) (qar (pRow qcz) fun l=>qar (qa2 6 [41]) fun _=>qaz l) l=qar (pRow qcz) (fun l=>qar (qa2 6 [41]) fun _=>qaz l) l:=qaK h3
    cases h4:pRow qcz l with
    |no r =>
     rw [show pRep qcz (l.length+1) [] l=.no r from h4] at k4
     obtain⟨bs,i4,k4⟩:=k4;rw [qam (e1.trans (qam h4))];have k4:qcc _ _=_:=k4;simp only [qaG,qaB,qaS,qca,List.length_nil] at k4;exact⟨(s,bs),i4,by simp [qc3,qhk,qci,↓Tr.run_ite,k1,k2,k3,h3,k4]⟩
    |ok bs r =>
     rw [show pRep qcz (l.length+1) [] l=.ok bs r from h4] at k4
     obtain⟨i4,hi4,k4⟩:=k4;have k4:qcc _ _=_:=k4;simp only [qaG,qaB,qaS,qca,List.length_nil] at k4;have k5:=qcn hi4 n hL [41];cases h5:qa2 6 [41] r with
     |no r =>
      rw [h5] at k5;obtain⟨a,i5,k5⟩:=k5;rw [qam (e1.trans ((qao h4).trans (qam h5)))];exact⟨(s,bs),i5,by simp [qc3,qhk,qci,↓Tr.run_ite,k1,k2,k3,h3,k4,k5]⟩
     |ok w r =>
      rw [h5] at k5;obtain⟨i5,hi5,k5⟩:=k5;rw [qao (e1.trans ((qao h4).trans (qao h5)))];exact⟨i5,hi5,by simp [qc3,qhk,qci,↓Tr.run_ite,k1,k2,k3,h3,k4,k5]⟩
@[simp] theorem qatomb_law (L:List Wd) (i n a:Int):qmh (rOf cW L) i n a=some (.val (vcA ([],[])),qsb L i n a):=by
 have bad:=(show qcc _ _=_ from qST L n a [] [] i)
 simp only [qaS,qca,List.length_nil] at bad;simp [qmh,qyB,qkk,↓Tr.run_ite,bad]
end Go.Pv
set_option maxHeartbeats 8000000
set_option maxRecDepth 200000
set_option linter.unusedSimpArgs false
set_option linter.unusedVariables false
namespace Go.Pv
open Go Go.Proofs
attribute [simp] qIS qIC qv3 qxJ qw5 qAA qDu qFA qMo qDQ qDE qEA qr1 qwK qvT qzK qAY qn3 qp9 qk7 qGe qF9 qn6 qqe qs6 qrU qrD qrr qrb qs8 qrH qsG qrv qth qr2 qss qsO qqr qqZ qvM qwu qwm qwB qrB qrF qq9 qqu qqU qqJ qsA qqW qwQ qwY
def qoS (b:Bool) (L:List Wd) (n a i:Int):Store:=⟨[[.sl (rOf cW L) .non,.int .i64 i,.int .i64 n,.bool b,.int .i64 a]],[],[76]⟩
def qoV (b:Bool) (j:Nat) (L:List Wd) (n a i:Int):LOut:=qib [.ptr 0 0,.sl (rOf cS opL) .full,.int .i64 j] (qoS b L n a i)
theorem qVy {j:Nat} {t:List UInt8} (h:opL[j]?=some t):∃ h:j < opL.length,opL[j]=t∧j < 6:=by
 obtain⟨h3,h4⟩:=List.getElem?_eq_some_iff.1 h;exact⟨h3,h4,h3⟩
section
variable {L l : List Wd} {i : Int} {w : Wd} (n : Int)
theorem qN2 {j:Nat} {t:List UInt8} (h:opL[j]?=some t) (hi:AtI L i l) (hw:wIs 6 t l=true):qoV false j L n 0 i=some (.ret,[.int .i64 (j+1:Nat)],qoS false L n 0 (iAdd .i64 i 1)):=by
 obtain⟨h3,h4,h5⟩:=qVy h;have h2:((j:Nat):Int) < 6:=by omega
 have h6:((j:Nat):Int) < (opL.length:Int):=by omega
 have e:=qaH hi n 6 t;unfold qoV qoS;rw [qQc];simp [qyq,↓Tr.run_ite,h3,h4,e,hw,qcf (show j < 9223372036854775807 by omega),h6]
theorem qOj {j:Nat} {t:List UInt8} (h:opL[j]?=some t) (hi:AtI L i l) (hw:wIs 6 t l=false):qoV false j L n 0 i=qoV false (j+1) L n 0 i:=by
 obtain⟨h3,h4,h5⟩:=qVy h;have h6:((j:Nat):Int) < (opL.length:Int):=by omega
 have e:=qaH hi n 6 t;unfold qoV qoS
 conv=>lhs;rw [qQc]
 simp [qyq,↓Tr.run_ite,h3,h4,e,hw,qcf (show j < 9223372036854775807 by omega),h6]
theorem zabk (hi:AtI L i l):qoV false 6 L n 0 i=some (.exit 0,[.ptr 0 0],qoS false L n 0 i):=by
 unfold qoV qoS;rw [qQc];have:opL.length=6:=rfl;simp [qyq,↓Tr.run_ite,this]
theorem qOp (a:Int) {j:Nat} (h:j < 6):qoV true j L n a i=qoV true (j+1) L n a i:=by
 have h3:j < opL.length:=h;have h6:((j:Nat):Int) < (opL.length:Int):=by omega
 unfold qoV qoS
 conv=>lhs;rw [qR1]
 simp [qwk,↓Tr.run_ite,h3,qcf (show j < 9223372036854775807 by omega),h6]
theorem qZN (a:Int):qoV true 6 L n a i=some (.exit 0,[.ptr 0 0],qoS true L n a i):=by
 unfold qoV qoS;rw [qR1];have:opL.length=6:=rfl;simp [qwk,↓Tr.run_ite,this]
theorem qK8:rOf cS opL=[[.str [61]],[.str [33,61]],[.str [60]],[.str [60,61]],[.str [62]],[.str [62,61]]]:=rfl
@[simp] theorem qopb_law (L:List Wd) (i n a:Int):qG8 (rOf cW L) i n a=some (.val (.int .i64 0),qsb L i n a):=by
 have h:qib _ _=_:=(qOp (L:=L) (i:=i) n a (j:=0) (by omega)).trans ((qOp n a (j:=1) (by omega)).trans ((qOp n a (j:=2) (by omega)).trans ((qOp n a (j:=3) (by omega)).trans ((qOp n a (j:=4) (by omega)).trans ((qOp n a (j:=5) (by omega)).trans (qZN n a))))))
 simp only [qoS,qK8,Int.ofNat_zero,Int.natCast_zero] at h
 simp [-qK6,-qd6,qG8,qK7,qtn,↓Tr.run_ite,h]
theorem qWR (hi:AtI L i l) (hL:L.length≤65536):QOk (.int .i64) n L (pOp l) (qyy (rOf cW L) i n):=by
 have fin:∀ {j:Nat} {a:Int} {w:Wd} {r:List Wd},l=w::r→qoV false 0 L n 0 i=some (.ret,[.int .i64 ((j+1:Nat):Int)],qoS false L n 0 (iAdd .i64 i 1))→((j+1:Nat):Int)=a→QOk (.int .i64) n L (.ok a r) (qyy (rOf cW L) i n):=by
  intro j a w r e h ha;subst e;have h:qib _ _=_:=h;simp only [qoS,qK8,Int.natCast_zero] at h
  exact⟨_,hi.step hL,by simp [-qK6,-qd6,qyy,qME,↓Tr.run_ite,qzJ,h,← ha]⟩
 unfold pOp;cases h1:wIs 6 [61] l with
 |true=>cases l with
  |nil=>cases h1
  |cons w l=>rw [qaX h1];exact fin (j:=0) rfl (qN2 n rfl hi h1) rfl
 |false =>
  have f1:=qOj n (j:=0) rfl hi h1;rw [qaK h1];cases h2:wIs 6 [33,61] l with
  |true=>cases l with
   |nil=>cases h2
   |cons w l=>rw [qaX h2];exact fin (j:=1) rfl (f1.trans (qN2 n rfl hi h2)) rfl
  |false =>
   have f2:=f1.trans (qOj n (j:=1) rfl hi h2);rw [qaK h2];cases h3:wIs 6 [60] l with
   |true=>cases l with
    |nil=>cases h3
    |cons w l=>rw [qaX h3];exact fin (j:=2) rfl (f2.trans (qN2 n rfl hi h3)) rfl
   |false =>
    have f3:=f2.trans (qOj n (j:=2) rfl hi h3);rw [qaK h3];cases h4:wIs 6 [60,61] l with
    |true=>cases l with
     |nil=>cases h4
     |cons w l=>rw [qaX h4];exact fin (j:=3) rfl (f3.trans (qN2 n rfl hi h4)) rfl
    |false =>
     have f4:=f3.trans (qOj n (j:=3) rfl hi h4);rw [qaK h4];cases h5:wIs 6 [62] l with
     |true=>cases l with
      |nil=>cases h5
      |cons w l=>rw [qaX h5];exact fin (j:=4) rfl (f4.trans (qN2 n rfl hi h5)) rfl
     |false =>
      have f5:=f4.trans (qOj n (j:=4) rfl hi h5);rw [qaK h5];cases h6:wIs 6 [62,61] l with
      |true=>cases l with
       |nil=>cases h6
       |cons w l=>rw [qaX h6];exact fin (j:=5) rfl (f5.trans (qN2 n rfl hi h6)) rfl
      |false =>
       have h:qib _ _=_:=(f5.trans (qOj n (j:=5) rfl hi h6)).trans (zabk n hi);simp only [qoS,qK8,Int.natCast_zero] at h
       have f:=qhT hi n;rw [qaK h6];exact⟨0,i,by simp [-qK6,-qd6,qyy,qME,↓Tr.run_ite,qzJ,h,f]⟩
theorem qTO (h:AtI L i l) (n:Int) (hL:L.length≤65536):QOk vcL n L (pLit l) (qa8 (rOf cW L) i n):=by
 have e1:=qaH h n 1 [110,111,116];unfold pLit;cases h1:wIs 1 [110,111,116] l with
 |true=>cases l with
  |nil=>cases h1
  |cons w l =>
   have k:=qli (h.step hL) n hL;rw [qaX h1];cases h2:qhD l with
   |no r =>
    rw [h2] at k;obtain⟨⟨x1,x2⟩,i',k⟩:=k;rw [qam h2];exact⟨(2,(x1,x2),0,tm0,tm0),i',by simp [qa8,qhF,↓Tr.run_ite,e1,h1,k,tm0]⟩
   |ok a r =>
    rw [h2] at k;obtain⟨i',hi,k⟩:=k;rw [qao h2];exact⟨i',hi,by simp [qa8,qhF,↓Tr.run_ite,e1,h1,k,tm0]⟩
 |false =>
  have e2:=qIa h n;rw [qaK h1];cases h2:wNm l with
  |true =>
   have k:=qli h n hL;rw [show pCh wNm _ _ l=_ from if_pos h2]
   cases h3:qhD l with
   |no r =>
    rw [h3] at k;obtain⟨⟨x1,x2⟩,i',k⟩:=k;rw [qam h3];exact⟨(1,(x1,x2),0,tm0,tm0),i',by simp [qa8,qhF,↓Tr.run_ite,e1,h1,e2,h2,k,tm0]⟩
   |ok a r =>
    rw [h3] at k;obtain⟨i',hi,k⟩:=k;rw [qao h3];exact⟨i',hi,by simp [qa8,qhF,↓Tr.run_ite,e1,h1,e2,h2,k,tm0]⟩
  |false =>
   rw [ch_f h2];have k:=qA5 h n hL;cases h3:qcz l with
   |no r =>
    rw [h3] at k;obtain⟨⟨x1,x2,x3,x4,x5⟩,i',k⟩:=k;rw [qam h3];exact⟨(3,([],[]),0,(x1,x2,x3,x4,x5),(3,[],0,0,[])),i',by simp [qa8,qhF,↓Tr.run_ite,e1,h1,e2,h2,k,tm0]⟩
   |ok a r =>
    rw [h3] at k;obtain⟨i',hi,k⟩:=k;rw [qao h3];have k2:=qWR n hi hL;cases h4:pOp r with
    |no r =>
     rw [h4] at k2;obtain⟨x,i2,k2⟩:=k2;rw [qam h4];exact⟨(3,([],[]),x,a,(3,[],0,0,[])),i2,by simp [qa8,qhF,↓Tr.run_ite,e1,h1,e2,h2,k,k2,tm0]⟩
    |ok o r =>
     rw [h4] at k2;obtain⟨i2,hi2,k2⟩:=k2;rw [qao h4];have k3:=qA5 hi2 n hL;cases h5:qcz r with
     |no r =>
      rw [h5] at k3;obtain⟨⟨x1,x2,x3,x4,x5⟩,i3,k3⟩:=k3;rw [qam h5];exact⟨(3,([],[]),o,a,(x1,x2,x3,x4,x5)),i3,by simp [qa8,qhF,↓Tr.run_ite,e1,h1,e2,h2,k,k2,k3,tm0]⟩
     |ok b r =>
      rw [h5] at k3;obtain⟨i3,hi3,k3⟩:=k3;rw [qao h5];exact⟨i3,hi3,by simp [qa8,qhF,↓Tr.run_ite,e1,h1,e2,h2,k,k2,k3,tm0]⟩
end
end Go.Pv
set_option maxHeartbeats 8000000
set_option maxRecDepth 200000
set_option linter.unusedSimpArgs false
set_option linter.unusedVariables false
namespace Go.Pv
open Go Go.Proofs
attribute [simp] qy4 qyt qnd qrs qrW qmL qnI qrn qqV qtg qsl qtX qGm qv6 qq4 qoD qoP qpk qo7 qg9 qkA qkm qgV qha qkX qk8 qq1 qtc qh8 qlv ql4 qma qlm qlV qlM qm6 qFb qsK qlh qot qpB qoq qpR qgU qjy qjS qhu qg8 qxd qwG qDA qF5 qqE qvK qxl qxc qwJ qxM qvL qJ9 qKk qxu qE5 qCO qwg qx0 qDe qF0 qEz qEr qwN qIj qzF qIi qym qA3 qz9 qyV qmF qnZ qs5 qsq qmN qse qq7 qmQ qm2 qm3 qno qmx qSX qKD qAf qoG qps qAH qAB qtk qtp qyX qzB qmK qqh qry qnu qnp qnr qng
theorem qMt {L l:List Wd} {i:Int} (h:AtI L i l) (hL:L.length≤65536):l.length≤65536:=by
 obtain⟨m,_,hd,hm⟩:=h;rw [← hd,List.length_drop];omega
def qe3 (b:Bool) (L:List Wd) (n a:Int) (s:qU) (hd:List Tm) (acc:List Li) (i:Int):Store:=⟨[[.sl (rOf cW L) .non,.int .i64 i,.int .i64 n,.bool b,.int .i64 a],[.str [],.sl [] .full,.sl [] .full],[.str s,.sl (rOf cM hd) .non,.sl (rOf cL acc) (.tok 0)]],[(acc.length,14,96)],[76,51,51]⟩
def qws (L:List Wd) (n:Int) (s:qU) (hd:List Tm) (acc:List Li) (i:Int):LOut:=qft [.ptr 0 0,.ptr 1 0,.ptr 2 0] (qe3 false L n 0 s hd acc i)
def qDz (L:List Wd) (n:Int) (s:qU) (hd:List Tm) (acc:List Li) (i:Int):LOut:=some (.exit 0,[.ptr 0 0,.ptr 1 0,.ptr 2 0],qe3 false L n 0 s hd acc i)
def qFj (L:List Wd) (n:Int) (s:qU) (hd:List Tm) (acc:List Li) (i a:Int):LOut:=some (.exit 0,[.ptr 0 0,.ptr 1 0,.ptr 2 0],qe3 true L n a s hd acc i)
theorem qIt {L:List Wd} (hL:L.length≤65536) (n:Int) (s:qU) (hd:List Tm) (acc:List Li) (i:Int) (l:List Wd) (h:AtI L i l) (hb:acc.length+l.length≤65537):qBg L n (qws L n s hd) (qDz L n s hd) (qFj L n s hd) acc i (pLit l):=by
 have k:=qTO h n hL;cases h1:pLit l with
 |no r =>
  rw [h1] at k;obtain⟨⟨x1,⟨x2,x3⟩,x4,⟨x5,x6,x7,x8,x9⟩,⟨y5,y6,y7,y8,y9⟩⟩,i',k⟩:=k;refine⟨(x1,(x2,x3),x4,(x5,x6,x7,x8,x9),(y5,y6,y7,y8,y9)),i',?_⟩;unfold qws qFj qe3;rw [qzw];simp [qip,↓Tr.run_ite,k,qzi,qpK];rw [if_pos (by omega)]
  simp
 |ok a r =>
  rw [h1] at k;obtain⟨i',hi,k⟩:=k;obtain⟨x1,⟨x2,x3⟩,x4,⟨x5,x6,x7,x8,x9⟩,⟨y5,y6,y7,y8,y9⟩⟩:=a;have e:=qaH hi n 6 [44];unfold qBg;cases hw:wIs 6 [44] r with
  |false =>
   simp only [hw];refine⟨i',hi,?_⟩;unfold qws qDz qe3;rw [qzw];simp [qip,↓Tr.run_ite,k,e,hw,qzi,qpK];rw [if_pos (by omega)]
   simp
  |true=>cases r with
   |nil=>cases hw
   |cons w r =>
    simp only [hw];refine⟨_,hi.step hL,?_⟩;unfold qws qe3
    conv=>lhs;rw [qzw]
    simp [qip,↓Tr.run_ite,k,e,hw,qzi,qpK];rw [if_pos (by omega)]
    simp
theorem qO3 {L l:List Wd} {i:Int} (h:AtI L i l) (n:Int) (hL:L.length≤65536):QOk vcRu n L (qjR l) (qcu (rOf cW L) i n):=by
 have k1:=qli h n hL;unfold qjR pDot;cases h1:qhD l with
 |no r =>
  rw [h1] at k1;obtain⟨⟨x1,x2⟩,i1,k1⟩:=k1;rw [qam h1];exact⟨((x1,x2),[]),i1,by simp [qcu,qgZ,↓Tr.run_ite,k1]⟩
 |ok a l =>
  rw [h1] at k1;obtain⟨i1,hi1,k1⟩:=k1;rw [qao h1];have e1:=qaH hi1 n 6 [58,45];cases h2:wIs 6 [58,45] l with
  |false =>
   rw [qaK h2];have k3:=qcn hi1 n hL [46];cases h3:qa2 6 [46] l with
   |no r =>
    rw [h3] at k3;obtain⟨x,i3,k3⟩:=k3;rw [qam h3];exact⟨(a,[]),i3,by simp [qcu,qgZ,↓Tr.run_ite,k1,e1,h2,k3]⟩
   |ok w r =>
    rw [h3] at k3;obtain⟨i3,hi3,k3⟩:=k3;rw [qao h3];exact⟨i3,hi3,by simp [qcu,qgZ,↓Tr.run_ite,k1,e1,h2,k3]⟩
  |true=>cases l with
   |nil=>cases h2
   |cons w l =>
    rw [qaX h2];have hi2:=hi1.step hL;have hl:=qMt hi2 hL;have k4:=qwL qqp (qIt hL n a.1 a.2) (l.length+1) [] l _ hi2 (Nat.lt_succ_self _) (by simp only [List.length_nil];omega)
    cases h4:pRow pLit l with
    |no r =>
     rw [show pRep pLit (l.length+1) [] l=.no r from h4] at k4
     obtain⟨bs,i4,k4⟩:=k4;rw [qam h4];have k4:qft _ _=_:=k4;simp only [qFj,qe3,qca,List.length_nil] at k4;exact⟨(a,bs),i4,by simp [qcu,qgZ,qck,↓Tr.run_ite,k1,e1,h2,k4]⟩
    |ok bs r =>
     rw [show pRep pLit (l.length+1) [] l=.ok bs r from h4] at k4
     obtain⟨i4,hi4,k4⟩:=k4;rw [qao h4];have k4:qft _ _=_:=k4;simp only [qDz,qe3,qca,List.length_nil] at k4;have k5:=qcn hi4 n hL [46];cases h5:qa2 6 [46] r with
     |no r =>
      rw [h5] at k5;obtain⟨x,i5,k5⟩:=k5;rw [qam h5];exact⟨(a,bs),i5,by simp [qcu,qgZ,qck,↓Tr.run_ite,k1,e1,h2,k4,k5]⟩
     |ok w r =>
      rw [h5] at k5;obtain⟨i5,hi5,k5⟩:=k5;rw [qao h5];exact⟨i5,hi5,by simp [qcu,qgZ,qck,↓Tr.run_ite,k1,e1,h2,k4,k5]⟩
theorem qU3 {L l:List Wd} {i:Int} (h:AtI L i l) (n:Int) (hL:L.length≤65536):QOk vcAc n L (pAct l) (qeY (rOf cW L) i n):=by
 have e1:=qaH h n 6 [43];unfold pAct;cases h1:wIs 6 [43] l with
 |true=>cases l with
  |nil=>cases h1
  |cons w l =>
   have k:=qli (h.step hL) n hL;rw [qaX h1];cases h2:qhD l with
   |no r =>
    rw [h2] at k;obtain⟨⟨x1,x2⟩,i',k⟩:=k;rw [qam h2];exact⟨(true,x1,x2),i',by simp [qeY,qpj,↓Tr.run_ite,e1,h1,k]⟩
   |ok a r =>
    rw [h2] at k;obtain⟨i',hi,k⟩:=k;rw [qao h2];exact⟨i',hi,by simp [qeY,qpj,↓Tr.run_ite,e1,h1,k]⟩
 |false =>
  rw [qaK h1];have k2:=qcn h n hL [45];cases h2:qa2 6 [45] l with
  |no r =>
   rw [h2] at k2;obtain⟨x,i2,k2⟩:=k2;rw [qam h2];exact⟨(false,[],[]),i2,by simp [qeY,qpj,↓Tr.run_ite,e1,h1,k2]⟩
  |ok w r =>
   rw [h2] at k2;obtain⟨i2,hi2,k2⟩:=k2;rw [qao h2];have k:=qli hi2 n hL;cases h3:qhD r with
   |no r =>
    rw [h3] at k;obtain⟨⟨x1,x2⟩,i',k⟩:=k;rw [qam h3];exact⟨(false,x1,x2),i',by simp [qeY,qpj,↓Tr.run_ite,e1,h1,k2,k]⟩
   |ok a r =>
    rw [h3] at k;obtain⟨i',hi,k⟩:=k;rw [qao h3];exact⟨i',hi,by simp [qeY,qpj,↓Tr.run_ite,e1,h1,k2,k]⟩
def qbz (b:Bool) (L:List Wd) (n a:Int) (s:qU) (c:Bool) (acc:List Int) (i:Int):Store:=⟨[[.sl (rOf cW L) .non,.int .i64 i,.int .i64 n,.bool b,.int .i64 a],[.str [],.bool false,.sl [] .full],[.str s,.bool c,.sl (rOf cI acc) (.tok 0)]],[(acc.length,1,112)],[76,80,80]⟩
def qgO (L:List Wd) (n:Int) (s:qU) (c:Bool) (acc:List Int) (i:Int):LOut:=qcy [.ptr 0 0,.ptr 1 0,.ptr 2 0] (qbz false L n 0 s c acc i)
def qs1 (L:List Wd) (n:Int) (s:qU) (c:Bool) (acc:List Int) (i:Int):LOut:=some (.exit 0,[.ptr 0 0,.ptr 1 0,.ptr 2 0],qbz false L n 0 s c acc i)
def qsR (L:List Wd) (n:Int) (s:qU) (c:Bool) (acc:List Int) (i a:Int):LOut:=some (.exit 0,[.ptr 0 0,.ptr 1 0,.ptr 2 0],qbz true L n a s c acc i)
theorem qBT (L:List Wd) (n a:Int) (s:qU) (c:Bool) (acc:List Int) (i:Int):qcy [.ptr 0 0,.ptr 1 0,.ptr 2 0] (qbz true L n a s c acc i)=some (.exit 0,[.ptr 0 0,.ptr 1 0,.ptr 2 0],qbz true L n a s c acc i):=by
 unfold qbz;rw [qUC];simp [qAJ,↓Tr.run_ite]
theorem qJC {L:List Wd} (hL:L.length≤65536) (n:Int) (s:qU) (c:Bool) (acc:List Int) (i:Int) (l:List Wd) (h:AtI L i l) (hn:wIs 6 [41] l=false) (hb:acc.length+l.length≤65537):qok L n (qgO L n s c) (qs1 L n s c) (qsR L n s c) acc i (pTyp l):=by
 have k:=qHz h n hL;have e0:=qaH h n 6 [41];cases h1:pTyp l with
 |no r =>
  rw [h1] at k;obtain⟨x1,i',k⟩:=k;refine⟨x1,i',?_⟩;unfold qgO qsR qbz;rw [qk9];simp [qew,↓Tr.run_ite,k,e0,hn,qrc,qj3];rw [if_pos (by omega)]
  simp
 |ok a r =>
  rw [h1] at k;obtain⟨i',hi,k⟩:=k;rename_i _;try skip;have e:=qaH hi n 6 [44];unfold qok;cases hw:wIs 6 [44] r with
  |false =>
   simp only [hw];refine⟨i',hi,?_⟩;unfold qgO qs1 qbz;rw [qk9];simp [qew,↓Tr.run_ite,k,e,hw,e0,hn,qrc,qj3];rw [if_pos (by omega)]
   simp
  |true=>cases r with
   |nil=>cases hw
   |cons w r =>
    simp only [hw];have e3:=qaH (hi.step hL) n 6 [41];simp only [List.drop_succ_cons,List.drop_zero];cases h3:wIs 6 [41] r with
    |true =>
     have f:=qhT (hi.step hL) n;simp only;refine⟨iAdd .i64 i' 1,?_⟩
     ·unfold qgO qsR qbz;rw [qk9];simp [qew,↓Tr.run_ite,k,e,hw,e3,h3,f,e0,hn,qrc,qj3];rw [if_pos (by omega)]
      simpa [qbz,qrc,qj3] using qBT L n (plc n r) s c (acc++[a]) (iAdd .i64 i' 1)
    |false =>
     simp only;refine⟨_,hi.step hL,?_⟩;unfold qgO qbz
     conv=>lhs;rw [qk9]
     simp [qew,↓Tr.run_ite,k,e,hw,e3,h3,e0,hn,qrc,qj3];rw [if_pos (by omega)]
     simp
theorem qZ3 (l:List Wd) (h:wIs 6 [41] l=true):pTyp l=.no l:=by
 cases l with
 |nil=>cases h
 |cons w l =>
  have h1:w.1=6:=by simp only [wIs,Bool.and_eq_true,decide_eq_true_eq] at h;exact h.1
  have e:∀ t,wIs 1 t (w::l)=false:=fun t=>by simp [wIs,h1]
  unfold pTyp;rw [qaK (e _),qaK (e _)];rfl
theorem qTG (l:List Wd) (h:wIs 6 [41] l=true):qch l=.no l:=by
 cases l with
 |nil=>cases h
 |cons w l =>
  have h1:w.1=6:=by simp only [wIs,Bool.and_eq_true,decide_eq_true_eq] at h;exact h.1
  have e:wIs 2 [] (w::l)=false:=by simp [wIs,h1]
  exact qam (show qa2 2 [] (w::l)=.no (w::l) from qaK e)
def lstR {α:Type} (p:Ps α) (l:List Wd):Rs (List α):=match wIs 6 [41] l with
 |true=>.ok [] l
 |false=>pRow p l
theorem qR5 {α:Type} (p:Ps α) (l:List Wd):qhC p l=match qa2 6 [40] l with
  |.no r=>.no r
  |.ok _ r=>match lstR p r with
   |.no r=>.no r
   |.ok bs r=>match qa2 6 [41] r with
    |.no r=>.no r
    |.ok _ r=>.ok bs r:=by
 unfold qhC lstR;cases h1:qa2 6 [40] l with
 |no r=>rw [qam h1]
 |ok w r =>
  rw [qao h1];cases h2:wIs 6 [41] r with
  |true=>cases r with
   |nil=>cases h2
   |cons w r=>simp only [h2,qaX h2,show qa2 6 [41] (w::r)=.ok w r from qaX h2];rfl
  |false =>
   simp only [h2,qaK h2];cases h3:pRow p r with
   |no r=>exact qam h3
   |ok bs r =>
    refine (qao h3).trans ?_;cases h4:qa2 6 [41] r with
    |no r=>simp only [h4];exact qam h4
    |ok w r=>simp only [h4];exact qao h4
theorem qNd {L:List Wd} (hL:L.length≤65536) (n:Int) (s:qU) (c:Bool) {l:List Wd} {i:Int} (h:AtI L i l):match lstR pTyp l with
  |.no r=>∃ bs i',qgO L n s c [] i=qsR L n s c bs i' (plc n r)
  |.ok bs r=>∃ i',AtI L i' r∧qgO L n s c [] i=qs1 L n s c bs i':=by
 unfold lstR;cases h1:wIs 6 [41] l with
 |true =>
  have e:=qaH h n 6 [41];refine⟨i,h,?_⟩;unfold qgO qs1 qbz;rw [qk9];simp [qew,↓Tr.run_ite,e,h1]
 |false =>
  have hl:=qMt h hL;have k:=qyn qm5 qZ3 (qJC hL n s c) (l.length+1) [] l i h h1 (Nat.lt_succ_self _) (by simp only [List.length_nil];omega)
  show match pRep pTyp (l.length+1) [] l with
   |.no r=>_
   |.ok bs r=>_
  cases h2:pRep pTyp (l.length+1) [] l with
  |no r=>rw [h2] at k;exact k
  |ok bs r=>rw [h2] at k;exact k
theorem qSI {L l:List Wd} {i:Int} {w:Wd} (c:Bool) (hc:c=decide (w.2.1=[98,97,115,101])) (h:AtI L i (w::l)) (n:Int) (hL:L.length≤65536):QOk vcD n L (qt9 (w::l)) (qcv c (rOf cW L) i n):=by
 have bad:=fun i a s bs=>(show qcy _ _=_ from qBT L n a s c bs i)
 simp only [qbz] at bad;have bad0:=fun i a s=>bad i a s []
 simp only [qca,List.length_nil] at bad0;have e:qt9 (w::l)=qar qhW (fun x=>qar (qhC pTyp) fun t=>pDot (x,c,t)) l:=by rw [hc];rfl
 rw [e];have k1:=qtY (h.step hL) n hL;unfold pDot;cases h1:qhW l with
 |no r =>
  rw [h1] at k1;obtain⟨s,i1,k1⟩:=k1;rw [qam h1];exact⟨(s,c,[]),i1,by simp [qcv,qhm,qnL,↓Tr.run_ite,k1,bad0]⟩
 |ok s l =>
  rw [h1] at k1;obtain⟨i1,hi1,k1⟩:=k1;rw [qao h1];have k2:=qcn hi1 n hL [40];have el:=qR5 pTyp l;cases h2:qa2 6 [40] l with
  |no r =>
   rw [h2] at k2 el;obtain⟨x,i2,k2⟩:=k2;rw [qam el];exact⟨(s,c,[]),i2,by simp [qcv,qhm,qnL,↓Tr.run_ite,k1,k2,bad0]⟩
  |ok w2 l2 =>
   rw [h2] at k2 el;obtain⟨i2,hi2,k2⟩:=k2;simp only at el;have k3:=qNd hL n s c hi2;generalize lstR pTyp l2=rr at el k3;cases rr with
   |no r =>
    obtain⟨bs,i3,k3⟩:=k3;have k3:qcy _ _=_:=k3;simp only [qsR,qbz,qca,List.length_nil] at k3;rw [qam el];exact⟨(s,c,bs),i3,by simp [qcv,qhm,qbZ,↓Tr.run_ite,k1,k2,k3]⟩
   |ok bs r =>
    obtain⟨i3,hi3,k3⟩:=k3;have k3:qcy _ _=_:=k3;simp only [qs1,qbz,qca,List.length_nil] at k3;have k4:=qcn hi3 n hL [41];simp only at el;cases h4:qa2 6 [41] r with
    |no r2 =>
     rw [h4] at k4 el;obtain⟨x,i4,k4⟩:=k4;rw [qam el];exact⟨(s,c,bs),i4,by simp [qcv,qhm,qbZ,↓Tr.run_ite,k1,k2,k3,k4]⟩
    |ok w3 r3 =>
     rw [h4] at k4 el;obtain⟨i4,hi4,k4⟩:=k4;rw [qao el];have k5:=qcn hi4 n hL [46];cases h5:qa2 6 [46] r3 with
     |no r2 =>
      rw [h5] at k5;obtain⟨x,i5,k5⟩:=k5;rw [qam h5];exact⟨(s,c,bs),i5,by simp [qcv,qhm,qbZ,↓Tr.run_ite,k1,k2,k3,k4,k5]⟩
     |ok w4 r4 =>
      rw [h5] at k5;obtain⟨i5,hi5,k5⟩:=k5;rw [qao h5];exact⟨i5,hi5,by simp [qcv,qhm,qbZ,↓Tr.run_ite,k1,k2,k3,k4,k5]⟩
end Go.Pv
set_option maxHeartbeats 8000000
set_option maxRecDepth 200000
set_option linter.unusedSimpArgs false
set_option linter.unusedVariables false
namespace Go.Pv
open Go Go.Proofs
def qc4 (b:Bool) (L:List Wd) (n a:Int) (s:qU) (acc:List Pa) (i:Int):Store:=⟨[[.sl (rOf cW L) .non,.int .i64 i,.int .i64 n,.bool b,.int .i64 a],[.str [],.sl [] .full,.sl [] .full],[.str s,.sl (rOf cP acc) (.tok 0),.sl [] (.tok 1)]],[(acc.length,2,114),(0,3,116)],[76,85,85]⟩
def qol (L:List Wd) (n:Int) (s:qU) (acc:List Pa) (i:Int):LOut:=qgX [.ptr 0 0,.ptr 1 0,.ptr 2 0] (qc4 false L n 0 s acc i)
def qCv (L:List Wd) (n:Int) (s:qU) (acc:List Pa) (i:Int):LOut:=some (.exit 0,[.ptr 0 0,.ptr 1 0,.ptr 2 0],qc4 false L n 0 s acc i)
def qyE (L:List Wd) (n:Int) (s:qU) (acc:List Pa) (i a:Int):LOut:=some (.exit 0,[.ptr 0 0,.ptr 1 0,.ptr 2 0],qc4 true L n a s acc i)
theorem qMh (L:List Wd) (n a:Int) (s:qU) (acc:List Pa) (i:Int):qgX [.ptr 0 0,.ptr 1 0,.ptr 2 0] (qc4 true L n a s acc i)=some (.exit 0,[.ptr 0 0,.ptr 1 0,.ptr 2 0],qc4 true L n a s acc i):=by
 unfold qc4;rw [zaaq];simp [qKl,↓Tr.run_ite]
theorem qOV {L:List Wd} (hL:L.length≤65536) (n:Int) (s:qU) (acc:List Pa) (i:Int) (l:List Wd) (h:AtI L i l) (hn:wIs 6 [41] l=false) (hb:acc.length+l.length≤65537):qok L n (qol L n s) (qCv L n s) (qyE L n s) acc i (qch l):=by
 have k:=qiC h n hL 2 [];have e0:=qaH h n 6 [41];unfold qch;cases h1:qa2 2 [] l with
 |no r =>
  rw [h1] at k;obtain⟨⟨y1,y2,⟨y3,y4,y5⟩,y6⟩,i',k⟩:=k;rw [qam h1];refine⟨(y2,2),i',?_⟩;unfold qol qyE qc4;rw [qtv];simp [qhx,↓Tr.run_ite,k,e0,hn,qon,qhG];rw [if_pos (by omega)]
  simp
 |ok w0 r0 =>
  rw [h1] at k;obtain⟨i1,hi1,k⟩:=k;rw [qao h1];have k2:=qHz hi1 n hL;cases h2:pTyp r0 with
  |no r2 =>
   rw [h2] at k2;obtain⟨x,i2,k2⟩:=k2;rw [qam h2];refine⟨(w0.2.1,x),i2,?_⟩;unfold qol qyE qc4;rw [qtv];simp [qhx,↓Tr.run_ite,k,k2,e0,hn,qon,qhG];rw [if_pos (by omega)]
   simp
  |ok x r2 =>
   rw [h2] at k2;obtain⟨i2,hi2,k2⟩:=k2;rw [qao h2];show qok L n (qol L n s) (qCv L n s) (qyE L n s) acc i (.ok (w0.2.1,x) r2)
   have e:=qaH hi2 n 6 [44];unfold qok;cases hw:wIs 6 [44] r2 with
   |false =>
    simp only [hw];refine⟨i2,hi2,?_⟩;unfold qol qCv qc4;rw [qtv];simp [qhx,↓Tr.run_ite,k,k2,e,hw,e0,hn,qon,qhG];rw [if_pos (by omega)]
    simp
   |true=>cases r2 with
    |nil=>cases hw
    |cons w r =>
     simp only [hw];have e3:=qaH (hi2.step hL) n 6 [41];simp only [List.drop_succ_cons,List.drop_zero];cases h3:wIs 6 [41] r with
     |true =>
      have f:=qhT (hi2.step hL) n;simp only;refine⟨iAdd .i64 i2 1,?_⟩
      ·unfold qol qyE qc4;rw [qtv];simp [qhx,↓Tr.run_ite,k,k2,e,hw,e3,h3,f,e0,hn,qon,qhG];rw [if_pos (by omega)]
       simpa [qc4,qon,qhG] using qMh L n (plc n r) s (acc++[(w0.2.1,x)]) (iAdd .i64 i2 1)
     |false =>
      simp only;refine⟨_,hi2.step hL,?_⟩;unfold qol qc4
      conv=>lhs;rw [qtv]
      simp [qhx,↓Tr.run_ite,k,k2,e,hw,e3,h3,e0,hn,qon,qhG];rw [if_pos (by omega)]
      simp
theorem qUP {L:List Wd} (hL:L.length≤65536) (n:Int) (s:qU) {l:List Wd} {i:Int} (h:AtI L i l):match lstR qch l with
  |.no r=>∃ bs i',qol L n s [] i=qyE L n s bs i' (plc n r)
  |.ok bs r=>∃ i',AtI L i' r∧qol L n s [] i=qCv L n s bs i':=by
 unfold lstR;cases h1:wIs 6 [41] l with
 |true =>
  have e:=qaH h n 6 [41];refine⟨i,h,?_⟩;unfold qol qCv qc4;rw [qtv];simp [qhx,↓Tr.run_ite,e,h1]
 |false =>
  have hl:=qMt h hL;have k:=qyn qfK qTG (qOV hL n s) (l.length+1) [] l i h h1 (Nat.lt_succ_self _) (by simp only [List.length_nil];omega)
  show match pRep qch (l.length+1) [] l with
   |.no r=>_
   |.ok bs r=>_
  cases h2:pRep qch (l.length+1) [] l with
  |no r=>rw [h2] at k;exact k
  |ok bs r=>rw [h2] at k;exact k
def qk1 (b:Bool) (L:List Wd) (n a:Int) (s:qU) (ps:List Pa) (acc:List Ac) (i:Int):Store:=⟨[[.sl (rOf cW L) .non,.int .i64 i,.int .i64 n,.bool b,.int .i64 a],[.str [],.sl [] .full,.sl [] .full],[.str s,.sl (rOf cP ps) (.tok 0),.sl (rOf cAc acc) (.tok 1)]],[(ps.length,2,114),(acc.length,3,116)],[76,85,85]⟩
def qLC (L:List Wd) (n:Int) (s:qU) (ps:List Pa) (acc:List Ac) (i:Int):LOut:=qq6 [.ptr 0 0,.ptr 1 0,.ptr 2 0] (qk1 false L n 0 s ps acc i)
def qQX (L:List Wd) (n:Int) (s:qU) (ps:List Pa) (acc:List Ac) (i:Int):LOut:=some (.exit 2,[.ptr 0 0,.ptr 1 0,.ptr 2 0],qk1 false L n 0 s ps acc i)
def qSO (L:List Wd) (n:Int) (s:qU) (ps:List Pa) (acc:List Ac) (i a:Int):LOut:=some (.exit 2,[.ptr 0 0,.ptr 1 0,.ptr 2 0],qk1 true L n a s ps acc i)
theorem qPg {L:List Wd} (hL:L.length≤65536) (n:Int) (s:qU) (ps:List Pa) (acc:List Ac) (i:Int) (l:List Wd) (h:AtI L i l) (hb:acc.length+l.length≤65537):qBg L n (qLC L n s ps) (qQX L n s ps) (qSO L n s ps) acc i (pAct l):=by
 have k:=qU3 h n hL;cases h1:pAct l with
 |no r =>
  rw [h1] at k;obtain⟨⟨x1,⟨x2,x3⟩⟩,i',k⟩:=k;refine⟨(x1,(x2,x3)),i',?_⟩;unfold qLC qSO qk1;rw [qJ0];simp [qqP,↓Tr.run_ite,k,qoI,qku];rw [if_pos (by omega)]
  simp
 |ok a r =>
  rw [h1] at k;obtain⟨i',hi,k⟩:=k;obtain⟨x1,⟨x2,x3⟩⟩:=a;have e:=qaH hi n 6 [44];unfold qBg;cases hw:wIs 6 [44] r with
  |false =>
   simp only [hw];refine⟨i',hi,?_⟩;unfold qLC qQX qk1;rw [qJ0];simp [qqP,↓Tr.run_ite,k,e,hw,qoI,qku];rw [if_pos (by omega)]
   simp
  |true=>cases r with
   |nil=>cases hw
   |cons w r =>
    simp only [hw];refine⟨_,hi.step hL,?_⟩;unfold qLC qk1
    conv=>lhs;rw [qJ0]
    simp [qqP,↓Tr.run_ite,k,e,hw,qoI,qku];rw [if_pos (by omega)]
    simp
theorem qYW {L l:List Wd} {i:Int} {w:Wd} (h:AtI L i (w::l)) (n:Int) (hL:L.length≤65536):QOk vcE n L (pOn (w::l)) (qhJ (rOf cW L) i n):=by
 have bad:=fun i a s bs=>(show qgX _ _=_ from qMh L n a s bs i)
 simp only [qc4] at bad;have bad0:=fun i a s=>bad i a s []
 simp only [qca,List.length_nil] at bad0;have e:pOn (w::l)=qar qhW (fun x=>qar (qhC qch) fun ps=>pIf 6 [58] (fun _=>qar (pRow pAct) fun b=>pDot (x,ps,b)) (pDot (x,ps,[]))) l:=rfl
 rw [e];have k1:=qtY (h.step hL) n hL;unfold pDot;cases h1:qhW l with
 |no r =>
  rw [h1] at k1;obtain⟨s,i1,k1⟩:=k1;rw [qam h1];exact⟨(s,[],[]),i1,by simp [qhJ,qlj,qu6,↓Tr.run_ite,k1,bad0]⟩
 |ok s l =>
  rw [h1] at k1;obtain⟨i1,hi1,k1⟩:=k1;rw [qao h1];have k2:=qcn hi1 n hL [40];have el:=qR5 qch l;cases h2:qa2 6 [40] l with
  |no r =>
   rw [h2] at k2 el;obtain⟨x,i2,k2⟩:=k2;rw [qam el];exact⟨(s,[],[]),i2,by simp [qhJ,qlj,qu6,↓Tr.run_ite,k1,k2,bad0]⟩
  |ok w2 l2 =>
   rw [h2] at k2 el;obtain⟨i2,hi2,k2⟩:=k2;simp only at el;have k3:=qUP hL n s hi2;generalize lstR qch l2=rr at el k3;cases rr with
   |no r =>
    obtain⟨bs,i3,k3⟩:=k3;have k3:qgX _ _=_:=k3;simp only [qyE,qc4,qca,List.length_nil] at k3;rw [qam el];exact⟨(s,bs,[]),i3,by simp [qhJ,qlj,qb6,↓Tr.run_ite,k1,k2,k3]⟩
   |ok ps r =>
    obtain⟨i3,hi3,k3⟩:=k3;have k3:qgX _ _=_:=k3;simp only [qCv,qc4,qca,List.length_nil] at k3;have k4:=qcn hi3 n hL [41];simp only at el;cases h4:qa2 6 [41] r with
    |no r2 =>
     rw [h4] at k4 el;obtain⟨x,i4,k4⟩:=k4;rw [qam el];exact⟨(s,ps,[]),i4,by simp [qhJ,qlj,qb6,↓Tr.run_ite,k1,k2,k3,k4]⟩
    |ok w3 r3 =>
     rw [h4] at k4 el;obtain⟨i4,hi4,k4⟩:=k4;rw [qao el];have e5:=qaH hi4 n 6 [58];cases h5:wIs 6 [58] r3 with
     |false =>
      rw [qaK h5];have k6:=qcn hi4 n hL [46];cases h6:qa2 6 [46] r3 with
      |no r2 =>
       rw [h6] at k6;obtain⟨x,i6,k6⟩:=k6;rw [qam h6];exact⟨(s,ps,[]),i6,by simp [qhJ,qlj,qb6,↓Tr.run_ite,k1,k2,k3,k4,e5,h5,k6]⟩
      |ok w4 r4 =>
       rw [h6] at k6;obtain⟨i6,hi6,k6⟩:=k6;rw [qao h6];exact⟨i6,hi6,by simp [qhJ,qlj,qb6,↓Tr.run_ite,k1,k2,k3,k4,e5,h5,k6]⟩
     |true=>cases r3 with
      |nil=>cases h5
      |cons w4 r4 =>
       rw [qaX h5];have hi5:=hi4.step hL;have hl:=qMt hi5 hL;have k6:=qwL qqL (qPg hL n s ps) (r4.length+1) [] r4 _ hi5 (Nat.lt_succ_self _) (by simp only [List.length_nil];omega)
       cases h6:pRow pAct r4 with
       |no r =>
        rw [show pRep pAct (r4.length+1) [] r4=.no r from h6] at k6
        obtain⟨bs,i6,k6⟩:=k6;rw [qam h6];have k6:qq6 _ _=_:=k6;simp only [qSO,qk1,qca,List.length_nil] at k6;exact⟨(s,ps,bs),i6,by simp [qhJ,qlj,qb6,qcY,↓Tr.run_ite,k1,k2,k3,k4,e5,h5,k6]⟩
       |ok bs r =>
        rw [show pRep pAct (r4.length+1) [] r4=.ok bs r from h6] at k6
        obtain⟨i6,hi6,k6⟩:=k6;rw [qao h6];have k6:qq6 _ _=_:=k6;simp only [qQX,qk1,qca,List.length_nil] at k6;have k7:=qcn hi6 n hL [46];cases h7:qa2 6 [46] r with
        |no r2 =>
         rw [h7] at k7;obtain⟨x,i7,k7⟩:=k7;rw [qam h7];exact⟨(s,ps,bs),i7,by simp [qhJ,qlj,qb6,qcY,↓Tr.run_ite,k1,k2,k3,k4,e5,h5,k6,k7]⟩
        |ok w5 r5 =>
         rw [h7] at k7;obtain⟨i7,hi7,k7⟩:=k7;rw [qao h7];exact⟨i7,hi7,by simp [qhJ,qlj,qb6,qcY,↓Tr.run_ite,k1,k2,k3,k4,e5,h5,k6,k7]⟩
end Go.Pv
set_option maxHeartbeats 4000000
set_option maxRecDepth 200000
set_option linter.unusedSimpArgs false
set_option linter.unusedVariables false
namespace Go.Pv
open Go Go.Proofs
attribute [simp] qyA qAZ qsD qmZ qnH qnm qtd qr7 quW quc qoy qp2 qp4 qpq qtt quZ qmB qpi qpu qpt qpA qpF qpE qo8 qkE qp0 qjK qop qkt qnE qme
def bpS (n:Int) (g:Pg) (l:List Wd):Store:=⟨[[.sl (rOf cW l) .non,.int .i64 n],[.sl [] .full,.sl [] .full,.sl [] .full],[.sl (rOf cD g.1) (.tok 0),.sl (rOf cE g.2.1) (.tok 1),.sl (rOf cRu g.2.2) (.tok 2)]],[(g.1.length,3,80),(g.2.1.length,3,85),(g.2.2.length,3,51)],[138,27,27]⟩
def bpV (n:Int) (g:Pg) (l:List Wd):LOut:=qhh [.ptr 0 0,.ptr 1 0,.ptr 2 0] (bpS n g l)
theorem qXR (n:Int) (g:Pg):bpV n g []=some (.exit 0,[.ptr 1 0,.ptr 2 0],bpS n g []):=by
 unfold bpV bpS;rw [qFd];simp [qcE,↓Tr.run_ite]
theorem qTR (n:Int) (g:Pg) (w:Wd) (r:List Wd) (hb:g.1.length+g.2.1.length+g.2.2.length+(w::r).length≤65536):bpV n g (w::r)=match pOne g (w::r) with
  |.ok g' r'=>bpV n g' r'
  |.no r'=>some (.pan (mfit (plc n r')),[],bpS n g r'):=by
 have hw:(w::r).length≤65536:=by omega
 simp only [List.length_cons] at hb;have hr:r.length≤65536:=by omega
 have kd:=qSj (w:=w) hr n;have ko:=qXd (w:=w) hr n;have kr:=qGI hw n;have c1:iLt 0 (xLen (rOf cW (w::r)))=true:=by simp
 have dec:isDe (w::r)=true→(bpV n g (w::r)=match pOne g (w::r) with
   |.ok g' r'=>bpV n g' r'
   |.no r'=>some (.pan (mfit (plc n r')),[],bpS n g r')):=by
  intro h1
  conv=>lhs;unfold bpV bpS;rw [qFd]
  have e:pOne g (w::r)=qar qt9 (fun d=>qaz (g.1++[d],g.2.1,g.2.2)) (w::r):=if_pos h1
  rw [e];have h1:(wIs 1 [98,97,115,101] (w::r) || wIs 1 [118,105,101,119] (w::r))=true:=h1;cases h2:wIs 1 [98,97,115,101] (w::r) with
  |true =>
   cases h3:qt9 (w::r) with
   |no r'=>simp [qcE,↓Tr.run_ite,c1,h2,kd,h3,bpS,qar]
   |ok d r' =>
    obtain⟨x1,x2,x3⟩:=d;simp [qcE,↓Tr.run_ite,c1,h2,kd,h3,bpS,qar,qaz,qBt,qu0,bpV];rw [if_pos (by omega)]
    simp
  |false =>
   rw [h2,Bool.false_or] at h1;cases h3:qt9 (w::r) with
   |no r'=>simp [qcE,↓Tr.run_ite,c1,h1,h2,kd,h3,bpS,qar]
   |ok d r' =>
    obtain⟨x1,x2,x3⟩:=d;simp [qcE,↓Tr.run_ite,c1,h1,h2,kd,h3,bpS,qar,qaz,qBt,qu0,bpV];rw [if_pos (by omega)]
    simp
 cases h1:isDe (w::r) with
 |true=>exact dec h1
 |false =>
  conv=>lhs;unfold bpV bpS;rw [qFd]
  have f:=h1;simp only [isDe,Bool.or_eq_false_iff] at f;unfold pOne;rw [ch_f h1];cases h2:wIs 1 [111,110] (w::r) with
  |true =>
   have e:∀ p q:Ps Pg,pCh (wIs 1 [111,110]) p q (w::r)=p (w::r):=fun p q=>if_pos h2
   rw [e];cases h3:pOn (w::r) with
   |no r'=>simp [qcE,↓Tr.run_ite,c1,f.1,f.2,h2,ko,h3,bpS,qar]
   |ok d r' =>
    obtain⟨x1,x2,x3⟩:=d;simp [qcE,↓Tr.run_ite,c1,f.1,f.2,h2,ko,h3,bpS,qar,qaz,qSp,qJc,bpV];rw [if_pos (by omega)]
    simp
  |false =>
   rw [ch_f h2];cases h3:qjR (w::r) with
   |no r'=>simp [qcE,↓Tr.run_ite,c1,f.1,f.2,h2,kr,h3,bpS,qar]
   |ok d r' =>
    obtain⟨⟨x1,x2⟩,x3⟩:=d;simp [qcE,↓Tr.run_ite,c1,f.1,f.2,h2,kr,h3,bpS,qar,qaz,qIF,qCX,bpV];rw [if_pos (by omega)]
    simp
theorem qLx {g g':Pg} {l r:List Wd} (h:pOne g l=.ok g' r):g'.1.length+g'.2.1.length+g'.2.2.length=g.1.length+g.2.1.length+g.2.2.length+1:=by
 unfold pOne pCh qar qaz at h
 split at h
 ·split at h
  ·cases h;simp only [List.length_append,List.length_singleton];omega
  ·cases h
 ·split at h
  ·split at h
   ·cases h;simp only [List.length_append,List.length_singleton];omega
   ·cases h
  ·split at h
   ·cases h;simp only [List.length_append,List.length_singleton];omega
   ·cases h
theorem qRs (n:Int):∀ (m:Nat) (g:Pg) (l:List Wd),l.length < m→g.1.length+g.2.1.length+g.2.2.length+l.length≤65536→match qkK m g l with
  |.ok g' r=>bpV n g l=some (.exit 0,[.ptr 1 0,.ptr 2 0],bpS n g' r)
  |.no r=>∃ g',bpV n g l=some (.pan (mfit (plc n r)),[],bpS n g' r)
 |0,_,_,h,_=>absurd h (Nat.not_lt_zero _)
 |m+1,g,[],h,hb=>qXR n g
 |m+1,g,w::r,h,hb=>by
  rw [qlq (by simp),qTR n g w r hb]
  cases h1:pOne g (w::r) with
  |no r'=>rw [qam h1];exact⟨g,rfl⟩
  |ok g' r' =>
   rw [qao h1];have k1:=((qDy g).of h1).1;have k2:=qLx h1;exact qRs n m g' r' (by omega) (by omega)
theorem qR9 {l:List Wd} (hl:l.length≤65536) (n:Int):qgd (rOf cW l) n=some (bOut vcPg n (qk5 l)):=by
 have H:=qRs n (l.length+1) ([],[],[]) l (Nat.lt_succ_self _) (by simpa using hl)
 unfold qk5;cases h:qkK (l.length+1) ([],[],[]) l with
 |ok g r =>
  rw [h] at H;have H:qhh _ _=_:=H;simp only [bpS,qca,List.length_nil] at H;simp [qgd,qvu,qa7,↓Tr.run_ite,H]
 |no r =>
  rw [h] at H;obtain⟨g,H⟩:=H;have H:qhh _ _=_:=H;simp only [bpS,qca,List.length_nil] at H;simp [qgd,qvu,qa7,↓Tr.run_ite,H]
end Go.Pv
set_option maxHeartbeats 4000000
set_option linter.unusedSimpArgs false
set_option linter.unusedVariables false
namespace Go.Pv
def lexG (f i:Nat) (s:qU):List Wd×Option Nat:=lexL f (i+gapL false s) (s.drop (gapL false s))
theorem qSR (f i:Nat) {s:List UInt8} (h:s≠[]):lexL (f+1) i s=match wdL s with
  |none=>([],some i)
  |some (k,m,v)=>((k,s.take m,v,(i:Int))::(lexG f (i+m) (s.drop m)).1,(lexG f (i+m) (s.drop m)).2):=by
 obtain⟨c,t,rfl⟩:=List.exists_cons_of_ne_nil h;unfold lexG;simp only [List.drop_drop];rfl
end Go.Pv
set_option maxHeartbeats 4000000
set_option maxRecDepth 200000
set_option linter.unusedSimpArgs false
set_option linter.unusedVariables false
namespace Go.Pv
open Go Go.Proofs
theorem qQp:∀ (f i:Nat) (s:qU) (w:Wd),w∈(lexL f i s).1→(i:Int)≤w.2.2.2∧w.2.2.2≤((i+s.length:Nat):Int)
 |0,_,_,_,h=>by simp [lexL] at h
 |f+1,i,s,w,h=>by
  cases hs:s with
  |nil=>rw [hs] at h;simp [lexL] at h
  |cons c t =>
   have hne:s≠[]:=by rw [hs];simp
   rw [qSR f i hne] at h
   rw [← hs];cases hw:wdL s with
   |none=>rw [hw] at h;simp at h
   |some x =>
    obtain⟨k,m,v⟩:=x;rw [hw] at h
    obtain⟨m1,m2⟩:=qz4 hw;simp only [List.mem_cons] at h
    rcases h with rfl|h
    ·exact⟨Int.le_refl _,by simp only;omega⟩
    ·have hg:=qo4 false (s.drop m);have:=qQp f (i+m+gapL false (s.drop m)) ((s.drop m).drop (gapL false (s.drop m))) w h;simp only [List.length_drop] at this hg;omega
theorem qTb {s:List UInt8} {l:List Wd} {o:Option Nat} (h:qcl s=(l,o)) {w:Wd} (hw:w∈l):0≤w.2.2.2∧w.2.2.2≤(s.length:Int):=by
 have:=qQp (s.length+1) (gapL false s) (s.drop (gapL false s)) w (by rw [show lexL (s.length+1) (gapL false s) (s.drop (gapL false s))=qcl s from rfl,h];exact hw)
 have hg:=qo4 false s;simp only [List.length_drop] at this;omega
def prs {α:Type} (p:Ps α) (z:α) (s:qU):α×Int×Int:=if 65536 < s.length then (z,0,2) else match qcl s with
 |(_,some a)=>(z,(a:Int),120)
 |(l,none)=>match pEnd (p l) with
  |.ok a _=>(a,0,0)
  |.no r=>(z,plc s.length r,130)
theorem qzW {s:List UInt8} (h:65536 < s.length):(qaW [.str s]).run=some (.tup [.sl [] .non,.int .i64 0,.int .i64 2]):=by
 have e:qfm s=some (.tup [.sl [] .non,.int .i64 0,.int .i64 2]):=by
  unfold qfm qqH;have:iLt 65536 (sLen s)=true:=by simp;omega
  exact Tr.run_t this rfl
 have e0:qiu s=true:=by simp [qiu,qmH,qmI,qiM,e]
 unfold qaW;simp [e0,qmH,qmI,qiM,e]
theorem qu5 {s:List UInt8} (h:s.length≤65536):(qaW [.str s]).run=some (.tup [.sl (rOf cW (wL s)) .non,.int .i64 (wN s),.int .i64 (wE s)]):=by
 unfold qaW;simp [qJ2 h,qCt h,qCA h,qCC h]
theorem qMw {s:List UInt8} {l:List Wd} {o:Option Nat} (hs:s.length≤65536) (h:qcl s=(l,o)) {u r:List Wd} (hr:l=u++r):(Lit.int .i64 (plc s.length r)).wf=true:=by
 have hb:0≤plc (s.length:Int) r∧plc (s.length:Int) r≤65536:=by
  cases r with
  |nil=>exact⟨Int.natCast_nonneg _,by simp only [plc];omega⟩
  |cons w r =>
   have:=qTb h (w:=w) (by rw [hr];simp)
   exact⟨this.1,by simp only [plc];omega⟩
 generalize plc (s.length:Int) r=x at hb;have h1:IntKind.min .i64=-9223372036854775808:=by decide
 have h2:IntKind.max .i64=9223372036854775807:=by decide
 simp only [Lit.wf,h1,h2,Bool.and_eq_true,decide_eq_true_eq];omega
attribute [simp] qSx qPn qI4 qDS qFl qER qKt qJV
theorem qXM {l:List Wd} (hl:l.length≤65536) (n:Int):qBm (rOf cW l) n=some (bOut vcPg n (qk5 l)):=by
 have k:=qR9 hl n;cases h:qk5 l<;>simp [qBm,qP9,↓Tr.run_ite,k,h]
theorem qUQ (s:qU):outP s=some (.tup [vcPg (prs qk5 ([],[],[]) s).1,.int .i64 (prs qk5 ([],[],[]) s).2.1,.int .i64 (prs qk5 ([],[],[]) s).2.2]):=by
 unfold outP prs;by_cases h:65536 < s.length
 ·rw [if_pos h,qzW h];rfl
 ·rw [if_neg h,qu5 (by omega)]
  have hs:s.length≤65536:=by omega
  rcases hw:qcl s with⟨l,o⟩
  cases o with
  |some a =>
   have e1:wN s=(a:Nat):=by unfold wN;rw [hw]
   have e2:wE s=120:=by unfold wE;rw [hw]
   rw [e1,e2];rfl
  |none =>
    have e1:wN s=0:=by unfold wN;rw [hw]
    have e2:wE s=0:=by unfold wE;rw [hw]
    have e3:wL s=l:=by unfold wL;rw [hw]
    rw [e1,e2,e3];have hl:l.length≤65536:=by have:=qLT s;rw [e3] at this;omega
    have k:=qXM hl s.length;have hd:(qsz [.ptr 0 0] ⟨[[.sl (qac (rOf cW l)) .non,.int .i64 s.length]],[],[138]⟩).run=some (bOut vcPg s.length (qk5 l)):=by
     unfold qsz;rw [qb5];cases h1:qk5 l<;>simp [k,h1]
    show finP _=_
    rw [hd];obtain⟨u,hu⟩:=qT6 l;cases h1:qk5 l with
    |no r =>
     rw [h1] at hu;have hu:l=u++r:=hu;simp [finP,qoh,qMw hs hw hu,pEnd,h1]
    |ok a r =>
     rw [h1] at hu;have hu:l=u++r:=hu;cases r with
     |nil=>simp [finP,pEnd,h1]
     |cons w r =>
      have e4:qaa (rOf cW (w::r))=cW.enc w::rOf cW r:=qee cW (w::r);have e5:qac (cW.enc w::rOf cW r)=rOf cW (w::r):=qb5 cW (w::r);have hb:(qfo [.ptr 0 0] ⟨[[.sl (rOf cW (w::r)) .non,.int .i64 s.length]],[],[138]⟩).run=some (.pan (mfit (plc s.length (w::r))),bst (w::r) s.length):=by
       unfold qfo;simp
      simp only [mfit,bst] at hb;simp [finP,e4,e5,hb,qoh,qMw hs hw hu,pEnd,bst,h1]
attribute [simp] qPj qSz qKj qF6 qFe qJx qJh qJN
theorem qYD {l:List Wd} (hl:l.length≤65536) (n:Int):qBo (rOf cW l) n=some (bOut vcRu n (qjR l)):=by
 have k:=qGI hl n;cases h:qjR l<;>simp [qBo,qPZ,↓Tr.run_ite,k,h]
theorem qUz (s:qU):outR s=some (.tup [vcRu (prs qjR (([],[]),[]) s).1,.int .i64 (prs qjR (([],[]),[]) s).2.1,.int .i64 (prs qjR (([],[]),[]) s).2.2]):=by
 unfold outR prs;by_cases h:65536 < s.length
 ·rw [if_pos h,qzW h];rfl
 ·rw [if_neg h,qu5 (by omega)]
  have hs:s.length≤65536:=by omega
  rcases hw:qcl s with⟨l,o⟩
  cases o with
  |some a =>
   have e1:wN s=(a:Nat):=by unfold wN;rw [hw]
   have e2:wE s=120:=by unfold wE;rw [hw]
   rw [e1,e2];rfl
  |none =>
    have e1:wN s=0:=by unfold wN;rw [hw]
    have e2:wE s=0:=by unfold wE;rw [hw]
    have e3:wL s=l:=by unfold wL;rw [hw]
    rw [e1,e2,e3];have hl:l.length≤65536:=by have:=qLT s;rw [e3] at this;omega
    have k:=qYD hl s.length;have hd:(qro [.ptr 0 0] ⟨[[.sl (qac (rOf cW l)) .non,.int .i64 s.length]],[],[138]⟩).run=some (bOut vcRu s.length (qjR l)):=by
     unfold qro;rw [qb5];cases h1:qjR l<;>simp [k,h1]
    show finR _=_
    rw [hd];obtain⟨u,hu⟩:=good_rule.suf l;cases h1:qjR l with
    |no r =>
     rw [h1] at hu;have hu:l=u++r:=hu;simp [finR,qoh,qMw hs hw hu,pEnd,h1]
    |ok a r =>
     rw [h1] at hu;have hu:l=u++r:=hu;cases r with
     |nil=>simp [finR,pEnd,h1]
     |cons w r =>
      have e4:qaa (rOf cW (w::r))=cW.enc w::rOf cW r:=qee cW (w::r);have e5:qac (cW.enc w::rOf cW r)=rOf cW (w::r):=qb5 cW (w::r);have hb:(qfo [.ptr 0 0] ⟨[[.sl (rOf cW (w::r)) .non,.int .i64 s.length]],[],[138]⟩).run=some (.pan (mfit (plc s.length (w::r))),bst (w::r) s.length):=by
       unfold qfo;simp
      simp only [mfit,bst] at hb;simp [finR,e4,e5,hb,qoh,qMw hs hw hu,pEnd,bst,h1]
end Go.Pv
set_option maxHeartbeats 4000000
set_option linter.unusedSimpArgs false
set_option linter.unusedVariables false
namespace Go.Pv
def maxW:Nat:=65538
structure Res {α:Type} (p:Ps α) (Q:α→Prop):Prop where
 of:∀ {l a r},l.length < maxW→p l=.ok a r→Q a∧r.length≤l.length
section
variable {α β : Type}
theorem qaZ {a:α} {Q:α→Prop} (h:Q a):Res (qaz a) Q:=⟨fun _ e=>by cases e;exact⟨h,Nat.le_refl _⟩⟩
theorem qqf {Q:α→Prop}:Res (qoa:Ps α) Q:=⟨fun _ e=>by cases e⟩
theorem qaU {p:Ps α} {f:α→Ps β} {Q:α→Prop} {R:β→Prop} (hp:Res p Q) (hf:∀ a,Q a→Res (f a) R):Res (qar p f) R:=by
 refine⟨fun {l b r} hl h=>?_⟩
 unfold qar at h
 split at h
 ·rename_i a r1 h1;obtain⟨q,k⟩:=hp.of hl h1;obtain⟨q2,k2⟩:=(hf a q).of (Nat.lt_of_le_of_lt k hl) h;exact⟨q2,Nat.le_trans k2 k⟩
 ·cases h
theorem qd5 {k:Int} {t:List UInt8} {p:Wd→Ps α} {q:Ps α} {Q:α→Prop} (hp:∀ w,Res (p w) Q) (hq:Res q Q):Res (pIf k t p q) Q:=by
 refine⟨fun {l b r} hl h=>?_⟩
 cases hi:wIs k t l with
 |false=>rw [qaK hi] at h;exact hq.of hl h
 |true=>cases l with
  |nil=>cases hi
  |cons w l =>
   rw [qaX hi] at h
   obtain⟨a,b⟩:=(hp w).of (Nat.lt_of_succ_lt hl) h;exact⟨a,Nat.le_succ_of_le b⟩
theorem qL4 {c:List Wd→Bool} {p q:Ps α} {Q:α→Prop} (hp:Res p Q) (hq:Res q Q):Res (pCh c p q) Q:=by
 refine⟨fun {l b r} hl h=>?_⟩
 unfold pCh at h
 split at h
 ·exact hp.of hl h
 ·exact hq.of hl h
theorem qEF {Q:Wd→Prop} (hq:∀ w,Q w):Res qIq Q:=by
 refine⟨fun {l b r} hl h=>?_⟩
 cases l with
 |nil=>cases h
 |cons w l=>cases h;exact⟨hq _,Nat.le_succ _⟩
theorem qqS (k:Int) (t:qU):Res (qa2 k t) fun _=>True:=qd5 (fun _=>qaZ trivial) qqf
theorem qRn {p:Ps α} {Q:α→Prop} (hp:Res p Q):∀ (n:Nat) (acc:List α),(∀ a∈acc,Q a)→∀ {l bs r},l.length < maxW→pRep p n acc l=.ok bs r→((∀ a∈bs,Q a)∧bs.length≤acc.length+1+l.length)∧r.length≤l.length
 |0,_,_,_,_,_,_,h=>by cases h
 |n+1,acc,ha,l,bs,r,hl,h=>by
  rw [qb7] at h
  unfold qar at h
  split at h
  ·rename_i a r1 h1;obtain⟨q,k⟩:=hp.of hl h1;have ha':∀ x∈acc++[a],Q x:=fun x hx=>by
    rcases List.mem_append.1 hx with hx|hx
    ·exact ha x hx
    ·rw [List.mem_singleton.1 hx];exact q
   have h:qh9 p n (acc++[a]) r1=.ok bs r:=h;unfold qh9 at h
   cases hi:wIs 6 [44] r1 with
   |false =>
    rw [qaK hi] at h
    cases h
    exact⟨⟨ha',by simp only [List.length_append,List.length_singleton];omega⟩,k⟩
   |true=>cases r1 with
    |nil=>cases hi
    |cons w r1 =>
     rw [qaX hi] at h
     simp only [List.length_cons] at k;obtain⟨⟨b1,b2⟩,b3⟩:=qRn hp n (acc++[a]) ha' (by omega) h
     simp only [List.length_append,List.length_singleton] at b2;exact⟨⟨b1,by omega⟩,by omega⟩
  ·cases h
theorem qJe {p:Ps α} {Q:α→Prop} (hp:Res p Q):Res (pRow p) fun bs=>bs.length≤maxW∧∀ a∈bs,Q a:=by
 refine⟨fun {l b r} hl h=>?_⟩
 obtain⟨⟨b1,b2⟩,b3⟩:=qRn hp _ [] (fun _ h=>by cases h) hl h
 simp only [List.length_nil] at b2;exact⟨⟨by omega,b1⟩,b3⟩
theorem qDF {p:Ps α} {Q:α→Prop} (hp:Res p Q):Res (qhC p) fun bs=>bs.length≤maxW∧∀ a∈bs,Q a :=
 qaU (qqS _ _) fun _ _=>qd5 (fun _=>qaZ ⟨Nat.zero_le _,fun _ h=>by cases h⟩) (qaU (qJe hp) fun _ h=>qaU (qqS _ _) fun _ _=>qaZ h)
theorem qyT {a:α} {Q:α→Prop} (h:Q a):Res (pDot a) Q:=qaU (qqS _ _) fun _ _=>qaZ h
end
theorem qDc:Res qhW fun _=>True:=qL4 (qaU (qEF fun _=>trivial) fun _ _=>qaZ trivial) qqf
theorem qPr:Res pTyp fun _=>True:=qd5 (fun _=>qaZ trivial) (qd5 (fun _=>qaZ trivial) qqf)
theorem qEZ:Res qcz fun _=>True:=qd5 (fun _=>qaZ trivial) (qd5 (fun _=>qaZ trivial) (qd5 (fun _=>qaZ trivial) (qd5 (fun _=>qaZ trivial) qqf)))
theorem zaat:Res pOp fun _=>True:=qd5 (fun _=>qaZ trivial) (qd5 (fun _=>qaZ trivial) (qd5 (fun _=>qaZ trivial) (qd5 (fun _=>qaZ trivial) (qd5 (fun _=>qaZ trivial) (qd5 (fun _=>qaZ trivial) qqf)))))
def okA (a:At):Prop:=a.2.length≤maxW
def okLi (x:Li):Prop:=okA x.2.1
def okRu (r:Ru):Prop:=okA r.1∧r.2.length≤maxW∧∀ x∈r.2,okLi x
def okDe (d:De):Prop:=d.2.2.length≤maxW
def okEn (e:En):Prop:=e.2.1.length≤maxW∧e.2.2.length≤maxW∧∀ x∈e.2.2,okA x.2
def okPg (g:Pg):Prop:=(g.1.length≤maxW∧∀ x∈g.1,okDe x)∧(g.2.1.length≤maxW∧∀ x∈g.2.1,okEn x)∧(g.2.2.length≤maxW∧∀ x∈g.2.2,okRu x)
theorem qrX:Res qhD okA:=qaU qDc fun _ _=>qaU (qDF qEZ) fun _ h=>qaZ h.1
theorem qYu:Res pLit okLi:=qd5 (fun _=>qaU qrX fun _ h=>qaZ h) (qL4 (qaU qrX fun _ h=>qaZ h) (qaU qEZ fun _ _=>qaU zaat fun _ _=>qaU qEZ fun _ _=>qaZ (Nat.zero_le _)))
theorem qUb:Res qjR okRu:=qaU qrX fun _ h=>qd5 (fun _=>qaU (qJe qYu) fun _ k=>qyT ⟨h,k.1,k.2⟩) (qyT ⟨h,Nat.zero_le _,fun _ h=>by cases h⟩)
theorem qT2:Res qt9 okDe:=qaU (qEF fun _=>trivial) fun _ _=>qaU qDc fun _ _=>qaU (qDF qPr) fun _ h=>qyT h.1
theorem qYG:Res pAct fun x=>okA x.2:=qd5 (fun _=>qaU qrX fun _ h=>qaZ h) (qaU (qqS _ _) fun _ _=>qaU qrX fun _ h=>qaZ h)
theorem qQn:Res qch fun _=>True:=qaU (qqS _ _) fun _ _=>qaU qPr fun _ _=>qaZ trivial
theorem qZ2:Res pOn okEn:=qaU (qEF fun _=>trivial) fun _ _=>qaU qDc fun _ _=>qaU (qDF qQn) fun _ h=>qd5 (fun _=>qaU (qJe qYG) fun _ k=>qyT ⟨h.1,k.1,k.2⟩) (qyT ⟨h.1,Nat.zero_le _,fun _ h=>by cases h⟩)
def inPg (g:Pg):Prop:=(∀ x∈g.1,okDe x)∧(∀ x∈g.2.1,okEn x)∧∀ x∈g.2.2,okRu x
def cnt (g:Pg):Nat:=g.1.length+g.2.1.length+g.2.2.length
theorem qEB {α:Type} {Q:α→Prop} {l:List α} {a:α} (h:∀ x∈l,Q x) (ha:Q a):∀ x∈l++[a],Q x:=fun x hx=>by
 rcases List.mem_append.1 hx with hx|hx
 ·exact h x hx
 ·rw [List.mem_singleton.1 hx];exact ha
theorem qYT {g:Pg} (h:inPg g):Res (pOne g) fun g'=>inPg g'∧cnt g'=cnt g+1 :=
 qL4 (qaU qT2 fun _ k=>qaZ ⟨⟨qEB h.1 k,h.2.1,h.2.2⟩,by simp only [cnt,List.length_append,List.length_singleton];omega⟩)
  (qL4 (qaU qZ2 fun _ k=>qaZ ⟨⟨h.1,qEB h.2.1 k,h.2.2⟩,by simp only [cnt,List.length_append,List.length_singleton];omega⟩)
   (qaU qUb fun _ k=>qaZ ⟨⟨h.1,h.2.1,qEB h.2.2 k⟩,by simp only [cnt,List.length_append,List.length_singleton];omega⟩))
theorem qG6:∀ (n:Nat) (g:Pg) {l g' r},inPg g→l.length < maxW→qkK n g l=.ok g' r→inPg g'∧cnt g'≤cnt g+l.length
 |0,_,_,_,_,_,_,h=>by cases h
 |n+1,g,[],g',r,hg,_,h=>by cases h;exact⟨hg,Nat.le_refl _⟩
 |n+1,g,w::l,g',r,hg,hl,h=>by
  rw [qlq (by simp)] at h
  cases h1:pOne g (w::l) with
  |no r1=>rw [qam h1] at h;cases h
  |ok b r1 =>
   rw [qao h1] at h
   obtain⟨⟨k1,k2⟩,_⟩:=(qYT hg).of hl h1;have k3:=((qDy g).of h1).1;obtain⟨k4,k5⟩:=qG6 n b k1 (Nat.lt_trans k3 hl) h;exact⟨k4,by omega⟩
theorem qZg {l:List Wd} {g:Pg} {r:List Wd} (hl:l.length < maxW) (h:qk5 l=.ok g r):okPg g:=by
 have h0:inPg (([],[],[]):Pg):=by simp [inPg]
 obtain⟨⟨a,b,c⟩,d⟩:=qG6 _ ([],[],[]) h0 hl h;simp only [cnt,List.length_nil,Nat.zero_add] at d;exact⟨⟨by omega,a⟩,⟨by omega,b⟩,⟨by omega,c⟩⟩
end Go.Pv
set_option maxHeartbeats 8000000
set_option maxRecDepth 200000
set_option linter.unusedSimpArgs false
set_option linter.unusedVariables false
namespace Go.Pv
open Go Go.Proofs
attribute [simp] qHR qH4 qub quU qt0 qtx qzk qyp qty quH quP qzQ qyl qy3 qyP qBS qCs qoo qp6 qoE qow quY qtu qoC quy qu1 qtq qus quh quB qgG qgk qjo qjP qmr qmX qo5 qkq qpN qkd qkb quJ qn5 qAn qDk qxD qAV qrg qri qo1 qoX qlE qk4 qlF qlk qo3 qpn qhq qoY qpX qg7 qhf qhs qhp qhb qgY qh4 qmO qdZ qnM
theorem qM7 {s:List UInt8} (h:65536 < s.length):qfl s=some (.tup [.sl [] .non,.int .i64 0,.int .i64 2]):=by
 unfold qfl qrG;have:iLt 65536 (sLen s)=true:=by simp;omega
 exact Tr.run_t this rfl
theorem qX4 (L:List Wd):AtI L 0 L:=⟨0,rfl,rfl,Nat.zero_le _⟩
def qPS (b:Bool) (L:List Wd) (n a:Int) (g:Pg) (i:Int):Store:=⟨[[.sl [] .full,.sl [] .full,.sl [] .full],[.sl (rOf cW L) .non,.int .i64 i,.int .i64 n,.bool b,.int .i64 a],[.sl (rOf cD g.1) (.tok 0),.sl (rOf cE g.2.1) (.tok 1),.sl (rOf cRu g.2.2) (.tok 2)]],[(g.1.length,3,80),(g.2.1.length,3,85),(g.2.2.length,3,51)],[27,76,27]⟩
def qPV (L:List Wd) (n:Int) (g:Pg) (i:Int):LOut:=qdm [.ptr 0 0,.ptr 1 0,.ptr 2 0] (qPS false L n 0 g i)
def qPG (L:List Wd) (n:Int) (g:Pg) (i:Int):LOut:=some (.exit 0,[.ptr 0 0,.ptr 1 0,.ptr 2 0],qPS false L n 0 g i)
def qPB (L:List Wd) (n:Int) (g:Pg) (i a:Int):LOut:=some (.exit 0,[.ptr 0 0,.ptr 1 0,.ptr 2 0],qPS true L n a g i)
theorem qKf (L:List Wd) (n a:Int) (g:Pg) (i:Int):qdm [.ptr 0 0,.ptr 1 0,.ptr 2 0] (qPS true L n a g i)=qPB L n g i a:=by
 unfold qPS qPB qPS;rw [qO2];simp [quR,↓Tr.run_ite]
theorem qRh {t:List UInt8} (ht:t≠[]) {w:Wd} {r:List Wd} (h:wIs 1 t (w::r)=true):w.1=1∧w.2.1=t:=by
 simp only [wIs,Bool.and_eq_true,Bool.or_eq_true,decide_eq_true_eq] at h
 exact⟨h.1,h.2.resolve_left ht⟩
section
variable {L : List Wd} (hL : L.length ≤ 65536) (n : Int)
include hL
theorem qMl (c:Bool) (g:Pg) {w:Wd} {r:List Wd} {i:Int} (h:AtI L i (w::r)) (hb:cnt g+(w::r).length≤65536) (hc:c=decide (w.2.1=[98,97,115,101])) (h1:wIs 1 [98,97,115,101] (w::r)=c) (h2:isDe (w::r)=true):match pOne g (w::r) with
  |.ok g' r'=>∃ i',AtI L i' r'∧qPV L n g i=qPV L n g' i'
  |.no r'=>∃ g' i',qPV L n g i=qPB L n g' i' (plc n r'):=by
 have e:pOne g (w::r)=qar qt9 (fun d=>qaz (g.1++[d],g.2.1,g.2.2)) (w::r):=if_pos h2
 rw [e];unfold cnt at hb;simp only [List.length_cons] at hb;have e1:=qaH h n 1 [98,97,115,101];have e2:=qaH h n 1 [118,105,101,119];have hlt:i < (L.length:Int):=by
  obtain⟨m,hm,rfl,_⟩:=h.cons;omega
 have k:=qSI c hc h n hL;have hv:c=false→wIs 1 [118,105,101,119] (w::r)=true:=fun hf=>by
  unfold isDe at h2;rw [h1,hf,Bool.false_or] at h2;exact h2
 cases h3:qt9 (w::r) with
 |no r' =>
  rw [h3] at k;obtain⟨⟨x1,x2,x3⟩,i',k⟩:=k;rw [qam h3];refine⟨(g.1++[(x1,x2,x3)],g.2.1,g.2.2),i',?_⟩;have bd:=qKf L n (plc n r') (g.1++[(x1,x2,x3)],g.2.1,g.2.2) i';rw [← bd];unfold qPV qPS
  conv=>lhs;rw [qf1]
  cases c with
  |true =>
   simp [qb1,↓Tr.run_ite,e1,h1,hlt,k,qBt,qu0];rw [if_pos (by omega)]
   simp
  |false =>
   simp [qb1,↓Tr.run_ite,e1,h1,e2,hv rfl,hlt,k,qBt,qu0];rw [if_pos (by omega)]
   simp
 |ok d r' =>
  rw [h3] at k;obtain⟨i',hi,k⟩:=k;obtain⟨x1,x2,x3⟩:=d;rw [qao h3];refine⟨i',hi,?_⟩;unfold qPV qPS
  conv=>lhs;rw [qf1]
  cases c with
  |true =>
   simp [qb1,↓Tr.run_ite,e1,h1,hlt,k,qBt,qu0];rw [if_pos (by omega)]
   simp
  |false =>
   simp [qb1,↓Tr.run_ite,e1,h1,e2,hv rfl,hlt,k,qBt,qu0];rw [if_pos (by omega)]
   simp
theorem qUK (g:Pg) {w:Wd} {r:List Wd} {i:Int} (h:AtI L i (w::r)) (hb:cnt g+(w::r).length≤65536):match pOne g (w::r) with
  |.ok g' r'=>∃ i',AtI L i' r'∧qPV L n g i=qPV L n g' i'
  |.no r'=>∃ g' i',qPV L n g i=qPB L n g' i' (plc n r'):=by
 have hb0:=hb;unfold cnt at hb;simp only [List.length_cons] at hb;have e1:=qaH h n 1 [98,97,115,101];have e2:=qaH h n 1 [118,105,101,119];have e3:=qaH h n 1 [111,110];have hlt:i < (L.length:Int):=by
  obtain⟨m,hm,rfl,_⟩:=h.cons;omega
 cases h1:wIs 1 [98,97,115,101] (w::r) with
 |true=>exact qMl hL n true g h hb0 (by rw [(qRh (by simp) h1).2];rfl) h1 (by unfold isDe;rw [h1];rfl)
 |false =>
  cases h2:wIs 1 [118,105,101,119] (w::r) with
  |true=>exact qMl hL n false g h hb0 (by rw [(qRh (by simp) h2).2];rfl) h1 (by unfold isDe;rw [h1,h2];rfl)
  |false =>
   have h4:isDe (w::r)=false:=by unfold isDe;rw [h1,h2];rfl
   unfold pOne;rw [ch_f h4];cases h3:wIs 1 [111,110] (w::r) with
   |true =>
    rw [show ∀ p q:Ps Pg,pCh (wIs 1 [111,110]) p q (w::r)=p (w::r) from fun p q=>if_pos h3]
    have k:=qYW h n hL;cases h5:pOn (w::r) with
    |no r' =>
     rw [h5] at k;obtain⟨⟨x1,x2,x3⟩,i',k⟩:=k;rw [qam h5];refine⟨(g.1,g.2.1++[(x1,x2,x3)],g.2.2),i',?_⟩;rw [← qKf];unfold qPV qPS
     conv=>lhs;rw [qf1]
     simp [qb1,↓Tr.run_ite,e1,h1,e2,h2,e3,h3,hlt,k,qSp,qJc];rw [if_pos (by omega)]
     simp
    |ok d r' =>
     rw [h5] at k;obtain⟨i',hi,k⟩:=k;obtain⟨x1,x2,x3⟩:=d;rw [qao h5];refine⟨i',hi,?_⟩;unfold qPV qPS
     conv=>lhs;rw [qf1]
     simp [qb1,↓Tr.run_ite,e1,h1,e2,h2,e3,h3,hlt,k,qSp,qJc];rw [if_pos (by omega)]
     simp
   |false =>
    rw [ch_f h3];have k:=qO3 h n hL;cases h5:qjR (w::r) with
    |no r' =>
     rw [h5] at k;obtain⟨⟨⟨x1,x2⟩,x3⟩,i',k⟩:=k;rw [qam h5];refine⟨(g.1,g.2.1,g.2.2++[((x1,x2),x3)]),i',?_⟩;rw [← qKf];unfold qPV qPS
     conv=>lhs;rw [qf1]
     simp [qb1,↓Tr.run_ite,e1,h1,e2,h2,e3,h3,hlt,k,qIF,qCX];rw [if_pos (by omega)]
     simp
    |ok d r' =>
     rw [h5] at k;obtain⟨i',hi,k⟩:=k;obtain⟨⟨x1,x2⟩,x3⟩:=d;rw [qao h5];refine⟨i',hi,?_⟩;unfold qPV qPS
     conv=>lhs;rw [qf1]
     simp [qb1,↓Tr.run_ite,e1,h1,e2,h2,e3,h3,hlt,k,qIF,qCX];rw [if_pos (by omega)]
     simp
theorem qPe:∀ (m:Nat) (g:Pg) (l:List Wd) (i:Int),AtI L i l→l.length < m→cnt g+l.length≤65536→match qkK m g l with
  |.ok g' _=>∃ i',qPV L n g i=qPG L n g' i'
  |.no r=>∃ g' i',qPV L n g i=qPB L n g' i' (plc n r)
 |0,_,_,_,_,h,_=>absurd h (Nat.not_lt_zero _)
 |m+1,g,[],i,hi,h,hb=>by
  refine⟨i,?_⟩;have:=hi.nil;subst this;unfold qPV qPG qPS;rw [qf1];simp [qb1,↓Tr.run_ite]
 |m+1,g,w::r,i,hi,h,hb=>by
  have k:=qUK hL n g hi hb;rw [qlq (by simp)]
  cases h1:pOne g (w::r) with
  |no r'=>rw [h1] at k;rw [qam h1];exact k
  |ok g' r' =>
   rw [h1] at k;obtain⟨i',hi',k⟩:=k;rw [qao h1,k];have k1:=((qDy g).of h1).1;have k2:=qLx h1;unfold cnt at hb;simp only [List.length_cons] at h hb k1;exact qPe m g' r' i' hi' (by omega) (by unfold cnt;omega)
end
@[simp] theorem qProg_law (s:qU):qgr s=some (.tup [vcPg (prs qk5 ([],[],[]) s).1,.int .i64 (prs qk5 ([],[],[]) s).2.1,.int .i64 (prs qk5 ([],[],[]) s).2.2]):=by
 unfold prs;by_cases h:65536 < s.length
 ·rw [if_pos h];simp [qgr,qm8,qbv,qhZ,↓Tr.run_ite,qM7 h]
 ·rw [if_neg h];have hs:s.length≤65536:=by omega
  have hr:=qNc hs;rcases hw:qcl s with⟨l,o⟩
  cases o with
  |some a =>
   have e1:wN s=(a:Nat):=by unfold wN;rw [hw]
   have e2:wE s=120:=by unfold wE;rw [hw]
   have e3:wL s=[]:=by unfold wL;rw [hw]
   rw [e1,e2,e3] at hr;simp [qgr,qm8,qbv,qhZ,↓Tr.run_ite,hr]
  |none =>
   have e1:wN s=0:=by unfold wN;rw [hw]
   have e2:wE s=0:=by unfold wE;rw [hw]
   have e3:wL s=l:=by unfold wL;rw [hw]
   rw [e1,e2,e3] at hr;have hl:l.length≤65536:=by have:=qLT s;rw [e3] at this;omega
   have k:=qPe hl s.length (l.length+1) ([],[],[]) l 0 (qX4 l) (Nat.lt_succ_self _) (by simp only [cnt,List.length_nil];omega)
   have pe:=qGV (l.length+1) ([],[],[]) l;cases h1:qk5 l with
   |no r =>
    rw [show qkK (l.length+1) ([],[],[]) l=.no r from h1] at k
    obtain⟨g,i,k⟩:=k;have k:qdm _ _=_:=k;simp only [qPB,qPS,qca,List.length_nil] at k;simp [qgr,qm8,qbc,qbv,qhZ,↓Tr.run_ite,hr,k,pEnd,h1]
   |ok g r =>
    obtain rfl:=pe g r h1;rw [show qkK (l.length+1) ([],[],[]) l=.ok g [] from h1] at k
    obtain⟨i,k⟩:=k;have k:qdm _ _=_:=k;simp only [qPG,qPS,qca,List.length_nil] at k;simp [qgr,qm8,qbc,qbv,qhZ,↓Tr.run_ite,hr,k,pEnd,h1]
end Go.Pv
set_option maxHeartbeats 8000000
set_option maxRecDepth 200000
set_option linter.unusedSimpArgs false
set_option linter.unusedVariables false
namespace Go.Pv
open Go Go.Proofs
theorem qhl {ρ:Type} {n:Nat} {V:Nat→ρ} {good:ρ} (hs:∀ i,i < n→V i=V (i+1)) (he:V n=good):V 0=good:=by
 have:∀ k i,i+k=n→V i=good:=by
  intro k
  induction k with
  |zero=>intro i hi;rw [show i=n by omega];exact he
  |succ k ih=>intro i hi;rw [hs i (by omega)];exact ih (i+1) (by omega)
 exact this n 0 (by omega)
theorem qly {i:Nat} (h:i < 100000):iAdd .i64 (i:Int) 1=((i+1:Nat):Int):=qcf (by omega)
theorem qJr (s:qU) (l:List Tm) (hl:l.length≤maxW):qda [.ptr 0 0,.ptr 1 0,.int .i64 0] ⟨[[.str s,.sl (rOf cM l) .non],[.str s,.sl (rOf cM l) .non]],[],[48,48]⟩=some (.exit 0,[],⟨[[.str s,.sl (rOf cM l) .non],[.str s,.sl (rOf cM l) .non]],[],[48,48]⟩):=by
 have h:=qhl (n:=l.length) (V:=fun i=>qda [.ptr 0 0,.ptr 1 0,.int .i64 (i:Nat)] ⟨[[.str s,.sl (rOf cM l) .non],[.str s,.sl (rOf cM l) .non]],[],[48,48]⟩) (good:=some (.exit 0,[],⟨[[.str s,.sl (rOf cM l) .non],[.str s,.sl (rOf cM l) .non]],[],[48,48]⟩)) (fun i hi=>?_) ?_
 ·exact h
 ·show qda _ _=qda [.ptr 0 0,.ptr 1 0,.int .i64 ((i+1:Nat):Int)] _
  have hb:i < 100000:=by have:=hl;unfold maxW at this;omega
  conv=>lhs;rw [qHJ]
  rw [← qly hb];simp [qnC,↓Tr.run_ite,hi]
 ·show qda _ _=_
  rw [qHJ];simp [qnC,↓Tr.run_ite]
attribute [simp] qna qiY qkj qpx qoN qxO quq qjU qpv qpp qvF qtP qjF qos qov qv8 qtW qje qoZ qp3 qji qpQ qox qEQ qyW qmz qtT qt1 qmi qtA qun qmp quS qt5
theorem qo9 {a:At} (h:okA a):qwj a.1 (rOf cM a.2) a.1 (rOf cM a.2)=some (.bool true):=by
 simp [qwj,qyZ,qqo,↓Tr.run_ite,qJr a.1 a.2 h]
theorem qI5 (s:qU) (m:List Tm) (l:List Li) (hl:l.length≤maxW) (hx:∀ x∈l,okLi x):qdb [.ptr 0 0,.ptr 1 0,.int .i64 0] ⟨[[.str s,.sl (rOf cM m) .non,.sl (rOf cL l) .non],[.str s,.sl (rOf cM m) .non,.sl (rOf cL l) .non]],[],[51,51]⟩=some (.exit 0,[],⟨[[.str s,.sl (rOf cM m) .non,.sl (rOf cL l) .non],[.str s,.sl (rOf cM m) .non,.sl (rOf cL l) .non]],[],[51,51]⟩):=by
 have h:=qhl (n:=l.length) (V:=fun i=>qdb [.ptr 0 0,.ptr 1 0,.int .i64 (i:Nat)] ⟨[[.str s,.sl (rOf cM m) .non,.sl (rOf cL l) .non],[.str s,.sl (rOf cM m) .non,.sl (rOf cL l) .non]],[],[51,51]⟩) (good:=some (.exit 0,[],⟨[[.str s,.sl (rOf cM m) .non,.sl (rOf cL l) .non],[.str s,.sl (rOf cM m) .non,.sl (rOf cL l) .non]],[],[51,51]⟩)) (fun i hi=>?_) ?_
 ·exact h
 ·show qdb _ _=qdb [.ptr 0 0,.ptr 1 0,.int .i64 ((i+1:Nat):Int)] _
  have hb:i < 100000:=by have:=hl;unfold maxW at this;omega
  conv=>lhs;rw [qHS]
  rw [← qly hb];have ha:=qo9 (hx _ (List.getElem_mem hi));simp [qir,↓Tr.run_ite,hi,ha]
 ·show qdb _ _=_
  rw [qHS];simp [qir,↓Tr.run_ite]
theorem qK3 {x:Ru} (h:okRu x):qwW x.1.1 (rOf cM x.1.2) (rOf cL x.2) x.1.1 (rOf cM x.1.2) (rOf cL x.2)=some (.bool true):=by
 have ha:=qo9 h.1;simp [qwW,qAK,qqB,↓Tr.run_ite,ha,qI5 x.1.1 x.1.2 x.2 h.2.1 h.2.2]
theorem qKB (s:qU) (b:Bool) (l:List Int) (hl:l.length≤maxW):qdi [.ptr 0 0,.ptr 1 0,.int .i64 0] ⟨[[.str s,.bool b,.sl (rOf cI l) .non],[.str s,.bool b,.sl (rOf cI l) .non]],[],[80,80]⟩=some (.exit 0,[],⟨[[.str s,.bool b,.sl (rOf cI l) .non],[.str s,.bool b,.sl (rOf cI l) .non]],[],[80,80]⟩):=by
 have h:=qhl (n:=l.length) (V:=fun i=>qdi [.ptr 0 0,.ptr 1 0,.int .i64 (i:Nat)] ⟨[[.str s,.bool b,.sl (rOf cI l) .non],[.str s,.bool b,.sl (rOf cI l) .non]],[],[80,80]⟩) (good:=some (.exit 0,[],⟨[[.str s,.bool b,.sl (rOf cI l) .non],[.str s,.bool b,.sl (rOf cI l) .non]],[],[80,80]⟩)) (fun i hi=>?_) ?_
 ·exact h
 ·show qdi _ _=qdi [.ptr 0 0,.ptr 1 0,.int .i64 ((i+1:Nat):Int)] _
  have hb:i < 100000:=by have:=hl;unfold maxW at this;omega
  conv=>lhs;rw [qHI]
  rw [← qly hb];simp [qmg,↓Tr.run_ite,hi]
 ·show qdi _ _=_
  rw [qHI];simp [qmg,↓Tr.run_ite]
theorem qKR {x:De} (h:okDe x):qxs x.1 x.2.1 (rOf cI x.2.2) x.1 x.2.1 (rOf cI x.2.2)=some (.bool true):=by
 simp [qxs,qzr,qrj,↓Tr.run_ite,qKB x.1 x.2.1 x.2.2 h]
theorem qKc (s:qU) (l:List Pa) (m:List Ac) (hl:l.length≤maxW):qdh [.ptr 0 0,.ptr 1 0,.int .i64 0] ⟨[[.str s,.sl (rOf cP l) .non,.sl (rOf cAc m) .non],[.str s,.sl (rOf cP l) .non,.sl (rOf cAc m) .non]],[],[85,85]⟩=some (.exit 0,[.ptr 0 0,.ptr 1 0],⟨[[.str s,.sl (rOf cP l) .non,.sl (rOf cAc m) .non],[.str s,.sl (rOf cP l) .non,.sl (rOf cAc m) .non]],[],[85,85]⟩):=by
 have h:=qhl (n:=l.length) (V:=fun i=>qdh [.ptr 0 0,.ptr 1 0,.int .i64 (i:Nat)] ⟨[[.str s,.sl (rOf cP l) .non,.sl (rOf cAc m) .non],[.str s,.sl (rOf cP l) .non,.sl (rOf cAc m) .non]],[],[85,85]⟩) (good:=some (.exit 0,[.ptr 0 0,.ptr 1 0],⟨[[.str s,.sl (rOf cP l) .non,.sl (rOf cAc m) .non],[.str s,.sl (rOf cP l) .non,.sl (rOf cAc m) .non]],[],[85,85]⟩)) (fun i hi=>?_) ?_
 ·exact h
 ·show qdh _ _=qdh [.ptr 0 0,.ptr 1 0,.int .i64 ((i+1:Nat):Int)] _
  have hb:i < 100000:=by have:=hl;unfold maxW at this;omega
  conv=>lhs;rw [qHM]
  rw [← qly hb];simp [qmS,↓Tr.run_ite,hi]
 ·show qdh _ _=_
  rw [qHM];simp [qmS,↓Tr.run_ite]
theorem qJ4 (s:qU) (l:List Pa) (m:List Ac) (hl:m.length≤maxW) (hx:∀ x∈m,okA x.2):qc9 [.ptr 0 0,.ptr 1 0,.int .i64 0] ⟨[[.str s,.sl (rOf cP l) .non,.sl (rOf cAc m) .non],[.str s,.sl (rOf cP l) .non,.sl (rOf cAc m) .non]],[],[85,85]⟩=some (.exit 2,[],⟨[[.str s,.sl (rOf cP l) .non,.sl (rOf cAc m) .non],[.str s,.sl (rOf cP l) .non,.sl (rOf cAc m) .non]],[],[85,85]⟩):=by
 have h:=qhl (n:=m.length) (V:=fun i=>qc9 [.ptr 0 0,.ptr 1 0,.int .i64 (i:Nat)] ⟨[[.str s,.sl (rOf cP l) .non,.sl (rOf cAc m) .non],[.str s,.sl (rOf cP l) .non,.sl (rOf cAc m) .non]],[],[85,85]⟩) (good:=some (.exit 2,[],⟨[[.str s,.sl (rOf cP l) .non,.sl (rOf cAc m) .non],[.str s,.sl (rOf cP l) .non,.sl (rOf cAc m) .non]],[],[85,85]⟩)) (fun i hi=>?_) ?_
 ·exact h
 ·show qc9 _ _=qc9 [.ptr 0 0,.ptr 1 0,.int .i64 ((i+1:Nat):Int)] _
  have hb:i < 100000:=by have:=hl;unfold maxW at this;omega
  conv=>lhs;rw [qHc]
  rw [← qly hb];have ha:=qo9 (hx _ (List.getElem_mem hi));simp [qmR,↓Tr.run_ite,hi,ha]
 ·show qc9 _ _=_
  rw [qHc];simp [qmR,↓Tr.run_ite]
theorem qIW {x:En} (h:okEn x):qxo x.1 (rOf cP x.2.1) (rOf cAc x.2.2) x.1 (rOf cP x.2.1) (rOf cAc x.2.2)=some (.bool true):=by
 simp [qxo,qAC,qs2,qqC,↓Tr.run_ite,qKc x.1 x.2.1 x.2.2 h.1,qJ4 x.1 x.2.1 x.2.2 h.2.1 h.2.2]
theorem qM8 (g:Pg) (h:okPg g):qeL [.ptr 0 0,.ptr 1 0,.int .i64 0] ⟨[[.sl (rOf cD g.1) .non,.sl (rOf cE g.2.1) .non,.sl (rOf cRu g.2.2) .non],[.sl (rOf cD g.1) .non,.sl (rOf cE g.2.1) .non,.sl (rOf cRu g.2.2) .non]],[],[27,27]⟩=some (.exit 0,[.ptr 0 0,.ptr 1 0],⟨[[.sl (rOf cD g.1) .non,.sl (rOf cE g.2.1) .non,.sl (rOf cRu g.2.2) .non],[.sl (rOf cD g.1) .non,.sl (rOf cE g.2.1) .non,.sl (rOf cRu g.2.2) .non]],[],[27,27]⟩):=by
 have h:=qhl (n:=g.1.length) (V:=fun i=>qeL [.ptr 0 0,.ptr 1 0,.int .i64 (i:Nat)] ⟨[[.sl (rOf cD g.1) .non,.sl (rOf cE g.2.1) .non,.sl (rOf cRu g.2.2) .non],[.sl (rOf cD g.1) .non,.sl (rOf cE g.2.1) .non,.sl (rOf cRu g.2.2) .non]],[],[27,27]⟩) (good:=some (.exit 0,[.ptr 0 0,.ptr 1 0],⟨[[.sl (rOf cD g.1) .non,.sl (rOf cE g.2.1) .non,.sl (rOf cRu g.2.2) .non],[.sl (rOf cD g.1) .non,.sl (rOf cE g.2.1) .non,.sl (rOf cRu g.2.2) .non]],[],[27,27]⟩)) (fun i hi=>?_) ?_
 ·exact h
 ·show qeL _ _=qeL [.ptr 0 0,.ptr 1 0,.int .i64 ((i+1:Nat):Int)] _
  have hb:i < 100000:=by have:=h.1.1;unfold maxW at this;omega
  conv=>lhs;rw [qL0]
  rw [← qly hb];have ha:=qKR (h.1.2 _ (List.getElem_mem hi));simp [qrP,↓Tr.run_ite,hi,ha]
 ·show qeL _ _=_
  rw [qL0];simp [qrP,↓Tr.run_ite]
theorem qNr (g:Pg) (h:okPg g):qeJ [.ptr 0 0,.ptr 1 0,.int .i64 0] ⟨[[.sl (rOf cD g.1) .non,.sl (rOf cE g.2.1) .non,.sl (rOf cRu g.2.2) .non],[.sl (rOf cD g.1) .non,.sl (rOf cE g.2.1) .non,.sl (rOf cRu g.2.2) .non]],[],[27,27]⟩=some (.exit 2,[.ptr 0 0,.ptr 1 0],⟨[[.sl (rOf cD g.1) .non,.sl (rOf cE g.2.1) .non,.sl (rOf cRu g.2.2) .non],[.sl (rOf cD g.1) .non,.sl (rOf cE g.2.1) .non,.sl (rOf cRu g.2.2) .non]],[],[27,27]⟩):=by
 have h:=qhl (n:=g.2.1.length) (V:=fun i=>qeJ [.ptr 0 0,.ptr 1 0,.int .i64 (i:Nat)] ⟨[[.sl (rOf cD g.1) .non,.sl (rOf cE g.2.1) .non,.sl (rOf cRu g.2.2) .non],[.sl (rOf cD g.1) .non,.sl (rOf cE g.2.1) .non,.sl (rOf cRu g.2.2) .non]],[],[27,27]⟩) (good:=some (.exit 2,[.ptr 0 0,.ptr 1 0],⟨[[.sl (rOf cD g.1) .non,.sl (rOf cE g.2.1) .non,.sl (rOf cRu g.2.2) .non],[.sl (rOf cD g.1) .non,.sl (rOf cE g.2.1) .non,.sl (rOf cRu g.2.2) .non]],[],[27,27]⟩)) (fun i hi=>?_) ?_
 ·exact h
 ·show qeJ _ _=qeJ [.ptr 0 0,.ptr 1 0,.int .i64 ((i+1:Nat):Int)] _
  have hb:i < 100000:=by have:=h.2.1.1;unfold maxW at this;omega
  conv=>lhs;rw [qMI]
  rw [← qly hb];have ha:=qIW (h.2.1.2 _ (List.getElem_mem hi));simp [qsi,↓Tr.run_ite,hi,ha]
 ·show qeJ _ _=_
  rw [qMI];simp [qsi,↓Tr.run_ite]
theorem qNz (g:Pg) (h:okPg g):qeK [.ptr 0 0,.ptr 1 0,.int .i64 0] ⟨[[.sl (rOf cD g.1) .non,.sl (rOf cE g.2.1) .non,.sl (rOf cRu g.2.2) .non],[.sl (rOf cD g.1) .non,.sl (rOf cE g.2.1) .non,.sl (rOf cRu g.2.2) .non]],[],[27,27]⟩=some (.exit 4,[],⟨[[.sl (rOf cD g.1) .non,.sl (rOf cE g.2.1) .non,.sl (rOf cRu g.2.2) .non],[.sl (rOf cD g.1) .non,.sl (rOf cE g.2.1) .non,.sl (rOf cRu g.2.2) .non]],[],[27,27]⟩):=by
 have h:=qhl (n:=g.2.2.length) (V:=fun i=>qeK [.ptr 0 0,.ptr 1 0,.int .i64 (i:Nat)] ⟨[[.sl (rOf cD g.1) .non,.sl (rOf cE g.2.1) .non,.sl (rOf cRu g.2.2) .non],[.sl (rOf cD g.1) .non,.sl (rOf cE g.2.1) .non,.sl (rOf cRu g.2.2) .non]],[],[27,27]⟩) (good:=some (.exit 4,[],⟨[[.sl (rOf cD g.1) .non,.sl (rOf cE g.2.1) .non,.sl (rOf cRu g.2.2) .non],[.sl (rOf cD g.1) .non,.sl (rOf cE g.2.1) .non,.sl (rOf cRu g.2.2) .non]],[],[27,27]⟩)) (fun i hi=>?_) ?_
 ·exact h
 ·show qeK _ _=qeK [.ptr 0 0,.ptr 1 0,.int .i64 ((i+1:Nat):Int)] _
  have hb:i < 100000:=by have:=h.2.2.1;unfold maxW at this;omega
  conv=>lhs;rw [qMJ]
  rw [← qly hb];have ha:=qK3 (h.2.2.2 _ (List.getElem_mem hi));simp [qqt,↓Tr.run_ite,hi,ha]
 ·show qeK _ _=_
  rw [qMJ];simp [qqt,↓Tr.run_ite]
theorem qNZ {g:Pg} (h:okPg g):qEt (rOf cD g.1) (rOf cE g.2.1) (rOf cRu g.2.2) (rOf cD g.1) (rOf cE g.2.1) (rOf cRu g.2.2)=some (.bool true):=by
 simp [qEt,qDN,qxF,qwZ,qxr,↓Tr.run_ite,qM8 g h,qNr g h,qNz g h]
abbrev prP (s:qU):Pg×Int×Int:=prs qk5 ([],[],[]) s
abbrev prR (s:qU):Ru×Int×Int:=prs qjR (([],[]),[]) s
attribute [simp] wP_e qPh wP_n qUf qU9 qTW wR_e qRE wR_n qTk qUr qTJ qp7 qAW qrM qze qsS qsP qzX qJw qwf qIL qvP qDY
@[simp] theorem pProg_law (s:qU):qmb s=some (.tup [vcPg (prP s).1,.int .i64 (prP s).2.1,.int .i64 (prP s).2.2]):=by simp [qmb,qEx,↓Tr.run_ite,qUQ]
@[simp] theorem pRule_law (s:qU):qlg s=some (.tup [vcRu (prR s).1,.int .i64 (prR s).2.1,.int .i64 (prR s).2.2]):=by simp [qlg,qEU,↓Tr.run_ite,qUz]
theorem qU5 {α:Type} (p:Ps α) (z:α) (s:qU) (h:(prs p z s).2.2≠0):(prs p z s).1=z:=by
 unfold prs at h ⊢;split
 ·rfl
 ·rename_i hl;rw [if_neg hl] at h
  split
  ·rfl
  ·rename_i l e;rw [e] at h
   simp only at h
   split
   ·rename_i a r e2;rw [e2] at h
    exact absurd rfl h
   ·rfl
theorem zaaa {α:Type} {p:Ps α} {z:α} {s:List UInt8} (h:(prs p z s).2.2=0):s.length≤65536∧∃ l,qcl s=(l,none)∧pEnd (p l)=.ok (prs p z s).1 []:=by
 unfold prs at h ⊢;split at h
 ·cases h
 ·rename_i hl;rw [if_neg hl];refine⟨by omega,?_⟩
  rcases hw:qcl s with⟨l,o⟩
  rw [hw] at h
  cases o with
  |some a=>cases h
  |none =>
   refine⟨l,rfl,?_⟩;simp only at h ⊢;cases hp:p l with
   |no r=>rw [hp] at h;cases h
   |ok a r =>
    rw [hp] at h
    cases r with
    |nil=>rfl
    |cons w r=>cases h
theorem qUG {s:List UInt8} {l:List Wd} (hs:s.length≤65536) (h:qcl s=(l,none)):l.length < maxW:=by
 have:=qLT s;unfold wL at this;rw [h] at this;unfold maxW;exact Nat.lt_of_le_of_lt this (by omega)
theorem qWw {α:Type} {x:Rs α} {a:α} {r:List Wd} (h:pEnd x=.ok a r):x=.ok a []∧r=[]:=by
 cases x with
 |no r=>cases h
 |ok b l=>cases l with
  |nil=>cases h;exact⟨rfl,rfl⟩
  |cons=>cases h
theorem zaac (s:qU):okPg (prP s).1:=by
 by_cases h:(prP s).2.2=0
 ·obtain⟨hs,l,hw,hp⟩:=zaaa h;exact qZg (qUG hs hw) (qWw hp).1
 ·rw [qU5 _ _ _ h];exact⟨⟨Nat.zero_le _,by simp⟩,⟨Nat.zero_le _,by simp⟩,⟨Nat.zero_le _,by simp⟩⟩
def xTm:Tm:=(1,[88],0,0,[])
theorem qYr:prR [112,40,88,41,32,58,45,32,113,40,88,44,32,95,41,44,32,88,32,33,61,32,45,51,46]=((([112],[xTm]),[(1,([113],[xTm,(3,[],0,0,[])]),0,tm0,tm0),(3,([],[]),2,xTm,(2,[],1,-3,[]))]),0,0):=by kernel_rfl
theorem qZx:prP [112,40,88,41,32,58,45,32,46]=(([],[],[]),8,130):=by kernel_rfl
attribute [simp] qvG qt6 qEm qLW
@[simp] theorem valive_law:qww=some (.bool true):=by
 simp [qww,qzE,↓Tr.run_ite,qYr,qZx]
def cutP (s:qU):qU:=if 1500 < s.length∧s.length≤65536 then s.take 1500 else s
@[simp] theorem vcut_law (s:qU):qBU s=some (.str (cutP s)):=by
 unfold cutP;by_cases h1:1500 < s.length
 ·by_cases h2:s.length≤65536
  ·rw [if_pos ⟨h1,h2⟩];have e1:(1500:Int) < (s.length:Int):=by omega
   have e2:(s.length:Int)≤65536:=by omega
   have e3:(1500:Nat)≤s.length:=by omega
   simp [qBU,qyK,↓Tr.run_ite,e1,e2,e3]
  ·rw [if_neg (fun h=>h2 h.2)]
   have e1:(1500:Int) < (s.length:Int):=by omega
   have e2:¬ (s.length:Int)≤65536:=by omega
   simp [qBU,qyK,↓Tr.run_ite,e1,e2]
 ·rw [if_neg (fun h=>h1 h.1)]
  have e1:¬ (1500:Int) < (s.length:Int):=by omega
  simp [qBU,qyK,↓Tr.run_ite,e1]
end Go.Pv
set_option maxHeartbeats 8000000
set_option maxRecDepth 200000
set_option linter.unusedSimpArgs false
set_option linter.unusedVariables false
namespace Go.Pv
open Go Go.Proofs
theorem qDl (s:qU):(qqn [.str s]).run=some (.bool true):=by
 have k:=qNZ (zaac (cutP s));unfold qqn;simp [qAj,↓Tr.run_ite,k]
end Go.Pv
set_option maxHeartbeats 4000000
set_option maxRecDepth 200000
set_option linter.unusedSimpArgs false
set_option linter.unusedVariables false
namespace Go.Pv
open Go Go.Proofs Go.RowKit Go.Proofs.YtlemepahgalogaaGreatDoor
theorem g_pow : Tryz.prog.globalNamed "internal/strconv.uint64pow10" = some 2 := by kernel_rfl
theorem gt_pow:(Tryz.prog.globals[2]?).map (·.type)=some 240:=by kernel_rfl
theorem g_rng : Tryz.prog.globalNamed "strconv.ErrRange" = some 4 := by kernel_rfl
theorem gt_rng:(Tryz.prog.globals[4]?).map (·.type)=some 189:=by kernel_rfl
theorem g_syn : Tryz.prog.globalNamed "strconv.ErrSyntax" = some 3 := by kernel_rfl
theorem gt_syn:(Tryz.prog.globals[3]?).map (·.type)=some 189:=by kernel_rfl
theorem g_two : Tryz.prog.globalNamed "pedigree/lex.twos" = some 0 := by kernel_rfl
theorem gt_two:(Tryz.prog.globals[0]?).map (·.type)=some 208:=by kernel_rfl
def glAt (W:World):Gl:=⟨fun b=>W.heap[b]?,fun _ _=>.cells #[] 0 (0,0),fun _=>[]⟩
def laidL : List (String × DataW Unit) := [("math/bits.deBruijn32tab", Rows.laid_math_bits_deBruijn32tab), ("math/bits.deBruijn64tab", Rows.laid_math_bits_deBruijn64tab), ("internal/strconv.uint64pow10", Rows.laid_internal_strconv_uint64pow10), ("strconv.ErrRange", Rows.laid_strconv_ErrRange), ("strconv.ErrSyntax", Rows.laid_strconv_ErrSyntax), ("pedigree/lex.twos", Rows.laid_pedigree_lex_twos)]
theorem qpy:(laidL.filter fun x=>x.2.handleName?.isSome)=[]:=by kernel_rfl
theorem qNM {W:World} (h:laidMetH Tryz.prog laidL W):GlPow (glAt W):=by
 unfold laidMetH at h
 rw [qpy] at h
 obtain⟨ps,hl,_⟩:=h;refine⟨?_⟩;obtain ⟨g, t, cs, fuel, p, h1, h2, h3, h4⟩ := qq3 (nm := "internal/strconv.uint64pow10") hl (.tail _ (.tail _ (.head _)));obtain rfl:=Option.some.inj (g_pow.symm.trans h1);obtain rfl:=Option.some.inj (gt_pow.symm.trans h2);have e:(Rows.laid_internal_strconv_uint64pow10:DataW Unit)=Lib.tabData .u64 Lib.pow10Tab:=by rfl
 rw [e] at h4;have hc:=Lib.cells_of_tab Tryz.underlying240 Tryz.underlying209 (by kernel_rfl) (by kernel_rfl) h4
 obtain⟨T,f,hh⟩:=qvY h1 h3;refine⟨2,T,f,g_pow,?_⟩;show W.heap[2]?=_
 rw [← hc];simpa using hh
theorem qRC {W:World} (h0:laidMetH Tryz.prog laidL W):GlOk (glAt W):=by
 have h:=h0;unfold laidMetH at h
 rw [qpy] at h
 obtain⟨ps,hl,_⟩:=h;refine⟨qNM h0,?_,?_⟩
 ·obtain ⟨g, t, cs, fuel, p, h1, h2, h3, h4⟩ := qq3 (nm := "strconv.ErrSyntax") hl (.tail _ (.tail _ (.tail _ (.tail _ (.head _)))));obtain rfl:=Option.some.inj (g_syn.symm.trans h1);obtain rfl:=Option.some.inj (gt_syn.symm.trans h2);obtain⟨u,v,rfl⟩:=qBs Tryz.underlying189 h4;obtain⟨T,f,hh⟩:=qvY h1 h3;exact⟨u,v,3,T,f,g_syn,hh⟩
 ·obtain ⟨g, t, cs, fuel, p, h1, h2, h3, h4⟩ := qq3 (nm := "strconv.ErrRange") hl (.tail _ (.tail _ (.tail _ (.head _))));obtain rfl:=Option.some.inj (g_rng.symm.trans h1);obtain rfl:=Option.some.inj (gt_rng.symm.trans h2);obtain⟨u,v,rfl⟩:=qBs Tryz.underlying189 h4;obtain⟨T,f,hh⟩:=qvY h1 h3;exact⟨u,v,4,T,f,g_rng,hh⟩
theorem qFH {H:Type} {enc:TypeId×Value→H} {P:Program} {w:World} {base:Nat} {sp:Nat→Bool} {held:Bool} {fuel:Nat} {t e:TypeId} {n:Nat} {cs:List Value} {zs:List (List UInt8)} {p:List MemPlace}
  (ht:P.underlying t=some (.array n e)) (he:P.underlying e=some .string) (hce:P.cellsOf e=1) (hct:P.cellsOf t=n)
  (h:DataW.trod enc P w base sp held fuel t cs=some (.agg (zs.map fun z=>.lit (.string z)),p)):cs=zs.map fun z=>Value.string ⟨z.toArray⟩:=by
 cases fuel with
 |zero=>simp [DataW.trod] at h
 |succ fuel =>
  simp only [DataW.trod,ht,hce,hct,Nat.mul_one] at h
  split at h
  ·rename_i hl;obtain⟨xs,hm,hx⟩:=Option.map_eq_some_iff.1 h;have hxs:xs.map (·.1)=zs.map fun z=>(DataW.lit (.string z):DataW H):=by
    have:=congrArg Prod.fst hx;simpa using this
   have hxl:xs.length=n:=by simpa using Lib.mapM_length hm
   have hzl:zs.length=n:=by
    have:=congrArg List.length hxs;simp at this;omega
   apply List.ext_getElem?;intro i;by_cases hi:i < n
   ·obtain⟨b,hb,hf⟩:=Lib.mapM_at hm i i (by simp [hi])
    obtain⟨z,hc,rfl,_⟩:=DataW.trod_string he hf;have h1:cs[i]?=some (.string z):=by
     have:=congrArg (·[0]?) hc;simpa [List.getElem?_take,List.getElem?_drop] using this
    have h2:(xs.map (·.1))[i]?=some (DataW.lit (.string z.data.toList):DataW H):=by simp [hb]
    rw [hxs] at h2;simp only [List.getElem?_map,Option.map_eq_some_iff,DataW.lit.injEq,Lit.string.injEq] at h2;obtain⟨z',hz',rfl⟩:=h2;simp [h1,hz']
   ·rw [List.getElem?_eq_none (by omega),List.getElem?_eq_none (by simp;omega)]
  ·cases h
theorem qNb {W:World} (h0:laidMetH Tryz.prog laidL W):GlLex (glAt W):=by
 have h:=h0;unfold laidMetH at h
 rw [qpy] at h
 obtain⟨ps,hl,_⟩:=h;refine⟨qRC h0,?_⟩;obtain ⟨g, t, cs, fuel, p, h1, h2, h3, h4⟩ := qq3 (nm := "pedigree/lex.twos") hl (.tail _ (.tail _ (.tail _ (.tail _ (.tail _ (.head _))))));obtain rfl:=Option.some.inj (g_two.symm.trans h1);obtain rfl:=Option.some.inj (gt_two.symm.trans h2);have e:(Rows.laid_pedigree_lex_twos:DataW Unit)=.agg (twosV.map fun z=>.lit (.string z)):=by rfl
 rw [e] at h4;have hc:=qFH Tryz.underlying208 Tryz.underlying9 (by kernel_rfl) (by kernel_rfl) h4
 obtain⟨T,f,hh⟩:=qvY h1 h3;refine⟨0,T,f,g_two,?_⟩;show W.heap[0]?=_
 rw [← hc];simpa using hh
theorem qWc:laidOutB Tryz.prog=true:=by kernel_rfl
theorem qSo {F:List PV→Tr PV} {f:FuncId} {fn:Func} {s:ChangeSpec} (hsim:∀ {gl:Gl},GlLex gl→SimP Tryz.prog gl f fun args=>(F args).run) (hF:∀ xs,ArgL Tryz.prog fn.params.toList xs→(∃ H w vs,RelL H w xs vs)→(F xs).run=some (.bool true))
  (hrt:fn.resultTypes=#[4]) (hsv:s.vars=[]) (hT:(fn.params.toList.all fun t=>okT Tryz.prog 16 t&&Tryz.prog.readableRec t&&decide (t < Tryz.prog.types.size))=true)
  {H:Type} {enc:TypeId×Value→H} {W:World} {base:Nat} {args:Array Value} {ds gs:List (DataW H)} {before:List MemPlace} (hfn:∀ ds:List (DataW H),ds.length=fn.params.size→s.fn H ds={ results:=[.lit (.bool true)],args:=ds })
  (hval:∀ (j:Nat) t v,fn.params[j]?=some t→args[j]?=some v→Value.okWide Tryz.prog W .any base t v) (hW:DataW.Whole enc Tryz.prog fn.params.toList s.vars false W args.toList ds gs before) (hL:laidMetH Tryz.prog laidL W) :
  Calls Tryz.prog f args W fun e W'=>∃ v,e=.returned v∧s.post enc Tryz.prog fn false true false false W args v W':=by
 have hW':=hW;obtain⟨p,q,hA,hV,rfl,hfz,hnd⟩:=hW';have hT':∀ t∈fn.params.toList,okT Tryz.prog 16 t=true∧Tryz.prog.readableRec t=true∧t < Tryz.prog.types.size:=by
  intro t ht;have:=List.all_eq_true.1 hT t ht;simp only [Bool.and_eq_true,decide_eq_true_eq] at this;exact⟨this.1.1,this.1.2,this.2⟩
 obtain⟨xs,hx,ha⟩:=qMp (n:=16) (fun j t v ht hv=>hval j t v (by simpa using ht) (by simpa using hv)) hA (List.all_eq_true.2 fun t ht=>(hT' t ht).1)
 have hlen:ds.length=fn.params.size:=by
  have h1:∀ {ts:List TypeId} {vs:List Value} {ds:List (DataW H)} {ps:List MemPlace},DataW.TrodAll enc Tryz.prog W 0 (fun _=>true) true ts vs ds ps→ds.length=ts.length:=by
   intro ts
   induction ts with
   |nil=>intro vs ds ps h;obtain⟨rfl,rfl,rfl⟩:=Go.ChangeShapes.trodAll_nil h;rfl
   |cons t ts ih =>
    intro vs ds ps h;obtain⟨v,vs',d,ds',p,q,rfl,rfl,rfl,hd,hrest⟩:=Go.ChangeShapes.trodAll_cons h;simp [ih hrest]
  simpa using h1 hA
 have hc:=(hsim (qNb hL)).run xs _ (hF xs ha ⟨_,_,_,hx⟩) (ghOf W) W args.toList rfl rfl rfl (fun b o h=>h) hx
 simp only [Array.toArray_toList] at hc;refine hc.mono ?_;rintro e W' ⟨v,rfl,hb,hr⟩;cases hr
 exact⟨_,rfl,qTT qWc hrt Tryz.underlying4 hsv (fun t ht=>(hT' t ht).2) hW (hfn ds hlen) hb.1⟩
end Go.Pv
namespace Go.Proofs.YtlemepahgalogaaGreatDoor
open Go Go.Proofs Go.RowKit Go.Pv Go.ChangeShapes Go.WideShapes Go.ChangeAt
theorem qXw {t:TypeId} {xs:List PV} (hu:Tryz.prog.underlying t=some .string) (h:Shp Tryz.prog t xs):∃ l,xs=[.str l]:=by
 cases h with
 |str t l h=>exact⟨l,rfl⟩
 |int t k' n h=>rw [hu] at h;cases h
 |bool t b h=>rw [hu] at h;cases h
 |sl t e xss h hx=>rw [hu] at h;cases h
 |struct t fs xs h hx=>rw [hu] at h;cases h
theorem qWX {x:PV} (h:Arg Tryz.prog 9 x):∃ s,x=.str s:=by
 rcases h with⟨fs,ys,hu,rfl,hs⟩|⟨hne,hs⟩
 ·rw [Tryz.underlying9] at hu;cases hu
 ·obtain⟨s,h⟩:=qXw Tryz.underlying9 hs;cases h
  exact⟨s,rfl⟩
def qFN:DataW Unit→Array Value
 |.agg l=>(l.map fun d=>match d with|.lit (.int k n)=>Value.int k n|.lit (.string s)=>Value.string ⟨s.toArray⟩|_=>undef).toArray
 |_=>#[]
def low:Nat:=(World.holding Tryz.prog default ⟨#[],#[],[]⟩).heap.size
def qyx (os:Os):World :=
 let w0:=World.holding Tryz.prog os ⟨#[.cells #[.string ⟨#[118,97,108,117,101,32,111,117,116,32,111,102,32,114,97,110,103,101]⟩] 259,.cells #[.string ⟨#[105,110,118,97,108,105,100,32,115,121,110,116,97,120]⟩] 259],#[],[]⟩
 { w0 with heap:=((((((w0.heap.modify 3 fun
  |.cells _ t frozen=>.cells #[.iface 257 (.pointer (some ⟨low+1,0,none⟩))] t frozen
  |o=>o).modify 4 fun
  |.cells _ t frozen=>.cells #[.iface 257 (.pointer (some ⟨low,0,none⟩))] t frozen
  |o=>o).modify 5 fun
  |.cells _ t frozen=>.cells (qFN Rows.laid_math_bits_deBruijn32tab) t frozen
  |o=>o).modify 6 fun
  |.cells _ t frozen=>.cells (qFN Rows.laid_math_bits_deBruijn64tab) t frozen
  |o=>o).modify 2 fun
  |.cells _ t frozen=>.cells (qFN Rows.laid_internal_strconv_uint64pow10) t frozen
  |o=>o).modify 0 fun
  |.cells _ t frozen=>.cells (qFN Rows.laid_pedigree_lex_twos) t frozen
  |o=>o) }
theorem own:ownKnob Tryz.prog.godebug=none:=by kernel_rfl
theorem qUE (os:Os) (args:Array Value):laidMet Tryz.prog laidL ((qyx os).forCall (fun _ _=>0) ⟨#[],args,[]⟩).memory :=
 laidMet_of_run' 8 (by kernel_rfl) (by kernel_rfl)
end Go.Proofs.YtlemepahgalogaaGreatDoor
