/- Part 4 of the proof: pure values for the machine's values, what functions compute over them, and laws of what is computed. Conditions: none beyond each theorem's own premises. -/
import Derived.Test.YtlemepahgalogaaGreatDoorPvGd3
noncomputable section
set_option maxHeartbeats 4000000
set_option maxRecDepth 200000
set_option linter.unusedSimpArgs false
set_option linter.unusedVariables false
namespace Go.Pv
open Go Go.Proofs
def qtD:GamT:=ofL []
theorem qCJ (gl:Gl):qam Tryz.prog gl (gam qtD):=qag
def qBn:LpsT:=fun r fr σ=>.fail
def qqa (c:Int):Tr PV:=.ite (iLe 48 c) (.ret (.bool (iLe c 57))) (.ret (.bool false))
theorem qGU (c:Int):(tcall tbT qtD qBn Tryz.f173 [.int .u8 c]).flat=qqa c:=by kernel_rfl
def qpz (c:Int):Option PV:=(qqa c).run
def qba (c:Int):Bool:=(qaZ (gVal (qpz c)))
def qbN (c:Int):Bool:=isW (qpz c) (.bool (qba c))
def qkJ:List PV→Tr PV|[.int .u8 c]=>.ite (qbN c) (.ret (.bool (qba c))) (.fail)|_=>.fail
theorem qmK (gl:Gl):SimP Tryz.prog gl 173 fun args=>(qkJ args).run:=by
 refine SimP.of_flat (G:=qtD) (L:=qBn) qak (qCJ gl ) qah  Tryz.func173 rfl (by rfl) (by kernel_rfl) (qac (by kernel_rfl)) ?_
 intro args x h;unfold qkJ at h
 split at h
 ·exact (congrArg Tr.run (qGU _)).trans (qad h fun h=>by cases h)
 ·cases h
def qms:GamT:=ofL [(173,.pure qkJ)]
theorem qwS (gl:Gl):qam Tryz.prog gl (gam qms):=(qae (qmK gl) qag)
def qsY:LpsT:=fun r fr σ=>.fail
def qkb (c:Int):Tr PV:=let z1:Tr PV:=.ite (iEq c 95) (.ret (.bool true)) (.ite (qbN c) (.ret (.bool (qba c))) .fail);let z2:Tr PV:=.ite (iLe 65 c) (.ite (iLe c 90) (.ret (.bool true)) z1) z1;.ite (iLe 97 c) (.ite (iLe c 122) (.ret (.bool true)) z2) z2
theorem qCr (c:Int):(tcall tbT qms qsY Tryz.f172 [.int .u8 c]).flat=qkb c:=by kernel_rfl
def qiz (c:Int):Option PV:=(qkb c).run
def qce (c:Int):Bool:=(qaZ (gVal (qiz c)))
def qcd (c:Int):Bool:=isW (qiz c) (.bool (qce c))
def qe8:List PV→Tr PV|[.int .u8 c]=>.ite (qcd c) (.ret (.bool (qce c))) (.fail)|_=>.fail
theorem qhq (gl:Gl):SimP Tryz.prog gl 172 fun args=>(qe8 args).run:=by
 refine SimP.of_flat (G:=qms) (L:=qsY) qak (qwS gl ) qah  Tryz.func172 rfl (by rfl) (by kernel_rfl) (qac (by kernel_rfl)) ?_
 intro args x h;unfold qe8 at h
 split at h
 ·exact (congrArg Tr.run (qCr _)).trans (qad h fun h=>by cases h)
 ·cases h
def qqb:GamT:=ofL [(172,.pure qe8),(173,.pure qkJ)]
theorem qAx (gl:Gl):qam Tryz.prog gl (gam qqb):=(qae (qhq gl) (qae (qmK gl) qag))
def qqT:Code:=qcu Tryz.f175 2
def qqP:LI:=⟨20,[0,1,5],fun e=>match e with|.exit 0=>[5]|_=>[],true⟩
def qpu:LpsT:=fun r fr σ=>.fail
def qdK (vs:List PV) (σ:Store):Option (PExit×List PV×Store):=lval (lstep tbT qqb qpu qqT qqP) vs σ
def qk9 (s:qU) (n:Int):Tr LR:=.ite (iLt n (sLen s)) (.ite (qa0 s n) (.ite (qcd (sAt s n)) (.ite (qce (sAt s n)) (.ret (.next [.str s,.fn 172 [],.int .i64 (iAdd .i64 n 1)] ⟨[],[],[]⟩)) (.ret (.out (.exit 0) [.int .i64 n] ⟨[],[],[]⟩))) .fail) .fail) (.ret (.out (.exit 0) [.int .i64 n] ⟨[],[],[]⟩))
theorem qK8 (s:qU) (n:Int):lstep tbT qqb qpu qqT qqP [.str s,.fn 172 [],.int .i64 n] ⟨[],[],[]⟩=qk9 s n:=by kernel_rfl
theorem qFp (s:qU) (n:Int):qdK [.str s,.fn 172 [],.int .i64 n] ⟨[],[],[]⟩=lnext qdK (qk9 s n).run:=by unfold qdK;rw [qaD,qK8]
def qg4 (s:qU) (n:Int):Tr LR:=.ite (iLt n (sLen s)) (.ite (qa0 s n) (.ite (qbN (sAt s n)) (.ite (qba (sAt s n)) (.ret (.next [.str s,.fn 173 [],.int .i64 (iAdd .i64 n 1)] ⟨[],[],[]⟩)) (.ret (.out (.exit 0) [.int .i64 n] ⟨[],[],[]⟩))) .fail) .fail) (.ret (.out (.exit 0) [.int .i64 n] ⟨[],[],[]⟩))
theorem qHQ (s:qU) (n:Int):lstep tbT qqb qpu qqT qqP [.str s,.fn 173 [],.int .i64 n] ⟨[],[],[]⟩=qg4 s n:=by kernel_rfl
theorem qBr (s:qU) (n:Int):qdK [.str s,.fn 173 [],.int .i64 n] ⟨[],[],[]⟩=lnext qdK (qg4 s n).run:=by unfold qdK;rw [qaD,qHQ]
def qz7 (s:qU) (n:Int):Option (PExit×List PV×Store):=qdK [.str s,.fn 172 [],.int .i64 n] ⟨[],[],[]⟩
def qwh (s:qU) (n:Int):Int:=(gInt (gOut (qz7 s n) 0))
def qpR (s:qU) (n:Int):Bool:=isW (qz7 s n) ((.exit 0),[.int .i64 (qwh s n)],⟨[],[],[]⟩)
def qvk (s:qU) (n:Int):Option (PExit×List PV×Store):=qdK [.str s,.fn 173 [],.int .i64 n] ⟨[],[],[]⟩
def qoI (s:qU) (n:Int):Int:=(gInt (gOut (qvk s n) 0))
def qnw (s:qU) (n:Int):Bool:=isW (qvk s n) ((.exit 0),[.int .i64 (qoI s n)],⟨[],[],[]⟩)
def qig:List PV→Store→Tr (PExit×List PV×Store)|[.str s,.fn 172 [],.int .i64 n],⟨[],[],[]⟩=>.ite (qpR s n) (.ret ((.exit 0),[.int .i64 (qwh s n)],⟨[],[],[]⟩)) (.fail)|[.str s,.fn 173 [],.int .i64 n],⟨[],[],[]⟩=>.ite (qnw s n) (.ret ((.exit 0),[.int .i64 (qoI s n)],⟨[],[],[]⟩)) (.fail)|_,_=>.fail
theorem qHN:∀ vs σ r,(qig vs σ).run=some r→qdK vs σ=some r:=by
 intro vs σ r h;unfold qig at h
 split at h
 ·exact qad h fun h=>by cases h
 ·exact qad h fun h=>by cases h
 ·cases h
theorem qDj (gl:Gl):∀ fr σ e fr' σ',(orc qqP qig fr σ).run=some (e,fr',σ')→LDoes Tryz.prog gl qqT fr σ e fr' σ':=qbq qak (qAx gl ) qah (L:=qpu) (qac (by kernel_rfl)) (by kernel_rfl) qHN
def qBy:LpsT:=fun r fr σ=>bif Nat.beq r 2 then orc qqP qig fr σ else .fail
def qyP (s:qU):Tr PV:=.ite (qpR s 0) (.ret (.int .i64 (qwh s 0))) .fail
theorem qMZ (s:qU):(tcall tbT qqb qBy Tryz.f175 [.str s,.fn 172 []]).flat=qyP s:=by kernel_rfl
def qAr (s:qU):Option PV:=(qyP s).run
def qkt (s:qU):Int:=(gInt (gVal (qAr s)))
def qpE (s:qU):Bool:=isW (qAr s) (.int .i64 (qkt s))
def qu0 (s:qU):Tr PV:=.ite (qnw s 0) (.ret (.int .i64 (qoI s 0))) .fail
theorem qLL (s:qU):(tcall tbT qqb qBy Tryz.f175 [.str s,.fn 173 []]).flat=qu0 s:=by kernel_rfl
def qvD (s:qU):Option PV:=(qu0 s).run
def qbU (s:qU):Int:=(gInt (gVal (qvD s)))
def qhk (s:qU):Bool:=isW (qvD s) (.int .i64 (qbU s))
def qBd:List PV→Tr PV|[.str s,.fn 172 []]=>.ite (qpE s) (.ret (.int .i64 (qkt s))) (.fail)|[.str s,.fn 173 []]=>.ite (qhk s) (.ret (.int .i64 (qbU s))) (.fail)|_=>.fail
theorem qA1 (gl:Gl):SimP Tryz.prog gl 175 fun args=>(qBd args).run:=by
 refine SimP.of_flat (G:=qqb) (L:=qBy) qak (qAx gl ) qah  Tryz.func175 rfl (by rfl) (by kernel_rfl) (qar (L:=lps qBy) [(2,qqT)] (by kernel_rfl) (List.forall_mem_cons.2 ⟨fun fr σ e fr' σ' h=>qDj gl  fr σ e fr' σ' h,(List.forall_mem_nil _)⟩)) ?_
 intro args x h;unfold qBd at h
 split at h
 ·exact (congrArg Tr.run (qMZ _)).trans (qad h fun h=>by cases h)
 ·exact (congrArg Tr.run (qLL _)).trans (qad h fun h=>by cases h)
 ·cases h
def qha:GamT:=ofL []
theorem qqu (gl:Gl):qam Tryz.prog gl (gam qha):=qag
def qh0:Code:=qcu Tryz.f176 2
def qiY:LI:=⟨21,[0,3],fun e=>match e with|.ret=>[2]|.exit 0=>[]|_=>[],true⟩
def qj8:LpsT:=fun r fr σ=>.fail
def qby (vs:List PV) (σ:Store):Option (PExit×List PV×Store):=lval (lstep tbT qha qj8 qh0 qiY) vs σ
def qcL (s:qU) (i:Int):Tr LR:=let z1:Store:=Store.mk [] [] [];.ite (iLt i (sLen s)) (.ite (qa0 s i) (.ite (iEq (sAt s i) 92) (.ret (.next [.str s,.int .i64 (iAdd .i64 (iAdd .i64 i 1) 1)] z1)) (.ite (iEq (sAt s i) 34) (.ret (.out .ret [.int .i64 (iAdd .i64 i 1)] z1)) (.ret (.next [.str s,.int .i64 (iAdd .i64 i 1)] z1)))) .fail) (.ret (.out (.exit 0) [] z1))
theorem qDk (s:qU) (i:Int):lstep tbT qha qj8 qh0 qiY [.str s,.int .i64 i] ⟨[],[],[]⟩=qcL s i:=by kernel_rfl
theorem qsm (s:qU) (i:Int):qby [.str s,.int .i64 i] ⟨[],[],[]⟩=lnext qby (qcL s i).run:=by unfold qby;rw [qaD,qDk]
def qe3 (s:qU) (i:Int):Option (PExit×List PV×Store):=qby [.str s,.int .i64 i] ⟨[],[],[]⟩
def qc2 (s:qU) (i:Int):Int:=(gInt (gOut (qe3 s i) 0))
def qes (s:qU) (i:Int):Bool:=isW (qe3 s i) (.ret,[.int .i64 (qc2 s i)],⟨[],[],[]⟩)
def qem (s:qU) (i:Int):Bool:=isW (qe3 s i) ((.exit 0),[],⟨[],[],[]⟩)
def qdn:List PV→Store→Tr (PExit×List PV×Store)|[.str s,.int .i64 i],⟨[],[],[]⟩=>.ite (qes s i) (.ret (.ret,[.int .i64 (qc2 s i)],⟨[],[],[]⟩)) (.ite (qem s i) (.ret ((.exit 0),[],⟨[],[],[]⟩)) (.fail))|_,_=>.fail
theorem qyL:∀ vs σ r,(qdn vs σ).run=some r→qby vs σ=some r:=by
 intro vs σ r h;unfold qdn at h
 split at h
 ·exact qad h fun h=>qad h fun h=>by cases h
 ·cases h
theorem quk (gl:Gl):∀ fr σ e fr' σ',(orc qiY qdn fr σ).run=some (e,fr',σ')→LDoes Tryz.prog gl qh0 fr σ e fr' σ':=qbq qak (qqu gl ) qah (L:=qj8) (qac (by kernel_rfl)) (by kernel_rfl) qyL
def qrz:LpsT:=fun r fr σ=>bif Nat.beq r 2 then orc qiY qdn fr σ else .fail
def qmO (s:qU):Tr PV:=.ite (qes s 1) (.ret (.int .i64 (qc2 s 1))) (.ite (qem s 1) (.ret (.int .i64 0)) .fail)
theorem qFU (s:qU):(tcall tbT qha qrz Tryz.f176 [.str s]).flat=qmO s:=by kernel_rfl
def qk1 (s:qU):Option PV:=(qmO s).run
def qd4 (s:qU):Int:=(gInt (gVal (qk1 s)))
def qgN (s:qU):Bool:=isW (qk1 s) (.int .i64 (qd4 s))
def qrX:List PV→Tr PV|[.str s]=>.ite (qgN s) (.ret (.int .i64 (qd4 s))) (.fail)|_=>.fail
theorem qyz (gl:Gl):SimP Tryz.prog gl 176 fun args=>(qrX args).run:=by
 refine SimP.of_flat (G:=qha) (L:=qrz) qak (qqu gl ) qah  Tryz.func176 rfl (by rfl) (by kernel_rfl) (qar (L:=lps qrz) [(2,qh0)] (by kernel_rfl) (List.forall_mem_cons.2 ⟨fun fr σ e fr' σ' h=>quk gl  fr σ e fr' σ' h,(List.forall_mem_nil _)⟩)) ?_
 intro args x h;unfold qrX at h
 split at h
 ·exact (congrArg Tr.run (qFU _)).trans (qad h fun h=>by cases h)
 ·cases h
def qxX:GamT:=ofL [(170,.pure qf8)]
theorem qAZ (gl:Gl):qam Tryz.prog gl (gam qxX):=(qae (qls gl) qag)
def quV:Code:=qcu Tryz.f159 2
def quw:LI:=⟨34,[0,3],fun e=>match e with|.ret=>[2]|.exit 0=>[3]|_=>[],true⟩
def quK:LpsT:=fun r fr σ=>.fail
def qjX (vs:List PV) (σ:Store):Option (PExit×List PV×Store):=lval (lstep tbT qxX quK quV quw) vs σ
def qgn (s:qU) (at_:Int):Tr LR:=let z1:=sAt s at_;let z2:Store:=Store.mk [] [] [];let z3:=idxV (sSub s (nNat at_) (nLen s)) 10;.ite (iLt at_ (sLen s)) (.ite (qa0 s at_) (.ite (iEq z1 32) (.ret (.next [.str s,.int .i64 (iAdd .i64 at_ 1)] z2)) (.ite (iEq z1 9) (.ret (.next [.str s,.int .i64 (iAdd .i64 at_ 1)] z2)) (.ite (iEq z1 10) (.ret (.next [.str s,.int .i64 (iAdd .i64 at_ 1)] z2)) (.ite (iEq z1 13) (.ret (.next [.str s,.int .i64 (iAdd .i64 at_ 1)] z2)) (.ite (iEq z1 37) (.ite (qbd (qas at_) true (nNat at_) (nLen s) (nLen s)) (.ite (iLt z3 0) (.ret (.out .ret [.int .i64 (sLen s)] z2)) (.ret (.next [.str s,.int .i64 (iAdd .i64 at_ z3)] z2))) .fail) (.ret (.out .ret [.int .i64 at_] z2))))))) .fail) (.ret (.out (.exit 0) [.int .i64 at_] z2))
theorem qKB (s:qU) (at_:Int):lstep tbT qxX quK quV quw [.str s,.int .i64 at_] ⟨[],[],[]⟩=qgn s at_:=by kernel_rfl
theorem qEV (s:qU) (at_:Int):qjX [.str s,.int .i64 at_] ⟨[],[],[]⟩=lnext qjX (qgn s at_).run:=by unfold qjX;rw [qaD,qKB]
def qqZ (s:qU) (at_:Int):Option (PExit×List PV×Store):=qjX [.str s,.int .i64 at_] ⟨[],[],[]⟩
def qlS (s:qU) (at_:Int):Int:=(gInt (gOut (qqZ s at_) 0))
def qqH (s:qU) (at_:Int):Bool:=isW (qqZ s at_) (.ret,[.int .i64 (qlS s at_)],⟨[],[],[]⟩)
def qfM (s:qU) (at_:Int):Int:=(gInt (gOut (qqZ s at_) 0))
def qp3 (s:qU) (at_:Int):Bool:=isW (qqZ s at_) ((.exit 0),[.int .i64 (qfM s at_)],⟨[],[],[]⟩)
def qiv:List PV→Store→Tr (PExit×List PV×Store)|[.str s,.int .i64 at_],⟨[],[],[]⟩=>.ite (qqH s at_) (.ret (.ret,[.int .i64 (qlS s at_)],⟨[],[],[]⟩)) (.ite (qp3 s at_) (.ret ((.exit 0),[.int .i64 (qfM s at_)],⟨[],[],[]⟩)) (.fail))|_,_=>.fail
theorem qHw:∀ vs σ r,(qiv vs σ).run=some r→qjX vs σ=some r:=by
 intro vs σ r h;unfold qiv at h
 split at h
 ·exact qad h fun h=>qad h fun h=>by cases h
 ·cases h
theorem qCA (gl:Gl):∀ fr σ e fr' σ',(orc quw qiv fr σ).run=some (e,fr',σ')→LDoes Tryz.prog gl quV fr σ e fr' σ':=qbq qak (qAZ gl ) qah (L:=quK) (qac (by kernel_rfl)) (by kernel_rfl) qHw
def qGO:LpsT:=fun r fr σ=>bif Nat.beq r 2 then orc quw qiv fr σ else .fail
def qy3 (s:qU):Tr PV:=.ite (qqH s 0) (.ret (.int .i64 (qlS s 0))) (.ite (qp3 s 0) (.ret (.int .i64 (qfM s 0))) .fail)
theorem qM0 (s:qU):(tcall tbT qxX qGO Tryz.f159 [.str s]).flat=qy3 s:=by kernel_rfl
def qAq (s:qU):Option PV:=(qy3 s).run
def qhd (s:qU):Int:=(gInt (gVal (qAq s)))
def qgG (s:qU):Bool:=isW (qAq s) (.int .i64 (qhd s))
def qFE:List PV→Tr PV|[.str s]=>.ite (qgG s) (.ret (.int .i64 (qhd s))) (.fail)|_=>.fail
theorem qGV (gl:Gl):SimP Tryz.prog gl 159 fun args=>(qFE args).run:=by
 refine SimP.of_flat (G:=qxX) (L:=qGO) qak (qAZ gl ) qah  Tryz.func159 rfl (by rfl) (by kernel_rfl) (qar (L:=lps qGO) [(2,quV)] (by kernel_rfl) (List.forall_mem_cons.2 ⟨fun fr σ e fr' σ' h=>qCA gl  fr σ e fr' σ' h,(List.forall_mem_nil _)⟩)) ?_
 intro args x h;unfold qFE at h
 split at h
 ·exact (congrArg Tr.run (qM0 _)).trans (qad h fun h=>by cases h)
 ·cases h
def qz4:GamT:=ofL [(172,.pure qe8),(175,.pure qBd)]
theorem qEO (gl:Gl):qam Tryz.prog gl (gam qz4):=(qae (qhq gl) (qae (qA1 gl) qag))
def qGo:LpsT:=fun r fr σ=>.fail
def qvv (s:qU) (k:Int):Tr PV:=.ite (qpE s) (.ite (qbd true (qas (qkt s)) 0 (nNat (qkt s)) (nLen s)) (.ret (.tup [.agg [.int .i64 k,.str (sSub s 0 (nNat (qkt s))),.int .i64 0,.int .i64 0,.str [],.int .i64 0],.bool (iLe (qkt s) 64)])) .fail) .fail
theorem qLx (s:qU) (k:Int):(tcall tbT qz4 qGo Tryz.f171 [.str s,.int .i64 k]).flat=qvv s k:=by kernel_rfl
def qeO (s:qU) (k:Int):Option PV:=(qvv s k).run
def qjT (s:qU) (k:Int):Int:=(gInt (gAt (gCs (gAt (gCs (gVal (qeO s k))) 0)) 0))
def qj1 (s:qU) (k:Int):qU:=(gStr (gAt (gCs (gAt (gCs (gVal (qeO s k))) 0)) 1))
def qfU (s:qU) (k:Int):Int:=(gInt (gAt (gCs (gAt (gCs (gVal (qeO s k))) 0)) 2))
def qgq (s:qU) (k:Int):Int:=(gInt (gAt (gCs (gAt (gCs (gVal (qeO s k))) 0)) 3))
def qgy (s:qU) (k:Int):qU:=(gStr (gAt (gCs (gAt (gCs (gVal (qeO s k))) 0)) 4))
def qfD (s:qU) (k:Int):Int:=(gInt (gAt (gCs (gAt (gCs (gVal (qeO s k))) 0)) 5))
def qkf (s:qU) (k:Int):Bool:=(qaZ (gAt (gCs (gVal (qeO s k))) 1))
def qg8 (s:qU) (k:Int):Bool:=isW (qeO s k) (.tup [.agg [.int .i64 (qjT s k),.str (qj1 s k),.int .i64 (qfU s k),.int .i64 (qgq s k),.str (qgy s k),.int .i64 (qfD s k)],.bool (qkf s k)])
def qzv:List PV→Tr PV|[.str s,.int .i64 k]=>.ite (qg8 s k) (.ret (.tup [.agg [.int .i64 (qjT s k),.str (qj1 s k),.int .i64 (qfU s k),.int .i64 (qgq s k),.str (qgy s k),.int .i64 (qfD s k)],.bool (qkf s k)])) (.fail)|_=>.fail
theorem qEr (gl:Gl):SimP Tryz.prog gl 171 fun args=>(qzv args).run:=by
 refine SimP.of_flat (G:=qz4) (L:=qGo) qak (qEO gl ) qah  Tryz.func171 rfl (by rfl) (by kernel_rfl) (qac (by kernel_rfl)) ?_
 intro args x h;unfold qzv at h
 split at h
 ·exact (congrArg Tr.run (qLx _ _)).trans (qad h fun h=>by cases h)
 ·cases h
def qqz:GamT:=ofL [(189,.pure qFD)]
theorem qzz (gl:Gl) (hg:GlOk gl):qam Tryz.prog gl (gam qqz):=(qae (qHz hg) qag)
def qyh:LpsT:=fun r fr σ=>.fail
def qmy (s:qU) (k:Int):Tr PV:=.ite (qsg s) (.ret (.tup [.agg [.int .i64 k,.str s,.int .i64 (kRd s),.int .i64 (nRd s),.str (sRd s),.int .i64 0],.bool (iEq (eRd s) 0)])) .fail
theorem qFV (s:qU) (k:Int):(tcall tbT qqz qyh Tryz.f174 [.str s,.int .i64 k]).flat=qmy s k:=by kernel_rfl
def qbX (s:qU) (k:Int):Option PV:=(qmy s k).run
def qcq (s:qU) (k:Int):Int:=(gInt (gAt (gCs (gAt (gCs (gVal (qbX s k))) 0)) 0))
def qcm (s:qU) (k:Int):qU:=(gStr (gAt (gCs (gAt (gCs (gVal (qbX s k))) 0)) 1))
def qbQ (s:qU) (k:Int):Int:=(gInt (gAt (gCs (gAt (gCs (gVal (qbX s k))) 0)) 2))
def qbO (s:qU) (k:Int):Int:=(gInt (gAt (gCs (gAt (gCs (gVal (qbX s k))) 0)) 3))
def qbR (s:qU) (k:Int):qU:=(gStr (gAt (gCs (gAt (gCs (gVal (qbX s k))) 0)) 4))
def qbJ (s:qU) (k:Int):Int:=(gInt (gAt (gCs (gAt (gCs (gVal (qbX s k))) 0)) 5))
def qcx (s:qU) (k:Int):Bool:=(qaZ (gAt (gCs (gVal (qbX s k))) 1))
def qcQ (s:qU) (k:Int):Bool:=isW (qbX s k) (.tup [.agg [.int .i64 (qcq s k),.str (qcm s k),.int .i64 (qbQ s k),.int .i64 (qbO s k),.str (qbR s k),.int .i64 (qbJ s k)],.bool (qcx s k)])
def qrY:List PV→Tr PV|[.str s,.int .i64 k]=>.ite (qcQ s k) (.ret (.tup [.agg [.int .i64 (qcq s k),.str (qcm s k),.int .i64 (qbQ s k),.int .i64 (qbO s k),.str (qbR s k),.int .i64 (qbJ s k)],.bool (qcx s k)])) (.fail)|_=>.fail
theorem qyu (gl:Gl) (hg:GlOk gl):SimP Tryz.prog gl 174 fun args=>(qrY args).run:=by
 refine SimP.of_flat (G:=qqz) (L:=qyh) qak (qzz gl hg ) qah  Tryz.func174 rfl (by rfl) (by kernel_rfl) (qac (by kernel_rfl)) ?_
 intro args x h;unfold qrY at h
 split at h
 ·exact (congrArg Tr.run (qFV _ _)).trans (qad h fun h=>by cases h)
 ·cases h
def qp5:GamT:=ofL [(170,.pure qf8),(171,.pure qzv),(172,.pure qe8),(173,.pure qkJ),(174,.pure qrY),(175,.pure qBd),(176,.pure qrX),(177,.pure qn0),(qze+0,.glob qDN)]
theorem qyj (gl:Gl) (hg:GlLex gl):qam Tryz.prog gl (gam qp5):=(qae (qls gl) (qae (qEr gl) (qae (qhq gl) (qae (qmK gl) (qae (qyu gl hg.toGlOk) (qae (qA1 gl) (qae (qyz gl) (qae (qsz gl) (qc1 (K:=.glob qDN) (qBT hg) qag)))))))))
def qpK:Code:=qcu Tryz.f160 16
def qoV:LI:=⟨90,[0,2,4,74,75],fun e=>match e with|.ret=>[2,3]|.exit 1=>[0,2,4]|_=>[],true⟩
def qpY:LpsT:=fun r fr σ=>.fail
def qhP (vs:List PV) (σ:Store):Option (PExit×List PV×Store):=lval (lstep tbT qp5 qpY qpK qoV) vs σ
def qa8 (s:qU) (n:Int) (s2 s3 s4 s5:qU) (n2 n3:Int) (s6:qU) (n4 n5:Int) (s7:qU) (n6:Int):Tr LR:=let z1:Store:=Store.mk [[.int .i64 n3,.str s6,.int .i64 n4,.int .i64 n5,.str s7,.int .i64 n6]] [] [44];.ite (iLt n2 4) (.ite (iEq n2 (Int.ofNat 0)) (.ite (qdd s s2) (.ret (.out .ret [.ptr 0 0,.bool true] (Store.mk [[.int .i64 6,.str s2,.int .i64 0,.int .i64 0,.str [],.int .i64 0]] [] [44]))) (.ret (.next [.str s,.ptr 0 0,.int .u8 n,.agg [.str s2,.str s3,.str s4,.str s5],.int .i64 (iAdd .i64 n2 1)] z1))) (.ite (iEq n2 (Int.ofNat 1)) (.ite (qdd s s3) (.ret (.out .ret [.ptr 0 0,.bool true] (Store.mk [[.int .i64 6,.str s3,.int .i64 0,.int .i64 0,.str [],.int .i64 0]] [] [44]))) (.ret (.next [.str s,.ptr 0 0,.int .u8 n,.agg [.str s2,.str s3,.str s4,.str s5],.int .i64 (iAdd .i64 n2 1)] z1))) (.ite (iEq n2 (Int.ofNat 2)) (.ite (qdd s s4) (.ret (.out .ret [.ptr 0 0,.bool true] (Store.mk [[.int .i64 6,.str s4,.int .i64 0,.int .i64 0,.str [],.int .i64 0]] [] [44]))) (.ret (.next [.str s,.ptr 0 0,.int .u8 n,.agg [.str s2,.str s3,.str s4,.str s5],.int .i64 (iAdd .i64 n2 1)] z1))) (.ite (iEq n2 (Int.ofNat 3)) (.ite (qdd s s5) (.ret (.out .ret [.ptr 0 0,.bool true] (Store.mk [[.int .i64 6,.str s5,.int .i64 0,.int .i64 0,.str [],.int .i64 0]] [] [44]))) (.ret (.next [.str s,.ptr 0 0,.int .u8 n,.agg [.str s2,.str s3,.str s4,.str s5],.int .i64 (iAdd .i64 n2 1)] z1))) .fail)))) (.ret (.out (.exit 1) [.str s,.ptr 0 0,.int .u8 n] z1))
theorem qH2 (s:qU) (n:Int) (s2 s3 s4 s5:qU) (n2 n3:Int) (s6:qU) (n4 n5:Int) (s7:qU) (n6:Int):lstep tbT qp5 qpY qpK qoV [.str s,.ptr 0 0,.int .u8 n,.agg [.str s2,.str s3,.str s4,.str s5],.int .i64 n2] ⟨[[.int .i64 n3,.str s6,.int .i64 n4,.int .i64 n5,.str s7,.int .i64 n6]],[],[44]⟩=qa8 s n s2 s3 s4 s5 n2 n3 s6 n4 n5 s7 n6:=by kernel_rfl
theorem qkq (s:qU) (n:Int) (s2 s3 s4 s5:qU) (n2 n3:Int) (s6:qU) (n4 n5:Int) (s7:qU) (n6:Int):qhP [.str s,.ptr 0 0,.int .u8 n,.agg [.str s2,.str s3,.str s4,.str s5],.int .i64 n2] ⟨[[.int .i64 n3,.str s6,.int .i64 n4,.int .i64 n5,.str s7,.int .i64 n6]],[],[44]⟩=lnext qhP (qa8 s n s2 s3 s4 s5 n2 n3 s6 n4 n5 s7 n6).run:=by unfold qhP;rw [qaD,qH2]
def qaO (s:qU) (n:Int) (s2 s3 s4 s5:qU) (n2 n3:Int) (s6:qU) (n4 n5:Int) (s7:qU) (n6:Int):Option (PExit×List PV×Store):=qhP [.str s,.ptr 0 0,.int .u8 n,.agg [.str s2,.str s3,.str s4,.str s5],.int .i64 n2] ⟨[[.int .i64 n3,.str s6,.int .i64 n4,.int .i64 n5,.str s7,.int .i64 n6]],[],[44]⟩
def qdB (s:qU) (n:Int) (s2 s3 s4 s5:qU) (n2 n3:Int) (s6:qU) (n4 n5:Int) (s7:qU) (n6:Int):Bool:=(qaZ (gOut (qaO s n s2 s3 s4 s5 n2 n3 s6 n4 n5 s7 n6) 1))
def qdE (s:qU) (n:Int) (s2 s3 s4 s5:qU) (n2 n3:Int) (s6:qU) (n4 n5:Int) (s7:qU) (n6:Int):Int:=(gInt (gAt (gObj (qaO s n s2 s3 s4 s5 n2 n3 s6 n4 n5 s7 n6) 0) 0))
def qdx (s:qU) (n:Int) (s2 s3 s4 s5:qU) (n2 n3:Int) (s6:qU) (n4 n5:Int) (s7:qU) (n6:Int):qU:=(gStr (gAt (gObj (qaO s n s2 s3 s4 s5 n2 n3 s6 n4 n5 s7 n6) 0) 1))
def qcF (s:qU) (n:Int) (s2 s3 s4 s5:qU) (n2 n3:Int) (s6:qU) (n4 n5:Int) (s7:qU) (n6:Int):Int:=(gInt (gAt (gObj (qaO s n s2 s3 s4 s5 n2 n3 s6 n4 n5 s7 n6) 0) 2))
def qcP (s:qU) (n:Int) (s2 s3 s4 s5:qU) (n2 n3:Int) (s6:qU) (n4 n5:Int) (s7:qU) (n6:Int):Int:=(gInt (gAt (gObj (qaO s n s2 s3 s4 s5 n2 n3 s6 n4 n5 s7 n6) 0) 3))
def qcI (s:qU) (n:Int) (s2 s3 s4 s5:qU) (n2 n3:Int) (s6:qU) (n4 n5:Int) (s7:qU) (n6:Int):qU:=(gStr (gAt (gObj (qaO s n s2 s3 s4 s5 n2 n3 s6 n4 n5 s7 n6) 0) 4))
def qcU (s:qU) (n:Int) (s2 s3 s4 s5:qU) (n2 n3:Int) (s6:qU) (n4 n5:Int) (s7:qU) (n6:Int):Int:=(gInt (gAt (gObj (qaO s n s2 s3 s4 s5 n2 n3 s6 n4 n5 s7 n6) 0) 5))
def qch (s:qU) (n:Int) (s2 s3 s4 s5:qU) (n2 n3:Int) (s6:qU) (n4 n5:Int) (s7:qU) (n6:Int):Bool:=isW (qaO s n s2 s3 s4 s5 n2 n3 s6 n4 n5 s7 n6) (.ret,[.ptr 0 0,.bool (qdB s n s2 s3 s4 s5 n2 n3 s6 n4 n5 s7 n6)],⟨[[.int .i64 (qdE s n s2 s3 s4 s5 n2 n3 s6 n4 n5 s7 n6),.str (qdx s n s2 s3 s4 s5 n2 n3 s6 n4 n5 s7 n6),.int .i64 (qcF s n s2 s3 s4 s5 n2 n3 s6 n4 n5 s7 n6),.int .i64 (qcP s n s2 s3 s4 s5 n2 n3 s6 n4 n5 s7 n6),.str (qcI s n s2 s3 s4 s5 n2 n3 s6 n4 n5 s7 n6),.int .i64 (qcU s n s2 s3 s4 s5 n2 n3 s6 n4 n5 s7 n6)]],[],[44]⟩)
def qcg (s:qU) (n:Int) (s2 s3 s4 s5:qU) (n2 n3:Int) (s6:qU) (n4 n5:Int) (s7:qU) (n6:Int):qU:=(gStr (gOut (qaO s n s2 s3 s4 s5 n2 n3 s6 n4 n5 s7 n6) 0))
def qcH (s:qU) (n:Int) (s2 s3 s4 s5:qU) (n2 n3:Int) (s6:qU) (n4 n5:Int) (s7:qU) (n6:Int):Int:=(gInt (gOut (qaO s n s2 s3 s4 s5 n2 n3 s6 n4 n5 s7 n6) 2))
def qjQ (s:qU) (n:Int) (s2 s3 s4 s5:qU) (n2 n3:Int) (s6:qU) (n4 n5:Int) (s7:qU) (n6:Int):Int:=(gInt (gAt (gObj (qaO s n s2 s3 s4 s5 n2 n3 s6 n4 n5 s7 n6) 0) 0))
def qjx (s:qU) (n:Int) (s2 s3 s4 s5:qU) (n2 n3:Int) (s6:qU) (n4 n5:Int) (s7:qU) (n6:Int):qU:=(gStr (gAt (gObj (qaO s n s2 s3 s4 s5 n2 n3 s6 n4 n5 s7 n6) 0) 1))
def qjO (s:qU) (n:Int) (s2 s3 s4 s5:qU) (n2 n3:Int) (s6:qU) (n4 n5:Int) (s7:qU) (n6:Int):Int:=(gInt (gAt (gObj (qaO s n s2 s3 s4 s5 n2 n3 s6 n4 n5 s7 n6) 0) 2))
def qjH (s:qU) (n:Int) (s2 s3 s4 s5:qU) (n2 n3:Int) (s6:qU) (n4 n5:Int) (s7:qU) (n6:Int):Int:=(gInt (gAt (gObj (qaO s n s2 s3 s4 s5 n2 n3 s6 n4 n5 s7 n6) 0) 3))
def qkh (s:qU) (n:Int) (s2 s3 s4 s5:qU) (n2 n3:Int) (s6:qU) (n4 n5:Int) (s7:qU) (n6:Int):qU:=(gStr (gAt (gObj (qaO s n s2 s3 s4 s5 n2 n3 s6 n4 n5 s7 n6) 0) 4))
def qke (s:qU) (n:Int) (s2 s3 s4 s5:qU) (n2 n3:Int) (s6:qU) (n4 n5:Int) (s7:qU) (n6:Int):Int:=(gInt (gAt (gObj (qaO s n s2 s3 s4 s5 n2 n3 s6 n4 n5 s7 n6) 0) 5))
def qe1 (s:qU) (n:Int) (s2 s3 s4 s5:qU) (n2 n3:Int) (s6:qU) (n4 n5:Int) (s7:qU) (n6:Int):Bool:=isW (qaO s n s2 s3 s4 s5 n2 n3 s6 n4 n5 s7 n6) ((.exit 1),[.str (qcg s n s2 s3 s4 s5 n2 n3 s6 n4 n5 s7 n6),.ptr 0 0,.int .u8 (qcH s n s2 s3 s4 s5 n2 n3 s6 n4 n5 s7 n6)],⟨[[.int .i64 (qjQ s n s2 s3 s4 s5 n2 n3 s6 n4 n5 s7 n6),.str (qjx s n s2 s3 s4 s5 n2 n3 s6 n4 n5 s7 n6),.int .i64 (qjO s n s2 s3 s4 s5 n2 n3 s6 n4 n5 s7 n6),.int .i64 (qjH s n s2 s3 s4 s5 n2 n3 s6 n4 n5 s7 n6),.str (qkh s n s2 s3 s4 s5 n2 n3 s6 n4 n5 s7 n6),.int .i64 (qke s n s2 s3 s4 s5 n2 n3 s6 n4 n5 s7 n6)]],[],[44]⟩)
def qgJ:List PV→Store→Tr (PExit×List PV×Store)|[.str s,.ptr 0 0,.int .u8 n,.agg [.str s2,.str s3,.str s4,.str s5],.int .i64 n2],⟨[[.int .i64 n3,.str s6,.int .i64 n4,.int .i64 n5,.str s7,.int .i64 n6]],[],[44]⟩=>.ite (qch s n s2 s3 s4 s5 n2 n3 s6 n4 n5 s7 n6) (.ret (.ret,[.ptr 0 0,.bool (qdB s n s2 s3 s4 s5 n2 n3 s6 n4 n5 s7 n6)],⟨[[.int .i64 (qdE s n s2 s3 s4 s5 n2 n3 s6 n4 n5 s7 n6),.str (qdx s n s2 s3 s4 s5 n2 n3 s6 n4 n5 s7 n6),.int .i64 (qcF s n s2 s3 s4 s5 n2 n3 s6 n4 n5 s7 n6),.int .i64 (qcP s n s2 s3 s4 s5 n2 n3 s6 n4 n5 s7 n6),.str (qcI s n s2 s3 s4 s5 n2 n3 s6 n4 n5 s7 n6),.int .i64 (qcU s n s2 s3 s4 s5 n2 n3 s6 n4 n5 s7 n6)]],[],[44]⟩)) (.ite (qe1 s n s2 s3 s4 s5 n2 n3 s6 n4 n5 s7 n6) (.ret ((.exit 1),[.str (qcg s n s2 s3 s4 s5 n2 n3 s6 n4 n5 s7 n6),.ptr 0 0,.int .u8 (qcH s n s2 s3 s4 s5 n2 n3 s6 n4 n5 s7 n6)],⟨[[.int .i64 (qjQ s n s2 s3 s4 s5 n2 n3 s6 n4 n5 s7 n6),.str (qjx s n s2 s3 s4 s5 n2 n3 s6 n4 n5 s7 n6),.int .i64 (qjO s n s2 s3 s4 s5 n2 n3 s6 n4 n5 s7 n6),.int .i64 (qjH s n s2 s3 s4 s5 n2 n3 s6 n4 n5 s7 n6),.str (qkh s n s2 s3 s4 s5 n2 n3 s6 n4 n5 s7 n6),.int .i64 (qke s n s2 s3 s4 s5 n2 n3 s6 n4 n5 s7 n6)]],[],[44]⟩)) (.fail))|_,_=>.fail
theorem qE9:∀ vs σ r,(qgJ vs σ).run=some r→qhP vs σ=some r:=by
 intro vs σ r h;unfold qgJ at h
 split at h
 ·exact qad h fun h=>qad h fun h=>by cases h
 ·cases h
theorem qzg (gl:Gl) (hg:GlLex gl):∀ fr σ e fr' σ',(orc qoV qgJ fr σ).run=some (e,fr',σ')→LDoes Tryz.prog gl qpK fr σ e fr' σ':=qbq qak (qyj gl hg ) qah (L:=qpY) (qac (by kernel_rfl)) (by kernel_rfl) qE9
def qzW:LpsT:=fun r fr σ=>bif Nat.beq r 16 then orc qoV qgJ fr σ else .fail
def qdq (v:qU):Tr PV:=let z1:=sAt v 0;let z2:Tr PV:=.ite (qg8 v 1) (.ret (.tup [.agg [.int .i64 (qjT v 1),.str (qj1 v 1),.int .i64 (qfU v 1),.int .i64 (qgq v 1),.str (qgy v 1),.int .i64 (qfD v 1)],.bool (qkf v 1)])) .fail;let z3:Tr PV:=.ite (qg8 v 2) (.ret (.tup [.agg [.int .i64 (qjT v 2),.str (qj1 v 2),.int .i64 (qfU v 2),.int .i64 (qgq v 2),.str (qgy v 2),.int .i64 (qfD v 2)],.bool (qkf v 2)])) .fail;let z4:=iAdd .i64 1 (qbU (sSub v (nNat 1) (nLen v)));let z5:=sSub v 0 (nNat z4);let z6:Tr PV:=.ite (qbd (qas 1) true (nNat 1) (nLen v) (nLen v)) (.ite (qhk (sSub v (nNat 1) (nLen v))) (.ite (qbd true (qas z4) 0 (nNat z4) (nLen v)) (.ite (qcQ z5 4) (.ret (.tup [.agg [.int .i64 (qcq z5 4),.str (qcm z5 4),.int .i64 (qbQ z5 4),.int .i64 (qbO z5 4),.str (qbR z5 4),.int .i64 (qbJ z5 4)],.bool (qcx z5 4)])) .fail) .fail) .fail) .fail;let z7:=sSub v 0 (nNat (qd4 v));let z8:=qcg v z1 [58,45] [60,61] [62,61] [33,61] 0 0 [] 0 0 [] 0;let z9:Tr PV:=.ite (iEq z1 34) (.ite (qgN v) (.ite (qbd true (qas (qd4 v)) 0 (nNat (qd4 v)) (nLen v)) (.ite (qcQ z7 5) (.ret (.tup [.agg [.int .i64 (qcq z7 5),.str (qcm z7 5),.int .i64 (qbQ z7 5),.int .i64 (qbO z7 5),.str (qbR z7 5),.int .i64 (qbJ z7 5)],.bool (qcx z7 5)])) .fail) .fail) .fail) (.ite (qch v z1 [58,45] [60,61] [62,61] [33,61] 0 0 [] 0 0 [] 0) (.ret (.tup [.agg [.int .i64 (qdE v z1 [58,45] [60,61] [62,61] [33,61] 0 0 [] 0 0 [] 0),.str (qdx v z1 [58,45] [60,61] [62,61] [33,61] 0 0 [] 0 0 [] 0),.int .i64 (qcF v z1 [58,45] [60,61] [62,61] [33,61] 0 0 [] 0 0 [] 0),.int .i64 (qcP v z1 [58,45] [60,61] [62,61] [33,61] 0 0 [] 0 0 [] 0),.str (qcI v z1 [58,45] [60,61] [62,61] [33,61] 0 0 [] 0 0 [] 0),.int .i64 (qcU v z1 [58,45] [60,61] [62,61] [33,61] 0 0 [] 0 0 [] 0)],.bool (qdB v z1 [58,45] [60,61] [62,61] [33,61] 0 0 [] 0 0 [] 0)])) (.ite (qe1 v z1 [58,45] [60,61] [62,61] [33,61] 0 0 [] 0 0 [] 0) (.ite (qbd true (qas 1) 0 (nNat 1) (nLen z8)) (.ret (.tup [.agg [.int .i64 6,.str (sSub z8 0 (nNat 1)),.int .i64 0,.int .i64 0,.str [],.int .i64 0],.bool (iLe 0 (idxV [40,41,44,46,43,45,61,58,60,62] (qcH v z1 [58,45] [60,61] [62,61] [33,61] 0 0 [] 0 0 [] 0)))])) .fail) .fail));let z10:Tr PV:=.ite (iEq z1 95) (.ite (qcd (sAt v 1)) (.ret (.tup [.agg [.int .i64 3,.str [95],.int .i64 0,.int .i64 0,.str [],.int .i64 0],.bool (bNot (qce (sAt v 1)))])) .fail) (.ite (qbN z1) (.ite (qba z1) z6 (.ite (iEq z1 45) (.ite (qbN (sAt v 1)) (.ite (qba (sAt v 1)) z6 z9) .fail) z9)) .fail);let z11:Tr PV:=.ite (iLe 65 z1) (.ite (iLe z1 90) z3 z10) z10;let z12:Tr PV:=.ite (iEq z1 95) (.ite (qcd 0) (.ret (.tup [.agg [.int .i64 3,.str [95],.int .i64 0,.int .i64 0,.str [],.int .i64 0],.bool (bNot (qce 0))])) .fail) (.ite (qbN z1) (.ite (qba z1) z6 (.ite (iEq z1 45) (.ite (qbN 0) (.ite (qba 0) z6 z9) .fail) z9)) .fail);let z13:Tr PV:=.ite (iLe 65 z1) (.ite (iLe z1 90) z3 z12) z12;.ite (qa0 v 0) (.ite (iLt 1 (sLen v)) (.ite (qa0 v 1) (.ite (iLe 97 z1) (.ite (iLe z1 122) z2 z11) z11) .fail) (.ite (iLe 97 z1) (.ite (iLe z1 122) z2 z13) z13)) .fail
theorem qKr (v:qU):(tcall tbT qp5 qzW Tryz.f160 [.str v]).flat=qdq v:=by kernel_rfl
def qaX (v:qU):Option PV:=(qdq v).run
def qei (v:qU):Int:=(gInt (gAt (gCs (gAt (gCs (gVal (qaX v))) 0)) 0))
def qcO (v:qU):qU:=(gStr (gAt (gCs (gAt (gCs (gVal (qaX v))) 0)) 1))
def qcl (v:qU):Int:=(gInt (gAt (gCs (gAt (gCs (gVal (qaX v))) 0)) 2))
def qcs (v:qU):Int:=(gInt (gAt (gCs (gAt (gCs (gVal (qaX v))) 0)) 3))
def qcp (v:qU):qU:=(gStr (gAt (gCs (gAt (gCs (gVal (qaX v))) 0)) 4))
def qtL (v:qU):Int:=(gInt (gAt (gCs (gAt (gCs (gVal (qaX v))) 0)) 5))
def qkd (v:qU):Bool:=(qaZ (gAt (gCs (gVal (qaX v))) 1))
def qhg (v:qU):Bool:=isW (qaX v) (.tup [.agg [.int .i64 (qei v),.str (qcO v),.int .i64 (qcl v),.int .i64 (qcs v),.str (qcp v),.int .i64 (qtL v)],.bool (qkd v)])
def qz5:List PV→Tr PV|[.str v]=>.ite (qhg v) (.ret (.tup [.agg [.int .i64 (qei v),.str (qcO v),.int .i64 (qcl v),.int .i64 (qcs v),.str (qcp v),.int .i64 (qtL v)],.bool (qkd v)])) (.fail)|_=>.fail
theorem qEp (gl:Gl) (hg:GlLex gl):SimP Tryz.prog gl 160 fun args=>(qz5 args).run:=by
 refine SimP.of_flat (G:=qp5) (L:=qzW) qak (qyj gl hg ) qah  Tryz.func160 rfl (by rfl) (by kernel_rfl) (qar (L:=lps qzW) [(16,qpK)] (by kernel_rfl) (List.forall_mem_cons.2 ⟨fun fr σ e fr' σ' h=>qzg gl hg  fr σ e fr' σ' h,(List.forall_mem_nil _)⟩)) ?_
 intro args x h;unfold qz5 at h
 split at h
 ·exact (congrArg Tr.run (qKr _)).trans (qad h fun h=>by cases h)
 ·cases h
end Go.Pv
set_option maxHeartbeats 4000000
set_option maxRecDepth 200000
set_option linter.unusedSimpArgs false
set_option linter.unusedVariables false
namespace Go.Pv
open Go Go.Proofs Go.RowKit
def qiF:Code:=rngC Tryz.f82 500007
def qwK:RI:=⟨24,[2,3,4,5,12],[2,3,4,5],[.ptr 0 0,.ptr 1 0,.ptr 2 0,.ptr 3 0],[13,14],1⟩
def qrG:Nat→List PV→Store→Tr (PV×Store):=rtree tbT (ofL []) (fun _ _ _=>.fail) qwK (rngX qiF) (rngY qiF)
end Go.Pv
set_option maxHeartbeats 4000000
set_option maxRecDepth 200000
set_option linter.unusedSimpArgs false
set_option linter.unusedVariables false
namespace Go.Pv
open Go Go.Proofs
def qB6:GamT:=ofL [(159,.pure qFE),(160,.pure qz5),(qdl,.yld 1 qrG)]
theorem qGR (gl:Gl) (hg:GlLex gl) (hy:qnV Tryz.prog gl qdl (.yld 1 fun t a σ=>(qrG t a σ).run)):qam Tryz.prog gl (gam qB6):=(qae (qGV gl) (qae (qEp gl hg) (qc1 (K:=.yld 1 qrG) hy qag)))
def qxC:Code:=qcu Tryz.f158 1
def qw5:LI:=⟨41,[0,1,3],fun e=>match e with|.ret=>[]|.exit 0=>[]|_=>[],true⟩
def quS:LpsT:=fun r fr σ=>.fail
def qdS (vs:List PV) (σ:Store):Option (PExit×List PV×Store):=lval (lstep tbT qB6 quS qxC qw5) vs σ
def qrW (at_:Int) (r:qR) (n n2:Int) (r2:qR) (s:qU):Tr LR:=let z1:=nLen s;let z2:=sSub s (nNat at_) z1;let z3:=bNot (qkd z2);let z4:Store:=Store.mk [[.sl (qao 5 (qao 6 [])) .full],[.int .i64 at_],[.int .i64 120],[.sl (qao 5 (qao 6 r2)) .full],[.str s]] [(2,0,1)] [36,3,28,36,9];let z5:=iAdd .i64 at_ (sLen (qcO z2));let z6:=qbd (qas z5) true (nNat z5) z1 z1;let z7:=qgG (sSub s (nNat z5) z1);let z8:=xApp r2 [[.int .i64 (qei z2),.str (qcO z2),.int .i64 (qcl z2),.int .i64 (qcs z2),.str (qcp z2),.int .i64 at_]];let z9:Store:=Store.mk [[.sl (qao 5 (qao 6 r)) .full],[.int .i64 n],[.int .i64 n2],[.sl (qao 5 (qao 6 z8)) (.tok 1)],[.str s]] [(0,0,1),(nXs z8,6,44)] [36,3,28,36,9];.ite (iLt at_ (sLen s)) (.ite (qbd (qas at_) true (nNat at_) z1 z1) (.ite (qhg z2) (.ite (nEq 0 0) (.ite z3 (.ite true (.ret (.out .ret [] z4)) (.ite z3 (.ret (.out .ret [] z4)) (.ite z6 (.ite z7 (.ret (.next [.yld 0,.ptr 4 0,.int .i64 (iAdd .i64 z5 (qhd (sSub s (nNat z5) z1)))] z4)) .fail) .fail))) (.ite (qaP r2 [[.int .i64 (qei z2),.str (qcO z2),.int .i64 (qcl z2),.int .i64 (qcs z2),.str (qcp z2),.int .i64 at_]] 64) (.ite (qaC [[.int .i64 (qei z2),.str (qcO z2),.int .i64 (qcl z2),.int .i64 (qcs z2),.str (qcp z2),.int .i64 at_]] 6) (.ite (qaq r2 6) (.ite false (.ret (.out .ret [] z9)) (.ite z3 (.ret (.out .ret [] z9)) (.ite z6 (.ite z7 (.ret (.next [.yld 0,.ptr 4 0,.int .i64 (iAdd .i64 z5 (qhd (sSub s (nNat z5) z1)))] z9)) .fail) .fail))) .fail) .fail) .fail)) .fail) .fail) .fail) (.ret (.out (.exit 0) [] (Store.mk [[.sl r .full],[.int .i64 n],[.int .i64 n2],[.sl r2 .full],[.str s]] [(0,0,1)] [36,3,28,36,9])))
theorem qNa (at_:Int) (r:qR) (n n2:Int) (r2:qR) (s:qU):lstep tbT qB6 quS qxC qw5 [.yld 0,.ptr 4 0,.int .i64 at_] ⟨[[.sl r .full],[.int .i64 n],[.int .i64 n2],[.sl r2 .full],[.str s]],[(0,0,1)],[36,3,28,36,9]⟩=qrW at_ r n n2 r2 s:=by kernel_rfl
theorem qGI (at_:Int) (r:qR) (n n2:Int) (r2:qR) (s:qU):qdS [.yld 0,.ptr 4 0,.int .i64 at_] ⟨[[.sl r .full],[.int .i64 n],[.int .i64 n2],[.sl r2 .full],[.str s]],[(0,0,1)],[36,3,28,36,9]⟩=lnext qdS (qrW at_ r n n2 r2 s).run:=by unfold qdS;rw [qaD,qNa]
def qla (at_:Int) (r:qR) (n n2:Int) (r2:qR) (s:qU) (k:Nat):Tr LR:=let z1:=nLen s;let z2:=sSub s (nNat at_) z1;let z3:=bNot (qkd z2);let z4:Store:=Store.mk [[.sl (qao 5 (qao 6 [])) .full],[.int .i64 at_],[.int .i64 120],[.sl (qao 5 (qao 6 r2)) (.tok 1)],[.str s]] [(2,0,1),(k,6,44)] [36,3,28,36,9];let z5:=iAdd .i64 at_ (sLen (qcO z2));let z6:=qbd (qas z5) true (nNat z5) z1 z1;let z7:=qgG (sSub s (nNat z5) z1);let z8:=xApp r2 [[.int .i64 (qei z2),.str (qcO z2),.int .i64 (qcl z2),.int .i64 (qcs z2),.str (qcp z2),.int .i64 at_]];let z9:Store:=Store.mk [[.sl (qao 5 (qao 6 r)) .full],[.int .i64 n],[.int .i64 n2],[.sl (qao 5 (qao 6 z8)) (.tok 1)],[.str s]] [(0,0,1),(nXs z8,6,44)] [36,3,28,36,9];.ite (iLt at_ (sLen s)) (.ite (qbd (qas at_) true (nNat at_) z1 z1) (.ite (qhg z2) (.ite (nEq 0 0) (.ite z3 (.ite true (.ret (.out .ret [] z4)) (.ite z3 (.ret (.out .ret [] z4)) (.ite z6 (.ite z7 (.ret (.next [.yld 0,.ptr 4 0,.int .i64 (iAdd .i64 z5 (qhd (sSub s (nNat z5) z1)))] z4)) .fail) .fail))) (.ite (qaP r2 [[.int .i64 (qei z2),.str (qcO z2),.int .i64 (qcl z2),.int .i64 (qcs z2),.str (qcp z2),.int .i64 at_]] 64) (.ite (qaC [[.int .i64 (qei z2),.str (qcO z2),.int .i64 (qcl z2),.int .i64 (qcs z2),.str (qcp z2),.int .i64 at_]] 6) (.ite (qaq r2 6) (.ite (nEq k (nXs r2)) (.ite false (.ret (.out .ret [] z9)) (.ite z3 (.ret (.out .ret [] z9)) (.ite z6 (.ite z7 (.ret (.next [.yld 0,.ptr 4 0,.int .i64 (iAdd .i64 z5 (qhd (sSub s (nNat z5) z1)))] z9)) .fail) .fail))) .fail) .fail) .fail) .fail)) .fail) .fail) .fail) (.ret (.out (.exit 0) [] (Store.mk [[.sl r .full],[.int .i64 n],[.int .i64 n2],[.sl r2 (.tok 1)],[.str s]] [(0,0,1),(k,6,44)] [36,3,28,36,9])))
theorem qLZ (at_:Int) (r:qR) (n n2:Int) (r2:qR) (s:qU) (k:Nat):lstep tbT qB6 quS qxC qw5 [.yld 0,.ptr 4 0,.int .i64 at_] ⟨[[.sl r .full],[.int .i64 n],[.int .i64 n2],[.sl r2 (.tok 1)],[.str s]],[(0,0,1),(k,6,44)],[36,3,28,36,9]⟩=qla at_ r n n2 r2 s k:=by kernel_rfl
theorem qzR (at_:Int) (r:qR) (n n2:Int) (r2:qR) (s:qU) (k:Nat):qdS [.yld 0,.ptr 4 0,.int .i64 at_] ⟨[[.sl r .full],[.int .i64 n],[.int .i64 n2],[.sl r2 (.tok 1)],[.str s]],[(0,0,1),(k,6,44)],[36,3,28,36,9]⟩=lnext qdS (qla at_ r n n2 r2 s k).run:=by unfold qdS;rw [qaD,qLZ]
def qaA (at_:Int) (r:qR) (n n2:Int) (r2:qR) (s:qU):Option (PExit×List PV×Store):=qdS [.yld 0,.ptr 4 0,.int .i64 at_] ⟨[[.sl r .full],[.int .i64 n],[.int .i64 n2],[.sl r2 .full],[.str s]],[(0,0,1)],[36,3,28,36,9]⟩
def qgv (at_:Int) (r:qR) (n n2:Int) (r2:qR) (s:qU):qR:=(gRow (gAt (gObj (qaA at_ r n n2 r2 s) 0) 0))
def qfV (at_:Int) (r:qR) (n n2:Int) (r2:qR) (s:qU):Int:=(gInt (gAt (gObj (qaA at_ r n n2 r2 s) 1) 0))
def qdL (at_:Int) (r:qR) (n n2:Int) (r2:qR) (s:qU):Int:=(gInt (gAt (gObj (qaA at_ r n n2 r2 s) 2) 0))
def qdM (at_:Int) (r:qR) (n n2:Int) (r2:qR) (s:qU):qR:=(gRow (gAt (gObj (qaA at_ r n n2 r2 s) 3) 0))
def qgH (at_:Int) (r:qR) (n n2:Int) (r2:qR) (s:qU):qU:=(gStr (gAt (gObj (qaA at_ r n n2 r2 s) 4) 0))
def qhX (at_:Int) (r:qR) (n n2:Int) (r2:qR) (s:qU):Bool:=isW (qaA at_ r n n2 r2 s) (.ret,[],⟨[[.sl (qgv at_ r n n2 r2 s) .full],[.int .i64 (qfV at_ r n n2 r2 s)],[.int .i64 (qdL at_ r n n2 r2 s)],[.sl (qdM at_ r n n2 r2 s) .full],[.str (qgH at_ r n n2 r2 s)]],[(2,0,1)],[36,3,28,36,9]⟩)
def qfH (at_:Int) (r:qR) (n n2:Int) (r2:qR) (s:qU):qR:=(gRow (gAt (gObj (qaA at_ r n n2 r2 s) 0) 0))
def qfJ (at_:Int) (r:qR) (n n2:Int) (r2:qR) (s:qU):Int:=(gInt (gAt (gObj (qaA at_ r n n2 r2 s) 1) 0))
def qdI (at_:Int) (r:qR) (n n2:Int) (r2:qR) (s:qU):Int:=(gInt (gAt (gObj (qaA at_ r n n2 r2 s) 2) 0))
def qdU (at_:Int) (r:qR) (n n2:Int) (r2:qR) (s:qU):qR:=(gRow (gAt (gObj (qaA at_ r n n2 r2 s) 3) 0))
def qga (at_:Int) (r:qR) (n n2:Int) (r2:qR) (s:qU):qU:=(gStr (gAt (gObj (qaA at_ r n n2 r2 s) 4) 0))
def qgL (at_:Int) (r:qR) (n n2:Int) (r2:qR) (s:qU):Nat:=(gTok (qaA at_ r n n2 r2 s) 1)
def qhS (at_:Int) (r:qR) (n n2:Int) (r2:qR) (s:qU):Bool:=isW (qaA at_ r n n2 r2 s) (.ret,[],⟨[[.sl (qfH at_ r n n2 r2 s) .full],[.int .i64 (qfJ at_ r n n2 r2 s)],[.int .i64 (qdI at_ r n n2 r2 s)],[.sl (qdU at_ r n n2 r2 s) (.tok 1)],[.str (qga at_ r n n2 r2 s)]],[(0,0,1),((qgL at_ r n n2 r2 s),6,44)],[36,3,28,36,9]⟩)
def qgK (at_:Int) (r:qR) (n n2:Int) (r2:qR) (s:qU):qR:=(gRow (gAt (gObj (qaA at_ r n n2 r2 s) 0) 0))
def qgb (at_:Int) (r:qR) (n n2:Int) (r2:qR) (s:qU):Int:=(gInt (gAt (gObj (qaA at_ r n n2 r2 s) 1) 0))
def qd3 (at_:Int) (r:qR) (n n2:Int) (r2:qR) (s:qU):Int:=(gInt (gAt (gObj (qaA at_ r n n2 r2 s) 2) 0))
def qdN (at_:Int) (r:qR) (n n2:Int) (r2:qR) (s:qU):qR:=(gRow (gAt (gObj (qaA at_ r n n2 r2 s) 3) 0))
def qgF (at_:Int) (r:qR) (n n2:Int) (r2:qR) (s:qU):qU:=(gStr (gAt (gObj (qaA at_ r n n2 r2 s) 4) 0))
def qi6 (at_:Int) (r:qR) (n n2:Int) (r2:qR) (s:qU):Bool:=isW (qaA at_ r n n2 r2 s) ((.exit 0),[],⟨[[.sl (qgK at_ r n n2 r2 s) .full],[.int .i64 (qgb at_ r n n2 r2 s)],[.int .i64 (qd3 at_ r n n2 r2 s)],[.sl (qdN at_ r n n2 r2 s) .full],[.str (qgF at_ r n n2 r2 s)]],[(0,0,1)],[36,3,28,36,9]⟩)
def qgp (at_:Int) (r:qR) (n n2:Int) (r2:qR) (s:qU):qR:=(gRow (gAt (gObj (qaA at_ r n n2 r2 s) 0) 0))
def qfQ (at_:Int) (r:qR) (n n2:Int) (r2:qR) (s:qU):Int:=(gInt (gAt (gObj (qaA at_ r n n2 r2 s) 1) 0))
def qej (at_:Int) (r:qR) (n n2:Int) (r2:qR) (s:qU):Int:=(gInt (gAt (gObj (qaA at_ r n n2 r2 s) 2) 0))
def qeb (at_:Int) (r:qR) (n n2:Int) (r2:qR) (s:qU):qR:=(gRow (gAt (gObj (qaA at_ r n n2 r2 s) 3) 0))
def qfT (at_:Int) (r:qR) (n n2:Int) (r2:qR) (s:qU):qU:=(gStr (gAt (gObj (qaA at_ r n n2 r2 s) 4) 0))
def qi3 (at_:Int) (r:qR) (n n2:Int) (r2:qR) (s:qU):Bool:=isW (qaA at_ r n n2 r2 s) ((.exit 0),[],⟨[[.sl (qgp at_ r n n2 r2 s) .full],[.int .i64 (qfQ at_ r n n2 r2 s)],[.int .i64 (qej at_ r n n2 r2 s)],[.sl (qeb at_ r n n2 r2 s) .full],[.str (qfT at_ r n n2 r2 s)]],[(2,0,1)],[36,3,28,36,9]⟩)
def qf3 (at_:Int) (r:qR) (n n2:Int) (r2:qR) (s:qU):qR:=(gRow (gAt (gObj (qaA at_ r n n2 r2 s) 0) 0))
def qf6 (at_:Int) (r:qR) (n n2:Int) (r2:qR) (s:qU):Int:=(gInt (gAt (gObj (qaA at_ r n n2 r2 s) 1) 0))
def qd5 (at_:Int) (r:qR) (n n2:Int) (r2:qR) (s:qU):Int:=(gInt (gAt (gObj (qaA at_ r n n2 r2 s) 2) 0))
def qd2 (at_:Int) (r:qR) (n n2:Int) (r2:qR) (s:qU):qR:=(gRow (gAt (gObj (qaA at_ r n n2 r2 s) 3) 0))
def qfW (at_:Int) (r:qR) (n n2:Int) (r2:qR) (s:qU):qU:=(gStr (gAt (gObj (qaA at_ r n n2 r2 s) 4) 0))
def qgP (at_:Int) (r:qR) (n n2:Int) (r2:qR) (s:qU):Nat:=(gTok (qaA at_ r n n2 r2 s) 1)
def qix (at_:Int) (r:qR) (n n2:Int) (r2:qR) (s:qU):Bool:=isW (qaA at_ r n n2 r2 s) (.ret,[],⟨[[.sl (qf3 at_ r n n2 r2 s) .full],[.int .i64 (qf6 at_ r n n2 r2 s)],[.int .i64 (qd5 at_ r n n2 r2 s)],[.sl (qd2 at_ r n n2 r2 s) (.tok 1)],[.str (qfW at_ r n n2 r2 s)]],[(2,0,1),((qgP at_ r n n2 r2 s),6,44)],[36,3,28,36,9]⟩)
def qfS (at_:Int) (r:qR) (n n2:Int) (r2:qR) (s:qU):qR:=(gRow (gAt (gObj (qaA at_ r n n2 r2 s) 0) 0))
def qgu (at_:Int) (r:qR) (n n2:Int) (r2:qR) (s:qU):Int:=(gInt (gAt (gObj (qaA at_ r n n2 r2 s) 1) 0))
def qdX (at_:Int) (r:qR) (n n2:Int) (r2:qR) (s:qU):Int:=(gInt (gAt (gObj (qaA at_ r n n2 r2 s) 2) 0))
def qd0 (at_:Int) (r:qR) (n n2:Int) (r2:qR) (s:qU):qR:=(gRow (gAt (gObj (qaA at_ r n n2 r2 s) 3) 0))
def qf9 (at_:Int) (r:qR) (n n2:Int) (r2:qR) (s:qU):qU:=(gStr (gAt (gObj (qaA at_ r n n2 r2 s) 4) 0))
def qgt (at_:Int) (r:qR) (n n2:Int) (r2:qR) (s:qU):Nat:=(gTok (qaA at_ r n n2 r2 s) 1)
def qh6 (at_:Int) (r:qR) (n n2:Int) (r2:qR) (s:qU):Bool:=isW (qaA at_ r n n2 r2 s) ((.exit 0),[],⟨[[.sl (qfS at_ r n n2 r2 s) .full],[.int .i64 (qgu at_ r n n2 r2 s)],[.int .i64 (qdX at_ r n n2 r2 s)],[.sl (qd0 at_ r n n2 r2 s) (.tok 1)],[.str (qf9 at_ r n n2 r2 s)]],[(0,0,1),((qgt at_ r n n2 r2 s),6,44)],[36,3,28,36,9]⟩)
def qf0 (at_:Int) (r:qR) (n n2:Int) (r2:qR) (s:qU):qR:=(gRow (gAt (gObj (qaA at_ r n n2 r2 s) 0) 0))
def qgO (at_:Int) (r:qR) (n n2:Int) (r2:qR) (s:qU):Int:=(gInt (gAt (gObj (qaA at_ r n n2 r2 s) 1) 0))
def qdT (at_:Int) (r:qR) (n n2:Int) (r2:qR) (s:qU):Int:=(gInt (gAt (gObj (qaA at_ r n n2 r2 s) 2) 0))
def qd9 (at_:Int) (r:qR) (n n2:Int) (r2:qR) (s:qU):qR:=(gRow (gAt (gObj (qaA at_ r n n2 r2 s) 3) 0))
def qgw (at_:Int) (r:qR) (n n2:Int) (r2:qR) (s:qU):qU:=(gStr (gAt (gObj (qaA at_ r n n2 r2 s) 4) 0))
def qgD (at_:Int) (r:qR) (n n2:Int) (r2:qR) (s:qU):Nat:=(gTok (qaA at_ r n n2 r2 s) 1)
def qib (at_:Int) (r:qR) (n n2:Int) (r2:qR) (s:qU):Bool:=isW (qaA at_ r n n2 r2 s) ((.exit 0),[],⟨[[.sl (qf0 at_ r n n2 r2 s) .full],[.int .i64 (qgO at_ r n n2 r2 s)],[.int .i64 (qdT at_ r n n2 r2 s)],[.sl (qd9 at_ r n n2 r2 s) (.tok 1)],[.str (qgw at_ r n n2 r2 s)]],[(2,0,1),((qgD at_ r n n2 r2 s),6,44)],[36,3,28,36,9]⟩)
def qly:List PV→Store→Tr (PExit×List PV×Store)|[.yld 0,.ptr 4 0,.int .i64 at_],⟨[[.sl r .full],[.int .i64 n],[.int .i64 n2],[.sl r2 .full],[.str s]],[(0,0,1)],[36,3,28,36,9]⟩=>.ite (qhX at_ r n n2 r2 s) (.ret (.ret,[],⟨[[.sl (qgv at_ r n n2 r2 s) .full],[.int .i64 (qfV at_ r n n2 r2 s)],[.int .i64 (qdL at_ r n n2 r2 s)],[.sl (qdM at_ r n n2 r2 s) .full],[.str (qgH at_ r n n2 r2 s)]],[(2,0,1)],[36,3,28,36,9]⟩)) (.ite (qhS at_ r n n2 r2 s) (.ret (.ret,[],⟨[[.sl (qfH at_ r n n2 r2 s) .full],[.int .i64 (qfJ at_ r n n2 r2 s)],[.int .i64 (qdI at_ r n n2 r2 s)],[.sl (qdU at_ r n n2 r2 s) (.tok 1)],[.str (qga at_ r n n2 r2 s)]],[(0,0,1),((qgL at_ r n n2 r2 s),6,44)],[36,3,28,36,9]⟩)) (.ite (qi6 at_ r n n2 r2 s) (.ret ((.exit 0),[],⟨[[.sl (qgK at_ r n n2 r2 s) .full],[.int .i64 (qgb at_ r n n2 r2 s)],[.int .i64 (qd3 at_ r n n2 r2 s)],[.sl (qdN at_ r n n2 r2 s) .full],[.str (qgF at_ r n n2 r2 s)]],[(0,0,1)],[36,3,28,36,9]⟩)) (.ite (qi3 at_ r n n2 r2 s) (.ret ((.exit 0),[],⟨[[.sl (qgp at_ r n n2 r2 s) .full],[.int .i64 (qfQ at_ r n n2 r2 s)],[.int .i64 (qej at_ r n n2 r2 s)],[.sl (qeb at_ r n n2 r2 s) .full],[.str (qfT at_ r n n2 r2 s)]],[(2,0,1)],[36,3,28,36,9]⟩)) (.ite (qix at_ r n n2 r2 s) (.ret (.ret,[],⟨[[.sl (qf3 at_ r n n2 r2 s) .full],[.int .i64 (qf6 at_ r n n2 r2 s)],[.int .i64 (qd5 at_ r n n2 r2 s)],[.sl (qd2 at_ r n n2 r2 s) (.tok 1)],[.str (qfW at_ r n n2 r2 s)]],[(2,0,1),((qgP at_ r n n2 r2 s),6,44)],[36,3,28,36,9]⟩)) (.ite (qh6 at_ r n n2 r2 s) (.ret ((.exit 0),[],⟨[[.sl (qfS at_ r n n2 r2 s) .full],[.int .i64 (qgu at_ r n n2 r2 s)],[.int .i64 (qdX at_ r n n2 r2 s)],[.sl (qd0 at_ r n n2 r2 s) (.tok 1)],[.str (qf9 at_ r n n2 r2 s)]],[(0,0,1),((qgt at_ r n n2 r2 s),6,44)],[36,3,28,36,9]⟩)) (.ite (qib at_ r n n2 r2 s) (.ret ((.exit 0),[],⟨[[.sl (qf0 at_ r n n2 r2 s) .full],[.int .i64 (qgO at_ r n n2 r2 s)],[.int .i64 (qdT at_ r n n2 r2 s)],[.sl (qd9 at_ r n n2 r2 s) (.tok 1)],[.str (qgw at_ r n n2 r2 s)]],[(2,0,1),((qgD at_ r n n2 r2 s),6,44)],[36,3,28,36,9]⟩)) (.fail)))))))|_,_=>.fail
theorem qJZ:∀ vs σ r,(qly vs σ).run=some r→qdS vs σ=some r:=by
 intro vs σ r h;unfold qly at h
 split at h
 ·exact qad h fun h=>qad h fun h=>qad h fun h=>qad h fun h=>qad h fun h=>qad h fun h=>qad h fun h=>by cases h
 ·cases h
theorem qDR (gl:Gl) (hg:GlLex gl) (hy:qnV Tryz.prog gl qdl (.yld 1 fun t a σ=>(qrG t a σ).run)):∀ fr σ e fr' σ',(orc qw5 qly fr σ).run=some (e,fr',σ')→LDoes Tryz.prog gl qxC fr σ e fr' σ':=qbq qak (qGR gl hg hy ) qah (L:=quS) (qac (by kernel_rfl)) (by kernel_rfl) qJZ
def qLS:LpsT:=fun r fr σ=>bif Nat.beq r 1 then orc qw5 qly fr σ else .fail
def qFy (r:qR) (n n2:Int) (r2:qR) (s:qU):Tr (PV×Store):=let z1:=qhd s;.ite (qgG s) (.ite (qhX z1 r n n2 r2 s) (.ret (.tup [],Store.mk [[.sl (qgv z1 r n n2 r2 s) .full],[.int .i64 (qfV z1 r n n2 r2 s)],[.int .i64 (qdL z1 r n n2 r2 s)],[.sl (qdM z1 r n n2 r2 s) .full],[.str (qgH z1 r n n2 r2 s)]] [(2,0,1)] [36,3,28,36,9])) (.ite (qhS z1 r n n2 r2 s) (.ret (.tup [],Store.mk [[.sl (qfH z1 r n n2 r2 s) .full],[.int .i64 (qfJ z1 r n n2 r2 s)],[.int .i64 (qdI z1 r n n2 r2 s)],[.sl (qdU z1 r n n2 r2 s) (.tok 1)],[.str (qga z1 r n n2 r2 s)]] [(0,0,1),(qgL z1 r n n2 r2 s,6,44)] [36,3,28,36,9])) (.ite (qi6 z1 r n n2 r2 s) (.ret (.tup [],Store.mk [[.sl (qgK z1 r n n2 r2 s) .full],[.int .i64 (qgb z1 r n n2 r2 s)],[.int .i64 (qd3 z1 r n n2 r2 s)],[.sl (qdN z1 r n n2 r2 s) .full],[.str (qgF z1 r n n2 r2 s)]] [(0,0,1)] [36,3,28,36,9])) (.ite (qi3 z1 r n n2 r2 s) (.ret (.tup [],Store.mk [[.sl (qgp z1 r n n2 r2 s) .full],[.int .i64 (qfQ z1 r n n2 r2 s)],[.int .i64 (qej z1 r n n2 r2 s)],[.sl (qeb z1 r n n2 r2 s) .full],[.str (qfT z1 r n n2 r2 s)]] [(2,0,1)] [36,3,28,36,9])) (.ite (qix z1 r n n2 r2 s) (.ret (.tup [],Store.mk [[.sl (qf3 z1 r n n2 r2 s) .full],[.int .i64 (qf6 z1 r n n2 r2 s)],[.int .i64 (qd5 z1 r n n2 r2 s)],[.sl (qd2 z1 r n n2 r2 s) (.tok 1)],[.str (qfW z1 r n n2 r2 s)]] [(2,0,1),(qgP z1 r n n2 r2 s,6,44)] [36,3,28,36,9])) (.ite (qh6 z1 r n n2 r2 s) (.ret (.tup [],Store.mk [[.sl (qfS z1 r n n2 r2 s) .full],[.int .i64 (qgu z1 r n n2 r2 s)],[.int .i64 (qdX z1 r n n2 r2 s)],[.sl (qd0 z1 r n n2 r2 s) (.tok 1)],[.str (qf9 z1 r n n2 r2 s)]] [(0,0,1),(qgt z1 r n n2 r2 s,6,44)] [36,3,28,36,9])) (.ite (qib z1 r n n2 r2 s) (.ret (.tup [],Store.mk [[.sl (qf0 z1 r n n2 r2 s) .full],[.int .i64 (qgO z1 r n n2 r2 s)],[.int .i64 (qdT z1 r n n2 r2 s)],[.sl (qd9 z1 r n n2 r2 s) (.tok 1)],[.str (qgw z1 r n n2 r2 s)]] [(2,0,1),(qgD z1 r n n2 r2 s,6,44)] [36,3,28,36,9])) .fail))))))) .fail
theorem qNW (r:qR) (n n2:Int) (r2:qR) (s:qU):(qsU tbT qB6 qLS Tryz.f158 [.yld 0,.ptr 4 0] ⟨[[.sl r .full],[.int .i64 n],[.int .i64 n2],[.sl r2 .full],[.str s]],[(0,0,1)],[36,3,28,36,9]⟩).flat=qFy r n n2 r2 s:=by kernel_rfl
def qcz (r:qR) (n n2:Int) (r2:qR) (s:qU):Option (PV×Store):=(qFy r n n2 r2 s).run
def qjw (r:qR) (n n2:Int) (r2:qR) (s:qU):qR:=(gRow (gAt (gObj (qcA (qcz r n n2 r2 s)) 0) 0))
def qjv (r:qR) (n n2:Int) (r2:qR) (s:qU):Int:=(gInt (gAt (gObj (qcA (qcz r n n2 r2 s)) 1) 0))
def qgC (r:qR) (n n2:Int) (r2:qR) (s:qU):Int:=(gInt (gAt (gObj (qcA (qcz r n n2 r2 s)) 2) 0))
def qiN (r:qR) (n n2:Int) (r2:qR) (s:qU):qR:=(gRow (gAt (gObj (qcA (qcz r n n2 r2 s)) 3) 0))
def qm4 (r:qR) (n n2:Int) (r2:qR) (s:qU):qU:=(gStr (gAt (gObj (qcA (qcz r n n2 r2 s)) 4) 0))
def qnk (r:qR) (n n2:Int) (r2:qR) (s:qU):Bool:=isW (qcz r n n2 r2 s) (.tup [],⟨[[.sl (qjw r n n2 r2 s) .full],[.int .i64 (qjv r n n2 r2 s)],[.int .i64 (qgC r n n2 r2 s)],[.sl (qiN r n n2 r2 s) .full],[.str (qm4 r n n2 r2 s)]],[(2,0,1)],[36,3,28,36,9]⟩)
def qmY (r:qR) (n n2:Int) (r2:qR) (s:qU):qR:=(gRow (gAt (gObj (qcA (qcz r n n2 r2 s)) 0) 0))
def qmN (r:qR) (n n2:Int) (r2:qR) (s:qU):Int:=(gInt (gAt (gObj (qcA (qcz r n n2 r2 s)) 1) 0))
def qiG (r:qR) (n n2:Int) (r2:qR) (s:qU):Int:=(gInt (gAt (gObj (qcA (qcz r n n2 r2 s)) 2) 0))
def qfI (r:qR) (n n2:Int) (r2:qR) (s:qU):qR:=(gRow (gAt (gObj (qcA (qcz r n n2 r2 s)) 3) 0))
def qnv (r:qR) (n n2:Int) (r2:qR) (s:qU):qU:=(gStr (gAt (gObj (qcA (qcz r n n2 r2 s)) 4) 0))
def qmu (r:qR) (n n2:Int) (r2:qR) (s:qU):Nat:=(gTok (qcA (qcz r n n2 r2 s)) 1)
def qmq (r:qR) (n n2:Int) (r2:qR) (s:qU):Bool:=isW (qcz r n n2 r2 s) (.tup [],⟨[[.sl (qmY r n n2 r2 s) .full],[.int .i64 (qmN r n n2 r2 s)],[.int .i64 (qiG r n n2 r2 s)],[.sl (qfI r n n2 r2 s) (.tok 1)],[.str (qnv r n n2 r2 s)]],[(0,0,1),((qmu r n n2 r2 s),6,44)],[36,3,28,36,9]⟩)
def qmo (r:qR) (n n2:Int) (r2:qR) (s:qU):qR:=(gRow (gAt (gObj (qcA (qcz r n n2 r2 s)) 0) 0))
def qmT (r:qR) (n n2:Int) (r2:qR) (s:qU):Int:=(gInt (gAt (gObj (qcA (qcz r n n2 r2 s)) 1) 0))
def qio (r:qR) (n n2:Int) (r2:qR) (s:qU):Int:=(gInt (gAt (gObj (qcA (qcz r n n2 r2 s)) 2) 0))
def qfE (r:qR) (n n2:Int) (r2:qR) (s:qU):qR:=(gRow (gAt (gObj (qcA (qcz r n n2 r2 s)) 3) 0))
def qmH (r:qR) (n n2:Int) (r2:qR) (s:qU):qU:=(gStr (gAt (gObj (qcA (qcz r n n2 r2 s)) 4) 0))
def qmp (r:qR) (n n2:Int) (r2:qR) (s:qU):Bool:=isW (qcz r n n2 r2 s) (.tup [],⟨[[.sl (qmo r n n2 r2 s) .full],[.int .i64 (qmT r n n2 r2 s)],[.int .i64 (qio r n n2 r2 s)],[.sl (qfE r n n2 r2 s) .full],[.str (qmH r n n2 r2 s)]],[(0,0,1)],[36,3,28,36,9]⟩)
def qjD (r:qR) (n n2:Int) (r2:qR) (s:qU):qR:=(gRow (gAt (gObj (qcA (qcz r n n2 r2 s)) 0) 0))
def qj7 (r:qR) (n n2:Int) (r2:qR) (s:qU):Int:=(gInt (gAt (gObj (qcA (qcz r n n2 r2 s)) 1) 0))
def qfG (r:qR) (n n2:Int) (r2:qR) (s:qU):Int:=(gInt (gAt (gObj (qcA (qcz r n n2 r2 s)) 2) 0))
def qiw (r:qR) (n n2:Int) (r2:qR) (s:qU):qR:=(gRow (gAt (gObj (qcA (qcz r n n2 r2 s)) 3) 0))
def qmS (r:qR) (n n2:Int) (r2:qR) (s:qU):qU:=(gStr (gAt (gObj (qcA (qcz r n n2 r2 s)) 4) 0))
def qne (r:qR) (n n2:Int) (r2:qR) (s:qU):Nat:=(gTok (qcA (qcz r n n2 r2 s)) 1)
def qmv (r:qR) (n n2:Int) (r2:qR) (s:qU):Bool:=isW (qcz r n n2 r2 s) (.tup [],⟨[[.sl (qjD r n n2 r2 s) .full],[.int .i64 (qj7 r n n2 r2 s)],[.int .i64 (qfG r n n2 r2 s)],[.sl (qiw r n n2 r2 s) (.tok 1)],[.str (qmS r n n2 r2 s)]],[(2,0,1),((qne r n n2 r2 s),6,44)],[36,3,28,36,9]⟩)
def qIO:List PV→Store→Tr (PV×Store)|[.yld 0,.ptr 4 0],⟨[[.sl r .full],[.int .i64 n],[.int .i64 n2],[.sl r2 .full],[.str s]],[(0,0,1)],[36,3,28,36,9]⟩=>.ite (qnk r n n2 r2 s) (.ret (.tup [],⟨[[.sl (qjw r n n2 r2 s) .full],[.int .i64 (qjv r n n2 r2 s)],[.int .i64 (qgC r n n2 r2 s)],[.sl (qiN r n n2 r2 s) .full],[.str (qm4 r n n2 r2 s)]],[(2,0,1)],[36,3,28,36,9]⟩)) (.ite (qmq r n n2 r2 s) (.ret (.tup [],⟨[[.sl (qmY r n n2 r2 s) .full],[.int .i64 (qmN r n n2 r2 s)],[.int .i64 (qiG r n n2 r2 s)],[.sl (qfI r n n2 r2 s) (.tok 1)],[.str (qnv r n n2 r2 s)]],[(0,0,1),((qmu r n n2 r2 s),6,44)],[36,3,28,36,9]⟩)) (.ite (qmp r n n2 r2 s) (.ret (.tup [],⟨[[.sl (qmo r n n2 r2 s) .full],[.int .i64 (qmT r n n2 r2 s)],[.int .i64 (qio r n n2 r2 s)],[.sl (qfE r n n2 r2 s) .full],[.str (qmH r n n2 r2 s)]],[(0,0,1)],[36,3,28,36,9]⟩)) (.ite (qmv r n n2 r2 s) (.ret (.tup [],⟨[[.sl (qjD r n n2 r2 s) .full],[.int .i64 (qj7 r n n2 r2 s)],[.int .i64 (qfG r n n2 r2 s)],[.sl (qiw r n n2 r2 s) (.tok 1)],[.str (qmS r n n2 r2 s)]],[(2,0,1),((qne r n n2 r2 s),6,44)],[36,3,28,36,9]⟩)) (.fail))))|_,_=>.fail
theorem qLA (gl:Gl) (hg:GlLex gl) (hy:qnV Tryz.prog gl qdl (.yld 1 fun t a σ=>(qrG t a σ).run)):SimS Tryz.prog gl 158 fun args σ=>(qIO args σ).run:=by
 refine SimS.of_flat (G:=qB6) (L:=qLS) qak (qGR gl hg hy ) qah Tryz.func158 rfl (by rfl) (by kernel_rfl) (qar (L:=lps qLS) [(1,qxC)] (by kernel_rfl) (List.forall_mem_cons.2 ⟨fun fr σ e fr' σ' h=>qDR gl hg hy  fr σ e fr' σ' h,(List.forall_mem_nil _)⟩)) ?_
 intro args σ x h;unfold qIO at h
 split at h
 ·exact (congrArg Tr.run (qNW _ _ _ _ _)).trans (qad h fun h=>qad h fun h=>qad h fun h=>qad h fun h=>by cases h)
 ·cases h
end Go.Pv
set_option maxHeartbeats 4000000
set_option maxRecDepth 200000
set_option linter.unusedSimpArgs false
set_option linter.unusedVariables false
namespace Go.Pv
open Go Go.Proofs Go.RowKit
theorem qzL (gl:Gl) (hg:GlLex gl):∀ fr σ e fr' σ',(rorc qwK (rngG qiF) 158 qIO fr σ).run=some (e,fr',σ')→Does Tryz.prog gl (rngO qiF) fr σ e fr' σ' :=
 qLV (G:=ofL []) (L:=fun _ _ _=>.fail) qak (fun _ _=>qag) qah (fun _ _=>qac (by kernel_rfl)) (fun _ _=>qac (by kernel_rfl)) (by kernel_rfl) (by kernel_rfl) (by kernel_rfl)
  ⟨Tryz.f158,Tryz.func158,by rfl,by rfl⟩ (fun gl' hv hy=>qLA gl' (hg.of_v hv) hy)
end Go.Pv
set_option maxHeartbeats 4000000
set_option maxRecDepth 200000
set_option linter.unusedSimpArgs false
set_option linter.unusedVariables false
namespace Go.Pv
open Go Go.Proofs
def qvC:GamT:=ofL []
theorem qCP (gl:Gl):qam Tryz.prog gl (gam qvC):=qag
def qBe:LpsT:=fun r fr σ=>.fail
def qqC (s:qU):Tr (PV×Store):=.ret (.fn 158 [.ptr 4 0],Store.mk [[.sl [] .full],[.int .i64 0],[.int .i64 0],[.sl [] .full],[.str s]] [] [36,3,28,36,9])
theorem qG5 (s:qU):(qsU tbT qvC qBe Tryz.f135 [.str s] ⟨[[.sl [] .full],[.int .i64 0],[.int .i64 0],[.sl [] .full]],[],[36,3,28,36]⟩).flat=qqC s:=by kernel_rfl
def qep (s:qU):Option (PV×Store):=(qqC s).run
def qiR (s:qU):qR:=(gRow (gAt (gObj (qcA (qep s)) 0) 0))
def qic (s:qU):Int:=(gInt (gAt (gObj (qcA (qep s)) 1) 0))
def qfx (s:qU):Int:=(gInt (gAt (gObj (qcA (qep s)) 2) 0))
def qfe (s:qU):qR:=(gRow (gAt (gObj (qcA (qep s)) 3) 0))
def qiB (s:qU):qU:=(gStr (gAt (gObj (qcA (qep s)) 4) 0))
def qi5 (s:qU):Bool:=isW (qep s) (.fn 158 [.ptr 4 0],⟨[[.sl (qiR s) .full],[.int .i64 (qic s)],[.int .i64 (qfx s)],[.sl (qfe s) .full],[.str (qiB s)]],[],[36,3,28,36,9]⟩)
def qvs:List PV→Store→Tr (PV×Store)|[.str s],⟨[[.sl [] .full],[.int .i64 0],[.int .i64 0],[.sl [] .full]],[],[36,3,28,36]⟩=>.ite (qi5 s) (.ret (.fn 158 [.ptr 4 0],⟨[[.sl (qiR s) .full],[.int .i64 (qic s)],[.int .i64 (qfx s)],[.sl (qfe s) .full],[.str (qiB s)]],[],[36,3,28,36,9]⟩)) (.fail)|_,_=>.fail
theorem qDg (gl:Gl):SimS Tryz.prog gl 135 fun args σ=>(qvs args σ).run:=by
 refine SimS.of_flat (G:=qvC) (L:=qBe) qak (qCP gl ) qah Tryz.func135 rfl (by rfl) (by kernel_rfl) (qac (by kernel_rfl)) ?_
 intro args σ x h;unfold qvs at h
 split at h
 ·exact (congrArg Tr.run (qG5 _)).trans (qad h fun h=>by cases h)
 ·cases h
def quT:GamT:=ofL [(135,.store qvs),(qze+0,.glob qDN)]
theorem qCF (gl:Gl) (hg:GlLex gl):qam Tryz.prog gl (gam quT):=(qcK (qDg gl) (qc1 (K:=.glob qDN) (qBT hg) qag))
def qu9:LpsT:=fun r fr σ=>if r=500007 then rorc qwK (rngG qiF) 158 qIO fr σ else .fail
def qmm (s:qU):Tr PV:=let z1:=qiR s;let z2:=qic s;let z3:=qfx s;let z4:=qfe s;let z5:=qiB s;.ite (iLt 65536 (sLen s)) (.ret (.tup [.sl [] .non,.int .i64 0,.int .i64 2])) (.ite (qi5 s) (.ite (qnk z1 z2 z3 z4 z5) (.ret (.tup [.sl (qaa (qbV 0 (qjw z1 z2 z3 z4 z5))) .non,.int .i64 (qjv z1 z2 z3 z4 z5),.int .i64 (qgC z1 z2 z3 z4 z5)])) (.ite (qmq z1 z2 z3 z4 z5) (.ret (.tup [.sl (qaa (qbV 0 (qfI z1 z2 z3 z4 z5))) .non,.int .i64 0,.int .i64 0])) (.ite (qmp z1 z2 z3 z4 z5) (.ret (.tup [.sl (qaa (qbV 0 (qfE z1 z2 z3 z4 z5))) .non,.int .i64 0,.int .i64 0])) (.ite (qmv z1 z2 z3 z4 z5) (.ret (.tup [.sl (qaa (qbV 0 (qjD z1 z2 z3 z4 z5))) .non,.int .i64 (qj7 z1 z2 z3 z4 z5),.int .i64 (qfG z1 z2 z3 z4 z5)])) .fail)))) .fail)
theorem qIK (s:qU):(tcall tbT quT qu9 Tryz.f82 [.str s]).flat=qmm s:=by kernel_rfl
def qdm (s:qU):Option PV:=(qmm s).run
def qiP (s:qU):qR:=(gRow (gAt (gCs (gVal (qdm s))) 0))
def qi0 (s:qU):Int:=(gInt (gAt (gCs (gVal (qdm s))) 1))
def qeZ (s:qU):Int:=(gInt (gAt (gCs (gVal (qdm s))) 2))
def qfh (s:qU):Bool:=isW (qdm s) (.tup [.sl (qiP s) .non,.int .i64 (qi0 s),.int .i64 (qeZ s)])
def qaB:List PV→Tr PV|[.str s]=>.ite (qfh s) (.ret (.tup [.sl (qiP s) .non,.int .i64 (qi0 s),.int .i64 (qeZ s)])) (.fail)|_=>.fail
theorem qsN (gl:Gl) (hg:GlLex gl):SimP Tryz.prog gl 82 fun args=>(qaB args).run:=by
 refine SimP.of_flat (G:=quT) (L:=qu9) qak (qCF gl hg ) qah  Tryz.func82 rfl (by rfl) (by kernel_rfl) (qub (L:=lps qu9) [] [(500007,rngO qiF)] (by kernel_rfl) (by kernel_rfl) (List.forall_mem_nil _) (List.forall_mem_cons.2 ⟨fun fr σ e fr' σ' h=>qzL gl hg fr σ e fr' σ' h,(List.forall_mem_nil _)⟩)) ?_
 intro args x h;unfold qaB at h
 split at h
 ·exact (congrArg Tr.run (qIK _)).trans (qad h fun h=>by cases h)
 ·cases h
end Go.Pv
set_option linter.unusedSimpArgs false
set_option linter.unusedVariables false
namespace Go.Pv
open Go.RowKit
section
variable {P : Program} {gl : Gl} {f : FuncId}
theorem SimS.or {D1 D2 E:List PV→Store→Option (PV×Store)} (h1:SimS P gl f D1) (h2:SimS P gl f D2) (h:∀ args σ x σ',E args σ=some (x,σ')→D1 args σ=some (x,σ')∨D2 args σ=some (x,σ')):SimS P gl f E :=
 ⟨h1.ent,fun args σ x σ' hx=>(h args σ x σ' hx).elim (fun e=>h1.run args σ x σ' e) (fun e=>h2.run args σ x σ' e)⟩
theorem SimP.or {F1 F2 E:List PV→Option PV} (h1:SimP P gl f F1) (h2:SimP P gl f F2) (h:∀ args x,E args=some x→F1 args=some x∨F2 args=some x):SimP P gl f E :=
 ⟨h1.ent,fun args x hx=>(h args x hx).elim (fun e=>h1.run args x e) (fun e=>h2.run args x e)⟩
end
end Go.Pv
set_option maxHeartbeats 4000000
set_option maxRecDepth 200000
set_option linter.unusedVariables false
set_option linter.unusedSimpArgs false
namespace Go.Pv
open Go Go.Proofs
def G_ca:GamT:=ofL []
theorem qnD (gl:Gl):qam Tryz.prog gl (gam G_ca):=qag
def c_ca:Code:=(Tryz.f84.body).getD .skip
theorem qI6 (gl:Gl) (o0:List PV) (n:Int) (rc:List PV) (T0:TypeId):DefOk Tryz.prog gl 84 [.ptr 1 0,.ptr 2 0] .ret ⟨[o0,[.int .i64 n],[.int .i64 0],rc],[],[T0,3,28,138]⟩ .ret ⟨[o0,[.int .i64 n],[.int .i64 0],rc],[],[T0,3,28,138]⟩ :=
 DefOk.of_recover (i0:=0) (ops:=qat (sq1 c_ca)) (c:=sq2 c_ca) (d0:=7) (d1:=4) (o0:=opAt (sq1 c_ca) 0) (o1:=opAt (sq1 c_ca) 1) (y:=.nili) (e:=.ret) qak (qnD gl) Tryz.func84 (by rfl) (by kernel_rfl) (by rfl) (by kernel_rfl) (by kernel_rfl) (by kernel_rfl) (by kernel_rfl) (by kernel_rfl) (by kernel_rfl) (by kernel_rfl) (by decide) (.inl ⟨rfl,rfl⟩) (.inr rfl) (by kernel_rfl)
theorem qBf (gl:Gl) (o0:List PV) (n at_:Int) (rc:List PV) (T0:TypeId) (hw:(Lit.int .i64 at_).wf=true):DefOk Tryz.prog gl 84 [.ptr 1 0,.ptr 2 0] (.pan (.iface 172 (.agg [.int .i64 at_]))) ⟨[o0,[.int .i64 n],[.int .i64 0],rc],[],[T0,3,28,138]⟩ .ret ⟨[o0,[.int .i64 at_],[.int .i64 130],rc,[.int .i64 at_]],[],[T0,3,28,138,172]⟩ :=
 DefOk.of_recover (i0:=0) (ops:=qat (sq1 c_ca)) (c:=sq2 c_ca) (d0:=7) (d1:=4) (o0:=opAt (sq1 c_ca) 0) (o1:=opAt (sq1 c_ca) 1) (y:=.iface 172 (.agg [.int .i64 at_])) (e:=.normal) qak (qnD gl) Tryz.func84 (by rfl) (by kernel_rfl) (by rfl) (by kernel_rfl) (by kernel_rfl) (by kernel_rfl) (by kernel_rfl) (by kernel_rfl) (by kernel_rfl) (by kernel_rfl) (by decide) (.inr ⟨rfl,qKY hw⟩) (.inl rfl) (by kernel_rfl)
def qsp:Option PV→Bool
 |some (.tup [.sl _ .non,.int .i64 _,.int .i64 e])=>e != 0
 |_=>false
def qjb (z:List PV):Option (PR×Store)→Option PV
 |some (.pan (.iface 172 (.agg [.int .i64 at_])),⟨_::_,_,138::_⟩)=>match (Lit.int .i64 at_).wf with
  |true=>some (.tup [.agg z,.int .i64 at_,.int .i64 130])
  |false=>none
 |_=>none
theorem qf7 {z:List PV} {q:Option (PR×Store)} {x:PV} (h:qjb z q=some x):∃ at_ c' os tk ts,q=some (.pan (.iface 172 (.agg [.int .i64 at_])),⟨c'::os,tk,138::ts⟩)∧(Lit.int .i64 at_).wf=true∧x=.tup [.agg z,.int .i64 at_,.int .i64 130]:=by
 unfold qjb at h
 split at h
 ·split at h
  ·rename_i hw;simp only [Option.some.injEq] at h
   exact⟨_,_,_,_,_,rfl,hw,h.symm⟩
  ·cases h
 ·cases h
theorem qMm (gl:Gl) (o0:List PV) (n:Int) (rc:List PV):DefOk Tryz.prog gl 83 ([]++[.ptr 2 0,.ptr 0 0]) .ret ⟨[o0,[.int .i64 n],[.int .i64 0],rc],[],[27,3,28,138]⟩ .ret ⟨[o0,[.int .i64 n],[.int .i64 0],rc],[],[27,3,28,138]⟩ :=
 DefOk.of_quiet (e:=.normal) qak (qnD gl) Tryz.func83 (by rfl) (by kernel_rfl) (by rfl) (.inl rfl) (by kernel_rfl)
theorem qKl (gl:Gl) (a b c:qR) (at_:Int) (rc x:List PV):DefOk Tryz.prog gl 83 ([]++[.ptr 2 0,.ptr 0 0]) .ret ⟨[[.sl a .non,.sl b .non,.sl c .non],[.int .i64 at_],[.int .i64 130],rc,x],[],[27,3,28,138,172]⟩ .ret ⟨[[.sl [] .full,.sl [] .full,.sl [] .full],[.int .i64 at_],[.int .i64 130],rc,x,[.sl [] .full,.sl [] .full,.sl [] .full]],[],[27,3,28,138,172,27]⟩ :=
 DefOk.of_quiet (e:=.normal) qak (qnD gl) Tryz.func83 (by rfl) (by kernel_rfl) (by rfl) (.inl rfl) (by kernel_rfl)
theorem qG0 (gl:Gl) (at_:Int) (rc x:List PV):DefOk Tryz.prog gl 83 ([]++[.ptr 2 0,.ptr 0 0]) .ret ⟨[[.sl [] .full,.sl [] .full,.sl [] .full],[.int .i64 at_],[.int .i64 130],rc,x],[],[27,3,28,138,172]⟩ .ret ⟨[[.sl [] .full,.sl [] .full,.sl [] .full],[.int .i64 at_],[.int .i64 130],rc,x,[.sl [] .full,.sl [] .full,.sl [] .full]],[],[27,3,28,138,172,27]⟩ :=
 DefOk.of_quiet (e:=.normal) qak (qnD gl) Tryz.func83 (by rfl) (by kernel_rfl) (by rfl) (.inl rfl) (by kernel_rfl)
def G_wP:GamT:=ofL [(82,.pure qaB),(34,.may (frameT qkN)),(85,.may (frameT qds)),(qcD,.flag)]
theorem qxP (gl:Gl) (hg:GlLex gl):qam Tryz.prog gl (gam G_wP):=qae (qsN gl hg) (qai (SimM.frameT (qKN gl)) (qai (SimM.frameT (qnx gl)) (qbj qag)))
def c_wP:Code:=(Tryz.f33.body).getD .skip
def kP2:Code:=sq2 (sq2 c_wP)
def kP3:Code:=sq2 kP2
def kP6:Code:=sq2 (sq2 kP3)
def kP8:Code:=sq2 (sq2 kP6)
theorem qMU:Tryz.f33.body=some (.seq (.region 0 (qat (sq1 c_wP)) false) (.seq (.region 1 (qat (sq1 (sq2 c_wP))) false) (.seq (.seq (.region 2 (qat (sq1 (sq1 kP2))) false) (.cond (.tmp 16) (.seq (.region 3 (qat (sq1 (sq1 (sq2 (sq1 kP2))))) true) .ret) .skip)) (.seq (sq1 kP3) (.seq (sq1 (sq2 kP3)) (.seq (sq1 kP6) (.seq (.region 7 (qat (sq1 (sq2 kP6))) false) (.seq (.seq (.region 8 (qat (sq1 (sq1 kP8))) false) (.cond (.tmp 36) (.region 9 (qat (sq1 (sq2 (sq1 kP8)))) false) .skip)) (sq2 kP8))))))))):=by kernel_rfl
section
variable (s : List UInt8) (r : List (List PV)) (n e : Int)
def f0P:List PV:=[.str s,.fn 34 []]++List.replicate 38 .top
def fAP:List PV:=(((f0P s).set 4 (.ptr 0 0)).set 5 (.ptr 1 0)).set 6 (.ptr 2 0)
def owP:PV:=.tup [.sl r .non,.int .i64 n,.int .i64 e]
def fBP:List PV:=(((((((fAP s).set 10 (.str s)).set 11 (owP r n e)).set 9 (owP r n e)).set 12 (.sl r .non)).set 13 (.int .i64 n)).set 14 (.int .i64 e)).set 7 (.sl r .non)
def fCP (b:Bool):List PV:=((fBP s r n e).set 15 (.int .i64 e)).set 16 (.bool b)
def fEP (b:Bool):List PV:=(((fCP s r n e b).set 17 (.agg [.sl [] .full,.sl [] .full,.sl [] .full])).set 18 (.int .i64 n)).set 19 (.int .i64 e)
def sBP:Store:=⟨[[.sl [] .full,.sl [] .full,.sl [] .full],[.int .i64 n],[.int .i64 e]],[],[27,3,28]⟩
theorem wP_0:dexec tbT (gam G_wP) (.region 0 (qat (sq1 c_wP)) false) (f0P s) ⟨[],[],[]⟩ []=some (.normal,fAP s,sBP 0 0,[]):=by kernel_rfl
theorem qNL:pops tbT (gam G_wP) (qat (sq1 c_wP)).toList (qat (sq1 c_wP)).toList (f0P s) ⟨[],[],[]⟩=some (fAP s,sBP 0 0):=by kernel_rfl
variable (hw : (qaB [.str s]).run = some (.tup [.sl r .non, .int .i64 n, .int .i64 e]))
include hw
theorem wP_c:pop tbT (gam G_wP) ((fAP s).set 10 (.str s)) (sBP 0 0) (opAt (sq1 (sq2 c_wP)) 1)=some (owP r n e,sBP 0 0):=by
 have h:pop tbT (gam G_wP) ((fAP s).set 10 (.str s)) (sBP 0 0) (opAt (sq1 (sq2 c_wP)) 1)=(qaB [.str s]).run.map fun x=>(x,sBP 0 0):=by kernel_rfl
 rw [h,hw];rfl
theorem wP_1:dops tbT (gam G_wP) (qat (sq1 (sq2 c_wP))).toList (qat (sq1 (sq2 c_wP))).toList (fAP s) (sBP 0 0) []=some (.ok (fBP s r n e) (sBP n e) []):=by
 have h0:(qat (sq1 (sq2 c_wP))).toList=opAt (sq1 (sq2 c_wP)) 0::opAt (sq1 (sq2 c_wP)) 1::(qat (sq1 (sq2 c_wP))).toList.drop 2:=by kernel_rfl
 have h1:dop tbT (gam G_wP) ((fAP s).set 10 (.str s)) (sBP 0 0) [] (opAt (sq1 (sq2 c_wP)) 1)=dfin (gam G_wP) ((fAP s).set 10 (.str s)) (sBP 0 0) [] (opAt (sq1 (sq2 c_wP)) 1) (pop tbT (gam G_wP) ((fAP s).set 10 (.str s)) (sBP 0 0) (opAt (sq1 (sq2 c_wP)) 1)):=by kernel_rfl
 rw [wP_c s r n e hw] at h1
 conv=>lhs;arg 4;rw [h0]
 rw [qbx (fr':=(fAP s).set 10 (.str s)) (σ':=sBP 0 0) (pd':=[]) (by kernel_rfl) (by kernel_rfl),qbx (fr':=((fAP s).set 10 (.str s)).set 11 (owP r n e)) (σ':=sBP 0 0) (pd':=[]) (by kernel_rfl) (h1.trans (by kernel_rfl))]
 kernel_rfl
theorem qNO:pops tbT (gam G_wP) (qat (sq1 (sq2 c_wP))).toList (qat (sq1 (sq2 c_wP))).toList (fAP s) (sBP 0 0)=some (fBP s r n e,sBP n e):=by
 have h0:(qat (sq1 (sq2 c_wP))).toList=opAt (sq1 (sq2 c_wP)) 0::opAt (sq1 (sq2 c_wP)) 1::(qat (sq1 (sq2 c_wP))).toList.drop 2:=by kernel_rfl
 conv=>lhs;arg 4;rw [h0]
 rw [qkw (x:=.str s) (σ':=sBP 0 0) (by kernel_rfl) (by kernel_rfl)]
 refine (qkw (x:=owP r n e) (σ':=sBP 0 0) (by kernel_rfl) (wP_c s r n e hw)).trans ?_
 kernel_rfl
end
section
variable (s : List UInt8) (r : List (List PV)) (n e : Int)
theorem qNM:pops tbT (gam G_wP) (qat (sq1 (sq1 kP2))).toList (qat (sq1 (sq1 kP2))).toList (fBP s r n e) (sBP n e)=some (fCP s r n e (e != 0),sBP n e):=by kernel_rfl
def r3P:Code:=sq1 (sq1 (sq2 (sq1 kP2)))
theorem wP_3 (b:Bool):qgZ tbT (gam G_wP) (qat r3P).toList (qat r3P).toList 0 [] (fCP s r n e b) (sBP n e)=some (.ok (fEP s r n e b) (sBP n e)):=by
 have h0:(qat r3P).toList=[opAt r3P 0,opAt r3P 1,opAt r3P 2,opAt r3P 3,opAt r3P 4,opAt r3P 5]:=by kernel_rfl
 conv=>lhs;arg 4;rw [h0]
 refine (qbe (x:=.agg [.sl [] .full,.sl [] .full,.sl [] .full]) (σ':=sBP n e) (by kernel_rfl) (by kernel_rfl) (fun h=>absurd h (by rw [show writes (gam G_wP) (opAt r3P 0)=false from by kernel_rfl];simp))).trans ?_
 refine (qbe (x:=.int .i64 n) (σ':=sBP n e) (by kernel_rfl) (by kernel_rfl) (fun h=>absurd h (by rw [show writes (gam G_wP) (opAt r3P 1)=false from by kernel_rfl];simp))).trans ?_
 refine (qbe (x:=.int .i64 e) (σ':=sBP n e) (by kernel_rfl) (by kernel_rfl) (fun h=>absurd h (by rw [show writes (gam G_wP) (opAt r3P 2)=false from by kernel_rfl];simp))).trans ?_
 refine (qbe (x:=.top) (σ':=sBP n e) (by kernel_rfl) (by kernel_rfl) (fun _=>?_)).trans ?_
 ·exact qfz (l':=[(2,2),(1,1),(0,0)]) (by kernel_rfl) ⟨.inr rfl,.inr rfl,.inr rfl,trivial⟩
 refine (qbe (x:=.top) (σ':=sBP n e) (by kernel_rfl) (by kernel_rfl) (fun _=>?_)).trans ?_
 ·exact qfz (l':=[(2,2),(1,1),(0,0)]) (by kernel_rfl) ⟨.inr rfl,.inr rfl,.inr rfl,trivial⟩
 refine (qbe (x:=.top) (σ':=sBP n e) (by kernel_rfl) (by kernel_rfl) (fun _=>?_)).trans ?_
 ·exact qfz (l':=[(2,2),(1,1),(0,0)]) (by kernel_rfl) ⟨.inr rfl,.inr rfl,.inr rfl,trivial⟩
 kernel_rfl
theorem qHJ (gl:Gl) (hg:GlLex gl) (hw:(qaB [.str s]).run=some (.tup [.sl r .non,.int .i64 n,.int .i64 e])) (he:(e != 0)=true):Does Tryz.prog gl c_wP (f0P s) ⟨[],[],[]⟩ .ret (fEP s r n e (e != 0)) (sBP n e):=by
 rw [show c_wP=_ from congrArg (·.getD .skip) qMU]
 exact Does.seqN (Does.reg qak (qxP gl hg) (qNL s)) (Does.seqN (Does.reg qak (qxP gl hg) (qNO s r n e hw)) (Does.seqR (Does.seqN (Does.reg qak (qxP gl hg) (qNM s r n e)) (Does.condT (by rw [he];rfl) (Does.seqN (Does.regD qak (qxP gl hg) qah (by kernel_rfl) (wP_3 s r n e _)) Does.ret)))))
def f4P:List PV:=(fCP s r n 0 false).set 20 (.fn 83 [.ptr 2 0,.ptr 0 0])
def d1P:List PD:=[(83,[],[.ptr 2 0,.ptr 0 0])]
def d2P:List PD:=(84,[.ptr 1 0,.ptr 2 0],[])::d1P
def f6P:List PV:=(((((((f4P s r n).set 21 (.sl r .non)).set 22 (.agg [.sl r .non])).set 23 (.str s)).set 24 (.int .i64 s.length)).set 25 (.agg [.sl r .non,.int .i64 s.length])).set 26 (.ptr 3 0)).set 8 (.ptr 3 0)
def s6P (z:List PV) (rc:List PV):Store:=⟨[z,[.int .i64 n],[.int .i64 0],rc],[],[27,3,28,138]⟩
theorem wP_2:dexec tbT (gam G_wP) (.seq (.region 2 (qat (sq1 (sq1 kP2))) false) (.cond (.tmp 16) (.seq (.region 3 (qat (sq1 (sq1 (sq2 (sq1 kP2))))) true) .ret) .skip)) (fBP s r n 0) (sBP n 0) []=some (.normal,fCP s r n 0 false,sBP n 0,[]):=by kernel_rfl
theorem wP_4:dexec tbT (gam G_wP) (sq1 kP3) (fCP s r n 0 false) (sBP n 0) []=some (.normal,f4P s r n,sBP n 0,d1P):=by kernel_rfl
theorem wP_5:dexec tbT (gam G_wP) (sq1 (sq2 kP3)) (f4P s r n) (sBP n 0) d1P=some (.normal,f4P s r n,sBP n 0,d2P):=by kernel_rfl
theorem wP_6:dexec tbT (gam G_wP) (sq1 kP6) (f4P s r n) (sBP n 0) d2P=some (.normal,f6P s r n,s6P n [.sl [] .full,.sl [] .full,.sl [] .full] [.sl r .non,.int .i64 s.length],d2P):=by kernel_rfl
def f7P:List PV:=((f6P s r n).set 27 (.fn 34 [])).set 28 (.ptr 3 0)
def o7P:Oper:=opAt (sq1 (sq2 kP6)) 2
theorem qNA:(qat (sq1 (sq2 kP6))).toList=opAt (sq1 (sq2 kP6)) 0::opAt (sq1 (sq2 kP6)) 1::o7P::(qat (sq1 (sq2 kP6))).toList.drop 3:=by kernel_rfl
theorem qMN:dop tbT (gam G_wP) (f7P s r n) (s6P n [.sl [] .full,.sl [] .full,.sl [] .full] [.sl r .non,.int .i64 s.length]) d2P o7P=dfin (gam G_wP) (f7P s r n) (s6P n [.sl [] .full,.sl [] .full,.sl [] .full] [.sl r .non,.int .i64 s.length]) d2P o7P (pop tbT (gam G_wP) (f7P s r n) (s6P n [.sl [] .full,.sl [] .full,.sl [] .full] [.sl r .non,.int .i64 s.length]) o7P):=by kernel_rfl
theorem qMs:pop tbT (gam G_wP) (f7P s r n) (s6P n [.sl [] .full,.sl [] .full,.sl [] .full] [.sl r .non,.int .i64 s.length]) o7P=qg0 (frameT qkN [.ptr 3 0] (s6P n [.sl [] .full,.sl [] .full,.sl [] .full] [.sl r .non,.int .i64 s.length])).run:=by kernel_rfl
theorem qNS:ppan (gam G_wP) (f7P s r n) (s6P n [.sl [] .full,.sl [] .full,.sl [] .full] [.sl r .non,.int .i64 s.length]) o7P=qlr (frameT qkN [.ptr 3 0] (s6P n [.sl [] .full,.sl [] .full,.sl [] .full] [.sl r .non,.int .i64 s.length])).run:=by kernel_rfl
theorem wP_7 {y:DR} (h:dop tbT (gam G_wP) (f7P s r n) (s6P n [.sl [] .full,.sl [] .full,.sl [] .full] [.sl r .non,.int .i64 s.length]) d2P o7P=some y):dops tbT (gam G_wP) (qat (sq1 (sq2 kP6))).toList (qat (sq1 (sq2 kP6))).toList (f6P s r n) (s6P n [.sl [] .full,.sl [] .full,.sl [] .full] [.sl r .non,.int .i64 s.length]) d2P=match y with
  |.ok fr' σ' pd'=>dops tbT (gam G_wP) (qat (sq1 (sq2 kP6))).toList ((qat (sq1 (sq2 kP6))).toList.drop 3) fr' σ' pd'
  |y=>some y:=by
 conv=>lhs;arg 4;rw [qNA]
 rw [qbx (fr':=(f6P s r n).set 27 (.fn 34 [])) (σ':=s6P n [.sl [] .full,.sl [] .full,.sl [] .full] [.sl r .non,.int .i64 s.length]) (pd':=d2P) (by kernel_rfl) (by kernel_rfl),qbx (fr':=f7P s r n) (σ':=s6P n [.sl [] .full,.sl [] .full,.sl [] .full] [.sl r .non,.int .i64 s.length]) (pd':=d2P) (by kernel_rfl) (by kernel_rfl)]
 cases y with
 |ok fr' σ' pd'=>exact qbx (by kernel_rfl) h
 |pan x fr' σ' pd'=>exact qkP (by kernel_rfl) h
theorem qIP {q:Option (PExit×List PV×Store×List PD)} (hw:(qaB [.str s]).run=some (.tup [.sl r .non,.int .i64 n,.int .i64 0]))
  (h:dexec tbT (gam G_wP) (.seq (.region 7 (qat (sq1 (sq2 kP6))) false) (.seq (.seq (.region 8 (qat (sq1 (sq1 kP8))) false) (.cond (.tmp 36) (.region 9 (qat (sq1 (sq2 (sq1 kP8)))) false) .skip)) (sq2 kP8))) (f6P s r n) (s6P n [.sl [] .full,.sl [] .full,.sl [] .full] [.sl r .non,.int .i64 s.length]) d2P=q):dexec tbT (gam G_wP) c_wP (f0P s) ⟨[],[],[]⟩ []=q:=by
 rw [show c_wP=_ from congrArg (·.getD .skip) qMU]
 exact (qaN (wP_0 s)).trans ((qaN (qda (wP_1 s r n 0 hw))).trans ((qaN (wP_2 s r n)).trans ((qaN (wP_4 s r n)).trans ((qaN (wP_5 s r n)).trans ((qaN (wP_6 s r n)).trans h)))))
theorem qMS (hw:(qaB [.str s]).run=some (.tup [.sl r .non,.int .i64 n,.int .i64 0])) {y:PV} {c':List PV} {os:List (List PV)} {tk:List (Nat×Nat×TypeId)} {ts:List TypeId}
  (hv:(qkN [.ptr 0 0] ⟨[[.sl (qab r) .non,.int .i64 s.length]],[],[138]⟩).run=some (.pan y,⟨c'::os,tk,138::ts⟩)) :
  dexec tbT (gam G_wP) c_wP (f0P s) ⟨[],[],[]⟩ []=some (.pan y,f7P s r n,s6P n [.sl [] .full,.sl [] .full,.sl [] .full] (qaV c'),d2P):=by
 have hf:(frameT qkN [.ptr 3 0] (s6P n [.sl [] .full,.sl [] .full,.sl [] .full] [.sl r .non,.int .i64 s.length])).run=some (.pan y,s6P n [.sl [] .full,.sl [] .full,.sl [] .full] (qaV c')):=(qeW (D:=qkN) (args:=[.ptr 3 0]) (σ:=s6P n [.sl [] .full,.sl [] .full,.sl [] .full] [.sl r .non,.int .i64 s.length]) rfl rfl rfl hv).trans (by kernel_rfl)
 refine qIP s r n hw (qhZ (qij ?_));refine wP_7 s r n (y:=.pan y (f7P s r n) (s6P n [.sl [] .full,.sl [] .full,.sl [] .full] (qaV c')) d2P) ?_;rw [qMN,qMs,hf];simp only [qg0,dfin,qNS,hf,qlr,Option.map_some]
theorem qIW (hw:(qaB [.str s]).run=some (.tup [.sl r .non,.int .i64 n,.int .i64 0])) {a b c:List (List PV)} {r':List (List PV)} {m:Int}
  (hv:(qkN [.ptr 0 0] ⟨[[.sl (qab r) .non,.int .i64 s.length]],[],[138]⟩).run=some (.val (.agg [.sl a .non,.sl b .non,.sl c .non]),⟨[[.sl r' .non,.int .i64 m]],[],[138]⟩)) {q:Option (PExit×List PV×Store×List PD)}
  (h:dexec tbT (gam G_wP) (.seq (.seq (.region 8 (qat (sq1 (sq1 kP8))) false) (.cond (.tmp 36) (.region 9 (qat (sq1 (sq2 (sq1 kP8)))) false) .skip)) (sq2 kP8)) ((f7P s r n).set 29 (.agg [.sl (qaa a) .non,.sl (qaa b) .non,.sl (qaa c) .non])) (s6P n [.sl (qaa a) .non,.sl (qaa b) .non,.sl (qaa c) .non] [.sl (qaa r') .non,.int .i64 m]) d2P=q) :
  dexec tbT (gam G_wP) c_wP (f0P s) ⟨[],[],[]⟩ []=q:=by
 have hf:(frameT qkN [.ptr 3 0] (s6P n [.sl [] .full,.sl [] .full,.sl [] .full] [.sl r .non,.int .i64 s.length])).run=some (.val (.agg [.sl (qaa a) .non,.sl (qaa b) .non,.sl (qaa c) .non]),s6P n [.sl [] .full,.sl [] .full,.sl [] .full] [.sl (qaa r') .non,.int .i64 m]):=(qeW (D:=qkN) (args:=[.ptr 3 0]) (σ:=s6P n [.sl [] .full,.sl [] .full,.sl [] .full] [.sl r .non,.int .i64 s.length]) rfl rfl rfl hv).trans (by kernel_rfl)
 refine qIP s r n hw ((qaN (qda ?_)).trans h);refine (wP_7 s r n (y:=.ok ((f7P s r n).set 29 (.agg [.sl (qaa a) .non,.sl (qaa b) .non,.sl (qaa c) .non])) (s6P n [.sl [] .full,.sl [] .full,.sl [] .full] [.sl (qaa r') .non,.int .i64 m]) d2P) ?_).trans ?_
 ·rw [qMN,qMs,hf]
  kernel_rfl
 ·kernel_rfl
def f8P (fr:List PV) (rr:qR) (b:Bool):List PV:=((((((fr.set 30 (.ptr 3 0)).set 31 (.ptr 3 0)).set 32 (.ptr 3 0)).set 33 (.ptr 3 0)).set 34 (.sl rr .non)).set 35 (.int .i64 rr.length)).set 36 (.bool b)
variable  (a b c : List (List PV)) (rr : List (List PV)) (m : Int)
theorem wP_8:dops tbT (gam G_wP) (qat (sq1 (sq1 kP8))).toList (qat (sq1 (sq1 kP8))).toList ((f7P s r n).set 29 (.agg [.sl (qaa a) .non,.sl (qaa b) .non,.sl (qaa c) .non])) (s6P n [.sl (qaa a) .non,.sl (qaa b) .non,.sl (qaa c) .non] [.sl rr .non,.int .i64 m]) d2P=some (.ok (f8P ((f7P s r n).set 29 (.agg [.sl (qaa a) .non,.sl (qaa b) .non,.sl (qaa c) .non])) rr (decide ((rr.length:Int) > 0))) (s6P n [.sl (qaa a) .non,.sl (qaa b) .non,.sl (qaa c) .non] [.sl rr .non,.int .i64 m]) d2P):=by kernel_rfl
theorem qNf:dexec tbT (gam G_wP) (.seq (.seq (.region 8 (qat (sq1 (sq1 kP8))) false) (.cond (.tmp 36) (.region 9 (qat (sq1 (sq2 (sq1 kP8)))) false) .skip)) (sq2 kP8)) ((f7P s r n).set 29 (.agg [.sl (qaa a) .non,.sl (qaa b) .non,.sl (qaa c) .non])) (s6P n [.sl (qaa a) .non,.sl (qaa b) .non,.sl (qaa c) .non] [.sl [] .non,.int .i64 m]) d2P=some (.ret,(f8P ((f7P s r n).set 29 (.agg [.sl (qaa a) .non,.sl (qaa b) .non,.sl (qaa c) .non])) [] false).set 39 (.agg [.sl (qaa a) .non,.sl (qaa b) .non,.sl (qaa c) .non]),s6P 0 [.sl (qaa a) .non,.sl (qaa b) .non,.sl (qaa c) .non] [.sl [] .non,.int .i64 m],d2P):=by
 refine (qaN ((qaN (qda (wP_8 s r n a b c [] m))).trans (qp2 (by kernel_rfl)))).trans ?_
 kernel_rfl
def o9P:Oper:=opAt (sq1 (sq2 (sq1 kP8))) 1
theorem qJ7 (x:List PV) {y:PV} {c':List PV} {os:List (List PV)} {tk:List (Nat×Nat×TypeId)} {ts:List TypeId} (hv:(qds [.ptr 0 0] ⟨[[.sl (qab (x::rr)) .non,.int .i64 m]],[],[138]⟩).run=some (.pan y,⟨c'::os,tk,138::ts⟩)) :
  dexec tbT (gam G_wP) (.seq (.seq (.region 8 (qat (sq1 (sq1 kP8))) false) (.cond (.tmp 36) (.region 9 (qat (sq1 (sq2 (sq1 kP8)))) false) .skip)) (sq2 kP8)) ((f7P s r n).set 29 (.agg [.sl (qaa a) .non,.sl (qaa b) .non,.sl (qaa c) .non])) (s6P n [.sl (qaa a) .non,.sl (qaa b) .non,.sl (qaa c) .non] [.sl (x::rr) .non,.int .i64 m]) d2P=some (.pan y,(f8P ((f7P s r n).set 29 (.agg [.sl (qaa a) .non,.sl (qaa b) .non,.sl (qaa c) .non])) (x::rr) true).set 37 (.ptr 3 0),s6P n [.sl (qaa a) .non,.sl (qaa b) .non,.sl (qaa c) .non] (qaV c'),d2P):=by
 have hb:decide ((((x::rr).length:Nat):Int) > 0)=true:=by simp only [List.length_cons,decide_eq_true_eq];omega
 have hf:(frameT qds [.ptr 3 0] (s6P n [.sl (qaa a) .non,.sl (qaa b) .non,.sl (qaa c) .non] [.sl (x::rr) .non,.int .i64 m])).run=some (.pan y,s6P n [.sl (qaa a) .non,.sl (qaa b) .non,.sl (qaa c) .non] (qaV c')):=(qeW (D:=qds) (args:=[.ptr 3 0]) (σ:=s6P n [.sl (qaa a) .non,.sl (qaa b) .non,.sl (qaa c) .non] [.sl (x::rr) .non,.int .i64 m]) rfl rfl rfl hv).trans (by kernel_rfl)
 have h8:=wP_8 s r n a b c (x::rr) m;rw [hb] at h8;have ho:(qat (sq1 (sq2 (sq1 kP8)))).toList=[opAt (sq1 (sq2 (sq1 kP8))) 0,o9P]:=by kernel_rfl
 refine qhZ ((qaN (qda h8)).trans ((qqq (by kernel_rfl)).trans (qij ?_)))
 conv=>lhs;arg 4;rw [ho]
 rw [qbx (fr':=(f8P ((f7P s r n).set 29 (.agg [.sl (qaa a) .non,.sl (qaa b) .non,.sl (qaa c) .non])) (x::rr) true).set 37 (.ptr 3 0)) (σ':=s6P n [.sl (qaa a) .non,.sl (qaa b) .non,.sl (qaa c) .non] [.sl (x::rr) .non,.int .i64 m]) (pd':=d2P) (by kernel_rfl) (by kernel_rfl)]
 refine qkP (by kernel_rfl) ?_
 have hd:dop tbT (gam G_wP) ((f8P ((f7P s r n).set 29 (.agg [.sl (qaa a) .non,.sl (qaa b) .non,.sl (qaa c) .non])) (x::rr) true).set 37 (.ptr 3 0)) (s6P n [.sl (qaa a) .non,.sl (qaa b) .non,.sl (qaa c) .non] [.sl (x::rr) .non,.int .i64 m]) d2P o9P=dfin (gam G_wP) ((f8P ((f7P s r n).set 29 (.agg [.sl (qaa a) .non,.sl (qaa b) .non,.sl (qaa c) .non])) (x::rr) true).set 37 (.ptr 3 0)) (s6P n [.sl (qaa a) .non,.sl (qaa b) .non,.sl (qaa c) .non] [.sl (x::rr) .non,.int .i64 m]) d2P o9P (qg0 (frameT qds [.ptr 3 0] (s6P n [.sl (qaa a) .non,.sl (qaa b) .non,.sl (qaa c) .non] [.sl (x::rr) .non,.int .i64 m])).run):=by kernel_rfl
 have hp:ppan (gam G_wP) ((f8P ((f7P s r n).set 29 (.agg [.sl (qaa a) .non,.sl (qaa b) .non,.sl (qaa c) .non])) (x::rr) true).set 37 (.ptr 3 0)) (s6P n [.sl (qaa a) .non,.sl (qaa b) .non,.sl (qaa c) .non] [.sl (x::rr) .non,.int .i64 m]) o9P=qlr (frameT qds [.ptr 3 0] (s6P n [.sl (qaa a) .non,.sl (qaa b) .non,.sl (qaa c) .non] [.sl (x::rr) .non,.int .i64 m])).run:=by kernel_rfl
 rw [hd,hf];simp only [qg0,dfin,hp,hf,qlr,Option.map_some]
end
def finP:Option (PR×Store)→Option PV
 |some (.val (.agg [.sl a .non,.sl b .non,.sl c .non]),⟨[[.sl r' .non,.int .i64 m]],[],[138]⟩)=>match qaa r' with
  |[]=>some (.tup [.agg [.sl (qaa (qaa a)) .non,.sl (qaa (qaa b)) .non,.sl (qaa (qaa c)) .non],.int .i64 0,.int .i64 0])
  |x::rr=>qjb [.sl [] .non,.sl [] .non,.sl [] .non] (qds [.ptr 0 0] ⟨[[.sl (qab (x::rr)) .non,.int .i64 m]],[],[138]⟩).run
 |q=>qjb [.sl [] .non,.sl [] .non,.sl [] .non] q
def outP (s:qU):Option PV:=match (qaB [.str s]).run with
 |some (.tup [.sl r .non,.int .i64 n,.int .i64 e])=>match e != 0 with
  |true=>some (.tup [.agg [.sl [] .non,.sl [] .non,.sl [] .non],.int .i64 n,.int .i64 e])
  |false=>finP (qkN [.ptr 0 0] ⟨[[.sl (qab r) .non,.int .i64 s.length]],[],[138]⟩).run
 |_=>none
def FwP:List PV→Option PV
 |[.str s,.fn 34 []]=>outP s
 |_=>none
def FwP1:List PV→Option PV
 |[.str s,.fn 34 []]=>match qsp (qaB [.str s]).run with
  |true=>outP s
  |false=>none
 |_=>none
def FwP2:List PV→Option PV
 |[.str s,.fn 34 []]=>match qsp (qaB [.str s]).run with
  |true=>none
  |false=>outP s
 |_=>none
theorem qJn (gl:Gl) (hg:GlLex gl):SimP Tryz.prog gl 33 FwP1:=by
 refine SimP.of_does qak Tryz.func33 (c:=c_wP) (by kernel_rfl) (by kernel_rfl) fun args x hx hrel=>?_
 clear hrel;unfold FwP1 at hx;split at hx
 ·rename_i s;split at hx
  ·rename_i hea;unfold outP at hx;split at hx
   ·rename_i r n e hw;have he:(e != 0)=true:=by rw [hw] at hea;exact hea
    rw [he] at hx;simp only [Option.some.injEq] at hx;subst hx;refine⟨.ret,fEP s r n e (e != 0),sBP n e,[.agg [.sl [] .full,.sl [] .full,.sl [] .full],.int .i64 n,.int .i64 e],.inr rfl,?_,by kernel_rfl,by kernel_rfl⟩
    rw [show [PV.str s,PV.fn 34 []]++List.replicate (Tryz.f33.ntmps - [PV.str s,PV.fn 34 []].length) PV.top=f0P s from by kernel_rfl]
    exact qHJ s r n e gl hg hw he
   ·cases hx
  ·cases hx
 ·cases hx
theorem qJr (gl:Gl) (hg:GlLex gl):SimP Tryz.prog gl 33 FwP2:=by
 refine SimP.of_defer qak (qxP gl hg) Tryz.func33 (c:=c_wP) (by kernel_rfl) (by kernel_rfl) fun args x hx=>?_
 unfold FwP2 at hx;split at hx
 ·rename_i s;split at hx
  ·cases hx
  rename_i hea;unfold outP at hx;split at hx
  ·rename_i r n e hw;have he:(e != 0)=false:=by rw [hw] at hea;exact hea
   rw [he] at hx;have he0:e=0:=by simpa using he
   subst he0;have hs:[PV.str s,PV.fn 34 []]++List.replicate (Tryz.f33.ntmps - [PV.str s,PV.fn 34 []].length) PV.top=f0P s:=by kernel_rfl
   rw [hs];simp only at hx;unfold finP at hx;split at hx
   ·rename_i a b c r' m hv;split at hx
    ·rename_i hr;simp only [Option.some.injEq] at hx;subst hx;refine⟨.ret,.ret,_,_,_,s6P 0 [.sl (qaa a) .non,.sl (qaa b) .non,.sl (qaa c) .non] [.sl [] .non,.int .i64 m],[.agg [.sl (qaa a) .non,.sl (qaa b) .non,.sl (qaa c) .non],.int .i64 0,.int .i64 0],qIW s r n hw hv (q:=some (.ret,(f8P ((f7P s r n).set 29 (.agg [.sl (qaa a) .non,.sl (qaa b) .non,.sl (qaa c) .non])) [] false).set 39 (.agg [.sl (qaa a) .non,.sl (qaa b) .non,.sl (qaa c) .non]),s6P 0 [.sl (qaa a) .non,.sl (qaa b) .non,.sl (qaa c) .non] [.sl [] .non,.int .i64 m],d2P)) (by rw [hr];exact qNf s r n a b c m),.inl ⟨rfl,rfl⟩,?_,by kernel_rfl,by kernel_rfl⟩
     exact .cons (qI6 gl _ _ _ _) (.cons (qMm gl _ _ _) (.nil _))
    ·rename_i x rr hr;obtain⟨at_,c',os,tk,ts,hb,hwf,rfl⟩:=qf7 hx;refine⟨_,.pan (.iface 172 (.agg [.int .i64 at_])),_,_,_,⟨[[.sl [] .full,.sl [] .full,.sl [] .full],[.int .i64 at_],[.int .i64 130],qaV c',[.int .i64 at_],[.sl [] .full,.sl [] .full,.sl [] .full]],[],[27,3,28,138,172,27]⟩,[.agg [.sl [] .full,.sl [] .full,.sl [] .full],.int .i64 at_,.int .i64 130],qIW s r n hw hv (q:=some (.pan (.iface 172 (.agg [.int .i64 at_])),(f8P ((f7P s r n).set 29 (.agg [.sl (qaa a) .non,.sl (qaa b) .non,.sl (qaa c) .non])) (x::rr) true).set 37 (.ptr 3 0),s6P n [.sl (qaa a) .non,.sl (qaa b) .non,.sl (qaa c) .non] (qaV c'),d2P)) (by rw [hr];exact qJ7 s r n a b c rr m x hb),.inr ⟨_,rfl,rfl⟩,?_,by kernel_rfl,by kernel_rfl⟩
     exact .cons (qBf gl _ _ _ _ _ hwf) (.cons (qKl gl (qaa a) (qaa b) (qaa c) _ _ _) (.nil _))
   ·obtain⟨at_,c',os,tk,ts,hb,hwf,rfl⟩:=qf7 hx;refine⟨_,.pan (.iface 172 (.agg [.int .i64 at_])),_,_,_,⟨[[.sl [] .full,.sl [] .full,.sl [] .full],[.int .i64 at_],[.int .i64 130],qaV c',[.int .i64 at_],[.sl [] .full,.sl [] .full,.sl [] .full]],[],[27,3,28,138,172,27]⟩,[.agg [.sl [] .full,.sl [] .full,.sl [] .full],.int .i64 at_,.int .i64 130],qMS s r n hw hb,.inr ⟨_,rfl,rfl⟩,?_,by kernel_rfl,by kernel_rfl⟩
    exact .cons (qBf gl _ _ _ _ _ hwf) (.cons (qG0 gl _ _ _) (.nil _))
  ·cases hx
 ·cases hx
theorem qJk (gl:Gl) (hg:GlLex gl):SimP Tryz.prog gl 33 FwP:=by
 refine SimP.or (qJn gl hg) (qJr gl hg) fun args x hx=>?_
 unfold FwP at hx;split at hx
 ·rename_i s;cases he:qsp (qaB [.str s]).run with
  |true=>exact .inl (by simp only [FwP1,he,hx])
  |false=>exact .inr (by simp only [FwP2,he,hx])
 ·cases hx
theorem qL8 (gl:Gl) (o0:List PV) (n:Int) (rc:List PV):DefOk Tryz.prog gl 105 ([]++[.ptr 2 0,.ptr 0 0]) .ret ⟨[o0,[.int .i64 n],[.int .i64 0],rc],[],[51,3,28,138]⟩ .ret ⟨[o0,[.int .i64 n],[.int .i64 0],rc],[],[51,3,28,138]⟩ :=
 DefOk.of_quiet (e:=.normal) qak (qnD gl) Tryz.func105 (by rfl) (by kernel_rfl) (by rfl) (.inl rfl) (by kernel_rfl)
theorem qLC (gl:Gl) (a:qU) (b c:qR) (at_:Int) (rc x:List PV):DefOk Tryz.prog gl 105 ([]++[.ptr 2 0,.ptr 0 0]) .ret ⟨[[.str a,.sl b .non,.sl c .non],[.int .i64 at_],[.int .i64 130],rc,x],[],[51,3,28,138,172]⟩ .ret ⟨[[.str [],.sl [] .full,.sl [] .full],[.int .i64 at_],[.int .i64 130],rc,x,[.str [],.sl [] .full,.sl [] .full]],[],[51,3,28,138,172,51]⟩ :=
 DefOk.of_quiet (e:=.normal) qak (qnD gl) Tryz.func105 (by rfl) (by kernel_rfl) (by rfl) (.inl rfl) (by kernel_rfl)
theorem qG3 (gl:Gl) (at_:Int) (rc x:List PV):DefOk Tryz.prog gl 105 ([]++[.ptr 2 0,.ptr 0 0]) .ret ⟨[[.str [],.sl [] .full,.sl [] .full],[.int .i64 at_],[.int .i64 130],rc,x],[],[51,3,28,138,172]⟩ .ret ⟨[[.str [],.sl [] .full,.sl [] .full],[.int .i64 at_],[.int .i64 130],rc,x,[.str [],.sl [] .full,.sl [] .full]],[],[51,3,28,138,172,51]⟩ :=
 DefOk.of_quiet (e:=.normal) qak (qnD gl) Tryz.func105 (by rfl) (by kernel_rfl) (by rfl) (.inl rfl) (by kernel_rfl)
def G_wR:GamT:=ofL [(82,.pure qaB),(46,.may (frameT qlY)),(85,.may (frameT qds)),(qcD,.flag)]
theorem qx1 (gl:Gl) (hg:GlLex gl):qam Tryz.prog gl (gam G_wR):=qae (qsN gl hg) (qai (SimM.frameT (qKX gl)) (qai (SimM.frameT (qnx gl)) (qbj qag)))
def c_wR:Code:=(Tryz.f45.body).getD .skip
def kR2:Code:=sq2 (sq2 c_wR)
def kR3:Code:=sq2 kR2
def kR6:Code:=sq2 (sq2 kR3)
def kR8:Code:=sq2 (sq2 kR6)
theorem qNi:Tryz.f45.body=some (.seq (.region 0 (qat (sq1 c_wR)) false) (.seq (.region 1 (qat (sq1 (sq2 c_wR))) false) (.seq (.seq (.region 2 (qat (sq1 (sq1 kR2))) false) (.cond (.tmp 16) (.seq (.region 3 (qat (sq1 (sq1 (sq2 (sq1 kR2))))) true) .ret) .skip)) (.seq (sq1 kR3) (.seq (sq1 (sq2 kR3)) (.seq (sq1 kR6) (.seq (.region 7 (qat (sq1 (sq2 kR6))) false) (.seq (.seq (.region 8 (qat (sq1 (sq1 kR8))) false) (.cond (.tmp 36) (.region 9 (qat (sq1 (sq2 (sq1 kR8)))) false) .skip)) (sq2 kR8))))))))):=by kernel_rfl
section
variable (s : List UInt8) (r : List (List PV)) (n e : Int)
def f0R:List PV:=[.str s,.fn 46 []]++List.replicate 38 .top
def fAR:List PV:=(((f0R s).set 4 (.ptr 0 0)).set 5 (.ptr 1 0)).set 6 (.ptr 2 0)
def owR:PV:=.tup [.sl r .non,.int .i64 n,.int .i64 e]
def fBR:List PV:=(((((((fAR s).set 10 (.str s)).set 11 (owR r n e)).set 9 (owR r n e)).set 12 (.sl r .non)).set 13 (.int .i64 n)).set 14 (.int .i64 e)).set 7 (.sl r .non)
def fCR (b:Bool):List PV:=((fBR s r n e).set 15 (.int .i64 e)).set 16 (.bool b)
def fER (b:Bool):List PV:=(((fCR s r n e b).set 17 (.agg [.str [],.sl [] .full,.sl [] .full])).set 18 (.int .i64 n)).set 19 (.int .i64 e)
def sBR:Store:=⟨[[.str [],.sl [] .full,.sl [] .full],[.int .i64 n],[.int .i64 e]],[],[51,3,28]⟩
theorem wR_0:dexec tbT (gam G_wR) (.region 0 (qat (sq1 c_wR)) false) (f0R s) ⟨[],[],[]⟩ []=some (.normal,fAR s,sBR 0 0,[]):=by kernel_rfl
theorem qNP:pops tbT (gam G_wR) (qat (sq1 c_wR)).toList (qat (sq1 c_wR)).toList (f0R s) ⟨[],[],[]⟩=some (fAR s,sBR 0 0):=by kernel_rfl
variable (hw : (qaB [.str s]).run = some (.tup [.sl r .non, .int .i64 n, .int .i64 e]))
include hw
theorem wR_c:pop tbT (gam G_wR) ((fAR s).set 10 (.str s)) (sBR 0 0) (opAt (sq1 (sq2 c_wR)) 1)=some (owR r n e,sBR 0 0):=by
 have h:pop tbT (gam G_wR) ((fAR s).set 10 (.str s)) (sBR 0 0) (opAt (sq1 (sq2 c_wR)) 1)=(qaB [.str s]).run.map fun x=>(x,sBR 0 0):=by kernel_rfl
 rw [h,hw];rfl
theorem wR_1:dops tbT (gam G_wR) (qat (sq1 (sq2 c_wR))).toList (qat (sq1 (sq2 c_wR))).toList (fAR s) (sBR 0 0) []=some (.ok (fBR s r n e) (sBR n e) []):=by
 have h0:(qat (sq1 (sq2 c_wR))).toList=opAt (sq1 (sq2 c_wR)) 0::opAt (sq1 (sq2 c_wR)) 1::(qat (sq1 (sq2 c_wR))).toList.drop 2:=by kernel_rfl
 have h1:dop tbT (gam G_wR) ((fAR s).set 10 (.str s)) (sBR 0 0) [] (opAt (sq1 (sq2 c_wR)) 1)=dfin (gam G_wR) ((fAR s).set 10 (.str s)) (sBR 0 0) [] (opAt (sq1 (sq2 c_wR)) 1) (pop tbT (gam G_wR) ((fAR s).set 10 (.str s)) (sBR 0 0) (opAt (sq1 (sq2 c_wR)) 1)):=by kernel_rfl
 rw [wR_c s r n e hw] at h1
 conv=>lhs;arg 4;rw [h0]
 rw [qbx (fr':=(fAR s).set 10 (.str s)) (σ':=sBR 0 0) (pd':=[]) (by kernel_rfl) (by kernel_rfl),qbx (fr':=((fAR s).set 10 (.str s)).set 11 (owR r n e)) (σ':=sBR 0 0) (pd':=[]) (by kernel_rfl) (h1.trans (by kernel_rfl))]
 kernel_rfl
theorem qNN:pops tbT (gam G_wR) (qat (sq1 (sq2 c_wR))).toList (qat (sq1 (sq2 c_wR))).toList (fAR s) (sBR 0 0)=some (fBR s r n e,sBR n e):=by
 have h0:(qat (sq1 (sq2 c_wR))).toList=opAt (sq1 (sq2 c_wR)) 0::opAt (sq1 (sq2 c_wR)) 1::(qat (sq1 (sq2 c_wR))).toList.drop 2:=by kernel_rfl
 conv=>lhs;arg 4;rw [h0]
 rw [qkw (x:=.str s) (σ':=sBR 0 0) (by kernel_rfl) (by kernel_rfl)]
 refine (qkw (x:=owR r n e) (σ':=sBR 0 0) (by kernel_rfl) (wR_c s r n e hw)).trans ?_
 kernel_rfl
end
section
variable (s : List UInt8) (r : List (List PV)) (n e : Int)
theorem qNG:pops tbT (gam G_wR) (qat (sq1 (sq1 kR2))).toList (qat (sq1 (sq1 kR2))).toList (fBR s r n e) (sBR n e)=some (fCR s r n e (e != 0),sBR n e):=by kernel_rfl
def r3R:Code:=sq1 (sq1 (sq2 (sq1 kR2)))
theorem wR_3 (b:Bool):qgZ tbT (gam G_wR) (qat r3R).toList (qat r3R).toList 0 [] (fCR s r n e b) (sBR n e)=some (.ok (fER s r n e b) (sBR n e)):=by
 have h0:(qat r3R).toList=[opAt r3R 0,opAt r3R 1,opAt r3R 2,opAt r3R 3,opAt r3R 4,opAt r3R 5]:=by kernel_rfl
 conv=>lhs;arg 4;rw [h0]
 refine (qbe (x:=.agg [.str [],.sl [] .full,.sl [] .full]) (σ':=sBR n e) (by kernel_rfl) (by kernel_rfl) (fun h=>absurd h (by rw [show writes (gam G_wR) (opAt r3R 0)=false from by kernel_rfl];simp))).trans ?_
 refine (qbe (x:=.int .i64 n) (σ':=sBR n e) (by kernel_rfl) (by kernel_rfl) (fun h=>absurd h (by rw [show writes (gam G_wR) (opAt r3R 1)=false from by kernel_rfl];simp))).trans ?_
 refine (qbe (x:=.int .i64 e) (σ':=sBR n e) (by kernel_rfl) (by kernel_rfl) (fun h=>absurd h (by rw [show writes (gam G_wR) (opAt r3R 2)=false from by kernel_rfl];simp))).trans ?_
 refine (qbe (x:=.top) (σ':=sBR n e) (by kernel_rfl) (by kernel_rfl) (fun _=>?_)).trans ?_
 ·exact qfz (l':=[(2,2),(1,1),(0,0)]) (by kernel_rfl) ⟨.inr rfl,.inr rfl,.inr rfl,trivial⟩
 refine (qbe (x:=.top) (σ':=sBR n e) (by kernel_rfl) (by kernel_rfl) (fun _=>?_)).trans ?_
 ·exact qfz (l':=[(2,2),(1,1),(0,0)]) (by kernel_rfl) ⟨.inr rfl,.inr rfl,.inr rfl,trivial⟩
 refine (qbe (x:=.top) (σ':=sBR n e) (by kernel_rfl) (by kernel_rfl) (fun _=>?_)).trans ?_
 ·exact qfz (l':=[(2,2),(1,1),(0,0)]) (by kernel_rfl) ⟨.inr rfl,.inr rfl,.inr rfl,trivial⟩
 kernel_rfl
theorem qHy (gl:Gl) (hg:GlLex gl) (hw:(qaB [.str s]).run=some (.tup [.sl r .non,.int .i64 n,.int .i64 e])) (he:(e != 0)=true):Does Tryz.prog gl c_wR (f0R s) ⟨[],[],[]⟩ .ret (fER s r n e (e != 0)) (sBR n e):=by
 rw [show c_wR=_ from congrArg (·.getD .skip) qNi]
 exact Does.seqN (Does.reg qak (qx1 gl hg) (qNP s)) (Does.seqN (Does.reg qak (qx1 gl hg) (qNN s r n e hw)) (Does.seqR (Does.seqN (Does.reg qak (qx1 gl hg) (qNG s r n e)) (Does.condT (by rw [he];rfl) (Does.seqN (Does.regD qak (qx1 gl hg) qah (by kernel_rfl) (wR_3 s r n e _)) Does.ret)))))
def f4R:List PV:=(fCR s r n 0 false).set 20 (.fn 105 [.ptr 2 0,.ptr 0 0])
def d1R:List PD:=[(105,[],[.ptr 2 0,.ptr 0 0])]
def d2R:List PD:=(84,[.ptr 1 0,.ptr 2 0],[])::d1R
def f6R:List PV:=(((((((f4R s r n).set 21 (.sl r .non)).set 22 (.agg [.sl r .non])).set 23 (.str s)).set 24 (.int .i64 s.length)).set 25 (.agg [.sl r .non,.int .i64 s.length])).set 26 (.ptr 3 0)).set 8 (.ptr 3 0)
def s6R (z:List PV) (rc:List PV):Store:=⟨[z,[.int .i64 n],[.int .i64 0],rc],[],[51,3,28,138]⟩
theorem wR_2:dexec tbT (gam G_wR) (.seq (.region 2 (qat (sq1 (sq1 kR2))) false) (.cond (.tmp 16) (.seq (.region 3 (qat (sq1 (sq1 (sq2 (sq1 kR2))))) true) .ret) .skip)) (fBR s r n 0) (sBR n 0) []=some (.normal,fCR s r n 0 false,sBR n 0,[]):=by kernel_rfl
theorem wR_4:dexec tbT (gam G_wR) (sq1 kR3) (fCR s r n 0 false) (sBR n 0) []=some (.normal,f4R s r n,sBR n 0,d1R):=by kernel_rfl
theorem wR_5:dexec tbT (gam G_wR) (sq1 (sq2 kR3)) (f4R s r n) (sBR n 0) d1R=some (.normal,f4R s r n,sBR n 0,d2R):=by kernel_rfl
theorem wR_6:dexec tbT (gam G_wR) (sq1 kR6) (f4R s r n) (sBR n 0) d2R=some (.normal,f6R s r n,s6R n [.str [],.sl [] .full,.sl [] .full] [.sl r .non,.int .i64 s.length],d2R):=by kernel_rfl
def f7R:List PV:=((f6R s r n).set 27 (.fn 46 [])).set 28 (.ptr 3 0)
def o7R:Oper:=opAt (sq1 (sq2 kR6)) 2
theorem qNI:(qat (sq1 (sq2 kR6))).toList=opAt (sq1 (sq2 kR6)) 0::opAt (sq1 (sq2 kR6)) 1::o7R::(qat (sq1 (sq2 kR6))).toList.drop 3:=by kernel_rfl
theorem qNd:dop tbT (gam G_wR) (f7R s r n) (s6R n [.str [],.sl [] .full,.sl [] .full] [.sl r .non,.int .i64 s.length]) d2R o7R=dfin (gam G_wR) (f7R s r n) (s6R n [.str [],.sl [] .full,.sl [] .full] [.sl r .non,.int .i64 s.length]) d2R o7R (pop tbT (gam G_wR) (f7R s r n) (s6R n [.str [],.sl [] .full,.sl [] .full] [.sl r .non,.int .i64 s.length]) o7R):=by kernel_rfl
theorem qMA:pop tbT (gam G_wR) (f7R s r n) (s6R n [.str [],.sl [] .full,.sl [] .full] [.sl r .non,.int .i64 s.length]) o7R=qg0 (frameT qlY [.ptr 3 0] (s6R n [.str [],.sl [] .full,.sl [] .full] [.sl r .non,.int .i64 s.length])).run:=by kernel_rfl
theorem qNH:ppan (gam G_wR) (f7R s r n) (s6R n [.str [],.sl [] .full,.sl [] .full] [.sl r .non,.int .i64 s.length]) o7R=qlr (frameT qlY [.ptr 3 0] (s6R n [.str [],.sl [] .full,.sl [] .full] [.sl r .non,.int .i64 s.length])).run:=by kernel_rfl
theorem wR_7 {y:DR} (h:dop tbT (gam G_wR) (f7R s r n) (s6R n [.str [],.sl [] .full,.sl [] .full] [.sl r .non,.int .i64 s.length]) d2R o7R=some y):dops tbT (gam G_wR) (qat (sq1 (sq2 kR6))).toList (qat (sq1 (sq2 kR6))).toList (f6R s r n) (s6R n [.str [],.sl [] .full,.sl [] .full] [.sl r .non,.int .i64 s.length]) d2R=match y with
  |.ok fr' σ' pd'=>dops tbT (gam G_wR) (qat (sq1 (sq2 kR6))).toList ((qat (sq1 (sq2 kR6))).toList.drop 3) fr' σ' pd'
  |y=>some y:=by
 conv=>lhs;arg 4;rw [qNI]
 rw [qbx (fr':=(f6R s r n).set 27 (.fn 46 [])) (σ':=s6R n [.str [],.sl [] .full,.sl [] .full] [.sl r .non,.int .i64 s.length]) (pd':=d2R) (by kernel_rfl) (by kernel_rfl),qbx (fr':=f7R s r n) (σ':=s6R n [.str [],.sl [] .full,.sl [] .full] [.sl r .non,.int .i64 s.length]) (pd':=d2R) (by kernel_rfl) (by kernel_rfl)]
 cases y with
 |ok fr' σ' pd'=>exact qbx (by kernel_rfl) h
 |pan x fr' σ' pd'=>exact qkP (by kernel_rfl) h
theorem qIR {q:Option (PExit×List PV×Store×List PD)} (hw:(qaB [.str s]).run=some (.tup [.sl r .non,.int .i64 n,.int .i64 0]))
  (h:dexec tbT (gam G_wR) (.seq (.region 7 (qat (sq1 (sq2 kR6))) false) (.seq (.seq (.region 8 (qat (sq1 (sq1 kR8))) false) (.cond (.tmp 36) (.region 9 (qat (sq1 (sq2 (sq1 kR8)))) false) .skip)) (sq2 kR8))) (f6R s r n) (s6R n [.str [],.sl [] .full,.sl [] .full] [.sl r .non,.int .i64 s.length]) d2R=q):dexec tbT (gam G_wR) c_wR (f0R s) ⟨[],[],[]⟩ []=q:=by
 rw [show c_wR=_ from congrArg (·.getD .skip) qNi]
 exact (qaN (wR_0 s)).trans ((qaN (qda (wR_1 s r n 0 hw))).trans ((qaN (wR_2 s r n)).trans ((qaN (wR_4 s r n)).trans ((qaN (wR_5 s r n)).trans ((qaN (wR_6 s r n)).trans h)))))
theorem qMw (hw:(qaB [.str s]).run=some (.tup [.sl r .non,.int .i64 n,.int .i64 0])) {y:PV} {c':List PV} {os:List (List PV)} {tk:List (Nat×Nat×TypeId)} {ts:List TypeId}
  (hv:(qlY [.ptr 0 0] ⟨[[.sl (qab r) .non,.int .i64 s.length]],[],[138]⟩).run=some (.pan y,⟨c'::os,tk,138::ts⟩)) :
  dexec tbT (gam G_wR) c_wR (f0R s) ⟨[],[],[]⟩ []=some (.pan y,f7R s r n,s6R n [.str [],.sl [] .full,.sl [] .full] (qaV c'),d2R):=by
 have hf:(frameT qlY [.ptr 3 0] (s6R n [.str [],.sl [] .full,.sl [] .full] [.sl r .non,.int .i64 s.length])).run=some (.pan y,s6R n [.str [],.sl [] .full,.sl [] .full] (qaV c')):=(qeW (D:=qlY) (args:=[.ptr 3 0]) (σ:=s6R n [.str [],.sl [] .full,.sl [] .full] [.sl r .non,.int .i64 s.length]) rfl rfl rfl hv).trans (by kernel_rfl)
 refine qIR s r n hw (qhZ (qij ?_));refine wR_7 s r n (y:=.pan y (f7R s r n) (s6R n [.str [],.sl [] .full,.sl [] .full] (qaV c')) d2R) ?_;rw [qNd,qMA,hf];simp only [qg0,dfin,qNH,hf,qlr,Option.map_some]
theorem qIY (hw:(qaB [.str s]).run=some (.tup [.sl r .non,.int .i64 n,.int .i64 0])) {a:List UInt8}{b c:List (List PV)} {r':List (List PV)} {m:Int}
  (hv:(qlY [.ptr 0 0] ⟨[[.sl (qab r) .non,.int .i64 s.length]],[],[138]⟩).run=some (.val (.agg [.str a,.sl b .non,.sl c .non]),⟨[[.sl r' .non,.int .i64 m]],[],[138]⟩)) {q:Option (PExit×List PV×Store×List PD)}
  (h:dexec tbT (gam G_wR) (.seq (.seq (.region 8 (qat (sq1 (sq1 kR8))) false) (.cond (.tmp 36) (.region 9 (qat (sq1 (sq2 (sq1 kR8)))) false) .skip)) (sq2 kR8)) ((f7R s r n).set 29 (.agg [.str a,.sl (qaa b) .non,.sl (qaa c) .non])) (s6R n [.str a,.sl (qaa b) .non,.sl (qaa c) .non] [.sl (qaa r') .non,.int .i64 m]) d2R=q) :
  dexec tbT (gam G_wR) c_wR (f0R s) ⟨[],[],[]⟩ []=q:=by
 have hf:(frameT qlY [.ptr 3 0] (s6R n [.str [],.sl [] .full,.sl [] .full] [.sl r .non,.int .i64 s.length])).run=some (.val (.agg [.str a,.sl (qaa b) .non,.sl (qaa c) .non]),s6R n [.str [],.sl [] .full,.sl [] .full] [.sl (qaa r') .non,.int .i64 m]):=(qeW (D:=qlY) (args:=[.ptr 3 0]) (σ:=s6R n [.str [],.sl [] .full,.sl [] .full] [.sl r .non,.int .i64 s.length]) rfl rfl rfl hv).trans (by kernel_rfl)
 refine qIR s r n hw ((qaN (qda ?_)).trans h);refine (wR_7 s r n (y:=.ok ((f7R s r n).set 29 (.agg [.str a,.sl (qaa b) .non,.sl (qaa c) .non])) (s6R n [.str [],.sl [] .full,.sl [] .full] [.sl (qaa r') .non,.int .i64 m]) d2R) ?_).trans ?_
 ·rw [qNd,qMA,hf]
  kernel_rfl
 ·kernel_rfl
def f8R (fr:List PV) (rr:qR) (b:Bool):List PV:=((((((fr.set 30 (.ptr 3 0)).set 31 (.ptr 3 0)).set 32 (.ptr 3 0)).set 33 (.ptr 3 0)).set 34 (.sl rr .non)).set 35 (.int .i64 rr.length)).set 36 (.bool b)
variable  (a : List UInt8) (b c : List (List PV)) (rr : List (List PV)) (m : Int)
theorem wR_8:dops tbT (gam G_wR) (qat (sq1 (sq1 kR8))).toList (qat (sq1 (sq1 kR8))).toList ((f7R s r n).set 29 (.agg [.str a,.sl (qaa b) .non,.sl (qaa c) .non])) (s6R n [.str a,.sl (qaa b) .non,.sl (qaa c) .non] [.sl rr .non,.int .i64 m]) d2R=some (.ok (f8R ((f7R s r n).set 29 (.agg [.str a,.sl (qaa b) .non,.sl (qaa c) .non])) rr (decide ((rr.length:Int) > 0))) (s6R n [.str a,.sl (qaa b) .non,.sl (qaa c) .non] [.sl rr .non,.int .i64 m]) d2R):=by kernel_rfl
theorem qME:dexec tbT (gam G_wR) (.seq (.seq (.region 8 (qat (sq1 (sq1 kR8))) false) (.cond (.tmp 36) (.region 9 (qat (sq1 (sq2 (sq1 kR8)))) false) .skip)) (sq2 kR8)) ((f7R s r n).set 29 (.agg [.str a,.sl (qaa b) .non,.sl (qaa c) .non])) (s6R n [.str a,.sl (qaa b) .non,.sl (qaa c) .non] [.sl [] .non,.int .i64 m]) d2R=some (.ret,(f8R ((f7R s r n).set 29 (.agg [.str a,.sl (qaa b) .non,.sl (qaa c) .non])) [] false).set 39 (.agg [.str a,.sl (qaa b) .non,.sl (qaa c) .non]),s6R 0 [.str a,.sl (qaa b) .non,.sl (qaa c) .non] [.sl [] .non,.int .i64 m],d2R):=by
 refine (qaN ((qaN (qda (wR_8 s r n a b c [] m))).trans (qp2 (by kernel_rfl)))).trans ?_
 kernel_rfl
def o9R:Oper:=opAt (sq1 (sq2 (sq1 kR8))) 1
theorem qJ3 (x:List PV) {y:PV} {c':List PV} {os:List (List PV)} {tk:List (Nat×Nat×TypeId)} {ts:List TypeId} (hv:(qds [.ptr 0 0] ⟨[[.sl (qab (x::rr)) .non,.int .i64 m]],[],[138]⟩).run=some (.pan y,⟨c'::os,tk,138::ts⟩)) :
  dexec tbT (gam G_wR) (.seq (.seq (.region 8 (qat (sq1 (sq1 kR8))) false) (.cond (.tmp 36) (.region 9 (qat (sq1 (sq2 (sq1 kR8)))) false) .skip)) (sq2 kR8)) ((f7R s r n).set 29 (.agg [.str a,.sl (qaa b) .non,.sl (qaa c) .non])) (s6R n [.str a,.sl (qaa b) .non,.sl (qaa c) .non] [.sl (x::rr) .non,.int .i64 m]) d2R=some (.pan y,(f8R ((f7R s r n).set 29 (.agg [.str a,.sl (qaa b) .non,.sl (qaa c) .non])) (x::rr) true).set 37 (.ptr 3 0),s6R n [.str a,.sl (qaa b) .non,.sl (qaa c) .non] (qaV c'),d2R):=by
 have hb:decide ((((x::rr).length:Nat):Int) > 0)=true:=by simp only [List.length_cons,decide_eq_true_eq];omega
 have hf:(frameT qds [.ptr 3 0] (s6R n [.str a,.sl (qaa b) .non,.sl (qaa c) .non] [.sl (x::rr) .non,.int .i64 m])).run=some (.pan y,s6R n [.str a,.sl (qaa b) .non,.sl (qaa c) .non] (qaV c')):=(qeW (D:=qds) (args:=[.ptr 3 0]) (σ:=s6R n [.str a,.sl (qaa b) .non,.sl (qaa c) .non] [.sl (x::rr) .non,.int .i64 m]) rfl rfl rfl hv).trans (by kernel_rfl)
 have h8:=wR_8 s r n a b c (x::rr) m;rw [hb] at h8;have ho:(qat (sq1 (sq2 (sq1 kR8)))).toList=[opAt (sq1 (sq2 (sq1 kR8))) 0,o9R]:=by kernel_rfl
 refine qhZ ((qaN (qda h8)).trans ((qqq (by kernel_rfl)).trans (qij ?_)))
 conv=>lhs;arg 4;rw [ho]
 rw [qbx (fr':=(f8R ((f7R s r n).set 29 (.agg [.str a,.sl (qaa b) .non,.sl (qaa c) .non])) (x::rr) true).set 37 (.ptr 3 0)) (σ':=s6R n [.str a,.sl (qaa b) .non,.sl (qaa c) .non] [.sl (x::rr) .non,.int .i64 m]) (pd':=d2R) (by kernel_rfl) (by kernel_rfl)]
 refine qkP (by kernel_rfl) ?_
 have hd:dop tbT (gam G_wR) ((f8R ((f7R s r n).set 29 (.agg [.str a,.sl (qaa b) .non,.sl (qaa c) .non])) (x::rr) true).set 37 (.ptr 3 0)) (s6R n [.str a,.sl (qaa b) .non,.sl (qaa c) .non] [.sl (x::rr) .non,.int .i64 m]) d2R o9R=dfin (gam G_wR) ((f8R ((f7R s r n).set 29 (.agg [.str a,.sl (qaa b) .non,.sl (qaa c) .non])) (x::rr) true).set 37 (.ptr 3 0)) (s6R n [.str a,.sl (qaa b) .non,.sl (qaa c) .non] [.sl (x::rr) .non,.int .i64 m]) d2R o9R (qg0 (frameT qds [.ptr 3 0] (s6R n [.str a,.sl (qaa b) .non,.sl (qaa c) .non] [.sl (x::rr) .non,.int .i64 m])).run):=by kernel_rfl
 have hp:ppan (gam G_wR) ((f8R ((f7R s r n).set 29 (.agg [.str a,.sl (qaa b) .non,.sl (qaa c) .non])) (x::rr) true).set 37 (.ptr 3 0)) (s6R n [.str a,.sl (qaa b) .non,.sl (qaa c) .non] [.sl (x::rr) .non,.int .i64 m]) o9R=qlr (frameT qds [.ptr 3 0] (s6R n [.str a,.sl (qaa b) .non,.sl (qaa c) .non] [.sl (x::rr) .non,.int .i64 m])).run:=by kernel_rfl
 rw [hd,hf];simp only [qg0,dfin,hp,hf,qlr,Option.map_some]
end
def finR:Option (PR×Store)→Option PV
 |some (.val (.agg [.str a,.sl b .non,.sl c .non]),⟨[[.sl r' .non,.int .i64 m]],[],[138]⟩)=>match qaa r' with
  |[]=>some (.tup [.agg [.str a,.sl (qaa (qaa b)) .non,.sl (qaa (qaa c)) .non],.int .i64 0,.int .i64 0])
  |x::rr=>qjb [.str [],.sl [] .non,.sl [] .non] (qds [.ptr 0 0] ⟨[[.sl (qab (x::rr)) .non,.int .i64 m]],[],[138]⟩).run
 |q=>qjb [.str [],.sl [] .non,.sl [] .non] q
def outR (s:qU):Option PV:=match (qaB [.str s]).run with
 |some (.tup [.sl r .non,.int .i64 n,.int .i64 e])=>match e != 0 with
  |true=>some (.tup [.agg [.str [],.sl [] .non,.sl [] .non],.int .i64 n,.int .i64 e])
  |false=>finR (qlY [.ptr 0 0] ⟨[[.sl (qab r) .non,.int .i64 s.length]],[],[138]⟩).run
 |_=>none
def FwR:List PV→Option PV
 |[.str s,.fn 46 []]=>outR s
 |_=>none
def FwR1:List PV→Option PV
 |[.str s,.fn 46 []]=>match qsp (qaB [.str s]).run with
  |true=>outR s
  |false=>none
 |_=>none
def FwR2:List PV→Option PV
 |[.str s,.fn 46 []]=>match qsp (qaB [.str s]).run with
  |true=>none
  |false=>outR s
 |_=>none
theorem qLQ (gl:Gl) (hg:GlLex gl):SimP Tryz.prog gl 45 FwR1:=by
 refine SimP.of_does qak Tryz.func45 (c:=c_wR) (by kernel_rfl) (by kernel_rfl) fun args x hx hrel=>?_
 clear hrel;unfold FwR1 at hx;split at hx
 ·rename_i s;split at hx
  ·rename_i hea;unfold outR at hx;split at hx
   ·rename_i r n e hw;have he:(e != 0)=true:=by rw [hw] at hea;exact hea
    rw [he] at hx;simp only [Option.some.injEq] at hx;subst hx;refine⟨.ret,fER s r n e (e != 0),sBR n e,[.agg [.str [],.sl [] .full,.sl [] .full],.int .i64 n,.int .i64 e],.inr rfl,?_,by kernel_rfl,by kernel_rfl⟩
    rw [show [PV.str s,PV.fn 46 []]++List.replicate (Tryz.f45.ntmps - [PV.str s,PV.fn 46 []].length) PV.top=f0R s from by kernel_rfl]
    exact qHy s r n e gl hg hw he
   ·cases hx
  ·cases hx
 ·cases hx
theorem qMi (gl:Gl) (hg:GlLex gl):SimP Tryz.prog gl 45 FwR2:=by
 refine SimP.of_defer qak (qx1 gl hg) Tryz.func45 (c:=c_wR) (by kernel_rfl) (by kernel_rfl) fun args x hx=>?_
 unfold FwR2 at hx;split at hx
 ·rename_i s;split at hx
  ·cases hx
  rename_i hea;unfold outR at hx;split at hx
  ·rename_i r n e hw;have he:(e != 0)=false:=by rw [hw] at hea;exact hea
   rw [he] at hx;have he0:e=0:=by simpa using he
   subst he0;have hs:[PV.str s,PV.fn 46 []]++List.replicate (Tryz.f45.ntmps - [PV.str s,PV.fn 46 []].length) PV.top=f0R s:=by kernel_rfl
   rw [hs];simp only at hx;unfold finR at hx;split at hx
   ·rename_i a b c r' m hv;split at hx
    ·rename_i hr;simp only [Option.some.injEq] at hx;subst hx;refine⟨.ret,.ret,_,_,_,s6R 0 [.str a,.sl (qaa b) .non,.sl (qaa c) .non] [.sl [] .non,.int .i64 m],[.agg [.str a,.sl (qaa b) .non,.sl (qaa c) .non],.int .i64 0,.int .i64 0],qIY s r n hw hv (q:=some (.ret,(f8R ((f7R s r n).set 29 (.agg [.str a,.sl (qaa b) .non,.sl (qaa c) .non])) [] false).set 39 (.agg [.str a,.sl (qaa b) .non,.sl (qaa c) .non]),s6R 0 [.str a,.sl (qaa b) .non,.sl (qaa c) .non] [.sl [] .non,.int .i64 m],d2R)) (by rw [hr];exact qME s r n a b c m),.inl ⟨rfl,rfl⟩,?_,by kernel_rfl,by kernel_rfl⟩
     exact .cons (qI6 gl _ _ _ _) (.cons (qL8 gl _ _ _) (.nil _))
    ·rename_i x rr hr;obtain⟨at_,c',os,tk,ts,hb,hwf,rfl⟩:=qf7 hx;refine⟨_,.pan (.iface 172 (.agg [.int .i64 at_])),_,_,_,⟨[[.str [],.sl [] .full,.sl [] .full],[.int .i64 at_],[.int .i64 130],qaV c',[.int .i64 at_],[.str [],.sl [] .full,.sl [] .full]],[],[51,3,28,138,172,51]⟩,[.agg [.str [],.sl [] .full,.sl [] .full],.int .i64 at_,.int .i64 130],qIY s r n hw hv (q:=some (.pan (.iface 172 (.agg [.int .i64 at_])),(f8R ((f7R s r n).set 29 (.agg [.str a,.sl (qaa b) .non,.sl (qaa c) .non])) (x::rr) true).set 37 (.ptr 3 0),s6R n [.str a,.sl (qaa b) .non,.sl (qaa c) .non] (qaV c'),d2R)) (by rw [hr];exact qJ3 s r n a b c rr m x hb),.inr ⟨_,rfl,rfl⟩,?_,by kernel_rfl,by kernel_rfl⟩
     exact .cons (qBf gl _ _ _ _ _ hwf) (.cons (qLC gl a (qaa b) (qaa c) _ _ _) (.nil _))
   ·obtain⟨at_,c',os,tk,ts,hb,hwf,rfl⟩:=qf7 hx;refine⟨_,.pan (.iface 172 (.agg [.int .i64 at_])),_,_,_,⟨[[.str [],.sl [] .full,.sl [] .full],[.int .i64 at_],[.int .i64 130],qaV c',[.int .i64 at_],[.str [],.sl [] .full,.sl [] .full]],[],[51,3,28,138,172,51]⟩,[.agg [.str [],.sl [] .full,.sl [] .full],.int .i64 at_,.int .i64 130],qMw s r n hw hb,.inr ⟨_,rfl,rfl⟩,?_,by kernel_rfl,by kernel_rfl⟩
    exact .cons (qBf gl _ _ _ _ _ hwf) (.cons (qG3 gl _ _ _) (.nil _))
  ·cases hx
 ·cases hx
theorem qI7 (gl:Gl) (hg:GlLex gl):SimP Tryz.prog gl 45 FwR:=by
 refine SimP.or (qLQ gl hg) (qMi gl hg) fun args x hx=>?_
 unfold FwR at hx;split at hx
 ·rename_i s;cases he:qsp (qaB [.str s]).run with
  |true=>exact .inl (by simp only [FwR1,he,hx])
  |false=>exact .inr (by simp only [FwR2,he,hx])
 ·cases hx
section
variable (s : List UInt8) (r : List (List PV)) (n e : Int)
variable (hw : (qaB [.str s]).run = some (.tup [.sl r .non, .int .i64 n, .int .i64 e]))
include hw
end
section
variable (s : List UInt8) (r : List (List PV)) (n e : Int)
variable  (a : List UInt8) (b : List (List PV)) (rr : List (List PV)) (m : Int)
end
end Go.Pv
set_option maxHeartbeats 4000000
set_option maxRecDepth 200000
set_option linter.unusedVariables false
set_option linter.unusedSimpArgs false
namespace Go.Pv
open Go Go.Proofs
def qHS (s:qU):qR:=gRow (gAt (gCs (gAt (gCs (gVal (outP s))) 0)) 0)
def qIN (s:qU):qR:=gRow (gAt (gCs (gAt (gCs (gVal (outP s))) 0)) 1)
def qHs (s:qU):qR:=gRow (gAt (gCs (gAt (gCs (gVal (outP s))) 0)) 2)
def wP_n (s:qU):Int:=gInt (gAt (gCs (gVal (outP s))) 1)
def wP_e (s:qU):Int:=gInt (gAt (gCs (gVal (outP s))) 2)
def qEa (s:qU):Bool:=isW (outP s) (.tup [.agg [.sl (qHS s) .non,.sl (qIN s) .non,.sl (qHs s) .non],.int .i64 (wP_n s),.int .i64 (wP_e s)])
def F_wP:List PV→Tr PV
 |[.str s,.fn 34 []]=>.ite (qEa s) (.ret (.tup [.agg [.sl (qHS s) .non,.sl (qIN s) .non,.sl (qHs s) .non],.int .i64 (wP_n s),.int .i64 (wP_e s)])) .fail
 |_=>.fail
theorem qHu (gl:Gl) (hg:GlLex gl):SimP Tryz.prog gl 33 fun args=>(F_wP args).run:=by
 refine⟨(qJk gl hg).ent,fun args x hx=>(qJk gl hg).run args x ?_⟩
 unfold F_wP at hx;split at hx
 ·exact qad hx fun h=>by cases h
 ·cases hx
def qHg (s:qU):qU:=gStr (gAt (gCs (gAt (gCs (gVal (outR s))) 0)) 0)
def qHX (s:qU):qR:=gRow (gAt (gCs (gAt (gCs (gVal (outR s))) 0)) 1)
def qHh (s:qU):qR:=gRow (gAt (gCs (gAt (gCs (gVal (outR s))) 0)) 2)
def wR_n (s:qU):Int:=gInt (gAt (gCs (gVal (outR s))) 1)
def wR_e (s:qU):Int:=gInt (gAt (gCs (gVal (outR s))) 2)
def qDT (s:qU):Bool:=isW (outR s) (.tup [.agg [.str (qHg s),.sl (qHX s) .non,.sl (qHh s) .non],.int .i64 (wR_n s),.int .i64 (wR_e s)])
def F_wR:List PV→Tr PV
 |[.str s,.fn 46 []]=>.ite (qDT s) (.ret (.tup [.agg [.str (qHg s),.sl (qHX s) .non,.sl (qHh s) .non],.int .i64 (wR_n s),.int .i64 (wR_e s)])) .fail
 |_=>.fail
theorem qHv (gl:Gl) (hg:GlLex gl):SimP Tryz.prog gl 45 fun args=>(F_wR args).run:=by
 refine⟨(qI7 gl hg).ent,fun args x hx=>(qI7 gl hg).run args x ?_⟩
 unfold F_wR at hx;split at hx
 ·exact qad hx fun h=>by cases h
 ·cases hx
end Go.Pv
set_option maxHeartbeats 4000000
set_option maxRecDepth 200000
set_option linter.unusedSimpArgs false
set_option linter.unusedVariables false
namespace Go.Pv
open Go Go.Proofs
def qyO:GamT:=ofL [(33,.pure F_wP)]
theorem qGd (gl:Gl) (hg:GlLex gl):qam Tryz.prog gl (gam qyO):=(qae (qHu gl hg) qag)
def qE8:LpsT:=fun r fr σ=>.fail
def quy (s:qU):Tr PV:=.ite (qEa s) (.ret (.tup [.agg [.sl (qaa (qHS s)) .non,.sl (qaa (qIN s)) .non,.sl (qaa (qHs s)) .non],.int .i64 (wP_n s),.int .i64 (wP_e s)])) .fail
theorem qLz (s:qU):(tcall tbT qyO qE8 Tryz.f11 [.str s]).flat=quy s:=by kernel_rfl
def qhi (s:qU):Option PV:=(quy s).run
def qyv (s:qU):qR:=(gRow (gAt (gCs (gAt (gCs (gVal (qhi s))) 0)) 0))
def qt3 (s:qU):qR:=(gRow (gAt (gCs (gAt (gCs (gVal (qhi s))) 0)) 1))
def qur (s:qU):qR:=(gRow (gAt (gCs (gAt (gCs (gVal (qhi s))) 0)) 2))
def qv7 (s:qU):Int:=(gInt (gAt (gCs (gVal (qhi s))) 1))
def qou (s:qU):Int:=(gInt (gAt (gCs (gVal (qhi s))) 2))
def qrS (s:qU):Bool:=isW (qhi s) (.tup [.agg [.sl (qyv s) .non,.sl (qt3 s) .non,.sl (qur s) .non],.int .i64 (qv7 s),.int .i64 (qou s)])
def qzS:List PV→Tr PV|[.str s]=>.ite (qrS s) (.ret (.tup [.agg [.sl (qyv s) .non,.sl (qt3 s) .non,.sl (qur s) .non],.int .i64 (qv7 s),.int .i64 (qou s)])) (.fail)|_=>.fail
theorem qGu (gl:Gl) (hg:GlLex gl):SimP Tryz.prog gl 11 fun args=>(qzS args).run:=by
 refine SimP.of_flat (G:=qyO) (L:=qE8) qak (qGd gl hg ) qah  Tryz.func11 rfl (by rfl) (by kernel_rfl) (qac (by kernel_rfl)) ?_
 intro args x h;unfold qzS at h
 split at h
 ·exact (congrArg Tr.run (qLz _)).trans (qad h fun h=>by cases h)
 ·cases h
def qyZ:GamT:=ofL [(45,.pure F_wR)]
theorem qFw (gl:Gl) (hg:GlLex gl):qam Tryz.prog gl (gam qyZ):=(qae (qHv gl hg) qag)
def qEh:LpsT:=fun r fr σ=>.fail
def qwC (s:qU):Tr PV:=.ite (qDT s) (.ret (.tup [.agg [.str (qHg s),.sl (qaa (qHX s)) .non,.sl (qaa (qHh s)) .non],.int .i64 (wR_n s),.int .i64 (wR_e s)])) .fail
theorem qL3 (s:qU):(tcall tbT qyZ qEh Tryz.f16 [.str s]).flat=qwC s:=by kernel_rfl
def qhp (s:qU):Option PV:=(qwC s).run
def qud (s:qU):qU:=(gStr (gAt (gCs (gAt (gCs (gVal (qhp s))) 0)) 0))
def qAa (s:qU):qR:=(gRow (gAt (gCs (gAt (gCs (gVal (qhp s))) 0)) 1))
def qpD (s:qU):qR:=(gRow (gAt (gCs (gAt (gCs (gVal (qhp s))) 0)) 2))
def qzK (s:qU):Int:=(gInt (gAt (gCs (gVal (qhp s))) 1))
def qpc (s:qU):Int:=(gInt (gAt (gCs (gVal (qhp s))) 2))
def qra (s:qU):Bool:=isW (qhp s) (.tup [.agg [.str (qud s),.sl (qAa s) .non,.sl (qpD s) .non],.int .i64 (qzK s),.int .i64 (qpc s)])
def qzw:List PV→Tr PV|[.str s]=>.ite (qra s) (.ret (.tup [.agg [.str (qud s),.sl (qAa s) .non,.sl (qpD s) .non],.int .i64 (qzK s),.int .i64 (qpc s)])) (.fail)|_=>.fail
theorem qDQ (gl:Gl) (hg:GlLex gl):SimP Tryz.prog gl 16 fun args=>(qzw args).run:=by
 refine SimP.of_flat (G:=qyZ) (L:=qEh) qak (qFw gl hg ) qah  Tryz.func16 rfl (by rfl) (by kernel_rfl) (qac (by kernel_rfl)) ?_
 intro args x h;unfold qzw at h
 split at h
 ·exact (congrArg Tr.run (qL3 _)).trans (qad h fun h=>by cases h)
 ·cases h
end Go.Pv
set_option linter.unusedSimpArgs false
set_option linter.unusedVariables false
namespace Go.Pv
end Go.Pv
set_option linter.unusedSimpArgs false
set_option linter.unusedVariables false
namespace Go.Pv
theorem qH1 {α ρ:Type} [DecidableEq α] {l m:List α} (hlen:l.length=m.length) {V:Nat→ρ} (good bad:ρ)
  (hsame:∀ (i:Nat) (hi:i < l.length) (hj:i < m.length),l[i]=m[i]→V i=V (i+1))
  (hdiff:∀ (i:Nat) (hi:i < l.length) (hj:i < m.length),l[i]≠m[i]→V i=bad)
  (hend:V l.length=good):V 0=if l=m then good else bad:=by
 have key:∀ (k i:Nat),i+k=l.length→V i=if l.drop i=m.drop i then good else bad:=by
  intro k
  induction k with
  |zero =>
   intro i hi;have:i=l.length:=by omega
   subst this;have h1:l.drop l.length=[]:=List.drop_eq_nil_of_le (Nat.le_refl _);have h2:m.drop l.length=[]:=List.drop_eq_nil_of_le (by omega)
   rw [h1,h2,if_pos rfl];exact hend
  |succ k ih =>
   intro i hi;have h1:i < l.length:=by omega
   have h2:i < m.length:=by omega
   rw [List.drop_eq_getElem_cons h1,List.drop_eq_getElem_cons h2];by_cases h:l[i]=m[i]
   ·rw [hsame i h1 h2 h,ih (i+1) (by omega),h]
    by_cases h3:l.drop (i+1)=m.drop (i+1)
    ·rw [if_pos h3,if_pos (by rw [h3])]
    ·rw [if_neg h3,if_neg (fun e=>h3 (List.cons.inj e).2)]
   ·rw [hdiff i h1 h2 h,if_neg (fun e=>h (List.cons.inj e).1)]
 simpa using key l.length 0 (by omega)
end Go.Pv
set_option maxHeartbeats 4000000
set_option linter.unusedSimpArgs false
set_option linter.unusedVariables false
namespace Go.Pv
open Go.RowKit
def swp (i k:Nat):Nat:=if k=i then i+1 else if k=i+1 then i else k
theorem qys (i k:Nat):swp i (swp i k)=k:=by
 unfold swp
 repeat' split
 all_goals omega
theorem qI9 {i k n:Nat} (hi:i+1 < n) (hk:k < n):swp i k < n:=by
 unfold swp
 repeat' split
 all_goals omega
theorem qsx {i k:Nat} (h1:k≠i) (h2:k≠i+1):swp i k=k:=by
 unfold swp;rw [if_neg h1,if_neg h2]
def eA (i k:Nat) (o:Oper):Oper:=if k=i+1 then { o with after:=o.after.push ⟨i,.data⟩ } else o
def opsA (i:Nat) (ops:Array Oper):Array Oper:=ops.mapIdx fun k o=>eA i k o
def eB (i k:Nat) (o:Oper):Oper:={ o with after:=(o.after.map fun e=>{ e with on:=swp i e.on })++(if k=i+1 then #[⟨i,.data⟩] else #[]) }
def opsB (i:Nat) (ops:Array Oper):Array Oper:=ops.mapIdx fun k o=>eB i k ((ops[swp i k]?).getD o)
def qjY (i:Nat) (ops:Array Oper):Bool:=ops.toList.all fun o=>match o.guard with
 |some (g,_)=>!Nat.beq g i&&!Nat.beq g (i+1)
 |none=>true
theorem atA (i:Nat) (ops:Array Oper) (k:Nat):(opsA i ops)[k]?=(ops[k]?).map (eA i k):=by
 unfold opsA;rw [Array.getElem?_mapIdx]
theorem atB {i:Nat} {ops:Array Oper} (hi:i+1 < ops.size) {k:Nat} {o:Oper} (h:ops[k]?=some o):(opsB i ops)[swp i k]?=some (eB i (swp i k) o):=by
 have hk:k < ops.size:=by
  have:=Array.getElem?_eq_some_iff.1 h;exact this.1
 unfold opsB;rw [Array.getElem?_mapIdx,Array.getElem?_eq_getElem (qI9 hi hk),qys,h];rfl
theorem qL1 (i k:Nat) (o:Oper):∃ x,eA i k o={ o with after:=x }:=by
 unfold eA;split
 ·exact⟨_,rfl⟩
 ·exact⟨o.after,rfl⟩
theorem qzZ (i:Nat) (ops:Array Oper):(opsA i ops).size=ops.size:=by simp [opsA]
theorem qsa (i:Nat) (ops:Array Oper):(opsB i ops).size=ops.size:=by simp [opsB]
theorem qtx {i:Nat} {ops:Array Oper} (h:qjY i ops=true) {k:Nat} {o:Oper} (ho:ops[k]?=some o) {g:Nat} {b:Bool} (hg:o.guard=some (g,b)):g≠i∧g≠i+1:=by
 unfold qjY at h
 rw [List.all_eq_true] at h
 have h1:=h o (by
  rw [Array.mem_toList_iff];exact Array.mem_of_getElem? ho)
 rw [hg] at h1;simp only [Bool.and_eq_true,Bool.not_eq_true'] at h1;exact⟨Nat.ne_of_beq_eq_false h1.1,Nat.ne_of_beq_eq_false h1.2⟩
theorem qb1 {ops:Array Oper} {listed:Array Bool} (hs:listed.size=ops.size) {k:Nat}:k∈Region.ready .any ops listed↔∃ o,ops[k]?=some o∧¬ In listed k∧∀ e∈o.after.toList,Region.binds .any e=true→In listed e.on:=by
 unfold Region.ready;rw [List.mem_filter,List.mem_range];constructor
 ·rintro⟨hk,hk'⟩;have hb:k < listed.size:=by omega
  have e2:ops[k]?=some ops[k]:=Array.getElem?_eq_getElem hk;simp only [e2,Option.map_some,Option.getD_some,Bool.and_eq_true,Bool.not_eq_true'] at hk';obtain⟨hk1,hk2⟩:=hk';refine⟨_,e2,?_,?_⟩
  ·rw [Array.getD_eq_getD_getElem?,Array.getElem?_eq_getElem hb] at hk1;unfold In;rw [Array.getD_eq_getD_getElem?,Array.getElem?_eq_getElem hb];simpa using hk1
  ·intro e he hbd;have:=Array.all_eq_true'.1 hk2 e (Array.mem_toList_iff.1 he);simpa [hbd,In] using this
 ·rintro⟨o,ho,hn,he⟩;have hk:k < ops.size:=(Array.getElem?_eq_some_iff.1 ho).1;have hb:k < listed.size:=by omega
  refine⟨hk,?_⟩;simp only [ho,Option.map_some,Option.getD_some,Bool.and_eq_true,Bool.not_eq_true'];constructor
  ·unfold In at hn;rw [Array.getD_eq_getD_getElem?,Array.getElem?_eq_getElem hb] at hn ⊢;simpa using hn
  ·rw [Array.all_eq_true'];intro e hm;cases hbd:Region.binds .any e with
   |false=>rfl
   |true =>
    have:=he e (Array.mem_toList_iff.2 hm) hbd;simpa [In] using this
section
variable {F : Fence} {n : Nat} {P : Program} {Q : Exit → Act → World → Prop}
theorem qwW {ops ops2:Array Oper} (hsz:ops2.size=ops.size) (π:Nat→Nat) (hπ:∀ k,π (π k)=k) (hlt:∀ k,k < ops.size→π k < ops.size) (j:Nat)
  (hop:∀ (K:Act→World→Prop) k a w,wpOpIn F n P ops2 Q (π k) K a w→wpOpIn F n P ops Q k K a w)
  (hr:∀ listed listed2:Array Bool,listed.size=ops.size→listed2.size=ops2.size→(∀ k,In listed2 (π k)↔In listed k)→In listed j→∀ k,(k∈Region.ready .any ops listed↔π k∈Region.ready .any ops2 listed2)) :
  ∀ (fuel:Nat) (listed listed2:Array Bool) (a:Act) (w:World),listed.size=ops.size→listed2.size=ops2.size→(∀ k,In listed2 (π k)↔In listed k)→In listed j→wpAnyIn F n P .any ops2 Q fuel listed2 a w→wpAnyIn F n P .any ops Q fuel listed a w:=by
 intro fuel
 induction fuel with
 |zero =>
  intro l l2 a w h1 h2 h3 h4 h;refine⟨List.eq_nil_iff_forall_not_mem.2 fun k hk=>?_,h.2⟩
  have:=(hr l l2 h1 h2 h3 h4 k).1 hk;rw [h.1] at this;cases this
 |succ fuel ih =>
  intro l l2 a w h1 h2 h3 h4 h;refine⟨fun hn=>h.1 (List.eq_nil_iff_forall_not_mem.2 fun k hk=>?_),fun k hk=>?_⟩
  ·have:=(hr l l2 h1 h2 h3 h4 (π k)).2 (by rw [hπ];exact hk)
   rw [hn] at this;cases this
  ·have hk2:=(hr l l2 h1 h2 h3 h4 k).1 hk;obtain⟨o,ho,_⟩:=(qb1 h1).1 hk;have hkl:k < ops.size:=(Array.getElem?_eq_some_iff.1 ho).1;refine hop _ k a w (wpOpIn_mono (fun a' w' h'=>ih _ _ a' w' (by simp [h1]) (by simp [h2]) (fun m=>?_) ?_ h') (h.2 _ hk2))
   ·rw [qbk (by have:=hlt k hkl;omega),qbk (by omega),h3]
    constructor
    ·rintro (h|h)
     ·exact .inl (by rw [← hπ m,h,hπ])
     ·exact .inr h
    ·rintro (rfl|h)
     ·exact .inl rfl
     ·exact .inr h
   ·exact (qbk (by omega)).2 (.inr h4)
theorem qIM (i:Nat) (ops:Array Oper) (t:Array Value):yielded (opsA i ops) t=yielded ops t:=by
 funext g
 unfold yielded;rw [atA];cases h:ops[g]? with
 |none=>rfl
 |some o =>
  obtain⟨x,hx⟩:=qL1 i g o;simp only [Option.map_some,Option.bind_some,hx]
theorem qGW {i:Nat} {ops:Array Oper} (hi:i+1 < ops.size) (t:Array Value) {g:Nat} (h1:g≠i) (h2:g≠i+1):yielded (opsB i ops) t g=yielded ops t g:=by
 unfold yielded;cases h:ops[g]? with
 |none =>
  have:(opsB i ops)[g]?=none:=by
   rw [Array.getElem?_eq_none_iff] at h ⊢;rw [qsa];exact h
  rw [this]
 |some o =>
  have:=atB hi h;rw [qsx h1 h2] at this;rw [this];rfl
theorem opA (i:Nat) (ops:Array Oper) (K:Act→World→Prop) (k:Nat) (a:Act) (w:World) (h:wpOpIn F n P (opsA i ops) Q k K a w):wpOpIn F n P ops Q k K a w:=by
 unfold wpOpIn at h ⊢;rw [atA,qIM] at h
 cases ho:ops[k]? with
 |none=>rw [ho] at h;exact h
 |some o =>
  obtain⟨x,hx⟩:=qL1 i k o;rw [ho] at h
  simp only [Option.map_some,hx] at h
  exact h
theorem opB {i:Nat} {ops:Array Oper} (hi:i+1 < ops.size) (hg:qjY i ops=true) (K:Act→World→Prop) (k:Nat) (a:Act) (w:World) (h:wpOpIn F n P (opsB i ops) Q (swp i k) K a w):wpOpIn F n P ops Q k K a w:=by
 unfold wpOpIn at h ⊢;cases ho:ops[k]? with
 |none =>
  have hk:ops.size≤k:=by rwa [Array.getElem?_eq_none_iff] at ho
  have:(opsB i ops)[swp i k]?=none:=by
   rw [qsx (by omega) (by omega),Array.getElem?_eq_none_iff,qsa]
   exact hk
  rw [this] at h
  exact h
 |some o =>
  rw [atB hi ho] at h
  have hw:Region.wanted (eB i (swp i k) o) (yielded (opsB i ops) a.tmps)=Region.wanted o (yielded ops a.tmps):=by
   unfold Region.wanted;have e:(eB i (swp i k) o).guard=o.guard:=rfl;rw [e];cases hgd:o.guard with
   |none=>rfl
   |some gb =>
    obtain⟨g,b⟩:=gb;obtain⟨h1,h2⟩:=qtx hg ho hgd;simp only [qGW hi a.tmps h1 h2]
  simp only [hw] at h
  exact h
theorem simA (i:Nat) (ops:Array Oper) (fuel:Nat) (listed:Array Bool) (a:Act) (w:World) (hs:listed.size=ops.size) (hin:In listed i) (h:wpAnyIn F n P .any (opsA i ops) Q fuel listed a w):wpAnyIn F n P .any ops Q fuel listed a w:=by
 refine qwW (qzZ i ops) id (fun _=>rfl) (fun _ h=>h) i (opA i ops) ?_ fuel listed listed a w hs (by rw [qzZ,hs]) (fun _=>Iff.rfl) hin h
 intro l l2 h1 h2 h3 h4 k;have h3:∀ k,In l2 k↔In l k:=h3;rw [qb1 h1,qb1 h2];show _↔∃ o,(opsA i ops)[k]?=some o∧_
 rw [atA];constructor
 ·rintro⟨o,ho,hn,he⟩;refine⟨eA i k o,by rw [ho];rfl,fun h=>hn ((h3 k).1 h),fun e he' hb=>(h3 _).2 ?_⟩
  unfold eA at he';split at he'
  ·simp only [Array.toList_push,List.mem_append,List.mem_singleton] at he';rcases he' with he'|rfl
   ·exact he e he' hb
   ·exact h4
  ·exact he e he' hb
 ·rintro⟨o2,ho2,hn,he⟩;cases ho:ops[k]? with
  |none=>rw [ho] at ho2;cases ho2
  |some o =>
   rw [ho] at ho2;simp only [Option.map_some,Option.some.injEq] at ho2;subst ho2;refine⟨o,rfl,fun h=>hn ((h3 k).2 h),fun e he' hb=>(h3 _).1 (he e ?_ hb)⟩
   unfold eA;split
   ·simp only [Array.toList_push,List.mem_append];exact .inl he'
   ·exact he'
theorem simB {i:Nat} {ops:Array Oper} (hi:i+1 < ops.size) (hg:qjY i ops=true) (fuel:Nat) (listed listed2:Array Bool) (a:Act) (w:World) (hs:listed.size=ops.size) (hs2:listed2.size=ops.size) (hin:In listed (i+1)) (hl:∀ k,In listed2 (swp i k)↔In listed k)
  (h:wpAnyIn F n P .any (opsB i ops) Q fuel listed2 a w):wpAnyIn F n P .any ops Q fuel listed a w:=by
 refine qwW (qsa i ops) (swp i) (qys i) (fun _ h=>qI9 hi h) (i+1) (opB hi hg) ?_ fuel listed listed2 a w hs (by rw [qsa,hs2]) hl hin h
 intro l l2 h1 h2 h3 h4 k;have h5:In l2 i:=by
  have:=(h3 (i+1)).2 h4;simpa [swp] using this
 rw [qb1 h1,qb1 h2];constructor
 ·rintro⟨o,ho,hn,he⟩;refine⟨_,atB hi ho,fun h=>hn ((h3 k).1 h),fun e he' hb=>?_⟩
  simp only [eB,Array.toList_append,Array.toList_map,List.mem_append,List.mem_map] at he';rcases he' with⟨e0,he0,rfl⟩|he'
  ·exact (h3 _).2 (he e0 he0 hb)
  ·split at he'
   ·simp at he';subst he';exact h5
   ·simp at he'
 ·rintro⟨o2,ho2,hn,he⟩;cases ho:ops[k]? with
  |none =>
   have hk:ops.size≤k:=by rwa [Array.getElem?_eq_none_iff] at ho
   have:(opsB i ops)[swp i k]?=none:=by
    rw [qsx (by omega) (by omega),Array.getElem?_eq_none_iff,qsa]
    exact hk
   rw [this] at ho2;cases ho2
  |some o =>
   rw [atB hi ho] at ho2;cases ho2
   refine⟨o,rfl,fun h=>hn ((h3 k).2 h),fun e he' hb=>(h3 _).1 (he { e with on:=swp i e.on } ?_ hb)⟩
   simp only [eB,Array.toList_append,Array.toList_map,List.mem_append,List.mem_map];exact .inl ⟨e,he',rfl⟩
end
section
variable {P : Program} {tb : Tab} {gl : Gl} {Γ : Gam} {H0 : Gh} {w0 : World} {Q : Exit → Act → World → Prop}
theorem qA7 {b:Bool} {ops:List Oper} (hord:qbt b Γ ops=true) {F:Nat→List PV} {S:Nat→Store} {X:Nat→PV} (ht:Trace tb Γ ops ops F S X)
  (hfree:∀ (k i:Nat) (o:Oper),ops[k]?=some o→reads Γ o=true→qa2 b Γ o=false→i≤ops.length→pop tb Γ (F k) (S k) o=some (X k,S (k+1))→pop tb Γ (F k) (S i) o=some (X k,S i))
  {listed:Array Bool} {fr:List PV} {σ:Store} (hI:Inv Γ ops F S listed fr σ) {k:Nat} {o:Oper} (hko:ops[k]?=some o) (hb:k < listed.size) (hn:¬ In listed k) (he:∀ e∈o.after.toList,Region.binds .any e=true→In listed e.on) :
  ∃ x σ',((pwanted ops fr o=some false∧x=.tup []∧σ'=σ)∨(pwanted ops fr o=some true∧pop tb Γ fr σ o=some (x,σ')))∧Inv Γ ops F S (listed.setIfInBounds k true) (pput fr o.dst x) σ':=by
 obtain⟨hsee,hsto⟩:=hI.sees hord hko hn he;have hwan:pwanted ops fr o=pwanted ops (F k) o:=by
  unfold pwanted;cases hg:o.guard with
  |none=>rfl
  |some jb =>
   obtain⟨j,b⟩:=jb;simp only [];cases hd:(ops[j]?).bind (·.dst) with
   |none=>rfl
   |some d =>
    have:fr[d]?=(F k)[d]?:=hsee d (by simp [looks,hg,hd])
    simp only [Option.bind_some,this]
 have hpop:∀ s,pop tb Γ fr s o=pop tb Γ (F k) s o:=by
  intro s;refine qGK fun x hx=>?_
  cases x with
  |tmp t =>
   have:fr[t]?=(F k)[t]?:=hsee t (by
    simp only [looks,List.mem_append,List.mem_filterMap];exact .inl ⟨_,hx,rfl⟩)
   simp only [ev,List.getD_eq_getElem?_getD,this]
  |const v=>rfl
  |global g=>rfl
  |func f=>rfl
 rcases (ht.at_ k o hko).1 with⟨hw,hx,hS⟩|⟨hw,hp⟩
 ·refine⟨.tup [],σ,.inl ⟨hwan.trans hw,rfl,rfl⟩,?_⟩;have:=hI.next hord ht hko hb hn he (σ':=σ) ⟨fun hwr=>?_,fun _=>rfl⟩
  ·rw [hx] at this;exact this
  ·rw [hS];exact hsto (by simp [qa2,hwr])
 ·cases hr:qa2 b Γ o with
  |true =>
   have hs':=hsto hr;have hp':pop tb Γ fr σ o=some (X k,S (k+1)):=by rw [hpop,hs'];exact hp
   refine⟨X k,S (k+1),.inr ⟨hwan.trans hw,hp'⟩,hI.next hord ht hko hb hn he ⟨fun _=>rfl,fun hwf=>?_⟩⟩
   rw [qdZ hwf hp,hs']
  |false =>
   have hwf:writes Γ o=false:=by
    cases hwr:writes Γ o with
    |false=>rfl
    |true=>simp [qa2,hwr] at hr
   have hp':pop tb Γ fr σ o=some (X k,σ):=by
    rw [hpop];cases hr0:reads Γ o with
    |false=>exact qqh hr0 hp σ
    |true =>
     obtain⟨i,hi,rfl⟩:=hI.someS hord;exact hfree k i _ hko hr0 hr hi hp
   refine⟨X k,σ,.inr ⟨hwan.trans hw,hp'⟩,hI.next hord ht hko hb hn he ⟨fun h=>?_,fun _=>rfl⟩⟩
   rw [hwf] at h
   cases h
theorem qEL (n i:Nat):¬ In (Array.replicate n false) i:=by
 unfold In;rw [Array.getD_eq_getD_getElem?];by_cases hi:i < n
 ·simp [Array.getElem?_replicate,hi]
 ·simp [Array.getElem?_replicate,hi]
theorem inv0 {ops:List Oper} {F:Nat→List PV} {S:Nat→Store} {X:Nat→PV} (ht:Trace tb Γ ops ops F S X) (n:Nat):Inv Γ ops F S (Array.replicate n false) (F 0) (S 0) :=
 ⟨rfl,fun j o hj=>absurd hj (qEL n j),fun t i hi hlo hhi=>by
  rw [ht.still (i:=0) (j:=i) (Nat.zero_le _) hi (fun k o _ hk ho hd=>qEL n k (hlo k o hk ho hd))],fun i hi hlo hhi=>by
  rw [ht.stillS (i:=0) (j:=i) (Nat.zero_le _) hi (fun k o _ hk ho=>by
   cases hw:writes Γ o with
   |false=>rfl
   |true=>exact absurd (hlo k o hk ho hw) (qEL n k))]⟩
structure Told (tb:Tab) (Γ:Gam) (ops:Array Oper) (b:Bool) (F:Nat→List PV) (S:Nat→Store) (X:Nat→PV):Prop where
 ord:qbt b Γ ops.toList=true
 tr:Trace tb Γ ops.toList ops.toList F S X
 free:∀ (k i:Nat) (o:Oper),ops.toList[k]?=some o→reads Γ o=true→qa2 b Γ o=false→i≤ops.size→pop tb Γ (F k) (S k) o=some (X k,S (k+1))→pop tb Γ (F k) (S i) o=some (X k,S i)
theorem qEM {ops:Array Oper} {fr fr':List PV} {σ σ':Store} (h:pops tb Γ ops.toList ops.toList fr σ=some (fr',σ')) (hd:ordered Γ ops.toList=true∨(qbt true Γ ops.toList=true∧qdb Γ ops.toList fr' σ.objs.length=true)) :
  ∃ b F S X,Told tb Γ ops b F S X∧F 0=fr∧S 0=σ∧F ops.size=fr'∧S ops.size=σ':=by
 obtain⟨F,S,X,hF,hS,hF',hS',ht⟩:=qmb _ _ _ _ _ h;rcases hd with h1|⟨h1,h2⟩
 ·exact⟨false,F,S,X,⟨h1,ht,fun k i o hk hr hf=>by
   unfold reads at hr;rw [hf] at hr;cases hr⟩,hF,hS,by simpa using hF',by simpa using hS'⟩
 ·refine⟨true,F,S,X,⟨h1,ht,fun k i o hk hr hf hi hp=>qtf ht ?_ k i o hk hr hf (by simpa using hi) hp⟩,hF,hS,by simpa using hF',by simpa using hS'⟩
  rw [hF',hS];exact h2
theorem qFh (hT:qaE P tb) (hΓ:qam P gl Γ) {ops:Array Oper} {i:Nat} (hi:i+1 < ops.size) (hg:qjY i ops=true)
  {bA bB:Bool} {FA FB:Nat→List PV} {SA SB:Nat→Store} {XA XB:Nat→PV} (hA:Told tb Γ (opsA i ops) bA FA SA XA) (hB:Told tb Γ (opsB i ops) bB FB SB XB)
  (hqA:∀ a' w',St gl H0 w0 (FA ops.size) (SA ops.size) a' w'→Q .normal a' w') (hqB:∀ a' w',St gl H0 w0 (FB ops.size) (SB ops.size) a' w'→Q .normal a' w') :
  ∀ (fuel:Nat) (listed:Array Bool) (fr:List PV) (σ:Store) (a:Act) (w:World),listed.size=ops.size→listed.toList.count false≤fuel→¬ In listed i→¬ In listed (i+1)→Inv Γ (opsA i ops).toList FA SA listed fr σ→Inv Γ (opsB i ops).toList FB SB listed fr σ→St gl H0 w0 fr σ a w→∀ (r:Option Nat) (n:Nat),wpAnyIn (rnd r) n P .any ops Q fuel listed a w:=by
 have dA:∀ (fuel:Nat) (listed:Array Bool) (fr:List PV) (σ:Store) (a:Act) (w:World),listed.size=ops.size→listed.toList.count false≤fuel→Inv Γ (opsA i ops).toList FA SA listed fr σ→St gl H0 w0 fr σ a w→∀ (r:Option Nat) (n:Nat),wpAnyIn (rnd r) n P .any (opsA i ops) Q fuel listed a w :=
  fun fuel listed fr σ a w hs=>qqS hT hΓ hA.ord hA.tr hA.free (by rw [qzZ];exact hqA) fuel listed fr σ a w (by rw [qzZ];exact hs)
 have dB:∀ (fuel:Nat) (listed:Array Bool) (fr:List PV) (σ:Store) (a:Act) (w:World),listed.size=ops.size→listed.toList.count false≤fuel→Inv Γ (opsB i ops).toList FB SB listed fr σ→St gl H0 w0 fr σ a w→∀ (r:Option Nat) (n:Nat),wpAnyIn (rnd r) n P .any (opsB i ops) Q fuel listed a w :=
  fun fuel listed fr σ a w hs=>qqS hT hΓ hB.ord hB.tr hB.free (by rw [qsa];exact hqB) fuel listed fr σ a w (by rw [qsa];exact hs)
 have hl0:∀ listed:Array Bool,¬ In listed i→¬ In listed (i+1)→∀ k,In listed (swp i k)↔In listed k:=by
  intro listed h1 h2 k;by_cases e1:k=i
  ·subst e1;simp [swp,h1,h2]
  ·by_cases e2:k=i+1
   ·subst e2;simp [swp,h1,h2]
   ·rw [qsx e1 e2]
 intro fuel
 induction fuel with
 |zero =>
  intro listed fr σ a w hs hc h1 h2 hIA hIB hst;have hb:i < listed.size:=by omega
  have h0:false∉listed.toList:=List.count_eq_zero.1 (by omega)
  unfold In at h1;rw [Array.getD_eq_getD_getElem?,Array.getElem?_eq_getElem hb] at h1;cases hl:listed[i] with
  |true=>simp [hl] at h1
  |false=>exact absurd (by rw [← hl];simp) h0
 |succ fuel ih =>
  intro listed fr σ a w hs hc h1 h2 hIA hIB hst r n;have wA:=dA (fuel+1) listed fr σ a w hs hc hIA hst r n;have wB:=dB (fuel+1) listed fr σ a w hs hc hIB hst r n;have hsub:∀ k,k∈Region.ready .any (opsA i ops) listed→k∈Region.ready .any ops listed:=by
   intro k hk;rw [qb1 (by rw [qzZ];exact hs)] at hk
   obtain⟨o2,ho2,hn,he⟩:=hk;rw [atA] at ho2;cases ho:ops[k]? with
   |none=>rw [ho] at ho2;cases ho2
   |some o =>
    rw [ho] at ho2;simp only [Option.map_some,Option.some.injEq] at ho2;subst ho2;refine (qb1 hs).2 ⟨o,ho,hn,fun e he' hb=>he e ?_ hb⟩
    unfold eA;split
    ·simp only [Array.toList_push,List.mem_append];exact .inl he'
    ·exact he'
  refine⟨fun hnil=>wA.1 (List.eq_nil_iff_forall_not_mem.2 fun k hk=>?_),fun k hk=>?_⟩
  ·have:=hsub k hk;rw [hnil] at this;cases this
  obtain⟨o,ho,hn,he⟩:=(qb1 hs).1 hk;have hkl:k < ops.size:=(Array.getElem?_eq_some_iff.1 ho).1;by_cases e1:k=i
  ·subst e1;have hrA:k∈Region.ready .any (opsA k ops) listed:=by
    rw [qb1 (by rw [qzZ];exact hs),atA,ho]
    refine⟨_,rfl,hn,fun e he' hb=>he e ?_ hb⟩
    unfold eA at he';rw [if_neg (by omega)] at he'
    exact he'
   exact opA k ops _ k a w (wpOpIn_mono (fun a' w' h'=>simA k ops fuel _ a' w' (by simp [hs]) ((qbk (by omega)).2 (.inl rfl)) h') (wA.2 k hrA))
  by_cases e2:k=i+1
  ·subst e2;have hat:=atB hi ho;have hsw:swp i (i+1)=i:=by simp [swp]
   rw [hsw] at hat;have hrB:i∈Region.ready .any (opsB i ops) listed:=by
    rw [qb1 (by rw [qsa];exact hs)]
    refine⟨_,hat,h1,fun e he' hb=>?_⟩
    simp only [eB,Array.toList_append,Array.toList_map,List.mem_append,List.mem_map] at he';rcases he' with⟨e0,he0,rfl⟩|he'
    ·exact (hl0 listed h1 h2 _).2 (he e0 he0 hb)
    ·rw [if_neg (by omega)] at he'
     simp at he'
   refine opB hi hg _ (i+1) a w ?_;rw [hsw];refine wpOpIn_mono (fun a' w' h'=>simB hi hg fuel _ _ a' w' (by simp [hs]) (by simp [hs]) ((qbk (by omega)).2 (.inl rfl)) (fun m=>?_) h') (wB.2 i hrB)
   rw [qbk (by omega),qbk (by omega),hl0 listed h1 h2]
   constructor
   ·rintro (h|h)
    ·exact .inl (by rw [← qys i m,h];simp [swp])
    ·exact .inr h
   ·rintro (rfl|h)
    ·exact .inl hsw
    ·exact .inr h
  -- another one
  have hoA:(opsA i ops).toList[k]?=some o:=by
   rw [Array.getElem?_toList,atA,ho];simp only [Option.map_some,eA,if_neg e2]
  have hoB:(opsB i ops).toList[k]?=some (eB i k o):=by
   rw [Array.getElem?_toList];have:=atB hi ho
   rwa [qsx e1 e2] at this
  obtain⟨xA,σA,hcA,hIA'⟩:=qA7 hA.ord hA.tr (by simpa using hA.free) hIA hoA (by omega) hn he
  obtain⟨xB,σB,hcB,hIB'⟩:=qA7 hB.ord hB.tr (by simpa using hB.free) hIB hoB (by omega) hn (fun e he' hb=>by
   simp only [eB,Array.toList_append,Array.toList_map,List.mem_append,List.mem_map] at he';rcases he' with⟨e0,he0,rfl⟩|he'
   ·exact (hl0 listed h1 h2 _).2 (he e0 he0 hb)
   ·rw [if_neg e2] at he';simp at he')
  have hwA:pwanted (opsA i ops).toList fr o=pwanted ops.toList fr o:=by
   unfold pwanted;cases hgd:o.guard with
   |none=>rfl
   |some gb =>
    obtain⟨g,b⟩:=gb;simp only [];have:((opsA i ops).toList[g]?).bind (·.dst)=(ops.toList[g]?).bind (·.dst):=by
     rw [Array.getElem?_toList,Array.getElem?_toList,atA];cases ops[g]? with
     |none=>rfl
     |some y =>
      obtain⟨z,hz⟩:=qL1 i g y;simp only [Option.map_some,Option.bind_some,hz]
    rw [this]
  have hwB:pwanted (opsB i ops).toList fr (eB i k o)=pwanted ops.toList fr o:=by
   unfold pwanted;have e:(eB i k o).guard=o.guard:=rfl;rw [e];cases hgd:o.guard with
   |none=>rfl
   |some gb =>
    obtain⟨g,b⟩:=gb;obtain⟨g1,g2⟩:=qtx hg ho hgd;simp only [];have:((opsB i ops).toList[g]?).bind (·.dst)=(ops.toList[g]?).bind (·.dst):=by
     rw [Array.getElem?_toList,Array.getElem?_toList];cases hx:ops[g]? with
     |none =>
      have:(opsB i ops)[g]?=none:=by
       rw [Array.getElem?_eq_none_iff] at hx ⊢;rw [qsa];exact hx
      rw [this]
     |some y =>
      have:=atB hi hx;rw [qsx g1 g2] at this;rw [this];rfl
    rw [this]
  have hpB:pop tb Γ fr σ (eB i k o)=pop tb Γ fr σ o:=rfl;have hdB:(eB i k o).dst=o.dst:=rfl;rw [hwA] at hcA;rw [hwB,hpB] at hcB;rw [hdB] at hIB';have hcount:(listed.setIfInBounds k true).toList.count false≤fuel:=by
   have hlk:listed[k]?=some false:=by
    have hb:k < listed.size:=by omega
    unfold In at hn;rw [Array.getD_eq_getD_getElem?,Array.getElem?_eq_getElem hb] at hn;rw [Array.getElem?_eq_getElem hb];simpa using hn
   have:=qqd listed.toList k (by rw [Array.getElem?_toList];exact hlk)
   simp only [Array.toList_setIfInBounds];omega
  have hsize:(listed.setIfInBounds k true).size=ops.size:=by simp [hs]
  have n1:¬ In (listed.setIfInBounds k true) i:=by
   rw [qbk (by omega)]
   rintro (h|h)
   ·exact e1 h.symm
   ·exact h1 h
  have n2:¬ In (listed.setIfInBounds k true) (i+1):=by
   rw [qbk (by omega)]
   rintro (h|h)
   ·exact e2 h.symm
   ·exact h2 h
  unfold wpOpIn;simp only [ho];rcases hcA with⟨hw,rfl,rfl⟩|⟨hw,hp⟩
  ·rcases hcB with⟨_,rfl,rfl⟩|⟨hw',_⟩
   ·have hwn:=qbw hst hw;simp only [hwn];exact⟨fun _ _=>trivial,ih _ _ _ _ _ hsize hcount n1 n2 hIA' hIB' (qrT hst _) r n⟩
   ·rw [hw] at hw';cases hw'
  ·rcases hcB with⟨hw',_⟩|⟨_,hp'⟩
   ·rw [hw] at hw';cases hw'
   ·rw [hp] at hp';simp only [Option.some.injEq,Prod.mk.injEq] at hp';obtain⟨rfl,rfl⟩:=hp';have hwn:=qbw hst hw;simp only [hwn,if_true];exact qjp hT hΓ hst hp (fun a' w' hst'=>ih _ _ _ _ _ hsize hcount n1 n2 hIA' hIB' hst' r n) r n
theorem qvE (hT:qaE P tb) (hΓ:qam P gl Γ) (hm:P.follows .mixedOrders=true) {id i:Nat} {ops:Array Oper} (hi:i+1 < ops.size) (hg:qjY i ops=true) {fr frA frB:List PV} {σ σA σB:Store} {a:Act} {w:World} (hst:St gl H0 w0 fr σ a w)
  (hA:pops tb Γ (opsA i ops).toList (opsA i ops).toList fr σ=some (frA,σA)) (hdA:ordered Γ (opsA i ops).toList=true∨(qbt true Γ (opsA i ops).toList=true∧qdb Γ (opsA i ops).toList frA σ.objs.length=true))
  (hB:pops tb Γ (opsB i ops).toList (opsB i ops).toList fr σ=some (frB,σB)) (hdB:ordered Γ (opsB i ops).toList=true∨(qbt true Γ (opsB i ops).toList=true∧qdb Γ (opsB i ops).toList frB σ.objs.length=true))
  (hqA:∀ a' w',St gl H0 w0 frA σA a' w'→Q .normal a' w') (hqB:∀ a' w',St gl H0 w0 frB σB a' w'→Q .normal a' w') (r:Option Nat) (n:Nat):(Code.region id ops true).wpIn (rnd r) n P Q a w:=by
 refine wpIn_region_any hm ?_;obtain⟨bA,FA,SA,XA,tA,hFA,hSA,hFA',hSA'⟩:=qEM hA hdA;obtain⟨bB,FB,SB,XB,tB,hFB,hSB,hFB',hSB'⟩:=qEM hB hdB;rw [qzZ] at hFA' hSA';rw [qsa] at hFB' hSB';have iA:=inv0 tA.tr ops.size;have iB:=inv0 tB.tr ops.size;rw [hFA,hSA] at iA;rw [hFB,hSB] at iB;exact qFh hT hΓ hi hg tA tB (by rw [hFA',hSA'];exact hqA) (by rw [hFB',hSB'];exact hqB) ops.size _ fr σ _ _ (by simp) (Nat.le_trans List.count_le_length (by simp)) (qEL _ _) (qEL _ _) iA iB (qzV hst) r n
end
def hasR (id:Nat):Code→Bool
 |.region id' _ draw=>Nat.beq id' id&&draw
 |.seq x y=>hasR id x || hasR id y
 |.block _ x=>hasR id x
 |_=>false
def qbC (id i:Nat) (b:Bool):Code→Code
 |.region id' ops draw=>match Nat.beq id' id&&draw with
  |true=>.region id' (match b with|true=>opsB i ops|false=>opsA i ops) draw
  |false=>.region id' ops draw
 |.seq x y=>match hasR id x with
  |true=>.seq (qbC id i b x) y
  |false=>.seq x (qbC id i b y)
 |.block k x=>.block k (qbC id i b x)
 |c=>c
def qsM:List Oper→Bool
 |[]=>true
 |o::l=>(match o.op with
  |.panic _=>false
  |.call c=>match c.callee with
   |.value _=>false
   |_=>true
  |_=>true)&&qsM l
theorem qtr {Γ:Gam}:∀ {l:List Oper},qsM l=true→anyP Γ l=false
 |[],_=>rfl
 |o::l,h=>by
  simp only [qsM,Bool.and_eq_true] at h
  have h2:=qtr (Γ:=Γ) h.2;have h1:mayP Γ o=false:=by
   have h0:=h.1;unfold mayP;cases ho:o.op with
   |panic x=>simp only [ho] at h0;cases h0
   |call c =>
    simp only [ho] at h0 ⊢;cases hc:c.callee with
    |value f=>simp only [hc] at h0;cases h0
    |_=>rfl
   |_=>rfl
  simp only [anyP,h1,h2]
def qkv (id i:Nat):Code→Bool
 |.region id' ops draw=>!(Nat.beq id' id&&draw) || (Nat.blt (i+1) ops.size&&qjY i ops&&qsM (opsA i ops).toList&&qsM (opsB i ops).toList)
 |.seq x y=>qkv id i x&&qkv id i y
 |.block _ x=>qkv id i x
 |_=>true
section
variable {P : Program} {tb : Tab} {gl : Gl} {Γ : Gam}
def DoesO (P:Program) (gl:Gl) (c:Code) (fr:List PV) (σ:Store) (O:PExit→List PV→Store→Prop):Prop :=
 ∀ (r:Option Nat) (n:Nat) (H0:Gh) (w0:World),RIn r H0→∀ (Q:Exit→Act→World→Prop) (a:Act) (w:World),St gl H0 w0 fr σ a w→(∀ e fr' σ',O e fr' σ'→∀ a' w',St gl H0 w0 fr' σ' a' w'→Q e.as a' w')→c.wpIn (rnd r) n P Q a w
theorem Does.all {c:Code} {fr:List PV} {σ:Store} {e:PExit} {fr':List PV} {σ':Store} {O:PExit→List PV→Store→Prop} (h:Does P gl c fr σ e fr' σ') (ho:O e fr' σ'):DoesO P gl c fr σ O :=
 fun r n H0 w0 hR Q a w hst hq=>h r n H0 w0 hR Q a w hst (hq _ _ _ ho)
theorem qJe {ops:Array Oper} {fr fr1:List PV} {σ σ1:Store} {id:Nat} {e:PExit} {fr':List PV} {σ':Store} (hd:qax Γ (.region id ops true)=true) (hqt:qsM ops.toList=true) {L:Lps} (h:pexec tb Γ L (.region id ops true) fr σ=some (e,fr',σ')) :
  e=.normal∧pops tb Γ ops.toList ops.toList fr σ=some (fr',σ')∧(ordered Γ ops.toList=true∨(qbt true Γ ops.toList=true∧qdb Γ ops.toList fr' σ.objs.length=true)):=by
 have hnp:qq0 Γ ops.toList true=false:=qtr hqt;simp only [pexec,hnp] at h
 split at h
 ·rename_i fr1 σ1 hp;split at h
  ·cases h
  rename_i hna;simp only [Option.some.injEq,Prod.mk.injEq] at h
  obtain⟨rfl,rfl,rfl⟩:=h;refine⟨rfl,hp,?_⟩;simp only [qax,hnp,Bool.not_true,Bool.false_or,Bool.or_eq_true,Bool.and_eq_true] at hd;rcases hd with hd|⟨hd1,hd2⟩
  ·exact .inl hd
  ·cases ho:ordered Γ ops.toList with
   |true=>exact .inl rfl
   |false =>
    refine .inr ⟨hd2,?_⟩;cases hal:qdb Γ ops.toList fr1 σ.objs.length with
    |true=>rfl
    |false=>simp [qEZ,hd1,ho,hal] at hna
 ·cases h
theorem qhR (hT:qaE P tb) (hΓ:qam P gl Γ) (hm:P.follows .mixedOrders=true) {L:Lps} {id i:Nat} {O:PExit→List PV→Store→Prop}:∀ (c:Code) (fr:List PV) (σ:Store) (eA:PExit) (frA:List PV) (σA:Store) (eB:PExit) (frB:List PV) (σB:Store),
  qkv id i c=true→qaU P gl L c→qax Γ (qbC id i false c)=true→qax Γ (qbC id i true c)=true→pexec tb Γ L (qbC id i false c) fr σ=some (eA,frA,σA)→pexec tb Γ L (qbC id i true c) fr σ=some (eB,frB,σB)→O eA frA σA→O eB frB σB→DoesO P gl c fr σ O
 |.region id' ops draw,fr,σ,eA,frA,σA,eB,frB,σB,hp,hL,hdA,hdB,hA,hB,oA,oB=>by
  cases hid:Nat.beq id' id&&draw with
  |false =>
   simp only [qbC,hid] at hdA hA;exact (qay hT hΓ hm _ fr σ eA frA σA hL hdA hA).all oA
  |true =>
   have hdr:draw=true:=by
    cases draw with
    |true=>rfl
    |false=>simp at hid
   subst hdr;simp only [qbC,hid] at hdA hdB hA hB;simp only [qkv,hid,Bool.not_true,Bool.false_or,Bool.and_eq_true] at hp;obtain⟨rfl,a1,a2⟩:=qJe (fr1:=fr) (σ1:=σ) hdA hp.1.2 hA;obtain⟨rfl,b1,b2⟩:=qJe (fr1:=fr) (σ1:=σ) hdB hp.2 hB;intro r n H0 w0 hR Q a w hst hq;exact qvE hT hΓ hm (by simpa [Nat.blt_eq] using hp.1.1.1) hp.1.1.2 hst a1 a2 b1 b2 (hq _ _ _ oA) (hq _ _ _ oB) r n
 |.seq x y,fr,σ,eA,frA,σA,eB,frB,σB,hp,hL,hdA,hdB,hA,hB,oA,oB=>by
  simp only [qkv,Bool.and_eq_true] at hp;cases hx:hasR id x with
  |true =>
   simp only [qbC,hx,qax,Bool.and_eq_true] at hdA hdB;simp only [qbC,hx,pexec] at hA hB;intro r n H0 w0 hR Q a w hst hq;refine wpIn_seq ?_
   -- behind the first part: the second,or out
   have key:∀ (b:Bool) (eX:PExit) (frX:List PV) (σX:Store),(match pexec tb Γ L (qbC id i b x) fr σ with|some (.normal,fr',σ')=>pexec tb Γ L y fr' σ'|r=>r)=some (eX,frX,σX)→O eX frX σX →
     ∃ e1 fr1 σ1,pexec tb Γ L (qbC id i b x) fr σ=some (e1,fr1,σ1)∧∀ a1 w1,St gl H0 w0 fr1 σ1 a1 w1→(match e1.as with|.normal=>y.wpIn (rnd r) n P Q a1 w1|e=>Q e a1 w1):=by
    intro b eX frX σX h ho;split at h
    ·rename_i fr1 σ1 hx1;exact⟨.normal,fr1,σ1,hx1,fun a1 w1 hst1=>qay hT hΓ hm y fr1 σ1 eX frX σX hL.2 hdA.2 h r n H0 w0 hR _ _ _ hst1 (hq _ _ _ ho)⟩
    ·rename_i hne;refine⟨eX,frX,σX,h,fun a1 w1 hst1=>?_⟩
     cases eX with
     |normal=>exact absurd h (hne _ _)
     |exit id=>exact hq _ _ _ ho _ _ hst1
     |ret=>exact hq _ _ _ ho _ _ hst1
     |pan x=>exact hq _ _ _ ho _ _ hst1
   obtain⟨e1,f1,s1,p1,k1⟩:=key false _ _ _ hA oA;obtain⟨e2,f2,s2,p2,k2⟩:=key true _ _ _ hB oB;refine qhR hT hΓ hm (O:=fun e f s=>(e,f,s)=(e1,f1,s1)∨(e,f,s)=(e2,f2,s2)) x fr σ _ _ _ _ _ _ hp.1 hL.1 hdA.1 hdB.1 p1 p2 (.inl rfl) (.inr rfl) r n H0 w0 hR _ a w hst ?_
   rintro e f s (h|h) a1 w1 hst1
   ·cases h
    have:=k1 a1 w1 hst1;cases e1<;>exact this
   ·cases h
    have:=k2 a1 w1 hst1;cases e2<;>exact this
  |false =>
   simp only [qbC,hx,qax,Bool.and_eq_true] at hdA hdB;simp only [qbC,hx,pexec] at hA hB;intro r n H0 w0 hR Q a w hst hq;refine wpIn_seq ?_;cases hx1:pexec tb Γ L x fr σ with
   |none=>rw [hx1] at hA;cases hA
   |some t =>
    obtain⟨e1,f1,s1⟩:=t;refine qay hT hΓ hm x fr σ e1 f1 s1 hL.1 hdA.1 hx1 r n H0 w0 hR _ a w hst fun a1 w1 hst1=>?_
    rw [hx1] at hA hB;cases e1 with
    |normal=>exact qhR hT hΓ hm (O:=O) y f1 s1 _ _ _ _ _ _ hp.2 hL.2 hdA.2 hdB.2 hA hB oA oB r n H0 w0 hR Q a1 w1 hst1 hq
    |exit id =>
     simp only [Option.some.injEq,Prod.mk.injEq] at hA;obtain⟨rfl,rfl,rfl⟩:=hA;exact hq _ _ _ oA _ _ hst1
    |ret =>
     simp only [Option.some.injEq,Prod.mk.injEq] at hA;obtain⟨rfl,rfl,rfl⟩:=hA;exact hq _ _ _ oA _ _ hst1
    |pan x =>
     simp only [Option.some.injEq,Prod.mk.injEq] at hA;obtain⟨rfl,rfl,rfl⟩:=hA;exact hq _ _ _ oA _ _ hst1
 |.skip,fr,σ,eA,frA,σA,eB,frB,σB,hp,hL,hdA,hdB,hA,hB,oA,oB=>(qay hT hΓ hm _ fr σ eA frA σA hL hdA hA).all oA
 |.label _,fr,σ,eA,frA,σA,eB,frB,σB,hp,hL,hdA,hdB,hA,hB,oA,oB=>(qay hT hΓ hm _ fr σ eA frA σA hL hdA hA).all oA
 |.cond _ _ _,fr,σ,eA,frA,σA,eB,frB,σB,hp,hL,hdA,hdB,hA,hB,oA,oB=>(qay hT hΓ hm _ fr σ eA frA σA hL hdA hA).all oA
 |.block k x,fr,σ,eA,frA,σA,eB,frB,σB,hp,hL,hdA,hdB,hA,hB,oA,oB=>by
  simp only [qbC,pexec] at hA hB;have key:∀ (b:Bool) (eX:PExit) (frX:List PV) (σX:Store),(match pexec tb Γ L (qbC id i b x) fr σ with|some (.exit j,fr',σ')=>if j=k then some (.normal,fr',σ') else some (.exit j,fr',σ')|r=>r)=some (eX,frX,σX)→O eX frX σX →
    ∃ e1,pexec tb Γ L (qbC id i b x) fr σ=some (e1,frX,σX)∧∀ (Q:Exit→Act→World→Prop) a w,Q eX.as a w→Exit.inBlock k Q e1.as a w:=by
   intro b eX frX σX h ho;split at h
   ·rename_i j fr1 σ1 hx;split at h
    ·rename_i hj;subst hj;simp only [Option.some.injEq,Prod.mk.injEq] at h
     obtain⟨rfl,rfl,rfl⟩:=h;exact⟨_,hx,fun Q a w hq=>by simp only [PExit.as,Exit.inBlock,if_true];exact hq⟩
    ·rename_i hj;simp only [Option.some.injEq,Prod.mk.injEq] at h
     obtain⟨rfl,rfl,rfl⟩:=h;exact⟨_,hx,fun Q a w hq=>by simp only [PExit.as,Exit.inBlock,if_neg hj];exact hq⟩
   ·rename_i hne;refine⟨eX,h,fun Q a w hq=>?_⟩
    cases eX with
    |normal=>exact hq
    |exit j=>exact absurd h (hne _ _ _)
    |ret=>exact hq
    |pan x=>exact hq
  obtain⟨e1,p1,k1⟩:=key false _ _ _ hA oA;obtain⟨e2,p2,k2⟩:=key true _ _ _ hB oB;intro r n H0 w0 hR Q a w hst hq;refine wpIn_block ?_;refine qhR hT hΓ hm (O:=fun e f s=>(e,f,s)=(e1,frA,σA)∨(e,f,s)=(e2,frB,σB)) x fr σ _ _ _ _ _ _ hp hL hdA hdB p1 p2 (.inl rfl) (.inr rfl) r n H0 w0 hR _ a w hst ?_
  rintro e f s (h|h) a1 w1 hst1
  ·cases h
   exact k1 Q a1 w1 (hq _ _ _ oA _ _ hst1)
  ·cases h
   exact k2 Q a1 w1 (hq _ _ _ oB _ _ hst1)
 |.loop _,fr,σ,eA,frA,σA,eB,frB,σB,hp,hL,hdA,hdB,hA,hB,oA,oB=>(qay hT hΓ hm _ fr σ eA frA σA hL hdA hA).all oA
 |.scope _,fr,σ,eA,frA,σA,eB,frB,σB,hp,hL,hdA,hdB,hA,hB,oA,oB=>(qay hT hΓ hm _ fr σ eA frA σA hL hdA hA).all oA
 |.exit _,fr,σ,eA,frA,σA,eB,frB,σB,hp,hL,hdA,hdB,hA,hB,oA,oB=>(qay hT hΓ hm _ fr σ eA frA σA hL hdA hA).all oA
 |.rangeFunc _ _ _ _,fr,σ,eA,frA,σA,eB,frB,σB,hp,hL,hdA,hdB,hA,hB,oA,oB=>(qay hT hΓ hm _ fr σ eA frA σA hL hdA hA).all oA
 |.goto _,fr,σ,eA,frA,σA,eB,frB,σB,hp,hL,hdA,hdB,hA,hB,oA,oB=>(qay hT hΓ hm _ fr σ eA frA σA hL hdA hA).all oA
 |.refuse _,fr,σ,eA,frA,σA,eB,frB,σB,hp,hL,hdA,hdB,hA,hB,oA,oB=>(qay hT hΓ hm _ fr σ eA frA σA hL hdA hA).all oA
 |.ret,fr,σ,eA,frA,σA,eB,frB,σB,hp,hL,hdA,hdB,hA,hB,oA,oB=>(qay hT hΓ hm _ fr σ eA frA σA hL hdA hA).all oA
theorem DoesO.based {c:Code} {fr:List PV} {σ:Store} {O:PExit→List PV→Store→Prop} {e':PExit} {fr':List PV} {σ':Store} (h:DoesO P gl c fr σ O)
  (key:∀ (H:Gh) (w:World),Ok gl H σ w→∀ e fr1 σ1,O e fr1 σ1→e=e'∧∀ a' w',St gl H w fr1 σ1 a' w'→St gl H w fr' σ' a' w'):Does P gl c fr σ e' fr' σ':=by
 intro r n H0 w0 hR Q a w hst hq;obtain⟨H,hev,hok,hfr,hd⟩:=hst;refine h r n H w (hR.ev hev) Q a w ⟨H,Ev.refl H w,hok,hfr,hd⟩ fun e fr1 σ1 ho a' w' hst'=>?_
 obtain⟨rfl,k⟩:=key H w hok e fr1 σ1 ho;obtain⟨H',hev',hok',hfr',hd'⟩:=k a' w' hst';exact hq a' w' ⟨H',hev.trans hev',hok',hfr',hd'⟩
section
variable {H : Gh} {w w' : World} {σ σ2 : Store} {fr1 : List PV} {ss : List Nat} {a' : Act}
theorem qBx (hok:Ok gl H σ w) (h:St gl H w fr1 σ2 a' w'):∃ fr3,fr3.length=fr1.length∧(qxg σ (rsl ss fr1) σ2).1=rsl ss fr3∧St gl H w fr3 (qxg σ (rsl ss fr1) σ2).2 a' w':=by
 unfold qxg;split
 ·exact⟨fr1,rfl,rfl,h⟩
 ·refine⟨_,qiI _ _,qsE _ _ _,qE0 (by rw [hok.len];exact Nat.le_max_left _ _) (fun t T e hk=>?_) h⟩
  obtain⟨_,_,o,_,ho⟩:=hok.tok t T e (fun hh=>hh.2 hk)
  rcases ho with⟨h1,_⟩|⟨_,_,r,_,_,_,h6,_⟩
  ·exact absurd hk h1
  ·rw [hok.len] at h6;omega
theorem qBm (hok:Ok gl H σ w) (tr:Bool) (h:St gl H w fr1 σ2 a' w'):St gl H w (mk fr1.length (ss.zip (qeE tr σ (rsl ss fr1) σ2).1)) (qeE tr σ (rsl ss fr1) σ2).2 a' w':=by
 have key:∃ fr3,fr3.length=fr1.length∧(qeE tr σ (rsl ss fr1) σ2).1=rsl ss fr3∧St gl H w fr3 (qeE tr σ (rsl ss fr1) σ2).2 a' w':=by
  cases tr with
  |false=>exact⟨fr1,rfl,rfl,h⟩
  |true =>
   simp only [qeE];unfold qFo;split
   ·exact qBx hok h
   ·rw [qst];obtain⟨fr3,h1,h2,h3⟩:=qBx (ss:=ss) hok (qDA (m:=max σ.toks.length (max (qnS (rsl ss fr1)) (qnJ (σ2.objs.take σ.objs.length)))) (by
     have:=congrArg List.length hok.tkl;simp at this;omega) h)
    exact⟨fr3,by rw [h1,qh8],h2,h3⟩
 obtain⟨fr3,h1,h2,h3⟩:=key;rw [h2,← h1];exact qug (qgx fr3 ss) h3
end
section
variable {G : GamT}
theorem qAy (hT:qaE P tb) (hΓ:qam P gl (gam G)) (hm:P.follows .mixedOrders=true) {L:LpsT} {c:Code} (hL:qaU P gl (lps L) c) {id i:Nat} (hp:qkv id i c=true) (hdA:qax (gam G) (qbC id i false c)=true) (hdB:qax (gam G) (qbC id i true c)=true)
  {nt:Nat} {fr:List PV} {σ:Store} {e:PExit} {kA kB:List Nat} {frA frB:List PV} {σA σB:Store} (hA:Tr.run (texec tb G L (qbC id i false c) [] fr σ)=some (e,kA,frA,σA)) (hB:Tr.run (texec tb G L (qbC id i true c) [] fr σ)=some (e,kB,frB,σB))
  {tr:Bool} {ss:List Nat} {vs1:List PV} {σ1:Store} (hlA:frA.length=nt) (hlB:frB.length=nt) (tA:qeE tr σ (rsl ss frA) σA=(vs1,σ1)) (tB:qeE tr σ (rsl ss frB) σB=(vs1,σ1)):Does P gl c fr σ e (mk nt (ss.zip vs1)) σ1:=by
 refine DoesO.based (O:=fun e' f s=>(e',f,s)=(e,frA,σA)∨(e',f,s)=(e,frB,σB)) (qhR hT hΓ hm c fr σ _ _ _ _ _ _ hp hL hdA hdB (qfo _ _ _ _ _ _ _ _ hA) (qfo _ _ _ _ _ _ _ _ hB) (.inl rfl) (.inr rfl)) fun H w hok e' f s ho=>?_
 rcases ho with ho|ho
 ·cases ho
  refine⟨rfl,fun a' w' hst=>?_⟩
  have:=qBm (ss:=ss) hok tr hst
  rwa [tA,hlA] at this
 ·cases ho
  refine⟨rfl,fun a' w' hst=>?_⟩
  have:=qBm (ss:=ss) hok tr hst
  rwa [tB,hlB] at this
open Classical in
def qqp (tb:Tab) (G:GamT) (L:LpsT) (c:Code) (id i:Nat) (I:LI) (vs:List PV) (σ:Store):Tr LR :=
 Tr.bind (lstep tb G L (qbC id i false c) I vs σ) fun x=>Tr.bind (lstep tb G L (qbC id i true c) I vs σ) fun y=>if x=y then .ret x else .fail
theorem qsI {L:LpsT} {c:Code} {id i:Nat} {I:LI} {vs:List PV} {σ:Store} {x:LR} (h:(qqp tb G L c id i I vs σ).run=some x):(lstep tb G L (qbC id i false c) I vs σ).run=some x∧(lstep tb G L (qbC id i true c) I vs σ).run=some x:=by
 obtain⟨x1,h1,h2⟩:=Tr.bind_some h;obtain⟨y,h3,h4⟩:=Tr.bind_some h2;split at h4
 ·rename_i he;subst he;simp only [Tr.run_ret,Option.some.injEq] at h4;subst h4;exact⟨h1,h3⟩
 ·cases h4
theorem qxD {L:LpsT} {c:Code} {id i:Nat} {I:LI} {vs:List PV} {σ:Store} {t:Tr LR} (hA:lstep tb G L (qbC id i false c) I vs σ=t) (hB:lstep tb G L (qbC id i true c) I vs σ=t):(qqp tb G L c id i I vs σ).run=t.run:=by
 unfold qqp;rw [hA,hB];cases ht:t.run with
 |none=>rw [Tr.run_bind,ht];rfl
 |some x=>simp [Tr.run_bind,ht]
theorem qlT {L:LpsT} {c:Code} {I:LI} {vs:List PV} {σ:Store} {x:LR} (h:(lstep tb G L c I vs σ).run=some x):∃ e kn fr1 σ2,Tr.run (texec tb G L c [] (mk I.nt (I.ss.zip vs)) σ)=some (e,kn,fr1,σ2)∧fr1.length=I.nt∧x=match e with
  |.normal=>.next (qeE I.tr σ (rsl I.ss fr1) σ2).1 (qeE I.tr σ (rsl I.ss fr1) σ2).2
  |e=>.out e (qeE I.tr σ (rsl (I.os e) fr1) σ2).1 (qeE I.tr σ (rsl (I.os e) fr1) σ2).2:=by
 obtain⟨⟨e1,kn,fr1,σ2⟩,h1,h2⟩:=Tr.bind_some (Tr.flat_run h);simp only at h2;split at h2
 ·rename_i hn;refine⟨e1,kn,fr1,σ2,h1,hn,?_⟩;cases e1<;>(simp only [Tr.run_ret,Option.some.injEq] at h2;exact h2.symm)
 ·cases h2
theorem qym (hT:qaE P tb) (hΓ:qam P gl (gam G)) (hm:P.follows .mixedOrders=true) {L:LpsT} {c:Code} (hL:qaU P gl (lps L) c) {id i:Nat} (hp:qkv id i c=true) (hdA:qax (gam G) (qbC id i false c)=true) (hdB:qax (gam G) (qbC id i true c)=true) {I:LI} :
  ∀ (n:Nat) (vs:List PV) (σ:Store) (e:PExit) (vs':List PV) (σ':Store),lrun (qqp tb G L c id i I) n vs σ=some (e,vs',σ')→LDoes P gl c (mk I.nt (I.ss.zip vs)) σ e (mk I.nt ((I.os e).zip vs')) σ':=by
 intro n
 induction n with
 |zero=>intro vs σ e vs' σ' h;cases h
 |succ n ih =>
  intro vs σ e vs' σ' h;simp only [lrun] at h
  split at h
  ·rename_i vs1 σ1 hs;obtain⟨hA,hB⟩:=qsI hs;obtain⟨eA,kA,fA,sA,xA,lA,yA⟩:=qlT hA;obtain⟨eB,kB,fB,sB,xB,lB,yB⟩:=qlT hB;cases eA<;>simp only [LR.next.injEq,reduceCtorEq] at yA
   cases eB<;>simp only [LR.next.injEq,reduceCtorEq] at yB
   exact LDoes.next (qAy hT hΓ hm hL hp hdA hdB xA xB lA lB (Prod.ext yA.1.symm yA.2.symm) (Prod.ext yB.1.symm yB.2.symm)) (ih _ _ _ _ _ h)
  ·rename_i e1 vs1 σ1 hs;simp only [Option.some.injEq,Prod.mk.injEq] at h
   obtain⟨rfl,rfl,rfl⟩:=h;obtain⟨hA,hB⟩:=qsI hs;obtain⟨eA,kA,fA,sA,xA,lA,yA⟩:=qlT hA;obtain⟨eB,kB,fB,sB,xB,lB,yB⟩:=qlT hB;have fin:eA≠.normal→eB≠.normal→e1=eA∧e1=eB∧qeE I.tr σ (rsl (I.os e1) fA) sA=(vs1,σ1)∧qeE I.tr σ (rsl (I.os e1) fB) sB=(vs1,σ1):=by
    intro nA nB;cases eA<;>(first|exact absurd rfl nA|(simp only [LR.out.injEq] at yA;obtain⟨rfl,y1,y2⟩:=yA))
    all_goals cases eB<;>(first|exact absurd rfl nB|(simp only [LR.out.injEq,reduceCtorEq,false_and] at yB))
    all_goals
     obtain⟨y0,y3,y4⟩:=yB
     first
      |(cases y0;exact⟨rfl,rfl,Prod.ext y1.symm y2.symm,Prod.ext y3.symm y4.symm⟩)
      |exact⟨rfl,rfl,Prod.ext y1.symm y2.symm,Prod.ext y3.symm y4.symm⟩
   have nA:eA≠.normal:=fun h=>by subst h;simp only [reduceCtorEq] at yA
   have nB:eB≠.normal:=fun h=>by subst h;simp only [reduceCtorEq] at yB
   obtain⟨rfl,rfl,tA,tB⟩:=fin nA nB;exact LDoes.out (qAy hT hΓ hm hL hp hdA hdB xA xB lA lB tA tB) nA
  ·cases h
theorem qFY (hT:qaE P tb) (hΓ:qam P gl (gam G)) (hm:P.follows .mixedOrders=true) {L:LpsT} {c:Code} (hL:qaU P gl (lps L) c) (id i:Nat) (hp:qkv id i c=true) (hdA:qax (gam G) (qbC id i false c)=true) (hdB:qax (gam G) (qbC id i true c)=true) {I:LI} {prop:List PV→Store→Tr (PExit×List PV×Store)}
  (h:∀ vs σ r,(prop vs σ).run=some r→lval (qqp tb G L c id i I) vs σ=some r):∀ fr σ e fr' σ',(orc I prop fr σ).run=some (e,fr',σ')→LDoes P gl c fr σ e fr' σ':=by
 intro fr σ e fr' σ' hr;unfold orc at hr;split at hr
 ·rename_i hn;obtain⟨⟨e1,vs1,σ1⟩,h1,h2⟩:=Tr.bind_some hr;simp only [Tr.run_ret,Option.some.injEq,Prod.mk.injEq] at h2;obtain⟨rfl,rfl,rfl⟩:=h2;obtain⟨n,hn'⟩:=qlI (h _ _ _ h1);have hw:=qgx fr I.ss;rw [hn] at hw;exact LDoes.into hw (qym hT hΓ hm hL hp hdA hdB n _ _ _ _ _ hn')
 ·cases hr
end
end
end Go.Pv
set_option maxHeartbeats 4000000
set_option maxRecDepth 200000
set_option linter.unusedSimpArgs false
set_option linter.unusedVariables false
namespace Go.Pv
open Go Go.Proofs
def qkW:GamT:=ofL []
theorem qtm (gl:Gl):qam Tryz.prog gl (gam qkW):=qag
def ql6:Code:=qcu Tryz.f21 4
def qlA:LI:=⟨38,[2,3,5],fun e=>match e with|.ret=>[4]|.exit 0=>[]|_=>[],true⟩
def qm8:LpsT:=fun r fr σ=>.fail
def qb0 (vs:List PV) (σ:Store):Option (PExit×List PV×Store):=lval (lstep tbT qkW qm8 ql6 qlA) vs σ
def qfk (i:Int) (s:qU) (r:qR) (s2:qU) (r2:qR):Tr LR:=let z1:List PV:=[.int .i64 0,.str [],.int .i64 0,.int .i64 0,.str []];let z2:=nNat i;let z3:Store:=Store.mk [[.str s,.sl r .non],[.str s2,.sl r2 .non]] [] [48,48];.ite (iLt i (xLen r)) (.ite (qas i) (.ite (qaM z1 r z2) (.ite (qas i) (.ite (qaM z1 r2 z2) (.ite (bNot (bAnd (iEq (xInt r z2 0) (xInt r2 z2 0)) (bAnd (sEq (xStr r z2 1) (xStr r2 z2 1)) (bAnd (bAnd (iEq (xInt r z2 2) (xInt r2 z2 2)) (bAnd (iEq (xInt r z2 3) (xInt r2 z2 3)) (bAnd (sEq (xStr r z2 4) (xStr r2 z2 4)) true))) true)))) (.ret (.out .ret [.bool false] z3)) (.ret (.next [.ptr 0 0,.ptr 1 0,.int .i64 (iAdd .i64 i 1)] z3))) .fail) .fail) .fail) .fail) (.ret (.out (.exit 0) [] z3))
theorem qGH (i:Int) (s:qU) (r:qR) (s2:qU) (r2:qR):lstep tbT qkW qm8 ql6 qlA [.ptr 0 0,.ptr 1 0,.int .i64 i] ⟨[[.str s,.sl r .non],[.str s2,.sl r2 .non]],[],[48,48]⟩=qfk i s r s2 r2:=by kernel_rfl
theorem qwO (i:Int) (s:qU) (r:qR) (s2:qU) (r2:qR):qb0 [.ptr 0 0,.ptr 1 0,.int .i64 i] ⟨[[.str s,.sl r .non],[.str s2,.sl r2 .non]],[],[48,48]⟩=lnext qb0 (qfk i s r s2 r2).run:=by unfold qb0;rw [qaD,qGH]
def qg3 (i:Int) (s:qU) (r:qR) (s2:qU) (r2:qR):Option (PExit×List PV×Store):=qb0 [.ptr 0 0,.ptr 1 0,.int .i64 i] ⟨[[.str s,.sl r .non],[.str s2,.sl r2 .non]],[],[48,48]⟩
def qfR (i:Int) (s:qU) (r:qR) (s2:qU) (r2:qR):Bool:=(qaZ (gOut (qg3 i s r s2 r2) 0))
def qjN (i:Int) (s:qU) (r:qR) (s2:qU) (r2:qR):Bool:=isW (qg3 i s r s2 r2) (.ret,[.bool (qfR i s r s2 r2)],⟨[[.str s,.sl r .non],[.str s2,.sl r2 .non]],[],[48,48]⟩)
def qjM (i:Int) (s:qU) (r:qR) (s2:qU) (r2:qR):Bool:=isW (qg3 i s r s2 r2) ((.exit 0),[],⟨[[.str s,.sl r .non],[.str s2,.sl r2 .non]],[],[48,48]⟩)
def qeq:List PV→Store→Tr (PExit×List PV×Store)|[.ptr 0 0,.ptr 1 0,.int .i64 i],⟨[[.str s,.sl r .non],[.str s2,.sl r2 .non]],[],[48,48]⟩=>.ite (qjN i s r s2 r2) (.ret (.ret,[.bool (qfR i s r s2 r2)],⟨[[.str s,.sl r .non],[.str s2,.sl r2 .non]],[],[48,48]⟩)) (.ite (qjM i s r s2 r2) (.ret ((.exit 0),[],⟨[[.str s,.sl r .non],[.str s2,.sl r2 .non]],[],[48,48]⟩)) (.fail))|_,_=>.fail
theorem qCu:∀ vs σ r,(qeq vs σ).run=some r→qb0 vs σ=some r:=by
 intro vs σ r h;unfold qeq at h
 split at h
 ·exact qad h fun h=>qad h fun h=>by cases h
 ·cases h
theorem qxB (gl:Gl):∀ fr σ e fr' σ',(orc qlA qeq fr σ).run=some (e,fr',σ')→LDoes Tryz.prog gl ql6 fr σ e fr' σ':=qbq qak (qtm gl ) qah (L:=qm8) (qac (by kernel_rfl)) (by kernel_rfl) qCu
def qwi:LpsT:=fun r fr σ=>bif Nat.beq r 4 then orc qlA qeq fr σ else .fail
def qeS (a:qU) (a2:qR) (b:qU) (b2:qR):Tr PV:=.ite (sNe a b) (.ret (.bool false)) (.ite (iNe (xLen a2) (xLen b2)) (.ret (.bool false)) (.ite (qjN 0 a a2 b b2) (.ret (.bool (qfR 0 a a2 b b2))) (.ite (qjM 0 a a2 b b2) (.ret (.bool true)) .fail)))
theorem qHC (a:qU) (a2:qR) (b:qU) (b2:qR):(tcall tbT qkW qwi Tryz.f21 [.agg [.str a,.sl a2 .non],.agg [.str b,.sl b2 .non]]).flat=qeS a a2 b b2:=by kernel_rfl
def qgR (a:qU) (a2:qR) (b:qU) (b2:qR):Option PV:=(qeS a a2 b b2).run
def qf4 (a:qU) (a2:qR) (b:qU) (b2:qR):Bool:=(qaZ (gVal (qgR a a2 b b2)))
def qdA (a:qU) (a2:qR) (b:qU) (b2:qR):Bool:=isW (qgR a a2 b b2) (.bool (qf4 a a2 b b2))
def qlc:List PV→Tr PV|[.agg [.str a,.sl a2 .non],.agg [.str b,.sl b2 .non]]=>.ite (qdA a a2 b b2) (.ret (.bool (qf4 a a2 b b2))) (.fail)|_=>.fail
theorem qnf (gl:Gl):SimP Tryz.prog gl 21 fun args=>(qlc args).run:=by
 refine SimP.of_flat (G:=qkW) (L:=qwi) qak (qtm gl ) qah  Tryz.func21 rfl (by rfl) (by kernel_rfl) (qar (L:=lps qwi) [(4,ql6)] (by kernel_rfl) (List.forall_mem_cons.2 ⟨fun fr σ e fr' σ' h=>qxB gl  fr σ e fr' σ' h,(List.forall_mem_nil _)⟩)) ?_
 intro args x h;unfold qlc at h
 split at h
 ·exact (congrArg Tr.run (qHC _ _ _ _)).trans (qad h fun h=>by cases h)
 ·cases h
def qiu:GamT:=ofL [(21,.pure qlc)]
theorem qsT (gl:Gl):qam Tryz.prog gl (gam qiu):=(qae (qnf gl) qag)
def qhm:Code:=qcu Tryz.f20 4
def qhJ:LI:=⟨74,[2,3,5],fun e=>match e with|.ret=>[4]|.exit 0=>[]|_=>[],true⟩
def qiS:LpsT:=fun r fr σ=>.fail
def qbZ (vs:List PV) (σ:Store):Option (PExit×List PV×Store):=lval (qqp tbT qiu qiS qhm 6 10 qhJ) vs σ
def qcG (n:Int) (s:qU) (r r2:qR) (s2:qU) (r3 r4:qR):Tr LR:=let z1:List PV:=[.int .i64 0,.str [],.sl [] .full,.int .i64 0,.int .i64 0,.str [],.int .i64 0,.int .i64 0,.str [],.int .i64 0,.str [],.int .i64 0,.int .i64 0,.str []];let z2:=nNat n;let z3:Store:=Store.mk [[.str s,.sl (qao 2 r) .non,.sl (qao 2 r2) .non],[.str s2,.sl (qao 2 r3) .non,.sl (qao 2 r4) .non]] [] [51,51];.ite (iLt n (xLen r2)) (.ite (qas n) (.ite (qaM z1 r2 z2) (.ite (qas n) (.ite (qaM z1 r4 z2) (.ite (iNe (xInt r2 z2 0) (xInt r4 z2 0)) (.ret (.out .ret [.bool false] z3)) (.ite (iNe (xInt r2 z2 3) (xInt r4 z2 3)) (.ret (.out .ret [.bool false] z3)) (.ite (bNot (bAnd (iEq (xInt r2 z2 4) (xInt r4 z2 4)) (bAnd (sEq (xStr r2 z2 5) (xStr r4 z2 5)) (bAnd (bAnd (iEq (xInt r2 z2 6) (xInt r4 z2 6)) (bAnd (iEq (xInt r2 z2 7) (xInt r4 z2 7)) (bAnd (sEq (xStr r2 z2 8) (xStr r4 z2 8)) true))) true)))) (.ret (.out .ret [.bool false] z3)) (.ite (bNot (bAnd (iEq (xInt r2 z2 9) (xInt r4 z2 9)) (bAnd (sEq (xStr r2 z2 10) (xStr r4 z2 10)) (bAnd (bAnd (iEq (xInt r2 z2 11) (xInt r4 z2 11)) (bAnd (iEq (xInt r2 z2 12) (xInt r4 z2 12)) (bAnd (sEq (xStr r2 z2 13) (xStr r4 z2 13)) true))) true)))) (.ret (.out .ret [.bool false] z3)) (.ite (qdA (xStr r2 z2 1) (qab (xRow r2 z2 2)) (xStr r4 z2 1) (qab (xRow r4 z2 2))) (.ite (bNot (qf4 (xStr r2 z2 1) (qab (xRow r2 z2 2)) (xStr r4 z2 1) (qab (xRow r4 z2 2)))) (.ret (.out .ret [.bool false] z3)) (.ret (.next [.ptr 0 0,.ptr 1 0,.int .i64 (iAdd .i64 n 1)] z3))) .fail))))) .fail) .fail) .fail) .fail) (.ret (.out (.exit 0) [] (Store.mk [[.str s,.sl r .non,.sl r2 .non],[.str s2,.sl r3 .non,.sl r4 .non]] [] [51,51])))
theorem qED (n:Int) (s:qU) (r r2:qR) (s2:qU) (r3 r4:qR):lstep tbT qiu qiS (qbC 6 10 false qhm) qhJ [.ptr 0 0,.ptr 1 0,.int .i64 n] ⟨[[.str s,.sl r .non,.sl r2 .non],[.str s2,.sl r3 .non,.sl r4 .non]],[],[51,51]⟩=qcG n s r r2 s2 r3 r4:=by kernel_rfl
theorem qB1 (n:Int) (s:qU) (r r2:qR) (s2:qU) (r3 r4:qR):lstep tbT qiu qiS (qbC 6 10 true qhm) qhJ [.ptr 0 0,.ptr 1 0,.int .i64 n] ⟨[[.str s,.sl r .non,.sl r2 .non],[.str s2,.sl r3 .non,.sl r4 .non]],[],[51,51]⟩=qcG n s r r2 s2 r3 r4:=by kernel_rfl
theorem qyc (n:Int) (s:qU) (r r2:qR) (s2:qU) (r3 r4:qR):qbZ [.ptr 0 0,.ptr 1 0,.int .i64 n] ⟨[[.str s,.sl r .non,.sl r2 .non],[.str s2,.sl r3 .non,.sl r4 .non]],[],[51,51]⟩=lnext qbZ (qcG n s r r2 s2 r3 r4).run:=by unfold qbZ;rw [qaD,qxD (qED n s r r2 s2 r3 r4) (qB1 n s r r2 s2 r3 r4)]
def qhK (n:Int) (s:qU) (r r2:qR) (s2:qU) (r3 r4:qR):Option (PExit×List PV×Store):=qbZ [.ptr 0 0,.ptr 1 0,.int .i64 n] ⟨[[.str s,.sl r .non,.sl r2 .non],[.str s2,.sl r3 .non,.sl r4 .non]],[],[51,51]⟩
def qfN (n:Int) (s:qU) (r r2:qR) (s2:qU) (r3 r4:qR):Bool:=(qaZ (gOut (qhK n s r r2 s2 r3 r4) 0))
def qjF (n:Int) (s:qU) (r r2:qR) (s2:qU) (r3 r4:qR):Bool:=isW (qhK n s r r2 s2 r3 r4) (.ret,[.bool (qfN n s r r2 s2 r3 r4)],⟨[[.str s,.sl r .non,.sl r2 .non],[.str s2,.sl r3 .non,.sl r4 .non]],[],[51,51]⟩)
def qjJ (n:Int) (s:qU) (r r2:qR) (s2:qU) (r3 r4:qR):Bool:=isW (qhK n s r r2 s2 r3 r4) ((.exit 0),[],⟨[[.str s,.sl r .non,.sl r2 .non],[.str s2,.sl r3 .non,.sl r4 .non]],[],[51,51]⟩)
def qel:List PV→Store→Tr (PExit×List PV×Store)|[.ptr 0 0,.ptr 1 0,.int .i64 n],⟨[[.str s,.sl r .non,.sl r2 .non],[.str s2,.sl r3 .non,.sl r4 .non]],[],[51,51]⟩=>.ite (qjF n s r r2 s2 r3 r4) (.ret (.ret,[.bool (qfN n s r r2 s2 r3 r4)],⟨[[.str s,.sl r .non,.sl r2 .non],[.str s2,.sl r3 .non,.sl r4 .non]],[],[51,51]⟩)) (.ite (qjJ n s r r2 s2 r3 r4) (.ret ((.exit 0),[],⟨[[.str s,.sl r .non,.sl r2 .non],[.str s2,.sl r3 .non,.sl r4 .non]],[],[51,51]⟩)) (.fail))|_,_=>.fail
theorem qC3:∀ vs σ r,(qel vs σ).run=some r→qbZ vs σ=some r:=by
 intro vs σ r h;unfold qel at h
 split at h
 ·exact qad h fun h=>qad h fun h=>by cases h
 ·cases h
theorem qwZ (gl:Gl):∀ fr σ e fr' σ',(orc qhJ qel fr σ).run=some (e,fr',σ')→LDoes Tryz.prog gl qhm fr σ e fr' σ':=qFY qak (qsT gl ) qah (L:=qiS) (qac (by kernel_rfl)) 6 10 (by kernel_rfl) (by kernel_rfl) (by kernel_rfl) qC3
def quC:LpsT:=fun r fr σ=>bif Nat.beq r 4 then orc qhJ qel fr σ else .fail
def qfr (v:qU) (v2 v3:qR) (v4:qU) (v5 v6:qR):Tr PV:=.ite (qdA v (qab v2) v4 (qab v5)) (.ite (bNot (qf4 v (qab v2) v4 (qab v5))) (.ret (.bool false)) (.ite (iNe (xLen v3) (xLen v6)) (.ret (.bool false)) (.ite (qjF 0 v v2 v3 v4 v5 v6) (.ret (.bool (qfN 0 v v2 v3 v4 v5 v6))) (.ite (qjJ 0 v v2 v3 v4 v5 v6) (.ret (.bool true)) .fail)))) .fail
theorem qH3 (v:qU) (v2 v3:qR) (v4:qU) (v5 v6:qR):(tcall tbT qiu quC Tryz.f20 [.agg [.str v,.sl v2 .non,.sl v3 .non],.agg [.str v4,.sl v5 .non,.sl v6 .non]]).flat=qfr v v2 v3 v4 v5 v6:=by kernel_rfl
def qgQ (v:qU) (v2 v3:qR) (v4:qU) (v5 v6:qR):Option PV:=(qfr v v2 v3 v4 v5 v6).run
def ql0 (v:qU) (v2 v3:qR) (v4:qU) (v5 v6:qR):Bool:=(qaZ (gVal (qgQ v v2 v3 v4 v5 v6)))
def qhU (v:qU) (v2 v3:qR) (v4:qU) (v5 v6:qR):Bool:=isW (qgQ v v2 v3 v4 v5 v6) (.bool (ql0 v v2 v3 v4 v5 v6))
def qon:List PV→Tr PV|[.agg [.str v,.sl v2 .non,.sl v3 .non],.agg [.str v4,.sl v5 .non,.sl v6 .non]]=>.ite (qhU v v2 v3 v4 v5 v6) (.ret (.bool (ql0 v v2 v3 v4 v5 v6))) (.fail)|_=>.fail
theorem qtj (gl:Gl):SimP Tryz.prog gl 20 fun args=>(qon args).run:=by
 refine SimP.of_flat (G:=qiu) (L:=quC) qak (qsT gl ) qah  Tryz.func20 rfl (by rfl) (by kernel_rfl) (qar (L:=lps quC) [(4,qhm)] (by kernel_rfl) (List.forall_mem_cons.2 ⟨fun fr σ e fr' σ' h=>qwZ gl  fr σ e fr' σ' h,(List.forall_mem_nil _)⟩)) ?_
 intro args x h;unfold qon at h
 split at h
 ·exact (congrArg Tr.run (qH3 _ _ _ _ _ _)).trans (qad h fun h=>by cases h)
 ·cases h
def qlk:GamT:=ofL []
theorem qs2 (gl:Gl):qam Tryz.prog gl (gam qlk):=qag
def qk5:Code:=qcu Tryz.f41 4
def qlK:LI:=⟨45,[2,3,5],fun e=>match e with|.ret=>[4]|.exit 0=>[]|_=>[],true⟩
def qmZ:LpsT:=fun r fr σ=>.fail
def qb4 (vs:List PV) (σ:Store):Option (PExit×List PV×Store):=lval (lstep tbT qlk qmZ qk5 qlK) vs σ
def qfy (i:Int) (s:qU) (b:Bool) (r:qR) (s2:qU) (b2:Bool) (r2:qR):Tr LR:=let z1:Store:=Store.mk [[.str s,.bool b,.sl r .non],[.str s2,.bool b2,.sl r2 .non]] [] [80,80];.ite (iLt i (xLen r)) (.ite (qas i) (.ite (qaM [.int .i64 0] r (nNat i)) (.ite (qas i) (.ite (qaM [.int .i64 0] r2 (nNat i)) (.ite (iNe (xInt r (nNat i) 0) (xInt r2 (nNat i) 0)) (.ret (.out .ret [.bool false] z1)) (.ret (.next [.ptr 0 0,.ptr 1 0,.int .i64 (iAdd .i64 i 1)] z1))) .fail) .fail) .fail) .fail) (.ret (.out (.exit 0) [] z1))
theorem qGp (i:Int) (s:qU) (b:Bool) (r:qR) (s2:qU) (b2:Bool) (r2:qR):lstep tbT qlk qmZ qk5 qlK [.ptr 0 0,.ptr 1 0,.int .i64 i] ⟨[[.str s,.bool b,.sl r .non],[.str s2,.bool b2,.sl r2 .non]],[],[80,80]⟩=qfy i s b r s2 b2 r2:=by kernel_rfl
theorem qxq (i:Int) (s:qU) (b:Bool) (r:qR) (s2:qU) (b2:Bool) (r2:qR):qb4 [.ptr 0 0,.ptr 1 0,.int .i64 i] ⟨[[.str s,.bool b,.sl r .non],[.str s2,.bool b2,.sl r2 .non]],[],[80,80]⟩=lnext qb4 (qfy i s b r s2 b2 r2).run:=by unfold qb4;rw [qaD,qGp]
def qhe (i:Int) (s:qU) (b:Bool) (r:qR) (s2:qU) (b2:Bool) (r2:qR):Option (PExit×List PV×Store):=qb4 [.ptr 0 0,.ptr 1 0,.int .i64 i] ⟨[[.str s,.bool b,.sl r .non],[.str s2,.bool b2,.sl r2 .non]],[],[80,80]⟩
def qf2 (i:Int) (s:qU) (b:Bool) (r:qR) (s2:qU) (b2:Bool) (r2:qR):Bool:=(qaZ (gOut (qhe i s b r s2 b2 r2) 0))
def qjr (i:Int) (s:qU) (b:Bool) (r:qR) (s2:qU) (b2:Bool) (r2:qR):Bool:=isW (qhe i s b r s2 b2 r2) (.ret,[.bool (qf2 i s b r s2 b2 r2)],⟨[[.str s,.bool b,.sl r .non],[.str s2,.bool b2,.sl r2 .non]],[],[80,80]⟩)
def qjB (i:Int) (s:qU) (b:Bool) (r:qR) (s2:qU) (b2:Bool) (r2:qR):Bool:=isW (qhe i s b r s2 b2 r2) ((.exit 0),[],⟨[[.str s,.bool b,.sl r .non],[.str s2,.bool b2,.sl r2 .non]],[],[80,80]⟩)
def qeB:List PV→Store→Tr (PExit×List PV×Store)|[.ptr 0 0,.ptr 1 0,.int .i64 i],⟨[[.str s,.bool b,.sl r .non],[.str s2,.bool b2,.sl r2 .non]],[],[80,80]⟩=>.ite (qjr i s b r s2 b2 r2) (.ret (.ret,[.bool (qf2 i s b r s2 b2 r2)],⟨[[.str s,.bool b,.sl r .non],[.str s2,.bool b2,.sl r2 .non]],[],[80,80]⟩)) (.ite (qjB i s b r s2 b2 r2) (.ret ((.exit 0),[],⟨[[.str s,.bool b,.sl r .non],[.str s2,.bool b2,.sl r2 .non]],[],[80,80]⟩)) (.fail))|_,_=>.fail
theorem qCC:∀ vs σ r,(qeB vs σ).run=some r→qb4 vs σ=some r:=by
 intro vs σ r h;unfold qeB at h
 split at h
 ·exact qad h fun h=>qad h fun h=>by cases h
 ·cases h
theorem qx8 (gl:Gl):∀ fr σ e fr' σ',(orc qlK qeB fr σ).run=some (e,fr',σ')→LDoes Tryz.prog gl qk5 fr σ e fr' σ':=qbq qak (qs2 gl ) qah (L:=qmZ) (qac (by kernel_rfl)) (by kernel_rfl) qCC
def qtO:LpsT:=fun r fr σ=>bif Nat.beq r 4 then orc qlK qeB fr σ else .fail
def qee (a:qU) (a2:Bool) (a3:qR) (b:qU) (b2:Bool) (b3:qR):Tr PV:=.ite (sNe a b) (.ret (.bool false)) (.ite (bNot (bEq a2 b2)) (.ret (.bool false)) (.ite (iNe (xLen a3) (xLen b3)) (.ret (.bool false)) (.ite (qjr 0 a a2 a3 b b2 b3) (.ret (.bool (qf2 0 a a2 a3 b b2 b3))) (.ite (qjB 0 a a2 a3 b b2 b3) (.ret (.bool true)) .fail))))
theorem qHa (a:qU) (a2:Bool) (a3:qR) (b:qU) (b2:Bool) (b3:qR):(tcall tbT qlk qtO Tryz.f41 [.agg [.str a,.bool a2,.sl a3 .non],.agg [.str b,.bool b2,.sl b3 .non]]).flat=qee a a2 a3 b b2 b3:=by kernel_rfl
def qey (a:qU) (a2:Bool) (a3:qR) (b:qU) (b2:Bool) (b3:qR):Option PV:=(qee a a2 a3 b b2 b3).run
def qos (a:qU) (a2:Bool) (a3:qR) (b:qU) (b2:Bool) (b3:qR):Bool:=(qaZ (gVal (qey a a2 a3 b b2 b3)))
def qmz (a:qU) (a2:Bool) (a3:qR) (b:qU) (b2:Bool) (b3:qR):Bool:=isW (qey a a2 a3 b b2 b3) (.bool (qos a a2 a3 b b2 b3))
def qvu:List PV→Tr PV|[.agg [.str a,.bool a2,.sl a3 .non],.agg [.str b,.bool b2,.sl b3 .non]]=>.ite (qmz a a2 a3 b b2 b3) (.ret (.bool (qos a a2 a3 b b2 b3))) (.fail)|_=>.fail
theorem qB0 (gl:Gl):SimP Tryz.prog gl 41 fun args=>(qvu args).run:=by
 refine SimP.of_flat (G:=qlk) (L:=qtO) qak (qs2 gl ) qah  Tryz.func41 rfl (by rfl) (by kernel_rfl) (qar (L:=lps qtO) [(4,qk5)] (by kernel_rfl) (List.forall_mem_cons.2 ⟨fun fr σ e fr' σ' h=>qx8 gl  fr σ e fr' σ' h,(List.forall_mem_nil _)⟩)) ?_
 intro args x h;unfold qvu at h
 split at h
 ·exact (congrArg Tr.run (qHa _ _ _ _ _ _)).trans (qad h fun h=>by cases h)
 ·cases h
def qgr:GamT:=ofL [(21,.pure qlc)]
theorem qmX (gl:Gl):qam Tryz.prog gl (gam qgr):=(qae (qnf gl) qag)
def qkC:Code:=qcu Tryz.f42 4
def qmi:Code:=qcu Tryz.f42 9
def qkn:LI:=⟨84,[2,3,5],fun e=>match e with|.ret=>[4]|.exit 0=>[2,3]|_=>[],true⟩
def qmD:LpsT:=fun r fr σ=>.fail
def qbY (vs:List PV) (σ:Store):Option (PExit×List PV×Store):=lval (lstep tbT qgr qmD qkC qkn) vs σ
def qeX (n:Int) (s:qU) (r r2:qR) (s2:qU) (r3 r4:qR):Tr LR:=let z1:=nNat n;let z2:Store:=Store.mk [[.str s,.sl r .non,.sl r2 .non],[.str s2,.sl r3 .non,.sl r4 .non]] [] [85,85];.ite (iLt n (xLen r)) (.ite (qas n) (.ite (qaM [.str [],.int .i64 0] r z1) (.ite (qas n) (.ite (qaM [.str [],.int .i64 0] r3 z1) (.ite (bNot (bAnd (sEq (xStr r z1 0) (xStr r3 z1 0)) (bAnd (iEq (xInt r z1 1) (xInt r3 z1 1)) true))) (.ret (.out .ret [.bool false] z2)) (.ret (.next [.ptr 0 0,.ptr 1 0,.int .i64 (iAdd .i64 n 1)] z2))) .fail) .fail) .fail) .fail) (.ret (.out (.exit 0) [.ptr 0 0,.ptr 1 0] z2))
theorem qFq (n:Int) (s:qU) (r r2:qR) (s2:qU) (r3 r4:qR):lstep tbT qgr qmD qkC qkn [.ptr 0 0,.ptr 1 0,.int .i64 n] ⟨[[.str s,.sl r .non,.sl r2 .non],[.str s2,.sl r3 .non,.sl r4 .non]],[],[85,85]⟩=qeX n s r r2 s2 r3 r4:=by kernel_rfl
theorem qxv (n:Int) (s:qU) (r r2:qR) (s2:qU) (r3 r4:qR):qbY [.ptr 0 0,.ptr 1 0,.int .i64 n] ⟨[[.str s,.sl r .non,.sl r2 .non],[.str s2,.sl r3 .non,.sl r4 .non]],[],[85,85]⟩=lnext qbY (qeX n s r r2 s2 r3 r4).run:=by unfold qbY;rw [qaD,qFq]
def qfA (n:Int) (s:qU) (r r2:qR) (s2:qU) (r3 r4:qR):Option (PExit×List PV×Store):=qbY [.ptr 0 0,.ptr 1 0,.int .i64 n] ⟨[[.str s,.sl r .non,.sl r2 .non],[.str s2,.sl r3 .non,.sl r4 .non]],[],[85,85]⟩
def qfF (n:Int) (s:qU) (r r2:qR) (s2:qU) (r3 r4:qR):Bool:=(qaZ (gOut (qfA n s r r2 s2 r3 r4) 0))
def qkc (n:Int) (s:qU) (r r2:qR) (s2:qU) (r3 r4:qR):Bool:=isW (qfA n s r r2 s2 r3 r4) (.ret,[.bool (qfF n s r r2 s2 r3 r4)],⟨[[.str s,.sl r .non,.sl r2 .non],[.str s2,.sl r3 .non,.sl r4 .non]],[],[85,85]⟩)
def qjL (n:Int) (s:qU) (r r2:qR) (s2:qU) (r3 r4:qR):Bool:=isW (qfA n s r r2 s2 r3 r4) ((.exit 0),[.ptr 0 0,.ptr 1 0],⟨[[.str s,.sl r .non,.sl r2 .non],[.str s2,.sl r3 .non,.sl r4 .non]],[],[85,85]⟩)
def qeC:List PV→Store→Tr (PExit×List PV×Store)|[.ptr 0 0,.ptr 1 0,.int .i64 n],⟨[[.str s,.sl r .non,.sl r2 .non],[.str s2,.sl r3 .non,.sl r4 .non]],[],[85,85]⟩=>.ite (qkc n s r r2 s2 r3 r4) (.ret (.ret,[.bool (qfF n s r r2 s2 r3 r4)],⟨[[.str s,.sl r .non,.sl r2 .non],[.str s2,.sl r3 .non,.sl r4 .non]],[],[85,85]⟩)) (.ite (qjL n s r r2 s2 r3 r4) (.ret ((.exit 0),[.ptr 0 0,.ptr 1 0],⟨[[.str s,.sl r .non,.sl r2 .non],[.str s2,.sl r3 .non,.sl r4 .non]],[],[85,85]⟩)) (.fail))|_,_=>.fail
theorem qDf:∀ vs σ r,(qeC vs σ).run=some r→qbY vs σ=some r:=by
 intro vs σ r h;unfold qeC at h
 split at h
 ·exact qad h fun h=>qad h fun h=>by cases h
 ·cases h
theorem qxL (gl:Gl):∀ fr σ e fr' σ',(orc qkn qeC fr σ).run=some (e,fr',σ')→LDoes Tryz.prog gl qkC fr σ e fr' σ':=qbq qak (qmX gl ) qah (L:=qmD) (qac (by kernel_rfl)) (by kernel_rfl) qDf
def qkY:LI:=⟨84,[2,3,6],fun e=>match e with|.ret=>[4]|.exit 2=>[]|_=>[],true⟩
def qnq:LpsT:=fun r fr σ=>.fail
def qb2 (vs:List PV) (σ:Store):Option (PExit×List PV×Store):=lval (lstep tbT qgr qnq qmi qkY) vs σ
def qdt (n:Int) (s:qU) (r r2:qR) (s2:qU) (r3 r4:qR):Tr LR:=let z1:List PV:=[.bool false,.str [],.sl [] .full];let z2:=nNat n;let z3:Store:=Store.mk [[.str s,.sl r .non,.sl r2 .non],[.str s2,.sl r3 .non,.sl r4 .non]] [] [85,85];.ite (iLt n (xLen r2)) (.ite (qas n) (.ite (qaM z1 r2 z2) (.ite (qas n) (.ite (qaM z1 r4 z2) (.ite (bNot (bEq (qfi r2 z2 0) (qfi r4 z2 0))) (.ret (.out .ret [.bool false] z3)) (.ite (qas n) (.ite (qaM z1 r2 z2) (.ite (qas n) (.ite (qaM z1 r4 z2) (.ite (qdA (xStr r2 z2 1) (qab (xRow r2 z2 2)) (xStr r4 z2 1) (qab (xRow r4 z2 2))) (.ite (bNot (qf4 (xStr r2 z2 1) (qab (xRow r2 z2 2)) (xStr r4 z2 1) (qab (xRow r4 z2 2)))) (.ret (.out .ret [.bool false] z3)) (.ret (.next [.ptr 0 0,.ptr 1 0,.int .i64 (iAdd .i64 n 1)] z3))) .fail) .fail) .fail) .fail) .fail)) .fail) .fail) .fail) .fail) (.ret (.out (.exit 2) [] z3))
theorem qGx (n:Int) (s:qU) (r r2:qR) (s2:qU) (r3 r4:qR):lstep tbT qgr qnq qmi qkY [.ptr 0 0,.ptr 1 0,.int .i64 n] ⟨[[.str s,.sl r .non,.sl r2 .non],[.str s2,.sl r3 .non,.sl r4 .non]],[],[85,85]⟩=qdt n s r r2 s2 r3 r4:=by kernel_rfl
theorem qw1 (n:Int) (s:qU) (r r2:qR) (s2:qU) (r3 r4:qR):qb2 [.ptr 0 0,.ptr 1 0,.int .i64 n] ⟨[[.str s,.sl r .non,.sl r2 .non],[.str s2,.sl r3 .non,.sl r4 .non]],[],[85,85]⟩=lnext qb2 (qdt n s r r2 s2 r3 r4).run:=by unfold qb2;rw [qaD,qGx]
def qhM (n:Int) (s:qU) (r r2:qR) (s2:qU) (r3 r4:qR):Option (PExit×List PV×Store):=qb2 [.ptr 0 0,.ptr 1 0,.int .i64 n] ⟨[[.str s,.sl r .non,.sl r2 .non],[.str s2,.sl r3 .non,.sl r4 .non]],[],[85,85]⟩
def qgz (n:Int) (s:qU) (r r2:qR) (s2:qU) (r3 r4:qR):Bool:=(qaZ (gOut (qhM n s r r2 s2 r3 r4) 0))
def qjs (n:Int) (s:qU) (r r2:qR) (s2:qU) (r3 r4:qR):Bool:=isW (qhM n s r r2 s2 r3 r4) (.ret,[.bool (qgz n s r r2 s2 r3 r4)],⟨[[.str s,.sl r .non,.sl r2 .non],[.str s2,.sl r3 .non,.sl r4 .non]],[],[85,85]⟩)
def qjl (n:Int) (s:qU) (r r2:qR) (s2:qU) (r3 r4:qR):Bool:=isW (qhM n s r r2 s2 r3 r4) ((.exit 2),[],⟨[[.str s,.sl r .non,.sl r2 .non],[.str s2,.sl r3 .non,.sl r4 .non]],[],[85,85]⟩)
def qew:List PV→Store→Tr (PExit×List PV×Store)|[.ptr 0 0,.ptr 1 0,.int .i64 n],⟨[[.str s,.sl r .non,.sl r2 .non],[.str s2,.sl r3 .non,.sl r4 .non]],[],[85,85]⟩=>.ite (qjs n s r r2 s2 r3 r4) (.ret (.ret,[.bool (qgz n s r r2 s2 r3 r4)],⟨[[.str s,.sl r .non,.sl r2 .non],[.str s2,.sl r3 .non,.sl r4 .non]],[],[85,85]⟩)) (.ite (qjl n s r r2 s2 r3 r4) (.ret ((.exit 2),[],⟨[[.str s,.sl r .non,.sl r2 .non],[.str s2,.sl r3 .non,.sl r4 .non]],[],[85,85]⟩)) (.fail))|_,_=>.fail
theorem qCq:∀ vs σ r,(qew vs σ).run=some r→qb2 vs σ=some r:=by
 intro vs σ r h;unfold qew at h
 split at h
 ·exact qad h fun h=>qad h fun h=>by cases h
 ·cases h
theorem qxh (gl:Gl):∀ fr σ e fr' σ',(orc qkY qew fr σ).run=some (e,fr',σ')→LDoes Tryz.prog gl qmi fr σ e fr' σ':=qbq qak (qmX gl ) qah (L:=qnq) (qac (by kernel_rfl)) (by kernel_rfl) qCq
def qvn:LpsT:=fun r fr σ=>bif Nat.beq r 4 then orc qkn qeC fr σ else bif Nat.beq r 9 then orc qkY qew fr σ else .fail
def qc6 (v:qU) (v2 v3:qR) (v4:qU) (v5 v6:qR):Tr PV:=.ite (sNe v v4) (.ret (.bool false)) (.ite (iNe (xLen v2) (xLen v5)) (.ret (.bool false)) (.ite (iNe (xLen v3) (xLen v6)) (.ret (.bool false)) (.ite (qkc 0 v v2 v3 v4 v5 v6) (.ret (.bool (qfF 0 v v2 v3 v4 v5 v6))) (.ite (qjL 0 v v2 v3 v4 v5 v6) (.ite (qjs 0 v v2 v3 v4 v5 v6) (.ret (.bool (qgz 0 v v2 v3 v4 v5 v6))) (.ite (qjl 0 v v2 v3 v4 v5 v6) (.ret (.bool true)) .fail)) .fail))))
theorem qIt (v:qU) (v2 v3:qR) (v4:qU) (v5 v6:qR):(tcall tbT qgr qvn Tryz.f42 [.agg [.str v,.sl v2 .non,.sl v3 .non],.agg [.str v4,.sl v5 .non,.sl v6 .non]]).flat=qc6 v v2 v3 v4 v5 v6:=by kernel_rfl
def qdo (v:qU) (v2 v3:qR) (v4:qU) (v5 v6:qR):Option PV:=(qc6 v v2 v3 v4 v5 v6).run
def qnZ (v:qU) (v2 v3:qR) (v4:qU) (v5 v6:qR):Bool:=(qaZ (gVal (qdo v v2 v3 v4 v5 v6)))
def qnu (v:qU) (v2 v3:qR) (v4:qU) (v5 v6:qR):Bool:=isW (qdo v v2 v3 v4 v5 v6) (.bool (qnZ v v2 v3 v4 v5 v6))
def qvf:List PV→Tr PV|[.agg [.str v,.sl v2 .non,.sl v3 .non],.agg [.str v4,.sl v5 .non,.sl v6 .non]]=>.ite (qnu v v2 v3 v4 v5 v6) (.ret (.bool (qnZ v v2 v3 v4 v5 v6))) (.fail)|_=>.fail
theorem qCs (gl:Gl):SimP Tryz.prog gl 42 fun args=>(qvf args).run:=by
 refine SimP.of_flat (G:=qgr) (L:=qvn) qak (qmX gl ) qah  Tryz.func42 rfl (by rfl) (by kernel_rfl) (qar (L:=lps qvn) [(4,qkC),(9,qmi)] (by kernel_rfl) (List.forall_mem_cons.2 ⟨fun fr σ e fr' σ' h=>qxL gl  fr σ e fr' σ' h,(List.forall_mem_cons.2 ⟨fun fr σ e fr' σ' h=>qxh gl  fr σ e fr' σ' h,(List.forall_mem_nil _)⟩)⟩)) ?_
 intro args x h;unfold qvf at h
 split at h
 ·exact (congrArg Tr.run (qIt _ _ _ _ _ _)).trans (qad h fun h=>by cases h)
 ·cases h
def qgl:GamT:=ofL [(20,.pure qon),(41,.pure qvu),(42,.pure qvf)]
theorem qlL (gl:Gl):qam Tryz.prog gl (gam qgl):=(qae (qtj gl) (qae (qB0 gl) (qae (qCs gl) qag)))
def qoz:Code:=qcu Tryz.f13 4
def qn6:Code:=qcu Tryz.f13 9
def qpb:Code:=qcu Tryz.f13 14
def qoN:LI:=⟨90,[2,3,5],fun e=>match e with|.ret=>[4]|.exit 0=>[2,3]|_=>[],true⟩
def qrH:LpsT:=fun r fr σ=>.fail
def qcW (vs:List PV) (σ:Store):Option (PExit×List PV×Store):=lval (lstep tbT qgl qrH qoz qoN) vs σ
def qho (n:Int) (r r2 r3 r4 r5 r6:qR):Tr LR:=let z1:List PV:=[.str [],.bool false,.sl [] .full];let z2:=nNat n;let z3:Store:=Store.mk [[.sl r .non,.sl r2 .non,.sl r3 .non],[.sl r4 .non,.sl r5 .non,.sl r6 .non]] [] [27,27];.ite (iLt n (xLen r)) (.ite (qas n) (.ite (qaM z1 r z2) (.ite (qas n) (.ite (qaM z1 r4 z2) (.ite (qmz (xStr r z2 0) (qfi r z2 1) (qab (xRow r z2 2)) (xStr r4 z2 0) (qfi r4 z2 1) (qab (xRow r4 z2 2))) (.ite (bNot (qos (xStr r z2 0) (qfi r z2 1) (qab (xRow r z2 2)) (xStr r4 z2 0) (qfi r4 z2 1) (qab (xRow r4 z2 2)))) (.ret (.out .ret [.bool false] z3)) (.ret (.next [.ptr 0 0,.ptr 1 0,.int .i64 (iAdd .i64 n 1)] z3))) .fail) .fail) .fail) .fail) .fail) (.ret (.out (.exit 0) [.ptr 0 0,.ptr 1 0] z3))
theorem qHk (n:Int) (r r2 r3 r4 r5 r6:qR):lstep tbT qgl qrH qoz qoN [.ptr 0 0,.ptr 1 0,.int .i64 n] ⟨[[.sl r .non,.sl r2 .non,.sl r3 .non],[.sl r4 .non,.sl r5 .non,.sl r6 .non]],[],[27,27]⟩=qho n r r2 r3 r4 r5 r6:=by kernel_rfl
theorem qBB (n:Int) (r r2 r3 r4 r5 r6:qR):qcW [.ptr 0 0,.ptr 1 0,.int .i64 n] ⟨[[.sl r .non,.sl r2 .non,.sl r3 .non],[.sl r4 .non,.sl r5 .non,.sl r6 .non]],[],[27,27]⟩=lnext qcW (qho n r r2 r3 r4 r5 r6).run:=by unfold qcW;rw [qaD,qHk]
def qgj (n:Int) (r r2 r3 r4 r5 r6:qR):Option (PExit×List PV×Store):=qcW [.ptr 0 0,.ptr 1 0,.int .i64 n] ⟨[[.sl r .non,.sl r2 .non,.sl r3 .non],[.sl r4 .non,.sl r5 .non,.sl r6 .non]],[],[27,27]⟩
def qiU (n:Int) (r r2 r3 r4 r5 r6:qR):Bool:=(qaZ (gOut (qgj n r r2 r3 r4 r5 r6) 0))
def qm6 (n:Int) (r r2 r3 r4 r5 r6:qR):Bool:=isW (qgj n r r2 r3 r4 r5 r6) (.ret,[.bool (qiU n r r2 r3 r4 r5 r6)],⟨[[.sl r .non,.sl r2 .non,.sl r3 .non],[.sl r4 .non,.sl r5 .non,.sl r6 .non]],[],[27,27]⟩)
def qm5 (n:Int) (r r2 r3 r4 r5 r6:qR):Bool:=isW (qgj n r r2 r3 r4 r5 r6) ((.exit 0),[.ptr 0 0,.ptr 1 0],⟨[[.sl r .non,.sl r2 .non,.sl r3 .non],[.sl r4 .non,.sl r5 .non,.sl r6 .non]],[],[27,27]⟩)
def qgf:List PV→Store→Tr (PExit×List PV×Store)|[.ptr 0 0,.ptr 1 0,.int .i64 n],⟨[[.sl r .non,.sl r2 .non,.sl r3 .non],[.sl r4 .non,.sl r5 .non,.sl r6 .non]],[],[27,27]⟩=>.ite (qm6 n r r2 r3 r4 r5 r6) (.ret (.ret,[.bool (qiU n r r2 r3 r4 r5 r6)],⟨[[.sl r .non,.sl r2 .non,.sl r3 .non],[.sl r4 .non,.sl r5 .non,.sl r6 .non]],[],[27,27]⟩)) (.ite (qm5 n r r2 r3 r4 r5 r6) (.ret ((.exit 0),[.ptr 0 0,.ptr 1 0],⟨[[.sl r .non,.sl r2 .non,.sl r3 .non],[.sl r4 .non,.sl r5 .non,.sl r6 .non]],[],[27,27]⟩)) (.fail))|_,_=>.fail
theorem qFn:∀ vs σ r,(qgf vs σ).run=some r→qcW vs σ=some r:=by
 intro vs σ r h;unfold qgf at h
 split at h
 ·exact qad h fun h=>qad h fun h=>by cases h
 ·cases h
theorem qzo (gl:Gl):∀ fr σ e fr' σ',(orc qoN qgf fr σ).run=some (e,fr',σ')→LDoes Tryz.prog gl qoz fr σ e fr' σ':=qbq qak (qlL gl ) qah (L:=qrH) (qac (by kernel_rfl)) (by kernel_rfl) qFn
def qoy:LI:=⟨90,[2,3,6],fun e=>match e with|.ret=>[4]|.exit 2=>[2,3]|_=>[],true⟩
def qqf:LpsT:=fun r fr σ=>.fail
def qcX (vs:List PV) (σ:Store):Option (PExit×List PV×Store):=lval (lstep tbT qgl qqf qn6 qoy) vs σ
def qhH (n:Int) (r r2 r3 r4 r5 r6:qR):Tr LR:=let z1:List PV:=[.str [],.sl [] .full,.sl [] .full];let z2:=nNat n;let z3:Store:=Store.mk [[.sl r .non,.sl r2 .non,.sl r3 .non],[.sl r4 .non,.sl r5 .non,.sl r6 .non]] [] [27,27];.ite (iLt n (xLen r2)) (.ite (qas n) (.ite (qaM z1 r2 z2) (.ite (qas n) (.ite (qaM z1 r5 z2) (.ite (qnu (xStr r2 z2 0) (qab (xRow r2 z2 1)) (qab (xRow r2 z2 2)) (xStr r5 z2 0) (qab (xRow r5 z2 1)) (qab (xRow r5 z2 2))) (.ite (bNot (qnZ (xStr r2 z2 0) (qab (xRow r2 z2 1)) (qab (xRow r2 z2 2)) (xStr r5 z2 0) (qab (xRow r5 z2 1)) (qab (xRow r5 z2 2)))) (.ret (.out .ret [.bool false] z3)) (.ret (.next [.ptr 0 0,.ptr 1 0,.int .i64 (iAdd .i64 n 1)] z3))) .fail) .fail) .fail) .fail) .fail) (.ret (.out (.exit 2) [.ptr 0 0,.ptr 1 0] z3))
theorem qHl (n:Int) (r r2 r3 r4 r5 r6:qR):lstep tbT qgl qqf qn6 qoy [.ptr 0 0,.ptr 1 0,.int .i64 n] ⟨[[.sl r .non,.sl r2 .non,.sl r3 .non],[.sl r4 .non,.sl r5 .non,.sl r6 .non]],[],[27,27]⟩=qhH n r r2 r3 r4 r5 r6:=by kernel_rfl
theorem qAD (n:Int) (r r2 r3 r4 r5 r6:qR):qcX [.ptr 0 0,.ptr 1 0,.int .i64 n] ⟨[[.sl r .non,.sl r2 .non,.sl r3 .non],[.sl r4 .non,.sl r5 .non,.sl r6 .non]],[],[27,27]⟩=lnext qcX (qhH n r r2 r3 r4 r5 r6).run:=by unfold qcX;rw [qaD,qHl]
def qhV (n:Int) (r r2 r3 r4 r5 r6:qR):Option (PExit×List PV×Store):=qcX [.ptr 0 0,.ptr 1 0,.int .i64 n] ⟨[[.sl r .non,.sl r2 .non,.sl r3 .non],[.sl r4 .non,.sl r5 .non,.sl r6 .non]],[],[27,27]⟩
def qik (n:Int) (r r2 r3 r4 r5 r6:qR):Bool:=(qaZ (gOut (qhV n r r2 r3 r4 r5 r6) 0))
def qmU (n:Int) (r r2 r3 r4 r5 r6:qR):Bool:=isW (qhV n r r2 r3 r4 r5 r6) (.ret,[.bool (qik n r r2 r3 r4 r5 r6)],⟨[[.sl r .non,.sl r2 .non,.sl r3 .non],[.sl r4 .non,.sl r5 .non,.sl r6 .non]],[],[27,27]⟩)
def qmV (n:Int) (r r2 r3 r4 r5 r6:qR):Bool:=isW (qhV n r r2 r3 r4 r5 r6) ((.exit 2),[.ptr 0 0,.ptr 1 0],⟨[[.sl r .non,.sl r2 .non,.sl r3 .non],[.sl r4 .non,.sl r5 .non,.sl r6 .non]],[],[27,27]⟩)
def qgo:List PV→Store→Tr (PExit×List PV×Store)|[.ptr 0 0,.ptr 1 0,.int .i64 n],⟨[[.sl r .non,.sl r2 .non,.sl r3 .non],[.sl r4 .non,.sl r5 .non,.sl r6 .non]],[],[27,27]⟩=>.ite (qmU n r r2 r3 r4 r5 r6) (.ret (.ret,[.bool (qik n r r2 r3 r4 r5 r6)],⟨[[.sl r .non,.sl r2 .non,.sl r3 .non],[.sl r4 .non,.sl r5 .non,.sl r6 .non]],[],[27,27]⟩)) (.ite (qmV n r r2 r3 r4 r5 r6) (.ret ((.exit 2),[.ptr 0 0,.ptr 1 0],⟨[[.sl r .non,.sl r2 .non,.sl r3 .non],[.sl r4 .non,.sl r5 .non,.sl r6 .non]],[],[27,27]⟩)) (.fail))|_,_=>.fail
theorem qEg:∀ vs σ r,(qgo vs σ).run=some r→qcX vs σ=some r:=by
 intro vs σ r h;unfold qgo at h
 split at h
 ·exact qad h fun h=>qad h fun h=>by cases h
 ·cases h
theorem qy8 (gl:Gl):∀ fr σ e fr' σ',(orc qoy qgo fr σ).run=some (e,fr',σ')→LDoes Tryz.prog gl qn6 fr σ e fr' σ':=qbq qak (qlL gl ) qah (L:=qqf) (qac (by kernel_rfl)) (by kernel_rfl) qEg
def qn3:LI:=⟨90,[2,3,7],fun e=>match e with|.ret=>[4]|.exit 4=>[]|_=>[],true⟩
def qqA:LpsT:=fun r fr σ=>.fail
def qcZ (vs:List PV) (σ:Store):Option (PExit×List PV×Store):=lval (lstep tbT qgl qqA qpb qn3) vs σ
def qhG (n:Int) (r r2 r3 r4 r5 r6:qR):Tr LR:=let z1:List PV:=[.str [],.sl [] .full,.sl [] .full];let z2:=nNat n;let z3:Store:=Store.mk [[.sl r .non,.sl r2 .non,.sl r3 .non],[.sl r4 .non,.sl r5 .non,.sl r6 .non]] [] [27,27];.ite (iLt n (xLen r3)) (.ite (qas n) (.ite (qaM z1 r3 z2) (.ite (qas n) (.ite (qaM z1 r6 z2) (.ite (qhU (xStr r3 z2 0) (qab (xRow r3 z2 1)) (qab (xRow r3 z2 2)) (xStr r6 z2 0) (qab (xRow r6 z2 1)) (qab (xRow r6 z2 2))) (.ite (bNot (ql0 (xStr r3 z2 0) (qab (xRow r3 z2 1)) (qab (xRow r3 z2 2)) (xStr r6 z2 0) (qab (xRow r6 z2 1)) (qab (xRow r6 z2 2)))) (.ret (.out .ret [.bool false] z3)) (.ret (.next [.ptr 0 0,.ptr 1 0,.int .i64 (iAdd .i64 n 1)] z3))) .fail) .fail) .fail) .fail) .fail) (.ret (.out (.exit 4) [] z3))
theorem qHY (n:Int) (r r2 r3 r4 r5 r6:qR):lstep tbT qgl qqA qpb qn3 [.ptr 0 0,.ptr 1 0,.int .i64 n] ⟨[[.sl r .non,.sl r2 .non,.sl r3 .non],[.sl r4 .non,.sl r5 .non,.sl r6 .non]],[],[27,27]⟩=qhG n r r2 r3 r4 r5 r6:=by kernel_rfl
theorem qAm (n:Int) (r r2 r3 r4 r5 r6:qR):qcZ [.ptr 0 0,.ptr 1 0,.int .i64 n] ⟨[[.sl r .non,.sl r2 .non,.sl r3 .non],[.sl r4 .non,.sl r5 .non,.sl r6 .non]],[],[27,27]⟩=lnext qcZ (qhG n r r2 r3 r4 r5 r6).run:=by unfold qcZ;rw [qaD,qHY]
def qky (n:Int) (r r2 r3 r4 r5 r6:qR):Option (PExit×List PV×Store):=qcZ [.ptr 0 0,.ptr 1 0,.int .i64 n] ⟨[[.sl r .non,.sl r2 .non,.sl r3 .non],[.sl r4 .non,.sl r5 .non,.sl r6 .non]],[],[27,27]⟩
def qi4 (n:Int) (r r2 r3 r4 r5 r6:qR):Bool:=(qaZ (gOut (qky n r r2 r3 r4 r5 r6) 0))
def qnp (n:Int) (r r2 r3 r4 r5 r6:qR):Bool:=isW (qky n r r2 r3 r4 r5 r6) (.ret,[.bool (qi4 n r r2 r3 r4 r5 r6)],⟨[[.sl r .non,.sl r2 .non,.sl r3 .non],[.sl r4 .non,.sl r5 .non,.sl r6 .non]],[],[27,27]⟩)
def qm1 (n:Int) (r r2 r3 r4 r5 r6:qR):Bool:=isW (qky n r r2 r3 r4 r5 r6) ((.exit 4),[],⟨[[.sl r .non,.sl r2 .non,.sl r3 .non],[.sl r4 .non,.sl r5 .non,.sl r6 .non]],[],[27,27]⟩)
def qgh:List PV→Store→Tr (PExit×List PV×Store)|[.ptr 0 0,.ptr 1 0,.int .i64 n],⟨[[.sl r .non,.sl r2 .non,.sl r3 .non],[.sl r4 .non,.sl r5 .non,.sl r6 .non]],[],[27,27]⟩=>.ite (qnp n r r2 r3 r4 r5 r6) (.ret (.ret,[.bool (qi4 n r r2 r3 r4 r5 r6)],⟨[[.sl r .non,.sl r2 .non,.sl r3 .non],[.sl r4 .non,.sl r5 .non,.sl r6 .non]],[],[27,27]⟩)) (.ite (qm1 n r r2 r3 r4 r5 r6) (.ret ((.exit 4),[],⟨[[.sl r .non,.sl r2 .non,.sl r3 .non],[.sl r4 .non,.sl r5 .non,.sl r6 .non]],[],[27,27]⟩)) (.fail))|_,_=>.fail
theorem qF8:∀ vs σ r,(qgh vs σ).run=some r→qcZ vs σ=some r:=by
 intro vs σ r h;unfold qgh at h
 split at h
 ·exact qad h fun h=>qad h fun h=>by cases h
 ·cases h
theorem qzG (gl:Gl):∀ fr σ e fr' σ',(orc qn3 qgh fr σ).run=some (e,fr',σ')→LDoes Tryz.prog gl qpb fr σ e fr' σ':=qbq qak (qlL gl ) qah (L:=qqA) (qac (by kernel_rfl)) (by kernel_rfl) qF8
def qy1:LpsT:=fun r fr σ=>bif Nat.beq r 4 then orc qoN qgf fr σ else bif Nat.beq r 9 then orc qoy qgo fr σ else bif Nat.beq r 14 then orc qn3 qgh fr σ else .fail
def qdp (v v2 v3 v4 v5 v6:qR):Tr PV:=.ite (iNe (xLen v) (xLen v4)) (.ret (.bool false)) (.ite (iNe (xLen v2) (xLen v5)) (.ret (.bool false)) (.ite (iNe (xLen v3) (xLen v6)) (.ret (.bool false)) (.ite (qm6 0 v v2 v3 v4 v5 v6) (.ret (.bool (qiU 0 v v2 v3 v4 v5 v6))) (.ite (qm5 0 v v2 v3 v4 v5 v6) (.ite (qmU 0 v v2 v3 v4 v5 v6) (.ret (.bool (qik 0 v v2 v3 v4 v5 v6))) (.ite (qmV 0 v v2 v3 v4 v5 v6) (.ite (qnp 0 v v2 v3 v4 v5 v6) (.ret (.bool (qi4 0 v v2 v3 v4 v5 v6))) (.ite (qm1 0 v v2 v3 v4 v5 v6) (.ret (.bool true)) .fail)) .fail)) .fail))))
theorem qKd (v v2 v3 v4 v5 v6:qR):(tcall tbT qgl qy1 Tryz.f13 [.agg [.sl v .non,.sl v2 .non,.sl v3 .non],.agg [.sl v4 .non,.sl v5 .non,.sl v6 .non]]).flat=qdp v v2 v3 v4 v5 v6:=by kernel_rfl
def qeJ (v v2 v3 v4 v5 v6:qR):Option PV:=(qdp v v2 v3 v4 v5 v6).run
def qwG (v v2 v3 v4 v5 v6:qR):Bool:=(qaZ (gVal (qeJ v v2 v3 v4 v5 v6)))
def qqL (v v2 v3 v4 v5 v6:qR):Bool:=isW (qeJ v v2 v3 v4 v5 v6) (.bool (qwG v v2 v3 v4 v5 v6))
def qAb:List PV→Tr PV|[.agg [.sl v .non,.sl v2 .non,.sl v3 .non],.agg [.sl v4 .non,.sl v5 .non,.sl v6 .non]]=>.ite (qqL v v2 v3 v4 v5 v6) (.ret (.bool (qwG v v2 v3 v4 v5 v6))) (.fail)|_=>.fail
theorem qD2 (gl:Gl):SimP Tryz.prog gl 13 fun args=>(qAb args).run:=by
 refine SimP.of_flat (G:=qgl) (L:=qy1) qak (qlL gl ) qah  Tryz.func13 rfl (by rfl) (by kernel_rfl) (qar (L:=lps qy1) [(4,qoz),(9,qn6),(14,qpb)] (by kernel_rfl) (List.forall_mem_cons.2 ⟨fun fr σ e fr' σ' h=>qzo gl  fr σ e fr' σ' h,(List.forall_mem_cons.2 ⟨fun fr σ e fr' σ' h=>qy8 gl  fr σ e fr' σ' h,(List.forall_mem_cons.2 ⟨fun fr σ e fr' σ' h=>qzG gl  fr σ e fr' σ' h,(List.forall_mem_nil _)⟩)⟩)⟩)) ?_
 intro args x h;unfold qAb at h
 split at h
 ·exact (congrArg Tr.run (qKd _ _ _ _ _ _)).trans (qad h fun h=>by cases h)
 ·cases h
def qwz:GamT:=ofL [(11,.pure qzS),(16,.pure qzw)]
theorem qCk (gl:Gl) (hg:GlLex gl):qam Tryz.prog gl (gam qwz):=(qae (qGu gl hg) (qae (qDQ gl hg) qag))
def qBD:LpsT:=fun r fr σ=>.fail
def qqn:Tr PV:=let z1:=qpD [112,40,88,41,32,58,45,32,113,40,88,44,32,95,41,44,32,88,32,33,61,32,45,51,46];let z2:List PV:=[.int .i64 0,.str [],.sl [] .full,.int .i64 0,.int .i64 0,.str [],.int .i64 0,.int .i64 0,.str [],.int .i64 0,.str [],.int .i64 0,.int .i64 0,.str []];.ite (qra [112,40,88,41,32,58,45,32,113,40,88,44,32,95,41,44,32,88,32,33,61,32,45,51,46]) (.ite (qrS [112,40,88,41,32,58,45,32,46]) (.ite (iEq (qpc [112,40,88,41,32,58,45,32,113,40,88,44,32,95,41,44,32,88,32,33,61,32,45,51,46]) 0) (.ite (iEq (qou [112,40,88,41,32,58,45,32,46]) 130) (.ite (iEq (qv7 [112,40,88,41,32,58,45,32,46]) 8) (.ite (sEq (qud [112,40,88,41,32,58,45,32,113,40,88,44,32,95,41,44,32,88,32,33,61,32,45,51,46]) [112]) (.ite (iEq (xLen z1) 2) (.ite (qas 0) (.ite (qaM z2 z1 (nNat 0)) (.ite (iEq (xInt z1 (nNat 0) 0) 1) (.ite (qas 0) (.ite (qaM z2 z1 (nNat 0)) (.ite (qas 1) (.ite (qaM [.int .i64 0,.str [],.int .i64 0,.int .i64 0,.str []] (xRow z1 (nNat 0) 2) (nNat 1)) (.ite (iEq (xInt (xRow z1 (nNat 0) 2) (nNat 1) 0) 3) (.ite (qas 1) (.ite (qaM z2 z1 (nNat 1)) (.ite (iEq (xInt z1 (nNat 1) 3) 2) (.ite (qas 1) (.ite (qaM z2 z1 (nNat 1)) (.ret (.bool (iEq (xInt z1 (nNat 1) 12) (-3)))) .fail) .fail) (.ret (.bool false))) .fail) .fail) (.ret (.bool false))) .fail) .fail) .fail) .fail) (.ret (.bool false))) .fail) .fail) (.ret (.bool false))) (.ret (.bool false))) (.ret (.bool false))) (.ret (.bool false))) (.ret (.bool false))) .fail) .fail
theorem qHF:(tcall tbT qwz qBD Tryz.f14 []).flat=qqn:=by kernel_rfl
def qpp:Option PV:=(qqn).run
def qo7:Bool:=(qaZ (gVal (qpp)))
def qmE:Bool:=isW (qpp) (.bool (qo7))
def qvA:List PV→Tr PV|[]=>.ite (qmE) (.ret (.bool (qo7))) (.fail)|_=>.fail
theorem qCd (gl:Gl) (hg:GlLex gl):SimP Tryz.prog gl 14 fun args=>(qvA args).run:=by
 refine SimP.of_flat (G:=qwz) (L:=qBD) qak (qCk gl hg ) qah  Tryz.func14 rfl (by rfl) (by kernel_rfl) (qac (by kernel_rfl)) ?_
 intro args x h;unfold qvA at h
 split at h
 ·exact (congrArg Tr.run (qHF)).trans (qad h fun h=>by cases h)
 ·cases h
end Go.Pv
set_option maxHeartbeats 4000000
set_option maxRecDepth 200000
set_option linter.unusedSimpArgs false
set_option linter.unusedVariables false
namespace Go.Pv
open Go Go.Proofs
def qxx:GamT:=ofL []
theorem qBa (gl:Gl):qam Tryz.prog gl (gam qxx):=qag
def qux:Code:=qcu Tryz.f60 4
def qu3:LI:=⟨26,[0,1,12,13],fun e=>match e with|.ret=>[4]|.exit 0=>[]|_=>[],true⟩
def qua:LpsT:=fun r fr σ=>.fail
def qeL (vs:List PV) (σ:Store):Option (PExit×List PV×Store):=lval (lstep tbT qxx qua qux qu3) vs σ
def qlF (s1 s2:qR) (n n2:Int):Tr LR:=let z1:List PV:=[.int .i64 0,.str [],.int .i64 0,.int .i64 0,.str []];let z2:=nNat n2;let z3:Store:=Store.mk [] [] [];.ite (iLt n2 n) (.ite (qas n2) (.ite (qaM z1 s1 z2) (.ite (qas n2) (.ite (qaM z1 s2 z2) (.ite (bNot (bAnd (iEq (xInt s1 z2 0) (xInt s2 z2 0)) (bAnd (sEq (xStr s1 z2 1) (xStr s2 z2 1)) (bAnd (bAnd (iEq (xInt s1 z2 2) (xInt s2 z2 2)) (bAnd (iEq (xInt s1 z2 3) (xInt s2 z2 3)) (bAnd (sEq (xStr s1 z2 4) (xStr s2 z2 4)) true))) true)))) (.ret (.out .ret [.bool false] z3)) (.ret (.next [.sl s1 .non,.sl s2 .non,.int .i64 n,.int .i64 (iAdd .i64 n2 1)] z3))) .fail) .fail) .fail) .fail) (.ret (.out (.exit 0) [] z3))
theorem qJL (s1 s2:qR) (n n2:Int):lstep tbT qxx qua qux qu3 [.sl s1 .non,.sl s2 .non,.int .i64 n,.int .i64 n2] ⟨[],[],[]⟩=qlF s1 s2 n n2:=by kernel_rfl
theorem qFa (s1 s2:qR) (n n2:Int):qeL [.sl s1 .non,.sl s2 .non,.int .i64 n,.int .i64 n2] ⟨[],[],[]⟩=lnext qeL (qlF s1 s2 n n2).run:=by unfold qeL;rw [qaD,qJL]
def qpN (s1 s2:qR) (n n2:Int):Option (PExit×List PV×Store):=qeL [.sl s1 .non,.sl s2 .non,.int .i64 n,.int .i64 n2] ⟨[],[],[]⟩
def qk8 (s1 s2:qR) (n n2:Int):Bool:=(qaZ (gOut (qpN s1 s2 n n2) 0))
def qqg (s1 s2:qR) (n n2:Int):Bool:=isW (qpN s1 s2 n n2) (.ret,[.bool (qk8 s1 s2 n n2)],⟨[],[],[]⟩)
def qrP (s1 s2:qR) (n n2:Int):Bool:=isW (qpN s1 s2 n n2) ((.exit 0),[],⟨[],[],[]⟩)
def qiA:List PV→Store→Tr (PExit×List PV×Store)|[.sl s1 .non,.sl s2 .non,.int .i64 n,.int .i64 n2],⟨[],[],[]⟩=>.ite (qqg s1 s2 n n2) (.ret (.ret,[.bool (qk8 s1 s2 n n2)],⟨[],[],[]⟩)) (.ite (qrP s1 s2 n n2) (.ret ((.exit 0),[],⟨[],[],[]⟩)) (.fail))|_,_=>.fail
theorem qIo:∀ vs σ r,(qiA vs σ).run=some r→qeL vs σ=some r:=by
 intro vs σ r h;unfold qiA at h
 split at h
 ·exact qad h fun h=>qad h fun h=>by cases h
 ·cases h
theorem qCh (gl:Gl):∀ fr σ e fr' σ',(orc qu3 qiA fr σ).run=some (e,fr',σ')→LDoes Tryz.prog gl qux fr σ e fr' σ':=qbq qak (qBa gl ) qah (L:=qua) (qac (by kernel_rfl)) (by kernel_rfl) qIo
def qE3:LpsT:=fun r fr σ=>bif Nat.beq r 4 then orc qu3 qiA fr σ else .fail
def qp9 (s1 s2:qR):Tr PV:=.ite (iNe (xLen s1) (xLen s2)) (.ret (.bool false)) (.ite (qqg s1 s2 (xLen s1) 0) (.ret (.bool (qk8 s1 s2 (xLen s1) 0))) (.ite (qrP s1 s2 (xLen s1) 0) (.ret (.bool true)) .fail))
theorem qMx (s1 s2:qR):(tcall tbT qxx qE3 Tryz.f60 [.sl s1 .non,.sl s2 .non]).flat=qp9 s1 s2:=by kernel_rfl
def qsG (s1 s2:qR):Option PV:=(qp9 s1 s2).run
def qAC (s1 s2:qR):Bool:=(qaZ (gVal (qsG s1 s2)))
def qt6 (s1 s2:qR):Bool:=isW (qsG s1 s2) (.bool (qAC s1 s2))
def qF2:List PV→Tr PV|[.sl s1 .non,.sl s2 .non]=>.ite (qt6 s1 s2) (.ret (.bool (qAC s1 s2))) (.fail)|_=>.fail
theorem qIA (gl:Gl):SimP Tryz.prog gl 60 fun args=>(qF2 args).run:=by
 refine SimP.of_flat (G:=qxx) (L:=qE3) qak (qBa gl ) qah  Tryz.func60 rfl (by rfl) (by kernel_rfl) (qar (L:=lps qE3) [(4,qux)] (by kernel_rfl) (List.forall_mem_cons.2 ⟨fun fr σ e fr' σ' h=>qCh gl  fr σ e fr' σ' h,(List.forall_mem_nil _)⟩)) ?_
 intro args x h;unfold qF2 at h
 split at h
 ·exact (congrArg Tr.run (qMx _ _)).trans (qad h fun h=>by cases h)
 ·cases h
def qxY:GamT:=ofL []
theorem qBE (gl:Gl):qam Tryz.prog gl (gam qxY):=qag
def qvK:Code:=qcu Tryz.f115 4
def quO:LI:=⟨26,[0,1,12,13],fun e=>match e with|.ret=>[4]|.exit 0=>[]|_=>[],true⟩
def qvb:LpsT:=fun r fr σ=>.fail
def qeD (vs:List PV) (σ:Store):Option (PExit×List PV×Store):=lval (lstep tbT qxY qvb qvK quO) vs σ
def qkB (s1 s2:qR) (n n2:Int):Tr LR:=let z1:Store:=Store.mk [] [] [];.ite (iLt n2 n) (.ite (qas n2) (.ite (qaM [.int .i64 0] s1 (nNat n2)) (.ite (qas n2) (.ite (qaM [.int .i64 0] s2 (nNat n2)) (.ite (iNe (xInt s1 (nNat n2) 0) (xInt s2 (nNat n2) 0)) (.ret (.out .ret [.bool false] z1)) (.ret (.next [.sl s1 .non,.sl s2 .non,.int .i64 n,.int .i64 (iAdd .i64 n2 1)] z1))) .fail) .fail) .fail) .fail) (.ret (.out (.exit 0) [] z1))
theorem qJ8 (s1 s2:qR) (n n2:Int):lstep tbT qxY qvb qvK quO [.sl s1 .non,.sl s2 .non,.int .i64 n,.int .i64 n2] ⟨[],[],[]⟩=qkB s1 s2 n n2:=by kernel_rfl
theorem qGB (s1 s2:qR) (n n2:Int):qeD [.sl s1 .non,.sl s2 .non,.int .i64 n,.int .i64 n2] ⟨[],[],[]⟩=lnext qeD (qkB s1 s2 n n2).run:=by unfold qeD;rw [qaD,qJ8]
def qr3 (s1 s2:qR) (n n2:Int):Option (PExit×List PV×Store):=qeD [.sl s1 .non,.sl s2 .non,.int .i64 n,.int .i64 n2] ⟨[],[],[]⟩
def qkl (s1 s2:qR) (n n2:Int):Bool:=(qaZ (gOut (qr3 s1 s2 n n2) 0))
def qrk (s1 s2:qR) (n n2:Int):Bool:=isW (qr3 s1 s2 n n2) (.ret,[.bool (qkl s1 s2 n n2)],⟨[],[],[]⟩)
def qrO (s1 s2:qR) (n n2:Int):Bool:=isW (qr3 s1 s2 n n2) ((.exit 0),[],⟨[],[],[]⟩)
def qhQ:List PV→Store→Tr (PExit×List PV×Store)|[.sl s1 .non,.sl s2 .non,.int .i64 n,.int .i64 n2],⟨[],[],[]⟩=>.ite (qrk s1 s2 n n2) (.ret (.ret,[.bool (qkl s1 s2 n n2)],⟨[],[],[]⟩)) (.ite (qrO s1 s2 n n2) (.ret ((.exit 0),[],⟨[],[],[]⟩)) (.fail))|_,_=>.fail
theorem qGY:∀ vs σ r,(qhQ vs σ).run=some r→qeD vs σ=some r:=by
 intro vs σ r h;unfold qhQ at h
 split at h
 ·exact qad h fun h=>qad h fun h=>by cases h
 ·cases h
theorem qCg (gl:Gl):∀ fr σ e fr' σ',(orc quO qhQ fr σ).run=some (e,fr',σ')→LDoes Tryz.prog gl qvK fr σ e fr' σ':=qbq qak (qBE gl ) qah (L:=qvb) (qac (by kernel_rfl)) (by kernel_rfl) qGY
def qDP:LpsT:=fun r fr σ=>bif Nat.beq r 4 then orc quO qhQ fr σ else .fail
def qrQ (s1 s2:qR):Tr PV:=.ite (iNe (xLen s1) (xLen s2)) (.ret (.bool false)) (.ite (qrk s1 s2 (xLen s1) 0) (.ret (.bool (qkl s1 s2 (xLen s1) 0))) (.ite (qrO s1 s2 (xLen s1) 0) (.ret (.bool true)) .fail))
theorem qNn (s1 s2:qR):(tcall tbT qxY qDP Tryz.f115 [.sl s1 .non,.sl s2 .non]).flat=qrQ s1 s2:=by kernel_rfl
def qsJ (s1 s2:qR):Option PV:=(qrQ s1 s2).run
def qBF (s1 s2:qR):Bool:=(qaZ (gVal (qsJ s1 s2)))
def qtU (s1 s2:qR):Bool:=isW (qsJ s1 s2) (.bool (qBF s1 s2))
def qDx:List PV→Tr PV|[.sl s1 .non,.sl s2 .non]=>.ite (qtU s1 s2) (.ret (.bool (qBF s1 s2))) (.fail)|_=>.fail
theorem qHZ (gl:Gl):SimP Tryz.prog gl 115 fun args=>(qDx args).run:=by
 refine SimP.of_flat (G:=qxY) (L:=qDP) qak (qBE gl ) qah  Tryz.func115 rfl (by rfl) (by kernel_rfl) (qar (L:=lps qDP) [(4,qvK)] (by kernel_rfl) (List.forall_mem_cons.2 ⟨fun fr σ e fr' σ' h=>qCg gl  fr σ e fr' σ' h,(List.forall_mem_nil _)⟩)) ?_
 intro args x h;unfold qDx at h
 split at h
 ·exact (congrArg Tr.run (qNn _ _)).trans (qad h fun h=>by cases h)
 ·cases h
def qwT:GamT:=ofL []
theorem qAU (gl:Gl):qam Tryz.prog gl (gam qwT):=qag
def qvl:Code:=qcu Tryz.f116 4
def qwD:LI:=⟨26,[0,1,12,13],fun e=>match e with|.ret=>[4]|.exit 0=>[]|_=>[],true⟩
def qwv:LpsT:=fun r fr σ=>.fail
def qeK (vs:List PV) (σ:Store):Option (PExit×List PV×Store):=lval (lstep tbT qwT qwv qvl qwD) vs σ
def qlp (s1 s2:qR) (n n2:Int):Tr LR:=let z1:=nNat n2;let z2:Store:=Store.mk [] [] [];.ite (iLt n2 n) (.ite (qas n2) (.ite (qaM [.str [],.int .i64 0] s1 z1) (.ite (qas n2) (.ite (qaM [.str [],.int .i64 0] s2 z1) (.ite (bNot (bAnd (sEq (xStr s1 z1 0) (xStr s2 z1 0)) (bAnd (iEq (xInt s1 z1 1) (xInt s2 z1 1)) true))) (.ret (.out .ret [.bool false] z2)) (.ret (.next [.sl s1 .non,.sl s2 .non,.int .i64 n,.int .i64 (iAdd .i64 n2 1)] z2))) .fail) .fail) .fail) .fail) (.ret (.out (.exit 0) [] z2))
theorem qJv (s1 s2:qR) (n n2:Int):lstep tbT qwT qwv qvl qwD [.sl s1 .non,.sl s2 .non,.int .i64 n,.int .i64 n2] ⟨[],[],[]⟩=qlp s1 s2 n n2:=by kernel_rfl
theorem qFd (s1 s2:qR) (n n2:Int):qeK [.sl s1 .non,.sl s2 .non,.int .i64 n,.int .i64 n2] ⟨[],[],[]⟩=lnext qeK (qlp s1 s2 n n2).run:=by unfold qeK;rw [qaD,qJv]
def qrM (s1 s2:qR) (n n2:Int):Option (PExit×List PV×Store):=qeK [.sl s1 .non,.sl s2 .non,.int .i64 n,.int .i64 n2] ⟨[],[],[]⟩
def qlH (s1 s2:qR) (n n2:Int):Bool:=(qaZ (gOut (qrM s1 s2 n n2) 0))
def qq5 (s1 s2:qR) (n n2:Int):Bool:=isW (qrM s1 s2 n n2) (.ret,[.bool (qlH s1 s2 n n2)],⟨[],[],[]⟩)
def qro (s1 s2:qR) (n n2:Int):Bool:=isW (qrM s1 s2 n n2) ((.exit 0),[],⟨[],[],[]⟩)
def qia:List PV→Store→Tr (PExit×List PV×Store)|[.sl s1 .non,.sl s2 .non,.int .i64 n,.int .i64 n2],⟨[],[],[]⟩=>.ite (qq5 s1 s2 n n2) (.ret (.ret,[.bool (qlH s1 s2 n n2)],⟨[],[],[]⟩)) (.ite (qro s1 s2 n n2) (.ret ((.exit 0),[],⟨[],[],[]⟩)) (.fail))|_,_=>.fail
theorem qGT:∀ vs σ r,(qia vs σ).run=some r→qeK vs σ=some r:=by
 intro vs σ r h;unfold qia at h
 split at h
 ·exact qad h fun h=>qad h fun h=>by cases h
 ·cases h
theorem qCK (gl:Gl):∀ fr σ e fr' σ',(orc qwD qia fr σ).run=some (e,fr',σ')→LDoes Tryz.prog gl qvl fr σ e fr' σ':=qbq qak (qAU gl ) qah (L:=qwv) (qac (by kernel_rfl)) (by kernel_rfl) qGT
def qFP:LpsT:=fun r fr σ=>bif Nat.beq r 4 then orc qwD qia fr σ else .fail
def qq2 (s1 s2:qR):Tr PV:=.ite (iNe (xLen s1) (xLen s2)) (.ret (.bool false)) (.ite (qq5 s1 s2 (xLen s1) 0) (.ret (.bool (qlH s1 s2 (xLen s1) 0))) (.ite (qro s1 s2 (xLen s1) 0) (.ret (.bool true)) .fail))
theorem qNp (s1 s2:qR):(tcall tbT qwT qFP Tryz.f116 [.sl s1 .non,.sl s2 .non]).flat=qq2 s1 s2:=by kernel_rfl
def qsR (s1 s2:qR):Option PV:=(qq2 s1 s2).run
def qBk (s1 s2:qR):Bool:=(qaZ (gVal (qsR s1 s2)))
def quU (s1 s2:qR):Bool:=isW (qsR s1 s2) (.bool (qBk s1 s2))
def qF5:List PV→Tr PV|[.sl s1 .non,.sl s2 .non]=>.ite (quU s1 s2) (.ret (.bool (qBk s1 s2))) (.fail)|_=>.fail
theorem qID (gl:Gl):SimP Tryz.prog gl 116 fun args=>(qF5 args).run:=by
 refine SimP.of_flat (G:=qwT) (L:=qFP) qak (qAU gl ) qah  Tryz.func116 rfl (by rfl) (by kernel_rfl) (qar (L:=lps qFP) [(4,qvl)] (by kernel_rfl) (List.forall_mem_cons.2 ⟨fun fr σ e fr' σ' h=>qCK gl  fr σ e fr' σ' h,(List.forall_mem_nil _)⟩)) ?_
 intro args x h;unfold qF5 at h
 split at h
 ·exact (congrArg Tr.run (qNp _ _)).trans (qad h fun h=>by cases h)
 ·cases h
def qvr:GamT:=ofL [(60,.pure qF2)]
theorem qDe (gl:Gl):qam Tryz.prog gl (gam qvr):=(qae (qIA gl) qag)
def qBP:LpsT:=fun r fr σ=>.fail
def qrb (a:qU) (a2:qR) (b:qU) (b2:qR):Tr PV:=.ite (sEq a b) (.ite (qt6 (qab a2) (qab b2)) (.ret (.bool (qAC (qab a2) (qab b2)))) .fail) (.ret (.bool false))
theorem qG2 (a:qU) (a2:qR) (b:qU) (b2:qR):(tcall tbT qvr qBP Tryz.f25 [.agg [.str a,.sl a2 .non],.agg [.str b,.sl b2 .non]]).flat=qrb a a2 b b2:=by kernel_rfl
def qoC (a:qU) (a2:qR) (b:qU) (b2:qR):Option PV:=(qrb a a2 b b2).run
def qfO (a:qU) (a2:qR) (b:qU) (b2:qR):Bool:=(qaZ (gVal (qoC a a2 b b2)))
def qdw (a:qU) (a2:qR) (b:qU) (b2:qR):Bool:=isW (qoC a a2 b b2) (.bool (qfO a a2 b b2))
def qiC:List PV→Tr PV|[.agg [.str a,.sl a2 .non],.agg [.str b,.sl b2 .non]]=>.ite (qdw a a2 b b2) (.ret (.bool (qfO a a2 b b2))) (.fail)|_=>.fail
theorem qi1 (gl:Gl):SimP Tryz.prog gl 25 fun args=>(qiC args).run:=by
 refine SimP.of_flat (G:=qvr) (L:=qBP) qak (qDe gl ) qah  Tryz.func25 rfl (by rfl) (by kernel_rfl) (qac (by kernel_rfl)) ?_
 intro args x h;unfold qiC at h
 split at h
 ·exact (congrArg Tr.run (qG2 _ _ _ _)).trans (qad h fun h=>by cases h)
 ·cases h
def quX:GamT:=ofL [(25,.pure qiC)]
theorem qC7 (gl:Gl):qam Tryz.prog gl (gam quX):=(qae (qi1 gl) qag)
def qBL:LpsT:=fun r fr σ=>.fail
def qru (a:Int) (a2:qU) (a3:qR) (a4 a5:Int) (a6:qU) (a7 a8:Int) (a9:qU) (a10:Int) (a11:qU) (a12 a13:Int) (a14:qU) (b:Int) (b2:qU) (b3:qR) (b4 b5:Int) (b6:qU) (b7 b8:Int) (b9:qU) (b10:Int) (b11:qU) (b12 b13:Int) (b14:qU):Tr PV:=.ite (iEq a b) (.ite (iEq a4 b4) (.ite (bAnd (iEq a5 b5) (bAnd (sEq a6 b6) (bAnd (bAnd (iEq a7 b7) (bAnd (iEq a8 b8) (bAnd (sEq a9 b9) true))) true))) (.ite (bAnd (iEq a10 b10) (bAnd (sEq a11 b11) (bAnd (bAnd (iEq a12 b12) (bAnd (iEq a13 b13) (bAnd (sEq a14 b14) true))) true))) (.ite (qdw a2 (qab a3) b2 (qab b3)) (.ret (.bool (qfO a2 (qab a3) b2 (qab b3)))) .fail) (.ret (.bool false))) (.ret (.bool false))) (.ret (.bool false))) (.ret (.bool false))
theorem qIi (a:Int) (a2:qU) (a3:qR) (a4 a5:Int) (a6:qU) (a7 a8:Int) (a9:qU) (a10:Int) (a11:qU) (a12 a13:Int) (a14:qU) (b:Int) (b2:qU) (b3:qR) (b4 b5:Int) (b6:qU) (b7 b8:Int) (b9:qU) (b10:Int) (b11:qU) (b12 b13:Int) (b14:qU):(tcall tbT quX qBL Tryz.f59 [.agg [.int .i64 a,.str a2,.sl a3 .non,.int .i64 a4,.int .i64 a5,.str a6,.int .i64 a7,.int .i64 a8,.str a9,.int .i64 a10,.str a11,.int .i64 a12,.int .i64 a13,.str a14],.agg [.int .i64 b,.str b2,.sl b3 .non,.int .i64 b4,.int .i64 b5,.str b6,.int .i64 b7,.int .i64 b8,.str b9,.int .i64 b10,.str b11,.int .i64 b12,.int .i64 b13,.str b14]]).flat=qru a a2 a3 a4 a5 a6 a7 a8 a9 a10 a11 a12 a13 a14 b b2 b3 b4 b5 b6 b7 b8 b9 b10 b11 b12 b13 b14:=by kernel_rfl
def qoQ (a:Int) (a2:qU) (a3:qR) (a4 a5:Int) (a6:qU) (a7 a8:Int) (a9:qU) (a10:Int) (a11:qU) (a12 a13:Int) (a14:qU) (b:Int) (b2:qU) (b3:qR) (b4 b5:Int) (b6:qU) (b7 b8:Int) (b9:qU) (b10:Int) (b11:qU) (b12 b13:Int) (b14:qU):Option PV:=(qru a a2 a3 a4 a5 a6 a7 a8 a9 a10 a11 a12 a13 a14 b b2 b3 b4 b5 b6 b7 b8 b9 b10 b11 b12 b13 b14).run
def qoD (a:Int) (a2:qU) (a3:qR) (a4 a5:Int) (a6:qU) (a7 a8:Int) (a9:qU) (a10:Int) (a11:qU) (a12 a13:Int) (a14:qU) (b:Int) (b2:qU) (b3:qR) (b4 b5:Int) (b6:qU) (b7 b8:Int) (b9:qU) (b10:Int) (b11:qU) (b12 b13:Int) (b14:qU):Bool:=(qaZ (gVal (qoQ a a2 a3 a4 a5 a6 a7 a8 a9 a10 a11 a12 a13 a14 b b2 b3 b4 b5 b6 b7 b8 b9 b10 b11 b12 b13 b14)))
def qmP (a:Int) (a2:qU) (a3:qR) (a4 a5:Int) (a6:qU) (a7 a8:Int) (a9:qU) (a10:Int) (a11:qU) (a12 a13:Int) (a14:qU) (b:Int) (b2:qU) (b3:qR) (b4 b5:Int) (b6:qU) (b7 b8:Int) (b9:qU) (b10:Int) (b11:qU) (b12 b13:Int) (b14:qU):Bool:=isW (qoQ a a2 a3 a4 a5 a6 a7 a8 a9 a10 a11 a12 a13 a14 b b2 b3 b4 b5 b6 b7 b8 b9 b10 b11 b12 b13 b14) (.bool (qoD a a2 a3 a4 a5 a6 a7 a8 a9 a10 a11 a12 a13 a14 b b2 b3 b4 b5 b6 b7 b8 b9 b10 b11 b12 b13 b14))
def qoc:List PV→Tr PV|[.agg [.int .i64 a,.str a2,.sl a3 .non,.int .i64 a4,.int .i64 a5,.str a6,.int .i64 a7,.int .i64 a8,.str a9,.int .i64 a10,.str a11,.int .i64 a12,.int .i64 a13,.str a14],.agg [.int .i64 b,.str b2,.sl b3 .non,.int .i64 b4,.int .i64 b5,.str b6,.int .i64 b7,.int .i64 b8,.str b9,.int .i64 b10,.str b11,.int .i64 b12,.int .i64 b13,.str b14]]=>.ite (qmP a a2 a3 a4 a5 a6 a7 a8 a9 a10 a11 a12 a13 a14 b b2 b3 b4 b5 b6 b7 b8 b9 b10 b11 b12 b13 b14) (.ret (.bool (qoD a a2 a3 a4 a5 a6 a7 a8 a9 a10 a11 a12 a13 a14 b b2 b3 b4 b5 b6 b7 b8 b9 b10 b11 b12 b13 b14))) (.fail)|_=>.fail
theorem qsy (gl:Gl):SimP Tryz.prog gl 59 fun args=>(qoc args).run:=by
 refine SimP.of_flat (G:=quX) (L:=qBL) qak (qC7 gl ) qah  Tryz.func59 rfl (by rfl) (by kernel_rfl) (qac (by kernel_rfl)) ?_
 intro args x h;unfold qoc at h
 split at h
 ·exact (congrArg Tr.run (qIi _ _ _ _ _ _ _ _ _ _ _ _ _ _ _ _ _ _ _ _ _ _ _ _ _ _ _ _)).trans (qad h fun h=>by cases h)
 ·cases h
def qxi:GamT:=ofL [(59,.pure qoc)]
theorem qBQ (gl:Gl):qam Tryz.prog gl (gam qxi):=(qae (qsy gl) qag)
def qtE:Code:=qcu Tryz.f58 4
def qtW:LI:=⟨32,[1,2,15,16,17],fun e=>match e with|.ret=>[6]|.exit 0=>[]|_=>[],true⟩
def qus:LpsT:=fun r fr σ=>.fail
def qeF (vs:List PV) (σ:Store):Option (PExit×List PV×Store):=lval (lstep tbT qxi qus qtE qtW) vs σ
def qko (s2 r:qR) (n n2:Int):Tr LR:=let z1:List PV:=[.int .i64 0,.str [],.sl [] .full,.int .i64 0,.int .i64 0,.str [],.int .i64 0,.int .i64 0,.str [],.int .i64 0,.str [],.int .i64 0,.int .i64 0,.str []];let z2:=nNat n2;let z3:Store:=Store.mk [] [] [];.ite (iLt n2 n) (.ite (qas n2) (.ite (qaM z1 r z2) (.ite (qas n2) (.ite (qaM z1 s2 z2) (.ite (qmP (xInt r z2 0) (xStr r z2 1) (qab (xRow r z2 2)) (xInt r z2 3) (xInt r z2 4) (xStr r z2 5) (xInt r z2 6) (xInt r z2 7) (xStr r z2 8) (xInt r z2 9) (xStr r z2 10) (xInt r z2 11) (xInt r z2 12) (xStr r z2 13) (xInt s2 z2 0) (xStr s2 z2 1) (qab (xRow s2 z2 2)) (xInt s2 z2 3) (xInt s2 z2 4) (xStr s2 z2 5) (xInt s2 z2 6) (xInt s2 z2 7) (xStr s2 z2 8) (xInt s2 z2 9) (xStr s2 z2 10) (xInt s2 z2 11) (xInt s2 z2 12) (xStr s2 z2 13)) (.ite (bNot (qoD (xInt r z2 0) (xStr r z2 1) (qab (xRow r z2 2)) (xInt r z2 3) (xInt r z2 4) (xStr r z2 5) (xInt r z2 6) (xInt r z2 7) (xStr r z2 8) (xInt r z2 9) (xStr r z2 10) (xInt r z2 11) (xInt r z2 12) (xStr r z2 13) (xInt s2 z2 0) (xStr s2 z2 1) (qab (xRow s2 z2 2)) (xInt s2 z2 3) (xInt s2 z2 4) (xStr s2 z2 5) (xInt s2 z2 6) (xInt s2 z2 7) (xStr s2 z2 8) (xInt s2 z2 9) (xStr s2 z2 10) (xInt s2 z2 11) (xInt s2 z2 12) (xStr s2 z2 13))) (.ret (.out .ret [.bool false] z3)) (.ret (.next [.sl (qao 0 s2) .non,.fn 59 [],.sl (qao 0 r) .non,.int .i64 n,.int .i64 (iAdd .i64 n2 1)] z3))) .fail) .fail) .fail) .fail) .fail) (.ret (.out (.exit 0) [] z3))
theorem qMk (s2 r:qR) (n n2:Int):lstep tbT qxi qus qtE qtW [.sl s2 .non,.fn 59 [],.sl r .non,.int .i64 n,.int .i64 n2] ⟨[],[],[]⟩=qko s2 r n n2:=by kernel_rfl
theorem qDX (s2 r:qR) (n n2:Int):qeF [.sl s2 .non,.fn 59 [],.sl r .non,.int .i64 n,.int .i64 n2] ⟨[],[],[]⟩=lnext qeF (qko s2 r n n2).run:=by unfold qeF;rw [qaD,qMk]
def qqI (s2 r:qR) (n n2:Int):Option (PExit×List PV×Store):=qeF [.sl s2 .non,.fn 59 [],.sl r .non,.int .i64 n,.int .i64 n2] ⟨[],[],[]⟩
def ql3 (s2 r:qR) (n n2:Int):Bool:=(qaZ (gOut (qqI s2 r n n2) 0))
def qqJ (s2 r:qR) (n n2:Int):Bool:=isW (qqI s2 r n n2) (.ret,[.bool (ql3 s2 r n n2)],⟨[],[],[]⟩)
def qqB (s2 r:qR) (n n2:Int):Bool:=isW (qqI s2 r n n2) ((.exit 0),[],⟨[],[],[]⟩)
def qil:List PV→Store→Tr (PExit×List PV×Store)|[.sl s2 .non,.fn 59 [],.sl r .non,.int .i64 n,.int .i64 n2],⟨[],[],[]⟩=>.ite (qqJ s2 r n n2) (.ret (.ret,[.bool (ql3 s2 r n n2)],⟨[],[],[]⟩)) (.ite (qqB s2 r n n2) (.ret ((.exit 0),[],⟨[],[],[]⟩)) (.fail))|_,_=>.fail
theorem qG4:∀ vs σ r,(qil vs σ).run=some r→qeF vs σ=some r:=by
 intro vs σ r h;unfold qil at h
 split at h
 ·exact qad h fun h=>qad h fun h=>by cases h
 ·cases h
theorem qB8 (gl:Gl):∀ fr σ e fr' σ',(orc qtW qil fr σ).run=some (e,fr',σ')→LDoes Tryz.prog gl qtE fr σ e fr' σ':=qbq qak (qBQ gl ) qah (L:=qus) (qac (by kernel_rfl)) (by kernel_rfl) qG4
def qFF:LpsT:=fun r fr σ=>bif Nat.beq r 4 then orc qtW qil fr σ else .fail
def qrK (a b:qR):Tr PV:=.ite (iNe (xLen a) (xLen b)) (.ret (.bool false)) (.ite (qqJ b a (xLen a) 0) (.ret (.bool (ql3 b a (xLen a) 0))) (.ite (qqB b a (xLen a) 0) (.ret (.bool true)) .fail))
theorem qMo (a b:qR):(tcall tbT qxi qFF Tryz.f58 [.sl a .non,.sl b .non,.fn 59 []]).flat=qrK a b:=by kernel_rfl
def qtd (a b:qR):Option PV:=(qrK a b).run
def qAM (a b:qR):Bool:=(qaZ (gVal (qtd a b)))
def quR (a b:qR):Bool:=isW (qtd a b) (.bool (qAM a b))
def qDq:List PV→Tr PV|[.sl a .non,.sl b .non,.fn 59 []]=>.ite (quR a b) (.ret (.bool (qAM a b))) (.fail)|_=>.fail
theorem qHM (gl:Gl):SimP Tryz.prog gl 58 fun args=>(qDq args).run:=by
 refine SimP.of_flat (G:=qxi) (L:=qFF) qak (qBQ gl ) qah  Tryz.func58 rfl (by rfl) (by kernel_rfl) (qar (L:=lps qFF) [(4,qtE)] (by kernel_rfl) (List.forall_mem_cons.2 ⟨fun fr σ e fr' σ' h=>qB8 gl  fr σ e fr' σ' h,(List.forall_mem_nil _)⟩)) ?_
 intro args x h;unfold qDq at h
 split at h
 ·exact (congrArg Tr.run (qMo _ _)).trans (qad h fun h=>by cases h)
 ·cases h
def qwx:GamT:=ofL [(25,.pure qiC),(58,.pure qDq),(59,.pure qoc)]
theorem qCW (gl:Gl):qam Tryz.prog gl (gam qwx):=(qae (qi1 gl) (qae (qHM gl) (qae (qsy gl) qag)))
def qAn:LpsT:=fun r fr σ=>.fail
def qlm (a:qU) (a2 a3:qR) (b:qU) (b2 b3:qR):Tr PV:=.ite (qdw a (qab a2) b (qab b2)) (.ite (qfO a (qab a2) b (qab b2)) (.ite (quR (qab a3) (qab b3)) (.ret (.bool (qAM (qab a3) (qab b3)))) .fail) (.ret (.bool false))) .fail
theorem qHp (a:qU) (a2 a3:qR) (b:qU) (b2 b3:qR):(tcall tbT qwx qAn Tryz.f24 [.agg [.str a,.sl a2 .non,.sl a3 .non],.agg [.str b,.sl b2 .non,.sl b3 .non]]).flat=qlm a a2 a3 b b2 b3:=by kernel_rfl
def qk2 (a:qU) (a2 a3:qR) (b:qU) (b2 b3:qR):Option PV:=(qlm a a2 a3 b b2 b3).run
def qli (a:qU) (a2 a3:qR) (b:qU) (b2 b3:qR):Bool:=(qaZ (gVal (qk2 a a2 a3 b b2 b3)))
def qiq (a:qU) (a2 a3:qR) (b:qU) (b2 b3:qR):Bool:=isW (qk2 a a2 a3 b b2 b3) (.bool (qli a a2 a3 b b2 b3))
def qkR:List PV→Tr PV|[.agg [.str a,.sl a2 .non,.sl a3 .non],.agg [.str b,.sl b2 .non,.sl b3 .non]]=>.ite (qiq a a2 a3 b b2 b3) (.ret (.bool (qli a a2 a3 b b2 b3))) (.fail)|_=>.fail
theorem qnz (gl:Gl):SimP Tryz.prog gl 24 fun args=>(qkR args).run:=by
 refine SimP.of_flat (G:=qwx) (L:=qAn) qak (qCW gl ) qah  Tryz.func24 rfl (by rfl) (by kernel_rfl) (qac (by kernel_rfl)) ?_
 intro args x h;unfold qkR at h
 split at h
 ·exact (congrArg Tr.run (qHp _ _ _ _ _ _)).trans (qad h fun h=>by cases h)
 ·cases h
def qwm:GamT:=ofL [(115,.pure qDx)]
theorem qCm (gl:Gl):qam Tryz.prog gl (gam qwm):=(qae (qHZ gl) qag)
def qBl:LpsT:=fun r fr σ=>.fail
def qp4 (a:qU) (a2:Bool) (a3:qR) (b:qU) (b2:Bool) (b3:qR):Tr PV:=.ite (sEq a b) (.ite (bEq a2 b2) (.ite (qtU (qab a3) (qab b3)) (.ret (.bool (qBF (qab a3) (qab b3)))) .fail) (.ret (.bool false))) (.ret (.bool false))
theorem qHU (a:qU) (a2:Bool) (a3:qR) (b:qU) (b2:Bool) (b3:qR):(tcall tbT qwm qBl Tryz.f54 [.agg [.str a,.bool a2,.sl a3 .non],.agg [.str b,.bool b2,.sl b3 .non]]).flat=qp4 a a2 a3 b b2 b3:=by kernel_rfl
def qoU (a:qU) (a2:Bool) (a3:qR) (b:qU) (b2:Bool) (b3:qR):Option PV:=(qp4 a a2 a3 b b2 b3).run
def qpH (a:qU) (a2:Bool) (a3:qR) (b:qU) (b2:Bool) (b3:qR):Bool:=(qaZ (gVal (qoU a a2 a3 b b2 b3)))
def qnb (a:qU) (a2:Bool) (a3:qR) (b:qU) (b2:Bool) (b3:qR):Bool:=isW (qoU a a2 a3 b b2 b3) (.bool (qpH a a2 a3 b b2 b3))
def qpm:List PV→Tr PV|[.agg [.str a,.bool a2,.sl a3 .non],.agg [.str b,.bool b2,.sl b3 .non]]=>.ite (qnb a a2 a3 b b2 b3) (.ret (.bool (qpH a a2 a3 b b2 b3))) (.fail)|_=>.fail
theorem qs3 (gl:Gl):SimP Tryz.prog gl 54 fun args=>(qpm args).run:=by
 refine SimP.of_flat (G:=qwm) (L:=qBl) qak (qCm gl ) qah  Tryz.func54 rfl (by rfl) (by kernel_rfl) (qac (by kernel_rfl)) ?_
 intro args x h;unfold qpm at h
 split at h
 ·exact (congrArg Tr.run (qHU _ _ _ _ _ _)).trans (qad h fun h=>by cases h)
 ·cases h
def qrA:GamT:=ofL [(25,.pure qiC)]
theorem qyH (gl:Gl):qam Tryz.prog gl (gam qrA):=(qae (qi1 gl) qag)
def qxO:LpsT:=fun r fr σ=>.fail
def qmt (a:Bool) (a2:qU) (a3:qR) (b:Bool) (b2:qU) (b3:qR):Tr PV:=.ite (bEq a b) (.ite (qdw a2 (qab a3) b2 (qab b3)) (.ret (.bool (qfO a2 (qab a3) b2 (qab b3)))) .fail) (.ret (.bool false))
theorem qEW (a:Bool) (a2:qU) (a3:qR) (b:Bool) (b2:qU) (b3:qR):(tcall tbT qrA qxO Tryz.f118 [.agg [.bool a,.str a2,.sl a3 .non],.agg [.bool b,.str b2,.sl b3 .non]]).flat=qmt a a2 a3 b b2 b3:=by kernel_rfl
def qku (a:Bool) (a2:qU) (a3:qR) (b:Bool) (b2:qU) (b3:qR):Option PV:=(qmt a a2 a3 b b2 b3).run
def qlX (a:Bool) (a2:qU) (a3:qR) (b:Bool) (b2:qU) (b3:qR):Bool:=(qaZ (gVal (qku a a2 a3 b b2 b3)))
def qj2 (a:Bool) (a2:qU) (a3:qR) (b:Bool) (b2:qU) (b3:qR):Bool:=isW (qku a a2 a3 b b2 b3) (.bool (qlX a a2 a3 b b2 b3))
def qlt:List PV→Tr PV|[.agg [.bool a,.str a2,.sl a3 .non],.agg [.bool b,.str b2,.sl b3 .non]]=>.ite (qj2 a a2 a3 b b2 b3) (.ret (.bool (qlX a a2 a3 b b2 b3))) (.fail)|_=>.fail
theorem qp0 (gl:Gl):SimP Tryz.prog gl 118 fun args=>(qlt args).run:=by
 refine SimP.of_flat (G:=qrA) (L:=qxO) qak (qyH gl ) qah  Tryz.func118 rfl (by rfl) (by kernel_rfl) (qac (by kernel_rfl)) ?_
 intro args x h;unfold qlt at h
 split at h
 ·exact (congrArg Tr.run (qEW _ _ _ _ _ _)).trans (qad h fun h=>by cases h)
 ·cases h
def qrU:GamT:=ofL [(118,.pure qlt)]
theorem qxf (gl:Gl):qam Tryz.prog gl (gam qrU):=(qae (qp0 gl) qag)
def qoE:Code:=qcu Tryz.f117 4
def qog:LI:=⟨32,[1,2,15,16,17],fun e=>match e with|.ret=>[6]|.exit 0=>[]|_=>[],true⟩
def qqM:LpsT:=fun r fr σ=>.fail
def qcV (vs:List PV) (σ:Store):Option (PExit×List PV×Store):=lval (lstep tbT qrU qqM qoE qog) vs σ
def qhl (s2 r:qR) (n n2:Int):Tr LR:=let z1:List PV:=[.bool false,.str [],.sl [] .full];let z2:=nNat n2;let z3:Store:=Store.mk [] [] [];.ite (iLt n2 n) (.ite (qas n2) (.ite (qaM z1 r z2) (.ite (qas n2) (.ite (qaM z1 s2 z2) (.ite (qj2 (qfi r z2 0) (xStr r z2 1) (qab (xRow r z2 2)) (qfi s2 z2 0) (xStr s2 z2 1) (qab (xRow s2 z2 2))) (.ite (bNot (qlX (qfi r z2 0) (xStr r z2 1) (qab (xRow r z2 2)) (qfi s2 z2 0) (xStr s2 z2 1) (qab (xRow s2 z2 2)))) (.ret (.out .ret [.bool false] z3)) (.ret (.next [.sl (qao 0 s2) .non,.fn 118 [],.sl (qao 0 r) .non,.int .i64 n,.int .i64 (iAdd .i64 n2 1)] z3))) .fail) .fail) .fail) .fail) .fail) (.ret (.out (.exit 0) [] z3))
theorem qIm (s2 r:qR) (n n2:Int):lstep tbT qrU qqM qoE qog [.sl s2 .non,.fn 118 [],.sl r .non,.int .i64 n,.int .i64 n2] ⟨[],[],[]⟩=qhl s2 r n n2:=by kernel_rfl
theorem qAP (s2 r:qR) (n n2:Int):qcV [.sl s2 .non,.fn 118 [],.sl r .non,.int .i64 n,.int .i64 n2] ⟨[],[],[]⟩=lnext qcV (qhl s2 r n n2).run:=by unfold qcV;rw [qaD,qIm]
def qld (s2 r:qR) (n n2:Int):Option (PExit×List PV×Store):=qcV [.sl s2 .non,.fn 118 [],.sl r .non,.int .i64 n,.int .i64 n2] ⟨[],[],[]⟩
def qiL (s2 r:qR) (n n2:Int):Bool:=(qaZ (gOut (qld s2 r n n2) 0))
def qnm (s2 r:qR) (n n2:Int):Bool:=isW (qld s2 r n n2) (.ret,[.bool (qiL s2 r n n2)],⟨[],[],[]⟩)
def qny (s2 r:qR) (n n2:Int):Bool:=isW (qld s2 r n n2) ((.exit 0),[],⟨[],[],[]⟩)
def qgs:List PV→Store→Tr (PExit×List PV×Store)|[.sl s2 .non,.fn 118 [],.sl r .non,.int .i64 n,.int .i64 n2],⟨[],[],[]⟩=>.ite (qnm s2 r n n2) (.ret (.ret,[.bool (qiL s2 r n n2)],⟨[],[],[]⟩)) (.ite (qny s2 r n n2) (.ret ((.exit 0),[],⟨[],[],[]⟩)) (.fail))|_,_=>.fail
theorem qFc:∀ vs σ r,(qgs vs σ).run=some r→qcV vs σ=some r:=by
 intro vs σ r h;unfold qgs at h
 split at h
 ·exact qad h fun h=>qad h fun h=>by cases h
 ·cases h
theorem qzN (gl:Gl):∀ fr σ e fr' σ',(orc qog qgs fr σ).run=some (e,fr',σ')→LDoes Tryz.prog gl qoE fr σ e fr' σ':=qbq qak (qxf gl ) qah (L:=qqM) (qac (by kernel_rfl)) (by kernel_rfl) qFc
def qyl:LpsT:=fun r fr σ=>bif Nat.beq r 4 then orc qog qgs fr σ else .fail
def qlv (a b:qR):Tr PV:=.ite (iNe (xLen a) (xLen b)) (.ret (.bool false)) (.ite (qnm b a (xLen a) 0) (.ret (.bool (qiL b a (xLen a) 0))) (.ite (qny b a (xLen a) 0) (.ret (.bool true)) .fail))
theorem qKD (a b:qR):(tcall tbT qrU qyl Tryz.f117 [.sl a .non,.sl b .non,.fn 118 []]).flat=qlv a b:=by kernel_rfl
def qmQ (a b:qR):Option PV:=(qlv a b).run
def qww (a b:qR):Bool:=(qaZ (gVal (qmQ a b)))
def qqF (a b:qR):Bool:=isW (qmQ a b) (.bool (qww a b))
def qz9:List PV→Tr PV|[.sl a .non,.sl b .non,.fn 118 []]=>.ite (qqF a b) (.ret (.bool (qww a b))) (.fail)|_=>.fail
theorem qFu (gl:Gl):SimP Tryz.prog gl 117 fun args=>(qz9 args).run:=by
 refine SimP.of_flat (G:=qrU) (L:=qyl) qak (qxf gl ) qah  Tryz.func117 rfl (by rfl) (by kernel_rfl) (qar (L:=lps qyl) [(4,qoE)] (by kernel_rfl) (List.forall_mem_cons.2 ⟨fun fr σ e fr' σ' h=>qzN gl  fr σ e fr' σ' h,(List.forall_mem_nil _)⟩)) ?_
 intro args x h;unfold qz9 at h
 split at h
 ·exact (congrArg Tr.run (qKD _ _)).trans (qad h fun h=>by cases h)
 ·cases h
def qvd:GamT:=ofL [(116,.pure qF5),(117,.pure qz9),(118,.pure qlt)]
theorem qCU (gl:Gl):qam Tryz.prog gl (gam qvd):=(qae (qID gl) (qae (qFu gl) (qae (qp0 gl) qag)))
def qBg:LpsT:=fun r fr σ=>.fail
def qhf (a:qU) (a2 a3:qR) (b:qU) (b2 b3:qR):Tr PV:=.ite (sEq a b) (.ite (quU (qab a2) (qab b2)) (.ite (qBk (qab a2) (qab b2)) (.ite (qqF (qab a3) (qab b3)) (.ret (.bool (qww (qab a3) (qab b3)))) .fail) (.ret (.bool false))) .fail) (.ret (.bool false))
theorem qIE (a:qU) (a2 a3:qR) (b:qU) (b2 b3:qR):(tcall tbT qvd qBg Tryz.f56 [.agg [.str a,.sl a2 .non,.sl a3 .non],.agg [.str b,.sl b2 .non,.sl b3 .non]]).flat=qhf a a2 a3 b b2 b3:=by kernel_rfl
def qiK (a:qU) (a2 a3:qR) (b:qU) (b2 b3:qR):Option PV:=(qhf a a2 a3 b b2 b3).run
def qo3 (a:qU) (a2 a3:qR) (b:qU) (b2 b3:qR):Bool:=(qaZ (gVal (qiK a a2 a3 b b2 b3)))
def qmn (a:qU) (a2 a3:qR) (b:qU) (b2 b3:qR):Bool:=isW (qiK a a2 a3 b b2 b3) (.bool (qo3 a a2 a3 b b2 b3))
def qn8:List PV→Tr PV|[.agg [.str a,.sl a2 .non,.sl a3 .non],.agg [.str b,.sl b2 .non,.sl b3 .non]]=>.ite (qmn a a2 a3 b b2 b3) (.ret (.bool (qo3 a a2 a3 b b2 b3))) (.fail)|_=>.fail
theorem qsK (gl:Gl):SimP Tryz.prog gl 56 fun args=>(qn8 args).run:=by
 refine SimP.of_flat (G:=qvd) (L:=qBg) qak (qCU gl ) qah  Tryz.func56 rfl (by rfl) (by kernel_rfl) (qac (by kernel_rfl)) ?_
 intro args x h;unfold qn8 at h
 split at h
 ·exact (congrArg Tr.run (qIE _ _ _ _ _ _)).trans (qad h fun h=>by cases h)
 ·cases h
def qyf:GamT:=ofL [(54,.pure qpm)]
theorem qAo (gl:Gl):qam Tryz.prog gl (gam qyf):=(qae (qs3 gl) qag)
def qvH:Code:=qcu Tryz.f53 4
def qv5:LI:=⟨32,[1,2,15,16,17],fun e=>match e with|.ret=>[6]|.exit 0=>[]|_=>[],true⟩
def qtT:LpsT:=fun r fr σ=>.fail
def qeP (vs:List PV) (σ:Store):Option (PExit×List PV×Store):=lval (lstep tbT qyf qtT qvH qv5) vs σ
def qkF (s2 r:qR) (n n2:Int):Tr LR:=let z1:List PV:=[.str [],.bool false,.sl [] .full];let z2:=nNat n2;let z3:Store:=Store.mk [] [] [];.ite (iLt n2 n) (.ite (qas n2) (.ite (qaM z1 r z2) (.ite (qas n2) (.ite (qaM z1 s2 z2) (.ite (qnb (xStr r z2 0) (qfi r z2 1) (qab (xRow r z2 2)) (xStr s2 z2 0) (qfi s2 z2 1) (qab (xRow s2 z2 2))) (.ite (bNot (qpH (xStr r z2 0) (qfi r z2 1) (qab (xRow r z2 2)) (xStr s2 z2 0) (qfi s2 z2 1) (qab (xRow s2 z2 2)))) (.ret (.out .ret [.bool false] z3)) (.ret (.next [.sl (qao 0 s2) .non,.fn 54 [],.sl (qao 0 r) .non,.int .i64 n,.int .i64 (iAdd .i64 n2 1)] z3))) .fail) .fail) .fail) .fail) .fail) (.ret (.out (.exit 0) [] z3))
theorem qK2 (s2 r:qR) (n n2:Int):lstep tbT qyf qtT qvH qv5 [.sl s2 .non,.fn 54 [],.sl r .non,.int .i64 n,.int .i64 n2] ⟨[],[],[]⟩=qkF s2 r n n2:=by kernel_rfl
theorem qFK (s2 r:qR) (n n2:Int):qeP [.sl s2 .non,.fn 54 [],.sl r .non,.int .i64 n,.int .i64 n2] ⟨[],[],[]⟩=lnext qeP (qkF s2 r n n2).run:=by unfold qeP;rw [qaD,qK2]
def qrf (s2 r:qR) (n n2:Int):Option (PExit×List PV×Store):=qeP [.sl s2 .non,.fn 54 [],.sl r .non,.int .i64 n,.int .i64 n2] ⟨[],[],[]⟩
def qkp (s2 r:qR) (n n2:Int):Bool:=(qaZ (gOut (qrf s2 r n n2) 0))
def qrx (s2 r:qR) (n n2:Int):Bool:=isW (qrf s2 r n n2) (.ret,[.bool (qkp s2 r n n2)],⟨[],[],[]⟩)
def qp6 (s2 r:qR) (n n2:Int):Bool:=isW (qrf s2 r n n2) ((.exit 0),[],⟨[],[],[]⟩)
def qhO:List PV→Store→Tr (PExit×List PV×Store)|[.sl s2 .non,.fn 54 [],.sl r .non,.int .i64 n,.int .i64 n2],⟨[],[],[]⟩=>.ite (qrx s2 r n n2) (.ret (.ret,[.bool (qkp s2 r n n2)],⟨[],[],[]⟩)) (.ite (qp6 s2 r n n2) (.ret ((.exit 0),[],⟨[],[],[]⟩)) (.fail))|_,_=>.fail
theorem qIc:∀ vs σ r,(qhO vs σ).run=some r→qeP vs σ=some r:=by
 intro vs σ r h;unfold qhO at h
 split at h
 ·exact qad h fun h=>qad h fun h=>by cases h
 ·cases h
theorem qDi (gl:Gl):∀ fr σ e fr' σ',(orc qv5 qhO fr σ).run=some (e,fr',σ')→LDoes Tryz.prog gl qvH fr σ e fr' σ':=qbq qak (qAo gl ) qah (L:=qtT) (qac (by kernel_rfl)) (by kernel_rfl) qIc
def qD1:LpsT:=fun r fr σ=>bif Nat.beq r 4 then orc qv5 qhO fr σ else .fail
def qq9 (a b:qR):Tr PV:=.ite (iNe (xLen a) (xLen b)) (.ret (.bool false)) (.ite (qrx b a (xLen a) 0) (.ret (.bool (qkp b a (xLen a) 0))) (.ite (qp6 b a (xLen a) 0) (.ret (.bool true)) .fail))
theorem qM8 (a b:qR):(tcall tbT qyf qD1 Tryz.f53 [.sl a .non,.sl b .non,.fn 54 []]).flat=qq9 a b:=by kernel_rfl
def qsC (a b:qR):Option PV:=(qq9 a b).run
def qAN (a b:qR):Bool:=(qaZ (gVal (qsC a b)))
def quY (a b:qR):Bool:=isW (qsC a b) (.bool (qAN a b))
def qEy:List PV→Tr PV|[.sl a .non,.sl b .non,.fn 54 []]=>.ite (quY a b) (.ret (.bool (qAN a b))) (.fail)|_=>.fail
theorem qIy (gl:Gl):SimP Tryz.prog gl 53 fun args=>(qEy args).run:=by
 refine SimP.of_flat (G:=qyf) (L:=qD1) qak (qAo gl ) qah  Tryz.func53 rfl (by rfl) (by kernel_rfl) (qar (L:=lps qD1) [(4,qvH)] (by kernel_rfl) (List.forall_mem_cons.2 ⟨fun fr σ e fr' σ' h=>qDi gl  fr σ e fr' σ' h,(List.forall_mem_nil _)⟩)) ?_
 intro args x h;unfold qEy at h
 split at h
 ·exact (congrArg Tr.run (qM8 _ _)).trans (qad h fun h=>by cases h)
 ·cases h
def qxk:GamT:=ofL [(56,.pure qn8)]
theorem qBK (gl:Gl):qam Tryz.prog gl (gam qxk):=(qae (qsK gl) qag)
def qv9:Code:=qcu Tryz.f55 4
def qwJ:LI:=⟨32,[1,2,15,16,17],fun e=>match e with|.ret=>[6]|.exit 0=>[]|_=>[],true⟩
def qvG:LpsT:=fun r fr σ=>.fail
def qeN (vs:List PV) (σ:Store):Option (PExit×List PV×Store):=lval (lstep tbT qxk qvG qv9 qwJ) vs σ
def qlj (s2 r:qR) (n n2:Int):Tr LR:=let z1:List PV:=[.str [],.sl [] .full,.sl [] .full];let z2:=nNat n2;let z3:Store:=Store.mk [] [] [];.ite (iLt n2 n) (.ite (qas n2) (.ite (qaM z1 r z2) (.ite (qas n2) (.ite (qaM z1 s2 z2) (.ite (qmn (xStr r z2 0) (qab (xRow r z2 1)) (qab (xRow r z2 2)) (xStr s2 z2 0) (qab (xRow s2 z2 1)) (qab (xRow s2 z2 2))) (.ite (bNot (qo3 (xStr r z2 0) (qab (xRow r z2 1)) (qab (xRow r z2 2)) (xStr s2 z2 0) (qab (xRow s2 z2 1)) (qab (xRow s2 z2 2)))) (.ret (.out .ret [.bool false] z3)) (.ret (.next [.sl (qao 0 s2) .non,.fn 56 [],.sl (qao 0 r) .non,.int .i64 n,.int .i64 (iAdd .i64 n2 1)] z3))) .fail) .fail) .fail) .fail) .fail) (.ret (.out (.exit 0) [] z3))
theorem qJQ (s2 r:qR) (n n2:Int):lstep tbT qxk qvG qv9 qwJ [.sl s2 .non,.fn 56 [],.sl r .non,.int .i64 n,.int .i64 n2] ⟨[],[],[]⟩=qlj s2 r n n2:=by kernel_rfl
theorem qFO (s2 r:qR) (n n2:Int):qeN [.sl s2 .non,.fn 56 [],.sl r .non,.int .i64 n,.int .i64 n2] ⟨[],[],[]⟩=lnext qeN (qlj s2 r n n2).run:=by unfold qeN;rw [qaD,qJQ]
def qry (s2 r:qR) (n n2:Int):Option (PExit×List PV×Store):=qeN [.sl s2 .non,.fn 56 [],.sl r .non,.int .i64 n,.int .i64 n2] ⟨[],[],[]⟩
def qkA (s2 r:qR) (n n2:Int):Bool:=(qaZ (gOut (qry s2 r n n2) 0))
def qqk (s2 r:qR) (n n2:Int):Bool:=isW (qry s2 r n n2) (.ret,[.bool (qkA s2 r n n2)],⟨[],[],[]⟩)
def qqK (s2 r:qR) (n n2:Int):Bool:=isW (qry s2 r n n2) ((.exit 0),[],⟨[],[],[]⟩)
def qiy:List PV→Store→Tr (PExit×List PV×Store)|[.sl s2 .non,.fn 56 [],.sl r .non,.int .i64 n,.int .i64 n2],⟨[],[],[]⟩=>.ite (qqk s2 r n n2) (.ret (.ret,[.bool (qkA s2 r n n2)],⟨[],[],[]⟩)) (.ite (qqK s2 r n n2) (.ret ((.exit 0),[],⟨[],[],[]⟩)) (.fail))|_,_=>.fail
theorem qHd:∀ vs σ r,(qiy vs σ).run=some r→qeN vs σ=some r:=by
 intro vs σ r h;unfold qiy at h
 split at h
 ·exact qad h fun h=>qad h fun h=>by cases h
 ·cases h
theorem qCY (gl:Gl):∀ fr σ e fr' σ',(orc qwJ qiy fr σ).run=some (e,fr',σ')→LDoes Tryz.prog gl qv9 fr σ e fr' σ':=qbq qak (qBK gl ) qah (L:=qvG) (qac (by kernel_rfl)) (by kernel_rfl) qHd
def qGN:LpsT:=fun r fr σ=>bif Nat.beq r 4 then orc qwJ qiy fr σ else .fail
def qqs (a b:qR):Tr PV:=.ite (iNe (xLen a) (xLen b)) (.ret (.bool false)) (.ite (qqk b a (xLen a) 0) (.ret (.bool (qkA b a (xLen a) 0))) (.ite (qqK b a (xLen a) 0) (.ret (.bool true)) .fail))
theorem qNk (a b:qR):(tcall tbT qxk qGN Tryz.f55 [.sl a .non,.sl b .non,.fn 56 []]).flat=qqs a b:=by kernel_rfl
def qsQ (a b:qR):Option PV:=(qqs a b).run
def qA3 (a b:qR):Bool:=(qaZ (gVal (qsQ a b)))
def qvF (a b:qR):Bool:=isW (qsQ a b) (.bool (qA3 a b))
def qGl:List PV→Tr PV|[.sl a .non,.sl b .non,.fn 56 []]=>.ite (qvF a b) (.ret (.bool (qA3 a b))) (.fail)|_=>.fail
theorem qG7 (gl:Gl):SimP Tryz.prog gl 55 fun args=>(qGl args).run:=by
 refine SimP.of_flat (G:=qxk) (L:=qGN) qak (qBK gl ) qah  Tryz.func55 rfl (by rfl) (by kernel_rfl) (qar (L:=lps qGN) [(4,qv9)] (by kernel_rfl) (List.forall_mem_cons.2 ⟨fun fr σ e fr' σ' h=>qCY gl  fr σ e fr' σ' h,(List.forall_mem_nil _)⟩)) ?_
 intro args x h;unfold qGl at h
 split at h
 ·exact (congrArg Tr.run (qNk _ _)).trans (qad h fun h=>by cases h)
 ·cases h
def qw0:GamT:=ofL [(24,.pure qkR)]
theorem qAk (gl:Gl):qam Tryz.prog gl (gam qw0):=(qae (qnz gl) qag)
def qvy:Code:=qcu Tryz.f57 4
def qwB:LI:=⟨32,[1,2,15,16,17],fun e=>match e with|.ret=>[6]|.exit 0=>[]|_=>[],true⟩
def qtR:LpsT:=fun r fr σ=>.fail
def qeG (vs:List PV) (σ:Store):Option (PExit×List PV×Store):=lval (lstep tbT qw0 qtR qvy qwB) vs σ
def qlQ (s2 r:qR) (n n2:Int):Tr LR:=let z1:List PV:=[.str [],.sl [] .full,.sl [] .full];let z2:=nNat n2;let z3:Store:=Store.mk [] [] [];.ite (iLt n2 n) (.ite (qas n2) (.ite (qaM z1 r z2) (.ite (qas n2) (.ite (qaM z1 s2 z2) (.ite (qiq (xStr r z2 0) (qab (xRow r z2 1)) (qab (xRow r z2 2)) (xStr s2 z2 0) (qab (xRow s2 z2 1)) (qab (xRow s2 z2 2))) (.ite (bNot (qli (xStr r z2 0) (qab (xRow r z2 1)) (qab (xRow r z2 2)) (xStr s2 z2 0) (qab (xRow s2 z2 1)) (qab (xRow s2 z2 2)))) (.ret (.out .ret [.bool false] z3)) (.ret (.next [.sl (qao 0 s2) .non,.fn 24 [],.sl (qao 0 r) .non,.int .i64 n,.int .i64 (iAdd .i64 n2 1)] z3))) .fail) .fail) .fail) .fail) .fail) (.ret (.out (.exit 0) [] z3))
theorem qLm (s2 r:qR) (n n2:Int):lstep tbT qw0 qtR qvy qwB [.sl s2 .non,.fn 24 [],.sl r .non,.int .i64 n,.int .i64 n2] ⟨[],[],[]⟩=qlQ s2 r n n2:=by kernel_rfl
theorem qDU (s2 r:qR) (n n2:Int):qeG [.sl s2 .non,.fn 24 [],.sl r .non,.int .i64 n,.int .i64 n2] ⟨[],[],[]⟩=lnext qeG (qlQ s2 r n n2).run:=by unfold qeG;rw [qaD,qLm]
def qrd (s2 r:qR) (n n2:Int):Option (PExit×List PV×Store):=qeG [.sl s2 .non,.fn 24 [],.sl r .non,.int .i64 n,.int .i64 n2] ⟨[],[],[]⟩
def qlq (s2 r:qR) (n n2:Int):Bool:=(qaZ (gOut (qrd s2 r n n2) 0))
def qri (s2 r:qR) (n n2:Int):Bool:=isW (qrd s2 r n n2) (.ret,[.bool (qlq s2 r n n2)],⟨[],[],[]⟩)
def qrR (s2 r:qR) (n n2:Int):Bool:=isW (qrd s2 r n n2) ((.exit 0),[],⟨[],[],[]⟩)
def qh2:List PV→Store→Tr (PExit×List PV×Store)|[.sl s2 .non,.fn 24 [],.sl r .non,.int .i64 n,.int .i64 n2],⟨[],[],[]⟩=>.ite (qri s2 r n n2) (.ret (.ret,[.bool (qlq s2 r n n2)],⟨[],[],[]⟩)) (.ite (qrR s2 r n n2) (.ret ((.exit 0),[],⟨[],[],[]⟩)) (.fail))|_,_=>.fail
theorem qHx:∀ vs σ r,(qh2 vs σ).run=some r→qeG vs σ=some r:=by
 intro vs σ r h;unfold qh2 at h
 split at h
 ·exact qad h fun h=>qad h fun h=>by cases h
 ·cases h
theorem qCb (gl:Gl):∀ fr σ e fr' σ',(orc qwB qh2 fr σ).run=some (e,fr',σ')→LDoes Tryz.prog gl qvy fr σ e fr' σ':=qbq qak (qAk gl ) qah (L:=qtR) (qac (by kernel_rfl)) (by kernel_rfl) qHx
def qGG:LpsT:=fun r fr σ=>bif Nat.beq r 4 then orc qwB qh2 fr σ else .fail
def qrC (a b:qR):Tr PV:=.ite (iNe (xLen a) (xLen b)) (.ret (.bool false)) (.ite (qri b a (xLen a) 0) (.ret (.bool (qlq b a (xLen a) 0))) (.ite (qrR b a (xLen a) 0) (.ret (.bool true)) .fail))
theorem qNe (a b:qR):(tcall tbT qw0 qGG Tryz.f57 [.sl a .non,.sl b .non,.fn 24 []]).flat=qrC a b:=by kernel_rfl
def qs4 (a b:qR):Option PV:=(qrC a b).run
def qAO (a b:qR):Bool:=(qaZ (gVal (qs4 a b)))
def qv3 (a b:qR):Bool:=isW (qs4 a b) (.bool (qAO a b))
def qEf:List PV→Tr PV|[.sl a .non,.sl b .non,.fn 24 []]=>.ite (qv3 a b) (.ret (.bool (qAO a b))) (.fail)|_=>.fail
theorem qHb (gl:Gl):SimP Tryz.prog gl 57 fun args=>(qEf args).run:=by
 refine SimP.of_flat (G:=qw0) (L:=qGG) qak (qAk gl ) qah  Tryz.func57 rfl (by rfl) (by kernel_rfl) (qar (L:=lps qGG) [(4,qvy)] (by kernel_rfl) (List.forall_mem_cons.2 ⟨fun fr σ e fr' σ' h=>qCb gl  fr σ e fr' σ' h,(List.forall_mem_nil _)⟩)) ?_
 intro args x h;unfold qEf at h
 split at h
 ·exact (congrArg Tr.run (qNe _ _)).trans (qad h fun h=>by cases h)
 ·cases h
def qzQ:GamT:=ofL [(24,.pure qkR),(53,.pure qEy),(54,.pure qpm),(55,.pure qGl),(56,.pure qn8),(57,.pure qEf)]
theorem qGM (gl:Gl):qam Tryz.prog gl (gam qzQ):=(qae (qnz gl) (qae (qIy gl) (qae (qs3 gl) (qae (qG7 gl) (qae (qsK gl) (qae (qHb gl) qag))))))
def qEQ:LpsT:=fun r fr σ=>.fail
def qlM (a a2 a3 b b2 b3:qR):Tr PV:=.ite (quY (qab a) (qab b)) (.ite (qAN (qab a) (qab b)) (.ite (qvF (qab a2) (qab b2)) (.ite (qA3 (qab a2) (qab b2)) (.ite (qv3 (qab a3) (qab b3)) (.ret (.bool (qAO (qab a3) (qab b3)))) .fail) (.ret (.bool false))) .fail) (.ret (.bool false))) .fail
theorem qLN (a a2 a3 b b2 b3:qR):(tcall tbT qzQ qEQ Tryz.f23 [.agg [.sl a .non,.sl a2 .non,.sl a3 .non],.agg [.sl b .non,.sl b2 .non,.sl b3 .non]]).flat=qlM a a2 a3 b b2 b3:=by kernel_rfl
def qnj (a a2 a3 b b2 b3:qR):Option PV:=(qlM a a2 a3 b b2 b3).run
def qqX (a a2 a3 b b2 b3:qR):Bool:=(qaZ (gVal (qnj a a2 a3 b b2 b3)))
def qlJ (a a2 a3 b b2 b3:qR):Bool:=isW (qnj a a2 a3 b b2 b3) (.bool (qqX a a2 a3 b b2 b3))
def qzY:List PV→Tr PV|[.agg [.sl a .non,.sl a2 .non,.sl a3 .non],.agg [.sl b .non,.sl b2 .non,.sl b3 .non]]=>.ite (qlJ a a2 a3 b b2 b3) (.ret (.bool (qqX a a2 a3 b b2 b3))) (.fail)|_=>.fail
theorem qGD (gl:Gl):SimP Tryz.prog gl 23 fun args=>(qzY args).run:=by
 refine SimP.of_flat (G:=qzQ) (L:=qEQ) qak (qGM gl ) qah  Tryz.func23 rfl (by rfl) (by kernel_rfl) (qac (by kernel_rfl)) ?_
 intro args x h;unfold qzY at h
 split at h
 ·exact (congrArg Tr.run (qLN _ _ _ _ _ _)).trans (qad h fun h=>by cases h)
 ·cases h
def qtC:GamT:=ofL []
theorem qCv (gl:Gl):qam Tryz.prog gl (gam qtC):=qag
def qAL:LpsT:=fun r fr σ=>.fail
def qrl (p_ p_2 p_3:qR):Tr PV:=let z1:=nNat 20;let z2:=qbd true (qas 20) 0 z1 (nXs p_2);let z3:=iLt 20 (xLen p_3);let z4:=qbd true (qas 20) 0 z1 (nXs p_3);let z5:=qaq p_3 3;let z6:=qaa (xSub p_ 0 z1);let z7:=qaa (xSub p_2 0 z1);let z8:=qaa (xSub p_3 0 z1);let z9:=qaa p_3;.ite (iLt 20 (xLen p_)) (.ite (qbd true (qas 20) 0 z1 (nXs p_)) (.ite (qaq p_ 3) (.ite (iLt 20 (xLen p_2)) (.ite z2 (.ite (qaq p_2 3) (.ite z3 (.ite z4 (.ite z5 (.ret (.agg [.sl z6 .non,.sl z7 .non,.sl z8 .non])) .fail) .fail) (.ret (.agg [.sl z6 .non,.sl z7 .non,.sl z9 .non]))) .fail) .fail) (.ite z3 (.ite z4 (.ite z5 (.ret (.agg [.sl z6 .non,.sl (qaa p_2) .non,.sl z8 .non])) .fail) .fail) (.ret (.agg [.sl z6 .non,.sl (qaa p_2) .non,.sl z9 .non])))) .fail) .fail) (.ite (iLt 20 (xLen p_2)) (.ite z2 (.ite (qaq p_2 3) (.ite z3 (.ite z4 (.ite z5 (.ret (.agg [.sl (qaa p_) .non,.sl z7 .non,.sl z8 .non])) .fail) .fail) (.ret (.agg [.sl (qaa p_) .non,.sl z7 .non,.sl z9 .non]))) .fail) .fail) (.ite z3 (.ite z4 (.ite z5 (.ret (.agg [.sl (qaa p_) .non,.sl (qaa p_2) .non,.sl z8 .non])) .fail) .fail) (.ret (.agg [.sl (qaa p_) .non,.sl (qaa p_2) .non,.sl z9 .non]))))
theorem qIe (p_ p_2 p_3:qR):(tcall tbT qtC qAL Tryz.f22 [.agg [.sl p_ .non,.sl p_2 .non,.sl p_3 .non]]).flat=qrl p_ p_2 p_3:=by kernel_rfl
def qiV (p_ p_2 p_3:qR):Option PV:=(qrl p_ p_2 p_3).run
def qks (p_ p_2 p_3:qR):qR:=(gRow (gAt (gCs (gVal (qiV p_ p_2 p_3))) 0))
def qhF (p_ p_2 p_3:qR):qR:=(gRow (gAt (gCs (gVal (qiV p_ p_2 p_3))) 1))
def qhw (p_ p_2 p_3:qR):qR:=(gRow (gAt (gCs (gVal (qiV p_ p_2 p_3))) 2))
def qh3 (p_ p_2 p_3:qR):Bool:=isW (qiV p_ p_2 p_3) (.agg [.sl (qks p_ p_2 p_3) .non,.sl (qhF p_ p_2 p_3) .non,.sl (qhw p_ p_2 p_3) .non])
def qvm:List PV→Tr PV|[.agg [.sl p_ .non,.sl p_2 .non,.sl p_3 .non]]=>.ite (qh3 p_ p_2 p_3) (.ret (.agg [.sl (qks p_ p_2 p_3) .non,.sl (qhF p_ p_2 p_3) .non,.sl (qhw p_ p_2 p_3) .non])) (.fail)|_=>.fail
theorem qCO (gl:Gl):SimP Tryz.prog gl 22 fun args=>(qvm args).run:=by
 refine SimP.of_flat (G:=qtC) (L:=qAL) qak (qCv gl ) qah  Tryz.func22 rfl (by rfl) (by kernel_rfl) (qac (by kernel_rfl)) ?_
 intro args x h;unfold qvm at h
 split at h
 ·exact (congrArg Tr.run (qIe _ _ _)).trans (qad h fun h=>by cases h)
 ·cases h
def qis:GamT:=ofL [(13,.pure qAb),(14,.pure qvA),(20,.pure qon),(21,.pure qlc),(22,.pure qvm),(23,.pure qzY),(24,.pure qkR),(25,.pure qiC)]
theorem qsA (gl:Gl) (hg:GlLex gl):qam Tryz.prog gl (gam qis):=(qae (qD2 gl) (qae (qCd gl hg) (qae (qtj gl) (qae (qnf gl) (qae (qCO gl) (qae (qGD gl) (qae (qnz gl) (qae (qi1 gl) qag))))))))
def qhj:Code:=qcu Tryz.f8 5
def qhy:LI:=⟨70,[2,3,5],fun e=>match e with|.ret=>[4]|.exit 0=>[]|_=>[],true⟩
def qi2:LpsT:=fun r fr σ=>.fail
def qbW (vs:List PV) (σ:Store):Option (PExit×List PV×Store):=lval (qqp tbT qis qi2 qhj 7 10 qhy) vs σ
def qdu (n:Int) (r r2 r3 r4 r5 r6:qR):Tr LR:=let z1:List PV:=[.str [],.sl [] .full,.sl [] .full];let z2:=nNat n;let z3:=xStr r3 z2 0;let z4:=qab (xRow r3 z2 1);let z5:=qab (xRow r3 z2 2);let z6:=xStr r6 z2 0;let z7:=qab (xRow r6 z2 1);let z8:=qab (xRow r6 z2 2);let z9:Store:=Store.mk [[.sl (qao 2 r) .non,.sl (qao 2 r2) .non,.sl (qao 2 r3) .non],[.sl (qao 2 r4) .non,.sl (qao 2 r5) .non,.sl (qao 2 r6) .non]] [] [27,27];.ite (iLt n (xLen r3)) (.ite (iLt n (xLen r6)) (.ite (qas n) (.ite (qaM z1 r3 z2) (.ite (qas n) (.ite (qaM z1 r6 z2) (.ite (qiq z3 z4 z5 z6 z7 z8) (.ite (qhU z3 z4 z5 z6 z7 z8) (.ite (bNot (bEq (qli z3 z4 z5 z6 z7 z8) (ql0 z3 z4 z5 z6 z7 z8))) (.ret (.out .ret [.bool false] z9)) (.ite (qdw z3 z4 z6 z7) (.ite (qdA z3 z4 z6 z7) (.ite (bNot (bEq (qfO z3 z4 z6 z7) (qf4 z3 z4 z6 z7))) (.ret (.out .ret [.bool false] z9)) (.ret (.next [.ptr 0 0,.ptr 1 0,.int .i64 (iAdd .i64 n 1)] z9))) .fail) .fail)) .fail) .fail) .fail) .fail) .fail) .fail) (.ret (.out (.exit 0) [] (Store.mk [[.sl r .non,.sl r2 .non,.sl r3 .non],[.sl r4 .non,.sl r5 .non,.sl r6 .non]] [] [27,27])))) (.ret (.out (.exit 0) [] (Store.mk [[.sl r .non,.sl r2 .non,.sl r3 .non],[.sl r4 .non,.sl r5 .non,.sl r6 .non]] [] [27,27])))
theorem qFW (n:Int) (r r2 r3 r4 r5 r6:qR):lstep tbT qis qi2 (qbC 7 10 false qhj) qhy [.ptr 0 0,.ptr 1 0,.int .i64 n] ⟨[[.sl r .non,.sl r2 .non,.sl r3 .non],[.sl r4 .non,.sl r5 .non,.sl r6 .non]],[],[27,27]⟩=qdu n r r2 r3 r4 r5 r6:=by kernel_rfl
theorem qCB (n:Int) (r r2 r3 r4 r5 r6:qR):lstep tbT qis qi2 (qbC 7 10 true qhj) qhy [.ptr 0 0,.ptr 1 0,.int .i64 n] ⟨[[.sl r .non,.sl r2 .non,.sl r3 .non],[.sl r4 .non,.sl r5 .non,.sl r6 .non]],[],[27,27]⟩=qdu n r r2 r3 r4 r5 r6:=by kernel_rfl
theorem qyd (n:Int) (r r2 r3 r4 r5 r6:qR):qbW [.ptr 0 0,.ptr 1 0,.int .i64 n] ⟨[[.sl r .non,.sl r2 .non,.sl r3 .non],[.sl r4 .non,.sl r5 .non,.sl r6 .non]],[],[27,27]⟩=lnext qbW (qdu n r r2 r3 r4 r5 r6).run:=by unfold qbW;rw [qaD,qxD (qFW n r r2 r3 r4 r5 r6) (qCB n r r2 r3 r4 r5 r6)]
def qle (n:Int) (r r2 r3 r4 r5 r6:qR):Option (PExit×List PV×Store):=qbW [.ptr 0 0,.ptr 1 0,.int .i64 n] ⟨[[.sl r .non,.sl r2 .non,.sl r3 .non],[.sl r4 .non,.sl r5 .non,.sl r6 .non]],[],[27,27]⟩
def qgi (n:Int) (r r2 r3 r4 r5 r6:qR):Bool:=(qaZ (gOut (qle n r r2 r3 r4 r5 r6) 0))
def qjo (n:Int) (r r2 r3 r4 r5 r6:qR):Bool:=isW (qle n r r2 r3 r4 r5 r6) (.ret,[.bool (qgi n r r2 r3 r4 r5 r6)],⟨[[.sl r .non,.sl r2 .non,.sl r3 .non],[.sl r4 .non,.sl r5 .non,.sl r6 .non]],[],[27,27]⟩)
def qjE (n:Int) (r r2 r3 r4 r5 r6:qR):Bool:=isW (qle n r r2 r3 r4 r5 r6) ((.exit 0),[],⟨[[.sl r .non,.sl r2 .non,.sl r3 .non],[.sl r4 .non,.sl r5 .non,.sl r6 .non]],[],[27,27]⟩)
def qer:List PV→Store→Tr (PExit×List PV×Store)|[.ptr 0 0,.ptr 1 0,.int .i64 n],⟨[[.sl r .non,.sl r2 .non,.sl r3 .non],[.sl r4 .non,.sl r5 .non,.sl r6 .non]],[],[27,27]⟩=>.ite (qjo n r r2 r3 r4 r5 r6) (.ret (.ret,[.bool (qgi n r r2 r3 r4 r5 r6)],⟨[[.sl r .non,.sl r2 .non,.sl r3 .non],[.sl r4 .non,.sl r5 .non,.sl r6 .non]],[],[27,27]⟩)) (.ite (qjE n r r2 r3 r4 r5 r6) (.ret ((.exit 0),[],⟨[[.sl r .non,.sl r2 .non,.sl r3 .non],[.sl r4 .non,.sl r5 .non,.sl r6 .non]],[],[27,27]⟩)) (.fail))|_,_=>.fail
theorem qCl:∀ vs σ r,(qer vs σ).run=some r→qbW vs σ=some r:=by
 intro vs σ r h;unfold qer at h
 split at h
 ·exact qad h fun h=>qad h fun h=>by cases h
 ·cases h
theorem qwP (gl:Gl) (hg:GlLex gl):∀ fr σ e fr' σ',(orc qhy qer fr σ).run=some (e,fr',σ')→LDoes Tryz.prog gl qhj fr σ e fr' σ':=qFY qak (qsA gl hg ) qah (L:=qi2) (qac (by kernel_rfl)) 7 10 (by kernel_rfl) (by kernel_rfl) (by kernel_rfl) qCl
def qtF:LpsT:=fun r fr σ=>bif Nat.beq r 5 then orc qhy qer fr σ else .fail
def qk3 (v v2 v3 v4 v5 v6:qR):Tr PV:=let z1:=qks (qab v) (qab v2) (qab v3);let z2:=qab z1;let z3:=qhF (qab v) (qab v2) (qab v3);let z4:=qab z3;let z5:=qhw (qab v) (qab v2) (qab v3);let z6:=qab z5;let z7:=qks (qab v4) (qab v5) (qab v6);let z8:=qhF (qab v4) (qab v5) (qab v6);let z9:=qhw (qab v4) (qab v5) (qab v6);.ite (qh3 (qab v) (qab v2) (qab v3)) (.ite (qh3 (qab v4) (qab v5) (qab v6)) (.ite (qlJ z2 z4 z6 (qab z7) (qab z8) (qab z9)) (.ite (qqL z2 z4 z6 (qab z7) (qab z8) (qab z9)) (.ite (bNot (bEq (qqX z2 z4 z6 (qab z7) (qab z8) (qab z9)) (qwG z2 z4 z6 (qab z7) (qab z8) (qab z9)))) (.ret (.bool false)) (.ite (qlJ z2 z4 z6 z2 z4 z6) (.ite (bNot (qqX z2 z4 z6 z2 z4 z6)) (.ret (.bool false)) (.ite (qjo 0 z1 z3 z5 z7 z8 z9) (.ret (.bool (qgi 0 z1 z3 z5 z7 z8 z9))) (.ite (qjE 0 z1 z3 z5 z7 z8 z9) (.ite qmE (.ret (.bool qo7)) .fail) .fail))) .fail)) .fail) .fail) .fail) .fail
theorem qIx (v v2 v3 v4 v5 v6:qR):(tcall tbT qis qtF Tryz.f8 [.agg [.sl v .non,.sl v2 .non,.sl v3 .non],.agg [.sl v4 .non,.sl v5 .non,.sl v6 .non]]).flat=qk3 v v2 v3 v4 v5 v6:=by kernel_rfl
def qkQ:List PV→Tr PV|[.agg [.sl v .non,.sl v2 .non,.sl v3 .non],.agg [.sl v4 .non,.sl v5 .non,.sl v6 .non]]=>qk3 v v2 v3 v4 v5 v6|_=>.fail
theorem qCt (gl:Gl) (hg:GlLex gl):SimP Tryz.prog gl 8 fun args=>(qkQ args).run:=by
 refine SimP.of_flat (G:=qis) (L:=qtF) qak (qsA gl hg ) qah  Tryz.func8 rfl (by rfl) (by kernel_rfl) (qar (L:=lps qtF) [(5,qhj)] (by kernel_rfl) (List.forall_mem_cons.2 ⟨fun fr σ e fr' σ' h=>qwP gl hg  fr σ e fr' σ' h,(List.forall_mem_nil _)⟩)) ?_
 intro args x h;unfold qkQ at h
 split at h
 ·exact (congrArg Tr.run (qIx _ _ _ _ _ _)).trans h
 ·cases h
end Go.Pv
set_option maxHeartbeats 4000000
set_option linter.unusedSimpArgs false
set_option linter.unusedVariables false
namespace Go.Pv
def qkO (b:UInt8):Bool:=decide (97≤b.toNat)&&decide (b.toNat≤122)
def qnR (b:UInt8):Bool:=decide (65≤b.toNat)&&decide (b.toNat≤90)
def qaH (b:UInt8):Bool:=decide (48≤b.toNat)&&decide (b.toNat≤57)
def innB (b:UInt8):Bool:=qkO b || qnR b || qaH b || decide (b.toNat=95)
def blB (b:UInt8):Bool:=decide (b.toNat=32) || decide (b.toNat=9) || decide (b.toNat=10) || decide (b.toNat=13)
def runL (p:UInt8→Bool):qU→Nat
 |[]=>0
 |b::s=>if p b then runL p s+1 else 0
def incN (n:Nat):Nat:=if n=0 then 0 else n+1
def quoE:Bool→qU→Nat
 |_,[]=>0
 |true,_::s=>incN (quoE false s)
 |false,b::s=>if b.toNat=34 then 1 else if b.toNat=92 then incN (quoE true s) else incN (quoE false s)
def quoL (s:qU):Nat:=quoE false s
theorem qzT {n m:Nat} (h:n≤m):incN n≤m+1:=by unfold incN;split<;>omega
def gapL:Bool→qU→Nat
 |_,[]=>0
 |c,b::s=>if c || blB b || decide (b.toNat=37) then gapL (decide (b.toNat=37) || c&&decide (b.toNat≠10)) s+1 else 0
def qsj (b:UInt8):Bool:=[40,41,44,46,43,45,61,58,60,62].contains b.toNat
def twoB (a b:UInt8):Bool:=decide (a.toNat=58∧b.toNat=45) || decide (a.toNat=60∧b.toNat=61) || decide (a.toNat=62∧b.toNat=61) || decide (a.toNat=33∧b.toNat=61)
def hdIs (p:UInt8→Bool):qU→Bool
 |[]=>false
 |b::_=>p b
def qmM (c:UInt8) (t:qU):Nat:=if hdIs (twoB c) t then 2 else if qsj c then 1 else 0
def valL (k:Int) (s:qU) (n:Nat):Option (Int×Nat×Vl):=match rdV (s.take n) with
 |some v=>some (k,n,v)
 |none=>none
def wdL:qU→Option (Int×Nat×Vl)
 |[]=>none
 |c::t =>
  if qkO c then (if runL innB t+1≤64 then some (1,runL innB t+1,0,0,[]) else none)
  else if qnR c then (if runL innB t+1≤64 then some (2,runL innB t+1,0,0,[]) else none)
  else if c.toNat=95 then (if hdIs innB t then none else some (3,1,0,0,[]))
  else if qaH c || (decide (c.toNat=45)&&hdIs qaH t) then valL 4 (c::t) (runL qaH t+1)
  else if c.toNat=34 then (if quoL t=0 then none else valL 5 (c::t) (quoL t+1))
  else if qmM c t=0 then none else some (6,qmM c t,0,0,[])
abbrev Wd:=Int×List UInt8×Vl×Int
def lexL:Nat→Nat→qU→List Wd×Option Nat
 |0,_,_=>([],none)
 |n+1,at_,s=>match s with
  |[]=>([],none)
  |_=>match wdL s with
   |none=>([],some at_)
   |some (k,m,v) =>
    let r:=lexL n (at_+m+gapL false (s.drop m)) (s.drop (m+gapL false (s.drop m)))
    ((k,s.take m,v,(at_:Int))::r.1,r.2)
def qcE (s:qU):List Wd×Option Nat:=lexL (s.length+1) (gapL false s) (s.drop (gapL false s))
theorem qq6 (p:UInt8→Bool):∀ s:qU,runL p s≤s.length
 |[]=>Nat.le_refl _
 |b::s=>by
  have:=qq6 p s;unfold runL;split<;>simp only [List.length_cons]<;>omega
theorem qtS:∀ (e:Bool) (s:qU),quoE e s≤s.length
 |_,[]=>by cases ‹Bool›<;>exact Nat.le_refl _
 |true,_::s=>qzT (qtS false s)
 |false,b::s=>by
  have h1:=qzT (qtS true s);have h2:=qzT (qtS false s);simp only [quoE,List.length_cons];split
  ·omega
  ·split
   ·exact h1
   ·exact h2
theorem qDJ (s:qU):quoL s≤s.length:=qtS false s
theorem qrm:∀ (c:Bool) (s:qU),gapL c s≤s.length
 |_,[]=>Nat.le_refl _
 |c,b::s=>by
  have:=qrm (decide (b.toNat=37) || c&&decide (b.toNat≠10)) s;unfold gapL;split<;>simp only [List.length_cons]<;>omega
theorem qwp {s:List UInt8} {k:Int} {m:Nat} {v:Vl} (h:wdL s=some (k,m,v)):1≤m∧m≤s.length:=by
 cases s with
 |nil=>cases h
 |cons c t =>
  have h1:=qq6 innB t;have h2:=qq6 qaH t;have h3:=qDJ t;have h4:qmM c t≤(c::t).length:=by
   unfold qmM;cases t with
   |nil=>cases qsj c<;>simp [hdIs]
   |cons d t=>cases hdIs (twoB c) (d::t)<;>cases qsj c<;>simp
  simp only [wdL] at h
  simp only [List.length_cons] at h4 ⊢
  repeat' (split at h)
  all_goals first|(cases h;done)|skip
  all_goals first|(cases h;omega)|(unfold valL at h;split at h<;>first|(cases h;done)|(cases h;omega))
def cW:Cod Wd where
 enc t:=[.int .i64 t.1,.str t.2.1,.int .i64 t.2.2.1.1,.int .i64 t.2.2.1.2.1,.str t.2.2.1.2.2,.int .i64 t.2.2.2]
 dec c:=match c with|[.int .i64 a,.str b,.int .i64 k,.int .i64 n,.str s,.int .i64 p]=>some (a,b,(k,n,s),p)|_=>none
 k:=6
 of_dec c a h:=by
  split at h
  ·cases h;rfl
  ·cases h
 dec_of a:=rfl
 lock a:=rfl
 shut a:=rfl
 len a:=rfl
 one a:=rfl
@[simp] theorem okSize_cW (l:List Wd):qaq (rOf cW l) 6=true:=qbo cW l
@[simp] theorem okNews_cW (l:List Wd):qaC (rOf cW l) 6=true:=qbp cW l
@[simp] theorem okGet_cW (l:List Wd) (i:Nat):qaM [.int .i64 0,.str [],.int .i64 0,.int .i64 0,.str [],.int .i64 0] (rOf cW l) i=decide (i < l.length):=qbG _ _ (fun _=>rfl) l i
@[simp] theorem xInt_cW0 (l:List Wd) (i:Nat):xInt (rOf cW l) i 0=(l[i]?.getD (0,[],(0,0,[]),0)).1:=by unfold xInt;rw [qan];cases l[i]?<;>rfl
@[simp] theorem xStr_cW1 (l:List Wd) (i:Nat):xStr (rOf cW l) i 1=(l[i]?.getD (0,[],(0,0,[]),0)).2.1:=by unfold xStr;rw [qan];cases l[i]?<;>rfl
@[simp] theorem xInt_cW2 (l:List Wd) (i:Nat):xInt (rOf cW l) i 2=(l[i]?.getD (0,[],(0,0,[]),0)).2.2.1.1:=by unfold xInt;rw [qan];cases l[i]?<;>rfl
@[simp] theorem xInt_cW3 (l:List Wd) (i:Nat):xInt (rOf cW l) i 3=(l[i]?.getD (0,[],(0,0,[]),0)).2.2.1.2.1:=by unfold xInt;rw [qan];cases l[i]?<;>rfl
@[simp] theorem xStr_cW4 (l:List Wd) (i:Nat):xStr (rOf cW l) i 4=(l[i]?.getD (0,[],(0,0,[]),0)).2.2.1.2.2:=by unfold xStr;rw [qan];cases l[i]?<;>rfl
@[simp] theorem xInt_cW5 (l:List Wd) (i:Nat):xInt (rOf cW l) i 5=(l[i]?.getD (0,[],(0,0,[]),0)).2.2.2:=by unfold xInt;rw [qan];cases l[i]?<;>rfl
theorem qL7 (l:List Wd) (a:Int) (b:qU) (k n:Int) (s:qU) (p:Int):rOf cW l++[[.int .i64 a,.str b,.int .i64 k,.int .i64 n,.str s,.int .i64 p]]=rOf cW (l++[(a,b,(k,n,s),p)]):=by rw [qef];rfl
theorem qMy (a:Int) (b:qU) (k n:Int) (s:qU) (p:Int):([[.int .i64 a,.str b,.int .i64 k,.int .i64 n,.str s,.int .i64 p]]:List (List PV))=rOf cW [(a,b,(k,n,s),p)]:=rfl
@[simp] theorem qLu (l:List Wd) (a:Int) (b:qU) (k n:Int) (s:qU) (p:Int):[.int .i64 a,.str b,.int .i64 k,.int .i64 n,.str s,.int .i64 p]::rOf cW l=rOf cW ((a,b,(k,n,s),p)::l):=rfl
end Go.Pv
set_option maxHeartbeats 4000000
set_option maxRecDepth 200000
set_option linter.unusedSimpArgs false
set_option linter.unusedVariables false
namespace Go.Pv
open Go Go.Proofs Go.RowKit
def smI (c:Int):Bool:=decide (97≤c)&&decide (c≤122)
def grI (c:Int):Bool:=decide (65≤c)&&decide (c≤90)
def dgI (c:Int):Bool:=decide (48≤c)&&decide (c≤57)
def inI (c:Int):Bool:=smI c || grI c || dgI c || decide (c=95)
theorem qIa (b:UInt8):smI (b.toNat:Int)=qkO b:=by unfold smI qkO;congr 1<;>(apply decide_eq_decide.2;omega)
theorem qHq (b:UInt8):grI (b.toNat:Int)=qnR b:=by unfold grI qnR;congr 1<;>(apply decide_eq_decide.2;omega)
theorem qgg (b:UInt8):dgI (b.toNat:Int)=qaH b:=by unfold dgI qaH;congr 1<;>(apply decide_eq_decide.2;omega)
theorem qve (b:UInt8):inI (b.toNat:Int)=innB b:=by
 unfold inI innB;rw [qIa,qHq,qgg]
 congr 1
 apply decide_eq_decide.2;omega
theorem qtk (c:Int):qpz c=some (.bool (dgI c)):=by
 unfold qpz qqa dgI
 try dsimp only
 by_cases h:(48:Int)≤c<;>simp [h]
@[simp] theorem qcr (c:Int):qbN c=true:=by simp [qbN,qba,qtk]
@[simp] theorem ldigit_v (c:Int):qba c=dgI c:=by simp [qba,qtk]
theorem qnH (c:Int):qiz c=some (.bool (inI c)):=by
 unfold qiz qkb inI smI grI
 try dsimp only
 by_cases h1:(97:Int)≤c<;>by_cases h2:c≤122<;>by_cases h3:(65:Int)≤c<;>by_cases h4:c≤90<;>by_cases h5:c=95<;>simp [h1,h2,h3,h4,h5]
@[simp] theorem lfollows_is (c:Int):qcd c=true:=by simp [qcd,qce,qnH]
@[simp] theorem lfollows_v (c:Int):qce c=inI c:=by simp [qce,qnH]
theorem qFm (s:qU) (hs:s.length < 9223372036854775807):∀ (m i:Nat),i+m=s.length→qdK [.str s,.fn 172 [],.int .i64 (i:Nat)] ⟨[],[],[]⟩=some (.exit 0,[.int .i64 ((i+runL innB (s.drop i):Nat):Int)],⟨[],[],[]⟩):=by
 intro m
 induction m with
 |zero =>
  intro i hi;rw [qFp,List.drop_eq_nil_of_le (by omega)]
  have:¬ (i:Int) < s.length:=by omega
  simp [qk9,runL,this]
 |succ m ih =>
  intro i hi;obtain⟨b,hb⟩:=qp7 (l:=s) (i:=i) (by omega)
  have hbe:=(List.getElem?_eq_some_iff.1 hb).2;have w:=qa1 (i:=i) (by omega)
  have hlt:i < s.length:=by omega
  have h1:=ih (i+1) (by omega)
  rw [qbE hb,qFp];cases hc:innB b with
  |true =>
   have e:i+(runL innB (s.drop (i+1))+1)=i+1+runL innB (s.drop (i+1)):=by omega
   simp only [runL,hc,if_true,e];rw [← h1];simp [qk9,hlt,hbe,qve,hc,w]
  |false=>simp [qk9,hlt,hbe,qve,hc,runL]
theorem qCp (s:qU) (hs:s.length < 9223372036854775807):∀ (m i:Nat),i+m=s.length→qdK [.str s,.fn 173 [],.int .i64 (i:Nat)] ⟨[],[],[]⟩=some (.exit 0,[.int .i64 ((i+runL qaH (s.drop i):Nat):Int)],⟨[],[],[]⟩):=by
 intro m
 induction m with
 |zero =>
  intro i hi;rw [qBr,List.drop_eq_nil_of_le (by omega)]
  have:¬ (i:Int) < s.length:=by omega
  simp [qg4,runL,this]
 |succ m ih =>
  intro i hi;obtain⟨b,hb⟩:=qp7 (l:=s) (i:=i) (by omega)
  have hbe:=(List.getElem?_eq_some_iff.1 hb).2;have w:=qa1 (i:=i) (by omega)
  have hlt:i < s.length:=by omega
  have h1:=ih (i+1) (by omega)
  rw [qbE hb,qBr];cases hc:qaH b with
  |true =>
   have e:i+(runL qaH (s.drop (i+1))+1)=i+1+runL qaH (s.drop (i+1)):=by omega
   simp only [runL,hc,if_true,e];rw [← h1];simp [qg4,hlt,hbe,qgg,hc,w]
  |false=>simp [qg4,hlt,hbe,qgg,hc,runL]
theorem qAG {s:List UInt8} (hs:s.length < 9223372036854775807):qAr s=some (.int .i64 (runL innB s:Nat)):=by
 have h:=qFm s hs s.length 0 (by omega)
 simp at h
 unfold qAr qyP
 try dsimp only
 simp [qpR,qwh,qz7,h]
theorem qKe {s:List UInt8} (hs:s.length < 9223372036854775807):qpE s=true:=by simp [qpE,qkt,qAG hs]
theorem qMY {s:List UInt8} (hs:s.length < 9223372036854775807):qkt s=(runL innB s:Nat):=by simp [qkt,qAG hs]
theorem qxd {s:List UInt8} (hs:s.length < 9223372036854775807):qvD s=some (.int .i64 (runL qaH s:Nat)):=by
 have h:=qCp s hs s.length 0 (by omega)
 simp at h
 unfold qvD qu0
 try dsimp only
 simp [qnw,qoI,qvk,h]
theorem qIj {s:List UInt8} (hs:s.length < 9223372036854775807):qhk s=true:=by simp [qhk,qbU,qxd hs]
theorem qJs {s:List UInt8} (hs:s.length < 9223372036854775807):qbU s=(runL qaH s:Nat):=by simp [qbU,qxd hs]
def qOut (i n:Nat):Option (PExit×List PV×Store):=if n=0 then some (.exit 0,[],⟨[],[],[]⟩) else some (.ret,[.int .i64 ((i+n:Nat):Int)],⟨[],[],[]⟩)
theorem qu4 (i n:Nat):qOut i (incN n)=qOut (i+1) n:=by
 unfold qOut incN;by_cases h:n=0
 ·simp [h]
 ·simp [h];omega
theorem qxo (s:qU) (hs:s.length < 9223372036854775800):∀ (m i:Nat),s.length≤i+m→i≤s.length+1→qby [.str s,.int .i64 (i:Nat)] ⟨[],[],[]⟩=qOut i (quoE false (s.drop i)):=by
 have hend:∀ i:Nat,s.length≤i→qby [.str s,.int .i64 (i:Nat)] ⟨[],[],[]⟩=some (.exit 0,[],⟨[],[],[]⟩):=fun i hi=>by
  rw [qsm];have:¬ (i:Int) < s.length:=by omega
  simp [qcL,this]
 intro m
 induction m with
 |zero =>
  intro i hi _;rw [hend i (by omega),List.drop_eq_nil_of_le (by omega)]
  simp [quoE,qOut]
 |succ m ih =>
  intro i hi hi2;by_cases hlt:i < s.length
  ·obtain⟨b,hb⟩:=qp7 (l:=s) (i:=i) hlt;have hbe:=(List.getElem?_eq_some_iff.1 hb).2;have w:=qa1 (i:=i) (by omega)
   have w2:=qa1 (i:=i+1) (by omega)
   have h1:=ih (i+1) (by omega) (by omega)
   rw [qbE hb,qsm];simp only [quoE];by_cases hq:b.toNat=34
   ·rw [if_pos hq];simp [qcL,hlt,hbe,hq,w,qOut]
   ·rw [if_neg hq];have hq':¬ ((b.toNat:Int)=34):=by omega
    by_cases hp:b.toNat=92
    ·rw [if_pos hp,qu4];have e1:qby [.str s,.int .i64 (iAdd .i64 (iAdd .i64 (i:Int) 1) 1)] ⟨[],[],[]⟩=qOut (i+1) (quoE true (s.drop (i+1))):=by
      rw [w,w2];by_cases hl2:i+1 < s.length
      ·obtain⟨c,hc⟩:=qp7 (l:=s) (i:=i+1) hl2;rw [qbE hc];simp only [quoE];rw [qu4];exact ih (i+1+1) (by omega) (by omega)
      ·rw [hend (i+1+1) (by omega),List.drop_eq_nil_of_le (by omega)]
       simp [quoE,qOut]
     rw [← e1];have t1:iLt (i:Int) (sLen s)=true:=by simp;omega
     have t2:qa0 s (i:Int)=true:=by simp;omega
     have t3:sAt s (i:Int)=92:=by simp [hbe,hlt,hp]
     simp only [qcL,t1,t2,t3];simp
    ·have hp':¬ ((b.toNat:Int)=92):=by omega
     rw [if_neg hp,qu4,← h1,← w];have t1:iLt (i:Int) (sLen s)=true:=by simp;omega
     have t2:qa0 s (i:Int)=true:=by simp;omega
     have t3:sAt s (i:Int)=b.toNat:=by simp [hbe,hlt]
     simp only [qcL,t1,t2,t3];simp [hq',hp']
  ·rw [hend i (by omega),List.drop_eq_nil_of_le (by omega)]
   simp [quoE,qOut]
theorem qqO {c:UInt8} {t:List UInt8} (hs:(c::t).length < 9223372036854775800):qk1 (c::t)=some (.int .i64 (if quoL t=0 then 0 else ((quoL t+1:Nat):Int))):=by
 have h:=qxo (c::t) hs t.length 1 (by simp;omega) (by simp)
 simp only [List.drop_succ_cons,List.drop_zero] at h
 unfold qk1 qmO
 try dsimp only
 unfold qOut at h
 rw [show quoE false t=quoL t from rfl] at h
 by_cases h0:quoL t=0
 ·rw [if_pos h0] at h ⊢;have h':qby [.str (c::t),.int .i64 1] ⟨[],[],[]⟩=some (.exit 0,[],⟨[],[],[]⟩):=h;simp [qes,qem,qc2,qe3,h']
 ·rw [if_neg h0] at h ⊢;have h':qby [.str (c::t),.int .i64 1] ⟨[],[],[]⟩=some (.ret,[.int .i64 ((1+quoL t:Nat):Int)],⟨[],[],[]⟩):=h;simp [qes,qem,qc2,qe3,h'];omega
theorem qDL:∀ t:qU,(Lib.indexByte t 10=-1∧gapL true t=t.length)∨∃ n:Nat,Lib.indexByte t 10=n∧n < t.length∧gapL true t=n+gapL false (t.drop n)
 |[]=>.inl ⟨rfl,rfl⟩
 |b::u=>by
  by_cases hb:b=10
  ·subst hb;refine .inr ⟨0,rfl,by simp,?_⟩
   simp [gapL,blB]
  ·have hb':(b == 10)=false:=by simpa using hb
   have hbn:b.toNat≠10:=fun h=>hb (UInt8.toNat.inj h)
   have e1:gapL true (b::u)=gapL true u+1:=by simp [gapL,hbn]
   rcases qDL u with⟨h1,h2⟩|⟨n,h1,h2,h3⟩
   ·refine .inl ⟨?_,by rw [e1,h2];rfl⟩
    simp [Lib.indexByte,hb',h1]
   ·refine .inr ⟨n+1,?_,by simpa using h2,?_⟩
    ·have:((n:Int) == -1)=false:=by simp
     simp [Lib.indexByte,hb',h1,this]
    ·rw [e1,h3];simp only [List.drop_succ_cons];omega
theorem qGq {b:UInt8} (h:blB b=true) (t:qU):gapL false (b::t)=gapL false t+1:=by
 have:b.toNat≠37:=by
  intro e;simp [blB,e] at h
 simp [gapL,h,this]
theorem qDy (s:qU) (hs:s.length < 9223372036854775800):∀ (m i:Nat),i+m=s.length→∃ e,(e=PExit.ret∨e=.exit 0)∧qjX [.str s,.int .i64 (i:Nat)] ⟨[],[],[]⟩=some (e,[.int .i64 ((i+gapL false (s.drop i):Nat):Int)],⟨[],[],[]⟩):=by
 intro m
 induction m using Nat.strongRecOn with
 |_ m ih =>
  intro i hi;by_cases hlt:i < s.length
  ·obtain⟨b,hb⟩:=qp7 (l:=s) (i:=i) hlt;have hbe:=(List.getElem?_eq_some_iff.1 hb).2;have w:=qa1 (i:=i) (by omega)
   rw [qbE hb,qEV];by_cases hbl:blB b=true
   ·obtain⟨e,he,hv⟩:=ih (m - 1) (by omega) (i+1) (by omega)
    refine⟨e,he,?_⟩;rw [qGq hbl];have hv':qjX [.str s,.int .i64 (iAdd .i64 (i:Int) 1)] ⟨[],[],[]⟩=some (e,[.int .i64 ((i+(gapL false (s.drop (i+1))+1):Nat):Int)],⟨[],[],[]⟩):=by
     rw [w,hv,show i+1+gapL false (s.drop (i+1))=i+(gapL false (s.drop (i+1))+1) from by omega]
    rw [← hv'];have hbl2:b.toNat=32∨b.toNat=9∨b.toNat=10∨b.toNat=13:=by simpa [blB,or_assoc] using hbl
    rcases hbl2 with h|h|h|h<;>simp [qgn,hlt,hbe,h]
   ·have hbl2:¬ (b.toNat=32∨b.toNat=9∨b.toNat=10∨b.toNat=13):=by simpa [blB,or_assoc] using hbl
    have n1:¬ ((b.toNat:Int)=32):=by omega
    have n2:¬ ((b.toNat:Int)=9):=by omega
    have n3:¬ ((b.toNat:Int)=10):=by omega
    have n4:¬ ((b.toNat:Int)=13):=by omega
    by_cases h37:b.toNat=37
    ·have e1:gapL false (b::s.drop (i+1))=gapL true (s.drop (i+1))+1:=by simp [gapL,h37]
     have e2:sSub s (nNat (i:Int)) (nLen s)=b::s.drop (i+1):=by
      simp only [qEv,qGe,qDM,Int.toNat_natCast,List.take_length];exact qbE hb
     have hb10:(b == 10)=false:=by
      cases hq:b == 10 with
      |false=>rfl
      |true=>simp at hq;subst hq;simp at h37
     have e3:idxV (b::s.drop (i+1)) 10=if Lib.indexByte (s.drop (i+1)) 10 == -1 then -1 else Lib.indexByte (s.drop (i+1)) 10+1:=by
      show Lib.indexByte (b::s.drop (i+1)) 10=_
      simp only [Lib.indexByte,hb10,Bool.false_eq_true,if_false]
     rw [e1];rcases qDL (s.drop (i+1)) with⟨h1,h2⟩|⟨n,h1,h2,h3⟩
     ·refine⟨.ret,.inl rfl,?_⟩;have e4:idxV (b::s.drop (i+1)) 10=-1:=by rw [e3,h1];rfl
      have e5:i+(gapL true (s.drop (i+1))+1)=s.length:=by rw [h2];simp;omega
      rw [e5];have t1:iLt (i:Int) (sLen s)=true:=by simp;omega
      have t2:qa0 s (i:Int)=true:=by simp;omega
      have t3:sAt s (i:Int)=37:=by simp [hbe,hlt,h37]
      have t4:qbd (qas (i:Int)) true (nNat (i:Int)) (nLen s) (nLen s)=true:=by simp;omega
      simp only [qgn,e2,e4,t1,t2,t3,t4];simp
     ·have e4:idxV (b::s.drop (i+1)) 10=((n+1:Nat):Int):=by
       rw [e3,h1];have:((n:Int) == -1)=false:=by simp
       rw [this];simp
      have hn:n < s.length - (i+1):=by simpa using h2
      obtain⟨e,he,hv⟩:=ih (m - (n+1)) (by omega) (i+(n+1)) (by omega)
      refine⟨e,he,?_⟩;have w2:iAdd .i64 (i:Int) ((n+1:Nat):Int)=((i+(n+1):Nat):Int):=qcY (by omega)
      have e6:i+(n+1)+gapL false (s.drop (i+(n+1)))=i+(gapL true (s.drop (i+1))+1):=by
       rw [h3,List.drop_drop,show i+1+n=i+(n+1) from by omega]
       omega
      rw [e6] at hv;have hge:¬ ((n+1:Nat):Int) < 0:=by omega
      have t1:iLt (i:Int) (sLen s)=true:=by simp;omega
      have t2:qa0 s (i:Int)=true:=by simp;omega
      have t3:sAt s (i:Int)=37:=by simp [hbe,hlt,h37]
      have t5:iLt ((n+1:Nat):Int) 0=false:=by simp;omega
      have t4:qbd (qas (i:Int)) true (nNat (i:Int)) (nLen s) (nLen s)=true:=by simp;omega
      simp only [qgn,e2,e4,w2,t1,t2,t3,t4,t5];simpa using hv
    ·refine⟨.ret,.inl rfl,?_⟩;have n5:¬ ((b.toNat:Int)=37):=by omega
     have e1:gapL false (b::s.drop (i+1))=0:=by
      have:blB b=false:=by simpa using hbl
      simp [gapL,this,h37]
     rw [e1];simp [qgn,hlt,hbe,n1,n2,n3,n4,n5]
  ·refine⟨.exit 0,.inr rfl,?_⟩;rw [qEV,List.drop_eq_nil_of_le (by omega)]
   have:¬ (i:Int) < s.length:=by omega
   simp [qgn,gapL,this]
theorem qBR {s:List UInt8} (hs:s.length < 9223372036854775800):qAq s=some (.int .i64 (gapL false s:Nat)):=by
 obtain⟨e,he,h⟩:=qDy s hs s.length 0 (by omega)
 simp at h
 unfold qAq qy3
 try dsimp only
 rcases he with rfl|rfl<;>simp [qqH,qp3,qlS,qfM,qqZ,h]
theorem qFB {s:List UInt8} (hs:s.length < 9223372036854775800):qgG s=true:=by simp [qgG,qhd,qBR hs]
theorem qJb {s:List UInt8} (hs:s.length < 9223372036854775800):qhd s=(gapL false s:Nat):=by simp [qhd,qBR hs]
theorem qyi {s:List UInt8} (hs:s.length < 9223372036854775807) (k:Int):qeO s k=some (.tup [.agg [.int .i64 k,.str (s.take (runL innB s)),.int .i64 0,.int .i64 0,.str [],.int .i64 0],.bool (decide (runL innB s≤64))]):=by
 unfold qeO qvv
 try dsimp only
 have h:=qq6 innB s;have e:iLe (runL innB s:Nat) 64=decide (runL innB s≤64):=by simp;omega
 rw [qMY hs,qKe hs,e];have t:qbd true (qas ((runL innB s:Nat):Int)) 0 (nNat ((runL innB s:Nat):Int)) (nLen s)=true:=by simp;omega
 rw [t];simp
theorem qBz {s:List UInt8} (hs:s.length < 9223372036854775807) (k:Int):qg8 s k=true:=by simp [qg8,qjT,qj1,qfU,qgq,qgy,qfD,qkf,qyi hs]
def wTup (k:Int) (x:qU) (v:Vl) (p:Int) (b:Bool):PV:=.tup [.agg [.int .i64 k,.str x,.int .i64 v.1,.int .i64 v.2.1,.str v.2.2,.int .i64 p],.bool b]
theorem qFN {s:List UInt8} (hs:s.length < 9223372036854775807) (k:Int):(PV.tup [.agg [.int .i64 (qjT s k),.str (qj1 s k),.int .i64 (qfU s k),.int .i64 (qgq s k),.str (qgy s k),.int .i64 (qfD s k)],.bool (qkf s k)])=wTup k (s.take (runL innB s)) (0,0,[]) 0 (decide (runL innB s≤64)):=by
 simp [wTup,qjT,qj1,qfU,qgq,qgy,qfD,qkf,qyi hs]
theorem qqN {s:List UInt8} (hs:s.length≤140737488355328) (k:Int):qbX s k=some (wTup k s (kRd s,nRd s,sRd s) 0 (decide (eRd s=0))):=by
 unfold qbX qmy wTup
 try dsimp only
 simp [hs]
theorem qmF {s:List UInt8} (hs:s.length≤140737488355328) (k:Int):qcQ s k=true:=by simp [qcQ,qcq,qcm,qbQ,qbO,qbR,qbJ,qcx,qqN hs,wTup]
theorem qxc {s:List UInt8} (hs:s.length≤140737488355328) (k:Int):(PV.tup [.agg [.int .i64 (qcq s k),.str (qcm s k),.int .i64 (qbQ s k),.int .i64 (qbO s k),.str (qbR s k),.int .i64 (qbJ s k)],.bool (qcx s k)])=wTup k s (kRd s,nRd s,sRd s) 0 (decide (eRd s=0)):=by
 simp [wTup,qcq,qcm,qbQ,qbO,qbR,qbJ,qcx,qqN hs]
theorem qFk (c:UInt8) (t:qU) (a b:UInt8):qdd (c::t) [a,b]=(decide (c=a)&&hdIs (fun d=>decide (d=b)) t):=by
 unfold qdd;cases t with
 |nil=>simp [hdIs]
 |cons d u=>simp [hdIs,Bool.decide_and]
def wst:Store:=⟨[[.int .i64 0,.str [],.int .i64 0,.int .i64 0,.str [],.int .i64 0]],[],[44]⟩
theorem qMq (c:UInt8) (t:qU):hdIs (twoB c) t=(qdd (c::t) [58,45] || qdd (c::t) [60,61] || qdd (c::t) [62,61] || qdd (c::t) [33,61]):=by
 simp only [qFk];cases t with
 |nil=>simp [hdIs]
 |cons d u =>
  simp only [hdIs,twoB];simp only [← UInt8.toNat_inj];simp [Bool.decide_and]
theorem qir {s p:List UInt8} (h:qdd s p=true) (hp:p.length=2):s.take 2=p:=by
 simp [qdd] at h
 rw [← hp];exact h.2
theorem qzn (c:UInt8) (t:qU) (n:Int):qhP [.str (c::t),.ptr 0 0,.int .u8 n,.agg [.str [58,45],.str [60,61],.str [62,61],.str [33,61]],.int .i64 0] wst =
  if hdIs (twoB c) t then some (.ret,[.ptr 0 0,.bool true],⟨[[.int .i64 6,.str ((c::t).take 2),.int .i64 0,.int .i64 0,.str [],.int .i64 0]],[],[44]⟩)
  else some (.exit 1,[.str (c::t),.ptr 0 0,.int .u8 n],wst):=by
 have i1:iAdd .i64 0 1=1:=by decide
 have i2:iAdd .i64 1 1=2:=by decide
 have i3:iAdd .i64 2 1=3:=by decide
 have i4:iAdd .i64 3 1=4:=by decide
 unfold wst;rw [qMq];rw [qkq];cases h1:qdd (c::t) [58,45] with
 |true=>have q:=qir h1 rfl;simp [qa8,h1];simpa using q.symm
 |false =>
  have e1:(qa8 (c::t) n [58,45] [60,61] [62,61] [33,61] 0 0 [] 0 0 [] 0).run=some (.next [.str (c::t),.ptr 0 0,.int .u8 n,.agg [.str [58,45],.str [60,61],.str [62,61],.str [33,61]],.int .i64 1] ⟨[[.int .i64 0,.str [],.int .i64 0,.int .i64 0,.str [],.int .i64 0]],[],[44]⟩):=by simp [qa8,h1,i1]
  rw [e1,qiX,qkq];cases h2:qdd (c::t) [60,61] with
  |true=>have q:=qir h2 rfl;simp [qa8,h2];simpa using q.symm
  |false =>
   have e2:(qa8 (c::t) n [58,45] [60,61] [62,61] [33,61] 1 0 [] 0 0 [] 0).run=some (.next [.str (c::t),.ptr 0 0,.int .u8 n,.agg [.str [58,45],.str [60,61],.str [62,61],.str [33,61]],.int .i64 2] ⟨[[.int .i64 0,.str [],.int .i64 0,.int .i64 0,.str [],.int .i64 0]],[],[44]⟩):=by simp [qa8,h2,i2]
   rw [e2,qiX,qkq];cases h3:qdd (c::t) [62,61] with
   |true=>have q:=qir h3 rfl;simp [qa8,h3];simpa using q.symm
   |false =>
    have e3:(qa8 (c::t) n [58,45] [60,61] [62,61] [33,61] 2 0 [] 0 0 [] 0).run=some (.next [.str (c::t),.ptr 0 0,.int .u8 n,.agg [.str [58,45],.str [60,61],.str [62,61],.str [33,61]],.int .i64 3] ⟨[[.int .i64 0,.str [],.int .i64 0,.int .i64 0,.str [],.int .i64 0]],[],[44]⟩):=by simp [qa8,h3,i3]
    rw [e3,qiX,qkq];cases h4:qdd (c::t) [33,61] with
    |true=>have q:=qir h4 rfl;simp [qa8,h4];simpa using q.symm
    |false =>
     have e4:(qa8 (c::t) n [58,45] [60,61] [62,61] [33,61] 3 0 [] 0 0 [] 0).run=some (.next [.str (c::t),.ptr 0 0,.int .u8 n,.agg [.str [58,45],.str [60,61],.str [62,61],.str [33,61]],.int .i64 4] ⟨[[.int .i64 0,.str [],.int .i64 0,.int .i64 0,.str [],.int .i64 0]],[],[44]⟩):=by simp [qa8,h4,i4]
     rw [e4,qiX,qkq];simp [qa8]
theorem qEx (c:UInt8):∀ l:qU,0≤Lib.indexByte l c↔c∈l
 |[]=>by simp [Lib.indexByte]
 |b::l=>by
  have h1:=qEx c l;have h2:=Lib.indexByte_ge l c;unfold Lib.indexByte;by_cases hb:b=c
  ·subst hb;simp
  ·have hb':(b == c)=false:=by simpa using hb
   have hc:¬ c=b:=fun e=>hb e.symm
   rw [hb'];by_cases h3:Lib.indexByte l c=-1
   ·have:¬ c∈l:=fun hm=>by have:=h1.2 hm;omega
    simp [h3,hc,this]
   ·have:c∈l:=h1.1 (by omega)
    simp [h3,this];omega
theorem qIf (c:UInt8):iLe 0 (idxV [40,41,44,46,43,45,61,58,60,62] (c.toNat:Int))=qsj c:=by
 have e:idxV [40,41,44,46,43,45,61,58,60,62] (c.toNat:Int)=Lib.indexByte [40,41,44,46,43,45,61,58,60,62] c:=by
  unfold idxV
  congr 1
  simp
 rw [qF6];have h:=qEx c [40,41,44,46,43,45,61,58,60,62];have h':decide (0≤Lib.indexByte [40,41,44,46,43,45,61,58,60,62] c)=decide (c∈[40,41,44,46,43,45,61,58,60,62]):=decide_eq_decide.2 h;rw [e,h'];simp only [List.mem_cons,List.not_mem_nil,or_false,← UInt8.toNat_inj,qsj,List.contains,List.elem_eq_mem];simp
theorem qyo {c:UInt8} {t:List UInt8} (hs:(c::t).length≤140737488355328) (h:qkO c=true):qaX (c::t)=some (wTup 1 ((c::t).take (runL innB (c::t))) (0,0,[]) 0 (decide (runL innB (c::t)≤64))):=by
 have hs':(c::t).length < 9223372036854775807:=by omega
 have h1:97≤c.toNat∧c.toNat≤122:=by simpa [qkO] using h
 have g1:(97:Int)≤c.toNat:=by omega
 have g2:(c.toNat:Int)≤122:=by omega
 rw [← qFN hs'];unfold qaX qdq
 try dsimp only
 cases t<;>simp [g1,g2,qBz hs']
theorem qyJ {c:UInt8} {t:List UInt8} (hs:(c::t).length≤140737488355328) (h:qnR c=true):qaX (c::t)=some (wTup 2 ((c::t).take (runL innB (c::t))) (0,0,[]) 0 (decide (runL innB (c::t)≤64))):=by
 have hs':(c::t).length < 9223372036854775807:=by omega
 have h1:65≤c.toNat∧c.toNat≤90:=by simpa [qnR] using h
 have g1:¬ (97:Int)≤c.toNat:=by omega
 have g2:(65:Int)≤c.toNat:=by omega
 have g3:(c.toNat:Int)≤90:=by omega
 rw [← qFN hs'];unfold qaX qdq
 try dsimp only
 cases t<;>simp [g1,g2,g3,qBz hs']
theorem qGb {c:UInt8} {t:List UInt8} (hs:(c::t).length≤140737488355328) (h:c.toNat=95):qaX (c::t)=some (wTup 3 [95] (0,0,[]) 0 (!hdIs innB t)):=by
 unfold qaX qdq
 try dsimp only
 cases t with
 |nil =>
  have e:inI 0=false:=by decide
  simp [h,hdIs,wTup,e]
 |cons d u =>
  have g:iLt 1 (sLen (c::d::u))=true:=by simp;omega
  rw [g];simp [h,hdIs,qve,wTup]
def dgW (s:qU):PV:=wTup 4 (s.take (runL qaH (s.drop 1)+1)) (kRd (s.take (runL qaH (s.drop 1)+1)),nRd (s.take (runL qaH (s.drop 1)+1)),sRd (s.take (runL qaH (s.drop 1)+1))) 0 (decide (eRd (s.take (runL qaH (s.drop 1)+1))=0))
theorem qFZ {c : UInt8} {t : List UInt8} (hs : (c :: t).length ≤ 140737488355328) : (Tr.ite (qbd (qas 1) true (nNat 1) (nLen (c :: t)) (nLen (c :: t)))
          (Tr.ite (qhk (sSub (c :: t) (nNat 1) (nLen (c :: t))))
            (Tr.ite (qbd true (qas (iAdd .i64 1 (qbU (sSub (c :: t) (nNat 1) (nLen (c :: t)))))) 0 (nNat (iAdd .i64 1 (qbU (sSub (c :: t) (nNat 1) (nLen (c :: t)))))) (nLen (c :: t)))
              (Tr.ite (qcQ (sSub (c :: t) 0 (nNat (iAdd .i64 1 (qbU (sSub (c :: t) (nNat 1) (nLen (c :: t))))))) 4)
                (Tr.ret (PV.tup [PV.agg [PV.int .i64 (qcq (sSub (c :: t) 0 (nNat (iAdd .i64 1 (qbU (sSub (c :: t) (nNat 1) (nLen (c :: t))))))) 4), PV.str (qcm (sSub (c :: t) 0 (nNat (iAdd .i64 1 (qbU (sSub (c :: t) (nNat 1) (nLen (c :: t))))))) 4), PV.int .i64 (qbQ (sSub (c :: t) 0 (nNat (iAdd .i64 1 (qbU (sSub (c :: t) (nNat 1) (nLen (c :: t))))))) 4), PV.int .i64 (qbO (sSub (c :: t) 0 (nNat (iAdd .i64 1 (qbU (sSub (c :: t) (nNat 1) (nLen (c :: t))))))) 4), PV.str (qbR (sSub (c :: t) 0 (nNat (iAdd .i64 1 (qbU (sSub (c :: t) (nNat 1) (nLen (c :: t))))))) 4), PV.int .i64 (qbJ (sSub (c :: t) 0 (nNat (iAdd .i64 1 (qbU (sSub (c :: t) (nNat 1) (nLen (c :: t))))))) 4)], PV.bool (qcx (sSub (c :: t) 0 (nNat (iAdd .i64 1 (qbU (sSub (c :: t) (nNat 1) (nLen (c :: t))))))) 4)]))
                Tr.fail) Tr.fail) Tr.fail) Tr.fail).run = some (dgW (c :: t)) := by
  have e0 : sSub (c :: t) (nNat 1) (nLen (c :: t)) = t := by simp
  have hl : t.length + 1 ≤ 140737488355328 := by simpa using hs
  have hr := qq6 qaH t
  rw [e0, qIj (by omega), qJs (by omega)]
  have e1 : iAdd .i64 1 ((runL qaH t : Nat) : Int) = ((runL qaH t + 1 : Nat) : Int) := by
    have : iAdd .i64 1 ((runL qaH t : Nat) : Int) = (1 : Int) + (runL qaH t : Nat) := qcY (by omega)
    rw [this]; omega
  rw [e1]
  have e2 : sSub (c :: t) 0 (nNat ((runL qaH t + 1 : Nat) : Int)) = (c :: t).take (runL qaH t + 1) := by simp [-List.take_succ_cons]
  rw [e2]
  have hl2 : ((c :: t).take (runL qaH t + 1)).length ≤ 140737488355328 := by rw [List.length_take]; omega
  have t1 : qbd (qas 1) true (nNat 1) (nLen (c :: t)) (nLen (c :: t)) = true := by simp
  have t2 : qbd true (qas ((runL qaH t + 1 : Nat) : Int)) 0 (nNat ((runL qaH t + 1 : Nat) : Int)) (nLen (c :: t)) = true := by simp; omega
  rw [t1, t2, qmF hl2, qxc hl2]
  rfl
theorem qIC {c:UInt8} {t:List UInt8} (hs:(c::t).length≤140737488355328) (h:qaH c=true):qaX (c::t)=some (dgW (c::t)):=by
 have h1:48≤c.toNat∧c.toNat≤57:=by simpa [qaH] using h
 have f0:qa0 (c::t) 0=true:=by simp
 have f1:iLe 97 (sAt (c::t) 0)=false:=by simp;omega
 have f3:iLe 65 (sAt (c::t) 0)=false:=by simp;omega
 have f5:iEq (sAt (c::t) 0) 95=false:=by simp;omega
 have f6:qba (sAt (c::t) 0)=true:=by simp [qgg,h]
 rw [← qFZ hs];unfold qaX qdq
 try dsimp only
 cases t with
 |nil =>
  have g:iLt 1 (sLen [c])=false:=by simp
  rw [f0,g,f1,f3,f5,f6,qcr];rfl
 |cons d u =>
  have g:iLt 1 (sLen (c::d::u))=true:=by simp;omega
  have g2:qa0 (c::d::u) 1=true:=by simp
  rw [f0,g,g2,f1,f3,f5,f6,qcr];rfl
theorem qDr {c d:UInt8} {u:List UInt8} (hs:(c::d::u).length≤140737488355328) (h:c.toNat=45) (hd:qaH d=true):qaX (c::d::u)=some (dgW (c::d::u)):=by
 have f0:qa0 (c::d::u) 0=true:=by simp
 have f1:iLe 97 (sAt (c::d::u) 0)=false:=by simp;omega
 have f3:iLe 65 (sAt (c::d::u) 0)=false:=by simp;omega
 have f5:iEq (sAt (c::d::u) 0) 95=false:=by simp;omega
 have f6:qba (sAt (c::d::u) 0)=false:=by simp [dgI,h]
 have f7:iEq (sAt (c::d::u) 0) 45=true:=by simp;omega
 have f8:qba (sAt (c::d::u) 1)=true:=by simp [qgg,hd]
 rw [← qFZ hs];unfold qaX qdq
 try dsimp only
 have g:iLt 1 (sLen (c::d::u))=true:=by simp;omega
 have g2:qa0 (c::d::u) 1=true:=by simp
 rw [f0,g,g2,f1,f3,f5,f6,f7,f8,qcr,qcr];rfl
def symN (t:qU):Nat:=if quoL t=0 then 0 else quoL t+1
def syW (s:qU) (n:Nat):PV:=wTup 5 (s.take n) (kRd (s.take n),nRd (s.take n),sRd (s.take n)) 0 (decide (eRd (s.take n)=0))
theorem qD8 {c:UInt8} {t:List UInt8} (hs:(c::t).length≤140737488355328) (h:c.toNat=34):qaX (c::t)=some (syW (c::t) (symN t)):=by
 have hq:qd4 (c::t)=((symN t:Nat):Int):=by
  simp only [qd4,qqO (c:=c) (t:=t) (by omega),qD7,qHf,symN]
  split<;>simp
 have hqi:qgN (c::t)=true:=by
  simp only [qgN,qG9,qqO (c:=c) (t:=t) (by omega),hq,symN]
  split<;>simp
 have hle:symN t≤(c::t).length:=by
  have:=qDJ t;unfold symN;split<;>simp<;>omega
 have hl2:((c::t).take (symN t)).length≤140737488355328:=by rw [List.length_take];omega
 have f0:qa0 (c::t) 0=true:=by simp
 have f1:iLe 97 (sAt (c::t) 0)=false:=by simp;omega
 have f3:iLe 65 (sAt (c::t) 0)=false:=by simp;omega
 have f5:iEq (sAt (c::t) 0) 95=false:=by simp;omega
 have f6:qba (sAt (c::t) 0)=false:=by simp [dgI,h]
 have f7:iEq (sAt (c::t) 0) 45=false:=by simp;omega
 have f9:iEq (sAt (c::t) 0) 34=true:=by simp;omega
 have e2:sSub (c::t) 0 (nNat ((symN t:Nat):Int))=(c::t).take (symN t):=by simp
 have t2:qbd true (qas ((symN t:Nat):Int)) 0 (nNat ((symN t:Nat):Int)) (nLen (c::t))=true:=by simp at hle ⊢;omega
 have leaf:(PV.tup [PV.agg [PV.int .i64 (qcq ((c::t).take (symN t)) 5),PV.str (qcm ((c::t).take (symN t)) 5),PV.int .i64 (qbQ ((c::t).take (symN t)) 5),PV.int .i64 (qbO ((c::t).take (symN t)) 5),PV.str (qbR ((c::t).take (symN t)) 5),PV.int .i64 (qbJ ((c::t).take (symN t)) 5)],PV.bool (qcx ((c::t).take (symN t)) 5)])=syW (c::t) (symN t):=by rw [qxc hl2];rfl
 rw [← leaf];unfold qaX qdq
 try dsimp only
 cases t with
 |nil =>
  have g:iLt 1 (sLen [c])=false:=by simp
  rw [f0,g,f1,f3,f5,f6,f7,f9,qcr,hqi,hq,t2,e2,qmF hl2];rfl
 |cons d u =>
  have g:iLt 1 (sLen (c::d::u))=true:=by simp;omega
  have g2:qa0 (c::d::u) 1=true:=by simp
  rw [f0,g,g2,f1,f3,f5,f6,f7,f9,qcr,hqi,hq,t2,e2,qmF hl2];rfl
def mkW (c:UInt8) (t:qU):PV:=if hdIs (twoB c) t then wTup 6 ((c::t).take 2) (0,0,[]) 0 true else wTup 6 [c] (0,0,[]) 0 (qsj c)
def mkT (v:qU):Tr PV:=(Tr.ite (qch v (sAt v 0) [58,45] [60,61] [62,61] [33,61] 0 0 [] 0 0 [] 0)
 (Tr.ret (PV.tup [PV.agg [PV.int .i64 (qdE v (sAt v 0) [58,45] [60,61] [62,61] [33,61] 0 0 [] 0 0 [] 0),PV.str (qdx v (sAt v 0) [58,45] [60,61] [62,61] [33,61] 0 0 [] 0 0 [] 0),PV.int .i64 (qcF v (sAt v 0) [58,45] [60,61] [62,61] [33,61] 0 0 [] 0 0 [] 0),PV.int .i64 (qcP v (sAt v 0) [58,45] [60,61] [62,61] [33,61] 0 0 [] 0 0 [] 0),PV.str (qcI v (sAt v 0) [58,45] [60,61] [62,61] [33,61] 0 0 [] 0 0 [] 0),PV.int .i64 (qcU v (sAt v 0) [58,45] [60,61] [62,61] [33,61] 0 0 [] 0 0 [] 0)],PV.bool (qdB v (sAt v 0) [58,45] [60,61] [62,61] [33,61] 0 0 [] 0 0 [] 0)]))
 (Tr.ite (qe1 v (sAt v 0) [58,45] [60,61] [62,61] [33,61] 0 0 [] 0 0 [] 0)
  (Tr.ite (qbd true (qas 1) 0 (nNat 1) (nLen (qcg v (sAt v 0) [58,45] [60,61] [62,61] [33,61] 0 0 [] 0 0 [] 0)))
   (Tr.ret (PV.tup [PV.agg [PV.int .i64 6,PV.str (sSub (qcg v (sAt v 0) [58,45] [60,61] [62,61] [33,61] 0 0 [] 0 0 [] 0) 0 (nNat 1)),PV.int .i64 0,PV.int .i64 0,PV.str [],PV.int .i64 0],PV.bool (iLe 0 (idxV [40,41,44,46,43,45,61,58,60,62] (qcH v (sAt v 0) [58,45] [60,61] [62,61] [33,61] 0 0 [] 0 0 [] 0)))]))
   Tr.fail)
  Tr.fail))
theorem qKc (c:UInt8) (t:qU):(mkT (c::t)).run=some (mkW c t):=by
 have hL:=qzn c t (sAt (c::t) 0);unfold wst at hL;have e2:sSub (c::t) 0 (nNat 1)=[c]:=by simp
 have t2:qbd true (qas 1) 0 (nNat 1) (nLen (c::t))=true:=by simp
 have e3:sAt (c::t) 0=(c.toNat:Int):=by simp
 have ho:=qIf c;unfold mkT mkW;cases h:hdIs (twoB c) t with
 |true =>
  rw [h] at hL;simp only [if_true] at hL ⊢;have a1:qch (c::t) (sAt (c::t) 0) [58,45] [60,61] [62,61] [33,61] 0 0 [] 0 0 [] 0=true:=by
   simp only [qch,qdE,qdx,qcF,qcP,qcI,qcU,qdB,qaO,hL];simp
  rw [a1];simp only [qdE,qdx,qcF,qcP,qcI,qcU,qdB,qaO,hL];simp [wTup]
 |false =>
  rw [h] at hL;simp only [Bool.false_eq_true,if_false] at hL ⊢;have a0:qch (c::t) (sAt (c::t) 0) [58,45] [60,61] [62,61] [33,61] 0 0 [] 0 0 [] 0=false:=by
   cases hq:qch (c::t) (sAt (c::t) 0) [58,45] [60,61] [62,61] [33,61] 0 0 [] 0 0 [] 0 with
   |false=>rfl
   |true =>
    simp only [qch,qaO,hL] at hq;simp at hq
  have a1:qe1 (c::t) (sAt (c::t) 0) [58,45] [60,61] [62,61] [33,61] 0 0 [] 0 0 [] 0=true:=by
   simp only [qe1,qcg,qcH,qjQ,qjx,qjO,qjH,qkh,qke,qaO,hL];simp
  have a2:qcg (c::t) (sAt (c::t) 0) [58,45] [60,61] [62,61] [33,61] 0 0 [] 0 0 [] 0=c::t:=by
   simp only [qcg,qaO,hL];simp
  have a3:qcH (c::t) (sAt (c::t) 0) [58,45] [60,61] [62,61] [33,61] 0 0 [] 0 0 [] 0=(c.toNat:Int):=by
   simp only [qcH,qaO,hL];simp
  rw [a0,a1,a2,a3,t2,e2,ho];rfl
theorem qC5 {c:UInt8} {t:List UInt8} (hs:(c::t).length≤140737488355328) (h1:qkO c=false) (h2:qnR c=false) (h3:c.toNat≠95) (h4:qaH c=false) (h5:c.toNat=45→hdIs qaH t=false) (h6:c.toNat≠34):qaX (c::t)=some (mkW c t):=by
 have f0:qa0 (c::t) 0=true:=by simp
 have f5:iEq (sAt (c::t) 0) 95=false:=by simp;omega
 have f6:qba (sAt (c::t) 0)=false:=by simp [qgg,h4]
 have f9:iEq (sAt (c::t) 0) 34=false:=by simp;omega
 have g1:¬ (97≤c.toNat∧c.toNat≤122):=by simpa [qkO] using h1
 have g2:¬ (65≤c.toNat∧c.toNat≤90):=by simpa [qnR] using h2
 rw [← qKc];unfold qaX qdq
 try dsimp only
 have f8:c.toNat=45→qba (if iLt 1 (sLen (c::t))=true then sAt (c::t) 1 else 0)=false:=fun h=>by
  have:=h5 h;cases t with
  |nil=>simp [dgI]
  |cons d u =>
   have g:iLt 1 (sLen (c::d::u))=true:=by simp;omega
   rw [if_pos g];simpa [qgg,hdIs] using this
 have e97:iLe 97 (sAt (c::t) 0)=decide (97≤c.toNat):=by simp;omega
 have e122:iLe (sAt (c::t) 0) 122=decide (c.toNat≤122):=by simp;omega
 have e65:iLe 65 (sAt (c::t) 0)=decide (65≤c.toNat):=by simp;omega
 have e90:iLe (sAt (c::t) 0) 90=decide (c.toNat≤90):=by simp;omega
 have e45:iEq (sAt (c::t) 0) 45=decide (c.toNat=45):=by simp;omega
 rw [f0,e97,e122,e65,e90,e45,f5,f6,f9,qcr];have key:∀ b:Bool,iLt 1 (sLen (c::t))=b→(b=true→qa0 (c::t) 1=true)→True:=fun _ _ _=>trivial
 by_cases k1:97≤c.toNat
 ·have k2:¬ c.toNat≤122:=fun h=>g1 ⟨k1,h⟩
  have k3:65≤c.toNat:=by omega
  have k4:¬ c.toNat≤90:=by omega
  have k5:¬ c.toNat=45:=by omega
  rw [decide_eq_true k1,decide_eq_false k2,decide_eq_true k3,decide_eq_false k4,decide_eq_false k5];cases t with
  |nil =>
   have g:iLt 1 (sLen [c])=false:=by simp
   rw [g];rfl
  |cons d u =>
   have g:iLt 1 (sLen (c::d::u))=true:=by simp;omega
   have g2:qa0 (c::d::u) 1=true:=by simp
   rw [g,g2];rfl
 ·by_cases k3:65≤c.toNat
  ·have k4:¬ c.toNat≤90:=fun h=>g2 ⟨k3,h⟩
   have k5:¬ c.toNat=45:=by omega
   rw [decide_eq_false k1,decide_eq_true k3,decide_eq_false k4,decide_eq_false k5];cases t with
   |nil =>
    have g:iLt 1 (sLen [c])=false:=by simp
    rw [g];rfl
   |cons d u =>
    have g:iLt 1 (sLen (c::d::u))=true:=by simp;omega
    have g2:qa0 (c::d::u) 1=true:=by simp
    rw [g,g2];rfl
  ·by_cases k5:c.toNat=45
   ·rw [decide_eq_false k1,decide_eq_false k3,decide_eq_true k5];cases t with
    |nil =>
     have g:iLt 1 (sLen [c])=false:=by simp
     have f8':qba 0=false:=by simp [dgI]
     rw [g,f8',qcr 0];rfl
    |cons d u =>
     have g:iLt 1 (sLen (c::d::u))=true:=by simp;omega
     have g2:qa0 (c::d::u) 1=true:=by simp
     have f8':=f8 k5;rw [if_pos g] at f8';rw [g,g2,f8',qcr (sAt (c::d::u) 1)];rfl
   ·rw [decide_eq_false k1,decide_eq_false k3,decide_eq_false k5];cases t with
    |nil =>
     have g:iLt 1 (sLen [c])=false:=by simp
     rw [g];rfl
    |cons d u =>
     have g:iLt 1 (sLen (c::d::u))=true:=by simp;omega
     have g2:qa0 (c::d::u) 1=true:=by simp
     rw [g,g2];rfl
end Go.Pv
set_option maxHeartbeats 4000000
set_option maxRecDepth 200000
set_option linter.unusedSimpArgs false
set_option linter.unusedVariables false
namespace Go.Pv
open Go Go.Proofs
end Go.Pv
set_option maxHeartbeats 8000000
set_option maxRecDepth 200000
set_option linter.unusedSimpArgs false
set_option linter.unusedVariables false
namespace Go.Pv
open Go Go.Proofs Go.RowKit
end Go.Pv
