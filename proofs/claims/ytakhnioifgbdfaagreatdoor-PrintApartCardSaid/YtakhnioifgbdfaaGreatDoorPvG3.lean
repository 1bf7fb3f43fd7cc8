/- Part 3 of the proof: pure values for the machine's values, what functions compute over them, and laws of what is computed. Conditions: none beyond each theorem's own premises. -/
import Derived.Test.YtakhnioifgbdfaaGreatDoorPvG2
noncomputable section
set_option maxHeartbeats 4000000
set_option maxRecDepth 200000
set_option linter.unusedSimpArgs false
set_option linter.unusedVariables false
namespace Go.Pv
open Go Go.Proofs
def qpX:GamT:=ofL []
theorem qwG (gl:Gl):qa3 Tryz.prog gl (gam qpX):=qag
def qvi:LpsT:=fun r fr σ=>.fail
def qmZ (c:Int):Tr PV:=.ite (iLe 48 c) (.ret (.bool (iLe c 57))) (.ret (.bool false))
theorem qAz (c:Int):(tcall tbT qpX qvi Tryz.f156 [.int .u8 c]).flat=qmZ c:=by kernel_rfl
def qlE (c:Int):Option PV:=(qmZ c).run
def qa1 (c:Int):Bool:=(qbU (gVal (qlE c)))
def qaX (c:Int):Bool:=isW (qlE c) (.bool (qa1 c))
def qkb:List PV→Tr PV|[.int .u8 c]=>.ite (qaX c) (.ret (.bool (qa1 c))) (.fail)|_=>.fail
theorem qk1 (gl:Gl):SimP Tryz.prog gl 156 fun args=>(qkb args).run:=by
 refine SimP.of_flat (G:=qpX) (L:=qvi) qav (qwG gl ) qai  Tryz.func156 rfl (by rfl) (by kernel_rfl) (qae (by kernel_rfl)) ?_
 intro args x h;unfold qkb at h
 split at h
 ·exact (congrArg Tr.run (qAz _)).trans (qah h fun h=>by cases h)
 ·cases h
def qlg:GamT:=ofL [(156,.pure qkb)]
theorem qry (gl:Gl):qa3 Tryz.prog gl (gam qlg):=(qad (qk1 gl) qag)
def qo1:LpsT:=fun r fr σ=>.fail
def qi0 (c:Int):Tr PV:=.ite (iLe 97 c) (.ite (iLe c 122) (.ret (.bool true)) (.ite (iLe 65 c) (.ite (iLe c 90) (.ret (.bool true)) (.ite (iEq c 95) (.ret (.bool true)) (.ite (qaX c) (.ret (.bool (qa1 c))) .fail))) (.ite (iEq c 95) (.ret (.bool true)) (.ite (qaX c) (.ret (.bool (qa1 c))) .fail)))) (.ite (iLe 65 c) (.ite (iLe c 90) (.ret (.bool true)) (.ite (iEq c 95) (.ret (.bool true)) (.ite (qaX c) (.ret (.bool (qa1 c))) .fail))) (.ite (iEq c 95) (.ret (.bool true)) (.ite (qaX c) (.ret (.bool (qa1 c))) .fail)))
theorem qwv (c:Int):(tcall tbT qlg qo1 Tryz.f155 [.int .u8 c]).flat=qi0 c:=by kernel_rfl
def qh3 (c:Int):Option PV:=(qi0 c).run
def qbH (c:Int):Bool:=(qbU (gVal (qh3 c)))
def qbt (c:Int):Bool:=isW (qh3 c) (.bool (qbH c))
def qfN:List PV→Tr PV|[.int .u8 c]=>.ite (qbt c) (.ret (.bool (qbH c))) (.fail)|_=>.fail
theorem qhv (gl:Gl):SimP Tryz.prog gl 155 fun args=>(qfN args).run:=by
 refine SimP.of_flat (G:=qlg) (L:=qo1) qav (qry gl ) qai  Tryz.func155 rfl (by rfl) (by kernel_rfl) (qae (by kernel_rfl)) ?_
 intro args x h;unfold qfN at h
 split at h
 ·exact (congrArg Tr.run (qwv _)).trans (qah h fun h=>by cases h)
 ·cases h
def qoo:GamT:=ofL [(155,.pure qfN),(156,.pure qkb)]
theorem qu5 (gl:Gl):qa3 Tryz.prog gl (gam qoo):=(qad (qhv gl) (qad (qk1 gl) qag))
def qnh:Code:=qgr Tryz.f158 2
def qow:LI:=⟨20,[0,1,5],fun e=>match e with|.exit 0=>[5]|_=>[],true⟩
def qmr:LpsT:=fun r fr σ=>.fail
def qel (vs:List PV) (σ:Store):Option (PExit×List PV×Store):=lval (lstep tbT qoo qmr qnh qow) vs σ
def qjA (s:qU) (n:Int):Tr LR:=.ite (iLt n (sLen s)) (.ite (qbM s n) (.ite (qbt (sAt s n)) (.ite (qbH (sAt s n)) (.ret (.next [.str s,.fn 155 [],.int .i64 (iAdd .i64 n 1)] ⟨[],[],[]⟩)) (.ret (.out (.exit 0) [.int .i64 n] ⟨[],[],[]⟩))) .fail) .fail) (.ret (.out (.exit 0) [.int .i64 n] ⟨[],[],[]⟩))
theorem qDP (s:qU) (n:Int):lstep tbT qoo qmr qnh qow [.str s,.fn 155 [],.int .i64 n] ⟨[],[],[]⟩=qjA s n:=by kernel_rfl
theorem qxM (s:qU) (n:Int):qel [.str s,.fn 155 [],.int .i64 n] ⟨[],[],[]⟩=lnext qel (qjA s n).run:=by unfold qel;rw [qb0,qDP]
def qhz (s:qU) (n:Int):Tr LR:=.ite (iLt n (sLen s)) (.ite (qbM s n) (.ite (qaX (sAt s n)) (.ite (qa1 (sAt s n)) (.ret (.next [.str s,.fn 156 [],.int .i64 (iAdd .i64 n 1)] ⟨[],[],[]⟩)) (.ret (.out (.exit 0) [.int .i64 n] ⟨[],[],[]⟩))) .fail) .fail) (.ret (.out (.exit 0) [.int .i64 n] ⟨[],[],[]⟩))
theorem qAW (s:qU) (n:Int):lstep tbT qoo qmr qnh qow [.str s,.fn 156 [],.int .i64 n] ⟨[],[],[]⟩=qhz s n:=by kernel_rfl
theorem quQ (s:qU) (n:Int):qel [.str s,.fn 156 [],.int .i64 n] ⟨[],[],[]⟩=lnext qel (qhz s n).run:=by unfold qel;rw [qb0,qAW]
def qtz (s:qU) (n:Int):Option (PExit×List PV×Store):=qel [.str s,.fn 155 [],.int .i64 n] ⟨[],[],[]⟩
def qqv (s:qU) (n:Int):Int:=(gInt (gOut (qtz s n) 0))
def qmL (s:qU) (n:Int):Bool:=isW (qtz s n) ((.exit 0),[.int .i64 (qqv s n)],⟨[],[],[]⟩)
def qqS (s:qU) (n:Int):Option (PExit×List PV×Store):=qel [.str s,.fn 156 [],.int .i64 n] ⟨[],[],[]⟩
def qmq (s:qU) (n:Int):Int:=(gInt (gOut (qqS s n) 0))
def qkN (s:qU) (n:Int):Bool:=isW (qqS s n) ((.exit 0),[.int .i64 (qmq s n)],⟨[],[],[]⟩)
def qhJ:List PV→Store→Tr (PExit×List PV×Store)|[.str s,.fn 155 [],.int .i64 n],⟨[],[],[]⟩=>.ite (qmL s n) (.ret ((.exit 0),[.int .i64 (qqv s n)],⟨[],[],[]⟩)) (.fail)|[.str s,.fn 156 [],.int .i64 n],⟨[],[],[]⟩=>.ite (qkN s n) (.ret ((.exit 0),[.int .i64 (qmq s n)],⟨[],[],[]⟩)) (.fail)|_,_=>.fail
theorem qBf:∀ vs σ r,(qhJ vs σ).run=some r→qel vs σ=some r:=by
 intro vs σ r h;unfold qhJ at h
 split at h
 ·exact qah h fun h=>by cases h
 ·exact qah h fun h=>by cases h
 ·cases h
theorem qwd (gl:Gl):∀ fr σ e fr' σ',(orc qow qhJ fr σ).run=some (e,fr',σ')→LDoes Tryz.prog gl qnh fr σ e fr' σ':=qdi qav (qu5 gl ) qai (L:=qmr) (qae (by kernel_rfl)) (by kernel_rfl) qBf
def quw:LpsT:=fun r fr σ=>bif Nat.beq r 2 then orc qow qhJ fr σ else .fail
def qsJ (s:qU):Tr PV:=.ite (qmL s 0) (.ret (.int .i64 (qqv s 0))) .fail
theorem qFp (s:qU):(tcall tbT qoo quw Tryz.f158 [.str s,.fn 155 []]).flat=qsJ s:=by kernel_rfl
def qvL (s:qU):Option PV:=(qsJ s).run
def qjQ (s:qU):Int:=(gInt (gVal (qvL s)))
def qlF (s:qU):Bool:=isW (qvL s) (.int .i64 (qjQ s))
def qp1 (s:qU):Tr PV:=.ite (qkN s 0) (.ret (.int .i64 (qmq s 0))) .fail
theorem qEj (s:qU):(tcall tbT qoo quw Tryz.f158 [.str s,.fn 156 []]).flat=qp1 s:=by kernel_rfl
def qre (s:qU):Option PV:=(qp1 s).run
def qac (s:qU):Int:=(gInt (gVal (qre s)))
def qbr (s:qU):Bool:=isW (qre s) (.int .i64 (qac s))
def qu1:List PV→Tr PV|[.str s,.fn 155 []]=>.ite (qlF s) (.ret (.int .i64 (qjQ s))) (.fail)|[.str s,.fn 156 []]=>.ite (qbr s) (.ret (.int .i64 (qac s))) (.fail)|_=>.fail
theorem qvp (gl:Gl):SimP Tryz.prog gl 158 fun args=>(qu1 args).run:=by
 refine SimP.of_flat (G:=qoo) (L:=quw) qav (qu5 gl ) qai  Tryz.func158 rfl (by rfl) (by kernel_rfl) (qbp (L:=lps quw) [(2,qnh)] (by kernel_rfl) (List.forall_mem_cons.2 ⟨fun fr σ e fr' σ' h=>qwd gl  fr σ e fr' σ' h,(List.forall_mem_nil _)⟩)) ?_
 intro args x h;unfold qu1 at h
 split at h
 ·exact (congrArg Tr.run (qFp _)).trans (qah h fun h=>by cases h)
 ·exact (congrArg Tr.run (qEj _)).trans (qah h fun h=>by cases h)
 ·cases h
def qhu:GamT:=ofL []
theorem qnW (gl:Gl):qa3 Tryz.prog gl (gam qhu):=qag
def qhZ:Code:=qgr Tryz.f159 2
def qh6:LI:=⟨21,[0,3],fun e=>match e with|.ret=>[2]|.exit 0=>[]|_=>[],true⟩
def qi1:LpsT:=fun r fr σ=>.fail
def qcm (vs:List PV) (σ:Store):Option (PExit×List PV×Store):=lval (lstep tbT qhu qi1 qhZ qh6) vs σ
def qdt (s:qU) (i:Int):Tr LR:=.ite (iLt i (sLen s)) (.ite (qbM s i) (.ite (iEq (sAt s i) 92) (.ret (.next [.str s,.int .i64 (iAdd .i64 (iAdd .i64 i 1) 1)] ⟨[],[],[]⟩)) (.ite (iEq (sAt s i) 34) (.ret (.out .ret [.int .i64 (iAdd .i64 i 1)] ⟨[],[],[]⟩)) (.ret (.next [.str s,.int .i64 (iAdd .i64 i 1)] ⟨[],[],[]⟩)))) .fail) (.ret (.out (.exit 0) [] ⟨[],[],[]⟩))
theorem qv9 (s:qU) (i:Int):lstep tbT qhu qi1 qhZ qh6 [.str s,.int .i64 i] ⟨[],[],[]⟩=qdt s i:=by kernel_rfl
theorem qpm (s:qU) (i:Int):qcm [.str s,.int .i64 i] ⟨[],[],[]⟩=lnext qcm (qdt s i).run:=by unfold qcm;rw [qb0,qv9]
def qfC (s:qU) (i:Int):Option (PExit×List PV×Store):=qcm [.str s,.int .i64 i] ⟨[],[],[]⟩
def qdN (s:qU) (i:Int):Int:=(gInt (gOut (qfC s i) 0))
def qe6 (s:qU) (i:Int):Bool:=isW (qfC s i) (.ret,[.int .i64 (qdN s i)],⟨[],[],[]⟩)
def qeX (s:qU) (i:Int):Bool:=isW (qfC s i) ((.exit 0),[],⟨[],[],[]⟩)
def qdZ:List PV→Store→Tr (PExit×List PV×Store)|[.str s,.int .i64 i],⟨[],[],[]⟩=>.ite (qe6 s i) (.ret (.ret,[.int .i64 (qdN s i)],⟨[],[],[]⟩)) (.ite (qeX s i) (.ret ((.exit 0),[],⟨[],[],[]⟩)) (.fail))|_,_=>.fail
theorem qs4:∀ vs σ r,(qdZ vs σ).run=some r→qcm vs σ=some r:=by
 intro vs σ r h;unfold qdZ at h
 split at h
 ·exact qah h fun h=>qah h fun h=>by cases h
 ·cases h
theorem qpI (gl:Gl):∀ fr σ e fr' σ',(orc qh6 qdZ fr σ).run=some (e,fr',σ')→LDoes Tryz.prog gl qhZ fr σ e fr' σ':=qdi qav (qnW gl ) qai (L:=qi1) (qae (by kernel_rfl)) (by kernel_rfl) qs4
def qom:LpsT:=fun r fr σ=>bif Nat.beq r 2 then orc qh6 qdZ fr σ else .fail
def qkY (s:qU):Tr PV:=.ite (qe6 s 1) (.ret (.int .i64 (qdN s 1))) (.ite (qeX s 1) (.ret (.int .i64 0)) .fail)
theorem qxQ (s:qU):(tcall tbT qhu qom Tryz.f159 [.str s]).flat=qkY s:=by kernel_rfl
def qjz (s:qU):Option PV:=(qkY s).run
def qab (s:qU):Int:=(gInt (gVal (qjz s)))
def qa9 (s:qU):Bool:=isW (qjz s) (.int .i64 (qab s))
def qng:List PV→Tr PV|[.str s]=>.ite (qa9 s) (.ret (.int .i64 (qab s))) (.fail)|_=>.fail
theorem qtE (gl:Gl):SimP Tryz.prog gl 159 fun args=>(qng args).run:=by
 refine SimP.of_flat (G:=qhu) (L:=qom) qav (qnW gl ) qai  Tryz.func159 rfl (by rfl) (by kernel_rfl) (qbp (L:=lps qom) [(2,qhZ)] (by kernel_rfl) (List.forall_mem_cons.2 ⟨fun fr σ e fr' σ' h=>qpI gl  fr σ e fr' σ' h,(List.forall_mem_nil _)⟩)) ?_
 intro args x h;unfold qng at h
 split at h
 ·exact (congrArg Tr.run (qxQ _)).trans (qah h fun h=>by cases h)
 ·cases h
def qsh:GamT:=ofL [(153,.pure qgB)]
theorem quX (gl:Gl):qa3 Tryz.prog gl (gam qsh):=(qad (qjt gl) qag)
def qpJ:Code:=qgr Tryz.f140 2
def qpW:LI:=⟨34,[0,3],fun e=>match e with|.ret=>[2]|.exit 0=>[3]|_=>[],true⟩
def qqc:LpsT:=fun r fr σ=>.fail
def qis (vs:List PV) (σ:Store):Option (PExit×List PV×Store):=lval (lstep tbT qsh qqc qpJ qpW) vs σ
def qgq (s:qU) (at_:Int):Tr LR:=.ite (iLt at_ (sLen s)) (.ite (qbM s at_) (.ite (iEq (sAt s at_) 32) (.ret (.next [.str s,.int .i64 (iAdd .i64 at_ 1)] ⟨[],[],[]⟩)) (.ite (iEq (sAt s at_) 9) (.ret (.next [.str s,.int .i64 (iAdd .i64 at_ 1)] ⟨[],[],[]⟩)) (.ite (iEq (sAt s at_) 10) (.ret (.next [.str s,.int .i64 (iAdd .i64 at_ 1)] ⟨[],[],[]⟩)) (.ite (iEq (sAt s at_) 13) (.ret (.next [.str s,.int .i64 (iAdd .i64 at_ 1)] ⟨[],[],[]⟩)) (.ite (iEq (sAt s at_) 37) (.ite (qaC (qao at_) true (nNat at_) (nLen s) (nLen s)) (.ite (iLt (idxV (sSub s (nNat at_) (nLen s)) 10) 0) (.ret (.out .ret [.int .i64 (sLen s)] ⟨[],[],[]⟩)) (.ret (.next [.str s,.int .i64 (iAdd .i64 at_ (idxV (sSub s (nNat at_) (nLen s)) 10))] ⟨[],[],[]⟩))) .fail) (.ret (.out .ret [.int .i64 at_] ⟨[],[],[]⟩))))))) .fail) (.ret (.out (.exit 0) [.int .i64 at_] ⟨[],[],[]⟩))
theorem qCD (s:qU) (at_:Int):lstep tbT qsh qqc qpJ qpW [.str s,.int .i64 at_] ⟨[],[],[]⟩=qgq s at_:=by kernel_rfl
theorem qzI (s:qU) (at_:Int):qis [.str s,.int .i64 at_] ⟨[],[],[]⟩=lnext qis (qgq s at_).run:=by unfold qis;rw [qb0,qCD]
def qn1 (s:qU) (at_:Int):Option (PExit×List PV×Store):=qis [.str s,.int .i64 at_] ⟨[],[],[]⟩
def qjG (s:qU) (at_:Int):Int:=(gInt (gOut (qn1 s at_) 0))
def qnP (s:qU) (at_:Int):Bool:=isW (qn1 s at_) (.ret,[.int .i64 (qjG s at_)],⟨[],[],[]⟩)
def qg3 (s:qU) (at_:Int):Int:=(gInt (gOut (qn1 s at_) 0))
def qnr (s:qU) (at_:Int):Bool:=isW (qn1 s at_) ((.exit 0),[.int .i64 (qg3 s at_)],⟨[],[],[]⟩)
def qhN:List PV→Store→Tr (PExit×List PV×Store)|[.str s,.int .i64 at_],⟨[],[],[]⟩=>.ite (qnP s at_) (.ret (.ret,[.int .i64 (qjG s at_)],⟨[],[],[]⟩)) (.ite (qnr s at_) (.ret ((.exit 0),[.int .i64 (qg3 s at_)],⟨[],[],[]⟩)) (.fail))|_,_=>.fail
theorem qAC:∀ vs σ r,(qhN vs σ).run=some r→qis vs σ=some r:=by
 intro vs σ r h;unfold qhN at h
 split at h
 ·exact qah h fun h=>qah h fun h=>by cases h
 ·cases h
theorem qwz (gl:Gl):∀ fr σ e fr' σ',(orc qpW qhN fr σ).run=some (e,fr',σ')→LDoes Tryz.prog gl qpJ fr σ e fr' σ':=qdi qav (quX gl ) qai (L:=qqc) (qae (by kernel_rfl)) (by kernel_rfl) qAC
def qAk:LpsT:=fun r fr σ=>bif Nat.beq r 2 then orc qpW qhN fr σ else .fail
def qtJ (s:qU):Tr PV:=.ite (qnP s 0) (.ret (.int .i64 (qjG s 0))) (.ite (qnr s 0) (.ret (.int .i64 (qg3 s 0))) .fail)
theorem qFY (s:qU):(tcall tbT qsh qAk Tryz.f140 [.str s]).flat=qtJ s:=by kernel_rfl
def qve (s:qU):Option PV:=(qtJ s).run
def qa0 (s:qU):Int:=(gInt (gVal (qve s)))
def qd0 (s:qU):Bool:=isW (qve s) (.int .i64 (qa0 s))
def qxw:List PV→Tr PV|[.str s]=>.ite (qd0 s) (.ret (.int .i64 (qa0 s))) (.fail)|_=>.fail
theorem qAX (gl:Gl):SimP Tryz.prog gl 140 fun args=>(qxw args).run:=by
 refine SimP.of_flat (G:=qsh) (L:=qAk) qav (quX gl ) qai  Tryz.func140 rfl (by rfl) (by kernel_rfl) (qbp (L:=lps qAk) [(2,qpJ)] (by kernel_rfl) (List.forall_mem_cons.2 ⟨fun fr σ e fr' σ' h=>qwz gl  fr σ e fr' σ' h,(List.forall_mem_nil _)⟩)) ?_
 intro args x h;unfold qxw at h
 split at h
 ·exact (congrArg Tr.run (qFY _)).trans (qah h fun h=>by cases h)
 ·cases h
def qt7:GamT:=ofL [(155,.pure qfN),(158,.pure qu1)]
theorem qyO (gl:Gl):qa3 Tryz.prog gl (gam qt7):=(qad (qhv gl) (qad (qvp gl) qag))
def qzs:LpsT:=fun r fr σ=>.fail
def qp2 (s:qU) (k:Int):Tr PV:=.ite (qlF s) (.ite (qaC true (qao (qjQ s)) 0 (nNat (qjQ s)) (nLen s)) (.ret (.tup [.agg [.int .i64 k,.str (sSub s 0 (nNat (qjQ s))),.int .i64 0,.int .i64 0,.str [],.int .i64 0],.bool (iLe (qjQ s) 64)])) .fail) .fail
theorem qD5 (s:qU) (k:Int):(tcall tbT qt7 qzs Tryz.f154 [.str s,.int .i64 k]).flat=qp2 s k:=by kernel_rfl
def qfs (s:qU) (k:Int):Option PV:=(qp2 s k).run
def qeI (s:qU) (k:Int):Int:=(gInt (gAt (gCs (gAt (gCs (gVal (qfs s k))) 0)) 0))
def qey (s:qU) (k:Int):List UInt8:=(gStr (gAt (gCs (gAt (gCs (gVal (qfs s k))) 0)) 1))
def qc7 (s:qU) (k:Int):Int:=(gInt (gAt (gCs (gAt (gCs (gVal (qfs s k))) 0)) 2))
def qde (s:qU) (k:Int):Int:=(gInt (gAt (gCs (gAt (gCs (gVal (qfs s k))) 0)) 3))
def qdb (s:qU) (k:Int):List UInt8:=(gStr (gAt (gCs (gAt (gCs (gVal (qfs s k))) 0)) 4))
def qdh (s:qU) (k:Int):Int:=(gInt (gAt (gCs (gAt (gCs (gVal (qfs s k))) 0)) 5))
def qen (s:qU) (k:Int):Bool:=(qbU (gAt (gCs (gVal (qfs s k))) 1))
def qdf (s:qU) (k:Int):Bool:=isW (qfs s k) (.tup [.agg [.int .i64 (qeI s k),.str (qey s k),.int .i64 (qc7 s k),.int .i64 (qde s k),.str (qdb s k),.int .i64 (qdh s k)],.bool (qen s k)])
def qsX:List PV→Tr PV|[.str s,.int .i64 k]=>.ite (qdf s k) (.ret (.tup [.agg [.int .i64 (qeI s k),.str (qey s k),.int .i64 (qc7 s k),.int .i64 (qde s k),.str (qdb s k),.int .i64 (qdh s k)],.bool (qen s k)])) (.fail)|_=>.fail
theorem qyp (gl:Gl):SimP Tryz.prog gl 154 fun args=>(qsX args).run:=by
 refine SimP.of_flat (G:=qt7) (L:=qzs) qav (qyO gl ) qai  Tryz.func154 rfl (by rfl) (by kernel_rfl) (qae (by kernel_rfl)) ?_
 intro args x h;unfold qsX at h
 split at h
 ·exact (congrArg Tr.run (qD5 _ _)).trans (qah h fun h=>by cases h)
 ·cases h
def qor:GamT:=ofL [(169,.pure qyl)]
theorem qtk (gl:Gl) (hg:GlOk gl):qa3 Tryz.prog gl (gam qor):=(qad (qBQ hg) qag)
def qsb:LpsT:=fun r fr σ=>.fail
def qku (s:qU) (k:Int):Tr PV:=.ite (qoF s) (.ret (.tup [.agg [.int .i64 k,.str s,.int .i64 (kRd s),.int .i64 (nRd s),.str (sRd s),.int .i64 0],.bool (iEq (eRd s) 0)])) .fail
theorem qzP (s:qU) (k:Int):(tcall tbT qor qsb Tryz.f157 [.str s,.int .i64 k]).flat=qku s k:=by kernel_rfl
def qcV (s:qU) (k:Int):Option PV:=(qku s k).run
def qaz (s:qU) (k:Int):Int:=(gInt (gAt (gCs (gAt (gCs (gVal (qcV s k))) 0)) 0))
def qaA (s:qU) (k:Int):List UInt8:=(gStr (gAt (gCs (gAt (gCs (gVal (qcV s k))) 0)) 1))
def qaq (s:qU) (k:Int):Int:=(gInt (gAt (gCs (gAt (gCs (gVal (qcV s k))) 0)) 2))
def qat (s:qU) (k:Int):Int:=(gInt (gAt (gCs (gAt (gCs (gVal (qcV s k))) 0)) 3))
def qau (s:qU) (k:Int):List UInt8:=(gStr (gAt (gCs (gAt (gCs (gVal (qcV s k))) 0)) 4))
def qar (s:qU) (k:Int):Int:=(gInt (gAt (gCs (gAt (gCs (gVal (qcV s k))) 0)) 5))
def qay (s:qU) (k:Int):Bool:=(qbU (gAt (gCs (gVal (qcV s k))) 1))
def qan (s:qU) (k:Int):Bool:=isW (qcV s k) (.tup [.agg [.int .i64 (qaz s k),.str (qaA s k),.int .i64 (qaq s k),.int .i64 (qat s k),.str (qau s k),.int .i64 (qar s k)],.bool (qay s k)])
def qog:List PV→Tr PV|[.str s,.int .i64 k]=>.ite (qan s k) (.ret (.tup [.agg [.int .i64 (qaz s k),.str (qaA s k),.int .i64 (qaq s k),.int .i64 (qat s k),.str (qau s k),.int .i64 (qar s k)],.bool (qay s k)])) (.fail)|_=>.fail
theorem qtF (gl:Gl) (hg:GlOk gl):SimP Tryz.prog gl 157 fun args=>(qog args).run:=by
 refine SimP.of_flat (G:=qor) (L:=qsb) qav (qtk gl hg ) qai  Tryz.func157 rfl (by rfl) (by kernel_rfl) (qae (by kernel_rfl)) ?_
 intro args x h;unfold qog at h
 split at h
 ·exact (congrArg Tr.run (qzP _ _)).trans (qah h fun h=>by cases h)
 ·cases h
def qox:GamT:=ofL [(153,.pure qgB),(154,.pure qsX),(155,.pure qfN),(156,.pure qkb),(157,.pure qog),(158,.pure qu1),(159,.pure qng),(160,.pure qlP),(qui+0,.glob qxU)]
theorem qrC (gl:Gl) (hg:GlLex gl):qa3 Tryz.prog gl (gam qox):=(qad (qjt gl) (qad (qyp gl) (qad (qhv gl) (qad (qk1 gl) (qad (qtF gl hg.toGlOk) (qad (qvp gl) (qad (qtE gl) (qad (qoM gl) (qb6 (K:=.glob qxU) (qvK hg) qag)))))))))
def qlR:Code:=qgr Tryz.f141 16
def qmh:LI:=⟨90,[0,2,4,74,75],fun e=>match e with|.ret=>[2,3]|.exit 1=>[0,2,4]|_=>[],true⟩
def qmx:LpsT:=fun r fr σ=>.fail
def qhY (vs:List PV) (σ:Store):Option (PExit×List PV×Store):=lval (lstep tbT qox qmx qlR qmh) vs σ
def qbT (s:qU) (n:Int) (s2:qU) (s3:qU) (s4:qU) (s5:qU) (n2:Int) (n3:Int) (s6:qU) (n4:Int) (n5:Int) (s7:qU) (n6:Int):Tr LR:=.ite (iLt n2 4) (.ite (iEq n2 (Int.ofNat 0)) (.ite (qdd s s2) (.ret (.out .ret [.ptr 0 0,.bool true] (Store.mk [[.int .i64 6,.str s2,.int .i64 0,.int .i64 0,.str [],.int .i64 0]] [] [120]))) (.ret (.next [.str s,.ptr 0 0,.int .u8 n,.agg [.str s2,.str s3,.str s4,.str s5],.int .i64 (iAdd .i64 n2 1)] (Store.mk [[.int .i64 n3,.str s6,.int .i64 n4,.int .i64 n5,.str s7,.int .i64 n6]] [] [120])))) (.ite (iEq n2 (Int.ofNat 1)) (.ite (qdd s s3) (.ret (.out .ret [.ptr 0 0,.bool true] (Store.mk [[.int .i64 6,.str s3,.int .i64 0,.int .i64 0,.str [],.int .i64 0]] [] [120]))) (.ret (.next [.str s,.ptr 0 0,.int .u8 n,.agg [.str s2,.str s3,.str s4,.str s5],.int .i64 (iAdd .i64 n2 1)] (Store.mk [[.int .i64 n3,.str s6,.int .i64 n4,.int .i64 n5,.str s7,.int .i64 n6]] [] [120])))) (.ite (iEq n2 (Int.ofNat 2)) (.ite (qdd s s4) (.ret (.out .ret [.ptr 0 0,.bool true] (Store.mk [[.int .i64 6,.str s4,.int .i64 0,.int .i64 0,.str [],.int .i64 0]] [] [120]))) (.ret (.next [.str s,.ptr 0 0,.int .u8 n,.agg [.str s2,.str s3,.str s4,.str s5],.int .i64 (iAdd .i64 n2 1)] (Store.mk [[.int .i64 n3,.str s6,.int .i64 n4,.int .i64 n5,.str s7,.int .i64 n6]] [] [120])))) (.ite (iEq n2 (Int.ofNat 3)) (.ite (qdd s s5) (.ret (.out .ret [.ptr 0 0,.bool true] (Store.mk [[.int .i64 6,.str s5,.int .i64 0,.int .i64 0,.str [],.int .i64 0]] [] [120]))) (.ret (.next [.str s,.ptr 0 0,.int .u8 n,.agg [.str s2,.str s3,.str s4,.str s5],.int .i64 (iAdd .i64 n2 1)] (Store.mk [[.int .i64 n3,.str s6,.int .i64 n4,.int .i64 n5,.str s7,.int .i64 n6]] [] [120])))) .fail)))) (.ret (.out (.exit 1) [.str s,.ptr 0 0,.int .u8 n] (Store.mk [[.int .i64 n3,.str s6,.int .i64 n4,.int .i64 n5,.str s7,.int .i64 n6]] [] [120])))
theorem qAI (s:qU) (n:Int) (s2:qU) (s3:qU) (s4:qU) (s5:qU) (n2:Int) (n3:Int) (s6:qU) (n4:Int) (n5:Int) (s7:qU) (n6:Int):lstep tbT qox qmx qlR qmh [.str s,.ptr 0 0,.int .u8 n,.agg [.str s2,.str s3,.str s4,.str s5],.int .i64 n2] ⟨[[.int .i64 n3,.str s6,.int .i64 n4,.int .i64 n5,.str s7,.int .i64 n6]],[],[120]⟩=qbT s n s2 s3 s4 s5 n2 n3 s6 n4 n5 s7 n6:=by kernel_rfl
theorem qjU (s:qU) (n:Int) (s2:qU) (s3:qU) (s4:qU) (s5:qU) (n2:Int) (n3:Int) (s6:qU) (n4:Int) (n5:Int) (s7:qU) (n6:Int):qhY [.str s,.ptr 0 0,.int .u8 n,.agg [.str s2,.str s3,.str s4,.str s5],.int .i64 n2] ⟨[[.int .i64 n3,.str s6,.int .i64 n4,.int .i64 n5,.str s7,.int .i64 n6]],[],[120]⟩=lnext qhY (qbT s n s2 s3 s4 s5 n2 n3 s6 n4 n5 s7 n6).run:=by unfold qhY;rw [qb0,qAI]
def qbs (s:qU) (n:Int) (s2:qU) (s3:qU) (s4:qU) (s5:qU) (n2:Int) (n3:Int) (s6:qU) (n4:Int) (n5:Int) (s7:qU) (n6:Int):Option (PExit×List PV×Store):=qhY [.str s,.ptr 0 0,.int .u8 n,.agg [.str s2,.str s3,.str s4,.str s5],.int .i64 n2] ⟨[[.int .i64 n3,.str s6,.int .i64 n4,.int .i64 n5,.str s7,.int .i64 n6]],[],[120]⟩
def qbd (s:qU) (n:Int) (s2:qU) (s3:qU) (s4:qU) (s5:qU) (n2:Int) (n3:Int) (s6:qU) (n4:Int) (n5:Int) (s7:qU) (n6:Int):Bool:=(qbU (gOut (qbs s n s2 s3 s4 s5 n2 n3 s6 n4 n5 s7 n6) 1))
def qbc (s:qU) (n:Int) (s2:qU) (s3:qU) (s4:qU) (s5:qU) (n2:Int) (n3:Int) (s6:qU) (n4:Int) (n5:Int) (s7:qU) (n6:Int):Int:=(gInt (gAt (gObj (qbs s n s2 s3 s4 s5 n2 n3 s6 n4 n5 s7 n6) 0) 0))
def qbb (s:qU) (n:Int) (s2:qU) (s3:qU) (s4:qU) (s5:qU) (n2:Int) (n3:Int) (s6:qU) (n4:Int) (n5:Int) (s7:qU) (n6:Int):List UInt8:=(gStr (gAt (gObj (qbs s n s2 s3 s4 s5 n2 n3 s6 n4 n5 s7 n6) 0) 1))
def qaV (s:qU) (n:Int) (s2:qU) (s3:qU) (s4:qU) (s5:qU) (n2:Int) (n3:Int) (s6:qU) (n4:Int) (n5:Int) (s7:qU) (n6:Int):Int:=(gInt (gAt (gObj (qbs s n s2 s3 s4 s5 n2 n3 s6 n4 n5 s7 n6) 0) 2))
def qaT (s:qU) (n:Int) (s2:qU) (s3:qU) (s4:qU) (s5:qU) (n2:Int) (n3:Int) (s6:qU) (n4:Int) (n5:Int) (s7:qU) (n6:Int):Int:=(gInt (gAt (gObj (qbs s n s2 s3 s4 s5 n2 n3 s6 n4 n5 s7 n6) 0) 3))
def qaW (s:qU) (n:Int) (s2:qU) (s3:qU) (s4:qU) (s5:qU) (n2:Int) (n3:Int) (s6:qU) (n4:Int) (n5:Int) (s7:qU) (n6:Int):List UInt8:=(gStr (gAt (gObj (qbs s n s2 s3 s4 s5 n2 n3 s6 n4 n5 s7 n6) 0) 4))
def qaU (s:qU) (n:Int) (s2:qU) (s3:qU) (s4:qU) (s5:qU) (n2:Int) (n3:Int) (s6:qU) (n4:Int) (n5:Int) (s7:qU) (n6:Int):Int:=(gInt (gAt (gObj (qbs s n s2 s3 s4 s5 n2 n3 s6 n4 n5 s7 n6) 0) 5))
def qa4 (s:qU) (n:Int) (s2:qU) (s3:qU) (s4:qU) (s5:qU) (n2:Int) (n3:Int) (s6:qU) (n4:Int) (n5:Int) (s7:qU) (n6:Int):Bool:=isW (qbs s n s2 s3 s4 s5 n2 n3 s6 n4 n5 s7 n6) (.ret,[.ptr 0 0,.bool (qbd s n s2 s3 s4 s5 n2 n3 s6 n4 n5 s7 n6)],⟨[[.int .i64 (qbc s n s2 s3 s4 s5 n2 n3 s6 n4 n5 s7 n6),.str (qbb s n s2 s3 s4 s5 n2 n3 s6 n4 n5 s7 n6),.int .i64 (qaV s n s2 s3 s4 s5 n2 n3 s6 n4 n5 s7 n6),.int .i64 (qaT s n s2 s3 s4 s5 n2 n3 s6 n4 n5 s7 n6),.str (qaW s n s2 s3 s4 s5 n2 n3 s6 n4 n5 s7 n6),.int .i64 (qaU s n s2 s3 s4 s5 n2 n3 s6 n4 n5 s7 n6)]],[],[120]⟩)
def qas (s:qU) (n:Int) (s2:qU) (s3:qU) (s4:qU) (s5:qU) (n2:Int) (n3:Int) (s6:qU) (n4:Int) (n5:Int) (s7:qU) (n6:Int):List UInt8:=(gStr (gOut (qbs s n s2 s3 s4 s5 n2 n3 s6 n4 n5 s7 n6) 0))
def qa7 (s:qU) (n:Int) (s2:qU) (s3:qU) (s4:qU) (s5:qU) (n2:Int) (n3:Int) (s6:qU) (n4:Int) (n5:Int) (s7:qU) (n6:Int):Int:=(gInt (gOut (qbs s n s2 s3 s4 s5 n2 n3 s6 n4 n5 s7 n6) 2))
def qiL (s:qU) (n:Int) (s2:qU) (s3:qU) (s4:qU) (s5:qU) (n2:Int) (n3:Int) (s6:qU) (n4:Int) (n5:Int) (s7:qU) (n6:Int):Int:=(gInt (gAt (gObj (qbs s n s2 s3 s4 s5 n2 n3 s6 n4 n5 s7 n6) 0) 0))
def qiC (s:qU) (n:Int) (s2:qU) (s3:qU) (s4:qU) (s5:qU) (n2:Int) (n3:Int) (s6:qU) (n4:Int) (n5:Int) (s7:qU) (n6:Int):List UInt8:=(gStr (gAt (gObj (qbs s n s2 s3 s4 s5 n2 n3 s6 n4 n5 s7 n6) 0) 1))
def qiF (s:qU) (n:Int) (s2:qU) (s3:qU) (s4:qU) (s5:qU) (n2:Int) (n3:Int) (s6:qU) (n4:Int) (n5:Int) (s7:qU) (n6:Int):Int:=(gInt (gAt (gObj (qbs s n s2 s3 s4 s5 n2 n3 s6 n4 n5 s7 n6) 0) 2))
def qiE (s:qU) (n:Int) (s2:qU) (s3:qU) (s4:qU) (s5:qU) (n2:Int) (n3:Int) (s6:qU) (n4:Int) (n5:Int) (s7:qU) (n6:Int):Int:=(gInt (gAt (gObj (qbs s n s2 s3 s4 s5 n2 n3 s6 n4 n5 s7 n6) 0) 3))
def qiY (s:qU) (n:Int) (s2:qU) (s3:qU) (s4:qU) (s5:qU) (n2:Int) (n3:Int) (s6:qU) (n4:Int) (n5:Int) (s7:qU) (n6:Int):List UInt8:=(gStr (gAt (gObj (qbs s n s2 s3 s4 s5 n2 n3 s6 n4 n5 s7 n6) 0) 4))
def qi5 (s:qU) (n:Int) (s2:qU) (s3:qU) (s4:qU) (s5:qU) (n2:Int) (n3:Int) (s6:qU) (n4:Int) (n5:Int) (s7:qU) (n6:Int):Int:=(gInt (gAt (gObj (qbs s n s2 s3 s4 s5 n2 n3 s6 n4 n5 s7 n6) 0) 5))
def qbh (s:qU) (n:Int) (s2:qU) (s3:qU) (s4:qU) (s5:qU) (n2:Int) (n3:Int) (s6:qU) (n4:Int) (n5:Int) (s7:qU) (n6:Int):Bool:=isW (qbs s n s2 s3 s4 s5 n2 n3 s6 n4 n5 s7 n6) ((.exit 1),[.str (qas s n s2 s3 s4 s5 n2 n3 s6 n4 n5 s7 n6),.ptr 0 0,.int .u8 (qa7 s n s2 s3 s4 s5 n2 n3 s6 n4 n5 s7 n6)],⟨[[.int .i64 (qiL s n s2 s3 s4 s5 n2 n3 s6 n4 n5 s7 n6),.str (qiC s n s2 s3 s4 s5 n2 n3 s6 n4 n5 s7 n6),.int .i64 (qiF s n s2 s3 s4 s5 n2 n3 s6 n4 n5 s7 n6),.int .i64 (qiE s n s2 s3 s4 s5 n2 n3 s6 n4 n5 s7 n6),.str (qiY s n s2 s3 s4 s5 n2 n3 s6 n4 n5 s7 n6),.int .i64 (qi5 s n s2 s3 s4 s5 n2 n3 s6 n4 n5 s7 n6)]],[],[120]⟩)
def qfX:List PV→Store→Tr (PExit×List PV×Store)|[.str s,.ptr 0 0,.int .u8 n,.agg [.str s2,.str s3,.str s4,.str s5],.int .i64 n2],⟨[[.int .i64 n3,.str s6,.int .i64 n4,.int .i64 n5,.str s7,.int .i64 n6]],[],[120]⟩=>.ite (qa4 s n s2 s3 s4 s5 n2 n3 s6 n4 n5 s7 n6) (.ret (.ret,[.ptr 0 0,.bool (qbd s n s2 s3 s4 s5 n2 n3 s6 n4 n5 s7 n6)],⟨[[.int .i64 (qbc s n s2 s3 s4 s5 n2 n3 s6 n4 n5 s7 n6),.str (qbb s n s2 s3 s4 s5 n2 n3 s6 n4 n5 s7 n6),.int .i64 (qaV s n s2 s3 s4 s5 n2 n3 s6 n4 n5 s7 n6),.int .i64 (qaT s n s2 s3 s4 s5 n2 n3 s6 n4 n5 s7 n6),.str (qaW s n s2 s3 s4 s5 n2 n3 s6 n4 n5 s7 n6),.int .i64 (qaU s n s2 s3 s4 s5 n2 n3 s6 n4 n5 s7 n6)]],[],[120]⟩)) (.ite (qbh s n s2 s3 s4 s5 n2 n3 s6 n4 n5 s7 n6) (.ret ((.exit 1),[.str (qas s n s2 s3 s4 s5 n2 n3 s6 n4 n5 s7 n6),.ptr 0 0,.int .u8 (qa7 s n s2 s3 s4 s5 n2 n3 s6 n4 n5 s7 n6)],⟨[[.int .i64 (qiL s n s2 s3 s4 s5 n2 n3 s6 n4 n5 s7 n6),.str (qiC s n s2 s3 s4 s5 n2 n3 s6 n4 n5 s7 n6),.int .i64 (qiF s n s2 s3 s4 s5 n2 n3 s6 n4 n5 s7 n6),.int .i64 (qiE s n s2 s3 s4 s5 n2 n3 s6 n4 n5 s7 n6),.str (qiY s n s2 s3 s4 s5 n2 n3 s6 n4 n5 s7 n6),.int .i64 (qi5 s n s2 s3 s4 s5 n2 n3 s6 n4 n5 s7 n6)]],[],[120]⟩)) (.fail))|_,_=>.fail
theorem qzf:∀ vs σ r,(qfX vs σ).run=some r→qhY vs σ=some r:=by
 intro vs σ r h;unfold qfX at h
 split at h
 ·exact qah h fun h=>qah h fun h=>by cases h
 ·cases h
theorem qtm (gl:Gl) (hg:GlLex gl):∀ fr σ e fr' σ',(orc qmh qfX fr σ).run=some (e,fr',σ')→LDoes Tryz.prog gl qlR fr σ e fr' σ':=qdi qav (qrC gl hg ) qai (L:=qmx) (qae (by kernel_rfl)) (by kernel_rfl) qzf
def qt9:LpsT:=fun r fr σ=>bif Nat.beq r 16 then orc qmh qfX fr σ else .fail
def qdW (v:qU):Tr PV:=.ite (qbM v 0) (.ite (iLt 1 (sLen v)) (.ite (qbM v 1) (.ite (iLe 97 (sAt v 0)) (.ite (iLe (sAt v 0) 122) (.ite (qdf v 1) (.ret (.tup [.agg [.int .i64 (qeI v 1),.str (qey v 1),.int .i64 (qc7 v 1),.int .i64 (qde v 1),.str (qdb v 1),.int .i64 (qdh v 1)],.bool (qen v 1)])) .fail) (.ite (iLe 65 (sAt v 0)) (.ite (iLe (sAt v 0) 90) (.ite (qdf v 2) (.ret (.tup [.agg [.int .i64 (qeI v 2),.str (qey v 2),.int .i64 (qc7 v 2),.int .i64 (qde v 2),.str (qdb v 2),.int .i64 (qdh v 2)],.bool (qen v 2)])) .fail) (.ite (iEq (sAt v 0) 95) (.ite (qbt (sAt v 1)) (.ret (.tup [.agg [.int .i64 3,.str [95],.int .i64 0,.int .i64 0,.str [],.int .i64 0],.bool (bNot (qbH (sAt v 1)))])) .fail) (.ite (qaX (sAt v 0)) (.ite (qa1 (sAt v 0)) (.ite (qaC (qao 1) true (nNat 1) (nLen v) (nLen v)) (.ite (qbr (sSub v (nNat 1) (nLen v))) (.ite (qaC true (qao (iAdd .i64 1 (qac (sSub v (nNat 1) (nLen v))))) 0 (nNat (iAdd .i64 1 (qac (sSub v (nNat 1) (nLen v))))) (nLen v)) (.ite (qan (sSub v 0 (nNat (iAdd .i64 1 (qac (sSub v (nNat 1) (nLen v)))))) 4) (.ret (.tup [.agg [.int .i64 (qaz (sSub v 0 (nNat (iAdd .i64 1 (qac (sSub v (nNat 1) (nLen v)))))) 4),.str (qaA (sSub v 0 (nNat (iAdd .i64 1 (qac (sSub v (nNat 1) (nLen v)))))) 4),.int .i64 (qaq (sSub v 0 (nNat (iAdd .i64 1 (qac (sSub v (nNat 1) (nLen v)))))) 4),.int .i64 (qat (sSub v 0 (nNat (iAdd .i64 1 (qac (sSub v (nNat 1) (nLen v)))))) 4),.str (qau (sSub v 0 (nNat (iAdd .i64 1 (qac (sSub v (nNat 1) (nLen v)))))) 4),.int .i64 (qar (sSub v 0 (nNat (iAdd .i64 1 (qac (sSub v (nNat 1) (nLen v)))))) 4)],.bool (qay (sSub v 0 (nNat (iAdd .i64 1 (qac (sSub v (nNat 1) (nLen v)))))) 4)])) .fail) .fail) .fail) .fail) (.ite (iEq (sAt v 0) 45) (.ite (qaX (sAt v 1)) (.ite (qa1 (sAt v 1))
 (.ite (qaC (qao 1) true (nNat 1) (nLen v) (nLen v)) (.ite (qbr (sSub v (nNat 1) (nLen v))) (.ite (qaC true (qao (iAdd .i64 1 (qac (sSub v (nNat 1) (nLen v))))) 0 (nNat (iAdd .i64 1 (qac (sSub v (nNat 1) (nLen v))))) (nLen v)) (.ite (qan (sSub v 0 (nNat (iAdd .i64 1 (qac (sSub v (nNat 1) (nLen v)))))) 4) (.ret (.tup [.agg [.int .i64 (qaz (sSub v 0 (nNat (iAdd .i64 1 (qac (sSub v (nNat 1) (nLen v)))))) 4),.str (qaA (sSub v 0 (nNat (iAdd .i64 1 (qac (sSub v (nNat 1) (nLen v)))))) 4),.int .i64 (qaq (sSub v 0 (nNat (iAdd .i64 1 (qac (sSub v (nNat 1) (nLen v)))))) 4),.int .i64 (qat (sSub v 0 (nNat (iAdd .i64 1 (qac (sSub v (nNat 1) (nLen v)))))) 4),.str (qau (sSub v 0 (nNat (iAdd .i64 1 (qac (sSub v (nNat 1) (nLen v)))))) 4),.int .i64 (qar (sSub v 0 (nNat (iAdd .i64 1 (qac (sSub v (nNat 1) (nLen v)))))) 4)],.bool (qay (sSub v 0 (nNat (iAdd .i64 1 (qac (sSub v (nNat 1) (nLen v)))))) 4)])) .fail) .fail) .fail) .fail) (.ite (iEq (sAt v 0) 34) (.ite (qa9 v) (.ite (qaC true (qao (qab v)) 0 (nNat (qab v)) (nLen v)) (.ite (qan (sSub v 0 (nNat (qab v))) 5) (.ret (.tup [.agg [.int .i64 (qaz (sSub v 0 (nNat (qab v))) 5),.str (qaA (sSub v 0 (nNat (qab v))) 5),.int .i64 (qaq (sSub v 0 (nNat (qab v))) 5),.int .i64 (qat (sSub v 0 (nNat (qab v))) 5),.str (qau (sSub v 0 (nNat (qab v))) 5),.int .i64 (qar (sSub v 0 (nNat (qab v))) 5)],.bool (qay (sSub v 0 (nNat (qab v))) 5)])) .fail) .fail) .fail) (.ite (qa4 v (sAt v 0) [58,45] [60,61] [62,61] [33,61] 0 0 [] 0 0 [] 0) (.ret (.tup [.agg [.int .i64 (qbc v (sAt v 0) [58,45] [60,61] [62,61] [33,61] 0 0 [] 0 0 [] 0),.str (qbb v (sAt v 0) [58,45] [60,61] [62,61] [33,61] 0 0 [] 0 0 [] 0),.int .i64 (qaV v (sAt v 0) [58,45] [60,61] [62,61] [33,61] 0 0 [] 0 0 [] 0),
 .int .i64 (qaT v (sAt v 0) [58,45] [60,61] [62,61] [33,61] 0 0 [] 0 0 [] 0),.str (qaW v (sAt v 0) [58,45] [60,61] [62,61] [33,61] 0 0 [] 0 0 [] 0),.int .i64 (qaU v (sAt v 0) [58,45] [60,61] [62,61] [33,61] 0 0 [] 0 0 [] 0)],.bool (qbd v (sAt v 0) [58,45] [60,61] [62,61] [33,61] 0 0 [] 0 0 [] 0)])) (.ite (qbh v (sAt v 0) [58,45] [60,61] [62,61] [33,61] 0 0 [] 0 0 [] 0) (.ite (qaC true (qao 1) 0 (nNat 1) (nLen (qas v (sAt v 0) [58,45] [60,61] [62,61] [33,61] 0 0 [] 0 0 [] 0))) (.ret (.tup [.agg [.int .i64 6,.str (sSub (qas v (sAt v 0) [58,45] [60,61] [62,61] [33,61] 0 0 [] 0 0 [] 0) 0 (nNat 1)),.int .i64 0,.int .i64 0,.str [],.int .i64 0],.bool (iLe 0 (idxV [40,41,44,46,43,45,61,58,60,62] (qa7 v (sAt v 0) [58,45] [60,61] [62,61] [33,61] 0 0 [] 0 0 [] 0)))])) .fail) .fail)))) .fail) (.ite (iEq (sAt v 0) 34) (.ite (qa9 v) (.ite (qaC true (qao (qab v)) 0 (nNat (qab v)) (nLen v)) (.ite (qan (sSub v 0 (nNat (qab v))) 5) (.ret (.tup [.agg [.int .i64 (qaz (sSub v 0 (nNat (qab v))) 5),.str (qaA (sSub v 0 (nNat (qab v))) 5),.int .i64 (qaq (sSub v 0 (nNat (qab v))) 5),.int .i64 (qat (sSub v 0 (nNat (qab v))) 5),.str (qau (sSub v 0 (nNat (qab v))) 5),.int .i64 (qar (sSub v 0 (nNat (qab v))) 5)],.bool (qay (sSub v 0 (nNat (qab v))) 5)])) .fail) .fail) .fail) (.ite (qa4 v (sAt v 0) [58,45] [60,61] [62,61] [33,61] 0 0 [] 0 0 [] 0) (.ret (.tup [.agg [.int .i64 (qbc v (sAt v 0) [58,45] [60,61] [62,61] [33,61] 0 0 [] 0 0 [] 0),.str (qbb v (sAt v 0) [58,45] [60,61] [62,61] [33,61] 0 0 [] 0 0 [] 0),.int .i64 (qaV v (sAt v 0) [58,45] [60,61] [62,61] [33,61] 0 0 [] 0 0 [] 0),.int .i64 (qaT v (sAt v 0) [58,45] [60,61] [62,61] [33,61] 0 0 [] 0 0 [] 0),.str (qaW v (sAt v 0) [58,45] [60,61] [62,61] [33,61] 0 0 [] 0 0 [] 0),
 .int .i64 (qaU v (sAt v 0) [58,45] [60,61] [62,61] [33,61] 0 0 [] 0 0 [] 0)],.bool (qbd v (sAt v 0) [58,45] [60,61] [62,61] [33,61] 0 0 [] 0 0 [] 0)])) (.ite (qbh v (sAt v 0) [58,45] [60,61] [62,61] [33,61] 0 0 [] 0 0 [] 0) (.ite (qaC true (qao 1) 0 (nNat 1) (nLen (qas v (sAt v 0) [58,45] [60,61] [62,61] [33,61] 0 0 [] 0 0 [] 0))) (.ret (.tup [.agg [.int .i64 6,.str (sSub (qas v (sAt v 0) [58,45] [60,61] [62,61] [33,61] 0 0 [] 0 0 [] 0) 0 (nNat 1)),.int .i64 0,.int .i64 0,.str [],.int .i64 0],.bool (iLe 0 (idxV [40,41,44,46,43,45,61,58,60,62] (qa7 v (sAt v 0) [58,45] [60,61] [62,61] [33,61] 0 0 [] 0 0 [] 0)))])) .fail) .fail))))) .fail))) (.ite (iEq (sAt v 0) 95) (.ite (qbt (sAt v 1)) (.ret (.tup [.agg [.int .i64 3,.str [95],.int .i64 0,.int .i64 0,.str [],.int .i64 0],.bool (bNot (qbH (sAt v 1)))])) .fail) (.ite (qaX (sAt v 0)) (.ite (qa1 (sAt v 0)) (.ite (qaC (qao 1) true (nNat 1) (nLen v) (nLen v)) (.ite (qbr (sSub v (nNat 1) (nLen v))) (.ite (qaC true (qao (iAdd .i64 1 (qac (sSub v (nNat 1) (nLen v))))) 0 (nNat (iAdd .i64 1 (qac (sSub v (nNat 1) (nLen v))))) (nLen v)) (.ite (qan (sSub v 0 (nNat (iAdd .i64 1 (qac (sSub v (nNat 1) (nLen v)))))) 4) (.ret (.tup [.agg [.int .i64 (qaz (sSub v 0 (nNat (iAdd .i64 1 (qac (sSub v (nNat 1) (nLen v)))))) 4),.str (qaA (sSub v 0 (nNat (iAdd .i64 1 (qac (sSub v (nNat 1) (nLen v)))))) 4),.int .i64 (qaq (sSub v 0 (nNat (iAdd .i64 1 (qac (sSub v (nNat 1) (nLen v)))))) 4),.int .i64 (qat (sSub v 0 (nNat (iAdd .i64 1 (qac (sSub v (nNat 1) (nLen v)))))) 4),.str (qau (sSub v 0 (nNat (iAdd .i64 1 (qac (sSub v (nNat 1) (nLen v)))))) 4),.int .i64 (qar (sSub v 0 (nNat (iAdd .i64 1 (qac (sSub v (nNat 1) (nLen v)))))) 4)],.bool (qay (sSub v 0 (nNat (iAdd .i64 1 (qac (sSub v (nNat 1) (nLen v)))))) 4)])) .fail) .fail) .fail) .fail)
 (.ite (iEq (sAt v 0) 45) (.ite (qaX (sAt v 1)) (.ite (qa1 (sAt v 1)) (.ite (qaC (qao 1) true (nNat 1) (nLen v) (nLen v)) (.ite (qbr (sSub v (nNat 1) (nLen v))) (.ite (qaC true (qao (iAdd .i64 1 (qac (sSub v (nNat 1) (nLen v))))) 0 (nNat (iAdd .i64 1 (qac (sSub v (nNat 1) (nLen v))))) (nLen v)) (.ite (qan (sSub v 0 (nNat (iAdd .i64 1 (qac (sSub v (nNat 1) (nLen v)))))) 4) (.ret (.tup [.agg [.int .i64 (qaz (sSub v 0 (nNat (iAdd .i64 1 (qac (sSub v (nNat 1) (nLen v)))))) 4),.str (qaA (sSub v 0 (nNat (iAdd .i64 1 (qac (sSub v (nNat 1) (nLen v)))))) 4),.int .i64 (qaq (sSub v 0 (nNat (iAdd .i64 1 (qac (sSub v (nNat 1) (nLen v)))))) 4),.int .i64 (qat (sSub v 0 (nNat (iAdd .i64 1 (qac (sSub v (nNat 1) (nLen v)))))) 4),.str (qau (sSub v 0 (nNat (iAdd .i64 1 (qac (sSub v (nNat 1) (nLen v)))))) 4),.int .i64 (qar (sSub v 0 (nNat (iAdd .i64 1 (qac (sSub v (nNat 1) (nLen v)))))) 4)],.bool (qay (sSub v 0 (nNat (iAdd .i64 1 (qac (sSub v (nNat 1) (nLen v)))))) 4)])) .fail) .fail) .fail) .fail) (.ite (iEq (sAt v 0) 34) (.ite (qa9 v) (.ite (qaC true (qao (qab v)) 0 (nNat (qab v)) (nLen v)) (.ite (qan (sSub v 0 (nNat (qab v))) 5) (.ret (.tup [.agg [.int .i64 (qaz (sSub v 0 (nNat (qab v))) 5),.str (qaA (sSub v 0 (nNat (qab v))) 5),.int .i64 (qaq (sSub v 0 (nNat (qab v))) 5),.int .i64 (qat (sSub v 0 (nNat (qab v))) 5),.str (qau (sSub v 0 (nNat (qab v))) 5),.int .i64 (qar (sSub v 0 (nNat (qab v))) 5)],.bool (qay (sSub v 0 (nNat (qab v))) 5)])) .fail) .fail) .fail) (.ite (qa4 v (sAt v 0) [58,45] [60,61] [62,61] [33,61] 0 0 [] 0 0 [] 0) (.ret (.tup [.agg [.int .i64 (qbc v (sAt v 0) [58,45] [60,61] [62,61] [33,61] 0 0 [] 0 0 [] 0),.str (qbb v (sAt v 0) [58,45] [60,61] [62,61] [33,61] 0 0 [] 0 0 [] 0),
 .int .i64 (qaV v (sAt v 0) [58,45] [60,61] [62,61] [33,61] 0 0 [] 0 0 [] 0),.int .i64 (qaT v (sAt v 0) [58,45] [60,61] [62,61] [33,61] 0 0 [] 0 0 [] 0),.str (qaW v (sAt v 0) [58,45] [60,61] [62,61] [33,61] 0 0 [] 0 0 [] 0),.int .i64 (qaU v (sAt v 0) [58,45] [60,61] [62,61] [33,61] 0 0 [] 0 0 [] 0)],.bool (qbd v (sAt v 0) [58,45] [60,61] [62,61] [33,61] 0 0 [] 0 0 [] 0)])) (.ite (qbh v (sAt v 0) [58,45] [60,61] [62,61] [33,61] 0 0 [] 0 0 [] 0) (.ite (qaC true (qao 1) 0 (nNat 1) (nLen (qas v (sAt v 0) [58,45] [60,61] [62,61] [33,61] 0 0 [] 0 0 [] 0))) (.ret (.tup [.agg [.int .i64 6,.str (sSub (qas v (sAt v 0) [58,45] [60,61] [62,61] [33,61] 0 0 [] 0 0 [] 0) 0 (nNat 1)),.int .i64 0,.int .i64 0,.str [],.int .i64 0],.bool (iLe 0 (idxV [40,41,44,46,43,45,61,58,60,62] (qa7 v (sAt v 0) [58,45] [60,61] [62,61] [33,61] 0 0 [] 0 0 [] 0)))])) .fail) .fail)))) .fail) (.ite (iEq (sAt v 0) 34) (.ite (qa9 v) (.ite (qaC true (qao (qab v)) 0 (nNat (qab v)) (nLen v)) (.ite (qan (sSub v 0 (nNat (qab v))) 5) (.ret (.tup [.agg [.int .i64 (qaz (sSub v 0 (nNat (qab v))) 5),.str (qaA (sSub v 0 (nNat (qab v))) 5),.int .i64 (qaq (sSub v 0 (nNat (qab v))) 5),.int .i64 (qat (sSub v 0 (nNat (qab v))) 5),.str (qau (sSub v 0 (nNat (qab v))) 5),.int .i64 (qar (sSub v 0 (nNat (qab v))) 5)],.bool (qay (sSub v 0 (nNat (qab v))) 5)])) .fail) .fail) .fail) (.ite (qa4 v (sAt v 0) [58,45] [60,61] [62,61] [33,61] 0 0 [] 0 0 [] 0) (.ret (.tup [.agg [.int .i64 (qbc v (sAt v 0) [58,45] [60,61] [62,61] [33,61] 0 0 [] 0 0 [] 0),.str (qbb v (sAt v 0) [58,45] [60,61] [62,61] [33,61] 0 0 [] 0 0 [] 0),.int .i64 (qaV v (sAt v 0) [58,45] [60,61] [62,61] [33,61] 0 0 [] 0 0 [] 0),.int .i64 (qaT v (sAt v 0) [58,45] [60,61] [62,61] [33,61] 0 0 [] 0 0 [] 0),
 .str (qaW v (sAt v 0) [58,45] [60,61] [62,61] [33,61] 0 0 [] 0 0 [] 0),.int .i64 (qaU v (sAt v 0) [58,45] [60,61] [62,61] [33,61] 0 0 [] 0 0 [] 0)],.bool (qbd v (sAt v 0) [58,45] [60,61] [62,61] [33,61] 0 0 [] 0 0 [] 0)])) (.ite (qbh v (sAt v 0) [58,45] [60,61] [62,61] [33,61] 0 0 [] 0 0 [] 0) (.ite (qaC true (qao 1) 0 (nNat 1) (nLen (qas v (sAt v 0) [58,45] [60,61] [62,61] [33,61] 0 0 [] 0 0 [] 0))) (.ret (.tup [.agg [.int .i64 6,.str (sSub (qas v (sAt v 0) [58,45] [60,61] [62,61] [33,61] 0 0 [] 0 0 [] 0) 0 (nNat 1)),.int .i64 0,.int .i64 0,.str [],.int .i64 0],.bool (iLe 0 (idxV [40,41,44,46,43,45,61,58,60,62] (qa7 v (sAt v 0) [58,45] [60,61] [62,61] [33,61] 0 0 [] 0 0 [] 0)))])) .fail) .fail))))) .fail)))) (.ite (iLe 65 (sAt v 0)) (.ite (iLe (sAt v 0) 90) (.ite (qdf v 2) (.ret (.tup [.agg [.int .i64 (qeI v 2),.str (qey v 2),.int .i64 (qc7 v 2),.int .i64 (qde v 2),.str (qdb v 2),.int .i64 (qdh v 2)],.bool (qen v 2)])) .fail) (.ite (iEq (sAt v 0) 95) (.ite (qbt (sAt v 1)) (.ret (.tup [.agg [.int .i64 3,.str [95],.int .i64 0,.int .i64 0,.str [],.int .i64 0],.bool (bNot (qbH (sAt v 1)))])) .fail) (.ite (qaX (sAt v 0)) (.ite (qa1 (sAt v 0)) (.ite (qaC (qao 1) true (nNat 1) (nLen v) (nLen v)) (.ite (qbr (sSub v (nNat 1) (nLen v))) (.ite (qaC true (qao (iAdd .i64 1 (qac (sSub v (nNat 1) (nLen v))))) 0 (nNat (iAdd .i64 1 (qac (sSub v (nNat 1) (nLen v))))) (nLen v)) (.ite (qan (sSub v 0 (nNat (iAdd .i64 1 (qac (sSub v (nNat 1) (nLen v)))))) 4) (.ret (.tup [.agg [.int .i64 (qaz (sSub v 0 (nNat (iAdd .i64 1 (qac (sSub v (nNat 1) (nLen v)))))) 4),.str (qaA (sSub v 0 (nNat (iAdd .i64 1 (qac (sSub v (nNat 1) (nLen v)))))) 4),.int .i64 (qaq (sSub v 0 (nNat (iAdd .i64 1 (qac (sSub v (nNat 1) (nLen v)))))) 4),
 .int .i64 (qat (sSub v 0 (nNat (iAdd .i64 1 (qac (sSub v (nNat 1) (nLen v)))))) 4),.str (qau (sSub v 0 (nNat (iAdd .i64 1 (qac (sSub v (nNat 1) (nLen v)))))) 4),.int .i64 (qar (sSub v 0 (nNat (iAdd .i64 1 (qac (sSub v (nNat 1) (nLen v)))))) 4)],.bool (qay (sSub v 0 (nNat (iAdd .i64 1 (qac (sSub v (nNat 1) (nLen v)))))) 4)])) .fail) .fail) .fail) .fail) (.ite (iEq (sAt v 0) 45) (.ite (qaX (sAt v 1)) (.ite (qa1 (sAt v 1)) (.ite (qaC (qao 1) true (nNat 1) (nLen v) (nLen v)) (.ite (qbr (sSub v (nNat 1) (nLen v))) (.ite (qaC true (qao (iAdd .i64 1 (qac (sSub v (nNat 1) (nLen v))))) 0 (nNat (iAdd .i64 1 (qac (sSub v (nNat 1) (nLen v))))) (nLen v)) (.ite (qan (sSub v 0 (nNat (iAdd .i64 1 (qac (sSub v (nNat 1) (nLen v)))))) 4) (.ret (.tup [.agg [.int .i64 (qaz (sSub v 0 (nNat (iAdd .i64 1 (qac (sSub v (nNat 1) (nLen v)))))) 4),.str (qaA (sSub v 0 (nNat (iAdd .i64 1 (qac (sSub v (nNat 1) (nLen v)))))) 4),.int .i64 (qaq (sSub v 0 (nNat (iAdd .i64 1 (qac (sSub v (nNat 1) (nLen v)))))) 4),.int .i64 (qat (sSub v 0 (nNat (iAdd .i64 1 (qac (sSub v (nNat 1) (nLen v)))))) 4),.str (qau (sSub v 0 (nNat (iAdd .i64 1 (qac (sSub v (nNat 1) (nLen v)))))) 4),.int .i64 (qar (sSub v 0 (nNat (iAdd .i64 1 (qac (sSub v (nNat 1) (nLen v)))))) 4)],.bool (qay (sSub v 0 (nNat (iAdd .i64 1 (qac (sSub v (nNat 1) (nLen v)))))) 4)])) .fail) .fail) .fail) .fail) (.ite (iEq (sAt v 0) 34) (.ite (qa9 v) (.ite (qaC true (qao (qab v)) 0 (nNat (qab v)) (nLen v)) (.ite (qan (sSub v 0 (nNat (qab v))) 5) (.ret (.tup [.agg [.int .i64 (qaz (sSub v 0 (nNat (qab v))) 5),.str (qaA (sSub v 0 (nNat (qab v))) 5),.int .i64 (qaq (sSub v 0 (nNat (qab v))) 5),.int .i64 (qat (sSub v 0 (nNat (qab v))) 5),
 .str (qau (sSub v 0 (nNat (qab v))) 5),.int .i64 (qar (sSub v 0 (nNat (qab v))) 5)],.bool (qay (sSub v 0 (nNat (qab v))) 5)])) .fail) .fail) .fail) (.ite (qa4 v (sAt v 0) [58,45] [60,61] [62,61] [33,61] 0 0 [] 0 0 [] 0) (.ret (.tup [.agg [.int .i64 (qbc v (sAt v 0) [58,45] [60,61] [62,61] [33,61] 0 0 [] 0 0 [] 0),.str (qbb v (sAt v 0) [58,45] [60,61] [62,61] [33,61] 0 0 [] 0 0 [] 0),.int .i64 (qaV v (sAt v 0) [58,45] [60,61] [62,61] [33,61] 0 0 [] 0 0 [] 0),.int .i64 (qaT v (sAt v 0) [58,45] [60,61] [62,61] [33,61] 0 0 [] 0 0 [] 0),.str (qaW v (sAt v 0) [58,45] [60,61] [62,61] [33,61] 0 0 [] 0 0 [] 0),.int .i64 (qaU v (sAt v 0) [58,45] [60,61] [62,61] [33,61] 0 0 [] 0 0 [] 0)],.bool (qbd v (sAt v 0) [58,45] [60,61] [62,61] [33,61] 0 0 [] 0 0 [] 0)])) (.ite (qbh v (sAt v 0) [58,45] [60,61] [62,61] [33,61] 0 0 [] 0 0 [] 0) (.ite (qaC true (qao 1) 0 (nNat 1) (nLen (qas v (sAt v 0) [58,45] [60,61] [62,61] [33,61] 0 0 [] 0 0 [] 0))) (.ret (.tup [.agg [.int .i64 6,.str (sSub (qas v (sAt v 0) [58,45] [60,61] [62,61] [33,61] 0 0 [] 0 0 [] 0) 0 (nNat 1)),.int .i64 0,.int .i64 0,.str [],.int .i64 0],.bool (iLe 0 (idxV [40,41,44,46,43,45,61,58,60,62] (qa7 v (sAt v 0) [58,45] [60,61] [62,61] [33,61] 0 0 [] 0 0 [] 0)))])) .fail) .fail)))) .fail) (.ite (iEq (sAt v 0) 34) (.ite (qa9 v) (.ite (qaC true (qao (qab v)) 0 (nNat (qab v)) (nLen v)) (.ite (qan (sSub v 0 (nNat (qab v))) 5) (.ret (.tup [.agg [.int .i64 (qaz (sSub v 0 (nNat (qab v))) 5),.str (qaA (sSub v 0 (nNat (qab v))) 5),.int .i64 (qaq (sSub v 0 (nNat (qab v))) 5),.int .i64 (qat (sSub v 0 (nNat (qab v))) 5),.str (qau (sSub v 0 (nNat (qab v))) 5),.int .i64 (qar (sSub v 0 (nNat (qab v))) 5)],.bool (qay (sSub v 0 (nNat (qab v))) 5)])) .fail) .fail) .fail)
 (.ite (qa4 v (sAt v 0) [58,45] [60,61] [62,61] [33,61] 0 0 [] 0 0 [] 0) (.ret (.tup [.agg [.int .i64 (qbc v (sAt v 0) [58,45] [60,61] [62,61] [33,61] 0 0 [] 0 0 [] 0),.str (qbb v (sAt v 0) [58,45] [60,61] [62,61] [33,61] 0 0 [] 0 0 [] 0),.int .i64 (qaV v (sAt v 0) [58,45] [60,61] [62,61] [33,61] 0 0 [] 0 0 [] 0),.int .i64 (qaT v (sAt v 0) [58,45] [60,61] [62,61] [33,61] 0 0 [] 0 0 [] 0),.str (qaW v (sAt v 0) [58,45] [60,61] [62,61] [33,61] 0 0 [] 0 0 [] 0),.int .i64 (qaU v (sAt v 0) [58,45] [60,61] [62,61] [33,61] 0 0 [] 0 0 [] 0)],.bool (qbd v (sAt v 0) [58,45] [60,61] [62,61] [33,61] 0 0 [] 0 0 [] 0)])) (.ite (qbh v (sAt v 0) [58,45] [60,61] [62,61] [33,61] 0 0 [] 0 0 [] 0) (.ite (qaC true (qao 1) 0 (nNat 1) (nLen (qas v (sAt v 0) [58,45] [60,61] [62,61] [33,61] 0 0 [] 0 0 [] 0))) (.ret (.tup [.agg [.int .i64 6,.str (sSub (qas v (sAt v 0) [58,45] [60,61] [62,61] [33,61] 0 0 [] 0 0 [] 0) 0 (nNat 1)),.int .i64 0,.int .i64 0,.str [],.int .i64 0],.bool (iLe 0 (idxV [40,41,44,46,43,45,61,58,60,62] (qa7 v (sAt v 0) [58,45] [60,61] [62,61] [33,61] 0 0 [] 0 0 [] 0)))])) .fail) .fail))))) .fail))) (.ite (iEq (sAt v 0) 95) (.ite (qbt (sAt v 1)) (.ret (.tup [.agg [.int .i64 3,.str [95],.int .i64 0,.int .i64 0,.str [],.int .i64 0],.bool (bNot (qbH (sAt v 1)))])) .fail) (.ite (qaX (sAt v 0)) (.ite (qa1 (sAt v 0)) (.ite (qaC (qao 1) true (nNat 1) (nLen v) (nLen v)) (.ite (qbr (sSub v (nNat 1) (nLen v))) (.ite (qaC true (qao (iAdd .i64 1 (qac (sSub v (nNat 1) (nLen v))))) 0 (nNat (iAdd .i64 1 (qac (sSub v (nNat 1) (nLen v))))) (nLen v)) (.ite (qan (sSub v 0 (nNat (iAdd .i64 1 (qac (sSub v (nNat 1) (nLen v)))))) 4) (.ret (.tup [.agg [.int .i64 (qaz (sSub v 0 (nNat (iAdd .i64 1 (qac (sSub v (nNat 1) (nLen v)))))) 4),.str (qaA (sSub v 0 (nNat (iAdd .i64 1 (qac (sSub v (nNat 1) (nLen v)))))) 4),
 .int .i64 (qaq (sSub v 0 (nNat (iAdd .i64 1 (qac (sSub v (nNat 1) (nLen v)))))) 4),.int .i64 (qat (sSub v 0 (nNat (iAdd .i64 1 (qac (sSub v (nNat 1) (nLen v)))))) 4),.str (qau (sSub v 0 (nNat (iAdd .i64 1 (qac (sSub v (nNat 1) (nLen v)))))) 4),.int .i64 (qar (sSub v 0 (nNat (iAdd .i64 1 (qac (sSub v (nNat 1) (nLen v)))))) 4)],.bool (qay (sSub v 0 (nNat (iAdd .i64 1 (qac (sSub v (nNat 1) (nLen v)))))) 4)])) .fail) .fail) .fail) .fail) (.ite (iEq (sAt v 0) 45) (.ite (qaX (sAt v 1)) (.ite (qa1 (sAt v 1)) (.ite (qaC (qao 1) true (nNat 1) (nLen v) (nLen v)) (.ite (qbr (sSub v (nNat 1) (nLen v))) (.ite (qaC true (qao (iAdd .i64 1 (qac (sSub v (nNat 1) (nLen v))))) 0 (nNat (iAdd .i64 1 (qac (sSub v (nNat 1) (nLen v))))) (nLen v)) (.ite (qan (sSub v 0 (nNat (iAdd .i64 1 (qac (sSub v (nNat 1) (nLen v)))))) 4) (.ret (.tup [.agg [.int .i64 (qaz (sSub v 0 (nNat (iAdd .i64 1 (qac (sSub v (nNat 1) (nLen v)))))) 4),.str (qaA (sSub v 0 (nNat (iAdd .i64 1 (qac (sSub v (nNat 1) (nLen v)))))) 4),.int .i64 (qaq (sSub v 0 (nNat (iAdd .i64 1 (qac (sSub v (nNat 1) (nLen v)))))) 4),.int .i64 (qat (sSub v 0 (nNat (iAdd .i64 1 (qac (sSub v (nNat 1) (nLen v)))))) 4),.str (qau (sSub v 0 (nNat (iAdd .i64 1 (qac (sSub v (nNat 1) (nLen v)))))) 4),.int .i64 (qar (sSub v 0 (nNat (iAdd .i64 1 (qac (sSub v (nNat 1) (nLen v)))))) 4)],.bool (qay (sSub v 0 (nNat (iAdd .i64 1 (qac (sSub v (nNat 1) (nLen v)))))) 4)])) .fail) .fail) .fail) .fail) (.ite (iEq (sAt v 0) 34) (.ite (qa9 v) (.ite (qaC true (qao (qab v)) 0 (nNat (qab v)) (nLen v)) (.ite (qan (sSub v 0 (nNat (qab v))) 5) (.ret (.tup [.agg [.int .i64 (qaz (sSub v 0 (nNat (qab v))) 5),.str (qaA (sSub v 0 (nNat (qab v))) 5),
 .int .i64 (qaq (sSub v 0 (nNat (qab v))) 5),.int .i64 (qat (sSub v 0 (nNat (qab v))) 5),.str (qau (sSub v 0 (nNat (qab v))) 5),.int .i64 (qar (sSub v 0 (nNat (qab v))) 5)],.bool (qay (sSub v 0 (nNat (qab v))) 5)])) .fail) .fail) .fail) (.ite (qa4 v (sAt v 0) [58,45] [60,61] [62,61] [33,61] 0 0 [] 0 0 [] 0) (.ret (.tup [.agg [.int .i64 (qbc v (sAt v 0) [58,45] [60,61] [62,61] [33,61] 0 0 [] 0 0 [] 0),.str (qbb v (sAt v 0) [58,45] [60,61] [62,61] [33,61] 0 0 [] 0 0 [] 0),.int .i64 (qaV v (sAt v 0) [58,45] [60,61] [62,61] [33,61] 0 0 [] 0 0 [] 0),.int .i64 (qaT v (sAt v 0) [58,45] [60,61] [62,61] [33,61] 0 0 [] 0 0 [] 0),.str (qaW v (sAt v 0) [58,45] [60,61] [62,61] [33,61] 0 0 [] 0 0 [] 0),.int .i64 (qaU v (sAt v 0) [58,45] [60,61] [62,61] [33,61] 0 0 [] 0 0 [] 0)],.bool (qbd v (sAt v 0) [58,45] [60,61] [62,61] [33,61] 0 0 [] 0 0 [] 0)])) (.ite (qbh v (sAt v 0) [58,45] [60,61] [62,61] [33,61] 0 0 [] 0 0 [] 0) (.ite (qaC true (qao 1) 0 (nNat 1) (nLen (qas v (sAt v 0) [58,45] [60,61] [62,61] [33,61] 0 0 [] 0 0 [] 0))) (.ret (.tup [.agg [.int .i64 6,.str (sSub (qas v (sAt v 0) [58,45] [60,61] [62,61] [33,61] 0 0 [] 0 0 [] 0) 0 (nNat 1)),.int .i64 0,.int .i64 0,.str [],.int .i64 0],.bool (iLe 0 (idxV [40,41,44,46,43,45,61,58,60,62] (qa7 v (sAt v 0) [58,45] [60,61] [62,61] [33,61] 0 0 [] 0 0 [] 0)))])) .fail) .fail)))) .fail) (.ite (iEq (sAt v 0) 34) (.ite (qa9 v) (.ite (qaC true (qao (qab v)) 0 (nNat (qab v)) (nLen v)) (.ite (qan (sSub v 0 (nNat (qab v))) 5) (.ret (.tup [.agg [.int .i64 (qaz (sSub v 0 (nNat (qab v))) 5),.str (qaA (sSub v 0 (nNat (qab v))) 5),.int .i64 (qaq (sSub v 0 (nNat (qab v))) 5),.int .i64 (qat (sSub v 0 (nNat (qab v))) 5),
 .str (qau (sSub v 0 (nNat (qab v))) 5),.int .i64 (qar (sSub v 0 (nNat (qab v))) 5)],.bool (qay (sSub v 0 (nNat (qab v))) 5)])) .fail) .fail) .fail) (.ite (qa4 v (sAt v 0) [58,45] [60,61] [62,61] [33,61] 0 0 [] 0 0 [] 0) (.ret (.tup [.agg [.int .i64 (qbc v (sAt v 0) [58,45] [60,61] [62,61] [33,61] 0 0 [] 0 0 [] 0),.str (qbb v (sAt v 0) [58,45] [60,61] [62,61] [33,61] 0 0 [] 0 0 [] 0),.int .i64 (qaV v (sAt v 0) [58,45] [60,61] [62,61] [33,61] 0 0 [] 0 0 [] 0),.int .i64 (qaT v (sAt v 0) [58,45] [60,61] [62,61] [33,61] 0 0 [] 0 0 [] 0),.str (qaW v (sAt v 0) [58,45] [60,61] [62,61] [33,61] 0 0 [] 0 0 [] 0),.int .i64 (qaU v (sAt v 0) [58,45] [60,61] [62,61] [33,61] 0 0 [] 0 0 [] 0)],.bool (qbd v (sAt v 0) [58,45] [60,61] [62,61] [33,61] 0 0 [] 0 0 [] 0)])) (.ite (qbh v (sAt v 0) [58,45] [60,61] [62,61] [33,61] 0 0 [] 0 0 [] 0) (.ite (qaC true (qao 1) 0 (nNat 1) (nLen (qas v (sAt v 0) [58,45] [60,61] [62,61] [33,61] 0 0 [] 0 0 [] 0))) (.ret (.tup [.agg [.int .i64 6,.str (sSub (qas v (sAt v 0) [58,45] [60,61] [62,61] [33,61] 0 0 [] 0 0 [] 0) 0 (nNat 1)),.int .i64 0,.int .i64 0,.str [],.int .i64 0],.bool (iLe 0 (idxV [40,41,44,46,43,45,61,58,60,62] (qa7 v (sAt v 0) [58,45] [60,61] [62,61] [33,61] 0 0 [] 0 0 [] 0)))])) .fail) .fail))))) .fail)))) .fail) (.ite (iLe 97 (sAt v 0)) (.ite (iLe (sAt v 0) 122) (.ite (qdf v 1) (.ret (.tup [.agg [.int .i64 (qeI v 1),.str (qey v 1),.int .i64 (qc7 v 1),.int .i64 (qde v 1),.str (qdb v 1),.int .i64 (qdh v 1)],.bool (qen v 1)])) .fail) (.ite (iLe 65 (sAt v 0)) (.ite (iLe (sAt v 0) 90) (.ite (qdf v 2) (.ret (.tup [.agg [.int .i64 (qeI v 2),.str (qey v 2),.int .i64 (qc7 v 2),.int .i64 (qde v 2),.str (qdb v 2),.int .i64 (qdh v 2)],.bool (qen v 2)])) .fail) (.ite (iEq (sAt v 0) 95) (.ite (qbt 0) (.ret
 (.tup [.agg [.int .i64 3,.str [95],.int .i64 0,.int .i64 0,.str [],.int .i64 0],.bool (bNot (qbH 0))])) .fail) (.ite (qaX (sAt v 0)) (.ite (qa1 (sAt v 0)) (.ite (qaC (qao 1) true (nNat 1) (nLen v) (nLen v)) (.ite (qbr (sSub v (nNat 1) (nLen v))) (.ite (qaC true (qao (iAdd .i64 1 (qac (sSub v (nNat 1) (nLen v))))) 0 (nNat (iAdd .i64 1 (qac (sSub v (nNat 1) (nLen v))))) (nLen v)) (.ite (qan (sSub v 0 (nNat (iAdd .i64 1 (qac (sSub v (nNat 1) (nLen v)))))) 4) (.ret (.tup [.agg [.int .i64 (qaz (sSub v 0 (nNat (iAdd .i64 1 (qac (sSub v (nNat 1) (nLen v)))))) 4),.str (qaA (sSub v 0 (nNat (iAdd .i64 1 (qac (sSub v (nNat 1) (nLen v)))))) 4),.int .i64 (qaq (sSub v 0 (nNat (iAdd .i64 1 (qac (sSub v (nNat 1) (nLen v)))))) 4),.int .i64 (qat (sSub v 0 (nNat (iAdd .i64 1 (qac (sSub v (nNat 1) (nLen v)))))) 4),.str (qau (sSub v 0 (nNat (iAdd .i64 1 (qac (sSub v (nNat 1) (nLen v)))))) 4),.int .i64 (qar (sSub v 0 (nNat (iAdd .i64 1 (qac (sSub v (nNat 1) (nLen v)))))) 4)],.bool (qay (sSub v 0 (nNat (iAdd .i64 1 (qac (sSub v (nNat 1) (nLen v)))))) 4)])) .fail) .fail) .fail) .fail) (.ite (iEq (sAt v 0) 45) (.ite (qaX 0) (.ite (qa1 0) (.ite (qaC (qao 1) true (nNat 1) (nLen v) (nLen v)) (.ite (qbr (sSub v (nNat 1) (nLen v))) (.ite (qaC true (qao (iAdd .i64 1 (qac (sSub v (nNat 1) (nLen v))))) 0 (nNat (iAdd .i64 1 (qac (sSub v (nNat 1) (nLen v))))) (nLen v)) (.ite (qan (sSub v 0 (nNat (iAdd .i64 1 (qac (sSub v (nNat 1) (nLen v)))))) 4) (.ret (.tup [.agg [.int .i64 (qaz (sSub v 0 (nNat (iAdd .i64 1 (qac (sSub v (nNat 1) (nLen v)))))) 4),.str (qaA (sSub v 0 (nNat (iAdd .i64 1 (qac (sSub v (nNat 1) (nLen v)))))) 4),.int .i64 (qaq (sSub v 0 (nNat (iAdd .i64 1 (qac (sSub v (nNat 1) (nLen v)))))) 4),
 .int .i64 (qat (sSub v 0 (nNat (iAdd .i64 1 (qac (sSub v (nNat 1) (nLen v)))))) 4),.str (qau (sSub v 0 (nNat (iAdd .i64 1 (qac (sSub v (nNat 1) (nLen v)))))) 4),.int .i64 (qar (sSub v 0 (nNat (iAdd .i64 1 (qac (sSub v (nNat 1) (nLen v)))))) 4)],.bool (qay (sSub v 0 (nNat (iAdd .i64 1 (qac (sSub v (nNat 1) (nLen v)))))) 4)])) .fail) .fail) .fail) .fail) (.ite (iEq (sAt v 0) 34) (.ite (qa9 v) (.ite (qaC true (qao (qab v)) 0 (nNat (qab v)) (nLen v)) (.ite (qan (sSub v 0 (nNat (qab v))) 5) (.ret (.tup [.agg [.int .i64 (qaz (sSub v 0 (nNat (qab v))) 5),.str (qaA (sSub v 0 (nNat (qab v))) 5),.int .i64 (qaq (sSub v 0 (nNat (qab v))) 5),.int .i64 (qat (sSub v 0 (nNat (qab v))) 5),.str (qau (sSub v 0 (nNat (qab v))) 5),.int .i64 (qar (sSub v 0 (nNat (qab v))) 5)],.bool (qay (sSub v 0 (nNat (qab v))) 5)])) .fail) .fail) .fail) (.ite (qa4 v (sAt v 0) [58,45] [60,61] [62,61] [33,61] 0 0 [] 0 0 [] 0) (.ret (.tup [.agg [.int .i64 (qbc v (sAt v 0) [58,45] [60,61] [62,61] [33,61] 0 0 [] 0 0 [] 0),.str (qbb v (sAt v 0) [58,45] [60,61] [62,61] [33,61] 0 0 [] 0 0 [] 0),.int .i64 (qaV v (sAt v 0) [58,45] [60,61] [62,61] [33,61] 0 0 [] 0 0 [] 0),.int .i64 (qaT v (sAt v 0) [58,45] [60,61] [62,61] [33,61] 0 0 [] 0 0 [] 0),.str (qaW v (sAt v 0) [58,45] [60,61] [62,61] [33,61] 0 0 [] 0 0 [] 0),.int .i64 (qaU v (sAt v 0) [58,45] [60,61] [62,61] [33,61] 0 0 [] 0 0 [] 0)],.bool (qbd v (sAt v 0) [58,45] [60,61] [62,61] [33,61] 0 0 [] 0 0 [] 0)])) (.ite (qbh v (sAt v 0) [58,45] [60,61] [62,61] [33,61] 0 0 [] 0 0 [] 0) (.ite (qaC true (qao 1) 0 (nNat 1) (nLen (qas v (sAt v 0) [58,45] [60,61] [62,61] [33,61] 0 0 [] 0 0 [] 0))) (.ret (.tup [.agg
 [.int .i64 6,.str (sSub (qas v (sAt v 0) [58,45] [60,61] [62,61] [33,61] 0 0 [] 0 0 [] 0) 0 (nNat 1)),.int .i64 0,.int .i64 0,.str [],.int .i64 0],.bool (iLe 0 (idxV [40,41,44,46,43,45,61,58,60,62] (qa7 v (sAt v 0) [58,45] [60,61] [62,61] [33,61] 0 0 [] 0 0 [] 0)))])) .fail) .fail)))) .fail) (.ite (iEq (sAt v 0) 34) (.ite (qa9 v) (.ite (qaC true (qao (qab v)) 0 (nNat (qab v)) (nLen v)) (.ite (qan (sSub v 0 (nNat (qab v))) 5) (.ret (.tup [.agg [.int .i64 (qaz (sSub v 0 (nNat (qab v))) 5),.str (qaA (sSub v 0 (nNat (qab v))) 5),.int .i64 (qaq (sSub v 0 (nNat (qab v))) 5),.int .i64 (qat (sSub v 0 (nNat (qab v))) 5),.str (qau (sSub v 0 (nNat (qab v))) 5),.int .i64 (qar (sSub v 0 (nNat (qab v))) 5)],.bool (qay (sSub v 0 (nNat (qab v))) 5)])) .fail) .fail) .fail) (.ite (qa4 v (sAt v 0) [58,45] [60,61] [62,61] [33,61] 0 0 [] 0 0 [] 0) (.ret (.tup [.agg [.int .i64 (qbc v (sAt v 0) [58,45] [60,61] [62,61] [33,61] 0 0 [] 0 0 [] 0),.str (qbb v (sAt v 0) [58,45] [60,61] [62,61] [33,61] 0 0 [] 0 0 [] 0),.int .i64 (qaV v (sAt v 0) [58,45] [60,61] [62,61] [33,61] 0 0 [] 0 0 [] 0),.int .i64 (qaT v (sAt v 0) [58,45] [60,61] [62,61] [33,61] 0 0 [] 0 0 [] 0),.str (qaW v (sAt v 0) [58,45] [60,61] [62,61] [33,61] 0 0 [] 0 0 [] 0),.int .i64 (qaU v (sAt v 0) [58,45] [60,61] [62,61] [33,61] 0 0 [] 0 0 [] 0)],.bool (qbd v (sAt v 0) [58,45] [60,61] [62,61] [33,61] 0 0 [] 0 0 [] 0)])) (.ite (qbh v (sAt v 0) [58,45] [60,61] [62,61] [33,61] 0 0 [] 0 0 [] 0) (.ite (qaC true (qao 1) 0 (nNat 1) (nLen (qas v (sAt v 0) [58,45] [60,61] [62,61] [33,61] 0 0 [] 0 0 [] 0))) (.ret (.tup [.agg [.int .i64 6,.str (sSub (qas v (sAt v 0) [58,45] [60,61] [62,61] [33,61] 0 0 [] 0 0 [] 0) 0 (nNat 1)),.int .i64 0,.int .i64 0,.str [],.int .i64 0],
 .bool (iLe 0 (idxV [40,41,44,46,43,45,61,58,60,62] (qa7 v (sAt v 0) [58,45] [60,61] [62,61] [33,61] 0 0 [] 0 0 [] 0)))])) .fail) .fail))))) .fail))) (.ite (iEq (sAt v 0) 95) (.ite (qbt 0) (.ret (.tup [.agg [.int .i64 3,.str [95],.int .i64 0,.int .i64 0,.str [],.int .i64 0],.bool (bNot (qbH 0))])) .fail) (.ite (qaX (sAt v 0)) (.ite (qa1 (sAt v 0)) (.ite (qaC (qao 1) true (nNat 1) (nLen v) (nLen v)) (.ite (qbr (sSub v (nNat 1) (nLen v))) (.ite (qaC true (qao (iAdd .i64 1 (qac (sSub v (nNat 1) (nLen v))))) 0 (nNat (iAdd .i64 1 (qac (sSub v (nNat 1) (nLen v))))) (nLen v)) (.ite (qan (sSub v 0 (nNat (iAdd .i64 1 (qac (sSub v (nNat 1) (nLen v)))))) 4) (.ret (.tup [.agg [.int .i64 (qaz (sSub v 0 (nNat (iAdd .i64 1 (qac (sSub v (nNat 1) (nLen v)))))) 4),.str (qaA (sSub v 0 (nNat (iAdd .i64 1 (qac (sSub v (nNat 1) (nLen v)))))) 4),.int .i64 (qaq (sSub v 0 (nNat (iAdd .i64 1 (qac (sSub v (nNat 1) (nLen v)))))) 4),.int .i64 (qat (sSub v 0 (nNat (iAdd .i64 1 (qac (sSub v (nNat 1) (nLen v)))))) 4),.str (qau (sSub v 0 (nNat (iAdd .i64 1 (qac (sSub v (nNat 1) (nLen v)))))) 4),.int .i64 (qar (sSub v 0 (nNat (iAdd .i64 1 (qac (sSub v (nNat 1) (nLen v)))))) 4)],.bool (qay (sSub v 0 (nNat (iAdd .i64 1 (qac (sSub v (nNat 1) (nLen v)))))) 4)])) .fail) .fail) .fail) .fail) (.ite (iEq (sAt v 0) 45) (.ite (qaX 0) (.ite (qa1 0) (.ite (qaC (qao 1) true (nNat 1) (nLen v) (nLen v)) (.ite (qbr (sSub v (nNat 1) (nLen v))) (.ite (qaC true (qao (iAdd .i64 1 (qac (sSub v (nNat 1) (nLen v))))) 0 (nNat (iAdd .i64 1 (qac (sSub v (nNat 1) (nLen v))))) (nLen v)) (.ite (qan (sSub v 0 (nNat (iAdd .i64 1 (qac (sSub v (nNat 1) (nLen v)))))) 4) (.ret (.tup [.agg [.int .i64 (qaz (sSub v 0 (nNat (iAdd .i64 1 (qac (sSub v (nNat 1) (nLen v)))))) 4),
 .str (qaA (sSub v 0 (nNat (iAdd .i64 1 (qac (sSub v (nNat 1) (nLen v)))))) 4),.int .i64 (qaq (sSub v 0 (nNat (iAdd .i64 1 (qac (sSub v (nNat 1) (nLen v)))))) 4),.int .i64 (qat (sSub v 0 (nNat (iAdd .i64 1 (qac (sSub v (nNat 1) (nLen v)))))) 4),.str (qau (sSub v 0 (nNat (iAdd .i64 1 (qac (sSub v (nNat 1) (nLen v)))))) 4),.int .i64 (qar (sSub v 0 (nNat (iAdd .i64 1 (qac (sSub v (nNat 1) (nLen v)))))) 4)],.bool (qay (sSub v 0 (nNat (iAdd .i64 1 (qac (sSub v (nNat 1) (nLen v)))))) 4)])) .fail) .fail) .fail) .fail) (.ite (iEq (sAt v 0) 34) (.ite (qa9 v) (.ite (qaC true (qao (qab v)) 0 (nNat (qab v)) (nLen v)) (.ite (qan (sSub v 0 (nNat (qab v))) 5) (.ret (.tup [.agg [.int .i64 (qaz (sSub v 0 (nNat (qab v))) 5),.str (qaA (sSub v 0 (nNat (qab v))) 5),.int .i64 (qaq (sSub v 0 (nNat (qab v))) 5),.int .i64 (qat (sSub v 0 (nNat (qab v))) 5),.str (qau (sSub v 0 (nNat (qab v))) 5),.int .i64 (qar (sSub v 0 (nNat (qab v))) 5)],.bool (qay (sSub v 0 (nNat (qab v))) 5)])) .fail) .fail) .fail) (.ite (qa4 v (sAt v 0) [58,45] [60,61] [62,61] [33,61] 0 0 [] 0 0 [] 0) (.ret (.tup [.agg [.int .i64 (qbc v (sAt v 0) [58,45] [60,61] [62,61] [33,61] 0 0 [] 0 0 [] 0),.str (qbb v (sAt v 0) [58,45] [60,61] [62,61] [33,61] 0 0 [] 0 0 [] 0),.int .i64 (qaV v (sAt v 0) [58,45] [60,61] [62,61] [33,61] 0 0 [] 0 0 [] 0),.int .i64 (qaT v (sAt v 0) [58,45] [60,61] [62,61] [33,61] 0 0 [] 0 0 [] 0),.str (qaW v (sAt v 0) [58,45] [60,61] [62,61] [33,61] 0 0 [] 0 0 [] 0),.int .i64 (qaU v (sAt v 0) [58,45] [60,61] [62,61] [33,61] 0 0 [] 0 0 [] 0)],.bool (qbd v (sAt v 0) [58,45] [60,61] [62,61] [33,61] 0 0 [] 0 0 [] 0)])) (.ite (qbh v (sAt v 0) [58,45] [60,61] [62,61] [33,61] 0 0 [] 0 0 [] 0)
 (.ite (qaC true (qao 1) 0 (nNat 1) (nLen (qas v (sAt v 0) [58,45] [60,61] [62,61] [33,61] 0 0 [] 0 0 [] 0))) (.ret (.tup [.agg [.int .i64 6,.str (sSub (qas v (sAt v 0) [58,45] [60,61] [62,61] [33,61] 0 0 [] 0 0 [] 0) 0 (nNat 1)),.int .i64 0,.int .i64 0,.str [],.int .i64 0],.bool (iLe 0 (idxV [40,41,44,46,43,45,61,58,60,62] (qa7 v (sAt v 0) [58,45] [60,61] [62,61] [33,61] 0 0 [] 0 0 [] 0)))])) .fail) .fail)))) .fail) (.ite (iEq (sAt v 0) 34) (.ite (qa9 v) (.ite (qaC true (qao (qab v)) 0 (nNat (qab v)) (nLen v)) (.ite (qan (sSub v 0 (nNat (qab v))) 5) (.ret (.tup [.agg [.int .i64 (qaz (sSub v 0 (nNat (qab v))) 5),.str (qaA (sSub v 0 (nNat (qab v))) 5),.int .i64 (qaq (sSub v 0 (nNat (qab v))) 5),.int .i64 (qat (sSub v 0 (nNat (qab v))) 5),.str (qau (sSub v 0 (nNat (qab v))) 5),.int .i64 (qar (sSub v 0 (nNat (qab v))) 5)],.bool (qay (sSub v 0 (nNat (qab v))) 5)])) .fail) .fail) .fail) (.ite (qa4 v (sAt v 0) [58,45] [60,61] [62,61] [33,61] 0 0 [] 0 0 [] 0) (.ret (.tup [.agg [.int .i64 (qbc v (sAt v 0) [58,45] [60,61] [62,61] [33,61] 0 0 [] 0 0 [] 0),.str (qbb v (sAt v 0) [58,45] [60,61] [62,61] [33,61] 0 0 [] 0 0 [] 0),.int .i64 (qaV v (sAt v 0) [58,45] [60,61] [62,61] [33,61] 0 0 [] 0 0 [] 0),.int .i64 (qaT v (sAt v 0) [58,45] [60,61] [62,61] [33,61] 0 0 [] 0 0 [] 0),.str (qaW v (sAt v 0) [58,45] [60,61] [62,61] [33,61] 0 0 [] 0 0 [] 0),.int .i64 (qaU v (sAt v 0) [58,45] [60,61] [62,61] [33,61] 0 0 [] 0 0 [] 0)],.bool (qbd v (sAt v 0) [58,45] [60,61] [62,61] [33,61] 0 0 [] 0 0 [] 0)])) (.ite (qbh v (sAt v 0) [58,45] [60,61] [62,61] [33,61] 0 0 [] 0 0 [] 0) (.ite (qaC true (qao 1) 0 (nNat 1) (nLen (qas v (sAt v 0) [58,45] [60,61] [62,61] [33,61] 0 0 [] 0 0 [] 0))) (.ret (.tup [.agg
 [.int .i64 6,.str (sSub (qas v (sAt v 0) [58,45] [60,61] [62,61] [33,61] 0 0 [] 0 0 [] 0) 0 (nNat 1)),.int .i64 0,.int .i64 0,.str [],.int .i64 0],.bool (iLe 0 (idxV [40,41,44,46,43,45,61,58,60,62] (qa7 v (sAt v 0) [58,45] [60,61] [62,61] [33,61] 0 0 [] 0 0 [] 0)))])) .fail) .fail))))) .fail)))) (.ite (iLe 65 (sAt v 0)) (.ite (iLe (sAt v 0) 90) (.ite (qdf v 2) (.ret (.tup [.agg [.int .i64 (qeI v 2),.str (qey v 2),.int .i64 (qc7 v 2),.int .i64 (qde v 2),.str (qdb v 2),.int .i64 (qdh v 2)],.bool (qen v 2)])) .fail) (.ite (iEq (sAt v 0) 95) (.ite (qbt 0) (.ret (.tup [.agg [.int .i64 3,.str [95],.int .i64 0,.int .i64 0,.str [],.int .i64 0],.bool (bNot (qbH 0))])) .fail) (.ite (qaX (sAt v 0)) (.ite (qa1 (sAt v 0)) (.ite (qaC (qao 1) true (nNat 1) (nLen v) (nLen v)) (.ite (qbr (sSub v (nNat 1) (nLen v))) (.ite (qaC true (qao (iAdd .i64 1 (qac (sSub v (nNat 1) (nLen v))))) 0 (nNat (iAdd .i64 1 (qac (sSub v (nNat 1) (nLen v))))) (nLen v)) (.ite (qan (sSub v 0 (nNat (iAdd .i64 1 (qac (sSub v (nNat 1) (nLen v)))))) 4) (.ret (.tup [.agg [.int .i64 (qaz (sSub v 0 (nNat (iAdd .i64 1 (qac (sSub v (nNat 1) (nLen v)))))) 4),.str (qaA (sSub v 0 (nNat (iAdd .i64 1 (qac (sSub v (nNat 1) (nLen v)))))) 4),.int .i64 (qaq (sSub v 0 (nNat (iAdd .i64 1 (qac (sSub v (nNat 1) (nLen v)))))) 4),.int .i64 (qat (sSub v 0 (nNat (iAdd .i64 1 (qac (sSub v (nNat 1) (nLen v)))))) 4),.str (qau (sSub v 0 (nNat (iAdd .i64 1 (qac (sSub v (nNat 1) (nLen v)))))) 4),.int .i64 (qar (sSub v 0 (nNat (iAdd .i64 1 (qac (sSub v (nNat 1) (nLen v)))))) 4)],.bool (qay (sSub v 0 (nNat (iAdd .i64 1 (qac (sSub v (nNat 1) (nLen v)))))) 4)])) .fail) .fail) .fail) .fail) (.ite (iEq (sAt v 0) 45) (.ite (qaX 0) (.ite (qa1 0) (.ite (qaC (qao 1) true (nNat 1) (nLen v) (nLen v))
 (.ite (qbr (sSub v (nNat 1) (nLen v))) (.ite (qaC true (qao (iAdd .i64 1 (qac (sSub v (nNat 1) (nLen v))))) 0 (nNat (iAdd .i64 1 (qac (sSub v (nNat 1) (nLen v))))) (nLen v)) (.ite (qan (sSub v 0 (nNat (iAdd .i64 1 (qac (sSub v (nNat 1) (nLen v)))))) 4) (.ret (.tup [.agg [.int .i64 (qaz (sSub v 0 (nNat (iAdd .i64 1 (qac (sSub v (nNat 1) (nLen v)))))) 4),.str (qaA (sSub v 0 (nNat (iAdd .i64 1 (qac (sSub v (nNat 1) (nLen v)))))) 4),.int .i64 (qaq (sSub v 0 (nNat (iAdd .i64 1 (qac (sSub v (nNat 1) (nLen v)))))) 4),.int .i64 (qat (sSub v 0 (nNat (iAdd .i64 1 (qac (sSub v (nNat 1) (nLen v)))))) 4),.str (qau (sSub v 0 (nNat (iAdd .i64 1 (qac (sSub v (nNat 1) (nLen v)))))) 4),.int .i64 (qar (sSub v 0 (nNat (iAdd .i64 1 (qac (sSub v (nNat 1) (nLen v)))))) 4)],.bool (qay (sSub v 0 (nNat (iAdd .i64 1 (qac (sSub v (nNat 1) (nLen v)))))) 4)])) .fail) .fail) .fail) .fail) (.ite (iEq (sAt v 0) 34) (.ite (qa9 v) (.ite (qaC true (qao (qab v)) 0 (nNat (qab v)) (nLen v)) (.ite (qan (sSub v 0 (nNat (qab v))) 5) (.ret (.tup [.agg [.int .i64 (qaz (sSub v 0 (nNat (qab v))) 5),.str (qaA (sSub v 0 (nNat (qab v))) 5),.int .i64 (qaq (sSub v 0 (nNat (qab v))) 5),.int .i64 (qat (sSub v 0 (nNat (qab v))) 5),.str (qau (sSub v 0 (nNat (qab v))) 5),.int .i64 (qar (sSub v 0 (nNat (qab v))) 5)],.bool (qay (sSub v 0 (nNat (qab v))) 5)])) .fail) .fail) .fail) (.ite (qa4 v (sAt v 0) [58,45] [60,61] [62,61] [33,61] 0 0 [] 0 0 [] 0) (.ret (.tup [.agg [.int .i64 (qbc v (sAt v 0) [58,45] [60,61] [62,61] [33,61] 0 0 [] 0 0 [] 0),.str (qbb v (sAt v 0) [58,45] [60,61] [62,61] [33,61] 0 0 [] 0 0 [] 0),.int .i64 (qaV v (sAt v 0) [58,45] [60,61] [62,61] [33,61] 0 0 [] 0 0 [] 0),
 .int .i64 (qaT v (sAt v 0) [58,45] [60,61] [62,61] [33,61] 0 0 [] 0 0 [] 0),.str (qaW v (sAt v 0) [58,45] [60,61] [62,61] [33,61] 0 0 [] 0 0 [] 0),.int .i64 (qaU v (sAt v 0) [58,45] [60,61] [62,61] [33,61] 0 0 [] 0 0 [] 0)],.bool (qbd v (sAt v 0) [58,45] [60,61] [62,61] [33,61] 0 0 [] 0 0 [] 0)])) (.ite (qbh v (sAt v 0) [58,45] [60,61] [62,61] [33,61] 0 0 [] 0 0 [] 0) (.ite (qaC true (qao 1) 0 (nNat 1) (nLen (qas v (sAt v 0) [58,45] [60,61] [62,61] [33,61] 0 0 [] 0 0 [] 0))) (.ret (.tup [.agg [.int .i64 6,.str (sSub (qas v (sAt v 0) [58,45] [60,61] [62,61] [33,61] 0 0 [] 0 0 [] 0) 0 (nNat 1)),.int .i64 0,.int .i64 0,.str [],.int .i64 0],.bool (iLe 0 (idxV [40,41,44,46,43,45,61,58,60,62] (qa7 v (sAt v 0) [58,45] [60,61] [62,61] [33,61] 0 0 [] 0 0 [] 0)))])) .fail) .fail)))) .fail) (.ite (iEq (sAt v 0) 34) (.ite (qa9 v) (.ite (qaC true (qao (qab v)) 0 (nNat (qab v)) (nLen v)) (.ite (qan (sSub v 0 (nNat (qab v))) 5) (.ret (.tup [.agg [.int .i64 (qaz (sSub v 0 (nNat (qab v))) 5),.str (qaA (sSub v 0 (nNat (qab v))) 5),.int .i64 (qaq (sSub v 0 (nNat (qab v))) 5),.int .i64 (qat (sSub v 0 (nNat (qab v))) 5),.str (qau (sSub v 0 (nNat (qab v))) 5),.int .i64 (qar (sSub v 0 (nNat (qab v))) 5)],.bool (qay (sSub v 0 (nNat (qab v))) 5)])) .fail) .fail) .fail) (.ite (qa4 v (sAt v 0) [58,45] [60,61] [62,61] [33,61] 0 0 [] 0 0 [] 0) (.ret (.tup [.agg [.int .i64 (qbc v (sAt v 0) [58,45] [60,61] [62,61] [33,61] 0 0 [] 0 0 [] 0),.str (qbb v (sAt v 0) [58,45] [60,61] [62,61] [33,61] 0 0 [] 0 0 [] 0),.int .i64 (qaV v (sAt v 0) [58,45] [60,61] [62,61] [33,61] 0 0 [] 0 0 [] 0),.int .i64 (qaT v (sAt v 0) [58,45] [60,61] [62,61] [33,61] 0 0 [] 0 0 [] 0),.str (qaW v (sAt v 0) [58,45] [60,61] [62,61] [33,61] 0 0 [] 0 0 [] 0),
 .int .i64 (qaU v (sAt v 0) [58,45] [60,61] [62,61] [33,61] 0 0 [] 0 0 [] 0)],.bool (qbd v (sAt v 0) [58,45] [60,61] [62,61] [33,61] 0 0 [] 0 0 [] 0)])) (.ite (qbh v (sAt v 0) [58,45] [60,61] [62,61] [33,61] 0 0 [] 0 0 [] 0) (.ite (qaC true (qao 1) 0 (nNat 1) (nLen (qas v (sAt v 0) [58,45] [60,61] [62,61] [33,61] 0 0 [] 0 0 [] 0))) (.ret (.tup [.agg [.int .i64 6,.str (sSub (qas v (sAt v 0) [58,45] [60,61] [62,61] [33,61] 0 0 [] 0 0 [] 0) 0 (nNat 1)),.int .i64 0,.int .i64 0,.str [],.int .i64 0],.bool (iLe 0 (idxV [40,41,44,46,43,45,61,58,60,62] (qa7 v (sAt v 0) [58,45] [60,61] [62,61] [33,61] 0 0 [] 0 0 [] 0)))])) .fail) .fail))))) .fail))) (.ite (iEq (sAt v 0) 95) (.ite (qbt 0) (.ret (.tup [.agg [.int .i64 3,.str [95],.int .i64 0,.int .i64 0,.str [],.int .i64 0],.bool (bNot (qbH 0))])) .fail) (.ite (qaX (sAt v 0)) (.ite (qa1 (sAt v 0)) (.ite (qaC (qao 1) true (nNat 1) (nLen v) (nLen v)) (.ite (qbr (sSub v (nNat 1) (nLen v))) (.ite (qaC true (qao (iAdd .i64 1 (qac (sSub v (nNat 1) (nLen v))))) 0 (nNat (iAdd .i64 1 (qac (sSub v (nNat 1) (nLen v))))) (nLen v)) (.ite (qan (sSub v 0 (nNat (iAdd .i64 1 (qac (sSub v (nNat 1) (nLen v)))))) 4) (.ret (.tup [.agg [.int .i64 (qaz (sSub v 0 (nNat (iAdd .i64 1 (qac (sSub v (nNat 1) (nLen v)))))) 4),.str (qaA (sSub v 0 (nNat (iAdd .i64 1 (qac (sSub v (nNat 1) (nLen v)))))) 4),.int .i64 (qaq (sSub v 0 (nNat (iAdd .i64 1 (qac (sSub v (nNat 1) (nLen v)))))) 4),.int .i64 (qat (sSub v 0 (nNat (iAdd .i64 1 (qac (sSub v (nNat 1) (nLen v)))))) 4),.str (qau (sSub v 0 (nNat (iAdd .i64 1 (qac (sSub v (nNat 1) (nLen v)))))) 4),.int .i64 (qar (sSub v 0 (nNat (iAdd .i64 1 (qac (sSub v (nNat 1) (nLen v)))))) 4)],.bool (qay (sSub v 0 (nNat (iAdd .i64 1 (qac (sSub v (nNat 1) (nLen v)))))) 4)])) .fail) .fail) .fail) .fail) (.ite (iEq (sAt v 0) 45)
 (.ite (qaX 0) (.ite (qa1 0) (.ite (qaC (qao 1) true (nNat 1) (nLen v) (nLen v)) (.ite (qbr (sSub v (nNat 1) (nLen v))) (.ite (qaC true (qao (iAdd .i64 1 (qac (sSub v (nNat 1) (nLen v))))) 0 (nNat (iAdd .i64 1 (qac (sSub v (nNat 1) (nLen v))))) (nLen v)) (.ite (qan (sSub v 0 (nNat (iAdd .i64 1 (qac (sSub v (nNat 1) (nLen v)))))) 4) (.ret (.tup [.agg [.int .i64 (qaz (sSub v 0 (nNat (iAdd .i64 1 (qac (sSub v (nNat 1) (nLen v)))))) 4),.str (qaA (sSub v 0 (nNat (iAdd .i64 1 (qac (sSub v (nNat 1) (nLen v)))))) 4),.int .i64 (qaq (sSub v 0 (nNat (iAdd .i64 1 (qac (sSub v (nNat 1) (nLen v)))))) 4),.int .i64 (qat (sSub v 0 (nNat (iAdd .i64 1 (qac (sSub v (nNat 1) (nLen v)))))) 4),.str (qau (sSub v 0 (nNat (iAdd .i64 1 (qac (sSub v (nNat 1) (nLen v)))))) 4),.int .i64 (qar (sSub v 0 (nNat (iAdd .i64 1 (qac (sSub v (nNat 1) (nLen v)))))) 4)],.bool (qay (sSub v 0 (nNat (iAdd .i64 1 (qac (sSub v (nNat 1) (nLen v)))))) 4)])) .fail) .fail) .fail) .fail) (.ite (iEq (sAt v 0) 34) (.ite (qa9 v) (.ite (qaC true (qao (qab v)) 0 (nNat (qab v)) (nLen v)) (.ite (qan (sSub v 0 (nNat (qab v))) 5) (.ret (.tup [.agg [.int .i64 (qaz (sSub v 0 (nNat (qab v))) 5),.str (qaA (sSub v 0 (nNat (qab v))) 5),.int .i64 (qaq (sSub v 0 (nNat (qab v))) 5),.int .i64 (qat (sSub v 0 (nNat (qab v))) 5),.str (qau (sSub v 0 (nNat (qab v))) 5),.int .i64 (qar (sSub v 0 (nNat (qab v))) 5)],.bool (qay (sSub v 0 (nNat (qab v))) 5)])) .fail) .fail) .fail) (.ite (qa4 v (sAt v 0) [58,45] [60,61] [62,61] [33,61] 0 0 [] 0 0 [] 0) (.ret (.tup [.agg [.int .i64 (qbc v (sAt v 0) [58,45] [60,61] [62,61] [33,61] 0 0 [] 0 0 [] 0),.str (qbb v (sAt v 0) [58,45] [60,61] [62,61] [33,61] 0 0 [] 0 0 [] 0),
 .int .i64 (qaV v (sAt v 0) [58,45] [60,61] [62,61] [33,61] 0 0 [] 0 0 [] 0),.int .i64 (qaT v (sAt v 0) [58,45] [60,61] [62,61] [33,61] 0 0 [] 0 0 [] 0),.str (qaW v (sAt v 0) [58,45] [60,61] [62,61] [33,61] 0 0 [] 0 0 [] 0),.int .i64 (qaU v (sAt v 0) [58,45] [60,61] [62,61] [33,61] 0 0 [] 0 0 [] 0)],.bool (qbd v (sAt v 0) [58,45] [60,61] [62,61] [33,61] 0 0 [] 0 0 [] 0)])) (.ite (qbh v (sAt v 0) [58,45] [60,61] [62,61] [33,61] 0 0 [] 0 0 [] 0) (.ite (qaC true (qao 1) 0 (nNat 1) (nLen (qas v (sAt v 0) [58,45] [60,61] [62,61] [33,61] 0 0 [] 0 0 [] 0))) (.ret (.tup [.agg [.int .i64 6,.str (sSub (qas v (sAt v 0) [58,45] [60,61] [62,61] [33,61] 0 0 [] 0 0 [] 0) 0 (nNat 1)),.int .i64 0,.int .i64 0,.str [],.int .i64 0],.bool (iLe 0 (idxV [40,41,44,46,43,45,61,58,60,62] (qa7 v (sAt v 0) [58,45] [60,61] [62,61] [33,61] 0 0 [] 0 0 [] 0)))])) .fail) .fail)))) .fail) (.ite (iEq (sAt v 0) 34) (.ite (qa9 v) (.ite (qaC true (qao (qab v)) 0 (nNat (qab v)) (nLen v)) (.ite (qan (sSub v 0 (nNat (qab v))) 5) (.ret (.tup [.agg [.int .i64 (qaz (sSub v 0 (nNat (qab v))) 5),.str (qaA (sSub v 0 (nNat (qab v))) 5),.int .i64 (qaq (sSub v 0 (nNat (qab v))) 5),.int .i64 (qat (sSub v 0 (nNat (qab v))) 5),.str (qau (sSub v 0 (nNat (qab v))) 5),.int .i64 (qar (sSub v 0 (nNat (qab v))) 5)],.bool (qay (sSub v 0 (nNat (qab v))) 5)])) .fail) .fail) .fail) (.ite (qa4 v (sAt v 0) [58,45] [60,61] [62,61] [33,61] 0 0 [] 0 0 [] 0) (.ret (.tup [.agg [.int .i64 (qbc v (sAt v 0) [58,45] [60,61] [62,61] [33,61] 0 0 [] 0 0 [] 0),.str (qbb v (sAt v 0) [58,45] [60,61] [62,61] [33,61] 0 0 [] 0 0 [] 0),.int .i64 (qaV v (sAt v 0) [58,45] [60,61] [62,61] [33,61] 0 0 [] 0 0 [] 0),.int .i64 (qaT v (sAt v 0) [58,45] [60,61] [62,61] [33,61] 0 0 [] 0 0 [] 0),
 .str (qaW v (sAt v 0) [58,45] [60,61] [62,61] [33,61] 0 0 [] 0 0 [] 0),.int .i64 (qaU v (sAt v 0) [58,45] [60,61] [62,61] [33,61] 0 0 [] 0 0 [] 0)],.bool (qbd v (sAt v 0) [58,45] [60,61] [62,61] [33,61] 0 0 [] 0 0 [] 0)])) (.ite (qbh v (sAt v 0) [58,45] [60,61] [62,61] [33,61] 0 0 [] 0 0 [] 0) (.ite (qaC true (qao 1) 0 (nNat 1) (nLen (qas v (sAt v 0) [58,45] [60,61] [62,61] [33,61] 0 0 [] 0 0 [] 0))) (.ret (.tup [.agg [.int .i64 6,.str (sSub (qas v (sAt v 0) [58,45] [60,61] [62,61] [33,61] 0 0 [] 0 0 [] 0) 0 (nNat 1)),.int .i64 0,.int .i64 0,.str [],.int .i64 0],.bool (iLe 0 (idxV [40,41,44,46,43,45,61,58,60,62] (qa7 v (sAt v 0) [58,45] [60,61] [62,61] [33,61] 0 0 [] 0 0 [] 0)))])) .fail) .fail))))) .fail))))) .fail
theorem qCE (v:qU):(tcall tbT qox qt9 Tryz.f141 [.str v]).flat=qdW v:=by kernel_rfl
def qbJ (v:qU):Option PV:=(qdW v).run
def qb1 (v:qU):Int:=(gInt (gAt (gCs (gAt (gCs (gVal (qbJ v))) 0)) 0))
def qa2 (v:qU):List UInt8:=(gStr (gAt (gCs (gAt (gCs (gVal (qbJ v))) 0)) 1))
def qbC (v:qU):Int:=(gInt (gAt (gCs (gAt (gCs (gVal (qbJ v))) 0)) 2))
def qbA (v:qU):Int:=(gInt (gAt (gCs (gAt (gCs (gVal (qbJ v))) 0)) 3))
def qbB (v:qU):List UInt8:=(gStr (gAt (gCs (gAt (gCs (gVal (qbJ v))) 0)) 4))
def qp3 (v:qU):Int:=(gInt (gAt (gCs (gAt (gCs (gVal (qbJ v))) 0)) 5))
def qeh (v:qU):Bool:=(qbU (gAt (gCs (gVal (qbJ v))) 1))
def qhj (v:qU):Bool:=isW (qbJ v) (.tup [.agg [.int .i64 (qb1 v),.str (qa2 v),.int .i64 (qbC v),.int .i64 (qbA v),.str (qbB v),.int .i64 (qp3 v)],.bool (qeh v)])
def qua:List PV→Tr PV|[.str v]=>.ite (qhj v) (.ret (.tup [.agg [.int .i64 (qb1 v),.str (qa2 v),.int .i64 (qbC v),.int .i64 (qbA v),.str (qbB v),.int .i64 (qp3 v)],.bool (qeh v)])) (.fail)|_=>.fail
theorem qyG (gl:Gl) (hg:GlLex gl):SimP Tryz.prog gl 141 fun args=>(qua args).run:=by
 refine SimP.of_flat (G:=qox) (L:=qt9) qav (qrC gl hg ) qai  Tryz.func141 rfl (by rfl) (by kernel_rfl) (qbp (L:=lps qt9) [(16,qlR)] (by kernel_rfl) (List.forall_mem_cons.2 ⟨fun fr σ e fr' σ' h=>qtm gl hg  fr σ e fr' σ' h,(List.forall_mem_nil _)⟩)) ?_
 intro args x h;unfold qua at h
 split at h
 ·exact (congrArg Tr.run (qCE _)).trans (qah h fun h=>by cases h)
 ·cases h
end Go.Pv
set_option maxHeartbeats 4000000
set_option maxRecDepth 200000
set_option linter.unusedSimpArgs false
set_option linter.unusedVariables false
namespace Go.Pv
open Go Go.Proofs Go.RowKit
def smI (c:Int):Bool:=decide (97≤c)&&decide (c≤122)
def grI (c:Int):Bool:=decide (65≤c)&&decide (c≤90)
def dgI (c:Int):Bool:=decide (48≤c)&&decide (c≤57)
def inI (c:Int):Bool:=smI c || grI c || dgI c || decide (c=95)
theorem qBx (b:UInt8):smI (b.toNat:Int)=qfK b:=by unfold smI qfK;congr 1<;>(apply decide_eq_decide.2;omega)
theorem qAQ (b:UInt8):grI (b.toNat:Int)=qg9 b:=by unfold grI qg9;congr 1<;>(apply decide_eq_decide.2;omega)
theorem qgz (b:UInt8):dgI (b.toNat:Int)=qaH b:=by unfold dgI qaH;congr 1<;>(apply decide_eq_decide.2;omega)
theorem qq5 (b:UInt8):inI (b.toNat:Int)=innB b:=by
 unfold inI innB;rw [qBx,qAQ,qgz]
 congr 1
 apply decide_eq_decide.2;omega
theorem qpo (c:Int):qlE c=some (.bool (dgI c)):=by
 unfold qlE qmZ dgI;by_cases h:(48:Int)≤c<;>simp [h]
@[simp] theorem qdc (c:Int):qaX c=true:=by simp [qaX,qa1,qpo]
@[simp] theorem ldigit_v (c:Int):qa1 c=dgI c:=by simp [qa1,qpo]
theorem qlj (c:Int):qh3 c=some (.bool (inI c)):=by
 unfold qh3 qi0 inI smI grI;by_cases h1:(97:Int)≤c<;>by_cases h2:c≤122<;>by_cases h3:(65:Int)≤c<;>by_cases h4:c≤90<;>by_cases h5:c=95<;>simp [h1,h2,h3,h4,h5]
@[simp] theorem lfollows_is (c:Int):qbt c=true:=by simp [qbt,qbH,qlj]
@[simp] theorem lfollows_v (c:Int):qbH c=inI c:=by simp [qbH,qlj]
theorem qx1 (s:qU) (hs:s.length < 9223372036854775807):∀ (m i:Nat),i+m=s.length→qel [.str s,.fn 155 [],.int .i64 (i:Nat)] ⟨[],[],[]⟩=some (.exit 0,[.int .i64 ((i+runL innB (s.drop i):Nat):Int)],⟨[],[],[]⟩):=by
 intro m
 induction m with
 |zero =>
  intro i hi;rw [qxM,List.drop_eq_nil_of_le (by omega)]
  have:¬ (i:Int) < s.length:=by omega
  simp [qjA,runL,this]
 |succ m ih =>
  intro i hi;obtain⟨b,hb⟩:=qmy (l:=s) (i:=i) (by omega)
  have hbe:=(List.getElem?_eq_some_iff.1 hb).2;have w:=qbQ (i:=i) (by omega)
  have hlt:i < s.length:=by omega
  have h1:=ih (i+1) (by omega)
  rw [qcL hb,qxM];cases hc:innB b with
  |true =>
   have e:i+(runL innB (s.drop (i+1))+1)=i+1+runL innB (s.drop (i+1)):=by omega
   simp only [runL,hc,if_true,e];rw [← h1];simp [qjA,hlt,hbe,qq5,hc,w]
  |false=>simp [qjA,hlt,hbe,qq5,hc,runL]
theorem qwJ (s:qU) (hs:s.length < 9223372036854775807):∀ (m i:Nat),i+m=s.length→qel [.str s,.fn 156 [],.int .i64 (i:Nat)] ⟨[],[],[]⟩=some (.exit 0,[.int .i64 ((i+runL qaH (s.drop i):Nat):Int)],⟨[],[],[]⟩):=by
 intro m
 induction m with
 |zero =>
  intro i hi;rw [quQ,List.drop_eq_nil_of_le (by omega)]
  have:¬ (i:Int) < s.length:=by omega
  simp [qhz,runL,this]
 |succ m ih =>
  intro i hi;obtain⟨b,hb⟩:=qmy (l:=s) (i:=i) (by omega)
  have hbe:=(List.getElem?_eq_some_iff.1 hb).2;have w:=qbQ (i:=i) (by omega)
  have hlt:i < s.length:=by omega
  have h1:=ih (i+1) (by omega)
  rw [qcL hb,quQ];cases hc:qaH b with
  |true =>
   have e:i+(runL qaH (s.drop (i+1))+1)=i+1+runL qaH (s.drop (i+1)):=by omega
   simp only [runL,hc,if_true,e];rw [← h1];simp [qhz,hlt,hbe,qgz,hc,w]
  |false=>simp [qhz,hlt,hbe,qgz,hc,runL]
theorem qux {s:List UInt8} (hs:s.length < 9223372036854775807):qvL s=some (.int .i64 (runL innB s:Nat)):=by
 have h:=qx1 s hs s.length 0 (by omega)
 simp at h
 unfold qvL qsJ;simp [qmL,qqv,qtz,h]
theorem qDX {s:List UInt8} (hs:s.length < 9223372036854775807):qlF s=true:=by simp [qlF,qjQ,qux hs]
theorem qFR {s:List UInt8} (hs:s.length < 9223372036854775807):qjQ s=(runL innB s:Nat):=by simp [qjQ,qux hs]
theorem qrS {s:List UInt8} (hs:s.length < 9223372036854775807):qre s=some (.int .i64 (runL qaH s:Nat)):=by
 have h:=qwJ s hs s.length 0 (by omega)
 simp at h
 unfold qre qp1;simp [qkN,qmq,qqS,h]
theorem qAy {s:List UInt8} (hs:s.length < 9223372036854775807):qbr s=true:=by simp [qbr,qac,qrS hs]
theorem qCF {s:List UInt8} (hs:s.length < 9223372036854775807):qac s=(runL qaH s:Nat):=by simp [qac,qrS hs]
def qOut (i n:Nat):Option (PExit×List PV×Store):=if n=0 then some (.exit 0,[],⟨[],[],[]⟩) else some (.ret,[.int .i64 ((i+n:Nat):Int)],⟨[],[],[]⟩)
theorem qpH (i n:Nat):qOut i (incN n)=qOut (i+1) n:=by
 unfold qOut incN;by_cases h:n=0
 ·simp [h]
 ·simp [h];omega
theorem qrJ (s:qU) (hs:s.length < 9223372036854775800):∀ (m i:Nat),s.length≤i+m→i≤s.length+1→qcm [.str s,.int .i64 (i:Nat)] ⟨[],[],[]⟩=qOut i (quoE false (s.drop i)):=by
 have hend:∀ i:Nat,s.length≤i→qcm [.str s,.int .i64 (i:Nat)] ⟨[],[],[]⟩=some (.exit 0,[],⟨[],[],[]⟩):=fun i hi=>by
  rw [qpm];have:¬ (i:Int) < s.length:=by omega
  simp [qdt,this]
 intro m
 induction m with
 |zero =>
  intro i hi _;rw [hend i (by omega),List.drop_eq_nil_of_le (by omega)]
  simp [quoE,qOut]
 |succ m ih =>
  intro i hi hi2;by_cases hlt:i < s.length
  ·obtain⟨b,hb⟩:=qmy (l:=s) (i:=i) hlt;have hbe:=(List.getElem?_eq_some_iff.1 hb).2;have w:=qbQ (i:=i) (by omega)
   have w2:=qbQ (i:=i+1) (by omega)
   have h1:=ih (i+1) (by omega) (by omega)
   rw [qcL hb,qpm];simp only [quoE];by_cases hq:b.toNat=34
   ·rw [if_pos hq];simp [qdt,hlt,hbe,hq,w,qOut]
   ·rw [if_neg hq];have hq':¬ ((b.toNat:Int)=34):=by omega
    by_cases hp:b.toNat=92
    ·rw [if_pos hp,qpH];have e1:qcm [.str s,.int .i64 (iAdd .i64 (iAdd .i64 (i:Int) 1) 1)] ⟨[],[],[]⟩=qOut (i+1) (quoE true (s.drop (i+1))):=by
      rw [w,w2];by_cases hl2:i+1 < s.length
      ·obtain⟨c,hc⟩:=qmy (l:=s) (i:=i+1) hl2;rw [qcL hc];simp only [quoE];rw [qpH];exact ih (i+1+1) (by omega) (by omega)
      ·rw [hend (i+1+1) (by omega),List.drop_eq_nil_of_le (by omega)]
       simp [quoE,qOut]
     rw [← e1];have t1:iLt (i:Int) (sLen s)=true:=by simp;omega
     have t2:qbM s (i:Int)=true:=by simp;omega
     have t3:sAt s (i:Int)=92:=by simp [hbe,hlt,hp]
     simp only [qdt,t1,t2,t3];simp
    ·have hp':¬ ((b.toNat:Int)=92):=by omega
     rw [if_neg hp,qpH,← h1,← w];have t1:iLt (i:Int) (sLen s)=true:=by simp;omega
     have t2:qbM s (i:Int)=true:=by simp;omega
     have t3:sAt s (i:Int)=b.toNat:=by simp [hbe,hlt]
     simp only [qdt,t1,t2,t3];simp [hq',hp']
  ·rw [hend i (by omega),List.drop_eq_nil_of_le (by omega)]
   simp [quoE,qOut]
theorem qnN {c:UInt8} {t:List UInt8} (hs:(c::t).length < 9223372036854775800):qjz (c::t)=some (.int .i64 (if quoL t=0 then 0 else ((quoL t+1:Nat):Int))):=by
 have h:=qrJ (c::t) hs t.length 1 (by simp;omega) (by simp)
 simp only [List.drop_succ_cons,List.drop_zero] at h
 unfold qjz qkY;unfold qOut at h
 rw [show quoE false t=quoL t from rfl] at h
 by_cases h0:quoL t=0
 ·rw [if_pos h0] at h ⊢;have h':qcm [.str (c::t),.int .i64 1] ⟨[],[],[]⟩=some (.exit 0,[],⟨[],[],[]⟩):=h;simp [qe6,qeX,qdN,qfC,h']
 ·rw [if_neg h0] at h ⊢;have h':qcm [.str (c::t),.int .i64 1] ⟨[],[],[]⟩=some (.ret,[.int .i64 ((1+quoL t:Nat):Int)],⟨[],[],[]⟩):=h;simp [qe6,qeX,qdN,qfC,h'];omega
theorem qym:∀ t:qU,(Lib.indexByte t 10=-1∧gapL true t=t.length)∨∃ n:Nat,Lib.indexByte t 10=n∧n < t.length∧gapL true t=n+gapL false (t.drop n)
 |[]=>.inl ⟨rfl,rfl⟩
 |b::u=>by
  by_cases hb:b=10
  ·subst hb;refine .inr ⟨0,rfl,by simp,?_⟩
   simp [gapL,blB]
  ·have hb':(b == 10)=false:=by simpa using hb
   have hbn:b.toNat≠10:=fun h=>hb (UInt8.toNat.inj h)
   have e1:gapL true (b::u)=gapL true u+1:=by simp [gapL,hbn]
   rcases qym u with⟨h1,h2⟩|⟨n,h1,h2,h3⟩
   ·refine .inl ⟨?_,by rw [e1,h2];rfl⟩
    simp [Lib.indexByte,hb',h1]
   ·refine .inr ⟨n+1,?_,by simpa using h2,?_⟩
    ·have:((n:Int) == -1)=false:=by simp
     simp [Lib.indexByte,hb',h1,this]
    ·rw [e1,h3];simp only [List.drop_succ_cons];omega
theorem qzQ {b:UInt8} (h:blB b=true) (t:qU):gapL false (b::t)=gapL false t+1:=by
 have:b.toNat≠37:=by
  intro e;simp [blB,e] at h
 simp [gapL,h,this]
theorem qye (s:qU) (hs:s.length < 9223372036854775800):∀ (m i:Nat),i+m=s.length→∃ e,(e=PExit.ret∨e=.exit 0)∧qis [.str s,.int .i64 (i:Nat)] ⟨[],[],[]⟩=some (e,[.int .i64 ((i+gapL false (s.drop i):Nat):Int)],⟨[],[],[]⟩):=by
 intro m
 induction m using Nat.strongRecOn with
 |_ m ih =>
  intro i hi;by_cases hlt:i < s.length
  ·obtain⟨b,hb⟩:=qmy (l:=s) (i:=i) hlt;have hbe:=(List.getElem?_eq_some_iff.1 hb).2;have w:=qbQ (i:=i) (by omega)
   rw [qcL hb,qzI];by_cases hbl:blB b=true
   ·obtain⟨e,he,hv⟩:=ih (m - 1) (by omega) (i+1) (by omega)
    refine⟨e,he,?_⟩;rw [qzQ hbl];have hv':qis [.str s,.int .i64 (iAdd .i64 (i:Int) 1)] ⟨[],[],[]⟩=some (e,[.int .i64 ((i+(gapL false (s.drop (i+1))+1):Nat):Int)],⟨[],[],[]⟩):=by
     rw [w,hv,show i+1+gapL false (s.drop (i+1))=i+(gapL false (s.drop (i+1))+1) from by omega]
    rw [← hv'];have hbl2:b.toNat=32∨b.toNat=9∨b.toNat=10∨b.toNat=13:=by simpa [blB,or_assoc] using hbl
    rcases hbl2 with h|h|h|h<;>simp [qgq,hlt,hbe,h]
   ·have hbl2:¬ (b.toNat=32∨b.toNat=9∨b.toNat=10∨b.toNat=13):=by simpa [blB,or_assoc] using hbl
    have n1:¬ ((b.toNat:Int)=32):=by omega
    have n2:¬ ((b.toNat:Int)=9):=by omega
    have n3:¬ ((b.toNat:Int)=10):=by omega
    have n4:¬ ((b.toNat:Int)=13):=by omega
    by_cases h37:b.toNat=37
    ·have e1:gapL false (b::s.drop (i+1))=gapL true (s.drop (i+1))+1:=by simp [gapL,h37]
     have e2:sSub s (nNat (i:Int)) (nLen s)=b::s.drop (i+1):=by
      simp only [qxJ,qw8,qyK,Int.toNat_natCast,List.take_length];exact qcL hb
     have hb10:(b == 10)=false:=by
      cases hq:b == 10 with
      |false=>rfl
      |true=>simp at hq;subst hq;simp at h37
     have e3:idxV (b::s.drop (i+1)) 10=if Lib.indexByte (s.drop (i+1)) 10 == -1 then -1 else Lib.indexByte (s.drop (i+1)) 10+1:=by
      show Lib.indexByte (b::s.drop (i+1)) 10=_
      simp only [Lib.indexByte,hb10,Bool.false_eq_true,if_false]
     rw [e1];rcases qym (s.drop (i+1)) with⟨h1,h2⟩|⟨n,h1,h2,h3⟩
     ·refine⟨.ret,.inl rfl,?_⟩;have e4:idxV (b::s.drop (i+1)) 10=-1:=by rw [e3,h1];rfl
      have e5:i+(gapL true (s.drop (i+1))+1)=s.length:=by rw [h2];simp;omega
      rw [e5];have t1:iLt (i:Int) (sLen s)=true:=by simp;omega
      have t2:qbM s (i:Int)=true:=by simp;omega
      have t3:sAt s (i:Int)=37:=by simp [hbe,hlt,h37]
      have t4:qaC (qao (i:Int)) true (nNat (i:Int)) (nLen s) (nLen s)=true:=by simp;omega
      simp only [qgq,e2,e4,t1,t2,t3,t4];simp
     ·have e4:idxV (b::s.drop (i+1)) 10=((n+1:Nat):Int):=by
       rw [e3,h1];have:((n:Int) == -1)=false:=by simp
       rw [this];simp
      have hn:n < s.length - (i+1):=by simpa using h2
      obtain⟨e,he,hv⟩:=ih (m - (n+1)) (by omega) (i+(n+1)) (by omega)
      refine⟨e,he,?_⟩;have w2:iAdd .i64 (i:Int) ((n+1:Nat):Int)=((i+(n+1):Nat):Int):=qdF (by omega)
      have e6:i+(n+1)+gapL false (s.drop (i+(n+1)))=i+(gapL true (s.drop (i+1))+1):=by
       rw [h3,List.drop_drop,show i+1+n=i+(n+1) from by omega]
       omega
      rw [e6] at hv;have hge:¬ ((n+1:Nat):Int) < 0:=by omega
      have t1:iLt (i:Int) (sLen s)=true:=by simp;omega
      have t2:qbM s (i:Int)=true:=by simp;omega
      have t3:sAt s (i:Int)=37:=by simp [hbe,hlt,h37]
      have t5:iLt ((n+1:Nat):Int) 0=false:=by simp;omega
      have t4:qaC (qao (i:Int)) true (nNat (i:Int)) (nLen s) (nLen s)=true:=by simp;omega
      simp only [qgq,e2,e4,w2,t1,t2,t3,t4,t5];simpa using hv
    ·refine⟨.ret,.inl rfl,?_⟩;have n5:¬ ((b.toNat:Int)=37):=by omega
     have e1:gapL false (b::s.drop (i+1))=0:=by
      have:blB b=false:=by simpa using hbl
      simp [gapL,this,h37]
     rw [e1];simp [qgq,hlt,hbe,n1,n2,n3,n4,n5]
  ·refine⟨.exit 0,.inr rfl,?_⟩;rw [qzI,List.drop_eq_nil_of_le (by omega)]
   have:¬ (i:Int) < s.length:=by omega
   simp [qgq,gapL,this]
theorem qvk {s:List UInt8} (hs:s.length < 9223372036854775800):qve s=some (.int .i64 (gapL false s:Nat)):=by
 obtain⟨e,he,h⟩:=qye s hs s.length 0 (by omega)
 simp at h
 unfold qve qtJ;rcases he with rfl|rfl<;>simp [qnP,qnr,qjG,qg3,qn1,h]
theorem qzl {s:List UInt8} (hs:s.length < 9223372036854775800):qd0 s=true:=by simp [qd0,qa0,qvk hs]
theorem qB5 {s:List UInt8} (hs:s.length < 9223372036854775800):qa0 s=(gapL false s:Nat):=by simp [qa0,qvk hs]
theorem qrD {s:List UInt8} (hs:s.length < 9223372036854775807) (k:Int):qfs s k=some (.tup [.agg [.int .i64 k,.str (s.take (runL innB s)),.int .i64 0,.int .i64 0,.str [],.int .i64 0],.bool (decide (runL innB s≤64))]):=by
 unfold qfs qp2;have h:=qnH innB s;have e:iLe (runL innB s:Nat) 64=decide (runL innB s≤64):=by simp;omega
 rw [qFR hs,qDX hs,e];have t:qaC true (qao ((runL innB s:Nat):Int)) 0 (nNat ((runL innB s:Nat):Int)) (nLen s)=true:=by simp;omega
 rw [t];simp
theorem quY {s:List UInt8} (hs:s.length < 9223372036854775807) (k:Int):qdf s k=true:=by simp [qdf,qeI,qey,qc7,qde,qdb,qdh,qen,qrD hs]
def wTup (k:Int) (x:qU) (v:Vl) (p:Int) (b:Bool):PV:=.tup [.agg [.int .i64 k,.str x,.int .i64 v.1,.int .i64 v.2.1,.str v.2.2,.int .i64 p],.bool b]
theorem qyw {s:List UInt8} (hs:s.length < 9223372036854775807) (k:Int):(PV.tup [.agg [.int .i64 (qeI s k),.str (qey s k),.int .i64 (qc7 s k),.int .i64 (qde s k),.str (qdb s k),.int .i64 (qdh s k)],.bool (qen s k)])=wTup k (s.take (runL innB s)) (0,0,[]) 0 (decide (runL innB s≤64)):=by
 simp [wTup,qeI,qey,qc7,qde,qdb,qdh,qen,qrD hs]
theorem qnF {s:List UInt8} (hs:s.length≤140737488355328) (k:Int):qcV s k=some (wTup k s (kRd s,nRd s,sRd s) 0 (decide (eRd s=0))):=by
 unfold qcV qku wTup;simp [hs]
theorem qk0 {s:List UInt8} (hs:s.length≤140737488355328) (k:Int):qan s k=true:=by simp [qan,qaz,qaA,qaq,qat,qau,qar,qay,qnF hs,wTup]
theorem qst {s:List UInt8} (hs:s.length≤140737488355328) (k:Int):(PV.tup [.agg [.int .i64 (qaz s k),.str (qaA s k),.int .i64 (qaq s k),.int .i64 (qat s k),.str (qau s k),.int .i64 (qar s k)],.bool (qay s k)])=wTup k s (kRd s,nRd s,sRd s) 0 (decide (eRd s=0)):=by
 simp [wTup,qaz,qaA,qaq,qat,qau,qar,qay,qnF hs]
theorem qxu (c:UInt8) (t:qU) (a b:UInt8):qdd (c::t) [a,b]=(decide (c=a)&&hdIs (fun d=>decide (d=b)) t):=by
 unfold qdd;cases t with
 |nil=>simp [hdIs]
 |cons d u=>simp [hdIs,Bool.decide_and]
def wst:Store:=⟨[[.int .i64 0,.str [],.int .i64 0,.int .i64 0,.str [],.int .i64 0]],[],[120]⟩
theorem qE6 (c:UInt8) (t:qU):hdIs (twoB c) t=(qdd (c::t) [58,45] || qdd (c::t) [60,61] || qdd (c::t) [62,61] || qdd (c::t) [33,61]):=by
 simp only [qxu];cases t with
 |nil=>simp [hdIs]
 |cons d u =>
  simp only [hdIs,twoB];simp only [← UInt8.toNat_inj];simp [Bool.decide_and]
theorem qh7 {s p:List UInt8} (h:qdd s p=true) (hp:p.length=2):s.take 2=p:=by
 simp [qdd] at h
 rw [← hp];exact h.2
theorem qtq (c:UInt8) (t:qU) (n:Int):qhY [.str (c::t),.ptr 0 0,.int .u8 n,.agg [.str [58,45],.str [60,61],.str [62,61],.str [33,61]],.int .i64 0] wst =
  if hdIs (twoB c) t then some (.ret,[.ptr 0 0,.bool true],⟨[[.int .i64 6,.str ((c::t).take 2),.int .i64 0,.int .i64 0,.str [],.int .i64 0]],[],[120]⟩)
  else some (.exit 1,[.str (c::t),.ptr 0 0,.int .u8 n],wst):=by
 have i1:iAdd .i64 0 1=1:=by decide
 have i2:iAdd .i64 1 1=2:=by decide
 have i3:iAdd .i64 2 1=3:=by decide
 have i4:iAdd .i64 3 1=4:=by decide
 unfold wst;rw [qE6];rw [qjU];cases h1:qdd (c::t) [58,45] with
 |true=>have q:=qh7 h1 rfl;simp [qbT,h1];simpa using q.symm
 |false =>
  have e1:(qbT (c::t) n [58,45] [60,61] [62,61] [33,61] 0 0 [] 0 0 [] 0).run=some (.next [.str (c::t),.ptr 0 0,.int .u8 n,.agg [.str [58,45],.str [60,61],.str [62,61],.str [33,61]],.int .i64 1] ⟨[[.int .i64 0,.str [],.int .i64 0,.int .i64 0,.str [],.int .i64 0]],[],[120]⟩):=by simp [qbT,h1,i1]
  rw [e1,qhK,qjU];cases h2:qdd (c::t) [60,61] with
  |true=>have q:=qh7 h2 rfl;simp [qbT,h2];simpa using q.symm
  |false =>
   have e2:(qbT (c::t) n [58,45] [60,61] [62,61] [33,61] 1 0 [] 0 0 [] 0).run=some (.next [.str (c::t),.ptr 0 0,.int .u8 n,.agg [.str [58,45],.str [60,61],.str [62,61],.str [33,61]],.int .i64 2] ⟨[[.int .i64 0,.str [],.int .i64 0,.int .i64 0,.str [],.int .i64 0]],[],[120]⟩):=by simp [qbT,h2,i2]
   rw [e2,qhK,qjU];cases h3:qdd (c::t) [62,61] with
   |true=>have q:=qh7 h3 rfl;simp [qbT,h3];simpa using q.symm
   |false =>
    have e3:(qbT (c::t) n [58,45] [60,61] [62,61] [33,61] 2 0 [] 0 0 [] 0).run=some (.next [.str (c::t),.ptr 0 0,.int .u8 n,.agg [.str [58,45],.str [60,61],.str [62,61],.str [33,61]],.int .i64 3] ⟨[[.int .i64 0,.str [],.int .i64 0,.int .i64 0,.str [],.int .i64 0]],[],[120]⟩):=by simp [qbT,h3,i3]
    rw [e3,qhK,qjU];cases h4:qdd (c::t) [33,61] with
    |true=>have q:=qh7 h4 rfl;simp [qbT,h4];simpa using q.symm
    |false =>
     have e4:(qbT (c::t) n [58,45] [60,61] [62,61] [33,61] 3 0 [] 0 0 [] 0).run=some (.next [.str (c::t),.ptr 0 0,.int .u8 n,.agg [.str [58,45],.str [60,61],.str [62,61],.str [33,61]],.int .i64 4] ⟨[[.int .i64 0,.str [],.int .i64 0,.int .i64 0,.str [],.int .i64 0]],[],[120]⟩):=by simp [qbT,h4,i4]
     rw [e4,qhK,qjU];simp [qbT]
theorem qxz (c:UInt8):∀ l:qU,0≤Lib.indexByte l c↔c∈l
 |[]=>by simp [Lib.indexByte]
 |b::l=>by
  have h1:=qxz c l;have h2:=Lib.indexByte_ge l c;unfold Lib.indexByte;by_cases hb:b=c
  ·subst hb;simp
  ·have hb':(b == c)=false:=by simpa using hb
   have hc:¬ c=b:=fun e=>hb e.symm
   rw [hb'];by_cases h3:Lib.indexByte l c=-1
   ·have:¬ c∈l:=fun hm=>by have:=h1.2 hm;omega
    simp [h3,hc,this]
   ·have:c∈l:=h1.1 (by omega)
    simp [h3,this];omega
theorem qA2 (c:UInt8):iLe 0 (idxV [40,41,44,46,43,45,61,58,60,62] (c.toNat:Int))=qkv c:=by
 have e:idxV [40,41,44,46,43,45,61,58,60,62] (c.toNat:Int)=Lib.indexByte [40,41,44,46,43,45,61,58,60,62] c:=by
  unfold idxV
  congr 1
  simp
 rw [qzF];have h:=qxz c [40,41,44,46,43,45,61,58,60,62];have h':decide (0≤Lib.indexByte [40,41,44,46,43,45,61,58,60,62] c)=decide (c∈[40,41,44,46,43,45,61,58,60,62]):=decide_eq_decide.2 h;rw [e,h'];simp only [List.mem_cons,List.not_mem_nil,or_false,← UInt8.toNat_inj,qkv,List.contains,List.elem_eq_mem];simp
theorem qs2 {c:UInt8} {t:List UInt8} (hs:(c::t).length≤140737488355328) (h:qfK c=true):qbJ (c::t)=some (wTup 1 ((c::t).take (runL innB (c::t))) (0,0,[]) 0 (decide (runL innB (c::t)≤64))):=by
 have hs':(c::t).length < 9223372036854775807:=by omega
 have h1:97≤c.toNat∧c.toNat≤122:=by simpa [qfK] using h
 have g1:(97:Int)≤c.toNat:=by omega
 have g2:(c.toNat:Int)≤122:=by omega
 rw [← qyw hs'];unfold qbJ qdW;cases t<;>simp [g1,g2,quY hs']
theorem qtg {c:UInt8} {t:List UInt8} (hs:(c::t).length≤140737488355328) (h:qg9 c=true):qbJ (c::t)=some (wTup 2 ((c::t).take (runL innB (c::t))) (0,0,[]) 0 (decide (runL innB (c::t)≤64))):=by
 have hs':(c::t).length < 9223372036854775807:=by omega
 have h1:65≤c.toNat∧c.toNat≤90:=by simpa [qg9] using h
 have g1:¬ (97:Int)≤c.toNat:=by omega
 have g2:(65:Int)≤c.toNat:=by omega
 have g3:(c.toNat:Int)≤90:=by omega
 rw [← qyw hs'];unfold qbJ qdW;cases t<;>simp [g1,g2,g3,quY hs']
theorem qyI {c:UInt8} {t:List UInt8} (hs:(c::t).length≤140737488355328) (h:c.toNat=95):qbJ (c::t)=some (wTup 3 [95] (0,0,[]) 0 (!hdIs innB t)):=by
 unfold qbJ qdW;cases t with
 |nil =>
  have e:inI 0=false:=by decide
  simp [h,hdIs,wTup,e]
 |cons d u =>
  have g:iLt 1 (sLen (c::d::u))=true:=by simp;omega
  rw [g];simp [h,hdIs,qq5,wTup]
def dgW (s:qU):PV:=wTup 4 (s.take (runL qaH (s.drop 1)+1)) (kRd (s.take (runL qaH (s.drop 1)+1)),nRd (s.take (runL qaH (s.drop 1)+1)),sRd (s.take (runL qaH (s.drop 1)+1))) 0 (decide (eRd (s.take (runL qaH (s.drop 1)+1))=0))
theorem qyV {c : UInt8} {t : List UInt8} (hs : (c :: t).length ≤ 140737488355328) : (Tr.ite (qaC (qao 1) true (nNat 1) (nLen (c :: t)) (nLen (c :: t)))
          (Tr.ite (qbr (sSub (c :: t) (nNat 1) (nLen (c :: t))))
            (Tr.ite (qaC true (qao (iAdd .i64 1 (qac (sSub (c :: t) (nNat 1) (nLen (c :: t)))))) 0 (nNat (iAdd .i64 1 (qac (sSub (c :: t) (nNat 1) (nLen (c :: t)))))) (nLen (c :: t)))
              (Tr.ite (qan (sSub (c :: t) 0 (nNat (iAdd .i64 1 (qac (sSub (c :: t) (nNat 1) (nLen (c :: t))))))) 4)
                (Tr.ret (PV.tup [PV.agg [PV.int .i64 (qaz (sSub (c :: t) 0 (nNat (iAdd .i64 1 (qac (sSub (c :: t) (nNat 1) (nLen (c :: t))))))) 4), PV.str (qaA (sSub (c :: t) 0 (nNat (iAdd .i64 1 (qac (sSub (c :: t) (nNat 1) (nLen (c :: t))))))) 4), PV.int .i64 (qaq (sSub (c :: t) 0 (nNat (iAdd .i64 1 (qac (sSub (c :: t) (nNat 1) (nLen (c :: t))))))) 4), PV.int .i64 (qat (sSub (c :: t) 0 (nNat (iAdd .i64 1 (qac (sSub (c :: t) (nNat 1) (nLen (c :: t))))))) 4), PV.str (qau (sSub (c :: t) 0 (nNat (iAdd .i64 1 (qac (sSub (c :: t) (nNat 1) (nLen (c :: t))))))) 4), PV.int .i64 (qar (sSub (c :: t) 0 (nNat (iAdd .i64 1 (qac (sSub (c :: t) (nNat 1) (nLen (c :: t))))))) 4)], PV.bool (qay (sSub (c :: t) 0 (nNat (iAdd .i64 1 (qac (sSub (c :: t) (nNat 1) (nLen (c :: t))))))) 4)]))
                Tr.fail) Tr.fail) Tr.fail) Tr.fail).run = some (dgW (c :: t)) := by
  have e0 : sSub (c :: t) (nNat 1) (nLen (c :: t)) = t := by simp
  have hl : t.length + 1 ≤ 140737488355328 := by simpa using hs
  have hr := qnH qaH t
  rw [e0, qAy (by omega), qCF (by omega)]
  have e1 : iAdd .i64 1 ((runL qaH t : Nat) : Int) = ((runL qaH t + 1 : Nat) : Int) := by
    have : iAdd .i64 1 ((runL qaH t : Nat) : Int) = (1 : Int) + (runL qaH t : Nat) := qdF (by omega)
    rw [this]; omega
  rw [e1]
  have e2 : sSub (c :: t) 0 (nNat ((runL qaH t + 1 : Nat) : Int)) = (c :: t).take (runL qaH t + 1) := by simp [-List.take_succ_cons]
  rw [e2]
  have hl2 : ((c :: t).take (runL qaH t + 1)).length ≤ 140737488355328 := by rw [List.length_take]; omega
  have t1 : qaC (qao 1) true (nNat 1) (nLen (c :: t)) (nLen (c :: t)) = true := by simp
  have t2 : qaC true (qao ((runL qaH t + 1 : Nat) : Int)) 0 (nNat ((runL qaH t + 1 : Nat) : Int)) (nLen (c :: t)) = true := by simp; omega
  rw [t1, t2, qk0 hl2, qst hl2]
  rfl
theorem qBE {c:UInt8} {t:List UInt8} (hs:(c::t).length≤140737488355328) (h:qaH c=true):qbJ (c::t)=some (dgW (c::t)):=by
 have h1:48≤c.toNat∧c.toNat≤57:=by simpa [qaH] using h
 have f0:qbM (c::t) 0=true:=by simp
 have f1:iLe 97 (sAt (c::t) 0)=false:=by simp;omega
 have f3:iLe 65 (sAt (c::t) 0)=false:=by simp;omega
 have f5:iEq (sAt (c::t) 0) 95=false:=by simp;omega
 have f6:qa1 (sAt (c::t) 0)=true:=by simp [qgz,h]
 rw [← qyV hs];unfold qbJ qdW;cases t with
 |nil =>
  have g:iLt 1 (sLen [c])=false:=by simp
  rw [f0,g,f1,f3,f5,f6,qdc];rfl
 |cons d u =>
  have g:iLt 1 (sLen (c::d::u))=true:=by simp;omega
  have g2:qbM (c::d::u) 1=true:=by simp
  rw [f0,g,g2,f1,f3,f5,f6,qdc];rfl
theorem qyb {c d:UInt8} {u:List UInt8} (hs:(c::d::u).length≤140737488355328) (h:c.toNat=45) (hd:qaH d=true):qbJ (c::d::u)=some (dgW (c::d::u)):=by
 have f0:qbM (c::d::u) 0=true:=by simp
 have f1:iLe 97 (sAt (c::d::u) 0)=false:=by simp;omega
 have f3:iLe 65 (sAt (c::d::u) 0)=false:=by simp;omega
 have f5:iEq (sAt (c::d::u) 0) 95=false:=by simp;omega
 have f6:qa1 (sAt (c::d::u) 0)=false:=by simp [dgI,h]
 have f7:iEq (sAt (c::d::u) 0) 45=true:=by simp;omega
 have f8:qa1 (sAt (c::d::u) 1)=true:=by simp [qgz,hd]
 rw [← qyV hs];unfold qbJ qdW;have g:iLt 1 (sLen (c::d::u))=true:=by simp;omega
 have g2:qbM (c::d::u) 1=true:=by simp
 rw [f0,g,g2,f1,f3,f5,f6,f7,f8,qdc,qdc];rfl
def symN (t:qU):Nat:=if quoL t=0 then 0 else quoL t+1
def syW (s:qU) (n:Nat):PV:=wTup 5 (s.take n) (kRd (s.take n),nRd (s.take n),sRd (s.take n)) 0 (decide (eRd (s.take n)=0))
theorem qw5 {c:UInt8} {t:List UInt8} (hs:(c::t).length≤140737488355328) (h:c.toNat=34):qbJ (c::t)=some (syW (c::t) (symN t)):=by
 have hq:qab (c::t)=((symN t:Nat):Int):=by
  simp only [qab,qnN (c:=c) (t:=t) (by omega),qz0,qAB,symN]
  split<;>simp
 have hqi:qa9 (c::t)=true:=by
  simp only [qa9,qBs,qnN (c:=c) (t:=t) (by omega),hq,symN]
  split<;>simp
 have hle:symN t≤(c::t).length:=by
  have:=qyB t;unfold symN;split<;>simp<;>omega
 have hl2:((c::t).take (symN t)).length≤140737488355328:=by rw [List.length_take];omega
 have f0:qbM (c::t) 0=true:=by simp
 have f1:iLe 97 (sAt (c::t) 0)=false:=by simp;omega
 have f3:iLe 65 (sAt (c::t) 0)=false:=by simp;omega
 have f5:iEq (sAt (c::t) 0) 95=false:=by simp;omega
 have f6:qa1 (sAt (c::t) 0)=false:=by simp [dgI,h]
 have f7:iEq (sAt (c::t) 0) 45=false:=by simp;omega
 have f9:iEq (sAt (c::t) 0) 34=true:=by simp;omega
 have e2:sSub (c::t) 0 (nNat ((symN t:Nat):Int))=(c::t).take (symN t):=by simp
 have t2:qaC true (qao ((symN t:Nat):Int)) 0 (nNat ((symN t:Nat):Int)) (nLen (c::t))=true:=by simp at hle ⊢;omega
 have leaf:(PV.tup [PV.agg [PV.int .i64 (qaz ((c::t).take (symN t)) 5),PV.str (qaA ((c::t).take (symN t)) 5),PV.int .i64 (qaq ((c::t).take (symN t)) 5),PV.int .i64 (qat ((c::t).take (symN t)) 5),PV.str (qau ((c::t).take (symN t)) 5),PV.int .i64 (qar ((c::t).take (symN t)) 5)],PV.bool (qay ((c::t).take (symN t)) 5)])=syW (c::t) (symN t):=by rw [qst hl2];rfl
 rw [← leaf];unfold qbJ qdW;cases t with
 |nil =>
  have g:iLt 1 (sLen [c])=false:=by simp
  rw [f0,g,f1,f3,f5,f6,f7,f9,qdc,hqi,hq,t2,e2,qk0 hl2];rfl
 |cons d u =>
  have g:iLt 1 (sLen (c::d::u))=true:=by simp;omega
  have g2:qbM (c::d::u) 1=true:=by simp
  rw [f0,g,g2,f1,f3,f5,f6,f7,f9,qdc,hqi,hq,t2,e2,qk0 hl2];rfl
def mkW (c:UInt8) (t:qU):PV:=if hdIs (twoB c) t then wTup 6 ((c::t).take 2) (0,0,[]) 0 true else wTup 6 [c] (0,0,[]) 0 (qkv c)
def mkT (v:qU):Tr PV:=(Tr.ite (qa4 v (sAt v 0) [58,45] [60,61] [62,61] [33,61] 0 0 [] 0 0 [] 0)
 (Tr.ret (PV.tup [PV.agg [PV.int .i64 (qbc v (sAt v 0) [58,45] [60,61] [62,61] [33,61] 0 0 [] 0 0 [] 0),PV.str (qbb v (sAt v 0) [58,45] [60,61] [62,61] [33,61] 0 0 [] 0 0 [] 0),PV.int .i64 (qaV v (sAt v 0) [58,45] [60,61] [62,61] [33,61] 0 0 [] 0 0 [] 0),PV.int .i64 (qaT v (sAt v 0) [58,45] [60,61] [62,61] [33,61] 0 0 [] 0 0 [] 0),PV.str (qaW v (sAt v 0) [58,45] [60,61] [62,61] [33,61] 0 0 [] 0 0 [] 0),PV.int .i64 (qaU v (sAt v 0) [58,45] [60,61] [62,61] [33,61] 0 0 [] 0 0 [] 0)],PV.bool (qbd v (sAt v 0) [58,45] [60,61] [62,61] [33,61] 0 0 [] 0 0 [] 0)]))
 (Tr.ite (qbh v (sAt v 0) [58,45] [60,61] [62,61] [33,61] 0 0 [] 0 0 [] 0)
  (Tr.ite (qaC true (qao 1) 0 (nNat 1) (nLen (qas v (sAt v 0) [58,45] [60,61] [62,61] [33,61] 0 0 [] 0 0 [] 0)))
   (Tr.ret (PV.tup [PV.agg [PV.int .i64 6,PV.str (sSub (qas v (sAt v 0) [58,45] [60,61] [62,61] [33,61] 0 0 [] 0 0 [] 0) 0 (nNat 1)),PV.int .i64 0,PV.int .i64 0,PV.str [],PV.int .i64 0],PV.bool (iLe 0 (idxV [40,41,44,46,43,45,61,58,60,62] (qa7 v (sAt v 0) [58,45] [60,61] [62,61] [33,61] 0 0 [] 0 0 [] 0)))]))
   Tr.fail)
  Tr.fail))
theorem qEl (c:UInt8) (t:qU):(mkT (c::t)).run=some (mkW c t):=by
 have hL:=qtq c t (sAt (c::t) 0);unfold wst at hL;have e2:sSub (c::t) 0 (nNat 1)=[c]:=by simp
 have t2:qaC true (qao 1) 0 (nNat 1) (nLen (c::t))=true:=by simp
 have e3:sAt (c::t) 0=(c.toNat:Int):=by simp
 have ho:=qA2 c;unfold mkT mkW;cases h:hdIs (twoB c) t with
 |true =>
  rw [h] at hL;simp only [if_true] at hL ⊢;have a1:qa4 (c::t) (sAt (c::t) 0) [58,45] [60,61] [62,61] [33,61] 0 0 [] 0 0 [] 0=true:=by
   simp only [qa4,qbc,qbb,qaV,qaT,qaW,qaU,qbd,qbs,hL];simp
  rw [a1];simp only [qbc,qbb,qaV,qaT,qaW,qaU,qbd,qbs,hL];simp [wTup]
 |false =>
  rw [h] at hL;simp only [Bool.false_eq_true,if_false] at hL ⊢;have a0:qa4 (c::t) (sAt (c::t) 0) [58,45] [60,61] [62,61] [33,61] 0 0 [] 0 0 [] 0=false:=by
   cases hq:qa4 (c::t) (sAt (c::t) 0) [58,45] [60,61] [62,61] [33,61] 0 0 [] 0 0 [] 0 with
   |false=>rfl
   |true =>
    simp only [qa4,qbs,hL] at hq;simp at hq
  have a1:qbh (c::t) (sAt (c::t) 0) [58,45] [60,61] [62,61] [33,61] 0 0 [] 0 0 [] 0=true:=by
   simp only [qbh,qas,qa7,qiL,qiC,qiF,qiE,qiY,qi5,qbs,hL];simp
  have a2:qas (c::t) (sAt (c::t) 0) [58,45] [60,61] [62,61] [33,61] 0 0 [] 0 0 [] 0=c::t:=by
   simp only [qas,qbs,hL];simp
  have a3:qa7 (c::t) (sAt (c::t) 0) [58,45] [60,61] [62,61] [33,61] 0 0 [] 0 0 [] 0=(c.toNat:Int):=by
   simp only [qa7,qbs,hL];simp
  rw [a0,a1,a2,a3,t2,e2,ho];rfl
theorem qwT {c:UInt8} {t:List UInt8} (hs:(c::t).length≤140737488355328) (h1:qfK c=false) (h2:qg9 c=false) (h3:c.toNat≠95) (h4:qaH c=false) (h5:c.toNat=45→hdIs qaH t=false) (h6:c.toNat≠34):qbJ (c::t)=some (mkW c t):=by
 have f0:qbM (c::t) 0=true:=by simp
 have f5:iEq (sAt (c::t) 0) 95=false:=by simp;omega
 have f6:qa1 (sAt (c::t) 0)=false:=by simp [qgz,h4]
 have f9:iEq (sAt (c::t) 0) 34=false:=by simp;omega
 have g1:¬ (97≤c.toNat∧c.toNat≤122):=by simpa [qfK] using h1
 have g2:¬ (65≤c.toNat∧c.toNat≤90):=by simpa [qg9] using h2
 rw [← qEl];unfold qbJ qdW;have f8:c.toNat=45→qa1 (if iLt 1 (sLen (c::t))=true then sAt (c::t) 1 else 0)=false:=fun h=>by
  have:=h5 h;cases t with
  |nil=>simp [dgI]
  |cons d u =>
   have g:iLt 1 (sLen (c::d::u))=true:=by simp;omega
   rw [if_pos g];simpa [qgz,hdIs] using this
 have e97:iLe 97 (sAt (c::t) 0)=decide (97≤c.toNat):=by simp;omega
 have e122:iLe (sAt (c::t) 0) 122=decide (c.toNat≤122):=by simp;omega
 have e65:iLe 65 (sAt (c::t) 0)=decide (65≤c.toNat):=by simp;omega
 have e90:iLe (sAt (c::t) 0) 90=decide (c.toNat≤90):=by simp;omega
 have e45:iEq (sAt (c::t) 0) 45=decide (c.toNat=45):=by simp;omega
 rw [f0,e97,e122,e65,e90,e45,f5,f6,f9,qdc];have key:∀ b:Bool,iLt 1 (sLen (c::t))=b→(b=true→qbM (c::t) 1=true)→True:=fun _ _ _=>trivial
 by_cases k1:97≤c.toNat
 ·have k2:¬ c.toNat≤122:=fun h=>g1 ⟨k1,h⟩
  have k3:65≤c.toNat:=by omega
  have k4:¬ c.toNat≤90:=by omega
  have k5:¬ c.toNat=45:=by omega
  rw [decide_eq_true k1,decide_eq_false k2,decide_eq_true k3,decide_eq_false k4,decide_eq_false k5];cases t with
  |nil =>
   have g:iLt 1 (sLen [c])=false:=by simp
   rw [g];rfl
  |cons d u =>
   have g:iLt 1 (sLen (c::d::u))=true:=by simp;omega
   have g2:qbM (c::d::u) 1=true:=by simp
   rw [g,g2];rfl
 ·by_cases k3:65≤c.toNat
  ·have k4:¬ c.toNat≤90:=fun h=>g2 ⟨k3,h⟩
   have k5:¬ c.toNat=45:=by omega
   rw [decide_eq_false k1,decide_eq_true k3,decide_eq_false k4,decide_eq_false k5];cases t with
   |nil =>
    have g:iLt 1 (sLen [c])=false:=by simp
    rw [g];rfl
   |cons d u =>
    have g:iLt 1 (sLen (c::d::u))=true:=by simp;omega
    have g2:qbM (c::d::u) 1=true:=by simp
    rw [g,g2];rfl
  ·by_cases k5:c.toNat=45
   ·rw [decide_eq_false k1,decide_eq_false k3,decide_eq_true k5];cases t with
    |nil =>
     have g:iLt 1 (sLen [c])=false:=by simp
     have f8':qa1 0=false:=by simp [dgI]
     rw [g,f8',qdc 0];rfl
    |cons d u =>
     have g:iLt 1 (sLen (c::d::u))=true:=by simp;omega
     have g2:qbM (c::d::u) 1=true:=by simp
     have f8':=f8 k5;rw [if_pos g] at f8';rw [g,g2,f8',qdc (sAt (c::d::u) 1)];rfl
   ·rw [decide_eq_false k1,decide_eq_false k3,decide_eq_false k5];cases t with
    |nil =>
     have g:iLt 1 (sLen [c])=false:=by simp
     rw [g];rfl
    |cons d u =>
     have g:iLt 1 (sLen (c::d::u))=true:=by simp;omega
     have g2:qbM (c::d::u) 1=true:=by simp
     rw [g,g2];rfl
end Go.Pv
set_option maxHeartbeats 4000000
set_option maxRecDepth 200000
set_option linter.unusedSimpArgs false
set_option linter.unusedVariables false
namespace Go.Pv
open Go Go.Proofs
end Go.Pv
set_option maxHeartbeats 8000000
set_option maxRecDepth 200000
set_option linter.unusedSimpArgs false
set_option linter.unusedVariables false
namespace Go.Pv
open Go Go.Proofs Go.RowKit
end Go.Pv
set_option maxHeartbeats 4000000
set_option maxRecDepth 200000
set_option linter.unusedSimpArgs false
set_option linter.unusedVariables false
namespace Go.Pv
open Go Go.Proofs Go.RowKit
def qhH:Code:=rngC Tryz.f80 500007
def qpE:RI:=⟨24,[2,3,4,5,12],[2,3,4,5],[.ptr 0 0,.ptr 1 0,.ptr 2 0,.ptr 3 0],[13,14],1⟩
def qov:Nat→List PV→Store→Tr (PV×Store):=rtree tbT (ofL []) (fun _ _ _=>.fail) qpE (rngX qhH) (rngY qhH)
end Go.Pv
set_option maxHeartbeats 4000000
set_option maxRecDepth 200000
set_option linter.unusedSimpArgs false
set_option linter.unusedVariables false
namespace Go.Pv
open Go Go.Proofs
def qwU:GamT:=ofL [(140,.pure qxw),(141,.pure qua),(qdU,.yld 1 qov)]
theorem qxp (gl:Gl) (hg:GlLex gl) (hy:qlt Tryz.prog gl qdU (.yld 1 fun t a σ=>(qov t a σ).run)):qa3 Tryz.prog gl (gam qwU):=(qad (qAX gl) (qad (qyG gl hg) (qb6 (K:=.yld 1 qov) hy qag)))
def qss:Code:=qgr Tryz.f139 1
def qsG:LI:=⟨41,[0,1,3],fun e=>match e with|.ret=>[]|.exit 0=>[]|_=>[],true⟩
def qp8:LpsT:=fun r fr σ=>.fail
def qeA (vs:List PV) (σ:Store):Option (PExit×List PV×Store):=lval (lstep tbT qwU qp8 qss qsG) vs σ
def qmX (at_:Int) (r:qR) (n:Int) (n2:Int) (r2:qR) (s:qU):Tr LR:=.ite (iLt at_ (sLen s)) (.ite (qaC (qao at_) true (nNat at_) (nLen s) (nLen s)) (.ite (qhj (sSub s (nNat at_) (nLen s))) (.ite (nEq 0 0) (.ite (bNot (qeh (sSub s (nNat at_) (nLen s)))) (.ite true (.ret (.out .ret [] (Store.mk [[.sl (qap 5 (qap 6 [])) .full],[.int .i64 at_],[.int .i64 120],[.sl (qap 5 (qap 6 r2)) .full],[.str s]] [(2,0,1)] [75,3,38,75,9]))) (.ite (bNot (qeh (sSub s (nNat at_) (nLen s)))) (.ret (.out .ret [] (Store.mk [[.sl (qap 5 (qap 6 [])) .full],[.int .i64 at_],[.int .i64 120],[.sl (qap 5 (qap 6 r2)) .full],[.str s]] [(2,0,1)] [75,3,38,75,9]))) (.ite (qaC (qao (iAdd .i64 at_ (sLen (qa2 (sSub s (nNat at_) (nLen s)))))) true (nNat (iAdd .i64 at_ (sLen (qa2 (sSub s (nNat at_) (nLen s)))))) (nLen s) (nLen s)) (.ite (qd0 (sSub s (nNat (iAdd .i64 at_ (sLen (qa2 (sSub s (nNat at_) (nLen s)))))) (nLen s))) (.ret (.next [.yld 0,.ptr 4 0,.int .i64 (iAdd .i64 (iAdd .i64 at_ (sLen (qa2 (sSub s (nNat at_) (nLen s))))) (qa0 (sSub s (nNat (iAdd .i64 at_ (sLen (qa2 (sSub s (nNat at_) (nLen s)))))) (nLen s))))] (Store.mk [[.sl (qap 5 (qap 6 [])) .full],[.int .i64 at_],[.int .i64 120],[.sl (qap 5 (qap 6 r2)) .full],[.str s]] [(2,0,1)] [75,3,38,75,9]))) .fail) .fail))) (.ite (qbm r2 [[.int .i64 (qb1 (sSub s (nNat at_) (nLen s))),.str (qa2 (sSub s (nNat at_) (nLen s))),.int .i64 (qbC (sSub s (nNat at_) (nLen s))),.int .i64 (qbA (sSub s (nNat at_) (nLen s))),.str (qbB (sSub s (nNat at_) (nLen s))),.int .i64 at_]] 64) (.ite (qbf [[.int .i64 (qb1 (sSub s (nNat at_) (nLen s))),.str (qa2 (sSub s (nNat at_) (nLen s))),.int .i64 (qbC (sSub s (nNat at_) (nLen s))),.int .i64 (qbA (sSub s (nNat at_) (nLen s))),.str (qbB (sSub s (nNat at_) (nLen s))),.int .i64 at_]] 6) (.ite (qaD r2 6)
 (.ite false (.ret (.out .ret [] (Store.mk [[.sl (qap 5 (qap 6 r)) .full],[.int .i64 n],[.int .i64 n2],[.sl (qap 5 (qap 6 (xApp r2 [[.int .i64 (qb1 (sSub s (nNat at_) (nLen s))),.str (qa2 (sSub s (nNat at_) (nLen s))),.int .i64 (qbC (sSub s (nNat at_) (nLen s))),.int .i64 (qbA (sSub s (nNat at_) (nLen s))),.str (qbB (sSub s (nNat at_) (nLen s))),.int .i64 at_]]))) (.tok 1)],[.str s]] [(0,0,1),(nXs (xApp r2 [[.int .i64 (qb1 (sSub s (nNat at_) (nLen s))),.str (qa2 (sSub s (nNat at_) (nLen s))),.int .i64 (qbC (sSub s (nNat at_) (nLen s))),.int .i64 (qbA (sSub s (nNat at_) (nLen s))),.str (qbB (sSub s (nNat at_) (nLen s))),.int .i64 at_]]),6,120)] [75,3,38,75,9]))) (.ite (bNot (qeh (sSub s (nNat at_) (nLen s)))) (.ret (.out .ret [] (Store.mk [[.sl (qap 5 (qap 6 r)) .full],[.int .i64 n],[.int .i64 n2],[.sl (qap 5 (qap 6 (xApp r2 [[.int .i64 (qb1 (sSub s (nNat at_) (nLen s))),.str (qa2 (sSub s (nNat at_) (nLen s))),.int .i64 (qbC (sSub s (nNat at_) (nLen s))),.int .i64 (qbA (sSub s (nNat at_) (nLen s))),.str (qbB (sSub s (nNat at_) (nLen s))),.int .i64 at_]]))) (.tok 1)],[.str s]] [(0,0,1),(nXs (xApp r2 [[.int .i64 (qb1 (sSub s (nNat at_) (nLen s))),.str (qa2 (sSub s (nNat at_) (nLen s))),.int .i64 (qbC (sSub s (nNat at_) (nLen s))),.int .i64 (qbA (sSub s (nNat at_) (nLen s))),.str (qbB (sSub s (nNat at_) (nLen s))),.int .i64 at_]]),6,120)] [75,3,38,75,9]))) (.ite (qaC (qao (iAdd .i64 at_ (sLen (qa2 (sSub s (nNat at_) (nLen s)))))) true (nNat (iAdd .i64 at_ (sLen (qa2 (sSub s (nNat at_) (nLen s)))))) (nLen s) (nLen s)) (.ite (qd0 (sSub s (nNat (iAdd .i64 at_ (sLen (qa2 (sSub s (nNat at_) (nLen s)))))) (nLen s))) (.ret (.next [.yld 0,.ptr 4 0,.int .i64 (iAdd .i64 (iAdd .i64 at_ (sLen (qa2 (sSub s (nNat at_) (nLen s)))))
 (qa0 (sSub s (nNat (iAdd .i64 at_ (sLen (qa2 (sSub s (nNat at_) (nLen s)))))) (nLen s))))] (Store.mk [[.sl (qap 5 (qap 6 r)) .full],[.int .i64 n],[.int .i64 n2],[.sl (qap 5 (qap 6 (xApp r2 [[.int .i64 (qb1 (sSub s (nNat at_) (nLen s))),.str (qa2 (sSub s (nNat at_) (nLen s))),.int .i64 (qbC (sSub s (nNat at_) (nLen s))),.int .i64 (qbA (sSub s (nNat at_) (nLen s))),.str (qbB (sSub s (nNat at_) (nLen s))),.int .i64 at_]]))) (.tok 1)],[.str s]] [(0,0,1),(nXs (xApp r2 [[.int .i64 (qb1 (sSub s (nNat at_) (nLen s))),.str (qa2 (sSub s (nNat at_) (nLen s))),.int .i64 (qbC (sSub s (nNat at_) (nLen s))),.int .i64 (qbA (sSub s (nNat at_) (nLen s))),.str (qbB (sSub s (nNat at_) (nLen s))),.int .i64 at_]]),6,120)] [75,3,38,75,9]))) .fail) .fail))) .fail) .fail) .fail)) .fail) .fail) .fail) (.ret (.out (.exit 0) [] (Store.mk [[.sl r .full],[.int .i64 n],[.int .i64 n2],[.sl r2 .full],[.str s]] [(0,0,1)] [75,3,38,75,9])))
theorem qEH (at_:Int) (r:qR) (n:Int) (n2:Int) (r2:qR) (s:qU):lstep tbT qwU qp8 qss qsG [.yld 0,.ptr 4 0,.int .i64 at_] ⟨[[.sl r .full],[.int .i64 n],[.int .i64 n2],[.sl r2 .full],[.str s]],[(0,0,1)],[75,3,38,75,9]⟩=qmX at_ r n n2 r2 s:=by kernel_rfl
theorem qAa (at_:Int) (r:qR) (n:Int) (n2:Int) (r2:qR) (s:qU):qeA [.yld 0,.ptr 4 0,.int .i64 at_] ⟨[[.sl r .full],[.int .i64 n],[.int .i64 n2],[.sl r2 .full],[.str s]],[(0,0,1)],[75,3,38,75,9]⟩=lnext qeA (qmX at_ r n n2 r2 s).run:=by unfold qeA;rw [qb0,qEH]
def qj5 (at_:Int) (r:qR) (n:Int) (n2:Int) (r2:qR) (s:qU) (k:Nat):Tr LR:=.ite (iLt at_ (sLen s)) (.ite (qaC (qao at_) true (nNat at_) (nLen s) (nLen s)) (.ite (qhj (sSub s (nNat at_) (nLen s))) (.ite (nEq 0 0) (.ite (bNot (qeh (sSub s (nNat at_) (nLen s)))) (.ite true (.ret (.out .ret [] (Store.mk [[.sl (qap 5 (qap 6 [])) .full],[.int .i64 at_],[.int .i64 120],[.sl (qap 5 (qap 6 r2)) (.tok 1)],[.str s]] [(2,0,1),(k,6,120)] [75,3,38,75,9]))) (.ite (bNot (qeh (sSub s (nNat at_) (nLen s)))) (.ret (.out .ret [] (Store.mk [[.sl (qap 5 (qap 6 [])) .full],[.int .i64 at_],[.int .i64 120],[.sl (qap 5 (qap 6 r2)) (.tok 1)],[.str s]] [(2,0,1),(k,6,120)] [75,3,38,75,9]))) (.ite (qaC (qao (iAdd .i64 at_ (sLen (qa2 (sSub s (nNat at_) (nLen s)))))) true (nNat (iAdd .i64 at_ (sLen (qa2 (sSub s (nNat at_) (nLen s)))))) (nLen s) (nLen s)) (.ite (qd0 (sSub s (nNat (iAdd .i64 at_ (sLen (qa2 (sSub s (nNat at_) (nLen s)))))) (nLen s))) (.ret (.next [.yld 0,.ptr 4 0,.int .i64 (iAdd .i64 (iAdd .i64 at_ (sLen (qa2 (sSub s (nNat at_) (nLen s))))) (qa0 (sSub s (nNat (iAdd .i64 at_ (sLen (qa2 (sSub s (nNat at_) (nLen s)))))) (nLen s))))] (Store.mk [[.sl (qap 5 (qap 6 [])) .full],[.int .i64 at_],[.int .i64 120],[.sl (qap 5 (qap 6 r2)) (.tok 1)],[.str s]] [(2,0,1),(k,6,120)] [75,3,38,75,9]))) .fail) .fail))) (.ite (qbm r2 [[.int .i64 (qb1 (sSub s (nNat at_) (nLen s))),.str (qa2 (sSub s (nNat at_) (nLen s))),.int .i64 (qbC (sSub s (nNat at_) (nLen s))),.int .i64 (qbA (sSub s (nNat at_) (nLen s))),.str (qbB (sSub s (nNat at_) (nLen s))),.int .i64 at_]] 64) (.ite (qbf [[.int .i64 (qb1 (sSub s (nNat at_) (nLen s))),.str (qa2 (sSub s (nNat at_) (nLen s))),.int .i64 (qbC (sSub s (nNat at_) (nLen s))),.int .i64 (qbA (sSub s (nNat at_) (nLen s))),
 .str (qbB (sSub s (nNat at_) (nLen s))),.int .i64 at_]] 6) (.ite (qaD r2 6) (.ite (nEq k (nXs r2)) (.ite false (.ret (.out .ret [] (Store.mk [[.sl (qap 5 (qap 6 r)) .full],[.int .i64 n],[.int .i64 n2],[.sl (qap 5 (qap 6 (xApp r2 [[.int .i64 (qb1 (sSub s (nNat at_) (nLen s))),.str (qa2 (sSub s (nNat at_) (nLen s))),.int .i64 (qbC (sSub s (nNat at_) (nLen s))),.int .i64 (qbA (sSub s (nNat at_) (nLen s))),.str (qbB (sSub s (nNat at_) (nLen s))),.int .i64 at_]]))) (.tok 1)],[.str s]] [(0,0,1),(nXs (xApp r2 [[.int .i64 (qb1 (sSub s (nNat at_) (nLen s))),.str (qa2 (sSub s (nNat at_) (nLen s))),.int .i64 (qbC (sSub s (nNat at_) (nLen s))),.int .i64 (qbA (sSub s (nNat at_) (nLen s))),.str (qbB (sSub s (nNat at_) (nLen s))),.int .i64 at_]]),6,120)] [75,3,38,75,9]))) (.ite (bNot (qeh (sSub s (nNat at_) (nLen s)))) (.ret (.out .ret [] (Store.mk [[.sl (qap 5 (qap 6 r)) .full],[.int .i64 n],[.int .i64 n2],[.sl (qap 5 (qap 6 (xApp r2 [[.int .i64 (qb1 (sSub s (nNat at_) (nLen s))),.str (qa2 (sSub s (nNat at_) (nLen s))),.int .i64 (qbC (sSub s (nNat at_) (nLen s))),.int .i64 (qbA (sSub s (nNat at_) (nLen s))),.str (qbB (sSub s (nNat at_) (nLen s))),.int .i64 at_]]))) (.tok 1)],[.str s]] [(0,0,1),(nXs (xApp r2 [[.int .i64 (qb1 (sSub s (nNat at_) (nLen s))),.str (qa2 (sSub s (nNat at_) (nLen s))),.int .i64 (qbC (sSub s (nNat at_) (nLen s))),.int .i64 (qbA (sSub s (nNat at_) (nLen s))),.str (qbB (sSub s (nNat at_) (nLen s))),.int .i64 at_]]),6,120)] [75,3,38,75,9]))) (.ite (qaC (qao (iAdd .i64 at_ (sLen (qa2 (sSub s (nNat at_) (nLen s)))))) true (nNat (iAdd .i64 at_ (sLen (qa2 (sSub s (nNat at_) (nLen s)))))) (nLen s) (nLen s)) (.ite (qd0 (sSub s (nNat (iAdd .i64 at_ (sLen (qa2 (sSub s (nNat at_) (nLen s)))))) (nLen s))) (.ret (.next [.yld 0,.ptr 4 0,.int .i64
 (iAdd .i64 (iAdd .i64 at_ (sLen (qa2 (sSub s (nNat at_) (nLen s))))) (qa0 (sSub s (nNat (iAdd .i64 at_ (sLen (qa2 (sSub s (nNat at_) (nLen s)))))) (nLen s))))] (Store.mk [[.sl (qap 5 (qap 6 r)) .full],[.int .i64 n],[.int .i64 n2],[.sl (qap 5 (qap 6 (xApp r2 [[.int .i64 (qb1 (sSub s (nNat at_) (nLen s))),.str (qa2 (sSub s (nNat at_) (nLen s))),.int .i64 (qbC (sSub s (nNat at_) (nLen s))),.int .i64 (qbA (sSub s (nNat at_) (nLen s))),.str (qbB (sSub s (nNat at_) (nLen s))),.int .i64 at_]]))) (.tok 1)],[.str s]] [(0,0,1),(nXs (xApp r2 [[.int .i64 (qb1 (sSub s (nNat at_) (nLen s))),.str (qa2 (sSub s (nNat at_) (nLen s))),.int .i64 (qbC (sSub s (nNat at_) (nLen s))),.int .i64 (qbA (sSub s (nNat at_) (nLen s))),.str (qbB (sSub s (nNat at_) (nLen s))),.int .i64 at_]]),6,120)] [75,3,38,75,9]))) .fail) .fail))) .fail) .fail) .fail) .fail)) .fail) .fail) .fail) (.ret (.out (.exit 0) [] (Store.mk [[.sl r .full],[.int .i64 n],[.int .i64 n2],[.sl r2 (.tok 1)],[.str s]] [(0,0,1),(k,6,120)] [75,3,38,75,9])))
theorem qCV (at_:Int) (r:qR) (n:Int) (n2:Int) (r2:qR) (s:qU) (k:Nat):lstep tbT qwU qp8 qss qsG [.yld 0,.ptr 4 0,.int .i64 at_] ⟨[[.sl r .full],[.int .i64 n],[.int .i64 n2],[.sl r2 (.tok 1)],[.str s]],[(0,0,1),(k,6,120)],[75,3,38,75,9]⟩=qj5 at_ r n n2 r2 s k:=by kernel_rfl
theorem qto (at_:Int) (r:qR) (n:Int) (n2:Int) (r2:qR) (s:qU) (k:Nat):qeA [.yld 0,.ptr 4 0,.int .i64 at_] ⟨[[.sl r .full],[.int .i64 n],[.int .i64 n2],[.sl r2 (.tok 1)],[.str s]],[(0,0,1),(k,6,120)],[75,3,38,75,9]⟩=lnext qeA (qj5 at_ r n n2 r2 s k).run:=by unfold qeA;rw [qb0,qCV]
def qbe (at_:Int) (r:qR) (n:Int) (n2:Int) (r2:qR) (s:qU):Option (PExit×List PV×Store):=qeA [.yld 0,.ptr 4 0,.int .i64 at_] ⟨[[.sl r .full],[.int .i64 n],[.int .i64 n2],[.sl r2 .full],[.str s]],[(0,0,1)],[75,3,38,75,9]⟩
def qgW (at_:Int) (r:qR) (n:Int) (n2:Int) (r2:qR) (s:qU):List (List PV):=(gRow (gAt (gObj (qbe at_ r n n2 r2 s) 0) 0))
def qg7 (at_:Int) (r:qR) (n:Int) (n2:Int) (r2:qR) (s:qU):Int:=(gInt (gAt (gObj (qbe at_ r n n2 r2 s) 1) 0))
def qep (at_:Int) (r:qR) (n:Int) (n2:Int) (r2:qR) (s:qU):Int:=(gInt (gAt (gObj (qbe at_ r n n2 r2 s) 2) 0))
def qeJ (at_:Int) (r:qR) (n:Int) (n2:Int) (r2:qR) (s:qU):List (List PV):=(gRow (gAt (gObj (qbe at_ r n n2 r2 s) 3) 0))
def qf3 (at_:Int) (r:qR) (n:Int) (n2:Int) (r2:qR) (s:qU):List UInt8:=(gStr (gAt (gObj (qbe at_ r n n2 r2 s) 4) 0))
def qhQ (at_:Int) (r:qR) (n:Int) (n2:Int) (r2:qR) (s:qU):Bool:=isW (qbe at_ r n n2 r2 s) (.ret,[],⟨[[.sl (qgW at_ r n n2 r2 s) .full],[.int .i64 (qg7 at_ r n n2 r2 s)],[.int .i64 (qep at_ r n n2 r2 s)],[.sl (qeJ at_ r n n2 r2 s) .full],[.str (qf3 at_ r n n2 r2 s)]],[(2,0,1)],[75,3,38,75,9]⟩)
def qgN (at_:Int) (r:qR) (n:Int) (n2:Int) (r2:qR) (s:qU):List (List PV):=(gRow (gAt (gObj (qbe at_ r n n2 r2 s) 0) 0))
def qgx (at_:Int) (r:qR) (n:Int) (n2:Int) (r2:qR) (s:qU):Int:=(gInt (gAt (gObj (qbe at_ r n n2 r2 s) 1) 0))
def qeu (at_:Int) (r:qR) (n:Int) (n2:Int) (r2:qR) (s:qU):Int:=(gInt (gAt (gObj (qbe at_ r n n2 r2 s) 2) 0))
def qeB (at_:Int) (r:qR) (n:Int) (n2:Int) (r2:qR) (s:qU):List (List PV):=(gRow (gAt (gObj (qbe at_ r n n2 r2 s) 3) 0))
def qgM (at_:Int) (r:qR) (n:Int) (n2:Int) (r2:qR) (s:qU):List UInt8:=(gStr (gAt (gObj (qbe at_ r n n2 r2 s) 4) 0))
def qg2 (at_:Int) (r:qR) (n:Int) (n2:Int) (r2:qR) (s:qU):Nat:=(gTok (qbe at_ r n n2 r2 s) 1)
def qhL (at_:Int) (r:qR) (n:Int) (n2:Int) (r2:qR) (s:qU):Bool:=isW (qbe at_ r n n2 r2 s) (.ret,[],⟨[[.sl (qgN at_ r n n2 r2 s) .full],[.int .i64 (qgx at_ r n n2 r2 s)],[.int .i64 (qeu at_ r n n2 r2 s)],[.sl (qeB at_ r n n2 r2 s) (.tok 1)],[.str (qgM at_ r n n2 r2 s)]],[(0,0,1),((qg2 at_ r n n2 r2 s),6,120)],[75,3,38,75,9]⟩)
def qgh (at_:Int) (r:qR) (n:Int) (n2:Int) (r2:qR) (s:qU):List (List PV):=(gRow (gAt (gObj (qbe at_ r n n2 r2 s) 0) 0))
def qgP (at_:Int) (r:qR) (n:Int) (n2:Int) (r2:qR) (s:qU):Int:=(gInt (gAt (gObj (qbe at_ r n n2 r2 s) 1) 0))
def qez (at_:Int) (r:qR) (n:Int) (n2:Int) (r2:qR) (s:qU):Int:=(gInt (gAt (gObj (qbe at_ r n n2 r2 s) 2) 0))
def qer (at_:Int) (r:qR) (n:Int) (n2:Int) (r2:qR) (s:qU):List (List PV):=(gRow (gAt (gObj (qbe at_ r n n2 r2 s) 3) 0))
def qgT (at_:Int) (r:qR) (n:Int) (n2:Int) (r2:qR) (s:qU):List UInt8:=(gStr (gAt (gObj (qbe at_ r n n2 r2 s) 4) 0))
def qhS (at_:Int) (r:qR) (n:Int) (n2:Int) (r2:qR) (s:qU):Bool:=isW (qbe at_ r n n2 r2 s) ((.exit 0),[],⟨[[.sl (qgh at_ r n n2 r2 s) .full],[.int .i64 (qgP at_ r n n2 r2 s)],[.int .i64 (qez at_ r n n2 r2 s)],[.sl (qer at_ r n n2 r2 s) .full],[.str (qgT at_ r n n2 r2 s)]],[(0,0,1)],[75,3,38,75,9]⟩)
def qgf (at_:Int) (r:qR) (n:Int) (n2:Int) (r2:qR) (s:qU):List (List PV):=(gRow (gAt (gObj (qbe at_ r n n2 r2 s) 0) 0))
def qge (at_:Int) (r:qR) (n:Int) (n2:Int) (r2:qR) (s:qU):Int:=(gInt (gAt (gObj (qbe at_ r n n2 r2 s) 1) 0))
def qew (at_:Int) (r:qR) (n:Int) (n2:Int) (r2:qR) (s:qU):Int:=(gInt (gAt (gObj (qbe at_ r n n2 r2 s) 2) 0))
def qek (at_:Int) (r:qR) (n:Int) (n2:Int) (r2:qR) (s:qU):List (List PV):=(gRow (gAt (gObj (qbe at_ r n n2 r2 s) 3) 0))
def qfU (at_:Int) (r:qR) (n:Int) (n2:Int) (r2:qR) (s:qU):List UInt8:=(gStr (gAt (gObj (qbe at_ r n n2 r2 s) 4) 0))
def qhG (at_:Int) (r:qR) (n:Int) (n2:Int) (r2:qR) (s:qU):Bool:=isW (qbe at_ r n n2 r2 s) ((.exit 0),[],⟨[[.sl (qgf at_ r n n2 r2 s) .full],[.int .i64 (qge at_ r n n2 r2 s)],[.int .i64 (qew at_ r n n2 r2 s)],[.sl (qek at_ r n n2 r2 s) .full],[.str (qfU at_ r n n2 r2 s)]],[(2,0,1)],[75,3,38,75,9]⟩)
def qgu (at_:Int) (r:qR) (n:Int) (n2:Int) (r2:qR) (s:qU):List (List PV):=(gRow (gAt (gObj (qbe at_ r n n2 r2 s) 0) 0))
def qf4 (at_:Int) (r:qR) (n:Int) (n2:Int) (r2:qR) (s:qU):Int:=(gInt (gAt (gObj (qbe at_ r n n2 r2 s) 1) 0))
def qd5 (at_:Int) (r:qR) (n:Int) (n2:Int) (r2:qR) (s:qU):Int:=(gInt (gAt (gObj (qbe at_ r n n2 r2 s) 2) 0))
def qex (at_:Int) (r:qR) (n:Int) (n2:Int) (r2:qR) (s:qU):List (List PV):=(gRow (gAt (gObj (qbe at_ r n n2 r2 s) 3) 0))
def qf2 (at_:Int) (r:qR) (n:Int) (n2:Int) (r2:qR) (s:qU):List UInt8:=(gStr (gAt (gObj (qbe at_ r n n2 r2 s) 4) 0))
def qg5 (at_:Int) (r:qR) (n:Int) (n2:Int) (r2:qR) (s:qU):Nat:=(gTok (qbe at_ r n n2 r2 s) 1)
def qhR (at_:Int) (r:qR) (n:Int) (n2:Int) (r2:qR) (s:qU):Bool:=isW (qbe at_ r n n2 r2 s) (.ret,[],⟨[[.sl (qgu at_ r n n2 r2 s) .full],[.int .i64 (qf4 at_ r n n2 r2 s)],[.int .i64 (qd5 at_ r n n2 r2 s)],[.sl (qex at_ r n n2 r2 s) (.tok 1)],[.str (qf2 at_ r n n2 r2 s)]],[(2,0,1),((qg5 at_ r n n2 r2 s),6,120)],[75,3,38,75,9]⟩)
def qgE (at_:Int) (r:qR) (n:Int) (n2:Int) (r2:qR) (s:qU):List (List PV):=(gRow (gAt (gObj (qbe at_ r n n2 r2 s) 0) 0))
def qga (at_:Int) (r:qR) (n:Int) (n2:Int) (r2:qR) (s:qU):Int:=(gInt (gAt (gObj (qbe at_ r n n2 r2 s) 1) 0))
def qej (at_:Int) (r:qR) (n:Int) (n2:Int) (r2:qR) (s:qU):Int:=(gInt (gAt (gObj (qbe at_ r n n2 r2 s) 2) 0))
def qd6 (at_:Int) (r:qR) (n:Int) (n2:Int) (r2:qR) (s:qU):List (List PV):=(gRow (gAt (gObj (qbe at_ r n n2 r2 s) 3) 0))
def qf7 (at_:Int) (r:qR) (n:Int) (n2:Int) (r2:qR) (s:qU):List UInt8:=(gStr (gAt (gObj (qbe at_ r n n2 r2 s) 4) 0))
def qgC (at_:Int) (r:qR) (n:Int) (n2:Int) (r2:qR) (s:qU):Nat:=(gTok (qbe at_ r n n2 r2 s) 1)
def qhW (at_:Int) (r:qR) (n:Int) (n2:Int) (r2:qR) (s:qU):Bool:=isW (qbe at_ r n n2 r2 s) ((.exit 0),[],⟨[[.sl (qgE at_ r n n2 r2 s) .full],[.int .i64 (qga at_ r n n2 r2 s)],[.int .i64 (qej at_ r n n2 r2 s)],[.sl (qd6 at_ r n n2 r2 s) (.tok 1)],[.str (qf7 at_ r n n2 r2 s)]],[(0,0,1),((qgC at_ r n n2 r2 s),6,120)],[75,3,38,75,9]⟩)
def qgs (at_:Int) (r:qR) (n:Int) (n2:Int) (r2:qR) (s:qU):List (List PV):=(gRow (gAt (gObj (qbe at_ r n n2 r2 s) 0) 0))
def qg1 (at_:Int) (r:qR) (n:Int) (n2:Int) (r2:qR) (s:qU):Int:=(gInt (gAt (gObj (qbe at_ r n n2 r2 s) 1) 0))
def qeE (at_:Int) (r:qR) (n:Int) (n2:Int) (r2:qR) (s:qU):Int:=(gInt (gAt (gObj (qbe at_ r n n2 r2 s) 2) 0))
def qee (at_:Int) (r:qR) (n:Int) (n2:Int) (r2:qR) (s:qU):List (List PV):=(gRow (gAt (gObj (qbe at_ r n n2 r2 s) 3) 0))
def qgD (at_:Int) (r:qR) (n:Int) (n2:Int) (r2:qR) (s:qU):List UInt8:=(gStr (gAt (gObj (qbe at_ r n n2 r2 s) 4) 0))
def qgj (at_:Int) (r:qR) (n:Int) (n2:Int) (r2:qR) (s:qU):Nat:=(gTok (qbe at_ r n n2 r2 s) 1)
def qhT (at_:Int) (r:qR) (n:Int) (n2:Int) (r2:qR) (s:qU):Bool:=isW (qbe at_ r n n2 r2 s) ((.exit 0),[],⟨[[.sl (qgs at_ r n n2 r2 s) .full],[.int .i64 (qg1 at_ r n n2 r2 s)],[.int .i64 (qeE at_ r n n2 r2 s)],[.sl (qee at_ r n n2 r2 s) (.tok 1)],[.str (qgD at_ r n n2 r2 s)]],[(2,0,1),((qgj at_ r n n2 r2 s),6,120)],[75,3,38,75,9]⟩)
def qjj:List PV→Store→Tr (PExit×List PV×Store)|[.yld 0,.ptr 4 0,.int .i64 at_],⟨[[.sl r .full],[.int .i64 n],[.int .i64 n2],[.sl r2 .full],[.str s]],[(0,0,1)],[75,3,38,75,9]⟩=>.ite (qhQ at_ r n n2 r2 s) (.ret (.ret,[],⟨[[.sl (qgW at_ r n n2 r2 s) .full],[.int .i64 (qg7 at_ r n n2 r2 s)],[.int .i64 (qep at_ r n n2 r2 s)],[.sl (qeJ at_ r n n2 r2 s) .full],[.str (qf3 at_ r n n2 r2 s)]],[(2,0,1)],[75,3,38,75,9]⟩)) (.ite (qhL at_ r n n2 r2 s) (.ret (.ret,[],⟨[[.sl (qgN at_ r n n2 r2 s) .full],[.int .i64 (qgx at_ r n n2 r2 s)],[.int .i64 (qeu at_ r n n2 r2 s)],[.sl (qeB at_ r n n2 r2 s) (.tok 1)],[.str (qgM at_ r n n2 r2 s)]],[(0,0,1),((qg2 at_ r n n2 r2 s),6,120)],[75,3,38,75,9]⟩)) (.ite (qhS at_ r n n2 r2 s) (.ret ((.exit 0),[],⟨[[.sl (qgh at_ r n n2 r2 s) .full],[.int .i64 (qgP at_ r n n2 r2 s)],[.int .i64 (qez at_ r n n2 r2 s)],[.sl (qer at_ r n n2 r2 s) .full],[.str (qgT at_ r n n2 r2 s)]],[(0,0,1)],[75,3,38,75,9]⟩)) (.ite (qhG at_ r n n2 r2 s) (.ret ((.exit 0),[],⟨[[.sl (qgf at_ r n n2 r2 s) .full],[.int .i64 (qge at_ r n n2 r2 s)],[.int .i64 (qew at_ r n n2 r2 s)],[.sl (qek at_ r n n2 r2 s) .full],[.str (qfU at_ r n n2 r2 s)]],[(2,0,1)],[75,3,38,75,9]⟩)) (.ite (qhR at_ r n n2 r2 s) (.ret (.ret,[],⟨[[.sl (qgu at_ r n n2 r2 s) .full],[.int .i64 (qf4 at_ r n n2 r2 s)],[.int .i64 (qd5 at_ r n n2 r2 s)],[.sl (qex at_ r n n2 r2 s) (.tok 1)],[.str (qf2 at_ r n n2 r2 s)]],[(2,0,1),((qg5 at_ r n n2 r2 s),6,120)],[75,3,38,75,9]⟩)) (.ite (qhW at_ r n n2 r2 s) (.ret ((.exit 0),[],⟨[[.sl (qgE at_ r n n2 r2 s) .full],[.int .i64 (qga at_ r n n2 r2 s)],[.int .i64 (qej at_ r n n2 r2 s)],[.sl (qd6 at_ r n n2 r2 s) (.tok 1)],[.str (qf7 at_ r n n2 r2 s)]],[(0,0,1),((qgC at_ r n n2 r2 s),6,120)],[75,3,38,75,9]⟩)) (.ite (qhT at_ r n n2 r2 s) (.ret ((.exit 0),[],⟨[[.sl (qgs at_ r n n2 r2 s) .full],[.int .i64 (qg1 at_ r n n2 r2 s)],[.int .i64 (qeE at_ r n n2 r2 s)],[.sl (qee at_ r n n2 r2 s) (.tok 1)],[.str (qgD at_ r n n2 r2 s)]],[(2,0,1),((qgj at_ r n n2 r2 s),6,120)],[75,3,38,75,9]⟩)) (.fail)))))))|_,_=>.fail
theorem qEi:∀ vs σ r,(qjj vs σ).run=some r→qeA vs σ=some r:=by
 intro vs σ r h;unfold qjj at h
 split at h
 ·exact qah h fun h=>qah h fun h=>qah h fun h=>qah h fun h=>qah h fun h=>qah h fun h=>qah h fun h=>by cases h
 ·cases h
theorem qyZ (gl:Gl) (hg:GlLex gl) (hy:qlt Tryz.prog gl qdU (.yld 1 fun t a σ=>(qov t a σ).run)):∀ fr σ e fr' σ',(orc qsG qjj fr σ).run=some (e,fr',σ')→LDoes Tryz.prog gl qss fr σ e fr' σ':=qdi qav (qxp gl hg hy ) qai (L:=qp8) (qae (by kernel_rfl)) (by kernel_rfl) qEi
def qDR:LpsT:=fun r fr σ=>bif Nat.beq r 1 then orc qsG qjj fr σ else .fail
def qxC (r:qR) (n:Int) (n2:Int) (r2:qR) (s:qU):Tr (PV×Store):=.ite (qd0 s) (.ite (qhQ (qa0 s) r n n2 r2 s) (.ret (.tup [],Store.mk [[.sl (qgW (qa0 s) r n n2 r2 s) .full],[.int .i64 (qg7 (qa0 s) r n n2 r2 s)],[.int .i64 (qep (qa0 s) r n n2 r2 s)],[.sl (qeJ (qa0 s) r n n2 r2 s) .full],[.str (qf3 (qa0 s) r n n2 r2 s)]] [(2,0,1)] [75,3,38,75,9])) (.ite (qhL (qa0 s) r n n2 r2 s) (.ret (.tup [],Store.mk [[.sl (qgN (qa0 s) r n n2 r2 s) .full],[.int .i64 (qgx (qa0 s) r n n2 r2 s)],[.int .i64 (qeu (qa0 s) r n n2 r2 s)],[.sl (qeB (qa0 s) r n n2 r2 s) (.tok 1)],[.str (qgM (qa0 s) r n n2 r2 s)]] [(0,0,1),(qg2 (qa0 s) r n n2 r2 s,6,120)] [75,3,38,75,9])) (.ite (qhS (qa0 s) r n n2 r2 s) (.ret (.tup [],Store.mk [[.sl (qgh (qa0 s) r n n2 r2 s) .full],[.int .i64 (qgP (qa0 s) r n n2 r2 s)],[.int .i64 (qez (qa0 s) r n n2 r2 s)],[.sl (qer (qa0 s) r n n2 r2 s) .full],[.str (qgT (qa0 s) r n n2 r2 s)]] [(0,0,1)] [75,3,38,75,9])) (.ite (qhG (qa0 s) r n n2 r2 s) (.ret (.tup [],Store.mk [[.sl (qgf (qa0 s) r n n2 r2 s) .full],[.int .i64 (qge (qa0 s) r n n2 r2 s)],[.int .i64 (qew (qa0 s) r n n2 r2 s)],[.sl (qek (qa0 s) r n n2 r2 s) .full],[.str (qfU (qa0 s) r n n2 r2 s)]] [(2,0,1)] [75,3,38,75,9])) (.ite (qhR (qa0 s) r n n2 r2 s) (.ret (.tup [],Store.mk [[.sl (qgu (qa0 s) r n n2 r2 s) .full],[.int .i64 (qf4 (qa0 s) r n n2 r2 s)],[.int .i64 (qd5 (qa0 s) r n n2 r2 s)],[.sl (qex (qa0 s) r n n2 r2 s) (.tok 1)],[.str (qf2 (qa0 s) r n n2 r2 s)]] [(2,0,1),(qg5 (qa0 s) r n n2 r2 s,6,120)] [75,3,38,75,9])) (.ite (qhW (qa0 s) r n n2 r2 s) (.ret (.tup [],Store.mk [[.sl (qgE (qa0 s) r n n2 r2 s) .full],[.int .i64 (qga (qa0 s) r n n2 r2 s)],
 [.int .i64 (qej (qa0 s) r n n2 r2 s)],[.sl (qd6 (qa0 s) r n n2 r2 s) (.tok 1)],[.str (qf7 (qa0 s) r n n2 r2 s)]] [(0,0,1),(qgC (qa0 s) r n n2 r2 s,6,120)] [75,3,38,75,9])) (.ite (qhT (qa0 s) r n n2 r2 s) (.ret (.tup [],Store.mk [[.sl (qgs (qa0 s) r n n2 r2 s) .full],[.int .i64 (qg1 (qa0 s) r n n2 r2 s)],[.int .i64 (qeE (qa0 s) r n n2 r2 s)],[.sl (qee (qa0 s) r n n2 r2 s) (.tok 1)],[.str (qgD (qa0 s) r n n2 r2 s)]] [(2,0,1),(qgj (qa0 s) r n n2 r2 s,6,120)] [75,3,38,75,9])) .fail))))))) .fail
theorem qGm (r:qR) (n:Int) (n2:Int) (r2:qR) (s:qU):(qpf tbT qwU qDR Tryz.f139 [.yld 0,.ptr 4 0] ⟨[[.sl r .full],[.int .i64 n],[.int .i64 n2],[.sl r2 .full],[.str s]],[(0,0,1)],[75,3,38,75,9]⟩).flat=qxC r n n2 r2 s:=by kernel_rfl
def qdk (r:qR) (n:Int) (n2:Int) (r2:qR) (s:qU):Option (PV×Store):=(qxC r n n2 r2 s).run
def qiM (r:qR) (n:Int) (n2:Int) (r2:qR) (s:qU):List (List PV):=(gRow (gAt (gObj (qdl (qdk r n n2 r2 s)) 0) 0))
def qiW (r:qR) (n:Int) (n2:Int) (r2:qR) (s:qU):Int:=(gInt (gAt (gObj (qdl (qdk r n n2 r2 s)) 1) 0))
def qgI (r:qR) (n:Int) (n2:Int) (r2:qR) (s:qU):Int:=(gInt (gAt (gObj (qdl (qdk r n n2 r2 s)) 2) 0))
def qhV (r:qR) (n:Int) (n2:Int) (r2:qR) (s:qU):List (List PV):=(gRow (gAt (gObj (qdl (qdk r n n2 r2 s)) 3) 0))
def qkA (r:qR) (n:Int) (n2:Int) (r2:qR) (s:qU):List UInt8:=(gStr (gAt (gObj (qdl (qdk r n n2 r2 s)) 4) 0))
def qk8 (r:qR) (n:Int) (n2:Int) (r2:qR) (s:qU):Bool:=isW (qdk r n n2 r2 s) (.tup [],⟨[[.sl (qiM r n n2 r2 s) .full],[.int .i64 (qiW r n n2 r2 s)],[.int .i64 (qgI r n n2 r2 s)],[.sl (qhV r n n2 r2 s) .full],[.str (qkA r n n2 r2 s)]],[(2,0,1)],[75,3,38,75,9]⟩)
def qkU (r:qR) (n:Int) (n2:Int) (r2:qR) (s:qU):List (List PV):=(gRow (gAt (gObj (qdl (qdk r n n2 r2 s)) 0) 0))
def qko (r:qR) (n:Int) (n2:Int) (r2:qR) (s:qU):Int:=(gInt (gAt (gObj (qdl (qdk r n n2 r2 s)) 1) 0))
def qhP (r:qR) (n:Int) (n2:Int) (r2:qR) (s:qU):Int:=(gInt (gAt (gObj (qdl (qdk r n n2 r2 s)) 2) 0))
def qfV (r:qR) (n:Int) (n2:Int) (r2:qR) (s:qU):List (List PV):=(gRow (gAt (gObj (qdl (qdk r n n2 r2 s)) 3) 0))
def qkV (r:qR) (n:Int) (n2:Int) (r2:qR) (s:qU):List UInt8:=(gStr (gAt (gObj (qdl (qdk r n n2 r2 s)) 4) 0))
def qkX (r:qR) (n:Int) (n2:Int) (r2:qR) (s:qU):Nat:=(gTok (qdl (qdk r n n2 r2 s)) 1)
def qk9 (r:qR) (n:Int) (n2:Int) (r2:qR) (s:qU):Bool:=isW (qdk r n n2 r2 s) (.tup [],⟨[[.sl (qkU r n n2 r2 s) .full],[.int .i64 (qko r n n2 r2 s)],[.int .i64 (qhP r n n2 r2 s)],[.sl (qfV r n n2 r2 s) (.tok 1)],[.str (qkV r n n2 r2 s)]],[(0,0,1),((qkX r n n2 r2 s),6,120)],[75,3,38,75,9]⟩)
def qkC (r:qR) (n:Int) (n2:Int) (r2:qR) (s:qU):List (List PV):=(gRow (gAt (gObj (qdl (qdk r n n2 r2 s)) 0) 0))
def qkx (r:qR) (n:Int) (n2:Int) (r2:qR) (s:qU):Int:=(gInt (gAt (gObj (qdl (qdk r n n2 r2 s)) 1) 0))
def qhI (r:qR) (n:Int) (n2:Int) (r2:qR) (s:qU):Int:=(gInt (gAt (gObj (qdl (qdk r n n2 r2 s)) 2) 0))
def qgo (r:qR) (n:Int) (n2:Int) (r2:qR) (s:qU):List (List PV):=(gRow (gAt (gObj (qdl (qdk r n n2 r2 s)) 3) 0))
def qkQ (r:qR) (n:Int) (n2:Int) (r2:qR) (s:qU):List UInt8:=(gStr (gAt (gObj (qdl (qdk r n n2 r2 s)) 4) 0))
def qkR (r:qR) (n:Int) (n2:Int) (r2:qR) (s:qU):Bool:=isW (qdk r n n2 r2 s) (.tup [],⟨[[.sl (qkC r n n2 r2 s) .full],[.int .i64 (qkx r n n2 r2 s)],[.int .i64 (qhI r n n2 r2 s)],[.sl (qgo r n n2 r2 s) .full],[.str (qkQ r n n2 r2 s)]],[(0,0,1)],[75,3,38,75,9]⟩)
def qiX (r:qR) (n:Int) (n2:Int) (r2:qR) (s:qU):List (List PV):=(gRow (gAt (gObj (qdl (qdk r n n2 r2 s)) 0) 0))
def qiu (r:qR) (n:Int) (n2:Int) (r2:qR) (s:qU):Int:=(gInt (gAt (gObj (qdl (qdk r n n2 r2 s)) 1) 0))
def qf0 (r:qR) (n:Int) (n2:Int) (r2:qR) (s:qU):Int:=(gInt (gAt (gObj (qdl (qdk r n n2 r2 s)) 2) 0))
def qhX (r:qR) (n:Int) (n2:Int) (r2:qR) (s:qU):List (List PV):=(gRow (gAt (gObj (qdl (qdk r n n2 r2 s)) 3) 0))
def qkW (r:qR) (n:Int) (n2:Int) (r2:qR) (s:qU):List UInt8:=(gStr (gAt (gObj (qdl (qdk r n n2 r2 s)) 4) 0))
def qlf (r:qR) (n:Int) (n2:Int) (r2:qR) (s:qU):Nat:=(gTok (qdl (qdk r n n2 r2 s)) 1)
def qkn (r:qR) (n:Int) (n2:Int) (r2:qR) (s:qU):Bool:=isW (qdk r n n2 r2 s) (.tup [],⟨[[.sl (qiX r n n2 r2 s) .full],[.int .i64 (qiu r n n2 r2 s)],[.int .i64 (qf0 r n n2 r2 s)],[.sl (qhX r n n2 r2 s) (.tok 1)],[.str (qkW r n n2 r2 s)]],[(2,0,1),((qlf r n n2 r2 s),6,120)],[75,3,38,75,9]⟩)
def qA3:List PV→Store→Tr (PV×Store)|[.yld 0,.ptr 4 0],⟨[[.sl r .full],[.int .i64 n],[.int .i64 n2],[.sl r2 .full],[.str s]],[(0,0,1)],[75,3,38,75,9]⟩=>.ite (qk8 r n n2 r2 s) (.ret (.tup [],⟨[[.sl (qiM r n n2 r2 s) .full],[.int .i64 (qiW r n n2 r2 s)],[.int .i64 (qgI r n n2 r2 s)],[.sl (qhV r n n2 r2 s) .full],[.str (qkA r n n2 r2 s)]],[(2,0,1)],[75,3,38,75,9]⟩)) (.ite (qk9 r n n2 r2 s) (.ret (.tup [],⟨[[.sl (qkU r n n2 r2 s) .full],[.int .i64 (qko r n n2 r2 s)],[.int .i64 (qhP r n n2 r2 s)],[.sl (qfV r n n2 r2 s) (.tok 1)],[.str (qkV r n n2 r2 s)]],[(0,0,1),((qkX r n n2 r2 s),6,120)],[75,3,38,75,9]⟩)) (.ite (qkR r n n2 r2 s) (.ret (.tup [],⟨[[.sl (qkC r n n2 r2 s) .full],[.int .i64 (qkx r n n2 r2 s)],[.int .i64 (qhI r n n2 r2 s)],[.sl (qgo r n n2 r2 s) .full],[.str (qkQ r n n2 r2 s)]],[(0,0,1)],[75,3,38,75,9]⟩)) (.ite (qkn r n n2 r2 s) (.ret (.tup [],⟨[[.sl (qiX r n n2 r2 s) .full],[.int .i64 (qiu r n n2 r2 s)],[.int .i64 (qf0 r n n2 r2 s)],[.sl (qhX r n n2 r2 s) (.tok 1)],[.str (qkW r n n2 r2 s)]],[(2,0,1),((qlf r n n2 r2 s),6,120)],[75,3,38,75,9]⟩)) (.fail))))|_,_=>.fail
theorem qDN (gl:Gl) (hg:GlLex gl) (hy:qlt Tryz.prog gl qdU (.yld 1 fun t a σ=>(qov t a σ).run)):SimS Tryz.prog gl 139 fun args σ=>(qA3 args σ).run:=by
 refine SimS.of_flat (G:=qwU) (L:=qDR) qav (qxp gl hg hy ) qai Tryz.func139 rfl (by rfl) (by kernel_rfl) (qbp (L:=lps qDR) [(1,qss)] (by kernel_rfl) (List.forall_mem_cons.2 ⟨fun fr σ e fr' σ' h=>qyZ gl hg hy  fr σ e fr' σ' h,(List.forall_mem_nil _)⟩)) ?_
 intro args σ x h;unfold qA3 at h
 split at h
 ·exact (congrArg Tr.run (qGm _ _ _ _ _)).trans (qah h fun h=>qah h fun h=>qah h fun h=>qah h fun h=>by cases h)
 ·cases h
end Go.Pv
set_option maxHeartbeats 4000000
set_option maxRecDepth 200000
set_option linter.unusedSimpArgs false
set_option linter.unusedVariables false
namespace Go.Pv
open Go Go.Proofs Go.RowKit
theorem qt1 (gl:Gl) (hg:GlLex gl):∀ fr σ e fr' σ',(rorc qpE (rngG qhH) 139 qA3 fr σ).run=some (e,fr',σ')→Does Tryz.prog gl (rngO qhH) fr σ e fr' σ' :=
 qDf (G:=ofL []) (L:=fun _ _ _=>.fail) qav (fun _ _=>qag) qai (fun _ _=>qae (by kernel_rfl)) (fun _ _=>qae (by kernel_rfl)) (by kernel_rfl) (by kernel_rfl) (by kernel_rfl)
  ⟨Tryz.f139,Tryz.func139,by rfl,by rfl⟩ (fun gl' hv hy=>qDN gl' (hg.of_v hv) hy)
end Go.Pv
set_option maxHeartbeats 4000000
set_option maxRecDepth 200000
set_option linter.unusedSimpArgs false
set_option linter.unusedVariables false
namespace Go.Pv
open Go Go.Proofs
def qpZ:GamT:=ofL []
theorem qwI (gl:Gl):qa3 Tryz.prog gl (gam qpZ):=qag
def qvj:LpsT:=fun r fr σ=>.fail
def qoA (s:qU):Tr (PV×Store):=.ret (.fn 139 [.ptr 4 0],Store.mk [[.sl [] .full],[.int .i64 0],[.int .i64 0],[.sl [] .full],[.str s]] [] [75,3,38,75,9])
theorem qAS (s:qU):(qpf tbT qpZ qvj Tryz.f120 [.str s] ⟨[[.sl [] .full],[.int .i64 0],[.int .i64 0],[.sl [] .full]],[],[75,3,38,75]⟩).flat=qoA s:=by kernel_rfl
def qe2 (s:qU):Option (PV×Store):=(qoA s).run
def qbY (s:qU):List (List PV):=(gRow (gAt (gObj (qdl (qe2 s)) 0) 0))
def qbX (s:qU):Int:=(gInt (gAt (gObj (qdl (qe2 s)) 1) 0))
def qbD (s:qU):Int:=(gInt (gAt (gObj (qdl (qe2 s)) 2) 0))
def qbE (s:qU):List (List PV):=(gRow (gAt (gObj (qdl (qe2 s)) 3) 0))
def qbV (s:qU):List UInt8:=(gStr (gAt (gObj (qdl (qe2 s)) 4) 0))
def qhU (s:qU):Bool:=isW (qe2 s) (.fn 139 [.ptr 4 0],⟨[[.sl (qbY s) .full],[.int .i64 (qbX s)],[.int .i64 (qbD s)],[.sl (qbE s) .full],[.str (qbV s)]],[],[75,3,38,75,9]⟩)
def qpT:List PV→Store→Tr (PV×Store)|[.str s],⟨[[.sl [] .full],[.int .i64 0],[.int .i64 0],[.sl [] .full]],[],[75,3,38,75]⟩=>.ite (qhU s) (.ret (.fn 139 [.ptr 4 0],⟨[[.sl (qbY s) .full],[.int .i64 (qbX s)],[.int .i64 (qbD s)],[.sl (qbE s) .full],[.str (qbV s)]],[],[75,3,38,75,9]⟩)) (.fail)|_,_=>.fail
theorem qwo (gl:Gl):SimS Tryz.prog gl 120 fun args σ=>(qpT args σ).run:=by
 refine SimS.of_flat (G:=qpZ) (L:=qvj) qav (qwI gl ) qai Tryz.func120 rfl (by rfl) (by kernel_rfl) (qae (by kernel_rfl)) ?_
 intro args σ x h;unfold qpT at h
 split at h
 ·exact (congrArg Tr.run (qAS _)).trans (qah h fun h=>by cases h)
 ·cases h
def qqI:GamT:=ofL [(120,.store qpT),(qui+0,.glob qxU)]
theorem qwX (gl:Gl) (hg:GlLex gl):qa3 Tryz.prog gl (gam qqI):=(qds (qwo gl) (qb6 (K:=.glob qxU) (qvK hg) qag))
def qqD:LpsT:=fun r fr σ=>if r=500007 then rorc qpE (rngG qhH) 139 qA3 fr σ else .fail
def qoi (s:qU):Tr PV:=.ite (iLt 65536 (sLen s)) (.ret (.tup [.sl [] .non,.int .i64 0,.int .i64 2])) (.ite (qhU s) (.ite (qk8 (qbY s) (qbX s) (qbD s) (qbE s) (qbV s)) (.ret (.tup [.sl (qcj (qcT 0 (qiM (qbY s) (qbX s) (qbD s) (qbE s) (qbV s)))) .non,.int .i64 (qiW (qbY s) (qbX s) (qbD s) (qbE s) (qbV s)),.int .i64 (qgI (qbY s) (qbX s) (qbD s) (qbE s) (qbV s))])) (.ite (qk9 (qbY s) (qbX s) (qbD s) (qbE s) (qbV s)) (.ret (.tup [.sl (qcj (qcT 0 (qfV (qbY s) (qbX s) (qbD s) (qbE s) (qbV s)))) .non,.int .i64 0,.int .i64 0])) (.ite (qkR (qbY s) (qbX s) (qbD s) (qbE s) (qbV s)) (.ret (.tup [.sl (qcj (qcT 0 (qgo (qbY s) (qbX s) (qbD s) (qbE s) (qbV s)))) .non,.int .i64 0,.int .i64 0])) (.ite (qkn (qbY s) (qbX s) (qbD s) (qbE s) (qbV s)) (.ret (.tup [.sl (qcj (qcT 0 (qiX (qbY s) (qbX s) (qbD s) (qbE s) (qbV s)))) .non,.int .i64 (qiu (qbY s) (qbX s) (qbD s) (qbE s) (qbV s)),.int .i64 (qf0 (qbY s) (qbX s) (qbD s) (qbE s) (qbV s))])) .fail)))) .fail)
theorem qBk (s:qU):(tcall tbT qqI qqD Tryz.f80 [.str s]).flat=qoi s:=by kernel_rfl
def qgL (s:qU):Option PV:=(qoi s).run
def qdY (s:qU):List (List PV):=(gRow (gAt (gCs (gVal (qgL s))) 0))
def ql0 (s:qU):Int:=(gInt (gAt (gCs (gVal (qgL s))) 1))
def qhx (s:qU):Int:=(gInt (gAt (gCs (gVal (qgL s))) 2))
def qh1 (s:qU):Bool:=isW (qgL s) (.tup [.sl (qdY s) .non,.int .i64 (ql0 s),.int .i64 (qhx s)])
def qrh:List PV→Tr PV|[.str s]=>.ite (qh1 s) (.ret (.tup [.sl (qdY s) .non,.int .i64 (ql0 s),.int .i64 (qhx s)])) (.fail)|_=>.fail
theorem qwM (gl:Gl) (hg:GlLex gl):SimP Tryz.prog gl 80 fun args=>(qrh args).run:=by
 refine SimP.of_flat (G:=qqI) (L:=qqD) qav (qwX gl hg ) qai  Tryz.func80 rfl (by rfl) (by kernel_rfl) (qqM (L:=lps qqD) [] [(500007,rngO qhH)] (by kernel_rfl) (by kernel_rfl) (List.forall_mem_nil _) (List.forall_mem_cons.2 ⟨fun fr σ e fr' σ' h=>qt1 gl hg fr σ e fr' σ' h,(List.forall_mem_nil _)⟩)) ?_
 intro args x h;unfold qrh at h
 split at h
 ·exact (congrArg Tr.run (qBk _)).trans (qah h fun h=>by cases h)
 ·cases h
end Go.Pv
set_option maxHeartbeats 8000000
set_option maxRecDepth 200000
set_option linter.unusedSimpArgs false
set_option linter.unusedVariables false
namespace Go.Pv
open Go Go.Proofs Go.RowKit
theorem qAl {s:List UInt8} (hs:s.length≤140737488355328) (hne:s≠[]):∃ k x v,qbJ s=some (wTup k x v 0 (wdL s).isSome)∧∀ k' m v',wdL s=some (k',m,v')→k'=k∧x=s.take m∧v'=v:=by
 obtain⟨c,t,rfl⟩:=List.exists_cons_of_ne_nil hne;have val:∀ (k:Int) (n:Nat),(valL k (c::t) n).isSome=decide (eRd ((c::t).take n)=0)∧∀ k' m v',valL k (c::t) n=some (k',m,v')→k'=k∧(c::t).take n=(c::t).take m∧v'=(kRd ((c::t).take n),nRd ((c::t).take n),sRd ((c::t).take n)):=fun k n=>by
  unfold valL eRd kRd nRd sRd;cases h:rdV ((c::t).take n) with
  |none=>simp
  |some v =>
   refine⟨by simp,fun k' m v' he=>?_⟩
   cases he
   exact⟨rfl,rfl,rfl⟩
 by_cases h1:qfK c=true
 ·have e:runL innB (c::t)=runL innB t+1:=by simp [runL,innB,h1]
  refine⟨1,(c::t).take (runL innB t+1),(0,0,[]),?_,fun k' m v' he=>?_⟩
  ·rw [qs2 hs h1,e]
   congr 2
   simp only [wdL,h1,if_true];by_cases hl:runL innB t+1≤64<;>simp [hl]
  ·simp only [wdL,h1,if_true] at he;split at he
   ·cases he;exact⟨rfl,rfl,rfl⟩
   ·cases he
 ·have h1':qfK c=false:=by simpa using h1
  by_cases h2:qg9 c=true
  ·have e:runL innB (c::t)=runL innB t+1:=by simp [runL,innB,h2]
   refine⟨2,(c::t).take (runL innB t+1),(0,0,[]),?_,fun k' m v' he=>?_⟩
   ·rw [qtg hs h2,e]
    congr 2
    simp only [wdL,h1',h2,if_true,Bool.false_eq_true,if_false];by_cases hl:runL innB t+1≤64<;>simp [hl]
   ·simp only [wdL,h1',h2,if_true,Bool.false_eq_true,if_false] at he;split at he
    ·cases he;exact⟨rfl,rfl,rfl⟩
    ·cases he
  ·have h2':qg9 c=false:=by simpa using h2
   by_cases h3:c.toNat=95
   ·have hc:c=95:=UInt8.toNat_inj.1 h3;refine⟨3,[95],(0,0,[]),?_,fun k' m v' he=>?_⟩
    ·rw [qyI hs h3]
     congr 2
     simp only [wdL,h1',h2',h3,if_true,Bool.false_eq_true,if_false];cases hdIs innB t<;>simp
    ·simp only [wdL,h1',h2',h3,if_true,Bool.false_eq_true,if_false] at he;split at he
     ·cases he
     ·cases he;exact⟨rfl,by rw [hc];simp,rfl⟩
   ·have dg:qbJ (c::t)=some (dgW (c::t))→(qaH c || (decide (c.toNat=45)&&hdIs qaH t))=true→∃ k x v,qbJ (c::t)=some (wTup k x v 0 (wdL (c::t)).isSome)∧∀ k' m v',wdL (c::t)=some (k',m,v')→k'=k∧x=(c::t).take m∧v'=v:=fun hw hd=>by
     have e:wdL (c::t)=valL 4 (c::t) (runL qaH t+1):=by simp only [wdL,h1',h2',h3,hd,if_true,Bool.false_eq_true,if_false]
     obtain⟨v1,v2⟩:=val 4 (runL qaH t+1);refine⟨4,(c::t).take (runL qaH t+1),(kRd ((c::t).take (runL qaH t+1)),nRd ((c::t).take (runL qaH t+1)),sRd ((c::t).take (runL qaH t+1))),?_,fun k' m v' he=>v2 k' m v' (by rw [← e];exact he)⟩
     rw [hw,e,v1];rfl
    by_cases h4:qaH c=true
    ·exact dg (qBE hs h4) (by simp [h4])
    ·have h4':qaH c=false:=by simpa using h4
     by_cases h5:c.toNat=45∧hdIs qaH t=true
     ·cases t with
      |nil=>simp [hdIs] at h5
      |cons d u=>exact dg (qyb hs h5.1 h5.2) (by simp [h5.1,h5.2])
     ·have h5':(qaH c || (decide (c.toNat=45)&&hdIs qaH t))=false:=by
       rw [h4'];by_cases hc:c.toNat=45
       ·have:hdIs qaH t=false:=by
         cases hh:hdIs qaH t with
         |false=>rfl
         |true=>exact absurd ⟨hc,hh⟩ h5
        simp [this]
       ·simp [hc]
      by_cases h6:c.toNat=34
      ·have e:wdL (c::t)=if quoL t=0 then none else valL 5 (c::t) (quoL t+1):=by
        show (if qfK c=true then _ else _)=_
        rw [if_neg h1,if_neg h2,if_neg h3,if_neg (by rw [h5'];simp),if_pos h6]
       obtain⟨v1,v2⟩:=val 5 (symN t);refine⟨5,(c::t).take (symN t),(kRd ((c::t).take (symN t)),nRd ((c::t).take (symN t)),sRd ((c::t).take (symN t))),?_,fun k' m v' he=>?_⟩
       ·rw [qw5 hs h6,e];by_cases hq:quoL t=0
        ·rw [if_pos hq];unfold syW symN;rw [if_pos hq];have:eRd []=10:=by decide
         simp [this,wTup]
        ·rw [if_neg hq];unfold symN at v1 ⊢;rw [if_neg hq] at v1 ⊢;rw [v1];rfl
       ·rw [e] at he;by_cases hq:quoL t=0
        ·rw [if_pos hq] at he;cases he
        ·rw [if_neg hq] at he;refine v2 k' m v' ?_;unfold symN;rw [if_neg hq];exact he
      ·have e:wdL (c::t)=if qhq c t=0 then none else some (6,qhq c t,0,0,[]):=by
        show (if qfK c=true then _ else _)=_
        rw [if_neg h1,if_neg h2,if_neg h3,if_neg (by rw [h5'];simp),if_neg h6]
       have hm:=qwT hs h1' h2' h3 h4' (fun hc=>by
        cases hh:hdIs qaH t with
        |false=>rfl
        |true=>exact absurd ⟨hc,hh⟩ h5) h6
       unfold mkW at hm;cases ht:hdIs (twoB c) t with
       |true =>
        rw [ht,if_pos rfl] at hm;have em:qhq c t=2:=by simp [qhq,ht]
        refine⟨6,(c::t).take 2,(0,0,[]),?_,fun k' m v' he=>?_⟩
        ·rw [hm,e,em];rfl
        ·rw [e,em] at he;cases he
         exact⟨rfl,rfl,rfl⟩
       |false =>
        rw [ht,if_neg (by simp)] at hm
        refine⟨6,[c],(0,0,[]),?_,fun k' m v' he=>?_⟩
        ·rw [hm,e]
         congr 2
         unfold qhq;rw [ht];cases qkv c<;>simp
        ·rw [e] at he;split at he
         ·cases he
         ·rename_i hn;have em:qhq c t=1:=by
           unfold qhq at hn ⊢;rw [ht] at hn ⊢;cases ho:qkv c with
           |true=>simp
           |false=>simp [ho] at hn
          rw [em] at he;cases he
          exact⟨rfl,by simp,rfl⟩
def wdT:List TypeId:=[75,3,38,75,9]
def lst (s:qU) (st:Nat) (n n2:Int):List Wd→Store
 |[]=>⟨[[.sl [] .full],[.int .i64 n],[.int .i64 n2],[.sl [] .full],[.str s]],[(st,0,1)],wdT⟩
 |a::l=>⟨[[.sl [] .full],[.int .i64 n],[.int .i64 n2],[.sl (rOf cW (a::l)) (.tok 1)],[.str s]],[(st,0,1),((a::l).length,6,120)],wdT⟩
theorem qBO (s:qU) (st:Nat) (n n2:Int) (l:List Wd) (a:Wd):lst s st n n2 (l++[a])=⟨[[.sl [] .full],[.int .i64 n],[.int .i64 n2],[.sl (rOf cW (l++[a])) (.tok 1)],[.str s]],[(st,0,1),((l++[a]).length,6,120)],wdT⟩:=by
 cases l<;>rfl
def wEnd (s:qU) (acc:List Wd):List Wd×Option Nat→Option (PExit×List PV×Store)
 |(l,none)=>some (.exit 0,[],lst s 0 0 0 (acc++l))
 |(l,some p)=>some (.ret,[],lst s 2 (p:Nat) 120 (acc++l))
theorem qlz (f i:Nat):lexL f i []=([],none):=by cases f<;>rfl
theorem qCR (s:qU) (hs:s.length≤70000):∀ (f i:Nat) (acc:List Wd),i≤s.length→s.length < i+f→acc.length≤i→qeA [.yld 0,.ptr 4 0,.int .i64 (i:Nat)] (lst s 0 0 0 acc)=wEnd s acc (lexL f i (s.drop i)):=by
 intro f
 induction f with
 |zero=>intro i acc h1 h2 _;omega
 |succ f ih =>
  intro i acc h1 h2 h3;by_cases hlt:i < s.length
  ·have hS:sSub s (nNat (i:Int)) (nLen s)=s.drop i:=by simp
   have hne:s.drop i≠[]:=by
    intro h;have:=congrArg List.length h;simp at this;omega
   have hSl:(s.drop i).length≤140737488355328:=by simp;omega
   obtain⟨k,x,v,hw,hw2⟩:=qAl hSl hne;have a0:qhj (s.drop i)=true:=by simp [qhj,qb1,qa2,qbC,qbA,qbB,qp3,qeh,hw,wTup]
   have a1:qb1 (s.drop i)=k:=by simp [qb1,hw,wTup]
   have a2:qa2 (s.drop i)=x:=by simp [qa2,hw,wTup]
   have a3:qbC (s.drop i)=v.1:=by simp [qbC,hw,wTup]
   have a4:qbA (s.drop i)=v.2.1:=by simp [qbA,hw,wTup]
   have a5:qbB (s.drop i)=v.2.2:=by simp [qbB,hw,wTup]
   have a6:qeh (s.drop i)=(wdL (s.drop i)).isSome:=by simp [qeh,hw,wTup]
   have t1:iLt (i:Int) (sLen s)=true:=by simp;omega
   have t2:qaC (qao (i:Int)) true (nNat (i:Int)) (nLen s) (nLen s)=true:=by simp;omega
   have eL:lexL (f+1) i (s.drop i)=match wdL (s.drop i) with
     |none=>([],some i)
     |some (k,m,v) =>
      ((k,(s.drop i).take m,v,(i:Int))::(lexL f (i+m+gapL false ((s.drop i).drop m)) ((s.drop i).drop (m+gapL false ((s.drop i).drop m)))).1,(lexL f (i+m+gapL false ((s.drop i).drop m)) ((s.drop i).drop (m+gapL false ((s.drop i).drop m)))).2):=by
    obtain⟨c,t,hct⟩:=List.exists_cons_of_ne_nil hne;rw [hct];rfl
   rw [eL];cases hwd:wdL (s.drop i) with
   |none =>
    rw [hwd] at a6;cases acc with
    |nil =>
     show qeA _ ⟨_,_,_⟩=_
     simp only [wdT];rw [qAa];simp only [qmX,hS,a0,a1,a2,a3,a4,a5,a6,t1,t2];simp [wEnd,lst,wdT]
    |cons a l =>
     show qeA _ ⟨_,_,_⟩=_
     simp only [wdT];rw [qto];simp only [qj5,hS,a0,a1,a2,a3,a4,a5,a6,t1,t2];simp [wEnd,lst,wdT]
   |some r =>
    obtain⟨k',m,v'⟩:=r;obtain⟨rfl,rfl,rfl⟩:=hw2 k' m v' hwd;rw [hwd] at a6;obtain⟨m1,m2⟩:=qnX hwd;have hx:((s.drop i).take m).length=m:=by rw [List.length_take];omega
    have m3:i+m≤s.length:=by simp at m2;omega
    have e1:iAdd .i64 (i:Int) (sLen ((s.drop i).take m))=((i+m:Nat):Int):=by
     rw [qnq,hx];exact qdF (by omega)
    have hS2:sSub s (nNat ((i+m:Nat):Int)) (nLen s)=s.drop (i+m):=by simp only [qxJ,qw8,qyK,Int.toNat_natCast,List.take_length]
    have t3:qaC (qao ((i+m:Nat):Int)) true (nNat ((i+m:Nat):Int)) (nLen s) (nLen s)=true:=by simp;omega
    have g1:qd0 (s.drop (i+m))=true:=qzl (by simp;omega)
    have g2:qa0 (s.drop (i+m))=(gapL false (s.drop (i+m)):Nat):=qB5 (by simp;omega)
    have g3:=qna false (s.drop (i+m));have e2:iAdd .i64 ((i+m:Nat):Int) ((gapL false (s.drop (i+m)):Nat):Int)=((i+m+gapL false (s.drop (i+m)):Nat):Int):=qdF (by simp at g3;omega)
    have hd1:(s.drop i).drop m=s.drop (i+m):=by rw [List.drop_drop]
    have hd2:(s.drop i).drop (m+gapL false (s.drop (i+m)))=s.drop (i+m+gapL false (s.drop (i+m))):=by rw [List.drop_drop];congr 1;omega
    simp only [hd1,hd2];have hih:=ih (i+m+gapL false (s.drop (i+m))) (acc++[(k',(s.drop i).take m,v',(i:Int))]) (by simp at g3;omega) (by omega) (by simp;omega)
    have hfin:wEnd s (acc++[(k',(s.drop i).take m,v',(i:Int))]) (lexL f (i+m+gapL false (s.drop (i+m))) (s.drop (i+m+gapL false (s.drop (i+m)))))=wEnd s acc ((k',(s.drop i).take m,v',(i:Int))::(lexL f (i+m+gapL false (s.drop (i+m))) (s.drop (i+m+gapL false (s.drop (i+m))))).1,(lexL f (i+m+gapL false (s.drop (i+m))) (s.drop (i+m+gapL false (s.drop (i+m))))).2):=by
     cases hr:lexL f (i+m+gapL false (s.drop (i+m))) (s.drop (i+m+gapL false (s.drop (i+m)))) with
     |mk l o=>cases o<;>simp [wEnd]
    rw [← hfin,← hih,qBO];cases acc with
    |nil =>
     show qeA _ ⟨_,_,_⟩=_
     simp only [wdT];rw [qAa];have o1:qbm [] [[PV.int .i64 k',.str ((s.drop i).take m),.int .i64 v'.1,.int .i64 v'.2.1,.str v'.2.2,.int .i64 (i:Int)]] 64=true:=by simp
     have o2:qbf [[PV.int .i64 k',.str ((s.drop i).take m),.int .i64 v'.1,.int .i64 v'.2.1,.str v'.2.2,.int .i64 (i:Int)]] 6=true:=by simp [one]
     simp only [qmX,hS,a0,a1,a2,a3,a4,a5,a6,t1,t2,e1,hS2,t3,g1,g2,e2,o1,o2];simp [qFU,qCW]
    |cons a l =>
     show qeA _ ⟨_,_,_⟩=_
     simp only [wdT];rw [qto];have o1:qbm (rOf cW (a::l)) [[PV.int .i64 k',.str ((s.drop i).take m),.int .i64 v'.1,.int .i64 v'.2.1,.str v'.2.2,.int .i64 (i:Int)]] 64=true:=by
      simp only [List.length_cons] at h3;simp;omega
     have o2:qbf [[PV.int .i64 k',.str ((s.drop i).take m),.int .i64 v'.1,.int .i64 v'.2.1,.str v'.2.2,.int .i64 (i:Int)]] 6=true:=by simp [one]
     simp only [qj5,hS,a0,a1,a2,a3,a4,a5,a6,t1,t2,e1,hS2,t3,g1,g2,e2,o1,o2];simp [qEt]
  ·have:i=s.length:=by omega
   subst this;rw [List.drop_eq_nil_of_le (Nat.le_refl _),qlz];have t1:iLt (s.length:Int) (sLen s)=false:=by simp
   cases acc with
   |nil =>
    show qeA _ ⟨_,_,_⟩=_
    simp only [wdT];rw [qAa];simp only [qmX,t1];simp [wEnd,lst,wdT]
   |cons a l =>
    show qeA _ ⟨_,_,_⟩=_
    simp only [wdT];rw [qto];simp only [qj5,t1];simp [wEnd,lst,wdT]
def qqU (s:qU):List Wd×Option Nat→Option (PV×Store)
 |(l,none)=>some (.tup [],lst s 0 0 0 l)
 |(l,some p)=>some (.tup [],lst s 2 (p:Nat) 120 l)
theorem qC0 {s:List UInt8} (hs:s.length≤70000):qdk [] 0 0 [] s=qqU s (qeF s):=by
 have hg:=qna false s;have h:=qCR s hs (s.length+1) (gapL false s) [] hg (by omega) (by simp)
 rw [show lexL (s.length+1) (gapL false s) (s.drop (gapL false s))=qeF s from rfl] at h
 unfold qdk qxC;rw [qzl (by omega),qB5 (by omega)]
 generalize qeF s=r at h ⊢;simp only [lst,wdT] at h
 generalize ((gapL false s:Nat):Int)=g at h ⊢;obtain⟨l,o⟩:=r;cases o with
 |none =>
  cases l with
  |nil =>
   simp only [wEnd,lst,wdT,List.append_nil,List.nil_append] at h
   simp only [qhQ,qhL,qhS,qhG,qhR,qhW,qhT,qg2,qg5,qgC,qgj,qep,qeu,qez,qew,qd5,qej,qeE,qg7,qgx,qgP,qge,qf4,qga,qg1,qeJ,qeB,qer,qek,qex,qd6,qee,qgW,qgN,qgh,qgf,qgu,qgE,qgs,qf3,qgM,qgT,qfU,qf2,qf7,qgD,qbe,h];simp [-qeo,qqU,lst,wdT]
  |cons a l =>
   simp only [wEnd,lst,wdT,List.nil_append] at h
   simp only [qhQ,qhL,qhS,qhG,qhR,qhW,qhT,qg2,qg5,qgC,qgj,qep,qeu,qez,qew,qd5,qej,qeE,qg7,qgx,qgP,qge,qf4,qga,qg1,qeJ,qeB,qer,qek,qex,qd6,qee,qgW,qgN,qgh,qgf,qgu,qgE,qgs,qf3,qgM,qgT,qfU,qf2,qf7,qgD,qbe,h];simp [-qeo,qqU,lst,wdT]
 |some p =>
  cases l with
  |nil =>
   simp only [wEnd,lst,wdT,List.append_nil,List.nil_append] at h
   simp only [qhQ,qhL,qhS,qhG,qhR,qhW,qhT,qg2,qg5,qgC,qgj,qep,qeu,qez,qew,qd5,qej,qeE,qg7,qgx,qgP,qge,qf4,qga,qg1,qeJ,qeB,qer,qek,qex,qd6,qee,qgW,qgN,qgh,qgf,qgu,qgE,qgs,qf3,qgM,qgT,qfU,qf2,qf7,qgD,qbe,h];simp [-qeo,qqU,lst,wdT]
  |cons a l =>
   simp only [wEnd,lst,wdT,List.nil_append] at h
   simp only [qhQ,qhL,qhS,qhG,qhR,qhW,qhT,qg2,qg5,qgC,qgj,qep,qeu,qez,qew,qd5,qej,qeE,qg7,qgx,qgP,qge,qf4,qga,qg1,qeJ,qeB,qer,qek,qex,qd6,qee,qgW,qgN,qgh,qgf,qgu,qgE,qgs,qf3,qgM,qgT,qfU,qf2,qf7,qgD,qbe,h];simp [-qeo,qqU,lst,wdT]
def wOut:List Wd×Option Nat→PV
 |(l,none)=>.tup [.sl (rOf cW l) .non,.int .i64 0,.int .i64 0]
 |(_,some p)=>.tup [.sl [] .non,.int .i64 (p:Nat),.int .i64 120]
theorem qwb {s:List UInt8} (hs:s.length≤70000):qgL s=some (if 65536 < s.length then .tup [.sl [] .non,.int .i64 0,.int .i64 2] else wOut (qeF s)):=by
 have h:=qC0 hs;unfold qgL qoi;have b:qe2 s=some (.fn 139 [.ptr 4 0],⟨[[.sl [] .full],[.int .i64 0],[.int .i64 0],[.sl [] .full],[.str s]],[],wdT⟩):=by simp [-qeo,qe2,qoA,wdT]
 have b0:qhU s=true:=by
  simp only [qhU,qbX,qbD,qbY,qbE,qbV,b,wdT];simp [-qeo]
 have b1:qbX s=0:=by simp only [qbX,b];simp [-qeo]
 have b2:qbD s=0:=by simp only [qbD,b];simp [-qeo]
 have b3:qbY s=[]:=by simp only [qbY,b];simp [-qeo]
 have b4:qbE s=[]:=by simp only [qbE,b];simp [-qeo]
 have b5:qbV s=s:=by simp only [qbV,b];simp [-qeo]
 rw [b0,b1,b2,b3,b4,b5];by_cases hl:65536 < s.length
 ·have:iLt 65536 (sLen s)=true:=by simp;omega
  rw [this,if_pos hl];rfl
 ·have:iLt 65536 (sLen s)=false:=by simp;omega
  rw [this,if_neg hl];generalize qeF s=r at h ⊢;obtain⟨l,o⟩:=r;cases o with
  |none =>
   cases l with
   |nil =>
    simp only [qqU,lst,wdT] at h
    simp only [qk8,qk9,qkR,qkn,qkX,qlf,qgI,qhP,qhI,qf0,qiW,qko,qkx,qiu,qhV,qfV,qgo,qhX,qiM,qkU,qkC,qiX,qkA,qkV,qkQ,qkW,h];simp [-qeo,wOut]
   |cons a l =>
    simp only [qqU,lst,wdT] at h
    simp only [qk8,qk9,qkR,qkn,qkX,qlf,qgI,qhP,qhI,qf0,qiW,qko,qkx,qiu,qhV,qfV,qgo,qhX,qiM,qkU,qkC,qiX,qkA,qkV,qkQ,qkW,h];simp [-qeo,wOut]
  |some p =>
   cases l with
   |nil =>
    simp only [qqU,lst,wdT] at h
    simp only [qk8,qk9,qkR,qkn,qkX,qlf,qgI,qhP,qhI,qf0,qiW,qko,qkx,qiu,qhV,qfV,qgo,qhX,qiM,qkU,qkC,qiX,qkA,qkV,qkQ,qkW,h];simp [-qeo,wOut]
   |cons a l =>
    simp only [qqU,lst,wdT] at h
    simp only [qk8,qk9,qkR,qkn,qkX,qlf,qgI,qhP,qhI,qf0,qiW,qko,qkx,qiu,qhV,qfV,qgo,qhX,qiM,qkU,qkC,qiX,qkA,qkV,qkQ,qkW,h];simp [-qeo,wOut]
end Go.Pv
set_option maxHeartbeats 8000000
set_option maxRecDepth 200000
set_option linter.unusedSimpArgs false
set_option linter.unusedVariables false
namespace Go.Pv
open Go Go.Proofs Go.RowKit
end Go.Pv
set_option maxHeartbeats 8000000
set_option maxRecDepth 200000
set_option linter.unusedSimpArgs false
set_option linter.unusedVariables false
namespace Go.Pv
open Go Go.Proofs Go.RowKit
def wL (s:qU):List Wd:=match qeF s with|(l,none)=>l|_=>[]
def wN (s:qU):Int:=match (qeF s).2 with|none=>0|some p=>(p:Nat)
def wE (s:qU):Int:=match (qeF s).2 with|none=>0|some _=>120
theorem qEb (s:qU):wOut (qeF s)=.tup [.sl (rOf cW (wL s)) .non,.int .i64 (wN s),.int .i64 (wE s)]:=by
 unfold wL wN wE;cases h:qeF s with
 |mk l o=>cases o<;>rfl
theorem qh8 {s:List UInt8} (hs:s.length≤65536):qgL s=some (.tup [.sl (rOf cW (wL s)) .non,.int .i64 (wN s),.int .i64 (wE s)]):=by
 rw [qwb (by omega),if_neg (by omega),qEb]
section
variable {s : List UInt8} (hs : s.length ≤ 65536)
include hs
theorem qpk:qdY s=rOf cW (wL s):=by simp only [qdY,qh8 hs];simp
theorem qwx:ql0 s=wN s:=by simp only [ql0,qh8 hs];simp
theorem qph:qhx s=wE s:=by simp only [qhx,qh8 hs];simp
theorem qsQ:qh1 s=true:=by simp only [qh1,qpk hs,qwx hs,qph hs,qh8 hs];simp
end
end Go.Pv
set_option maxHeartbeats 8000000
set_option maxRecDepth 200000
set_option linter.unusedSimpArgs false
set_option linter.unusedVariables false
namespace Go.Pv
open Go Go.Proofs Go.RowKit
def gpB (b:UInt8):Bool:=blB b || decide (b.toNat=37)
def Nxt (r r':qU):Prop:=r'=[]∨hdIs gpB r'=true∨∃ b t t',r=b::t∧r'=b::t'
theorem qlT {p:UInt8→Bool} (hp:∀ b,gpB b=true→p b=false) {r r':List UInt8} (hn:Nxt r r') (h:hdIs p r=false):hdIs p r'=false:=by
 rcases hn with rfl|hg|⟨b,t,t',rfl,rfl⟩
 ·rfl
 ·cases r' with
  |nil=>rfl
  |cons b t=>exact hp b hg
 ·exact h
theorem qlK {p:UInt8→Bool} (hp:∀ b,gpB b=true→p b=false) {r r':List UInt8} (hn:Nxt r r'):∀ t:qU,runL p (t++r)=t.length→runL p (t++r')=t.length
 |[],h=>by
  have h1:hdIs p r=false:=by
   cases r with
   |nil=>rfl
   |cons b t =>
    simp only [List.nil_append,runL,List.length_nil] at h
    cases hb:p b with
    |false=>exact hb
    |true=>rw [hb] at h;simp at h
  have h2:=qlT hp hn h1;cases r' with
  |nil=>rfl
  |cons b t =>
   have h2:p b=false:=h2;simp [runL,h2]
 |a::t,h=>by
  simp only [List.cons_append,runL,List.length_cons] at h ⊢;cases ha:p a with
  |false=>rw [ha] at h;simp at h
  |true =>
   rw [ha] at h
   simp only [if_true,Nat.add_right_cancel_iff] at h ⊢;exact qlK hp hn t h
theorem qqs {n m:Nat} (h:incN n=m+1):n=m∧m≠0:=by
 unfold incN at h
 split at h<;>omega
theorem qi6 (r r':qU):∀ (e:Bool) (t:qU),quoE e (t++r)=t.length→t.length≠0→quoE e (t++r')=t.length
 |_,[],_,h=>absurd rfl h
 |true,a::t,h,_=>by
  simp only [List.cons_append,quoE,List.length_cons] at h ⊢;obtain⟨h1,h2⟩:=qqs h;rw [qi6 r r' false t h1 h2];simp [incN,h2]
 |false,a::t,h,_=>by
  simp only [List.cons_append,quoE,List.length_cons] at h ⊢;split at h
  ·rename_i h1;rw [if_pos h1];exact h
  ·rename_i h1;rw [if_neg h1];split at h
   ·rename_i h2;rw [if_pos h2];obtain⟨h1,h2⟩:=qqs h;rw [qi6 r r' true t h1 h2];simp [incN,h2]
   ·rename_i h2;rw [if_neg h2];obtain⟨h1,h2⟩:=qqs h;rw [qi6 r r' false t h1 h2];simp [incN,h2]
theorem qgQ {b:UInt8} (h:gpB b=true):b.toNat=32∨b.toNat=9∨b.toNat=10∨b.toNat=13∨b.toNat=37:=by
 simp only [gpB,blB,Bool.or_eq_true,decide_eq_true_eq] at h
 omega
theorem quT (b:UInt8) (h:gpB b=true):innB b=false:=by
 rcases qgQ h with h|h|h|h|h<;>simp [innB,qfK,qg9,qaH,h]
theorem qD2 (b:UInt8) (h:gpB b=true):qaH b=false:=by
 rcases qgQ h with h|h|h|h|h<;>simp [qaH,h]
theorem qFg (c b:UInt8) (h:gpB b=true):twoB c b=false:=by
 rcases qgQ h with h|h|h|h|h<;>simp [twoB,h]
theorem qeH {k k':Int} {s:List UInt8} {n m:Nat} {v:Vl} (h:valL k s n=some (k',m,v)):k'=k∧m=n∧rdV (s.take n)=some v:=by
 unfold valL at h
 split at h
 ·rename_i v' hv;cases h
  exact⟨rfl,rfl,hv⟩
 ·cases h
theorem qpD {k:Int} {s s':List UInt8} {n m:Nat} {k':Int} {v:Vl} (h:valL k s n=some (k',m,v)) (e:s'.take n=s.take n):valL k s' n=some (k',m,v):=by
 unfold valL at h ⊢;rw [e];exact h
theorem qDx {x r r':List UInt8} {k:Int} {v:Vl} (h:wdL (x++r)=some (k,x.length,v)) (hn:Nxt r r'):wdL (x++r')=some (k,x.length,v):=by
 have hl:=(qnX h).1;cases x with
 |nil=>simp at hl
 |cons c t =>
  simp only [List.cons_append,wdL,List.length_cons] at h ⊢;by_cases h1:qfK c=true
  ·simp only [h1,if_true] at h ⊢;split at h
   ·rename_i h2;simp only [Option.some.injEq,Prod.mk.injEq,Nat.add_right_cancel_iff] at h
    obtain⟨rfl,h3,rfl⟩:=h;have:=qlK quT hn t h3;rw [this,if_pos (by omega)]
   ·cases h
  ·rw [if_neg h1] at h ⊢;by_cases h2:qg9 c=true
   ·simp only [h2,if_true] at h ⊢;split at h
    ·rename_i h4;simp only [Option.some.injEq,Prod.mk.injEq,Nat.add_right_cancel_iff] at h
     obtain⟨rfl,h3,rfl⟩:=h;have:=qlK quT hn t h3;rw [this,if_pos (by omega)]
    ·cases h
   ·rw [if_neg h2] at h ⊢;by_cases h3:c.toNat=95
    ·rw [if_pos h3] at h ⊢;split at h
     ·cases h
     ·rename_i h4;simp only [Option.some.injEq,Prod.mk.injEq] at h
      obtain⟨rfl,h5,rfl⟩:=h;have ht:t=[]:=by cases t with|nil=>rfl|cons=>simp at h5
      subst ht;have h6:=qlT quT hn (by simpa using h4)
      simp [h6]
    ·rw [if_neg h3] at h ⊢;have dgs:∀ q:Bool,(q || (decide (c.toNat=45)&&hdIs qaH (t++r)))=(q || (decide (c.toNat=45)&&hdIs qaH (t++r')))∨(t=[]∧hdIs qaH r=true):=by
      intro q;cases t with
      |cons a t=>exact .inl rfl
      |nil =>
       cases hr:hdIs qaH r with
       |true=>exact .inr ⟨rfl,rfl⟩
       |false =>
        have:=qlT qD2 hn hr
        left
        simp [hr,this]
     by_cases h4:(qaH c || (decide (c.toNat=45)&&hdIs qaH (t++r)))=true
     ·rw [if_pos h4] at h
      obtain⟨hk,hm,hv⟩:=qeH h;have h5:runL qaH (t++r)=t.length:=by omega
      have h6:=qlK qD2 hn t h5;have h7:(qaH c || (decide (c.toNat=45)&&hdIs qaH (t++r')))=true:=by
       rcases dgs (qaH c) with e|⟨rfl,e⟩
       ·rw [← e];exact h4
       ·cases r with
        |nil=>simp [hdIs] at e
        |cons b u =>
         have e:qaH b=true:=e;simp [runL,e] at h5
      rw [if_pos h7,h6];rw [h5] at h
      refine qpD h ?_;simp
     ·rw [if_neg h4] at h
      have h7:¬ (qaH c || (decide (c.toNat=45)&&hdIs qaH (t++r')))=true:=by
       rcases dgs (qaH c) with e|⟨rfl,e⟩
       ·rw [← e];exact h4
       ·intro hh;apply h4;simp only [List.nil_append,Bool.or_eq_true,Bool.and_eq_true] at hh ⊢;rcases hh with hh|⟨hh,_⟩
        ·exact .inl hh
        ·exact .inr ⟨hh,e⟩
      rw [if_neg h7];by_cases h5:c.toNat=34
      ·rw [if_pos h5] at h ⊢;split at h
       ·cases h
       ·rename_i h6;obtain⟨hk,hm,hv⟩:=qeH h;have h8:quoL (t++r)=t.length:=by omega
        have h9:quoL (t++r')=t.length:=qi6 r r' false t h8 (by omega)
        rw [h9,if_neg (by omega)]
        rw [h8] at h
        refine qpD h ?_;simp
      ·rw [if_neg h5] at h ⊢;split at h
       ·cases h
       ·rename_i h6;simp only [Option.some.injEq,Prod.mk.injEq] at h
        obtain⟨rfl,h8,rfl⟩:=h;have h9:qhq c (t++r')=t.length+1:=by
         unfold qhq at h8 ⊢;cases t with
         |nil =>
          show (if hdIs (twoB c) r'=true then 2 else if qkv c=true then 1 else 0)=1
          have h8:(if hdIs (twoB c) r=true then 2 else if qkv c=true then 1 else 0)=1:=h8;cases hr:hdIs (twoB c) r with
          |true=>rw [if_pos hr] at h8;omega
          |false =>
           rw [if_neg (by rw [hr];simp)] at h8
           rw [if_neg (by rw [qlT (qFg c) hn hr];simp)]
           exact h8
         |cons d t =>
          simp only [List.cons_append,hdIs] at h8 ⊢;exact h8
        rw [h9];simp
def gpS:Bool→qU→Option Bool
 |c,[]=>some c
 |c,b::s=>if c || blB b || decide (b.toNat=37) then gpS (decide (b.toNat=37) || c&&decide (b.toNat≠10)) s else none
theorem quy:∀ (g:qU) (c c':Bool) (s:qU),gpS c g=some c'→gapL c (g++s)=g.length+gapL c' s
 |[],c,c',s,h=>by cases h;simp
 |b::g,c,c',s,h=>by
  simp only [gpS] at h
  split at h
  ·rename_i hb;simp only [List.cons_append,gapL,hb,if_true,List.length_cons];rw [quy g _ c' s h];omega
  ·cases h
theorem qpK:∀ (g:qU) (c c':Bool) (s:qU),gpS c g=some c'→gpS c (g++s)=gpS c' s
 |[],c,c',s,h=>by cases h;simp
 |b::g,c,c',s,h=>by
  simp only [gpS] at h
  split at h
  ·rename_i hb;simp only [List.cons_append,gpS,hb,if_true];exact qpK g _ c' s h
  ·cases h
theorem qpL:∀ (s:qU) (c:Bool),gapL c s=s.length↔∃ c',gpS c s=some c'
 |[],c=>by simp [gapL,gpS]
 |b::s,c=>by
  have ih:=qpL s (decide (b.toNat=37) || c&&decide (b.toNat≠10));simp only [gapL,gpS,List.length_cons];split
  ·rw [← ih];omega
  ·simp
theorem qqA:∀ (s:qU) (c:Bool),gapL c s < s.length→gpS c (s.take (gapL c s))=some false
 |[],c,h=>by simp at h
 |b::s,c,h=>by
  have ih:=qqA s (decide (b.toNat=37) || c&&decide (b.toNat≠10));simp only [gapL,List.length_cons] at h ⊢;split
  ·rename_i hb;rw [if_pos hb] at h
   simp only [List.take_succ_cons,gpS,hb,if_true];exact ih (by omega)
  ·rename_i hb;simp only [List.take_zero,gpS];cases c<;>simp_all
theorem qoc:∀ (s:qU) (c:Bool),gapL false (s.drop (gapL c s))=0
 |[],c=>by simp [gapL]
 |b::s,c=>by
  simp only [gapL];split
  ·simpa using qoc s _
  ·rename_i hb;have hb:(c || blB b || decide (b.toNat=37))=false:=by simpa using hb
   simp only [Bool.or_eq_false_iff] at hb;simp [gapL,hb.1.2,hb.2]
theorem qBc {s:List UInt8} {r} (h:wdL s=some r):gapL false s=0:=by
 cases s with
 |nil=>rfl
 |cons b s =>
  simp only [gapL,Bool.false_or];split
  ·rename_i hb;have hb:gpB b=true:=hb
   exfalso
   have hi:=quT b hb;have hd:=qD2 b hb;simp only [innB,Bool.or_eq_false_iff] at hi;have h34:b.toNat≠34:=by rcases qgQ hb with h|h|h|h|h<;>omega
   have h45:b.toNat≠45:=by rcases qgQ hb with h|h|h|h|h<;>omega
   have h95:b.toNat≠95:=by simpa using hi.2
   have hm:qhq b s=0:=by
    unfold qhq;have h1:hdIs (twoB b) s=false:=by
     cases s with
     |nil=>rfl
     |cons d s=>rcases qgQ hb with h|h|h|h|h<;>simp [hdIs,twoB,h]
    have h2:qkv b=false:=by rcases qgQ hb with h|h|h|h|h<;>simp [qkv,h]
    rw [h1,h2];rfl
   simp [wdL,hi.1.1.1,hi.1.1.2,h95,hd,h45,h34,hm] at h
  ·rfl
abbrev Wv:=Int×List UInt8×Vl
def stW (w:Wd):Wv:=(w.1,w.2.1,w.2.2.1)
inductive Lx:List Wv→qU→Prop
 |nil (s:qU) (c:Bool) (h:gpS false s=some c):Lx [] s
 |cons (g x r:qU) (k:Int) (v:Vl) (l:List Wv) (hg:gpS false g=some false) (hw:wdL (x++r)=some (k,x.length,v)) (h:Lx l r):Lx ((k,x,v)::l) (g++(x++r))
theorem Lx.pre {g:List UInt8} (hg:gpS false g=some false) {l:List Wv} {s:List UInt8} (h:Lx l s):Lx l (g++s):=by
 cases h with
 |nil s c h=>exact .nil _ c (by rw [qpK g false false s hg];exact h)
 |cons g' x r k v l hg' hw h =>
  rw [← List.append_assoc];exact .cons _ x r k v l (by rw [qpK g false false g' hg];exact hg') hw h
theorem Lx.tail {z:List UInt8} (hz:hdIs gpB z=true) (h0:∀ c,∃ c',gpS c z=some c') {l:List Wv} {s:List UInt8} (h:Lx l s):Lx l (s++z):=by
 induction h with
 |nil s c h =>
  obtain⟨c',hc⟩:=h0 c;exact .nil _ c' (by rw [qpK s false c z h];exact hc)
 |cons g x r k v l hg hw h ih =>
  rw [List.append_assoc,List.append_assoc];refine .cons g x (r++z) k v l hg (qDx hw ?_) ih;cases r with
  |nil=>exact .inr (.inl hz)
  |cons b r=>exact .inr (.inr ⟨b,r,r++z,rfl,rfl⟩)
theorem qF9:∀ (f i:Nat) (s:qU) (l:List Wd),s.length < f→gapL false s=0→lexL f i s=(l,none)→Lx (l.map stW) s:=by
 intro f
 induction f with
 |zero=>intro i s l h;omega
 |succ f ih =>
  intro i s l hf hg h;cases s with
  |nil =>
   simp only [lexL,Prod.mk.injEq] at h
   obtain⟨rfl,_⟩:=h;exact .nil [] false rfl
  |cons c t =>
   simp only [lexL] at h
   cases hw:wdL (c::t) with
   |none=>rw [hw] at h;simp at h
   |some r =>
    obtain⟨k,m,v⟩:=r;rw [hw] at h
    simp only [Prod.mk.injEq] at h
    obtain⟨h1,h2⟩:=h;obtain⟨m1,m2⟩:=qnX hw;generalize hs:c::t=s at *;have hd:s.drop (m+gapL false (s.drop m))=(s.drop m).drop (gapL false (s.drop m)):=List.drop_drop.symm;rw [hd] at h1 h2;have hgl:=qna false (s.drop m);have hx:s=[]++(s.take m++s.drop m):=(List.take_append_drop m s).symm;have hm:(s.take m).length=m:=by rw [List.length_take];omega
    have ih1:=ih (i+m+gapL false (s.drop m)) ((s.drop m).drop (gapL false (s.drop m))) (lexL f (i+m+gapL false (s.drop m)) ((s.drop m).drop (gapL false (s.drop m)))).1 (by simp only [List.length_drop];omega) (qoc _ _) (Prod.ext rfl h2)
    rw [hx,← h1];refine .cons [] (s.take m) (s.drop m) k v _ rfl (by rw [List.take_append_drop,hm];exact hw) ?_
    by_cases he:gapL false (s.drop m)=(s.drop m).length
    ·have:(s.drop m).drop (gapL false (s.drop m))=[]:=by rw [he];exact List.drop_length
     rw [this,qlz];obtain⟨c',hc⟩:=(qpL _ _).1 he;exact .nil _ c' hc
    ·have h3:=qqA (s.drop m) false (by omega)
     have h4:=Lx.pre h3 ih1
     rwa [List.take_append_drop] at h4
theorem qBG {s:List UInt8} {l:List Wd} (h:qeF s=(l,none)):Lx (l.map stW) s:=by
 unfold qeF at h
 have hgl:=qna false s;have h1:=qF9 _ _ _ _ (by simp;omega) (qoc _ _) h
 by_cases he:gapL false s=s.length
 ·have:s.drop (gapL false s)=[]:=by rw [he];exact List.drop_length
  rw [this,qlz] at h
  simp only [Prod.mk.injEq] at h
  obtain⟨rfl,_⟩:=h;obtain⟨c',hc⟩:=(qpL _ _).1 he;exact .nil _ c' hc
 ·have h4:=Lx.pre (qqA s false (by omega)) h1
  rwa [List.take_append_drop] at h4
theorem qFf {l:List Wv} {s:List UInt8} (h:Lx l s):∀ (f i:Nat),s.length < f→∃ l',lexL f i (s.drop (gapL false s))=(l',none)∧l'.map stW=l:=by
 induction h with
 |nil s c h =>
  intro f i hf;have:=(qpL s false).2 ⟨c,h⟩;rw [this,List.drop_length,qlz];exact⟨[],rfl,rfl⟩
 |cons g x r k v l hg hw h ih =>
  intro f i hf;obtain⟨m1,m2⟩:=qnX hw;have e:gapL false (g++(x++r))=g.length:=by rw [quy g false false _ hg,qBc hw];rfl
  rw [e,List.drop_left];cases f with
  |zero=>omega
  |succ f =>
   have hne:x++r≠[]:=by
    intro hh;rw [hh,List.length_nil] at m2;omega
   have eL:lexL (f+1) i (x++r)=match wdL (x++r) with
     |none=>([],some i)
     |some (k,m,v) =>
      ((k,(x++r).take m,v,(i:Int))::(lexL f (i+m+gapL false ((x++r).drop m)) ((x++r).drop (m+gapL false ((x++r).drop m)))).1,(lexL f (i+m+gapL false ((x++r).drop m)) ((x++r).drop (m+gapL false ((x++r).drop m)))).2):=by
    obtain⟨c,t,hct⟩:=List.exists_cons_of_ne_nil hne;rw [hct];rfl
   rw [eL,hw];simp only [List.drop_left,List.take_left,← List.drop_drop];obtain⟨l',h1,h2⟩:=ih f (i+x.length+gapL false r) (by simp only [List.length_append] at hf m2;omega)
   rw [h1];exact⟨_,rfl,by simp [stW,h2]⟩
theorem qvO {l:List Wv} {s:List UInt8} (h:Lx l s):∃ l',qeF s=(l',none)∧l'.map stW=l:=qFf h _ _ (by omega)
theorem join_nil (sep:qU):qdj [] sep=[]:=rfl
end Go.Pv
set_option linter.unusedSimpArgs false
set_option linter.unusedVariables false
namespace Go.Pv
abbrev At:=List UInt8×List Tm
def cA:Cod At where
 enc t:=[.str t.1,.sl (rOf cM t.2) .non]
 dec c:=match c with|[.str x0,.sl x1 .non]=>(match deR cM x1 with|some y1=>some (x0,y1)|_=>none)|_=>none
 k:=2
 of_dec c a h:=by
  split at h
  ·split at h
   ·cases h
    rename_i h1;rw [qdH cM h1]
   ·cases h
  ·cases h
 dec_of a:=by simp only [qhb cM]
 lock a:=by simp only [qem,lock,qaw]
 shut a:=by simp only [qes,shut,qd3]
 len a:=rfl
 one a:=rfl
@[simp] theorem okSize_cA (l:List At):qaD (rOf cA l) 2=true:=qb7 cA l
@[simp] theorem okNews_cA (l:List At):qbf (rOf cA l) 2=true:=qb4 cA l
@[simp] theorem okGet_cA (l:List At) (i:Nat):qbx [.str [],.sl [] .full] (rOf cA l) i=decide (i < l.length):=qcI _ _ (fun _=>rfl) l i
@[simp] theorem xStr_cA0 (l:List At) (i:Nat):xStr (rOf cA l) i 0=(l[i]?.getD ([],[])).1:=by unfold xStr;rw [qaB];cases l[i]?<;>rfl
@[simp] theorem xRow_cA1 (l:List At) (i:Nat):xRow (rOf cA l) i 1=rOf cM ((l[i]?.getD ([],[])).2):=by unfold xRow;rw [qaB];cases l[i]?<;>rfl
abbrev Li:=Int×At×Int×Tm×Tm
def cL:Cod Li where
 enc t:=[.int .i64 t.1,.str t.2.1.1,.sl (rOf cM t.2.1.2) .non,.int .i64 t.2.2.1,.int .i64 t.2.2.2.1.1,.str t.2.2.2.1.2.1,.int .i64 t.2.2.2.1.2.2.1,.int .i64 t.2.2.2.1.2.2.2.1,.str t.2.2.2.1.2.2.2.2,.int .i64 t.2.2.2.2.1,.str t.2.2.2.2.2.1,.int .i64 t.2.2.2.2.2.2.1,.int .i64 t.2.2.2.2.2.2.2.1,.str t.2.2.2.2.2.2.2.2]
 dec c:=match c with|[.int .i64 x0,.str x1,.sl x2 .non,.int .i64 x3,.int .i64 x4,.str x5,.int .i64 x6,.int .i64 x7,.str x8,.int .i64 x9,.str x10,.int .i64 x11,.int .i64 x12,.str x13]=>(match deR cM x2 with|some y2=>some (x0,(x1,y2),x3,(x4,x5,x6,x7,x8),(x9,x10,x11,x12,x13))|_=>none)|_=>none
 k:=14
 of_dec c a h:=by
  split at h
  ·split at h
   ·cases h
    rename_i h2;rw [qdH cM h2]
   ·cases h
  ·cases h
 dec_of a:=by simp only [qhb cM]
 lock a:=by simp only [qem,lock,qaw]
 shut a:=by simp only [qes,shut,qd3]
 len a:=rfl
 one a:=rfl
@[simp] theorem qxO (l:List Li):qaD (rOf cL l) 14=true:=qb7 cL l
@[simp] theorem okNews_cL (l:List Li):qbf (rOf cL l) 14=true:=qb4 cL l
@[simp] theorem okGet_cL (l:List Li) (i:Nat):qbx [.int .i64 0,.str [],.sl [] .full,.int .i64 0,.int .i64 0,.str [],.int .i64 0,.int .i64 0,.str [],.int .i64 0,.str [],.int .i64 0,.int .i64 0,.str []] (rOf cL l) i=decide (i < l.length):=qcI _ _ (fun _=>rfl) l i
@[simp] theorem xInt_cL0 (l:List Li) (i:Nat):xInt (rOf cL l) i 0=(l[i]?.getD (0,([],[]),0,(0,[],0,0,[]),(0,[],0,0,[]))).1:=by unfold xInt;rw [qaB];cases l[i]?<;>rfl
@[simp] theorem xStr_cL1 (l:List Li) (i:Nat):xStr (rOf cL l) i 1=(l[i]?.getD (0,([],[]),0,(0,[],0,0,[]),(0,[],0,0,[]))).2.1.1:=by unfold xStr;rw [qaB];cases l[i]?<;>rfl
@[simp] theorem xRow_cL2 (l:List Li) (i:Nat):xRow (rOf cL l) i 2=rOf cM ((l[i]?.getD (0,([],[]),0,(0,[],0,0,[]),(0,[],0,0,[]))).2.1.2):=by unfold xRow;rw [qaB];cases l[i]?<;>rfl
@[simp] theorem xInt_cL3 (l:List Li) (i:Nat):xInt (rOf cL l) i 3=(l[i]?.getD (0,([],[]),0,(0,[],0,0,[]),(0,[],0,0,[]))).2.2.1:=by unfold xInt;rw [qaB];cases l[i]?<;>rfl
@[simp] theorem xInt_cL4 (l:List Li) (i:Nat):xInt (rOf cL l) i 4=(l[i]?.getD (0,([],[]),0,(0,[],0,0,[]),(0,[],0,0,[]))).2.2.2.1.1:=by unfold xInt;rw [qaB];cases l[i]?<;>rfl
@[simp] theorem xStr_cL5 (l:List Li) (i:Nat):xStr (rOf cL l) i 5=(l[i]?.getD (0,([],[]),0,(0,[],0,0,[]),(0,[],0,0,[]))).2.2.2.1.2.1:=by unfold xStr;rw [qaB];cases l[i]?<;>rfl
@[simp] theorem xInt_cL6 (l:List Li) (i:Nat):xInt (rOf cL l) i 6=(l[i]?.getD (0,([],[]),0,(0,[],0,0,[]),(0,[],0,0,[]))).2.2.2.1.2.2.1:=by unfold xInt;rw [qaB];cases l[i]?<;>rfl
@[simp] theorem xInt_cL7 (l:List Li) (i:Nat):xInt (rOf cL l) i 7=(l[i]?.getD (0,([],[]),0,(0,[],0,0,[]),(0,[],0,0,[]))).2.2.2.1.2.2.2.1:=by unfold xInt;rw [qaB];cases l[i]?<;>rfl
@[simp] theorem xStr_cL8 (l:List Li) (i:Nat):xStr (rOf cL l) i 8=(l[i]?.getD (0,([],[]),0,(0,[],0,0,[]),(0,[],0,0,[]))).2.2.2.1.2.2.2.2:=by unfold xStr;rw [qaB];cases l[i]?<;>rfl
@[simp] theorem xInt_cL9 (l:List Li) (i:Nat):xInt (rOf cL l) i 9=(l[i]?.getD (0,([],[]),0,(0,[],0,0,[]),(0,[],0,0,[]))).2.2.2.2.1:=by unfold xInt;rw [qaB];cases l[i]?<;>rfl
@[simp] theorem xStr_cL10 (l:List Li) (i:Nat):xStr (rOf cL l) i 10=(l[i]?.getD (0,([],[]),0,(0,[],0,0,[]),(0,[],0,0,[]))).2.2.2.2.2.1:=by unfold xStr;rw [qaB];cases l[i]?<;>rfl
@[simp] theorem xInt_cL11 (l:List Li) (i:Nat):xInt (rOf cL l) i 11=(l[i]?.getD (0,([],[]),0,(0,[],0,0,[]),(0,[],0,0,[]))).2.2.2.2.2.2.1:=by unfold xInt;rw [qaB];cases l[i]?<;>rfl
@[simp] theorem xInt_cL12 (l:List Li) (i:Nat):xInt (rOf cL l) i 12=(l[i]?.getD (0,([],[]),0,(0,[],0,0,[]),(0,[],0,0,[]))).2.2.2.2.2.2.2.1:=by unfold xInt;rw [qaB];cases l[i]?<;>rfl
@[simp] theorem xStr_cL13 (l:List Li) (i:Nat):xStr (rOf cL l) i 13=(l[i]?.getD (0,([],[]),0,(0,[],0,0,[]),(0,[],0,0,[]))).2.2.2.2.2.2.2.2:=by unfold xStr;rw [qaB];cases l[i]?<;>rfl
theorem qD4 (l:List Li) (x0:Int) (x1:qU) (x2:List Tm) (x3:Int) (x4:Int) (x5:qU) (x6:Int) (x7:Int) (x8:qU) (x9:Int) (x10:qU) (x11:Int) (x12:Int) (x13:qU):rOf cL l++[[.int .i64 x0,.str x1,.sl (rOf cM x2) .non,.int .i64 x3,.int .i64 x4,.str x5,.int .i64 x6,.int .i64 x7,.str x8,.int .i64 x9,.str x10,.int .i64 x11,.int .i64 x12,.str x13]]=rOf cL (l++[(x0,(x1,x2),x3,(x4,x5,x6,x7,x8),(x9,x10,x11,x12,x13))]):=by rw [qiO];rfl
abbrev Ru:=At×List Li
def cRu:Cod Ru where
 enc t:=[.str t.1.1,.sl (rOf cM t.1.2) .non,.sl (rOf cL t.2) .non]
 dec c:=match c with|[.str x0,.sl x1 .non,.sl x2 .non]=>(match deR cM x1,deR cL x2 with|some y1,some y2=>some ((x0,y1),y2)|_,_=>none)|_=>none
 k:=3
 of_dec c a h:=by
  split at h
  ·split at h
   ·cases h
    rename_i h1 h2;rw [qdH cM h1,qdH cL h2]
   ·cases h
  ·cases h
 dec_of a:=by simp only [qhb cL,qhb cM]
 lock a:=by simp only [qem,lock,qaw]
 shut a:=by simp only [qes,shut,qd3]
 len a:=rfl
 one a:=rfl
@[simp] theorem okSize_cRu (l:List Ru):qaD (rOf cRu l) 3=true:=qb7 cRu l
@[simp] theorem okNews_cRu (l:List Ru):qbf (rOf cRu l) 3=true:=qb4 cRu l
@[simp] theorem okGet_cRu (l:List Ru) (i:Nat):qbx [.str [],.sl [] .full,.sl [] .full] (rOf cRu l) i=decide (i < l.length):=qcI _ _ (fun _=>rfl) l i
@[simp] theorem xStr_cRu0 (l:List Ru) (i:Nat):xStr (rOf cRu l) i 0=(l[i]?.getD (([],[]),[])).1.1:=by unfold xStr;rw [qaB];cases l[i]?<;>rfl
@[simp] theorem xRow_cRu1 (l:List Ru) (i:Nat):xRow (rOf cRu l) i 1=rOf cM ((l[i]?.getD (([],[]),[])).1.2):=by unfold xRow;rw [qaB];cases l[i]?<;>rfl
@[simp] theorem xRow_cRu2 (l:List Ru) (i:Nat):xRow (rOf cRu l) i 2=rOf cL ((l[i]?.getD (([],[]),[])).2):=by unfold xRow;rw [qaB];cases l[i]?<;>rfl
abbrev De:=List UInt8×Bool×List Int
def cD:Cod De where
 enc t:=[.str t.1,.bool t.2.1,.sl (rOf cI t.2.2) .non]
 dec c:=match c with|[.str x0,.bool x1,.sl x2 .non]=>(match deR cI x2 with|some y2=>some (x0,x1,y2)|_=>none)|_=>none
 k:=3
 of_dec c a h:=by
  split at h
  ·split at h
   ·cases h
    rename_i h2;rw [qdH cI h2]
   ·cases h
  ·cases h
 dec_of a:=by simp only [qhb cI]
 lock a:=by simp only [qem,lock,qaw]
 shut a:=by simp only [qes,shut,qd3]
 len a:=rfl
 one a:=rfl
@[simp] theorem okSize_cD (l:List De):qaD (rOf cD l) 3=true:=qb7 cD l
@[simp] theorem okNews_cD (l:List De):qbf (rOf cD l) 3=true:=qb4 cD l
@[simp] theorem okGet_cD (l:List De) (i:Nat):qbx [.str [],.bool false,.sl [] .full] (rOf cD l) i=decide (i < l.length):=qcI _ _ (fun _=>rfl) l i
@[simp] theorem xStr_cD0 (l:List De) (i:Nat):xStr (rOf cD l) i 0=(l[i]?.getD ([],false,[])).1:=by unfold xStr;rw [qaB];cases l[i]?<;>rfl
@[simp] theorem xBool_cD1 (l:List De) (i:Nat):qfu (rOf cD l) i 1=(l[i]?.getD ([],false,[])).2.1:=by unfold qfu;rw [qaB];cases l[i]?<;>rfl
@[simp] theorem xRow_cD2 (l:List De) (i:Nat):xRow (rOf cD l) i 2=rOf cI ((l[i]?.getD ([],false,[])).2.2):=by unfold xRow;rw [qaB];cases l[i]?<;>rfl
abbrev Pa:=List UInt8×Int
def cP:Cod Pa where
 enc t:=[.str t.1,.int .i64 t.2]
 dec c:=match c with|[.str x0,.int .i64 x1]=>(some (x0,x1))|_=>none
 k:=2
 of_dec c a h:=by
  split at h
  ·cases h;rfl
  ·cases h
 dec_of a:=rfl
 lock a:=rfl
 shut a:=rfl
 len a:=rfl
 one a:=rfl
@[simp] theorem qxT (l:List Pa):qaD (rOf cP l) 2=true:=qb7 cP l
@[simp] theorem okNews_cP (l:List Pa):qbf (rOf cP l) 2=true:=qb4 cP l
@[simp] theorem okGet_cP (l:List Pa) (i:Nat):qbx [.str [],.int .i64 0] (rOf cP l) i=decide (i < l.length):=qcI _ _ (fun _=>rfl) l i
@[simp] theorem xStr_cP0 (l:List Pa) (i:Nat):xStr (rOf cP l) i 0=(l[i]?.getD ([],0)).1:=by unfold xStr;rw [qaB];cases l[i]?<;>rfl
@[simp] theorem xInt_cP1 (l:List Pa) (i:Nat):xInt (rOf cP l) i 1=(l[i]?.getD ([],0)).2:=by unfold xInt;rw [qaB];cases l[i]?<;>rfl
theorem qEw (l:List Pa) (x0:qU) (x1:Int):rOf cP l++[[.str x0,.int .i64 x1]]=rOf cP (l++[(x0,x1)]):=by rw [qiO];rfl
abbrev Ac:=Bool×At
def cAc:Cod Ac where
 enc t:=[.bool t.1,.str t.2.1,.sl (rOf cM t.2.2) .non]
 dec c:=match c with|[.bool x0,.str x1,.sl x2 .non]=>(match deR cM x2 with|some y2=>some (x0,(x1,y2))|_=>none)|_=>none
 k:=3
 of_dec c a h:=by
  split at h
  ·split at h
   ·cases h
    rename_i h2;rw [qdH cM h2]
   ·cases h
  ·cases h
 dec_of a:=by simp only [qhb cM]
 lock a:=by simp only [qem,lock,qaw]
 shut a:=by simp only [qes,shut,qd3]
 len a:=rfl
 one a:=rfl
@[simp] theorem qwC (l:List Ac):qaD (rOf cAc l) 3=true:=qb7 cAc l
@[simp] theorem okNews_cAc (l:List Ac):qbf (rOf cAc l) 3=true:=qb4 cAc l
@[simp] theorem okGet_cAc (l:List Ac) (i:Nat):qbx [.bool false,.str [],.sl [] .full] (rOf cAc l) i=decide (i < l.length):=qcI _ _ (fun _=>rfl) l i
@[simp] theorem xBool_cAc0 (l:List Ac) (i:Nat):qfu (rOf cAc l) i 0=(l[i]?.getD (false,([],[]))).1:=by unfold qfu;rw [qaB];cases l[i]?<;>rfl
@[simp] theorem xStr_cAc1 (l:List Ac) (i:Nat):xStr (rOf cAc l) i 1=(l[i]?.getD (false,([],[]))).2.1:=by unfold xStr;rw [qaB];cases l[i]?<;>rfl
@[simp] theorem xRow_cAc2 (l:List Ac) (i:Nat):xRow (rOf cAc l) i 2=rOf cM ((l[i]?.getD (false,([],[]))).2.2):=by unfold xRow;rw [qaB];cases l[i]?<;>rfl
theorem qBa (l:List Ac) (x0:Bool) (x1:qU) (x2:List Tm):rOf cAc l++[[.bool x0,.str x1,.sl (rOf cM x2) .non]]=rOf cAc (l++[(x0,(x1,x2))]):=by rw [qiO];rfl
abbrev En:=List UInt8×List Pa×List Ac
def cE:Cod En where
 enc t:=[.str t.1,.sl (rOf cP t.2.1) .non,.sl (rOf cAc t.2.2) .non]
 dec c:=match c with|[.str x0,.sl x1 .non,.sl x2 .non]=>(match deR cP x1,deR cAc x2 with|some y1,some y2=>some (x0,y1,y2)|_,_=>none)|_=>none
 k:=3
 of_dec c a h:=by
  split at h
  ·split at h
   ·cases h
    rename_i h1 h2;rw [qdH cP h1,qdH cAc h2]
   ·cases h
  ·cases h
 dec_of a:=by simp only [qhb cAc,qhb cP]
 lock a:=by simp only [qem,lock,qaw]
 shut a:=by simp only [qes,shut,qd3]
 len a:=rfl
 one a:=rfl
@[simp] theorem okSize_cE (l:List En):qaD (rOf cE l) 3=true:=qb7 cE l
@[simp] theorem okNews_cE (l:List En):qbf (rOf cE l) 3=true:=qb4 cE l
@[simp] theorem okGet_cE (l:List En) (i:Nat):qbx [.str [],.sl [] .full,.sl [] .full] (rOf cE l) i=decide (i < l.length):=qcI _ _ (fun _=>rfl) l i
@[simp] theorem xStr_cE0 (l:List En) (i:Nat):xStr (rOf cE l) i 0=(l[i]?.getD ([],[],[])).1:=by unfold xStr;rw [qaB];cases l[i]?<;>rfl
@[simp] theorem xRow_cE1 (l:List En) (i:Nat):xRow (rOf cE l) i 1=rOf cP ((l[i]?.getD ([],[],[])).2.1):=by unfold xRow;rw [qaB];cases l[i]?<;>rfl
@[simp] theorem xRow_cE2 (l:List En) (i:Nat):xRow (rOf cE l) i 2=rOf cAc ((l[i]?.getD ([],[],[])).2.2):=by unfold xRow;rw [qaB];cases l[i]?<;>rfl
end Go.Pv
set_option maxHeartbeats 8000000
set_option maxRecDepth 200000
set_option linter.unusedSimpArgs false
set_option linter.unusedVariables false
namespace Go.Pv
open Go Go.Proofs Go.RowKit
theorem qjS {p:UInt8→Bool} {r:List UInt8} (h:hdIs p r=false):∀ t:qU,runL p t=t.length→runL p (t++r)=t.length
 |[],_=>by
  cases r with
  |nil=>rfl
  |cons b r =>
   have h:p b=false:=h;simp [runL,h]
 |a::t,e=>by
  simp only [runL,List.length_cons,List.cons_append] at e ⊢;cases ha:p a with
  |false=>rw [ha] at e;simp at e
  |true =>
   rw [ha] at e;simp only [if_true,Nat.add_right_cancel_iff] at e ⊢;exact qjS h t e
theorem qFA {r:List UInt8} (h:hdIs innB r=false):hdIs qaH r=false:=by
 cases r with
 |nil=>rfl
 |cons b r =>
  have h:innB b=false:=h;simp only [innB,Bool.or_eq_false_iff] at h
  exact h.1.2
theorem qzO (r:qU) (e:Bool) (t:qU) (h:quoE e t=t.length) (h0:t.length≠0):quoE e (t++r)=t.length:=qi6 [] r e t (by rw [List.append_nil];exact h) h0
theorem qqg {x r:List UInt8} {k:Int} {v:Vl} (h:wdL x=some (k,x.length,v)) (hk:k≠6) (hr:hdIs innB r=false):wdL (x++r)=some (k,x.length,v):=by
 cases x with
 |nil=>have:=(qnX h).1;simp at this
 |cons c t =>
  simp only [List.cons_append,wdL,List.length_cons] at h ⊢;by_cases h1:qfK c=true
  ·simp only [h1,if_true] at h ⊢;split at h
   ·simp only [Option.some.injEq,Prod.mk.injEq,Nat.add_right_cancel_iff] at h
    obtain⟨rfl,h3,rfl⟩:=h;rw [qjS hr t h3,if_pos (by omega)]
   ·cases h
  ·rw [if_neg h1] at h ⊢;by_cases h2:qg9 c=true
   ·simp only [h2,if_true] at h ⊢;split at h
    ·simp only [Option.some.injEq,Prod.mk.injEq,Nat.add_right_cancel_iff] at h
     obtain⟨rfl,h3,rfl⟩:=h;rw [qjS hr t h3,if_pos (by omega)]
    ·cases h
   ·rw [if_neg h2] at h ⊢;by_cases h3:c.toNat=95
    ·rw [if_pos h3] at h ⊢;split at h
     ·cases h
     ·simp only [Option.some.injEq,Prod.mk.injEq] at h
      obtain⟨rfl,h5,rfl⟩:=h;have ht:t=[]:=by cases t with|nil=>rfl|cons=>simp at h5
      subst ht;simp [hr]
    ·rw [if_neg h3] at h ⊢;by_cases h4:(qaH c || (decide (c.toNat=45)&&hdIs qaH t))=true
     ·rw [if_pos h4] at h
      obtain⟨hk,hm,hv⟩:=qeH h;have h5:runL qaH t=t.length:=by omega
      have h6:=qjS (qFA hr) t h5;have h7:(qaH c || (decide (c.toNat=45)&&hdIs qaH (t++r)))=true:=by
       cases t with
       |nil=>simpa [hdIs] using Or.inl h4
       |cons d t=>exact h4
      rw [if_pos h7,h6];rw [h5] at h
      refine qpD h ?_;simp
     ·rw [if_neg h4] at h
      by_cases h5:c.toNat=34
      ·have h7:¬ (qaH c || (decide (c.toNat=45)&&hdIs qaH (t++r)))=true:=by simp [qaH,h5]
       rw [if_neg h7];rw [if_pos h5] at h ⊢;split at h
       ·cases h
       ·rename_i h6;obtain⟨hk,hm,hv⟩:=qeH h;have h8:quoL t=t.length:=by omega
        have h9:quoL (t++r)=t.length:=qzO r false t h8 (by omega)
        rw [h9,if_neg (by omega)]
        rw [h8] at h
        refine qpD h ?_;simp
      ·rw [if_neg h5] at h
       split at h
       ·cases h
       ·simp only [Option.some.injEq,Prod.mk.injEq] at h
        exact absurd h.1.symm hk
theorem qDp {s:List UInt8} {k:Int} {m:Nat} {v:Vl} (h:wdL s=some (k,m,v)) (h4:k≠4) (h5:k≠5):v=(0,0,[]):=by
 cases s with
 |nil=>cases h
 |cons c t =>
  simp only [wdL] at h
  repeat' (split at h)
  all_goals first
   |(cases h;done)
   |(cases h;rfl)
   |exact absurd (qeH h).1 h4
   |exact absurd (qeH h).1 h5
def isW1 (k:Int) (s:qU):Bool:=match qeF s with
 |([w],none)=>decide (w.1=k)&&decide (w.2.1=s)
 |_=>false
theorem qzM {k:Int} {s:List UInt8} (h:isW1 k s=true):∃ v,wdL s=some (k,s.length,v):=by
 unfold isW1 at h
 split at h
 ·rename_i w e;obtain⟨wk,wt,wv,wa⟩:=w;simp only [Bool.and_eq_true,decide_eq_true_eq] at h
  obtain⟨rfl,h⟩:=h;have hx:=qBG e;simp only [List.map,stW] at hx;cases hx with
  |cons g x r k v l hg hw h0 =>
   have hl:=congrArg List.length h;simp only [List.length_append] at hl;have hg0:g=[]:=List.eq_nil_of_length_eq_zero (by omega)
   have hr0:r=[]:=List.eq_nil_of_length_eq_zero (by omega)
   subst hg0 hr0;refine⟨wv,?_⟩;rw [List.append_nil] at hw;rw [List.nil_append,List.append_nil];exact hw
 ·cases h
theorem qho {x r:List UInt8} {k:Int} {v:Vl} {l:List Wv} (hw:wdL (x++r)=some (k,x.length,v)) (h:Lx l r):Lx ((k,x,v)::l) (x++r):=.cons [] x r k v l rfl hw h
theorem qgg {l:List Wv} {s:List UInt8} (h:Lx l s):Lx l (32::s):=Lx.pre (g:=[32]) rfl h
def tk (k:Int) (s:qU):Wv:=(k,s,0,0,[])
theorem qou {k:Int} {s:List UInt8} (hk:k=1∨k=2) (h:isW1 k s=true) {r:List UInt8} (hr:hdIs innB r=false) {l:List Wv} (hl:Lx l r):Lx (tk k s::l) (s++r):=by
 obtain⟨v,hv⟩:=qzM h;have hz:=qDp hv (by omega) (by omega)
 subst hz;exact qho (qqg hv (by omega) hr) hl
theorem qyL {c:UInt8} {r:List UInt8} (h1:qfK c=false) (h2:qg9 c=false) (h3:c.toNat≠95) (h4:qaH c=false) (h5:c.toNat=45→hdIs qaH r=false) (h6:c.toNat≠34) (h7:hdIs (twoB c) r=false) (h8:qkv c=true):wdL (c::r)=some (6,1,0,0,[]):=by
 have hm:qhq c r=1:=by simp [qhq,h7,h8]
 have h9:(qaH c || (decide (c.toNat=45)&&hdIs qaH r))=false:=by
  rw [h4];by_cases hc:c.toNat=45
  ·simp [h5 hc]
  ·simp [hc]
 simp only [wdL,h1,h2,h9,hm,if_neg h3,if_neg h6,Bool.false_eq_true,if_false];rfl
theorem qCn {c:UInt8} (h:c.toNat≠58∧c.toNat≠60∧c.toNat≠62∧c.toNat≠33) (r:qU):hdIs (twoB c) r=false:=by
 cases r with
 |nil=>rfl
 |cons b r=>simp [hdIs,twoB,h.1,h.2.1,h.2.2.1,h.2.2.2]
theorem qdR (c:UInt8) (hc:c=40∨c=41∨c=44∨c=46∨c=43∨c=61) {l:List Wv} {r:List UInt8} (h:Lx l r):Lx (tk 6 [c]::l) (c::r):=by
 refine qho (x:=[c]) ?_ h;rcases hc with rfl|rfl|rfl|rfl|rfl|rfl <;>
  exact qyL (by decide) (by decide) (by decide) (by decide) (fun h=>absurd h (by decide)) (by decide) (qCn (by decide) r) (by decide)
theorem qBP {l:List Wv} {r:List UInt8} (h:Lx l r) (hd:hdIs qaH r=false):Lx (tk 6 [45]::l) (45::r) :=
 qho (x:=[45]) (qyL (by decide) (by decide) (by decide) (by decide) (fun _=>hd) (by decide) (qCn (by decide) r) (by decide)) h
theorem qkm (c:UInt8) (hc:c=58∨c=60∨c=62) {l:List Wv} {r:List UInt8} (h:Lx l r):Lx (tk 6 [c]::l) (c::32::r):=by
 refine qho (x:=[c]) (r:=32::r) ?_ (qgg h);rcases hc with rfl|rfl|rfl <;>
  exact qyL (by decide) (by decide) (by decide) (by decide) (fun h=>absurd h (by decide)) (by decide) (by rfl) (by decide)
theorem qvJ (c d:UInt8) (hc:(c=58∧d=45)∨(c=60∧d=61)∨(c=62∧d=61)∨(c=33∧d=61)) {l:List Wv} {r:List UInt8} (h:Lx l r):Lx (tk 6 [c,d]::l) (c::d::r):=by
 refine qho (x:=[c,d]) ?_ h;rcases hc with⟨rfl,rfl⟩|⟨rfl,rfl⟩|⟨rfl,rfl⟩|⟨rfl,rfl⟩<;>rfl
def vlR (v:Vl):Prop:=-9223372036854775808≤v.2.1∧v.2.1≤9223372036854775807
def vlT (v:Vl):List UInt8:=qpP v.1 v.2.1 v.2.2
def vlOk (v:Vl):Bool:=isV v.1 v.2.1 v.2.2
theorem qsc {c:UInt8} (h:48≤c.toNat∧c.toNat≤57):qaH c=true:=by simp [qaH,h.1,h.2]
theorem qtQ {p:UInt8→Bool}:∀ {t:List UInt8},(∀ c∈t,p c=true)→runL p t=t.length
 |[],_=>rfl
 |a::t,h=>by
  simp only [runL,h a (by simp),if_true,List.length_cons,qtQ (t:=t) fun c hc=>h c (by simp [hc])]
theorem qGn {c:UInt8} {t:List UInt8} (hc:48≤c.toNat∧c.toNat≤57) (ht:∀ d∈t,48≤d.toNat∧d.toNat≤57) {v:Vl} (hv:rdV (c::t)=some v):wdL (c::t)=some (4,t.length+1,v):=by
 have h1:qfK c=false:=by simp [qfK];omega
 have h2:qg9 c=false:=by simp [qg9];omega
 have h3:c.toNat≠95:=by omega
 have hr:runL qaH t=t.length:=qtQ fun d hd=>qsc (ht d hd)
 simp only [wdL,h1,h2,if_neg h3,qsc hc,hr,Bool.true_or,Bool.false_eq_true,if_false,if_true];unfold valL;rw [show (c::t).take (t.length+1)=c::t by simp,hv]
theorem qFn {c:UInt8} {t:List UInt8} (hc:48≤c.toNat∧c.toNat≤57) (ht:∀ d∈t,48≤d.toNat∧d.toNat≤57) {v:Vl} (hv:rdV (45::c::t)=some v):wdL (45::c::t)=some (4,t.length+2,v):=by
 have hr:runL qaH (c::t)=t.length+1:=by
  have:=qtQ (p:=qaH) (t:=c::t) (by
   intro d hd;rcases List.mem_cons.1 hd with rfl|hd
   ·exact qsc hc
   ·exact qsc (ht d hd))
  simpa using this
 have h0:(qaH 45 || (decide ((45:UInt8).toNat=45)&&hdIs qaH (c::t)))=true:=by
  have:hdIs qaH (c::t)=true:=qsc hc;rw [this];rfl
 have e:wdL (45::c::t)=valL 4 (45::c::t) (runL qaH (c::t)+1):=by
  simp only [wdL,h0,if_true];rfl
 rw [e,hr];unfold valL;rw [show (45::c::t).take (t.length+1+1)=45::c::t by simp,hv]
theorem qBH {v:Vl} (h:vlOk v=true) (hr:vlR v):valid v:=by
 obtain⟨k,n,s⟩:=v;simp only [vlOk,isV,decide_eq_true_eq] at h
 unfold valid;rcases h with⟨rfl,rfl⟩|⟨rfl,rfl,h⟩
 ·exact .inl ⟨rfl,rfl,hr.1,hr.2⟩
 ·exact .inr ⟨rfl,rfl,h⟩
def vlK (v:Vl):Int:=if v.1=1 then 4 else 5
theorem qGl {v:Vl} (h:vlOk v=true) (hr:vlR v):wdL (vlT v)=some (vlK v,(vlT v).length,v):=by
 have hb:=qDn (qBH h hr);obtain⟨k,n,s⟩:=v;have hb:rdV (vlT (k,n,s))=some (k,n,s):=hb;simp only [vlOk,isV,decide_eq_true_eq] at h
 rcases h with⟨rfl,rfl⟩|⟨rfl,rfl,h⟩
 ·have e:vlT (1,n,[])=intV n:=qpC n;rw [e] at hb ⊢;show _=some (4,_,_)
  unfold intV qt6 at hb ⊢;by_cases hn:n < 0
  ·rw [if_pos hn] at hb ⊢;obtain⟨c,t,hct,hc⟩:=qhF (-n).toNat;have hd:=qj1 _ (-n).toNat (Nat.lt_succ_self _);rw [hct] at hb hd ⊢;exact qFn hc (fun d hd'=>hd d (by simp [hd'])) hb
  ·rw [if_neg hn] at hb ⊢;obtain⟨c,t,hct,hc⟩:=qhF n.toNat;have hd:=qj1 _ n.toNat (Nat.lt_succ_self _);rw [hct] at hb hd ⊢;exact qGn hc (fun d hd'=>hd d (by simp [hd'])) hb
 ·have e:vlT (2,0,s)=symV s:=qqX h;rw [e] at hb ⊢;show _=some (5,_,_)
  have hq:quoL (symB s++[34])=(symB s).length+1:=by
   have key:∀ s:qU,quoE false (symB s++[34])=(symB s).length+1:=by
    intro s
    induction s with
    |nil=>rfl
    |cons c s ih =>
     have ne:∀ {x:UInt8} (u:qU),x.toNat≠34→x.toNat≠92→quoE false (x::u)=incN (quoE false u):=fun u h1 h2=>by simp [quoE,h1,h2]
     have esc:∀ (x:UInt8) (u:qU),quoE false (92::x::u)=incN (incN (quoE false u)):=fun x u=>by
      have h92:(92:UInt8).toNat=92:=rfl;simp [quoE,h92]
     have inc:∀ n:Nat,incN (n+1)=n+2:=fun n=>by simp [incN]
     rw [qn4,List.append_assoc,List.length_append,qs1];split
     ·show quoE false (92::c::(symB s++[34]))=_
      rw [esc,ih];simp only [inc,List.length_cons,List.length_nil];omega
     ·rename_i hc;split
      ·show quoE false (92::110::(symB s++[34]))=_
       rw [esc,ih];simp only [inc,List.length_cons,List.length_nil];omega
      ·split
       ·show quoE false (92::116::(symB s++[34]))=_
        rw [esc,ih];simp only [inc,List.length_cons,List.length_nil];omega
       ·split
        ·rename_i hp;show quoE false (c::(symB s++[34]))=_
         have c34:c.toNat≠34:=fun h=>hc (.inl (UInt8.toNat_inj.1 h))
         have c92:c.toNat≠92:=fun h=>hc (.inr (UInt8.toNat_inj.1 h))
         rw [ne _ c34 c92,ih];simp only [inc,List.length_cons,List.length_nil];omega
        ·show quoE false (92::120::hx1 c::hx2 c::(symB s++[34]))=_
         have hx:∀ c:UInt8,(hx1 c).toNat≠34∧(hx1 c).toNat≠92∧(hx2 c).toNat≠34∧(hx2 c).toNat≠92:=by
          have fin:∀ n:Fin 256,(hx1 (UInt8.ofNat n.val)).toNat≠34∧(hx1 (UInt8.ofNat n.val)).toNat≠92∧(hx2 (UInt8.ofNat n.val)).toNat≠34∧(hx2 (UInt8.ofNat n.val)).toNat≠92:=by decide +kernel
          intro c;have:=fin ⟨c.toNat,c.toNat_lt⟩;simpa using this
         obtain⟨x1,x2,x3,x4⟩:=hx c;rw [esc,ne _ x1 x2,ne _ x3 x4,ih];simp only [inc,List.length_cons,List.length_nil];omega
   exact key s
  have e2:symV s=34::(symB s++[34]):=rfl;rw [e2] at hb ⊢;have e3:wdL (34::(symB s++[34]))=if quoL (symB s++[34])=0 then none else valL 5 (34::(symB s++[34])) (quoL (symB s++[34])+1):=rfl;rw [e3,hq,if_neg (by omega)]
  unfold valL;rw [show (34::(symB s++[34])).take ((symB s).length+1+1)=34::(symB s++[34]) by
   rw [List.take_of_length_le (by simp)],hb]
  simp
theorem qGh {v:Vl} (h:vlOk v=true) (hv:vlR v) {r:List UInt8} (hr:hdIs innB r=false) {l:List Wv} (hl:Lx l r):Lx ((vlK v,vlT v,v)::l) (vlT v++r) :=
 qho (qqg (qGl h hv) (by unfold vlK;split<;>decide) hr) hl
end Go.Pv
set_option maxHeartbeats 8000000
set_option maxRecDepth 200000
set_option linter.unusedSimpArgs false
set_option linter.unusedVariables false
namespace Go.Pv
open Go Go.Proofs Go.RowKit
abbrev Txt:=List UInt8
def resv:List Txt:=[[98,97,115,101],[118,105,101,119],[111,110],[110,111,116]]
def nmB (s:Txt):Bool:=isW1 1 s&&!resv.contains s
def vrB (s:Txt):Bool:=isW1 2 s
def jn {α:Type} (ok:α→Bool) (T:α→Txt) (sep:Txt) (l:List α):Txt:=if l.all ok then qdj (l.map T) sep else []
def tmOk (t:Tm):Bool:=if t.1=1 then vrB t.2.1&&decide (t.2.2=(0,0,[])) else if t.1=2 then vlOk t.2.2&&decide (t.2.1=[]) else decide (t=(3,[],0,0,[]))
def tmT (t:Tm):Txt:=if t.1=1 then t.2.1 else if t.1=2 then vlT t.2.2 else [95]
def atOk (a:At):Bool:=a.2.all tmOk&&nmB a.1
def atT (a:At):Txt:=a.1++[40]++jn tmOk tmT [44,32] a.2++[41]
def opOk (o:Int):Bool:=decide (1≤o∧o≤6)
def opT (o:Int):Txt:=if o=1 then [32,61,32] else if o=2 then [32,33,61,32] else if o=3 then [32,60,32] else if o=4 then [32,60,61,32] else if o=5 then [32,62,32] else if o=6 then [32,62,61,32] else []
def tm0:Tm:=(0,[],0,0,[])
def qzo (l:Li):Bool:=decide (l.2.2.1=0)&&decide (l.2.2.2.1=tm0)&&decide (l.2.2.2.2=tm0)
def liOk (l:Li):Bool:=if l.1=1∨l.1=2 then atOk l.2.1&&qzo l else if l.1=3 then tmOk l.2.2.2.1&&opOk l.2.2.1&&tmOk l.2.2.2.2&&decide (l.2.1=([],[])) else false
def liT (l:Li):Txt:=if l.1=1 then atT l.2.1 else if l.1=2 then [110,111,116,32]++atT l.2.1 else if l.1=3 then tmT l.2.2.2.1++opT l.2.2.1++tmT l.2.2.2.2 else []
def ruOk (r:Ru):Bool:=atOk r.1&&r.2.all liOk
def ruT (r:Ru):Txt:=atT r.1++(if r.2=[] then [] else [32,58,45,32]++jn liOk liT [44,32] r.2)++[46]
def tyOk (t:Int):Bool:=decide (t=1∨t=2)
def tyT (t:Int):Txt:=if t=1 then [105,110,116] else if t=2 then [115,121,109] else []
def deOk (d:De):Bool:=d.2.2.all tyOk&&nmB d.1
def deT (d:De):Txt:=(if d.2.1 then [98,97,115,101,32] else [118,105,101,119,32])++d.1++[40]++jn tyOk tyT [44,32] d.2.2++[41,46]
def paOk (p:Pa):Bool:=tyOk p.2&&vrB p.1
def paT (p:Pa):Txt:=p.1++[32]++tyT p.2
def acOk (a:Ac):Bool:=atOk a.2
def acT (a:Ac):Txt:=(if a.1 then [43] else [45])++atT a.2
def enOk (o:En):Bool:=o.2.1.all paOk&&o.2.2.all acOk&&nmB o.1
def enT (o:En):Txt:=[111,110,32]++o.1++[40]++jn paOk paT [44,32] o.2.1++[41]++(if o.2.2=[] then [] else [58,32]++jn acOk acT [44,32] o.2.2)++[46]
def sepK {α:Type} (K:α→List Wv):List α→List Wv
 |[]=>[]
 |a::l=>K a++l.flatMap fun b=>tk 6 [44]::K b
def tmK (t:Tm):Wv:=if t.1=1 then tk 2 t.2.1 else if t.1=2 then (vlK t.2.2,vlT t.2.2,t.2.2) else tk 3 [95]
def atK (a:At):List Wv:=tk 1 a.1::tk 6 [40]::(sepK (fun t=>[tmK t]) a.2++[tk 6 [41]])
def opW (o:Int):Txt:=if o=1 then [61] else if o=2 then [33,61] else if o=3 then [60] else if o=4 then [60,61] else if o=5 then [62] else [62,61]
def liK (l:Li):List Wv:=if l.1=1 then atK l.2.1 else if l.1=2 then tk 1 [110,111,116]::atK l.2.1 else [tmK l.2.2.2.1,tk 6 (opW l.2.2.1),tmK l.2.2.2.2]
def ruK (r:Ru):List Wv:=atK r.1++((if r.2=[] then [] else tk 6 [58,45]::sepK liK r.2)++[tk 6 [46]])
def tyK (t:Int):List Wv:=[tk 1 (tyT t)]
def deK (d:De):List Wv:=tk 1 (if d.2.1 then [98,97,115,101] else [118,105,101,119])::tk 1 d.1::tk 6 [40]::(sepK tyK d.2.2++[tk 6 [41],tk 6 [46]])
def paK (p:Pa):List Wv:=[tk 2 p.1,tk 1 (tyT p.2)]
def acK (a:Ac):List Wv:=tk 6 (if a.1 then [43] else [45])::atK a.2
def enK (o:En):List Wv:=tk 1 [111,110]::tk 1 o.1::tk 6 [40]::(sepK paK o.2.1++tk 6 [41]::((if o.2.2=[] then [] else tk 6 [58]::sepK acK o.2.2)++[tk 6 [46]]))
def tmR (t:Tm):Prop:=vlR t.2.2
def atR (a:At):Prop:=∀ t∈a.2,tmR t
def liR (l:Li):Prop:=atR l.2.1∧tmR l.2.2.2.1∧tmR l.2.2.2.2
def ruR (r:Ru):Prop:=atR r.1∧∀ l∈r.2,liR l
def acR (a:Ac):Prop:=atR a.2
def enR (o:En):Prop:=∀ a∈o.2.2,acR a
def Has (x:Txt) (K:List Wv):Prop:=∀ (m:List Wv) (r:Txt),hdIs innB r=false→Lx m r→Lx (K++m) (x++r)
theorem qoB (sep:Txt):qdj [] sep=[]:=rfl
theorem qrE (x sep:Txt):qdj [x] sep=x:=by simp [qdj,Lib.join_one]
theorem qsg (x y:Txt) (l:List Txt) (sep:Txt):qdj (x::y::l) sep=x++(sep++qdj (y::l) sep):=by simp [qdj,Lib.join,List.intercalate]
theorem qzE {α:Type} {T:α→Txt} {K:α→List Wv} {l:List α} (h:∀ a∈l,Has (T a) (K a)):Has (qdj (l.map T) [44,32]) (sepK K l):=by
 induction l with
 |nil=>intro m r hr hl;exact hl
 |cons a l ih =>
  intro m r hr hl;cases l with
  |nil =>
   simp only [List.map_cons,List.map_nil,qrE,sepK,List.flatMap_nil,List.append_nil];exact h a (by simp) m r hr hl
  |cons b l =>
   have ih':=ih (fun x hx=>h x (by simp [hx])) m r hr hl
   simp only [List.map_cons,qsg,sepK,List.flatMap_cons,List.append_assoc,List.cons_append,List.nil_append] at ih' ⊢;exact h a (by simp) _ _ rfl (qdR 44 (by simp) (qgg ih'))
theorem qAg {α:Type} {ok:α→Bool} {T:α→Txt} {sep:Txt} {l:List α} (h:l.all ok=true):jn ok T sep l=qdj (l.map T) sep:=by unfold jn;rw [if_pos h]
theorem qzD {t:Tm} (h:tmOk t=true) (hr:tmR t):Has (tmT t) [tmK t]:=by
 intro m r hi hl;unfold tmOk at h
 unfold tmT tmK;by_cases h1:t.1=1
 ·rw [if_pos h1] at h ⊢;rw [if_pos h1];simp only [Bool.and_eq_true] at h
  exact qou (.inr rfl) h.1 hi hl
 ·rw [if_neg h1] at h ⊢;rw [if_neg h1];by_cases h2:t.1=2
  ·rw [if_pos h2] at h ⊢;rw [if_pos h2];simp only [Bool.and_eq_true] at h
   exact qGh h.1 hr hi hl
  ·rw [if_neg h2,if_neg h2];refine qho (x:=[95]) (k:=3) (v:=(0,0,[])) ?_ hl;show wdL (95::r)=_
   have e:wdL (95::r)=if hdIs innB r then none else some (3,1,0,0,[]):=rfl;rw [e,hi];rfl
theorem qrM {a:At} (h:atOk a=true) (hr:atR a):Has (atT a) (atK a):=by
 intro m r hi hl;unfold atOk nmB at h
 simp only [Bool.and_eq_true] at h
 unfold atT atK;rw [qAg h.1];have ha:∀ t∈a.2,Has (tmT t) [tmK t]:=fun t ht=>qzD (List.all_eq_true.1 h.1 t ht) (hr t ht)
 have hs:=qzE ha (tk 6 [41]::m) (41::r) rfl (qdR 41 (by simp) hl)
 have:=qou (.inl rfl) h.2.1 (r:=40::(qdj (a.2.map tmT) [44,32]++41::r)) rfl (qdR 40 (by simp) hs)
 simpa using this
theorem qFw {o:Int} (h:opOk o=true) {m:List Wv} {r:Txt} (hl:Lx m r):Lx (tk 6 (opW o)::m) (opT o++r):=by
 simp only [opOk,decide_eq_true_eq] at h
 obtain⟨n,rfl⟩:∃ n:Nat,o=(n:Int):=⟨o.toNat,by omega⟩
 have h1:1≤n∧n≤6:=by omega
 match n,h1 with
 |1,_=>exact qgg (qdR 61 (by simp) (qgg hl))
 |2,_=>exact qgg (qvJ 33 61 (by simp) (qgg hl))
 |3,_=>exact qgg (qkm 60 (by simp) hl)
 |4,_=>exact qgg (qvJ 60 61 (by simp) (qgg hl))
 |5,_=>exact qgg (qkm 62 (by simp) hl)
 |6,_=>exact qgg (qvJ 62 61 (by simp) (qgg hl))
 |0,h=>omega
 |n+7,h=>omega
theorem qDQ {o:Int} (h:opOk o=true) (r:Txt):hdIs innB (opT o++r)=false:=by
 simp only [opOk,decide_eq_true_eq] at h
 obtain⟨n,rfl⟩:∃ n:Nat,o=(n:Int):=⟨o.toNat,by omega⟩
 have h1:1≤n∧n≤6:=by omega
 match n,h1 with
 |1,_=>rfl
 |2,_=>rfl
 |3,_=>rfl
 |4,_=>rfl
 |5,_=>rfl
 |6,_=>rfl
 |0,h=>omega
 |n+7,h=>omega
theorem qkI {s:Txt} (h:wdL s=some (1,s.length,0,0,[])) {m:List Wv} {r:Txt} (hr:hdIs innB r=false) (hl:Lx m r):Lx (tk 1 s::m) (s++r):=qho (qqg h (by decide) hr) hl
theorem qFI {l:Li} (h:liOk l=true) (hr:liR l):Has (liT l) (liK l):=by
 intro m r hi hl;unfold liOk at h
 unfold liT liK;by_cases h1:l.1=1
 ·rw [if_pos (.inl h1)] at h
  rw [if_pos h1,if_pos h1];simp only [Bool.and_eq_true] at h
  exact qrM h.1 hr.1 m r hi hl
 ·by_cases h2:l.1=2
  ·rw [if_pos (.inr h2)] at h
   rw [if_neg h1,if_neg h1,if_pos h2,if_pos h2];simp only [Bool.and_eq_true] at h
   have:=qkI (s:=[110,111,116]) (by rfl) (r:=32::(atT l.2.1++r)) rfl (qgg (qrM h.1 hr.1 m r hi hl))
   simpa using this
  ·rw [if_neg (by omega)] at h
   by_cases h3:l.1=3
   ·rw [if_pos h3] at h
    rw [if_neg h1,if_neg h1,if_neg h2,if_neg h2,if_pos h3];simp only [Bool.and_eq_true] at h
    have hb:=qzD h.1.2 hr.2.2 m r hi hl;have ho:=qFw h.1.1.2 hb;have:=qzD h.1.1.1 hr.2.1 _ _ (qDQ h.1.1.2 _) ho;simpa using this
   ·rw [if_neg h3] at h
    cases h
theorem qp7 {α:Type} {ok:α→Bool} {R:α→Prop} {T:α→Txt} {K:α→List Wv} (H:∀ a,ok a=true→R a→Has (T a) (K a)) {l:List α} (h:l.all ok=true) (hr:∀ a∈l,R a):Has (qdj (l.map T) [44,32]) (sepK K l) :=
 qzE fun a ha=>H a (List.all_eq_true.1 h a ha) (hr a ha)
theorem qFB {x:Ru} (h:ruOk x=true) (hr:ruR x):Has (ruT x) (ruK x):=by
 intro m r hi hl;unfold ruOk at h
 simp only [Bool.and_eq_true] at h
 have hd:=qdR 46 (by simp) hl
 unfold ruT ruK;by_cases hb:x.2=[]
 ·rw [if_pos hb,if_pos hb];have:=qrM h.1 hr.1 (tk 6 [46]::m) (46::r) rfl hd;simpa using this
 ·rw [if_neg hb,if_neg hb,qAg h.2];have hs:=qp7 (T:=liT) (K:=liK) (R:=liR) (fun a h1 h2=>qFI h1 h2) h.2 hr.2 (tk 6 [46]::m) (46::r) rfl hd
  have:=qrM h.1 hr.1 _ _ rfl (qgg (qvJ 58 45 (by simp) (qgg hs)))
  simpa using this
theorem qCl {t:Int} (h:tyOk t=true):Has (tyT t) (tyK t):=by
 intro m r hi hl;simp only [tyOk,decide_eq_true_eq] at h
 rcases h with rfl|rfl
 ·exact qkI (s:=[105,110,116]) (by rfl) hi hl
 ·exact qkI (s:=[115,121,109]) (by rfl) hi hl
theorem qF3 {d:De} (h:deOk d=true):Has (deT d) (deK d):=by
 intro m r hi hl;unfold deOk nmB at h
 simp only [Bool.and_eq_true] at h
 unfold deT deK;rw [qAg h.1];have hs:=qp7 (T:=tyT) (K:=tyK) (R:=fun _=>True) (fun a h1 _=>qCl h1) h.1 (fun _ _=>trivial) (tk 6 [41]::tk 6 [46]::m) (41::46::r) rfl (qdR 41 (by simp) (qdR 46 (by simp) hl))
 have hn:=qou (.inl rfl) h.2.1 (r:=40::(qdj (d.2.2.map tyT) [44,32]++41::46::r)) rfl (qdR 40 (by simp) hs)
 cases d.2.1 with
 |true =>
  have:=qkI (s:=[98,97,115,101]) (by rfl) (r:=32::(d.1++40::(qdj (d.2.2.map tyT) [44,32]++41::46::r))) rfl (qgg hn)
  simpa using this
 |false =>
  have:=qkI (s:=[118,105,101,119]) (by rfl) (r:=32::(d.1++40::(qdj (d.2.2.map tyT) [44,32]++41::46::r))) rfl (qgg hn)
  simpa using this
theorem qFV {p:Pa} (h:paOk p=true):Has (paT p) (paK p):=by
 intro m r hi hl;unfold paOk at h
 simp only [Bool.and_eq_true] at h
 have ht:=qCl h.1 m r hi hl;have:=qou (.inr rfl) h.2 (r:=32::(tyT p.2++r)) rfl (qgg ht);simpa [paT,paK,tyK] using this
theorem qD9 {a:At} (h:atOk a=true) (r:Txt):hdIs qaH (atT a++r)=false:=by
 unfold atOk nmB at h
 simp only [Bool.and_eq_true] at h
 obtain⟨v,hv⟩:=qzM h.2.1;unfold atT;cases ha:a.1 with
 |nil=>rw [ha] at hv;cases hv
 |cons c t =>
  rw [ha] at hv;simp only [List.cons_append,hdIs];cases hd:qaH c with
  |false=>rfl
  |true =>
   simp only [qaH,Bool.and_eq_true,decide_eq_true_eq] at hd;have h1:qfK c=false:=by simp [qfK];omega
   have h2:qg9 c=false:=by simp [qg9];omega
   have h3:c.toNat≠95:=by omega
   have h4:qaH c=true:=by simp [qaH,hd]
   simp only [wdL,h1,h2,if_neg h3,h4,Bool.true_or,if_true,Bool.false_eq_true,if_false] at hv;have:=(qeH hv).1;omega
theorem qEF {a:Ac} (h:acOk a=true) (hr:acR a):Has (acT a) (acK a):=by
 intro m r hi hl;have h1:=qrM h hr m r hi hl;have h2:=qD9 h r;unfold acT acK;cases a.1 with
 |true=>exact qdR 43 (by simp) h1
 |false=>exact qBP h1 h2
theorem qFz {o:En} (h:enOk o=true) (hr:enR o):Has (enT o) (enK o):=by
 intro m r hi hl;unfold enOk nmB at h
 simp only [Bool.and_eq_true] at h
 have hd:=qdR 46 (by simp) hl
 unfold enT enK;rw [qAg h.1.1];have rest:Lx (((if o.2.2=[] then [] else tk 6 [58]::sepK acK o.2.2)++[tk 6 [46]])++m) ((if o.2.2=[] then [] else [58,32]++jn acOk acT [44,32] o.2.2)++[46]++r)∧hdIs innB ((if o.2.2=[] then [] else [58,32]++jn acOk acT [44,32] o.2.2)++[46]++r)=false:=by
  by_cases hb:o.2.2=[]
  ·rw [if_pos hb,if_pos hb];exact⟨hd,rfl⟩
  ·rw [if_neg hb,if_neg hb,qAg h.1.2];have hs:=qp7 (T:=acT) (K:=acK) (R:=acR) (fun a h1 h2=>qEF h1 h2) h.1.2 hr (tk 6 [46]::m) (46::r) rfl hd
   have:=qkm 58 (by simp) hs
   exact⟨by simpa using this,rfl⟩
 have hs:=qp7 (T:=paT) (K:=paK) (R:=fun _=>True) (fun a h1 _=>qFV h1) h.1.1 (fun _ _=>trivial) _ _ rfl (qdR 41 (by simp) rest.1)
 have hn:=qou (.inl rfl) h.2.1 (r:=40::(qdj (o.2.1.map paT) [44,32]++41::((if o.2.2=[] then [] else [58,32]++jn acOk acT [44,32] o.2.2)++[46]++r))) rfl (qdR 40 (by simp) hs)
 have:=qkI (s:=[111,110]) (by rfl) (r:=32::(o.1++40::(qdj (o.2.1.map paT) [44,32]++41::((if o.2.2=[] then [] else [58,32]++jn acOk acT [44,32] o.2.2)++[46]++r)))) rfl (qgg hn)
 simpa using this
end Go.Pv
set_option linter.unusedSimpArgs false
set_option linter.unusedVariables false
namespace Go.Pv
theorem qfP {α β ρ:Type} {l:List α} (n:Nat) (hn:n≤l.length) {V:Nat→List β→ρ} (ok:α→Bool) (g:α→β) (fin:List β→ρ) (Bad:ρ→Prop)
  (hgood:∀ (i:Nat) (b:List β) (a:α),b.length=i→(hi:i < l.length)→i < n→l[i]=a→ok a=true→V i b=V (i+1) (b++[g a]))
  (hbad:∀ (i:Nat) (b:List β) (a:α),b.length=i→(hi:i < l.length)→i < n→l[i]=a→ok a=false→Bad (V i b))
  (hend:∀ b:List β,b.length=n→V n b=fin b):((l.take n).all ok=true→V 0 []=fin ((l.take n).map g))∧((l.take n).all ok=false→Bad (V 0 [])):=by
 have key:∀ (m i:Nat),i+m=n→(((l.take n).drop i).all ok=true→V i ((l.take i).map g)=fin ((l.take n).map g))∧(((l.take n).drop i).all ok=false→Bad (V i ((l.take i).map g))):=by
  intro m
  induction m with
  |zero =>
   intro i hi;have e:i=n:=by omega
   subst e;have hd:(l.take i).drop i=[]:=List.drop_eq_nil_of_le (by rw [List.length_take];omega)
   rw [hd];exact⟨fun _=>hend _ (by rw [List.length_map,List.length_take];omega),fun h=>by simp at h⟩
  |succ m ih =>
   intro i hi;obtain⟨ih1,ih2⟩:=ih (i+1) (by omega)
   have hlt:i < l.length:=by omega
   have hd:(l.take n).drop i=l[i]::(l.take n).drop (i+1):=by
    have hlt':i < (l.take n).length:=by rw [List.length_take];omega
    rw [List.drop_eq_getElem_cons hlt'];simp
   have hb:((l.take i).map g).length=i:=by rw [List.length_map,List.length_take];omega
   have ht:(l.take (i+1)).map g=(l.take i).map g++[g l[i]]:=by
    rw [← List.take_append_getElem hlt,List.map_append];rfl
   rw [hd,List.all_cons];cases ho:ok l[i] with
   |true =>
    rw [Bool.true_and,hgood i _ l[i] hb hlt (by omega) rfl ho,← ht]
    exact⟨ih1,ih2⟩
   |false =>
    rw [Bool.false_and];exact⟨fun h=>(by cases h),fun _=>hbad i _ l[i] hb hlt (by omega) rfl ho⟩
 have:=key n 0 (by omega)
 simpa using this
theorem qmg {α β ρ:Type} {l:List α} (n:Nat) (hn:n≤l.length) {V:Nat→List β→ρ} (g:α→β) (fin:List β→ρ)
  (hstep:∀ (i:Nat) (b:List β) (a:α),b.length=i→(hi:i < l.length)→i < n→l[i]=a→V i b=V (i+1) (b++[g a]))
  (hend:∀ b:List β,b.length=n→V n b=fin b):V 0 []=fin ((l.take n).map g) :=
 (qfP n hn (fun _=>true) g fin (fun _=>False) (fun i b a h1 h2 h3 h4 _=>hstep i b a h1 h2 h3 h4) (fun _ _ _ _ _ _ _ h=>by cases h) hend).1 (by simp)
end Go.Pv
set_option maxHeartbeats 4000000
set_option maxRecDepth 200000
set_option linter.unusedSimpArgs false
set_option linter.unusedVariables false
namespace Go.Pv
open Go Go.Proofs
def qC1:GamT:=ofL [(80,.pure qrh)]
theorem qCQ (gl:Gl) (hg:GlLex gl):qa3 Tryz.prog gl (gam qC1):=(qad (qwM gl hg) qag)
def qFd:LpsT:=fun r fr σ=>.fail
def qwY (s:qU) (k:Int):Tr PV:=.ite (qh1 s) (.ite (iEq (qhx s) 0) (.ite (iEq (xLen (qdY s)) 1) (.ite (qao 0) (.ite (qbx [.int .i64 0,.str [],.int .i64 0,.int .i64 0,.str [],.int .i64 0] (qdY s) (nNat 0)) (.ite (iEq (xInt (qdY s) (nNat 0) 0) k) (.ite (qao 0) (.ite (qbx [.int .i64 0,.str [],.int .i64 0,.int .i64 0,.str [],.int .i64 0] (qdY s) (nNat 0)) (.ret (.bool (sEq (xStr (qdY s) (nNat 0) 1) s))) .fail) .fail) (.ret (.bool false))) .fail) .fail) (.ret (.bool false))) (.ret (.bool false))) .fail
theorem qGc (s:qU) (k:Int):(tcall tbT qC1 qFd Tryz.f52 [.str s,.int .i64 k]).flat=qwY s k:=by kernel_rfl
def qAU (s:qU) (k:Int):Option PV:=(qwY s k).run
def qty (s:qU) (k:Int):Bool:=(qbU (gVal (qAU s k)))
def qkD (s:qU) (k:Int):Bool:=isW (qAU s k) (.bool (qty s k))
def qAR:List PV→Tr PV|[.str s,.int .i64 k]=>.ite (qkD s k) (.ret (.bool (qty s k))) (.fail)|_=>.fail
theorem qz5 (gl:Gl) (hg:GlLex gl):SimP Tryz.prog gl 52 fun args=>(qAR args).run:=by
 refine SimP.of_flat (G:=qC1) (L:=qFd) qav (qCQ gl hg ) qai  Tryz.func52 rfl (by rfl) (by kernel_rfl) (qae (by kernel_rfl)) ?_
 intro args x h;unfold qAR at h
 split at h
 ·exact (congrArg Tr.run (qGc _ _)).trans (qah h fun h=>by cases h)
 ·cases h
def qtw:GamT:=ofL [(52,.pure qAR)]
theorem qyM (gl:Gl) (hg:GlLex gl):qa3 Tryz.prog gl (gam qtw):=(qad (qz5 gl hg) qag)
def qz8:LpsT:=fun r fr σ=>.fail
def qqJ (s:qU):Tr PV:=.ite (sEq s [98,97,115,101]) (.ret (.bool false)) (.ite (sEq s [118,105,101,119]) (.ret (.bool false)) (.ite (sEq s [111,110]) (.ret (.bool false)) (.ite (sEq s [110,111,116]) (.ret (.bool false)) (.ite (qkD s 1) (.ret (.bool (qty s 1))) .fail))))
theorem qDA (s:qU):(tcall tbT qtw qz8 Tryz.f18 [.str s]).flat=qqJ s:=by kernel_rfl
def qpz (s:qU):Option PV:=(qqJ s).run
def qdS (s:qU):Bool:=(qbU (gVal (qpz s)))
def qcC (s:qU):Bool:=isW (qpz s) (.bool (qdS s))
def qk6:List PV→Tr PV|[.str s]=>.ite (qcC s) (.ret (.bool (qdS s))) (.fail)|_=>.fail
theorem qj0 (gl:Gl) (hg:GlLex gl):SimP Tryz.prog gl 18 fun args=>(qk6 args).run:=by
 refine SimP.of_flat (G:=qtw) (L:=qz8) qav (qyM gl hg ) qai  Tryz.func18 rfl (by rfl) (by kernel_rfl) (qae (by kernel_rfl)) ?_
 intro args x h;unfold qk6 at h
 split at h
 ·exact (congrArg Tr.run (qDA _)).trans (qah h fun h=>by cases h)
 ·cases h
def qzy:GamT:=ofL [(52,.pure qAR)]
theorem qAH (gl:Gl) (hg:GlLex gl):qa3 Tryz.prog gl (gam qzy):=(qad (qz5 gl hg) qag)
def qB3:LpsT:=fun r fr σ=>.fail
def qug (s:qU):Tr PV:=.ite (qkD s 2) (.ret (.bool (qty s 2))) .fail
theorem qE1 (s:qU):(tcall tbT qzy qB3 Tryz.f20 [.str s]).flat=qug s:=by kernel_rfl
def qvd (s:qU):Option PV:=(qug s).run
def qjH (s:qU):Bool:=(qbU (gVal (qvd s)))
def qfr (s:qU):Bool:=isW (qvd s) (.bool (qjH s))
def qr1:List PV→Tr PV|[.str s]=>.ite (qfr s) (.ret (.bool (qjH s))) (.fail)|_=>.fail
theorem qrb (gl:Gl) (hg:GlLex gl):SimP Tryz.prog gl 20 fun args=>(qr1 args).run:=by
 refine SimP.of_flat (G:=qzy) (L:=qB3) qav (qAH gl hg ) qai  Tryz.func20 rfl (by rfl) (by kernel_rfl) (qae (by kernel_rfl)) ?_
 intro args x h;unfold qr1 at h
 split at h
 ·exact (congrArg Tr.run (qE1 _)).trans (qah h fun h=>by cases h)
 ·cases h
def qus:GamT:=ofL [(20,.pure qr1),(75,.pure qu7)]
theorem qxY (gl:Gl) (hg:GlLex gl):qa3 Tryz.prog gl (gam qus):=(qad (qrb gl hg) (qad (qvD hg.toGlOk.toGlPow) qag))
def qyW:LpsT:=fun r fr σ=>.fail
def qqQ (t:Int) (t2:qU) (t3:Int) (t4:Int) (t5:qU):Tr PV:=.ite (iEq t 1) (.ite (qfr t2) (.ite (qjH t2) (.ret (.tup [.str t2,.bool (bAnd (iEq t3 0) (bAnd (iEq t4 0) (bAnd (sEq t5 []) true)))])) (.ret (.tup [.str t2,.bool false]))) .fail) (.ite (iEq t 2) (.ite (iEq (qbG t3 t4 t5) 0) (.ret (.tup [.str (qdv t3 t4 t5),.bool (sEq t2 [])])) (.ret (.tup [.str (qdv t3 t4 t5),.bool false]))) (.ret (.tup [.str [95],.bool (bAnd (iEq t 3) (bAnd (sEq t2 []) (bAnd (bAnd (iEq t3 0) (bAnd (iEq t4 0) (bAnd (sEq t5 []) true))) true)))])))
theorem qCU (t:Int) (t2:qU) (t3:Int) (t4:Int) (t5:qU):(tcall tbT qus qyW Tryz.f44 [.agg [.int .i64 t,.str t2,.int .i64 t3,.int .i64 t4,.str t5]]).flat=qqQ t t2 t3 t4 t5:=by kernel_rfl
def qnS (t:Int) (t2:qU) (t3:Int) (t4:Int) (t5:qU):Option PV:=(qqQ t t2 t3 t4 t5).run
def qaE (t:Int) (t2:qU) (t3:Int) (t4:Int) (t5:qU):List UInt8:=(gStr (gAt (gCs (gVal (qnS t t2 t3 t4 t5))) 0))
def qdu (t:Int) (t2:qU) (t3:Int) (t4:Int) (t5:qU):Bool:=(qbU (gAt (gCs (gVal (qnS t t2 t3 t4 t5))) 1))
def qck (t:Int) (t2:qU) (t3:Int) (t4:Int) (t5:qU):Bool:=isW (qnS t t2 t3 t4 t5) (.tup [.str (qaE t t2 t3 t4 t5),.bool (qdu t t2 t3 t4 t5)])
def qnk:List PV→Tr PV|[.agg [.int .i64 t,.str t2,.int .i64 t3,.int .i64 t4,.str t5]]=>.ite (qck t t2 t3 t4 t5) (.ret (.tup [.str (qaE t t2 t3 t4 t5),.bool (qdu t t2 t3 t4 t5)])) (.fail)|_=>.fail
theorem qnx (gl:Gl) (hg:GlLex gl):SimP Tryz.prog gl 44 fun args=>(qnk args).run:=by
 refine SimP.of_flat (G:=qus) (L:=qyW) qav (qxY gl hg ) qai  Tryz.func44 rfl (by rfl) (by kernel_rfl) (qae (by kernel_rfl)) ?_
 intro args x h;unfold qnk at h
 split at h
 ·exact (congrArg Tr.run (qCU _ _ _ _ _)).trans (qah h fun h=>by cases h)
 ·cases h
def qxL:GamT:=ofL [(44,.pure qnk),(88,.pure qm3),(qhg,.hint [(8,0,1,9)])]
theorem qz3 (gl:Gl) (hg:GlLex gl):qa3 Tryz.prog gl (gam qxL):=(qad (qnx gl hg) (qad (qj9 hg.toGlOk.toGlPow) (qb6 (K:=.hint [(8,0,1,9)]) trivial qag)))
def qvx:Code:=qgr Tryz.f78 3
def quU:LI:=⟨35,[1,2,8,13,14,15],fun e=>match e with|.ret=>[6,7]|.exit 0=>[1,8]|_=>[],true⟩
def qtP:LpsT:=fun r fr σ=>.fail
def qiq (vs:List PV) (σ:Store):Option (PExit×List PV×Store):=lval (lstep tbT qxL qtP qvx quU) vs σ
def qmA (between:qU) (texts:qR) (r:qR) (n:Int) (n2:Int) (k:Nat):Tr LR:=.ite (iLt n2 n) (.ite (qao n2) (.ite (qbx [.int .i64 0,.str [],.int .i64 0,.int .i64 0,.str []] r (nNat n2)) (.ite (qck (xInt r (nNat n2) 0) (xStr r (nNat n2) 1) (xInt r (nNat n2) 2) (xInt r (nNat n2) 3) (xStr r (nNat n2) 4)) (.ite (bNot (qdu (xInt r (nNat n2) 0) (xStr r (nNat n2) 1) (xInt r (nNat n2) 2) (xInt r (nNat n2) 3) (xStr r (nNat n2) 4))) (.ret (.out .ret [.str [],.bool false] (Store.mk [] [(k,1,9)] []))) (.ite (qbm texts [[.str (qaE (xInt r (nNat n2) 0) (xStr r (nNat n2) 1) (xInt r (nNat n2) 2) (xInt r (nNat n2) 3) (xStr r (nNat n2) 4))]] 16) (.ite (qbf [[.str (qaE (xInt r (nNat n2) 0) (xStr r (nNat n2) 1) (xInt r (nNat n2) 2) (xInt r (nNat n2) 3) (xStr r (nNat n2) 4))]] 1) (.ite (qaD texts 1) (.ite (nEq k (nXs texts)) (.ret (.next [.str between,.fn 44 [],.sl (qap 0 (xApp texts [[.str (qaE (xInt r (nNat n2) 0) (xStr r (nNat n2) 1) (xInt r (nNat n2) 2) (xInt r (nNat n2) 3) (xStr r (nNat n2) 4))]])) (.tok 0),.sl (qap 0 r) .non,.int .i64 n,.int .i64 (iAdd .i64 n2 1)] (Store.mk [] [(nXs (xApp texts [[.str (qaE (xInt r (nNat n2) 0) (xStr r (nNat n2) 1) (xInt r (nNat n2) 2) (xInt r (nNat n2) 3) (xStr r (nNat n2) 4))]]),1,9)] []))) .fail) .fail) .fail) .fail)) .fail) .fail) .fail) (.ret (.out (.exit 0) [.str between,.sl texts (.tok 0)] (Store.mk [] [(k,1,9)] [])))
theorem qEE (between:qU) (texts:qR) (r:qR) (n:Int) (n2:Int) (k:Nat):lstep tbT qxL qtP qvx quU [.str between,.fn 44 [],.sl texts (.tok 0),.sl r .non,.int .i64 n,.int .i64 n2] ⟨[],[(k,1,9)],[]⟩=qmA between texts r n n2 k:=by kernel_rfl
theorem qyn (between:qU) (texts:qR) (r:qR) (n:Int) (n2:Int) (k:Nat):qiq [.str between,.fn 44 [],.sl texts (.tok 0),.sl r .non,.int .i64 n,.int .i64 n2] ⟨[],[(k,1,9)],[]⟩=lnext qiq (qmA between texts r n n2 k).run:=by unfold qiq;rw [qb0,qEE]
def qij (between:qU) (texts:qR) (r:qR) (n:Int) (n2:Int) (k:Nat):Option (PExit×List PV×Store):=qiq [.str between,.fn 44 [],.sl texts (.tok 0),.sl r .non,.int .i64 n,.int .i64 n2] ⟨[],[(k,1,9)],[]⟩
def qj8 (between:qU) (texts:qR) (r:qR) (n:Int) (n2:Int) (k:Nat):List UInt8:=(gStr (gOut (qij between texts r n n2 k) 0))
def qjE (between:qU) (texts:qR) (r:qR) (n:Int) (n2:Int) (k:Nat):Bool:=(qbU (gOut (qij between texts r n n2 k) 1))
def qmk (between:qU) (texts:qR) (r:qR) (n:Int) (n2:Int) (k:Nat):Nat:=(gTok (qij between texts r n n2 k) 0)
def qlJ (between:qU) (texts:qR) (r:qR) (n:Int) (n2:Int) (k:Nat):Bool:=isW (qij between texts r n n2 k) (.ret,[.str (qj8 between texts r n n2 k),.bool (qjE between texts r n n2 k)],⟨[],[((qmk between texts r n n2 k),1,9)],[]⟩)
def qco (between:qU) (texts:qR) (r:qR) (n:Int) (n2:Int) (k:Nat):List UInt8:=(gStr (gOut (qij between texts r n n2 k) 0))
def qcF (between:qU) (texts:qR) (r:qR) (n:Int) (n2:Int) (k:Nat):List (List PV):=(gRow (gOut (qij between texts r n n2 k) 1))
def ql3 (between:qU) (texts:qR) (r:qR) (n:Int) (n2:Int) (k:Nat):Nat:=(gTok (qij between texts r n n2 k) 0)
def qmd (between:qU) (texts:qR) (r:qR) (n:Int) (n2:Int) (k:Nat):Bool:=isW (qij between texts r n n2 k) ((.exit 0),[.str (qco between texts r n n2 k),.sl (qcF between texts r n n2 k) (.tok 0)],⟨[],[((ql3 between texts r n n2 k),1,9)],[]⟩)
def qjP:List PV→Store→Tr (PExit×List PV×Store)|[.str between,.fn 44 [],.sl texts (.tok 0),.sl r .non,.int .i64 n,.int .i64 n2],⟨[],[(k,1,9)],[]⟩=>.ite (qlJ between texts r n n2 k) (.ret (.ret,[.str (qj8 between texts r n n2 k),.bool (qjE between texts r n n2 k)],⟨[],[((qmk between texts r n n2 k),1,9)],[]⟩)) (.ite (qmd between texts r n n2 k) (.ret ((.exit 0),[.str (qco between texts r n n2 k),.sl (qcF between texts r n n2 k) (.tok 0)],⟨[],[((ql3 between texts r n n2 k),1,9)],[]⟩)) (.fail))|_,_=>.fail
theorem qDu:∀ vs σ r,(qjP vs σ).run=some r→qiq vs σ=some r:=by
 intro vs σ r h;unfold qjP at h
 split at h
 ·exact qah h fun h=>qah h fun h=>by cases h
 ·cases h
theorem qzi (gl:Gl) (hg:GlLex gl):∀ fr σ e fr' σ',(orc quU qjP fr σ).run=some (e,fr',σ')→LDoes Tryz.prog gl qvx fr σ e fr' σ':=qdi qav (qz3 gl hg ) qai (L:=qtP) (qae (by kernel_rfl)) (by kernel_rfl) qDu
def qCz:LpsT:=fun r fr σ=>bif Nat.beq r 3 then orc quU qjP fr σ else .fail
def qzg (l:qR) (sep:qU):Tr PV:=.ite (qlJ sep [] l (xLen l) 0 0) (.ret (.tup [.str (qj8 sep [] l (xLen l) 0 0),.bool (qjE sep [] l (xLen l) 0 0)])) (.ite (qmd sep [] l (xLen l) 0 0) (.ite (okR cS (qaa (qcF sep [] l (xLen l) 0 0))) (.ite (qfB (unR cS (qaa (qcF sep [] l (xLen l) 0 0))) (qco sep [] l (xLen l) 0 0)) (.ret (.tup [.str (qdj (unR cS (qaa (qcF sep [] l (xLen l) 0 0))) (qco sep [] l (xLen l) 0 0)),.bool true])) .fail) .fail) .fail)
theorem qGg (l:qR) (sep:qU):(tcall tbT qxL qCz Tryz.f78 [.sl l .non,.str sep,.fn 44 []]).flat=qzg l sep:=by kernel_rfl
def qzc (l:qR) (sep:qU):Option PV:=(qzg l sep).run
def qoG (l:qR) (sep:qU):List UInt8:=(gStr (gAt (gCs (gVal (qzc l sep))) 0))
def qth (l:qR) (sep:qU):Bool:=(qbU (gAt (gCs (gVal (qzc l sep))) 1))
def qkP (l:qR) (sep:qU):Bool:=isW (qzc l sep) (.tup [.str (qoG l sep),.bool (qth l sep)])
def qCK:List PV→Tr PV|[.sl l .non,.str sep,.fn 44 []]=>.ite (qkP l sep) (.ret (.tup [.str (qoG l sep),.bool (qth l sep)])) (.fail)|_=>.fail
theorem qDz (gl:Gl) (hg:GlLex gl):SimP Tryz.prog gl 78 fun args=>(qCK args).run:=by
 refine SimP.of_flat (G:=qxL) (L:=qCz) qav (qz3 gl hg ) qai  Tryz.func78 rfl (by rfl) (by kernel_rfl) (qbp (L:=lps qCz) [(3,qvx)] (by kernel_rfl) (List.forall_mem_cons.2 ⟨fun fr σ e fr' σ' h=>qzi gl hg  fr σ e fr' σ' h,(List.forall_mem_nil _)⟩)) ?_
 intro args x h;unfold qCK at h
 split at h
 ·exact (congrArg Tr.run (qGg _ _)).trans (qah h fun h=>by cases h)
 ·cases h
def qs0:GamT:=ofL [(18,.pure qk6),(44,.pure qnk),(78,.pure qCK)]
theorem qy5 (gl:Gl) (hg:GlLex gl):qa3 Tryz.prog gl (gam qs0):=(qad (qj0 gl hg) (qad (qnx gl hg) (qad (qDz gl hg) qag)))
def qza:LpsT:=fun r fr σ=>.fail
def qpR (a:qU) (a2:qR):Tr PV:=.ite (qkP (qaa a2) [44,32]) (.ite (qba a [40]) (.ite (qba (sApp a [40]) (qoG (qaa a2) [44,32])) (.ite (qba (sApp (sApp a [40]) (qoG (qaa a2) [44,32])) [41]) (.ite (qth (qaa a2) [44,32]) (.ite (qcC a) (.ret (.tup [.str (sApp (sApp (sApp a [40]) (qoG (qaa a2) [44,32])) [41]),.bool (qdS a)])) .fail) (.ret (.tup [.str (sApp (sApp (sApp a [40]) (qoG (qaa a2) [44,32])) [41]),.bool false]))) .fail) .fail) .fail) .fail
theorem qD1 (a:qU) (a2:qR):(tcall tbT qs0 qza Tryz.f47 [.agg [.str a,.sl a2 .non]]).flat=qpR a a2:=by kernel_rfl
def qnD (a:qU) (a2:qR):Option PV:=(qpR a a2).run
def qbl (a:qU) (a2:qR):List UInt8:=(gStr (gAt (gCs (gVal (qnD a a2))) 0))
def qcU (a:qU) (a2:qR):Bool:=(qbU (gAt (gCs (gVal (qnD a a2))) 1))
def qb3 (a:qU) (a2:qR):Bool:=isW (qnD a a2) (.tup [.str (qbl a a2),.bool (qcU a a2)])
def qmY:List PV→Tr PV|[.agg [.str a,.sl a2 .non]]=>.ite (qb3 a a2) (.ret (.tup [.str (qbl a a2),.bool (qcU a a2)])) (.fail)|_=>.fail
theorem qnm (gl:Gl) (hg:GlLex gl):SimP Tryz.prog gl 47 fun args=>(qmY args).run:=by
 refine SimP.of_flat (G:=qs0) (L:=qza) qav (qy5 gl hg ) qai  Tryz.func47 rfl (by rfl) (by kernel_rfl) (qae (by kernel_rfl)) ?_
 intro args x h;unfold qmY at h
 split at h
 ·exact (congrArg Tr.run (qD1 _ _)).trans (qah h fun h=>by cases h)
 ·cases h
def qDk:GamT:=ofL []
theorem qEh (gl:Gl):qa3 Tryz.prog gl (gam qDk):=qag
def qFj:LpsT:=fun r fr σ=>.fail
def qyS (o:Int):Tr PV:=.ite (iEq o 1) (.ret (.tup [.str [32,61,32],.bool true])) (.ite (iEq o 2) (.ret (.tup [.str [32,33,61,32],.bool true])) (.ite (iEq o 3) (.ret (.tup [.str [32,60,32],.bool true])) (.ite (iEq o 4) (.ret (.tup [.str [32,60,61,32],.bool true])) (.ite (iEq o 5) (.ret (.tup [.str [32,62,32],.bool true])) (.ite (iEq o 6) (.ret (.tup [.str [32,62,61,32],.bool true])) (.ret (.tup [.str [],.bool false])))))))
theorem qGe (o:Int):(tcall tbT qDk qFj Tryz.f79 [.int .i64 o]).flat=qyS o:=by kernel_rfl
def qAf (o:Int):Option PV:=(qyS o).run
def qdr (o:Int):List UInt8:=(gStr (gAt (gCs (gVal (qAf o))) 0))
def qpG (o:Int):Bool:=(qbU (gAt (gCs (gVal (qAf o))) 1))
def qhf (o:Int):Bool:=isW (qAf o) (.tup [.str (qdr o),.bool (qpG o)])
def qDi:List PV→Tr PV|[.int .i64 o]=>.ite (qhf o) (.ret (.tup [.str (qdr o),.bool (qpG o)])) (.fail)|_=>.fail
theorem qCA (gl:Gl):SimP Tryz.prog gl 79 fun args=>(qDi args).run:=by
 refine SimP.of_flat (G:=qDk) (L:=qFj) qav (qEh gl ) qai  Tryz.func79 rfl (by rfl) (by kernel_rfl) (qae (by kernel_rfl)) ?_
 intro args x h;unfold qDi at h
 split at h
 ·exact (congrArg Tr.run (qGe _)).trans (qah h fun h=>by cases h)
 ·cases h
def qkr:GamT:=ofL [(44,.pure qnk),(47,.pure qmY),(79,.pure qDi)]
theorem qrA (gl:Gl) (hg:GlLex gl):qa3 Tryz.prog gl (gam qkr):=(qad (qnx gl hg) (qad (qnm gl hg) (qad (qCA gl) qag)))
def qoN:LpsT:=fun r fr σ=>.fail
def qiG (v:Int) (v2:qU) (v3:qR) (v4:Int) (v5:Int) (v6:qU) (v7:Int) (v8:Int) (v9:qU) (v10:Int) (v11:qU) (v12:Int) (v13:Int) (v14:qU):Tr PV:=.ite (iEq v4 0) (.ite (bAnd (iEq v5 0) (bAnd (sEq v6 []) (bAnd (bAnd (iEq v7 0) (bAnd (iEq v8 0) (bAnd (sEq v9 []) true))) true))) (.ite (iEq v 1) (.ite (qb3 v2 (qaa v3)) (.ite (qcU v2 (qaa v3)) (.ret (.tup [.str (qbl v2 (qaa v3)),.bool (bAnd (iEq v10 0) (bAnd (sEq v11 []) (bAnd (bAnd (iEq v12 0) (bAnd (iEq v13 0) (bAnd (sEq v14 []) true))) true)))])) (.ret (.tup [.str (qbl v2 (qaa v3)),.bool false]))) .fail) (.ite (iEq v 2) (.ite (qb3 v2 (qaa v3)) (.ite (qba [110,111,116,32] (qbl v2 (qaa v3))) (.ite (qcU v2 (qaa v3)) (.ret (.tup [.str (sApp [110,111,116,32] (qbl v2 (qaa v3))),.bool (bAnd (iEq v10 0) (bAnd (sEq v11 []) (bAnd (bAnd (iEq v12 0) (bAnd (iEq v13 0) (bAnd (sEq v14 []) true))) true)))])) (.ret (.tup [.str (sApp [110,111,116,32] (qbl v2 (qaa v3))),.bool false]))) .fail) .fail) (.ite (iEq v 3) (.ite (qck v5 v6 v7 v8 v9) (.ite (qhf v4) (.ite (qck v10 v11 v12 v13 v14) (.ite (qba (qaE v5 v6 v7 v8 v9) (qdr v4)) (.ite (qba (sApp (qaE v5 v6 v7 v8 v9) (qdr v4)) (qaE v10 v11 v12 v13 v14)) (.ite (qdu v5 v6 v7 v8 v9) (.ite (qpG v4) (.ite (qdu v10 v11 v12 v13 v14) (.ite (sEq v2 []) (.ret (.tup [.str (sApp (sApp (qaE v5 v6 v7 v8 v9) (qdr v4)) (qaE v10 v11 v12 v13 v14)),.bool (iEq (xLen v3) 0)])) (.ret (.tup [.str (sApp (sApp (qaE v5 v6 v7 v8 v9) (qdr v4)) (qaE v10 v11 v12 v13 v14)),.bool false]))) (.ret (.tup [.str (sApp (sApp (qaE v5 v6 v7 v8 v9) (qdr v4)) (qaE v10 v11 v12 v13 v14)),.bool false]))) (.ret (.tup [.str (sApp (sApp (qaE v5 v6 v7 v8 v9) (qdr v4)) (qaE v10 v11 v12 v13 v14)),.bool false])))
 (.ret (.tup [.str (sApp (sApp (qaE v5 v6 v7 v8 v9) (qdr v4)) (qaE v10 v11 v12 v13 v14)),.bool false]))) .fail) .fail) .fail) .fail) .fail) (.ret (.tup [.str [],.bool false]))))) (.ite (iEq v 1) (.ite (qb3 v2 (qaa v3)) (.ite (qcU v2 (qaa v3)) (.ret (.tup [.str (qbl v2 (qaa v3)),.bool false])) (.ret (.tup [.str (qbl v2 (qaa v3)),.bool false]))) .fail) (.ite (iEq v 2) (.ite (qb3 v2 (qaa v3)) (.ite (qba [110,111,116,32] (qbl v2 (qaa v3))) (.ite (qcU v2 (qaa v3)) (.ret (.tup [.str (sApp [110,111,116,32] (qbl v2 (qaa v3))),.bool false])) (.ret (.tup [.str (sApp [110,111,116,32] (qbl v2 (qaa v3))),.bool false]))) .fail) .fail) (.ite (iEq v 3) (.ite (qck v5 v6 v7 v8 v9) (.ite (qhf v4) (.ite (qck v10 v11 v12 v13 v14) (.ite (qba (qaE v5 v6 v7 v8 v9) (qdr v4)) (.ite (qba (sApp (qaE v5 v6 v7 v8 v9) (qdr v4)) (qaE v10 v11 v12 v13 v14)) (.ite (qdu v5 v6 v7 v8 v9) (.ite (qpG v4) (.ite (qdu v10 v11 v12 v13 v14) (.ite (sEq v2 []) (.ret (.tup [.str (sApp (sApp (qaE v5 v6 v7 v8 v9) (qdr v4)) (qaE v10 v11 v12 v13 v14)),.bool (iEq (xLen v3) 0)])) (.ret (.tup [.str (sApp (sApp (qaE v5 v6 v7 v8 v9) (qdr v4)) (qaE v10 v11 v12 v13 v14)),.bool false]))) (.ret (.tup [.str (sApp (sApp (qaE v5 v6 v7 v8 v9) (qdr v4)) (qaE v10 v11 v12 v13 v14)),.bool false]))) (.ret (.tup [.str (sApp (sApp (qaE v5 v6 v7 v8 v9) (qdr v4)) (qaE v10 v11 v12 v13 v14)),.bool false]))) (.ret (.tup [.str (sApp (sApp (qaE v5 v6 v7 v8 v9) (qdr v4)) (qaE v10 v11 v12 v13 v14)),.bool false]))) .fail) .fail) .fail) .fail) .fail) (.ret (.tup [.str [],.bool false])))))) (.ite (iEq v 1) (.ite (qb3 v2 (qaa v3)) (.ite (qcU v2 (qaa v3)) (.ret (.tup [.str (qbl v2 (qaa v3)),.bool false])) (.ret (.tup [.str (qbl v2 (qaa v3)),.bool false]))) .fail) (.ite (iEq v 2) (.ite (qb3 v2 (qaa v3))
 (.ite (qba [110,111,116,32] (qbl v2 (qaa v3))) (.ite (qcU v2 (qaa v3)) (.ret (.tup [.str (sApp [110,111,116,32] (qbl v2 (qaa v3))),.bool false])) (.ret (.tup [.str (sApp [110,111,116,32] (qbl v2 (qaa v3))),.bool false]))) .fail) .fail) (.ite (iEq v 3) (.ite (qck v5 v6 v7 v8 v9) (.ite (qhf v4) (.ite (qck v10 v11 v12 v13 v14) (.ite (qba (qaE v5 v6 v7 v8 v9) (qdr v4)) (.ite (qba (sApp (qaE v5 v6 v7 v8 v9) (qdr v4)) (qaE v10 v11 v12 v13 v14)) (.ite (qdu v5 v6 v7 v8 v9) (.ite (qpG v4) (.ite (qdu v10 v11 v12 v13 v14) (.ite (sEq v2 []) (.ret (.tup [.str (sApp (sApp (qaE v5 v6 v7 v8 v9) (qdr v4)) (qaE v10 v11 v12 v13 v14)),.bool (iEq (xLen v3) 0)])) (.ret (.tup [.str (sApp (sApp (qaE v5 v6 v7 v8 v9) (qdr v4)) (qaE v10 v11 v12 v13 v14)),.bool false]))) (.ret (.tup [.str (sApp (sApp (qaE v5 v6 v7 v8 v9) (qdr v4)) (qaE v10 v11 v12 v13 v14)),.bool false]))) (.ret (.tup [.str (sApp (sApp (qaE v5 v6 v7 v8 v9) (qdr v4)) (qaE v10 v11 v12 v13 v14)),.bool false]))) (.ret (.tup [.str (sApp (sApp (qaE v5 v6 v7 v8 v9) (qdr v4)) (qaE v10 v11 v12 v13 v14)),.bool false]))) .fail) .fail) .fail) .fail) .fail) (.ret (.tup [.str [],.bool false])))))
theorem qww (v:Int) (v2:qU) (v3:qR) (v4:Int) (v5:Int) (v6:qU) (v7:Int) (v8:Int) (v9:qU) (v10:Int) (v11:qU) (v12:Int) (v13:Int) (v14:qU):(tcall tbT qkr qoN Tryz.f49 [.agg [.int .i64 v,.str v2,.sl v3 .non,.int .i64 v4,.int .i64 v5,.str v6,.int .i64 v7,.int .i64 v8,.str v9,.int .i64 v10,.str v11,.int .i64 v12,.int .i64 v13,.str v14]]).flat=qiG v v2 v3 v4 v5 v6 v7 v8 v9 v10 v11 v12 v13 v14:=by kernel_rfl
def qfz (v:Int) (v2:qU) (v3:qR) (v4:Int) (v5:Int) (v6:qU) (v7:Int) (v8:Int) (v9:qU) (v10:Int) (v11:qU) (v12:Int) (v13:Int) (v14:qU):Option PV:=(qiG v v2 v3 v4 v5 v6 v7 v8 v9 v10 v11 v12 v13 v14).run
def qcs (v:Int) (v2:qU) (v3:qR) (v4:Int) (v5:Int) (v6:qU) (v7:Int) (v8:Int) (v9:qU) (v10:Int) (v11:qU) (v12:Int) (v13:Int) (v14:qU):List UInt8:=(gStr (gAt (gCs (gVal (qfz v v2 v3 v4 v5 v6 v7 v8 v9 v10 v11 v12 v13 v14))) 0))
def qdp (v:Int) (v2:qU) (v3:qR) (v4:Int) (v5:Int) (v6:qU) (v7:Int) (v8:Int) (v9:qU) (v10:Int) (v11:qU) (v12:Int) (v13:Int) (v14:qU):Bool:=(qbU (gAt (gCs (gVal (qfz v v2 v3 v4 v5 v6 v7 v8 v9 v10 v11 v12 v13 v14))) 1))
def qc6 (v:Int) (v2:qU) (v3:qR) (v4:Int) (v5:Int) (v6:qU) (v7:Int) (v8:Int) (v9:qU) (v10:Int) (v11:qU) (v12:Int) (v13:Int) (v14:qU):Bool:=isW (qfz v v2 v3 v4 v5 v6 v7 v8 v9 v10 v11 v12 v13 v14) (.tup [.str (qcs v v2 v3 v4 v5 v6 v7 v8 v9 v10 v11 v12 v13 v14),.bool (qdp v v2 v3 v4 v5 v6 v7 v8 v9 v10 v11 v12 v13 v14)])
def qh5:List PV→Tr PV|[.agg [.int .i64 v,.str v2,.sl v3 .non,.int .i64 v4,.int .i64 v5,.str v6,.int .i64 v7,.int .i64 v8,.str v9,.int .i64 v10,.str v11,.int .i64 v12,.int .i64 v13,.str v14]]=>.ite (qc6 v v2 v3 v4 v5 v6 v7 v8 v9 v10 v11 v12 v13 v14) (.ret (.tup [.str (qcs v v2 v3 v4 v5 v6 v7 v8 v9 v10 v11 v12 v13 v14),.bool (qdp v v2 v3 v4 v5 v6 v7 v8 v9 v10 v11 v12 v13 v14)])) (.fail)|_=>.fail
theorem qll (gl:Gl) (hg:GlLex gl):SimP Tryz.prog gl 49 fun args=>(qh5 args).run:=by
 refine SimP.of_flat (G:=qkr) (L:=qoN) qav (qrA gl hg ) qai  Tryz.func49 rfl (by rfl) (by kernel_rfl) (qae (by kernel_rfl)) ?_
 intro args x h;unfold qh5 at h
 split at h
 ·exact (congrArg Tr.run (qww _ _ _ _ _ _ _ _ _ _ _ _ _ _)).trans (qah h fun h=>by cases h)
 ·cases h
def qxE:GamT:=ofL [(49,.pure qh5),(88,.pure qm3),(qhg,.hint [(8,0,1,9)])]
theorem qzT (gl:Gl) (hg:GlLex gl):qa3 Tryz.prog gl (gam qxE):=(qad (qll gl hg) (qad (qj9 hg.toGlOk.toGlPow) (qb6 (K:=.hint [(8,0,1,9)]) trivial qag)))
def qu9:Code:=qgr Tryz.f81 3
def qva:LI:=⟨35,[1,2,8,13,14,15],fun e=>match e with|.ret=>[6,7]|.exit 0=>[1,8]|_=>[],true⟩
def qtY:LpsT:=fun r fr σ=>.fail
def qin (vs:List PV) (σ:Store):Option (PExit×List PV×Store):=lval (lstep tbT qxE qtY qu9 qva) vs σ
def qoz (between:qU) (texts:qR) (r:qR) (n:Int) (n2:Int) (k:Nat):Tr LR:=.ite (iLt n2 n) (.ite (qao n2) (.ite (qbx [.int .i64 0,.str [],.sl [] .full,.int .i64 0,.int .i64 0,.str [],.int .i64 0,.int .i64 0,.str [],.int .i64 0,.str [],.int .i64 0,.int .i64 0,.str []] r (nNat n2)) (.ite (qc6 (xInt r (nNat n2) 0) (xStr r (nNat n2) 1) (qaa (xRow r (nNat n2) 2)) (xInt r (nNat n2) 3) (xInt r (nNat n2) 4) (xStr r (nNat n2) 5) (xInt r (nNat n2) 6) (xInt r (nNat n2) 7) (xStr r (nNat n2) 8) (xInt r (nNat n2) 9) (xStr r (nNat n2) 10) (xInt r (nNat n2) 11) (xInt r (nNat n2) 12) (xStr r (nNat n2) 13)) (.ite (bNot (qdp (xInt r (nNat n2) 0) (xStr r (nNat n2) 1) (qaa (xRow r (nNat n2) 2)) (xInt r (nNat n2) 3) (xInt r (nNat n2) 4) (xStr r (nNat n2) 5) (xInt r (nNat n2) 6) (xInt r (nNat n2) 7) (xStr r (nNat n2) 8) (xInt r (nNat n2) 9) (xStr r (nNat n2) 10) (xInt r (nNat n2) 11) (xInt r (nNat n2) 12) (xStr r (nNat n2) 13))) (.ret (.out .ret [.str [],.bool false] (Store.mk [] [(k,1,9)] []))) (.ite (qbm texts [[.str (qcs (xInt r (nNat n2) 0) (xStr r (nNat n2) 1) (qaa (xRow r (nNat n2) 2)) (xInt r (nNat n2) 3) (xInt r (nNat n2) 4) (xStr r (nNat n2) 5) (xInt r (nNat n2) 6) (xInt r (nNat n2) 7) (xStr r (nNat n2) 8) (xInt r (nNat n2) 9) (xStr r (nNat n2) 10) (xInt r (nNat n2) 11) (xInt r (nNat n2) 12) (xStr r (nNat n2) 13))]] 16) (.ite (qbf [[.str (qcs (xInt r (nNat n2) 0) (xStr r (nNat n2) 1) (qaa (xRow r (nNat n2) 2)) (xInt r (nNat n2) 3) (xInt r (nNat n2) 4) (xStr r (nNat n2) 5) (xInt r (nNat n2) 6) (xInt r (nNat n2) 7) (xStr r (nNat n2) 8) (xInt r (nNat n2) 9) (xStr r (nNat n2) 10) (xInt r (nNat n2) 11) (xInt r (nNat n2) 12) (xStr r (nNat n2) 13))]] 1) (.ite (qaD texts 1) (.ite (nEq k (nXs texts)) (.ret (.next [.str between,.fn 49 [],.sl (qap 0 (xApp texts [[.str
 (qcs (xInt r (nNat n2) 0) (xStr r (nNat n2) 1) (qaa (xRow r (nNat n2) 2)) (xInt r (nNat n2) 3) (xInt r (nNat n2) 4) (xStr r (nNat n2) 5) (xInt r (nNat n2) 6) (xInt r (nNat n2) 7) (xStr r (nNat n2) 8) (xInt r (nNat n2) 9) (xStr r (nNat n2) 10) (xInt r (nNat n2) 11) (xInt r (nNat n2) 12) (xStr r (nNat n2) 13))]])) (.tok 0),.sl (qap 0 r) .non,.int .i64 n,.int .i64 (iAdd .i64 n2 1)] (Store.mk [] [(nXs (xApp texts [[.str (qcs (xInt r (nNat n2) 0) (xStr r (nNat n2) 1) (qaa (xRow r (nNat n2) 2)) (xInt r (nNat n2) 3) (xInt r (nNat n2) 4) (xStr r (nNat n2) 5) (xInt r (nNat n2) 6) (xInt r (nNat n2) 7) (xStr r (nNat n2) 8) (xInt r (nNat n2) 9) (xStr r (nNat n2) 10) (xInt r (nNat n2) 11) (xInt r (nNat n2) 12) (xStr r (nNat n2) 13))]]),1,9)] []))) .fail) .fail) .fail) .fail)) .fail) .fail) .fail) (.ret (.out (.exit 0) [.str between,.sl texts (.tok 0)] (Store.mk [] [(k,1,9)] [])))
theorem qFt (between:qU) (texts:qR) (r:qR) (n:Int) (n2:Int) (k:Nat):lstep tbT qxE qtY qu9 qva [.str between,.fn 49 [],.sl texts (.tok 0),.sl r .non,.int .i64 n,.int .i64 n2] ⟨[],[(k,1,9)],[]⟩=qoz between texts r n n2 k:=by kernel_rfl
theorem qw9 (between:qU) (texts:qR) (r:qR) (n:Int) (n2:Int) (k:Nat):qin [.str between,.fn 49 [],.sl texts (.tok 0),.sl r .non,.int .i64 n,.int .i64 n2] ⟨[],[(k,1,9)],[]⟩=lnext qin (qoz between texts r n n2 k).run:=by unfold qin;rw [qb0,qFt]
def qim (between:qU) (texts:qR) (r:qR) (n:Int) (n2:Int) (k:Nat):Option (PExit×List PV×Store):=qin [.str between,.fn 49 [],.sl texts (.tok 0),.sl r .non,.int .i64 n,.int .i64 n2] ⟨[],[(k,1,9)],[]⟩
def qjJ (between:qU) (texts:qR) (r:qR) (n:Int) (n2:Int) (k:Nat):List UInt8:=(gStr (gOut (qim between texts r n n2 k) 0))
def qkd (between:qU) (texts:qR) (r:qR) (n:Int) (n2:Int) (k:Nat):Bool:=(qbU (gOut (qim between texts r n n2 k) 1))
def qlU (between:qU) (texts:qR) (r:qR) (n:Int) (n2:Int) (k:Nat):Nat:=(gTok (qim between texts r n n2 k) 0)
def qly (between:qU) (texts:qR) (r:qR) (n:Int) (n2:Int) (k:Nat):Bool:=isW (qim between texts r n n2 k) (.ret,[.str (qjJ between texts r n n2 k),.bool (qkd between texts r n n2 k)],⟨[],[((qlU between texts r n n2 k),1,9)],[]⟩)
def qcq (between:qU) (texts:qR) (r:qR) (n:Int) (n2:Int) (k:Nat):List UInt8:=(gStr (gOut (qim between texts r n n2 k) 0))
def qcK (between:qU) (texts:qR) (r:qR) (n:Int) (n2:Int) (k:Nat):List (List PV):=(gRow (gOut (qim between texts r n n2 k) 1))
def qmi (between:qU) (texts:qR) (r:qR) (n:Int) (n2:Int) (k:Nat):Nat:=(gTok (qim between texts r n n2 k) 0)
def qlw (between:qU) (texts:qR) (r:qR) (n:Int) (n2:Int) (k:Nat):Bool:=isW (qim between texts r n n2 k) ((.exit 0),[.str (qcq between texts r n n2 k),.sl (qcK between texts r n n2 k) (.tok 0)],⟨[],[((qmi between texts r n n2 k),1,9)],[]⟩)
def qjV:List PV→Store→Tr (PExit×List PV×Store)|[.str between,.fn 49 [],.sl texts (.tok 0),.sl r .non,.int .i64 n,.int .i64 n2],⟨[],[(k,1,9)],[]⟩=>.ite (qly between texts r n n2 k) (.ret (.ret,[.str (qjJ between texts r n n2 k),.bool (qkd between texts r n n2 k)],⟨[],[((qlU between texts r n n2 k),1,9)],[]⟩)) (.ite (qlw between texts r n n2 k) (.ret ((.exit 0),[.str (qcq between texts r n n2 k),.sl (qcK between texts r n n2 k) (.tok 0)],⟨[],[((qmi between texts r n n2 k),1,9)],[]⟩)) (.fail))|_,_=>.fail
theorem qDw:∀ vs σ r,(qjV vs σ).run=some r→qin vs σ=some r:=by
 intro vs σ r h;unfold qjV at h
 split at h
 ·exact qah h fun h=>qah h fun h=>by cases h
 ·cases h
theorem qyz (gl:Gl) (hg:GlLex gl):∀ fr σ e fr' σ',(orc qva qjV fr σ).run=some (e,fr',σ')→LDoes Tryz.prog gl qu9 fr σ e fr' σ':=qdi qav (qzT gl hg ) qai (L:=qtY) (qae (by kernel_rfl)) (by kernel_rfl) qDw
def qCO:LpsT:=fun r fr σ=>bif Nat.beq r 3 then orc qva qjV fr σ else .fail
def qzZ (l:qR) (sep:qU):Tr PV:=.ite (qly sep [] l (xLen l) 0 0) (.ret (.tup [.str (qjJ sep [] l (xLen l) 0 0),.bool (qkd sep [] l (xLen l) 0 0)])) (.ite (qlw sep [] l (xLen l) 0 0) (.ite (okR cS (qaa (qcK sep [] l (xLen l) 0 0))) (.ite (qfB (unR cS (qaa (qcK sep [] l (xLen l) 0 0))) (qcq sep [] l (xLen l) 0 0)) (.ret (.tup [.str (qdj (unR cS (qaa (qcK sep [] l (xLen l) 0 0))) (qcq sep [] l (xLen l) 0 0)),.bool true])) .fail) .fail) .fail)
theorem qGo (l:qR) (sep:qU):(tcall tbT qxE qCO Tryz.f81 [.sl l .non,.str sep,.fn 49 []]).flat=qzZ l sep:=by kernel_rfl
def qyx (l:qR) (sep:qU):Option PV:=(qzZ l sep).run
def qiA (l:qR) (sep:qU):List UInt8:=(gStr (gAt (gCs (gVal (qyx l sep))) 0))
def qsz (l:qR) (sep:qU):Bool:=(qbU (gAt (gCs (gVal (qyx l sep))) 1))
def qli (l:qR) (sep:qU):Bool:=isW (qyx l sep) (.tup [.str (qiA l sep),.bool (qsz l sep)])
def qD3:List PV→Tr PV|[.sl l .non,.str sep,.fn 49 []]=>.ite (qli l sep) (.ret (.tup [.str (qiA l sep),.bool (qsz l sep)])) (.fail)|_=>.fail
theorem qDo (gl:Gl) (hg:GlLex gl):SimP Tryz.prog gl 81 fun args=>(qD3 args).run:=by
 refine SimP.of_flat (G:=qxE) (L:=qCO) qav (qzT gl hg ) qai  Tryz.func81 rfl (by rfl) (by kernel_rfl) (qbp (L:=lps qCO) [(3,qu9)] (by kernel_rfl) (List.forall_mem_cons.2 ⟨fun fr σ e fr' σ' h=>qyz gl hg  fr σ e fr' σ' h,(List.forall_mem_nil _)⟩)) ?_
 intro args x h;unfold qD3 at h
 split at h
 ·exact (congrArg Tr.run (qGo _ _)).trans (qah h fun h=>by cases h)
 ·cases h
def qtj:GamT:=ofL [(47,.pure qmY),(49,.pure qh5),(81,.pure qD3)]
theorem qzn (gl:Gl) (hg:GlLex gl):qa3 Tryz.prog gl (gam qtj):=(qad (qnm gl hg) (qad (qll gl hg) (qad (qDo gl hg) qag)))
def qyc:LpsT:=fun r fr σ=>.fail
def qqw (r_:qU) (r_2:qR) (r_3:qR):Tr PV:=.ite (qb3 r_ (qaa r_2)) (.ite (qli (qaa r_3) [44,32]) (.ite (iLt 0 (xLen r_3)) (.ite (qba [32,58,45,32] (qiA (qaa r_3) [44,32])) (.ite (qba (qbl r_ (qaa r_2)) (sApp [32,58,45,32] (qiA (qaa r_3) [44,32]))) (.ite (qba (sApp (qbl r_ (qaa r_2)) (sApp [32,58,45,32] (qiA (qaa r_3) [44,32]))) [46]) (.ite (qcU r_ (qaa r_2)) (.ret (.tup [.str (sApp (sApp (qbl r_ (qaa r_2)) (sApp [32,58,45,32] (qiA (qaa r_3) [44,32]))) [46]),.bool (qsz (qaa r_3) [44,32])])) (.ret (.tup [.str (sApp (sApp (qbl r_ (qaa r_2)) (sApp [32,58,45,32] (qiA (qaa r_3) [44,32]))) [46]),.bool false]))) .fail) .fail) .fail) (.ite (qba (qbl r_ (qaa r_2)) (qiA (qaa r_3) [44,32])) (.ite (qba (sApp (qbl r_ (qaa r_2)) (qiA (qaa r_3) [44,32])) [46]) (.ite (qcU r_ (qaa r_2)) (.ret (.tup [.str (sApp (sApp (qbl r_ (qaa r_2)) (qiA (qaa r_3) [44,32])) [46]),.bool (qsz (qaa r_3) [44,32])])) (.ret (.tup [.str (sApp (sApp (qbl r_ (qaa r_2)) (qiA (qaa r_3) [44,32])) [46]),.bool false]))) .fail) .fail)) .fail) .fail
theorem qDI (r_:qU) (r_2:qR) (r_3:qR):(tcall tbT qtj qyc Tryz.f54 [.agg [.str r_,.sl r_2 .non,.sl r_3 .non]]).flat=qqw r_ r_2 r_3:=by kernel_rfl
def qmW (r_:qU) (r_2:qR) (r_3:qR):Option PV:=(qqw r_ r_2 r_3).run
def qgZ (r_:qU) (r_2:qR) (r_3:qR):List UInt8:=(gStr (gAt (gCs (gVal (qmW r_ r_2 r_3))) 0))
def qgv (r_:qU) (r_2:qR) (r_3:qR):Bool:=(qbU (gAt (gCs (gVal (qmW r_ r_2 r_3))) 1))
def qfO (r_:qU) (r_2:qR) (r_3:qR):Bool:=isW (qmW r_ r_2 r_3) (.tup [.str (qgZ r_ r_2 r_3),.bool (qgv r_ r_2 r_3)])
def qtu:List PV→Tr PV|[.agg [.str r_,.sl r_2 .non,.sl r_3 .non]]=>.ite (qfO r_ r_2 r_3) (.ret (.tup [.str (qgZ r_ r_2 r_3),.bool (qgv r_ r_2 r_3)])) (.fail)|_=>.fail
theorem qyg (gl:Gl) (hg:GlLex gl):SimP Tryz.prog gl 54 fun args=>(qtu args).run:=by
 refine SimP.of_flat (G:=qtj) (L:=qyc) qav (qzn gl hg ) qai  Tryz.func54 rfl (by rfl) (by kernel_rfl) (qae (by kernel_rfl)) ?_
 intro args x h;unfold qtu at h
 split at h
 ·exact (congrArg Tr.run (qDI _ _ _)).trans (qah h fun h=>by cases h)
 ·cases h
def qtR:GamT:=ofL []
theorem qzN (gl:Gl):qa3 Tryz.prog gl (gam qtR):=qag
def qx9:LpsT:=fun r fr σ=>.fail
def qro (t:Int):Tr PV:=.ite (iEq t 1) (.ret (.tup [.str [105,110,116],.bool true])) (.ite (iEq t 2) (.ret (.tup [.str [115,121,109],.bool true])) (.ret (.tup [.str [],.bool false])))
theorem qDK (t:Int):(tcall tbT qtR qx9 Tryz.f83 [.int .i64 t]).flat=qro t:=by kernel_rfl
def qns (t:Int):Option PV:=(qro t).run
def qdx (t:Int):List UInt8:=(gStr (gAt (gCs (gVal (qns t))) 0))
def qhs (t:Int):Bool:=(qbU (gAt (gCs (gVal (qns t))) 1))
def qd8 (t:Int):Bool:=isW (qns t) (.tup [.str (qdx t),.bool (qhs t)])
def qob:List PV→Tr PV|[.int .i64 t]=>.ite (qd8 t) (.ret (.tup [.str (qdx t),.bool (qhs t)])) (.fail)|_=>.fail
theorem qnt (gl:Gl):SimP Tryz.prog gl 83 fun args=>(qob args).run:=by
 refine SimP.of_flat (G:=qtR) (L:=qx9) qav (qzN gl ) qai  Tryz.func83 rfl (by rfl) (by kernel_rfl) (qae (by kernel_rfl)) ?_
 intro args x h;unfold qob at h
 split at h
 ·exact (congrArg Tr.run (qDK _)).trans (qah h fun h=>by cases h)
 ·cases h
def qxl:GamT:=ofL [(83,.pure qob),(88,.pure qm3),(qhg,.hint [(8,0,1,9)])]
theorem qyh (gl:Gl) (hg:GlPow gl):qa3 Tryz.prog gl (gam qxl):=(qad (qnt gl) (qad (qj9 hg) (qb6 (K:=.hint [(8,0,1,9)]) trivial qag)))
def qvw:Code:=qgr Tryz.f82 3
def qvm:LI:=⟨35,[1,2,8,13,14,15],fun e=>match e with|.ret=>[6,7]|.exit 0=>[1,8]|_=>[],true⟩
def qur:LpsT:=fun r fr σ=>.fail
def qia (vs:List PV) (σ:Store):Option (PExit×List PV×Store):=lval (lstep tbT qxl qur qvw qvm) vs σ
def qmM (between:qU) (texts:qR) (r:qR) (n:Int) (n2:Int) (k:Nat):Tr LR:=.ite (iLt n2 n) (.ite (qao n2) (.ite (qbx [.int .i64 0] r (nNat n2)) (.ite (qd8 (xInt r (nNat n2) 0)) (.ite (bNot (qhs (xInt r (nNat n2) 0))) (.ret (.out .ret [.str [],.bool false] (Store.mk [] [(k,1,9)] []))) (.ite (qbm texts [[.str (qdx (xInt r (nNat n2) 0))]] 16) (.ite (qbf [[.str (qdx (xInt r (nNat n2) 0))]] 1) (.ite (qaD texts 1) (.ite (nEq k (nXs texts)) (.ret (.next [.str between,.fn 83 [],.sl (xApp texts [[.str (qdx (xInt r (nNat n2) 0))]]) (.tok 0),.sl r .non,.int .i64 n,.int .i64 (iAdd .i64 n2 1)] (Store.mk [] [(nXs (xApp texts [[.str (qdx (xInt r (nNat n2) 0))]]),1,9)] []))) .fail) .fail) .fail) .fail)) .fail) .fail) .fail) (.ret (.out (.exit 0) [.str between,.sl texts (.tok 0)] (Store.mk [] [(k,1,9)] [])))
theorem qEB (between:qU) (texts:qR) (r:qR) (n:Int) (n2:Int) (k:Nat):lstep tbT qxl qur qvw qvm [.str between,.fn 83 [],.sl texts (.tok 0),.sl r .non,.int .i64 n,.int .i64 n2] ⟨[],[(k,1,9)],[]⟩=qmM between texts r n n2 k:=by kernel_rfl
theorem qw4 (between:qU) (texts:qR) (r:qR) (n:Int) (n2:Int) (k:Nat):qia [.str between,.fn 83 [],.sl texts (.tok 0),.sl r .non,.int .i64 n,.int .i64 n2] ⟨[],[(k,1,9)],[]⟩=lnext qia (qmM between texts r n n2 k).run:=by unfold qia;rw [qb0,qEB]
def qik (between:qU) (texts:qR) (r:qR) (n:Int) (n2:Int) (k:Nat):Option (PExit×List PV×Store):=qia [.str between,.fn 83 [],.sl texts (.tok 0),.sl r .non,.int .i64 n,.int .i64 n2] ⟨[],[(k,1,9)],[]⟩
def qjO (between:qU) (texts:qR) (r:qR) (n:Int) (n2:Int) (k:Nat):List UInt8:=(gStr (gOut (qik between texts r n n2 k) 0))
def qju (between:qU) (texts:qR) (r:qR) (n:Int) (n2:Int) (k:Nat):Bool:=(qbU (gOut (qik between texts r n n2 k) 1))
def qmo (between:qU) (texts:qR) (r:qR) (n:Int) (n2:Int) (k:Nat):Nat:=(gTok (qik between texts r n n2 k) 0)
def ql8 (between:qU) (texts:qR) (r:qR) (n:Int) (n2:Int) (k:Nat):Bool:=isW (qik between texts r n n2 k) (.ret,[.str (qjO between texts r n n2 k),.bool (qju between texts r n n2 k)],⟨[],[((qmo between texts r n n2 k),1,9)],[]⟩)
def qct (between:qU) (texts:qR) (r:qR) (n:Int) (n2:Int) (k:Nat):List UInt8:=(gStr (gOut (qik between texts r n n2 k) 0))
def qcM (between:qU) (texts:qR) (r:qR) (n:Int) (n2:Int) (k:Nat):List (List PV):=(gRow (gOut (qik between texts r n n2 k) 1))
def ql6 (between:qU) (texts:qR) (r:qR) (n:Int) (n2:Int) (k:Nat):Nat:=(gTok (qik between texts r n n2 k) 0)
def qmf (between:qU) (texts:qR) (r:qR) (n:Int) (n2:Int) (k:Nat):Bool:=isW (qik between texts r n n2 k) ((.exit 0),[.str (qct between texts r n n2 k),.sl (qcM between texts r n n2 k) (.tok 0)],⟨[],[((ql6 between texts r n n2 k),1,9)],[]⟩)
def qjY:List PV→Store→Tr (PExit×List PV×Store)|[.str between,.fn 83 [],.sl texts (.tok 0),.sl r .non,.int .i64 n,.int .i64 n2],⟨[],[(k,1,9)],[]⟩=>.ite (ql8 between texts r n n2 k) (.ret (.ret,[.str (qjO between texts r n n2 k),.bool (qju between texts r n n2 k)],⟨[],[((qmo between texts r n n2 k),1,9)],[]⟩)) (.ite (qmf between texts r n n2 k) (.ret ((.exit 0),[.str (qct between texts r n n2 k),.sl (qcM between texts r n n2 k) (.tok 0)],⟨[],[((ql6 between texts r n n2 k),1,9)],[]⟩)) (.fail))|_,_=>.fail
theorem qDS:∀ vs σ r,(qjY vs σ).run=some r→qia vs σ=some r:=by
 intro vs σ r h;unfold qjY at h
 split at h
 ·exact qah h fun h=>qah h fun h=>by cases h
 ·cases h
theorem qx2 (gl:Gl) (hg:GlPow gl):∀ fr σ e fr' σ',(orc qvm qjY fr σ).run=some (e,fr',σ')→LDoes Tryz.prog gl qvw fr σ e fr' σ':=qdi qav (qyh gl hg ) qai (L:=qur) (qae (by kernel_rfl)) (by kernel_rfl) qDS
def qEg:LpsT:=fun r fr σ=>bif Nat.beq r 3 then orc qvm qjY fr σ else .fail
def qAc (l:qR) (sep:qU):Tr PV:=.ite (ql8 sep [] l (xLen l) 0 0) (.ret (.tup [.str (qjO sep [] l (xLen l) 0 0),.bool (qju sep [] l (xLen l) 0 0)])) (.ite (qmf sep [] l (xLen l) 0 0) (.ite (okR cS (qaa (qcM sep [] l (xLen l) 0 0))) (.ite (qfB (unR cS (qaa (qcM sep [] l (xLen l) 0 0))) (qct sep [] l (xLen l) 0 0)) (.ret (.tup [.str (qdj (unR cS (qaa (qcM sep [] l (xLen l) 0 0))) (qct sep [] l (xLen l) 0 0)),.bool true])) .fail) .fail) .fail)
theorem qGi (l:qR) (sep:qU):(tcall tbT qxl qEg Tryz.f82 [.sl l .non,.str sep,.fn 83 []]).flat=qAc l sep:=by kernel_rfl
def qzt (l:qR) (sep:qU):Option PV:=(qAc l sep).run
def qjo (l:qR) (sep:qU):List UInt8:=(gStr (gAt (gCs (gVal (qzt l sep))) 0))
def qr2 (l:qR) (sep:qU):Bool:=(qbU (gAt (gCs (gVal (qzt l sep))) 1))
def qiz (l:qR) (sep:qU):Bool:=isW (qzt l sep) (.tup [.str (qjo l sep),.bool (qr2 l sep)])
def qC8:List PV→Tr PV|[.sl l .non,.str sep,.fn 83 []]=>.ite (qiz l sep) (.ret (.tup [.str (qjo l sep),.bool (qr2 l sep)])) (.fail)|_=>.fail
theorem qEr (gl:Gl) (hg:GlPow gl):SimP Tryz.prog gl 82 fun args=>(qC8 args).run:=by
 refine SimP.of_flat (G:=qxl) (L:=qEg) qav (qyh gl hg ) qai  Tryz.func82 rfl (by rfl) (by kernel_rfl) (qbp (L:=lps qEg) [(3,qvw)] (by kernel_rfl) (List.forall_mem_cons.2 ⟨fun fr σ e fr' σ' h=>qx2 gl hg  fr σ e fr' σ' h,(List.forall_mem_nil _)⟩)) ?_
 intro args x h;unfold qC8 at h
 split at h
 ·exact (congrArg Tr.run (qGi _ _)).trans (qah h fun h=>by cases h)
 ·cases h
def qsI:GamT:=ofL [(18,.pure qk6),(82,.pure qC8),(83,.pure qob)]
theorem qzv (gl:Gl) (hg:GlLex gl):qa3 Tryz.prog gl (gam qsI):=(qad (qj0 gl hg) (qad (qEr gl hg.toGlOk.toGlPow) (qad (qnt gl) qag)))
def qzL:LpsT:=fun r fr σ=>.fail
def qpw (d:qU) (d2:Bool) (d3:qR):Tr PV:=.ite d2 (.ite (qiz (qaa d3) [44,32]) (.ite (qba [98,97,115,101,32] d) (.ite (qba (sApp [98,97,115,101,32] d) [40]) (.ite (qba (sApp (sApp [98,97,115,101,32] d) [40]) (qjo (qaa d3) [44,32])) (.ite (qba (sApp (sApp (sApp [98,97,115,101,32] d) [40]) (qjo (qaa d3) [44,32])) [41,46]) (.ite (qr2 (qaa d3) [44,32]) (.ite (qcC d) (.ret (.tup [.str (sApp (sApp (sApp (sApp [98,97,115,101,32] d) [40]) (qjo (qaa d3) [44,32])) [41,46]),.bool (qdS d)])) .fail) (.ret (.tup [.str (sApp (sApp (sApp (sApp [98,97,115,101,32] d) [40]) (qjo (qaa d3) [44,32])) [41,46]),.bool false]))) .fail) .fail) .fail) .fail) .fail) (.ite (qiz (qaa d3) [44,32]) (.ite (qba [118,105,101,119,32] d) (.ite (qba (sApp [118,105,101,119,32] d) [40]) (.ite (qba (sApp (sApp [118,105,101,119,32] d) [40]) (qjo (qaa d3) [44,32])) (.ite (qba (sApp (sApp (sApp [118,105,101,119,32] d) [40]) (qjo (qaa d3) [44,32])) [41,46]) (.ite (qr2 (qaa d3) [44,32]) (.ite (qcC d) (.ret (.tup [.str (sApp (sApp (sApp (sApp [118,105,101,119,32] d) [40]) (qjo (qaa d3) [44,32])) [41,46]),.bool (qdS d)])) .fail) (.ret (.tup [.str (sApp (sApp (sApp (sApp [118,105,101,119,32] d) [40]) (qjo (qaa d3) [44,32])) [41,46]),.bool false]))) .fail) .fail) .fail) .fail) .fail)
theorem qCL (d:qU) (d2:Bool) (d3:qR):(tcall tbT qsI qzL Tryz.f55 [.agg [.str d,.bool d2,.sl d3 .non]]).flat=qpw d d2 d3:=by kernel_rfl
def qnd (d:qU) (d2:Bool) (d3:qR):Option PV:=(qpw d d2 d3).run
def qf1 (d:qU) (d2:Bool) (d3:qR):List UInt8:=(gStr (gAt (gCs (gVal (qnd d d2 d3))) 0))
def qgn (d:qU) (d2:Bool) (d3:qR):Bool:=(qbU (gAt (gCs (gVal (qnd d d2 d3))) 1))
def qfw (d:qU) (d2:Bool) (d3:qR):Bool:=isW (qnd d d2 d3) (.tup [.str (qf1 d d2 d3),.bool (qgn d d2 d3)])
def qsO:List PV→Tr PV|[.agg [.str d,.bool d2,.sl d3 .non]]=>.ite (qfw d d2 d3) (.ret (.tup [.str (qf1 d d2 d3),.bool (qgn d d2 d3)])) (.fail)|_=>.fail
theorem qw3 (gl:Gl) (hg:GlLex gl):SimP Tryz.prog gl 55 fun args=>(qsO args).run:=by
 refine SimP.of_flat (G:=qsI) (L:=qzL) qav (qzv gl hg ) qai  Tryz.func55 rfl (by rfl) (by kernel_rfl) (qae (by kernel_rfl)) ?_
 intro args x h;unfold qsO at h
 split at h
 ·exact (congrArg Tr.run (qCL _ _ _)).trans (qah h fun h=>by cases h)
 ·cases h
def qzp:GamT:=ofL [(20,.pure qr1),(83,.pure qob)]
theorem qBU (gl:Gl) (hg:GlLex gl):qa3 Tryz.prog gl (gam qzp):=(qad (qrb gl hg) (qad (qnt gl) qag))
def qB7:LpsT:=fun r fr σ=>.fail
def qt0 (p_:qU) (p_2:Int):Tr PV:=.ite (qd8 p_2) (.ite (qba p_ [32]) (.ite (qba (sApp p_ [32]) (qdx p_2)) (.ite (qhs p_2) (.ite (qfr p_) (.ret (.tup [.str (sApp (sApp p_ [32]) (qdx p_2)),.bool (qjH p_)])) .fail) (.ret (.tup [.str (sApp (sApp p_ [32]) (qdx p_2)),.bool false]))) .fail) .fail) .fail
theorem qFJ (p_:qU) (p_2:Int):(tcall tbT qzp qB7 Tryz.f85 [.agg [.str p_,.int .i64 p_2]]).flat=qt0 p_ p_2:=by kernel_rfl
def qsm (p_:qU) (p_2:Int):Option PV:=(qt0 p_ p_2).run
def qio (p_:qU) (p_2:Int):List UInt8:=(gStr (gAt (gCs (gVal (qsm p_ p_2))) 0))
def qne (p_:qU) (p_2:Int):Bool:=(qbU (gAt (gCs (gVal (qsm p_ p_2))) 1))
def qh4 (p_:qU) (p_2:Int):Bool:=isW (qsm p_ p_2) (.tup [.str (qio p_ p_2),.bool (qne p_ p_2)])
def quE:List PV→Tr PV|[.agg [.str p_,.int .i64 p_2]]=>.ite (qh4 p_ p_2) (.ret (.tup [.str (qio p_ p_2),.bool (qne p_ p_2)])) (.fail)|_=>.fail
theorem quD (gl:Gl) (hg:GlLex gl):SimP Tryz.prog gl 85 fun args=>(quE args).run:=by
 refine SimP.of_flat (G:=qzp) (L:=qB7) qav (qBU gl hg ) qai  Tryz.func85 rfl (by rfl) (by kernel_rfl) (qae (by kernel_rfl)) ?_
 intro args x h;unfold quE at h
 split at h
 ·exact (congrArg Tr.run (qFJ _ _)).trans (qah h fun h=>by cases h)
 ·cases h
def qxH:GamT:=ofL [(47,.pure qmY)]
theorem qA0 (gl:Gl) (hg:GlLex gl):qa3 Tryz.prog gl (gam qxH):=(qad (qnm gl hg) qag)
def qCp:LpsT:=fun r fr σ=>.fail
def qtZ (a:Bool) (a2:qU) (a3:qR):Tr PV:=.ite (qb3 a2 (qaa a3)) (.ite a (.ite (qba [43] (qbl a2 (qaa a3))) (.ret (.tup [.str (sApp [43] (qbl a2 (qaa a3))),.bool (qcU a2 (qaa a3))])) .fail) (.ite (qba [45] (qbl a2 (qaa a3))) (.ret (.tup [.str (sApp [45] (qbl a2 (qaa a3))),.bool (qcU a2 (qaa a3))])) .fail)) .fail
theorem qFQ (a:Bool) (a2:qU) (a3:qR):(tcall tbT qxH qCp Tryz.f87 [.agg [.bool a,.str a2,.sl a3 .non]]).flat=qtZ a a2 a3:=by kernel_rfl
def qsA (a:Bool) (a2:qU) (a3:qR):Option PV:=(qtZ a a2 a3).run
def qid (a:Bool) (a2:qU) (a3:qR):List UInt8:=(gStr (gAt (gCs (gVal (qsA a a2 a3))) 0))
def qmH (a:Bool) (a2:qU) (a3:qR):Bool:=(qbU (gAt (gCs (gVal (qsA a a2 a3))) 1))
def qhO (a:Bool) (a2:qU) (a3:qR):Bool:=isW (qsA a a2 a3) (.tup [.str (qid a a2 a3),.bool (qmH a a2 a3)])
def qvv:List PV→Tr PV|[.agg [.bool a,.str a2,.sl a3 .non]]=>.ite (qhO a a2 a3) (.ret (.tup [.str (qid a a2 a3),.bool (qmH a a2 a3)])) (.fail)|_=>.fail
theorem qvN (gl:Gl) (hg:GlLex gl):SimP Tryz.prog gl 87 fun args=>(qvv args).run:=by
 refine SimP.of_flat (G:=qxH) (L:=qCp) qav (qA0 gl hg ) qai  Tryz.func87 rfl (by rfl) (by kernel_rfl) (qae (by kernel_rfl)) ?_
 intro args x h;unfold qvv at h
 split at h
 ·exact (congrArg Tr.run (qFQ _ _ _)).trans (qah h fun h=>by cases h)
 ·cases h
def qxk:GamT:=ofL [(85,.pure quE),(88,.pure qm3),(qhg,.hint [(8,0,1,9)])]
theorem qxn (gl:Gl) (hg:GlLex gl):qa3 Tryz.prog gl (gam qxk):=(qad (quD gl hg) (qad (qj9 hg.toGlOk.toGlPow) (qb6 (K:=.hint [(8,0,1,9)]) trivial qag)))
def qvr:Code:=qgr Tryz.f84 3
def quC:LI:=⟨35,[1,2,8,13,14,15],fun e=>match e with|.ret=>[6,7]|.exit 0=>[1,8]|_=>[],true⟩
def quq:LpsT:=fun r fr σ=>.fail
def qig (vs:List PV) (σ:Store):Option (PExit×List PV×Store):=lval (lstep tbT qxk quq qvr quC) vs σ
def qm4 (between:qU) (texts:qR) (r:qR) (n:Int) (n2:Int) (k:Nat):Tr LR:=.ite (iLt n2 n) (.ite (qao n2) (.ite (qbx [.str [],.int .i64 0] r (nNat n2)) (.ite (qh4 (xStr r (nNat n2) 0) (xInt r (nNat n2) 1)) (.ite (bNot (qne (xStr r (nNat n2) 0) (xInt r (nNat n2) 1))) (.ret (.out .ret [.str [],.bool false] (Store.mk [] [(k,1,9)] []))) (.ite (qbm texts [[.str (qio (xStr r (nNat n2) 0) (xInt r (nNat n2) 1))]] 16) (.ite (qbf [[.str (qio (xStr r (nNat n2) 0) (xInt r (nNat n2) 1))]] 1) (.ite (qaD texts 1) (.ite (nEq k (nXs texts)) (.ret (.next [.str between,.fn 85 [],.sl (qap 0 (xApp texts [[.str (qio (xStr r (nNat n2) 0) (xInt r (nNat n2) 1))]])) (.tok 0),.sl (qap 0 r) .non,.int .i64 n,.int .i64 (iAdd .i64 n2 1)] (Store.mk [] [(nXs (xApp texts [[.str (qio (xStr r (nNat n2) 0) (xInt r (nNat n2) 1))]]),1,9)] []))) .fail) .fail) .fail) .fail)) .fail) .fail) .fail) (.ret (.out (.exit 0) [.str between,.sl texts (.tok 0)] (Store.mk [] [(k,1,9)] [])))
theorem qFC (between:qU) (texts:qR) (r:qR) (n:Int) (n2:Int) (k:Nat):lstep tbT qxk quq qvr quC [.str between,.fn 85 [],.sl texts (.tok 0),.sl r .non,.int .i64 n,.int .i64 n2] ⟨[],[(k,1,9)],[]⟩=qm4 between texts r n n2 k:=by kernel_rfl
theorem qzU (between:qU) (texts:qR) (r:qR) (n:Int) (n2:Int) (k:Nat):qig [.str between,.fn 85 [],.sl texts (.tok 0),.sl r .non,.int .i64 n,.int .i64 n2] ⟨[],[(k,1,9)],[]⟩=lnext qig (qm4 between texts r n n2 k).run:=by unfold qig;rw [qb0,qFC]
def qil (between:qU) (texts:qR) (r:qR) (n:Int) (n2:Int) (k:Nat):Option (PExit×List PV×Store):=qig [.str between,.fn 85 [],.sl texts (.tok 0),.sl r .non,.int .i64 n,.int .i64 n2] ⟨[],[(k,1,9)],[]⟩
def qjR (between:qU) (texts:qR) (r:qR) (n:Int) (n2:Int) (k:Nat):List UInt8:=(gStr (gOut (qil between texts r n n2 k) 0))
def qjW (between:qU) (texts:qR) (r:qR) (n:Int) (n2:Int) (k:Nat):Bool:=(qbU (gOut (qil between texts r n n2 k) 1))
def qlZ (between:qU) (texts:qR) (r:qR) (n:Int) (n2:Int) (k:Nat):Nat:=(gTok (qil between texts r n n2 k) 0)
def ql2 (between:qU) (texts:qR) (r:qR) (n:Int) (n2:Int) (k:Nat):Bool:=isW (qil between texts r n n2 k) (.ret,[.str (qjR between texts r n n2 k),.bool (qjW between texts r n n2 k)],⟨[],[((qlZ between texts r n n2 k),1,9)],[]⟩)
def qcp (between:qU) (texts:qR) (r:qR) (n:Int) (n2:Int) (k:Nat):List UInt8:=(gStr (gOut (qil between texts r n n2 k) 0))
def qcE (between:qU) (texts:qR) (r:qR) (n:Int) (n2:Int) (k:Nat):List (List PV):=(gRow (gOut (qil between texts r n n2 k) 1))
def qlY (between:qU) (texts:qR) (r:qR) (n:Int) (n2:Int) (k:Nat):Nat:=(gTok (qil between texts r n n2 k) 0)
def qlB (between:qU) (texts:qR) (r:qR) (n:Int) (n2:Int) (k:Nat):Bool:=isW (qil between texts r n n2 k) ((.exit 0),[.str (qcp between texts r n n2 k),.sl (qcE between texts r n n2 k) (.tok 0)],⟨[],[((qlY between texts r n n2 k),1,9)],[]⟩)
def qjg:List PV→Store→Tr (PExit×List PV×Store)|[.str between,.fn 85 [],.sl texts (.tok 0),.sl r .non,.int .i64 n,.int .i64 n2],⟨[],[(k,1,9)],[]⟩=>.ite (ql2 between texts r n n2 k) (.ret (.ret,[.str (qjR between texts r n n2 k),.bool (qjW between texts r n n2 k)],⟨[],[((qlZ between texts r n n2 k),1,9)],[]⟩)) (.ite (qlB between texts r n n2 k) (.ret ((.exit 0),[.str (qcp between texts r n n2 k),.sl (qcE between texts r n n2 k) (.tok 0)],⟨[],[((qlY between texts r n n2 k),1,9)],[]⟩)) (.fail))|_,_=>.fail
theorem qDl:∀ vs σ r,(qjg vs σ).run=some r→qig vs σ=some r:=by
 intro vs σ r h;unfold qjg at h
 split at h
 ·exact qah h fun h=>qah h fun h=>by cases h
 ·cases h
theorem qw1 (gl:Gl) (hg:GlLex gl):∀ fr σ e fr' σ',(orc quC qjg fr σ).run=some (e,fr',σ')→LDoes Tryz.prog gl qvr fr σ e fr' σ':=qdi qav (qxn gl hg ) qai (L:=quq) (qae (by kernel_rfl)) (by kernel_rfl) qDl
def qDG:LpsT:=fun r fr σ=>bif Nat.beq r 3 then orc quC qjg fr σ else .fail
def qxv (l:qR) (sep:qU):Tr PV:=.ite (ql2 sep [] l (xLen l) 0 0) (.ret (.tup [.str (qjR sep [] l (xLen l) 0 0),.bool (qjW sep [] l (xLen l) 0 0)])) (.ite (qlB sep [] l (xLen l) 0 0) (.ite (okR cS (qaa (qcE sep [] l (xLen l) 0 0))) (.ite (qfB (unR cS (qaa (qcE sep [] l (xLen l) 0 0))) (qcp sep [] l (xLen l) 0 0)) (.ret (.tup [.str (qdj (unR cS (qaa (qcE sep [] l (xLen l) 0 0))) (qcp sep [] l (xLen l) 0 0)),.bool true])) .fail) .fail) .fail)
theorem qGq (l:qR) (sep:qU):(tcall tbT qxk qDG Tryz.f84 [.sl l .non,.str sep,.fn 85 []]).flat=qxv l sep:=by kernel_rfl
def qxA (l:qR) (sep:qU):Option PV:=(qxv l sep).run
def qfI (l:qR) (sep:qU):List UInt8:=(gStr (gAt (gCs (gVal (qxA l sep))) 0))
def qsp (l:qR) (sep:qU):Bool:=(qbU (gAt (gCs (gVal (qxA l sep))) 1))
def qk2 (l:qR) (sep:qU):Bool:=isW (qxA l sep) (.tup [.str (qfI l sep),.bool (qsp l sep)])
def qCM:List PV→Tr PV|[.sl l .non,.str sep,.fn 85 []]=>.ite (qk2 l sep) (.ret (.tup [.str (qfI l sep),.bool (qsp l sep)])) (.fail)|_=>.fail
theorem qEe (gl:Gl) (hg:GlLex gl):SimP Tryz.prog gl 84 fun args=>(qCM args).run:=by
 refine SimP.of_flat (G:=qxk) (L:=qDG) qav (qxn gl hg ) qai  Tryz.func84 rfl (by rfl) (by kernel_rfl) (qbp (L:=lps qDG) [(3,qvr)] (by kernel_rfl) (List.forall_mem_cons.2 ⟨fun fr σ e fr' σ' h=>qw1 gl hg  fr σ e fr' σ' h,(List.forall_mem_nil _)⟩)) ?_
 intro args x h;unfold qCM at h
 split at h
 ·exact (congrArg Tr.run (qGq _ _)).trans (qah h fun h=>by cases h)
 ·cases h
def qAi:GamT:=ofL [(87,.pure qvv),(88,.pure qm3),(qhg,.hint [(8,0,1,9)])]
theorem qzj (gl:Gl) (hg:GlLex gl):qa3 Tryz.prog gl (gam qAi):=(qad (qvN gl hg) (qad (qj9 hg.toGlOk.toGlPow) (qb6 (K:=.hint [(8,0,1,9)]) trivial qag)))
def qu4:Code:=qgr Tryz.f86 3
def qvG:LI:=⟨35,[1,2,8,13,14,15],fun e=>match e with|.ret=>[6,7]|.exit 0=>[1,8]|_=>[],true⟩
def qtL:LpsT:=fun r fr σ=>.fail
def qif (vs:List PV) (σ:Store):Option (PExit×List PV×Store):=lval (lstep tbT qAi qtL qu4 qvG) vs σ
def qmJ (between:qU) (texts:qR) (r:qR) (n:Int) (n2:Int) (k:Nat):Tr LR:=.ite (iLt n2 n) (.ite (qao n2) (.ite (qbx [.bool false,.str [],.sl [] .full] r (nNat n2)) (.ite (qhO (qfu r (nNat n2) 0) (xStr r (nNat n2) 1) (qaa (xRow r (nNat n2) 2))) (.ite (bNot (qmH (qfu r (nNat n2) 0) (xStr r (nNat n2) 1) (qaa (xRow r (nNat n2) 2)))) (.ret (.out .ret [.str [],.bool false] (Store.mk [] [(k,1,9)] []))) (.ite (qbm texts [[.str (qid (qfu r (nNat n2) 0) (xStr r (nNat n2) 1) (qaa (xRow r (nNat n2) 2)))]] 16) (.ite (qbf [[.str (qid (qfu r (nNat n2) 0) (xStr r (nNat n2) 1) (qaa (xRow r (nNat n2) 2)))]] 1) (.ite (qaD texts 1) (.ite (nEq k (nXs texts)) (.ret (.next [.str between,.fn 87 [],.sl (qap 0 (xApp texts [[.str (qid (qfu r (nNat n2) 0) (xStr r (nNat n2) 1) (qaa (xRow r (nNat n2) 2)))]])) (.tok 0),.sl (qap 0 r) .non,.int .i64 n,.int .i64 (iAdd .i64 n2 1)] (Store.mk [] [(nXs (xApp texts [[.str (qid (qfu r (nNat n2) 0) (xStr r (nNat n2) 1) (qaa (xRow r (nNat n2) 2)))]]),1,9)] []))) .fail) .fail) .fail) .fail)) .fail) .fail) .fail) (.ret (.out (.exit 0) [.str between,.sl texts (.tok 0)] (Store.mk [] [(k,1,9)] [])))
theorem qFq (between:qU) (texts:qR) (r:qR) (n:Int) (n2:Int) (k:Nat):lstep tbT qAi qtL qu4 qvG [.str between,.fn 87 [],.sl texts (.tok 0),.sl r .non,.int .i64 n,.int .i64 n2] ⟨[],[(k,1,9)],[]⟩=qmJ between texts r n n2 k:=by kernel_rfl
theorem qx5 (between:qU) (texts:qR) (r:qR) (n:Int) (n2:Int) (k:Nat):qif [.str between,.fn 87 [],.sl texts (.tok 0),.sl r .non,.int .i64 n,.int .i64 n2] ⟨[],[(k,1,9)],[]⟩=lnext qif (qmJ between texts r n n2 k).run:=by unfold qif;rw [qb0,qFq]
def qib (between:qU) (texts:qR) (r:qR) (n:Int) (n2:Int) (k:Nat):Option (PExit×List PV×Store):=qif [.str between,.fn 87 [],.sl texts (.tok 0),.sl r .non,.int .i64 n,.int .i64 n2] ⟨[],[(k,1,9)],[]⟩
def qjr (between:qU) (texts:qR) (r:qR) (n:Int) (n2:Int) (k:Nat):List UInt8:=(gStr (gOut (qib between texts r n n2 k) 0))
def qj7 (between:qU) (texts:qR) (r:qR) (n:Int) (n2:Int) (k:Nat):Bool:=(qbU (gOut (qib between texts r n n2 k) 1))
def ql9 (between:qU) (texts:qR) (r:qR) (n:Int) (n2:Int) (k:Nat):Nat:=(gTok (qib between texts r n n2 k) 0)
def qlW (between:qU) (texts:qR) (r:qR) (n:Int) (n2:Int) (k:Nat):Bool:=isW (qib between texts r n n2 k) (.ret,[.str (qjr between texts r n n2 k),.bool (qj7 between texts r n n2 k)],⟨[],[((ql9 between texts r n n2 k),1,9)],[]⟩)
def qcn (between:qU) (texts:qR) (r:qR) (n:Int) (n2:Int) (k:Nat):List UInt8:=(gStr (gOut (qib between texts r n n2 k) 0))
def qcA (between:qU) (texts:qR) (r:qR) (n:Int) (n2:Int) (k:Nat):List (List PV):=(gRow (gOut (qib between texts r n n2 k) 1))
def qlM (between:qU) (texts:qR) (r:qR) (n:Int) (n2:Int) (k:Nat):Nat:=(gTok (qib between texts r n n2 k) 0)
def qlx (between:qU) (texts:qR) (r:qR) (n:Int) (n2:Int) (k:Nat):Bool:=isW (qib between texts r n n2 k) ((.exit 0),[.str (qcn between texts r n n2 k),.sl (qcA between texts r n n2 k) (.tok 0)],⟨[],[((qlM between texts r n n2 k),1,9)],[]⟩)
def qjT:List PV→Store→Tr (PExit×List PV×Store)|[.str between,.fn 87 [],.sl texts (.tok 0),.sl r .non,.int .i64 n,.int .i64 n2],⟨[],[(k,1,9)],[]⟩=>.ite (qlW between texts r n n2 k) (.ret (.ret,[.str (qjr between texts r n n2 k),.bool (qj7 between texts r n n2 k)],⟨[],[((ql9 between texts r n n2 k),1,9)],[]⟩)) (.ite (qlx between texts r n n2 k) (.ret ((.exit 0),[.str (qcn between texts r n n2 k),.sl (qcA between texts r n n2 k) (.tok 0)],⟨[],[((qlM between texts r n n2 k),1,9)],[]⟩)) (.fail))|_,_=>.fail
theorem qDO:∀ vs σ r,(qjT vs σ).run=some r→qif vs σ=some r:=by
 intro vs σ r h;unfold qjT at h
 split at h
 ·exact qah h fun h=>qah h fun h=>by cases h
 ·cases h
theorem qzk (gl:Gl) (hg:GlLex gl):∀ fr σ e fr' σ',(orc qvG qjT fr σ).run=some (e,fr',σ')→LDoes Tryz.prog gl qu4 fr σ e fr' σ':=qdi qav (qzj gl hg ) qai (L:=qtL) (qae (by kernel_rfl)) (by kernel_rfl) qDO
def qDE:LpsT:=fun r fr σ=>bif Nat.beq r 3 then orc qvG qjT fr σ else .fail
def qyP (l:qR) (sep:qU):Tr PV:=.ite (qlW sep [] l (xLen l) 0 0) (.ret (.tup [.str (qjr sep [] l (xLen l) 0 0),.bool (qj7 sep [] l (xLen l) 0 0)])) (.ite (qlx sep [] l (xLen l) 0 0) (.ite (okR cS (qaa (qcA sep [] l (xLen l) 0 0))) (.ite (qfB (unR cS (qaa (qcA sep [] l (xLen l) 0 0))) (qcn sep [] l (xLen l) 0 0)) (.ret (.tup [.str (qdj (unR cS (qaa (qcA sep [] l (xLen l) 0 0))) (qcn sep [] l (xLen l) 0 0)),.bool true])) .fail) .fail) .fail)
theorem qF7 (l:qR) (sep:qU):(tcall tbT qAi qDE Tryz.f86 [.sl l .non,.str sep,.fn 87 []]).flat=qyP l sep:=by kernel_rfl
def qxo (l:qR) (sep:qU):Option PV:=(qyP l sep).run
def qhk (l:qR) (sep:qU):List UInt8:=(gStr (gAt (gCs (gVal (qxo l sep))) 0))
def qr3 (l:qR) (sep:qU):Bool:=(qbU (gAt (gCs (gVal (qxo l sep))) 1))
def qk7 (l:qR) (sep:qU):Bool:=isW (qxo l sep) (.tup [.str (qhk l sep),.bool (qr3 l sep)])
def qDD:List PV→Tr PV|[.sl l .non,.str sep,.fn 87 []]=>.ite (qk7 l sep) (.ret (.tup [.str (qhk l sep),.bool (qr3 l sep)])) (.fail)|_=>.fail
theorem qEc (gl:Gl) (hg:GlLex gl):SimP Tryz.prog gl 86 fun args=>(qDD args).run:=by
 refine SimP.of_flat (G:=qAi) (L:=qDE) qav (qzj gl hg ) qai  Tryz.func86 rfl (by rfl) (by kernel_rfl) (qbp (L:=lps qDE) [(3,qu4)] (by kernel_rfl) (List.forall_mem_cons.2 ⟨fun fr σ e fr' σ' h=>qzk gl hg  fr σ e fr' σ' h,(List.forall_mem_nil _)⟩)) ?_
 intro args x h;unfold qDD at h
 split at h
 ·exact (congrArg Tr.run (qF7 _ _)).trans (qah h fun h=>by cases h)
 ·cases h
def qDj:GamT:=ofL [(18,.pure qk6),(84,.pure qCM),(85,.pure quE),(86,.pure qDD),(87,.pure qvv)]
theorem qCG (gl:Gl) (hg:GlLex gl):qa3 Tryz.prog gl (gam qDj):=(qad (qj0 gl hg) (qad (qEe gl hg) (qad (quD gl hg) (qad (qEc gl hg) (qad (qvN gl hg) qag)))))
def qFZ:LpsT:=fun r fr σ=>.fail
def qzR (o:qU) (o2:qR) (o3:qR):Tr PV:=.ite (qk2 (qaa o2) [44,32]) (.ite (qk7 (qaa o3) [44,32]) (.ite (iLt 0 (xLen o3)) (.ite (qba [58,32] (qhk (qaa o3) [44,32])) (.ite (qba [111,110,32] o) (.ite (qba (sApp [111,110,32] o) [40]) (.ite (qba (sApp (sApp [111,110,32] o) [40]) (qfI (qaa o2) [44,32])) (.ite (qba (sApp (sApp (sApp [111,110,32] o) [40]) (qfI (qaa o2) [44,32])) [41]) (.ite (qba (sApp (sApp (sApp (sApp [111,110,32] o) [40]) (qfI (qaa o2) [44,32])) [41]) (sApp [58,32] (qhk (qaa o3) [44,32]))) (.ite (qba (sApp (sApp (sApp (sApp (sApp [111,110,32] o) [40]) (qfI (qaa o2) [44,32])) [41]) (sApp [58,32] (qhk (qaa o3) [44,32]))) [46]) (.ite (qsp (qaa o2) [44,32]) (.ite (qr3 (qaa o3) [44,32]) (.ite (qcC o) (.ret (.tup [.str (sApp (sApp (sApp (sApp (sApp (sApp [111,110,32] o) [40]) (qfI (qaa o2) [44,32])) [41]) (sApp [58,32] (qhk (qaa o3) [44,32]))) [46]),.bool (qdS o)])) .fail) (.ret (.tup [.str (sApp (sApp (sApp (sApp (sApp (sApp [111,110,32] o) [40]) (qfI (qaa o2) [44,32])) [41]) (sApp [58,32] (qhk (qaa o3) [44,32]))) [46]),.bool false]))) (.ret (.tup [.str (sApp (sApp (sApp (sApp (sApp (sApp [111,110,32] o) [40]) (qfI (qaa o2) [44,32])) [41]) (sApp [58,32] (qhk (qaa o3) [44,32]))) [46]),.bool false]))) .fail) .fail) .fail) .fail) .fail) .fail) .fail) (.ite (qba [111,110,32] o) (.ite (qba (sApp [111,110,32] o) [40]) (.ite (qba (sApp (sApp [111,110,32] o) [40]) (qfI (qaa o2) [44,32])) (.ite (qba (sApp (sApp (sApp [111,110,32] o) [40]) (qfI (qaa o2) [44,32])) [41]) (.ite (qba (sApp (sApp (sApp (sApp [111,110,32] o) [40]) (qfI (qaa o2) [44,32])) [41]) (qhk (qaa o3) [44,32])) (.ite (qba (sApp (sApp (sApp (sApp (sApp [111,110,32] o) [40]) (qfI (qaa o2) [44,32])) [41]) (qhk (qaa o3) [44,32])) [46]) (.ite (qsp (qaa o2) [44,32])
 (.ite (qr3 (qaa o3) [44,32]) (.ite (qcC o) (.ret (.tup [.str (sApp (sApp (sApp (sApp (sApp (sApp [111,110,32] o) [40]) (qfI (qaa o2) [44,32])) [41]) (qhk (qaa o3) [44,32])) [46]),.bool (qdS o)])) .fail) (.ret (.tup [.str (sApp (sApp (sApp (sApp (sApp (sApp [111,110,32] o) [40]) (qfI (qaa o2) [44,32])) [41]) (qhk (qaa o3) [44,32])) [46]),.bool false]))) (.ret (.tup [.str (sApp (sApp (sApp (sApp (sApp (sApp [111,110,32] o) [40]) (qfI (qaa o2) [44,32])) [41]) (qhk (qaa o3) [44,32])) [46]),.bool false]))) .fail) .fail) .fail) .fail) .fail) .fail)) .fail) .fail
theorem qGk (o:qU) (o2:qR) (o3:qR):(tcall tbT qDj qFZ Tryz.f57 [.agg [.str o,.sl o2 .non,.sl o3 .non]]).flat=qzR o o2 o3:=by kernel_rfl
def qAd (o:qU) (o2:qR) (o3:qR):Option PV:=(qzR o o2 o3).run
def qqb (o:qU) (o2:qR) (o3:qR):List UInt8:=(gStr (gAt (gCs (gVal (qAd o o2 o3))) 0))
def qpy (o:qU) (o2:qR) (o3:qR):Bool:=(qbU (gAt (gCs (gVal (qAd o o2 o3))) 1))
def qkB (o:qU) (o2:qR) (o3:qR):Bool:=isW (qAd o o2 o3) (.tup [.str (qqb o o2 o3),.bool (qpy o o2 o3)])
def qEo:List PV→Tr PV|[.agg [.str o,.sl o2 .non,.sl o3 .non]]=>.ite (qkB o o2 o3) (.ret (.tup [.str (qqb o o2 o3),.bool (qpy o o2 o3)])) (.fail)|_=>.fail
theorem qDF (gl:Gl) (hg:GlLex gl):SimP Tryz.prog gl 57 fun args=>(qEo args).run:=by
 refine SimP.of_flat (G:=qDj) (L:=qFZ) qav (qCG gl hg ) qai  Tryz.func57 rfl (by rfl) (by kernel_rfl) (qae (by kernel_rfl)) ?_
 intro args x h;unfold qEo at h
 split at h
 ·exact (congrArg Tr.run (qGk _ _ _)).trans (qah h fun h=>by cases h)
 ·cases h
def qs6:GamT:=ofL []
theorem qy0 (gl:Gl):qa3 Tryz.prog gl (gam qs6):=qag
def qy6:LpsT:=fun r fr σ=>.fail
def qp4 (s:qU) (ok:Bool):Tr PV:=.ite (bNot ok) (.ret (.tup [.str [],.int .i64 140])) (.ret (.tup [.str s,.int .i64 0]))
theorem qDU (s:qU) (ok:Bool):(tcall tbT qs6 qy6 Tryz.f43 [.str s,.bool ok]).flat=qp4 s ok:=by kernel_rfl
def qmS (s:qU) (ok:Bool):Option PV:=(qp4 s ok).run
def qgG (s:qU) (ok:Bool):List UInt8:=(gStr (gAt (gCs (gVal (qmS s ok))) 0))
def qfY (s:qU) (ok:Bool):Int:=(gInt (gAt (gCs (gVal (qmS s ok))) 1))
def qdO (s:qU) (ok:Bool):Bool:=isW (qmS s ok) (.tup [.str (qgG s ok),.int .i64 (qfY s ok)])
def qn3:List PV→Tr PV|[.str s,.bool ok]=>.ite (qdO s ok) (.ret (.tup [.str (qgG s ok),.int .i64 (qfY s ok)])) (.fail)|_=>.fail
theorem qnY (gl:Gl):SimP Tryz.prog gl 43 fun args=>(qn3 args).run:=by
 refine SimP.of_flat (G:=qs6) (L:=qy6) qav (qy0 gl ) qai  Tryz.func43 rfl (by rfl) (by kernel_rfl) (qae (by kernel_rfl)) ?_
 intro args x h;unfold qn3 at h
 split at h
 ·exact (congrArg Tr.run (qDU _ _)).trans (qah h fun h=>by cases h)
 ·cases h
def qs5:GamT:=ofL [(43,.pure qn3),(54,.pure qtu)]
theorem qyC (gl:Gl) (hg:GlLex gl):qa3 Tryz.prog gl (gam qs5):=(qad (qnY gl) (qad (qyg gl hg) qag))
def qzH:LpsT:=fun r fr σ=>.fail
def qrk (r_:qU) (r_2:qR) (r_3:qR):Tr PV:=.ite (qfO r_ (qaa r_2) (qaa r_3)) (.ite (qdO (qgZ r_ (qaa r_2) (qaa r_3)) (qgv r_ (qaa r_2) (qaa r_3))) (.ret (.tup [.str (qgG (qgZ r_ (qaa r_2) (qaa r_3)) (qgv r_ (qaa r_2) (qaa r_3))),.int .i64 (qfY (qgZ r_ (qaa r_2) (qaa r_3)) (qgv r_ (qaa r_2) (qaa r_3)))])) .fail) .fail
theorem qD6 (r_:qU) (r_2:qR) (r_3:qR):(tcall tbT qs5 qzH Tryz.f26 [.agg [.str r_,.sl r_2 .non,.sl r_3 .non]]).flat=qrk r_ r_2 r_3:=by kernel_rfl
def qms (r_:qU) (r_2:qR) (r_3:qR):Option PV:=(qrk r_ r_2 r_3).run
def qby (r_:qU) (r_2:qR) (r_3:qR):List UInt8:=(gStr (gAt (gCs (gVal (qms r_ r_2 r_3))) 0))
def qeD (r_:qU) (r_2:qR) (r_3:qR):Int:=(gInt (gAt (gCs (gVal (qms r_ r_2 r_3))) 1))
def qcW (r_:qU) (r_2:qR) (r_3:qR):Bool:=isW (qms r_ r_2 r_3) (.tup [.str (qby r_ r_2 r_3),.int .i64 (qeD r_ r_2 r_3)])
def qqH:List PV→Tr PV|[.agg [.str r_,.sl r_2 .non,.sl r_3 .non]]=>.ite (qcW r_ r_2 r_3) (.ret (.tup [.str (qby r_ r_2 r_3),.int .i64 (qeD r_ r_2 r_3)])) (.fail)|_=>.fail
theorem qrU (gl:Gl) (hg:GlLex gl):SimP Tryz.prog gl 26 fun args=>(qqH args).run:=by
 refine SimP.of_flat (G:=qs5) (L:=qzH) qav (qyC gl hg ) qai  Tryz.func26 rfl (by rfl) (by kernel_rfl) (qae (by kernel_rfl)) ?_
 intro args x h;unfold qqH at h
 split at h
 ·exact (congrArg Tr.run (qD6 _ _ _)).trans (qah h fun h=>by cases h)
 ·cases h
def qsP:GamT:=ofL [(43,.pure qn3),(55,.pure qsO)]
theorem qxF (gl:Gl) (hg:GlLex gl):qa3 Tryz.prog gl (gam qsP):=(qad (qnY gl) (qad (qw3 gl hg) qag))
def qxW:LpsT:=fun r fr σ=>.fail
def qqF (d:qU) (d2:Bool) (d3:qR):Tr PV:=.ite (qfw d d2 (qaa d3)) (.ite (qdO (qf1 d d2 (qaa d3)) (qgn d d2 (qaa d3))) (.ret (.tup [.str (qgG (qf1 d d2 (qaa d3)) (qgn d d2 (qaa d3))),.int .i64 (qfY (qf1 d d2 (qaa d3)) (qgn d d2 (qaa d3)))])) .fail) .fail
theorem qDy (d:qU) (d2:Bool) (d3:qR):(tcall tbT qsP qxW Tryz.f28 [.agg [.str d,.bool d2,.sl d3 .non]]).flat=qqF d d2 d3:=by kernel_rfl
def qnM (d:qU) (d2:Bool) (d3:qR):Option PV:=(qqF d d2 d3).run
def qbR (d:qU) (d2:Bool) (d3:qR):List UInt8:=(gStr (gAt (gCs (gVal (qnM d d2 d3))) 0))
def qbP (d:qU) (d2:Bool) (d3:qR):Int:=(gInt (gAt (gCs (gVal (qnM d d2 d3))) 1))
def qeC (d:qU) (d2:Bool) (d3:qR):Bool:=isW (qnM d d2 d3) (.tup [.str (qbR d d2 d3),.int .i64 (qbP d d2 d3)])
def qsR:List PV→Tr PV|[.agg [.str d,.bool d2,.sl d3 .non]]=>.ite (qeC d d2 d3) (.ret (.tup [.str (qbR d d2 d3),.int .i64 (qbP d d2 d3)])) (.fail)|_=>.fail
theorem qxa (gl:Gl) (hg:GlLex gl):SimP Tryz.prog gl 28 fun args=>(qsR args).run:=by
 refine SimP.of_flat (G:=qsP) (L:=qxW) qav (qxF gl hg ) qai  Tryz.func28 rfl (by rfl) (by kernel_rfl) (qae (by kernel_rfl)) ?_
 intro args x h;unfold qsR at h
 split at h
 ·exact (congrArg Tr.run (qDy _ _ _)).trans (qah h fun h=>by cases h)
 ·cases h
def qD0:GamT:=ofL [(43,.pure qn3),(57,.pure qEo)]
theorem qDT (gl:Gl) (hg:GlLex gl):qa3 Tryz.prog gl (gam qD0):=(qad (qnY gl) (qad (qDF gl hg) qag))
def qFk:LpsT:=fun r fr σ=>.fail
def qzh (o:qU) (o2:qR) (o3:qR):Tr PV:=.ite (qkB o (qaa o2) (qaa o3)) (.ite (qdO (qqb o (qaa o2) (qaa o3)) (qpy o (qaa o2) (qaa o3))) (.ret (.tup [.str (qgG (qqb o (qaa o2) (qaa o3)) (qpy o (qaa o2) (qaa o3))),.int .i64 (qfY (qqb o (qaa o2) (qaa o3)) (qpy o (qaa o2) (qaa o3)))])) .fail) .fail
theorem qGf (o:qU) (o2:qR) (o3:qR):(tcall tbT qD0 qFk Tryz.f30 [.agg [.str o,.sl o2 .non,.sl o3 .non]]).flat=qzh o o2 o3:=by kernel_rfl
def qz1 (o:qU) (o2:qR) (o3:qR):Option PV:=(qzh o o2 o3).run
def qdo (o:qU) (o2:qR) (o3:qR):List UInt8:=(gStr (gAt (gCs (gVal (qz1 o o2 o3))) 0))
def qiQ (o:qU) (o2:qR) (o3:qR):Int:=(gInt (gAt (gCs (gVal (qz1 o o2 o3))) 1))
def qft (o:qU) (o2:qR) (o3:qR):Bool:=isW (qz1 o o2 o3) (.tup [.str (qdo o o2 o3),.int .i64 (qiQ o o2 o3)])
def qAJ:List PV→Tr PV|[.agg [.str o,.sl o2 .non,.sl o3 .non]]=>.ite (qft o o2 o3) (.ret (.tup [.str (qdo o o2 o3),.int .i64 (qiQ o o2 o3)])) (.fail)|_=>.fail
theorem qyv (gl:Gl) (hg:GlLex gl):SimP Tryz.prog gl 30 fun args=>(qAJ args).run:=by
 refine SimP.of_flat (G:=qD0) (L:=qFk) qav (qDT gl hg ) qai  Tryz.func30 rfl (by rfl) (by kernel_rfl) (qae (by kernel_rfl)) ?_
 intro args x h;unfold qAJ at h
 split at h
 ·exact (congrArg Tr.run (qGf _ _ _)).trans (qah h fun h=>by cases h)
 ·cases h
end Go.Pv
