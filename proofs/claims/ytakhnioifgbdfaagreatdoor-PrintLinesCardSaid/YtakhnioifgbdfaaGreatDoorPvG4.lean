/- Part 4 of the proof: pure values for the machine's values, what functions compute over them, and laws of what is computed. Conditions: none beyond each theorem's own premises. -/
import Derived.Test.YtakhnioifgbdfaaGreatDoorPvG3
set_option maxHeartbeats 4000000
set_option maxRecDepth 200000
set_option linter.unusedSimpArgs false
set_option linter.unusedVariables false
namespace Go.Pv
open Go Go.Proofs
noncomputable def qti:GamT:=ofL []
theorem qBG (gl:Gl):qaH Tryz.prog gl (gam qti):=qag
noncomputable def qz7:LpsT:=fun r fr σ=>.fail
noncomputable def qqr (c:Int):Tr PV:=.ite (iLe 48 c) (.ret (.bool (iLe c 57))) (.ret (.bool false))
theorem qHu (c:Int):(tcall tbT qti qz7 Tryz.f156 [.int .u8 c]).flat=qqr c:=by kernel_rfl
noncomputable def qoT (c:Int):Option PV:=(qqr c).run
noncomputable def qa6 (c:Int):Bool:=(qb0 (gVal (qoT c)))
noncomputable def qa2 (c:Int):Bool:=isW (qoT c) (.bool (qa6 c))
noncomputable def qmm:List PV→Tr PV | [.int .u8 c]=>.ite (qa2 c) (.ret (.bool (qa6 c))) (.fail) | _=>.fail
theorem qmH (gl:Gl):SimP Tryz.prog gl 156 fun args=>(qmm args).run:=by
 refine SimP.of_flat (G:=qti) (L:=qz7) qaj (qBG gl ) qah Tryz.func156 rfl (by rfl) (by kernel_rfl) (qae (by kernel_rfl)) ?_
 intro args x h
 unfold qmm at h
 split at h
 ·exact (congrArg Tr.run (qHu _)).trans (qai h fun h=>by cases h)
 ·cases h
noncomputable def qnj:GamT:=ofL [(156,.pure qmm)]
theorem qwk (gl:Gl):qaH Tryz.prog gl (gam qnj):=(qac (qmH gl) qag)
noncomputable def qsX:LpsT:=fun r fr σ=>.fail
noncomputable def qkU (c:Int):Tr PV:=.ite (iLe 97 c) (.ite (iLe c 122) (.ret (.bool true)) (.ite (iLe 65 c) (.ite (iLe c 90) (.ret (.bool true)) (.ite (iEq c 95) (.ret (.bool true)) (.ite (qa2 c) (.ret (.bool (qa6 c))) .fail))) (.ite (iEq c 95) (.ret (.bool true)) (.ite (qa2 c) (.ret (.bool (qa6 c))) .fail)))) (.ite (iLe 65 c) (.ite (iLe c 90) (.ret (.bool true)) (.ite (iEq c 95) (.ret (.bool true)) (.ite (qa2 c) (.ret (.bool (qa6 c))) .fail))) (.ite (iEq c 95) (.ret (.bool true)) (.ite (qa2 c) (.ret (.bool (qa6 c))) .fail)))
theorem qCF (c:Int):(tcall tbT qnj qsX Tryz.f155 [.int .u8 c]).flat=qkU c:=by kernel_rfl
noncomputable def qjH (c:Int):Option PV:=(qkU c).run
noncomputable def qbS (c:Int):Bool:=(qb0 (gVal (qjH c)))
noncomputable def qbK (c:Int):Bool:=isW (qjH c) (.bool (qbS c))
noncomputable def qgP:List PV→Tr PV | [.int .u8 c]=>.ite (qbK c) (.ret (.bool (qbS c))) (.fail) | _=>.fail
theorem qiC (gl:Gl):SimP Tryz.prog gl 155 fun args=>(qgP args).run:=by
 refine SimP.of_flat (G:=qnj) (L:=qsX) qaj (qwk gl ) qah Tryz.func155 rfl (by rfl) (by kernel_rfl) (qae (by kernel_rfl)) ?_
 intro args x h
 unfold qgP at h
 split at h
 ·exact (congrArg Tr.run (qCF _)).trans (qai h fun h=>by cases h)
 ·cases h
noncomputable def qqQ:GamT:=ofL [(155,.pure qgP),(156,.pure qmm)]
theorem qzM (gl:Gl):qaH Tryz.prog gl (gam qqQ):=(qac (qiC gl) (qac (qmH gl) qag))
noncomputable def qpz:Code:=qeX Tryz.f158 2
def qpD:LI:=⟨20,[0,1,5],fun e=>match e with | .exit 0=>[5] | _=>[],true⟩
noncomputable def qnX:LpsT:=fun r fr σ=>.fail
noncomputable def qf3 (vs:List PV) (σ:Store):Option (PExit × List PV × Store):=lval (lstep tbT qqQ qnX qpz qpD) vs σ
noncomputable def qls (s:List UInt8) (n:Int):Tr LR:=.ite (iLt n (sLen s)) (.ite (qax s n) (.ite (qbK (sAt s n)) (.ite (qbS (sAt s n)) (.ret (.next [.str s,.fn 155 [],.int .i64 (iAdd .i64 n 1)] ⟨[],[],[]⟩)) (.ret (.out (.exit 0) [.int .i64 n] ⟨[],[],[]⟩))) .fail) .fail) (.ret (.out (.exit 0) [.int .i64 n] ⟨[],[],[]⟩))
theorem qJH (s:List UInt8) (n:Int):lstep tbT qqQ qnX qpz qpD [.str s,.fn 155 [],.int .i64 n] ⟨[],[],[]⟩=qls s n:=by kernel_rfl
theorem qDf (s:List UInt8) (n:Int):qf3 [.str s,.fn 155 [],.int .i64 n] ⟨[],[],[]⟩=lnext qf3 (qls s n).run:=by unfold qf3; rw [qbF,qJH]
noncomputable def qiF (s:List UInt8) (n:Int):Tr LR:=.ite (iLt n (sLen s)) (.ite (qax s n) (.ite (qa2 (sAt s n)) (.ite (qa6 (sAt s n)) (.ret (.next [.str s,.fn 156 [],.int .i64 (iAdd .i64 n 1)] ⟨[],[],[]⟩)) (.ret (.out (.exit 0) [.int .i64 n] ⟨[],[],[]⟩))) .fail) .fail) (.ret (.out (.exit 0) [.int .i64 n] ⟨[],[],[]⟩))
theorem qIx (s:List UInt8) (n:Int):lstep tbT qqQ qnX qpz qpD [.str s,.fn 156 [],.int .i64 n] ⟨[],[],[]⟩=qiF s n:=by kernel_rfl
theorem qBe (s:List UInt8) (n:Int):qf3 [.str s,.fn 156 [],.int .i64 n] ⟨[],[],[]⟩=lnext qf3 (qiF s n).run:=by unfold qf3; rw [qbF,qIx]
noncomputable def qyA (s:List UInt8) (n:Int):Option (PExit × List PV × Store):=qf3 [.str s,.fn 155 [],.int .i64 n] ⟨[],[],[]⟩
noncomputable def quW (s:List UInt8) (n:Int):Int:=(gInt (gOut (qyA s n) 0))
noncomputable def qpX (s:List UInt8) (n:Int):Bool:=isW (qyA s n) ((.exit 0),[.int .i64 (quW s n)],⟨[],[],[]⟩)
noncomputable def qts (s:List UInt8) (n:Int):Option (PExit × List PV × Store):=qf3 [.str s,.fn 156 [],.int .i64 n] ⟨[],[],[]⟩
noncomputable def qoy (s:List UInt8) (n:Int):Int:=(gInt (gOut (qts s n) 0))
noncomputable def qm9 (s:List UInt8) (n:Int):Bool:=isW (qts s n) ((.exit 0),[.int .i64 (qoy s n)],⟨[],[],[]⟩)
noncomputable def qjL:List PV→Store→Tr (PExit × List PV × Store) | [.str s,.fn 155 [],.int .i64 n],⟨[],[],[]⟩=>.ite (qpX s n) (.ret ((.exit 0),[.int .i64 (quW s n)],⟨[],[],[]⟩)) (.fail) | [.str s,.fn 156 [],.int .i64 n],⟨[],[],[]⟩=>.ite (qm9 s n) (.ret ((.exit 0),[.int .i64 (qoy s n)],⟨[],[],[]⟩)) (.fail) | _,_=>.fail
theorem qIv:∀ vs σ r,(qjL vs σ).run=some r→qf3 vs σ=some r:=by
 intro vs σ r h
 unfold qjL at h
 split at h
 ·exact qai h fun h=>by cases h
 ·exact qai h fun h=>by cases h
 ·cases h
theorem qCh (gl:Gl):∀ fr σ e fr' σ',(orc qpD qjL fr σ).run=some (e,fr',σ')→LDoes Tryz.prog gl qpz fr σ e fr' σ':=qcl qaj (qzM gl ) qah (L:=qnX) (qae (by kernel_rfl)) (by kernel_rfl) qIv
noncomputable def qAl:LpsT:=fun r fr σ=>bif Nat.beq r 2 then orc qpD qjL fr σ else .fail
noncomputable def qxx (s:List UInt8):Tr PV:=.ite (qpX s 0) (.ret (.int .i64 (quW s 0))) .fail
theorem qMt (s:List UInt8):(tcall tbT qqQ qAl Tryz.f158 [.str s,.fn 155 []]).flat=qxx s:=by kernel_rfl
noncomputable def qAw (s:List UInt8):Option PV:=(qxx s).run
noncomputable def qlE (s:List UInt8):Int:=(gInt (gVal (qAw s)))
noncomputable def qn8 (s:List UInt8):Bool:=isW (qAw s) (.int .i64 (qlE s))
noncomputable def qvq (s:List UInt8):Tr PV:=.ite (qm9 s 0) (.ret (.int .i64 (qoy s 0))) .fail
theorem qKf (s:List UInt8):(tcall tbT qqQ qAl Tryz.f158 [.str s,.fn 156 []]).flat=qvq s:=by kernel_rfl
noncomputable def quh (s:List UInt8):Option PV:=(qvq s).run
noncomputable def qaf (s:List UInt8):Int:=(gInt (gVal (quh s)))
noncomputable def qbD (s:List UInt8):Bool:=isW (quh s) (.int .i64 (qaf s))
noncomputable def qz0:List PV→Tr PV | [.str s,.fn 155 []]=>.ite (qn8 s) (.ret (.int .i64 (qlE s))) (.fail) | [.str s,.fn 156 []]=>.ite (qbD s) (.ret (.int .i64 (qaf s))) (.fail) | _=>.fail
theorem qA2 (gl:Gl):SimP Tryz.prog gl 158 fun args=>(qz0 args).run:=by
 refine SimP.of_flat (G:=qqQ) (L:=qAl) qaj (qzM gl ) qah Tryz.func158 rfl (by rfl) (by kernel_rfl) (qaX (L:=lps qAl) [(2,qpz)] (by kernel_rfl) (List.forall_mem_cons.2 ⟨fun fr σ e fr' σ' h=>qCh gl  fr σ e fr' σ' h,(List.forall_mem_nil _)⟩)) ?_
 intro args x h
 unfold qz0 at h
 split at h
 ·exact (congrArg Tr.run (qMt _)).trans (qai h fun h=>by cases h)
 ·exact (congrArg Tr.run (qKf _)).trans (qai h fun h=>by cases h)
 ·cases h
noncomputable def qi4:GamT:=ofL []
theorem qrc (gl:Gl):qaH Tryz.prog gl (gam qi4):=qag
noncomputable def qjV:Code:=qeX Tryz.f159 2
def qi9:LI:=⟨21,[0,3],fun e=>match e with | .ret=>[2] | .exit 0=>[] | _=>[],true⟩
noncomputable def qkN:LpsT:=fun r fr σ=>.fail
noncomputable def qcE (vs:List PV) (σ:Store):Option (PExit × List PV × Store):=lval (lstep tbT qi4 qkN qjV qi9) vs σ
noncomputable def qeB (s:List UInt8) (i:Int):Tr LR:=.ite (iLt i (sLen s)) (.ite (qax s i) (.ite (iEq (sAt s i) 92) (.ret (.next [.str s,.int .i64 (iAdd .i64 (iAdd .i64 i 1) 1)] ⟨[],[],[]⟩)) (.ite (iEq (sAt s i) 34) (.ret (.out .ret [.int .i64 (iAdd .i64 i 1)] ⟨[],[],[]⟩)) (.ret (.next [.str s,.int .i64 (iAdd .i64 i 1)] ⟨[],[],[]⟩)))) .fail) (.ret (.out (.exit 0) [] ⟨[],[],[]⟩))
theorem qBI (s:List UInt8) (i:Int):lstep tbT qi4 qkN qjV qi9 [.str s,.int .i64 i] ⟨[],[],[]⟩=qeB s i:=by kernel_rfl
theorem qsP (s:List UInt8) (i:Int):qcE [.str s,.int .i64 i] ⟨[],[],[]⟩=lnext qcE (qeB s i).run:=by unfold qcE; rw [qbF,qBI]
noncomputable def qg5 (s:List UInt8) (i:Int):Option (PExit × List PV × Store):=qcE [.str s,.int .i64 i] ⟨[],[],[]⟩
noncomputable def qeW (s:List UInt8) (i:Int):Int:=(gInt (gOut (qg5 s i) 0))
noncomputable def qgh (s:List UInt8) (i:Int):Bool:=isW (qg5 s i) (.ret,[.int .i64 (qeW s i)],⟨[],[],[]⟩)
noncomputable def qgv (s:List UInt8) (i:Int):Bool:=isW (qg5 s i) ((.exit 0),[],⟨[],[],[]⟩)
noncomputable def qfe:List PV→Store→Tr (PExit × List PV × Store) | [.str s,.int .i64 i],⟨[],[],[]⟩=>.ite (qgh s i) (.ret (.ret,[.int .i64 (qeW s i)],⟨[],[],[]⟩)) (.ite (qgv s i) (.ret ((.exit 0),[],⟨[],[],[]⟩)) (.fail)) | _,_=>.fail
theorem qzA:∀ vs σ r,(qfe vs σ).run=some r→qcE vs σ=some r:=by
 intro vs σ r h
 unfold qfe at h
 split at h
 ·exact qai h fun h=>qai h fun h=>by cases h
 ·cases h
theorem qt2 (gl:Gl):∀ fr σ e fr' σ',(orc qi9 qfe fr σ).run=some (e,fr',σ')→LDoes Tryz.prog gl qjV fr σ e fr' σ':=qcl qaj (qrc gl ) qah (L:=qkN) (qae (by kernel_rfl)) (by kernel_rfl) qzA
noncomputable def qr3:LpsT:=fun r fr σ=>bif Nat.beq r 2 then orc qi9 qfe fr σ else .fail
noncomputable def qm1 (s:List UInt8):Tr PV:=.ite (qgh s 1) (.ret (.int .i64 (qeW s 1))) (.ite (qgv s 1) (.ret (.int .i64 0)) .fail)
theorem qFx (s:List UInt8):(tcall tbT qi4 qr3 Tryz.f159 [.str s]).flat=qm1 s:=by kernel_rfl
noncomputable def ql6 (s:List UInt8):Option PV:=(qm1 s).run
noncomputable def qad (s:List UInt8):Int:=(gInt (gVal (ql6 s)))
noncomputable def qbi (s:List UInt8):Bool:=isW (ql6 s) (.int .i64 (qad s))
noncomputable def qqT:List PV→Tr PV | [.str s]=>.ite (qbi s) (.ret (.int .i64 (qad s))) (.fail) | _=>.fail
theorem qyE (gl:Gl):SimP Tryz.prog gl 159 fun args=>(qqT args).run:=by
 refine SimP.of_flat (G:=qi4) (L:=qr3) qaj (qrc gl ) qah Tryz.func159 rfl (by rfl) (by kernel_rfl) (qaX (L:=lps qr3) [(2,qjV)] (by kernel_rfl) (List.forall_mem_cons.2 ⟨fun fr σ e fr' σ' h=>qt2 gl  fr σ e fr' σ' h,(List.forall_mem_nil _)⟩)) ?_
 intro args x h
 unfold qqT at h
 split at h
 ·exact (congrArg Tr.run (qFx _)).trans (qai h fun h=>by cases h)
 ·cases h
noncomputable def qwS:GamT:=ofL [(153,.pure qid)]
theorem qBd (gl:Gl):qaH Tryz.prog gl (gam qwS):=(qac (qmi gl) qag)
noncomputable def qt4:Code:=qeX Tryz.f140 2
def qtV:LI:=⟨34,[0,3],fun e=>match e with | .ret=>[2] | .exit 0=>[3] | _=>[],true⟩
noncomputable def qtL:LpsT:=fun r fr σ=>.fail
noncomputable def qkE (vs:List PV) (σ:Store):Option (PExit × List PV × Store):=lval (lstep tbT qwS qtL qt4 qtV) vs σ
noncomputable def qhX (s:List UInt8) (at_:Int):Tr LR:=.ite (iLt at_ (sLen s)) (.ite (qax s at_) (.ite (iEq (sAt s at_) 32) (.ret (.next [.str s,.int .i64 (iAdd .i64 at_ 1)] ⟨[],[],[]⟩)) (.ite (iEq (sAt s at_) 9) (.ret (.next [.str s,.int .i64 (iAdd .i64 at_ 1)] ⟨[],[],[]⟩)) (.ite (iEq (sAt s at_) 10) (.ret (.next [.str s,.int .i64 (iAdd .i64 at_ 1)] ⟨[],[],[]⟩)) (.ite (iEq (sAt s at_) 13) (.ret (.next [.str s,.int .i64 (iAdd .i64 at_ 1)] ⟨[],[],[]⟩)) (.ite (iEq (sAt s at_) 37) (.ite (qaA (qak at_) true (nNat at_) (nLen s) (nLen s)) (.ite (iLt (idxV (sSub s (nNat at_) (nLen s)) 10) 0) (.ret (.out .ret [.int .i64 (sLen s)] ⟨[],[],[]⟩)) (.ret (.next [.str s,.int .i64 (iAdd .i64 at_ (idxV (sSub s (nNat at_) (nLen s)) 10))] ⟨[],[],[]⟩))) .fail) (.ret (.out .ret [.int .i64 at_] ⟨[],[],[]⟩))))))) .fail) (.ret (.out (.exit 0) [.int .i64 at_] ⟨[],[],[]⟩))
theorem qLm (s:List UInt8) (at_:Int):lstep tbT qwS qtL qt4 qtV [.str s,.int .i64 at_] ⟨[],[],[]⟩=qhX s at_:=by kernel_rfl
theorem qFM (s:List UInt8) (at_:Int):qkE [.str s,.int .i64 at_] ⟨[],[],[]⟩=lnext qkE (qhX s at_).run:=by unfold qkE; rw [qbF,qLm]
noncomputable def qrX (s:List UInt8) (at_:Int):Option (PExit × List PV × Store):=qkE [.str s,.int .i64 at_] ⟨[],[],[]⟩
noncomputable def qmo (s:List UInt8) (at_:Int):Int:=(gInt (gOut (qrX s at_) 0))
noncomputable def qps (s:List UInt8) (at_:Int):Bool:=isW (qrX s at_) (.ret,[.int .i64 (qmo s at_)],⟨[],[],[]⟩)
noncomputable def qhV (s:List UInt8) (at_:Int):Int:=(gInt (gOut (qrX s at_) 0))
noncomputable def qqP (s:List UInt8) (at_:Int):Bool:=isW (qrX s at_) ((.exit 0),[.int .i64 (qhV s at_)],⟨[],[],[]⟩)
noncomputable def qjS:List PV→Store→Tr (PExit × List PV × Store) | [.str s,.int .i64 at_],⟨[],[],[]⟩=>.ite (qps s at_) (.ret (.ret,[.int .i64 (qmo s at_)],⟨[],[],[]⟩)) (.ite (qqP s at_) (.ret ((.exit 0),[.int .i64 (qhV s at_)],⟨[],[],[]⟩)) (.fail)) | _,_=>.fail
theorem qIC:∀ vs σ r,(qjS vs σ).run=some r→qkE vs σ=some r:=by
 intro vs σ r h
 unfold qjS at h
 split at h
 ·exact qai h fun h=>qai h fun h=>by cases h
 ·cases h
theorem qBk (gl:Gl):∀ fr σ e fr' σ',(orc qtV qjS fr σ).run=some (e,fr',σ')→LDoes Tryz.prog gl qt4 fr σ e fr' σ':=qcl qaj (qBd gl ) qah (L:=qtL) (qae (by kernel_rfl)) (by kernel_rfl) qIC
noncomputable def qFo:LpsT:=fun r fr σ=>bif Nat.beq r 2 then orc qtV qjS fr σ else .fail
noncomputable def qyC (s:List UInt8):Tr PV:=.ite (qps s 0) (.ret (.int .i64 (qmo s 0))) (.ite (qqP s 0) (.ret (.int .i64 (qhV s 0))) .fail)
theorem qMp (s:List UInt8):(tcall tbT qwS qFo Tryz.f140 [.str s]).flat=qyC s:=by kernel_rfl
noncomputable def qzZ (s:List UInt8):Option PV:=(qyC s).run
noncomputable def qa4 (s:List UInt8):Int:=(gInt (gVal (qzZ s)))
noncomputable def qfg (s:List UInt8):Bool:=isW (qzZ s) (.int .i64 (qa4 s))
noncomputable def qF7:List PV→Tr PV | [.str s]=>.ite (qfg s) (.ret (.int .i64 (qa4 s))) (.fail) | _=>.fail
theorem qIy (gl:Gl):SimP Tryz.prog gl 140 fun args=>(qF7 args).run:=by
 refine SimP.of_flat (G:=qwS) (L:=qFo) qaj (qBd gl ) qah Tryz.func140 rfl (by rfl) (by kernel_rfl) (qaX (L:=lps qFo) [(2,qt4)] (by kernel_rfl) (List.forall_mem_cons.2 ⟨fun fr σ e fr' σ' h=>qBk gl  fr σ e fr' σ' h,(List.forall_mem_nil _)⟩)) ?_
 intro args x h
 unfold qF7 at h
 split at h
 ·exact (congrArg Tr.run (qMp _)).trans (qai h fun h=>by cases h)
 ·cases h
noncomputable def qyh:GamT:=ofL [(155,.pure qgP),(158,.pure qz0)]
theorem qFN (gl:Gl):qaH Tryz.prog gl (gam qyh):=(qac (qiC gl) (qac (qA2 gl) qag))
noncomputable def qEJ:LpsT:=fun r fr σ=>.fail
noncomputable def qu4 (s:List UInt8) (k:Int):Tr PV:=.ite (qn8 s) (.ite (qaA true (qak (qlE s)) 0 (nNat (qlE s)) (nLen s)) (.ret (.tup [.agg [.int .i64 k,.str (sSub s 0 (nNat (qlE s))),.int .i64 0,.int .i64 0,.str [],.int .i64 0],.bool (iLe (qlE s) 64)])) .fail) .fail
theorem qJS (s:List UInt8) (k:Int):(tcall tbT qyh qEJ Tryz.f154 [.str s,.int .i64 k]).flat=qu4 s k:=by kernel_rfl
noncomputable def qgB (s:List UInt8) (k:Int):Option PV:=(qu4 s k).run
noncomputable def qf6 (s:List UInt8) (k:Int):Int:=(gInt (gAt (gCs (gAt (gCs (gVal (qgB s k))) 0)) 0))
noncomputable def qfI (s:List UInt8) (k:Int):List UInt8:=(gStr (gAt (gCs (gAt (gCs (gVal (qgB s k))) 0)) 1))
noncomputable def qdS (s:List UInt8) (k:Int):Int:=(gInt (gAt (gCs (gAt (gCs (gVal (qgB s k))) 0)) 2))
noncomputable def qdY (s:List UInt8) (k:Int):Int:=(gInt (gAt (gCs (gAt (gCs (gVal (qgB s k))) 0)) 3))
noncomputable def qd0 (s:List UInt8) (k:Int):List UInt8:=(gStr (gAt (gCs (gAt (gCs (gVal (qgB s k))) 0)) 4))
noncomputable def qd1 (s:List UInt8) (k:Int):Int:=(gInt (gAt (gCs (gAt (gCs (gVal (qgB s k))) 0)) 5))
noncomputable def qfv (s:List UInt8) (k:Int):Bool:=(qb0 (gAt (gCs (gVal (qgB s k))) 1))
noncomputable def qdZ (s:List UInt8) (k:Int):Bool:=isW (qgB s k) (.tup [.agg [.int .i64 (qf6 s k),.str (qfI s k),.int .i64 (qdS s k),.int .i64 (qdY s k),.str (qd0 s k),.int .i64 (qd1 s k)],.bool (qfv s k)])
noncomputable def qzu:List PV→Tr PV | [.str s,.int .i64 k]=>.ite (qdZ s k) (.ret (.tup [.agg [.int .i64 (qf6 s k),.str (qfI s k),.int .i64 (qdS s k),.int .i64 (qdY s k),.str (qd0 s k),.int .i64 (qd1 s k)],.bool (qfv s k)])) (.fail) | _=>.fail
theorem qCS (gl:Gl):SimP Tryz.prog gl 154 fun args=>(qzu args).run:=by
 refine SimP.of_flat (G:=qyh) (L:=qEJ) qaj (qFN gl ) qah Tryz.func154 rfl (by rfl) (by kernel_rfl) (qae (by kernel_rfl)) ?_
 intro args x h
 unfold qzu at h
 split at h
 ·exact (congrArg Tr.run (qJS _ _)).trans (qai h fun h=>by cases h)
 ·cases h
noncomputable def qre:GamT:=ofL [(169,.pure qs9)]
theorem qyj (gl:Gl) (hg:GlOk gl):qaH Tryz.prog gl (gam qre):=(qac (qG1 hg) qag)
noncomputable def qwv:LpsT:=fun r fr σ=>.fail
noncomputable def qm0 (s:List UInt8) (k:Int):Tr PV:=.ite (qiD s) (.ret (.tup [.agg [.int .i64 k,.str s,.int .i64 (kRd s),.int .i64 (nRd s),.str (sRd s),.int .i64 0],.bool (iEq (eRd s) 0)])) .fail
theorem qFG (s:List UInt8) (k:Int):(tcall tbT qre qwv Tryz.f157 [.str s,.int .i64 k]).flat=qm0 s k:=by kernel_rfl
noncomputable def qdp (s:List UInt8) (k:Int):Option PV:=(qm0 s k).run
noncomputable def qaB (s:List UInt8) (k:Int):Int:=(gInt (gAt (gCs (gAt (gCs (gVal (qdp s k))) 0)) 0))
noncomputable def qaC (s:List UInt8) (k:Int):List UInt8:=(gStr (gAt (gCs (gAt (gCs (gVal (qdp s k))) 0)) 1))
noncomputable def qay (s:List UInt8) (k:Int):Int:=(gInt (gAt (gCs (gAt (gCs (gVal (qdp s k))) 0)) 2))
noncomputable def qat (s:List UInt8) (k:Int):Int:=(gInt (gAt (gCs (gAt (gCs (gVal (qdp s k))) 0)) 3))
noncomputable def qaw (s:List UInt8) (k:Int):List UInt8:=(gStr (gAt (gCs (gAt (gCs (gVal (qdp s k))) 0)) 4))
noncomputable def qav (s:List UInt8) (k:Int):Int:=(gInt (gAt (gCs (gAt (gCs (gVal (qdp s k))) 0)) 5))
noncomputable def qaD (s:List UInt8) (k:Int):Bool:=(qb0 (gAt (gCs (gVal (qdp s k))) 1))
noncomputable def qar (s:List UInt8) (k:Int):Bool:=isW (qdp s k) (.tup [.agg [.int .i64 (qaB s k),.str (qaC s k),.int .i64 (qay s k),.int .i64 (qat s k),.str (qaw s k),.int .i64 (qav s k)],.bool (qaD s k)])
noncomputable def qrL:List PV→Tr PV | [.str s,.int .i64 k]=>.ite (qar s k) (.ret (.tup [.agg [.int .i64 (qaB s k),.str (qaC s k),.int .i64 (qay s k),.int .i64 (qat s k),.str (qaw s k),.int .i64 (qav s k)],.bool (qaD s k)])) (.fail) | _=>.fail
theorem qzd (gl:Gl) (hg:GlOk gl):SimP Tryz.prog gl 157 fun args=>(qrL args).run:=by
 refine SimP.of_flat (G:=qre) (L:=qwv) qaj (qyj gl hg ) qah Tryz.func157 rfl (by rfl) (by kernel_rfl) (qae (by kernel_rfl)) ?_
 intro args x h
 unfold qrL at h
 split at h
 ·exact (congrArg Tr.run (qFG _ _)).trans (qai h fun h=>by cases h)
 ·cases h
noncomputable def qqn:GamT:=ofL [(153,.pure qid),(154,.pure qzu),(155,.pure qgP),(156,.pure qmm),(157,.pure qrL),(158,.pure qz0),(159,.pure qqT),(160,.pure qpf),(qx4+0,.glob qDn)]
theorem qwT (gl:Gl) (hg:GlLex gl):qaH Tryz.prog gl (gam qqn):=(qac (qmi gl) (qac (qCS gl) (qac (qiC gl) (qac (qmH gl) (qac (qzd gl hg.toGlOk) (qac (qA2 gl) (qac (qyE gl) (qac (qsW gl) (qbH (K:=.glob qDn) (qA6 hg) qag)))))))))
noncomputable def qn6:Code:=qeX Tryz.f141 16
def qoo:LI:=⟨90,[0,2,4,74,75],fun e=>match e with | .ret=>[2,3] | .exit 1=>[0,2,4] | _=>[],true⟩
noncomputable def qqb:LpsT:=fun r fr σ=>.fail
noncomputable def qjx (vs:List PV) (σ:Store):Option (PExit × List PV × Store):=lval (lstep tbT qqn qqb qn6 qoo) vs σ
noncomputable def qbY (s:List UInt8) (n:Int) (s2:List UInt8) (s3:List UInt8) (s4:List UInt8) (s5:List UInt8) (n2:Int) (n3:Int) (s6:List UInt8) (n4:Int) (n5:Int) (s7:List UInt8) (n6:Int):Tr LR:=.ite (iLt n2 4) (.ite (iEq n2 (Int.ofNat 0)) (.ite (qd9 s s2) (.ret (.out .ret [.ptr 0 0,.bool true] (Store.mk [[.int .i64 6,.str s2,.int .i64 0,.int .i64 0,.str [],.int .i64 0]] [] [120]))) (.ret (.next [.str s,.ptr 0 0,.int .u8 n,.agg [.str s2,.str s3,.str s4,.str s5],.int .i64 (iAdd .i64 n2 1)] (Store.mk [[.int .i64 n3,.str s6,.int .i64 n4,.int .i64 n5,.str s7,.int .i64 n6]] [] [120])))) (.ite (iEq n2 (Int.ofNat 1)) (.ite (qd9 s s3) (.ret (.out .ret [.ptr 0 0,.bool true] (Store.mk [[.int .i64 6,.str s3,.int .i64 0,.int .i64 0,.str [],.int .i64 0]] [] [120]))) (.ret (.next [.str s,.ptr 0 0,.int .u8 n,.agg [.str s2,.str s3,.str s4,.str s5],.int .i64 (iAdd .i64 n2 1)] (Store.mk [[.int .i64 n3,.str s6,.int .i64 n4,.int .i64 n5,.str s7,.int .i64 n6]] [] [120])))) (.ite (iEq n2 (Int.ofNat 2)) (.ite (qd9 s s4) (.ret (.out .ret [.ptr 0 0,.bool true] (Store.mk [[.int .i64 6,.str s4,.int .i64 0,.int .i64 0,.str [],.int .i64 0]] [] [120]))) (.ret (.next [.str s,.ptr 0 0,.int .u8 n,.agg [.str s2,.str s3,.str s4,.str s5],.int .i64 (iAdd .i64 n2 1)] (Store.mk [[.int .i64 n3,.str s6,.int .i64 n4,.int .i64 n5,.str s7,.int .i64 n6]] [] [120])))) (.ite (iEq n2 (Int.ofNat 3)) (.ite (qd9 s s5) (.ret (.out .ret [.ptr 0 0,.bool true] (Store.mk [[.int .i64 6,.str s5,.int .i64 0,.int .i64 0,.str [],.int .i64 0]] [] [120]))) (.ret (.next [.str s,.ptr 0 0,.int .u8 n,.agg [.str s2,.str s3,.str s4,.str s5],.int .i64 (iAdd .i64 n2 1)] (Store.mk [[.int .i64 n3,.str s6,.int .i64 n4,.int .i64 n5,.str s7,.int .i64 n6]] [] [120])))) .fail)))) (.ret (.out (.exit 1) [.str s,.ptr 0 0,.int .u8 n] (Store.mk [[.int .i64 n3,.str s6,.int .i64 n4,.int .i64 n5,.str s7,.int .i64 n6]] [] [120])))
theorem qH2 (s:List UInt8) (n:Int) (s2:List UInt8) (s3:List UInt8) (s4:List UInt8) (s5:List UInt8) (n2:Int) (n3:Int) (s6:List UInt8) (n4:Int) (n5:Int) (s7:List UInt8) (n6:Int):lstep tbT qqn qqb qn6 qoo [.str s,.ptr 0 0,.int .u8 n,.agg [.str s2,.str s3,.str s4,.str s5],.int .i64 n2] ⟨[[.int .i64 n3,.str s6,.int .i64 n4,.int .i64 n5,.str s7,.int .i64 n6]],[],[120]⟩=qbY s n s2 s3 s4 s5 n2 n3 s6 n4 n5 s7 n6:=by kernel_rfl
theorem qmq (s:List UInt8) (n:Int) (s2:List UInt8) (s3:List UInt8) (s4:List UInt8) (s5:List UInt8) (n2:Int) (n3:Int) (s6:List UInt8) (n4:Int) (n5:Int) (s7:List UInt8) (n6:Int):qjx [.str s,.ptr 0 0,.int .u8 n,.agg [.str s2,.str s3,.str s4,.str s5],.int .i64 n2] ⟨[[.int .i64 n3,.str s6,.int .i64 n4,.int .i64 n5,.str s7,.int .i64 n6]],[],[120]⟩=lnext qjx (qbY s n s2 s3 s4 s5 n2 n3 s6 n4 n5 s7 n6).run:=by unfold qjx; rw [qbF,qH2]
noncomputable def qbG (s:List UInt8) (n:Int) (s2:List UInt8) (s3:List UInt8) (s4:List UInt8) (s5:List UInt8) (n2:Int) (n3:Int) (s6:List UInt8) (n4:Int) (n5:Int) (s7:List UInt8) (n6:Int):Option (PExit × List PV × Store):=qjx [.str s,.ptr 0 0,.int .u8 n,.agg [.str s2,.str s3,.str s4,.str s5],.int .i64 n2] ⟨[[.int .i64 n3,.str s6,.int .i64 n4,.int .i64 n5,.str s7,.int .i64 n6]],[],[120]⟩
noncomputable def qbm (s:List UInt8) (n:Int) (s2:List UInt8) (s3:List UInt8) (s4:List UInt8) (s5:List UInt8) (n2:Int) (n3:Int) (s6:List UInt8) (n4:Int) (n5:Int) (s7:List UInt8) (n6:Int):Bool:=(qb0 (gOut (qbG s n s2 s3 s4 s5 n2 n3 s6 n4 n5 s7 n6) 1))
noncomputable def qbk (s:List UInt8) (n:Int) (s2:List UInt8) (s3:List UInt8) (s4:List UInt8) (s5:List UInt8) (n2:Int) (n3:Int) (s6:List UInt8) (n4:Int) (n5:Int) (s7:List UInt8) (n6:Int):Int:=(gInt (gAt (gObj (qbG s n s2 s3 s4 s5 n2 n3 s6 n4 n5 s7 n6) 0) 0))
noncomputable def qbl (s:List UInt8) (n:Int) (s2:List UInt8) (s3:List UInt8) (s4:List UInt8) (s5:List UInt8) (n2:Int) (n3:Int) (s6:List UInt8) (n4:Int) (n5:Int) (s7:List UInt8) (n6:Int):List UInt8:=(gStr (gAt (gObj (qbG s n s2 s3 s4 s5 n2 n3 s6 n4 n5 s7 n6) 0) 1))
noncomputable def qaZ (s:List UInt8) (n:Int) (s2:List UInt8) (s3:List UInt8) (s4:List UInt8) (s5:List UInt8) (n2:Int) (n3:Int) (s6:List UInt8) (n4:Int) (n5:Int) (s7:List UInt8) (n6:Int):Int:=(gInt (gAt (gObj (qbG s n s2 s3 s4 s5 n2 n3 s6 n4 n5 s7 n6) 0) 2))
noncomputable def qaY (s:List UInt8) (n:Int) (s2:List UInt8) (s3:List UInt8) (s4:List UInt8) (s5:List UInt8) (n2:Int) (n3:Int) (s6:List UInt8) (n4:Int) (n5:Int) (s7:List UInt8) (n6:Int):Int:=(gInt (gAt (gObj (qbG s n s2 s3 s4 s5 n2 n3 s6 n4 n5 s7 n6) 0) 3))
noncomputable def qa1 (s:List UInt8) (n:Int) (s2:List UInt8) (s3:List UInt8) (s4:List UInt8) (s5:List UInt8) (n2:Int) (n3:Int) (s6:List UInt8) (n4:Int) (n5:Int) (s7:List UInt8) (n6:Int):List UInt8:=(gStr (gAt (gObj (qbG s n s2 s3 s4 s5 n2 n3 s6 n4 n5 s7 n6) 0) 4))
noncomputable def qa0 (s:List UInt8) (n:Int) (s2:List UInt8) (s3:List UInt8) (s4:List UInt8) (s5:List UInt8) (n2:Int) (n3:Int) (s6:List UInt8) (n4:Int) (n5:Int) (s7:List UInt8) (n6:Int):Int:=(gInt (gAt (gObj (qbG s n s2 s3 s4 s5 n2 n3 s6 n4 n5 s7 n6) 0) 5))
noncomputable def qa7 (s:List UInt8) (n:Int) (s2:List UInt8) (s3:List UInt8) (s4:List UInt8) (s5:List UInt8) (n2:Int) (n3:Int) (s6:List UInt8) (n4:Int) (n5:Int) (s7:List UInt8) (n6:Int):Bool:=isW (qbG s n s2 s3 s4 s5 n2 n3 s6 n4 n5 s7 n6) (.ret,[.ptr 0 0,.bool (qbm s n s2 s3 s4 s5 n2 n3 s6 n4 n5 s7 n6)],⟨[[.int .i64 (qbk s n s2 s3 s4 s5 n2 n3 s6 n4 n5 s7 n6),.str (qbl s n s2 s3 s4 s5 n2 n3 s6 n4 n5 s7 n6),.int .i64 (qaZ s n s2 s3 s4 s5 n2 n3 s6 n4 n5 s7 n6),.int .i64 (qaY s n s2 s3 s4 s5 n2 n3 s6 n4 n5 s7 n6),.str (qa1 s n s2 s3 s4 s5 n2 n3 s6 n4 n5 s7 n6),.int .i64 (qa0 s n s2 s3 s4 s5 n2 n3 s6 n4 n5 s7 n6)]],[],[120]⟩)
noncomputable def qau (s:List UInt8) (n:Int) (s2:List UInt8) (s3:List UInt8) (s4:List UInt8) (s5:List UInt8) (n2:Int) (n3:Int) (s6:List UInt8) (n4:Int) (n5:Int) (s7:List UInt8) (n6:Int):List UInt8:=(gStr (gOut (qbG s n s2 s3 s4 s5 n2 n3 s6 n4 n5 s7 n6) 0))
noncomputable def qbf (s:List UInt8) (n:Int) (s2:List UInt8) (s3:List UInt8) (s4:List UInt8) (s5:List UInt8) (n2:Int) (n3:Int) (s6:List UInt8) (n4:Int) (n5:Int) (s7:List UInt8) (n6:Int):Int:=(gInt (gOut (qbG s n s2 s3 s4 s5 n2 n3 s6 n4 n5 s7 n6) 2))
noncomputable def qlc (s:List UInt8) (n:Int) (s2:List UInt8) (s3:List UInt8) (s4:List UInt8) (s5:List UInt8) (n2:Int) (n3:Int) (s6:List UInt8) (n4:Int) (n5:Int) (s7:List UInt8) (n6:Int):Int:=(gInt (gAt (gObj (qbG s n s2 s3 s4 s5 n2 n3 s6 n4 n5 s7 n6) 0) 0))
noncomputable def qk3 (s:List UInt8) (n:Int) (s2:List UInt8) (s3:List UInt8) (s4:List UInt8) (s5:List UInt8) (n2:Int) (n3:Int) (s6:List UInt8) (n4:Int) (n5:Int) (s7:List UInt8) (n6:Int):List UInt8:=(gStr (gAt (gObj (qbG s n s2 s3 s4 s5 n2 n3 s6 n4 n5 s7 n6) 0) 1))
noncomputable def qkY (s:List UInt8) (n:Int) (s2:List UInt8) (s3:List UInt8) (s4:List UInt8) (s5:List UInt8) (n2:Int) (n3:Int) (s6:List UInt8) (n4:Int) (n5:Int) (s7:List UInt8) (n6:Int):Int:=(gInt (gAt (gObj (qbG s n s2 s3 s4 s5 n2 n3 s6 n4 n5 s7 n6) 0) 2))
noncomputable def qkz (s:List UInt8) (n:Int) (s2:List UInt8) (s3:List UInt8) (s4:List UInt8) (s5:List UInt8) (n2:Int) (n3:Int) (s6:List UInt8) (n4:Int) (n5:Int) (s7:List UInt8) (n6:Int):Int:=(gInt (gAt (gObj (qbG s n s2 s3 s4 s5 n2 n3 s6 n4 n5 s7 n6) 0) 3))
noncomputable def qlb (s:List UInt8) (n:Int) (s2:List UInt8) (s3:List UInt8) (s4:List UInt8) (s5:List UInt8) (n2:Int) (n3:Int) (s6:List UInt8) (n4:Int) (n5:Int) (s7:List UInt8) (n6:Int):List UInt8:=(gStr (gAt (gObj (qbG s n s2 s3 s4 s5 n2 n3 s6 n4 n5 s7 n6) 0) 4))
noncomputable def qkL (s:List UInt8) (n:Int) (s2:List UInt8) (s3:List UInt8) (s4:List UInt8) (s5:List UInt8) (n2:Int) (n3:Int) (s6:List UInt8) (n4:Int) (n5:Int) (s7:List UInt8) (n6:Int):Int:=(gInt (gAt (gObj (qbG s n s2 s3 s4 s5 n2 n3 s6 n4 n5 s7 n6) 0) 5))
noncomputable def qbq (s:List UInt8) (n:Int) (s2:List UInt8) (s3:List UInt8) (s4:List UInt8) (s5:List UInt8) (n2:Int) (n3:Int) (s6:List UInt8) (n4:Int) (n5:Int) (s7:List UInt8) (n6:Int):Bool:=isW (qbG s n s2 s3 s4 s5 n2 n3 s6 n4 n5 s7 n6) ((.exit 1),[.str (qau s n s2 s3 s4 s5 n2 n3 s6 n4 n5 s7 n6),.ptr 0 0,.int .u8 (qbf s n s2 s3 s4 s5 n2 n3 s6 n4 n5 s7 n6)],⟨[[.int .i64 (qlc s n s2 s3 s4 s5 n2 n3 s6 n4 n5 s7 n6),.str (qk3 s n s2 s3 s4 s5 n2 n3 s6 n4 n5 s7 n6),.int .i64 (qkY s n s2 s3 s4 s5 n2 n3 s6 n4 n5 s7 n6),.int .i64 (qkz s n s2 s3 s4 s5 n2 n3 s6 n4 n5 s7 n6),.str (qlb s n s2 s3 s4 s5 n2 n3 s6 n4 n5 s7 n6),.int .i64 (qkL s n s2 s3 s4 s5 n2 n3 s6 n4 n5 s7 n6)]],[],[120]⟩)
noncomputable def qh7:List PV→Store→Tr (PExit × List PV × Store) | [.str s,.ptr 0 0,.int .u8 n,.agg [.str s2,.str s3,.str s4,.str s5],.int .i64 n2],⟨[[.int .i64 n3,.str s6,.int .i64 n4,.int .i64 n5,.str s7,.int .i64 n6]],[],[120]⟩=>.ite (qa7 s n s2 s3 s4 s5 n2 n3 s6 n4 n5 s7 n6) (.ret (.ret,[.ptr 0 0,.bool (qbm s n s2 s3 s4 s5 n2 n3 s6 n4 n5 s7 n6)],⟨[[.int .i64 (qbk s n s2 s3 s4 s5 n2 n3 s6 n4 n5 s7 n6),.str (qbl s n s2 s3 s4 s5 n2 n3 s6 n4 n5 s7 n6),.int .i64 (qaZ s n s2 s3 s4 s5 n2 n3 s6 n4 n5 s7 n6),.int .i64 (qaY s n s2 s3 s4 s5 n2 n3 s6 n4 n5 s7 n6),.str (qa1 s n s2 s3 s4 s5 n2 n3 s6 n4 n5 s7 n6),.int .i64 (qa0 s n s2 s3 s4 s5 n2 n3 s6 n4 n5 s7 n6)]],[],[120]⟩)) (.ite (qbq s n s2 s3 s4 s5 n2 n3 s6 n4 n5 s7 n6) (.ret ((.exit 1),[.str (qau s n s2 s3 s4 s5 n2 n3 s6 n4 n5 s7 n6),.ptr 0 0,.int .u8 (qbf s n s2 s3 s4 s5 n2 n3 s6 n4 n5 s7 n6)],⟨[[.int .i64 (qlc s n s2 s3 s4 s5 n2 n3 s6 n4 n5 s7 n6),.str (qk3 s n s2 s3 s4 s5 n2 n3 s6 n4 n5 s7 n6),.int .i64 (qkY s n s2 s3 s4 s5 n2 n3 s6 n4 n5 s7 n6),.int .i64 (qkz s n s2 s3 s4 s5 n2 n3 s6 n4 n5 s7 n6),.str (qlb s n s2 s3 s4 s5 n2 n3 s6 n4 n5 s7 n6),.int .i64 (qkL s n s2 s3 s4 s5 n2 n3 s6 n4 n5 s7 n6)]],[],[120]⟩)) (.fail)) | _,_=>.fail
theorem qER:∀ vs σ r,(qh7 vs σ).run=some r→qjx vs σ=some r:=by
 intro vs σ r h
 unfold qh7 at h
 split at h
 ·exact qai h fun h=>qai h fun h=>by cases h
 ·cases h
theorem qxf (gl:Gl) (hg:GlLex gl):∀ fr σ e fr' σ',(orc qoo qh7 fr σ).run=some (e,fr',σ')→LDoes Tryz.prog gl qn6 fr σ e fr' σ':=qcl qaj (qwT gl hg ) qah (L:=qqb) (qae (by kernel_rfl)) (by kernel_rfl) qER
noncomputable def qyF:LpsT:=fun r fr σ=>bif Nat.beq r 16 then orc qoo qh7 fr σ else .fail
noncomputable def qff (v:List UInt8):Tr PV:=.ite (qax v 0) (.ite (iLt 1 (sLen v)) (.ite (qax v 1) (.ite (iLe 97 (sAt v 0)) (.ite (iLe (sAt v 0) 122) (.ite (qdZ v 1) (.ret (.tup [.agg [.int .i64 (qf6 v 1),.str (qfI v 1),.int .i64 (qdS v 1),.int .i64 (qdY v 1),.str (qd0 v 1),.int .i64 (qd1 v 1)],.bool (qfv v 1)])) .fail) (.ite (iLe 65 (sAt v 0)) (.ite (iLe (sAt v 0) 90) (.ite (qdZ v 2) (.ret (.tup [.agg [.int .i64 (qf6 v 2),.str (qfI v 2),.int .i64 (qdS v 2),.int .i64 (qdY v 2),.str (qd0 v 2),.int .i64 (qd1 v 2)],.bool (qfv v 2)])) .fail) (.ite (iEq (sAt v 0) 95) (.ite (qbK (sAt v 1)) (.ret (.tup [.agg [.int .i64 3,.str [95],.int .i64 0,.int .i64 0,.str [],.int .i64 0],.bool (bNot (qbS (sAt v 1)))])) .fail) (.ite (qa2 (sAt v 0)) (.ite (qa6 (sAt v 0)) (.ite (qaA (qak 1) true (nNat 1) (nLen v) (nLen v)) (.ite (qbD (sSub v (nNat 1) (nLen v))) (.ite (qaA true (qak (iAdd .i64 1 (qaf (sSub v (nNat 1) (nLen v))))) 0 (nNat (iAdd .i64 1 (qaf (sSub v (nNat 1) (nLen v))))) (nLen v)) (.ite (qar (sSub v 0 (nNat (iAdd .i64 1 (qaf (sSub v (nNat 1) (nLen v)))))) 4) (.ret (.tup [.agg [.int .i64 (qaB (sSub v 0 (nNat (iAdd .i64 1 (qaf (sSub v (nNat 1) (nLen v)))))) 4),.str (qaC (sSub v 0 (nNat (iAdd .i64 1 (qaf (sSub v (nNat 1) (nLen v)))))) 4),.int .i64 (qay (sSub v 0 (nNat (iAdd .i64 1 (qaf (sSub v (nNat 1) (nLen v)))))) 4),.int .i64 (qat (sSub v 0 (nNat (iAdd .i64 1 (qaf (sSub v (nNat 1) (nLen v)))))) 4),.str (qaw (sSub v 0 (nNat (iAdd .i64 1 (qaf (sSub v (nNat 1) (nLen v)))))) 4),.int .i64 (qav (sSub v 0 (nNat (iAdd .i64 1 (qaf (sSub v (nNat 1) (nLen v)))))) 4)],.bool (qaD (sSub v 0 (nNat (iAdd .i64 1 (qaf (sSub v (nNat 1) (nLen v)))))) 4)])) .fail) .fail) .fail) .fail) (.ite (iEq (sAt v 0) 45) (.ite (qa2 (sAt v 1)) (.ite (qa6 (sAt v 1))
 (.ite (qaA (qak 1) true (nNat 1) (nLen v) (nLen v)) (.ite (qbD (sSub v (nNat 1) (nLen v))) (.ite (qaA true (qak (iAdd .i64 1 (qaf (sSub v (nNat 1) (nLen v))))) 0 (nNat (iAdd .i64 1 (qaf (sSub v (nNat 1) (nLen v))))) (nLen v)) (.ite (qar (sSub v 0 (nNat (iAdd .i64 1 (qaf (sSub v (nNat 1) (nLen v)))))) 4) (.ret (.tup [.agg [.int .i64 (qaB (sSub v 0 (nNat (iAdd .i64 1 (qaf (sSub v (nNat 1) (nLen v)))))) 4),.str (qaC (sSub v 0 (nNat (iAdd .i64 1 (qaf (sSub v (nNat 1) (nLen v)))))) 4),.int .i64 (qay (sSub v 0 (nNat (iAdd .i64 1 (qaf (sSub v (nNat 1) (nLen v)))))) 4),.int .i64 (qat (sSub v 0 (nNat (iAdd .i64 1 (qaf (sSub v (nNat 1) (nLen v)))))) 4),.str (qaw (sSub v 0 (nNat (iAdd .i64 1 (qaf (sSub v (nNat 1) (nLen v)))))) 4),.int .i64 (qav (sSub v 0 (nNat (iAdd .i64 1 (qaf (sSub v (nNat 1) (nLen v)))))) 4)],.bool (qaD (sSub v 0 (nNat (iAdd .i64 1 (qaf (sSub v (nNat 1) (nLen v)))))) 4)])) .fail) .fail) .fail) .fail) (.ite (iEq (sAt v 0) 34) (.ite (qbi v) (.ite (qaA true (qak (qad v)) 0 (nNat (qad v)) (nLen v)) (.ite (qar (sSub v 0 (nNat (qad v))) 5) (.ret (.tup [.agg [.int .i64 (qaB (sSub v 0 (nNat (qad v))) 5),.str (qaC (sSub v 0 (nNat (qad v))) 5),.int .i64 (qay (sSub v 0 (nNat (qad v))) 5),.int .i64 (qat (sSub v 0 (nNat (qad v))) 5),.str (qaw (sSub v 0 (nNat (qad v))) 5),.int .i64 (qav (sSub v 0 (nNat (qad v))) 5)],.bool (qaD (sSub v 0 (nNat (qad v))) 5)])) .fail) .fail) .fail) (.ite (qa7 v (sAt v 0) [58,45] [60,61] [62,61] [33,61] 0 0 [] 0 0 [] 0) (.ret (.tup [.agg [.int .i64 (qbk v (sAt v 0) [58,45] [60,61] [62,61] [33,61] 0 0 [] 0 0 [] 0),.str (qbl v (sAt v 0) [58,45] [60,61] [62,61] [33,61] 0 0 [] 0 0 [] 0),.int .i64 (qaZ v (sAt v 0) [58,45] [60,61] [62,61] [33,61] 0 0 [] 0 0 [] 0),
 .int .i64 (qaY v (sAt v 0) [58,45] [60,61] [62,61] [33,61] 0 0 [] 0 0 [] 0),.str (qa1 v (sAt v 0) [58,45] [60,61] [62,61] [33,61] 0 0 [] 0 0 [] 0),.int .i64 (qa0 v (sAt v 0) [58,45] [60,61] [62,61] [33,61] 0 0 [] 0 0 [] 0)],.bool (qbm v (sAt v 0) [58,45] [60,61] [62,61] [33,61] 0 0 [] 0 0 [] 0)])) (.ite (qbq v (sAt v 0) [58,45] [60,61] [62,61] [33,61] 0 0 [] 0 0 [] 0) (.ite (qaA true (qak 1) 0 (nNat 1) (nLen (qau v (sAt v 0) [58,45] [60,61] [62,61] [33,61] 0 0 [] 0 0 [] 0))) (.ret (.tup [.agg [.int .i64 6,.str (sSub (qau v (sAt v 0) [58,45] [60,61] [62,61] [33,61] 0 0 [] 0 0 [] 0) 0 (nNat 1)),.int .i64 0,.int .i64 0,.str [],.int .i64 0],.bool (iLe 0 (idxV [40,41,44,46,43,45,61,58,60,62] (qbf v (sAt v 0) [58,45] [60,61] [62,61] [33,61] 0 0 [] 0 0 [] 0)))])) .fail) .fail)))) .fail) (.ite (iEq (sAt v 0) 34) (.ite (qbi v) (.ite (qaA true (qak (qad v)) 0 (nNat (qad v)) (nLen v)) (.ite (qar (sSub v 0 (nNat (qad v))) 5) (.ret (.tup [.agg [.int .i64 (qaB (sSub v 0 (nNat (qad v))) 5),.str (qaC (sSub v 0 (nNat (qad v))) 5),.int .i64 (qay (sSub v 0 (nNat (qad v))) 5),.int .i64 (qat (sSub v 0 (nNat (qad v))) 5),.str (qaw (sSub v 0 (nNat (qad v))) 5),.int .i64 (qav (sSub v 0 (nNat (qad v))) 5)],.bool (qaD (sSub v 0 (nNat (qad v))) 5)])) .fail) .fail) .fail) (.ite (qa7 v (sAt v 0) [58,45] [60,61] [62,61] [33,61] 0 0 [] 0 0 [] 0) (.ret (.tup [.agg [.int .i64 (qbk v (sAt v 0) [58,45] [60,61] [62,61] [33,61] 0 0 [] 0 0 [] 0),.str (qbl v (sAt v 0) [58,45] [60,61] [62,61] [33,61] 0 0 [] 0 0 [] 0),.int .i64 (qaZ v (sAt v 0) [58,45] [60,61] [62,61] [33,61] 0 0 [] 0 0 [] 0),.int .i64 (qaY v (sAt v 0) [58,45] [60,61] [62,61] [33,61] 0 0 [] 0 0 [] 0),.str (qa1 v (sAt v 0) [58,45] [60,61] [62,61] [33,61] 0 0 [] 0 0 [] 0),
 .int .i64 (qa0 v (sAt v 0) [58,45] [60,61] [62,61] [33,61] 0 0 [] 0 0 [] 0)],.bool (qbm v (sAt v 0) [58,45] [60,61] [62,61] [33,61] 0 0 [] 0 0 [] 0)])) (.ite (qbq v (sAt v 0) [58,45] [60,61] [62,61] [33,61] 0 0 [] 0 0 [] 0) (.ite (qaA true (qak 1) 0 (nNat 1) (nLen (qau v (sAt v 0) [58,45] [60,61] [62,61] [33,61] 0 0 [] 0 0 [] 0))) (.ret (.tup [.agg [.int .i64 6,.str (sSub (qau v (sAt v 0) [58,45] [60,61] [62,61] [33,61] 0 0 [] 0 0 [] 0) 0 (nNat 1)),.int .i64 0,.int .i64 0,.str [],.int .i64 0],.bool (iLe 0 (idxV [40,41,44,46,43,45,61,58,60,62] (qbf v (sAt v 0) [58,45] [60,61] [62,61] [33,61] 0 0 [] 0 0 [] 0)))])) .fail) .fail))))) .fail))) (.ite (iEq (sAt v 0) 95) (.ite (qbK (sAt v 1)) (.ret (.tup [.agg [.int .i64 3,.str [95],.int .i64 0,.int .i64 0,.str [],.int .i64 0],.bool (bNot (qbS (sAt v 1)))])) .fail) (.ite (qa2 (sAt v 0)) (.ite (qa6 (sAt v 0)) (.ite (qaA (qak 1) true (nNat 1) (nLen v) (nLen v)) (.ite (qbD (sSub v (nNat 1) (nLen v))) (.ite (qaA true (qak (iAdd .i64 1 (qaf (sSub v (nNat 1) (nLen v))))) 0 (nNat (iAdd .i64 1 (qaf (sSub v (nNat 1) (nLen v))))) (nLen v)) (.ite (qar (sSub v 0 (nNat (iAdd .i64 1 (qaf (sSub v (nNat 1) (nLen v)))))) 4) (.ret (.tup [.agg [.int .i64 (qaB (sSub v 0 (nNat (iAdd .i64 1 (qaf (sSub v (nNat 1) (nLen v)))))) 4),.str (qaC (sSub v 0 (nNat (iAdd .i64 1 (qaf (sSub v (nNat 1) (nLen v)))))) 4),.int .i64 (qay (sSub v 0 (nNat (iAdd .i64 1 (qaf (sSub v (nNat 1) (nLen v)))))) 4),.int .i64 (qat (sSub v 0 (nNat (iAdd .i64 1 (qaf (sSub v (nNat 1) (nLen v)))))) 4),.str (qaw (sSub v 0 (nNat (iAdd .i64 1 (qaf (sSub v (nNat 1) (nLen v)))))) 4),.int .i64 (qav (sSub v 0 (nNat (iAdd .i64 1 (qaf (sSub v (nNat 1) (nLen v)))))) 4)],.bool (qaD (sSub v 0 (nNat (iAdd .i64 1 (qaf (sSub v (nNat 1) (nLen v)))))) 4)])) .fail) .fail) .fail) .fail)
 (.ite (iEq (sAt v 0) 45) (.ite (qa2 (sAt v 1)) (.ite (qa6 (sAt v 1)) (.ite (qaA (qak 1) true (nNat 1) (nLen v) (nLen v)) (.ite (qbD (sSub v (nNat 1) (nLen v))) (.ite (qaA true (qak (iAdd .i64 1 (qaf (sSub v (nNat 1) (nLen v))))) 0 (nNat (iAdd .i64 1 (qaf (sSub v (nNat 1) (nLen v))))) (nLen v)) (.ite (qar (sSub v 0 (nNat (iAdd .i64 1 (qaf (sSub v (nNat 1) (nLen v)))))) 4) (.ret (.tup [.agg [.int .i64 (qaB (sSub v 0 (nNat (iAdd .i64 1 (qaf (sSub v (nNat 1) (nLen v)))))) 4),.str (qaC (sSub v 0 (nNat (iAdd .i64 1 (qaf (sSub v (nNat 1) (nLen v)))))) 4),.int .i64 (qay (sSub v 0 (nNat (iAdd .i64 1 (qaf (sSub v (nNat 1) (nLen v)))))) 4),.int .i64 (qat (sSub v 0 (nNat (iAdd .i64 1 (qaf (sSub v (nNat 1) (nLen v)))))) 4),.str (qaw (sSub v 0 (nNat (iAdd .i64 1 (qaf (sSub v (nNat 1) (nLen v)))))) 4),.int .i64 (qav (sSub v 0 (nNat (iAdd .i64 1 (qaf (sSub v (nNat 1) (nLen v)))))) 4)],.bool (qaD (sSub v 0 (nNat (iAdd .i64 1 (qaf (sSub v (nNat 1) (nLen v)))))) 4)])) .fail) .fail) .fail) .fail) (.ite (iEq (sAt v 0) 34) (.ite (qbi v) (.ite (qaA true (qak (qad v)) 0 (nNat (qad v)) (nLen v)) (.ite (qar (sSub v 0 (nNat (qad v))) 5) (.ret (.tup [.agg [.int .i64 (qaB (sSub v 0 (nNat (qad v))) 5),.str (qaC (sSub v 0 (nNat (qad v))) 5),.int .i64 (qay (sSub v 0 (nNat (qad v))) 5),.int .i64 (qat (sSub v 0 (nNat (qad v))) 5),.str (qaw (sSub v 0 (nNat (qad v))) 5),.int .i64 (qav (sSub v 0 (nNat (qad v))) 5)],.bool (qaD (sSub v 0 (nNat (qad v))) 5)])) .fail) .fail) .fail) (.ite (qa7 v (sAt v 0) [58,45] [60,61] [62,61] [33,61] 0 0 [] 0 0 [] 0) (.ret (.tup [.agg [.int .i64 (qbk v (sAt v 0) [58,45] [60,61] [62,61] [33,61] 0 0 [] 0 0 [] 0),.str (qbl v (sAt v 0) [58,45] [60,61] [62,61] [33,61] 0 0 [] 0 0 [] 0),
 .int .i64 (qaZ v (sAt v 0) [58,45] [60,61] [62,61] [33,61] 0 0 [] 0 0 [] 0),.int .i64 (qaY v (sAt v 0) [58,45] [60,61] [62,61] [33,61] 0 0 [] 0 0 [] 0),.str (qa1 v (sAt v 0) [58,45] [60,61] [62,61] [33,61] 0 0 [] 0 0 [] 0),.int .i64 (qa0 v (sAt v 0) [58,45] [60,61] [62,61] [33,61] 0 0 [] 0 0 [] 0)],.bool (qbm v (sAt v 0) [58,45] [60,61] [62,61] [33,61] 0 0 [] 0 0 [] 0)])) (.ite (qbq v (sAt v 0) [58,45] [60,61] [62,61] [33,61] 0 0 [] 0 0 [] 0) (.ite (qaA true (qak 1) 0 (nNat 1) (nLen (qau v (sAt v 0) [58,45] [60,61] [62,61] [33,61] 0 0 [] 0 0 [] 0))) (.ret (.tup [.agg [.int .i64 6,.str (sSub (qau v (sAt v 0) [58,45] [60,61] [62,61] [33,61] 0 0 [] 0 0 [] 0) 0 (nNat 1)),.int .i64 0,.int .i64 0,.str [],.int .i64 0],.bool (iLe 0 (idxV [40,41,44,46,43,45,61,58,60,62] (qbf v (sAt v 0) [58,45] [60,61] [62,61] [33,61] 0 0 [] 0 0 [] 0)))])) .fail) .fail)))) .fail) (.ite (iEq (sAt v 0) 34) (.ite (qbi v) (.ite (qaA true (qak (qad v)) 0 (nNat (qad v)) (nLen v)) (.ite (qar (sSub v 0 (nNat (qad v))) 5) (.ret (.tup [.agg [.int .i64 (qaB (sSub v 0 (nNat (qad v))) 5),.str (qaC (sSub v 0 (nNat (qad v))) 5),.int .i64 (qay (sSub v 0 (nNat (qad v))) 5),.int .i64 (qat (sSub v 0 (nNat (qad v))) 5),.str (qaw (sSub v 0 (nNat (qad v))) 5),.int .i64 (qav (sSub v 0 (nNat (qad v))) 5)],.bool (qaD (sSub v 0 (nNat (qad v))) 5)])) .fail) .fail) .fail) (.ite (qa7 v (sAt v 0) [58,45] [60,61] [62,61] [33,61] 0 0 [] 0 0 [] 0) (.ret (.tup [.agg [.int .i64 (qbk v (sAt v 0) [58,45] [60,61] [62,61] [33,61] 0 0 [] 0 0 [] 0),.str (qbl v (sAt v 0) [58,45] [60,61] [62,61] [33,61] 0 0 [] 0 0 [] 0),.int .i64 (qaZ v (sAt v 0) [58,45] [60,61] [62,61] [33,61] 0 0 [] 0 0 [] 0),.int .i64 (qaY v (sAt v 0) [58,45] [60,61] [62,61] [33,61] 0 0 [] 0 0 [] 0),
 .str (qa1 v (sAt v 0) [58,45] [60,61] [62,61] [33,61] 0 0 [] 0 0 [] 0),.int .i64 (qa0 v (sAt v 0) [58,45] [60,61] [62,61] [33,61] 0 0 [] 0 0 [] 0)],.bool (qbm v (sAt v 0) [58,45] [60,61] [62,61] [33,61] 0 0 [] 0 0 [] 0)])) (.ite (qbq v (sAt v 0) [58,45] [60,61] [62,61] [33,61] 0 0 [] 0 0 [] 0) (.ite (qaA true (qak 1) 0 (nNat 1) (nLen (qau v (sAt v 0) [58,45] [60,61] [62,61] [33,61] 0 0 [] 0 0 [] 0))) (.ret (.tup [.agg [.int .i64 6,.str (sSub (qau v (sAt v 0) [58,45] [60,61] [62,61] [33,61] 0 0 [] 0 0 [] 0) 0 (nNat 1)),.int .i64 0,.int .i64 0,.str [],.int .i64 0],.bool (iLe 0 (idxV [40,41,44,46,43,45,61,58,60,62] (qbf v (sAt v 0) [58,45] [60,61] [62,61] [33,61] 0 0 [] 0 0 [] 0)))])) .fail) .fail))))) .fail)))) (.ite (iLe 65 (sAt v 0)) (.ite (iLe (sAt v 0) 90) (.ite (qdZ v 2) (.ret (.tup [.agg [.int .i64 (qf6 v 2),.str (qfI v 2),.int .i64 (qdS v 2),.int .i64 (qdY v 2),.str (qd0 v 2),.int .i64 (qd1 v 2)],.bool (qfv v 2)])) .fail) (.ite (iEq (sAt v 0) 95) (.ite (qbK (sAt v 1)) (.ret (.tup [.agg [.int .i64 3,.str [95],.int .i64 0,.int .i64 0,.str [],.int .i64 0],.bool (bNot (qbS (sAt v 1)))])) .fail) (.ite (qa2 (sAt v 0)) (.ite (qa6 (sAt v 0)) (.ite (qaA (qak 1) true (nNat 1) (nLen v) (nLen v)) (.ite (qbD (sSub v (nNat 1) (nLen v))) (.ite (qaA true (qak (iAdd .i64 1 (qaf (sSub v (nNat 1) (nLen v))))) 0 (nNat (iAdd .i64 1 (qaf (sSub v (nNat 1) (nLen v))))) (nLen v)) (.ite (qar (sSub v 0 (nNat (iAdd .i64 1 (qaf (sSub v (nNat 1) (nLen v)))))) 4) (.ret (.tup [.agg [.int .i64 (qaB (sSub v 0 (nNat (iAdd .i64 1 (qaf (sSub v (nNat 1) (nLen v)))))) 4),.str (qaC (sSub v 0 (nNat (iAdd .i64 1 (qaf (sSub v (nNat 1) (nLen v)))))) 4),.int .i64 (qay (sSub v 0 (nNat (iAdd .i64 1 (qaf (sSub v (nNat 1) (nLen v)))))) 4),
 .int .i64 (qat (sSub v 0 (nNat (iAdd .i64 1 (qaf (sSub v (nNat 1) (nLen v)))))) 4),.str (qaw (sSub v 0 (nNat (iAdd .i64 1 (qaf (sSub v (nNat 1) (nLen v)))))) 4),.int .i64 (qav (sSub v 0 (nNat (iAdd .i64 1 (qaf (sSub v (nNat 1) (nLen v)))))) 4)],.bool (qaD (sSub v 0 (nNat (iAdd .i64 1 (qaf (sSub v (nNat 1) (nLen v)))))) 4)])) .fail) .fail) .fail) .fail) (.ite (iEq (sAt v 0) 45) (.ite (qa2 (sAt v 1)) (.ite (qa6 (sAt v 1)) (.ite (qaA (qak 1) true (nNat 1) (nLen v) (nLen v)) (.ite (qbD (sSub v (nNat 1) (nLen v))) (.ite (qaA true (qak (iAdd .i64 1 (qaf (sSub v (nNat 1) (nLen v))))) 0 (nNat (iAdd .i64 1 (qaf (sSub v (nNat 1) (nLen v))))) (nLen v)) (.ite (qar (sSub v 0 (nNat (iAdd .i64 1 (qaf (sSub v (nNat 1) (nLen v)))))) 4) (.ret (.tup [.agg [.int .i64 (qaB (sSub v 0 (nNat (iAdd .i64 1 (qaf (sSub v (nNat 1) (nLen v)))))) 4),.str (qaC (sSub v 0 (nNat (iAdd .i64 1 (qaf (sSub v (nNat 1) (nLen v)))))) 4),.int .i64 (qay (sSub v 0 (nNat (iAdd .i64 1 (qaf (sSub v (nNat 1) (nLen v)))))) 4),.int .i64 (qat (sSub v 0 (nNat (iAdd .i64 1 (qaf (sSub v (nNat 1) (nLen v)))))) 4),.str (qaw (sSub v 0 (nNat (iAdd .i64 1 (qaf (sSub v (nNat 1) (nLen v)))))) 4),.int .i64 (qav (sSub v 0 (nNat (iAdd .i64 1 (qaf (sSub v (nNat 1) (nLen v)))))) 4)],.bool (qaD (sSub v 0 (nNat (iAdd .i64 1 (qaf (sSub v (nNat 1) (nLen v)))))) 4)])) .fail) .fail) .fail) .fail) (.ite (iEq (sAt v 0) 34) (.ite (qbi v) (.ite (qaA true (qak (qad v)) 0 (nNat (qad v)) (nLen v)) (.ite (qar (sSub v 0 (nNat (qad v))) 5) (.ret (.tup [.agg [.int .i64 (qaB (sSub v 0 (nNat (qad v))) 5),.str (qaC (sSub v 0 (nNat (qad v))) 5),.int .i64 (qay (sSub v 0 (nNat (qad v))) 5),.int .i64 (qat (sSub v 0 (nNat (qad v))) 5),
 .str (qaw (sSub v 0 (nNat (qad v))) 5),.int .i64 (qav (sSub v 0 (nNat (qad v))) 5)],.bool (qaD (sSub v 0 (nNat (qad v))) 5)])) .fail) .fail) .fail) (.ite (qa7 v (sAt v 0) [58,45] [60,61] [62,61] [33,61] 0 0 [] 0 0 [] 0) (.ret (.tup [.agg [.int .i64 (qbk v (sAt v 0) [58,45] [60,61] [62,61] [33,61] 0 0 [] 0 0 [] 0),.str (qbl v (sAt v 0) [58,45] [60,61] [62,61] [33,61] 0 0 [] 0 0 [] 0),.int .i64 (qaZ v (sAt v 0) [58,45] [60,61] [62,61] [33,61] 0 0 [] 0 0 [] 0),.int .i64 (qaY v (sAt v 0) [58,45] [60,61] [62,61] [33,61] 0 0 [] 0 0 [] 0),.str (qa1 v (sAt v 0) [58,45] [60,61] [62,61] [33,61] 0 0 [] 0 0 [] 0),.int .i64 (qa0 v (sAt v 0) [58,45] [60,61] [62,61] [33,61] 0 0 [] 0 0 [] 0)],.bool (qbm v (sAt v 0) [58,45] [60,61] [62,61] [33,61] 0 0 [] 0 0 [] 0)])) (.ite (qbq v (sAt v 0) [58,45] [60,61] [62,61] [33,61] 0 0 [] 0 0 [] 0) (.ite (qaA true (qak 1) 0 (nNat 1) (nLen (qau v (sAt v 0) [58,45] [60,61] [62,61] [33,61] 0 0 [] 0 0 [] 0))) (.ret (.tup [.agg [.int .i64 6,.str (sSub (qau v (sAt v 0) [58,45] [60,61] [62,61] [33,61] 0 0 [] 0 0 [] 0) 0 (nNat 1)),.int .i64 0,.int .i64 0,.str [],.int .i64 0],.bool (iLe 0 (idxV [40,41,44,46,43,45,61,58,60,62] (qbf v (sAt v 0) [58,45] [60,61] [62,61] [33,61] 0 0 [] 0 0 [] 0)))])) .fail) .fail)))) .fail) (.ite (iEq (sAt v 0) 34) (.ite (qbi v) (.ite (qaA true (qak (qad v)) 0 (nNat (qad v)) (nLen v)) (.ite (qar (sSub v 0 (nNat (qad v))) 5) (.ret (.tup [.agg [.int .i64 (qaB (sSub v 0 (nNat (qad v))) 5),.str (qaC (sSub v 0 (nNat (qad v))) 5),.int .i64 (qay (sSub v 0 (nNat (qad v))) 5),.int .i64 (qat (sSub v 0 (nNat (qad v))) 5),.str (qaw (sSub v 0 (nNat (qad v))) 5),.int .i64 (qav (sSub v 0 (nNat (qad v))) 5)],.bool (qaD (sSub v 0 (nNat (qad v))) 5)])) .fail) .fail) .fail)
 (.ite (qa7 v (sAt v 0) [58,45] [60,61] [62,61] [33,61] 0 0 [] 0 0 [] 0) (.ret (.tup [.agg [.int .i64 (qbk v (sAt v 0) [58,45] [60,61] [62,61] [33,61] 0 0 [] 0 0 [] 0),.str (qbl v (sAt v 0) [58,45] [60,61] [62,61] [33,61] 0 0 [] 0 0 [] 0),.int .i64 (qaZ v (sAt v 0) [58,45] [60,61] [62,61] [33,61] 0 0 [] 0 0 [] 0),.int .i64 (qaY v (sAt v 0) [58,45] [60,61] [62,61] [33,61] 0 0 [] 0 0 [] 0),.str (qa1 v (sAt v 0) [58,45] [60,61] [62,61] [33,61] 0 0 [] 0 0 [] 0),.int .i64 (qa0 v (sAt v 0) [58,45] [60,61] [62,61] [33,61] 0 0 [] 0 0 [] 0)],.bool (qbm v (sAt v 0) [58,45] [60,61] [62,61] [33,61] 0 0 [] 0 0 [] 0)])) (.ite (qbq v (sAt v 0) [58,45] [60,61] [62,61] [33,61] 0 0 [] 0 0 [] 0) (.ite (qaA true (qak 1) 0 (nNat 1) (nLen (qau v (sAt v 0) [58,45] [60,61] [62,61] [33,61] 0 0 [] 0 0 [] 0))) (.ret (.tup [.agg [.int .i64 6,.str (sSub (qau v (sAt v 0) [58,45] [60,61] [62,61] [33,61] 0 0 [] 0 0 [] 0) 0 (nNat 1)),.int .i64 0,.int .i64 0,.str [],.int .i64 0],.bool (iLe 0 (idxV [40,41,44,46,43,45,61,58,60,62] (qbf v (sAt v 0) [58,45] [60,61] [62,61] [33,61] 0 0 [] 0 0 [] 0)))])) .fail) .fail))))) .fail))) (.ite (iEq (sAt v 0) 95) (.ite (qbK (sAt v 1)) (.ret (.tup [.agg [.int .i64 3,.str [95],.int .i64 0,.int .i64 0,.str [],.int .i64 0],.bool (bNot (qbS (sAt v 1)))])) .fail) (.ite (qa2 (sAt v 0)) (.ite (qa6 (sAt v 0)) (.ite (qaA (qak 1) true (nNat 1) (nLen v) (nLen v)) (.ite (qbD (sSub v (nNat 1) (nLen v))) (.ite (qaA true (qak (iAdd .i64 1 (qaf (sSub v (nNat 1) (nLen v))))) 0 (nNat (iAdd .i64 1 (qaf (sSub v (nNat 1) (nLen v))))) (nLen v)) (.ite (qar (sSub v 0 (nNat (iAdd .i64 1 (qaf (sSub v (nNat 1) (nLen v)))))) 4) (.ret (.tup [.agg [.int .i64 (qaB (sSub v 0 (nNat (iAdd .i64 1 (qaf (sSub v (nNat 1) (nLen v)))))) 4),.str (qaC (sSub v 0 (nNat (iAdd .i64 1 (qaf (sSub v (nNat 1) (nLen v)))))) 4),
 .int .i64 (qay (sSub v 0 (nNat (iAdd .i64 1 (qaf (sSub v (nNat 1) (nLen v)))))) 4),.int .i64 (qat (sSub v 0 (nNat (iAdd .i64 1 (qaf (sSub v (nNat 1) (nLen v)))))) 4),.str (qaw (sSub v 0 (nNat (iAdd .i64 1 (qaf (sSub v (nNat 1) (nLen v)))))) 4),.int .i64 (qav (sSub v 0 (nNat (iAdd .i64 1 (qaf (sSub v (nNat 1) (nLen v)))))) 4)],.bool (qaD (sSub v 0 (nNat (iAdd .i64 1 (qaf (sSub v (nNat 1) (nLen v)))))) 4)])) .fail) .fail) .fail) .fail) (.ite (iEq (sAt v 0) 45) (.ite (qa2 (sAt v 1)) (.ite (qa6 (sAt v 1)) (.ite (qaA (qak 1) true (nNat 1) (nLen v) (nLen v)) (.ite (qbD (sSub v (nNat 1) (nLen v))) (.ite (qaA true (qak (iAdd .i64 1 (qaf (sSub v (nNat 1) (nLen v))))) 0 (nNat (iAdd .i64 1 (qaf (sSub v (nNat 1) (nLen v))))) (nLen v)) (.ite (qar (sSub v 0 (nNat (iAdd .i64 1 (qaf (sSub v (nNat 1) (nLen v)))))) 4) (.ret (.tup [.agg [.int .i64 (qaB (sSub v 0 (nNat (iAdd .i64 1 (qaf (sSub v (nNat 1) (nLen v)))))) 4),.str (qaC (sSub v 0 (nNat (iAdd .i64 1 (qaf (sSub v (nNat 1) (nLen v)))))) 4),.int .i64 (qay (sSub v 0 (nNat (iAdd .i64 1 (qaf (sSub v (nNat 1) (nLen v)))))) 4),.int .i64 (qat (sSub v 0 (nNat (iAdd .i64 1 (qaf (sSub v (nNat 1) (nLen v)))))) 4),.str (qaw (sSub v 0 (nNat (iAdd .i64 1 (qaf (sSub v (nNat 1) (nLen v)))))) 4),.int .i64 (qav (sSub v 0 (nNat (iAdd .i64 1 (qaf (sSub v (nNat 1) (nLen v)))))) 4)],.bool (qaD (sSub v 0 (nNat (iAdd .i64 1 (qaf (sSub v (nNat 1) (nLen v)))))) 4)])) .fail) .fail) .fail) .fail) (.ite (iEq (sAt v 0) 34) (.ite (qbi v) (.ite (qaA true (qak (qad v)) 0 (nNat (qad v)) (nLen v)) (.ite (qar (sSub v 0 (nNat (qad v))) 5) (.ret (.tup [.agg [.int .i64 (qaB (sSub v 0 (nNat (qad v))) 5),.str (qaC (sSub v 0 (nNat (qad v))) 5),
 .int .i64 (qay (sSub v 0 (nNat (qad v))) 5),.int .i64 (qat (sSub v 0 (nNat (qad v))) 5),.str (qaw (sSub v 0 (nNat (qad v))) 5),.int .i64 (qav (sSub v 0 (nNat (qad v))) 5)],.bool (qaD (sSub v 0 (nNat (qad v))) 5)])) .fail) .fail) .fail) (.ite (qa7 v (sAt v 0) [58,45] [60,61] [62,61] [33,61] 0 0 [] 0 0 [] 0) (.ret (.tup [.agg [.int .i64 (qbk v (sAt v 0) [58,45] [60,61] [62,61] [33,61] 0 0 [] 0 0 [] 0),.str (qbl v (sAt v 0) [58,45] [60,61] [62,61] [33,61] 0 0 [] 0 0 [] 0),.int .i64 (qaZ v (sAt v 0) [58,45] [60,61] [62,61] [33,61] 0 0 [] 0 0 [] 0),.int .i64 (qaY v (sAt v 0) [58,45] [60,61] [62,61] [33,61] 0 0 [] 0 0 [] 0),.str (qa1 v (sAt v 0) [58,45] [60,61] [62,61] [33,61] 0 0 [] 0 0 [] 0),.int .i64 (qa0 v (sAt v 0) [58,45] [60,61] [62,61] [33,61] 0 0 [] 0 0 [] 0)],.bool (qbm v (sAt v 0) [58,45] [60,61] [62,61] [33,61] 0 0 [] 0 0 [] 0)])) (.ite (qbq v (sAt v 0) [58,45] [60,61] [62,61] [33,61] 0 0 [] 0 0 [] 0) (.ite (qaA true (qak 1) 0 (nNat 1) (nLen (qau v (sAt v 0) [58,45] [60,61] [62,61] [33,61] 0 0 [] 0 0 [] 0))) (.ret (.tup [.agg [.int .i64 6,.str (sSub (qau v (sAt v 0) [58,45] [60,61] [62,61] [33,61] 0 0 [] 0 0 [] 0) 0 (nNat 1)),.int .i64 0,.int .i64 0,.str [],.int .i64 0],.bool (iLe 0 (idxV [40,41,44,46,43,45,61,58,60,62] (qbf v (sAt v 0) [58,45] [60,61] [62,61] [33,61] 0 0 [] 0 0 [] 0)))])) .fail) .fail)))) .fail) (.ite (iEq (sAt v 0) 34) (.ite (qbi v) (.ite (qaA true (qak (qad v)) 0 (nNat (qad v)) (nLen v)) (.ite (qar (sSub v 0 (nNat (qad v))) 5) (.ret (.tup [.agg [.int .i64 (qaB (sSub v 0 (nNat (qad v))) 5),.str (qaC (sSub v 0 (nNat (qad v))) 5),.int .i64 (qay (sSub v 0 (nNat (qad v))) 5),.int .i64 (qat (sSub v 0 (nNat (qad v))) 5),
 .str (qaw (sSub v 0 (nNat (qad v))) 5),.int .i64 (qav (sSub v 0 (nNat (qad v))) 5)],.bool (qaD (sSub v 0 (nNat (qad v))) 5)])) .fail) .fail) .fail) (.ite (qa7 v (sAt v 0) [58,45] [60,61] [62,61] [33,61] 0 0 [] 0 0 [] 0) (.ret (.tup [.agg [.int .i64 (qbk v (sAt v 0) [58,45] [60,61] [62,61] [33,61] 0 0 [] 0 0 [] 0),.str (qbl v (sAt v 0) [58,45] [60,61] [62,61] [33,61] 0 0 [] 0 0 [] 0),.int .i64 (qaZ v (sAt v 0) [58,45] [60,61] [62,61] [33,61] 0 0 [] 0 0 [] 0),.int .i64 (qaY v (sAt v 0) [58,45] [60,61] [62,61] [33,61] 0 0 [] 0 0 [] 0),.str (qa1 v (sAt v 0) [58,45] [60,61] [62,61] [33,61] 0 0 [] 0 0 [] 0),.int .i64 (qa0 v (sAt v 0) [58,45] [60,61] [62,61] [33,61] 0 0 [] 0 0 [] 0)],.bool (qbm v (sAt v 0) [58,45] [60,61] [62,61] [33,61] 0 0 [] 0 0 [] 0)])) (.ite (qbq v (sAt v 0) [58,45] [60,61] [62,61] [33,61] 0 0 [] 0 0 [] 0) (.ite (qaA true (qak 1) 0 (nNat 1) (nLen (qau v (sAt v 0) [58,45] [60,61] [62,61] [33,61] 0 0 [] 0 0 [] 0))) (.ret (.tup [.agg [.int .i64 6,.str (sSub (qau v (sAt v 0) [58,45] [60,61] [62,61] [33,61] 0 0 [] 0 0 [] 0) 0 (nNat 1)),.int .i64 0,.int .i64 0,.str [],.int .i64 0],.bool (iLe 0 (idxV [40,41,44,46,43,45,61,58,60,62] (qbf v (sAt v 0) [58,45] [60,61] [62,61] [33,61] 0 0 [] 0 0 [] 0)))])) .fail) .fail))))) .fail)))) .fail) (.ite (iLe 97 (sAt v 0)) (.ite (iLe (sAt v 0) 122) (.ite (qdZ v 1) (.ret (.tup [.agg [.int .i64 (qf6 v 1),.str (qfI v 1),.int .i64 (qdS v 1),.int .i64 (qdY v 1),.str (qd0 v 1),.int .i64 (qd1 v 1)],.bool (qfv v 1)])) .fail) (.ite (iLe 65 (sAt v 0)) (.ite (iLe (sAt v 0) 90) (.ite (qdZ v 2) (.ret (.tup [.agg [.int .i64 (qf6 v 2),.str (qfI v 2),.int .i64 (qdS v 2),.int .i64 (qdY v 2),.str (qd0 v 2),.int .i64 (qd1 v 2)],.bool (qfv v 2)])) .fail) (.ite (iEq (sAt v 0) 95) (.ite (qbK 0) (.ret
 (.tup [.agg [.int .i64 3,.str [95],.int .i64 0,.int .i64 0,.str [],.int .i64 0],.bool (bNot (qbS 0))])) .fail) (.ite (qa2 (sAt v 0)) (.ite (qa6 (sAt v 0)) (.ite (qaA (qak 1) true (nNat 1) (nLen v) (nLen v)) (.ite (qbD (sSub v (nNat 1) (nLen v))) (.ite (qaA true (qak (iAdd .i64 1 (qaf (sSub v (nNat 1) (nLen v))))) 0 (nNat (iAdd .i64 1 (qaf (sSub v (nNat 1) (nLen v))))) (nLen v)) (.ite (qar (sSub v 0 (nNat (iAdd .i64 1 (qaf (sSub v (nNat 1) (nLen v)))))) 4) (.ret (.tup [.agg [.int .i64 (qaB (sSub v 0 (nNat (iAdd .i64 1 (qaf (sSub v (nNat 1) (nLen v)))))) 4),.str (qaC (sSub v 0 (nNat (iAdd .i64 1 (qaf (sSub v (nNat 1) (nLen v)))))) 4),.int .i64 (qay (sSub v 0 (nNat (iAdd .i64 1 (qaf (sSub v (nNat 1) (nLen v)))))) 4),.int .i64 (qat (sSub v 0 (nNat (iAdd .i64 1 (qaf (sSub v (nNat 1) (nLen v)))))) 4),.str (qaw (sSub v 0 (nNat (iAdd .i64 1 (qaf (sSub v (nNat 1) (nLen v)))))) 4),.int .i64 (qav (sSub v 0 (nNat (iAdd .i64 1 (qaf (sSub v (nNat 1) (nLen v)))))) 4)],.bool (qaD (sSub v 0 (nNat (iAdd .i64 1 (qaf (sSub v (nNat 1) (nLen v)))))) 4)])) .fail) .fail) .fail) .fail) (.ite (iEq (sAt v 0) 45) (.ite (qa2 0) (.ite (qa6 0) (.ite (qaA (qak 1) true (nNat 1) (nLen v) (nLen v)) (.ite (qbD (sSub v (nNat 1) (nLen v))) (.ite (qaA true (qak (iAdd .i64 1 (qaf (sSub v (nNat 1) (nLen v))))) 0 (nNat (iAdd .i64 1 (qaf (sSub v (nNat 1) (nLen v))))) (nLen v)) (.ite (qar (sSub v 0 (nNat (iAdd .i64 1 (qaf (sSub v (nNat 1) (nLen v)))))) 4) (.ret (.tup [.agg [.int .i64 (qaB (sSub v 0 (nNat (iAdd .i64 1 (qaf (sSub v (nNat 1) (nLen v)))))) 4),.str (qaC (sSub v 0 (nNat (iAdd .i64 1 (qaf (sSub v (nNat 1) (nLen v)))))) 4),.int .i64 (qay (sSub v 0 (nNat (iAdd .i64 1 (qaf (sSub v (nNat 1) (nLen v)))))) 4),
 .int .i64 (qat (sSub v 0 (nNat (iAdd .i64 1 (qaf (sSub v (nNat 1) (nLen v)))))) 4),.str (qaw (sSub v 0 (nNat (iAdd .i64 1 (qaf (sSub v (nNat 1) (nLen v)))))) 4),.int .i64 (qav (sSub v 0 (nNat (iAdd .i64 1 (qaf (sSub v (nNat 1) (nLen v)))))) 4)],.bool (qaD (sSub v 0 (nNat (iAdd .i64 1 (qaf (sSub v (nNat 1) (nLen v)))))) 4)])) .fail) .fail) .fail) .fail) (.ite (iEq (sAt v 0) 34) (.ite (qbi v) (.ite (qaA true (qak (qad v)) 0 (nNat (qad v)) (nLen v)) (.ite (qar (sSub v 0 (nNat (qad v))) 5) (.ret (.tup [.agg [.int .i64 (qaB (sSub v 0 (nNat (qad v))) 5),.str (qaC (sSub v 0 (nNat (qad v))) 5),.int .i64 (qay (sSub v 0 (nNat (qad v))) 5),.int .i64 (qat (sSub v 0 (nNat (qad v))) 5),.str (qaw (sSub v 0 (nNat (qad v))) 5),.int .i64 (qav (sSub v 0 (nNat (qad v))) 5)],.bool (qaD (sSub v 0 (nNat (qad v))) 5)])) .fail) .fail) .fail) (.ite (qa7 v (sAt v 0) [58,45] [60,61] [62,61] [33,61] 0 0 [] 0 0 [] 0) (.ret (.tup [.agg [.int .i64 (qbk v (sAt v 0) [58,45] [60,61] [62,61] [33,61] 0 0 [] 0 0 [] 0),.str (qbl v (sAt v 0) [58,45] [60,61] [62,61] [33,61] 0 0 [] 0 0 [] 0),.int .i64 (qaZ v (sAt v 0) [58,45] [60,61] [62,61] [33,61] 0 0 [] 0 0 [] 0),.int .i64 (qaY v (sAt v 0) [58,45] [60,61] [62,61] [33,61] 0 0 [] 0 0 [] 0),.str (qa1 v (sAt v 0) [58,45] [60,61] [62,61] [33,61] 0 0 [] 0 0 [] 0),.int .i64 (qa0 v (sAt v 0) [58,45] [60,61] [62,61] [33,61] 0 0 [] 0 0 [] 0)],.bool (qbm v (sAt v 0) [58,45] [60,61] [62,61] [33,61] 0 0 [] 0 0 [] 0)])) (.ite (qbq v (sAt v 0) [58,45] [60,61] [62,61] [33,61] 0 0 [] 0 0 [] 0) (.ite (qaA true (qak 1) 0 (nNat 1) (nLen (qau v (sAt v 0) [58,45] [60,61] [62,61] [33,61] 0 0 [] 0 0 [] 0))) (.ret (.tup [.agg
 [.int .i64 6,.str (sSub (qau v (sAt v 0) [58,45] [60,61] [62,61] [33,61] 0 0 [] 0 0 [] 0) 0 (nNat 1)),.int .i64 0,.int .i64 0,.str [],.int .i64 0],.bool (iLe 0 (idxV [40,41,44,46,43,45,61,58,60,62] (qbf v (sAt v 0) [58,45] [60,61] [62,61] [33,61] 0 0 [] 0 0 [] 0)))])) .fail) .fail)))) .fail) (.ite (iEq (sAt v 0) 34) (.ite (qbi v) (.ite (qaA true (qak (qad v)) 0 (nNat (qad v)) (nLen v)) (.ite (qar (sSub v 0 (nNat (qad v))) 5) (.ret (.tup [.agg [.int .i64 (qaB (sSub v 0 (nNat (qad v))) 5),.str (qaC (sSub v 0 (nNat (qad v))) 5),.int .i64 (qay (sSub v 0 (nNat (qad v))) 5),.int .i64 (qat (sSub v 0 (nNat (qad v))) 5),.str (qaw (sSub v 0 (nNat (qad v))) 5),.int .i64 (qav (sSub v 0 (nNat (qad v))) 5)],.bool (qaD (sSub v 0 (nNat (qad v))) 5)])) .fail) .fail) .fail) (.ite (qa7 v (sAt v 0) [58,45] [60,61] [62,61] [33,61] 0 0 [] 0 0 [] 0) (.ret (.tup [.agg [.int .i64 (qbk v (sAt v 0) [58,45] [60,61] [62,61] [33,61] 0 0 [] 0 0 [] 0),.str (qbl v (sAt v 0) [58,45] [60,61] [62,61] [33,61] 0 0 [] 0 0 [] 0),.int .i64 (qaZ v (sAt v 0) [58,45] [60,61] [62,61] [33,61] 0 0 [] 0 0 [] 0),.int .i64 (qaY v (sAt v 0) [58,45] [60,61] [62,61] [33,61] 0 0 [] 0 0 [] 0),.str (qa1 v (sAt v 0) [58,45] [60,61] [62,61] [33,61] 0 0 [] 0 0 [] 0),.int .i64 (qa0 v (sAt v 0) [58,45] [60,61] [62,61] [33,61] 0 0 [] 0 0 [] 0)],.bool (qbm v (sAt v 0) [58,45] [60,61] [62,61] [33,61] 0 0 [] 0 0 [] 0)])) (.ite (qbq v (sAt v 0) [58,45] [60,61] [62,61] [33,61] 0 0 [] 0 0 [] 0) (.ite (qaA true (qak 1) 0 (nNat 1) (nLen (qau v (sAt v 0) [58,45] [60,61] [62,61] [33,61] 0 0 [] 0 0 [] 0))) (.ret (.tup [.agg [.int .i64 6,.str (sSub (qau v (sAt v 0) [58,45] [60,61] [62,61] [33,61] 0 0 [] 0 0 [] 0) 0 (nNat 1)),.int .i64 0,.int .i64 0,.str [],.int .i64 0],
 .bool (iLe 0 (idxV [40,41,44,46,43,45,61,58,60,62] (qbf v (sAt v 0) [58,45] [60,61] [62,61] [33,61] 0 0 [] 0 0 [] 0)))])) .fail) .fail))))) .fail))) (.ite (iEq (sAt v 0) 95) (.ite (qbK 0) (.ret (.tup [.agg [.int .i64 3,.str [95],.int .i64 0,.int .i64 0,.str [],.int .i64 0],.bool (bNot (qbS 0))])) .fail) (.ite (qa2 (sAt v 0)) (.ite (qa6 (sAt v 0)) (.ite (qaA (qak 1) true (nNat 1) (nLen v) (nLen v)) (.ite (qbD (sSub v (nNat 1) (nLen v))) (.ite (qaA true (qak (iAdd .i64 1 (qaf (sSub v (nNat 1) (nLen v))))) 0 (nNat (iAdd .i64 1 (qaf (sSub v (nNat 1) (nLen v))))) (nLen v)) (.ite (qar (sSub v 0 (nNat (iAdd .i64 1 (qaf (sSub v (nNat 1) (nLen v)))))) 4) (.ret (.tup [.agg [.int .i64 (qaB (sSub v 0 (nNat (iAdd .i64 1 (qaf (sSub v (nNat 1) (nLen v)))))) 4),.str (qaC (sSub v 0 (nNat (iAdd .i64 1 (qaf (sSub v (nNat 1) (nLen v)))))) 4),.int .i64 (qay (sSub v 0 (nNat (iAdd .i64 1 (qaf (sSub v (nNat 1) (nLen v)))))) 4),.int .i64 (qat (sSub v 0 (nNat (iAdd .i64 1 (qaf (sSub v (nNat 1) (nLen v)))))) 4),.str (qaw (sSub v 0 (nNat (iAdd .i64 1 (qaf (sSub v (nNat 1) (nLen v)))))) 4),.int .i64 (qav (sSub v 0 (nNat (iAdd .i64 1 (qaf (sSub v (nNat 1) (nLen v)))))) 4)],.bool (qaD (sSub v 0 (nNat (iAdd .i64 1 (qaf (sSub v (nNat 1) (nLen v)))))) 4)])) .fail) .fail) .fail) .fail) (.ite (iEq (sAt v 0) 45) (.ite (qa2 0) (.ite (qa6 0) (.ite (qaA (qak 1) true (nNat 1) (nLen v) (nLen v)) (.ite (qbD (sSub v (nNat 1) (nLen v))) (.ite (qaA true (qak (iAdd .i64 1 (qaf (sSub v (nNat 1) (nLen v))))) 0 (nNat (iAdd .i64 1 (qaf (sSub v (nNat 1) (nLen v))))) (nLen v)) (.ite (qar (sSub v 0 (nNat (iAdd .i64 1 (qaf (sSub v (nNat 1) (nLen v)))))) 4) (.ret (.tup [.agg [.int .i64 (qaB (sSub v 0 (nNat (iAdd .i64 1 (qaf (sSub v (nNat 1) (nLen v)))))) 4),
 .str (qaC (sSub v 0 (nNat (iAdd .i64 1 (qaf (sSub v (nNat 1) (nLen v)))))) 4),.int .i64 (qay (sSub v 0 (nNat (iAdd .i64 1 (qaf (sSub v (nNat 1) (nLen v)))))) 4),.int .i64 (qat (sSub v 0 (nNat (iAdd .i64 1 (qaf (sSub v (nNat 1) (nLen v)))))) 4),.str (qaw (sSub v 0 (nNat (iAdd .i64 1 (qaf (sSub v (nNat 1) (nLen v)))))) 4),.int .i64 (qav (sSub v 0 (nNat (iAdd .i64 1 (qaf (sSub v (nNat 1) (nLen v)))))) 4)],.bool (qaD (sSub v 0 (nNat (iAdd .i64 1 (qaf (sSub v (nNat 1) (nLen v)))))) 4)])) .fail) .fail) .fail) .fail) (.ite (iEq (sAt v 0) 34) (.ite (qbi v) (.ite (qaA true (qak (qad v)) 0 (nNat (qad v)) (nLen v)) (.ite (qar (sSub v 0 (nNat (qad v))) 5) (.ret (.tup [.agg [.int .i64 (qaB (sSub v 0 (nNat (qad v))) 5),.str (qaC (sSub v 0 (nNat (qad v))) 5),.int .i64 (qay (sSub v 0 (nNat (qad v))) 5),.int .i64 (qat (sSub v 0 (nNat (qad v))) 5),.str (qaw (sSub v 0 (nNat (qad v))) 5),.int .i64 (qav (sSub v 0 (nNat (qad v))) 5)],.bool (qaD (sSub v 0 (nNat (qad v))) 5)])) .fail) .fail) .fail) (.ite (qa7 v (sAt v 0) [58,45] [60,61] [62,61] [33,61] 0 0 [] 0 0 [] 0) (.ret (.tup [.agg [.int .i64 (qbk v (sAt v 0) [58,45] [60,61] [62,61] [33,61] 0 0 [] 0 0 [] 0),.str (qbl v (sAt v 0) [58,45] [60,61] [62,61] [33,61] 0 0 [] 0 0 [] 0),.int .i64 (qaZ v (sAt v 0) [58,45] [60,61] [62,61] [33,61] 0 0 [] 0 0 [] 0),.int .i64 (qaY v (sAt v 0) [58,45] [60,61] [62,61] [33,61] 0 0 [] 0 0 [] 0),.str (qa1 v (sAt v 0) [58,45] [60,61] [62,61] [33,61] 0 0 [] 0 0 [] 0),.int .i64 (qa0 v (sAt v 0) [58,45] [60,61] [62,61] [33,61] 0 0 [] 0 0 [] 0)],.bool (qbm v (sAt v 0) [58,45] [60,61] [62,61] [33,61] 0 0 [] 0 0 [] 0)])) (.ite (qbq v (sAt v 0) [58,45] [60,61] [62,61] [33,61] 0 0 [] 0 0 [] 0)
 (.ite (qaA true (qak 1) 0 (nNat 1) (nLen (qau v (sAt v 0) [58,45] [60,61] [62,61] [33,61] 0 0 [] 0 0 [] 0))) (.ret (.tup [.agg [.int .i64 6,.str (sSub (qau v (sAt v 0) [58,45] [60,61] [62,61] [33,61] 0 0 [] 0 0 [] 0) 0 (nNat 1)),.int .i64 0,.int .i64 0,.str [],.int .i64 0],.bool (iLe 0 (idxV [40,41,44,46,43,45,61,58,60,62] (qbf v (sAt v 0) [58,45] [60,61] [62,61] [33,61] 0 0 [] 0 0 [] 0)))])) .fail) .fail)))) .fail) (.ite (iEq (sAt v 0) 34) (.ite (qbi v) (.ite (qaA true (qak (qad v)) 0 (nNat (qad v)) (nLen v)) (.ite (qar (sSub v 0 (nNat (qad v))) 5) (.ret (.tup [.agg [.int .i64 (qaB (sSub v 0 (nNat (qad v))) 5),.str (qaC (sSub v 0 (nNat (qad v))) 5),.int .i64 (qay (sSub v 0 (nNat (qad v))) 5),.int .i64 (qat (sSub v 0 (nNat (qad v))) 5),.str (qaw (sSub v 0 (nNat (qad v))) 5),.int .i64 (qav (sSub v 0 (nNat (qad v))) 5)],.bool (qaD (sSub v 0 (nNat (qad v))) 5)])) .fail) .fail) .fail) (.ite (qa7 v (sAt v 0) [58,45] [60,61] [62,61] [33,61] 0 0 [] 0 0 [] 0) (.ret (.tup [.agg [.int .i64 (qbk v (sAt v 0) [58,45] [60,61] [62,61] [33,61] 0 0 [] 0 0 [] 0),.str (qbl v (sAt v 0) [58,45] [60,61] [62,61] [33,61] 0 0 [] 0 0 [] 0),.int .i64 (qaZ v (sAt v 0) [58,45] [60,61] [62,61] [33,61] 0 0 [] 0 0 [] 0),.int .i64 (qaY v (sAt v 0) [58,45] [60,61] [62,61] [33,61] 0 0 [] 0 0 [] 0),.str (qa1 v (sAt v 0) [58,45] [60,61] [62,61] [33,61] 0 0 [] 0 0 [] 0),.int .i64 (qa0 v (sAt v 0) [58,45] [60,61] [62,61] [33,61] 0 0 [] 0 0 [] 0)],.bool (qbm v (sAt v 0) [58,45] [60,61] [62,61] [33,61] 0 0 [] 0 0 [] 0)])) (.ite (qbq v (sAt v 0) [58,45] [60,61] [62,61] [33,61] 0 0 [] 0 0 [] 0) (.ite (qaA true (qak 1) 0 (nNat 1) (nLen (qau v (sAt v 0) [58,45] [60,61] [62,61] [33,61] 0 0 [] 0 0 [] 0))) (.ret (.tup [.agg
 [.int .i64 6,.str (sSub (qau v (sAt v 0) [58,45] [60,61] [62,61] [33,61] 0 0 [] 0 0 [] 0) 0 (nNat 1)),.int .i64 0,.int .i64 0,.str [],.int .i64 0],.bool (iLe 0 (idxV [40,41,44,46,43,45,61,58,60,62] (qbf v (sAt v 0) [58,45] [60,61] [62,61] [33,61] 0 0 [] 0 0 [] 0)))])) .fail) .fail))))) .fail)))) (.ite (iLe 65 (sAt v 0)) (.ite (iLe (sAt v 0) 90) (.ite (qdZ v 2) (.ret (.tup [.agg [.int .i64 (qf6 v 2),.str (qfI v 2),.int .i64 (qdS v 2),.int .i64 (qdY v 2),.str (qd0 v 2),.int .i64 (qd1 v 2)],.bool (qfv v 2)])) .fail) (.ite (iEq (sAt v 0) 95) (.ite (qbK 0) (.ret (.tup [.agg [.int .i64 3,.str [95],.int .i64 0,.int .i64 0,.str [],.int .i64 0],.bool (bNot (qbS 0))])) .fail) (.ite (qa2 (sAt v 0)) (.ite (qa6 (sAt v 0)) (.ite (qaA (qak 1) true (nNat 1) (nLen v) (nLen v)) (.ite (qbD (sSub v (nNat 1) (nLen v))) (.ite (qaA true (qak (iAdd .i64 1 (qaf (sSub v (nNat 1) (nLen v))))) 0 (nNat (iAdd .i64 1 (qaf (sSub v (nNat 1) (nLen v))))) (nLen v)) (.ite (qar (sSub v 0 (nNat (iAdd .i64 1 (qaf (sSub v (nNat 1) (nLen v)))))) 4) (.ret (.tup [.agg [.int .i64 (qaB (sSub v 0 (nNat (iAdd .i64 1 (qaf (sSub v (nNat 1) (nLen v)))))) 4),.str (qaC (sSub v 0 (nNat (iAdd .i64 1 (qaf (sSub v (nNat 1) (nLen v)))))) 4),.int .i64 (qay (sSub v 0 (nNat (iAdd .i64 1 (qaf (sSub v (nNat 1) (nLen v)))))) 4),.int .i64 (qat (sSub v 0 (nNat (iAdd .i64 1 (qaf (sSub v (nNat 1) (nLen v)))))) 4),.str (qaw (sSub v 0 (nNat (iAdd .i64 1 (qaf (sSub v (nNat 1) (nLen v)))))) 4),.int .i64 (qav (sSub v 0 (nNat (iAdd .i64 1 (qaf (sSub v (nNat 1) (nLen v)))))) 4)],.bool (qaD (sSub v 0 (nNat (iAdd .i64 1 (qaf (sSub v (nNat 1) (nLen v)))))) 4)])) .fail) .fail) .fail) .fail) (.ite (iEq (sAt v 0) 45) (.ite (qa2 0) (.ite (qa6 0) (.ite (qaA (qak 1) true (nNat 1) (nLen v) (nLen v))
 (.ite (qbD (sSub v (nNat 1) (nLen v))) (.ite (qaA true (qak (iAdd .i64 1 (qaf (sSub v (nNat 1) (nLen v))))) 0 (nNat (iAdd .i64 1 (qaf (sSub v (nNat 1) (nLen v))))) (nLen v)) (.ite (qar (sSub v 0 (nNat (iAdd .i64 1 (qaf (sSub v (nNat 1) (nLen v)))))) 4) (.ret (.tup [.agg [.int .i64 (qaB (sSub v 0 (nNat (iAdd .i64 1 (qaf (sSub v (nNat 1) (nLen v)))))) 4),.str (qaC (sSub v 0 (nNat (iAdd .i64 1 (qaf (sSub v (nNat 1) (nLen v)))))) 4),.int .i64 (qay (sSub v 0 (nNat (iAdd .i64 1 (qaf (sSub v (nNat 1) (nLen v)))))) 4),.int .i64 (qat (sSub v 0 (nNat (iAdd .i64 1 (qaf (sSub v (nNat 1) (nLen v)))))) 4),.str (qaw (sSub v 0 (nNat (iAdd .i64 1 (qaf (sSub v (nNat 1) (nLen v)))))) 4),.int .i64 (qav (sSub v 0 (nNat (iAdd .i64 1 (qaf (sSub v (nNat 1) (nLen v)))))) 4)],.bool (qaD (sSub v 0 (nNat (iAdd .i64 1 (qaf (sSub v (nNat 1) (nLen v)))))) 4)])) .fail) .fail) .fail) .fail) (.ite (iEq (sAt v 0) 34) (.ite (qbi v) (.ite (qaA true (qak (qad v)) 0 (nNat (qad v)) (nLen v)) (.ite (qar (sSub v 0 (nNat (qad v))) 5) (.ret (.tup [.agg [.int .i64 (qaB (sSub v 0 (nNat (qad v))) 5),.str (qaC (sSub v 0 (nNat (qad v))) 5),.int .i64 (qay (sSub v 0 (nNat (qad v))) 5),.int .i64 (qat (sSub v 0 (nNat (qad v))) 5),.str (qaw (sSub v 0 (nNat (qad v))) 5),.int .i64 (qav (sSub v 0 (nNat (qad v))) 5)],.bool (qaD (sSub v 0 (nNat (qad v))) 5)])) .fail) .fail) .fail) (.ite (qa7 v (sAt v 0) [58,45] [60,61] [62,61] [33,61] 0 0 [] 0 0 [] 0) (.ret (.tup [.agg [.int .i64 (qbk v (sAt v 0) [58,45] [60,61] [62,61] [33,61] 0 0 [] 0 0 [] 0),.str (qbl v (sAt v 0) [58,45] [60,61] [62,61] [33,61] 0 0 [] 0 0 [] 0),.int .i64 (qaZ v (sAt v 0) [58,45] [60,61] [62,61] [33,61] 0 0 [] 0 0 [] 0),
 .int .i64 (qaY v (sAt v 0) [58,45] [60,61] [62,61] [33,61] 0 0 [] 0 0 [] 0),.str (qa1 v (sAt v 0) [58,45] [60,61] [62,61] [33,61] 0 0 [] 0 0 [] 0),.int .i64 (qa0 v (sAt v 0) [58,45] [60,61] [62,61] [33,61] 0 0 [] 0 0 [] 0)],.bool (qbm v (sAt v 0) [58,45] [60,61] [62,61] [33,61] 0 0 [] 0 0 [] 0)])) (.ite (qbq v (sAt v 0) [58,45] [60,61] [62,61] [33,61] 0 0 [] 0 0 [] 0) (.ite (qaA true (qak 1) 0 (nNat 1) (nLen (qau v (sAt v 0) [58,45] [60,61] [62,61] [33,61] 0 0 [] 0 0 [] 0))) (.ret (.tup [.agg [.int .i64 6,.str (sSub (qau v (sAt v 0) [58,45] [60,61] [62,61] [33,61] 0 0 [] 0 0 [] 0) 0 (nNat 1)),.int .i64 0,.int .i64 0,.str [],.int .i64 0],.bool (iLe 0 (idxV [40,41,44,46,43,45,61,58,60,62] (qbf v (sAt v 0) [58,45] [60,61] [62,61] [33,61] 0 0 [] 0 0 [] 0)))])) .fail) .fail)))) .fail) (.ite (iEq (sAt v 0) 34) (.ite (qbi v) (.ite (qaA true (qak (qad v)) 0 (nNat (qad v)) (nLen v)) (.ite (qar (sSub v 0 (nNat (qad v))) 5) (.ret (.tup [.agg [.int .i64 (qaB (sSub v 0 (nNat (qad v))) 5),.str (qaC (sSub v 0 (nNat (qad v))) 5),.int .i64 (qay (sSub v 0 (nNat (qad v))) 5),.int .i64 (qat (sSub v 0 (nNat (qad v))) 5),.str (qaw (sSub v 0 (nNat (qad v))) 5),.int .i64 (qav (sSub v 0 (nNat (qad v))) 5)],.bool (qaD (sSub v 0 (nNat (qad v))) 5)])) .fail) .fail) .fail) (.ite (qa7 v (sAt v 0) [58,45] [60,61] [62,61] [33,61] 0 0 [] 0 0 [] 0) (.ret (.tup [.agg [.int .i64 (qbk v (sAt v 0) [58,45] [60,61] [62,61] [33,61] 0 0 [] 0 0 [] 0),.str (qbl v (sAt v 0) [58,45] [60,61] [62,61] [33,61] 0 0 [] 0 0 [] 0),.int .i64 (qaZ v (sAt v 0) [58,45] [60,61] [62,61] [33,61] 0 0 [] 0 0 [] 0),.int .i64 (qaY v (sAt v 0) [58,45] [60,61] [62,61] [33,61] 0 0 [] 0 0 [] 0),.str (qa1 v (sAt v 0) [58,45] [60,61] [62,61] [33,61] 0 0 [] 0 0 [] 0),
 .int .i64 (qa0 v (sAt v 0) [58,45] [60,61] [62,61] [33,61] 0 0 [] 0 0 [] 0)],.bool (qbm v (sAt v 0) [58,45] [60,61] [62,61] [33,61] 0 0 [] 0 0 [] 0)])) (.ite (qbq v (sAt v 0) [58,45] [60,61] [62,61] [33,61] 0 0 [] 0 0 [] 0) (.ite (qaA true (qak 1) 0 (nNat 1) (nLen (qau v (sAt v 0) [58,45] [60,61] [62,61] [33,61] 0 0 [] 0 0 [] 0))) (.ret (.tup [.agg [.int .i64 6,.str (sSub (qau v (sAt v 0) [58,45] [60,61] [62,61] [33,61] 0 0 [] 0 0 [] 0) 0 (nNat 1)),.int .i64 0,.int .i64 0,.str [],.int .i64 0],.bool (iLe 0 (idxV [40,41,44,46,43,45,61,58,60,62] (qbf v (sAt v 0) [58,45] [60,61] [62,61] [33,61] 0 0 [] 0 0 [] 0)))])) .fail) .fail))))) .fail))) (.ite (iEq (sAt v 0) 95) (.ite (qbK 0) (.ret (.tup [.agg [.int .i64 3,.str [95],.int .i64 0,.int .i64 0,.str [],.int .i64 0],.bool (bNot (qbS 0))])) .fail) (.ite (qa2 (sAt v 0)) (.ite (qa6 (sAt v 0)) (.ite (qaA (qak 1) true (nNat 1) (nLen v) (nLen v)) (.ite (qbD (sSub v (nNat 1) (nLen v))) (.ite (qaA true (qak (iAdd .i64 1 (qaf (sSub v (nNat 1) (nLen v))))) 0 (nNat (iAdd .i64 1 (qaf (sSub v (nNat 1) (nLen v))))) (nLen v)) (.ite (qar (sSub v 0 (nNat (iAdd .i64 1 (qaf (sSub v (nNat 1) (nLen v)))))) 4) (.ret (.tup [.agg [.int .i64 (qaB (sSub v 0 (nNat (iAdd .i64 1 (qaf (sSub v (nNat 1) (nLen v)))))) 4),.str (qaC (sSub v 0 (nNat (iAdd .i64 1 (qaf (sSub v (nNat 1) (nLen v)))))) 4),.int .i64 (qay (sSub v 0 (nNat (iAdd .i64 1 (qaf (sSub v (nNat 1) (nLen v)))))) 4),.int .i64 (qat (sSub v 0 (nNat (iAdd .i64 1 (qaf (sSub v (nNat 1) (nLen v)))))) 4),.str (qaw (sSub v 0 (nNat (iAdd .i64 1 (qaf (sSub v (nNat 1) (nLen v)))))) 4),.int .i64 (qav (sSub v 0 (nNat (iAdd .i64 1 (qaf (sSub v (nNat 1) (nLen v)))))) 4)],.bool (qaD (sSub v 0 (nNat (iAdd .i64 1 (qaf (sSub v (nNat 1) (nLen v)))))) 4)])) .fail) .fail) .fail) .fail) (.ite (iEq (sAt v 0) 45)
 (.ite (qa2 0) (.ite (qa6 0) (.ite (qaA (qak 1) true (nNat 1) (nLen v) (nLen v)) (.ite (qbD (sSub v (nNat 1) (nLen v))) (.ite (qaA true (qak (iAdd .i64 1 (qaf (sSub v (nNat 1) (nLen v))))) 0 (nNat (iAdd .i64 1 (qaf (sSub v (nNat 1) (nLen v))))) (nLen v)) (.ite (qar (sSub v 0 (nNat (iAdd .i64 1 (qaf (sSub v (nNat 1) (nLen v)))))) 4) (.ret (.tup [.agg [.int .i64 (qaB (sSub v 0 (nNat (iAdd .i64 1 (qaf (sSub v (nNat 1) (nLen v)))))) 4),.str (qaC (sSub v 0 (nNat (iAdd .i64 1 (qaf (sSub v (nNat 1) (nLen v)))))) 4),.int .i64 (qay (sSub v 0 (nNat (iAdd .i64 1 (qaf (sSub v (nNat 1) (nLen v)))))) 4),.int .i64 (qat (sSub v 0 (nNat (iAdd .i64 1 (qaf (sSub v (nNat 1) (nLen v)))))) 4),.str (qaw (sSub v 0 (nNat (iAdd .i64 1 (qaf (sSub v (nNat 1) (nLen v)))))) 4),.int .i64 (qav (sSub v 0 (nNat (iAdd .i64 1 (qaf (sSub v (nNat 1) (nLen v)))))) 4)],.bool (qaD (sSub v 0 (nNat (iAdd .i64 1 (qaf (sSub v (nNat 1) (nLen v)))))) 4)])) .fail) .fail) .fail) .fail) (.ite (iEq (sAt v 0) 34) (.ite (qbi v) (.ite (qaA true (qak (qad v)) 0 (nNat (qad v)) (nLen v)) (.ite (qar (sSub v 0 (nNat (qad v))) 5) (.ret (.tup [.agg [.int .i64 (qaB (sSub v 0 (nNat (qad v))) 5),.str (qaC (sSub v 0 (nNat (qad v))) 5),.int .i64 (qay (sSub v 0 (nNat (qad v))) 5),.int .i64 (qat (sSub v 0 (nNat (qad v))) 5),.str (qaw (sSub v 0 (nNat (qad v))) 5),.int .i64 (qav (sSub v 0 (nNat (qad v))) 5)],.bool (qaD (sSub v 0 (nNat (qad v))) 5)])) .fail) .fail) .fail) (.ite (qa7 v (sAt v 0) [58,45] [60,61] [62,61] [33,61] 0 0 [] 0 0 [] 0) (.ret (.tup [.agg [.int .i64 (qbk v (sAt v 0) [58,45] [60,61] [62,61] [33,61] 0 0 [] 0 0 [] 0),.str (qbl v (sAt v 0) [58,45] [60,61] [62,61] [33,61] 0 0 [] 0 0 [] 0),
 .int .i64 (qaZ v (sAt v 0) [58,45] [60,61] [62,61] [33,61] 0 0 [] 0 0 [] 0),.int .i64 (qaY v (sAt v 0) [58,45] [60,61] [62,61] [33,61] 0 0 [] 0 0 [] 0),.str (qa1 v (sAt v 0) [58,45] [60,61] [62,61] [33,61] 0 0 [] 0 0 [] 0),.int .i64 (qa0 v (sAt v 0) [58,45] [60,61] [62,61] [33,61] 0 0 [] 0 0 [] 0)],.bool (qbm v (sAt v 0) [58,45] [60,61] [62,61] [33,61] 0 0 [] 0 0 [] 0)])) (.ite (qbq v (sAt v 0) [58,45] [60,61] [62,61] [33,61] 0 0 [] 0 0 [] 0) (.ite (qaA true (qak 1) 0 (nNat 1) (nLen (qau v (sAt v 0) [58,45] [60,61] [62,61] [33,61] 0 0 [] 0 0 [] 0))) (.ret (.tup [.agg [.int .i64 6,.str (sSub (qau v (sAt v 0) [58,45] [60,61] [62,61] [33,61] 0 0 [] 0 0 [] 0) 0 (nNat 1)),.int .i64 0,.int .i64 0,.str [],.int .i64 0],.bool (iLe 0 (idxV [40,41,44,46,43,45,61,58,60,62] (qbf v (sAt v 0) [58,45] [60,61] [62,61] [33,61] 0 0 [] 0 0 [] 0)))])) .fail) .fail)))) .fail) (.ite (iEq (sAt v 0) 34) (.ite (qbi v) (.ite (qaA true (qak (qad v)) 0 (nNat (qad v)) (nLen v)) (.ite (qar (sSub v 0 (nNat (qad v))) 5) (.ret (.tup [.agg [.int .i64 (qaB (sSub v 0 (nNat (qad v))) 5),.str (qaC (sSub v 0 (nNat (qad v))) 5),.int .i64 (qay (sSub v 0 (nNat (qad v))) 5),.int .i64 (qat (sSub v 0 (nNat (qad v))) 5),.str (qaw (sSub v 0 (nNat (qad v))) 5),.int .i64 (qav (sSub v 0 (nNat (qad v))) 5)],.bool (qaD (sSub v 0 (nNat (qad v))) 5)])) .fail) .fail) .fail) (.ite (qa7 v (sAt v 0) [58,45] [60,61] [62,61] [33,61] 0 0 [] 0 0 [] 0) (.ret (.tup [.agg [.int .i64 (qbk v (sAt v 0) [58,45] [60,61] [62,61] [33,61] 0 0 [] 0 0 [] 0),.str (qbl v (sAt v 0) [58,45] [60,61] [62,61] [33,61] 0 0 [] 0 0 [] 0),.int .i64 (qaZ v (sAt v 0) [58,45] [60,61] [62,61] [33,61] 0 0 [] 0 0 [] 0),.int .i64 (qaY v (sAt v 0) [58,45] [60,61] [62,61] [33,61] 0 0 [] 0 0 [] 0),
 .str (qa1 v (sAt v 0) [58,45] [60,61] [62,61] [33,61] 0 0 [] 0 0 [] 0),.int .i64 (qa0 v (sAt v 0) [58,45] [60,61] [62,61] [33,61] 0 0 [] 0 0 [] 0)],.bool (qbm v (sAt v 0) [58,45] [60,61] [62,61] [33,61] 0 0 [] 0 0 [] 0)])) (.ite (qbq v (sAt v 0) [58,45] [60,61] [62,61] [33,61] 0 0 [] 0 0 [] 0) (.ite (qaA true (qak 1) 0 (nNat 1) (nLen (qau v (sAt v 0) [58,45] [60,61] [62,61] [33,61] 0 0 [] 0 0 [] 0))) (.ret (.tup [.agg [.int .i64 6,.str (sSub (qau v (sAt v 0) [58,45] [60,61] [62,61] [33,61] 0 0 [] 0 0 [] 0) 0 (nNat 1)),.int .i64 0,.int .i64 0,.str [],.int .i64 0],.bool (iLe 0 (idxV [40,41,44,46,43,45,61,58,60,62] (qbf v (sAt v 0) [58,45] [60,61] [62,61] [33,61] 0 0 [] 0 0 [] 0)))])) .fail) .fail))))) .fail))))) .fail
theorem qK4 (v:List UInt8):(tcall tbT qqn qyF Tryz.f141 [.str v]).flat=qff v:=by kernel_rfl
noncomputable def qbV (v:List UInt8):Option PV:=(qff v).run
noncomputable def qcb (v:List UInt8):Int:=(gInt (gAt (gCs (gAt (gCs (gVal (qbV v))) 0)) 0))
noncomputable def qa8 (v:List UInt8):List UInt8:=(gStr (gAt (gCs (gAt (gCs (gVal (qbV v))) 0)) 1))
noncomputable def qbN (v:List UInt8):Int:=(gInt (gAt (gCs (gAt (gCs (gVal (qbV v))) 0)) 2))
noncomputable def qbM (v:List UInt8):Int:=(gInt (gAt (gCs (gAt (gCs (gVal (qbV v))) 0)) 3))
noncomputable def qbO (v:List UInt8):List UInt8:=(gStr (gAt (gCs (gAt (gCs (gVal (qbV v))) 0)) 4))
noncomputable def qtN (v:List UInt8):Int:=(gInt (gAt (gCs (gAt (gCs (gVal (qbV v))) 0)) 5))
noncomputable def qfu (v:List UInt8):Bool:=(qb0 (gAt (gCs (gVal (qbV v))) 1))
noncomputable def qix (v:List UInt8):Bool:=isW (qbV v) (.tup [.agg [.int .i64 (qcb v),.str (qa8 v),.int .i64 (qbN v),.int .i64 (qbM v),.str (qbO v),.int .i64 (qtN v)],.bool (qfu v)])
noncomputable def qy4:List PV→Tr PV | [.str v]=>.ite (qix v) (.ret (.tup [.agg [.int .i64 (qcb v),.str (qa8 v),.int .i64 (qbN v),.int .i64 (qbM v),.str (qbO v),.int .i64 (qtN v)],.bool (qfu v)])) (.fail) | _=>.fail
theorem qFB (gl:Gl) (hg:GlLex gl):SimP Tryz.prog gl 141 fun args=>(qy4 args).run:=by
 refine SimP.of_flat (G:=qqn) (L:=qyF) qaj (qwT gl hg ) qah Tryz.func141 rfl (by rfl) (by kernel_rfl) (qaX (L:=lps qyF) [(16,qn6)] (by kernel_rfl) (List.forall_mem_cons.2 ⟨fun fr σ e fr' σ' h=>qxf gl hg  fr σ e fr' σ' h,(List.forall_mem_nil _)⟩)) ?_
 intro args x h
 unfold qy4 at h
 split at h
 ·exact (congrArg Tr.run (qK4 _)).trans (qai h fun h=>by cases h)
 ·cases h
end Go.Pv
set_option maxHeartbeats 4000000
set_option maxRecDepth 200000
set_option linter.unusedSimpArgs false
set_option linter.unusedVariables false
namespace Go.Pv
open Go Go.Proofs Go.RowKit
def smI (c:Int):Bool:=decide (97≤c) && decide (c≤122)
def grI (c:Int):Bool:=decide (65≤c) && decide (c≤90)
def dgI (c:Int):Bool:=decide (48≤c) && decide (c≤57)
def inI (c:Int):Bool:=smI c || grI c || dgI c || decide (c=95)
theorem qAL (b:UInt8):smI (b.toNat:Int)=qfG b:=by unfold smI qfG; congr 1 <;> (apply decide_eq_decide.2; omega)
theorem qBc (b:UInt8):grI (b.toNat:Int)=qiU b:=by unfold grI qiU; congr 1 <;> (apply decide_eq_decide.2; omega)
theorem qdU (b:UInt8):dgI (b.toNat:Int)=qaW b:=by unfold dgI qaW; congr 1 <;> (apply decide_eq_decide.2; omega)
theorem qma (b:UInt8):inI (b.toNat:Int)=innB b:=by
 unfold inI innB
 rw [qAL,qBc,qdU]
 congr 1
 apply decide_eq_decide.2
 omega
theorem qs1 (c:Int):qoT c=some (.bool (dgI c)):=by
 unfold qoT qqr dgI
 by_cases h:(48:Int)≤c <;> simp [h]
@[simp] theorem qdW (c:Int):qa2 c=true:=by simp [qa2,qa6,qs1]
@[simp] theorem ldigit_v (c:Int):qa6 c=dgI c:=by simp [qa6,qs1]
theorem qnM (c:Int):qjH c=some (.bool (inI c)):=by
 unfold qjH qkU inI smI grI
 by_cases h1:(97:Int)≤c <;> by_cases h2:c≤122 <;> by_cases h3:(65:Int)≤c <;> by_cases h4:c≤90 <;> by_cases h5:c=95 <;> simp [h1,h2,h3,h4,h5]
@[simp] theorem lfollows_is (c:Int):qbK c=true:=by simp [qbK,qbS,qnM]
@[simp] theorem lfollows_v (c:Int):qbS c=inI c:=by simp [qbS,qnM]
theorem qF9 (s:List UInt8) (hs:s.length < 9223372036854775807):∀ (m i:Nat),i+m=s.length→qf3 [.str s,.fn 155 [],.int .i64 (i:Nat)] ⟨[],[],[]⟩=some (.exit 0,[.int .i64 ((i+runL innB (s.drop i):Nat):Int)],⟨[],[],[]⟩):=by
 intro m
 induction m with
 | zero =>
  intro i hi
  rw [qDf,List.drop_eq_nil_of_le (by omega)]
  have:¬ (i:Int) < s.length:=by omega
  simp [qls,runL,this]
 | succ m ih =>
  intro i hi
  obtain ⟨b,hb⟩:=qe3 (l:=s) (i:=i) (by omega)
  have hbe:=(List.getElem?_eq_some_iff.1 hb).2
  have w:=qbj (i:=i) (by omega)
  have hlt:i < s.length:=by omega
  have h1:=ih (i+1) (by omega)
  rw [qbx hb,qDf]
  cases hc:innB b with
  | true =>
   have e:i+(runL innB (s.drop (i+1))+1)=i+1+runL innB (s.drop (i+1)):=by omega
   simp only [runL,hc,if_true,e]
   rw [← h1]
   simp [qls,hlt,hbe,qma,hc,w]
  | false=>simp [qls,hlt,hbe,qma,hc,runL]
theorem qCd (s:List UInt8) (hs:s.length < 9223372036854775807):∀ (m i:Nat),i+m=s.length→qf3 [.str s,.fn 156 [],.int .i64 (i:Nat)] ⟨[],[],[]⟩=some (.exit 0,[.int .i64 ((i+runL qaW (s.drop i):Nat):Int)],⟨[],[],[]⟩):=by
 intro m
 induction m with
 | zero =>
  intro i hi
  rw [qBe,List.drop_eq_nil_of_le (by omega)]
  have:¬ (i:Int) < s.length:=by omega
  simp [qiF,runL,this]
 | succ m ih =>
  intro i hi
  obtain ⟨b,hb⟩:=qe3 (l:=s) (i:=i) (by omega)
  have hbe:=(List.getElem?_eq_some_iff.1 hb).2
  have w:=qbj (i:=i) (by omega)
  have hlt:i < s.length:=by omega
  have h1:=ih (i+1) (by omega)
  rw [qbx hb,qBe]
  cases hc:qaW b with
  | true =>
   have e:i+(runL qaW (s.drop (i+1))+1)=i+1+runL qaW (s.drop (i+1)):=by omega
   simp only [runL,hc,if_true,e]
   rw [← h1]
   simp [qiF,hlt,hbe,qdU,hc,w]
  | false=>simp [qiF,hlt,hbe,qdU,hc,runL]
theorem qz8 {s:List UInt8} (hs:s.length < 9223372036854775807):qAw s=some (.int .i64 (runL innB s:Nat)):=by
 have h:=qF9 s hs s.length 0 (by omega)
 simp at h
 unfold qAw qxx
 simp [qpX,quW,qyA,h]
theorem qKw {s:List UInt8} (hs:s.length < 9223372036854775807):qn8 s=true:=by simp [qn8,qlE,qz8 hs]
theorem qM4 {s:List UInt8} (hs:s.length < 9223372036854775807):qlE s=(runL innB s:Nat):=by simp [qlE,qz8 hs]
theorem qwQ {s:List UInt8} (hs:s.length < 9223372036854775807):quh s=some (.int .i64 (runL qaW s:Nat)):=by
 have h:=qCd s hs s.length 0 (by omega)
 simp at h
 unfold quh qvq
 simp [qm9,qoy,qts,h]
theorem qHA {s:List UInt8} (hs:s.length < 9223372036854775807):qbD s=true:=by simp [qbD,qaf,qwQ hs]
theorem qKQ {s:List UInt8} (hs:s.length < 9223372036854775807):qaf s=(runL qaW s:Nat):=by simp [qaf,qwQ hs]
def qOut (i n:Nat):Option (PExit × List PV × Store):=if n=0 then some (.exit 0,[],⟨[],[],[]⟩) else some (.ret,[.int .i64 ((i+n:Nat):Int)],⟨[],[],[]⟩)
theorem qjM (i n:Nat):qOut i (incN n)=qOut (i+1) n:=by
 unfold qOut incN
 by_cases h:n=0
 ·simp [h]
 ·simp [h]; omega
theorem qvR (s:List UInt8) (hs:s.length < 9223372036854775800):∀ (m i:Nat),s.length≤i+m→i≤s.length+1→qcE [.str s,.int .i64 (i:Nat)] ⟨[],[],[]⟩=qOut i (quoE false (s.drop i)):=by
 have hend:∀ i:Nat,s.length≤i→qcE [.str s,.int .i64 (i:Nat)] ⟨[],[],[]⟩=some (.exit 0,[],⟨[],[],[]⟩):=fun i hi=>by
  rw [qsP]
  have:¬ (i:Int) < s.length:=by omega
  simp [qeB,this]
 intro m
 induction m with
 | zero =>
  intro i hi _
  rw [hend i (by omega),List.drop_eq_nil_of_le (by omega)]
  simp [quoE,qOut]
 | succ m ih =>
  intro i hi hi2
  by_cases hlt:i < s.length
  ·obtain ⟨b,hb⟩:=qe3 (l:=s) (i:=i) hlt
   have hbe:=(List.getElem?_eq_some_iff.1 hb).2
   have w:=qbj (i:=i) (by omega)
   have w2:=qbj (i:=i+1) (by omega)
   have h1:=ih (i+1) (by omega) (by omega)
   rw [qbx hb,qsP]
   simp only [quoE]
   by_cases hq:b.toNat=34
   ·rw [if_pos hq]
    simp [qeB,hlt,hbe,hq,w,qOut]
   ·rw [if_neg hq]
    have hq':¬ ((b.toNat:Int)=34):=by omega
    by_cases hp:b.toNat=92
    ·rw [if_pos hp,qjM]
     have e1:qcE [.str s,.int .i64 (iAdd .i64 (iAdd .i64 (i:Int) 1) 1)] ⟨[],[],[]⟩=qOut (i+1) (quoE true (s.drop (i+1))):=by
      rw [w,w2]
      by_cases hl2:i+1 < s.length
      ·obtain ⟨c,hc⟩:=qe3 (l:=s) (i:=i+1) hl2
       rw [qbx hc]
       simp only [quoE]
       rw [qjM]
       exact ih (i+1+1) (by omega) (by omega)
      ·rw [hend (i+1+1) (by omega),List.drop_eq_nil_of_le (by omega)]
       simp [quoE,qOut]
     rw [← e1]
     have t1:iLt (i:Int) (sLen s)=true:=by simp; omega
     have t2:qax s (i:Int)=true:=by simp; omega
     have t3:sAt s (i:Int)=92:=by simp [hbe,hlt,hp]
     simp only [qeB,t1,t2,t3]
     simp
    ·have hp':¬ ((b.toNat:Int)=92):=by omega
     rw [if_neg hp,qjM,← h1,← w]
     have t1:iLt (i:Int) (sLen s)=true:=by simp; omega
     have t2:qax s (i:Int)=true:=by simp; omega
     have t3:sAt s (i:Int)=b.toNat:=by simp [hbe,hlt]
     simp only [qeB,t1,t2,t3]
     simp [hq',hp']
  ·rw [hend i (by omega),List.drop_eq_nil_of_le (by omega)]
   simp [quoE,qOut]
theorem qpV {c:UInt8} {t:List UInt8} (hs:(c :: t).length < 9223372036854775800):ql6 (c :: t)=some (.int .i64 (if quoL t=0 then 0 else ((quoL t+1:Nat):Int))):=by
 have h:=qvR (c :: t) hs t.length 1 (by simp; omega) (by simp)
 simp only [List.drop_succ_cons,List.drop_zero] at h
 unfold ql6 qm1
 unfold qOut at h
 rw [show quoE false t=quoL t from rfl] at h
 by_cases h0:quoL t=0
 ·rw [if_pos h0] at h ⊢
  have h':qcE [.str (c :: t),.int .i64 1] ⟨[],[],[]⟩=some (.exit 0,[],⟨[],[],[]⟩):=h
  simp [qgh,qgv,qeW,qg5,h']
 ·rw [if_neg h0] at h ⊢
  have h':qcE [.str (c :: t),.int .i64 1] ⟨[],[],[]⟩=some (.ret,[.int .i64 ((1+quoL t:Nat):Int)],⟨[],[],[]⟩):=h
  simp [qgh,qgv,qeW,qg5,h']
  omega
theorem qEP:∀ t:List UInt8,(Lib.indexByte t 10=-1∧gapL true t=t.length)∨∃ n:Nat,Lib.indexByte t 10=n∧n < t.length∧gapL true t=n+gapL false (t.drop n)
 | []=>.inl ⟨rfl,rfl⟩
 | b :: u=>by
  by_cases hb:b=10
  ·subst hb
   refine .inr ⟨0,rfl,by simp,?_⟩
   simp [gapL,blB]
  ·have hb':(b == 10)=false:=by simpa using hb
   have hbn:b.toNat≠10:=fun h=>hb (UInt8.toNat.inj h)
   have e1:gapL true (b :: u)=gapL true u+1:=by simp [gapL,hbn]
   rcases qEP u with ⟨h1,h2⟩ | ⟨n,h1,h2,h3⟩
   ·refine .inl ⟨?_,by rw [e1,h2]; rfl⟩
    simp [Lib.indexByte,hb',h1]
   ·refine .inr ⟨n+1,?_,by simpa using h2,?_⟩
    ·have:((n:Int) == -1)=false:=by simp
     simp [Lib.indexByte,hb',h1,this]
    ·rw [e1,h3]
     simp only [List.drop_succ_cons]
     omega
theorem qDz {b:UInt8} (h:blB b=true) (t:List UInt8):gapL false (b :: t)=gapL false t+1:=by
 have:b.toNat≠37:=by
  intro e
  simp [blB,e] at h
 simp [gapL,h,this]
theorem qDg (s:List UInt8) (hs:s.length < 9223372036854775800):∀ (m i:Nat),i+m=s.length→∃ e,(e=PExit.ret∨e=.exit 0)∧qkE [.str s,.int .i64 (i:Nat)] ⟨[],[],[]⟩=some (e,[.int .i64 ((i+gapL false (s.drop i):Nat):Int)],⟨[],[],[]⟩):=by
 intro m
 induction m using Nat.strongRecOn with
 | _ m ih =>
  intro i hi
  by_cases hlt:i < s.length
  ·obtain ⟨b,hb⟩:=qe3 (l:=s) (i:=i) hlt
   have hbe:=(List.getElem?_eq_some_iff.1 hb).2
   have w:=qbj (i:=i) (by omega)
   rw [qbx hb,qFM]
   by_cases hbl:blB b=true
   ·obtain ⟨e,he,hv⟩:=ih (m - 1) (by omega) (i+1) (by omega)
    refine ⟨e,he,?_⟩
    rw [qDz hbl]
    have hv':qkE [.str s,.int .i64 (iAdd .i64 (i:Int) 1)] ⟨[],[],[]⟩=some (e,[.int .i64 ((i+(gapL false (s.drop (i+1))+1):Nat):Int)],⟨[],[],[]⟩):=by
     rw [w,hv,show i+1+gapL false (s.drop (i+1))=i+(gapL false (s.drop (i+1))+1) from by omega]
    rw [← hv']
    have hbl2:b.toNat=32∨b.toNat=9∨b.toNat=10∨b.toNat=13:=by simpa [blB,or_assoc] using hbl
    rcases hbl2 with h | h | h | h <;> simp [qhX,hlt,hbe,h]
   ·have hbl2:¬ (b.toNat=32∨b.toNat=9∨b.toNat=10∨b.toNat=13):=by simpa [blB,or_assoc] using hbl
    have n1:¬ ((b.toNat:Int)=32):=by omega
    have n2:¬ ((b.toNat:Int)=9):=by omega
    have n3:¬ ((b.toNat:Int)=10):=by omega
    have n4:¬ ((b.toNat:Int)=13):=by omega
    by_cases h37:b.toNat=37
    ·have e1:gapL false (b :: s.drop (i+1))=gapL true (s.drop (i+1))+1:=by simp [gapL,h37]
     have e2:sSub s (nNat (i:Int)) (nLen s)=b :: s.drop (i+1):=by
      simp only [qtI,qvA,qEx,Int.toNat_natCast,List.take_length]
      exact qbx hb
     have hb10:(b == 10)=false:=by
      cases hq:b == 10 with
      | false=>rfl
      | true=>simp at hq; subst hq; simp at h37
     have e3:idxV (b :: s.drop (i+1)) 10=if Lib.indexByte (s.drop (i+1)) 10 == -1 then -1 else Lib.indexByte (s.drop (i+1)) 10+1:=by
      show Lib.indexByte (b :: s.drop (i+1)) 10=_
      simp only [Lib.indexByte,hb10,Bool.false_eq_true,if_false]
     rw [e1]
     rcases qEP (s.drop (i+1)) with ⟨h1,h2⟩ | ⟨n,h1,h2,h3⟩
     ·refine ⟨.ret,.inl rfl,?_⟩
      have e4:idxV (b :: s.drop (i+1)) 10=-1:=by rw [e3,h1]; rfl
      have e5:i+(gapL true (s.drop (i+1))+1)=s.length:=by rw [h2]; simp; omega
      rw [e5]
      have t1:iLt (i:Int) (sLen s)=true:=by simp; omega
      have t2:qax s (i:Int)=true:=by simp; omega
      have t3:sAt s (i:Int)=37:=by simp [hbe,hlt,h37]
      have t4:qaA (qak (i:Int)) true (nNat (i:Int)) (nLen s) (nLen s)=true:=by simp; omega
      simp only [qhX,e2,e4,t1,t2,t3,t4]
      simp
     ·have e4:idxV (b :: s.drop (i+1)) 10=((n+1:Nat):Int):=by
       rw [e3,h1]
       have:((n:Int) == -1)=false:=by simp
       rw [this]
       simp
      have hn:n < s.length - (i+1):=by simpa using h2
      obtain ⟨e,he,hv⟩:=ih (m - (n+1)) (by omega) (i+(n+1)) (by omega)
      refine ⟨e,he,?_⟩
      have w2:iAdd .i64 (i:Int) ((n+1:Nat):Int)=((i+(n+1):Nat):Int):=qa3 (by omega)
      have e6:i+(n+1)+gapL false (s.drop (i+(n+1)))=i+(gapL true (s.drop (i+1))+1):=by
       rw [h3,List.drop_drop,show i+1+n=i+(n+1) from by omega]
       omega
      rw [e6] at hv
      have hge:¬ ((n+1:Nat):Int) < 0:=by omega
      have t1:iLt (i:Int) (sLen s)=true:=by simp; omega
      have t2:qax s (i:Int)=true:=by simp; omega
      have t3:sAt s (i:Int)=37:=by simp [hbe,hlt,h37]
      have t5:iLt ((n+1:Nat):Int) 0=false:=by simp; omega
      have t4:qaA (qak (i:Int)) true (nNat (i:Int)) (nLen s) (nLen s)=true:=by simp; omega
      simp only [qhX,e2,e4,w2,t1,t2,t3,t4,t5]
      simpa using hv
    ·refine ⟨.ret,.inl rfl,?_⟩
     have n5:¬ ((b.toNat:Int)=37):=by omega
     have e1:gapL false (b :: s.drop (i+1))=0:=by
      have:blB b=false:=by simpa using hbl
      simp [gapL,this,h37]
     rw [e1]
     simp [qhX,hlt,hbe,n1,n2,n3,n4,n5]
  ·refine ⟨.exit 0,.inr rfl,?_⟩
   rw [qFM,List.drop_eq_nil_of_le (by omega)]
   have:¬ (i:Int) < s.length:=by omega
   simp [qhX,gapL,this]
theorem qAq {s:List UInt8} (hs:s.length < 9223372036854775800):qzZ s=some (.int .i64 (gapL false s:Nat)):=by
 obtain ⟨e,he,h⟩:=qDg s hs s.length 0 (by omega)
 simp at h
 unfold qzZ qyC
 rcases he with rfl | rfl <;> simp [qps,qqP,qmo,qhV,qrX,h]
theorem qDJ {s:List UInt8} (hs:s.length < 9223372036854775800):qfg s=true:=by simp [qfg,qa4,qAq hs]
theorem qIW {s:List UInt8} (hs:s.length < 9223372036854775800):qa4 s=(gapL false s:Nat):=by simp [qa4,qAq hs]
theorem qwK {s:List UInt8} (hs:s.length < 9223372036854775807) (k:Int):qgB s k=some (.tup [.agg [.int .i64 k,.str (s.take (runL innB s)),.int .i64 0,.int .i64 0,.str [],.int .i64 0],.bool (decide (runL innB s≤64))]):=by
 unfold qgB qu4
 have h:=qlh innB s
 have e:iLe (runL innB s:Nat) 64=decide (runL innB s≤64):=by simp; omega
 rw [qM4 hs,qKw hs,e]
 have t:qaA true (qak ((runL innB s:Nat):Int)) 0 (nNat ((runL innB s:Nat):Int)) (nLen s)=true:=by simp; omega
 rw [t]
 simp
theorem qAx {s:List UInt8} (hs:s.length < 9223372036854775807) (k:Int):qdZ s k=true:=by simp [qdZ,qf6,qfI,qdS,qdY,qd0,qd1,qfv,qwK hs]
def wTup (k:Int) (x:List UInt8) (v:Vl) (p:Int) (b:Bool):PV:=.tup [.agg [.int .i64 k,.str x,.int .i64 v.1,.int .i64 v.2.1,.str v.2.2,.int .i64 p],.bool b]
theorem qGg {s:List UInt8} (hs:s.length < 9223372036854775807) (k:Int):(PV.tup [.agg [.int .i64 (qf6 s k),.str (qfI s k),.int .i64 (qdS s k),.int .i64 (qdY s k),.str (qd0 s k),.int .i64 (qd1 s k)],.bool (qfv s k)])=wTup k (s.take (runL innB s)) (0,0,[]) 0 (decide (runL innB s≤64)):=by
 simp [wTup,qf6,qfI,qdS,qdY,qd0,qd1,qfv,qwK hs]
theorem qpp {s:List UInt8} (hs:s.length≤140737488355328) (k:Int):qdp s k=some (wTup k s (kRd s,nRd s,sRd s) 0 (decide (eRd s=0))):=by
 unfold qdp qm0 wTup
 simp [hs]
theorem qnt {s:List UInt8} (hs:s.length≤140737488355328) (k:Int):qar s k=true:=by simp [qar,qaB,qaC,qay,qat,qaw,qav,qaD,qpp hs,wTup]
theorem qvO {s:List UInt8} (hs:s.length≤140737488355328) (k:Int):(PV.tup [.agg [.int .i64 (qaB s k),.str (qaC s k),.int .i64 (qay s k),.int .i64 (qat s k),.str (qaw s k),.int .i64 (qav s k)],.bool (qaD s k)])=wTup k s (kRd s,nRd s,sRd s) 0 (decide (eRd s=0)):=by
 simp [wTup,qaB,qaC,qay,qat,qaw,qav,qaD,qpp hs]
theorem qF6 (c:UInt8) (t:List UInt8) (a b:UInt8):qd9 (c :: t) [a,b]=(decide (c=a) && hdIs (fun d=>decide (d=b)) t):=by
 unfold qd9
 cases t with
 | nil=>simp [hdIs]
 | cons d u=>simp [hdIs,Bool.decide_and]
def wst:Store:=⟨[[.int .i64 0,.str [],.int .i64 0,.int .i64 0,.str [],.int .i64 0]],[],[120]⟩
theorem qMb (c:UInt8) (t:List UInt8):hdIs (twoB c) t=(qd9 (c :: t) [58,45] || qd9 (c :: t) [60,61] || qd9 (c :: t) [62,61] || qd9 (c :: t) [33,61]):=by
 simp only [qF6]
 cases t with
 | nil=>simp [hdIs]
 | cons d u =>
  simp only [hdIs,twoB]
  simp only [← UInt8.toNat_inj]
  simp [Bool.decide_and]
theorem qjh {s p:List UInt8} (h:qd9 s p=true) (hp:p.length=2):s.take 2=p:=by
 simp [qd9] at h
 rw [← hp]
 exact h.2
theorem qzt (c:UInt8) (t:List UInt8) (n:Int):qjx [.str (c :: t),.ptr 0 0,.int .u8 n,.agg [.str [58,45],.str [60,61],.str [62,61],.str [33,61]],.int .i64 0] wst =
  if hdIs (twoB c) t then some (.ret,[.ptr 0 0,.bool true],⟨[[.int .i64 6,.str ((c :: t).take 2),.int .i64 0,.int .i64 0,.str [],.int .i64 0]],[],[120]⟩)
  else some (.exit 1,[.str (c :: t),.ptr 0 0,.int .u8 n],wst):=by
 have i1:iAdd .i64 0 1=1:=by decide
 have i2:iAdd .i64 1 1=2:=by decide
 have i3:iAdd .i64 2 1=3:=by decide
 have i4:iAdd .i64 3 1=4:=by decide
 unfold wst
 rw [qMb]
 rw [qmq]
 cases h1:qd9 (c :: t) [58,45] with
 | true=>have q:=qjh h1 rfl; simp [qbY,h1]; simpa using q.symm
 | false =>
  have e1:(qbY (c :: t) n [58,45] [60,61] [62,61] [33,61] 0 0 [] 0 0 [] 0).run=some (.next [.str (c :: t),.ptr 0 0,.int .u8 n,.agg [.str [58,45],.str [60,61],.str [62,61],.str [33,61]],.int .i64 1] ⟨[[.int .i64 0,.str [],.int .i64 0,.int .i64 0,.str [],.int .i64 0]],[],[120]⟩):=by simp [qbY,h1,i1]
  rw [e1,qjQ,qmq]
  cases h2:qd9 (c :: t) [60,61] with
  | true=>have q:=qjh h2 rfl; simp [qbY,h2]; simpa using q.symm
  | false =>
   have e2:(qbY (c :: t) n [58,45] [60,61] [62,61] [33,61] 1 0 [] 0 0 [] 0).run=some (.next [.str (c :: t),.ptr 0 0,.int .u8 n,.agg [.str [58,45],.str [60,61],.str [62,61],.str [33,61]],.int .i64 2] ⟨[[.int .i64 0,.str [],.int .i64 0,.int .i64 0,.str [],.int .i64 0]],[],[120]⟩):=by simp [qbY,h2,i2]
   rw [e2,qjQ,qmq]
   cases h3:qd9 (c :: t) [62,61] with
   | true=>have q:=qjh h3 rfl; simp [qbY,h3]; simpa using q.symm
   | false =>
    have e3:(qbY (c :: t) n [58,45] [60,61] [62,61] [33,61] 2 0 [] 0 0 [] 0).run=some (.next [.str (c :: t),.ptr 0 0,.int .u8 n,.agg [.str [58,45],.str [60,61],.str [62,61],.str [33,61]],.int .i64 3] ⟨[[.int .i64 0,.str [],.int .i64 0,.int .i64 0,.str [],.int .i64 0]],[],[120]⟩):=by simp [qbY,h3,i3]
    rw [e3,qjQ,qmq]
    cases h4:qd9 (c :: t) [33,61] with
    | true=>have q:=qjh h4 rfl; simp [qbY,h4]; simpa using q.symm
    | false =>
     have e4:(qbY (c :: t) n [58,45] [60,61] [62,61] [33,61] 3 0 [] 0 0 [] 0).run=some (.next [.str (c :: t),.ptr 0 0,.int .u8 n,.agg [.str [58,45],.str [60,61],.str [62,61],.str [33,61]],.int .i64 4] ⟨[[.int .i64 0,.str [],.int .i64 0,.int .i64 0,.str [],.int .i64 0]],[],[120]⟩):=by simp [qbY,h4,i4]
     rw [e4,qjQ,qmq]
     simp [qbY]
theorem qE4 (c:UInt8):∀ l:List UInt8,0≤Lib.indexByte l c↔c ∈ l
 | []=>by simp [Lib.indexByte]
 | b :: l=>by
  have h1:=qE4 c l
  have h2:=Lib.indexByte_ge l c
  unfold Lib.indexByte
  by_cases hb:b=c
  ·subst hb; simp
  ·have hb':(b == c)=false:=by simpa using hb
   have hc:¬ c=b:=fun e=>hb e.symm
   rw [hb']
   by_cases h3:Lib.indexByte l c=-1
   ·have:¬ c ∈ l:=fun hm=>by have:=h1.2 hm; omega
    simp [h3,hc,this]
   ·have:c ∈ l:=h1.1 (by omega)
    simp [h3,this]
    omega
theorem qH6 (c:UInt8):iLe 0 (idxV [40,41,44,46,43,45,61,58,60,62] (c.toNat:Int))=qkd c:=by
 have e:idxV [40,41,44,46,43,45,61,58,60,62] (c.toNat:Int)=Lib.indexByte [40,41,44,46,43,45,61,58,60,62] c:=by
  unfold idxV
  congr 1
  simp
 rw [qD5]
 have h:=qE4 c [40,41,44,46,43,45,61,58,60,62]
 have h':decide (0≤Lib.indexByte [40,41,44,46,43,45,61,58,60,62] c)=decide (c ∈ [40,41,44,46,43,45,61,58,60,62]):=decide_eq_decide.2 h
 rw [e,h']
 simp only [List.mem_cons,List.not_mem_nil,or_false,← UInt8.toNat_inj,qkd,List.contains,List.elem_eq_mem]
 simp
theorem qzg {c:UInt8} {t:List UInt8} (hs:(c :: t).length≤140737488355328) (h:qfG c=true):qbV (c :: t)=some (wTup 1 ((c :: t).take (runL innB (c :: t))) (0,0,[]) 0 (decide (runL innB (c :: t)≤64))):=by
 have hs':(c :: t).length < 9223372036854775807:=by omega
 have h1:97≤c.toNat∧c.toNat≤122:=by simpa [qfG] using h
 have g1:(97:Int)≤c.toNat:=by omega
 have g2:(c.toNat:Int)≤122:=by omega
 rw [← qGg hs']
 unfold qbV qff
 cases t <;> simp [g1,g2,qAx hs']
theorem qy1 {c:UInt8} {t:List UInt8} (hs:(c :: t).length≤140737488355328) (h:qiU c=true):qbV (c :: t)=some (wTup 2 ((c :: t).take (runL innB (c :: t))) (0,0,[]) 0 (decide (runL innB (c :: t)≤64))):=by
 have hs':(c :: t).length < 9223372036854775807:=by omega
 have h1:65≤c.toNat∧c.toNat≤90:=by simpa [qiU] using h
 have g1:¬ (97:Int)≤c.toNat:=by omega
 have g2:(65:Int)≤c.toNat:=by omega
 have g3:(c.toNat:Int)≤90:=by omega
 rw [← qGg hs']
 unfold qbV qff
 cases t <;> simp [g1,g2,g3,qAx hs']
theorem qEk {c:UInt8} {t:List UInt8} (hs:(c :: t).length≤140737488355328) (h:c.toNat=95):qbV (c :: t)=some (wTup 3 [95] (0,0,[]) 0 (!hdIs innB t)):=by
 unfold qbV qff
 cases t with
 | nil =>
  have e:inI 0=false:=by decide
  simp [h,hdIs,wTup,e]
 | cons d u =>
  have g:iLt 1 (sLen (c :: d :: u))=true:=by simp; omega
  rw [g]
  simp [h,hdIs,qma,wTup]
def dgW (s:List UInt8):PV:=wTup 4 (s.take (runL qaW (s.drop 1)+1)) (kRd (s.take (runL qaW (s.drop 1)+1)),nRd (s.take (runL qaW (s.drop 1)+1)),sRd (s.take (runL qaW (s.drop 1)+1))) 0 (decide (eRd (s.take (runL qaW (s.drop 1)+1))=0))
theorem qDk {c : UInt8} {t : List UInt8} (hs : (c :: t).length ≤ 140737488355328) : (Tr.ite (qaA (qak 1) true (nNat 1) (nLen (c :: t)) (nLen (c :: t)))
          (Tr.ite (qbD (sSub (c :: t) (nNat 1) (nLen (c :: t))))
            (Tr.ite (qaA true (qak (iAdd .i64 1 (qaf (sSub (c :: t) (nNat 1) (nLen (c :: t)))))) 0 (nNat (iAdd .i64 1 (qaf (sSub (c :: t) (nNat 1) (nLen (c :: t)))))) (nLen (c :: t)))
              (Tr.ite (qar (sSub (c :: t) 0 (nNat (iAdd .i64 1 (qaf (sSub (c :: t) (nNat 1) (nLen (c :: t))))))) 4)
                (Tr.ret (PV.tup [PV.agg [PV.int .i64 (qaB (sSub (c :: t) 0 (nNat (iAdd .i64 1 (qaf (sSub (c :: t) (nNat 1) (nLen (c :: t))))))) 4), PV.str (qaC (sSub (c :: t) 0 (nNat (iAdd .i64 1 (qaf (sSub (c :: t) (nNat 1) (nLen (c :: t))))))) 4), PV.int .i64 (qay (sSub (c :: t) 0 (nNat (iAdd .i64 1 (qaf (sSub (c :: t) (nNat 1) (nLen (c :: t))))))) 4), PV.int .i64 (qat (sSub (c :: t) 0 (nNat (iAdd .i64 1 (qaf (sSub (c :: t) (nNat 1) (nLen (c :: t))))))) 4), PV.str (qaw (sSub (c :: t) 0 (nNat (iAdd .i64 1 (qaf (sSub (c :: t) (nNat 1) (nLen (c :: t))))))) 4), PV.int .i64 (qav (sSub (c :: t) 0 (nNat (iAdd .i64 1 (qaf (sSub (c :: t) (nNat 1) (nLen (c :: t))))))) 4)], PV.bool (qaD (sSub (c :: t) 0 (nNat (iAdd .i64 1 (qaf (sSub (c :: t) (nNat 1) (nLen (c :: t))))))) 4)]))
                Tr.fail) Tr.fail) Tr.fail) Tr.fail).run = some (dgW (c :: t)) := by
  have e0 : sSub (c :: t) (nNat 1) (nLen (c :: t)) = t := by simp
  have hl : t.length + 1 ≤ 140737488355328 := by simpa using hs
  have hr := qlh qaW t
  rw [e0, qHA (by omega), qKQ (by omega)]
  have e1 : iAdd .i64 1 ((runL qaW t : Nat) : Int) = ((runL qaW t + 1 : Nat) : Int) := by
    have : iAdd .i64 1 ((runL qaW t : Nat) : Int) = (1 : Int) + (runL qaW t : Nat) := qa3 (by omega)
    rw [this]; omega
  rw [e1]
  have e2 : sSub (c :: t) 0 (nNat ((runL qaW t + 1 : Nat) : Int)) = (c :: t).take (runL qaW t + 1) := by simp [-List.take_succ_cons]
  rw [e2]
  have hl2 : ((c :: t).take (runL qaW t + 1)).length ≤ 140737488355328 := by rw [List.length_take]; omega
  have t1 : qaA (qak 1) true (nNat 1) (nLen (c :: t)) (nLen (c :: t)) = true := by simp
  have t2 : qaA true (qak ((runL qaW t + 1 : Nat) : Int)) 0 (nNat ((runL qaW t + 1 : Nat) : Int)) (nLen (c :: t)) = true := by simp; omega
  rw [t1, t2, qnt hl2, qvO hl2]
  rfl
theorem qG7 {c:UInt8} {t:List UInt8} (hs:(c :: t).length≤140737488355328) (h:qaW c=true):qbV (c :: t)=some (dgW (c :: t)):=by
 have h1:48≤c.toNat∧c.toNat≤57:=by simpa [qaW] using h
 have f0:qax (c :: t) 0=true:=by simp
 have f1:iLe 97 (sAt (c :: t) 0)=false:=by simp; omega
 have f3:iLe 65 (sAt (c :: t) 0)=false:=by simp; omega
 have f5:iEq (sAt (c :: t) 0) 95=false:=by simp; omega
 have f6:qa6 (sAt (c :: t) 0)=true:=by simp [qdU,h]
 rw [← qDk hs]
 unfold qbV qff
 cases t with
 | nil =>
  have g:iLt 1 (sLen [c])=false:=by simp
  rw [f0,g,f1,f3,f5,f6,qdW]
  rfl
 | cons d u =>
  have g:iLt 1 (sLen (c :: d :: u))=true:=by simp; omega
  have g2:qax (c :: d :: u) 1=true:=by simp
  rw [f0,g,g2,f1,f3,f5,f6,qdW]
  rfl
theorem qDF {c d:UInt8} {u:List UInt8} (hs:(c :: d :: u).length≤140737488355328) (h:c.toNat=45) (hd:qaW d=true):qbV (c :: d :: u)=some (dgW (c :: d :: u)):=by
 have f0:qax (c :: d :: u) 0=true:=by simp
 have f1:iLe 97 (sAt (c :: d :: u) 0)=false:=by simp; omega
 have f3:iLe 65 (sAt (c :: d :: u) 0)=false:=by simp; omega
 have f5:iEq (sAt (c :: d :: u) 0) 95=false:=by simp; omega
 have f6:qa6 (sAt (c :: d :: u) 0)=false:=by simp [dgI,h]
 have f7:iEq (sAt (c :: d :: u) 0) 45=true:=by simp; omega
 have f8:qa6 (sAt (c :: d :: u) 1)=true:=by simp [qdU,hd]
 rw [← qDk hs]
 unfold qbV qff
 have g:iLt 1 (sLen (c :: d :: u))=true:=by simp; omega
 have g2:qax (c :: d :: u) 1=true:=by simp
 rw [f0,g,g2,f1,f3,f5,f6,f7,f8,qdW,qdW]
 rfl
def symN (t:List UInt8):Nat:=if quoL t=0 then 0 else quoL t+1
def syW (s:List UInt8) (n:Nat):PV:=wTup 5 (s.take n) (kRd (s.take n),nRd (s.take n),sRd (s.take n)) 0 (decide (eRd (s.take n)=0))
theorem qGn {c:UInt8} {t:List UInt8} (hs:(c :: t).length≤140737488355328) (h:c.toNat=34):qbV (c :: t)=some (syW (c :: t) (symN t)):=by
 have hq:qad (c :: t)=((symN t:Nat):Int):=by
  simp only [qad,qpV (c:=c) (t:=t) (by omega),qEq,qG8,symN]
  split <;> simp
 have hqi:qbi (c :: t)=true:=by
  simp only [qbi,qHl,qpV (c:=c) (t:=t) (by omega),hq,symN]
  split <;> simp
 have hle:symN t≤(c :: t).length:=by
  have:=qyY t
  unfold symN
  split <;> simp <;> omega
 have hl2:((c :: t).take (symN t)).length≤140737488355328:=by rw [List.length_take]; omega
 have f0:qax (c :: t) 0=true:=by simp
 have f1:iLe 97 (sAt (c :: t) 0)=false:=by simp; omega
 have f3:iLe 65 (sAt (c :: t) 0)=false:=by simp; omega
 have f5:iEq (sAt (c :: t) 0) 95=false:=by simp; omega
 have f6:qa6 (sAt (c :: t) 0)=false:=by simp [dgI,h]
 have f7:iEq (sAt (c :: t) 0) 45=false:=by simp; omega
 have f9:iEq (sAt (c :: t) 0) 34=true:=by simp; omega
 have e2:sSub (c :: t) 0 (nNat ((symN t:Nat):Int))=(c :: t).take (symN t):=by simp
 have t2:qaA true (qak ((symN t:Nat):Int)) 0 (nNat ((symN t:Nat):Int)) (nLen (c :: t))=true:=by simp at hle ⊢; omega
 have leaf:(PV.tup [PV.agg [PV.int .i64 (qaB ((c :: t).take (symN t)) 5),PV.str (qaC ((c :: t).take (symN t)) 5),PV.int .i64 (qay ((c :: t).take (symN t)) 5),PV.int .i64 (qat ((c :: t).take (symN t)) 5),PV.str (qaw ((c :: t).take (symN t)) 5),PV.int .i64 (qav ((c :: t).take (symN t)) 5)],PV.bool (qaD ((c :: t).take (symN t)) 5)])=syW (c :: t) (symN t):=by rw [qvO hl2]; rfl
 rw [← leaf]
 unfold qbV qff
 cases t with
 | nil =>
  have g:iLt 1 (sLen [c])=false:=by simp
  rw [f0,g,f1,f3,f5,f6,f7,f9,qdW,hqi,hq,t2,e2,qnt hl2]
  rfl
 | cons d u =>
  have g:iLt 1 (sLen (c :: d :: u))=true:=by simp; omega
  have g2:qax (c :: d :: u) 1=true:=by simp
  rw [f0,g,g2,f1,f3,f5,f6,f7,f9,qdW,hqi,hq,t2,e2,qnt hl2]
  rfl
def mkW (c:UInt8) (t:List UInt8):PV:=if hdIs (twoB c) t then wTup 6 ((c :: t).take 2) (0,0,[]) 0 true else wTup 6 [c] (0,0,[]) 0 (qkd c)
noncomputable def mkT (v:List UInt8):Tr PV:=(Tr.ite (qa7 v (sAt v 0) [58,45] [60,61] [62,61] [33,61] 0 0 [] 0 0 [] 0)
 (Tr.ret (PV.tup [PV.agg [PV.int .i64 (qbk v (sAt v 0) [58,45] [60,61] [62,61] [33,61] 0 0 [] 0 0 [] 0),PV.str (qbl v (sAt v 0) [58,45] [60,61] [62,61] [33,61] 0 0 [] 0 0 [] 0),PV.int .i64 (qaZ v (sAt v 0) [58,45] [60,61] [62,61] [33,61] 0 0 [] 0 0 [] 0),PV.int .i64 (qaY v (sAt v 0) [58,45] [60,61] [62,61] [33,61] 0 0 [] 0 0 [] 0),PV.str (qa1 v (sAt v 0) [58,45] [60,61] [62,61] [33,61] 0 0 [] 0 0 [] 0),PV.int .i64 (qa0 v (sAt v 0) [58,45] [60,61] [62,61] [33,61] 0 0 [] 0 0 [] 0)],PV.bool (qbm v (sAt v 0) [58,45] [60,61] [62,61] [33,61] 0 0 [] 0 0 [] 0)]))
 (Tr.ite (qbq v (sAt v 0) [58,45] [60,61] [62,61] [33,61] 0 0 [] 0 0 [] 0)
  (Tr.ite (qaA true (qak 1) 0 (nNat 1) (nLen (qau v (sAt v 0) [58,45] [60,61] [62,61] [33,61] 0 0 [] 0 0 [] 0)))
   (Tr.ret (PV.tup [PV.agg [PV.int .i64 6,PV.str (sSub (qau v (sAt v 0) [58,45] [60,61] [62,61] [33,61] 0 0 [] 0 0 [] 0) 0 (nNat 1)),PV.int .i64 0,PV.int .i64 0,PV.str [],PV.int .i64 0],PV.bool (iLe 0 (idxV [40,41,44,46,43,45,61,58,60,62] (qbf v (sAt v 0) [58,45] [60,61] [62,61] [33,61] 0 0 [] 0 0 [] 0)))]))
   Tr.fail)
  Tr.fail))
theorem qLJ (c:UInt8) (t:List UInt8):(mkT (c :: t)).run=some (mkW c t):=by
 have hL:=qzt c t (sAt (c :: t) 0)
 unfold wst at hL
 have e2:sSub (c :: t) 0 (nNat 1)=[c]:=by simp
 have t2:qaA true (qak 1) 0 (nNat 1) (nLen (c :: t))=true:=by simp
 have e3:sAt (c :: t) 0=(c.toNat:Int):=by simp
 have ho:=qH6 c
 unfold mkT mkW
 cases h:hdIs (twoB c) t with
 | true =>
  rw [h] at hL
  simp only [if_true] at hL ⊢
  have a1:qa7 (c :: t) (sAt (c :: t) 0) [58,45] [60,61] [62,61] [33,61] 0 0 [] 0 0 [] 0=true:=by
   simp only [qa7,qbk,qbl,qaZ,qaY,qa1,qa0,qbm,qbG,hL]
   simp
  rw [a1]
  simp only [qbk,qbl,qaZ,qaY,qa1,qa0,qbm,qbG,hL]
  simp [wTup]
 | false =>
  rw [h] at hL
  simp only [Bool.false_eq_true,if_false] at hL ⊢
  have a0:qa7 (c :: t) (sAt (c :: t) 0) [58,45] [60,61] [62,61] [33,61] 0 0 [] 0 0 [] 0=false:=by
   cases hq:qa7 (c :: t) (sAt (c :: t) 0) [58,45] [60,61] [62,61] [33,61] 0 0 [] 0 0 [] 0 with
   | false=>rfl
   | true =>
    simp only [qa7,qbG,hL] at hq
    simp at hq
  have a1:qbq (c :: t) (sAt (c :: t) 0) [58,45] [60,61] [62,61] [33,61] 0 0 [] 0 0 [] 0=true:=by
   simp only [qbq,qau,qbf,qlc,qk3,qkY,qkz,qlb,qkL,qbG,hL]
   simp
  have a2:qau (c :: t) (sAt (c :: t) 0) [58,45] [60,61] [62,61] [33,61] 0 0 [] 0 0 [] 0=c :: t:=by
   simp only [qau,qbG,hL]
   simp
  have a3:qbf (c :: t) (sAt (c :: t) 0) [58,45] [60,61] [62,61] [33,61] 0 0 [] 0 0 [] 0=(c.toNat:Int):=by
   simp only [qbf,qbG,hL]
   simp
  rw [a0,a1,a2,a3,t2,e2,ho]
  rfl
theorem qBl {c:UInt8} {t:List UInt8} (hs:(c :: t).length≤140737488355328) (h1:qfG c=false) (h2:qiU c=false) (h3:c.toNat≠95) (h4:qaW c=false) (h5:c.toNat=45→hdIs qaW t=false) (h6:c.toNat≠34):qbV (c :: t)=some (mkW c t):=by
 have f0:qax (c :: t) 0=true:=by simp
 have f5:iEq (sAt (c :: t) 0) 95=false:=by simp; omega
 have f6:qa6 (sAt (c :: t) 0)=false:=by simp [qdU,h4]
 have f9:iEq (sAt (c :: t) 0) 34=false:=by simp; omega
 have g1:¬ (97≤c.toNat∧c.toNat≤122):=by simpa [qfG] using h1
 have g2:¬ (65≤c.toNat∧c.toNat≤90):=by simpa [qiU] using h2
 rw [← qLJ]
 unfold qbV qff
 have f8:c.toNat=45→qa6 (if iLt 1 (sLen (c :: t))=true then sAt (c :: t) 1 else 0)=false:=fun h=>by
  have:=h5 h
  cases t with
  | nil=>simp [dgI]
  | cons d u =>
   have g:iLt 1 (sLen (c :: d :: u))=true:=by simp; omega
   rw [if_pos g]
   simpa [qdU,hdIs] using this
 have e97:iLe 97 (sAt (c :: t) 0)=decide (97≤c.toNat):=by simp; omega
 have e122:iLe (sAt (c :: t) 0) 122=decide (c.toNat≤122):=by simp; omega
 have e65:iLe 65 (sAt (c :: t) 0)=decide (65≤c.toNat):=by simp; omega
 have e90:iLe (sAt (c :: t) 0) 90=decide (c.toNat≤90):=by simp; omega
 have e45:iEq (sAt (c :: t) 0) 45=decide (c.toNat=45):=by simp; omega
 rw [f0,e97,e122,e65,e90,e45,f5,f6,f9,qdW]
 have key:∀ b:Bool,iLt 1 (sLen (c :: t))=b→(b=true→qax (c :: t) 1=true)→True:=fun _ _ _=>trivial
 by_cases k1:97≤c.toNat
 ·have k2:¬ c.toNat≤122:=fun h=>g1 ⟨k1,h⟩
  have k3:65≤c.toNat:=by omega
  have k4:¬ c.toNat≤90:=by omega
  have k5:¬ c.toNat=45:=by omega
  rw [decide_eq_true k1,decide_eq_false k2,decide_eq_true k3,decide_eq_false k4,decide_eq_false k5]
  cases t with
  | nil =>
   have g:iLt 1 (sLen [c])=false:=by simp
   rw [g]
   rfl
  | cons d u =>
   have g:iLt 1 (sLen (c :: d :: u))=true:=by simp; omega
   have g2:qax (c :: d :: u) 1=true:=by simp
   rw [g,g2]
   rfl
 ·by_cases k3:65≤c.toNat
  ·have k4:¬ c.toNat≤90:=fun h=>g2 ⟨k3,h⟩
   have k5:¬ c.toNat=45:=by omega
   rw [decide_eq_false k1,decide_eq_true k3,decide_eq_false k4,decide_eq_false k5]
   cases t with
   | nil =>
    have g:iLt 1 (sLen [c])=false:=by simp
    rw [g]
    rfl
   | cons d u =>
    have g:iLt 1 (sLen (c :: d :: u))=true:=by simp; omega
    have g2:qax (c :: d :: u) 1=true:=by simp
    rw [g,g2]
    rfl
  ·by_cases k5:c.toNat=45
   ·rw [decide_eq_false k1,decide_eq_false k3,decide_eq_true k5]
    cases t with
    | nil =>
     have g:iLt 1 (sLen [c])=false:=by simp
     have f8':qa6 0=false:=by simp [dgI]
     rw [g,f8',qdW 0]
     rfl
    | cons d u =>
     have g:iLt 1 (sLen (c :: d :: u))=true:=by simp; omega
     have g2:qax (c :: d :: u) 1=true:=by simp
     have f8':=f8 k5
     rw [if_pos g] at f8'
     rw [g,g2,f8',qdW (sAt (c :: d :: u) 1)]
     rfl
   ·rw [decide_eq_false k1,decide_eq_false k3,decide_eq_false k5]
    cases t with
    | nil =>
     have g:iLt 1 (sLen [c])=false:=by simp
     rw [g]
     rfl
    | cons d u =>
     have g:iLt 1 (sLen (c :: d :: u))=true:=by simp; omega
     have g2:qax (c :: d :: u) 1=true:=by simp
     rw [g,g2]
     rfl
end Go.Pv
set_option maxHeartbeats 4000000
set_option maxRecDepth 200000
set_option linter.unusedSimpArgs false
set_option linter.unusedVariables false
namespace Go.Pv
open Go Go.Proofs
noncomputable def qvp:GamT:=ofL []
theorem qBE (gl:Gl):qaH Tryz.prog gl (gam qvp):=qag
noncomputable def qAT:LpsT:=fun r fr σ=>.fail
noncomputable def qqX (c:Int):Tr PV:=.ite (iLe 97 c) (.ret (.bool (iLe c 122))) (.ret (.bool false))
theorem qGU (c:Int):(tcall tbT qvp qAT Tryz.f93 [.int .u8 c]).flat=qqX c:=by kernel_rfl
noncomputable def qpj (c:Int):Option PV:=(qqX c).run
noncomputable def qhy (c:Int):Bool:=(qb0 (gVal (qpj c)))
noncomputable def qgR (c:Int):Bool:=isW (qpj c) (.bool (qhy c))
noncomputable def qok:List PV→Tr PV | [.int .u8 c]=>.ite (qgR c) (.ret (.bool (qhy c))) (.fail) | _=>.fail
theorem qtf (gl:Gl):SimP Tryz.prog gl 93 fun args=>(qok args).run:=by
 refine SimP.of_flat (G:=qvp) (L:=qAT) qaj (qBE gl ) qah Tryz.func93 rfl (by rfl) (by kernel_rfl) (qae (by kernel_rfl)) ?_
 intro args x h
 unfold qok at h
 split at h
 ·exact (congrArg Tr.run (qGU _)).trans (qai h fun h=>by cases h)
 ·cases h
noncomputable def qva:GamT:=ofL []
theorem qBT (gl:Gl):qaH Tryz.prog gl (gam qva):=qag
noncomputable def qAN:LpsT:=fun r fr σ=>.fail
noncomputable def qpY (c:Int):Tr PV:=.ite (iLe 65 c) (.ret (.bool (iLe c 90))) (.ret (.bool false))
theorem qIj (c:Int):(tcall tbT qva qAN Tryz.f94 [.int .u8 c]).flat=qpY c:=by kernel_rfl
noncomputable def qpe (c:Int):Option PV:=(qpY c).run
noncomputable def qfh (c:Int):Bool:=(qb0 (gVal (qpe c)))
noncomputable def qeH (c:Int):Bool:=isW (qpe c) (.bool (qfh c))
noncomputable def qoj:List PV→Tr PV | [.int .u8 c]=>.ite (qeH c) (.ret (.bool (qfh c))) (.fail) | _=>.fail
theorem qsY (gl:Gl):SimP Tryz.prog gl 94 fun args=>(qoj args).run:=by
 refine SimP.of_flat (G:=qva) (L:=qAN) qaj (qBT gl ) qah Tryz.func94 rfl (by rfl) (by kernel_rfl) (qae (by kernel_rfl)) ?_
 intro args x h
 unfold qoj at h
 split at h
 ·exact (congrArg Tr.run (qIj _)).trans (qai h fun h=>by cases h)
 ·cases h
noncomputable def qty:GamT:=ofL []
theorem qCv (gl:Gl):qaH Tryz.prog gl (gam qty):=qag
noncomputable def qzD:LpsT:=fun r fr σ=>.fail
noncomputable def qq5 (c:Int):Tr PV:=.ite (iLe 48 c) (.ret (.bool (iLe c 57))) (.ret (.bool false))
theorem qIR (c:Int):(tcall tbT qty qzD Tryz.f96 [.int .u8 c]).flat=qq5 c:=by kernel_rfl
noncomputable def qo8 (c:Int):Option PV:=(qq5 c).run
noncomputable def qe9 (c:Int):Bool:=(qb0 (gVal (qo8 c)))
noncomputable def qeI (c:Int):Bool:=isW (qo8 c) (.bool (qe9 c))
noncomputable def qlS:List PV→Tr PV | [.int .u8 c]=>.ite (qeI c) (.ret (.bool (qe9 c))) (.fail) | _=>.fail
theorem qmW (gl:Gl):SimP Tryz.prog gl 96 fun args=>(qlS args).run:=by
 refine SimP.of_flat (G:=qty) (L:=qzD) qaj (qCv gl ) qah Tryz.func96 rfl (by rfl) (by kernel_rfl) (qae (by kernel_rfl)) ?_
 intro args x h
 unfold qlS at h
 split at h
 ·exact (congrArg Tr.run (qIR _)).trans (qai h fun h=>by cases h)
 ·cases h
noncomputable def quO:GamT:=ofL [(93,.pure qok),(94,.pure qoj),(96,.pure qlS)]
theorem qBC (gl:Gl):qaH Tryz.prog gl (gam quO):=(qac (qtf gl) (qac (qsY gl) (qac (qmW gl) qag)))
noncomputable def qAh:LpsT:=fun r fr σ=>.fail
noncomputable def qqu (c:Int):Tr PV:=.ite (qgR c) (.ite (qhy c) (.ret (.bool true)) (.ite (qeH c) (.ite (qfh c) (.ret (.bool true)) (.ite (qeI c) (.ite (qe9 c) (.ret (.bool true)) (.ret (.bool (iEq c 95)))) .fail)) .fail)) .fail
theorem qHQ (c:Int):(tcall tbT quO qAh Tryz.f122 [.int .u8 c]).flat=qqu c:=by kernel_rfl
noncomputable def qpd (c:Int):Option PV:=(qqu c).run
noncomputable def qjw (c:Int):Bool:=(qb0 (gVal (qpd c)))
noncomputable def qjW (c:Int):Bool:=isW (qpd c) (.bool (qjw c))
noncomputable def quI:List PV→Tr PV | [.int .u8 c]=>.ite (qjW c) (.ret (.bool (qjw c))) (.fail) | _=>.fail
theorem qBs (gl:Gl):SimP Tryz.prog gl 122 fun args=>(quI args).run:=by
 refine SimP.of_flat (G:=quO) (L:=qAh) qaj (qBC gl ) qah Tryz.func122 rfl (by rfl) (by kernel_rfl) (qae (by kernel_rfl)) ?_
 intro args x h
 unfold quI at h
 split at h
 ·exact (congrArg Tr.run (qHQ _)).trans (qai h fun h=>by cases h)
 ·cases h
noncomputable def qvx:GamT:=ofL []
theorem qB4 (gl:Gl):qaH Tryz.prog gl (gam qvx):=qag
noncomputable def qAm:LpsT:=fun r fr σ=>.fail
noncomputable def qrp (c:Int):Tr PV:=.ite (iEq c 32) (.ret (.bool true)) (.ite (iEq c 9) (.ret (.bool true)) (.ite (iEq c 10) (.ret (.bool true)) (.ret (.bool (iEq c 13)))))
theorem qHM (c:Int):(tcall tbT qvx qAm Tryz.f92 [.int .u8 c]).flat=qrp c:=by kernel_rfl
noncomputable def qoP (c:Int):Option PV:=(qrp c).run
noncomputable def qhk (c:Int):Bool:=(qb0 (gVal (qoP c)))
noncomputable def qjm (c:Int):Bool:=isW (qoP c) (.bool (qhk c))
noncomputable def quX:List PV→Tr PV | [.int .u8 c]=>.ite (qjm c) (.ret (.bool (qhk c))) (.fail) | _=>.fail
theorem qCs (gl:Gl):SimP Tryz.prog gl 92 fun args=>(quX args).run:=by
 refine SimP.of_flat (G:=qvx) (L:=qAm) qaj (qB4 gl ) qah Tryz.func92 rfl (by rfl) (by kernel_rfl) (qae (by kernel_rfl)) ?_
 intro args x h
 unfold quX at h
 split at h
 ·exact (congrArg Tr.run (qHM _)).trans (qai h fun h=>by cases h)
 ·cases h
noncomputable def qwx:GamT:=ofL [(92,.pure quX)]
theorem qAV (gl:Gl):qaH Tryz.prog gl (gam qwx):=(qac (qCs gl) qag)
noncomputable def qtO:Code:=qeX Tryz.f67 2
def qtj:LI:=⟨41,[0,1,5],fun e=>match e with | .exit 0=>[1] | _=>[],true⟩
noncomputable def quT:LpsT:=fun r fr σ=>.fail
noncomputable def qmD (vs:List PV) (σ:Store):Option (PExit × List PV × Store):=lval (lstep tbT qwx quT qtO qtj) vs σ
noncomputable def qlT (s:List UInt8) (at_:Int) (comment:Bool):Tr LR:=.ite (iLt at_ (sLen s)) (.ite comment (.ite (qax s at_) (.ite (iEq (sAt s at_) 37) (.ret (.next [.str s,.int .i64 (iAdd .i64 at_ 1),.bool true] ⟨[],[],[]⟩)) (.ite comment (.ite (qax s at_) (.ret (.next [.str s,.int .i64 (iAdd .i64 at_ 1),.bool (iNe (sAt s at_) 10)] ⟨[],[],[]⟩)) .fail) (.ret (.next [.str s,.int .i64 (iAdd .i64 at_ 1),.bool false] ⟨[],[],[]⟩)))) .fail) (.ite (qax s at_) (.ite (qjm (sAt s at_)) (.ite (qhk (sAt s at_)) (.ite (qax s at_) (.ite (iEq (sAt s at_) 37) (.ret (.next [.str s,.int .i64 (iAdd .i64 at_ 1),.bool true] ⟨[],[],[]⟩)) (.ite comment (.ite (qax s at_) (.ret (.next [.str s,.int .i64 (iAdd .i64 at_ 1),.bool (iNe (sAt s at_) 10)] ⟨[],[],[]⟩)) .fail) (.ret (.next [.str s,.int .i64 (iAdd .i64 at_ 1),.bool false] ⟨[],[],[]⟩)))) .fail) (.ite (qax s at_) (.ite (iEq (sAt s at_) 37) (.ite (qax s at_) (.ite (iEq (sAt s at_) 37) (.ret (.next [.str s,.int .i64 (iAdd .i64 at_ 1),.bool true] ⟨[],[],[]⟩)) (.ite comment (.ite (qax s at_) (.ret (.next [.str s,.int .i64 (iAdd .i64 at_ 1),.bool (iNe (sAt s at_) 10)] ⟨[],[],[]⟩)) .fail) (.ret (.next [.str s,.int .i64 (iAdd .i64 at_ 1),.bool false] ⟨[],[],[]⟩)))) .fail) (.ret (.out (.exit 0) [.int .i64 at_] ⟨[],[],[]⟩))) .fail)) .fail) .fail)) (.ret (.out (.exit 0) [.int .i64 at_] ⟨[],[],[]⟩))
theorem qLQ (s:List UInt8) (at_:Int) (comment:Bool):lstep tbT qwx quT qtO qtj [.str s,.int .i64 at_,.bool comment] ⟨[],[],[]⟩=qlT s at_ comment:=by kernel_rfl
theorem qEI (s:List UInt8) (at_:Int) (comment:Bool):qmD [.str s,.int .i64 at_,.bool comment] ⟨[],[],[]⟩=lnext qmD (qlT s at_ comment).run:=by unfold qmD; rw [qbF,qLQ]
noncomputable def qxT (s:List UInt8) (at_:Int) (comment:Bool):Option (PExit × List PV × Store):=qmD [.str s,.int .i64 at_,.bool comment] ⟨[],[],[]⟩
noncomputable def qlJ (s:List UInt8) (at_:Int) (comment:Bool):Int:=(gInt (gOut (qxT s at_ comment) 0))
noncomputable def qp6 (s:List UInt8) (at_:Int) (comment:Bool):Bool:=isW (qxT s at_ comment) ((.exit 0),[.int .i64 (qlJ s at_ comment)],⟨[],[],[]⟩)
noncomputable def qjR:List PV→Store→Tr (PExit × List PV × Store) | [.str s,.int .i64 at_,.bool comment],⟨[],[],[]⟩=>.ite (qp6 s at_ comment) (.ret ((.exit 0),[.int .i64 (qlJ s at_ comment)],⟨[],[],[]⟩)) (.fail) | _,_=>.fail
theorem qHz:∀ vs σ r,(qjR vs σ).run=some r→qmD vs σ=some r:=by
 intro vs σ r h
 unfold qjR at h
 split at h
 ·exact qai h fun h=>by cases h
 ·cases h
theorem qBV (gl:Gl):∀ fr σ e fr' σ',(orc qtj qjR fr σ).run=some (e,fr',σ')→LDoes Tryz.prog gl qtO fr σ e fr' σ':=qcl qaj (qAV gl ) qah (L:=quT) (qae (by kernel_rfl)) (by kernel_rfl) qHz
noncomputable def qC4:LpsT:=fun r fr σ=>bif Nat.beq r 2 then orc qtj qjR fr σ else .fail
noncomputable def qzx (s:List UInt8) (at_:Int):Tr PV:=.ite (qp6 s at_ false) (.ret (.int .i64 (qlJ s at_ false))) .fail
theorem qNf (s:List UInt8) (at_:Int):(tcall tbT qwx qC4 Tryz.f67 [.str s,.int .i64 at_]).flat=qzx s at_:=by kernel_rfl
noncomputable def qA5 (s:List UInt8) (at_:Int):Option PV:=(qzx s at_).run
noncomputable def qdn (s:List UInt8) (at_:Int):Int:=(gInt (gVal (qA5 s at_)))
noncomputable def qgt (s:List UInt8) (at_:Int):Bool:=isW (qA5 s at_) (.int .i64 (qdn s at_))
noncomputable def qEr:List PV→Tr PV | [.str s,.int .i64 at_]=>.ite (qgt s at_) (.ret (.int .i64 (qdn s at_))) (.fail) | _=>.fail
theorem qIN (gl:Gl):SimP Tryz.prog gl 67 fun args=>(qEr args).run:=by
 refine SimP.of_flat (G:=qwx) (L:=qC4) qaj (qAV gl ) qah Tryz.func67 rfl (by rfl) (by kernel_rfl) (qaX (L:=lps qC4) [(2,qtO)] (by kernel_rfl) (List.forall_mem_cons.2 ⟨fun fr σ e fr' σ' h=>qBV gl  fr σ e fr' σ' h,(List.forall_mem_nil _)⟩)) ?_
 intro args x h
 unfold qEr at h
 split at h
 ·exact (congrArg Tr.run (qNf _ _)).trans (qai h fun h=>by cases h)
 ·cases h
noncomputable def qpL:GamT:=ofL [(122,.pure quI)]
theorem qwc (gl:Gl):qaH Tryz.prog gl (gam qpL):=(qac (qBs gl) qag)
noncomputable def qpo:Code:=qeX Tryz.f95 1
def qoM:LI:=⟨18,[0,1],fun e=>match e with | .exit 0=>[1] | _=>[],true⟩
noncomputable def qq8:LpsT:=fun r fr σ=>.fail
noncomputable def qjb (vs:List PV) (σ:Store):Option (PExit × List PV × Store):=lval (lstep tbT qpL qq8 qpo qoM) vs σ
noncomputable def qiS (s:List UInt8) (at_:Int):Tr LR:=.ite (iLt at_ (sLen s)) (.ite (qax s at_) (.ite (qjW (sAt s at_)) (.ite (qjw (sAt s at_)) (.ret (.next [.str s,.int .i64 (iAdd .i64 at_ 1)] ⟨[],[],[]⟩)) (.ret (.out (.exit 0) [.int .i64 at_] ⟨[],[],[]⟩))) .fail) .fail) (.ret (.out (.exit 0) [.int .i64 at_] ⟨[],[],[]⟩))
theorem qIr (s:List UInt8) (at_:Int):lstep tbT qpL qq8 qpo qoM [.str s,.int .i64 at_] ⟨[],[],[]⟩=qiS s at_:=by kernel_rfl
theorem qAe (s:List UInt8) (at_:Int):qjb [.str s,.int .i64 at_] ⟨[],[],[]⟩=lnext qjb (qiS s at_).run:=by unfold qjb; rw [qbF,qIr]
noncomputable def qvn (s:List UInt8) (at_:Int):Option (PExit × List PV × Store):=qjb [.str s,.int .i64 at_] ⟨[],[],[]⟩
noncomputable def qjX (s:List UInt8) (at_:Int):Int:=(gInt (gOut (qvn s at_) 0))
noncomputable def qmS (s:List UInt8) (at_:Int):Bool:=isW (qvn s at_) ((.exit 0),[.int .i64 (qjX s at_)],⟨[],[],[]⟩)
noncomputable def qhZ:List PV→Store→Tr (PExit × List PV × Store) | [.str s,.int .i64 at_],⟨[],[],[]⟩=>.ite (qmS s at_) (.ret ((.exit 0),[.int .i64 (qjX s at_)],⟨[],[],[]⟩)) (.fail) | _,_=>.fail
theorem qFD:∀ vs σ r,(qhZ vs σ).run=some r→qjb vs σ=some r:=by
 intro vs σ r h
 unfold qhZ at h
 split at h
 ·exact qai h fun h=>by cases h
 ·cases h
theorem qyR (gl:Gl):∀ fr σ e fr' σ',(orc qoM qhZ fr σ).run=some (e,fr',σ')→LDoes Tryz.prog gl qpo fr σ e fr' σ':=qcl qaj (qwc gl ) qah (L:=qq8) (qae (by kernel_rfl)) (by kernel_rfl) qFD
noncomputable def qxu:LpsT:=fun r fr σ=>bif Nat.beq r 1 then orc qoM qhZ fr σ else .fail
noncomputable def qtQ (s:List UInt8) (at_:Int):Tr PV:=.ite (qmS s at_) (.ret (.int .i64 (qjX s at_))) .fail
theorem qLS (s:List UInt8) (at_:Int):(tcall tbT qpL qxu Tryz.f95 [.str s,.int .i64 at_]).flat=qtQ s at_:=by kernel_rfl
noncomputable def qvj (s:List UInt8) (at_:Int):Option PV:=(qtQ s at_).run
noncomputable def qa9 (s:List UInt8) (at_:Int):Int:=(gInt (gVal (qvj s at_)))
noncomputable def qgQ (s:List UInt8) (at_:Int):Bool:=isW (qvj s at_) (.int .i64 (qa9 s at_))
noncomputable def qya:List PV→Tr PV | [.str s,.int .i64 at_]=>.ite (qgQ s at_) (.ret (.int .i64 (qa9 s at_))) (.fail) | _=>.fail
theorem qDm (gl:Gl):SimP Tryz.prog gl 95 fun args=>(qya args).run:=by
 refine SimP.of_flat (G:=qpL) (L:=qxu) qaj (qwc gl ) qah Tryz.func95 rfl (by rfl) (by kernel_rfl) (qaX (L:=lps qxu) [(1,qpo)] (by kernel_rfl) (List.forall_mem_cons.2 ⟨fun fr σ e fr' σ' h=>qyR gl  fr σ e fr' σ' h,(List.forall_mem_nil _)⟩)) ?_
 intro args x h
 unfold qya at h
 split at h
 ·exact (congrArg Tr.run (qLS _ _)).trans (qai h fun h=>by cases h)
 ·cases h
noncomputable def qiV:GamT:=ofL [(96,.pure qlS)]
theorem qrw (gl:Gl):qaH Tryz.prog gl (gam qiV):=(qac (qmW gl) qag)
noncomputable def qjP:Code:=qeX Tryz.f98 1
def qjN:LI:=⟨18,[0,1],fun e=>match e with | .exit 0=>[1] | _=>[],true⟩
noncomputable def qk7:LpsT:=fun r fr σ=>.fail
noncomputable def qfn (vs:List PV) (σ:Store):Option (PExit × List PV × Store):=lval (lstep tbT qiV qk7 qjP qjN) vs σ
noncomputable def qfX (s:List UInt8) (at_:Int):Tr LR:=.ite (iLt at_ (sLen s)) (.ite (qax s at_) (.ite (qeI (sAt s at_)) (.ite (qe9 (sAt s at_)) (.ret (.next [.str s,.int .i64 (iAdd .i64 at_ 1)] ⟨[],[],[]⟩)) (.ret (.out (.exit 0) [.int .i64 at_] ⟨[],[],[]⟩))) .fail) .fail) (.ret (.out (.exit 0) [.int .i64 at_] ⟨[],[],[]⟩))
theorem qBB (s:List UInt8) (at_:Int):lstep tbT qiV qk7 qjP qjN [.str s,.int .i64 at_] ⟨[],[],[]⟩=qfX s at_:=by kernel_rfl
theorem qso (s:List UInt8) (at_:Int):qfn [.str s,.int .i64 at_] ⟨[],[],[]⟩=lnext qfn (qfX s at_).run:=by unfold qfn; rw [qbF,qBB]
noncomputable def qnb (s:List UInt8) (at_:Int):Option (PExit × List PV × Store):=qfn [.str s,.int .i64 at_] ⟨[],[],[]⟩
noncomputable def qgl (s:List UInt8) (at_:Int):Int:=(gInt (gOut (qnb s at_) 0))
noncomputable def qiZ (s:List UInt8) (at_:Int):Bool:=isW (qnb s at_) ((.exit 0),[.int .i64 (qgl s at_)],⟨[],[],[]⟩)
noncomputable def qe8:List PV→Store→Tr (PExit × List PV × Store) | [.str s,.int .i64 at_],⟨[],[],[]⟩=>.ite (qiZ s at_) (.ret ((.exit 0),[.int .i64 (qgl s at_)],⟨[],[],[]⟩)) (.fail) | _,_=>.fail
theorem qyW:∀ vs σ r,(qe8 vs σ).run=some r→qfn vs σ=some r:=by
 intro vs σ r h
 unfold qe8 at h
 split at h
 ·exact qai h fun h=>by cases h
 ·cases h
theorem qt3 (gl:Gl):∀ fr σ e fr' σ',(orc qjN qe8 fr σ).run=some (e,fr',σ')→LDoes Tryz.prog gl qjP fr σ e fr' σ':=qcl qaj (qrw gl ) qah (L:=qk7) (qae (by kernel_rfl)) (by kernel_rfl) qyW
noncomputable def qqS:LpsT:=fun r fr σ=>bif Nat.beq r 1 then orc qjN qe8 fr σ else .fail
noncomputable def qni (s:List UInt8) (at_:Int):Tr PV:=.ite (qiZ s at_) (.ret (.int .i64 (qgl s at_))) .fail
theorem qDo (s:List UInt8) (at_:Int):(tcall tbT qiV qqS Tryz.f98 [.str s,.int .i64 at_]).flat=qni s at_:=by kernel_rfl
noncomputable def qlo (s:List UInt8) (at_:Int):Option PV:=(qni s at_).run
noncomputable def qba (s:List UInt8) (at_:Int):Int:=(gInt (gVal (qlo s at_)))
noncomputable def qef (s:List UInt8) (at_:Int):Bool:=isW (qlo s at_) (.int .i64 (qba s at_))
noncomputable def qpU:List PV→Tr PV | [.str s,.int .i64 at_]=>.ite (qef s at_) (.ret (.int .i64 (qba s at_))) (.fail) | _=>.fail
theorem qy9 (gl:Gl):SimP Tryz.prog gl 98 fun args=>(qpU args).run:=by
 refine SimP.of_flat (G:=qiV) (L:=qqS) qaj (qrw gl ) qah Tryz.func98 rfl (by rfl) (by kernel_rfl) (qaX (L:=lps qqS) [(1,qjP)] (by kernel_rfl) (List.forall_mem_cons.2 ⟨fun fr σ e fr' σ' h=>qt3 gl  fr σ e fr' σ' h,(List.forall_mem_nil _)⟩)) ?_
 intro args x h
 unfold qpU at h
 split at h
 ·exact (congrArg Tr.run (qDo _ _)).trans (qai h fun h=>by cases h)
 ·cases h
noncomputable def qiM:GamT:=ofL []
theorem qqp (gl:Gl):qaH Tryz.prog gl (gam qiM):=qag
noncomputable def qjI:Code:=qeX Tryz.f99 2
def qkc:LI:=⟨26,[0,5],fun e=>match e with | .ret=>[4] | .exit 0=>[] | _=>[],true⟩
noncomputable def qkC:LpsT:=fun r fr σ=>.fail
noncomputable def qdH (vs:List PV) (σ:Store):Option (PExit × List PV × Store):=lval (lstep tbT qiM qkC qjI qkc) vs σ
noncomputable def qeo (s:List UInt8) (i:Int):Tr LR:=.ite (iLt i (sLen s)) (.ite (qax s i) (.ite (iEq (sAt s i) 34) (.ret (.out .ret [.int .i64 (iAdd .i64 i 1)] ⟨[],[],[]⟩)) (.ite (qax s i) (.ite (iEq (sAt s i) 92) (.ret (.next [.str s,.int .i64 (iAdd .i64 (iAdd .i64 i 1) 1)] ⟨[],[],[]⟩)) (.ret (.next [.str s,.int .i64 (iAdd .i64 i 1)] ⟨[],[],[]⟩))) .fail)) .fail) (.ret (.out (.exit 0) [] ⟨[],[],[]⟩))
theorem qBF (s:List UInt8) (i:Int):lstep tbT qiM qkC qjI qkc [.str s,.int .i64 i] ⟨[],[],[]⟩=qeo s i:=by kernel_rfl
theorem qtd (s:List UInt8) (i:Int):qdH [.str s,.int .i64 i] ⟨[],[],[]⟩=lnext qdH (qeo s i).run:=by unfold qdH; rw [qbF,qBF]
noncomputable def qha (s:List UInt8) (i:Int):Option (PExit × List PV × Store):=qdH [.str s,.int .i64 i] ⟨[],[],[]⟩
noncomputable def qeV (s:List UInt8) (i:Int):Int:=(gInt (gOut (qha s i) 0))
noncomputable def qgs (s:List UInt8) (i:Int):Bool:=isW (qha s i) (.ret,[.int .i64 (qeV s i)],⟨[],[],[]⟩)
noncomputable def qgn (s:List UInt8) (i:Int):Bool:=isW (qha s i) ((.exit 0),[],⟨[],[],[]⟩)
noncomputable def qfd:List PV→Store→Tr (PExit × List PV × Store) | [.str s,.int .i64 i],⟨[],[],[]⟩=>.ite (qgs s i) (.ret (.ret,[.int .i64 (qeV s i)],⟨[],[],[]⟩)) (.ite (qgn s i) (.ret ((.exit 0),[],⟨[],[],[]⟩)) (.fail)) | _,_=>.fail
theorem qxy:∀ vs σ r,(qfd vs σ).run=some r→qdH vs σ=some r:=by
 intro vs σ r h
 unfold qfd at h
 split at h
 ·exact qai h fun h=>qai h fun h=>by cases h
 ·cases h
theorem qtv (gl:Gl):∀ fr σ e fr' σ',(orc qkc qfd fr σ).run=some (e,fr',σ')→LDoes Tryz.prog gl qjI fr σ e fr' σ':=qcl qaj (qqp gl ) qah (L:=qkC) (qae (by kernel_rfl)) (by kernel_rfl) qxy
noncomputable def qqC:LpsT:=fun r fr σ=>bif Nat.beq r 2 then orc qkc qfd fr σ else .fail
noncomputable def qns (s:List UInt8) (at_:Int):Tr PV:=.ite (qgs s (iAdd .i64 at_ 1)) (.ret (.int .i64 (qeV s (iAdd .i64 at_ 1)))) (.ite (qgn s (iAdd .i64 at_ 1)) (.ret (.int .i64 (-1))) .fail)
theorem qFb (s:List UInt8) (at_:Int):(tcall tbT qiM qqC Tryz.f99 [.str s,.int .i64 at_]).flat=qns s at_:=by kernel_rfl
noncomputable def ql5 (s:List UInt8) (at_:Int):Option PV:=(qns s at_).run
noncomputable def qaq (s:List UInt8) (at_:Int):Int:=(gInt (gVal (ql5 s at_)))
noncomputable def qdx (s:List UInt8) (at_:Int):Bool:=isW (ql5 s at_) (.int .i64 (qaq s at_))
noncomputable def qqF:List PV→Tr PV | [.str s,.int .i64 at_]=>.ite (qdx s at_) (.ret (.int .i64 (qaq s at_))) (.fail) | _=>.fail
theorem qx5 (gl:Gl):SimP Tryz.prog gl 99 fun args=>(qqF args).run:=by
 refine SimP.of_flat (G:=qiM) (L:=qqC) qaj (qqp gl ) qah Tryz.func99 rfl (by rfl) (by kernel_rfl) (qaX (L:=lps qqC) [(2,qjI)] (by kernel_rfl) (List.forall_mem_cons.2 ⟨fun fr σ e fr' σ' h=>qtv gl  fr σ e fr' σ' h,(List.forall_mem_nil _)⟩)) ?_
 intro args x h
 unfold qqF at h
 split at h
 ·exact (congrArg Tr.run (qFb _ _)).trans (qai h fun h=>by cases h)
 ·cases h
noncomputable def qxL:GamT:=ofL []
theorem qFf (gl:Gl):qaH Tryz.prog gl (gam qxL):=qag
noncomputable def qDD:LpsT:=fun r fr σ=>.fail
noncomputable def qu7 (v:List UInt8) (v2:Int):Tr PV:=.ite (iLe 2 (iSub .i64 (sLen v) v2)) (.ite (qaA (qak v2) (qak (iAdd .i64 v2 2)) (nNat v2) (nNat (iAdd .i64 v2 2)) (nLen v)) (.ite (sEq (sSub v (nNat v2) (nNat (iAdd .i64 v2 2))) [58,45]) (.ret (.int .i64 2)) (.ite (sEq (sSub v (nNat v2) (nNat (iAdd .i64 v2 2))) [60,61]) (.ret (.int .i64 2)) (.ite (sEq (sSub v (nNat v2) (nNat (iAdd .i64 v2 2))) [62,61]) (.ret (.int .i64 2)) (.ite (sEq (sSub v (nNat v2) (nNat (iAdd .i64 v2 2))) [33,61]) (.ret (.int .i64 2)) (.ite (qax v v2) (.ite (iEq (sAt v v2) 40) (.ret (.int .i64 1)) (.ite (qax v v2) (.ite (iEq (sAt v v2) 41) (.ret (.int .i64 1)) (.ite (qax v v2) (.ite (iEq (sAt v v2) 44) (.ret (.int .i64 1)) (.ite (qax v v2) (.ite (iEq (sAt v v2) 46) (.ret (.int .i64 1)) (.ite (qax v v2) (.ite (iEq (sAt v v2) 43) (.ret (.int .i64 1)) (.ite (qax v v2) (.ite (iEq (sAt v v2) 45) (.ret (.int .i64 1)) (.ite (qax v v2) (.ite (iEq (sAt v v2) 61) (.ret (.int .i64 1)) (.ite (qax v v2) (.ite (iEq (sAt v v2) 58) (.ret (.int .i64 1)) (.ite (qax v v2) (.ite (iEq (sAt v v2) 60) (.ret (.int .i64 1)) (.ite (qax v v2) (.ite (iEq (sAt v v2) 62) (.ret (.int .i64 1)) (.ret (.int .i64 0))) .fail)) .fail)) .fail)) .fail)) .fail)) .fail)) .fail)) .fail)) .fail)) .fail))))) .fail) (.ite (sEq [] [58,45]) (.ret (.int .i64 2)) (.ite (sEq [] [60,61]) (.ret (.int .i64 2)) (.ite (sEq [] [62,61]) (.ret (.int .i64 2)) (.ite (sEq [] [33,61]) (.ret (.int .i64 2)) (.ite (qax v v2) (.ite (iEq (sAt v v2) 40) (.ret (.int .i64 1)) (.ite (qax v v2) (.ite (iEq (sAt v v2) 41) (.ret (.int .i64 1)) (.ite (qax v v2) (.ite (iEq (sAt v v2) 44) (.ret (.int .i64 1)) (.ite (qax v v2) (.ite (iEq (sAt v v2) 46) (.ret (.int .i64 1)) (.ite (qax v v2) (.ite (iEq (sAt v v2) 43) (.ret (.int .i64 1)) (.ite (qax v v2) (.ite (iEq (sAt v v2) 45) (.ret (.int .i64 1)) (.ite (qax v v2) (.ite (iEq (sAt v v2) 61) (.ret (.int .i64 1)) (.ite (qax v v2)
 (.ite (iEq (sAt v v2) 58) (.ret (.int .i64 1)) (.ite (qax v v2) (.ite (iEq (sAt v v2) 60) (.ret (.int .i64 1)) (.ite (qax v v2) (.ite (iEq (sAt v v2) 62) (.ret (.int .i64 1)) (.ret (.int .i64 0))) .fail)) .fail)) .fail)) .fail)) .fail)) .fail)) .fail)) .fail)) .fail)) .fail)))))
theorem qJB (v:List UInt8) (v2:Int):(tcall tbT qxL qDD Tryz.f100 [.str v,.int .i64 v2]).flat=qu7 v v2:=by kernel_rfl
noncomputable def qto (v:List UInt8) (v2:Int):Option PV:=(qu7 v v2).run
noncomputable def qbw (v:List UInt8) (v2:Int):Int:=(gInt (gVal (qto v v2)))
noncomputable def qfH (v:List UInt8) (v2:Int):Bool:=isW (qto v v2) (.int .i64 (qbw v v2))
noncomputable def qyT:List PV→Tr PV | [.str v,.int .i64 v2]=>.ite (qfH v v2) (.ret (.int .i64 (qbw v v2))) (.fail) | _=>.fail
theorem qET (gl:Gl):SimP Tryz.prog gl 100 fun args=>(qyT args).run:=by
 refine SimP.of_flat (G:=qxL) (L:=qDD) qaj (qFf gl ) qah Tryz.func100 rfl (by rfl) (by kernel_rfl) (qae (by kernel_rfl)) ?_
 intro args x h
 unfold qyT at h
 split at h
 ·exact (congrArg Tr.run (qJB _ _)).trans (qai h fun h=>by cases h)
 ·cases h
noncomputable def qth:GamT:=ofL [(123,.pure qs9)]
theorem qBx (gl:Gl):qaH Tryz.prog gl (gam qth):=(qac (qFI gl) qag)
noncomputable def qAM:LpsT:=fun r fr σ=>.fail
noncomputable def qrn (k:Int) (s:List UInt8) (at_:Int):Tr PV:=.ite (qiD s) (.ite (iNe (eRd s) 0) (.ret (.tup [.agg [.int .i64 0,.str [],.int .i64 0,.int .i64 0,.str [],.int .i64 0],.bool false])) (.ret (.tup [.agg [.int .i64 k,.str s,.int .i64 (kRd s),.int .i64 (nRd s),.str (sRd s),.int .i64 at_],.bool true]))) .fail
theorem qIA (k:Int) (s:List UInt8) (at_:Int):(tcall tbT qth qAM Tryz.f97 [.int .i64 k,.str s,.int .i64 at_]).flat=qrn k s at_:=by kernel_rfl
noncomputable def qeM (k:Int) (s:List UInt8) (at_:Int):Option PV:=(qrn k s at_).run
noncomputable def qdT (k:Int) (s:List UInt8) (at_:Int):Int:=(gInt (gAt (gCs (gAt (gCs (gVal (qeM k s at_))) 0)) 0))
noncomputable def qd8 (k:Int) (s:List UInt8) (at_:Int):List UInt8:=(gStr (gAt (gCs (gAt (gCs (gVal (qeM k s at_))) 0)) 1))
noncomputable def qc7 (k:Int) (s:List UInt8) (at_:Int):Int:=(gInt (gAt (gCs (gAt (gCs (gVal (qeM k s at_))) 0)) 2))
noncomputable def qc5 (k:Int) (s:List UInt8) (at_:Int):Int:=(gInt (gAt (gCs (gAt (gCs (gVal (qeM k s at_))) 0)) 3))
noncomputable def qcY (k:Int) (s:List UInt8) (at_:Int):List UInt8:=(gStr (gAt (gCs (gAt (gCs (gVal (qeM k s at_))) 0)) 4))
noncomputable def qc2 (k:Int) (s:List UInt8) (at_:Int):Int:=(gInt (gAt (gCs (gAt (gCs (gVal (qeM k s at_))) 0)) 5))
noncomputable def qdX (k:Int) (s:List UInt8) (at_:Int):Bool:=(qb0 (gAt (gCs (gVal (qeM k s at_))) 1))
noncomputable def qdg (k:Int) (s:List UInt8) (at_:Int):Bool:=isW (qeM k s at_) (.tup [.agg [.int .i64 (qdT k s at_),.str (qd8 k s at_),.int .i64 (qc7 k s at_),.int .i64 (qc5 k s at_),.str (qcY k s at_),.int .i64 (qc2 k s at_)],.bool (qdX k s at_)])
noncomputable def quH:List PV→Tr PV | [.int .i64 k,.str s,.int .i64 at_]=>.ite (qdg k s at_) (.ret (.tup [.agg [.int .i64 (qdT k s at_),.str (qd8 k s at_),.int .i64 (qc7 k s at_),.int .i64 (qc5 k s at_),.str (qcY k s at_),.int .i64 (qc2 k s at_)],.bool (qdX k s at_)])) (.fail) | _=>.fail
theorem qCa (gl:Gl):SimP Tryz.prog gl 97 fun args=>(quH args).run:=by
 refine SimP.of_flat (G:=qth) (L:=qAM) qaj (qBx gl ) qah Tryz.func97 rfl (by rfl) (by kernel_rfl) (qae (by kernel_rfl)) ?_
 intro args x h
 unfold quH at h
 split at h
 ·exact (congrArg Tr.run (qIA _ _ _)).trans (qai h fun h=>by cases h)
 ·cases h
noncomputable def qw7:GamT:=ofL [(93,.pure qok),(94,.pure qoj),(95,.pure qya),(96,.pure qlS),(97,.pure quH),(98,.pure qpU),(99,.pure qqF),(100,.pure qyT)]
theorem qFh (gl:Gl):qaH Tryz.prog gl (gam qw7):=(qac (qtf gl) (qac (qsY gl) (qac (qDm gl) (qac (qmW gl) (qac (qCa gl) (qac (qy9 gl) (qac (qx5 gl) (qac (qET gl) qag))))))))
noncomputable def qDa:LpsT:=fun r fr σ=>.fail
noncomputable def quA (v:List UInt8) (v2:Int):Tr PV:=.ite (qax v v2) (.ite (qgR (sAt v v2)) (.ite (qhy (sAt v v2)) (.ite (qgQ v v2) (.ite (qeH (sAt v v2)) (.ite (qfh (sAt v v2)) (.ite (qaA (qak v2) (qak (qa9 v v2)) (nNat v2) (nNat (qa9 v v2)) (nLen v)) (.ite (iEq (qa9 v v2) v2) (.ret (.tup [.agg [.int .i64 0,.str [],.int .i64 0,.int .i64 0,.str [],.int .i64 0],.bool false])) (.ite (iLt 64 (sLen (sSub v (nNat v2) (nNat (qa9 v v2))))) (.ret (.tup [.agg [.int .i64 0,.str [],.int .i64 0,.int .i64 0,.str [],.int .i64 0],.bool false])) (.ite (iEq 2 3) (.ite (iNe (qa9 v v2) (iAdd .i64 v2 1)) (.ret (.tup [.agg [.int .i64 0,.str [],.int .i64 0,.int .i64 0,.str [],.int .i64 0],.bool false])) (.ret (.tup [.agg [.int .i64 2,.str (sSub v (nNat v2) (nNat (qa9 v v2))),.int .i64 0,.int .i64 0,.str [],.int .i64 v2],.bool true]))) (.ret (.tup [.agg [.int .i64 2,.str (sSub v (nNat v2) (nNat (qa9 v v2))),.int .i64 0,.int .i64 0,.str [],.int .i64 v2],.bool true]))))) .fail) (.ite (qaA (qak v2) (qak (qa9 v v2)) (nNat v2) (nNat (qa9 v v2)) (nLen v)) (.ite (iEq (qa9 v v2) v2) (.ret (.tup [.agg [.int .i64 0,.str [],.int .i64 0,.int .i64 0,.str [],.int .i64 0],.bool false])) (.ite (iLt 64 (sLen (sSub v (nNat v2) (nNat (qa9 v v2))))) (.ret (.tup [.agg [.int .i64 0,.str [],.int .i64 0,.int .i64 0,.str [],.int .i64 0],.bool false])) (.ite (iEq 1 3) (.ite (iNe (qa9 v v2) (iAdd .i64 v2 1)) (.ret (.tup [.agg [.int .i64 0,.str [],.int .i64 0,.int .i64 0,.str [],.int .i64 0],.bool false])) (.ret (.tup [.agg [.int .i64 1,.str (sSub v (nNat v2) (nNat (qa9 v v2))),.int .i64 0,.int .i64 0,.str [],.int .i64 v2],.bool true]))) (.ret (.tup [.agg [.int .i64 1,.str (sSub v (nNat v2) (nNat (qa9 v v2))),.int .i64 0,.int .i64 0,.str [],.int .i64 v2],.bool true]))))) .fail)) .fail) .fail) (.ite (qeH (sAt v v2)) (.ite (qfh (sAt v v2)) (.ite (qgQ v v2) (.ite (qeH (sAt v v2))
 (.ite (qfh (sAt v v2)) (.ite (qaA (qak v2) (qak (qa9 v v2)) (nNat v2) (nNat (qa9 v v2)) (nLen v)) (.ite (iEq (qa9 v v2) v2) (.ret (.tup [.agg [.int .i64 0,.str [],.int .i64 0,.int .i64 0,.str [],.int .i64 0],.bool false])) (.ite (iLt 64 (sLen (sSub v (nNat v2) (nNat (qa9 v v2))))) (.ret (.tup [.agg [.int .i64 0,.str [],.int .i64 0,.int .i64 0,.str [],.int .i64 0],.bool false])) (.ite (iEq 2 3) (.ite (iNe (qa9 v v2) (iAdd .i64 v2 1)) (.ret (.tup [.agg [.int .i64 0,.str [],.int .i64 0,.int .i64 0,.str [],.int .i64 0],.bool false])) (.ret (.tup [.agg [.int .i64 2,.str (sSub v (nNat v2) (nNat (qa9 v v2))),.int .i64 0,.int .i64 0,.str [],.int .i64 v2],.bool true]))) (.ret (.tup [.agg [.int .i64 2,.str (sSub v (nNat v2) (nNat (qa9 v v2))),.int .i64 0,.int .i64 0,.str [],.int .i64 v2],.bool true]))))) .fail) (.ite (qaA (qak v2) (qak (qa9 v v2)) (nNat v2) (nNat (qa9 v v2)) (nLen v)) (.ite (iEq (qa9 v v2) v2) (.ret (.tup [.agg [.int .i64 0,.str [],.int .i64 0,.int .i64 0,.str [],.int .i64 0],.bool false])) (.ite (iLt 64 (sLen (sSub v (nNat v2) (nNat (qa9 v v2))))) (.ret (.tup [.agg [.int .i64 0,.str [],.int .i64 0,.int .i64 0,.str [],.int .i64 0],.bool false])) (.ite (iEq 1 3) (.ite (iNe (qa9 v v2) (iAdd .i64 v2 1)) (.ret (.tup [.agg [.int .i64 0,.str [],.int .i64 0,.int .i64 0,.str [],.int .i64 0],.bool false])) (.ret (.tup [.agg [.int .i64 1,.str (sSub v (nNat v2) (nNat (qa9 v v2))),.int .i64 0,.int .i64 0,.str [],.int .i64 v2],.bool true]))) (.ret (.tup [.agg [.int .i64 1,.str (sSub v (nNat v2) (nNat (qa9 v v2))),.int .i64 0,.int .i64 0,.str [],.int .i64 v2],.bool true]))))) .fail)) .fail) .fail) (.ite (iEq (sAt v v2) 95) (.ite (qgQ v v2) (.ite (qaA (qak v2) (qak (qa9 v v2)) (nNat v2) (nNat (qa9 v v2)) (nLen v)) (.ite (iEq (qa9 v v2) v2) (.ret (.tup [.agg [.int .i64 0,.str [],.int .i64 0,.int .i64 0,.str [],.int .i64 0],.bool false]))
 (.ite (iLt 64 (sLen (sSub v (nNat v2) (nNat (qa9 v v2))))) (.ret (.tup [.agg [.int .i64 0,.str [],.int .i64 0,.int .i64 0,.str [],.int .i64 0],.bool false])) (.ite (iEq 3 3) (.ite (iNe (qa9 v v2) (iAdd .i64 v2 1)) (.ret (.tup [.agg [.int .i64 0,.str [],.int .i64 0,.int .i64 0,.str [],.int .i64 0],.bool false])) (.ret (.tup [.agg [.int .i64 3,.str (sSub v (nNat v2) (nNat (qa9 v v2))),.int .i64 0,.int .i64 0,.str [],.int .i64 v2],.bool true]))) (.ret (.tup [.agg [.int .i64 3,.str (sSub v (nNat v2) (nNat (qa9 v v2))),.int .i64 0,.int .i64 0,.str [],.int .i64 v2],.bool true]))))) .fail) .fail) (.ite (qeI (sAt v v2)) (.ite (qe9 (sAt v v2)) (.ite (qef v (iAdd .i64 v2 1)) (.ite (qaA (qak v2) (qak (qba v (iAdd .i64 v2 1))) (nNat v2) (nNat (qba v (iAdd .i64 v2 1))) (nLen v)) (.ite (qdg 4 (sSub v (nNat v2) (nNat (qba v (iAdd .i64 v2 1)))) v2) (.ret (.tup [.agg [.int .i64 (qdT 4 (sSub v (nNat v2) (nNat (qba v (iAdd .i64 v2 1)))) v2),.str (qd8 4 (sSub v (nNat v2) (nNat (qba v (iAdd .i64 v2 1)))) v2),.int .i64 (qc7 4 (sSub v (nNat v2) (nNat (qba v (iAdd .i64 v2 1)))) v2),.int .i64 (qc5 4 (sSub v (nNat v2) (nNat (qba v (iAdd .i64 v2 1)))) v2),.str (qcY 4 (sSub v (nNat v2) (nNat (qba v (iAdd .i64 v2 1)))) v2),.int .i64 (qc2 4 (sSub v (nNat v2) (nNat (qba v (iAdd .i64 v2 1)))) v2)],.bool (qdX 4 (sSub v (nNat v2) (nNat (qba v (iAdd .i64 v2 1)))) v2)])) .fail) .fail) .fail) (.ite (iEq (sAt v v2) 45) (.ite (iLt (iAdd .i64 v2 1) (sLen v)) (.ite (qax v (iAdd .i64 v2 1)) (.ite (qeI (sAt v (iAdd .i64 v2 1))) (.ite (qe9 (sAt v (iAdd .i64 v2 1))) (.ite (qef v (iAdd .i64 v2 1)) (.ite (qaA (qak v2) (qak (qba v (iAdd .i64 v2 1))) (nNat v2) (nNat (qba v (iAdd .i64 v2 1))) (nLen v)) (.ite (qdg 4 (sSub v (nNat v2) (nNat (qba v (iAdd .i64 v2 1)))) v2) (.ret (.tup [.agg
 [.int .i64 (qdT 4 (sSub v (nNat v2) (nNat (qba v (iAdd .i64 v2 1)))) v2),.str (qd8 4 (sSub v (nNat v2) (nNat (qba v (iAdd .i64 v2 1)))) v2),.int .i64 (qc7 4 (sSub v (nNat v2) (nNat (qba v (iAdd .i64 v2 1)))) v2),.int .i64 (qc5 4 (sSub v (nNat v2) (nNat (qba v (iAdd .i64 v2 1)))) v2),.str (qcY 4 (sSub v (nNat v2) (nNat (qba v (iAdd .i64 v2 1)))) v2),.int .i64 (qc2 4 (sSub v (nNat v2) (nNat (qba v (iAdd .i64 v2 1)))) v2)],.bool (qdX 4 (sSub v (nNat v2) (nNat (qba v (iAdd .i64 v2 1)))) v2)])) .fail) .fail) .fail) (.ite (iEq (sAt v v2) 34) (.ite (qdx v v2) (.ite (iLt (qaq v v2) 0) (.ret (.tup [.agg [.int .i64 0,.str [],.int .i64 0,.int .i64 0,.str [],.int .i64 0],.bool false])) (.ite (qaA (qak v2) (qak (qaq v v2)) (nNat v2) (nNat (qaq v v2)) (nLen v)) (.ite (qdg 5 (sSub v (nNat v2) (nNat (qaq v v2))) v2) (.ret (.tup [.agg [.int .i64 (qdT 5 (sSub v (nNat v2) (nNat (qaq v v2))) v2),.str (qd8 5 (sSub v (nNat v2) (nNat (qaq v v2))) v2),.int .i64 (qc7 5 (sSub v (nNat v2) (nNat (qaq v v2))) v2),.int .i64 (qc5 5 (sSub v (nNat v2) (nNat (qaq v v2))) v2),.str (qcY 5 (sSub v (nNat v2) (nNat (qaq v v2))) v2),.int .i64 (qc2 5 (sSub v (nNat v2) (nNat (qaq v v2))) v2)],.bool (qdX 5 (sSub v (nNat v2) (nNat (qaq v v2))) v2)])) .fail) .fail)) .fail) (.ite (qfH v v2) (.ite (qaA (qak v2) (qak (iAdd .i64 v2 (qbw v v2))) (nNat v2) (nNat (iAdd .i64 v2 (qbw v v2))) (nLen v)) (.ite (iEq (iAdd .i64 v2 (qbw v v2)) v2) (.ret (.tup [.agg [.int .i64 0,.str [],.int .i64 0,.int .i64 0,.str [],.int .i64 0],.bool false])) (.ite (iLt 64 (sLen (sSub v (nNat v2) (nNat (iAdd .i64 v2 (qbw v v2)))))) (.ret (.tup [.agg [.int .i64 0,.str [],.int .i64 0,.int .i64 0,.str [],.int .i64 0],.bool false])) (.ite (iEq 6 3)
 (.ite (iNe (iAdd .i64 v2 (qbw v v2)) (iAdd .i64 v2 1)) (.ret (.tup [.agg [.int .i64 0,.str [],.int .i64 0,.int .i64 0,.str [],.int .i64 0],.bool false])) (.ret (.tup [.agg [.int .i64 6,.str (sSub v (nNat v2) (nNat (iAdd .i64 v2 (qbw v v2)))),.int .i64 0,.int .i64 0,.str [],.int .i64 v2],.bool true]))) (.ret (.tup [.agg [.int .i64 6,.str (sSub v (nNat v2) (nNat (iAdd .i64 v2 (qbw v v2)))),.int .i64 0,.int .i64 0,.str [],.int .i64 v2],.bool true]))))) .fail) .fail))) .fail) .fail) (.ite (iEq (sAt v v2) 34) (.ite (qdx v v2) (.ite (iLt (qaq v v2) 0) (.ret (.tup [.agg [.int .i64 0,.str [],.int .i64 0,.int .i64 0,.str [],.int .i64 0],.bool false])) (.ite (qaA (qak v2) (qak (qaq v v2)) (nNat v2) (nNat (qaq v v2)) (nLen v)) (.ite (qdg 5 (sSub v (nNat v2) (nNat (qaq v v2))) v2) (.ret (.tup [.agg [.int .i64 (qdT 5 (sSub v (nNat v2) (nNat (qaq v v2))) v2),.str (qd8 5 (sSub v (nNat v2) (nNat (qaq v v2))) v2),.int .i64 (qc7 5 (sSub v (nNat v2) (nNat (qaq v v2))) v2),.int .i64 (qc5 5 (sSub v (nNat v2) (nNat (qaq v v2))) v2),.str (qcY 5 (sSub v (nNat v2) (nNat (qaq v v2))) v2),.int .i64 (qc2 5 (sSub v (nNat v2) (nNat (qaq v v2))) v2)],.bool (qdX 5 (sSub v (nNat v2) (nNat (qaq v v2))) v2)])) .fail) .fail)) .fail) (.ite (qfH v v2) (.ite (qaA (qak v2) (qak (iAdd .i64 v2 (qbw v v2))) (nNat v2) (nNat (iAdd .i64 v2 (qbw v v2))) (nLen v)) (.ite (iEq (iAdd .i64 v2 (qbw v v2)) v2) (.ret (.tup [.agg [.int .i64 0,.str [],.int .i64 0,.int .i64 0,.str [],.int .i64 0],.bool false])) (.ite (iLt 64 (sLen (sSub v (nNat v2) (nNat (iAdd .i64 v2 (qbw v v2)))))) (.ret (.tup [.agg [.int .i64 0,.str [],.int .i64 0,.int .i64 0,.str [],.int .i64 0],.bool false])) (.ite (iEq 6 3) (.ite (iNe (iAdd .i64 v2 (qbw v v2)) (iAdd .i64 v2 1)) (.ret
 (.tup [.agg [.int .i64 0,.str [],.int .i64 0,.int .i64 0,.str [],.int .i64 0],.bool false])) (.ret (.tup [.agg [.int .i64 6,.str (sSub v (nNat v2) (nNat (iAdd .i64 v2 (qbw v v2)))),.int .i64 0,.int .i64 0,.str [],.int .i64 v2],.bool true]))) (.ret (.tup [.agg [.int .i64 6,.str (sSub v (nNat v2) (nNat (iAdd .i64 v2 (qbw v v2)))),.int .i64 0,.int .i64 0,.str [],.int .i64 v2],.bool true]))))) .fail) .fail))) (.ite (iEq (sAt v v2) 34) (.ite (qdx v v2) (.ite (iLt (qaq v v2) 0) (.ret (.tup [.agg [.int .i64 0,.str [],.int .i64 0,.int .i64 0,.str [],.int .i64 0],.bool false])) (.ite (qaA (qak v2) (qak (qaq v v2)) (nNat v2) (nNat (qaq v v2)) (nLen v)) (.ite (qdg 5 (sSub v (nNat v2) (nNat (qaq v v2))) v2) (.ret (.tup [.agg [.int .i64 (qdT 5 (sSub v (nNat v2) (nNat (qaq v v2))) v2),.str (qd8 5 (sSub v (nNat v2) (nNat (qaq v v2))) v2),.int .i64 (qc7 5 (sSub v (nNat v2) (nNat (qaq v v2))) v2),.int .i64 (qc5 5 (sSub v (nNat v2) (nNat (qaq v v2))) v2),.str (qcY 5 (sSub v (nNat v2) (nNat (qaq v v2))) v2),.int .i64 (qc2 5 (sSub v (nNat v2) (nNat (qaq v v2))) v2)],.bool (qdX 5 (sSub v (nNat v2) (nNat (qaq v v2))) v2)])) .fail) .fail)) .fail) (.ite (qfH v v2) (.ite (qaA (qak v2) (qak (iAdd .i64 v2 (qbw v v2))) (nNat v2) (nNat (iAdd .i64 v2 (qbw v v2))) (nLen v)) (.ite (iEq (iAdd .i64 v2 (qbw v v2)) v2) (.ret (.tup [.agg [.int .i64 0,.str [],.int .i64 0,.int .i64 0,.str [],.int .i64 0],.bool false])) (.ite (iLt 64 (sLen (sSub v (nNat v2) (nNat (iAdd .i64 v2 (qbw v v2)))))) (.ret (.tup [.agg [.int .i64 0,.str [],.int .i64 0,.int .i64 0,.str [],.int .i64 0],.bool false])) (.ite (iEq 6 3) (.ite (iNe (iAdd .i64 v2 (qbw v v2)) (iAdd .i64 v2 1)) (.ret (.tup [.agg [.int .i64 0,.str [],.int .i64 0,.int .i64 0,.str [],.int .i64 0],.bool false])) (.ret (.tup [.agg
 [.int .i64 6,.str (sSub v (nNat v2) (nNat (iAdd .i64 v2 (qbw v v2)))),.int .i64 0,.int .i64 0,.str [],.int .i64 v2],.bool true]))) (.ret (.tup [.agg [.int .i64 6,.str (sSub v (nNat v2) (nNat (iAdd .i64 v2 (qbw v v2)))),.int .i64 0,.int .i64 0,.str [],.int .i64 v2],.bool true]))))) .fail) .fail)))) .fail))) .fail)) .fail) .fail
theorem qLn (v:List UInt8) (v2:Int):(tcall tbT qw7 qDa Tryz.f68 [.str v,.int .i64 v2]).flat=quA v v2:=by kernel_rfl
noncomputable def qgC (v:List UInt8) (v2:Int):Option PV:=(quA v v2).run
noncomputable def qd4 (v:List UInt8) (v2:Int):Int:=(gInt (gAt (gCs (gAt (gCs (gVal (qgC v v2))) 0)) 0))
noncomputable def qcK (v:List UInt8) (v2:Int):List UInt8:=(gStr (gAt (gCs (gAt (gCs (gVal (qgC v v2))) 0)) 1))
noncomputable def qcM (v:List UInt8) (v2:Int):Int:=(gInt (gAt (gCs (gAt (gCs (gVal (qgC v v2))) 0)) 2))
noncomputable def qcO (v:List UInt8) (v2:Int):Int:=(gInt (gAt (gCs (gAt (gCs (gVal (qgC v v2))) 0)) 3))
noncomputable def qcN (v:List UInt8) (v2:Int):List UInt8:=(gStr (gAt (gCs (gAt (gCs (gVal (qgC v v2))) 0)) 4))
noncomputable def qcP (v:List UInt8) (v2:Int):Int:=(gInt (gAt (gCs (gAt (gCs (gVal (qgC v v2))) 0)) 5))
noncomputable def qgy (v:List UInt8) (v2:Int):Bool:=(qb0 (gAt (gCs (gVal (qgC v v2))) 1))
noncomputable def qfr (v:List UInt8) (v2:Int):Bool:=isW (qgC v v2) (.tup [.agg [.int .i64 (qd4 v v2),.str (qcK v v2),.int .i64 (qcM v v2),.int .i64 (qcO v v2),.str (qcN v v2),.int .i64 (qcP v v2)],.bool (qgy v v2)])
noncomputable def qzB:List PV→Tr PV | [.str v,.int .i64 v2]=>.ite (qfr v v2) (.ret (.tup [.agg [.int .i64 (qd4 v v2),.str (qcK v v2),.int .i64 (qcM v v2),.int .i64 (qcO v v2),.str (qcN v v2),.int .i64 (qcP v v2)],.bool (qgy v v2)])) (.fail) | _=>.fail
theorem qFX (gl:Gl):SimP Tryz.prog gl 68 fun args=>(qzB args).run:=by
 refine SimP.of_flat (G:=qw7) (L:=qDa) qaj (qFh gl ) qah Tryz.func68 rfl (by rfl) (by kernel_rfl) (qae (by kernel_rfl)) ?_
 intro args x h
 unfold qzB at h
 split at h
 ·exact (congrArg Tr.run (qLn _ _)).trans (qai h fun h=>by cases h)
 ·cases h
noncomputable def qjU:GamT:=ofL [(67,.pure qEr),(68,.pure qzB)]
theorem qsA (gl:Gl):qaH Tryz.prog gl (gam qjU):=(qac (qIN gl) (qac (qFX gl) qag))
noncomputable def qiP:Code:=qeX Tryz.f38 5
def qiQ:LI:=⟨39,[0,5,6],fun e=>match e with | .ret=>[2,3,4] | .exit 0=>[5] | _=>[],true⟩
noncomputable def qjj:LpsT:=fun r fr σ=>.fail
noncomputable def qbZ (vs:List PV) (σ:Store):Option (PExit × List PV × Store):=lval (lstep tbT qjU qjj qiP qiQ) vs σ
noncomputable def qgE (s:List UInt8) (out:List (List PV)) (at_:Int):Tr LR:=.ite (iLt at_ (sLen s)) (.ite (qfr s at_) (.ite (bNot (qgy s at_)) (.ret (.out .ret [.sl (qam 0 []) .full,.int .i64 at_,.int .i64 120] ⟨[],[],[]⟩)) (.ite (qaz out [[.int .i64 (qd4 s at_),.str (qcK s at_),.int .i64 (qcM s at_),.int .i64 (qcO s at_),.str (qcN s at_),.int .i64 (qcP s at_)]] 64) (.ite (qas [[.int .i64 (qd4 s at_),.str (qcK s at_),.int .i64 (qcM s at_),.int .i64 (qcO s at_),.str (qcN s at_),.int .i64 (qcP s at_)]] 6) (.ite (qao out 6) (.ite (qgt s (iAdd .i64 at_ (sLen (qcK s at_)))) (.ret (.next [.str s,.sl (qam 0 (xApp out [[.int .i64 (qd4 s at_),.str (qcK s at_),.int .i64 (qcM s at_),.int .i64 (qcO s at_),.str (qcN s at_),.int .i64 (qcP s at_)]])) (.tok 0),.int .i64 (qdn s (iAdd .i64 at_ (sLen (qcK s at_))))] (Store.mk [] [(nXs (xApp out [[.int .i64 (qd4 s at_),.str (qcK s at_),.int .i64 (qcM s at_),.int .i64 (qcO s at_),.str (qcN s at_),.int .i64 (qcP s at_)]]),6,120)] []))) .fail) .fail) .fail) .fail)) .fail) (.ret (.out (.exit 0) [.sl out .full] ⟨[],[],[]⟩))
theorem qD0 (s:List UInt8) (out:List (List PV)) (at_:Int):lstep tbT qjU qjj qiP qiQ [.str s,.sl out .full,.int .i64 at_] ⟨[],[],[]⟩=qgE s out at_:=by kernel_rfl
theorem qpy (s:List UInt8) (out:List (List PV)) (at_:Int):qbZ [.str s,.sl out .full,.int .i64 at_] ⟨[],[],[]⟩=lnext qbZ (qgE s out at_).run:=by unfold qbZ; rw [qbF,qD0]
noncomputable def qfP (s:List UInt8) (out:List (List PV)) (at_:Int) (k:Nat):Tr LR:=.ite (iLt at_ (sLen s)) (.ite (qfr s at_) (.ite (bNot (qgy s at_)) (.ret (.out .ret [.sl (qam 0 []) .full,.int .i64 at_,.int .i64 120] (Store.mk [] [(k,6,120)] []))) (.ite (qaz out [[.int .i64 (qd4 s at_),.str (qcK s at_),.int .i64 (qcM s at_),.int .i64 (qcO s at_),.str (qcN s at_),.int .i64 (qcP s at_)]] 64) (.ite (qas [[.int .i64 (qd4 s at_),.str (qcK s at_),.int .i64 (qcM s at_),.int .i64 (qcO s at_),.str (qcN s at_),.int .i64 (qcP s at_)]] 6) (.ite (qao out 6) (.ite (nEq k (nXs out)) (.ite (qgt s (iAdd .i64 at_ (sLen (qcK s at_)))) (.ret (.next [.str s,.sl (qam 0 (xApp out [[.int .i64 (qd4 s at_),.str (qcK s at_),.int .i64 (qcM s at_),.int .i64 (qcO s at_),.str (qcN s at_),.int .i64 (qcP s at_)]])) (.tok 0),.int .i64 (qdn s (iAdd .i64 at_ (sLen (qcK s at_))))] (Store.mk [] [(nXs (xApp out [[.int .i64 (qd4 s at_),.str (qcK s at_),.int .i64 (qcM s at_),.int .i64 (qcO s at_),.str (qcN s at_),.int .i64 (qcP s at_)]]),6,120)] []))) .fail) .fail) .fail) .fail) .fail)) .fail) (.ret (.out (.exit 0) [.sl out (.tok 0)] (Store.mk [] [(k,6,120)] [])))
theorem qCp (s:List UInt8) (out:List (List PV)) (at_:Int) (k:Nat):lstep tbT qjU qjj qiP qiQ [.str s,.sl out (.tok 0),.int .i64 at_] ⟨[],[(k,6,120)],[]⟩=qfP s out at_ k:=by kernel_rfl
theorem qmZ (s:List UInt8) (out:List (List PV)) (at_:Int) (k:Nat):qbZ [.str s,.sl out (.tok 0),.int .i64 at_] ⟨[],[(k,6,120)],[]⟩=lnext qbZ (qfP s out at_ k).run:=by unfold qbZ; rw [qbF,qCp]
noncomputable def qbL (s:List UInt8) (out:List (List PV)) (at_:Int):Option (PExit × List PV × Store):=qbZ [.str s,.sl out .full,.int .i64 at_] ⟨[],[],[]⟩
noncomputable def qdC (s:List UInt8) (out:List (List PV)) (at_:Int):List (List PV):=(gRow (gOut (qbL s out at_) 0))
noncomputable def qdz (s:List UInt8) (out:List (List PV)) (at_:Int):Int:=(gInt (gOut (qbL s out at_) 1))
noncomputable def qc4 (s:List UInt8) (out:List (List PV)) (at_:Int):Int:=(gInt (gOut (qbL s out at_) 2))
noncomputable def qeh (s:List UInt8) (out:List (List PV)) (at_:Int):Bool:=isW (qbL s out at_) (.ret,[.sl (qdC s out at_) .full,.int .i64 (qdz s out at_),.int .i64 (qc4 s out at_)],⟨[],[],[]⟩)
noncomputable def qcv (s:List UInt8) (out:List (List PV)) (at_:Int):List (List PV):=(gRow (gOut (qbL s out at_) 0))
noncomputable def qem (s:List UInt8) (out:List (List PV)) (at_:Int):Bool:=isW (qbL s out at_) ((.exit 0),[.sl (qcv s out at_) .full],⟨[],[],[]⟩)
noncomputable def qdF (s:List UInt8) (out:List (List PV)) (at_:Int):List (List PV):=(gRow (gOut (qbL s out at_) 0))
noncomputable def qdA (s:List UInt8) (out:List (List PV)) (at_:Int):Int:=(gInt (gOut (qbL s out at_) 1))
noncomputable def qcQ (s:List UInt8) (out:List (List PV)) (at_:Int):Int:=(gInt (gOut (qbL s out at_) 2))
noncomputable def qej (s:List UInt8) (out:List (List PV)) (at_:Int):Nat:=(gTok (qbL s out at_) 0)
noncomputable def qeC (s:List UInt8) (out:List (List PV)) (at_:Int):Bool:=isW (qbL s out at_) (.ret,[.sl (qdF s out at_) .full,.int .i64 (qdA s out at_),.int .i64 (qcQ s out at_)],⟨[],[((qej s out at_),6,120)],[]⟩)
noncomputable def qcs (s:List UInt8) (out:List (List PV)) (at_:Int):List (List PV):=(gRow (gOut (qbL s out at_) 0))
noncomputable def qey (s:List UInt8) (out:List (List PV)) (at_:Int):Nat:=(gTok (qbL s out at_) 0)
noncomputable def qei (s:List UInt8) (out:List (List PV)) (at_:Int):Bool:=isW (qbL s out at_) ((.exit 0),[.sl (qcs s out at_) (.tok 0)],⟨[],[((qey s out at_),6,120)],[]⟩)
noncomputable def qf9:List PV→Store→Tr (PExit × List PV × Store) | [.str s,.sl out .full,.int .i64 at_],⟨[],[],[]⟩=>.ite (qeh s out at_) (.ret (.ret,[.sl (qdC s out at_) .full,.int .i64 (qdz s out at_),.int .i64 (qc4 s out at_)],⟨[],[],[]⟩)) (.ite (qem s out at_) (.ret ((.exit 0),[.sl (qcv s out at_) .full],⟨[],[],[]⟩)) (.ite (qeC s out at_) (.ret (.ret,[.sl (qdF s out at_) .full,.int .i64 (qdA s out at_),.int .i64 (qcQ s out at_)],⟨[],[((qej s out at_),6,120)],[]⟩)) (.ite (qei s out at_) (.ret ((.exit 0),[.sl (qcs s out at_) (.tok 0)],⟨[],[((qey s out at_),6,120)],[]⟩)) (.fail)))) | _,_=>.fail
theorem qBY:∀ vs σ r,(qf9 vs σ).run=some r→qbZ vs σ=some r:=by
 intro vs σ r h
 unfold qf9 at h
 split at h
 ·exact qai h fun h=>qai h fun h=>qai h fun h=>qai h fun h=>by cases h
 ·cases h
theorem qv7 (gl:Gl):∀ fr σ e fr' σ',(orc qiQ qf9 fr σ).run=some (e,fr',σ')→LDoes Tryz.prog gl qiP fr σ e fr' σ':=qcl qaj (qsA gl ) qah (L:=qjj) (qae (by kernel_rfl)) (by kernel_rfl) qBY
noncomputable def qvk:LpsT:=fun r fr σ=>bif Nat.beq r 5 then orc qiQ qf9 fr σ else .fail
noncomputable def qrA (s:List UInt8):Tr PV:=.ite (iLt 65536 (sLen s)) (.ret (.tup [.sl [] .non,.int .i64 0,.int .i64 2])) (.ite (qgt s 0) (.ite (qeh s [] (qdn s 0)) (.ret (.tup [.sl (qb4 (qdC s [] (qdn s 0))) .non,.int .i64 (qdz s [] (qdn s 0)),.int .i64 (qc4 s [] (qdn s 0))])) (.ite (qem s [] (qdn s 0)) (.ret (.tup [.sl (qb4 (qcv s [] (qdn s 0))) .non,.int .i64 0,.int .i64 0])) (.ite (qeC s [] (qdn s 0)) (.ret (.tup [.sl (qb4 (qdF s [] (qdn s 0))) .non,.int .i64 (qdA s [] (qdn s 0)),.int .i64 (qcQ s [] (qdn s 0))])) (.ite (qei s [] (qdn s 0)) (.ret (.tup [.sl (qb4 (qcs s [] (qdn s 0))) .non,.int .i64 0,.int .i64 0])) .fail)))) .fail)
theorem qHH (s:List UInt8):(tcall tbT qjU qvk Tryz.f38 [.str s]).flat=qrA s:=by kernel_rfl
noncomputable def qho (s:List UInt8):Option PV:=(qrA s).run
noncomputable def qfb (s:List UInt8):List (List PV):=(gRow (gAt (gCs (gVal (qho s))) 0))
noncomputable def qpb (s:List UInt8):Int:=(gInt (gAt (gCs (gVal (qho s))) 1))
noncomputable def qi0 (s:List UInt8):Int:=(gInt (gAt (gCs (gVal (qho s))) 2))
noncomputable def qjz (s:List UInt8):Bool:=isW (qho s) (.tup [.sl (qfb s) .non,.int .i64 (qpb s),.int .i64 (qi0 s)])
noncomputable def quL:List PV→Tr PV | [.str s]=>.ite (qjz s) (.ret (.tup [.sl (qfb s) .non,.int .i64 (qpb s),.int .i64 (qi0 s)])) (.fail) | _=>.fail
theorem qCb (gl:Gl):SimP Tryz.prog gl 38 fun args=>(quL args).run:=by
 refine SimP.of_flat (G:=qjU) (L:=qvk) qaj (qsA gl ) qah Tryz.func38 rfl (by rfl) (by kernel_rfl) (qaX (L:=lps qvk) [(5,qiP)] (by kernel_rfl) (List.forall_mem_cons.2 ⟨fun fr σ e fr' σ' h=>qv7 gl  fr σ e fr' σ' h,(List.forall_mem_nil _)⟩)) ?_
 intro args x h
 unfold quL at h
 split at h
 ·exact (congrArg Tr.run (qHH _)).trans (qai h fun h=>by cases h)
 ·cases h
end Go.Pv
set_option maxHeartbeats 8000000
set_option maxRecDepth 200000
set_option linter.unusedSimpArgs false
set_option linter.unusedVariables false
namespace Go.Pv
open Go Go.Proofs Go.RowKit
theorem qs0 (c:Int):qpj c=some (.bool (smI c)):=by
 unfold qpj qqX smI
 by_cases h:(97:Int)≤c <;> simp [h]
@[simp] theorem qi1 (c:Int):qgR c=true:=by simp [qgR,qhy,qs0]
@[simp] theorem qmc (c:Int):qhy c=smI c:=by simp [qhy,qs0]
theorem qsN (c:Int):qpe c=some (.bool (grI c)):=by
 unfold qpe qpY grI
 by_cases h:(65:Int)≤c <;> simp [h]
@[simp] theorem qi3 (c:Int):qeH c=true:=by simp [qeH,qfh,qsN]
@[simp] theorem qmx (c:Int):qfh c=grI c:=by simp [qfh,qsN]
theorem qsU (c:Int):qo8 c=some (.bool (dgI c)):=by
 unfold qo8 qq5 dgI
 by_cases h:(48:Int)≤c <;> simp [h]
@[simp] theorem qwR (c:Int):qeI c=true:=by simp [qeI,qe9,qsU]
@[simp] theorem qAt (c:Int):qe9 c=dgI c:=by simp [qe9,qsU]
theorem qsw (c:Int):qpd c=some (.bool (inI c)):=by
 unfold qpd qqu inI
 cases h1:smI c <;> cases h2:grI c <;> cases h3:dgI c <;> simp [h1,h2,h3]
@[simp] theorem rinner_is (c:Int):qjW c=true:=by simp [qjW,qjw,qsw]
@[simp] theorem rinner_v (c:Int):qjw c=inI c:=by simp [qjw,qsw]
def blI (c:Int):Bool:=decide (c=32) || decide (c=9) || decide (c=10) || decide (c=13)
theorem qIV (b:UInt8):blI (b.toNat:Int)=blB b:=by
 unfold blI blB
 congr 1
 ·congr 1
  ·congr 1 <;> (apply decide_eq_decide.2; omega)
  ·apply decide_eq_decide.2; omega
 ·apply decide_eq_decide.2; omega
theorem qsy (c:Int):qoP c=some (.bool (blI c)):=by
 unfold qoP qrp blI
 by_cases h1:c=32 <;> by_cases h2:c=9 <;> by_cases h3:c=10 <;> simp [h1,h2,h3]
@[simp] theorem qwt (c:Int):qjm c=true:=by simp [qjm,qhk,qsy]
@[simp] theorem rblank_v (c:Int):qhk c=blI c:=by simp [qhk,qsy]
theorem qBu (s:List UInt8) (hs:s.length < 9223372036854775807):∀ (m i:Nat),i+m=s.length→qjb [.str s,.int .i64 (i:Nat)] ⟨[],[],[]⟩=some (.exit 0,[.int .i64 ((i+runL innB (s.drop i):Nat):Int)],⟨[],[],[]⟩):=by
 intro m
 induction m with
 | zero =>
  intro i hi
  rw [qAe,List.drop_eq_nil_of_le (by omega)]
  have:¬ (i:Int) < s.length:=by omega
  simp [qiS,runL,this]
 | succ m ih =>
  intro i hi
  obtain ⟨b,hb⟩:=qe3 (l:=s) (i:=i) (by omega)
  have hbe:=(List.getElem?_eq_some_iff.1 hb).2
  have w:=qbj (i:=i) (by omega)
  have hlt:i < s.length:=by omega
  have h1:=ih (i+1) (by omega)
  rw [qbx hb,qAe]
  cases hc:innB b with
  | true =>
   have e:i+(runL innB (s.drop (i+1))+1)=i+1+runL innB (s.drop (i+1)):=by omega
   simp only [runL,hc,if_true,e]
   rw [← h1]
   simp [qiS,hlt,hbe,qma,hc,w]
  | false=>simp [qiS,hlt,hbe,qma,hc,runL]
theorem qvY {s:List UInt8} (hs:s.length < 9223372036854775807) {i:Nat} (hi:i≤s.length):qvj s (i:Nat)=some (.int .i64 ((i+runL innB (s.drop i):Nat):Int)):=by
 have h:=qBu s hs (s.length - i) i (by omega)
 unfold qvj qtQ
 simp only [qmS,qjX,qvn,h]
 simp
theorem qGW {s:List UInt8} (hs:s.length < 9223372036854775807) {i:Nat} (hi:i≤s.length):qgQ s (i:Nat)=true:=by simp only [qgQ,qa9,qvY hs hi]; simp
theorem qJV {s:List UInt8} (hs:s.length < 9223372036854775807) {i:Nat} (hi:i≤s.length):qa9 s (i:Nat)=((i+runL innB (s.drop i):Nat):Int):=by simp only [qa9,qvY hs hi]; simp
theorem qv1 (s:List UInt8) (hs:s.length < 9223372036854775807):∀ (m i:Nat),i+m=s.length→qfn [.str s,.int .i64 (i:Nat)] ⟨[],[],[]⟩=some (.exit 0,[.int .i64 ((i+runL qaW (s.drop i):Nat):Int)],⟨[],[],[]⟩):=by
 intro m
 induction m with
 | zero =>
  intro i hi
  rw [qso,List.drop_eq_nil_of_le (by omega)]
  have:¬ (i:Int) < s.length:=by omega
  simp [qfX,runL,this]
 | succ m ih =>
  intro i hi
  obtain ⟨b,hb⟩:=qe3 (l:=s) (i:=i) (by omega)
  have hbe:=(List.getElem?_eq_some_iff.1 hb).2
  have w:=qbj (i:=i) (by omega)
  have hlt:i < s.length:=by omega
  have h1:=ih (i+1) (by omega)
  rw [qbx hb,qso]
  cases hc:qaW b with
  | true =>
   have e:i+(runL qaW (s.drop (i+1))+1)=i+1+runL qaW (s.drop (i+1)):=by omega
   simp only [runL,hc,if_true,e]
   rw [← h1]
   simp [qfX,hlt,hbe,qdU,hc,w]
  | false=>simp [qfX,hlt,hbe,qdU,hc,runL]
theorem qrj {s:List UInt8} (hs:s.length < 9223372036854775807) {i:Nat} (hi:i≤s.length):qlo s (i:Nat)=some (.int .i64 ((i+runL qaW (s.drop i):Nat):Int)):=by
 have h:=qv1 s hs (s.length - i) i (by omega)
 unfold qlo qni
 simp only [qiZ,qgl,qnb,h]
 simp
theorem qBn {s:List UInt8} (hs:s.length < 9223372036854775807) {i:Nat} (hi:i≤s.length):qef s (i:Nat)=true:=by simp only [qef,qba,qrj hs hi]; simp
theorem qDS {s:List UInt8} (hs:s.length < 9223372036854775807) {i:Nat} (hi:i≤s.length):qba s (i:Nat)=((i+runL qaW (s.drop i):Nat):Int):=by simp only [qba,qrj hs hi]; simp
theorem qF0 (s:List UInt8) (hs:s.length < 9223372036854775807):∀ (m i:Nat) (c:Bool),i+m=s.length→qmD [.str s,.int .i64 (i:Nat),.bool c] ⟨[],[],[]⟩=some (.exit 0,[.int .i64 ((i+gapL c (s.drop i):Nat):Int)],⟨[],[],[]⟩):=by
 intro m
 induction m with
 | zero =>
  intro i c hi
  rw [qEI,List.drop_eq_nil_of_le (by omega)]
  have:¬ (i:Int) < s.length:=by omega
  simp [qlT,gapL,this]
 | succ m ih =>
  intro i c hi
  obtain ⟨b,hb⟩:=qe3 (l:=s) (i:=i) (by omega)
  have hbe:=(List.getElem?_eq_some_iff.1 hb).2
  have w:=qbj (i:=i) (by omega)
  have hlt:i < s.length:=by omega
  rw [qbx hb,qEI]
  have q1:iEq (sAt s (i:Int)) 37=decide (b.toNat=37):=by simp [hlt,hbe]; omega
  have q2:iNe (sAt s (i:Int)) 10=decide (b.toNat≠10):=by simp [hlt,hbe]; omega
  have q3:qhk (sAt s (i:Int))=blB b:=by simp [hlt,hbe,qIV]
  have q4:qax s (i:Int)=true:=by simp; omega
  have q5:iLt (i:Int) (sLen s)=true:=by simp; omega
  have h1:=ih (i+1) (decide (b.toNat=37) || c && decide (b.toNat≠10)) (by omega)
  cases hg:(c || blB b || decide (b.toNat=37)) with
  | true =>
   have e:gapL c (b :: s.drop (i+1))=gapL (decide (b.toNat=37) || c && decide (b.toNat≠10)) (s.drop (i+1))+1:=by
    simp only [gapL,hg,if_true]
   rw [e,show i+(gapL (decide (b.toNat=37) || c && decide (b.toNat≠10)) (s.drop (i+1))+1)=i+1+gapL (decide (b.toNat=37) || c && decide (b.toNat≠10)) (s.drop (i+1)) from by omega,← h1]
   simp only [qlT,q1,q2,q3,q4,q5,qwt,w]
   cases c <;> cases hb2:blB b <;> by_cases h37:b.toNat=37 <;> simp [hb2,h37] at hg ⊢
  | false =>
   have e:gapL c (b :: s.drop (i+1))=0:=by
    simp only [gapL,hg,Bool.false_eq_true,if_false]
   rw [e]
   simp only [Bool.or_eq_false_iff,decide_eq_false_iff_not] at hg
   obtain ⟨⟨rfl,hb2⟩,h37⟩:=hg
   simp only [qlT,q1,q2,q3,q4,q5,qwt,w,hb2]
   simp [h37]
theorem qAi {s:List UInt8} (hs:s.length < 9223372036854775807) {i:Nat} (hi:i≤s.length):qA5 s (i:Nat)=some (.int .i64 ((i+gapL false (s.drop i):Nat):Int)):=by
 have h:=qF0 s hs (s.length - i) i false (by omega)
 unfold qA5 qzx
 simp only [qp6,qlJ,qxT,h]
 simp
theorem qC1 {s:List UInt8} (hs:s.length < 9223372036854775807) {i:Nat} (hi:i≤s.length):qgt s (i:Nat)=true:=by simp only [qgt,qdn,qAi hs hi]; simp
theorem qJg {s:List UInt8} (hs:s.length < 9223372036854775807) {i:Nat} (hi:i≤s.length):qdn s (i:Nat)=((i+gapL false (s.drop i):Nat):Int):=by simp only [qdn,qAi hs hi]; simp
theorem qv4 (s:List UInt8) (hs:s.length < 9223372036854775800):∀ (m i:Nat),s.length≤i+m→i≤s.length+1→qdH [.str s,.int .i64 (i:Nat)] ⟨[],[],[]⟩=qOut i (quoE false (s.drop i)):=by
 have hend:∀ i:Nat,s.length≤i→qdH [.str s,.int .i64 (i:Nat)] ⟨[],[],[]⟩=some (.exit 0,[],⟨[],[],[]⟩):=fun i hi=>by
  rw [qtd]
  have:¬ (i:Int) < s.length:=by omega
  simp [qeo,this]
 intro m
 induction m with
 | zero =>
  intro i hi _
  rw [hend i (by omega),List.drop_eq_nil_of_le (by omega)]
  simp [quoE,qOut]
 | succ m ih =>
  intro i hi hi2
  by_cases hlt:i < s.length
  ·obtain ⟨b,hb⟩:=qe3 (l:=s) (i:=i) hlt
   have hbe:=(List.getElem?_eq_some_iff.1 hb).2
   have w:=qbj (i:=i) (by omega)
   have w2:=qbj (i:=i+1) (by omega)
   have h1:=ih (i+1) (by omega) (by omega)
   rw [qbx hb,qtd]
   simp only [quoE]
   have t1:iLt (i:Int) (sLen s)=true:=by simp; omega
   have t2:qax s (i:Int)=true:=by simp; omega
   have t3:sAt s (i:Int)=b.toNat:=by simp [hbe,hlt]
   by_cases hq:b.toNat=34
   ·rw [if_pos hq]
    simp only [qeo,t1,t2,t3]
    simp [hq,w,qOut]
   ·rw [if_neg hq]
    have hq':¬ ((b.toNat:Int)=34):=by omega
    by_cases hp:b.toNat=92
    ·rw [if_pos hp,qjM]
     have e1:qdH [.str s,.int .i64 (iAdd .i64 (iAdd .i64 (i:Int) 1) 1)] ⟨[],[],[]⟩=qOut (i+1) (quoE true (s.drop (i+1))):=by
      rw [w,w2]
      by_cases hl2:i+1 < s.length
      ·obtain ⟨c,hc⟩:=qe3 (l:=s) (i:=i+1) hl2
       rw [qbx hc]
       simp only [quoE]
       rw [qjM]
       exact ih (i+1+1) (by omega) (by omega)
      ·rw [hend (i+1+1) (by omega),List.drop_eq_nil_of_le (by omega)]
       simp [quoE,qOut]
     rw [← e1]
     simp only [qeo,t1,t2,t3]
     simp [hp]
    ·have hp':¬ ((b.toNat:Int)=92):=by omega
     rw [if_neg hp,qjM,← h1,← w]
     simp only [qeo,t1,t2,t3]
     simp [hq',hp']
  ·rw [hend i (by omega),List.drop_eq_nil_of_le (by omega)]
   simp [quoE,qOut]
theorem qp2 {s:List UInt8} (hs:s.length < 9223372036854775800) {i:Nat} (hi:i < s.length):ql5 s (i:Nat)=some (.int .i64 (if quoL (s.drop (i+1))=0 then -1 else ((i+1+quoL (s.drop (i+1)):Nat):Int))):=by
 have h:=qv4 s hs (s.length - (i+1)) (i+1) (by omega) (by omega)
 have w:=qbj (i:=i) (by omega)
 unfold ql5 qns
 rw [w]
 unfold qOut at h
 rw [show quoE false (s.drop (i+1))=quoL (s.drop (i+1)) from rfl] at h
 by_cases h0:quoL (s.drop (i+1))=0
 ·rw [if_pos h0] at h ⊢
  simp only [qgs,qgn,qeV,qha,h]
  simp
 ·rw [if_neg h0] at h ⊢
  simp only [qgs,qgn,qeV,qha,h]
  simp
theorem qCA {s:List UInt8} (hs:s.length < 9223372036854775800) {i:Nat} (hi:i < s.length):qdx s (i:Nat)=true:=by simp only [qdx,qaq,qp2 hs hi]; simp
theorem qCM {s:List UInt8} (hs:s.length < 9223372036854775800) {i:Nat} (hi:i < s.length):qaq s (i:Nat)=(if quoL (s.drop (i+1))=0 then -1 else ((i+1+quoL (s.drop (i+1)):Nat):Int)):=by simp only [qaq,qp2 hs hi]; simp
theorem qsH {s:List UInt8} (hs:s.length≤140737488355328) (k at_:Int):qeM k s at_=some (if eRd s=0 then wTup k s (kRd s,nRd s,sRd s) at_ true else wTup 0 [] (0,0,[]) 0 false):=by
 unfold qeM qrn wTup
 by_cases h:eRd s=0 <;> simp [hs,h]
theorem qrv {s:List UInt8} (hs:s.length≤140737488355328) (k at_:Int):qdg k s at_=true:=by
 simp only [qdg,qdT,qd8,qc7,qc5,qcY,qc2,qdX,qsH hs]
 by_cases h:eRd s=0 <;> simp [h,wTup]
theorem qtP {s:List UInt8} (hs:s.length≤140737488355328) (k at_:Int):(PV.tup [.agg [.int .i64 (qdT k s at_),.str (qd8 k s at_),.int .i64 (qc7 k s at_),.int .i64 (qc5 k s at_),.str (qcY k s at_),.int .i64 (qc2 k s at_)],.bool (qdX k s at_)])=if eRd s=0 then wTup k s (kRd s,nRd s,sRd s) at_ true else wTup 0 [] (0,0,[]) 0 false:=by
 simp only [qdT,qd8,qc7,qc5,qcY,qc2,qdX,qsH hs]
 by_cases h:eRd s=0 <;> simp [h,wTup]
theorem qvG {v:List UInt8} (hs:v.length < 9223372036854775800) {i:Nat} {c:UInt8} {t:List UInt8} (hv:v.drop i=c :: t):qto v (i:Nat)=some (.int .i64 (qeg c t:Nat)):=by
 have hl:v.length=i+(t.length+1):=by
  have:=congrArg List.length hv
  simp at this
  omega
 have hc:v[i]?=some c:=by
  have:(v.drop i)[0]?=some c:=by rw [hv]; rfl
  simpa using this
 have hbe:=(List.getElem?_eq_some_iff.1 hc).2
 have e3:sAt v (i:Int)=(c.toNat:Int):=by
  have:i < v.length:=by omega
  simp [this,hbe]
 have q:qax v (i:Int)=true:=by simp; omega
 have k40:iEq (sAt v (i:Int)) 40=decide (c.toNat=40):=by rw [e3]; simp; omega
 have k41:iEq (sAt v (i:Int)) 41=decide (c.toNat=41):=by rw [e3]; simp; omega
 have k44:iEq (sAt v (i:Int)) 44=decide (c.toNat=44):=by rw [e3]; simp; omega
 have k46:iEq (sAt v (i:Int)) 46=decide (c.toNat=46):=by rw [e3]; simp; omega
 have k43:iEq (sAt v (i:Int)) 43=decide (c.toNat=43):=by rw [e3]; simp; omega
 have k45:iEq (sAt v (i:Int)) 45=decide (c.toNat=45):=by rw [e3]; simp; omega
 have k61:iEq (sAt v (i:Int)) 61=decide (c.toNat=61):=by rw [e3]; simp; omega
 have k58:iEq (sAt v (i:Int)) 58=decide (c.toNat=58):=by rw [e3]; simp; omega
 have k60:iEq (sAt v (i:Int)) 60=decide (c.toNat=60):=by rw [e3]; simp; omega
 have k62:iEq (sAt v (i:Int)) 62=decide (c.toNat=62):=by rw [e3]; simp; omega
 have w2:iAdd .i64 (i:Int) 2=((i+2:Nat):Int):=qa3 (by omega)
 have w3:iSub .i64 (sLen v) (i:Int)=((t.length+1:Nat):Int):=by
  rw [qhR]
  unfold iSub
  rw [qa3 (by omega)]
  omega
 have ones:∀ T:Option PV,T=(if c.toNat=40 then some (.int .i64 1) else if c.toNat=41 then some (.int .i64 1) else if c.toNat=44 then some (.int .i64 1) else if c.toNat=46 then some (.int .i64 1) else if c.toNat=43 then some (.int .i64 1) else if c.toNat=45 then some (.int .i64 1) else if c.toNat=61 then some (.int .i64 1) else if c.toNat=58 then some (.int .i64 1) else if c.toNat=60 then some (.int .i64 1) else if c.toNat=62 then some (.int .i64 1) else some (.int .i64 0))→T=some (.int .i64 ((if qkd c then 1 else 0:Nat):Int)):=fun T hT=>by
  rw [hT]
  cases ho:qkd c with
  | true =>
   simp [qkd] at ho
   simp only [if_true]
   repeat' split
   all_goals first | rfl | (exfalso; omega)
  | false =>
   simp [qkd] at ho
   simp only [Bool.false_eq_true,if_false]
   repeat' split
   all_goals first | rfl | (exfalso; omega)
 unfold qto qu7 qeg
 rw [w3,w2]
 cases t with
 | nil =>
  have g:iLe 2 (([]:List UInt8).length+1:Nat)=false:=by decide
  rw [g]
  simp only [hdIs,Bool.false_eq_true,if_false]
  refine ones _ ?_
  simp only [k40,k41,k44,k46,k43,k45,k61,k58,k60,k62,q]
  simp
 | cons d u =>
  have g:iLe 2 (((d :: u).length+1:Nat):Int)=true:=by simp; omega
  have g2:qaA (qak (i:Int)) (qak ((i+2:Nat):Int)) (nNat (i:Int)) (nNat ((i+2:Nat):Int)) (nLen v)=true:=by simp at hl ⊢; omega
  have g3:sSub v (nNat (i:Int)) (nNat ((i+2:Nat):Int))=[c,d]:=by
   simp only [qtI,qvA,Int.toNat_natCast]
   rw [List.drop_take,hv,show i+2 - i=2 from by omega]
   rfl
  rw [g,g2,g3]
  have two:∀ a b:UInt8,sEq [c,d] [a,b]=decide (c.toNat=a.toNat∧d.toNat=b.toNat):=fun a b=>by
   simp [← UInt8.toNat_inj]
  rw [two,two,two,two]
  have ht:hdIs (twoB c) (d :: u)=(decide (c.toNat=58∧d.toNat=45) || decide (c.toNat=60∧d.toNat=61) || decide (c.toNat=62∧d.toNat=61) || decide (c.toNat=33∧d.toNat=61)):=rfl
  rw [ht]
  by_cases z1:c.toNat=58∧d.toNat=45
  ·simp [z1]
  ·by_cases z2:c.toNat=60∧d.toNat=61
   ·simp [z2]
   ·by_cases z3:c.toNat=62∧d.toNat=61
    ·simp [z3]
    ·by_cases z4:c.toNat=33∧d.toNat=61
     ·simp [z4]
     ·have y1:decide (c.toNat=(58:UInt8).toNat∧d.toNat=(45:UInt8).toNat)=false:=decide_eq_false z1
      have y2:decide (c.toNat=(60:UInt8).toNat∧d.toNat=(61:UInt8).toNat)=false:=decide_eq_false z2
      have y3:decide (c.toNat=(62:UInt8).toNat∧d.toNat=(61:UInt8).toNat)=false:=decide_eq_false z3
      have y4:decide (c.toNat=(33:UInt8).toNat∧d.toNat=(61:UInt8).toNat)=false:=decide_eq_false z4
      rw [y1,y2,y3,y4,decide_eq_false z1,decide_eq_false z2,decide_eq_false z3,decide_eq_false z4]
      simp only [Bool.or_false,Bool.false_eq_true,if_false]
      refine ones _ ?_
      simp only [k40,k41,k44,k46,k43,k45,k61,k58,k60,k62,q]
      simp
theorem qHJ {v:List UInt8} (hs:v.length < 9223372036854775800) {i:Nat} {c:UInt8} {t:List UInt8} (hv:v.drop i=c :: t):qfH v (i:Nat)=true:=by simp only [qfH,qbw,qvG hs hv]; simp
theorem qKC {v:List UInt8} (hs:v.length < 9223372036854775800) {i:Nat} {c:UInt8} {t:List UInt8} (hv:v.drop i=c :: t):qbw v (i:Nat)=(qeg c t:Nat):=by simp only [qbw,qvG hs hv]; simp
def rOut (v:List UInt8) (i:Nat):Option (Int × Nat × Vl)→PV
 | some (k,m,x)=>wTup k ((v.drop i).take m) x (i:Nat) true
 | none=>wTup 0 [] (0,0,[]) 0 false
theorem qzi (k:Int) (s:List UInt8) (n:Nat) (v:List UInt8) (i:Nat) (hv:v.drop i=s):rOut v i (valL k s n)=if eRd (s.take n)=0 then wTup k (s.take n) (kRd (s.take n),nRd (s.take n),sRd (s.take n)) (i:Nat) true else wTup 0 [] (0,0,[]) 0 false:=by
 unfold valL eRd kRd nRd sRd rOut
 rw [hv]
 cases h:rdV (s.take n) <;> simp
theorem qE8 {v:List UInt8} (hs:v.length≤140737488355328) {i:Nat} {c:UInt8} {t:List UInt8} (hv:v.drop i=c :: t):qgC v (i:Nat)=some (rOut v i (wdL (c :: t))):=by
 have hs1:v.length < 9223372036854775807:=by omega
 have hs2:v.length < 9223372036854775800:=by omega
 have hl:v.length=i+(t.length+1):=by
  have:=congrArg List.length hv
  simp at this
  omega
 have hc:v[i]?=some c:=by
  have:(v.drop i)[0]?=some c:=by rw [hv]; rfl
  simpa using this
 have ht:v.drop (i+1)=t:=by rw [← List.drop_drop,hv]; rfl
 have hbe:=(List.getElem?_eq_some_iff.1 hc).2
 have hlt:i < v.length:=by omega
 have e3:sAt v (i:Int)=(c.toNat:Int):=by simp [hlt,hbe]
 have w:=qbj (i:=i) (by omega)
 -- parts of the text from i
 have hsub:∀ n:Nat,sSub v (nNat (i:Int)) (nNat ((i+n:Nat):Int))=(c :: t).take n:=fun n=>by
  simp only [qtI,qvA,Int.toNat_natCast]
  rw [List.drop_take,hv,show i+n - i=n from by omega]
 have hok:∀ n:Nat,n≤t.length+1→qaA (qak (i:Int)) (qak ((i+n:Nat):Int)) (nNat (i:Int)) (nNat ((i+n:Nat):Int)) (nLen v)=true:=fun n hn=>by simp; omega
 have hne:∀ n:Nat,n≠0→iEq ((i+n:Nat):Int) (i:Int)=false:=fun n hn=>by simp; omega
 have hln:∀ n:Nat,n≤t.length+1→iLt 64 (sLen ((c :: t).take n))=decide (64 < n):=fun n hn=>by
  simp only [qhR,qz6,List.length_take,List.length_cons]
  apply decide_eq_decide.2
  omega
 have q0:qax v (i:Int)=true:=by simp; omega
 have q1:smI (sAt v (i:Int))=qfG c:=by rw [e3,qAL]
 have q2:grI (sAt v (i:Int))=qiU c:=by rw [e3,qBc]
 have q3:iEq (sAt v (i:Int)) 95=decide (c.toNat=95):=by rw [e3]; simp; omega
 have q4:dgI (sAt v (i:Int))=qaW c:=by rw [e3,qdU]
 have q5:iEq (sAt v (i:Int)) 45=decide (c.toNat=45):=by rw [e3]; simp; omega
 have q6:iEq (sAt v (i:Int)) 34=decide (c.toNat=34):=by rw [e3]; simp; omega
 have n1:=qGW hs1 (i:=i) (by omega)
 have n2:=qJV hs1 (i:=i) (by omega)
 rw [hv] at n2
 have z23:iEq 2 3=false:=by decide
 have z13:iEq 1 3=false:=by decide
 have z33:iEq 3 3=true:=by decide
 have z63:iEq 6 3=false:=by decide
 have hr1:=qlh innB t
 unfold qgC quA
 by_cases h1:qfG c=true
 ·have e:runL innB (c :: t)=runL innB t+1:=by simp [runL,innB,h1]
  rw [e] at n2
  have g:qiU c=false:=by
   simp [qfG] at h1
   simp [qiU]
   omega
  simp only [q0,qi1,qmc,qi3,qmx,q1,q2,h1,g,n1,n2,hok (runL innB t+1) (by omega),hne (runL innB t+1) (by omega),hsub,hln (runL innB t+1) (by omega),z13,wdL,if_true]
  by_cases h64:runL innB t+1≤64
  ·have:¬ 64 < runL innB t+1:=by omega
   simp [this,h64,rOut,wTup,hv]
  ·have:64 < runL innB t+1:=by omega
   simp [this,h64,rOut,wTup]
 ·have h1':qfG c=false:=by simpa using h1
  by_cases h2:qiU c=true
  ·have e:runL innB (c :: t)=runL innB t+1:=by simp [runL,innB,h2]
   rw [e] at n2
   simp only [q0,qi1,qmc,qi3,qmx,q1,q2,h1',h2,n1,n2,hok (runL innB t+1) (by omega),hne (runL innB t+1) (by omega),hsub,hln (runL innB t+1) (by omega),z23,wdL,if_true,Bool.false_eq_true,if_false]
   by_cases h64:runL innB t+1≤64
   ·have:¬ 64 < runL innB t+1:=by omega
    simp [this,h64,rOut,wTup,hv]
   ·have:64 < runL innB t+1:=by omega
    simp [this,h64,rOut,wTup]
  ·have h2':qiU c=false:=by simpa using h2
   by_cases h3:c.toNat=95
   ·have e:runL innB (c :: t)=runL innB t+1:=by simp [runL,innB,h3]
    rw [e] at n2
    have ee:wdL (c :: t)=if hdIs innB t then none else some (3,1,0,0,[]):=by
     show (if qfG c=true then _ else _)=_
     rw [if_neg h1,if_neg h2,if_pos h3]
    have nn:iNe ((i+(runL innB t+1):Nat):Int) (iAdd .i64 (i:Int) 1)=hdIs innB t:=by
     rw [w]
     cases t with
     | nil=>simp [runL,hdIs]
     | cons d u =>
      simp only [runL,hdIs]
      cases innB d <;> simp <;> omega
    rw [ee]
    simp only [q0,qi1,qmc,qi3,qmx,q1,q2,h1',h2',q3,h3,decide_true,n1,n2,hok (runL innB t+1) (by omega),hne (runL innB t+1) (by omega),hsub,hln (runL innB t+1) (by omega),z33,nn]
    cases hh:hdIs innB t with
    | true =>
     by_cases h64:64 < runL innB t+1 <;> simp [h64,rOut,wTup]
    | false =>
     have r0:runL innB t=0:=by
      cases t with
      | nil=>rfl
      | cons d u=>simp [hdIs] at hh; simp [runL,hh]
     rw [r0]
     simp [rOut,wTup,hv]
   ·have val:∀ (k:Int) (n:Nat),n≤t.length+1→((c :: t).take n).length≤140737488355328:=fun k n hn=>by rw [List.length_take]; simp; omega
    have hr2:=qlh qaW t
    have d1:qef v ((i+1:Nat):Int)=true:=qBn hs1 (by omega)
    have d2:qba v ((i+1:Nat):Int)=((i+(runL qaW t+1):Nat):Int):=by
     rw [qDS hs1 (by omega),ht]
     congr 1
     omega
    by_cases h4:qaW c=true
    ·have ee:wdL (c :: t)=valL 4 (c :: t) (runL qaW t+1):=by
      show (if qfG c=true then _ else _)=_
      rw [if_neg h1,if_neg h2,if_neg h3,if_pos (by simp [h4])]
     rw [ee,qzi 4 (c :: t) _ v i hv]
     simp only [q0,qi1,qmc,qi3,qmx,q1,q2,h1',h2',q3,decide_eq_false h3,qwR,qAt,q4,h4,w,d1,d2,hok (runL qaW t+1) (by omega),hsub,qrv (val 4 (runL qaW t+1) (by omega)),qtP (val 4 (runL qaW t+1) (by omega))]
     rfl
    ·have h4':qaW c=false:=by simpa using h4
     -- a symbol,or a mark
     have rest:∀ T:Tr PV,(c.toNat=45→hdIs qaW t=false)→T.run=(Tr.ite (iEq (sAt v (i:Int)) 34)
       (Tr.ite (qdx v (i:Int))
        (Tr.ite (iLt (qaq v (i:Int)) 0)
         (Tr.ret (PV.tup [PV.agg [PV.int .i64 0,PV.str [],PV.int .i64 0,PV.int .i64 0,PV.str [],PV.int .i64 0],PV.bool false]))
         (Tr.ite (qaA (qak (i:Int)) (qak (qaq v (i:Int))) (nNat (i:Int)) (nNat (qaq v (i:Int))) (nLen v))
          (Tr.ite (qdg 5 (sSub v (nNat (i:Int)) (nNat (qaq v (i:Int)))) (i:Int))
           (Tr.ret (PV.tup [PV.agg [PV.int .i64 (qdT 5 (sSub v (nNat (i:Int)) (nNat (qaq v (i:Int)))) (i:Int)),PV.str (qd8 5 (sSub v (nNat (i:Int)) (nNat (qaq v (i:Int)))) (i:Int)),PV.int .i64 (qc7 5 (sSub v (nNat (i:Int)) (nNat (qaq v (i:Int)))) (i:Int)),PV.int .i64 (qc5 5 (sSub v (nNat (i:Int)) (nNat (qaq v (i:Int)))) (i:Int)),PV.str (qcY 5 (sSub v (nNat (i:Int)) (nNat (qaq v (i:Int)))) (i:Int)),PV.int .i64 (qc2 5 (sSub v (nNat (i:Int)) (nNat (qaq v (i:Int)))) (i:Int))],PV.bool (qdX 5 (sSub v (nNat (i:Int)) (nNat (qaq v (i:Int)))) (i:Int))]))
           Tr.fail)
          Tr.fail))
        Tr.fail)
       (Tr.ite (qfH v (i:Int))
        (Tr.ite (qaA (qak (i:Int)) (qak (iAdd .i64 (i:Int) (qbw v (i:Int)))) (nNat (i:Int)) (nNat (iAdd .i64 (i:Int) (qbw v (i:Int)))) (nLen v))
         (Tr.ite (iEq (iAdd .i64 (i:Int) (qbw v (i:Int))) (i:Int))
          (Tr.ret (PV.tup [PV.agg [PV.int .i64 0,PV.str [],PV.int .i64 0,PV.int .i64 0,PV.str [],PV.int .i64 0],PV.bool false]))
          (Tr.ite (iLt 64 (sLen (sSub v (nNat (i:Int)) (nNat (iAdd .i64 (i:Int) (qbw v (i:Int)))))))
           (Tr.ret (PV.tup [PV.agg [PV.int .i64 0,PV.str [],PV.int .i64 0,PV.int .i64 0,PV.str [],PV.int .i64 0],PV.bool false]))
           (Tr.ite (iEq 6 3)
            (Tr.ite (iNe (iAdd .i64 (i:Int) (qbw v (i:Int))) (iAdd .i64 (i:Int) 1))
             (Tr.ret (PV.tup [PV.agg [PV.int .i64 0,PV.str [],PV.int .i64 0,PV.int .i64 0,PV.str [],PV.int .i64 0],PV.bool false]))
             (Tr.ret (PV.tup [PV.agg [PV.int .i64 6,PV.str (sSub v (nNat (i:Int)) (nNat (iAdd .i64 (i:Int) (qbw v (i:Int))))),PV.int .i64 0,PV.int .i64 0,PV.str [],PV.int .i64 (i:Int)],PV.bool true])))
            (Tr.ret (PV.tup [PV.agg [PV.int .i64 6,PV.str (sSub v (nNat (i:Int)) (nNat (iAdd .i64 (i:Int) (qbw v (i:Int))))),PV.int .i64 0,PV.int .i64 0,PV.str [],PV.int .i64 (i:Int)],PV.bool true])))))
         Tr.fail)
        Tr.fail)).run→T.run=some (rOut v i (wdL (c :: t))):=by
      intro T h45 hT
      rw [hT,q6]
      have hd:¬ (qaW c || (decide (c.toNat=45) && hdIs qaW t))=true:=by
       rw [h4']
       by_cases hc45:c.toNat=45
       ·simp [hc45,h45 hc45]
       ·simp [hc45]
      by_cases h6:c.toNat=34
      ·have ee:wdL (c :: t)=if quoL t=0 then none else valL 5 (c :: t) (quoL t+1):=by
        show (if qfG c=true then _ else _)=_
        rw [if_neg h1,if_neg h2,if_neg h3,if_neg hd,if_pos h6]
       rw [ee,decide_eq_true h6,qCA hs2 hlt,qCM hs2 hlt,ht]
       have hq:=qyY t
       by_cases h0:quoL t=0
       ·rw [if_pos h0,if_pos h0]
        rfl
       ·rw [if_neg h0,if_neg h0,qzi 5 (c :: t) _ v i hv]
        have e5:((i+1+quoL t:Nat):Int)=((i+(quoL t+1):Nat):Int):=by omega
        have e6:iLt ((i+(quoL t+1):Nat):Int) 0=false:=by simp; omega
        rw [e5,e6,hok (quoL t+1) (by omega),hsub,qrv (val 5 (quoL t+1) (by omega)),qtP (val 5 (quoL t+1) (by omega))]
        rfl
      ·have ee:wdL (c :: t)=if qeg c t=0 then none else some (6,qeg c t,0,0,[]):=by
        show (if qfG c=true then _ else _)=_
        rw [if_neg h1,if_neg h2,if_neg h3,if_neg hd,if_neg h6]
       have hm:qeg c t≤t.length+1∧qeg c t≤2:=by
        unfold qeg
        cases t with
        | nil=>cases qkd c <;> simp [hdIs]
        | cons d u=>cases hdIs (twoB c) (d :: u) <;> cases qkd c <;> simp
       have wm:iAdd .i64 (i:Int) ((qeg c t:Nat):Int)=((i+qeg c t:Nat):Int):=qa3 (by omega)
       rw [ee,decide_eq_false h6,qHJ hs2 hv,qKC hs2 hv,wm,hok (qeg c t) hm.1,hsub,hln (qeg c t) hm.1,z63]
       by_cases h0:qeg c t=0
       ·rw [if_pos h0,h0]
        have:iEq ((i+0:Nat):Int) (i:Int)=true:=by simp
        rw [this]
        rfl
       ·have:decide (64 < qeg c t)=false:=decide_eq_false (by omega)
        rw [if_neg h0,hne _ h0,this]
        simp [rOut,wTup,hv]
     simp only [q0,qi1,qmc,qi3,qmx,q1,q2,h1',h2',q3,decide_eq_false h3,qwR,qAt,q4,h4',q5,w]
     by_cases h45:c.toNat=45
     ·rw [decide_eq_true h45]
      cases t with
      | nil =>
       have g:iLt ((i+1:Nat):Int) (sLen v)=false:=by simp at hl ⊢; omega
       rw [g]
       refine rest _ (fun _=>rfl) ?_
       rw [w]
       rfl
      | cons d u =>
       have g:iLt ((i+1:Nat):Int) (sLen v)=true:=by simp at hl ⊢; omega
       have g2:qax v ((i+1:Nat):Int)=true:=by simp at hl ⊢; omega
       have hd1:v[i+1]?=some d:=by
        have:(v.drop (i+1))[0]?=some d:=by rw [ht]; rfl
        simpa using this
       have g3:dgI (sAt v ((i+1:Nat):Int))=qaW d:=by
        rw [← qdU]
        have h5:=(List.getElem?_eq_some_iff.1 hd1)
        obtain ⟨h5a,h5b⟩:=h5
        congr 1
        simp only [qIY,Int.toNat_natCast,List.getD_eq_getElem?_getD,hd1,Option.getD_some]
       rw [g,g2,g3]
       cases hdd:qaW d with
       | true =>
        have ee:wdL (c :: d :: u)=valL 4 (c :: d :: u) (runL qaW (d :: u)+1):=by
         show (if qfG c=true then _ else _)=_
         rw [if_neg h1,if_neg h2,if_neg h3,if_pos (by simp [h45,hdIs,hdd])]
        rw [ee,qzi 4 (c :: d :: u) _ v i hv]
        simp only [d1,d2,hok (runL qaW (d :: u)+1) (by omega),hsub,qrv (val 4 (runL qaW (d :: u)+1) (by omega)),qtP (val 4 (runL qaW (d :: u)+1) (by omega))]
        rfl
       | false =>
        refine rest _ (fun _=>by simp [hdIs,hdd]) ?_
        rw [w]
        rfl
     ·rw [decide_eq_false h45]
      refine rest _ (fun h=>absurd h h45) ?_
      rw [w]
      rfl
end Go.Pv
set_option maxHeartbeats 4000000
set_option maxRecDepth 200000
set_option linter.unusedSimpArgs false
set_option linter.unusedVariables false
namespace Go.Pv
open Go Go.Proofs Go.RowKit
noncomputable def qjd:Code:=rngC Tryz.f80 500007
def qui:RI:=⟨24,[2,3,4,5,12],[2,3,4,5],[.ptr 0 0,.ptr 1 0,.ptr 2 0,.ptr 3 0],[13,14],1⟩
noncomputable def qrm:Nat→List PV→Store→Tr (PV × Store):=rtree tbT (ofL []) (fun _ _ _=>.fail) qui (rngX qjd) (rngY qjd)
end Go.Pv
set_option maxHeartbeats 4000000
set_option maxRecDepth 200000
set_option linter.unusedSimpArgs false
set_option linter.unusedVariables false
namespace Go.Pv
open Go Go.Proofs
noncomputable def qBZ:GamT:=ofL [(140,.pure qF7),(141,.pure qy4),(qe4,.yld 1 qrm)]
theorem qF3 (gl:Gl) (hg:GlLex gl) (hy:qnS Tryz.prog gl qe4 (.yld 1 fun t a σ=>(qrm t a σ).run)):qaH Tryz.prog gl (gam qBZ):=(qac (qIy gl) (qac (qFB gl hg) (qbH (K:=.yld 1 qrm) hy qag)))
noncomputable def qvJ:Code:=qeX Tryz.f139 1
def qvI:LI:=⟨41,[0,1,3],fun e=>match e with | .ret=>[] | .exit 0=>[] | _=>[],true⟩
noncomputable def quN:LpsT:=fun r fr σ=>.fail
noncomputable def qf1 (vs:List PV) (σ:Store):Option (PExit × List PV × Store):=lval (lstep tbT qBZ quN qvJ qvI) vs σ
noncomputable def qpZ (at_:Int) (r:List (List PV)) (n:Int) (n2:Int) (r2:List (List PV)) (s:List UInt8):Tr LR:=.ite (iLt at_ (sLen s)) (.ite (qaA (qak at_) true (nNat at_) (nLen s) (nLen s)) (.ite (qix (sSub s (nNat at_) (nLen s))) (.ite (nEq 0 0) (.ite (bNot (qfu (sSub s (nNat at_) (nLen s)))) (.ite true (.ret (.out .ret [] (Store.mk [[.sl (qam 5 (qam 6 [])) .full],[.int .i64 at_],[.int .i64 120],[.sl (qam 5 (qam 6 r2)) .full],[.str s]] [(2,0,1)] [75,3,38,75,9]))) (.ite (bNot (qfu (sSub s (nNat at_) (nLen s)))) (.ret (.out .ret [] (Store.mk [[.sl (qam 5 (qam 6 [])) .full],[.int .i64 at_],[.int .i64 120],[.sl (qam 5 (qam 6 r2)) .full],[.str s]] [(2,0,1)] [75,3,38,75,9]))) (.ite (qaA (qak (iAdd .i64 at_ (sLen (qa8 (sSub s (nNat at_) (nLen s)))))) true (nNat (iAdd .i64 at_ (sLen (qa8 (sSub s (nNat at_) (nLen s)))))) (nLen s) (nLen s)) (.ite (qfg (sSub s (nNat (iAdd .i64 at_ (sLen (qa8 (sSub s (nNat at_) (nLen s)))))) (nLen s))) (.ret (.next [.yld 0,.ptr 4 0,.int .i64 (iAdd .i64 (iAdd .i64 at_ (sLen (qa8 (sSub s (nNat at_) (nLen s))))) (qa4 (sSub s (nNat (iAdd .i64 at_ (sLen (qa8 (sSub s (nNat at_) (nLen s)))))) (nLen s))))] (Store.mk [[.sl (qam 5 (qam 6 [])) .full],[.int .i64 at_],[.int .i64 120],[.sl (qam 5 (qam 6 r2)) .full],[.str s]] [(2,0,1)] [75,3,38,75,9]))) .fail) .fail))) (.ite (qaz r2 [[.int .i64 (qcb (sSub s (nNat at_) (nLen s))),.str (qa8 (sSub s (nNat at_) (nLen s))),.int .i64 (qbN (sSub s (nNat at_) (nLen s))),.int .i64 (qbM (sSub s (nNat at_) (nLen s))),.str (qbO (sSub s (nNat at_) (nLen s))),.int .i64 at_]] 64) (.ite (qas [[.int .i64 (qcb (sSub s (nNat at_) (nLen s))),.str (qa8 (sSub s (nNat at_) (nLen s))),.int .i64 (qbN (sSub s (nNat at_) (nLen s))),.int .i64 (qbM (sSub s (nNat at_) (nLen s))),.str (qbO (sSub s (nNat at_) (nLen s))),.int .i64 at_]] 6) (.ite (qao r2 6)
 (.ite false (.ret (.out .ret [] (Store.mk [[.sl (qam 5 (qam 6 r)) .full],[.int .i64 n],[.int .i64 n2],[.sl (qam 5 (qam 6 (xApp r2 [[.int .i64 (qcb (sSub s (nNat at_) (nLen s))),.str (qa8 (sSub s (nNat at_) (nLen s))),.int .i64 (qbN (sSub s (nNat at_) (nLen s))),.int .i64 (qbM (sSub s (nNat at_) (nLen s))),.str (qbO (sSub s (nNat at_) (nLen s))),.int .i64 at_]]))) (.tok 1)],[.str s]] [(0,0,1),(nXs (xApp r2 [[.int .i64 (qcb (sSub s (nNat at_) (nLen s))),.str (qa8 (sSub s (nNat at_) (nLen s))),.int .i64 (qbN (sSub s (nNat at_) (nLen s))),.int .i64 (qbM (sSub s (nNat at_) (nLen s))),.str (qbO (sSub s (nNat at_) (nLen s))),.int .i64 at_]]),6,120)] [75,3,38,75,9]))) (.ite (bNot (qfu (sSub s (nNat at_) (nLen s)))) (.ret (.out .ret [] (Store.mk [[.sl (qam 5 (qam 6 r)) .full],[.int .i64 n],[.int .i64 n2],[.sl (qam 5 (qam 6 (xApp r2 [[.int .i64 (qcb (sSub s (nNat at_) (nLen s))),.str (qa8 (sSub s (nNat at_) (nLen s))),.int .i64 (qbN (sSub s (nNat at_) (nLen s))),.int .i64 (qbM (sSub s (nNat at_) (nLen s))),.str (qbO (sSub s (nNat at_) (nLen s))),.int .i64 at_]]))) (.tok 1)],[.str s]] [(0,0,1),(nXs (xApp r2 [[.int .i64 (qcb (sSub s (nNat at_) (nLen s))),.str (qa8 (sSub s (nNat at_) (nLen s))),.int .i64 (qbN (sSub s (nNat at_) (nLen s))),.int .i64 (qbM (sSub s (nNat at_) (nLen s))),.str (qbO (sSub s (nNat at_) (nLen s))),.int .i64 at_]]),6,120)] [75,3,38,75,9]))) (.ite (qaA (qak (iAdd .i64 at_ (sLen (qa8 (sSub s (nNat at_) (nLen s)))))) true (nNat (iAdd .i64 at_ (sLen (qa8 (sSub s (nNat at_) (nLen s)))))) (nLen s) (nLen s)) (.ite (qfg (sSub s (nNat (iAdd .i64 at_ (sLen (qa8 (sSub s (nNat at_) (nLen s)))))) (nLen s))) (.ret (.next [.yld 0,.ptr 4 0,.int .i64 (iAdd .i64 (iAdd .i64 at_ (sLen (qa8 (sSub s (nNat at_) (nLen s)))))
 (qa4 (sSub s (nNat (iAdd .i64 at_ (sLen (qa8 (sSub s (nNat at_) (nLen s)))))) (nLen s))))] (Store.mk [[.sl (qam 5 (qam 6 r)) .full],[.int .i64 n],[.int .i64 n2],[.sl (qam 5 (qam 6 (xApp r2 [[.int .i64 (qcb (sSub s (nNat at_) (nLen s))),.str (qa8 (sSub s (nNat at_) (nLen s))),.int .i64 (qbN (sSub s (nNat at_) (nLen s))),.int .i64 (qbM (sSub s (nNat at_) (nLen s))),.str (qbO (sSub s (nNat at_) (nLen s))),.int .i64 at_]]))) (.tok 1)],[.str s]] [(0,0,1),(nXs (xApp r2 [[.int .i64 (qcb (sSub s (nNat at_) (nLen s))),.str (qa8 (sSub s (nNat at_) (nLen s))),.int .i64 (qbN (sSub s (nNat at_) (nLen s))),.int .i64 (qbM (sSub s (nNat at_) (nLen s))),.str (qbO (sSub s (nNat at_) (nLen s))),.int .i64 at_]]),6,120)] [75,3,38,75,9]))) .fail) .fail))) .fail) .fail) .fail)) .fail) .fail) .fail) (.ret (.out (.exit 0) [] (Store.mk [[.sl r .full],[.int .i64 n],[.int .i64 n2],[.sl r2 .full],[.str s]] [(0,0,1)] [75,3,38,75,9])))
theorem qMx (at_:Int) (r:List (List PV)) (n:Int) (n2:Int) (r2:List (List PV)) (s:List UInt8):lstep tbT qBZ quN qvJ qvI [.yld 0,.ptr 4 0,.int .i64 at_] ⟨[[.sl r .full],[.int .i64 n],[.int .i64 n2],[.sl r2 .full],[.str s]],[(0,0,1)],[75,3,38,75,9]⟩=qpZ at_ r n n2 r2 s:=by kernel_rfl
theorem qGo (at_:Int) (r:List (List PV)) (n:Int) (n2:Int) (r2:List (List PV)) (s:List UInt8):qf1 [.yld 0,.ptr 4 0,.int .i64 at_] ⟨[[.sl r .full],[.int .i64 n],[.int .i64 n2],[.sl r2 .full],[.str s]],[(0,0,1)],[75,3,38,75,9]⟩=lnext qf1 (qpZ at_ r n n2 r2 s).run:=by unfold qf1; rw [qbF,qMx]
noncomputable def ql8 (at_:Int) (r:List (List PV)) (n:Int) (n2:Int) (r2:List (List PV)) (s:List UInt8) (k:Nat):Tr LR:=.ite (iLt at_ (sLen s)) (.ite (qaA (qak at_) true (nNat at_) (nLen s) (nLen s)) (.ite (qix (sSub s (nNat at_) (nLen s))) (.ite (nEq 0 0) (.ite (bNot (qfu (sSub s (nNat at_) (nLen s)))) (.ite true (.ret (.out .ret [] (Store.mk [[.sl (qam 5 (qam 6 [])) .full],[.int .i64 at_],[.int .i64 120],[.sl (qam 5 (qam 6 r2)) (.tok 1)],[.str s]] [(2,0,1),(k,6,120)] [75,3,38,75,9]))) (.ite (bNot (qfu (sSub s (nNat at_) (nLen s)))) (.ret (.out .ret [] (Store.mk [[.sl (qam 5 (qam 6 [])) .full],[.int .i64 at_],[.int .i64 120],[.sl (qam 5 (qam 6 r2)) (.tok 1)],[.str s]] [(2,0,1),(k,6,120)] [75,3,38,75,9]))) (.ite (qaA (qak (iAdd .i64 at_ (sLen (qa8 (sSub s (nNat at_) (nLen s)))))) true (nNat (iAdd .i64 at_ (sLen (qa8 (sSub s (nNat at_) (nLen s)))))) (nLen s) (nLen s)) (.ite (qfg (sSub s (nNat (iAdd .i64 at_ (sLen (qa8 (sSub s (nNat at_) (nLen s)))))) (nLen s))) (.ret (.next [.yld 0,.ptr 4 0,.int .i64 (iAdd .i64 (iAdd .i64 at_ (sLen (qa8 (sSub s (nNat at_) (nLen s))))) (qa4 (sSub s (nNat (iAdd .i64 at_ (sLen (qa8 (sSub s (nNat at_) (nLen s)))))) (nLen s))))] (Store.mk [[.sl (qam 5 (qam 6 [])) .full],[.int .i64 at_],[.int .i64 120],[.sl (qam 5 (qam 6 r2)) (.tok 1)],[.str s]] [(2,0,1),(k,6,120)] [75,3,38,75,9]))) .fail) .fail))) (.ite (qaz r2 [[.int .i64 (qcb (sSub s (nNat at_) (nLen s))),.str (qa8 (sSub s (nNat at_) (nLen s))),.int .i64 (qbN (sSub s (nNat at_) (nLen s))),.int .i64 (qbM (sSub s (nNat at_) (nLen s))),.str (qbO (sSub s (nNat at_) (nLen s))),.int .i64 at_]] 64) (.ite (qas [[.int .i64 (qcb (sSub s (nNat at_) (nLen s))),.str (qa8 (sSub s (nNat at_) (nLen s))),.int .i64 (qbN (sSub s (nNat at_) (nLen s))),.int .i64 (qbM (sSub s (nNat at_) (nLen s))),
 .str (qbO (sSub s (nNat at_) (nLen s))),.int .i64 at_]] 6) (.ite (qao r2 6) (.ite (nEq k (nXs r2)) (.ite false (.ret (.out .ret [] (Store.mk [[.sl (qam 5 (qam 6 r)) .full],[.int .i64 n],[.int .i64 n2],[.sl (qam 5 (qam 6 (xApp r2 [[.int .i64 (qcb (sSub s (nNat at_) (nLen s))),.str (qa8 (sSub s (nNat at_) (nLen s))),.int .i64 (qbN (sSub s (nNat at_) (nLen s))),.int .i64 (qbM (sSub s (nNat at_) (nLen s))),.str (qbO (sSub s (nNat at_) (nLen s))),.int .i64 at_]]))) (.tok 1)],[.str s]] [(0,0,1),(nXs (xApp r2 [[.int .i64 (qcb (sSub s (nNat at_) (nLen s))),.str (qa8 (sSub s (nNat at_) (nLen s))),.int .i64 (qbN (sSub s (nNat at_) (nLen s))),.int .i64 (qbM (sSub s (nNat at_) (nLen s))),.str (qbO (sSub s (nNat at_) (nLen s))),.int .i64 at_]]),6,120)] [75,3,38,75,9]))) (.ite (bNot (qfu (sSub s (nNat at_) (nLen s)))) (.ret (.out .ret [] (Store.mk [[.sl (qam 5 (qam 6 r)) .full],[.int .i64 n],[.int .i64 n2],[.sl (qam 5 (qam 6 (xApp r2 [[.int .i64 (qcb (sSub s (nNat at_) (nLen s))),.str (qa8 (sSub s (nNat at_) (nLen s))),.int .i64 (qbN (sSub s (nNat at_) (nLen s))),.int .i64 (qbM (sSub s (nNat at_) (nLen s))),.str (qbO (sSub s (nNat at_) (nLen s))),.int .i64 at_]]))) (.tok 1)],[.str s]] [(0,0,1),(nXs (xApp r2 [[.int .i64 (qcb (sSub s (nNat at_) (nLen s))),.str (qa8 (sSub s (nNat at_) (nLen s))),.int .i64 (qbN (sSub s (nNat at_) (nLen s))),.int .i64 (qbM (sSub s (nNat at_) (nLen s))),.str (qbO (sSub s (nNat at_) (nLen s))),.int .i64 at_]]),6,120)] [75,3,38,75,9]))) (.ite (qaA (qak (iAdd .i64 at_ (sLen (qa8 (sSub s (nNat at_) (nLen s)))))) true (nNat (iAdd .i64 at_ (sLen (qa8 (sSub s (nNat at_) (nLen s)))))) (nLen s) (nLen s)) (.ite (qfg (sSub s (nNat (iAdd .i64 at_ (sLen (qa8 (sSub s (nNat at_) (nLen s)))))) (nLen s))) (.ret (.next [.yld 0,.ptr 4 0,.int .i64
 (iAdd .i64 (iAdd .i64 at_ (sLen (qa8 (sSub s (nNat at_) (nLen s))))) (qa4 (sSub s (nNat (iAdd .i64 at_ (sLen (qa8 (sSub s (nNat at_) (nLen s)))))) (nLen s))))] (Store.mk [[.sl (qam 5 (qam 6 r)) .full],[.int .i64 n],[.int .i64 n2],[.sl (qam 5 (qam 6 (xApp r2 [[.int .i64 (qcb (sSub s (nNat at_) (nLen s))),.str (qa8 (sSub s (nNat at_) (nLen s))),.int .i64 (qbN (sSub s (nNat at_) (nLen s))),.int .i64 (qbM (sSub s (nNat at_) (nLen s))),.str (qbO (sSub s (nNat at_) (nLen s))),.int .i64 at_]]))) (.tok 1)],[.str s]] [(0,0,1),(nXs (xApp r2 [[.int .i64 (qcb (sSub s (nNat at_) (nLen s))),.str (qa8 (sSub s (nNat at_) (nLen s))),.int .i64 (qbN (sSub s (nNat at_) (nLen s))),.int .i64 (qbM (sSub s (nNat at_) (nLen s))),.str (qbO (sSub s (nNat at_) (nLen s))),.int .i64 at_]]),6,120)] [75,3,38,75,9]))) .fail) .fail))) .fail) .fail) .fail) .fail)) .fail) .fail) .fail) (.ret (.out (.exit 0) [] (Store.mk [[.sl r .full],[.int .i64 n],[.int .i64 n2],[.sl r2 (.tok 1)],[.str s]] [(0,0,1),(k,6,120)] [75,3,38,75,9])))
theorem qKE (at_:Int) (r:List (List PV)) (n:Int) (n2:Int) (r2:List (List PV)) (s:List UInt8) (k:Nat):lstep tbT qBZ quN qvJ qvI [.yld 0,.ptr 4 0,.int .i64 at_] ⟨[[.sl r .full],[.int .i64 n],[.int .i64 n2],[.sl r2 (.tok 1)],[.str s]],[(0,0,1),(k,6,120)],[75,3,38,75,9]⟩=ql8 at_ r n n2 r2 s k:=by kernel_rfl
theorem qyX (at_:Int) (r:List (List PV)) (n:Int) (n2:Int) (r2:List (List PV)) (s:List UInt8) (k:Nat):qf1 [.yld 0,.ptr 4 0,.int .i64 at_] ⟨[[.sl r .full],[.int .i64 n],[.int .i64 n2],[.sl r2 (.tok 1)],[.str s]],[(0,0,1),(k,6,120)],[75,3,38,75,9]⟩=lnext qf1 (ql8 at_ r n n2 r2 s k).run:=by unfold qf1; rw [qbF,qKE]
noncomputable def qbo (at_:Int) (r:List (List PV)) (n:Int) (n2:Int) (r2:List (List PV)) (s:List UInt8):Option (PExit × List PV × Store):=qf1 [.yld 0,.ptr 4 0,.int .i64 at_] ⟨[[.sl r .full],[.int .i64 n],[.int .i64 n2],[.sl r2 .full],[.str s]],[(0,0,1)],[75,3,38,75,9]⟩
noncomputable def qhU (at_:Int) (r:List (List PV)) (n:Int) (n2:Int) (r2:List (List PV)) (s:List UInt8):List (List PV):=(gRow (gAt (gObj (qbo at_ r n n2 r2 s) 0) 0))
noncomputable def qhc (at_:Int) (r:List (List PV)) (n:Int) (n2:Int) (r2:List (List PV)) (s:List UInt8):Int:=(gInt (gAt (gObj (qbo at_ r n n2 r2 s) 1) 0))
noncomputable def qf4 (at_:Int) (r:List (List PV)) (n:Int) (n2:Int) (r2:List (List PV)) (s:List UInt8):Int:=(gInt (gAt (gObj (qbo at_ r n n2 r2 s) 2) 0))
noncomputable def qfw (at_:Int) (r:List (List PV)) (n:Int) (n2:Int) (r2:List (List PV)) (s:List UInt8):List (List PV):=(gRow (gAt (gObj (qbo at_ r n n2 r2 s) 3) 0))
noncomputable def qik (at_:Int) (r:List (List PV)) (n:Int) (n2:Int) (r2:List (List PV)) (s:List UInt8):List UInt8:=(gStr (gAt (gObj (qbo at_ r n n2 r2 s) 4) 0))
noncomputable def qjg (at_:Int) (r:List (List PV)) (n:Int) (n2:Int) (r2:List (List PV)) (s:List UInt8):Bool:=isW (qbo at_ r n n2 r2 s) (.ret,[],⟨[[.sl (qhU at_ r n n2 r2 s) .full],[.int .i64 (qhc at_ r n n2 r2 s)],[.int .i64 (qf4 at_ r n n2 r2 s)],[.sl (qfw at_ r n n2 r2 s) .full],[.str (qik at_ r n n2 r2 s)]],[(2,0,1)],[75,3,38,75,9]⟩)
noncomputable def qin (at_:Int) (r:List (List PV)) (n:Int) (n2:Int) (r2:List (List PV)) (s:List UInt8):List (List PV):=(gRow (gAt (gObj (qbo at_ r n n2 r2 s) 0) 0))
noncomputable def qhS (at_:Int) (r:List (List PV)) (n:Int) (n2:Int) (r2:List (List PV)) (s:List UInt8):Int:=(gInt (gAt (gObj (qbo at_ r n n2 r2 s) 1) 0))
noncomputable def qfK (at_:Int) (r:List (List PV)) (n:Int) (n2:Int) (r2:List (List PV)) (s:List UInt8):Int:=(gInt (gAt (gObj (qbo at_ r n n2 r2 s) 2) 0))
noncomputable def qfB (at_:Int) (r:List (List PV)) (n:Int) (n2:Int) (r2:List (List PV)) (s:List UInt8):List (List PV):=(gRow (gAt (gObj (qbo at_ r n n2 r2 s) 3) 0))
noncomputable def qhx (at_:Int) (r:List (List PV)) (n:Int) (n2:Int) (r2:List (List PV)) (s:List UInt8):List UInt8:=(gStr (gAt (gObj (qbo at_ r n n2 r2 s) 4) 0))
noncomputable def qhO (at_:Int) (r:List (List PV)) (n:Int) (n2:Int) (r2:List (List PV)) (s:List UInt8):Nat:=(gTok (qbo at_ r n n2 r2 s) 1)
noncomputable def qj0 (at_:Int) (r:List (List PV)) (n:Int) (n2:Int) (r2:List (List PV)) (s:List UInt8):Bool:=isW (qbo at_ r n n2 r2 s) (.ret,[],⟨[[.sl (qin at_ r n n2 r2 s) .full],[.int .i64 (qhS at_ r n n2 r2 s)],[.int .i64 (qfK at_ r n n2 r2 s)],[.sl (qfB at_ r n n2 r2 s) (.tok 1)],[.str (qhx at_ r n n2 r2 s)]],[(0,0,1),((qhO at_ r n n2 r2 s),6,120)],[75,3,38,75,9]⟩)
noncomputable def qhv (at_:Int) (r:List (List PV)) (n:Int) (n2:Int) (r2:List (List PV)) (s:List UInt8):List (List PV):=(gRow (gAt (gObj (qbo at_ r n n2 r2 s) 0) 0))
noncomputable def qhs (at_:Int) (r:List (List PV)) (n:Int) (n2:Int) (r2:List (List PV)) (s:List UInt8):Int:=(gInt (gAt (gObj (qbo at_ r n n2 r2 s) 1) 0))
noncomputable def qfD (at_:Int) (r:List (List PV)) (n:Int) (n2:Int) (r2:List (List PV)) (s:List UInt8):Int:=(gInt (gAt (gObj (qbo at_ r n n2 r2 s) 2) 0))
noncomputable def qfV (at_:Int) (r:List (List PV)) (n:Int) (n2:Int) (r2:List (List PV)) (s:List UInt8):List (List PV):=(gRow (gAt (gObj (qbo at_ r n n2 r2 s) 3) 0))
noncomputable def qh3 (at_:Int) (r:List (List PV)) (n:Int) (n2:Int) (r2:List (List PV)) (s:List UInt8):List UInt8:=(gStr (gAt (gObj (qbo at_ r n n2 r2 s) 4) 0))
noncomputable def qka (at_:Int) (r:List (List PV)) (n:Int) (n2:Int) (r2:List (List PV)) (s:List UInt8):Bool:=isW (qbo at_ r n n2 r2 s) ((.exit 0),[],⟨[[.sl (qhv at_ r n n2 r2 s) .full],[.int .i64 (qhs at_ r n n2 r2 s)],[.int .i64 (qfD at_ r n n2 r2 s)],[.sl (qfV at_ r n n2 r2 s) .full],[.str (qh3 at_ r n n2 r2 s)]],[(0,0,1)],[75,3,38,75,9]⟩)
noncomputable def qhj (at_:Int) (r:List (List PV)) (n:Int) (n2:Int) (r2:List (List PV)) (s:List UInt8):List (List PV):=(gRow (gAt (gObj (qbo at_ r n n2 r2 s) 0) 0))
noncomputable def qhB (at_:Int) (r:List (List PV)) (n:Int) (n2:Int) (r2:List (List PV)) (s:List UInt8):Int:=(gInt (gAt (gObj (qbo at_ r n n2 r2 s) 1) 0))
noncomputable def qf0 (at_:Int) (r:List (List PV)) (n:Int) (n2:Int) (r2:List (List PV)) (s:List UInt8):Int:=(gInt (gAt (gObj (qbo at_ r n n2 r2 s) 2) 0))
noncomputable def qfJ (at_:Int) (r:List (List PV)) (n:Int) (n2:Int) (r2:List (List PV)) (s:List UInt8):List (List PV):=(gRow (gAt (gObj (qbo at_ r n n2 r2 s) 3) 0))
noncomputable def qh2 (at_:Int) (r:List (List PV)) (n:Int) (n2:Int) (r2:List (List PV)) (s:List UInt8):List UInt8:=(gStr (gAt (gObj (qbo at_ r n n2 r2 s) 4) 0))
noncomputable def qjZ (at_:Int) (r:List (List PV)) (n:Int) (n2:Int) (r2:List (List PV)) (s:List UInt8):Bool:=isW (qbo at_ r n n2 r2 s) ((.exit 0),[],⟨[[.sl (qhj at_ r n n2 r2 s) .full],[.int .i64 (qhB at_ r n n2 r2 s)],[.int .i64 (qf0 at_ r n n2 r2 s)],[.sl (qfJ at_ r n n2 r2 s) .full],[.str (qh2 at_ r n n2 r2 s)]],[(2,0,1)],[75,3,38,75,9]⟩)
noncomputable def qhF (at_:Int) (r:List (List PV)) (n:Int) (n2:Int) (r2:List (List PV)) (s:List UInt8):List (List PV):=(gRow (gAt (gObj (qbo at_ r n n2 r2 s) 0) 0))
noncomputable def qic (at_:Int) (r:List (List PV)) (n:Int) (n2:Int) (r2:List (List PV)) (s:List UInt8):Int:=(gInt (gAt (gObj (qbo at_ r n n2 r2 s) 1) 0))
noncomputable def qfT (at_:Int) (r:List (List PV)) (n:Int) (n2:Int) (r2:List (List PV)) (s:List UInt8):Int:=(gInt (gAt (gObj (qbo at_ r n n2 r2 s) 2) 0))
noncomputable def qfS (at_:Int) (r:List (List PV)) (n:Int) (n2:Int) (r2:List (List PV)) (s:List UInt8):List (List PV):=(gRow (gAt (gObj (qbo at_ r n n2 r2 s) 3) 0))
noncomputable def qhl (at_:Int) (r:List (List PV)) (n:Int) (n2:Int) (r2:List (List PV)) (s:List UInt8):List UInt8:=(gStr (gAt (gObj (qbo at_ r n n2 r2 s) 4) 0))
noncomputable def qhi (at_:Int) (r:List (List PV)) (n:Int) (n2:Int) (r2:List (List PV)) (s:List UInt8):Nat:=(gTok (qbo at_ r n n2 r2 s) 1)
noncomputable def qjr (at_:Int) (r:List (List PV)) (n:Int) (n2:Int) (r2:List (List PV)) (s:List UInt8):Bool:=isW (qbo at_ r n n2 r2 s) (.ret,[],⟨[[.sl (qhF at_ r n n2 r2 s) .full],[.int .i64 (qic at_ r n n2 r2 s)],[.int .i64 (qfT at_ r n n2 r2 s)],[.sl (qfS at_ r n n2 r2 s) (.tok 1)],[.str (qhl at_ r n n2 r2 s)]],[(2,0,1),((qhi at_ r n n2 r2 s),6,120)],[75,3,38,75,9]⟩)
noncomputable def qie (at_:Int) (r:List (List PV)) (n:Int) (n2:Int) (r2:List (List PV)) (s:List UInt8):List (List PV):=(gRow (gAt (gObj (qbo at_ r n n2 r2 s) 0) 0))
noncomputable def qh0 (at_:Int) (r:List (List PV)) (n:Int) (n2:Int) (r2:List (List PV)) (s:List UInt8):Int:=(gInt (gAt (gObj (qbo at_ r n n2 r2 s) 1) 0))
noncomputable def qfx (at_:Int) (r:List (List PV)) (n:Int) (n2:Int) (r2:List (List PV)) (s:List UInt8):Int:=(gInt (gAt (gObj (qbo at_ r n n2 r2 s) 2) 0))
noncomputable def qfZ (at_:Int) (r:List (List PV)) (n:Int) (n2:Int) (r2:List (List PV)) (s:List UInt8):List (List PV):=(gRow (gAt (gObj (qbo at_ r n n2 r2 s) 3) 0))
noncomputable def qhL (at_:Int) (r:List (List PV)) (n:Int) (n2:Int) (r2:List (List PV)) (s:List UInt8):List UInt8:=(gStr (gAt (gObj (qbo at_ r n n2 r2 s) 4) 0))
noncomputable def qh4 (at_:Int) (r:List (List PV)) (n:Int) (n2:Int) (r2:List (List PV)) (s:List UInt8):Nat:=(gTok (qbo at_ r n n2 r2 s) 1)
noncomputable def qjc (at_:Int) (r:List (List PV)) (n:Int) (n2:Int) (r2:List (List PV)) (s:List UInt8):Bool:=isW (qbo at_ r n n2 r2 s) ((.exit 0),[],⟨[[.sl (qie at_ r n n2 r2 s) .full],[.int .i64 (qh0 at_ r n n2 r2 s)],[.int .i64 (qfx at_ r n n2 r2 s)],[.sl (qfZ at_ r n n2 r2 s) (.tok 1)],[.str (qhL at_ r n n2 r2 s)]],[(0,0,1),((qh4 at_ r n n2 r2 s),6,120)],[75,3,38,75,9]⟩)
noncomputable def qio (at_:Int) (r:List (List PV)) (n:Int) (n2:Int) (r2:List (List PV)) (s:List UInt8):List (List PV):=(gRow (gAt (gObj (qbo at_ r n n2 r2 s) 0) 0))
noncomputable def qhK (at_:Int) (r:List (List PV)) (n:Int) (n2:Int) (r2:List (List PV)) (s:List UInt8):Int:=(gInt (gAt (gObj (qbo at_ r n n2 r2 s) 1) 0))
noncomputable def qfC (at_:Int) (r:List (List PV)) (n:Int) (n2:Int) (r2:List (List PV)) (s:List UInt8):Int:=(gInt (gAt (gObj (qbo at_ r n n2 r2 s) 2) 0))
noncomputable def qfU (at_:Int) (r:List (List PV)) (n:Int) (n2:Int) (r2:List (List PV)) (s:List UInt8):List (List PV):=(gRow (gAt (gObj (qbo at_ r n n2 r2 s) 3) 0))
noncomputable def qh5 (at_:Int) (r:List (List PV)) (n:Int) (n2:Int) (r2:List (List PV)) (s:List UInt8):List UInt8:=(gStr (gAt (gObj (qbo at_ r n n2 r2 s) 4) 0))
noncomputable def qhC (at_:Int) (r:List (List PV)) (n:Int) (n2:Int) (r2:List (List PV)) (s:List UInt8):Nat:=(gTok (qbo at_ r n n2 r2 s) 1)
noncomputable def qj3 (at_:Int) (r:List (List PV)) (n:Int) (n2:Int) (r2:List (List PV)) (s:List UInt8):Bool:=isW (qbo at_ r n n2 r2 s) ((.exit 0),[],⟨[[.sl (qio at_ r n n2 r2 s) .full],[.int .i64 (qhK at_ r n n2 r2 s)],[.int .i64 (qfC at_ r n n2 r2 s)],[.sl (qfU at_ r n n2 r2 s) (.tok 1)],[.str (qh5 at_ r n n2 r2 s)]],[(2,0,1),((qhC at_ r n n2 r2 s),6,120)],[75,3,38,75,9]⟩)
noncomputable def qmB:List PV→Store→Tr (PExit × List PV × Store) | [.yld 0,.ptr 4 0,.int .i64 at_],⟨[[.sl r .full],[.int .i64 n],[.int .i64 n2],[.sl r2 .full],[.str s]],[(0,0,1)],[75,3,38,75,9]⟩=>.ite (qjg at_ r n n2 r2 s) (.ret (.ret,[],⟨[[.sl (qhU at_ r n n2 r2 s) .full],[.int .i64 (qhc at_ r n n2 r2 s)],[.int .i64 (qf4 at_ r n n2 r2 s)],[.sl (qfw at_ r n n2 r2 s) .full],[.str (qik at_ r n n2 r2 s)]],[(2,0,1)],[75,3,38,75,9]⟩)) (.ite (qj0 at_ r n n2 r2 s) (.ret (.ret,[],⟨[[.sl (qin at_ r n n2 r2 s) .full],[.int .i64 (qhS at_ r n n2 r2 s)],[.int .i64 (qfK at_ r n n2 r2 s)],[.sl (qfB at_ r n n2 r2 s) (.tok 1)],[.str (qhx at_ r n n2 r2 s)]],[(0,0,1),((qhO at_ r n n2 r2 s),6,120)],[75,3,38,75,9]⟩)) (.ite (qka at_ r n n2 r2 s) (.ret ((.exit 0),[],⟨[[.sl (qhv at_ r n n2 r2 s) .full],[.int .i64 (qhs at_ r n n2 r2 s)],[.int .i64 (qfD at_ r n n2 r2 s)],[.sl (qfV at_ r n n2 r2 s) .full],[.str (qh3 at_ r n n2 r2 s)]],[(0,0,1)],[75,3,38,75,9]⟩)) (.ite (qjZ at_ r n n2 r2 s) (.ret ((.exit 0),[],⟨[[.sl (qhj at_ r n n2 r2 s) .full],[.int .i64 (qhB at_ r n n2 r2 s)],[.int .i64 (qf0 at_ r n n2 r2 s)],[.sl (qfJ at_ r n n2 r2 s) .full],[.str (qh2 at_ r n n2 r2 s)]],[(2,0,1)],[75,3,38,75,9]⟩)) (.ite (qjr at_ r n n2 r2 s) (.ret (.ret,[],⟨[[.sl (qhF at_ r n n2 r2 s) .full],[.int .i64 (qic at_ r n n2 r2 s)],[.int .i64 (qfT at_ r n n2 r2 s)],[.sl (qfS at_ r n n2 r2 s) (.tok 1)],[.str (qhl at_ r n n2 r2 s)]],[(2,0,1),((qhi at_ r n n2 r2 s),6,120)],[75,3,38,75,9]⟩)) (.ite (qjc at_ r n n2 r2 s) (.ret ((.exit 0),[],⟨[[.sl (qie at_ r n n2 r2 s) .full],[.int .i64 (qh0 at_ r n n2 r2 s)],[.int .i64 (qfx at_ r n n2 r2 s)],[.sl (qfZ at_ r n n2 r2 s) (.tok 1)],[.str (qhL at_ r n n2 r2 s)]],[(0,0,1),((qh4 at_ r n n2 r2 s),6,120)],[75,3,38,75,9]⟩)) (.ite (qj3 at_ r n n2 r2 s) (.ret ((.exit 0),[],⟨[[.sl (qio at_ r n n2 r2 s) .full],[.int .i64 (qhK at_ r n n2 r2 s)],[.int .i64 (qfC at_ r n n2 r2 s)],[.sl (qfU at_ r n n2 r2 s) (.tok 1)],[.str (qh5 at_ r n n2 r2 s)]],[(2,0,1),((qhC at_ r n n2 r2 s),6,120)],[75,3,38,75,9]⟩)) (.fail))))))) | _,_=>.fail
theorem qJy:∀ vs σ r,(qmB vs σ).run=some r→qf1 vs σ=some r:=by
 intro vs σ r h
 unfold qmB at h
 split at h
 ·exact qai h fun h=>qai h fun h=>qai h fun h=>qai h fun h=>qai h fun h=>qai h fun h=>qai h fun h=>by cases h
 ·cases h
theorem qE9 (gl:Gl) (hg:GlLex gl) (hy:qnS Tryz.prog gl qe4 (.yld 1 fun t a σ=>(qrm t a σ).run)):∀ fr σ e fr' σ',(orc qvI qmB fr σ).run=some (e,fr',σ')→LDoes Tryz.prog gl qvJ fr σ e fr' σ':=qcl qaj (qF3 gl hg hy ) qah (L:=quN) (qae (by kernel_rfl)) (by kernel_rfl) qJy
noncomputable def qJ2:LpsT:=fun r fr σ=>bif Nat.beq r 1 then orc qvI qmB fr σ else .fail
noncomputable def qGi (r:List (List PV)) (n:Int) (n2:Int) (r2:List (List PV)) (s:List UInt8):Tr (PV × Store):=.ite (qfg s) (.ite (qjg (qa4 s) r n n2 r2 s) (.ret (.tup [],Store.mk [[.sl (qhU (qa4 s) r n n2 r2 s) .full],[.int .i64 (qhc (qa4 s) r n n2 r2 s)],[.int .i64 (qf4 (qa4 s) r n n2 r2 s)],[.sl (qfw (qa4 s) r n n2 r2 s) .full],[.str (qik (qa4 s) r n n2 r2 s)]] [(2,0,1)] [75,3,38,75,9])) (.ite (qj0 (qa4 s) r n n2 r2 s) (.ret (.tup [],Store.mk [[.sl (qin (qa4 s) r n n2 r2 s) .full],[.int .i64 (qhS (qa4 s) r n n2 r2 s)],[.int .i64 (qfK (qa4 s) r n n2 r2 s)],[.sl (qfB (qa4 s) r n n2 r2 s) (.tok 1)],[.str (qhx (qa4 s) r n n2 r2 s)]] [(0,0,1),(qhO (qa4 s) r n n2 r2 s,6,120)] [75,3,38,75,9])) (.ite (qka (qa4 s) r n n2 r2 s) (.ret (.tup [],Store.mk [[.sl (qhv (qa4 s) r n n2 r2 s) .full],[.int .i64 (qhs (qa4 s) r n n2 r2 s)],[.int .i64 (qfD (qa4 s) r n n2 r2 s)],[.sl (qfV (qa4 s) r n n2 r2 s) .full],[.str (qh3 (qa4 s) r n n2 r2 s)]] [(0,0,1)] [75,3,38,75,9])) (.ite (qjZ (qa4 s) r n n2 r2 s) (.ret (.tup [],Store.mk [[.sl (qhj (qa4 s) r n n2 r2 s) .full],[.int .i64 (qhB (qa4 s) r n n2 r2 s)],[.int .i64 (qf0 (qa4 s) r n n2 r2 s)],[.sl (qfJ (qa4 s) r n n2 r2 s) .full],[.str (qh2 (qa4 s) r n n2 r2 s)]] [(2,0,1)] [75,3,38,75,9])) (.ite (qjr (qa4 s) r n n2 r2 s) (.ret (.tup [],Store.mk [[.sl (qhF (qa4 s) r n n2 r2 s) .full],[.int .i64 (qic (qa4 s) r n n2 r2 s)],[.int .i64 (qfT (qa4 s) r n n2 r2 s)],[.sl (qfS (qa4 s) r n n2 r2 s) (.tok 1)],[.str (qhl (qa4 s) r n n2 r2 s)]] [(2,0,1),(qhi (qa4 s) r n n2 r2 s,6,120)] [75,3,38,75,9])) (.ite (qjc (qa4 s) r n n2 r2 s) (.ret (.tup [],Store.mk [[.sl (qie (qa4 s) r n n2 r2 s) .full],[.int .i64 (qh0 (qa4 s) r n n2 r2 s)],
 [.int .i64 (qfx (qa4 s) r n n2 r2 s)],[.sl (qfZ (qa4 s) r n n2 r2 s) (.tok 1)],[.str (qhL (qa4 s) r n n2 r2 s)]] [(0,0,1),(qh4 (qa4 s) r n n2 r2 s,6,120)] [75,3,38,75,9])) (.ite (qj3 (qa4 s) r n n2 r2 s) (.ret (.tup [],Store.mk [[.sl (qio (qa4 s) r n n2 r2 s) .full],[.int .i64 (qhK (qa4 s) r n n2 r2 s)],[.int .i64 (qfC (qa4 s) r n n2 r2 s)],[.sl (qfU (qa4 s) r n n2 r2 s) (.tok 1)],[.str (qh5 (qa4 s) r n n2 r2 s)]] [(2,0,1),(qhC (qa4 s) r n n2 r2 s,6,120)] [75,3,38,75,9])) .fail))))))) .fail
theorem qNH (r:List (List PV)) (n:Int) (n2:Int) (r2:List (List PV)) (s:List UInt8):(qsF tbT qBZ qJ2 Tryz.f139 [.yld 0,.ptr 4 0] ⟨[[.sl r .full],[.int .i64 n],[.int .i64 n2],[.sl r2 .full],[.str s]],[(0,0,1)],[75,3,38,75,9]⟩).flat=qGi r n n2 r2 s:=by kernel_rfl
noncomputable def qec (r:List (List PV)) (n:Int) (n2:Int) (r2:List (List PV)) (s:List UInt8):Option (PV × Store):=(qGi r n n2 r2 s).run
noncomputable def qk0 (r:List (List PV)) (n:Int) (n2:Int) (r2:List (List PV)) (s:List UInt8):List (List PV):=(gRow (gAt (gObj (qeb (qec r n n2 r2 s)) 0) 0))
noncomputable def qkZ (r:List (List PV)) (n:Int) (n2:Int) (r2:List (List PV)) (s:List UInt8):Int:=(gInt (gAt (gObj (qeb (qec r n n2 r2 s)) 1) 0))
noncomputable def qh6 (r:List (List PV)) (n:Int) (n2:Int) (r2:List (List PV)) (s:List UInt8):Int:=(gInt (gAt (gObj (qeb (qec r n n2 r2 s)) 2) 0))
noncomputable def qjT (r:List (List PV)) (n:Int) (n2:Int) (r2:List (List PV)) (s:List UInt8):List (List PV):=(gRow (gAt (gObj (qeb (qec r n n2 r2 s)) 3) 0))
noncomputable def qmL (r:List (List PV)) (n:Int) (n2:Int) (r2:List (List PV)) (s:List UInt8):List UInt8:=(gStr (gAt (gObj (qeb (qec r n n2 r2 s)) 4) 0))
noncomputable def qmV (r:List (List PV)) (n:Int) (n2:Int) (r2:List (List PV)) (s:List UInt8):Bool:=isW (qec r n n2 r2 s) (.tup [],⟨[[.sl (qk0 r n n2 r2 s) .full],[.int .i64 (qkZ r n n2 r2 s)],[.int .i64 (qh6 r n n2 r2 s)],[.sl (qjT r n n2 r2 s) .full],[.str (qmL r n n2 r2 s)]],[(2,0,1)],[75,3,38,75,9]⟩)
noncomputable def qnq (r:List (List PV)) (n:Int) (n2:Int) (r2:List (List PV)) (s:List UInt8):List (List PV):=(gRow (gAt (gObj (qeb (qec r n n2 r2 s)) 0) 0))
noncomputable def qnr (r:List (List PV)) (n:Int) (n2:Int) (r2:List (List PV)) (s:List UInt8):Int:=(gInt (gAt (gObj (qeb (qec r n n2 r2 s)) 1) 0))
noncomputable def qjy (r:List (List PV)) (n:Int) (n2:Int) (r2:List (List PV)) (s:List UInt8):Int:=(gInt (gAt (gObj (qeb (qec r n n2 r2 s)) 2) 0))
noncomputable def qhr (r:List (List PV)) (n:Int) (n2:Int) (r2:List (List PV)) (s:List UInt8):List (List PV):=(gRow (gAt (gObj (qeb (qec r n n2 r2 s)) 3) 0))
noncomputable def qnF (r:List (List PV)) (n:Int) (n2:Int) (r2:List (List PV)) (s:List UInt8):List UInt8:=(gStr (gAt (gObj (qeb (qec r n n2 r2 s)) 4) 0))
noncomputable def qnw (r:List (List PV)) (n:Int) (n2:Int) (r2:List (List PV)) (s:List UInt8):Nat:=(gTok (qeb (qec r n n2 r2 s)) 1)
noncomputable def qm4 (r:List (List PV)) (n:Int) (n2:Int) (r2:List (List PV)) (s:List UInt8):Bool:=isW (qec r n n2 r2 s) (.tup [],⟨[[.sl (qnq r n n2 r2 s) .full],[.int .i64 (qnr r n n2 r2 s)],[.int .i64 (qjy r n n2 r2 s)],[.sl (qhr r n n2 r2 s) (.tok 1)],[.str (qnF r n n2 r2 s)]],[(0,0,1),((qnw r n n2 r2 s),6,120)],[75,3,38,75,9]⟩)
noncomputable def qm6 (r:List (List PV)) (n:Int) (n2:Int) (r2:List (List PV)) (s:List UInt8):List (List PV):=(gRow (gAt (gObj (qeb (qec r n n2 r2 s)) 0) 0))
noncomputable def qm3 (r:List (List PV)) (n:Int) (n2:Int) (r2:List (List PV)) (s:List UInt8):Int:=(gInt (gAt (gObj (qeb (qec r n n2 r2 s)) 1) 0))
noncomputable def qjs (r:List (List PV)) (n:Int) (n2:Int) (r2:List (List PV)) (s:List UInt8):Int:=(gInt (gAt (gObj (qeb (qec r n n2 r2 s)) 2) 0))
noncomputable def qhm (r:List (List PV)) (n:Int) (n2:Int) (r2:List (List PV)) (s:List UInt8):List (List PV):=(gRow (gAt (gObj (qeb (qec r n n2 r2 s)) 3) 0))
noncomputable def qm8 (r:List (List PV)) (n:Int) (n2:Int) (r2:List (List PV)) (s:List UInt8):List UInt8:=(gStr (gAt (gObj (qeb (qec r n n2 r2 s)) 4) 0))
noncomputable def qmN (r:List (List PV)) (n:Int) (n2:Int) (r2:List (List PV)) (s:List UInt8):Bool:=isW (qec r n n2 r2 s) (.tup [],⟨[[.sl (qm6 r n n2 r2 s) .full],[.int .i64 (qm3 r n n2 r2 s)],[.int .i64 (qjs r n n2 r2 s)],[.sl (qhm r n n2 r2 s) .full],[.str (qm8 r n n2 r2 s)]],[(0,0,1)],[75,3,38,75,9]⟩)
noncomputable def qkO (r:List (List PV)) (n:Int) (n2:Int) (r2:List (List PV)) (s:List UInt8):List (List PV):=(gRow (gAt (gObj (qeb (qec r n n2 r2 s)) 0) 0))
noncomputable def qld (r:List (List PV)) (n:Int) (n2:Int) (r2:List (List PV)) (s:List UInt8):Int:=(gInt (gAt (gObj (qeb (qec r n n2 r2 s)) 1) 0))
noncomputable def qij (r:List (List PV)) (n:Int) (n2:Int) (r2:List (List PV)) (s:List UInt8):Int:=(gInt (gAt (gObj (qeb (qec r n n2 r2 s)) 2) 0))
noncomputable def qjt (r:List (List PV)) (n:Int) (n2:Int) (r2:List (List PV)) (s:List UInt8):List (List PV):=(gRow (gAt (gObj (qeb (qec r n n2 r2 s)) 3) 0))
noncomputable def qnp (r:List (List PV)) (n:Int) (n2:Int) (r2:List (List PV)) (s:List UInt8):List UInt8:=(gStr (gAt (gObj (qeb (qec r n n2 r2 s)) 4) 0))
noncomputable def qmI (r:List (List PV)) (n:Int) (n2:Int) (r2:List (List PV)) (s:List UInt8):Nat:=(gTok (qeb (qec r n n2 r2 s)) 1)
noncomputable def qmY (r:List (List PV)) (n:Int) (n2:Int) (r2:List (List PV)) (s:List UInt8):Bool:=isW (qec r n n2 r2 s) (.tup [],⟨[[.sl (qkO r n n2 r2 s) .full],[.int .i64 (qld r n n2 r2 s)],[.int .i64 (qij r n n2 r2 s)],[.sl (qjt r n n2 r2 s) (.tok 1)],[.str (qnp r n n2 r2 s)]],[(2,0,1),((qmI r n n2 r2 s),6,120)],[75,3,38,75,9]⟩)
noncomputable def qHK:List PV→Store→Tr (PV × Store) | [.yld 0,.ptr 4 0],⟨[[.sl r .full],[.int .i64 n],[.int .i64 n2],[.sl r2 .full],[.str s]],[(0,0,1)],[75,3,38,75,9]⟩=>.ite (qmV r n n2 r2 s) (.ret (.tup [],⟨[[.sl (qk0 r n n2 r2 s) .full],[.int .i64 (qkZ r n n2 r2 s)],[.int .i64 (qh6 r n n2 r2 s)],[.sl (qjT r n n2 r2 s) .full],[.str (qmL r n n2 r2 s)]],[(2,0,1)],[75,3,38,75,9]⟩)) (.ite (qm4 r n n2 r2 s) (.ret (.tup [],⟨[[.sl (qnq r n n2 r2 s) .full],[.int .i64 (qnr r n n2 r2 s)],[.int .i64 (qjy r n n2 r2 s)],[.sl (qhr r n n2 r2 s) (.tok 1)],[.str (qnF r n n2 r2 s)]],[(0,0,1),((qnw r n n2 r2 s),6,120)],[75,3,38,75,9]⟩)) (.ite (qmN r n n2 r2 s) (.ret (.tup [],⟨[[.sl (qm6 r n n2 r2 s) .full],[.int .i64 (qm3 r n n2 r2 s)],[.int .i64 (qjs r n n2 r2 s)],[.sl (qhm r n n2 r2 s) .full],[.str (qm8 r n n2 r2 s)]],[(0,0,1)],[75,3,38,75,9]⟩)) (.ite (qmY r n n2 r2 s) (.ret (.tup [],⟨[[.sl (qkO r n n2 r2 s) .full],[.int .i64 (qld r n n2 r2 s)],[.int .i64 (qij r n n2 r2 s)],[.sl (qjt r n n2 r2 s) (.tok 1)],[.str (qnp r n n2 r2 s)]],[(2,0,1),((qmI r n n2 r2 s),6,120)],[75,3,38,75,9]⟩)) (.fail)))) | _,_=>.fail
theorem qK6 (gl:Gl) (hg:GlLex gl) (hy:qnS Tryz.prog gl qe4 (.yld 1 fun t a σ=>(qrm t a σ).run)):SimS Tryz.prog gl 139 fun args σ=>(qHK args σ).run:=by
 refine SimS.of_flat (G:=qBZ) (L:=qJ2) qaj (qF3 gl hg hy ) qah Tryz.func139 rfl (by rfl) (by kernel_rfl) (qaX (L:=lps qJ2) [(1,qvJ)] (by kernel_rfl) (List.forall_mem_cons.2 ⟨fun fr σ e fr' σ' h=>qE9 gl hg hy  fr σ e fr' σ' h,(List.forall_mem_nil _)⟩)) ?_
 intro args σ x h
 unfold qHK at h
 split at h
 ·exact (congrArg Tr.run (qNH _ _ _ _ _)).trans (qai h fun h=>qai h fun h=>qai h fun h=>qai h fun h=>by cases h)
 ·cases h
end Go.Pv
set_option maxHeartbeats 4000000
set_option maxRecDepth 200000
set_option linter.unusedSimpArgs false
set_option linter.unusedVariables false
namespace Go.Pv
open Go Go.Proofs Go.RowKit
theorem qxw (gl:Gl) (hg:GlLex gl):∀ fr σ e fr' σ',(rorc qui (rngG qjd) 139 qHK fr σ).run=some (e,fr',σ')→Does Tryz.prog gl (rngO qjd) fr σ e fr' σ' :=
 qJL (G:=ofL []) (L:=fun _ _ _=>.fail) qaj (fun _ _=>qag) qah (fun _ _=>qae (by kernel_rfl)) (fun _ _=>qae (by kernel_rfl)) (by kernel_rfl) (by kernel_rfl) (by kernel_rfl)
  ⟨Tryz.f139,Tryz.func139,by rfl,by rfl⟩ (fun gl' hv hy=>qK6 gl' (hg.of_v hv) hy)
end Go.Pv
set_option maxHeartbeats 4000000
set_option maxRecDepth 200000
set_option linter.unusedSimpArgs false
set_option linter.unusedVariables false
namespace Go.Pv
open Go Go.Proofs
noncomputable def quq:GamT:=ofL []
theorem qBU (gl:Gl):qaH Tryz.prog gl (gam quq):=qag
noncomputable def qz3:LpsT:=fun r fr σ=>.fail
noncomputable def qrM (s:List UInt8):Tr (PV × Store):=.ret (.fn 139 [.ptr 4 0],Store.mk [[.sl [] .full],[.int .i64 0],[.int .i64 0],[.sl [] .full],[.str s]] [] [75,3,38,75,9])
theorem qIs (s:List UInt8):(qsF tbT quq qz3 Tryz.f120 [.str s] ⟨[[.sl [] .full],[.int .i64 0],[.int .i64 0],[.sl [] .full]],[],[75,3,38,75]⟩).flat=qrM s:=by kernel_rfl
noncomputable def qgx (s:List UInt8):Option (PV × Store):=(qrM s).run
noncomputable def qb8 (s:List UInt8):List (List PV):=(gRow (gAt (gObj (qeb (qgx s)) 0) 0))
noncomputable def qb7 (s:List UInt8):Int:=(gInt (gAt (gObj (qeb (qgx s)) 1) 0))
noncomputable def qbP (s:List UInt8):Int:=(gInt (gAt (gObj (qeb (qgx s)) 2) 0))
noncomputable def qbQ (s:List UInt8):List (List PV):=(gRow (gAt (gObj (qeb (qgx s)) 3) 0))
noncomputable def qb9 (s:List UInt8):List UInt8:=(gStr (gAt (gObj (qeb (qgx s)) 4) 0))
noncomputable def qjv (s:List UInt8):Bool:=isW (qgx s) (.fn 139 [.ptr 4 0],⟨[[.sl (qb8 s) .full],[.int .i64 (qb7 s)],[.int .i64 (qbP s)],[.sl (qbQ s) .full],[.str (qb9 s)]],[],[75,3,38,75,9]⟩)
noncomputable def qtg:List PV→Store→Tr (PV × Store) | [.str s],⟨[[.sl [] .full],[.int .i64 0],[.int .i64 0],[.sl [] .full]],[],[75,3,38,75]⟩=>.ite (qjv s) (.ret (.fn 139 [.ptr 4 0],⟨[[.sl (qb8 s) .full],[.int .i64 (qb7 s)],[.int .i64 (qbP s)],[.sl (qbQ s) .full],[.str (qb9 s)]],[],[75,3,38,75,9]⟩)) (.fail) | _,_=>.fail
theorem qB7 (gl:Gl):SimS Tryz.prog gl 120 fun args σ=>(qtg args σ).run:=by
 refine SimS.of_flat (G:=quq) (L:=qz3) qaj (qBU gl ) qah Tryz.func120 rfl (by rfl) (by kernel_rfl) (qae (by kernel_rfl)) ?_
 intro args σ x h
 unfold qtg at h
 split at h
 ·exact (congrArg Tr.run (qIs _)).trans (qai h fun h=>by cases h)
 ·cases h
noncomputable def qvc:GamT:=ofL [(120,.store qtg),(qx4+0,.glob qDn)]
theorem qCt (gl:Gl) (hg:GlLex gl):qaH Tryz.prog gl (gam qvc):=(qer (qB7 gl) (qbH (K:=.glob qDn) (qA6 hg) qag))
noncomputable def qvg:LpsT:=fun r fr σ=>if r=500007 then rorc qui (rngG qjd) 139 qHK fr σ else .fail
noncomputable def qql (s:List UInt8):Tr PV:=.ite (iLt 65536 (sLen s)) (.ret (.tup [.sl [] .non,.int .i64 0,.int .i64 2])) (.ite (qjv s) (.ite (qmV (qb8 s) (qb7 s) (qbP s) (qbQ s) (qb9 s)) (.ret (.tup [.sl (qb4 (qdj 0 (qk0 (qb8 s) (qb7 s) (qbP s) (qbQ s) (qb9 s)))) .non,.int .i64 (qkZ (qb8 s) (qb7 s) (qbP s) (qbQ s) (qb9 s)),.int .i64 (qh6 (qb8 s) (qb7 s) (qbP s) (qbQ s) (qb9 s))])) (.ite (qm4 (qb8 s) (qb7 s) (qbP s) (qbQ s) (qb9 s)) (.ret (.tup [.sl (qb4 (qdj 0 (qhr (qb8 s) (qb7 s) (qbP s) (qbQ s) (qb9 s)))) .non,.int .i64 0,.int .i64 0])) (.ite (qmN (qb8 s) (qb7 s) (qbP s) (qbQ s) (qb9 s)) (.ret (.tup [.sl (qb4 (qdj 0 (qhm (qb8 s) (qb7 s) (qbP s) (qbQ s) (qb9 s)))) .non,.int .i64 0,.int .i64 0])) (.ite (qmY (qb8 s) (qb7 s) (qbP s) (qbQ s) (qb9 s)) (.ret (.tup [.sl (qb4 (qdj 0 (qkO (qb8 s) (qb7 s) (qbP s) (qbQ s) (qb9 s)))) .non,.int .i64 (qld (qb8 s) (qb7 s) (qbP s) (qbQ s) (qb9 s)),.int .i64 (qij (qb8 s) (qb7 s) (qbP s) (qbQ s) (qb9 s))])) .fail)))) .fail)
theorem qHF (s:List UInt8):(tcall tbT qvc qvg Tryz.f80 [.str s]).flat=qql s:=by kernel_rfl
noncomputable def qhQ (s:List UInt8):Option PV:=(qql s).run
noncomputable def qfc (s:List UInt8):List (List PV):=(gRow (gAt (gCs (gVal (qhQ s))) 0))
noncomputable def qn5 (s:List UInt8):Int:=(gInt (gAt (gCs (gVal (qhQ s))) 1))
noncomputable def qiK (s:List UInt8):Int:=(gInt (gAt (gCs (gVal (qhQ s))) 2))
noncomputable def qjE (s:List UInt8):Bool:=isW (qhQ s) (.tup [.sl (qfc s) .non,.int .i64 (qn5 s),.int .i64 (qiK s)])
noncomputable def qtH:List PV→Tr PV | [.str s]=>.ite (qjE s) (.ret (.tup [.sl (qfc s) .non,.int .i64 (qn5 s),.int .i64 (qiK s)])) (.fail) | _=>.fail
theorem qCf (gl:Gl) (hg:GlLex gl):SimP Tryz.prog gl 80 fun args=>(qtH args).run:=by
 refine SimP.of_flat (G:=qvc) (L:=qvg) qaj (qCt gl hg ) qah Tryz.func80 rfl (by rfl) (by kernel_rfl) (qvm (L:=lps qvg) [] [(500007,rngO qjd)] (by kernel_rfl) (by kernel_rfl) (List.forall_mem_nil _) (List.forall_mem_cons.2 ⟨fun fr σ e fr' σ' h=>qxw gl hg fr σ e fr' σ' h,(List.forall_mem_nil _)⟩)) ?_
 intro args x h
 unfold qtH at h
 split at h
 ·exact (congrArg Tr.run (qHF _)).trans (qai h fun h=>by cases h)
 ·cases h
end Go.Pv
set_option maxHeartbeats 8000000
set_option maxRecDepth 200000
set_option linter.unusedSimpArgs false
set_option linter.unusedVariables false
namespace Go.Pv
open Go Go.Proofs Go.RowKit
theorem qC3 {s:List UInt8} (hs:s.length≤140737488355328) (hne:s≠[]):∃ k x v,qbV s=some (wTup k x v 0 (wdL s).isSome)∧∀ k' m v',wdL s=some (k',m,v')→k'=k∧x=s.take m∧v'=v:=by
 obtain ⟨c,t,rfl⟩:=List.exists_cons_of_ne_nil hne
 have val:∀ (k:Int) (n:Nat),(valL k (c :: t) n).isSome=decide (eRd ((c :: t).take n)=0)∧∀ k' m v',valL k (c :: t) n=some (k',m,v')→k'=k∧(c :: t).take n=(c :: t).take m∧v'=(kRd ((c :: t).take n),nRd ((c :: t).take n),sRd ((c :: t).take n)):=fun k n=>by
  unfold valL eRd kRd nRd sRd
  cases h:rdV ((c :: t).take n) with
  | none=>simp
  | some v =>
   refine ⟨by simp,fun k' m v' he=>?_⟩
   cases he
   exact ⟨rfl,rfl,rfl⟩
 by_cases h1:qfG c=true
 ·have e:runL innB (c :: t)=runL innB t+1:=by simp [runL,innB,h1]
  refine ⟨1,(c :: t).take (runL innB t+1),(0,0,[]),?_,fun k' m v' he=>?_⟩
  ·rw [qzg hs h1,e]
   congr 2
   simp only [wdL,h1,if_true]
   by_cases hl:runL innB t+1≤64 <;> simp [hl]
  ·simp only [wdL,h1,if_true] at he
   split at he
   ·cases he; exact ⟨rfl,rfl,rfl⟩
   ·cases he
 ·have h1':qfG c=false:=by simpa using h1
  by_cases h2:qiU c=true
  ·have e:runL innB (c :: t)=runL innB t+1:=by simp [runL,innB,h2]
   refine ⟨2,(c :: t).take (runL innB t+1),(0,0,[]),?_,fun k' m v' he=>?_⟩
   ·rw [qy1 hs h2,e]
    congr 2
    simp only [wdL,h1',h2,if_true,Bool.false_eq_true,if_false]
    by_cases hl:runL innB t+1≤64 <;> simp [hl]
   ·simp only [wdL,h1',h2,if_true,Bool.false_eq_true,if_false] at he
    split at he
    ·cases he; exact ⟨rfl,rfl,rfl⟩
    ·cases he
  ·have h2':qiU c=false:=by simpa using h2
   by_cases h3:c.toNat=95
   ·have hc:c=95:=UInt8.toNat_inj.1 h3
    refine ⟨3,[95],(0,0,[]),?_,fun k' m v' he=>?_⟩
    ·rw [qEk hs h3]
     congr 2
     simp only [wdL,h1',h2',h3,if_true,Bool.false_eq_true,if_false]
     cases hdIs innB t <;> simp
    ·simp only [wdL,h1',h2',h3,if_true,Bool.false_eq_true,if_false] at he
     split at he
     ·cases he
     ·cases he; exact ⟨rfl,by rw [hc]; simp,rfl⟩
   ·have dg:qbV (c :: t)=some (dgW (c :: t))→(qaW c || (decide (c.toNat=45) && hdIs qaW t))=true→∃ k x v,qbV (c :: t)=some (wTup k x v 0 (wdL (c :: t)).isSome)∧∀ k' m v',wdL (c :: t)=some (k',m,v')→k'=k∧x=(c :: t).take m∧v'=v:=fun hw hd=>by
     have e:wdL (c :: t)=valL 4 (c :: t) (runL qaW t+1):=by simp only [wdL,h1',h2',h3,hd,if_true,Bool.false_eq_true,if_false]
     obtain ⟨v1,v2⟩:=val 4 (runL qaW t+1)
     refine ⟨4,(c :: t).take (runL qaW t+1),(kRd ((c :: t).take (runL qaW t+1)),nRd ((c :: t).take (runL qaW t+1)),sRd ((c :: t).take (runL qaW t+1))),?_,fun k' m v' he=>v2 k' m v' (by rw [← e]; exact he)⟩
     rw [hw,e,v1]
     rfl
    by_cases h4:qaW c=true
    ·exact dg (qG7 hs h4) (by simp [h4])
    ·have h4':qaW c=false:=by simpa using h4
     by_cases h5:c.toNat=45∧hdIs qaW t=true
     ·cases t with
      | nil=>simp [hdIs] at h5
      | cons d u=>exact dg (qDF hs h5.1 h5.2) (by simp [h5.1,h5.2])
     ·have h5':(qaW c || (decide (c.toNat=45) && hdIs qaW t))=false:=by
       rw [h4']
       by_cases hc:c.toNat=45
       ·have:hdIs qaW t=false:=by
         cases hh:hdIs qaW t with
         | false=>rfl
         | true=>exact absurd ⟨hc,hh⟩ h5
        simp [this]
       ·simp [hc]
      by_cases h6:c.toNat=34
      ·have e:wdL (c :: t)=if quoL t=0 then none else valL 5 (c :: t) (quoL t+1):=by
        show (if qfG c=true then _ else _)=_
        rw [if_neg h1,if_neg h2,if_neg h3,if_neg (by rw [h5']; simp),if_pos h6]
       obtain ⟨v1,v2⟩:=val 5 (symN t)
       refine ⟨5,(c :: t).take (symN t),(kRd ((c :: t).take (symN t)),nRd ((c :: t).take (symN t)),sRd ((c :: t).take (symN t))),?_,fun k' m v' he=>?_⟩
       ·rw [qGn hs h6,e]
        by_cases hq:quoL t=0
        ·rw [if_pos hq]
         unfold syW symN
         rw [if_pos hq]
         have:eRd []=10:=by decide
         simp [this,wTup]
        ·rw [if_neg hq]
         unfold symN at v1 ⊢
         rw [if_neg hq] at v1 ⊢
         rw [v1]
         rfl
       ·rw [e] at he
        by_cases hq:quoL t=0
        ·rw [if_pos hq] at he; cases he
        ·rw [if_neg hq] at he
         refine v2 k' m v' ?_
         unfold symN
         rw [if_neg hq]
         exact he
      ·have e:wdL (c :: t)=if qeg c t=0 then none else some (6,qeg c t,0,0,[]):=by
        show (if qfG c=true then _ else _)=_
        rw [if_neg h1,if_neg h2,if_neg h3,if_neg (by rw [h5']; simp),if_neg h6]
       have hm:=qBl hs h1' h2' h3 h4' (fun hc=>by
        cases hh:hdIs qaW t with
        | false=>rfl
        | true=>exact absurd ⟨hc,hh⟩ h5) h6
       unfold mkW at hm
       cases ht:hdIs (twoB c) t with
       | true =>
        rw [ht,if_pos rfl] at hm
        have em:qeg c t=2:=by simp [qeg,ht]
        refine ⟨6,(c :: t).take 2,(0,0,[]),?_,fun k' m v' he=>?_⟩
        ·rw [hm,e,em]; rfl
        ·rw [e,em] at he
         cases he
         exact ⟨rfl,rfl,rfl⟩
       | false =>
        rw [ht,if_neg (by simp)] at hm
        refine ⟨6,[c],(0,0,[]),?_,fun k' m v' he=>?_⟩
        ·rw [hm,e]
         congr 2
         unfold qeg
         rw [ht]
         cases qkd c <;> simp
        ·rw [e] at he
         split at he
         ·cases he
         ·rename_i hn
          have em:qeg c t=1:=by
           unfold qeg at hn ⊢
           rw [ht] at hn ⊢
           cases ho:qkd c with
           | true=>simp
           | false=>simp [ho] at hn
          rw [em] at he
          cases he
          exact ⟨rfl,by simp,rfl⟩
def wdT:List TypeId:=[75,3,38,75,9]
def lst (s:List UInt8) (st:Nat) (n n2:Int):List Wd→Store
 | []=>⟨[[.sl [] .full],[.int .i64 n],[.int .i64 n2],[.sl [] .full],[.str s]],[(st,0,1)],wdT⟩
 | a :: l=>⟨[[.sl [] .full],[.int .i64 n],[.int .i64 n2],[.sl (rOf cW (a :: l)) (.tok 1)],[.str s]],[(st,0,1),((a :: l).length,6,120)],wdT⟩
theorem qID (s:List UInt8) (st:Nat) (n n2:Int) (l:List Wd) (a:Wd):lst s st n n2 (l++[a])=⟨[[.sl [] .full],[.int .i64 n],[.int .i64 n2],[.sl (rOf cW (l++[a])) (.tok 1)],[.str s]],[(st,0,1),((l++[a]).length,6,120)],wdT⟩:=by
 cases l <;> rfl
def wEnd (s:List UInt8) (acc:List Wd):List Wd × Option Nat→Option (PExit × List PV × Store)
 | (l,none)=>some (.exit 0,[],lst s 0 0 0 (acc++l))
 | (l,some p)=>some (.ret,[],lst s 2 (p:Nat) 120 (acc++l))
theorem qzY (f i:Nat):lexL f i []=([],none):=by cases f <;> rfl
theorem qJ5 (s:List UInt8) (hs:s.length≤70000):∀ (f i:Nat) (acc:List Wd),i≤s.length→s.length < i+f→acc.length≤i→qf1 [.yld 0,.ptr 4 0,.int .i64 (i:Nat)] (lst s 0 0 0 acc)=wEnd s acc (lexL f i (s.drop i)):=by
 intro f
 induction f with
 | zero=>intro i acc h1 h2 _; omega
 | succ f ih =>
  intro i acc h1 h2 h3
  by_cases hlt:i < s.length
  ·have hS:sSub s (nNat (i:Int)) (nLen s)=s.drop i:=by simp
   have hne:s.drop i≠[]:=by
    intro h
    have:=congrArg List.length h
    simp at this
    omega
   have hSl:(s.drop i).length≤140737488355328:=by simp; omega
   obtain ⟨k,x,v,hw,hw2⟩:=qC3 hSl hne
   have a0:qix (s.drop i)=true:=by simp [qix,qcb,qa8,qbN,qbM,qbO,qtN,qfu,hw,wTup]
   have a1:qcb (s.drop i)=k:=by simp [qcb,hw,wTup]
   have a2:qa8 (s.drop i)=x:=by simp [qa8,hw,wTup]
   have a3:qbN (s.drop i)=v.1:=by simp [qbN,hw,wTup]
   have a4:qbM (s.drop i)=v.2.1:=by simp [qbM,hw,wTup]
   have a5:qbO (s.drop i)=v.2.2:=by simp [qbO,hw,wTup]
   have a6:qfu (s.drop i)=(wdL (s.drop i)).isSome:=by simp [qfu,hw,wTup]
   have t1:iLt (i:Int) (sLen s)=true:=by simp; omega
   have t2:qaA (qak (i:Int)) true (nNat (i:Int)) (nLen s) (nLen s)=true:=by simp; omega
   have eL:lexL (f+1) i (s.drop i)=match wdL (s.drop i) with
     | none=>([],some i)
     | some (k,m,v) =>
      ((k,(s.drop i).take m,v,(i:Int)) :: (lexL f (i+m+gapL false ((s.drop i).drop m)) ((s.drop i).drop (m+gapL false ((s.drop i).drop m)))).1,(lexL f (i+m+gapL false ((s.drop i).drop m)) ((s.drop i).drop (m+gapL false ((s.drop i).drop m)))).2):=by
    obtain ⟨c,t,hct⟩:=List.exists_cons_of_ne_nil hne
    rw [hct]
    rfl
   rw [eL]
   cases hwd:wdL (s.drop i) with
   | none =>
    rw [hwd] at a6
    cases acc with
    | nil =>
     show qf1 _ ⟨_,_,_⟩=_
     simp only [wdT]
     rw [qGo]
     simp only [qpZ,hS,a0,a1,a2,a3,a4,a5,a6,t1,t2]
     simp [wEnd,lst,wdT]
    | cons a l =>
     show qf1 _ ⟨_,_,_⟩=_
     simp only [wdT]
     rw [qyX]
     simp only [ql8,hS,a0,a1,a2,a3,a4,a5,a6,t1,t2]
     simp [wEnd,lst,wdT]
   | some r =>
    obtain ⟨k',m,v'⟩:=r
    obtain ⟨rfl,rfl,rfl⟩:=hw2 k' m v' hwd
    rw [hwd] at a6
    obtain ⟨m1,m2⟩:=qyz hwd
    have hx:((s.drop i).take m).length=m:=by rw [List.length_take]; omega
    have m3:i+m≤s.length:=by simp at m2; omega
    have e1:iAdd .i64 (i:Int) (sLen ((s.drop i).take m))=((i+m:Nat):Int):=by
     rw [qhR,hx]
     exact qa3 (by omega)
    have hS2:sSub s (nNat ((i+m:Nat):Int)) (nLen s)=s.drop (i+m):=by simp only [qtI,qvA,qEx,Int.toNat_natCast,List.take_length]
    have t3:qaA (qak ((i+m:Nat):Int)) true (nNat ((i+m:Nat):Int)) (nLen s) (nLen s)=true:=by simp; omega
    have g1:qfg (s.drop (i+m))=true:=qDJ (by simp; omega)
    have g2:qa4 (s.drop (i+m))=(gapL false (s.drop (i+m)):Nat):=qIW (by simp; omega)
    have g3:=qsb false (s.drop (i+m))
    have e2:iAdd .i64 ((i+m:Nat):Int) ((gapL false (s.drop (i+m)):Nat):Int)=((i+m+gapL false (s.drop (i+m)):Nat):Int):=qa3 (by simp at g3; omega)
    have hd1:(s.drop i).drop m=s.drop (i+m):=by rw [List.drop_drop]
    have hd2:(s.drop i).drop (m+gapL false (s.drop (i+m)))=s.drop (i+m+gapL false (s.drop (i+m))):=by rw [List.drop_drop]; congr 1; omega
    simp only [hd1,hd2]
    have hih:=ih (i+m+gapL false (s.drop (i+m))) (acc++[(k',(s.drop i).take m,v',(i:Int))]) (by simp at g3; omega) (by omega) (by simp; omega)
    have hfin:wEnd s (acc++[(k',(s.drop i).take m,v',(i:Int))]) (lexL f (i+m+gapL false (s.drop (i+m))) (s.drop (i+m+gapL false (s.drop (i+m)))))=wEnd s acc ((k',(s.drop i).take m,v',(i:Int)) :: (lexL f (i+m+gapL false (s.drop (i+m))) (s.drop (i+m+gapL false (s.drop (i+m))))).1,(lexL f (i+m+gapL false (s.drop (i+m))) (s.drop (i+m+gapL false (s.drop (i+m))))).2):=by
     cases hr:lexL f (i+m+gapL false (s.drop (i+m))) (s.drop (i+m+gapL false (s.drop (i+m)))) with
     | mk l o=>cases o <;> simp [wEnd]
    rw [← hfin,← hih,qID]
    cases acc with
    | nil =>
     show qf1 _ ⟨_,_,_⟩=_
     simp only [wdT]
     rw [qGo]
     have o1:qaz [] [[PV.int .i64 k',.str ((s.drop i).take m),.int .i64 v'.1,.int .i64 v'.2.1,.str v'.2.2,.int .i64 (i:Int)]] 64=true:=by simp
     have o2:qas [[PV.int .i64 k',.str ((s.drop i).take m),.int .i64 v'.1,.int .i64 v'.2.1,.str v'.2.2,.int .i64 (i:Int)]] 6=true:=by simp [one]
     simp only [qpZ,hS,a0,a1,a2,a3,a4,a5,a6,t1,t2,e1,hS2,t3,g1,g2,e2,o1,o2]
     simp [qI2,qFY]
    | cons a l =>
     show qf1 _ ⟨_,_,_⟩=_
     simp only [wdT]
     rw [qyX]
     have o1:qaz (rOf cW (a :: l)) [[PV.int .i64 k',.str ((s.drop i).take m),.int .i64 v'.1,.int .i64 v'.2.1,.str v'.2.2,.int .i64 (i:Int)]] 64=true:=by
      simp only [List.length_cons] at h3
      simp
      omega
     have o2:qas [[PV.int .i64 k',.str ((s.drop i).take m),.int .i64 v'.1,.int .i64 v'.2.1,.str v'.2.2,.int .i64 (i:Int)]] 6=true:=by simp [one]
     simp only [ql8,hS,a0,a1,a2,a3,a4,a5,a6,t1,t2,e1,hS2,t3,g1,g2,e2,o1,o2]
     simp [qEF]
  ·have:i=s.length:=by omega
   subst this
   rw [List.drop_eq_nil_of_le (Nat.le_refl _),qzY]
   have t1:iLt (s.length:Int) (sLen s)=false:=by simp
   cases acc with
   | nil =>
    show qf1 _ ⟨_,_,_⟩=_
    simp only [wdT]
    rw [qGo]
    simp only [qpZ,t1]
    simp [wEnd,lst,wdT]
   | cons a l =>
    show qf1 _ ⟨_,_,_⟩=_
    simp only [wdT]
    rw [qyX]
    simp only [ql8,t1]
    simp [wEnd,lst,wdT]
def qtA (s:List UInt8):List Wd × Option Nat→Option (PV × Store)
 | (l,none)=>some (.tup [],lst s 0 0 0 l)
 | (l,some p)=>some (.tup [],lst s 2 (p:Nat) 120 l)
theorem qKT {s:List UInt8} (hs:s.length≤70000):qec [] 0 0 [] s=qtA s (qfM s):=by
 have hg:=qsb false s
 have h:=qJ5 s hs (s.length+1) (gapL false s) [] hg (by omega) (by simp)
 rw [show lexL (s.length+1) (gapL false s) (s.drop (gapL false s))=qfM s from rfl] at h
 unfold qec qGi
 rw [qDJ (by omega),qIW (by omega)]
 generalize qfM s=r at h ⊢
 simp only [lst,wdT] at h
 generalize ((gapL false s:Nat):Int)=g at h ⊢
 obtain ⟨l,o⟩:=r
 cases o with
 | none =>
  cases l with
  | nil =>
   simp only [wEnd,lst,wdT,List.append_nil,List.nil_append] at h
   simp only [qjg,qj0,qka,qjZ,qjr,qjc,qj3,qhO,qhi,qh4,qhC,qf4,qfK,qfD,qf0,qfT,qfx,qfC,qhc,qhS,qhs,qhB,qic,qh0,qhK,qfw,qfB,qfV,qfJ,qfS,qfZ,qfU,qhU,qin,qhv,qhj,qhF,qie,qio,qik,qhx,qh3,qh2,qhl,qhL,qh5,qbo,h]
   simp [-qfO,qtA,lst,wdT]
  | cons a l =>
   simp only [wEnd,lst,wdT,List.nil_append] at h
   simp only [qjg,qj0,qka,qjZ,qjr,qjc,qj3,qhO,qhi,qh4,qhC,qf4,qfK,qfD,qf0,qfT,qfx,qfC,qhc,qhS,qhs,qhB,qic,qh0,qhK,qfw,qfB,qfV,qfJ,qfS,qfZ,qfU,qhU,qin,qhv,qhj,qhF,qie,qio,qik,qhx,qh3,qh2,qhl,qhL,qh5,qbo,h]
   simp [-qfO,qtA,lst,wdT]
 | some p =>
  cases l with
  | nil =>
   simp only [wEnd,lst,wdT,List.append_nil,List.nil_append] at h
   simp only [qjg,qj0,qka,qjZ,qjr,qjc,qj3,qhO,qhi,qh4,qhC,qf4,qfK,qfD,qf0,qfT,qfx,qfC,qhc,qhS,qhs,qhB,qic,qh0,qhK,qfw,qfB,qfV,qfJ,qfS,qfZ,qfU,qhU,qin,qhv,qhj,qhF,qie,qio,qik,qhx,qh3,qh2,qhl,qhL,qh5,qbo,h]
   simp [-qfO,qtA,lst,wdT]
  | cons a l =>
   simp only [wEnd,lst,wdT,List.nil_append] at h
   simp only [qjg,qj0,qka,qjZ,qjr,qjc,qj3,qhO,qhi,qh4,qhC,qf4,qfK,qfD,qf0,qfT,qfx,qfC,qhc,qhS,qhs,qhB,qic,qh0,qhK,qfw,qfB,qfV,qfJ,qfS,qfZ,qfU,qhU,qin,qhv,qhj,qhF,qie,qio,qik,qhx,qh3,qh2,qhl,qhL,qh5,qbo,h]
   simp [-qfO,qtA,lst,wdT]
def wOut:List Wd × Option Nat→PV
 | (l,none)=>.tup [.sl (rOf cW l) .non,.int .i64 0,.int .i64 0]
 | (_,some p)=>.tup [.sl [] .non,.int .i64 (p:Nat),.int .i64 120]
theorem qBJ {s:List UInt8} (hs:s.length≤70000):qhQ s=some (if 65536 < s.length then .tup [.sl [] .non,.int .i64 0,.int .i64 2] else wOut (qfM s)):=by
 have h:=qKT hs
 unfold qhQ qql
 have b:qgx s=some (.fn 139 [.ptr 4 0],⟨[[.sl [] .full],[.int .i64 0],[.int .i64 0],[.sl [] .full],[.str s]],[],wdT⟩):=by simp [-qfO,qgx,qrM,wdT]
 have b0:qjv s=true:=by
  simp only [qjv,qb7,qbP,qb8,qbQ,qb9,b,wdT]
  simp [-qfO]
 have b1:qb7 s=0:=by simp only [qb7,b]; simp [-qfO]
 have b2:qbP s=0:=by simp only [qbP,b]; simp [-qfO]
 have b3:qb8 s=[]:=by simp only [qb8,b]; simp [-qfO]
 have b4:qbQ s=[]:=by simp only [qbQ,b]; simp [-qfO]
 have b5:qb9 s=s:=by simp only [qb9,b]; simp [-qfO]
 rw [b0,b1,b2,b3,b4,b5]
 by_cases hl:65536 < s.length
 ·have:iLt 65536 (sLen s)=true:=by simp; omega
  rw [this,if_pos hl]
  rfl
 ·have:iLt 65536 (sLen s)=false:=by simp; omega
  rw [this,if_neg hl]
  generalize qfM s=r at h ⊢
  obtain ⟨l,o⟩:=r
  cases o with
  | none =>
   cases l with
   | nil =>
    simp only [qtA,lst,wdT] at h
    simp only [qmV,qm4,qmN,qmY,qnw,qmI,qh6,qjy,qjs,qij,qkZ,qnr,qm3,qld,qjT,qhr,qhm,qjt,qk0,qnq,qm6,qkO,qmL,qnF,qm8,qnp,h]
    simp [-qfO,wOut]
   | cons a l =>
    simp only [qtA,lst,wdT] at h
    simp only [qmV,qm4,qmN,qmY,qnw,qmI,qh6,qjy,qjs,qij,qkZ,qnr,qm3,qld,qjT,qhr,qhm,qjt,qk0,qnq,qm6,qkO,qmL,qnF,qm8,qnp,h]
    simp [-qfO,wOut]
  | some p =>
   cases l with
   | nil =>
    simp only [qtA,lst,wdT] at h
    simp only [qmV,qm4,qmN,qmY,qnw,qmI,qh6,qjy,qjs,qij,qkZ,qnr,qm3,qld,qjT,qhr,qhm,qjt,qk0,qnq,qm6,qkO,qmL,qnF,qm8,qnp,h]
    simp [-qfO,wOut]
   | cons a l =>
    simp only [qtA,lst,wdT] at h
    simp only [qmV,qm4,qmN,qmY,qnw,qmI,qh6,qjy,qjs,qij,qkZ,qnr,qm3,qld,qjT,qhr,qhm,qjt,qk0,qnq,qm6,qkO,qmL,qnF,qm8,qnp,h]
    simp [-qfO,wOut]
end Go.Pv
set_option maxHeartbeats 8000000
set_option maxRecDepth 200000
set_option linter.unusedSimpArgs false
set_option linter.unusedVariables false
namespace Go.Pv
open Go Go.Proofs Go.RowKit
def rEnd (acc:List Wd):List Wd × Option Nat→Option (PExit × List PV × Store)
 | (l,none)=>some (.exit 0,[.sl (rOf cW (acc++l)) (aT (acc++l))],aS 6 120 (acc++l))
 | (l,some p)=>some (.ret,[.sl [] .full,.int .i64 (p:Nat),.int .i64 120],aS 6 120 (acc++l))
theorem qLW (s:List UInt8) (hs:s.length≤70000):∀ (f i:Nat) (acc:List Wd),i≤s.length→s.length < i+f→acc.length≤i→qbZ [.str s,.sl (rOf cW acc) (aT acc),.int .i64 (i:Nat)] (aS 6 120 acc)=rEnd acc (lexL f i (s.drop i)):=by
 intro f
 induction f with
 | zero=>intro i acc h1 h2 _; omega
 | succ f ih =>
  intro i acc h1 h2 h3
  by_cases hlt:i < s.length
  ·have hne:s.drop i≠[]:=by
    intro h
    have:=congrArg List.length h
    simp at this
    omega
   obtain ⟨c,t,hct⟩:=List.exists_cons_of_ne_nil hne
   have hw:=qE8 (v:=s) (by omega) hct
   rw [← hct] at hw
   have t1:iLt (i:Int) (sLen s)=true:=by simp; omega
   have eL:lexL (f+1) i (s.drop i)=match wdL (s.drop i) with
     | none=>([],some i)
     | some (k,m,v) =>
      ((k,(s.drop i).take m,v,(i:Int)) :: (lexL f (i+m+gapL false ((s.drop i).drop m)) ((s.drop i).drop (m+gapL false ((s.drop i).drop m)))).1,(lexL f (i+m+gapL false ((s.drop i).drop m)) ((s.drop i).drop (m+gapL false ((s.drop i).drop m)))).2):=by
    rw [hct]
    rfl
   rw [eL]
   cases hwd:wdL (s.drop i) with
   | none =>
    rw [hwd] at hw
    simp only [rOut,wTup] at hw
    have a0:qfr s (i:Int)=true:=by simp only [qfr,qd4,qcK,qcM,qcO,qcN,qcP,qgy,hw]; simp
    have a6:qgy s (i:Int)=false:=by simp only [qgy,hw]; simp
    cases acc with
    | nil =>
     show qbZ [_,.sl [] .full,_] ⟨[],[],[]⟩=_
     rw [qpy]
     simp only [qgE,t1,a0,a6]
     simp [rEnd]
    | cons a l =>
     show qbZ [_,.sl (rOf cW (a :: l)) (.tok 0),_] ⟨[],[((a :: l).length,6,120)],[]⟩=_
     rw [qmZ]
     simp only [qfP,t1,a0,a6]
     simp [rEnd,aS]
   | some r =>
    obtain ⟨k,m,v⟩:=r
    rw [hwd] at hw
    simp only [rOut,wTup] at hw
    have a0:qfr s (i:Int)=true:=by simp only [qfr,qd4,qcK,qcM,qcO,qcN,qcP,qgy,hw]; simp
    have a1:qd4 s (i:Int)=k:=by simp only [qd4,hw]; simp
    have a2:qcK s (i:Int)=(s.drop i).take m:=by simp only [qcK,hw]; simp
    have a3:qcM s (i:Int)=v.1:=by simp only [qcM,hw]; simp
    have a4:qcO s (i:Int)=v.2.1:=by simp only [qcO,hw]; simp
    have a5:qcN s (i:Int)=v.2.2:=by simp only [qcN,hw]; simp
    have a7:qcP s (i:Int)=(i:Int):=by simp only [qcP,hw]; simp
    have a6:qgy s (i:Int)=true:=by simp only [qgy,hw]; simp
    obtain ⟨m1,m2⟩:=qyz hwd
    have hx:((s.drop i).take m).length=m:=by rw [List.length_take]; omega
    have m3:i+m≤s.length:=by simp at m2; omega
    have e1:iAdd .i64 (i:Int) (sLen ((s.drop i).take m))=((i+m:Nat):Int):=by
     rw [qhR,hx]
     exact qa3 (by omega)
    have g1:qgt s ((i+m:Nat):Int)=true:=qC1 (by omega) m3
    have g2:qdn s ((i+m:Nat):Int)=((i+m+gapL false (s.drop (i+m)):Nat):Int):=qJg (by omega) m3
    have g3:=qsb false (s.drop (i+m))
    have hd1:(s.drop i).drop m=s.drop (i+m):=by rw [List.drop_drop]
    have hd2:(s.drop i).drop (m+gapL false (s.drop (i+m)))=s.drop (i+m+gapL false (s.drop (i+m))):=by rw [List.drop_drop]; congr 1; omega
    simp only [hd1,hd2]
    have hih:=ih (i+m+gapL false (s.drop (i+m))) (acc++[(k,(s.drop i).take m,v,(i:Int))]) (by simp at g3; omega) (by omega) (by simp; omega)
    have hfin:rEnd (acc++[(k,(s.drop i).take m,v,(i:Int))]) (lexL f (i+m+gapL false (s.drop (i+m))) (s.drop (i+m+gapL false (s.drop (i+m)))))=rEnd acc ((k,(s.drop i).take m,v,(i:Int)) :: (lexL f (i+m+gapL false (s.drop (i+m))) (s.drop (i+m+gapL false (s.drop (i+m))))).1,(lexL f (i+m+gapL false (s.drop (i+m))) (s.drop (i+m+gapL false (s.drop (i+m))))).2):=by
     cases hr:lexL f (i+m+gapL false (s.drop (i+m))) (s.drop (i+m+gapL false (s.drop (i+m)))) with
     | mk l o=>cases o <;> simp [rEnd]
    rw [← hfin,← hih,qKF,qLO]
    have o2:qas [[PV.int .i64 k,.str ((s.drop i).take m),.int .i64 v.1,.int .i64 v.2.1,.str v.2.2,.int .i64 (i:Int)]] 6=true:=by simp [one]
    cases acc with
    | nil =>
     show qbZ [_,.sl [] .full,_] ⟨[],[],[]⟩=_
     rw [qpy]
     have o1:qaz [] [[PV.int .i64 k,.str ((s.drop i).take m),.int .i64 v.1,.int .i64 v.2.1,.str v.2.2,.int .i64 (i:Int)]] 64=true:=by simp
     simp only [qgE,t1,a0,a1,a2,a3,a4,a5,a6,a7,e1,g1,g2,o1,o2]
     simp [qI2,qFY]
    | cons a l =>
     show qbZ [_,.sl (rOf cW (a :: l)) (.tok 0),_] ⟨[],[((a :: l).length,6,120)],[]⟩=_
     rw [qmZ]
     have o1:qaz (rOf cW (a :: l)) [[PV.int .i64 k,.str ((s.drop i).take m),.int .i64 v.1,.int .i64 v.2.1,.str v.2.2,.int .i64 (i:Int)]] 64=true:=by
      simp only [List.length_cons] at h3
      simp
      omega
     simp only [qfP,t1,a0,a1,a2,a3,a4,a5,a6,a7,e1,g1,g2,o1,o2]
     simp [qEF]
  ·have:i=s.length:=by omega
   subst this
   rw [List.drop_eq_nil_of_le (Nat.le_refl _),qzY]
   have t1:iLt (s.length:Int) (sLen s)=false:=by simp
   cases acc with
   | nil =>
    show qbZ [_,.sl [] .full,_] ⟨[],[],[]⟩=_
    rw [qpy]
    simp only [qgE,t1]
    simp [rEnd]
   | cons a l =>
    show qbZ [_,.sl (rOf cW (a :: l)) (.tok 0),_] ⟨[],[((a :: l).length,6,120)],[]⟩=_
    rw [qmZ]
    simp only [qfP,t1]
    simp [rEnd,aT,aS]
theorem qCB {s:List UInt8} (hs:s.length≤70000):qho s=some (if 65536 < s.length then .tup [.sl [] .non,.int .i64 0,.int .i64 2] else wOut (qfM s)):=by
 have hg:=qsb false s
 have h:=qLW s hs (s.length+1) (gapL false s) [] hg (by omega) (by simp)
 rw [show lexL (s.length+1) (gapL false s) (s.drop (gapL false s))=qfM s from rfl] at h
 unfold qho qrA
 have g1:qgt s 0=true:=qC1 (i:=0) (by omega) (by omega)
 have g2:qdn s 0=(gapL false s:Nat):=by
  have:=qJg (s:=s) (i:=0) (by omega) (by omega)
  simpa using this
 rw [g1,g2]
 by_cases hl:65536 < s.length
 ·have:iLt 65536 (sLen s)=true:=by simp; omega
  rw [this,if_pos hl]
  rfl
 ·have:iLt 65536 (sLen s)=false:=by simp; omega
  rw [this,if_neg hl]
  generalize qfM s=r at h ⊢
  simp only [qMr,qMm,qK1] at h
  generalize ((gapL false s:Nat):Int)=g at h ⊢
  obtain ⟨l,o⟩:=r
  cases o with
  | none =>
   cases l with
   | nil =>
    simp only [rEnd,List.append_nil,List.nil_append,aT,aS] at h
    simp only [qeh,qem,qeC,qei,qej,qey,qc4,qcQ,qdz,qdA,qcv,qcs,qdC,qdF,qbL,h]
    simp [wOut]
   | cons a l =>
    simp only [rEnd,List.nil_append,aT,aS] at h
    simp only [qeh,qem,qeC,qei,qej,qey,qc4,qcQ,qdz,qdA,qcv,qcs,qdC,qdF,qbL,h]
    simp [wOut]
  | some p =>
   cases l with
   | nil =>
    simp only [rEnd,List.append_nil,List.nil_append,aT,aS] at h
    simp only [qeh,qem,qeC,qei,qej,qey,qc4,qcQ,qdz,qdA,qcv,qcs,qdC,qdF,qbL,h]
    simp [wOut]
   | cons a l =>
    simp only [rEnd,List.nil_append,aT,aS] at h
    simp only [qeh,qem,qeC,qei,qej,qey,qc4,qcQ,qdz,qdA,qcv,qcs,qdC,qdF,qbL,h]
    simp [wOut]
end Go.Pv
set_option maxHeartbeats 8000000
set_option maxRecDepth 200000
set_option linter.unusedSimpArgs false
set_option linter.unusedVariables false
namespace Go.Pv
open Go Go.Proofs Go.RowKit
def wL (s:List UInt8):List Wd:=match qfM s with | (l,none)=>l | _=>[]
def wN (s:List UInt8):Int:=match (qfM s).2 with | none=>0 | some p=>(p:Nat)
def wE (s:List UInt8):Int:=match (qfM s).2 with | none=>0 | some _=>120
theorem qCK (s:List UInt8):wOut (qfM s)=.tup [.sl (rOf cW (wL s)) .non,.int .i64 (wN s),.int .i64 (wE s)]:=by
 unfold wL wN wE
 cases h:qfM s with
 | mk l o=>cases o <;> rfl
theorem qi8 {s:List UInt8} (hs:s.length≤65536):qhQ s=some (.tup [.sl (rOf cW (wL s)) .non,.int .i64 (wN s),.int .i64 (wE s)]):=by
 rw [qBJ (by omega),if_neg (by omega),qCK]
theorem qjp {s:List UInt8} (hs:s.length≤65536):qho s=some (.tup [.sl (rOf cW (wL s)) .non,.int .i64 (wN s),.int .i64 (wE s)]):=by
 rw [qCB (by omega),if_neg (by omega),qCK]
section
variable {s : List UInt8} (hs : s.length ≤ 65536)
include hs
theorem qsT:qfc s=rOf cW (wL s):=by simp only [qfc,qi8 hs]; simp
theorem qBt:qn5 s=wN s:=by simp only [qn5,qi8 hs]; simp
theorem qsn:qiK s=wE s:=by simp only [qiK,qi8 hs]; simp
theorem qyG:qjE s=true:=by simp only [qjE,qsT hs,qBt hs,qsn hs,qi8 hs]; simp
theorem qs4:qfb s=rOf cW (wL s):=by simp only [qfb,qjp hs]; simp
theorem qCC:qpb s=wN s:=by simp only [qpb,qjp hs]; simp
theorem qst:qi0 s=wE s:=by simp only [qi0,qjp hs]; simp
theorem qyp:qjz s=true:=by simp only [qjz,qs4 hs,qCC hs,qst hs,qjp hs]; simp
end
end Go.Pv
set_option maxHeartbeats 8000000
set_option maxRecDepth 200000
set_option linter.unusedSimpArgs false
set_option linter.unusedVariables false
namespace Go.Pv
open Go Go.Proofs Go.RowKit
def gpB (b:UInt8):Bool:=blB b || decide (b.toNat=37)
def Nxt (r r':List UInt8):Prop:=r'=[]∨hdIs gpB r'=true∨∃ b t t',r=b :: t∧r'=b :: t'
theorem qnZ {p:UInt8→Bool} (hp:∀ b,gpB b=true→p b=false) {r r':List UInt8} (hn:Nxt r r') (h:hdIs p r=false):hdIs p r'=false:=by
 rcases hn with rfl | hg | ⟨b,t,t',rfl,rfl⟩
 ·rfl
 ·cases r' with
  | nil=>rfl
  | cons b t=>exact hp b hg
 ·exact h
theorem qoG {p:UInt8→Bool} (hp:∀ b,gpB b=true→p b=false) {r r':List UInt8} (hn:Nxt r r'):∀ t:List UInt8,runL p (t++r)=t.length→runL p (t++r')=t.length
 | [],h=>by
  have h1:hdIs p r=false:=by
   cases r with
   | nil=>rfl
   | cons b t =>
    simp only [List.nil_append,runL,List.length_nil] at h
    cases hb:p b with
    | false=>exact hb
    | true=>rw [hb] at h; simp at h
  have h2:=qnZ hp hn h1
  cases r' with
  | nil=>rfl
  | cons b t =>
   have h2:p b=false:=h2
   simp [runL,h2]
 | a :: t,h=>by
  simp only [List.cons_append,runL,List.length_cons] at h ⊢
  cases ha:p a with
  | false=>rw [ha] at h; simp at h
  | true =>
   rw [ha] at h
   simp only [if_true,Nat.add_right_cancel_iff] at h ⊢
   exact qoG hp hn t h
theorem qtT {n m:Nat} (h:incN n=m+1):n=m∧m≠0:=by
 unfold incN at h
 split at h <;> omega
theorem qow (r r':List UInt8):∀ (e:Bool) (t:List UInt8),quoE e (t++r)=t.length→t.length≠0→quoE e (t++r')=t.length
 | _,[],_,h=>absurd rfl h
 | true,a :: t,h,_=>by
  simp only [List.cons_append,quoE,List.length_cons] at h ⊢
  obtain ⟨h1,h2⟩:=qtT h
  rw [qow r r' false t h1 h2]
  simp [incN,h2]
 | false,a :: t,h,_=>by
  simp only [List.cons_append,quoE,List.length_cons] at h ⊢
  split at h
  ·rename_i h1
   rw [if_pos h1]
   exact h
  ·rename_i h1
   rw [if_neg h1]
   split at h
   ·rename_i h2
    rw [if_pos h2]
    obtain ⟨h1,h2⟩:=qtT h
    rw [qow r r' true t h1 h2]
    simp [incN,h2]
   ·rename_i h2
    rw [if_neg h2]
    obtain ⟨h1,h2⟩:=qtT h
    rw [qow r r' false t h1 h2]
    simp [incN,h2]
theorem qvb {b:UInt8} (h:gpB b=true):b.toNat=32∨b.toNat=9∨b.toNat=10∨b.toNat=13∨b.toNat=37:=by
 simp only [gpB,blB,Bool.or_eq_true,decide_eq_true_eq] at h
 omega
theorem qFW (b:UInt8) (h:gpB b=true):innB b=false:=by
 rcases qvb h with h | h | h | h | h <;> simp [innB,qfG,qiU,qaW,h]
theorem qMC (b:UInt8) (h:gpB b=true):qaW b=false:=by
 rcases qvb h with h | h | h | h | h <;> simp [qaW,h]
theorem qMM (c b:UInt8) (h:gpB b=true):twoB c b=false:=by
 rcases qvb h with h | h | h | h | h <;> simp [twoB,h]
theorem qv9 {k k':Int} {s:List UInt8} {n m:Nat} {v:Vl} (h:valL k s n=some (k',m,v)):k'=k∧m=n∧rdV (s.take n)=some v:=by
 unfold valL at h
 split at h
 ·rename_i v' hv
  cases h
  exact ⟨rfl,rfl,hv⟩
 ·cases h
theorem qDx {k:Int} {s s':List UInt8} {n m:Nat} {k':Int} {v:Vl} (h:valL k s n=some (k',m,v)) (e:s'.take n=s.take n):valL k s' n=some (k',m,v):=by
 unfold valL at h ⊢
 rw [e]
 exact h
theorem qKh {x r r':List UInt8} {k:Int} {v:Vl} (h:wdL (x++r)=some (k,x.length,v)) (hn:Nxt r r'):wdL (x++r')=some (k,x.length,v):=by
 have hl:=(qyz h).1
 cases x with
 | nil=>simp at hl
 | cons c t =>
  simp only [List.cons_append,wdL,List.length_cons] at h ⊢
  by_cases h1:qfG c=true
  ·simp only [h1,if_true] at h ⊢
   split at h
   ·rename_i h2
    simp only [Option.some.injEq,Prod.mk.injEq,Nat.add_right_cancel_iff] at h
    obtain ⟨rfl,h3,rfl⟩:=h
    have:=qoG qFW hn t h3
    rw [this,if_pos (by omega)]
   ·cases h
  ·rw [if_neg h1] at h ⊢
   by_cases h2:qiU c=true
   ·simp only [h2,if_true] at h ⊢
    split at h
    ·rename_i h4
     simp only [Option.some.injEq,Prod.mk.injEq,Nat.add_right_cancel_iff] at h
     obtain ⟨rfl,h3,rfl⟩:=h
     have:=qoG qFW hn t h3
     rw [this,if_pos (by omega)]
    ·cases h
   ·rw [if_neg h2] at h ⊢
    by_cases h3:c.toNat=95
    ·rw [if_pos h3] at h ⊢
     split at h
     ·cases h
     ·rename_i h4
      simp only [Option.some.injEq,Prod.mk.injEq] at h
      obtain ⟨rfl,h5,rfl⟩:=h
      have ht:t=[]:=by cases t with | nil=>rfl | cons=>simp at h5
      subst ht
      have h6:=qnZ qFW hn (by simpa using h4)
      simp [h6]
    ·rw [if_neg h3] at h ⊢
     have dgs:∀ q:Bool,(q || (decide (c.toNat=45) && hdIs qaW (t++r)))=(q || (decide (c.toNat=45) && hdIs qaW (t++r')))∨(t=[]∧hdIs qaW r=true):=by
      intro q
      cases t with
      | cons a t=>exact .inl rfl
      | nil =>
       cases hr:hdIs qaW r with
       | true=>exact .inr ⟨rfl,rfl⟩
       | false =>
        have:=qnZ qMC hn hr
        left
        simp [hr,this]
     by_cases h4:(qaW c || (decide (c.toNat=45) && hdIs qaW (t++r)))=true
     ·rw [if_pos h4] at h
      obtain ⟨hk,hm,hv⟩:=qv9 h
      have h5:runL qaW (t++r)=t.length:=by omega
      have h6:=qoG qMC hn t h5
      have h7:(qaW c || (decide (c.toNat=45) && hdIs qaW (t++r')))=true:=by
       rcases dgs (qaW c) with e | ⟨rfl,e⟩
       ·rw [← e]; exact h4
       ·cases r with
        | nil=>simp [hdIs] at e
        | cons b u =>
         have e:qaW b=true:=e
         simp [runL,e] at h5
      rw [if_pos h7,h6]
      rw [h5] at h
      refine qDx h ?_
      simp
     ·rw [if_neg h4] at h
      have h7:¬ (qaW c || (decide (c.toNat=45) && hdIs qaW (t++r')))=true:=by
       rcases dgs (qaW c) with e | ⟨rfl,e⟩
       ·rw [← e]; exact h4
       ·intro hh
        apply h4
        simp only [List.nil_append,Bool.or_eq_true,Bool.and_eq_true] at hh ⊢
        rcases hh with hh | ⟨hh,_⟩
        ·exact .inl hh
        ·exact .inr ⟨hh,e⟩
      rw [if_neg h7]
      by_cases h5:c.toNat=34
      ·rw [if_pos h5] at h ⊢
       split at h
       ·cases h
       ·rename_i h6
        obtain ⟨hk,hm,hv⟩:=qv9 h
        have h8:quoL (t++r)=t.length:=by omega
        have h9:quoL (t++r')=t.length:=qow r r' false t h8 (by omega)
        rw [h9,if_neg (by omega)]
        rw [h8] at h
        refine qDx h ?_
        simp
      ·rw [if_neg h5] at h ⊢
       split at h
       ·cases h
       ·rename_i h6
        simp only [Option.some.injEq,Prod.mk.injEq] at h
        obtain ⟨rfl,h8,rfl⟩:=h
        have h9:qeg c (t++r')=t.length+1:=by
         unfold qeg at h8 ⊢
         cases t with
         | nil =>
          show (if hdIs (twoB c) r'=true then 2 else if qkd c=true then 1 else 0)=1
          have h8:(if hdIs (twoB c) r=true then 2 else if qkd c=true then 1 else 0)=1:=h8
          cases hr:hdIs (twoB c) r with
          | true=>rw [if_pos hr] at h8; omega
          | false =>
           rw [if_neg (by rw [hr]; simp)] at h8
           rw [if_neg (by rw [qnZ (qMM c) hn hr]; simp)]
           exact h8
         | cons d t =>
          simp only [List.cons_append,hdIs] at h8 ⊢
          exact h8
        rw [h9]
        simp
def gpS:Bool→List UInt8→Option Bool
 | c,[]=>some c
 | c,b :: s=>if c || blB b || decide (b.toNat=37) then gpS (decide (b.toNat=37) || c && decide (b.toNat≠10)) s else none
theorem qDl:∀ (g:List UInt8) (c c':Bool) (s:List UInt8),gpS c g=some c'→gpS c (g++s)=gpS c' s
 | [],c,c',s,h=>by cases h; simp
 | b :: g,c,c',s,h=>by
  simp only [gpS] at h
  split at h
  ·rename_i hb
   simp only [List.cons_append,gpS,hb,if_true]
   exact qDl g _ c' s h
  ·cases h
abbrev Wv:=Int × List UInt8 × Vl
inductive Lx:List Wv→List UInt8→Prop
 | nil (s:List UInt8) (c:Bool) (h:gpS false s=some c):Lx [] s
 | cons (g x r:List UInt8) (k:Int) (v:Vl) (l:List Wv) (hg:gpS false g=some false) (hw:wdL (x++r)=some (k,x.length,v)) (h:Lx l r):Lx ((k,x,v) :: l) (g++(x++r))
theorem Lx.tail {z:List UInt8} (hz:hdIs gpB z=true) (h0:∀ c,∃ c',gpS c z=some c') {l:List Wv} {s:List UInt8} (h:Lx l s):Lx l (s++z):=by
 induction h with
 | nil s c h =>
  obtain ⟨c',hc⟩:=h0 c
  exact .nil _ c' (by rw [qDl s false c z h]; exact hc)
 | cons g x r k v l hg hw h ih =>
  rw [List.append_assoc,List.append_assoc]
  refine .cons g x (r++z) k v l hg (qKh hw ?_) ih
  cases r with
  | nil=>exact .inr (.inl hz)
  | cons b r=>exact .inr (.inr ⟨b,r,r++z,rfl,rfl⟩)
theorem join_nil (sep:List UInt8):qdR [] sep=[]:=rfl
end Go.Pv
set_option linter.unusedSimpArgs false
set_option linter.unusedVariables false
namespace Go.Pv
abbrev At:=List UInt8 × List Tm
def cA:Cod At where
 enc t:=[.str t.1,.sl (rOf cM t.2) .non]
 dec c:=match c with | [.str x0,.sl x1 .non]=>(match deR cM x1 with | some y1=>some (x0,y1) | _=>none) | _=>none
 k:=2
 of_dec c a h:=by
  split at h
  ·split at h
   ·cases h
    rename_i h1
    rw [qeL cM h1]
   ·cases h
  ·cases h
 dec_of a:=by simp only [qiE cM]
 lock a:=by simp only [qfz,lock,qap]
 shut a:=by simp only [qf7,shut,qfj]
 len a:=rfl
 one a:=rfl
@[simp] theorem okSize_cA (l:List At):qao (rOf cA l) 2=true:=qcf cA l
@[simp] theorem okNews_cA (l:List At):qas (rOf cA l) 2=true:=qch cA l
@[simp] theorem okGet_cA (l:List At) (i:Nat):qbs [.str [],.sl [] .full] (rOf cA l) i=decide (i < l.length):=qc0 _ _ (fun _=>rfl) l i
@[simp] theorem xStr_cA0 (l:List At) (i:Nat):xStr (rOf cA l) i 0=(l[i]?.getD ([],[])).1:=by unfold xStr; rw [qaF]; cases l[i]? <;> rfl
@[simp] theorem xRow_cA1 (l:List At) (i:Nat):xRow (rOf cA l) i 1=rOf cM ((l[i]?.getD ([],[])).2):=by unfold xRow; rw [qaF]; cases l[i]? <;> rfl
abbrev Li:=Int × At × Int × Tm × Tm
def cL:Cod Li where
 enc t:=[.int .i64 t.1,.str t.2.1.1,.sl (rOf cM t.2.1.2) .non,.int .i64 t.2.2.1,.int .i64 t.2.2.2.1.1,.str t.2.2.2.1.2.1,.int .i64 t.2.2.2.1.2.2.1,.int .i64 t.2.2.2.1.2.2.2.1,.str t.2.2.2.1.2.2.2.2,.int .i64 t.2.2.2.2.1,.str t.2.2.2.2.2.1,.int .i64 t.2.2.2.2.2.2.1,.int .i64 t.2.2.2.2.2.2.2.1,.str t.2.2.2.2.2.2.2.2]
 dec c:=match c with | [.int .i64 x0,.str x1,.sl x2 .non,.int .i64 x3,.int .i64 x4,.str x5,.int .i64 x6,.int .i64 x7,.str x8,.int .i64 x9,.str x10,.int .i64 x11,.int .i64 x12,.str x13]=>(match deR cM x2 with | some y2=>some (x0,(x1,y2),x3,(x4,x5,x6,x7,x8),(x9,x10,x11,x12,x13)) | _=>none) | _=>none
 k:=14
 of_dec c a h:=by
  split at h
  ·split at h
   ·cases h
    rename_i h2
    rw [qeL cM h2]
   ·cases h
  ·cases h
 dec_of a:=by simp only [qiE cM]
 lock a:=by simp only [qfz,lock,qap]
 shut a:=by simp only [qf7,shut,qfj]
 len a:=rfl
 one a:=rfl
@[simp] theorem qGO (l:List Li):qao (rOf cL l) 14=true:=qcf cL l
@[simp] theorem okNews_cL (l:List Li):qas (rOf cL l) 14=true:=qch cL l
@[simp] theorem okGet_cL (l:List Li) (i:Nat):qbs [.int .i64 0,.str [],.sl [] .full,.int .i64 0,.int .i64 0,.str [],.int .i64 0,.int .i64 0,.str [],.int .i64 0,.str [],.int .i64 0,.int .i64 0,.str []] (rOf cL l) i=decide (i < l.length):=qc0 _ _ (fun _=>rfl) l i
@[simp] theorem xInt_cL0 (l:List Li) (i:Nat):xInt (rOf cL l) i 0=(l[i]?.getD (0,([],[]),0,(0,[],0,0,[]),(0,[],0,0,[]))).1:=by unfold xInt; rw [qaF]; cases l[i]? <;> rfl
@[simp] theorem xStr_cL1 (l:List Li) (i:Nat):xStr (rOf cL l) i 1=(l[i]?.getD (0,([],[]),0,(0,[],0,0,[]),(0,[],0,0,[]))).2.1.1:=by unfold xStr; rw [qaF]; cases l[i]? <;> rfl
@[simp] theorem xRow_cL2 (l:List Li) (i:Nat):xRow (rOf cL l) i 2=rOf cM ((l[i]?.getD (0,([],[]),0,(0,[],0,0,[]),(0,[],0,0,[]))).2.1.2):=by unfold xRow; rw [qaF]; cases l[i]? <;> rfl
@[simp] theorem xInt_cL3 (l:List Li) (i:Nat):xInt (rOf cL l) i 3=(l[i]?.getD (0,([],[]),0,(0,[],0,0,[]),(0,[],0,0,[]))).2.2.1:=by unfold xInt; rw [qaF]; cases l[i]? <;> rfl
@[simp] theorem xInt_cL4 (l:List Li) (i:Nat):xInt (rOf cL l) i 4=(l[i]?.getD (0,([],[]),0,(0,[],0,0,[]),(0,[],0,0,[]))).2.2.2.1.1:=by unfold xInt; rw [qaF]; cases l[i]? <;> rfl
@[simp] theorem xStr_cL5 (l:List Li) (i:Nat):xStr (rOf cL l) i 5=(l[i]?.getD (0,([],[]),0,(0,[],0,0,[]),(0,[],0,0,[]))).2.2.2.1.2.1:=by unfold xStr; rw [qaF]; cases l[i]? <;> rfl
@[simp] theorem xInt_cL6 (l:List Li) (i:Nat):xInt (rOf cL l) i 6=(l[i]?.getD (0,([],[]),0,(0,[],0,0,[]),(0,[],0,0,[]))).2.2.2.1.2.2.1:=by unfold xInt; rw [qaF]; cases l[i]? <;> rfl
@[simp] theorem xInt_cL7 (l:List Li) (i:Nat):xInt (rOf cL l) i 7=(l[i]?.getD (0,([],[]),0,(0,[],0,0,[]),(0,[],0,0,[]))).2.2.2.1.2.2.2.1:=by unfold xInt; rw [qaF]; cases l[i]? <;> rfl
@[simp] theorem xStr_cL8 (l:List Li) (i:Nat):xStr (rOf cL l) i 8=(l[i]?.getD (0,([],[]),0,(0,[],0,0,[]),(0,[],0,0,[]))).2.2.2.1.2.2.2.2:=by unfold xStr; rw [qaF]; cases l[i]? <;> rfl
@[simp] theorem xInt_cL9 (l:List Li) (i:Nat):xInt (rOf cL l) i 9=(l[i]?.getD (0,([],[]),0,(0,[],0,0,[]),(0,[],0,0,[]))).2.2.2.2.1:=by unfold xInt; rw [qaF]; cases l[i]? <;> rfl
@[simp] theorem xStr_cL10 (l:List Li) (i:Nat):xStr (rOf cL l) i 10=(l[i]?.getD (0,([],[]),0,(0,[],0,0,[]),(0,[],0,0,[]))).2.2.2.2.2.1:=by unfold xStr; rw [qaF]; cases l[i]? <;> rfl
@[simp] theorem xInt_cL11 (l:List Li) (i:Nat):xInt (rOf cL l) i 11=(l[i]?.getD (0,([],[]),0,(0,[],0,0,[]),(0,[],0,0,[]))).2.2.2.2.2.2.1:=by unfold xInt; rw [qaF]; cases l[i]? <;> rfl
@[simp] theorem xInt_cL12 (l:List Li) (i:Nat):xInt (rOf cL l) i 12=(l[i]?.getD (0,([],[]),0,(0,[],0,0,[]),(0,[],0,0,[]))).2.2.2.2.2.2.2.1:=by unfold xInt; rw [qaF]; cases l[i]? <;> rfl
@[simp] theorem xStr_cL13 (l:List Li) (i:Nat):xStr (rOf cL l) i 13=(l[i]?.getD (0,([],[]),0,(0,[],0,0,[]),(0,[],0,0,[]))).2.2.2.2.2.2.2.2:=by unfold xStr; rw [qaF]; cases l[i]? <;> rfl
theorem qKa (l:List Li) (x0:Int) (x1:List UInt8) (x2:List Tm) (x3:Int) (x4:Int) (x5:List UInt8) (x6:Int) (x7:Int) (x8:List UInt8) (x9:Int) (x10:List UInt8) (x11:Int) (x12:Int) (x13:List UInt8):rOf cL l++[[.int .i64 x0,.str x1,.sl (rOf cM x2) .non,.int .i64 x3,.int .i64 x4,.str x5,.int .i64 x6,.int .i64 x7,.str x8,.int .i64 x9,.str x10,.int .i64 x11,.int .i64 x12,.str x13]]=rOf cL (l++[(x0,(x1,x2),x3,(x4,x5,x6,x7,x8),(x9,x10,x11,x12,x13))]):=by rw [qk1]; rfl
abbrev Ru:=At × List Li
def cRu:Cod Ru where
 enc t:=[.str t.1.1,.sl (rOf cM t.1.2) .non,.sl (rOf cL t.2) .non]
 dec c:=match c with | [.str x0,.sl x1 .non,.sl x2 .non]=>(match deR cM x1,deR cL x2 with | some y1,some y2=>some ((x0,y1),y2) | _,_=>none) | _=>none
 k:=3
 of_dec c a h:=by
  split at h
  ·split at h
   ·cases h
    rename_i h1 h2
    rw [qeL cM h1,qeL cL h2]
   ·cases h
  ·cases h
 dec_of a:=by simp only [qiE cL,qiE cM]
 lock a:=by simp only [qfz,lock,qap]
 shut a:=by simp only [qf7,shut,qfj]
 len a:=rfl
 one a:=rfl
@[simp] theorem okSize_cRu (l:List Ru):qao (rOf cRu l) 3=true:=qcf cRu l
@[simp] theorem okNews_cRu (l:List Ru):qas (rOf cRu l) 3=true:=qch cRu l
@[simp] theorem okGet_cRu (l:List Ru) (i:Nat):qbs [.str [],.sl [] .full,.sl [] .full] (rOf cRu l) i=decide (i < l.length):=qc0 _ _ (fun _=>rfl) l i
@[simp] theorem xStr_cRu0 (l:List Ru) (i:Nat):xStr (rOf cRu l) i 0=(l[i]?.getD (([],[]),[])).1.1:=by unfold xStr; rw [qaF]; cases l[i]? <;> rfl
@[simp] theorem xRow_cRu1 (l:List Ru) (i:Nat):xRow (rOf cRu l) i 1=rOf cM ((l[i]?.getD (([],[]),[])).1.2):=by unfold xRow; rw [qaF]; cases l[i]? <;> rfl
@[simp] theorem xRow_cRu2 (l:List Ru) (i:Nat):xRow (rOf cRu l) i 2=rOf cL ((l[i]?.getD (([],[]),[])).2):=by unfold xRow; rw [qaF]; cases l[i]? <;> rfl
abbrev De:=List UInt8 × Bool × List Int
def cD:Cod De where
 enc t:=[.str t.1,.bool t.2.1,.sl (rOf cI t.2.2) .non]
 dec c:=match c with | [.str x0,.bool x1,.sl x2 .non]=>(match deR cI x2 with | some y2=>some (x0,x1,y2) | _=>none) | _=>none
 k:=3
 of_dec c a h:=by
  split at h
  ·split at h
   ·cases h
    rename_i h2
    rw [qeL cI h2]
   ·cases h
  ·cases h
 dec_of a:=by simp only [qiE cI]
 lock a:=by simp only [qfz,lock,qap]
 shut a:=by simp only [qf7,shut,qfj]
 len a:=rfl
 one a:=rfl
@[simp] theorem okSize_cD (l:List De):qao (rOf cD l) 3=true:=qcf cD l
@[simp] theorem okNews_cD (l:List De):qas (rOf cD l) 3=true:=qch cD l
@[simp] theorem okGet_cD (l:List De) (i:Nat):qbs [.str [],.bool false,.sl [] .full] (rOf cD l) i=decide (i < l.length):=qc0 _ _ (fun _=>rfl) l i
@[simp] theorem xStr_cD0 (l:List De) (i:Nat):xStr (rOf cD l) i 0=(l[i]?.getD ([],false,[])).1:=by unfold xStr; rw [qaF]; cases l[i]? <;> rfl
@[simp] theorem xBool_cD1 (l:List De) (i:Nat):qf8 (rOf cD l) i 1=(l[i]?.getD ([],false,[])).2.1:=by unfold qf8; rw [qaF]; cases l[i]? <;> rfl
@[simp] theorem xRow_cD2 (l:List De) (i:Nat):xRow (rOf cD l) i 2=rOf cI ((l[i]?.getD ([],false,[])).2.2):=by unfold xRow; rw [qaF]; cases l[i]? <;> rfl
abbrev Pa:=List UInt8 × Int
def cP:Cod Pa where
 enc t:=[.str t.1,.int .i64 t.2]
 dec c:=match c with | [.str x0,.int .i64 x1]=>(some (x0,x1)) | _=>none
 k:=2
 of_dec c a h:=by
  split at h
  ·cases h; rfl
  ·cases h
 dec_of a:=rfl
 lock a:=rfl
 shut a:=rfl
 len a:=rfl
 one a:=rfl
@[simp] theorem qGd (l:List Pa):qao (rOf cP l) 2=true:=qcf cP l
@[simp] theorem okNews_cP (l:List Pa):qas (rOf cP l) 2=true:=qch cP l
@[simp] theorem okGet_cP (l:List Pa) (i:Nat):qbs [.str [],.int .i64 0] (rOf cP l) i=decide (i < l.length):=qc0 _ _ (fun _=>rfl) l i
@[simp] theorem xStr_cP0 (l:List Pa) (i:Nat):xStr (rOf cP l) i 0=(l[i]?.getD ([],0)).1:=by unfold xStr; rw [qaF]; cases l[i]? <;> rfl
@[simp] theorem xInt_cP1 (l:List Pa) (i:Nat):xInt (rOf cP l) i 1=(l[i]?.getD ([],0)).2:=by unfold xInt; rw [qaF]; cases l[i]? <;> rfl
theorem qKt (l:List Pa) (x0:List UInt8) (x1:Int):rOf cP l++[[.str x0,.int .i64 x1]]=rOf cP (l++[(x0,x1)]):=by rw [qk1]; rfl
abbrev Ac:=Bool × At
def cAc:Cod Ac where
 enc t:=[.bool t.1,.str t.2.1,.sl (rOf cM t.2.2) .non]
 dec c:=match c with | [.bool x0,.str x1,.sl x2 .non]=>(match deR cM x2 with | some y2=>some (x0,(x1,y2)) | _=>none) | _=>none
 k:=3
 of_dec c a h:=by
  split at h
  ·split at h
   ·cases h
    rename_i h2
    rw [qeL cM h2]
   ·cases h
  ·cases h
 dec_of a:=by simp only [qiE cM]
 lock a:=by simp only [qfz,lock,qap]
 shut a:=by simp only [qf7,shut,qfj]
 len a:=rfl
 one a:=rfl
@[simp] theorem qCE (l:List Ac):qao (rOf cAc l) 3=true:=qcf cAc l
@[simp] theorem okNews_cAc (l:List Ac):qas (rOf cAc l) 3=true:=qch cAc l
@[simp] theorem okGet_cAc (l:List Ac) (i:Nat):qbs [.bool false,.str [],.sl [] .full] (rOf cAc l) i=decide (i < l.length):=qc0 _ _ (fun _=>rfl) l i
@[simp] theorem xBool_cAc0 (l:List Ac) (i:Nat):qf8 (rOf cAc l) i 0=(l[i]?.getD (false,([],[]))).1:=by unfold qf8; rw [qaF]; cases l[i]? <;> rfl
@[simp] theorem xStr_cAc1 (l:List Ac) (i:Nat):xStr (rOf cAc l) i 1=(l[i]?.getD (false,([],[]))).2.1:=by unfold xStr; rw [qaF]; cases l[i]? <;> rfl
@[simp] theorem xRow_cAc2 (l:List Ac) (i:Nat):xRow (rOf cAc l) i 2=rOf cM ((l[i]?.getD (false,([],[]))).2.2):=by unfold xRow; rw [qaF]; cases l[i]? <;> rfl
theorem qIo (l:List Ac) (x0:Bool) (x1:List UInt8) (x2:List Tm):rOf cAc l++[[.bool x0,.str x1,.sl (rOf cM x2) .non]]=rOf cAc (l++[(x0,(x1,x2))]):=by rw [qk1]; rfl
abbrev En:=List UInt8 × List Pa × List Ac
def cE:Cod En where
 enc t:=[.str t.1,.sl (rOf cP t.2.1) .non,.sl (rOf cAc t.2.2) .non]
 dec c:=match c with | [.str x0,.sl x1 .non,.sl x2 .non]=>(match deR cP x1,deR cAc x2 with | some y1,some y2=>some (x0,y1,y2) | _,_=>none) | _=>none
 k:=3
 of_dec c a h:=by
  split at h
  ·split at h
   ·cases h
    rename_i h1 h2
    rw [qeL cP h1,qeL cAc h2]
   ·cases h
  ·cases h
 dec_of a:=by simp only [qiE cAc,qiE cP]
 lock a:=by simp only [qfz,lock,qap]
 shut a:=by simp only [qf7,shut,qfj]
 len a:=rfl
 one a:=rfl
@[simp] theorem okSize_cE (l:List En):qao (rOf cE l) 3=true:=qcf cE l
@[simp] theorem okNews_cE (l:List En):qas (rOf cE l) 3=true:=qch cE l
@[simp] theorem okGet_cE (l:List En) (i:Nat):qbs [.str [],.sl [] .full,.sl [] .full] (rOf cE l) i=decide (i < l.length):=qc0 _ _ (fun _=>rfl) l i
@[simp] theorem xStr_cE0 (l:List En) (i:Nat):xStr (rOf cE l) i 0=(l[i]?.getD ([],[],[])).1:=by unfold xStr; rw [qaF]; cases l[i]? <;> rfl
@[simp] theorem xRow_cE1 (l:List En) (i:Nat):xRow (rOf cE l) i 1=rOf cP ((l[i]?.getD ([],[],[])).2.1):=by unfold xRow; rw [qaF]; cases l[i]? <;> rfl
@[simp] theorem xRow_cE2 (l:List En) (i:Nat):xRow (rOf cE l) i 2=rOf cAc ((l[i]?.getD ([],[],[])).2.2):=by unfold xRow; rw [qaF]; cases l[i]? <;> rfl
end Go.Pv
set_option maxHeartbeats 8000000
set_option maxRecDepth 200000
set_option linter.unusedSimpArgs false
set_option linter.unusedVariables false
namespace Go.Pv
open Go Go.Proofs Go.RowKit
def isW1 (k:Int) (s:List UInt8):Bool:=match qfM s with
 | ([w],none)=>decide (w.1=k) && decide (w.2.1=s)
 | _=>false
def tk (k:Int) (s:List UInt8):Wv:=(k,s,0,0,[])
def vlR (v:Vl):Prop:=-9223372036854775808≤v.2.1∧v.2.1≤9223372036854775807
def vlT (v:Vl):List UInt8:=qe1 v.1 v.2.1 v.2.2
def vlOk (v:Vl):Bool:=isV v.1 v.2.1 v.2.2
end Go.Pv
set_option maxHeartbeats 8000000
set_option maxRecDepth 200000
set_option linter.unusedSimpArgs false
set_option linter.unusedVariables false
namespace Go.Pv
open Go Go.Proofs Go.RowKit
abbrev Txt:=List UInt8
def resv:List Txt:=[[98,97,115,101],[118,105,101,119],[111,110],[110,111,116]]
def nmB (s:Txt):Bool:=isW1 1 s && !resv.contains s
def vrB (s:Txt):Bool:=isW1 2 s
def jn {α:Type} (ok:α→Bool) (T:α→Txt) (sep:Txt) (l:List α):Txt:=if l.all ok then qdR (l.map T) sep else []
def tmOk (t:Tm):Bool:=if t.1=1 then vrB t.2.1 && decide (t.2.2=(0,0,[])) else if t.1=2 then vlOk t.2.2 && decide (t.2.1=[]) else decide (t=(3,[],0,0,[]))
def tmT (t:Tm):Txt:=if t.1=1 then t.2.1 else if t.1=2 then vlT t.2.2 else [95]
def atOk (a:At):Bool:=a.2.all tmOk && nmB a.1
def atT (a:At):Txt:=a.1++[40]++jn tmOk tmT [44,32] a.2++[41]
def opOk (o:Int):Bool:=decide (1≤o∧o≤6)
def opT (o:Int):Txt:=if o=1 then [32,61,32] else if o=2 then [32,33,61,32] else if o=3 then [32,60,32] else if o=4 then [32,60,61,32] else if o=5 then [32,62,32] else if o=6 then [32,62,61,32] else []
def tm0:Tm:=(0,[],0,0,[])
def qCU (l:Li):Bool:=decide (l.2.2.1=0) && decide (l.2.2.2.1=tm0) && decide (l.2.2.2.2=tm0)
def liOk (l:Li):Bool:=if l.1=1∨l.1=2 then atOk l.2.1 && qCU l else if l.1=3 then tmOk l.2.2.2.1 && opOk l.2.2.1 && tmOk l.2.2.2.2 && decide (l.2.1=([],[])) else false
def liT (l:Li):Txt:=if l.1=1 then atT l.2.1 else if l.1=2 then [110,111,116,32]++atT l.2.1 else if l.1=3 then tmT l.2.2.2.1++opT l.2.2.1++tmT l.2.2.2.2 else []
def ruOk (r:Ru):Bool:=atOk r.1 && r.2.all liOk
def ruT (r:Ru):Txt:=atT r.1++(if r.2=[] then [] else [32,58,45,32]++jn liOk liT [44,32] r.2)++[46]
def tyOk (t:Int):Bool:=decide (t=1∨t=2)
def tyT (t:Int):Txt:=if t=1 then [105,110,116] else if t=2 then [115,121,109] else []
def deOk (d:De):Bool:=d.2.2.all tyOk && nmB d.1
def deT (d:De):Txt:=(if d.2.1 then [98,97,115,101,32] else [118,105,101,119,32])++d.1++[40]++jn tyOk tyT [44,32] d.2.2++[41,46]
def paOk (p:Pa):Bool:=tyOk p.2 && vrB p.1
def paT (p:Pa):Txt:=p.1++[32]++tyT p.2
def acOk (a:Ac):Bool:=atOk a.2
def acT (a:Ac):Txt:=(if a.1 then [43] else [45])++atT a.2
def enOk (o:En):Bool:=o.2.1.all paOk && o.2.2.all acOk && nmB o.1
def enT (o:En):Txt:=[111,110,32]++o.1++[40]++jn paOk paT [44,32] o.2.1++[41]++(if o.2.2=[] then [] else [58,32]++jn acOk acT [44,32] o.2.2)++[46]
def opW (o:Int):Txt:=if o=1 then [61] else if o=2 then [33,61] else if o=3 then [60] else if o=4 then [60,61] else if o=5 then [62] else [62,61]
def tmR (t:Tm):Prop:=vlR t.2.2
def atR (a:At):Prop:=∀ t ∈ a.2,tmR t
def liR (l:Li):Prop:=atR l.2.1∧tmR l.2.2.2.1∧tmR l.2.2.2.2
def ruR (r:Ru):Prop:=atR r.1∧∀ l ∈ r.2,liR l
def acR (a:Ac):Prop:=atR a.2
def enR (o:En):Prop:=∀ a ∈ o.2.2,acR a
theorem qrh (sep:Txt):qdR [] sep=[]:=rfl
theorem qlB (x sep:Txt):qdR [x] sep=x:=by simp [qdR,Lib.join_one]
theorem qln (x y:Txt) (l:List Txt) (sep:Txt):qdR (x :: y :: l) sep=x++(sep++qdR (y :: l) sep):=by simp [qdR,Lib.join,List.intercalate]
theorem qNM {α:Type} {ok:α→Bool} {T:α→Txt} {sep:Txt} {l:List α} (h:l.all ok=true):jn ok T sep l=qdR (l.map T) sep:=by unfold jn; rw [if_pos h]
end Go.Pv
set_option linter.unusedSimpArgs false
set_option linter.unusedVariables false
namespace Go.Pv
theorem qcS {α β ρ:Type} {l:List α} (n:Nat) (hn:n≤l.length) {V:Nat→List β→ρ} (ok:α→Bool) (g:α→β) (fin:List β→ρ) (Bad:ρ→Prop)
  (hgood:∀ (i:Nat) (b:List β) (a:α),b.length=i→(hi:i < l.length)→i < n→l[i]=a→ok a=true→V i b=V (i+1) (b++[g a]))
  (hbad:∀ (i:Nat) (b:List β) (a:α),b.length=i→(hi:i < l.length)→i < n→l[i]=a→ok a=false→Bad (V i b))
  (hend:∀ b:List β,b.length=n→V n b=fin b):((l.take n).all ok=true→V 0 []=fin ((l.take n).map g))∧((l.take n).all ok=false→Bad (V 0 [])):=by
 have key:∀ (m i:Nat),i+m=n→(((l.take n).drop i).all ok=true→V i ((l.take i).map g)=fin ((l.take n).map g))∧(((l.take n).drop i).all ok=false→Bad (V i ((l.take i).map g))):=by
  intro m
  induction m with
  | zero =>
   intro i hi
   have e:i=n:=by omega
   subst e
   have hd:(l.take i).drop i=[]:=List.drop_eq_nil_of_le (by rw [List.length_take]; omega)
   rw [hd]
   exact ⟨fun _=>hend _ (by rw [List.length_map,List.length_take]; omega),fun h=>by simp at h⟩
  | succ m ih =>
   intro i hi
   obtain ⟨ih1,ih2⟩:=ih (i+1) (by omega)
   have hlt:i < l.length:=by omega
   have hd:(l.take n).drop i=l[i] :: (l.take n).drop (i+1):=by
    have hlt':i < (l.take n).length:=by rw [List.length_take]; omega
    rw [List.drop_eq_getElem_cons hlt']
    simp
   have hb:((l.take i).map g).length=i:=by rw [List.length_map,List.length_take]; omega
   have ht:(l.take (i+1)).map g=(l.take i).map g++[g l[i]]:=by
    rw [← List.take_append_getElem hlt,List.map_append]
    rfl
   rw [hd,List.all_cons]
   cases ho:ok l[i] with
   | true =>
    rw [Bool.true_and,hgood i _ l[i] hb hlt (by omega) rfl ho,← ht]
    exact ⟨ih1,ih2⟩
   | false =>
    rw [Bool.false_and]
    exact ⟨fun h=>(by cases h),fun _=>hbad i _ l[i] hb hlt (by omega) rfl ho⟩
 have:=key n 0 (by omega)
 simpa using this
theorem qop {α β ρ:Type} {l:List α} (n:Nat) (hn:n≤l.length) {V:Nat→List β→ρ} (g:α→β) (fin:List β→ρ)
  (hstep:∀ (i:Nat) (b:List β) (a:α),b.length=i→(hi:i < l.length)→i < n→l[i]=a→V i b=V (i+1) (b++[g a]))
  (hend:∀ b:List β,b.length=n→V n b=fin b):V 0 []=fin ((l.take n).map g) :=
 (qcS n hn (fun _=>true) g fin (fun _=>False) (fun i b a h1 h2 h3 h4 _=>hstep i b a h1 h2 h3 h4) (fun _ _ _ _ _ _ _ h=>by cases h) hend).1 (by simp)
end Go.Pv
