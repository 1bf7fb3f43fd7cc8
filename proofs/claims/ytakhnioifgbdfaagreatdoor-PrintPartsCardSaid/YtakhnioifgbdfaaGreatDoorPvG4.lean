/- Part 4 of the proof: pure values for the machine's values, what functions compute over them, and laws of what is computed. Conditions: none beyond each theorem's own premises. -/
import Derived.Test.YtakhnioifgbdfaaGreatDoorPvG3
set_option maxHeartbeats 4000000
set_option maxRecDepth 200000
set_option linter.unusedSimpArgs false
set_option linter.unusedVariables false
namespace Go.Pv
open Go Go.Proofs
noncomputable def qrm:GamT:=ofL []
theorem qyX (gl:Gl):qaJ Tryz.prog gl (gam qrm):=qag
noncomputable def qw8:LpsT:=fun r fr σ=>.fail
noncomputable def qog (c:Int):Tr PV:=.ite (iLe 48 c) (.ret (.bool (iLe c 57))) (.ret (.bool false))
theorem qDj (c:Int):(tcall tbT qrm qw8 Tryz.f156 [.int .u8 c]).flat=qog c:=by kernel_rfl
noncomputable def qnc (c:Int):Option PV:=(qog c).run
noncomputable def qa6 (c:Int):Bool:=(qcc (gVal (qnc c)))
noncomputable def qa1 (c:Int):Bool:=isW (qnc c) (.bool (qa6 c))
noncomputable def qkG:List PV→Tr PV | [.int .u8 c]=>.ite (qa1 c) (.ret (.bool (qa6 c))) (.fail) | _=>.fail
theorem qlY (gl:Gl):SimP Tryz.prog gl 156 fun args=>(qkG args).run:=by
 refine SimP.of_flat (G:=qrm) (L:=qw8) qaj (qyX gl ) qah  Tryz.func156 rfl (by rfl) (by kernel_rfl) (qae (by kernel_rfl)) ?_
 intro args x h
 unfold qkG at h
 split at h
 ·exact (congrArg Tr.run (qDj _)).trans (qai h fun h=>by cases h)
 ·cases h
noncomputable def qkV:GamT:=ofL [(156,.pure qkG)]
theorem qs6 (gl:Gl):qaJ Tryz.prog gl (gam qkV):=(qad (qlY gl) qag)
noncomputable def qpK:LpsT:=fun r fr σ=>.fail
noncomputable def qi2 (c:Int):Tr PV:=.ite (iLe 97 c) (.ite (iLe c 122) (.ret (.bool true)) (.ite (iLe 65 c) (.ite (iLe c 90) (.ret (.bool true)) (.ite (iEq c 95) (.ret (.bool true)) (.ite (qa1 c) (.ret (.bool (qa6 c))) .fail))) (.ite (iEq c 95) (.ret (.bool true)) (.ite (qa1 c) (.ret (.bool (qa6 c))) .fail)))) (.ite (iLe 65 c) (.ite (iLe c 90) (.ret (.bool true)) (.ite (iEq c 95) (.ret (.bool true)) (.ite (qa1 c) (.ret (.bool (qa6 c))) .fail))) (.ite (iEq c 95) (.ret (.bool true)) (.ite (qa1 c) (.ret (.bool (qa6 c))) .fail)))
theorem qx5 (c:Int):(tcall tbT qkV qpK Tryz.f155 [.int .u8 c]).flat=qi2 c:=by kernel_rfl
noncomputable def qh0 (c:Int):Option PV:=(qi2 c).run
noncomputable def qbO (c:Int):Bool:=(qcc (gVal (qh0 c)))
noncomputable def qbB (c:Int):Bool:=isW (qh0 c) (.bool (qbO c))
noncomputable def qf7:List PV→Tr PV | [.int .u8 c]=>.ite (qbB c) (.ret (.bool (qbO c))) (.fail) | _=>.fail
theorem qhx (gl:Gl):SimP Tryz.prog gl 155 fun args=>(qf7 args).run:=by
 refine SimP.of_flat (G:=qkV) (L:=qpK) qaj (qs6 gl ) qah  Tryz.func155 rfl (by rfl) (by kernel_rfl) (qae (by kernel_rfl)) ?_
 intro args x h
 unfold qf7 at h
 split at h
 ·exact (congrArg Tr.run (qx5 _)).trans (qai h fun h=>by cases h)
 ·cases h
noncomputable def qo2:GamT:=ofL [(155,.pure qf7),(156,.pure qkG)]
theorem qwI (gl:Gl):qaJ Tryz.prog gl (gam qo2):=(qad (qhx gl) (qad (qlY gl) qag))
noncomputable def qoL:Code:=qhg Tryz.f158 2
def qni:LI:=⟨20,[0,1,5],fun e=>match e with | .exit 0=>[5] | _=>[],true⟩
noncomputable def qmA:LpsT:=fun r fr σ=>.fail
noncomputable def qeP (vs:List PV) (σ:Store):Option (PExit × List PV × Store):=lval (lstep tbT qo2 qmA qoL qni) vs σ
noncomputable def qjX (s:List UInt8) (n:Int):Tr LR:=.ite (iLt n (sLen s)) (.ite (qap s n) (.ite (qbB (sAt s n)) (.ite (qbO (sAt s n)) (.ret (.next [.str s,.fn 155 [],.int .i64 (iAdd .i64 n 1)] ⟨[],[],[]⟩)) (.ret (.out (.exit 0) [.int .i64 n] ⟨[],[],[]⟩))) .fail) .fail) (.ret (.out (.exit 0) [.int .i64 n] ⟨[],[],[]⟩))
theorem qG5 (s:List UInt8) (n:Int):lstep tbT qo2 qmA qoL qni [.str s,.fn 155 [],.int .i64 n] ⟨[],[],[]⟩=qjX s n:=by kernel_rfl
theorem qzo (s:List UInt8) (n:Int):qeP [.str s,.fn 155 [],.int .i64 n] ⟨[],[],[]⟩=lnext qeP (qjX s n).run:=by unfold qeP; rw [qb7,qG5]
noncomputable def qhj (s:List UInt8) (n:Int):Tr LR:=.ite (iLt n (sLen s)) (.ite (qap s n) (.ite (qa1 (sAt s n)) (.ite (qa6 (sAt s n)) (.ret (.next [.str s,.fn 156 [],.int .i64 (iAdd .i64 n 1)] ⟨[],[],[]⟩)) (.ret (.out (.exit 0) [.int .i64 n] ⟨[],[],[]⟩))) .fail) .fail) (.ret (.out (.exit 0) [.int .i64 n] ⟨[],[],[]⟩))
theorem qC7 (s:List UInt8) (n:Int):lstep tbT qo2 qmA qoL qni [.str s,.fn 156 [],.int .i64 n] ⟨[],[],[]⟩=qhj s n:=by kernel_rfl
theorem qv8 (s:List UInt8) (n:Int):qeP [.str s,.fn 156 [],.int .i64 n] ⟨[],[],[]⟩=lnext qeP (qhj s n).run:=by unfold qeP; rw [qb7,qC7]
noncomputable def qun (s:List UInt8) (n:Int):Option (PExit × List PV × Store):=qeP [.str s,.fn 155 [],.int .i64 n] ⟨[],[],[]⟩
noncomputable def qrc (s:List UInt8) (n:Int):Int:=(gInt (gOut (qun s n) 0))
noncomputable def qoV (s:List UInt8) (n:Int):Bool:=isW (qun s n) ((.exit 0),[.int .i64 (qrc s n)],⟨[],[],[]⟩)
noncomputable def qqZ (s:List UInt8) (n:Int):Option (PExit × List PV × Store):=qeP [.str s,.fn 156 [],.int .i64 n] ⟨[],[],[]⟩
noncomputable def qmg (s:List UInt8) (n:Int):Int:=(gInt (gOut (qqZ s n) 0))
noncomputable def qlV (s:List UInt8) (n:Int):Bool:=isW (qqZ s n) ((.exit 0),[.int .i64 (qmg s n)],⟨[],[],[]⟩)
noncomputable def qiG:List PV→Store→Tr (PExit × List PV × Store) | [.str s,.fn 155 [],.int .i64 n],⟨[],[],[]⟩=>.ite (qoV s n) (.ret ((.exit 0),[.int .i64 (qrc s n)],⟨[],[],[]⟩)) (.fail) | [.str s,.fn 156 [],.int .i64 n],⟨[],[],[]⟩=>.ite (qlV s n) (.ret ((.exit 0),[.int .i64 (qmg s n)],⟨[],[],[]⟩)) (.fail) | _,_=>.fail
theorem qDV:∀ vs σ r,(qiG vs σ).run=some r→qeP vs σ=some r:=by
 intro vs σ r h
 unfold qiG at h
 split at h
 ·exact qai h fun h=>by cases h
 ·exact qai h fun h=>by cases h
 ·cases h
theorem qyv (gl:Gl):∀ fr σ e fr' σ',(orc qni qiG fr σ).run=some (e,fr',σ')→LDoes Tryz.prog gl qoL fr σ e fr' σ':=qdI qaj (qwI gl ) qah (L:=qmA) (qae (by kernel_rfl)) (by kernel_rfl) qDV
noncomputable def qw5:LpsT:=fun r fr σ=>bif Nat.beq r 2 then orc qni qiG fr σ else .fail
noncomputable def qtW (s:List UInt8):Tr PV:=.ite (qoV s 0) (.ret (.int .i64 (qrc s 0))) .fail
theorem qHU (s:List UInt8):(tcall tbT qo2 qw5 Tryz.f158 [.str s,.fn 155 []]).flat=qtW s:=by kernel_rfl
noncomputable def qw3 (s:List UInt8):Option PV:=(qtW s).run
noncomputable def qkH (s:List UInt8):Int:=(gInt (gVal (qw3 s)))
noncomputable def qmh (s:List UInt8):Bool:=isW (qw3 s) (.int .i64 (qkH s))
noncomputable def qrO (s:List UInt8):Tr PV:=.ite (qlV s 0) (.ret (.int .i64 (qmg s 0))) .fail
theorem qFF (s:List UInt8):(tcall tbT qo2 qw5 Tryz.f158 [.str s,.fn 156 []]).flat=qrO s:=by kernel_rfl
noncomputable def qrz (s:List UInt8):Option PV:=(qrO s).run
noncomputable def qaf (s:List UInt8):Int:=(gInt (gVal (qrz s)))
noncomputable def qby (s:List UInt8):Bool:=isW (qrz s) (.int .i64 (qaf s))
noncomputable def qwb:List PV→Tr PV | [.str s,.fn 155 []]=>.ite (qmh s) (.ret (.int .i64 (qkH s))) (.fail) | [.str s,.fn 156 []]=>.ite (qby s) (.ret (.int .i64 (qaf s))) (.fail) | _=>.fail
theorem qxy (gl:Gl):SimP Tryz.prog gl 158 fun args=>(qwb args).run:=by
 refine SimP.of_flat (G:=qo2) (L:=qw5) qaj (qwI gl ) qah  Tryz.func158 rfl (by rfl) (by kernel_rfl) (qbt (L:=lps qw5) [(2,qoL)] (by kernel_rfl) (List.forall_mem_cons.2 ⟨fun fr σ e fr' σ' h=>qyv gl  fr σ e fr' σ' h,(List.forall_mem_nil _)⟩)) ?_
 intro args x h
 unfold qwb at h
 split at h
 ·exact (congrArg Tr.run (qHU _)).trans (qai h fun h=>by cases h)
 ·exact (congrArg Tr.run (qFF _)).trans (qai h fun h=>by cases h)
 ·cases h
noncomputable def qhE:GamT:=ofL []
theorem qoW (gl:Gl):qaJ Tryz.prog gl (gam qhE):=qag
noncomputable def qiI:Code:=qhg Tryz.f159 2
def qh2:LI:=⟨21,[0,3],fun e=>match e with | .ret=>[2] | .exit 0=>[] | _=>[],true⟩
noncomputable def qi6:LpsT:=fun r fr σ=>.fail
noncomputable def qct (vs:List PV) (σ:Store):Option (PExit × List PV × Store):=lval (lstep tbT qhE qi6 qiI qh2) vs σ
noncomputable def qdP (s:List UInt8) (i:Int):Tr LR:=.ite (iLt i (sLen s)) (.ite (qap s i) (.ite (iEq (sAt s i) 92) (.ret (.next [.str s,.int .i64 (iAdd .i64 (iAdd .i64 i 1) 1)] ⟨[],[],[]⟩)) (.ite (iEq (sAt s i) 34) (.ret (.out .ret [.int .i64 (iAdd .i64 i 1)] ⟨[],[],[]⟩)) (.ret (.next [.str s,.int .i64 (iAdd .i64 i 1)] ⟨[],[],[]⟩)))) .fail) (.ret (.out (.exit 0) [] ⟨[],[],[]⟩))
theorem qx0 (s:List UInt8) (i:Int):lstep tbT qhE qi6 qiI qh2 [.str s,.int .i64 i] ⟨[],[],[]⟩=qdP s i:=by kernel_rfl
theorem qp8 (s:List UInt8) (i:Int):qct [.str s,.int .i64 i] ⟨[],[],[]⟩=lnext qct (qdP s i).run:=by unfold qct; rw [qb7,qx0]
noncomputable def qfR (s:List UInt8) (i:Int):Option (PExit × List PV × Store):=qct [.str s,.int .i64 i] ⟨[],[],[]⟩
noncomputable def qeg (s:List UInt8) (i:Int):Int:=(gInt (gOut (qfR s i) 0))
noncomputable def qfp (s:List UInt8) (i:Int):Bool:=isW (qfR s i) (.ret,[.int .i64 (qeg s i)],⟨[],[],[]⟩)
noncomputable def qfy (s:List UInt8) (i:Int):Bool:=isW (qfR s i) ((.exit 0),[],⟨[],[],[]⟩)
noncomputable def qes:List PV→Store→Tr (PExit × List PV × Store) | [.str s,.int .i64 i],⟨[],[],[]⟩=>.ite (qfp s i) (.ret (.ret,[.int .i64 (qeg s i)],⟨[],[],[]⟩)) (.ite (qfy s i) (.ret ((.exit 0),[],⟨[],[],[]⟩)) (.fail)) | _,_=>.fail
theorem qvh:∀ vs σ r,(qes vs σ).run=some r→qct vs σ=some r:=by
 intro vs σ r h
 unfold qes at h
 split at h
 ·exact qai h fun h=>qai h fun h=>by cases h
 ·cases h
theorem qrW (gl:Gl):∀ fr σ e fr' σ',(orc qh2 qes fr σ).run=some (e,fr',σ')→LDoes Tryz.prog gl qiI fr σ e fr' σ':=qdI qaj (qoW gl ) qah (L:=qi6) (qae (by kernel_rfl)) (by kernel_rfl) qvh
noncomputable def qnj:LpsT:=fun r fr σ=>bif Nat.beq r 2 then orc qh2 qes fr σ else .fail
noncomputable def qld (s:List UInt8):Tr PV:=.ite (qfp s 1) (.ret (.int .i64 (qeg s 1))) (.ite (qfy s 1) (.ret (.int .i64 0)) .fail)
theorem qCE (s:List UInt8):(tcall tbT qhE qnj Tryz.f159 [.str s]).flat=qld s:=by kernel_rfl
noncomputable def qjY (s:List UInt8):Option PV:=(qld s).run
noncomputable def qab (s:List UInt8):Int:=(gInt (gVal (qjY s)))
noncomputable def qbf (s:List UInt8):Bool:=isW (qjY s) (.int .i64 (qab s))
noncomputable def qoj:List PV→Tr PV | [.str s]=>.ite (qbf s) (.ret (.int .i64 (qab s))) (.fail) | _=>.fail
theorem qvA (gl:Gl):SimP Tryz.prog gl 159 fun args=>(qoj args).run:=by
 refine SimP.of_flat (G:=qhE) (L:=qnj) qaj (qoW gl ) qah  Tryz.func159 rfl (by rfl) (by kernel_rfl) (qbt (L:=lps qnj) [(2,qiI)] (by kernel_rfl) (List.forall_mem_cons.2 ⟨fun fr σ e fr' σ' h=>qrW gl  fr σ e fr' σ' h,(List.forall_mem_nil _)⟩)) ?_
 intro args x h
 unfold qoj at h
 split at h
 ·exact (congrArg Tr.run (qCE _)).trans (qai h fun h=>by cases h)
 ·cases h
noncomputable def qtA:GamT:=ofL [(153,.pure qgy)]
theorem qwT (gl:Gl):qaJ Tryz.prog gl (gam qtA):=(qad (qjN gl) qag)
noncomputable def qrI:Code:=qhg Tryz.f140 2
def qsk:LI:=⟨34,[0,3],fun e=>match e with | .ret=>[2] | .exit 0=>[3] | _=>[],true⟩
noncomputable def qq5:LpsT:=fun r fr σ=>.fail
noncomputable def qjz (vs:List PV) (σ:Store):Option (PExit × List PV × Store):=lval (lstep tbT qtA qq5 qrI qsk) vs σ
noncomputable def qgY (s:List UInt8) (at_:Int):Tr LR:=.ite (iLt at_ (sLen s)) (.ite (qap s at_) (.ite (iEq (sAt s at_) 32) (.ret (.next [.str s,.int .i64 (iAdd .i64 at_ 1)] ⟨[],[],[]⟩)) (.ite (iEq (sAt s at_) 9) (.ret (.next [.str s,.int .i64 (iAdd .i64 at_ 1)] ⟨[],[],[]⟩)) (.ite (iEq (sAt s at_) 10) (.ret (.next [.str s,.int .i64 (iAdd .i64 at_ 1)] ⟨[],[],[]⟩)) (.ite (iEq (sAt s at_) 13) (.ret (.next [.str s,.int .i64 (iAdd .i64 at_ 1)] ⟨[],[],[]⟩)) (.ite (iEq (sAt s at_) 37) (.ite (qaw (qal at_) true (nNat at_) (nLen s) (nLen s)) (.ite (iLt (idxV (sSub s (nNat at_) (nLen s)) 10) 0) (.ret (.out .ret [.int .i64 (sLen s)] ⟨[],[],[]⟩)) (.ret (.next [.str s,.int .i64 (iAdd .i64 at_ (idxV (sSub s (nNat at_) (nLen s)) 10))] ⟨[],[],[]⟩))) .fail) (.ret (.out .ret [.int .i64 at_] ⟨[],[],[]⟩))))))) .fail) (.ret (.out (.exit 0) [.int .i64 at_] ⟨[],[],[]⟩))
theorem qFO (s:List UInt8) (at_:Int):lstep tbT qtA qq5 qrI qsk [.str s,.int .i64 at_] ⟨[],[],[]⟩=qgY s at_:=by kernel_rfl
theorem qzZ (s:List UInt8) (at_:Int):qjz [.str s,.int .i64 at_] ⟨[],[],[]⟩=lnext qjz (qgY s at_).run:=by unfold qjz; rw [qb7,qFO]
noncomputable def qn9 (s:List UInt8) (at_:Int):Option (PExit × List PV × Store):=qjz [.str s,.int .i64 at_] ⟨[],[],[]⟩
noncomputable def qkj (s:List UInt8) (at_:Int):Int:=(gInt (gOut (qn9 s at_) 0))
noncomputable def qov (s:List UInt8) (at_:Int):Bool:=isW (qn9 s at_) (.ret,[.int .i64 (qkj s at_)],⟨[],[],[]⟩)
noncomputable def qgH (s:List UInt8) (at_:Int):Int:=(gInt (gOut (qn9 s at_) 0))
noncomputable def qol (s:List UInt8) (at_:Int):Bool:=isW (qn9 s at_) ((.exit 0),[.int .i64 (qgH s at_)],⟨[],[],[]⟩)
noncomputable def qh7:List PV→Store→Tr (PExit × List PV × Store) | [.str s,.int .i64 at_],⟨[],[],[]⟩=>.ite (qov s at_) (.ret (.ret,[.int .i64 (qkj s at_)],⟨[],[],[]⟩)) (.ite (qol s at_) (.ret ((.exit 0),[.int .i64 (qgH s at_)],⟨[],[],[]⟩)) (.fail)) | _,_=>.fail
theorem qDT:∀ vs σ r,(qh7 vs σ).run=some r→qjz vs σ=some r:=by
 intro vs σ r h
 unfold qh7 at h
 split at h
 ·exact qai h fun h=>qai h fun h=>by cases h
 ·cases h
theorem qxL (gl:Gl):∀ fr σ e fr' σ',(orc qsk qh7 fr σ).run=some (e,fr',σ')→LDoes Tryz.prog gl qrI fr σ e fr' σ':=qdI qaj (qwT gl ) qah (L:=qq5) (qae (by kernel_rfl)) (by kernel_rfl) qDT
noncomputable def qzd:LpsT:=fun r fr σ=>bif Nat.beq r 2 then orc qsk qh7 fr σ else .fail
noncomputable def quw (s:List UInt8):Tr PV:=.ite (qov s 0) (.ret (.int .i64 (qkj s 0))) (.ite (qol s 0) (.ret (.int .i64 (qgH s 0))) .fail)
theorem qHO (s:List UInt8):(tcall tbT qtA qzd Tryz.f140 [.str s]).flat=quw s:=by kernel_rfl
noncomputable def qwE (s:List UInt8):Option PV:=(quw s).run
noncomputable def qa5 (s:List UInt8):Int:=(gInt (gVal (qwE s)))
noncomputable def qex (s:List UInt8):Bool:=isW (qwE s) (.int .i64 (qa5 s))
noncomputable def qBX:List PV→Tr PV | [.str s]=>.ite (qex s) (.ret (.int .i64 (qa5 s))) (.fail) | _=>.fail
theorem qDl (gl:Gl):SimP Tryz.prog gl 140 fun args=>(qBX args).run:=by
 refine SimP.of_flat (G:=qtA) (L:=qzd) qaj (qwT gl ) qah  Tryz.func140 rfl (by rfl) (by kernel_rfl) (qbt (L:=lps qzd) [(2,qrI)] (by kernel_rfl) (List.forall_mem_cons.2 ⟨fun fr σ e fr' σ' h=>qxL gl  fr σ e fr' σ' h,(List.forall_mem_nil _)⟩)) ?_
 intro args x h
 unfold qBX at h
 split at h
 ·exact (congrArg Tr.run (qHO _)).trans (qai h fun h=>by cases h)
 ·cases h
noncomputable def quS:GamT:=ofL [(155,.pure qf7),(158,.pure qwb)]
theorem qBV (gl:Gl):qaJ Tryz.prog gl (gam quS):=(qad (qhx gl) (qad (qxy gl) qag))
noncomputable def qz9:LpsT:=fun r fr σ=>.fail
noncomputable def qq7 (s:List UInt8) (k:Int):Tr PV:=.ite (qmh s) (.ite (qaw true (qal (qkH s)) 0 (nNat (qkH s)) (nLen s)) (.ret (.tup [.agg [.int .i64 k,.str (sSub s 0 (nNat (qkH s))),.int .i64 0,.int .i64 0,.str [],.int .i64 0],.bool (iLe (qkH s) 64)])) .fail) .fail
theorem qFY (s:List UInt8) (k:Int):(tcall tbT quS qz9 Tryz.f154 [.str s,.int .i64 k]).flat=qq7 s k:=by kernel_rfl
noncomputable def qfF (s:List UInt8) (k:Int):Option PV:=(qq7 s k).run
noncomputable def qfg (s:List UInt8) (k:Int):Int:=(gInt (gAt (gCs (gAt (gCs (gVal (qfF s k))) 0)) 0))
noncomputable def qeX (s:List UInt8) (k:Int):List UInt8:=(gStr (gAt (gCs (gAt (gCs (gVal (qfF s k))) 0)) 1))
noncomputable def qdy (s:List UInt8) (k:Int):Int:=(gInt (gAt (gCs (gAt (gCs (gVal (qfF s k))) 0)) 2))
noncomputable def qdq (s:List UInt8) (k:Int):Int:=(gInt (gAt (gCs (gAt (gCs (gVal (qfF s k))) 0)) 3))
noncomputable def qdE (s:List UInt8) (k:Int):List UInt8:=(gStr (gAt (gCs (gAt (gCs (gVal (qfF s k))) 0)) 4))
noncomputable def qdA (s:List UInt8) (k:Int):Int:=(gInt (gAt (gCs (gAt (gCs (gVal (qfF s k))) 0)) 5))
noncomputable def qe1 (s:List UInt8) (k:Int):Bool:=(qcc (gAt (gCs (gVal (qfF s k))) 1))
noncomputable def qdo (s:List UInt8) (k:Int):Bool:=isW (qfF s k) (.tup [.agg [.int .i64 (qfg s k),.str (qeX s k),.int .i64 (qdy s k),.int .i64 (qdq s k),.str (qdE s k),.int .i64 (qdA s k)],.bool (qe1 s k)])
noncomputable def qvb:List PV→Tr PV | [.str s,.int .i64 k]=>.ite (qdo s k) (.ret (.tup [.agg [.int .i64 (qfg s k),.str (qeX s k),.int .i64 (qdy s k),.int .i64 (qdq s k),.str (qdE s k),.int .i64 (qdA s k)],.bool (qe1 s k)])) (.fail) | _=>.fail
theorem qyY (gl:Gl):SimP Tryz.prog gl 154 fun args=>(qvb args).run:=by
 refine SimP.of_flat (G:=quS) (L:=qz9) qaj (qBV gl ) qah  Tryz.func154 rfl (by rfl) (by kernel_rfl) (qae (by kernel_rfl)) ?_
 intro args x h
 unfold qvb at h
 split at h
 ·exact (congrArg Tr.run (qFY _ _)).trans (qai h fun h=>by cases h)
 ·cases h
noncomputable def qoo:GamT:=ofL [(169,.pure qpv)]
theorem qvP (gl:Gl) (hg:GlOk gl):qaJ Tryz.prog gl (gam qoo):=(qad (qD8 hg) qag)
noncomputable def qtu:LpsT:=fun r fr σ=>.fail
noncomputable def qlw (s:List UInt8) (k:Int):Tr PV:=.ite (qhL s) (.ret (.tup [.agg [.int .i64 k,.str s,.int .i64 (kRd s),.int .i64 (nRd s),.str (sRd s),.int .i64 0],.bool (iEq (eRd s) 0)])) .fail
theorem qBG (s:List UInt8) (k:Int):(tcall tbT qoo qtu Tryz.f157 [.str s,.int .i64 k]).flat=qlw s k:=by kernel_rfl
noncomputable def qc6 (s:List UInt8) (k:Int):Option PV:=(qlw s k).run
noncomputable def qaz (s:List UInt8) (k:Int):Int:=(gInt (gAt (gCs (gAt (gCs (gVal (qc6 s k))) 0)) 0))
noncomputable def qaA (s:List UInt8) (k:Int):List UInt8:=(gStr (gAt (gCs (gAt (gCs (gVal (qc6 s k))) 0)) 1))
noncomputable def qar (s:List UInt8) (k:Int):Int:=(gInt (gAt (gCs (gAt (gCs (gVal (qc6 s k))) 0)) 2))
noncomputable def qat (s:List UInt8) (k:Int):Int:=(gInt (gAt (gCs (gAt (gCs (gVal (qc6 s k))) 0)) 3))
noncomputable def qas (s:List UInt8) (k:Int):List UInt8:=(gStr (gAt (gCs (gAt (gCs (gVal (qc6 s k))) 0)) 4))
noncomputable def qaq (s:List UInt8) (k:Int):Int:=(gInt (gAt (gCs (gAt (gCs (gVal (qc6 s k))) 0)) 5))
noncomputable def qay (s:List UInt8) (k:Int):Bool:=(qcc (gAt (gCs (gVal (qc6 s k))) 1))
noncomputable def qao (s:List UInt8) (k:Int):Bool:=isW (qc6 s k) (.tup [.agg [.int .i64 (qaz s k),.str (qaA s k),.int .i64 (qar s k),.int .i64 (qat s k),.str (qas s k),.int .i64 (qaq s k)],.bool (qay s k)])
noncomputable def qnA:List PV→Tr PV | [.str s,.int .i64 k]=>.ite (qao s k) (.ret (.tup [.agg [.int .i64 (qaz s k),.str (qaA s k),.int .i64 (qar s k),.int .i64 (qat s k),.str (qas s k),.int .i64 (qaq s k)],.bool (qay s k)])) (.fail) | _=>.fail
theorem qvG (gl:Gl) (hg:GlOk gl):SimP Tryz.prog gl 157 fun args=>(qnA args).run:=by
 refine SimP.of_flat (G:=qoo) (L:=qtu) qaj (qvP gl hg ) qah  Tryz.func157 rfl (by rfl) (by kernel_rfl) (qae (by kernel_rfl)) ?_
 intro args x h
 unfold qnA at h
 split at h
 ·exact (congrArg Tr.run (qBG _ _)).trans (qai h fun h=>by cases h)
 ·cases h
noncomputable def qoF:GamT:=ofL [(153,.pure qgy),(154,.pure qvb),(155,.pure qf7),(156,.pure qkG),(157,.pure qnA),(158,.pure qwb),(159,.pure qoj),(160,.pure qmt),(qvV+0,.glob qAu)]
theorem qtg (gl:Gl) (hg:GlLex gl):qaJ Tryz.prog gl (gam qoF):=(qad (qjN gl) (qad (qyY gl) (qad (qhx gl) (qad (qlY gl) (qad (qvG gl hg.toGlOk) (qad (qxy gl) (qad (qvA gl) (qad (qpu gl) (qcn (K:=.glob qAu) (qw4 hg) qag)))))))))
noncomputable def qmk:Code:=qhg Tryz.f141 16
def qmb:LI:=⟨90,[0,2,4,74,75],fun e=>match e with | .ret=>[2,3] | .exit 1=>[0,2,4] | _=>[],true⟩
noncomputable def qoP:LpsT:=fun r fr σ=>.fail
noncomputable def qiE (vs:List PV) (σ:Store):Option (PExit × List PV × Store):=lval (lstep tbT qoF qoP qmk qmb) vs σ
noncomputable def qbV (s:List UInt8) (n:Int) (s2:List UInt8) (s3:List UInt8) (s4:List UInt8) (s5:List UInt8) (n2:Int) (n3:Int) (s6:List UInt8) (n4:Int) (n5:Int) (s7:List UInt8) (n6:Int):Tr LR:=.ite (iLt n2 4) (.ite (iEq n2 (Int.ofNat 0)) (.ite (qdp s s2) (.ret (.out .ret [.ptr 0 0,.bool true] (Store.mk [[.int .i64 6,.str s2,.int .i64 0,.int .i64 0,.str [],.int .i64 0]] [] [120]))) (.ret (.next [.str s,.ptr 0 0,.int .u8 n,.agg [.str s2,.str s3,.str s4,.str s5],.int .i64 (iAdd .i64 n2 1)] (Store.mk [[.int .i64 n3,.str s6,.int .i64 n4,.int .i64 n5,.str s7,.int .i64 n6]] [] [120])))) (.ite (iEq n2 (Int.ofNat 1)) (.ite (qdp s s3) (.ret (.out .ret [.ptr 0 0,.bool true] (Store.mk [[.int .i64 6,.str s3,.int .i64 0,.int .i64 0,.str [],.int .i64 0]] [] [120]))) (.ret (.next [.str s,.ptr 0 0,.int .u8 n,.agg [.str s2,.str s3,.str s4,.str s5],.int .i64 (iAdd .i64 n2 1)] (Store.mk [[.int .i64 n3,.str s6,.int .i64 n4,.int .i64 n5,.str s7,.int .i64 n6]] [] [120])))) (.ite (iEq n2 (Int.ofNat 2)) (.ite (qdp s s4) (.ret (.out .ret [.ptr 0 0,.bool true] (Store.mk [[.int .i64 6,.str s4,.int .i64 0,.int .i64 0,.str [],.int .i64 0]] [] [120]))) (.ret (.next [.str s,.ptr 0 0,.int .u8 n,.agg [.str s2,.str s3,.str s4,.str s5],.int .i64 (iAdd .i64 n2 1)] (Store.mk [[.int .i64 n3,.str s6,.int .i64 n4,.int .i64 n5,.str s7,.int .i64 n6]] [] [120])))) (.ite (iEq n2 (Int.ofNat 3)) (.ite (qdp s s5) (.ret (.out .ret [.ptr 0 0,.bool true] (Store.mk [[.int .i64 6,.str s5,.int .i64 0,.int .i64 0,.str [],.int .i64 0]] [] [120]))) (.ret (.next [.str s,.ptr 0 0,.int .u8 n,.agg [.str s2,.str s3,.str s4,.str s5],.int .i64 (iAdd .i64 n2 1)] (Store.mk [[.int .i64 n3,.str s6,.int .i64 n4,.int .i64 n5,.str s7,.int .i64 n6]] [] [120])))) .fail)))) (.ret (.out (.exit 1) [.str s,.ptr 0 0,.int .u8 n] (Store.mk [[.int .i64 n3,.str s6,.int .i64 n4,.int .i64 n5,.str s7,.int .i64 n6]] [] [120])))
theorem qC5 (s:List UInt8) (n:Int) (s2:List UInt8) (s3:List UInt8) (s4:List UInt8) (s5:List UInt8) (n2:Int) (n3:Int) (s6:List UInt8) (n4:Int) (n5:Int) (s7:List UInt8) (n6:Int):lstep tbT qoF qoP qmk qmb [.str s,.ptr 0 0,.int .u8 n,.agg [.str s2,.str s3,.str s4,.str s5],.int .i64 n2] ⟨[[.int .i64 n3,.str s6,.int .i64 n4,.int .i64 n5,.str s7,.int .i64 n6]],[],[120]⟩=qbV s n s2 s3 s4 s5 n2 n3 s6 n4 n5 s7 n6:=by kernel_rfl
theorem qkK (s:List UInt8) (n:Int) (s2:List UInt8) (s3:List UInt8) (s4:List UInt8) (s5:List UInt8) (n2:Int) (n3:Int) (s6:List UInt8) (n4:Int) (n5:Int) (s7:List UInt8) (n6:Int):qiE [.str s,.ptr 0 0,.int .u8 n,.agg [.str s2,.str s3,.str s4,.str s5],.int .i64 n2] ⟨[[.int .i64 n3,.str s6,.int .i64 n4,.int .i64 n5,.str s7,.int .i64 n6]],[],[120]⟩=lnext qiE (qbV s n s2 s3 s4 s5 n2 n3 s6 n4 n5 s7 n6).run:=by unfold qiE; rw [qb7,qC5]
noncomputable def qbA (s:List UInt8) (n:Int) (s2:List UInt8) (s3:List UInt8) (s4:List UInt8) (s5:List UInt8) (n2:Int) (n3:Int) (s6:List UInt8) (n4:Int) (n5:Int) (s7:List UInt8) (n6:Int):Option (PExit × List PV × Store):=qiE [.str s,.ptr 0 0,.int .u8 n,.agg [.str s2,.str s3,.str s4,.str s5],.int .i64 n2] ⟨[[.int .i64 n3,.str s6,.int .i64 n4,.int .i64 n5,.str s7,.int .i64 n6]],[],[120]⟩
noncomputable def qbh (s:List UInt8) (n:Int) (s2:List UInt8) (s3:List UInt8) (s4:List UInt8) (s5:List UInt8) (n2:Int) (n3:Int) (s6:List UInt8) (n4:Int) (n5:Int) (s7:List UInt8) (n6:Int):Bool:=(qcc (gOut (qbA s n s2 s3 s4 s5 n2 n3 s6 n4 n5 s7 n6) 1))
noncomputable def qbg (s:List UInt8) (n:Int) (s2:List UInt8) (s3:List UInt8) (s4:List UInt8) (s5:List UInt8) (n2:Int) (n3:Int) (s6:List UInt8) (n4:Int) (n5:Int) (s7:List UInt8) (n6:Int):Int:=(gInt (gAt (gObj (qbA s n s2 s3 s4 s5 n2 n3 s6 n4 n5 s7 n6) 0) 0))
noncomputable def qbi (s:List UInt8) (n:Int) (s2:List UInt8) (s3:List UInt8) (s4:List UInt8) (s5:List UInt8) (n2:Int) (n3:Int) (s6:List UInt8) (n4:Int) (n5:Int) (s7:List UInt8) (n6:Int):List UInt8:=(gStr (gAt (gObj (qbA s n s2 s3 s4 s5 n2 n3 s6 n4 n5 s7 n6) 0) 1))
noncomputable def qaZ (s:List UInt8) (n:Int) (s2:List UInt8) (s3:List UInt8) (s4:List UInt8) (s5:List UInt8) (n2:Int) (n3:Int) (s6:List UInt8) (n4:Int) (n5:Int) (s7:List UInt8) (n6:Int):Int:=(gInt (gAt (gObj (qbA s n s2 s3 s4 s5 n2 n3 s6 n4 n5 s7 n6) 0) 2))
noncomputable def qaY (s:List UInt8) (n:Int) (s2:List UInt8) (s3:List UInt8) (s4:List UInt8) (s5:List UInt8) (n2:Int) (n3:Int) (s6:List UInt8) (n4:Int) (n5:Int) (s7:List UInt8) (n6:Int):Int:=(gInt (gAt (gObj (qbA s n s2 s3 s4 s5 n2 n3 s6 n4 n5 s7 n6) 0) 3))
noncomputable def qa0 (s:List UInt8) (n:Int) (s2:List UInt8) (s3:List UInt8) (s4:List UInt8) (s5:List UInt8) (n2:Int) (n3:Int) (s6:List UInt8) (n4:Int) (n5:Int) (s7:List UInt8) (n6:Int):List UInt8:=(gStr (gAt (gObj (qbA s n s2 s3 s4 s5 n2 n3 s6 n4 n5 s7 n6) 0) 4))
noncomputable def qaX (s:List UInt8) (n:Int) (s2:List UInt8) (s3:List UInt8) (s4:List UInt8) (s5:List UInt8) (n2:Int) (n3:Int) (s6:List UInt8) (n4:Int) (n5:Int) (s7:List UInt8) (n6:Int):Int:=(gInt (gAt (gObj (qbA s n s2 s3 s4 s5 n2 n3 s6 n4 n5 s7 n6) 0) 5))
noncomputable def qa8 (s:List UInt8) (n:Int) (s2:List UInt8) (s3:List UInt8) (s4:List UInt8) (s5:List UInt8) (n2:Int) (n3:Int) (s6:List UInt8) (n4:Int) (n5:Int) (s7:List UInt8) (n6:Int):Bool:=isW (qbA s n s2 s3 s4 s5 n2 n3 s6 n4 n5 s7 n6) (.ret,[.ptr 0 0,.bool (qbh s n s2 s3 s4 s5 n2 n3 s6 n4 n5 s7 n6)],⟨[[.int .i64 (qbg s n s2 s3 s4 s5 n2 n3 s6 n4 n5 s7 n6),.str (qbi s n s2 s3 s4 s5 n2 n3 s6 n4 n5 s7 n6),.int .i64 (qaZ s n s2 s3 s4 s5 n2 n3 s6 n4 n5 s7 n6),.int .i64 (qaY s n s2 s3 s4 s5 n2 n3 s6 n4 n5 s7 n6),.str (qa0 s n s2 s3 s4 s5 n2 n3 s6 n4 n5 s7 n6),.int .i64 (qaX s n s2 s3 s4 s5 n2 n3 s6 n4 n5 s7 n6)]],[],[120]⟩)
noncomputable def qau (s:List UInt8) (n:Int) (s2:List UInt8) (s3:List UInt8) (s4:List UInt8) (s5:List UInt8) (n2:Int) (n3:Int) (s6:List UInt8) (n4:Int) (n5:Int) (s7:List UInt8) (n6:Int):List UInt8:=(gStr (gOut (qbA s n s2 s3 s4 s5 n2 n3 s6 n4 n5 s7 n6) 0))
noncomputable def qbe (s:List UInt8) (n:Int) (s2:List UInt8) (s3:List UInt8) (s4:List UInt8) (s5:List UInt8) (n2:Int) (n3:Int) (s6:List UInt8) (n4:Int) (n5:Int) (s7:List UInt8) (n6:Int):Int:=(gInt (gOut (qbA s n s2 s3 s4 s5 n2 n3 s6 n4 n5 s7 n6) 2))
noncomputable def qjd (s:List UInt8) (n:Int) (s2:List UInt8) (s3:List UInt8) (s4:List UInt8) (s5:List UInt8) (n2:Int) (n3:Int) (s6:List UInt8) (n4:Int) (n5:Int) (s7:List UInt8) (n6:Int):Int:=(gInt (gAt (gObj (qbA s n s2 s3 s4 s5 n2 n3 s6 n4 n5 s7 n6) 0) 0))
noncomputable def qjc (s:List UInt8) (n:Int) (s2:List UInt8) (s3:List UInt8) (s4:List UInt8) (s5:List UInt8) (n2:Int) (n3:Int) (s6:List UInt8) (n4:Int) (n5:Int) (s7:List UInt8) (n6:Int):List UInt8:=(gStr (gAt (gObj (qbA s n s2 s3 s4 s5 n2 n3 s6 n4 n5 s7 n6) 0) 1))
noncomputable def qjq (s:List UInt8) (n:Int) (s2:List UInt8) (s3:List UInt8) (s4:List UInt8) (s5:List UInt8) (n2:Int) (n3:Int) (s6:List UInt8) (n4:Int) (n5:Int) (s7:List UInt8) (n6:Int):Int:=(gInt (gAt (gObj (qbA s n s2 s3 s4 s5 n2 n3 s6 n4 n5 s7 n6) 0) 2))
noncomputable def qjj (s:List UInt8) (n:Int) (s2:List UInt8) (s3:List UInt8) (s4:List UInt8) (s5:List UInt8) (n2:Int) (n3:Int) (s6:List UInt8) (n4:Int) (n5:Int) (s7:List UInt8) (n6:Int):Int:=(gInt (gAt (gObj (qbA s n s2 s3 s4 s5 n2 n3 s6 n4 n5 s7 n6) 0) 3))
noncomputable def qjJ (s:List UInt8) (n:Int) (s2:List UInt8) (s3:List UInt8) (s4:List UInt8) (s5:List UInt8) (n2:Int) (n3:Int) (s6:List UInt8) (n4:Int) (n5:Int) (s7:List UInt8) (n6:Int):List UInt8:=(gStr (gAt (gObj (qbA s n s2 s3 s4 s5 n2 n3 s6 n4 n5 s7 n6) 0) 4))
noncomputable def qjl (s:List UInt8) (n:Int) (s2:List UInt8) (s3:List UInt8) (s4:List UInt8) (s5:List UInt8) (n2:Int) (n3:Int) (s6:List UInt8) (n4:Int) (n5:Int) (s7:List UInt8) (n6:Int):Int:=(gInt (gAt (gObj (qbA s n s2 s3 s4 s5 n2 n3 s6 n4 n5 s7 n6) 0) 5))
noncomputable def qbn (s:List UInt8) (n:Int) (s2:List UInt8) (s3:List UInt8) (s4:List UInt8) (s5:List UInt8) (n2:Int) (n3:Int) (s6:List UInt8) (n4:Int) (n5:Int) (s7:List UInt8) (n6:Int):Bool:=isW (qbA s n s2 s3 s4 s5 n2 n3 s6 n4 n5 s7 n6) ((.exit 1),[.str (qau s n s2 s3 s4 s5 n2 n3 s6 n4 n5 s7 n6),.ptr 0 0,.int .u8 (qbe s n s2 s3 s4 s5 n2 n3 s6 n4 n5 s7 n6)],⟨[[.int .i64 (qjd s n s2 s3 s4 s5 n2 n3 s6 n4 n5 s7 n6),.str (qjc s n s2 s3 s4 s5 n2 n3 s6 n4 n5 s7 n6),.int .i64 (qjq s n s2 s3 s4 s5 n2 n3 s6 n4 n5 s7 n6),.int .i64 (qjj s n s2 s3 s4 s5 n2 n3 s6 n4 n5 s7 n6),.str (qjJ s n s2 s3 s4 s5 n2 n3 s6 n4 n5 s7 n6),.int .i64 (qjl s n s2 s3 s4 s5 n2 n3 s6 n4 n5 s7 n6)]],[],[120]⟩)
noncomputable def qgj:List PV→Store→Tr (PExit × List PV × Store) | [.str s,.ptr 0 0,.int .u8 n,.agg [.str s2,.str s3,.str s4,.str s5],.int .i64 n2],⟨[[.int .i64 n3,.str s6,.int .i64 n4,.int .i64 n5,.str s7,.int .i64 n6]],[],[120]⟩=>.ite (qa8 s n s2 s3 s4 s5 n2 n3 s6 n4 n5 s7 n6) (.ret (.ret,[.ptr 0 0,.bool (qbh s n s2 s3 s4 s5 n2 n3 s6 n4 n5 s7 n6)],⟨[[.int .i64 (qbg s n s2 s3 s4 s5 n2 n3 s6 n4 n5 s7 n6),.str (qbi s n s2 s3 s4 s5 n2 n3 s6 n4 n5 s7 n6),.int .i64 (qaZ s n s2 s3 s4 s5 n2 n3 s6 n4 n5 s7 n6),.int .i64 (qaY s n s2 s3 s4 s5 n2 n3 s6 n4 n5 s7 n6),.str (qa0 s n s2 s3 s4 s5 n2 n3 s6 n4 n5 s7 n6),.int .i64 (qaX s n s2 s3 s4 s5 n2 n3 s6 n4 n5 s7 n6)]],[],[120]⟩)) (.ite (qbn s n s2 s3 s4 s5 n2 n3 s6 n4 n5 s7 n6) (.ret ((.exit 1),[.str (qau s n s2 s3 s4 s5 n2 n3 s6 n4 n5 s7 n6),.ptr 0 0,.int .u8 (qbe s n s2 s3 s4 s5 n2 n3 s6 n4 n5 s7 n6)],⟨[[.int .i64 (qjd s n s2 s3 s4 s5 n2 n3 s6 n4 n5 s7 n6),.str (qjc s n s2 s3 s4 s5 n2 n3 s6 n4 n5 s7 n6),.int .i64 (qjq s n s2 s3 s4 s5 n2 n3 s6 n4 n5 s7 n6),.int .i64 (qjj s n s2 s3 s4 s5 n2 n3 s6 n4 n5 s7 n6),.str (qjJ s n s2 s3 s4 s5 n2 n3 s6 n4 n5 s7 n6),.int .i64 (qjl s n s2 s3 s4 s5 n2 n3 s6 n4 n5 s7 n6)]],[],[120]⟩)) (.fail)) | _,_=>.fail
theorem qAN:∀ vs σ r,(qgj vs σ).run=some r→qiE vs σ=some r:=by
 intro vs σ r h
 unfold qgj at h
 split at h
 ·exact qai h fun h=>qai h fun h=>by cases h
 ·cases h
theorem quh (gl:Gl) (hg:GlLex gl):∀ fr σ e fr' σ',(orc qmb qgj fr σ).run=some (e,fr',σ')→LDoes Tryz.prog gl qmk fr σ e fr' σ':=qdI qaj (qtg gl hg ) qah (L:=qoP) (qae (by kernel_rfl)) (by kernel_rfl) qAN
noncomputable def qvF:LpsT:=fun r fr σ=>bif Nat.beq r 16 then orc qmb qgj fr σ else .fail
noncomputable def qep (v:List UInt8):Tr PV:=.ite (qap v 0) (.ite (iLt 1 (sLen v)) (.ite (qap v 1) (.ite (iLe 97 (sAt v 0)) (.ite (iLe (sAt v 0) 122) (.ite (qdo v 1) (.ret (.tup [.agg [.int .i64 (qfg v 1),.str (qeX v 1),.int .i64 (qdy v 1),.int .i64 (qdq v 1),.str (qdE v 1),.int .i64 (qdA v 1)],.bool (qe1 v 1)])) .fail) (.ite (iLe 65 (sAt v 0)) (.ite (iLe (sAt v 0) 90) (.ite (qdo v 2) (.ret (.tup [.agg [.int .i64 (qfg v 2),.str (qeX v 2),.int .i64 (qdy v 2),.int .i64 (qdq v 2),.str (qdE v 2),.int .i64 (qdA v 2)],.bool (qe1 v 2)])) .fail) (.ite (iEq (sAt v 0) 95) (.ite (qbB (sAt v 1)) (.ret (.tup [.agg [.int .i64 3,.str [95],.int .i64 0,.int .i64 0,.str [],.int .i64 0],.bool (bNot (qbO (sAt v 1)))])) .fail) (.ite (qa1 (sAt v 0)) (.ite (qa6 (sAt v 0)) (.ite (qaw (qal 1) true (nNat 1) (nLen v) (nLen v)) (.ite (qby (sSub v (nNat 1) (nLen v))) (.ite (qaw true (qal (iAdd .i64 1 (qaf (sSub v (nNat 1) (nLen v))))) 0 (nNat (iAdd .i64 1 (qaf (sSub v (nNat 1) (nLen v))))) (nLen v)) (.ite (qao (sSub v 0 (nNat (iAdd .i64 1 (qaf (sSub v (nNat 1) (nLen v)))))) 4) (.ret (.tup [.agg [.int .i64 (qaz (sSub v 0 (nNat (iAdd .i64 1 (qaf (sSub v (nNat 1) (nLen v)))))) 4),.str (qaA (sSub v 0 (nNat (iAdd .i64 1 (qaf (sSub v (nNat 1) (nLen v)))))) 4),.int .i64 (qar (sSub v 0 (nNat (iAdd .i64 1 (qaf (sSub v (nNat 1) (nLen v)))))) 4),.int .i64 (qat (sSub v 0 (nNat (iAdd .i64 1 (qaf (sSub v (nNat 1) (nLen v)))))) 4),.str (qas (sSub v 0 (nNat (iAdd .i64 1 (qaf (sSub v (nNat 1) (nLen v)))))) 4),.int .i64 (qaq (sSub v 0 (nNat (iAdd .i64 1 (qaf (sSub v (nNat 1) (nLen v)))))) 4)],.bool (qay (sSub v 0 (nNat (iAdd .i64 1 (qaf (sSub v (nNat 1) (nLen v)))))) 4)])) .fail) .fail) .fail) .fail) (.ite (iEq (sAt v 0) 45) (.ite (qa1 (sAt v 1)) (.ite (qa6 (sAt v 1))
 (.ite (qaw (qal 1) true (nNat 1) (nLen v) (nLen v)) (.ite (qby (sSub v (nNat 1) (nLen v))) (.ite (qaw true (qal (iAdd .i64 1 (qaf (sSub v (nNat 1) (nLen v))))) 0 (nNat (iAdd .i64 1 (qaf (sSub v (nNat 1) (nLen v))))) (nLen v)) (.ite (qao (sSub v 0 (nNat (iAdd .i64 1 (qaf (sSub v (nNat 1) (nLen v)))))) 4) (.ret (.tup [.agg [.int .i64 (qaz (sSub v 0 (nNat (iAdd .i64 1 (qaf (sSub v (nNat 1) (nLen v)))))) 4),.str (qaA (sSub v 0 (nNat (iAdd .i64 1 (qaf (sSub v (nNat 1) (nLen v)))))) 4),.int .i64 (qar (sSub v 0 (nNat (iAdd .i64 1 (qaf (sSub v (nNat 1) (nLen v)))))) 4),.int .i64 (qat (sSub v 0 (nNat (iAdd .i64 1 (qaf (sSub v (nNat 1) (nLen v)))))) 4),.str (qas (sSub v 0 (nNat (iAdd .i64 1 (qaf (sSub v (nNat 1) (nLen v)))))) 4),.int .i64 (qaq (sSub v 0 (nNat (iAdd .i64 1 (qaf (sSub v (nNat 1) (nLen v)))))) 4)],.bool (qay (sSub v 0 (nNat (iAdd .i64 1 (qaf (sSub v (nNat 1) (nLen v)))))) 4)])) .fail) .fail) .fail) .fail) (.ite (iEq (sAt v 0) 34) (.ite (qbf v) (.ite (qaw true (qal (qab v)) 0 (nNat (qab v)) (nLen v)) (.ite (qao (sSub v 0 (nNat (qab v))) 5) (.ret (.tup [.agg [.int .i64 (qaz (sSub v 0 (nNat (qab v))) 5),.str (qaA (sSub v 0 (nNat (qab v))) 5),.int .i64 (qar (sSub v 0 (nNat (qab v))) 5),.int .i64 (qat (sSub v 0 (nNat (qab v))) 5),.str (qas (sSub v 0 (nNat (qab v))) 5),.int .i64 (qaq (sSub v 0 (nNat (qab v))) 5)],.bool (qay (sSub v 0 (nNat (qab v))) 5)])) .fail) .fail) .fail) (.ite (qa8 v (sAt v 0) [58,45] [60,61] [62,61] [33,61] 0 0 [] 0 0 [] 0) (.ret (.tup [.agg [.int .i64 (qbg v (sAt v 0) [58,45] [60,61] [62,61] [33,61] 0 0 [] 0 0 [] 0),.str (qbi v (sAt v 0) [58,45] [60,61] [62,61] [33,61] 0 0 [] 0 0 [] 0),.int .i64 (qaZ v (sAt v 0) [58,45] [60,61] [62,61] [33,61] 0 0 [] 0 0 [] 0),
 .int .i64 (qaY v (sAt v 0) [58,45] [60,61] [62,61] [33,61] 0 0 [] 0 0 [] 0),.str (qa0 v (sAt v 0) [58,45] [60,61] [62,61] [33,61] 0 0 [] 0 0 [] 0),.int .i64 (qaX v (sAt v 0) [58,45] [60,61] [62,61] [33,61] 0 0 [] 0 0 [] 0)],.bool (qbh v (sAt v 0) [58,45] [60,61] [62,61] [33,61] 0 0 [] 0 0 [] 0)])) (.ite (qbn v (sAt v 0) [58,45] [60,61] [62,61] [33,61] 0 0 [] 0 0 [] 0) (.ite (qaw true (qal 1) 0 (nNat 1) (nLen (qau v (sAt v 0) [58,45] [60,61] [62,61] [33,61] 0 0 [] 0 0 [] 0))) (.ret (.tup [.agg [.int .i64 6,.str (sSub (qau v (sAt v 0) [58,45] [60,61] [62,61] [33,61] 0 0 [] 0 0 [] 0) 0 (nNat 1)),.int .i64 0,.int .i64 0,.str [],.int .i64 0],.bool (iLe 0 (idxV [40,41,44,46,43,45,61,58,60,62] (qbe v (sAt v 0) [58,45] [60,61] [62,61] [33,61] 0 0 [] 0 0 [] 0)))])) .fail) .fail)))) .fail) (.ite (iEq (sAt v 0) 34) (.ite (qbf v) (.ite (qaw true (qal (qab v)) 0 (nNat (qab v)) (nLen v)) (.ite (qao (sSub v 0 (nNat (qab v))) 5) (.ret (.tup [.agg [.int .i64 (qaz (sSub v 0 (nNat (qab v))) 5),.str (qaA (sSub v 0 (nNat (qab v))) 5),.int .i64 (qar (sSub v 0 (nNat (qab v))) 5),.int .i64 (qat (sSub v 0 (nNat (qab v))) 5),.str (qas (sSub v 0 (nNat (qab v))) 5),.int .i64 (qaq (sSub v 0 (nNat (qab v))) 5)],.bool (qay (sSub v 0 (nNat (qab v))) 5)])) .fail) .fail) .fail) (.ite (qa8 v (sAt v 0) [58,45] [60,61] [62,61] [33,61] 0 0 [] 0 0 [] 0) (.ret (.tup [.agg [.int .i64 (qbg v (sAt v 0) [58,45] [60,61] [62,61] [33,61] 0 0 [] 0 0 [] 0),.str (qbi v (sAt v 0) [58,45] [60,61] [62,61] [33,61] 0 0 [] 0 0 [] 0),.int .i64 (qaZ v (sAt v 0) [58,45] [60,61] [62,61] [33,61] 0 0 [] 0 0 [] 0),.int .i64 (qaY v (sAt v 0) [58,45] [60,61] [62,61] [33,61] 0 0 [] 0 0 [] 0),.str (qa0 v (sAt v 0) [58,45] [60,61] [62,61] [33,61] 0 0 [] 0 0 [] 0),
 .int .i64 (qaX v (sAt v 0) [58,45] [60,61] [62,61] [33,61] 0 0 [] 0 0 [] 0)],.bool (qbh v (sAt v 0) [58,45] [60,61] [62,61] [33,61] 0 0 [] 0 0 [] 0)])) (.ite (qbn v (sAt v 0) [58,45] [60,61] [62,61] [33,61] 0 0 [] 0 0 [] 0) (.ite (qaw true (qal 1) 0 (nNat 1) (nLen (qau v (sAt v 0) [58,45] [60,61] [62,61] [33,61] 0 0 [] 0 0 [] 0))) (.ret (.tup [.agg [.int .i64 6,.str (sSub (qau v (sAt v 0) [58,45] [60,61] [62,61] [33,61] 0 0 [] 0 0 [] 0) 0 (nNat 1)),.int .i64 0,.int .i64 0,.str [],.int .i64 0],.bool (iLe 0 (idxV [40,41,44,46,43,45,61,58,60,62] (qbe v (sAt v 0) [58,45] [60,61] [62,61] [33,61] 0 0 [] 0 0 [] 0)))])) .fail) .fail))))) .fail))) (.ite (iEq (sAt v 0) 95) (.ite (qbB (sAt v 1)) (.ret (.tup [.agg [.int .i64 3,.str [95],.int .i64 0,.int .i64 0,.str [],.int .i64 0],.bool (bNot (qbO (sAt v 1)))])) .fail) (.ite (qa1 (sAt v 0)) (.ite (qa6 (sAt v 0)) (.ite (qaw (qal 1) true (nNat 1) (nLen v) (nLen v)) (.ite (qby (sSub v (nNat 1) (nLen v))) (.ite (qaw true (qal (iAdd .i64 1 (qaf (sSub v (nNat 1) (nLen v))))) 0 (nNat (iAdd .i64 1 (qaf (sSub v (nNat 1) (nLen v))))) (nLen v)) (.ite (qao (sSub v 0 (nNat (iAdd .i64 1 (qaf (sSub v (nNat 1) (nLen v)))))) 4) (.ret (.tup [.agg [.int .i64 (qaz (sSub v 0 (nNat (iAdd .i64 1 (qaf (sSub v (nNat 1) (nLen v)))))) 4),.str (qaA (sSub v 0 (nNat (iAdd .i64 1 (qaf (sSub v (nNat 1) (nLen v)))))) 4),.int .i64 (qar (sSub v 0 (nNat (iAdd .i64 1 (qaf (sSub v (nNat 1) (nLen v)))))) 4),.int .i64 (qat (sSub v 0 (nNat (iAdd .i64 1 (qaf (sSub v (nNat 1) (nLen v)))))) 4),.str (qas (sSub v 0 (nNat (iAdd .i64 1 (qaf (sSub v (nNat 1) (nLen v)))))) 4),.int .i64 (qaq (sSub v 0 (nNat (iAdd .i64 1 (qaf (sSub v (nNat 1) (nLen v)))))) 4)],.bool (qay (sSub v 0 (nNat (iAdd .i64 1 (qaf (sSub v (nNat 1) (nLen v)))))) 4)])) .fail) .fail) .fail) .fail)
 (.ite (iEq (sAt v 0) 45) (.ite (qa1 (sAt v 1)) (.ite (qa6 (sAt v 1)) (.ite (qaw (qal 1) true (nNat 1) (nLen v) (nLen v)) (.ite (qby (sSub v (nNat 1) (nLen v))) (.ite (qaw true (qal (iAdd .i64 1 (qaf (sSub v (nNat 1) (nLen v))))) 0 (nNat (iAdd .i64 1 (qaf (sSub v (nNat 1) (nLen v))))) (nLen v)) (.ite (qao (sSub v 0 (nNat (iAdd .i64 1 (qaf (sSub v (nNat 1) (nLen v)))))) 4) (.ret (.tup [.agg [.int .i64 (qaz (sSub v 0 (nNat (iAdd .i64 1 (qaf (sSub v (nNat 1) (nLen v)))))) 4),.str (qaA (sSub v 0 (nNat (iAdd .i64 1 (qaf (sSub v (nNat 1) (nLen v)))))) 4),.int .i64 (qar (sSub v 0 (nNat (iAdd .i64 1 (qaf (sSub v (nNat 1) (nLen v)))))) 4),.int .i64 (qat (sSub v 0 (nNat (iAdd .i64 1 (qaf (sSub v (nNat 1) (nLen v)))))) 4),.str (qas (sSub v 0 (nNat (iAdd .i64 1 (qaf (sSub v (nNat 1) (nLen v)))))) 4),.int .i64 (qaq (sSub v 0 (nNat (iAdd .i64 1 (qaf (sSub v (nNat 1) (nLen v)))))) 4)],.bool (qay (sSub v 0 (nNat (iAdd .i64 1 (qaf (sSub v (nNat 1) (nLen v)))))) 4)])) .fail) .fail) .fail) .fail) (.ite (iEq (sAt v 0) 34) (.ite (qbf v) (.ite (qaw true (qal (qab v)) 0 (nNat (qab v)) (nLen v)) (.ite (qao (sSub v 0 (nNat (qab v))) 5) (.ret (.tup [.agg [.int .i64 (qaz (sSub v 0 (nNat (qab v))) 5),.str (qaA (sSub v 0 (nNat (qab v))) 5),.int .i64 (qar (sSub v 0 (nNat (qab v))) 5),.int .i64 (qat (sSub v 0 (nNat (qab v))) 5),.str (qas (sSub v 0 (nNat (qab v))) 5),.int .i64 (qaq (sSub v 0 (nNat (qab v))) 5)],.bool (qay (sSub v 0 (nNat (qab v))) 5)])) .fail) .fail) .fail) (.ite (qa8 v (sAt v 0) [58,45] [60,61] [62,61] [33,61] 0 0 [] 0 0 [] 0) (.ret (.tup [.agg [.int .i64 (qbg v (sAt v 0) [58,45] [60,61] [62,61] [33,61] 0 0 [] 0 0 [] 0),.str (qbi v (sAt v 0) [58,45] [60,61] [62,61] [33,61] 0 0 [] 0 0 [] 0),
 .int .i64 (qaZ v (sAt v 0) [58,45] [60,61] [62,61] [33,61] 0 0 [] 0 0 [] 0),.int .i64 (qaY v (sAt v 0) [58,45] [60,61] [62,61] [33,61] 0 0 [] 0 0 [] 0),.str (qa0 v (sAt v 0) [58,45] [60,61] [62,61] [33,61] 0 0 [] 0 0 [] 0),.int .i64 (qaX v (sAt v 0) [58,45] [60,61] [62,61] [33,61] 0 0 [] 0 0 [] 0)],.bool (qbh v (sAt v 0) [58,45] [60,61] [62,61] [33,61] 0 0 [] 0 0 [] 0)])) (.ite (qbn v (sAt v 0) [58,45] [60,61] [62,61] [33,61] 0 0 [] 0 0 [] 0) (.ite (qaw true (qal 1) 0 (nNat 1) (nLen (qau v (sAt v 0) [58,45] [60,61] [62,61] [33,61] 0 0 [] 0 0 [] 0))) (.ret (.tup [.agg [.int .i64 6,.str (sSub (qau v (sAt v 0) [58,45] [60,61] [62,61] [33,61] 0 0 [] 0 0 [] 0) 0 (nNat 1)),.int .i64 0,.int .i64 0,.str [],.int .i64 0],.bool (iLe 0 (idxV [40,41,44,46,43,45,61,58,60,62] (qbe v (sAt v 0) [58,45] [60,61] [62,61] [33,61] 0 0 [] 0 0 [] 0)))])) .fail) .fail)))) .fail) (.ite (iEq (sAt v 0) 34) (.ite (qbf v) (.ite (qaw true (qal (qab v)) 0 (nNat (qab v)) (nLen v)) (.ite (qao (sSub v 0 (nNat (qab v))) 5) (.ret (.tup [.agg [.int .i64 (qaz (sSub v 0 (nNat (qab v))) 5),.str (qaA (sSub v 0 (nNat (qab v))) 5),.int .i64 (qar (sSub v 0 (nNat (qab v))) 5),.int .i64 (qat (sSub v 0 (nNat (qab v))) 5),.str (qas (sSub v 0 (nNat (qab v))) 5),.int .i64 (qaq (sSub v 0 (nNat (qab v))) 5)],.bool (qay (sSub v 0 (nNat (qab v))) 5)])) .fail) .fail) .fail) (.ite (qa8 v (sAt v 0) [58,45] [60,61] [62,61] [33,61] 0 0 [] 0 0 [] 0) (.ret (.tup [.agg [.int .i64 (qbg v (sAt v 0) [58,45] [60,61] [62,61] [33,61] 0 0 [] 0 0 [] 0),.str (qbi v (sAt v 0) [58,45] [60,61] [62,61] [33,61] 0 0 [] 0 0 [] 0),.int .i64 (qaZ v (sAt v 0) [58,45] [60,61] [62,61] [33,61] 0 0 [] 0 0 [] 0),.int .i64 (qaY v (sAt v 0) [58,45] [60,61] [62,61] [33,61] 0 0 [] 0 0 [] 0),
 .str (qa0 v (sAt v 0) [58,45] [60,61] [62,61] [33,61] 0 0 [] 0 0 [] 0),.int .i64 (qaX v (sAt v 0) [58,45] [60,61] [62,61] [33,61] 0 0 [] 0 0 [] 0)],.bool (qbh v (sAt v 0) [58,45] [60,61] [62,61] [33,61] 0 0 [] 0 0 [] 0)])) (.ite (qbn v (sAt v 0) [58,45] [60,61] [62,61] [33,61] 0 0 [] 0 0 [] 0) (.ite (qaw true (qal 1) 0 (nNat 1) (nLen (qau v (sAt v 0) [58,45] [60,61] [62,61] [33,61] 0 0 [] 0 0 [] 0))) (.ret (.tup [.agg [.int .i64 6,.str (sSub (qau v (sAt v 0) [58,45] [60,61] [62,61] [33,61] 0 0 [] 0 0 [] 0) 0 (nNat 1)),.int .i64 0,.int .i64 0,.str [],.int .i64 0],.bool (iLe 0 (idxV [40,41,44,46,43,45,61,58,60,62] (qbe v (sAt v 0) [58,45] [60,61] [62,61] [33,61] 0 0 [] 0 0 [] 0)))])) .fail) .fail))))) .fail)))) (.ite (iLe 65 (sAt v 0)) (.ite (iLe (sAt v 0) 90) (.ite (qdo v 2) (.ret (.tup [.agg [.int .i64 (qfg v 2),.str (qeX v 2),.int .i64 (qdy v 2),.int .i64 (qdq v 2),.str (qdE v 2),.int .i64 (qdA v 2)],.bool (qe1 v 2)])) .fail) (.ite (iEq (sAt v 0) 95) (.ite (qbB (sAt v 1)) (.ret (.tup [.agg [.int .i64 3,.str [95],.int .i64 0,.int .i64 0,.str [],.int .i64 0],.bool (bNot (qbO (sAt v 1)))])) .fail) (.ite (qa1 (sAt v 0)) (.ite (qa6 (sAt v 0)) (.ite (qaw (qal 1) true (nNat 1) (nLen v) (nLen v)) (.ite (qby (sSub v (nNat 1) (nLen v))) (.ite (qaw true (qal (iAdd .i64 1 (qaf (sSub v (nNat 1) (nLen v))))) 0 (nNat (iAdd .i64 1 (qaf (sSub v (nNat 1) (nLen v))))) (nLen v)) (.ite (qao (sSub v 0 (nNat (iAdd .i64 1 (qaf (sSub v (nNat 1) (nLen v)))))) 4) (.ret (.tup [.agg [.int .i64 (qaz (sSub v 0 (nNat (iAdd .i64 1 (qaf (sSub v (nNat 1) (nLen v)))))) 4),.str (qaA (sSub v 0 (nNat (iAdd .i64 1 (qaf (sSub v (nNat 1) (nLen v)))))) 4),.int .i64 (qar (sSub v 0 (nNat (iAdd .i64 1 (qaf (sSub v (nNat 1) (nLen v)))))) 4),
 .int .i64 (qat (sSub v 0 (nNat (iAdd .i64 1 (qaf (sSub v (nNat 1) (nLen v)))))) 4),.str (qas (sSub v 0 (nNat (iAdd .i64 1 (qaf (sSub v (nNat 1) (nLen v)))))) 4),.int .i64 (qaq (sSub v 0 (nNat (iAdd .i64 1 (qaf (sSub v (nNat 1) (nLen v)))))) 4)],.bool (qay (sSub v 0 (nNat (iAdd .i64 1 (qaf (sSub v (nNat 1) (nLen v)))))) 4)])) .fail) .fail) .fail) .fail) (.ite (iEq (sAt v 0) 45) (.ite (qa1 (sAt v 1)) (.ite (qa6 (sAt v 1)) (.ite (qaw (qal 1) true (nNat 1) (nLen v) (nLen v)) (.ite (qby (sSub v (nNat 1) (nLen v))) (.ite (qaw true (qal (iAdd .i64 1 (qaf (sSub v (nNat 1) (nLen v))))) 0 (nNat (iAdd .i64 1 (qaf (sSub v (nNat 1) (nLen v))))) (nLen v)) (.ite (qao (sSub v 0 (nNat (iAdd .i64 1 (qaf (sSub v (nNat 1) (nLen v)))))) 4) (.ret (.tup [.agg [.int .i64 (qaz (sSub v 0 (nNat (iAdd .i64 1 (qaf (sSub v (nNat 1) (nLen v)))))) 4),.str (qaA (sSub v 0 (nNat (iAdd .i64 1 (qaf (sSub v (nNat 1) (nLen v)))))) 4),.int .i64 (qar (sSub v 0 (nNat (iAdd .i64 1 (qaf (sSub v (nNat 1) (nLen v)))))) 4),.int .i64 (qat (sSub v 0 (nNat (iAdd .i64 1 (qaf (sSub v (nNat 1) (nLen v)))))) 4),.str (qas (sSub v 0 (nNat (iAdd .i64 1 (qaf (sSub v (nNat 1) (nLen v)))))) 4),.int .i64 (qaq (sSub v 0 (nNat (iAdd .i64 1 (qaf (sSub v (nNat 1) (nLen v)))))) 4)],.bool (qay (sSub v 0 (nNat (iAdd .i64 1 (qaf (sSub v (nNat 1) (nLen v)))))) 4)])) .fail) .fail) .fail) .fail) (.ite (iEq (sAt v 0) 34) (.ite (qbf v) (.ite (qaw true (qal (qab v)) 0 (nNat (qab v)) (nLen v)) (.ite (qao (sSub v 0 (nNat (qab v))) 5) (.ret (.tup [.agg [.int .i64 (qaz (sSub v 0 (nNat (qab v))) 5),.str (qaA (sSub v 0 (nNat (qab v))) 5),.int .i64 (qar (sSub v 0 (nNat (qab v))) 5),.int .i64 (qat (sSub v 0 (nNat (qab v))) 5),
 .str (qas (sSub v 0 (nNat (qab v))) 5),.int .i64 (qaq (sSub v 0 (nNat (qab v))) 5)],.bool (qay (sSub v 0 (nNat (qab v))) 5)])) .fail) .fail) .fail) (.ite (qa8 v (sAt v 0) [58,45] [60,61] [62,61] [33,61] 0 0 [] 0 0 [] 0) (.ret (.tup [.agg [.int .i64 (qbg v (sAt v 0) [58,45] [60,61] [62,61] [33,61] 0 0 [] 0 0 [] 0),.str (qbi v (sAt v 0) [58,45] [60,61] [62,61] [33,61] 0 0 [] 0 0 [] 0),.int .i64 (qaZ v (sAt v 0) [58,45] [60,61] [62,61] [33,61] 0 0 [] 0 0 [] 0),.int .i64 (qaY v (sAt v 0) [58,45] [60,61] [62,61] [33,61] 0 0 [] 0 0 [] 0),.str (qa0 v (sAt v 0) [58,45] [60,61] [62,61] [33,61] 0 0 [] 0 0 [] 0),.int .i64 (qaX v (sAt v 0) [58,45] [60,61] [62,61] [33,61] 0 0 [] 0 0 [] 0)],.bool (qbh v (sAt v 0) [58,45] [60,61] [62,61] [33,61] 0 0 [] 0 0 [] 0)])) (.ite (qbn v (sAt v 0) [58,45] [60,61] [62,61] [33,61] 0 0 [] 0 0 [] 0) (.ite (qaw true (qal 1) 0 (nNat 1) (nLen (qau v (sAt v 0) [58,45] [60,61] [62,61] [33,61] 0 0 [] 0 0 [] 0))) (.ret (.tup [.agg [.int .i64 6,.str (sSub (qau v (sAt v 0) [58,45] [60,61] [62,61] [33,61] 0 0 [] 0 0 [] 0) 0 (nNat 1)),.int .i64 0,.int .i64 0,.str [],.int .i64 0],.bool (iLe 0 (idxV [40,41,44,46,43,45,61,58,60,62] (qbe v (sAt v 0) [58,45] [60,61] [62,61] [33,61] 0 0 [] 0 0 [] 0)))])) .fail) .fail)))) .fail) (.ite (iEq (sAt v 0) 34) (.ite (qbf v) (.ite (qaw true (qal (qab v)) 0 (nNat (qab v)) (nLen v)) (.ite (qao (sSub v 0 (nNat (qab v))) 5) (.ret (.tup [.agg [.int .i64 (qaz (sSub v 0 (nNat (qab v))) 5),.str (qaA (sSub v 0 (nNat (qab v))) 5),.int .i64 (qar (sSub v 0 (nNat (qab v))) 5),.int .i64 (qat (sSub v 0 (nNat (qab v))) 5),.str (qas (sSub v 0 (nNat (qab v))) 5),.int .i64 (qaq (sSub v 0 (nNat (qab v))) 5)],.bool (qay (sSub v 0 (nNat (qab v))) 5)])) .fail) .fail) .fail)
 (.ite (qa8 v (sAt v 0) [58,45] [60,61] [62,61] [33,61] 0 0 [] 0 0 [] 0) (.ret (.tup [.agg [.int .i64 (qbg v (sAt v 0) [58,45] [60,61] [62,61] [33,61] 0 0 [] 0 0 [] 0),.str (qbi v (sAt v 0) [58,45] [60,61] [62,61] [33,61] 0 0 [] 0 0 [] 0),.int .i64 (qaZ v (sAt v 0) [58,45] [60,61] [62,61] [33,61] 0 0 [] 0 0 [] 0),.int .i64 (qaY v (sAt v 0) [58,45] [60,61] [62,61] [33,61] 0 0 [] 0 0 [] 0),.str (qa0 v (sAt v 0) [58,45] [60,61] [62,61] [33,61] 0 0 [] 0 0 [] 0),.int .i64 (qaX v (sAt v 0) [58,45] [60,61] [62,61] [33,61] 0 0 [] 0 0 [] 0)],.bool (qbh v (sAt v 0) [58,45] [60,61] [62,61] [33,61] 0 0 [] 0 0 [] 0)])) (.ite (qbn v (sAt v 0) [58,45] [60,61] [62,61] [33,61] 0 0 [] 0 0 [] 0) (.ite (qaw true (qal 1) 0 (nNat 1) (nLen (qau v (sAt v 0) [58,45] [60,61] [62,61] [33,61] 0 0 [] 0 0 [] 0))) (.ret (.tup [.agg [.int .i64 6,.str (sSub (qau v (sAt v 0) [58,45] [60,61] [62,61] [33,61] 0 0 [] 0 0 [] 0) 0 (nNat 1)),.int .i64 0,.int .i64 0,.str [],.int .i64 0],.bool (iLe 0 (idxV [40,41,44,46,43,45,61,58,60,62] (qbe v (sAt v 0) [58,45] [60,61] [62,61] [33,61] 0 0 [] 0 0 [] 0)))])) .fail) .fail))))) .fail))) (.ite (iEq (sAt v 0) 95) (.ite (qbB (sAt v 1)) (.ret (.tup [.agg [.int .i64 3,.str [95],.int .i64 0,.int .i64 0,.str [],.int .i64 0],.bool (bNot (qbO (sAt v 1)))])) .fail) (.ite (qa1 (sAt v 0)) (.ite (qa6 (sAt v 0)) (.ite (qaw (qal 1) true (nNat 1) (nLen v) (nLen v)) (.ite (qby (sSub v (nNat 1) (nLen v))) (.ite (qaw true (qal (iAdd .i64 1 (qaf (sSub v (nNat 1) (nLen v))))) 0 (nNat (iAdd .i64 1 (qaf (sSub v (nNat 1) (nLen v))))) (nLen v)) (.ite (qao (sSub v 0 (nNat (iAdd .i64 1 (qaf (sSub v (nNat 1) (nLen v)))))) 4) (.ret (.tup [.agg [.int .i64 (qaz (sSub v 0 (nNat (iAdd .i64 1 (qaf (sSub v (nNat 1) (nLen v)))))) 4),.str (qaA (sSub v 0 (nNat (iAdd .i64 1 (qaf (sSub v (nNat 1) (nLen v)))))) 4),
 .int .i64 (qar (sSub v 0 (nNat (iAdd .i64 1 (qaf (sSub v (nNat 1) (nLen v)))))) 4),.int .i64 (qat (sSub v 0 (nNat (iAdd .i64 1 (qaf (sSub v (nNat 1) (nLen v)))))) 4),.str (qas (sSub v 0 (nNat (iAdd .i64 1 (qaf (sSub v (nNat 1) (nLen v)))))) 4),.int .i64 (qaq (sSub v 0 (nNat (iAdd .i64 1 (qaf (sSub v (nNat 1) (nLen v)))))) 4)],.bool (qay (sSub v 0 (nNat (iAdd .i64 1 (qaf (sSub v (nNat 1) (nLen v)))))) 4)])) .fail) .fail) .fail) .fail) (.ite (iEq (sAt v 0) 45) (.ite (qa1 (sAt v 1)) (.ite (qa6 (sAt v 1)) (.ite (qaw (qal 1) true (nNat 1) (nLen v) (nLen v)) (.ite (qby (sSub v (nNat 1) (nLen v))) (.ite (qaw true (qal (iAdd .i64 1 (qaf (sSub v (nNat 1) (nLen v))))) 0 (nNat (iAdd .i64 1 (qaf (sSub v (nNat 1) (nLen v))))) (nLen v)) (.ite (qao (sSub v 0 (nNat (iAdd .i64 1 (qaf (sSub v (nNat 1) (nLen v)))))) 4) (.ret (.tup [.agg [.int .i64 (qaz (sSub v 0 (nNat (iAdd .i64 1 (qaf (sSub v (nNat 1) (nLen v)))))) 4),.str (qaA (sSub v 0 (nNat (iAdd .i64 1 (qaf (sSub v (nNat 1) (nLen v)))))) 4),.int .i64 (qar (sSub v 0 (nNat (iAdd .i64 1 (qaf (sSub v (nNat 1) (nLen v)))))) 4),.int .i64 (qat (sSub v 0 (nNat (iAdd .i64 1 (qaf (sSub v (nNat 1) (nLen v)))))) 4),.str (qas (sSub v 0 (nNat (iAdd .i64 1 (qaf (sSub v (nNat 1) (nLen v)))))) 4),.int .i64 (qaq (sSub v 0 (nNat (iAdd .i64 1 (qaf (sSub v (nNat 1) (nLen v)))))) 4)],.bool (qay (sSub v 0 (nNat (iAdd .i64 1 (qaf (sSub v (nNat 1) (nLen v)))))) 4)])) .fail) .fail) .fail) .fail) (.ite (iEq (sAt v 0) 34) (.ite (qbf v) (.ite (qaw true (qal (qab v)) 0 (nNat (qab v)) (nLen v)) (.ite (qao (sSub v 0 (nNat (qab v))) 5) (.ret (.tup [.agg [.int .i64 (qaz (sSub v 0 (nNat (qab v))) 5),.str (qaA (sSub v 0 (nNat (qab v))) 5),
 .int .i64 (qar (sSub v 0 (nNat (qab v))) 5),.int .i64 (qat (sSub v 0 (nNat (qab v))) 5),.str (qas (sSub v 0 (nNat (qab v))) 5),.int .i64 (qaq (sSub v 0 (nNat (qab v))) 5)],.bool (qay (sSub v 0 (nNat (qab v))) 5)])) .fail) .fail) .fail) (.ite (qa8 v (sAt v 0) [58,45] [60,61] [62,61] [33,61] 0 0 [] 0 0 [] 0) (.ret (.tup [.agg [.int .i64 (qbg v (sAt v 0) [58,45] [60,61] [62,61] [33,61] 0 0 [] 0 0 [] 0),.str (qbi v (sAt v 0) [58,45] [60,61] [62,61] [33,61] 0 0 [] 0 0 [] 0),.int .i64 (qaZ v (sAt v 0) [58,45] [60,61] [62,61] [33,61] 0 0 [] 0 0 [] 0),.int .i64 (qaY v (sAt v 0) [58,45] [60,61] [62,61] [33,61] 0 0 [] 0 0 [] 0),.str (qa0 v (sAt v 0) [58,45] [60,61] [62,61] [33,61] 0 0 [] 0 0 [] 0),.int .i64 (qaX v (sAt v 0) [58,45] [60,61] [62,61] [33,61] 0 0 [] 0 0 [] 0)],.bool (qbh v (sAt v 0) [58,45] [60,61] [62,61] [33,61] 0 0 [] 0 0 [] 0)])) (.ite (qbn v (sAt v 0) [58,45] [60,61] [62,61] [33,61] 0 0 [] 0 0 [] 0) (.ite (qaw true (qal 1) 0 (nNat 1) (nLen (qau v (sAt v 0) [58,45] [60,61] [62,61] [33,61] 0 0 [] 0 0 [] 0))) (.ret (.tup [.agg [.int .i64 6,.str (sSub (qau v (sAt v 0) [58,45] [60,61] [62,61] [33,61] 0 0 [] 0 0 [] 0) 0 (nNat 1)),.int .i64 0,.int .i64 0,.str [],.int .i64 0],.bool (iLe 0 (idxV [40,41,44,46,43,45,61,58,60,62] (qbe v (sAt v 0) [58,45] [60,61] [62,61] [33,61] 0 0 [] 0 0 [] 0)))])) .fail) .fail)))) .fail) (.ite (iEq (sAt v 0) 34) (.ite (qbf v) (.ite (qaw true (qal (qab v)) 0 (nNat (qab v)) (nLen v)) (.ite (qao (sSub v 0 (nNat (qab v))) 5) (.ret (.tup [.agg [.int .i64 (qaz (sSub v 0 (nNat (qab v))) 5),.str (qaA (sSub v 0 (nNat (qab v))) 5),.int .i64 (qar (sSub v 0 (nNat (qab v))) 5),.int .i64 (qat (sSub v 0 (nNat (qab v))) 5),
 .str (qas (sSub v 0 (nNat (qab v))) 5),.int .i64 (qaq (sSub v 0 (nNat (qab v))) 5)],.bool (qay (sSub v 0 (nNat (qab v))) 5)])) .fail) .fail) .fail) (.ite (qa8 v (sAt v 0) [58,45] [60,61] [62,61] [33,61] 0 0 [] 0 0 [] 0) (.ret (.tup [.agg [.int .i64 (qbg v (sAt v 0) [58,45] [60,61] [62,61] [33,61] 0 0 [] 0 0 [] 0),.str (qbi v (sAt v 0) [58,45] [60,61] [62,61] [33,61] 0 0 [] 0 0 [] 0),.int .i64 (qaZ v (sAt v 0) [58,45] [60,61] [62,61] [33,61] 0 0 [] 0 0 [] 0),.int .i64 (qaY v (sAt v 0) [58,45] [60,61] [62,61] [33,61] 0 0 [] 0 0 [] 0),.str (qa0 v (sAt v 0) [58,45] [60,61] [62,61] [33,61] 0 0 [] 0 0 [] 0),.int .i64 (qaX v (sAt v 0) [58,45] [60,61] [62,61] [33,61] 0 0 [] 0 0 [] 0)],.bool (qbh v (sAt v 0) [58,45] [60,61] [62,61] [33,61] 0 0 [] 0 0 [] 0)])) (.ite (qbn v (sAt v 0) [58,45] [60,61] [62,61] [33,61] 0 0 [] 0 0 [] 0) (.ite (qaw true (qal 1) 0 (nNat 1) (nLen (qau v (sAt v 0) [58,45] [60,61] [62,61] [33,61] 0 0 [] 0 0 [] 0))) (.ret (.tup [.agg [.int .i64 6,.str (sSub (qau v (sAt v 0) [58,45] [60,61] [62,61] [33,61] 0 0 [] 0 0 [] 0) 0 (nNat 1)),.int .i64 0,.int .i64 0,.str [],.int .i64 0],.bool (iLe 0 (idxV [40,41,44,46,43,45,61,58,60,62] (qbe v (sAt v 0) [58,45] [60,61] [62,61] [33,61] 0 0 [] 0 0 [] 0)))])) .fail) .fail))))) .fail)))) .fail) (.ite (iLe 97 (sAt v 0)) (.ite (iLe (sAt v 0) 122) (.ite (qdo v 1) (.ret (.tup [.agg [.int .i64 (qfg v 1),.str (qeX v 1),.int .i64 (qdy v 1),.int .i64 (qdq v 1),.str (qdE v 1),.int .i64 (qdA v 1)],.bool (qe1 v 1)])) .fail) (.ite (iLe 65 (sAt v 0)) (.ite (iLe (sAt v 0) 90) (.ite (qdo v 2) (.ret (.tup [.agg [.int .i64 (qfg v 2),.str (qeX v 2),.int .i64 (qdy v 2),.int .i64 (qdq v 2),.str (qdE v 2),.int .i64 (qdA v 2)],.bool (qe1 v 2)])) .fail) (.ite (iEq (sAt v 0) 95) (.ite (qbB 0) (.ret
 (.tup [.agg [.int .i64 3,.str [95],.int .i64 0,.int .i64 0,.str [],.int .i64 0],.bool (bNot (qbO 0))])) .fail) (.ite (qa1 (sAt v 0)) (.ite (qa6 (sAt v 0)) (.ite (qaw (qal 1) true (nNat 1) (nLen v) (nLen v)) (.ite (qby (sSub v (nNat 1) (nLen v))) (.ite (qaw true (qal (iAdd .i64 1 (qaf (sSub v (nNat 1) (nLen v))))) 0 (nNat (iAdd .i64 1 (qaf (sSub v (nNat 1) (nLen v))))) (nLen v)) (.ite (qao (sSub v 0 (nNat (iAdd .i64 1 (qaf (sSub v (nNat 1) (nLen v)))))) 4) (.ret (.tup [.agg [.int .i64 (qaz (sSub v 0 (nNat (iAdd .i64 1 (qaf (sSub v (nNat 1) (nLen v)))))) 4),.str (qaA (sSub v 0 (nNat (iAdd .i64 1 (qaf (sSub v (nNat 1) (nLen v)))))) 4),.int .i64 (qar (sSub v 0 (nNat (iAdd .i64 1 (qaf (sSub v (nNat 1) (nLen v)))))) 4),.int .i64 (qat (sSub v 0 (nNat (iAdd .i64 1 (qaf (sSub v (nNat 1) (nLen v)))))) 4),.str (qas (sSub v 0 (nNat (iAdd .i64 1 (qaf (sSub v (nNat 1) (nLen v)))))) 4),.int .i64 (qaq (sSub v 0 (nNat (iAdd .i64 1 (qaf (sSub v (nNat 1) (nLen v)))))) 4)],.bool (qay (sSub v 0 (nNat (iAdd .i64 1 (qaf (sSub v (nNat 1) (nLen v)))))) 4)])) .fail) .fail) .fail) .fail) (.ite (iEq (sAt v 0) 45) (.ite (qa1 0) (.ite (qa6 0) (.ite (qaw (qal 1) true (nNat 1) (nLen v) (nLen v)) (.ite (qby (sSub v (nNat 1) (nLen v))) (.ite (qaw true (qal (iAdd .i64 1 (qaf (sSub v (nNat 1) (nLen v))))) 0 (nNat (iAdd .i64 1 (qaf (sSub v (nNat 1) (nLen v))))) (nLen v)) (.ite (qao (sSub v 0 (nNat (iAdd .i64 1 (qaf (sSub v (nNat 1) (nLen v)))))) 4) (.ret (.tup [.agg [.int .i64 (qaz (sSub v 0 (nNat (iAdd .i64 1 (qaf (sSub v (nNat 1) (nLen v)))))) 4),.str (qaA (sSub v 0 (nNat (iAdd .i64 1 (qaf (sSub v (nNat 1) (nLen v)))))) 4),.int .i64 (qar (sSub v 0 (nNat (iAdd .i64 1 (qaf (sSub v (nNat 1) (nLen v)))))) 4),
 .int .i64 (qat (sSub v 0 (nNat (iAdd .i64 1 (qaf (sSub v (nNat 1) (nLen v)))))) 4),.str (qas (sSub v 0 (nNat (iAdd .i64 1 (qaf (sSub v (nNat 1) (nLen v)))))) 4),.int .i64 (qaq (sSub v 0 (nNat (iAdd .i64 1 (qaf (sSub v (nNat 1) (nLen v)))))) 4)],.bool (qay (sSub v 0 (nNat (iAdd .i64 1 (qaf (sSub v (nNat 1) (nLen v)))))) 4)])) .fail) .fail) .fail) .fail) (.ite (iEq (sAt v 0) 34) (.ite (qbf v) (.ite (qaw true (qal (qab v)) 0 (nNat (qab v)) (nLen v)) (.ite (qao (sSub v 0 (nNat (qab v))) 5) (.ret (.tup [.agg [.int .i64 (qaz (sSub v 0 (nNat (qab v))) 5),.str (qaA (sSub v 0 (nNat (qab v))) 5),.int .i64 (qar (sSub v 0 (nNat (qab v))) 5),.int .i64 (qat (sSub v 0 (nNat (qab v))) 5),.str (qas (sSub v 0 (nNat (qab v))) 5),.int .i64 (qaq (sSub v 0 (nNat (qab v))) 5)],.bool (qay (sSub v 0 (nNat (qab v))) 5)])) .fail) .fail) .fail) (.ite (qa8 v (sAt v 0) [58,45] [60,61] [62,61] [33,61] 0 0 [] 0 0 [] 0) (.ret (.tup [.agg [.int .i64 (qbg v (sAt v 0) [58,45] [60,61] [62,61] [33,61] 0 0 [] 0 0 [] 0),.str (qbi v (sAt v 0) [58,45] [60,61] [62,61] [33,61] 0 0 [] 0 0 [] 0),.int .i64 (qaZ v (sAt v 0) [58,45] [60,61] [62,61] [33,61] 0 0 [] 0 0 [] 0),.int .i64 (qaY v (sAt v 0) [58,45] [60,61] [62,61] [33,61] 0 0 [] 0 0 [] 0),.str (qa0 v (sAt v 0) [58,45] [60,61] [62,61] [33,61] 0 0 [] 0 0 [] 0),.int .i64 (qaX v (sAt v 0) [58,45] [60,61] [62,61] [33,61] 0 0 [] 0 0 [] 0)],.bool (qbh v (sAt v 0) [58,45] [60,61] [62,61] [33,61] 0 0 [] 0 0 [] 0)])) (.ite (qbn v (sAt v 0) [58,45] [60,61] [62,61] [33,61] 0 0 [] 0 0 [] 0) (.ite (qaw true (qal 1) 0 (nNat 1) (nLen (qau v (sAt v 0) [58,45] [60,61] [62,61] [33,61] 0 0 [] 0 0 [] 0))) (.ret (.tup [.agg
 [.int .i64 6,.str (sSub (qau v (sAt v 0) [58,45] [60,61] [62,61] [33,61] 0 0 [] 0 0 [] 0) 0 (nNat 1)),.int .i64 0,.int .i64 0,.str [],.int .i64 0],.bool (iLe 0 (idxV [40,41,44,46,43,45,61,58,60,62] (qbe v (sAt v 0) [58,45] [60,61] [62,61] [33,61] 0 0 [] 0 0 [] 0)))])) .fail) .fail)))) .fail) (.ite (iEq (sAt v 0) 34) (.ite (qbf v) (.ite (qaw true (qal (qab v)) 0 (nNat (qab v)) (nLen v)) (.ite (qao (sSub v 0 (nNat (qab v))) 5) (.ret (.tup [.agg [.int .i64 (qaz (sSub v 0 (nNat (qab v))) 5),.str (qaA (sSub v 0 (nNat (qab v))) 5),.int .i64 (qar (sSub v 0 (nNat (qab v))) 5),.int .i64 (qat (sSub v 0 (nNat (qab v))) 5),.str (qas (sSub v 0 (nNat (qab v))) 5),.int .i64 (qaq (sSub v 0 (nNat (qab v))) 5)],.bool (qay (sSub v 0 (nNat (qab v))) 5)])) .fail) .fail) .fail) (.ite (qa8 v (sAt v 0) [58,45] [60,61] [62,61] [33,61] 0 0 [] 0 0 [] 0) (.ret (.tup [.agg [.int .i64 (qbg v (sAt v 0) [58,45] [60,61] [62,61] [33,61] 0 0 [] 0 0 [] 0),.str (qbi v (sAt v 0) [58,45] [60,61] [62,61] [33,61] 0 0 [] 0 0 [] 0),.int .i64 (qaZ v (sAt v 0) [58,45] [60,61] [62,61] [33,61] 0 0 [] 0 0 [] 0),.int .i64 (qaY v (sAt v 0) [58,45] [60,61] [62,61] [33,61] 0 0 [] 0 0 [] 0),.str (qa0 v (sAt v 0) [58,45] [60,61] [62,61] [33,61] 0 0 [] 0 0 [] 0),.int .i64 (qaX v (sAt v 0) [58,45] [60,61] [62,61] [33,61] 0 0 [] 0 0 [] 0)],.bool (qbh v (sAt v 0) [58,45] [60,61] [62,61] [33,61] 0 0 [] 0 0 [] 0)])) (.ite (qbn v (sAt v 0) [58,45] [60,61] [62,61] [33,61] 0 0 [] 0 0 [] 0) (.ite (qaw true (qal 1) 0 (nNat 1) (nLen (qau v (sAt v 0) [58,45] [60,61] [62,61] [33,61] 0 0 [] 0 0 [] 0))) (.ret (.tup [.agg [.int .i64 6,.str (sSub (qau v (sAt v 0) [58,45] [60,61] [62,61] [33,61] 0 0 [] 0 0 [] 0) 0 (nNat 1)),.int .i64 0,.int .i64 0,.str [],.int .i64 0],
 .bool (iLe 0 (idxV [40,41,44,46,43,45,61,58,60,62] (qbe v (sAt v 0) [58,45] [60,61] [62,61] [33,61] 0 0 [] 0 0 [] 0)))])) .fail) .fail))))) .fail))) (.ite (iEq (sAt v 0) 95) (.ite (qbB 0) (.ret (.tup [.agg [.int .i64 3,.str [95],.int .i64 0,.int .i64 0,.str [],.int .i64 0],.bool (bNot (qbO 0))])) .fail) (.ite (qa1 (sAt v 0)) (.ite (qa6 (sAt v 0)) (.ite (qaw (qal 1) true (nNat 1) (nLen v) (nLen v)) (.ite (qby (sSub v (nNat 1) (nLen v))) (.ite (qaw true (qal (iAdd .i64 1 (qaf (sSub v (nNat 1) (nLen v))))) 0 (nNat (iAdd .i64 1 (qaf (sSub v (nNat 1) (nLen v))))) (nLen v)) (.ite (qao (sSub v 0 (nNat (iAdd .i64 1 (qaf (sSub v (nNat 1) (nLen v)))))) 4) (.ret (.tup [.agg [.int .i64 (qaz (sSub v 0 (nNat (iAdd .i64 1 (qaf (sSub v (nNat 1) (nLen v)))))) 4),.str (qaA (sSub v 0 (nNat (iAdd .i64 1 (qaf (sSub v (nNat 1) (nLen v)))))) 4),.int .i64 (qar (sSub v 0 (nNat (iAdd .i64 1 (qaf (sSub v (nNat 1) (nLen v)))))) 4),.int .i64 (qat (sSub v 0 (nNat (iAdd .i64 1 (qaf (sSub v (nNat 1) (nLen v)))))) 4),.str (qas (sSub v 0 (nNat (iAdd .i64 1 (qaf (sSub v (nNat 1) (nLen v)))))) 4),.int .i64 (qaq (sSub v 0 (nNat (iAdd .i64 1 (qaf (sSub v (nNat 1) (nLen v)))))) 4)],.bool (qay (sSub v 0 (nNat (iAdd .i64 1 (qaf (sSub v (nNat 1) (nLen v)))))) 4)])) .fail) .fail) .fail) .fail) (.ite (iEq (sAt v 0) 45) (.ite (qa1 0) (.ite (qa6 0) (.ite (qaw (qal 1) true (nNat 1) (nLen v) (nLen v)) (.ite (qby (sSub v (nNat 1) (nLen v))) (.ite (qaw true (qal (iAdd .i64 1 (qaf (sSub v (nNat 1) (nLen v))))) 0 (nNat (iAdd .i64 1 (qaf (sSub v (nNat 1) (nLen v))))) (nLen v)) (.ite (qao (sSub v 0 (nNat (iAdd .i64 1 (qaf (sSub v (nNat 1) (nLen v)))))) 4) (.ret (.tup [.agg [.int .i64 (qaz (sSub v 0 (nNat (iAdd .i64 1 (qaf (sSub v (nNat 1) (nLen v)))))) 4),
 .str (qaA (sSub v 0 (nNat (iAdd .i64 1 (qaf (sSub v (nNat 1) (nLen v)))))) 4),.int .i64 (qar (sSub v 0 (nNat (iAdd .i64 1 (qaf (sSub v (nNat 1) (nLen v)))))) 4),.int .i64 (qat (sSub v 0 (nNat (iAdd .i64 1 (qaf (sSub v (nNat 1) (nLen v)))))) 4),.str (qas (sSub v 0 (nNat (iAdd .i64 1 (qaf (sSub v (nNat 1) (nLen v)))))) 4),.int .i64 (qaq (sSub v 0 (nNat (iAdd .i64 1 (qaf (sSub v (nNat 1) (nLen v)))))) 4)],.bool (qay (sSub v 0 (nNat (iAdd .i64 1 (qaf (sSub v (nNat 1) (nLen v)))))) 4)])) .fail) .fail) .fail) .fail) (.ite (iEq (sAt v 0) 34) (.ite (qbf v) (.ite (qaw true (qal (qab v)) 0 (nNat (qab v)) (nLen v)) (.ite (qao (sSub v 0 (nNat (qab v))) 5) (.ret (.tup [.agg [.int .i64 (qaz (sSub v 0 (nNat (qab v))) 5),.str (qaA (sSub v 0 (nNat (qab v))) 5),.int .i64 (qar (sSub v 0 (nNat (qab v))) 5),.int .i64 (qat (sSub v 0 (nNat (qab v))) 5),.str (qas (sSub v 0 (nNat (qab v))) 5),.int .i64 (qaq (sSub v 0 (nNat (qab v))) 5)],.bool (qay (sSub v 0 (nNat (qab v))) 5)])) .fail) .fail) .fail) (.ite (qa8 v (sAt v 0) [58,45] [60,61] [62,61] [33,61] 0 0 [] 0 0 [] 0) (.ret (.tup [.agg [.int .i64 (qbg v (sAt v 0) [58,45] [60,61] [62,61] [33,61] 0 0 [] 0 0 [] 0),.str (qbi v (sAt v 0) [58,45] [60,61] [62,61] [33,61] 0 0 [] 0 0 [] 0),.int .i64 (qaZ v (sAt v 0) [58,45] [60,61] [62,61] [33,61] 0 0 [] 0 0 [] 0),.int .i64 (qaY v (sAt v 0) [58,45] [60,61] [62,61] [33,61] 0 0 [] 0 0 [] 0),.str (qa0 v (sAt v 0) [58,45] [60,61] [62,61] [33,61] 0 0 [] 0 0 [] 0),.int .i64 (qaX v (sAt v 0) [58,45] [60,61] [62,61] [33,61] 0 0 [] 0 0 [] 0)],.bool (qbh v (sAt v 0) [58,45] [60,61] [62,61] [33,61] 0 0 [] 0 0 [] 0)])) (.ite (qbn v (sAt v 0) [58,45] [60,61] [62,61] [33,61] 0 0 [] 0 0 [] 0)
 (.ite (qaw true (qal 1) 0 (nNat 1) (nLen (qau v (sAt v 0) [58,45] [60,61] [62,61] [33,61] 0 0 [] 0 0 [] 0))) (.ret (.tup [.agg [.int .i64 6,.str (sSub (qau v (sAt v 0) [58,45] [60,61] [62,61] [33,61] 0 0 [] 0 0 [] 0) 0 (nNat 1)),.int .i64 0,.int .i64 0,.str [],.int .i64 0],.bool (iLe 0 (idxV [40,41,44,46,43,45,61,58,60,62] (qbe v (sAt v 0) [58,45] [60,61] [62,61] [33,61] 0 0 [] 0 0 [] 0)))])) .fail) .fail)))) .fail) (.ite (iEq (sAt v 0) 34) (.ite (qbf v) (.ite (qaw true (qal (qab v)) 0 (nNat (qab v)) (nLen v)) (.ite (qao (sSub v 0 (nNat (qab v))) 5) (.ret (.tup [.agg [.int .i64 (qaz (sSub v 0 (nNat (qab v))) 5),.str (qaA (sSub v 0 (nNat (qab v))) 5),.int .i64 (qar (sSub v 0 (nNat (qab v))) 5),.int .i64 (qat (sSub v 0 (nNat (qab v))) 5),.str (qas (sSub v 0 (nNat (qab v))) 5),.int .i64 (qaq (sSub v 0 (nNat (qab v))) 5)],.bool (qay (sSub v 0 (nNat (qab v))) 5)])) .fail) .fail) .fail) (.ite (qa8 v (sAt v 0) [58,45] [60,61] [62,61] [33,61] 0 0 [] 0 0 [] 0) (.ret (.tup [.agg [.int .i64 (qbg v (sAt v 0) [58,45] [60,61] [62,61] [33,61] 0 0 [] 0 0 [] 0),.str (qbi v (sAt v 0) [58,45] [60,61] [62,61] [33,61] 0 0 [] 0 0 [] 0),.int .i64 (qaZ v (sAt v 0) [58,45] [60,61] [62,61] [33,61] 0 0 [] 0 0 [] 0),.int .i64 (qaY v (sAt v 0) [58,45] [60,61] [62,61] [33,61] 0 0 [] 0 0 [] 0),.str (qa0 v (sAt v 0) [58,45] [60,61] [62,61] [33,61] 0 0 [] 0 0 [] 0),.int .i64 (qaX v (sAt v 0) [58,45] [60,61] [62,61] [33,61] 0 0 [] 0 0 [] 0)],.bool (qbh v (sAt v 0) [58,45] [60,61] [62,61] [33,61] 0 0 [] 0 0 [] 0)])) (.ite (qbn v (sAt v 0) [58,45] [60,61] [62,61] [33,61] 0 0 [] 0 0 [] 0) (.ite (qaw true (qal 1) 0 (nNat 1) (nLen (qau v (sAt v 0) [58,45] [60,61] [62,61] [33,61] 0 0 [] 0 0 [] 0))) (.ret (.tup [.agg
 [.int .i64 6,.str (sSub (qau v (sAt v 0) [58,45] [60,61] [62,61] [33,61] 0 0 [] 0 0 [] 0) 0 (nNat 1)),.int .i64 0,.int .i64 0,.str [],.int .i64 0],.bool (iLe 0 (idxV [40,41,44,46,43,45,61,58,60,62] (qbe v (sAt v 0) [58,45] [60,61] [62,61] [33,61] 0 0 [] 0 0 [] 0)))])) .fail) .fail))))) .fail)))) (.ite (iLe 65 (sAt v 0)) (.ite (iLe (sAt v 0) 90) (.ite (qdo v 2) (.ret (.tup [.agg [.int .i64 (qfg v 2),.str (qeX v 2),.int .i64 (qdy v 2),.int .i64 (qdq v 2),.str (qdE v 2),.int .i64 (qdA v 2)],.bool (qe1 v 2)])) .fail) (.ite (iEq (sAt v 0) 95) (.ite (qbB 0) (.ret (.tup [.agg [.int .i64 3,.str [95],.int .i64 0,.int .i64 0,.str [],.int .i64 0],.bool (bNot (qbO 0))])) .fail) (.ite (qa1 (sAt v 0)) (.ite (qa6 (sAt v 0)) (.ite (qaw (qal 1) true (nNat 1) (nLen v) (nLen v)) (.ite (qby (sSub v (nNat 1) (nLen v))) (.ite (qaw true (qal (iAdd .i64 1 (qaf (sSub v (nNat 1) (nLen v))))) 0 (nNat (iAdd .i64 1 (qaf (sSub v (nNat 1) (nLen v))))) (nLen v)) (.ite (qao (sSub v 0 (nNat (iAdd .i64 1 (qaf (sSub v (nNat 1) (nLen v)))))) 4) (.ret (.tup [.agg [.int .i64 (qaz (sSub v 0 (nNat (iAdd .i64 1 (qaf (sSub v (nNat 1) (nLen v)))))) 4),.str (qaA (sSub v 0 (nNat (iAdd .i64 1 (qaf (sSub v (nNat 1) (nLen v)))))) 4),.int .i64 (qar (sSub v 0 (nNat (iAdd .i64 1 (qaf (sSub v (nNat 1) (nLen v)))))) 4),.int .i64 (qat (sSub v 0 (nNat (iAdd .i64 1 (qaf (sSub v (nNat 1) (nLen v)))))) 4),.str (qas (sSub v 0 (nNat (iAdd .i64 1 (qaf (sSub v (nNat 1) (nLen v)))))) 4),.int .i64 (qaq (sSub v 0 (nNat (iAdd .i64 1 (qaf (sSub v (nNat 1) (nLen v)))))) 4)],.bool (qay (sSub v 0 (nNat (iAdd .i64 1 (qaf (sSub v (nNat 1) (nLen v)))))) 4)])) .fail) .fail) .fail) .fail) (.ite (iEq (sAt v 0) 45) (.ite (qa1 0) (.ite (qa6 0) (.ite (qaw (qal 1) true (nNat 1) (nLen v) (nLen v))
 (.ite (qby (sSub v (nNat 1) (nLen v))) (.ite (qaw true (qal (iAdd .i64 1 (qaf (sSub v (nNat 1) (nLen v))))) 0 (nNat (iAdd .i64 1 (qaf (sSub v (nNat 1) (nLen v))))) (nLen v)) (.ite (qao (sSub v 0 (nNat (iAdd .i64 1 (qaf (sSub v (nNat 1) (nLen v)))))) 4) (.ret (.tup [.agg [.int .i64 (qaz (sSub v 0 (nNat (iAdd .i64 1 (qaf (sSub v (nNat 1) (nLen v)))))) 4),.str (qaA (sSub v 0 (nNat (iAdd .i64 1 (qaf (sSub v (nNat 1) (nLen v)))))) 4),.int .i64 (qar (sSub v 0 (nNat (iAdd .i64 1 (qaf (sSub v (nNat 1) (nLen v)))))) 4),.int .i64 (qat (sSub v 0 (nNat (iAdd .i64 1 (qaf (sSub v (nNat 1) (nLen v)))))) 4),.str (qas (sSub v 0 (nNat (iAdd .i64 1 (qaf (sSub v (nNat 1) (nLen v)))))) 4),.int .i64 (qaq (sSub v 0 (nNat (iAdd .i64 1 (qaf (sSub v (nNat 1) (nLen v)))))) 4)],.bool (qay (sSub v 0 (nNat (iAdd .i64 1 (qaf (sSub v (nNat 1) (nLen v)))))) 4)])) .fail) .fail) .fail) .fail) (.ite (iEq (sAt v 0) 34) (.ite (qbf v) (.ite (qaw true (qal (qab v)) 0 (nNat (qab v)) (nLen v)) (.ite (qao (sSub v 0 (nNat (qab v))) 5) (.ret (.tup [.agg [.int .i64 (qaz (sSub v 0 (nNat (qab v))) 5),.str (qaA (sSub v 0 (nNat (qab v))) 5),.int .i64 (qar (sSub v 0 (nNat (qab v))) 5),.int .i64 (qat (sSub v 0 (nNat (qab v))) 5),.str (qas (sSub v 0 (nNat (qab v))) 5),.int .i64 (qaq (sSub v 0 (nNat (qab v))) 5)],.bool (qay (sSub v 0 (nNat (qab v))) 5)])) .fail) .fail) .fail) (.ite (qa8 v (sAt v 0) [58,45] [60,61] [62,61] [33,61] 0 0 [] 0 0 [] 0) (.ret (.tup [.agg [.int .i64 (qbg v (sAt v 0) [58,45] [60,61] [62,61] [33,61] 0 0 [] 0 0 [] 0),.str (qbi v (sAt v 0) [58,45] [60,61] [62,61] [33,61] 0 0 [] 0 0 [] 0),.int .i64 (qaZ v (sAt v 0) [58,45] [60,61] [62,61] [33,61] 0 0 [] 0 0 [] 0),
 .int .i64 (qaY v (sAt v 0) [58,45] [60,61] [62,61] [33,61] 0 0 [] 0 0 [] 0),.str (qa0 v (sAt v 0) [58,45] [60,61] [62,61] [33,61] 0 0 [] 0 0 [] 0),.int .i64 (qaX v (sAt v 0) [58,45] [60,61] [62,61] [33,61] 0 0 [] 0 0 [] 0)],.bool (qbh v (sAt v 0) [58,45] [60,61] [62,61] [33,61] 0 0 [] 0 0 [] 0)])) (.ite (qbn v (sAt v 0) [58,45] [60,61] [62,61] [33,61] 0 0 [] 0 0 [] 0) (.ite (qaw true (qal 1) 0 (nNat 1) (nLen (qau v (sAt v 0) [58,45] [60,61] [62,61] [33,61] 0 0 [] 0 0 [] 0))) (.ret (.tup [.agg [.int .i64 6,.str (sSub (qau v (sAt v 0) [58,45] [60,61] [62,61] [33,61] 0 0 [] 0 0 [] 0) 0 (nNat 1)),.int .i64 0,.int .i64 0,.str [],.int .i64 0],.bool (iLe 0 (idxV [40,41,44,46,43,45,61,58,60,62] (qbe v (sAt v 0) [58,45] [60,61] [62,61] [33,61] 0 0 [] 0 0 [] 0)))])) .fail) .fail)))) .fail) (.ite (iEq (sAt v 0) 34) (.ite (qbf v) (.ite (qaw true (qal (qab v)) 0 (nNat (qab v)) (nLen v)) (.ite (qao (sSub v 0 (nNat (qab v))) 5) (.ret (.tup [.agg [.int .i64 (qaz (sSub v 0 (nNat (qab v))) 5),.str (qaA (sSub v 0 (nNat (qab v))) 5),.int .i64 (qar (sSub v 0 (nNat (qab v))) 5),.int .i64 (qat (sSub v 0 (nNat (qab v))) 5),.str (qas (sSub v 0 (nNat (qab v))) 5),.int .i64 (qaq (sSub v 0 (nNat (qab v))) 5)],.bool (qay (sSub v 0 (nNat (qab v))) 5)])) .fail) .fail) .fail) (.ite (qa8 v (sAt v 0) [58,45] [60,61] [62,61] [33,61] 0 0 [] 0 0 [] 0) (.ret (.tup [.agg [.int .i64 (qbg v (sAt v 0) [58,45] [60,61] [62,61] [33,61] 0 0 [] 0 0 [] 0),.str (qbi v (sAt v 0) [58,45] [60,61] [62,61] [33,61] 0 0 [] 0 0 [] 0),.int .i64 (qaZ v (sAt v 0) [58,45] [60,61] [62,61] [33,61] 0 0 [] 0 0 [] 0),.int .i64 (qaY v (sAt v 0) [58,45] [60,61] [62,61] [33,61] 0 0 [] 0 0 [] 0),.str (qa0 v (sAt v 0) [58,45] [60,61] [62,61] [33,61] 0 0 [] 0 0 [] 0),
 .int .i64 (qaX v (sAt v 0) [58,45] [60,61] [62,61] [33,61] 0 0 [] 0 0 [] 0)],.bool (qbh v (sAt v 0) [58,45] [60,61] [62,61] [33,61] 0 0 [] 0 0 [] 0)])) (.ite (qbn v (sAt v 0) [58,45] [60,61] [62,61] [33,61] 0 0 [] 0 0 [] 0) (.ite (qaw true (qal 1) 0 (nNat 1) (nLen (qau v (sAt v 0) [58,45] [60,61] [62,61] [33,61] 0 0 [] 0 0 [] 0))) (.ret (.tup [.agg [.int .i64 6,.str (sSub (qau v (sAt v 0) [58,45] [60,61] [62,61] [33,61] 0 0 [] 0 0 [] 0) 0 (nNat 1)),.int .i64 0,.int .i64 0,.str [],.int .i64 0],.bool (iLe 0 (idxV [40,41,44,46,43,45,61,58,60,62] (qbe v (sAt v 0) [58,45] [60,61] [62,61] [33,61] 0 0 [] 0 0 [] 0)))])) .fail) .fail))))) .fail))) (.ite (iEq (sAt v 0) 95) (.ite (qbB 0) (.ret (.tup [.agg [.int .i64 3,.str [95],.int .i64 0,.int .i64 0,.str [],.int .i64 0],.bool (bNot (qbO 0))])) .fail) (.ite (qa1 (sAt v 0)) (.ite (qa6 (sAt v 0)) (.ite (qaw (qal 1) true (nNat 1) (nLen v) (nLen v)) (.ite (qby (sSub v (nNat 1) (nLen v))) (.ite (qaw true (qal (iAdd .i64 1 (qaf (sSub v (nNat 1) (nLen v))))) 0 (nNat (iAdd .i64 1 (qaf (sSub v (nNat 1) (nLen v))))) (nLen v)) (.ite (qao (sSub v 0 (nNat (iAdd .i64 1 (qaf (sSub v (nNat 1) (nLen v)))))) 4) (.ret (.tup [.agg [.int .i64 (qaz (sSub v 0 (nNat (iAdd .i64 1 (qaf (sSub v (nNat 1) (nLen v)))))) 4),.str (qaA (sSub v 0 (nNat (iAdd .i64 1 (qaf (sSub v (nNat 1) (nLen v)))))) 4),.int .i64 (qar (sSub v 0 (nNat (iAdd .i64 1 (qaf (sSub v (nNat 1) (nLen v)))))) 4),.int .i64 (qat (sSub v 0 (nNat (iAdd .i64 1 (qaf (sSub v (nNat 1) (nLen v)))))) 4),.str (qas (sSub v 0 (nNat (iAdd .i64 1 (qaf (sSub v (nNat 1) (nLen v)))))) 4),.int .i64 (qaq (sSub v 0 (nNat (iAdd .i64 1 (qaf (sSub v (nNat 1) (nLen v)))))) 4)],.bool (qay (sSub v 0 (nNat (iAdd .i64 1 (qaf (sSub v (nNat 1) (nLen v)))))) 4)])) .fail) .fail) .fail) .fail) (.ite (iEq (sAt v 0) 45)
 (.ite (qa1 0) (.ite (qa6 0) (.ite (qaw (qal 1) true (nNat 1) (nLen v) (nLen v)) (.ite (qby (sSub v (nNat 1) (nLen v))) (.ite (qaw true (qal (iAdd .i64 1 (qaf (sSub v (nNat 1) (nLen v))))) 0 (nNat (iAdd .i64 1 (qaf (sSub v (nNat 1) (nLen v))))) (nLen v)) (.ite (qao (sSub v 0 (nNat (iAdd .i64 1 (qaf (sSub v (nNat 1) (nLen v)))))) 4) (.ret (.tup [.agg [.int .i64 (qaz (sSub v 0 (nNat (iAdd .i64 1 (qaf (sSub v (nNat 1) (nLen v)))))) 4),.str (qaA (sSub v 0 (nNat (iAdd .i64 1 (qaf (sSub v (nNat 1) (nLen v)))))) 4),.int .i64 (qar (sSub v 0 (nNat (iAdd .i64 1 (qaf (sSub v (nNat 1) (nLen v)))))) 4),.int .i64 (qat (sSub v 0 (nNat (iAdd .i64 1 (qaf (sSub v (nNat 1) (nLen v)))))) 4),.str (qas (sSub v 0 (nNat (iAdd .i64 1 (qaf (sSub v (nNat 1) (nLen v)))))) 4),.int .i64 (qaq (sSub v 0 (nNat (iAdd .i64 1 (qaf (sSub v (nNat 1) (nLen v)))))) 4)],.bool (qay (sSub v 0 (nNat (iAdd .i64 1 (qaf (sSub v (nNat 1) (nLen v)))))) 4)])) .fail) .fail) .fail) .fail) (.ite (iEq (sAt v 0) 34) (.ite (qbf v) (.ite (qaw true (qal (qab v)) 0 (nNat (qab v)) (nLen v)) (.ite (qao (sSub v 0 (nNat (qab v))) 5) (.ret (.tup [.agg [.int .i64 (qaz (sSub v 0 (nNat (qab v))) 5),.str (qaA (sSub v 0 (nNat (qab v))) 5),.int .i64 (qar (sSub v 0 (nNat (qab v))) 5),.int .i64 (qat (sSub v 0 (nNat (qab v))) 5),.str (qas (sSub v 0 (nNat (qab v))) 5),.int .i64 (qaq (sSub v 0 (nNat (qab v))) 5)],.bool (qay (sSub v 0 (nNat (qab v))) 5)])) .fail) .fail) .fail) (.ite (qa8 v (sAt v 0) [58,45] [60,61] [62,61] [33,61] 0 0 [] 0 0 [] 0) (.ret (.tup [.agg [.int .i64 (qbg v (sAt v 0) [58,45] [60,61] [62,61] [33,61] 0 0 [] 0 0 [] 0),.str (qbi v (sAt v 0) [58,45] [60,61] [62,61] [33,61] 0 0 [] 0 0 [] 0),
 .int .i64 (qaZ v (sAt v 0) [58,45] [60,61] [62,61] [33,61] 0 0 [] 0 0 [] 0),.int .i64 (qaY v (sAt v 0) [58,45] [60,61] [62,61] [33,61] 0 0 [] 0 0 [] 0),.str (qa0 v (sAt v 0) [58,45] [60,61] [62,61] [33,61] 0 0 [] 0 0 [] 0),.int .i64 (qaX v (sAt v 0) [58,45] [60,61] [62,61] [33,61] 0 0 [] 0 0 [] 0)],.bool (qbh v (sAt v 0) [58,45] [60,61] [62,61] [33,61] 0 0 [] 0 0 [] 0)])) (.ite (qbn v (sAt v 0) [58,45] [60,61] [62,61] [33,61] 0 0 [] 0 0 [] 0) (.ite (qaw true (qal 1) 0 (nNat 1) (nLen (qau v (sAt v 0) [58,45] [60,61] [62,61] [33,61] 0 0 [] 0 0 [] 0))) (.ret (.tup [.agg [.int .i64 6,.str (sSub (qau v (sAt v 0) [58,45] [60,61] [62,61] [33,61] 0 0 [] 0 0 [] 0) 0 (nNat 1)),.int .i64 0,.int .i64 0,.str [],.int .i64 0],.bool (iLe 0 (idxV [40,41,44,46,43,45,61,58,60,62] (qbe v (sAt v 0) [58,45] [60,61] [62,61] [33,61] 0 0 [] 0 0 [] 0)))])) .fail) .fail)))) .fail) (.ite (iEq (sAt v 0) 34) (.ite (qbf v) (.ite (qaw true (qal (qab v)) 0 (nNat (qab v)) (nLen v)) (.ite (qao (sSub v 0 (nNat (qab v))) 5) (.ret (.tup [.agg [.int .i64 (qaz (sSub v 0 (nNat (qab v))) 5),.str (qaA (sSub v 0 (nNat (qab v))) 5),.int .i64 (qar (sSub v 0 (nNat (qab v))) 5),.int .i64 (qat (sSub v 0 (nNat (qab v))) 5),.str (qas (sSub v 0 (nNat (qab v))) 5),.int .i64 (qaq (sSub v 0 (nNat (qab v))) 5)],.bool (qay (sSub v 0 (nNat (qab v))) 5)])) .fail) .fail) .fail) (.ite (qa8 v (sAt v 0) [58,45] [60,61] [62,61] [33,61] 0 0 [] 0 0 [] 0) (.ret (.tup [.agg [.int .i64 (qbg v (sAt v 0) [58,45] [60,61] [62,61] [33,61] 0 0 [] 0 0 [] 0),.str (qbi v (sAt v 0) [58,45] [60,61] [62,61] [33,61] 0 0 [] 0 0 [] 0),.int .i64 (qaZ v (sAt v 0) [58,45] [60,61] [62,61] [33,61] 0 0 [] 0 0 [] 0),.int .i64 (qaY v (sAt v 0) [58,45] [60,61] [62,61] [33,61] 0 0 [] 0 0 [] 0),
 .str (qa0 v (sAt v 0) [58,45] [60,61] [62,61] [33,61] 0 0 [] 0 0 [] 0),.int .i64 (qaX v (sAt v 0) [58,45] [60,61] [62,61] [33,61] 0 0 [] 0 0 [] 0)],.bool (qbh v (sAt v 0) [58,45] [60,61] [62,61] [33,61] 0 0 [] 0 0 [] 0)])) (.ite (qbn v (sAt v 0) [58,45] [60,61] [62,61] [33,61] 0 0 [] 0 0 [] 0) (.ite (qaw true (qal 1) 0 (nNat 1) (nLen (qau v (sAt v 0) [58,45] [60,61] [62,61] [33,61] 0 0 [] 0 0 [] 0))) (.ret (.tup [.agg [.int .i64 6,.str (sSub (qau v (sAt v 0) [58,45] [60,61] [62,61] [33,61] 0 0 [] 0 0 [] 0) 0 (nNat 1)),.int .i64 0,.int .i64 0,.str [],.int .i64 0],.bool (iLe 0 (idxV [40,41,44,46,43,45,61,58,60,62] (qbe v (sAt v 0) [58,45] [60,61] [62,61] [33,61] 0 0 [] 0 0 [] 0)))])) .fail) .fail))))) .fail))))) .fail
theorem qGh (v:List UInt8):(tcall tbT qoF qvF Tryz.f141 [.str v]).flat=qep v:=by kernel_rfl
noncomputable def qbQ (v:List UInt8):Option PV:=(qep v).run
noncomputable def qb5 (v:List UInt8):Int:=(gInt (gAt (gCs (gAt (gCs (gVal (qbQ v))) 0)) 0))
noncomputable def qa9 (v:List UInt8):List UInt8:=(gStr (gAt (gCs (gAt (gCs (gVal (qbQ v))) 0)) 1))
noncomputable def qbH (v:List UInt8):Int:=(gInt (gAt (gCs (gAt (gCs (gVal (qbQ v))) 0)) 2))
noncomputable def qbF (v:List UInt8):Int:=(gInt (gAt (gCs (gAt (gCs (gVal (qbQ v))) 0)) 3))
noncomputable def qbK (v:List UInt8):List UInt8:=(gStr (gAt (gCs (gAt (gCs (gVal (qbQ v))) 0)) 4))
noncomputable def qqz (v:List UInt8):Int:=(gInt (gAt (gCs (gAt (gCs (gVal (qbQ v))) 0)) 5))
noncomputable def qeL (v:List UInt8):Bool:=(qcc (gAt (gCs (gVal (qbQ v))) 1))
noncomputable def qhS (v:List UInt8):Bool:=isW (qbQ v) (.tup [.agg [.int .i64 (qb5 v),.str (qa9 v),.int .i64 (qbH v),.int .i64 (qbF v),.str (qbK v),.int .i64 (qqz v)],.bool (qeL v)])
noncomputable def qvI:List PV→Tr PV | [.str v]=>.ite (qhS v) (.ret (.tup [.agg [.int .i64 (qb5 v),.str (qa9 v),.int .i64 (qbH v),.int .i64 (qbF v),.str (qbK v),.int .i64 (qqz v)],.bool (qeL v)])) (.fail) | _=>.fail
theorem qzC (gl:Gl) (hg:GlLex gl):SimP Tryz.prog gl 141 fun args=>(qvI args).run:=by
 refine SimP.of_flat (G:=qoF) (L:=qvF) qaj (qtg gl hg ) qah  Tryz.func141 rfl (by rfl) (by kernel_rfl) (qbt (L:=lps qvF) [(16,qmk)] (by kernel_rfl) (List.forall_mem_cons.2 ⟨fun fr σ e fr' σ' h=>quh gl hg  fr σ e fr' σ' h,(List.forall_mem_nil _)⟩)) ?_
 intro args x h
 unfold qvI at h
 split at h
 ·exact (congrArg Tr.run (qGh _)).trans (qai h fun h=>by cases h)
 ·cases h
end Go.Pv
set_option maxHeartbeats 4000000
set_option maxRecDepth 200000
set_option linter.unusedSimpArgs false
set_option linter.unusedVariables false
namespace Go.Pv
open Go Go.Proofs Go.RowKit
def smI (c:Int):Bool:=decide (97≤c) && decide (c≤122)
def grI (c:Int):Bool:=decide (65≤c) && decide (c≤90)
def dgI (c:Int):Bool:=decide (48≤c) && decide (c≤57)
def inI (c:Int):Bool:=smI c || grI c || dgI c || decide (c=95)
theorem qwh (b:UInt8):smI (b.toNat:Int)=qeN b:=by unfold smI qeN; congr 1 <;> (apply decide_eq_decide.2; omega)
theorem qv9 (b:UInt8):grI (b.toNat:Int)=qhn b:=by unfold grI qhn; congr 1 <;> (apply decide_eq_decide.2; omega)
theorem qdu (b:UInt8):dgI (b.toNat:Int)=qaW b:=by unfold dgI qaW; congr 1 <;> (apply decide_eq_decide.2; omega)
theorem qkg (b:UInt8):inI (b.toNat:Int)=innB b:=by
 unfold inI innB
 rw [qwh,qv9,qdu]
 congr 1
 apply decide_eq_decide.2
 omega
theorem qpB (c:Int):qnc c=some (.bool (dgI c)):=by
 unfold qnc qog dgI
 by_cases h:(48:Int)≤c <;> simp [h]
@[simp] theorem qdD (c:Int):qa1 c=true:=by simp [qa1,qa6,qpB]
@[simp] theorem ldigit_v (c:Int):qa6 c=dgI c:=by simp [qa6,qpB]
theorem ql2 (c:Int):qh0 c=some (.bool (inI c)):=by
 unfold qh0 qi2 inI smI grI
 by_cases h1:(97:Int)≤c <;> by_cases h2:c≤122 <;> by_cases h3:(65:Int)≤c <;> by_cases h4:c≤90 <;> by_cases h5:c=95 <;> simp [h1,h2,h3,h4,h5]
@[simp] theorem lfollows_is (c:Int):qbB c=true:=by simp [qbB,qbO,ql2]
@[simp] theorem lfollows_v (c:Int):qbO c=inI c:=by simp [qbO,ql2]
theorem qy5 (s:List UInt8) (hs:s.length < 9223372036854775807):∀ (m i:Nat),i+m=s.length→qeP [.str s,.fn 155 [],.int .i64 (i:Nat)] ⟨[],[],[]⟩=some (.exit 0,[.int .i64 ((i+runL innB (s.drop i):Nat):Int)],⟨[],[],[]⟩):=by
 intro m
 induction m with
 | zero =>
  intro i hi
  rw [qzo,List.drop_eq_nil_of_le (by omega)]
  have:¬ (i:Int) < s.length:=by omega
  simp [qjX,runL,this]
 | succ m ih =>
  intro i hi
  obtain ⟨b,hb⟩:=qen (l:=s) (i:=i) (by omega)
  have hbe:=(List.getElem?_eq_some_iff.1 hb).2
  have w:=qbP (i:=i) (by omega)
  have hlt:i < s.length:=by omega
  have h1:=ih (i+1) (by omega)
  rw [qbs hb,qzo]
  cases hc:innB b with
  | true =>
   have e:i+(runL innB (s.drop (i+1))+1)=i+1+runL innB (s.drop (i+1)):=by omega
   simp only [runL,hc,if_true,e]
   rw [← h1]
   simp [qjX,hlt,hbe,qkg,hc,w]
  | false=>simp [qjX,hlt,hbe,qkg,hc,runL]
theorem qxY (s:List UInt8) (hs:s.length < 9223372036854775807):∀ (m i:Nat),i+m=s.length→qeP [.str s,.fn 156 [],.int .i64 (i:Nat)] ⟨[],[],[]⟩=some (.exit 0,[.int .i64 ((i+runL qaW (s.drop i):Nat):Int)],⟨[],[],[]⟩):=by
 intro m
 induction m with
 | zero =>
  intro i hi
  rw [qv8,List.drop_eq_nil_of_le (by omega)]
  have:¬ (i:Int) < s.length:=by omega
  simp [qhj,runL,this]
 | succ m ih =>
  intro i hi
  obtain ⟨b,hb⟩:=qen (l:=s) (i:=i) (by omega)
  have hbe:=(List.getElem?_eq_some_iff.1 hb).2
  have w:=qbP (i:=i) (by omega)
  have hlt:i < s.length:=by omega
  have h1:=ih (i+1) (by omega)
  rw [qbs hb,qv8]
  cases hc:qaW b with
  | true =>
   have e:i+(runL qaW (s.drop (i+1))+1)=i+1+runL qaW (s.drop (i+1)):=by omega
   simp only [runL,hc,if_true,e]
   rw [← h1]
   simp [qhj,hlt,hbe,qdu,hc,w]
  | false=>simp [qhj,hlt,hbe,qdu,hc,runL]
theorem qxk {s:List UInt8} (hs:s.length < 9223372036854775807):qw3 s=some (.int .i64 (runL innB s:Nat)):=by
 have h:=qy5 s hs s.length 0 (by omega)
 simp at h
 unfold qw3 qtW
 simp [qoV,qrc,qun,h]
theorem qFS {s:List UInt8} (hs:s.length < 9223372036854775807):qmh s=true:=by simp [qmh,qkH,qxk hs]
theorem qIe {s:List UInt8} (hs:s.length < 9223372036854775807):qkH s=(runL innB s:Nat):=by simp [qkH,qxk hs]
theorem qtM {s:List UInt8} (hs:s.length < 9223372036854775807):qrz s=some (.int .i64 (runL qaW s:Nat)):=by
 have h:=qxY s hs s.length 0 (by omega)
 simp at h
 unfold qrz qrO
 simp [qlV,qmg,qqZ,h]
theorem qDP {s:List UInt8} (hs:s.length < 9223372036854775807):qby s=true:=by simp [qby,qaf,qtM hs]
theorem qFR {s:List UInt8} (hs:s.length < 9223372036854775807):qaf s=(runL qaW s:Nat):=by simp [qaf,qtM hs]
def qOut (i n:Nat):Option (PExit × List PV × Store):=if n=0 then some (.exit 0,[],⟨[],[],[]⟩) else some (.ret,[.int .i64 ((i+n:Nat):Int)],⟨[],[],[]⟩)
theorem qiJ (i n:Nat):qOut i (incN n)=qOut (i+1) n:=by
 unfold qOut incN
 by_cases h:n=0
 ·simp [h]
 ·simp [h]; omega
theorem qsE (s:List UInt8) (hs:s.length < 9223372036854775800):∀ (m i:Nat),s.length≤i+m→i≤s.length+1→qct [.str s,.int .i64 (i:Nat)] ⟨[],[],[]⟩=qOut i (quoE false (s.drop i)):=by
 have hend:∀ i:Nat,s.length≤i→qct [.str s,.int .i64 (i:Nat)] ⟨[],[],[]⟩=some (.exit 0,[],⟨[],[],[]⟩):=fun i hi=>by
  rw [qp8]
  have:¬ (i:Int) < s.length:=by omega
  simp [qdP,this]
 intro m
 induction m with
 | zero =>
  intro i hi _
  rw [hend i (by omega),List.drop_eq_nil_of_le (by omega)]
  simp [quoE,qOut]
 | succ m ih =>
  intro i hi hi2
  by_cases hlt:i < s.length
  ·obtain ⟨b,hb⟩:=qen (l:=s) (i:=i) hlt
   have hbe:=(List.getElem?_eq_some_iff.1 hb).2
   have w:=qbP (i:=i) (by omega)
   have w2:=qbP (i:=i+1) (by omega)
   have h1:=ih (i+1) (by omega) (by omega)
   rw [qbs hb,qp8]
   simp only [quoE]
   by_cases hq:b.toNat=34
   ·rw [if_pos hq]
    simp [qdP,hlt,hbe,hq,w,qOut]
   ·rw [if_neg hq]
    have hq':¬ ((b.toNat:Int)=34):=by omega
    by_cases hp:b.toNat=92
    ·rw [if_pos hp,qiJ]
     have e1:qct [.str s,.int .i64 (iAdd .i64 (iAdd .i64 (i:Int) 1) 1)] ⟨[],[],[]⟩=qOut (i+1) (quoE true (s.drop (i+1))):=by
      rw [w,w2]
      by_cases hl2:i+1 < s.length
      ·obtain ⟨c,hc⟩:=qen (l:=s) (i:=i+1) hl2
       rw [qbs hc]
       simp only [quoE]
       rw [qiJ]
       exact ih (i+1+1) (by omega) (by omega)
      ·rw [hend (i+1+1) (by omega),List.drop_eq_nil_of_le (by omega)]
       simp [quoE,qOut]
     rw [← e1]
     have t1:iLt (i:Int) (sLen s)=true:=by simp; omega
     have t2:qap s (i:Int)=true:=by simp; omega
     have t3:sAt s (i:Int)=92:=by simp [hbe,hlt,hp]
     simp only [qdP,t1,t2,t3]
     simp
    ·have hp':¬ ((b.toNat:Int)=92):=by omega
     rw [if_neg hp,qiJ,← h1,← w]
     have t1:iLt (i:Int) (sLen s)=true:=by simp; omega
     have t2:qap s (i:Int)=true:=by simp; omega
     have t3:sAt s (i:Int)=b.toNat:=by simp [hbe,hlt]
     simp only [qdP,t1,t2,t3]
     simp [hq',hp']
  ·rw [hend i (by omega),List.drop_eq_nil_of_le (by omega)]
   simp [quoE,qOut]
theorem qoa {c:UInt8} {t:List UInt8} (hs:(c :: t).length < 9223372036854775800):qjY (c :: t)=some (.int .i64 (if quoL t=0 then 0 else ((quoL t+1:Nat):Int))):=by
 have h:=qsE (c :: t) hs t.length 1 (by simp; omega) (by simp)
 simp only [List.drop_succ_cons,List.drop_zero] at h
 unfold qjY qld
 unfold qOut at h
 rw [show quoE false t=quoL t from rfl] at h
 by_cases h0:quoL t=0
 ·rw [if_pos h0] at h ⊢
  have h':qct [.str (c :: t),.int .i64 1] ⟨[],[],[]⟩=some (.exit 0,[],⟨[],[],[]⟩):=h
  simp [qfp,qfy,qeg,qfR,h']
 ·rw [if_neg h0] at h ⊢
  have h':qct [.str (c :: t),.int .i64 1] ⟨[],[],[]⟩=some (.ret,[.int .i64 ((1+quoL t:Nat):Int)],⟨[],[],[]⟩):=h
  simp [qfp,qfy,qeg,qfR,h']
  omega
theorem qzL:∀ t:List UInt8,(Lib.indexByte t 10=-1∧gapL true t=t.length)∨∃ n:Nat,Lib.indexByte t 10=n∧n < t.length∧gapL true t=n+gapL false (t.drop n)
 | []=>.inl ⟨rfl,rfl⟩
 | b :: u=>by
  by_cases hb:b=10
  ·subst hb
   refine .inr ⟨0,rfl,by simp,?_⟩
   simp [gapL,blB]
  ·have hb':(b == 10)=false:=by simpa using hb
   have hbn:b.toNat≠10:=fun h=>hb (UInt8.toNat.inj h)
   have e1:gapL true (b :: u)=gapL true u+1:=by simp [gapL,hbn]
   rcases qzL u with ⟨h1,h2⟩ | ⟨n,h1,h2,h3⟩
   ·refine .inl ⟨?_,by rw [e1,h2]; rfl⟩
    simp [Lib.indexByte,hb',h1]
   ·refine .inr ⟨n+1,?_,by simpa using h2,?_⟩
    ·have:((n:Int) == -1)=false:=by simp
     simp [Lib.indexByte,hb',h1,this]
    ·rw [e1,h3]
     simp only [List.drop_succ_cons]
     omega
theorem qzP {b:UInt8} (h:blB b=true) (t:List UInt8):gapL false (b :: t)=gapL false t+1:=by
 have:b.toNat≠37:=by
  intro e
  simp [blB,e] at h
 simp [gapL,h,this]
theorem qAD (s:List UInt8) (hs:s.length < 9223372036854775800):∀ (m i:Nat),i+m=s.length→∃ e,(e=PExit.ret∨e=.exit 0)∧qjz [.str s,.int .i64 (i:Nat)] ⟨[],[],[]⟩=some (e,[.int .i64 ((i+gapL false (s.drop i):Nat):Int)],⟨[],[],[]⟩):=by
 intro m
 induction m using Nat.strongRecOn with
 | _ m ih =>
  intro i hi
  by_cases hlt:i < s.length
  ·obtain ⟨b,hb⟩:=qen (l:=s) (i:=i) hlt
   have hbe:=(List.getElem?_eq_some_iff.1 hb).2
   have w:=qbP (i:=i) (by omega)
   rw [qbs hb,qzZ]
   by_cases hbl:blB b=true
   ·obtain ⟨e,he,hv⟩:=ih (m - 1) (by omega) (i+1) (by omega)
    refine ⟨e,he,?_⟩
    rw [qzP hbl]
    have hv':qjz [.str s,.int .i64 (iAdd .i64 (i:Int) 1)] ⟨[],[],[]⟩=some (e,[.int .i64 ((i+(gapL false (s.drop (i+1))+1):Nat):Int)],⟨[],[],[]⟩):=by
     rw [w,hv,show i+1+gapL false (s.drop (i+1))=i+(gapL false (s.drop (i+1))+1) from by omega]
    rw [← hv']
    have hbl2:b.toNat=32∨b.toNat=9∨b.toNat=10∨b.toNat=13:=by simpa [blB,or_assoc] using hbl
    rcases hbl2 with h | h | h | h <;> simp [qgY,hlt,hbe,h]
   ·have hbl2:¬ (b.toNat=32∨b.toNat=9∨b.toNat=10∨b.toNat=13):=by simpa [blB,or_assoc] using hbl
    have n1:¬ ((b.toNat:Int)=32):=by omega
    have n2:¬ ((b.toNat:Int)=9):=by omega
    have n3:¬ ((b.toNat:Int)=10):=by omega
    have n4:¬ ((b.toNat:Int)=13):=by omega
    by_cases h37:b.toNat=37
    ·have e1:gapL false (b :: s.drop (i+1))=gapL true (s.drop (i+1))+1:=by simp [gapL,h37]
     have e2:sSub s (nNat (i:Int)) (nLen s)=b :: s.drop (i+1):=by
      simp only [qsh,qqT,qzW,Int.toNat_natCast,List.take_length]
      exact qbs hb
     have hb10:(b == 10)=false:=by
      cases hq:b == 10 with
      | false=>rfl
      | true=>simp at hq; subst hq; simp at h37
     have e3:idxV (b :: s.drop (i+1)) 10=if Lib.indexByte (s.drop (i+1)) 10 == -1 then -1 else Lib.indexByte (s.drop (i+1)) 10+1:=by
      show Lib.indexByte (b :: s.drop (i+1)) 10=_
      simp only [Lib.indexByte,hb10,Bool.false_eq_true,if_false]
     rw [e1]
     rcases qzL (s.drop (i+1)) with ⟨h1,h2⟩ | ⟨n,h1,h2,h3⟩
     ·refine ⟨.ret,.inl rfl,?_⟩
      have e4:idxV (b :: s.drop (i+1)) 10=-1:=by rw [e3,h1]; rfl
      have e5:i+(gapL true (s.drop (i+1))+1)=s.length:=by rw [h2]; simp; omega
      rw [e5]
      have t1:iLt (i:Int) (sLen s)=true:=by simp; omega
      have t2:qap s (i:Int)=true:=by simp; omega
      have t3:sAt s (i:Int)=37:=by simp [hbe,hlt,h37]
      have t4:qaw (qal (i:Int)) true (nNat (i:Int)) (nLen s) (nLen s)=true:=by simp; omega
      simp only [qgY,e2,e4,t1,t2,t3,t4]
      simp
     ·have e4:idxV (b :: s.drop (i+1)) 10=((n+1:Nat):Int):=by
       rw [e3,h1]
       have:((n:Int) == -1)=false:=by simp
       rw [this]
       simp
      have hn:n < s.length - (i+1):=by simpa using h2
      obtain ⟨e,he,hv⟩:=ih (m - (n+1)) (by omega) (i+(n+1)) (by omega)
      refine ⟨e,he,?_⟩
      have w2:iAdd .i64 (i:Int) ((n+1:Nat):Int)=((i+(n+1):Nat):Int):=qa2 (by omega)
      have e6:i+(n+1)+gapL false (s.drop (i+(n+1)))=i+(gapL true (s.drop (i+1))+1):=by
       rw [h3,List.drop_drop,show i+1+n=i+(n+1) from by omega]
       omega
      rw [e6] at hv
      have hge:¬ ((n+1:Nat):Int) < 0:=by omega
      have t1:iLt (i:Int) (sLen s)=true:=by simp; omega
      have t2:qap s (i:Int)=true:=by simp; omega
      have t3:sAt s (i:Int)=37:=by simp [hbe,hlt,h37]
      have t5:iLt ((n+1:Nat):Int) 0=false:=by simp; omega
      have t4:qaw (qal (i:Int)) true (nNat (i:Int)) (nLen s) (nLen s)=true:=by simp; omega
      simp only [qgY,e2,e4,w2,t1,t2,t3,t4,t5]
      simpa using hv
    ·refine ⟨.ret,.inl rfl,?_⟩
     have n5:¬ ((b.toNat:Int)=37):=by omega
     have e1:gapL false (b :: s.drop (i+1))=0:=by
      have:blB b=false:=by simpa using hbl
      simp [gapL,this,h37]
     rw [e1]
     simp [qgY,hlt,hbe,n1,n2,n3,n4,n5]
  ·refine ⟨.exit 0,.inr rfl,?_⟩
   rw [qzZ,List.drop_eq_nil_of_le (by omega)]
   have:¬ (i:Int) < s.length:=by omega
   simp [qgY,gapL,this]
theorem qwq {s:List UInt8} (hs:s.length < 9223372036854775800):qwE s=some (.int .i64 (gapL false s:Nat)):=by
 obtain ⟨e,he,h⟩:=qAD s hs s.length 0 (by omega)
 simp at h
 unfold qwE quw
 rcases he with rfl | rfl <;> simp [qov,qol,qkj,qgH,qn9,h]
theorem qy8 {s:List UInt8} (hs:s.length < 9223372036854775800):qex s=true:=by simp [qex,qa5,qwq hs]
theorem qEI {s:List UInt8} (hs:s.length < 9223372036854775800):qa5 s=(gapL false s:Nat):=by simp [qa5,qwq hs]
theorem qtG {s:List UInt8} (hs:s.length < 9223372036854775807) (k:Int):qfF s k=some (.tup [.agg [.int .i64 k,.str (s.take (runL innB s)),.int .i64 0,.int .i64 0,.str [],.int .i64 0],.bool (decide (runL innB s≤64))]):=by
 unfold qfF qq7
 have h:=qjs innB s
 have e:iLe (runL innB s:Nat) 64=decide (runL innB s≤64):=by simp; omega
 rw [qIe hs,qFS hs,e]
 have t:qaw true (qal ((runL innB s:Nat):Int)) 0 (nNat ((runL innB s:Nat):Int)) (nLen s)=true:=by simp; omega
 rw [t]
 simp
theorem qxq {s:List UInt8} (hs:s.length < 9223372036854775807) (k:Int):qdo s k=true:=by simp [qdo,qfg,qeX,qdy,qdq,qdE,qdA,qe1,qtG hs]
def wTup (k:Int) (x:List UInt8) (v:Vl) (p:Int) (b:Bool):PV:=.tup [.agg [.int .i64 k,.str x,.int .i64 v.1,.int .i64 v.2.1,.str v.2.2,.int .i64 p],.bool b]
theorem qCo {s:List UInt8} (hs:s.length < 9223372036854775807) (k:Int):(PV.tup [.agg [.int .i64 (qfg s k),.str (qeX s k),.int .i64 (qdy s k),.int .i64 (qdq s k),.str (qdE s k),.int .i64 (qdA s k)],.bool (qe1 s k)])=wTup k (s.take (runL innB s)) (0,0,[]) 0 (decide (runL innB s≤64)):=by
 simp [wTup,qfg,qeX,qdy,qdq,qdE,qdA,qe1,qtG hs]
theorem qnD {s:List UInt8} (hs:s.length≤140737488355328) (k:Int):qc6 s k=some (wTup k s (kRd s,nRd s,sRd s) 0 (decide (eRd s=0))):=by
 unfold qc6 qlw wTup
 simp [hs]
theorem qlq {s:List UInt8} (hs:s.length≤140737488355328) (k:Int):qao s k=true:=by simp [qao,qaz,qaA,qar,qat,qas,qaq,qay,qnD hs,wTup]
theorem qsU {s:List UInt8} (hs:s.length≤140737488355328) (k:Int):(PV.tup [.agg [.int .i64 (qaz s k),.str (qaA s k),.int .i64 (qar s k),.int .i64 (qat s k),.str (qas s k),.int .i64 (qaq s k)],.bool (qay s k)])=wTup k s (kRd s,nRd s,sRd s) 0 (decide (eRd s=0)):=by
 simp [wTup,qaz,qaA,qar,qat,qas,qaq,qay,qnD hs]
theorem qBx (c:UInt8) (t:List UInt8) (a b:UInt8):qdp (c :: t) [a,b]=(decide (c=a) && hdIs (fun d=>decide (d=b)) t):=by
 unfold qdp
 cases t with
 | nil=>simp [hdIs]
 | cons d u=>simp [hdIs,Bool.decide_and]
def wst:Store:=⟨[[.int .i64 0,.str [],.int .i64 0,.int .i64 0,.str [],.int .i64 0]],[],[120]⟩
theorem qH5 (c:UInt8) (t:List UInt8):hdIs (twoB c) t=(qdp (c :: t) [58,45] || qdp (c :: t) [60,61] || qdp (c :: t) [62,61] || qdp (c :: t) [33,61]):=by
 simp only [qBx]
 cases t with
 | nil=>simp [hdIs]
 | cons d u =>
  simp only [hdIs,twoB]
  simp only [← UInt8.toNat_inj]
  simp [Bool.decide_and]
theorem qh5 {s p:List UInt8} (h:qdp s p=true) (hp:p.length=2):s.take 2=p:=by
 simp [qdp] at h
 rw [← hp]
 exact h.2
theorem quF (c:UInt8) (t:List UInt8) (n:Int):qiE [.str (c :: t),.ptr 0 0,.int .u8 n,.agg [.str [58,45],.str [60,61],.str [62,61],.str [33,61]],.int .i64 0] wst =
  if hdIs (twoB c) t then some (.ret,[.ptr 0 0,.bool true],⟨[[.int .i64 6,.str ((c :: t).take 2),.int .i64 0,.int .i64 0,.str [],.int .i64 0]],[],[120]⟩)
  else some (.exit 1,[.str (c :: t),.ptr 0 0,.int .u8 n],wst):=by
 have i1:iAdd .i64 0 1=1:=by decide
 have i2:iAdd .i64 1 1=2:=by decide
 have i3:iAdd .i64 2 1=3:=by decide
 have i4:iAdd .i64 3 1=4:=by decide
 unfold wst
 rw [qH5]
 rw [qkK]
 cases h1:qdp (c :: t) [58,45] with
 | true=>have q:=qh5 h1 rfl; simp [qbV,h1]; simpa using q.symm
 | false =>
  have e1:(qbV (c :: t) n [58,45] [60,61] [62,61] [33,61] 0 0 [] 0 0 [] 0).run=some (.next [.str (c :: t),.ptr 0 0,.int .u8 n,.agg [.str [58,45],.str [60,61],.str [62,61],.str [33,61]],.int .i64 1] ⟨[[.int .i64 0,.str [],.int .i64 0,.int .i64 0,.str [],.int .i64 0]],[],[120]⟩):=by simp [qbV,h1,i1]
  rw [e1,qil,qkK]
  cases h2:qdp (c :: t) [60,61] with
  | true=>have q:=qh5 h2 rfl; simp [qbV,h2]; simpa using q.symm
  | false =>
   have e2:(qbV (c :: t) n [58,45] [60,61] [62,61] [33,61] 1 0 [] 0 0 [] 0).run=some (.next [.str (c :: t),.ptr 0 0,.int .u8 n,.agg [.str [58,45],.str [60,61],.str [62,61],.str [33,61]],.int .i64 2] ⟨[[.int .i64 0,.str [],.int .i64 0,.int .i64 0,.str [],.int .i64 0]],[],[120]⟩):=by simp [qbV,h2,i2]
   rw [e2,qil,qkK]
   cases h3:qdp (c :: t) [62,61] with
   | true=>have q:=qh5 h3 rfl; simp [qbV,h3]; simpa using q.symm
   | false =>
    have e3:(qbV (c :: t) n [58,45] [60,61] [62,61] [33,61] 2 0 [] 0 0 [] 0).run=some (.next [.str (c :: t),.ptr 0 0,.int .u8 n,.agg [.str [58,45],.str [60,61],.str [62,61],.str [33,61]],.int .i64 3] ⟨[[.int .i64 0,.str [],.int .i64 0,.int .i64 0,.str [],.int .i64 0]],[],[120]⟩):=by simp [qbV,h3,i3]
    rw [e3,qil,qkK]
    cases h4:qdp (c :: t) [33,61] with
    | true=>have q:=qh5 h4 rfl; simp [qbV,h4]; simpa using q.symm
    | false =>
     have e4:(qbV (c :: t) n [58,45] [60,61] [62,61] [33,61] 3 0 [] 0 0 [] 0).run=some (.next [.str (c :: t),.ptr 0 0,.int .u8 n,.agg [.str [58,45],.str [60,61],.str [62,61],.str [33,61]],.int .i64 4] ⟨[[.int .i64 0,.str [],.int .i64 0,.int .i64 0,.str [],.int .i64 0]],[],[120]⟩):=by simp [qbV,h4,i4]
     rw [e4,qil,qkK]
     simp [qbV]
theorem qzu (c:UInt8):∀ l:List UInt8,0≤Lib.indexByte l c↔c ∈ l
 | []=>by simp [Lib.indexByte]
 | b :: l=>by
  have h1:=qzu c l
  have h2:=Lib.indexByte_ge l c
  unfold Lib.indexByte
  by_cases hb:b=c
  ·subst hb; simp
  ·have hb':(b == c)=false:=by simpa using hb
   have hc:¬ c=b:=fun e=>hb e.symm
   rw [hb']
   by_cases h3:Lib.indexByte l c=-1
   ·have:¬ c ∈ l:=fun hm=>by have:=h1.2 hm; omega
    simp [h3,hc,this]
   ·have:c ∈ l:=h1.1 (by omega)
    simp [h3,this]
    omega
theorem qDy (c:UInt8):iLe 0 (idxV [40,41,44,46,43,45,61,58,60,62] (c.toNat:Int))=qiL c:=by
 have e:idxV [40,41,44,46,43,45,61,58,60,62] (c.toNat:Int)=Lib.indexByte [40,41,44,46,43,45,61,58,60,62] c:=by
  unfold idxV
  congr 1
  simp
 rw [qzV]
 have h:=qzu c [40,41,44,46,43,45,61,58,60,62]
 have h':decide (0≤Lib.indexByte [40,41,44,46,43,45,61,58,60,62] c)=decide (c ∈ [40,41,44,46,43,45,61,58,60,62]):=decide_eq_decide.2 h
 rw [e,h']
 simp only [List.mem_cons,List.not_mem_nil,or_false,← UInt8.toNat_inj,qiL,List.contains,List.elem_eq_mem]
 simp
theorem qtX {c:UInt8} {t:List UInt8} (hs:(c :: t).length≤140737488355328) (h:qeN c=true):qbQ (c :: t)=some (wTup 1 ((c :: t).take (runL innB (c :: t))) (0,0,[]) 0 (decide (runL innB (c :: t)≤64))):=by
 have hs':(c :: t).length < 9223372036854775807:=by omega
 have h1:97≤c.toNat∧c.toNat≤122:=by simpa [qeN] using h
 have g1:(97:Int)≤c.toNat:=by omega
 have g2:(c.toNat:Int)≤122:=by omega
 rw [← qCo hs']
 unfold qbQ qep
 cases t <;> simp [g1,g2,qxq hs']
theorem qvn {c:UInt8} {t:List UInt8} (hs:(c :: t).length≤140737488355328) (h:qhn c=true):qbQ (c :: t)=some (wTup 2 ((c :: t).take (runL innB (c :: t))) (0,0,[]) 0 (decide (runL innB (c :: t)≤64))):=by
 have hs':(c :: t).length < 9223372036854775807:=by omega
 have h1:65≤c.toNat∧c.toNat≤90:=by simpa [qhn] using h
 have g1:¬ (97:Int)≤c.toNat:=by omega
 have g2:(65:Int)≤c.toNat:=by omega
 have g3:(c.toNat:Int)≤90:=by omega
 rw [← qCo hs']
 unfold qbQ qep
 cases t <;> simp [g1,g2,g3,qxq hs']
theorem qBC {c:UInt8} {t:List UInt8} (hs:(c :: t).length≤140737488355328) (h:c.toNat=95):qbQ (c :: t)=some (wTup 3 [95] (0,0,[]) 0 (!hdIs innB t)):=by
 unfold qbQ qep
 cases t with
 | nil =>
  have e:inI 0=false:=by decide
  simp [h,hdIs,wTup,e]
 | cons d u =>
  have g:iLt 1 (sLen (c :: d :: u))=true:=by simp; omega
  rw [g]
  simp [h,hdIs,qkg,wTup]
def dgW (s:List UInt8):PV:=wTup 4 (s.take (runL qaW (s.drop 1)+1)) (kRd (s.take (runL qaW (s.drop 1)+1)),nRd (s.take (runL qaW (s.drop 1)+1)),sRd (s.take (runL qaW (s.drop 1)+1))) 0 (decide (eRd (s.take (runL qaW (s.drop 1)+1))=0))
theorem qzJ {c : UInt8} {t : List UInt8} (hs : (c :: t).length ≤ 140737488355328) : (Tr.ite (qaw (qal 1) true (nNat 1) (nLen (c :: t)) (nLen (c :: t)))
          (Tr.ite (qby (sSub (c :: t) (nNat 1) (nLen (c :: t))))
            (Tr.ite (qaw true (qal (iAdd .i64 1 (qaf (sSub (c :: t) (nNat 1) (nLen (c :: t)))))) 0 (nNat (iAdd .i64 1 (qaf (sSub (c :: t) (nNat 1) (nLen (c :: t)))))) (nLen (c :: t)))
              (Tr.ite (qao (sSub (c :: t) 0 (nNat (iAdd .i64 1 (qaf (sSub (c :: t) (nNat 1) (nLen (c :: t))))))) 4)
                (Tr.ret (PV.tup [PV.agg [PV.int .i64 (qaz (sSub (c :: t) 0 (nNat (iAdd .i64 1 (qaf (sSub (c :: t) (nNat 1) (nLen (c :: t))))))) 4), PV.str (qaA (sSub (c :: t) 0 (nNat (iAdd .i64 1 (qaf (sSub (c :: t) (nNat 1) (nLen (c :: t))))))) 4), PV.int .i64 (qar (sSub (c :: t) 0 (nNat (iAdd .i64 1 (qaf (sSub (c :: t) (nNat 1) (nLen (c :: t))))))) 4), PV.int .i64 (qat (sSub (c :: t) 0 (nNat (iAdd .i64 1 (qaf (sSub (c :: t) (nNat 1) (nLen (c :: t))))))) 4), PV.str (qas (sSub (c :: t) 0 (nNat (iAdd .i64 1 (qaf (sSub (c :: t) (nNat 1) (nLen (c :: t))))))) 4), PV.int .i64 (qaq (sSub (c :: t) 0 (nNat (iAdd .i64 1 (qaf (sSub (c :: t) (nNat 1) (nLen (c :: t))))))) 4)], PV.bool (qay (sSub (c :: t) 0 (nNat (iAdd .i64 1 (qaf (sSub (c :: t) (nNat 1) (nLen (c :: t))))))) 4)]))
                Tr.fail) Tr.fail) Tr.fail) Tr.fail).run = some (dgW (c :: t)) := by
  have e0 : sSub (c :: t) (nNat 1) (nLen (c :: t)) = t := by simp
  have hl : t.length + 1 ≤ 140737488355328 := by simpa using hs
  have hr := qjs qaW t
  rw [e0, qDP (by omega), qFR (by omega)]
  have e1 : iAdd .i64 1 ((runL qaW t : Nat) : Int) = ((runL qaW t + 1 : Nat) : Int) := by
    have : iAdd .i64 1 ((runL qaW t : Nat) : Int) = (1 : Int) + (runL qaW t : Nat) := qa2 (by omega)
    rw [this]; omega
  rw [e1]
  have e2 : sSub (c :: t) 0 (nNat ((runL qaW t + 1 : Nat) : Int)) = (c :: t).take (runL qaW t + 1) := by simp [-List.take_succ_cons]
  rw [e2]
  have hl2 : ((c :: t).take (runL qaW t + 1)).length ≤ 140737488355328 := by rw [List.length_take]; omega
  have t1 : qaw (qal 1) true (nNat 1) (nLen (c :: t)) (nLen (c :: t)) = true := by simp
  have t2 : qaw true (qal ((runL qaW t + 1 : Nat) : Int)) 0 (nNat ((runL qaW t + 1 : Nat) : Int)) (nLen (c :: t)) = true := by simp; omega
  rw [t1, t2, qlq hl2, qsU hl2]
  rfl
theorem qDb {c:UInt8} {t:List UInt8} (hs:(c :: t).length≤140737488355328) (h:qaW c=true):qbQ (c :: t)=some (dgW (c :: t)):=by
 have h1:48≤c.toNat∧c.toNat≤57:=by simpa [qaW] using h
 have f0:qap (c :: t) 0=true:=by simp
 have f1:iLe 97 (sAt (c :: t) 0)=false:=by simp; omega
 have f3:iLe 65 (sAt (c :: t) 0)=false:=by simp; omega
 have f5:iEq (sAt (c :: t) 0) 95=false:=by simp; omega
 have f6:qa6 (sAt (c :: t) 0)=true:=by simp [qdu,h]
 rw [← qzJ hs]
 unfold qbQ qep
 cases t with
 | nil =>
  have g:iLt 1 (sLen [c])=false:=by simp
  rw [f0,g,f1,f3,f5,f6,qdD]
  rfl
 | cons d u =>
  have g:iLt 1 (sLen (c :: d :: u))=true:=by simp; omega
  have g2:qap (c :: d :: u) 1=true:=by simp
  rw [f0,g,g2,f1,f3,f5,f6,qdD]
  rfl
theorem qy1 {c d:UInt8} {u:List UInt8} (hs:(c :: d :: u).length≤140737488355328) (h:c.toNat=45) (hd:qaW d=true):qbQ (c :: d :: u)=some (dgW (c :: d :: u)):=by
 have f0:qap (c :: d :: u) 0=true:=by simp
 have f1:iLe 97 (sAt (c :: d :: u) 0)=false:=by simp; omega
 have f3:iLe 65 (sAt (c :: d :: u) 0)=false:=by simp; omega
 have f5:iEq (sAt (c :: d :: u) 0) 95=false:=by simp; omega
 have f6:qa6 (sAt (c :: d :: u) 0)=false:=by simp [dgI,h]
 have f7:iEq (sAt (c :: d :: u) 0) 45=true:=by simp; omega
 have f8:qa6 (sAt (c :: d :: u) 1)=true:=by simp [qdu,hd]
 rw [← qzJ hs]
 unfold qbQ qep
 have g:iLt 1 (sLen (c :: d :: u))=true:=by simp; omega
 have g2:qap (c :: d :: u) 1=true:=by simp
 rw [f0,g,g2,f1,f3,f5,f6,f7,f8,qdD,qdD]
 rfl
def symN (t:List UInt8):Nat:=if quoL t=0 then 0 else quoL t+1
def syW (s:List UInt8) (n:Nat):PV:=wTup 5 (s.take n) (kRd (s.take n),nRd (s.take n),sRd (s.take n)) 0 (decide (eRd (s.take n)=0))
theorem qAa {c:UInt8} {t:List UInt8} (hs:(c :: t).length≤140737488355328) (h:c.toNat=34):qbQ (c :: t)=some (syW (c :: t) (symN t)):=by
 have hq:qab (c :: t)=((symN t:Nat):Int):=by
  simp only [qab,qoa (c:=c) (t:=t) (by omega),qzc,qCS,symN]
  split <;> simp
 have hqi:qbf (c :: t)=true:=by
  simp only [qbf,qDw,qoa (c:=c) (t:=t) (by omega),hq,symN]
  split <;> simp
 have hle:symN t≤(c :: t).length:=by
  have:=qvB t
  unfold symN
  split <;> simp <;> omega
 have hl2:((c :: t).take (symN t)).length≤140737488355328:=by rw [List.length_take]; omega
 have f0:qap (c :: t) 0=true:=by simp
 have f1:iLe 97 (sAt (c :: t) 0)=false:=by simp; omega
 have f3:iLe 65 (sAt (c :: t) 0)=false:=by simp; omega
 have f5:iEq (sAt (c :: t) 0) 95=false:=by simp; omega
 have f6:qa6 (sAt (c :: t) 0)=false:=by simp [dgI,h]
 have f7:iEq (sAt (c :: t) 0) 45=false:=by simp; omega
 have f9:iEq (sAt (c :: t) 0) 34=true:=by simp; omega
 have e2:sSub (c :: t) 0 (nNat ((symN t:Nat):Int))=(c :: t).take (symN t):=by simp
 have t2:qaw true (qal ((symN t:Nat):Int)) 0 (nNat ((symN t:Nat):Int)) (nLen (c :: t))=true:=by simp at hle ⊢; omega
 have leaf:(PV.tup [PV.agg [PV.int .i64 (qaz ((c :: t).take (symN t)) 5),PV.str (qaA ((c :: t).take (symN t)) 5),PV.int .i64 (qar ((c :: t).take (symN t)) 5),PV.int .i64 (qat ((c :: t).take (symN t)) 5),PV.str (qas ((c :: t).take (symN t)) 5),PV.int .i64 (qaq ((c :: t).take (symN t)) 5)],PV.bool (qay ((c :: t).take (symN t)) 5)])=syW (c :: t) (symN t):=by rw [qsU hl2]; rfl
 rw [← leaf]
 unfold qbQ qep
 cases t with
 | nil =>
  have g:iLt 1 (sLen [c])=false:=by simp
  rw [f0,g,f1,f3,f5,f6,f7,f9,qdD,hqi,hq,t2,e2,qlq hl2]
  rfl
 | cons d u =>
  have g:iLt 1 (sLen (c :: d :: u))=true:=by simp; omega
  have g2:qap (c :: d :: u) 1=true:=by simp
  rw [f0,g,g2,f1,f3,f5,f6,f7,f9,qdD,hqi,hq,t2,e2,qlq hl2]
  rfl
def mkW (c:UInt8) (t:List UInt8):PV:=if hdIs (twoB c) t then wTup 6 ((c :: t).take 2) (0,0,[]) 0 true else wTup 6 [c] (0,0,[]) 0 (qiL c)
noncomputable def mkT (v:List UInt8):Tr PV:=(Tr.ite (qa8 v (sAt v 0) [58,45] [60,61] [62,61] [33,61] 0 0 [] 0 0 [] 0)
 (Tr.ret (PV.tup [PV.agg [PV.int .i64 (qbg v (sAt v 0) [58,45] [60,61] [62,61] [33,61] 0 0 [] 0 0 [] 0),PV.str (qbi v (sAt v 0) [58,45] [60,61] [62,61] [33,61] 0 0 [] 0 0 [] 0),PV.int .i64 (qaZ v (sAt v 0) [58,45] [60,61] [62,61] [33,61] 0 0 [] 0 0 [] 0),PV.int .i64 (qaY v (sAt v 0) [58,45] [60,61] [62,61] [33,61] 0 0 [] 0 0 [] 0),PV.str (qa0 v (sAt v 0) [58,45] [60,61] [62,61] [33,61] 0 0 [] 0 0 [] 0),PV.int .i64 (qaX v (sAt v 0) [58,45] [60,61] [62,61] [33,61] 0 0 [] 0 0 [] 0)],PV.bool (qbh v (sAt v 0) [58,45] [60,61] [62,61] [33,61] 0 0 [] 0 0 [] 0)]))
 (Tr.ite (qbn v (sAt v 0) [58,45] [60,61] [62,61] [33,61] 0 0 [] 0 0 [] 0)
  (Tr.ite (qaw true (qal 1) 0 (nNat 1) (nLen (qau v (sAt v 0) [58,45] [60,61] [62,61] [33,61] 0 0 [] 0 0 [] 0)))
   (Tr.ret (PV.tup [PV.agg [PV.int .i64 6,PV.str (sSub (qau v (sAt v 0) [58,45] [60,61] [62,61] [33,61] 0 0 [] 0 0 [] 0) 0 (nNat 1)),PV.int .i64 0,PV.int .i64 0,PV.str [],PV.int .i64 0],PV.bool (iLe 0 (idxV [40,41,44,46,43,45,61,58,60,62] (qbe v (sAt v 0) [58,45] [60,61] [62,61] [33,61] 0 0 [] 0 0 [] 0)))]))
   Tr.fail)
  Tr.fail))
theorem qGk (c:UInt8) (t:List UInt8):(mkT (c :: t)).run=some (mkW c t):=by
 have hL:=quF c t (sAt (c :: t) 0)
 unfold wst at hL
 have e2:sSub (c :: t) 0 (nNat 1)=[c]:=by simp
 have t2:qaw true (qal 1) 0 (nNat 1) (nLen (c :: t))=true:=by simp
 have e3:sAt (c :: t) 0=(c.toNat:Int):=by simp
 have ho:=qDy c
 unfold mkT mkW
 cases h:hdIs (twoB c) t with
 | true =>
  rw [h] at hL
  simp only [if_true] at hL ⊢
  have a1:qa8 (c :: t) (sAt (c :: t) 0) [58,45] [60,61] [62,61] [33,61] 0 0 [] 0 0 [] 0=true:=by
   simp only [qa8,qbg,qbi,qaZ,qaY,qa0,qaX,qbh,qbA,hL]
   simp
  rw [a1]
  simp only [qbg,qbi,qaZ,qaY,qa0,qaX,qbh,qbA,hL]
  simp [wTup]
 | false =>
  rw [h] at hL
  simp only [Bool.false_eq_true,if_false] at hL ⊢
  have a0:qa8 (c :: t) (sAt (c :: t) 0) [58,45] [60,61] [62,61] [33,61] 0 0 [] 0 0 [] 0=false:=by
   cases hq:qa8 (c :: t) (sAt (c :: t) 0) [58,45] [60,61] [62,61] [33,61] 0 0 [] 0 0 [] 0 with
   | false=>rfl
   | true =>
    simp only [qa8,qbA,hL] at hq
    simp at hq
  have a1:qbn (c :: t) (sAt (c :: t) 0) [58,45] [60,61] [62,61] [33,61] 0 0 [] 0 0 [] 0=true:=by
   simp only [qbn,qau,qbe,qjd,qjc,qjq,qjj,qjJ,qjl,qbA,hL]
   simp
  have a2:qau (c :: t) (sAt (c :: t) 0) [58,45] [60,61] [62,61] [33,61] 0 0 [] 0 0 [] 0=c :: t:=by
   simp only [qau,qbA,hL]
   simp
  have a3:qbe (c :: t) (sAt (c :: t) 0) [58,45] [60,61] [62,61] [33,61] 0 0 [] 0 0 [] 0=(c.toNat:Int):=by
   simp only [qbe,qbA,hL]
   simp
  rw [a0,a1,a2,a3,t2,e2,ho]
  rfl
theorem qxN {c:UInt8} {t:List UInt8} (hs:(c :: t).length≤140737488355328) (h1:qeN c=false) (h2:qhn c=false) (h3:c.toNat≠95) (h4:qaW c=false) (h5:c.toNat=45→hdIs qaW t=false) (h6:c.toNat≠34):qbQ (c :: t)=some (mkW c t):=by
 have f0:qap (c :: t) 0=true:=by simp
 have f5:iEq (sAt (c :: t) 0) 95=false:=by simp; omega
 have f6:qa6 (sAt (c :: t) 0)=false:=by simp [qdu,h4]
 have f9:iEq (sAt (c :: t) 0) 34=false:=by simp; omega
 have g1:¬ (97≤c.toNat∧c.toNat≤122):=by simpa [qeN] using h1
 have g2:¬ (65≤c.toNat∧c.toNat≤90):=by simpa [qhn] using h2
 rw [← qGk]
 unfold qbQ qep
 have f8:c.toNat=45→qa6 (if iLt 1 (sLen (c :: t))=true then sAt (c :: t) 1 else 0)=false:=fun h=>by
  have:=h5 h
  cases t with
  | nil=>simp [dgI]
  | cons d u =>
   have g:iLt 1 (sLen (c :: d :: u))=true:=by simp; omega
   rw [if_pos g]
   simpa [qdu,hdIs] using this
 have e97:iLe 97 (sAt (c :: t) 0)=decide (97≤c.toNat):=by simp; omega
 have e122:iLe (sAt (c :: t) 0) 122=decide (c.toNat≤122):=by simp; omega
 have e65:iLe 65 (sAt (c :: t) 0)=decide (65≤c.toNat):=by simp; omega
 have e90:iLe (sAt (c :: t) 0) 90=decide (c.toNat≤90):=by simp; omega
 have e45:iEq (sAt (c :: t) 0) 45=decide (c.toNat=45):=by simp; omega
 rw [f0,e97,e122,e65,e90,e45,f5,f6,f9,qdD]
 have key:∀ b:Bool,iLt 1 (sLen (c :: t))=b→(b=true→qap (c :: t) 1=true)→True:=fun _ _ _=>trivial
 by_cases k1:97≤c.toNat
 ·have k2:¬ c.toNat≤122:=fun h=>g1 ⟨k1,h⟩
  have k3:65≤c.toNat:=by omega
  have k4:¬ c.toNat≤90:=by omega
  have k5:¬ c.toNat=45:=by omega
  rw [decide_eq_true k1,decide_eq_false k2,decide_eq_true k3,decide_eq_false k4,decide_eq_false k5]
  cases t with
  | nil =>
   have g:iLt 1 (sLen [c])=false:=by simp
   rw [g]
   rfl
  | cons d u =>
   have g:iLt 1 (sLen (c :: d :: u))=true:=by simp; omega
   have g2:qap (c :: d :: u) 1=true:=by simp
   rw [g,g2]
   rfl
 ·by_cases k3:65≤c.toNat
  ·have k4:¬ c.toNat≤90:=fun h=>g2 ⟨k3,h⟩
   have k5:¬ c.toNat=45:=by omega
   rw [decide_eq_false k1,decide_eq_true k3,decide_eq_false k4,decide_eq_false k5]
   cases t with
   | nil =>
    have g:iLt 1 (sLen [c])=false:=by simp
    rw [g]
    rfl
   | cons d u =>
    have g:iLt 1 (sLen (c :: d :: u))=true:=by simp; omega
    have g2:qap (c :: d :: u) 1=true:=by simp
    rw [g,g2]
    rfl
  ·by_cases k5:c.toNat=45
   ·rw [decide_eq_false k1,decide_eq_false k3,decide_eq_true k5]
    cases t with
    | nil =>
     have g:iLt 1 (sLen [c])=false:=by simp
     have f8':qa6 0=false:=by simp [dgI]
     rw [g,f8',qdD 0]
     rfl
    | cons d u =>
     have g:iLt 1 (sLen (c :: d :: u))=true:=by simp; omega
     have g2:qap (c :: d :: u) 1=true:=by simp
     have f8':=f8 k5
     rw [if_pos g] at f8'
     rw [g,g2,f8',qdD (sAt (c :: d :: u) 1)]
     rfl
   ·rw [decide_eq_false k1,decide_eq_false k3,decide_eq_false k5]
    cases t with
    | nil =>
     have g:iLt 1 (sLen [c])=false:=by simp
     rw [g]
     rfl
    | cons d u =>
     have g:iLt 1 (sLen (c :: d :: u))=true:=by simp; omega
     have g2:qap (c :: d :: u) 1=true:=by simp
     rw [g,g2]
     rfl
end Go.Pv
set_option maxHeartbeats 4000000
set_option maxRecDepth 200000
set_option linter.unusedSimpArgs false
set_option linter.unusedVariables false
namespace Go.Pv
open Go Go.Proofs
noncomputable def qqY:GamT:=ofL []
theorem qyO (gl:Gl):qaJ Tryz.prog gl (gam qqY):=qag
noncomputable def qwW:LpsT:=fun r fr σ=>.fail
noncomputable def qnB (c:Int):Tr PV:=.ite (iLe 97 c) (.ret (.bool (iLe c 122))) (.ret (.bool false))
theorem qCK (c:Int):(tcall tbT qqY qwW Tryz.f93 [.int .u8 c]).flat=qnB c:=by kernel_rfl
noncomputable def qmx (c:Int):Option PV:=(qnB c).run
noncomputable def qgI (c:Int):Bool:=(qcc (gVal (qmx c)))
noncomputable def qfI (c:Int):Bool:=isW (qmx c) (.bool (qgI c))
noncomputable def qmi:List PV→Tr PV | [.int .u8 c]=>.ite (qfI c) (.ret (.bool (qgI c))) (.fail) | _=>.fail
theorem qpI (gl:Gl):SimP Tryz.prog gl 93 fun args=>(qmi args).run:=by
 refine SimP.of_flat (G:=qqY) (L:=qwW) qaj (qyO gl ) qah  Tryz.func93 rfl (by rfl) (by kernel_rfl) (qae (by kernel_rfl)) ?_
 intro args x h
 unfold qmi at h
 split at h
 ·exact (congrArg Tr.run (qCK _)).trans (qai h fun h=>by cases h)
 ·cases h
noncomputable def qrP:GamT:=ofL []
theorem qxT (gl:Gl):qaJ Tryz.prog gl (gam qrP):=qag
noncomputable def qv7:LpsT:=fun r fr σ=>.fail
noncomputable def qnI (c:Int):Tr PV:=.ite (iLe 65 c) (.ret (.bool (iLe c 90))) (.ret (.bool false))
theorem qDG (c:Int):(tcall tbT qrP qv7 Tryz.f94 [.int .u8 c]).flat=qnI c:=by kernel_rfl
noncomputable def qmJ (c:Int):Option PV:=(qnI c).run
noncomputable def qey (c:Int):Bool:=(qcc (gVal (qmJ c)))
noncomputable def qd2 (c:Int):Bool:=isW (qmJ c) (.bool (qey c))
noncomputable def qmF:List PV→Tr PV | [.int .u8 c]=>.ite (qd2 c) (.ret (.bool (qey c))) (.fail) | _=>.fail
theorem qpT (gl:Gl):SimP Tryz.prog gl 94 fun args=>(qmF args).run:=by
 refine SimP.of_flat (G:=qrP) (L:=qv7) qaj (qxT gl ) qah  Tryz.func94 rfl (by rfl) (by kernel_rfl) (qae (by kernel_rfl)) ?_
 intro args x h
 unfold qmF at h
 split at h
 ·exact (congrArg Tr.run (qDG _)).trans (qai h fun h=>by cases h)
 ·cases h
noncomputable def qr9:GamT:=ofL []
theorem qyE (gl:Gl):qaJ Tryz.prog gl (gam qr9):=qag
noncomputable def qwz:LpsT:=fun r fr σ=>.fail
noncomputable def qoE (c:Int):Tr PV:=.ite (iLe 48 c) (.ret (.bool (iLe c 57))) (.ret (.bool false))
theorem qC0 (c:Int):(tcall tbT qr9 qwz Tryz.f96 [.int .u8 c]).flat=qoE c:=by kernel_rfl
noncomputable def qmd (c:Int):Option PV:=(qoE c).run
noncomputable def qer (c:Int):Bool:=(qcc (gVal (qmd c)))
noncomputable def qd8 (c:Int):Bool:=isW (qmd c) (.bool (qer c))
noncomputable def qkI:List PV→Tr PV | [.int .u8 c]=>.ite (qd8 c) (.ret (.bool (qer c))) (.fail) | _=>.fail
theorem qll (gl:Gl):SimP Tryz.prog gl 96 fun args=>(qkI args).run:=by
 refine SimP.of_flat (G:=qr9) (L:=qwz) qaj (qyE gl ) qah  Tryz.func96 rfl (by rfl) (by kernel_rfl) (qae (by kernel_rfl)) ?_
 intro args x h
 unfold qkI at h
 split at h
 ·exact (congrArg Tr.run (qC0 _)).trans (qai h fun h=>by cases h)
 ·cases h
noncomputable def qq9:GamT:=ofL [(93,.pure qmi),(94,.pure qmF),(96,.pure qkI)]
theorem qx9 (gl:Gl):qaJ Tryz.prog gl (gam qq9):=(qad (qpI gl) (qad (qpT gl) (qad (qll gl) qag)))
noncomputable def qwc:LpsT:=fun r fr σ=>.fail
noncomputable def qnJ (c:Int):Tr PV:=.ite (qfI c) (.ite (qgI c) (.ret (.bool true)) (.ite (qd2 c) (.ite (qey c) (.ret (.bool true)) (.ite (qd8 c) (.ite (qer c) (.ret (.bool true)) (.ret (.bool (iEq c 95)))) .fail)) .fail)) .fail
theorem qDD (c:Int):(tcall tbT qq9 qwc Tryz.f122 [.int .u8 c]).flat=qnJ c:=by kernel_rfl
noncomputable def qmw (c:Int):Option PV:=(qnJ c).run
noncomputable def qh9 (c:Int):Bool:=(qcc (gVal (qmw c)))
noncomputable def qij (c:Int):Bool:=isW (qmw c) (.bool (qh9 c))
noncomputable def qra:List PV→Tr PV | [.int .u8 c]=>.ite (qij c) (.ret (.bool (qh9 c))) (.fail) | _=>.fail
theorem qxK (gl:Gl):SimP Tryz.prog gl 122 fun args=>(qra args).run:=by
 refine SimP.of_flat (G:=qq9) (L:=qwc) qaj (qx9 gl ) qah  Tryz.func122 rfl (by rfl) (by kernel_rfl) (qae (by kernel_rfl)) ?_
 intro args x h
 unfold qra at h
 split at h
 ·exact (congrArg Tr.run (qDD _)).trans (qai h fun h=>by cases h)
 ·cases h
noncomputable def qrd:GamT:=ofL []
theorem qx2 (gl:Gl):qaJ Tryz.prog gl (gam qrd):=qag
noncomputable def qwk:LpsT:=fun r fr σ=>.fail
noncomputable def qnk (c:Int):Tr PV:=.ite (iEq c 32) (.ret (.bool true)) (.ite (iEq c 9) (.ret (.bool true)) (.ite (iEq c 10) (.ret (.bool true)) (.ret (.bool (iEq c 13)))))
theorem qD1 (c:Int):(tcall tbT qrd qwk Tryz.f92 [.int .u8 c]).flat=qnk c:=by kernel_rfl
noncomputable def qmS (c:Int):Option PV:=(qnk c).run
noncomputable def qgB (c:Int):Bool:=(qcc (gVal (qmS c)))
noncomputable def qhW (c:Int):Bool:=isW (qmS c) (.bool (qgB c))
noncomputable def qru:List PV→Tr PV | [.int .u8 c]=>.ite (qhW c) (.ret (.bool (qgB c))) (.fail) | _=>.fail
theorem qx7 (gl:Gl):SimP Tryz.prog gl 92 fun args=>(qru args).run:=by
 refine SimP.of_flat (G:=qrd) (L:=qwk) qaj (qx2 gl ) qah  Tryz.func92 rfl (by rfl) (by kernel_rfl) (qae (by kernel_rfl)) ?_
 intro args x h
 unfold qru at h
 split at h
 ·exact (congrArg Tr.run (qD1 _)).trans (qai h fun h=>by cases h)
 ·cases h
noncomputable def qtB:GamT:=ofL [(92,.pure qru)]
theorem qwF (gl:Gl):qaJ Tryz.prog gl (gam qtB):=(qad (qx7 gl) qag)
noncomputable def qq6:Code:=qhg Tryz.f67 2
def qqu:LI:=⟨41,[0,1,5],fun e=>match e with | .exit 0=>[1] | _=>[],true⟩
noncomputable def qrB:LpsT:=fun r fr σ=>.fail
noncomputable def qk8 (vs:List PV) (σ:Store):Option (PExit × List PV × Store):=lval (lstep tbT qtB qrB qq6 qqu) vs σ
noncomputable def qjR (s:List UInt8) (at_:Int) (comment:Bool):Tr LR:=.ite (iLt at_ (sLen s)) (.ite comment (.ite (qap s at_) (.ite (iEq (sAt s at_) 37) (.ret (.next [.str s,.int .i64 (iAdd .i64 at_ 1),.bool true] ⟨[],[],[]⟩)) (.ite comment (.ite (qap s at_) (.ret (.next [.str s,.int .i64 (iAdd .i64 at_ 1),.bool (iNe (sAt s at_) 10)] ⟨[],[],[]⟩)) .fail) (.ret (.next [.str s,.int .i64 (iAdd .i64 at_ 1),.bool false] ⟨[],[],[]⟩)))) .fail) (.ite (qap s at_) (.ite (qhW (sAt s at_)) (.ite (qgB (sAt s at_)) (.ite (qap s at_) (.ite (iEq (sAt s at_) 37) (.ret (.next [.str s,.int .i64 (iAdd .i64 at_ 1),.bool true] ⟨[],[],[]⟩)) (.ite comment (.ite (qap s at_) (.ret (.next [.str s,.int .i64 (iAdd .i64 at_ 1),.bool (iNe (sAt s at_) 10)] ⟨[],[],[]⟩)) .fail) (.ret (.next [.str s,.int .i64 (iAdd .i64 at_ 1),.bool false] ⟨[],[],[]⟩)))) .fail) (.ite (qap s at_) (.ite (iEq (sAt s at_) 37) (.ite (qap s at_) (.ite (iEq (sAt s at_) 37) (.ret (.next [.str s,.int .i64 (iAdd .i64 at_ 1),.bool true] ⟨[],[],[]⟩)) (.ite comment (.ite (qap s at_) (.ret (.next [.str s,.int .i64 (iAdd .i64 at_ 1),.bool (iNe (sAt s at_) 10)] ⟨[],[],[]⟩)) .fail) (.ret (.next [.str s,.int .i64 (iAdd .i64 at_ 1),.bool false] ⟨[],[],[]⟩)))) .fail) (.ret (.out (.exit 0) [.int .i64 at_] ⟨[],[],[]⟩))) .fail)) .fail) .fail)) (.ret (.out (.exit 0) [.int .i64 at_] ⟨[],[],[]⟩))
theorem qF9 (s:List UInt8) (at_:Int) (comment:Bool):lstep tbT qtB qrB qq6 qqu [.str s,.int .i64 at_,.bool comment] ⟨[],[],[]⟩=qjR s at_ comment:=by kernel_rfl
theorem qz8 (s:List UInt8) (at_:Int) (comment:Bool):qk8 [.str s,.int .i64 at_,.bool comment] ⟨[],[],[]⟩=lnext qk8 (qjR s at_ comment).run:=by unfold qk8; rw [qb7,qF9]
noncomputable def qu8 (s:List UInt8) (at_:Int) (comment:Bool):Option (PExit × List PV × Store):=qk8 [.str s,.int .i64 at_,.bool comment] ⟨[],[],[]⟩
noncomputable def qkh (s:List UInt8) (at_:Int) (comment:Bool):Int:=(gInt (gOut (qu8 s at_ comment) 0))
noncomputable def qou (s:List UInt8) (at_:Int) (comment:Bool):Bool:=isW (qu8 s at_ comment) ((.exit 0),[.int .i64 (qkh s at_ comment)],⟨[],[],[]⟩)
noncomputable def qiK:List PV→Store→Tr (PExit × List PV × Store) | [.str s,.int .i64 at_,.bool comment],⟨[],[],[]⟩=>.ite (qou s at_ comment) (.ret ((.exit 0),[.int .i64 (qkh s at_ comment)],⟨[],[],[]⟩)) (.fail) | _,_=>.fail
theorem qDZ:∀ vs σ r,(qiK vs σ).run=some r→qk8 vs σ=some r:=by
 intro vs σ r h
 unfold qiK at h
 split at h
 ·exact qai h fun h=>by cases h
 ·cases h
theorem qyd (gl:Gl):∀ fr σ e fr' σ',(orc qqu qiK fr σ).run=some (e,fr',σ')→LDoes Tryz.prog gl qq6 fr σ e fr' σ':=qdI qaj (qwF gl ) qah (L:=qrB) (qae (by kernel_rfl)) (by kernel_rfl) qDZ
noncomputable def qzn:LpsT:=fun r fr σ=>bif Nat.beq r 2 then orc qqu qiK fr σ else .fail
noncomputable def qvC (s:List UInt8) (at_:Int):Tr PV:=.ite (qou s at_ false) (.ret (.int .i64 (qkh s at_ false))) .fail
theorem qHV (s:List UInt8) (at_:Int):(tcall tbT qtB qzn Tryz.f67 [.str s,.int .i64 at_]).flat=qvC s at_:=by kernel_rfl
noncomputable def qwi (s:List UInt8) (at_:Int):Option PV:=(qvC s at_).run
noncomputable def qc3 (s:List UInt8) (at_:Int):Int:=(gInt (gVal (qwi s at_)))
noncomputable def qfi (s:List UInt8) (at_:Int):Bool:=isW (qwi s at_) (.int .i64 (qc3 s at_))
noncomputable def qAt:List PV→Tr PV | [.str s,.int .i64 at_]=>.ite (qfi s at_) (.ret (.int .i64 (qc3 s at_))) (.fail) | _=>.fail
theorem qCL (gl:Gl):SimP Tryz.prog gl 67 fun args=>(qAt args).run:=by
 refine SimP.of_flat (G:=qtB) (L:=qzn) qaj (qwF gl ) qah  Tryz.func67 rfl (by rfl) (by kernel_rfl) (qbt (L:=lps qzn) [(2,qq6)] (by kernel_rfl) (List.forall_mem_cons.2 ⟨fun fr σ e fr' σ' h=>qyd gl  fr σ e fr' σ' h,(List.forall_mem_nil _)⟩)) ?_
 intro args x h
 unfold qAt at h
 split at h
 ·exact (congrArg Tr.run (qHV _ _)).trans (qai h fun h=>by cases h)
 ·cases h
noncomputable def qn8:GamT:=ofL [(122,.pure qra)]
theorem qs0 (gl:Gl):qaJ Tryz.prog gl (gam qn8):=(qad (qxK gl) qag)
noncomputable def qmI:Code:=qhg Tryz.f95 1
def qmC:LI:=⟨18,[0,1],fun e=>match e with | .exit 0=>[1] | _=>[],true⟩
noncomputable def qnm:LpsT:=fun r fr σ=>.fail
noncomputable def qic (vs:List PV) (σ:Store):Option (PExit × List PV × Store):=lval (lstep tbT qn8 qnm qmI qmC) vs σ
noncomputable def qhq (s:List UInt8) (at_:Int):Tr LR:=.ite (iLt at_ (sLen s)) (.ite (qap s at_) (.ite (qij (sAt s at_)) (.ite (qh9 (sAt s at_)) (.ret (.next [.str s,.int .i64 (iAdd .i64 at_ 1)] ⟨[],[],[]⟩)) (.ret (.out (.exit 0) [.int .i64 at_] ⟨[],[],[]⟩))) .fail) .fail) (.ret (.out (.exit 0) [.int .i64 at_] ⟨[],[],[]⟩))
theorem qC2 (s:List UInt8) (at_:Int):lstep tbT qn8 qnm qmI qmC [.str s,.int .i64 at_] ⟨[],[],[]⟩=qhq s at_:=by kernel_rfl
theorem qxg (s:List UInt8) (at_:Int):qic [.str s,.int .i64 at_] ⟨[],[],[]⟩=lnext qic (qhq s at_).run:=by unfold qic; rw [qb7,qC2]
noncomputable def qrX (s:List UInt8) (at_:Int):Option (PExit × List PV × Store):=qic [.str s,.int .i64 at_] ⟨[],[],[]⟩
noncomputable def qh3 (s:List UInt8) (at_:Int):Int:=(gInt (gOut (qrX s at_) 0))
noncomputable def qk2 (s:List UInt8) (at_:Int):Bool:=isW (qrX s at_) ((.exit 0),[.int .i64 (qh3 s at_)],⟨[],[],[]⟩)
noncomputable def qhc:List PV→Store→Tr (PExit × List PV × Store) | [.str s,.int .i64 at_],⟨[],[],[]⟩=>.ite (qk2 s at_) (.ret ((.exit 0),[.int .i64 (qh3 s at_)],⟨[],[],[]⟩)) (.fail) | _,_=>.fail
theorem qBD:∀ vs σ r,(qhc vs σ).run=some r→qic vs σ=some r:=by
 intro vs σ r h
 unfold qhc at h
 split at h
 ·exact qai h fun h=>by cases h
 ·cases h
theorem quu (gl:Gl):∀ fr σ e fr' σ',(orc qmC qhc fr σ).run=some (e,fr',σ')→LDoes Tryz.prog gl qmI fr σ e fr' σ':=qdI qaj (qs0 gl ) qah (L:=qnm) (qae (by kernel_rfl)) (by kernel_rfl) qBD
noncomputable def quy:LpsT:=fun r fr σ=>bif Nat.beq r 1 then orc qmC qhc fr σ else .fail
noncomputable def qr4 (s:List UInt8) (at_:Int):Tr PV:=.ite (qk2 s at_) (.ret (.int .i64 (qh3 s at_))) .fail
theorem qFt (s:List UInt8) (at_:Int):(tcall tbT qn8 quy Tryz.f95 [.str s,.int .i64 at_]).flat=qr4 s at_:=by kernel_rfl
noncomputable def qrA (s:List UInt8) (at_:Int):Option PV:=(qr4 s at_).run
noncomputable def qba (s:List UInt8) (at_:Int):Int:=(gInt (gVal (qrA s at_)))
noncomputable def qfH (s:List UInt8) (at_:Int):Bool:=isW (qrA s at_) (.int .i64 (qba s at_))
noncomputable def qu9:List PV→Tr PV | [.str s,.int .i64 at_]=>.ite (qfH s at_) (.ret (.int .i64 (qba s at_))) (.fail) | _=>.fail
theorem qzD (gl:Gl):SimP Tryz.prog gl 95 fun args=>(qu9 args).run:=by
 refine SimP.of_flat (G:=qn8) (L:=quy) qaj (qs0 gl ) qah  Tryz.func95 rfl (by rfl) (by kernel_rfl) (qbt (L:=lps quy) [(1,qmI)] (by kernel_rfl) (List.forall_mem_cons.2 ⟨fun fr σ e fr' σ' h=>quu gl  fr σ e fr' σ' h,(List.forall_mem_nil _)⟩)) ?_
 intro args x h
 unfold qu9 at h
 split at h
 ·exact (congrArg Tr.run (qFt _ _)).trans (qai h fun h=>by cases h)
 ·cases h
noncomputable def qhl:GamT:=ofL [(96,.pure qkI)]
theorem qoS (gl:Gl):qaJ Tryz.prog gl (gam qhl):=(qad (qll gl) qag)
noncomputable def qiH:Code:=qhg Tryz.f98 1
def qix:LI:=⟨18,[0,1],fun e=>match e with | .exit 0=>[1] | _=>[],true⟩
noncomputable def qjn:LpsT:=fun r fr σ=>.fail
noncomputable def qeB (vs:List PV) (σ:Store):Option (PExit × List PV × Store):=lval (lstep tbT qhl qjn qiH qix) vs σ
noncomputable def qeS (s:List UInt8) (at_:Int):Tr LR:=.ite (iLt at_ (sLen s)) (.ite (qap s at_) (.ite (qd8 (sAt s at_)) (.ite (qer (sAt s at_)) (.ret (.next [.str s,.int .i64 (iAdd .i64 at_ 1)] ⟨[],[],[]⟩)) (.ret (.out (.exit 0) [.int .i64 at_] ⟨[],[],[]⟩))) .fail) .fail) (.ret (.out (.exit 0) [.int .i64 at_] ⟨[],[],[]⟩))
theorem qyq (s:List UInt8) (at_:Int):lstep tbT qhl qjn qiH qix [.str s,.int .i64 at_] ⟨[],[],[]⟩=qeS s at_:=by kernel_rfl
theorem qpQ (s:List UInt8) (at_:Int):qeB [.str s,.int .i64 at_] ⟨[],[],[]⟩=lnext qeB (qeS s at_).run:=by unfold qeB; rw [qb7,qyq]
noncomputable def qlv (s:List UInt8) (at_:Int):Option (PExit × List PV × Store):=qeB [.str s,.int .i64 at_] ⟨[],[],[]⟩
noncomputable def qfr (s:List UInt8) (at_:Int):Int:=(gInt (gOut (qlv s at_) 0))
noncomputable def qhK (s:List UInt8) (at_:Int):Bool:=isW (qlv s at_) ((.exit 0),[.int .i64 (qfr s at_)],⟨[],[],[]⟩)
noncomputable def qez:List PV→Store→Tr (PExit × List PV × Store) | [.str s,.int .i64 at_],⟨[],[],[]⟩=>.ite (qhK s at_) (.ret ((.exit 0),[.int .i64 (qfr s at_)],⟨[],[],[]⟩)) (.fail) | _,_=>.fail
theorem qt1:∀ vs σ r,(qez vs σ).run=some r→qeB vs σ=some r:=by
 intro vs σ r h
 unfold qez at h
 split at h
 ·exact qai h fun h=>by cases h
 ·cases h
theorem qqH (gl:Gl):∀ fr σ e fr' σ',(orc qix qez fr σ).run=some (e,fr',σ')→LDoes Tryz.prog gl qiH fr σ e fr' σ':=qdI qaj (qoS gl ) qah (L:=qjn) (qae (by kernel_rfl)) (by kernel_rfl) qt1
noncomputable def qn0:LpsT:=fun r fr σ=>bif Nat.beq r 1 then orc qix qez fr σ else .fail
noncomputable def qlJ (s:List UInt8) (at_:Int):Tr PV:=.ite (qhK s at_) (.ret (.int .i64 (qfr s at_))) .fail
theorem qBf (s:List UInt8) (at_:Int):(tcall tbT qhl qn0 Tryz.f98 [.str s,.int .i64 at_]).flat=qlJ s at_:=by kernel_rfl
noncomputable def qj0 (s:List UInt8) (at_:Int):Option PV:=(qlJ s at_).run
noncomputable def qbd (s:List UInt8) (at_:Int):Int:=(gInt (gVal (qj0 s at_)))
noncomputable def qdK (s:List UInt8) (at_:Int):Bool:=isW (qj0 s at_) (.int .i64 (qbd s at_))
noncomputable def qpk:List PV→Tr PV | [.str s,.int .i64 at_]=>.ite (qdK s at_) (.ret (.int .i64 (qbd s at_))) (.fail) | _=>.fail
theorem quO (gl:Gl):SimP Tryz.prog gl 98 fun args=>(qpk args).run:=by
 refine SimP.of_flat (G:=qhl) (L:=qn0) qaj (qoS gl ) qah  Tryz.func98 rfl (by rfl) (by kernel_rfl) (qbt (L:=lps qn0) [(1,qiH)] (by kernel_rfl) (List.forall_mem_cons.2 ⟨fun fr σ e fr' σ' h=>qqH gl  fr σ e fr' σ' h,(List.forall_mem_nil _)⟩)) ?_
 intro args x h
 unfold qpk at h
 split at h
 ·exact (congrArg Tr.run (qBf _ _)).trans (qai h fun h=>by cases h)
 ·cases h
noncomputable def qhM:GamT:=ofL []
theorem qoD (gl:Gl):qaJ Tryz.prog gl (gam qhM):=qag
noncomputable def qiq:Code:=qhg Tryz.f99 2
def qiC:LI:=⟨26,[0,5],fun e=>match e with | .ret=>[4] | .exit 0=>[] | _=>[],true⟩
noncomputable def qjk:LpsT:=fun r fr σ=>.fail
noncomputable def qdk (vs:List PV) (σ:Store):Option (PExit × List PV × Store):=lval (lstep tbT qhM qjk qiq qiC) vs σ
noncomputable def qdW (s:List UInt8) (i:Int):Tr LR:=.ite (iLt i (sLen s)) (.ite (qap s i) (.ite (iEq (sAt s i) 34) (.ret (.out .ret [.int .i64 (iAdd .i64 i 1)] ⟨[],[],[]⟩)) (.ite (qap s i) (.ite (iEq (sAt s i) 92) (.ret (.next [.str s,.int .i64 (iAdd .i64 (iAdd .i64 i 1) 1)] ⟨[],[],[]⟩)) (.ret (.next [.str s,.int .i64 (iAdd .i64 i 1)] ⟨[],[],[]⟩))) .fail)) .fail) (.ret (.out (.exit 0) [] ⟨[],[],[]⟩))
theorem qxW (s:List UInt8) (i:Int):lstep tbT qhM qjk qiq qiC [.str s,.int .i64 i] ⟨[],[],[]⟩=qdW s i:=by kernel_rfl
theorem qpU (s:List UInt8) (i:Int):qdk [.str s,.int .i64 i] ⟨[],[],[]⟩=lnext qdk (qdW s i).run:=by unfold qdk; rw [qb7,qxW]
noncomputable def qfT (s:List UInt8) (i:Int):Option (PExit × List PV × Store):=qdk [.str s,.int .i64 i] ⟨[],[],[]⟩
noncomputable def qef (s:List UInt8) (i:Int):Int:=(gInt (gOut (qfT s i) 0))
noncomputable def qfm (s:List UInt8) (i:Int):Bool:=isW (qfT s i) (.ret,[.int .i64 (qef s i)],⟨[],[],[]⟩)
noncomputable def qfA (s:List UInt8) (i:Int):Bool:=isW (qfT s i) ((.exit 0),[],⟨[],[],[]⟩)
noncomputable def qeA:List PV→Store→Tr (PExit × List PV × Store) | [.str s,.int .i64 i],⟨[],[],[]⟩=>.ite (qfm s i) (.ret (.ret,[.int .i64 (qef s i)],⟨[],[],[]⟩)) (.ite (qfA s i) (.ret ((.exit 0),[],⟨[],[],[]⟩)) (.fail)) | _,_=>.fail
theorem qt9:∀ vs σ r,(qeA vs σ).run=some r→qdk vs σ=some r:=by
 intro vs σ r h
 unfold qeA at h
 split at h
 ·exact qai h fun h=>qai h fun h=>by cases h
 ·cases h
theorem qrD (gl:Gl):∀ fr σ e fr' σ',(orc qiC qeA fr σ).run=some (e,fr',σ')→LDoes Tryz.prog gl qiq fr σ e fr' σ':=qdI qaj (qoD gl ) qah (L:=qjk) (qae (by kernel_rfl)) (by kernel_rfl) qt9
noncomputable def qnS:LpsT:=fun r fr σ=>bif Nat.beq r 2 then orc qiC qeA fr σ else .fail
noncomputable def qlX (s:List UInt8) (at_:Int):Tr PV:=.ite (qfm s (iAdd .i64 at_ 1)) (.ret (.int .i64 (qef s (iAdd .i64 at_ 1)))) (.ite (qfA s (iAdd .i64 at_ 1)) (.ret (.int .i64 (-1))) .fail)
theorem qCt (s:List UInt8) (at_:Int):(tcall tbT qhM qnS Tryz.f99 [.str s,.int .i64 at_]).flat=qlX s at_:=by kernel_rfl
noncomputable def qjP (s:List UInt8) (at_:Int):Option PV:=(qlX s at_).run
noncomputable def qan (s:List UInt8) (at_:Int):Int:=(gInt (gVal (qjP s at_)))
noncomputable def qdc (s:List UInt8) (at_:Int):Bool:=isW (qjP s at_) (.int .i64 (qan s at_))
noncomputable def qoi:List PV→Tr PV | [.str s,.int .i64 at_]=>.ite (qdc s at_) (.ret (.int .i64 (qan s at_))) (.fail) | _=>.fail
theorem qvS (gl:Gl):SimP Tryz.prog gl 99 fun args=>(qoi args).run:=by
 refine SimP.of_flat (G:=qhM) (L:=qnS) qaj (qoD gl ) qah  Tryz.func99 rfl (by rfl) (by kernel_rfl) (qbt (L:=lps qnS) [(2,qiq)] (by kernel_rfl) (List.forall_mem_cons.2 ⟨fun fr σ e fr' σ' h=>qrD gl  fr σ e fr' σ' h,(List.forall_mem_nil _)⟩)) ?_
 intro args x h
 unfold qoi at h
 split at h
 ·exact (congrArg Tr.run (qCt _ _)).trans (qai h fun h=>by cases h)
 ·cases h
noncomputable def quP:GamT:=ofL []
theorem qCl (gl:Gl):qaJ Tryz.prog gl (gam quP):=qag
noncomputable def qAx:LpsT:=fun r fr σ=>.fail
noncomputable def qrN (v:List UInt8) (v2:Int):Tr PV:=.ite (iLe 2 (iSub .i64 (sLen v) v2)) (.ite (qaw (qal v2) (qal (iAdd .i64 v2 2)) (nNat v2) (nNat (iAdd .i64 v2 2)) (nLen v)) (.ite (sEq (sSub v (nNat v2) (nNat (iAdd .i64 v2 2))) [58,45]) (.ret (.int .i64 2)) (.ite (sEq (sSub v (nNat v2) (nNat (iAdd .i64 v2 2))) [60,61]) (.ret (.int .i64 2)) (.ite (sEq (sSub v (nNat v2) (nNat (iAdd .i64 v2 2))) [62,61]) (.ret (.int .i64 2)) (.ite (sEq (sSub v (nNat v2) (nNat (iAdd .i64 v2 2))) [33,61]) (.ret (.int .i64 2)) (.ite (qap v v2) (.ite (iEq (sAt v v2) 40) (.ret (.int .i64 1)) (.ite (qap v v2) (.ite (iEq (sAt v v2) 41) (.ret (.int .i64 1)) (.ite (qap v v2) (.ite (iEq (sAt v v2) 44) (.ret (.int .i64 1)) (.ite (qap v v2) (.ite (iEq (sAt v v2) 46) (.ret (.int .i64 1)) (.ite (qap v v2) (.ite (iEq (sAt v v2) 43) (.ret (.int .i64 1)) (.ite (qap v v2) (.ite (iEq (sAt v v2) 45) (.ret (.int .i64 1)) (.ite (qap v v2) (.ite (iEq (sAt v v2) 61) (.ret (.int .i64 1)) (.ite (qap v v2) (.ite (iEq (sAt v v2) 58) (.ret (.int .i64 1)) (.ite (qap v v2) (.ite (iEq (sAt v v2) 60) (.ret (.int .i64 1)) (.ite (qap v v2) (.ite (iEq (sAt v v2) 62) (.ret (.int .i64 1)) (.ret (.int .i64 0))) .fail)) .fail)) .fail)) .fail)) .fail)) .fail)) .fail)) .fail)) .fail)) .fail))))) .fail) (.ite (sEq [] [58,45]) (.ret (.int .i64 2)) (.ite (sEq [] [60,61]) (.ret (.int .i64 2)) (.ite (sEq [] [62,61]) (.ret (.int .i64 2)) (.ite (sEq [] [33,61]) (.ret (.int .i64 2)) (.ite (qap v v2) (.ite (iEq (sAt v v2) 40) (.ret (.int .i64 1)) (.ite (qap v v2) (.ite (iEq (sAt v v2) 41) (.ret (.int .i64 1)) (.ite (qap v v2) (.ite (iEq (sAt v v2) 44) (.ret (.int .i64 1)) (.ite (qap v v2) (.ite (iEq (sAt v v2) 46) (.ret (.int .i64 1)) (.ite (qap v v2) (.ite (iEq (sAt v v2) 43) (.ret (.int .i64 1)) (.ite (qap v v2) (.ite (iEq (sAt v v2) 45) (.ret (.int .i64 1)) (.ite (qap v v2) (.ite (iEq (sAt v v2) 61) (.ret (.int .i64 1)) (.ite (qap v v2)
 (.ite (iEq (sAt v v2) 58) (.ret (.int .i64 1)) (.ite (qap v v2) (.ite (iEq (sAt v v2) 60) (.ret (.int .i64 1)) (.ite (qap v v2) (.ite (iEq (sAt v v2) 62) (.ret (.int .i64 1)) (.ret (.int .i64 0))) .fail)) .fail)) .fail)) .fail)) .fail)) .fail)) .fail)) .fail)) .fail)) .fail)))))
theorem qF5 (v:List UInt8) (v2:Int):(tcall tbT quP qAx Tryz.f100 [.str v,.int .i64 v2]).flat=qrN v v2:=by kernel_rfl
noncomputable def qrF (v:List UInt8) (v2:Int):Option PV:=(qrN v v2).run
noncomputable def qbr (v:List UInt8) (v2:Int):Int:=(gInt (gVal (qrF v v2)))
noncomputable def qeT (v:List UInt8) (v2:Int):Bool:=isW (qrF v v2) (.int .i64 (qbr v v2))
noncomputable def qud:List PV→Tr PV | [.str v,.int .i64 v2]=>.ite (qeT v v2) (.ret (.int .i64 (qbr v v2))) (.fail) | _=>.fail
theorem qCz (gl:Gl):SimP Tryz.prog gl 100 fun args=>(qud args).run:=by
 refine SimP.of_flat (G:=quP) (L:=qAx) qaj (qCl gl ) qah  Tryz.func100 rfl (by rfl) (by kernel_rfl) (qae (by kernel_rfl)) ?_
 intro args x h
 unfold qud at h
 split at h
 ·exact (congrArg Tr.run (qF5 _ _)).trans (qai h fun h=>by cases h)
 ·cases h
noncomputable def qqS:GamT:=ofL [(123,.pure qpv)]
theorem qyL (gl:Gl):qaJ Tryz.prog gl (gam qqS):=(qad (qz6 gl) qag)
noncomputable def qxl:LpsT:=fun r fr σ=>.fail
noncomputable def qnT (k:Int) (s:List UInt8) (at_:Int):Tr PV:=.ite (qhL s) (.ite (iNe (eRd s) 0) (.ret (.tup [.agg [.int .i64 0,.str [],.int .i64 0,.int .i64 0,.str [],.int .i64 0],.bool false])) (.ret (.tup [.agg [.int .i64 k,.str s,.int .i64 (kRd s),.int .i64 (nRd s),.str (sRd s),.int .i64 at_],.bool true]))) .fail
theorem qDS (k:Int) (s:List UInt8) (at_:Int):(tcall tbT qqS qxl Tryz.f97 [.int .i64 k,.str s,.int .i64 at_]).flat=qnT k s at_:=by kernel_rfl
noncomputable def qee (k:Int) (s:List UInt8) (at_:Int):Option PV:=(qnT k s at_).run
noncomputable def qdx (k:Int) (s:List UInt8) (at_:Int):Int:=(gInt (gAt (gCs (gAt (gCs (gVal (qee k s at_))) 0)) 0))
noncomputable def qdC (k:Int) (s:List UInt8) (at_:Int):List UInt8:=(gStr (gAt (gCs (gAt (gCs (gVal (qee k s at_))) 0)) 1))
noncomputable def qcS (k:Int) (s:List UInt8) (at_:Int):Int:=(gInt (gAt (gCs (gAt (gCs (gVal (qee k s at_))) 0)) 2))
noncomputable def qcD (k:Int) (s:List UInt8) (at_:Int):Int:=(gInt (gAt (gCs (gAt (gCs (gVal (qee k s at_))) 0)) 3))
noncomputable def qcI (k:Int) (s:List UInt8) (at_:Int):List UInt8:=(gStr (gAt (gCs (gAt (gCs (gVal (qee k s at_))) 0)) 4))
noncomputable def qcF (k:Int) (s:List UInt8) (at_:Int):Int:=(gInt (gAt (gCs (gAt (gCs (gVal (qee k s at_))) 0)) 5))
noncomputable def qdF (k:Int) (s:List UInt8) (at_:Int):Bool:=(qcc (gAt (gCs (gVal (qee k s at_))) 1))
noncomputable def qcZ (k:Int) (s:List UInt8) (at_:Int):Bool:=isW (qee k s at_) (.tup [.agg [.int .i64 (qdx k s at_),.str (qdC k s at_),.int .i64 (qcS k s at_),.int .i64 (qcD k s at_),.str (qcI k s at_),.int .i64 (qcF k s at_)],.bool (qdF k s at_)])
noncomputable def qq1:List PV→Tr PV | [.int .i64 k,.str s,.int .i64 at_]=>.ite (qcZ k s at_) (.ret (.tup [.agg [.int .i64 (qdx k s at_),.str (qdC k s at_),.int .i64 (qcS k s at_),.int .i64 (qcD k s at_),.str (qcI k s at_),.int .i64 (qcF k s at_)],.bool (qdF k s at_)])) (.fail) | _=>.fail
theorem qxI (gl:Gl):SimP Tryz.prog gl 97 fun args=>(qq1 args).run:=by
 refine SimP.of_flat (G:=qqS) (L:=qxl) qaj (qyL gl ) qah  Tryz.func97 rfl (by rfl) (by kernel_rfl) (qae (by kernel_rfl)) ?_
 intro args x h
 unfold qq1 at h
 split at h
 ·exact (congrArg Tr.run (qDS _ _ _)).trans (qai h fun h=>by cases h)
 ·cases h
noncomputable def qtT:GamT:=ofL [(93,.pure qmi),(94,.pure qmF),(95,.pure qu9),(96,.pure qkI),(97,.pure qq1),(98,.pure qpk),(99,.pure qoi),(100,.pure qud)]
theorem qB6 (gl:Gl):qaJ Tryz.prog gl (gam qtT):=(qad (qpI gl) (qad (qpT gl) (qad (qzD gl) (qad (qll gl) (qad (qxI gl) (qad (quO gl) (qad (qvS gl) (qad (qCz gl) qag))))))))
noncomputable def qzv:LpsT:=fun r fr σ=>.fail
noncomputable def qr7 (v:List UInt8) (v2:Int):Tr PV:=.ite (qap v v2) (.ite (qfI (sAt v v2)) (.ite (qgI (sAt v v2)) (.ite (qfH v v2) (.ite (qd2 (sAt v v2)) (.ite (qey (sAt v v2)) (.ite (qaw (qal v2) (qal (qba v v2)) (nNat v2) (nNat (qba v v2)) (nLen v)) (.ite (iEq (qba v v2) v2) (.ret (.tup [.agg [.int .i64 0,.str [],.int .i64 0,.int .i64 0,.str [],.int .i64 0],.bool false])) (.ite (iLt 64 (sLen (sSub v (nNat v2) (nNat (qba v v2))))) (.ret (.tup [.agg [.int .i64 0,.str [],.int .i64 0,.int .i64 0,.str [],.int .i64 0],.bool false])) (.ite (iEq 2 3) (.ite (iNe (qba v v2) (iAdd .i64 v2 1)) (.ret (.tup [.agg [.int .i64 0,.str [],.int .i64 0,.int .i64 0,.str [],.int .i64 0],.bool false])) (.ret (.tup [.agg [.int .i64 2,.str (sSub v (nNat v2) (nNat (qba v v2))),.int .i64 0,.int .i64 0,.str [],.int .i64 v2],.bool true]))) (.ret (.tup [.agg [.int .i64 2,.str (sSub v (nNat v2) (nNat (qba v v2))),.int .i64 0,.int .i64 0,.str [],.int .i64 v2],.bool true]))))) .fail) (.ite (qaw (qal v2) (qal (qba v v2)) (nNat v2) (nNat (qba v v2)) (nLen v)) (.ite (iEq (qba v v2) v2) (.ret (.tup [.agg [.int .i64 0,.str [],.int .i64 0,.int .i64 0,.str [],.int .i64 0],.bool false])) (.ite (iLt 64 (sLen (sSub v (nNat v2) (nNat (qba v v2))))) (.ret (.tup [.agg [.int .i64 0,.str [],.int .i64 0,.int .i64 0,.str [],.int .i64 0],.bool false])) (.ite (iEq 1 3) (.ite (iNe (qba v v2) (iAdd .i64 v2 1)) (.ret (.tup [.agg [.int .i64 0,.str [],.int .i64 0,.int .i64 0,.str [],.int .i64 0],.bool false])) (.ret (.tup [.agg [.int .i64 1,.str (sSub v (nNat v2) (nNat (qba v v2))),.int .i64 0,.int .i64 0,.str [],.int .i64 v2],.bool true]))) (.ret (.tup [.agg [.int .i64 1,.str (sSub v (nNat v2) (nNat (qba v v2))),.int .i64 0,.int .i64 0,.str [],.int .i64 v2],.bool true]))))) .fail)) .fail) .fail) (.ite (qd2 (sAt v v2)) (.ite (qey (sAt v v2)) (.ite (qfH v v2) (.ite (qd2 (sAt v v2))
 (.ite (qey (sAt v v2)) (.ite (qaw (qal v2) (qal (qba v v2)) (nNat v2) (nNat (qba v v2)) (nLen v)) (.ite (iEq (qba v v2) v2) (.ret (.tup [.agg [.int .i64 0,.str [],.int .i64 0,.int .i64 0,.str [],.int .i64 0],.bool false])) (.ite (iLt 64 (sLen (sSub v (nNat v2) (nNat (qba v v2))))) (.ret (.tup [.agg [.int .i64 0,.str [],.int .i64 0,.int .i64 0,.str [],.int .i64 0],.bool false])) (.ite (iEq 2 3) (.ite (iNe (qba v v2) (iAdd .i64 v2 1)) (.ret (.tup [.agg [.int .i64 0,.str [],.int .i64 0,.int .i64 0,.str [],.int .i64 0],.bool false])) (.ret (.tup [.agg [.int .i64 2,.str (sSub v (nNat v2) (nNat (qba v v2))),.int .i64 0,.int .i64 0,.str [],.int .i64 v2],.bool true]))) (.ret (.tup [.agg [.int .i64 2,.str (sSub v (nNat v2) (nNat (qba v v2))),.int .i64 0,.int .i64 0,.str [],.int .i64 v2],.bool true]))))) .fail) (.ite (qaw (qal v2) (qal (qba v v2)) (nNat v2) (nNat (qba v v2)) (nLen v)) (.ite (iEq (qba v v2) v2) (.ret (.tup [.agg [.int .i64 0,.str [],.int .i64 0,.int .i64 0,.str [],.int .i64 0],.bool false])) (.ite (iLt 64 (sLen (sSub v (nNat v2) (nNat (qba v v2))))) (.ret (.tup [.agg [.int .i64 0,.str [],.int .i64 0,.int .i64 0,.str [],.int .i64 0],.bool false])) (.ite (iEq 1 3) (.ite (iNe (qba v v2) (iAdd .i64 v2 1)) (.ret (.tup [.agg [.int .i64 0,.str [],.int .i64 0,.int .i64 0,.str [],.int .i64 0],.bool false])) (.ret (.tup [.agg [.int .i64 1,.str (sSub v (nNat v2) (nNat (qba v v2))),.int .i64 0,.int .i64 0,.str [],.int .i64 v2],.bool true]))) (.ret (.tup [.agg [.int .i64 1,.str (sSub v (nNat v2) (nNat (qba v v2))),.int .i64 0,.int .i64 0,.str [],.int .i64 v2],.bool true]))))) .fail)) .fail) .fail) (.ite (iEq (sAt v v2) 95) (.ite (qfH v v2) (.ite (qaw (qal v2) (qal (qba v v2)) (nNat v2) (nNat (qba v v2)) (nLen v)) (.ite (iEq (qba v v2) v2) (.ret (.tup [.agg [.int .i64 0,.str [],.int .i64 0,.int .i64 0,.str [],.int .i64 0],.bool false]))
 (.ite (iLt 64 (sLen (sSub v (nNat v2) (nNat (qba v v2))))) (.ret (.tup [.agg [.int .i64 0,.str [],.int .i64 0,.int .i64 0,.str [],.int .i64 0],.bool false])) (.ite (iEq 3 3) (.ite (iNe (qba v v2) (iAdd .i64 v2 1)) (.ret (.tup [.agg [.int .i64 0,.str [],.int .i64 0,.int .i64 0,.str [],.int .i64 0],.bool false])) (.ret (.tup [.agg [.int .i64 3,.str (sSub v (nNat v2) (nNat (qba v v2))),.int .i64 0,.int .i64 0,.str [],.int .i64 v2],.bool true]))) (.ret (.tup [.agg [.int .i64 3,.str (sSub v (nNat v2) (nNat (qba v v2))),.int .i64 0,.int .i64 0,.str [],.int .i64 v2],.bool true]))))) .fail) .fail) (.ite (qd8 (sAt v v2)) (.ite (qer (sAt v v2)) (.ite (qdK v (iAdd .i64 v2 1)) (.ite (qaw (qal v2) (qal (qbd v (iAdd .i64 v2 1))) (nNat v2) (nNat (qbd v (iAdd .i64 v2 1))) (nLen v)) (.ite (qcZ 4 (sSub v (nNat v2) (nNat (qbd v (iAdd .i64 v2 1)))) v2) (.ret (.tup [.agg [.int .i64 (qdx 4 (sSub v (nNat v2) (nNat (qbd v (iAdd .i64 v2 1)))) v2),.str (qdC 4 (sSub v (nNat v2) (nNat (qbd v (iAdd .i64 v2 1)))) v2),.int .i64 (qcS 4 (sSub v (nNat v2) (nNat (qbd v (iAdd .i64 v2 1)))) v2),.int .i64 (qcD 4 (sSub v (nNat v2) (nNat (qbd v (iAdd .i64 v2 1)))) v2),.str (qcI 4 (sSub v (nNat v2) (nNat (qbd v (iAdd .i64 v2 1)))) v2),.int .i64 (qcF 4 (sSub v (nNat v2) (nNat (qbd v (iAdd .i64 v2 1)))) v2)],.bool (qdF 4 (sSub v (nNat v2) (nNat (qbd v (iAdd .i64 v2 1)))) v2)])) .fail) .fail) .fail) (.ite (iEq (sAt v v2) 45) (.ite (iLt (iAdd .i64 v2 1) (sLen v)) (.ite (qap v (iAdd .i64 v2 1)) (.ite (qd8 (sAt v (iAdd .i64 v2 1))) (.ite (qer (sAt v (iAdd .i64 v2 1))) (.ite (qdK v (iAdd .i64 v2 1)) (.ite (qaw (qal v2) (qal (qbd v (iAdd .i64 v2 1))) (nNat v2) (nNat (qbd v (iAdd .i64 v2 1))) (nLen v)) (.ite (qcZ 4 (sSub v (nNat v2) (nNat (qbd v (iAdd .i64 v2 1)))) v2) (.ret (.tup [.agg
 [.int .i64 (qdx 4 (sSub v (nNat v2) (nNat (qbd v (iAdd .i64 v2 1)))) v2),.str (qdC 4 (sSub v (nNat v2) (nNat (qbd v (iAdd .i64 v2 1)))) v2),.int .i64 (qcS 4 (sSub v (nNat v2) (nNat (qbd v (iAdd .i64 v2 1)))) v2),.int .i64 (qcD 4 (sSub v (nNat v2) (nNat (qbd v (iAdd .i64 v2 1)))) v2),.str (qcI 4 (sSub v (nNat v2) (nNat (qbd v (iAdd .i64 v2 1)))) v2),.int .i64 (qcF 4 (sSub v (nNat v2) (nNat (qbd v (iAdd .i64 v2 1)))) v2)],.bool (qdF 4 (sSub v (nNat v2) (nNat (qbd v (iAdd .i64 v2 1)))) v2)])) .fail) .fail) .fail) (.ite (iEq (sAt v v2) 34) (.ite (qdc v v2) (.ite (iLt (qan v v2) 0) (.ret (.tup [.agg [.int .i64 0,.str [],.int .i64 0,.int .i64 0,.str [],.int .i64 0],.bool false])) (.ite (qaw (qal v2) (qal (qan v v2)) (nNat v2) (nNat (qan v v2)) (nLen v)) (.ite (qcZ 5 (sSub v (nNat v2) (nNat (qan v v2))) v2) (.ret (.tup [.agg [.int .i64 (qdx 5 (sSub v (nNat v2) (nNat (qan v v2))) v2),.str (qdC 5 (sSub v (nNat v2) (nNat (qan v v2))) v2),.int .i64 (qcS 5 (sSub v (nNat v2) (nNat (qan v v2))) v2),.int .i64 (qcD 5 (sSub v (nNat v2) (nNat (qan v v2))) v2),.str (qcI 5 (sSub v (nNat v2) (nNat (qan v v2))) v2),.int .i64 (qcF 5 (sSub v (nNat v2) (nNat (qan v v2))) v2)],.bool (qdF 5 (sSub v (nNat v2) (nNat (qan v v2))) v2)])) .fail) .fail)) .fail) (.ite (qeT v v2) (.ite (qaw (qal v2) (qal (iAdd .i64 v2 (qbr v v2))) (nNat v2) (nNat (iAdd .i64 v2 (qbr v v2))) (nLen v)) (.ite (iEq (iAdd .i64 v2 (qbr v v2)) v2) (.ret (.tup [.agg [.int .i64 0,.str [],.int .i64 0,.int .i64 0,.str [],.int .i64 0],.bool false])) (.ite (iLt 64 (sLen (sSub v (nNat v2) (nNat (iAdd .i64 v2 (qbr v v2)))))) (.ret (.tup [.agg [.int .i64 0,.str [],.int .i64 0,.int .i64 0,.str [],.int .i64 0],.bool false])) (.ite (iEq 6 3)
 (.ite (iNe (iAdd .i64 v2 (qbr v v2)) (iAdd .i64 v2 1)) (.ret (.tup [.agg [.int .i64 0,.str [],.int .i64 0,.int .i64 0,.str [],.int .i64 0],.bool false])) (.ret (.tup [.agg [.int .i64 6,.str (sSub v (nNat v2) (nNat (iAdd .i64 v2 (qbr v v2)))),.int .i64 0,.int .i64 0,.str [],.int .i64 v2],.bool true]))) (.ret (.tup [.agg [.int .i64 6,.str (sSub v (nNat v2) (nNat (iAdd .i64 v2 (qbr v v2)))),.int .i64 0,.int .i64 0,.str [],.int .i64 v2],.bool true]))))) .fail) .fail))) .fail) .fail) (.ite (iEq (sAt v v2) 34) (.ite (qdc v v2) (.ite (iLt (qan v v2) 0) (.ret (.tup [.agg [.int .i64 0,.str [],.int .i64 0,.int .i64 0,.str [],.int .i64 0],.bool false])) (.ite (qaw (qal v2) (qal (qan v v2)) (nNat v2) (nNat (qan v v2)) (nLen v)) (.ite (qcZ 5 (sSub v (nNat v2) (nNat (qan v v2))) v2) (.ret (.tup [.agg [.int .i64 (qdx 5 (sSub v (nNat v2) (nNat (qan v v2))) v2),.str (qdC 5 (sSub v (nNat v2) (nNat (qan v v2))) v2),.int .i64 (qcS 5 (sSub v (nNat v2) (nNat (qan v v2))) v2),.int .i64 (qcD 5 (sSub v (nNat v2) (nNat (qan v v2))) v2),.str (qcI 5 (sSub v (nNat v2) (nNat (qan v v2))) v2),.int .i64 (qcF 5 (sSub v (nNat v2) (nNat (qan v v2))) v2)],.bool (qdF 5 (sSub v (nNat v2) (nNat (qan v v2))) v2)])) .fail) .fail)) .fail) (.ite (qeT v v2) (.ite (qaw (qal v2) (qal (iAdd .i64 v2 (qbr v v2))) (nNat v2) (nNat (iAdd .i64 v2 (qbr v v2))) (nLen v)) (.ite (iEq (iAdd .i64 v2 (qbr v v2)) v2) (.ret (.tup [.agg [.int .i64 0,.str [],.int .i64 0,.int .i64 0,.str [],.int .i64 0],.bool false])) (.ite (iLt 64 (sLen (sSub v (nNat v2) (nNat (iAdd .i64 v2 (qbr v v2)))))) (.ret (.tup [.agg [.int .i64 0,.str [],.int .i64 0,.int .i64 0,.str [],.int .i64 0],.bool false])) (.ite (iEq 6 3) (.ite (iNe (iAdd .i64 v2 (qbr v v2)) (iAdd .i64 v2 1)) (.ret
 (.tup [.agg [.int .i64 0,.str [],.int .i64 0,.int .i64 0,.str [],.int .i64 0],.bool false])) (.ret (.tup [.agg [.int .i64 6,.str (sSub v (nNat v2) (nNat (iAdd .i64 v2 (qbr v v2)))),.int .i64 0,.int .i64 0,.str [],.int .i64 v2],.bool true]))) (.ret (.tup [.agg [.int .i64 6,.str (sSub v (nNat v2) (nNat (iAdd .i64 v2 (qbr v v2)))),.int .i64 0,.int .i64 0,.str [],.int .i64 v2],.bool true]))))) .fail) .fail))) (.ite (iEq (sAt v v2) 34) (.ite (qdc v v2) (.ite (iLt (qan v v2) 0) (.ret (.tup [.agg [.int .i64 0,.str [],.int .i64 0,.int .i64 0,.str [],.int .i64 0],.bool false])) (.ite (qaw (qal v2) (qal (qan v v2)) (nNat v2) (nNat (qan v v2)) (nLen v)) (.ite (qcZ 5 (sSub v (nNat v2) (nNat (qan v v2))) v2) (.ret (.tup [.agg [.int .i64 (qdx 5 (sSub v (nNat v2) (nNat (qan v v2))) v2),.str (qdC 5 (sSub v (nNat v2) (nNat (qan v v2))) v2),.int .i64 (qcS 5 (sSub v (nNat v2) (nNat (qan v v2))) v2),.int .i64 (qcD 5 (sSub v (nNat v2) (nNat (qan v v2))) v2),.str (qcI 5 (sSub v (nNat v2) (nNat (qan v v2))) v2),.int .i64 (qcF 5 (sSub v (nNat v2) (nNat (qan v v2))) v2)],.bool (qdF 5 (sSub v (nNat v2) (nNat (qan v v2))) v2)])) .fail) .fail)) .fail) (.ite (qeT v v2) (.ite (qaw (qal v2) (qal (iAdd .i64 v2 (qbr v v2))) (nNat v2) (nNat (iAdd .i64 v2 (qbr v v2))) (nLen v)) (.ite (iEq (iAdd .i64 v2 (qbr v v2)) v2) (.ret (.tup [.agg [.int .i64 0,.str [],.int .i64 0,.int .i64 0,.str [],.int .i64 0],.bool false])) (.ite (iLt 64 (sLen (sSub v (nNat v2) (nNat (iAdd .i64 v2 (qbr v v2)))))) (.ret (.tup [.agg [.int .i64 0,.str [],.int .i64 0,.int .i64 0,.str [],.int .i64 0],.bool false])) (.ite (iEq 6 3) (.ite (iNe (iAdd .i64 v2 (qbr v v2)) (iAdd .i64 v2 1)) (.ret (.tup [.agg [.int .i64 0,.str [],.int .i64 0,.int .i64 0,.str [],.int .i64 0],.bool false])) (.ret (.tup [.agg
 [.int .i64 6,.str (sSub v (nNat v2) (nNat (iAdd .i64 v2 (qbr v v2)))),.int .i64 0,.int .i64 0,.str [],.int .i64 v2],.bool true]))) (.ret (.tup [.agg [.int .i64 6,.str (sSub v (nNat v2) (nNat (iAdd .i64 v2 (qbr v v2)))),.int .i64 0,.int .i64 0,.str [],.int .i64 v2],.bool true]))))) .fail) .fail)))) .fail))) .fail)) .fail) .fail
theorem qGA (v:List UInt8) (v2:Int):(tcall tbT qtT qzv Tryz.f68 [.str v,.int .i64 v2]).flat=qr7 v v2:=by kernel_rfl
noncomputable def qfE (v:List UInt8) (v2:Int):Option PV:=(qr7 v v2).run
noncomputable def qdv (v:List UInt8) (v2:Int):Int:=(gInt (gAt (gCs (gAt (gCs (gVal (qfE v v2))) 0)) 0))
noncomputable def qcx (v:List UInt8) (v2:Int):List UInt8:=(gStr (gAt (gCs (gAt (gCs (gVal (qfE v v2))) 0)) 1))
noncomputable def qcz (v:List UInt8) (v2:Int):Int:=(gInt (gAt (gCs (gAt (gCs (gVal (qfE v v2))) 0)) 2))
noncomputable def qcB (v:List UInt8) (v2:Int):Int:=(gInt (gAt (gCs (gAt (gCs (gVal (qfE v v2))) 0)) 3))
noncomputable def qcC (v:List UInt8) (v2:Int):List UInt8:=(gStr (gAt (gCs (gAt (gCs (gVal (qfE v v2))) 0)) 4))
noncomputable def qcA (v:List UInt8) (v2:Int):Int:=(gInt (gAt (gCs (gAt (gCs (gVal (qfE v v2))) 0)) 5))
noncomputable def qfG (v:List UInt8) (v2:Int):Bool:=(qcc (gAt (gCs (gVal (qfE v v2))) 1))
noncomputable def qfc (v:List UInt8) (v2:Int):Bool:=isW (qfE v v2) (.tup [.agg [.int .i64 (qdv v v2),.str (qcx v v2),.int .i64 (qcz v v2),.int .i64 (qcB v v2),.str (qcC v v2),.int .i64 (qcA v v2)],.bool (qfG v v2)])
noncomputable def qul:List PV→Tr PV | [.str v,.int .i64 v2]=>.ite (qfc v v2) (.ret (.tup [.agg [.int .i64 (qdv v v2),.str (qcx v v2),.int .i64 (qcz v v2),.int .i64 (qcB v v2),.str (qcC v v2),.int .i64 (qcA v v2)],.bool (qfG v v2)])) (.fail) | _=>.fail
theorem qA9 (gl:Gl):SimP Tryz.prog gl 68 fun args=>(qul args).run:=by
 refine SimP.of_flat (G:=qtT) (L:=qzv) qaj (qB6 gl ) qah  Tryz.func68 rfl (by rfl) (by kernel_rfl) (qae (by kernel_rfl)) ?_
 intro args x h
 unfold qul at h
 split at h
 ·exact (congrArg Tr.run (qGA _ _)).trans (qai h fun h=>by cases h)
 ·cases h
noncomputable def qh8:GamT:=ofL [(67,.pure qAt),(68,.pure qul)]
theorem qpZ (gl:Gl):qaJ Tryz.prog gl (gam qh8):=(qad (qCL gl) (qad (qA9 gl) qag))
noncomputable def qhF:Code:=qhg Tryz.f38 5
def qhB:LI:=⟨39,[0,5,6],fun e=>match e with | .ret=>[2,3,4] | .exit 0=>[5] | _=>[],true⟩
noncomputable def qif:LpsT:=fun r fr σ=>.fail
noncomputable def qbW (vs:List PV) (σ:Store):Option (PExit × List PV × Store):=lval (lstep tbT qh8 qif qhF qhB) vs σ
noncomputable def qf9 (s:List UInt8) (out:List (List PV)) (at_:Int):Tr LR:=.ite (iLt at_ (sLen s)) (.ite (qfc s at_) (.ite (bNot (qfG s at_)) (.ret (.out .ret [.sl (qam 0 []) .full,.int .i64 at_,.int .i64 120] ⟨[],[],[]⟩)) (.ite (qaF out [[.int .i64 (qdv s at_),.str (qcx s at_),.int .i64 (qcz s at_),.int .i64 (qcB s at_),.str (qcC s at_),.int .i64 (qcA s at_)]] 64) (.ite (qaB [[.int .i64 (qdv s at_),.str (qcx s at_),.int .i64 (qcz s at_),.int .i64 (qcB s at_),.str (qcC s at_),.int .i64 (qcA s at_)]] 6) (.ite (qav out 6) (.ite (qfi s (iAdd .i64 at_ (sLen (qcx s at_)))) (.ret (.next [.str s,.sl (qam 0 (xApp out [[.int .i64 (qdv s at_),.str (qcx s at_),.int .i64 (qcz s at_),.int .i64 (qcB s at_),.str (qcC s at_),.int .i64 (qcA s at_)]])) (.tok 0),.int .i64 (qc3 s (iAdd .i64 at_ (sLen (qcx s at_))))] (Store.mk [] [(nXs (xApp out [[.int .i64 (qdv s at_),.str (qcx s at_),.int .i64 (qcz s at_),.int .i64 (qcB s at_),.str (qcC s at_),.int .i64 (qcA s at_)]]),6,120)] []))) .fail) .fail) .fail) .fail)) .fail) (.ret (.out (.exit 0) [.sl out .full] ⟨[],[],[]⟩))
theorem qBs (s:List UInt8) (out:List (List PV)) (at_:Int):lstep tbT qh8 qif qhF qhB [.str s,.sl out .full,.int .i64 at_] ⟨[],[],[]⟩=qf9 s out at_:=by kernel_rfl
theorem qoU (s:List UInt8) (out:List (List PV)) (at_:Int):qbW [.str s,.sl out .full,.int .i64 at_] ⟨[],[],[]⟩=lnext qbW (qf9 s out at_).run:=by unfold qbW; rw [qb7,qBs]
noncomputable def qeQ (s:List UInt8) (out:List (List PV)) (at_:Int) (k:Nat):Tr LR:=.ite (iLt at_ (sLen s)) (.ite (qfc s at_) (.ite (bNot (qfG s at_)) (.ret (.out .ret [.sl (qam 0 []) .full,.int .i64 at_,.int .i64 120] (Store.mk [] [(k,6,120)] []))) (.ite (qaF out [[.int .i64 (qdv s at_),.str (qcx s at_),.int .i64 (qcz s at_),.int .i64 (qcB s at_),.str (qcC s at_),.int .i64 (qcA s at_)]] 64) (.ite (qaB [[.int .i64 (qdv s at_),.str (qcx s at_),.int .i64 (qcz s at_),.int .i64 (qcB s at_),.str (qcC s at_),.int .i64 (qcA s at_)]] 6) (.ite (qav out 6) (.ite (nEq k (nXs out)) (.ite (qfi s (iAdd .i64 at_ (sLen (qcx s at_)))) (.ret (.next [.str s,.sl (qam 0 (xApp out [[.int .i64 (qdv s at_),.str (qcx s at_),.int .i64 (qcz s at_),.int .i64 (qcB s at_),.str (qcC s at_),.int .i64 (qcA s at_)]])) (.tok 0),.int .i64 (qc3 s (iAdd .i64 at_ (sLen (qcx s at_))))] (Store.mk [] [(nXs (xApp out [[.int .i64 (qdv s at_),.str (qcx s at_),.int .i64 (qcz s at_),.int .i64 (qcB s at_),.str (qcC s at_),.int .i64 (qcA s at_)]]),6,120)] []))) .fail) .fail) .fail) .fail) .fail)) .fail) (.ret (.out (.exit 0) [.sl out (.tok 0)] (Store.mk [] [(k,6,120)] [])))
theorem qyM (s:List UInt8) (out:List (List PV)) (at_:Int) (k:Nat):lstep tbT qh8 qif qhF qhB [.str s,.sl out (.tok 0),.int .i64 at_] ⟨[],[(k,6,120)],[]⟩=qeQ s out at_ k:=by kernel_rfl
theorem qkY (s:List UInt8) (out:List (List PV)) (at_:Int) (k:Nat):qbW [.str s,.sl out (.tok 0),.int .i64 at_] ⟨[],[(k,6,120)],[]⟩=lnext qbW (qeQ s out at_ k).run:=by unfold qbW; rw [qb7,qyM]
noncomputable def qbD (s:List UInt8) (out:List (List PV)) (at_:Int):Option (PExit × List PV × Store):=qbW [.str s,.sl out .full,.int .i64 at_] ⟨[],[],[]⟩
noncomputable def qdg (s:List UInt8) (out:List (List PV)) (at_:Int):List (List PV):=(gRow (gOut (qbD s out at_) 0))
noncomputable def qda (s:List UInt8) (out:List (List PV)) (at_:Int):Int:=(gInt (gOut (qbD s out at_) 1))
noncomputable def qcE (s:List UInt8) (out:List (List PV)) (at_:Int):Int:=(gInt (gOut (qbD s out at_) 2))
noncomputable def qdY (s:List UInt8) (out:List (List PV)) (at_:Int):Bool:=isW (qbD s out at_) (.ret,[.sl (qdg s out at_) .full,.int .i64 (qda s out at_),.int .i64 (qcE s out at_)],⟨[],[],[]⟩)
noncomputable def qcg (s:List UInt8) (out:List (List PV)) (at_:Int):List (List PV):=(gRow (gOut (qbD s out at_) 0))
noncomputable def qd9 (s:List UInt8) (out:List (List PV)) (at_:Int):Bool:=isW (qbD s out at_) ((.exit 0),[.sl (qcg s out at_) .full],⟨[],[],[]⟩)
noncomputable def qdh (s:List UInt8) (out:List (List PV)) (at_:Int):List (List PV):=(gRow (gOut (qbD s out at_) 0))
noncomputable def qde (s:List UInt8) (out:List (List PV)) (at_:Int):Int:=(gInt (gOut (qbD s out at_) 1))
noncomputable def qcQ (s:List UInt8) (out:List (List PV)) (at_:Int):Int:=(gInt (gOut (qbD s out at_) 2))
noncomputable def qdT (s:List UInt8) (out:List (List PV)) (at_:Int):Nat:=(gTok (qbD s out at_) 0)
noncomputable def qdZ (s:List UInt8) (out:List (List PV)) (at_:Int):Bool:=isW (qbD s out at_) (.ret,[.sl (qdh s out at_) .full,.int .i64 (qde s out at_),.int .i64 (qcQ s out at_)],⟨[],[((qdT s out at_),6,120)],[]⟩)
noncomputable def qci (s:List UInt8) (out:List (List PV)) (at_:Int):List (List PV):=(gRow (gOut (qbD s out at_) 0))
noncomputable def qdU (s:List UInt8) (out:List (List PV)) (at_:Int):Nat:=(gTok (qbD s out at_) 0)
noncomputable def qdM (s:List UInt8) (out:List (List PV)) (at_:Int):Bool:=isW (qbD s out at_) ((.exit 0),[.sl (qci s out at_) (.tok 0)],⟨[],[((qdU s out at_),6,120)],[]⟩)
noncomputable def qfw:List PV→Store→Tr (PExit × List PV × Store) | [.str s,.sl out .full,.int .i64 at_],⟨[],[],[]⟩=>.ite (qdY s out at_) (.ret (.ret,[.sl (qdg s out at_) .full,.int .i64 (qda s out at_),.int .i64 (qcE s out at_)],⟨[],[],[]⟩)) (.ite (qd9 s out at_) (.ret ((.exit 0),[.sl (qcg s out at_) .full],⟨[],[],[]⟩)) (.ite (qdZ s out at_) (.ret (.ret,[.sl (qdh s out at_) .full,.int .i64 (qde s out at_),.int .i64 (qcQ s out at_)],⟨[],[((qdT s out at_),6,120)],[]⟩)) (.ite (qdM s out at_) (.ret ((.exit 0),[.sl (qci s out at_) (.tok 0)],⟨[],[((qdU s out at_),6,120)],[]⟩)) (.fail)))) | _,_=>.fail
theorem qyG:∀ vs σ r,(qfw vs σ).run=some r→qbW vs σ=some r:=by
 intro vs σ r h
 unfold qfw at h
 split at h
 ·exact qai h fun h=>qai h fun h=>qai h fun h=>qai h fun h=>by cases h
 ·cases h
theorem qsC (gl:Gl):∀ fr σ e fr' σ',(orc qhB qfw fr σ).run=some (e,fr',σ')→LDoes Tryz.prog gl qhF fr σ e fr' σ':=qdI qaj (qpZ gl ) qah (L:=qif) (qae (by kernel_rfl)) (by kernel_rfl) qyG
noncomputable def qqw:LpsT:=fun r fr σ=>bif Nat.beq r 5 then orc qhB qfw fr σ else .fail
noncomputable def qo0 (s:List UInt8):Tr PV:=.ite (iLt 65536 (sLen s)) (.ret (.tup [.sl [] .non,.int .i64 0,.int .i64 2])) (.ite (qfi s 0) (.ite (qdY s [] (qc3 s 0)) (.ret (.tup [.sl (qcM (qdg s [] (qc3 s 0))) .non,.int .i64 (qda s [] (qc3 s 0)),.int .i64 (qcE s [] (qc3 s 0))])) (.ite (qd9 s [] (qc3 s 0)) (.ret (.tup [.sl (qcM (qcg s [] (qc3 s 0))) .non,.int .i64 0,.int .i64 0])) (.ite (qdZ s [] (qc3 s 0)) (.ret (.tup [.sl (qcM (qdh s [] (qc3 s 0))) .non,.int .i64 (qde s [] (qc3 s 0)),.int .i64 (qcQ s [] (qc3 s 0))])) (.ite (qdM s [] (qc3 s 0)) (.ret (.tup [.sl (qcM (qci s [] (qc3 s 0))) .non,.int .i64 0,.int .i64 0])) .fail)))) .fail)
theorem qDN (s:List UInt8):(tcall tbT qh8 qqw Tryz.f38 [.str s]).flat=qo0 s:=by kernel_rfl
noncomputable def qgu (s:List UInt8):Option PV:=(qo0 s).run
noncomputable def qev (s:List UInt8):List (List PV):=(gRow (gAt (gCs (gVal (qgu s))) 0))
noncomputable def qm0 (s:List UInt8):Int:=(gInt (gAt (gCs (gVal (qgu s))) 1))
noncomputable def qhD (s:List UInt8):Int:=(gInt (gAt (gCs (gVal (qgu s))) 2))
noncomputable def qib (s:List UInt8):Bool:=isW (qgu s) (.tup [.sl (qev s) .non,.int .i64 (qm0 s),.int .i64 (qhD s)])
noncomputable def qrJ:List PV→Tr PV | [.str s]=>.ite (qib s) (.ret (.tup [.sl (qev s) .non,.int .i64 (qm0 s),.int .i64 (qhD s)])) (.fail) | _=>.fail
theorem qye (gl:Gl):SimP Tryz.prog gl 38 fun args=>(qrJ args).run:=by
 refine SimP.of_flat (G:=qh8) (L:=qqw) qaj (qpZ gl ) qah  Tryz.func38 rfl (by rfl) (by kernel_rfl) (qbt (L:=lps qqw) [(5,qhF)] (by kernel_rfl) (List.forall_mem_cons.2 ⟨fun fr σ e fr' σ' h=>qsC gl  fr σ e fr' σ' h,(List.forall_mem_nil _)⟩)) ?_
 intro args x h
 unfold qrJ at h
 split at h
 ·exact (congrArg Tr.run (qDN _)).trans (qai h fun h=>by cases h)
 ·cases h
end Go.Pv
set_option maxHeartbeats 8000000
set_option maxRecDepth 200000
set_option linter.unusedSimpArgs false
set_option linter.unusedVariables false
namespace Go.Pv
open Go Go.Proofs Go.RowKit
theorem qqo (c:Int):qmx c=some (.bool (smI c)):=by
 unfold qmx qnB smI
 by_cases h:(97:Int)≤c <;> simp [h]
@[simp] theorem qhO (c:Int):qfI c=true:=by simp [qfI,qgI,qqo]
@[simp] theorem qj3 (c:Int):qgI c=smI c:=by simp [qgI,qqo]
theorem qqa (c:Int):qmJ c=some (.bool (grI c)):=by
 unfold qmJ qnI grI
 by_cases h:(65:Int)≤c <;> simp [h]
@[simp] theorem qhp (c:Int):qd2 c=true:=by simp [qd2,qey,qqa]
@[simp] theorem qkQ (c:Int):qey c=grI c:=by simp [qey,qqa]
theorem qqq (c:Int):qmd c=some (.bool (dgI c)):=by
 unfold qmd qoE dgI
 by_cases h:(48:Int)≤c <;> simp [h]
@[simp] theorem qsJ (c:Int):qd8 c=true:=by simp [qd8,qer,qqq]
@[simp] theorem qwL (c:Int):qer c=dgI c:=by simp [qer,qqq]
theorem qqh (c:Int):qmw c=some (.bool (inI c)):=by
 unfold qmw qnJ inI
 cases h1:smI c <;> cases h2:grI c <;> cases h3:dgI c <;> simp [h1,h2,h3]
@[simp] theorem rinner_is (c:Int):qij c=true:=by simp [qij,qh9,qqh]
@[simp] theorem rinner_v (c:Int):qh9 c=inI c:=by simp [qh9,qqh]
def blI (c:Int):Bool:=decide (c=32) || decide (c=9) || decide (c=10) || decide (c=13)
theorem qEb (b:UInt8):blI (b.toNat:Int)=blB b:=by
 unfold blI blB
 congr 1
 ·congr 1
  ·congr 1 <;> (apply decide_eq_decide.2; omega)
  ·apply decide_eq_decide.2; omega
 ·apply decide_eq_decide.2; omega
theorem qpx (c:Int):qmS c=some (.bool (blI c)):=by
 unfold qmS qnk blI
 by_cases h1:c=32 <;> by_cases h2:c=9 <;> by_cases h3:c=10 <;> simp [h1,h2,h3]
@[simp] theorem qsF (c:Int):qhW c=true:=by simp [qhW,qgB,qpx]
@[simp] theorem rblank_v (c:Int):qgB c=blI c:=by simp [qgB,qpx]
theorem qyI (s:List UInt8) (hs:s.length < 9223372036854775807):∀ (m i:Nat),i+m=s.length→qic [.str s,.int .i64 (i:Nat)] ⟨[],[],[]⟩=some (.exit 0,[.int .i64 ((i+runL innB (s.drop i):Nat):Int)],⟨[],[],[]⟩):=by
 intro m
 induction m with
 | zero =>
  intro i hi
  rw [qxg,List.drop_eq_nil_of_le (by omega)]
  have:¬ (i:Int) < s.length:=by omega
  simp [qhq,runL,this]
 | succ m ih =>
  intro i hi
  obtain ⟨b,hb⟩:=qen (l:=s) (i:=i) (by omega)
  have hbe:=(List.getElem?_eq_some_iff.1 hb).2
  have w:=qbP (i:=i) (by omega)
  have hlt:i < s.length:=by omega
  have h1:=ih (i+1) (by omega)
  rw [qbs hb,qxg]
  cases hc:innB b with
  | true =>
   have e:i+(runL innB (s.drop (i+1))+1)=i+1+runL innB (s.drop (i+1)):=by omega
   simp only [runL,hc,if_true,e]
   rw [← h1]
   simp [qhq,hlt,hbe,qkg,hc,w]
  | false=>simp [qhq,hlt,hbe,qkg,hc,runL]
theorem qtd {s:List UInt8} (hs:s.length < 9223372036854775807) {i:Nat} (hi:i≤s.length):qrA s (i:Nat)=some (.int .i64 ((i+runL innB (s.drop i):Nat):Int)):=by
 have h:=qyI s hs (s.length - i) i (by omega)
 unfold qrA qr4
 simp only [qk2,qh3,qrX,h]
 simp
theorem qC9 {s:List UInt8} (hs:s.length < 9223372036854775807) {i:Nat} (hi:i≤s.length):qfH s (i:Nat)=true:=by simp only [qfH,qba,qtd hs hi]; simp
theorem qE5 {s:List UInt8} (hs:s.length < 9223372036854775807) {i:Nat} (hi:i≤s.length):qba s (i:Nat)=((i+runL innB (s.drop i):Nat):Int):=by simp only [qba,qtd hs hi]; simp
theorem qti (s:List UInt8) (hs:s.length < 9223372036854775807):∀ (m i:Nat),i+m=s.length→qeB [.str s,.int .i64 (i:Nat)] ⟨[],[],[]⟩=some (.exit 0,[.int .i64 ((i+runL qaW (s.drop i):Nat):Int)],⟨[],[],[]⟩):=by
 intro m
 induction m with
 | zero =>
  intro i hi
  rw [qpQ,List.drop_eq_nil_of_le (by omega)]
  have:¬ (i:Int) < s.length:=by omega
  simp [qeS,runL,this]
 | succ m ih =>
  intro i hi
  obtain ⟨b,hb⟩:=qen (l:=s) (i:=i) (by omega)
  have hbe:=(List.getElem?_eq_some_iff.1 hb).2
  have w:=qbP (i:=i) (by omega)
  have hlt:i < s.length:=by omega
  have h1:=ih (i+1) (by omega)
  rw [qbs hb,qpQ]
  cases hc:qaW b with
  | true =>
   have e:i+(runL qaW (s.drop (i+1))+1)=i+1+runL qaW (s.drop (i+1)):=by omega
   simp only [runL,hc,if_true,e]
   rw [← h1]
   simp [qeS,hlt,hbe,qdu,hc,w]
  | false=>simp [qeS,hlt,hbe,qdu,hc,runL]
theorem qnp {s:List UInt8} (hs:s.length < 9223372036854775807) {i:Nat} (hi:i≤s.length):qj0 s (i:Nat)=some (.int .i64 ((i+runL qaW (s.drop i):Nat):Int)):=by
 have h:=qti s hs (s.length - i) i (by omega)
 unfold qj0 qlJ
 simp only [qhK,qfr,qlv,h]
 simp
theorem qxV {s:List UInt8} (hs:s.length < 9223372036854775807) {i:Nat} (hi:i≤s.length):qdK s (i:Nat)=true:=by simp only [qdK,qbd,qnp hs hi]; simp
theorem qB2 {s:List UInt8} (hs:s.length < 9223372036854775807) {i:Nat} (hi:i≤s.length):qbd s (i:Nat)=((i+runL qaW (s.drop i):Nat):Int):=by simp only [qbd,qnp hs hi]; simp
theorem qAk (s:List UInt8) (hs:s.length < 9223372036854775807):∀ (m i:Nat) (c:Bool),i+m=s.length→qk8 [.str s,.int .i64 (i:Nat),.bool c] ⟨[],[],[]⟩=some (.exit 0,[.int .i64 ((i+gapL c (s.drop i):Nat):Int)],⟨[],[],[]⟩):=by
 intro m
 induction m with
 | zero =>
  intro i c hi
  rw [qz8,List.drop_eq_nil_of_le (by omega)]
  have:¬ (i:Int) < s.length:=by omega
  simp [qjR,gapL,this]
 | succ m ih =>
  intro i c hi
  obtain ⟨b,hb⟩:=qen (l:=s) (i:=i) (by omega)
  have hbe:=(List.getElem?_eq_some_iff.1 hb).2
  have w:=qbP (i:=i) (by omega)
  have hlt:i < s.length:=by omega
  rw [qbs hb,qz8]
  have q1:iEq (sAt s (i:Int)) 37=decide (b.toNat=37):=by simp [hlt,hbe]; omega
  have q2:iNe (sAt s (i:Int)) 10=decide (b.toNat≠10):=by simp [hlt,hbe]; omega
  have q3:qgB (sAt s (i:Int))=blB b:=by simp [hlt,hbe,qEb]
  have q4:qap s (i:Int)=true:=by simp; omega
  have q5:iLt (i:Int) (sLen s)=true:=by simp; omega
  have h1:=ih (i+1) (decide (b.toNat=37) || c && decide (b.toNat≠10)) (by omega)
  cases hg:(c || blB b || decide (b.toNat=37)) with
  | true =>
   have e:gapL c (b :: s.drop (i+1))=gapL (decide (b.toNat=37) || c && decide (b.toNat≠10)) (s.drop (i+1))+1:=by
    simp only [gapL,hg,if_true]
   rw [e,show i+(gapL (decide (b.toNat=37) || c && decide (b.toNat≠10)) (s.drop (i+1))+1)=i+1+gapL (decide (b.toNat=37) || c && decide (b.toNat≠10)) (s.drop (i+1)) from by omega,← h1]
   simp only [qjR,q1,q2,q3,q4,q5,qsF,w]
   cases c <;> cases hb2:blB b <;> by_cases h37:b.toNat=37 <;> simp [hb2,h37] at hg ⊢
  | false =>
   have e:gapL c (b :: s.drop (i+1))=0:=by
    simp only [gapL,hg,Bool.false_eq_true,if_false]
   rw [e]
   simp only [Bool.or_eq_false_iff,decide_eq_false_iff_not] at hg
   obtain ⟨⟨rfl,hb2⟩,h37⟩:=hg
   simp only [qjR,q1,q2,q3,q4,q5,qsF,w,hb2]
   simp [h37]
theorem qww {s:List UInt8} (hs:s.length < 9223372036854775807) {i:Nat} (hi:i≤s.length):qwi s (i:Nat)=some (.int .i64 ((i+gapL false (s.drop i):Nat):Int)):=by
 have h:=qAk s hs (s.length - i) i false (by omega)
 unfold qwi qvC
 simp only [qou,qkh,qu8,h]
 simp
theorem qA6 {s:List UInt8} (hs:s.length < 9223372036854775807) {i:Nat} (hi:i≤s.length):qfi s (i:Nat)=true:=by simp only [qfi,qc3,qww hs hi]; simp
theorem qEx {s:List UInt8} (hs:s.length < 9223372036854775807) {i:Nat} (hi:i≤s.length):qc3 s (i:Nat)=((i+gapL false (s.drop i):Nat):Int):=by simp only [qc3,qww hs hi]; simp
theorem qto (s:List UInt8) (hs:s.length < 9223372036854775800):∀ (m i:Nat),s.length≤i+m→i≤s.length+1→qdk [.str s,.int .i64 (i:Nat)] ⟨[],[],[]⟩=qOut i (quoE false (s.drop i)):=by
 have hend:∀ i:Nat,s.length≤i→qdk [.str s,.int .i64 (i:Nat)] ⟨[],[],[]⟩=some (.exit 0,[],⟨[],[],[]⟩):=fun i hi=>by
  rw [qpU]
  have:¬ (i:Int) < s.length:=by omega
  simp [qdW,this]
 intro m
 induction m with
 | zero =>
  intro i hi _
  rw [hend i (by omega),List.drop_eq_nil_of_le (by omega)]
  simp [quoE,qOut]
 | succ m ih =>
  intro i hi hi2
  by_cases hlt:i < s.length
  ·obtain ⟨b,hb⟩:=qen (l:=s) (i:=i) hlt
   have hbe:=(List.getElem?_eq_some_iff.1 hb).2
   have w:=qbP (i:=i) (by omega)
   have w2:=qbP (i:=i+1) (by omega)
   have h1:=ih (i+1) (by omega) (by omega)
   rw [qbs hb,qpU]
   simp only [quoE]
   have t1:iLt (i:Int) (sLen s)=true:=by simp; omega
   have t2:qap s (i:Int)=true:=by simp; omega
   have t3:sAt s (i:Int)=b.toNat:=by simp [hbe,hlt]
   by_cases hq:b.toNat=34
   ·rw [if_pos hq]
    simp only [qdW,t1,t2,t3]
    simp [hq,w,qOut]
   ·rw [if_neg hq]
    have hq':¬ ((b.toNat:Int)=34):=by omega
    by_cases hp:b.toNat=92
    ·rw [if_pos hp,qiJ]
     have e1:qdk [.str s,.int .i64 (iAdd .i64 (iAdd .i64 (i:Int) 1) 1)] ⟨[],[],[]⟩=qOut (i+1) (quoE true (s.drop (i+1))):=by
      rw [w,w2]
      by_cases hl2:i+1 < s.length
      ·obtain ⟨c,hc⟩:=qen (l:=s) (i:=i+1) hl2
       rw [qbs hc]
       simp only [quoE]
       rw [qiJ]
       exact ih (i+1+1) (by omega) (by omega)
      ·rw [hend (i+1+1) (by omega),List.drop_eq_nil_of_le (by omega)]
       simp [quoE,qOut]
     rw [← e1]
     simp only [qdW,t1,t2,t3]
     simp [hp]
    ·have hp':¬ ((b.toNat:Int)=92):=by omega
     rw [if_neg hp,qiJ,← h1,← w]
     simp only [qdW,t1,t2,t3]
     simp [hq',hp']
  ·rw [hend i (by omega),List.drop_eq_nil_of_le (by omega)]
   simp [quoE,qOut]
theorem qot {s:List UInt8} (hs:s.length < 9223372036854775800) {i:Nat} (hi:i < s.length):qjP s (i:Nat)=some (.int .i64 (if quoL (s.drop (i+1))=0 then -1 else ((i+1+quoL (s.drop (i+1)):Nat):Int))):=by
 have h:=qto s hs (s.length - (i+1)) (i+1) (by omega) (by omega)
 have w:=qbP (i:=i) (by omega)
 unfold qjP qlX
 rw [w]
 unfold qOut at h
 rw [show quoE false (s.drop (i+1))=quoL (s.drop (i+1)) from rfl] at h
 by_cases h0:quoL (s.drop (i+1))=0
 ·rw [if_pos h0] at h ⊢
  simp only [qfm,qfA,qef,qfT,h]
  simp
 ·rw [if_neg h0] at h ⊢
  simp only [qfm,qfA,qef,qfT,h]
  simp
theorem qxA {s:List UInt8} (hs:s.length < 9223372036854775800) {i:Nat} (hi:i < s.length):qdc s (i:Nat)=true:=by simp only [qdc,qan,qot hs hi]; simp
theorem qBy {s:List UInt8} (hs:s.length < 9223372036854775800) {i:Nat} (hi:i < s.length):qan s (i:Nat)=(if quoL (s.drop (i+1))=0 then -1 else ((i+1+quoL (s.drop (i+1)):Nat):Int)):=by simp only [qan,qot hs hi]; simp
theorem qpA {s:List UInt8} (hs:s.length≤140737488355328) (k at_:Int):qee k s at_=some (if eRd s=0 then wTup k s (kRd s,nRd s,sRd s) at_ true else wTup 0 [] (0,0,[]) 0 false):=by
 unfold qee qnT wTup
 by_cases h:eRd s=0 <;> simp [hs,h]
theorem qoz {s:List UInt8} (hs:s.length≤140737488355328) (k at_:Int):qcZ k s at_=true:=by
 simp only [qcZ,qdx,qdC,qcS,qcD,qcI,qcF,qdF,qpA hs]
 by_cases h:eRd s=0 <;> simp [h,wTup]
theorem qr3 {s:List UInt8} (hs:s.length≤140737488355328) (k at_:Int):(PV.tup [.agg [.int .i64 (qdx k s at_),.str (qdC k s at_),.int .i64 (qcS k s at_),.int .i64 (qcD k s at_),.str (qcI k s at_),.int .i64 (qcF k s at_)],.bool (qdF k s at_)])=if eRd s=0 then wTup k s (kRd s,nRd s,sRd s) at_ true else wTup 0 [] (0,0,[]) 0 false:=by
 simp only [qdx,qdC,qcS,qcD,qcI,qcF,qdF,qpA hs]
 by_cases h:eRd s=0 <;> simp [h,wTup]
theorem qs4 {v:List UInt8} (hs:v.length < 9223372036854775800) {i:Nat} {c:UInt8} {t:List UInt8} (hv:v.drop i=c :: t):qrF v (i:Nat)=some (.int .i64 (qea c t:Nat)):=by
 have hl:v.length=i+(t.length+1):=by
  have:=congrArg List.length hv
  simp at this
  omega
 have hc:v[i]?=some c:=by
  have:(v.drop i)[0]?=some c:=by rw [hv]; rfl
  simpa using this
 have hbe:=(List.getElem?_eq_some_iff.1 hc).2
 have e3:sAt v (i:Int)=(c.toNat:Int):=by
  have:i < v.length:=by omega
  simp [this,hbe]
 have q:qap v (i:Int)=true:=by simp; omega
 have k40:iEq (sAt v (i:Int)) 40=decide (c.toNat=40):=by rw [e3]; simp; omega
 have k41:iEq (sAt v (i:Int)) 41=decide (c.toNat=41):=by rw [e3]; simp; omega
 have k44:iEq (sAt v (i:Int)) 44=decide (c.toNat=44):=by rw [e3]; simp; omega
 have k46:iEq (sAt v (i:Int)) 46=decide (c.toNat=46):=by rw [e3]; simp; omega
 have k43:iEq (sAt v (i:Int)) 43=decide (c.toNat=43):=by rw [e3]; simp; omega
 have k45:iEq (sAt v (i:Int)) 45=decide (c.toNat=45):=by rw [e3]; simp; omega
 have k61:iEq (sAt v (i:Int)) 61=decide (c.toNat=61):=by rw [e3]; simp; omega
 have k58:iEq (sAt v (i:Int)) 58=decide (c.toNat=58):=by rw [e3]; simp; omega
 have k60:iEq (sAt v (i:Int)) 60=decide (c.toNat=60):=by rw [e3]; simp; omega
 have k62:iEq (sAt v (i:Int)) 62=decide (c.toNat=62):=by rw [e3]; simp; omega
 have w2:iAdd .i64 (i:Int) 2=((i+2:Nat):Int):=qa2 (by omega)
 have w3:iSub .i64 (sLen v) (i:Int)=((t.length+1:Nat):Int):=by
  rw [qg3]
  unfold iSub
  rw [qa2 (by omega)]
  omega
 have ones:∀ T:Option PV,T=(if c.toNat=40 then some (.int .i64 1) else if c.toNat=41 then some (.int .i64 1) else if c.toNat=44 then some (.int .i64 1) else if c.toNat=46 then some (.int .i64 1) else if c.toNat=43 then some (.int .i64 1) else if c.toNat=45 then some (.int .i64 1) else if c.toNat=61 then some (.int .i64 1) else if c.toNat=58 then some (.int .i64 1) else if c.toNat=60 then some (.int .i64 1) else if c.toNat=62 then some (.int .i64 1) else some (.int .i64 0))→T=some (.int .i64 ((if qiL c then 1 else 0:Nat):Int)):=fun T hT=>by
  rw [hT]
  cases ho:qiL c with
  | true =>
   simp [qiL] at ho
   simp only [if_true]
   repeat' split
   all_goals first | rfl | (exfalso; omega)
  | false =>
   simp [qiL] at ho
   simp only [Bool.false_eq_true,if_false]
   repeat' split
   all_goals first | rfl | (exfalso; omega)
 unfold qrF qrN qea
 rw [w3,w2]
 cases t with
 | nil =>
  have g:iLe 2 (([]:List UInt8).length+1:Nat)=false:=by decide
  rw [g]
  simp only [hdIs,Bool.false_eq_true,if_false]
  refine ones _ ?_
  simp only [k40,k41,k44,k46,k43,k45,k61,k58,k60,k62,q]
  simp
 | cons d u =>
  have g:iLe 2 (((d :: u).length+1:Nat):Int)=true:=by simp; omega
  have g2:qaw (qal (i:Int)) (qal ((i+2:Nat):Int)) (nNat (i:Int)) (nNat ((i+2:Nat):Int)) (nLen v)=true:=by simp at hl ⊢; omega
  have g3:sSub v (nNat (i:Int)) (nNat ((i+2:Nat):Int))=[c,d]:=by
   simp only [qsh,qqT,Int.toNat_natCast]
   rw [List.drop_take,hv,show i+2 - i=2 from by omega]
   rfl
  rw [g,g2,g3]
  have two:∀ a b:UInt8,sEq [c,d] [a,b]=decide (c.toNat=a.toNat∧d.toNat=b.toNat):=fun a b=>by
   simp [← UInt8.toNat_inj]
  rw [two,two,two,two]
  have ht:hdIs (twoB c) (d :: u)=(decide (c.toNat=58∧d.toNat=45) || decide (c.toNat=60∧d.toNat=61) || decide (c.toNat=62∧d.toNat=61) || decide (c.toNat=33∧d.toNat=61)):=rfl
  rw [ht]
  by_cases z1:c.toNat=58∧d.toNat=45
  ·simp [z1]
  ·by_cases z2:c.toNat=60∧d.toNat=61
   ·simp [z2]
   ·by_cases z3:c.toNat=62∧d.toNat=61
    ·simp [z3]
    ·by_cases z4:c.toNat=33∧d.toNat=61
     ·simp [z4]
     ·have y1:decide (c.toNat=(58:UInt8).toNat∧d.toNat=(45:UInt8).toNat)=false:=decide_eq_false z1
      have y2:decide (c.toNat=(60:UInt8).toNat∧d.toNat=(61:UInt8).toNat)=false:=decide_eq_false z2
      have y3:decide (c.toNat=(62:UInt8).toNat∧d.toNat=(61:UInt8).toNat)=false:=decide_eq_false z3
      have y4:decide (c.toNat=(33:UInt8).toNat∧d.toNat=(61:UInt8).toNat)=false:=decide_eq_false z4
      rw [y1,y2,y3,y4,decide_eq_false z1,decide_eq_false z2,decide_eq_false z3,decide_eq_false z4]
      simp only [Bool.or_false,Bool.false_eq_true,if_false]
      refine ones _ ?_
      simp only [k40,k41,k44,k46,k43,k45,k61,k58,k60,k62,q]
      simp
theorem qDc {v:List UInt8} (hs:v.length < 9223372036854775800) {i:Nat} {c:UInt8} {t:List UInt8} (hv:v.drop i=c :: t):qeT v (i:Nat)=true:=by simp only [qeT,qbr,qs4 hs hv]; simp
theorem qFV {v:List UInt8} (hs:v.length < 9223372036854775800) {i:Nat} {c:UInt8} {t:List UInt8} (hv:v.drop i=c :: t):qbr v (i:Nat)=(qea c t:Nat):=by simp only [qbr,qs4 hs hv]; simp
def rOut (v:List UInt8) (i:Nat):Option (Int × Nat × Vl)→PV
 | some (k,m,x)=>wTup k ((v.drop i).take m) x (i:Nat) true
 | none=>wTup 0 [] (0,0,[]) 0 false
theorem qu4 (k:Int) (s:List UInt8) (n:Nat) (v:List UInt8) (i:Nat) (hv:v.drop i=s):rOut v i (valL k s n)=if eRd (s.take n)=0 then wTup k (s.take n) (kRd (s.take n),nRd (s.take n),sRd (s.take n)) (i:Nat) true else wTup 0 [] (0,0,[]) 0 false:=by
 unfold valL eRd kRd nRd sRd rOut
 rw [hv]
 cases h:rdV (s.take n) <;> simp
theorem qzA {v:List UInt8} (hs:v.length≤140737488355328) {i:Nat} {c:UInt8} {t:List UInt8} (hv:v.drop i=c :: t):qfE v (i:Nat)=some (rOut v i (wdL (c :: t))):=by
 have hs1:v.length < 9223372036854775807:=by omega
 have hs2:v.length < 9223372036854775800:=by omega
 have hl:v.length=i+(t.length+1):=by
  have:=congrArg List.length hv
  simp at this
  omega
 have hc:v[i]?=some c:=by
  have:(v.drop i)[0]?=some c:=by rw [hv]; rfl
  simpa using this
 have ht:v.drop (i+1)=t:=by rw [← List.drop_drop,hv]; rfl
 have hbe:=(List.getElem?_eq_some_iff.1 hc).2
 have hlt:i < v.length:=by omega
 have e3:sAt v (i:Int)=(c.toNat:Int):=by simp [hlt,hbe]
 have w:=qbP (i:=i) (by omega)
 -- parts of the text from i
 have hsub:∀ n:Nat,sSub v (nNat (i:Int)) (nNat ((i+n:Nat):Int))=(c :: t).take n:=fun n=>by
  simp only [qsh,qqT,Int.toNat_natCast]
  rw [List.drop_take,hv,show i+n - i=n from by omega]
 have hok:∀ n:Nat,n≤t.length+1→qaw (qal (i:Int)) (qal ((i+n:Nat):Int)) (nNat (i:Int)) (nNat ((i+n:Nat):Int)) (nLen v)=true:=fun n hn=>by simp; omega
 have hne:∀ n:Nat,n≠0→iEq ((i+n:Nat):Int) (i:Int)=false:=fun n hn=>by simp; omega
 have hln:∀ n:Nat,n≤t.length+1→iLt 64 (sLen ((c :: t).take n))=decide (64 < n):=fun n hn=>by
  simp only [qg3,qwj,List.length_take,List.length_cons]
  apply decide_eq_decide.2
  omega
 have q0:qap v (i:Int)=true:=by simp; omega
 have q1:smI (sAt v (i:Int))=qeN c:=by rw [e3,qwh]
 have q2:grI (sAt v (i:Int))=qhn c:=by rw [e3,qv9]
 have q3:iEq (sAt v (i:Int)) 95=decide (c.toNat=95):=by rw [e3]; simp; omega
 have q4:dgI (sAt v (i:Int))=qaW c:=by rw [e3,qdu]
 have q5:iEq (sAt v (i:Int)) 45=decide (c.toNat=45):=by rw [e3]; simp; omega
 have q6:iEq (sAt v (i:Int)) 34=decide (c.toNat=34):=by rw [e3]; simp; omega
 have n1:=qC9 hs1 (i:=i) (by omega)
 have n2:=qE5 hs1 (i:=i) (by omega)
 rw [hv] at n2
 have z23:iEq 2 3=false:=by decide
 have z13:iEq 1 3=false:=by decide
 have z33:iEq 3 3=true:=by decide
 have z63:iEq 6 3=false:=by decide
 have hr1:=qjs innB t
 unfold qfE qr7
 by_cases h1:qeN c=true
 ·have e:runL innB (c :: t)=runL innB t+1:=by simp [runL,innB,h1]
  rw [e] at n2
  have g:qhn c=false:=by
   simp [qeN] at h1
   simp [qhn]
   omega
  simp only [q0,qhO,qj3,qhp,qkQ,q1,q2,h1,g,n1,n2,hok (runL innB t+1) (by omega),hne (runL innB t+1) (by omega),hsub,hln (runL innB t+1) (by omega),z13,wdL,if_true]
  by_cases h64:runL innB t+1≤64
  ·have:¬ 64 < runL innB t+1:=by omega
   simp [this,h64,rOut,wTup,hv]
  ·have:64 < runL innB t+1:=by omega
   simp [this,h64,rOut,wTup]
 ·have h1':qeN c=false:=by simpa using h1
  by_cases h2:qhn c=true
  ·have e:runL innB (c :: t)=runL innB t+1:=by simp [runL,innB,h2]
   rw [e] at n2
   simp only [q0,qhO,qj3,qhp,qkQ,q1,q2,h1',h2,n1,n2,hok (runL innB t+1) (by omega),hne (runL innB t+1) (by omega),hsub,hln (runL innB t+1) (by omega),z23,wdL,if_true,Bool.false_eq_true,if_false]
   by_cases h64:runL innB t+1≤64
   ·have:¬ 64 < runL innB t+1:=by omega
    simp [this,h64,rOut,wTup,hv]
   ·have:64 < runL innB t+1:=by omega
    simp [this,h64,rOut,wTup]
  ·have h2':qhn c=false:=by simpa using h2
   by_cases h3:c.toNat=95
   ·have e:runL innB (c :: t)=runL innB t+1:=by simp [runL,innB,h3]
    rw [e] at n2
    have ee:wdL (c :: t)=if hdIs innB t then none else some (3,1,0,0,[]):=by
     show (if qeN c=true then _ else _)=_
     rw [if_neg h1,if_neg h2,if_pos h3]
    have nn:iNe ((i+(runL innB t+1):Nat):Int) (iAdd .i64 (i:Int) 1)=hdIs innB t:=by
     rw [w]
     cases t with
     | nil=>simp [runL,hdIs]
     | cons d u =>
      simp only [runL,hdIs]
      cases innB d <;> simp <;> omega
    rw [ee]
    simp only [q0,qhO,qj3,qhp,qkQ,q1,q2,h1',h2',q3,h3,decide_true,n1,n2,hok (runL innB t+1) (by omega),hne (runL innB t+1) (by omega),hsub,hln (runL innB t+1) (by omega),z33,nn]
    cases hh:hdIs innB t with
    | true =>
     by_cases h64:64 < runL innB t+1 <;> simp [h64,rOut,wTup]
    | false =>
     have r0:runL innB t=0:=by
      cases t with
      | nil=>rfl
      | cons d u=>simp [hdIs] at hh; simp [runL,hh]
     rw [r0]
     simp [rOut,wTup,hv]
   ·have val:∀ (k:Int) (n:Nat),n≤t.length+1→((c :: t).take n).length≤140737488355328:=fun k n hn=>by rw [List.length_take]; simp; omega
    have hr2:=qjs qaW t
    have d1:qdK v ((i+1:Nat):Int)=true:=qxV hs1 (by omega)
    have d2:qbd v ((i+1:Nat):Int)=((i+(runL qaW t+1):Nat):Int):=by
     rw [qB2 hs1 (by omega),ht]
     congr 1
     omega
    by_cases h4:qaW c=true
    ·have ee:wdL (c :: t)=valL 4 (c :: t) (runL qaW t+1):=by
      show (if qeN c=true then _ else _)=_
      rw [if_neg h1,if_neg h2,if_neg h3,if_pos (by simp [h4])]
     rw [ee,qu4 4 (c :: t) _ v i hv]
     simp only [q0,qhO,qj3,qhp,qkQ,q1,q2,h1',h2',q3,decide_eq_false h3,qsJ,qwL,q4,h4,w,d1,d2,hok (runL qaW t+1) (by omega),hsub,qoz (val 4 (runL qaW t+1) (by omega)),qr3 (val 4 (runL qaW t+1) (by omega))]
     rfl
    ·have h4':qaW c=false:=by simpa using h4
     -- a symbol,or a mark
     have rest:∀ T:Tr PV,(c.toNat=45→hdIs qaW t=false)→T.run=(Tr.ite (iEq (sAt v (i:Int)) 34)
       (Tr.ite (qdc v (i:Int))
        (Tr.ite (iLt (qan v (i:Int)) 0)
         (Tr.ret (PV.tup [PV.agg [PV.int .i64 0,PV.str [],PV.int .i64 0,PV.int .i64 0,PV.str [],PV.int .i64 0],PV.bool false]))
         (Tr.ite (qaw (qal (i:Int)) (qal (qan v (i:Int))) (nNat (i:Int)) (nNat (qan v (i:Int))) (nLen v))
          (Tr.ite (qcZ 5 (sSub v (nNat (i:Int)) (nNat (qan v (i:Int)))) (i:Int))
           (Tr.ret (PV.tup [PV.agg [PV.int .i64 (qdx 5 (sSub v (nNat (i:Int)) (nNat (qan v (i:Int)))) (i:Int)),PV.str (qdC 5 (sSub v (nNat (i:Int)) (nNat (qan v (i:Int)))) (i:Int)),PV.int .i64 (qcS 5 (sSub v (nNat (i:Int)) (nNat (qan v (i:Int)))) (i:Int)),PV.int .i64 (qcD 5 (sSub v (nNat (i:Int)) (nNat (qan v (i:Int)))) (i:Int)),PV.str (qcI 5 (sSub v (nNat (i:Int)) (nNat (qan v (i:Int)))) (i:Int)),PV.int .i64 (qcF 5 (sSub v (nNat (i:Int)) (nNat (qan v (i:Int)))) (i:Int))],PV.bool (qdF 5 (sSub v (nNat (i:Int)) (nNat (qan v (i:Int)))) (i:Int))]))
           Tr.fail)
          Tr.fail))
        Tr.fail)
       (Tr.ite (qeT v (i:Int))
        (Tr.ite (qaw (qal (i:Int)) (qal (iAdd .i64 (i:Int) (qbr v (i:Int)))) (nNat (i:Int)) (nNat (iAdd .i64 (i:Int) (qbr v (i:Int)))) (nLen v))
         (Tr.ite (iEq (iAdd .i64 (i:Int) (qbr v (i:Int))) (i:Int))
          (Tr.ret (PV.tup [PV.agg [PV.int .i64 0,PV.str [],PV.int .i64 0,PV.int .i64 0,PV.str [],PV.int .i64 0],PV.bool false]))
          (Tr.ite (iLt 64 (sLen (sSub v (nNat (i:Int)) (nNat (iAdd .i64 (i:Int) (qbr v (i:Int)))))))
           (Tr.ret (PV.tup [PV.agg [PV.int .i64 0,PV.str [],PV.int .i64 0,PV.int .i64 0,PV.str [],PV.int .i64 0],PV.bool false]))
           (Tr.ite (iEq 6 3)
            (Tr.ite (iNe (iAdd .i64 (i:Int) (qbr v (i:Int))) (iAdd .i64 (i:Int) 1))
             (Tr.ret (PV.tup [PV.agg [PV.int .i64 0,PV.str [],PV.int .i64 0,PV.int .i64 0,PV.str [],PV.int .i64 0],PV.bool false]))
             (Tr.ret (PV.tup [PV.agg [PV.int .i64 6,PV.str (sSub v (nNat (i:Int)) (nNat (iAdd .i64 (i:Int) (qbr v (i:Int))))),PV.int .i64 0,PV.int .i64 0,PV.str [],PV.int .i64 (i:Int)],PV.bool true])))
            (Tr.ret (PV.tup [PV.agg [PV.int .i64 6,PV.str (sSub v (nNat (i:Int)) (nNat (iAdd .i64 (i:Int) (qbr v (i:Int))))),PV.int .i64 0,PV.int .i64 0,PV.str [],PV.int .i64 (i:Int)],PV.bool true])))))
         Tr.fail)
        Tr.fail)).run→T.run=some (rOut v i (wdL (c :: t))):=by
      intro T h45 hT
      rw [hT,q6]
      have hd:¬ (qaW c || (decide (c.toNat=45) && hdIs qaW t))=true:=by
       rw [h4']
       by_cases hc45:c.toNat=45
       ·simp [hc45,h45 hc45]
       ·simp [hc45]
      by_cases h6:c.toNat=34
      ·have ee:wdL (c :: t)=if quoL t=0 then none else valL 5 (c :: t) (quoL t+1):=by
        show (if qeN c=true then _ else _)=_
        rw [if_neg h1,if_neg h2,if_neg h3,if_neg hd,if_pos h6]
       rw [ee,decide_eq_true h6,qxA hs2 hlt,qBy hs2 hlt,ht]
       have hq:=qvB t
       by_cases h0:quoL t=0
       ·rw [if_pos h0,if_pos h0]
        rfl
       ·rw [if_neg h0,if_neg h0,qu4 5 (c :: t) _ v i hv]
        have e5:((i+1+quoL t:Nat):Int)=((i+(quoL t+1):Nat):Int):=by omega
        have e6:iLt ((i+(quoL t+1):Nat):Int) 0=false:=by simp; omega
        rw [e5,e6,hok (quoL t+1) (by omega),hsub,qoz (val 5 (quoL t+1) (by omega)),qr3 (val 5 (quoL t+1) (by omega))]
        rfl
      ·have ee:wdL (c :: t)=if qea c t=0 then none else some (6,qea c t,0,0,[]):=by
        show (if qeN c=true then _ else _)=_
        rw [if_neg h1,if_neg h2,if_neg h3,if_neg hd,if_neg h6]
       have hm:qea c t≤t.length+1∧qea c t≤2:=by
        unfold qea
        cases t with
        | nil=>cases qiL c <;> simp [hdIs]
        | cons d u=>cases hdIs (twoB c) (d :: u) <;> cases qiL c <;> simp
       have wm:iAdd .i64 (i:Int) ((qea c t:Nat):Int)=((i+qea c t:Nat):Int):=qa2 (by omega)
       rw [ee,decide_eq_false h6,qDc hs2 hv,qFV hs2 hv,wm,hok (qea c t) hm.1,hsub,hln (qea c t) hm.1,z63]
       by_cases h0:qea c t=0
       ·rw [if_pos h0,h0]
        have:iEq ((i+0:Nat):Int) (i:Int)=true:=by simp
        rw [this]
        rfl
       ·have:decide (64 < qea c t)=false:=decide_eq_false (by omega)
        rw [if_neg h0,hne _ h0,this]
        simp [rOut,wTup,hv]
     simp only [q0,qhO,qj3,qhp,qkQ,q1,q2,h1',h2',q3,decide_eq_false h3,qsJ,qwL,q4,h4',q5,w]
     by_cases h45:c.toNat=45
     ·rw [decide_eq_true h45]
      cases t with
      | nil =>
       have g:iLt ((i+1:Nat):Int) (sLen v)=false:=by simp at hl ⊢; omega
       rw [g]
       refine rest _ (fun _=>rfl) ?_
       rw [w]
       rfl
      | cons d u =>
       have g:iLt ((i+1:Nat):Int) (sLen v)=true:=by simp at hl ⊢; omega
       have g2:qap v ((i+1:Nat):Int)=true:=by simp at hl ⊢; omega
       have hd1:v[i+1]?=some d:=by
        have:(v.drop (i+1))[0]?=some d:=by rw [ht]; rfl
        simpa using this
       have g3:dgI (sAt v ((i+1:Nat):Int))=qaW d:=by
        rw [← qdu]
        have h5:=(List.getElem?_eq_some_iff.1 hd1)
        obtain ⟨h5a,h5b⟩:=h5
        congr 1
        simp only [qET,Int.toNat_natCast,List.getD_eq_getElem?_getD,hd1,Option.getD_some]
       rw [g,g2,g3]
       cases hdd:qaW d with
       | true =>
        have ee:wdL (c :: d :: u)=valL 4 (c :: d :: u) (runL qaW (d :: u)+1):=by
         show (if qeN c=true then _ else _)=_
         rw [if_neg h1,if_neg h2,if_neg h3,if_pos (by simp [h45,hdIs,hdd])]
        rw [ee,qu4 4 (c :: d :: u) _ v i hv]
        simp only [d1,d2,hok (runL qaW (d :: u)+1) (by omega),hsub,qoz (val 4 (runL qaW (d :: u)+1) (by omega)),qr3 (val 4 (runL qaW (d :: u)+1) (by omega))]
        rfl
       | false =>
        refine rest _ (fun _=>by simp [hdIs,hdd]) ?_
        rw [w]
        rfl
     ·rw [decide_eq_false h45]
      refine rest _ (fun h=>absurd h h45) ?_
      rw [w]
      rfl
end Go.Pv
set_option maxHeartbeats 4000000
set_option maxRecDepth 200000
set_option linter.unusedSimpArgs false
set_option linter.unusedVariables false
namespace Go.Pv
open Go Go.Proofs Go.RowKit
noncomputable def qh6:Code:=rngC Tryz.f80 500007
def qqD:RI:=⟨24,[2,3,4,5,12],[2,3,4,5],[.ptr 0 0,.ptr 1 0,.ptr 2 0,.ptr 3 0],[13,14],1⟩
noncomputable def qnZ:Nat→List PV→Store→Tr (PV × Store):=rtree tbT (ofL []) (fun _ _ _=>.fail) qqD (rngX qh6) (rngY qh6)
end Go.Pv
set_option maxHeartbeats 4000000
set_option maxRecDepth 200000
set_option linter.unusedSimpArgs false
set_option linter.unusedVariables false
namespace Go.Pv
open Go Go.Proofs
noncomputable def qxZ:GamT:=ofL [(140,.pure qBX),(141,.pure qvI),(qeo,.yld 1 qnZ)]
theorem qCd (gl:Gl) (hg:GlLex gl) (hy:ql7 Tryz.prog gl qeo (.yld 1 fun t a σ=>(qnZ t a σ).run)):qaJ Tryz.prog gl (gam qxZ):=(qad (qDl gl) (qad (qzC gl hg) (qcn (K:=.yld 1 qnZ) hy qag)))
noncomputable def qtq:Code:=qhg Tryz.f139 1
def qsx:LI:=⟨41,[0,1,3],fun e=>match e with | .ret=>[] | .exit 0=>[] | _=>[],true⟩
noncomputable def qr1:LpsT:=fun r fr σ=>.fail
noncomputable def qeE (vs:List PV) (σ:Store):Option (PExit × List PV × Store):=lval (lstep tbT qxZ qr1 qtq qsx) vs σ
noncomputable def qom (at_:Int) (r:List (List PV)) (n:Int) (n2:Int) (r2:List (List PV)) (s:List UInt8):Tr LR:=.ite (iLt at_ (sLen s)) (.ite (qaw (qal at_) true (nNat at_) (nLen s) (nLen s)) (.ite (qhS (sSub s (nNat at_) (nLen s))) (.ite (nEq 0 0) (.ite (bNot (qeL (sSub s (nNat at_) (nLen s)))) (.ite true (.ret (.out .ret [] (Store.mk [[.sl (qam 5 (qam 6 [])) .full],[.int .i64 at_],[.int .i64 120],[.sl (qam 5 (qam 6 r2)) .full],[.str s]] [(2,0,1)] [75,3,38,75,9]))) (.ite (bNot (qeL (sSub s (nNat at_) (nLen s)))) (.ret (.out .ret [] (Store.mk [[.sl (qam 5 (qam 6 [])) .full],[.int .i64 at_],[.int .i64 120],[.sl (qam 5 (qam 6 r2)) .full],[.str s]] [(2,0,1)] [75,3,38,75,9]))) (.ite (qaw (qal (iAdd .i64 at_ (sLen (qa9 (sSub s (nNat at_) (nLen s)))))) true (nNat (iAdd .i64 at_ (sLen (qa9 (sSub s (nNat at_) (nLen s)))))) (nLen s) (nLen s)) (.ite (qex (sSub s (nNat (iAdd .i64 at_ (sLen (qa9 (sSub s (nNat at_) (nLen s)))))) (nLen s))) (.ret (.next [.yld 0,.ptr 4 0,.int .i64 (iAdd .i64 (iAdd .i64 at_ (sLen (qa9 (sSub s (nNat at_) (nLen s))))) (qa5 (sSub s (nNat (iAdd .i64 at_ (sLen (qa9 (sSub s (nNat at_) (nLen s)))))) (nLen s))))] (Store.mk [[.sl (qam 5 (qam 6 [])) .full],[.int .i64 at_],[.int .i64 120],[.sl (qam 5 (qam 6 r2)) .full],[.str s]] [(2,0,1)] [75,3,38,75,9]))) .fail) .fail))) (.ite (qaF r2 [[.int .i64 (qb5 (sSub s (nNat at_) (nLen s))),.str (qa9 (sSub s (nNat at_) (nLen s))),.int .i64 (qbH (sSub s (nNat at_) (nLen s))),.int .i64 (qbF (sSub s (nNat at_) (nLen s))),.str (qbK (sSub s (nNat at_) (nLen s))),.int .i64 at_]] 64) (.ite (qaB [[.int .i64 (qb5 (sSub s (nNat at_) (nLen s))),.str (qa9 (sSub s (nNat at_) (nLen s))),.int .i64 (qbH (sSub s (nNat at_) (nLen s))),.int .i64 (qbF (sSub s (nNat at_) (nLen s))),.str (qbK (sSub s (nNat at_) (nLen s))),.int .i64 at_]] 6) (.ite (qav r2 6)
 (.ite false (.ret (.out .ret [] (Store.mk [[.sl (qam 5 (qam 6 r)) .full],[.int .i64 n],[.int .i64 n2],[.sl (qam 5 (qam 6 (xApp r2 [[.int .i64 (qb5 (sSub s (nNat at_) (nLen s))),.str (qa9 (sSub s (nNat at_) (nLen s))),.int .i64 (qbH (sSub s (nNat at_) (nLen s))),.int .i64 (qbF (sSub s (nNat at_) (nLen s))),.str (qbK (sSub s (nNat at_) (nLen s))),.int .i64 at_]]))) (.tok 1)],[.str s]] [(0,0,1),(nXs (xApp r2 [[.int .i64 (qb5 (sSub s (nNat at_) (nLen s))),.str (qa9 (sSub s (nNat at_) (nLen s))),.int .i64 (qbH (sSub s (nNat at_) (nLen s))),.int .i64 (qbF (sSub s (nNat at_) (nLen s))),.str (qbK (sSub s (nNat at_) (nLen s))),.int .i64 at_]]),6,120)] [75,3,38,75,9]))) (.ite (bNot (qeL (sSub s (nNat at_) (nLen s)))) (.ret (.out .ret [] (Store.mk [[.sl (qam 5 (qam 6 r)) .full],[.int .i64 n],[.int .i64 n2],[.sl (qam 5 (qam 6 (xApp r2 [[.int .i64 (qb5 (sSub s (nNat at_) (nLen s))),.str (qa9 (sSub s (nNat at_) (nLen s))),.int .i64 (qbH (sSub s (nNat at_) (nLen s))),.int .i64 (qbF (sSub s (nNat at_) (nLen s))),.str (qbK (sSub s (nNat at_) (nLen s))),.int .i64 at_]]))) (.tok 1)],[.str s]] [(0,0,1),(nXs (xApp r2 [[.int .i64 (qb5 (sSub s (nNat at_) (nLen s))),.str (qa9 (sSub s (nNat at_) (nLen s))),.int .i64 (qbH (sSub s (nNat at_) (nLen s))),.int .i64 (qbF (sSub s (nNat at_) (nLen s))),.str (qbK (sSub s (nNat at_) (nLen s))),.int .i64 at_]]),6,120)] [75,3,38,75,9]))) (.ite (qaw (qal (iAdd .i64 at_ (sLen (qa9 (sSub s (nNat at_) (nLen s)))))) true (nNat (iAdd .i64 at_ (sLen (qa9 (sSub s (nNat at_) (nLen s)))))) (nLen s) (nLen s)) (.ite (qex (sSub s (nNat (iAdd .i64 at_ (sLen (qa9 (sSub s (nNat at_) (nLen s)))))) (nLen s))) (.ret (.next [.yld 0,.ptr 4 0,.int .i64 (iAdd .i64 (iAdd .i64 at_ (sLen (qa9 (sSub s (nNat at_) (nLen s)))))
 (qa5 (sSub s (nNat (iAdd .i64 at_ (sLen (qa9 (sSub s (nNat at_) (nLen s)))))) (nLen s))))] (Store.mk [[.sl (qam 5 (qam 6 r)) .full],[.int .i64 n],[.int .i64 n2],[.sl (qam 5 (qam 6 (xApp r2 [[.int .i64 (qb5 (sSub s (nNat at_) (nLen s))),.str (qa9 (sSub s (nNat at_) (nLen s))),.int .i64 (qbH (sSub s (nNat at_) (nLen s))),.int .i64 (qbF (sSub s (nNat at_) (nLen s))),.str (qbK (sSub s (nNat at_) (nLen s))),.int .i64 at_]]))) (.tok 1)],[.str s]] [(0,0,1),(nXs (xApp r2 [[.int .i64 (qb5 (sSub s (nNat at_) (nLen s))),.str (qa9 (sSub s (nNat at_) (nLen s))),.int .i64 (qbH (sSub s (nNat at_) (nLen s))),.int .i64 (qbF (sSub s (nNat at_) (nLen s))),.str (qbK (sSub s (nNat at_) (nLen s))),.int .i64 at_]]),6,120)] [75,3,38,75,9]))) .fail) .fail))) .fail) .fail) .fail)) .fail) .fail) .fail) (.ret (.out (.exit 0) [] (Store.mk [[.sl r .full],[.int .i64 n],[.int .i64 n2],[.sl r2 .full],[.str s]] [(0,0,1)] [75,3,38,75,9])))
theorem qHL (at_:Int) (r:List (List PV)) (n:Int) (n2:Int) (r2:List (List PV)) (s:List UInt8):lstep tbT qxZ qr1 qtq qsx [.yld 0,.ptr 4 0,.int .i64 at_] ⟨[[.sl r .full],[.int .i64 n],[.int .i64 n2],[.sl r2 .full],[.str s]],[(0,0,1)],[75,3,38,75,9]⟩=qom at_ r n n2 r2 s:=by kernel_rfl
theorem qzY (at_:Int) (r:List (List PV)) (n:Int) (n2:Int) (r2:List (List PV)) (s:List UInt8):qeE [.yld 0,.ptr 4 0,.int .i64 at_] ⟨[[.sl r .full],[.int .i64 n],[.int .i64 n2],[.sl r2 .full],[.str s]],[(0,0,1)],[75,3,38,75,9]⟩=lnext qeE (qom at_ r n n2 r2 s).run:=by unfold qeE; rw [qb7,qHL]
noncomputable def qj8 (at_:Int) (r:List (List PV)) (n:Int) (n2:Int) (r2:List (List PV)) (s:List UInt8) (k:Nat):Tr LR:=.ite (iLt at_ (sLen s)) (.ite (qaw (qal at_) true (nNat at_) (nLen s) (nLen s)) (.ite (qhS (sSub s (nNat at_) (nLen s))) (.ite (nEq 0 0) (.ite (bNot (qeL (sSub s (nNat at_) (nLen s)))) (.ite true (.ret (.out .ret [] (Store.mk [[.sl (qam 5 (qam 6 [])) .full],[.int .i64 at_],[.int .i64 120],[.sl (qam 5 (qam 6 r2)) (.tok 1)],[.str s]] [(2,0,1),(k,6,120)] [75,3,38,75,9]))) (.ite (bNot (qeL (sSub s (nNat at_) (nLen s)))) (.ret (.out .ret [] (Store.mk [[.sl (qam 5 (qam 6 [])) .full],[.int .i64 at_],[.int .i64 120],[.sl (qam 5 (qam 6 r2)) (.tok 1)],[.str s]] [(2,0,1),(k,6,120)] [75,3,38,75,9]))) (.ite (qaw (qal (iAdd .i64 at_ (sLen (qa9 (sSub s (nNat at_) (nLen s)))))) true (nNat (iAdd .i64 at_ (sLen (qa9 (sSub s (nNat at_) (nLen s)))))) (nLen s) (nLen s)) (.ite (qex (sSub s (nNat (iAdd .i64 at_ (sLen (qa9 (sSub s (nNat at_) (nLen s)))))) (nLen s))) (.ret (.next [.yld 0,.ptr 4 0,.int .i64 (iAdd .i64 (iAdd .i64 at_ (sLen (qa9 (sSub s (nNat at_) (nLen s))))) (qa5 (sSub s (nNat (iAdd .i64 at_ (sLen (qa9 (sSub s (nNat at_) (nLen s)))))) (nLen s))))] (Store.mk [[.sl (qam 5 (qam 6 [])) .full],[.int .i64 at_],[.int .i64 120],[.sl (qam 5 (qam 6 r2)) (.tok 1)],[.str s]] [(2,0,1),(k,6,120)] [75,3,38,75,9]))) .fail) .fail))) (.ite (qaF r2 [[.int .i64 (qb5 (sSub s (nNat at_) (nLen s))),.str (qa9 (sSub s (nNat at_) (nLen s))),.int .i64 (qbH (sSub s (nNat at_) (nLen s))),.int .i64 (qbF (sSub s (nNat at_) (nLen s))),.str (qbK (sSub s (nNat at_) (nLen s))),.int .i64 at_]] 64) (.ite (qaB [[.int .i64 (qb5 (sSub s (nNat at_) (nLen s))),.str (qa9 (sSub s (nNat at_) (nLen s))),.int .i64 (qbH (sSub s (nNat at_) (nLen s))),.int .i64 (qbF (sSub s (nNat at_) (nLen s))),
 .str (qbK (sSub s (nNat at_) (nLen s))),.int .i64 at_]] 6) (.ite (qav r2 6) (.ite (nEq k (nXs r2)) (.ite false (.ret (.out .ret [] (Store.mk [[.sl (qam 5 (qam 6 r)) .full],[.int .i64 n],[.int .i64 n2],[.sl (qam 5 (qam 6 (xApp r2 [[.int .i64 (qb5 (sSub s (nNat at_) (nLen s))),.str (qa9 (sSub s (nNat at_) (nLen s))),.int .i64 (qbH (sSub s (nNat at_) (nLen s))),.int .i64 (qbF (sSub s (nNat at_) (nLen s))),.str (qbK (sSub s (nNat at_) (nLen s))),.int .i64 at_]]))) (.tok 1)],[.str s]] [(0,0,1),(nXs (xApp r2 [[.int .i64 (qb5 (sSub s (nNat at_) (nLen s))),.str (qa9 (sSub s (nNat at_) (nLen s))),.int .i64 (qbH (sSub s (nNat at_) (nLen s))),.int .i64 (qbF (sSub s (nNat at_) (nLen s))),.str (qbK (sSub s (nNat at_) (nLen s))),.int .i64 at_]]),6,120)] [75,3,38,75,9]))) (.ite (bNot (qeL (sSub s (nNat at_) (nLen s)))) (.ret (.out .ret [] (Store.mk [[.sl (qam 5 (qam 6 r)) .full],[.int .i64 n],[.int .i64 n2],[.sl (qam 5 (qam 6 (xApp r2 [[.int .i64 (qb5 (sSub s (nNat at_) (nLen s))),.str (qa9 (sSub s (nNat at_) (nLen s))),.int .i64 (qbH (sSub s (nNat at_) (nLen s))),.int .i64 (qbF (sSub s (nNat at_) (nLen s))),.str (qbK (sSub s (nNat at_) (nLen s))),.int .i64 at_]]))) (.tok 1)],[.str s]] [(0,0,1),(nXs (xApp r2 [[.int .i64 (qb5 (sSub s (nNat at_) (nLen s))),.str (qa9 (sSub s (nNat at_) (nLen s))),.int .i64 (qbH (sSub s (nNat at_) (nLen s))),.int .i64 (qbF (sSub s (nNat at_) (nLen s))),.str (qbK (sSub s (nNat at_) (nLen s))),.int .i64 at_]]),6,120)] [75,3,38,75,9]))) (.ite (qaw (qal (iAdd .i64 at_ (sLen (qa9 (sSub s (nNat at_) (nLen s)))))) true (nNat (iAdd .i64 at_ (sLen (qa9 (sSub s (nNat at_) (nLen s)))))) (nLen s) (nLen s)) (.ite (qex (sSub s (nNat (iAdd .i64 at_ (sLen (qa9 (sSub s (nNat at_) (nLen s)))))) (nLen s))) (.ret (.next [.yld 0,.ptr 4 0,.int .i64
 (iAdd .i64 (iAdd .i64 at_ (sLen (qa9 (sSub s (nNat at_) (nLen s))))) (qa5 (sSub s (nNat (iAdd .i64 at_ (sLen (qa9 (sSub s (nNat at_) (nLen s)))))) (nLen s))))] (Store.mk [[.sl (qam 5 (qam 6 r)) .full],[.int .i64 n],[.int .i64 n2],[.sl (qam 5 (qam 6 (xApp r2 [[.int .i64 (qb5 (sSub s (nNat at_) (nLen s))),.str (qa9 (sSub s (nNat at_) (nLen s))),.int .i64 (qbH (sSub s (nNat at_) (nLen s))),.int .i64 (qbF (sSub s (nNat at_) (nLen s))),.str (qbK (sSub s (nNat at_) (nLen s))),.int .i64 at_]]))) (.tok 1)],[.str s]] [(0,0,1),(nXs (xApp r2 [[.int .i64 (qb5 (sSub s (nNat at_) (nLen s))),.str (qa9 (sSub s (nNat at_) (nLen s))),.int .i64 (qbH (sSub s (nNat at_) (nLen s))),.int .i64 (qbF (sSub s (nNat at_) (nLen s))),.str (qbK (sSub s (nNat at_) (nLen s))),.int .i64 at_]]),6,120)] [75,3,38,75,9]))) .fail) .fail))) .fail) .fail) .fail) .fail)) .fail) .fail) .fail) (.ret (.out (.exit 0) [] (Store.mk [[.sl r .full],[.int .i64 n],[.int .i64 n2],[.sl r2 (.tok 1)],[.str s]] [(0,0,1),(k,6,120)] [75,3,38,75,9])))
theorem qGw (at_:Int) (r:List (List PV)) (n:Int) (n2:Int) (r2:List (List PV)) (s:List UInt8) (k:Nat):lstep tbT qxZ qr1 qtq qsx [.yld 0,.ptr 4 0,.int .i64 at_] ⟨[[.sl r .full],[.int .i64 n],[.int .i64 n2],[.sl r2 (.tok 1)],[.str s]],[(0,0,1),(k,6,120)],[75,3,38,75,9]⟩=qj8 at_ r n n2 r2 s k:=by kernel_rfl
theorem qvW (at_:Int) (r:List (List PV)) (n:Int) (n2:Int) (r2:List (List PV)) (s:List UInt8) (k:Nat):qeE [.yld 0,.ptr 4 0,.int .i64 at_] ⟨[[.sl r .full],[.int .i64 n],[.int .i64 n2],[.sl r2 (.tok 1)],[.str s]],[(0,0,1),(k,6,120)],[75,3,38,75,9]⟩=lnext qeE (qj8 at_ r n n2 r2 s k).run:=by unfold qeE; rw [qb7,qGw]
noncomputable def qbk (at_:Int) (r:List (List PV)) (n:Int) (n2:Int) (r2:List (List PV)) (s:List UInt8):Option (PExit × List PV × Store):=qeE [.yld 0,.ptr 4 0,.int .i64 at_] ⟨[[.sl r .full],[.int .i64 n],[.int .i64 n2],[.sl r2 .full],[.str s]],[(0,0,1)],[75,3,38,75,9]⟩
noncomputable def qgl (at_:Int) (r:List (List PV)) (n:Int) (n2:Int) (r2:List (List PV)) (s:List UInt8):List (List PV):=(gRow (gAt (gObj (qbk at_ r n n2 r2 s) 0) 0))
noncomputable def qgM (at_:Int) (r:List (List PV)) (n:Int) (n2:Int) (r2:List (List PV)) (s:List UInt8):Int:=(gInt (gAt (gObj (qbk at_ r n n2 r2 s) 1) 0))
noncomputable def qeD (at_:Int) (r:List (List PV)) (n:Int) (n2:Int) (r2:List (List PV)) (s:List UInt8):Int:=(gInt (gAt (gObj (qbk at_ r n n2 r2 s) 2) 0))
noncomputable def qe8 (at_:Int) (r:List (List PV)) (n:Int) (n2:Int) (r2:List (List PV)) (s:List UInt8):List (List PV):=(gRow (gAt (gObj (qbk at_ r n n2 r2 s) 3) 0))
noncomputable def qgG (at_:Int) (r:List (List PV)) (n:Int) (n2:Int) (r2:List (List PV)) (s:List UInt8):List UInt8:=(gStr (gAt (gObj (qbk at_ r n n2 r2 s) 4) 0))
noncomputable def qid (at_:Int) (r:List (List PV)) (n:Int) (n2:Int) (r2:List (List PV)) (s:List UInt8):Bool:=isW (qbk at_ r n n2 r2 s) (.ret,[],⟨[[.sl (qgl at_ r n n2 r2 s) .full],[.int .i64 (qgM at_ r n n2 r2 s)],[.int .i64 (qeD at_ r n n2 r2 s)],[.sl (qe8 at_ r n n2 r2 s) .full],[.str (qgG at_ r n n2 r2 s)]],[(2,0,1)],[75,3,38,75,9]⟩)
noncomputable def qgn (at_:Int) (r:List (List PV)) (n:Int) (n2:Int) (r2:List (List PV)) (s:List UInt8):List (List PV):=(gRow (gAt (gObj (qbk at_ r n n2 r2 s) 0) 0))
noncomputable def qgf (at_:Int) (r:List (List PV)) (n:Int) (n2:Int) (r2:List (List PV)) (s:List UInt8):Int:=(gInt (gAt (gObj (qbk at_ r n n2 r2 s) 1) 0))
noncomputable def qe2 (at_:Int) (r:List (List PV)) (n:Int) (n2:Int) (r2:List (List PV)) (s:List UInt8):Int:=(gInt (gAt (gObj (qbk at_ r n n2 r2 s) 2) 0))
noncomputable def qeJ (at_:Int) (r:List (List PV)) (n:Int) (n2:Int) (r2:List (List PV)) (s:List UInt8):List (List PV):=(gRow (gAt (gObj (qbk at_ r n n2 r2 s) 3) 0))
noncomputable def qgU (at_:Int) (r:List (List PV)) (n:Int) (n2:Int) (r2:List (List PV)) (s:List UInt8):List UInt8:=(gStr (gAt (gObj (qbk at_ r n n2 r2 s) 4) 0))
noncomputable def qgp (at_:Int) (r:List (List PV)) (n:Int) (n2:Int) (r2:List (List PV)) (s:List UInt8):Nat:=(gTok (qbk at_ r n n2 r2 s) 1)
noncomputable def qip (at_:Int) (r:List (List PV)) (n:Int) (n2:Int) (r2:List (List PV)) (s:List UInt8):Bool:=isW (qbk at_ r n n2 r2 s) (.ret,[],⟨[[.sl (qgn at_ r n n2 r2 s) .full],[.int .i64 (qgf at_ r n n2 r2 s)],[.int .i64 (qe2 at_ r n n2 r2 s)],[.sl (qeJ at_ r n n2 r2 s) (.tok 1)],[.str (qgU at_ r n n2 r2 s)]],[(0,0,1),((qgp at_ r n n2 r2 s),6,120)],[75,3,38,75,9]⟩)
noncomputable def qgm (at_:Int) (r:List (List PV)) (n:Int) (n2:Int) (r2:List (List PV)) (s:List UInt8):List (List PV):=(gRow (gAt (gObj (qbk at_ r n n2 r2 s) 0) 0))
noncomputable def qg8 (at_:Int) (r:List (List PV)) (n:Int) (n2:Int) (r2:List (List PV)) (s:List UInt8):Int:=(gInt (gAt (gObj (qbk at_ r n n2 r2 s) 1) 0))
noncomputable def qeR (at_:Int) (r:List (List PV)) (n:Int) (n2:Int) (r2:List (List PV)) (s:List UInt8):Int:=(gInt (gAt (gObj (qbk at_ r n n2 r2 s) 2) 0))
noncomputable def qeI (at_:Int) (r:List (List PV)) (n:Int) (n2:Int) (r2:List (List PV)) (s:List UInt8):List (List PV):=(gRow (gAt (gObj (qbk at_ r n n2 r2 s) 3) 0))
noncomputable def qgK (at_:Int) (r:List (List PV)) (n:Int) (n2:Int) (r2:List (List PV)) (s:List UInt8):List UInt8:=(gStr (gAt (gObj (qbk at_ r n n2 r2 s) 4) 0))
noncomputable def qiv (at_:Int) (r:List (List PV)) (n:Int) (n2:Int) (r2:List (List PV)) (s:List UInt8):Bool:=isW (qbk at_ r n n2 r2 s) ((.exit 0),[],⟨[[.sl (qgm at_ r n n2 r2 s) .full],[.int .i64 (qg8 at_ r n n2 r2 s)],[.int .i64 (qeR at_ r n n2 r2 s)],[.sl (qeI at_ r n n2 r2 s) .full],[.str (qgK at_ r n n2 r2 s)]],[(0,0,1)],[75,3,38,75,9]⟩)
noncomputable def qgr (at_:Int) (r:List (List PV)) (n:Int) (n2:Int) (r2:List (List PV)) (s:List UInt8):List (List PV):=(gRow (gAt (gObj (qbk at_ r n n2 r2 s) 0) 0))
noncomputable def qha (at_:Int) (r:List (List PV)) (n:Int) (n2:Int) (r2:List (List PV)) (s:List UInt8):Int:=(gInt (gAt (gObj (qbk at_ r n n2 r2 s) 1) 0))
noncomputable def qe9 (at_:Int) (r:List (List PV)) (n:Int) (n2:Int) (r2:List (List PV)) (s:List UInt8):Int:=(gInt (gAt (gObj (qbk at_ r n n2 r2 s) 2) 0))
noncomputable def qff (at_:Int) (r:List (List PV)) (n:Int) (n2:Int) (r2:List (List PV)) (s:List UInt8):List (List PV):=(gRow (gAt (gObj (qbk at_ r n n2 r2 s) 3) 0))
noncomputable def qgs (at_:Int) (r:List (List PV)) (n:Int) (n2:Int) (r2:List (List PV)) (s:List UInt8):List UInt8:=(gStr (gAt (gObj (qbk at_ r n n2 r2 s) 4) 0))
noncomputable def qiF (at_:Int) (r:List (List PV)) (n:Int) (n2:Int) (r2:List (List PV)) (s:List UInt8):Bool:=isW (qbk at_ r n n2 r2 s) ((.exit 0),[],⟨[[.sl (qgr at_ r n n2 r2 s) .full],[.int .i64 (qha at_ r n n2 r2 s)],[.int .i64 (qe9 at_ r n n2 r2 s)],[.sl (qff at_ r n n2 r2 s) .full],[.str (qgs at_ r n n2 r2 s)]],[(2,0,1)],[75,3,38,75,9]⟩)
noncomputable def qgv (at_:Int) (r:List (List PV)) (n:Int) (n2:Int) (r2:List (List PV)) (s:List UInt8):List (List PV):=(gRow (gAt (gObj (qbk at_ r n n2 r2 s) 0) 0))
noncomputable def qgS (at_:Int) (r:List (List PV)) (n:Int) (n2:Int) (r2:List (List PV)) (s:List UInt8):Int:=(gInt (gAt (gObj (qbk at_ r n n2 r2 s) 1) 0))
noncomputable def qeO (at_:Int) (r:List (List PV)) (n:Int) (n2:Int) (r2:List (List PV)) (s:List UInt8):Int:=(gInt (gAt (gObj (qbk at_ r n n2 r2 s) 2) 0))
noncomputable def qfd (at_:Int) (r:List (List PV)) (n:Int) (n2:Int) (r2:List (List PV)) (s:List UInt8):List (List PV):=(gRow (gAt (gObj (qbk at_ r n n2 r2 s) 3) 0))
noncomputable def qhf (at_:Int) (r:List (List PV)) (n:Int) (n2:Int) (r2:List (List PV)) (s:List UInt8):List UInt8:=(gStr (gAt (gObj (qbk at_ r n n2 r2 s) 4) 0))
noncomputable def qg5 (at_:Int) (r:List (List PV)) (n:Int) (n2:Int) (r2:List (List PV)) (s:List UInt8):Nat:=(gTok (qbk at_ r n n2 r2 s) 1)
noncomputable def qig (at_:Int) (r:List (List PV)) (n:Int) (n2:Int) (r2:List (List PV)) (s:List UInt8):Bool:=isW (qbk at_ r n n2 r2 s) (.ret,[],⟨[[.sl (qgv at_ r n n2 r2 s) .full],[.int .i64 (qgS at_ r n n2 r2 s)],[.int .i64 (qeO at_ r n n2 r2 s)],[.sl (qfd at_ r n n2 r2 s) (.tok 1)],[.str (qhf at_ r n n2 r2 s)]],[(2,0,1),((qg5 at_ r n n2 r2 s),6,120)],[75,3,38,75,9]⟩)
noncomputable def qgJ (at_:Int) (r:List (List PV)) (n:Int) (n2:Int) (r2:List (List PV)) (s:List UInt8):List (List PV):=(gRow (gAt (gObj (qbk at_ r n n2 r2 s) 0) 0))
noncomputable def qgX (at_:Int) (r:List (List PV)) (n:Int) (n2:Int) (r2:List (List PV)) (s:List UInt8):Int:=(gInt (gAt (gObj (qbk at_ r n n2 r2 s) 1) 0))
noncomputable def qeY (at_:Int) (r:List (List PV)) (n:Int) (n2:Int) (r2:List (List PV)) (s:List UInt8):Int:=(gInt (gAt (gObj (qbk at_ r n n2 r2 s) 2) 0))
noncomputable def qeG (at_:Int) (r:List (List PV)) (n:Int) (n2:Int) (r2:List (List PV)) (s:List UInt8):List (List PV):=(gRow (gAt (gObj (qbk at_ r n n2 r2 s) 3) 0))
noncomputable def qgz (at_:Int) (r:List (List PV)) (n:Int) (n2:Int) (r2:List (List PV)) (s:List UInt8):List UInt8:=(gStr (gAt (gObj (qbk at_ r n n2 r2 s) 4) 0))
noncomputable def qgW (at_:Int) (r:List (List PV)) (n:Int) (n2:Int) (r2:List (List PV)) (s:List UInt8):Nat:=(gTok (qbk at_ r n n2 r2 s) 1)
noncomputable def qia (at_:Int) (r:List (List PV)) (n:Int) (n2:Int) (r2:List (List PV)) (s:List UInt8):Bool:=isW (qbk at_ r n n2 r2 s) ((.exit 0),[],⟨[[.sl (qgJ at_ r n n2 r2 s) .full],[.int .i64 (qgX at_ r n n2 r2 s)],[.int .i64 (qeY at_ r n n2 r2 s)],[.sl (qeG at_ r n n2 r2 s) (.tok 1)],[.str (qgz at_ r n n2 r2 s)]],[(0,0,1),((qgW at_ r n n2 r2 s),6,120)],[75,3,38,75,9]⟩)
noncomputable def qgw (at_:Int) (r:List (List PV)) (n:Int) (n2:Int) (r2:List (List PV)) (s:List UInt8):List (List PV):=(gRow (gAt (gObj (qbk at_ r n n2 r2 s) 0) 0))
noncomputable def qg7 (at_:Int) (r:List (List PV)) (n:Int) (n2:Int) (r2:List (List PV)) (s:List UInt8):Int:=(gInt (gAt (gObj (qbk at_ r n n2 r2 s) 1) 0))
noncomputable def qe7 (at_:Int) (r:List (List PV)) (n:Int) (n2:Int) (r2:List (List PV)) (s:List UInt8):Int:=(gInt (gAt (gObj (qbk at_ r n n2 r2 s) 2) 0))
noncomputable def qeW (at_:Int) (r:List (List PV)) (n:Int) (n2:Int) (r2:List (List PV)) (s:List UInt8):List (List PV):=(gRow (gAt (gObj (qbk at_ r n n2 r2 s) 3) 0))
noncomputable def qg2 (at_:Int) (r:List (List PV)) (n:Int) (n2:Int) (r2:List (List PV)) (s:List UInt8):List UInt8:=(gStr (gAt (gObj (qbk at_ r n n2 r2 s) 4) 0))
noncomputable def qhd (at_:Int) (r:List (List PV)) (n:Int) (n2:Int) (r2:List (List PV)) (s:List UInt8):Nat:=(gTok (qbk at_ r n n2 r2 s) 1)
noncomputable def qie (at_:Int) (r:List (List PV)) (n:Int) (n2:Int) (r2:List (List PV)) (s:List UInt8):Bool:=isW (qbk at_ r n n2 r2 s) ((.exit 0),[],⟨[[.sl (qgw at_ r n n2 r2 s) .full],[.int .i64 (qg7 at_ r n n2 r2 s)],[.int .i64 (qe7 at_ r n n2 r2 s)],[.sl (qeW at_ r n n2 r2 s) (.tok 1)],[.str (qg2 at_ r n n2 r2 s)]],[(2,0,1),((qhd at_ r n n2 r2 s),6,120)],[75,3,38,75,9]⟩)
noncomputable def qkz:List PV→Store→Tr (PExit × List PV × Store) | [.yld 0,.ptr 4 0,.int .i64 at_],⟨[[.sl r .full],[.int .i64 n],[.int .i64 n2],[.sl r2 .full],[.str s]],[(0,0,1)],[75,3,38,75,9]⟩=>.ite (qid at_ r n n2 r2 s) (.ret (.ret,[],⟨[[.sl (qgl at_ r n n2 r2 s) .full],[.int .i64 (qgM at_ r n n2 r2 s)],[.int .i64 (qeD at_ r n n2 r2 s)],[.sl (qe8 at_ r n n2 r2 s) .full],[.str (qgG at_ r n n2 r2 s)]],[(2,0,1)],[75,3,38,75,9]⟩)) (.ite (qip at_ r n n2 r2 s) (.ret (.ret,[],⟨[[.sl (qgn at_ r n n2 r2 s) .full],[.int .i64 (qgf at_ r n n2 r2 s)],[.int .i64 (qe2 at_ r n n2 r2 s)],[.sl (qeJ at_ r n n2 r2 s) (.tok 1)],[.str (qgU at_ r n n2 r2 s)]],[(0,0,1),((qgp at_ r n n2 r2 s),6,120)],[75,3,38,75,9]⟩)) (.ite (qiv at_ r n n2 r2 s) (.ret ((.exit 0),[],⟨[[.sl (qgm at_ r n n2 r2 s) .full],[.int .i64 (qg8 at_ r n n2 r2 s)],[.int .i64 (qeR at_ r n n2 r2 s)],[.sl (qeI at_ r n n2 r2 s) .full],[.str (qgK at_ r n n2 r2 s)]],[(0,0,1)],[75,3,38,75,9]⟩)) (.ite (qiF at_ r n n2 r2 s) (.ret ((.exit 0),[],⟨[[.sl (qgr at_ r n n2 r2 s) .full],[.int .i64 (qha at_ r n n2 r2 s)],[.int .i64 (qe9 at_ r n n2 r2 s)],[.sl (qff at_ r n n2 r2 s) .full],[.str (qgs at_ r n n2 r2 s)]],[(2,0,1)],[75,3,38,75,9]⟩)) (.ite (qig at_ r n n2 r2 s) (.ret (.ret,[],⟨[[.sl (qgv at_ r n n2 r2 s) .full],[.int .i64 (qgS at_ r n n2 r2 s)],[.int .i64 (qeO at_ r n n2 r2 s)],[.sl (qfd at_ r n n2 r2 s) (.tok 1)],[.str (qhf at_ r n n2 r2 s)]],[(2,0,1),((qg5 at_ r n n2 r2 s),6,120)],[75,3,38,75,9]⟩)) (.ite (qia at_ r n n2 r2 s) (.ret ((.exit 0),[],⟨[[.sl (qgJ at_ r n n2 r2 s) .full],[.int .i64 (qgX at_ r n n2 r2 s)],[.int .i64 (qeY at_ r n n2 r2 s)],[.sl (qeG at_ r n n2 r2 s) (.tok 1)],[.str (qgz at_ r n n2 r2 s)]],[(0,0,1),((qgW at_ r n n2 r2 s),6,120)],[75,3,38,75,9]⟩)) (.ite (qie at_ r n n2 r2 s) (.ret ((.exit 0),[],⟨[[.sl (qgw at_ r n n2 r2 s) .full],[.int .i64 (qg7 at_ r n n2 r2 s)],[.int .i64 (qe7 at_ r n n2 r2 s)],[.sl (qeW at_ r n n2 r2 s) (.tok 1)],[.str (qg2 at_ r n n2 r2 s)]],[(2,0,1),((qhd at_ r n n2 r2 s),6,120)],[75,3,38,75,9]⟩)) (.fail))))))) | _,_=>.fail
theorem qE8:∀ vs σ r,(qkz vs σ).run=some r→qeE vs σ=some r:=by
 intro vs σ r h
 unfold qkz at h
 split at h
 ·exact qai h fun h=>qai h fun h=>qai h fun h=>qai h fun h=>qai h fun h=>qai h fun h=>qai h fun h=>by cases h
 ·cases h
theorem qy0 (gl:Gl) (hg:GlLex gl) (hy:ql7 Tryz.prog gl qeo (.yld 1 fun t a σ=>(qnZ t a σ).run)):∀ fr σ e fr' σ',(orc qsx qkz fr σ).run=some (e,fr',σ')→LDoes Tryz.prog gl qtq fr σ e fr' σ':=qdI qaj (qCd gl hg hy ) qah (L:=qr1) (qae (by kernel_rfl)) (by kernel_rfl) qE8
noncomputable def qG4:LpsT:=fun r fr σ=>bif Nat.beq r 1 then orc qsx qkz fr σ else .fail
noncomputable def qBn (r:List (List PV)) (n:Int) (n2:Int) (r2:List (List PV)) (s:List UInt8):Tr (PV × Store):=.ite (qex s) (.ite (qid (qa5 s) r n n2 r2 s) (.ret (.tup [],Store.mk [[.sl (qgl (qa5 s) r n n2 r2 s) .full],[.int .i64 (qgM (qa5 s) r n n2 r2 s)],[.int .i64 (qeD (qa5 s) r n n2 r2 s)],[.sl (qe8 (qa5 s) r n n2 r2 s) .full],[.str (qgG (qa5 s) r n n2 r2 s)]] [(2,0,1)] [75,3,38,75,9])) (.ite (qip (qa5 s) r n n2 r2 s) (.ret (.tup [],Store.mk [[.sl (qgn (qa5 s) r n n2 r2 s) .full],[.int .i64 (qgf (qa5 s) r n n2 r2 s)],[.int .i64 (qe2 (qa5 s) r n n2 r2 s)],[.sl (qeJ (qa5 s) r n n2 r2 s) (.tok 1)],[.str (qgU (qa5 s) r n n2 r2 s)]] [(0,0,1),(qgp (qa5 s) r n n2 r2 s,6,120)] [75,3,38,75,9])) (.ite (qiv (qa5 s) r n n2 r2 s) (.ret (.tup [],Store.mk [[.sl (qgm (qa5 s) r n n2 r2 s) .full],[.int .i64 (qg8 (qa5 s) r n n2 r2 s)],[.int .i64 (qeR (qa5 s) r n n2 r2 s)],[.sl (qeI (qa5 s) r n n2 r2 s) .full],[.str (qgK (qa5 s) r n n2 r2 s)]] [(0,0,1)] [75,3,38,75,9])) (.ite (qiF (qa5 s) r n n2 r2 s) (.ret (.tup [],Store.mk [[.sl (qgr (qa5 s) r n n2 r2 s) .full],[.int .i64 (qha (qa5 s) r n n2 r2 s)],[.int .i64 (qe9 (qa5 s) r n n2 r2 s)],[.sl (qff (qa5 s) r n n2 r2 s) .full],[.str (qgs (qa5 s) r n n2 r2 s)]] [(2,0,1)] [75,3,38,75,9])) (.ite (qig (qa5 s) r n n2 r2 s) (.ret (.tup [],Store.mk [[.sl (qgv (qa5 s) r n n2 r2 s) .full],[.int .i64 (qgS (qa5 s) r n n2 r2 s)],[.int .i64 (qeO (qa5 s) r n n2 r2 s)],[.sl (qfd (qa5 s) r n n2 r2 s) (.tok 1)],[.str (qhf (qa5 s) r n n2 r2 s)]] [(2,0,1),(qg5 (qa5 s) r n n2 r2 s,6,120)] [75,3,38,75,9])) (.ite (qia (qa5 s) r n n2 r2 s) (.ret (.tup [],Store.mk [[.sl (qgJ (qa5 s) r n n2 r2 s) .full],[.int .i64 (qgX (qa5 s) r n n2 r2 s)],
 [.int .i64 (qeY (qa5 s) r n n2 r2 s)],[.sl (qeG (qa5 s) r n n2 r2 s) (.tok 1)],[.str (qgz (qa5 s) r n n2 r2 s)]] [(0,0,1),(qgW (qa5 s) r n n2 r2 s,6,120)] [75,3,38,75,9])) (.ite (qie (qa5 s) r n n2 r2 s) (.ret (.tup [],Store.mk [[.sl (qgw (qa5 s) r n n2 r2 s) .full],[.int .i64 (qg7 (qa5 s) r n n2 r2 s)],[.int .i64 (qe7 (qa5 s) r n n2 r2 s)],[.sl (qeW (qa5 s) r n n2 r2 s) (.tok 1)],[.str (qg2 (qa5 s) r n n2 r2 s)]] [(2,0,1),(qhd (qa5 s) r n n2 r2 s,6,120)] [75,3,38,75,9])) .fail))))))) .fail
theorem qIm (r:List (List PV)) (n:Int) (n2:Int) (r2:List (List PV)) (s:List UInt8):(qp9 tbT qxZ qG4 Tryz.f139 [.yld 0,.ptr 4 0] ⟨[[.sl r .full],[.int .i64 n],[.int .i64 n2],[.sl r2 .full],[.str s]],[(0,0,1)],[75,3,38,75,9]⟩).flat=qBn r n n2 r2 s:=by kernel_rfl
noncomputable def qdG (r:List (List PV)) (n:Int) (n2:Int) (r2:List (List PV)) (s:List UInt8):Option (PV × Store):=(qBn r n n2 r2 s).run
noncomputable def qjh (r:List (List PV)) (n:Int) (n2:Int) (r2:List (List PV)) (s:List UInt8):List (List PV):=(gRow (gAt (gObj (qdH (qdG r n n2 r2 s)) 0) 0))
noncomputable def qjE (r:List (List PV)) (n:Int) (n2:Int) (r2:List (List PV)) (s:List UInt8):Int:=(gInt (gAt (gObj (qdH (qdG r n n2 r2 s)) 1) 0))
noncomputable def qgP (r:List (List PV)) (n:Int) (n2:Int) (r2:List (List PV)) (s:List UInt8):Int:=(gInt (gAt (gObj (qdH (qdG r n n2 r2 s)) 2) 0))
noncomputable def qh1 (r:List (List PV)) (n:Int) (n2:Int) (r2:List (List PV)) (s:List UInt8):List (List PV):=(gRow (gAt (gObj (qdH (qdG r n n2 r2 s)) 3) 0))
noncomputable def qlR (r:List (List PV)) (n:Int) (n2:Int) (r2:List (List PV)) (s:List UInt8):List UInt8:=(gStr (gAt (gObj (qdH (qdG r n n2 r2 s)) 4) 0))
noncomputable def qlN (r:List (List PV)) (n:Int) (n2:Int) (r2:List (List PV)) (s:List UInt8):Bool:=isW (qdG r n n2 r2 s) (.tup [],⟨[[.sl (qjh r n n2 r2 s) .full],[.int .i64 (qjE r n n2 r2 s)],[.int .i64 (qgP r n n2 r2 s)],[.sl (qh1 r n n2 r2 s) .full],[.str (qlR r n n2 r2 s)]],[(2,0,1)],[75,3,38,75,9]⟩)
noncomputable def qlK (r:List (List PV)) (n:Int) (n2:Int) (r2:List (List PV)) (s:List UInt8):List (List PV):=(gRow (gAt (gObj (qdH (qdG r n n2 r2 s)) 0) 0))
noncomputable def qlA (r:List (List PV)) (n:Int) (n2:Int) (r2:List (List PV)) (s:List UInt8):Int:=(gInt (gAt (gObj (qdH (qdG r n n2 r2 s)) 1) 0))
noncomputable def qio (r:List (List PV)) (n:Int) (n2:Int) (r2:List (List PV)) (s:List UInt8):Int:=(gInt (gAt (gObj (qdH (qdG r n n2 r2 s)) 2) 0))
noncomputable def qgR (r:List (List PV)) (n:Int) (n2:Int) (r2:List (List PV)) (s:List UInt8):List (List PV):=(gRow (gAt (gObj (qdH (qdG r n n2 r2 s)) 3) 0))
noncomputable def qlW (r:List (List PV)) (n:Int) (n2:Int) (r2:List (List PV)) (s:List UInt8):List UInt8:=(gStr (gAt (gObj (qdH (qdG r n n2 r2 s)) 4) 0))
noncomputable def qlT (r:List (List PV)) (n:Int) (n2:Int) (r2:List (List PV)) (s:List UInt8):Nat:=(gTok (qdH (qdG r n n2 r2 s)) 1)
noncomputable def qlm (r:List (List PV)) (n:Int) (n2:Int) (r2:List (List PV)) (s:List UInt8):Bool:=isW (qdG r n n2 r2 s) (.tup [],⟨[[.sl (qlK r n n2 r2 s) .full],[.int .i64 (qlA r n n2 r2 s)],[.int .i64 (qio r n n2 r2 s)],[.sl (qgR r n n2 r2 s) (.tok 1)],[.str (qlW r n n2 r2 s)]],[(0,0,1),((qlT r n n2 r2 s),6,120)],[75,3,38,75,9]⟩)
noncomputable def qlB (r:List (List PV)) (n:Int) (n2:Int) (r2:List (List PV)) (s:List UInt8):List (List PV):=(gRow (gAt (gObj (qdH (qdG r n n2 r2 s)) 0) 0))
noncomputable def qlC (r:List (List PV)) (n:Int) (n2:Int) (r2:List (List PV)) (s:List UInt8):Int:=(gInt (gAt (gObj (qdH (qdG r n n2 r2 s)) 1) 0))
noncomputable def qit (r:List (List PV)) (n:Int) (n2:Int) (r2:List (List PV)) (s:List UInt8):Int:=(gInt (gAt (gObj (qdH (qdG r n n2 r2 s)) 2) 0))
noncomputable def qgN (r:List (List PV)) (n:Int) (n2:Int) (r2:List (List PV)) (s:List UInt8):List (List PV):=(gRow (gAt (gObj (qdH (qdG r n n2 r2 s)) 3) 0))
noncomputable def qlr (r:List (List PV)) (n:Int) (n2:Int) (r2:List (List PV)) (s:List UInt8):List UInt8:=(gStr (gAt (gObj (qdH (qdG r n n2 r2 s)) 4) 0))
noncomputable def qlc (r:List (List PV)) (n:Int) (n2:Int) (r2:List (List PV)) (s:List UInt8):Bool:=isW (qdG r n n2 r2 s) (.tup [],⟨[[.sl (qlB r n n2 r2 s) .full],[.int .i64 (qlC r n n2 r2 s)],[.int .i64 (qit r n n2 r2 s)],[.sl (qgN r n n2 r2 s) .full],[.str (qlr r n n2 r2 s)]],[(0,0,1)],[75,3,38,75,9]⟩)
noncomputable def qjF (r:List (List PV)) (n:Int) (n2:Int) (r2:List (List PV)) (s:List UInt8):List (List PV):=(gRow (gAt (gObj (qdH (qdG r n n2 r2 s)) 0) 0))
noncomputable def qi3 (r:List (List PV)) (n:Int) (n2:Int) (r2:List (List PV)) (s:List UInt8):Int:=(gInt (gAt (gObj (qdH (qdG r n n2 r2 s)) 1) 0))
noncomputable def qg1 (r:List (List PV)) (n:Int) (n2:Int) (r2:List (List PV)) (s:List UInt8):Int:=(gInt (gAt (gObj (qdH (qdG r n n2 r2 s)) 2) 0))
noncomputable def qiB (r:List (List PV)) (n:Int) (n2:Int) (r2:List (List PV)) (s:List UInt8):List (List PV):=(gRow (gAt (gObj (qdH (qdG r n n2 r2 s)) 3) 0))
noncomputable def qlG (r:List (List PV)) (n:Int) (n2:Int) (r2:List (List PV)) (s:List UInt8):List UInt8:=(gStr (gAt (gObj (qdH (qdG r n n2 r2 s)) 4) 0))
noncomputable def qlx (r:List (List PV)) (n:Int) (n2:Int) (r2:List (List PV)) (s:List UInt8):Nat:=(gTok (qdH (qdG r n n2 r2 s)) 1)
noncomputable def qlu (r:List (List PV)) (n:Int) (n2:Int) (r2:List (List PV)) (s:List UInt8):Bool:=isW (qdG r n n2 r2 s) (.tup [],⟨[[.sl (qjF r n n2 r2 s) .full],[.int .i64 (qi3 r n n2 r2 s)],[.int .i64 (qg1 r n n2 r2 s)],[.sl (qiB r n n2 r2 s) (.tok 1)],[.str (qlG r n n2 r2 s)]],[(2,0,1),((qlx r n n2 r2 s),6,120)],[75,3,38,75,9]⟩)
noncomputable def qDp:List PV→Store→Tr (PV × Store) | [.yld 0,.ptr 4 0],⟨[[.sl r .full],[.int .i64 n],[.int .i64 n2],[.sl r2 .full],[.str s]],[(0,0,1)],[75,3,38,75,9]⟩=>.ite (qlN r n n2 r2 s) (.ret (.tup [],⟨[[.sl (qjh r n n2 r2 s) .full],[.int .i64 (qjE r n n2 r2 s)],[.int .i64 (qgP r n n2 r2 s)],[.sl (qh1 r n n2 r2 s) .full],[.str (qlR r n n2 r2 s)]],[(2,0,1)],[75,3,38,75,9]⟩)) (.ite (qlm r n n2 r2 s) (.ret (.tup [],⟨[[.sl (qlK r n n2 r2 s) .full],[.int .i64 (qlA r n n2 r2 s)],[.int .i64 (qio r n n2 r2 s)],[.sl (qgR r n n2 r2 s) (.tok 1)],[.str (qlW r n n2 r2 s)]],[(0,0,1),((qlT r n n2 r2 s),6,120)],[75,3,38,75,9]⟩)) (.ite (qlc r n n2 r2 s) (.ret (.tup [],⟨[[.sl (qlB r n n2 r2 s) .full],[.int .i64 (qlC r n n2 r2 s)],[.int .i64 (qit r n n2 r2 s)],[.sl (qgN r n n2 r2 s) .full],[.str (qlr r n n2 r2 s)]],[(0,0,1)],[75,3,38,75,9]⟩)) (.ite (qlu r n n2 r2 s) (.ret (.tup [],⟨[[.sl (qjF r n n2 r2 s) .full],[.int .i64 (qi3 r n n2 r2 s)],[.int .i64 (qg1 r n n2 r2 s)],[.sl (qiB r n n2 r2 s) (.tok 1)],[.str (qlG r n n2 r2 s)]],[(2,0,1),((qlx r n n2 r2 s),6,120)],[75,3,38,75,9]⟩)) (.fail)))) | _,_=>.fail
theorem qE1 (gl:Gl) (hg:GlLex gl) (hy:ql7 Tryz.prog gl qeo (.yld 1 fun t a σ=>(qnZ t a σ).run)):SimS Tryz.prog gl 139 fun args σ=>(qDp args σ).run:=by
 refine SimS.of_flat (G:=qxZ) (L:=qG4) qaj (qCd gl hg hy ) qah Tryz.func139 rfl (by rfl) (by kernel_rfl) (qbt (L:=lps qG4) [(1,qtq)] (by kernel_rfl) (List.forall_mem_cons.2 ⟨fun fr σ e fr' σ' h=>qy0 gl hg hy  fr σ e fr' σ' h,(List.forall_mem_nil _)⟩)) ?_
 intro args σ x h
 unfold qDp at h
 split at h
 ·exact (congrArg Tr.run (qIm _ _ _ _ _)).trans (qai h fun h=>qai h fun h=>qai h fun h=>qai h fun h=>by cases h)
 ·cases h
end Go.Pv
set_option maxHeartbeats 4000000
set_option maxRecDepth 200000
set_option linter.unusedSimpArgs false
set_option linter.unusedVariables false
namespace Go.Pv
open Go Go.Proofs Go.RowKit
theorem qv5 (gl:Gl) (hg:GlLex gl):∀ fr σ e fr' σ',(rorc qqD (rngG qh6) 139 qDp fr σ).run=some (e,fr',σ')→Does Tryz.prog gl (rngO qh6) fr σ e fr' σ' :=
 qFD (G:=ofL []) (L:=fun _ _ _=>.fail) qaj (fun _ _=>qag) qah (fun _ _=>qae (by kernel_rfl)) (fun _ _=>qae (by kernel_rfl)) (by kernel_rfl) (by kernel_rfl) (by kernel_rfl)
  ⟨Tryz.f139,Tryz.func139,by rfl,by rfl⟩ (fun gl' hv hy=>qE1 gl' (hg.of_v hv) hy)
end Go.Pv
set_option maxHeartbeats 4000000
set_option maxRecDepth 200000
set_option linter.unusedSimpArgs false
set_option linter.unusedVariables false
namespace Go.Pv
open Go Go.Proofs
noncomputable def qq4:GamT:=ofL []
theorem qyh (gl:Gl):qaJ Tryz.prog gl (gam qq4):=qag
noncomputable def qwH:LpsT:=fun r fr σ=>.fail
noncomputable def qnK (s:List UInt8):Tr (PV × Store):=.ret (.fn 139 [.ptr 4 0],Store.mk [[.sl [] .full],[.int .i64 0],[.int .i64 0],[.sl [] .full],[.str s]] [] [75,3,38,75,9])
theorem qDY (s:List UInt8):(qp9 tbT qq4 qwH Tryz.f120 [.str s] ⟨[[.sl [] .full],[.int .i64 0],[.int .i64 0],[.sl [] .full]],[],[75,3,38,75]⟩).flat=qnK s:=by kernel_rfl
noncomputable def qfl (s:List UInt8):Option (PV × Store):=(qnK s).run
noncomputable def qb1 (s:List UInt8):List (List PV):=(gRow (gAt (gObj (qdH (qfl s)) 0) 0))
noncomputable def qb2 (s:List UInt8):Int:=(gInt (gAt (gObj (qdH (qfl s)) 1) 0))
noncomputable def qbL (s:List UInt8):Int:=(gInt (gAt (gObj (qdH (qfl s)) 2) 0))
noncomputable def qbM (s:List UInt8):List (List PV):=(gRow (gAt (gObj (qdH (qfl s)) 3) 0))
noncomputable def qbZ (s:List UInt8):List UInt8:=(gStr (gAt (gObj (qdH (qfl s)) 4) 0))
noncomputable def qhZ (s:List UInt8):Bool:=isW (qfl s) (.fn 139 [.ptr 4 0],⟨[[.sl (qb1 s) .full],[.int .i64 (qb2 s)],[.int .i64 (qbL s)],[.sl (qbM s) .full],[.str (qbZ s)]],[],[75,3,38,75,9]⟩)
noncomputable def qqM:List PV→Store→Tr (PV × Store) | [.str s],⟨[[.sl [] .full],[.int .i64 0],[.int .i64 0],[.sl [] .full]],[],[75,3,38,75]⟩=>.ite (qhZ s) (.ret (.fn 139 [.ptr 4 0],⟨[[.sl (qb1 s) .full],[.int .i64 (qb2 s)],[.int .i64 (qbL s)],[.sl (qbM s) .full],[.str (qbZ s)]],[],[75,3,38,75,9]⟩)) (.fail) | _,_=>.fail
theorem qxU (gl:Gl):SimS Tryz.prog gl 120 fun args σ=>(qqM args σ).run:=by
 refine SimS.of_flat (G:=qq4) (L:=qwH) qaj (qyh gl ) qah Tryz.func120 rfl (by rfl) (by kernel_rfl) (qae (by kernel_rfl)) ?_
 intro args σ x h
 unfold qqM at h
 split at h
 ·exact (congrArg Tr.run (qDY _)).trans (qai h fun h=>by cases h)
 ·cases h
noncomputable def qrr:GamT:=ofL [(120,.store qqM),(qvV+0,.glob qAu)]
theorem qyN (gl:Gl) (hg:GlLex gl):qaJ Tryz.prog gl (gam qrr):=(qdS (qxU gl) (qcn (K:=.glob qAu) (qw4 hg) qag))
noncomputable def qqU:LpsT:=fun r fr σ=>if r=500007 then rorc qqD (rngG qh6) 139 qDp fr σ else .fail
noncomputable def qoT (s:List UInt8):Tr PV:=.ite (iLt 65536 (sLen s)) (.ret (.tup [.sl [] .non,.int .i64 0,.int .i64 2])) (.ite (qhZ s) (.ite (qlN (qb1 s) (qb2 s) (qbL s) (qbM s) (qbZ s)) (.ret (.tup [.sl (qcM (qc1 0 (qjh (qb1 s) (qb2 s) (qbL s) (qbM s) (qbZ s)))) .non,.int .i64 (qjE (qb1 s) (qb2 s) (qbL s) (qbM s) (qbZ s)),.int .i64 (qgP (qb1 s) (qb2 s) (qbL s) (qbM s) (qbZ s))])) (.ite (qlm (qb1 s) (qb2 s) (qbL s) (qbM s) (qbZ s)) (.ret (.tup [.sl (qcM (qc1 0 (qgR (qb1 s) (qb2 s) (qbL s) (qbM s) (qbZ s)))) .non,.int .i64 0,.int .i64 0])) (.ite (qlc (qb1 s) (qb2 s) (qbL s) (qbM s) (qbZ s)) (.ret (.tup [.sl (qcM (qc1 0 (qgN (qb1 s) (qb2 s) (qbL s) (qbM s) (qbZ s)))) .non,.int .i64 0,.int .i64 0])) (.ite (qlu (qb1 s) (qb2 s) (qbL s) (qbM s) (qbZ s)) (.ret (.tup [.sl (qcM (qc1 0 (qjF (qb1 s) (qb2 s) (qbL s) (qbM s) (qbZ s)))) .non,.int .i64 (qi3 (qb1 s) (qb2 s) (qbL s) (qbM s) (qbZ s)),.int .i64 (qg1 (qb1 s) (qb2 s) (qbL s) (qbM s) (qbZ s))])) .fail)))) .fail)
theorem qCX (s:List UInt8):(tcall tbT qrr qqU Tryz.f80 [.str s]).flat=qoT s:=by kernel_rfl
noncomputable def qgh (s:List UInt8):Option PV:=(qoT s).run
noncomputable def qeq (s:List UInt8):List (List PV):=(gRow (gAt (gCs (gVal (qgh s))) 0))
noncomputable def qms (s:List UInt8):Int:=(gInt (gAt (gCs (gVal (qgh s))) 1))
noncomputable def qhQ (s:List UInt8):Int:=(gInt (gAt (gCs (gVal (qgh s))) 2))
noncomputable def qii (s:List UInt8):Bool:=isW (qgh s) (.tup [.sl (qeq s) .non,.int .i64 (qms s),.int .i64 (qhQ s)])
noncomputable def qrY:List PV→Tr PV | [.str s]=>.ite (qii s) (.ret (.tup [.sl (qeq s) .non,.int .i64 (qms s),.int .i64 (qhQ s)])) (.fail) | _=>.fail
theorem qyQ (gl:Gl) (hg:GlLex gl):SimP Tryz.prog gl 80 fun args=>(qrY args).run:=by
 refine SimP.of_flat (G:=qrr) (L:=qqU) qaj (qyN gl hg ) qah  Tryz.func80 rfl (by rfl) (by kernel_rfl) (qrH (L:=lps qqU) [] [(500007,rngO qh6)] (by kernel_rfl) (by kernel_rfl) (List.forall_mem_nil _) (List.forall_mem_cons.2 ⟨fun fr σ e fr' σ' h=>qv5 gl hg fr σ e fr' σ' h,(List.forall_mem_nil _)⟩)) ?_
 intro args x h
 unfold qrY at h
 split at h
 ·exact (congrArg Tr.run (qCX _)).trans (qai h fun h=>by cases h)
 ·cases h
end Go.Pv
set_option maxHeartbeats 8000000
set_option maxRecDepth 200000
set_option linter.unusedSimpArgs false
set_option linter.unusedVariables false
namespace Go.Pv
open Go Go.Proofs Go.RowKit
theorem qA2 {s:List UInt8} (hs:s.length≤140737488355328) (hne:s≠[]):∃ k x v,qbQ s=some (wTup k x v 0 (wdL s).isSome)∧∀ k' m v',wdL s=some (k',m,v')→k'=k∧x=s.take m∧v'=v:=by
 obtain ⟨c,t,rfl⟩:=List.exists_cons_of_ne_nil hne
 have val:∀ (k:Int) (n:Nat),(valL k (c :: t) n).isSome=decide (eRd ((c :: t).take n)=0)∧∀ k' m v',valL k (c :: t) n=some (k',m,v')→k'=k∧(c :: t).take n=(c :: t).take m∧v'=(kRd ((c :: t).take n),nRd ((c :: t).take n),sRd ((c :: t).take n)):=fun k n=>by
  unfold valL eRd kRd nRd sRd
  cases h:rdV ((c :: t).take n) with
  | none=>simp
  | some v =>
   refine ⟨by simp,fun k' m v' he=>?_⟩
   cases he
   exact ⟨rfl,rfl,rfl⟩
 by_cases h1:qeN c=true
 ·have e:runL innB (c :: t)=runL innB t+1:=by simp [runL,innB,h1]
  refine ⟨1,(c :: t).take (runL innB t+1),(0,0,[]),?_,fun k' m v' he=>?_⟩
  ·rw [qtX hs h1,e]
   congr 2
   simp only [wdL,h1,if_true]
   by_cases hl:runL innB t+1≤64 <;> simp [hl]
  ·simp only [wdL,h1,if_true] at he
   split at he
   ·cases he; exact ⟨rfl,rfl,rfl⟩
   ·cases he
 ·have h1':qeN c=false:=by simpa using h1
  by_cases h2:qhn c=true
  ·have e:runL innB (c :: t)=runL innB t+1:=by simp [runL,innB,h2]
   refine ⟨2,(c :: t).take (runL innB t+1),(0,0,[]),?_,fun k' m v' he=>?_⟩
   ·rw [qvn hs h2,e]
    congr 2
    simp only [wdL,h1',h2,if_true,Bool.false_eq_true,if_false]
    by_cases hl:runL innB t+1≤64 <;> simp [hl]
   ·simp only [wdL,h1',h2,if_true,Bool.false_eq_true,if_false] at he
    split at he
    ·cases he; exact ⟨rfl,rfl,rfl⟩
    ·cases he
  ·have h2':qhn c=false:=by simpa using h2
   by_cases h3:c.toNat=95
   ·have hc:c=95:=UInt8.toNat_inj.1 h3
    refine ⟨3,[95],(0,0,[]),?_,fun k' m v' he=>?_⟩
    ·rw [qBC hs h3]
     congr 2
     simp only [wdL,h1',h2',h3,if_true,Bool.false_eq_true,if_false]
     cases hdIs innB t <;> simp
    ·simp only [wdL,h1',h2',h3,if_true,Bool.false_eq_true,if_false] at he
     split at he
     ·cases he
     ·cases he; exact ⟨rfl,by rw [hc]; simp,rfl⟩
   ·have dg:qbQ (c :: t)=some (dgW (c :: t))→(qaW c || (decide (c.toNat=45) && hdIs qaW t))=true→∃ k x v,qbQ (c :: t)=some (wTup k x v 0 (wdL (c :: t)).isSome)∧∀ k' m v',wdL (c :: t)=some (k',m,v')→k'=k∧x=(c :: t).take m∧v'=v:=fun hw hd=>by
     have e:wdL (c :: t)=valL 4 (c :: t) (runL qaW t+1):=by simp only [wdL,h1',h2',h3,hd,if_true,Bool.false_eq_true,if_false]
     obtain ⟨v1,v2⟩:=val 4 (runL qaW t+1)
     refine ⟨4,(c :: t).take (runL qaW t+1),(kRd ((c :: t).take (runL qaW t+1)),nRd ((c :: t).take (runL qaW t+1)),sRd ((c :: t).take (runL qaW t+1))),?_,fun k' m v' he=>v2 k' m v' (by rw [← e]; exact he)⟩
     rw [hw,e,v1]
     rfl
    by_cases h4:qaW c=true
    ·exact dg (qDb hs h4) (by simp [h4])
    ·have h4':qaW c=false:=by simpa using h4
     by_cases h5:c.toNat=45∧hdIs qaW t=true
     ·cases t with
      | nil=>simp [hdIs] at h5
      | cons d u=>exact dg (qy1 hs h5.1 h5.2) (by simp [h5.1,h5.2])
     ·have h5':(qaW c || (decide (c.toNat=45) && hdIs qaW t))=false:=by
       rw [h4']
       by_cases hc:c.toNat=45
       ·have:hdIs qaW t=false:=by
         cases hh:hdIs qaW t with
         | false=>rfl
         | true=>exact absurd ⟨hc,hh⟩ h5
        simp [this]
       ·simp [hc]
      by_cases h6:c.toNat=34
      ·have e:wdL (c :: t)=if quoL t=0 then none else valL 5 (c :: t) (quoL t+1):=by
        show (if qeN c=true then _ else _)=_
        rw [if_neg h1,if_neg h2,if_neg h3,if_neg (by rw [h5']; simp),if_pos h6]
       obtain ⟨v1,v2⟩:=val 5 (symN t)
       refine ⟨5,(c :: t).take (symN t),(kRd ((c :: t).take (symN t)),nRd ((c :: t).take (symN t)),sRd ((c :: t).take (symN t))),?_,fun k' m v' he=>?_⟩
       ·rw [qAa hs h6,e]
        by_cases hq:quoL t=0
        ·rw [if_pos hq]
         unfold syW symN
         rw [if_pos hq]
         have:eRd []=10:=by decide
         simp [this,wTup]
        ·rw [if_neg hq]
         unfold symN at v1 ⊢
         rw [if_neg hq] at v1 ⊢
         rw [v1]
         rfl
       ·rw [e] at he
        by_cases hq:quoL t=0
        ·rw [if_pos hq] at he; cases he
        ·rw [if_neg hq] at he
         refine v2 k' m v' ?_
         unfold symN
         rw [if_neg hq]
         exact he
      ·have e:wdL (c :: t)=if qea c t=0 then none else some (6,qea c t,0,0,[]):=by
        show (if qeN c=true then _ else _)=_
        rw [if_neg h1,if_neg h2,if_neg h3,if_neg (by rw [h5']; simp),if_neg h6]
       have hm:=qxN hs h1' h2' h3 h4' (fun hc=>by
        cases hh:hdIs qaW t with
        | false=>rfl
        | true=>exact absurd ⟨hc,hh⟩ h5) h6
       unfold mkW at hm
       cases ht:hdIs (twoB c) t with
       | true =>
        rw [ht,if_pos rfl] at hm
        have em:qea c t=2:=by simp [qea,ht]
        refine ⟨6,(c :: t).take 2,(0,0,[]),?_,fun k' m v' he=>?_⟩
        ·rw [hm,e,em]; rfl
        ·rw [e,em] at he
         cases he
         exact ⟨rfl,rfl,rfl⟩
       | false =>
        rw [ht,if_neg (by simp)] at hm
        refine ⟨6,[c],(0,0,[]),?_,fun k' m v' he=>?_⟩
        ·rw [hm,e]
         congr 2
         unfold qea
         rw [ht]
         cases qiL c <;> simp
        ·rw [e] at he
         split at he
         ·cases he
         ·rename_i hn
          have em:qea c t=1:=by
           unfold qea at hn ⊢
           rw [ht] at hn ⊢
           cases ho:qiL c with
           | true=>simp
           | false=>simp [ho] at hn
          rw [em] at he
          cases he
          exact ⟨rfl,by simp,rfl⟩
def wdT:List TypeId:=[75,3,38,75,9]
def lst (s:List UInt8) (st:Nat) (n n2:Int):List Wd→Store
 | []=>⟨[[.sl [] .full],[.int .i64 n],[.int .i64 n2],[.sl [] .full],[.str s]],[(st,0,1)],wdT⟩
 | a :: l=>⟨[[.sl [] .full],[.int .i64 n],[.int .i64 n2],[.sl (rOf cW (a :: l)) (.tok 1)],[.str s]],[(st,0,1),((a :: l).length,6,120)],wdT⟩
theorem qDh (s:List UInt8) (st:Nat) (n n2:Int) (l:List Wd) (a:Wd):lst s st n n2 (l++[a])=⟨[[.sl [] .full],[.int .i64 n],[.int .i64 n2],[.sl (rOf cW (l++[a])) (.tok 1)],[.str s]],[(st,0,1),((l++[a]).length,6,120)],wdT⟩:=by
 cases l <;> rfl
def wEnd (s:List UInt8) (acc:List Wd):List Wd × Option Nat→Option (PExit × List PV × Store)
 | (l,none)=>some (.exit 0,[],lst s 0 0 0 (acc++l))
 | (l,some p)=>some (.ret,[],lst s 2 (p:Nat) 120 (acc++l))
theorem qwP (f i:Nat):lexL f i []=([],none):=by cases f <;> rfl
theorem qFq (s:List UInt8) (hs:s.length≤70000):∀ (f i:Nat) (acc:List Wd),i≤s.length→s.length < i+f→acc.length≤i→qeE [.yld 0,.ptr 4 0,.int .i64 (i:Nat)] (lst s 0 0 0 acc)=wEnd s acc (lexL f i (s.drop i)):=by
 intro f
 induction f with
 | zero=>intro i acc h1 h2 _; omega
 | succ f ih =>
  intro i acc h1 h2 h3
  by_cases hlt:i < s.length
  ·have hS:sSub s (nNat (i:Int)) (nLen s)=s.drop i:=by simp
   have hne:s.drop i≠[]:=by
    intro h
    have:=congrArg List.length h
    simp at this
    omega
   have hSl:(s.drop i).length≤140737488355328:=by simp; omega
   obtain ⟨k,x,v,hw,hw2⟩:=qA2 hSl hne
   have a0:qhS (s.drop i)=true:=by simp [qhS,qb5,qa9,qbH,qbF,qbK,qqz,qeL,hw,wTup]
   have a1:qb5 (s.drop i)=k:=by simp [qb5,hw,wTup]
   have a2:qa9 (s.drop i)=x:=by simp [qa9,hw,wTup]
   have a3:qbH (s.drop i)=v.1:=by simp [qbH,hw,wTup]
   have a4:qbF (s.drop i)=v.2.1:=by simp [qbF,hw,wTup]
   have a5:qbK (s.drop i)=v.2.2:=by simp [qbK,hw,wTup]
   have a6:qeL (s.drop i)=(wdL (s.drop i)).isSome:=by simp [qeL,hw,wTup]
   have t1:iLt (i:Int) (sLen s)=true:=by simp; omega
   have t2:qaw (qal (i:Int)) true (nNat (i:Int)) (nLen s) (nLen s)=true:=by simp; omega
   have eL:lexL (f+1) i (s.drop i)=match wdL (s.drop i) with
     | none=>([],some i)
     | some (k,m,v) =>
      ((k,(s.drop i).take m,v,(i:Int)) :: (lexL f (i+m+gapL false ((s.drop i).drop m)) ((s.drop i).drop (m+gapL false ((s.drop i).drop m)))).1,(lexL f (i+m+gapL false ((s.drop i).drop m)) ((s.drop i).drop (m+gapL false ((s.drop i).drop m)))).2):=by
    obtain ⟨c,t,hct⟩:=List.exists_cons_of_ne_nil hne
    rw [hct]
    rfl
   rw [eL]
   cases hwd:wdL (s.drop i) with
   | none =>
    rw [hwd] at a6
    cases acc with
    | nil =>
     show qeE _ ⟨_,_,_⟩=_
     simp only [wdT]
     rw [qzY]
     simp only [qom,hS,a0,a1,a2,a3,a4,a5,a6,t1,t2]
     simp [wEnd,lst,wdT]
    | cons a l =>
     show qeE _ ⟨_,_,_⟩=_
     simp only [wdT]
     rw [qvW]
     simp only [qj8,hS,a0,a1,a2,a3,a4,a5,a6,t1,t2]
     simp [wEnd,lst,wdT]
   | some r =>
    obtain ⟨k',m,v'⟩:=r
    obtain ⟨rfl,rfl,rfl⟩:=hw2 k' m v' hwd
    rw [hwd] at a6
    obtain ⟨m1,m2⟩:=qvL hwd
    have hx:((s.drop i).take m).length=m:=by rw [List.length_take]; omega
    have m3:i+m≤s.length:=by simp at m2; omega
    have e1:iAdd .i64 (i:Int) (sLen ((s.drop i).take m))=((i+m:Nat):Int):=by
     rw [qg3,hx]
     exact qa2 (by omega)
    have hS2:sSub s (nNat ((i+m:Nat):Int)) (nLen s)=s.drop (i+m):=by simp only [qsh,qqT,qzW,Int.toNat_natCast,List.take_length]
    have t3:qaw (qal ((i+m:Nat):Int)) true (nNat ((i+m:Nat):Int)) (nLen s) (nLen s)=true:=by simp; omega
    have g1:qex (s.drop (i+m))=true:=qy8 (by simp; omega)
    have g2:qa5 (s.drop (i+m))=(gapL false (s.drop (i+m)):Nat):=qEI (by simp; omega)
    have g3:=qoy false (s.drop (i+m))
    have e2:iAdd .i64 ((i+m:Nat):Int) ((gapL false (s.drop (i+m)):Nat):Int)=((i+m+gapL false (s.drop (i+m)):Nat):Int):=qa2 (by simp at g3; omega)
    have hd1:(s.drop i).drop m=s.drop (i+m):=by rw [List.drop_drop]
    have hd2:(s.drop i).drop (m+gapL false (s.drop (i+m)))=s.drop (i+m+gapL false (s.drop (i+m))):=by rw [List.drop_drop]; congr 1; omega
    simp only [hd1,hd2]
    have hih:=ih (i+m+gapL false (s.drop (i+m))) (acc++[(k',(s.drop i).take m,v',(i:Int))]) (by simp at g3; omega) (by omega) (by simp; omega)
    have hfin:wEnd s (acc++[(k',(s.drop i).take m,v',(i:Int))]) (lexL f (i+m+gapL false (s.drop (i+m))) (s.drop (i+m+gapL false (s.drop (i+m)))))=wEnd s acc ((k',(s.drop i).take m,v',(i:Int)) :: (lexL f (i+m+gapL false (s.drop (i+m))) (s.drop (i+m+gapL false (s.drop (i+m))))).1,(lexL f (i+m+gapL false (s.drop (i+m))) (s.drop (i+m+gapL false (s.drop (i+m))))).2):=by
     cases hr:lexL f (i+m+gapL false (s.drop (i+m))) (s.drop (i+m+gapL false (s.drop (i+m)))) with
     | mk l o=>cases o <;> simp [wEnd]
    rw [← hfin,← hih,qDh]
    cases acc with
    | nil =>
     show qeE _ ⟨_,_,_⟩=_
     simp only [wdT]
     rw [qzY]
     have o1:qaF [] [[PV.int .i64 k',.str ((s.drop i).take m),.int .i64 v'.1,.int .i64 v'.2.1,.str v'.2.2,.int .i64 (i:Int)]] 64=true:=by simp
     have o2:qaB [[PV.int .i64 k',.str ((s.drop i).take m),.int .i64 v'.1,.int .i64 v'.2.1,.str v'.2.2,.int .i64 (i:Int)]] 6=true:=by simp [one]
     simp only [qom,hS,a0,a1,a2,a3,a4,a5,a6,t1,t2,e1,hS2,t3,g1,g2,e2,o1,o2]
     simp [qEN,qBq]
    | cons a l =>
     show qeE _ ⟨_,_,_⟩=_
     simp only [wdT]
     rw [qvW]
     have o1:qaF (rOf cW (a :: l)) [[PV.int .i64 k',.str ((s.drop i).take m),.int .i64 v'.1,.int .i64 v'.2.1,.str v'.2.2,.int .i64 (i:Int)]] 64=true:=by
      simp only [List.length_cons] at h3
      simp
      omega
     have o2:qaB [[PV.int .i64 k',.str ((s.drop i).take m),.int .i64 v'.1,.int .i64 v'.2.1,.str v'.2.2,.int .i64 (i:Int)]] 6=true:=by simp [one]
     simp only [qj8,hS,a0,a1,a2,a3,a4,a5,a6,t1,t2,e1,hS2,t3,g1,g2,e2,o1,o2]
     simp [qAi]
  ·have:i=s.length:=by omega
   subst this
   rw [List.drop_eq_nil_of_le (Nat.le_refl _),qwP]
   have t1:iLt (s.length:Int) (sLen s)=false:=by simp
   cases acc with
   | nil =>
    show qeE _ ⟨_,_,_⟩=_
    simp only [wdT]
    rw [qzY]
    simp only [qom,t1]
    simp [wEnd,lst,wdT]
   | cons a l =>
    show qeE _ ⟨_,_,_⟩=_
    simp only [wdT]
    rw [qvW]
    simp only [qj8,t1]
    simp [wEnd,lst,wdT]
def qrM (s:List UInt8):List Wd × Option Nat→Option (PV × Store)
 | (l,none)=>some (.tup [],lst s 0 0 0 l)
 | (l,some p)=>some (.tup [],lst s 2 (p:Nat) 120 l)
theorem qF8 {s:List UInt8} (hs:s.length≤70000):qdG [] 0 0 [] s=qrM s (qeF s):=by
 have hg:=qoy false s
 have h:=qFq s hs (s.length+1) (gapL false s) [] hg (by omega) (by simp)
 rw [show lexL (s.length+1) (gapL false s) (s.drop (gapL false s))=qeF s from rfl] at h
 unfold qdG qBn
 rw [qy8 (by omega),qEI (by omega)]
 generalize qeF s=r at h ⊢
 simp only [lst,wdT] at h
 generalize ((gapL false s:Nat):Int)=g at h ⊢
 obtain ⟨l,o⟩:=r
 cases o with
 | none =>
  cases l with
  | nil =>
   simp only [wEnd,lst,wdT,List.append_nil,List.nil_append] at h
   simp only [qid,qip,qiv,qiF,qig,qia,qie,qgp,qg5,qgW,qhd,qeD,qe2,qeR,qe9,qeO,qeY,qe7,qgM,qgf,qg8,qha,qgS,qgX,qg7,qe8,qeJ,qeI,qff,qfd,qeG,qeW,qgl,qgn,qgm,qgr,qgv,qgJ,qgw,qgG,qgU,qgK,qgs,qhf,qgz,qg2,qbk,h]
   simp [-qfa,qrM,lst,wdT]
  | cons a l =>
   simp only [wEnd,lst,wdT,List.nil_append] at h
   simp only [qid,qip,qiv,qiF,qig,qia,qie,qgp,qg5,qgW,qhd,qeD,qe2,qeR,qe9,qeO,qeY,qe7,qgM,qgf,qg8,qha,qgS,qgX,qg7,qe8,qeJ,qeI,qff,qfd,qeG,qeW,qgl,qgn,qgm,qgr,qgv,qgJ,qgw,qgG,qgU,qgK,qgs,qhf,qgz,qg2,qbk,h]
   simp [-qfa,qrM,lst,wdT]
 | some p =>
  cases l with
  | nil =>
   simp only [wEnd,lst,wdT,List.append_nil,List.nil_append] at h
   simp only [qid,qip,qiv,qiF,qig,qia,qie,qgp,qg5,qgW,qhd,qeD,qe2,qeR,qe9,qeO,qeY,qe7,qgM,qgf,qg8,qha,qgS,qgX,qg7,qe8,qeJ,qeI,qff,qfd,qeG,qeW,qgl,qgn,qgm,qgr,qgv,qgJ,qgw,qgG,qgU,qgK,qgs,qhf,qgz,qg2,qbk,h]
   simp [-qfa,qrM,lst,wdT]
  | cons a l =>
   simp only [wEnd,lst,wdT,List.nil_append] at h
   simp only [qid,qip,qiv,qiF,qig,qia,qie,qgp,qg5,qgW,qhd,qeD,qe2,qeR,qe9,qeO,qeY,qe7,qgM,qgf,qg8,qha,qgS,qgX,qg7,qe8,qeJ,qeI,qff,qfd,qeG,qeW,qgl,qgn,qgm,qgr,qgv,qgJ,qgw,qgG,qgU,qgK,qgs,qhf,qgz,qg2,qbk,h]
   simp [-qfa,qrM,lst,wdT]
def wOut:List Wd × Option Nat→PV
 | (l,none)=>.tup [.sl (rOf cW l) .non,.int .i64 0,.int .i64 0]
 | (_,some p)=>.tup [.sl [] .non,.int .i64 (p:Nat),.int .i64 120]
theorem qya {s:List UInt8} (hs:s.length≤70000):qgh s=some (if 65536 < s.length then .tup [.sl [] .non,.int .i64 0,.int .i64 2] else wOut (qeF s)):=by
 have h:=qF8 hs
 unfold qgh qoT
 have b:qfl s=some (.fn 139 [.ptr 4 0],⟨[[.sl [] .full],[.int .i64 0],[.int .i64 0],[.sl [] .full],[.str s]],[],wdT⟩):=by simp [-qfa,qfl,qnK,wdT]
 have b0:qhZ s=true:=by
  simp only [qhZ,qb2,qbL,qb1,qbM,qbZ,b,wdT]
  simp [-qfa]
 have b1:qb2 s=0:=by simp only [qb2,b]; simp [-qfa]
 have b2:qbL s=0:=by simp only [qbL,b]; simp [-qfa]
 have b3:qb1 s=[]:=by simp only [qb1,b]; simp [-qfa]
 have b4:qbM s=[]:=by simp only [qbM,b]; simp [-qfa]
 have b5:qbZ s=s:=by simp only [qbZ,b]; simp [-qfa]
 rw [b0,b1,b2,b3,b4,b5]
 by_cases hl:65536 < s.length
 ·have:iLt 65536 (sLen s)=true:=by simp; omega
  rw [this,if_pos hl]
  rfl
 ·have:iLt 65536 (sLen s)=false:=by simp; omega
  rw [this,if_neg hl]
  generalize qeF s=r at h ⊢
  obtain ⟨l,o⟩:=r
  cases o with
  | none =>
   cases l with
   | nil =>
    simp only [qrM,lst,wdT] at h
    simp only [qlN,qlm,qlc,qlu,qlT,qlx,qgP,qio,qit,qg1,qjE,qlA,qlC,qi3,qh1,qgR,qgN,qiB,qjh,qlK,qlB,qjF,qlR,qlW,qlr,qlG,h]
    simp [-qfa,wOut]
   | cons a l =>
    simp only [qrM,lst,wdT] at h
    simp only [qlN,qlm,qlc,qlu,qlT,qlx,qgP,qio,qit,qg1,qjE,qlA,qlC,qi3,qh1,qgR,qgN,qiB,qjh,qlK,qlB,qjF,qlR,qlW,qlr,qlG,h]
    simp [-qfa,wOut]
  | some p =>
   cases l with
   | nil =>
    simp only [qrM,lst,wdT] at h
    simp only [qlN,qlm,qlc,qlu,qlT,qlx,qgP,qio,qit,qg1,qjE,qlA,qlC,qi3,qh1,qgR,qgN,qiB,qjh,qlK,qlB,qjF,qlR,qlW,qlr,qlG,h]
    simp [-qfa,wOut]
   | cons a l =>
    simp only [qrM,lst,wdT] at h
    simp only [qlN,qlm,qlc,qlu,qlT,qlx,qgP,qio,qit,qg1,qjE,qlA,qlC,qi3,qh1,qgR,qgN,qiB,qjh,qlK,qlB,qjF,qlR,qlW,qlr,qlG,h]
    simp [-qfa,wOut]
end Go.Pv
set_option maxHeartbeats 8000000
set_option maxRecDepth 200000
set_option linter.unusedSimpArgs false
set_option linter.unusedVariables false
namespace Go.Pv
open Go Go.Proofs Go.RowKit
def rEnd (acc:List Wd):List Wd × Option Nat→Option (PExit × List PV × Store)
 | (l,none)=>some (.exit 0,[.sl (rOf cW (acc++l)) (aT (acc++l))],aS 6 120 (acc++l))
 | (l,some p)=>some (.ret,[.sl [] .full,.int .i64 (p:Nat),.int .i64 120],aS 6 120 (acc++l))
theorem qFB (s:List UInt8) (hs:s.length≤70000):∀ (f i:Nat) (acc:List Wd),i≤s.length→s.length < i+f→acc.length≤i→qbW [.str s,.sl (rOf cW acc) (aT acc),.int .i64 (i:Nat)] (aS 6 120 acc)=rEnd acc (lexL f i (s.drop i)):=by
 intro f
 induction f with
 | zero=>intro i acc h1 h2 _; omega
 | succ f ih =>
  intro i acc h1 h2 h3
  by_cases hlt:i < s.length
  ·have hne:s.drop i≠[]:=by
    intro h
    have:=congrArg List.length h
    simp at this
    omega
   obtain ⟨c,t,hct⟩:=List.exists_cons_of_ne_nil hne
   have hw:=qzA (v:=s) (by omega) hct
   rw [← hct] at hw
   have t1:iLt (i:Int) (sLen s)=true:=by simp; omega
   have eL:lexL (f+1) i (s.drop i)=match wdL (s.drop i) with
     | none=>([],some i)
     | some (k,m,v) =>
      ((k,(s.drop i).take m,v,(i:Int)) :: (lexL f (i+m+gapL false ((s.drop i).drop m)) ((s.drop i).drop (m+gapL false ((s.drop i).drop m)))).1,(lexL f (i+m+gapL false ((s.drop i).drop m)) ((s.drop i).drop (m+gapL false ((s.drop i).drop m)))).2):=by
    rw [hct]
    rfl
   rw [eL]
   cases hwd:wdL (s.drop i) with
   | none =>
    rw [hwd] at hw
    simp only [rOut,wTup] at hw
    have a0:qfc s (i:Int)=true:=by simp only [qfc,qdv,qcx,qcz,qcB,qcC,qcA,qfG,hw]; simp
    have a6:qfG s (i:Int)=false:=by simp only [qfG,hw]; simp
    cases acc with
    | nil =>
     show qbW [_,.sl [] .full,_] ⟨[],[],[]⟩=_
     rw [qoU]
     simp only [qf9,t1,a0,a6]
     simp [rEnd]
    | cons a l =>
     show qbW [_,.sl (rOf cW (a :: l)) (.tok 0),_] ⟨[],[((a :: l).length,6,120)],[]⟩=_
     rw [qkY]
     simp only [qeQ,t1,a0,a6]
     simp [rEnd,aS]
   | some r =>
    obtain ⟨k,m,v⟩:=r
    rw [hwd] at hw
    simp only [rOut,wTup] at hw
    have a0:qfc s (i:Int)=true:=by simp only [qfc,qdv,qcx,qcz,qcB,qcC,qcA,qfG,hw]; simp
    have a1:qdv s (i:Int)=k:=by simp only [qdv,hw]; simp
    have a2:qcx s (i:Int)=(s.drop i).take m:=by simp only [qcx,hw]; simp
    have a3:qcz s (i:Int)=v.1:=by simp only [qcz,hw]; simp
    have a4:qcB s (i:Int)=v.2.1:=by simp only [qcB,hw]; simp
    have a5:qcC s (i:Int)=v.2.2:=by simp only [qcC,hw]; simp
    have a7:qcA s (i:Int)=(i:Int):=by simp only [qcA,hw]; simp
    have a6:qfG s (i:Int)=true:=by simp only [qfG,hw]; simp
    obtain ⟨m1,m2⟩:=qvL hwd
    have hx:((s.drop i).take m).length=m:=by rw [List.length_take]; omega
    have m3:i+m≤s.length:=by simp at m2; omega
    have e1:iAdd .i64 (i:Int) (sLen ((s.drop i).take m))=((i+m:Nat):Int):=by
     rw [qg3,hx]
     exact qa2 (by omega)
    have g1:qfi s ((i+m:Nat):Int)=true:=qA6 (by omega) m3
    have g2:qc3 s ((i+m:Nat):Int)=((i+m+gapL false (s.drop (i+m)):Nat):Int):=qEx (by omega) m3
    have g3:=qoy false (s.drop (i+m))
    have hd1:(s.drop i).drop m=s.drop (i+m):=by rw [List.drop_drop]
    have hd2:(s.drop i).drop (m+gapL false (s.drop (i+m)))=s.drop (i+m+gapL false (s.drop (i+m))):=by rw [List.drop_drop]; congr 1; omega
    simp only [hd1,hd2]
    have hih:=ih (i+m+gapL false (s.drop (i+m))) (acc++[(k,(s.drop i).take m,v,(i:Int))]) (by simp at g3; omega) (by omega) (by simp; omega)
    have hfin:rEnd (acc++[(k,(s.drop i).take m,v,(i:Int))]) (lexL f (i+m+gapL false (s.drop (i+m))) (s.drop (i+m+gapL false (s.drop (i+m)))))=rEnd acc ((k,(s.drop i).take m,v,(i:Int)) :: (lexL f (i+m+gapL false (s.drop (i+m))) (s.drop (i+m+gapL false (s.drop (i+m))))).1,(lexL f (i+m+gapL false (s.drop (i+m))) (s.drop (i+m+gapL false (s.drop (i+m))))).2):=by
     cases hr:lexL f (i+m+gapL false (s.drop (i+m))) (s.drop (i+m+gapL false (s.drop (i+m)))) with
     | mk l o=>cases o <;> simp [rEnd]
    rw [← hfin,← hih,qE2,qFd]
    have o2:qaB [[PV.int .i64 k,.str ((s.drop i).take m),.int .i64 v.1,.int .i64 v.2.1,.str v.2.2,.int .i64 (i:Int)]] 6=true:=by simp [one]
    cases acc with
    | nil =>
     show qbW [_,.sl [] .full,_] ⟨[],[],[]⟩=_
     rw [qoU]
     have o1:qaF [] [[PV.int .i64 k,.str ((s.drop i).take m),.int .i64 v.1,.int .i64 v.2.1,.str v.2.2,.int .i64 (i:Int)]] 64=true:=by simp
     simp only [qf9,t1,a0,a1,a2,a3,a4,a5,a6,a7,e1,g1,g2,o1,o2]
     simp [qEN,qBq]
    | cons a l =>
     show qbW [_,.sl (rOf cW (a :: l)) (.tok 0),_] ⟨[],[((a :: l).length,6,120)],[]⟩=_
     rw [qkY]
     have o1:qaF (rOf cW (a :: l)) [[PV.int .i64 k,.str ((s.drop i).take m),.int .i64 v.1,.int .i64 v.2.1,.str v.2.2,.int .i64 (i:Int)]] 64=true:=by
      simp only [List.length_cons] at h3
      simp
      omega
     simp only [qeQ,t1,a0,a1,a2,a3,a4,a5,a6,a7,e1,g1,g2,o1,o2]
     simp [qAi]
  ·have:i=s.length:=by omega
   subst this
   rw [List.drop_eq_nil_of_le (Nat.le_refl _),qwP]
   have t1:iLt (s.length:Int) (sLen s)=false:=by simp
   cases acc with
   | nil =>
    show qbW [_,.sl [] .full,_] ⟨[],[],[]⟩=_
    rw [qoU]
    simp only [qf9,t1]
    simp [rEnd]
   | cons a l =>
    show qbW [_,.sl (rOf cW (a :: l)) (.tok 0),_] ⟨[],[((a :: l).length,6,120)],[]⟩=_
    rw [qkY]
    simp only [qeQ,t1]
    simp [rEnd,aT,aS]
theorem qyi {s:List UInt8} (hs:s.length≤70000):qgu s=some (if 65536 < s.length then .tup [.sl [] .non,.int .i64 0,.int .i64 2] else wOut (qeF s)):=by
 have hg:=qoy false s
 have h:=qFB s hs (s.length+1) (gapL false s) [] hg (by omega) (by simp)
 rw [show lexL (s.length+1) (gapL false s) (s.drop (gapL false s))=qeF s from rfl] at h
 unfold qgu qo0
 have g1:qfi s 0=true:=qA6 (i:=0) (by omega) (by omega)
 have g2:qc3 s 0=(gapL false s:Nat):=by
  have:=qEx (s:=s) (i:=0) (by omega) (by omega)
  simpa using this
 rw [g1,g2]
 by_cases hl:65536 < s.length
 ·have:iLt 65536 (sLen s)=true:=by simp; omega
  rw [this,if_pos hl]
  rfl
 ·have:iLt 65536 (sLen s)=false:=by simp; omega
  rw [this,if_neg hl]
  generalize qeF s=r at h ⊢
  simp only [qHC,qHx,qFm] at h
  generalize ((gapL false s:Nat):Int)=g at h ⊢
  obtain ⟨l,o⟩:=r
  cases o with
  | none =>
   cases l with
   | nil =>
    simp only [rEnd,List.append_nil,List.nil_append,aT,aS] at h
    simp only [qdY,qd9,qdZ,qdM,qdT,qdU,qcE,qcQ,qda,qde,qcg,qci,qdg,qdh,qbD,h]
    simp [wOut]
   | cons a l =>
    simp only [rEnd,List.nil_append,aT,aS] at h
    simp only [qdY,qd9,qdZ,qdM,qdT,qdU,qcE,qcQ,qda,qde,qcg,qci,qdg,qdh,qbD,h]
    simp [wOut]
  | some p =>
   cases l with
   | nil =>
    simp only [rEnd,List.append_nil,List.nil_append,aT,aS] at h
    simp only [qdY,qd9,qdZ,qdM,qdT,qdU,qcE,qcQ,qda,qde,qcg,qci,qdg,qdh,qbD,h]
    simp [wOut]
   | cons a l =>
    simp only [rEnd,List.nil_append,aT,aS] at h
    simp only [qdY,qd9,qdZ,qdM,qdT,qdU,qcE,qcQ,qda,qde,qcg,qci,qdg,qdh,qbD,h]
    simp [wOut]
end Go.Pv
set_option maxHeartbeats 8000000
set_option maxRecDepth 200000
set_option linter.unusedSimpArgs false
set_option linter.unusedVariables false
namespace Go.Pv
open Go Go.Proofs Go.RowKit
def wL (s:List UInt8):List Wd:=match qeF s with | (l,none)=>l | _=>[]
def wN (s:List UInt8):Int:=match (qeF s).2 with | none=>0 | some p=>(p:Nat)
def wE (s:List UInt8):Int:=match (qeF s).2 with | none=>0 | some _=>120
theorem qAz (s:List UInt8):wOut (qeF s)=.tup [.sl (rOf cW (wL s)) .non,.int .i64 (wN s),.int .i64 (wE s)]:=by
 unfold wL wN wE
 cases h:qeF s with
 | mk l o=>cases o <;> rfl
theorem qir {s:List UInt8} (hs:s.length≤65536):qgh s=some (.tup [.sl (rOf cW (wL s)) .non,.int .i64 (wN s),.int .i64 (wE s)]):=by
 rw [qya (by omega),if_neg (by omega),qAz]
theorem qim {s:List UInt8} (hs:s.length≤65536):qgu s=some (.tup [.sl (rOf cW (wL s)) .non,.int .i64 (wN s),.int .i64 (wE s)]):=by
 rw [qyi (by omega),if_neg (by omega),qAz]
section
variable {s : List UInt8} (hs : s.length ≤ 65536)
include hs
theorem qqi:qeq s=rOf cW (wL s):=by simp only [qeq,qir hs]; simp
theorem qyA:qms s=wN s:=by simp only [qms,qir hs]; simp
theorem qp7:qhQ s=wE s:=by simp only [qhQ,qir hs]; simp
theorem qu5:qii s=true:=by simp only [qii,qqi hs,qyA hs,qp7 hs,qir hs]; simp
theorem qpN:qev s=rOf cW (wL s):=by simp only [qev,qim hs]; simp
theorem qyR:qm0 s=wN s:=by simp only [qm0,qim hs]; simp
theorem qp6:qhD s=wE s:=by simp only [qhD,qim hs]; simp
theorem qt8:qib s=true:=by simp only [qib,qpN hs,qyR hs,qp6 hs,qim hs]; simp
end
end Go.Pv
set_option maxHeartbeats 8000000
set_option maxRecDepth 200000
set_option linter.unusedSimpArgs false
set_option linter.unusedVariables false
namespace Go.Pv
open Go Go.Proofs Go.RowKit
def gpB (b:UInt8):Bool:=blB b || decide (b.toNat=37)
def Nxt (r r':List UInt8):Prop:=r'=[]∨hdIs gpB r'=true∨∃ b t t',r=b :: t∧r'=b :: t'
theorem qmG {p:UInt8→Bool} (hp:∀ b,gpB b=true→p b=false) {r r':List UInt8} (hn:Nxt r r') (h:hdIs p r=false):hdIs p r'=false:=by
 rcases hn with rfl | hg | ⟨b,t,t',rfl,rfl⟩
 ·rfl
 ·cases r' with
  | nil=>rfl
  | cons b t=>exact hp b hg
 ·exact h
theorem qmV {p:UInt8→Bool} (hp:∀ b,gpB b=true→p b=false) {r r':List UInt8} (hn:Nxt r r'):∀ t:List UInt8,runL p (t++r)=t.length→runL p (t++r')=t.length
 | [],h=>by
  have h1:hdIs p r=false:=by
   cases r with
   | nil=>rfl
   | cons b t =>
    simp only [List.nil_append,runL,List.length_nil] at h
    cases hb:p b with
    | false=>exact hb
    | true=>rw [hb] at h; simp at h
  have h2:=qmG hp hn h1
  cases r' with
  | nil=>rfl
  | cons b t =>
   have h2:p b=false:=h2
   simp [runL,h2]
 | a :: t,h=>by
  simp only [List.cons_append,runL,List.length_cons] at h ⊢
  cases ha:p a with
  | false=>rw [ha] at h; simp at h
  | true =>
   rw [ha] at h
   simp only [if_true,Nat.add_right_cancel_iff] at h ⊢
   exact qmV hp hn t h
theorem qrp {n m:Nat} (h:incN n=m+1):n=m∧m≠0:=by
 unfold incN at h
 split at h <;> omega
theorem qmv (r r':List UInt8):∀ (e:Bool) (t:List UInt8),quoE e (t++r)=t.length→t.length≠0→quoE e (t++r')=t.length
 | _,[],_,h=>absurd rfl h
 | true,a :: t,h,_=>by
  simp only [List.cons_append,quoE,List.length_cons] at h ⊢
  obtain ⟨h1,h2⟩:=qrp h
  rw [qmv r r' false t h1 h2]
  simp [incN,h2]
 | false,a :: t,h,_=>by
  simp only [List.cons_append,quoE,List.length_cons] at h ⊢
  split at h
  ·rename_i h1
   rw [if_pos h1]
   exact h
  ·rename_i h1
   rw [if_neg h1]
   split at h
   ·rename_i h2
    rw [if_pos h2]
    obtain ⟨h1,h2⟩:=qrp h
    rw [qmv r r' true t h1 h2]
    simp [incN,h2]
   ·rename_i h2
    rw [if_neg h2]
    obtain ⟨h1,h2⟩:=qrp h
    rw [qmv r r' false t h1 h2]
    simp [incN,h2]
theorem qrt {b:UInt8} (h:gpB b=true):b.toNat=32∨b.toNat=9∨b.toNat=10∨b.toNat=13∨b.toNat=37:=by
 simp only [gpB,blB,Bool.or_eq_true,decide_eq_true_eq] at h
 omega
theorem qzF (b:UInt8) (h:gpB b=true):innB b=false:=by
 rcases qrt h with h | h | h | h | h <;> simp [innB,qeN,qhn,qaW,h]
theorem qH7 (b:UInt8) (h:gpB b=true):qaW b=false:=by
 rcases qrt h with h | h | h | h | h <;> simp [qaW,h]
theorem qH2 (c b:UInt8) (h:gpB b=true):twoB c b=false:=by
 rcases qrt h with h | h | h | h | h <;> simp [twoB,h]
theorem qtf {k k':Int} {s:List UInt8} {n m:Nat} {v:Vl} (h:valL k s n=some (k',m,v)):k'=k∧m=n∧rdV (s.take n)=some v:=by
 unfold valL at h
 split at h
 ·rename_i v' hv
  cases h
  exact ⟨rfl,rfl,hv⟩
 ·cases h
theorem qBz {k:Int} {s s':List UInt8} {n m:Nat} {k':Int} {v:Vl} (h:valL k s n=some (k',m,v)) (e:s'.take n=s.take n):valL k s' n=some (k',m,v):=by
 unfold valL at h ⊢
 rw [e]
 exact h
theorem qGf {x r r':List UInt8} {k:Int} {v:Vl} (h:wdL (x++r)=some (k,x.length,v)) (hn:Nxt r r'):wdL (x++r')=some (k,x.length,v):=by
 have hl:=(qvL h).1
 cases x with
 | nil=>simp at hl
 | cons c t =>
  simp only [List.cons_append,wdL,List.length_cons] at h ⊢
  by_cases h1:qeN c=true
  ·simp only [h1,if_true] at h ⊢
   split at h
   ·rename_i h2
    simp only [Option.some.injEq,Prod.mk.injEq,Nat.add_right_cancel_iff] at h
    obtain ⟨rfl,h3,rfl⟩:=h
    have:=qmV qzF hn t h3
    rw [this,if_pos (by omega)]
   ·cases h
  ·rw [if_neg h1] at h ⊢
   by_cases h2:qhn c=true
   ·simp only [h2,if_true] at h ⊢
    split at h
    ·rename_i h4
     simp only [Option.some.injEq,Prod.mk.injEq,Nat.add_right_cancel_iff] at h
     obtain ⟨rfl,h3,rfl⟩:=h
     have:=qmV qzF hn t h3
     rw [this,if_pos (by omega)]
    ·cases h
   ·rw [if_neg h2] at h ⊢
    by_cases h3:c.toNat=95
    ·rw [if_pos h3] at h ⊢
     split at h
     ·cases h
     ·rename_i h4
      simp only [Option.some.injEq,Prod.mk.injEq] at h
      obtain ⟨rfl,h5,rfl⟩:=h
      have ht:t=[]:=by cases t with | nil=>rfl | cons=>simp at h5
      subst ht
      have h6:=qmG qzF hn (by simpa using h4)
      simp [h6]
    ·rw [if_neg h3] at h ⊢
     have dgs:∀ q:Bool,(q || (decide (c.toNat=45) && hdIs qaW (t++r)))=(q || (decide (c.toNat=45) && hdIs qaW (t++r')))∨(t=[]∧hdIs qaW r=true):=by
      intro q
      cases t with
      | cons a t=>exact .inl rfl
      | nil =>
       cases hr:hdIs qaW r with
       | true=>exact .inr ⟨rfl,rfl⟩
       | false =>
        have:=qmG qH7 hn hr
        left
        simp [hr,this]
     by_cases h4:(qaW c || (decide (c.toNat=45) && hdIs qaW (t++r)))=true
     ·rw [if_pos h4] at h
      obtain ⟨hk,hm,hv⟩:=qtf h
      have h5:runL qaW (t++r)=t.length:=by omega
      have h6:=qmV qH7 hn t h5
      have h7:(qaW c || (decide (c.toNat=45) && hdIs qaW (t++r')))=true:=by
       rcases dgs (qaW c) with e | ⟨rfl,e⟩
       ·rw [← e]; exact h4
       ·cases r with
        | nil=>simp [hdIs] at e
        | cons b u =>
         have e:qaW b=true:=e
         simp [runL,e] at h5
      rw [if_pos h7,h6]
      rw [h5] at h
      refine qBz h ?_
      simp
     ·rw [if_neg h4] at h
      have h7:¬ (qaW c || (decide (c.toNat=45) && hdIs qaW (t++r')))=true:=by
       rcases dgs (qaW c) with e | ⟨rfl,e⟩
       ·rw [← e]; exact h4
       ·intro hh
        apply h4
        simp only [List.nil_append,Bool.or_eq_true,Bool.and_eq_true] at hh ⊢
        rcases hh with hh | ⟨hh,_⟩
        ·exact .inl hh
        ·exact .inr ⟨hh,e⟩
      rw [if_neg h7]
      by_cases h5:c.toNat=34
      ·rw [if_pos h5] at h ⊢
       split at h
       ·cases h
       ·rename_i h6
        obtain ⟨hk,hm,hv⟩:=qtf h
        have h8:quoL (t++r)=t.length:=by omega
        have h9:quoL (t++r')=t.length:=qmv r r' false t h8 (by omega)
        rw [h9,if_neg (by omega)]
        rw [h8] at h
        refine qBz h ?_
        simp
      ·rw [if_neg h5] at h ⊢
       split at h
       ·cases h
       ·rename_i h6
        simp only [Option.some.injEq,Prod.mk.injEq] at h
        obtain ⟨rfl,h8,rfl⟩:=h
        have h9:qea c (t++r')=t.length+1:=by
         unfold qea at h8 ⊢
         cases t with
         | nil =>
          show (if hdIs (twoB c) r'=true then 2 else if qiL c=true then 1 else 0)=1
          have h8:(if hdIs (twoB c) r=true then 2 else if qiL c=true then 1 else 0)=1:=h8
          cases hr:hdIs (twoB c) r with
          | true=>rw [if_pos hr] at h8; omega
          | false =>
           rw [if_neg (by rw [hr]; simp)] at h8
           rw [if_neg (by rw [qmG (qH2 c) hn hr]; simp)]
           exact h8
         | cons d t =>
          simp only [List.cons_append,hdIs] at h8 ⊢
          exact h8
        rw [h9]
        simp
def gpS:Bool→List UInt8→Option Bool
 | c,[]=>some c
 | c,b :: s=>if c || blB b || decide (b.toNat=37) then gpS (decide (b.toNat=37) || c && decide (b.toNat≠10)) s else none
theorem qAX:∀ (g:List UInt8) (c c':Bool) (s:List UInt8),gpS c g=some c'→gpS c (g++s)=gpS c' s
 | [],c,c',s,h=>by cases h; simp
 | b :: g,c,c',s,h=>by
  simp only [gpS] at h
  split at h
  ·rename_i hb
   simp only [List.cons_append,gpS,hb,if_true]
   exact qAX g _ c' s h
  ·cases h
abbrev Wv:=Int × List UInt8 × Vl
inductive Lx:List Wv→List UInt8→Prop
 | nil (s:List UInt8) (c:Bool) (h:gpS false s=some c):Lx [] s
 | cons (g x r:List UInt8) (k:Int) (v:Vl) (l:List Wv) (hg:gpS false g=some false) (hw:wdL (x++r)=some (k,x.length,v)) (h:Lx l r):Lx ((k,x,v) :: l) (g++(x++r))
theorem Lx.tail {z:List UInt8} (hz:hdIs gpB z=true) (h0:∀ c,∃ c',gpS c z=some c') {l:List Wv} {s:List UInt8} (h:Lx l s):Lx l (s++z):=by
 induction h with
 | nil s c h =>
  obtain ⟨c',hc⟩:=h0 c
  exact .nil _ c' (by rw [qAX s false c z h]; exact hc)
 | cons g x r k v l hg hw h ih =>
  rw [List.append_assoc,List.append_assoc]
  refine .cons g x (r++z) k v l hg (qGf hw ?_) ih
  cases r with
  | nil=>exact .inr (.inl hz)
  | cons b r=>exact .inr (.inr ⟨b,r,r++z,rfl,rfl⟩)
theorem join_nil (sep:List UInt8):qds [] sep=[]:=rfl
end Go.Pv
set_option linter.unusedSimpArgs false
set_option linter.unusedVariables false
namespace Go.Pv
abbrev At:=List UInt8 × List Tm
def cA:Cod At where
 enc t:=[.str t.1,.sl (rOf cM t.2) .non]
 dec c:=match c with | [.str x0,.sl x1 .non]=>(match deR cM x1 with | some y1=>some (x0,y1) | _=>none) | _=>none
 k:=2
 of_dec c a h:=by
  split at h
  ·split at h
   ·cases h
    rename_i h1
    rw [qjM cM h1]
   ·cases h
  ·cases h
 dec_of a:=by simp only [qpG cM]
 lock a:=by simp only [qfX,lock,qaI]
 shut a:=by simp only [qf5,shut,qk3]
 len a:=rfl
 one a:=rfl
@[simp] theorem okSize_cA (l:List At):qav (rOf cA l) 2=true:=qd3 cA l
@[simp] theorem okNews_cA (l:List At):qaB (rOf cA l) 2=true:=qd6 cA l
@[simp] theorem okGet_cA (l:List At) (i:Nat):qb9 [.str [],.sl [] .full] (rOf cA l) i=decide (i < l.length):=qfe _ _ (fun _=>rfl) l i
@[simp] theorem xStr_cA0 (l:List At) (i:Nat):xStr (rOf cA l) i 0=(l[i]?.getD ([],[])).1:=by unfold xStr; rw [qa7]; cases l[i]? <;> rfl
@[simp] theorem xRow_cA1 (l:List At) (i:Nat):xRow (rOf cA l) i 1=rOf cM ((l[i]?.getD ([],[])).2):=by unfold xRow; rw [qa7]; cases l[i]? <;> rfl
abbrev Li:=Int × At × Int × Tm × Tm
def cL:Cod Li where
 enc t:=[.int .i64 t.1,.str t.2.1.1,.sl (rOf cM t.2.1.2) .non,.int .i64 t.2.2.1,.int .i64 t.2.2.2.1.1,.str t.2.2.2.1.2.1,.int .i64 t.2.2.2.1.2.2.1,.int .i64 t.2.2.2.1.2.2.2.1,.str t.2.2.2.1.2.2.2.2,.int .i64 t.2.2.2.2.1,.str t.2.2.2.2.2.1,.int .i64 t.2.2.2.2.2.2.1,.int .i64 t.2.2.2.2.2.2.2.1,.str t.2.2.2.2.2.2.2.2]
 dec c:=match c with | [.int .i64 x0,.str x1,.sl x2 .non,.int .i64 x3,.int .i64 x4,.str x5,.int .i64 x6,.int .i64 x7,.str x8,.int .i64 x9,.str x10,.int .i64 x11,.int .i64 x12,.str x13]=>(match deR cM x2 with | some y2=>some (x0,(x1,y2),x3,(x4,x5,x6,x7,x8),(x9,x10,x11,x12,x13)) | _=>none) | _=>none
 k:=14
 of_dec c a h:=by
  split at h
  ·split at h
   ·cases h
    rename_i h2
    rw [qjM cM h2]
   ·cases h
  ·cases h
 dec_of a:=by simp only [qpG cM]
 lock a:=by simp only [qfX,lock,qaI]
 shut a:=by simp only [qf5,shut,qk3]
 len a:=rfl
 one a:=rfl
@[simp] theorem okSize_cL (l:List Li):qav (rOf cL l) 14=true:=qd3 cL l
@[simp] theorem okNews_cL (l:List Li):qaB (rOf cL l) 14=true:=qd6 cL l
@[simp] theorem okGet_cL (l:List Li) (i:Nat):qb9 [.int .i64 0,.str [],.sl [] .full,.int .i64 0,.int .i64 0,.str [],.int .i64 0,.int .i64 0,.str [],.int .i64 0,.str [],.int .i64 0,.int .i64 0,.str []] (rOf cL l) i=decide (i < l.length):=qfe _ _ (fun _=>rfl) l i
@[simp] theorem xInt_cL0 (l:List Li) (i:Nat):xInt (rOf cL l) i 0=(l[i]?.getD (0,([],[]),0,(0,[],0,0,[]),(0,[],0,0,[]))).1:=by unfold xInt; rw [qa7]; cases l[i]? <;> rfl
@[simp] theorem xStr_cL1 (l:List Li) (i:Nat):xStr (rOf cL l) i 1=(l[i]?.getD (0,([],[]),0,(0,[],0,0,[]),(0,[],0,0,[]))).2.1.1:=by unfold xStr; rw [qa7]; cases l[i]? <;> rfl
@[simp] theorem xRow_cL2 (l:List Li) (i:Nat):xRow (rOf cL l) i 2=rOf cM ((l[i]?.getD (0,([],[]),0,(0,[],0,0,[]),(0,[],0,0,[]))).2.1.2):=by unfold xRow; rw [qa7]; cases l[i]? <;> rfl
@[simp] theorem xInt_cL3 (l:List Li) (i:Nat):xInt (rOf cL l) i 3=(l[i]?.getD (0,([],[]),0,(0,[],0,0,[]),(0,[],0,0,[]))).2.2.1:=by unfold xInt; rw [qa7]; cases l[i]? <;> rfl
@[simp] theorem xInt_cL4 (l:List Li) (i:Nat):xInt (rOf cL l) i 4=(l[i]?.getD (0,([],[]),0,(0,[],0,0,[]),(0,[],0,0,[]))).2.2.2.1.1:=by unfold xInt; rw [qa7]; cases l[i]? <;> rfl
@[simp] theorem xStr_cL5 (l:List Li) (i:Nat):xStr (rOf cL l) i 5=(l[i]?.getD (0,([],[]),0,(0,[],0,0,[]),(0,[],0,0,[]))).2.2.2.1.2.1:=by unfold xStr; rw [qa7]; cases l[i]? <;> rfl
@[simp] theorem xInt_cL6 (l:List Li) (i:Nat):xInt (rOf cL l) i 6=(l[i]?.getD (0,([],[]),0,(0,[],0,0,[]),(0,[],0,0,[]))).2.2.2.1.2.2.1:=by unfold xInt; rw [qa7]; cases l[i]? <;> rfl
@[simp] theorem xInt_cL7 (l:List Li) (i:Nat):xInt (rOf cL l) i 7=(l[i]?.getD (0,([],[]),0,(0,[],0,0,[]),(0,[],0,0,[]))).2.2.2.1.2.2.2.1:=by unfold xInt; rw [qa7]; cases l[i]? <;> rfl
@[simp] theorem xStr_cL8 (l:List Li) (i:Nat):xStr (rOf cL l) i 8=(l[i]?.getD (0,([],[]),0,(0,[],0,0,[]),(0,[],0,0,[]))).2.2.2.1.2.2.2.2:=by unfold xStr; rw [qa7]; cases l[i]? <;> rfl
@[simp] theorem xInt_cL9 (l:List Li) (i:Nat):xInt (rOf cL l) i 9=(l[i]?.getD (0,([],[]),0,(0,[],0,0,[]),(0,[],0,0,[]))).2.2.2.2.1:=by unfold xInt; rw [qa7]; cases l[i]? <;> rfl
@[simp] theorem xStr_cL10 (l:List Li) (i:Nat):xStr (rOf cL l) i 10=(l[i]?.getD (0,([],[]),0,(0,[],0,0,[]),(0,[],0,0,[]))).2.2.2.2.2.1:=by unfold xStr; rw [qa7]; cases l[i]? <;> rfl
@[simp] theorem xInt_cL11 (l:List Li) (i:Nat):xInt (rOf cL l) i 11=(l[i]?.getD (0,([],[]),0,(0,[],0,0,[]),(0,[],0,0,[]))).2.2.2.2.2.2.1:=by unfold xInt; rw [qa7]; cases l[i]? <;> rfl
@[simp] theorem xInt_cL12 (l:List Li) (i:Nat):xInt (rOf cL l) i 12=(l[i]?.getD (0,([],[]),0,(0,[],0,0,[]),(0,[],0,0,[]))).2.2.2.2.2.2.2.1:=by unfold xInt; rw [qa7]; cases l[i]? <;> rfl
@[simp] theorem xStr_cL13 (l:List Li) (i:Nat):xStr (rOf cL l) i 13=(l[i]?.getD (0,([],[]),0,(0,[],0,0,[]),(0,[],0,0,[]))).2.2.2.2.2.2.2.2:=by unfold xStr; rw [qa7]; cases l[i]? <;> rfl
abbrev Ru:=At × List Li
abbrev Pa:=List UInt8 × Int
def cP:Cod Pa where
 enc t:=[.str t.1,.int .i64 t.2]
 dec c:=match c with | [.str x0,.int .i64 x1]=>(some (x0,x1)) | _=>none
 k:=2
 of_dec c a h:=by
  split at h
  ·cases h; rfl
  ·cases h
 dec_of a:=rfl
 lock a:=rfl
 shut a:=rfl
 len a:=rfl
 one a:=rfl
@[simp] theorem okSize_cP (l:List Pa):qav (rOf cP l) 2=true:=qd3 cP l
@[simp] theorem okNews_cP (l:List Pa):qaB (rOf cP l) 2=true:=qd6 cP l
@[simp] theorem okGet_cP (l:List Pa) (i:Nat):qb9 [.str [],.int .i64 0] (rOf cP l) i=decide (i < l.length):=qfe _ _ (fun _=>rfl) l i
@[simp] theorem xStr_cP0 (l:List Pa) (i:Nat):xStr (rOf cP l) i 0=(l[i]?.getD ([],0)).1:=by unfold xStr; rw [qa7]; cases l[i]? <;> rfl
@[simp] theorem xInt_cP1 (l:List Pa) (i:Nat):xInt (rOf cP l) i 1=(l[i]?.getD ([],0)).2:=by unfold xInt; rw [qa7]; cases l[i]? <;> rfl
abbrev Ac:=Bool × At
def cAc:Cod Ac where
 enc t:=[.bool t.1,.str t.2.1,.sl (rOf cM t.2.2) .non]
 dec c:=match c with | [.bool x0,.str x1,.sl x2 .non]=>(match deR cM x2 with | some y2=>some (x0,(x1,y2)) | _=>none) | _=>none
 k:=3
 of_dec c a h:=by
  split at h
  ·split at h
   ·cases h
    rename_i h2
    rw [qjM cM h2]
   ·cases h
  ·cases h
 dec_of a:=by simp only [qpG cM]
 lock a:=by simp only [qfX,lock,qaI]
 shut a:=by simp only [qf5,shut,qk3]
 len a:=rfl
 one a:=rfl
@[simp] theorem okSize_cAc (l:List Ac):qav (rOf cAc l) 3=true:=qd3 cAc l
@[simp] theorem okNews_cAc (l:List Ac):qaB (rOf cAc l) 3=true:=qd6 cAc l
@[simp] theorem okGet_cAc (l:List Ac) (i:Nat):qb9 [.bool false,.str [],.sl [] .full] (rOf cAc l) i=decide (i < l.length):=qfe _ _ (fun _=>rfl) l i
@[simp] theorem xBool_cAc0 (l:List Ac) (i:Nat):ql6 (rOf cAc l) i 0=(l[i]?.getD (false,([],[]))).1:=by unfold ql6; rw [qa7]; cases l[i]? <;> rfl
@[simp] theorem xStr_cAc1 (l:List Ac) (i:Nat):xStr (rOf cAc l) i 1=(l[i]?.getD (false,([],[]))).2.1:=by unfold xStr; rw [qa7]; cases l[i]? <;> rfl
@[simp] theorem xRow_cAc2 (l:List Ac) (i:Nat):xRow (rOf cAc l) i 2=rOf cM ((l[i]?.getD (false,([],[]))).2.2):=by unfold xRow; rw [qa7]; cases l[i]? <;> rfl
abbrev En:=List UInt8 × List Pa × List Ac
end Go.Pv
set_option maxHeartbeats 8000000
set_option maxRecDepth 200000
set_option linter.unusedSimpArgs false
set_option linter.unusedVariables false
namespace Go.Pv
open Go Go.Proofs Go.RowKit
def isW1 (k:Int) (s:List UInt8):Bool:=match qeF s with
 | ([w],none)=>decide (w.1=k) && decide (w.2.1=s)
 | _=>false
def tk (k:Int) (s:List UInt8):Wv:=(k,s,0,0,[])
def vlR (v:Vl):Prop:=-9223372036854775808≤v.2.1∧v.2.1≤9223372036854775807
def vlT (v:Vl):List UInt8:=qek v.1 v.2.1 v.2.2
def vlOk (v:Vl):Bool:=isV v.1 v.2.1 v.2.2
end Go.Pv
set_option maxHeartbeats 8000000
set_option maxRecDepth 200000
set_option linter.unusedSimpArgs false
set_option linter.unusedVariables false
namespace Go.Pv
open Go Go.Proofs Go.RowKit
abbrev Txt:=List UInt8
def resv:List Txt:=[[98,97,115,101],[118,105,101,119],[111,110],[110,111,116]]
def nmB (s:Txt):Bool:=isW1 1 s && !resv.contains s
def vrB (s:Txt):Bool:=isW1 2 s
def jn {α:Type} (ok:α→Bool) (T:α→Txt) (sep:Txt) (l:List α):Txt:=if l.all ok then qds (l.map T) sep else []
def tmOk (t:Tm):Bool:=if t.1=1 then vrB t.2.1 && decide (t.2.2=(0,0,[])) else if t.1=2 then vlOk t.2.2 && decide (t.2.1=[]) else decide (t=(3,[],0,0,[]))
def tmT (t:Tm):Txt:=if t.1=1 then t.2.1 else if t.1=2 then vlT t.2.2 else [95]
def atOk (a:At):Bool:=a.2.all tmOk && nmB a.1
def atT (a:At):Txt:=a.1++[40]++jn tmOk tmT [44,32] a.2++[41]
def opOk (o:Int):Bool:=decide (1≤o∧o≤6)
def opT (o:Int):Txt:=if o=1 then [32,61,32] else if o=2 then [32,33,61,32] else if o=3 then [32,60,32] else if o=4 then [32,60,61,32] else if o=5 then [32,62,32] else if o=6 then [32,62,61,32] else []
def tm0:Tm:=(0,[],0,0,[])
def qA3 (l:Li):Bool:=decide (l.2.2.1=0) && decide (l.2.2.2.1=tm0) && decide (l.2.2.2.2=tm0)
def liOk (l:Li):Bool:=if l.1=1∨l.1=2 then atOk l.2.1 && qA3 l else if l.1=3 then tmOk l.2.2.2.1 && opOk l.2.2.1 && tmOk l.2.2.2.2 && decide (l.2.1=([],[])) else false
def liT (l:Li):Txt:=if l.1=1 then atT l.2.1 else if l.1=2 then [110,111,116,32]++atT l.2.1 else if l.1=3 then tmT l.2.2.2.1++opT l.2.2.1++tmT l.2.2.2.2 else []
def ruOk (r:Ru):Bool:=atOk r.1 && r.2.all liOk
def ruT (r:Ru):Txt:=atT r.1++(if r.2=[] then [] else [32,58,45,32]++jn liOk liT [44,32] r.2)++[46]
def tyOk (t:Int):Bool:=decide (t=1∨t=2)
def tyT (t:Int):Txt:=if t=1 then [105,110,116] else if t=2 then [115,121,109] else []
def paOk (p:Pa):Bool:=tyOk p.2 && vrB p.1
def paT (p:Pa):Txt:=p.1++[32]++tyT p.2
def acOk (a:Ac):Bool:=atOk a.2
def acT (a:Ac):Txt:=(if a.1 then [43] else [45])++atT a.2
def enOk (o:En):Bool:=o.2.1.all paOk && o.2.2.all acOk && nmB o.1
def enT (o:En):Txt:=[111,110,32]++o.1++[40]++jn paOk paT [44,32] o.2.1++[41]++(if o.2.2=[] then [] else [58,32]++jn acOk acT [44,32] o.2.2)++[46]
def opW (o:Int):Txt:=if o=1 then [61] else if o=2 then [33,61] else if o=3 then [60] else if o=4 then [60,61] else if o=5 then [62] else [62,61]
def tmR (t:Tm):Prop:=vlR t.2.2
def atR (a:At):Prop:=∀ t ∈ a.2,tmR t
def liR (l:Li):Prop:=atR l.2.1∧tmR l.2.2.2.1∧tmR l.2.2.2.2
theorem qow (sep:Txt):qds [] sep=[]:=rfl
theorem qkk (x sep:Txt):qds [x] sep=x:=by simp [qds,Lib.join_one]
theorem qke (x y:Txt) (l:List Txt) (sep:Txt):qds (x :: y :: l) sep=x++(sep++qds (y :: l) sep):=by simp [qds,Lib.join,List.intercalate]
theorem qIq {α:Type} {ok:α→Bool} {T:α→Txt} {sep:Txt} {l:List α} (h:l.all ok=true):jn ok T sep l=qds (l.map T) sep:=by unfold jn; rw [if_pos h]
end Go.Pv
set_option linter.unusedSimpArgs false
set_option linter.unusedVariables false
namespace Go.Pv
theorem qf0 {α β ρ:Type} {l:List α} (n:Nat) (hn:n≤l.length) {V:Nat→List β→ρ} (ok:α→Bool) (g:α→β) (fin:List β→ρ) (Bad:ρ→Prop)
  (hgood:∀ (i:Nat) (b:List β) (a:α),b.length=i→(hi:i < l.length)→i < n→l[i]=a→ok a=true→V i b=V (i+1) (b++[g a]))
  (hbad:∀ (i:Nat) (b:List β) (a:α),b.length=i→(hi:i < l.length)→i < n→l[i]=a→ok a=false→Bad (V i b))
  (hend:∀ b:List β,b.length=n→V n b=fin b):((l.take n).all ok=true→V 0 []=fin ((l.take n).map g))∧((l.take n).all ok=false→Bad (V 0 [])):=by
 have key:∀ (m i:Nat),i+m=n→(((l.take n).drop i).all ok=true→V i ((l.take i).map g)=fin ((l.take n).map g))∧(((l.take n).drop i).all ok=false→Bad (V i ((l.take i).map g))):=by
  intro m
  induction m with
  | zero =>
   intro i hi
   have e:i=n:=by omega
   subst e
   have hd:(l.take i).drop i=[]:=List.drop_eq_nil_of_le (by rw [List.length_take]; omega)
   rw [hd]
   exact ⟨fun _=>hend _ (by rw [List.length_map,List.length_take]; omega),fun h=>by simp at h⟩
  | succ m ih =>
   intro i hi
   obtain ⟨ih1,ih2⟩:=ih (i+1) (by omega)
   have hlt:i < l.length:=by omega
   have hd:(l.take n).drop i=l[i] :: (l.take n).drop (i+1):=by
    have hlt':i < (l.take n).length:=by rw [List.length_take]; omega
    rw [List.drop_eq_getElem_cons hlt']
    simp
   have hb:((l.take i).map g).length=i:=by rw [List.length_map,List.length_take]; omega
   have ht:(l.take (i+1)).map g=(l.take i).map g++[g l[i]]:=by
    rw [← List.take_append_getElem hlt,List.map_append]
    rfl
   rw [hd,List.all_cons]
   cases ho:ok l[i] with
   | true =>
    rw [Bool.true_and,hgood i _ l[i] hb hlt (by omega) rfl ho,← ht]
    exact ⟨ih1,ih2⟩
   | false =>
    rw [Bool.false_and]
    exact ⟨fun h=>(by cases h),fun _=>hbad i _ l[i] hb hlt (by omega) rfl ho⟩
 have:=key n 0 (by omega)
 simpa using this
theorem qDI {α β ρ:Type} {l:List α} (n:Nat) (hn:n≤l.length) {V:Nat→List β→ρ} (g:α→β) (fin:List β→ρ)
  (hstep:∀ (i:Nat) (b:List β) (a:α),b.length=i→(hi:i < l.length)→i < n→l[i]=a→V i b=V (i+1) (b++[g a]))
  (hend:∀ b:List β,b.length=n→V n b=fin b):V 0 []=fin ((l.take n).map g) :=
 (qf0 n hn (fun _=>true) g fin (fun _=>False) (fun i b a h1 h2 h3 h4 _=>hstep i b a h1 h2 h3 h4) (fun _ _ _ _ _ _ _ h=>by cases h) hend).1 (by simp)
end Go.Pv
