/- Part 5 of the proof: pure values for the machine's values, what functions compute over them, and laws of what is computed. Conditions: none beyond each theorem's own premises. -/
import Derived.Test.YtakhnioifgbdfaaGreatDoorPvG4
import Derived.Test.YtakhnioifgbdfaaGreatDoorCards
import Derived.Test.YtakhnioifgbdfaaGreatDoorTie
set_option maxHeartbeats 4000000
set_option maxRecDepth 200000
set_option linter.unusedSimpArgs false
set_option linter.unusedVariables false
namespace Go.Pv
open Go Go.Proofs
noncomputable def qFM:GamT:=ofL [(80,.pure qrY)]
theorem qFf (gl:Gl) (hg:GlLex gl):qaJ Tryz.prog gl (gam qFM):=(qad (qyQ gl hg) qag)
noncomputable def qHp:LpsT:=fun r fr σ=>.fail
noncomputable def qBY (s:List UInt8) (k:Int):Tr PV:=.ite (qii s) (.ite (iEq (qhQ s) 0) (.ite (iEq (xLen (qeq s)) 1) (.ite (qal 0) (.ite (qb9 [.int .i64 0,.str [],.int .i64 0,.int .i64 0,.str [],.int .i64 0] (qeq s) (nNat 0)) (.ite (iEq (xInt (qeq s) (nNat 0) 0) k) (.ite (qal 0) (.ite (qb9 [.int .i64 0,.str [],.int .i64 0,.int .i64 0,.str [],.int .i64 0] (qeq s) (nNat 0)) (.ret (.bool (sEq (xStr (qeq s) (nNat 0) 1) s))) .fail) .fail) (.ret (.bool false))) .fail) .fail) (.ret (.bool false))) (.ret (.bool false))) .fail
theorem qIv (s:List UInt8) (k:Int):(tcall tbT qFM qHp Tryz.f52 [.str s,.int .i64 k]).flat=qBY s k:=by kernel_rfl
noncomputable def qDs (s:List UInt8) (k:Int):Option PV:=(qBY s k).run
noncomputable def quL (s:List UInt8) (k:Int):Bool:=(qcc (gVal (qDs s k)))
noncomputable def qlO (s:List UInt8) (k:Int):Bool:=isW (qDs s k) (.bool (quL s k))
noncomputable def qDf:List PV→Tr PV | [.str s,.int .i64 k]=>.ite (qlO s k) (.ret (.bool (quL s k))) (.fail) | _=>.fail
theorem qBW (gl:Gl) (hg:GlLex gl):SimP Tryz.prog gl 52 fun args=>(qDf args).run:=by
 refine SimP.of_flat (G:=qFM) (L:=qHp) qaj (qFf gl hg ) qah  Tryz.func52 rfl (by rfl) (by kernel_rfl) (qae (by kernel_rfl)) ?_
 intro args x h
 unfold qDf at h
 split at h
 ·exact (congrArg Tr.run (qIv _ _)).trans (qai h fun h=>by cases h)
 ·cases h
noncomputable def qub:GamT:=ofL [(52,.pure qDf)]
theorem qy3 (gl:Gl) (hg:GlLex gl):qaJ Tryz.prog gl (gam qub):=(qad (qBW gl hg) qag)
noncomputable def qCy:LpsT:=fun r fr σ=>.fail
noncomputable def qqs (s:List UInt8):Tr PV:=.ite (sEq s [98,97,115,101]) (.ret (.bool false)) (.ite (sEq s [118,105,101,119]) (.ret (.bool false)) (.ite (sEq s [111,110]) (.ret (.bool false)) (.ite (sEq s [110,111,116]) (.ret (.bool false)) (.ite (qlO s 1) (.ret (.bool (quL s 1))) .fail))))
theorem qG2 (s:List UInt8):(tcall tbT qub qCy Tryz.f18 [.str s]).flat=qqs s:=by kernel_rfl
noncomputable def qsl (s:List UInt8):Option PV:=(qqs s).run
noncomputable def qeH (s:List UInt8):Bool:=(qcc (gVal (qsl s)))
noncomputable def qc2 (s:List UInt8):Bool:=isW (qsl s) (.bool (qeH s))
noncomputable def qlP:List PV→Tr PV | [.str s]=>.ite (qc2 s) (.ret (.bool (qeH s))) (.fail) | _=>.fail
theorem qjS (gl:Gl) (hg:GlLex gl):SimP Tryz.prog gl 18 fun args=>(qlP args).run:=by
 refine SimP.of_flat (G:=qub) (L:=qCy) qaj (qy3 gl hg ) qah  Tryz.func18 rfl (by rfl) (by kernel_rfl) (qae (by kernel_rfl)) ?_
 intro args x h
 unfold qlP at h
 split at h
 ·exact (congrArg Tr.run (qG2 _)).trans (qai h fun h=>by cases h)
 ·cases h
noncomputable def qBH:GamT:=ofL [(52,.pure qDf)]
theorem qDB (gl:Gl) (hg:GlLex gl):qaJ Tryz.prog gl (gam qBH):=(qad (qBW gl hg) qag)
noncomputable def qEK:LpsT:=fun r fr σ=>.fail
noncomputable def qvE (s:List UInt8):Tr PV:=.ite (qlO s 2) (.ret (.bool (quL s 2))) .fail
theorem qIb (s:List UInt8):(tcall tbT qBH qEK Tryz.f20 [.str s]).flat=qvE s:=by kernel_rfl
noncomputable def qwG (s:List UInt8):Option PV:=(qvE s).run
noncomputable def qi0 (s:List UInt8):Bool:=(qcc (gVal (qwG s)))
noncomputable def qeu (s:List UInt8):Bool:=isW (qwG s) (.bool (qi0 s))
noncomputable def qqc:List PV→Tr PV | [.str s]=>.ite (qeu s) (.ret (.bool (qi0 s))) (.fail) | _=>.fail
theorem qmM (gl:Gl) (hg:GlLex gl):SimP Tryz.prog gl 20 fun args=>(qqc args).run:=by
 refine SimP.of_flat (G:=qBH) (L:=qEK) qaj (qDB gl hg ) qah  Tryz.func20 rfl (by rfl) (by kernel_rfl) (qae (by kernel_rfl)) ?_
 intro args x h
 unfold qqc at h
 split at h
 ·exact (congrArg Tr.run (qIb _)).trans (qai h fun h=>by cases h)
 ·cases h
noncomputable def quQ:GamT:=ofL [(20,.pure qqc),(75,.pure qw2)]
theorem qBL (gl:Gl) (hg:GlLex gl):qaJ Tryz.prog gl (gam quQ):=(qad (qmM gl hg) (qad (qwC hg.toGlOk.toGlPow) qag))
noncomputable def qCq:LpsT:=fun r fr σ=>.fail
noncomputable def qq0 (t:Int) (t2:List UInt8) (t3:Int) (t4:Int) (t5:List UInt8):Tr PV:=.ite (iEq t 1) (.ite (qeu t2) (.ite (qi0 t2) (.ret (.tup [.str t2,.bool (bAnd (iEq t3 0) (bAnd (iEq t4 0) (bAnd (sEq t5 []) true)))])) (.ret (.tup [.str t2,.bool false]))) .fail) (.ite (iEq t 2) (.ite (iEq (qbv t3 t4 t5) 0) (.ret (.tup [.str (qd4 t3 t4 t5),.bool (sEq t2 [])])) (.ret (.tup [.str (qd4 t3 t4 t5),.bool false]))) (.ret (.tup [.str [95],.bool (bAnd (iEq t 3) (bAnd (sEq t2 []) (bAnd (bAnd (iEq t3 0) (bAnd (iEq t4 0) (bAnd (sEq t5 []) true))) true)))])))
theorem qFp (t:Int) (t2:List UInt8) (t3:Int) (t4:Int) (t5:List UInt8):(tcall tbT quQ qCq Tryz.f44 [.agg [.int .i64 t,.str t2,.int .i64 t3,.int .i64 t4,.str t5]]).flat=qq0 t t2 t3 t4 t5:=by kernel_rfl
noncomputable def qnu (t:Int) (t2:List UInt8) (t3:Int) (t4:Int) (t5:List UInt8):Option PV:=(qq0 t t2 t3 t4 t5).run
noncomputable def qaH (t:Int) (t2:List UInt8) (t3:Int) (t4:Int) (t5:List UInt8):List UInt8:=(gStr (gAt (gCs (gVal (qnu t t2 t3 t4 t5))) 0))
noncomputable def qc0 (t:Int) (t2:List UInt8) (t3:Int) (t4:Int) (t5:List UInt8):Bool:=(qcc (gAt (gCs (gVal (qnu t t2 t3 t4 t5))) 1))
noncomputable def qca (t:Int) (t2:List UInt8) (t3:Int) (t4:Int) (t5:List UInt8):Bool:=isW (qnu t t2 t3 t4 t5) (.tup [.str (qaH t t2 t3 t4 t5),.bool (qc0 t t2 t3 t4 t5)])
noncomputable def qlp:List PV→Tr PV | [.agg [.int .i64 t,.str t2,.int .i64 t3,.int .i64 t4,.str t5]]=>.ite (qca t t2 t3 t4 t5) (.ret (.tup [.str (qaH t t2 t3 t4 t5),.bool (qc0 t t2 t3 t4 t5)])) (.fail) | _=>.fail
theorem qj9 (gl:Gl) (hg:GlLex gl):SimP Tryz.prog gl 44 fun args=>(qlp args).run:=by
 refine SimP.of_flat (G:=quQ) (L:=qCq) qaj (qBL gl hg ) qah  Tryz.func44 rfl (by rfl) (by kernel_rfl) (qae (by kernel_rfl)) ?_
 intro args x h
 unfold qlp at h
 split at h
 ·exact (congrArg Tr.run (qFp _ _ _ _ _)).trans (qai h fun h=>by cases h)
 ·cases h
noncomputable def qBj:GamT:=ofL [(44,.pure qlp),(88,.pure qqj),(qiV,.hint [(8,0,1,9)])]
theorem qzf (gl:Gl) (hg:GlLex gl):qaJ Tryz.prog gl (gam qBj):=(qad (qj9 gl hg) (qad (qmY hg.toGlOk.toGlPow) (qcn (K:=.hint [(8,0,1,9)]) trivial qag)))
noncomputable def qw1:Code:=qhg Tryz.f78 3
def qxn:LI:=⟨35,[1,2,8,13,14,15],fun e=>match e with | .ret=>[6,7] | .exit 0=>[1,8] | _=>[],true⟩
noncomputable def qur:LpsT:=fun r fr σ=>.fail
noncomputable def qiW (vs:List PV) (σ:Store):Option (PExit × List PV × Store):=lval (lstep tbT qBj qur qw1 qxn) vs σ
noncomputable def qnX (between:List UInt8) (texts:List (List PV)) (r:List (List PV)) (n:Int) (n2:Int) (k:Nat):Tr LR:=.ite (iLt n2 n) (.ite (qal n2) (.ite (qb9 [.int .i64 0,.str [],.int .i64 0,.int .i64 0,.str []] r (nNat n2)) (.ite (qca (xInt r (nNat n2) 0) (xStr r (nNat n2) 1) (xInt r (nNat n2) 2) (xInt r (nNat n2) 3) (xStr r (nNat n2) 4)) (.ite (bNot (qc0 (xInt r (nNat n2) 0) (xStr r (nNat n2) 1) (xInt r (nNat n2) 2) (xInt r (nNat n2) 3) (xStr r (nNat n2) 4))) (.ret (.out .ret [.str [],.bool false] (Store.mk [] [(k,1,9)] []))) (.ite (qaF texts [[.str (qaH (xInt r (nNat n2) 0) (xStr r (nNat n2) 1) (xInt r (nNat n2) 2) (xInt r (nNat n2) 3) (xStr r (nNat n2) 4))]] 16) (.ite (qaB [[.str (qaH (xInt r (nNat n2) 0) (xStr r (nNat n2) 1) (xInt r (nNat n2) 2) (xInt r (nNat n2) 3) (xStr r (nNat n2) 4))]] 1) (.ite (qav texts 1) (.ite (nEq k (nXs texts)) (.ret (.next [.str between,.fn 44 [],.sl (qam 0 (xApp texts [[.str (qaH (xInt r (nNat n2) 0) (xStr r (nNat n2) 1) (xInt r (nNat n2) 2) (xInt r (nNat n2) 3) (xStr r (nNat n2) 4))]])) (.tok 0),.sl (qam 0 r) .non,.int .i64 n,.int .i64 (iAdd .i64 n2 1)] (Store.mk [] [(nXs (xApp texts [[.str (qaH (xInt r (nNat n2) 0) (xStr r (nNat n2) 1) (xInt r (nNat n2) 2) (xInt r (nNat n2) 3) (xStr r (nNat n2) 4))]]),1,9)] []))) .fail) .fail) .fail) .fail)) .fail) .fail) .fail) (.ret (.out (.exit 0) [.str between,.sl texts (.tok 0)] (Store.mk [] [(k,1,9)] [])))
theorem qHl (between:List UInt8) (texts:List (List PV)) (r:List (List PV)) (n:Int) (n2:Int) (k:Nat):lstep tbT qBj qur qw1 qxn [.str between,.fn 44 [],.sl texts (.tok 0),.sl r .non,.int .i64 n,.int .i64 n2] ⟨[],[(k,1,9)],[]⟩=qnX between texts r n n2 k:=by kernel_rfl
theorem qAG (between:List UInt8) (texts:List (List PV)) (r:List (List PV)) (n:Int) (n2:Int) (k:Nat):qiW [.str between,.fn 44 [],.sl texts (.tok 0),.sl r .non,.int .i64 n,.int .i64 n2] ⟨[],[(k,1,9)],[]⟩=lnext qiW (qnX between texts r n n2 k).run:=by unfold qiW; rw [qb7,qHl]
noncomputable def qiR (between:List UInt8) (texts:List (List PV)) (r:List (List PV)) (n:Int) (n2:Int) (k:Nat):Option (PExit × List PV × Store):=qiW [.str between,.fn 44 [],.sl texts (.tok 0),.sl r .non,.int .i64 n,.int .i64 n2] ⟨[],[(k,1,9)],[]⟩
noncomputable def qkn (between:List UInt8) (texts:List (List PV)) (r:List (List PV)) (n:Int) (n2:Int) (k:Nat):List UInt8:=(gStr (gOut (qiR between texts r n n2 k) 0))
noncomputable def qkc (between:List UInt8) (texts:List (List PV)) (r:List (List PV)) (n:Int) (n2:Int) (k:Nat):Bool:=(qcc (gOut (qiR between texts r n n2 k) 1))
noncomputable def qmm (between:List UInt8) (texts:List (List PV)) (r:List (List PV)) (n:Int) (n2:Int) (k:Nat):Nat:=(gTok (qiR between texts r n n2 k) 0)
noncomputable def qnd (between:List UInt8) (texts:List (List PV)) (r:List (List PV)) (n:Int) (n2:Int) (k:Nat):Bool:=isW (qiR between texts r n n2 k) (.ret,[.str (qkn between texts r n n2 k),.bool (qkc between texts r n n2 k)],⟨[],[((qmm between texts r n n2 k),1,9)],[]⟩)
noncomputable def qcw (between:List UInt8) (texts:List (List PV)) (r:List (List PV)) (n:Int) (n2:Int) (k:Nat):List UInt8:=(gStr (gOut (qiR between texts r n n2 k) 0))
noncomputable def qcK (between:List UInt8) (texts:List (List PV)) (r:List (List PV)) (n:Int) (n2:Int) (k:Nat):List (List PV):=(gRow (gOut (qiR between texts r n n2 k) 1))
noncomputable def qm8 (between:List UInt8) (texts:List (List PV)) (r:List (List PV)) (n:Int) (n2:Int) (k:Nat):Nat:=(gTok (qiR between texts r n n2 k) 0)
noncomputable def qm9 (between:List UInt8) (texts:List (List PV)) (r:List (List PV)) (n:Int) (n2:Int) (k:Nat):Bool:=isW (qiR between texts r n n2 k) ((.exit 0),[.str (qcw between texts r n n2 k),.sl (qcK between texts r n n2 k) (.tok 0)],⟨[],[((qm8 between texts r n n2 k),1,9)],[]⟩)
noncomputable def qjU:List PV→Store→Tr (PExit × List PV × Store) | [.str between,.fn 44 [],.sl texts (.tok 0),.sl r .non,.int .i64 n,.int .i64 n2],⟨[],[(k,1,9)],[]⟩=>.ite (qnd between texts r n n2 k) (.ret (.ret,[.str (qkn between texts r n n2 k),.bool (qkc between texts r n n2 k)],⟨[],[((qmm between texts r n n2 k),1,9)],[]⟩)) (.ite (qm9 between texts r n n2 k) (.ret ((.exit 0),[.str (qcw between texts r n n2 k),.sl (qcK between texts r n n2 k) (.tok 0)],⟨[],[((qm8 between texts r n n2 k),1,9)],[]⟩)) (.fail)) | _,_=>.fail
theorem qGp:∀ vs σ r,(qjU vs σ).run=some r→qiW vs σ=some r:=by
 intro vs σ r h
 unfold qjU at h
 split at h
 ·exact qai h fun h=>qai h fun h=>by cases h
 ·cases h
theorem qBR (gl:Gl) (hg:GlLex gl):∀ fr σ e fr' σ',(orc qxn qjU fr σ).run=some (e,fr',σ')→LDoes Tryz.prog gl qw1 fr σ e fr' σ':=qdI qaj (qzf gl hg ) qah (L:=qur) (qae (by kernel_rfl)) (by kernel_rfl) qGp
noncomputable def qGM:LpsT:=fun r fr σ=>bif Nat.beq r 3 then orc qxn qjU fr σ else .fail
noncomputable def qy9 (l:List (List PV)) (sep:List UInt8):Tr PV:=.ite (qnd sep [] l (xLen l) 0 0) (.ret (.tup [.str (qkn sep [] l (xLen l) 0 0),.bool (qkc sep [] l (xLen l) 0 0)])) (.ite (qm9 sep [] l (xLen l) 0 0) (.ite (okR cS (qac (qcK sep [] l (xLen l) 0 0))) (.ite (qhP (unR cS (qac (qcK sep [] l (xLen l) 0 0))) (qcw sep [] l (xLen l) 0 0)) (.ret (.tup [.str (qds (unR cS (qac (qcK sep [] l (xLen l) 0 0))) (qcw sep [] l (xLen l) 0 0)),.bool true])) .fail) .fail) .fail)
theorem qIs (l:List (List PV)) (sep:List UInt8):(tcall tbT qBj qGM Tryz.f78 [.sl l .non,.str sep,.fn 44 []]).flat=qy9 l sep:=by kernel_rfl
noncomputable def qBP (l:List (List PV)) (sep:List UInt8):Option PV:=(qy9 l sep).run
noncomputable def qpn (l:List (List PV)) (sep:List UInt8):List UInt8:=(gStr (gAt (gCs (gVal (qBP l sep))) 0))
noncomputable def qvk (l:List (List PV)) (sep:List UInt8):Bool:=(qcc (gAt (gCs (gVal (qBP l sep))) 1))
noncomputable def qk0 (l:List (List PV)) (sep:List UInt8):Bool:=isW (qBP l sep) (.tup [.str (qpn l sep),.bool (qvk l sep)])
noncomputable def qFe:List PV→Tr PV | [.sl l .non,.str sep,.fn 44 []]=>.ite (qk0 l sep) (.ret (.tup [.str (qpn l sep),.bool (qvk l sep)])) (.fail) | _=>.fail
theorem qGD (gl:Gl) (hg:GlLex gl):SimP Tryz.prog gl 78 fun args=>(qFe args).run:=by
 refine SimP.of_flat (G:=qBj) (L:=qGM) qaj (qzf gl hg ) qah  Tryz.func78 rfl (by rfl) (by kernel_rfl) (qbt (L:=lps qGM) [(3,qw1)] (by kernel_rfl) (List.forall_mem_cons.2 ⟨fun fr σ e fr' σ' h=>qBR gl hg  fr σ e fr' σ' h,(List.forall_mem_nil _)⟩)) ?_
 intro args x h
 unfold qFe at h
 split at h
 ·exact (congrArg Tr.run (qIs _ _)).trans (qai h fun h=>by cases h)
 ·cases h
noncomputable def qut:GamT:=ofL [(18,.pure qlP),(44,.pure qlp),(78,.pure qFe)]
theorem qB9 (gl:Gl) (hg:GlLex gl):qaJ Tryz.prog gl (gam qut):=(qad (qjS gl hg) (qad (qj9 gl hg) (qad (qGD gl hg) qag)))
noncomputable def qAs:LpsT:=fun r fr σ=>.fail
noncomputable def qrS (a:List UInt8) (a2:List (List PV)):Tr PV:=.ite (qk0 (qac a2) [44,32]) (.ite (qaG a [40]) (.ite (qaG (sApp a [40]) (qpn (qac a2) [44,32])) (.ite (qaG (sApp (sApp a [40]) (qpn (qac a2) [44,32])) [41]) (.ite (qvk (qac a2) [44,32]) (.ite (qc2 a) (.ret (.tup [.str (sApp (sApp (sApp a [40]) (qpn (qac a2) [44,32])) [41]),.bool (qeH a)])) .fail) (.ret (.tup [.str (sApp (sApp (sApp a [40]) (qpn (qac a2) [44,32])) [41]),.bool false]))) .fail) .fail) .fail) .fail
theorem qGN (a:List UInt8) (a2:List (List PV)):(tcall tbT qut qAs Tryz.f47 [.agg [.str a,.sl a2 .non]]).flat=qrS a a2:=by kernel_rfl
noncomputable def qnF (a:List UInt8) (a2:List (List PV)):Option PV:=(qrS a a2).run
noncomputable def qbm (a:List UInt8) (a2:List (List PV)):List UInt8:=(gStr (gAt (gCs (gVal (qnF a a2))) 0))
noncomputable def qcl (a:List UInt8) (a2:List (List PV)):Bool:=(qcc (gAt (gCs (gVal (qnF a a2))) 1))
noncomputable def qb0 (a:List UInt8) (a2:List (List PV)):Bool:=isW (qnF a a2) (.tup [.str (qbm a a2),.bool (qcl a a2)])
noncomputable def qlI:List PV→Tr PV | [.agg [.str a,.sl a2 .non]]=>.ite (qb0 a a2) (.ret (.tup [.str (qbm a a2),.bool (qcl a a2)])) (.fail) | _=>.fail
theorem qjW (gl:Gl) (hg:GlLex gl):SimP Tryz.prog gl 47 fun args=>(qlI args).run:=by
 refine SimP.of_flat (G:=qut) (L:=qAs) qaj (qB9 gl hg ) qah  Tryz.func47 rfl (by rfl) (by kernel_rfl) (qae (by kernel_rfl)) ?_
 intro args x h
 unfold qlI at h
 split at h
 ·exact (congrArg Tr.run (qGN _ _)).trans (qai h fun h=>by cases h)
 ·cases h
noncomputable def qFC:GamT:=ofL []
theorem qGR (gl:Gl):qaJ Tryz.prog gl (gam qFC):=qag
noncomputable def qHd:LpsT:=fun r fr σ=>.fail
noncomputable def qBJ (o:Int):Tr PV:=.ite (iEq o 1) (.ret (.tup [.str [32,61,32],.bool true])) (.ite (iEq o 2) (.ret (.tup [.str [32,33,61,32],.bool true])) (.ite (iEq o 3) (.ret (.tup [.str [32,60,32],.bool true])) (.ite (iEq o 4) (.ret (.tup [.str [32,60,61,32],.bool true])) (.ite (iEq o 5) (.ret (.tup [.str [32,62,32],.bool true])) (.ite (iEq o 6) (.ret (.tup [.str [32,62,61,32],.bool true])) (.ret (.tup [.str [],.bool false])))))))
theorem qIF (o:Int):(tcall tbT qFC qHd Tryz.f79 [.int .i64 o]).flat=qBJ o:=by kernel_rfl
noncomputable def qBZ (o:Int):Option PV:=(qBJ o).run
noncomputable def qdV (o:Int):List UInt8:=(gStr (gAt (gCs (gVal (qBZ o))) 0))
noncomputable def qrT (o:Int):Bool:=(qcc (gAt (gCs (gVal (qBZ o))) 1))
noncomputable def qht (o:Int):Bool:=isW (qBZ o) (.tup [.str (qdV o),.bool (qrT o)])
noncomputable def qGa:List PV→Tr PV | [.int .i64 o]=>.ite (qht o) (.ret (.tup [.str (qdV o),.bool (qrT o)])) (.fail) | _=>.fail
theorem qFP (gl:Gl):SimP Tryz.prog gl 79 fun args=>(qGa args).run:=by
 refine SimP.of_flat (G:=qFC) (L:=qHd) qaj (qGR gl ) qah  Tryz.func79 rfl (by rfl) (by kernel_rfl) (qae (by kernel_rfl)) ?_
 intro args x h
 unfold qGa at h
 split at h
 ·exact (congrArg Tr.run (qIF _)).trans (qai h fun h=>by cases h)
 ·cases h
noncomputable def qkX:GamT:=ofL [(44,.pure qlp),(47,.pure qlI),(79,.pure qGa)]
theorem qsq (gl:Gl) (hg:GlLex gl):qaJ Tryz.prog gl (gam qkX):=(qad (qj9 gl hg) (qad (qjW gl hg) (qad (qFP gl) qag)))
noncomputable def qqp:LpsT:=fun r fr σ=>.fail
noncomputable def qjB (v:Int) (v2:List UInt8) (v3:List (List PV)) (v4:Int) (v5:Int) (v6:List UInt8) (v7:Int) (v8:Int) (v9:List UInt8) (v10:Int) (v11:List UInt8) (v12:Int) (v13:Int) (v14:List UInt8):Tr PV:=.ite (iEq v4 0) (.ite (bAnd (iEq v5 0) (bAnd (sEq v6 []) (bAnd (bAnd (iEq v7 0) (bAnd (iEq v8 0) (bAnd (sEq v9 []) true))) true))) (.ite (iEq v 1) (.ite (qb0 v2 (qac v3)) (.ite (qcl v2 (qac v3)) (.ret (.tup [.str (qbm v2 (qac v3)),.bool (bAnd (iEq v10 0) (bAnd (sEq v11 []) (bAnd (bAnd (iEq v12 0) (bAnd (iEq v13 0) (bAnd (sEq v14 []) true))) true)))])) (.ret (.tup [.str (qbm v2 (qac v3)),.bool false]))) .fail) (.ite (iEq v 2) (.ite (qb0 v2 (qac v3)) (.ite (qaG [110,111,116,32] (qbm v2 (qac v3))) (.ite (qcl v2 (qac v3)) (.ret (.tup [.str (sApp [110,111,116,32] (qbm v2 (qac v3))),.bool (bAnd (iEq v10 0) (bAnd (sEq v11 []) (bAnd (bAnd (iEq v12 0) (bAnd (iEq v13 0) (bAnd (sEq v14 []) true))) true)))])) (.ret (.tup [.str (sApp [110,111,116,32] (qbm v2 (qac v3))),.bool false]))) .fail) .fail) (.ite (iEq v 3) (.ite (qca v5 v6 v7 v8 v9) (.ite (qht v4) (.ite (qca v10 v11 v12 v13 v14) (.ite (qaG (qaH v5 v6 v7 v8 v9) (qdV v4)) (.ite (qaG (sApp (qaH v5 v6 v7 v8 v9) (qdV v4)) (qaH v10 v11 v12 v13 v14)) (.ite (qc0 v5 v6 v7 v8 v9) (.ite (qrT v4) (.ite (qc0 v10 v11 v12 v13 v14) (.ite (sEq v2 []) (.ret (.tup [.str (sApp (sApp (qaH v5 v6 v7 v8 v9) (qdV v4)) (qaH v10 v11 v12 v13 v14)),.bool (iEq (xLen v3) 0)])) (.ret (.tup [.str (sApp (sApp (qaH v5 v6 v7 v8 v9) (qdV v4)) (qaH v10 v11 v12 v13 v14)),.bool false]))) (.ret (.tup [.str (sApp (sApp (qaH v5 v6 v7 v8 v9) (qdV v4)) (qaH v10 v11 v12 v13 v14)),.bool false]))) (.ret (.tup [.str (sApp (sApp (qaH v5 v6 v7 v8 v9) (qdV v4)) (qaH v10 v11 v12 v13 v14)),.bool false])))
 (.ret (.tup [.str (sApp (sApp (qaH v5 v6 v7 v8 v9) (qdV v4)) (qaH v10 v11 v12 v13 v14)),.bool false]))) .fail) .fail) .fail) .fail) .fail) (.ret (.tup [.str [],.bool false]))))) (.ite (iEq v 1) (.ite (qb0 v2 (qac v3)) (.ite (qcl v2 (qac v3)) (.ret (.tup [.str (qbm v2 (qac v3)),.bool false])) (.ret (.tup [.str (qbm v2 (qac v3)),.bool false]))) .fail) (.ite (iEq v 2) (.ite (qb0 v2 (qac v3)) (.ite (qaG [110,111,116,32] (qbm v2 (qac v3))) (.ite (qcl v2 (qac v3)) (.ret (.tup [.str (sApp [110,111,116,32] (qbm v2 (qac v3))),.bool false])) (.ret (.tup [.str (sApp [110,111,116,32] (qbm v2 (qac v3))),.bool false]))) .fail) .fail) (.ite (iEq v 3) (.ite (qca v5 v6 v7 v8 v9) (.ite (qht v4) (.ite (qca v10 v11 v12 v13 v14) (.ite (qaG (qaH v5 v6 v7 v8 v9) (qdV v4)) (.ite (qaG (sApp (qaH v5 v6 v7 v8 v9) (qdV v4)) (qaH v10 v11 v12 v13 v14)) (.ite (qc0 v5 v6 v7 v8 v9) (.ite (qrT v4) (.ite (qc0 v10 v11 v12 v13 v14) (.ite (sEq v2 []) (.ret (.tup [.str (sApp (sApp (qaH v5 v6 v7 v8 v9) (qdV v4)) (qaH v10 v11 v12 v13 v14)),.bool (iEq (xLen v3) 0)])) (.ret (.tup [.str (sApp (sApp (qaH v5 v6 v7 v8 v9) (qdV v4)) (qaH v10 v11 v12 v13 v14)),.bool false]))) (.ret (.tup [.str (sApp (sApp (qaH v5 v6 v7 v8 v9) (qdV v4)) (qaH v10 v11 v12 v13 v14)),.bool false]))) (.ret (.tup [.str (sApp (sApp (qaH v5 v6 v7 v8 v9) (qdV v4)) (qaH v10 v11 v12 v13 v14)),.bool false]))) (.ret (.tup [.str (sApp (sApp (qaH v5 v6 v7 v8 v9) (qdV v4)) (qaH v10 v11 v12 v13 v14)),.bool false]))) .fail) .fail) .fail) .fail) .fail) (.ret (.tup [.str [],.bool false])))))) (.ite (iEq v 1) (.ite (qb0 v2 (qac v3)) (.ite (qcl v2 (qac v3)) (.ret (.tup [.str (qbm v2 (qac v3)),.bool false])) (.ret (.tup [.str (qbm v2 (qac v3)),.bool false]))) .fail) (.ite (iEq v 2) (.ite (qb0 v2 (qac v3))
 (.ite (qaG [110,111,116,32] (qbm v2 (qac v3))) (.ite (qcl v2 (qac v3)) (.ret (.tup [.str (sApp [110,111,116,32] (qbm v2 (qac v3))),.bool false])) (.ret (.tup [.str (sApp [110,111,116,32] (qbm v2 (qac v3))),.bool false]))) .fail) .fail) (.ite (iEq v 3) (.ite (qca v5 v6 v7 v8 v9) (.ite (qht v4) (.ite (qca v10 v11 v12 v13 v14) (.ite (qaG (qaH v5 v6 v7 v8 v9) (qdV v4)) (.ite (qaG (sApp (qaH v5 v6 v7 v8 v9) (qdV v4)) (qaH v10 v11 v12 v13 v14)) (.ite (qc0 v5 v6 v7 v8 v9) (.ite (qrT v4) (.ite (qc0 v10 v11 v12 v13 v14) (.ite (sEq v2 []) (.ret (.tup [.str (sApp (sApp (qaH v5 v6 v7 v8 v9) (qdV v4)) (qaH v10 v11 v12 v13 v14)),.bool (iEq (xLen v3) 0)])) (.ret (.tup [.str (sApp (sApp (qaH v5 v6 v7 v8 v9) (qdV v4)) (qaH v10 v11 v12 v13 v14)),.bool false]))) (.ret (.tup [.str (sApp (sApp (qaH v5 v6 v7 v8 v9) (qdV v4)) (qaH v10 v11 v12 v13 v14)),.bool false]))) (.ret (.tup [.str (sApp (sApp (qaH v5 v6 v7 v8 v9) (qdV v4)) (qaH v10 v11 v12 v13 v14)),.bool false]))) (.ret (.tup [.str (sApp (sApp (qaH v5 v6 v7 v8 v9) (qdV v4)) (qaH v10 v11 v12 v13 v14)),.bool false]))) .fail) .fail) .fail) .fail) .fail) (.ret (.tup [.str [],.bool false])))))
theorem qyb (v:Int) (v2:List UInt8) (v3:List (List PV)) (v4:Int) (v5:Int) (v6:List UInt8) (v7:Int) (v8:Int) (v9:List UInt8) (v10:Int) (v11:List UInt8) (v12:Int) (v13:Int) (v14:List UInt8):(tcall tbT qkX qqp Tryz.f49 [.agg [.int .i64 v,.str v2,.sl v3 .non,.int .i64 v4,.int .i64 v5,.str v6,.int .i64 v7,.int .i64 v8,.str v9,.int .i64 v10,.str v11,.int .i64 v12,.int .i64 v13,.str v14]]).flat=qjB v v2 v3 v4 v5 v6 v7 v8 v9 v10 v11 v12 v13 v14:=by kernel_rfl
noncomputable def qgc (v:Int) (v2:List UInt8) (v3:List (List PV)) (v4:Int) (v5:Int) (v6:List UInt8) (v7:Int) (v8:Int) (v9:List UInt8) (v10:Int) (v11:List UInt8) (v12:Int) (v13:Int) (v14:List UInt8):Option PV:=(qjB v v2 v3 v4 v5 v6 v7 v8 v9 v10 v11 v12 v13 v14).run
noncomputable def qbT (v:Int) (v2:List UInt8) (v3:List (List PV)) (v4:Int) (v5:Int) (v6:List UInt8) (v7:Int) (v8:Int) (v9:List UInt8) (v10:Int) (v11:List UInt8) (v12:Int) (v13:Int) (v14:List UInt8):List UInt8:=(gStr (gAt (gCs (gVal (qgc v v2 v3 v4 v5 v6 v7 v8 v9 v10 v11 v12 v13 v14))) 0))
noncomputable def qcq (v:Int) (v2:List UInt8) (v3:List (List PV)) (v4:Int) (v5:Int) (v6:List UInt8) (v7:Int) (v8:Int) (v9:List UInt8) (v10:Int) (v11:List UInt8) (v12:Int) (v13:Int) (v14:List UInt8):Bool:=(qcc (gAt (gCs (gVal (qgc v v2 v3 v4 v5 v6 v7 v8 v9 v10 v11 v12 v13 v14))) 1))
noncomputable def qcL (v:Int) (v2:List UInt8) (v3:List (List PV)) (v4:Int) (v5:Int) (v6:List UInt8) (v7:Int) (v8:Int) (v9:List UInt8) (v10:Int) (v11:List UInt8) (v12:Int) (v13:Int) (v14:List UInt8):Bool:=isW (qgc v v2 v3 v4 v5 v6 v7 v8 v9 v10 v11 v12 v13 v14) (.tup [.str (qbT v v2 v3 v4 v5 v6 v7 v8 v9 v10 v11 v12 v13 v14),.bool (qcq v v2 v3 v4 v5 v6 v7 v8 v9 v10 v11 v12 v13 v14)])
noncomputable def qfW:List PV→Tr PV | [.agg [.int .i64 v,.str v2,.sl v3 .non,.int .i64 v4,.int .i64 v5,.str v6,.int .i64 v7,.int .i64 v8,.str v9,.int .i64 v10,.str v11,.int .i64 v12,.int .i64 v13,.str v14]]=>.ite (qcL v v2 v3 v4 v5 v6 v7 v8 v9 v10 v11 v12 v13 v14) (.ret (.tup [.str (qbT v v2 v3 v4 v5 v6 v7 v8 v9 v10 v11 v12 v13 v14),.bool (qcq v v2 v3 v4 v5 v6 v7 v8 v9 v10 v11 v12 v13 v14)])) (.fail) | _=>.fail
theorem qhG (gl:Gl) (hg:GlLex gl):SimP Tryz.prog gl 49 fun args=>(qfW args).run:=by
 refine SimP.of_flat (G:=qkX) (L:=qqp) qaj (qsq gl hg ) qah  Tryz.func49 rfl (by rfl) (by kernel_rfl) (qae (by kernel_rfl)) ?_
 intro args x h
 unfold qfW at h
 split at h
 ·exact (congrArg Tr.run (qyb _ _ _ _ _ _ _ _ _ _ _ _ _ _)).trans (qai h fun h=>by cases h)
 ·cases h
noncomputable def qAy:GamT:=ofL [(49,.pure qfW),(88,.pure qqj),(qiV,.hint [(8,0,1,9)])]
theorem qBo (gl:Gl) (hg:GlLex gl):qaJ Tryz.prog gl (gam qAy):=(qad (qhG gl hg) (qad (qmY hg.toGlOk.toGlPow) (qcn (K:=.hint [(8,0,1,9)]) trivial qag)))
noncomputable def qxv:Code:=qhg Tryz.f81 3
def qwp:LI:=⟨35,[1,2,8,13,14,15],fun e=>match e with | .ret=>[6,7] | .exit 0=>[1,8] | _=>[],true⟩
noncomputable def qvz:LpsT:=fun r fr σ=>.fail
noncomputable def qiT (vs:List PV) (σ:Store):Option (PExit × List PV × Store):=lval (lstep tbT qAy qvz qxv qwp) vs σ
noncomputable def qoO (between:List UInt8) (texts:List (List PV)) (r:List (List PV)) (n:Int) (n2:Int) (k:Nat):Tr LR:=.ite (iLt n2 n) (.ite (qal n2) (.ite (qb9 [.int .i64 0,.str [],.sl [] .full,.int .i64 0,.int .i64 0,.str [],.int .i64 0,.int .i64 0,.str [],.int .i64 0,.str [],.int .i64 0,.int .i64 0,.str []] r (nNat n2)) (.ite (qcL (xInt r (nNat n2) 0) (xStr r (nNat n2) 1) (qac (xRow r (nNat n2) 2)) (xInt r (nNat n2) 3) (xInt r (nNat n2) 4) (xStr r (nNat n2) 5) (xInt r (nNat n2) 6) (xInt r (nNat n2) 7) (xStr r (nNat n2) 8) (xInt r (nNat n2) 9) (xStr r (nNat n2) 10) (xInt r (nNat n2) 11) (xInt r (nNat n2) 12) (xStr r (nNat n2) 13)) (.ite (bNot (qcq (xInt r (nNat n2) 0) (xStr r (nNat n2) 1) (qac (xRow r (nNat n2) 2)) (xInt r (nNat n2) 3) (xInt r (nNat n2) 4) (xStr r (nNat n2) 5) (xInt r (nNat n2) 6) (xInt r (nNat n2) 7) (xStr r (nNat n2) 8) (xInt r (nNat n2) 9) (xStr r (nNat n2) 10) (xInt r (nNat n2) 11) (xInt r (nNat n2) 12) (xStr r (nNat n2) 13))) (.ret (.out .ret [.str [],.bool false] (Store.mk [] [(k,1,9)] []))) (.ite (qaF texts [[.str (qbT (xInt r (nNat n2) 0) (xStr r (nNat n2) 1) (qac (xRow r (nNat n2) 2)) (xInt r (nNat n2) 3) (xInt r (nNat n2) 4) (xStr r (nNat n2) 5) (xInt r (nNat n2) 6) (xInt r (nNat n2) 7) (xStr r (nNat n2) 8) (xInt r (nNat n2) 9) (xStr r (nNat n2) 10) (xInt r (nNat n2) 11) (xInt r (nNat n2) 12) (xStr r (nNat n2) 13))]] 16) (.ite (qaB [[.str (qbT (xInt r (nNat n2) 0) (xStr r (nNat n2) 1) (qac (xRow r (nNat n2) 2)) (xInt r (nNat n2) 3) (xInt r (nNat n2) 4) (xStr r (nNat n2) 5) (xInt r (nNat n2) 6) (xInt r (nNat n2) 7) (xStr r (nNat n2) 8) (xInt r (nNat n2) 9) (xStr r (nNat n2) 10) (xInt r (nNat n2) 11) (xInt r (nNat n2) 12) (xStr r (nNat n2) 13))]] 1) (.ite (qav texts 1) (.ite (nEq k (nXs texts)) (.ret (.next [.str between,.fn 49 [],.sl (qam 0 (xApp texts [[.str
 (qbT (xInt r (nNat n2) 0) (xStr r (nNat n2) 1) (qac (xRow r (nNat n2) 2)) (xInt r (nNat n2) 3) (xInt r (nNat n2) 4) (xStr r (nNat n2) 5) (xInt r (nNat n2) 6) (xInt r (nNat n2) 7) (xStr r (nNat n2) 8) (xInt r (nNat n2) 9) (xStr r (nNat n2) 10) (xInt r (nNat n2) 11) (xInt r (nNat n2) 12) (xStr r (nNat n2) 13))]])) (.tok 0),.sl (qam 0 r) .non,.int .i64 n,.int .i64 (iAdd .i64 n2 1)] (Store.mk [] [(nXs (xApp texts [[.str (qbT (xInt r (nNat n2) 0) (xStr r (nNat n2) 1) (qac (xRow r (nNat n2) 2)) (xInt r (nNat n2) 3) (xInt r (nNat n2) 4) (xStr r (nNat n2) 5) (xInt r (nNat n2) 6) (xInt r (nNat n2) 7) (xStr r (nNat n2) 8) (xInt r (nNat n2) 9) (xStr r (nNat n2) 10) (xInt r (nNat n2) 11) (xInt r (nNat n2) 12) (xStr r (nNat n2) 13))]]),1,9)] []))) .fail) .fail) .fail) .fail)) .fail) .fail) .fail) (.ret (.out (.exit 0) [.str between,.sl texts (.tok 0)] (Store.mk [] [(k,1,9)] [])))
theorem qHH (between:List UInt8) (texts:List (List PV)) (r:List (List PV)) (n:Int) (n2:Int) (k:Nat):lstep tbT qAy qvz qxv qwp [.str between,.fn 49 [],.sl texts (.tok 0),.sl r .non,.int .i64 n,.int .i64 n2] ⟨[],[(k,1,9)],[]⟩=qoO between texts r n n2 k:=by kernel_rfl
theorem qAw (between:List UInt8) (texts:List (List PV)) (r:List (List PV)) (n:Int) (n2:Int) (k:Nat):qiT [.str between,.fn 49 [],.sl texts (.tok 0),.sl r .non,.int .i64 n,.int .i64 n2] ⟨[],[(k,1,9)],[]⟩=lnext qiT (qoO between texts r n n2 k).run:=by unfold qiT; rw [qb7,qHH]
noncomputable def qiU (between:List UInt8) (texts:List (List PV)) (r:List (List PV)) (n:Int) (n2:Int) (k:Nat):Option (PExit × List PV × Store):=qiT [.str between,.fn 49 [],.sl texts (.tok 0),.sl r .non,.int .i64 n,.int .i64 n2] ⟨[],[(k,1,9)],[]⟩
noncomputable def qj5 (between:List UInt8) (texts:List (List PV)) (r:List (List PV)) (n:Int) (n2:Int) (k:Nat):List UInt8:=(gStr (gOut (qiU between texts r n n2 k) 0))
noncomputable def qkv (between:List UInt8) (texts:List (List PV)) (r:List (List PV)) (n:Int) (n2:Int) (k:Nat):Bool:=(qcc (gOut (qiU between texts r n n2 k) 1))
noncomputable def qmW (between:List UInt8) (texts:List (List PV)) (r:List (List PV)) (n:Int) (n2:Int) (k:Nat):Nat:=(gTok (qiU between texts r n n2 k) 0)
noncomputable def qmr (between:List UInt8) (texts:List (List PV)) (r:List (List PV)) (n:Int) (n2:Int) (k:Nat):Bool:=isW (qiU between texts r n n2 k) (.ret,[.str (qj5 between texts r n n2 k),.bool (qkv between texts r n n2 k)],⟨[],[((qmW between texts r n n2 k),1,9)],[]⟩)
noncomputable def qcv (between:List UInt8) (texts:List (List PV)) (r:List (List PV)) (n:Int) (n2:Int) (k:Nat):List UInt8:=(gStr (gOut (qiU between texts r n n2 k) 0))
noncomputable def qcP (between:List UInt8) (texts:List (List PV)) (r:List (List PV)) (n:Int) (n2:Int) (k:Nat):List (List PV):=(gRow (gOut (qiU between texts r n n2 k) 1))
noncomputable def qmD (between:List UInt8) (texts:List (List PV)) (r:List (List PV)) (n:Int) (n2:Int) (k:Nat):Nat:=(gTok (qiU between texts r n n2 k) 0)
noncomputable def qne (between:List UInt8) (texts:List (List PV)) (r:List (List PV)) (n:Int) (n2:Int) (k:Nat):Bool:=isW (qiU between texts r n n2 k) ((.exit 0),[.str (qcv between texts r n n2 k),.sl (qcP between texts r n n2 k) (.tok 0)],⟨[],[((qmD between texts r n n2 k),1,9)],[]⟩)
noncomputable def qj7:List PV→Store→Tr (PExit × List PV × Store) | [.str between,.fn 49 [],.sl texts (.tok 0),.sl r .non,.int .i64 n,.int .i64 n2],⟨[],[(k,1,9)],[]⟩=>.ite (qmr between texts r n n2 k) (.ret (.ret,[.str (qj5 between texts r n n2 k),.bool (qkv between texts r n n2 k)],⟨[],[((qmW between texts r n n2 k),1,9)],[]⟩)) (.ite (qne between texts r n n2 k) (.ret ((.exit 0),[.str (qcv between texts r n n2 k),.sl (qcP between texts r n n2 k) (.tok 0)],⟨[],[((qmD between texts r n n2 k),1,9)],[]⟩)) (.fail)) | _,_=>.fail
theorem qFK:∀ vs σ r,(qj7 vs σ).run=some r→qiT vs σ=some r:=by
 intro vs σ r h
 unfold qj7 at h
 split at h
 ·exact qai h fun h=>qai h fun h=>by cases h
 ·cases h
theorem qAK (gl:Gl) (hg:GlLex gl):∀ fr σ e fr' σ',(orc qwp qj7 fr σ).run=some (e,fr',σ')→LDoes Tryz.prog gl qxv fr σ e fr' σ':=qdI qaj (qBo gl hg ) qah (L:=qvz) (qae (by kernel_rfl)) (by kernel_rfl) qFK
noncomputable def qF4:LpsT:=fun r fr σ=>bif Nat.beq r 3 then orc qwp qj7 fr σ else .fail
noncomputable def qAh (l:List (List PV)) (sep:List UInt8):Tr PV:=.ite (qmr sep [] l (xLen l) 0 0) (.ret (.tup [.str (qj5 sep [] l (xLen l) 0 0),.bool (qkv sep [] l (xLen l) 0 0)])) (.ite (qne sep [] l (xLen l) 0 0) (.ite (okR cS (qac (qcP sep [] l (xLen l) 0 0))) (.ite (qhP (unR cS (qac (qcP sep [] l (xLen l) 0 0))) (qcv sep [] l (xLen l) 0 0)) (.ret (.tup [.str (qds (unR cS (qac (qcP sep [] l (xLen l) 0 0))) (qcv sep [] l (xLen l) 0 0)),.bool true])) .fail) .fail) .fail)
theorem qIB (l:List (List PV)) (sep:List UInt8):(tcall tbT qAy qF4 Tryz.f81 [.sl l .non,.str sep,.fn 49 []]).flat=qAh l sep:=by kernel_rfl
noncomputable def qzO (l:List (List PV)) (sep:List UInt8):Option PV:=(qAh l sep).run
noncomputable def qjK (l:List (List PV)) (sep:List UInt8):List UInt8:=(gStr (gAt (gCs (gVal (qzO l sep))) 0))
noncomputable def qs7 (l:List (List PV)) (sep:List UInt8):Bool:=(qcc (gAt (gCs (gVal (qzO l sep))) 1))
noncomputable def qk9 (l:List (List PV)) (sep:List UInt8):Bool:=isW (qzO l sep) (.tup [.str (qjK l sep),.bool (qs7 l sep)])
noncomputable def qG1:List PV→Tr PV | [.sl l .non,.str sep,.fn 49 []]=>.ite (qk9 l sep) (.ret (.tup [.str (qjK l sep),.bool (qs7 l sep)])) (.fail) | _=>.fail
theorem qFW (gl:Gl) (hg:GlLex gl):SimP Tryz.prog gl 81 fun args=>(qG1 args).run:=by
 refine SimP.of_flat (G:=qAy) (L:=qF4) qaj (qBo gl hg ) qah  Tryz.func81 rfl (by rfl) (by kernel_rfl) (qbt (L:=lps qF4) [(3,qxv)] (by kernel_rfl) (List.forall_mem_cons.2 ⟨fun fr σ e fr' σ' h=>qAK gl hg  fr σ e fr' σ' h,(List.forall_mem_nil _)⟩)) ?_
 intro args x h
 unfold qG1 at h
 split at h
 ·exact (congrArg Tr.run (qIB _ _)).trans (qai h fun h=>by cases h)
 ·cases h
noncomputable def qvJ:GamT:=ofL [(47,.pure qlI),(49,.pure qfW),(81,.pure qG1)]
theorem qzB (gl:Gl) (hg:GlLex gl):qaJ Tryz.prog gl (gam qvJ):=(qad (qjW gl hg) (qad (qhG gl hg) (qad (qFW gl hg) qag)))
noncomputable def qzt:LpsT:=fun r fr σ=>.fail
noncomputable def qrk (r_:List UInt8) (r_2:List (List PV)) (r_3:List (List PV)):Tr PV:=.ite (qb0 r_ (qac r_2)) (.ite (qk9 (qac r_3) [44,32]) (.ite (iLt 0 (xLen r_3)) (.ite (qaG [32,58,45,32] (qjK (qac r_3) [44,32])) (.ite (qaG (qbm r_ (qac r_2)) (sApp [32,58,45,32] (qjK (qac r_3) [44,32]))) (.ite (qaG (sApp (qbm r_ (qac r_2)) (sApp [32,58,45,32] (qjK (qac r_3) [44,32]))) [46]) (.ite (qcl r_ (qac r_2)) (.ret (.tup [.str (sApp (sApp (qbm r_ (qac r_2)) (sApp [32,58,45,32] (qjK (qac r_3) [44,32]))) [46]),.bool (qs7 (qac r_3) [44,32])])) (.ret (.tup [.str (sApp (sApp (qbm r_ (qac r_2)) (sApp [32,58,45,32] (qjK (qac r_3) [44,32]))) [46]),.bool false]))) .fail) .fail) .fail) (.ite (qaG (qbm r_ (qac r_2)) (qjK (qac r_3) [44,32])) (.ite (qaG (sApp (qbm r_ (qac r_2)) (qjK (qac r_3) [44,32])) [46]) (.ite (qcl r_ (qac r_2)) (.ret (.tup [.str (sApp (sApp (qbm r_ (qac r_2)) (qjK (qac r_3) [44,32])) [46]),.bool (qs7 (qac r_3) [44,32])])) (.ret (.tup [.str (sApp (sApp (qbm r_ (qac r_2)) (qjK (qac r_3) [44,32])) [46]),.bool false]))) .fail) .fail)) .fail) .fail
theorem qFX (r_:List UInt8) (r_2:List (List PV)) (r_3:List (List PV)):(tcall tbT qvJ qzt Tryz.f54 [.agg [.str r_,.sl r_2 .non,.sl r_3 .non]]).flat=qrk r_ r_2 r_3:=by kernel_rfl
noncomputable def qnC (r_:List UInt8) (r_2:List (List PV)) (r_3:List (List PV)):Option PV:=(qrk r_ r_2 r_3).run
noncomputable def qgq (r_:List UInt8) (r_2:List (List PV)) (r_3:List (List PV)):List UInt8:=(gStr (gAt (gCs (gVal (qnC r_ r_2 r_3))) 0))
noncomputable def qgi (r_:List UInt8) (r_2:List (List PV)) (r_3:List (List PV)):Bool:=(qcc (gAt (gCs (gVal (qnC r_ r_2 r_3))) 1))
noncomputable def qf1 (r_:List UInt8) (r_2:List (List PV)) (r_3:List (List PV)):Bool:=isW (qnC r_ r_2 r_3) (.tup [.str (qgq r_ r_2 r_3),.bool (qgi r_ r_2 r_3)])
noncomputable def qvs:List PV→Tr PV | [.agg [.str r_,.sl r_2 .non,.sl r_3 .non]]=>.ite (qf1 r_ r_2 r_3) (.ret (.tup [.str (qgq r_ r_2 r_3),.bool (qgi r_ r_2 r_3)])) (.fail) | _=>.fail
theorem qAm (gl:Gl) (hg:GlLex gl):SimP Tryz.prog gl 54 fun args=>(qvs args).run:=by
 refine SimP.of_flat (G:=qvJ) (L:=qzt) qaj (qzB gl hg ) qah  Tryz.func54 rfl (by rfl) (by kernel_rfl) (qae (by kernel_rfl)) ?_
 intro args x h
 unfold qvs at h
 split at h
 ·exact (congrArg Tr.run (qFX _ _ _)).trans (qai h fun h=>by cases h)
 ·cases h
noncomputable def quq:GamT:=ofL []
theorem qCu (gl:Gl):qaJ Tryz.prog gl (gam quq):=qag
noncomputable def qAv:LpsT:=fun r fr σ=>.fail
noncomputable def qrq (t:Int):Tr PV:=.ite (iEq t 1) (.ret (.tup [.str [105,110,116],.bool true])) (.ite (iEq t 2) (.ret (.tup [.str [115,121,109],.bool true])) (.ret (.tup [.str [],.bool false])))
theorem qGK (t:Int):(tcall tbT quq qAv Tryz.f83 [.int .i64 t]).flat=qrq t:=by kernel_rfl
noncomputable def qpg (t:Int):Option PV:=(qrq t).run
noncomputable def qgL (t:Int):List UInt8:=(gStr (gAt (gCs (gVal (qpg t))) 0))
noncomputable def qi5 (t:Int):Bool:=(qcc (gAt (gCs (gVal (qpg t))) 1))
noncomputable def qfM (t:Int):Bool:=isW (qpg t) (.tup [.str (qgL t),.bool (qi5 t)])
noncomputable def qvr:List PV→Tr PV | [.int .i64 t]=>.ite (qfM t) (.ret (.tup [.str (qgL t),.bool (qi5 t)])) (.fail) | _=>.fail
theorem qCA (gl:Gl):SimP Tryz.prog gl 83 fun args=>(qvr args).run:=by
 refine SimP.of_flat (G:=quq) (L:=qAv) qaj (qCu gl ) qah  Tryz.func83 rfl (by rfl) (by kernel_rfl) (qae (by kernel_rfl)) ?_
 intro args x h
 unfold qvr at h
 split at h
 ·exact (congrArg Tr.run (qGK _)).trans (qai h fun h=>by cases h)
 ·cases h
noncomputable def qBh:GamT:=ofL [(20,.pure qqc),(83,.pure qvr)]
theorem qD7 (gl:Gl) (hg:GlLex gl):qaJ Tryz.prog gl (gam qBh):=(qad (qmM gl hg) (qad (qCA gl) qag))
noncomputable def qEt:LpsT:=fun r fr σ=>.fail
noncomputable def qvR (p_:List UInt8) (p_2:Int):Tr PV:=.ite (qfM p_2) (.ite (qaG p_ [32]) (.ite (qaG (sApp p_ [32]) (qgL p_2)) (.ite (qi5 p_2) (.ite (qeu p_) (.ret (.tup [.str (sApp (sApp p_ [32]) (qgL p_2)),.bool (qi0 p_)])) .fail) (.ret (.tup [.str (sApp (sApp p_ [32]) (qgL p_2)),.bool false]))) .fail) .fail) .fail
theorem qH3 (p_:List UInt8) (p_2:Int):(tcall tbT qBh qEt Tryz.f85 [.agg [.str p_,.int .i64 p_2]]).flat=qvR p_ p_2:=by kernel_rfl
noncomputable def qtC (p_:List UInt8) (p_2:Int):Option PV:=(qvR p_ p_2).run
noncomputable def qiY (p_:List UInt8) (p_2:Int):List UInt8:=(gStr (gAt (gCs (gVal (qtC p_ p_2))) 0))
noncomputable def qoN (p_:List UInt8) (p_2:Int):Bool:=(qcc (gAt (gCs (gVal (qtC p_ p_2))) 1))
noncomputable def qih (p_:List UInt8) (p_2:Int):Bool:=isW (qtC p_ p_2) (.tup [.str (qiY p_ p_2),.bool (qoN p_ p_2)])
noncomputable def qxi:List PV→Tr PV | [.agg [.str p_,.int .i64 p_2]]=>.ite (qih p_ p_2) (.ret (.tup [.str (qiY p_ p_2),.bool (qoN p_ p_2)])) (.fail) | _=>.fail
theorem qxe (gl:Gl) (hg:GlLex gl):SimP Tryz.prog gl 85 fun args=>(qxi args).run:=by
 refine SimP.of_flat (G:=qBh) (L:=qEt) qaj (qD7 gl hg ) qah  Tryz.func85 rfl (by rfl) (by kernel_rfl) (qae (by kernel_rfl)) ?_
 intro args x h
 unfold qxi at h
 split at h
 ·exact (congrArg Tr.run (qH3 _ _)).trans (qai h fun h=>by cases h)
 ·cases h
noncomputable def qz2:GamT:=ofL [(47,.pure qlI)]
theorem qCQ (gl:Gl) (hg:GlLex gl):qaJ Tryz.prog gl (gam qz2):=(qad (qjW gl hg) qag)
noncomputable def qEM:LpsT:=fun r fr σ=>.fail
noncomputable def qva (a:Bool) (a2:List UInt8) (a3:List (List PV)):Tr PV:=.ite (qb0 a2 (qac a3)) (.ite a (.ite (qaG [43] (qbm a2 (qac a3))) (.ret (.tup [.str (sApp [43] (qbm a2 (qac a3))),.bool (qcl a2 (qac a3))])) .fail) (.ite (qaG [45] (qbm a2 (qac a3))) (.ret (.tup [.str (sApp [45] (qbm a2 (qac a3))),.bool (qcl a2 (qac a3))])) .fail)) .fail
theorem qHq (a:Bool) (a2:List UInt8) (a3:List (List PV)):(tcall tbT qz2 qEM Tryz.f87 [.agg [.bool a,.str a2,.sl a3 .non]]).flat=qva a a2 a3:=by kernel_rfl
noncomputable def qsV (a:Bool) (a2:List UInt8) (a3:List (List PV)):Option PV:=(qva a a2 a3).run
noncomputable def qiP (a:Bool) (a2:List UInt8) (a3:List (List PV)):List UInt8:=(gStr (gAt (gCs (gVal (qsV a a2 a3))) 0))
noncomputable def qnQ (a:Bool) (a2:List UInt8) (a3:List (List PV)):Bool:=(qcc (gAt (gCs (gVal (qsV a a2 a3))) 1))
noncomputable def qiA (a:Bool) (a2:List UInt8) (a3:List (List PV)):Bool:=isW (qsV a a2 a3) (.tup [.str (qiP a a2 a3),.bool (qnQ a a2 a3)])
noncomputable def qwY:List PV→Tr PV | [.agg [.bool a,.str a2,.sl a3 .non]]=>.ite (qiA a a2 a3) (.ret (.tup [.str (qiP a a2 a3),.bool (qnQ a a2 a3)])) (.fail) | _=>.fail
theorem qwA (gl:Gl) (hg:GlLex gl):SimP Tryz.prog gl 87 fun args=>(qwY args).run:=by
 refine SimP.of_flat (G:=qz2) (L:=qEM) qaj (qCQ gl hg ) qah  Tryz.func87 rfl (by rfl) (by kernel_rfl) (qae (by kernel_rfl)) ?_
 intro args x h
 unfold qwY at h
 split at h
 ·exact (congrArg Tr.run (qHq _ _ _)).trans (qai h fun h=>by cases h)
 ·cases h
noncomputable def qA8:GamT:=ofL [(85,.pure qxi),(88,.pure qqj),(qiV,.hint [(8,0,1,9)])]
theorem qBU (gl:Gl) (hg:GlLex gl):qaJ Tryz.prog gl (gam qA8):=(qad (qxe gl hg) (qad (qmY hg.toGlOk.toGlPow) (qcn (K:=.hint [(8,0,1,9)]) trivial qag)))
noncomputable def qwm:Code:=qhg Tryz.f84 3
def qwo:LI:=⟨35,[1,2,8,13,14,15],fun e=>match e with | .ret=>[6,7] | .exit 0=>[1,8] | _=>[],true⟩
noncomputable def qvD:LpsT:=fun r fr σ=>.fail
noncomputable def qi1 (vs:List PV) (σ:Store):Option (PExit × List PV × Store):=lval (lstep tbT qA8 qvD qwm qwo) vs σ
noncomputable def qoc (between:List UInt8) (texts:List (List PV)) (r:List (List PV)) (n:Int) (n2:Int) (k:Nat):Tr LR:=.ite (iLt n2 n) (.ite (qal n2) (.ite (qb9 [.str [],.int .i64 0] r (nNat n2)) (.ite (qih (xStr r (nNat n2) 0) (xInt r (nNat n2) 1)) (.ite (bNot (qoN (xStr r (nNat n2) 0) (xInt r (nNat n2) 1))) (.ret (.out .ret [.str [],.bool false] (Store.mk [] [(k,1,9)] []))) (.ite (qaF texts [[.str (qiY (xStr r (nNat n2) 0) (xInt r (nNat n2) 1))]] 16) (.ite (qaB [[.str (qiY (xStr r (nNat n2) 0) (xInt r (nNat n2) 1))]] 1) (.ite (qav texts 1) (.ite (nEq k (nXs texts)) (.ret (.next [.str between,.fn 85 [],.sl (qam 0 (xApp texts [[.str (qiY (xStr r (nNat n2) 0) (xInt r (nNat n2) 1))]])) (.tok 0),.sl (qam 0 r) .non,.int .i64 n,.int .i64 (iAdd .i64 n2 1)] (Store.mk [] [(nXs (xApp texts [[.str (qiY (xStr r (nNat n2) 0) (xInt r (nNat n2) 1))]]),1,9)] []))) .fail) .fail) .fail) .fail)) .fail) .fail) .fail) (.ret (.out (.exit 0) [.str between,.sl texts (.tok 0)] (Store.mk [] [(k,1,9)] [])))
theorem qIg (between:List UInt8) (texts:List (List PV)) (r:List (List PV)) (n:Int) (n2:Int) (k:Nat):lstep tbT qA8 qvD qwm qwo [.str between,.fn 85 [],.sl texts (.tok 0),.sl r .non,.int .i64 n,.int .i64 n2] ⟨[],[(k,1,9)],[]⟩=qoc between texts r n n2 k:=by kernel_rfl
theorem qy4 (between:List UInt8) (texts:List (List PV)) (r:List (List PV)) (n:Int) (n2:Int) (k:Nat):qi1 [.str between,.fn 85 [],.sl texts (.tok 0),.sl r .non,.int .i64 n,.int .i64 n2] ⟨[],[(k,1,9)],[]⟩=lnext qi1 (qoc between texts r n n2 k).run:=by unfold qi1; rw [qb7,qIg]
noncomputable def qiQ (between:List UInt8) (texts:List (List PV)) (r:List (List PV)) (n:Int) (n2:Int) (k:Nat):Option (PExit × List PV × Store):=qi1 [.str between,.fn 85 [],.sl texts (.tok 0),.sl r .non,.int .i64 n,.int .i64 n2] ⟨[],[(k,1,9)],[]⟩
noncomputable def qj2 (between:List UInt8) (texts:List (List PV)) (r:List (List PV)) (n:Int) (n2:Int) (k:Nat):List UInt8:=(gStr (gOut (qiQ between texts r n n2 k) 0))
noncomputable def qkp (between:List UInt8) (texts:List (List PV)) (r:List (List PV)) (n:Int) (n2:Int) (k:Nat):Bool:=(qcc (gOut (qiQ between texts r n n2 k) 1))
noncomputable def qmL (between:List UInt8) (texts:List (List PV)) (r:List (List PV)) (n:Int) (n2:Int) (k:Nat):Nat:=(gTok (qiQ between texts r n n2 k) 0)
noncomputable def qmR (between:List UInt8) (texts:List (List PV)) (r:List (List PV)) (n:Int) (n2:Int) (k:Nat):Bool:=isW (qiQ between texts r n n2 k) (.ret,[.str (qj2 between texts r n n2 k),.bool (qkp between texts r n n2 k)],⟨[],[((qmL between texts r n n2 k),1,9)],[]⟩)
noncomputable def qcr (between:List UInt8) (texts:List (List PV)) (r:List (List PV)) (n:Int) (n2:Int) (k:Nat):List UInt8:=(gStr (gOut (qiQ between texts r n n2 k) 0))
noncomputable def qcJ (between:List UInt8) (texts:List (List PV)) (r:List (List PV)) (n:Int) (n2:Int) (k:Nat):List (List PV):=(gRow (gOut (qiQ between texts r n n2 k) 1))
noncomputable def qme (between:List UInt8) (texts:List (List PV)) (r:List (List PV)) (n:Int) (n2:Int) (k:Nat):Nat:=(gTok (qiQ between texts r n n2 k) 0)
noncomputable def qnf (between:List UInt8) (texts:List (List PV)) (r:List (List PV)) (n:Int) (n2:Int) (k:Nat):Bool:=isW (qiQ between texts r n n2 k) ((.exit 0),[.str (qcr between texts r n n2 k),.sl (qcJ between texts r n n2 k) (.tok 0)],⟨[],[((qme between texts r n n2 k),1,9)],[]⟩)
noncomputable def qkr:List PV→Store→Tr (PExit × List PV × Store) | [.str between,.fn 85 [],.sl texts (.tok 0),.sl r .non,.int .i64 n,.int .i64 n2],⟨[],[(k,1,9)],[]⟩=>.ite (qmR between texts r n n2 k) (.ret (.ret,[.str (qj2 between texts r n n2 k),.bool (qkp between texts r n n2 k)],⟨[],[((qmL between texts r n n2 k),1,9)],[]⟩)) (.ite (qnf between texts r n n2 k) (.ret ((.exit 0),[.str (qcr between texts r n n2 k),.sl (qcJ between texts r n n2 k) (.tok 0)],⟨[],[((qme between texts r n n2 k),1,9)],[]⟩)) (.fail)) | _,_=>.fail
theorem qE9:∀ vs σ r,(qkr vs σ).run=some r→qi1 vs σ=some r:=by
 intro vs σ r h
 unfold qkr at h
 split at h
 ·exact qai h fun h=>qai h fun h=>by cases h
 ·cases h
theorem qAQ (gl:Gl) (hg:GlLex gl):∀ fr σ e fr' σ',(orc qwo qkr fr σ).run=some (e,fr',σ')→LDoes Tryz.prog gl qwm fr σ e fr' σ':=qdI qaj (qBU gl hg ) qah (L:=qvD) (qae (by kernel_rfl)) (by kernel_rfl) qE9
noncomputable def qFu:LpsT:=fun r fr σ=>bif Nat.beq r 3 then orc qwo qkr fr σ else .fail
noncomputable def qzU (l:List (List PV)) (sep:List UInt8):Tr PV:=.ite (qmR sep [] l (xLen l) 0 0) (.ret (.tup [.str (qj2 sep [] l (xLen l) 0 0),.bool (qkp sep [] l (xLen l) 0 0)])) (.ite (qnf sep [] l (xLen l) 0 0) (.ite (okR cS (qac (qcJ sep [] l (xLen l) 0 0))) (.ite (qhP (unR cS (qac (qcJ sep [] l (xLen l) 0 0))) (qcr sep [] l (xLen l) 0 0)) (.ret (.tup [.str (qds (unR cS (qac (qcJ sep [] l (xLen l) 0 0))) (qcr sep [] l (xLen l) 0 0)),.bool true])) .fail) .fail) .fail)
theorem qIx (l:List (List PV)) (sep:List UInt8):(tcall tbT qA8 qFu Tryz.f84 [.sl l .non,.str sep,.fn 85 []]).flat=qzU l sep:=by kernel_rfl
noncomputable def qBb (l:List (List PV)) (sep:List UInt8):Option PV:=(qzU l sep).run
noncomputable def qfO (l:List (List PV)) (sep:List UInt8):List UInt8:=(gStr (gAt (gCs (gVal (qBb l sep))) 0))
noncomputable def qty (l:List (List PV)) (sep:List UInt8):Bool:=(qcc (gAt (gCs (gVal (qBb l sep))) 1))
noncomputable def qlQ (l:List (List PV)) (sep:List UInt8):Bool:=isW (qBb l sep) (.tup [.str (qfO l sep),.bool (qty l sep)])
noncomputable def qF2:List PV→Tr PV | [.sl l .non,.str sep,.fn 85 []]=>.ite (qlQ l sep) (.ret (.tup [.str (qfO l sep),.bool (qty l sep)])) (.fail) | _=>.fail
theorem qGx (gl:Gl) (hg:GlLex gl):SimP Tryz.prog gl 84 fun args=>(qF2 args).run:=by
 refine SimP.of_flat (G:=qA8) (L:=qFu) qaj (qBU gl hg ) qah  Tryz.func84 rfl (by rfl) (by kernel_rfl) (qbt (L:=lps qFu) [(3,qwm)] (by kernel_rfl) (List.forall_mem_cons.2 ⟨fun fr σ e fr' σ' h=>qAQ gl hg  fr σ e fr' σ' h,(List.forall_mem_nil _)⟩)) ?_
 intro args x h
 unfold qF2 at h
 split at h
 ·exact (congrArg Tr.run (qIx _ _)).trans (qai h fun h=>by cases h)
 ·cases h
noncomputable def qAA:GamT:=ofL [(87,.pure qwY),(88,.pure qqj),(qiV,.hint [(8,0,1,9)])]
theorem qz4 (gl:Gl) (hg:GlLex gl):qaJ Tryz.prog gl (gam qAA):=(qad (qwA gl hg) (qad (qmY hg.toGlOk.toGlPow) (qcn (K:=.hint [(8,0,1,9)]) trivial qag)))
noncomputable def qxm:Code:=qhg Tryz.f86 3
def qwa:LI:=⟨35,[1,2,8,13,14,15],fun e=>match e with | .ret=>[6,7] | .exit 0=>[1,8] | _=>[],true⟩
noncomputable def quH:LpsT:=fun r fr σ=>.fail
noncomputable def qiS (vs:List PV) (σ:Store):Option (PExit × List PV × Store):=lval (lstep tbT qAA quH qxm qwa) vs σ
noncomputable def qo1 (between:List UInt8) (texts:List (List PV)) (r:List (List PV)) (n:Int) (n2:Int) (k:Nat):Tr LR:=.ite (iLt n2 n) (.ite (qal n2) (.ite (qb9 [.bool false,.str [],.sl [] .full] r (nNat n2)) (.ite (qiA (ql6 r (nNat n2) 0) (xStr r (nNat n2) 1) (qac (xRow r (nNat n2) 2))) (.ite (bNot (qnQ (ql6 r (nNat n2) 0) (xStr r (nNat n2) 1) (qac (xRow r (nNat n2) 2)))) (.ret (.out .ret [.str [],.bool false] (Store.mk [] [(k,1,9)] []))) (.ite (qaF texts [[.str (qiP (ql6 r (nNat n2) 0) (xStr r (nNat n2) 1) (qac (xRow r (nNat n2) 2)))]] 16) (.ite (qaB [[.str (qiP (ql6 r (nNat n2) 0) (xStr r (nNat n2) 1) (qac (xRow r (nNat n2) 2)))]] 1) (.ite (qav texts 1) (.ite (nEq k (nXs texts)) (.ret (.next [.str between,.fn 87 [],.sl (qam 0 (xApp texts [[.str (qiP (ql6 r (nNat n2) 0) (xStr r (nNat n2) 1) (qac (xRow r (nNat n2) 2)))]])) (.tok 0),.sl (qam 0 r) .non,.int .i64 n,.int .i64 (iAdd .i64 n2 1)] (Store.mk [] [(nXs (xApp texts [[.str (qiP (ql6 r (nNat n2) 0) (xStr r (nNat n2) 1) (qac (xRow r (nNat n2) 2)))]]),1,9)] []))) .fail) .fail) .fail) .fail)) .fail) .fail) .fail) (.ret (.out (.exit 0) [.str between,.sl texts (.tok 0)] (Store.mk [] [(k,1,9)] [])))
theorem qHD (between:List UInt8) (texts:List (List PV)) (r:List (List PV)) (n:Int) (n2:Int) (k:Nat):lstep tbT qAA quH qxm qwa [.str between,.fn 87 [],.sl texts (.tok 0),.sl r .non,.int .i64 n,.int .i64 n2] ⟨[],[(k,1,9)],[]⟩=qo1 between texts r n n2 k:=by kernel_rfl
theorem qAf (between:List UInt8) (texts:List (List PV)) (r:List (List PV)) (n:Int) (n2:Int) (k:Nat):qiS [.str between,.fn 87 [],.sl texts (.tok 0),.sl r .non,.int .i64 n,.int .i64 n2] ⟨[],[(k,1,9)],[]⟩=lnext qiS (qo1 between texts r n n2 k).run:=by unfold qiS; rw [qb7,qHD]
noncomputable def qiZ (between:List UInt8) (texts:List (List PV)) (r:List (List PV)) (n:Int) (n2:Int) (k:Nat):Option (PExit × List PV × Store):=qiS [.str between,.fn 87 [],.sl texts (.tok 0),.sl r .non,.int .i64 n,.int .i64 n2] ⟨[],[(k,1,9)],[]⟩
noncomputable def qjO (between:List UInt8) (texts:List (List PV)) (r:List (List PV)) (n:Int) (n2:Int) (k:Nat):List UInt8:=(gStr (gOut (qiZ between texts r n n2 k) 0))
noncomputable def qkf (between:List UInt8) (texts:List (List PV)) (r:List (List PV)) (n:Int) (n2:Int) (k:Nat):Bool:=(qcc (gOut (qiZ between texts r n n2 k) 1))
noncomputable def qma (between:List UInt8) (texts:List (List PV)) (r:List (List PV)) (n:Int) (n2:Int) (k:Nat):Nat:=(gTok (qiZ between texts r n n2 k) 0)
noncomputable def qmO (between:List UInt8) (texts:List (List PV)) (r:List (List PV)) (n:Int) (n2:Int) (k:Nat):Bool:=isW (qiZ between texts r n n2 k) (.ret,[.str (qjO between texts r n n2 k),.bool (qkf between texts r n n2 k)],⟨[],[((qma between texts r n n2 k),1,9)],[]⟩)
noncomputable def qcs (between:List UInt8) (texts:List (List PV)) (r:List (List PV)) (n:Int) (n2:Int) (k:Nat):List UInt8:=(gStr (gOut (qiZ between texts r n n2 k) 0))
noncomputable def qcN (between:List UInt8) (texts:List (List PV)) (r:List (List PV)) (n:Int) (n2:Int) (k:Nat):List (List PV):=(gRow (gOut (qiZ between texts r n n2 k) 1))
noncomputable def qmZ (between:List UInt8) (texts:List (List PV)) (r:List (List PV)) (n:Int) (n2:Int) (k:Nat):Nat:=(gTok (qiZ between texts r n n2 k) 0)
noncomputable def qmn (between:List UInt8) (texts:List (List PV)) (r:List (List PV)) (n:Int) (n2:Int) (k:Nat):Bool:=isW (qiZ between texts r n n2 k) ((.exit 0),[.str (qcs between texts r n n2 k),.sl (qcN between texts r n n2 k) (.tok 0)],⟨[],[((qmZ between texts r n n2 k),1,9)],[]⟩)
noncomputable def qkE:List PV→Store→Tr (PExit × List PV × Store) | [.str between,.fn 87 [],.sl texts (.tok 0),.sl r .non,.int .i64 n,.int .i64 n2],⟨[],[(k,1,9)],[]⟩=>.ite (qmO between texts r n n2 k) (.ret (.ret,[.str (qjO between texts r n n2 k),.bool (qkf between texts r n n2 k)],⟨[],[((qma between texts r n n2 k),1,9)],[]⟩)) (.ite (qmn between texts r n n2 k) (.ret ((.exit 0),[.str (qcs between texts r n n2 k),.sl (qcN between texts r n n2 k) (.tok 0)],⟨[],[((qmZ between texts r n n2 k),1,9)],[]⟩)) (.fail)) | _,_=>.fail
theorem qGC:∀ vs σ r,(qkE vs σ).run=some r→qiS vs σ=some r:=by
 intro vs σ r h
 unfold qkE at h
 split at h
 ·exact qai h fun h=>qai h fun h=>by cases h
 ·cases h
theorem qAj (gl:Gl) (hg:GlLex gl):∀ fr σ e fr' σ',(orc qwa qkE fr σ).run=some (e,fr',σ')→LDoes Tryz.prog gl qxm fr σ e fr' σ':=qdI qaj (qz4 gl hg ) qah (L:=quH) (qae (by kernel_rfl)) (by kernel_rfl) qGC
noncomputable def qF3:LpsT:=fun r fr σ=>bif Nat.beq r 3 then orc qwa qkE fr σ else .fail
noncomputable def qAJ (l:List (List PV)) (sep:List UInt8):Tr PV:=.ite (qmO sep [] l (xLen l) 0 0) (.ret (.tup [.str (qjO sep [] l (xLen l) 0 0),.bool (qkf sep [] l (xLen l) 0 0)])) (.ite (qmn sep [] l (xLen l) 0 0) (.ite (okR cS (qac (qcN sep [] l (xLen l) 0 0))) (.ite (qhP (unR cS (qac (qcN sep [] l (xLen l) 0 0))) (qcs sep [] l (xLen l) 0 0)) (.ret (.tup [.str (qds (unR cS (qac (qcN sep [] l (xLen l) 0 0))) (qcs sep [] l (xLen l) 0 0)),.bool true])) .fail) .fail) .fail)
theorem qID (l:List (List PV)) (sep:List UInt8):(tcall tbT qAA qF3 Tryz.f86 [.sl l .non,.str sep,.fn 87 []]).flat=qAJ l sep:=by kernel_rfl
noncomputable def qAg (l:List (List PV)) (sep:List UInt8):Option PV:=(qAJ l sep).run
noncomputable def qhC (l:List (List PV)) (sep:List UInt8):List UInt8:=(gStr (gAt (gCs (gVal (qAg l sep))) 0))
noncomputable def qsX (l:List (List PV)) (sep:List UInt8):Bool:=(qcc (gAt (gCs (gVal (qAg l sep))) 1))
noncomputable def qlg (l:List (List PV)) (sep:List UInt8):Bool:=isW (qAg l sep) (.tup [.str (qhC l sep),.bool (qsX l sep)])
noncomputable def qFn:List PV→Tr PV | [.sl l .non,.str sep,.fn 87 []]=>.ite (qlg l sep) (.ret (.tup [.str (qhC l sep),.bool (qsX l sep)])) (.fail) | _=>.fail
theorem qFj (gl:Gl) (hg:GlLex gl):SimP Tryz.prog gl 86 fun args=>(qFn args).run:=by
 refine SimP.of_flat (G:=qAA) (L:=qF3) qaj (qz4 gl hg ) qah  Tryz.func86 rfl (by rfl) (by kernel_rfl) (qbt (L:=lps qF3) [(3,qxm)] (by kernel_rfl) (List.forall_mem_cons.2 ⟨fun fr σ e fr' σ' h=>qAj gl hg  fr σ e fr' σ' h,(List.forall_mem_nil _)⟩)) ?_
 intro args x h
 unfold qFn at h
 split at h
 ·exact (congrArg Tr.run (qID _ _)).trans (qai h fun h=>by cases h)
 ·cases h
noncomputable def qGn:GamT:=ofL [(18,.pure qlP),(84,.pure qF2),(85,.pure qxi),(86,.pure qFn),(87,.pure qwY)]
theorem qFc (gl:Gl) (hg:GlLex gl):qaJ Tryz.prog gl (gam qGn):=(qad (qjS gl hg) (qad (qGx gl hg) (qad (qxe gl hg) (qad (qFj gl hg) (qad (qwA gl hg) qag)))))
noncomputable def qG7:LpsT:=fun r fr σ=>.fail
noncomputable def qCb (o:List UInt8) (o2:List (List PV)) (o3:List (List PV)):Tr PV:=.ite (qlQ (qac o2) [44,32]) (.ite (qlg (qac o3) [44,32]) (.ite (iLt 0 (xLen o3)) (.ite (qaG [58,32] (qhC (qac o3) [44,32])) (.ite (qaG [111,110,32] o) (.ite (qaG (sApp [111,110,32] o) [40]) (.ite (qaG (sApp (sApp [111,110,32] o) [40]) (qfO (qac o2) [44,32])) (.ite (qaG (sApp (sApp (sApp [111,110,32] o) [40]) (qfO (qac o2) [44,32])) [41]) (.ite (qaG (sApp (sApp (sApp (sApp [111,110,32] o) [40]) (qfO (qac o2) [44,32])) [41]) (sApp [58,32] (qhC (qac o3) [44,32]))) (.ite (qaG (sApp (sApp (sApp (sApp (sApp [111,110,32] o) [40]) (qfO (qac o2) [44,32])) [41]) (sApp [58,32] (qhC (qac o3) [44,32]))) [46]) (.ite (qty (qac o2) [44,32]) (.ite (qsX (qac o3) [44,32]) (.ite (qc2 o) (.ret (.tup [.str (sApp (sApp (sApp (sApp (sApp (sApp [111,110,32] o) [40]) (qfO (qac o2) [44,32])) [41]) (sApp [58,32] (qhC (qac o3) [44,32]))) [46]),.bool (qeH o)])) .fail) (.ret (.tup [.str (sApp (sApp (sApp (sApp (sApp (sApp [111,110,32] o) [40]) (qfO (qac o2) [44,32])) [41]) (sApp [58,32] (qhC (qac o3) [44,32]))) [46]),.bool false]))) (.ret (.tup [.str (sApp (sApp (sApp (sApp (sApp (sApp [111,110,32] o) [40]) (qfO (qac o2) [44,32])) [41]) (sApp [58,32] (qhC (qac o3) [44,32]))) [46]),.bool false]))) .fail) .fail) .fail) .fail) .fail) .fail) .fail) (.ite (qaG [111,110,32] o) (.ite (qaG (sApp [111,110,32] o) [40]) (.ite (qaG (sApp (sApp [111,110,32] o) [40]) (qfO (qac o2) [44,32])) (.ite (qaG (sApp (sApp (sApp [111,110,32] o) [40]) (qfO (qac o2) [44,32])) [41]) (.ite (qaG (sApp (sApp (sApp (sApp [111,110,32] o) [40]) (qfO (qac o2) [44,32])) [41]) (qhC (qac o3) [44,32])) (.ite (qaG (sApp (sApp (sApp (sApp (sApp [111,110,32] o) [40]) (qfO (qac o2) [44,32])) [41]) (qhC (qac o3) [44,32])) [46]) (.ite (qty (qac o2) [44,32])
 (.ite (qsX (qac o3) [44,32]) (.ite (qc2 o) (.ret (.tup [.str (sApp (sApp (sApp (sApp (sApp (sApp [111,110,32] o) [40]) (qfO (qac o2) [44,32])) [41]) (qhC (qac o3) [44,32])) [46]),.bool (qeH o)])) .fail) (.ret (.tup [.str (sApp (sApp (sApp (sApp (sApp (sApp [111,110,32] o) [40]) (qfO (qac o2) [44,32])) [41]) (qhC (qac o3) [44,32])) [46]),.bool false]))) (.ret (.tup [.str (sApp (sApp (sApp (sApp (sApp (sApp [111,110,32] o) [40]) (qfO (qac o2) [44,32])) [41]) (qhC (qac o3) [44,32])) [46]),.bool false]))) .fail) .fail) .fail) .fail) .fail) .fail)) .fail) .fail
theorem qIu (o:List UInt8) (o2:List (List PV)) (o3:List (List PV)):(tcall tbT qGn qG7 Tryz.f57 [.agg [.str o,.sl o2 .non,.sl o3 .non]]).flat=qCb o o2 o3:=by kernel_rfl
noncomputable def qAL (o:List UInt8) (o2:List (List PV)) (o3:List (List PV)):Option PV:=(qCb o o2 o3).run
noncomputable def qqt (o:List UInt8) (o2:List (List PV)) (o3:List (List PV)):List UInt8:=(gStr (gAt (gCs (gVal (qAL o o2 o3))) 0))
noncomputable def qqO (o:List UInt8) (o2:List (List PV)) (o3:List (List PV)):Bool:=(qcc (gAt (gCs (gVal (qAL o o2 o3))) 1))
noncomputable def qlj (o:List UInt8) (o2:List (List PV)) (o3:List (List PV)):Bool:=isW (qAL o o2 o3) (.tup [.str (qqt o o2 o3),.bool (qqO o o2 o3)])
noncomputable def qFL:List PV→Tr PV | [.agg [.str o,.sl o2 .non,.sl o3 .non]]=>.ite (qlj o o2 o3) (.ret (.tup [.str (qqt o o2 o3),.bool (qqO o o2 o3)])) (.fail) | _=>.fail
theorem qFH (gl:Gl) (hg:GlLex gl):SimP Tryz.prog gl 57 fun args=>(qFL args).run:=by
 refine SimP.of_flat (G:=qGn) (L:=qG7) qaj (qFc gl hg ) qah  Tryz.func57 rfl (by rfl) (by kernel_rfl) (qae (by kernel_rfl)) ?_
 intro args x h
 unfold qFL at h
 split at h
 ·exact (congrArg Tr.run (qIu _ _ _)).trans (qai h fun h=>by cases h)
 ·cases h
noncomputable def qtY:GamT:=ofL []
theorem qzg (gl:Gl):qaJ Tryz.prog gl (gam qtY):=qag
noncomputable def qA1:LpsT:=fun r fr σ=>.fail
noncomputable def qqW (s:List UInt8) (ok:Bool):Tr PV:=.ite (bNot ok) (.ret (.tup [.str [],.int .i64 140])) (.ret (.tup [.str s,.int .i64 0]))
theorem qE0 (s:List UInt8) (ok:Bool):(tcall tbT qtY qA1 Tryz.f43 [.str s,.bool ok]).flat=qqW s ok:=by kernel_rfl
noncomputable def qoC (s:List UInt8) (ok:Bool):Option PV:=(qqW s ok).run
noncomputable def qfb (s:List UInt8) (ok:Bool):List UInt8:=(gStr (gAt (gCs (gVal (qoC s ok))) 0))
noncomputable def qe3 (s:List UInt8) (ok:Bool):Int:=(gInt (gAt (gCs (gVal (qoC s ok))) 1))
noncomputable def qc5 (s:List UInt8) (ok:Bool):Bool:=isW (qoC s ok) (.tup [.str (qfb s ok),.int .i64 (qe3 s ok)])
noncomputable def qjr:List PV→Tr PV | [.str s,.bool ok]=>.ite (qc5 s ok) (.ret (.tup [.str (qfb s ok),.int .i64 (qe3 s ok)])) (.fail) | _=>.fail
theorem qhr (gl:Gl):SimP Tryz.prog gl 43 fun args=>(qjr args).run:=by
 refine SimP.of_flat (G:=qtY) (L:=qA1) qaj (qzg gl ) qah  Tryz.func43 rfl (by rfl) (by kernel_rfl) (qae (by kernel_rfl)) ?_
 intro args x h
 unfold qjr at h
 split at h
 ·exact (congrArg Tr.run (qE0 _ _)).trans (qai h fun h=>by cases h)
 ·cases h
noncomputable def qvw:GamT:=ofL [(43,.pure qjr),(44,.pure qlp)]
theorem qB0 (gl:Gl) (hg:GlLex gl):qaJ Tryz.prog gl (gam qvw):=(qad (qhr gl) (qad (qj9 gl hg) qag))
noncomputable def qza:LpsT:=fun r fr σ=>.fail
noncomputable def qrV (t:Int) (t2:List UInt8) (t3:Int) (t4:Int) (t5:List UInt8):Tr PV:=.ite (qca t t2 t3 t4 t5) (.ite (qc5 (qaH t t2 t3 t4 t5) (qc0 t t2 t3 t4 t5)) (.ret (.tup [.str (qfb (qaH t t2 t3 t4 t5) (qc0 t t2 t3 t4 t5)),.int .i64 (qe3 (qaH t t2 t3 t4 t5) (qc0 t t2 t3 t4 t5))])) .fail) .fail
theorem qFE (t:Int) (t2:List UInt8) (t3:Int) (t4:Int) (t5:List UInt8):(tcall tbT qvw qza Tryz.f12 [.agg [.int .i64 t,.str t2,.int .i64 t3,.int .i64 t4,.str t5]]).flat=qrV t t2 t3 t4 t5:=by kernel_rfl
noncomputable def qo4 (t:Int) (t2:List UInt8) (t3:Int) (t4:Int) (t5:List UInt8):Option PV:=(qrV t t2 t3 t4 t5).run
noncomputable def qju (t:Int) (t2:List UInt8) (t3:Int) (t4:Int) (t5:List UInt8):List UInt8:=(gStr (gAt (gCs (gVal (qo4 t t2 t3 t4 t5))) 0))
noncomputable def qjx (t:Int) (t2:List UInt8) (t3:Int) (t4:Int) (t5:List UInt8):Int:=(gInt (gAt (gCs (gVal (qo4 t t2 t3 t4 t5))) 1))
noncomputable def qfS (t:Int) (t2:List UInt8) (t3:Int) (t4:Int) (t5:List UInt8):Bool:=isW (qo4 t t2 t3 t4 t5) (.tup [.str (qju t t2 t3 t4 t5),.int .i64 (qjx t t2 t3 t4 t5)])
noncomputable def quC:List PV→Tr PV | [.agg [.int .i64 t,.str t2,.int .i64 t3,.int .i64 t4,.str t5]]=>.ite (qfS t t2 t3 t4 t5) (.ret (.tup [.str (qju t t2 t3 t4 t5),.int .i64 (qjx t t2 t3 t4 t5)])) (.fail) | _=>.fail
theorem qBS (gl:Gl) (hg:GlLex gl):SimP Tryz.prog gl 12 fun args=>(quC args).run:=by
 refine SimP.of_flat (G:=qvw) (L:=qza) qaj (qB0 gl hg ) qah  Tryz.func12 rfl (by rfl) (by kernel_rfl) (qae (by kernel_rfl)) ?_
 intro args x h
 unfold quC at h
 split at h
 ·exact (congrArg Tr.run (qFE _ _ _ _ _)).trans (qai h fun h=>by cases h)
 ·cases h
noncomputable def quA:GamT:=ofL [(43,.pure qjr),(47,.pure qlI)]
theorem qAC (gl:Gl) (hg:GlLex gl):qaJ Tryz.prog gl (gam quA):=(qad (qhr gl) (qad (qjW gl hg) qag))
noncomputable def qz7:LpsT:=fun r fr σ=>.fail
noncomputable def qro (a:List UInt8) (a2:List (List PV)):Tr PV:=.ite (qb0 a (qac a2)) (.ite (qc5 (qbm a (qac a2)) (qcl a (qac a2))) (.ret (.tup [.str (qfb (qbm a (qac a2)) (qcl a (qac a2))),.int .i64 (qe3 (qbm a (qac a2)) (qcl a (qac a2)))])) .fail) .fail
theorem qFo (a:List UInt8) (a2:List (List PV)):(tcall tbT quA qz7 Tryz.f14 [.agg [.str a,.sl a2 .non]]).flat=qro a a2:=by kernel_rfl
noncomputable def qn4 (a:List UInt8) (a2:List (List PV)):Option PV:=(qro a a2).run
noncomputable def qjg (a:List UInt8) (a2:List (List PV)):List UInt8:=(gStr (gAt (gCs (gVal (qn4 a a2))) 0))
noncomputable def qjA (a:List UInt8) (a2:List (List PV)):Int:=(gInt (gAt (gCs (gVal (qn4 a a2))) 1))
noncomputable def qgd (a:List UInt8) (a2:List (List PV)):Bool:=isW (qn4 a a2) (.tup [.str (qjg a a2),.int .i64 (qjA a a2)])
noncomputable def qvm:List PV→Tr PV | [.agg [.str a,.sl a2 .non]]=>.ite (qgd a a2) (.ret (.tup [.str (qjg a a2),.int .i64 (qjA a a2)])) (.fail) | _=>.fail
theorem qBk (gl:Gl) (hg:GlLex gl):SimP Tryz.prog gl 14 fun args=>(qvm args).run:=by
 refine SimP.of_flat (G:=quA) (L:=qz7) qaj (qAC gl hg ) qah  Tryz.func14 rfl (by rfl) (by kernel_rfl) (qae (by kernel_rfl)) ?_
 intro args x h
 unfold qvm at h
 split at h
 ·exact (congrArg Tr.run (qFo _ _)).trans (qai h fun h=>by cases h)
 ·cases h
noncomputable def qlh:GamT:=ofL [(43,.pure qjr),(49,.pure qfW)]
theorem qtw (gl:Gl) (hg:GlLex gl):qaJ Tryz.prog gl (gam qlh):=(qad (qhr gl) (qad (qhG gl hg) qag))
noncomputable def qqg:LpsT:=fun r fr σ=>.fail
noncomputable def qi9 (l:Int) (l2:List UInt8) (l3:List (List PV)) (l4:Int) (l5:Int) (l6:List UInt8) (l7:Int) (l8:Int) (l9:List UInt8) (l10:Int) (l11:List UInt8) (l12:Int) (l13:Int) (l14:List UInt8):Tr PV:=.ite (qcL l l2 (qac l3) l4 l5 l6 l7 l8 l9 l10 l11 l12 l13 l14) (.ite (qc5 (qbT l l2 (qac l3) l4 l5 l6 l7 l8 l9 l10 l11 l12 l13 l14) (qcq l l2 (qac l3) l4 l5 l6 l7 l8 l9 l10 l11 l12 l13 l14)) (.ret (.tup [.str (qfb (qbT l l2 (qac l3) l4 l5 l6 l7 l8 l9 l10 l11 l12 l13 l14) (qcq l l2 (qac l3) l4 l5 l6 l7 l8 l9 l10 l11 l12 l13 l14)),.int .i64 (qe3 (qbT l l2 (qac l3) l4 l5 l6 l7 l8 l9 l10 l11 l12 l13 l14) (qcq l l2 (qac l3) l4 l5 l6 l7 l8 l9 l10 l11 l12 l13 l14))])) .fail) .fail
theorem qxQ (l:Int) (l2:List UInt8) (l3:List (List PV)) (l4:Int) (l5:Int) (l6:List UInt8) (l7:Int) (l8:Int) (l9:List UInt8) (l10:Int) (l11:List UInt8) (l12:Int) (l13:Int) (l14:List UInt8):(tcall tbT qlh qqg Tryz.f16 [.agg [.int .i64 l,.str l2,.sl l3 .non,.int .i64 l4,.int .i64 l5,.str l6,.int .i64 l7,.int .i64 l8,.str l9,.int .i64 l10,.str l11,.int .i64 l12,.int .i64 l13,.str l14]]).flat=qi9 l l2 l3 l4 l5 l6 l7 l8 l9 l10 l11 l12 l13 l14:=by kernel_rfl
noncomputable def qfJ (l:Int) (l2:List UInt8) (l3:List (List PV)) (l4:Int) (l5:Int) (l6:List UInt8) (l7:Int) (l8:Int) (l9:List UInt8) (l10:Int) (l11:List UInt8) (l12:Int) (l13:Int) (l14:List UInt8):Option PV:=(qi9 l l2 l3 l4 l5 l6 l7 l8 l9 l10 l11 l12 l13 l14).run
noncomputable def qd0 (l:Int) (l2:List UInt8) (l3:List (List PV)) (l4:Int) (l5:Int) (l6:List UInt8) (l7:Int) (l8:Int) (l9:List UInt8) (l10:Int) (l11:List UInt8) (l12:Int) (l13:Int) (l14:List UInt8):List UInt8:=(gStr (gAt (gCs (gVal (qfJ l l2 l3 l4 l5 l6 l7 l8 l9 l10 l11 l12 l13 l14))) 0))
noncomputable def qdL (l:Int) (l2:List UInt8) (l3:List (List PV)) (l4:Int) (l5:Int) (l6:List UInt8) (l7:Int) (l8:Int) (l9:List UInt8) (l10:Int) (l11:List UInt8) (l12:Int) (l13:Int) (l14:List UInt8):Int:=(gInt (gAt (gCs (gVal (qfJ l l2 l3 l4 l5 l6 l7 l8 l9 l10 l11 l12 l13 l14))) 1))
noncomputable def qdi (l:Int) (l2:List UInt8) (l3:List (List PV)) (l4:Int) (l5:Int) (l6:List UInt8) (l7:Int) (l8:Int) (l9:List UInt8) (l10:Int) (l11:List UInt8) (l12:Int) (l13:Int) (l14:List UInt8):Bool:=isW (qfJ l l2 l3 l4 l5 l6 l7 l8 l9 l10 l11 l12 l13 l14) (.tup [.str (qd0 l l2 l3 l4 l5 l6 l7 l8 l9 l10 l11 l12 l13 l14),.int .i64 (qdL l l2 l3 l4 l5 l6 l7 l8 l9 l10 l11 l12 l13 l14)])
noncomputable def qlE:List PV→Tr PV | [.agg [.int .i64 l,.str l2,.sl l3 .non,.int .i64 l4,.int .i64 l5,.str l6,.int .i64 l7,.int .i64 l8,.str l9,.int .i64 l10,.str l11,.int .i64 l12,.int .i64 l13,.str l14]]=>.ite (qdi l l2 l3 l4 l5 l6 l7 l8 l9 l10 l11 l12 l13 l14) (.ret (.tup [.str (qd0 l l2 l3 l4 l5 l6 l7 l8 l9 l10 l11 l12 l13 l14),.int .i64 (qdL l l2 l3 l4 l5 l6 l7 l8 l9 l10 l11 l12 l13 l14)])) (.fail) | _=>.fail
theorem qsr (gl:Gl) (hg:GlLex gl):SimP Tryz.prog gl 16 fun args=>(qlE args).run:=by
 refine SimP.of_flat (G:=qlh) (L:=qqg) qaj (qtw gl hg ) qah  Tryz.func16 rfl (by rfl) (by kernel_rfl) (qae (by kernel_rfl)) ?_
 intro args x h
 unfold qlE at h
 split at h
 ·exact (congrArg Tr.run (qxQ _ _ _ _ _ _ _ _ _ _ _ _ _ _)).trans (qai h fun h=>by cases h)
 ·cases h
noncomputable def qv0:GamT:=ofL [(43,.pure qjr),(54,.pure qvs)]
theorem qBc (gl:Gl) (hg:GlLex gl):qaJ Tryz.prog gl (gam qv0):=(qad (qhr gl) (qad (qAm gl hg) qag))
noncomputable def qAW:LpsT:=fun r fr σ=>.fail
noncomputable def qsi (r_:List UInt8) (r_2:List (List PV)) (r_3:List (List PV)):Tr PV:=.ite (qf1 r_ (qac r_2) (qac r_3)) (.ite (qc5 (qgq r_ (qac r_2) (qac r_3)) (qgi r_ (qac r_2) (qac r_3))) (.ret (.tup [.str (qfb (qgq r_ (qac r_2) (qac r_3)) (qgi r_ (qac r_2) (qac r_3))),.int .i64 (qe3 (qgq r_ (qac r_2) (qac r_3)) (qgi r_ (qac r_2) (qac r_3)))])) .fail) .fail
theorem qFQ (r_:List UInt8) (r_2:List (List PV)) (r_3:List (List PV)):(tcall tbT qv0 qAW Tryz.f26 [.agg [.str r_,.sl r_2 .non,.sl r_3 .non]]).flat=qsi r_ r_2 r_3:=by kernel_rfl
noncomputable def qox (r_:List UInt8) (r_2:List (List PV)) (r_3:List (List PV)):Option PV:=(qsi r_ r_2 r_3).run
noncomputable def qgk (r_:List UInt8) (r_2:List (List PV)) (r_3:List (List PV)):List UInt8:=(gStr (gAt (gCs (gVal (qox r_ r_2 r_3))) 0))
noncomputable def qhe (r_:List UInt8) (r_2:List (List PV)) (r_3:List (List PV)):Int:=(gInt (gAt (gCs (gVal (qox r_ r_2 r_3))) 1))
noncomputable def qeh (r_:List UInt8) (r_2:List (List PV)) (r_3:List (List PV)):Bool:=isW (qox r_ r_2 r_3) (.tup [.str (qgk r_ r_2 r_3),.int .i64 (qhe r_ r_2 r_3)])
noncomputable def qvN:List PV→Tr PV | [.agg [.str r_,.sl r_2 .non,.sl r_3 .non]]=>.ite (qeh r_ r_2 r_3) (.ret (.tup [.str (qgk r_ r_2 r_3),.int .i64 (qhe r_ r_2 r_3)])) (.fail) | _=>.fail
theorem qCw (gl:Gl) (hg:GlLex gl):SimP Tryz.prog gl 26 fun args=>(qvN args).run:=by
 refine SimP.of_flat (G:=qv0) (L:=qAW) qaj (qBc gl hg ) qah  Tryz.func26 rfl (by rfl) (by kernel_rfl) (qae (by kernel_rfl)) ?_
 intro args x h
 unfold qvN at h
 split at h
 ·exact (congrArg Tr.run (qFQ _ _ _)).trans (qai h fun h=>by cases h)
 ·cases h
noncomputable def qGv:GamT:=ofL [(43,.pure qjr),(57,.pure qFL)]
theorem qFv (gl:Gl) (hg:GlLex gl):qaJ Tryz.prog gl (gam qGv):=(qad (qhr gl) (qad (qFH gl hg) qag))
noncomputable def qIf:LpsT:=fun r fr σ=>.fail
noncomputable def qCv (o:List UInt8) (o2:List (List PV)) (o3:List (List PV)):Tr PV:=.ite (qlj o (qac o2) (qac o3)) (.ite (qc5 (qqt o (qac o2) (qac o3)) (qqO o (qac o2) (qac o3))) (.ret (.tup [.str (qfb (qqt o (qac o2) (qac o3)) (qqO o (qac o2) (qac o3))),.int .i64 (qe3 (qqt o (qac o2) (qac o3)) (qqO o (qac o2) (qac o3)))])) .fail) .fail
theorem qIr (o:List UInt8) (o2:List (List PV)) (o3:List (List PV)):(tcall tbT qGv qIf Tryz.f30 [.agg [.str o,.sl o2 .non,.sl o3 .non]]).flat=qCv o o2 o3:=by kernel_rfl
noncomputable def qAS (o:List UInt8) (o2:List (List PV)) (o3:List (List PV)):Option PV:=(qCv o o2 o3).run
noncomputable def qrs (o:List UInt8) (o2:List (List PV)) (o3:List (List PV)):List UInt8:=(gStr (gAt (gCs (gVal (qAS o o2 o3))) 0))
noncomputable def qq8 (o:List UInt8) (o2:List (List PV)) (o3:List (List PV)):Int:=(gInt (gAt (gCs (gVal (qAS o o2 o3))) 1))
noncomputable def qhJ (o:List UInt8) (o2:List (List PV)) (o3:List (List PV)):Bool:=isW (qAS o o2 o3) (.tup [.str (qrs o o2 o3),.int .i64 (qq8 o o2 o3)])
noncomputable def qFA:List PV→Tr PV | [.agg [.str o,.sl o2 .non,.sl o3 .non]]=>.ite (qhJ o o2 o3) (.ret (.tup [.str (qrs o o2 o3),.int .i64 (qq8 o o2 o3)])) (.fail) | _=>.fail
theorem qFI (gl:Gl) (hg:GlLex gl):SimP Tryz.prog gl 30 fun args=>(qFA args).run:=by
 refine SimP.of_flat (G:=qGv) (L:=qIf) qaj (qFv gl hg ) qah  Tryz.func30 rfl (by rfl) (by kernel_rfl) (qae (by kernel_rfl)) ?_
 intro args x h
 unfold qFA at h
 split at h
 ·exact (congrArg Tr.run (qIr _ _ _)).trans (qai h fun h=>by cases h)
 ·cases h
end Go.Pv
set_option maxHeartbeats 8000000
set_option maxRecDepth 200000
set_option linter.unusedSimpArgs false
set_option linter.unusedVariables false
namespace Go.Pv
open Go Go.Proofs Go.RowKit
theorem qgQ {M:Nat} (sep:Txt):∀ l:List Txt,(∀ x ∈ l,x.length≤M)→(qds l sep).length≤l.length * (M+sep.length)
 | [],_=>by simp [qow]
 | [x],h=>by
  rw [qkk]
  have:=h x (by simp)
  simp
  omega
 | x :: y :: l,h=>by
  rw [qke]
  have h1:=h x (by simp)
  have h2:=qgQ sep (y :: l) (fun z hz=>h z (by simp [hz]))
  simp only [List.length_append,List.length_cons] at h2 ⊢
  rw [Nat.add_mul _ 1]
  omega
theorem qE6 {α:Type} {ok:α→Bool} {T:α→Txt} {M:Nat} (sep:Txt) (l:List α) (h:∀ a ∈ l,(T a).length≤M):(jn ok T sep l).length≤l.length * (M+sep.length):=by
 unfold jn
 split
 ·have:=qgQ (M:=M) sep (l.map T) (fun x hx=>by
   obtain ⟨a,ha,rfl⟩:=List.mem_map.1 hx
   exact h a ha)
  simpa using this
 ·simp
theorem qyn {α:Type} {ok:α→Bool} {T:α→Txt} {M:Nat} (sep:Txt) (l:List α) (n:Nat) (hn:l.length≤n) (h:∀ a ∈ l,(T a).length≤M):(jn ok T sep l).length≤n * (M+sep.length) :=
 Nat.le_trans (qE6 sep l h) (Nat.mul_le_mul_right _ hn)
theorem qGz {v:Vl} (hr:vlR v):(vlT v).length≤1100:=by
 obtain ⟨k,n,s⟩:=v
 unfold vlT qek
 simp only
 by_cases h:isV k n s=true
 ·rw [if_pos h]
  simp only [isV,decide_eq_true_eq] at h
  rcases h with ⟨rfl,_⟩ | ⟨rfl,_,h⟩
  ·rw [if_pos rfl]
   have hr1:=hr.1
   have hr2:=hr.2
   simp only at hr1 hr2
   unfold intV qge
   split
   ·have:=qfV 19 (-n).toNat (by omega)
    simp only [List.length_cons]
    omega
   ·have:=qfV 19 n.toNat (by omega)
    omega
  ·rw [if_neg (by decide)]
   have key:∀ s:List UInt8,(symB s).length≤4 * s.length:=by
    intro s
    induction s with
    | nil=>simp [symB]
    | cons c s ih =>
     rw [qoq,List.length_append,List.length_cons]
     have:(oneV c.toNat).length≤4:=by
      rw [quU]
      repeat' split
      all_goals simp
     omega
   have:=key s
   unfold symV
   simp
   omega
 ·rw [if_neg h]
  simp
def tmS (t:Tm):Prop:=t.2.1.length≤300∧tmR t
def atS (a:At):Prop:=a.1.length≤300∧a.2.length≤12∧∀ t ∈ a.2,tmS t
def liS (l:Li):Prop:=atS l.2.1∧tmS l.2.2.2.1∧tmS l.2.2.2.2
def ruS (r:Ru):Prop:=atS r.1∧r.2.length≤8∧∀ l ∈ r.2,liS l
def tyS (_:Int):Prop:=True
def paS (p:Pa):Prop:=p.1.length≤300
def acS (a:Ac):Prop:=atS a.2
def enS (o:En):Prop:=o.1.length≤300∧(o.2.1.length≤12∧∀ p ∈ o.2.1,paS p)∧(o.2.2.length≤8∧∀ a ∈ o.2.2,acS a)
theorem qej {t:Tm} (h:tmS t):(tmT t).length≤1100:=by
 unfold tmT
 split
 ·have:=h.1; omega
 ·split
  ·exact qGz h.2
  ·simp
theorem qla {a:At} (h:atS a):(atT a).length≤14000:=by
 have:=qyn (ok:=tmOk) (T:=tmT) (M:=1100) [44,32] a.2 12 h.2.1 (fun t ht=>qej (h.2.2 t ht))
 have:=h.1
 unfold atT
 simp at *
 omega
theorem qvO (o:Int):(opT o).length≤4:=by
 unfold opT
 repeat' split
 all_goals simp
theorem qBw {l:Li} (h:liS l):(liT l).length≤14004:=by
 have h1:=qla h.1
 have h2:=qej h.2.1
 have h3:=qej h.2.2
 have h4:=qvO l.2.2.1
 unfold liT
 repeat' split
 all_goals simp
 all_goals omega
theorem qB4 (t:Int):(tyT t).length≤3:=by
 unfold tyT
 repeat' split
 all_goals simp
theorem qCj {p:Pa} (h:paS p):(paT p).length≤304:=by
 have:=qB4 p.2
 have h:p.1.length≤300:=h
 unfold paT
 simp
 omega
theorem qzp {a:Ac} (h:acS a):(acT a).length≤14001:=by
 have:=qla h
 unfold acT
 split <;> simp <;> omega
theorem qbE {a b:Txt} (h:a.length+b.length≤9223372036854775807):qaG a b=true:=by rw [qEe]; exact decide_eq_true h
theorem qBu (k:Int) {s:Txt} (hs:s.length≤65536):isW1 k s=(decide (wE s=0) && decide ((wL s).length=1) && decide (((wL s)[0]?.getD (0,[],(0,0,[]),0)).1=k) && decide (((wL s)[0]?.getD (0,[],(0,0,[]),0)).2.1=s)):=by
 unfold isW1 wE wL
 cases h:qeF s with
 | mk l o =>
  cases o with
  | some p=>cases l <;> simp
  | none =>
   cases l with
   | nil=>simp
   | cons w l =>
    cases l with
    | nil=>simp
    | cons w' l=>simp
theorem qzh {s:Txt} (hs:s.length≤65536) (k:Int):qDs s k=some (.bool (isW1 k s)):=by
 unfold qDs qBY
 rw [qBu k hs,qu5 hs,qp7 hs,qqi hs]
 have x0:xLen (rOf cW (wL s))=((wL s).length:Nat):=by simp
 rw [x0]
 by_cases h1:wE s=0
 ·by_cases h2:(wL s).length=1
  ·have g:qb9 [PV.int .i64 0,.str [],.int .i64 0,.int .i64 0,.str [],.int .i64 0] (rOf cW (wL s)) (nNat 0)=true:=by rw [qwJ]; simp [h2]
   have y0:xInt (rOf cW (wL s)) (nNat 0) 0=((wL s)[0]?.getD (0,[],(0,0,[]),0)).1:=qwt _ _
   have y1:xStr (rOf cW (wL s)) (nNat 0) 1=((wL s)[0]?.getD (0,[],(0,0,[]),0)).2.1:=qwn _ _
   rw [g,y0,y1]
   generalize (wL s)[0]?.getD (0,[],(0,0,[]),0)=w
   by_cases h3:w.1=k <;> simp [h1,h2,h3]
  ·have h2':¬ ((wL s).length:Int)=1:=by omega
   simp [h1,h2,h2']
 ·simp [h1]
theorem qEv {s:Txt} (hs:s.length≤65536) (k:Int):qlO s k=true:=by simp only [quL,qlO,qzh hs]; simp
theorem qId {s:Txt} (hs:s.length≤65536) (k:Int):quL s k=isW1 k s:=by simp only [quL,qlO,qzh hs]; simp
theorem qtz {s:Txt} (hs:s.length≤65536):qsl s=some (.bool (nmB s)):=by
 unfold qsl qqs nmB resv
 rw [qEv hs,qId hs]
 by_cases h1:s=[98,97,115,101]
 ·simp [h1]
 ·by_cases h2:s=[118,105,101,119]
  ·simp [h2]
  ·by_cases h3:s=[111,110]
   ·simp [h3]
   ·by_cases h4:s=[110,111,116]
    ·simp [h4]
    ·simp [h1,h2,h3,h4]
theorem qmT {s:Txt} (hs:s.length≤65536):qc2 s=true:=by simp only [qeH,qc2,qtz hs]; simp
theorem qqB {s:Txt} (hs:s.length≤65536):qeH s=nmB s:=by simp only [qeH,qc2,qtz hs]; simp
theorem qxx {s:Txt} (hs:s.length≤65536):qwG s=some (.bool (vrB s)):=by
 unfold qwG qvE vrB
 rw [qEv hs,qId hs]
 simp
theorem qsm {s:Txt} (hs:s.length≤65536):qeu s=true:=by simp only [qi0,qeu,qxx hs]; simp
theorem qws {s:Txt} (hs:s.length≤65536):qi0 s=vrB s:=by simp only [qi0,qeu,qxx hs]; simp
theorem qy7 (k n:Int) (s:Txt):(qbv k n s=0)↔isV k n s=true:=by
 unfold qbv isV
 by_cases h1:k=1∧s=[]
 ·simp [h1]
 ·by_cases h2:k=2∧n=0∧s.length≤256
  ·simp [h2]
  ·rw [if_neg h1,if_neg h2]
   exact ⟨fun h=>absurd h (by decide),fun h=>(of_decide_eq_true h).elim (fun a=>absurd a h1) (fun a=>absurd a h2)⟩
theorem qod {t:Tm} (h:tmS t):qnu t.1 t.2.1 t.2.2.1 t.2.2.2.1 t.2.2.2.2=some (.tup [.str (tmT t),.bool (tmOk t)]):=by
 obtain ⟨k,b,c,n,s⟩:=t
 have hb:b.length≤65536:=Nat.le_trans h.1 (by decide)
 unfold qnu qq0 tmT tmOk vlOk vlT
 simp only [qsm hb,qws hb,qkO]
 by_cases h1:k=1
 ·cases hv:vrB b <;> simp [h1,hv,bAnd,Bool.decide_and]
 ·by_cases h2:k=2
  ·by_cases h3:isV c n s=true
   ·have h4:=(qy7 c n s).2 h3
    simp [h2,h3,h4]
   ·have h4:¬ qbv c n s=0:=fun h=>h3 ((qy7 c n s).1 h)
    simp [h2,h3,h4]
  ·simp [h1,h2,bAnd,Bool.decide_and]
theorem qks {t:Tm} (h:tmS t):qca t.1 t.2.1 t.2.2.1 t.2.2.2.1 t.2.2.2.2=true:=by simp only [qc0,qca,qaH,qod h]; simp
theorem qkt {t:Tm} (h:tmS t):qaH t.1 t.2.1 t.2.2.1 t.2.2.2.1 t.2.2.2.2=tmT t:=by simp only [qc0,qca,qaH,qod h]; simp
theorem qkM {t:Tm} (h:tmS t):qc0 t.1 t.2.1 t.2.2.1 t.2.2.2.1 t.2.2.2.2=tmOk t:=by simp only [qc0,qca,qaH,qod h]; simp
theorem qui {l:List Tm} (hs:∀ a ∈ l,tmS a) (hn:l.length≤100000) {sep:Txt} (hsep:sep.length≤10):qBP (rOf cM l) sep=some (.tup [.str (jn tmOk tmT sep l),.bool (l.all tmOk)]):=by
 have hl:=qf0 (l:=l) l.length (Nat.le_refl _) (V:=fun i b=>qiW [.str sep,.fn 44 [],.sl (rOf cS b) (.tok 0),.sl (rOf cM l) .non,.int .i64 (l.length:Nat),.int .i64 (i:Nat)] ⟨[],[(b.length,1,9)],[]⟩) tmOk tmT (fun b=>some (.exit 0,[.str sep,.sl (rOf cS b) (.tok 0)],⟨[],[(b.length,1,9)],[]⟩)) (fun r=>∃ k:Nat,r=some (.ret,[.str [],.bool false],⟨[],[(k,1,9)],[]⟩)) ?_ ?_ ?_
 ·rw [List.take_length] at hl
  obtain ⟨h1,h2⟩:=hl
  have x0:xLen (rOf cM l)=(l.length:Nat):=by simp
  unfold qBP qy9 jn
  rw [x0]
  cases ha:l.all tmOk with
  | true =>
   have h':qiR sep [] (rOf cM l) (l.length:Nat) 0 0=_:=h1 ha
   have o:qhP (l.map tmT) sep=true:=by
    rw [qcW]
    have:=qgQ (M:=1100) sep (l.map tmT) (fun x hx=>by
     obtain ⟨a,ha,rfl⟩:=List.mem_map.1 hx
     exact qej (hs a ha))
    have h3:(l.map tmT).length * (1100+sep.length)≤100000 * (1100+10):=Nat.mul_le_mul (by simpa using hn) (by omega)
    exact ⟨by simp; omega,by omega⟩
   simp only [qkc,qcw,qnd,qm9,qmm,qm8,qkn,qcK,h']
   rw [qcW] at o
   simp [o.2]
   omega
  | false =>
   obtain ⟨k,hk⟩:=h2 ha
   have h':qiR sep [] (rOf cM l) (l.length:Nat) 0 0=_:=hk
   simp only [qkc,qcw,qnd,qm9,qmm,qm8,qkn,qcK,h']
   simp
 ·intro i b a hb hi hi2 ha ho
  have hm:tmS a:=hs a (ha ▸ List.getElem_mem hi)
  have q1:iLt (i:Int) (l.length:Nat)=true:=by simp; omega
  have q3:qal (i:Int)=true:=by simp
  have q4:qb9 [PV.int .i64 0,.str [],.int .i64 0,.int .i64 0,.str []] (rOf cM l) (nNat (i:Int))=true:=by simp; omega
  have w:=qbP (i:=i) (by omega)
  have e1:=qks hm
  have e2:=qkt hm
  have e3:=qkM hm
  rw [ho] at e3
  have x0:xInt (rOf cM l) (nNat (i:Int)) 0=a.1:=by simp [hi,ha]
  have x1:xStr (rOf cM l) (nNat (i:Int)) 1=a.2.1:=by simp [hi,ha]
  have x2:xInt (rOf cM l) (nNat (i:Int)) 2=a.2.2.1:=by simp [hi,ha]
  have x3:xInt (rOf cM l) (nNat (i:Int)) 3=a.2.2.2.1:=by simp [hi,ha]
  have x4:xStr (rOf cM l) (nNat (i:Int)) 4=a.2.2.2.2:=by simp [hi,ha]
  have o1:∀ c,qaF (rOf cS b) [c] 16=true:=fun c=>by simp; omega
  have o2:∀ t:Txt,qaB [[PV.str t]] 1=true:=fun t=>by simp [one]
  have o3:qav (rOf cS b) 1=true:=qho _
  have o4:nEq b.length (nXs (rOf cS b))=true:=by simp
  have o5:bNot true=false:=rfl
  show qiW [.str sep,.fn 44 [],.sl (rOf cS b) (.tok 0),.sl (rOf cM l) .non,.int .i64 (l.length:Nat),.int .i64 (i:Nat)] ⟨[],[(b.length,1,9)],[]⟩=qiW [.str sep,.fn 44 [],.sl (rOf cS (b++[tmT a])) (.tok 0),.sl (rOf cM l) .non,.int .i64 (l.length:Nat),.int .i64 ((i+1:Nat):Int)] ⟨[],[((b++[tmT a]).length,1,9)],[]⟩
  rw [qAG]
  simp only [qnX,q1,q3,q4,x0,x1,x2,x3,x4,qaI,e1,e2,e3,o1,o2,o3,o4,o5,w]
  simp
 ·intro i b a hb hi hi2 ha ho
  have hm:tmS a:=hs a (ha ▸ List.getElem_mem hi)
  have q1:iLt (i:Int) (l.length:Nat)=true:=by simp; omega
  have q3:qal (i:Int)=true:=by simp
  have q4:qb9 [PV.int .i64 0,.str [],.int .i64 0,.int .i64 0,.str []] (rOf cM l) (nNat (i:Int))=true:=by simp; omega
  have w:=qbP (i:=i) (by omega)
  have e1:=qks hm
  have e2:=qkt hm
  have e3:=qkM hm
  rw [ho] at e3
  have x0:xInt (rOf cM l) (nNat (i:Int)) 0=a.1:=by simp [hi,ha]
  have x1:xStr (rOf cM l) (nNat (i:Int)) 1=a.2.1:=by simp [hi,ha]
  have x2:xInt (rOf cM l) (nNat (i:Int)) 2=a.2.2.1:=by simp [hi,ha]
  have x3:xInt (rOf cM l) (nNat (i:Int)) 3=a.2.2.2.1:=by simp [hi,ha]
  have x4:xStr (rOf cM l) (nNat (i:Int)) 4=a.2.2.2.2:=by simp [hi,ha]
  have o5:bNot false=true:=rfl
  show ∃ k:Nat,qiW [.str sep,.fn 44 [],.sl (rOf cS b) (.tok 0),.sl (rOf cM l) .non,.int .i64 (l.length:Nat),.int .i64 (i:Nat)] ⟨[],[(b.length,1,9)],[]⟩=_
  refine ⟨b.length,?_⟩
  rw [qAG]
  simp only [qnX,q1,q3,q4,x0,x1,x2,x3,x4,qaI,e1,e2,e3,o5]
  simp
 ·intro b hb
  have q1:iLt (l.length:Nat) (l.length:Nat)=false:=by simp
  show qiW [.str sep,.fn 44 [],.sl (rOf cS b) (.tok 0),.sl (rOf cM l) .non,.int .i64 (l.length:Nat),.int .i64 (l.length:Nat)] ⟨[],[(b.length,1,9)],[]⟩=_
  rw [qAG]
  simp only [qnX,q1]
  simp
theorem qG6 {l:List Tm} (hs:∀ a ∈ l,tmS a) (hn:l.length≤100000) {sep:Txt} (hsep:sep.length≤10):qk0 (rOf cM l) sep=true:=by simp only [qvk,qk0,qpn,qui hs hn hsep]; simp
theorem qG9 {l:List Tm} (hs:∀ a ∈ l,tmS a) (hn:l.length≤100000) {sep:Txt} (hsep:sep.length≤10):qpn (rOf cM l) sep=jn tmOk tmT sep l:=by simp only [qvk,qk0,qpn,qui hs hn hsep]; simp
theorem qHZ {l:List Tm} (hs:∀ a ∈ l,tmS a) (hn:l.length≤100000) {sep:Txt} (hsep:sep.length≤10):qvk (rOf cM l) sep=l.all tmOk:=by simp only [qvk,qk0,qpn,qui hs hn hsep]; simp
theorem qop {a:At} (h:atS a):qnF a.1 (rOf cM a.2)=some (.tup [.str (atT a),.bool (atOk a)]):=by
 have e1:=qG6 h.2.2 (by have:=h.2.1; omega) (sep:=[44,32]) (by decide)
 have e2:=qG9 h.2.2 (by have:=h.2.1; omega) (sep:=[44,32]) (by decide)
 have e3:=qHZ h.2.2 (by have:=h.2.1; omega) (sep:=[44,32]) (by decide)
 have hb:a.1.length≤65536:=Nat.le_trans h.1 (by decide)
 have hj:=qyn (ok:=tmOk) (T:=tmT) (M:=1100) [44,32] a.2 12 h.2.1 (fun t ht=>qej (h.2.2 t ht))
 have hn:=h.1
 simp at hj
 unfold qnF qrS atT atOk
 simp only [qaI,e1,e2,e3,qmT hb,qqB hb]
 rw [qbE (by simp; omega),qbE (by simp; omega),qbE (by simp; omega)]
 cases a.2.all tmOk <;> simp
theorem qmH {a:At} (h:atS a):qb0 a.1 (rOf cM a.2)=true:=by simp only [qcl,qb0,qbm,qop h]; simp
theorem qmu {a:At} (h:atS a):qbm a.1 (rOf cM a.2)=atT a:=by simp only [qcl,qb0,qbm,qop h]; simp
theorem qmo {a:At} (h:atS a):qcl a.1 (rOf cM a.2)=atOk a:=by simp only [qcl,qb0,qbm,qop h]; simp
theorem qvd (o:Int):qBZ o=some (.tup [.str (opT o),.bool (opOk o)]):=by
 unfold qBZ qBJ opT opOk
 by_cases h1:o=1
 ·simp [h1]
 ·by_cases h2:o=2
  ·simp [h2]
  ·by_cases h3:o=3
   ·simp [h3]
   ·by_cases h4:o=4
    ·simp [h4]
    ·by_cases h5:o=5
     ·simp [h5]
     ·by_cases h6:o=6
      ·simp [h6]
      ·have:¬ (1≤o∧o≤6):=by omega
       simp [h1,h2,h3,h4,h5,h6]
       omega
theorem qH6 (o:Int):qht o=true:=by simp only [qrT,qht,qdV,qvd]; simp
theorem qHa (o:Int):qdV o=opT o:=by simp only [qrT,qht,qdV,qvd]; simp
theorem qHI (o:Int):qrT o=opOk o:=by simp only [qrT,qht,qdV,qvd]; simp
theorem qhN {l:Li} (h:liS l):qgc l.1 l.2.1.1 (rOf cM l.2.1.2) l.2.2.1 l.2.2.2.1.1 l.2.2.2.1.2.1 l.2.2.2.1.2.2.1 l.2.2.2.1.2.2.2.1 l.2.2.2.1.2.2.2.2 l.2.2.2.2.1 l.2.2.2.2.2.1 l.2.2.2.2.2.2.1 l.2.2.2.2.2.2.2.1 l.2.2.2.2.2.2.2.2=some (.tup [.str (liT l),.bool (liOk l)]):=by
 have e1:=qmH h.1
 have e2:=qmu h.1
 have e3:=qmo h.1
 have a1:=qks h.2.1
 have a2:=qkt h.2.1
 have a3:=qkM h.2.1
 have b1:=qks h.2.2
 have b2:=qkt h.2.2
 have b3:=qkM h.2.2
 have l1:=qla h.1
 have l2:=qej h.2.1
 have l3:=qej h.2.2
 have l4:=qvO l.2.2.1
 have o1:qaG [110,111,116,32] (atT l.2.1)=true:=qbE (by simp; omega)
 have o2:qaG (tmT l.2.2.2.1) (opT l.2.2.1)=true:=qbE (by omega)
 have o3:qaG (sApp (tmT l.2.2.2.1) (opT l.2.2.1)) (tmT l.2.2.2.2)=true:=qbE (by simp; omega)
 have pl:qA3 l=(decide (l.2.2.1=0) && decide (l.2.2.2.1=tm0) && decide (l.2.2.2.2=tm0)):=rfl
 have t0:∀ t:Tm,(t=tm0)=(t.1=0∧t.2.1=[]∧t.2.2.1=0∧t.2.2.2.1=0∧t.2.2.2.2=[]):=fun t=>by
  obtain ⟨a,b,c,d,e⟩:=t
  simp [tm0]
 unfold qgc qjB liT liOk
 simp only [qaI,e1,e2,e3,a1,a2,a3,b1,b2,b3,qH6,qHa,qHI,o1,o2,o3,pl,t0]
 have at0:(l.2.1=([],[]))=(l.2.1.1=[]∧l.2.1.2=[]):=by
  cases hl:l.2.1 with
  | mk x y=>simp
 simp only [at0]
 generalize l.1=k
 generalize l.2.2.1=o
 generalize l.2.2.2.1=A
 generalize l.2.2.2.2=B
 generalize l.2.1=T
 obtain ⟨A1,A2,A3,A4,A5⟩:=A
 obtain ⟨B1,B2,B3,B4,B5⟩:=B
 obtain ⟨T1,T2⟩:=T
 simp only
 have b0:bAnd=and:=rfl
 by_cases k1:k=1
 ·by_cases h0:o=0
  ·by_cases hA:(A1=0∧A2=[]∧A3=0∧A4=0∧A5=[])
   ·cases hO:atOk (T1,T2) <;> simp [k1,h0,hA,hO,b0,Bool.decide_and]
   ·have hA':(decide (A1=0) && (decide (A2=[]) && (decide (A3=0) && (decide (A4=0) && decide (A5=[])))))=false:=by
     simpa [Bool.decide_and] using hA
    cases hO:atOk (T1,T2) <;> simp [k1,h0,hA,hA',hO,b0,Bool.decide_and] <;> simp_all
  ·cases hO:atOk (T1,T2) <;> simp [k1,h0,hO,b0]
 ·by_cases k2:k=2
  ·by_cases h0:o=0
   ·by_cases hA:(A1=0∧A2=[]∧A3=0∧A4=0∧A5=[])
    ·cases hO:atOk (T1,T2) <;> simp [k2,h0,hA,hO,b0,Bool.decide_and]
    ·have hA':(decide (A1=0) && (decide (A2=[]) && (decide (A3=0) && (decide (A4=0) && decide (A5=[])))))=false:=by
      simpa [Bool.decide_and] using hA
     cases hO:atOk (T1,T2) <;> simp [k2,h0,hA,hA',hO,b0,Bool.decide_and] <;> simp_all
   ·cases hO:atOk (T1,T2) <;> simp [k2,h0,hO,b0]
  ·by_cases k3:k=3
   ·have fin:∀ c:Bool,(if c=true then (if k=3 then (1:Nat) else 0) else 0)=(if c=true then (if k=3 then 1 else 0) else 0):=fun _=>rfl
    subst k3
    have n1:iEq 3 1=false:=rfl
    have n2:iEq 3 2=false:=rfl
    have n3:iEq 3 3=true:=rfl
    rw [n1,n2,n3]
    cases iEq o 0 <;> cases (bAnd (iEq A1 0) (bAnd (sEq A2 []) (bAnd (bAnd (iEq A3 0) (bAnd (iEq A4 0) (bAnd (sEq A5 []) true))) true))) <;>
     cases tmOk (A1,A2,A3,A4,A5) <;> cases opOk o <;> cases tmOk (B1,B2,B3,B4,B5) <;> by_cases hT:T1=[] <;> simp [hT]
   ·simp [k1,k2,k3]
    repeat' split
    all_goals simp
theorem qja {l:Li} (h:liS l):qcL l.1 l.2.1.1 (rOf cM l.2.1.2) l.2.2.1 l.2.2.2.1.1 l.2.2.2.1.2.1 l.2.2.2.1.2.2.1 l.2.2.2.1.2.2.2.1 l.2.2.2.1.2.2.2.2 l.2.2.2.2.1 l.2.2.2.2.2.1 l.2.2.2.2.2.2.1 l.2.2.2.2.2.2.2.1 l.2.2.2.2.2.2.2.2=true:=by simp only [qcq,qcL,qbT,qhN h]; simp
theorem qjH {l:Li} (h:liS l):qbT l.1 l.2.1.1 (rOf cM l.2.1.2) l.2.2.1 l.2.2.2.1.1 l.2.2.2.1.2.1 l.2.2.2.1.2.2.1 l.2.2.2.1.2.2.2.1 l.2.2.2.1.2.2.2.2 l.2.2.2.2.1 l.2.2.2.2.2.1 l.2.2.2.2.2.2.1 l.2.2.2.2.2.2.2.1 l.2.2.2.2.2.2.2.2=liT l:=by simp only [qcq,qcL,qbT,qhN h]; simp
theorem qjy {l:Li} (h:liS l):qcq l.1 l.2.1.1 (rOf cM l.2.1.2) l.2.2.1 l.2.2.2.1.1 l.2.2.2.1.2.1 l.2.2.2.1.2.2.1 l.2.2.2.1.2.2.2.1 l.2.2.2.1.2.2.2.2 l.2.2.2.2.1 l.2.2.2.2.2.1 l.2.2.2.2.2.2.1 l.2.2.2.2.2.2.2.1 l.2.2.2.2.2.2.2.2=liOk l:=by simp only [qcq,qcL,qbT,qhN h]; simp
theorem quZ {l:List Li} (hs:∀ a ∈ l,liS a) (hn:l.length≤100000) {sep:Txt} (hsep:sep.length≤10):qzO (rOf cL l) sep=some (.tup [.str (jn liOk liT sep l),.bool (l.all liOk)]):=by
 have hl:=qf0 (l:=l) l.length (Nat.le_refl _) (V:=fun i b=>qiT [.str sep,.fn 49 [],.sl (rOf cS b) (.tok 0),.sl (rOf cL l) .non,.int .i64 (l.length:Nat),.int .i64 (i:Nat)] ⟨[],[(b.length,1,9)],[]⟩) liOk liT (fun b=>some (.exit 0,[.str sep,.sl (rOf cS b) (.tok 0)],⟨[],[(b.length,1,9)],[]⟩)) (fun r=>∃ k:Nat,r=some (.ret,[.str [],.bool false],⟨[],[(k,1,9)],[]⟩)) ?_ ?_ ?_
 ·rw [List.take_length] at hl
  obtain ⟨h1,h2⟩:=hl
  have x0:xLen (rOf cL l)=(l.length:Nat):=by simp
  unfold qzO qAh jn
  rw [x0]
  cases ha:l.all liOk with
  | true =>
   have h':qiU sep [] (rOf cL l) (l.length:Nat) 0 0=_:=h1 ha
   have o:qhP (l.map liT) sep=true:=by
    rw [qcW]
    have:=qgQ (M:=14004) sep (l.map liT) (fun x hx=>by
     obtain ⟨a,ha,rfl⟩:=List.mem_map.1 hx
     exact qBw (hs a ha))
    have h3:(l.map liT).length * (14004+sep.length)≤100000 * (14004+10):=Nat.mul_le_mul (by simpa using hn) (by omega)
    exact ⟨by simp; omega,by omega⟩
   simp only [qkv,qcv,qmr,qne,qmW,qmD,qj5,qcP,h']
   rw [qcW] at o
   simp [o.2]
   omega
  | false =>
   obtain ⟨k,hk⟩:=h2 ha
   have h':qiU sep [] (rOf cL l) (l.length:Nat) 0 0=_:=hk
   simp only [qkv,qcv,qmr,qne,qmW,qmD,qj5,qcP,h']
   simp
 ·intro i b a hb hi hi2 ha ho
  have hm:liS a:=hs a (ha ▸ List.getElem_mem hi)
  have q1:iLt (i:Int) (l.length:Nat)=true:=by simp; omega
  have q3:qal (i:Int)=true:=by simp
  have q4:qb9 [PV.int .i64 0,.str [],.sl [] .full,.int .i64 0,.int .i64 0,.str [],.int .i64 0,.int .i64 0,.str [],.int .i64 0,.str [],.int .i64 0,.int .i64 0,.str []] (rOf cL l) (nNat (i:Int))=true:=by simp; omega
  have w:=qbP (i:=i) (by omega)
  have e1:=qja hm
  have e2:=qjH hm
  have e3:=qjy hm
  rw [ho] at e3
  have x0:xInt (rOf cL l) (nNat (i:Int)) 0=a.1:=by simp [hi,ha]
  have x1:xStr (rOf cL l) (nNat (i:Int)) 1=a.2.1.1:=by simp [hi,ha]
  have x2:xRow (rOf cL l) (nNat (i:Int)) 2=rOf cM a.2.1.2:=by simp [hi,ha]
  have x3:xInt (rOf cL l) (nNat (i:Int)) 3=a.2.2.1:=by simp [hi,ha]
  have x4:xInt (rOf cL l) (nNat (i:Int)) 4=a.2.2.2.1.1:=by simp [hi,ha]
  have x5:xStr (rOf cL l) (nNat (i:Int)) 5=a.2.2.2.1.2.1:=by simp [hi,ha]
  have x6:xInt (rOf cL l) (nNat (i:Int)) 6=a.2.2.2.1.2.2.1:=by simp [hi,ha]
  have x7:xInt (rOf cL l) (nNat (i:Int)) 7=a.2.2.2.1.2.2.2.1:=by simp [hi,ha]
  have x8:xStr (rOf cL l) (nNat (i:Int)) 8=a.2.2.2.1.2.2.2.2:=by simp [hi,ha]
  have x9:xInt (rOf cL l) (nNat (i:Int)) 9=a.2.2.2.2.1:=by simp [hi,ha]
  have x10:xStr (rOf cL l) (nNat (i:Int)) 10=a.2.2.2.2.2.1:=by simp [hi,ha]
  have x11:xInt (rOf cL l) (nNat (i:Int)) 11=a.2.2.2.2.2.2.1:=by simp [hi,ha]
  have x12:xInt (rOf cL l) (nNat (i:Int)) 12=a.2.2.2.2.2.2.2.1:=by simp [hi,ha]
  have x13:xStr (rOf cL l) (nNat (i:Int)) 13=a.2.2.2.2.2.2.2.2:=by simp [hi,ha]
  have o1:∀ c,qaF (rOf cS b) [c] 16=true:=fun c=>by simp; omega
  have o2:∀ t:Txt,qaB [[PV.str t]] 1=true:=fun t=>by simp [one]
  have o3:qav (rOf cS b) 1=true:=qho _
  have o4:nEq b.length (nXs (rOf cS b))=true:=by simp
  have o5:bNot true=false:=rfl
  show qiT [.str sep,.fn 49 [],.sl (rOf cS b) (.tok 0),.sl (rOf cL l) .non,.int .i64 (l.length:Nat),.int .i64 (i:Nat)] ⟨[],[(b.length,1,9)],[]⟩=qiT [.str sep,.fn 49 [],.sl (rOf cS (b++[liT a])) (.tok 0),.sl (rOf cL l) .non,.int .i64 (l.length:Nat),.int .i64 ((i+1:Nat):Int)] ⟨[],[((b++[liT a]).length,1,9)],[]⟩
  rw [qAw]
  simp only [qoO,q1,q3,q4,x0,x1,x2,x3,x4,x5,x6,x7,x8,x9,x10,x11,x12,x13,qaI,e1,e2,e3,o1,o2,o3,o4,o5,w]
  simp
 ·intro i b a hb hi hi2 ha ho
  have hm:liS a:=hs a (ha ▸ List.getElem_mem hi)
  have q1:iLt (i:Int) (l.length:Nat)=true:=by simp; omega
  have q3:qal (i:Int)=true:=by simp
  have q4:qb9 [PV.int .i64 0,.str [],.sl [] .full,.int .i64 0,.int .i64 0,.str [],.int .i64 0,.int .i64 0,.str [],.int .i64 0,.str [],.int .i64 0,.int .i64 0,.str []] (rOf cL l) (nNat (i:Int))=true:=by simp; omega
  have w:=qbP (i:=i) (by omega)
  have e1:=qja hm
  have e2:=qjH hm
  have e3:=qjy hm
  rw [ho] at e3
  have x0:xInt (rOf cL l) (nNat (i:Int)) 0=a.1:=by simp [hi,ha]
  have x1:xStr (rOf cL l) (nNat (i:Int)) 1=a.2.1.1:=by simp [hi,ha]
  have x2:xRow (rOf cL l) (nNat (i:Int)) 2=rOf cM a.2.1.2:=by simp [hi,ha]
  have x3:xInt (rOf cL l) (nNat (i:Int)) 3=a.2.2.1:=by simp [hi,ha]
  have x4:xInt (rOf cL l) (nNat (i:Int)) 4=a.2.2.2.1.1:=by simp [hi,ha]
  have x5:xStr (rOf cL l) (nNat (i:Int)) 5=a.2.2.2.1.2.1:=by simp [hi,ha]
  have x6:xInt (rOf cL l) (nNat (i:Int)) 6=a.2.2.2.1.2.2.1:=by simp [hi,ha]
  have x7:xInt (rOf cL l) (nNat (i:Int)) 7=a.2.2.2.1.2.2.2.1:=by simp [hi,ha]
  have x8:xStr (rOf cL l) (nNat (i:Int)) 8=a.2.2.2.1.2.2.2.2:=by simp [hi,ha]
  have x9:xInt (rOf cL l) (nNat (i:Int)) 9=a.2.2.2.2.1:=by simp [hi,ha]
  have x10:xStr (rOf cL l) (nNat (i:Int)) 10=a.2.2.2.2.2.1:=by simp [hi,ha]
  have x11:xInt (rOf cL l) (nNat (i:Int)) 11=a.2.2.2.2.2.2.1:=by simp [hi,ha]
  have x12:xInt (rOf cL l) (nNat (i:Int)) 12=a.2.2.2.2.2.2.2.1:=by simp [hi,ha]
  have x13:xStr (rOf cL l) (nNat (i:Int)) 13=a.2.2.2.2.2.2.2.2:=by simp [hi,ha]
  have o5:bNot false=true:=rfl
  show ∃ k:Nat,qiT [.str sep,.fn 49 [],.sl (rOf cS b) (.tok 0),.sl (rOf cL l) .non,.int .i64 (l.length:Nat),.int .i64 (i:Nat)] ⟨[],[(b.length,1,9)],[]⟩=_
  refine ⟨b.length,?_⟩
  rw [qAw]
  simp only [qoO,q1,q3,q4,x0,x1,x2,x3,x4,x5,x6,x7,x8,x9,x10,x11,x12,x13,qaI,e1,e2,e3,o5]
  simp
 ·intro b hb
  have q1:iLt (l.length:Nat) (l.length:Nat)=false:=by simp
  show qiT [.str sep,.fn 49 [],.sl (rOf cS b) (.tok 0),.sl (rOf cL l) .non,.int .i64 (l.length:Nat),.int .i64 (l.length:Nat)] ⟨[],[(b.length,1,9)],[]⟩=_
  rw [qAw]
  simp only [qoO,q1]
  simp
theorem qHh {l:List Li} (hs:∀ a ∈ l,liS a) (hn:l.length≤100000) {sep:Txt} (hsep:sep.length≤10):qk9 (rOf cL l) sep=true:=by simp only [qs7,qk9,qjK,quZ hs hn hsep]; simp
theorem qHi {l:List Li} (hs:∀ a ∈ l,liS a) (hn:l.length≤100000) {sep:Txt} (hsep:sep.length≤10):qjK (rOf cL l) sep=jn liOk liT sep l:=by simp only [qs7,qk9,qjK,quZ hs hn hsep]; simp
theorem qIc {l:List Li} (hs:∀ a ∈ l,liS a) (hn:l.length≤100000) {sep:Txt} (hsep:sep.length≤10):qs7 (rOf cL l) sep=l.all liOk:=by simp only [qs7,qk9,qjK,quZ hs hn hsep]; simp
theorem qoQ {x:Ru} (h:ruS x):qnC x.1.1 (rOf cM x.1.2) (rOf cL x.2)=some (.tup [.str (ruT x),.bool (ruOk x)]):=by
 have e1:=qmH h.1
 have e2:=qmu h.1
 have e3:=qmo h.1
 have j1:=qHh h.2.2 (by have:=h.2.1; omega) (sep:=[44,32]) (by decide)
 have j2:=qHi h.2.2 (by have:=h.2.1; omega) (sep:=[44,32]) (by decide)
 have j3:=qIc h.2.2 (by have:=h.2.1; omega) (sep:=[44,32]) (by decide)
 have hj:=qyn (ok:=liOk) (T:=liT) (M:=14004) [44,32] x.2 8 h.2.1 (fun l hl=>qBw (h.2.2 l hl))
 have l1:=qla h.1
 simp at hj
 unfold qnC qrk ruT ruOk
 simp only [qaI,e1,e2,e3,j1,j2,j3]
 by_cases hb:x.2=[]
 ·rw [hb] at hj ⊢
  have t:iLt 0 (xLen (rOf cL []))=false:=rfl
  have o1:qaG (atT x.1) (jn liOk liT [44,32] [])=true:=qbE (by omega)
  have o2:qaG (sApp (atT x.1) (jn liOk liT [44,32] [])) [46]=true:=qbE (by simp; omega)
  simp only [t,o1,o2]
  cases atOk x.1 <;> simp [jn,qow]
 ·have t:iLt 0 (xLen (rOf cL x.2))=true:=by simp; exact List.length_pos_iff.2 hb
  rw [t,qbE (by simp; omega),qbE (by simp; omega),qbE (by simp; omega)]
  cases atOk x.1 <;> simp [hb]
theorem qDk {x:Ru} (h:ruS x):qf1 x.1.1 (rOf cM x.1.2) (rOf cL x.2)=true:=by simp only [qgi,qf1,qgq,qoQ h]; simp
theorem qCT {x:Ru} (h:ruS x):qgq x.1.1 (rOf cM x.1.2) (rOf cL x.2)=ruT x:=by simp only [qgi,qf1,qgq,qoQ h]; simp
theorem qDE {x:Ru} (h:ruS x):qgi x.1.1 (rOf cM x.1.2) (rOf cL x.2)=ruOk x:=by simp only [qgi,qf1,qgq,qoQ h]; simp
theorem qoJ {t:Int} (h:tyS t):qpg t=some (.tup [.str (tyT t),.bool (tyOk t)]):=by
 unfold qpg qrq tyT tyOk
 by_cases h1:t=1
 ·simp [h1]
 ·by_cases h2:t=2
  ·simp [h2]
  ·simp [h1,h2]
theorem qD2 {t:Int} (h:tyS t):qfM t=true:=by simp only [qi5,qfM,qgL,qoJ h]; simp
theorem qEs {t:Int} (h:tyS t):qgL t=tyT t:=by simp only [qi5,qfM,qgL,qoJ h]; simp
theorem qCZ {t:Int} (h:tyS t):qi5 t=tyOk t:=by simp only [qi5,qfM,qgL,qoJ h]; simp
theorem qsj {p:Pa} (h:paS p):qtC p.1 p.2=some (.tup [.str (paT p),.bool (paOk p)]):=by
 have hb:p.1.length≤65536:=Nat.le_trans h (by decide)
 have hn:p.1.length≤300:=h
 have ht:=qB4 p.2
 have k1:=qD2 (t:=p.2) trivial
 have k2:=qEs (t:=p.2) trivial
 have k3:=qCZ (t:=p.2) trivial
 unfold qtC qvR paT paOk
 simp only [k1,k2,k3,qsm hb,qws hb]
 rw [qbE (by simp; omega),qbE (by simp; omega)]
 cases tyOk p.2 <;> simp
theorem qzX {p:Pa} (h:paS p):qih p.1 p.2=true:=by simp only [qoN,qih,qiY,qsj h]; simp
theorem qBa {p:Pa} (h:paS p):qiY p.1 p.2=paT p:=by simp only [qoN,qih,qiY,qsj h]; simp
theorem qAd {p:Pa} (h:paS p):qoN p.1 p.2=paOk p:=by simp only [qoN,qih,qiY,qsj h]; simp
theorem qrC {a:Ac} (h:acS a):qsV a.1 a.2.1 (rOf cM a.2.2)=some (.tup [.str (acT a),.bool (acOk a)]):=by
 have h:atS a.2:=h
 have e1:=qmH h
 have e2:=qmu h
 have e3:=qmo h
 have l1:=qla h
 unfold qsV qva acT acOk
 simp only [qaI,e1,e2,e3]
 rw [qbE (a:=[43]) (by simp; omega),qbE (a:=[45]) (by simp; omega)]
 cases a.1 <;> simp
theorem qzQ {a:Ac} (h:acS a):qiA a.1 a.2.1 (rOf cM a.2.2)=true:=by simp only [qnQ,qiA,qiP,qrC h]; simp
theorem qBQ {a:Ac} (h:acS a):qiP a.1 a.2.1 (rOf cM a.2.2)=acT a:=by simp only [qnQ,qiA,qiP,qrC h]; simp
theorem qAU {a:Ac} (h:acS a):qnQ a.1 a.2.1 (rOf cM a.2.2)=acOk a:=by simp only [qnQ,qiA,qiP,qrC h]; simp
theorem qv1 {l:List Pa} (hs:∀ a ∈ l,paS a) (hn:l.length≤100000) {sep:Txt} (hsep:sep.length≤10):qBb (rOf cP l) sep=some (.tup [.str (jn paOk paT sep l),.bool (l.all paOk)]):=by
 have hl:=qf0 (l:=l) l.length (Nat.le_refl _) (V:=fun i b=>qi1 [.str sep,.fn 85 [],.sl (rOf cS b) (.tok 0),.sl (rOf cP l) .non,.int .i64 (l.length:Nat),.int .i64 (i:Nat)] ⟨[],[(b.length,1,9)],[]⟩) paOk paT (fun b=>some (.exit 0,[.str sep,.sl (rOf cS b) (.tok 0)],⟨[],[(b.length,1,9)],[]⟩)) (fun r=>∃ k:Nat,r=some (.ret,[.str [],.bool false],⟨[],[(k,1,9)],[]⟩)) ?_ ?_ ?_
 ·rw [List.take_length] at hl
  obtain ⟨h1,h2⟩:=hl
  have x0:xLen (rOf cP l)=(l.length:Nat):=by simp
  unfold qBb qzU jn
  rw [x0]
  cases ha:l.all paOk with
  | true =>
   have h':qiQ sep [] (rOf cP l) (l.length:Nat) 0 0=_:=h1 ha
   have o:qhP (l.map paT) sep=true:=by
    rw [qcW]
    have:=qgQ (M:=304) sep (l.map paT) (fun x hx=>by
     obtain ⟨a,ha,rfl⟩:=List.mem_map.1 hx
     exact qCj (hs a ha))
    have h3:(l.map paT).length * (304+sep.length)≤100000 * (304+10):=Nat.mul_le_mul (by simpa using hn) (by omega)
    exact ⟨by simp; omega,by omega⟩
   simp only [qkp,qcr,qmR,qnf,qmL,qme,qj2,qcJ,h']
   rw [qcW] at o
   simp [o.2]
   omega
  | false =>
   obtain ⟨k,hk⟩:=h2 ha
   have h':qiQ sep [] (rOf cP l) (l.length:Nat) 0 0=_:=hk
   simp only [qkp,qcr,qmR,qnf,qmL,qme,qj2,qcJ,h']
   simp
 ·intro i b a hb hi hi2 ha ho
  have hm:paS a:=hs a (ha ▸ List.getElem_mem hi)
  have q1:iLt (i:Int) (l.length:Nat)=true:=by simp; omega
  have q3:qal (i:Int)=true:=by simp
  have q4:qb9 [PV.str [],.int .i64 0] (rOf cP l) (nNat (i:Int))=true:=by simp; omega
  have w:=qbP (i:=i) (by omega)
  have e1:=qzX hm
  have e2:=qBa hm
  have e3:=qAd hm
  rw [ho] at e3
  have x0:xStr (rOf cP l) (nNat (i:Int)) 0=a.1:=by simp [hi,ha]
  have x1:xInt (rOf cP l) (nNat (i:Int)) 1=a.2:=by simp [hi,ha]
  have o1:∀ c,qaF (rOf cS b) [c] 16=true:=fun c=>by simp; omega
  have o2:∀ t:Txt,qaB [[PV.str t]] 1=true:=fun t=>by simp [one]
  have o3:qav (rOf cS b) 1=true:=qho _
  have o4:nEq b.length (nXs (rOf cS b))=true:=by simp
  have o5:bNot true=false:=rfl
  show qi1 [.str sep,.fn 85 [],.sl (rOf cS b) (.tok 0),.sl (rOf cP l) .non,.int .i64 (l.length:Nat),.int .i64 (i:Nat)] ⟨[],[(b.length,1,9)],[]⟩=qi1 [.str sep,.fn 85 [],.sl (rOf cS (b++[paT a])) (.tok 0),.sl (rOf cP l) .non,.int .i64 (l.length:Nat),.int .i64 ((i+1:Nat):Int)] ⟨[],[((b++[paT a]).length,1,9)],[]⟩
  rw [qy4]
  simp only [qoc,q1,q3,q4,x0,x1,qaI,e1,e2,e3,o1,o2,o3,o4,o5,w]
  simp
 ·intro i b a hb hi hi2 ha ho
  have hm:paS a:=hs a (ha ▸ List.getElem_mem hi)
  have q1:iLt (i:Int) (l.length:Nat)=true:=by simp; omega
  have q3:qal (i:Int)=true:=by simp
  have q4:qb9 [PV.str [],.int .i64 0] (rOf cP l) (nNat (i:Int))=true:=by simp; omega
  have w:=qbP (i:=i) (by omega)
  have e1:=qzX hm
  have e2:=qBa hm
  have e3:=qAd hm
  rw [ho] at e3
  have x0:xStr (rOf cP l) (nNat (i:Int)) 0=a.1:=by simp [hi,ha]
  have x1:xInt (rOf cP l) (nNat (i:Int)) 1=a.2:=by simp [hi,ha]
  have o5:bNot false=true:=rfl
  show ∃ k:Nat,qi1 [.str sep,.fn 85 [],.sl (rOf cS b) (.tok 0),.sl (rOf cP l) .non,.int .i64 (l.length:Nat),.int .i64 (i:Nat)] ⟨[],[(b.length,1,9)],[]⟩=_
  refine ⟨b.length,?_⟩
  rw [qy4]
  simp only [qoc,q1,q3,q4,x0,x1,qaI,e1,e2,e3,o5]
  simp
 ·intro b hb
  have q1:iLt (l.length:Nat) (l.length:Nat)=false:=by simp
  show qi1 [.str sep,.fn 85 [],.sl (rOf cS b) (.tok 0),.sl (rOf cP l) .non,.int .i64 (l.length:Nat),.int .i64 (l.length:Nat)] ⟨[],[(b.length,1,9)],[]⟩=_
  rw [qy4]
  simp only [qoc,q1]
  simp
theorem qHY {l:List Pa} (hs:∀ a ∈ l,paS a) (hn:l.length≤100000) {sep:Txt} (hsep:sep.length≤10):qlQ (rOf cP l) sep=true:=by simp only [qty,qlQ,qfO,qv1 hs hn hsep]; simp
theorem qIi {l:List Pa} (hs:∀ a ∈ l,paS a) (hn:l.length≤100000) {sep:Txt} (hsep:sep.length≤10):qfO (rOf cP l) sep=jn paOk paT sep l:=by simp only [qty,qlQ,qfO,qv1 hs hn hsep]; simp
theorem qHm {l:List Pa} (hs:∀ a ∈ l,paS a) (hn:l.length≤100000) {sep:Txt} (hsep:sep.length≤10):qty (rOf cP l) sep=l.all paOk:=by simp only [qty,qlQ,qfO,qv1 hs hn hsep]; simp
theorem qv3 {l:List Ac} (hs:∀ a ∈ l,acS a) (hn:l.length≤100000) {sep:Txt} (hsep:sep.length≤10):qAg (rOf cAc l) sep=some (.tup [.str (jn acOk acT sep l),.bool (l.all acOk)]):=by
 have hl:=qf0 (l:=l) l.length (Nat.le_refl _) (V:=fun i b=>qiS [.str sep,.fn 87 [],.sl (rOf cS b) (.tok 0),.sl (rOf cAc l) .non,.int .i64 (l.length:Nat),.int .i64 (i:Nat)] ⟨[],[(b.length,1,9)],[]⟩) acOk acT (fun b=>some (.exit 0,[.str sep,.sl (rOf cS b) (.tok 0)],⟨[],[(b.length,1,9)],[]⟩)) (fun r=>∃ k:Nat,r=some (.ret,[.str [],.bool false],⟨[],[(k,1,9)],[]⟩)) ?_ ?_ ?_
 ·rw [List.take_length] at hl
  obtain ⟨h1,h2⟩:=hl
  have x0:xLen (rOf cAc l)=(l.length:Nat):=by simp
  unfold qAg qAJ jn
  rw [x0]
  cases ha:l.all acOk with
  | true =>
   have h':qiZ sep [] (rOf cAc l) (l.length:Nat) 0 0=_:=h1 ha
   have o:qhP (l.map acT) sep=true:=by
    rw [qcW]
    have:=qgQ (M:=14001) sep (l.map acT) (fun x hx=>by
     obtain ⟨a,ha,rfl⟩:=List.mem_map.1 hx
     exact qzp (hs a ha))
    have h3:(l.map acT).length * (14001+sep.length)≤100000 * (14001+10):=Nat.mul_le_mul (by simpa using hn) (by omega)
    exact ⟨by simp; omega,by omega⟩
   simp only [qkf,qcs,qmO,qmn,qma,qmZ,qjO,qcN,h']
   rw [qcW] at o
   simp [o.2]
   omega
  | false =>
   obtain ⟨k,hk⟩:=h2 ha
   have h':qiZ sep [] (rOf cAc l) (l.length:Nat) 0 0=_:=hk
   simp only [qkf,qcs,qmO,qmn,qma,qmZ,qjO,qcN,h']
   simp
 ·intro i b a hb hi hi2 ha ho
  have hm:acS a:=hs a (ha ▸ List.getElem_mem hi)
  have q1:iLt (i:Int) (l.length:Nat)=true:=by simp; omega
  have q3:qal (i:Int)=true:=by simp
  have q4:qb9 [PV.bool false,.str [],.sl [] .full] (rOf cAc l) (nNat (i:Int))=true:=by simp; omega
  have w:=qbP (i:=i) (by omega)
  have e1:=qzQ hm
  have e2:=qBQ hm
  have e3:=qAU hm
  rw [ho] at e3
  have x0:ql6 (rOf cAc l) (nNat (i:Int)) 0=a.1:=by simp [hi,ha]
  have x1:xStr (rOf cAc l) (nNat (i:Int)) 1=a.2.1:=by simp [hi,ha]
  have x2:xRow (rOf cAc l) (nNat (i:Int)) 2=rOf cM a.2.2:=by simp [hi,ha]
  have o1:∀ c,qaF (rOf cS b) [c] 16=true:=fun c=>by simp; omega
  have o2:∀ t:Txt,qaB [[PV.str t]] 1=true:=fun t=>by simp [one]
  have o3:qav (rOf cS b) 1=true:=qho _
  have o4:nEq b.length (nXs (rOf cS b))=true:=by simp
  have o5:bNot true=false:=rfl
  show qiS [.str sep,.fn 87 [],.sl (rOf cS b) (.tok 0),.sl (rOf cAc l) .non,.int .i64 (l.length:Nat),.int .i64 (i:Nat)] ⟨[],[(b.length,1,9)],[]⟩=qiS [.str sep,.fn 87 [],.sl (rOf cS (b++[acT a])) (.tok 0),.sl (rOf cAc l) .non,.int .i64 (l.length:Nat),.int .i64 ((i+1:Nat):Int)] ⟨[],[((b++[acT a]).length,1,9)],[]⟩
  rw [qAf]
  simp only [qo1,q1,q3,q4,x0,x1,x2,qaI,e1,e2,e3,o1,o2,o3,o4,o5,w]
  simp
 ·intro i b a hb hi hi2 ha ho
  have hm:acS a:=hs a (ha ▸ List.getElem_mem hi)
  have q1:iLt (i:Int) (l.length:Nat)=true:=by simp; omega
  have q3:qal (i:Int)=true:=by simp
  have q4:qb9 [PV.bool false,.str [],.sl [] .full] (rOf cAc l) (nNat (i:Int))=true:=by simp; omega
  have w:=qbP (i:=i) (by omega)
  have e1:=qzQ hm
  have e2:=qBQ hm
  have e3:=qAU hm
  rw [ho] at e3
  have x0:ql6 (rOf cAc l) (nNat (i:Int)) 0=a.1:=by simp [hi,ha]
  have x1:xStr (rOf cAc l) (nNat (i:Int)) 1=a.2.1:=by simp [hi,ha]
  have x2:xRow (rOf cAc l) (nNat (i:Int)) 2=rOf cM a.2.2:=by simp [hi,ha]
  have o5:bNot false=true:=rfl
  show ∃ k:Nat,qiS [.str sep,.fn 87 [],.sl (rOf cS b) (.tok 0),.sl (rOf cAc l) .non,.int .i64 (l.length:Nat),.int .i64 (i:Nat)] ⟨[],[(b.length,1,9)],[]⟩=_
  refine ⟨b.length,?_⟩
  rw [qAf]
  simp only [qo1,q1,q3,q4,x0,x1,x2,qaI,e1,e2,e3,o5]
  simp
 ·intro b hb
  have q1:iLt (l.length:Nat) (l.length:Nat)=false:=by simp
  show qiS [.str sep,.fn 87 [],.sl (rOf cS b) (.tok 0),.sl (rOf cAc l) .non,.int .i64 (l.length:Nat),.int .i64 (l.length:Nat)] ⟨[],[(b.length,1,9)],[]⟩=_
  rw [qAf]
  simp only [qo1,q1]
  simp
theorem qH4 {l:List Ac} (hs:∀ a ∈ l,acS a) (hn:l.length≤100000) {sep:Txt} (hsep:sep.length≤10):qlg (rOf cAc l) sep=true:=by simp only [qsX,qlg,qhC,qv3 hs hn hsep]; simp
theorem qH9 {l:List Ac} (hs:∀ a ∈ l,acS a) (hn:l.length≤100000) {sep:Txt} (hsep:sep.length≤10):qhC (rOf cAc l) sep=jn acOk acT sep l:=by simp only [qsX,qlg,qhC,qv3 hs hn hsep]; simp
theorem qHM {l:List Ac} (hs:∀ a ∈ l,acS a) (hn:l.length≤100000) {sep:Txt} (hsep:sep.length≤10):qsX (rOf cAc l) sep=l.all acOk:=by simp only [qsX,qlg,qhC,qv3 hs hn hsep]; simp
theorem qvt {o:En} (h:enS o):qAL o.1 (rOf cP o.2.1) (rOf cAc o.2.2)=some (.tup [.str (enT o),.bool (enOk o)]):=by
 have j1:=qHY h.2.1.2 (by have:=h.2.1.1; omega) (sep:=[44,32]) (by decide)
 have j2:=qIi h.2.1.2 (by have:=h.2.1.1; omega) (sep:=[44,32]) (by decide)
 have j3:=qHm h.2.1.2 (by have:=h.2.1.1; omega) (sep:=[44,32]) (by decide)
 have k1:=qH4 h.2.2.2 (by have:=h.2.2.1; omega) (sep:=[44,32]) (by decide)
 have k2:=qH9 h.2.2.2 (by have:=h.2.2.1; omega) (sep:=[44,32]) (by decide)
 have k3:=qHM h.2.2.2 (by have:=h.2.2.1; omega) (sep:=[44,32]) (by decide)
 have hj:=qyn (ok:=paOk) (T:=paT) (M:=304) [44,32] o.2.1 12 h.2.1.1 (fun p hp=>qCj (h.2.1.2 p hp))
 have hk:=qyn (ok:=acOk) (T:=acT) (M:=14001) [44,32] o.2.2 8 h.2.2.1 (fun a ha=>qzp (h.2.2.2 a ha))
 have hb:o.1.length≤65536:=Nat.le_trans h.1 (by decide)
 have hn:=h.1
 simp at hj hk
 unfold qAL qCb enT enOk
 simp only [qaI,j1,j2,j3,k1,k2,k3,qmT hb,qqB hb]
 by_cases hc:o.2.2=[]
 ·rw [hc] at hk ⊢
  have t:iLt 0 (xLen (rOf cAc []))=false:=rfl
  have o1:qaG [111,110,32] o.1=true:=qbE (by simp; omega)
  have o2:qaG (sApp [111,110,32] o.1) [40]=true:=qbE (by simp; omega)
  have o3:qaG (sApp (sApp [111,110,32] o.1) [40]) (jn paOk paT [44,32] o.2.1)=true:=qbE (by simp; omega)
  have o4:qaG (sApp (sApp (sApp [111,110,32] o.1) [40]) (jn paOk paT [44,32] o.2.1)) [41]=true:=qbE (by simp; omega)
  have o5:qaG (sApp (sApp (sApp (sApp [111,110,32] o.1) [40]) (jn paOk paT [44,32] o.2.1)) [41]) (jn acOk acT [44,32] [])=true:=qbE (by simp; omega)
  have o6:qaG (sApp (sApp (sApp (sApp (sApp [111,110,32] o.1) [40]) (jn paOk paT [44,32] o.2.1)) [41]) (jn acOk acT [44,32] [])) [46]=true:=qbE (by simp; omega)
  simp only [t,o1,o2,o3,o4,o5,o6]
  cases o.2.1.all paOk <;> simp [jn,qow]
 ·have t:iLt 0 (xLen (rOf cAc o.2.2))=true:=by simp; exact List.length_pos_iff.2 hc
  have o0:qaG [58,32] (jn acOk acT [44,32] o.2.2)=true:=qbE (by simp; omega)
  have o1:qaG [111,110,32] o.1=true:=qbE (by simp; omega)
  have o2:qaG (sApp [111,110,32] o.1) [40]=true:=qbE (by simp; omega)
  have o3:qaG (sApp (sApp [111,110,32] o.1) [40]) (jn paOk paT [44,32] o.2.1)=true:=qbE (by simp; omega)
  have o4:qaG (sApp (sApp (sApp [111,110,32] o.1) [40]) (jn paOk paT [44,32] o.2.1)) [41]=true:=qbE (by simp; omega)
  have o5:qaG (sApp (sApp (sApp (sApp [111,110,32] o.1) [40]) (jn paOk paT [44,32] o.2.1)) [41]) (sApp [58,32] (jn acOk acT [44,32] o.2.2))=true:=qbE (by simp; omega)
  have o6:qaG (sApp (sApp (sApp (sApp (sApp [111,110,32] o.1) [40]) (jn paOk paT [44,32] o.2.1)) [41]) (sApp [58,32] (jn acOk acT [44,32] o.2.2))) [46]=true:=qbE (by simp; omega)
  simp only [t,o0,o1,o2,o3,o4,o5,o6]
  cases o.2.1.all paOk <;> cases o.2.2.all acOk <;> simp [hc]
theorem qHJ {o:En} (h:enS o):qlj o.1 (rOf cP o.2.1) (rOf cAc o.2.2)=true:=by simp only [qqO,qlj,qqt,qvt h]; simp
theorem qH0 {o:En} (h:enS o):qqt o.1 (rOf cP o.2.1) (rOf cAc o.2.2)=enT o:=by simp only [qqO,qlj,qqt,qvt h]; simp
theorem qHX {o:En} (h:enS o):qqO o.1 (rOf cP o.2.1) (rOf cAc o.2.2)=enOk o:=by simp only [qqO,qlj,qqt,qvt h]; simp
def tdS (ok:Bool) (s:Txt):Txt:=if ok then s else []
def tdE (ok:Bool):Int:=if ok then 0 else 140
theorem qph (s:Txt) (ok:Bool):qoC s ok=some (.tup [.str (tdS ok s),.int .i64 (tdE ok)]):=by
 unfold qoC qqW tdS tdE
 cases ok <;> rfl
theorem qjZ (s:Txt) (ok:Bool):qc5 s ok=true:=by simp only [qc5,qe3,qfb,qph]; simp
theorem qj6 (s:Txt) (ok:Bool):qfb s ok=tdS ok s:=by simp only [qc5,qe3,qfb,qph]; simp
theorem qkR (s:Txt) (ok:Bool):qe3 s ok=tdE ok:=by simp only [qc5,qe3,qfb,qph]; simp
theorem qnw {t:Tm} (h:tmS t):qo4 t.1 t.2.1 t.2.2.1 t.2.2.2.1 t.2.2.2.2=some (.tup [.str (tdS (tmOk t) (tmT t)),.int .i64 (tdE (tmOk t))]):=by
 have e1:=qks h
 have e2:=qkt h
 have e3:=qkM h
 unfold qo4 qrV
 simp only [qaI,e1,e2,e3,qjZ,qj6,qkR]
 rfl
theorem qDq {t:Tm} (h:tmS t):qfS t.1 t.2.1 t.2.2.1 t.2.2.2.1 t.2.2.2.2=true:=by simp only [qfS,qjx,qju,qnw h]; simp
theorem qEr {t:Tm} (h:tmS t):qju t.1 t.2.1 t.2.2.1 t.2.2.2.1 t.2.2.2.2=tdS (tmOk t) (tmT t):=by simp only [qfS,qjx,qju,qnw h]; simp
theorem qCU {t:Tm} (h:tmS t):qjx t.1 t.2.1 t.2.2.1 t.2.2.2.1 t.2.2.2.2=tdE (tmOk t):=by simp only [qfS,qjx,qju,qnw h]; simp
theorem qnV {a:At} (h:atS a):qn4 a.1 (rOf cM a.2)=some (.tup [.str (tdS (atOk a) (atT a)),.int .i64 (tdE (atOk a))]):=by
 have e1:=qmH h
 have e2:=qmu h
 have e3:=qmo h
 unfold qn4 qro
 simp only [qaI,e1,e2,e3,qjZ,qj6,qkR]
 rfl
theorem qEp {a:At} (h:atS a):qgd a.1 (rOf cM a.2)=true:=by simp only [qgd,qjA,qjg,qnV h]; simp
theorem qC4 {a:At} (h:atS a):qjg a.1 (rOf cM a.2)=tdS (atOk a) (atT a):=by simp only [qgd,qjA,qjg,qnV h]; simp
theorem qDa {a:At} (h:atS a):qjA a.1 (rOf cM a.2)=tdE (atOk a):=by simp only [qgd,qjA,qjg,qnV h]; simp
theorem qhz {l:Li} (h:liS l):qfJ l.1 l.2.1.1 (rOf cM l.2.1.2) l.2.2.1 l.2.2.2.1.1 l.2.2.2.1.2.1 l.2.2.2.1.2.2.1 l.2.2.2.1.2.2.2.1 l.2.2.2.1.2.2.2.2 l.2.2.2.2.1 l.2.2.2.2.2.1 l.2.2.2.2.2.2.1 l.2.2.2.2.2.2.2.1 l.2.2.2.2.2.2.2.2=some (.tup [.str (tdS (liOk l) (liT l)),.int .i64 (tdE (liOk l))]):=by
 have e1:=qja h
 have e2:=qjH h
 have e3:=qjy h
 unfold qfJ qi9
 simp only [qaI,e1,e2,e3,qjZ,qj6,qkR]
 rfl
theorem qug {l:Li} (h:liS l):qdi l.1 l.2.1.1 (rOf cM l.2.1.2) l.2.2.1 l.2.2.2.1.1 l.2.2.2.1.2.1 l.2.2.2.1.2.2.1 l.2.2.2.1.2.2.2.1 l.2.2.2.1.2.2.2.2 l.2.2.2.2.1 l.2.2.2.2.2.1 l.2.2.2.2.2.2.1 l.2.2.2.2.2.2.2.1 l.2.2.2.2.2.2.2.2=true:=by simp only [qdi,qdL,qd0,qhz h]; simp
theorem qvv {l:Li} (h:liS l):qd0 l.1 l.2.1.1 (rOf cM l.2.1.2) l.2.2.1 l.2.2.2.1.1 l.2.2.2.1.2.1 l.2.2.2.1.2.2.1 l.2.2.2.1.2.2.2.1 l.2.2.2.1.2.2.2.2 l.2.2.2.2.1 l.2.2.2.2.2.1 l.2.2.2.2.2.2.1 l.2.2.2.2.2.2.2.1 l.2.2.2.2.2.2.2.2=tdS (liOk l) (liT l):=by simp only [qdi,qdL,qd0,qhz h]; simp
theorem qvK {l:Li} (h:liS l):qdL l.1 l.2.1.1 (rOf cM l.2.1.2) l.2.2.1 l.2.2.2.1.1 l.2.2.2.1.2.1 l.2.2.2.1.2.2.1 l.2.2.2.1.2.2.2.1 l.2.2.2.1.2.2.2.2 l.2.2.2.2.1 l.2.2.2.2.2.1 l.2.2.2.2.2.2.1 l.2.2.2.2.2.2.2.1 l.2.2.2.2.2.2.2.2=tdE (liOk l):=by simp only [qdi,qdL,qd0,qhz h]; simp
theorem qnn {x:Ru} (h:ruS x):qox x.1.1 (rOf cM x.1.2) (rOf cL x.2)=some (.tup [.str (tdS (ruOk x) (ruT x)),.int .i64 (tdE (ruOk x))]):=by
 have e1:=qDk h
 have e2:=qCT h
 have e3:=qDE h
 unfold qox qsi
 simp only [qaI,e1,e2,e3,qjZ,qj6,qkR]
 rfl
theorem qCY {x:Ru} (h:ruS x):qeh x.1.1 (rOf cM x.1.2) (rOf cL x.2)=true:=by simp only [qeh,qhe,qgk,qnn h]; simp
theorem qDe {x:Ru} (h:ruS x):qgk x.1.1 (rOf cM x.1.2) (rOf cL x.2)=tdS (ruOk x) (ruT x):=by simp only [qeh,qhe,qgk,qnn h]; simp
theorem qCH {x:Ru} (h:ruS x):qhe x.1.1 (rOf cM x.1.2) (rOf cL x.2)=tdE (ruOk x):=by simp only [qeh,qhe,qgk,qnn h]; simp
theorem quG {o:En} (h:enS o):qAS o.1 (rOf cP o.2.1) (rOf cAc o.2.2)=some (.tup [.str (tdS (enOk o) (enT o)),.int .i64 (tdE (enOk o))]):=by
 have e1:=qHJ h
 have e2:=qH0 h
 have e3:=qHX h
 unfold qAS qCv
 simp only [qaI,e1,e2,e3,qjZ,qj6,qkR]
 rfl
theorem qHs {o:En} (h:enS o):qhJ o.1 (rOf cP o.2.1) (rOf cAc o.2.2)=true:=by simp only [qhJ,qq8,qrs,quG h]; simp
theorem qHK {o:En} (h:enS o):qrs o.1 (rOf cP o.2.1) (rOf cAc o.2.2)=tdS (enOk o) (enT o):=by simp only [qhJ,qq8,qrs,quG h]; simp
theorem qHR {o:En} (h:enS o):qq8 o.1 (rOf cP o.2.1) (rOf cAc o.2.2)=tdE (enOk o):=by simp only [qhJ,qq8,qrs,quG h]; simp
end Go.Pv
set_option linter.unusedSimpArgs false
set_option linter.unusedVariables false
namespace Go.Pv
open Go.RowKit
end Go.Pv
set_option maxHeartbeats 4000000
set_option maxRecDepth 200000
set_option linter.unusedSimpArgs false
set_option linter.unusedVariables false
namespace Go.Pv
open Go Go.Proofs
end Go.Pv
set_option maxHeartbeats 8000000
set_option maxRecDepth 200000
set_option linter.unusedSimpArgs false
set_option linter.unusedVariables false
namespace Go.Pv
open Go Go.Proofs Go.RowKit
end Go.Pv
set_option maxHeartbeats 4000000
set_option maxRecDepth 200000
set_option linter.unusedSimpArgs false
set_option linter.unusedVariables false
namespace Go.Pv
open Go Go.Proofs
end Go.Pv
set_option maxHeartbeats 4000000
set_option maxRecDepth 200000
set_option linter.unusedSimpArgs false
set_option linter.unusedVariables false
namespace Go.Pv
open Go Go.Proofs
noncomputable def quX:GamT:=ofL [(38,.pure qrJ)]
theorem qzR (gl:Gl):qaJ Tryz.prog gl (gam quX):=(qad (qye gl) qag)
noncomputable def qCn:LpsT:=fun r fr σ=>.fail
noncomputable def qq2 (s:List UInt8) (k:Int):Tr PV:=.ite (qib s) (.ite (iEq (qhD s) 0) (.ite (iEq (xLen (qev s)) 1) (.ite (qal 0) (.ite (qb9 [.int .i64 0,.str [],.int .i64 0,.int .i64 0,.str [],.int .i64 0] (qev s) (nNat 0)) (.ite (iEq (xInt (qev s) (nNat 0) 0) k) (.ite (qal 0) (.ite (qb9 [.int .i64 0,.str [],.int .i64 0,.int .i64 0,.str [],.int .i64 0] (qev s) (nNat 0)) (.ret (.bool (sEq (xStr (qev s) (nNat 0) 1) s))) .fail) .fail) (.ret (.bool false))) .fail) .fail) (.ret (.bool false))) (.ret (.bool false))) .fail
theorem qFx (s:List UInt8) (k:Int):(tcall tbT quX qCn Tryz.f53 [.str s,.int .i64 k]).flat=qq2 s k:=by kernel_rfl
noncomputable def qrn (s:List UInt8) (k:Int):Option PV:=(qq2 s k).run
noncomputable def qjf (s:List UInt8) (k:Int):Bool:=(qcc (gVal (qrn s k)))
noncomputable def qfL (s:List UInt8) (k:Int):Bool:=isW (qrn s k) (.bool (qjf s k))
noncomputable def qqG:List PV→Tr PV | [.str s,.int .i64 k]=>.ite (qfL s k) (.ret (.bool (qjf s k))) (.fail) | _=>.fail
theorem qtp (gl:Gl):SimP Tryz.prog gl 53 fun args=>(qqG args).run:=by
 refine SimP.of_flat (G:=quX) (L:=qCn) qaj (qzR gl ) qah  Tryz.func53 rfl (by rfl) (by kernel_rfl) (qae (by kernel_rfl)) ?_
 intro args x h
 unfold qqG at h
 split at h
 ·exact (congrArg Tr.run (qFx _ _)).trans (qai h fun h=>by cases h)
 ·cases h
noncomputable def quM:GamT:=ofL [(53,.pure qqG)]
theorem qA0 (gl:Gl):qaJ Tryz.prog gl (gam quM):=(qad (qtp gl) qag)
noncomputable def qAB:LpsT:=fun r fr σ=>.fail
noncomputable def qqy (s:List UInt8):Tr PV:=.ite (qfL s 1) (.ite (qjf s 1) (.ite (sNe s [98,97,115,101]) (.ite (sNe s [118,105,101,119]) (.ite (sNe s [111,110]) (.ret (.bool (sNe s [110,111,116]))) (.ret (.bool false))) (.ret (.bool false))) (.ret (.bool false))) (.ret (.bool false))) .fail
theorem qGr (s:List UInt8):(tcall tbT quM qAB Tryz.f19 [.str s]).flat=qqy s:=by kernel_rfl
noncomputable def qqI (s:List UInt8):Option PV:=(qqy s).run
noncomputable def qi8 (s:List UInt8):Bool:=(qcc (gVal (qqI s)))
noncomputable def qfZ (s:List UInt8):Bool:=isW (qqI s) (.bool (qi8 s))
noncomputable def qsf:List PV→Tr PV | [.str s]=>.ite (qfZ s) (.ret (.bool (qi8 s))) (.fail) | _=>.fail
theorem qsO (gl:Gl):SimP Tryz.prog gl 19 fun args=>(qsf args).run:=by
 refine SimP.of_flat (G:=quM) (L:=qAB) qaj (qA0 gl ) qah  Tryz.func19 rfl (by rfl) (by kernel_rfl) (qae (by kernel_rfl)) ?_
 intro args x h
 unfold qsf at h
 split at h
 ·exact (congrArg Tr.run (qGr _)).trans (qai h fun h=>by cases h)
 ·cases h
noncomputable def qy6:GamT:=ofL [(53,.pure qqG)]
theorem qD5 (gl:Gl):qaJ Tryz.prog gl (gam qy6):=(qad (qtp gl) qag)
noncomputable def qEG:LpsT:=fun r fr σ=>.fail
noncomputable def quT (s:List UInt8):Tr PV:=.ite (qfL s 2) (.ret (.bool (qjf s 2))) .fail
theorem qHn (s:List UInt8):(tcall tbT qy6 qEG Tryz.f21 [.str s]).flat=quT s:=by kernel_rfl
noncomputable def qwM (s:List UInt8):Option PV:=(quT s).run
noncomputable def qo3 (s:List UInt8):Bool:=(qcc (gVal (qwM s)))
noncomputable def qhV (s:List UInt8):Bool:=isW (qwM s) (.bool (qo3 s))
noncomputable def qxu:List PV→Tr PV | [.str s]=>.ite (qhV s) (.ret (.bool (qo3 s))) (.fail) | _=>.fail
theorem qwX (gl:Gl):SimP Tryz.prog gl 21 fun args=>(qxu args).run:=by
 refine SimP.of_flat (G:=qy6) (L:=qEG) qaj (qD5 gl ) qah  Tryz.func21 rfl (by rfl) (by kernel_rfl) (qae (by kernel_rfl)) ?_
 intro args x h
 unfold qxu at h
 split at h
 ·exact (congrArg Tr.run (qHn _)).trans (qai h fun h=>by cases h)
 ·cases h
noncomputable def qpb:GamT:=ofL [(qiV,.hint [(5,0,1,5)])]
theorem qsI (gl:Gl):qaJ Tryz.prog gl (gam qpb):=(qcn (K:=.hint [(5,0,1,5)]) trivial qag)
noncomputable def qnb:Code:=qhg Tryz.f48 3
def qmz:LI:=⟨26,[0,1,5,6],fun e=>match e with | .exit 0=>[5] | _=>[],true⟩
noncomputable def qpe:LpsT:=fun r fr σ=>.fail
noncomputable def qin (vs:List PV) (σ:Store):Option (PExit × List PV × Store):=lval (lstep tbT qpb qpe qnb qmz) vs σ
noncomputable def qdB (l:List (List PV)) (between:List UInt8) (b:List (List PV)) (i:Int) (k:Nat):Tr LR:=.ite (iLt i (xLen l)) (.ite (iLt 0 i) (.ite (qaF b (qaa between) 1) (.ite (qaB (qaa between) 1) (.ite (qav b 1) (.ite (xNil (qaa between)) (.ite (qal i) (.ite (qb9 [.str []] l (nNat i)) (.ite (qaF b (qaa (xStr l (nNat i) 0)) 1) (.ite (qaB (qaa (xStr l (nNat i) 0)) 1) (.ite (qav b 1) (.ite (xNil (qaa (xStr l (nNat i) 0))) (.ret (.next [.sl l .non,.str between,.sl b (.tok 0),.int .i64 (iAdd .i64 i 1)] (Store.mk [] [(k,1,5)] []))) (.ite (nEq k (nXs b)) (.ret (.next [.sl l .non,.str between,.sl (xApp b (qaa (xStr l (nNat i) 0))) (.tok 0),.int .i64 (iAdd .i64 i 1)] (Store.mk [] [(nXs (xApp b (qaa (xStr l (nNat i) 0))),1,5)] []))) .fail)) .fail) .fail) .fail) .fail) .fail) (.ite (nEq k (nXs b)) (.ite (qal i) (.ite (qb9 [.str []] l (nNat i)) (.ite (qaF (xApp b (qaa between)) (qaa (xStr l (nNat i) 0)) 1) (.ite (qaB (qaa (xStr l (nNat i) 0)) 1) (.ite (qav (xApp b (qaa between)) 1) (.ite (xNil (qaa (xStr l (nNat i) 0))) (.ret (.next [.sl l .non,.str between,.sl (xApp b (qaa between)) (.tok 0),.int .i64 (iAdd .i64 i 1)] (Store.mk [] [(nXs (xApp b (qaa between)),1,5)] []))) (.ite (nEq (nXs (xApp b (qaa between))) (nXs (xApp b (qaa between)))) (.ret (.next [.sl l .non,.str between,.sl (xApp (xApp b (qaa between)) (qaa (xStr l (nNat i) 0))) (.tok 0),.int .i64 (iAdd .i64 i 1)] (Store.mk [] [(nXs (xApp (xApp b (qaa between)) (qaa (xStr l (nNat i) 0))),1,5)] []))) .fail)) .fail) .fail) .fail) .fail) .fail) .fail)) .fail) .fail) .fail) (.ite (qal i) (.ite (qb9 [.str []] l (nNat i)) (.ite (qaF b (qaa (xStr l (nNat i) 0)) 1) (.ite (qaB (qaa (xStr l (nNat i) 0)) 1) (.ite (qav b 1) (.ite (xNil (qaa (xStr l (nNat i) 0)))
 (.ret (.next [.sl l .non,.str between,.sl b (.tok 0),.int .i64 (iAdd .i64 i 1)] (Store.mk [] [(k,1,5)] []))) (.ite (nEq k (nXs b)) (.ret (.next [.sl l .non,.str between,.sl (xApp b (qaa (xStr l (nNat i) 0))) (.tok 0),.int .i64 (iAdd .i64 i 1)] (Store.mk [] [(nXs (xApp b (qaa (xStr l (nNat i) 0))),1,5)] []))) .fail)) .fail) .fail) .fail) .fail) .fail)) (.ret (.out (.exit 0) [.sl b (.tok 0)] (Store.mk [] [(k,1,5)] [])))
theorem qD9 (l:List (List PV)) (between:List UInt8) (b:List (List PV)) (i:Int) (k:Nat):lstep tbT qpb qpe qnb qmz [.sl l .non,.str between,.sl b (.tok 0),.int .i64 i] ⟨[],[(k,1,5)],[]⟩=qdB l between b i k:=by kernel_rfl
theorem qqQ (l:List (List PV)) (between:List UInt8) (b:List (List PV)) (i:Int) (k:Nat):qin [.sl l .non,.str between,.sl b (.tok 0),.int .i64 i] ⟨[],[(k,1,5)],[]⟩=lnext qin (qdB l between b i k).run:=by unfold qin; rw [qb7,qD9]
noncomputable def qna (l:List (List PV)) (between:List UInt8) (b:List (List PV)) (i:Int) (k:Nat):Option (PExit × List PV × Store):=qin [.sl l .non,.str between,.sl b (.tok 0),.int .i64 i] ⟨[],[(k,1,5)],[]⟩
noncomputable def qkq (l:List (List PV)) (between:List UInt8) (b:List (List PV)) (i:Int) (k:Nat):List (List PV):=(gRow (gOut (qna l between b i k) 0))
noncomputable def qr2 (l:List (List PV)) (between:List UInt8) (b:List (List PV)) (i:Int) (k:Nat):Nat:=(gTok (qna l between b i k) 0)
noncomputable def qlF (l:List (List PV)) (between:List UInt8) (b:List (List PV)) (i:Int) (k:Nat):Bool:=isW (qna l between b i k) ((.exit 0),[.sl (qkq l between b i k) (.tok 0)],⟨[],[((qr2 l between b i k),1,5)],[]⟩)
noncomputable def qgE:List PV→Store→Tr (PExit × List PV × Store) | [.sl l .non,.str between,.sl b (.tok 0),.int .i64 i],⟨[],[(k,1,5)],[]⟩=>.ite (qlF l between b i k) (.ret ((.exit 0),[.sl (qkq l between b i k) (.tok 0)],⟨[],[((qr2 l between b i k),1,5)],[]⟩)) (.fail) | _,_=>.fail
theorem qz5:∀ vs σ r,(qgE vs σ).run=some r→qin vs σ=some r:=by
 intro vs σ r h
 unfold qgE at h
 split at h
 ·exact qai h fun h=>by cases h
 ·cases h
theorem qv6 (gl:Gl):∀ fr σ e fr' σ',(orc qmz qgE fr σ).run=some (e,fr',σ')→LDoes Tryz.prog gl qnb fr σ e fr' σ':=qdI qaj (qsI gl ) qah (L:=qpe) (qae (by kernel_rfl)) (by kernel_rfl) qz5
noncomputable def qvi:LpsT:=fun r fr σ=>bif Nat.beq r 3 then orc qmz qgE fr σ else .fail
noncomputable def qrl (l:List (List PV)) (between:List UInt8):Tr PV:=.ite (qlF l between [] 0 0) (.ite (qcj (qkq l between [] 0 0)) (.ret (.str (qbS (qkq l between [] 0 0)))) .fail) .fail
theorem qFh (l:List (List PV)) (between:List UInt8):(tcall tbT qpb qvi Tryz.f48 [.sl l .non,.str between]).flat=qrl l between:=by kernel_rfl
noncomputable def qqR (l:List (List PV)) (between:List UInt8):Option PV:=(qrl l between).run
noncomputable def qgT (l:List (List PV)) (between:List UInt8):List UInt8:=(gStr (gVal (qqR l between)))
noncomputable def qgb (l:List (List PV)) (between:List UInt8):Bool:=isW (qqR l between) (.str (qgT l between))
noncomputable def qua:List PV→Tr PV | [.sl l .non,.str between]=>.ite (qgb l between) (.ret (.str (qgT l between))) (.fail) | _=>.fail
theorem qzS (gl:Gl):SimP Tryz.prog gl 48 fun args=>(qua args).run:=by
 refine SimP.of_flat (G:=qpb) (L:=qvi) qaj (qsI gl ) qah  Tryz.func48 rfl (by rfl) (by kernel_rfl) (qbt (L:=lps qvi) [(3,qnb)] (by kernel_rfl) (List.forall_mem_cons.2 ⟨fun fr σ e fr' σ' h=>qv6 gl  fr σ e fr' σ' h,(List.forall_mem_nil _)⟩)) ?_
 intro args x h
 unfold qua at h
 split at h
 ·exact (congrArg Tr.run (qFh _ _)).trans (qai h fun h=>by cases h)
 ·cases h
noncomputable def qvg:GamT:=ofL [(21,.pure qxu),(45,.pure F_Is),(46,.pure qq3)]
theorem qBI (gl:Gl):qaJ Tryz.prog gl (gam qvg):=(qad (qwX gl) (qad (qEX gl) (qad (qsP gl) qag)))
noncomputable def qAO:LpsT:=fun r fr σ=>.fail
noncomputable def qry (t:Int) (t2:List UInt8) (t3:Int) (t4:Int) (t5:List UInt8):Tr PV:=.ite (iEq t 1) (.ite (qhV t2) (.ite (qo3 t2) (.ite (bAnd (iEq t3 0) (bAnd (iEq t4 0) (bAnd (sEq t5 []) true))) (.ret (.tup [.str t2,.int .i64 0])) (.ite (iEq t 2) (.ite (sEq t2 []) (.ite (isV t3 t4 t5) (.ret (.tup [.str (qek t3 t4 t5),.int .i64 0])) (.ite (iEq t 3) (.ite (sEq t2 []) (.ite (bAnd (iEq t3 0) (bAnd (iEq t4 0) (bAnd (sEq t5 []) true))) (.ret (.tup [.str [95],.int .i64 0])) (.ret (.tup [.str [],.int .i64 140]))) (.ret (.tup [.str [],.int .i64 140]))) (.ret (.tup [.str [],.int .i64 140])))) (.ite (iEq t 3) (.ite (sEq t2 []) (.ite (bAnd (iEq t3 0) (bAnd (iEq t4 0) (bAnd (sEq t5 []) true))) (.ret (.tup [.str [95],.int .i64 0])) (.ret (.tup [.str [],.int .i64 140]))) (.ret (.tup [.str [],.int .i64 140]))) (.ret (.tup [.str [],.int .i64 140])))) (.ite (iEq t 3) (.ite (sEq t2 []) (.ite (bAnd (iEq t3 0) (bAnd (iEq t4 0) (bAnd (sEq t5 []) true))) (.ret (.tup [.str [95],.int .i64 0])) (.ret (.tup [.str [],.int .i64 140]))) (.ret (.tup [.str [],.int .i64 140]))) (.ret (.tup [.str [],.int .i64 140]))))) (.ite (iEq t 2) (.ite (sEq t2 []) (.ite (isV t3 t4 t5) (.ret (.tup [.str (qek t3 t4 t5),.int .i64 0])) (.ite (iEq t 3) (.ite (sEq t2 []) (.ite (bAnd (iEq t3 0) (bAnd (iEq t4 0) (bAnd (sEq t5 []) true))) (.ret (.tup [.str [95],.int .i64 0])) (.ret (.tup [.str [],.int .i64 140]))) (.ret (.tup [.str [],.int .i64 140]))) (.ret (.tup [.str [],.int .i64 140])))) (.ite (iEq t 3) (.ite (sEq t2 []) (.ite (bAnd (iEq t3 0) (bAnd (iEq t4 0) (bAnd (sEq t5 []) true))) (.ret (.tup [.str [95],.int .i64 0])) (.ret (.tup [.str [],.int .i64 140]))) (.ret (.tup [.str [],.int .i64 140]))) (.ret (.tup [.str [],.int .i64 140])))) (.ite (iEq t 3) (.ite (sEq t2 []) (.ite (bAnd (iEq t3 0) (bAnd (iEq t4 0) (bAnd (sEq t5 []) true))) (.ret (.tup [.str [95],.int .i64 0])) (.ret (.tup [.str [],.int .i64 140]))) (.ret (.tup [.str [],.int .i64 140])))
 (.ret (.tup [.str [],.int .i64 140]))))) .fail) (.ite (iEq t 2) (.ite (sEq t2 []) (.ite (isV t3 t4 t5) (.ret (.tup [.str (qek t3 t4 t5),.int .i64 0])) (.ite (iEq t 3) (.ite (sEq t2 []) (.ite (bAnd (iEq t3 0) (bAnd (iEq t4 0) (bAnd (sEq t5 []) true))) (.ret (.tup [.str [95],.int .i64 0])) (.ret (.tup [.str [],.int .i64 140]))) (.ret (.tup [.str [],.int .i64 140]))) (.ret (.tup [.str [],.int .i64 140])))) (.ite (iEq t 3) (.ite (sEq t2 []) (.ite (bAnd (iEq t3 0) (bAnd (iEq t4 0) (bAnd (sEq t5 []) true))) (.ret (.tup [.str [95],.int .i64 0])) (.ret (.tup [.str [],.int .i64 140]))) (.ret (.tup [.str [],.int .i64 140]))) (.ret (.tup [.str [],.int .i64 140])))) (.ite (iEq t 3) (.ite (sEq t2 []) (.ite (bAnd (iEq t3 0) (bAnd (iEq t4 0) (bAnd (sEq t5 []) true))) (.ret (.tup [.str [95],.int .i64 0])) (.ret (.tup [.str [],.int .i64 140]))) (.ret (.tup [.str [],.int .i64 140]))) (.ret (.tup [.str [],.int .i64 140]))))
theorem qGE (t:Int) (t2:List UInt8) (t3:Int) (t4:Int) (t5:List UInt8):(tcall tbT qvg qAO Tryz.f13 [.agg [.int .i64 t,.str t2,.int .i64 t3,.int .i64 t4,.str t5]]).flat=qry t t2 t3 t4 t5:=by kernel_rfl
noncomputable def qny (t:Int) (t2:List UInt8) (t3:Int) (t4:Int) (t5:List UInt8):Option PV:=(qry t t2 t3 t4 t5).run
noncomputable def qax (t:Int) (t2:List UInt8) (t3:Int) (t4:Int) (t5:List UInt8):List UInt8:=(gStr (gAt (gCs (gVal (qny t t2 t3 t4 t5))) 0))
noncomputable def qbU (t:Int) (t2:List UInt8) (t3:Int) (t4:Int) (t5:List UInt8):Int:=(gInt (gAt (gCs (gVal (qny t t2 t3 t4 t5))) 1))
noncomputable def qbu (t:Int) (t2:List UInt8) (t3:Int) (t4:Int) (t5:List UInt8):Bool:=isW (qny t t2 t3 t4 t5) (.tup [.str (qax t t2 t3 t4 t5),.int .i64 (qbU t t2 t3 t4 t5)])
noncomputable def qpi:List PV→Tr PV | [.agg [.int .i64 t,.str t2,.int .i64 t3,.int .i64 t4,.str t5]]=>.ite (qbu t t2 t3 t4 t5) (.ret (.tup [.str (qax t t2 t3 t4 t5),.int .i64 (qbU t t2 t3 t4 t5)])) (.fail) | _=>.fail
theorem qok (gl:Gl):SimP Tryz.prog gl 13 fun args=>(qpi args).run:=by
 refine SimP.of_flat (G:=qvg) (L:=qAO) qaj (qBI gl ) qah  Tryz.func13 rfl (by rfl) (by kernel_rfl) (qae (by kernel_rfl)) ?_
 intro args x h
 unfold qpi at h
 split at h
 ·exact (congrArg Tr.run (qGE _ _ _ _ _)).trans (qai h fun h=>by cases h)
 ·cases h
noncomputable def qpl:GamT:=ofL [(13,.pure qpi),(19,.pure qsf),(48,.pure qua),(qiV,.hint [(4,0,1,9)])]
theorem qta (gl:Gl):qaJ Tryz.prog gl (gam qpl):=(qad (qok gl) (qad (qsO gl) (qad (qzS gl) (qcn (K:=.hint [(4,0,1,9)]) trivial qag))))
noncomputable def qmj:Code:=qhg Tryz.f15 5
def qmU:LI:=⟨42,[1,4,5],fun e=>match e with | .ret=>[2,3] | .exit 0=>[1,4] | _=>[],true⟩
noncomputable def qnH:LpsT:=fun r fr σ=>.fail
noncomputable def qc7 (vs:List PV) (σ:Store):Option (PExit × List PV × Store):=lval (lstep tbT qpl qnH qmj qmU) vs σ
noncomputable def qhy (l:List (List PV)) (i:Int) (s:List UInt8) (r:List (List PV)) (k:Nat):Tr LR:=.ite (iLt i (xLen r)) (.ite (qal i) (.ite (qb9 [.int .i64 0,.str [],.int .i64 0,.int .i64 0,.str []] r (nNat i)) (.ite (qbu (xInt r (nNat i) 0) (xStr r (nNat i) 1) (xInt r (nNat i) 2) (xInt r (nNat i) 3) (xStr r (nNat i) 4)) (.ite (iNe (qbU (xInt r (nNat i) 0) (xStr r (nNat i) 1) (xInt r (nNat i) 2) (xInt r (nNat i) 3) (xStr r (nNat i) 4)) 0) (.ret (.out .ret [.str [],.int .i64 (qbU (xInt r (nNat i) 0) (xStr r (nNat i) 1) (xInt r (nNat i) 2) (xInt r (nNat i) 3) (xStr r (nNat i) 4))] (Store.mk [[.str s,.sl r .non]] [(k,1,9)] [31]))) (.ite (qaF l [[.str (qax (xInt r (nNat i) 0) (xStr r (nNat i) 1) (xInt r (nNat i) 2) (xInt r (nNat i) 3) (xStr r (nNat i) 4))]] 16) (.ite (qaB [[.str (qax (xInt r (nNat i) 0) (xStr r (nNat i) 1) (xInt r (nNat i) 2) (xInt r (nNat i) 3) (xStr r (nNat i) 4))]] 1) (.ite (qav l 1) (.ite (nEq k (nXs l)) (.ret (.next [.ptr 0 0,.sl (xApp l [[.str (qax (xInt r (nNat i) 0) (xStr r (nNat i) 1) (xInt r (nNat i) 2) (xInt r (nNat i) 3) (xStr r (nNat i) 4))]]) (.tok 0),.int .i64 (iAdd .i64 i 1)] (Store.mk [[.str s,.sl r .non]] [(nXs (xApp l [[.str (qax (xInt r (nNat i) 0) (xStr r (nNat i) 1) (xInt r (nNat i) 2) (xInt r (nNat i) 3) (xStr r (nNat i) 4))]]),1,9)] [31]))) .fail) .fail) .fail) .fail)) .fail) .fail) .fail) (.ret (.out (.exit 0) [.ptr 0 0,.sl l (.tok 0)] (Store.mk [[.str s,.sl r .non]] [(k,1,9)] [31])))
theorem qEj (l:List (List PV)) (i:Int) (s:List UInt8) (r:List (List PV)) (k:Nat):lstep tbT qpl qnH qmj qmU [.ptr 0 0,.sl l (.tok 0),.int .i64 i] ⟨[[.str s,.sl r .non]],[(k,1,9)],[31]⟩=qhy l i s r k:=by kernel_rfl
theorem qr5 (l:List (List PV)) (i:Int) (s:List UInt8) (r:List (List PV)) (k:Nat):qc7 [.ptr 0 0,.sl l (.tok 0),.int .i64 i] ⟨[[.str s,.sl r .non]],[(k,1,9)],[31]⟩=lnext qc7 (qhy l i s r k).run:=by unfold qc7; rw [qb7,qEj]
noncomputable def qcX (l:List (List PV)) (i:Int) (s:List UInt8) (r:List (List PV)) (k:Nat):Option (PExit × List PV × Store):=qc7 [.ptr 0 0,.sl l (.tok 0),.int .i64 i] ⟨[[.str s,.sl r .non]],[(k,1,9)],[31]⟩
noncomputable def qf2 (l:List (List PV)) (i:Int) (s:List UInt8) (r:List (List PV)) (k:Nat):List UInt8:=(gStr (gOut (qcX l i s r k) 0))
noncomputable def qfP (l:List (List PV)) (i:Int) (s:List UInt8) (r:List (List PV)) (k:Nat):Int:=(gInt (gOut (qcX l i s r k) 1))
noncomputable def qgg (l:List (List PV)) (i:Int) (s:List UInt8) (r:List (List PV)) (k:Nat):List UInt8:=(gStr (gAt (gObj (qcX l i s r k) 0) 0))
noncomputable def qhT (l:List (List PV)) (i:Int) (s:List UInt8) (r:List (List PV)) (k:Nat):List (List PV):=(gRow (gAt (gObj (qcX l i s r k) 0) 1))
noncomputable def qik (l:List (List PV)) (i:Int) (s:List UInt8) (r:List (List PV)) (k:Nat):Nat:=(gTok (qcX l i s r k) 0)
noncomputable def qis (l:List (List PV)) (i:Int) (s:List UInt8) (r:List (List PV)) (k:Nat):Bool:=isW (qcX l i s r k) (.ret,[.str (qf2 l i s r k),.int .i64 (qfP l i s r k)],⟨[[.str (qgg l i s r k),.sl (qhT l i s r k) .non]],[((qik l i s r k),1,9)],[31]⟩)
noncomputable def qdm (l:List (List PV)) (i:Int) (s:List UInt8) (r:List (List PV)) (k:Nat):List (List PV):=(gRow (gOut (qcX l i s r k) 1))
noncomputable def qdl (l:List (List PV)) (i:Int) (s:List UInt8) (r:List (List PV)) (k:Nat):List UInt8:=(gStr (gAt (gObj (qcX l i s r k) 0) 0))
noncomputable def qhX (l:List (List PV)) (i:Int) (s:List UInt8) (r:List (List PV)) (k:Nat):List (List PV):=(gRow (gAt (gObj (qcX l i s r k) 0) 1))
noncomputable def qiD (l:List (List PV)) (i:Int) (s:List UInt8) (r:List (List PV)) (k:Nat):Nat:=(gTok (qcX l i s r k) 0)
noncomputable def qh4 (l:List (List PV)) (i:Int) (s:List UInt8) (r:List (List PV)) (k:Nat):Bool:=isW (qcX l i s r k) ((.exit 0),[.ptr 0 0,.sl (qdm l i s r k) (.tok 0)],⟨[[.str (qdl l i s r k),.sl (qhX l i s r k) .non]],[((qiD l i s r k),1,9)],[31]⟩)
noncomputable def qgA:List PV→Store→Tr (PExit × List PV × Store) | [.ptr 0 0,.sl l (.tok 0),.int .i64 i],⟨[[.str s,.sl r .non]],[(k,1,9)],[31]⟩=>.ite (qis l i s r k) (.ret (.ret,[.str (qf2 l i s r k),.int .i64 (qfP l i s r k)],⟨[[.str (qgg l i s r k),.sl (qhT l i s r k) .non]],[((qik l i s r k),1,9)],[31]⟩)) (.ite (qh4 l i s r k) (.ret ((.exit 0),[.ptr 0 0,.sl (qdm l i s r k) (.tok 0)],⟨[[.str (qdl l i s r k),.sl (qhX l i s r k) .non]],[((qiD l i s r k),1,9)],[31]⟩)) (.fail)) | _,_=>.fail
theorem qzb:∀ vs σ r,(qgA vs σ).run=some r→qc7 vs σ=some r:=by
 intro vs σ r h
 unfold qgA at h
 split at h
 ·exact qai h fun h=>qai h fun h=>by cases h
 ·cases h
theorem quc (gl:Gl):∀ fr σ e fr' σ',(orc qmU qgA fr σ).run=some (e,fr',σ')→LDoes Tryz.prog gl qmj fr σ e fr' σ':=qdI qaj (qta gl ) qah (L:=qnH) (qae (by kernel_rfl)) (by kernel_rfl) qzb
noncomputable def qvq:LpsT:=fun r fr σ=>bif Nat.beq r 5 then orc qmU qgA fr σ else .fail
noncomputable def qrQ (a:List UInt8) (a2:List (List PV)):Tr PV:=.ite (qfZ a) (.ite (bNot (qi8 a)) (.ret (.tup [.str [],.int .i64 140])) (.ite (qis [] 0 a a2 0) (.ret (.tup [.str (qf2 [] 0 a a2 0),.int .i64 (qfP [] 0 a a2 0)])) (.ite (qh4 [] 0 a a2 0) (.ite (qaG (qdl [] 0 a a2 0) [40]) (.ite (qgb (qac (qdm [] 0 a a2 0)) [44,32]) (.ite (qaG (sApp (qdl [] 0 a a2 0) [40]) (qgT (qac (qdm [] 0 a a2 0)) [44,32])) (.ite (qaG (sApp (sApp (qdl [] 0 a a2 0) [40]) (qgT (qac (qdm [] 0 a a2 0)) [44,32])) [41]) (.ret (.tup [.str (sApp (sApp (sApp (qdl [] 0 a a2 0) [40]) (qgT (qac (qdm [] 0 a a2 0)) [44,32])) [41]),.int .i64 0])) .fail) .fail) .fail) .fail) .fail))) .fail
theorem qGm (a:List UInt8) (a2:List (List PV)):(tcall tbT qpl qvq Tryz.f15 [.agg [.str a,.sl a2 .non]]).flat=qrQ a a2:=by kernel_rfl
noncomputable def qpd (a:List UInt8) (a2:List (List PV)):Option PV:=(qrQ a a2).run
noncomputable def qdb (a:List UInt8) (a2:List (List PV)):List UInt8:=(gStr (gAt (gCs (gVal (qpd a a2))) 0))
noncomputable def qdf (a:List UInt8) (a2:List (List PV)):Int:=(gInt (gAt (gCs (gVal (qpd a a2))) 1))
noncomputable def qei (a:List UInt8) (a2:List (List PV)):Bool:=isW (qpd a a2) (.tup [.str (qdb a a2),.int .i64 (qdf a a2)])
noncomputable def qrj:List PV→Tr PV | [.agg [.str a,.sl a2 .non]]=>.ite (qei a a2) (.ret (.tup [.str (qdb a a2),.int .i64 (qdf a a2)])) (.fail) | _=>.fail
theorem qs8 (gl:Gl):SimP Tryz.prog gl 15 fun args=>(qrj args).run:=by
 refine SimP.of_flat (G:=qpl) (L:=qvq) qaj (qta gl ) qah  Tryz.func15 rfl (by rfl) (by kernel_rfl) (qbt (L:=lps qvq) [(5,qmj)] (by kernel_rfl) (List.forall_mem_cons.2 ⟨fun fr σ e fr' σ' h=>quc gl  fr σ e fr' σ' h,(List.forall_mem_nil _)⟩)) ?_
 intro args x h
 unfold qrj at h
 split at h
 ·exact (congrArg Tr.run (qGm _ _)).trans (qai h fun h=>by cases h)
 ·cases h
noncomputable def qkx:GamT:=ofL []
theorem qpP (gl:Gl):qaJ Tryz.prog gl (gam qkx):=qag
noncomputable def qjQ:Code:=qhg Tryz.f51 4
def qj4:LI:=⟨38,[2,3,5],fun e=>match e with | .ret=>[4] | .exit 0=>[] | _=>[],true⟩
noncomputable def qlt:LpsT:=fun r fr σ=>.fail
noncomputable def qcH (vs:List PV) (σ:Store):Option (PExit × List PV × Store):=lval (lstep tbT qkx qlt qjQ qj4) vs σ
noncomputable def qfN (i:Int) (s:List UInt8) (r:List (List PV)) (s2:List UInt8) (r2:List (List PV)):Tr LR:=.ite (iLt i (xLen r)) (.ite (qal i) (.ite (qb9 [.int .i64 0,.str [],.int .i64 0,.int .i64 0,.str []] r (nNat i)) (.ite (qal i) (.ite (qb9 [.int .i64 0,.str [],.int .i64 0,.int .i64 0,.str []] r2 (nNat i)) (.ite (bNot (bAnd (iEq (xInt r (nNat i) 0) (xInt r2 (nNat i) 0)) (bAnd (sEq (xStr r (nNat i) 1) (xStr r2 (nNat i) 1)) (bAnd (bAnd (iEq (xInt r (nNat i) 2) (xInt r2 (nNat i) 2)) (bAnd (iEq (xInt r (nNat i) 3) (xInt r2 (nNat i) 3)) (bAnd (sEq (xStr r (nNat i) 4) (xStr r2 (nNat i) 4)) true))) true)))) (.ret (.out .ret [.bool false] (Store.mk [[.str s,.sl r .non],[.str s2,.sl r2 .non]] [] [31,31]))) (.ret (.next [.ptr 0 0,.ptr 1 0,.int .i64 (iAdd .i64 i 1)] (Store.mk [[.str s,.sl r .non],[.str s2,.sl r2 .non]] [] [31,31])))) .fail) .fail) .fail) .fail) (.ret (.out (.exit 0) [] (Store.mk [[.str s,.sl r .non],[.str s2,.sl r2 .non]] [] [31,31])))
theorem qBl (i:Int) (s:List UInt8) (r:List (List PV)) (s2:List UInt8) (r2:List (List PV)):lstep tbT qkx qlt qjQ qj4 [.ptr 0 0,.ptr 1 0,.int .i64 i] ⟨[[.str s,.sl r .non],[.str s2,.sl r2 .non]],[],[31,31]⟩=qfN i s r s2 r2:=by kernel_rfl
theorem qnP (i:Int) (s:List UInt8) (r:List (List PV)) (s2:List UInt8) (r2:List (List PV)):qcH [.ptr 0 0,.ptr 1 0,.int .i64 i] ⟨[[.str s,.sl r .non],[.str s2,.sl r2 .non]],[],[31,31]⟩=lnext qcH (qfN i s r s2 r2).run:=by unfold qcH; rw [qb7,qBl]
noncomputable def qcm (i:Int) (s:List UInt8) (r:List (List PV)) (s2:List UInt8) (r2:List (List PV)):Option (PExit × List PV × Store):=qcH [.ptr 0 0,.ptr 1 0,.int .i64 i] ⟨[[.str s,.sl r .non],[.str s2,.sl r2 .non]],[],[31,31]⟩
noncomputable def qe4 (i:Int) (s:List UInt8) (r:List (List PV)) (s2:List UInt8) (r2:List (List PV)):Bool:=(qcc (gOut (qcm i s r s2 r2) 0))
noncomputable def qgC (i:Int) (s:List UInt8) (r:List (List PV)) (s2:List UInt8) (r2:List (List PV)):List UInt8:=(gStr (gAt (gObj (qcm i s r s2 r2) 0) 0))
noncomputable def qgV (i:Int) (s:List UInt8) (r:List (List PV)) (s2:List UInt8) (r2:List (List PV)):List (List PV):=(gRow (gAt (gObj (qcm i s r s2 r2) 0) 1))
noncomputable def qfs (i:Int) (s:List UInt8) (r:List (List PV)) (s2:List UInt8) (r2:List (List PV)):List UInt8:=(gStr (gAt (gObj (qcm i s r s2 r2) 1) 0))
noncomputable def qft (i:Int) (s:List UInt8) (r:List (List PV)) (s2:List UInt8) (r2:List (List PV)):List (List PV):=(gRow (gAt (gObj (qcm i s r s2 r2) 1) 1))
noncomputable def qhb (i:Int) (s:List UInt8) (r:List (List PV)) (s2:List UInt8) (r2:List (List PV)):Bool:=isW (qcm i s r s2 r2) (.ret,[.bool (qe4 i s r s2 r2)],⟨[[.str (qgC i s r s2 r2),.sl (qgV i s r s2 r2) .non],[.str (qfs i s r s2 r2),.sl (qft i s r s2 r2) .non]],[],[31,31]⟩)
noncomputable def qgD (i:Int) (s:List UInt8) (r:List (List PV)) (s2:List UInt8) (r2:List (List PV)):List UInt8:=(gStr (gAt (gObj (qcm i s r s2 r2) 0) 0))
noncomputable def qgF (i:Int) (s:List UInt8) (r:List (List PV)) (s2:List UInt8) (r2:List (List PV)):List (List PV):=(gRow (gAt (gObj (qcm i s r s2 r2) 0) 1))
noncomputable def qfq (i:Int) (s:List UInt8) (r:List (List PV)) (s2:List UInt8) (r2:List (List PV)):List UInt8:=(gStr (gAt (gObj (qcm i s r s2 r2) 1) 0))
noncomputable def qfv (i:Int) (s:List UInt8) (r:List (List PV)) (s2:List UInt8) (r2:List (List PV)):List (List PV):=(gRow (gAt (gObj (qcm i s r s2 r2) 1) 1))
noncomputable def qgx (i:Int) (s:List UInt8) (r:List (List PV)) (s2:List UInt8) (r2:List (List PV)):Bool:=isW (qcm i s r s2 r2) ((.exit 0),[],⟨[[.str (qgD i s r s2 r2),.sl (qgF i s r s2 r2) .non],[.str (qfq i s r s2 r2),.sl (qfv i s r s2 r2) .non]],[],[31,31]⟩)
noncomputable def qfu:List PV→Store→Tr (PExit × List PV × Store) | [.ptr 0 0,.ptr 1 0,.int .i64 i],⟨[[.str s,.sl r .non],[.str s2,.sl r2 .non]],[],[31,31]⟩=>.ite (qhb i s r s2 r2) (.ret (.ret,[.bool (qe4 i s r s2 r2)],⟨[[.str (qgC i s r s2 r2),.sl (qgV i s r s2 r2) .non],[.str (qfs i s r s2 r2),.sl (qft i s r s2 r2) .non]],[],[31,31]⟩)) (.ite (qgx i s r s2 r2) (.ret ((.exit 0),[],⟨[[.str (qgD i s r s2 r2),.sl (qgF i s r s2 r2) .non],[.str (qfq i s r s2 r2),.sl (qfv i s r s2 r2) .non]],[],[31,31]⟩)) (.fail)) | _,_=>.fail
theorem qyJ:∀ vs σ r,(qfu vs σ).run=some r→qcH vs σ=some r:=by
 intro vs σ r h
 unfold qfu at h
 split at h
 ·exact qai h fun h=>qai h fun h=>by cases h
 ·cases h
theorem qs3 (gl:Gl):∀ fr σ e fr' σ',(orc qj4 qfu fr σ).run=some (e,fr',σ')→LDoes Tryz.prog gl qjQ fr σ e fr' σ':=qdI qaj (qpP gl ) qah (L:=qlt) (qae (by kernel_rfl)) (by kernel_rfl) qyJ
noncomputable def qrG:LpsT:=fun r fr σ=>bif Nat.beq r 4 then orc qj4 qfu fr σ else .fail
noncomputable def qo8 (a:List UInt8) (a2:List (List PV)) (b:List UInt8) (b2:List (List PV)):Tr PV:=.ite (sNe a b) (.ret (.bool false)) (.ite (iNe (xLen a2) (xLen b2)) (.ret (.bool false)) (.ite (qhb 0 a a2 b b2) (.ret (.bool (qe4 0 a a2 b b2))) (.ite (qgx 0 a a2 b b2) (.ret (.bool true)) .fail)))
theorem qCP (a:List UInt8) (a2:List (List PV)) (b:List UInt8) (b2:List (List PV)):(tcall tbT qkx qrG Tryz.f51 [.agg [.str a,.sl a2 .non],.agg [.str b,.sl b2 .non]]).flat=qo8 a a2 b b2:=by kernel_rfl
noncomputable def qmX (a:List UInt8) (a2:List (List PV)) (b:List UInt8) (b2:List (List PV)):Option PV:=(qo8 a a2 b b2).run
noncomputable def qcY (a:List UInt8) (a2:List (List PV)) (b:List UInt8) (b2:List (List PV)):Bool:=(qcc (gVal (qmX a a2 b b2)))
noncomputable def qbX (a:List UInt8) (a2:List (List PV)) (b:List UInt8) (b2:List (List PV)):Bool:=isW (qmX a a2 b b2) (.bool (qcY a a2 b b2))
noncomputable def qsp:List PV→Tr PV | [.agg [.str a,.sl a2 .non],.agg [.str b,.sl b2 .non]]=>.ite (qbX a a2 b b2) (.ret (.bool (qcY a a2 b b2))) (.fail) | _=>.fail
theorem qyp (gl:Gl):SimP Tryz.prog gl 51 fun args=>(qsp args).run:=by
 refine SimP.of_flat (G:=qkx) (L:=qrG) qaj (qpP gl ) qah  Tryz.func51 rfl (by rfl) (by kernel_rfl) (qbt (L:=lps qrG) [(4,qjQ)] (by kernel_rfl) (List.forall_mem_cons.2 ⟨fun fr σ e fr' σ' h=>qs3 gl  fr σ e fr' σ' h,(List.forall_mem_nil _)⟩)) ?_
 intro args x h
 unfold qsp at h
 split at h
 ·exact (congrArg Tr.run (qCP _ _ _ _)).trans (qai h fun h=>by cases h)
 ·cases h
noncomputable def qE4:GamT:=ofL []
theorem qGZ (gl:Gl):qaJ Tryz.prog gl (gam qE4):=qag
noncomputable def qHr:LpsT:=fun r fr σ=>.fail
noncomputable def qAR (c:Int):Tr PV:=.ite (iEq c 1) (.ret (.str [61])) (.ite (iEq c 2) (.ret (.str [33,61])) (.ite (iEq c 3) (.ret (.str [60])) (.ite (iEq c 4) (.ret (.str [60,61])) (.ite (iEq c 5) (.ret (.str [62])) (.ite (iEq c 6) (.ret (.str [62,61])) (.ret (.str [])))))))
theorem qIo (c:Int):(tcall tbT qE4 qHr Tryz.f50 [.int .i64 c]).flat=qAR c:=by kernel_rfl
noncomputable def qDd (c:Int):Option PV:=(qAR c).run
noncomputable def qce (c:Int):List UInt8:=(gStr (gVal (qDd c)))
noncomputable def qcy (c:Int):Bool:=isW (qDd c) (.str (qce c))
noncomputable def qGL:List PV→Tr PV | [.int .i64 c]=>.ite (qcy c) (.ret (.str (qce c))) (.fail) | _=>.fail
theorem qGY (gl:Gl):SimP Tryz.prog gl 50 fun args=>(qGL args).run:=by
 refine SimP.of_flat (G:=qE4) (L:=qHr) qaj (qGZ gl ) qah  Tryz.func50 rfl (by rfl) (by kernel_rfl) (qae (by kernel_rfl)) ?_
 intro args x h
 unfold qGL at h
 split at h
 ·exact (congrArg Tr.run (qIo _)).trans (qai h fun h=>by cases h)
 ·cases h
noncomputable def qlL:GamT:=ofL [(13,.pure qpi),(15,.pure qrj),(50,.pure qGL),(51,.pure qsp)]
theorem qst (gl:Gl):qaJ Tryz.prog gl (gam qlL):=(qad (qok gl) (qad (qs8 gl) (qad (qGY gl) (qad (qyp gl) qag))))
noncomputable def qp5:LpsT:=fun r fr σ=>.fail
noncomputable def qjG (v:Int) (v2:List UInt8) (v3:List (List PV)) (v4:Int) (v5:Int) (v6:List UInt8) (v7:Int) (v8:Int) (v9:List UInt8) (v10:Int) (v11:List UInt8) (v12:Int) (v13:Int) (v14:List UInt8):Tr PV:=.ite (iEq v 1) (.ite (iEq v4 0) (.ite (bAnd (iEq v5 0) (bAnd (sEq v6 []) (bAnd (bAnd (iEq v7 0) (bAnd (iEq v8 0) (bAnd (sEq v9 []) true))) true))) (.ite (bAnd (iEq v10 0) (bAnd (sEq v11 []) (bAnd (bAnd (iEq v12 0) (bAnd (iEq v13 0) (bAnd (sEq v14 []) true))) true))) (.ite (qei v2 (qac v3)) (.ite (iEq (qdf v2 (qac v3)) 0) (.ite (iEq v 2) (.ite (qaG [110,111,116,32] (qdb v2 (qac v3))) (.ret (.tup [.str (sApp [110,111,116,32] (qdb v2 (qac v3))),.int .i64 (qdf v2 (qac v3))])) .fail) (.ret (.tup [.str (qdb v2 (qac v3)),.int .i64 (qdf v2 (qac v3))]))) (.ret (.tup [.str (qdb v2 (qac v3)),.int .i64 (qdf v2 (qac v3))]))) .fail) (.ite (iEq v 3) (.ite (qcy v4) (.ite (sNe (qce v4) []) (.ite (qbX v2 (qac v3) [] []) (.ite (qcY v2 (qac v3) [] []) (.ite (qbu v5 v6 v7 v8 v9) (.ite (qbu v10 v11 v12 v13 v14) (.ite (iEq (qbU v5 v6 v7 v8 v9) 0) (.ite (iEq (qbU v10 v11 v12 v13 v14) 0) (.ite (qaG (qax v5 v6 v7 v8 v9) [32]) (.ite (qcy v4) (.ite (qaG (sApp (qax v5 v6 v7 v8 v9) [32]) (qce v4)) (.ite (qaG (sApp (sApp (qax v5 v6 v7 v8 v9) [32]) (qce v4)) [32]) (.ite (qaG (sApp (sApp (sApp (qax v5 v6 v7 v8 v9) [32]) (qce v4)) [32]) (qax v10 v11 v12 v13 v14)) (.ret (.tup [.str (sApp (sApp (sApp (sApp (qax v5 v6 v7 v8 v9) [32]) (qce v4)) [32]) (qax v10 v11 v12 v13 v14)),.int .i64 0])) .fail) .fail) .fail) .fail) .fail) (.ret (.tup [.str [],.int .i64 140]))) (.ret (.tup [.str [],.int .i64 140]))) .fail) .fail) (.ret (.tup [.str [],.int .i64 140]))) .fail) (.ret (.tup [.str [],.int .i64 140]))) .fail) (.ret (.tup [.str [],.int .i64 140])))) (.ite (iEq v 3) (.ite (qcy v4) (.ite (sNe (qce v4) [])
 (.ite (qbX v2 (qac v3) [] []) (.ite (qcY v2 (qac v3) [] []) (.ite (qbu v5 v6 v7 v8 v9) (.ite (qbu v10 v11 v12 v13 v14) (.ite (iEq (qbU v5 v6 v7 v8 v9) 0) (.ite (iEq (qbU v10 v11 v12 v13 v14) 0) (.ite (qaG (qax v5 v6 v7 v8 v9) [32]) (.ite (qcy v4) (.ite (qaG (sApp (qax v5 v6 v7 v8 v9) [32]) (qce v4)) (.ite (qaG (sApp (sApp (qax v5 v6 v7 v8 v9) [32]) (qce v4)) [32]) (.ite (qaG (sApp (sApp (sApp (qax v5 v6 v7 v8 v9) [32]) (qce v4)) [32]) (qax v10 v11 v12 v13 v14)) (.ret (.tup [.str (sApp (sApp (sApp (sApp (qax v5 v6 v7 v8 v9) [32]) (qce v4)) [32]) (qax v10 v11 v12 v13 v14)),.int .i64 0])) .fail) .fail) .fail) .fail) .fail) (.ret (.tup [.str [],.int .i64 140]))) (.ret (.tup [.str [],.int .i64 140]))) .fail) .fail) (.ret (.tup [.str [],.int .i64 140]))) .fail) (.ret (.tup [.str [],.int .i64 140]))) .fail) (.ret (.tup [.str [],.int .i64 140])))) (.ite (iEq v 3) (.ite (qcy v4) (.ite (sNe (qce v4) []) (.ite (qbX v2 (qac v3) [] []) (.ite (qcY v2 (qac v3) [] []) (.ite (qbu v5 v6 v7 v8 v9) (.ite (qbu v10 v11 v12 v13 v14) (.ite (iEq (qbU v5 v6 v7 v8 v9) 0) (.ite (iEq (qbU v10 v11 v12 v13 v14) 0) (.ite (qaG (qax v5 v6 v7 v8 v9) [32]) (.ite (qcy v4) (.ite (qaG (sApp (qax v5 v6 v7 v8 v9) [32]) (qce v4)) (.ite (qaG (sApp (sApp (qax v5 v6 v7 v8 v9) [32]) (qce v4)) [32]) (.ite (qaG (sApp (sApp (sApp (qax v5 v6 v7 v8 v9) [32]) (qce v4)) [32]) (qax v10 v11 v12 v13 v14)) (.ret (.tup [.str (sApp (sApp (sApp (sApp (qax v5 v6 v7 v8 v9) [32]) (qce v4)) [32]) (qax v10 v11 v12 v13 v14)),.int .i64 0])) .fail) .fail) .fail) .fail) .fail) (.ret (.tup [.str [],.int .i64 140]))) (.ret (.tup [.str [],.int .i64 140]))) .fail) .fail) (.ret (.tup [.str [],.int .i64 140]))) .fail) (.ret (.tup [.str [],.int .i64 140]))) .fail) (.ret (.tup [.str [],.int .i64 140])))) (.ite (iEq v 2) (.ite (iEq v4 0)
 (.ite (bAnd (iEq v5 0) (bAnd (sEq v6 []) (bAnd (bAnd (iEq v7 0) (bAnd (iEq v8 0) (bAnd (sEq v9 []) true))) true))) (.ite (bAnd (iEq v10 0) (bAnd (sEq v11 []) (bAnd (bAnd (iEq v12 0) (bAnd (iEq v13 0) (bAnd (sEq v14 []) true))) true))) (.ite (qei v2 (qac v3)) (.ite (iEq (qdf v2 (qac v3)) 0) (.ite (iEq v 2) (.ite (qaG [110,111,116,32] (qdb v2 (qac v3))) (.ret (.tup [.str (sApp [110,111,116,32] (qdb v2 (qac v3))),.int .i64 (qdf v2 (qac v3))])) .fail) (.ret (.tup [.str (qdb v2 (qac v3)),.int .i64 (qdf v2 (qac v3))]))) (.ret (.tup [.str (qdb v2 (qac v3)),.int .i64 (qdf v2 (qac v3))]))) .fail) (.ite (iEq v 3) (.ite (qcy v4) (.ite (sNe (qce v4) []) (.ite (qbX v2 (qac v3) [] []) (.ite (qcY v2 (qac v3) [] []) (.ite (qbu v5 v6 v7 v8 v9) (.ite (qbu v10 v11 v12 v13 v14) (.ite (iEq (qbU v5 v6 v7 v8 v9) 0) (.ite (iEq (qbU v10 v11 v12 v13 v14) 0) (.ite (qaG (qax v5 v6 v7 v8 v9) [32]) (.ite (qcy v4) (.ite (qaG (sApp (qax v5 v6 v7 v8 v9) [32]) (qce v4)) (.ite (qaG (sApp (sApp (qax v5 v6 v7 v8 v9) [32]) (qce v4)) [32]) (.ite (qaG (sApp (sApp (sApp (qax v5 v6 v7 v8 v9) [32]) (qce v4)) [32]) (qax v10 v11 v12 v13 v14)) (.ret (.tup [.str (sApp (sApp (sApp (sApp (qax v5 v6 v7 v8 v9) [32]) (qce v4)) [32]) (qax v10 v11 v12 v13 v14)),.int .i64 0])) .fail) .fail) .fail) .fail) .fail) (.ret (.tup [.str [],.int .i64 140]))) (.ret (.tup [.str [],.int .i64 140]))) .fail) .fail) (.ret (.tup [.str [],.int .i64 140]))) .fail) (.ret (.tup [.str [],.int .i64 140]))) .fail) (.ret (.tup [.str [],.int .i64 140])))) (.ite (iEq v 3) (.ite (qcy v4) (.ite (sNe (qce v4) []) (.ite (qbX v2 (qac v3) [] []) (.ite (qcY v2 (qac v3) [] []) (.ite (qbu v5 v6 v7 v8 v9) (.ite (qbu v10 v11 v12 v13 v14) (.ite (iEq (qbU v5 v6 v7 v8 v9) 0) (.ite (iEq (qbU v10 v11 v12 v13 v14) 0) (.ite (qaG (qax v5 v6 v7 v8 v9) [32])
 (.ite (qcy v4) (.ite (qaG (sApp (qax v5 v6 v7 v8 v9) [32]) (qce v4)) (.ite (qaG (sApp (sApp (qax v5 v6 v7 v8 v9) [32]) (qce v4)) [32]) (.ite (qaG (sApp (sApp (sApp (qax v5 v6 v7 v8 v9) [32]) (qce v4)) [32]) (qax v10 v11 v12 v13 v14)) (.ret (.tup [.str (sApp (sApp (sApp (sApp (qax v5 v6 v7 v8 v9) [32]) (qce v4)) [32]) (qax v10 v11 v12 v13 v14)),.int .i64 0])) .fail) .fail) .fail) .fail) .fail) (.ret (.tup [.str [],.int .i64 140]))) (.ret (.tup [.str [],.int .i64 140]))) .fail) .fail) (.ret (.tup [.str [],.int .i64 140]))) .fail) (.ret (.tup [.str [],.int .i64 140]))) .fail) (.ret (.tup [.str [],.int .i64 140])))) (.ite (iEq v 3) (.ite (qcy v4) (.ite (sNe (qce v4) []) (.ite (qbX v2 (qac v3) [] []) (.ite (qcY v2 (qac v3) [] []) (.ite (qbu v5 v6 v7 v8 v9) (.ite (qbu v10 v11 v12 v13 v14) (.ite (iEq (qbU v5 v6 v7 v8 v9) 0) (.ite (iEq (qbU v10 v11 v12 v13 v14) 0) (.ite (qaG (qax v5 v6 v7 v8 v9) [32]) (.ite (qcy v4) (.ite (qaG (sApp (qax v5 v6 v7 v8 v9) [32]) (qce v4)) (.ite (qaG (sApp (sApp (qax v5 v6 v7 v8 v9) [32]) (qce v4)) [32]) (.ite (qaG (sApp (sApp (sApp (qax v5 v6 v7 v8 v9) [32]) (qce v4)) [32]) (qax v10 v11 v12 v13 v14)) (.ret (.tup [.str (sApp (sApp (sApp (sApp (qax v5 v6 v7 v8 v9) [32]) (qce v4)) [32]) (qax v10 v11 v12 v13 v14)),.int .i64 0])) .fail) .fail) .fail) .fail) .fail) (.ret (.tup [.str [],.int .i64 140]))) (.ret (.tup [.str [],.int .i64 140]))) .fail) .fail) (.ret (.tup [.str [],.int .i64 140]))) .fail) (.ret (.tup [.str [],.int .i64 140]))) .fail) (.ret (.tup [.str [],.int .i64 140])))) (.ite (iEq v 3) (.ite (qcy v4) (.ite (sNe (qce v4) []) (.ite (qbX v2 (qac v3) [] []) (.ite (qcY v2 (qac v3) [] []) (.ite (qbu v5 v6 v7 v8 v9) (.ite (qbu v10 v11 v12 v13 v14) (.ite (iEq (qbU v5 v6 v7 v8 v9) 0) (.ite (iEq (qbU v10 v11 v12 v13 v14) 0) (.ite (qaG (qax v5 v6 v7 v8 v9) [32])
 (.ite (qcy v4) (.ite (qaG (sApp (qax v5 v6 v7 v8 v9) [32]) (qce v4)) (.ite (qaG (sApp (sApp (qax v5 v6 v7 v8 v9) [32]) (qce v4)) [32]) (.ite (qaG (sApp (sApp (sApp (qax v5 v6 v7 v8 v9) [32]) (qce v4)) [32]) (qax v10 v11 v12 v13 v14)) (.ret (.tup [.str (sApp (sApp (sApp (sApp (qax v5 v6 v7 v8 v9) [32]) (qce v4)) [32]) (qax v10 v11 v12 v13 v14)),.int .i64 0])) .fail) .fail) .fail) .fail) .fail) (.ret (.tup [.str [],.int .i64 140]))) (.ret (.tup [.str [],.int .i64 140]))) .fail) .fail) (.ret (.tup [.str [],.int .i64 140]))) .fail) (.ret (.tup [.str [],.int .i64 140]))) .fail) (.ret (.tup [.str [],.int .i64 140]))))
theorem qyT (v:Int) (v2:List UInt8) (v3:List (List PV)) (v4:Int) (v5:Int) (v6:List UInt8) (v7:Int) (v8:Int) (v9:List UInt8) (v10:Int) (v11:List UInt8) (v12:Int) (v13:Int) (v14:List UInt8):(tcall tbT qlL qp5 Tryz.f17 [.agg [.int .i64 v,.str v2,.sl v3 .non,.int .i64 v4,.int .i64 v5,.str v6,.int .i64 v7,.int .i64 v8,.str v9,.int .i64 v10,.str v11,.int .i64 v12,.int .i64 v13,.str v14]]).flat=qjG v v2 v3 v4 v5 v6 v7 v8 v9 v10 v11 v12 v13 v14:=by kernel_rfl
noncomputable def qf3 (v:Int) (v2:List UInt8) (v3:List (List PV)) (v4:Int) (v5:Int) (v6:List UInt8) (v7:Int) (v8:Int) (v9:List UInt8) (v10:Int) (v11:List UInt8) (v12:Int) (v13:Int) (v14:List UInt8):Option PV:=(qjG v v2 v3 v4 v5 v6 v7 v8 v9 v10 v11 v12 v13 v14).run
noncomputable def qd5 (v:Int) (v2:List UInt8) (v3:List (List PV)) (v4:Int) (v5:Int) (v6:List UInt8) (v7:Int) (v8:Int) (v9:List UInt8) (v10:Int) (v11:List UInt8) (v12:Int) (v13:Int) (v14:List UInt8):List UInt8:=(gStr (gAt (gCs (gVal (qf3 v v2 v3 v4 v5 v6 v7 v8 v9 v10 v11 v12 v13 v14))) 0))
noncomputable def qdQ (v:Int) (v2:List UInt8) (v3:List (List PV)) (v4:Int) (v5:Int) (v6:List UInt8) (v7:Int) (v8:Int) (v9:List UInt8) (v10:Int) (v11:List UInt8) (v12:Int) (v13:Int) (v14:List UInt8):Int:=(gInt (gAt (gCs (gVal (qf3 v v2 v3 v4 v5 v6 v7 v8 v9 v10 v11 v12 v13 v14))) 1))
noncomputable def qdn (v:Int) (v2:List UInt8) (v3:List (List PV)) (v4:Int) (v5:Int) (v6:List UInt8) (v7:Int) (v8:Int) (v9:List UInt8) (v10:Int) (v11:List UInt8) (v12:Int) (v13:Int) (v14:List UInt8):Bool:=isW (qf3 v v2 v3 v4 v5 v6 v7 v8 v9 v10 v11 v12 v13 v14) (.tup [.str (qd5 v v2 v3 v4 v5 v6 v7 v8 v9 v10 v11 v12 v13 v14),.int .i64 (qdQ v v2 v3 v4 v5 v6 v7 v8 v9 v10 v11 v12 v13 v14)])
noncomputable def qlb:List PV→Tr PV | [.agg [.int .i64 v,.str v2,.sl v3 .non,.int .i64 v4,.int .i64 v5,.str v6,.int .i64 v7,.int .i64 v8,.str v9,.int .i64 v10,.str v11,.int .i64 v12,.int .i64 v13,.str v14]]=>.ite (qdn v v2 v3 v4 v5 v6 v7 v8 v9 v10 v11 v12 v13 v14) (.ret (.tup [.str (qd5 v v2 v3 v4 v5 v6 v7 v8 v9 v10 v11 v12 v13 v14),.int .i64 (qdQ v v2 v3 v4 v5 v6 v7 v8 v9 v10 v11 v12 v13 v14)])) (.fail) | _=>.fail
theorem qtl (gl:Gl):SimP Tryz.prog gl 17 fun args=>(qlb args).run:=by
 refine SimP.of_flat (G:=qlL) (L:=qp5) qaj (qst gl ) qah  Tryz.func17 rfl (by rfl) (by kernel_rfl) (qae (by kernel_rfl)) ?_
 intro args x h
 unfold qlb at h
 split at h
 ·exact (congrArg Tr.run (qyT _ _ _ _ _ _ _ _ _ _ _ _ _ _)).trans (qai h fun h=>by cases h)
 ·cases h
end Go.Pv
set_option maxHeartbeats 4000000
set_option maxRecDepth 200000
set_option linter.unusedSimpArgs false
set_option linter.unusedVariables false
namespace Go.Pv
open Go Go.Proofs
noncomputable def G_tx:GamT:=ofL []
theorem qHB (gl:Gl):qaJ Tryz.prog gl (gam G_tx):=qag
noncomputable def L_tx:LpsT:=fun r fr σ=>.fail
noncomputable def qFk (s:List UInt8):Tr PV:=.ite (iLt 300 (sLen s)) (.ite (qaw true (qal 300) 0 (nNat 300) (nLen s)) (.ret (.str (sSub s 0 (nNat 300)))) .fail) (.ret (.str s))
theorem tx_T (s:List UInt8):(tcall tbT G_tx L_tx Tryz.f11 [.str s]).flat=qFk s:=by kernel_rfl
noncomputable def tx_W (s:List UInt8):Option PV:=(qFk s).run
noncomputable def tx_s (s:List UInt8):List UInt8:=(gStr (gVal (tx_W s)))
noncomputable def qo7 (s:List UInt8):Bool:=isW (tx_W s) (.str (tx_s s))
noncomputable def F_tx:List PV→Tr PV | [.str s]=>.ite (qo7 s) (.ret (.str (tx_s s))) (.fail) | _=>.fail
theorem qzw (gl:Gl):SimP Tryz.prog gl 11 fun args=>(F_tx args).run:=by
 refine SimP.of_flat (G:=G_tx) (L:=L_tx) qaj (qHB gl ) qah  Tryz.func11 rfl (by rfl) (by kernel_rfl) (qae (by kernel_rfl)) ?_
 intro args x h
 unfold F_tx at h
 split at h
 ·exact (congrArg Tr.run (tx_T _)).trans (qai h fun h=>by cases h)
 ·cases h
noncomputable def qvu:GamT:=ofL [(11,.pure F_tx)]
theorem qAE (gl:Gl):qaJ Tryz.prog gl (gam qvu):=(qad (qzw gl) qag)
noncomputable def qBA:LpsT:=fun r fr σ=>.fail
noncomputable def qqE (t:Int) (t2:List UInt8) (t3:Int) (t4:Int) (t5:List UInt8):Tr PV:=.ite (qo7 t2) (.ite (qo7 t5) (.ret (.agg [.int .i64 t,.str (tx_s t2),.int .i64 t3,.int .i64 t4,.str (tx_s t5)])) .fail) .fail
theorem qGj (t:Int) (t2:List UInt8) (t3:Int) (t4:Int) (t5:List UInt8):(tcall tbT qvu qBA Tryz.f9 [.agg [.int .i64 t,.str t2,.int .i64 t3,.int .i64 t4,.str t5]]).flat=qqE t t2 t3 t4 t5:=by kernel_rfl
noncomputable def qhv (t:Int) (t2:List UInt8) (t3:Int) (t4:Int) (t5:List UInt8):Option PV:=(qqE t t2 t3 t4 t5).run
noncomputable def qb6 (t:Int) (t2:List UInt8) (t3:Int) (t4:Int) (t5:List UInt8):Int:=(gInt (gAt (gCs (gVal (qhv t t2 t3 t4 t5))) 0))
noncomputable def qb4 (t:Int) (t2:List UInt8) (t3:Int) (t4:Int) (t5:List UInt8):List UInt8:=(gStr (gAt (gCs (gVal (qhv t t2 t3 t4 t5))) 1))
noncomputable def qbI (t:Int) (t2:List UInt8) (t3:Int) (t4:Int) (t5:List UInt8):Int:=(gInt (gAt (gCs (gVal (qhv t t2 t3 t4 t5))) 2))
noncomputable def qbJ (t:Int) (t2:List UInt8) (t3:Int) (t4:Int) (t5:List UInt8):Int:=(gInt (gAt (gCs (gVal (qhv t t2 t3 t4 t5))) 3))
noncomputable def qbG (t:Int) (t2:List UInt8) (t3:Int) (t4:Int) (t5:List UInt8):List UInt8:=(gStr (gAt (gCs (gVal (qhv t t2 t3 t4 t5))) 4))
noncomputable def qco (t:Int) (t2:List UInt8) (t3:Int) (t4:Int) (t5:List UInt8):Bool:=isW (qhv t t2 t3 t4 t5) (.agg [.int .i64 (qb6 t t2 t3 t4 t5),.str (qb4 t t2 t3 t4 t5),.int .i64 (qbI t t2 t3 t4 t5),.int .i64 (qbJ t t2 t3 t4 t5),.str (qbG t t2 t3 t4 t5)])
noncomputable def qno:List PV→Tr PV | [.agg [.int .i64 t,.str t2,.int .i64 t3,.int .i64 t4,.str t5]]=>.ite (qco t t2 t3 t4 t5) (.ret (.agg [.int .i64 (qb6 t t2 t3 t4 t5),.str (qb4 t t2 t3 t4 t5),.int .i64 (qbI t t2 t3 t4 t5),.int .i64 (qbJ t t2 t3 t4 t5),.str (qbG t t2 t3 t4 t5)])) (.fail) | _=>.fail
theorem qos (gl:Gl):SimP Tryz.prog gl 9 fun args=>(qno args).run:=by
 refine SimP.of_flat (G:=qvu) (L:=qBA) qaj (qAE gl ) qah  Tryz.func9 rfl (by rfl) (by kernel_rfl) (qae (by kernel_rfl)) ?_
 intro args x h
 unfold qno at h
 split at h
 ·exact (congrArg Tr.run (qGj _ _ _ _ _)).trans (qai h fun h=>by cases h)
 ·cases h
noncomputable def qnr:GamT:=ofL [(9,.pure qno),(11,.pure F_tx),(qiV,.hint [(8,1,5,27)])]
theorem qts (gl:Gl):qaJ Tryz.prog gl (gam qnr):=(qad (qos gl) (qad (qzw gl) (qcn (K:=.hint [(8,1,5,27)]) trivial qag)))
noncomputable def qmN:Code:=qhg Tryz.f42 3
def qm1:LI:=⟨32,[1,2,3,4],fun e=>match e with | .exit 0=>[2,3] | _=>[],true⟩
noncomputable def qnz:LpsT:=fun r fr σ=>.fail
noncomputable def qeb (vs:List PV) (σ:Store):Option (PExit × List PV × Store):=lval (lstep tbT qnr qnz qmN qm1) vs σ
noncomputable def qhi (i:Int) (s:List UInt8) (r:List (List PV)) (s2:List UInt8) (r2:List (List PV)) (s3:List UInt8) (r3:List (List PV)) (k:Nat):Tr LR:=.ite (iLt i (xLen r)) (.ite (iLt i 12) (.ite (qal i) (.ite (qb9 [.int .i64 0,.str [],.int .i64 0,.int .i64 0,.str []] r (nNat i)) (.ite (qco (xInt r (nNat i) 0) (xStr r (nNat i) 1) (xInt r (nNat i) 2) (xInt r (nNat i) 3) (xStr r (nNat i) 4)) (.ite (qaF r3 [[.int .i64 (qb6 (xInt r (nNat i) 0) (xStr r (nNat i) 1) (xInt r (nNat i) 2) (xInt r (nNat i) 3) (xStr r (nNat i) 4)),.str (qb4 (xInt r (nNat i) 0) (xStr r (nNat i) 1) (xInt r (nNat i) 2) (xInt r (nNat i) 3) (xStr r (nNat i) 4)),.int .i64 (qbI (xInt r (nNat i) 0) (xStr r (nNat i) 1) (xInt r (nNat i) 2) (xInt r (nNat i) 3) (xStr r (nNat i) 4)),.int .i64 (qbJ (xInt r (nNat i) 0) (xStr r (nNat i) 1) (xInt r (nNat i) 2) (xInt r (nNat i) 3) (xStr r (nNat i) 4)),.str (qbG (xInt r (nNat i) 0) (xStr r (nNat i) 1) (xInt r (nNat i) 2) (xInt r (nNat i) 3) (xStr r (nNat i) 4))]] 56) (.ite (qaB [[.int .i64 (qb6 (xInt r (nNat i) 0) (xStr r (nNat i) 1) (xInt r (nNat i) 2) (xInt r (nNat i) 3) (xStr r (nNat i) 4)),.str (qb4 (xInt r (nNat i) 0) (xStr r (nNat i) 1) (xInt r (nNat i) 2) (xInt r (nNat i) 3) (xStr r (nNat i) 4)),.int .i64 (qbI (xInt r (nNat i) 0) (xStr r (nNat i) 1) (xInt r (nNat i) 2) (xInt r (nNat i) 3) (xStr r (nNat i) 4)),.int .i64 (qbJ (xInt r (nNat i) 0) (xStr r (nNat i) 1) (xInt r (nNat i) 2) (xInt r (nNat i) 3) (xStr r (nNat i) 4)),.str (qbG (xInt r (nNat i) 0) (xStr r (nNat i) 1) (xInt r (nNat i) 2) (xInt r (nNat i) 3) (xStr r (nNat i) 4))]] 5) (.ite (qav r3 5) (.ite (nEq k (nXs r3)) (.ret (.next [.ptr 0 0,.ptr 1 0,.ptr 2 0,.int .i64 (iAdd .i64 i 1)] (Store.mk [[.str s,.sl r .non],[.str s2,.sl r2 .full],[.str s3,.sl (xApp r3 [[.int .i64 (qb6 (xInt r (nNat i) 0) (xStr r (nNat i) 1) (xInt r (nNat i) 2) (xInt r (nNat i) 3) (xStr r (nNat i) 4)),
 .str (qb4 (xInt r (nNat i) 0) (xStr r (nNat i) 1) (xInt r (nNat i) 2) (xInt r (nNat i) 3) (xStr r (nNat i) 4)),.int .i64 (qbI (xInt r (nNat i) 0) (xStr r (nNat i) 1) (xInt r (nNat i) 2) (xInt r (nNat i) 3) (xStr r (nNat i) 4)),.int .i64 (qbJ (xInt r (nNat i) 0) (xStr r (nNat i) 1) (xInt r (nNat i) 2) (xInt r (nNat i) 3) (xStr r (nNat i) 4)),.str (qbG (xInt r (nNat i) 0) (xStr r (nNat i) 1) (xInt r (nNat i) 2) (xInt r (nNat i) 3) (xStr r (nNat i) 4))]]) (.tok 0)]] [(nXs (xApp r3 [[.int .i64 (qb6 (xInt r (nNat i) 0) (xStr r (nNat i) 1) (xInt r (nNat i) 2) (xInt r (nNat i) 3) (xStr r (nNat i) 4)),.str (qb4 (xInt r (nNat i) 0) (xStr r (nNat i) 1) (xInt r (nNat i) 2) (xInt r (nNat i) 3) (xStr r (nNat i) 4)),.int .i64 (qbI (xInt r (nNat i) 0) (xStr r (nNat i) 1) (xInt r (nNat i) 2) (xInt r (nNat i) 3) (xStr r (nNat i) 4)),.int .i64 (qbJ (xInt r (nNat i) 0) (xStr r (nNat i) 1) (xInt r (nNat i) 2) (xInt r (nNat i) 3) (xStr r (nNat i) 4)),.str (qbG (xInt r (nNat i) 0) (xStr r (nNat i) 1) (xInt r (nNat i) 2) (xInt r (nNat i) 3) (xStr r (nNat i) 4))]]),5,27)] [31,31,31]))) .fail) .fail) .fail) .fail) .fail) .fail) .fail) (.ret (.out (.exit 0) [.ptr 1 0,.ptr 2 0] (Store.mk [[.str s,.sl r .non],[.str s2,.sl r2 .full],[.str s3,.sl r3 (.tok 0)]] [(k,5,27)] [31,31,31])))) (.ret (.out (.exit 0) [.ptr 1 0,.ptr 2 0] (Store.mk [[.str s,.sl r .non],[.str s2,.sl r2 .full],[.str s3,.sl r3 (.tok 0)]] [(k,5,27)] [31,31,31])))
theorem qCV (i:Int) (s:List UInt8) (r:List (List PV)) (s2:List UInt8) (r2:List (List PV)) (s3:List UInt8) (r3:List (List PV)) (k:Nat):lstep tbT qnr qnz qmN qm1 [.ptr 0 0,.ptr 1 0,.ptr 2 0,.int .i64 i] ⟨[[.str s,.sl r .non],[.str s2,.sl r2 .full],[.str s3,.sl r3 (.tok 0)]],[(k,5,27)],[31,31,31]⟩=qhi i s r s2 r2 s3 r3 k:=by kernel_rfl
theorem qwf (i:Int) (s:List UInt8) (r:List (List PV)) (s2:List UInt8) (r2:List (List PV)) (s3:List UInt8) (r3:List (List PV)) (k:Nat):qeb [.ptr 0 0,.ptr 1 0,.ptr 2 0,.int .i64 i] ⟨[[.str s,.sl r .non],[.str s2,.sl r2 .full],[.str s3,.sl r3 (.tok 0)]],[(k,5,27)],[31,31,31]⟩=lnext qeb (qhi i s r s2 r2 s3 r3 k).run:=by unfold qeb; rw [qb7,qCV]
noncomputable def qew (i:Int) (s:List UInt8) (r:List (List PV)) (s2:List UInt8) (r2:List (List PV)) (s3:List UInt8) (r3:List (List PV)) (k:Nat):Option (PExit × List PV × Store):=qeb [.ptr 0 0,.ptr 1 0,.ptr 2 0,.int .i64 i] ⟨[[.str s,.sl r .non],[.str s2,.sl r2 .full],[.str s3,.sl r3 (.tok 0)]],[(k,5,27)],[31,31,31]⟩
noncomputable def qse (i:Int) (s:List UInt8) (r:List (List PV)) (s2:List UInt8) (r2:List (List PV)) (s3:List UInt8) (r3:List (List PV)) (k:Nat):List UInt8:=(gStr (gAt (gObj (qew i s r s2 r2 s3 r3 k) 0) 0))
noncomputable def qqv (i:Int) (s:List UInt8) (r:List (List PV)) (s2:List UInt8) (r2:List (List PV)) (s3:List UInt8) (r3:List (List PV)) (k:Nat):List (List PV):=(gRow (gAt (gObj (qew i s r s2 r2 s3 r3 k) 0) 1))
noncomputable def qoh (i:Int) (s:List UInt8) (r:List (List PV)) (s2:List UInt8) (r2:List (List PV)) (s3:List UInt8) (r3:List (List PV)) (k:Nat):List UInt8:=(gStr (gAt (gObj (qew i s r s2 r2 s3 r3 k) 1) 0))
noncomputable def qoY (i:Int) (s:List UInt8) (r:List (List PV)) (s2:List UInt8) (r2:List (List PV)) (s3:List UInt8) (r3:List (List PV)) (k:Nat):List (List PV):=(gRow (gAt (gObj (qew i s r s2 r2 s3 r3 k) 1) 1))
noncomputable def qky (i:Int) (s:List UInt8) (r:List (List PV)) (s2:List UInt8) (r2:List (List PV)) (s3:List UInt8) (r3:List (List PV)) (k:Nat):List UInt8:=(gStr (gAt (gObj (qew i s r s2 r2 s3 r3 k) 2) 0))
noncomputable def qkT (i:Int) (s:List UInt8) (r:List (List PV)) (s2:List UInt8) (r2:List (List PV)) (s3:List UInt8) (r3:List (List PV)) (k:Nat):List (List PV):=(gRow (gAt (gObj (qew i s r s2 r2 s3 r3 k) 2) 1))
noncomputable def qrh (i:Int) (s:List UInt8) (r:List (List PV)) (s2:List UInt8) (r2:List (List PV)) (s3:List UInt8) (r3:List (List PV)) (k:Nat):Nat:=(gTok (qew i s r s2 r2 s3 r3 k) 0)
noncomputable def qlM (i:Int) (s:List UInt8) (r:List (List PV)) (s2:List UInt8) (r2:List (List PV)) (s3:List UInt8) (r3:List (List PV)) (k:Nat):Bool:=isW (qew i s r s2 r2 s3 r3 k) ((.exit 0),[.ptr 1 0,.ptr 2 0],⟨[[.str (qse i s r s2 r2 s3 r3 k),.sl (qqv i s r s2 r2 s3 r3 k) .non],[.str (qoh i s r s2 r2 s3 r3 k),.sl (qoY i s r s2 r2 s3 r3 k) .full],[.str (qky i s r s2 r2 s3 r3 k),.sl (qkT i s r s2 r2 s3 r3 k) (.tok 0)]],[((qrh i s r s2 r2 s3 r3 k),5,27)],[31,31,31]⟩)
noncomputable def qg6:List PV→Store→Tr (PExit × List PV × Store) | [.ptr 0 0,.ptr 1 0,.ptr 2 0,.int .i64 i],⟨[[.str s,.sl r .non],[.str s2,.sl r2 .full],[.str s3,.sl r3 (.tok 0)]],[(k,5,27)],[31,31,31]⟩=>.ite (qlM i s r s2 r2 s3 r3 k) (.ret ((.exit 0),[.ptr 1 0,.ptr 2 0],⟨[[.str (qse i s r s2 r2 s3 r3 k),.sl (qqv i s r s2 r2 s3 r3 k) .non],[.str (qoh i s r s2 r2 s3 r3 k),.sl (qoY i s r s2 r2 s3 r3 k) .full],[.str (qky i s r s2 r2 s3 r3 k),.sl (qkT i s r s2 r2 s3 r3 k) (.tok 0)]],[((qrh i s r s2 r2 s3 r3 k),5,27)],[31,31,31]⟩)) (.fail) | _,_=>.fail
theorem qAo:∀ vs σ r,(qg6 vs σ).run=some r→qeb vs σ=some r:=by
 intro vs σ r h
 unfold qg6 at h
 split at h
 ·exact qai h fun h=>by cases h
 ·cases h
theorem qvp (gl:Gl):∀ fr σ e fr' σ',(orc qm1 qg6 fr σ).run=some (e,fr',σ')→LDoes Tryz.prog gl qmN fr σ e fr' σ':=qdI qaj (qts gl ) qah (L:=qnz) (qae (by kernel_rfl)) (by kernel_rfl) qAo
noncomputable def qvy:LpsT:=fun r fr σ=>bif Nat.beq r 3 then orc qm1 qg6 fr σ else .fail
noncomputable def qqP (a:List UInt8) (a2:List (List PV)):Tr PV:=.ite (qo7 a) (.ite (qlM 0 a a2 [] [] (tx_s a) [] 0) (.ret (.agg [.str (qky 0 a a2 [] [] (tx_s a) [] 0),.sl (qcM (qkT 0 a a2 [] [] (tx_s a) [] 0)) .non])) .fail) .fail
theorem qGy (a:List UInt8) (a2:List (List PV)):(tcall tbT qnr qvy Tryz.f42 [.agg [.str a,.sl a2 .non]]).flat=qqP a a2:=by kernel_rfl
noncomputable def qoZ (a:List UInt8) (a2:List (List PV)):Option PV:=(qqP a a2).run
noncomputable def qjm (a:List UInt8) (a2:List (List PV)):List UInt8:=(gStr (gAt (gCs (gVal (qoZ a a2))) 0))
noncomputable def qi4 (a:List UInt8) (a2:List (List PV)):List (List PV):=(gRow (gAt (gCs (gVal (qoZ a a2))) 1))
noncomputable def qf8 (a:List UInt8) (a2:List (List PV)):Bool:=isW (qoZ a a2) (.agg [.str (qjm a a2),.sl (qi4 a a2) .non])
noncomputable def qt2:List PV→Tr PV | [.agg [.str a,.sl a2 .non]]=>.ite (qf8 a a2) (.ret (.agg [.str (qjm a a2),.sl (qi4 a a2) .non])) (.fail) | _=>.fail
theorem qA4 (gl:Gl):SimP Tryz.prog gl 42 fun args=>(qt2 args).run:=by
 refine SimP.of_flat (G:=qnr) (L:=qvy) qaj (qts gl ) qah  Tryz.func42 rfl (by rfl) (by kernel_rfl) (qbt (L:=lps qvy) [(3,qmN)] (by kernel_rfl) (List.forall_mem_cons.2 ⟨fun fr σ e fr' σ' h=>qvp gl  fr σ e fr' σ' h,(List.forall_mem_nil _)⟩)) ?_
 intro args x h
 unfold qt2 at h
 split at h
 ·exact (congrArg Tr.run (qGy _ _)).trans (qai h fun h=>by cases h)
 ·cases h
noncomputable def qkW:GamT:=ofL [(9,.pure qno),(42,.pure qt2)]
theorem qtE (gl:Gl):qaJ Tryz.prog gl (gam qkW):=(qad (qos gl) (qad (qA4 gl) qag))
noncomputable def qqe:LpsT:=fun r fr σ=>.fail
noncomputable def qjD (l:Int) (l2:List UInt8) (l3:List (List PV)) (l4:Int) (l5:Int) (l6:List UInt8) (l7:Int) (l8:Int) (l9:List UInt8) (l10:Int) (l11:List UInt8) (l12:Int) (l13:Int) (l14:List UInt8):Tr PV:=.ite (qf8 l2 (qac l3)) (.ite (qco l5 l6 l7 l8 l9) (.ite (qco l10 l11 l12 l13 l14) (.ret (.agg [.int .i64 l,.str (qjm l2 (qac l3)),.sl (qcM (qi4 l2 (qac l3))) .non,.int .i64 l4,.int .i64 (qb6 l5 l6 l7 l8 l9),.str (qb4 l5 l6 l7 l8 l9),.int .i64 (qbI l5 l6 l7 l8 l9),.int .i64 (qbJ l5 l6 l7 l8 l9),.str (qbG l5 l6 l7 l8 l9),.int .i64 (qb6 l10 l11 l12 l13 l14),.str (qb4 l10 l11 l12 l13 l14),.int .i64 (qbI l10 l11 l12 l13 l14),.int .i64 (qbJ l10 l11 l12 l13 l14),.str (qbG l10 l11 l12 l13 l14)])) .fail) .fail) .fail
theorem qx3 (l:Int) (l2:List UInt8) (l3:List (List PV)) (l4:Int) (l5:Int) (l6:List UInt8) (l7:Int) (l8:Int) (l9:List UInt8) (l10:Int) (l11:List UInt8) (l12:Int) (l13:Int) (l14:List UInt8):(tcall tbT qkW qqe Tryz.f10 [.agg [.int .i64 l,.str l2,.sl l3 .non,.int .i64 l4,.int .i64 l5,.str l6,.int .i64 l7,.int .i64 l8,.str l9,.int .i64 l10,.str l11,.int .i64 l12,.int .i64 l13,.str l14]]).flat=qjD l l2 l3 l4 l5 l6 l7 l8 l9 l10 l11 l12 l13 l14:=by kernel_rfl
noncomputable def qbz (l:Int) (l2:List UInt8) (l3:List (List PV)) (l4:Int) (l5:Int) (l6:List UInt8) (l7:Int) (l8:Int) (l9:List UInt8) (l10:Int) (l11:List UInt8) (l12:Int) (l13:Int) (l14:List UInt8):Option PV:=(qjD l l2 l3 l4 l5 l6 l7 l8 l9 l10 l11 l12 l13 l14).run
noncomputable def qa3 (l:Int) (l2:List UInt8) (l3:List (List PV)) (l4:Int) (l5:Int) (l6:List UInt8) (l7:Int) (l8:Int) (l9:List UInt8) (l10:Int) (l11:List UInt8) (l12:Int) (l13:Int) (l14:List UInt8):Int:=(gInt (gAt (gCs (gVal (qbz l l2 l3 l4 l5 l6 l7 l8 l9 l10 l11 l12 l13 l14))) 0))
noncomputable def qaD (l:Int) (l2:List UInt8) (l3:List (List PV)) (l4:Int) (l5:Int) (l6:List UInt8) (l7:Int) (l8:Int) (l9:List UInt8) (l10:Int) (l11:List UInt8) (l12:Int) (l13:Int) (l14:List UInt8):List UInt8:=(gStr (gAt (gCs (gVal (qbz l l2 l3 l4 l5 l6 l7 l8 l9 l10 l11 l12 l13 l14))) 1))
noncomputable def qaE (l:Int) (l2:List UInt8) (l3:List (List PV)) (l4:Int) (l5:Int) (l6:List UInt8) (l7:Int) (l8:Int) (l9:List UInt8) (l10:Int) (l11:List UInt8) (l12:Int) (l13:Int) (l14:List UInt8):List (List PV):=(gRow (gAt (gCs (gVal (qbz l l2 l3 l4 l5 l6 l7 l8 l9 l10 l11 l12 l13 l14))) 2))
noncomputable def qaU (l:Int) (l2:List UInt8) (l3:List (List PV)) (l4:Int) (l5:Int) (l6:List UInt8) (l7:Int) (l8:Int) (l9:List UInt8) (l10:Int) (l11:List UInt8) (l12:Int) (l13:Int) (l14:List UInt8):Int:=(gInt (gAt (gCs (gVal (qbz l l2 l3 l4 l5 l6 l7 l8 l9 l10 l11 l12 l13 l14))) 3))
noncomputable def qaP (l:Int) (l2:List UInt8) (l3:List (List PV)) (l4:Int) (l5:Int) (l6:List UInt8) (l7:Int) (l8:Int) (l9:List UInt8) (l10:Int) (l11:List UInt8) (l12:Int) (l13:Int) (l14:List UInt8):Int:=(gInt (gAt (gCs (gVal (qbz l l2 l3 l4 l5 l6 l7 l8 l9 l10 l11 l12 l13 l14))) 4))
noncomputable def qaM (l:Int) (l2:List UInt8) (l3:List (List PV)) (l4:Int) (l5:Int) (l6:List UInt8) (l7:Int) (l8:Int) (l9:List UInt8) (l10:Int) (l11:List UInt8) (l12:Int) (l13:Int) (l14:List UInt8):List UInt8:=(gStr (gAt (gCs (gVal (qbz l l2 l3 l4 l5 l6 l7 l8 l9 l10 l11 l12 l13 l14))) 5))
noncomputable def qaK (l:Int) (l2:List UInt8) (l3:List (List PV)) (l4:Int) (l5:Int) (l6:List UInt8) (l7:Int) (l8:Int) (l9:List UInt8) (l10:Int) (l11:List UInt8) (l12:Int) (l13:Int) (l14:List UInt8):Int:=(gInt (gAt (gCs (gVal (qbz l l2 l3 l4 l5 l6 l7 l8 l9 l10 l11 l12 l13 l14))) 6))
noncomputable def qaT (l:Int) (l2:List UInt8) (l3:List (List PV)) (l4:Int) (l5:Int) (l6:List UInt8) (l7:Int) (l8:Int) (l9:List UInt8) (l10:Int) (l11:List UInt8) (l12:Int) (l13:Int) (l14:List UInt8):Int:=(gInt (gAt (gCs (gVal (qbz l l2 l3 l4 l5 l6 l7 l8 l9 l10 l11 l12 l13 l14))) 7))
noncomputable def qaO (l:Int) (l2:List UInt8) (l3:List (List PV)) (l4:Int) (l5:Int) (l6:List UInt8) (l7:Int) (l8:Int) (l9:List UInt8) (l10:Int) (l11:List UInt8) (l12:Int) (l13:Int) (l14:List UInt8):List UInt8:=(gStr (gAt (gCs (gVal (qbz l l2 l3 l4 l5 l6 l7 l8 l9 l10 l11 l12 l13 l14))) 8))
noncomputable def qaN (l:Int) (l2:List UInt8) (l3:List (List PV)) (l4:Int) (l5:Int) (l6:List UInt8) (l7:Int) (l8:Int) (l9:List UInt8) (l10:Int) (l11:List UInt8) (l12:Int) (l13:Int) (l14:List UInt8):Int:=(gInt (gAt (gCs (gVal (qbz l l2 l3 l4 l5 l6 l7 l8 l9 l10 l11 l12 l13 l14))) 9))
noncomputable def qaQ (l:Int) (l2:List UInt8) (l3:List (List PV)) (l4:Int) (l5:Int) (l6:List UInt8) (l7:Int) (l8:Int) (l9:List UInt8) (l10:Int) (l11:List UInt8) (l12:Int) (l13:Int) (l14:List UInt8):List UInt8:=(gStr (gAt (gCs (gVal (qbz l l2 l3 l4 l5 l6 l7 l8 l9 l10 l11 l12 l13 l14))) 10))
noncomputable def qaL (l:Int) (l2:List UInt8) (l3:List (List PV)) (l4:Int) (l5:Int) (l6:List UInt8) (l7:Int) (l8:Int) (l9:List UInt8) (l10:Int) (l11:List UInt8) (l12:Int) (l13:Int) (l14:List UInt8):Int:=(gInt (gAt (gCs (gVal (qbz l l2 l3 l4 l5 l6 l7 l8 l9 l10 l11 l12 l13 l14))) 11))
noncomputable def qaR (l:Int) (l2:List UInt8) (l3:List (List PV)) (l4:Int) (l5:Int) (l6:List UInt8) (l7:Int) (l8:Int) (l9:List UInt8) (l10:Int) (l11:List UInt8) (l12:Int) (l13:Int) (l14:List UInt8):Int:=(gInt (gAt (gCs (gVal (qbz l l2 l3 l4 l5 l6 l7 l8 l9 l10 l11 l12 l13 l14))) 12))
noncomputable def qaV (l:Int) (l2:List UInt8) (l3:List (List PV)) (l4:Int) (l5:Int) (l6:List UInt8) (l7:Int) (l8:Int) (l9:List UInt8) (l10:Int) (l11:List UInt8) (l12:Int) (l13:Int) (l14:List UInt8):List UInt8:=(gStr (gAt (gCs (gVal (qbz l l2 l3 l4 l5 l6 l7 l8 l9 l10 l11 l12 l13 l14))) 13))
noncomputable def qa4 (l:Int) (l2:List UInt8) (l3:List (List PV)) (l4:Int) (l5:Int) (l6:List UInt8) (l7:Int) (l8:Int) (l9:List UInt8) (l10:Int) (l11:List UInt8) (l12:Int) (l13:Int) (l14:List UInt8):Bool:=isW (qbz l l2 l3 l4 l5 l6 l7 l8 l9 l10 l11 l12 l13 l14) (.agg [.int .i64 (qa3 l l2 l3 l4 l5 l6 l7 l8 l9 l10 l11 l12 l13 l14),.str (qaD l l2 l3 l4 l5 l6 l7 l8 l9 l10 l11 l12 l13 l14),.sl (qaE l l2 l3 l4 l5 l6 l7 l8 l9 l10 l11 l12 l13 l14) .non,.int .i64 (qaU l l2 l3 l4 l5 l6 l7 l8 l9 l10 l11 l12 l13 l14),.int .i64 (qaP l l2 l3 l4 l5 l6 l7 l8 l9 l10 l11 l12 l13 l14),.str (qaM l l2 l3 l4 l5 l6 l7 l8 l9 l10 l11 l12 l13 l14),.int .i64 (qaK l l2 l3 l4 l5 l6 l7 l8 l9 l10 l11 l12 l13 l14),.int .i64 (qaT l l2 l3 l4 l5 l6 l7 l8 l9 l10 l11 l12 l13 l14),.str (qaO l l2 l3 l4 l5 l6 l7 l8 l9 l10 l11 l12 l13 l14),.int .i64 (qaN l l2 l3 l4 l5 l6 l7 l8 l9 l10 l11 l12 l13 l14),.str (qaQ l l2 l3 l4 l5 l6 l7 l8 l9 l10 l11 l12 l13 l14),.int .i64 (qaL l l2 l3 l4 l5 l6 l7 l8 l9 l10 l11 l12 l13 l14),.int .i64 (qaR l l2 l3 l4 l5 l6 l7 l8 l9 l10 l11 l12 l13 l14),.str (qaV l l2 l3 l4 l5 l6 l7 l8 l9 l10 l11 l12 l13 l14)])
noncomputable def qlk:List PV→Tr PV | [.agg [.int .i64 l,.str l2,.sl l3 .non,.int .i64 l4,.int .i64 l5,.str l6,.int .i64 l7,.int .i64 l8,.str l9,.int .i64 l10,.str l11,.int .i64 l12,.int .i64 l13,.str l14]]=>.ite (qa4 l l2 l3 l4 l5 l6 l7 l8 l9 l10 l11 l12 l13 l14) (.ret (.agg [.int .i64 (qa3 l l2 l3 l4 l5 l6 l7 l8 l9 l10 l11 l12 l13 l14),.str (qaD l l2 l3 l4 l5 l6 l7 l8 l9 l10 l11 l12 l13 l14),.sl (qaE l l2 l3 l4 l5 l6 l7 l8 l9 l10 l11 l12 l13 l14) .non,.int .i64 (qaU l l2 l3 l4 l5 l6 l7 l8 l9 l10 l11 l12 l13 l14),.int .i64 (qaP l l2 l3 l4 l5 l6 l7 l8 l9 l10 l11 l12 l13 l14),.str (qaM l l2 l3 l4 l5 l6 l7 l8 l9 l10 l11 l12 l13 l14),.int .i64 (qaK l l2 l3 l4 l5 l6 l7 l8 l9 l10 l11 l12 l13 l14),.int .i64 (qaT l l2 l3 l4 l5 l6 l7 l8 l9 l10 l11 l12 l13 l14),.str (qaO l l2 l3 l4 l5 l6 l7 l8 l9 l10 l11 l12 l13 l14),.int .i64 (qaN l l2 l3 l4 l5 l6 l7 l8 l9 l10 l11 l12 l13 l14),.str (qaQ l l2 l3 l4 l5 l6 l7 l8 l9 l10 l11 l12 l13 l14),.int .i64 (qaL l l2 l3 l4 l5 l6 l7 l8 l9 l10 l11 l12 l13 l14),.int .i64 (qaR l l2 l3 l4 l5 l6 l7 l8 l9 l10 l11 l12 l13 l14),.str (qaV l l2 l3 l4 l5 l6 l7 l8 l9 l10 l11 l12 l13 l14)])) (.fail) | _=>.fail
theorem qsK (gl:Gl):SimP Tryz.prog gl 10 fun args=>(qlk args).run:=by
 refine SimP.of_flat (G:=qkW) (L:=qqe) qaj (qtE gl ) qah  Tryz.func10 rfl (by rfl) (by kernel_rfl) (qae (by kernel_rfl)) ?_
 intro args x h
 unfold qlk at h
 split at h
 ·exact (congrArg Tr.run (qx3 _ _ _ _ _ _ _ _ _ _ _ _ _ _)).trans (qai h fun h=>by cases h)
 ·cases h
end Go.Pv
set_option maxHeartbeats 4000000
set_option linter.unusedSimpArgs false
set_option linter.unusedVariables false
namespace Go.Pv
open Go.RowKit
def swp (i k:Nat):Nat:=if k=i then i+1 else if k=i+1 then i else k
theorem qvc (i k:Nat):swp i (swp i k)=k:=by
 unfold swp
 repeat' split
 all_goals omega
theorem qEU {i k n:Nat} (hi:i+1 < n) (hk:k < n):swp i k < n:=by
 unfold swp
 repeat' split
 all_goals omega
theorem qqn {i k:Nat} (h1:k≠i) (h2:k≠i+1):swp i k=k:=by
 unfold swp
 rw [if_neg h1,if_neg h2]
def eA (i k:Nat) (o:Oper):Oper:=if k=i+1 then { o with after:=o.after.push ⟨i,.data⟩ } else o
def opsA (i:Nat) (ops:Array Oper):Array Oper:=ops.mapIdx fun k o=>eA i k o
def eB (i k:Nat) (o:Oper):Oper:={ o with after:=(o.after.map fun e=>{ e with on:=swp i e.on })++(if k=i+1 then #[⟨i,.data⟩] else #[]) }
def opsB (i:Nat) (ops:Array Oper):Array Oper:=ops.mapIdx fun k o=>eB i k ((ops[swp i k]?).getD o)
def qji (i:Nat) (ops:Array Oper):Bool:=ops.toList.all fun o=>match o.guard with
 | some (g,_)=>!Nat.beq g i && !Nat.beq g (i+1)
 | none=>true
theorem atA (i:Nat) (ops:Array Oper) (k:Nat):(opsA i ops)[k]?=(ops[k]?).map (eA i k):=by
 unfold opsA
 rw [Array.getElem?_mapIdx]
theorem atB {i:Nat} {ops:Array Oper} (hi:i+1 < ops.size) {k:Nat} {o:Oper} (h:ops[k]?=some o):(opsB i ops)[swp i k]?=some (eB i (swp i k) o):=by
 have hk:k < ops.size:=by
  have:=Array.getElem?_eq_some_iff.1 h
  exact this.1
 unfold opsB
 rw [Array.getElem?_mapIdx,Array.getElem?_eq_getElem (qEU hi hk),qvc,h]
 rfl
theorem qGQ (i k:Nat) (o:Oper):∃ x,eA i k o={ o with after:=x }:=by
 unfold eA
 split
 ·exact ⟨_,rfl⟩
 ·exact ⟨o.after,rfl⟩
theorem qvT (i:Nat) (ops:Array Oper):(opsA i ops).size=ops.size:=by simp [opsA]
theorem qpq (i:Nat) (ops:Array Oper):(opsB i ops).size=ops.size:=by simp [opsB]
theorem qqm {i:Nat} {ops:Array Oper} (h:qji i ops=true) {k:Nat} {o:Oper} (ho:ops[k]?=some o) {g:Nat} {b:Bool} (hg:o.guard=some (g,b)):g≠i∧g≠i+1:=by
 unfold qji at h
 rw [List.all_eq_true] at h
 have h1:=h o (by
  rw [Array.mem_toList_iff]
  exact Array.mem_of_getElem? ho)
 rw [hg] at h1
 simp only [Bool.and_eq_true,Bool.not_eq_true'] at h1
 exact ⟨Nat.ne_of_beq_eq_false h1.1,Nat.ne_of_beq_eq_false h1.2⟩
theorem qc4 {ops:Array Oper} {listed:Array Bool} (hs:listed.size=ops.size) {k:Nat}:k ∈ Region.ready .any ops listed↔∃ o,ops[k]?=some o∧¬ In listed k∧∀ e ∈ o.after.toList,Region.binds .any e=true→In listed e.on:=by
 unfold Region.ready
 rw [List.mem_filter,List.mem_range]
 constructor
 ·rintro ⟨hk,hk'⟩
  have hb:k < listed.size:=by omega
  have e2:ops[k]?=some ops[k]:=Array.getElem?_eq_getElem hk
  simp only [e2,Option.map_some,Option.getD_some,Bool.and_eq_true,Bool.not_eq_true'] at hk'
  obtain ⟨hk1,hk2⟩:=hk'
  refine ⟨_,e2,?_,?_⟩
  ·rw [Array.getD_eq_getD_getElem?,Array.getElem?_eq_getElem hb] at hk1
   unfold In
   rw [Array.getD_eq_getD_getElem?,Array.getElem?_eq_getElem hb]
   simpa using hk1
  ·intro e he hbd
   have:=Array.all_eq_true'.1 hk2 e (Array.mem_toList_iff.1 he)
   simpa [hbd,In] using this
 ·rintro ⟨o,ho,hn,he⟩
  have hk:k < ops.size:=(Array.getElem?_eq_some_iff.1 ho).1
  have hb:k < listed.size:=by omega
  refine ⟨hk,?_⟩
  simp only [ho,Option.map_some,Option.getD_some,Bool.and_eq_true,Bool.not_eq_true']
  constructor
  ·unfold In at hn
   rw [Array.getD_eq_getD_getElem?,Array.getElem?_eq_getElem hb] at hn ⊢
   simpa using hn
  ·rw [Array.all_eq_true']
   intro e hm
   cases hbd:Region.binds .any e with
   | false=>rfl
   | true =>
    have:=he e (Array.mem_toList_iff.2 hm) hbd
    simpa [In] using this
section
variable {F : Fence} {n : Nat} {P : Program} {Q : Exit → Act → World → Prop}
theorem qsy {ops ops2:Array Oper} (hsz:ops2.size=ops.size) (π:Nat→Nat) (hπ:∀ k,π (π k)=k) (hlt:∀ k,k < ops.size→π k < ops.size) (j:Nat)
  (hop:∀ (K:Act→World→Prop) k a w,wpOpIn F n P ops2 Q (π k) K a w→wpOpIn F n P ops Q k K a w)
  (hr:∀ listed listed2:Array Bool,listed.size=ops.size→listed2.size=ops2.size→(∀ k,In listed2 (π k)↔In listed k)→In listed j→∀ k,(k ∈ Region.ready .any ops listed↔π k ∈ Region.ready .any ops2 listed2)) :
  ∀ (fuel:Nat) (listed listed2:Array Bool) (a:Act) (w:World),listed.size=ops.size→listed2.size=ops2.size→(∀ k,In listed2 (π k)↔In listed k)→In listed j→wpAnyIn F n P .any ops2 Q fuel listed2 a w→wpAnyIn F n P .any ops Q fuel listed a w:=by
 intro fuel
 induction fuel with
 | zero =>
  intro l l2 a w h1 h2 h3 h4 h
  refine ⟨List.eq_nil_iff_forall_not_mem.2 fun k hk=>?_,h.2⟩
  have:=(hr l l2 h1 h2 h3 h4 k).1 hk
  rw [h.1] at this
  cases this
 | succ fuel ih =>
  intro l l2 a w h1 h2 h3 h4 h
  refine ⟨fun hn=>h.1 (List.eq_nil_iff_forall_not_mem.2 fun k hk=>?_),fun k hk=>?_⟩
  ·have:=(hr l l2 h1 h2 h3 h4 (π k)).2 (by rw [hπ]; exact hk)
   rw [hn] at this
   cases this
  ·have hk2:=(hr l l2 h1 h2 h3 h4 k).1 hk
   obtain ⟨o,ho,_⟩:=(qc4 h1).1 hk
   have hkl:k < ops.size:=(Array.getElem?_eq_some_iff.1 ho).1
   refine hop _ k a w (wpOpIn_mono (fun a' w' h'=>ih _ _ a' w' (by simp [h1]) (by simp [h2]) (fun m=>?_) ?_ h') (h.2 _ hk2))
   ·rw [qdJ (by have:=hlt k hkl; omega),qdJ (by omega),h3]
    constructor
    ·rintro (h | h)
     ·exact .inl (by rw [← hπ m,h,hπ])
     ·exact .inr h
    ·rintro (rfl | h)
     ·exact .inl rfl
     ·exact .inr h
   ·exact (qdJ (by omega)).2 (.inr h4)
theorem qDO (i:Nat) (ops:Array Oper) (t:Array Value):yielded (opsA i ops) t=yielded ops t:=by
 funext g
 unfold yielded
 rw [atA]
 cases h:ops[g]? with
 | none=>rfl
 | some o =>
  obtain ⟨x,hx⟩:=qGQ i g o
  simp only [Option.map_some,Option.bind_some,hx]
theorem qCF {i:Nat} {ops:Array Oper} (hi:i+1 < ops.size) (t:Array Value) {g:Nat} (h1:g≠i) (h2:g≠i+1):yielded (opsB i ops) t g=yielded ops t g:=by
 unfold yielded
 cases h:ops[g]? with
 | none =>
  have:(opsB i ops)[g]?=none:=by
   rw [Array.getElem?_eq_none_iff] at h ⊢
   rw [qpq]
   exact h
  rw [this]
 | some o =>
  have:=atB hi h
  rw [qqn h1 h2] at this
  rw [this]
  rfl
theorem opA (i:Nat) (ops:Array Oper) (K:Act→World→Prop) (k:Nat) (a:Act) (w:World) (h:wpOpIn F n P (opsA i ops) Q k K a w):wpOpIn F n P ops Q k K a w:=by
 unfold wpOpIn at h ⊢
 rw [atA,qDO] at h
 cases ho:ops[k]? with
 | none=>rw [ho] at h; exact h
 | some o =>
  obtain ⟨x,hx⟩:=qGQ i k o
  rw [ho] at h
  simp only [Option.map_some,hx] at h
  exact h
theorem opB {i:Nat} {ops:Array Oper} (hi:i+1 < ops.size) (hg:qji i ops=true) (K:Act→World→Prop) (k:Nat) (a:Act) (w:World) (h:wpOpIn F n P (opsB i ops) Q (swp i k) K a w):wpOpIn F n P ops Q k K a w:=by
 unfold wpOpIn at h ⊢
 cases ho:ops[k]? with
 | none =>
  have hk:ops.size≤k:=by rwa [Array.getElem?_eq_none_iff] at ho
  have:(opsB i ops)[swp i k]?=none:=by
   rw [qqn (by omega) (by omega),Array.getElem?_eq_none_iff,qpq]
   exact hk
  rw [this] at h
  exact h
 | some o =>
  rw [atB hi ho] at h
  have hw:Region.wanted (eB i (swp i k) o) (yielded (opsB i ops) a.tmps)=Region.wanted o (yielded ops a.tmps):=by
   unfold Region.wanted
   have e:(eB i (swp i k) o).guard=o.guard:=rfl
   rw [e]
   cases hgd:o.guard with
   | none=>rfl
   | some gb =>
    obtain ⟨g,b⟩:=gb
    obtain ⟨h1,h2⟩:=qqm hg ho hgd
    simp only [qCF hi a.tmps h1 h2]
  simp only [hw] at h
  exact h
theorem simA (i:Nat) (ops:Array Oper) (fuel:Nat) (listed:Array Bool) (a:Act) (w:World) (hs:listed.size=ops.size) (hin:In listed i) (h:wpAnyIn F n P .any (opsA i ops) Q fuel listed a w):wpAnyIn F n P .any ops Q fuel listed a w:=by
 refine qsy (qvT i ops) id (fun _=>rfl) (fun _ h=>h) i (opA i ops) ?_ fuel listed listed a w hs (by rw [qvT,hs]) (fun _=>Iff.rfl) hin h
 intro l l2 h1 h2 h3 h4 k
 have h3:∀ k,In l2 k↔In l k:=h3
 rw [qc4 h1,qc4 h2]
 show _↔∃ o,(opsA i ops)[k]?=some o∧_
 rw [atA]
 constructor
 ·rintro ⟨o,ho,hn,he⟩
  refine ⟨eA i k o,by rw [ho]; rfl,fun h=>hn ((h3 k).1 h),fun e he' hb=>(h3 _).2 ?_⟩
  unfold eA at he'
  split at he'
  ·simp only [Array.toList_push,List.mem_append,List.mem_singleton] at he'
   rcases he' with he' | rfl
   ·exact he e he' hb
   ·exact h4
  ·exact he e he' hb
 ·rintro ⟨o2,ho2,hn,he⟩
  cases ho:ops[k]? with
  | none=>rw [ho] at ho2; cases ho2
  | some o =>
   rw [ho] at ho2
   simp only [Option.map_some,Option.some.injEq] at ho2
   subst ho2
   refine ⟨o,rfl,fun h=>hn ((h3 k).2 h),fun e he' hb=>(h3 _).1 (he e ?_ hb)⟩
   unfold eA
   split
   ·simp only [Array.toList_push,List.mem_append]
    exact .inl he'
   ·exact he'
theorem simB {i:Nat} {ops:Array Oper} (hi:i+1 < ops.size) (hg:qji i ops=true) (fuel:Nat) (listed listed2:Array Bool) (a:Act) (w:World) (hs:listed.size=ops.size) (hs2:listed2.size=ops.size) (hin:In listed (i+1)) (hl:∀ k,In listed2 (swp i k)↔In listed k)
  (h:wpAnyIn F n P .any (opsB i ops) Q fuel listed2 a w):wpAnyIn F n P .any ops Q fuel listed a w:=by
 refine qsy (qpq i ops) (swp i) (qvc i) (fun _ h=>qEU hi h) (i+1) (opB hi hg) ?_ fuel listed listed2 a w hs (by rw [qpq,hs2]) hl hin h
 intro l l2 h1 h2 h3 h4 k
 have h5:In l2 i:=by
  have:=(h3 (i+1)).2 h4
  simpa [swp] using this
 rw [qc4 h1,qc4 h2]
 constructor
 ·rintro ⟨o,ho,hn,he⟩
  refine ⟨_,atB hi ho,fun h=>hn ((h3 k).1 h),fun e he' hb=>?_⟩
  simp only [eB,Array.toList_append,Array.toList_map,List.mem_append,List.mem_map] at he'
  rcases he' with ⟨e0,he0,rfl⟩ | he'
  ·exact (h3 _).2 (he e0 he0 hb)
  ·split at he'
   ·simp at he'
    subst he'
    exact h5
   ·simp at he'
 ·rintro ⟨o2,ho2,hn,he⟩
  cases ho:ops[k]? with
  | none =>
   have hk:ops.size≤k:=by rwa [Array.getElem?_eq_none_iff] at ho
   have:(opsB i ops)[swp i k]?=none:=by
    rw [qqn (by omega) (by omega),Array.getElem?_eq_none_iff,qpq]
    exact hk
   rw [this] at ho2
   cases ho2
  | some o =>
   rw [atB hi ho] at ho2
   cases ho2
   refine ⟨o,rfl,fun h=>hn ((h3 k).2 h),fun e he' hb=>(h3 _).1 (he { e with on:=swp i e.on } ?_ hb)⟩
   simp only [eB,Array.toList_append,Array.toList_map,List.mem_append,List.mem_map]
   exact .inl ⟨e,he',rfl⟩
end
section
variable {P : Program} {tb : Tab} {gl : Gl} {Γ : Gam} {H0 : Gh} {w0 : World} {Q : Exit → Act → World → Prop}
theorem qxb {b:Bool} {ops:List Oper} (hord:qck b Γ ops=true) {F:Nat→List PV} {S:Nat→Store} {X:Nat→PV} (ht:Trace tb Γ ops ops F S X)
  (hfree:∀ (k i:Nat) (o:Oper),ops[k]?=some o→reads Γ o=true→qdj b Γ o=false→i≤ops.length→pop tb Γ (F k) (S k) o=some (X k,S (k+1))→pop tb Γ (F k) (S i) o=some (X k,S i))
  {listed:Array Bool} {fr:List PV} {σ:Store} (hI:Inv Γ ops F S listed fr σ) {k:Nat} {o:Oper} (hko:ops[k]?=some o) (hb:k < listed.size) (hn:¬ In listed k) (he:∀ e ∈ o.after.toList,Region.binds .any e=true→In listed e.on) :
  ∃ x σ',((pwanted ops fr o=some false∧x=.tup []∧σ'=σ)∨(pwanted ops fr o=some true∧pop tb Γ fr σ o=some (x,σ')))∧Inv Γ ops F S (listed.setIfInBounds k true) (pput fr o.dst x) σ':=by
 obtain ⟨hsee,hsto⟩:=hI.sees hord hko hn he
 have hwan:pwanted ops fr o=pwanted ops (F k) o:=by
  unfold pwanted
  cases hg:o.guard with
  | none=>rfl
  | some jb =>
   obtain ⟨j,b⟩:=jb
   simp only []
   cases hd:(ops[j]?).bind (·.dst) with
   | none=>rfl
   | some d =>
    have:fr[d]?=(F k)[d]?:=hsee d (by simp [looks,hg,hd])
    simp only [Option.bind_some,this]
 have hpop:∀ s,pop tb Γ fr s o=pop tb Γ (F k) s o:=by
  intro s
  refine qEw fun x hx=>?_
  cases x with
  | tmp t =>
   have:fr[t]?=(F k)[t]?:=hsee t (by
    simp only [looks,List.mem_append,List.mem_filterMap]
    exact .inl ⟨_,hx,rfl⟩)
   simp only [ev,List.getD_eq_getElem?_getD,this]
  | const v=>rfl
  | global g=>rfl
  | func f=>rfl
 rcases (ht.at_ k o hko).1 with ⟨hw,hx,hS⟩ | ⟨hw,hp⟩
 ·refine ⟨.tup [],σ,.inl ⟨hwan.trans hw,rfl,rfl⟩,?_⟩
  have:=hI.next hord ht hko hb hn he (σ':=σ) ⟨fun hwr=>?_,fun _=>rfl⟩
  ·rw [hx] at this
   exact this
  ·rw [hS]
   exact hsto (by simp [qdj,hwr])
 ·cases hr:qdj b Γ o with
  | true =>
   have hs':=hsto hr
   have hp':pop tb Γ fr σ o=some (X k,S (k+1)):=by rw [hpop,hs']; exact hp
   refine ⟨X k,S (k+1),.inr ⟨hwan.trans hw,hp'⟩,hI.next hord ht hko hb hn he ⟨fun _=>rfl,fun hwf=>?_⟩⟩
   rw [qkB hwf hp,hs']
  | false =>
   have hwf:writes Γ o=false:=by
    cases hwr:writes Γ o with
    | false=>rfl
    | true=>simp [qdj,hwr] at hr
   have hp':pop tb Γ fr σ o=some (X k,σ):=by
    rw [hpop]
    cases hr0:reads Γ o with
    | false=>exact qsW hr0 hp σ
    | true =>
     obtain ⟨i,hi,rfl⟩:=hI.someS hord
     exact hfree k i _ hko hr0 hr hi hp
   refine ⟨X k,σ,.inr ⟨hwan.trans hw,hp'⟩,hI.next hord ht hko hb hn he ⟨fun h=>?_,fun _=>rfl⟩⟩
   rw [hwf] at h
   cases h
theorem qAe (n i:Nat):¬ In (Array.replicate n false) i:=by
 unfold In
 rw [Array.getD_eq_getD_getElem?]
 by_cases hi:i < n
 ·simp [Array.getElem?_replicate,hi]
 ·simp [Array.getElem?_replicate,hi]
theorem inv0 {ops:List Oper} {F:Nat→List PV} {S:Nat→Store} {X:Nat→PV} (ht:Trace tb Γ ops ops F S X) (n:Nat):Inv Γ ops F S (Array.replicate n false) (F 0) (S 0) :=
 ⟨rfl,fun j o hj=>absurd hj (qAe n j),fun t i hi hlo hhi=>by
  rw [ht.still (i:=0) (j:=i) (Nat.zero_le _) hi (fun k o _ hk ho hd=>qAe n k (hlo k o hk ho hd))],fun i hi hlo hhi=>by
  rw [ht.stillS (i:=0) (j:=i) (Nat.zero_le _) hi (fun k o _ hk ho=>by
   cases hw:writes Γ o with
   | false=>rfl
   | true=>exact absurd (hlo k o hk ho hw) (qAe n k))]⟩
structure Told (tb:Tab) (Γ:Gam) (ops:Array Oper) (b:Bool) (F:Nat→List PV) (S:Nat→Store) (X:Nat→PV):Prop where
 ord:qck b Γ ops.toList=true
 tr:Trace tb Γ ops.toList ops.toList F S X
 free:∀ (k i:Nat) (o:Oper),ops.toList[k]?=some o→reads Γ o=true→qdj b Γ o=false→i≤ops.size→pop tb Γ (F k) (S k) o=some (X k,S (k+1))→pop tb Γ (F k) (S i) o=some (X k,S i)
theorem qAF {ops:Array Oper} {fr fr':List PV} {σ σ':Store} (h:pops tb Γ ops.toList ops.toList fr σ=some (fr',σ')) (hd:ordered Γ ops.toList=true∨(qck true Γ ops.toList=true∧qel Γ ops.toList fr' σ.objs.length=true)) :
  ∃ b F S X,Told tb Γ ops b F S X∧F 0=fr∧S 0=σ∧F ops.size=fr'∧S ops.size=σ':=by
 obtain ⟨F,S,X,hF,hS,hF',hS',ht⟩:=qkP _ _ _ _ _ h
 rcases hd with h1 | ⟨h1,h2⟩
 ·exact ⟨false,F,S,X,⟨h1,ht,fun k i o hk hr hf=>by
   unfold reads at hr
   rw [hf] at hr
   cases hr⟩,hF,hS,by simpa using hF',by simpa using hS'⟩
 ·refine ⟨true,F,S,X,⟨h1,ht,fun k i o hk hr hf hi hp=>qpz ht ?_ k i o hk hr hf (by simpa using hi) hp⟩,hF,hS,by simpa using hF',by simpa using hS'⟩
  rw [hF',hS]
  exact h2
theorem qB7 (hT:qbN P tb) (hΓ:qaJ P gl Γ) {ops:Array Oper} {i:Nat} (hi:i+1 < ops.size) (hg:qji i ops=true)
  {bA bB:Bool} {FA FB:Nat→List PV} {SA SB:Nat→Store} {XA XB:Nat→PV} (hA:Told tb Γ (opsA i ops) bA FA SA XA) (hB:Told tb Γ (opsB i ops) bB FB SB XB)
  (hqA:∀ a' w',St gl H0 w0 (FA ops.size) (SA ops.size) a' w'→Q .normal a' w') (hqB:∀ a' w',St gl H0 w0 (FB ops.size) (SB ops.size) a' w'→Q .normal a' w') :
  ∀ (fuel:Nat) (listed:Array Bool) (fr:List PV) (σ:Store) (a:Act) (w:World),listed.size=ops.size→listed.toList.count false≤fuel→¬ In listed i→¬ In listed (i+1)→Inv Γ (opsA i ops).toList FA SA listed fr σ→Inv Γ (opsB i ops).toList FB SB listed fr σ→St gl H0 w0 fr σ a w→∀ (r:Option Nat) (n:Nat),wpAnyIn (rnd r) n P .any ops Q fuel listed a w:=by
 have dA:∀ (fuel:Nat) (listed:Array Bool) (fr:List PV) (σ:Store) (a:Act) (w:World),listed.size=ops.size→listed.toList.count false≤fuel→Inv Γ (opsA i ops).toList FA SA listed fr σ→St gl H0 w0 fr σ a w→∀ (r:Option Nat) (n:Nat),wpAnyIn (rnd r) n P .any (opsA i ops) Q fuel listed a w :=
  fun fuel listed fr σ a w hs=>qob hT hΓ hA.ord hA.tr hA.free (by rw [qvT]; exact hqA) fuel listed fr σ a w (by rw [qvT]; exact hs)
 have dB:∀ (fuel:Nat) (listed:Array Bool) (fr:List PV) (σ:Store) (a:Act) (w:World),listed.size=ops.size→listed.toList.count false≤fuel→Inv Γ (opsB i ops).toList FB SB listed fr σ→St gl H0 w0 fr σ a w→∀ (r:Option Nat) (n:Nat),wpAnyIn (rnd r) n P .any (opsB i ops) Q fuel listed a w :=
  fun fuel listed fr σ a w hs=>qob hT hΓ hB.ord hB.tr hB.free (by rw [qpq]; exact hqB) fuel listed fr σ a w (by rw [qpq]; exact hs)
 have hl0:∀ listed:Array Bool,¬ In listed i→¬ In listed (i+1)→∀ k,In listed (swp i k)↔In listed k:=by
  intro listed h1 h2 k
  by_cases e1:k=i
  ·subst e1
   simp [swp,h1,h2]
  ·by_cases e2:k=i+1
   ·subst e2
    simp [swp,h1,h2]
   ·rw [qqn e1 e2]
 intro fuel
 induction fuel with
 | zero =>
  intro listed fr σ a w hs hc h1 h2 hIA hIB hst
  have hb:i < listed.size:=by omega
  have h0:false ∉ listed.toList:=List.count_eq_zero.1 (by omega)
  unfold In at h1
  rw [Array.getD_eq_getD_getElem?,Array.getElem?_eq_getElem hb] at h1
  cases hl:listed[i] with
  | true=>simp [hl] at h1
  | false=>exact absurd (by rw [← hl]; simp) h0
 | succ fuel ih =>
  intro listed fr σ a w hs hc h1 h2 hIA hIB hst r n
  have wA:=dA (fuel+1) listed fr σ a w hs hc hIA hst r n
  have wB:=dB (fuel+1) listed fr σ a w hs hc hIB hst r n
  have hsub:∀ k,k ∈ Region.ready .any (opsA i ops) listed→k ∈ Region.ready .any ops listed:=by
   intro k hk
   rw [qc4 (by rw [qvT]; exact hs)] at hk
   obtain ⟨o2,ho2,hn,he⟩:=hk
   rw [atA] at ho2
   cases ho:ops[k]? with
   | none=>rw [ho] at ho2; cases ho2
   | some o =>
    rw [ho] at ho2
    simp only [Option.map_some,Option.some.injEq] at ho2
    subst ho2
    refine (qc4 hs).2 ⟨o,ho,hn,fun e he' hb=>he e ?_ hb⟩
    unfold eA
    split
    ·simp only [Array.toList_push,List.mem_append]
     exact .inl he'
    ·exact he'
  refine ⟨fun hnil=>wA.1 (List.eq_nil_iff_forall_not_mem.2 fun k hk=>?_),fun k hk=>?_⟩
  ·have:=hsub k hk
   rw [hnil] at this
   cases this
  obtain ⟨o,ho,hn,he⟩:=(qc4 hs).1 hk
  have hkl:k < ops.size:=(Array.getElem?_eq_some_iff.1 ho).1
  by_cases e1:k=i
  ·subst e1
   have hrA:k ∈ Region.ready .any (opsA k ops) listed:=by
    rw [qc4 (by rw [qvT]; exact hs),atA,ho]
    refine ⟨_,rfl,hn,fun e he' hb=>he e ?_ hb⟩
    unfold eA at he'
    rw [if_neg (by omega)] at he'
    exact he'
   exact opA k ops _ k a w (wpOpIn_mono (fun a' w' h'=>simA k ops fuel _ a' w' (by simp [hs]) ((qdJ (by omega)).2 (.inl rfl)) h') (wA.2 k hrA))
  by_cases e2:k=i+1
  ·subst e2
   have hat:=atB hi ho
   have hsw:swp i (i+1)=i:=by simp [swp]
   rw [hsw] at hat
   have hrB:i ∈ Region.ready .any (opsB i ops) listed:=by
    rw [qc4 (by rw [qpq]; exact hs)]
    refine ⟨_,hat,h1,fun e he' hb=>?_⟩
    simp only [eB,Array.toList_append,Array.toList_map,List.mem_append,List.mem_map] at he'
    rcases he' with ⟨e0,he0,rfl⟩ | he'
    ·exact (hl0 listed h1 h2 _).2 (he e0 he0 hb)
    ·rw [if_neg (by omega)] at he'
     simp at he'
   refine opB hi hg _ (i+1) a w ?_
   rw [hsw]
   refine wpOpIn_mono (fun a' w' h'=>simB hi hg fuel _ _ a' w' (by simp [hs]) (by simp [hs]) ((qdJ (by omega)).2 (.inl rfl)) (fun m=>?_) h') (wB.2 i hrB)
   rw [qdJ (by omega),qdJ (by omega),hl0 listed h1 h2]
   constructor
   ·rintro (h | h)
    ·exact .inl (by rw [← qvc i m,h]; simp [swp])
    ·exact .inr h
   ·rintro (rfl | h)
    ·exact .inl hsw
    ·exact .inr h
  -- another one
  have hoA:(opsA i ops).toList[k]?=some o:=by
   rw [Array.getElem?_toList,atA,ho]
   simp only [Option.map_some,eA,if_neg e2]
  have hoB:(opsB i ops).toList[k]?=some (eB i k o):=by
   rw [Array.getElem?_toList]
   have:=atB hi ho
   rwa [qqn e1 e2] at this
  obtain ⟨xA,σA,hcA,hIA'⟩:=qxb hA.ord hA.tr (by simpa using hA.free) hIA hoA (by omega) hn he
  obtain ⟨xB,σB,hcB,hIB'⟩:=qxb hB.ord hB.tr (by simpa using hB.free) hIB hoB (by omega) hn (fun e he' hb=>by
   simp only [eB,Array.toList_append,Array.toList_map,List.mem_append,List.mem_map] at he'
   rcases he' with ⟨e0,he0,rfl⟩ | he'
   ·exact (hl0 listed h1 h2 _).2 (he e0 he0 hb)
   ·rw [if_neg e2] at he'
    simp at he')
  have hwA:pwanted (opsA i ops).toList fr o=pwanted ops.toList fr o:=by
   unfold pwanted
   cases hgd:o.guard with
   | none=>rfl
   | some gb =>
    obtain ⟨g,b⟩:=gb
    simp only []
    have:((opsA i ops).toList[g]?).bind (·.dst)=(ops.toList[g]?).bind (·.dst):=by
     rw [Array.getElem?_toList,Array.getElem?_toList,atA]
     cases ops[g]? with
     | none=>rfl
     | some y =>
      obtain ⟨z,hz⟩:=qGQ i g y
      simp only [Option.map_some,Option.bind_some,hz]
    rw [this]
  have hwB:pwanted (opsB i ops).toList fr (eB i k o)=pwanted ops.toList fr o:=by
   unfold pwanted
   have e:(eB i k o).guard=o.guard:=rfl
   rw [e]
   cases hgd:o.guard with
   | none=>rfl
   | some gb =>
    obtain ⟨g,b⟩:=gb
    obtain ⟨g1,g2⟩:=qqm hg ho hgd
    simp only []
    have:((opsB i ops).toList[g]?).bind (·.dst)=(ops.toList[g]?).bind (·.dst):=by
     rw [Array.getElem?_toList,Array.getElem?_toList]
     cases hx:ops[g]? with
     | none =>
      have:(opsB i ops)[g]?=none:=by
       rw [Array.getElem?_eq_none_iff] at hx ⊢
       rw [qpq]
       exact hx
      rw [this]
     | some y =>
      have:=atB hi hx
      rw [qqn g1 g2] at this
      rw [this]
      rfl
    rw [this]
  have hpB:pop tb Γ fr σ (eB i k o)=pop tb Γ fr σ o:=rfl
  have hdB:(eB i k o).dst=o.dst:=rfl
  rw [hwA] at hcA
  rw [hwB,hpB] at hcB
  rw [hdB] at hIB'
  have hcount:(listed.setIfInBounds k true).toList.count false≤fuel:=by
   have hlk:listed[k]?=some false:=by
    have hb:k < listed.size:=by omega
    unfold In at hn
    rw [Array.getD_eq_getD_getElem?,Array.getElem?_eq_getElem hb] at hn
    rw [Array.getElem?_eq_getElem hb]
    simpa using hn
   have:=qss listed.toList k (by rw [Array.getElem?_toList]; exact hlk)
   simp only [Array.toList_setIfInBounds]
   omega
  have hsize:(listed.setIfInBounds k true).size=ops.size:=by simp [hs]
  have n1:¬ In (listed.setIfInBounds k true) i:=by
   rw [qdJ (by omega)]
   rintro (h | h)
   ·exact e1 h.symm
   ·exact h1 h
  have n2:¬ In (listed.setIfInBounds k true) (i+1):=by
   rw [qdJ (by omega)]
   rintro (h | h)
   ·exact e2 h.symm
   ·exact h2 h
  unfold wpOpIn
  simp only [ho]
  rcases hcA with ⟨hw,rfl,rfl⟩ | ⟨hw,hp⟩
  ·rcases hcB with ⟨_,rfl,rfl⟩ | ⟨hw',_⟩
   ·have hwn:=qf4 hst hw
    simp only [hwn]
    exact ⟨fun _ _=>trivial,ih _ _ _ _ _ hsize hcount n1 n2 hIA' hIB' (quN hst _) r n⟩
   ·rw [hw] at hw'
    cases hw'
  ·rcases hcB with ⟨hw',_⟩ | ⟨_,hp'⟩
   ·rw [hw] at hw'
    cases hw'
   ·rw [hp] at hp'
    simp only [Option.some.injEq,Prod.mk.injEq] at hp'
    obtain ⟨rfl,rfl⟩:=hp'
    have hwn:=qf4 hst hw
    simp only [hwn,if_true]
    exact qre hT hΓ hst hp (fun a' w' hst'=>ih _ _ _ _ _ hsize hcount n1 n2 hIA' hIB' hst' r n) r n
theorem qqL (hT:qbN P tb) (hΓ:qaJ P gl Γ) (hm:P.follows .mixedOrders=true) {id i:Nat} {ops:Array Oper} (hi:i+1 < ops.size) (hg:qji i ops=true) {fr frA frB:List PV} {σ σA σB:Store} {a:Act} {w:World} (hst:St gl H0 w0 fr σ a w)
  (hA:pops tb Γ (opsA i ops).toList (opsA i ops).toList fr σ=some (frA,σA)) (hdA:ordered Γ (opsA i ops).toList=true∨(qck true Γ (opsA i ops).toList=true∧qel Γ (opsA i ops).toList frA σ.objs.length=true))
  (hB:pops tb Γ (opsB i ops).toList (opsB i ops).toList fr σ=some (frB,σB)) (hdB:ordered Γ (opsB i ops).toList=true∨(qck true Γ (opsB i ops).toList=true∧qel Γ (opsB i ops).toList frB σ.objs.length=true))
  (hqA:∀ a' w',St gl H0 w0 frA σA a' w'→Q .normal a' w') (hqB:∀ a' w',St gl H0 w0 frB σB a' w'→Q .normal a' w') (r:Option Nat) (n:Nat):(Code.region id ops true).wpIn (rnd r) n P Q a w:=by
 refine wpIn_region_any hm ?_
 obtain ⟨bA,FA,SA,XA,tA,hFA,hSA,hFA',hSA'⟩:=qAF hA hdA
 obtain ⟨bB,FB,SB,XB,tB,hFB,hSB,hFB',hSB'⟩:=qAF hB hdB
 rw [qvT] at hFA' hSA'
 rw [qpq] at hFB' hSB'
 have iA:=inv0 tA.tr ops.size
 have iB:=inv0 tB.tr ops.size
 rw [hFA,hSA] at iA
 rw [hFB,hSB] at iB
 exact qB7 hT hΓ hi hg tA tB (by rw [hFA',hSA']; exact hqA) (by rw [hFB',hSB']; exact hqB) ops.size _ fr σ _ _ (by simp) (Nat.le_trans List.count_le_length (by simp)) (qAe _ _) (qAe _ _) iA iB (qzl hst) r n
end
def hasR (id:Nat):Code→Bool
 | .region id' _ draw=>Nat.beq id' id && draw
 | .seq x y=>hasR id x || hasR id y
 | _=>false
def qhh (id i:Nat) (b:Bool):Code→Code
 | .region id' ops draw=>match Nat.beq id' id && draw with
  | true=>.region id' (match b with | true=>opsB i ops | false=>opsA i ops) draw
  | false=>.region id' ops draw
 | .seq x y=>match hasR id x with
  | true=>.seq (qhh id i b x) y
  | false=>.seq x (qhh id i b y)
 | c=>c
def qpX (id i:Nat):Code→Bool
 | .region id' ops draw=>!(Nat.beq id' id && draw) || (Nat.blt (i+1) ops.size && qji i ops)
 | .seq x y=>qpX id i x && qpX id i y
 | _=>true
def qxH (id i:Nat) (b:Bool) (fn:Func):Func:={ fn with body:=fn.body.map (qhh id i b) }
section
variable {P : Program} {tb : Tab} {gl : Gl} {Γ : Gam}
def qFw (P:Program) (gl:Gl) (c:Code) (fr:List PV) (σ:Store) (O:PExit→List PV→Store→Prop):Prop :=
 ∀ (r:Option Nat) (n:Nat) (H0:Gh) (w0:World),RIn r H0→∀ (Q:Exit→Act→World→Prop) (a:Act) (w:World),St gl H0 w0 fr σ a w→(∀ e fr' σ',O e fr' σ'→∀ a' w',St gl H0 w0 fr' σ' a' w'→Q e.as a' w')→c.wpIn (rnd r) n P Q a w
theorem Does.all {c:Code} {fr:List PV} {σ:Store} {e:PExit} {fr':List PV} {σ':Store} {O:PExit→List PV→Store→Prop} (h:Does P gl c fr σ e fr' σ') (ho:O e fr' σ'):qFw P gl c fr σ O :=
 fun r n H0 w0 hR Q a w hst hq=>h r n H0 w0 hR Q a w hst (hq _ _ _ ho)
theorem qES {ops:Array Oper} {fr fr1:List PV} {σ σ1:Store} {id:Nat} {e:PExit} {fr':List PV} {σ':Store} (hd:qbx Γ (.region id ops true)=true) {L:Lps} (h:pexec tb Γ L (.region id ops true) fr σ=some (e,fr',σ')) :
  e=.normal∧pops tb Γ ops.toList ops.toList fr σ=some (fr',σ')∧(ordered Γ ops.toList=true∨(qck true Γ ops.toList=true∧qel Γ ops.toList fr' σ.objs.length=true)):=by
 simp only [pexec] at h
 split at h
 ·rename_i fr1 σ1 hp
  split at h
  ·cases h
  rename_i hna
  simp only [Option.some.injEq,Prod.mk.injEq] at h
  obtain ⟨rfl,rfl,rfl⟩:=h
  refine ⟨rfl,hp,?_⟩
  simp only [qbx,Bool.not_true,Bool.false_or,Bool.or_eq_true,Bool.and_eq_true] at hd
  rcases hd with hd | ⟨hd1,hd2⟩
  ·exact .inl hd
  ·cases ho:ordered Γ ops.toList with
   | true=>exact .inl rfl
   | false =>
    refine .inr ⟨hd2,?_⟩
    cases hal:qel Γ ops.toList fr1 σ.objs.length with
    | true=>rfl
    | false=>simp [qBT,hd1,ho,hal] at hna
 ·cases h
theorem qls (hT:qbN P tb) (hΓ:qaJ P gl Γ) (hm:P.follows .mixedOrders=true) {L:Lps} {id i:Nat} {O:PExit→List PV→Store→Prop}:∀ (c:Code) (fr:List PV) (σ:Store) (eA:PExit) (frA:List PV) (σA:Store) (eB:PExit) (frB:List PV) (σB:Store),
  qpX id i c=true→qb8 P gl L c→qbx Γ (qhh id i false c)=true→qbx Γ (qhh id i true c)=true→pexec tb Γ L (qhh id i false c) fr σ=some (eA,frA,σA)→pexec tb Γ L (qhh id i true c) fr σ=some (eB,frB,σB)→O eA frA σA→O eB frB σB→qFw P gl c fr σ O
 | .region id' ops draw,fr,σ,eA,frA,σA,eB,frB,σB,hp,hL,hdA,hdB,hA,hB,oA,oB=>by
  cases hid:Nat.beq id' id && draw with
  | false =>
   simp only [qhh,hid] at hdA hA
   exact (qbp hT hΓ hm _ fr σ eA frA σA hL hdA hA).all oA
  | true =>
   have hdr:draw=true:=by
    cases draw with
    | true=>rfl
    | false=>simp at hid
   subst hdr
   simp only [qhh,hid] at hdA hdB hA hB
   simp only [qpX,hid,Bool.not_true,Bool.false_or,Bool.and_eq_true] at hp
   obtain ⟨rfl,a1,a2⟩:=qES (fr1:=fr) (σ1:=σ) hdA hA
   obtain ⟨rfl,b1,b2⟩:=qES (fr1:=fr) (σ1:=σ) hdB hB
   intro r n H0 w0 hR Q a w hst hq
   exact qqL hT hΓ hm (by simpa [Nat.blt_eq] using hp.1) hp.2 hst a1 a2 b1 b2 (hq _ _ _ oA) (hq _ _ _ oB) r n
 | .seq x y,fr,σ,eA,frA,σA,eB,frB,σB,hp,hL,hdA,hdB,hA,hB,oA,oB=>by
  simp only [qpX,Bool.and_eq_true] at hp
  cases hx:hasR id x with
  | true =>
   simp only [qhh,hx,qbx,Bool.and_eq_true] at hdA hdB
   simp only [qhh,hx,pexec] at hA hB
   intro r n H0 w0 hR Q a w hst hq
   refine wpIn_seq ?_
   -- behind the first part: the second,or out
   have key:∀ (b:Bool) (eX:PExit) (frX:List PV) (σX:Store),(match pexec tb Γ L (qhh id i b x) fr σ with | some (.normal,fr',σ')=>pexec tb Γ L y fr' σ' | r=>r)=some (eX,frX,σX)→O eX frX σX →
     ∃ e1 fr1 σ1,pexec tb Γ L (qhh id i b x) fr σ=some (e1,fr1,σ1)∧∀ a1 w1,St gl H0 w0 fr1 σ1 a1 w1→(match e1.as with | .normal=>y.wpIn (rnd r) n P Q a1 w1 | e=>Q e a1 w1):=by
    intro b eX frX σX h ho
    split at h
    ·rename_i fr1 σ1 hx1
     exact ⟨.normal,fr1,σ1,hx1,fun a1 w1 hst1=>qbp hT hΓ hm y fr1 σ1 eX frX σX hL.2 hdA.2 h r n H0 w0 hR _ _ _ hst1 (hq _ _ _ ho)⟩
    ·rename_i hne
     refine ⟨eX,frX,σX,h,fun a1 w1 hst1=>?_⟩
     cases eX with
     | normal=>exact absurd h (hne _ _)
     | exit id=>exact hq _ _ _ ho _ _ hst1
     | ret=>exact hq _ _ _ ho _ _ hst1
   obtain ⟨e1,f1,s1,p1,k1⟩:=key false _ _ _ hA oA
   obtain ⟨e2,f2,s2,p2,k2⟩:=key true _ _ _ hB oB
   refine qls hT hΓ hm (O:=fun e f s=>(e,f,s)=(e1,f1,s1)∨(e,f,s)=(e2,f2,s2)) x fr σ _ _ _ _ _ _ hp.1 hL.1 hdA.1 hdB.1 p1 p2 (.inl rfl) (.inr rfl) r n H0 w0 hR _ a w hst ?_
   rintro e f s (h | h) a1 w1 hst1
   ·cases h
    have:=k1 a1 w1 hst1
    cases e1 <;> exact this
   ·cases h
    have:=k2 a1 w1 hst1
    cases e2 <;> exact this
  | false =>
   simp only [qhh,hx,qbx,Bool.and_eq_true] at hdA hdB
   simp only [qhh,hx,pexec] at hA hB
   intro r n H0 w0 hR Q a w hst hq
   refine wpIn_seq ?_
   cases hx1:pexec tb Γ L x fr σ with
   | none=>rw [hx1] at hA; cases hA
   | some t =>
    obtain ⟨e1,f1,s1⟩:=t
    refine qbp hT hΓ hm x fr σ e1 f1 s1 hL.1 hdA.1 hx1 r n H0 w0 hR _ a w hst fun a1 w1 hst1=>?_
    rw [hx1] at hA hB
    cases e1 with
    | normal=>exact qls hT hΓ hm (O:=O) y f1 s1 _ _ _ _ _ _ hp.2 hL.2 hdA.2 hdB.2 hA hB oA oB r n H0 w0 hR Q a1 w1 hst1 hq
    | exit id =>
     simp only [Option.some.injEq,Prod.mk.injEq] at hA
     obtain ⟨rfl,rfl,rfl⟩:=hA
     exact hq _ _ _ oA _ _ hst1
    | ret =>
     simp only [Option.some.injEq,Prod.mk.injEq] at hA
     obtain ⟨rfl,rfl,rfl⟩:=hA
     exact hq _ _ _ oA _ _ hst1
 | .skip,fr,σ,eA,frA,σA,eB,frB,σB,hp,hL,hdA,hdB,hA,hB,oA,oB=>(qbp hT hΓ hm _ fr σ eA frA σA hL hdA hA).all oA
 | .label _,fr,σ,eA,frA,σA,eB,frB,σB,hp,hL,hdA,hdB,hA,hB,oA,oB=>(qbp hT hΓ hm _ fr σ eA frA σA hL hdA hA).all oA
 | .cond _ _ _,fr,σ,eA,frA,σA,eB,frB,σB,hp,hL,hdA,hdB,hA,hB,oA,oB=>(qbp hT hΓ hm _ fr σ eA frA σA hL hdA hA).all oA
 | .block _ _,fr,σ,eA,frA,σA,eB,frB,σB,hp,hL,hdA,hdB,hA,hB,oA,oB=>(qbp hT hΓ hm _ fr σ eA frA σA hL hdA hA).all oA
 | .loop _,fr,σ,eA,frA,σA,eB,frB,σB,hp,hL,hdA,hdB,hA,hB,oA,oB=>(qbp hT hΓ hm _ fr σ eA frA σA hL hdA hA).all oA
 | .scope _,fr,σ,eA,frA,σA,eB,frB,σB,hp,hL,hdA,hdB,hA,hB,oA,oB=>(qbp hT hΓ hm _ fr σ eA frA σA hL hdA hA).all oA
 | .exit _,fr,σ,eA,frA,σA,eB,frB,σB,hp,hL,hdA,hdB,hA,hB,oA,oB=>(qbp hT hΓ hm _ fr σ eA frA σA hL hdA hA).all oA
 | .rangeFunc _ _ _ _,fr,σ,eA,frA,σA,eB,frB,σB,hp,hL,hdA,hdB,hA,hB,oA,oB=>(qbp hT hΓ hm _ fr σ eA frA σA hL hdA hA).all oA
 | .goto _,fr,σ,eA,frA,σA,eB,frB,σB,hp,hL,hdA,hdB,hA,hB,oA,oB=>(qbp hT hΓ hm _ fr σ eA frA σA hL hdA hA).all oA
 | .refuse _,fr,σ,eA,frA,σA,eB,frB,σB,hp,hL,hdA,hdB,hA,hB,oA,oB=>(qbp hT hΓ hm _ fr σ eA frA σA hL hdA hA).all oA
 | .ret,fr,σ,eA,frA,σA,eB,frB,σB,hp,hL,hdA,hdB,hA,hB,oA,oB=>(qbp hT hΓ hm _ fr σ eA frA σA hL hdA hA).all oA
theorem SimP.of_doesO (hT : qbN P tb) {f : FuncId} {fn : Func} {c : Code} (hf : P.funcs[f]? = some fn) (hb : fn.body = some c) (hn : (fn.name == "runtime.NumGoroutine") = false)
  {F:List PV→Option PV} (h:∀ args x,F args=some x→(∃ H w vs,RelL H w args vs)→∃ O:PExit→List PV→Store→Prop,qFw P gl c (args++List.replicate (fn.ntmps - args.length) .top) ⟨[],[],[]⟩ O ∧
   ∀ e fr σ,O e fr σ→(e=.normal∨e=.ret)∧∃ xs,presults tb fr σ fn.results.toList=some xs∧pout (xs.map (oview σ.objs))=x):SimP P gl f F where
 ent:=⟨fn,hf,hn,by simp [hb]⟩
 run:=by
  intro args x hx H w vs hB hob htk hgl hrel
  obtain ⟨O,hdo,hO⟩:=h args x hx ⟨H,w,vs,hrel⟩
  refine qoX (r:=none) (n:=0) (callsIn_of_wp_marks hf hb trivial ?_)
  have hst:St gl { H with K:=w.heap.size } w (args++List.replicate (fn.ntmps - args.length) .top) ⟨[],[],[]⟩ { tmps:=vs.toArray++Array.replicate (fn.ntmps - vs.toArray.size) undef,defers:=[] } w:=by
   refine ⟨{ H with K:=w.heap.size },Ev.refl _ w,⟨by show H.B≤_; rw [hB]; exact Nat.le_refl _,fun b o e=>⟨by show b < H.B; rw [hB]; exact qak (hgl b o e),hgl b o e⟩,by simp [hob],fun id b cs e=>by simp [hob] at e,fun i j b e=>by simp [hob] at e,by simp [htk],fun t T e=>by simp [htk] at e,fun t u T U e=>by simp [htk] at e,rfl,fun id b T cs e=>by simp [hob] at e⟩,?_,Marks.nil (Nat.le_refl _)⟩
   have hl:=hrel.len
   have e:(vs.toArray++Array.replicate (fn.ntmps - vs.toArray.size) undef).toList=vs++List.replicate (fn.ntmps - args.length) undef:=by simp [hl]
   rw [e]
   refine (hrel.mono (Mono.setK' H w _)).app ?_
   have:=RelL.tops (H:={ H with K:=w.heap.size }) (w:=w) (List.replicate (fn.ntmps - args.length) undef)
   simpa using this
  have fin:∀ (fr:List PV) (σ:Store) (a:Act) (w':World) (xs:List PV),St gl { H with K:=w.heap.size } w fr σ a w'→presults tb fr σ fn.results.toList=some xs→pout (xs.map (oview σ.objs))=x →
    LeavesInM (rnd none) 0 P fn a.tmps (fun e w'=>∃ v,e=.returned v∧(Below w.heap.size w w'∧Dr gl w w')∧Rel { H with aux:=fun _ _=>False } w' x v) a.defers .returning w':=by
   intro fr σ a w1 xs hst hxs hx
   obtain ⟨H',hev1,hok1,hfr1,_,Ds,hds,hnd,hD⟩:=hst
   rw [hds]
   refine qfk (gl:=gl) (H:={ H with K:=w.heap.size }) (H':=H') (w0:=w) (σ:=σ) (by show H.B≤_; rw [hB]; exact Nat.le_refl _) hev1.B Ds w1 hev1 hok1 (Ev.refl (gl:=gl) H' w1).mono hnd (fun D hDs=>by have h1:=hD D hDs; rw [hev1.K] at h1; exact h1) ?_
   intro w' hev hok hmo
   have hfr:=hfr1.mono hmo
   obtain ⟨vs',hvs,hrs⟩:=qg0 hT hok hfr _ _ hxs
   have hbel:Below w.heap.size w w':=⟨hev.os,hev.tape,hev.output,hev.size,fun b hlt=>hev.block b (by show b < H.B; rw [hB]; exact hlt)⟩
   have hrun:(results fn a.tmps).run P w'=.ok (if h:vs'.toArray.size=1 then vs'.toArray[0] else .tuple vs'.toArray) w':=by
    rw [qle]
    simp only [Sem.run_bind,hvs,Result.andThen_ok,Sem.run_pure]
   have back:∀ {y:PV} {u:Value},Rel { { H with K:=w.heap.size } with aux:=fun _ _=>False } w' y u→Rel { H with aux:=fun _ _=>False } w' y u:=fun h=>Rel.mono (Mono.setK { H with aux:=fun _ _=>False } w' w.heap.size) h
   have backL:∀ {y:List PV} {u:List Value},RelL { { H with K:=w.heap.size } with aux:=fun _ _=>False } w' y u→RelL { H with aux:=fun _ _=>False } w' y u:=fun h=>RelL.mono (Mono.setK { H with aux:=fun _ _=>False } w' w.heap.size) h
   refine ⟨_,hrun,_,rfl,⟨hbel,hev.dr⟩,?_⟩
   subst hx
   have hl:=hrs.len
   cases hrs with
   | nil =>
    simp only [List.map_nil,pout,qf5]
    exact .tup [] [] .nil
   | cons y v ys us hy hys =>
    cases hys with
    | nil=>exact back (qoA hev hok hob htk hy)
    | cons y2 v2 ys us hy2 hys =>
     have h1:¬ ((v :: v2 :: us).toArray.size=1):=by simp
     rw [dif_neg h1]
     exact .tup _ _ (backL (qlS hev hok hob htk (.cons _ _ _ _ hy (.cons _ _ _ _ hy2 hys))))
  refine hdo none 0 _ w (RIn.none _) _ _ _ hst fun e fr1 σ1 ho a' w' hst'=>?_
  obtain ⟨he,xs,hxs,hpo⟩:=hO e fr1 σ1 ho
  rcases he with rfl | rfl
  ·exact fin fr1 σ1 a' w' xs hst' hxs hpo
  ·exact fin fr1 σ1 a' w' xs hst' hxs hpo
theorem qp1 {L:Lps} {fn:Func} {c:Code} (hb:fn.body=some c) {args:List PV} {x:PV} (h:pcall tb Γ L fn args=some x):∃ e fr σ,pexec tb Γ L c (args++List.replicate (fn.ntmps - args.length) .top) ⟨[],[],[]⟩=some (e,fr,σ)∧(e=.normal∨e=.ret)∧∃ xs,presults tb fr σ fn.results.toList=some xs∧pout (xs.map (oview σ.objs))=x:=by
 simp only [pcall,hb] at h
 split at h
 ·rename_i fr σ he
  obtain ⟨xs,hxs,hpo⟩:=qbl h
  exact ⟨.normal,fr,σ,he,.inl rfl,xs,hxs,hpo⟩
 ·rename_i fr σ he
  obtain ⟨xs,hxs,hpo⟩:=qbl h
  exact ⟨.ret,fr,σ,he,.inr rfl,xs,hxs,hpo⟩
 ·cases h
theorem SimP.of_swap {G : GamT} (hT : qbN P tb) (hΓ : qaJ P gl (gam G)) (hm : P.follows .mixedOrders = true) (id i : Nat) {f : FuncId} {fn : Func} {c : Code} (hf : P.funcs[f]? = some fn) (hb : fn.body = some c) (hn : (fn.name == "runtime.NumGoroutine") = false)
  (hp:qpX id i c=true) (hdA:qbx (gam G) (qhh id i false c)=true) (hdB:qbx (gam G) (qhh id i true c)=true) {L:LpsT} (hL:qb8 P gl (lps L) c) {F:List PV→Tr PV}
  (h:∀ args x,(F args).run=some x→(tcall tb G L (qxH id i false fn) args).flat.run=some x∧(tcall tb G L (qxH id i true fn) args).flat.run=some x):SimP P gl f fun args=>(F args).run:=by
 refine SimP.of_doesO hT hf hb hn fun args x hx _=>?_
 obtain ⟨hA,hB⟩:=h args x hx
 have bd:∀ b,(qxH id i b fn).body=some (qhh id i b c):=fun b=>by simp [qxH,hb]
 obtain ⟨eA,frA,σA,pA,qA⟩:=qp1 (bd false) (qo9 (Tr.flat_run hA))
 obtain ⟨eB,frB,σB,pB,qB⟩:=qp1 (bd true) (qo9 (Tr.flat_run hB))
 refine ⟨fun e fr σ=>(e=.normal∨e=.ret)∧∃ xs,presults tb fr σ fn.results.toList=some xs∧pout (xs.map (oview σ.objs))=x,?_,fun _ _ _ h=>h⟩
 exact qls hT hΓ hm c _ _ eA frA σA eB frB σB hp hL hdA hdB pA pB qA qB
end
end Go.Pv
set_option maxHeartbeats 4000000
set_option maxRecDepth 200000
set_option linter.unusedSimpArgs false
set_option linter.unusedVariables false
namespace Go.Pv
open Go Go.Proofs
noncomputable def qsb:GamT:=ofL [(18,.pure qlP),(20,.pure qqc),(26,.pure qvN),(30,.pure qFA)]
theorem qCD (gl:Gl) (hg:GlLex gl):qaJ Tryz.prog gl (gam qsb):=(qad (qjS gl hg) (qad (qmM gl hg) (qad (qCw gl hg) (qad (qFI gl hg) qag))))
noncomputable def quE:LpsT:=fun r fr σ=>.fail
noncomputable def qmE:Tr PV:=.ite (qeh [112] [[.int .i64 1,.str [88],.int .i64 0,.int .i64 0,.str []]] [[.int .i64 2,.str [113],.sl [[.int .i64 1,.str [88],.int .i64 0,.int .i64 0,.str []],[.int .i64 3,.str [],.int .i64 0,.int .i64 0,.str []]] .non,.int .i64 0,.int .i64 0,.str [],.int .i64 0,.int .i64 0,.str [],.int .i64 0,.str [],.int .i64 0,.int .i64 0,.str []],[.int .i64 3,.str [],.sl [] .non,.int .i64 2,.int .i64 1,.str [88],.int .i64 0,.int .i64 0,.str [],.int .i64 2,.str [],.int .i64 1,.int .i64 (-3),.str []]]) (.ite (qhJ [103,111] [[.str [88],.int .i64 1]] [[.bool true,.str [112],.sl [[.int .i64 1,.str [88],.int .i64 0,.int .i64 0,.str []]] .non]]) (.ite (iEq (qhe [112] [[.int .i64 1,.str [88],.int .i64 0,.int .i64 0,.str []]] [[.int .i64 2,.str [113],.sl [[.int .i64 1,.str [88],.int .i64 0,.int .i64 0,.str []],[.int .i64 3,.str [],.int .i64 0,.int .i64 0,.str []]] .non,.int .i64 0,.int .i64 0,.str [],.int .i64 0,.int .i64 0,.str [],.int .i64 0,.str [],.int .i64 0,.int .i64 0,.str []],[.int .i64 3,.str [],.sl [] .non,.int .i64 2,.int .i64 1,.str [88],.int .i64 0,.int .i64 0,.str [],.int .i64 2,.str [],.int .i64 1,.int .i64 (-3),.str []]]) 0) (.ite (sEq (qgk [112] [[.int .i64 1,.str [88],.int .i64 0,.int .i64 0,.str []]] [[.int .i64 2,.str [113],.sl [[.int .i64 1,.str [88],.int .i64 0,.int .i64 0,.str []],[.int .i64 3,.str [],.int .i64 0,.int .i64 0,.str []]] .non,.int .i64 0,.int .i64 0,.str [],.int .i64 0,.int .i64 0,.str [],.int .i64 0,.str [],.int .i64 0,.int .i64 0,.str []],[.int .i64 3,.str [],.sl [] .non,.int .i64 2,.int .i64 1,.str [88],.int .i64 0,.int .i64 0,.str [],.int .i64 2,.str [],.int .i64 1,.int .i64 (-3),.str []]]) [112,40,88,41,32,58,45,32,110,111,116,32,113,40,88,44,32,95,41,44,32,88,32,33,61,32,45,51,46]) (.ite (iEq (qq8 [103,111] [[.str [88],.int .i64 1]] [[.bool true,.str [112],.sl [[.int .i64 1,.str [88],.int .i64 0,.int .i64 0,.str []]] .non]]) 0) (.ite (sEq
 (qrs [103,111] [[.str [88],.int .i64 1]] [[.bool true,.str [112],.sl [[.int .i64 1,.str [88],.int .i64 0,.int .i64 0,.str []]] .non]]) [111,110,32,103,111,40,88,32,105,110,116,41,58,32,43,112,40,88,41,46]) (.ite (qc2 [110,111,116]) (.ite (bNot (qeH [110,111,116])) (.ite (qeu [65,98]) (.ret (.bool (qi0 [65,98]))) .fail) (.ret (.bool false))) .fail) (.ret (.bool false))) (.ret (.bool false))) (.ret (.bool false))) (.ret (.bool false))) .fail) .fail
theorem qGX:(tcall tbT qsb quE (qxH 2 7 false Tryz.f22) []).flat=qmE:=by kernel_rfl
theorem qEh:(tcall tbT qsb quE (qxH 2 7 true Tryz.f22) []).flat=qmE:=by kernel_rfl
noncomputable def qqN:Option PV:=(qmE).run
noncomputable def qlD:Bool:=(qcc (gVal (qqN)))
noncomputable def qkF:Bool:=isW (qqN) (.bool (qlD))
noncomputable def qtR:List PV→Tr PV | []=>.ite (qkF) (.ret (.bool (qlD))) (.fail) | _=>.fail
theorem qBM (gl:Gl) (hg:GlLex gl):SimP Tryz.prog gl 22 fun args=>(qtR args).run:=by
 refine SimP.of_swap (G:=qsb) (L:=quE) qaj (qCD gl hg ) qah 2 7 Tryz.func22 rfl (by rfl) (by kernel_rfl) (by kernel_rfl) (by kernel_rfl) (qae (by kernel_rfl)) ?_
 intro args x h
 unfold qtR at h
 split at h
 ·have h:=(qai h fun h=>by cases h)
  exact ⟨(congrArg Tr.run (qGX)).trans h,(congrArg Tr.run (qEh)).trans h⟩
 ·cases h
noncomputable def qr6:GamT:=ofL [(9,.pure qno),(10,.pure qlk),(11,.pure F_tx),(12,.pure quC),(13,.pure qpi),(14,.pure qvm),(15,.pure qrj),(16,.pure qlE),(17,.pure qlb),(18,.pure qlP),(19,.pure qsf),(20,.pure qqc),(21,.pure qxu),(22,.pure qtR)]
theorem qyy (gl:Gl) (hg:GlLex gl):qaJ Tryz.prog gl (gam qr6):=(qad (qos gl) (qad (qsK gl) (qad (qzw gl) (qad (qBS gl hg) (qad (qok gl) (qad (qBk gl hg) (qad (qs8 gl) (qad (qsr gl hg) (qad (qtl gl) (qad (qjS gl hg) (qad (qsO gl) (qad (qmM gl hg) (qad (qwX gl) (qad (qBM gl hg) qag))))))))))))))
noncomputable def qxs:LpsT:=fun r fr σ=>.fail
noncomputable def qnY (v:Int) (v2:List UInt8) (v3:Int) (v4:Int) (v5:List UInt8) (v6:Int) (v7:List UInt8) (v8:List (List PV)) (v9:Int) (v10:Int) (v11:List UInt8) (v12:Int) (v13:Int) (v14:List UInt8) (v15:Int) (v16:List UInt8) (v17:Int) (v18:Int) (v19:List UInt8) (v20:List UInt8):Tr PV:=.ite (qco v v2 v3 v4 v5) (.ite (qa4 v6 v7 (qac v8) v9 v10 v11 v12 v13 v14 v15 v16 v17 v18 v19) (.ite (qo7 v20) (.ite (qfS (qb6 v v2 v3 v4 v5) (qb4 v v2 v3 v4 v5) (qbI v v2 v3 v4 v5) (qbJ v v2 v3 v4 v5) (qbG v v2 v3 v4 v5)) (.ite (qbu (qb6 v v2 v3 v4 v5) (qb4 v v2 v3 v4 v5) (qbI v v2 v3 v4 v5) (qbJ v v2 v3 v4 v5) (qbG v v2 v3 v4 v5)) (.ite (qgd (qaD v6 v7 (qac v8) v9 v10 v11 v12 v13 v14 v15 v16 v17 v18 v19) (qac (qaE v6 v7 (qac v8) v9 v10 v11 v12 v13 v14 v15 v16 v17 v18 v19))) (.ite (qei (qaD v6 v7 (qac v8) v9 v10 v11 v12 v13 v14 v15 v16 v17 v18 v19) (qac (qaE v6 v7 (qac v8) v9 v10 v11 v12 v13 v14 v15 v16 v17 v18 v19))) (.ite (qdi (qa3 v6 v7 (qac v8) v9 v10 v11 v12 v13 v14 v15 v16 v17 v18 v19) (qaD v6 v7 (qac v8) v9 v10 v11 v12 v13 v14 v15 v16 v17 v18 v19) (qac (qaE v6 v7 (qac v8) v9 v10 v11 v12 v13 v14 v15 v16 v17 v18 v19)) (qaU v6 v7 (qac v8) v9 v10 v11 v12 v13 v14 v15 v16 v17 v18 v19) (qaP v6 v7 (qac v8) v9 v10 v11 v12 v13 v14 v15 v16 v17 v18 v19) (qaM v6 v7 (qac v8) v9 v10 v11 v12 v13 v14 v15 v16 v17 v18 v19) (qaK v6 v7 (qac v8) v9 v10 v11 v12 v13 v14 v15 v16 v17 v18 v19) (qaT v6 v7 (qac v8) v9 v10 v11 v12 v13 v14 v15 v16 v17 v18 v19) (qaO v6 v7 (qac v8) v9 v10 v11 v12 v13 v14 v15 v16 v17 v18 v19) (qaN v6 v7 (qac v8) v9 v10 v11 v12 v13 v14 v15 v16 v17 v18 v19)
 (qaQ v6 v7 (qac v8) v9 v10 v11 v12 v13 v14 v15 v16 v17 v18 v19) (qaL v6 v7 (qac v8) v9 v10 v11 v12 v13 v14 v15 v16 v17 v18 v19) (qaR v6 v7 (qac v8) v9 v10 v11 v12 v13 v14 v15 v16 v17 v18 v19) (qaV v6 v7 (qac v8) v9 v10 v11 v12 v13 v14 v15 v16 v17 v18 v19)) (.ite (qdn (qa3 v6 v7 (qac v8) v9 v10 v11 v12 v13 v14 v15 v16 v17 v18 v19) (qaD v6 v7 (qac v8) v9 v10 v11 v12 v13 v14 v15 v16 v17 v18 v19) (qac (qaE v6 v7 (qac v8) v9 v10 v11 v12 v13 v14 v15 v16 v17 v18 v19)) (qaU v6 v7 (qac v8) v9 v10 v11 v12 v13 v14 v15 v16 v17 v18 v19) (qaP v6 v7 (qac v8) v9 v10 v11 v12 v13 v14 v15 v16 v17 v18 v19) (qaM v6 v7 (qac v8) v9 v10 v11 v12 v13 v14 v15 v16 v17 v18 v19) (qaK v6 v7 (qac v8) v9 v10 v11 v12 v13 v14 v15 v16 v17 v18 v19) (qaT v6 v7 (qac v8) v9 v10 v11 v12 v13 v14 v15 v16 v17 v18 v19) (qaO v6 v7 (qac v8) v9 v10 v11 v12 v13 v14 v15 v16 v17 v18 v19) (qaN v6 v7 (qac v8) v9 v10 v11 v12 v13 v14 v15 v16 v17 v18 v19) (qaQ v6 v7 (qac v8) v9 v10 v11 v12 v13 v14 v15 v16 v17 v18 v19) (qaL v6 v7 (qac v8) v9 v10 v11 v12 v13 v14 v15 v16 v17 v18 v19) (qaR v6 v7 (qac v8) v9 v10 v11 v12 v13 v14 v15 v16 v17 v18 v19) (qaV v6 v7 (qac v8) v9 v10 v11 v12 v13 v14 v15 v16 v17 v18 v19)) (.ite (sEq (qju (qb6 v v2 v3 v4 v5) (qb4 v v2 v3 v4 v5) (qbI v v2 v3 v4 v5) (qbJ v v2 v3 v4 v5) (qbG v v2 v3 v4 v5)) (qax (qb6 v v2 v3 v4 v5) (qb4 v v2 v3 v4 v5) (qbI v v2 v3 v4 v5) (qbJ v v2 v3 v4 v5) (qbG v v2 v3 v4 v5))) (.ite (iEq (qjx (qb6 v v2 v3 v4 v5) (qb4 v v2 v3 v4 v5) (qbI v v2 v3 v4 v5) (qbJ v v2 v3 v4 v5) (qbG v v2 v3 v4 v5)) (qbU (qb6 v v2 v3 v4 v5) (qb4 v v2 v3 v4 v5) (qbI v v2 v3 v4 v5) (qbJ v v2 v3 v4 v5) (qbG v v2 v3 v4 v5))) (.ite (sEq
 (qjg (qaD v6 v7 (qac v8) v9 v10 v11 v12 v13 v14 v15 v16 v17 v18 v19) (qac (qaE v6 v7 (qac v8) v9 v10 v11 v12 v13 v14 v15 v16 v17 v18 v19))) (qdb (qaD v6 v7 (qac v8) v9 v10 v11 v12 v13 v14 v15 v16 v17 v18 v19) (qac (qaE v6 v7 (qac v8) v9 v10 v11 v12 v13 v14 v15 v16 v17 v18 v19)))) (.ite (iEq (qjA (qaD v6 v7 (qac v8) v9 v10 v11 v12 v13 v14 v15 v16 v17 v18 v19) (qac (qaE v6 v7 (qac v8) v9 v10 v11 v12 v13 v14 v15 v16 v17 v18 v19))) (qdf (qaD v6 v7 (qac v8) v9 v10 v11 v12 v13 v14 v15 v16 v17 v18 v19) (qac (qaE v6 v7 (qac v8) v9 v10 v11 v12 v13 v14 v15 v16 v17 v18 v19)))) (.ite (sEq (qd0 (qa3 v6 v7 (qac v8) v9 v10 v11 v12 v13 v14 v15 v16 v17 v18 v19) (qaD v6 v7 (qac v8) v9 v10 v11 v12 v13 v14 v15 v16 v17 v18 v19) (qac (qaE v6 v7 (qac v8) v9 v10 v11 v12 v13 v14 v15 v16 v17 v18 v19)) (qaU v6 v7 (qac v8) v9 v10 v11 v12 v13 v14 v15 v16 v17 v18 v19) (qaP v6 v7 (qac v8) v9 v10 v11 v12 v13 v14 v15 v16 v17 v18 v19) (qaM v6 v7 (qac v8) v9 v10 v11 v12 v13 v14 v15 v16 v17 v18 v19) (qaK v6 v7 (qac v8) v9 v10 v11 v12 v13 v14 v15 v16 v17 v18 v19) (qaT v6 v7 (qac v8) v9 v10 v11 v12 v13 v14 v15 v16 v17 v18 v19) (qaO v6 v7 (qac v8) v9 v10 v11 v12 v13 v14 v15 v16 v17 v18 v19) (qaN v6 v7 (qac v8) v9 v10 v11 v12 v13 v14 v15 v16 v17 v18 v19) (qaQ v6 v7 (qac v8) v9 v10 v11 v12 v13 v14 v15 v16 v17 v18 v19) (qaL v6 v7 (qac v8) v9 v10 v11 v12 v13 v14 v15 v16 v17 v18 v19) (qaR v6 v7 (qac v8) v9 v10 v11 v12 v13 v14 v15 v16 v17 v18 v19) (qaV v6 v7 (qac v8) v9 v10 v11 v12 v13 v14 v15 v16 v17 v18 v19)) (qd5 (qa3 v6 v7 (qac v8) v9 v10 v11 v12 v13 v14 v15 v16 v17 v18 v19) (qaD v6 v7 (qac v8) v9 v10 v11 v12 v13 v14 v15 v16 v17 v18 v19)
 (qac (qaE v6 v7 (qac v8) v9 v10 v11 v12 v13 v14 v15 v16 v17 v18 v19)) (qaU v6 v7 (qac v8) v9 v10 v11 v12 v13 v14 v15 v16 v17 v18 v19) (qaP v6 v7 (qac v8) v9 v10 v11 v12 v13 v14 v15 v16 v17 v18 v19) (qaM v6 v7 (qac v8) v9 v10 v11 v12 v13 v14 v15 v16 v17 v18 v19) (qaK v6 v7 (qac v8) v9 v10 v11 v12 v13 v14 v15 v16 v17 v18 v19) (qaT v6 v7 (qac v8) v9 v10 v11 v12 v13 v14 v15 v16 v17 v18 v19) (qaO v6 v7 (qac v8) v9 v10 v11 v12 v13 v14 v15 v16 v17 v18 v19) (qaN v6 v7 (qac v8) v9 v10 v11 v12 v13 v14 v15 v16 v17 v18 v19) (qaQ v6 v7 (qac v8) v9 v10 v11 v12 v13 v14 v15 v16 v17 v18 v19) (qaL v6 v7 (qac v8) v9 v10 v11 v12 v13 v14 v15 v16 v17 v18 v19) (qaR v6 v7 (qac v8) v9 v10 v11 v12 v13 v14 v15 v16 v17 v18 v19) (qaV v6 v7 (qac v8) v9 v10 v11 v12 v13 v14 v15 v16 v17 v18 v19))) (.ite (iEq (qdL (qa3 v6 v7 (qac v8) v9 v10 v11 v12 v13 v14 v15 v16 v17 v18 v19) (qaD v6 v7 (qac v8) v9 v10 v11 v12 v13 v14 v15 v16 v17 v18 v19) (qac (qaE v6 v7 (qac v8) v9 v10 v11 v12 v13 v14 v15 v16 v17 v18 v19)) (qaU v6 v7 (qac v8) v9 v10 v11 v12 v13 v14 v15 v16 v17 v18 v19) (qaP v6 v7 (qac v8) v9 v10 v11 v12 v13 v14 v15 v16 v17 v18 v19) (qaM v6 v7 (qac v8) v9 v10 v11 v12 v13 v14 v15 v16 v17 v18 v19) (qaK v6 v7 (qac v8) v9 v10 v11 v12 v13 v14 v15 v16 v17 v18 v19) (qaT v6 v7 (qac v8) v9 v10 v11 v12 v13 v14 v15 v16 v17 v18 v19) (qaO v6 v7 (qac v8) v9 v10 v11 v12 v13 v14 v15 v16 v17 v18 v19) (qaN v6 v7 (qac v8) v9 v10 v11 v12 v13 v14 v15 v16 v17 v18 v19) (qaQ v6 v7 (qac v8) v9 v10 v11 v12 v13 v14 v15 v16 v17 v18 v19) (qaL v6 v7 (qac v8) v9 v10 v11 v12 v13 v14 v15 v16 v17 v18 v19) (qaR v6 v7 (qac v8) v9 v10 v11 v12 v13 v14 v15 v16 v17 v18 v19) (qaV v6 v7 (qac v8) v9 v10 v11 v12 v13 v14 v15 v16 v17 v18 v19))
 (qdQ (qa3 v6 v7 (qac v8) v9 v10 v11 v12 v13 v14 v15 v16 v17 v18 v19) (qaD v6 v7 (qac v8) v9 v10 v11 v12 v13 v14 v15 v16 v17 v18 v19) (qac (qaE v6 v7 (qac v8) v9 v10 v11 v12 v13 v14 v15 v16 v17 v18 v19)) (qaU v6 v7 (qac v8) v9 v10 v11 v12 v13 v14 v15 v16 v17 v18 v19) (qaP v6 v7 (qac v8) v9 v10 v11 v12 v13 v14 v15 v16 v17 v18 v19) (qaM v6 v7 (qac v8) v9 v10 v11 v12 v13 v14 v15 v16 v17 v18 v19) (qaK v6 v7 (qac v8) v9 v10 v11 v12 v13 v14 v15 v16 v17 v18 v19) (qaT v6 v7 (qac v8) v9 v10 v11 v12 v13 v14 v15 v16 v17 v18 v19) (qaO v6 v7 (qac v8) v9 v10 v11 v12 v13 v14 v15 v16 v17 v18 v19) (qaN v6 v7 (qac v8) v9 v10 v11 v12 v13 v14 v15 v16 v17 v18 v19) (qaQ v6 v7 (qac v8) v9 v10 v11 v12 v13 v14 v15 v16 v17 v18 v19) (qaL v6 v7 (qac v8) v9 v10 v11 v12 v13 v14 v15 v16 v17 v18 v19) (qaR v6 v7 (qac v8) v9 v10 v11 v12 v13 v14 v15 v16 v17 v18 v19) (qaV v6 v7 (qac v8) v9 v10 v11 v12 v13 v14 v15 v16 v17 v18 v19))) (.ite (qc2 (tx_s v20)) (.ite (qfZ (tx_s v20)) (.ite (bEq (qeH (tx_s v20)) (qi8 (tx_s v20))) (.ite (qeu (tx_s v20)) (.ite (qhV (tx_s v20)) (.ite (bEq (qi0 (tx_s v20)) (qo3 (tx_s v20))) (.ite qkF (.ret (.bool qlD)) .fail) (.ret (.bool false))) .fail) .fail) (.ret (.bool false))) .fail) .fail) (.ret (.bool false))) (.ret (.bool false))) (.ret (.bool false))) (.ret (.bool false))) (.ret (.bool false))) (.ret (.bool false))) .fail) .fail) .fail) .fail) .fail) .fail) .fail) .fail) .fail
theorem qDm (v:Int) (v2:List UInt8) (v3:Int) (v4:Int) (v5:List UInt8) (v6:Int) (v7:List UInt8) (v8:List (List PV)) (v9:Int) (v10:Int) (v11:List UInt8) (v12:Int) (v13:Int) (v14:List UInt8) (v15:Int) (v16:List UInt8) (v17:Int) (v18:Int) (v19:List UInt8) (v20:List UInt8):(tcall tbT qr6 qxs Tryz.f3 [.agg [.int .i64 v,.str v2,.int .i64 v3,.int .i64 v4,.str v5],.agg [.int .i64 v6,.str v7,.sl v8 .non,.int .i64 v9,.int .i64 v10,.str v11,.int .i64 v12,.int .i64 v13,.str v14,.int .i64 v15,.str v16,.int .i64 v17,.int .i64 v18,.str v19],.str v20]).flat=qnY v v2 v3 v4 v5 v6 v7 v8 v9 v10 v11 v12 v13 v14 v15 v16 v17 v18 v19 v20:=by kernel_rfl
noncomputable def qmy (v:Int) (v2:List UInt8) (v3:Int) (v4:Int) (v5:List UInt8) (v6:Int) (v7:List UInt8) (v8:List (List PV)) (v9:Int) (v10:Int) (v11:List UInt8) (v12:Int) (v13:Int) (v14:List UInt8) (v15:Int) (v16:List UInt8) (v17:Int) (v18:Int) (v19:List UInt8) (v20:List UInt8):Option PV:=(qnY v v2 v3 v4 v5 v6 v7 v8 v9 v10 v11 v12 v13 v14 v15 v16 v17 v18 v19 v20).run
noncomputable def qmp (v:Int) (v2:List UInt8) (v3:Int) (v4:Int) (v5:List UInt8) (v6:Int) (v7:List UInt8) (v8:List (List PV)) (v9:Int) (v10:Int) (v11:List UInt8) (v12:Int) (v13:Int) (v14:List UInt8) (v15:Int) (v16:List UInt8) (v17:Int) (v18:Int) (v19:List UInt8) (v20:List UInt8):Bool:=(qcc (gVal (qmy v v2 v3 v4 v5 v6 v7 v8 v9 v10 v11 v12 v13 v14 v15 v16 v17 v18 v19 v20)))
noncomputable def qk7 (v:Int) (v2:List UInt8) (v3:Int) (v4:Int) (v5:List UInt8) (v6:Int) (v7:List UInt8) (v8:List (List PV)) (v9:Int) (v10:Int) (v11:List UInt8) (v12:Int) (v13:Int) (v14:List UInt8) (v15:Int) (v16:List UInt8) (v17:Int) (v18:Int) (v19:List UInt8) (v20:List UInt8):Bool:=isW (qmy v v2 v3 v4 v5 v6 v7 v8 v9 v10 v11 v12 v13 v14 v15 v16 v17 v18 v19 v20) (.bool (qmp v v2 v3 v4 v5 v6 v7 v8 v9 v10 v11 v12 v13 v14 v15 v16 v17 v18 v19 v20))
noncomputable def qkm:List PV→Tr PV | [.agg [.int .i64 v,.str v2,.int .i64 v3,.int .i64 v4,.str v5],.agg [.int .i64 v6,.str v7,.sl v8 .non,.int .i64 v9,.int .i64 v10,.str v11,.int .i64 v12,.int .i64 v13,.str v14,.int .i64 v15,.str v16,.int .i64 v17,.int .i64 v18,.str v19],.str v20]=>.ite (qk7 v v2 v3 v4 v5 v6 v7 v8 v9 v10 v11 v12 v13 v14 v15 v16 v17 v18 v19 v20) (.ret (.bool (qmp v v2 v3 v4 v5 v6 v7 v8 v9 v10 v11 v12 v13 v14 v15 v16 v17 v18 v19 v20))) (.fail) | _=>.fail
theorem qyw (gl:Gl) (hg:GlLex gl):SimP Tryz.prog gl 3 fun args=>(qkm args).run:=by
 refine SimP.of_flat (G:=qr6) (L:=qxs) qaj (qyy gl hg ) qah  Tryz.func3 rfl (by rfl) (by kernel_rfl) (qae (by kernel_rfl)) ?_
 intro args x h
 unfold qkm at h
 split at h
 ·exact (congrArg Tr.run (qDm _ _ _ _ _ _ _ _ _ _ _ _ _ _ _ _ _ _ _ _)).trans (qai h fun h=>by cases h)
 ·cases h
end Go.Pv
set_option maxHeartbeats 8000000
set_option maxRecDepth 200000
set_option linter.unusedSimpArgs false
set_option linter.unusedVariables false
namespace Go.Pv
open Go Go.Proofs Go.RowKit
def cutT (s:Txt):Txt:=s.take 300
def cpTm (t:Tm):Tm:=(t.1,cutT t.2.1,t.2.2.1,t.2.2.2.1,cutT t.2.2.2.2)
def cpAt (a:At):At:=(cutT a.1,(a.2.take 12).map cpTm)
def cpLi (l:Li):Li:=(l.1,cpAt l.2.1,l.2.2.1,cpTm l.2.2.2.1,cpTm l.2.2.2.2)
theorem qEV (s:Txt):tx_W s=some (.str (cutT s)):=by
 unfold tx_W qFk cutT
 by_cases h:(300:Int) < s.length
 ·have h2:300≤s.length:=by omega
  have h3:(300:Int)≤s.length:=by omega
  simp [h,h2,h3]
 ·have:s.take 300=s:=List.take_of_length_le (by omega)
  simp [h,this]
@[simp] theorem qHT (s:Txt):qo7 s=true:=by simp [qo7,tx_s,qEV]
@[simp] theorem tx_v (s:Txt):tx_s s=cutT s:=by simp [tx_s,qEV]
theorem qga (k:Int) (b:Txt) (c n:Int) (s:Txt):qhv k b c n s=some (.agg [.int .i64 k,.str (cutT b),.int .i64 c,.int .i64 n,.str (cutT s)]):=by
 unfold qhv qqE
 simp
@[simp] theorem qC1 (k:Int) (b:Txt) (c n:Int) (s:Txt):qco k b c n s=true:=by simp only [qco,qb6,qbI,qbJ,qb4,qbG,qga]; simp
@[simp] theorem qEk (k:Int) (b:Txt) (c n:Int) (s:Txt):qb6 k b c n s=k:=by simp only [qco,qb6,qbI,qbJ,qb4,qbG,qga]; simp
@[simp] theorem qCW (k:Int) (b:Txt) (c n:Int) (s:Txt):qb4 k b c n s=cutT b:=by simp only [qco,qb6,qbI,qbJ,qb4,qbG,qga]; simp
@[simp] theorem qDv (k:Int) (b:Txt) (c n:Int) (s:Txt):qbI k b c n s=c:=by simp only [qco,qb6,qbI,qbJ,qb4,qbG,qga]; simp
@[simp] theorem qEc (k:Int) (b:Txt) (c n:Int) (s:Txt):qbJ k b c n s=n:=by simp only [qco,qb6,qbI,qbJ,qb4,qbG,qga]; simp
@[simp] theorem qDu (k:Int) (b:Txt) (c n:Int) (s:Txt):qbG k b c n s=cutT s:=by simp only [qco,qb6,qbI,qbJ,qb4,qbG,qga]; simp
theorem qHv {n m:Nat}:min n m≤n:=Nat.min_le_left _ _
theorem qDz {α:Type} (l:List α) (m:Nat):l.take (min l.length m)=l.take m:=by
 by_cases h:l.length≤m
 ·rw [Nat.min_eq_left h,List.take_length,List.take_of_length_le h]
 ·rw [Nat.min_eq_right (by omega)]
theorem qus (s s2 s3:Txt) (r2:List (List PV)) (l:List Tm):qeb [.ptr 0 0,.ptr 1 0,.ptr 2 0,.int .i64 0] ⟨[[.str s,.sl (rOf cM l) .non],[.str s2,.sl r2 .full],[.str s3,.sl [] (.tok 0)]],[(0,5,27)],[31,31,31]⟩=some (.exit 0,[.ptr 1 0,.ptr 2 0],⟨[[.str s,.sl (rOf cM l) .non],[.str s2,.sl r2 .full],[.str s3,.sl (rOf cM ((l.take 12).map cpTm)) (.tok 0)]],[((min l.length 12),5,27)],[31,31,31]⟩):=by
 have hl:=qDI (l:=l) (min l.length 12) qHv (V:=fun i b=>qeb [.ptr 0 0,.ptr 1 0,.ptr 2 0,.int .i64 (i:Nat)] ⟨[[.str s,.sl (rOf cM l) .non],[.str s2,.sl r2 .full],[.str s3,.sl (rOf cM b) (.tok 0)]],[(b.length,5,27)],[31,31,31]⟩) cpTm (fun b=>some (.exit 0,[.ptr 1 0,.ptr 2 0],⟨[[.str s,.sl (rOf cM l) .non],[.str s2,.sl r2 .full],[.str s3,.sl (rOf cM b) (.tok 0)]],[(b.length,5,27)],[31,31,31]⟩)) ?_ ?_
 ·rw [qDz] at hl
  rw [show min l.length 12=((l.take 12).map cpTm).length by rw [List.length_map,List.length_take]; omega]
  exact hl
 ·intro i b a hb hi hn ha
  have q1:iLt (i:Int) (xLen (rOf cM l))=true:=by simp; omega
  have q2:iLt (i:Int) 12=true:=by simp; omega
  have q3:qal (i:Int)=true:=by simp
  have q4:qb9 [PV.int .i64 0,.str [],.int .i64 0,.int .i64 0,.str []] (rOf cM l) (nNat (i:Int))=true:=by simp; omega
  have w:=qbP (i:=i) (by omega)
  have o1:∀ c,qaF (rOf cM b) [c] 56=true:=fun c=>by simp; omega
  have o3:qav (rOf cM b) 5=true:=qAT _
  have o4:nEq b.length (nXs (rOf cM b))=true:=by simp
  have x0:xInt (rOf cM l) (nNat (i:Int)) 0=a.1:=by simp [hi,ha]
  have x1:xStr (rOf cM l) (nNat (i:Int)) 1=a.2.1:=by simp [hi,ha]
  have x2:xInt (rOf cM l) (nNat (i:Int)) 2=a.2.2.1:=by simp [hi,ha]
  have x3:xInt (rOf cM l) (nNat (i:Int)) 3=a.2.2.2.1:=by simp [hi,ha]
  have x4:xStr (rOf cM l) (nNat (i:Int)) 4=a.2.2.2.2:=by simp [hi,ha]
  show qeb [.ptr 0 0,.ptr 1 0,.ptr 2 0,.int .i64 (i:Nat)] ⟨[[.str s,.sl (rOf cM l) .non],[.str s2,.sl r2 .full],[.str s3,.sl (rOf cM b) (.tok 0)]],[(b.length,5,27)],[31,31,31]⟩=qeb [.ptr 0 0,.ptr 1 0,.ptr 2 0,.int .i64 ((i+1:Nat):Int)] ⟨[[.str s,.sl (rOf cM l) .non],[.str s2,.sl r2 .full],[.str s3,.sl (rOf cM (b++[cpTm a])) (.tok 0)]],[((b++[cpTm a]).length,5,27)],[31,31,31]⟩
  rw [qwf]
  simp only [qhi,q1,q2,q3,q4,o1,o3,o4,w,x0,x1,x2,x3,x4,qzT,qaI]
  simp [one,qGt,cpTm]
 ·intro b hb
  have q:iLt ((min l.length 12:Nat):Int) (xLen (rOf cM l))=false∨iLt ((min l.length 12:Nat):Int) 12=false:=by
   by_cases h:l.length≤12
   ·left; simp; omega
   ·right; simp; omega
  show qeb [.ptr 0 0,.ptr 1 0,.ptr 2 0,.int .i64 ((min l.length 12:Nat):Int)] ⟨[[.str s,.sl (rOf cM l) .non],[.str s2,.sl r2 .full],[.str s3,.sl (rOf cM b) (.tok 0)]],[(b.length,5,27)],[31,31,31]⟩=_
  rw [qwf]
  rcases q with q | q
  ·simp only [qhi,q]
   simp
  ·cases q2:iLt ((min l.length 12:Nat):Int) (xLen (rOf cM l)) <;> (simp only [qhi,q,q2]; simp)
theorem qnN (a:At):qoZ a.1 (rOf cM a.2)=some (.agg [.str (cpAt a).1,.sl (rOf cM (cpAt a).2) .non]):=by
 have h:=qus a.1 [] (cutT a.1) [] a.2
 have h':qew 0 a.1 (rOf cM a.2) [] [] (cutT a.1) [] 0=_:=h
 unfold qoZ qqP
 simp only [qHT,tx_v,qlM,qrh,qqv,qoY,qkT,qse,qoh,qky,h']
 simp [cpAt]
@[simp] theorem tatom_is (a:Txt) (l:List Tm):qf8 a (rOf cM l)=true:=by simp only [qf8,qi4,qjm,qnN (a,l)]; simp
@[simp] theorem tatom_v0 (a:Txt) (l:List Tm):qjm a (rOf cM l)=cutT a:=by simp only [qf8,qi4,qjm,qnN (a,l)]; simp [cpAt]
@[simp] theorem tatom_v1 (a:Txt) (l:List Tm):qi4 a (rOf cM l)=rOf cM ((l.take 12).map cpTm):=by simp only [qf8,qi4,qjm,qnN (a,l)]; simp [cpAt]
theorem qbo (l:Li):qbz l.1 l.2.1.1 (rOf cM l.2.1.2) l.2.2.1 l.2.2.2.1.1 l.2.2.2.1.2.1 l.2.2.2.1.2.2.1 l.2.2.2.1.2.2.2.1 l.2.2.2.1.2.2.2.2 l.2.2.2.2.1 l.2.2.2.2.2.1 l.2.2.2.2.2.2.1 l.2.2.2.2.2.2.2.1 l.2.2.2.2.2.2.2.2=some (.agg [.int .i64 (cpLi l).1,.str (cpLi l).2.1.1,.sl (rOf cM (cpLi l).2.1.2) .non,.int .i64 (cpLi l).2.2.1,.int .i64 (cpLi l).2.2.2.1.1,.str (cpLi l).2.2.2.1.2.1,.int .i64 (cpLi l).2.2.2.1.2.2.1,.int .i64 (cpLi l).2.2.2.1.2.2.2.1,.str (cpLi l).2.2.2.1.2.2.2.2,.int .i64 (cpLi l).2.2.2.2.1,.str (cpLi l).2.2.2.2.2.1,.int .i64 (cpLi l).2.2.2.2.2.2.1,.int .i64 (cpLi l).2.2.2.2.2.2.2.1,.str (cpLi l).2.2.2.2.2.2.2.2]):=by
 unfold qbz qjD
 simp [cpLi,cpAt,cpTm]
@[simp] theorem qvU (a0:Int) (a1:Txt) (a2:List Tm) (a3 a4:Int) (a5:Txt) (a6 a7:Int) (a8:Txt) (a9:Int) (a10:Txt) (a11 a12:Int) (a13:Txt):qa4 a0 a1 (rOf cM a2) a3 a4 a5 a6 a7 a8 a9 a10 a11 a12 a13=true:=by simp only [qa4,qa3,qaU,qaP,qaK,qaT,qaN,qaL,qaR,qaE,qaD,qaM,qaO,qaQ,qaV,qbo (a0,(a1,a2),a3,(a4,a5,a6,a7,a8),(a9,a10,a11,a12,a13))]; simp
@[simp] theorem qt0 (a0:Int) (a1:Txt) (a2:List Tm) (a3 a4:Int) (a5:Txt) (a6 a7:Int) (a8:Txt) (a9:Int) (a10:Txt) (a11 a12:Int) (a13:Txt):qa3 a0 a1 (rOf cM a2) a3 a4 a5 a6 a7 a8 a9 a10 a11 a12 a13=(cpLi (a0,(a1,a2),a3,(a4,a5,a6,a7,a8),(a9,a10,a11,a12,a13))).1:=by simp only [qa4,qa3,qaU,qaP,qaK,qaT,qaN,qaL,qaR,qaE,qaD,qaM,qaO,qaQ,qaV,qbo (a0,(a1,a2),a3,(a4,a5,a6,a7,a8),(a9,a10,a11,a12,a13))]; simp
@[simp] theorem qv4 (a0:Int) (a1:Txt) (a2:List Tm) (a3 a4:Int) (a5:Txt) (a6 a7:Int) (a8:Txt) (a9:Int) (a10:Txt) (a11 a12:Int) (a13:Txt):qaD a0 a1 (rOf cM a2) a3 a4 a5 a6 a7 a8 a9 a10 a11 a12 a13=(cpLi (a0,(a1,a2),a3,(a4,a5,a6,a7,a8),(a9,a10,a11,a12,a13))).2.1.1:=by simp only [qa4,qa3,qaU,qaP,qaK,qaT,qaN,qaL,qaR,qaE,qaD,qaM,qaO,qaQ,qaV,qbo (a0,(a1,a2),a3,(a4,a5,a6,a7,a8),(a9,a10,a11,a12,a13))]; simp
@[simp] theorem quj (a0:Int) (a1:Txt) (a2:List Tm) (a3 a4:Int) (a5:Txt) (a6 a7:Int) (a8:Txt) (a9:Int) (a10:Txt) (a11 a12:Int) (a13:Txt):qaE a0 a1 (rOf cM a2) a3 a4 a5 a6 a7 a8 a9 a10 a11 a12 a13=rOf cM (cpLi (a0,(a1,a2),a3,(a4,a5,a6,a7,a8),(a9,a10,a11,a12,a13))).2.1.2:=by simp only [qa4,qa3,qaU,qaP,qaK,qaT,qaN,qaL,qaR,qaE,qaD,qaM,qaO,qaQ,qaV,qbo (a0,(a1,a2),a3,(a4,a5,a6,a7,a8),(a9,a10,a11,a12,a13))]; simp
@[simp] theorem qt4 (a0:Int) (a1:Txt) (a2:List Tm) (a3 a4:Int) (a5:Txt) (a6 a7:Int) (a8:Txt) (a9:Int) (a10:Txt) (a11 a12:Int) (a13:Txt):qaU a0 a1 (rOf cM a2) a3 a4 a5 a6 a7 a8 a9 a10 a11 a12 a13=(cpLi (a0,(a1,a2),a3,(a4,a5,a6,a7,a8),(a9,a10,a11,a12,a13))).2.2.1:=by simp only [qa4,qa3,qaU,qaP,qaK,qaT,qaN,qaL,qaR,qaE,qaD,qaM,qaO,qaQ,qaV,qbo (a0,(a1,a2),a3,(a4,a5,a6,a7,a8),(a9,a10,a11,a12,a13))]; simp
@[simp] theorem quB (a0:Int) (a1:Txt) (a2:List Tm) (a3 a4:Int) (a5:Txt) (a6 a7:Int) (a8:Txt) (a9:Int) (a10:Txt) (a11 a12:Int) (a13:Txt):qaP a0 a1 (rOf cM a2) a3 a4 a5 a6 a7 a8 a9 a10 a11 a12 a13=(cpLi (a0,(a1,a2),a3,(a4,a5,a6,a7,a8),(a9,a10,a11,a12,a13))).2.2.2.1.1:=by simp only [qa4,qa3,qaU,qaP,qaK,qaT,qaN,qaL,qaR,qaE,qaD,qaM,qaO,qaQ,qaV,qbo (a0,(a1,a2),a3,(a4,a5,a6,a7,a8),(a9,a10,a11,a12,a13))]; simp
@[simp] theorem qvH (a0:Int) (a1:Txt) (a2:List Tm) (a3 a4:Int) (a5:Txt) (a6 a7:Int) (a8:Txt) (a9:Int) (a10:Txt) (a11 a12:Int) (a13:Txt):qaM a0 a1 (rOf cM a2) a3 a4 a5 a6 a7 a8 a9 a10 a11 a12 a13=(cpLi (a0,(a1,a2),a3,(a4,a5,a6,a7,a8),(a9,a10,a11,a12,a13))).2.2.2.1.2.1:=by simp only [qa4,qa3,qaU,qaP,qaK,qaT,qaN,qaL,qaR,qaE,qaD,qaM,qaO,qaQ,qaV,qbo (a0,(a1,a2),a3,(a4,a5,a6,a7,a8),(a9,a10,a11,a12,a13))]; simp
@[simp] theorem qt3 (a0:Int) (a1:Txt) (a2:List Tm) (a3 a4:Int) (a5:Txt) (a6 a7:Int) (a8:Txt) (a9:Int) (a10:Txt) (a11 a12:Int) (a13:Txt):qaK a0 a1 (rOf cM a2) a3 a4 a5 a6 a7 a8 a9 a10 a11 a12 a13=(cpLi (a0,(a1,a2),a3,(a4,a5,a6,a7,a8),(a9,a10,a11,a12,a13))).2.2.2.1.2.2.1:=by simp only [qa4,qa3,qaU,qaP,qaK,qaT,qaN,qaL,qaR,qaE,qaD,qaM,qaO,qaQ,qaV,qbo (a0,(a1,a2),a3,(a4,a5,a6,a7,a8),(a9,a10,a11,a12,a13))]; simp
@[simp] theorem qux (a0:Int) (a1:Txt) (a2:List Tm) (a3 a4:Int) (a5:Txt) (a6 a7:Int) (a8:Txt) (a9:Int) (a10:Txt) (a11 a12:Int) (a13:Txt):qaT a0 a1 (rOf cM a2) a3 a4 a5 a6 a7 a8 a9 a10 a11 a12 a13=(cpLi (a0,(a1,a2),a3,(a4,a5,a6,a7,a8),(a9,a10,a11,a12,a13))).2.2.2.1.2.2.2.1:=by simp only [qa4,qa3,qaU,qaP,qaK,qaT,qaN,qaL,qaR,qaE,qaD,qaM,qaO,qaQ,qaV,qbo (a0,(a1,a2),a3,(a4,a5,a6,a7,a8),(a9,a10,a11,a12,a13))]; simp
@[simp] theorem qu2 (a0:Int) (a1:Txt) (a2:List Tm) (a3 a4:Int) (a5:Txt) (a6 a7:Int) (a8:Txt) (a9:Int) (a10:Txt) (a11 a12:Int) (a13:Txt):qaO a0 a1 (rOf cM a2) a3 a4 a5 a6 a7 a8 a9 a10 a11 a12 a13=(cpLi (a0,(a1,a2),a3,(a4,a5,a6,a7,a8),(a9,a10,a11,a12,a13))).2.2.2.1.2.2.2.2:=by simp only [qa4,qa3,qaU,qaP,qaK,qaT,qaN,qaL,qaR,qaE,qaD,qaM,qaO,qaQ,qaV,qbo (a0,(a1,a2),a3,(a4,a5,a6,a7,a8),(a9,a10,a11,a12,a13))]; simp
@[simp] theorem qve (a0:Int) (a1:Txt) (a2:List Tm) (a3 a4:Int) (a5:Txt) (a6 a7:Int) (a8:Txt) (a9:Int) (a10:Txt) (a11 a12:Int) (a13:Txt):qaN a0 a1 (rOf cM a2) a3 a4 a5 a6 a7 a8 a9 a10 a11 a12 a13=(cpLi (a0,(a1,a2),a3,(a4,a5,a6,a7,a8),(a9,a10,a11,a12,a13))).2.2.2.2.1:=by simp only [qa4,qa3,qaU,qaP,qaK,qaT,qaN,qaL,qaR,qaE,qaD,qaM,qaO,qaQ,qaV,qbo (a0,(a1,a2),a3,(a4,a5,a6,a7,a8),(a9,a10,a11,a12,a13))]; simp
@[simp] theorem qth (a0:Int) (a1:Txt) (a2:List Tm) (a3 a4:Int) (a5:Txt) (a6 a7:Int) (a8:Txt) (a9:Int) (a10:Txt) (a11 a12:Int) (a13:Txt):qaQ a0 a1 (rOf cM a2) a3 a4 a5 a6 a7 a8 a9 a10 a11 a12 a13=(cpLi (a0,(a1,a2),a3,(a4,a5,a6,a7,a8),(a9,a10,a11,a12,a13))).2.2.2.2.2.1:=by simp only [qa4,qa3,qaU,qaP,qaK,qaT,qaN,qaL,qaR,qaE,qaD,qaM,qaO,qaQ,qaV,qbo (a0,(a1,a2),a3,(a4,a5,a6,a7,a8),(a9,a10,a11,a12,a13))]; simp
@[simp] theorem qtt (a0:Int) (a1:Txt) (a2:List Tm) (a3 a4:Int) (a5:Txt) (a6 a7:Int) (a8:Txt) (a9:Int) (a10:Txt) (a11 a12:Int) (a13:Txt):qaL a0 a1 (rOf cM a2) a3 a4 a5 a6 a7 a8 a9 a10 a11 a12 a13=(cpLi (a0,(a1,a2),a3,(a4,a5,a6,a7,a8),(a9,a10,a11,a12,a13))).2.2.2.2.2.2.1:=by simp only [qa4,qa3,qaU,qaP,qaK,qaT,qaN,qaL,qaR,qaE,qaD,qaM,qaO,qaQ,qaV,qbo (a0,(a1,a2),a3,(a4,a5,a6,a7,a8),(a9,a10,a11,a12,a13))]; simp
@[simp] theorem qsA (a0:Int) (a1:Txt) (a2:List Tm) (a3 a4:Int) (a5:Txt) (a6 a7:Int) (a8:Txt) (a9:Int) (a10:Txt) (a11 a12:Int) (a13:Txt):qaR a0 a1 (rOf cM a2) a3 a4 a5 a6 a7 a8 a9 a10 a11 a12 a13=(cpLi (a0,(a1,a2),a3,(a4,a5,a6,a7,a8),(a9,a10,a11,a12,a13))).2.2.2.2.2.2.2.1:=by simp only [qa4,qa3,qaU,qaP,qaK,qaT,qaN,qaL,qaR,qaE,qaD,qaM,qaO,qaQ,qaV,qbo (a0,(a1,a2),a3,(a4,a5,a6,a7,a8),(a9,a10,a11,a12,a13))]; simp
@[simp] theorem qtL (a0:Int) (a1:Txt) (a2:List Tm) (a3 a4:Int) (a5:Txt) (a6 a7:Int) (a8:Txt) (a9:Int) (a10:Txt) (a11 a12:Int) (a13:Txt):qaV a0 a1 (rOf cM a2) a3 a4 a5 a6 a7 a8 a9 a10 a11 a12 a13=(cpLi (a0,(a1,a2),a3,(a4,a5,a6,a7,a8),(a9,a10,a11,a12,a13))).2.2.2.2.2.2.2.2:=by simp only [qa4,qa3,qaU,qaP,qaK,qaT,qaN,qaL,qaR,qaE,qaD,qaM,qaO,qaQ,qaV,qbo (a0,(a1,a2),a3,(a4,a5,a6,a7,a8),(a9,a10,a11,a12,a13))]; simp
end Go.Pv
set_option linter.unusedSimpArgs false
set_option linter.unusedVariables false
namespace Go.Pv
theorem qD6 {α ρ:Type} [DecidableEq α] {l m:List α} (hlen:l.length=m.length) {V:Nat→ρ} (good bad:ρ)
  (hsame:∀ (i:Nat) (hi:i < l.length) (hj:i < m.length),l[i]=m[i]→V i=V (i+1))
  (hdiff:∀ (i:Nat) (hi:i < l.length) (hj:i < m.length),l[i]≠m[i]→V i=bad)
  (hend:V l.length=good):V 0=if l=m then good else bad:=by
 have key:∀ (k i:Nat),i+k=l.length→V i=if l.drop i=m.drop i then good else bad:=by
  intro k
  induction k with
  | zero =>
   intro i hi
   have:i=l.length:=by omega
   subst this
   have h1:l.drop l.length=[]:=List.drop_eq_nil_of_le (Nat.le_refl _)
   have h2:m.drop l.length=[]:=List.drop_eq_nil_of_le (by omega)
   rw [h1,h2,if_pos rfl]
   exact hend
  | succ k ih =>
   intro i hi
   have h1:i < l.length:=by omega
   have h2:i < m.length:=by omega
   rw [List.drop_eq_getElem_cons h1,List.drop_eq_getElem_cons h2]
   by_cases h:l[i]=m[i]
   ·rw [hsame i h1 h2 h,ih (i+1) (by omega),h]
    by_cases h3:l.drop (i+1)=m.drop (i+1)
    ·rw [if_pos h3,if_pos (by rw [h3])]
    ·rw [if_neg h3,if_neg (fun e=>h3 (List.cons.inj e).2)]
   ·rw [hdiff i h1 h2 h,if_neg (fun e=>h (List.cons.inj e).1)]
 simpa using key l.length 0 (by omega)
end Go.Pv
set_option maxHeartbeats 8000000
set_option maxRecDepth 200000
set_option linter.unusedSimpArgs false
set_option linter.unusedVariables false
namespace Go.Pv
open Go Go.Proofs Go.RowKit
theorem qtF {s:Txt} (hs:s.length≤65536) (k:Int):qrn s k=some (.bool (isW1 k s)):=by
 unfold qrn qq2
 rw [qBu k hs,qt8 hs,qp6 hs,qpN hs]
 have x0:xLen (rOf cW (wL s))=((wL s).length:Nat):=by simp
 rw [x0]
 by_cases h1:wE s=0
 ·by_cases h2:(wL s).length=1
  ·have g:qb9 [PV.int .i64 0,.str [],.int .i64 0,.int .i64 0,.str [],.int .i64 0] (rOf cW (wL s)) (nNat 0)=true:=by rw [qwJ]; simp [h2]
   have y0:xInt (rOf cW (wL s)) (nNat 0) 0=((wL s)[0]?.getD (0,[],(0,0,[]),0)).1:=qwt _ _
   have y1:xStr (rOf cW (wL s)) (nNat 0) 1=((wL s)[0]?.getD (0,[],(0,0,[]),0)).2.1:=qwn _ _
   rw [g,y0,y1]
   generalize (wL s)[0]?.getD (0,[],(0,0,[]),0)=w
   by_cases h3:w.1=k <;> simp [h1,h2,h3]
  ·have h2':¬ ((wL s).length:Int)=1:=by omega
   simp [h1,h2,h2']
 ·simp [h1]
theorem qxc {s:Txt} (hs:s.length≤65536) (k:Int):qfL s k=true:=by simp only [qjf,qfL,qtF hs]; simp
theorem qB1 {s:Txt} (hs:s.length≤65536) (k:Int):qjf s k=isW1 k s:=by simp only [qjf,qfL,qtF hs]; simp
theorem qte {s:Txt} (hs:s.length≤65536):qqI s=some (.bool (nmB s)):=by
 unfold qqI qqy nmB resv
 rw [qxc hs,qB1 hs]
 cases hw:isW1 1 s with
 | false=>simp
 | true =>
  by_cases h1:s=[98,97,115,101]
  ·simp [h1]
  ·by_cases h2:s=[118,105,101,119]
   ·simp [h2]
   ·by_cases h3:s=[111,110]
    ·simp [h3]
    ·by_cases h4:s=[110,111,116]
     ·simp [h4]
     ·simp [h1,h2,h3,h4]
theorem qwy {s:Txt} (hs:s.length≤65536):qfZ s=true:=by simp only [qi8,qfZ,qte hs]; simp
theorem qBE {s:Txt} (hs:s.length≤65536):qi8 s=nmB s:=by simp only [qi8,qfZ,qte hs]; simp
theorem qwB {s:Txt} (hs:s.length≤65536):qwM s=some (.bool (vrB s)):=by
 unfold qwM quT vrB
 rw [qxc hs,qB1 hs]
 simp
theorem qze {s:Txt} (hs:s.length≤65536):qhV s=true:=by simp only [qo3,qhV,qwB hs]; simp
theorem qEA {s:Txt} (hs:s.length≤65536):qo3 s=vrB s:=by simp only [qo3,qhV,qwB hs]; simp
theorem qzz (o:Int):qDd o=some (.str (if opOk o then opW o else [])):=by
 unfold qDd qAR opW opOk
 by_cases h1:o=1
 ·simp [h1]
 ·by_cases h2:o=2
  ·simp [h2]
  ·by_cases h3:o=3
   ·simp [h3]
   ·by_cases h4:o=4
    ·simp [h4]
    ·by_cases h5:o=5
     ·simp [h5]
     ·by_cases h6:o=6
      ·simp [h6]
      ·have h7:¬ (1≤o∧o≤6):=by omega
       simp only [decide_eq_false h7,Bool.false_eq_true,if_false]
       simp [h1,h2,h3,h4,h5,h6]
theorem qHf (o:Int):qcy o=true:=by simp only [qcy,qce,qzz]; simp
theorem qIA (o:Int):qce o=if opOk o then opW o else []:=by simp only [qcy,qce,qzz]; simp
theorem qIC {o:Int} (h:opOk o=true):opT o=32 :: (opW o++[32]):=by
 simp only [opOk,decide_eq_true_eq] at h
 obtain ⟨n,rfl⟩:∃ n:Nat,o=(n:Int):=⟨o.toNat,by omega⟩
 have h1:1≤n∧n≤6:=by omega
 match n,h1 with
 | 1,_=>rfl
 | 2,_=>rfl
 | 3,_=>rfl
 | 4,_=>rfl
 | 5,_=>rfl
 | 6,_=>rfl
 | 0,h=>omega
 | n+7,h=>omega
theorem qHk {o:Int}:opW o≠[]:=by
 unfold opW
 repeat' split
 all_goals simp
def jrS (l:List Txt) (sep:Txt) (i:Nat):Txt:=qds (l.take i) sep
theorem qsH (sep:Txt):∀ (l:List Txt) (x:Txt),l≠[]→qds (l++[x]) sep=qds l sep++(sep++x)
 | [],_,h=>absurd rfl h
 | [a],x,_=>by rw [List.singleton_append,qke,qkk,qkk]
 | a :: b :: l,x,_=>by
  have ih:=qsH sep (b :: l) x (by simp)
  simp only [List.cons_append] at ih ⊢
  rw [qke,qke,ih]
  simp
theorem qCI {l:List Txt} {sep:Txt} {i:Nat} (hi:i < l.length):jrS l sep (i+1)=if i=0 then l[i] else jrS l sep i++(sep++l[i]):=by
 unfold jrS
 rw [← List.take_append_getElem hi]
 by_cases h:i=0
 ·subst h
  simp [qkk]
 ·have:l.take i≠[]:=by
   intro h0
   have:=congrArg List.length h0
   rw [List.length_take,List.length_nil] at this
   omega
  rw [if_neg h,qsH _ _ _ this]
theorem qxX (l:List Txt) (hl:l.length≤100000) (hw:∀ x ∈ l,x.length≤1000000) (sep:Txt) (hs:sep.length≤10):∀ (m i:Nat),i+m=l.length →
  qin [.sl (rOf cS l) .non,.str sep,.sl (qaa (jrS l sep i)) (.tok 0),.int .i64 (i:Nat)] ⟨[],[((jrS l sep i).length,1,5)],[]⟩=some (.exit 0,[.sl (qaa (qds l sep)) (.tok 0)],⟨[],[((qds l sep).length,1,5)],[]⟩):=by
 intro m
 induction m with
 | zero =>
  intro i hi
  have:i=l.length:=by omega
  subst this
  have t1:iLt (l.length:Int) (xLen (rOf cS l))=false:=by simp
  have e:jrS l sep l.length=qds l sep:=by unfold jrS; rw [List.take_length]
  rw [e,qqQ]
  simp only [qdB,t1]
  simp
 | succ m ih =>
  intro i hi
  have w:=qbP (i:=i) (by omega)
  have hlt:i < l.length:=by omega
  have h1:=ih (i+1) (by omega)
  rw [← h1,qCI hlt]
  have hb:(jrS l sep i).length≤100000 * 1000010:=by
   unfold jrS
   refine Nat.le_trans (qgQ (M:=1000000) sep _ (fun x hx=>hw x (List.mem_of_mem_take hx))) ?_
   refine Nat.mul_le_mul ?_ (by omega)
   rw [List.length_take]; omega
  have ha:(l[i]).length≤1000000:=hw _ (List.getElem_mem hlt)
  have q1:iLt (i:Int) (xLen (rOf cS l))=true:=by simp; omega
  have q2:qb9 [PV.str []] (rOf cS l) (nNat (i:Int))=true:=by simp; omega
  have q3:xStr (rOf cS l) (nNat (i:Int)) 0=l[i]:=by simp [hlt]
  have q4:qal (i:Int)=true:=by simp
  generalize l[i]=x at ha q3 ⊢
  generalize hj:jrS l sep i=b at hb ⊢
  have o2:qaB (qaa x) 1=true:=qfo _
  have o4:qaB (qaa sep) 1=true:=qfo _
  have o5:qav (qaa b) 1=true:=qbb _
  have o6:qav (qaa (b++sep)) 1=true:=qbb _
  have g1:qaF (qaa b) (qaa x) 1=true:=qcG (by omega)
  have g2:qaF (qaa b) (qaa sep) 1=true:=qcG (by omega)
  have g3:qaF (qaa (b++sep)) (qaa x) 1=true:=qcG (by simp; omega)
  have e1:nEq b.length (nXs (qaa b))=true:=by simp
  by_cases h0:i=0
  ·subst h0
   have hj0:b=[]:=by rw [← hj]; rfl
   subst hj0
   have t5:iLt 0 ((0:Nat):Int)=false:=rfl
   rw [if_pos rfl,qqQ]
   cases x with
   | nil =>
    simp only [qdB,q1,q2,q3,q4,t5,g1,o2,o5,w]
    simp
   | cons y x =>
    simp only [qdB,q1,q2,q3,q4,t5,g1,o2,o5,w,e1]
    simp [qp0]
  ·have t5:iLt 0 (i:Int)=true:=by simp; omega
   rw [if_neg h0,qqQ]
   cases sep with
   | nil =>
    cases x with
    | nil =>
     simp only [qdB,q1,q2,q3,q4,t5,g1,g2,o2,o4,o5,w,e1]
     simp
    | cons y x =>
     simp only [qdB,q1,q2,q3,q4,t5,g1,g2,o2,o4,o5,w,e1,qd7]
     simp [qp0]
   | cons z sep =>
    have nz:xNil (qaa (z :: sep))=false:=qf6 (by simp)
    cases x with
    | nil =>
     simp only [qdB,q1,q2,q3,q4,t5,g1,g2,g3,o2,o4,o5,o6,w,e1,nz,qd7]
     simp
    | cons y x =>
     have ny:xNil (qaa (y :: x))=false:=qf6 (by simp)
     simp only [qdB,q1,q2,q3,q4,t5,g1,g2,g3,o2,o4,o5,o6,w,e1,nz,ny,qd7]
     simp
theorem qsG {l:List Txt} (hl:l.length≤100000) (hw:∀ x ∈ l,x.length≤1000000) {sep:Txt} (hs:sep.length≤10):qqR (rOf cS l) sep=some (.str (qds l sep)):=by
 have h:=qxX l hl hw sep hs l.length 0 (by omega)
 have h':qna (rOf cS l) sep [] 0 0=_:=h
 unfold qqR qrl
 simp only [qkq,qlF,qr2,h']
 simp
theorem qEm {l:List Txt} (hl:l.length≤100000) (hw:∀ x ∈ l,x.length≤1000000) {sep:Txt} (hs:sep.length≤10):qgb (rOf cS l) sep=true:=by simp only [qgb,qgT,qsG hl hw hs]; simp
theorem qEY {l:List Txt} (hl:l.length≤100000) (hw:∀ x ∈ l,x.length≤1000000) {sep:Txt} (hs:sep.length≤10):qgT (rOf cS l) sep=qds l sep:=by simp only [qgb,qgT,qsG hl hw hs]; simp
theorem qn2 {t:Tm} (h:tmS t):qny t.1 t.2.1 t.2.2.1 t.2.2.2.1 t.2.2.2.2=some (.tup [.str (tdS (tmOk t) (tmT t)),.int .i64 (tdE (tmOk t))]):=by
 obtain ⟨k,b,c,n,s⟩:=t
 have hb:b.length≤65536:=Nat.le_trans h.1 (by decide)
 unfold qny qry tmT tmOk vlOk vlT
 simp only [qze hb,qEA hb]
 have b0:bAnd=and:=rfl
 have z0:(bAnd (iEq c 0) (bAnd (iEq n 0) (bAnd (sEq s []) true)))=decide ((c,n,s)=((0,0,[]):Vl)):=by simp [b0,Bool.decide_and]
 rw [z0]
 by_cases h1:k=1
 ·subst h1
  have n1:iEq 1 1=true:=rfl
  have n2:iEq 1 2=false:=rfl
  have n3:iEq 1 3=false:=rfl
  rw [n1,n2,n3]
  cases hv:vrB b <;> by_cases hz:(c,n,s)=((0,0,[]):Vl) <;> simp [hv,hz,tdS,tdE]
 ·by_cases h2:k=2
  ·subst h2
   have n1:iEq 2 1=false:=rfl
   have n2:iEq 2 2=true:=rfl
   have n3:iEq 2 3=false:=rfl
   rw [n1,n2,n3]
   by_cases h3:b=[] <;> cases hv:isV c n s <;> simp [h3,hv,tdS,tdE]
  ·have n1:iEq k 1=false:=by simp [h1]
   have n2:iEq k 2=false:=by simp [h2]
   rw [n1,n2]
   by_cases h3:k=3
   ·subst h3
    have n3:iEq 3 3=true:=rfl
    rw [n3]
    by_cases hb0:b=[] <;> by_cases hz:(c,n,s)=((0,0,[]):Vl) <;> simp [hb0,hz,tdS,tdE]
   ·have n3:iEq k 3=false:=by simp [h3]
    rw [n3]
    simp [h1,h2,h3,tdS,tdE]
theorem qki {t:Tm} (h:tmS t):qbu t.1 t.2.1 t.2.2.1 t.2.2.2.1 t.2.2.2.2=true:=by simp only [qbu,qbU,qax,qn2 h]; simp
theorem qjT {t:Tm} (h:tmS t):qax t.1 t.2.1 t.2.2.1 t.2.2.2.1 t.2.2.2.2=tdS (tmOk t) (tmT t):=by simp only [qbu,qbU,qax,qn2 h]; simp
theorem qj1 {t:Tm} (h:tmS t):qbU t.1 t.2.1 t.2.2.1 t.2.2.2.1 t.2.2.2.2=tdE (tmOk t):=by simp only [qbu,qbU,qax,qn2 h]; simp
theorem quv {l:List Tm} (hs:∀ a ∈ l,tmS a) (hn:l.length≤100000) (s:Txt) :
  (l.all tmOk=true→qc7 [.ptr 0 0,.sl [] (.tok 0),.int .i64 0] ⟨[[.str s,.sl (rOf cM l) .non]],[(0,1,9)],[31]⟩=some (.exit 0,[.ptr 0 0,.sl (rOf cS (l.map tmT)) (.tok 0)],⟨[[.str s,.sl (rOf cM l) .non]],[((l.map tmT).length,1,9)],[31]⟩)) ∧
  (l.all tmOk=false→∃ k:Nat,qc7 [.ptr 0 0,.sl [] (.tok 0),.int .i64 0] ⟨[[.str s,.sl (rOf cM l) .non]],[(0,1,9)],[31]⟩=some (.ret,[.str [],.int .i64 140],⟨[[.str s,.sl (rOf cM l) .non]],[(k,1,9)],[31]⟩)):=by
 have hl:=qf0 (l:=l) l.length (Nat.le_refl _) (V:=fun i b=>qc7 [.ptr 0 0,.sl (rOf cS b) (.tok 0),.int .i64 (i:Nat)] ⟨[[.str s,.sl (rOf cM l) .non]],[(b.length,1,9)],[31]⟩) tmOk tmT (fun b=>some (.exit 0,[.ptr 0 0,.sl (rOf cS b) (.tok 0)],⟨[[.str s,.sl (rOf cM l) .non]],[(b.length,1,9)],[31]⟩)) (fun r=>∃ k:Nat,r=some (.ret,[.str [],.int .i64 140],⟨[[.str s,.sl (rOf cM l) .non]],[(k,1,9)],[31]⟩)) ?_ ?_ ?_
 ·rw [List.take_length] at hl
  exact hl
 ·intro i b a hb hi hi2 ha ho
  have hm:tmS a:=hs a (ha ▸ List.getElem_mem hi)
  have q1:iLt (i:Int) (xLen (rOf cM l))=true:=by simp; omega
  have q3:qal (i:Int)=true:=by simp
  have q4:qb9 [PV.int .i64 0,.str [],.int .i64 0,.int .i64 0,.str []] (rOf cM l) (nNat (i:Int))=true:=by simp; omega
  have w:=qbP (i:=i) (by omega)
  have e1:=qki hm
  have e2:=qjT hm
  have e3:=qj1 hm
  rw [ho] at e2 e3
  have z1:iNe (tdE true) 0=false:=rfl
  have z2:iNe (tdE false) 0=true:=rfl
  have z3:∀ s,tdS true s=s:=fun _=>rfl
  have z4:tdE false=140:=rfl
  have x0:xInt (rOf cM l) (nNat (i:Int)) 0=a.1:=by simp [hi,ha]
  have x1:xStr (rOf cM l) (nNat (i:Int)) 1=a.2.1:=by simp [hi,ha]
  have x2:xInt (rOf cM l) (nNat (i:Int)) 2=a.2.2.1:=by simp [hi,ha]
  have x3:xInt (rOf cM l) (nNat (i:Int)) 3=a.2.2.2.1:=by simp [hi,ha]
  have x4:xStr (rOf cM l) (nNat (i:Int)) 4=a.2.2.2.2:=by simp [hi,ha]
  have o1:∀ c,qaF (rOf cS b) [c] 16=true:=fun c=>by simp; omega
  have o2:∀ t:Txt,qaB [[PV.str t]] 1=true:=fun t=>by simp [one]
  have o3:qav (rOf cS b) 1=true:=qho _
  have o4:nEq b.length (nXs (rOf cS b))=true:=by simp
  show qc7 [.ptr 0 0,.sl (rOf cS b) (.tok 0),.int .i64 (i:Nat)] ⟨[[.str s,.sl (rOf cM l) .non]],[(b.length,1,9)],[31]⟩=qc7 [.ptr 0 0,.sl (rOf cS (b++[tmT a])) (.tok 0),.int .i64 ((i+1:Nat):Int)] ⟨[[.str s,.sl (rOf cM l) .non]],[((b++[tmT a]).length,1,9)],[31]⟩
  rw [qr5]
  simp only [qhy,q1,q3,q4,x0,x1,x2,x3,x4,qaI,e1,e2,e3,z1,z3,o1,o2,o3,o4,w]
  simp
 ·intro i b a hb hi hi2 ha ho
  have hm:tmS a:=hs a (ha ▸ List.getElem_mem hi)
  have q1:iLt (i:Int) (xLen (rOf cM l))=true:=by simp; omega
  have q3:qal (i:Int)=true:=by simp
  have q4:qb9 [PV.int .i64 0,.str [],.int .i64 0,.int .i64 0,.str []] (rOf cM l) (nNat (i:Int))=true:=by simp; omega
  have w:=qbP (i:=i) (by omega)
  have e1:=qki hm
  have e2:=qjT hm
  have e3:=qj1 hm
  rw [ho] at e2 e3
  have z1:iNe (tdE true) 0=false:=rfl
  have z2:iNe (tdE false) 0=true:=rfl
  have z3:∀ s,tdS true s=s:=fun _=>rfl
  have z4:tdE false=140:=rfl
  have x0:xInt (rOf cM l) (nNat (i:Int)) 0=a.1:=by simp [hi,ha]
  have x1:xStr (rOf cM l) (nNat (i:Int)) 1=a.2.1:=by simp [hi,ha]
  have x2:xInt (rOf cM l) (nNat (i:Int)) 2=a.2.2.1:=by simp [hi,ha]
  have x3:xInt (rOf cM l) (nNat (i:Int)) 3=a.2.2.2.1:=by simp [hi,ha]
  have x4:xStr (rOf cM l) (nNat (i:Int)) 4=a.2.2.2.2:=by simp [hi,ha]
  show ∃ k:Nat,qc7 [.ptr 0 0,.sl (rOf cS b) (.tok 0),.int .i64 (i:Nat)] ⟨[[.str s,.sl (rOf cM l) .non]],[(b.length,1,9)],[31]⟩=_
  refine ⟨b.length,?_⟩
  rw [qr5]
  simp only [qhy,q1,q3,q4,x0,x1,x2,x3,x4,qaI,e1,e3,z2,z4]
  simp
 ·intro b hb
  have q1:iLt (l.length:Nat) (xLen (rOf cM l))=false:=by simp
  show qc7 [.ptr 0 0,.sl (rOf cS b) (.tok 0),.int .i64 (l.length:Nat)] ⟨[[.str s,.sl (rOf cM l) .non]],[(b.length,1,9)],[31]⟩=_
  rw [qr5]
  simp only [qhy,q1]
  simp
theorem qIp {α:Type} {T:α→Txt} {l:List α} {M:Nat} (hM:M≤1000000) (hn:l.length≤100) (h:∀ a ∈ l,(T a).length≤M):qgb (rOf cS (l.map T)) [44,32]=true :=
 qEm (by simp; omega) (fun x hx=>by
  obtain ⟨a,ha,rfl⟩:=List.mem_map.1 hx
  exact Nat.le_trans (h a ha) hM) (by decide)
theorem qj_v {α:Type} {T:α→Txt} {l:List α} {M:Nat} (hM:M≤1000000) (hn:l.length≤100) (h:∀ a ∈ l,(T a).length≤M):qgT (rOf cS (l.map T)) [44,32]=qds (l.map T) [44,32] :=
 qEY (by simp; omega) (fun x hx=>by
  obtain ⟨a,ha,rfl⟩:=List.mem_map.1 hx
  exact Nat.le_trans (h a ha) hM) (by decide)
theorem qHg {α:Type} {ok:α→Bool} {T:α→Txt} {sep:Txt} {l:List α} (h:l.all ok=true):qds (l.map T) sep=jn ok T sep l:=(qIq h).symm
theorem mxl:maxLen=9223372036854775807:=rfl
theorem td_t (s:Txt):tdS true s=s:=rfl
theorem td_f (s:Txt):tdS false s=[]:=rfl
theorem te_t:tdE true=0:=rfl
theorem te_f:tdE false=140:=rfl
theorem ie00:iEq 0 0=true:=rfl
theorem qIt:iEq 140 0=false:=rfl
theorem qn5 {a:At} (h:atS a):qpd a.1 (rOf cM a.2)=some (.tup [.str (tdS (atOk a) (atT a)),.int .i64 (tdE (atOk a))]):=by
 obtain ⟨g1,g2⟩:=quv (l:=a.2) h.2.2 (by have:=h.2.1; omega) a.1
 have hb:a.1.length≤65536:=Nat.le_trans h.1 (by decide)
 have hn:=h.1
 have j1:=qIp (T:=tmT) (M:=1100) (by decide) (by have:=h.2.1; omega) (fun t ht=>qej (h.2.2 t ht))
 have j2:=qj_v (T:=tmT) (M:=1100) (by decide) (by have:=h.2.1; omega) (fun t ht=>qej (h.2.2 t ht))
 have hj:=qyn (ok:=tmOk) (T:=tmT) (M:=1100) [44,32] a.2 12 h.2.1 (fun t ht=>qej (h.2.2 t ht))
 simp at hj
 unfold qpd qrQ atT atOk
 simp only [qwy hb,qBE hb]
 cases hN:nmB a.1 with
 | false=>simp [td_f,te_f]
 | true =>
  cases hA:a.2.all tmOk with
  | true =>
   have h':qcX [] 0 a.1 (rOf cM a.2) 0=_:=g1 hA
   rw [qHg hA] at j2
   have o1:qaG a.1 [40]=true:=qbE (by simp; omega)
   have o2:qaG (sApp a.1 [40]) (jn tmOk tmT [44,32] a.2)=true:=qbE (by simp; omega)
   have o3:qaG (sApp (sApp a.1 [40]) (jn tmOk tmT [44,32] a.2)) [41]=true:=qbE (by simp; omega)
   simp only [qis,qh4,qik,qiD,qdm,qfP,qhT,qhX,qgg,qf2,qdl,h']
   simp [j1,j2,o2,o3,td_t,te_t,mxl]
   omega
  | false =>
   obtain ⟨k,hk⟩:=g2 hA
   have h':qcX [] 0 a.1 (rOf cM a.2) 0=_:=hk
   simp only [qis,qh4,qik,qiD,qdm,qfP,qhT,qhX,qgg,qf2,qdl,h']
   simp [td_f,te_f]
theorem qxf {a:At} (h:atS a):qei a.1 (rOf cM a.2)=true:=by simp only [qei,qdf,qdb,qn5 h]; simp
theorem qwl {a:At} (h:atS a):qdb a.1 (rOf cM a.2)=tdS (atOk a) (atT a):=by simp only [qei,qdf,qdb,qn5 h]; simp
theorem qxd {a:At} (h:atS a):qdf a.1 (rOf cM a.2)=tdE (atOk a):=by simp only [qei,qdf,qdb,qn5 h]; simp
theorem qs2 (s s2:Txt) {l m:List Tm} (hlen:l.length=m.length) (hn:l.length≤100000):qcH [.ptr 0 0,.ptr 1 0,.int .i64 0] ⟨[[.str s,.sl (rOf cM l) .non],[.str s2,.sl (rOf cM m) .non]],[],[31,31]⟩ =
  if l=m then some (.exit 0,[],⟨[[.str s,.sl (rOf cM l) .non],[.str s2,.sl (rOf cM m) .non]],[],[31,31]⟩) else some (.ret,[.bool false],⟨[[.str s,.sl (rOf cM l) .non],[.str s2,.sl (rOf cM m) .non]],[],[31,31]⟩):=by
 refine qD6 hlen (V:=fun i=>qcH [.ptr 0 0,.ptr 1 0,.int .i64 (i:Nat)] ⟨[[.str s,.sl (rOf cM l) .non],[.str s2,.sl (rOf cM m) .non]],[],[31,31]⟩) _ _ ?_ ?_ ?_
 ·intro i hi hj he
  have w:=qbP (i:=i) (by omega)
  have b0:bAnd=and:=rfl
  show qcH _ _=qcH [.ptr 0 0,.ptr 1 0,.int .i64 ((i+1:Nat):Int)] _
  rw [qnP,← w]
  simp [qfN,hi,hj,he,b0]
 ·intro i hi hj he
  have b0:bAnd=and:=rfl
  have hne:(decide (l[i].1=m[i].1) && (decide (l[i].2.1=m[i].2.1) && ((decide (l[i].2.2.1=m[i].2.2.1) && (decide (l[i].2.2.2.1=m[i].2.2.2.1) && (decide (l[i].2.2.2.2=m[i].2.2.2.2) && true))) && true)))=false:=by
   cases hd:(decide (l[i].1=m[i].1) && (decide (l[i].2.1=m[i].2.1) && ((decide (l[i].2.2.1=m[i].2.2.1) && (decide (l[i].2.2.2.1=m[i].2.2.2.1) && (decide (l[i].2.2.2.2=m[i].2.2.2.2) && true))) && true))) with
   | false=>rfl
   | true =>
    simp only [Bool.and_eq_true,decide_eq_true_eq,and_true] at hd
    exact absurd (Prod.ext hd.1 (Prod.ext hd.2.1 (Prod.ext hd.2.2.1 (Prod.ext hd.2.2.2.1 hd.2.2.2.2)))) he
  have x0:xInt (rOf cM l) (nNat (i:Int)) 0=l[i].1:=by simp [hi]
  have x1:xStr (rOf cM l) (nNat (i:Int)) 1=l[i].2.1:=by simp [hi]
  have x2:xInt (rOf cM l) (nNat (i:Int)) 2=l[i].2.2.1:=by simp [hi]
  have x3:xInt (rOf cM l) (nNat (i:Int)) 3=l[i].2.2.2.1:=by simp [hi]
  have x4:xStr (rOf cM l) (nNat (i:Int)) 4=l[i].2.2.2.2:=by simp [hi]
  have y0:xInt (rOf cM m) (nNat (i:Int)) 0=m[i].1:=by simp [hj]
  have y1:xStr (rOf cM m) (nNat (i:Int)) 1=m[i].2.1:=by simp [hj]
  have y2:xInt (rOf cM m) (nNat (i:Int)) 2=m[i].2.2.1:=by simp [hj]
  have y3:xInt (rOf cM m) (nNat (i:Int)) 3=m[i].2.2.2.1:=by simp [hj]
  have y4:xStr (rOf cM m) (nNat (i:Int)) 4=m[i].2.2.2.2:=by simp [hj]
  show qcH _ _=_
  rw [qnP]
  simp only [qfN,x0,x1,x2,x3,x4,y0,y1,y2,y3,y4,b0,qpa,qAb,hne]
  simp [hi,hj]
 ·show qcH _ _=_
  rw [qnP]
  simp [qfN]
theorem qqk (a b:At) (hn:a.2.length≤100000):qmX a.1 (rOf cM a.2) b.1 (rOf cM b.2)=some (.bool (decide (a=b))):=by
 obtain ⟨a1,a2⟩:=a
 obtain ⟨b1,b2⟩:=b
 unfold qmX qo8
 by_cases h1:a1=b1
 ·by_cases h2:a2.length=b2.length
  ·have h:=qs2 a1 b1 h2 hn
   have h':qcm 0 a1 (rOf cM a2) b1 (rOf cM b2)=_:=h
   by_cases h3:a2=b2
   ·rw [if_pos h3] at h'
    simp only [qe4,qhb,qgx,qft,qfv,qgV,qgF,qfs,qfq,qgC,qgD,h']
    simp [h1,h3]
   ·rw [if_neg h3] at h'
    simp only [qe4,qhb,qgx,qft,qfv,qgV,qgF,qfs,qfq,qgC,qgD,h']
    simp [h1,h2,h3]
  ·have h3:a2≠b2:=fun h=>h2 (by rw [h])
   have h4:¬ ((a2.length:Int)=b2.length):=by omega
   simp [h1,h2,h3,h4]
 ·simp [h1]
theorem qCa (a b:At) (hn:a.2.length≤100000):qbX a.1 (rOf cM a.2) b.1 (rOf cM b.2)=true:=by simp only [qcY,qbX,qqk a b hn]; simp
theorem qDQ (a b:At) (hn:a.2.length≤100000):qcY a.1 (rOf cM a.2) b.1 (rOf cM b.2)=decide (a=b):=by simp only [qcY,qbX,qqk a b hn]; simp
theorem qhu {l:Li} (h:liS l):qf3 l.1 l.2.1.1 (rOf cM l.2.1.2) l.2.2.1 l.2.2.2.1.1 l.2.2.2.1.2.1 l.2.2.2.1.2.2.1 l.2.2.2.1.2.2.2.1 l.2.2.2.1.2.2.2.2 l.2.2.2.2.1 l.2.2.2.2.2.1 l.2.2.2.2.2.2.1 l.2.2.2.2.2.2.2.1 l.2.2.2.2.2.2.2.2=some (.tup [.str (tdS (liOk l) (liT l)),.int .i64 (tdE (liOk l))]):=by
 have e1:=qxf h.1
 have e2:=qwl h.1
 have e3:=qxd h.1
 have a1:=qki h.2.1
 have a2:=qjT h.2.1
 have a3:=qj1 h.2.1
 have b1:=qki h.2.2
 have b2:=qjT h.2.2
 have b3:=qj1 h.2.2
 have l1:=qla h.1
 have l2:=qej h.2.1
 have l3:=qej h.2.2
 have l4:=qvO l.2.2.1
 have s1:qbX l.2.1.1 (rOf cM l.2.1.2) [] []=true:=qCa l.2.1 ([],[]) (by have:=h.1.2.1; omega)
 have s2:qcY l.2.1.1 (rOf cM l.2.1.2) [] []=decide (l.2.1=([],[])):=qDQ l.2.1 ([],[]) (by have:=h.1.2.1; omega)
 have o1:qaG [110,111,116,32] (atT l.2.1)=true:=qbE (by simp; omega)
 have o2:qaG (tmT l.2.2.2.1) [32]=true:=qbE (by simp; omega)
 have lw:(opW l.2.2.1).length≤2:=by
  unfold opW
  repeat' split
  all_goals simp
 have o3:qaG (sApp (tmT l.2.2.2.1) [32]) (opW l.2.2.1)=true:=qbE (by simp; omega)
 have o4:qaG (sApp (sApp (tmT l.2.2.2.1) [32]) (opW l.2.2.1)) [32]=true:=qbE (by simp; omega)
 have o5:qaG (sApp (sApp (sApp (tmT l.2.2.2.1) [32]) (opW l.2.2.1)) [32]) (tmT l.2.2.2.2)=true:=qbE (by simp; omega)
 have osp:=fun hh:opOk l.2.2.1=true=>qIC hh
 have one':sNe (opW l.2.2.1) []=true:=by simp [qHk]
 have pl:qA3 l=(decide (l.2.2.1=0) && decide (l.2.2.2.1=tm0) && decide (l.2.2.2.2=tm0)):=rfl
 have b0:bAnd=and:=rfl
 have z0:∀ t:Tm,(bAnd (iEq t.1 0) (bAnd (sEq t.2.1 []) (bAnd (bAnd (iEq t.2.2.1 0) (bAnd (iEq t.2.2.2.1 0) (bAnd (sEq t.2.2.2.2 []) true))) true)))=decide (t=tm0):=fun t=>by
  obtain ⟨a,b,c,d,e⟩:=t
  simp [tm0,b0,Bool.decide_and]
 unfold qf3 qjG liT liOk
 simp only [qaI,e1,e2,e3,a1,a2,a3,b1,b2,b3,qHf,qIA,s1,s2,pl,z0]
 generalize l.1=k
 generalize l.2.2.2.1=A at *
 generalize l.2.2.2.2=B at *
 generalize l.2.1=T at *
 generalize l.2.2.1=o at *
 by_cases k1:k=1
 ·subst k1
  have n1:iEq 1 1=true:=rfl
  have n2:iEq 1 2=false:=rfl
  have n3:iEq 1 3=false:=rfl
  rw [n1,n2,n3]
  by_cases h0:o=0 <;> by_cases hA:A=tm0 <;> by_cases hB:B=tm0 <;> cases hT:atOk T <;> simp [h0,hA,hB,hT,td_t,td_f,te_t,te_f]
 ·by_cases k2:k=2
  ·subst k2
   have n1:iEq 2 1=false:=rfl
   have n2:iEq 2 2=true:=rfl
   have n3:iEq 2 3=false:=rfl
   rw [n1,n2,n3]
   cases hT:atOk T with
   | true =>
    simp only [td_t,te_t,o1]
    by_cases h0:o=0 <;> by_cases hA:A=tm0 <;> by_cases hB:B=tm0 <;> simp [h0,hA,hB,td_t,td_f,te_t,te_f]
   | false =>
    by_cases h0:o=0 <;> by_cases hA:A=tm0 <;> by_cases hB:B=tm0 <;> simp [h0,hA,hB,td_t,td_f,te_t,te_f]
  ·have n1:iEq k 1=false:=by simp [k1]
   have n2:iEq k 2=false:=by simp [k2]
   rw [n1,n2]
   by_cases k3:k=3
   ·subst k3
    have n3:iEq 3 3=true:=rfl
    rw [n3]
    cases hO:opOk o with
    | false=>cases tmOk A <;> cases tmOk B <;> by_cases hT:T=([],[]) <;> simp [hT,td_f,te_f]
    | true =>
     have hsp:=osp hO
     cases hA:tmOk A <;> cases hB:tmOk B <;> by_cases hT:T=([],[]) <;>
      (simp only [td_t,td_f,te_t,te_f,ie00,qIt,o2,o3,o4,o5,one',if_true,hT,decide_true,decide_false]; simp [hsp,hT,td_t,td_f,te_t,te_f])
   ·have n3:iEq k 3=false:=by simp [k3]
    rw [n3]
    simp [k1,k2,k3,td_f,te_f]
theorem qvj {l:Li} (h:liS l):qdn l.1 l.2.1.1 (rOf cM l.2.1.2) l.2.2.1 l.2.2.2.1.1 l.2.2.2.1.2.1 l.2.2.2.1.2.2.1 l.2.2.2.1.2.2.2.1 l.2.2.2.1.2.2.2.2 l.2.2.2.2.1 l.2.2.2.2.2.1 l.2.2.2.2.2.2.1 l.2.2.2.2.2.2.2.1 l.2.2.2.2.2.2.2.2=true:=by simp only [qdn,qdQ,qd5,qhu h]; simp
theorem qvX {l:Li} (h:liS l):qd5 l.1 l.2.1.1 (rOf cM l.2.1.2) l.2.2.1 l.2.2.2.1.1 l.2.2.2.1.2.1 l.2.2.2.1.2.2.1 l.2.2.2.1.2.2.2.1 l.2.2.2.1.2.2.2.2 l.2.2.2.2.1 l.2.2.2.2.2.1 l.2.2.2.2.2.2.1 l.2.2.2.2.2.2.2.1 l.2.2.2.2.2.2.2.2=tdS (liOk l) (liT l):=by simp only [qdn,qdQ,qd5,qhu h]; simp
theorem qvo {l:Li} (h:liS l):qdQ l.1 l.2.1.1 (rOf cM l.2.1.2) l.2.2.1 l.2.2.2.1.1 l.2.2.2.1.2.1 l.2.2.2.1.2.2.1 l.2.2.2.1.2.2.2.1 l.2.2.2.1.2.2.2.2 l.2.2.2.2.1 l.2.2.2.2.2.1 l.2.2.2.2.2.2.1 l.2.2.2.2.2.2.2.1 l.2.2.2.2.2.2.2.2=tdE (liOk l):=by simp only [qdn,qdQ,qd5,qhu h]; simp
end Go.Pv
set_option maxHeartbeats 8000000
set_option maxRecDepth 200000
set_option linter.unusedSimpArgs false
set_option linter.unusedVariables false
namespace Go.Pv
open Go Go.Proofs Go.RowKit
theorem qqx (s:Txt):(cutT s).length≤300:=by
 unfold cutT
 rw [List.length_take]
 omega
theorem qxh {t:Tm} (h:tmR t):tmS (cpTm t):=⟨qqx _,h⟩
theorem qHN {a:At} (h:atR a):atS (cpAt a):=by
 refine ⟨qqx _,by simp [cpAt]; omega,fun t ht=>?_⟩
 simp only [cpAt,List.mem_map] at ht
 obtain ⟨u,hu,rfl⟩:=ht
 exact qxh (h u (List.mem_of_mem_take hu))
theorem qG8 {l:Li} (h:liR l):liS (cpLi l):=⟨qHN h.1,qxh h.2.1,qxh h.2.2⟩
def awX:Tm:=(1,[88],0,0,[])
def awP:At:=([112],[awX])
def awQ:At:=([113],[awX,(3,[],0,0,[])])
def awR:Ru:=(awP,[(2,awQ,0,tm0,tm0),(3,([],[]),2,awX,(2,[],1,-3,[]))])
def awO:En:=([103,111],[([88],1)],[(true,awP)])
theorem qE7:tmS awX:=⟨by decide,by decide,by decide⟩
theorem qIh:tmS tm0:=⟨by decide,by decide,by decide⟩
theorem qIj:atS awP:=⟨by decide,by decide,fun t ht=>by
 simp only [awP,List.mem_singleton] at ht
 subst ht
 exact qE7⟩
theorem qF0:ruS awR:=by
 refine ⟨qIj,by decide,fun l hl=>?_⟩
 simp only [awR,List.mem_cons,List.not_mem_nil,or_false] at hl
 rcases hl with rfl | rfl
 ·refine ⟨⟨by decide,by decide,fun t ht=>?_⟩,qIh,qIh⟩
  simp only [awQ,List.mem_cons,List.not_mem_nil,or_false] at ht
  rcases ht with rfl | rfl
  ·exact qE7
  ·exact ⟨by decide,by decide,by decide⟩
 ·exact ⟨⟨by decide,by decide,fun t ht=>by simp at ht⟩,qE7,⟨by decide,by decide,by decide⟩⟩
theorem qFi:enS awO:=by
 refine ⟨by decide,⟨by decide,fun t ht=>?_⟩,⟨by decide,fun t ht=>?_⟩⟩
 ·simp only [awO,List.mem_singleton] at ht
  subst ht
  exact (by decide:(88 :: ([]:Txt)).length≤300)
 ·simp only [awO,List.mem_singleton] at ht
  subst ht
  exact qIj
theorem qEP:ruOk awR=true:=by kernel_rfl
theorem qIk:ruT awR=[112,40,88,41,32,58,45,32,110,111,116,32,113,40,88,44,32,95,41,44,32,88,32,33,61,32,45,51,46]:=by kernel_rfl
theorem qEB:enOk awO=true:=by kernel_rfl
theorem qIz:enT awO=[111,110,32,103,111,40,88,32,105,110,116,41,58,32,43,112,40,88,41,46]:=by kernel_rfl
theorem awN:nmB [110,111,116]=false:=by kernel_rfl
theorem awV:vrB [65,98]=true:=by kernel_rfl
theorem qtJ:qqN=some (.bool true):=by
 unfold qqN qmE
 have e1:qeh awR.1.1 (rOf cM awR.1.2) (rOf cL awR.2)=true:=qCY qF0
 have e2:qgk awR.1.1 (rOf cM awR.1.2) (rOf cL awR.2)=_:=qDe qF0
 have e3:qhe awR.1.1 (rOf cM awR.1.2) (rOf cL awR.2)=_:=qCH qF0
 have f1:qhJ awO.1 (rOf cP awO.2.1) (rOf cAc awO.2.2)=true:=qHs qFi
 have f2:qrs awO.1 (rOf cP awO.2.1) (rOf cAc awO.2.2)=_:=qHK qFi
 have f3:qq8 awO.1 (rOf cP awO.2.1) (rOf cAc awO.2.2)=_:=qHR qFi
 rw [qEP,qIk] at e2
 rw [qEP] at e3
 rw [qEB,qIz] at f2
 rw [qEB] at f3
 show (Tr.ite (qeh awR.1.1 (rOf cM awR.1.2) (rOf cL awR.2)) (Tr.ite (qhJ awO.1 (rOf cP awO.2.1) (rOf cAc awO.2.2)) (Tr.ite (iEq (qhe awR.1.1 (rOf cM awR.1.2) (rOf cL awR.2)) 0)
  (Tr.ite (sEq (qgk awR.1.1 (rOf cM awR.1.2) (rOf cL awR.2)) [112,40,88,41,32,58,45,32,110,111,116,32,113,40,88,44,32,95,41,44,32,88,32,33,61,32,45,51,46])
   (Tr.ite (iEq (qq8 awO.1 (rOf cP awO.2.1) (rOf cAc awO.2.2)) 0) (Tr.ite (sEq (qrs awO.1 (rOf cP awO.2.1) (rOf cAc awO.2.2)) [111,110,32,103,111,40,88,32,105,110,116,41,58,32,43,112,40,88,41,46])
    (Tr.ite (qc2 [110,111,116]) (Tr.ite (bNot (qeH [110,111,116])) (Tr.ite (qeu [65,98]) (Tr.ret (PV.bool (qi0 [65,98]))) Tr.fail) (Tr.ret (PV.bool false))) Tr.fail)
    (Tr.ret (PV.bool false))) (Tr.ret (PV.bool false))) (Tr.ret (PV.bool false))) (Tr.ret (PV.bool false))) Tr.fail) Tr.fail).run=_
 rw [e1,e2,e3,f1,f2,f3,qmT (by decide),qqB (by decide),qsm (by decide),qws (by decide),awN,awV]
 rfl
theorem qDg:qkF=true:=by simp [qkF,qlD,qtJ]
theorem qE3:qlD=true:=by simp [qlD,qtJ]
theorem qyx {t:Tm} {l:Li} {s:Txt} (ht:tmR t) (hl:liR l):qmy t.1 t.2.1 t.2.2.1 t.2.2.2.1 t.2.2.2.2 l.1 l.2.1.1 (rOf cM l.2.1.2) l.2.2.1 l.2.2.2.1.1 l.2.2.2.1.2.1 l.2.2.2.1.2.2.1 l.2.2.2.1.2.2.2.1 l.2.2.2.1.2.2.2.2 l.2.2.2.2.1 l.2.2.2.2.2.1 l.2.2.2.2.2.2.1 l.2.2.2.2.2.2.2.1 l.2.2.2.2.2.2.2.2 s=some (.bool true):=by
 have ht':=qxh ht
 have hl':=qG8 hl
 have a1:=qDq ht'
 have a2:=qEr ht'
 have a3:=qCU ht'
 have a4:=qki ht'
 have a5:=qjT ht'
 have a6:=qj1 ht'
 have b1:=qEp hl'.1
 have b2:=qC4 hl'.1
 have b3:=qDa hl'.1
 have b4:=qxf hl'.1
 have b5:=qwl hl'.1
 have b6:=qxd hl'.1
 have c1:=qug hl'
 have c2:=qvv hl'
 have c3:=qvK hl'
 have c4:=qvj hl'
 have c5:=qvX hl'
 have c6:=qvo hl'
 have hs:(cutT s).length≤65536:=Nat.le_trans (qqx s) (by decide)
 obtain ⟨l0,⟨l1,l2⟩,l3,⟨l4,l5,l6,l7,l8⟩,⟨l9,l10,l11,l12,l13⟩⟩:=l
 unfold qmy qnY
 simp only [qaI,qC1,qEk,qCW,qDv,qEc,qDu,qHT,tx_v,qvU,qt0,qv4,quj,qt4,quB,qvH,qt3,qux,qu2,qve,qth,qtt,qsA,qtL]
 simp only [cpTm] at a1 a2 a3 a4 a5 a6
 simp only [a1,a2,a3,a4,a5,a6,b1,b2,b3,b4,b5,b6,c1,c2,c3,c4,c5,c6,qmT hs,qqB hs,qwy hs,qBE hs,qsm hs,qws hs,qze hs,qEA hs,qDg,qE3]
 simp
end Go.Pv
set_option maxHeartbeats 8000000
set_option maxRecDepth 200000
set_option linter.unusedSimpArgs false
set_option linter.unusedVariables false
namespace Go.Pv
open Go Go.Proofs Go.RowKit
def Std (x:PV):Prop:=∃ H w v,Rel H w x v
def StdL (xs:List PV):Prop:=∃ H w vs,RelL H w xs vs
theorem StdL.at_ {xs:List PV} (h:StdL xs) (i:Nat) {x:PV} (hi:xs[i]?=some x):Std x:=by
 obtain ⟨H,w,vs,h⟩:=h
 obtain ⟨v,_,hr⟩:=h.get hi
 exact ⟨H,w,v,hr⟩
theorem Std.agg {xs:List PV} (h:Std (.agg xs)):StdL xs:=by
 obtain ⟨H,w,v,h⟩:=h
 cases h with
 | agg _ vs h=>exact ⟨H,w,vs,h⟩
theorem Std.rows {α:Type} {C:Cod α} {l:List α} {t:Tag} (h:Std (.sl (rOf C l) t)):∀ a ∈ l,StdL (C.enc a):=by
 obtain ⟨H,w,v,h⟩:=h
 intro a ha
 obtain ⟨i,hi⟩:=List.getElem?_of_mem ha
 cases h with
 | sl p len cap k xs vss t hl hcap hm h hr ht =>
  obtain ⟨u,_,hu⟩:=h.get (qGe C hi)
  exact ⟨H,w,u,hu⟩
theorem Std.int {n:Int} (h:Std (.int .i64 n)):-9223372036854775808≤n∧n≤9223372036854775807:=by
 obtain ⟨H,w,v,h⟩:=h
 cases h with
 | int _ _ hl=>simpa [Lit.wf,IntKind.min,IntKind.max,IntKind.signed,IntKind.bits] using hl
theorem qHP {t:Tm} (h:StdL (cM.enc t)):tmR t:=(h.at_ 3 (x:=.int .i64 t.2.2.2.1) rfl).int
theorem qIn {l:Li} (h:StdL (cL.enc l)):liR l :=
 ⟨fun t ht=>qHP ((h.at_ 2 (x:=.sl (rOf cM l.2.1.2) .non) rfl).rows t ht),(h.at_ 7 (x:=.int .i64 l.2.2.2.1.2.2.2.1) rfl).int,(h.at_ 12 (x:=.int .i64 l.2.2.2.2.2.2.2.1) rfl).int⟩
theorem qB5 (t:Tm) (l:Li) (s:Txt):qkm [.agg (cM.enc t),.agg (cL.enc l),.str s]=.ite (qk7 t.1 t.2.1 t.2.2.1 t.2.2.2.1 t.2.2.2.2 l.1 l.2.1.1 (rOf cM l.2.1.2) l.2.2.1 l.2.2.2.1.1 l.2.2.2.1.2.1 l.2.2.2.1.2.2.1 l.2.2.2.1.2.2.2.1 l.2.2.2.1.2.2.2.2 l.2.2.2.2.1 l.2.2.2.2.2.1 l.2.2.2.2.2.2.1 l.2.2.2.2.2.2.2.1 l.2.2.2.2.2.2.2.2 s) (.ret (.bool (qmp t.1 t.2.1 t.2.2.1 t.2.2.2.1 t.2.2.2.2 l.1 l.2.1.1 (rOf cM l.2.1.2) l.2.2.1 l.2.2.2.1.1 l.2.2.2.1.2.1 l.2.2.2.1.2.2.1 l.2.2.2.1.2.2.2.1 l.2.2.2.1.2.2.2.2 l.2.2.2.2.1 l.2.2.2.2.2.1 l.2.2.2.2.2.2.1 l.2.2.2.2.2.2.2.1 l.2.2.2.2.2.2.2.2 s))) .fail:=rfl
theorem qyD (t:Tm) (l:Li) (s:Txt) (hg:∃ H w vs,RelL H w [.agg (cM.enc t),.agg (cL.enc l),.str s] vs):(qkm [.agg (cM.enc t),.agg (cL.enc l),.str s]).run=some (.bool true):=by
 have hg:StdL [.agg (cM.enc t),.agg (cL.enc l),.str s]:=hg
 have h:=qyx (s:=s) (qHP (hg.at_ 0 rfl).agg) (qIn (hg.at_ 1 rfl).agg)
 rw [qB5]
 simp [qk7,qmp,h]
end Go.Pv
set_option maxHeartbeats 4000000
set_option maxRecDepth 200000
set_option linter.unusedSimpArgs false
set_option linter.unusedVariables false
namespace Go.Pv
open Go Go.Proofs Go.RowKit Go.Proofs.YtakhnioifgbdfaaGreatDoor
theorem g_pow : Tryz.prog.globalNamed "internal/strconv.uint64pow10" = some 1 := by kernel_rfl
theorem gt_pow:(Tryz.prog.globals[1]?).map (·.type)=some 217:=by kernel_rfl
theorem g_rng : Tryz.prog.globalNamed "strconv.ErrRange" = some 6 := by kernel_rfl
theorem gt_rng:(Tryz.prog.globals[6]?).map (·.type)=some 165:=by kernel_rfl
theorem g_syn : Tryz.prog.globalNamed "strconv.ErrSyntax" = some 5 := by kernel_rfl
theorem gt_syn:(Tryz.prog.globals[5]?).map (·.type)=some 165:=by kernel_rfl
theorem g_two : Tryz.prog.globalNamed "pedigree/lex.twos" = some 0 := by kernel_rfl
theorem gt_two:(Tryz.prog.globals[0]?).map (·.type)=some 211:=by kernel_rfl
def glAt (W:World):Gl:=⟨fun b=>W.heap[b]?,fun _ _=>.cells #[] 0 (0,0),fun _=>[]⟩
def laidL : List (String × DataW Unit) := [("math/bits.deBruijn32tab", Rows.laid_math_bits_deBruijn32tab), ("math/bits.deBruijn64tab", Rows.laid_math_bits_deBruijn64tab), ("internal/strconv.uint64pow10", Rows.laid_internal_strconv_uint64pow10), ("strconv.ErrRange", Rows.laid_strconv_ErrRange), ("strconv.ErrSyntax", Rows.laid_strconv_ErrSyntax), ("pedigree/lex.twos", Rows.laid_pedigree_lex_twos)]
theorem qjI:(laidL.filter fun x=>x.2.handleName?.isSome)=[]:=by kernel_rfl
theorem qx6 {W:World} (h:laidMetH Tryz.prog laidL W):GlPow (glAt W):=by
 unfold laidMetH at h
 rw [qjI] at h
 obtain ⟨ps,hl,_⟩:=h
 refine ⟨?_⟩
 obtain ⟨g, t, cs, fuel, p, h1, h2, h3, h4⟩ := qko (nm := "internal/strconv.uint64pow10") hl (.tail _ (.tail _ (.head _)))
 obtain rfl:=Option.some.inj (g_pow.symm.trans h1)
 obtain rfl:=Option.some.inj (gt_pow.symm.trans h2)
 have e:(Rows.laid_internal_strconv_uint64pow10:DataW Unit)=Lib.tabData .u64 Lib.pow10Tab:=by rfl
 rw [e] at h4
 have hc:=Lib.cells_of_tab Tryz.underlying217 Tryz.underlying132 (by kernel_rfl) (by kernel_rfl) h4
 obtain ⟨T,f,hh⟩:=qmc h1 h3
 refine ⟨1,T,f,g_pow,?_⟩
 show W.heap[1]?=_
 rw [← hc]
 simpa using hh
theorem qBi {W:World} (h0:laidMetH Tryz.prog laidL W):GlOk (glAt W):=by
 have h:=h0
 unfold laidMetH at h
 rw [qjI] at h
 obtain ⟨ps,hl,_⟩:=h
 refine ⟨qx6 h0,?_,?_⟩
 ·obtain ⟨g, t, cs, fuel, p, h1, h2, h3, h4⟩ := qko (nm := "strconv.ErrSyntax") hl (.tail _ (.tail _ (.tail _ (.tail _ (.head _)))))
  obtain rfl:=Option.some.inj (g_syn.symm.trans h1)
  obtain rfl:=Option.some.inj (gt_syn.symm.trans h2)
  obtain ⟨u,v,rfl⟩:=qpD Tryz.underlying165 h4
  obtain ⟨T,f,hh⟩:=qmc h1 h3
  exact ⟨u,v,5,T,f,g_syn,hh⟩
 ·obtain ⟨g, t, cs, fuel, p, h1, h2, h3, h4⟩ := qko (nm := "strconv.ErrRange") hl (.tail _ (.tail _ (.tail _ (.head _))))
  obtain rfl:=Option.some.inj (g_rng.symm.trans h1)
  obtain rfl:=Option.some.inj (gt_rng.symm.trans h2)
  obtain ⟨u,v,rfl⟩:=qpD Tryz.underlying165 h4
  obtain ⟨T,f,hh⟩:=qmc h1 h3
  exact ⟨u,v,6,T,f,g_rng,hh⟩
theorem qrx {H:Type} {enc:TypeId × Value→H} {P:Program} {w:World} {base:Nat} {sp:Nat→Bool} {held:Bool} {fuel:Nat} {t e:TypeId} {n:Nat} {cs:List Value} {zs:List (List UInt8)} {p:List MemPlace}
  (ht:P.underlying t=some (.array n e)) (he:P.underlying e=some .string) (hce:P.cellsOf e=1) (hct:P.cellsOf t=n)
  (h:DataW.trod enc P w base sp held fuel t cs=some (.agg (zs.map fun z=>.lit (.string z)),p)):cs=zs.map fun z=>Value.string ⟨z.toArray⟩:=by
 cases fuel with
 | zero=>simp [DataW.trod] at h
 | succ fuel =>
  simp only [DataW.trod,ht,hce,hct,Nat.mul_one] at h
  split at h
  ·rename_i hl
   obtain ⟨xs,hm,hx⟩:=Option.map_eq_some_iff.1 h
   have hxs:xs.map (·.1)=zs.map fun z=>(DataW.lit (.string z):DataW H):=by
    have:=congrArg Prod.fst hx
    simpa using this
   have hxl:xs.length=n:=by simpa using Lib.mapM_length hm
   have hzl:zs.length=n:=by
    have:=congrArg List.length hxs
    simp at this
    omega
   apply List.ext_getElem?
   intro i
   by_cases hi:i < n
   ·obtain ⟨b,hb,hf⟩:=Lib.mapM_at hm i i (by simp [hi])
    obtain ⟨z,hc,rfl,_⟩:=DataW.trod_string he hf
    have h1:cs[i]?=some (.string z):=by
     have:=congrArg (·[0]?) hc
     simpa [List.getElem?_take,List.getElem?_drop] using this
    have h2:(xs.map (·.1))[i]?=some (DataW.lit (.string z.data.toList):DataW H):=by simp [hb]
    rw [hxs] at h2
    simp only [List.getElem?_map,Option.map_eq_some_iff,DataW.lit.injEq,Lit.string.injEq] at h2
    obtain ⟨z',hz',rfl⟩:=h2
    simp [h1,hz']
   ·rw [List.getElem?_eq_none (by omega),List.getElem?_eq_none (by simp; omega)]
  ·cases h
theorem qxC {W:World} (h0:laidMetH Tryz.prog laidL W):GlLex (glAt W):=by
 have h:=h0
 unfold laidMetH at h
 rw [qjI] at h
 obtain ⟨ps,hl,_⟩:=h
 refine ⟨qBi h0,?_⟩
 obtain ⟨g, t, cs, fuel, p, h1, h2, h3, h4⟩ := qko (nm := "pedigree/lex.twos") hl (.tail _ (.tail _ (.tail _ (.tail _ (.tail _ (.head _))))))
 obtain rfl:=Option.some.inj (g_two.symm.trans h1)
 obtain rfl:=Option.some.inj (gt_two.symm.trans h2)
 have e:(Rows.laid_pedigree_lex_twos:DataW Unit)=.agg (twosV.map fun z=>.lit (.string z)):=by rfl
 rw [e] at h4
 have hc:=qrx Tryz.underlying211 Tryz.underlying9 (by kernel_rfl) (by kernel_rfl) h4
 obtain ⟨T,f,hh⟩:=qmc h1 h3
 refine ⟨0,T,f,g_two,?_⟩
 show W.heap[0]?=_
 rw [← hc]
 simpa using hh
theorem qF1:laidOutB Tryz.prog=true:=by kernel_rfl
theorem qBK {F:List PV→Tr PV} {f:FuncId} {fn:Func} {s:ChangeSpec} (hsim:∀ {gl:Gl},GlLex gl→SimP Tryz.prog gl f fun args=>(F args).run) (hF:∀ xs,ArgL Tryz.prog fn.params.toList xs→(∃ H w vs,RelL H w xs vs)→(F xs).run=some (.bool true))
  (hrt:fn.resultTypes=#[4]) (hsv:s.vars=[]) (hT:(fn.params.toList.all fun t=>okT Tryz.prog 16 t && Tryz.prog.readableRec t && decide (t < Tryz.prog.types.size))=true)
  {H:Type} {enc:TypeId × Value→H} {W:World} {base:Nat} {args:Array Value} {ds gs:List (DataW H)} {before:List MemPlace} (hfn:∀ ds:List (DataW H),ds.length=fn.params.size→s.fn H ds={ results:=[.lit (.bool true)],args:=ds })
  (hval:∀ (j:Nat) t v,fn.params[j]?=some t→args[j]?=some v→Value.okWide Tryz.prog W .any base t v) (hW:DataW.Whole enc Tryz.prog fn.params.toList s.vars false W args.toList ds gs before) (hL:laidMetH Tryz.prog laidL W) :
  Calls Tryz.prog f args W fun e W'=>∃ v,e=.returned v∧s.post enc Tryz.prog fn false true false false W args v W':=by
 have hW':=hW
 obtain ⟨p,q,hA,hV,rfl,hfz,hnd⟩:=hW'
 have hT':∀ t ∈ fn.params.toList,okT Tryz.prog 16 t=true∧Tryz.prog.readableRec t=true∧t < Tryz.prog.types.size:=by
  intro t ht
  have:=List.all_eq_true.1 hT t ht
  simp only [Bool.and_eq_true,decide_eq_true_eq] at this
  exact ⟨this.1.1,this.1.2,this.2⟩
 obtain ⟨xs,hx,ha⟩:=qwD (n:=16) (fun j t v ht hv=>hval j t v (by simpa using ht) (by simpa using hv)) hA (List.all_eq_true.2 fun t ht=>(hT' t ht).1)
 have hlen:ds.length=fn.params.size:=by
  have h1:∀ {ts:List TypeId} {vs:List Value} {ds:List (DataW H)} {ps:List MemPlace},DataW.TrodAll enc Tryz.prog W 0 (fun _=>true) true ts vs ds ps→ds.length=ts.length:=by
   intro ts
   induction ts with
   | nil=>intro vs ds ps h; obtain ⟨rfl,rfl,rfl⟩:=Go.ChangeShapes.trodAll_nil h; rfl
   | cons t ts ih =>
    intro vs ds ps h
    obtain ⟨v,vs',d,ds',p,q,rfl,rfl,rfl,hd,hrest⟩:=Go.ChangeShapes.trodAll_cons h
    simp [ih hrest]
  simpa using h1 hA
 have hc:=(hsim (qxC hL)).run xs _ (hF xs ha ⟨_,_,_,hx⟩) (ghOf W) W args.toList rfl rfl rfl (fun b o h=>h) hx
 simp only [Array.toArray_toList] at hc
 refine hc.mono ?_
 rintro e W' ⟨v,rfl,hb,hr⟩
 cases hr
 exact ⟨_,rfl,qCJ qF1 hrt Tryz.underlying4 hsv (fun t ht=>(hT' t ht).2) hW (hfn ds hlen) hb.1⟩
end Go.Pv
namespace Go.Proofs.YtakhnioifgbdfaaGreatDoor
open Go Go.Proofs Go.RowKit Go.Pv Go.ChangeShapes Go.WideShapes Go.ChangeAt
theorem qn1 {t:TypeId} {k:IntKind} {xs:List PV} (hu:Tryz.prog.underlying t=some (.int k)) (h:Shp Tryz.prog t xs):∃ n,xs=[.int k n]:=by
 cases h with
 | int t k' n h=>rw [hu] at h; cases h; exact ⟨n,rfl⟩
 | bool t b h=>rw [hu] at h; cases h
 | str t l h=>rw [hu] at h; cases h
 | sl t e xss h hx=>rw [hu] at h; cases h
 | struct t fs xs h hx=>rw [hu] at h; cases h
theorem qrU {t:TypeId} {xs:List PV} (hu:Tryz.prog.underlying t=some .string) (h:Shp Tryz.prog t xs):∃ l,xs=[.str l]:=by
 cases h with
 | str t l h=>exact ⟨l,rfl⟩
 | int t k' n h=>rw [hu] at h; cases h
 | bool t b h=>rw [hu] at h; cases h
 | sl t e xss h hx=>rw [hu] at h; cases h
 | struct t fs xs h hx=>rw [hu] at h; cases h
theorem qhY {t:TypeId} {fs:Array Field} {xs:List PV} (hu:Tryz.prog.underlying t=some (.struct fs)) (h:Shp Tryz.prog t xs):ShpL Tryz.prog (fs.toList.map (·.type)) xs:=by
 cases h with
 | struct t fs xs h hx=>rw [hu] at h; cases h; exact hx
 | str t l h=>rw [hu] at h; cases h
 | int t k' n h=>rw [hu] at h; cases h
 | bool t b h=>rw [hu] at h; cases h
 | sl t e xss h hx=>rw [hu] at h; cases h
theorem qHF {t e:TypeId} {xs:List PV} (hu:Tryz.prog.underlying t=some (.slice e)) (h:Shp Tryz.prog t xs):∃ xss,xs=[.sl xss .non]∧∀ ys,ys ∈ xss→Shp Tryz.prog e ys:=by
 cases h with
 | sl t e xss h hx=>rw [hu] at h; cases h; exact ⟨xss,rfl,hx⟩
 | str t l h=>rw [hu] at h; cases h
 | int t k' n h=>rw [hu] at h; cases h
 | bool t b h=>rw [hu] at h; cases h
 | struct t fs xs h hx=>rw [hu] at h; cases h
theorem qDA {α:Type} (C:Cod α) {t e:TypeId} {xs:List PV} (hu:Tryz.prog.underlying t=some (.slice e)) (he:∀ ys,Shp Tryz.prog e ys→∃ a,ys=C.enc a) (h:Shp Tryz.prog t xs):∃ l:List α,xs=[.sl (rOf C l) .non]:=by
 obtain ⟨xss,rfl,hx⟩:=qHF hu h
 have:∃ l:List α,xss=rOf C l:=by
  clear h
  induction xss with
  | nil=>exact ⟨[],rfl⟩
  | cons y ys ih =>
   obtain ⟨a,rfl⟩:=he y (hx y (List.mem_cons_self ..))
   obtain ⟨l,rfl⟩:=ih fun z hz=>hx z (List.mem_cons_of_mem _ hz)
   exact ⟨a :: l,rfl⟩
 obtain ⟨l,rfl⟩:=this
 exact ⟨l,rfl⟩
theorem qGH {x:PV} (h:Arg Tryz.prog 9 x):∃ s,x=.str s:=by
 rcases h with ⟨fs,ys,hu,rfl,hs⟩ | ⟨hne,hs⟩
 ·rw [Tryz.underlying9] at hu; cases hu
 ·obtain ⟨s,h⟩:=qrU Tryz.underlying9 hs
  cases h
  exact ⟨s,rfl⟩
theorem qGl {xs:List PV} (h:Shp Tryz.prog 25 xs):∃ v:Vl,xs=[.int .i64 v.1,.int .i64 v.2.1,.str v.2.2]:=by
 have h1:=qhY Tryz.underlying25 h
 cases h1 with
 | cons t ts xs ys ha hs =>
  obtain ⟨k,rfl⟩:=qn1 Tryz.underlying23 ha
  cases hs with
  | cons t ts xs ys hb hs =>
   obtain ⟨n,rfl⟩:=qn1 Tryz.underlying2 hb
   cases hs with
   | cons t ts xs ys hc hs =>
    obtain ⟨s,rfl⟩:=qrU Tryz.underlying9 hc
    cases hs
    exact ⟨(k,n,s),rfl⟩
theorem qm5 {xs:List PV} (h:Shp Tryz.prog 27 xs):∃ v:Tm,xs=cM.enc v:=by
 have h1:=qhY Tryz.underlying27 h
 cases h1 with
 | cons t ts xs ys ha0 hs =>
  obtain ⟨x0,rfl⟩:=qn1 Tryz.underlying22 ha0
  cases hs with
  | cons t ts xs ys ha1 hs =>
   obtain ⟨x1,rfl⟩:=qrU Tryz.underlying9 ha1
   cases hs with
   | cons t ts xs ys ha2 hs =>
    obtain ⟨x2,rfl⟩:=qGl ha2
    cases hs
    exact ⟨(x0,x1,x2),rfl⟩
theorem qEa {xs:List PV} (h:Shp Tryz.prog 31 xs):∃ v:At,xs=cA.enc v:=by
 have h1:=qhY Tryz.underlying31 h
 cases h1 with
 | cons t ts xs ys ha0 hs =>
  obtain ⟨x0,rfl⟩:=qrU Tryz.underlying9 ha0
  cases hs with
  | cons t ts xs ys ha1 hs =>
   obtain ⟨x1,rfl⟩:=qDA cM Tryz.underlying29 (fun _ h=>qm5 h) ha1
   cases hs
   exact ⟨(x0,x1),rfl⟩
theorem qFJ {xs:List PV} (h:Shp Tryz.prog 34 xs):∃ v:Li,xs=cL.enc v:=by
 have h1:=qhY Tryz.underlying34 h
 cases h1 with
 | cons t ts xs ys ha0 hs =>
  obtain ⟨x0,rfl⟩:=qn1 Tryz.underlying28 ha0
  cases hs with
  | cons t ts xs ys ha1 hs =>
   obtain ⟨x1,rfl⟩:=qEa ha1
   cases hs with
   | cons t ts xs ys ha2 hs =>
    obtain ⟨x2,rfl⟩:=qn1 Tryz.underlying32 ha2
    cases hs with
    | cons t ts xs ys ha3 hs =>
     obtain ⟨x3,rfl⟩:=qm5 ha3
     cases hs with
     | cons t ts xs ys ha4 hs =>
      obtain ⟨x4,rfl⟩:=qm5 ha4
      cases hs
      exact ⟨(x0,x1,x2,x3,x4),rfl⟩
theorem qCM {x:PV} (h:Arg Tryz.prog 27 x):∃ v:Tm,x=.agg (cM.enc v):=by
 rcases h with ⟨fs,ys,hu,rfl,hs⟩ | ⟨hne,_⟩
 ·obtain ⟨v,rfl⟩:=qm5 hs
  exact ⟨v,rfl⟩
 ·exact absurd Tryz.underlying27 (hne _)
theorem qGP {x:PV} (h:Arg Tryz.prog 34 x):∃ v:Li,x=.agg (cL.enc v):=by
 rcases h with ⟨fs,ys,hu,rfl,hs⟩ | ⟨hne,_⟩
 ·obtain ⟨v,rfl⟩:=qFJ hs
  exact ⟨v,rfl⟩
 ·exact absurd Tryz.underlying34 (hne _)
def qrb:DataW Unit→Array Value
 | .agg l=>(l.map fun d=>match d with | .lit (.int k n)=>Value.int k n | .lit (.string s)=>Value.string ⟨s.toArray⟩ | _=>undef).toArray
 | _=>#[]
noncomputable def low:Nat:=(World.holding Tryz.prog default ⟨#[],#[],[]⟩).heap.size
noncomputable def qoH (os:Os):World :=
 let w0:=World.holding Tryz.prog os ⟨#[.cells #[.string ⟨#[118,97,108,117,101,32,111,117,116,32,111,102,32,114,97,110,103,101]⟩] 245,.cells #[.string ⟨#[105,110,118,97,108,105,100,32,115,121,110,116,97,120]⟩] 245],#[],[]⟩
 { w0 with heap:=((((((w0.heap.modify 5 fun
  | .cells _ t frozen=>.cells #[.iface 243 (.pointer (some ⟨low+1,0,none⟩))] t frozen
  | o=>o).modify 6 fun
  | .cells _ t frozen=>.cells #[.iface 243 (.pointer (some ⟨low,0,none⟩))] t frozen
  | o=>o).modify 3 fun
  | .cells _ t frozen=>.cells (qrb Rows.laid_math_bits_deBruijn32tab) t frozen
  | o=>o).modify 4 fun
  | .cells _ t frozen=>.cells (qrb Rows.laid_math_bits_deBruijn64tab) t frozen
  | o=>o).modify 1 fun
  | .cells _ t frozen=>.cells (qrb Rows.laid_internal_strconv_uint64pow10) t frozen
  | o=>o).modify 0 fun
  | .cells _ t frozen=>.cells (qrb Rows.laid_pedigree_lex_twos) t frozen
  | o=>o) }
theorem own:ownKnob Tryz.prog.godebug=none:=by kernel_rfl
theorem qCN (os:Os) (args:Array Value):laidMet Tryz.prog laidL ((qoH os).forCall (fun _ _=>0) ⟨#[],args,[]⟩).memory :=
 laidMet_of_run' 8 (by kernel_rfl) (by kernel_rfl)
end Go.Proofs.YtakhnioifgbdfaaGreatDoor
