/- Part 5 of the proof: pure values for the machine's values, what functions compute over them, and laws of what is computed. Conditions: none beyond each theorem's own premises. -/
import Derived.Test.YtakhnioifgbdfaaGreatDoorPvG4
set_option maxHeartbeats 4000000
set_option maxRecDepth 200000
set_option linter.unusedSimpArgs false
set_option linter.unusedVariables false
namespace Go.Pv
open Go Go.Proofs
noncomputable def qKU:GamT:=ofL [(80,.pure qtH)]
theorem qKy (gl:Gl) (hg:GlLex gl):qaH Tryz.prog gl (gam qKU):=(qac (qCf gl hg) qag)
noncomputable def qMD:LpsT:=fun r fr σ=>.fail
noncomputable def qFg (s:List UInt8) (k:Int):Tr PV:=.ite (qjE s) (.ite (iEq (qiK s) 0) (.ite (iEq (xLen (qfc s)) 1) (.ite (qak 0) (.ite (qbs [.int .i64 0,.str [],.int .i64 0,.int .i64 0,.str [],.int .i64 0] (qfc s) (nNat 0)) (.ite (iEq (xInt (qfc s) (nNat 0) 0) k) (.ite (qak 0) (.ite (qbs [.int .i64 0,.str [],.int .i64 0,.int .i64 0,.str [],.int .i64 0] (qfc s) (nNat 0)) (.ret (.bool (sEq (xStr (qfc s) (nNat 0) 1) s))) .fail) .fail) (.ret (.bool false))) .fail) .fail) (.ret (.bool false))) (.ret (.bool false))) .fail
theorem qNG (s:List UInt8) (k:Int):(tcall tbT qKU qMD Tryz.f52 [.str s,.int .i64 k]).flat=qFg s k:=by kernel_rfl
noncomputable def qH8 (s:List UInt8) (k:Int):Option PV:=(qFg s k).run
noncomputable def qxD (s:List UInt8) (k:Int):Bool:=(qb0 (gVal (qH8 s k)))
noncomputable def qmT (s:List UInt8) (k:Int):Bool:=isW (qH8 s k) (.bool (qxD s k))
noncomputable def qIH:List PV→Tr PV | [.str s,.int .i64 k]=>.ite (qmT s k) (.ret (.bool (qxD s k))) (.fail) | _=>.fail
theorem qDp (gl:Gl) (hg:GlLex gl):SimP Tryz.prog gl 52 fun args=>(qIH args).run:=by
 refine SimP.of_flat (G:=qKU) (L:=qMD) qaj (qKy gl hg ) qah Tryz.func52 rfl (by rfl) (by kernel_rfl) (qae (by kernel_rfl)) ?_
 intro args x h
 unfold qIH at h
 split at h
 ·exact (congrArg Tr.run (qNG _ _)).trans (qai h fun h=>by cases h)
 ·cases h
noncomputable def qyI:GamT:=ofL [(52,.pure qIH)]
theorem qDV (gl:Gl) (hg:GlLex gl):qaH Tryz.prog gl (gam qyI):=(qac (qDp gl hg) qag)
noncomputable def qDB:LpsT:=fun r fr σ=>.fail
noncomputable def qvF (s:List UInt8):Tr PV:=.ite (sEq s [98,97,115,101]) (.ret (.bool false)) (.ite (sEq s [118,105,101,119]) (.ret (.bool false)) (.ite (sEq s [111,110]) (.ret (.bool false)) (.ite (sEq s [110,111,116]) (.ret (.bool false)) (.ite (qmT s 1) (.ret (.bool (qxD s 1))) .fail))))
theorem qJ7 (s:List UInt8):(tcall tbT qyI qDB Tryz.f18 [.str s]).flat=qvF s:=by kernel_rfl
noncomputable def qud (s:List UInt8):Option PV:=(qvF s).run
noncomputable def qeZ (s:List UInt8):Bool:=(qb0 (gVal (qud s)))
noncomputable def qcT (s:List UInt8):Bool:=isW (qud s) (.bool (qeZ s))
noncomputable def qmP:List PV→Tr PV | [.str s]=>.ite (qcT s) (.ret (.bool (qeZ s))) (.fail) | _=>.fail
theorem qlR (gl:Gl) (hg:GlLex gl):SimP Tryz.prog gl 18 fun args=>(qmP args).run:=by
 refine SimP.of_flat (G:=qyI) (L:=qDB) qaj (qDV gl hg ) qah Tryz.func18 rfl (by rfl) (by kernel_rfl) (qae (by kernel_rfl)) ?_
 intro args x h
 unfold qmP at h
 split at h
 ·exact (congrArg Tr.run (qJ7 _)).trans (qai h fun h=>by cases h)
 ·cases h
noncomputable def qFd:GamT:=ofL [(52,.pure qIH)]
theorem qIT (gl:Gl) (hg:GlLex gl):qaH Tryz.prog gl (gam qFd):=(qac (qDp gl hg) qag)
noncomputable def qJp:LpsT:=fun r fr σ=>.fail
noncomputable def qxQ (s:List UInt8):Tr PV:=.ite (qmT s 2) (.ret (.bool (qxD s 2))) .fail
theorem qMi (s:List UInt8):(tcall tbT qFd qJp Tryz.f20 [.str s]).flat=qxQ s:=by kernel_rfl
noncomputable def qAo (s:List UInt8):Option PV:=(qxQ s).run
noncomputable def qmw (s:List UInt8):Bool:=(qb0 (gVal (qAo s)))
noncomputable def qgg (s:List UInt8):Bool:=isW (qAo s) (.bool (qmw s))
noncomputable def qwZ:List PV→Tr PV | [.str s]=>.ite (qgg s) (.ret (.bool (qmw s))) (.fail) | _=>.fail
theorem qu0 (gl:Gl) (hg:GlLex gl):SimP Tryz.prog gl 20 fun args=>(qwZ args).run:=by
 refine SimP.of_flat (G:=qFd) (L:=qJp) qaj (qIT gl hg ) qah Tryz.func20 rfl (by rfl) (by kernel_rfl) (qae (by kernel_rfl)) ?_
 intro args x h
 unfold qwZ at h
 split at h
 ·exact (congrArg Tr.run (qMi _)).trans (qai h fun h=>by cases h)
 ·cases h
noncomputable def qx0:GamT:=ofL [(20,.pure qwZ),(75,.pure qzF)]
theorem qDr (gl:Gl) (hg:GlLex gl):qaH Tryz.prog gl (gam qx0):=(qac (qu0 gl hg) (qac (qz1 hg.toGlOk.toGlPow) qag))
noncomputable def qCP:LpsT:=fun r fr σ=>.fail
noncomputable def quS (t:Int) (t2:List UInt8) (t3:Int) (t4:Int) (t5:List UInt8):Tr PV:=.ite (iEq t 1) (.ite (qgg t2) (.ite (qmw t2) (.ret (.tup [.str t2,.bool (bAnd (iEq t3 0) (bAnd (iEq t4 0) (bAnd (sEq t5 []) true)))])) (.ret (.tup [.str t2,.bool false]))) .fail) (.ite (iEq t 2) (.ite (iEq (qbA t3 t4 t5) 0) (.ret (.tup [.str (qep t3 t4 t5),.bool (sEq t2 [])])) (.ret (.tup [.str (qep t3 t4 t5),.bool false]))) (.ret (.tup [.str [95],.bool (bAnd (iEq t 3) (bAnd (sEq t2 []) (bAnd (bAnd (iEq t3 0) (bAnd (iEq t4 0) (bAnd (sEq t5 []) true))) true)))])))
theorem qJQ (t:Int) (t2:List UInt8) (t3:Int) (t4:Int) (t5:List UInt8):(tcall tbT qx0 qCP Tryz.f44 [.agg [.int .i64 t,.str t2,.int .i64 t3,.int .i64 t4,.str t5]]).flat=quS t t2 t3 t4 t5:=by kernel_rfl
noncomputable def qqJ (t:Int) (t2:List UInt8) (t3:Int) (t4:Int) (t5:List UInt8):Option PV:=(quS t t2 t3 t4 t5).run
noncomputable def qaJ (t:Int) (t2:List UInt8) (t3:Int) (t4:Int) (t5:List UInt8):List UInt8:=(gStr (gAt (gCs (gVal (qqJ t t2 t3 t4 t5))) 0))
noncomputable def qew (t:Int) (t2:List UInt8) (t3:Int) (t4:Int) (t5:List UInt8):Bool:=(qb0 (gAt (gCs (gVal (qqJ t t2 t3 t4 t5))) 1))
noncomputable def qcy (t:Int) (t2:List UInt8) (t3:Int) (t4:Int) (t5:List UInt8):Bool:=isW (qqJ t t2 t3 t4 t5) (.tup [.str (qaJ t t2 t3 t4 t5),.bool (qew t t2 t3 t4 t5)])
noncomputable def qrK:List PV→Tr PV | [.agg [.int .i64 t,.str t2,.int .i64 t3,.int .i64 t4,.str t5]]=>.ite (qcy t t2 t3 t4 t5) (.ret (.tup [.str (qaJ t t2 t3 t4 t5),.bool (qew t t2 t3 t4 t5)])) (.fail) | _=>.fail
theorem qqd (gl:Gl) (hg:GlLex gl):SimP Tryz.prog gl 44 fun args=>(qrK args).run:=by
 refine SimP.of_flat (G:=qx0) (L:=qCP) qaj (qDr gl hg ) qah Tryz.func44 rfl (by rfl) (by kernel_rfl) (qae (by kernel_rfl)) ?_
 intro args x h
 unfold qrK at h
 split at h
 ·exact (congrArg Tr.run (qJQ _ _ _ _ _)).trans (qai h fun h=>by cases h)
 ·cases h
noncomputable def qCT:GamT:=ofL [(44,.pure qrK),(88,.pure qpE),(qeS,.hint [(8,0,1,9)])]
theorem qGr (gl:Gl) (hg:GlLex gl):qaH Tryz.prog gl (gam qCT):=(qac (qqd gl hg) (qac (qme hg.toGlOk.toGlPow) (qbH (K:=.hint [(8,0,1,9)]) trivial qag)))
noncomputable def qAK:Code:=qeX Tryz.f78 3
def qAD:LI:=⟨35,[1,2,8,13,14,15],fun e=>match e with | .ret=>[6,7] | .exit 0=>[1,8] | _=>[],true⟩
noncomputable def qxS:LpsT:=fun r fr σ=>.fail
noncomputable def qkr (vs:List PV) (σ:Store):Option (PExit × List PV × Store):=lval (lstep tbT qCT qxS qAK qAD) vs σ
noncomputable def qr6 (between:List UInt8) (texts:List (List PV)) (r:List (List PV)) (n:Int) (n2:Int) (k:Nat):Tr LR:=.ite (iLt n2 n) (.ite (qak n2) (.ite (qbs [.int .i64 0,.str [],.int .i64 0,.int .i64 0,.str []] r (nNat n2)) (.ite (qcy (xInt r (nNat n2) 0) (xStr r (nNat n2) 1) (xInt r (nNat n2) 2) (xInt r (nNat n2) 3) (xStr r (nNat n2) 4)) (.ite (bNot (qew (xInt r (nNat n2) 0) (xStr r (nNat n2) 1) (xInt r (nNat n2) 2) (xInt r (nNat n2) 3) (xStr r (nNat n2) 4))) (.ret (.out .ret [.str [],.bool false] (Store.mk [] [(k,1,9)] []))) (.ite (qaz texts [[.str (qaJ (xInt r (nNat n2) 0) (xStr r (nNat n2) 1) (xInt r (nNat n2) 2) (xInt r (nNat n2) 3) (xStr r (nNat n2) 4))]] 16) (.ite (qas [[.str (qaJ (xInt r (nNat n2) 0) (xStr r (nNat n2) 1) (xInt r (nNat n2) 2) (xInt r (nNat n2) 3) (xStr r (nNat n2) 4))]] 1) (.ite (qao texts 1) (.ite (nEq k (nXs texts)) (.ret (.next [.str between,.fn 44 [],.sl (qam 0 (xApp texts [[.str (qaJ (xInt r (nNat n2) 0) (xStr r (nNat n2) 1) (xInt r (nNat n2) 2) (xInt r (nNat n2) 3) (xStr r (nNat n2) 4))]])) (.tok 0),.sl (qam 0 r) .non,.int .i64 n,.int .i64 (iAdd .i64 n2 1)] (Store.mk [] [(nXs (xApp texts [[.str (qaJ (xInt r (nNat n2) 0) (xStr r (nNat n2) 1) (xInt r (nNat n2) 2) (xInt r (nNat n2) 3) (xStr r (nNat n2) 4))]]),1,9)] []))) .fail) .fail) .fail) .fail)) .fail) .fail) .fail) (.ret (.out (.exit 0) [.str between,.sl texts (.tok 0)] (Store.mk [] [(k,1,9)] [])))
theorem qMT (between:List UInt8) (texts:List (List PV)) (r:List (List PV)) (n:Int) (n2:Int) (k:Nat):lstep tbT qCT qxS qAK qAD [.str between,.fn 44 [],.sl texts (.tok 0),.sl r .non,.int .i64 n,.int .i64 n2] ⟨[],[(k,1,9)],[]⟩=qr6 between texts r n n2 k:=by kernel_rfl
theorem qGj (between:List UInt8) (texts:List (List PV)) (r:List (List PV)) (n:Int) (n2:Int) (k:Nat):qkr [.str between,.fn 44 [],.sl texts (.tok 0),.sl r .non,.int .i64 n,.int .i64 n2] ⟨[],[(k,1,9)],[]⟩=lnext qkr (qr6 between texts r n n2 k).run:=by unfold qkr; rw [qbF,qMT]
noncomputable def qku (between:List UInt8) (texts:List (List PV)) (r:List (List PV)) (n:Int) (n2:Int) (k:Nat):Option (PExit × List PV × Store):=qkr [.str between,.fn 44 [],.sl texts (.tok 0),.sl r .non,.int .i64 n,.int .i64 n2] ⟨[],[(k,1,9)],[]⟩
noncomputable def qlp (between:List UInt8) (texts:List (List PV)) (r:List (List PV)) (n:Int) (n2:Int) (k:Nat):List UInt8:=(gStr (gOut (qku between texts r n n2 k) 0))
noncomputable def qlv (between:List UInt8) (texts:List (List PV)) (r:List (List PV)) (n:Int) (n2:Int) (k:Nat):Bool:=(qb0 (gOut (qku between texts r n n2 k) 1))
noncomputable def qoY (between:List UInt8) (texts:List (List PV)) (r:List (List PV)) (n:Int) (n2:Int) (k:Nat):Nat:=(gTok (qku between texts r n n2 k) 0)
noncomputable def qnW (between:List UInt8) (texts:List (List PV)) (r:List (List PV)) (n:Int) (n2:Int) (k:Nat):Bool:=isW (qku between texts r n n2 k) (.ret,[.str (qlp between texts r n n2 k),.bool (qlv between texts r n n2 k)],⟨[],[((qoY between texts r n n2 k),1,9)],[]⟩)
noncomputable def qcH (between:List UInt8) (texts:List (List PV)) (r:List (List PV)) (n:Int) (n2:Int) (k:Nat):List UInt8:=(gStr (gOut (qku between texts r n n2 k) 0))
noncomputable def qcR (between:List UInt8) (texts:List (List PV)) (r:List (List PV)) (n:Int) (n2:Int) (k:Nat):List (List PV):=(gRow (gOut (qku between texts r n n2 k) 1))
noncomputable def qn9 (between:List UInt8) (texts:List (List PV)) (r:List (List PV)) (n:Int) (n2:Int) (k:Nat):Nat:=(gTok (qku between texts r n n2 k) 0)
noncomputable def qpg (between:List UInt8) (texts:List (List PV)) (r:List (List PV)) (n:Int) (n2:Int) (k:Nat):Bool:=isW (qku between texts r n n2 k) ((.exit 0),[.str (qcH between texts r n n2 k),.sl (qcR between texts r n n2 k) (.tok 0)],⟨[],[((qn9 between texts r n n2 k),1,9)],[]⟩)
noncomputable def qlu:List PV→Store→Tr (PExit × List PV × Store) | [.str between,.fn 44 [],.sl texts (.tok 0),.sl r .non,.int .i64 n,.int .i64 n2],⟨[],[(k,1,9)],[]⟩=>.ite (qnW between texts r n n2 k) (.ret (.ret,[.str (qlp between texts r n n2 k),.bool (qlv between texts r n n2 k)],⟨[],[((qoY between texts r n n2 k),1,9)],[]⟩)) (.ite (qpg between texts r n n2 k) (.ret ((.exit 0),[.str (qcH between texts r n n2 k),.sl (qcR between texts r n n2 k) (.tok 0)],⟨[],[((qn9 between texts r n n2 k),1,9)],[]⟩)) (.fail)) | _,_=>.fail
theorem qLV:∀ vs σ r,(qlu vs σ).run=some r→qkr vs σ=some r:=by
 intro vs σ r h
 unfold qlu at h
 split at h
 ·exact qai h fun h=>qai h fun h=>by cases h
 ·cases h
theorem qGL (gl:Gl) (hg:GlLex gl):∀ fr σ e fr' σ',(orc qAD qlu fr σ).run=some (e,fr',σ')→LDoes Tryz.prog gl qAK fr σ e fr' σ':=qcl qaj (qGr gl hg ) qah (L:=qxS) (qae (by kernel_rfl)) (by kernel_rfl) qLV
noncomputable def qKs:LpsT:=fun r fr σ=>bif Nat.beq r 3 then orc qAD qlu fr σ else .fail
noncomputable def qDU (l:List (List PV)) (sep:List UInt8):Tr PV:=.ite (qnW sep [] l (xLen l) 0 0) (.ret (.tup [.str (qlp sep [] l (xLen l) 0 0),.bool (qlv sep [] l (xLen l) 0 0)])) (.ite (qpg sep [] l (xLen l) 0 0) (.ite (okR cS (qaa (qcR sep [] l (xLen l) 0 0))) (.ite (qgX (unR cS (qaa (qcR sep [] l (xLen l) 0 0))) (qcH sep [] l (xLen l) 0 0)) (.ret (.tup [.str (qdR (unR cS (qaa (qcR sep [] l (xLen l) 0 0))) (qcH sep [] l (xLen l) 0 0)),.bool true])) .fail) .fail) .fail)
theorem qNL (l:List (List PV)) (sep:List UInt8):(tcall tbT qCT qKs Tryz.f78 [.sl l .non,.str sep,.fn 44 []]).flat=qDU l sep:=by kernel_rfl
noncomputable def qFU (l:List (List PV)) (sep:List UInt8):Option PV:=(qDU l sep).run
noncomputable def qsd (l:List (List PV)) (sep:List UInt8):List UInt8:=(gStr (gAt (gCs (gVal (qFU l sep))) 0))
noncomputable def qxG (l:List (List PV)) (sep:List UInt8):Bool:=(qb0 (gAt (gCs (gVal (qFU l sep))) 1))
noncomputable def qnk (l:List (List PV)) (sep:List UInt8):Bool:=isW (qFU l sep) (.tup [.str (qsd l sep),.bool (qxG l sep)])
noncomputable def qKo:List PV→Tr PV | [.sl l .non,.str sep,.fn 44 []]=>.ite (qnk l sep) (.ret (.tup [.str (qsd l sep),.bool (qxG l sep)])) (.fail) | _=>.fail
theorem qLv (gl:Gl) (hg:GlLex gl):SimP Tryz.prog gl 78 fun args=>(qKo args).run:=by
 refine SimP.of_flat (G:=qCT) (L:=qKs) qaj (qGr gl hg ) qah Tryz.func78 rfl (by rfl) (by kernel_rfl) (qaX (L:=lps qKs) [(3,qAK)] (by kernel_rfl) (List.forall_mem_cons.2 ⟨fun fr σ e fr' σ' h=>qGL gl hg  fr σ e fr' σ' h,(List.forall_mem_nil _)⟩)) ?_
 intro args x h
 unfold qKo at h
 split at h
 ·exact (congrArg Tr.run (qNL _ _)).trans (qai h fun h=>by cases h)
 ·cases h
noncomputable def qyH:GamT:=ofL [(18,.pure qmP),(44,.pure qrK),(78,.pure qKo)]
theorem qF8 (gl:Gl) (hg:GlLex gl):qaH Tryz.prog gl (gam qyH):=(qac (qlR gl hg) (qac (qqd gl hg) (qac (qLv gl hg) qag)))
noncomputable def qGu:LpsT:=fun r fr σ=>.fail
noncomputable def qul (a:List UInt8) (a2:List (List PV)):Tr PV:=.ite (qnk (qaa a2) [44,32]) (.ite (qan a [40]) (.ite (qan (sApp a [40]) (qsd (qaa a2) [44,32])) (.ite (qan (sApp (sApp a [40]) (qsd (qaa a2) [44,32])) [41]) (.ite (qxG (qaa a2) [44,32]) (.ite (qcT a) (.ret (.tup [.str (sApp (sApp (sApp a [40]) (qsd (qaa a2) [44,32])) [41]),.bool (qeZ a)])) .fail) (.ret (.tup [.str (sApp (sApp (sApp a [40]) (qsd (qaa a2) [44,32])) [41]),.bool false]))) .fail) .fail) .fail) .fail
theorem qJz (a:List UInt8) (a2:List (List PV)):(tcall tbT qyH qGu Tryz.f47 [.agg [.str a,.sl a2 .non]]).flat=qul a a2:=by kernel_rfl
noncomputable def qpw (a:List UInt8) (a2:List (List PV)):Option PV:=(qul a a2).run
noncomputable def qby (a:List UInt8) (a2:List (List PV)):List UInt8:=(gStr (gAt (gCs (gVal (qpw a a2))) 0))
noncomputable def qdk (a:List UInt8) (a2:List (List PV)):Bool:=(qb0 (gAt (gCs (gVal (qpw a a2))) 1))
noncomputable def qci (a:List UInt8) (a2:List (List PV)):Bool:=isW (qpw a a2) (.tup [.str (qby a a2),.bool (qdk a a2)])
noncomputable def qq9:List PV→Tr PV | [.agg [.str a,.sl a2 .non]]=>.ite (qci a a2) (.ret (.tup [.str (qby a a2),.bool (qdk a a2)])) (.fail) | _=>.fail
theorem qqY (gl:Gl) (hg:GlLex gl):SimP Tryz.prog gl 47 fun args=>(qq9 args).run:=by
 refine SimP.of_flat (G:=qyH) (L:=qGu) qaj (qF8 gl hg ) qah Tryz.func47 rfl (by rfl) (by kernel_rfl) (qae (by kernel_rfl)) ?_
 intro args x h
 unfold qq9 at h
 split at h
 ·exact (congrArg Tr.run (qJz _ _)).trans (qai h fun h=>by cases h)
 ·cases h
noncomputable def qKv:GamT:=ofL []
theorem qLI (gl:Gl):qaH Tryz.prog gl (gam qKv):=qag
noncomputable def qL8:LpsT:=fun r fr σ=>.fail
noncomputable def qDj (o:Int):Tr PV:=.ite (iEq o 1) (.ret (.tup [.str [32,61,32],.bool true])) (.ite (iEq o 2) (.ret (.tup [.str [32,33,61,32],.bool true])) (.ite (iEq o 3) (.ret (.tup [.str [32,60,32],.bool true])) (.ite (iEq o 4) (.ret (.tup [.str [32,60,61,32],.bool true])) (.ite (iEq o 5) (.ret (.tup [.str [32,62,32],.bool true])) (.ite (iEq o 6) (.ret (.tup [.str [32,62,61,32],.bool true])) (.ret (.tup [.str [],.bool false])))))))
theorem qNu (o:Int):(tcall tbT qKv qL8 Tryz.f79 [.int .i64 o]).flat=qDj o:=by kernel_rfl
noncomputable def qGe (o:Int):Option PV:=(qDj o).run
noncomputable def qex (o:Int):List UInt8:=(gStr (gAt (gCs (gVal (qGe o))) 0))
noncomputable def que (o:Int):Bool:=(qb0 (gAt (gCs (gVal (qGe o))) 1))
noncomputable def qiW (o:Int):Bool:=isW (qGe o) (.tup [.str (qex o),.bool (que o)])
noncomputable def qKx:List PV→Tr PV | [.int .i64 o]=>.ite (qiW o) (.ret (.tup [.str (qex o),.bool (que o)])) (.fail) | _=>.fail
theorem qJ8 (gl:Gl):SimP Tryz.prog gl 79 fun args=>(qKx args).run:=by
 refine SimP.of_flat (G:=qKv) (L:=qL8) qaj (qLI gl ) qah Tryz.func79 rfl (by rfl) (by kernel_rfl) (qae (by kernel_rfl)) ?_
 intro args x h
 unfold qKx at h
 split at h
 ·exact (congrArg Tr.run (qNu _)).trans (qai h fun h=>by cases h)
 ·cases h
noncomputable def qnJ:GamT:=ofL [(44,.pure qrK),(47,.pure qq9),(79,.pure qKx)]
theorem qwG (gl:Gl) (hg:GlLex gl):qaH Tryz.prog gl (gam qnJ):=(qac (qqd gl hg) (qac (qqY gl hg) (qac (qJ8 gl) qag)))
noncomputable def qs7:LpsT:=fun r fr σ=>.fail
noncomputable def qky (v:Int) (v2:List UInt8) (v3:List (List PV)) (v4:Int) (v5:Int) (v6:List UInt8) (v7:Int) (v8:Int) (v9:List UInt8) (v10:Int) (v11:List UInt8) (v12:Int) (v13:Int) (v14:List UInt8):Tr PV:=.ite (iEq v4 0) (.ite (bAnd (iEq v5 0) (bAnd (sEq v6 []) (bAnd (bAnd (iEq v7 0) (bAnd (iEq v8 0) (bAnd (sEq v9 []) true))) true))) (.ite (iEq v 1) (.ite (qci v2 (qaa v3)) (.ite (qdk v2 (qaa v3)) (.ret (.tup [.str (qby v2 (qaa v3)),.bool (bAnd (iEq v10 0) (bAnd (sEq v11 []) (bAnd (bAnd (iEq v12 0) (bAnd (iEq v13 0) (bAnd (sEq v14 []) true))) true)))])) (.ret (.tup [.str (qby v2 (qaa v3)),.bool false]))) .fail) (.ite (iEq v 2) (.ite (qci v2 (qaa v3)) (.ite (qan [110,111,116,32] (qby v2 (qaa v3))) (.ite (qdk v2 (qaa v3)) (.ret (.tup [.str (sApp [110,111,116,32] (qby v2 (qaa v3))),.bool (bAnd (iEq v10 0) (bAnd (sEq v11 []) (bAnd (bAnd (iEq v12 0) (bAnd (iEq v13 0) (bAnd (sEq v14 []) true))) true)))])) (.ret (.tup [.str (sApp [110,111,116,32] (qby v2 (qaa v3))),.bool false]))) .fail) .fail) (.ite (iEq v 3) (.ite (qcy v5 v6 v7 v8 v9) (.ite (qiW v4) (.ite (qcy v10 v11 v12 v13 v14) (.ite (qan (qaJ v5 v6 v7 v8 v9) (qex v4)) (.ite (qan (sApp (qaJ v5 v6 v7 v8 v9) (qex v4)) (qaJ v10 v11 v12 v13 v14)) (.ite (qew v5 v6 v7 v8 v9) (.ite (que v4) (.ite (qew v10 v11 v12 v13 v14) (.ite (sEq v2 []) (.ret (.tup [.str (sApp (sApp (qaJ v5 v6 v7 v8 v9) (qex v4)) (qaJ v10 v11 v12 v13 v14)),.bool (iEq (xLen v3) 0)])) (.ret (.tup [.str (sApp (sApp (qaJ v5 v6 v7 v8 v9) (qex v4)) (qaJ v10 v11 v12 v13 v14)),.bool false]))) (.ret (.tup [.str (sApp (sApp (qaJ v5 v6 v7 v8 v9) (qex v4)) (qaJ v10 v11 v12 v13 v14)),.bool false]))) (.ret (.tup [.str (sApp (sApp (qaJ v5 v6 v7 v8 v9) (qex v4)) (qaJ v10 v11 v12 v13 v14)),.bool false])))
 (.ret (.tup [.str (sApp (sApp (qaJ v5 v6 v7 v8 v9) (qex v4)) (qaJ v10 v11 v12 v13 v14)),.bool false]))) .fail) .fail) .fail) .fail) .fail) (.ret (.tup [.str [],.bool false]))))) (.ite (iEq v 1) (.ite (qci v2 (qaa v3)) (.ite (qdk v2 (qaa v3)) (.ret (.tup [.str (qby v2 (qaa v3)),.bool false])) (.ret (.tup [.str (qby v2 (qaa v3)),.bool false]))) .fail) (.ite (iEq v 2) (.ite (qci v2 (qaa v3)) (.ite (qan [110,111,116,32] (qby v2 (qaa v3))) (.ite (qdk v2 (qaa v3)) (.ret (.tup [.str (sApp [110,111,116,32] (qby v2 (qaa v3))),.bool false])) (.ret (.tup [.str (sApp [110,111,116,32] (qby v2 (qaa v3))),.bool false]))) .fail) .fail) (.ite (iEq v 3) (.ite (qcy v5 v6 v7 v8 v9) (.ite (qiW v4) (.ite (qcy v10 v11 v12 v13 v14) (.ite (qan (qaJ v5 v6 v7 v8 v9) (qex v4)) (.ite (qan (sApp (qaJ v5 v6 v7 v8 v9) (qex v4)) (qaJ v10 v11 v12 v13 v14)) (.ite (qew v5 v6 v7 v8 v9) (.ite (que v4) (.ite (qew v10 v11 v12 v13 v14) (.ite (sEq v2 []) (.ret (.tup [.str (sApp (sApp (qaJ v5 v6 v7 v8 v9) (qex v4)) (qaJ v10 v11 v12 v13 v14)),.bool (iEq (xLen v3) 0)])) (.ret (.tup [.str (sApp (sApp (qaJ v5 v6 v7 v8 v9) (qex v4)) (qaJ v10 v11 v12 v13 v14)),.bool false]))) (.ret (.tup [.str (sApp (sApp (qaJ v5 v6 v7 v8 v9) (qex v4)) (qaJ v10 v11 v12 v13 v14)),.bool false]))) (.ret (.tup [.str (sApp (sApp (qaJ v5 v6 v7 v8 v9) (qex v4)) (qaJ v10 v11 v12 v13 v14)),.bool false]))) (.ret (.tup [.str (sApp (sApp (qaJ v5 v6 v7 v8 v9) (qex v4)) (qaJ v10 v11 v12 v13 v14)),.bool false]))) .fail) .fail) .fail) .fail) .fail) (.ret (.tup [.str [],.bool false])))))) (.ite (iEq v 1) (.ite (qci v2 (qaa v3)) (.ite (qdk v2 (qaa v3)) (.ret (.tup [.str (qby v2 (qaa v3)),.bool false])) (.ret (.tup [.str (qby v2 (qaa v3)),.bool false]))) .fail) (.ite (iEq v 2) (.ite (qci v2 (qaa v3))
 (.ite (qan [110,111,116,32] (qby v2 (qaa v3))) (.ite (qdk v2 (qaa v3)) (.ret (.tup [.str (sApp [110,111,116,32] (qby v2 (qaa v3))),.bool false])) (.ret (.tup [.str (sApp [110,111,116,32] (qby v2 (qaa v3))),.bool false]))) .fail) .fail) (.ite (iEq v 3) (.ite (qcy v5 v6 v7 v8 v9) (.ite (qiW v4) (.ite (qcy v10 v11 v12 v13 v14) (.ite (qan (qaJ v5 v6 v7 v8 v9) (qex v4)) (.ite (qan (sApp (qaJ v5 v6 v7 v8 v9) (qex v4)) (qaJ v10 v11 v12 v13 v14)) (.ite (qew v5 v6 v7 v8 v9) (.ite (que v4) (.ite (qew v10 v11 v12 v13 v14) (.ite (sEq v2 []) (.ret (.tup [.str (sApp (sApp (qaJ v5 v6 v7 v8 v9) (qex v4)) (qaJ v10 v11 v12 v13 v14)),.bool (iEq (xLen v3) 0)])) (.ret (.tup [.str (sApp (sApp (qaJ v5 v6 v7 v8 v9) (qex v4)) (qaJ v10 v11 v12 v13 v14)),.bool false]))) (.ret (.tup [.str (sApp (sApp (qaJ v5 v6 v7 v8 v9) (qex v4)) (qaJ v10 v11 v12 v13 v14)),.bool false]))) (.ret (.tup [.str (sApp (sApp (qaJ v5 v6 v7 v8 v9) (qex v4)) (qaJ v10 v11 v12 v13 v14)),.bool false]))) (.ret (.tup [.str (sApp (sApp (qaJ v5 v6 v7 v8 v9) (qex v4)) (qaJ v10 v11 v12 v13 v14)),.bool false]))) .fail) .fail) .fail) .fail) .fail) (.ret (.tup [.str [],.bool false])))))
theorem qBP (v:Int) (v2:List UInt8) (v3:List (List PV)) (v4:Int) (v5:Int) (v6:List UInt8) (v7:Int) (v8:Int) (v9:List UInt8) (v10:Int) (v11:List UInt8) (v12:Int) (v13:Int) (v14:List UInt8):(tcall tbT qnJ qs7 Tryz.f49 [.agg [.int .i64 v,.str v2,.sl v3 .non,.int .i64 v4,.int .i64 v5,.str v6,.int .i64 v7,.int .i64 v8,.str v9,.int .i64 v10,.str v11,.int .i64 v12,.int .i64 v13,.str v14]]).flat=qky v v2 v3 v4 v5 v6 v7 v8 v9 v10 v11 v12 v13 v14:=by kernel_rfl
noncomputable def qg7 (v:Int) (v2:List UInt8) (v3:List (List PV)) (v4:Int) (v5:Int) (v6:List UInt8) (v7:Int) (v8:Int) (v9:List UInt8) (v10:Int) (v11:List UInt8) (v12:Int) (v13:Int) (v14:List UInt8):Option PV:=(qky v v2 v3 v4 v5 v6 v7 v8 v9 v10 v11 v12 v13 v14).run
noncomputable def qcC (v:Int) (v2:List UInt8) (v3:List (List PV)) (v4:Int) (v5:Int) (v6:List UInt8) (v7:Int) (v8:Int) (v9:List UInt8) (v10:Int) (v11:List UInt8) (v12:Int) (v13:Int) (v14:List UInt8):List UInt8:=(gStr (gAt (gCs (gVal (qg7 v v2 v3 v4 v5 v6 v7 v8 v9 v10 v11 v12 v13 v14))) 0))
noncomputable def qet (v:Int) (v2:List UInt8) (v3:List (List PV)) (v4:Int) (v5:Int) (v6:List UInt8) (v7:Int) (v8:Int) (v9:List UInt8) (v10:Int) (v11:List UInt8) (v12:Int) (v13:Int) (v14:List UInt8):Bool:=(qb0 (gAt (gCs (gVal (qg7 v v2 v3 v4 v5 v6 v7 v8 v9 v10 v11 v12 v13 v14))) 1))
noncomputable def qdO (v:Int) (v2:List UInt8) (v3:List (List PV)) (v4:Int) (v5:Int) (v6:List UInt8) (v7:Int) (v8:Int) (v9:List UInt8) (v10:Int) (v11:List UInt8) (v12:Int) (v13:Int) (v14:List UInt8):Bool:=isW (qg7 v v2 v3 v4 v5 v6 v7 v8 v9 v10 v11 v12 v13 v14) (.tup [.str (qcC v v2 v3 v4 v5 v6 v7 v8 v9 v10 v11 v12 v13 v14),.bool (qet v v2 v3 v4 v5 v6 v7 v8 v9 v10 v11 v12 v13 v14)])
noncomputable def qjl:List PV→Tr PV | [.agg [.int .i64 v,.str v2,.sl v3 .non,.int .i64 v4,.int .i64 v5,.str v6,.int .i64 v7,.int .i64 v8,.str v9,.int .i64 v10,.str v11,.int .i64 v12,.int .i64 v13,.str v14]]=>.ite (qdO v v2 v3 v4 v5 v6 v7 v8 v9 v10 v11 v12 v13 v14) (.ret (.tup [.str (qcC v v2 v3 v4 v5 v6 v7 v8 v9 v10 v11 v12 v13 v14),.bool (qet v v2 v3 v4 v5 v6 v7 v8 v9 v10 v11 v12 v13 v14)])) (.fail) | _=>.fail
theorem qnN (gl:Gl) (hg:GlLex gl):SimP Tryz.prog gl 49 fun args=>(qjl args).run:=by
 refine SimP.of_flat (G:=qnJ) (L:=qs7) qaj (qwG gl hg ) qah Tryz.func49 rfl (by rfl) (by kernel_rfl) (qae (by kernel_rfl)) ?_
 intro args x h
 unfold qjl at h
 split at h
 ·exact (congrArg Tr.run (qBP _ _ _ _ _ _ _ _ _ _ _ _ _ _)).trans (qai h fun h=>by cases h)
 ·cases h
noncomputable def qFA:GamT:=ofL [(49,.pure qjl),(88,.pure qpE),(qeS,.hint [(8,0,1,9)])]
theorem qD2 (gl:Gl) (hg:GlLex gl):qaH Tryz.prog gl (gam qFA):=(qac (qnN gl hg) (qac (qme hg.toGlOk.toGlPow) (qbH (K:=.hint [(8,0,1,9)]) trivial qag)))
noncomputable def qAG:Code:=qeX Tryz.f81 3
def qzG:LI:=⟨35,[1,2,8,13,14,15],fun e=>match e with | .ret=>[6,7] | .exit 0=>[1,8] | _=>[],true⟩
noncomputable def qxR:LpsT:=fun r fr σ=>.fail
noncomputable def qkt (vs:List PV) (σ:Store):Option (PExit × List PV × Store):=lval (lstep tbT qFA qxR qAG qzG) vs σ
noncomputable def qpC (between:List UInt8) (texts:List (List PV)) (r:List (List PV)) (n:Int) (n2:Int) (k:Nat):Tr LR:=.ite (iLt n2 n) (.ite (qak n2) (.ite (qbs [.int .i64 0,.str [],.sl [] .full,.int .i64 0,.int .i64 0,.str [],.int .i64 0,.int .i64 0,.str [],.int .i64 0,.str [],.int .i64 0,.int .i64 0,.str []] r (nNat n2)) (.ite (qdO (xInt r (nNat n2) 0) (xStr r (nNat n2) 1) (qaa (xRow r (nNat n2) 2)) (xInt r (nNat n2) 3) (xInt r (nNat n2) 4) (xStr r (nNat n2) 5) (xInt r (nNat n2) 6) (xInt r (nNat n2) 7) (xStr r (nNat n2) 8) (xInt r (nNat n2) 9) (xStr r (nNat n2) 10) (xInt r (nNat n2) 11) (xInt r (nNat n2) 12) (xStr r (nNat n2) 13)) (.ite (bNot (qet (xInt r (nNat n2) 0) (xStr r (nNat n2) 1) (qaa (xRow r (nNat n2) 2)) (xInt r (nNat n2) 3) (xInt r (nNat n2) 4) (xStr r (nNat n2) 5) (xInt r (nNat n2) 6) (xInt r (nNat n2) 7) (xStr r (nNat n2) 8) (xInt r (nNat n2) 9) (xStr r (nNat n2) 10) (xInt r (nNat n2) 11) (xInt r (nNat n2) 12) (xStr r (nNat n2) 13))) (.ret (.out .ret [.str [],.bool false] (Store.mk [] [(k,1,9)] []))) (.ite (qaz texts [[.str (qcC (xInt r (nNat n2) 0) (xStr r (nNat n2) 1) (qaa (xRow r (nNat n2) 2)) (xInt r (nNat n2) 3) (xInt r (nNat n2) 4) (xStr r (nNat n2) 5) (xInt r (nNat n2) 6) (xInt r (nNat n2) 7) (xStr r (nNat n2) 8) (xInt r (nNat n2) 9) (xStr r (nNat n2) 10) (xInt r (nNat n2) 11) (xInt r (nNat n2) 12) (xStr r (nNat n2) 13))]] 16) (.ite (qas [[.str (qcC (xInt r (nNat n2) 0) (xStr r (nNat n2) 1) (qaa (xRow r (nNat n2) 2)) (xInt r (nNat n2) 3) (xInt r (nNat n2) 4) (xStr r (nNat n2) 5) (xInt r (nNat n2) 6) (xInt r (nNat n2) 7) (xStr r (nNat n2) 8) (xInt r (nNat n2) 9) (xStr r (nNat n2) 10) (xInt r (nNat n2) 11) (xInt r (nNat n2) 12) (xStr r (nNat n2) 13))]] 1) (.ite (qao texts 1) (.ite (nEq k (nXs texts)) (.ret (.next [.str between,.fn 49 [],.sl (qam 0 (xApp texts [[.str
 (qcC (xInt r (nNat n2) 0) (xStr r (nNat n2) 1) (qaa (xRow r (nNat n2) 2)) (xInt r (nNat n2) 3) (xInt r (nNat n2) 4) (xStr r (nNat n2) 5) (xInt r (nNat n2) 6) (xInt r (nNat n2) 7) (xStr r (nNat n2) 8) (xInt r (nNat n2) 9) (xStr r (nNat n2) 10) (xInt r (nNat n2) 11) (xInt r (nNat n2) 12) (xStr r (nNat n2) 13))]])) (.tok 0),.sl (qam 0 r) .non,.int .i64 n,.int .i64 (iAdd .i64 n2 1)] (Store.mk [] [(nXs (xApp texts [[.str (qcC (xInt r (nNat n2) 0) (xStr r (nNat n2) 1) (qaa (xRow r (nNat n2) 2)) (xInt r (nNat n2) 3) (xInt r (nNat n2) 4) (xStr r (nNat n2) 5) (xInt r (nNat n2) 6) (xInt r (nNat n2) 7) (xStr r (nNat n2) 8) (xInt r (nNat n2) 9) (xStr r (nNat n2) 10) (xInt r (nNat n2) 11) (xInt r (nNat n2) 12) (xStr r (nNat n2) 13))]]),1,9)] []))) .fail) .fail) .fail) .fail)) .fail) .fail) .fail) (.ret (.out (.exit 0) [.str between,.sl texts (.tok 0)] (Store.mk [] [(k,1,9)] [])))
theorem qMd (between:List UInt8) (texts:List (List PV)) (r:List (List PV)) (n:Int) (n2:Int) (k:Nat):lstep tbT qFA qxR qAG qzG [.str between,.fn 49 [],.sl texts (.tok 0),.sl r .non,.int .i64 n,.int .i64 n2] ⟨[],[(k,1,9)],[]⟩=qpC between texts r n n2 k:=by kernel_rfl
theorem qGp (between:List UInt8) (texts:List (List PV)) (r:List (List PV)) (n:Int) (n2:Int) (k:Nat):qkt [.str between,.fn 49 [],.sl texts (.tok 0),.sl r .non,.int .i64 n,.int .i64 n2] ⟨[],[(k,1,9)],[]⟩=lnext qkt (qpC between texts r n n2 k).run:=by unfold qkt; rw [qbF,qMd]
noncomputable def qkv (between:List UInt8) (texts:List (List PV)) (r:List (List PV)) (n:Int) (n2:Int) (k:Nat):Option (PExit × List PV × Store):=qkt [.str between,.fn 49 [],.sl texts (.tok 0),.sl r .non,.int .i64 n,.int .i64 n2] ⟨[],[(k,1,9)],[]⟩
noncomputable def qmn (between:List UInt8) (texts:List (List PV)) (r:List (List PV)) (n:Int) (n2:Int) (k:Nat):List UInt8:=(gStr (gOut (qkv between texts r n n2 k) 0))
noncomputable def ql9 (between:List UInt8) (texts:List (List PV)) (r:List (List PV)) (n:Int) (n2:Int) (k:Nat):Bool:=(qb0 (gOut (qkv between texts r n n2 k) 1))
noncomputable def qom (between:List UInt8) (texts:List (List PV)) (r:List (List PV)) (n:Int) (n2:Int) (k:Nat):Nat:=(gTok (qkv between texts r n n2 k) 0)
noncomputable def qn1 (between:List UInt8) (texts:List (List PV)) (r:List (List PV)) (n:Int) (n2:Int) (k:Nat):Bool:=isW (qkv between texts r n n2 k) (.ret,[.str (qmn between texts r n n2 k),.bool (ql9 between texts r n n2 k)],⟨[],[((qom between texts r n n2 k),1,9)],[]⟩)
noncomputable def qcz (between:List UInt8) (texts:List (List PV)) (r:List (List PV)) (n:Int) (n2:Int) (k:Nat):List UInt8:=(gStr (gOut (qkv between texts r n n2 k) 0))
noncomputable def qda (between:List UInt8) (texts:List (List PV)) (r:List (List PV)) (n:Int) (n2:Int) (k:Nat):List (List PV):=(gRow (gOut (qkv between texts r n n2 k) 1))
noncomputable def qoV (between:List UInt8) (texts:List (List PV)) (r:List (List PV)) (n:Int) (n2:Int) (k:Nat):Nat:=(gTok (qkv between texts r n n2 k) 0)
noncomputable def qnY (between:List UInt8) (texts:List (List PV)) (r:List (List PV)) (n:Int) (n2:Int) (k:Nat):Bool:=isW (qkv between texts r n n2 k) ((.exit 0),[.str (qcz between texts r n n2 k),.sl (qda between texts r n n2 k) (.tok 0)],⟨[],[((qoV between texts r n n2 k),1,9)],[]⟩)
noncomputable def qlO:List PV→Store→Tr (PExit × List PV × Store) | [.str between,.fn 49 [],.sl texts (.tok 0),.sl r .non,.int .i64 n,.int .i64 n2],⟨[],[(k,1,9)],[]⟩=>.ite (qn1 between texts r n n2 k) (.ret (.ret,[.str (qmn between texts r n n2 k),.bool (ql9 between texts r n n2 k)],⟨[],[((qom between texts r n n2 k),1,9)],[]⟩)) (.ite (qnY between texts r n n2 k) (.ret ((.exit 0),[.str (qcz between texts r n n2 k),.sl (qda between texts r n n2 k) (.tok 0)],⟨[],[((qoV between texts r n n2 k),1,9)],[]⟩)) (.fail)) | _,_=>.fail
theorem qKR:∀ vs σ r,(qlO vs σ).run=some r→qkt vs σ=some r:=by
 intro vs σ r h
 unfold qlO at h
 split at h
 ·exact qai h fun h=>qai h fun h=>by cases h
 ·cases h
theorem qES (gl:Gl) (hg:GlLex gl):∀ fr σ e fr' σ',(orc qzG qlO fr σ).run=some (e,fr',σ')→LDoes Tryz.prog gl qAG fr σ e fr' σ':=qcl qaj (qD2 gl hg ) qah (L:=qxR) (qae (by kernel_rfl)) (by kernel_rfl) qKR
noncomputable def qLK:LpsT:=fun r fr σ=>bif Nat.beq r 3 then orc qzG qlO fr σ else .fail
noncomputable def qEA (l:List (List PV)) (sep:List UInt8):Tr PV:=.ite (qn1 sep [] l (xLen l) 0 0) (.ret (.tup [.str (qmn sep [] l (xLen l) 0 0),.bool (ql9 sep [] l (xLen l) 0 0)])) (.ite (qnY sep [] l (xLen l) 0 0) (.ite (okR cS (qaa (qda sep [] l (xLen l) 0 0))) (.ite (qgX (unR cS (qaa (qda sep [] l (xLen l) 0 0))) (qcz sep [] l (xLen l) 0 0)) (.ret (.tup [.str (qdR (unR cS (qaa (qda sep [] l (xLen l) 0 0))) (qcz sep [] l (xLen l) 0 0)),.bool true])) .fail) .fail) .fail)
theorem qNx (l:List (List PV)) (sep:List UInt8):(tcall tbT qFA qLK Tryz.f81 [.sl l .non,.str sep,.fn 49 []]).flat=qEA l sep:=by kernel_rfl
noncomputable def qFT (l:List (List PV)) (sep:List UInt8):Option PV:=(qEA l sep).run
noncomputable def qk8 (l:List (List PV)) (sep:List UInt8):List UInt8:=(gStr (gAt (gCs (gVal (qFT l sep))) 0))
noncomputable def qvQ (l:List (List PV)) (sep:List UInt8):Bool:=(qb0 (gAt (gCs (gVal (qFT l sep))) 1))
noncomputable def qnc (l:List (List PV)) (sep:List UInt8):Bool:=isW (qFT l sep) (.tup [.str (qk8 l sep),.bool (qvQ l sep)])
noncomputable def qKG:List PV→Tr PV | [.sl l .non,.str sep,.fn 49 []]=>.ite (qnc l sep) (.ret (.tup [.str (qk8 l sep),.bool (qvQ l sep)])) (.fail) | _=>.fail
theorem qLD (gl:Gl) (hg:GlLex gl):SimP Tryz.prog gl 81 fun args=>(qKG args).run:=by
 refine SimP.of_flat (G:=qFA) (L:=qLK) qaj (qD2 gl hg ) qah Tryz.func81 rfl (by rfl) (by kernel_rfl) (qaX (L:=lps qLK) [(3,qAG)] (by kernel_rfl) (List.forall_mem_cons.2 ⟨fun fr σ e fr' σ' h=>qES gl hg  fr σ e fr' σ' h,(List.forall_mem_nil _)⟩)) ?_
 intro args x h
 unfold qKG at h
 split at h
 ·exact (congrArg Tr.run (qNx _ _)).trans (qai h fun h=>by cases h)
 ·cases h
noncomputable def qyK:GamT:=ofL [(47,.pure qq9),(49,.pure qjl),(81,.pure qKG)]
theorem qFn (gl:Gl) (hg:GlLex gl):qaH Tryz.prog gl (gam qyK):=(qac (qqY gl hg) (qac (qnN gl hg) (qac (qLD gl hg) qag)))
noncomputable def qGt:LpsT:=fun r fr σ=>.fail
noncomputable def quR (r_:List UInt8) (r_2:List (List PV)) (r_3:List (List PV)):Tr PV:=.ite (qci r_ (qaa r_2)) (.ite (qnc (qaa r_3) [44,32]) (.ite (iLt 0 (xLen r_3)) (.ite (qan [32,58,45,32] (qk8 (qaa r_3) [44,32])) (.ite (qan (qby r_ (qaa r_2)) (sApp [32,58,45,32] (qk8 (qaa r_3) [44,32]))) (.ite (qan (sApp (qby r_ (qaa r_2)) (sApp [32,58,45,32] (qk8 (qaa r_3) [44,32]))) [46]) (.ite (qdk r_ (qaa r_2)) (.ret (.tup [.str (sApp (sApp (qby r_ (qaa r_2)) (sApp [32,58,45,32] (qk8 (qaa r_3) [44,32]))) [46]),.bool (qvQ (qaa r_3) [44,32])])) (.ret (.tup [.str (sApp (sApp (qby r_ (qaa r_2)) (sApp [32,58,45,32] (qk8 (qaa r_3) [44,32]))) [46]),.bool false]))) .fail) .fail) .fail) (.ite (qan (qby r_ (qaa r_2)) (qk8 (qaa r_3) [44,32])) (.ite (qan (sApp (qby r_ (qaa r_2)) (qk8 (qaa r_3) [44,32])) [46]) (.ite (qdk r_ (qaa r_2)) (.ret (.tup [.str (sApp (sApp (qby r_ (qaa r_2)) (qk8 (qaa r_3) [44,32])) [46]),.bool (qvQ (qaa r_3) [44,32])])) (.ret (.tup [.str (sApp (sApp (qby r_ (qaa r_2)) (qk8 (qaa r_3) [44,32])) [46]),.bool false]))) .fail) .fail)) .fail) .fail
theorem qJx (r_:List UInt8) (r_2:List (List PV)) (r_3:List (List PV)):(tcall tbT qyK qGt Tryz.f54 [.agg [.str r_,.sl r_2 .non,.sl r_3 .non]]).flat=quR r_ r_2 r_3:=by kernel_rfl
noncomputable def qqi (r_:List UInt8) (r_2:List (List PV)) (r_3:List (List PV)):Option PV:=(quR r_ r_2 r_3).run
noncomputable def qif (r_:List UInt8) (r_2:List (List PV)) (r_3:List (List PV)):List UInt8:=(gStr (gAt (gCs (gVal (qqi r_ r_2 r_3))) 0))
noncomputable def qhP (r_:List UInt8) (r_2:List (List PV)) (r_3:List (List PV)):Bool:=(qb0 (gAt (gCs (gVal (qqi r_ r_2 r_3))) 1))
noncomputable def qg9 (r_:List UInt8) (r_2:List (List PV)) (r_3:List (List PV)):Bool:=isW (qqi r_ r_2 r_3) (.tup [.str (qif r_ r_2 r_3),.bool (qhP r_ r_2 r_3)])
noncomputable def qyZ:List PV→Tr PV | [.agg [.str r_,.sl r_2 .non,.sl r_3 .non]]=>.ite (qg9 r_ r_2 r_3) (.ret (.tup [.str (qif r_ r_2 r_3),.bool (qhP r_ r_2 r_3)])) (.fail) | _=>.fail
theorem qGT (gl:Gl) (hg:GlLex gl):SimP Tryz.prog gl 54 fun args=>(qyZ args).run:=by
 refine SimP.of_flat (G:=qyK) (L:=qGt) qaj (qFn gl hg ) qah Tryz.func54 rfl (by rfl) (by kernel_rfl) (qae (by kernel_rfl)) ?_
 intro args x h
 unfold qyZ at h
 split at h
 ·exact (congrArg Tr.run (qJx _ _ _)).trans (qai h fun h=>by cases h)
 ·cases h
noncomputable def qyk:GamT:=ofL []
theorem qC9 (gl:Gl):qaH Tryz.prog gl (gam qyk):=qag
noncomputable def qDv:LpsT:=fun r fr σ=>.fail
noncomputable def qtt (t:Int):Tr PV:=.ite (iEq t 1) (.ret (.tup [.str [105,110,116],.bool true])) (.ite (iEq t 2) (.ret (.tup [.str [115,121,109],.bool true])) (.ret (.tup [.str [],.bool false])))
theorem qLM (t:Int):(tcall tbT qyk qDv Tryz.f83 [.int .i64 t]).flat=qtt t:=by kernel_rfl
noncomputable def qq3 (t:Int):Option PV:=(qtt t).run
noncomputable def qen (t:Int):List UInt8:=(gStr (gAt (gCs (gVal (qq3 t))) 0))
noncomputable def qi6 (t:Int):Bool:=(qb0 (gAt (gCs (gVal (qq3 t))) 1))
noncomputable def qfN (t:Int):Bool:=isW (qq3 t) (.tup [.str (qen t),.bool (qi6 t)])
noncomputable def qq2:List PV→Tr PV | [.int .i64 t]=>.ite (qfN t) (.ret (.tup [.str (qen t),.bool (qi6 t)])) (.fail) | _=>.fail
theorem qr9 (gl:Gl):SimP Tryz.prog gl 83 fun args=>(qq2 args).run:=by
 refine SimP.of_flat (G:=qyk) (L:=qDv) qaj (qC9 gl ) qah Tryz.func83 rfl (by rfl) (by kernel_rfl) (qae (by kernel_rfl)) ?_
 intro args x h
 unfold qq2 at h
 split at h
 ·exact (congrArg Tr.run (qLM _)).trans (qai h fun h=>by cases h)
 ·cases h
noncomputable def qEh:GamT:=ofL [(83,.pure qq2),(88,.pure qpE),(qeS,.hint [(8,0,1,9)])]
theorem qE7 (gl:Gl) (hg:GlPow gl):qaH Tryz.prog gl (gam qEh):=(qac (qr9 gl) (qac (qme hg) (qbH (K:=.hint [(8,0,1,9)]) trivial qag)))
noncomputable def qBh:Code:=qeX Tryz.f82 3
def qAv:LI:=⟨35,[1,2,8,13,14,15],fun e=>match e with | .ret=>[6,7] | .exit 0=>[1,8] | _=>[],true⟩
noncomputable def qzf:LpsT:=fun r fr σ=>.fail
noncomputable def qki (vs:List PV) (σ:Store):Option (PExit × List PV × Store):=lval (lstep tbT qEh qzf qBh qAv) vs σ
noncomputable def qpr (between:List UInt8) (texts:List (List PV)) (r:List (List PV)) (n:Int) (n2:Int) (k:Nat):Tr LR:=.ite (iLt n2 n) (.ite (qak n2) (.ite (qbs [.int .i64 0] r (nNat n2)) (.ite (qfN (xInt r (nNat n2) 0)) (.ite (bNot (qi6 (xInt r (nNat n2) 0))) (.ret (.out .ret [.str [],.bool false] (Store.mk [] [(k,1,9)] []))) (.ite (qaz texts [[.str (qen (xInt r (nNat n2) 0))]] 16) (.ite (qas [[.str (qen (xInt r (nNat n2) 0))]] 1) (.ite (qao texts 1) (.ite (nEq k (nXs texts)) (.ret (.next [.str between,.fn 83 [],.sl (xApp texts [[.str (qen (xInt r (nNat n2) 0))]]) (.tok 0),.sl r .non,.int .i64 n,.int .i64 (iAdd .i64 n2 1)] (Store.mk [] [(nXs (xApp texts [[.str (qen (xInt r (nNat n2) 0))]]),1,9)] []))) .fail) .fail) .fail) .fail)) .fail) .fail) .fail) (.ret (.out (.exit 0) [.str between,.sl texts (.tok 0)] (Store.mk [] [(k,1,9)] [])))
theorem qMh (between:List UInt8) (texts:List (List PV)) (r:List (List PV)) (n:Int) (n2:Int) (k:Nat):lstep tbT qEh qzf qBh qAv [.str between,.fn 83 [],.sl texts (.tok 0),.sl r .non,.int .i64 n,.int .i64 n2] ⟨[],[(k,1,9)],[]⟩=qpr between texts r n n2 k:=by kernel_rfl
theorem qEB (between:List UInt8) (texts:List (List PV)) (r:List (List PV)) (n:Int) (n2:Int) (k:Nat):qki [.str between,.fn 83 [],.sl texts (.tok 0),.sl r .non,.int .i64 n,.int .i64 n2] ⟨[],[(k,1,9)],[]⟩=lnext qki (qpr between texts r n n2 k).run:=by unfold qki; rw [qbF,qMh]
noncomputable def qkh (between:List UInt8) (texts:List (List PV)) (r:List (List PV)) (n:Int) (n2:Int) (k:Nat):Option (PExit × List PV × Store):=qki [.str between,.fn 83 [],.sl texts (.tok 0),.sl r .non,.int .i64 n,.int .i64 n2] ⟨[],[(k,1,9)],[]⟩
noncomputable def qlC (between:List UInt8) (texts:List (List PV)) (r:List (List PV)) (n:Int) (n2:Int) (k:Nat):List UInt8:=(gStr (gOut (qkh between texts r n n2 k) 0))
noncomputable def qlD (between:List UInt8) (texts:List (List PV)) (r:List (List PV)) (n:Int) (n2:Int) (k:Nat):Bool:=(qb0 (gOut (qkh between texts r n n2 k) 1))
noncomputable def qoU (between:List UInt8) (texts:List (List PV)) (r:List (List PV)) (n:Int) (n2:Int) (k:Nat):Nat:=(gTok (qkh between texts r n n2 k) 0)
noncomputable def qn3 (between:List UInt8) (texts:List (List PV)) (r:List (List PV)) (n:Int) (n2:Int) (k:Nat):Bool:=isW (qkh between texts r n n2 k) (.ret,[.str (qlC between texts r n n2 k),.bool (qlD between texts r n n2 k)],⟨[],[((qoU between texts r n n2 k),1,9)],[]⟩)
noncomputable def qcA (between:List UInt8) (texts:List (List PV)) (r:List (List PV)) (n:Int) (n2:Int) (k:Nat):List UInt8:=(gStr (gOut (qkh between texts r n n2 k) 0))
noncomputable def qc9 (between:List UInt8) (texts:List (List PV)) (r:List (List PV)) (n:Int) (n2:Int) (k:Nat):List (List PV):=(gRow (gOut (qkh between texts r n n2 k) 1))
noncomputable def qpa (between:List UInt8) (texts:List (List PV)) (r:List (List PV)) (n:Int) (n2:Int) (k:Nat):Nat:=(gTok (qkh between texts r n n2 k) 0)
noncomputable def qo4 (between:List UInt8) (texts:List (List PV)) (r:List (List PV)) (n:Int) (n2:Int) (k:Nat):Bool:=isW (qkh between texts r n n2 k) ((.exit 0),[.str (qcA between texts r n n2 k),.sl (qc9 between texts r n n2 k) (.tok 0)],⟨[],[((qpa between texts r n n2 k),1,9)],[]⟩)
noncomputable def qll:List PV→Store→Tr (PExit × List PV × Store) | [.str between,.fn 83 [],.sl texts (.tok 0),.sl r .non,.int .i64 n,.int .i64 n2],⟨[],[(k,1,9)],[]⟩=>.ite (qn3 between texts r n n2 k) (.ret (.ret,[.str (qlC between texts r n n2 k),.bool (qlD between texts r n n2 k)],⟨[],[((qoU between texts r n n2 k),1,9)],[]⟩)) (.ite (qo4 between texts r n n2 k) (.ret ((.exit 0),[.str (qcA between texts r n n2 k),.sl (qc9 between texts r n n2 k) (.tok 0)],⟨[],[((qpa between texts r n n2 k),1,9)],[]⟩)) (.fail)) | _,_=>.fail
theorem qJE:∀ vs σ r,(qll vs σ).run=some r→qki vs σ=some r:=by
 intro vs σ r h
 unfold qll at h
 split at h
 ·exact qai h fun h=>qai h fun h=>by cases h
 ·cases h
theorem qGz (gl:Gl) (hg:GlPow gl):∀ fr σ e fr' σ',(orc qAv qll fr σ).run=some (e,fr',σ')→LDoes Tryz.prog gl qBh fr σ e fr' σ':=qcl qaj (qE7 gl hg ) qah (L:=qzf) (qae (by kernel_rfl)) (by kernel_rfl) qJE
noncomputable def qKn:LpsT:=fun r fr σ=>bif Nat.beq r 3 then orc qAv qll fr σ else .fail
noncomputable def qC2 (l:List (List PV)) (sep:List UInt8):Tr PV:=.ite (qn3 sep [] l (xLen l) 0 0) (.ret (.tup [.str (qlC sep [] l (xLen l) 0 0),.bool (qlD sep [] l (xLen l) 0 0)])) (.ite (qo4 sep [] l (xLen l) 0 0) (.ite (okR cS (qaa (qc9 sep [] l (xLen l) 0 0))) (.ite (qgX (unR cS (qaa (qc9 sep [] l (xLen l) 0 0))) (qcA sep [] l (xLen l) 0 0)) (.ret (.tup [.str (qdR (unR cS (qaa (qc9 sep [] l (xLen l) 0 0))) (qcA sep [] l (xLen l) 0 0)),.bool true])) .fail) .fail) .fail)
theorem qNy (l:List (List PV)) (sep:List UInt8):(tcall tbT qEh qKn Tryz.f82 [.sl l .non,.str sep,.fn 83 []]).flat=qC2 l sep:=by kernel_rfl
noncomputable def qC7 (l:List (List PV)) (sep:List UInt8):Option PV:=(qC2 l sep).run
noncomputable def ql4 (l:List (List PV)) (sep:List UInt8):List UInt8:=(gStr (gAt (gCs (gVal (qC7 l sep))) 0))
noncomputable def qwn (l:List (List PV)) (sep:List UInt8):Bool:=(qb0 (gAt (gCs (gVal (qC7 l sep))) 1))
noncomputable def qkV (l:List (List PV)) (sep:List UInt8):Bool:=isW (qC7 l sep) (.tup [.str (ql4 l sep),.bool (qwn l sep)])
noncomputable def qLj:List PV→Tr PV | [.sl l .non,.str sep,.fn 83 []]=>.ite (qkV l sep) (.ret (.tup [.str (ql4 l sep),.bool (qwn l sep)])) (.fail) | _=>.fail
theorem qJ4 (gl:Gl) (hg:GlPow gl):SimP Tryz.prog gl 82 fun args=>(qLj args).run:=by
 refine SimP.of_flat (G:=qEh) (L:=qKn) qaj (qE7 gl hg ) qah Tryz.func82 rfl (by rfl) (by kernel_rfl) (qaX (L:=lps qKn) [(3,qBh)] (by kernel_rfl) (List.forall_mem_cons.2 ⟨fun fr σ e fr' σ' h=>qGz gl hg  fr σ e fr' σ' h,(List.forall_mem_nil _)⟩)) ?_
 intro args x h
 unfold qLj at h
 split at h
 ·exact (congrArg Tr.run (qNy _ _)).trans (qai h fun h=>by cases h)
 ·cases h
noncomputable def qxn:GamT:=ofL [(18,.pure qmP),(82,.pure qLj),(83,.pure qq2)]
theorem qDq (gl:Gl) (hg:GlLex gl):qaH Tryz.prog gl (gam qxn):=(qac (qlR gl hg) (qac (qJ4 gl hg.toGlOk.toGlPow) (qac (qr9 gl) qag)))
noncomputable def qGR:LpsT:=fun r fr σ=>.fail
noncomputable def qub (d:List UInt8) (d2:Bool) (d3:List (List PV)):Tr PV:=.ite d2 (.ite (qkV (qaa d3) [44,32]) (.ite (qan [98,97,115,101,32] d) (.ite (qan (sApp [98,97,115,101,32] d) [40]) (.ite (qan (sApp (sApp [98,97,115,101,32] d) [40]) (ql4 (qaa d3) [44,32])) (.ite (qan (sApp (sApp (sApp [98,97,115,101,32] d) [40]) (ql4 (qaa d3) [44,32])) [41,46]) (.ite (qwn (qaa d3) [44,32]) (.ite (qcT d) (.ret (.tup [.str (sApp (sApp (sApp (sApp [98,97,115,101,32] d) [40]) (ql4 (qaa d3) [44,32])) [41,46]),.bool (qeZ d)])) .fail) (.ret (.tup [.str (sApp (sApp (sApp (sApp [98,97,115,101,32] d) [40]) (ql4 (qaa d3) [44,32])) [41,46]),.bool false]))) .fail) .fail) .fail) .fail) .fail) (.ite (qkV (qaa d3) [44,32]) (.ite (qan [118,105,101,119,32] d) (.ite (qan (sApp [118,105,101,119,32] d) [40]) (.ite (qan (sApp (sApp [118,105,101,119,32] d) [40]) (ql4 (qaa d3) [44,32])) (.ite (qan (sApp (sApp (sApp [118,105,101,119,32] d) [40]) (ql4 (qaa d3) [44,32])) [41,46]) (.ite (qwn (qaa d3) [44,32]) (.ite (qcT d) (.ret (.tup [.str (sApp (sApp (sApp (sApp [118,105,101,119,32] d) [40]) (ql4 (qaa d3) [44,32])) [41,46]),.bool (qeZ d)])) .fail) (.ret (.tup [.str (sApp (sApp (sApp (sApp [118,105,101,119,32] d) [40]) (ql4 (qaa d3) [44,32])) [41,46]),.bool false]))) .fail) .fail) .fail) .fail) .fail)
theorem qKu (d:List UInt8) (d2:Bool) (d3:List (List PV)):(tcall tbT qxn qGR Tryz.f55 [.agg [.str d,.bool d2,.sl d3 .non]]).flat=qub d d2 d3:=by kernel_rfl
noncomputable def qr7 (d:List UInt8) (d2:Bool) (d3:List (List PV)):Option PV:=(qub d d2 d3).run
noncomputable def qim (d:List UInt8) (d2:Bool) (d3:List (List PV)):List UInt8:=(gStr (gAt (gCs (gVal (qr7 d d2 d3))) 0))
noncomputable def qil (d:List UInt8) (d2:Bool) (d3:List (List PV)):Bool:=(qb0 (gAt (gCs (gVal (qr7 d d2 d3))) 1))
noncomputable def qgS (d:List UInt8) (d2:Bool) (d3:List (List PV)):Bool:=isW (qr7 d d2 d3) (.tup [.str (qim d d2 d3),.bool (qil d d2 d3)])
noncomputable def qyS:List PV→Tr PV | [.agg [.str d,.bool d2,.sl d3 .non]]=>.ite (qgS d d2 d3) (.ret (.tup [.str (qim d d2 d3),.bool (qil d d2 d3)])) (.fail) | _=>.fail
theorem qDP (gl:Gl) (hg:GlLex gl):SimP Tryz.prog gl 55 fun args=>(qyS args).run:=by
 refine SimP.of_flat (G:=qxn) (L:=qGR) qaj (qDq gl hg ) qah Tryz.func55 rfl (by rfl) (by kernel_rfl) (qae (by kernel_rfl)) ?_
 intro args x h
 unfold qyS at h
 split at h
 ·exact (congrArg Tr.run (qKu _ _ _)).trans (qai h fun h=>by cases h)
 ·cases h
noncomputable def qEl:GamT:=ofL [(20,.pure qwZ),(83,.pure qq2)]
theorem qGZ (gl:Gl) (hg:GlLex gl):qaH Tryz.prog gl (gam qEl):=(qac (qu0 gl hg) (qac (qr9 gl) qag))
noncomputable def qI1:LpsT:=fun r fr σ=>.fail
noncomputable def qzn (p_:List UInt8) (p_2:Int):Tr PV:=.ite (qfN p_2) (.ite (qan p_ [32]) (.ite (qan (sApp p_ [32]) (qen p_2)) (.ite (qi6 p_2) (.ite (qgg p_) (.ret (.tup [.str (sApp (sApp p_ [32]) (qen p_2)),.bool (qmw p_)])) .fail) (.ret (.tup [.str (sApp (sApp p_ [32]) (qen p_2)),.bool false]))) .fail) .fail) .fail
theorem qMI (p_:List UInt8) (p_2:Int):(tcall tbT qEl qI1 Tryz.f85 [.agg [.str p_,.int .i64 p_2]]).flat=qzn p_ p_2:=by kernel_rfl
noncomputable def qvS (p_:List UInt8) (p_2:Int):Option PV:=(qzn p_ p_2).run
noncomputable def qko (p_:List UInt8) (p_2:Int):List UInt8:=(gStr (gAt (gCs (gVal (qvS p_ p_2))) 0))
noncomputable def qqv (p_:List UInt8) (p_2:Int):Bool:=(qb0 (gAt (gCs (gVal (qvS p_ p_2))) 1))
noncomputable def qjC (p_:List UInt8) (p_2:Int):Bool:=isW (qvS p_ p_2) (.tup [.str (qko p_ p_2),.bool (qqv p_ p_2)])
noncomputable def qAs:List PV→Tr PV | [.agg [.str p_,.int .i64 p_2]]=>.ite (qjC p_ p_2) (.ret (.tup [.str (qko p_ p_2),.bool (qqv p_ p_2)])) (.fail) | _=>.fail
theorem qAz (gl:Gl) (hg:GlLex gl):SimP Tryz.prog gl 85 fun args=>(qAs args).run:=by
 refine SimP.of_flat (G:=qEl) (L:=qI1) qaj (qGZ gl hg ) qah Tryz.func85 rfl (by rfl) (by kernel_rfl) (qae (by kernel_rfl)) ?_
 intro args x h
 unfold qAs at h
 split at h
 ·exact (congrArg Tr.run (qMI _ _)).trans (qai h fun h=>by cases h)
 ·cases h
noncomputable def qEf:GamT:=ofL [(47,.pure qq9)]
theorem qHr (gl:Gl) (hg:GlLex gl):qaH Tryz.prog gl (gam qEf):=(qac (qqY gl hg) qag)
noncomputable def qIX:LpsT:=fun r fr σ=>.fail
noncomputable def qx6 (a:Bool) (a2:List UInt8) (a3:List (List PV)):Tr PV:=.ite (qci a2 (qaa a3)) (.ite a (.ite (qan [43] (qby a2 (qaa a3))) (.ret (.tup [.str (sApp [43] (qby a2 (qaa a3))),.bool (qdk a2 (qaa a3))])) .fail) (.ite (qan [45] (qby a2 (qaa a3))) (.ret (.tup [.str (sApp [45] (qby a2 (qaa a3))),.bool (qdk a2 (qaa a3))])) .fail)) .fail
theorem qMw (a:Bool) (a2:List UInt8) (a3:List (List PV)):(tcall tbT qEf qIX Tryz.f87 [.agg [.bool a,.str a2,.sl a3 .non]]).flat=qx6 a a2 a3:=by kernel_rfl
noncomputable def qwP (a:Bool) (a2:List UInt8) (a3:List (List PV)):Option PV:=(qx6 a a2 a3).run
noncomputable def qkf (a:Bool) (a2:List UInt8) (a3:List (List PV)):List UInt8:=(gStr (gAt (gCs (gVal (qwP a a2 a3))) 0))
noncomputable def qpR (a:Bool) (a2:List UInt8) (a3:List (List PV)):Bool:=(qb0 (gAt (gCs (gVal (qwP a a2 a3))) 1))
noncomputable def qjo (a:Bool) (a2:List UInt8) (a3:List (List PV)):Bool:=isW (qwP a a2 a3) (.tup [.str (qkf a a2 a3),.bool (qpR a a2 a3)])
noncomputable def qBg:List PV→Tr PV | [.agg [.bool a,.str a2,.sl a3 .non]]=>.ite (qjo a a2 a3) (.ret (.tup [.str (qkf a a2 a3),.bool (qpR a a2 a3)])) (.fail) | _=>.fail
theorem qzK (gl:Gl) (hg:GlLex gl):SimP Tryz.prog gl 87 fun args=>(qBg args).run:=by
 refine SimP.of_flat (G:=qEf) (L:=qIX) qaj (qHr gl hg ) qah Tryz.func87 rfl (by rfl) (by kernel_rfl) (qae (by kernel_rfl)) ?_
 intro args x h
 unfold qBg at h
 split at h
 ·exact (congrArg Tr.run (qMw _ _ _)).trans (qai h fun h=>by cases h)
 ·cases h
noncomputable def qEU:GamT:=ofL [(85,.pure qAs),(88,.pure qpE),(qeS,.hint [(8,0,1,9)])]
theorem qEn (gl:Gl) (hg:GlLex gl):qaH Tryz.prog gl (gam qEU):=(qac (qAz gl hg) (qac (qme hg.toGlOk.toGlPow) (qbH (K:=.hint [(8,0,1,9)]) trivial qag)))
noncomputable def qAb:Code:=qeX Tryz.f84 3
def qz5:LI:=⟨35,[1,2,8,13,14,15],fun e=>match e with | .ret=>[6,7] | .exit 0=>[1,8] | _=>[],true⟩
noncomputable def qyM:LpsT:=fun r fr σ=>.fail
noncomputable def qkn (vs:List PV) (σ:Store):Option (PExit × List PV × Store):=lval (lstep tbT qEU qyM qAb qz5) vs σ
noncomputable def qpQ (between:List UInt8) (texts:List (List PV)) (r:List (List PV)) (n:Int) (n2:Int) (k:Nat):Tr LR:=.ite (iLt n2 n) (.ite (qak n2) (.ite (qbs [.str [],.int .i64 0] r (nNat n2)) (.ite (qjC (xStr r (nNat n2) 0) (xInt r (nNat n2) 1)) (.ite (bNot (qqv (xStr r (nNat n2) 0) (xInt r (nNat n2) 1))) (.ret (.out .ret [.str [],.bool false] (Store.mk [] [(k,1,9)] []))) (.ite (qaz texts [[.str (qko (xStr r (nNat n2) 0) (xInt r (nNat n2) 1))]] 16) (.ite (qas [[.str (qko (xStr r (nNat n2) 0) (xInt r (nNat n2) 1))]] 1) (.ite (qao texts 1) (.ite (nEq k (nXs texts)) (.ret (.next [.str between,.fn 85 [],.sl (qam 0 (xApp texts [[.str (qko (xStr r (nNat n2) 0) (xInt r (nNat n2) 1))]])) (.tok 0),.sl (qam 0 r) .non,.int .i64 n,.int .i64 (iAdd .i64 n2 1)] (Store.mk [] [(nXs (xApp texts [[.str (qko (xStr r (nNat n2) 0) (xInt r (nNat n2) 1))]]),1,9)] []))) .fail) .fail) .fail) .fail)) .fail) .fail) .fail) (.ret (.out (.exit 0) [.str between,.sl texts (.tok 0)] (Store.mk [] [(k,1,9)] [])))
theorem qM2 (between:List UInt8) (texts:List (List PV)) (r:List (List PV)) (n:Int) (n2:Int) (k:Nat):lstep tbT qEU qyM qAb qz5 [.str between,.fn 85 [],.sl texts (.tok 0),.sl r .non,.int .i64 n,.int .i64 n2] ⟨[],[(k,1,9)],[]⟩=qpQ between texts r n n2 k:=by kernel_rfl
theorem qDh (between:List UInt8) (texts:List (List PV)) (r:List (List PV)) (n:Int) (n2:Int) (k:Nat):qkn [.str between,.fn 85 [],.sl texts (.tok 0),.sl r .non,.int .i64 n,.int .i64 n2] ⟨[],[(k,1,9)],[]⟩=lnext qkn (qpQ between texts r n n2 k).run:=by unfold qkn; rw [qbF,qM2]
noncomputable def qkg (between:List UInt8) (texts:List (List PV)) (r:List (List PV)) (n:Int) (n2:Int) (k:Nat):Option (PExit × List PV × Store):=qkn [.str between,.fn 85 [],.sl texts (.tok 0),.sl r .non,.int .i64 n,.int .i64 n2] ⟨[],[(k,1,9)],[]⟩
noncomputable def qlw (between:List UInt8) (texts:List (List PV)) (r:List (List PV)) (n:Int) (n2:Int) (k:Nat):List UInt8:=(gStr (gOut (qkg between texts r n n2 k) 0))
noncomputable def qlU (between:List UInt8) (texts:List (List PV)) (r:List (List PV)) (n:Int) (n2:Int) (k:Nat):Bool:=(qb0 (gOut (qkg between texts r n n2 k) 1))
noncomputable def qou (between:List UInt8) (texts:List (List PV)) (r:List (List PV)) (n:Int) (n2:Int) (k:Nat):Nat:=(gTok (qkg between texts r n n2 k) 0)
noncomputable def qoI (between:List UInt8) (texts:List (List PV)) (r:List (List PV)) (n:Int) (n2:Int) (k:Nat):Bool:=isW (qkg between texts r n n2 k) (.ret,[.str (qlw between texts r n n2 k),.bool (qlU between texts r n n2 k)],⟨[],[((qou between texts r n n2 k),1,9)],[]⟩)
noncomputable def qcD (between:List UInt8) (texts:List (List PV)) (r:List (List PV)) (n:Int) (n2:Int) (k:Nat):List UInt8:=(gStr (gOut (qkg between texts r n n2 k) 0))
noncomputable def qcZ (between:List UInt8) (texts:List (List PV)) (r:List (List PV)) (n:Int) (n2:Int) (k:Nat):List (List PV):=(gRow (gOut (qkg between texts r n n2 k) 1))
noncomputable def qpm (between:List UInt8) (texts:List (List PV)) (r:List (List PV)) (n:Int) (n2:Int) (k:Nat):Nat:=(gTok (qkg between texts r n n2 k) 0)
noncomputable def qo5 (between:List UInt8) (texts:List (List PV)) (r:List (List PV)) (n:Int) (n2:Int) (k:Nat):Bool:=isW (qkg between texts r n n2 k) ((.exit 0),[.str (qcD between texts r n n2 k),.sl (qcZ between texts r n n2 k) (.tok 0)],⟨[],[((qpm between texts r n n2 k),1,9)],[]⟩)
noncomputable def qlQ:List PV→Store→Tr (PExit × List PV × Store) | [.str between,.fn 85 [],.sl texts (.tok 0),.sl r .non,.int .i64 n,.int .i64 n2],⟨[],[(k,1,9)],[]⟩=>.ite (qoI between texts r n n2 k) (.ret (.ret,[.str (qlw between texts r n n2 k),.bool (qlU between texts r n n2 k)],⟨[],[((qou between texts r n n2 k),1,9)],[]⟩)) (.ite (qo5 between texts r n n2 k) (.ret ((.exit 0),[.str (qcD between texts r n n2 k),.sl (qcZ between texts r n n2 k) (.tok 0)],⟨[],[((qpm between texts r n n2 k),1,9)],[]⟩)) (.fail)) | _,_=>.fail
theorem qLt:∀ vs σ r,(qlQ vs σ).run=some r→qkn vs σ=some r:=by
 intro vs σ r h
 unfold qlQ at h
 split at h
 ·exact qai h fun h=>qai h fun h=>by cases h
 ·cases h
theorem qEy (gl:Gl) (hg:GlLex gl):∀ fr σ e fr' σ',(orc qz5 qlQ fr σ).run=some (e,fr',σ')→LDoes Tryz.prog gl qAb fr σ e fr' σ':=qcl qaj (qEn gl hg ) qah (L:=qyM) (qae (by kernel_rfl)) (by kernel_rfl) qLt
noncomputable def qLl:LpsT:=fun r fr σ=>bif Nat.beq r 3 then orc qz5 qlQ fr σ else .fail
noncomputable def qEW (l:List (List PV)) (sep:List UInt8):Tr PV:=.ite (qoI sep [] l (xLen l) 0 0) (.ret (.tup [.str (qlw sep [] l (xLen l) 0 0),.bool (qlU sep [] l (xLen l) 0 0)])) (.ite (qo5 sep [] l (xLen l) 0 0) (.ite (okR cS (qaa (qcZ sep [] l (xLen l) 0 0))) (.ite (qgX (unR cS (qaa (qcZ sep [] l (xLen l) 0 0))) (qcD sep [] l (xLen l) 0 0)) (.ret (.tup [.str (qdR (unR cS (qaa (qcZ sep [] l (xLen l) 0 0))) (qcD sep [] l (xLen l) 0 0)),.bool true])) .fail) .fail) .fail)
theorem qNB (l:List (List PV)) (sep:List UInt8):(tcall tbT qEU qLl Tryz.f84 [.sl l .non,.str sep,.fn 85 []]).flat=qEW l sep:=by kernel_rfl
noncomputable def qFi (l:List (List PV)) (sep:List UInt8):Option PV:=(qEW l sep).run
noncomputable def qgF (l:List (List PV)) (sep:List UInt8):List UInt8:=(gStr (gAt (gCs (gVal (qFi l sep))) 0))
noncomputable def qwV (l:List (List PV)) (sep:List UInt8):Bool:=(qb0 (gAt (gCs (gVal (qFi l sep))) 1))
noncomputable def qno (l:List (List PV)) (sep:List UInt8):Bool:=isW (qFi l sep) (.tup [.str (qgF l sep),.bool (qwV l sep)])
noncomputable def qLC:List PV→Tr PV | [.sl l .non,.str sep,.fn 85 []]=>.ite (qno l sep) (.ret (.tup [.str (qgF l sep),.bool (qwV l sep)])) (.fail) | _=>.fail
theorem qKX (gl:Gl) (hg:GlLex gl):SimP Tryz.prog gl 84 fun args=>(qLC args).run:=by
 refine SimP.of_flat (G:=qEU) (L:=qLl) qaj (qEn gl hg ) qah Tryz.func84 rfl (by rfl) (by kernel_rfl) (qaX (L:=lps qLl) [(3,qAb)] (by kernel_rfl) (List.forall_mem_cons.2 ⟨fun fr σ e fr' σ' h=>qEy gl hg  fr σ e fr' σ' h,(List.forall_mem_nil _)⟩)) ?_
 intro args x h
 unfold qLC at h
 split at h
 ·exact (congrArg Tr.run (qNB _ _)).trans (qai h fun h=>by cases h)
 ·cases h
noncomputable def qDG:GamT:=ofL [(87,.pure qBg),(88,.pure qpE),(qeS,.hint [(8,0,1,9)])]
theorem qCR (gl:Gl) (hg:GlLex gl):qaH Tryz.prog gl (gam qDG):=(qac (qzK gl hg) (qac (qme hg.toGlOk.toGlPow) (qbH (K:=.hint [(8,0,1,9)]) trivial qag)))
noncomputable def qAY:Code:=qeX Tryz.f86 3
def qzL:LI:=⟨35,[1,2,8,13,14,15],fun e=>match e with | .ret=>[6,7] | .exit 0=>[1,8] | _=>[],true⟩
noncomputable def qyb:LpsT:=fun r fr σ=>.fail
noncomputable def qkm (vs:List PV) (σ:Store):Option (PExit × List PV × Store):=lval (lstep tbT qDG qyb qAY qzL) vs σ
noncomputable def qrV (between:List UInt8) (texts:List (List PV)) (r:List (List PV)) (n:Int) (n2:Int) (k:Nat):Tr LR:=.ite (iLt n2 n) (.ite (qak n2) (.ite (qbs [.bool false,.str [],.sl [] .full] r (nNat n2)) (.ite (qjo (qf8 r (nNat n2) 0) (xStr r (nNat n2) 1) (qaa (xRow r (nNat n2) 2))) (.ite (bNot (qpR (qf8 r (nNat n2) 0) (xStr r (nNat n2) 1) (qaa (xRow r (nNat n2) 2)))) (.ret (.out .ret [.str [],.bool false] (Store.mk [] [(k,1,9)] []))) (.ite (qaz texts [[.str (qkf (qf8 r (nNat n2) 0) (xStr r (nNat n2) 1) (qaa (xRow r (nNat n2) 2)))]] 16) (.ite (qas [[.str (qkf (qf8 r (nNat n2) 0) (xStr r (nNat n2) 1) (qaa (xRow r (nNat n2) 2)))]] 1) (.ite (qao texts 1) (.ite (nEq k (nXs texts)) (.ret (.next [.str between,.fn 87 [],.sl (qam 0 (xApp texts [[.str (qkf (qf8 r (nNat n2) 0) (xStr r (nNat n2) 1) (qaa (xRow r (nNat n2) 2)))]])) (.tok 0),.sl (qam 0 r) .non,.int .i64 n,.int .i64 (iAdd .i64 n2 1)] (Store.mk [] [(nXs (xApp texts [[.str (qkf (qf8 r (nNat n2) 0) (xStr r (nNat n2) 1) (qaa (xRow r (nNat n2) 2)))]]),1,9)] []))) .fail) .fail) .fail) .fail)) .fail) .fail) .fail) (.ret (.out (.exit 0) [.str between,.sl texts (.tok 0)] (Store.mk [] [(k,1,9)] [])))
theorem qNg (between:List UInt8) (texts:List (List PV)) (r:List (List PV)) (n:Int) (n2:Int) (k:Nat):lstep tbT qDG qyb qAY qzL [.str between,.fn 87 [],.sl texts (.tok 0),.sl r .non,.int .i64 n,.int .i64 n2] ⟨[],[(k,1,9)],[]⟩=qrV between texts r n n2 k:=by kernel_rfl
theorem qEs (between:List UInt8) (texts:List (List PV)) (r:List (List PV)) (n:Int) (n2:Int) (k:Nat):qkm [.str between,.fn 87 [],.sl texts (.tok 0),.sl r .non,.int .i64 n,.int .i64 n2] ⟨[],[(k,1,9)],[]⟩=lnext qkm (qrV between texts r n n2 k).run:=by unfold qkm; rw [qbF,qNg]
noncomputable def qkp (between:List UInt8) (texts:List (List PV)) (r:List (List PV)) (n:Int) (n2:Int) (k:Nat):Option (PExit × List PV × Store):=qkm [.str between,.fn 87 [],.sl texts (.tok 0),.sl r .non,.int .i64 n,.int .i64 n2] ⟨[],[(k,1,9)],[]⟩
noncomputable def qlM (between:List UInt8) (texts:List (List PV)) (r:List (List PV)) (n:Int) (n2:Int) (k:Nat):List UInt8:=(gStr (gOut (qkp between texts r n n2 k) 0))
noncomputable def ql0 (between:List UInt8) (texts:List (List PV)) (r:List (List PV)) (n:Int) (n2:Int) (k:Nat):Bool:=(qb0 (gOut (qkp between texts r n n2 k) 1))
noncomputable def qoZ (between:List UInt8) (texts:List (List PV)) (r:List (List PV)) (n:Int) (n2:Int) (k:Nat):Nat:=(gTok (qkp between texts r n n2 k) 0)
noncomputable def qo7 (between:List UInt8) (texts:List (List PV)) (r:List (List PV)) (n:Int) (n2:Int) (k:Nat):Bool:=isW (qkp between texts r n n2 k) (.ret,[.str (qlM between texts r n n2 k),.bool (ql0 between texts r n n2 k)],⟨[],[((qoZ between texts r n n2 k),1,9)],[]⟩)
noncomputable def qcI (between:List UInt8) (texts:List (List PV)) (r:List (List PV)) (n:Int) (n2:Int) (k:Nat):List UInt8:=(gStr (gOut (qkp between texts r n n2 k) 0))
noncomputable def qc3 (between:List UInt8) (texts:List (List PV)) (r:List (List PV)) (n:Int) (n2:Int) (k:Nat):List (List PV):=(gRow (gOut (qkp between texts r n n2 k) 1))
noncomputable def qoc (between:List UInt8) (texts:List (List PV)) (r:List (List PV)) (n:Int) (n2:Int) (k:Nat):Nat:=(gTok (qkp between texts r n n2 k) 0)
noncomputable def qoK (between:List UInt8) (texts:List (List PV)) (r:List (List PV)) (n:Int) (n2:Int) (k:Nat):Bool:=isW (qkp between texts r n n2 k) ((.exit 0),[.str (qcI between texts r n n2 k),.sl (qc3 between texts r n n2 k) (.tok 0)],⟨[],[((qoc between texts r n n2 k),1,9)],[]⟩)
noncomputable def qlH:List PV→Store→Tr (PExit × List PV × Store) | [.str between,.fn 87 [],.sl texts (.tok 0),.sl r .non,.int .i64 n,.int .i64 n2],⟨[],[(k,1,9)],[]⟩=>.ite (qo7 between texts r n n2 k) (.ret (.ret,[.str (qlM between texts r n n2 k),.bool (ql0 between texts r n n2 k)],⟨[],[((qoZ between texts r n n2 k),1,9)],[]⟩)) (.ite (qoK between texts r n n2 k) (.ret ((.exit 0),[.str (qcI between texts r n n2 k),.sl (qc3 between texts r n n2 k) (.tok 0)],⟨[],[((qoc between texts r n n2 k),1,9)],[]⟩)) (.fail)) | _,_=>.fail
theorem qLg:∀ vs σ r,(qlH vs σ).run=some r→qkm vs σ=some r:=by
 intro vs σ r h
 unfold qlH at h
 split at h
 ·exact qai h fun h=>qai h fun h=>by cases h
 ·cases h
theorem qDN (gl:Gl) (hg:GlLex gl):∀ fr σ e fr' σ',(orc qzL qlH fr σ).run=some (e,fr',σ')→LDoes Tryz.prog gl qAY fr σ e fr' σ':=qcl qaj (qCR gl hg ) qah (L:=qyb) (qae (by kernel_rfl)) (by kernel_rfl) qLg
noncomputable def qLu:LpsT:=fun r fr σ=>bif Nat.beq r 3 then orc qzL qlH fr σ else .fail
noncomputable def qEL (l:List (List PV)) (sep:List UInt8):Tr PV:=.ite (qo7 sep [] l (xLen l) 0 0) (.ret (.tup [.str (qlM sep [] l (xLen l) 0 0),.bool (ql0 sep [] l (xLen l) 0 0)])) (.ite (qoK sep [] l (xLen l) 0 0) (.ite (okR cS (qaa (qc3 sep [] l (xLen l) 0 0))) (.ite (qgX (unR cS (qaa (qc3 sep [] l (xLen l) 0 0))) (qcI sep [] l (xLen l) 0 0)) (.ret (.tup [.str (qdR (unR cS (qaa (qc3 sep [] l (xLen l) 0 0))) (qcI sep [] l (xLen l) 0 0)),.bool true])) .fail) .fail) .fail)
theorem qNr (l:List (List PV)) (sep:List UInt8):(tcall tbT qDG qLu Tryz.f86 [.sl l .non,.str sep,.fn 87 []]).flat=qEL l sep:=by kernel_rfl
noncomputable def qF5 (l:List (List PV)) (sep:List UInt8):Option PV:=(qEL l sep).run
noncomputable def qiL (l:List (List PV)) (sep:List UInt8):List UInt8:=(gStr (gAt (gCs (gVal (qF5 l sep))) 0))
noncomputable def qwE (l:List (List PV)) (sep:List UInt8):Bool:=(qb0 (gAt (gCs (gVal (qF5 l sep))) 1))
noncomputable def qm7 (l:List (List PV)) (sep:List UInt8):Bool:=isW (qF5 l sep) (.tup [.str (qiL l sep),.bool (qwE l sep)])
noncomputable def qJX:List PV→Tr PV | [.sl l .non,.str sep,.fn 87 []]=>.ite (qm7 l sep) (.ret (.tup [.str (qiL l sep),.bool (qwE l sep)])) (.fail) | _=>.fail
theorem qJR (gl:Gl) (hg:GlLex gl):SimP Tryz.prog gl 86 fun args=>(qJX args).run:=by
 refine SimP.of_flat (G:=qDG) (L:=qLu) qaj (qCR gl hg ) qah Tryz.func86 rfl (by rfl) (by kernel_rfl) (qaX (L:=lps qLu) [(3,qAY)] (by kernel_rfl) (List.forall_mem_cons.2 ⟨fun fr σ e fr' σ' h=>qDN gl hg  fr σ e fr' σ' h,(List.forall_mem_nil _)⟩)) ?_
 intro args x h
 unfold qJX at h
 split at h
 ·exact (congrArg Tr.run (qNr _ _)).trans (qai h fun h=>by cases h)
 ·cases h
noncomputable def qKN:GamT:=ofL [(18,.pure qmP),(84,.pure qLC),(85,.pure qAs),(86,.pure qJX),(87,.pure qBg)]
theorem qLh (gl:Gl) (hg:GlLex gl):qaH Tryz.prog gl (gam qKN):=(qac (qlR gl hg) (qac (qKX gl hg) (qac (qAz gl hg) (qac (qJR gl hg) (qac (qzK gl hg) qag)))))
noncomputable def qNj:LpsT:=fun r fr σ=>.fail
noncomputable def qFP (o:List UInt8) (o2:List (List PV)) (o3:List (List PV)):Tr PV:=.ite (qno (qaa o2) [44,32]) (.ite (qm7 (qaa o3) [44,32]) (.ite (iLt 0 (xLen o3)) (.ite (qan [58,32] (qiL (qaa o3) [44,32])) (.ite (qan [111,110,32] o) (.ite (qan (sApp [111,110,32] o) [40]) (.ite (qan (sApp (sApp [111,110,32] o) [40]) (qgF (qaa o2) [44,32])) (.ite (qan (sApp (sApp (sApp [111,110,32] o) [40]) (qgF (qaa o2) [44,32])) [41]) (.ite (qan (sApp (sApp (sApp (sApp [111,110,32] o) [40]) (qgF (qaa o2) [44,32])) [41]) (sApp [58,32] (qiL (qaa o3) [44,32]))) (.ite (qan (sApp (sApp (sApp (sApp (sApp [111,110,32] o) [40]) (qgF (qaa o2) [44,32])) [41]) (sApp [58,32] (qiL (qaa o3) [44,32]))) [46]) (.ite (qwV (qaa o2) [44,32]) (.ite (qwE (qaa o3) [44,32]) (.ite (qcT o) (.ret (.tup [.str (sApp (sApp (sApp (sApp (sApp (sApp [111,110,32] o) [40]) (qgF (qaa o2) [44,32])) [41]) (sApp [58,32] (qiL (qaa o3) [44,32]))) [46]),.bool (qeZ o)])) .fail) (.ret (.tup [.str (sApp (sApp (sApp (sApp (sApp (sApp [111,110,32] o) [40]) (qgF (qaa o2) [44,32])) [41]) (sApp [58,32] (qiL (qaa o3) [44,32]))) [46]),.bool false]))) (.ret (.tup [.str (sApp (sApp (sApp (sApp (sApp (sApp [111,110,32] o) [40]) (qgF (qaa o2) [44,32])) [41]) (sApp [58,32] (qiL (qaa o3) [44,32]))) [46]),.bool false]))) .fail) .fail) .fail) .fail) .fail) .fail) .fail) (.ite (qan [111,110,32] o) (.ite (qan (sApp [111,110,32] o) [40]) (.ite (qan (sApp (sApp [111,110,32] o) [40]) (qgF (qaa o2) [44,32])) (.ite (qan (sApp (sApp (sApp [111,110,32] o) [40]) (qgF (qaa o2) [44,32])) [41]) (.ite (qan (sApp (sApp (sApp (sApp [111,110,32] o) [40]) (qgF (qaa o2) [44,32])) [41]) (qiL (qaa o3) [44,32])) (.ite (qan (sApp (sApp (sApp (sApp (sApp [111,110,32] o) [40]) (qgF (qaa o2) [44,32])) [41]) (qiL (qaa o3) [44,32])) [46]) (.ite (qwV (qaa o2) [44,32])
 (.ite (qwE (qaa o3) [44,32]) (.ite (qcT o) (.ret (.tup [.str (sApp (sApp (sApp (sApp (sApp (sApp [111,110,32] o) [40]) (qgF (qaa o2) [44,32])) [41]) (qiL (qaa o3) [44,32])) [46]),.bool (qeZ o)])) .fail) (.ret (.tup [.str (sApp (sApp (sApp (sApp (sApp (sApp [111,110,32] o) [40]) (qgF (qaa o2) [44,32])) [41]) (qiL (qaa o3) [44,32])) [46]),.bool false]))) (.ret (.tup [.str (sApp (sApp (sApp (sApp (sApp (sApp [111,110,32] o) [40]) (qgF (qaa o2) [44,32])) [41]) (qiL (qaa o3) [44,32])) [46]),.bool false]))) .fail) .fail) .fail) .fail) .fail) .fail)) .fail) .fail
theorem qNO (o:List UInt8) (o2:List (List PV)) (o3:List (List PV)):(tcall tbT qKN qNj Tryz.f57 [.agg [.str o,.sl o2 .non,.sl o3 .non]]).flat=qFP o o2 o3:=by kernel_rfl
noncomputable def qCV (o:List UInt8) (o2:List (List PV)) (o3:List (List PV)):Option PV:=(qFP o o2 o3).run
noncomputable def qtr (o:List UInt8) (o2:List (List PV)) (o3:List (List PV)):List UInt8:=(gStr (gAt (gCs (gVal (qCV o o2 o3))) 0))
noncomputable def qtC (o:List UInt8) (o2:List (List PV)) (o3:List (List PV)):Bool:=(qb0 (gAt (gCs (gVal (qCV o o2 o3))) 1))
noncomputable def qnC (o:List UInt8) (o2:List (List PV)) (o3:List (List PV)):Bool:=isW (qCV o o2 o3) (.tup [.str (qtr o o2 o3),.bool (qtC o o2 o3)])
noncomputable def qJT:List PV→Tr PV | [.agg [.str o,.sl o2 .non,.sl o3 .non]]=>.ite (qnC o o2 o3) (.ret (.tup [.str (qtr o o2 o3),.bool (qtC o o2 o3)])) (.fail) | _=>.fail
theorem qLs (gl:Gl) (hg:GlLex gl):SimP Tryz.prog gl 57 fun args=>(qJT args).run:=by
 refine SimP.of_flat (G:=qKN) (L:=qNj) qaj (qLh gl hg ) qah Tryz.func57 rfl (by rfl) (by kernel_rfl) (qae (by kernel_rfl)) ?_
 intro args x h
 unfold qJT at h
 split at h
 ·exact (congrArg Tr.run (qNO _ _ _)).trans (qai h fun h=>by cases h)
 ·cases h
noncomputable def qyg:GamT:=ofL []
theorem qD9 (gl:Gl):qaH Tryz.prog gl (gam qyg):=qag
noncomputable def qCQ:LpsT:=fun r fr σ=>.fail
noncomputable def quc (s:List UInt8) (ok:Bool):Tr PV:=.ite (bNot ok) (.ret (.tup [.str [],.int .i64 140])) (.ret (.tup [.str s,.int .i64 0]))
theorem qLP (s:List UInt8) (ok:Bool):(tcall tbT qyg qCQ Tryz.f43 [.str s,.bool ok]).flat=quc s ok:=by kernel_rfl
noncomputable def qpT (s:List UInt8) (ok:Bool):Option PV:=(quc s ok).run
noncomputable def qhD (s:List UInt8) (ok:Bool):List UInt8:=(gStr (gAt (gCs (gVal (qpT s ok))) 0))
noncomputable def qhY (s:List UInt8) (ok:Bool):Int:=(gInt (gAt (gCs (gVal (qpT s ok))) 1))
noncomputable def qeU (s:List UInt8) (ok:Bool):Bool:=isW (qpT s ok) (.tup [.str (qhD s ok),.int .i64 (qhY s ok)])
noncomputable def qro:List PV→Tr PV | [.str s,.bool ok]=>.ite (qeU s ok) (.ret (.tup [.str (qhD s ok),.int .i64 (qhY s ok)])) (.fail) | _=>.fail
theorem qq4 (gl:Gl):SimP Tryz.prog gl 43 fun args=>(qro args).run:=by
 refine SimP.of_flat (G:=qyg) (L:=qCQ) qaj (qD9 gl ) qah Tryz.func43 rfl (by rfl) (by kernel_rfl) (qae (by kernel_rfl)) ?_
 intro args x h
 unfold qro at h
 split at h
 ·exact (congrArg Tr.run (qLP _ _)).trans (qai h fun h=>by cases h)
 ·cases h
noncomputable def qxo:GamT:=ofL [(43,.pure qro),(54,.pure qyZ)]
theorem qF2 (gl:Gl) (hg:GlLex gl):qaH Tryz.prog gl (gam qxo):=(qac (qq4 gl) (qac (qGT gl hg) qag))
noncomputable def qGs:LpsT:=fun r fr σ=>.fail
noncomputable def quj (r_:List UInt8) (r_2:List (List PV)) (r_3:List (List PV)):Tr PV:=.ite (qg9 r_ (qaa r_2) (qaa r_3)) (.ite (qeU (qif r_ (qaa r_2) (qaa r_3)) (qhP r_ (qaa r_2) (qaa r_3))) (.ret (.tup [.str (qhD (qif r_ (qaa r_2) (qaa r_3)) (qhP r_ (qaa r_2) (qaa r_3))),.int .i64 (qhY (qif r_ (qaa r_2) (qaa r_3)) (qhP r_ (qaa r_2) (qaa r_3)))])) .fail) .fail
theorem qJK (r_:List UInt8) (r_2:List (List PV)) (r_3:List (List PV)):(tcall tbT qxo qGs Tryz.f26 [.agg [.str r_,.sl r_2 .non,.sl r_3 .non]]).flat=quj r_ r_2 r_3:=by kernel_rfl
noncomputable def qrU (r_:List UInt8) (r_2:List (List PV)) (r_3:List (List PV)):Option PV:=(quj r_ r_2 r_3).run
noncomputable def qgA (r_:List UInt8) (r_2:List (List PV)) (r_3:List (List PV)):List UInt8:=(gStr (gAt (gCs (gVal (qrU r_ r_2 r_3))) 0))
noncomputable def qgz (r_:List UInt8) (r_2:List (List PV)) (r_3:List (List PV)):Int:=(gInt (gAt (gCs (gVal (qrU r_ r_2 r_3))) 1))
noncomputable def qea (r_:List UInt8) (r_2:List (List PV)) (r_3:List (List PV)):Bool:=isW (qrU r_ r_2 r_3) (.tup [.str (qgA r_ r_2 r_3),.int .i64 (qgz r_ r_2 r_3)])
noncomputable def qvD:List PV→Tr PV | [.agg [.str r_,.sl r_2 .non,.sl r_3 .non]]=>.ite (qea r_ r_2 r_3) (.ret (.tup [.str (qgA r_ r_2 r_3),.int .i64 (qgz r_ r_2 r_3)])) (.fail) | _=>.fail
theorem qvH (gl:Gl) (hg:GlLex gl):SimP Tryz.prog gl 26 fun args=>(qvD args).run:=by
 refine SimP.of_flat (G:=qxo) (L:=qGs) qaj (qF2 gl hg ) qah Tryz.func26 rfl (by rfl) (by kernel_rfl) (qae (by kernel_rfl)) ?_
 intro args x h
 unfold qvD at h
 split at h
 ·exact (congrArg Tr.run (qJK _ _ _)).trans (qai h fun h=>by cases h)
 ·cases h
noncomputable def qyt:GamT:=ofL [(43,.pure qro),(55,.pure qyS)]
theorem qEG (gl:Gl) (hg:GlLex gl):qaH Tryz.prog gl (gam qyt):=(qac (qq4 gl) (qac (qDP gl hg) qag))
noncomputable def qFu:LpsT:=fun r fr σ=>.fail
noncomputable def qtW (d:List UInt8) (d2:Bool) (d3:List (List PV)):Tr PV:=.ite (qgS d d2 (qaa d3)) (.ite (qeU (qim d d2 (qaa d3)) (qil d d2 (qaa d3))) (.ret (.tup [.str (qhD (qim d d2 (qaa d3)) (qil d d2 (qaa d3))),.int .i64 (qhY (qim d d2 (qaa d3)) (qil d d2 (qaa d3)))])) .fail) .fail
theorem qJJ (d:List UInt8) (d2:Bool) (d3:List (List PV)):(tcall tbT qyt qFu Tryz.f28 [.agg [.str d,.bool d2,.sl d3 .non]]).flat=qtW d d2 d3:=by kernel_rfl
noncomputable def qrT (d:List UInt8) (d2:Bool) (d3:List (List PV)):Option PV:=(qtW d d2 d3).run
noncomputable def qlf (d:List UInt8) (d2:Bool) (d3:List (List PV)):List UInt8:=(gStr (gAt (gCs (gVal (qrT d d2 d3))) 0))
noncomputable def qli (d:List UInt8) (d2:Bool) (d3:List (List PV)):Int:=(gInt (gAt (gCs (gVal (qrT d d2 d3))) 1))
noncomputable def qgN (d:List UInt8) (d2:Bool) (d3:List (List PV)):Bool:=isW (qrT d d2 d3) (.tup [.str (qlf d d2 d3),.int .i64 (qli d d2 d3)])
noncomputable def qxB:List PV→Tr PV | [.agg [.str d,.bool d2,.sl d3 .non]]=>.ite (qgN d d2 d3) (.ret (.tup [.str (qlf d d2 d3),.int .i64 (qli d d2 d3)])) (.fail) | _=>.fail
theorem qFS (gl:Gl) (hg:GlLex gl):SimP Tryz.prog gl 28 fun args=>(qxB args).run:=by
 refine SimP.of_flat (G:=qyt) (L:=qFu) qaj (qEG gl hg ) qah Tryz.func28 rfl (by rfl) (by kernel_rfl) (qae (by kernel_rfl)) ?_
 intro args x h
 unfold qxB at h
 split at h
 ·exact (congrArg Tr.run (qJJ _ _ _)).trans (qai h fun h=>by cases h)
 ·cases h
noncomputable def qJ0:GamT:=ofL [(43,.pure qro),(57,.pure qJT)]
theorem qKe (gl:Gl) (hg:GlLex gl):qaH Tryz.prog gl (gam qJ0):=(qac (qq4 gl) (qac (qLs gl hg) qag))
noncomputable def qL1:LpsT:=fun r fr σ=>.fail
noncomputable def qDZ (o:List UInt8) (o2:List (List PV)) (o3:List (List PV)):Tr PV:=.ite (qnC o (qaa o2) (qaa o3)) (.ite (qeU (qtr o (qaa o2) (qaa o3)) (qtC o (qaa o2) (qaa o3))) (.ret (.tup [.str (qhD (qtr o (qaa o2) (qaa o3)) (qtC o (qaa o2) (qaa o3))),.int .i64 (qhY (qtr o (qaa o2) (qaa o3)) (qtC o (qaa o2) (qaa o3)))])) .fail) .fail
theorem qNs (o:List UInt8) (o2:List (List PV)) (o3:List (List PV)):(tcall tbT qJ0 qL1 Tryz.f30 [.agg [.str o,.sl o2 .non,.sl o3 .non]]).flat=qDZ o o2 o3:=by kernel_rfl
noncomputable def qFZ (o:List UInt8) (o2:List (List PV)) (o3:List (List PV)):Option PV:=(qDZ o o2 o3).run
noncomputable def qsf (o:List UInt8) (o2:List (List PV)) (o3:List (List PV)):List UInt8:=(gStr (gAt (gCs (gVal (qFZ o o2 o3))) 0))
noncomputable def qse (o:List UInt8) (o2:List (List PV)) (o3:List (List PV)):Int:=(gInt (gAt (gCs (gVal (qFZ o o2 o3))) 1))
noncomputable def qip (o:List UInt8) (o2:List (List PV)) (o3:List (List PV)):Bool:=isW (qFZ o o2 o3) (.tup [.str (qsf o o2 o3),.int .i64 (qse o o2 o3)])
noncomputable def qHn:List PV→Tr PV | [.agg [.str o,.sl o2 .non,.sl o3 .non]]=>.ite (qip o o2 o3) (.ret (.tup [.str (qsf o o2 o3),.int .i64 (qse o o2 o3)])) (.fail) | _=>.fail
theorem qGA (gl:Gl) (hg:GlLex gl):SimP Tryz.prog gl 30 fun args=>(qHn args).run:=by
 refine SimP.of_flat (G:=qJ0) (L:=qL1) qaj (qKe gl hg ) qah Tryz.func30 rfl (by rfl) (by kernel_rfl) (qae (by kernel_rfl)) ?_
 intro args x h
 unfold qHn at h
 split at h
 ·exact (congrArg Tr.run (qNs _ _ _)).trans (qai h fun h=>by cases h)
 ·cases h
end Go.Pv
set_option maxHeartbeats 8000000
set_option maxRecDepth 200000
set_option linter.unusedSimpArgs false
set_option linter.unusedVariables false
namespace Go.Pv
open Go Go.Proofs Go.RowKit
theorem qgu {M:Nat} (sep:Txt):∀ l:List Txt,(∀ x ∈ l,x.length≤M)→(qdR l sep).length≤l.length * (M+sep.length)
 | [],_=>by simp [qrh]
 | [x],h=>by
  rw [qlB]
  have:=h x (by simp)
  simp
  omega
 | x :: y :: l,h=>by
  rw [qln]
  have h1:=h x (by simp)
  have h2:=qgu sep (y :: l) (fun z hz=>h z (by simp [hz]))
  simp only [List.length_append,List.length_cons] at h2 ⊢
  rw [Nat.add_mul _ 1]
  omega
theorem qJZ {α:Type} {ok:α→Bool} {T:α→Txt} {M:Nat} (sep:Txt) (l:List α) (h:∀ a ∈ l,(T a).length≤M):(jn ok T sep l).length≤l.length * (M+sep.length):=by
 unfold jn
 split
 ·have:=qgu (M:=M) sep (l.map T) (fun x hx=>by
   obtain ⟨a,ha,rfl⟩:=List.mem_map.1 hx
   exact h a ha)
  simpa using this
 ·simp
theorem qnU {α:Type} {ok:α→Bool} {T:α→Txt} {M:Nat} (sep:Txt) (l:List α) (n:Nat) (hn:l.length≤n) (h:∀ a ∈ l,(T a).length≤M):(jn ok T sep l).length≤n * (M+sep.length) :=
 Nat.le_trans (qJZ sep l h) (Nat.mul_le_mul_right _ hn)
theorem qKK {v:Vl} (hr:vlR v):(vlT v).length≤1100:=by
 obtain ⟨k,n,s⟩:=v
 unfold vlT qe1
 simp only
 by_cases h:isV k n s=true
 ·rw [if_pos h]
  simp only [isV,decide_eq_true_eq] at h
  rcases h with ⟨rfl,_⟩ | ⟨rfl,_,h⟩
  ·rw [if_pos rfl]
   have hr1:=hr.1
   have hr2:=hr.2
   simp only at hr1 hr2
   unfold intV qhz
   split
   ·have:=qgM 19 (-n).toNat (by omega)
    simp only [List.length_cons]
    omega
   ·have:=qgM 19 n.toNat (by omega)
    omega
  ·rw [if_neg (by decide)]
   have key:∀ s:List UInt8,(symB s).length≤4 * s.length:=by
    intro s
    induction s with
    | nil=>simp [symB]
    | cons c s ih =>
     rw [qp3,List.length_append,List.length_cons]
     have:(oneV c.toNat).length≤4:=by
      rw [qxz]
      repeat' split
      all_goals simp
     omega
   have:=key s
   unfold symV
   simp
   omega
 ·rw [if_neg h]
  simp
def tmS (t:Tm):Prop:=t.2.1.length≤300∧tmR t
def atS (a:At):Prop:=a.1.length≤300∧a.2.length≤12∧∀ t ∈ a.2,tmS t
def liS (l:Li):Prop:=atS l.2.1∧tmS l.2.2.2.1∧tmS l.2.2.2.2
def ruS (r:Ru):Prop:=atS r.1∧r.2.length≤8∧∀ l ∈ r.2,liS l
def tyS (_:Int):Prop:=True
def deS (d:De):Prop:=d.1.length≤300∧d.2.2.length≤12
def paS (p:Pa):Prop:=p.1.length≤300
def acS (a:Ac):Prop:=atS a.2
def enS (o:En):Prop:=o.1.length≤300∧(o.2.1.length≤12∧∀ p ∈ o.2.1,paS p)∧(o.2.2.length≤8∧∀ a ∈ o.2.2,acS a)
theorem qe2 {t:Tm} (h:tmS t):(tmT t).length≤1100:=by
 unfold tmT
 split
 ·have:=h.1; omega
 ·split
  ·exact qKK h.2
  ·simp
theorem qhh {a:At} (h:atS a):(atT a).length≤14000:=by
 have:=qnU (ok:=tmOk) (T:=tmT) (M:=1100) [44,32] a.2 12 h.2.1 (fun t ht=>qe2 (h.2.2 t ht))
 have:=h.1
 unfold atT
 simp at *
 omega
theorem qzo (o:Int):(opT o).length≤4:=by
 unfold opT
 repeat' split
 all_goals simp
theorem qqw {l:Li} (h:liS l):(liT l).length≤14004:=by
 have h1:=qhh h.1
 have h2:=qe2 h.2.1
 have h3:=qe2 h.2.2
 have h4:=qzo l.2.2.1
 unfold liT
 repeat' split
 all_goals simp
 all_goals omega
theorem qir (t:Int):(tyT t).length≤3:=by
 unfold tyT
 repeat' split
 all_goals simp
theorem qpM {p:Pa} (h:paS p):(paT p).length≤304:=by
 have:=qir p.2
 have h:p.1.length≤300:=h
 unfold paT
 simp
 omega
theorem qmF {a:Ac} (h:acS a):(acT a).length≤14001:=by
 have:=qhh h
 unfold acT
 split <;> simp <;> omega
theorem qaK {a b:Txt} (h:a.length+b.length≤9223372036854775807):qan a b=true:=by rw [qHm]; exact decide_eq_true h
theorem qFa (k:Int) {s:Txt} (hs:s.length≤65536):isW1 k s=(decide (wE s=0) && decide ((wL s).length=1) && decide (((wL s)[0]?.getD (0,[],(0,0,[]),0)).1=k) && decide (((wL s)[0]?.getD (0,[],(0,0,[]),0)).2.1=s)):=by
 unfold isW1 wE wL
 cases h:qfM s with
 | mk l o =>
  cases o with
  | some p=>cases l <;> simp
  | none =>
   cases l with
   | nil=>simp
   | cons w l =>
    cases l with
    | nil=>simp
    | cons w' l=>simp
theorem qGw {s:Txt} (hs:s.length≤65536) (k:Int):qH8 s k=some (.bool (isW1 k s)):=by
 unfold qH8 qFg
 rw [qFa k hs,qyG hs,qsn hs,qsT hs]
 have x0:xLen (rOf cW (wL s))=((wL s).length:Nat):=by simp
 rw [x0]
 by_cases h1:wE s=0
 ·by_cases h2:(wL s).length=1
  ·have g:qbs [PV.int .i64 0,.str [],.int .i64 0,.int .i64 0,.str [],.int .i64 0] (rOf cW (wL s)) (nNat 0)=true:=by rw [qzS]; simp [h2]
   have y0:xInt (rOf cW (wL s)) (nNat 0) 0=((wL s)[0]?.getD (0,[],(0,0,[]),0)).1:=qAE _ _
   have y1:xStr (rOf cW (wL s)) (nNat 0) 1=((wL s)[0]?.getD (0,[],(0,0,[]),0)).2.1:=qzU _ _
   rw [g,y0,y1]
   generalize (wL s)[0]?.getD (0,[],(0,0,[]),0)=w
   by_cases h3:w.1=k <;> simp [h1,h2,h3]
  ·have h2':¬ ((wL s).length:Int)=1:=by omega
   simp [h1,h2,h2']
 ·simp [h1]
theorem qJk {s:Txt} (hs:s.length≤65536) (k:Int):qmT s k=true:=by simp only [qxD,qmT,qGw hs]; simp
theorem qMR {s:Txt} (hs:s.length≤65536) (k:Int):qxD s k=isW1 k s:=by simp only [qxD,qmT,qGw hs]; simp
theorem qw3 {s:Txt} (hs:s.length≤65536):qud s=some (.bool (nmB s)):=by
 unfold qud qvF nmB resv
 rw [qJk hs,qMR hs]
 by_cases h1:s=[98,97,115,101]
 ·simp [h1]
 ·by_cases h2:s=[118,105,101,119]
  ·simp [h2]
  ·by_cases h3:s=[111,110]
   ·simp [h3]
   ·by_cases h4:s=[110,111,116]
    ·simp [h4]
    ·simp [h1,h2,h3,h4]
theorem qos {s:Txt} (hs:s.length≤65536):qcT s=true:=by simp only [qeZ,qcT,qw3 hs]; simp
theorem qt7 {s:Txt} (hs:s.length≤65536):qeZ s=nmB s:=by simp only [qeZ,qcT,qw3 hs]; simp
theorem qAU {s:Txt} (hs:s.length≤65536):qAo s=some (.bool (vrB s)):=by
 unfold qAo qxQ vrB
 rw [qJk hs,qMR hs]
 simp
theorem qyw {s:Txt} (hs:s.length≤65536):qgg s=true:=by simp only [qmw,qgg,qAU hs]; simp
theorem qEY {s:Txt} (hs:s.length≤65536):qmw s=vrB s:=by simp only [qmw,qgg,qAU hs]; simp
theorem qD4 (k n:Int) (s:Txt):(qbA k n s=0)↔isV k n s=true:=by
 unfold qbA isV
 by_cases h1:k=1∧s=[]
 ·simp [h1]
 ·by_cases h2:k=2∧n=0∧s.length≤256
  ·simp [h2]
  ·rw [if_neg h1,if_neg h2]
   exact ⟨fun h=>absurd h (by decide),fun h=>(of_decide_eq_true h).elim (fun a=>absurd a h1) (fun a=>absurd a h2)⟩
theorem qri {t:Tm} (h:tmS t):qqJ t.1 t.2.1 t.2.2.1 t.2.2.2.1 t.2.2.2.2=some (.tup [.str (tmT t),.bool (tmOk t)]):=by
 obtain ⟨k,b,c,n,s⟩:=t
 have hb:b.length≤65536:=Nat.le_trans h.1 (by decide)
 unfold qqJ quS tmT tmOk vlOk vlT
 simp only [qyw hb,qEY hb,qlq]
 by_cases h1:k=1
 ·cases hv:vrB b <;> simp [h1,hv,bAnd,Bool.decide_and]
 ·by_cases h2:k=2
  ·by_cases h3:isV c n s=true
   ·have h4:=(qD4 c n s).2 h3
    simp [h2,h3,h4]
   ·have h4:¬ qbA c n s=0:=fun h=>h3 ((qD4 c n s).1 h)
    simp [h2,h3,h4]
  ·simp [h1,h2,bAnd,Bool.decide_and]
theorem qoW {t:Tm} (h:tmS t):qcy t.1 t.2.1 t.2.2.1 t.2.2.2.1 t.2.2.2.2=true:=by simp only [qew,qcy,qaJ,qri h]; simp
theorem qoJ {t:Tm} (h:tmS t):qaJ t.1 t.2.1 t.2.2.1 t.2.2.2.1 t.2.2.2.2=tmT t:=by simp only [qew,qcy,qaJ,qri h]; simp
theorem qo3 {t:Tm} (h:tmS t):qew t.1 t.2.1 t.2.2.1 t.2.2.2.1 t.2.2.2.2=tmOk t:=by simp only [qew,qcy,qaJ,qri h]; simp
theorem qzv {l:List Tm} (hs:∀ a ∈ l,tmS a) (hn:l.length≤100000) {sep:Txt} (hsep:sep.length≤10):qFU (rOf cM l) sep=some (.tup [.str (jn tmOk tmT sep l),.bool (l.all tmOk)]):=by
 have hl:=qcS (l:=l) l.length (Nat.le_refl _) (V:=fun i b=>qkr [.str sep,.fn 44 [],.sl (rOf cS b) (.tok 0),.sl (rOf cM l) .non,.int .i64 (l.length:Nat),.int .i64 (i:Nat)] ⟨[],[(b.length,1,9)],[]⟩) tmOk tmT (fun b=>some (.exit 0,[.str sep,.sl (rOf cS b) (.tok 0)],⟨[],[(b.length,1,9)],[]⟩)) (fun r=>∃ k:Nat,r=some (.ret,[.str [],.bool false],⟨[],[(k,1,9)],[]⟩)) ?_ ?_ ?_
 ·rw [List.take_length] at hl
  obtain ⟨h1,h2⟩:=hl
  have x0:xLen (rOf cM l)=(l.length:Nat):=by simp
  unfold qFU qDU jn
  rw [x0]
  cases ha:l.all tmOk with
  | true =>
   have h':qku sep [] (rOf cM l) (l.length:Nat) 0 0=_:=h1 ha
   have o:qgX (l.map tmT) sep=true:=by
    rw [qcj]
    have:=qgu (M:=1100) sep (l.map tmT) (fun x hx=>by
     obtain ⟨a,ha,rfl⟩:=List.mem_map.1 hx
     exact qe2 (hs a ha))
    have h3:(l.map tmT).length * (1100+sep.length)≤100000 * (1100+10):=Nat.mul_le_mul (by simpa using hn) (by omega)
    exact ⟨by simp; omega,by omega⟩
   simp only [qlv,qcH,qnW,qpg,qoY,qn9,qlp,qcR,h']
   rw [qcj] at o
   simp [o.2]
   omega
  | false =>
   obtain ⟨k,hk⟩:=h2 ha
   have h':qku sep [] (rOf cM l) (l.length:Nat) 0 0=_:=hk
   simp only [qlv,qcH,qnW,qpg,qoY,qn9,qlp,qcR,h']
   simp
 ·intro i b a hb hi hi2 ha ho
  have hm:tmS a:=hs a (ha ▸ List.getElem_mem hi)
  have q1:iLt (i:Int) (l.length:Nat)=true:=by simp; omega
  have q3:qak (i:Int)=true:=by simp
  have q4:qbs [PV.int .i64 0,.str [],.int .i64 0,.int .i64 0,.str []] (rOf cM l) (nNat (i:Int))=true:=by simp; omega
  have w:=qbj (i:=i) (by omega)
  have e1:=qoW hm
  have e2:=qoJ hm
  have e3:=qo3 hm
  rw [ho] at e3
  have x0:xInt (rOf cM l) (nNat (i:Int)) 0=a.1:=by simp [hi,ha]
  have x1:xStr (rOf cM l) (nNat (i:Int)) 1=a.2.1:=by simp [hi,ha]
  have x2:xInt (rOf cM l) (nNat (i:Int)) 2=a.2.2.1:=by simp [hi,ha]
  have x3:xInt (rOf cM l) (nNat (i:Int)) 3=a.2.2.2.1:=by simp [hi,ha]
  have x4:xStr (rOf cM l) (nNat (i:Int)) 4=a.2.2.2.2:=by simp [hi,ha]
  have o1:∀ c,qaz (rOf cS b) [c] 16=true:=fun c=>by simp; omega
  have o2:∀ t:Txt,qas [[PV.str t]] 1=true:=fun t=>by simp [one]
  have o3:qao (rOf cS b) 1=true:=qdl _
  have o4:nEq b.length (nXs (rOf cS b))=true:=by simp
  have o5:bNot true=false:=rfl
  show qkr [.str sep,.fn 44 [],.sl (rOf cS b) (.tok 0),.sl (rOf cM l) .non,.int .i64 (l.length:Nat),.int .i64 (i:Nat)] ⟨[],[(b.length,1,9)],[]⟩=qkr [.str sep,.fn 44 [],.sl (rOf cS (b++[tmT a])) (.tok 0),.sl (rOf cM l) .non,.int .i64 (l.length:Nat),.int .i64 ((i+1:Nat):Int)] ⟨[],[((b++[tmT a]).length,1,9)],[]⟩
  rw [qGj]
  simp only [qr6,q1,q3,q4,x0,x1,x2,x3,x4,qap,e1,e2,e3,o1,o2,o3,o4,o5,w]
  simp
 ·intro i b a hb hi hi2 ha ho
  have hm:tmS a:=hs a (ha ▸ List.getElem_mem hi)
  have q1:iLt (i:Int) (l.length:Nat)=true:=by simp; omega
  have q3:qak (i:Int)=true:=by simp
  have q4:qbs [PV.int .i64 0,.str [],.int .i64 0,.int .i64 0,.str []] (rOf cM l) (nNat (i:Int))=true:=by simp; omega
  have w:=qbj (i:=i) (by omega)
  have e1:=qoW hm
  have e2:=qoJ hm
  have e3:=qo3 hm
  rw [ho] at e3
  have x0:xInt (rOf cM l) (nNat (i:Int)) 0=a.1:=by simp [hi,ha]
  have x1:xStr (rOf cM l) (nNat (i:Int)) 1=a.2.1:=by simp [hi,ha]
  have x2:xInt (rOf cM l) (nNat (i:Int)) 2=a.2.2.1:=by simp [hi,ha]
  have x3:xInt (rOf cM l) (nNat (i:Int)) 3=a.2.2.2.1:=by simp [hi,ha]
  have x4:xStr (rOf cM l) (nNat (i:Int)) 4=a.2.2.2.2:=by simp [hi,ha]
  have o5:bNot false=true:=rfl
  show ∃ k:Nat,qkr [.str sep,.fn 44 [],.sl (rOf cS b) (.tok 0),.sl (rOf cM l) .non,.int .i64 (l.length:Nat),.int .i64 (i:Nat)] ⟨[],[(b.length,1,9)],[]⟩=_
  refine ⟨b.length,?_⟩
  rw [qGj]
  simp only [qr6,q1,q3,q4,x0,x1,x2,x3,x4,qap,e1,e2,e3,o5]
  simp
 ·intro b hb
  have q1:iLt (l.length:Nat) (l.length:Nat)=false:=by simp
  show qkr [.str sep,.fn 44 [],.sl (rOf cS b) (.tok 0),.sl (rOf cM l) .non,.int .i64 (l.length:Nat),.int .i64 (l.length:Nat)] ⟨[],[(b.length,1,9)],[]⟩=_
  rw [qGj]
  simp only [qr6,q1]
  simp
theorem qMS {l:List Tm} (hs:∀ a ∈ l,tmS a) (hn:l.length≤100000) {sep:Txt} (hsep:sep.length≤10):qnk (rOf cM l) sep=true:=by simp only [qxG,qnk,qsd,qzv hs hn hsep]; simp
theorem qMs {l:List Tm} (hs:∀ a ∈ l,tmS a) (hn:l.length≤100000) {sep:Txt} (hsep:sep.length≤10):qsd (rOf cM l) sep=jn tmOk tmT sep l:=by simp only [qxG,qnk,qsd,qzv hs hn hsep]; simp
theorem qMQ {l:List Tm} (hs:∀ a ∈ l,tmS a) (hn:l.length≤100000) {sep:Txt} (hsep:sep.length≤10):qxG (rOf cM l) sep=l.all tmOk:=by simp only [qxG,qnk,qsd,qzv hs hn hsep]; simp
theorem qqE {a:At} (h:atS a):qpw a.1 (rOf cM a.2)=some (.tup [.str (atT a),.bool (atOk a)]):=by
 have e1:=qMS h.2.2 (by have:=h.2.1; omega) (sep:=[44,32]) (by decide)
 have e2:=qMs h.2.2 (by have:=h.2.1; omega) (sep:=[44,32]) (by decide)
 have e3:=qMQ h.2.2 (by have:=h.2.1; omega) (sep:=[44,32]) (by decide)
 have hb:a.1.length≤65536:=Nat.le_trans h.1 (by decide)
 have hj:=qnU (ok:=tmOk) (T:=tmT) (M:=1100) [44,32] a.2 12 h.2.1 (fun t ht=>qe2 (h.2.2 t ht))
 have hn:=h.1
 simp at hj
 unfold qpw qul atT atOk
 simp only [qap,e1,e2,e3,qos hb,qt7 hb]
 rw [qaK (by simp; omega),qaK (by simp; omega),qaK (by simp; omega)]
 cases a.2.all tmOk <;> simp
theorem qvu {a:At} (h:atS a):qci a.1 (rOf cM a.2)=true:=by simp only [qdk,qci,qby,qqE h]; simp
theorem qvE {a:At} (h:atS a):qby a.1 (rOf cM a.2)=atT a:=by simp only [qdk,qci,qby,qqE h]; simp
theorem qt8 {a:At} (h:atS a):qdk a.1 (rOf cM a.2)=atOk a:=by simp only [qdk,qci,qby,qqE h]; simp
theorem qyd (o:Int):qGe o=some (.tup [.str (opT o),.bool (opOk o)]):=by
 unfold qGe qDj opT opOk
 by_cases h1:o=1
 ·simp [h1]
 ·by_cases h2:o=2
  ·simp [h2]
  ·by_cases h3:o=3
   ·simp [h3]
   ·by_cases h4:o=4
    ·simp [h4]
    ·by_cases h5:o=5
     ·simp [h5]
     ·by_cases h6:o=6
      ·simp [h6]
      ·have:¬ (1≤o∧o≤6):=by omega
       simp [h1,h2,h3,h4,h5,h6]
       omega
theorem qL4 (o:Int):qiW o=true:=by simp only [que,qiW,qex,qyd]; simp
theorem qMf (o:Int):qex o=opT o:=by simp only [que,qiW,qex,qyd]; simp
theorem qMZ (o:Int):que o=opOk o:=by simp only [que,qiW,qex,qyd]; simp
theorem qiN {l:Li} (h:liS l):qg7 l.1 l.2.1.1 (rOf cM l.2.1.2) l.2.2.1 l.2.2.2.1.1 l.2.2.2.1.2.1 l.2.2.2.1.2.2.1 l.2.2.2.1.2.2.2.1 l.2.2.2.1.2.2.2.2 l.2.2.2.2.1 l.2.2.2.2.2.1 l.2.2.2.2.2.2.1 l.2.2.2.2.2.2.2.1 l.2.2.2.2.2.2.2.2=some (.tup [.str (liT l),.bool (liOk l)]):=by
 have e1:=qvu h.1
 have e2:=qvE h.1
 have e3:=qt8 h.1
 have a1:=qoW h.2.1
 have a2:=qoJ h.2.1
 have a3:=qo3 h.2.1
 have b1:=qoW h.2.2
 have b2:=qoJ h.2.2
 have b3:=qo3 h.2.2
 have l1:=qhh h.1
 have l2:=qe2 h.2.1
 have l3:=qe2 h.2.2
 have l4:=qzo l.2.2.1
 have o1:qan [110,111,116,32] (atT l.2.1)=true:=qaK (by simp; omega)
 have o2:qan (tmT l.2.2.2.1) (opT l.2.2.1)=true:=qaK (by omega)
 have o3:qan (sApp (tmT l.2.2.2.1) (opT l.2.2.1)) (tmT l.2.2.2.2)=true:=qaK (by simp; omega)
 have pl:qCU l=(decide (l.2.2.1=0) && decide (l.2.2.2.1=tm0) && decide (l.2.2.2.2=tm0)):=rfl
 have t0:∀ t:Tm,(t=tm0)=(t.1=0∧t.2.1=[]∧t.2.2.1=0∧t.2.2.2.1=0∧t.2.2.2.2=[]):=fun t=>by
  obtain ⟨a,b,c,d,e⟩:=t
  simp [tm0]
 unfold qg7 qky liT liOk
 simp only [qap,e1,e2,e3,a1,a2,a3,b1,b2,b3,qL4,qMf,qMZ,o1,o2,o3,pl,t0]
 have at0:(l.2.1=([],[]))=(l.2.1.1=[]∧l.2.1.2=[]):=by
  cases hl:l.2.1 with
  | mk x y=>simp
 simp only [at0]
 generalize l.1=k
 generalize l.2.2.1=o
 generalize l.2.2.2.1=A
 generalize l.2.2.2.2=B
 generalize l.2.1=T
 obtain ⟨A1,A2,A3,A4,A5⟩:=A
 obtain ⟨B1,B2,B3,B4,B5⟩:=B
 obtain ⟨T1,T2⟩:=T
 simp only
 have b0:bAnd=and:=rfl
 by_cases k1:k=1
 ·by_cases h0:o=0
  ·by_cases hA:(A1=0∧A2=[]∧A3=0∧A4=0∧A5=[])
   ·cases hO:atOk (T1,T2) <;> simp [k1,h0,hA,hO,b0,Bool.decide_and]
   ·have hA':(decide (A1=0) && (decide (A2=[]) && (decide (A3=0) && (decide (A4=0) && decide (A5=[])))))=false:=by
     simpa [Bool.decide_and] using hA
    cases hO:atOk (T1,T2) <;> simp [k1,h0,hA,hA',hO,b0,Bool.decide_and] <;> simp_all
  ·cases hO:atOk (T1,T2) <;> simp [k1,h0,hO,b0]
 ·by_cases k2:k=2
  ·by_cases h0:o=0
   ·by_cases hA:(A1=0∧A2=[]∧A3=0∧A4=0∧A5=[])
    ·cases hO:atOk (T1,T2) <;> simp [k2,h0,hA,hO,b0,Bool.decide_and]
    ·have hA':(decide (A1=0) && (decide (A2=[]) && (decide (A3=0) && (decide (A4=0) && decide (A5=[])))))=false:=by
      simpa [Bool.decide_and] using hA
     cases hO:atOk (T1,T2) <;> simp [k2,h0,hA,hA',hO,b0,Bool.decide_and] <;> simp_all
   ·cases hO:atOk (T1,T2) <;> simp [k2,h0,hO,b0]
  ·by_cases k3:k=3
   ·have fin:∀ c:Bool,(if c=true then (if k=3 then (1:Nat) else 0) else 0)=(if c=true then (if k=3 then 1 else 0) else 0):=fun _=>rfl
    subst k3
    have n1:iEq 3 1=false:=rfl
    have n2:iEq 3 2=false:=rfl
    have n3:iEq 3 3=true:=rfl
    rw [n1,n2,n3]
    cases iEq o 0 <;> cases (bAnd (iEq A1 0) (bAnd (sEq A2 []) (bAnd (bAnd (iEq A3 0) (bAnd (iEq A4 0) (bAnd (sEq A5 []) true))) true))) <;>
     cases tmOk (A1,A2,A3,A4,A5) <;> cases opOk o <;> cases tmOk (B1,B2,B3,B4,B5) <;> by_cases hT:T1=[] <;> simp [hT]
   ·simp [k1,k2,k3]
    repeat' split
    all_goals simp
theorem qqV {l:Li} (h:liS l):qdO l.1 l.2.1.1 (rOf cM l.2.1.2) l.2.2.1 l.2.2.2.1.1 l.2.2.2.1.2.1 l.2.2.2.1.2.2.1 l.2.2.2.1.2.2.2.1 l.2.2.2.1.2.2.2.2 l.2.2.2.2.1 l.2.2.2.2.2.1 l.2.2.2.2.2.2.1 l.2.2.2.2.2.2.2.1 l.2.2.2.2.2.2.2.2=true:=by simp only [qet,qdO,qcC,qiN h]; simp
theorem qqZ {l:Li} (h:liS l):qcC l.1 l.2.1.1 (rOf cM l.2.1.2) l.2.2.1 l.2.2.2.1.1 l.2.2.2.1.2.1 l.2.2.2.1.2.2.1 l.2.2.2.1.2.2.2.1 l.2.2.2.1.2.2.2.2 l.2.2.2.2.1 l.2.2.2.2.2.1 l.2.2.2.2.2.2.1 l.2.2.2.2.2.2.2.1 l.2.2.2.2.2.2.2.2=liT l:=by simp only [qet,qdO,qcC,qiN h]; simp
theorem qq6 {l:Li} (h:liS l):qet l.1 l.2.1.1 (rOf cM l.2.1.2) l.2.2.1 l.2.2.2.1.1 l.2.2.2.1.2.1 l.2.2.2.1.2.2.1 l.2.2.2.1.2.2.2.1 l.2.2.2.1.2.2.2.2 l.2.2.2.2.1 l.2.2.2.2.2.1 l.2.2.2.2.2.2.1 l.2.2.2.2.2.2.2.1 l.2.2.2.2.2.2.2.2=liOk l:=by simp only [qet,qdO,qcC,qiN h]; simp
theorem qxE {l:List Li} (hs:∀ a ∈ l,liS a) (hn:l.length≤100000) {sep:Txt} (hsep:sep.length≤10):qFT (rOf cL l) sep=some (.tup [.str (jn liOk liT sep l),.bool (l.all liOk)]):=by
 have hl:=qcS (l:=l) l.length (Nat.le_refl _) (V:=fun i b=>qkt [.str sep,.fn 49 [],.sl (rOf cS b) (.tok 0),.sl (rOf cL l) .non,.int .i64 (l.length:Nat),.int .i64 (i:Nat)] ⟨[],[(b.length,1,9)],[]⟩) liOk liT (fun b=>some (.exit 0,[.str sep,.sl (rOf cS b) (.tok 0)],⟨[],[(b.length,1,9)],[]⟩)) (fun r=>∃ k:Nat,r=some (.ret,[.str [],.bool false],⟨[],[(k,1,9)],[]⟩)) ?_ ?_ ?_
 ·rw [List.take_length] at hl
  obtain ⟨h1,h2⟩:=hl
  have x0:xLen (rOf cL l)=(l.length:Nat):=by simp
  unfold qFT qEA jn
  rw [x0]
  cases ha:l.all liOk with
  | true =>
   have h':qkv sep [] (rOf cL l) (l.length:Nat) 0 0=_:=h1 ha
   have o:qgX (l.map liT) sep=true:=by
    rw [qcj]
    have:=qgu (M:=14004) sep (l.map liT) (fun x hx=>by
     obtain ⟨a,ha,rfl⟩:=List.mem_map.1 hx
     exact qqw (hs a ha))
    have h3:(l.map liT).length * (14004+sep.length)≤100000 * (14004+10):=Nat.mul_le_mul (by simpa using hn) (by omega)
    exact ⟨by simp; omega,by omega⟩
   simp only [ql9,qcz,qn1,qnY,qom,qoV,qmn,qda,h']
   rw [qcj] at o
   simp [o.2]
   omega
  | false =>
   obtain ⟨k,hk⟩:=h2 ha
   have h':qkv sep [] (rOf cL l) (l.length:Nat) 0 0=_:=hk
   simp only [ql9,qcz,qn1,qnY,qom,qoV,qmn,qda,h']
   simp
 ·intro i b a hb hi hi2 ha ho
  have hm:liS a:=hs a (ha ▸ List.getElem_mem hi)
  have q1:iLt (i:Int) (l.length:Nat)=true:=by simp; omega
  have q3:qak (i:Int)=true:=by simp
  have q4:qbs [PV.int .i64 0,.str [],.sl [] .full,.int .i64 0,.int .i64 0,.str [],.int .i64 0,.int .i64 0,.str [],.int .i64 0,.str [],.int .i64 0,.int .i64 0,.str []] (rOf cL l) (nNat (i:Int))=true:=by simp; omega
  have w:=qbj (i:=i) (by omega)
  have e1:=qqV hm
  have e2:=qqZ hm
  have e3:=qq6 hm
  rw [ho] at e3
  have x0:xInt (rOf cL l) (nNat (i:Int)) 0=a.1:=by simp [hi,ha]
  have x1:xStr (rOf cL l) (nNat (i:Int)) 1=a.2.1.1:=by simp [hi,ha]
  have x2:xRow (rOf cL l) (nNat (i:Int)) 2=rOf cM a.2.1.2:=by simp [hi,ha]
  have x3:xInt (rOf cL l) (nNat (i:Int)) 3=a.2.2.1:=by simp [hi,ha]
  have x4:xInt (rOf cL l) (nNat (i:Int)) 4=a.2.2.2.1.1:=by simp [hi,ha]
  have x5:xStr (rOf cL l) (nNat (i:Int)) 5=a.2.2.2.1.2.1:=by simp [hi,ha]
  have x6:xInt (rOf cL l) (nNat (i:Int)) 6=a.2.2.2.1.2.2.1:=by simp [hi,ha]
  have x7:xInt (rOf cL l) (nNat (i:Int)) 7=a.2.2.2.1.2.2.2.1:=by simp [hi,ha]
  have x8:xStr (rOf cL l) (nNat (i:Int)) 8=a.2.2.2.1.2.2.2.2:=by simp [hi,ha]
  have x9:xInt (rOf cL l) (nNat (i:Int)) 9=a.2.2.2.2.1:=by simp [hi,ha]
  have x10:xStr (rOf cL l) (nNat (i:Int)) 10=a.2.2.2.2.2.1:=by simp [hi,ha]
  have x11:xInt (rOf cL l) (nNat (i:Int)) 11=a.2.2.2.2.2.2.1:=by simp [hi,ha]
  have x12:xInt (rOf cL l) (nNat (i:Int)) 12=a.2.2.2.2.2.2.2.1:=by simp [hi,ha]
  have x13:xStr (rOf cL l) (nNat (i:Int)) 13=a.2.2.2.2.2.2.2.2:=by simp [hi,ha]
  have o1:∀ c,qaz (rOf cS b) [c] 16=true:=fun c=>by simp; omega
  have o2:∀ t:Txt,qas [[PV.str t]] 1=true:=fun t=>by simp [one]
  have o3:qao (rOf cS b) 1=true:=qdl _
  have o4:nEq b.length (nXs (rOf cS b))=true:=by simp
  have o5:bNot true=false:=rfl
  show qkt [.str sep,.fn 49 [],.sl (rOf cS b) (.tok 0),.sl (rOf cL l) .non,.int .i64 (l.length:Nat),.int .i64 (i:Nat)] ⟨[],[(b.length,1,9)],[]⟩=qkt [.str sep,.fn 49 [],.sl (rOf cS (b++[liT a])) (.tok 0),.sl (rOf cL l) .non,.int .i64 (l.length:Nat),.int .i64 ((i+1:Nat):Int)] ⟨[],[((b++[liT a]).length,1,9)],[]⟩
  rw [qGp]
  simp only [qpC,q1,q3,q4,x0,x1,x2,x3,x4,x5,x6,x7,x8,x9,x10,x11,x12,x13,qap,e1,e2,e3,o1,o2,o3,o4,o5,w]
  simp
 ·intro i b a hb hi hi2 ha ho
  have hm:liS a:=hs a (ha ▸ List.getElem_mem hi)
  have q1:iLt (i:Int) (l.length:Nat)=true:=by simp; omega
  have q3:qak (i:Int)=true:=by simp
  have q4:qbs [PV.int .i64 0,.str [],.sl [] .full,.int .i64 0,.int .i64 0,.str [],.int .i64 0,.int .i64 0,.str [],.int .i64 0,.str [],.int .i64 0,.int .i64 0,.str []] (rOf cL l) (nNat (i:Int))=true:=by simp; omega
  have w:=qbj (i:=i) (by omega)
  have e1:=qqV hm
  have e2:=qqZ hm
  have e3:=qq6 hm
  rw [ho] at e3
  have x0:xInt (rOf cL l) (nNat (i:Int)) 0=a.1:=by simp [hi,ha]
  have x1:xStr (rOf cL l) (nNat (i:Int)) 1=a.2.1.1:=by simp [hi,ha]
  have x2:xRow (rOf cL l) (nNat (i:Int)) 2=rOf cM a.2.1.2:=by simp [hi,ha]
  have x3:xInt (rOf cL l) (nNat (i:Int)) 3=a.2.2.1:=by simp [hi,ha]
  have x4:xInt (rOf cL l) (nNat (i:Int)) 4=a.2.2.2.1.1:=by simp [hi,ha]
  have x5:xStr (rOf cL l) (nNat (i:Int)) 5=a.2.2.2.1.2.1:=by simp [hi,ha]
  have x6:xInt (rOf cL l) (nNat (i:Int)) 6=a.2.2.2.1.2.2.1:=by simp [hi,ha]
  have x7:xInt (rOf cL l) (nNat (i:Int)) 7=a.2.2.2.1.2.2.2.1:=by simp [hi,ha]
  have x8:xStr (rOf cL l) (nNat (i:Int)) 8=a.2.2.2.1.2.2.2.2:=by simp [hi,ha]
  have x9:xInt (rOf cL l) (nNat (i:Int)) 9=a.2.2.2.2.1:=by simp [hi,ha]
  have x10:xStr (rOf cL l) (nNat (i:Int)) 10=a.2.2.2.2.2.1:=by simp [hi,ha]
  have x11:xInt (rOf cL l) (nNat (i:Int)) 11=a.2.2.2.2.2.2.1:=by simp [hi,ha]
  have x12:xInt (rOf cL l) (nNat (i:Int)) 12=a.2.2.2.2.2.2.2.1:=by simp [hi,ha]
  have x13:xStr (rOf cL l) (nNat (i:Int)) 13=a.2.2.2.2.2.2.2.2:=by simp [hi,ha]
  have o5:bNot false=true:=rfl
  show ∃ k:Nat,qkt [.str sep,.fn 49 [],.sl (rOf cS b) (.tok 0),.sl (rOf cL l) .non,.int .i64 (l.length:Nat),.int .i64 (i:Nat)] ⟨[],[(b.length,1,9)],[]⟩=_
  refine ⟨b.length,?_⟩
  rw [qGp]
  simp only [qpC,q1,q3,q4,x0,x1,x2,x3,x4,x5,x6,x7,x8,x9,x10,x11,x12,x13,qap,e1,e2,e3,o5]
  simp
 ·intro b hb
  have q1:iLt (l.length:Nat) (l.length:Nat)=false:=by simp
  show qkt [.str sep,.fn 49 [],.sl (rOf cS b) (.tok 0),.sl (rOf cL l) .non,.int .i64 (l.length:Nat),.int .i64 (l.length:Nat)] ⟨[],[(b.length,1,9)],[]⟩=_
  rw [qGp]
  simp only [qpC,q1]
  simp
theorem qL9 {l:List Li} (hs:∀ a ∈ l,liS a) (hn:l.length≤100000) {sep:Txt} (hsep:sep.length≤10):qnc (rOf cL l) sep=true:=by simp only [qvQ,qnc,qk8,qxE hs hn hsep]; simp
theorem qMk {l:List Li} (hs:∀ a ∈ l,liS a) (hn:l.length≤100000) {sep:Txt} (hsep:sep.length≤10):qk8 (rOf cL l) sep=jn liOk liT sep l:=by simp only [qvQ,qnc,qk8,qxE hs hn hsep]; simp
theorem qMl {l:List Li} (hs:∀ a ∈ l,liS a) (hn:l.length≤100000) {sep:Txt} (hsep:sep.length≤10):qvQ (rOf cL l) sep=l.all liOk:=by simp only [qvQ,qnc,qk8,qxE hs hn hsep]; simp
theorem qrR {x:Ru} (h:ruS x):qqi x.1.1 (rOf cM x.1.2) (rOf cL x.2)=some (.tup [.str (ruT x),.bool (ruOk x)]):=by
 have e1:=qvu h.1
 have e2:=qvE h.1
 have e3:=qt8 h.1
 have j1:=qL9 h.2.2 (by have:=h.2.1; omega) (sep:=[44,32]) (by decide)
 have j2:=qMk h.2.2 (by have:=h.2.1; omega) (sep:=[44,32]) (by decide)
 have j3:=qMl h.2.2 (by have:=h.2.1; omega) (sep:=[44,32]) (by decide)
 have hj:=qnU (ok:=liOk) (T:=liT) (M:=14004) [44,32] x.2 8 h.2.1 (fun l hl=>qqw (h.2.2 l hl))
 have l1:=qhh h.1
 simp at hj
 unfold qqi quR ruT ruOk
 simp only [qap,e1,e2,e3,j1,j2,j3]
 by_cases hb:x.2=[]
 ·rw [hb] at hj ⊢
  have t:iLt 0 (xLen (rOf cL []))=false:=rfl
  have o1:qan (atT x.1) (jn liOk liT [44,32] [])=true:=qaK (by omega)
  have o2:qan (sApp (atT x.1) (jn liOk liT [44,32] [])) [46]=true:=qaK (by simp; omega)
  simp only [t,o1,o2]
  cases atOk x.1 <;> simp [jn,qrh]
 ·have t:iLt 0 (xLen (rOf cL x.2))=true:=by simp; exact List.length_pos_iff.2 hb
  rw [t,qaK (by simp; omega),qaK (by simp; omega),qaK (by simp; omega)]
  cases atOk x.1 <;> simp [hb]
theorem qIk {x:Ru} (h:ruS x):qg9 x.1.1 (rOf cM x.1.2) (rOf cL x.2)=true:=by simp only [qhP,qg9,qif,qrR h]; simp
theorem qHi {x:Ru} (h:ruS x):qif x.1.1 (rOf cM x.1.2) (rOf cL x.2)=ruT x:=by simp only [qhP,qg9,qif,qrR h]; simp
theorem qIB {x:Ru} (h:ruS x):qhP x.1.1 (rOf cM x.1.2) (rOf cL x.2)=ruOk x:=by simp only [qhP,qg9,qif,qrR h]; simp
theorem qrG {t:Int} (h:tyS t):qq3 t=some (.tup [.str (tyT t),.bool (tyOk t)]):=by
 unfold qq3 qtt tyT tyOk
 by_cases h1:t=1
 ·simp [h1]
 ·by_cases h2:t=2
  ·simp [h2]
  ·simp [h1,h2]
theorem qup {t:Int} (h:tyS t):qfN t=true:=by simp only [qi6,qfN,qen,qrG h]; simp
theorem quB {t:Int} (h:tyS t):qen t=tyT t:=by simp only [qi6,qfN,qen,qrG h]; simp
theorem quw {t:Int} (h:tyS t):qi6 t=tyOk t:=by simp only [qi6,qfN,qen,qrG h]; simp
theorem qxm {l:List Int} (hs:∀ a ∈ l,tyS a) (hn:l.length≤100000) {sep:Txt} (hsep:sep.length≤10):qC7 (rOf cI l) sep=some (.tup [.str (jn tyOk tyT sep l),.bool (l.all tyOk)]):=by
 have hl:=qcS (l:=l) l.length (Nat.le_refl _) (V:=fun i b=>qki [.str sep,.fn 83 [],.sl (rOf cS b) (.tok 0),.sl (rOf cI l) .non,.int .i64 (l.length:Nat),.int .i64 (i:Nat)] ⟨[],[(b.length,1,9)],[]⟩) tyOk tyT (fun b=>some (.exit 0,[.str sep,.sl (rOf cS b) (.tok 0)],⟨[],[(b.length,1,9)],[]⟩)) (fun r=>∃ k:Nat,r=some (.ret,[.str [],.bool false],⟨[],[(k,1,9)],[]⟩)) ?_ ?_ ?_
 ·rw [List.take_length] at hl
  obtain ⟨h1,h2⟩:=hl
  have x0:xLen (rOf cI l)=(l.length:Nat):=by simp
  unfold qC7 qC2 jn
  rw [x0]
  cases ha:l.all tyOk with
  | true =>
   have h':qkh sep [] (rOf cI l) (l.length:Nat) 0 0=_:=h1 ha
   have o:qgX (l.map tyT) sep=true:=by
    rw [qcj]
    have:=qgu (M:=3) sep (l.map tyT) (fun x hx=>by
     obtain ⟨a,ha,rfl⟩:=List.mem_map.1 hx
     exact qir a)
    have h3:(l.map tyT).length * (3+sep.length)≤100000 * (3+10):=Nat.mul_le_mul (by simpa using hn) (by omega)
    exact ⟨by simp; omega,by omega⟩
   simp only [qlD,qcA,qn3,qo4,qoU,qpa,qlC,qc9,h']
   rw [qcj] at o
   simp [o.2]
   omega
  | false =>
   obtain ⟨k,hk⟩:=h2 ha
   have h':qkh sep [] (rOf cI l) (l.length:Nat) 0 0=_:=hk
   simp only [qlD,qcA,qn3,qo4,qoU,qpa,qlC,qc9,h']
   simp
 ·intro i b a hb hi hi2 ha ho
  have hm:tyS a:=hs a (ha ▸ List.getElem_mem hi)
  have q1:iLt (i:Int) (l.length:Nat)=true:=by simp; omega
  have q3:qak (i:Int)=true:=by simp
  have q4:qbs [PV.int .i64 0] (rOf cI l) (nNat (i:Int))=true:=by simp; omega
  have w:=qbj (i:=i) (by omega)
  have e1:=qup hm
  have e2:=quB hm
  have e3:=quw hm
  rw [ho] at e3
  have x0:xInt (rOf cI l) (nNat (i:Int)) 0=a:=by simp [hi,ha]
  have o1:∀ c,qaz (rOf cS b) [c] 16=true:=fun c=>by simp; omega
  have o2:∀ t:Txt,qas [[PV.str t]] 1=true:=fun t=>by simp [one]
  have o3:qao (rOf cS b) 1=true:=qdl _
  have o4:nEq b.length (nXs (rOf cS b))=true:=by simp
  have o5:bNot true=false:=rfl
  show qki [.str sep,.fn 83 [],.sl (rOf cS b) (.tok 0),.sl (rOf cI l) .non,.int .i64 (l.length:Nat),.int .i64 (i:Nat)] ⟨[],[(b.length,1,9)],[]⟩=qki [.str sep,.fn 83 [],.sl (rOf cS (b++[tyT a])) (.tok 0),.sl (rOf cI l) .non,.int .i64 (l.length:Nat),.int .i64 ((i+1:Nat):Int)] ⟨[],[((b++[tyT a]).length,1,9)],[]⟩
  rw [qEB]
  simp only [qpr,q1,q3,q4,x0,qap,e1,e2,e3,o1,o2,o3,o4,o5,w]
  simp
 ·intro i b a hb hi hi2 ha ho
  have hm:tyS a:=hs a (ha ▸ List.getElem_mem hi)
  have q1:iLt (i:Int) (l.length:Nat)=true:=by simp; omega
  have q3:qak (i:Int)=true:=by simp
  have q4:qbs [PV.int .i64 0] (rOf cI l) (nNat (i:Int))=true:=by simp; omega
  have w:=qbj (i:=i) (by omega)
  have e1:=qup hm
  have e2:=quB hm
  have e3:=quw hm
  rw [ho] at e3
  have x0:xInt (rOf cI l) (nNat (i:Int)) 0=a:=by simp [hi,ha]
  have o5:bNot false=true:=rfl
  show ∃ k:Nat,qki [.str sep,.fn 83 [],.sl (rOf cS b) (.tok 0),.sl (rOf cI l) .non,.int .i64 (l.length:Nat),.int .i64 (i:Nat)] ⟨[],[(b.length,1,9)],[]⟩=_
  refine ⟨b.length,?_⟩
  rw [qEB]
  simp only [qpr,q1,q3,q4,x0,qap,e1,e2,e3,o5]
  simp
 ·intro b hb
  have q1:iLt (l.length:Nat) (l.length:Nat)=false:=by simp
  show qki [.str sep,.fn 83 [],.sl (rOf cS b) (.tok 0),.sl (rOf cI l) .non,.int .i64 (l.length:Nat),.int .i64 (l.length:Nat)] ⟨[],[(b.length,1,9)],[]⟩=_
  rw [qEB]
  simp only [qpr,q1]
  simp
theorem qM6 {l:List Int} (hs:∀ a ∈ l,tyS a) (hn:l.length≤100000) {sep:Txt} (hsep:sep.length≤10):qkV (rOf cI l) sep=true:=by simp only [qwn,qkV,ql4,qxm hs hn hsep]; simp
theorem qMK {l:List Int} (hs:∀ a ∈ l,tyS a) (hn:l.length≤100000) {sep:Txt} (hsep:sep.length≤10):ql4 (rOf cI l) sep=jn tyOk tyT sep l:=by simp only [qwn,qkV,ql4,qxm hs hn hsep]; simp
theorem qNd {l:List Int} (hs:∀ a ∈ l,tyS a) (hn:l.length≤100000) {sep:Txt} (hsep:sep.length≤10):qwn (rOf cI l) sep=l.all tyOk:=by simp only [qwn,qkV,ql4,qxm hs hn hsep]; simp
theorem qqg {d:De} (h:deS d):qr7 d.1 d.2.1 (rOf cI d.2.2)=some (.tup [.str (deT d),.bool (deOk d)]):=by
 have j1:=qM6 (l:=d.2.2) (fun _ _=>trivial) (by have:=h.2; omega) (sep:=[44,32]) (by decide)
 have j2:=qMK (l:=d.2.2) (fun _ _=>trivial) (by have:=h.2; omega) (sep:=[44,32]) (by decide)
 have j3:=qNd (l:=d.2.2) (fun _ _=>trivial) (by have:=h.2; omega) (sep:=[44,32]) (by decide)
 have hj:=qnU (ok:=tyOk) (T:=tyT) (M:=3) [44,32] d.2.2 12 h.2 (fun t _=>qir t)
 have hb:d.1.length≤65536:=Nat.le_trans h.1 (by decide)
 have hn:=h.1
 simp at hj
 unfold qr7 qub deT deOk
 simp only [qap,j1,j2,j3,qos hb,qt7 hb]
 cases d.2.1 with
 | true =>
  have o1:qan [98,97,115,101,32] d.1=true:=qaK (by simp; omega)
  have o2:qan (sApp [98,97,115,101,32] d.1) [40]=true:=qaK (by simp; omega)
  have o3:qan (sApp (sApp [98,97,115,101,32] d.1) [40]) (jn tyOk tyT [44,32] d.2.2)=true:=qaK (by simp; omega)
  have o4:qan (sApp (sApp (sApp [98,97,115,101,32] d.1) [40]) (jn tyOk tyT [44,32] d.2.2)) [41,46]=true:=qaK (by simp; omega)
  simp only [o1,o2,o3,o4]
  cases d.2.2.all tyOk <;> simp
 | false =>
  have o1:qan [118,105,101,119,32] d.1=true:=qaK (by simp; omega)
  have o2:qan (sApp [118,105,101,119,32] d.1) [40]=true:=qaK (by simp; omega)
  have o3:qan (sApp (sApp [118,105,101,119,32] d.1) [40]) (jn tyOk tyT [44,32] d.2.2)=true:=qaK (by simp; omega)
  have o4:qan (sApp (sApp (sApp [118,105,101,119,32] d.1) [40]) (jn tyOk tyT [44,32] d.2.2)) [41,46]=true:=qaK (by simp; omega)
  simp only [o1,o2,o3,o4]
  cases d.2.2.all tyOk <;> simp
theorem qIK {d:De} (h:deS d):qgS d.1 d.2.1 (rOf cI d.2.2)=true:=by simp only [qil,qgS,qim,qqg h]; simp
theorem qHI {d:De} (h:deS d):qim d.1 d.2.1 (rOf cI d.2.2)=deT d:=by simp only [qil,qgS,qim,qqg h]; simp
theorem qIQ {d:De} (h:deS d):qil d.1 d.2.1 (rOf cI d.2.2)=deOk d:=by simp only [qil,qgS,qim,qqg h]; simp
theorem qt5 {p:Pa} (h:paS p):qvS p.1 p.2=some (.tup [.str (paT p),.bool (paOk p)]):=by
 have hb:p.1.length≤65536:=Nat.le_trans h (by decide)
 have hn:p.1.length≤300:=h
 have ht:=qir p.2
 have k1:=qup (t:=p.2) trivial
 have k2:=quB (t:=p.2) trivial
 have k3:=quw (t:=p.2) trivial
 unfold qvS qzn paT paOk
 simp only [k1,k2,k3,qyw hb,qEY hb]
 rw [qaK (by simp; omega),qaK (by simp; omega)]
 cases tyOk p.2 <;> simp
theorem qEp {p:Pa} (h:paS p):qjC p.1 p.2=true:=by simp only [qqv,qjC,qko,qt5 h]; simp
theorem qFL {p:Pa} (h:paS p):qko p.1 p.2=paT p:=by simp only [qqv,qjC,qko,qt5 h]; simp
theorem qEE {p:Pa} (h:paS p):qqv p.1 p.2=paOk p:=by simp only [qqv,qjC,qko,qt5 h]; simp
theorem qua {a:Ac} (h:acS a):qwP a.1 a.2.1 (rOf cM a.2.2)=some (.tup [.str (acT a),.bool (acOk a)]):=by
 have h:atS a.2:=h
 have e1:=qvu h
 have e2:=qvE h
 have e3:=qt8 h
 have l1:=qhh h
 unfold qwP qx6 acT acOk
 simp only [qap,e1,e2,e3]
 rw [qaK (a:=[43]) (by simp; omega),qaK (a:=[45]) (by simp; omega)]
 cases a.1 <;> simp
theorem qEa {a:Ac} (h:acS a):qjo a.1 a.2.1 (rOf cM a.2.2)=true:=by simp only [qpR,qjo,qkf,qua h]; simp
theorem qGF {a:Ac} (h:acS a):qkf a.1 a.2.1 (rOf cM a.2.2)=acT a:=by simp only [qpR,qjo,qkf,qua h]; simp
theorem qFe {a:Ac} (h:acS a):qpR a.1 a.2.1 (rOf cM a.2.2)=acOk a:=by simp only [qpR,qjo,qkf,qua h]; simp
theorem qxj {l:List Pa} (hs:∀ a ∈ l,paS a) (hn:l.length≤100000) {sep:Txt} (hsep:sep.length≤10):qFi (rOf cP l) sep=some (.tup [.str (jn paOk paT sep l),.bool (l.all paOk)]):=by
 have hl:=qcS (l:=l) l.length (Nat.le_refl _) (V:=fun i b=>qkn [.str sep,.fn 85 [],.sl (rOf cS b) (.tok 0),.sl (rOf cP l) .non,.int .i64 (l.length:Nat),.int .i64 (i:Nat)] ⟨[],[(b.length,1,9)],[]⟩) paOk paT (fun b=>some (.exit 0,[.str sep,.sl (rOf cS b) (.tok 0)],⟨[],[(b.length,1,9)],[]⟩)) (fun r=>∃ k:Nat,r=some (.ret,[.str [],.bool false],⟨[],[(k,1,9)],[]⟩)) ?_ ?_ ?_
 ·rw [List.take_length] at hl
  obtain ⟨h1,h2⟩:=hl
  have x0:xLen (rOf cP l)=(l.length:Nat):=by simp
  unfold qFi qEW jn
  rw [x0]
  cases ha:l.all paOk with
  | true =>
   have h':qkg sep [] (rOf cP l) (l.length:Nat) 0 0=_:=h1 ha
   have o:qgX (l.map paT) sep=true:=by
    rw [qcj]
    have:=qgu (M:=304) sep (l.map paT) (fun x hx=>by
     obtain ⟨a,ha,rfl⟩:=List.mem_map.1 hx
     exact qpM (hs a ha))
    have h3:(l.map paT).length * (304+sep.length)≤100000 * (304+10):=Nat.mul_le_mul (by simpa using hn) (by omega)
    exact ⟨by simp; omega,by omega⟩
   simp only [qlU,qcD,qoI,qo5,qou,qpm,qlw,qcZ,h']
   rw [qcj] at o
   simp [o.2]
   omega
  | false =>
   obtain ⟨k,hk⟩:=h2 ha
   have h':qkg sep [] (rOf cP l) (l.length:Nat) 0 0=_:=hk
   simp only [qlU,qcD,qoI,qo5,qou,qpm,qlw,qcZ,h']
   simp
 ·intro i b a hb hi hi2 ha ho
  have hm:paS a:=hs a (ha ▸ List.getElem_mem hi)
  have q1:iLt (i:Int) (l.length:Nat)=true:=by simp; omega
  have q3:qak (i:Int)=true:=by simp
  have q4:qbs [PV.str [],.int .i64 0] (rOf cP l) (nNat (i:Int))=true:=by simp; omega
  have w:=qbj (i:=i) (by omega)
  have e1:=qEp hm
  have e2:=qFL hm
  have e3:=qEE hm
  rw [ho] at e3
  have x0:xStr (rOf cP l) (nNat (i:Int)) 0=a.1:=by simp [hi,ha]
  have x1:xInt (rOf cP l) (nNat (i:Int)) 1=a.2:=by simp [hi,ha]
  have o1:∀ c,qaz (rOf cS b) [c] 16=true:=fun c=>by simp; omega
  have o2:∀ t:Txt,qas [[PV.str t]] 1=true:=fun t=>by simp [one]
  have o3:qao (rOf cS b) 1=true:=qdl _
  have o4:nEq b.length (nXs (rOf cS b))=true:=by simp
  have o5:bNot true=false:=rfl
  show qkn [.str sep,.fn 85 [],.sl (rOf cS b) (.tok 0),.sl (rOf cP l) .non,.int .i64 (l.length:Nat),.int .i64 (i:Nat)] ⟨[],[(b.length,1,9)],[]⟩=qkn [.str sep,.fn 85 [],.sl (rOf cS (b++[paT a])) (.tok 0),.sl (rOf cP l) .non,.int .i64 (l.length:Nat),.int .i64 ((i+1:Nat):Int)] ⟨[],[((b++[paT a]).length,1,9)],[]⟩
  rw [qDh]
  simp only [qpQ,q1,q3,q4,x0,x1,qap,e1,e2,e3,o1,o2,o3,o4,o5,w]
  simp
 ·intro i b a hb hi hi2 ha ho
  have hm:paS a:=hs a (ha ▸ List.getElem_mem hi)
  have q1:iLt (i:Int) (l.length:Nat)=true:=by simp; omega
  have q3:qak (i:Int)=true:=by simp
  have q4:qbs [PV.str [],.int .i64 0] (rOf cP l) (nNat (i:Int))=true:=by simp; omega
  have w:=qbj (i:=i) (by omega)
  have e1:=qEp hm
  have e2:=qFL hm
  have e3:=qEE hm
  rw [ho] at e3
  have x0:xStr (rOf cP l) (nNat (i:Int)) 0=a.1:=by simp [hi,ha]
  have x1:xInt (rOf cP l) (nNat (i:Int)) 1=a.2:=by simp [hi,ha]
  have o5:bNot false=true:=rfl
  show ∃ k:Nat,qkn [.str sep,.fn 85 [],.sl (rOf cS b) (.tok 0),.sl (rOf cP l) .non,.int .i64 (l.length:Nat),.int .i64 (i:Nat)] ⟨[],[(b.length,1,9)],[]⟩=_
  refine ⟨b.length,?_⟩
  rw [qDh]
  simp only [qpQ,q1,q3,q4,x0,x1,qap,e1,e2,e3,o5]
  simp
 ·intro b hb
  have q1:iLt (l.length:Nat) (l.length:Nat)=false:=by simp
  show qkn [.str sep,.fn 85 [],.sl (rOf cS b) (.tok 0),.sl (rOf cP l) .non,.int .i64 (l.length:Nat),.int .i64 (l.length:Nat)] ⟨[],[(b.length,1,9)],[]⟩=_
  rw [qDh]
  simp only [qpQ,q1]
  simp
theorem qME {l:List Pa} (hs:∀ a ∈ l,paS a) (hn:l.length≤100000) {sep:Txt} (hsep:sep.length≤10):qno (rOf cP l) sep=true:=by simp only [qwV,qno,qgF,qxj hs hn hsep]; simp
theorem qLZ {l:List Pa} (hs:∀ a ∈ l,paS a) (hn:l.length≤100000) {sep:Txt} (hsep:sep.length≤10):qgF (rOf cP l) sep=jn paOk paT sep l:=by simp only [qwV,qno,qgF,qxj hs hn hsep]; simp
theorem qL7 {l:List Pa} (hs:∀ a ∈ l,paS a) (hn:l.length≤100000) {sep:Txt} (hsep:sep.length≤10):qwV (rOf cP l) sep=l.all paOk:=by simp only [qwV,qno,qgF,qxj hs hn hsep]; simp
theorem qzk {l:List Ac} (hs:∀ a ∈ l,acS a) (hn:l.length≤100000) {sep:Txt} (hsep:sep.length≤10):qF5 (rOf cAc l) sep=some (.tup [.str (jn acOk acT sep l),.bool (l.all acOk)]):=by
 have hl:=qcS (l:=l) l.length (Nat.le_refl _) (V:=fun i b=>qkm [.str sep,.fn 87 [],.sl (rOf cS b) (.tok 0),.sl (rOf cAc l) .non,.int .i64 (l.length:Nat),.int .i64 (i:Nat)] ⟨[],[(b.length,1,9)],[]⟩) acOk acT (fun b=>some (.exit 0,[.str sep,.sl (rOf cS b) (.tok 0)],⟨[],[(b.length,1,9)],[]⟩)) (fun r=>∃ k:Nat,r=some (.ret,[.str [],.bool false],⟨[],[(k,1,9)],[]⟩)) ?_ ?_ ?_
 ·rw [List.take_length] at hl
  obtain ⟨h1,h2⟩:=hl
  have x0:xLen (rOf cAc l)=(l.length:Nat):=by simp
  unfold qF5 qEL jn
  rw [x0]
  cases ha:l.all acOk with
  | true =>
   have h':qkp sep [] (rOf cAc l) (l.length:Nat) 0 0=_:=h1 ha
   have o:qgX (l.map acT) sep=true:=by
    rw [qcj]
    have:=qgu (M:=14001) sep (l.map acT) (fun x hx=>by
     obtain ⟨a,ha,rfl⟩:=List.mem_map.1 hx
     exact qmF (hs a ha))
    have h3:(l.map acT).length * (14001+sep.length)≤100000 * (14001+10):=Nat.mul_le_mul (by simpa using hn) (by omega)
    exact ⟨by simp; omega,by omega⟩
   simp only [ql0,qcI,qo7,qoK,qoZ,qoc,qlM,qc3,h']
   rw [qcj] at o
   simp [o.2]
   omega
  | false =>
   obtain ⟨k,hk⟩:=h2 ha
   have h':qkp sep [] (rOf cAc l) (l.length:Nat) 0 0=_:=hk
   simp only [ql0,qcI,qo7,qoK,qoZ,qoc,qlM,qc3,h']
   simp
 ·intro i b a hb hi hi2 ha ho
  have hm:acS a:=hs a (ha ▸ List.getElem_mem hi)
  have q1:iLt (i:Int) (l.length:Nat)=true:=by simp; omega
  have q3:qak (i:Int)=true:=by simp
  have q4:qbs [PV.bool false,.str [],.sl [] .full] (rOf cAc l) (nNat (i:Int))=true:=by simp; omega
  have w:=qbj (i:=i) (by omega)
  have e1:=qEa hm
  have e2:=qGF hm
  have e3:=qFe hm
  rw [ho] at e3
  have x0:qf8 (rOf cAc l) (nNat (i:Int)) 0=a.1:=by simp [hi,ha]
  have x1:xStr (rOf cAc l) (nNat (i:Int)) 1=a.2.1:=by simp [hi,ha]
  have x2:xRow (rOf cAc l) (nNat (i:Int)) 2=rOf cM a.2.2:=by simp [hi,ha]
  have o1:∀ c,qaz (rOf cS b) [c] 16=true:=fun c=>by simp; omega
  have o2:∀ t:Txt,qas [[PV.str t]] 1=true:=fun t=>by simp [one]
  have o3:qao (rOf cS b) 1=true:=qdl _
  have o4:nEq b.length (nXs (rOf cS b))=true:=by simp
  have o5:bNot true=false:=rfl
  show qkm [.str sep,.fn 87 [],.sl (rOf cS b) (.tok 0),.sl (rOf cAc l) .non,.int .i64 (l.length:Nat),.int .i64 (i:Nat)] ⟨[],[(b.length,1,9)],[]⟩=qkm [.str sep,.fn 87 [],.sl (rOf cS (b++[acT a])) (.tok 0),.sl (rOf cAc l) .non,.int .i64 (l.length:Nat),.int .i64 ((i+1:Nat):Int)] ⟨[],[((b++[acT a]).length,1,9)],[]⟩
  rw [qEs]
  simp only [qrV,q1,q3,q4,x0,x1,x2,qap,e1,e2,e3,o1,o2,o3,o4,o5,w]
  simp
 ·intro i b a hb hi hi2 ha ho
  have hm:acS a:=hs a (ha ▸ List.getElem_mem hi)
  have q1:iLt (i:Int) (l.length:Nat)=true:=by simp; omega
  have q3:qak (i:Int)=true:=by simp
  have q4:qbs [PV.bool false,.str [],.sl [] .full] (rOf cAc l) (nNat (i:Int))=true:=by simp; omega
  have w:=qbj (i:=i) (by omega)
  have e1:=qEa hm
  have e2:=qGF hm
  have e3:=qFe hm
  rw [ho] at e3
  have x0:qf8 (rOf cAc l) (nNat (i:Int)) 0=a.1:=by simp [hi,ha]
  have x1:xStr (rOf cAc l) (nNat (i:Int)) 1=a.2.1:=by simp [hi,ha]
  have x2:xRow (rOf cAc l) (nNat (i:Int)) 2=rOf cM a.2.2:=by simp [hi,ha]
  have o5:bNot false=true:=rfl
  show ∃ k:Nat,qkm [.str sep,.fn 87 [],.sl (rOf cS b) (.tok 0),.sl (rOf cAc l) .non,.int .i64 (l.length:Nat),.int .i64 (i:Nat)] ⟨[],[(b.length,1,9)],[]⟩=_
  refine ⟨b.length,?_⟩
  rw [qEs]
  simp only [qrV,q1,q3,q4,x0,x1,x2,qap,e1,e2,e3,o5]
  simp
 ·intro b hb
  have q1:iLt (l.length:Nat) (l.length:Nat)=false:=by simp
  show qkm [.str sep,.fn 87 [],.sl (rOf cS b) (.tok 0),.sl (rOf cAc l) .non,.int .i64 (l.length:Nat),.int .i64 (l.length:Nat)] ⟨[],[(b.length,1,9)],[]⟩=_
  rw [qEs]
  simp only [qrV,q1]
  simp
theorem qM1 {l:List Ac} (hs:∀ a ∈ l,acS a) (hn:l.length≤100000) {sep:Txt} (hsep:sep.length≤10):qm7 (rOf cAc l) sep=true:=by simp only [qwE,qm7,qiL,qzk hs hn hsep]; simp
theorem qNn {l:List Ac} (hs:∀ a ∈ l,acS a) (hn:l.length≤100000) {sep:Txt} (hsep:sep.length≤10):qiL (rOf cAc l) sep=jn acOk acT sep l:=by simp only [qwE,qm7,qiL,qzk hs hn hsep]; simp
theorem qMX {l:List Ac} (hs:∀ a ∈ l,acS a) (hn:l.length≤100000) {sep:Txt} (hsep:sep.length≤10):qwE (rOf cAc l) sep=l.all acOk:=by simp only [qwE,qm7,qiL,qzk hs hn hsep]; simp
theorem qxg {o:En} (h:enS o):qCV o.1 (rOf cP o.2.1) (rOf cAc o.2.2)=some (.tup [.str (enT o),.bool (enOk o)]):=by
 have j1:=qME h.2.1.2 (by have:=h.2.1.1; omega) (sep:=[44,32]) (by decide)
 have j2:=qLZ h.2.1.2 (by have:=h.2.1.1; omega) (sep:=[44,32]) (by decide)
 have j3:=qL7 h.2.1.2 (by have:=h.2.1.1; omega) (sep:=[44,32]) (by decide)
 have k1:=qM1 h.2.2.2 (by have:=h.2.2.1; omega) (sep:=[44,32]) (by decide)
 have k2:=qNn h.2.2.2 (by have:=h.2.2.1; omega) (sep:=[44,32]) (by decide)
 have k3:=qMX h.2.2.2 (by have:=h.2.2.1; omega) (sep:=[44,32]) (by decide)
 have hj:=qnU (ok:=paOk) (T:=paT) (M:=304) [44,32] o.2.1 12 h.2.1.1 (fun p hp=>qpM (h.2.1.2 p hp))
 have hk:=qnU (ok:=acOk) (T:=acT) (M:=14001) [44,32] o.2.2 8 h.2.2.1 (fun a ha=>qmF (h.2.2.2 a ha))
 have hb:o.1.length≤65536:=Nat.le_trans h.1 (by decide)
 have hn:=h.1
 simp at hj hk
 unfold qCV qFP enT enOk
 simp only [qap,j1,j2,j3,k1,k2,k3,qos hb,qt7 hb]
 by_cases hc:o.2.2=[]
 ·rw [hc] at hk ⊢
  have t:iLt 0 (xLen (rOf cAc []))=false:=rfl
  have o1:qan [111,110,32] o.1=true:=qaK (by simp; omega)
  have o2:qan (sApp [111,110,32] o.1) [40]=true:=qaK (by simp; omega)
  have o3:qan (sApp (sApp [111,110,32] o.1) [40]) (jn paOk paT [44,32] o.2.1)=true:=qaK (by simp; omega)
  have o4:qan (sApp (sApp (sApp [111,110,32] o.1) [40]) (jn paOk paT [44,32] o.2.1)) [41]=true:=qaK (by simp; omega)
  have o5:qan (sApp (sApp (sApp (sApp [111,110,32] o.1) [40]) (jn paOk paT [44,32] o.2.1)) [41]) (jn acOk acT [44,32] [])=true:=qaK (by simp; omega)
  have o6:qan (sApp (sApp (sApp (sApp (sApp [111,110,32] o.1) [40]) (jn paOk paT [44,32] o.2.1)) [41]) (jn acOk acT [44,32] [])) [46]=true:=qaK (by simp; omega)
  simp only [t,o1,o2,o3,o4,o5,o6]
  cases o.2.1.all paOk <;> simp [jn,qrh]
 ·have t:iLt 0 (xLen (rOf cAc o.2.2))=true:=by simp; exact List.length_pos_iff.2 hc
  have o0:qan [58,32] (jn acOk acT [44,32] o.2.2)=true:=qaK (by simp; omega)
  have o1:qan [111,110,32] o.1=true:=qaK (by simp; omega)
  have o2:qan (sApp [111,110,32] o.1) [40]=true:=qaK (by simp; omega)
  have o3:qan (sApp (sApp [111,110,32] o.1) [40]) (jn paOk paT [44,32] o.2.1)=true:=qaK (by simp; omega)
  have o4:qan (sApp (sApp (sApp [111,110,32] o.1) [40]) (jn paOk paT [44,32] o.2.1)) [41]=true:=qaK (by simp; omega)
  have o5:qan (sApp (sApp (sApp (sApp [111,110,32] o.1) [40]) (jn paOk paT [44,32] o.2.1)) [41]) (sApp [58,32] (jn acOk acT [44,32] o.2.2))=true:=qaK (by simp; omega)
  have o6:qan (sApp (sApp (sApp (sApp (sApp [111,110,32] o.1) [40]) (jn paOk paT [44,32] o.2.1)) [41]) (sApp [58,32] (jn acOk acT [44,32] o.2.2))) [46]=true:=qaK (by simp; omega)
  simp only [t,o0,o1,o2,o3,o4,o5,o6]
  cases o.2.1.all paOk <;> cases o.2.2.all acOk <;> simp [hc]
theorem qL0 {o:En} (h:enS o):qnC o.1 (rOf cP o.2.1) (rOf cAc o.2.2)=true:=by simp only [qtC,qnC,qtr,qxg h]; simp
theorem qL2 {o:En} (h:enS o):qtr o.1 (rOf cP o.2.1) (rOf cAc o.2.2)=enT o:=by simp only [qtC,qnC,qtr,qxg h]; simp
theorem qNa {o:En} (h:enS o):qtC o.1 (rOf cP o.2.1) (rOf cAc o.2.2)=enOk o:=by simp only [qtC,qnC,qtr,qxg h]; simp
def tdS (ok:Bool) (s:Txt):Txt:=if ok then s else []
def tdE (ok:Bool):Int:=if ok then 0 else 140
theorem qp4 (s:Txt) (ok:Bool):qpT s ok=some (.tup [.str (tdS ok s),.int .i64 (tdE ok)]):=by
 unfold qpT quc tdS tdE
 cases ok <;> rfl
theorem qu5 (s:Txt) (ok:Bool):qeU s ok=true:=by simp only [qeU,qhY,qhD,qp4]; simp
theorem quV (s:Txt) (ok:Bool):qhD s ok=tdS ok s:=by simp only [qeU,qhY,qhD,qp4]; simp
theorem qu9 (s:Txt) (ok:Bool):qhY s ok=tdE ok:=by simp only [qeU,qhY,qhD,qp4]; simp
theorem qpx {x:Ru} (h:ruS x):qrU x.1.1 (rOf cM x.1.2) (rOf cL x.2)=some (.tup [.str (tdS (ruOk x) (ruT x)),.int .i64 (tdE (ruOk x))]):=by
 have e1:=qIk h
 have e2:=qHi h
 have e3:=qIB h
 unfold qrU quj
 simp only [qap,e1,e2,e3,qu5,quV,qu9]
 rfl
theorem qA7 {x:Ru} (h:ruS x):qea x.1.1 (rOf cM x.1.2) (rOf cL x.2)=true:=by simp only [qea,qgz,qgA,qpx h]; simp
theorem qAa {x:Ru} (h:ruS x):qgA x.1.1 (rOf cM x.1.2) (rOf cL x.2)=tdS (ruOk x) (ruT x):=by simp only [qea,qgz,qgA,qpx h]; simp
theorem qBa {x:Ru} (h:ruS x):qgz x.1.1 (rOf cM x.1.2) (rOf cL x.2)=tdE (ruOk x):=by simp only [qea,qgz,qgA,qpx h]; simp
theorem qqm {d:De} (h:deS d):qrT d.1 d.2.1 (rOf cI d.2.2)=some (.tup [.str (tdS (deOk d) (deT d)),.int .i64 (tdE (deOk d))]):=by
 have e1:=qIK h
 have e2:=qHI h
 have e3:=qIQ h
 unfold qrT qtW
 simp only [qap,e1,e2,e3,qu5,quV,qu9]
 rfl
theorem qHw {d:De} (h:deS d):qgN d.1 d.2.1 (rOf cI d.2.2)=true:=by simp only [qgN,qli,qlf,qqm h]; simp
theorem qIU {d:De} (h:deS d):qlf d.1 d.2.1 (rOf cI d.2.2)=tdS (deOk d) (deT d):=by simp only [qgN,qli,qlf,qqm h]; simp
theorem qHg {d:De} (h:deS d):qli d.1 d.2.1 (rOf cI d.2.2)=tdE (deOk d):=by simp only [qgN,qli,qlf,qqm h]; simp
theorem qy0 {o:En} (h:enS o):qFZ o.1 (rOf cP o.2.1) (rOf cAc o.2.2)=some (.tup [.str (tdS (enOk o) (enT o)),.int .i64 (tdE (enOk o))]):=by
 have e1:=qL0 h
 have e2:=qL2 h
 have e3:=qNa h
 unfold qFZ qDZ
 simp only [qap,e1,e2,e3,qu5,quV,qu9]
 rfl
theorem qI3 {o:En} (h:enS o):qip o.1 (rOf cP o.2.1) (rOf cAc o.2.2)=true:=by simp only [qip,qse,qsf,qy0 h]; simp
theorem qI7 {o:En} (h:enS o):qsf o.1 (rOf cP o.2.1) (rOf cAc o.2.2)=tdS (enOk o) (enT o):=by simp only [qip,qse,qsf,qy0 h]; simp
theorem qJj {o:En} (h:enS o):qse o.1 (rOf cP o.2.1) (rOf cAc o.2.2)=tdE (enOk o):=by simp only [qip,qse,qsf,qy0 h]; simp
end Go.Pv
set_option linter.unusedSimpArgs false
set_option linter.unusedVariables false
namespace Go.Pv
open Go.RowKit
end Go.Pv
set_option maxHeartbeats 4000000
set_option maxRecDepth 200000
set_option linter.unusedSimpArgs false
set_option linter.unusedVariables false
namespace Go.Pv
open Go Go.Proofs
end Go.Pv
set_option maxHeartbeats 8000000
set_option maxRecDepth 200000
set_option linter.unusedSimpArgs false
set_option linter.unusedVariables false
namespace Go.Pv
open Go Go.Proofs Go.RowKit
end Go.Pv
set_option maxHeartbeats 4000000
set_option maxRecDepth 200000
set_option linter.unusedSimpArgs false
set_option linter.unusedVariables false
namespace Go.Pv
open Go Go.Proofs
end Go.Pv
set_option maxHeartbeats 4000000
set_option maxRecDepth 200000
set_option linter.unusedSimpArgs false
set_option linter.unusedVariables false
namespace Go.Pv
open Go Go.Proofs
noncomputable def qzq:GamT:=ofL [(38,.pure quL)]
theorem qE6 (gl:Gl):qaH Tryz.prog gl (gam qzq):=(qac (qCb gl) qag)
noncomputable def qF1:LpsT:=fun r fr σ=>.fail
noncomputable def qvv (s:List UInt8) (k:Int):Tr PV:=.ite (qjz s) (.ite (iEq (qi0 s) 0) (.ite (iEq (xLen (qfb s)) 1) (.ite (qak 0) (.ite (qbs [.int .i64 0,.str [],.int .i64 0,.int .i64 0,.str [],.int .i64 0] (qfb s) (nNat 0)) (.ite (iEq (xInt (qfb s) (nNat 0) 0) k) (.ite (qak 0) (.ite (qbs [.int .i64 0,.str [],.int .i64 0,.int .i64 0,.str [],.int .i64 0] (qfb s) (nNat 0)) (.ret (.bool (sEq (xStr (qfb s) (nNat 0) 1) s))) .fail) .fail) (.ret (.bool false))) .fail) .fail) (.ret (.bool false))) (.ret (.bool false))) .fail
theorem qKm (s:List UInt8) (k:Int):(tcall tbT qzq qF1 Tryz.f53 [.str s,.int .i64 k]).flat=qvv s k:=by kernel_rfl
noncomputable def qvB (s:List UInt8) (k:Int):Option PV:=(qvv s k).run
noncomputable def qkx (s:List UInt8) (k:Int):Bool:=(qb0 (gVal (qvB s k)))
noncomputable def qgV (s:List UInt8) (k:Int):Bool:=isW (qvB s k) (.bool (qkx s k))
noncomputable def qve:List PV→Tr PV | [.str s,.int .i64 k]=>.ite (qgV s k) (.ret (.bool (qkx s k))) (.fail) | _=>.fail
theorem qwo (gl:Gl):SimP Tryz.prog gl 53 fun args=>(qve args).run:=by
 refine SimP.of_flat (G:=qzq) (L:=qF1) qaj (qE6 gl ) qah Tryz.func53 rfl (by rfl) (by kernel_rfl) (qae (by kernel_rfl)) ?_
 intro args x h
 unfold qve at h
 split at h
 ·exact (congrArg Tr.run (qKm _ _)).trans (qai h fun h=>by cases h)
 ·cases h
noncomputable def qyN:GamT:=ofL [(53,.pure qve)]
theorem qDK (gl:Gl):qaH Tryz.prog gl (gam qyN):=(qac (qwo gl) qag)
noncomputable def qFz:LpsT:=fun r fr σ=>.fail
noncomputable def qu1 (s:List UInt8):Tr PV:=.ite (qgV s 1) (.ite (qkx s 1) (.ite (sNe s [98,97,115,101]) (.ite (sNe s [118,105,101,119]) (.ite (sNe s [111,110]) (.ret (.bool (sNe s [110,111,116]))) (.ret (.bool false))) (.ret (.bool false))) (.ret (.bool false))) (.ret (.bool false))) .fail
theorem qLk (s:List UInt8):(tcall tbT qyN qFz Tryz.f19 [.str s]).flat=qu1 s:=by kernel_rfl
noncomputable def quK (s:List UInt8):Option PV:=(qu1 s).run
noncomputable def qhq (s:List UInt8):Bool:=(qb0 (gVal (quK s)))
noncomputable def qeT (s:List UInt8):Bool:=isW (quK s) (.bool (qhq s))
noncomputable def qrD:List PV→Tr PV | [.str s]=>.ite (qeT s) (.ret (.bool (qhq s))) (.fail) | _=>.fail
theorem qqI (gl:Gl):SimP Tryz.prog gl 19 fun args=>(qrD args).run:=by
 refine SimP.of_flat (G:=qyN) (L:=qFz) qaj (qDK gl ) qah Tryz.func19 rfl (by rfl) (by kernel_rfl) (qae (by kernel_rfl)) ?_
 intro args x h
 unfold qrD at h
 split at h
 ·exact (congrArg Tr.run (qLk _)).trans (qai h fun h=>by cases h)
 ·cases h
noncomputable def qFv:GamT:=ofL [(53,.pure qve)]
theorem qII (gl:Gl):qaH Tryz.prog gl (gam qFv):=(qac (qwo gl) qag)
noncomputable def qJl:LpsT:=fun r fr σ=>.fail
noncomputable def qxJ (s:List UInt8):Tr PV:=.ite (qgV s 2) (.ret (.bool (qkx s 2))) .fail
theorem qM5 (s:List UInt8):(tcall tbT qFv qJl Tryz.f21 [.str s]).flat=qxJ s:=by kernel_rfl
noncomputable def qAJ (s:List UInt8):Option PV:=(qxJ s).run
noncomputable def qrq (s:List UInt8):Bool:=(qb0 (gVal (qAJ s)))
noncomputable def qjn (s:List UInt8):Bool:=isW (qAJ s) (.bool (qrq s))
noncomputable def qAZ:List PV→Tr PV | [.str s]=>.ite (qjn s) (.ret (.bool (qrq s))) (.fail) | _=>.fail
theorem qzT (gl:Gl):SimP Tryz.prog gl 21 fun args=>(qAZ args).run:=by
 refine SimP.of_flat (G:=qFv) (L:=qJl) qaj (qII gl ) qah Tryz.func21 rfl (by rfl) (by kernel_rfl) (qae (by kernel_rfl)) ?_
 intro args x h
 unfold qAZ at h
 split at h
 ·exact (congrArg Tr.run (qM5 _)).trans (qai h fun h=>by cases h)
 ·cases h
noncomputable def qGM:GamT:=ofL []
theorem qG5 (gl:Gl):qaH Tryz.prog gl (gam qGM):=qag
noncomputable def qJr:LpsT:=fun r fr σ=>.fail
noncomputable def qxC (t:Int):Tr PV:=.ite (iEq t 1) (.ret (.str [105,110,116])) (.ite (iEq t 2) (.ret (.str [115,121,109])) (.ret (.str [])))
theorem qMG (t:Int):(tcall tbT qGM qJr Tryz.f56 [.int .i64 t]).flat=qxC t:=by kernel_rfl
noncomputable def qA3 (t:Int):Option PV:=(qxC t).run
noncomputable def qe5 (t:Int):List UInt8:=(gStr (gVal (qA3 t)))
noncomputable def qgm (t:Int):Bool:=isW (qA3 t) (.str (qe5 t))
noncomputable def qzV:List PV→Tr PV | [.int .i64 t]=>.ite (qgm t) (.ret (.str (qe5 t))) (.fail) | _=>.fail
theorem qzH (gl:Gl):SimP Tryz.prog gl 56 fun args=>(qzV args).run:=by
 refine SimP.of_flat (G:=qGM) (L:=qJr) qaj (qG5 gl ) qah Tryz.func56 rfl (by rfl) (by kernel_rfl) (qae (by kernel_rfl)) ?_
 intro args x h
 unfold qzV at h
 split at h
 ·exact (congrArg Tr.run (qMG _)).trans (qai h fun h=>by cases h)
 ·cases h
noncomputable def qr8:GamT:=ofL [(qeS,.hint [(5,0,1,5)])]
theorem qw1 (gl:Gl):qaH Tryz.prog gl (gam qr8):=(qbH (K:=.hint [(5,0,1,5)]) trivial qag)
noncomputable def qoS:Code:=qeX Tryz.f48 3
def qon:LI:=⟨26,[0,1,5,6],fun e=>match e with | .exit 0=>[5] | _=>[],true⟩
noncomputable def qr1:LpsT:=fun r fr σ=>.fail
noncomputable def qj8 (vs:List PV) (σ:Store):Option (PExit × List PV × Store):=lval (lstep tbT qr8 qr1 qoS qon) vs σ
noncomputable def qdV (l:List (List PV)) (between:List UInt8) (b:List (List PV)) (i:Int) (k:Nat):Tr LR:=.ite (iLt i (xLen l)) (.ite (iLt 0 i) (.ite (qaz b (qab between) 1) (.ite (qas (qab between) 1) (.ite (qao b 1) (.ite (xNil (qab between)) (.ite (qak i) (.ite (qbs [.str []] l (nNat i)) (.ite (qaz b (qab (xStr l (nNat i) 0)) 1) (.ite (qas (qab (xStr l (nNat i) 0)) 1) (.ite (qao b 1) (.ite (xNil (qab (xStr l (nNat i) 0))) (.ret (.next [.sl l .non,.str between,.sl b (.tok 0),.int .i64 (iAdd .i64 i 1)] (Store.mk [] [(k,1,5)] []))) (.ite (nEq k (nXs b)) (.ret (.next [.sl l .non,.str between,.sl (xApp b (qab (xStr l (nNat i) 0))) (.tok 0),.int .i64 (iAdd .i64 i 1)] (Store.mk [] [(nXs (xApp b (qab (xStr l (nNat i) 0))),1,5)] []))) .fail)) .fail) .fail) .fail) .fail) .fail) (.ite (nEq k (nXs b)) (.ite (qak i) (.ite (qbs [.str []] l (nNat i)) (.ite (qaz (xApp b (qab between)) (qab (xStr l (nNat i) 0)) 1) (.ite (qas (qab (xStr l (nNat i) 0)) 1) (.ite (qao (xApp b (qab between)) 1) (.ite (xNil (qab (xStr l (nNat i) 0))) (.ret (.next [.sl l .non,.str between,.sl (xApp b (qab between)) (.tok 0),.int .i64 (iAdd .i64 i 1)] (Store.mk [] [(nXs (xApp b (qab between)),1,5)] []))) (.ite (nEq (nXs (xApp b (qab between))) (nXs (xApp b (qab between)))) (.ret (.next [.sl l .non,.str between,.sl (xApp (xApp b (qab between)) (qab (xStr l (nNat i) 0))) (.tok 0),.int .i64 (iAdd .i64 i 1)] (Store.mk [] [(nXs (xApp (xApp b (qab between)) (qab (xStr l (nNat i) 0))),1,5)] []))) .fail)) .fail) .fail) .fail) .fail) .fail) .fail)) .fail) .fail) .fail) (.ite (qak i) (.ite (qbs [.str []] l (nNat i)) (.ite (qaz b (qab (xStr l (nNat i) 0)) 1) (.ite (qas (qab (xStr l (nNat i) 0)) 1) (.ite (qao b 1) (.ite (xNil (qab (xStr l (nNat i) 0)))
 (.ret (.next [.sl l .non,.str between,.sl b (.tok 0),.int .i64 (iAdd .i64 i 1)] (Store.mk [] [(k,1,5)] []))) (.ite (nEq k (nXs b)) (.ret (.next [.sl l .non,.str between,.sl (xApp b (qab (xStr l (nNat i) 0))) (.tok 0),.int .i64 (iAdd .i64 i 1)] (Store.mk [] [(nXs (xApp b (qab (xStr l (nNat i) 0))),1,5)] []))) .fail)) .fail) .fail) .fail) .fail) .fail)) (.ret (.out (.exit 0) [.sl b (.tok 0)] (Store.mk [] [(k,1,5)] [])))
theorem qIt (l:List (List PV)) (between:List UInt8) (b:List (List PV)) (i:Int) (k:Nat):lstep tbT qr8 qr1 qoS qon [.sl l .non,.str between,.sl b (.tok 0),.int .i64 i] ⟨[],[(k,1,5)],[]⟩=qdV l between b i k:=by kernel_rfl
theorem qt9 (l:List (List PV)) (between:List UInt8) (b:List (List PV)) (i:Int) (k:Nat):qj8 [.sl l .non,.str between,.sl b (.tok 0),.int .i64 i] ⟨[],[(k,1,5)],[]⟩=lnext qj8 (qdV l between b i k).run:=by unfold qj8; rw [qbF,qIt]
noncomputable def qol (l:List (List PV)) (between:List UInt8) (b:List (List PV)) (i:Int) (k:Nat):Option (PExit × List PV × Store):=qj8 [.sl l .non,.str between,.sl b (.tok 0),.int .i64 i] ⟨[],[(k,1,5)],[]⟩
noncomputable def qlz (l:List (List PV)) (between:List UInt8) (b:List (List PV)) (i:Int) (k:Nat):List (List PV):=(gRow (gOut (qol l between b i k) 0))
noncomputable def qtw (l:List (List PV)) (between:List UInt8) (b:List (List PV)) (i:Int) (k:Nat):Nat:=(gTok (qol l between b i k) 0)
noncomputable def qng (l:List (List PV)) (between:List UInt8) (b:List (List PV)) (i:Int) (k:Nat):Bool:=isW (qol l between b i k) ((.exit 0),[.sl (qlz l between b i k) (.tok 0)],⟨[],[((qtw l between b i k),1,5)],[]⟩)
noncomputable def qhu:List PV→Store→Tr (PExit × List PV × Store) | [.sl l .non,.str between,.sl b (.tok 0),.int .i64 i],⟨[],[(k,1,5)],[]⟩=>.ite (qng l between b i k) (.ret ((.exit 0),[.sl (qlz l between b i k) (.tok 0)],⟨[],[((qtw l between b i k),1,5)],[]⟩)) (.fail) | _,_=>.fail
theorem qCL:∀ vs σ r,(qhu vs σ).run=some r→qj8 vs σ=some r:=by
 intro vs σ r h
 unfold qhu at h
 split at h
 ·exact qai h fun h=>by cases h
 ·cases h
theorem qyc (gl:Gl):∀ fr σ e fr' σ',(orc qon qhu fr σ).run=some (e,fr',σ')→LDoes Tryz.prog gl qoS fr σ e fr' σ':=qcl qaj (qw1 gl ) qah (L:=qr1) (qae (by kernel_rfl)) (by kernel_rfl) qCL
noncomputable def qyu:LpsT:=fun r fr σ=>bif Nat.beq r 3 then orc qon qhu fr σ else .fail
noncomputable def qtq (l:List (List PV)) (between:List UInt8):Tr PV:=.ite (qng l between [] 0 0) (.ite (qcp (qlz l between [] 0 0)) (.ret (.str (qbX (qlz l between [] 0 0)))) .fail) .fail
theorem qK3 (l:List (List PV)) (between:List UInt8):(tcall tbT qr8 qyu Tryz.f48 [.sl l .non,.str between]).flat=qtq l between:=by kernel_rfl
noncomputable def quQ (l:List (List PV)) (between:List UInt8):Option PV:=(qtq l between).run
noncomputable def qbU (l:List (List PV)) (between:List UInt8):List UInt8:=(gStr (gVal (quQ l between)))
noncomputable def qc1 (l:List (List PV)) (between:List UInt8):Bool:=isW (quQ l between) (.str (qbU l between))
noncomputable def qkA:List PV→Tr PV | [.sl l .non,.str between]=>.ite (qc1 l between) (.ret (.str (qbU l between))) (.fail) | _=>.fail
theorem qiX (gl:Gl):SimP Tryz.prog gl 48 fun args=>(qkA args).run:=by
 refine SimP.of_flat (G:=qr8) (L:=qyu) qaj (qw1 gl ) qah Tryz.func48 rfl (by rfl) (by kernel_rfl) (qaX (L:=lps qyu) [(3,qoS)] (by kernel_rfl) (List.forall_mem_cons.2 ⟨fun fr σ e fr' σ' h=>qyc gl  fr σ e fr' σ' h,(List.forall_mem_nil _)⟩)) ?_
 intro args x h
 unfold qkA at h
 split at h
 ·exact (congrArg Tr.run (qK3 _ _)).trans (qai h fun h=>by cases h)
 ·cases h
noncomputable def qxI:GamT:=ofL [(21,.pure qAZ),(45,.pure F_Is),(46,.pure quJ)]
theorem qDH (gl:Gl):qaH Tryz.prog gl (gam qxI):=(qac (qzT gl) (qac (qJf gl) (qac (qwh gl) qag)))
noncomputable def qEg:LpsT:=fun r fr σ=>.fail
noncomputable def qvs (t:Int) (t2:List UInt8) (t3:Int) (t4:Int) (t5:List UInt8):Tr PV:=.ite (iEq t 1) (.ite (qjn t2) (.ite (qrq t2) (.ite (bAnd (iEq t3 0) (bAnd (iEq t4 0) (bAnd (sEq t5 []) true))) (.ret (.tup [.str t2,.int .i64 0])) (.ite (iEq t 2) (.ite (sEq t2 []) (.ite (isV t3 t4 t5) (.ret (.tup [.str (qe1 t3 t4 t5),.int .i64 0])) (.ite (iEq t 3) (.ite (sEq t2 []) (.ite (bAnd (iEq t3 0) (bAnd (iEq t4 0) (bAnd (sEq t5 []) true))) (.ret (.tup [.str [95],.int .i64 0])) (.ret (.tup [.str [],.int .i64 140]))) (.ret (.tup [.str [],.int .i64 140]))) (.ret (.tup [.str [],.int .i64 140])))) (.ite (iEq t 3) (.ite (sEq t2 []) (.ite (bAnd (iEq t3 0) (bAnd (iEq t4 0) (bAnd (sEq t5 []) true))) (.ret (.tup [.str [95],.int .i64 0])) (.ret (.tup [.str [],.int .i64 140]))) (.ret (.tup [.str [],.int .i64 140]))) (.ret (.tup [.str [],.int .i64 140])))) (.ite (iEq t 3) (.ite (sEq t2 []) (.ite (bAnd (iEq t3 0) (bAnd (iEq t4 0) (bAnd (sEq t5 []) true))) (.ret (.tup [.str [95],.int .i64 0])) (.ret (.tup [.str [],.int .i64 140]))) (.ret (.tup [.str [],.int .i64 140]))) (.ret (.tup [.str [],.int .i64 140]))))) (.ite (iEq t 2) (.ite (sEq t2 []) (.ite (isV t3 t4 t5) (.ret (.tup [.str (qe1 t3 t4 t5),.int .i64 0])) (.ite (iEq t 3) (.ite (sEq t2 []) (.ite (bAnd (iEq t3 0) (bAnd (iEq t4 0) (bAnd (sEq t5 []) true))) (.ret (.tup [.str [95],.int .i64 0])) (.ret (.tup [.str [],.int .i64 140]))) (.ret (.tup [.str [],.int .i64 140]))) (.ret (.tup [.str [],.int .i64 140])))) (.ite (iEq t 3) (.ite (sEq t2 []) (.ite (bAnd (iEq t3 0) (bAnd (iEq t4 0) (bAnd (sEq t5 []) true))) (.ret (.tup [.str [95],.int .i64 0])) (.ret (.tup [.str [],.int .i64 140]))) (.ret (.tup [.str [],.int .i64 140]))) (.ret (.tup [.str [],.int .i64 140])))) (.ite (iEq t 3) (.ite (sEq t2 []) (.ite (bAnd (iEq t3 0) (bAnd (iEq t4 0) (bAnd (sEq t5 []) true))) (.ret (.tup [.str [95],.int .i64 0])) (.ret (.tup [.str [],.int .i64 140]))) (.ret (.tup [.str [],.int .i64 140])))
 (.ret (.tup [.str [],.int .i64 140]))))) .fail) (.ite (iEq t 2) (.ite (sEq t2 []) (.ite (isV t3 t4 t5) (.ret (.tup [.str (qe1 t3 t4 t5),.int .i64 0])) (.ite (iEq t 3) (.ite (sEq t2 []) (.ite (bAnd (iEq t3 0) (bAnd (iEq t4 0) (bAnd (sEq t5 []) true))) (.ret (.tup [.str [95],.int .i64 0])) (.ret (.tup [.str [],.int .i64 140]))) (.ret (.tup [.str [],.int .i64 140]))) (.ret (.tup [.str [],.int .i64 140])))) (.ite (iEq t 3) (.ite (sEq t2 []) (.ite (bAnd (iEq t3 0) (bAnd (iEq t4 0) (bAnd (sEq t5 []) true))) (.ret (.tup [.str [95],.int .i64 0])) (.ret (.tup [.str [],.int .i64 140]))) (.ret (.tup [.str [],.int .i64 140]))) (.ret (.tup [.str [],.int .i64 140])))) (.ite (iEq t 3) (.ite (sEq t2 []) (.ite (bAnd (iEq t3 0) (bAnd (iEq t4 0) (bAnd (sEq t5 []) true))) (.ret (.tup [.str [95],.int .i64 0])) (.ret (.tup [.str [],.int .i64 140]))) (.ret (.tup [.str [],.int .i64 140]))) (.ret (.tup [.str [],.int .i64 140]))))
theorem qKZ (t:Int) (t2:List UInt8) (t3:Int) (t4:Int) (t5:List UInt8):(tcall tbT qxI qEg Tryz.f13 [.agg [.int .i64 t,.str t2,.int .i64 t3,.int .i64 t4,.str t5]]).flat=qvs t t2 t3 t4 t5:=by kernel_rfl
noncomputable def qqR (t:Int) (t2:List UInt8) (t3:Int) (t4:Int) (t5:List UInt8):Option PV:=(qvs t t2 t3 t4 t5).run
noncomputable def qaE (t:Int) (t2:List UInt8) (t3:Int) (t4:Int) (t5:List UInt8):List UInt8:=(gStr (gAt (gCs (gVal (qqR t t2 t3 t4 t5))) 0))
noncomputable def qb2 (t:Int) (t2:List UInt8) (t3:Int) (t4:Int) (t5:List UInt8):Int:=(gInt (gAt (gCs (gVal (qqR t t2 t3 t4 t5))) 1))
noncomputable def qbE (t:Int) (t2:List UInt8) (t3:Int) (t4:Int) (t5:List UInt8):Bool:=isW (qqR t t2 t3 t4 t5) (.tup [.str (qaE t t2 t3 t4 t5),.int .i64 (qb2 t t2 t3 t4 t5)])
noncomputable def qtx:List PV→Tr PV | [.agg [.int .i64 t,.str t2,.int .i64 t3,.int .i64 t4,.str t5]]=>.ite (qbE t t2 t3 t4 t5) (.ret (.tup [.str (qaE t t2 t3 t4 t5),.int .i64 (qb2 t t2 t3 t4 t5)])) (.fail) | _=>.fail
theorem qvZ (gl:Gl):SimP Tryz.prog gl 13 fun args=>(qtx args).run:=by
 refine SimP.of_flat (G:=qxI) (L:=qEg) qaj (qDH gl ) qah Tryz.func13 rfl (by rfl) (by kernel_rfl) (qae (by kernel_rfl)) ?_
 intro args x h
 unfold qtx at h
 split at h
 ·exact (congrArg Tr.run (qKZ _ _ _ _ _)).trans (qai h fun h=>by cases h)
 ·cases h
noncomputable def qpN:GamT:=ofL [(13,.pure qtx),(19,.pure qrD),(48,.pure qkA),(qeS,.hint [(4,0,1,9)])]
theorem qwF (gl:Gl):qaH Tryz.prog gl (gam qpN):=(qac (qvZ gl) (qac (qqI gl) (qac (qiX gl) (qbH (K:=.hint [(4,0,1,9)]) trivial qag))))
noncomputable def qoR:Code:=qeX Tryz.f15 5
def qoF:LI:=⟨42,[1,4,5],fun e=>match e with | .ret=>[2,3] | .exit 0=>[1,4] | _=>[],true⟩
noncomputable def qqs:LpsT:=fun r fr σ=>.fail
noncomputable def qdq (vs:List PV) (σ:Store):Option (PExit × List PV × Store):=lval (lstep tbT qpN qqs qoR qoF) vs σ
noncomputable def qiH (l:List (List PV)) (i:Int) (s:List UInt8) (r:List (List PV)) (k:Nat):Tr LR:=.ite (iLt i (xLen r)) (.ite (qak i) (.ite (qbs [.int .i64 0,.str [],.int .i64 0,.int .i64 0,.str []] r (nNat i)) (.ite (qbE (xInt r (nNat i) 0) (xStr r (nNat i) 1) (xInt r (nNat i) 2) (xInt r (nNat i) 3) (xStr r (nNat i) 4)) (.ite (iNe (qb2 (xInt r (nNat i) 0) (xStr r (nNat i) 1) (xInt r (nNat i) 2) (xInt r (nNat i) 3) (xStr r (nNat i) 4)) 0) (.ret (.out .ret [.str [],.int .i64 (qb2 (xInt r (nNat i) 0) (xStr r (nNat i) 1) (xInt r (nNat i) 2) (xInt r (nNat i) 3) (xStr r (nNat i) 4))] (Store.mk [[.str s,.sl r .non]] [(k,1,9)] [31]))) (.ite (qaz l [[.str (qaE (xInt r (nNat i) 0) (xStr r (nNat i) 1) (xInt r (nNat i) 2) (xInt r (nNat i) 3) (xStr r (nNat i) 4))]] 16) (.ite (qas [[.str (qaE (xInt r (nNat i) 0) (xStr r (nNat i) 1) (xInt r (nNat i) 2) (xInt r (nNat i) 3) (xStr r (nNat i) 4))]] 1) (.ite (qao l 1) (.ite (nEq k (nXs l)) (.ret (.next [.ptr 0 0,.sl (xApp l [[.str (qaE (xInt r (nNat i) 0) (xStr r (nNat i) 1) (xInt r (nNat i) 2) (xInt r (nNat i) 3) (xStr r (nNat i) 4))]]) (.tok 0),.int .i64 (iAdd .i64 i 1)] (Store.mk [[.str s,.sl r .non]] [(nXs (xApp l [[.str (qaE (xInt r (nNat i) 0) (xStr r (nNat i) 1) (xInt r (nNat i) 2) (xInt r (nNat i) 3) (xStr r (nNat i) 4))]]),1,9)] [31]))) .fail) .fail) .fail) .fail)) .fail) .fail) .fail) (.ret (.out (.exit 0) [.ptr 0 0,.sl l (.tok 0)] (Store.mk [[.str s,.sl r .non]] [(k,1,9)] [31])))
theorem qHE (l:List (List PV)) (i:Int) (s:List UInt8) (r:List (List PV)) (k:Nat):lstep tbT qpN qqs qoR qoF [.ptr 0 0,.sl l (.tok 0),.int .i64 i] ⟨[[.str s,.sl r .non]],[(k,1,9)],[31]⟩=qiH l i s r k:=by kernel_rfl
theorem qvh (l:List (List PV)) (i:Int) (s:List UInt8) (r:List (List PV)) (k:Nat):qdq [.ptr 0 0,.sl l (.tok 0),.int .i64 i] ⟨[[.str s,.sl r .non]],[(k,1,9)],[31]⟩=lnext qdq (qiH l i s r k).run:=by unfold qdq; rw [qbF,qHE]
noncomputable def qde (l:List (List PV)) (i:Int) (s:List UInt8) (r:List (List PV)) (k:Nat):Option (PExit × List PV × Store):=qdq [.ptr 0 0,.sl l (.tok 0),.int .i64 i] ⟨[[.str s,.sl r .non]],[(k,1,9)],[31]⟩
noncomputable def qgI (l:List (List PV)) (i:Int) (s:List UInt8) (r:List (List PV)) (k:Nat):List UInt8:=(gStr (gOut (qde l i s r k) 0))
noncomputable def qgO (l:List (List PV)) (i:Int) (s:List UInt8) (r:List (List PV)) (k:Nat):Int:=(gInt (gOut (qde l i s r k) 1))
noncomputable def qhN (l:List (List PV)) (i:Int) (s:List UInt8) (r:List (List PV)) (k:Nat):List UInt8:=(gStr (gAt (gObj (qde l i s r k) 0) 0))
noncomputable def qj5 (l:List (List PV)) (i:Int) (s:List UInt8) (r:List (List PV)) (k:Nat):List (List PV):=(gRow (gAt (gObj (qde l i s r k) 0) 1))
noncomputable def qjG (l:List (List PV)) (i:Int) (s:List UInt8) (r:List (List PV)) (k:Nat):Nat:=(gTok (qde l i s r k) 0)
noncomputable def qj9 (l:List (List PV)) (i:Int) (s:List UInt8) (r:List (List PV)) (k:Nat):Bool:=isW (qde l i s r k) (.ret,[.str (qgI l i s r k),.int .i64 (qgO l i s r k)],⟨[[.str (qhN l i s r k),.sl (qj5 l i s r k) .non]],[((qjG l i s r k),1,9)],[31]⟩)
noncomputable def qdQ (l:List (List PV)) (i:Int) (s:List UInt8) (r:List (List PV)) (k:Nat):List (List PV):=(gRow (gOut (qde l i s r k) 1))
noncomputable def qdP (l:List (List PV)) (i:Int) (s:List UInt8) (r:List (List PV)) (k:Nat):List UInt8:=(gStr (gAt (gObj (qde l i s r k) 0) 0))
noncomputable def qjK (l:List (List PV)) (i:Int) (s:List UInt8) (r:List (List PV)) (k:Nat):List (List PV):=(gRow (gAt (gObj (qde l i s r k) 0) 1))
noncomputable def qj7 (l:List (List PV)) (i:Int) (s:List UInt8) (r:List (List PV)) (k:Nat):Nat:=(gTok (qde l i s r k) 0)
noncomputable def qju (l:List (List PV)) (i:Int) (s:List UInt8) (r:List (List PV)) (k:Nat):Bool:=isW (qde l i s r k) ((.exit 0),[.ptr 0 0,.sl (qdQ l i s r k) (.tok 0)],⟨[[.str (qdP l i s r k),.sl (qjK l i s r k) .non]],[((qj7 l i s r k),1,9)],[31]⟩)
noncomputable def qhT:List PV→Store→Tr (PExit × List PV × Store) | [.ptr 0 0,.sl l (.tok 0),.int .i64 i],⟨[[.str s,.sl r .non]],[(k,1,9)],[31]⟩=>.ite (qj9 l i s r k) (.ret (.ret,[.str (qgI l i s r k),.int .i64 (qgO l i s r k)],⟨[[.str (qhN l i s r k),.sl (qj5 l i s r k) .non]],[((qjG l i s r k),1,9)],[31]⟩)) (.ite (qju l i s r k) (.ret ((.exit 0),[.ptr 0 0,.sl (qdQ l i s r k) (.tok 0)],⟨[[.str (qdP l i s r k),.sl (qjK l i s r k) .non]],[((qj7 l i s r k),1,9)],[31]⟩)) (.fail)) | _,_=>.fail
theorem qGa:∀ vs σ r,(qhT vs σ).run=some r→qdq vs σ=some r:=by
 intro vs σ r h
 unfold qhT at h
 split at h
 ·exact qai h fun h=>qai h fun h=>by cases h
 ·cases h
theorem qyQ (gl:Gl):∀ fr σ e fr' σ',(orc qoF qhT fr σ).run=some (e,fr',σ')→LDoes Tryz.prog gl qoR fr σ e fr' σ':=qcl qaj (qwF gl ) qah (L:=qqs) (qae (by kernel_rfl)) (by kernel_rfl) qGa
noncomputable def qxZ:LpsT:=fun r fr σ=>bif Nat.beq r 5 then orc qoF qhT fr σ else .fail
noncomputable def qvo (a:List UInt8) (a2:List (List PV)):Tr PV:=.ite (qeT a) (.ite (bNot (qhq a)) (.ret (.tup [.str [],.int .i64 140])) (.ite (qj9 [] 0 a a2 0) (.ret (.tup [.str (qgI [] 0 a a2 0),.int .i64 (qgO [] 0 a a2 0)])) (.ite (qju [] 0 a a2 0) (.ite (qan (qdP [] 0 a a2 0) [40]) (.ite (qc1 (qaa (qdQ [] 0 a a2 0)) [44,32]) (.ite (qan (sApp (qdP [] 0 a a2 0) [40]) (qbU (qaa (qdQ [] 0 a a2 0)) [44,32])) (.ite (qan (sApp (sApp (qdP [] 0 a a2 0) [40]) (qbU (qaa (qdQ [] 0 a a2 0)) [44,32])) [41]) (.ret (.tup [.str (sApp (sApp (sApp (qdP [] 0 a a2 0) [40]) (qbU (qaa (qdQ [] 0 a a2 0)) [44,32])) [41]),.int .i64 0])) .fail) .fail) .fail) .fail) .fail))) .fail
theorem qJO (a:List UInt8) (a2:List (List PV)):(tcall tbT qpN qxZ Tryz.f15 [.agg [.str a,.sl a2 .non]]).flat=qvo a a2:=by kernel_rfl
noncomputable def qp7 (a:List UInt8) (a2:List (List PV)):Option PV:=(qvo a a2).run
noncomputable def qbh (a:List UInt8) (a2:List (List PV)):List UInt8:=(gStr (gAt (gCs (gVal (qp7 a a2))) 0))
noncomputable def qcJ (a:List UInt8) (a2:List (List PV)):Int:=(gInt (gAt (gCs (gVal (qp7 a a2))) 1))
noncomputable def qd5 (a:List UInt8) (a2:List (List PV)):Bool:=isW (qp7 a a2) (.tup [.str (qbh a a2),.int .i64 (qcJ a a2)])
noncomputable def qqG:List PV→Tr PV | [.agg [.str a,.sl a2 .non]]=>.ite (qd5 a a2) (.ret (.tup [.str (qbh a a2),.int .i64 (qcJ a a2)])) (.fail) | _=>.fail
theorem qrY (gl:Gl):SimP Tryz.prog gl 15 fun args=>(qqG args).run:=by
 refine SimP.of_flat (G:=qpN) (L:=qxZ) qaj (qwF gl ) qah Tryz.func15 rfl (by rfl) (by kernel_rfl) (qaX (L:=lps qxZ) [(5,qoR)] (by kernel_rfl) (List.forall_mem_cons.2 ⟨fun fr σ e fr' σ' h=>qyQ gl  fr σ e fr' σ' h,(List.forall_mem_nil _)⟩)) ?_
 intro args x h
 unfold qqG at h
 split at h
 ·exact (congrArg Tr.run (qJO _ _)).trans (qai h fun h=>by cases h)
 ·cases h
noncomputable def qlN:GamT:=ofL []
theorem qsK (gl:Gl):qaH Tryz.prog gl (gam qlN):=qag
noncomputable def qlt:Code:=qeX Tryz.f51 4
def ql1:LI:=⟨38,[2,3,5],fun e=>match e with | .ret=>[4] | .exit 0=>[] | _=>[],true⟩
noncomputable def qmM:LpsT:=fun r fr σ=>.fail
noncomputable def qc6 (vs:List PV) (σ:Store):Option (PExit × List PV × Store):=lval (lstep tbT qlN qmM qlt ql1) vs σ
noncomputable def qg0 (i:Int) (s:List UInt8) (r:List (List PV)) (s2:List UInt8) (r2:List (List PV)):Tr LR:=.ite (iLt i (xLen r)) (.ite (qak i) (.ite (qbs [.int .i64 0,.str [],.int .i64 0,.int .i64 0,.str []] r (nNat i)) (.ite (qak i) (.ite (qbs [.int .i64 0,.str [],.int .i64 0,.int .i64 0,.str []] r2 (nNat i)) (.ite (bNot (bAnd (iEq (xInt r (nNat i) 0) (xInt r2 (nNat i) 0)) (bAnd (sEq (xStr r (nNat i) 1) (xStr r2 (nNat i) 1)) (bAnd (bAnd (iEq (xInt r (nNat i) 2) (xInt r2 (nNat i) 2)) (bAnd (iEq (xInt r (nNat i) 3) (xInt r2 (nNat i) 3)) (bAnd (sEq (xStr r (nNat i) 4) (xStr r2 (nNat i) 4)) true))) true)))) (.ret (.out .ret [.bool false] (Store.mk [[.str s,.sl r .non],[.str s2,.sl r2 .non]] [] [31,31]))) (.ret (.next [.ptr 0 0,.ptr 1 0,.int .i64 (iAdd .i64 i 1)] (Store.mk [[.str s,.sl r .non],[.str s2,.sl r2 .non]] [] [31,31])))) .fail) .fail) .fail) .fail) (.ret (.out (.exit 0) [] (Store.mk [[.str s,.sl r .non],[.str s2,.sl r2 .non]] [] [31,31])))
theorem qD7 (i:Int) (s:List UInt8) (r:List (List PV)) (s2:List UInt8) (r2:List (List PV)):lstep tbT qlN qmM qlt ql1 [.ptr 0 0,.ptr 1 0,.int .i64 i] ⟨[[.str s,.sl r .non],[.str s2,.sl r2 .non]],[],[31,31]⟩=qg0 i s r s2 r2:=by kernel_rfl
theorem qrN (i:Int) (s:List UInt8) (r:List (List PV)) (s2:List UInt8) (r2:List (List PV)):qc6 [.ptr 0 0,.ptr 1 0,.int .i64 i] ⟨[[.str s,.sl r .non],[.str s2,.sl r2 .non]],[],[31,31]⟩=lnext qc6 (qg0 i s r s2 r2).run:=by unfold qc6; rw [qbF,qD7]
noncomputable def qcw (i:Int) (s:List UInt8) (r:List (List PV)) (s2:List UInt8) (r2:List (List PV)):Option (PExit × List PV × Store):=qc6 [.ptr 0 0,.ptr 1 0,.int .i64 i] ⟨[[.str s,.sl r .non],[.str s2,.sl r2 .non]],[],[31,31]⟩
noncomputable def qfA (i:Int) (s:List UInt8) (r:List (List PV)) (s2:List UInt8) (r2:List (List PV)):Bool:=(qb0 (gOut (qcw i s r s2 r2) 0))
noncomputable def qhE (i:Int) (s:List UInt8) (r:List (List PV)) (s2:List UInt8) (r2:List (List PV)):List UInt8:=(gStr (gAt (gObj (qcw i s r s2 r2) 0) 0))
noncomputable def qh8 (i:Int) (s:List UInt8) (r:List (List PV)) (s2:List UInt8) (r2:List (List PV)):List (List PV):=(gRow (gAt (gObj (qcw i s r s2 r2) 0) 1))
noncomputable def qgo (i:Int) (s:List UInt8) (r:List (List PV)) (s2:List UInt8) (r2:List (List PV)):List UInt8:=(gStr (gAt (gObj (qcw i s r s2 r2) 1) 0))
noncomputable def qgk (i:Int) (s:List UInt8) (r:List (List PV)) (s2:List UInt8) (r2:List (List PV)):List (List PV):=(gRow (gAt (gObj (qcw i s r s2 r2) 1) 1))
noncomputable def qhn (i:Int) (s:List UInt8) (r:List (List PV)) (s2:List UInt8) (r2:List (List PV)):Bool:=isW (qcw i s r s2 r2) (.ret,[.bool (qfA i s r s2 r2)],⟨[[.str (qhE i s r s2 r2),.sl (qh8 i s r s2 r2) .non],[.str (qgo i s r s2 r2),.sl (qgk i s r s2 r2) .non]],[],[31,31]⟩)
noncomputable def qii (i:Int) (s:List UInt8) (r:List (List PV)) (s2:List UInt8) (r2:List (List PV)):List UInt8:=(gStr (gAt (gObj (qcw i s r s2 r2) 0) 0))
noncomputable def qig (i:Int) (s:List UInt8) (r:List (List PV)) (s2:List UInt8) (r2:List (List PV)):List (List PV):=(gRow (gAt (gObj (qcw i s r s2 r2) 0) 1))
noncomputable def qgp (i:Int) (s:List UInt8) (r:List (List PV)) (s2:List UInt8) (r2:List (List PV)):List UInt8:=(gStr (gAt (gObj (qcw i s r s2 r2) 1) 0))
noncomputable def qgd (i:Int) (s:List UInt8) (r:List (List PV)) (s2:List UInt8) (r2:List (List PV)):List (List PV):=(gRow (gAt (gObj (qcw i s r s2 r2) 1) 1))
noncomputable def qhf (i:Int) (s:List UInt8) (r:List (List PV)) (s2:List UInt8) (r2:List (List PV)):Bool:=isW (qcw i s r s2 r2) ((.exit 0),[],⟨[[.str (qii i s r s2 r2),.sl (qig i s r s2 r2) .non],[.str (qgp i s r s2 r2),.sl (qgd i s r s2 r2) .non]],[],[31,31]⟩)
noncomputable def qgj:List PV→Store→Tr (PExit × List PV × Store) | [.ptr 0 0,.ptr 1 0,.int .i64 i],⟨[[.str s,.sl r .non],[.str s2,.sl r2 .non]],[],[31,31]⟩=>.ite (qhn i s r s2 r2) (.ret (.ret,[.bool (qfA i s r s2 r2)],⟨[[.str (qhE i s r s2 r2),.sl (qh8 i s r s2 r2) .non],[.str (qgo i s r s2 r2),.sl (qgk i s r s2 r2) .non]],[],[31,31]⟩)) (.ite (qhf i s r s2 r2) (.ret ((.exit 0),[],⟨[[.str (qii i s r s2 r2),.sl (qig i s r s2 r2) .non],[.str (qgp i s r s2 r2),.sl (qgd i s r s2 r2) .non]],[],[31,31]⟩)) (.fail)) | _,_=>.fail
theorem qCg:∀ vs σ r,(qgj vs σ).run=some r→qc6 vs σ=some r:=by
 intro vs σ r h
 unfold qgj at h
 split at h
 ·exact qai h fun h=>qai h fun h=>by cases h
 ·cases h
theorem qwa (gl:Gl):∀ fr σ e fr' σ',(orc ql1 qgj fr σ).run=some (e,fr',σ')→LDoes Tryz.prog gl qlt fr σ e fr' σ':=qcl qaj (qsK gl ) qah (L:=qmM) (qae (by kernel_rfl)) (by kernel_rfl) qCg
noncomputable def quM:LpsT:=fun r fr σ=>bif Nat.beq r 4 then orc ql1 qgj fr σ else .fail
noncomputable def qp5 (a:List UInt8) (a2:List (List PV)) (b:List UInt8) (b2:List (List PV)):Tr PV:=.ite (sNe a b) (.ret (.bool false)) (.ite (iNe (xLen a2) (xLen b2)) (.ret (.bool false)) (.ite (qhn 0 a a2 b b2) (.ret (.bool (qfA 0 a a2 b b2))) (.ite (qhf 0 a a2 b b2) (.ret (.bool true)) .fail)))
theorem qIb (a:List UInt8) (a2:List (List PV)) (b:List UInt8) (b2:List (List PV)):(tcall tbT qlN quM Tryz.f51 [.agg [.str a,.sl a2 .non],.agg [.str b,.sl b2 .non]]).flat=qp5 a a2 b b2:=by kernel_rfl
noncomputable def qoL (a:List UInt8) (a2:List (List PV)) (b:List UInt8) (b2:List (List PV)):Option PV:=(qp5 a a2 b b2).run
noncomputable def qdd (a:List UInt8) (a2:List (List PV)) (b:List UInt8) (b2:List (List PV)):Bool:=(qb0 (gVal (qoL a a2 b b2)))
noncomputable def qb3 (a:List UInt8) (a2:List (List PV)) (b:List UInt8) (b2:List (List PV)):Bool:=isW (qoL a a2 b b2) (.bool (qdd a a2 b b2))
noncomputable def qtp:List PV→Tr PV | [.agg [.str a,.sl a2 .non],.agg [.str b,.sl b2 .non]]=>.ite (qb3 a a2 b b2) (.ret (.bool (qdd a a2 b b2))) (.fail) | _=>.fail
theorem qBp (gl:Gl):SimP Tryz.prog gl 51 fun args=>(qtp args).run:=by
 refine SimP.of_flat (G:=qlN) (L:=quM) qaj (qsK gl ) qah Tryz.func51 rfl (by rfl) (by kernel_rfl) (qaX (L:=lps quM) [(4,qlt)] (by kernel_rfl) (List.forall_mem_cons.2 ⟨fun fr σ e fr' σ' h=>qwa gl  fr σ e fr' σ' h,(List.forall_mem_nil _)⟩)) ?_
 intro args x h
 unfold qtp at h
 split at h
 ·exact (congrArg Tr.run (qIb _ _ _ _)).trans (qai h fun h=>by cases h)
 ·cases h
noncomputable def qLH:GamT:=ofL []
theorem qK9 (gl:Gl):qaH Tryz.prog gl (gam qLH):=qag
noncomputable def qMB:LpsT:=fun r fr σ=>.fail
noncomputable def qDY (c:Int):Tr PV:=.ite (iEq c 1) (.ret (.str [61])) (.ite (iEq c 2) (.ret (.str [33,61])) (.ite (iEq c 3) (.ret (.str [60])) (.ite (iEq c 4) (.ret (.str [60,61])) (.ite (iEq c 5) (.ret (.str [62])) (.ite (iEq c 6) (.ret (.str [62,61])) (.ret (.str [])))))))
theorem qNK (c:Int):(tcall tbT qLH qMB Tryz.f50 [.int .i64 c]).flat=qDY c:=by kernel_rfl
noncomputable def qG3 (c:Int):Option PV:=(qDY c).run
noncomputable def qck (c:Int):List UInt8:=(gStr (gVal (qG3 c)))
noncomputable def qcL (c:Int):Bool:=isW (qG3 c) (.str (qck c))
noncomputable def qKH:List PV→Tr PV | [.int .i64 c]=>.ite (qcL c) (.ret (.str (qck c))) (.fail) | _=>.fail
theorem qLp (gl:Gl):SimP Tryz.prog gl 50 fun args=>(qKH args).run:=by
 refine SimP.of_flat (G:=qLH) (L:=qMB) qaj (qK9 gl ) qah Tryz.func50 rfl (by rfl) (by kernel_rfl) (qae (by kernel_rfl)) ?_
 intro args x h
 unfold qKH at h
 split at h
 ·exact (congrArg Tr.run (qNK _)).trans (qai h fun h=>by cases h)
 ·cases h
noncomputable def qny:GamT:=ofL [(13,.pure qtx),(15,.pure qqG),(50,.pure qKH),(51,.pure qtp)]
theorem qv3 (gl:Gl):qaH Tryz.prog gl (gam qny):=(qac (qvZ gl) (qac (qrY gl) (qac (qLp gl) (qac (qBp gl) qag))))
noncomputable def qsG:LpsT:=fun r fr σ=>.fail
noncomputable def qkF (v:Int) (v2:List UInt8) (v3:List (List PV)) (v4:Int) (v5:Int) (v6:List UInt8) (v7:Int) (v8:Int) (v9:List UInt8) (v10:Int) (v11:List UInt8) (v12:Int) (v13:Int) (v14:List UInt8):Tr PV:=.ite (iEq v 1) (.ite (iEq v4 0) (.ite (bAnd (iEq v5 0) (bAnd (sEq v6 []) (bAnd (bAnd (iEq v7 0) (bAnd (iEq v8 0) (bAnd (sEq v9 []) true))) true))) (.ite (bAnd (iEq v10 0) (bAnd (sEq v11 []) (bAnd (bAnd (iEq v12 0) (bAnd (iEq v13 0) (bAnd (sEq v14 []) true))) true))) (.ite (qd5 v2 (qaa v3)) (.ite (iEq (qcJ v2 (qaa v3)) 0) (.ite (iEq v 2) (.ite (qan [110,111,116,32] (qbh v2 (qaa v3))) (.ret (.tup [.str (sApp [110,111,116,32] (qbh v2 (qaa v3))),.int .i64 (qcJ v2 (qaa v3))])) .fail) (.ret (.tup [.str (qbh v2 (qaa v3)),.int .i64 (qcJ v2 (qaa v3))]))) (.ret (.tup [.str (qbh v2 (qaa v3)),.int .i64 (qcJ v2 (qaa v3))]))) .fail) (.ite (iEq v 3) (.ite (qcL v4) (.ite (sNe (qck v4) []) (.ite (qb3 v2 (qaa v3) [] []) (.ite (qdd v2 (qaa v3) [] []) (.ite (qbE v5 v6 v7 v8 v9) (.ite (qbE v10 v11 v12 v13 v14) (.ite (iEq (qb2 v5 v6 v7 v8 v9) 0) (.ite (iEq (qb2 v10 v11 v12 v13 v14) 0) (.ite (qan (qaE v5 v6 v7 v8 v9) [32]) (.ite (qcL v4) (.ite (qan (sApp (qaE v5 v6 v7 v8 v9) [32]) (qck v4)) (.ite (qan (sApp (sApp (qaE v5 v6 v7 v8 v9) [32]) (qck v4)) [32]) (.ite (qan (sApp (sApp (sApp (qaE v5 v6 v7 v8 v9) [32]) (qck v4)) [32]) (qaE v10 v11 v12 v13 v14)) (.ret (.tup [.str (sApp (sApp (sApp (sApp (qaE v5 v6 v7 v8 v9) [32]) (qck v4)) [32]) (qaE v10 v11 v12 v13 v14)),.int .i64 0])) .fail) .fail) .fail) .fail) .fail) (.ret (.tup [.str [],.int .i64 140]))) (.ret (.tup [.str [],.int .i64 140]))) .fail) .fail) (.ret (.tup [.str [],.int .i64 140]))) .fail) (.ret (.tup [.str [],.int .i64 140]))) .fail) (.ret (.tup [.str [],.int .i64 140])))) (.ite (iEq v 3) (.ite (qcL v4) (.ite (sNe (qck v4) [])
 (.ite (qb3 v2 (qaa v3) [] []) (.ite (qdd v2 (qaa v3) [] []) (.ite (qbE v5 v6 v7 v8 v9) (.ite (qbE v10 v11 v12 v13 v14) (.ite (iEq (qb2 v5 v6 v7 v8 v9) 0) (.ite (iEq (qb2 v10 v11 v12 v13 v14) 0) (.ite (qan (qaE v5 v6 v7 v8 v9) [32]) (.ite (qcL v4) (.ite (qan (sApp (qaE v5 v6 v7 v8 v9) [32]) (qck v4)) (.ite (qan (sApp (sApp (qaE v5 v6 v7 v8 v9) [32]) (qck v4)) [32]) (.ite (qan (sApp (sApp (sApp (qaE v5 v6 v7 v8 v9) [32]) (qck v4)) [32]) (qaE v10 v11 v12 v13 v14)) (.ret (.tup [.str (sApp (sApp (sApp (sApp (qaE v5 v6 v7 v8 v9) [32]) (qck v4)) [32]) (qaE v10 v11 v12 v13 v14)),.int .i64 0])) .fail) .fail) .fail) .fail) .fail) (.ret (.tup [.str [],.int .i64 140]))) (.ret (.tup [.str [],.int .i64 140]))) .fail) .fail) (.ret (.tup [.str [],.int .i64 140]))) .fail) (.ret (.tup [.str [],.int .i64 140]))) .fail) (.ret (.tup [.str [],.int .i64 140])))) (.ite (iEq v 3) (.ite (qcL v4) (.ite (sNe (qck v4) []) (.ite (qb3 v2 (qaa v3) [] []) (.ite (qdd v2 (qaa v3) [] []) (.ite (qbE v5 v6 v7 v8 v9) (.ite (qbE v10 v11 v12 v13 v14) (.ite (iEq (qb2 v5 v6 v7 v8 v9) 0) (.ite (iEq (qb2 v10 v11 v12 v13 v14) 0) (.ite (qan (qaE v5 v6 v7 v8 v9) [32]) (.ite (qcL v4) (.ite (qan (sApp (qaE v5 v6 v7 v8 v9) [32]) (qck v4)) (.ite (qan (sApp (sApp (qaE v5 v6 v7 v8 v9) [32]) (qck v4)) [32]) (.ite (qan (sApp (sApp (sApp (qaE v5 v6 v7 v8 v9) [32]) (qck v4)) [32]) (qaE v10 v11 v12 v13 v14)) (.ret (.tup [.str (sApp (sApp (sApp (sApp (qaE v5 v6 v7 v8 v9) [32]) (qck v4)) [32]) (qaE v10 v11 v12 v13 v14)),.int .i64 0])) .fail) .fail) .fail) .fail) .fail) (.ret (.tup [.str [],.int .i64 140]))) (.ret (.tup [.str [],.int .i64 140]))) .fail) .fail) (.ret (.tup [.str [],.int .i64 140]))) .fail) (.ret (.tup [.str [],.int .i64 140]))) .fail) (.ret (.tup [.str [],.int .i64 140])))) (.ite (iEq v 2) (.ite (iEq v4 0)
 (.ite (bAnd (iEq v5 0) (bAnd (sEq v6 []) (bAnd (bAnd (iEq v7 0) (bAnd (iEq v8 0) (bAnd (sEq v9 []) true))) true))) (.ite (bAnd (iEq v10 0) (bAnd (sEq v11 []) (bAnd (bAnd (iEq v12 0) (bAnd (iEq v13 0) (bAnd (sEq v14 []) true))) true))) (.ite (qd5 v2 (qaa v3)) (.ite (iEq (qcJ v2 (qaa v3)) 0) (.ite (iEq v 2) (.ite (qan [110,111,116,32] (qbh v2 (qaa v3))) (.ret (.tup [.str (sApp [110,111,116,32] (qbh v2 (qaa v3))),.int .i64 (qcJ v2 (qaa v3))])) .fail) (.ret (.tup [.str (qbh v2 (qaa v3)),.int .i64 (qcJ v2 (qaa v3))]))) (.ret (.tup [.str (qbh v2 (qaa v3)),.int .i64 (qcJ v2 (qaa v3))]))) .fail) (.ite (iEq v 3) (.ite (qcL v4) (.ite (sNe (qck v4) []) (.ite (qb3 v2 (qaa v3) [] []) (.ite (qdd v2 (qaa v3) [] []) (.ite (qbE v5 v6 v7 v8 v9) (.ite (qbE v10 v11 v12 v13 v14) (.ite (iEq (qb2 v5 v6 v7 v8 v9) 0) (.ite (iEq (qb2 v10 v11 v12 v13 v14) 0) (.ite (qan (qaE v5 v6 v7 v8 v9) [32]) (.ite (qcL v4) (.ite (qan (sApp (qaE v5 v6 v7 v8 v9) [32]) (qck v4)) (.ite (qan (sApp (sApp (qaE v5 v6 v7 v8 v9) [32]) (qck v4)) [32]) (.ite (qan (sApp (sApp (sApp (qaE v5 v6 v7 v8 v9) [32]) (qck v4)) [32]) (qaE v10 v11 v12 v13 v14)) (.ret (.tup [.str (sApp (sApp (sApp (sApp (qaE v5 v6 v7 v8 v9) [32]) (qck v4)) [32]) (qaE v10 v11 v12 v13 v14)),.int .i64 0])) .fail) .fail) .fail) .fail) .fail) (.ret (.tup [.str [],.int .i64 140]))) (.ret (.tup [.str [],.int .i64 140]))) .fail) .fail) (.ret (.tup [.str [],.int .i64 140]))) .fail) (.ret (.tup [.str [],.int .i64 140]))) .fail) (.ret (.tup [.str [],.int .i64 140])))) (.ite (iEq v 3) (.ite (qcL v4) (.ite (sNe (qck v4) []) (.ite (qb3 v2 (qaa v3) [] []) (.ite (qdd v2 (qaa v3) [] []) (.ite (qbE v5 v6 v7 v8 v9) (.ite (qbE v10 v11 v12 v13 v14) (.ite (iEq (qb2 v5 v6 v7 v8 v9) 0) (.ite (iEq (qb2 v10 v11 v12 v13 v14) 0) (.ite (qan (qaE v5 v6 v7 v8 v9) [32])
 (.ite (qcL v4) (.ite (qan (sApp (qaE v5 v6 v7 v8 v9) [32]) (qck v4)) (.ite (qan (sApp (sApp (qaE v5 v6 v7 v8 v9) [32]) (qck v4)) [32]) (.ite (qan (sApp (sApp (sApp (qaE v5 v6 v7 v8 v9) [32]) (qck v4)) [32]) (qaE v10 v11 v12 v13 v14)) (.ret (.tup [.str (sApp (sApp (sApp (sApp (qaE v5 v6 v7 v8 v9) [32]) (qck v4)) [32]) (qaE v10 v11 v12 v13 v14)),.int .i64 0])) .fail) .fail) .fail) .fail) .fail) (.ret (.tup [.str [],.int .i64 140]))) (.ret (.tup [.str [],.int .i64 140]))) .fail) .fail) (.ret (.tup [.str [],.int .i64 140]))) .fail) (.ret (.tup [.str [],.int .i64 140]))) .fail) (.ret (.tup [.str [],.int .i64 140])))) (.ite (iEq v 3) (.ite (qcL v4) (.ite (sNe (qck v4) []) (.ite (qb3 v2 (qaa v3) [] []) (.ite (qdd v2 (qaa v3) [] []) (.ite (qbE v5 v6 v7 v8 v9) (.ite (qbE v10 v11 v12 v13 v14) (.ite (iEq (qb2 v5 v6 v7 v8 v9) 0) (.ite (iEq (qb2 v10 v11 v12 v13 v14) 0) (.ite (qan (qaE v5 v6 v7 v8 v9) [32]) (.ite (qcL v4) (.ite (qan (sApp (qaE v5 v6 v7 v8 v9) [32]) (qck v4)) (.ite (qan (sApp (sApp (qaE v5 v6 v7 v8 v9) [32]) (qck v4)) [32]) (.ite (qan (sApp (sApp (sApp (qaE v5 v6 v7 v8 v9) [32]) (qck v4)) [32]) (qaE v10 v11 v12 v13 v14)) (.ret (.tup [.str (sApp (sApp (sApp (sApp (qaE v5 v6 v7 v8 v9) [32]) (qck v4)) [32]) (qaE v10 v11 v12 v13 v14)),.int .i64 0])) .fail) .fail) .fail) .fail) .fail) (.ret (.tup [.str [],.int .i64 140]))) (.ret (.tup [.str [],.int .i64 140]))) .fail) .fail) (.ret (.tup [.str [],.int .i64 140]))) .fail) (.ret (.tup [.str [],.int .i64 140]))) .fail) (.ret (.tup [.str [],.int .i64 140])))) (.ite (iEq v 3) (.ite (qcL v4) (.ite (sNe (qck v4) []) (.ite (qb3 v2 (qaa v3) [] []) (.ite (qdd v2 (qaa v3) [] []) (.ite (qbE v5 v6 v7 v8 v9) (.ite (qbE v10 v11 v12 v13 v14) (.ite (iEq (qb2 v5 v6 v7 v8 v9) 0) (.ite (iEq (qb2 v10 v11 v12 v13 v14) 0) (.ite (qan (qaE v5 v6 v7 v8 v9) [32])
 (.ite (qcL v4) (.ite (qan (sApp (qaE v5 v6 v7 v8 v9) [32]) (qck v4)) (.ite (qan (sApp (sApp (qaE v5 v6 v7 v8 v9) [32]) (qck v4)) [32]) (.ite (qan (sApp (sApp (sApp (qaE v5 v6 v7 v8 v9) [32]) (qck v4)) [32]) (qaE v10 v11 v12 v13 v14)) (.ret (.tup [.str (sApp (sApp (sApp (sApp (qaE v5 v6 v7 v8 v9) [32]) (qck v4)) [32]) (qaE v10 v11 v12 v13 v14)),.int .i64 0])) .fail) .fail) .fail) .fail) .fail) (.ret (.tup [.str [],.int .i64 140]))) (.ret (.tup [.str [],.int .i64 140]))) .fail) .fail) (.ret (.tup [.str [],.int .i64 140]))) .fail) (.ret (.tup [.str [],.int .i64 140]))) .fail) (.ret (.tup [.str [],.int .i64 140]))))
theorem qCz (v:Int) (v2:List UInt8) (v3:List (List PV)) (v4:Int) (v5:Int) (v6:List UInt8) (v7:Int) (v8:Int) (v9:List UInt8) (v10:Int) (v11:List UInt8) (v12:Int) (v13:Int) (v14:List UInt8):(tcall tbT qny qsG Tryz.f17 [.agg [.int .i64 v,.str v2,.sl v3 .non,.int .i64 v4,.int .i64 v5,.str v6,.int .i64 v7,.int .i64 v8,.str v9,.int .i64 v10,.str v11,.int .i64 v12,.int .i64 v13,.str v14]]).flat=qkF v v2 v3 v4 v5 v6 v7 v8 v9 v10 v11 v12 v13 v14:=by kernel_rfl
noncomputable def qhb (v:Int) (v2:List UInt8) (v3:List (List PV)) (v4:Int) (v5:Int) (v6:List UInt8) (v7:Int) (v8:Int) (v9:List UInt8) (v10:Int) (v11:List UInt8) (v12:Int) (v13:Int) (v14:List UInt8):Option PV:=(qkF v v2 v3 v4 v5 v6 v7 v8 v9 v10 v11 v12 v13 v14).run
noncomputable def qcF (v:Int) (v2:List UInt8) (v3:List (List PV)) (v4:Int) (v5:Int) (v6:List UInt8) (v7:Int) (v8:Int) (v9:List UInt8) (v10:Int) (v11:List UInt8) (v12:Int) (v13:Int) (v14:List UInt8):List UInt8:=(gStr (gAt (gCs (gVal (qhb v v2 v3 v4 v5 v6 v7 v8 v9 v10 v11 v12 v13 v14))) 0))
noncomputable def qdL (v:Int) (v2:List UInt8) (v3:List (List PV)) (v4:Int) (v5:Int) (v6:List UInt8) (v7:Int) (v8:Int) (v9:List UInt8) (v10:Int) (v11:List UInt8) (v12:Int) (v13:Int) (v14:List UInt8):Int:=(gInt (gAt (gCs (gVal (qhb v v2 v3 v4 v5 v6 v7 v8 v9 v10 v11 v12 v13 v14))) 1))
noncomputable def qdN (v:Int) (v2:List UInt8) (v3:List (List PV)) (v4:Int) (v5:Int) (v6:List UInt8) (v7:Int) (v8:Int) (v9:List UInt8) (v10:Int) (v11:List UInt8) (v12:Int) (v13:Int) (v14:List UInt8):Bool:=isW (qhb v v2 v3 v4 v5 v6 v7 v8 v9 v10 v11 v12 v13 v14) (.tup [.str (qcF v v2 v3 v4 v5 v6 v7 v8 v9 v10 v11 v12 v13 v14),.int .i64 (qdL v v2 v3 v4 v5 v6 v7 v8 v9 v10 v11 v12 v13 v14)])
noncomputable def qmR:List PV→Tr PV | [.agg [.int .i64 v,.str v2,.sl v3 .non,.int .i64 v4,.int .i64 v5,.str v6,.int .i64 v7,.int .i64 v8,.str v9,.int .i64 v10,.str v11,.int .i64 v12,.int .i64 v13,.str v14]]=>.ite (qdN v v2 v3 v4 v5 v6 v7 v8 v9 v10 v11 v12 v13 v14) (.ret (.tup [.str (qcF v v2 v3 v4 v5 v6 v7 v8 v9 v10 v11 v12 v13 v14),.int .i64 (qdL v v2 v3 v4 v5 v6 v7 v8 v9 v10 v11 v12 v13 v14)])) (.fail) | _=>.fail
theorem qvU (gl:Gl):SimP Tryz.prog gl 17 fun args=>(qmR args).run:=by
 refine SimP.of_flat (G:=qny) (L:=qsG) qaj (qv3 gl ) qah Tryz.func17 rfl (by rfl) (by kernel_rfl) (qae (by kernel_rfl)) ?_
 intro args x h
 unfold qmR at h
 split at h
 ·exact (congrArg Tr.run (qCz _ _ _ _ _ _ _ _ _ _ _ _ _ _)).trans (qai h fun h=>by cases h)
 ·cases h
noncomputable def qpJ:GamT:=ofL [(15,.pure qqG),(17,.pure qmR),(48,.pure qkA),(qeS,.hint [(6,0,1,9)])]
theorem qv8 (gl:Gl):qaH Tryz.prog gl (gam qpJ):=(qac (qrY gl) (qac (qvU gl) (qac (qiX gl) (qbH (K:=.hint [(6,0,1,9)]) trivial qag))))
noncomputable def qoz:Code:=qeX Tryz.f27 6
def qox:LI:=⟨52,[1,4,6,7],fun e=>match e with | .ret=>[2,3] | .exit 0=>[4,6] | _=>[],true⟩
noncomputable def qqO:LpsT:=fun r fr σ=>.fail
noncomputable def qds (vs:List PV) (σ:Store):Option (PExit × List PV × Store):=lval (lstep tbT qpJ qqO qoz qox) vs σ
noncomputable def qi7 (s:List UInt8) (l:List (List PV)) (i:Int) (s2:List UInt8) (r:List (List PV)) (r2:List (List PV)) (k:Nat):Tr LR:=.ite (iLt i (xLen r2)) (.ite (qak i) (.ite (qbs [.int .i64 0,.str [],.sl [] .full,.int .i64 0,.int .i64 0,.str [],.int .i64 0,.int .i64 0,.str [],.int .i64 0,.str [],.int .i64 0,.int .i64 0,.str []] r2 (nNat i)) (.ite (qdN (xInt r2 (nNat i) 0) (xStr r2 (nNat i) 1) (qaa (xRow r2 (nNat i) 2)) (xInt r2 (nNat i) 3) (xInt r2 (nNat i) 4) (xStr r2 (nNat i) 5) (xInt r2 (nNat i) 6) (xInt r2 (nNat i) 7) (xStr r2 (nNat i) 8) (xInt r2 (nNat i) 9) (xStr r2 (nNat i) 10) (xInt r2 (nNat i) 11) (xInt r2 (nNat i) 12) (xStr r2 (nNat i) 13)) (.ite (iNe (qdL (xInt r2 (nNat i) 0) (xStr r2 (nNat i) 1) (qaa (xRow r2 (nNat i) 2)) (xInt r2 (nNat i) 3) (xInt r2 (nNat i) 4) (xStr r2 (nNat i) 5) (xInt r2 (nNat i) 6) (xInt r2 (nNat i) 7) (xStr r2 (nNat i) 8) (xInt r2 (nNat i) 9) (xStr r2 (nNat i) 10) (xInt r2 (nNat i) 11) (xInt r2 (nNat i) 12) (xStr r2 (nNat i) 13)) 0) (.ret (.out .ret [.str [],.int .i64 (qdL (xInt r2 (nNat i) 0) (xStr r2 (nNat i) 1) (qaa (xRow r2 (nNat i) 2)) (xInt r2 (nNat i) 3) (xInt r2 (nNat i) 4) (xStr r2 (nNat i) 5) (xInt r2 (nNat i) 6) (xInt r2 (nNat i) 7) (xStr r2 (nNat i) 8) (xInt r2 (nNat i) 9) (xStr r2 (nNat i) 10) (xInt r2 (nNat i) 11) (xInt r2 (nNat i) 12) (xStr r2 (nNat i) 13))] (Store.mk [[.str s2,.sl r .non,.sl r2 .non]] [(k,1,9)] [48]))) (.ite (qaz l [[.str (qcF (xInt r2 (nNat i) 0) (xStr r2 (nNat i) 1) (qaa (xRow r2 (nNat i) 2)) (xInt r2 (nNat i) 3) (xInt r2 (nNat i) 4) (xStr r2 (nNat i) 5) (xInt r2 (nNat i) 6) (xInt r2 (nNat i) 7) (xStr r2 (nNat i) 8) (xInt r2 (nNat i) 9) (xStr r2 (nNat i) 10) (xInt r2 (nNat i) 11) (xInt r2 (nNat i) 12) (xStr r2 (nNat i) 13))]] 16) (.ite (qas [[.str (qcF (xInt r2 (nNat i) 0) (xStr r2 (nNat i) 1) (qaa (xRow r2 (nNat i) 2)) (xInt r2 (nNat i) 3) (xInt r2 (nNat i) 4) (xStr r2 (nNat i) 5)
 (xInt r2 (nNat i) 6) (xInt r2 (nNat i) 7) (xStr r2 (nNat i) 8) (xInt r2 (nNat i) 9) (xStr r2 (nNat i) 10) (xInt r2 (nNat i) 11) (xInt r2 (nNat i) 12) (xStr r2 (nNat i) 13))]] 1) (.ite (qao l 1) (.ite (nEq k (nXs l)) (.ret (.next [.ptr 0 0,.str s,.sl (xApp l [[.str (qcF (xInt r2 (nNat i) 0) (xStr r2 (nNat i) 1) (qaa (xRow r2 (nNat i) 2)) (xInt r2 (nNat i) 3) (xInt r2 (nNat i) 4) (xStr r2 (nNat i) 5) (xInt r2 (nNat i) 6) (xInt r2 (nNat i) 7) (xStr r2 (nNat i) 8) (xInt r2 (nNat i) 9) (xStr r2 (nNat i) 10) (xInt r2 (nNat i) 11) (xInt r2 (nNat i) 12) (xStr r2 (nNat i) 13))]]) (.tok 0),.int .i64 (iAdd .i64 i 1)] (Store.mk [[.str s2,.sl r .non,.sl r2 .non]] [(nXs (xApp l [[.str (qcF (xInt r2 (nNat i) 0) (xStr r2 (nNat i) 1) (qaa (xRow r2 (nNat i) 2)) (xInt r2 (nNat i) 3) (xInt r2 (nNat i) 4) (xStr r2 (nNat i) 5) (xInt r2 (nNat i) 6) (xInt r2 (nNat i) 7) (xStr r2 (nNat i) 8) (xInt r2 (nNat i) 9) (xStr r2 (nNat i) 10) (xInt r2 (nNat i) 11) (xInt r2 (nNat i) 12) (xStr r2 (nNat i) 13))]]),1,9)] [48]))) .fail) .fail) .fail) .fail)) .fail) .fail) .fail) (.ret (.out (.exit 0) [.str s,.sl l (.tok 0)] (Store.mk [[.str s2,.sl r .non,.sl r2 .non]] [(k,1,9)] [48])))
theorem qHa (s:List UInt8) (l:List (List PV)) (i:Int) (s2:List UInt8) (r:List (List PV)) (r2:List (List PV)) (k:Nat):lstep tbT qpJ qqO qoz qox [.ptr 0 0,.str s,.sl l (.tok 0),.int .i64 i] ⟨[[.str s2,.sl r .non,.sl r2 .non]],[(k,1,9)],[48]⟩=qi7 s l i s2 r r2 k:=by kernel_rfl
theorem qtB (s:List UInt8) (l:List (List PV)) (i:Int) (s2:List UInt8) (r:List (List PV)) (r2:List (List PV)) (k:Nat):qds [.ptr 0 0,.str s,.sl l (.tok 0),.int .i64 i] ⟨[[.str s2,.sl r .non,.sl r2 .non]],[(k,1,9)],[48]⟩=lnext qds (qi7 s l i s2 r r2 k).run:=by unfold qds; rw [qbF,qHa]
noncomputable def qcd (s:List UInt8) (l:List (List PV)) (i:Int) (s2:List UInt8) (r:List (List PV)) (r2:List (List PV)) (k:Nat):Option (PExit × List PV × Store):=qds [.ptr 0 0,.str s,.sl l (.tok 0),.int .i64 i] ⟨[[.str s2,.sl r .non,.sl r2 .non]],[(k,1,9)],[48]⟩
noncomputable def qgD (s:List UInt8) (l:List (List PV)) (i:Int) (s2:List UInt8) (r:List (List PV)) (r2:List (List PV)) (k:Nat):List UInt8:=(gStr (gOut (qcd s l i s2 r r2 k) 0))
noncomputable def qgH (s:List UInt8) (l:List (List PV)) (i:Int) (s2:List UInt8) (r:List (List PV)) (r2:List (List PV)) (k:Nat):Int:=(gInt (gOut (qcd s l i s2 r r2 k) 1))
noncomputable def qhM (s:List UInt8) (l:List (List PV)) (i:Int) (s2:List UInt8) (r:List (List PV)) (r2:List (List PV)) (k:Nat):List UInt8:=(gStr (gAt (gObj (qcd s l i s2 r r2 k) 0) 0))
noncomputable def qjO (s:List UInt8) (l:List (List PV)) (i:Int) (s2:List UInt8) (r:List (List PV)) (r2:List (List PV)) (k:Nat):List (List PV):=(gRow (gAt (gObj (qcd s l i s2 r r2 k) 0) 1))
noncomputable def qih (s:List UInt8) (l:List (List PV)) (i:Int) (s2:List UInt8) (r:List (List PV)) (r2:List (List PV)) (k:Nat):List (List PV):=(gRow (gAt (gObj (qcd s l i s2 r r2 k) 0) 2))
noncomputable def qjk (s:List UInt8) (l:List (List PV)) (i:Int) (s2:List UInt8) (r:List (List PV)) (r2:List (List PV)) (k:Nat):Nat:=(gTok (qcd s l i s2 r r2 k) 0)
noncomputable def qjY (s:List UInt8) (l:List (List PV)) (i:Int) (s2:List UInt8) (r:List (List PV)) (r2:List (List PV)) (k:Nat):Bool:=isW (qcd s l i s2 r r2 k) (.ret,[.str (qgD s l i s2 r r2 k),.int .i64 (qgH s l i s2 r r2 k)],⟨[[.str (qhM s l i s2 r r2 k),.sl (qjO s l i s2 r r2 k) .non,.sl (qih s l i s2 r r2 k) .non]],[((qjk s l i s2 r r2 k),1,9)],[48]⟩)
noncomputable def qcB (s:List UInt8) (l:List (List PV)) (i:Int) (s2:List UInt8) (r:List (List PV)) (r2:List (List PV)) (k:Nat):List UInt8:=(gStr (gOut (qcd s l i s2 r r2 k) 0))
noncomputable def qdi (s:List UInt8) (l:List (List PV)) (i:Int) (s2:List UInt8) (r:List (List PV)) (r2:List (List PV)) (k:Nat):List (List PV):=(gRow (gOut (qcd s l i s2 r r2 k) 1))
noncomputable def qhH (s:List UInt8) (l:List (List PV)) (i:Int) (s2:List UInt8) (r:List (List PV)) (r2:List (List PV)) (k:Nat):List UInt8:=(gStr (gAt (gObj (qcd s l i s2 r r2 k) 0) 0))
noncomputable def qja (s:List UInt8) (l:List (List PV)) (i:Int) (s2:List UInt8) (r:List (List PV)) (r2:List (List PV)) (k:Nat):List (List PV):=(gRow (gAt (gObj (qcd s l i s2 r r2 k) 0) 1))
noncomputable def qiq (s:List UInt8) (l:List (List PV)) (i:Int) (s2:List UInt8) (r:List (List PV)) (r2:List (List PV)) (k:Nat):List (List PV):=(gRow (gAt (gObj (qcd s l i s2 r r2 k) 0) 2))
noncomputable def qj2 (s:List UInt8) (l:List (List PV)) (i:Int) (s2:List UInt8) (r:List (List PV)) (r2:List (List PV)) (k:Nat):Nat:=(gTok (qcd s l i s2 r r2 k) 0)
noncomputable def qjF (s:List UInt8) (l:List (List PV)) (i:Int) (s2:List UInt8) (r:List (List PV)) (r2:List (List PV)) (k:Nat):Bool:=isW (qcd s l i s2 r r2 k) ((.exit 0),[.str (qcB s l i s2 r r2 k),.sl (qdi s l i s2 r r2 k) (.tok 0)],⟨[[.str (qhH s l i s2 r r2 k),.sl (qja s l i s2 r r2 k) .non,.sl (qiq s l i s2 r r2 k) .non]],[((qj2 s l i s2 r r2 k),1,9)],[48]⟩)
noncomputable def qhw:List PV→Store→Tr (PExit × List PV × Store) | [.ptr 0 0,.str s,.sl l (.tok 0),.int .i64 i],⟨[[.str s2,.sl r .non,.sl r2 .non]],[(k,1,9)],[48]⟩=>.ite (qjY s l i s2 r r2 k) (.ret (.ret,[.str (qgD s l i s2 r r2 k),.int .i64 (qgH s l i s2 r r2 k)],⟨[[.str (qhM s l i s2 r r2 k),.sl (qjO s l i s2 r r2 k) .non,.sl (qih s l i s2 r r2 k) .non]],[((qjk s l i s2 r r2 k),1,9)],[48]⟩)) (.ite (qjF s l i s2 r r2 k) (.ret ((.exit 0),[.str (qcB s l i s2 r r2 k),.sl (qdi s l i s2 r r2 k) (.tok 0)],⟨[[.str (qhH s l i s2 r r2 k),.sl (qja s l i s2 r r2 k) .non,.sl (qiq s l i s2 r r2 k) .non]],[((qj2 s l i s2 r r2 k),1,9)],[48]⟩)) (.fail)) | _,_=>.fail
theorem qFy:∀ vs σ r,(qhw vs σ).run=some r→qds vs σ=some r:=by
 intro vs σ r h
 unfold qhw at h
 split at h
 ·exact qai h fun h=>qai h fun h=>by cases h
 ·cases h
theorem qxY (gl:Gl):∀ fr σ e fr' σ',(orc qox qhw fr σ).run=some (e,fr',σ')→LDoes Tryz.prog gl qoz fr σ e fr' σ':=qcl qaj (qv8 gl ) qah (L:=qqO) (qae (by kernel_rfl)) (by kernel_rfl) qFy
noncomputable def qxW:LpsT:=fun r fr σ=>bif Nat.beq r 6 then orc qox qhw fr σ else .fail
noncomputable def qvd (r_:List UInt8) (r_2:List (List PV)) (r_3:List (List PV)):Tr PV:=.ite (qd5 r_ (qaa r_2)) (.ite (iNe (qcJ r_ (qaa r_2)) 0) (.ret (.tup [.str [],.int .i64 (qcJ r_ (qaa r_2))])) (.ite (qjY (qbh r_ (qaa r_2)) [] 0 r_ r_2 r_3 0) (.ret (.tup [.str (qgD (qbh r_ (qaa r_2)) [] 0 r_ r_2 r_3 0),.int .i64 (qgH (qbh r_ (qaa r_2)) [] 0 r_ r_2 r_3 0)])) (.ite (qjF (qbh r_ (qaa r_2)) [] 0 r_ r_2 r_3 0) (.ite (iLt 0 (xLen (qdi (qbh r_ (qaa r_2)) [] 0 r_ r_2 r_3 0))) (.ite (qan (qcB (qbh r_ (qaa r_2)) [] 0 r_ r_2 r_3 0) [32,58,45,32]) (.ite (qc1 (qaa (qdi (qbh r_ (qaa r_2)) [] 0 r_ r_2 r_3 0)) [44,32]) (.ite (qan (sApp (qcB (qbh r_ (qaa r_2)) [] 0 r_ r_2 r_3 0) [32,58,45,32]) (qbU (qaa (qdi (qbh r_ (qaa r_2)) [] 0 r_ r_2 r_3 0)) [44,32])) (.ite (qan (sApp (sApp (qcB (qbh r_ (qaa r_2)) [] 0 r_ r_2 r_3 0) [32,58,45,32]) (qbU (qaa (qdi (qbh r_ (qaa r_2)) [] 0 r_ r_2 r_3 0)) [44,32])) [46]) (.ret (.tup [.str (sApp (sApp (sApp (qcB (qbh r_ (qaa r_2)) [] 0 r_ r_2 r_3 0) [32,58,45,32]) (qbU (qaa (qdi (qbh r_ (qaa r_2)) [] 0 r_ r_2 r_3 0)) [44,32])) [46]),.int .i64 0])) .fail) .fail) .fail) .fail) (.ite (qan (qcB (qbh r_ (qaa r_2)) [] 0 r_ r_2 r_3 0) [46]) (.ret (.tup [.str (sApp (qcB (qbh r_ (qaa r_2)) [] 0 r_ r_2 r_3 0) [46]),.int .i64 0])) .fail)) .fail))) .fail
theorem qLz (r_:List UInt8) (r_2:List (List PV)) (r_3:List (List PV)):(tcall tbT qpJ qxW Tryz.f27 [.agg [.str r_,.sl r_2 .non,.sl r_3 .non]]).flat=qvd r_ r_2 r_3:=by kernel_rfl
noncomputable def qqL (r_:List UInt8) (r_2:List (List PV)) (r_3:List (List PV)):Option PV:=(qvd r_ r_2 r_3).run
noncomputable def qkI (r_:List UInt8) (r_2:List (List PV)) (r_3:List (List PV)):List UInt8:=(gStr (gAt (gCs (gVal (qqL r_ r_2 r_3))) 0))
noncomputable def qkQ (r_:List UInt8) (r_2:List (List PV)) (r_3:List (List PV)):Int:=(gInt (gAt (gCs (gVal (qqL r_ r_2 r_3))) 1))
noncomputable def qg6 (r_:List UInt8) (r_2:List (List PV)) (r_3:List (List PV)):Bool:=isW (qqL r_ r_2 r_3) (.tup [.str (qkI r_ r_2 r_3),.int .i64 (qkQ r_ r_2 r_3)])
noncomputable def qzr:List PV→Tr PV | [.agg [.str r_,.sl r_2 .non,.sl r_3 .non]]=>.ite (qg6 r_ r_2 r_3) (.ret (.tup [.str (qkI r_ r_2 r_3),.int .i64 (qkQ r_ r_2 r_3)])) (.fail) | _=>.fail
theorem qCN (gl:Gl):SimP Tryz.prog gl 27 fun args=>(qzr args).run:=by
 refine SimP.of_flat (G:=qpJ) (L:=qxW) qaj (qv8 gl ) qah Tryz.func27 rfl (by rfl) (by kernel_rfl) (qaX (L:=lps qxW) [(6,qoz)] (by kernel_rfl) (List.forall_mem_cons.2 ⟨fun fr σ e fr' σ' h=>qxY gl  fr σ e fr' σ' h,(List.forall_mem_nil _)⟩)) ?_
 intro args x h
 unfold qzr at h
 split at h
 ·exact (congrArg Tr.run (qLz _ _ _)).trans (qai h fun h=>by cases h)
 ·cases h
noncomputable def qpO:GamT:=ofL [(19,.pure qrD),(48,.pure qkA),(56,.pure qzV),(qeS,.hint [(5,0,1,9)])]
theorem qvX (gl:Gl):qaH Tryz.prog gl (gam qpO):=(qac (qqI gl) (qac (qiX gl) (qac (qzH gl) (qbH (K:=.hint [(5,0,1,9)]) trivial qag))))
noncomputable def qoX:Code:=qeX Tryz.f29 8
def qoH:LI:=⟨45,[1,4,5,6],fun e=>match e with | .ret=>[2,3] | .exit 0=>[1,4,5] | _=>[],true⟩
noncomputable def qqH:LpsT:=fun r fr σ=>.fail
noncomputable def qdv (vs:List PV) (σ:Store):Option (PExit × List PV × Store):=lval (lstep tbT qpO qqH qoX qoH) vs σ
noncomputable def qiR (s:List UInt8) (l:List (List PV)) (i:Int) (s2:List UInt8) (b:Bool) (r:List (List PV)) (k:Nat):Tr LR:=.ite (iLt i (xLen r)) (.ite (qak i) (.ite (qbs [.int .i64 0] r (nNat i)) (.ite (qgm (xInt r (nNat i) 0)) (.ite (sEq (qe5 (xInt r (nNat i) 0)) []) (.ret (.out .ret [.str [],.int .i64 140] (Store.mk [[.str s2,.bool b,.sl r .non]] [(k,1,9)] [51]))) (.ite (qak i) (.ite (qbs [.int .i64 0] r (nNat i)) (.ite (qgm (xInt r (nNat i) 0)) (.ite (qaz l [[.str (qe5 (xInt r (nNat i) 0))]] 16) (.ite (qas [[.str (qe5 (xInt r (nNat i) 0))]] 1) (.ite (qao l 1) (.ite (nEq k (nXs l)) (.ret (.next [.ptr 0 0,.str s,.sl (xApp l [[.str (qe5 (xInt r (nNat i) 0))]]) (.tok 0),.int .i64 (iAdd .i64 i 1)] (Store.mk [[.str s2,.bool b,.sl r .non]] [(nXs (xApp l [[.str (qe5 (xInt r (nNat i) 0))]]),1,9)] [51]))) .fail) .fail) .fail) .fail) .fail) .fail) .fail)) .fail) .fail) .fail) (.ret (.out (.exit 0) [.ptr 0 0,.str s,.sl l (.tok 0)] (Store.mk [[.str s2,.bool b,.sl r .non]] [(k,1,9)] [51])))
theorem qId (s:List UInt8) (l:List (List PV)) (i:Int) (s2:List UInt8) (b:Bool) (r:List (List PV)) (k:Nat):lstep tbT qpO qqH qoX qoH [.ptr 0 0,.str s,.sl l (.tok 0),.int .i64 i] ⟨[[.str s2,.bool b,.sl r .non]],[(k,1,9)],[51]⟩=qiR s l i s2 b r k:=by kernel_rfl
theorem qu8 (s:List UInt8) (l:List (List PV)) (i:Int) (s2:List UInt8) (b:Bool) (r:List (List PV)) (k:Nat):qdv [.ptr 0 0,.str s,.sl l (.tok 0),.int .i64 i] ⟨[[.str s2,.bool b,.sl r .non]],[(k,1,9)],[51]⟩=lnext qdv (qiR s l i s2 b r k).run:=by unfold qdv; rw [qbF,qId]
noncomputable def qb1 (s:List UInt8) (l:List (List PV)) (i:Int) (s2:List UInt8) (b:Bool) (r:List (List PV)) (k:Nat):Option (PExit × List PV × Store):=qdv [.ptr 0 0,.str s,.sl l (.tok 0),.int .i64 i] ⟨[[.str s2,.bool b,.sl r .non]],[(k,1,9)],[51]⟩
noncomputable def qdK (s:List UInt8) (l:List (List PV)) (i:Int) (s2:List UInt8) (b:Bool) (r:List (List PV)) (k:Nat):List UInt8:=(gStr (gOut (qb1 s l i s2 b r k) 0))
noncomputable def qdM (s:List UInt8) (l:List (List PV)) (i:Int) (s2:List UInt8) (b:Bool) (r:List (List PV)) (k:Nat):Int:=(gInt (gOut (qb1 s l i s2 b r k) 1))
noncomputable def qeA (s:List UInt8) (l:List (List PV)) (i:Int) (s2:List UInt8) (b:Bool) (r:List (List PV)) (k:Nat):List UInt8:=(gStr (gAt (gObj (qb1 s l i s2 b r k) 0) 0))
noncomputable def qfp (s:List UInt8) (l:List (List PV)) (i:Int) (s2:List UInt8) (b:Bool) (r:List (List PV)) (k:Nat):Bool:=(qb0 (gAt (gObj (qb1 s l i s2 b r k) 0) 1))
noncomputable def qfo (s:List UInt8) (l:List (List PV)) (i:Int) (s2:List UInt8) (b:Bool) (r:List (List PV)) (k:Nat):List (List PV):=(gRow (gAt (gObj (qb1 s l i s2 b r k) 0) 2))
noncomputable def qfk (s:List UInt8) (l:List (List PV)) (i:Int) (s2:List UInt8) (b:Bool) (r:List (List PV)) (k:Nat):Nat:=(gTok (qb1 s l i s2 b r k) 0)
noncomputable def qes (s:List UInt8) (l:List (List PV)) (i:Int) (s2:List UInt8) (b:Bool) (r:List (List PV)) (k:Nat):Bool:=isW (qb1 s l i s2 b r k) (.ret,[.str (qdK s l i s2 b r k),.int .i64 (qdM s l i s2 b r k)],⟨[[.str (qeA s l i s2 b r k),.bool (qfp s l i s2 b r k),.sl (qfo s l i s2 b r k) .non]],[((qfk s l i s2 b r k),1,9)],[51]⟩)
noncomputable def qbI (s:List UInt8) (l:List (List PV)) (i:Int) (s2:List UInt8) (b:Bool) (r:List (List PV)) (k:Nat):List UInt8:=(gStr (gOut (qb1 s l i s2 b r k) 1))
noncomputable def qbT (s:List UInt8) (l:List (List PV)) (i:Int) (s2:List UInt8) (b:Bool) (r:List (List PV)) (k:Nat):List (List PV):=(gRow (gOut (qb1 s l i s2 b r k) 2))
noncomputable def qbv (s:List UInt8) (l:List (List PV)) (i:Int) (s2:List UInt8) (b:Bool) (r:List (List PV)) (k:Nat):List UInt8:=(gStr (gAt (gObj (qb1 s l i s2 b r k) 0) 0))
noncomputable def qfq (s:List UInt8) (l:List (List PV)) (i:Int) (s2:List UInt8) (b:Bool) (r:List (List PV)) (k:Nat):Bool:=(qb0 (gAt (gObj (qb1 s l i s2 b r k) 0) 1))
noncomputable def qfi (s:List UInt8) (l:List (List PV)) (i:Int) (s2:List UInt8) (b:Bool) (r:List (List PV)) (k:Nat):List (List PV):=(gRow (gAt (gObj (qb1 s l i s2 b r k) 0) 2))
noncomputable def qfm (s:List UInt8) (l:List (List PV)) (i:Int) (s2:List UInt8) (b:Bool) (r:List (List PV)) (k:Nat):Nat:=(gTok (qb1 s l i s2 b r k) 0)
noncomputable def qeq (s:List UInt8) (l:List (List PV)) (i:Int) (s2:List UInt8) (b:Bool) (r:List (List PV)) (k:Nat):Bool:=isW (qb1 s l i s2 b r k) ((.exit 0),[.ptr 0 0,.str (qbI s l i s2 b r k),.sl (qbT s l i s2 b r k) (.tok 0)],⟨[[.str (qbv s l i s2 b r k),.bool (qfq s l i s2 b r k),.sl (qfi s l i s2 b r k) .non]],[((qfm s l i s2 b r k),1,9)],[51]⟩)
noncomputable def qhg:List PV→Store→Tr (PExit × List PV × Store) | [.ptr 0 0,.str s,.sl l (.tok 0),.int .i64 i],⟨[[.str s2,.bool b,.sl r .non]],[(k,1,9)],[51]⟩=>.ite (qes s l i s2 b r k) (.ret (.ret,[.str (qdK s l i s2 b r k),.int .i64 (qdM s l i s2 b r k)],⟨[[.str (qeA s l i s2 b r k),.bool (qfp s l i s2 b r k),.sl (qfo s l i s2 b r k) .non]],[((qfk s l i s2 b r k),1,9)],[51]⟩)) (.ite (qeq s l i s2 b r k) (.ret ((.exit 0),[.ptr 0 0,.str (qbI s l i s2 b r k),.sl (qbT s l i s2 b r k) (.tok 0)],⟨[[.str (qbv s l i s2 b r k),.bool (qfq s l i s2 b r k),.sl (qfi s l i s2 b r k) .non]],[((qfm s l i s2 b r k),1,9)],[51]⟩)) (.fail)) | _,_=>.fail
theorem qF4:∀ vs σ r,(qhg vs σ).run=some r→qdv vs σ=some r:=by
 intro vs σ r h
 unfold qhg at h
 split at h
 ·exact qai h fun h=>qai h fun h=>by cases h
 ·cases h
theorem qyP (gl:Gl):∀ fr σ e fr' σ',(orc qoH qhg fr σ).run=some (e,fr',σ')→LDoes Tryz.prog gl qoX fr σ e fr' σ':=qcl qaj (qvX gl ) qah (L:=qqH) (qae (by kernel_rfl)) (by kernel_rfl) qF4
noncomputable def qyy:LpsT:=fun r fr σ=>bif Nat.beq r 8 then orc qoH qhg fr σ else .fail
noncomputable def qvz (d:List UInt8) (d2:Bool) (d3:List (List PV)):Tr PV:=.ite d2 (.ite (qeT d) (.ite (bNot (qhq d)) (.ret (.tup [.str [],.int .i64 140])) (.ite (qes [98,97,115,101,32] [] 0 d d2 d3 0) (.ret (.tup [.str (qdK [98,97,115,101,32] [] 0 d d2 d3 0),.int .i64 (qdM [98,97,115,101,32] [] 0 d d2 d3 0)])) (.ite (qeq [98,97,115,101,32] [] 0 d d2 d3 0) (.ite (qan (qbI [98,97,115,101,32] [] 0 d d2 d3 0) (qbv [98,97,115,101,32] [] 0 d d2 d3 0)) (.ite (qan (sApp (qbI [98,97,115,101,32] [] 0 d d2 d3 0) (qbv [98,97,115,101,32] [] 0 d d2 d3 0)) [40]) (.ite (qc1 (qaa (qbT [98,97,115,101,32] [] 0 d d2 d3 0)) [44,32]) (.ite (qan (sApp (sApp (qbI [98,97,115,101,32] [] 0 d d2 d3 0) (qbv [98,97,115,101,32] [] 0 d d2 d3 0)) [40]) (qbU (qaa (qbT [98,97,115,101,32] [] 0 d d2 d3 0)) [44,32])) (.ite (qan (sApp (sApp (sApp (qbI [98,97,115,101,32] [] 0 d d2 d3 0) (qbv [98,97,115,101,32] [] 0 d d2 d3 0)) [40]) (qbU (qaa (qbT [98,97,115,101,32] [] 0 d d2 d3 0)) [44,32])) [41,46]) (.ret (.tup [.str (sApp (sApp (sApp (sApp (qbI [98,97,115,101,32] [] 0 d d2 d3 0) (qbv [98,97,115,101,32] [] 0 d d2 d3 0)) [40]) (qbU (qaa (qbT [98,97,115,101,32] [] 0 d d2 d3 0)) [44,32])) [41,46]),.int .i64 0])) .fail) .fail) .fail) .fail) .fail) .fail))) .fail) (.ite (qeT d) (.ite (bNot (qhq d)) (.ret (.tup [.str [],.int .i64 140])) (.ite (qes [118,105,101,119,32] [] 0 d d2 d3 0) (.ret (.tup [.str (qdK [118,105,101,119,32] [] 0 d d2 d3 0),.int .i64 (qdM [118,105,101,119,32] [] 0 d d2 d3 0)])) (.ite (qeq [118,105,101,119,32] [] 0 d d2 d3 0) (.ite (qan (qbI [118,105,101,119,32] [] 0 d d2 d3 0) (qbv [118,105,101,119,32] [] 0 d d2 d3 0)) (.ite (qan (sApp (qbI [118,105,101,119,32] [] 0 d d2 d3 0) (qbv [118,105,101,119,32] [] 0 d d2 d3 0)) [40])
 (.ite (qc1 (qaa (qbT [118,105,101,119,32] [] 0 d d2 d3 0)) [44,32]) (.ite (qan (sApp (sApp (qbI [118,105,101,119,32] [] 0 d d2 d3 0) (qbv [118,105,101,119,32] [] 0 d d2 d3 0)) [40]) (qbU (qaa (qbT [118,105,101,119,32] [] 0 d d2 d3 0)) [44,32])) (.ite (qan (sApp (sApp (sApp (qbI [118,105,101,119,32] [] 0 d d2 d3 0) (qbv [118,105,101,119,32] [] 0 d d2 d3 0)) [40]) (qbU (qaa (qbT [118,105,101,119,32] [] 0 d d2 d3 0)) [44,32])) [41,46]) (.ret (.tup [.str (sApp (sApp (sApp (sApp (qbI [118,105,101,119,32] [] 0 d d2 d3 0) (qbv [118,105,101,119,32] [] 0 d d2 d3 0)) [40]) (qbU (qaa (qbT [118,105,101,119,32] [] 0 d d2 d3 0)) [44,32])) [41,46]),.int .i64 0])) .fail) .fail) .fail) .fail) .fail) .fail))) .fail)
theorem qLf (d:List UInt8) (d2:Bool) (d3:List (List PV)):(tcall tbT qpO qyy Tryz.f29 [.agg [.str d,.bool d2,.sl d3 .non]]).flat=qvz d d2 d3:=by kernel_rfl
noncomputable def qrJ (d:List UInt8) (d2:Bool) (d3:List (List PV)):Option PV:=(qvz d d2 d3).run
noncomputable def qkT (d:List UInt8) (d2:Bool) (d3:List (List PV)):List UInt8:=(gStr (gAt (gCs (gVal (qrJ d d2 d3))) 0))
noncomputable def qkX (d:List UInt8) (d2:Bool) (d3:List (List PV)):Int:=(gInt (gAt (gCs (gVal (qrJ d d2 d3))) 1))
noncomputable def qgG (d:List UInt8) (d2:Bool) (d3:List (List PV)):Bool:=isW (qrJ d d2 d3) (.tup [.str (qkT d d2 d3),.int .i64 (qkX d d2 d3)])
noncomputable def qxH:List PV→Tr PV | [.agg [.str d,.bool d2,.sl d3 .non]]=>.ite (qgG d d2 d3) (.ret (.tup [.str (qkT d d2 d3),.int .i64 (qkX d d2 d3)])) (.fail) | _=>.fail
theorem qGP (gl:Gl):SimP Tryz.prog gl 29 fun args=>(qxH args).run:=by
 refine SimP.of_flat (G:=qpO) (L:=qyy) qaj (qvX gl ) qah Tryz.func29 rfl (by rfl) (by kernel_rfl) (qaX (L:=lps qyy) [(8,qoX)] (by kernel_rfl) (List.forall_mem_cons.2 ⟨fun fr σ e fr' σ' h=>qyP gl  fr σ e fr' σ' h,(List.forall_mem_nil _)⟩)) ?_
 intro args x h
 unfold qxH at h
 split at h
 ·exact (congrArg Tr.run (qLf _ _ _)).trans (qai h fun h=>by cases h)
 ·cases h
noncomputable def qrf:GamT:=ofL [(15,.pure qqG),(48,.pure qkA),(qeS,.hint [(4,0,1,9)])]
theorem qwN (gl:Gl):qaH Tryz.prog gl (gam qrf):=(qac (qrY gl) (qac (qiX gl) (qbH (K:=.hint [(4,0,1,9)]) trivial qag)))
noncomputable def qoD:Code:=qeX Tryz.f58 3
def qn7:LI:=⟨47,[1,4,5],fun e=>match e with | .ret=>[2,3] | .exit 0=>[4] | _=>[],true⟩
noncomputable def qp0:LpsT:=fun r fr σ=>.fail
noncomputable def qdt (vs:List PV) (σ:Store):Option (PExit × List PV × Store):=lval (lstep tbT qrf qp0 qoD qn7) vs σ
noncomputable def qiy (l:List (List PV)) (i:Int) (s:List UInt8) (r:List (List PV)) (r2:List (List PV)) (k:Nat):Tr LR:=.ite (iLt i (xLen r2)) (.ite (qak i) (.ite (qbs [.bool false,.str [],.sl [] .full] r2 (nNat i)) (.ite (qd5 (xStr r2 (nNat i) 1) (qaa (xRow r2 (nNat i) 2))) (.ite (iNe (qcJ (xStr r2 (nNat i) 1) (qaa (xRow r2 (nNat i) 2))) 0) (.ret (.out .ret [.str [],.int .i64 (qcJ (xStr r2 (nNat i) 1) (qaa (xRow r2 (nNat i) 2)))] (Store.mk [[.str s,.sl r .non,.sl r2 .non]] [(k,1,9)] [55]))) (.ite (qak i) (.ite (qbs [.bool false,.str [],.sl [] .full] r2 (nNat i)) (.ite (qf8 r2 (nNat i) 0) (.ite (qan [43] (qbh (xStr r2 (nNat i) 1) (qaa (xRow r2 (nNat i) 2)))) (.ite (qaz l [[.str (sApp [43] (qbh (xStr r2 (nNat i) 1) (qaa (xRow r2 (nNat i) 2))))]] 16) (.ite (qas [[.str (sApp [43] (qbh (xStr r2 (nNat i) 1) (qaa (xRow r2 (nNat i) 2))))]] 1) (.ite (qao l 1) (.ite (nEq k (nXs l)) (.ret (.next [.ptr 0 0,.sl (xApp l [[.str (sApp [43] (qbh (xStr r2 (nNat i) 1) (qaa (xRow r2 (nNat i) 2))))]]) (.tok 0),.int .i64 (iAdd .i64 i 1)] (Store.mk [[.str s,.sl r .non,.sl r2 .non]] [(nXs (xApp l [[.str (sApp [43] (qbh (xStr r2 (nNat i) 1) (qaa (xRow r2 (nNat i) 2))))]]),1,9)] [55]))) .fail) .fail) .fail) .fail) .fail) (.ite (qan [45] (qbh (xStr r2 (nNat i) 1) (qaa (xRow r2 (nNat i) 2)))) (.ite (qaz l [[.str (sApp [45] (qbh (xStr r2 (nNat i) 1) (qaa (xRow r2 (nNat i) 2))))]] 16) (.ite (qas [[.str (sApp [45] (qbh (xStr r2 (nNat i) 1) (qaa (xRow r2 (nNat i) 2))))]] 1) (.ite (qao l 1) (.ite (nEq k (nXs l)) (.ret (.next [.ptr 0 0,.sl (xApp l [[.str (sApp [45] (qbh (xStr r2 (nNat i) 1) (qaa (xRow r2 (nNat i) 2))))]]) (.tok 0),.int .i64 (iAdd .i64 i 1)] (Store.mk [[.str s,.sl r .non,.sl r2 .non]] [(nXs (xApp l [[.str (sApp [45] (qbh (xStr r2 (nNat i) 1) (qaa (xRow r2 (nNat i) 2))))]]),1,9)] [55]))) .fail) .fail) .fail) .fail) .fail)) .fail) .fail))
 .fail) .fail) .fail) (.ret (.out (.exit 0) [.sl l (.tok 0)] (Store.mk [[.str s,.sl r .non,.sl r2 .non]] [(k,1,9)] [55])))
theorem qIG (l:List (List PV)) (i:Int) (s:List UInt8) (r:List (List PV)) (r2:List (List PV)) (k:Nat):lstep tbT qrf qp0 qoD qn7 [.ptr 0 0,.sl l (.tok 0),.int .i64 i] ⟨[[.str s,.sl r .non,.sl r2 .non]],[(k,1,9)],[55]⟩=qiy l i s r r2 k:=by kernel_rfl
theorem quU (l:List (List PV)) (i:Int) (s:List UInt8) (r:List (List PV)) (r2:List (List PV)) (k:Nat):qdt [.ptr 0 0,.sl l (.tok 0),.int .i64 i] ⟨[[.str s,.sl r .non,.sl r2 .non]],[(k,1,9)],[55]⟩=lnext qdt (qiy l i s r r2 k).run:=by unfold qdt; rw [qbF,qIG]
noncomputable def qcr (l:List (List PV)) (i:Int) (s:List UInt8) (r:List (List PV)) (r2:List (List PV)) (k:Nat):Option (PExit × List PV × Store):=qdt [.ptr 0 0,.sl l (.tok 0),.int .i64 i] ⟨[[.str s,.sl r .non,.sl r2 .non]],[(k,1,9)],[55]⟩
noncomputable def qg2 (l:List (List PV)) (i:Int) (s:List UInt8) (r:List (List PV)) (r2:List (List PV)) (k:Nat):List UInt8:=(gStr (gOut (qcr l i s r r2 k) 0))
noncomputable def qg8 (l:List (List PV)) (i:Int) (s:List UInt8) (r:List (List PV)) (r2:List (List PV)) (k:Nat):Int:=(gInt (gOut (qcr l i s r r2 k) 1))
noncomputable def qh1 (l:List (List PV)) (i:Int) (s:List UInt8) (r:List (List PV)) (r2:List (List PV)) (k:Nat):List UInt8:=(gStr (gAt (gObj (qcr l i s r r2 k) 0) 0))
noncomputable def qj1 (l:List (List PV)) (i:Int) (s:List UInt8) (r:List (List PV)) (r2:List (List PV)) (k:Nat):List (List PV):=(gRow (gAt (gObj (qcr l i s r r2 k) 0) 1))
noncomputable def qhW (l:List (List PV)) (i:Int) (s:List UInt8) (r:List (List PV)) (r2:List (List PV)) (k:Nat):List (List PV):=(gRow (gAt (gObj (qcr l i s r r2 k) 0) 2))
noncomputable def qjf (l:List (List PV)) (i:Int) (s:List UInt8) (r:List (List PV)) (r2:List (List PV)) (k:Nat):Nat:=(gTok (qcr l i s r r2 k) 0)
noncomputable def qjq (l:List (List PV)) (i:Int) (s:List UInt8) (r:List (List PV)) (r2:List (List PV)) (k:Nat):Bool:=isW (qcr l i s r r2 k) (.ret,[.str (qg2 l i s r r2 k),.int .i64 (qg8 l i s r r2 k)],⟨[[.str (qh1 l i s r r2 k),.sl (qj1 l i s r r2 k) .non,.sl (qhW l i s r r2 k) .non]],[((qjf l i s r r2 k),1,9)],[55]⟩)
noncomputable def qdI (l:List (List PV)) (i:Int) (s:List UInt8) (r:List (List PV)) (r2:List (List PV)) (k:Nat):List (List PV):=(gRow (gOut (qcr l i s r r2 k) 0))
noncomputable def qj6 (l:List (List PV)) (i:Int) (s:List UInt8) (r:List (List PV)) (r2:List (List PV)) (k:Nat):List UInt8:=(gStr (gAt (gObj (qcr l i s r r2 k) 0) 0))
noncomputable def qjA (l:List (List PV)) (i:Int) (s:List UInt8) (r:List (List PV)) (r2:List (List PV)) (k:Nat):List (List PV):=(gRow (gAt (gObj (qcr l i s r r2 k) 0) 1))
noncomputable def qhe (l:List (List PV)) (i:Int) (s:List UInt8) (r:List (List PV)) (r2:List (List PV)) (k:Nat):List (List PV):=(gRow (gAt (gObj (qcr l i s r r2 k) 0) 2))
noncomputable def qkb (l:List (List PV)) (i:Int) (s:List UInt8) (r:List (List PV)) (r2:List (List PV)) (k:Nat):Nat:=(gTok (qcr l i s r r2 k) 0)
noncomputable def qje (l:List (List PV)) (i:Int) (s:List UInt8) (r:List (List PV)) (r2:List (List PV)) (k:Nat):Bool:=isW (qcr l i s r r2 k) ((.exit 0),[.sl (qdI l i s r r2 k) (.tok 0)],⟨[[.str (qj6 l i s r r2 k),.sl (qjA l i s r r2 k) .non,.sl (qhe l i s r r2 k) .non]],[((qkb l i s r r2 k),1,9)],[55]⟩)
noncomputable def qhI:List PV→Store→Tr (PExit × List PV × Store) | [.ptr 0 0,.sl l (.tok 0),.int .i64 i],⟨[[.str s,.sl r .non,.sl r2 .non]],[(k,1,9)],[55]⟩=>.ite (qjq l i s r r2 k) (.ret (.ret,[.str (qg2 l i s r r2 k),.int .i64 (qg8 l i s r r2 k)],⟨[[.str (qh1 l i s r r2 k),.sl (qj1 l i s r r2 k) .non,.sl (qhW l i s r r2 k) .non]],[((qjf l i s r r2 k),1,9)],[55]⟩)) (.ite (qje l i s r r2 k) (.ret ((.exit 0),[.sl (qdI l i s r r2 k) (.tok 0)],⟨[[.str (qj6 l i s r r2 k),.sl (qjA l i s r r2 k) .non,.sl (qhe l i s r r2 k) .non]],[((qkb l i s r r2 k),1,9)],[55]⟩)) (.fail)) | _,_=>.fail
theorem qDA:∀ vs σ r,(qhI vs σ).run=some r→qdt vs σ=some r:=by
 intro vs σ r h
 unfold qhI at h
 split at h
 ·exact qai h fun h=>qai h fun h=>by cases h
 ·cases h
theorem qxi (gl:Gl):∀ fr σ e fr' σ',(orc qn7 qhI fr σ).run=some (e,fr',σ')→LDoes Tryz.prog gl qoD fr σ e fr' σ':=qcl qaj (qwN gl ) qah (L:=qp0) (qae (by kernel_rfl)) (by kernel_rfl) qDA
noncomputable def qy7:LpsT:=fun r fr σ=>bif Nat.beq r 3 then orc qn7 qhI fr σ else .fail
noncomputable def qt6 (o:List UInt8) (o2:List (List PV)) (o3:List (List PV)):Tr PV:=.ite (qjq [] 0 o o2 o3 0) (.ret (.tup [.str (qg2 [] 0 o o2 o3 0),.int .i64 (qg8 [] 0 o o2 o3 0)])) (.ite (qje [] 0 o o2 o3 0) (.ite (iEq (xLen (qdI [] 0 o o2 o3 0)) 0) (.ret (.tup [.str [],.int .i64 0])) (.ite (qc1 (qaa (qdI [] 0 o o2 o3 0)) [44,32]) (.ite (qan [58,32] (qbU (qaa (qdI [] 0 o o2 o3 0)) [44,32])) (.ret (.tup [.str (sApp [58,32] (qbU (qaa (qdI [] 0 o o2 o3 0)) [44,32])),.int .i64 0])) .fail) .fail)) .fail)
theorem qLG (o:List UInt8) (o2:List (List PV)) (o3:List (List PV)):(tcall tbT qrf qy7 Tryz.f58 [.agg [.str o,.sl o2 .non,.sl o3 .non]]).flat=qt6 o o2 o3:=by kernel_rfl
noncomputable def qrx (o:List UInt8) (o2:List (List PV)) (o3:List (List PV)):Option PV:=(qt6 o o2 o3).run
noncomputable def qia (o:List UInt8) (o2:List (List PV)) (o3:List (List PV)):List UInt8:=(gStr (gAt (gCs (gVal (qrx o o2 o3))) 0))
noncomputable def qiO (o:List UInt8) (o2:List (List PV)) (o3:List (List PV)):Int:=(gInt (gAt (gCs (gVal (qrx o o2 o3))) 1))
noncomputable def qgJ (o:List UInt8) (o2:List (List PV)) (o3:List (List PV)):Bool:=isW (qrx o o2 o3) (.tup [.str (qia o o2 o3),.int .i64 (qiO o o2 o3)])
noncomputable def qyO:List PV→Tr PV | [.agg [.str o,.sl o2 .non,.sl o3 .non]]=>.ite (qgJ o o2 o3) (.ret (.tup [.str (qia o o2 o3),.int .i64 (qiO o o2 o3)])) (.fail) | _=>.fail
theorem qEM (gl:Gl):SimP Tryz.prog gl 58 fun args=>(qyO args).run:=by
 refine SimP.of_flat (G:=qrf) (L:=qy7) qaj (qwN gl ) qah Tryz.func58 rfl (by rfl) (by kernel_rfl) (qaX (L:=lps qy7) [(3,qoD)] (by kernel_rfl) (List.forall_mem_cons.2 ⟨fun fr σ e fr' σ' h=>qxi gl  fr σ e fr' σ' h,(List.forall_mem_nil _)⟩)) ?_
 intro args x h
 unfold qyO at h
 split at h
 ·exact (congrArg Tr.run (qLG _ _ _)).trans (qai h fun h=>by cases h)
 ·cases h
noncomputable def qC0:GamT:=ofL [(19,.pure qrD),(21,.pure qAZ),(48,.pure qkA),(56,.pure qzV),(58,.pure qyO),(qeS,.hint [(4,0,1,9)])]
theorem qEb (gl:Gl):qaH Tryz.prog gl (gam qC0):=(qac (qqI gl) (qac (qzT gl) (qac (qiX gl) (qac (qzH gl) (qac (qEM gl) (qbH (K:=.hint [(4,0,1,9)]) trivial qag))))))
noncomputable def qAW:Code:=qeX Tryz.f31 5
def qAj:LI:=⟨64,[1,4,5],fun e=>match e with | .ret=>[2,3] | .exit 0=>[1,4] | _=>[],true⟩
noncomputable def qyx:LpsT:=fun r fr σ=>.fail
noncomputable def qit (vs:List PV) (σ:Store):Option (PExit × List PV × Store):=lval (lstep tbT qC0 qyx qAW qAj) vs σ
noncomputable def qpH (l:List (List PV)) (i:Int) (s:List UInt8) (r:List (List PV)) (r2:List (List PV)) (k:Nat):Tr LR:=.ite (iLt i (xLen r)) (.ite (qak i) (.ite (qbs [.str [],.int .i64 0] r (nNat i)) (.ite (qjn (xStr r (nNat i) 0)) (.ite (bNot (qrq (xStr r (nNat i) 0))) (.ret (.out .ret [.str [],.int .i64 140] (Store.mk [[.str s,.sl (qam 1 r) .non,.sl (qam 1 r2) .non]] [(k,1,9)] [55]))) (.ite (qgm (xInt r (nNat i) 1)) (.ite (sEq (qe5 (xInt r (nNat i) 1)) []) (.ret (.out .ret [.str [],.int .i64 140] (Store.mk [[.str s,.sl (qam 1 r) .non,.sl (qam 1 r2) .non]] [(k,1,9)] [55]))) (.ite (qan (xStr r (nNat i) 0) [32]) (.ite (qgm (xInt r (nNat i) 1)) (.ite (qan (sApp (xStr r (nNat i) 0) [32]) (qe5 (xInt r (nNat i) 1))) (.ite (qaz l [[.str (sApp (sApp (xStr r (nNat i) 0) [32]) (qe5 (xInt r (nNat i) 1)))]] 16) (.ite (qas [[.str (sApp (sApp (xStr r (nNat i) 0) [32]) (qe5 (xInt r (nNat i) 1)))]] 1) (.ite (qao l 1) (.ite (nEq k (nXs l)) (.ret (.next [.ptr 0 0,.sl (qam 1 (xApp l [[.str (sApp (sApp (xStr r (nNat i) 0) [32]) (qe5 (xInt r (nNat i) 1)))]])) (.tok 0),.int .i64 (iAdd .i64 i 1)] (Store.mk [[.str s,.sl (qam 1 r) .non,.sl (qam 1 r2) .non]] [(nXs (xApp l [[.str (sApp (sApp (xStr r (nNat i) 0) [32]) (qe5 (xInt r (nNat i) 1)))]]),1,9)] [55]))) .fail) .fail) .fail) .fail) .fail) .fail) .fail)) .fail)) .fail) .fail) .fail) (.ret (.out (.exit 0) [.ptr 0 0,.sl l (.tok 0)] (Store.mk [[.str s,.sl r .non,.sl r2 .non]] [(k,1,9)] [55])))
theorem qMP (l:List (List PV)) (i:Int) (s:List UInt8) (r:List (List PV)) (r2:List (List PV)) (k:Nat):lstep tbT qC0 qyx qAW qAj [.ptr 0 0,.sl l (.tok 0),.int .i64 i] ⟨[[.str s,.sl r .non,.sl r2 .non]],[(k,1,9)],[55]⟩=qpH l i s r r2 k:=by kernel_rfl
theorem qGx (l:List (List PV)) (i:Int) (s:List UInt8) (r:List (List PV)) (r2:List (List PV)) (k:Nat):qit [.ptr 0 0,.sl l (.tok 0),.int .i64 i] ⟨[[.str s,.sl r .non,.sl r2 .non]],[(k,1,9)],[55]⟩=lnext qit (qpH l i s r r2 k).run:=by unfold qit; rw [qbF,qMP]
noncomputable def qfW (l:List (List PV)) (i:Int) (s:List UInt8) (r:List (List PV)) (r2:List (List PV)) (k:Nat):Option (PExit × List PV × Store):=qit [.ptr 0 0,.sl l (.tok 0),.int .i64 i] ⟨[[.str s,.sl r .non,.sl r2 .non]],[(k,1,9)],[55]⟩
noncomputable def qmg (l:List (List PV)) (i:Int) (s:List UInt8) (r:List (List PV)) (r2:List (List PV)) (k:Nat):List UInt8:=(gStr (gOut (qfW l i s r r2 k) 0))
noncomputable def qlP (l:List (List PV)) (i:Int) (s:List UInt8) (r:List (List PV)) (r2:List (List PV)) (k:Nat):Int:=(gInt (gOut (qfW l i s r r2 k) 1))
noncomputable def qlr (l:List (List PV)) (i:Int) (s:List UInt8) (r:List (List PV)) (r2:List (List PV)) (k:Nat):List UInt8:=(gStr (gAt (gObj (qfW l i s r r2 k) 0) 0))
noncomputable def qoi (l:List (List PV)) (i:Int) (s:List UInt8) (r:List (List PV)) (r2:List (List PV)) (k:Nat):List (List PV):=(gRow (gAt (gObj (qfW l i s r r2 k) 0) 1))
noncomputable def qmz (l:List (List PV)) (i:Int) (s:List UInt8) (r:List (List PV)) (r2:List (List PV)) (k:Nat):List (List PV):=(gRow (gAt (gObj (qfW l i s r r2 k) 0) 2))
noncomputable def qoh (l:List (List PV)) (i:Int) (s:List UInt8) (r:List (List PV)) (r2:List (List PV)) (k:Nat):Nat:=(gTok (qfW l i s r r2 k) 0)
noncomputable def qn2 (l:List (List PV)) (i:Int) (s:List UInt8) (r:List (List PV)) (r2:List (List PV)) (k:Nat):Bool:=isW (qfW l i s r r2 k) (.ret,[.str (qmg l i s r r2 k),.int .i64 (qlP l i s r r2 k)],⟨[[.str (qlr l i s r r2 k),.sl (qoi l i s r r2 k) .non,.sl (qmz l i s r r2 k) .non]],[((qoh l i s r r2 k),1,9)],[55]⟩)
noncomputable def qeO (l:List (List PV)) (i:Int) (s:List UInt8) (r:List (List PV)) (r2:List (List PV)) (k:Nat):List (List PV):=(gRow (gOut (qfW l i s r r2 k) 1))
noncomputable def qb6 (l:List (List PV)) (i:Int) (s:List UInt8) (r:List (List PV)) (r2:List (List PV)) (k:Nat):List UInt8:=(gStr (gAt (gObj (qfW l i s r r2 k) 0) 0))
noncomputable def qeN (l:List (List PV)) (i:Int) (s:List UInt8) (r:List (List PV)) (r2:List (List PV)) (k:Nat):List (List PV):=(gRow (gAt (gObj (qfW l i s r r2 k) 0) 1))
noncomputable def qdo (l:List (List PV)) (i:Int) (s:List UInt8) (r:List (List PV)) (r2:List (List PV)) (k:Nat):List (List PV):=(gRow (gAt (gObj (qfW l i s r r2 k) 0) 2))
noncomputable def qoa (l:List (List PV)) (i:Int) (s:List UInt8) (r:List (List PV)) (r2:List (List PV)) (k:Nat):Nat:=(gTok (qfW l i s r r2 k) 0)
noncomputable def qpn (l:List (List PV)) (i:Int) (s:List UInt8) (r:List (List PV)) (r2:List (List PV)) (k:Nat):Bool:=isW (qfW l i s r r2 k) ((.exit 0),[.ptr 0 0,.sl (qeO l i s r r2 k) (.tok 0)],⟨[[.str (qb6 l i s r r2 k),.sl (qeN l i s r r2 k) .non,.sl (qdo l i s r r2 k) .non]],[((qoa l i s r r2 k),1,9)],[55]⟩)
noncomputable def qlm:List PV→Store→Tr (PExit × List PV × Store) | [.ptr 0 0,.sl l (.tok 0),.int .i64 i],⟨[[.str s,.sl r .non,.sl r2 .non]],[(k,1,9)],[55]⟩=>.ite (qn2 l i s r r2 k) (.ret (.ret,[.str (qmg l i s r r2 k),.int .i64 (qlP l i s r r2 k)],⟨[[.str (qlr l i s r r2 k),.sl (qoi l i s r r2 k) .non,.sl (qmz l i s r r2 k) .non]],[((qoh l i s r r2 k),1,9)],[55]⟩)) (.ite (qpn l i s r r2 k) (.ret ((.exit 0),[.ptr 0 0,.sl (qeO l i s r r2 k) (.tok 0)],⟨[[.str (qb6 l i s r r2 k),.sl (qeN l i s r r2 k) .non,.sl (qdo l i s r r2 k) .non]],[((qoa l i s r r2 k),1,9)],[55]⟩)) (.fail)) | _,_=>.fail
theorem qJM:∀ vs σ r,(qlm vs σ).run=some r→qit vs σ=some r:=by
 intro vs σ r h
 unfold qlm at h
 split at h
 ·exact qai h fun h=>qai h fun h=>by cases h
 ·cases h
theorem qEv (gl:Gl):∀ fr σ e fr' σ',(orc qAj qlm fr σ).run=some (e,fr',σ')→LDoes Tryz.prog gl qAW fr σ e fr' σ':=qcl qaj (qEb gl ) qah (L:=qyx) (qae (by kernel_rfl)) (by kernel_rfl) qJM
noncomputable def qKV:LpsT:=fun r fr σ=>bif Nat.beq r 5 then orc qAj qlm fr σ else .fail
noncomputable def qD1 (o:List UInt8) (o2:List (List PV)) (o3:List (List PV)):Tr PV:=.ite (qeT o) (.ite (bNot (qhq o)) (.ret (.tup [.str [],.int .i64 140])) (.ite (qn2 [] 0 o o2 o3 0) (.ret (.tup [.str (qmg [] 0 o o2 o3 0),.int .i64 (qlP [] 0 o o2 o3 0)])) (.ite (qpn [] 0 o o2 o3 0) (.ite (qgJ (qb6 [] 0 o o2 o3 0) (qaa (qeN [] 0 o o2 o3 0)) (qaa (qdo [] 0 o o2 o3 0))) (.ite (iNe (qiO (qb6 [] 0 o o2 o3 0) (qaa (qeN [] 0 o o2 o3 0)) (qaa (qdo [] 0 o o2 o3 0))) 0) (.ret (.tup [.str [],.int .i64 (qiO (qb6 [] 0 o o2 o3 0) (qaa (qeN [] 0 o o2 o3 0)) (qaa (qdo [] 0 o o2 o3 0)))])) (.ite (qan [111,110,32] (qb6 [] 0 o o2 o3 0)) (.ite (qan (sApp [111,110,32] (qb6 [] 0 o o2 o3 0)) [40]) (.ite (qc1 (qaa (qeO [] 0 o o2 o3 0)) [44,32]) (.ite (qan (sApp (sApp [111,110,32] (qb6 [] 0 o o2 o3 0)) [40]) (qbU (qaa (qeO [] 0 o o2 o3 0)) [44,32])) (.ite (qan (sApp (sApp (sApp [111,110,32] (qb6 [] 0 o o2 o3 0)) [40]) (qbU (qaa (qeO [] 0 o o2 o3 0)) [44,32])) [41]) (.ite (qan (sApp (sApp (sApp (sApp [111,110,32] (qb6 [] 0 o o2 o3 0)) [40]) (qbU (qaa (qeO [] 0 o o2 o3 0)) [44,32])) [41]) (qia (qb6 [] 0 o o2 o3 0) (qaa (qeN [] 0 o o2 o3 0)) (qaa (qdo [] 0 o o2 o3 0)))) (.ite (qan (sApp (sApp (sApp (sApp (sApp [111,110,32] (qb6 [] 0 o o2 o3 0)) [40]) (qbU (qaa (qeO [] 0 o o2 o3 0)) [44,32])) [41]) (qia (qb6 [] 0 o o2 o3 0) (qaa (qeN [] 0 o o2 o3 0)) (qaa (qdo [] 0 o o2 o3 0)))) [46]) (.ret (.tup [.str (sApp (sApp (sApp (sApp (sApp (sApp [111,110,32] (qb6 [] 0 o o2 o3 0)) [40]) (qbU (qaa (qeO [] 0 o o2 o3 0)) [44,32])) [41]) (qia (qb6 [] 0 o o2 o3 0) (qaa (qeN [] 0 o o2 o3 0)) (qaa (qdo [] 0 o o2 o3 0)))) [46]),.int .i64 0])) .fail) .fail) .fail) .fail) .fail) .fail) .fail))
 .fail) .fail))) .fail
theorem qNC (o:List UInt8) (o2:List (List PV)) (o3:List (List PV)):(tcall tbT qC0 qKV Tryz.f31 [.agg [.str o,.sl o2 .non,.sl o3 .non]]).flat=qD1 o o2 o3:=by kernel_rfl
noncomputable def qGS (o:List UInt8) (o2:List (List PV)) (o3:List (List PV)):Option PV:=(qD1 o o2 o3).run
noncomputable def qye (o:List UInt8) (o2:List (List PV)) (o3:List (List PV)):List UInt8:=(gStr (gAt (gCs (gVal (qGS o o2 o3))) 0))
noncomputable def qyi (o:List UInt8) (o2:List (List PV)) (o3:List (List PV)):Int:=(gInt (gAt (gCs (gVal (qGS o o2 o3))) 1))
noncomputable def qnd (o:List UInt8) (o2:List (List PV)) (o3:List (List PV)):Bool:=isW (qGS o o2 o3) (.tup [.str (qye o o2 o3),.int .i64 (qyi o o2 o3)])
noncomputable def qJI:List PV→Tr PV | [.agg [.str o,.sl o2 .non,.sl o3 .non]]=>.ite (qnd o o2 o3) (.ret (.tup [.str (qye o o2 o3),.int .i64 (qyi o o2 o3)])) (.fail) | _=>.fail
theorem qK8 (gl:Gl):SimP Tryz.prog gl 31 fun args=>(qJI args).run:=by
 refine SimP.of_flat (G:=qC0) (L:=qKV) qaj (qEb gl ) qah Tryz.func31 rfl (by rfl) (by kernel_rfl) (qaX (L:=lps qKV) [(5,qAW)] (by kernel_rfl) (List.forall_mem_cons.2 ⟨fun fr σ e fr' σ' h=>qEv gl  fr σ e fr' σ' h,(List.forall_mem_nil _)⟩)) ?_
 intro args x h
 unfold qJI at h
 split at h
 ·exact (congrArg Tr.run (qNC _ _ _)).trans (qai h fun h=>by cases h)
 ·cases h
end Go.Pv
set_option maxHeartbeats 4000000
set_option maxRecDepth 200000
set_option linter.unusedSimpArgs false
set_option linter.unusedVariables false
namespace Go.Pv
open Go Go.Proofs
noncomputable def G_tx:GamT:=ofL []
theorem qLY (gl:Gl):qaH Tryz.prog gl (gam G_tx):=qag
noncomputable def L_tx:LpsT:=fun r fr σ=>.fail
noncomputable def qLd (s:List UInt8):Tr PV:=.ite (iLt 300 (sLen s)) (.ite (qaA true (qak 300) 0 (nNat 300) (nLen s)) (.ret (.str (sSub s 0 (nNat 300)))) .fail) (.ret (.str s))
theorem tx_T (s:List UInt8):(tcall tbT G_tx L_tx Tryz.f11 [.str s]).flat=qLd s:=by kernel_rfl
noncomputable def tx_W (s:List UInt8):Option PV:=(qLd s).run
noncomputable def tx_s (s:List UInt8):List UInt8:=(gStr (gVal (tx_W s)))
noncomputable def qlI (s:List UInt8):Bool:=isW (tx_W s) (.str (tx_s s))
noncomputable def F_tx:List PV→Tr PV | [.str s]=>.ite (qlI s) (.ret (.str (tx_s s))) (.fail) | _=>.fail
theorem qA4 (gl:Gl):SimP Tryz.prog gl 11 fun args=>(F_tx args).run:=by
 refine SimP.of_flat (G:=G_tx) (L:=L_tx) qaj (qLY gl ) qah Tryz.func11 rfl (by rfl) (by kernel_rfl) (qae (by kernel_rfl)) ?_
 intro args x h
 unfold F_tx at h
 split at h
 ·exact (congrArg Tr.run (tx_T _)).trans (qai h fun h=>by cases h)
 ·cases h
noncomputable def qxF:GamT:=ofL [(11,.pure F_tx)]
theorem qEo (gl:Gl):qaH Tryz.prog gl (gam qxF):=(qac (qA4 gl) qag)
noncomputable def qD8:LpsT:=fun r fr σ=>.fail
noncomputable def qtJ (t:Int) (t2:List UInt8) (t3:Int) (t4:Int) (t5:List UInt8):Tr PV:=.ite (qlI t2) (.ite (qlI t5) (.ret (.agg [.int .i64 t,.str (tx_s t2),.int .i64 t3,.int .i64 t4,.str (tx_s t5)])) .fail) .fail
theorem qKW (t:Int) (t2:List UInt8) (t3:Int) (t4:Int) (t5:List UInt8):(tcall tbT qxF qD8 Tryz.f9 [.agg [.int .i64 t,.str t2,.int .i64 t3,.int .i64 t4,.str t5]]).flat=qtJ t t2 t3 t4 t5:=by kernel_rfl
noncomputable def qiw (t:Int) (t2:List UInt8) (t3:Int) (t4:Int) (t5:List UInt8):Option PV:=(qtJ t t2 t3 t4 t5).run
noncomputable def qdw (t:Int) (t2:List UInt8) (t3:Int) (t4:Int) (t5:List UInt8):Int:=(gInt (gAt (gCs (gVal (qiw t t2 t3 t4 t5))) 0))
noncomputable def qdy (t:Int) (t2:List UInt8) (t3:Int) (t4:Int) (t5:List UInt8):List UInt8:=(gStr (gAt (gCs (gVal (qiw t t2 t3 t4 t5))) 1))
noncomputable def qcn (t:Int) (t2:List UInt8) (t3:Int) (t4:Int) (t5:List UInt8):Int:=(gInt (gAt (gCs (gVal (qiw t t2 t3 t4 t5))) 2))
noncomputable def qct (t:Int) (t2:List UInt8) (t3:Int) (t4:Int) (t5:List UInt8):Int:=(gInt (gAt (gCs (gVal (qiw t t2 t3 t4 t5))) 3))
noncomputable def qco (t:Int) (t2:List UInt8) (t3:Int) (t4:Int) (t5:List UInt8):List UInt8:=(gStr (gAt (gCs (gVal (qiw t t2 t3 t4 t5))) 4))
noncomputable def qc8 (t:Int) (t2:List UInt8) (t3:Int) (t4:Int) (t5:List UInt8):Bool:=isW (qiw t t2 t3 t4 t5) (.agg [.int .i64 (qdw t t2 t3 t4 t5),.str (qdy t t2 t3 t4 t5),.int .i64 (qcn t t2 t3 t4 t5),.int .i64 (qct t t2 t3 t4 t5),.str (qco t t2 t3 t4 t5)])
noncomputable def qtn:List PV→Tr PV | [.agg [.int .i64 t,.str t2,.int .i64 t3,.int .i64 t4,.str t5]]=>.ite (qc8 t t2 t3 t4 t5) (.ret (.agg [.int .i64 (qdw t t2 t3 t4 t5),.str (qdy t t2 t3 t4 t5),.int .i64 (qcn t t2 t3 t4 t5),.int .i64 (qct t t2 t3 t4 t5),.str (qco t t2 t3 t4 t5)])) (.fail) | _=>.fail
theorem qwf (gl:Gl):SimP Tryz.prog gl 9 fun args=>(qtn args).run:=by
 refine SimP.of_flat (G:=qxF) (L:=qD8) qaj (qEo gl ) qah Tryz.func9 rfl (by rfl) (by kernel_rfl) (qae (by kernel_rfl)) ?_
 intro args x h
 unfold qtn at h
 split at h
 ·exact (congrArg Tr.run (qKW _ _ _ _ _)).trans (qai h fun h=>by cases h)
 ·cases h
noncomputable def qpG:GamT:=ofL [(9,.pure qtn),(11,.pure F_tx),(qeS,.hint [(8,1,5,27)])]
theorem qvL (gl:Gl):qaH Tryz.prog gl (gam qpG):=(qac (qwf gl) (qac (qA4 gl) (qbH (K:=.hint [(8,1,5,27)]) trivial qag)))
noncomputable def qo1:Code:=qeX Tryz.f42 3
def qog:LI:=⟨32,[1,2,3,4],fun e=>match e with | .exit 0=>[2,3] | _=>[],true⟩
noncomputable def qrB:LpsT:=fun r fr σ=>.fail
noncomputable def qeR (vs:List PV) (σ:Store):Option (PExit × List PV × Store):=lval (lstep tbT qpG qrB qo1 qog) vs σ
noncomputable def qiG (i:Int) (s:List UInt8) (r:List (List PV)) (s2:List UInt8) (r2:List (List PV)) (s3:List UInt8) (r3:List (List PV)) (k:Nat):Tr LR:=.ite (iLt i (xLen r)) (.ite (iLt i 12) (.ite (qak i) (.ite (qbs [.int .i64 0,.str [],.int .i64 0,.int .i64 0,.str []] r (nNat i)) (.ite (qc8 (xInt r (nNat i) 0) (xStr r (nNat i) 1) (xInt r (nNat i) 2) (xInt r (nNat i) 3) (xStr r (nNat i) 4)) (.ite (qaz r3 [[.int .i64 (qdw (xInt r (nNat i) 0) (xStr r (nNat i) 1) (xInt r (nNat i) 2) (xInt r (nNat i) 3) (xStr r (nNat i) 4)),.str (qdy (xInt r (nNat i) 0) (xStr r (nNat i) 1) (xInt r (nNat i) 2) (xInt r (nNat i) 3) (xStr r (nNat i) 4)),.int .i64 (qcn (xInt r (nNat i) 0) (xStr r (nNat i) 1) (xInt r (nNat i) 2) (xInt r (nNat i) 3) (xStr r (nNat i) 4)),.int .i64 (qct (xInt r (nNat i) 0) (xStr r (nNat i) 1) (xInt r (nNat i) 2) (xInt r (nNat i) 3) (xStr r (nNat i) 4)),.str (qco (xInt r (nNat i) 0) (xStr r (nNat i) 1) (xInt r (nNat i) 2) (xInt r (nNat i) 3) (xStr r (nNat i) 4))]] 56) (.ite (qas [[.int .i64 (qdw (xInt r (nNat i) 0) (xStr r (nNat i) 1) (xInt r (nNat i) 2) (xInt r (nNat i) 3) (xStr r (nNat i) 4)),.str (qdy (xInt r (nNat i) 0) (xStr r (nNat i) 1) (xInt r (nNat i) 2) (xInt r (nNat i) 3) (xStr r (nNat i) 4)),.int .i64 (qcn (xInt r (nNat i) 0) (xStr r (nNat i) 1) (xInt r (nNat i) 2) (xInt r (nNat i) 3) (xStr r (nNat i) 4)),.int .i64 (qct (xInt r (nNat i) 0) (xStr r (nNat i) 1) (xInt r (nNat i) 2) (xInt r (nNat i) 3) (xStr r (nNat i) 4)),.str (qco (xInt r (nNat i) 0) (xStr r (nNat i) 1) (xInt r (nNat i) 2) (xInt r (nNat i) 3) (xStr r (nNat i) 4))]] 5) (.ite (qao r3 5) (.ite (nEq k (nXs r3)) (.ret (.next [.ptr 0 0,.ptr 1 0,.ptr 2 0,.int .i64 (iAdd .i64 i 1)] (Store.mk [[.str s,.sl r .non],[.str s2,.sl r2 .full],[.str s3,.sl (xApp r3 [[.int .i64 (qdw (xInt r (nNat i) 0) (xStr r (nNat i) 1) (xInt r (nNat i) 2) (xInt r (nNat i) 3) (xStr r (nNat i) 4)),
 .str (qdy (xInt r (nNat i) 0) (xStr r (nNat i) 1) (xInt r (nNat i) 2) (xInt r (nNat i) 3) (xStr r (nNat i) 4)),.int .i64 (qcn (xInt r (nNat i) 0) (xStr r (nNat i) 1) (xInt r (nNat i) 2) (xInt r (nNat i) 3) (xStr r (nNat i) 4)),.int .i64 (qct (xInt r (nNat i) 0) (xStr r (nNat i) 1) (xInt r (nNat i) 2) (xInt r (nNat i) 3) (xStr r (nNat i) 4)),.str (qco (xInt r (nNat i) 0) (xStr r (nNat i) 1) (xInt r (nNat i) 2) (xInt r (nNat i) 3) (xStr r (nNat i) 4))]]) (.tok 0)]] [(nXs (xApp r3 [[.int .i64 (qdw (xInt r (nNat i) 0) (xStr r (nNat i) 1) (xInt r (nNat i) 2) (xInt r (nNat i) 3) (xStr r (nNat i) 4)),.str (qdy (xInt r (nNat i) 0) (xStr r (nNat i) 1) (xInt r (nNat i) 2) (xInt r (nNat i) 3) (xStr r (nNat i) 4)),.int .i64 (qcn (xInt r (nNat i) 0) (xStr r (nNat i) 1) (xInt r (nNat i) 2) (xInt r (nNat i) 3) (xStr r (nNat i) 4)),.int .i64 (qct (xInt r (nNat i) 0) (xStr r (nNat i) 1) (xInt r (nNat i) 2) (xInt r (nNat i) 3) (xStr r (nNat i) 4)),.str (qco (xInt r (nNat i) 0) (xStr r (nNat i) 1) (xInt r (nNat i) 2) (xInt r (nNat i) 3) (xStr r (nNat i) 4))]]),5,27)] [31,31,31]))) .fail) .fail) .fail) .fail) .fail) .fail) .fail) (.ret (.out (.exit 0) [.ptr 1 0,.ptr 2 0] (Store.mk [[.str s,.sl r .non],[.str s2,.sl r2 .full],[.str s3,.sl r3 (.tok 0)]] [(k,5,27)] [31,31,31])))) (.ret (.out (.exit 0) [.ptr 1 0,.ptr 2 0] (Store.mk [[.str s,.sl r .non],[.str s2,.sl r2 .full],[.str s3,.sl r3 (.tok 0)]] [(k,5,27)] [31,31,31])))
theorem qIl (i:Int) (s:List UInt8) (r:List (List PV)) (s2:List UInt8) (r2:List (List PV)) (s3:List UInt8) (r3:List (List PV)) (k:Nat):lstep tbT qpG qrB qo1 qog [.ptr 0 0,.ptr 1 0,.ptr 2 0,.int .i64 i] ⟨[[.str s,.sl r .non],[.str s2,.sl r2 .full],[.str s3,.sl r3 (.tok 0)]],[(k,5,27)],[31,31,31]⟩=qiG i s r s2 r2 s3 r3 k:=by kernel_rfl
theorem qA0 (i:Int) (s:List UInt8) (r:List (List PV)) (s2:List UInt8) (r2:List (List PV)) (s3:List UInt8) (r3:List (List PV)) (k:Nat):qeR [.ptr 0 0,.ptr 1 0,.ptr 2 0,.int .i64 i] ⟨[[.str s,.sl r .non],[.str s2,.sl r2 .full],[.str s3,.sl r3 (.tok 0)]],[(k,5,27)],[31,31,31]⟩=lnext qeR (qiG i s r s2 r2 s3 r3 k).run:=by unfold qeR; rw [qbF,qIl]
noncomputable def qfa (i:Int) (s:List UInt8) (r:List (List PV)) (s2:List UInt8) (r2:List (List PV)) (s3:List UInt8) (r3:List (List PV)) (k:Nat):Option (PExit × List PV × Store):=qeR [.ptr 0 0,.ptr 1 0,.ptr 2 0,.int .i64 i] ⟨[[.str s,.sl r .non],[.str s2,.sl r2 .full],[.str s3,.sl r3 (.tok 0)]],[(k,5,27)],[31,31,31]⟩
noncomputable def quP (i:Int) (s:List UInt8) (r:List (List PV)) (s2:List UInt8) (r2:List (List PV)) (s3:List UInt8) (r3:List (List PV)) (k:Nat):List UInt8:=(gStr (gAt (gObj (qfa i s r s2 r2 s3 r3 k) 0) 0))
noncomputable def qum (i:Int) (s:List UInt8) (r:List (List PV)) (s2:List UInt8) (r2:List (List PV)) (s3:List UInt8) (r3:List (List PV)) (k:Nat):List (List PV):=(gRow (gAt (gObj (qfa i s r s2 r2 s3 r3 k) 0) 1))
noncomputable def qr2 (i:Int) (s:List UInt8) (r:List (List PV)) (s2:List UInt8) (r2:List (List PV)) (s3:List UInt8) (r3:List (List PV)) (k:Nat):List UInt8:=(gStr (gAt (gObj (qfa i s r s2 r2 s3 r3 k) 1) 0))
noncomputable def qqe (i:Int) (s:List UInt8) (r:List (List PV)) (s2:List UInt8) (r2:List (List PV)) (s3:List UInt8) (r3:List (List PV)) (k:Nat):List (List PV):=(gRow (gAt (gObj (qfa i s r s2 r2 s3 r3 k) 1) 1))
noncomputable def qml (i:Int) (s:List UInt8) (r:List (List PV)) (s2:List UInt8) (r2:List (List PV)) (s3:List UInt8) (r3:List (List PV)) (k:Nat):List UInt8:=(gStr (gAt (gObj (qfa i s r s2 r2 s3 r3 k) 2) 0))
noncomputable def qmr (i:Int) (s:List UInt8) (r:List (List PV)) (s2:List UInt8) (r2:List (List PV)) (s3:List UInt8) (r3:List (List PV)) (k:Nat):List (List PV):=(gRow (gAt (gObj (qfa i s r s2 r2 s3 r3 k) 2) 1))
noncomputable def qtY (i:Int) (s:List UInt8) (r:List (List PV)) (s2:List UInt8) (r2:List (List PV)) (s3:List UInt8) (r3:List (List PV)) (k:Nat):Nat:=(gTok (qfa i s r s2 r2 s3 r3 k) 0)
noncomputable def qnB (i:Int) (s:List UInt8) (r:List (List PV)) (s2:List UInt8) (r2:List (List PV)) (s3:List UInt8) (r3:List (List PV)) (k:Nat):Bool:=isW (qfa i s r s2 r2 s3 r3 k) ((.exit 0),[.ptr 1 0,.ptr 2 0],⟨[[.str (quP i s r s2 r2 s3 r3 k),.sl (qum i s r s2 r2 s3 r3 k) .non],[.str (qr2 i s r s2 r2 s3 r3 k),.sl (qqe i s r s2 r2 s3 r3 k) .full],[.str (qml i s r s2 r2 s3 r3 k),.sl (qmr i s r s2 r2 s3 r3 k) (.tok 0)]],[((qtY i s r s2 r2 s3 r3 k),5,27)],[31,31,31]⟩)
noncomputable def qib:List PV→Store→Tr (PExit × List PV × Store) | [.ptr 0 0,.ptr 1 0,.ptr 2 0,.int .i64 i],⟨[[.str s,.sl r .non],[.str s2,.sl r2 .full],[.str s3,.sl r3 (.tok 0)]],[(k,5,27)],[31,31,31]⟩=>.ite (qnB i s r s2 r2 s3 r3 k) (.ret ((.exit 0),[.ptr 1 0,.ptr 2 0],⟨[[.str (quP i s r s2 r2 s3 r3 k),.sl (qum i s r s2 r2 s3 r3 k) .non],[.str (qr2 i s r s2 r2 s3 r3 k),.sl (qqe i s r s2 r2 s3 r3 k) .full],[.str (qml i s r s2 r2 s3 r3 k),.sl (qmr i s r s2 r2 s3 r3 k) (.tok 0)]],[((qtY i s r s2 r2 s3 r3 k),5,27)],[31,31,31]⟩)) (.fail) | _,_=>.fail
theorem qCZ:∀ vs σ r,(qib vs σ).run=some r→qeR vs σ=some r:=by
 intro vs σ r h
 unfold qib at h
 split at h
 ·exact qai h fun h=>by cases h
 ·cases h
theorem qzp (gl:Gl):∀ fr σ e fr' σ',(orc qog qib fr σ).run=some (e,fr',σ')→LDoes Tryz.prog gl qo1 fr σ e fr' σ':=qcl qaj (qvL gl ) qah (L:=qrB) (qae (by kernel_rfl)) (by kernel_rfl) qCZ
noncomputable def qyo:LpsT:=fun r fr σ=>bif Nat.beq r 3 then orc qog qib fr σ else .fail
noncomputable def qvf (a:List UInt8) (a2:List (List PV)):Tr PV:=.ite (qlI a) (.ite (qnB 0 a a2 [] [] (tx_s a) [] 0) (.ret (.agg [.str (qml 0 a a2 [] [] (tx_s a) [] 0),.sl (qb4 (qmr 0 a a2 [] [] (tx_s a) [] 0)) .non])) .fail) .fail
theorem qKj (a:List UInt8) (a2:List (List PV)):(tcall tbT qpG qyo Tryz.f42 [.agg [.str a,.sl a2 .non]]).flat=qvf a a2:=by kernel_rfl
noncomputable def qrs (a:List UInt8) (a2:List (List PV)):Option PV:=(qvf a a2).run
noncomputable def qdG (a:List UInt8) (a2:List (List PV)):List UInt8:=(gStr (gAt (gCs (gVal (qrs a a2))) 0))
noncomputable def qdE (a:List UInt8) (a2:List (List PV)):List (List PV):=(gRow (gAt (gCs (gVal (qrs a a2))) 1))
noncomputable def qeY (a:List UInt8) (a2:List (List PV)):Bool:=isW (qrs a a2) (.agg [.str (qdG a a2),.sl (qdE a a2) .non])
noncomputable def qqk:List PV→Tr PV | [.agg [.str a,.sl a2 .non]]=>.ite (qeY a a2) (.ret (.agg [.str (qdG a a2),.sl (qdE a a2) .non])) (.fail) | _=>.fail
theorem qrZ (gl:Gl):SimP Tryz.prog gl 42 fun args=>(qqk args).run:=by
 refine SimP.of_flat (G:=qpG) (L:=qyo) qaj (qvL gl ) qah Tryz.func42 rfl (by rfl) (by kernel_rfl) (qaX (L:=lps qyo) [(3,qo1)] (by kernel_rfl) (List.forall_mem_cons.2 ⟨fun fr σ e fr' σ' h=>qzp gl  fr σ e fr' σ' h,(List.forall_mem_nil _)⟩)) ?_
 intro args x h
 unfold qqk at h
 split at h
 ·exact (congrArg Tr.run (qKj _ _)).trans (qai h fun h=>by cases h)
 ·cases h
noncomputable def qnI:GamT:=ofL [(9,.pure qtn),(42,.pure qqk)]
theorem qvV (gl:Gl):qaH Tryz.prog gl (gam qnI):=(qac (qwf gl) (qac (qrZ gl) qag))
noncomputable def qsC:LpsT:=fun r fr σ=>.fail
noncomputable def qlj (l:Int) (l2:List UInt8) (l3:List (List PV)) (l4:Int) (l5:Int) (l6:List UInt8) (l7:Int) (l8:Int) (l9:List UInt8) (l10:Int) (l11:List UInt8) (l12:Int) (l13:Int) (l14:List UInt8):Tr PV:=.ite (qeY l2 (qaa l3)) (.ite (qc8 l5 l6 l7 l8 l9) (.ite (qc8 l10 l11 l12 l13 l14) (.ret (.agg [.int .i64 l,.str (qdG l2 (qaa l3)),.sl (qb4 (qdE l2 (qaa l3))) .non,.int .i64 l4,.int .i64 (qdw l5 l6 l7 l8 l9),.str (qdy l5 l6 l7 l8 l9),.int .i64 (qcn l5 l6 l7 l8 l9),.int .i64 (qct l5 l6 l7 l8 l9),.str (qco l5 l6 l7 l8 l9),.int .i64 (qdw l10 l11 l12 l13 l14),.str (qdy l10 l11 l12 l13 l14),.int .i64 (qcn l10 l11 l12 l13 l14),.int .i64 (qct l10 l11 l12 l13 l14),.str (qco l10 l11 l12 l13 l14)])) .fail) .fail) .fail
theorem qBv (l:Int) (l2:List UInt8) (l3:List (List PV)) (l4:Int) (l5:Int) (l6:List UInt8) (l7:Int) (l8:Int) (l9:List UInt8) (l10:Int) (l11:List UInt8) (l12:Int) (l13:Int) (l14:List UInt8):(tcall tbT qnI qsC Tryz.f10 [.agg [.int .i64 l,.str l2,.sl l3 .non,.int .i64 l4,.int .i64 l5,.str l6,.int .i64 l7,.int .i64 l8,.str l9,.int .i64 l10,.str l11,.int .i64 l12,.int .i64 l13,.str l14]]).flat=qlj l l2 l3 l4 l5 l6 l7 l8 l9 l10 l11 l12 l13 l14:=by kernel_rfl
noncomputable def qbC (l:Int) (l2:List UInt8) (l3:List (List PV)) (l4:Int) (l5:Int) (l6:List UInt8) (l7:Int) (l8:Int) (l9:List UInt8) (l10:Int) (l11:List UInt8) (l12:Int) (l13:Int) (l14:List UInt8):Option PV:=(qlj l l2 l3 l4 l5 l6 l7 l8 l9 l10 l11 l12 l13 l14).run
noncomputable def qbg (l:Int) (l2:List UInt8) (l3:List (List PV)) (l4:Int) (l5:Int) (l6:List UInt8) (l7:Int) (l8:Int) (l9:List UInt8) (l10:Int) (l11:List UInt8) (l12:Int) (l13:Int) (l14:List UInt8):Int:=(gInt (gAt (gCs (gVal (qbC l l2 l3 l4 l5 l6 l7 l8 l9 l10 l11 l12 l13 l14))) 0))
noncomputable def qbe (l:Int) (l2:List UInt8) (l3:List (List PV)) (l4:Int) (l5:Int) (l6:List UInt8) (l7:Int) (l8:Int) (l9:List UInt8) (l10:Int) (l11:List UInt8) (l12:Int) (l13:Int) (l14:List UInt8):List UInt8:=(gStr (gAt (gCs (gVal (qbC l l2 l3 l4 l5 l6 l7 l8 l9 l10 l11 l12 l13 l14))) 1))
noncomputable def qbd (l:Int) (l2:List UInt8) (l3:List (List PV)) (l4:Int) (l5:Int) (l6:List UInt8) (l7:Int) (l8:Int) (l9:List UInt8) (l10:Int) (l11:List UInt8) (l12:Int) (l13:Int) (l14:List UInt8):List (List PV):=(gRow (gAt (gCs (gVal (qbC l l2 l3 l4 l5 l6 l7 l8 l9 l10 l11 l12 l13 l14))) 2))
noncomputable def qaU (l:Int) (l2:List UInt8) (l3:List (List PV)) (l4:Int) (l5:Int) (l6:List UInt8) (l7:Int) (l8:Int) (l9:List UInt8) (l10:Int) (l11:List UInt8) (l12:Int) (l13:Int) (l14:List UInt8):Int:=(gInt (gAt (gCs (gVal (qbC l l2 l3 l4 l5 l6 l7 l8 l9 l10 l11 l12 l13 l14))) 3))
noncomputable def qaT (l:Int) (l2:List UInt8) (l3:List (List PV)) (l4:Int) (l5:Int) (l6:List UInt8) (l7:Int) (l8:Int) (l9:List UInt8) (l10:Int) (l11:List UInt8) (l12:Int) (l13:Int) (l14:List UInt8):Int:=(gInt (gAt (gCs (gVal (qbC l l2 l3 l4 l5 l6 l7 l8 l9 l10 l11 l12 l13 l14))) 4))
noncomputable def qaN (l:Int) (l2:List UInt8) (l3:List (List PV)) (l4:Int) (l5:Int) (l6:List UInt8) (l7:Int) (l8:Int) (l9:List UInt8) (l10:Int) (l11:List UInt8) (l12:Int) (l13:Int) (l14:List UInt8):List UInt8:=(gStr (gAt (gCs (gVal (qbC l l2 l3 l4 l5 l6 l7 l8 l9 l10 l11 l12 l13 l14))) 5))
noncomputable def qaO (l:Int) (l2:List UInt8) (l3:List (List PV)) (l4:Int) (l5:Int) (l6:List UInt8) (l7:Int) (l8:Int) (l9:List UInt8) (l10:Int) (l11:List UInt8) (l12:Int) (l13:Int) (l14:List UInt8):Int:=(gInt (gAt (gCs (gVal (qbC l l2 l3 l4 l5 l6 l7 l8 l9 l10 l11 l12 l13 l14))) 6))
noncomputable def qaR (l:Int) (l2:List UInt8) (l3:List (List PV)) (l4:Int) (l5:Int) (l6:List UInt8) (l7:Int) (l8:Int) (l9:List UInt8) (l10:Int) (l11:List UInt8) (l12:Int) (l13:Int) (l14:List UInt8):Int:=(gInt (gAt (gCs (gVal (qbC l l2 l3 l4 l5 l6 l7 l8 l9 l10 l11 l12 l13 l14))) 7))
noncomputable def qaV (l:Int) (l2:List UInt8) (l3:List (List PV)) (l4:Int) (l5:Int) (l6:List UInt8) (l7:Int) (l8:Int) (l9:List UInt8) (l10:Int) (l11:List UInt8) (l12:Int) (l13:Int) (l14:List UInt8):List UInt8:=(gStr (gAt (gCs (gVal (qbC l l2 l3 l4 l5 l6 l7 l8 l9 l10 l11 l12 l13 l14))) 8))
noncomputable def qaM (l:Int) (l2:List UInt8) (l3:List (List PV)) (l4:Int) (l5:Int) (l6:List UInt8) (l7:Int) (l8:Int) (l9:List UInt8) (l10:Int) (l11:List UInt8) (l12:Int) (l13:Int) (l14:List UInt8):Int:=(gInt (gAt (gCs (gVal (qbC l l2 l3 l4 l5 l6 l7 l8 l9 l10 l11 l12 l13 l14))) 9))
noncomputable def qaQ (l:Int) (l2:List UInt8) (l3:List (List PV)) (l4:Int) (l5:Int) (l6:List UInt8) (l7:Int) (l8:Int) (l9:List UInt8) (l10:Int) (l11:List UInt8) (l12:Int) (l13:Int) (l14:List UInt8):List UInt8:=(gStr (gAt (gCs (gVal (qbC l l2 l3 l4 l5 l6 l7 l8 l9 l10 l11 l12 l13 l14))) 10))
noncomputable def qaS (l:Int) (l2:List UInt8) (l3:List (List PV)) (l4:Int) (l5:Int) (l6:List UInt8) (l7:Int) (l8:Int) (l9:List UInt8) (l10:Int) (l11:List UInt8) (l12:Int) (l13:Int) (l14:List UInt8):Int:=(gInt (gAt (gCs (gVal (qbC l l2 l3 l4 l5 l6 l7 l8 l9 l10 l11 l12 l13 l14))) 11))
noncomputable def qaP (l:Int) (l2:List UInt8) (l3:List (List PV)) (l4:Int) (l5:Int) (l6:List UInt8) (l7:Int) (l8:Int) (l9:List UInt8) (l10:Int) (l11:List UInt8) (l12:Int) (l13:Int) (l14:List UInt8):Int:=(gInt (gAt (gCs (gVal (qbC l l2 l3 l4 l5 l6 l7 l8 l9 l10 l11 l12 l13 l14))) 12))
noncomputable def qaL (l:Int) (l2:List UInt8) (l3:List (List PV)) (l4:Int) (l5:Int) (l6:List UInt8) (l7:Int) (l8:Int) (l9:List UInt8) (l10:Int) (l11:List UInt8) (l12:Int) (l13:Int) (l14:List UInt8):List UInt8:=(gStr (gAt (gCs (gVal (qbC l l2 l3 l4 l5 l6 l7 l8 l9 l10 l11 l12 l13 l14))) 13))
noncomputable def qa5 (l:Int) (l2:List UInt8) (l3:List (List PV)) (l4:Int) (l5:Int) (l6:List UInt8) (l7:Int) (l8:Int) (l9:List UInt8) (l10:Int) (l11:List UInt8) (l12:Int) (l13:Int) (l14:List UInt8):Bool:=isW (qbC l l2 l3 l4 l5 l6 l7 l8 l9 l10 l11 l12 l13 l14) (.agg [.int .i64 (qbg l l2 l3 l4 l5 l6 l7 l8 l9 l10 l11 l12 l13 l14),.str (qbe l l2 l3 l4 l5 l6 l7 l8 l9 l10 l11 l12 l13 l14),.sl (qbd l l2 l3 l4 l5 l6 l7 l8 l9 l10 l11 l12 l13 l14) .non,.int .i64 (qaU l l2 l3 l4 l5 l6 l7 l8 l9 l10 l11 l12 l13 l14),.int .i64 (qaT l l2 l3 l4 l5 l6 l7 l8 l9 l10 l11 l12 l13 l14),.str (qaN l l2 l3 l4 l5 l6 l7 l8 l9 l10 l11 l12 l13 l14),.int .i64 (qaO l l2 l3 l4 l5 l6 l7 l8 l9 l10 l11 l12 l13 l14),.int .i64 (qaR l l2 l3 l4 l5 l6 l7 l8 l9 l10 l11 l12 l13 l14),.str (qaV l l2 l3 l4 l5 l6 l7 l8 l9 l10 l11 l12 l13 l14),.int .i64 (qaM l l2 l3 l4 l5 l6 l7 l8 l9 l10 l11 l12 l13 l14),.str (qaQ l l2 l3 l4 l5 l6 l7 l8 l9 l10 l11 l12 l13 l14),.int .i64 (qaS l l2 l3 l4 l5 l6 l7 l8 l9 l10 l11 l12 l13 l14),.int .i64 (qaP l l2 l3 l4 l5 l6 l7 l8 l9 l10 l11 l12 l13 l14),.str (qaL l l2 l3 l4 l5 l6 l7 l8 l9 l10 l11 l12 l13 l14)])
noncomputable def qnf:List PV→Tr PV | [.agg [.int .i64 l,.str l2,.sl l3 .non,.int .i64 l4,.int .i64 l5,.str l6,.int .i64 l7,.int .i64 l8,.str l9,.int .i64 l10,.str l11,.int .i64 l12,.int .i64 l13,.str l14]]=>.ite (qa5 l l2 l3 l4 l5 l6 l7 l8 l9 l10 l11 l12 l13 l14) (.ret (.agg [.int .i64 (qbg l l2 l3 l4 l5 l6 l7 l8 l9 l10 l11 l12 l13 l14),.str (qbe l l2 l3 l4 l5 l6 l7 l8 l9 l10 l11 l12 l13 l14),.sl (qbd l l2 l3 l4 l5 l6 l7 l8 l9 l10 l11 l12 l13 l14) .non,.int .i64 (qaU l l2 l3 l4 l5 l6 l7 l8 l9 l10 l11 l12 l13 l14),.int .i64 (qaT l l2 l3 l4 l5 l6 l7 l8 l9 l10 l11 l12 l13 l14),.str (qaN l l2 l3 l4 l5 l6 l7 l8 l9 l10 l11 l12 l13 l14),.int .i64 (qaO l l2 l3 l4 l5 l6 l7 l8 l9 l10 l11 l12 l13 l14),.int .i64 (qaR l l2 l3 l4 l5 l6 l7 l8 l9 l10 l11 l12 l13 l14),.str (qaV l l2 l3 l4 l5 l6 l7 l8 l9 l10 l11 l12 l13 l14),.int .i64 (qaM l l2 l3 l4 l5 l6 l7 l8 l9 l10 l11 l12 l13 l14),.str (qaQ l l2 l3 l4 l5 l6 l7 l8 l9 l10 l11 l12 l13 l14),.int .i64 (qaS l l2 l3 l4 l5 l6 l7 l8 l9 l10 l11 l12 l13 l14),.int .i64 (qaP l l2 l3 l4 l5 l6 l7 l8 l9 l10 l11 l12 l13 l14),.str (qaL l l2 l3 l4 l5 l6 l7 l8 l9 l10 l11 l12 l13 l14)])) (.fail) | _=>.fail
theorem qv5 (gl:Gl):SimP Tryz.prog gl 10 fun args=>(qnf args).run:=by
 refine SimP.of_flat (G:=qnI) (L:=qsC) qaj (qvV gl ) qah Tryz.func10 rfl (by rfl) (by kernel_rfl) (qae (by kernel_rfl)) ?_
 intro args x h
 unfold qnf at h
 split at h
 ·exact (congrArg Tr.run (qBv _ _ _ _ _ _ _ _ _ _ _ _ _ _)).trans (qai h fun h=>by cases h)
 ·cases h
noncomputable def qqM:GamT:=ofL [(10,.pure qnf),(42,.pure qqk),(qeS,.hint [(8,2,14,34)])]
theorem qwu (gl:Gl):qaH Tryz.prog gl (gam qqM):=(qac (qv5 gl) (qac (qrZ gl) (qbH (K:=.hint [(8,2,14,34)]) trivial qag)))
noncomputable def qn0:Code:=qeX Tryz.f23 3
def qor:LI:=⟨32,[1,2,3,4],fun e=>match e with | .exit 0=>[2,3] | _=>[],true⟩
noncomputable def qqy:LpsT:=fun r fr σ=>.fail
noncomputable def qeK (vs:List PV) (σ:Store):Option (PExit × List PV × Store):=lval (lstep tbT qqM qqy qn0 qor) vs σ
noncomputable def qiT (i:Int) (s:List UInt8) (r:List (List PV)) (r2:List (List PV)) (s2:List UInt8) (r3:List (List PV)) (r4:List (List PV)) (s3:List UInt8) (r5:List (List PV)) (r6:List (List PV)) (k:Nat):Tr LR:=.ite (iLt i (xLen r2)) (.ite (iLt i 8) (.ite (qak i) (.ite (qbs [.int .i64 0,.str [],.sl [] .full,.int .i64 0,.int .i64 0,.str [],.int .i64 0,.int .i64 0,.str [],.int .i64 0,.str [],.int .i64 0,.int .i64 0,.str []] r2 (nNat i)) (.ite (qa5 (xInt r2 (nNat i) 0) (xStr r2 (nNat i) 1) (qaa (xRow r2 (nNat i) 2)) (xInt r2 (nNat i) 3) (xInt r2 (nNat i) 4) (xStr r2 (nNat i) 5) (xInt r2 (nNat i) 6) (xInt r2 (nNat i) 7) (xStr r2 (nNat i) 8) (xInt r2 (nNat i) 9) (xStr r2 (nNat i) 10) (xInt r2 (nNat i) 11) (xInt r2 (nNat i) 12) (xStr r2 (nNat i) 13)) (.ite (qaz r6 [[.int .i64 (qbg (xInt r2 (nNat i) 0) (xStr r2 (nNat i) 1) (qaa (xRow r2 (nNat i) 2)) (xInt r2 (nNat i) 3) (xInt r2 (nNat i) 4) (xStr r2 (nNat i) 5) (xInt r2 (nNat i) 6) (xInt r2 (nNat i) 7) (xStr r2 (nNat i) 8) (xInt r2 (nNat i) 9) (xStr r2 (nNat i) 10) (xInt r2 (nNat i) 11) (xInt r2 (nNat i) 12) (xStr r2 (nNat i) 13)),.str (qbe (xInt r2 (nNat i) 0) (xStr r2 (nNat i) 1) (qaa (xRow r2 (nNat i) 2)) (xInt r2 (nNat i) 3) (xInt r2 (nNat i) 4) (xStr r2 (nNat i) 5) (xInt r2 (nNat i) 6) (xInt r2 (nNat i) 7) (xStr r2 (nNat i) 8) (xInt r2 (nNat i) 9) (xStr r2 (nNat i) 10) (xInt r2 (nNat i) 11) (xInt r2 (nNat i) 12) (xStr r2 (nNat i) 13)),.sl (qbd (xInt r2 (nNat i) 0) (xStr r2 (nNat i) 1) (qaa (xRow r2 (nNat i) 2)) (xInt r2 (nNat i) 3) (xInt r2 (nNat i) 4) (xStr r2 (nNat i) 5) (xInt r2 (nNat i) 6) (xInt r2 (nNat i) 7) (xStr r2 (nNat i) 8) (xInt r2 (nNat i) 9) (xStr r2 (nNat i) 10) (xInt r2 (nNat i) 11) (xInt r2 (nNat i) 12) (xStr r2 (nNat i) 13)) .non,.int .i64 (qaU (xInt r2 (nNat i) 0) (xStr r2 (nNat i) 1) (qaa (xRow r2 (nNat i) 2)) (xInt r2 (nNat i) 3) (xInt r2 (nNat i) 4) (xStr r2 (nNat i) 5)
 (xInt r2 (nNat i) 6) (xInt r2 (nNat i) 7) (xStr r2 (nNat i) 8) (xInt r2 (nNat i) 9) (xStr r2 (nNat i) 10) (xInt r2 (nNat i) 11) (xInt r2 (nNat i) 12) (xStr r2 (nNat i) 13)),.int .i64 (qaT (xInt r2 (nNat i) 0) (xStr r2 (nNat i) 1) (qaa (xRow r2 (nNat i) 2)) (xInt r2 (nNat i) 3) (xInt r2 (nNat i) 4) (xStr r2 (nNat i) 5) (xInt r2 (nNat i) 6) (xInt r2 (nNat i) 7) (xStr r2 (nNat i) 8) (xInt r2 (nNat i) 9) (xStr r2 (nNat i) 10) (xInt r2 (nNat i) 11) (xInt r2 (nNat i) 12) (xStr r2 (nNat i) 13)),.str (qaN (xInt r2 (nNat i) 0) (xStr r2 (nNat i) 1) (qaa (xRow r2 (nNat i) 2)) (xInt r2 (nNat i) 3) (xInt r2 (nNat i) 4) (xStr r2 (nNat i) 5) (xInt r2 (nNat i) 6) (xInt r2 (nNat i) 7) (xStr r2 (nNat i) 8) (xInt r2 (nNat i) 9) (xStr r2 (nNat i) 10) (xInt r2 (nNat i) 11) (xInt r2 (nNat i) 12) (xStr r2 (nNat i) 13)),.int .i64 (qaO (xInt r2 (nNat i) 0) (xStr r2 (nNat i) 1) (qaa (xRow r2 (nNat i) 2)) (xInt r2 (nNat i) 3) (xInt r2 (nNat i) 4) (xStr r2 (nNat i) 5) (xInt r2 (nNat i) 6) (xInt r2 (nNat i) 7) (xStr r2 (nNat i) 8) (xInt r2 (nNat i) 9) (xStr r2 (nNat i) 10) (xInt r2 (nNat i) 11) (xInt r2 (nNat i) 12) (xStr r2 (nNat i) 13)),.int .i64 (qaR (xInt r2 (nNat i) 0) (xStr r2 (nNat i) 1) (qaa (xRow r2 (nNat i) 2)) (xInt r2 (nNat i) 3) (xInt r2 (nNat i) 4) (xStr r2 (nNat i) 5) (xInt r2 (nNat i) 6) (xInt r2 (nNat i) 7) (xStr r2 (nNat i) 8) (xInt r2 (nNat i) 9) (xStr r2 (nNat i) 10) (xInt r2 (nNat i) 11) (xInt r2 (nNat i) 12) (xStr r2 (nNat i) 13)),.str (qaV (xInt r2 (nNat i) 0) (xStr r2 (nNat i) 1) (qaa (xRow r2 (nNat i) 2)) (xInt r2 (nNat i) 3) (xInt r2 (nNat i) 4) (xStr r2 (nNat i) 5) (xInt r2 (nNat i) 6) (xInt r2 (nNat i) 7) (xStr r2 (nNat i) 8) (xInt r2 (nNat i) 9) (xStr r2 (nNat i) 10) (xInt r2 (nNat i) 11) (xInt r2 (nNat i) 12) (xStr r2 (nNat i) 13)),.int .i64 (qaM (xInt r2 (nNat i) 0) (xStr r2 (nNat i) 1) (qaa (xRow r2 (nNat i) 2)) (xInt r2 (nNat i) 3) (xInt r2 (nNat i) 4) (xStr r2 (nNat i) 5)
 (xInt r2 (nNat i) 6) (xInt r2 (nNat i) 7) (xStr r2 (nNat i) 8) (xInt r2 (nNat i) 9) (xStr r2 (nNat i) 10) (xInt r2 (nNat i) 11) (xInt r2 (nNat i) 12) (xStr r2 (nNat i) 13)),.str (qaQ (xInt r2 (nNat i) 0) (xStr r2 (nNat i) 1) (qaa (xRow r2 (nNat i) 2)) (xInt r2 (nNat i) 3) (xInt r2 (nNat i) 4) (xStr r2 (nNat i) 5) (xInt r2 (nNat i) 6) (xInt r2 (nNat i) 7) (xStr r2 (nNat i) 8) (xInt r2 (nNat i) 9) (xStr r2 (nNat i) 10) (xInt r2 (nNat i) 11) (xInt r2 (nNat i) 12) (xStr r2 (nNat i) 13)),.int .i64 (qaS (xInt r2 (nNat i) 0) (xStr r2 (nNat i) 1) (qaa (xRow r2 (nNat i) 2)) (xInt r2 (nNat i) 3) (xInt r2 (nNat i) 4) (xStr r2 (nNat i) 5) (xInt r2 (nNat i) 6) (xInt r2 (nNat i) 7) (xStr r2 (nNat i) 8) (xInt r2 (nNat i) 9) (xStr r2 (nNat i) 10) (xInt r2 (nNat i) 11) (xInt r2 (nNat i) 12) (xStr r2 (nNat i) 13)),.int .i64 (qaP (xInt r2 (nNat i) 0) (xStr r2 (nNat i) 1) (qaa (xRow r2 (nNat i) 2)) (xInt r2 (nNat i) 3) (xInt r2 (nNat i) 4) (xStr r2 (nNat i) 5) (xInt r2 (nNat i) 6) (xInt r2 (nNat i) 7) (xStr r2 (nNat i) 8) (xInt r2 (nNat i) 9) (xStr r2 (nNat i) 10) (xInt r2 (nNat i) 11) (xInt r2 (nNat i) 12) (xStr r2 (nNat i) 13)),.str (qaL (xInt r2 (nNat i) 0) (xStr r2 (nNat i) 1) (qaa (xRow r2 (nNat i) 2)) (xInt r2 (nNat i) 3) (xInt r2 (nNat i) 4) (xStr r2 (nNat i) 5) (xInt r2 (nNat i) 6) (xInt r2 (nNat i) 7) (xStr r2 (nNat i) 8) (xInt r2 (nNat i) 9) (xStr r2 (nNat i) 10) (xInt r2 (nNat i) 11) (xInt r2 (nNat i) 12) (xStr r2 (nNat i) 13))]] 168) (.ite (qas [[.int .i64 (qbg (xInt r2 (nNat i) 0) (xStr r2 (nNat i) 1) (qaa (xRow r2 (nNat i) 2)) (xInt r2 (nNat i) 3) (xInt r2 (nNat i) 4) (xStr r2 (nNat i) 5) (xInt r2 (nNat i) 6) (xInt r2 (nNat i) 7) (xStr r2 (nNat i) 8) (xInt r2 (nNat i) 9) (xStr r2 (nNat i) 10) (xInt r2 (nNat i) 11) (xInt r2 (nNat i) 12) (xStr r2 (nNat i) 13)),.str (qbe (xInt r2 (nNat i) 0) (xStr r2 (nNat i) 1) (qaa (xRow r2 (nNat i) 2)) (xInt r2 (nNat i) 3) (xInt r2 (nNat i) 4) (xStr r2 (nNat i) 5)
 (xInt r2 (nNat i) 6) (xInt r2 (nNat i) 7) (xStr r2 (nNat i) 8) (xInt r2 (nNat i) 9) (xStr r2 (nNat i) 10) (xInt r2 (nNat i) 11) (xInt r2 (nNat i) 12) (xStr r2 (nNat i) 13)),.sl (qbd (xInt r2 (nNat i) 0) (xStr r2 (nNat i) 1) (qaa (xRow r2 (nNat i) 2)) (xInt r2 (nNat i) 3) (xInt r2 (nNat i) 4) (xStr r2 (nNat i) 5) (xInt r2 (nNat i) 6) (xInt r2 (nNat i) 7) (xStr r2 (nNat i) 8) (xInt r2 (nNat i) 9) (xStr r2 (nNat i) 10) (xInt r2 (nNat i) 11) (xInt r2 (nNat i) 12) (xStr r2 (nNat i) 13)) .non,.int .i64 (qaU (xInt r2 (nNat i) 0) (xStr r2 (nNat i) 1) (qaa (xRow r2 (nNat i) 2)) (xInt r2 (nNat i) 3) (xInt r2 (nNat i) 4) (xStr r2 (nNat i) 5) (xInt r2 (nNat i) 6) (xInt r2 (nNat i) 7) (xStr r2 (nNat i) 8) (xInt r2 (nNat i) 9) (xStr r2 (nNat i) 10) (xInt r2 (nNat i) 11) (xInt r2 (nNat i) 12) (xStr r2 (nNat i) 13)),.int .i64 (qaT (xInt r2 (nNat i) 0) (xStr r2 (nNat i) 1) (qaa (xRow r2 (nNat i) 2)) (xInt r2 (nNat i) 3) (xInt r2 (nNat i) 4) (xStr r2 (nNat i) 5) (xInt r2 (nNat i) 6) (xInt r2 (nNat i) 7) (xStr r2 (nNat i) 8) (xInt r2 (nNat i) 9) (xStr r2 (nNat i) 10) (xInt r2 (nNat i) 11) (xInt r2 (nNat i) 12) (xStr r2 (nNat i) 13)),.str (qaN (xInt r2 (nNat i) 0) (xStr r2 (nNat i) 1) (qaa (xRow r2 (nNat i) 2)) (xInt r2 (nNat i) 3) (xInt r2 (nNat i) 4) (xStr r2 (nNat i) 5) (xInt r2 (nNat i) 6) (xInt r2 (nNat i) 7) (xStr r2 (nNat i) 8) (xInt r2 (nNat i) 9) (xStr r2 (nNat i) 10) (xInt r2 (nNat i) 11) (xInt r2 (nNat i) 12) (xStr r2 (nNat i) 13)),.int .i64 (qaO (xInt r2 (nNat i) 0) (xStr r2 (nNat i) 1) (qaa (xRow r2 (nNat i) 2)) (xInt r2 (nNat i) 3) (xInt r2 (nNat i) 4) (xStr r2 (nNat i) 5) (xInt r2 (nNat i) 6) (xInt r2 (nNat i) 7) (xStr r2 (nNat i) 8) (xInt r2 (nNat i) 9) (xStr r2 (nNat i) 10) (xInt r2 (nNat i) 11) (xInt r2 (nNat i) 12) (xStr r2 (nNat i) 13)),.int .i64 (qaR (xInt r2 (nNat i) 0) (xStr r2 (nNat i) 1) (qaa (xRow r2 (nNat i) 2)) (xInt r2 (nNat i) 3) (xInt r2 (nNat i) 4) (xStr r2 (nNat i) 5)
 (xInt r2 (nNat i) 6) (xInt r2 (nNat i) 7) (xStr r2 (nNat i) 8) (xInt r2 (nNat i) 9) (xStr r2 (nNat i) 10) (xInt r2 (nNat i) 11) (xInt r2 (nNat i) 12) (xStr r2 (nNat i) 13)),.str (qaV (xInt r2 (nNat i) 0) (xStr r2 (nNat i) 1) (qaa (xRow r2 (nNat i) 2)) (xInt r2 (nNat i) 3) (xInt r2 (nNat i) 4) (xStr r2 (nNat i) 5) (xInt r2 (nNat i) 6) (xInt r2 (nNat i) 7) (xStr r2 (nNat i) 8) (xInt r2 (nNat i) 9) (xStr r2 (nNat i) 10) (xInt r2 (nNat i) 11) (xInt r2 (nNat i) 12) (xStr r2 (nNat i) 13)),.int .i64 (qaM (xInt r2 (nNat i) 0) (xStr r2 (nNat i) 1) (qaa (xRow r2 (nNat i) 2)) (xInt r2 (nNat i) 3) (xInt r2 (nNat i) 4) (xStr r2 (nNat i) 5) (xInt r2 (nNat i) 6) (xInt r2 (nNat i) 7) (xStr r2 (nNat i) 8) (xInt r2 (nNat i) 9) (xStr r2 (nNat i) 10) (xInt r2 (nNat i) 11) (xInt r2 (nNat i) 12) (xStr r2 (nNat i) 13)),.str (qaQ (xInt r2 (nNat i) 0) (xStr r2 (nNat i) 1) (qaa (xRow r2 (nNat i) 2)) (xInt r2 (nNat i) 3) (xInt r2 (nNat i) 4) (xStr r2 (nNat i) 5) (xInt r2 (nNat i) 6) (xInt r2 (nNat i) 7) (xStr r2 (nNat i) 8) (xInt r2 (nNat i) 9) (xStr r2 (nNat i) 10) (xInt r2 (nNat i) 11) (xInt r2 (nNat i) 12) (xStr r2 (nNat i) 13)),.int .i64 (qaS (xInt r2 (nNat i) 0) (xStr r2 (nNat i) 1) (qaa (xRow r2 (nNat i) 2)) (xInt r2 (nNat i) 3) (xInt r2 (nNat i) 4) (xStr r2 (nNat i) 5) (xInt r2 (nNat i) 6) (xInt r2 (nNat i) 7) (xStr r2 (nNat i) 8) (xInt r2 (nNat i) 9) (xStr r2 (nNat i) 10) (xInt r2 (nNat i) 11) (xInt r2 (nNat i) 12) (xStr r2 (nNat i) 13)),.int .i64 (qaP (xInt r2 (nNat i) 0) (xStr r2 (nNat i) 1) (qaa (xRow r2 (nNat i) 2)) (xInt r2 (nNat i) 3) (xInt r2 (nNat i) 4) (xStr r2 (nNat i) 5) (xInt r2 (nNat i) 6) (xInt r2 (nNat i) 7) (xStr r2 (nNat i) 8) (xInt r2 (nNat i) 9) (xStr r2 (nNat i) 10) (xInt r2 (nNat i) 11) (xInt r2 (nNat i) 12) (xStr r2 (nNat i) 13)),.str (qaL (xInt r2 (nNat i) 0) (xStr r2 (nNat i) 1) (qaa (xRow r2 (nNat i) 2)) (xInt r2 (nNat i) 3) (xInt r2 (nNat i) 4) (xStr r2 (nNat i) 5)
 (xInt r2 (nNat i) 6) (xInt r2 (nNat i) 7) (xStr r2 (nNat i) 8) (xInt r2 (nNat i) 9) (xStr r2 (nNat i) 10) (xInt r2 (nNat i) 11) (xInt r2 (nNat i) 12) (xStr r2 (nNat i) 13))]] 14) (.ite (qao r6 14) (.ite (nEq k (nXs r6)) (.ret (.next [.ptr 0 0,.ptr 1 0,.ptr 2 0,.int .i64 (iAdd .i64 i 1)] (Store.mk [[.str s,.sl r .non,.sl r2 .non],[.str s2,.sl r3 .full,.sl r4 .full],[.str s3,.sl r5 .non,.sl (xApp r6 [[.int .i64 (qbg (xInt r2 (nNat i) 0) (xStr r2 (nNat i) 1) (qaa (xRow r2 (nNat i) 2)) (xInt r2 (nNat i) 3) (xInt r2 (nNat i) 4) (xStr r2 (nNat i) 5) (xInt r2 (nNat i) 6) (xInt r2 (nNat i) 7) (xStr r2 (nNat i) 8) (xInt r2 (nNat i) 9) (xStr r2 (nNat i) 10) (xInt r2 (nNat i) 11) (xInt r2 (nNat i) 12) (xStr r2 (nNat i) 13)),.str (qbe (xInt r2 (nNat i) 0) (xStr r2 (nNat i) 1) (qaa (xRow r2 (nNat i) 2)) (xInt r2 (nNat i) 3) (xInt r2 (nNat i) 4) (xStr r2 (nNat i) 5) (xInt r2 (nNat i) 6) (xInt r2 (nNat i) 7) (xStr r2 (nNat i) 8) (xInt r2 (nNat i) 9) (xStr r2 (nNat i) 10) (xInt r2 (nNat i) 11) (xInt r2 (nNat i) 12) (xStr r2 (nNat i) 13)),.sl (qbd (xInt r2 (nNat i) 0) (xStr r2 (nNat i) 1) (qaa (xRow r2 (nNat i) 2)) (xInt r2 (nNat i) 3) (xInt r2 (nNat i) 4) (xStr r2 (nNat i) 5) (xInt r2 (nNat i) 6) (xInt r2 (nNat i) 7) (xStr r2 (nNat i) 8) (xInt r2 (nNat i) 9) (xStr r2 (nNat i) 10) (xInt r2 (nNat i) 11) (xInt r2 (nNat i) 12) (xStr r2 (nNat i) 13)) .non,.int .i64 (qaU (xInt r2 (nNat i) 0) (xStr r2 (nNat i) 1) (qaa (xRow r2 (nNat i) 2)) (xInt r2 (nNat i) 3) (xInt r2 (nNat i) 4) (xStr r2 (nNat i) 5) (xInt r2 (nNat i) 6) (xInt r2 (nNat i) 7) (xStr r2 (nNat i) 8) (xInt r2 (nNat i) 9) (xStr r2 (nNat i) 10) (xInt r2 (nNat i) 11) (xInt r2 (nNat i) 12) (xStr r2 (nNat i) 13)),.int .i64 (qaT (xInt r2 (nNat i) 0) (xStr r2 (nNat i) 1) (qaa (xRow r2 (nNat i) 2)) (xInt r2 (nNat i) 3) (xInt r2 (nNat i) 4) (xStr r2 (nNat i) 5) (xInt r2 (nNat i) 6) (xInt r2 (nNat i) 7) (xStr r2 (nNat i) 8) (xInt r2 (nNat i) 9) (xStr r2 (nNat i) 10)
 (xInt r2 (nNat i) 11) (xInt r2 (nNat i) 12) (xStr r2 (nNat i) 13)),.str (qaN (xInt r2 (nNat i) 0) (xStr r2 (nNat i) 1) (qaa (xRow r2 (nNat i) 2)) (xInt r2 (nNat i) 3) (xInt r2 (nNat i) 4) (xStr r2 (nNat i) 5) (xInt r2 (nNat i) 6) (xInt r2 (nNat i) 7) (xStr r2 (nNat i) 8) (xInt r2 (nNat i) 9) (xStr r2 (nNat i) 10) (xInt r2 (nNat i) 11) (xInt r2 (nNat i) 12) (xStr r2 (nNat i) 13)),.int .i64 (qaO (xInt r2 (nNat i) 0) (xStr r2 (nNat i) 1) (qaa (xRow r2 (nNat i) 2)) (xInt r2 (nNat i) 3) (xInt r2 (nNat i) 4) (xStr r2 (nNat i) 5) (xInt r2 (nNat i) 6) (xInt r2 (nNat i) 7) (xStr r2 (nNat i) 8) (xInt r2 (nNat i) 9) (xStr r2 (nNat i) 10) (xInt r2 (nNat i) 11) (xInt r2 (nNat i) 12) (xStr r2 (nNat i) 13)),.int .i64 (qaR (xInt r2 (nNat i) 0) (xStr r2 (nNat i) 1) (qaa (xRow r2 (nNat i) 2)) (xInt r2 (nNat i) 3) (xInt r2 (nNat i) 4) (xStr r2 (nNat i) 5) (xInt r2 (nNat i) 6) (xInt r2 (nNat i) 7) (xStr r2 (nNat i) 8) (xInt r2 (nNat i) 9) (xStr r2 (nNat i) 10) (xInt r2 (nNat i) 11) (xInt r2 (nNat i) 12) (xStr r2 (nNat i) 13)),.str (qaV (xInt r2 (nNat i) 0) (xStr r2 (nNat i) 1) (qaa (xRow r2 (nNat i) 2)) (xInt r2 (nNat i) 3) (xInt r2 (nNat i) 4) (xStr r2 (nNat i) 5) (xInt r2 (nNat i) 6) (xInt r2 (nNat i) 7) (xStr r2 (nNat i) 8) (xInt r2 (nNat i) 9) (xStr r2 (nNat i) 10) (xInt r2 (nNat i) 11) (xInt r2 (nNat i) 12) (xStr r2 (nNat i) 13)),.int .i64 (qaM (xInt r2 (nNat i) 0) (xStr r2 (nNat i) 1) (qaa (xRow r2 (nNat i) 2)) (xInt r2 (nNat i) 3) (xInt r2 (nNat i) 4) (xStr r2 (nNat i) 5) (xInt r2 (nNat i) 6) (xInt r2 (nNat i) 7) (xStr r2 (nNat i) 8) (xInt r2 (nNat i) 9) (xStr r2 (nNat i) 10) (xInt r2 (nNat i) 11) (xInt r2 (nNat i) 12) (xStr r2 (nNat i) 13)),.str (qaQ (xInt r2 (nNat i) 0) (xStr r2 (nNat i) 1) (qaa (xRow r2 (nNat i) 2)) (xInt r2 (nNat i) 3) (xInt r2 (nNat i) 4) (xStr r2 (nNat i) 5) (xInt r2 (nNat i) 6) (xInt r2 (nNat i) 7) (xStr r2 (nNat i) 8) (xInt r2 (nNat i) 9) (xStr r2 (nNat i) 10)
 (xInt r2 (nNat i) 11) (xInt r2 (nNat i) 12) (xStr r2 (nNat i) 13)),.int .i64 (qaS (xInt r2 (nNat i) 0) (xStr r2 (nNat i) 1) (qaa (xRow r2 (nNat i) 2)) (xInt r2 (nNat i) 3) (xInt r2 (nNat i) 4) (xStr r2 (nNat i) 5) (xInt r2 (nNat i) 6) (xInt r2 (nNat i) 7) (xStr r2 (nNat i) 8) (xInt r2 (nNat i) 9) (xStr r2 (nNat i) 10) (xInt r2 (nNat i) 11) (xInt r2 (nNat i) 12) (xStr r2 (nNat i) 13)),.int .i64 (qaP (xInt r2 (nNat i) 0) (xStr r2 (nNat i) 1) (qaa (xRow r2 (nNat i) 2)) (xInt r2 (nNat i) 3) (xInt r2 (nNat i) 4) (xStr r2 (nNat i) 5) (xInt r2 (nNat i) 6) (xInt r2 (nNat i) 7) (xStr r2 (nNat i) 8) (xInt r2 (nNat i) 9) (xStr r2 (nNat i) 10) (xInt r2 (nNat i) 11) (xInt r2 (nNat i) 12) (xStr r2 (nNat i) 13)),.str (qaL (xInt r2 (nNat i) 0) (xStr r2 (nNat i) 1) (qaa (xRow r2 (nNat i) 2)) (xInt r2 (nNat i) 3) (xInt r2 (nNat i) 4) (xStr r2 (nNat i) 5) (xInt r2 (nNat i) 6) (xInt r2 (nNat i) 7) (xStr r2 (nNat i) 8) (xInt r2 (nNat i) 9) (xStr r2 (nNat i) 10) (xInt r2 (nNat i) 11) (xInt r2 (nNat i) 12) (xStr r2 (nNat i) 13))]]) (.tok 0)]] [(nXs (xApp r6 [[.int .i64 (qbg (xInt r2 (nNat i) 0) (xStr r2 (nNat i) 1) (qaa (xRow r2 (nNat i) 2)) (xInt r2 (nNat i) 3) (xInt r2 (nNat i) 4) (xStr r2 (nNat i) 5) (xInt r2 (nNat i) 6) (xInt r2 (nNat i) 7) (xStr r2 (nNat i) 8) (xInt r2 (nNat i) 9) (xStr r2 (nNat i) 10) (xInt r2 (nNat i) 11) (xInt r2 (nNat i) 12) (xStr r2 (nNat i) 13)),.str (qbe (xInt r2 (nNat i) 0) (xStr r2 (nNat i) 1) (qaa (xRow r2 (nNat i) 2)) (xInt r2 (nNat i) 3) (xInt r2 (nNat i) 4) (xStr r2 (nNat i) 5) (xInt r2 (nNat i) 6) (xInt r2 (nNat i) 7) (xStr r2 (nNat i) 8) (xInt r2 (nNat i) 9) (xStr r2 (nNat i) 10) (xInt r2 (nNat i) 11) (xInt r2 (nNat i) 12) (xStr r2 (nNat i) 13)),.sl (qbd (xInt r2 (nNat i) 0) (xStr r2 (nNat i) 1) (qaa (xRow r2 (nNat i) 2)) (xInt r2 (nNat i) 3) (xInt r2 (nNat i) 4)
 (xStr r2 (nNat i) 5) (xInt r2 (nNat i) 6) (xInt r2 (nNat i) 7) (xStr r2 (nNat i) 8) (xInt r2 (nNat i) 9) (xStr r2 (nNat i) 10) (xInt r2 (nNat i) 11) (xInt r2 (nNat i) 12) (xStr r2 (nNat i) 13)) .non,.int .i64 (qaU (xInt r2 (nNat i) 0) (xStr r2 (nNat i) 1) (qaa (xRow r2 (nNat i) 2)) (xInt r2 (nNat i) 3) (xInt r2 (nNat i) 4) (xStr r2 (nNat i) 5) (xInt r2 (nNat i) 6) (xInt r2 (nNat i) 7) (xStr r2 (nNat i) 8) (xInt r2 (nNat i) 9) (xStr r2 (nNat i) 10) (xInt r2 (nNat i) 11) (xInt r2 (nNat i) 12) (xStr r2 (nNat i) 13)),.int .i64 (qaT (xInt r2 (nNat i) 0) (xStr r2 (nNat i) 1) (qaa (xRow r2 (nNat i) 2)) (xInt r2 (nNat i) 3) (xInt r2 (nNat i) 4) (xStr r2 (nNat i) 5) (xInt r2 (nNat i) 6) (xInt r2 (nNat i) 7) (xStr r2 (nNat i) 8) (xInt r2 (nNat i) 9) (xStr r2 (nNat i) 10) (xInt r2 (nNat i) 11) (xInt r2 (nNat i) 12) (xStr r2 (nNat i) 13)),.str (qaN (xInt r2 (nNat i) 0) (xStr r2 (nNat i) 1) (qaa (xRow r2 (nNat i) 2)) (xInt r2 (nNat i) 3) (xInt r2 (nNat i) 4) (xStr r2 (nNat i) 5) (xInt r2 (nNat i) 6) (xInt r2 (nNat i) 7) (xStr r2 (nNat i) 8) (xInt r2 (nNat i) 9) (xStr r2 (nNat i) 10) (xInt r2 (nNat i) 11) (xInt r2 (nNat i) 12) (xStr r2 (nNat i) 13)),.int .i64 (qaO (xInt r2 (nNat i) 0) (xStr r2 (nNat i) 1) (qaa (xRow r2 (nNat i) 2)) (xInt r2 (nNat i) 3) (xInt r2 (nNat i) 4) (xStr r2 (nNat i) 5) (xInt r2 (nNat i) 6) (xInt r2 (nNat i) 7) (xStr r2 (nNat i) 8) (xInt r2 (nNat i) 9) (xStr r2 (nNat i) 10) (xInt r2 (nNat i) 11) (xInt r2 (nNat i) 12) (xStr r2 (nNat i) 13)),.int .i64 (qaR (xInt r2 (nNat i) 0) (xStr r2 (nNat i) 1) (qaa (xRow r2 (nNat i) 2)) (xInt r2 (nNat i) 3) (xInt r2 (nNat i) 4) (xStr r2 (nNat i) 5) (xInt r2 (nNat i) 6) (xInt r2 (nNat i) 7) (xStr r2 (nNat i) 8) (xInt r2 (nNat i) 9) (xStr r2 (nNat i) 10) (xInt r2 (nNat i) 11) (xInt r2 (nNat i) 12) (xStr r2 (nNat i) 13)),.str (qaV (xInt r2 (nNat i) 0) (xStr r2 (nNat i) 1) (qaa (xRow r2 (nNat i) 2)) (xInt r2 (nNat i) 3) (xInt r2 (nNat i) 4)
 (xStr r2 (nNat i) 5) (xInt r2 (nNat i) 6) (xInt r2 (nNat i) 7) (xStr r2 (nNat i) 8) (xInt r2 (nNat i) 9) (xStr r2 (nNat i) 10) (xInt r2 (nNat i) 11) (xInt r2 (nNat i) 12) (xStr r2 (nNat i) 13)),.int .i64 (qaM (xInt r2 (nNat i) 0) (xStr r2 (nNat i) 1) (qaa (xRow r2 (nNat i) 2)) (xInt r2 (nNat i) 3) (xInt r2 (nNat i) 4) (xStr r2 (nNat i) 5) (xInt r2 (nNat i) 6) (xInt r2 (nNat i) 7) (xStr r2 (nNat i) 8) (xInt r2 (nNat i) 9) (xStr r2 (nNat i) 10) (xInt r2 (nNat i) 11) (xInt r2 (nNat i) 12) (xStr r2 (nNat i) 13)),.str (qaQ (xInt r2 (nNat i) 0) (xStr r2 (nNat i) 1) (qaa (xRow r2 (nNat i) 2)) (xInt r2 (nNat i) 3) (xInt r2 (nNat i) 4) (xStr r2 (nNat i) 5) (xInt r2 (nNat i) 6) (xInt r2 (nNat i) 7) (xStr r2 (nNat i) 8) (xInt r2 (nNat i) 9) (xStr r2 (nNat i) 10) (xInt r2 (nNat i) 11) (xInt r2 (nNat i) 12) (xStr r2 (nNat i) 13)),.int .i64 (qaS (xInt r2 (nNat i) 0) (xStr r2 (nNat i) 1) (qaa (xRow r2 (nNat i) 2)) (xInt r2 (nNat i) 3) (xInt r2 (nNat i) 4) (xStr r2 (nNat i) 5) (xInt r2 (nNat i) 6) (xInt r2 (nNat i) 7) (xStr r2 (nNat i) 8) (xInt r2 (nNat i) 9) (xStr r2 (nNat i) 10) (xInt r2 (nNat i) 11) (xInt r2 (nNat i) 12) (xStr r2 (nNat i) 13)),.int .i64 (qaP (xInt r2 (nNat i) 0) (xStr r2 (nNat i) 1) (qaa (xRow r2 (nNat i) 2)) (xInt r2 (nNat i) 3) (xInt r2 (nNat i) 4) (xStr r2 (nNat i) 5) (xInt r2 (nNat i) 6) (xInt r2 (nNat i) 7) (xStr r2 (nNat i) 8) (xInt r2 (nNat i) 9) (xStr r2 (nNat i) 10) (xInt r2 (nNat i) 11) (xInt r2 (nNat i) 12) (xStr r2 (nNat i) 13)),.str (qaL (xInt r2 (nNat i) 0) (xStr r2 (nNat i) 1) (qaa (xRow r2 (nNat i) 2)) (xInt r2 (nNat i) 3) (xInt r2 (nNat i) 4) (xStr r2 (nNat i) 5) (xInt r2 (nNat i) 6) (xInt r2 (nNat i) 7) (xStr r2 (nNat i) 8) (xInt r2 (nNat i) 9) (xStr r2 (nNat i) 10) (xInt r2 (nNat i) 11) (xInt r2 (nNat i) 12) (xStr r2 (nNat i) 13))]]),14,34)] [48,48,48]))) .fail) .fail) .fail) .fail) .fail) .fail) .fail) (.ret (.out (.exit 0) [.ptr 1 0,.ptr 2 0]
 (Store.mk [[.str s,.sl r .non,.sl r2 .non],[.str s2,.sl r3 .full,.sl r4 .full],[.str s3,.sl r5 .non,.sl r6 (.tok 0)]] [(k,14,34)] [48,48,48])))) (.ret (.out (.exit 0) [.ptr 1 0,.ptr 2 0] (Store.mk [[.str s,.sl r .non,.sl r2 .non],[.str s2,.sl r3 .full,.sl r4 .full],[.str s3,.sl r5 .non,.sl r6 (.tok 0)]] [(k,14,34)] [48,48,48])))
theorem qHb (i:Int) (s:List UInt8) (r:List (List PV)) (r2:List (List PV)) (s2:List UInt8) (r3:List (List PV)) (r4:List (List PV)) (s3:List UInt8) (r5:List (List PV)) (r6:List (List PV)) (k:Nat):lstep tbT qqM qqy qn0 qor [.ptr 0 0,.ptr 1 0,.ptr 2 0,.int .i64 i] ⟨[[.str s,.sl r .non,.sl r2 .non],[.str s2,.sl r3 .full,.sl r4 .full],[.str s3,.sl r5 .non,.sl r6 (.tok 0)]],[(k,14,34)],[48,48,48]⟩=qiT i s r r2 s2 r3 r4 s3 r5 r6 k:=by kernel_rfl
theorem qAX (i:Int) (s:List UInt8) (r:List (List PV)) (r2:List (List PV)) (s2:List UInt8) (r3:List (List PV)) (r4:List (List PV)) (s3:List UInt8) (r5:List (List PV)) (r6:List (List PV)) (k:Nat):qeK [.ptr 0 0,.ptr 1 0,.ptr 2 0,.int .i64 i] ⟨[[.str s,.sl r .non,.sl r2 .non],[.str s2,.sl r3 .full,.sl r4 .full],[.str s3,.sl r5 .non,.sl r6 (.tok 0)]],[(k,14,34)],[48,48,48]⟩=lnext qeK (qiT i s r r2 s2 r3 r4 s3 r5 r6 k).run:=by unfold qeK; rw [qbF,qHb]
noncomputable def qdu (i:Int) (s:List UInt8) (r:List (List PV)) (r2:List (List PV)) (s2:List UInt8) (r3:List (List PV)) (r4:List (List PV)) (s3:List UInt8) (r5:List (List PV)) (r6:List (List PV)) (k:Nat):Option (PExit × List PV × Store):=qeK [.ptr 0 0,.ptr 1 0,.ptr 2 0,.int .i64 i] ⟨[[.str s,.sl r .non,.sl r2 .non],[.str s2,.sl r3 .full,.sl r4 .full],[.str s3,.sl r5 .non,.sl r6 (.tok 0)]],[(k,14,34)],[48,48,48]⟩
noncomputable def qtZ (i:Int) (s:List UInt8) (r:List (List PV)) (r2:List (List PV)) (s2:List UInt8) (r3:List (List PV)) (r4:List (List PV)) (s3:List UInt8) (r5:List (List PV)) (r6:List (List PV)) (k:Nat):List UInt8:=(gStr (gAt (gObj (qdu i s r r2 s2 r3 r4 s3 r5 r6 k) 0) 0))
noncomputable def qtz (i:Int) (s:List UInt8) (r:List (List PV)) (r2:List (List PV)) (s2:List UInt8) (r3:List (List PV)) (r4:List (List PV)) (s3:List UInt8) (r5:List (List PV)) (r6:List (List PV)) (k:Nat):List (List PV):=(gRow (gAt (gObj (qdu i s r r2 s2 r3 r4 s3 r5 r6 k) 0) 1))
noncomputable def qr4 (i:Int) (s:List UInt8) (r:List (List PV)) (r2:List (List PV)) (s2:List UInt8) (r3:List (List PV)) (r4:List (List PV)) (s3:List UInt8) (r5:List (List PV)) (r6:List (List PV)) (k:Nat):List (List PV):=(gRow (gAt (gObj (qdu i s r r2 s2 r3 r4 s3 r5 r6 k) 0) 2))
noncomputable def qpu (i:Int) (s:List UInt8) (r:List (List PV)) (r2:List (List PV)) (s2:List UInt8) (r3:List (List PV)) (r4:List (List PV)) (s3:List UInt8) (r5:List (List PV)) (r6:List (List PV)) (k:Nat):List UInt8:=(gStr (gAt (gObj (qdu i s r r2 s2 r3 r4 s3 r5 r6 k) 1) 0))
noncomputable def qqq (i:Int) (s:List UInt8) (r:List (List PV)) (r2:List (List PV)) (s2:List UInt8) (r3:List (List PV)) (r4:List (List PV)) (s3:List UInt8) (r5:List (List PV)) (r6:List (List PV)) (k:Nat):List (List PV):=(gRow (gAt (gObj (qdu i s r r2 s2 r3 r4 s3 r5 r6 k) 1) 1))
noncomputable def qqK (i:Int) (s:List UInt8) (r:List (List PV)) (r2:List (List PV)) (s2:List UInt8) (r3:List (List PV)) (r4:List (List PV)) (s3:List UInt8) (r5:List (List PV)) (r6:List (List PV)) (k:Nat):List (List PV):=(gRow (gAt (gObj (qdu i s r r2 s2 r3 r4 s3 r5 r6 k) 1) 2))
noncomputable def qlX (i:Int) (s:List UInt8) (r:List (List PV)) (r2:List (List PV)) (s2:List UInt8) (r3:List (List PV)) (r4:List (List PV)) (s3:List UInt8) (r5:List (List PV)) (r6:List (List PV)) (k:Nat):List UInt8:=(gStr (gAt (gObj (qdu i s r r2 s2 r3 r4 s3 r5 r6 k) 2) 0))
noncomputable def qmC (i:Int) (s:List UInt8) (r:List (List PV)) (r2:List (List PV)) (s2:List UInt8) (r3:List (List PV)) (r4:List (List PV)) (s3:List UInt8) (r5:List (List PV)) (r6:List (List PV)) (k:Nat):List (List PV):=(gRow (gAt (gObj (qdu i s r r2 s2 r3 r4 s3 r5 r6 k) 2) 1))
noncomputable def qmd (i:Int) (s:List UInt8) (r:List (List PV)) (r2:List (List PV)) (s2:List UInt8) (r3:List (List PV)) (r4:List (List PV)) (s3:List UInt8) (r5:List (List PV)) (r6:List (List PV)) (k:Nat):List (List PV):=(gRow (gAt (gObj (qdu i s r r2 s2 r3 r4 s3 r5 r6 k) 2) 2))
noncomputable def qux (i:Int) (s:List UInt8) (r:List (List PV)) (r2:List (List PV)) (s2:List UInt8) (r3:List (List PV)) (r4:List (List PV)) (s3:List UInt8) (r5:List (List PV)) (r6:List (List PV)) (k:Nat):Nat:=(gTok (qdu i s r r2 s2 r3 r4 s3 r5 r6 k) 0)
noncomputable def qnm (i:Int) (s:List UInt8) (r:List (List PV)) (r2:List (List PV)) (s2:List UInt8) (r3:List (List PV)) (r4:List (List PV)) (s3:List UInt8) (r5:List (List PV)) (r6:List (List PV)) (k:Nat):Bool:=isW (qdu i s r r2 s2 r3 r4 s3 r5 r6 k) ((.exit 0),[.ptr 1 0,.ptr 2 0],⟨[[.str (qtZ i s r r2 s2 r3 r4 s3 r5 r6 k),.sl (qtz i s r r2 s2 r3 r4 s3 r5 r6 k) .non,.sl (qr4 i s r r2 s2 r3 r4 s3 r5 r6 k) .non],[.str (qpu i s r r2 s2 r3 r4 s3 r5 r6 k),.sl (qqq i s r r2 s2 r3 r4 s3 r5 r6 k) .full,.sl (qqK i s r r2 s2 r3 r4 s3 r5 r6 k) .full],[.str (qlX i s r r2 s2 r3 r4 s3 r5 r6 k),.sl (qmC i s r r2 s2 r3 r4 s3 r5 r6 k) .non,.sl (qmd i s r r2 s2 r3 r4 s3 r5 r6 k) (.tok 0)]],[((qux i s r r2 s2 r3 r4 s3 r5 r6 k),14,34)],[48,48,48]⟩)
noncomputable def qhG:List PV→Store→Tr (PExit × List PV × Store) | [.ptr 0 0,.ptr 1 0,.ptr 2 0,.int .i64 i],⟨[[.str s,.sl r .non,.sl r2 .non],[.str s2,.sl r3 .full,.sl r4 .full],[.str s3,.sl r5 .non,.sl r6 (.tok 0)]],[(k,14,34)],[48,48,48]⟩=>.ite (qnm i s r r2 s2 r3 r4 s3 r5 r6 k) (.ret ((.exit 0),[.ptr 1 0,.ptr 2 0],⟨[[.str (qtZ i s r r2 s2 r3 r4 s3 r5 r6 k),.sl (qtz i s r r2 s2 r3 r4 s3 r5 r6 k) .non,.sl (qr4 i s r r2 s2 r3 r4 s3 r5 r6 k) .non],[.str (qpu i s r r2 s2 r3 r4 s3 r5 r6 k),.sl (qqq i s r r2 s2 r3 r4 s3 r5 r6 k) .full,.sl (qqK i s r r2 s2 r3 r4 s3 r5 r6 k) .full],[.str (qlX i s r r2 s2 r3 r4 s3 r5 r6 k),.sl (qmC i s r r2 s2 r3 r4 s3 r5 r6 k) .non,.sl (qmd i s r r2 s2 r3 r4 s3 r5 r6 k) (.tok 0)]],[((qux i s r r2 s2 r3 r4 s3 r5 r6 k),14,34)],[48,48,48]⟩)) (.fail) | _,_=>.fail
theorem qDR:∀ vs σ r,(qhG vs σ).run=some r→qeK vs σ=some r:=by
 intro vs σ r h
 unfold qhG at h
 split at h
 ·exact qai h fun h=>by cases h
 ·cases h
theorem qxM (gl:Gl):∀ fr σ e fr' σ',(orc qor qhG fr σ).run=some (e,fr',σ')→LDoes Tryz.prog gl qn0 fr σ e fr' σ':=qcl qaj (qwu gl ) qah (L:=qqy) (qae (by kernel_rfl)) (by kernel_rfl) qDR
noncomputable def qyJ:LpsT:=fun r fr σ=>bif Nat.beq r 3 then orc qor qhG fr σ else .fail
noncomputable def quf (r_:List UInt8) (r_2:List (List PV)) (r_3:List (List PV)):Tr PV:=.ite (qeY r_ (qaa r_2)) (.ite (qnm 0 r_ r_2 r_3 [] [] [] (qdG r_ (qaa r_2)) (qdE r_ (qaa r_2)) [] 0) (.ret (.agg [.str (qlX 0 r_ r_2 r_3 [] [] [] (qdG r_ (qaa r_2)) (qdE r_ (qaa r_2)) [] 0),.sl (qb4 (qmC 0 r_ r_2 r_3 [] [] [] (qdG r_ (qaa r_2)) (qdE r_ (qaa r_2)) [] 0)) .non,.sl (qb4 (qmd 0 r_ r_2 r_3 [] [] [] (qdG r_ (qaa r_2)) (qdE r_ (qaa r_2)) [] 0)) .non])) .fail) .fail
theorem qK2 (r_:List UInt8) (r_2:List (List PV)) (r_3:List (List PV)):(tcall tbT qqM qyJ Tryz.f23 [.agg [.str r_,.sl r_2 .non,.sl r_3 .non]]).flat=quf r_ r_2 r_3:=by kernel_rfl
noncomputable def qnl (r_:List UInt8) (r_2:List (List PV)) (r_3:List (List PV)):Option PV:=(quf r_ r_2 r_3).run
noncomputable def qez (r_:List UInt8) (r_2:List (List PV)) (r_3:List (List PV)):List UInt8:=(gStr (gAt (gCs (gVal (qnl r_ r_2 r_3))) 0))
noncomputable def qeJ (r_:List UInt8) (r_2:List (List PV)) (r_3:List (List PV)):List (List PV):=(gRow (gAt (gCs (gVal (qnl r_ r_2 r_3))) 1))
noncomputable def qdh (r_:List UInt8) (r_2:List (List PV)) (r_3:List (List PV)):List (List PV):=(gRow (gAt (gCs (gVal (qnl r_ r_2 r_3))) 2))
noncomputable def qft (r_:List UInt8) (r_2:List (List PV)) (r_3:List (List PV)):Bool:=isW (qnl r_ r_2 r_3) (.agg [.str (qez r_ r_2 r_3),.sl (qeJ r_ r_2 r_3) .non,.sl (qdh r_ r_2 r_3) .non])
noncomputable def qzl:List PV→Tr PV | [.agg [.str r_,.sl r_2 .non,.sl r_3 .non]]=>.ite (qft r_ r_2 r_3) (.ret (.agg [.str (qez r_ r_2 r_3),.sl (qeJ r_ r_2 r_3) .non,.sl (qdh r_ r_2 r_3) .non])) (.fail) | _=>.fail
theorem qGh (gl:Gl):SimP Tryz.prog gl 23 fun args=>(qzl args).run:=by
 refine SimP.of_flat (G:=qqM) (L:=qyJ) qaj (qwu gl ) qah Tryz.func23 rfl (by rfl) (by kernel_rfl) (qaX (L:=lps qyJ) [(3,qn0)] (by kernel_rfl) (List.forall_mem_cons.2 ⟨fun fr σ e fr' σ' h=>qxM gl  fr σ e fr' σ' h,(List.forall_mem_nil _)⟩)) ?_
 intro args x h
 unfold qzl at h
 split at h
 ·exact (congrArg Tr.run (qK2 _ _ _)).trans (qai h fun h=>by cases h)
 ·cases h
noncomputable def qza:GamT:=ofL [(11,.pure F_tx)]
theorem qFq (gl:Gl):qaH Tryz.prog gl (gam qza):=(qac (qA4 gl) qag)
noncomputable def qFE:LpsT:=fun r fr σ=>.fail
noncomputable def quZ (d:List UInt8) (d2:Bool) (d3:List (List PV)):Tr PV:=.ite (qlI d) (.ite (iLt 12 (xLen d3)) (.ite (qaA true (qak 12) 0 (nNat 12) (nXs d3)) (.ite (qao d3 1) (.ret (.agg [.str (tx_s d),.bool d2,.sl (qb4 (xSub d3 0 (nNat 12))) .non])) .fail) .fail) (.ret (.agg [.str (tx_s d),.bool d2,.sl (qb4 d3) .non]))) .fail
theorem qKb (d:List UInt8) (d2:Bool) (d3:List (List PV)):(tcall tbT qza qFE Tryz.f24 [.agg [.str d,.bool d2,.sl d3 .non]]).flat=quZ d d2 d3:=by kernel_rfl
noncomputable def qnG (d:List UInt8) (d2:Bool) (d3:List (List PV)):Option PV:=(quZ d d2 d3).run
noncomputable def qee (d:List UInt8) (d2:Bool) (d3:List (List PV)):List UInt8:=(gStr (gAt (gCs (gVal (qnG d d2 d3))) 0))
noncomputable def qev (d:List UInt8) (d2:Bool) (d3:List (List PV)):Bool:=(qb0 (gAt (gCs (gVal (qnG d d2 d3))) 1))
noncomputable def qeu (d:List UInt8) (d2:Bool) (d3:List (List PV)):List (List PV):=(gRow (gAt (gCs (gVal (qnG d d2 d3))) 2))
noncomputable def qfR (d:List UInt8) (d2:Bool) (d3:List (List PV)):Bool:=isW (qnG d d2 d3) (.agg [.str (qee d d2 d3),.bool (qev d d2 d3),.sl (qeu d d2 d3) .non])
noncomputable def qyB:List PV→Tr PV | [.agg [.str d,.bool d2,.sl d3 .non]]=>.ite (qfR d d2 d3) (.ret (.agg [.str (qee d d2 d3),.bool (qev d d2 d3),.sl (qeu d d2 d3) .non])) (.fail) | _=>.fail
theorem qC8 (gl:Gl):SimP Tryz.prog gl 24 fun args=>(qyB args).run:=by
 refine SimP.of_flat (G:=qza) (L:=qFE) qaj (qFq gl ) qah Tryz.func24 rfl (by rfl) (by kernel_rfl) (qae (by kernel_rfl)) ?_
 intro args x h
 unfold qyB at h
 split at h
 ·exact (congrArg Tr.run (qKb _ _ _)).trans (qai h fun h=>by cases h)
 ·cases h
noncomputable def qxe:GamT:=ofL [(11,.pure F_tx),(42,.pure qqk),(qeS,.hint [(9,1,2,101),(9,2,3,103)])]
theorem qxl (gl:Gl):qaH Tryz.prog gl (gam qxe):=(qac (qA4 gl) (qac (qrZ gl) (qbH (K:=.hint [(9,1,2,101),(9,2,3,103)]) trivial qag)))
noncomputable def qAu:Code:=qeX Tryz.f25 3
noncomputable def qz9:Code:=qeX Tryz.f25 7
def qAc:LI:=⟨71,[1,2,3,4],fun e=>match e with | .exit 0=>[1,2,3] | _=>[],true⟩
noncomputable def qyn:LpsT:=fun r fr σ=>.fail
noncomputable def qkq (vs:List PV) (σ:Store):Option (PExit × List PV × Store):=lval (lstep tbT qxe qyn qAu qAc) vs σ
noncomputable def qpI (n:Int) (s:List UInt8) (r:List (List PV)) (r2:List (List PV)) (s2:List UInt8) (r3:List (List PV)) (r4:List (List PV)) (s3:List UInt8) (r5:List (List PV)) (r6:List (List PV)) (k:Nat) (k2:Nat):Tr LR:=.ite (iLt n (xLen r)) (.ite (iLt n 12) (.ite (qak n) (.ite (qbs [.str [],.int .i64 0] r (nNat n)) (.ite (qlI (xStr r (nNat n) 0)) (.ite (qak n) (.ite (qbs [.str [],.int .i64 0] r (nNat n)) (.ite (qaz r5 [[.str (tx_s (xStr r (nNat n) 0)),.int .i64 (xInt r (nNat n) 1)]] 24) (.ite (qas [[.str (tx_s (xStr r (nNat n) 0)),.int .i64 (xInt r (nNat n) 1)]] 2) (.ite (qao r5 2) (.ite (nEq k (nXs r5)) (.ret (.next [.ptr 0 0,.ptr 1 0,.ptr 2 0,.int .i64 (iAdd .i64 n 1)] (Store.mk [[.str s,.sl r .non,.sl r2 .non],[.str s2,.sl r3 .full,.sl r4 .full],[.str s3,.sl (xApp r5 [[.str (tx_s (xStr r (nNat n) 0)),.int .i64 (xInt r (nNat n) 1)]]) (.tok 0),.sl r6 (.tok 1)]] [(nXs (xApp r5 [[.str (tx_s (xStr r (nNat n) 0)),.int .i64 (xInt r (nNat n) 1)]]),2,101),(k2,3,103)] [55,55,55]))) .fail) .fail) .fail) .fail) .fail) .fail) .fail) .fail) .fail) (.ret (.out (.exit 0) [.ptr 0 0,.ptr 1 0,.ptr 2 0] (Store.mk [[.str s,.sl r .non,.sl r2 .non],[.str s2,.sl r3 .full,.sl r4 .full],[.str s3,.sl r5 (.tok 0),.sl r6 (.tok 1)]] [(k,2,101),(k2,3,103)] [55,55,55])))) (.ret (.out (.exit 0) [.ptr 0 0,.ptr 1 0,.ptr 2 0] (Store.mk [[.str s,.sl r .non,.sl r2 .non],[.str s2,.sl r3 .full,.sl r4 .full],[.str s3,.sl r5 (.tok 0),.sl r6 (.tok 1)]] [(k,2,101),(k2,3,103)] [55,55,55])))
theorem qMn (n:Int) (s:List UInt8) (r:List (List PV)) (r2:List (List PV)) (s2:List UInt8) (r3:List (List PV)) (r4:List (List PV)) (s3:List UInt8) (r5:List (List PV)) (r6:List (List PV)) (k:Nat) (k2:Nat):lstep tbT qxe qyn qAu qAc [.ptr 0 0,.ptr 1 0,.ptr 2 0,.int .i64 n] ⟨[[.str s,.sl r .non,.sl r2 .non],[.str s2,.sl r3 .full,.sl r4 .full],[.str s3,.sl r5 (.tok 0),.sl r6 (.tok 1)]],[(k,2,101),(k2,3,103)],[55,55,55]⟩=qpI n s r r2 s2 r3 r4 s3 r5 r6 k k2:=by kernel_rfl
theorem qI5 (n:Int) (s:List UInt8) (r:List (List PV)) (r2:List (List PV)) (s2:List UInt8) (r3:List (List PV)) (r4:List (List PV)) (s3:List UInt8) (r5:List (List PV)) (r6:List (List PV)) (k:Nat) (k2:Nat):qkq [.ptr 0 0,.ptr 1 0,.ptr 2 0,.int .i64 n] ⟨[[.str s,.sl r .non,.sl r2 .non],[.str s2,.sl r3 .full,.sl r4 .full],[.str s3,.sl r5 (.tok 0),.sl r6 (.tok 1)]],[(k,2,101),(k2,3,103)],[55,55,55]⟩=lnext qkq (qpI n s r r2 s2 r3 r4 s3 r5 r6 k k2).run:=by unfold qkq; rw [qbF,qMn]
noncomputable def qgZ (n:Int) (s:List UInt8) (r:List (List PV)) (r2:List (List PV)) (s2:List UInt8) (r3:List (List PV)) (r4:List (List PV)) (s3:List UInt8) (r5:List (List PV)) (r6:List (List PV)) (k:Nat) (k2:Nat):Option (PExit × List PV × Store):=qkq [.ptr 0 0,.ptr 1 0,.ptr 2 0,.int .i64 n] ⟨[[.str s,.sl r .non,.sl r2 .non],[.str s2,.sl r3 .full,.sl r4 .full],[.str s3,.sl r5 (.tok 0),.sl r6 (.tok 1)]],[(k,2,101),(k2,3,103)],[55,55,55]⟩
noncomputable def qqU (n:Int) (s:List UInt8) (r:List (List PV)) (r2:List (List PV)) (s2:List UInt8) (r3:List (List PV)) (r4:List (List PV)) (s3:List UInt8) (r5:List (List PV)) (r6:List (List PV)) (k:Nat) (k2:Nat):List UInt8:=(gStr (gAt (gObj (qgZ n s r r2 s2 r3 r4 s3 r5 r6 k k2) 0) 0))
noncomputable def qqh (n:Int) (s:List UInt8) (r:List (List PV)) (r2:List (List PV)) (s2:List UInt8) (r3:List (List PV)) (r4:List (List PV)) (s3:List UInt8) (r5:List (List PV)) (r6:List (List PV)) (k:Nat) (k2:Nat):List (List PV):=(gRow (gAt (gObj (qgZ n s r r2 s2 r3 r4 s3 r5 r6 k k2) 0) 1))
noncomputable def qk4 (n:Int) (s:List UInt8) (r:List (List PV)) (r2:List (List PV)) (s2:List UInt8) (r3:List (List PV)) (r4:List (List PV)) (s3:List UInt8) (r5:List (List PV)) (r6:List (List PV)) (k:Nat) (k2:Nat):List (List PV):=(gRow (gAt (gObj (qgZ n s r r2 s2 r3 r4 s3 r5 r6 k k2) 0) 2))
noncomputable def qkR (n:Int) (s:List UInt8) (r:List (List PV)) (r2:List (List PV)) (s2:List UInt8) (r3:List (List PV)) (r4:List (List PV)) (s3:List UInt8) (r5:List (List PV)) (r6:List (List PV)) (k:Nat) (k2:Nat):List UInt8:=(gStr (gAt (gObj (qgZ n s r r2 s2 r3 r4 s3 r5 r6 k k2) 1) 0))
noncomputable def qkB (n:Int) (s:List UInt8) (r:List (List PV)) (r2:List (List PV)) (s2:List UInt8) (r3:List (List PV)) (r4:List (List PV)) (s3:List UInt8) (r5:List (List PV)) (r6:List (List PV)) (k:Nat) (k2:Nat):List (List PV):=(gRow (gAt (gObj (qgZ n s r r2 s2 r3 r4 s3 r5 r6 k k2) 1) 1))
noncomputable def qla (n:Int) (s:List UInt8) (r:List (List PV)) (r2:List (List PV)) (s2:List UInt8) (r3:List (List PV)) (r4:List (List PV)) (s3:List UInt8) (r5:List (List PV)) (r6:List (List PV)) (k:Nat) (k2:Nat):List (List PV):=(gRow (gAt (gObj (qgZ n s r r2 s2 r3 r4 s3 r5 r6 k k2) 1) 2))
noncomputable def qk6 (n:Int) (s:List UInt8) (r:List (List PV)) (r2:List (List PV)) (s2:List UInt8) (r3:List (List PV)) (r4:List (List PV)) (s3:List UInt8) (r5:List (List PV)) (r6:List (List PV)) (k:Nat) (k2:Nat):List UInt8:=(gStr (gAt (gObj (qgZ n s r r2 s2 r3 r4 s3 r5 r6 k k2) 2) 0))
noncomputable def qkW (n:Int) (s:List UInt8) (r:List (List PV)) (r2:List (List PV)) (s2:List UInt8) (r3:List (List PV)) (r4:List (List PV)) (s3:List UInt8) (r5:List (List PV)) (r6:List (List PV)) (k:Nat) (k2:Nat):List (List PV):=(gRow (gAt (gObj (qgZ n s r r2 s2 r3 r4 s3 r5 r6 k k2) 2) 1))
noncomputable def qkJ (n:Int) (s:List UInt8) (r:List (List PV)) (r2:List (List PV)) (s2:List UInt8) (r3:List (List PV)) (r4:List (List PV)) (s3:List UInt8) (r5:List (List PV)) (r6:List (List PV)) (k:Nat) (k2:Nat):List (List PV):=(gRow (gAt (gObj (qgZ n s r r2 s2 r3 r4 s3 r5 r6 k k2) 2) 2))
noncomputable def qq0 (n:Int) (s:List UInt8) (r:List (List PV)) (r2:List (List PV)) (s2:List UInt8) (r3:List (List PV)) (r4:List (List PV)) (s3:List UInt8) (r5:List (List PV)) (r6:List (List PV)) (k:Nat) (k2:Nat):Nat:=(gTok (qgZ n s r r2 s2 r3 r4 s3 r5 r6 k k2) 0)
noncomputable def qk9 (n:Int) (s:List UInt8) (r:List (List PV)) (r2:List (List PV)) (s2:List UInt8) (r3:List (List PV)) (r4:List (List PV)) (s3:List UInt8) (r5:List (List PV)) (r6:List (List PV)) (k:Nat) (k2:Nat):Nat:=(gTok (qgZ n s r r2 s2 r3 r4 s3 r5 r6 k k2) 1)
noncomputable def qtF (n:Int) (s:List UInt8) (r:List (List PV)) (r2:List (List PV)) (s2:List UInt8) (r3:List (List PV)) (r4:List (List PV)) (s3:List UInt8) (r5:List (List PV)) (r6:List (List PV)) (k:Nat) (k2:Nat):Bool:=isW (qgZ n s r r2 s2 r3 r4 s3 r5 r6 k k2) ((.exit 0),[.ptr 0 0,.ptr 1 0,.ptr 2 0],⟨[[.str (qqU n s r r2 s2 r3 r4 s3 r5 r6 k k2),.sl (qqh n s r r2 s2 r3 r4 s3 r5 r6 k k2) .non,.sl (qk4 n s r r2 s2 r3 r4 s3 r5 r6 k k2) .non],[.str (qkR n s r r2 s2 r3 r4 s3 r5 r6 k k2),.sl (qkB n s r r2 s2 r3 r4 s3 r5 r6 k k2) .full,.sl (qla n s r r2 s2 r3 r4 s3 r5 r6 k k2) .full],[.str (qk6 n s r r2 s2 r3 r4 s3 r5 r6 k k2),.sl (qkW n s r r2 s2 r3 r4 s3 r5 r6 k k2) (.tok 0),.sl (qkJ n s r r2 s2 r3 r4 s3 r5 r6 k k2) (.tok 1)]],[((qq0 n s r r2 s2 r3 r4 s3 r5 r6 k k2),2,101),((qk9 n s r r2 s2 r3 r4 s3 r5 r6 k k2),3,103)],[55,55,55]⟩)
noncomputable def qlG:List PV→Store→Tr (PExit × List PV × Store) | [.ptr 0 0,.ptr 1 0,.ptr 2 0,.int .i64 n],⟨[[.str s,.sl r .non,.sl r2 .non],[.str s2,.sl r3 .full,.sl r4 .full],[.str s3,.sl r5 (.tok 0),.sl r6 (.tok 1)]],[(k,2,101),(k2,3,103)],[55,55,55]⟩=>.ite (qtF n s r r2 s2 r3 r4 s3 r5 r6 k k2) (.ret ((.exit 0),[.ptr 0 0,.ptr 1 0,.ptr 2 0],⟨[[.str (qqU n s r r2 s2 r3 r4 s3 r5 r6 k k2),.sl (qqh n s r r2 s2 r3 r4 s3 r5 r6 k k2) .non,.sl (qk4 n s r r2 s2 r3 r4 s3 r5 r6 k k2) .non],[.str (qkR n s r r2 s2 r3 r4 s3 r5 r6 k k2),.sl (qkB n s r r2 s2 r3 r4 s3 r5 r6 k k2) .full,.sl (qla n s r r2 s2 r3 r4 s3 r5 r6 k k2) .full],[.str (qk6 n s r r2 s2 r3 r4 s3 r5 r6 k k2),.sl (qkW n s r r2 s2 r3 r4 s3 r5 r6 k k2) (.tok 0),.sl (qkJ n s r r2 s2 r3 r4 s3 r5 r6 k k2) (.tok 1)]],[((qq0 n s r r2 s2 r3 r4 s3 r5 r6 k k2),2,101),((qk9 n s r r2 s2 r3 r4 s3 r5 r6 k k2),3,103)],[55,55,55]⟩)) (.fail) | _,_=>.fail
theorem qK0:∀ vs σ r,(qlG vs σ).run=some r→qkq vs σ=some r:=by
 intro vs σ r h
 unfold qlG at h
 split at h
 ·exact qai h fun h=>by cases h
 ·cases h
theorem qGC (gl:Gl):∀ fr σ e fr' σ',(orc qAc qlG fr σ).run=some (e,fr',σ')→LDoes Tryz.prog gl qAu fr σ e fr' σ':=qcl qaj (qxl gl ) qah (L:=qyn) (qae (by kernel_rfl)) (by kernel_rfl) qK0
def qAn:LI:=⟨71,[1,2,3,5],fun e=>match e with | .exit 2=>[2,3] | _=>[],true⟩
noncomputable def qxX:LpsT:=fun r fr σ=>.fail
noncomputable def qkl (vs:List PV) (σ:Store):Option (PExit × List PV × Store):=lval (lstep tbT qxe qxX qz9 qAn) vs σ
noncomputable def qp8 (n:Int) (s:List UInt8) (r:List (List PV)) (r2:List (List PV)) (s2:List UInt8) (r3:List (List PV)) (r4:List (List PV)) (s3:List UInt8) (r5:List (List PV)) (r6:List (List PV)) (k:Nat) (k2:Nat):Tr LR:=.ite (iLt n (xLen r2)) (.ite (iLt n 8) (.ite (qak n) (.ite (qbs [.bool false,.str [],.sl [] .full] r2 (nNat n)) (.ite (qak n) (.ite (qbs [.bool false,.str [],.sl [] .full] r2 (nNat n)) (.ite (qeY (xStr r2 (nNat n) 1) (qaa (xRow r2 (nNat n) 2))) (.ite (qaz r6 [[.bool (qf8 r2 (nNat n) 0),.str (qdG (xStr r2 (nNat n) 1) (qaa (xRow r2 (nNat n) 2))),.sl (qdE (xStr r2 (nNat n) 1) (qaa (xRow r2 (nNat n) 2))) .non]] 48) (.ite (qas [[.bool (qf8 r2 (nNat n) 0),.str (qdG (xStr r2 (nNat n) 1) (qaa (xRow r2 (nNat n) 2))),.sl (qdE (xStr r2 (nNat n) 1) (qaa (xRow r2 (nNat n) 2))) .non]] 3) (.ite (qao r6 3) (.ite (nEq k2 (nXs r6)) (.ret (.next [.ptr 0 0,.ptr 1 0,.ptr 2 0,.int .i64 (iAdd .i64 n 1)] (Store.mk [[.str s,.sl r .non,.sl r2 .non],[.str s2,.sl r3 .full,.sl r4 .full],[.str s3,.sl r5 (.tok 0),.sl (xApp r6 [[.bool (qf8 r2 (nNat n) 0),.str (qdG (xStr r2 (nNat n) 1) (qaa (xRow r2 (nNat n) 2))),.sl (qdE (xStr r2 (nNat n) 1) (qaa (xRow r2 (nNat n) 2))) .non]]) (.tok 1)]] [(k,2,101),(nXs (xApp r6 [[.bool (qf8 r2 (nNat n) 0),.str (qdG (xStr r2 (nNat n) 1) (qaa (xRow r2 (nNat n) 2))),.sl (qdE (xStr r2 (nNat n) 1) (qaa (xRow r2 (nNat n) 2))) .non]]),3,103)] [55,55,55]))) .fail) .fail) .fail) .fail) .fail) .fail) .fail) .fail) .fail) (.ret (.out (.exit 2) [.ptr 1 0,.ptr 2 0] (Store.mk [[.str s,.sl r .non,.sl r2 .non],[.str s2,.sl r3 .full,.sl r4 .full],[.str s3,.sl r5 (.tok 0),.sl r6 (.tok 1)]] [(k,2,101),(k2,3,103)] [55,55,55])))) (.ret (.out (.exit 2) [.ptr 1 0,.ptr 2 0] (Store.mk [[.str s,.sl r .non,.sl r2 .non],[.str s2,.sl r3 .full,.sl r4 .full],[.str s3,.sl r5 (.tok 0),.sl r6 (.tok 1)]] [(k,2,101),(k2,3,103)] [55,55,55])))
theorem qMc (n:Int) (s:List UInt8) (r:List (List PV)) (r2:List (List PV)) (s2:List UInt8) (r3:List (List PV)) (r4:List (List PV)) (s3:List UInt8) (r5:List (List PV)) (r6:List (List PV)) (k:Nat) (k2:Nat):lstep tbT qxe qxX qz9 qAn [.ptr 0 0,.ptr 1 0,.ptr 2 0,.int .i64 n] ⟨[[.str s,.sl r .non,.sl r2 .non],[.str s2,.sl r3 .full,.sl r4 .full],[.str s3,.sl r5 (.tok 0),.sl r6 (.tok 1)]],[(k,2,101),(k2,3,103)],[55,55,55]⟩=qp8 n s r r2 s2 r3 r4 s3 r5 r6 k k2:=by kernel_rfl
theorem qI9 (n:Int) (s:List UInt8) (r:List (List PV)) (r2:List (List PV)) (s2:List UInt8) (r3:List (List PV)) (r4:List (List PV)) (s3:List UInt8) (r5:List (List PV)) (r6:List (List PV)) (k:Nat) (k2:Nat):qkl [.ptr 0 0,.ptr 1 0,.ptr 2 0,.int .i64 n] ⟨[[.str s,.sl r .non,.sl r2 .non],[.str s2,.sl r3 .full,.sl r4 .full],[.str s3,.sl r5 (.tok 0),.sl r6 (.tok 1)]],[(k,2,101),(k2,3,103)],[55,55,55]⟩=lnext qkl (qp8 n s r r2 s2 r3 r4 s3 r5 r6 k k2).run:=by unfold qkl; rw [qbF,qMc]
noncomputable def qgU (n:Int) (s:List UInt8) (r:List (List PV)) (r2:List (List PV)) (s2:List UInt8) (r3:List (List PV)) (r4:List (List PV)) (s3:List UInt8) (r5:List (List PV)) (r6:List (List PV)) (k:Nat) (k2:Nat):Option (PExit × List PV × Store):=qkl [.ptr 0 0,.ptr 1 0,.ptr 2 0,.int .i64 n] ⟨[[.str s,.sl r .non,.sl r2 .non],[.str s2,.sl r3 .full,.sl r4 .full],[.str s3,.sl r5 (.tok 0),.sl r6 (.tok 1)]],[(k,2,101),(k2,3,103)],[55,55,55]⟩
noncomputable def qDy (n:Int) (s:List UInt8) (r:List (List PV)) (r2:List (List PV)) (s2:List UInt8) (r3:List (List PV)) (r4:List (List PV)) (s3:List UInt8) (r5:List (List PV)) (r6:List (List PV)) (k:Nat) (k2:Nat):List UInt8:=(gStr (gAt (gObj (qgU n s r r2 s2 r3 r4 s3 r5 r6 k k2) 0) 0))
noncomputable def qDt (n:Int) (s:List UInt8) (r:List (List PV)) (r2:List (List PV)) (s2:List UInt8) (r3:List (List PV)) (r4:List (List PV)) (s3:List UInt8) (r5:List (List PV)) (r6:List (List PV)) (k:Nat) (k2:Nat):List (List PV):=(gRow (gAt (gObj (qgU n s r r2 s2 r3 r4 s3 r5 r6 k k2) 0) 1))
noncomputable def qxh (n:Int) (s:List UInt8) (r:List (List PV)) (r2:List (List PV)) (s2:List UInt8) (r3:List (List PV)) (r4:List (List PV)) (s3:List UInt8) (r5:List (List PV)) (r6:List (List PV)) (k:Nat) (k2:Nat):List (List PV):=(gRow (gAt (gObj (qgU n s r r2 s2 r3 r4 s3 r5 r6 k k2) 0) 2))
noncomputable def qxq (n:Int) (s:List UInt8) (r:List (List PV)) (r2:List (List PV)) (s2:List UInt8) (r3:List (List PV)) (r4:List (List PV)) (s3:List UInt8) (r5:List (List PV)) (r6:List (List PV)) (k:Nat) (k2:Nat):List UInt8:=(gStr (gAt (gObj (qgU n s r r2 s2 r3 r4 s3 r5 r6 k k2) 1) 0))
noncomputable def qxP (n:Int) (s:List UInt8) (r:List (List PV)) (r2:List (List PV)) (s2:List UInt8) (r3:List (List PV)) (r4:List (List PV)) (s3:List UInt8) (r5:List (List PV)) (r6:List (List PV)) (k:Nat) (k2:Nat):List (List PV):=(gRow (gAt (gObj (qgU n s r r2 s2 r3 r4 s3 r5 r6 k k2) 1) 1))
noncomputable def qzs (n:Int) (s:List UInt8) (r:List (List PV)) (r2:List (List PV)) (s2:List UInt8) (r3:List (List PV)) (r4:List (List PV)) (s3:List UInt8) (r5:List (List PV)) (r6:List (List PV)) (k:Nat) (k2:Nat):List (List PV):=(gRow (gAt (gObj (qgU n s r r2 s2 r3 r4 s3 r5 r6 k k2) 1) 2))
noncomputable def qtU (n:Int) (s:List UInt8) (r:List (List PV)) (r2:List (List PV)) (s2:List UInt8) (r3:List (List PV)) (r4:List (List PV)) (s3:List UInt8) (r5:List (List PV)) (r6:List (List PV)) (k:Nat) (k2:Nat):List UInt8:=(gStr (gAt (gObj (qgU n s r r2 s2 r3 r4 s3 r5 r6 k k2) 2) 0))
noncomputable def qus (n:Int) (s:List UInt8) (r:List (List PV)) (r2:List (List PV)) (s2:List UInt8) (r3:List (List PV)) (r4:List (List PV)) (s3:List UInt8) (r5:List (List PV)) (r6:List (List PV)) (k:Nat) (k2:Nat):List (List PV):=(gRow (gAt (gObj (qgU n s r r2 s2 r3 r4 s3 r5 r6 k k2) 2) 1))
noncomputable def quk (n:Int) (s:List UInt8) (r:List (List PV)) (r2:List (List PV)) (s2:List UInt8) (r3:List (List PV)) (r4:List (List PV)) (s3:List UInt8) (r5:List (List PV)) (r6:List (List PV)) (k:Nat) (k2:Nat):List (List PV):=(gRow (gAt (gObj (qgU n s r r2 s2 r3 r4 s3 r5 r6 k k2) 2) 2))
noncomputable def qEO (n:Int) (s:List UInt8) (r:List (List PV)) (r2:List (List PV)) (s2:List UInt8) (r3:List (List PV)) (r4:List (List PV)) (s3:List UInt8) (r5:List (List PV)) (r6:List (List PV)) (k:Nat) (k2:Nat):Nat:=(gTok (qgU n s r r2 s2 r3 r4 s3 r5 r6 k k2) 0)
noncomputable def qx3 (n:Int) (s:List UInt8) (r:List (List PV)) (r2:List (List PV)) (s2:List UInt8) (r3:List (List PV)) (r4:List (List PV)) (s3:List UInt8) (r5:List (List PV)) (r6:List (List PV)) (k:Nat) (k2:Nat):Nat:=(gTok (qgU n s r r2 s2 r3 r4 s3 r5 r6 k k2) 1)
noncomputable def qtE (n:Int) (s:List UInt8) (r:List (List PV)) (r2:List (List PV)) (s2:List UInt8) (r3:List (List PV)) (r4:List (List PV)) (s3:List UInt8) (r5:List (List PV)) (r6:List (List PV)) (k:Nat) (k2:Nat):Bool:=isW (qgU n s r r2 s2 r3 r4 s3 r5 r6 k k2) ((.exit 2),[.ptr 1 0,.ptr 2 0],⟨[[.str (qDy n s r r2 s2 r3 r4 s3 r5 r6 k k2),.sl (qDt n s r r2 s2 r3 r4 s3 r5 r6 k k2) .non,.sl (qxh n s r r2 s2 r3 r4 s3 r5 r6 k k2) .non],[.str (qxq n s r r2 s2 r3 r4 s3 r5 r6 k k2),.sl (qxP n s r r2 s2 r3 r4 s3 r5 r6 k k2) .full,.sl (qzs n s r r2 s2 r3 r4 s3 r5 r6 k k2) .full],[.str (qtU n s r r2 s2 r3 r4 s3 r5 r6 k k2),.sl (qus n s r r2 s2 r3 r4 s3 r5 r6 k k2) (.tok 0),.sl (quk n s r r2 s2 r3 r4 s3 r5 r6 k k2) (.tok 1)]],[((qEO n s r r2 s2 r3 r4 s3 r5 r6 k k2),2,101),((qx3 n s r r2 s2 r3 r4 s3 r5 r6 k k2),3,103)],[55,55,55]⟩)
noncomputable def qlY:List PV→Store→Tr (PExit × List PV × Store) | [.ptr 0 0,.ptr 1 0,.ptr 2 0,.int .i64 n],⟨[[.str s,.sl r .non,.sl r2 .non],[.str s2,.sl r3 .full,.sl r4 .full],[.str s3,.sl r5 (.tok 0),.sl r6 (.tok 1)]],[(k,2,101),(k2,3,103)],[55,55,55]⟩=>.ite (qtE n s r r2 s2 r3 r4 s3 r5 r6 k k2) (.ret ((.exit 2),[.ptr 1 0,.ptr 2 0],⟨[[.str (qDy n s r r2 s2 r3 r4 s3 r5 r6 k k2),.sl (qDt n s r r2 s2 r3 r4 s3 r5 r6 k k2) .non,.sl (qxh n s r r2 s2 r3 r4 s3 r5 r6 k k2) .non],[.str (qxq n s r r2 s2 r3 r4 s3 r5 r6 k k2),.sl (qxP n s r r2 s2 r3 r4 s3 r5 r6 k k2) .full,.sl (qzs n s r r2 s2 r3 r4 s3 r5 r6 k k2) .full],[.str (qtU n s r r2 s2 r3 r4 s3 r5 r6 k k2),.sl (qus n s r r2 s2 r3 r4 s3 r5 r6 k k2) (.tok 0),.sl (quk n s r r2 s2 r3 r4 s3 r5 r6 k k2) (.tok 1)]],[((qEO n s r r2 s2 r3 r4 s3 r5 r6 k k2),2,101),((qx3 n s r r2 s2 r3 r4 s3 r5 r6 k k2),3,103)],[55,55,55]⟩)) (.fail) | _,_=>.fail
theorem qKD:∀ vs σ r,(qlY vs σ).run=some r→qkl vs σ=some r:=by
 intro vs σ r h
 unfold qlY at h
 split at h
 ·exact qai h fun h=>by cases h
 ·cases h
theorem qEN (gl:Gl):∀ fr σ e fr' σ',(orc qAn qlY fr σ).run=some (e,fr',σ')→LDoes Tryz.prog gl qz9 fr σ e fr' σ':=qcl qaj (qxl gl ) qah (L:=qxX) (qae (by kernel_rfl)) (by kernel_rfl) qKD
noncomputable def qKp:LpsT:=fun r fr σ=>bif Nat.beq r 3 then orc qAc qlG fr σ else bif Nat.beq r 7 then orc qAn qlY fr σ else .fail
noncomputable def qGv (v:List UInt8) (v2:List (List PV)) (v3:List (List PV)):Tr PV:=.ite (qlI v) (.ite (qtF 0 v v2 v3 [] [] [] (tx_s v) [] [] 0 0) (.ite (qtE 0 (qqU 0 v v2 v3 [] [] [] (tx_s v) [] [] 0 0) (qqh 0 v v2 v3 [] [] [] (tx_s v) [] [] 0 0) (qk4 0 v v2 v3 [] [] [] (tx_s v) [] [] 0 0) (qkR 0 v v2 v3 [] [] [] (tx_s v) [] [] 0 0) (qkB 0 v v2 v3 [] [] [] (tx_s v) [] [] 0 0) (qla 0 v v2 v3 [] [] [] (tx_s v) [] [] 0 0) (qk6 0 v v2 v3 [] [] [] (tx_s v) [] [] 0 0) (qkW 0 v v2 v3 [] [] [] (tx_s v) [] [] 0 0) (qkJ 0 v v2 v3 [] [] [] (tx_s v) [] [] 0 0) (qq0 0 v v2 v3 [] [] [] (tx_s v) [] [] 0 0) (qk9 0 v v2 v3 [] [] [] (tx_s v) [] [] 0 0)) (.ret (.agg [.str (qtU 0 (qqU 0 v v2 v3 [] [] [] (tx_s v) [] [] 0 0) (qqh 0 v v2 v3 [] [] [] (tx_s v) [] [] 0 0) (qk4 0 v v2 v3 [] [] [] (tx_s v) [] [] 0 0) (qkR 0 v v2 v3 [] [] [] (tx_s v) [] [] 0 0) (qkB 0 v v2 v3 [] [] [] (tx_s v) [] [] 0 0) (qla 0 v v2 v3 [] [] [] (tx_s v) [] [] 0 0) (qk6 0 v v2 v3 [] [] [] (tx_s v) [] [] 0 0) (qkW 0 v v2 v3 [] [] [] (tx_s v) [] [] 0 0) (qkJ 0 v v2 v3 [] [] [] (tx_s v) [] [] 0 0) (qq0 0 v v2 v3 [] [] [] (tx_s v) [] [] 0 0) (qk9 0 v v2 v3 [] [] [] (tx_s v) [] [] 0 0)),.sl (qb4 (qus 0 (qqU 0 v v2 v3 [] [] [] (tx_s v) [] [] 0 0) (qqh 0 v v2 v3 [] [] [] (tx_s v) [] [] 0 0) (qk4 0 v v2 v3 [] [] [] (tx_s v) [] [] 0 0) (qkR 0 v v2 v3 [] [] [] (tx_s v) [] [] 0 0) (qkB 0 v v2 v3 [] [] [] (tx_s v) [] [] 0 0) (qla 0 v v2 v3 [] [] [] (tx_s v) [] [] 0 0) (qk6 0 v v2 v3 [] [] [] (tx_s v) [] [] 0 0) (qkW 0 v v2 v3 [] [] [] (tx_s v) [] [] 0 0) (qkJ 0 v v2 v3 [] [] [] (tx_s v) [] [] 0 0) (qq0 0 v v2 v3 [] [] [] (tx_s v) [] [] 0 0) (qk9 0 v v2 v3 [] [] [] (tx_s v) [] [] 0 0))) .non,.sl (qb4 (quk 0 (qqU 0 v v2 v3 [] [] [] (tx_s v) [] [] 0 0) (qqh 0 v v2 v3 [] [] [] (tx_s v) [] [] 0 0) (qk4 0 v v2 v3 [] [] [] (tx_s v) [] [] 0 0)
 (qkR 0 v v2 v3 [] [] [] (tx_s v) [] [] 0 0) (qkB 0 v v2 v3 [] [] [] (tx_s v) [] [] 0 0) (qla 0 v v2 v3 [] [] [] (tx_s v) [] [] 0 0) (qk6 0 v v2 v3 [] [] [] (tx_s v) [] [] 0 0) (qkW 0 v v2 v3 [] [] [] (tx_s v) [] [] 0 0) (qkJ 0 v v2 v3 [] [] [] (tx_s v) [] [] 0 0) (qq0 0 v v2 v3 [] [] [] (tx_s v) [] [] 0 0) (qk9 0 v v2 v3 [] [] [] (tx_s v) [] [] 0 0))) .non])) .fail) .fail) .fail
theorem qNF (v:List UInt8) (v2:List (List PV)) (v3:List (List PV)):(tcall tbT qxe qKp Tryz.f25 [.agg [.str v,.sl v2 .non,.sl v3 .non]]).flat=qGv v v2 v3:=by kernel_rfl
noncomputable def qBo (v:List UInt8) (v2:List (List PV)) (v3:List (List PV)):Option PV:=(qGv v v2 v3).run
noncomputable def qmU (v:List UInt8) (v2:List (List PV)) (v3:List (List PV)):List UInt8:=(gStr (gAt (gCs (gVal (qBo v v2 v3))) 0))
noncomputable def qnx (v:List UInt8) (v2:List (List PV)) (v3:List (List PV)):List (List PV):=(gRow (gAt (gCs (gVal (qBo v v2 v3))) 1))
noncomputable def qgK (v:List UInt8) (v2:List (List PV)) (v3:List (List PV)):List (List PV):=(gRow (gAt (gCs (gVal (qBo v v2 v3))) 2))
noncomputable def qkG (v:List UInt8) (v2:List (List PV)) (v3:List (List PV)):Bool:=isW (qBo v v2 v3) (.agg [.str (qmU v v2 v3),.sl (qnx v v2 v3) .non,.sl (qgK v v2 v3) .non])
noncomputable def qKA:List PV→Tr PV | [.agg [.str v,.sl v2 .non,.sl v3 .non]]=>.ite (qkG v v2 v3) (.ret (.agg [.str (qmU v v2 v3),.sl (qnx v v2 v3) .non,.sl (qgK v v2 v3) .non])) (.fail) | _=>.fail
theorem qLT (gl:Gl):SimP Tryz.prog gl 25 fun args=>(qKA args).run:=by
 refine SimP.of_flat (G:=qxe) (L:=qKp) qaj (qxl gl ) qah Tryz.func25 rfl (by rfl) (by kernel_rfl) (qaX (L:=lps qKp) [(3,qAu),(7,qz9)] (by kernel_rfl) (List.forall_mem_cons.2 ⟨fun fr σ e fr' σ' h=>qGC gl  fr σ e fr' σ' h,(List.forall_mem_cons.2 ⟨fun fr σ e fr' σ' h=>qEN gl  fr σ e fr' σ' h,(List.forall_mem_nil _)⟩)⟩)) ?_
 intro args x h
 unfold qKA at h
 split at h
 ·exact (congrArg Tr.run (qNF _ _ _)).trans (qai h fun h=>by cases h)
 ·cases h
end Go.Pv
