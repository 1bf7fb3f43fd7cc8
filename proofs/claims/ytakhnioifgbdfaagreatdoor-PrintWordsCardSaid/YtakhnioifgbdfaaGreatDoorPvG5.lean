/- Part 5 of the proof: pure values for the machine's values, what functions compute over them, and laws of what is computed. Conditions: none beyond each theorem's own premises. -/
import Derived.Test.YtakhnioifgbdfaaGreatDoorPvG4
set_option maxHeartbeats 4000000
set_option maxRecDepth 200000
set_option linter.unusedSimpArgs false
set_option linter.unusedVariables false
namespace Go.Pv
open Go Go.Proofs
noncomputable def qIk:GamT:=ofL [(55,.pure qtt)]
theorem qKz (gl:Gl) (hg:GlLex gl):qaR Tryz.prog gl (gam qIk):=(qac (quA gl hg) qag)
noncomputable def qLg:LpsT:=fun r fr σ=>.fail
noncomputable def qDb (d:List UInt8) (d2:Bool) (d3:List (List PV)):Tr PV:=.ite (qgG d d2 (qaa d3)) (.ite (qa2 (qis d d2 (qaa d3)) [10]) (.ret (.tup [.str (sApp (qis d d2 (qaa d3)) [10]),.bool (qkJ d d2 (qaa d3))])) .fail) .fail
theorem qMS (d:List UInt8) (d2:Bool) (d3:List (List PV)):(tcall tbT qIk qLg Tryz.f89 [.agg [.str d,.bool d2,.sl d3 .non],.ref [.fn 55 []]]).flat=qDb d d2 d3:=by kernel_rfl
noncomputable def qEo (d:List UInt8) (d2:Bool) (d3:List (List PV)):Option PV:=(qDb d d2 d3).run
noncomputable def qrr (d:List UInt8) (d2:Bool) (d3:List (List PV)):List UInt8:=(gStr (gAt (gCs (gVal (qEo d d2 d3))) 0))
noncomputable def qvY (d:List UInt8) (d2:Bool) (d3:List (List PV)):Bool:=(qb4 (gAt (gCs (gVal (qEo d d2 d3))) 1))
noncomputable def qmu (d:List UInt8) (d2:Bool) (d3:List (List PV)):Bool:=isW (qEo d d2 d3) (.tup [.str (qrr d d2 d3),.bool (qvY d d2 d3)])
noncomputable def qGx:List PV→Tr PV | [.agg [.str d,.bool d2,.sl d3 .non],.ref [.fn 55 []]]=>.ite (qmu d d2 d3) (.ret (.tup [.str (qrr d d2 d3),.bool (qvY d d2 d3)])) (.fail) | _=>.fail
theorem qCj (gl:Gl) (hg:GlLex gl):SimP Tryz.prog gl 89 fun args=>(qGx args).run:=by
 refine SimP.of_flat (G:=qIk) (L:=qLg) qav (qKz gl hg ) qah  Tryz.func89 rfl (by rfl) (by kernel_rfl) (qae (by kernel_rfl)) ?_
 intro args x h
 unfold qGx at h
 split at h
 ·exact (congrArg Tr.run (qMS _ _ _)).trans (qai h fun h=>by cases h)
 ·cases h
noncomputable def qIA:GamT:=ofL [(57,.pure qFe)]
theorem qJt (gl:Gl) (hg:GlLex gl):qaR Tryz.prog gl (gam qIA):=(qac (qyb gl hg) qag)
noncomputable def qLX:LpsT:=fun r fr σ=>.fail
noncomputable def qCA (o:List UInt8) (o2:List (List PV)) (o3:List (List PV)):Tr PV:=.ite (qj0 o (qaa o2) (qaa o3)) (.ite (qa2 (qoY o (qaa o2) (qaa o3)) [10]) (.ret (.tup [.str (sApp (qoY o (qaa o2) (qaa o3)) [10]),.bool (qrl o (qaa o2) (qaa o3))])) .fail) .fail
theorem qM7 (o:List UInt8) (o2:List (List PV)) (o3:List (List PV)):(tcall tbT qIA qLX Tryz.f90 [.agg [.str o,.sl o2 .non,.sl o3 .non],.ref [.fn 57 []]]).flat=qCA o o2 o3:=by kernel_rfl
noncomputable def qBG (o:List UInt8) (o2:List (List PV)) (o3:List (List PV)):Option PV:=(qCA o o2 o3).run
noncomputable def qro (o:List UInt8) (o2:List (List PV)) (o3:List (List PV)):List UInt8:=(gStr (gAt (gCs (gVal (qBG o o2 o3))) 0))
noncomputable def qwn (o:List UInt8) (o2:List (List PV)) (o3:List (List PV)):Bool:=(qb4 (gAt (gCs (gVal (qBG o o2 o3))) 1))
noncomputable def qmF (o:List UInt8) (o2:List (List PV)) (o3:List (List PV)):Bool:=isW (qBG o o2 o3) (.tup [.str (qro o o2 o3),.bool (qwn o o2 o3)])
noncomputable def qGf:List PV→Tr PV | [.agg [.str o,.sl o2 .non,.sl o3 .non],.ref [.fn 57 []]]=>.ite (qmF o o2 o3) (.ret (.tup [.str (qro o o2 o3),.bool (qwn o o2 o3)])) (.fail) | _=>.fail
theorem qC9 (gl:Gl) (hg:GlLex gl):SimP Tryz.prog gl 90 fun args=>(qGf args).run:=by
 refine SimP.of_flat (G:=qIA) (L:=qLX) qav (qJt gl hg ) qah  Tryz.func90 rfl (by rfl) (by kernel_rfl) (qae (by kernel_rfl)) ?_
 intro args x h
 unfold qGf at h
 split at h
 ·exact (congrArg Tr.run (qM7 _ _ _)).trans (qai h fun h=>by cases h)
 ·cases h
noncomputable def qJD:GamT:=ofL [(54,.pure qqv)]
theorem qJG (gl:Gl) (hg:GlLex gl):qaR Tryz.prog gl (gam qJD):=(qac (qqt gl hg) qag)
noncomputable def qMb:LpsT:=fun r fr σ=>.fail
noncomputable def qET (x:List UInt8) (x2:List (List PV)) (x3:List (List PV)):Tr PV:=.ite (qfT x (qaa x2) (qaa x3)) (.ite (qa2 (qf2 x (qaa x2) (qaa x3)) [10]) (.ret (.tup [.str (sApp (qf2 x (qaa x2) (qaa x3)) [10]),.bool (qgu x (qaa x2) (qaa x3))])) .fail) .fail
theorem qMX (x:List UInt8) (x2:List (List PV)) (x3:List (List PV)):(tcall tbT qJD qMb Tryz.f91 [.agg [.str x,.sl x2 .non,.sl x3 .non],.ref [.fn 54 []]]).flat=qET x x2 x3:=by kernel_rfl
noncomputable def qBE (x:List UInt8) (x2:List (List PV)) (x3:List (List PV)):Option PV:=(qET x x2 x3).run
noncomputable def qrp (x:List UInt8) (x2:List (List PV)) (x3:List (List PV)):List UInt8:=(gStr (gAt (gCs (gVal (qBE x x2 x3))) 0))
noncomputable def qxn (x:List UInt8) (x2:List (List PV)) (x3:List (List PV)):Bool:=(qb4 (gAt (gCs (gVal (qBE x x2 x3))) 1))
noncomputable def qmB (x:List UInt8) (x2:List (List PV)) (x3:List (List PV)):Bool:=isW (qBE x x2 x3) (.tup [.str (qrp x x2 x3),.bool (qxn x x2 x3)])
noncomputable def qG4:List PV→Tr PV | [.agg [.str x,.sl x2 .non,.sl x3 .non],.ref [.fn 54 []]]=>.ite (qmB x x2 x3) (.ret (.tup [.str (qrp x x2 x3),.bool (qxn x x2 x3)])) (.fail) | _=>.fail
theorem qCd (gl:Gl) (hg:GlLex gl):SimP Tryz.prog gl 91 fun args=>(qG4 args).run:=by
 refine SimP.of_flat (G:=qJD) (L:=qMb) qav (qJG gl hg ) qah  Tryz.func91 rfl (by rfl) (by kernel_rfl) (qae (by kernel_rfl)) ?_
 intro args x h
 unfold qG4 at h
 split at h
 ·exact (congrArg Tr.run (qMX _ _ _)).trans (qai h fun h=>by cases h)
 ·cases h
noncomputable def qDi:GamT:=ofL [(88,.pure qjR),(89,.pure qGx),(qe3,.hint [(8,0,1,9)])]
theorem qDa (gl:Gl) (hg:GlLex gl):qaR Tryz.prog gl (gam qDi):=(qac (qf7 hg.toGlOk.toGlPow) (qac (qCj gl hg) (qbS (K:=.hint [(8,0,1,9)]) trivial qag)))
noncomputable def qyK:Code:=qeP Tryz.f60 3
def qza:LI:=⟨35,[1,2,8,13,14,15],fun e=>match e with | .ret=>[6,7] | .exit 0=>[1,8] | _=>[],true⟩
noncomputable def qxS:LpsT:=fun r fr σ=>.fail
noncomputable def qjY (vs:List PV) (σ:Store):Option (PExit × List PV × Store):=lval (lstep tbT qDi qxS qyK qza) vs σ
noncomputable def qp4 (between:List UInt8) (texts:List (List PV)) (r:List (List PV)) (n:Int) (n2:Int) (k:Nat):Tr LR:=.ite (iLt n2 n) (.ite (qaw n2) (.ite (qbM [.str [],.bool false,.sl [] .full] r (nNat n2)) (.ite (qmu (xStr r (nNat n2) 0) (qcm r (nNat n2) 1) (qaa (xRow r (nNat n2) 2))) (.ite (bNot (qvY (xStr r (nNat n2) 0) (qcm r (nNat n2) 1) (qaa (xRow r (nNat n2) 2)))) (.ret (.out .ret [.str [],.bool false] (Store.mk [] [(k,1,9)] []))) (.ite (qaP texts [[.str (qrr (xStr r (nNat n2) 0) (qcm r (nNat n2) 1) (qaa (xRow r (nNat n2) 2)))]] 16) (.ite (qaO [[.str (qrr (xStr r (nNat n2) 0) (qcm r (nNat n2) 1) (qaa (xRow r (nNat n2) 2)))]] 1) (.ite (qaC texts 1) (.ite (nEq k (nXs texts)) (.ret (.next [.str between,.fn 89 [.ref [.fn 55 []]],.sl (qay 0 (xApp texts [[.str (qrr (xStr r (nNat n2) 0) (qcm r (nNat n2) 1) (qaa (xRow r (nNat n2) 2)))]])) (.tok 0),.sl (qay 0 r) .non,.int .i64 n,.int .i64 (iAdd .i64 n2 1)] (Store.mk [] [(nXs (xApp texts [[.str (qrr (xStr r (nNat n2) 0) (qcm r (nNat n2) 1) (qaa (xRow r (nNat n2) 2)))]]),1,9)] []))) .fail) .fail) .fail) .fail)) .fail) .fail) .fail) (.ret (.out (.exit 0) [.str between,.sl texts (.tok 0)] (Store.mk [] [(k,1,9)] [])))
theorem qMg (between:List UInt8) (texts:List (List PV)) (r:List (List PV)) (n:Int) (n2:Int) (k:Nat):lstep tbT qDi qxS qyK qza [.str between,.fn 89 [.ref [.fn 55 []]],.sl texts (.tok 0),.sl r .non,.int .i64 n,.int .i64 n2] ⟨[],[(k,1,9)],[]⟩=qp4 between texts r n n2 k:=by kernel_rfl
theorem qDf (between:List UInt8) (texts:List (List PV)) (r:List (List PV)) (n:Int) (n2:Int) (k:Nat):qjY [.str between,.fn 89 [.ref [.fn 55 []]],.sl texts (.tok 0),.sl r .non,.int .i64 n,.int .i64 n2] ⟨[],[(k,1,9)],[]⟩=lnext qjY (qp4 between texts r n n2 k).run:=by unfold qjY; rw [qbK,qMg]
noncomputable def qjX (between:List UInt8) (texts:List (List PV)) (r:List (List PV)) (n:Int) (n2:Int) (k:Nat):Option (PExit × List PV × Store):=qjY [.str between,.fn 89 [.ref [.fn 55 []]],.sl texts (.tok 0),.sl r .non,.int .i64 n,.int .i64 n2] ⟨[],[(k,1,9)],[]⟩
noncomputable def qk2 (between:List UInt8) (texts:List (List PV)) (r:List (List PV)) (n:Int) (n2:Int) (k:Nat):List UInt8:=(gStr (gOut (qjX between texts r n n2 k) 0))
noncomputable def qlT (between:List UInt8) (texts:List (List PV)) (r:List (List PV)) (n:Int) (n2:Int) (k:Nat):Bool:=(qb4 (gOut (qjX between texts r n n2 k) 1))
noncomputable def qox (between:List UInt8) (texts:List (List PV)) (r:List (List PV)) (n:Int) (n2:Int) (k:Nat):Nat:=(gTok (qjX between texts r n n2 k) 0)
noncomputable def qn0 (between:List UInt8) (texts:List (List PV)) (r:List (List PV)) (n:Int) (n2:Int) (k:Nat):Bool:=isW (qjX between texts r n n2 k) (.ret,[.str (qk2 between texts r n n2 k),.bool (qlT between texts r n n2 k)],⟨[],[((qox between texts r n n2 k),1,9)],[]⟩)
noncomputable def qcK (between:List UInt8) (texts:List (List PV)) (r:List (List PV)) (n:Int) (n2:Int) (k:Nat):List UInt8:=(gStr (gOut (qjX between texts r n n2 k) 0))
noncomputable def qde (between:List UInt8) (texts:List (List PV)) (r:List (List PV)) (n:Int) (n2:Int) (k:Nat):List (List PV):=(gRow (gOut (qjX between texts r n n2 k) 1))
noncomputable def qoR (between:List UInt8) (texts:List (List PV)) (r:List (List PV)) (n:Int) (n2:Int) (k:Nat):Nat:=(gTok (qjX between texts r n n2 k) 0)
noncomputable def qn5 (between:List UInt8) (texts:List (List PV)) (r:List (List PV)) (n:Int) (n2:Int) (k:Nat):Bool:=isW (qjX between texts r n n2 k) ((.exit 0),[.str (qcK between texts r n n2 k),.sl (qde between texts r n n2 k) (.tok 0)],⟨[],[((qoR between texts r n n2 k),1,9)],[]⟩)
noncomputable def qlu:List PV→Store→Tr (PExit × List PV × Store) | [.str between,.fn 89 [.ref [.fn 55 []]],.sl texts (.tok 0),.sl r .non,.int .i64 n,.int .i64 n2],⟨[],[(k,1,9)],[]⟩=>.ite (qn0 between texts r n n2 k) (.ret (.ret,[.str (qk2 between texts r n n2 k),.bool (qlT between texts r n n2 k)],⟨[],[((qox between texts r n n2 k),1,9)],[]⟩)) (.ite (qn5 between texts r n n2 k) (.ret ((.exit 0),[.str (qcK between texts r n n2 k),.sl (qde between texts r n n2 k) (.tok 0)],⟨[],[((qoR between texts r n n2 k),1,9)],[]⟩)) (.fail)) | _,_=>.fail
theorem qIB:∀ vs σ r,(qlu vs σ).run=some r→qjY vs σ=some r:=by
 intro vs σ r h
 unfold qlu at h
 split at h
 ·exact qai h fun h=>qai h fun h=>by cases h
 ·cases h
theorem qBI (gl:Gl) (hg:GlLex gl):∀ fr σ e fr' σ',(orc qza qlu fr σ).run=some (e,fr',σ')→LDoes Tryz.prog gl qyK fr σ e fr' σ':=qcs qav (qDa gl hg ) qah (L:=qxS) (qae (by kernel_rfl)) (by kernel_rfl) qIB
noncomputable def qKc:LpsT:=fun r fr σ=>bif Nat.beq r 3 then orc qza qlu fr σ else .fail
noncomputable def qB1 (l:List (List PV)) (sep:List UInt8):Tr PV:=.ite (qn0 sep [] l (xLen l) 0 0) (.ret (.tup [.str (qk2 sep [] l (xLen l) 0 0),.bool (qlT sep [] l (xLen l) 0 0)])) (.ite (qn5 sep [] l (xLen l) 0 0) (.ite (okR cS (qaa (qde sep [] l (xLen l) 0 0))) (.ite (qdZ (unR cS (qaa (qde sep [] l (xLen l) 0 0))) (qcK sep [] l (xLen l) 0 0)) (.ret (.tup [.str (qdy (unR cS (qaa (qde sep [] l (xLen l) 0 0))) (qcK sep [] l (xLen l) 0 0)),.bool true])) .fail) .fail) .fail)
theorem qNk (l:List (List PV)) (sep:List UInt8):(tcall tbT qDi qKc Tryz.f60 [.sl l .non,.str sep,.fn 89 [.ref [.fn 55 []]]]).flat=qB1 l sep:=by kernel_rfl
noncomputable def qEn (l:List (List PV)) (sep:List UInt8):Option PV:=(qB1 l sep).run
noncomputable def qrv (l:List (List PV)) (sep:List UInt8):List UInt8:=(gStr (gAt (gCs (gVal (qEn l sep))) 0))
noncomputable def qv8 (l:List (List PV)) (sep:List UInt8):Bool:=(qb4 (gAt (gCs (gVal (qEn l sep))) 1))
noncomputable def qmq (l:List (List PV)) (sep:List UInt8):Bool:=isW (qEn l sep) (.tup [.str (qrv l sep),.bool (qv8 l sep)])
noncomputable def qIL:List PV→Tr PV | [.sl l .non,.str sep,.fn 89 [.ref [.fn 55 []]]]=>.ite (qmq l sep) (.ret (.tup [.str (qrv l sep),.bool (qv8 l sep)])) (.fail) | _=>.fail
theorem qJo (gl:Gl) (hg:GlLex gl):SimP Tryz.prog gl 60 fun args=>(qIL args).run:=by
 refine SimP.of_flat (G:=qDi) (L:=qKc) qav (qDa gl hg ) qah  Tryz.func60 rfl (by rfl) (by kernel_rfl) (qbg (L:=lps qKc) [(3,qyK)] (by kernel_rfl) (List.forall_mem_cons.2 ⟨fun fr σ e fr' σ' h=>qBI gl hg  fr σ e fr' σ' h,(List.forall_mem_nil _)⟩)) ?_
 intro args x h
 unfold qIL at h
 split at h
 ·exact (congrArg Tr.run (qNk _ _)).trans (qai h fun h=>by cases h)
 ·cases h
noncomputable def qDx:GamT:=ofL [(88,.pure qjR),(90,.pure qGf),(qe3,.hint [(8,0,1,9)])]
theorem qFb (gl:Gl) (hg:GlLex gl):qaR Tryz.prog gl (gam qDx):=(qac (qf7 hg.toGlOk.toGlPow) (qac (qC9 gl hg) (qbS (K:=.hint [(8,0,1,9)]) trivial qag)))
noncomputable def qyC:Code:=qeP Tryz.f62 3
def qzB:LI:=⟨35,[1,2,8,13,14,15],fun e=>match e with | .ret=>[6,7] | .exit 0=>[1,8] | _=>[],true⟩
noncomputable def qvV:LpsT:=fun r fr σ=>.fail
noncomputable def qjW (vs:List PV) (σ:Store):Option (PExit × List PV × Store):=lval (lstep tbT qDx qvV qyC qzB) vs σ
noncomputable def qre (between:List UInt8) (texts:List (List PV)) (r:List (List PV)) (n:Int) (n2:Int) (k:Nat):Tr LR:=.ite (iLt n2 n) (.ite (qaw n2) (.ite (qbM [.str [],.sl [] .full,.sl [] .full] r (nNat n2)) (.ite (qmF (xStr r (nNat n2) 0) (qaa (xRow r (nNat n2) 1)) (qaa (xRow r (nNat n2) 2))) (.ite (bNot (qwn (xStr r (nNat n2) 0) (qaa (xRow r (nNat n2) 1)) (qaa (xRow r (nNat n2) 2)))) (.ret (.out .ret [.str [],.bool false] (Store.mk [] [(k,1,9)] []))) (.ite (qaP texts [[.str (qro (xStr r (nNat n2) 0) (qaa (xRow r (nNat n2) 1)) (qaa (xRow r (nNat n2) 2)))]] 16) (.ite (qaO [[.str (qro (xStr r (nNat n2) 0) (qaa (xRow r (nNat n2) 1)) (qaa (xRow r (nNat n2) 2)))]] 1) (.ite (qaC texts 1) (.ite (nEq k (nXs texts)) (.ret (.next [.str between,.fn 90 [.ref [.fn 57 []]],.sl (qay 0 (xApp texts [[.str (qro (xStr r (nNat n2) 0) (qaa (xRow r (nNat n2) 1)) (qaa (xRow r (nNat n2) 2)))]])) (.tok 0),.sl (qay 0 r) .non,.int .i64 n,.int .i64 (iAdd .i64 n2 1)] (Store.mk [] [(nXs (xApp texts [[.str (qro (xStr r (nNat n2) 0) (qaa (xRow r (nNat n2) 1)) (qaa (xRow r (nNat n2) 2)))]]),1,9)] []))) .fail) .fail) .fail) .fail)) .fail) .fail) .fail) (.ret (.out (.exit 0) [.str between,.sl texts (.tok 0)] (Store.mk [] [(k,1,9)] [])))
theorem qK6 (between:List UInt8) (texts:List (List PV)) (r:List (List PV)) (n:Int) (n2:Int) (k:Nat):lstep tbT qDx qvV qyC qzB [.str between,.fn 90 [.ref [.fn 57 []]],.sl texts (.tok 0),.sl r .non,.int .i64 n,.int .i64 n2] ⟨[],[(k,1,9)],[]⟩=qre between texts r n n2 k:=by kernel_rfl
theorem qD8 (between:List UInt8) (texts:List (List PV)) (r:List (List PV)) (n:Int) (n2:Int) (k:Nat):qjW [.str between,.fn 90 [.ref [.fn 57 []]],.sl texts (.tok 0),.sl r .non,.int .i64 n,.int .i64 n2] ⟨[],[(k,1,9)],[]⟩=lnext qjW (qre between texts r n n2 k).run:=by unfold qjW; rw [qbK,qK6]
noncomputable def qjQ (between:List UInt8) (texts:List (List PV)) (r:List (List PV)) (n:Int) (n2:Int) (k:Nat):Option (PExit × List PV × Store):=qjW [.str between,.fn 90 [.ref [.fn 57 []]],.sl texts (.tok 0),.sl r .non,.int .i64 n,.int .i64 n2] ⟨[],[(k,1,9)],[]⟩
noncomputable def ql5 (between:List UInt8) (texts:List (List PV)) (r:List (List PV)) (n:Int) (n2:Int) (k:Nat):List UInt8:=(gStr (gOut (qjQ between texts r n n2 k) 0))
noncomputable def ql3 (between:List UInt8) (texts:List (List PV)) (r:List (List PV)) (n:Int) (n2:Int) (k:Nat):Bool:=(qb4 (gOut (qjQ between texts r n n2 k) 1))
noncomputable def qoh (between:List UInt8) (texts:List (List PV)) (r:List (List PV)) (n:Int) (n2:Int) (k:Nat):Nat:=(gTok (qjQ between texts r n n2 k) 0)
noncomputable def qoA (between:List UInt8) (texts:List (List PV)) (r:List (List PV)) (n:Int) (n2:Int) (k:Nat):Bool:=isW (qjQ between texts r n n2 k) (.ret,[.str (ql5 between texts r n n2 k),.bool (ql3 between texts r n n2 k)],⟨[],[((qoh between texts r n n2 k),1,9)],[]⟩)
noncomputable def qcD (between:List UInt8) (texts:List (List PV)) (r:List (List PV)) (n:Int) (n2:Int) (k:Nat):List UInt8:=(gStr (gOut (qjQ between texts r n n2 k) 0))
noncomputable def qcV (between:List UInt8) (texts:List (List PV)) (r:List (List PV)) (n:Int) (n2:Int) (k:Nat):List (List PV):=(gRow (gOut (qjQ between texts r n n2 k) 1))
noncomputable def qod (between:List UInt8) (texts:List (List PV)) (r:List (List PV)) (n:Int) (n2:Int) (k:Nat):Nat:=(gTok (qjQ between texts r n n2 k) 0)
noncomputable def qoK (between:List UInt8) (texts:List (List PV)) (r:List (List PV)) (n:Int) (n2:Int) (k:Nat):Bool:=isW (qjQ between texts r n n2 k) ((.exit 0),[.str (qcD between texts r n n2 k),.sl (qcV between texts r n n2 k) (.tok 0)],⟨[],[((qod between texts r n n2 k),1,9)],[]⟩)
noncomputable def qk3:List PV→Store→Tr (PExit × List PV × Store) | [.str between,.fn 90 [.ref [.fn 57 []]],.sl texts (.tok 0),.sl r .non,.int .i64 n,.int .i64 n2],⟨[],[(k,1,9)],[]⟩=>.ite (qoA between texts r n n2 k) (.ret (.ret,[.str (ql5 between texts r n n2 k),.bool (ql3 between texts r n n2 k)],⟨[],[((qoh between texts r n n2 k),1,9)],[]⟩)) (.ite (qoK between texts r n n2 k) (.ret ((.exit 0),[.str (qcD between texts r n n2 k),.sl (qcV between texts r n n2 k) (.tok 0)],⟨[],[((qod between texts r n n2 k),1,9)],[]⟩)) (.fail)) | _,_=>.fail
theorem qIH:∀ vs σ r,(qk3 vs σ).run=some r→qjW vs σ=some r:=by
 intro vs σ r h
 unfold qk3 at h
 split at h
 ·exact qai h fun h=>qai h fun h=>by cases h
 ·cases h
theorem qDN (gl:Gl) (hg:GlLex gl):∀ fr σ e fr' σ',(orc qzB qk3 fr σ).run=some (e,fr',σ')→LDoes Tryz.prog gl qyC fr σ e fr' σ':=qcs qav (qFb gl hg ) qah (L:=qvV) (qae (by kernel_rfl)) (by kernel_rfl) qIH
noncomputable def qJX:LpsT:=fun r fr σ=>bif Nat.beq r 3 then orc qzB qk3 fr σ else .fail
noncomputable def qBO (l:List (List PV)) (sep:List UInt8):Tr PV:=.ite (qoA sep [] l (xLen l) 0 0) (.ret (.tup [.str (ql5 sep [] l (xLen l) 0 0),.bool (ql3 sep [] l (xLen l) 0 0)])) (.ite (qoK sep [] l (xLen l) 0 0) (.ite (okR cS (qaa (qcV sep [] l (xLen l) 0 0))) (.ite (qdZ (unR cS (qaa (qcV sep [] l (xLen l) 0 0))) (qcD sep [] l (xLen l) 0 0)) (.ret (.tup [.str (qdy (unR cS (qaa (qcV sep [] l (xLen l) 0 0))) (qcD sep [] l (xLen l) 0 0)),.bool true])) .fail) .fail) .fail)
theorem qNl (l:List (List PV)) (sep:List UInt8):(tcall tbT qDx qJX Tryz.f62 [.sl l .non,.str sep,.fn 90 [.ref [.fn 57 []]]]).flat=qBO l sep:=by kernel_rfl
noncomputable def qEH (l:List (List PV)) (sep:List UInt8):Option PV:=(qBO l sep).run
noncomputable def qrq (l:List (List PV)) (sep:List UInt8):List UInt8:=(gStr (gAt (gCs (gVal (qEH l sep))) 0))
noncomputable def qxG (l:List (List PV)) (sep:List UInt8):Bool:=(qb4 (gAt (gCs (gVal (qEH l sep))) 1))
noncomputable def qmT (l:List (List PV)) (sep:List UInt8):Bool:=isW (qEH l sep) (.tup [.str (qrq l sep),.bool (qxG l sep)])
noncomputable def qI5:List PV→Tr PV | [.sl l .non,.str sep,.fn 90 [.ref [.fn 57 []]]]=>.ite (qmT l sep) (.ret (.tup [.str (qrq l sep),.bool (qxG l sep)])) (.fail) | _=>.fail
theorem qJi (gl:Gl) (hg:GlLex gl):SimP Tryz.prog gl 62 fun args=>(qI5 args).run:=by
 refine SimP.of_flat (G:=qDx) (L:=qJX) qav (qFb gl hg ) qah  Tryz.func62 rfl (by rfl) (by kernel_rfl) (qbg (L:=lps qJX) [(3,qyC)] (by kernel_rfl) (List.forall_mem_cons.2 ⟨fun fr σ e fr' σ' h=>qDN gl hg  fr σ e fr' σ' h,(List.forall_mem_nil _)⟩)) ?_
 intro args x h
 unfold qI5 at h
 split at h
 ·exact (congrArg Tr.run (qNl _ _)).trans (qai h fun h=>by cases h)
 ·cases h
noncomputable def qCJ:GamT:=ofL [(88,.pure qjR),(91,.pure qG4),(qe3,.hint [(8,0,1,9)])]
theorem qCN (gl:Gl) (hg:GlLex gl):qaR Tryz.prog gl (gam qCJ):=(qac (qf7 hg.toGlOk.toGlPow) (qac (qCd gl hg) (qbS (K:=.hint [(8,0,1,9)]) trivial qag)))
noncomputable def qyE:Code:=qeP Tryz.f64 3
def qyX:LI:=⟨35,[1,2,8,13,14,15],fun e=>match e with | .ret=>[6,7] | .exit 0=>[1,8] | _=>[],true⟩
noncomputable def qyh:LpsT:=fun r fr σ=>.fail
noncomputable def qjF (vs:List PV) (σ:Store):Option (PExit × List PV × Store):=lval (lstep tbT qCJ qyh qyE qyX) vs σ
noncomputable def qqh (between:List UInt8) (texts:List (List PV)) (r:List (List PV)) (n:Int) (n2:Int) (k:Nat):Tr LR:=.ite (iLt n2 n) (.ite (qaw n2) (.ite (qbM [.str [],.sl [] .full,.sl [] .full] r (nNat n2)) (.ite (qmB (xStr r (nNat n2) 0) (qaa (xRow r (nNat n2) 1)) (qaa (xRow r (nNat n2) 2))) (.ite (bNot (qxn (xStr r (nNat n2) 0) (qaa (xRow r (nNat n2) 1)) (qaa (xRow r (nNat n2) 2)))) (.ret (.out .ret [.str [],.bool false] (Store.mk [] [(k,1,9)] []))) (.ite (qaP texts [[.str (qrp (xStr r (nNat n2) 0) (qaa (xRow r (nNat n2) 1)) (qaa (xRow r (nNat n2) 2)))]] 16) (.ite (qaO [[.str (qrp (xStr r (nNat n2) 0) (qaa (xRow r (nNat n2) 1)) (qaa (xRow r (nNat n2) 2)))]] 1) (.ite (qaC texts 1) (.ite (nEq k (nXs texts)) (.ret (.next [.str between,.fn 91 [.ref [.fn 54 []]],.sl (qay 0 (xApp texts [[.str (qrp (xStr r (nNat n2) 0) (qaa (xRow r (nNat n2) 1)) (qaa (xRow r (nNat n2) 2)))]])) (.tok 0),.sl (qay 0 r) .non,.int .i64 n,.int .i64 (iAdd .i64 n2 1)] (Store.mk [] [(nXs (xApp texts [[.str (qrp (xStr r (nNat n2) 0) (qaa (xRow r (nNat n2) 1)) (qaa (xRow r (nNat n2) 2)))]]),1,9)] []))) .fail) .fail) .fail) .fail)) .fail) .fail) .fail) (.ret (.out (.exit 0) [.str between,.sl texts (.tok 0)] (Store.mk [] [(k,1,9)] [])))
theorem qMt (between:List UInt8) (texts:List (List PV)) (r:List (List PV)) (n:Int) (n2:Int) (k:Nat):lstep tbT qCJ qyh qyE qyX [.str between,.fn 91 [.ref [.fn 54 []]],.sl texts (.tok 0),.sl r .non,.int .i64 n,.int .i64 n2] ⟨[],[(k,1,9)],[]⟩=qqh between texts r n n2 k:=by kernel_rfl
theorem qE3 (between:List UInt8) (texts:List (List PV)) (r:List (List PV)) (n:Int) (n2:Int) (k:Nat):qjF [.str between,.fn 91 [.ref [.fn 54 []]],.sl texts (.tok 0),.sl r .non,.int .i64 n,.int .i64 n2] ⟨[],[(k,1,9)],[]⟩=lnext qjF (qqh between texts r n n2 k).run:=by unfold qjF; rw [qbK,qMt]
noncomputable def qjL (between:List UInt8) (texts:List (List PV)) (r:List (List PV)) (n:Int) (n2:Int) (k:Nat):Option (PExit × List PV × Store):=qjF [.str between,.fn 91 [.ref [.fn 54 []]],.sl texts (.tok 0),.sl r .non,.int .i64 n,.int .i64 n2] ⟨[],[(k,1,9)],[]⟩
noncomputable def qkZ (between:List UInt8) (texts:List (List PV)) (r:List (List PV)) (n:Int) (n2:Int) (k:Nat):List UInt8:=(gStr (gOut (qjL between texts r n n2 k) 0))
noncomputable def qkQ (between:List UInt8) (texts:List (List PV)) (r:List (List PV)) (n:Int) (n2:Int) (k:Nat):Bool:=(qb4 (gOut (qjL between texts r n n2 k) 1))
noncomputable def qoU (between:List UInt8) (texts:List (List PV)) (r:List (List PV)) (n:Int) (n2:Int) (k:Nat):Nat:=(gTok (qjL between texts r n n2 k) 0)
noncomputable def qnM (between:List UInt8) (texts:List (List PV)) (r:List (List PV)) (n:Int) (n2:Int) (k:Nat):Bool:=isW (qjL between texts r n n2 k) (.ret,[.str (qkZ between texts r n n2 k),.bool (qkQ between texts r n n2 k)],⟨[],[((qoU between texts r n n2 k),1,9)],[]⟩)
noncomputable def qcH (between:List UInt8) (texts:List (List PV)) (r:List (List PV)) (n:Int) (n2:Int) (k:Nat):List UInt8:=(gStr (gOut (qjL between texts r n n2 k) 0))
noncomputable def qdg (between:List UInt8) (texts:List (List PV)) (r:List (List PV)) (n:Int) (n2:Int) (k:Nat):List (List PV):=(gRow (gOut (qjL between texts r n n2 k) 1))
noncomputable def qow (between:List UInt8) (texts:List (List PV)) (r:List (List PV)) (n:Int) (n2:Int) (k:Nat):Nat:=(gTok (qjL between texts r n n2 k) 0)
noncomputable def qoa (between:List UInt8) (texts:List (List PV)) (r:List (List PV)) (n:Int) (n2:Int) (k:Nat):Bool:=isW (qjL between texts r n n2 k) ((.exit 0),[.str (qcH between texts r n n2 k),.sl (qdg between texts r n n2 k) (.tok 0)],⟨[],[((qow between texts r n n2 k),1,9)],[]⟩)
noncomputable def qlt:List PV→Store→Tr (PExit × List PV × Store) | [.str between,.fn 91 [.ref [.fn 54 []]],.sl texts (.tok 0),.sl r .non,.int .i64 n,.int .i64 n2],⟨[],[(k,1,9)],[]⟩=>.ite (qnM between texts r n n2 k) (.ret (.ret,[.str (qkZ between texts r n n2 k),.bool (qkQ between texts r n n2 k)],⟨[],[((qoU between texts r n n2 k),1,9)],[]⟩)) (.ite (qoa between texts r n n2 k) (.ret ((.exit 0),[.str (qcH between texts r n n2 k),.sl (qdg between texts r n n2 k) (.tok 0)],⟨[],[((qow between texts r n n2 k),1,9)],[]⟩)) (.fail)) | _,_=>.fail
theorem qIY:∀ vs σ r,(qlt vs σ).run=some r→qjF vs σ=some r:=by
 intro vs σ r h
 unfold qlt at h
 split at h
 ·exact qai h fun h=>qai h fun h=>by cases h
 ·cases h
theorem qEP (gl:Gl) (hg:GlLex gl):∀ fr σ e fr' σ',(orc qyX qlt fr σ).run=some (e,fr',σ')→LDoes Tryz.prog gl qyE fr σ e fr' σ':=qcs qav (qCN gl hg ) qah (L:=qyh) (qae (by kernel_rfl)) (by kernel_rfl) qIY
noncomputable def qIw:LpsT:=fun r fr σ=>bif Nat.beq r 3 then orc qyX qlt fr σ else .fail
noncomputable def qEr (l:List (List PV)) (sep:List UInt8):Tr PV:=.ite (qnM sep [] l (xLen l) 0 0) (.ret (.tup [.str (qkZ sep [] l (xLen l) 0 0),.bool (qkQ sep [] l (xLen l) 0 0)])) (.ite (qoa sep [] l (xLen l) 0 0) (.ite (okR cS (qaa (qdg sep [] l (xLen l) 0 0))) (.ite (qdZ (unR cS (qaa (qdg sep [] l (xLen l) 0 0))) (qcH sep [] l (xLen l) 0 0)) (.ret (.tup [.str (qdy (unR cS (qaa (qdg sep [] l (xLen l) 0 0))) (qcH sep [] l (xLen l) 0 0)),.bool true])) .fail) .fail) .fail)
theorem qNa (l:List (List PV)) (sep:List UInt8):(tcall tbT qCJ qIw Tryz.f64 [.sl l .non,.str sep,.fn 91 [.ref [.fn 54 []]]]).flat=qEr l sep:=by kernel_rfl
noncomputable def qB9 (l:List (List PV)) (sep:List UInt8):Option PV:=(qEr l sep).run
noncomputable def qtX (l:List (List PV)) (sep:List UInt8):List UInt8:=(gStr (gAt (gCs (gVal (qB9 l sep))) 0))
noncomputable def qwJ (l:List (List PV)) (sep:List UInt8):Bool:=(qb4 (gAt (gCs (gVal (qB9 l sep))) 1))
noncomputable def qna (l:List (List PV)) (sep:List UInt8):Bool:=isW (qB9 l sep) (.tup [.str (qtX l sep),.bool (qwJ l sep)])
noncomputable def qIn:List PV→Tr PV | [.sl l .non,.str sep,.fn 91 [.ref [.fn 54 []]]]=>.ite (qna l sep) (.ret (.tup [.str (qtX l sep),.bool (qwJ l sep)])) (.fail) | _=>.fail
theorem qJw (gl:Gl) (hg:GlLex gl):SimP Tryz.prog gl 64 fun args=>(qIn args).run:=by
 refine SimP.of_flat (G:=qCJ) (L:=qIw) qav (qCN gl hg ) qah  Tryz.func64 rfl (by rfl) (by kernel_rfl) (qbg (L:=lps qIw) [(3,qyE)] (by kernel_rfl) (List.forall_mem_cons.2 ⟨fun fr σ e fr' σ' h=>qEP gl hg  fr σ e fr' σ' h,(List.forall_mem_nil _)⟩)) ?_
 intro args x h
 unfold qIn at h
 split at h
 ·exact (congrArg Tr.run (qNa _ _)).trans (qai h fun h=>by cases h)
 ·cases h
noncomputable def qIf:GamT:=ofL [(89,.pure qGx)]
theorem qKn (gl:Gl) (hg:GlLex gl):qaR Tryz.prog gl (gam qIf):=(qac (qCj gl hg) qag)
noncomputable def qLL:LpsT:=fun r fr σ=>.fail
noncomputable def qHF:Tr (PV × Store):=.ret (.fn 89 [.ptr 0 0],Store.mk [[.fn 55 []]] [] [105])
theorem qM3:(qlP tbT qIf qLL Tryz.f61 [.fn 55 []] ⟨[],[],[]⟩).flat=qHF:=by kernel_rfl
noncomputable def qL5:Option (PV × Store):=(qHF).run
noncomputable def qCq:Bool:=isW (qL5) (.fn 89 [.ptr 0 0],⟨[[.fn 55 []]],[],[105]⟩)
noncomputable def qF8:List PV→Store→Tr (PV × Store) | [.fn 55 []],⟨[],[],[]⟩=>.ite (qCq) (.ret (.fn 89 [.ptr 0 0],⟨[[.fn 55 []]],[],[105]⟩)) (.fail) | _,_=>.fail
theorem qI2 (gl:Gl) (hg:GlLex gl):SimS Tryz.prog gl 61 fun args σ=>(qF8 args σ).run:=by
 refine SimS.of_flat (G:=qIf) (L:=qLL) qav (qKn gl hg ) qah Tryz.func61 rfl (by rfl) (by kernel_rfl) (qae (by kernel_rfl)) ?_
 intro args σ x h
 unfold qF8 at h
 split at h
 ·exact (congrArg Tr.run (qM3)).trans (qai h fun h=>by cases h)
 ·cases h
noncomputable def qKZ:GamT:=ofL [(90,.pure qGf)]
theorem qJV (gl:Gl) (hg:GlLex gl):qaR Tryz.prog gl (gam qKZ):=(qac (qC9 gl hg) qag)
noncomputable def qMq:LpsT:=fun r fr σ=>.fail
noncomputable def qHY:Tr (PV × Store):=.ret (.fn 90 [.ptr 0 0],Store.mk [[.fn 57 []]] [] [107])
theorem qM9:(qlP tbT qKZ qMq Tryz.f63 [.fn 57 []] ⟨[],[],[]⟩).flat=qHY:=by kernel_rfl
noncomputable def qLi:Option (PV × Store):=(qHY).run
noncomputable def qDU:Bool:=isW (qLi) (.fn 90 [.ptr 0 0],⟨[[.fn 57 []]],[],[107]⟩)
noncomputable def qGH:List PV→Store→Tr (PV × Store) | [.fn 57 []],⟨[],[],[]⟩=>.ite (qDU) (.ret (.fn 90 [.ptr 0 0],⟨[[.fn 57 []]],[],[107]⟩)) (.fail) | _,_=>.fail
theorem qI7 (gl:Gl) (hg:GlLex gl):SimS Tryz.prog gl 63 fun args σ=>(qGH args σ).run:=by
 refine SimS.of_flat (G:=qKZ) (L:=qMq) qav (qJV gl hg ) qah Tryz.func63 rfl (by rfl) (by kernel_rfl) (qae (by kernel_rfl)) ?_
 intro args σ x h
 unfold qGH at h
 split at h
 ·exact (congrArg Tr.run (qM9)).trans (qai h fun h=>by cases h)
 ·cases h
noncomputable def qKY:GamT:=ofL [(91,.pure qG4)]
theorem qKI (gl:Gl) (hg:GlLex gl):qaR Tryz.prog gl (gam qKY):=(qac (qCd gl hg) qag)
noncomputable def qK9:LpsT:=fun r fr σ=>.fail
noncomputable def qHE:Tr (PV × Store):=.ret (.fn 91 [.ptr 0 0],Store.mk [[.fn 54 []]] [] [104])
theorem qM8:(qlP tbT qKY qK9 Tryz.f65 [.fn 54 []] ⟨[],[],[]⟩).flat=qHE:=by kernel_rfl
noncomputable def qMI:Option (PV × Store):=(qHE).run
noncomputable def qCe:Bool:=isW (qMI) (.fn 91 [.ptr 0 0],⟨[[.fn 54 []]],[],[104]⟩)
noncomputable def qFN:List PV→Store→Tr (PV × Store) | [.fn 54 []],⟨[],[],[]⟩=>.ite (qCe) (.ret (.fn 91 [.ptr 0 0],⟨[[.fn 54 []]],[],[104]⟩)) (.fail) | _,_=>.fail
theorem qKm (gl:Gl) (hg:GlLex gl):SimS Tryz.prog gl 65 fun args σ=>(qFN args σ).run:=by
 refine SimS.of_flat (G:=qKY) (L:=qK9) qav (qKI gl hg ) qah Tryz.func65 rfl (by rfl) (by kernel_rfl) (qae (by kernel_rfl)) ?_
 intro args σ x h
 unfold qFN at h
 split at h
 ·exact (congrArg Tr.run (qM8)).trans (qai h fun h=>by cases h)
 ·cases h
end Go.Pv
set_option maxHeartbeats 8000000
set_option maxRecDepth 200000
set_option linter.unusedSimpArgs false
set_option linter.unusedVariables false
namespace Go.Pv
open Go Go.Proofs Go.RowKit
def lnD (d:De):Txt:=deT d++[10]
def lnO (o:En):Txt:=enT o++[10]
def lnR (x:Ru):Txt:=ruT x++[10]
theorem qCx {d:De} (h:deS d):(lnD d).length≤1001:=by
 have:=qD2 h
 unfold lnD
 simp
 omega
theorem qEK {o:En} (h:enS o):(lnO o).length≤140001:=by
 have:=qBW h
 unfold lnO
 simp
 omega
theorem qCR {x:Ru} (h:ruS x):(lnR x).length≤140001:=by
 have:=qBL h
 unfold lnR
 simp
 omega
theorem qxD {d:De} (h:deS d):qEo d.1 d.2.1 (rOf cI d.2.2)=some (.tup [.str (lnD d),.bool (deOk d)]):=by
 have e1:=qGb h
 have e2:=qGV h
 have e3:=qGd h
 have l1:=qD2 h
 have o:∀ t:Txt,t.length≤140000→qa2 t [10]=true:=fun t ht=>qbH (by simp; omega)
 unfold qEo qDb lnD
 simp only [qaz,e1,e2,e3]
 rw [o _ (by omega)]
 rfl
theorem qHX {d:De} (h:deS d):qmu d.1 d.2.1 (rOf cI d.2.2)=true:=by simp only [qvY,qmu,qrr,qxD h]; simp
theorem qIb {d:De} (h:deS d):qrr d.1 d.2.1 (rOf cI d.2.2)=lnD d:=by simp only [qvY,qmu,qrr,qxD h]; simp
theorem qHs {d:De} (h:deS d):qvY d.1 d.2.1 (rOf cI d.2.2)=deOk d:=by simp only [qvY,qmu,qrr,qxD h]; simp
theorem qw2 {l:List De} (hs:∀ a ∈ l,deS a) (hn:l.length≤100000) {sep:Txt} (hsep:sep.length≤10):qEn (rOf cD l) sep=some (.tup [.str (jn deOk lnD sep l),.bool (l.all deOk)]):=by
 have hl:=qdY (l:=l) l.length (Nat.le_refl _) (V:=fun i b=>qjY [.str sep,.fn 89 [.ref [.fn 55 []]],.sl (rOf cS b) (.tok 0),.sl (rOf cD l) .non,.int .i64 (l.length:Nat),.int .i64 (i:Nat)] ⟨[],[(b.length,1,9)],[]⟩) deOk lnD (fun b=>some (.exit 0,[.str sep,.sl (rOf cS b) (.tok 0)],⟨[],[(b.length,1,9)],[]⟩)) (fun r=>∃ k:Nat,r=some (.ret,[.str [],.bool false],⟨[],[(k,1,9)],[]⟩)) ?_ ?_ ?_
 ·rw [List.take_length] at hl
  obtain ⟨h1,h2⟩:=hl
  have x0:xLen (rOf cD l)=(l.length:Nat):=by simp
  unfold qEn qB1 jn
  rw [x0]
  cases ha:l.all deOk with
  | true =>
   have h':qjX sep [] (rOf cD l) (l.length:Nat) 0 0=_:=h1 ha
   have o:qdZ (l.map lnD) sep=true:=by
    rw [qbF]
    have:=qeK (M:=1001) sep (l.map lnD) (fun x hx=>by
     obtain ⟨a,ha,rfl⟩:=List.mem_map.1 hx
     exact qCx (hs a ha))
    have h3:(l.map lnD).length * (1001+sep.length)≤100000 * (1001+10):=Nat.mul_le_mul (by simpa using hn) (by omega)
    exact ⟨by simp; omega,by omega⟩
   simp only [qlT,qcK,qn0,qn5,qox,qoR,qk2,qde,h']
   rw [qbF] at o
   simp [o.2]
   omega
  | false =>
   obtain ⟨k,hk⟩:=h2 ha
   have h':qjX sep [] (rOf cD l) (l.length:Nat) 0 0=_:=hk
   simp only [qlT,qcK,qn0,qn5,qox,qoR,qk2,qde,h']
   simp
 ·intro i b a hb hi hi2 ha ho
  have hm:deS a:=hs a (ha ▸ List.getElem_mem hi)
  have q1:iLt (i:Int) (l.length:Nat)=true:=by simp; omega
  have q3:qaw (i:Int)=true:=by simp
  have q4:qbM [PV.str [],.bool false,.sl [] .full] (rOf cD l) (nNat (i:Int))=true:=by simp; omega
  have w:=qbw (i:=i) (by omega)
  have e1:=qHX hm
  have e2:=qIb hm
  have e3:=qHs hm
  rw [ho] at e3
  have x0:xStr (rOf cD l) (nNat (i:Int)) 0=a.1:=by simp [hi,ha]
  have x1:qcm (rOf cD l) (nNat (i:Int)) 1=a.2.1:=by simp [hi,ha]
  have x2:xRow (rOf cD l) (nNat (i:Int)) 2=rOf cI a.2.2:=by simp [hi,ha]
  have o1:∀ c,qaP (rOf cS b) [c] 16=true:=fun c=>by simp; omega
  have o2:∀ t:Txt,qaO [[PV.str t]] 1=true:=fun t=>by simp [one]
  have o3:qaC (rOf cS b) 1=true:=qeU _
  have o4:nEq b.length (nXs (rOf cS b))=true:=by simp
  have o5:bNot true=false:=rfl
  show qjY [.str sep,.fn 89 [.ref [.fn 55 []]],.sl (rOf cS b) (.tok 0),.sl (rOf cD l) .non,.int .i64 (l.length:Nat),.int .i64 (i:Nat)] ⟨[],[(b.length,1,9)],[]⟩=qjY [.str sep,.fn 89 [.ref [.fn 55 []]],.sl (rOf cS (b++[lnD a])) (.tok 0),.sl (rOf cD l) .non,.int .i64 (l.length:Nat),.int .i64 ((i+1:Nat):Int)] ⟨[],[((b++[lnD a]).length,1,9)],[]⟩
  rw [qDf]
  simp only [qp4,q1,q3,q4,x0,x1,x2,qaz,e1,e2,e3,o1,o2,o3,o4,o5,w]
  simp
 ·intro i b a hb hi hi2 ha ho
  have hm:deS a:=hs a (ha ▸ List.getElem_mem hi)
  have q1:iLt (i:Int) (l.length:Nat)=true:=by simp; omega
  have q3:qaw (i:Int)=true:=by simp
  have q4:qbM [PV.str [],.bool false,.sl [] .full] (rOf cD l) (nNat (i:Int))=true:=by simp; omega
  have w:=qbw (i:=i) (by omega)
  have e1:=qHX hm
  have e2:=qIb hm
  have e3:=qHs hm
  rw [ho] at e3
  have x0:xStr (rOf cD l) (nNat (i:Int)) 0=a.1:=by simp [hi,ha]
  have x1:qcm (rOf cD l) (nNat (i:Int)) 1=a.2.1:=by simp [hi,ha]
  have x2:xRow (rOf cD l) (nNat (i:Int)) 2=rOf cI a.2.2:=by simp [hi,ha]
  have o5:bNot false=true:=rfl
  show ∃ k:Nat,qjY [.str sep,.fn 89 [.ref [.fn 55 []]],.sl (rOf cS b) (.tok 0),.sl (rOf cD l) .non,.int .i64 (l.length:Nat),.int .i64 (i:Nat)] ⟨[],[(b.length,1,9)],[]⟩=_
  refine ⟨b.length,?_⟩
  rw [qDf]
  simp only [qp4,q1,q3,q4,x0,x1,x2,qaz,e1,e2,e3,o5]
  simp
 ·intro b hb
  have q1:iLt (l.length:Nat) (l.length:Nat)=false:=by simp
  show qjY [.str sep,.fn 89 [.ref [.fn 55 []]],.sl (rOf cS b) (.tok 0),.sl (rOf cD l) .non,.int .i64 (l.length:Nat),.int .i64 (l.length:Nat)] ⟨[],[(b.length,1,9)],[]⟩=_
  rw [qDf]
  simp only [qp4,q1]
  simp
theorem qLx {l:List De} (hs:∀ a ∈ l,deS a) (hn:l.length≤100000) {sep:Txt} (hsep:sep.length≤10):qmq (rOf cD l) sep=true:=by simp only [qv8,qmq,qrv,qw2 hs hn hsep]; simp
theorem qMy {l:List De} (hs:∀ a ∈ l,deS a) (hn:l.length≤100000) {sep:Txt} (hsep:sep.length≤10):qrv (rOf cD l) sep=jn deOk lnD sep l:=by simp only [qv8,qmq,qrv,qw2 hs hn hsep]; simp
theorem qL7 {l:List De} (hs:∀ a ∈ l,deS a) (hn:l.length≤100000) {sep:Txt} (hsep:sep.length≤10):qv8 (rOf cD l) sep=l.all deOk:=by simp only [qv8,qmq,qrv,qw2 hs hn hsep]; simp
theorem qya {o:En} (h:enS o):qBG o.1 (rOf cP o.2.1) (rOf cAc o.2.2)=some (.tup [.str (lnO o),.bool (enOk o)]):=by
 have e1:=qH3 h
 have e2:=qHZ h
 have e3:=qHS h
 have l1:=qBW h
 have o:∀ t:Txt,t.length≤140000→qa2 t [10]=true:=fun t ht=>qbH (by simp; omega)
 unfold qBG qCA lnO
 simp only [qaz,e1,e2,e3]
 rw [o _ (by omega)]
 rfl
theorem qH8 {o:En} (h:enS o):qmF o.1 (rOf cP o.2.1) (rOf cAc o.2.2)=true:=by simp only [qwn,qmF,qro,qya h]; simp
theorem qH7 {o:En} (h:enS o):qro o.1 (rOf cP o.2.1) (rOf cAc o.2.2)=lnO o:=by simp only [qwn,qmF,qro,qya h]; simp
theorem qHx {o:En} (h:enS o):qwn o.1 (rOf cP o.2.1) (rOf cAc o.2.2)=enOk o:=by simp only [qwn,qmF,qro,qya h]; simp
theorem qww {l:List En} (hs:∀ a ∈ l,enS a) (hn:l.length≤100000) {sep:Txt} (hsep:sep.length≤10):qEH (rOf cE l) sep=some (.tup [.str (jn enOk lnO sep l),.bool (l.all enOk)]):=by
 have hl:=qdY (l:=l) l.length (Nat.le_refl _) (V:=fun i b=>qjW [.str sep,.fn 90 [.ref [.fn 57 []]],.sl (rOf cS b) (.tok 0),.sl (rOf cE l) .non,.int .i64 (l.length:Nat),.int .i64 (i:Nat)] ⟨[],[(b.length,1,9)],[]⟩) enOk lnO (fun b=>some (.exit 0,[.str sep,.sl (rOf cS b) (.tok 0)],⟨[],[(b.length,1,9)],[]⟩)) (fun r=>∃ k:Nat,r=some (.ret,[.str [],.bool false],⟨[],[(k,1,9)],[]⟩)) ?_ ?_ ?_
 ·rw [List.take_length] at hl
  obtain ⟨h1,h2⟩:=hl
  have x0:xLen (rOf cE l)=(l.length:Nat):=by simp
  unfold qEH qBO jn
  rw [x0]
  cases ha:l.all enOk with
  | true =>
   have h':qjQ sep [] (rOf cE l) (l.length:Nat) 0 0=_:=h1 ha
   have o:qdZ (l.map lnO) sep=true:=by
    rw [qbF]
    have:=qeK (M:=140001) sep (l.map lnO) (fun x hx=>by
     obtain ⟨a,ha,rfl⟩:=List.mem_map.1 hx
     exact qEK (hs a ha))
    have h3:(l.map lnO).length * (140001+sep.length)≤100000 * (140001+10):=Nat.mul_le_mul (by simpa using hn) (by omega)
    exact ⟨by simp; omega,by omega⟩
   simp only [ql3,qcD,qoA,qoK,qoh,qod,ql5,qcV,h']
   rw [qbF] at o
   simp [o.2]
   omega
  | false =>
   obtain ⟨k,hk⟩:=h2 ha
   have h':qjQ sep [] (rOf cE l) (l.length:Nat) 0 0=_:=hk
   simp only [ql3,qcD,qoA,qoK,qoh,qod,ql5,qcV,h']
   simp
 ·intro i b a hb hi hi2 ha ho
  have hm:enS a:=hs a (ha ▸ List.getElem_mem hi)
  have q1:iLt (i:Int) (l.length:Nat)=true:=by simp; omega
  have q3:qaw (i:Int)=true:=by simp
  have q4:qbM [PV.str [],.sl [] .full,.sl [] .full] (rOf cE l) (nNat (i:Int))=true:=by simp; omega
  have w:=qbw (i:=i) (by omega)
  have e1:=qH8 hm
  have e2:=qH7 hm
  have e3:=qHx hm
  rw [ho] at e3
  have x0:xStr (rOf cE l) (nNat (i:Int)) 0=a.1:=by simp [hi,ha]
  have x1:xRow (rOf cE l) (nNat (i:Int)) 1=rOf cP a.2.1:=by simp [hi,ha]
  have x2:xRow (rOf cE l) (nNat (i:Int)) 2=rOf cAc a.2.2:=by simp [hi,ha]
  have o1:∀ c,qaP (rOf cS b) [c] 16=true:=fun c=>by simp; omega
  have o2:∀ t:Txt,qaO [[PV.str t]] 1=true:=fun t=>by simp [one]
  have o3:qaC (rOf cS b) 1=true:=qeU _
  have o4:nEq b.length (nXs (rOf cS b))=true:=by simp
  have o5:bNot true=false:=rfl
  show qjW [.str sep,.fn 90 [.ref [.fn 57 []]],.sl (rOf cS b) (.tok 0),.sl (rOf cE l) .non,.int .i64 (l.length:Nat),.int .i64 (i:Nat)] ⟨[],[(b.length,1,9)],[]⟩=qjW [.str sep,.fn 90 [.ref [.fn 57 []]],.sl (rOf cS (b++[lnO a])) (.tok 0),.sl (rOf cE l) .non,.int .i64 (l.length:Nat),.int .i64 ((i+1:Nat):Int)] ⟨[],[((b++[lnO a]).length,1,9)],[]⟩
  rw [qD8]
  simp only [qre,q1,q3,q4,x0,x1,x2,qaz,e1,e2,e3,o1,o2,o3,o4,o5,w]
  simp
 ·intro i b a hb hi hi2 ha ho
  have hm:enS a:=hs a (ha ▸ List.getElem_mem hi)
  have q1:iLt (i:Int) (l.length:Nat)=true:=by simp; omega
  have q3:qaw (i:Int)=true:=by simp
  have q4:qbM [PV.str [],.sl [] .full,.sl [] .full] (rOf cE l) (nNat (i:Int))=true:=by simp; omega
  have w:=qbw (i:=i) (by omega)
  have e1:=qH8 hm
  have e2:=qH7 hm
  have e3:=qHx hm
  rw [ho] at e3
  have x0:xStr (rOf cE l) (nNat (i:Int)) 0=a.1:=by simp [hi,ha]
  have x1:xRow (rOf cE l) (nNat (i:Int)) 1=rOf cP a.2.1:=by simp [hi,ha]
  have x2:xRow (rOf cE l) (nNat (i:Int)) 2=rOf cAc a.2.2:=by simp [hi,ha]
  have o5:bNot false=true:=rfl
  show ∃ k:Nat,qjW [.str sep,.fn 90 [.ref [.fn 57 []]],.sl (rOf cS b) (.tok 0),.sl (rOf cE l) .non,.int .i64 (l.length:Nat),.int .i64 (i:Nat)] ⟨[],[(b.length,1,9)],[]⟩=_
  refine ⟨b.length,?_⟩
  rw [qD8]
  simp only [qre,q1,q3,q4,x0,x1,x2,qaz,e1,e2,e3,o5]
  simp
 ·intro b hb
  have q1:iLt (l.length:Nat) (l.length:Nat)=false:=by simp
  show qjW [.str sep,.fn 90 [.ref [.fn 57 []]],.sl (rOf cS b) (.tok 0),.sl (rOf cE l) .non,.int .i64 (l.length:Nat),.int .i64 (l.length:Nat)] ⟨[],[(b.length,1,9)],[]⟩=_
  rw [qD8]
  simp only [qre,q1]
  simp
theorem qLb {l:List En} (hs:∀ a ∈ l,enS a) (hn:l.length≤100000) {sep:Txt} (hsep:sep.length≤10):qmT (rOf cE l) sep=true:=by simp only [qxG,qmT,qrq,qww hs hn hsep]; simp
theorem qLJ {l:List En} (hs:∀ a ∈ l,enS a) (hn:l.length≤100000) {sep:Txt} (hsep:sep.length≤10):qrq (rOf cE l) sep=jn enOk lnO sep l:=by simp only [qxG,qmT,qrq,qww hs hn hsep]; simp
theorem qLl {l:List En} (hs:∀ a ∈ l,enS a) (hn:l.length≤100000) {sep:Txt} (hsep:sep.length≤10):qxG (rOf cE l) sep=l.all enOk:=by simp only [qxG,qmT,qrq,qww hs hn hsep]; simp
theorem qx1 {x:Ru} (h:ruS x):qBE x.1.1 (rOf cM x.1.2) (rOf cL x.2)=some (.tup [.str (lnR x),.bool (ruOk x)]):=by
 have e1:=qyr h
 have e2:=qyB h
 have e3:=qzl h
 have l1:=qBL h
 have o:∀ t:Txt,t.length≤140000→qa2 t [10]=true:=fun t ht=>qbH (by simp; omega)
 unfold qBE qET lnR
 simp only [qaz,e1,e2,e3]
 rw [o _ (by omega)]
 rfl
theorem qH5 {x:Ru} (h:ruS x):qmB x.1.1 (rOf cM x.1.2) (rOf cL x.2)=true:=by simp only [qxn,qmB,qrp,qx1 h]; simp
theorem qHK {x:Ru} (h:ruS x):qrp x.1.1 (rOf cM x.1.2) (rOf cL x.2)=lnR x:=by simp only [qxn,qmB,qrp,qx1 h]; simp
theorem qHL {x:Ru} (h:ruS x):qxn x.1.1 (rOf cM x.1.2) (rOf cL x.2)=ruOk x:=by simp only [qxn,qmB,qrp,qx1 h]; simp
theorem qx2 {l:List Ru} (hs:∀ a ∈ l,ruS a) (hn:l.length≤100000) {sep:Txt} (hsep:sep.length≤10):qB9 (rOf cRu l) sep=some (.tup [.str (jn ruOk lnR sep l),.bool (l.all ruOk)]):=by
 have hl:=qdY (l:=l) l.length (Nat.le_refl _) (V:=fun i b=>qjF [.str sep,.fn 91 [.ref [.fn 54 []]],.sl (rOf cS b) (.tok 0),.sl (rOf cRu l) .non,.int .i64 (l.length:Nat),.int .i64 (i:Nat)] ⟨[],[(b.length,1,9)],[]⟩) ruOk lnR (fun b=>some (.exit 0,[.str sep,.sl (rOf cS b) (.tok 0)],⟨[],[(b.length,1,9)],[]⟩)) (fun r=>∃ k:Nat,r=some (.ret,[.str [],.bool false],⟨[],[(k,1,9)],[]⟩)) ?_ ?_ ?_
 ·rw [List.take_length] at hl
  obtain ⟨h1,h2⟩:=hl
  have x0:xLen (rOf cRu l)=(l.length:Nat):=by simp
  unfold qB9 qEr jn
  rw [x0]
  cases ha:l.all ruOk with
  | true =>
   have h':qjL sep [] (rOf cRu l) (l.length:Nat) 0 0=_:=h1 ha
   have o:qdZ (l.map lnR) sep=true:=by
    rw [qbF]
    have:=qeK (M:=140001) sep (l.map lnR) (fun x hx=>by
     obtain ⟨a,ha,rfl⟩:=List.mem_map.1 hx
     exact qCR (hs a ha))
    have h3:(l.map lnR).length * (140001+sep.length)≤100000 * (140001+10):=Nat.mul_le_mul (by simpa using hn) (by omega)
    exact ⟨by simp; omega,by omega⟩
   simp only [qkQ,qcH,qnM,qoa,qoU,qow,qkZ,qdg,h']
   rw [qbF] at o
   simp [o.2]
   omega
  | false =>
   obtain ⟨k,hk⟩:=h2 ha
   have h':qjL sep [] (rOf cRu l) (l.length:Nat) 0 0=_:=hk
   simp only [qkQ,qcH,qnM,qoa,qoU,qow,qkZ,qdg,h']
   simp
 ·intro i b a hb hi hi2 ha ho
  have hm:ruS a:=hs a (ha ▸ List.getElem_mem hi)
  have q1:iLt (i:Int) (l.length:Nat)=true:=by simp; omega
  have q3:qaw (i:Int)=true:=by simp
  have q4:qbM [PV.str [],.sl [] .full,.sl [] .full] (rOf cRu l) (nNat (i:Int))=true:=by simp; omega
  have w:=qbw (i:=i) (by omega)
  have e1:=qH5 hm
  have e2:=qHK hm
  have e3:=qHL hm
  rw [ho] at e3
  have x0:xStr (rOf cRu l) (nNat (i:Int)) 0=a.1.1:=by simp [hi,ha]
  have x1:xRow (rOf cRu l) (nNat (i:Int)) 1=rOf cM a.1.2:=by simp [hi,ha]
  have x2:xRow (rOf cRu l) (nNat (i:Int)) 2=rOf cL a.2:=by simp [hi,ha]
  have o1:∀ c,qaP (rOf cS b) [c] 16=true:=fun c=>by simp; omega
  have o2:∀ t:Txt,qaO [[PV.str t]] 1=true:=fun t=>by simp [one]
  have o3:qaC (rOf cS b) 1=true:=qeU _
  have o4:nEq b.length (nXs (rOf cS b))=true:=by simp
  have o5:bNot true=false:=rfl
  show qjF [.str sep,.fn 91 [.ref [.fn 54 []]],.sl (rOf cS b) (.tok 0),.sl (rOf cRu l) .non,.int .i64 (l.length:Nat),.int .i64 (i:Nat)] ⟨[],[(b.length,1,9)],[]⟩=qjF [.str sep,.fn 91 [.ref [.fn 54 []]],.sl (rOf cS (b++[lnR a])) (.tok 0),.sl (rOf cRu l) .non,.int .i64 (l.length:Nat),.int .i64 ((i+1:Nat):Int)] ⟨[],[((b++[lnR a]).length,1,9)],[]⟩
  rw [qE3]
  simp only [qqh,q1,q3,q4,x0,x1,x2,qaz,e1,e2,e3,o1,o2,o3,o4,o5,w]
  simp
 ·intro i b a hb hi hi2 ha ho
  have hm:ruS a:=hs a (ha ▸ List.getElem_mem hi)
  have q1:iLt (i:Int) (l.length:Nat)=true:=by simp; omega
  have q3:qaw (i:Int)=true:=by simp
  have q4:qbM [PV.str [],.sl [] .full,.sl [] .full] (rOf cRu l) (nNat (i:Int))=true:=by simp; omega
  have w:=qbw (i:=i) (by omega)
  have e1:=qH5 hm
  have e2:=qHK hm
  have e3:=qHL hm
  rw [ho] at e3
  have x0:xStr (rOf cRu l) (nNat (i:Int)) 0=a.1.1:=by simp [hi,ha]
  have x1:xRow (rOf cRu l) (nNat (i:Int)) 1=rOf cM a.1.2:=by simp [hi,ha]
  have x2:xRow (rOf cRu l) (nNat (i:Int)) 2=rOf cL a.2:=by simp [hi,ha]
  have o5:bNot false=true:=rfl
  show ∃ k:Nat,qjF [.str sep,.fn 91 [.ref [.fn 54 []]],.sl (rOf cS b) (.tok 0),.sl (rOf cRu l) .non,.int .i64 (l.length:Nat),.int .i64 (i:Nat)] ⟨[],[(b.length,1,9)],[]⟩=_
  refine ⟨b.length,?_⟩
  rw [qE3]
  simp only [qqh,q1,q3,q4,x0,x1,x2,qaz,e1,e2,e3,o5]
  simp
 ·intro b hb
  have q1:iLt (l.length:Nat) (l.length:Nat)=false:=by simp
  show qjF [.str sep,.fn 91 [.ref [.fn 54 []]],.sl (rOf cS b) (.tok 0),.sl (rOf cRu l) .non,.int .i64 (l.length:Nat),.int .i64 (l.length:Nat)] ⟨[],[(b.length,1,9)],[]⟩=_
  rw [qE3]
  simp only [qqh,q1]
  simp
theorem qMx {l:List Ru} (hs:∀ a ∈ l,ruS a) (hn:l.length≤100000) {sep:Txt} (hsep:sep.length≤10):qna (rOf cRu l) sep=true:=by simp only [qwJ,qna,qtX,qx2 hs hn hsep]; simp
theorem qLY {l:List Ru} (hs:∀ a ∈ l,ruS a) (hn:l.length≤100000) {sep:Txt} (hsep:sep.length≤10):qtX (rOf cRu l) sep=jn ruOk lnR sep l:=by simp only [qwJ,qna,qtX,qx2 hs hn hsep]; simp
theorem qMF {l:List Ru} (hs:∀ a ∈ l,ruS a) (hn:l.length≤100000) {sep:Txt} (hsep:sep.length≤10):qwJ (rOf cRu l) sep=l.all ruOk:=by simp only [qwJ,qna,qtX,qx2 hs hn hsep]; simp
def F_L1:List PV→Tr PV
 | [.fn 55 []]=>.ret (.fn 89 [.ref [.fn 55 []]])
 | _=>.fail
theorem qLk (gl:Gl) (hg:GlLex gl):SimP Tryz.prog gl 61 fun args=>(F_L1 args).run:=by
 refine SimP.of_clos (qI2 gl hg) ?_
 intro args x h
 unfold F_L1 at h
 split at h
 ·cases h
  refine ⟨89,[.fn 55 []],105,?_,rfl⟩
  have hw:qL5=some (.fn 89 [.ptr 0 0],⟨[[.fn 55 []]],[],[105]⟩):=rfl
  show (qF8 _ _).run=_
  unfold qF8 qCq
  rw [hw]
  simp
 ·cases h
def F_L2:List PV→Tr PV
 | [.fn 57 []]=>.ret (.fn 90 [.ref [.fn 57 []]])
 | _=>.fail
theorem qLj (gl:Gl) (hg:GlLex gl):SimP Tryz.prog gl 63 fun args=>(F_L2 args).run:=by
 refine SimP.of_clos (qI7 gl hg) ?_
 intro args x h
 unfold F_L2 at h
 split at h
 ·cases h
  refine ⟨90,[.fn 57 []],107,?_,rfl⟩
  have hw:qLi=some (.fn 90 [.ptr 0 0],⟨[[.fn 57 []]],[],[107]⟩):=rfl
  show (qGH _ _).run=_
  unfold qGH qDU
  rw [hw]
  simp
 ·cases h
def F_L3:List PV→Tr PV
 | [.fn 54 []]=>.ret (.fn 91 [.ref [.fn 54 []]])
 | _=>.fail
theorem qLo (gl:Gl) (hg:GlLex gl):SimP Tryz.prog gl 65 fun args=>(F_L3 args).run:=by
 refine SimP.of_clos (qKm gl hg) ?_
 intro args x h
 unfold F_L3 at h
 split at h
 ·cases h
  refine ⟨91,[.fn 54 []],104,?_,rfl⟩
  have hw:qMI=some (.fn 91 [.ptr 0 0],⟨[[.fn 54 []]],[],[104]⟩):=rfl
  show (qFN _ _).run=_
  unfold qFN qCe
  rw [hw]
  simp
 ·cases h
end Go.Pv
set_option maxHeartbeats 4000000
set_option maxRecDepth 200000
set_option linter.unusedSimpArgs false
set_option linter.unusedVariables false
namespace Go.Pv
open Go Go.Proofs
noncomputable def qm5:GamT:=ofL [(54,.pure qqv),(55,.pure qtt),(57,.pure qFe),(60,.pure qIL),(61,.pure F_L1),(62,.pure qI5),(63,.pure F_L2),(64,.pure qIn),(65,.pure F_L3)]
theorem quU (gl:Gl) (hg:GlLex gl):qaR Tryz.prog gl (gam qm5):=(qac (qqt gl hg) (qac (quA gl hg) (qac (qyb gl hg) (qac (qJo gl hg) (qac (qLk gl hg) (qac (qJi gl hg) (qac (qLj gl hg) (qac (qJw gl hg) (qac (qLo gl hg) qag)))))))))
noncomputable def qso:LpsT:=fun r fr σ=>.fail
noncomputable def qka (p_:List (List PV)) (p_2:List (List PV)) (p_3:List (List PV)):Tr PV:=.ite (qmq (qaa p_) []) (.ite (qmT (qaa p_2) []) (.ite (qna (qaa p_3) []) (.ite (qa2 (qrv (qaa p_) []) (qrq (qaa p_2) [])) (.ite (qa2 (sApp (qrv (qaa p_) []) (qrq (qaa p_2) [])) (qtX (qaa p_3) [])) (.ite (bNot (qv8 (qaa p_) [])) (.ret (.tup [.str [],.int .i64 140])) (.ite (bNot (qxG (qaa p_2) [])) (.ret (.tup [.str [],.int .i64 140])) (.ite (bNot (qwJ (qaa p_3) [])) (.ret (.tup [.str [],.int .i64 140])) (.ite (iLt 65536 (sLen (sApp (sApp (qrv (qaa p_) []) (qrq (qaa p_2) [])) (qtX (qaa p_3) [])))) (.ret (.tup [.str [],.int .i64 2])) (.ret (.tup [.str (sApp (sApp (qrv (qaa p_) []) (qrq (qaa p_2) [])) (qtX (qaa p_3) [])),.int .i64 0])))))) .fail) .fail) .fail) .fail) .fail
theorem qAa (p_:List (List PV)) (p_2:List (List PV)) (p_3:List (List PV)):(tcall tbT qm5 qso Tryz.f36 [.agg [.sl p_ .non,.sl p_2 .non,.sl p_3 .non]]).flat=qka p_ p_2 p_3:=by kernel_rfl
noncomputable def qgP (p_:List (List PV)) (p_2:List (List PV)) (p_3:List (List PV)):Option PV:=(qka p_ p_2 p_3).run
noncomputable def qdp (p_:List (List PV)) (p_2:List (List PV)) (p_3:List (List PV)):List UInt8:=(gStr (gAt (gCs (gVal (qgP p_ p_2 p_3))) 0))
noncomputable def qeA (p_:List (List PV)) (p_2:List (List PV)) (p_3:List (List PV)):Int:=(gInt (gAt (gCs (gVal (qgP p_ p_2 p_3))) 1))
noncomputable def qdO (p_:List (List PV)) (p_2:List (List PV)) (p_3:List (List PV)):Bool:=isW (qgP p_ p_2 p_3) (.tup [.str (qdp p_ p_2 p_3),.int .i64 (qeA p_ p_2 p_3)])
noncomputable def qmx:List PV→Tr PV | [.agg [.sl p_ .non,.sl p_2 .non,.sl p_3 .non]]=>.ite (qdO p_ p_2 p_3) (.ret (.tup [.str (qdp p_ p_2 p_3),.int .i64 (qeA p_ p_2 p_3)])) (.fail) | _=>.fail
theorem qu9 (gl:Gl) (hg:GlLex gl):SimP Tryz.prog gl 36 fun args=>(qmx args).run:=by
 refine SimP.of_flat (G:=qm5) (L:=qso) qav (quU gl hg ) qah  Tryz.func36 rfl (by rfl) (by kernel_rfl) (qae (by kernel_rfl)) ?_
 intro args x h
 unfold qmx at h
 split at h
 ·exact (congrArg Tr.run (qAa _ _ _)).trans (qai h fun h=>by cases h)
 ·cases h
end Go.Pv
set_option maxHeartbeats 4000000
set_option maxRecDepth 200000
set_option linter.unusedSimpArgs false
set_option linter.unusedVariables false
namespace Go.Pv
open Go Go.Proofs
end Go.Pv
set_option maxHeartbeats 4000000
set_option maxRecDepth 200000
set_option linter.unusedSimpArgs false
set_option linter.unusedVariables false
namespace Go.Pv
open Go Go.Proofs
noncomputable def G_tx:GamT:=ofL []
theorem qMf (gl:Gl):qaR Tryz.prog gl (gam G_tx):=qag
noncomputable def L_tx:LpsT:=fun r fr σ=>.fail
noncomputable def qKv (s:List UInt8):Tr PV:=.ite (iLt 300 (sLen s)) (.ite (qaI true (qaw 300) 0 (nNat 300) (nLen s)) (.ret (.str (sSub s 0 (nNat 300)))) .fail) (.ret (.str s))
theorem tx_T (s:List UInt8):(tcall tbT G_tx L_tx Tryz.f11 [.str s]).flat=qKv s:=by kernel_rfl
noncomputable def tx_W (s:List UInt8):Option PV:=(qKv s).run
noncomputable def tx_s (s:List UInt8):List UInt8:=(gStr (gVal (tx_W s)))
noncomputable def qlr (s:List UInt8):Bool:=isW (tx_W s) (.str (tx_s s))
noncomputable def F_tx:List PV→Tr PV | [.str s]=>.ite (qlr s) (.ret (.str (tx_s s))) (.fail) | _=>.fail
theorem qyS (gl:Gl):SimP Tryz.prog gl 11 fun args=>(F_tx args).run:=by
 refine SimP.of_flat (G:=G_tx) (L:=L_tx) qav (qMf gl ) qah  Tryz.func11 rfl (by rfl) (by kernel_rfl) (qae (by kernel_rfl)) ?_
 intro args x h
 unfold F_tx at h
 split at h
 ·exact (congrArg Tr.run (tx_T _)).trans (qai h fun h=>by cases h)
 ·cases h
noncomputable def qwo:GamT:=ofL [(11,.pure F_tx)]
theorem qCW (gl:Gl):qaR Tryz.prog gl (gam qwo):=(qac (qyS gl) qag)
noncomputable def qDp:LpsT:=fun r fr σ=>.fail
noncomputable def qsJ (t:Int) (t2:List UInt8) (t3:Int) (t4:Int) (t5:List UInt8):Tr PV:=.ite (qlr t2) (.ite (qlr t5) (.ret (.agg [.int .i64 t,.str (tx_s t2),.int .i64 t3,.int .i64 t4,.str (tx_s t5)])) .fail) .fail
theorem qIv (t:Int) (t2:List UInt8) (t3:Int) (t4:Int) (t5:List UInt8):(tcall tbT qwo qDp Tryz.f9 [.agg [.int .i64 t,.str t2,.int .i64 t3,.int .i64 t4,.str t5]]).flat=qsJ t t2 t3 t4 t5:=by kernel_rfl
noncomputable def qh4 (t:Int) (t2:List UInt8) (t3:Int) (t4:Int) (t5:List UInt8):Option PV:=(qsJ t t2 t3 t4 t5).run
noncomputable def qdJ (t:Int) (t2:List UInt8) (t3:Int) (t4:Int) (t5:List UInt8):Int:=(gInt (gAt (gCs (gVal (qh4 t t2 t3 t4 t5))) 0))
noncomputable def qdF (t:Int) (t2:List UInt8) (t3:Int) (t4:Int) (t5:List UInt8):List UInt8:=(gStr (gAt (gCs (gVal (qh4 t t2 t3 t4 t5))) 1))
noncomputable def qcv (t:Int) (t2:List UInt8) (t3:Int) (t4:Int) (t5:List UInt8):Int:=(gInt (gAt (gCs (gVal (qh4 t t2 t3 t4 t5))) 2))
noncomputable def qct (t:Int) (t2:List UInt8) (t3:Int) (t4:Int) (t5:List UInt8):Int:=(gInt (gAt (gCs (gVal (qh4 t t2 t3 t4 t5))) 3))
noncomputable def qcx (t:Int) (t2:List UInt8) (t3:Int) (t4:Int) (t5:List UInt8):List UInt8:=(gStr (gAt (gCs (gVal (qh4 t t2 t3 t4 t5))) 4))
noncomputable def qcX (t:Int) (t2:List UInt8) (t3:Int) (t4:Int) (t5:List UInt8):Bool:=isW (qh4 t t2 t3 t4 t5) (.agg [.int .i64 (qdJ t t2 t3 t4 t5),.str (qdF t t2 t3 t4 t5),.int .i64 (qcv t t2 t3 t4 t5),.int .i64 (qct t t2 t3 t4 t5),.str (qcx t t2 t3 t4 t5)])
noncomputable def qs6:List PV→Tr PV | [.agg [.int .i64 t,.str t2,.int .i64 t3,.int .i64 t4,.str t5]]=>.ite (qcX t t2 t3 t4 t5) (.ret (.agg [.int .i64 (qdJ t t2 t3 t4 t5),.str (qdF t t2 t3 t4 t5),.int .i64 (qcv t t2 t3 t4 t5),.int .i64 (qct t t2 t3 t4 t5),.str (qcx t t2 t3 t4 t5)])) (.fail) | _=>.fail
theorem qvP (gl:Gl):SimP Tryz.prog gl 9 fun args=>(qs6 args).run:=by
 refine SimP.of_flat (G:=qwo) (L:=qDp) qav (qCW gl ) qah  Tryz.func9 rfl (by rfl) (by kernel_rfl) (qae (by kernel_rfl)) ?_
 intro args x h
 unfold qs6 at h
 split at h
 ·exact (congrArg Tr.run (qIv _ _ _ _ _)).trans (qai h fun h=>by cases h)
 ·cases h
noncomputable def qpH:GamT:=ofL [(9,.pure qs6),(11,.pure F_tx),(qe3,.hint [(8,1,5,27)])]
theorem qu1 (gl:Gl):qaR Tryz.prog gl (gam qpH):=(qac (qvP gl) (qac (qyS gl) (qbS (K:=.hint [(8,1,5,27)]) trivial qag)))
noncomputable def qoz:Code:=qeP Tryz.f42 3
def qnU:LI:=⟨32,[1,2,3,4],fun e=>match e with | .exit 0=>[2,3] | _=>[],true⟩
noncomputable def qq5:LpsT:=fun r fr σ=>.fail
noncomputable def qeH (vs:List PV) (σ:Store):Option (PExit × List PV × Store):=lval (lstep tbT qpH qq5 qoz qnU) vs σ
noncomputable def qiz (i:Int) (s:List UInt8) (r:List (List PV)) (s2:List UInt8) (r2:List (List PV)) (s3:List UInt8) (r3:List (List PV)) (k:Nat):Tr LR:=.ite (iLt i (xLen r)) (.ite (iLt i 12) (.ite (qaw i) (.ite (qbM [.int .i64 0,.str [],.int .i64 0,.int .i64 0,.str []] r (nNat i)) (.ite (qcX (xInt r (nNat i) 0) (xStr r (nNat i) 1) (xInt r (nNat i) 2) (xInt r (nNat i) 3) (xStr r (nNat i) 4)) (.ite (qaP r3 [[.int .i64 (qdJ (xInt r (nNat i) 0) (xStr r (nNat i) 1) (xInt r (nNat i) 2) (xInt r (nNat i) 3) (xStr r (nNat i) 4)),.str (qdF (xInt r (nNat i) 0) (xStr r (nNat i) 1) (xInt r (nNat i) 2) (xInt r (nNat i) 3) (xStr r (nNat i) 4)),.int .i64 (qcv (xInt r (nNat i) 0) (xStr r (nNat i) 1) (xInt r (nNat i) 2) (xInt r (nNat i) 3) (xStr r (nNat i) 4)),.int .i64 (qct (xInt r (nNat i) 0) (xStr r (nNat i) 1) (xInt r (nNat i) 2) (xInt r (nNat i) 3) (xStr r (nNat i) 4)),.str (qcx (xInt r (nNat i) 0) (xStr r (nNat i) 1) (xInt r (nNat i) 2) (xInt r (nNat i) 3) (xStr r (nNat i) 4))]] 56) (.ite (qaO [[.int .i64 (qdJ (xInt r (nNat i) 0) (xStr r (nNat i) 1) (xInt r (nNat i) 2) (xInt r (nNat i) 3) (xStr r (nNat i) 4)),.str (qdF (xInt r (nNat i) 0) (xStr r (nNat i) 1) (xInt r (nNat i) 2) (xInt r (nNat i) 3) (xStr r (nNat i) 4)),.int .i64 (qcv (xInt r (nNat i) 0) (xStr r (nNat i) 1) (xInt r (nNat i) 2) (xInt r (nNat i) 3) (xStr r (nNat i) 4)),.int .i64 (qct (xInt r (nNat i) 0) (xStr r (nNat i) 1) (xInt r (nNat i) 2) (xInt r (nNat i) 3) (xStr r (nNat i) 4)),.str (qcx (xInt r (nNat i) 0) (xStr r (nNat i) 1) (xInt r (nNat i) 2) (xInt r (nNat i) 3) (xStr r (nNat i) 4))]] 5) (.ite (qaC r3 5) (.ite (nEq k (nXs r3)) (.ret (.next [.ptr 0 0,.ptr 1 0,.ptr 2 0,.int .i64 (iAdd .i64 i 1)] (Store.mk [[.str s,.sl r .non],[.str s2,.sl r2 .full],[.str s3,.sl (xApp r3 [[.int .i64 (qdJ (xInt r (nNat i) 0) (xStr r (nNat i) 1) (xInt r (nNat i) 2) (xInt r (nNat i) 3) (xStr r (nNat i) 4)),
 .str (qdF (xInt r (nNat i) 0) (xStr r (nNat i) 1) (xInt r (nNat i) 2) (xInt r (nNat i) 3) (xStr r (nNat i) 4)),.int .i64 (qcv (xInt r (nNat i) 0) (xStr r (nNat i) 1) (xInt r (nNat i) 2) (xInt r (nNat i) 3) (xStr r (nNat i) 4)),.int .i64 (qct (xInt r (nNat i) 0) (xStr r (nNat i) 1) (xInt r (nNat i) 2) (xInt r (nNat i) 3) (xStr r (nNat i) 4)),.str (qcx (xInt r (nNat i) 0) (xStr r (nNat i) 1) (xInt r (nNat i) 2) (xInt r (nNat i) 3) (xStr r (nNat i) 4))]]) (.tok 0)]] [(nXs (xApp r3 [[.int .i64 (qdJ (xInt r (nNat i) 0) (xStr r (nNat i) 1) (xInt r (nNat i) 2) (xInt r (nNat i) 3) (xStr r (nNat i) 4)),.str (qdF (xInt r (nNat i) 0) (xStr r (nNat i) 1) (xInt r (nNat i) 2) (xInt r (nNat i) 3) (xStr r (nNat i) 4)),.int .i64 (qcv (xInt r (nNat i) 0) (xStr r (nNat i) 1) (xInt r (nNat i) 2) (xInt r (nNat i) 3) (xStr r (nNat i) 4)),.int .i64 (qct (xInt r (nNat i) 0) (xStr r (nNat i) 1) (xInt r (nNat i) 2) (xInt r (nNat i) 3) (xStr r (nNat i) 4)),.str (qcx (xInt r (nNat i) 0) (xStr r (nNat i) 1) (xInt r (nNat i) 2) (xInt r (nNat i) 3) (xStr r (nNat i) 4))]]),5,27)] [31,31,31]))) .fail) .fail) .fail) .fail) .fail) .fail) .fail) (.ret (.out (.exit 0) [.ptr 1 0,.ptr 2 0] (Store.mk [[.str s,.sl r .non],[.str s2,.sl r2 .full],[.str s3,.sl r3 (.tok 0)]] [(k,5,27)] [31,31,31])))) (.ret (.out (.exit 0) [.ptr 1 0,.ptr 2 0] (Store.mk [[.str s,.sl r .non],[.str s2,.sl r2 .full],[.str s3,.sl r3 (.tok 0)]] [(k,5,27)] [31,31,31])))
theorem qG7 (i:Int) (s:List UInt8) (r:List (List PV)) (s2:List UInt8) (r2:List (List PV)) (s3:List UInt8) (r3:List (List PV)) (k:Nat):lstep tbT qpH qq5 qoz qnU [.ptr 0 0,.ptr 1 0,.ptr 2 0,.int .i64 i] ⟨[[.str s,.sl r .non],[.str s2,.sl r2 .full],[.str s3,.sl r3 (.tok 0)]],[(k,5,27)],[31,31,31]⟩=qiz i s r s2 r2 s3 r3 k:=by kernel_rfl
theorem qzz (i:Int) (s:List UInt8) (r:List (List PV)) (s2:List UInt8) (r2:List (List PV)) (s3:List UInt8) (r3:List (List PV)) (k:Nat):qeH [.ptr 0 0,.ptr 1 0,.ptr 2 0,.int .i64 i] ⟨[[.str s,.sl r .non],[.str s2,.sl r2 .full],[.str s3,.sl r3 (.tok 0)]],[(k,5,27)],[31,31,31]⟩=lnext qeH (qiz i s r s2 r2 s3 r3 k).run:=by unfold qeH; rw [qbK,qG7]
noncomputable def qe9 (i:Int) (s:List UInt8) (r:List (List PV)) (s2:List UInt8) (r2:List (List PV)) (s3:List UInt8) (r3:List (List PV)) (k:Nat):Option (PExit × List PV × Store):=qeH [.ptr 0 0,.ptr 1 0,.ptr 2 0,.int .i64 i] ⟨[[.str s,.sl r .non],[.str s2,.sl r2 .full],[.str s3,.sl r3 (.tok 0)]],[(k,5,27)],[31,31,31]⟩
noncomputable def qtE (i:Int) (s:List UInt8) (r:List (List PV)) (s2:List UInt8) (r2:List (List PV)) (s3:List UInt8) (r3:List (List PV)) (k:Nat):List UInt8:=(gStr (gAt (gObj (qe9 i s r s2 r2 s3 r3 k) 0) 0))
noncomputable def qtK (i:Int) (s:List UInt8) (r:List (List PV)) (s2:List UInt8) (r2:List (List PV)) (s3:List UInt8) (r3:List (List PV)) (k:Nat):List (List PV):=(gRow (gAt (gObj (qe9 i s r s2 r2 s3 r3 k) 0) 1))
noncomputable def qqg (i:Int) (s:List UInt8) (r:List (List PV)) (s2:List UInt8) (r2:List (List PV)) (s3:List UInt8) (r3:List (List PV)) (k:Nat):List UInt8:=(gStr (gAt (gObj (qe9 i s r s2 r2 s3 r3 k) 1) 0))
noncomputable def qo9 (i:Int) (s:List UInt8) (r:List (List PV)) (s2:List UInt8) (r2:List (List PV)) (s3:List UInt8) (r3:List (List PV)) (k:Nat):List (List PV):=(gRow (gAt (gObj (qe9 i s r s2 r2 s3 r3 k) 1) 1))
noncomputable def qk0 (i:Int) (s:List UInt8) (r:List (List PV)) (s2:List UInt8) (r2:List (List PV)) (s3:List UInt8) (r3:List (List PV)) (k:Nat):List UInt8:=(gStr (gAt (gObj (qe9 i s r s2 r2 s3 r3 k) 2) 0))
noncomputable def qme (i:Int) (s:List UInt8) (r:List (List PV)) (s2:List UInt8) (r2:List (List PV)) (s3:List UInt8) (r3:List (List PV)) (k:Nat):List (List PV):=(gRow (gAt (gObj (qe9 i s r s2 r2 s3 r3 k) 2) 1))
noncomputable def qtJ (i:Int) (s:List UInt8) (r:List (List PV)) (s2:List UInt8) (r2:List (List PV)) (s3:List UInt8) (r3:List (List PV)) (k:Nat):Nat:=(gTok (qe9 i s r s2 r2 s3 r3 k) 0)
noncomputable def qmZ (i:Int) (s:List UInt8) (r:List (List PV)) (s2:List UInt8) (r2:List (List PV)) (s3:List UInt8) (r3:List (List PV)) (k:Nat):Bool:=isW (qe9 i s r s2 r2 s3 r3 k) ((.exit 0),[.ptr 1 0,.ptr 2 0],⟨[[.str (qtE i s r s2 r2 s3 r3 k),.sl (qtK i s r s2 r2 s3 r3 k) .non],[.str (qqg i s r s2 r2 s3 r3 k),.sl (qo9 i s r s2 r2 s3 r3 k) .full],[.str (qk0 i s r s2 r2 s3 r3 k),.sl (qme i s r s2 r2 s3 r3 k) (.tok 0)]],[((qtJ i s r s2 r2 s3 r3 k),5,27)],[31,31,31]⟩)
noncomputable def qhf:List PV→Store→Tr (PExit × List PV × Store) | [.ptr 0 0,.ptr 1 0,.ptr 2 0,.int .i64 i],⟨[[.str s,.sl r .non],[.str s2,.sl r2 .full],[.str s3,.sl r3 (.tok 0)]],[(k,5,27)],[31,31,31]⟩=>.ite (qmZ i s r s2 r2 s3 r3 k) (.ret ((.exit 0),[.ptr 1 0,.ptr 2 0],⟨[[.str (qtE i s r s2 r2 s3 r3 k),.sl (qtK i s r s2 r2 s3 r3 k) .non],[.str (qqg i s r s2 r2 s3 r3 k),.sl (qo9 i s r s2 r2 s3 r3 k) .full],[.str (qk0 i s r s2 r2 s3 r3 k),.sl (qme i s r s2 r2 s3 r3 k) (.tok 0)]],[((qtJ i s r s2 r2 s3 r3 k),5,27)],[31,31,31]⟩)) (.fail) | _,_=>.fail
theorem qBP:∀ vs σ r,(qhf vs σ).run=some r→qeH vs σ=some r:=by
 intro vs σ r h
 unfold qhf at h
 split at h
 ·exact qai h fun h=>by cases h
 ·cases h
theorem qxL (gl:Gl):∀ fr σ e fr' σ',(orc qnU qhf fr σ).run=some (e,fr',σ')→LDoes Tryz.prog gl qoz fr σ e fr' σ':=qcs qav (qu1 gl ) qah (L:=qq5) (qae (by kernel_rfl)) (by kernel_rfl) qBP
noncomputable def qwD:LpsT:=fun r fr σ=>bif Nat.beq r 3 then orc qnU qhf fr σ else .fail
noncomputable def qtT (a:List UInt8) (a2:List (List PV)):Tr PV:=.ite (qlr a) (.ite (qmZ 0 a a2 [] [] (tx_s a) [] 0) (.ret (.agg [.str (qk0 0 a a2 [] [] (tx_s a) [] 0),.sl (qb5 (qme 0 a a2 [] [] (tx_s a) [] 0)) .non])) .fail) .fail
theorem qKs (a:List UInt8) (a2:List (List PV)):(tcall tbT qpH qwD Tryz.f42 [.agg [.str a,.sl a2 .non]]).flat=qtT a a2:=by kernel_rfl
noncomputable def qpx (a:List UInt8) (a2:List (List PV)):Option PV:=(qtT a a2).run
noncomputable def qdM (a:List UInt8) (a2:List (List PV)):List UInt8:=(gStr (gAt (gCs (gVal (qpx a a2))) 0))
noncomputable def qdC (a:List UInt8) (a2:List (List PV)):List (List PV):=(gRow (gAt (gCs (gVal (qpx a a2))) 1))
noncomputable def qeT (a:List UInt8) (a2:List (List PV)):Bool:=isW (qpx a a2) (.agg [.str (qdM a a2),.sl (qdC a a2) .non])
noncomputable def qqK:List PV→Tr PV | [.agg [.str a,.sl a2 .non]]=>.ite (qeT a a2) (.ret (.agg [.str (qdM a a2),.sl (qdC a a2) .non])) (.fail) | _=>.fail
theorem qqW (gl:Gl):SimP Tryz.prog gl 42 fun args=>(qqK args).run:=by
 refine SimP.of_flat (G:=qpH) (L:=qwD) qav (qu1 gl ) qah  Tryz.func42 rfl (by rfl) (by kernel_rfl) (qbg (L:=lps qwD) [(3,qoz)] (by kernel_rfl) (List.forall_mem_cons.2 ⟨fun fr σ e fr' σ' h=>qxL gl  fr σ e fr' σ' h,(List.forall_mem_nil _)⟩)) ?_
 intro args x h
 unfold qqK at h
 split at h
 ·exact (congrArg Tr.run (qKs _ _)).trans (qai h fun h=>by cases h)
 ·cases h
noncomputable def qm7:GamT:=ofL [(9,.pure qs6),(42,.pure qqK)]
theorem qu0 (gl:Gl):qaR Tryz.prog gl (gam qm7):=(qac (qvP gl) (qac (qqW gl) qag))
noncomputable def qrI:LpsT:=fun r fr σ=>.fail
noncomputable def qkM (l:Int) (l2:List UInt8) (l3:List (List PV)) (l4:Int) (l5:Int) (l6:List UInt8) (l7:Int) (l8:Int) (l9:List UInt8) (l10:Int) (l11:List UInt8) (l12:Int) (l13:Int) (l14:List UInt8):Tr PV:=.ite (qeT l2 (qaa l3)) (.ite (qcX l5 l6 l7 l8 l9) (.ite (qcX l10 l11 l12 l13 l14) (.ret (.agg [.int .i64 l,.str (qdM l2 (qaa l3)),.sl (qb5 (qdC l2 (qaa l3))) .non,.int .i64 l4,.int .i64 (qdJ l5 l6 l7 l8 l9),.str (qdF l5 l6 l7 l8 l9),.int .i64 (qcv l5 l6 l7 l8 l9),.int .i64 (qct l5 l6 l7 l8 l9),.str (qcx l5 l6 l7 l8 l9),.int .i64 (qdJ l10 l11 l12 l13 l14),.str (qdF l10 l11 l12 l13 l14),.int .i64 (qcv l10 l11 l12 l13 l14),.int .i64 (qct l10 l11 l12 l13 l14),.str (qcx l10 l11 l12 l13 l14)])) .fail) .fail) .fail
theorem qAD (l:Int) (l2:List UInt8) (l3:List (List PV)) (l4:Int) (l5:Int) (l6:List UInt8) (l7:Int) (l8:Int) (l9:List UInt8) (l10:Int) (l11:List UInt8) (l12:Int) (l13:Int) (l14:List UInt8):(tcall tbT qm7 qrI Tryz.f10 [.agg [.int .i64 l,.str l2,.sl l3 .non,.int .i64 l4,.int .i64 l5,.str l6,.int .i64 l7,.int .i64 l8,.str l9,.int .i64 l10,.str l11,.int .i64 l12,.int .i64 l13,.str l14]]).flat=qkM l l2 l3 l4 l5 l6 l7 l8 l9 l10 l11 l12 l13 l14:=by kernel_rfl
noncomputable def qbI (l:Int) (l2:List UInt8) (l3:List (List PV)) (l4:Int) (l5:Int) (l6:List UInt8) (l7:Int) (l8:Int) (l9:List UInt8) (l10:Int) (l11:List UInt8) (l12:Int) (l13:Int) (l14:List UInt8):Option PV:=(qkM l l2 l3 l4 l5 l6 l7 l8 l9 l10 l11 l12 l13 l14).run
noncomputable def qbj (l:Int) (l2:List UInt8) (l3:List (List PV)) (l4:Int) (l5:Int) (l6:List UInt8) (l7:Int) (l8:Int) (l9:List UInt8) (l10:Int) (l11:List UInt8) (l12:Int) (l13:Int) (l14:List UInt8):Int:=(gInt (gAt (gCs (gVal (qbI l l2 l3 l4 l5 l6 l7 l8 l9 l10 l11 l12 l13 l14))) 0))
noncomputable def qbl (l:Int) (l2:List UInt8) (l3:List (List PV)) (l4:Int) (l5:Int) (l6:List UInt8) (l7:Int) (l8:Int) (l9:List UInt8) (l10:Int) (l11:List UInt8) (l12:Int) (l13:Int) (l14:List UInt8):List UInt8:=(gStr (gAt (gCs (gVal (qbI l l2 l3 l4 l5 l6 l7 l8 l9 l10 l11 l12 l13 l14))) 1))
noncomputable def qbk (l:Int) (l2:List UInt8) (l3:List (List PV)) (l4:Int) (l5:Int) (l6:List UInt8) (l7:Int) (l8:Int) (l9:List UInt8) (l10:Int) (l11:List UInt8) (l12:Int) (l13:Int) (l14:List UInt8):List (List PV):=(gRow (gAt (gCs (gVal (qbI l l2 l3 l4 l5 l6 l7 l8 l9 l10 l11 l12 l13 l14))) 2))
noncomputable def qa0 (l:Int) (l2:List UInt8) (l3:List (List PV)) (l4:Int) (l5:Int) (l6:List UInt8) (l7:Int) (l8:Int) (l9:List UInt8) (l10:Int) (l11:List UInt8) (l12:Int) (l13:Int) (l14:List UInt8):Int:=(gInt (gAt (gCs (gVal (qbI l l2 l3 l4 l5 l6 l7 l8 l9 l10 l11 l12 l13 l14))) 3))
noncomputable def qa1 (l:Int) (l2:List UInt8) (l3:List (List PV)) (l4:Int) (l5:Int) (l6:List UInt8) (l7:Int) (l8:Int) (l9:List UInt8) (l10:Int) (l11:List UInt8) (l12:Int) (l13:Int) (l14:List UInt8):Int:=(gInt (gAt (gCs (gVal (qbI l l2 l3 l4 l5 l6 l7 l8 l9 l10 l11 l12 l13 l14))) 4))
noncomputable def qaX (l:Int) (l2:List UInt8) (l3:List (List PV)) (l4:Int) (l5:Int) (l6:List UInt8) (l7:Int) (l8:Int) (l9:List UInt8) (l10:Int) (l11:List UInt8) (l12:Int) (l13:Int) (l14:List UInt8):List UInt8:=(gStr (gAt (gCs (gVal (qbI l l2 l3 l4 l5 l6 l7 l8 l9 l10 l11 l12 l13 l14))) 5))
noncomputable def qa5 (l:Int) (l2:List UInt8) (l3:List (List PV)) (l4:Int) (l5:Int) (l6:List UInt8) (l7:Int) (l8:Int) (l9:List UInt8) (l10:Int) (l11:List UInt8) (l12:Int) (l13:Int) (l14:List UInt8):Int:=(gInt (gAt (gCs (gVal (qbI l l2 l3 l4 l5 l6 l7 l8 l9 l10 l11 l12 l13 l14))) 6))
noncomputable def qa4 (l:Int) (l2:List UInt8) (l3:List (List PV)) (l4:Int) (l5:Int) (l6:List UInt8) (l7:Int) (l8:Int) (l9:List UInt8) (l10:Int) (l11:List UInt8) (l12:Int) (l13:Int) (l14:List UInt8):Int:=(gInt (gAt (gCs (gVal (qbI l l2 l3 l4 l5 l6 l7 l8 l9 l10 l11 l12 l13 l14))) 7))
noncomputable def qaU (l:Int) (l2:List UInt8) (l3:List (List PV)) (l4:Int) (l5:Int) (l6:List UInt8) (l7:Int) (l8:Int) (l9:List UInt8) (l10:Int) (l11:List UInt8) (l12:Int) (l13:Int) (l14:List UInt8):List UInt8:=(gStr (gAt (gCs (gVal (qbI l l2 l3 l4 l5 l6 l7 l8 l9 l10 l11 l12 l13 l14))) 8))
noncomputable def qa3 (l:Int) (l2:List UInt8) (l3:List (List PV)) (l4:Int) (l5:Int) (l6:List UInt8) (l7:Int) (l8:Int) (l9:List UInt8) (l10:Int) (l11:List UInt8) (l12:Int) (l13:Int) (l14:List UInt8):Int:=(gInt (gAt (gCs (gVal (qbI l l2 l3 l4 l5 l6 l7 l8 l9 l10 l11 l12 l13 l14))) 9))
noncomputable def qaW (l:Int) (l2:List UInt8) (l3:List (List PV)) (l4:Int) (l5:Int) (l6:List UInt8) (l7:Int) (l8:Int) (l9:List UInt8) (l10:Int) (l11:List UInt8) (l12:Int) (l13:Int) (l14:List UInt8):List UInt8:=(gStr (gAt (gCs (gVal (qbI l l2 l3 l4 l5 l6 l7 l8 l9 l10 l11 l12 l13 l14))) 10))
noncomputable def qaV (l:Int) (l2:List UInt8) (l3:List (List PV)) (l4:Int) (l5:Int) (l6:List UInt8) (l7:Int) (l8:Int) (l9:List UInt8) (l10:Int) (l11:List UInt8) (l12:Int) (l13:Int) (l14:List UInt8):Int:=(gInt (gAt (gCs (gVal (qbI l l2 l3 l4 l5 l6 l7 l8 l9 l10 l11 l12 l13 l14))) 11))
noncomputable def qaZ (l:Int) (l2:List UInt8) (l3:List (List PV)) (l4:Int) (l5:Int) (l6:List UInt8) (l7:Int) (l8:Int) (l9:List UInt8) (l10:Int) (l11:List UInt8) (l12:Int) (l13:Int) (l14:List UInt8):Int:=(gInt (gAt (gCs (gVal (qbI l l2 l3 l4 l5 l6 l7 l8 l9 l10 l11 l12 l13 l14))) 12))
noncomputable def qaY (l:Int) (l2:List UInt8) (l3:List (List PV)) (l4:Int) (l5:Int) (l6:List UInt8) (l7:Int) (l8:Int) (l9:List UInt8) (l10:Int) (l11:List UInt8) (l12:Int) (l13:Int) (l14:List UInt8):List UInt8:=(gStr (gAt (gCs (gVal (qbI l l2 l3 l4 l5 l6 l7 l8 l9 l10 l11 l12 l13 l14))) 13))
noncomputable def qbc (l:Int) (l2:List UInt8) (l3:List (List PV)) (l4:Int) (l5:Int) (l6:List UInt8) (l7:Int) (l8:Int) (l9:List UInt8) (l10:Int) (l11:List UInt8) (l12:Int) (l13:Int) (l14:List UInt8):Bool:=isW (qbI l l2 l3 l4 l5 l6 l7 l8 l9 l10 l11 l12 l13 l14) (.agg [.int .i64 (qbj l l2 l3 l4 l5 l6 l7 l8 l9 l10 l11 l12 l13 l14),.str (qbl l l2 l3 l4 l5 l6 l7 l8 l9 l10 l11 l12 l13 l14),.sl (qbk l l2 l3 l4 l5 l6 l7 l8 l9 l10 l11 l12 l13 l14) .non,.int .i64 (qa0 l l2 l3 l4 l5 l6 l7 l8 l9 l10 l11 l12 l13 l14),.int .i64 (qa1 l l2 l3 l4 l5 l6 l7 l8 l9 l10 l11 l12 l13 l14),.str (qaX l l2 l3 l4 l5 l6 l7 l8 l9 l10 l11 l12 l13 l14),.int .i64 (qa5 l l2 l3 l4 l5 l6 l7 l8 l9 l10 l11 l12 l13 l14),.int .i64 (qa4 l l2 l3 l4 l5 l6 l7 l8 l9 l10 l11 l12 l13 l14),.str (qaU l l2 l3 l4 l5 l6 l7 l8 l9 l10 l11 l12 l13 l14),.int .i64 (qa3 l l2 l3 l4 l5 l6 l7 l8 l9 l10 l11 l12 l13 l14),.str (qaW l l2 l3 l4 l5 l6 l7 l8 l9 l10 l11 l12 l13 l14),.int .i64 (qaV l l2 l3 l4 l5 l6 l7 l8 l9 l10 l11 l12 l13 l14),.int .i64 (qaZ l l2 l3 l4 l5 l6 l7 l8 l9 l10 l11 l12 l13 l14),.str (qaY l l2 l3 l4 l5 l6 l7 l8 l9 l10 l11 l12 l13 l14)])
noncomputable def qmA:List PV→Tr PV | [.agg [.int .i64 l,.str l2,.sl l3 .non,.int .i64 l4,.int .i64 l5,.str l6,.int .i64 l7,.int .i64 l8,.str l9,.int .i64 l10,.str l11,.int .i64 l12,.int .i64 l13,.str l14]]=>.ite (qbc l l2 l3 l4 l5 l6 l7 l8 l9 l10 l11 l12 l13 l14) (.ret (.agg [.int .i64 (qbj l l2 l3 l4 l5 l6 l7 l8 l9 l10 l11 l12 l13 l14),.str (qbl l l2 l3 l4 l5 l6 l7 l8 l9 l10 l11 l12 l13 l14),.sl (qbk l l2 l3 l4 l5 l6 l7 l8 l9 l10 l11 l12 l13 l14) .non,.int .i64 (qa0 l l2 l3 l4 l5 l6 l7 l8 l9 l10 l11 l12 l13 l14),.int .i64 (qa1 l l2 l3 l4 l5 l6 l7 l8 l9 l10 l11 l12 l13 l14),.str (qaX l l2 l3 l4 l5 l6 l7 l8 l9 l10 l11 l12 l13 l14),.int .i64 (qa5 l l2 l3 l4 l5 l6 l7 l8 l9 l10 l11 l12 l13 l14),.int .i64 (qa4 l l2 l3 l4 l5 l6 l7 l8 l9 l10 l11 l12 l13 l14),.str (qaU l l2 l3 l4 l5 l6 l7 l8 l9 l10 l11 l12 l13 l14),.int .i64 (qa3 l l2 l3 l4 l5 l6 l7 l8 l9 l10 l11 l12 l13 l14),.str (qaW l l2 l3 l4 l5 l6 l7 l8 l9 l10 l11 l12 l13 l14),.int .i64 (qaV l l2 l3 l4 l5 l6 l7 l8 l9 l10 l11 l12 l13 l14),.int .i64 (qaZ l l2 l3 l4 l5 l6 l7 l8 l9 l10 l11 l12 l13 l14),.str (qaY l l2 l3 l4 l5 l6 l7 l8 l9 l10 l11 l12 l13 l14)])) (.fail) | _=>.fail
theorem qvl (gl:Gl):SimP Tryz.prog gl 10 fun args=>(qmA args).run:=by
 refine SimP.of_flat (G:=qm7) (L:=qrI) qav (qu0 gl ) qah  Tryz.func10 rfl (by rfl) (by kernel_rfl) (qae (by kernel_rfl)) ?_
 intro args x h
 unfold qmA at h
 split at h
 ·exact (congrArg Tr.run (qAD _ _ _ _ _ _ _ _ _ _ _ _ _ _)).trans (qai h fun h=>by cases h)
 ·cases h
noncomputable def qpm:GamT:=ofL [(10,.pure qmA),(42,.pure qqK),(qe3,.hint [(8,2,14,34)])]
theorem quZ (gl:Gl):qaR Tryz.prog gl (gam qpm):=(qac (qvl gl) (qac (qqW gl) (qbS (K:=.hint [(8,2,14,34)]) trivial qag)))
noncomputable def qoj:Code:=qeP Tryz.f23 3
def qoc:LI:=⟨32,[1,2,3,4],fun e=>match e with | .exit 0=>[2,3] | _=>[],true⟩
noncomputable def qqi:LpsT:=fun r fr σ=>.fail
noncomputable def qeL (vs:List PV) (σ:Store):Option (PExit × List PV × Store):=lval (lstep tbT qpm qqi qoj qoc) vs σ
noncomputable def qik (i:Int) (s:List UInt8) (r:List (List PV)) (r2:List (List PV)) (s2:List UInt8) (r3:List (List PV)) (r4:List (List PV)) (s3:List UInt8) (r5:List (List PV)) (r6:List (List PV)) (k:Nat):Tr LR:=.ite (iLt i (xLen r2)) (.ite (iLt i 8) (.ite (qaw i) (.ite (qbM [.int .i64 0,.str [],.sl [] .full,.int .i64 0,.int .i64 0,.str [],.int .i64 0,.int .i64 0,.str [],.int .i64 0,.str [],.int .i64 0,.int .i64 0,.str []] r2 (nNat i)) (.ite (qbc (xInt r2 (nNat i) 0) (xStr r2 (nNat i) 1) (qaa (xRow r2 (nNat i) 2)) (xInt r2 (nNat i) 3) (xInt r2 (nNat i) 4) (xStr r2 (nNat i) 5) (xInt r2 (nNat i) 6) (xInt r2 (nNat i) 7) (xStr r2 (nNat i) 8) (xInt r2 (nNat i) 9) (xStr r2 (nNat i) 10) (xInt r2 (nNat i) 11) (xInt r2 (nNat i) 12) (xStr r2 (nNat i) 13)) (.ite (qaP r6 [[.int .i64 (qbj (xInt r2 (nNat i) 0) (xStr r2 (nNat i) 1) (qaa (xRow r2 (nNat i) 2)) (xInt r2 (nNat i) 3) (xInt r2 (nNat i) 4) (xStr r2 (nNat i) 5) (xInt r2 (nNat i) 6) (xInt r2 (nNat i) 7) (xStr r2 (nNat i) 8) (xInt r2 (nNat i) 9) (xStr r2 (nNat i) 10) (xInt r2 (nNat i) 11) (xInt r2 (nNat i) 12) (xStr r2 (nNat i) 13)),.str (qbl (xInt r2 (nNat i) 0) (xStr r2 (nNat i) 1) (qaa (xRow r2 (nNat i) 2)) (xInt r2 (nNat i) 3) (xInt r2 (nNat i) 4) (xStr r2 (nNat i) 5) (xInt r2 (nNat i) 6) (xInt r2 (nNat i) 7) (xStr r2 (nNat i) 8) (xInt r2 (nNat i) 9) (xStr r2 (nNat i) 10) (xInt r2 (nNat i) 11) (xInt r2 (nNat i) 12) (xStr r2 (nNat i) 13)),.sl (qbk (xInt r2 (nNat i) 0) (xStr r2 (nNat i) 1) (qaa (xRow r2 (nNat i) 2)) (xInt r2 (nNat i) 3) (xInt r2 (nNat i) 4) (xStr r2 (nNat i) 5) (xInt r2 (nNat i) 6) (xInt r2 (nNat i) 7) (xStr r2 (nNat i) 8) (xInt r2 (nNat i) 9) (xStr r2 (nNat i) 10) (xInt r2 (nNat i) 11) (xInt r2 (nNat i) 12) (xStr r2 (nNat i) 13)) .non,.int .i64 (qa0 (xInt r2 (nNat i) 0) (xStr r2 (nNat i) 1) (qaa (xRow r2 (nNat i) 2)) (xInt r2 (nNat i) 3) (xInt r2 (nNat i) 4) (xStr r2 (nNat i) 5)
 (xInt r2 (nNat i) 6) (xInt r2 (nNat i) 7) (xStr r2 (nNat i) 8) (xInt r2 (nNat i) 9) (xStr r2 (nNat i) 10) (xInt r2 (nNat i) 11) (xInt r2 (nNat i) 12) (xStr r2 (nNat i) 13)),.int .i64 (qa1 (xInt r2 (nNat i) 0) (xStr r2 (nNat i) 1) (qaa (xRow r2 (nNat i) 2)) (xInt r2 (nNat i) 3) (xInt r2 (nNat i) 4) (xStr r2 (nNat i) 5) (xInt r2 (nNat i) 6) (xInt r2 (nNat i) 7) (xStr r2 (nNat i) 8) (xInt r2 (nNat i) 9) (xStr r2 (nNat i) 10) (xInt r2 (nNat i) 11) (xInt r2 (nNat i) 12) (xStr r2 (nNat i) 13)),.str (qaX (xInt r2 (nNat i) 0) (xStr r2 (nNat i) 1) (qaa (xRow r2 (nNat i) 2)) (xInt r2 (nNat i) 3) (xInt r2 (nNat i) 4) (xStr r2 (nNat i) 5) (xInt r2 (nNat i) 6) (xInt r2 (nNat i) 7) (xStr r2 (nNat i) 8) (xInt r2 (nNat i) 9) (xStr r2 (nNat i) 10) (xInt r2 (nNat i) 11) (xInt r2 (nNat i) 12) (xStr r2 (nNat i) 13)),.int .i64 (qa5 (xInt r2 (nNat i) 0) (xStr r2 (nNat i) 1) (qaa (xRow r2 (nNat i) 2)) (xInt r2 (nNat i) 3) (xInt r2 (nNat i) 4) (xStr r2 (nNat i) 5) (xInt r2 (nNat i) 6) (xInt r2 (nNat i) 7) (xStr r2 (nNat i) 8) (xInt r2 (nNat i) 9) (xStr r2 (nNat i) 10) (xInt r2 (nNat i) 11) (xInt r2 (nNat i) 12) (xStr r2 (nNat i) 13)),.int .i64 (qa4 (xInt r2 (nNat i) 0) (xStr r2 (nNat i) 1) (qaa (xRow r2 (nNat i) 2)) (xInt r2 (nNat i) 3) (xInt r2 (nNat i) 4) (xStr r2 (nNat i) 5) (xInt r2 (nNat i) 6) (xInt r2 (nNat i) 7) (xStr r2 (nNat i) 8) (xInt r2 (nNat i) 9) (xStr r2 (nNat i) 10) (xInt r2 (nNat i) 11) (xInt r2 (nNat i) 12) (xStr r2 (nNat i) 13)),.str (qaU (xInt r2 (nNat i) 0) (xStr r2 (nNat i) 1) (qaa (xRow r2 (nNat i) 2)) (xInt r2 (nNat i) 3) (xInt r2 (nNat i) 4) (xStr r2 (nNat i) 5) (xInt r2 (nNat i) 6) (xInt r2 (nNat i) 7) (xStr r2 (nNat i) 8) (xInt r2 (nNat i) 9) (xStr r2 (nNat i) 10) (xInt r2 (nNat i) 11) (xInt r2 (nNat i) 12) (xStr r2 (nNat i) 13)),.int .i64 (qa3 (xInt r2 (nNat i) 0) (xStr r2 (nNat i) 1) (qaa (xRow r2 (nNat i) 2)) (xInt r2 (nNat i) 3) (xInt r2 (nNat i) 4) (xStr r2 (nNat i) 5)
 (xInt r2 (nNat i) 6) (xInt r2 (nNat i) 7) (xStr r2 (nNat i) 8) (xInt r2 (nNat i) 9) (xStr r2 (nNat i) 10) (xInt r2 (nNat i) 11) (xInt r2 (nNat i) 12) (xStr r2 (nNat i) 13)),.str (qaW (xInt r2 (nNat i) 0) (xStr r2 (nNat i) 1) (qaa (xRow r2 (nNat i) 2)) (xInt r2 (nNat i) 3) (xInt r2 (nNat i) 4) (xStr r2 (nNat i) 5) (xInt r2 (nNat i) 6) (xInt r2 (nNat i) 7) (xStr r2 (nNat i) 8) (xInt r2 (nNat i) 9) (xStr r2 (nNat i) 10) (xInt r2 (nNat i) 11) (xInt r2 (nNat i) 12) (xStr r2 (nNat i) 13)),.int .i64 (qaV (xInt r2 (nNat i) 0) (xStr r2 (nNat i) 1) (qaa (xRow r2 (nNat i) 2)) (xInt r2 (nNat i) 3) (xInt r2 (nNat i) 4) (xStr r2 (nNat i) 5) (xInt r2 (nNat i) 6) (xInt r2 (nNat i) 7) (xStr r2 (nNat i) 8) (xInt r2 (nNat i) 9) (xStr r2 (nNat i) 10) (xInt r2 (nNat i) 11) (xInt r2 (nNat i) 12) (xStr r2 (nNat i) 13)),.int .i64 (qaZ (xInt r2 (nNat i) 0) (xStr r2 (nNat i) 1) (qaa (xRow r2 (nNat i) 2)) (xInt r2 (nNat i) 3) (xInt r2 (nNat i) 4) (xStr r2 (nNat i) 5) (xInt r2 (nNat i) 6) (xInt r2 (nNat i) 7) (xStr r2 (nNat i) 8) (xInt r2 (nNat i) 9) (xStr r2 (nNat i) 10) (xInt r2 (nNat i) 11) (xInt r2 (nNat i) 12) (xStr r2 (nNat i) 13)),.str (qaY (xInt r2 (nNat i) 0) (xStr r2 (nNat i) 1) (qaa (xRow r2 (nNat i) 2)) (xInt r2 (nNat i) 3) (xInt r2 (nNat i) 4) (xStr r2 (nNat i) 5) (xInt r2 (nNat i) 6) (xInt r2 (nNat i) 7) (xStr r2 (nNat i) 8) (xInt r2 (nNat i) 9) (xStr r2 (nNat i) 10) (xInt r2 (nNat i) 11) (xInt r2 (nNat i) 12) (xStr r2 (nNat i) 13))]] 168) (.ite (qaO [[.int .i64 (qbj (xInt r2 (nNat i) 0) (xStr r2 (nNat i) 1) (qaa (xRow r2 (nNat i) 2)) (xInt r2 (nNat i) 3) (xInt r2 (nNat i) 4) (xStr r2 (nNat i) 5) (xInt r2 (nNat i) 6) (xInt r2 (nNat i) 7) (xStr r2 (nNat i) 8) (xInt r2 (nNat i) 9) (xStr r2 (nNat i) 10) (xInt r2 (nNat i) 11) (xInt r2 (nNat i) 12) (xStr r2 (nNat i) 13)),.str (qbl (xInt r2 (nNat i) 0) (xStr r2 (nNat i) 1) (qaa (xRow r2 (nNat i) 2)) (xInt r2 (nNat i) 3) (xInt r2 (nNat i) 4) (xStr r2 (nNat i) 5)
 (xInt r2 (nNat i) 6) (xInt r2 (nNat i) 7) (xStr r2 (nNat i) 8) (xInt r2 (nNat i) 9) (xStr r2 (nNat i) 10) (xInt r2 (nNat i) 11) (xInt r2 (nNat i) 12) (xStr r2 (nNat i) 13)),.sl (qbk (xInt r2 (nNat i) 0) (xStr r2 (nNat i) 1) (qaa (xRow r2 (nNat i) 2)) (xInt r2 (nNat i) 3) (xInt r2 (nNat i) 4) (xStr r2 (nNat i) 5) (xInt r2 (nNat i) 6) (xInt r2 (nNat i) 7) (xStr r2 (nNat i) 8) (xInt r2 (nNat i) 9) (xStr r2 (nNat i) 10) (xInt r2 (nNat i) 11) (xInt r2 (nNat i) 12) (xStr r2 (nNat i) 13)) .non,.int .i64 (qa0 (xInt r2 (nNat i) 0) (xStr r2 (nNat i) 1) (qaa (xRow r2 (nNat i) 2)) (xInt r2 (nNat i) 3) (xInt r2 (nNat i) 4) (xStr r2 (nNat i) 5) (xInt r2 (nNat i) 6) (xInt r2 (nNat i) 7) (xStr r2 (nNat i) 8) (xInt r2 (nNat i) 9) (xStr r2 (nNat i) 10) (xInt r2 (nNat i) 11) (xInt r2 (nNat i) 12) (xStr r2 (nNat i) 13)),.int .i64 (qa1 (xInt r2 (nNat i) 0) (xStr r2 (nNat i) 1) (qaa (xRow r2 (nNat i) 2)) (xInt r2 (nNat i) 3) (xInt r2 (nNat i) 4) (xStr r2 (nNat i) 5) (xInt r2 (nNat i) 6) (xInt r2 (nNat i) 7) (xStr r2 (nNat i) 8) (xInt r2 (nNat i) 9) (xStr r2 (nNat i) 10) (xInt r2 (nNat i) 11) (xInt r2 (nNat i) 12) (xStr r2 (nNat i) 13)),.str (qaX (xInt r2 (nNat i) 0) (xStr r2 (nNat i) 1) (qaa (xRow r2 (nNat i) 2)) (xInt r2 (nNat i) 3) (xInt r2 (nNat i) 4) (xStr r2 (nNat i) 5) (xInt r2 (nNat i) 6) (xInt r2 (nNat i) 7) (xStr r2 (nNat i) 8) (xInt r2 (nNat i) 9) (xStr r2 (nNat i) 10) (xInt r2 (nNat i) 11) (xInt r2 (nNat i) 12) (xStr r2 (nNat i) 13)),.int .i64 (qa5 (xInt r2 (nNat i) 0) (xStr r2 (nNat i) 1) (qaa (xRow r2 (nNat i) 2)) (xInt r2 (nNat i) 3) (xInt r2 (nNat i) 4) (xStr r2 (nNat i) 5) (xInt r2 (nNat i) 6) (xInt r2 (nNat i) 7) (xStr r2 (nNat i) 8) (xInt r2 (nNat i) 9) (xStr r2 (nNat i) 10) (xInt r2 (nNat i) 11) (xInt r2 (nNat i) 12) (xStr r2 (nNat i) 13)),.int .i64 (qa4 (xInt r2 (nNat i) 0) (xStr r2 (nNat i) 1) (qaa (xRow r2 (nNat i) 2)) (xInt r2 (nNat i) 3) (xInt r2 (nNat i) 4) (xStr r2 (nNat i) 5)
 (xInt r2 (nNat i) 6) (xInt r2 (nNat i) 7) (xStr r2 (nNat i) 8) (xInt r2 (nNat i) 9) (xStr r2 (nNat i) 10) (xInt r2 (nNat i) 11) (xInt r2 (nNat i) 12) (xStr r2 (nNat i) 13)),.str (qaU (xInt r2 (nNat i) 0) (xStr r2 (nNat i) 1) (qaa (xRow r2 (nNat i) 2)) (xInt r2 (nNat i) 3) (xInt r2 (nNat i) 4) (xStr r2 (nNat i) 5) (xInt r2 (nNat i) 6) (xInt r2 (nNat i) 7) (xStr r2 (nNat i) 8) (xInt r2 (nNat i) 9) (xStr r2 (nNat i) 10) (xInt r2 (nNat i) 11) (xInt r2 (nNat i) 12) (xStr r2 (nNat i) 13)),.int .i64 (qa3 (xInt r2 (nNat i) 0) (xStr r2 (nNat i) 1) (qaa (xRow r2 (nNat i) 2)) (xInt r2 (nNat i) 3) (xInt r2 (nNat i) 4) (xStr r2 (nNat i) 5) (xInt r2 (nNat i) 6) (xInt r2 (nNat i) 7) (xStr r2 (nNat i) 8) (xInt r2 (nNat i) 9) (xStr r2 (nNat i) 10) (xInt r2 (nNat i) 11) (xInt r2 (nNat i) 12) (xStr r2 (nNat i) 13)),.str (qaW (xInt r2 (nNat i) 0) (xStr r2 (nNat i) 1) (qaa (xRow r2 (nNat i) 2)) (xInt r2 (nNat i) 3) (xInt r2 (nNat i) 4) (xStr r2 (nNat i) 5) (xInt r2 (nNat i) 6) (xInt r2 (nNat i) 7) (xStr r2 (nNat i) 8) (xInt r2 (nNat i) 9) (xStr r2 (nNat i) 10) (xInt r2 (nNat i) 11) (xInt r2 (nNat i) 12) (xStr r2 (nNat i) 13)),.int .i64 (qaV (xInt r2 (nNat i) 0) (xStr r2 (nNat i) 1) (qaa (xRow r2 (nNat i) 2)) (xInt r2 (nNat i) 3) (xInt r2 (nNat i) 4) (xStr r2 (nNat i) 5) (xInt r2 (nNat i) 6) (xInt r2 (nNat i) 7) (xStr r2 (nNat i) 8) (xInt r2 (nNat i) 9) (xStr r2 (nNat i) 10) (xInt r2 (nNat i) 11) (xInt r2 (nNat i) 12) (xStr r2 (nNat i) 13)),.int .i64 (qaZ (xInt r2 (nNat i) 0) (xStr r2 (nNat i) 1) (qaa (xRow r2 (nNat i) 2)) (xInt r2 (nNat i) 3) (xInt r2 (nNat i) 4) (xStr r2 (nNat i) 5) (xInt r2 (nNat i) 6) (xInt r2 (nNat i) 7) (xStr r2 (nNat i) 8) (xInt r2 (nNat i) 9) (xStr r2 (nNat i) 10) (xInt r2 (nNat i) 11) (xInt r2 (nNat i) 12) (xStr r2 (nNat i) 13)),.str (qaY (xInt r2 (nNat i) 0) (xStr r2 (nNat i) 1) (qaa (xRow r2 (nNat i) 2)) (xInt r2 (nNat i) 3) (xInt r2 (nNat i) 4) (xStr r2 (nNat i) 5)
 (xInt r2 (nNat i) 6) (xInt r2 (nNat i) 7) (xStr r2 (nNat i) 8) (xInt r2 (nNat i) 9) (xStr r2 (nNat i) 10) (xInt r2 (nNat i) 11) (xInt r2 (nNat i) 12) (xStr r2 (nNat i) 13))]] 14) (.ite (qaC r6 14) (.ite (nEq k (nXs r6)) (.ret (.next [.ptr 0 0,.ptr 1 0,.ptr 2 0,.int .i64 (iAdd .i64 i 1)] (Store.mk [[.str s,.sl r .non,.sl r2 .non],[.str s2,.sl r3 .full,.sl r4 .full],[.str s3,.sl r5 .non,.sl (xApp r6 [[.int .i64 (qbj (xInt r2 (nNat i) 0) (xStr r2 (nNat i) 1) (qaa (xRow r2 (nNat i) 2)) (xInt r2 (nNat i) 3) (xInt r2 (nNat i) 4) (xStr r2 (nNat i) 5) (xInt r2 (nNat i) 6) (xInt r2 (nNat i) 7) (xStr r2 (nNat i) 8) (xInt r2 (nNat i) 9) (xStr r2 (nNat i) 10) (xInt r2 (nNat i) 11) (xInt r2 (nNat i) 12) (xStr r2 (nNat i) 13)),.str (qbl (xInt r2 (nNat i) 0) (xStr r2 (nNat i) 1) (qaa (xRow r2 (nNat i) 2)) (xInt r2 (nNat i) 3) (xInt r2 (nNat i) 4) (xStr r2 (nNat i) 5) (xInt r2 (nNat i) 6) (xInt r2 (nNat i) 7) (xStr r2 (nNat i) 8) (xInt r2 (nNat i) 9) (xStr r2 (nNat i) 10) (xInt r2 (nNat i) 11) (xInt r2 (nNat i) 12) (xStr r2 (nNat i) 13)),.sl (qbk (xInt r2 (nNat i) 0) (xStr r2 (nNat i) 1) (qaa (xRow r2 (nNat i) 2)) (xInt r2 (nNat i) 3) (xInt r2 (nNat i) 4) (xStr r2 (nNat i) 5) (xInt r2 (nNat i) 6) (xInt r2 (nNat i) 7) (xStr r2 (nNat i) 8) (xInt r2 (nNat i) 9) (xStr r2 (nNat i) 10) (xInt r2 (nNat i) 11) (xInt r2 (nNat i) 12) (xStr r2 (nNat i) 13)) .non,.int .i64 (qa0 (xInt r2 (nNat i) 0) (xStr r2 (nNat i) 1) (qaa (xRow r2 (nNat i) 2)) (xInt r2 (nNat i) 3) (xInt r2 (nNat i) 4) (xStr r2 (nNat i) 5) (xInt r2 (nNat i) 6) (xInt r2 (nNat i) 7) (xStr r2 (nNat i) 8) (xInt r2 (nNat i) 9) (xStr r2 (nNat i) 10) (xInt r2 (nNat i) 11) (xInt r2 (nNat i) 12) (xStr r2 (nNat i) 13)),.int .i64 (qa1 (xInt r2 (nNat i) 0) (xStr r2 (nNat i) 1) (qaa (xRow r2 (nNat i) 2)) (xInt r2 (nNat i) 3) (xInt r2 (nNat i) 4) (xStr r2 (nNat i) 5) (xInt r2 (nNat i) 6) (xInt r2 (nNat i) 7) (xStr r2 (nNat i) 8) (xInt r2 (nNat i) 9) (xStr r2 (nNat i) 10)
 (xInt r2 (nNat i) 11) (xInt r2 (nNat i) 12) (xStr r2 (nNat i) 13)),.str (qaX (xInt r2 (nNat i) 0) (xStr r2 (nNat i) 1) (qaa (xRow r2 (nNat i) 2)) (xInt r2 (nNat i) 3) (xInt r2 (nNat i) 4) (xStr r2 (nNat i) 5) (xInt r2 (nNat i) 6) (xInt r2 (nNat i) 7) (xStr r2 (nNat i) 8) (xInt r2 (nNat i) 9) (xStr r2 (nNat i) 10) (xInt r2 (nNat i) 11) (xInt r2 (nNat i) 12) (xStr r2 (nNat i) 13)),.int .i64 (qa5 (xInt r2 (nNat i) 0) (xStr r2 (nNat i) 1) (qaa (xRow r2 (nNat i) 2)) (xInt r2 (nNat i) 3) (xInt r2 (nNat i) 4) (xStr r2 (nNat i) 5) (xInt r2 (nNat i) 6) (xInt r2 (nNat i) 7) (xStr r2 (nNat i) 8) (xInt r2 (nNat i) 9) (xStr r2 (nNat i) 10) (xInt r2 (nNat i) 11) (xInt r2 (nNat i) 12) (xStr r2 (nNat i) 13)),.int .i64 (qa4 (xInt r2 (nNat i) 0) (xStr r2 (nNat i) 1) (qaa (xRow r2 (nNat i) 2)) (xInt r2 (nNat i) 3) (xInt r2 (nNat i) 4) (xStr r2 (nNat i) 5) (xInt r2 (nNat i) 6) (xInt r2 (nNat i) 7) (xStr r2 (nNat i) 8) (xInt r2 (nNat i) 9) (xStr r2 (nNat i) 10) (xInt r2 (nNat i) 11) (xInt r2 (nNat i) 12) (xStr r2 (nNat i) 13)),.str (qaU (xInt r2 (nNat i) 0) (xStr r2 (nNat i) 1) (qaa (xRow r2 (nNat i) 2)) (xInt r2 (nNat i) 3) (xInt r2 (nNat i) 4) (xStr r2 (nNat i) 5) (xInt r2 (nNat i) 6) (xInt r2 (nNat i) 7) (xStr r2 (nNat i) 8) (xInt r2 (nNat i) 9) (xStr r2 (nNat i) 10) (xInt r2 (nNat i) 11) (xInt r2 (nNat i) 12) (xStr r2 (nNat i) 13)),.int .i64 (qa3 (xInt r2 (nNat i) 0) (xStr r2 (nNat i) 1) (qaa (xRow r2 (nNat i) 2)) (xInt r2 (nNat i) 3) (xInt r2 (nNat i) 4) (xStr r2 (nNat i) 5) (xInt r2 (nNat i) 6) (xInt r2 (nNat i) 7) (xStr r2 (nNat i) 8) (xInt r2 (nNat i) 9) (xStr r2 (nNat i) 10) (xInt r2 (nNat i) 11) (xInt r2 (nNat i) 12) (xStr r2 (nNat i) 13)),.str (qaW (xInt r2 (nNat i) 0) (xStr r2 (nNat i) 1) (qaa (xRow r2 (nNat i) 2)) (xInt r2 (nNat i) 3) (xInt r2 (nNat i) 4) (xStr r2 (nNat i) 5) (xInt r2 (nNat i) 6) (xInt r2 (nNat i) 7) (xStr r2 (nNat i) 8) (xInt r2 (nNat i) 9) (xStr r2 (nNat i) 10)
 (xInt r2 (nNat i) 11) (xInt r2 (nNat i) 12) (xStr r2 (nNat i) 13)),.int .i64 (qaV (xInt r2 (nNat i) 0) (xStr r2 (nNat i) 1) (qaa (xRow r2 (nNat i) 2)) (xInt r2 (nNat i) 3) (xInt r2 (nNat i) 4) (xStr r2 (nNat i) 5) (xInt r2 (nNat i) 6) (xInt r2 (nNat i) 7) (xStr r2 (nNat i) 8) (xInt r2 (nNat i) 9) (xStr r2 (nNat i) 10) (xInt r2 (nNat i) 11) (xInt r2 (nNat i) 12) (xStr r2 (nNat i) 13)),.int .i64 (qaZ (xInt r2 (nNat i) 0) (xStr r2 (nNat i) 1) (qaa (xRow r2 (nNat i) 2)) (xInt r2 (nNat i) 3) (xInt r2 (nNat i) 4) (xStr r2 (nNat i) 5) (xInt r2 (nNat i) 6) (xInt r2 (nNat i) 7) (xStr r2 (nNat i) 8) (xInt r2 (nNat i) 9) (xStr r2 (nNat i) 10) (xInt r2 (nNat i) 11) (xInt r2 (nNat i) 12) (xStr r2 (nNat i) 13)),.str (qaY (xInt r2 (nNat i) 0) (xStr r2 (nNat i) 1) (qaa (xRow r2 (nNat i) 2)) (xInt r2 (nNat i) 3) (xInt r2 (nNat i) 4) (xStr r2 (nNat i) 5) (xInt r2 (nNat i) 6) (xInt r2 (nNat i) 7) (xStr r2 (nNat i) 8) (xInt r2 (nNat i) 9) (xStr r2 (nNat i) 10) (xInt r2 (nNat i) 11) (xInt r2 (nNat i) 12) (xStr r2 (nNat i) 13))]]) (.tok 0)]] [(nXs (xApp r6 [[.int .i64 (qbj (xInt r2 (nNat i) 0) (xStr r2 (nNat i) 1) (qaa (xRow r2 (nNat i) 2)) (xInt r2 (nNat i) 3) (xInt r2 (nNat i) 4) (xStr r2 (nNat i) 5) (xInt r2 (nNat i) 6) (xInt r2 (nNat i) 7) (xStr r2 (nNat i) 8) (xInt r2 (nNat i) 9) (xStr r2 (nNat i) 10) (xInt r2 (nNat i) 11) (xInt r2 (nNat i) 12) (xStr r2 (nNat i) 13)),.str (qbl (xInt r2 (nNat i) 0) (xStr r2 (nNat i) 1) (qaa (xRow r2 (nNat i) 2)) (xInt r2 (nNat i) 3) (xInt r2 (nNat i) 4) (xStr r2 (nNat i) 5) (xInt r2 (nNat i) 6) (xInt r2 (nNat i) 7) (xStr r2 (nNat i) 8) (xInt r2 (nNat i) 9) (xStr r2 (nNat i) 10) (xInt r2 (nNat i) 11) (xInt r2 (nNat i) 12) (xStr r2 (nNat i) 13)),.sl (qbk (xInt r2 (nNat i) 0) (xStr r2 (nNat i) 1) (qaa (xRow r2 (nNat i) 2)) (xInt r2 (nNat i) 3) (xInt r2 (nNat i) 4)
 (xStr r2 (nNat i) 5) (xInt r2 (nNat i) 6) (xInt r2 (nNat i) 7) (xStr r2 (nNat i) 8) (xInt r2 (nNat i) 9) (xStr r2 (nNat i) 10) (xInt r2 (nNat i) 11) (xInt r2 (nNat i) 12) (xStr r2 (nNat i) 13)) .non,.int .i64 (qa0 (xInt r2 (nNat i) 0) (xStr r2 (nNat i) 1) (qaa (xRow r2 (nNat i) 2)) (xInt r2 (nNat i) 3) (xInt r2 (nNat i) 4) (xStr r2 (nNat i) 5) (xInt r2 (nNat i) 6) (xInt r2 (nNat i) 7) (xStr r2 (nNat i) 8) (xInt r2 (nNat i) 9) (xStr r2 (nNat i) 10) (xInt r2 (nNat i) 11) (xInt r2 (nNat i) 12) (xStr r2 (nNat i) 13)),.int .i64 (qa1 (xInt r2 (nNat i) 0) (xStr r2 (nNat i) 1) (qaa (xRow r2 (nNat i) 2)) (xInt r2 (nNat i) 3) (xInt r2 (nNat i) 4) (xStr r2 (nNat i) 5) (xInt r2 (nNat i) 6) (xInt r2 (nNat i) 7) (xStr r2 (nNat i) 8) (xInt r2 (nNat i) 9) (xStr r2 (nNat i) 10) (xInt r2 (nNat i) 11) (xInt r2 (nNat i) 12) (xStr r2 (nNat i) 13)),.str (qaX (xInt r2 (nNat i) 0) (xStr r2 (nNat i) 1) (qaa (xRow r2 (nNat i) 2)) (xInt r2 (nNat i) 3) (xInt r2 (nNat i) 4) (xStr r2 (nNat i) 5) (xInt r2 (nNat i) 6) (xInt r2 (nNat i) 7) (xStr r2 (nNat i) 8) (xInt r2 (nNat i) 9) (xStr r2 (nNat i) 10) (xInt r2 (nNat i) 11) (xInt r2 (nNat i) 12) (xStr r2 (nNat i) 13)),.int .i64 (qa5 (xInt r2 (nNat i) 0) (xStr r2 (nNat i) 1) (qaa (xRow r2 (nNat i) 2)) (xInt r2 (nNat i) 3) (xInt r2 (nNat i) 4) (xStr r2 (nNat i) 5) (xInt r2 (nNat i) 6) (xInt r2 (nNat i) 7) (xStr r2 (nNat i) 8) (xInt r2 (nNat i) 9) (xStr r2 (nNat i) 10) (xInt r2 (nNat i) 11) (xInt r2 (nNat i) 12) (xStr r2 (nNat i) 13)),.int .i64 (qa4 (xInt r2 (nNat i) 0) (xStr r2 (nNat i) 1) (qaa (xRow r2 (nNat i) 2)) (xInt r2 (nNat i) 3) (xInt r2 (nNat i) 4) (xStr r2 (nNat i) 5) (xInt r2 (nNat i) 6) (xInt r2 (nNat i) 7) (xStr r2 (nNat i) 8) (xInt r2 (nNat i) 9) (xStr r2 (nNat i) 10) (xInt r2 (nNat i) 11) (xInt r2 (nNat i) 12) (xStr r2 (nNat i) 13)),.str (qaU (xInt r2 (nNat i) 0) (xStr r2 (nNat i) 1) (qaa (xRow r2 (nNat i) 2)) (xInt r2 (nNat i) 3) (xInt r2 (nNat i) 4)
 (xStr r2 (nNat i) 5) (xInt r2 (nNat i) 6) (xInt r2 (nNat i) 7) (xStr r2 (nNat i) 8) (xInt r2 (nNat i) 9) (xStr r2 (nNat i) 10) (xInt r2 (nNat i) 11) (xInt r2 (nNat i) 12) (xStr r2 (nNat i) 13)),.int .i64 (qa3 (xInt r2 (nNat i) 0) (xStr r2 (nNat i) 1) (qaa (xRow r2 (nNat i) 2)) (xInt r2 (nNat i) 3) (xInt r2 (nNat i) 4) (xStr r2 (nNat i) 5) (xInt r2 (nNat i) 6) (xInt r2 (nNat i) 7) (xStr r2 (nNat i) 8) (xInt r2 (nNat i) 9) (xStr r2 (nNat i) 10) (xInt r2 (nNat i) 11) (xInt r2 (nNat i) 12) (xStr r2 (nNat i) 13)),.str (qaW (xInt r2 (nNat i) 0) (xStr r2 (nNat i) 1) (qaa (xRow r2 (nNat i) 2)) (xInt r2 (nNat i) 3) (xInt r2 (nNat i) 4) (xStr r2 (nNat i) 5) (xInt r2 (nNat i) 6) (xInt r2 (nNat i) 7) (xStr r2 (nNat i) 8) (xInt r2 (nNat i) 9) (xStr r2 (nNat i) 10) (xInt r2 (nNat i) 11) (xInt r2 (nNat i) 12) (xStr r2 (nNat i) 13)),.int .i64 (qaV (xInt r2 (nNat i) 0) (xStr r2 (nNat i) 1) (qaa (xRow r2 (nNat i) 2)) (xInt r2 (nNat i) 3) (xInt r2 (nNat i) 4) (xStr r2 (nNat i) 5) (xInt r2 (nNat i) 6) (xInt r2 (nNat i) 7) (xStr r2 (nNat i) 8) (xInt r2 (nNat i) 9) (xStr r2 (nNat i) 10) (xInt r2 (nNat i) 11) (xInt r2 (nNat i) 12) (xStr r2 (nNat i) 13)),.int .i64 (qaZ (xInt r2 (nNat i) 0) (xStr r2 (nNat i) 1) (qaa (xRow r2 (nNat i) 2)) (xInt r2 (nNat i) 3) (xInt r2 (nNat i) 4) (xStr r2 (nNat i) 5) (xInt r2 (nNat i) 6) (xInt r2 (nNat i) 7) (xStr r2 (nNat i) 8) (xInt r2 (nNat i) 9) (xStr r2 (nNat i) 10) (xInt r2 (nNat i) 11) (xInt r2 (nNat i) 12) (xStr r2 (nNat i) 13)),.str (qaY (xInt r2 (nNat i) 0) (xStr r2 (nNat i) 1) (qaa (xRow r2 (nNat i) 2)) (xInt r2 (nNat i) 3) (xInt r2 (nNat i) 4) (xStr r2 (nNat i) 5) (xInt r2 (nNat i) 6) (xInt r2 (nNat i) 7) (xStr r2 (nNat i) 8) (xInt r2 (nNat i) 9) (xStr r2 (nNat i) 10) (xInt r2 (nNat i) 11) (xInt r2 (nNat i) 12) (xStr r2 (nNat i) 13))]]),14,34)] [48,48,48]))) .fail) .fail) .fail) .fail) .fail) .fail) .fail) (.ret (.out (.exit 0) [.ptr 1 0,.ptr 2 0]
 (Store.mk [[.str s,.sl r .non,.sl r2 .non],[.str s2,.sl r3 .full,.sl r4 .full],[.str s3,.sl r5 .non,.sl r6 (.tok 0)]] [(k,14,34)] [48,48,48])))) (.ret (.out (.exit 0) [.ptr 1 0,.ptr 2 0] (Store.mk [[.str s,.sl r .non,.sl r2 .non],[.str s2,.sl r3 .full,.sl r4 .full],[.str s3,.sl r5 .non,.sl r6 (.tok 0)]] [(k,14,34)] [48,48,48])))
theorem qFK (i:Int) (s:List UInt8) (r:List (List PV)) (r2:List (List PV)) (s2:List UInt8) (r3:List (List PV)) (r4:List (List PV)) (s3:List UInt8) (r5:List (List PV)) (r6:List (List PV)) (k:Nat):lstep tbT qpm qqi qoj qoc [.ptr 0 0,.ptr 1 0,.ptr 2 0,.int .i64 i] ⟨[[.str s,.sl r .non,.sl r2 .non],[.str s2,.sl r3 .full,.sl r4 .full],[.str s3,.sl r5 .non,.sl r6 (.tok 0)]],[(k,14,34)],[48,48,48]⟩=qik i s r r2 s2 r3 r4 s3 r5 r6 k:=by kernel_rfl
theorem qyq (i:Int) (s:List UInt8) (r:List (List PV)) (r2:List (List PV)) (s2:List UInt8) (r3:List (List PV)) (r4:List (List PV)) (s3:List UInt8) (r5:List (List PV)) (r6:List (List PV)) (k:Nat):qeL [.ptr 0 0,.ptr 1 0,.ptr 2 0,.int .i64 i] ⟨[[.str s,.sl r .non,.sl r2 .non],[.str s2,.sl r3 .full,.sl r4 .full],[.str s3,.sl r5 .non,.sl r6 (.tok 0)]],[(k,14,34)],[48,48,48]⟩=lnext qeL (qik i s r r2 s2 r3 r4 s3 r5 r6 k).run:=by unfold qeL; rw [qbK,qFK]
noncomputable def qdA (i:Int) (s:List UInt8) (r:List (List PV)) (r2:List (List PV)) (s2:List UInt8) (r3:List (List PV)) (r4:List (List PV)) (s3:List UInt8) (r5:List (List PV)) (r6:List (List PV)) (k:Nat):Option (PExit × List PV × Store):=qeL [.ptr 0 0,.ptr 1 0,.ptr 2 0,.int .i64 i] ⟨[[.str s,.sl r .non,.sl r2 .non],[.str s2,.sl r3 .full,.sl r4 .full],[.str s3,.sl r5 .non,.sl r6 (.tok 0)]],[(k,14,34)],[48,48,48]⟩
noncomputable def qsF (i:Int) (s:List UInt8) (r:List (List PV)) (r2:List (List PV)) (s2:List UInt8) (r3:List (List PV)) (r4:List (List PV)) (s3:List UInt8) (r5:List (List PV)) (r6:List (List PV)) (k:Nat):List UInt8:=(gStr (gAt (gObj (qdA i s r r2 s2 r3 r4 s3 r5 r6 k) 0) 0))
noncomputable def qtc (i:Int) (s:List UInt8) (r:List (List PV)) (r2:List (List PV)) (s2:List UInt8) (r3:List (List PV)) (r4:List (List PV)) (s3:List UInt8) (r5:List (List PV)) (r6:List (List PV)) (k:Nat):List (List PV):=(gRow (gAt (gObj (qdA i s r r2 s2 r3 r4 s3 r5 r6 k) 0) 1))
noncomputable def qqB (i:Int) (s:List UInt8) (r:List (List PV)) (r2:List (List PV)) (s2:List UInt8) (r3:List (List PV)) (r4:List (List PV)) (s3:List UInt8) (r5:List (List PV)) (r6:List (List PV)) (k:Nat):List (List PV):=(gRow (gAt (gObj (qdA i s r r2 s2 r3 r4 s3 r5 r6 k) 0) 2))
noncomputable def qo5 (i:Int) (s:List UInt8) (r:List (List PV)) (r2:List (List PV)) (s2:List UInt8) (r3:List (List PV)) (r4:List (List PV)) (s3:List UInt8) (r5:List (List PV)) (r6:List (List PV)) (k:Nat):List UInt8:=(gStr (gAt (gObj (qdA i s r r2 s2 r3 r4 s3 r5 r6 k) 1) 0))
noncomputable def qpz (i:Int) (s:List UInt8) (r:List (List PV)) (r2:List (List PV)) (s2:List UInt8) (r3:List (List PV)) (r4:List (List PV)) (s3:List UInt8) (r5:List (List PV)) (r6:List (List PV)) (k:Nat):List (List PV):=(gRow (gAt (gObj (qdA i s r r2 s2 r3 r4 s3 r5 r6 k) 1) 1))
noncomputable def qrg (i:Int) (s:List UInt8) (r:List (List PV)) (r2:List (List PV)) (s2:List UInt8) (r3:List (List PV)) (r4:List (List PV)) (s3:List UInt8) (r5:List (List PV)) (r6:List (List PV)) (k:Nat):List (List PV):=(gRow (gAt (gObj (qdA i s r r2 s2 r3 r4 s3 r5 r6 k) 1) 2))
noncomputable def qlg (i:Int) (s:List UInt8) (r:List (List PV)) (r2:List (List PV)) (s2:List UInt8) (r3:List (List PV)) (r4:List (List PV)) (s3:List UInt8) (r5:List (List PV)) (r6:List (List PV)) (k:Nat):List UInt8:=(gStr (gAt (gObj (qdA i s r r2 s2 r3 r4 s3 r5 r6 k) 2) 0))
noncomputable def qlz (i:Int) (s:List UInt8) (r:List (List PV)) (r2:List (List PV)) (s2:List UInt8) (r3:List (List PV)) (r4:List (List PV)) (s3:List UInt8) (r5:List (List PV)) (r6:List (List PV)) (k:Nat):List (List PV):=(gRow (gAt (gObj (qdA i s r r2 s2 r3 r4 s3 r5 r6 k) 2) 1))
noncomputable def qlv (i:Int) (s:List UInt8) (r:List (List PV)) (r2:List (List PV)) (s2:List UInt8) (r3:List (List PV)) (r4:List (List PV)) (s3:List UInt8) (r5:List (List PV)) (r6:List (List PV)) (k:Nat):List (List PV):=(gRow (gAt (gObj (qdA i s r r2 s2 r3 r4 s3 r5 r6 k) 2) 2))
noncomputable def qup (i:Int) (s:List UInt8) (r:List (List PV)) (r2:List (List PV)) (s2:List UInt8) (r3:List (List PV)) (r4:List (List PV)) (s3:List UInt8) (r5:List (List PV)) (r6:List (List PV)) (k:Nat):Nat:=(gTok (qdA i s r r2 s2 r3 r4 s3 r5 r6 k) 0)
noncomputable def qmD (i:Int) (s:List UInt8) (r:List (List PV)) (r2:List (List PV)) (s2:List UInt8) (r3:List (List PV)) (r4:List (List PV)) (s3:List UInt8) (r5:List (List PV)) (r6:List (List PV)) (k:Nat):Bool:=isW (qdA i s r r2 s2 r3 r4 s3 r5 r6 k) ((.exit 0),[.ptr 1 0,.ptr 2 0],⟨[[.str (qsF i s r r2 s2 r3 r4 s3 r5 r6 k),.sl (qtc i s r r2 s2 r3 r4 s3 r5 r6 k) .non,.sl (qqB i s r r2 s2 r3 r4 s3 r5 r6 k) .non],[.str (qo5 i s r r2 s2 r3 r4 s3 r5 r6 k),.sl (qpz i s r r2 s2 r3 r4 s3 r5 r6 k) .full,.sl (qrg i s r r2 s2 r3 r4 s3 r5 r6 k) .full],[.str (qlg i s r r2 s2 r3 r4 s3 r5 r6 k),.sl (qlz i s r r2 s2 r3 r4 s3 r5 r6 k) .non,.sl (qlv i s r r2 s2 r3 r4 s3 r5 r6 k) (.tok 0)]],[((qup i s r r2 s2 r3 r4 s3 r5 r6 k),14,34)],[48,48,48]⟩)
noncomputable def qg7:List PV→Store→Tr (PExit × List PV × Store) | [.ptr 0 0,.ptr 1 0,.ptr 2 0,.int .i64 i],⟨[[.str s,.sl r .non,.sl r2 .non],[.str s2,.sl r3 .full,.sl r4 .full],[.str s3,.sl r5 .non,.sl r6 (.tok 0)]],[(k,14,34)],[48,48,48]⟩=>.ite (qmD i s r r2 s2 r3 r4 s3 r5 r6 k) (.ret ((.exit 0),[.ptr 1 0,.ptr 2 0],⟨[[.str (qsF i s r r2 s2 r3 r4 s3 r5 r6 k),.sl (qtc i s r r2 s2 r3 r4 s3 r5 r6 k) .non,.sl (qqB i s r r2 s2 r3 r4 s3 r5 r6 k) .non],[.str (qo5 i s r r2 s2 r3 r4 s3 r5 r6 k),.sl (qpz i s r r2 s2 r3 r4 s3 r5 r6 k) .full,.sl (qrg i s r r2 s2 r3 r4 s3 r5 r6 k) .full],[.str (qlg i s r r2 s2 r3 r4 s3 r5 r6 k),.sl (qlz i s r r2 s2 r3 r4 s3 r5 r6 k) .non,.sl (qlv i s r r2 s2 r3 r4 s3 r5 r6 k) (.tok 0)]],[((qup i s r r2 s2 r3 r4 s3 r5 r6 k),14,34)],[48,48,48]⟩)) (.fail) | _,_=>.fail
theorem qE5:∀ vs σ r,(qg7 vs σ).run=some r→qeL vs σ=some r:=by
 intro vs σ r h
 unfold qg7 at h
 split at h
 ·exact qai h fun h=>by cases h
 ·cases h
theorem qxP (gl:Gl):∀ fr σ e fr' σ',(orc qoc qg7 fr σ).run=some (e,fr',σ')→LDoes Tryz.prog gl qoj fr σ e fr' σ':=qcs qav (quZ gl ) qah (L:=qqi) (qae (by kernel_rfl)) (by kernel_rfl) qE5
noncomputable def qwW:LpsT:=fun r fr σ=>bif Nat.beq r 3 then orc qoc qg7 fr σ else .fail
noncomputable def qt5 (r_:List UInt8) (r_2:List (List PV)) (r_3:List (List PV)):Tr PV:=.ite (qeT r_ (qaa r_2)) (.ite (qmD 0 r_ r_2 r_3 [] [] [] (qdM r_ (qaa r_2)) (qdC r_ (qaa r_2)) [] 0) (.ret (.agg [.str (qlg 0 r_ r_2 r_3 [] [] [] (qdM r_ (qaa r_2)) (qdC r_ (qaa r_2)) [] 0),.sl (qb5 (qlz 0 r_ r_2 r_3 [] [] [] (qdM r_ (qaa r_2)) (qdC r_ (qaa r_2)) [] 0)) .non,.sl (qb5 (qlv 0 r_ r_2 r_3 [] [] [] (qdM r_ (qaa r_2)) (qdC r_ (qaa r_2)) [] 0)) .non])) .fail) .fail
theorem qIE (r_:List UInt8) (r_2:List (List PV)) (r_3:List (List PV)):(tcall tbT qpm qwW Tryz.f23 [.agg [.str r_,.sl r_2 .non,.sl r_3 .non]]).flat=qt5 r_ r_2 r_3:=by kernel_rfl
noncomputable def qml (r_:List UInt8) (r_2:List (List PV)) (r_3:List (List PV)):Option PV:=(qt5 r_ r_2 r_3).run
noncomputable def qfm (r_:List UInt8) (r_2:List (List PV)) (r_3:List (List PV)):List UInt8:=(gStr (gAt (gCs (gVal (qml r_ r_2 r_3))) 0))
noncomputable def qfv (r_:List UInt8) (r_2:List (List PV)) (r_3:List (List PV)):List (List PV):=(gRow (gAt (gCs (gVal (qml r_ r_2 r_3))) 1))
noncomputable def qdW (r_:List UInt8) (r_2:List (List PV)) (r_3:List (List PV)):List (List PV):=(gRow (gAt (gCs (gVal (qml r_ r_2 r_3))) 2))
noncomputable def qfY (r_:List UInt8) (r_2:List (List PV)) (r_3:List (List PV)):Bool:=isW (qml r_ r_2 r_3) (.agg [.str (qfm r_ r_2 r_3),.sl (qfv r_ r_2 r_3) .non,.sl (qdW r_ r_2 r_3) .non])
noncomputable def qwP:List PV→Tr PV | [.agg [.str r_,.sl r_2 .non,.sl r_3 .non]]=>.ite (qfY r_ r_2 r_3) (.ret (.agg [.str (qfm r_ r_2 r_3),.sl (qfv r_ r_2 r_3) .non,.sl (qdW r_ r_2 r_3) .non])) (.fail) | _=>.fail
theorem qEd (gl:Gl):SimP Tryz.prog gl 23 fun args=>(qwP args).run:=by
 refine SimP.of_flat (G:=qpm) (L:=qwW) qav (quZ gl ) qah  Tryz.func23 rfl (by rfl) (by kernel_rfl) (qbg (L:=lps qwW) [(3,qoj)] (by kernel_rfl) (List.forall_mem_cons.2 ⟨fun fr σ e fr' σ' h=>qxP gl  fr σ e fr' σ' h,(List.forall_mem_nil _)⟩)) ?_
 intro args x h
 unfold qwP at h
 split at h
 ·exact (congrArg Tr.run (qIE _ _ _)).trans (qai h fun h=>by cases h)
 ·cases h
noncomputable def qxF:GamT:=ofL [(11,.pure F_tx)]
theorem qFn (gl:Gl):qaR Tryz.prog gl (gam qxF):=(qac (qyS gl) qag)
noncomputable def qC0:LpsT:=fun r fr σ=>.fail
noncomputable def qtm (d:List UInt8) (d2:Bool) (d3:List (List PV)):Tr PV:=.ite (qlr d) (.ite (iLt 12 (xLen d3)) (.ite (qaI true (qaw 12) 0 (nNat 12) (nXs d3)) (.ite (qaC d3 1) (.ret (.agg [.str (tx_s d),.bool d2,.sl (qb5 (xSub d3 0 (nNat 12))) .non])) .fail) .fail) (.ret (.agg [.str (tx_s d),.bool d2,.sl (qb5 d3) .non]))) .fail
theorem qKg (d:List UInt8) (d2:Bool) (d3:List (List PV)):(tcall tbT qxF qC0 Tryz.f24 [.agg [.str d,.bool d2,.sl d3 .non]]).flat=qtm d d2 d3:=by kernel_rfl
noncomputable def qmS (d:List UInt8) (d2:Bool) (d3:List (List PV)):Option PV:=(qtm d d2 d3).run
noncomputable def qfu (d:List UInt8) (d2:Bool) (d3:List (List PV)):List UInt8:=(gStr (gAt (gCs (gVal (qmS d d2 d3))) 0))
noncomputable def qfF (d:List UInt8) (d2:Bool) (d3:List (List PV)):Bool:=(qb4 (gAt (gCs (gVal (qmS d d2 d3))) 1))
noncomputable def qfk (d:List UInt8) (d2:Bool) (d3:List (List PV)):List (List PV):=(gRow (gAt (gCs (gVal (qmS d d2 d3))) 2))
noncomputable def qfN (d:List UInt8) (d2:Bool) (d3:List (List PV)):Bool:=isW (qmS d d2 d3) (.agg [.str (qfu d d2 d3),.bool (qfF d d2 d3),.sl (qfk d d2 d3) .non])
noncomputable def qxx:List PV→Tr PV | [.agg [.str d,.bool d2,.sl d3 .non]]=>.ite (qfN d d2 d3) (.ret (.agg [.str (qfu d d2 d3),.bool (qfF d d2 d3),.sl (qfk d d2 d3) .non])) (.fail) | _=>.fail
theorem qE1 (gl:Gl):SimP Tryz.prog gl 24 fun args=>(qxx args).run:=by
 refine SimP.of_flat (G:=qxF) (L:=qC0) qav (qFn gl ) qah  Tryz.func24 rfl (by rfl) (by kernel_rfl) (qae (by kernel_rfl)) ?_
 intro args x h
 unfold qxx at h
 split at h
 ·exact (congrArg Tr.run (qKg _ _ _)).trans (qai h fun h=>by cases h)
 ·cases h
noncomputable def qxV:GamT:=ofL [(11,.pure F_tx),(42,.pure qqK),(qe3,.hint [(9,1,2,101),(9,2,3,103)])]
theorem qxT (gl:Gl):qaR Tryz.prog gl (gam qxV):=(qac (qyS gl) (qac (qqW gl) (qbS (K:=.hint [(9,1,2,101),(9,2,3,103)]) trivial qag)))
noncomputable def qzi:Code:=qeP Tryz.f25 3
noncomputable def qzT:Code:=qeP Tryz.f25 7
def qzU:LI:=⟨71,[1,2,3,4],fun e=>match e with | .exit 0=>[1,2,3] | _=>[],true⟩
noncomputable def qw5:LpsT:=fun r fr σ=>.fail
noncomputable def qjO (vs:List PV) (σ:Store):Option (PExit × List PV × Store):=lval (lstep tbT qxV qw5 qzi qzU) vs σ
noncomputable def qqF (n:Int) (s:List UInt8) (r:List (List PV)) (r2:List (List PV)) (s2:List UInt8) (r3:List (List PV)) (r4:List (List PV)) (s3:List UInt8) (r5:List (List PV)) (r6:List (List PV)) (k:Nat) (k2:Nat):Tr LR:=.ite (iLt n (xLen r)) (.ite (iLt n 12) (.ite (qaw n) (.ite (qbM [.str [],.int .i64 0] r (nNat n)) (.ite (qlr (xStr r (nNat n) 0)) (.ite (qaw n) (.ite (qbM [.str [],.int .i64 0] r (nNat n)) (.ite (qaP r5 [[.str (tx_s (xStr r (nNat n) 0)),.int .i64 (xInt r (nNat n) 1)]] 24) (.ite (qaO [[.str (tx_s (xStr r (nNat n) 0)),.int .i64 (xInt r (nNat n) 1)]] 2) (.ite (qaC r5 2) (.ite (nEq k (nXs r5)) (.ret (.next [.ptr 0 0,.ptr 1 0,.ptr 2 0,.int .i64 (iAdd .i64 n 1)] (Store.mk [[.str s,.sl r .non,.sl r2 .non],[.str s2,.sl r3 .full,.sl r4 .full],[.str s3,.sl (xApp r5 [[.str (tx_s (xStr r (nNat n) 0)),.int .i64 (xInt r (nNat n) 1)]]) (.tok 0),.sl r6 (.tok 1)]] [(nXs (xApp r5 [[.str (tx_s (xStr r (nNat n) 0)),.int .i64 (xInt r (nNat n) 1)]]),2,101),(k2,3,103)] [55,55,55]))) .fail) .fail) .fail) .fail) .fail) .fail) .fail) .fail) .fail) (.ret (.out (.exit 0) [.ptr 0 0,.ptr 1 0,.ptr 2 0] (Store.mk [[.str s,.sl r .non,.sl r2 .non],[.str s2,.sl r3 .full,.sl r4 .full],[.str s3,.sl r5 (.tok 0),.sl r6 (.tok 1)]] [(k,2,101),(k2,3,103)] [55,55,55])))) (.ret (.out (.exit 0) [.ptr 0 0,.ptr 1 0,.ptr 2 0] (Store.mk [[.str s,.sl r .non,.sl r2 .non],[.str s2,.sl r3 .full,.sl r4 .full],[.str s3,.sl r5 (.tok 0),.sl r6 (.tok 1)]] [(k,2,101),(k2,3,103)] [55,55,55])))
theorem qK5 (n:Int) (s:List UInt8) (r:List (List PV)) (r2:List (List PV)) (s2:List UInt8) (r3:List (List PV)) (r4:List (List PV)) (s3:List UInt8) (r5:List (List PV)) (r6:List (List PV)) (k:Nat) (k2:Nat):lstep tbT qxV qw5 qzi qzU [.ptr 0 0,.ptr 1 0,.ptr 2 0,.int .i64 n] ⟨[[.str s,.sl r .non,.sl r2 .non],[.str s2,.sl r3 .full,.sl r4 .full],[.str s3,.sl r5 (.tok 0),.sl r6 (.tok 1)]],[(k,2,101),(k2,3,103)],[55,55,55]⟩=qqF n s r r2 s2 r3 r4 s3 r5 r6 k k2:=by kernel_rfl
theorem qH0 (n:Int) (s:List UInt8) (r:List (List PV)) (r2:List (List PV)) (s2:List UInt8) (r3:List (List PV)) (r4:List (List PV)) (s3:List UInt8) (r5:List (List PV)) (r6:List (List PV)) (k:Nat) (k2:Nat):qjO [.ptr 0 0,.ptr 1 0,.ptr 2 0,.int .i64 n] ⟨[[.str s,.sl r .non,.sl r2 .non],[.str s2,.sl r3 .full,.sl r4 .full],[.str s3,.sl r5 (.tok 0),.sl r6 (.tok 1)]],[(k,2,101),(k2,3,103)],[55,55,55]⟩=lnext qjO (qqF n s r r2 s2 r3 r4 s3 r5 r6 k k2).run:=by unfold qjO; rw [qbK,qK5]
noncomputable def qgz (n:Int) (s:List UInt8) (r:List (List PV)) (r2:List (List PV)) (s2:List UInt8) (r3:List (List PV)) (r4:List (List PV)) (s3:List UInt8) (r5:List (List PV)) (r6:List (List PV)) (k:Nat) (k2:Nat):Option (PExit × List PV × Store):=qjO [.ptr 0 0,.ptr 1 0,.ptr 2 0,.int .i64 n] ⟨[[.str s,.sl r .non,.sl r2 .non],[.str s2,.sl r3 .full,.sl r4 .full],[.str s3,.sl r5 (.tok 0),.sl r6 (.tok 1)]],[(k,2,101),(k2,3,103)],[55,55,55]⟩
noncomputable def qpb (n:Int) (s:List UInt8) (r:List (List PV)) (r2:List (List PV)) (s2:List UInt8) (r3:List (List PV)) (r4:List (List PV)) (s3:List UInt8) (r5:List (List PV)) (r6:List (List PV)) (k:Nat) (k2:Nat):List UInt8:=(gStr (gAt (gObj (qgz n s r r2 s2 r3 r4 s3 r5 r6 k k2) 0) 0))
noncomputable def qq1 (n:Int) (s:List UInt8) (r:List (List PV)) (r2:List (List PV)) (s2:List UInt8) (r3:List (List PV)) (r4:List (List PV)) (s3:List UInt8) (r5:List (List PV)) (r6:List (List PV)) (k:Nat) (k2:Nat):List (List PV):=(gRow (gAt (gObj (qgz n s r r2 s2 r3 r4 s3 r5 r6 k k2) 0) 1))
noncomputable def qkG (n:Int) (s:List UInt8) (r:List (List PV)) (r2:List (List PV)) (s2:List UInt8) (r3:List (List PV)) (r4:List (List PV)) (s3:List UInt8) (r5:List (List PV)) (r6:List (List PV)) (k:Nat) (k2:Nat):List (List PV):=(gRow (gAt (gObj (qgz n s r r2 s2 r3 r4 s3 r5 r6 k k2) 0) 2))
noncomputable def qkn (n:Int) (s:List UInt8) (r:List (List PV)) (r2:List (List PV)) (s2:List UInt8) (r3:List (List PV)) (r4:List (List PV)) (s3:List UInt8) (r5:List (List PV)) (r6:List (List PV)) (k:Nat) (k2:Nat):List UInt8:=(gStr (gAt (gObj (qgz n s r r2 s2 r3 r4 s3 r5 r6 k k2) 1) 0))
noncomputable def qkN (n:Int) (s:List UInt8) (r:List (List PV)) (r2:List (List PV)) (s2:List UInt8) (r3:List (List PV)) (r4:List (List PV)) (s3:List UInt8) (r5:List (List PV)) (r6:List (List PV)) (k:Nat) (k2:Nat):List (List PV):=(gRow (gAt (gObj (qgz n s r r2 s2 r3 r4 s3 r5 r6 k k2) 1) 1))
noncomputable def qkF (n:Int) (s:List UInt8) (r:List (List PV)) (r2:List (List PV)) (s2:List UInt8) (r3:List (List PV)) (r4:List (List PV)) (s3:List UInt8) (r5:List (List PV)) (r6:List (List PV)) (k:Nat) (k2:Nat):List (List PV):=(gRow (gAt (gObj (qgz n s r r2 s2 r3 r4 s3 r5 r6 k k2) 1) 2))
noncomputable def qkc (n:Int) (s:List UInt8) (r:List (List PV)) (r2:List (List PV)) (s2:List UInt8) (r3:List (List PV)) (r4:List (List PV)) (s3:List UInt8) (r5:List (List PV)) (r6:List (List PV)) (k:Nat) (k2:Nat):List UInt8:=(gStr (gAt (gObj (qgz n s r r2 s2 r3 r4 s3 r5 r6 k k2) 2) 0))
noncomputable def qkj (n:Int) (s:List UInt8) (r:List (List PV)) (r2:List (List PV)) (s2:List UInt8) (r3:List (List PV)) (r4:List (List PV)) (s3:List UInt8) (r5:List (List PV)) (r6:List (List PV)) (k:Nat) (k2:Nat):List (List PV):=(gRow (gAt (gObj (qgz n s r r2 s2 r3 r4 s3 r5 r6 k k2) 2) 1))
noncomputable def qkx (n:Int) (s:List UInt8) (r:List (List PV)) (r2:List (List PV)) (s2:List UInt8) (r3:List (List PV)) (r4:List (List PV)) (s3:List UInt8) (r5:List (List PV)) (r6:List (List PV)) (k:Nat) (k2:Nat):List (List PV):=(gRow (gAt (gObj (qgz n s r r2 s2 r3 r4 s3 r5 r6 k k2) 2) 2))
noncomputable def qpL (n:Int) (s:List UInt8) (r:List (List PV)) (r2:List (List PV)) (s2:List UInt8) (r3:List (List PV)) (r4:List (List PV)) (s3:List UInt8) (r5:List (List PV)) (r6:List (List PV)) (k:Nat) (k2:Nat):Nat:=(gTok (qgz n s r r2 s2 r3 r4 s3 r5 r6 k k2) 0)
noncomputable def qkO (n:Int) (s:List UInt8) (r:List (List PV)) (r2:List (List PV)) (s2:List UInt8) (r3:List (List PV)) (r4:List (List PV)) (s3:List UInt8) (r5:List (List PV)) (r6:List (List PV)) (k:Nat) (k2:Nat):Nat:=(gTok (qgz n s r r2 s2 r3 r4 s3 r5 r6 k k2) 1)
noncomputable def qsS (n:Int) (s:List UInt8) (r:List (List PV)) (r2:List (List PV)) (s2:List UInt8) (r3:List (List PV)) (r4:List (List PV)) (s3:List UInt8) (r5:List (List PV)) (r6:List (List PV)) (k:Nat) (k2:Nat):Bool:=isW (qgz n s r r2 s2 r3 r4 s3 r5 r6 k k2) ((.exit 0),[.ptr 0 0,.ptr 1 0,.ptr 2 0],⟨[[.str (qpb n s r r2 s2 r3 r4 s3 r5 r6 k k2),.sl (qq1 n s r r2 s2 r3 r4 s3 r5 r6 k k2) .non,.sl (qkG n s r r2 s2 r3 r4 s3 r5 r6 k k2) .non],[.str (qkn n s r r2 s2 r3 r4 s3 r5 r6 k k2),.sl (qkN n s r r2 s2 r3 r4 s3 r5 r6 k k2) .full,.sl (qkF n s r r2 s2 r3 r4 s3 r5 r6 k k2) .full],[.str (qkc n s r r2 s2 r3 r4 s3 r5 r6 k k2),.sl (qkj n s r r2 s2 r3 r4 s3 r5 r6 k k2) (.tok 0),.sl (qkx n s r r2 s2 r3 r4 s3 r5 r6 k k2) (.tok 1)]],[((qpL n s r r2 s2 r3 r4 s3 r5 r6 k k2),2,101),((qkO n s r r2 s2 r3 r4 s3 r5 r6 k k2),3,103)],[55,55,55]⟩)
noncomputable def qmd:List PV→Store→Tr (PExit × List PV × Store) | [.ptr 0 0,.ptr 1 0,.ptr 2 0,.int .i64 n],⟨[[.str s,.sl r .non,.sl r2 .non],[.str s2,.sl r3 .full,.sl r4 .full],[.str s3,.sl r5 (.tok 0),.sl r6 (.tok 1)]],[(k,2,101),(k2,3,103)],[55,55,55]⟩=>.ite (qsS n s r r2 s2 r3 r4 s3 r5 r6 k k2) (.ret ((.exit 0),[.ptr 0 0,.ptr 1 0,.ptr 2 0],⟨[[.str (qpb n s r r2 s2 r3 r4 s3 r5 r6 k k2),.sl (qq1 n s r r2 s2 r3 r4 s3 r5 r6 k k2) .non,.sl (qkG n s r r2 s2 r3 r4 s3 r5 r6 k k2) .non],[.str (qkn n s r r2 s2 r3 r4 s3 r5 r6 k k2),.sl (qkN n s r r2 s2 r3 r4 s3 r5 r6 k k2) .full,.sl (qkF n s r r2 s2 r3 r4 s3 r5 r6 k k2) .full],[.str (qkc n s r r2 s2 r3 r4 s3 r5 r6 k k2),.sl (qkj n s r r2 s2 r3 r4 s3 r5 r6 k k2) (.tok 0),.sl (qkx n s r r2 s2 r3 r4 s3 r5 r6 k k2) (.tok 1)]],[((qpL n s r r2 s2 r3 r4 s3 r5 r6 k k2),2,101),((qkO n s r r2 s2 r3 r4 s3 r5 r6 k k2),3,103)],[55,55,55]⟩)) (.fail) | _,_=>.fail
theorem qIQ:∀ vs σ r,(qmd vs σ).run=some r→qjO vs σ=some r:=by
 intro vs σ r h
 unfold qmd at h
 split at h
 ·exact qai h fun h=>by cases h
 ·cases h
theorem qEg (gl:Gl):∀ fr σ e fr' σ',(orc qzU qmd fr σ).run=some (e,fr',σ')→LDoes Tryz.prog gl qzi fr σ e fr' σ':=qcs qav (qxT gl ) qah (L:=qw5) (qae (by kernel_rfl)) (by kernel_rfl) qIQ
def qzx:LI:=⟨71,[1,2,3,5],fun e=>match e with | .exit 2=>[2,3] | _=>[],true⟩
noncomputable def qxr:LpsT:=fun r fr σ=>.fail
noncomputable def qjG (vs:List PV) (σ:Store):Option (PExit × List PV × Store):=lval (lstep tbT qxV qxr qzT qzx) vs σ
noncomputable def qqZ (n:Int) (s:List UInt8) (r:List (List PV)) (r2:List (List PV)) (s2:List UInt8) (r3:List (List PV)) (r4:List (List PV)) (s3:List UInt8) (r5:List (List PV)) (r6:List (List PV)) (k:Nat) (k2:Nat):Tr LR:=.ite (iLt n (xLen r2)) (.ite (iLt n 8) (.ite (qaw n) (.ite (qbM [.bool false,.str [],.sl [] .full] r2 (nNat n)) (.ite (qaw n) (.ite (qbM [.bool false,.str [],.sl [] .full] r2 (nNat n)) (.ite (qeT (xStr r2 (nNat n) 1) (qaa (xRow r2 (nNat n) 2))) (.ite (qaP r6 [[.bool (qcm r2 (nNat n) 0),.str (qdM (xStr r2 (nNat n) 1) (qaa (xRow r2 (nNat n) 2))),.sl (qdC (xStr r2 (nNat n) 1) (qaa (xRow r2 (nNat n) 2))) .non]] 48) (.ite (qaO [[.bool (qcm r2 (nNat n) 0),.str (qdM (xStr r2 (nNat n) 1) (qaa (xRow r2 (nNat n) 2))),.sl (qdC (xStr r2 (nNat n) 1) (qaa (xRow r2 (nNat n) 2))) .non]] 3) (.ite (qaC r6 3) (.ite (nEq k2 (nXs r6)) (.ret (.next [.ptr 0 0,.ptr 1 0,.ptr 2 0,.int .i64 (iAdd .i64 n 1)] (Store.mk [[.str s,.sl r .non,.sl r2 .non],[.str s2,.sl r3 .full,.sl r4 .full],[.str s3,.sl r5 (.tok 0),.sl (xApp r6 [[.bool (qcm r2 (nNat n) 0),.str (qdM (xStr r2 (nNat n) 1) (qaa (xRow r2 (nNat n) 2))),.sl (qdC (xStr r2 (nNat n) 1) (qaa (xRow r2 (nNat n) 2))) .non]]) (.tok 1)]] [(k,2,101),(nXs (xApp r6 [[.bool (qcm r2 (nNat n) 0),.str (qdM (xStr r2 (nNat n) 1) (qaa (xRow r2 (nNat n) 2))),.sl (qdC (xStr r2 (nNat n) 1) (qaa (xRow r2 (nNat n) 2))) .non]]),3,103)] [55,55,55]))) .fail) .fail) .fail) .fail) .fail) .fail) .fail) .fail) .fail) (.ret (.out (.exit 2) [.ptr 1 0,.ptr 2 0] (Store.mk [[.str s,.sl r .non,.sl r2 .non],[.str s2,.sl r3 .full,.sl r4 .full],[.str s3,.sl r5 (.tok 0),.sl r6 (.tok 1)]] [(k,2,101),(k2,3,103)] [55,55,55])))) (.ret (.out (.exit 2) [.ptr 1 0,.ptr 2 0] (Store.mk [[.str s,.sl r .non,.sl r2 .non],[.str s2,.sl r3 .full,.sl r4 .full],[.str s3,.sl r5 (.tok 0),.sl r6 (.tok 1)]] [(k,2,101),(k2,3,103)] [55,55,55])))
theorem qLI (n:Int) (s:List UInt8) (r:List (List PV)) (r2:List (List PV)) (s2:List UInt8) (r3:List (List PV)) (r4:List (List PV)) (s3:List UInt8) (r5:List (List PV)) (r6:List (List PV)) (k:Nat) (k2:Nat):lstep tbT qxV qxr qzT qzx [.ptr 0 0,.ptr 1 0,.ptr 2 0,.int .i64 n] ⟨[[.str s,.sl r .non,.sl r2 .non],[.str s2,.sl r3 .full,.sl r4 .full],[.str s3,.sl r5 (.tok 0),.sl r6 (.tok 1)]],[(k,2,101),(k2,3,103)],[55,55,55]⟩=qqZ n s r r2 s2 r3 r4 s3 r5 r6 k k2:=by kernel_rfl
theorem qH6 (n:Int) (s:List UInt8) (r:List (List PV)) (r2:List (List PV)) (s2:List UInt8) (r3:List (List PV)) (r4:List (List PV)) (s3:List UInt8) (r5:List (List PV)) (r6:List (List PV)) (k:Nat) (k2:Nat):qjG [.ptr 0 0,.ptr 1 0,.ptr 2 0,.int .i64 n] ⟨[[.str s,.sl r .non,.sl r2 .non],[.str s2,.sl r3 .full,.sl r4 .full],[.str s3,.sl r5 (.tok 0),.sl r6 (.tok 1)]],[(k,2,101),(k2,3,103)],[55,55,55]⟩=lnext qjG (qqZ n s r r2 s2 r3 r4 s3 r5 r6 k k2).run:=by unfold qjG; rw [qbK,qLI]
noncomputable def qgK (n:Int) (s:List UInt8) (r:List (List PV)) (r2:List (List PV)) (s2:List UInt8) (r3:List (List PV)) (r4:List (List PV)) (s3:List UInt8) (r5:List (List PV)) (r6:List (List PV)) (k:Nat) (k2:Nat):Option (PExit × List PV × Store):=qjG [.ptr 0 0,.ptr 1 0,.ptr 2 0,.int .i64 n] ⟨[[.str s,.sl r .non,.sl r2 .non],[.str s2,.sl r3 .full,.sl r4 .full],[.str s3,.sl r5 (.tok 0),.sl r6 (.tok 1)]],[(k,2,101),(k2,3,103)],[55,55,55]⟩
noncomputable def qD5 (n:Int) (s:List UInt8) (r:List (List PV)) (r2:List (List PV)) (s2:List UInt8) (r3:List (List PV)) (r4:List (List PV)) (s3:List UInt8) (r5:List (List PV)) (r6:List (List PV)) (k:Nat) (k2:Nat):List UInt8:=(gStr (gAt (gObj (qgK n s r r2 s2 r3 r4 s3 r5 r6 k k2) 0) 0))
noncomputable def qD9 (n:Int) (s:List UInt8) (r:List (List PV)) (r2:List (List PV)) (s2:List UInt8) (r3:List (List PV)) (r4:List (List PV)) (s3:List UInt8) (r5:List (List PV)) (r6:List (List PV)) (k:Nat) (k2:Nat):List (List PV):=(gRow (gAt (gObj (qgK n s r r2 s2 r3 r4 s3 r5 r6 k k2) 0) 1))
noncomputable def qwu (n:Int) (s:List UInt8) (r:List (List PV)) (r2:List (List PV)) (s2:List UInt8) (r3:List (List PV)) (r4:List (List PV)) (s3:List UInt8) (r5:List (List PV)) (r6:List (List PV)) (k:Nat) (k2:Nat):List (List PV):=(gRow (gAt (gObj (qgK n s r r2 s2 r3 r4 s3 r5 r6 k k2) 0) 2))
noncomputable def qxu (n:Int) (s:List UInt8) (r:List (List PV)) (r2:List (List PV)) (s2:List UInt8) (r3:List (List PV)) (r4:List (List PV)) (s3:List UInt8) (r5:List (List PV)) (r6:List (List PV)) (k:Nat) (k2:Nat):List UInt8:=(gStr (gAt (gObj (qgK n s r r2 s2 r3 r4 s3 r5 r6 k k2) 1) 0))
noncomputable def qxh (n:Int) (s:List UInt8) (r:List (List PV)) (r2:List (List PV)) (s2:List UInt8) (r3:List (List PV)) (r4:List (List PV)) (s3:List UInt8) (r5:List (List PV)) (r6:List (List PV)) (k:Nat) (k2:Nat):List (List PV):=(gRow (gAt (gObj (qgK n s r r2 s2 r3 r4 s3 r5 r6 k k2) 1) 1))
noncomputable def qwH (n:Int) (s:List UInt8) (r:List (List PV)) (r2:List (List PV)) (s2:List UInt8) (r3:List (List PV)) (r4:List (List PV)) (s3:List UInt8) (r5:List (List PV)) (r6:List (List PV)) (k:Nat) (k2:Nat):List (List PV):=(gRow (gAt (gObj (qgK n s r r2 s2 r3 r4 s3 r5 r6 k k2) 1) 2))
noncomputable def qtd (n:Int) (s:List UInt8) (r:List (List PV)) (r2:List (List PV)) (s2:List UInt8) (r3:List (List PV)) (r4:List (List PV)) (s3:List UInt8) (r5:List (List PV)) (r6:List (List PV)) (k:Nat) (k2:Nat):List UInt8:=(gStr (gAt (gObj (qgK n s r r2 s2 r3 r4 s3 r5 r6 k k2) 2) 0))
noncomputable def qus (n:Int) (s:List UInt8) (r:List (List PV)) (r2:List (List PV)) (s2:List UInt8) (r3:List (List PV)) (r4:List (List PV)) (s3:List UInt8) (r5:List (List PV)) (r6:List (List PV)) (k:Nat) (k2:Nat):List (List PV):=(gRow (gAt (gObj (qgK n s r r2 s2 r3 r4 s3 r5 r6 k k2) 2) 1))
noncomputable def qtR (n:Int) (s:List UInt8) (r:List (List PV)) (r2:List (List PV)) (s2:List UInt8) (r3:List (List PV)) (r4:List (List PV)) (s3:List UInt8) (r5:List (List PV)) (r6:List (List PV)) (k:Nat) (k2:Nat):List (List PV):=(gRow (gAt (gObj (qgK n s r r2 s2 r3 r4 s3 r5 r6 k k2) 2) 2))
noncomputable def qB3 (n:Int) (s:List UInt8) (r:List (List PV)) (r2:List (List PV)) (s2:List UInt8) (r3:List (List PV)) (r4:List (List PV)) (s3:List UInt8) (r5:List (List PV)) (r6:List (List PV)) (k:Nat) (k2:Nat):Nat:=(gTok (qgK n s r r2 s2 r3 r4 s3 r5 r6 k k2) 0)
noncomputable def qxW (n:Int) (s:List UInt8) (r:List (List PV)) (r2:List (List PV)) (s2:List UInt8) (r3:List (List PV)) (r4:List (List PV)) (s3:List UInt8) (r5:List (List PV)) (r6:List (List PV)) (k:Nat) (k2:Nat):Nat:=(gTok (qgK n s r r2 s2 r3 r4 s3 r5 r6 k k2) 1)
noncomputable def qug (n:Int) (s:List UInt8) (r:List (List PV)) (r2:List (List PV)) (s2:List UInt8) (r3:List (List PV)) (r4:List (List PV)) (s3:List UInt8) (r5:List (List PV)) (r6:List (List PV)) (k:Nat) (k2:Nat):Bool:=isW (qgK n s r r2 s2 r3 r4 s3 r5 r6 k k2) ((.exit 2),[.ptr 1 0,.ptr 2 0],⟨[[.str (qD5 n s r r2 s2 r3 r4 s3 r5 r6 k k2),.sl (qD9 n s r r2 s2 r3 r4 s3 r5 r6 k k2) .non,.sl (qwu n s r r2 s2 r3 r4 s3 r5 r6 k k2) .non],[.str (qxu n s r r2 s2 r3 r4 s3 r5 r6 k k2),.sl (qxh n s r r2 s2 r3 r4 s3 r5 r6 k k2) .full,.sl (qwH n s r r2 s2 r3 r4 s3 r5 r6 k k2) .full],[.str (qtd n s r r2 s2 r3 r4 s3 r5 r6 k k2),.sl (qus n s r r2 s2 r3 r4 s3 r5 r6 k k2) (.tok 0),.sl (qtR n s r r2 s2 r3 r4 s3 r5 r6 k k2) (.tok 1)]],[((qB3 n s r r2 s2 r3 r4 s3 r5 r6 k k2),2,101),((qxW n s r r2 s2 r3 r4 s3 r5 r6 k k2),3,103)],[55,55,55]⟩)
noncomputable def qly:List PV→Store→Tr (PExit × List PV × Store) | [.ptr 0 0,.ptr 1 0,.ptr 2 0,.int .i64 n],⟨[[.str s,.sl r .non,.sl r2 .non],[.str s2,.sl r3 .full,.sl r4 .full],[.str s3,.sl r5 (.tok 0),.sl r6 (.tok 1)]],[(k,2,101),(k2,3,103)],[55,55,55]⟩=>.ite (qug n s r r2 s2 r3 r4 s3 r5 r6 k k2) (.ret ((.exit 2),[.ptr 1 0,.ptr 2 0],⟨[[.str (qD5 n s r r2 s2 r3 r4 s3 r5 r6 k k2),.sl (qD9 n s r r2 s2 r3 r4 s3 r5 r6 k k2) .non,.sl (qwu n s r r2 s2 r3 r4 s3 r5 r6 k k2) .non],[.str (qxu n s r r2 s2 r3 r4 s3 r5 r6 k k2),.sl (qxh n s r r2 s2 r3 r4 s3 r5 r6 k k2) .full,.sl (qwH n s r r2 s2 r3 r4 s3 r5 r6 k k2) .full],[.str (qtd n s r r2 s2 r3 r4 s3 r5 r6 k k2),.sl (qus n s r r2 s2 r3 r4 s3 r5 r6 k k2) (.tok 0),.sl (qtR n s r r2 s2 r3 r4 s3 r5 r6 k k2) (.tok 1)]],[((qB3 n s r r2 s2 r3 r4 s3 r5 r6 k k2),2,101),((qxW n s r r2 s2 r3 r4 s3 r5 r6 k k2),3,103)],[55,55,55]⟩)) (.fail) | _,_=>.fail
theorem qKa:∀ vs σ r,(qly vs σ).run=some r→qjG vs σ=some r:=by
 intro vs σ r h
 unfold qly at h
 split at h
 ·exact qai h fun h=>by cases h
 ·cases h
theorem qBt (gl:Gl):∀ fr σ e fr' σ',(orc qzx qly fr σ).run=some (e,fr',σ')→LDoes Tryz.prog gl qzT fr σ e fr' σ':=qcs qav (qxT gl ) qah (L:=qxr) (qae (by kernel_rfl)) (by kernel_rfl) qKa
noncomputable def qKx:LpsT:=fun r fr σ=>bif Nat.beq r 3 then orc qzU qmd fr σ else bif Nat.beq r 7 then orc qzx qly fr σ else .fail
noncomputable def qDl (v:List UInt8) (v2:List (List PV)) (v3:List (List PV)):Tr PV:=.ite (qlr v) (.ite (qsS 0 v v2 v3 [] [] [] (tx_s v) [] [] 0 0) (.ite (qug 0 (qpb 0 v v2 v3 [] [] [] (tx_s v) [] [] 0 0) (qq1 0 v v2 v3 [] [] [] (tx_s v) [] [] 0 0) (qkG 0 v v2 v3 [] [] [] (tx_s v) [] [] 0 0) (qkn 0 v v2 v3 [] [] [] (tx_s v) [] [] 0 0) (qkN 0 v v2 v3 [] [] [] (tx_s v) [] [] 0 0) (qkF 0 v v2 v3 [] [] [] (tx_s v) [] [] 0 0) (qkc 0 v v2 v3 [] [] [] (tx_s v) [] [] 0 0) (qkj 0 v v2 v3 [] [] [] (tx_s v) [] [] 0 0) (qkx 0 v v2 v3 [] [] [] (tx_s v) [] [] 0 0) (qpL 0 v v2 v3 [] [] [] (tx_s v) [] [] 0 0) (qkO 0 v v2 v3 [] [] [] (tx_s v) [] [] 0 0)) (.ret (.agg [.str (qtd 0 (qpb 0 v v2 v3 [] [] [] (tx_s v) [] [] 0 0) (qq1 0 v v2 v3 [] [] [] (tx_s v) [] [] 0 0) (qkG 0 v v2 v3 [] [] [] (tx_s v) [] [] 0 0) (qkn 0 v v2 v3 [] [] [] (tx_s v) [] [] 0 0) (qkN 0 v v2 v3 [] [] [] (tx_s v) [] [] 0 0) (qkF 0 v v2 v3 [] [] [] (tx_s v) [] [] 0 0) (qkc 0 v v2 v3 [] [] [] (tx_s v) [] [] 0 0) (qkj 0 v v2 v3 [] [] [] (tx_s v) [] [] 0 0) (qkx 0 v v2 v3 [] [] [] (tx_s v) [] [] 0 0) (qpL 0 v v2 v3 [] [] [] (tx_s v) [] [] 0 0) (qkO 0 v v2 v3 [] [] [] (tx_s v) [] [] 0 0)),.sl (qb5 (qus 0 (qpb 0 v v2 v3 [] [] [] (tx_s v) [] [] 0 0) (qq1 0 v v2 v3 [] [] [] (tx_s v) [] [] 0 0) (qkG 0 v v2 v3 [] [] [] (tx_s v) [] [] 0 0) (qkn 0 v v2 v3 [] [] [] (tx_s v) [] [] 0 0) (qkN 0 v v2 v3 [] [] [] (tx_s v) [] [] 0 0) (qkF 0 v v2 v3 [] [] [] (tx_s v) [] [] 0 0) (qkc 0 v v2 v3 [] [] [] (tx_s v) [] [] 0 0) (qkj 0 v v2 v3 [] [] [] (tx_s v) [] [] 0 0) (qkx 0 v v2 v3 [] [] [] (tx_s v) [] [] 0 0) (qpL 0 v v2 v3 [] [] [] (tx_s v) [] [] 0 0) (qkO 0 v v2 v3 [] [] [] (tx_s v) [] [] 0 0))) .non,.sl (qb5 (qtR 0 (qpb 0 v v2 v3 [] [] [] (tx_s v) [] [] 0 0) (qq1 0 v v2 v3 [] [] [] (tx_s v) [] [] 0 0) (qkG 0 v v2 v3 [] [] [] (tx_s v) [] [] 0 0)
 (qkn 0 v v2 v3 [] [] [] (tx_s v) [] [] 0 0) (qkN 0 v v2 v3 [] [] [] (tx_s v) [] [] 0 0) (qkF 0 v v2 v3 [] [] [] (tx_s v) [] [] 0 0) (qkc 0 v v2 v3 [] [] [] (tx_s v) [] [] 0 0) (qkj 0 v v2 v3 [] [] [] (tx_s v) [] [] 0 0) (qkx 0 v v2 v3 [] [] [] (tx_s v) [] [] 0 0) (qpL 0 v v2 v3 [] [] [] (tx_s v) [] [] 0 0) (qkO 0 v v2 v3 [] [] [] (tx_s v) [] [] 0 0))) .non])) .fail) .fail) .fail
theorem qM0 (v:List UInt8) (v2:List (List PV)) (v3:List (List PV)):(tcall tbT qxV qKx Tryz.f25 [.agg [.str v,.sl v2 .non,.sl v3 .non]]).flat=qDl v v2 v3:=by kernel_rfl
noncomputable def qAI (v:List UInt8) (v2:List (List PV)) (v3:List (List PV)):Option PV:=(qDl v v2 v3).run
noncomputable def qpA (v:List UInt8) (v2:List (List PV)) (v3:List (List PV)):List UInt8:=(gStr (gAt (gCs (gVal (qAI v v2 v3))) 0))
noncomputable def qq4 (v:List UInt8) (v2:List (List PV)) (v3:List (List PV)):List (List PV):=(gRow (gAt (gCs (gVal (qAI v v2 v3))) 1))
noncomputable def qic (v:List UInt8) (v2:List (List PV)) (v3:List (List PV)):List (List PV):=(gRow (gAt (gCs (gVal (qAI v v2 v3))) 2))
noncomputable def qki (v:List UInt8) (v2:List (List PV)) (v3:List (List PV)):Bool:=isW (qAI v v2 v3) (.agg [.str (qpA v v2 v3),.sl (qq4 v v2 v3) .non,.sl (qic v v2 v3) .non])
noncomputable def qIS:List PV→Tr PV | [.agg [.str v,.sl v2 .non,.sl v3 .non]]=>.ite (qki v v2 v3) (.ret (.agg [.str (qpA v v2 v3),.sl (qq4 v v2 v3) .non,.sl (qic v v2 v3) .non])) (.fail) | _=>.fail
theorem qKT (gl:Gl):SimP Tryz.prog gl 25 fun args=>(qIS args).run:=by
 refine SimP.of_flat (G:=qxV) (L:=qKx) qav (qxT gl ) qah  Tryz.func25 rfl (by rfl) (by kernel_rfl) (qbg (L:=lps qKx) [(3,qzi),(7,qzT)] (by kernel_rfl) (List.forall_mem_cons.2 ⟨fun fr σ e fr' σ' h=>qEg gl  fr σ e fr' σ' h,(List.forall_mem_cons.2 ⟨fun fr σ e fr' σ' h=>qBt gl  fr σ e fr' σ' h,(List.forall_mem_nil _)⟩)⟩)) ?_
 intro args x h
 unfold qIS at h
 split at h
 ·exact (congrArg Tr.run (qM0 _ _ _)).trans (qai h fun h=>by cases h)
 ·cases h
noncomputable def qdr:GamT:=ofL [(23,.pure qwP),(24,.pure qxx),(25,.pure qIS),(qe3,.hint [(3,0,3,51),(3,1,3,55),(3,2,3,48)])]
theorem qf5 (gl:Gl):qaR Tryz.prog gl (gam qdr):=(qac (qEd gl) (qac (qE1 gl) (qac (qKT gl) (qbS (K:=.hint [(3,0,3,51),(3,1,3,55),(3,2,3,48)]) trivial qag))))
noncomputable def qhe:Code:=qeP Tryz.f35 3
noncomputable def qg2:Code:=qeP Tryz.f35 7
noncomputable def qhn:Code:=qeP Tryz.f35 11
def qhW:LI:=⟨74,[1,2,3,4],fun e=>match e with | .exit 0=>[1,2,3] | _=>[],true⟩
noncomputable def qh5:LpsT:=fun r fr σ=>.fail
noncomputable def qcf (vs:List PV) (σ:Store):Option (PExit × List PV × Store):=lval (lstep tbT qdr qh5 qhe qhW) vs σ
noncomputable def qeO (n:Int) (r:List (List PV)) (r2:List (List PV)) (r3:List (List PV)) (r4:List (List PV)) (r5:List (List PV)) (r6:List (List PV)) (r7:List (List PV)) (r8:List (List PV)) (r9:List (List PV)) (k:Nat) (k2:Nat) (k3:Nat):Tr LR:=.ite (iLt n (xLen r)) (.ite (iLt n 12) (.ite (qaw n) (.ite (qbM [.str [],.bool false,.sl [] .full] r (nNat n)) (.ite (qfN (xStr r (nNat n) 0) (qcm r (nNat n) 1) (qaa (xRow r (nNat n) 2))) (.ite (qaP r7 [[.str (qfu (xStr r (nNat n) 0) (qcm r (nNat n) 1) (qaa (xRow r (nNat n) 2))),.bool (qfF (xStr r (nNat n) 0) (qcm r (nNat n) 1) (qaa (xRow r (nNat n) 2))),.sl (qfk (xStr r (nNat n) 0) (qcm r (nNat n) 1) (qaa (xRow r (nNat n) 2))) .non]] 48) (.ite (qaO [[.str (qfu (xStr r (nNat n) 0) (qcm r (nNat n) 1) (qaa (xRow r (nNat n) 2))),.bool (qfF (xStr r (nNat n) 0) (qcm r (nNat n) 1) (qaa (xRow r (nNat n) 2))),.sl (qfk (xStr r (nNat n) 0) (qcm r (nNat n) 1) (qaa (xRow r (nNat n) 2))) .non]] 3) (.ite (qaC r7 3) (.ite (nEq k (nXs r7)) (.ret (.next [.ptr 0 0,.ptr 1 0,.ptr 2 0,.int .i64 (iAdd .i64 n 1)] (Store.mk [[.sl r .non,.sl r2 .non,.sl r3 .non],[.sl r4 .full,.sl r5 .full,.sl r6 .full],[.sl (xApp r7 [[.str (qfu (xStr r (nNat n) 0) (qcm r (nNat n) 1) (qaa (xRow r (nNat n) 2))),.bool (qfF (xStr r (nNat n) 0) (qcm r (nNat n) 1) (qaa (xRow r (nNat n) 2))),.sl (qfk (xStr r (nNat n) 0) (qcm r (nNat n) 1) (qaa (xRow r (nNat n) 2))) .non]]) (.tok 0),.sl r8 (.tok 1),.sl r9 (.tok 2)]] [(nXs (xApp r7 [[.str (qfu (xStr r (nNat n) 0) (qcm r (nNat n) 1) (qaa (xRow r (nNat n) 2))),.bool (qfF (xStr r (nNat n) 0) (qcm r (nNat n) 1) (qaa (xRow r (nNat n) 2))),.sl (qfk (xStr r (nNat n) 0) (qcm r (nNat n) 1) (qaa (xRow r (nNat n) 2))) .non]]),3,51),(k2,3,55),(k3,3,48)] [71,71,71]))) .fail) .fail) .fail) .fail) .fail) .fail) .fail) (.ret
 (.out (.exit 0) [.ptr 0 0,.ptr 1 0,.ptr 2 0] (Store.mk [[.sl r .non,.sl r2 .non,.sl r3 .non],[.sl r4 .full,.sl r5 .full,.sl r6 .full],[.sl r7 (.tok 0),.sl r8 (.tok 1),.sl r9 (.tok 2)]] [(k,3,51),(k2,3,55),(k3,3,48)] [71,71,71])))) (.ret (.out (.exit 0) [.ptr 0 0,.ptr 1 0,.ptr 2 0] (Store.mk [[.sl r .non,.sl r2 .non,.sl r3 .non],[.sl r4 .full,.sl r5 .full,.sl r6 .full],[.sl r7 (.tok 0),.sl r8 (.tok 1),.sl r9 (.tok 2)]] [(k,3,51),(k2,3,55),(k3,3,48)] [71,71,71])))
theorem qxH (n:Int) (r:List (List PV)) (r2:List (List PV)) (r3:List (List PV)) (r4:List (List PV)) (r5:List (List PV)) (r6:List (List PV)) (r7:List (List PV)) (r8:List (List PV)) (r9:List (List PV)) (k:Nat) (k2:Nat) (k3:Nat):lstep tbT qdr qh5 qhe qhW [.ptr 0 0,.ptr 1 0,.ptr 2 0,.int .i64 n] ⟨[[.sl r .non,.sl r2 .non,.sl r3 .non],[.sl r4 .full,.sl r5 .full,.sl r6 .full],[.sl r7 (.tok 0),.sl r8 (.tok 1),.sl r9 (.tok 2)]],[(k,3,51),(k2,3,55),(k3,3,48)],[71,71,71]⟩=qeO n r r2 r3 r4 r5 r6 r7 r8 r9 k k2 k3:=by kernel_rfl
theorem qpl (n:Int) (r:List (List PV)) (r2:List (List PV)) (r3:List (List PV)) (r4:List (List PV)) (r5:List (List PV)) (r6:List (List PV)) (r7:List (List PV)) (r8:List (List PV)) (r9:List (List PV)) (k:Nat) (k2:Nat) (k3:Nat):qcf [.ptr 0 0,.ptr 1 0,.ptr 2 0,.int .i64 n] ⟨[[.sl r .non,.sl r2 .non,.sl r3 .non],[.sl r4 .full,.sl r5 .full,.sl r6 .full],[.sl r7 (.tok 0),.sl r8 (.tok 1),.sl r9 (.tok 2)]],[(k,3,51),(k2,3,55),(k3,3,48)],[71,71,71]⟩=lnext qcf (qeO n r r2 r3 r4 r5 r6 r7 r8 r9 k k2 k3).run:=by unfold qcf; rw [qbK,qxH]
noncomputable def qbN (n:Int) (r:List (List PV)) (r2:List (List PV)) (r3:List (List PV)) (r4:List (List PV)) (r5:List (List PV)) (r6:List (List PV)) (r7:List (List PV)) (r8:List (List PV)) (r9:List (List PV)) (k:Nat) (k2:Nat) (k3:Nat):Option (PExit × List PV × Store):=qcf [.ptr 0 0,.ptr 1 0,.ptr 2 0,.int .i64 n] ⟨[[.sl r .non,.sl r2 .non,.sl r3 .non],[.sl r4 .full,.sl r5 .full,.sl r6 .full],[.sl r7 (.tok 0),.sl r8 (.tok 1),.sl r9 (.tok 2)]],[(k,3,51),(k2,3,55),(k3,3,48)],[71,71,71]⟩
noncomputable def qau (n:Int) (r:List (List PV)) (r2:List (List PV)) (r3:List (List PV)) (r4:List (List PV)) (r5:List (List PV)) (r6:List (List PV)) (r7:List (List PV)) (r8:List (List PV)) (r9:List (List PV)) (k:Nat) (k2:Nat) (k3:Nat):List (List PV):=(gRow (gAt (gObj (qbN n r r2 r3 r4 r5 r6 r7 r8 r9 k k2 k3) 0) 0))
noncomputable def qak (n:Int) (r:List (List PV)) (r2:List (List PV)) (r3:List (List PV)) (r4:List (List PV)) (r5:List (List PV)) (r6:List (List PV)) (r7:List (List PV)) (r8:List (List PV)) (r9:List (List PV)) (k:Nat) (k2:Nat) (k3:Nat):List (List PV):=(gRow (gAt (gObj (qbN n r r2 r3 r4 r5 r6 r7 r8 r9 k k2 k3) 0) 1))
noncomputable def qar (n:Int) (r:List (List PV)) (r2:List (List PV)) (r3:List (List PV)) (r4:List (List PV)) (r5:List (List PV)) (r6:List (List PV)) (r7:List (List PV)) (r8:List (List PV)) (r9:List (List PV)) (k:Nat) (k2:Nat) (k3:Nat):List (List PV):=(gRow (gAt (gObj (qbN n r r2 r3 r4 r5 r6 r7 r8 r9 k k2 k3) 0) 2))
noncomputable def qan (n:Int) (r:List (List PV)) (r2:List (List PV)) (r3:List (List PV)) (r4:List (List PV)) (r5:List (List PV)) (r6:List (List PV)) (r7:List (List PV)) (r8:List (List PV)) (r9:List (List PV)) (k:Nat) (k2:Nat) (k3:Nat):List (List PV):=(gRow (gAt (gObj (qbN n r r2 r3 r4 r5 r6 r7 r8 r9 k k2 k3) 1) 0))
noncomputable def qao (n:Int) (r:List (List PV)) (r2:List (List PV)) (r3:List (List PV)) (r4:List (List PV)) (r5:List (List PV)) (r6:List (List PV)) (r7:List (List PV)) (r8:List (List PV)) (r9:List (List PV)) (k:Nat) (k2:Nat) (k3:Nat):List (List PV):=(gRow (gAt (gObj (qbN n r r2 r3 r4 r5 r6 r7 r8 r9 k k2 k3) 1) 1))
noncomputable def qam (n:Int) (r:List (List PV)) (r2:List (List PV)) (r3:List (List PV)) (r4:List (List PV)) (r5:List (List PV)) (r6:List (List PV)) (r7:List (List PV)) (r8:List (List PV)) (r9:List (List PV)) (k:Nat) (k2:Nat) (k3:Nat):List (List PV):=(gRow (gAt (gObj (qbN n r r2 r3 r4 r5 r6 r7 r8 r9 k k2 k3) 1) 2))
noncomputable def qal (n:Int) (r:List (List PV)) (r2:List (List PV)) (r3:List (List PV)) (r4:List (List PV)) (r5:List (List PV)) (r6:List (List PV)) (r7:List (List PV)) (r8:List (List PV)) (r9:List (List PV)) (k:Nat) (k2:Nat) (k3:Nat):List (List PV):=(gRow (gAt (gObj (qbN n r r2 r3 r4 r5 r6 r7 r8 r9 k k2 k3) 2) 0))
noncomputable def qaq (n:Int) (r:List (List PV)) (r2:List (List PV)) (r3:List (List PV)) (r4:List (List PV)) (r5:List (List PV)) (r6:List (List PV)) (r7:List (List PV)) (r8:List (List PV)) (r9:List (List PV)) (k:Nat) (k2:Nat) (k3:Nat):List (List PV):=(gRow (gAt (gObj (qbN n r r2 r3 r4 r5 r6 r7 r8 r9 k k2 k3) 2) 1))
noncomputable def qaj (n:Int) (r:List (List PV)) (r2:List (List PV)) (r3:List (List PV)) (r4:List (List PV)) (r5:List (List PV)) (r6:List (List PV)) (r7:List (List PV)) (r8:List (List PV)) (r9:List (List PV)) (k:Nat) (k2:Nat) (k3:Nat):List (List PV):=(gRow (gAt (gObj (qbN n r r2 r3 r4 r5 r6 r7 r8 r9 k k2 k3) 2) 2))
noncomputable def qat (n:Int) (r:List (List PV)) (r2:List (List PV)) (r3:List (List PV)) (r4:List (List PV)) (r5:List (List PV)) (r6:List (List PV)) (r7:List (List PV)) (r8:List (List PV)) (r9:List (List PV)) (k:Nat) (k2:Nat) (k3:Nat):Nat:=(gTok (qbN n r r2 r3 r4 r5 r6 r7 r8 r9 k k2 k3) 0)
noncomputable def qas (n:Int) (r:List (List PV)) (r2:List (List PV)) (r3:List (List PV)) (r4:List (List PV)) (r5:List (List PV)) (r6:List (List PV)) (r7:List (List PV)) (r8:List (List PV)) (r9:List (List PV)) (k:Nat) (k2:Nat) (k3:Nat):Nat:=(gTok (qbN n r r2 r3 r4 r5 r6 r7 r8 r9 k k2 k3) 1)
noncomputable def qap (n:Int) (r:List (List PV)) (r2:List (List PV)) (r3:List (List PV)) (r4:List (List PV)) (r5:List (List PV)) (r6:List (List PV)) (r7:List (List PV)) (r8:List (List PV)) (r9:List (List PV)) (k:Nat) (k2:Nat) (k3:Nat):Nat:=(gTok (qbN n r r2 r3 r4 r5 r6 r7 r8 r9 k k2 k3) 2)
noncomputable def qhJ (n:Int) (r:List (List PV)) (r2:List (List PV)) (r3:List (List PV)) (r4:List (List PV)) (r5:List (List PV)) (r6:List (List PV)) (r7:List (List PV)) (r8:List (List PV)) (r9:List (List PV)) (k:Nat) (k2:Nat) (k3:Nat):Bool:=isW (qbN n r r2 r3 r4 r5 r6 r7 r8 r9 k k2 k3) ((.exit 0),[.ptr 0 0,.ptr 1 0,.ptr 2 0],⟨[[.sl (qau n r r2 r3 r4 r5 r6 r7 r8 r9 k k2 k3) .non,.sl (qak n r r2 r3 r4 r5 r6 r7 r8 r9 k k2 k3) .non,.sl (qar n r r2 r3 r4 r5 r6 r7 r8 r9 k k2 k3) .non],[.sl (qan n r r2 r3 r4 r5 r6 r7 r8 r9 k k2 k3) .full,.sl (qao n r r2 r3 r4 r5 r6 r7 r8 r9 k k2 k3) .full,.sl (qam n r r2 r3 r4 r5 r6 r7 r8 r9 k k2 k3) .full],[.sl (qal n r r2 r3 r4 r5 r6 r7 r8 r9 k k2 k3) (.tok 0),.sl (qaq n r r2 r3 r4 r5 r6 r7 r8 r9 k k2 k3) (.tok 1),.sl (qaj n r r2 r3 r4 r5 r6 r7 r8 r9 k k2 k3) (.tok 2)]],[((qat n r r2 r3 r4 r5 r6 r7 r8 r9 k k2 k3),3,51),((qas n r r2 r3 r4 r5 r6 r7 r8 r9 k k2 k3),3,55),((qap n r r2 r3 r4 r5 r6 r7 r8 r9 k k2 k3),3,48)],[71,71,71]⟩)
noncomputable def qeJ:List PV→Store→Tr (PExit × List PV × Store) | [.ptr 0 0,.ptr 1 0,.ptr 2 0,.int .i64 n],⟨[[.sl r .non,.sl r2 .non,.sl r3 .non],[.sl r4 .full,.sl r5 .full,.sl r6 .full],[.sl r7 (.tok 0),.sl r8 (.tok 1),.sl r9 (.tok 2)]],[(k,3,51),(k2,3,55),(k3,3,48)],[71,71,71]⟩=>.ite (qhJ n r r2 r3 r4 r5 r6 r7 r8 r9 k k2 k3) (.ret ((.exit 0),[.ptr 0 0,.ptr 1 0,.ptr 2 0],⟨[[.sl (qau n r r2 r3 r4 r5 r6 r7 r8 r9 k k2 k3) .non,.sl (qak n r r2 r3 r4 r5 r6 r7 r8 r9 k k2 k3) .non,.sl (qar n r r2 r3 r4 r5 r6 r7 r8 r9 k k2 k3) .non],[.sl (qan n r r2 r3 r4 r5 r6 r7 r8 r9 k k2 k3) .full,.sl (qao n r r2 r3 r4 r5 r6 r7 r8 r9 k k2 k3) .full,.sl (qam n r r2 r3 r4 r5 r6 r7 r8 r9 k k2 k3) .full],[.sl (qal n r r2 r3 r4 r5 r6 r7 r8 r9 k k2 k3) (.tok 0),.sl (qaq n r r2 r3 r4 r5 r6 r7 r8 r9 k k2 k3) (.tok 1),.sl (qaj n r r2 r3 r4 r5 r6 r7 r8 r9 k k2 k3) (.tok 2)]],[((qat n r r2 r3 r4 r5 r6 r7 r8 r9 k k2 k3),3,51),((qas n r r2 r3 r4 r5 r6 r7 r8 r9 k k2 k3),3,55),((qap n r r2 r3 r4 r5 r6 r7 r8 r9 k k2 k3),3,48)],[71,71,71]⟩)) (.fail) | _,_=>.fail
theorem qvM:∀ vs σ r,(qeJ vs σ).run=some r→qcf vs σ=some r:=by
 intro vs σ r h
 unfold qeJ at h
 split at h
 ·exact qai h fun h=>by cases h
 ·cases h
theorem qrx (gl:Gl):∀ fr σ e fr' σ',(orc qhW qeJ fr σ).run=some (e,fr',σ')→LDoes Tryz.prog gl qhe fr σ e fr' σ':=qcs qav (qf5 gl ) qah (L:=qh5) (qae (by kernel_rfl)) (by kernel_rfl) qvM
def qhO:LI:=⟨74,[1,2,3,5],fun e=>match e with | .exit 2=>[1,2,3] | _=>[],true⟩
noncomputable def qh8:LpsT:=fun r fr σ=>.fail
noncomputable def qcg (vs:List PV) (σ:Store):Option (PExit × List PV × Store):=lval (lstep tbT qdr qh8 qg2 qhO) vs σ
noncomputable def qeR (n:Int) (r:List (List PV)) (r2:List (List PV)) (r3:List (List PV)) (r4:List (List PV)) (r5:List (List PV)) (r6:List (List PV)) (r7:List (List PV)) (r8:List (List PV)) (r9:List (List PV)) (k:Nat) (k2:Nat) (k3:Nat):Tr LR:=.ite (iLt n (xLen r2)) (.ite (iLt n 8) (.ite (qaw n) (.ite (qbM [.str [],.sl [] .full,.sl [] .full] r2 (nNat n)) (.ite (qki (xStr r2 (nNat n) 0) (qaa (xRow r2 (nNat n) 1)) (qaa (xRow r2 (nNat n) 2))) (.ite (qaP r8 [[.str (qpA (xStr r2 (nNat n) 0) (qaa (xRow r2 (nNat n) 1)) (qaa (xRow r2 (nNat n) 2))),.sl (qq4 (xStr r2 (nNat n) 0) (qaa (xRow r2 (nNat n) 1)) (qaa (xRow r2 (nNat n) 2))) .non,.sl (qic (xStr r2 (nNat n) 0) (qaa (xRow r2 (nNat n) 1)) (qaa (xRow r2 (nNat n) 2))) .non]] 64) (.ite (qaO [[.str (qpA (xStr r2 (nNat n) 0) (qaa (xRow r2 (nNat n) 1)) (qaa (xRow r2 (nNat n) 2))),.sl (qq4 (xStr r2 (nNat n) 0) (qaa (xRow r2 (nNat n) 1)) (qaa (xRow r2 (nNat n) 2))) .non,.sl (qic (xStr r2 (nNat n) 0) (qaa (xRow r2 (nNat n) 1)) (qaa (xRow r2 (nNat n) 2))) .non]] 3) (.ite (qaC r8 3) (.ite (nEq k2 (nXs r8)) (.ret (.next [.ptr 0 0,.ptr 1 0,.ptr 2 0,.int .i64 (iAdd .i64 n 1)] (Store.mk [[.sl r .non,.sl r2 .non,.sl r3 .non],[.sl r4 .full,.sl r5 .full,.sl r6 .full],[.sl r7 (.tok 0),.sl (xApp r8 [[.str (qpA (xStr r2 (nNat n) 0) (qaa (xRow r2 (nNat n) 1)) (qaa (xRow r2 (nNat n) 2))),.sl (qq4 (xStr r2 (nNat n) 0) (qaa (xRow r2 (nNat n) 1)) (qaa (xRow r2 (nNat n) 2))) .non,.sl (qic (xStr r2 (nNat n) 0) (qaa (xRow r2 (nNat n) 1)) (qaa (xRow r2 (nNat n) 2))) .non]]) (.tok 1),.sl r9 (.tok 2)]] [(k,3,51),(nXs (xApp r8 [[.str (qpA (xStr r2 (nNat n) 0) (qaa (xRow r2 (nNat n) 1)) (qaa (xRow r2 (nNat n) 2))),.sl (qq4 (xStr r2 (nNat n) 0) (qaa (xRow r2 (nNat n) 1)) (qaa (xRow r2 (nNat n) 2))) .non,
 .sl (qic (xStr r2 (nNat n) 0) (qaa (xRow r2 (nNat n) 1)) (qaa (xRow r2 (nNat n) 2))) .non]]),3,55),(k3,3,48)] [71,71,71]))) .fail) .fail) .fail) .fail) .fail) .fail) .fail) (.ret (.out (.exit 2) [.ptr 0 0,.ptr 1 0,.ptr 2 0] (Store.mk [[.sl r .non,.sl r2 .non,.sl r3 .non],[.sl r4 .full,.sl r5 .full,.sl r6 .full],[.sl r7 (.tok 0),.sl r8 (.tok 1),.sl r9 (.tok 2)]] [(k,3,51),(k2,3,55),(k3,3,48)] [71,71,71])))) (.ret (.out (.exit 2) [.ptr 0 0,.ptr 1 0,.ptr 2 0] (Store.mk [[.sl r .non,.sl r2 .non,.sl r3 .non],[.sl r4 .full,.sl r5 .full,.sl r6 .full],[.sl r7 (.tok 0),.sl r8 (.tok 1),.sl r9 (.tok 2)]] [(k,3,51),(k2,3,55),(k3,3,48)] [71,71,71])))
theorem qwF (n:Int) (r:List (List PV)) (r2:List (List PV)) (r3:List (List PV)) (r4:List (List PV)) (r5:List (List PV)) (r6:List (List PV)) (r7:List (List PV)) (r8:List (List PV)) (r9:List (List PV)) (k:Nat) (k2:Nat) (k3:Nat):lstep tbT qdr qh8 qg2 qhO [.ptr 0 0,.ptr 1 0,.ptr 2 0,.int .i64 n] ⟨[[.sl r .non,.sl r2 .non,.sl r3 .non],[.sl r4 .full,.sl r5 .full,.sl r6 .full],[.sl r7 (.tok 0),.sl r8 (.tok 1),.sl r9 (.tok 2)]],[(k,3,51),(k2,3,55),(k3,3,48)],[71,71,71]⟩=qeR n r r2 r3 r4 r5 r6 r7 r8 r9 k k2 k3:=by kernel_rfl
theorem qqC (n:Int) (r:List (List PV)) (r2:List (List PV)) (r3:List (List PV)) (r4:List (List PV)) (r5:List (List PV)) (r6:List (List PV)) (r7:List (List PV)) (r8:List (List PV)) (r9:List (List PV)) (k:Nat) (k2:Nat) (k3:Nat):qcg [.ptr 0 0,.ptr 1 0,.ptr 2 0,.int .i64 n] ⟨[[.sl r .non,.sl r2 .non,.sl r3 .non],[.sl r4 .full,.sl r5 .full,.sl r6 .full],[.sl r7 (.tok 0),.sl r8 (.tok 1),.sl r9 (.tok 2)]],[(k,3,51),(k2,3,55),(k3,3,48)],[71,71,71]⟩=lnext qcg (qeR n r r2 r3 r4 r5 r6 r7 r8 r9 k k2 k3).run:=by unfold qcg; rw [qbK,qwF]
noncomputable def qbL (n:Int) (r:List (List PV)) (r2:List (List PV)) (r3:List (List PV)) (r4:List (List PV)) (r5:List (List PV)) (r6:List (List PV)) (r7:List (List PV)) (r8:List (List PV)) (r9:List (List PV)) (k:Nat) (k2:Nat) (k3:Nat):Option (PExit × List PV × Store):=qcg [.ptr 0 0,.ptr 1 0,.ptr 2 0,.int .i64 n] ⟨[[.sl r .non,.sl r2 .non,.sl r3 .non],[.sl r4 .full,.sl r5 .full,.sl r6 .full],[.sl r7 (.tok 0),.sl r8 (.tok 1),.sl r9 (.tok 2)]],[(k,3,51),(k2,3,55),(k3,3,48)],[71,71,71]⟩
noncomputable def qdH (n:Int) (r:List (List PV)) (r2:List (List PV)) (r3:List (List PV)) (r4:List (List PV)) (r5:List (List PV)) (r6:List (List PV)) (r7:List (List PV)) (r8:List (List PV)) (r9:List (List PV)) (k:Nat) (k2:Nat) (k3:Nat):List (List PV):=(gRow (gAt (gObj (qbL n r r2 r3 r4 r5 r6 r7 r8 r9 k k2 k3) 0) 0))
noncomputable def qdi (n:Int) (r:List (List PV)) (r2:List (List PV)) (r3:List (List PV)) (r4:List (List PV)) (r5:List (List PV)) (r6:List (List PV)) (r7:List (List PV)) (r8:List (List PV)) (r9:List (List PV)) (k:Nat) (k2:Nat) (k3:Nat):List (List PV):=(gRow (gAt (gObj (qbL n r r2 r3 r4 r5 r6 r7 r8 r9 k k2 k3) 0) 1))
noncomputable def qc4 (n:Int) (r:List (List PV)) (r2:List (List PV)) (r3:List (List PV)) (r4:List (List PV)) (r5:List (List PV)) (r6:List (List PV)) (r7:List (List PV)) (r8:List (List PV)) (r9:List (List PV)) (k:Nat) (k2:Nat) (k3:Nat):List (List PV):=(gRow (gAt (gObj (qbL n r r2 r3 r4 r5 r6 r7 r8 r9 k k2 k3) 0) 2))
noncomputable def qcS (n:Int) (r:List (List PV)) (r2:List (List PV)) (r3:List (List PV)) (r4:List (List PV)) (r5:List (List PV)) (r6:List (List PV)) (r7:List (List PV)) (r8:List (List PV)) (r9:List (List PV)) (k:Nat) (k2:Nat) (k3:Nat):List (List PV):=(gRow (gAt (gObj (qbL n r r2 r3 r4 r5 r6 r7 r8 r9 k k2 k3) 1) 0))
noncomputable def qcW (n:Int) (r:List (List PV)) (r2:List (List PV)) (r3:List (List PV)) (r4:List (List PV)) (r5:List (List PV)) (r6:List (List PV)) (r7:List (List PV)) (r8:List (List PV)) (r9:List (List PV)) (k:Nat) (k2:Nat) (k3:Nat):List (List PV):=(gRow (gAt (gObj (qbL n r r2 r3 r4 r5 r6 r7 r8 r9 k k2 k3) 1) 1))
noncomputable def qc9 (n:Int) (r:List (List PV)) (r2:List (List PV)) (r3:List (List PV)) (r4:List (List PV)) (r5:List (List PV)) (r6:List (List PV)) (r7:List (List PV)) (r8:List (List PV)) (r9:List (List PV)) (k:Nat) (k2:Nat) (k3:Nat):List (List PV):=(gRow (gAt (gObj (qbL n r r2 r3 r4 r5 r6 r7 r8 r9 k k2 k3) 1) 2))
noncomputable def qcU (n:Int) (r:List (List PV)) (r2:List (List PV)) (r3:List (List PV)) (r4:List (List PV)) (r5:List (List PV)) (r6:List (List PV)) (r7:List (List PV)) (r8:List (List PV)) (r9:List (List PV)) (k:Nat) (k2:Nat) (k3:Nat):List (List PV):=(gRow (gAt (gObj (qbL n r r2 r3 r4 r5 r6 r7 r8 r9 k k2 k3) 2) 0))
noncomputable def qdd (n:Int) (r:List (List PV)) (r2:List (List PV)) (r3:List (List PV)) (r4:List (List PV)) (r5:List (List PV)) (r6:List (List PV)) (r7:List (List PV)) (r8:List (List PV)) (r9:List (List PV)) (k:Nat) (k2:Nat) (k3:Nat):List (List PV):=(gRow (gAt (gObj (qbL n r r2 r3 r4 r5 r6 r7 r8 r9 k k2 k3) 2) 1))
noncomputable def qc0 (n:Int) (r:List (List PV)) (r2:List (List PV)) (r3:List (List PV)) (r4:List (List PV)) (r5:List (List PV)) (r6:List (List PV)) (r7:List (List PV)) (r8:List (List PV)) (r9:List (List PV)) (k:Nat) (k2:Nat) (k3:Nat):List (List PV):=(gRow (gAt (gObj (qbL n r r2 r3 r4 r5 r6 r7 r8 r9 k k2 k3) 2) 2))
noncomputable def qdG (n:Int) (r:List (List PV)) (r2:List (List PV)) (r3:List (List PV)) (r4:List (List PV)) (r5:List (List PV)) (r6:List (List PV)) (r7:List (List PV)) (r8:List (List PV)) (r9:List (List PV)) (k:Nat) (k2:Nat) (k3:Nat):Nat:=(gTok (qbL n r r2 r3 r4 r5 r6 r7 r8 r9 k k2 k3) 0)
noncomputable def qdk (n:Int) (r:List (List PV)) (r2:List (List PV)) (r3:List (List PV)) (r4:List (List PV)) (r5:List (List PV)) (r6:List (List PV)) (r7:List (List PV)) (r8:List (List PV)) (r9:List (List PV)) (k:Nat) (k2:Nat) (k3:Nat):Nat:=(gTok (qbL n r r2 r3 r4 r5 r6 r7 r8 r9 k k2 k3) 1)
noncomputable def qdl (n:Int) (r:List (List PV)) (r2:List (List PV)) (r3:List (List PV)) (r4:List (List PV)) (r5:List (List PV)) (r6:List (List PV)) (r7:List (List PV)) (r8:List (List PV)) (r9:List (List PV)) (k:Nat) (k2:Nat) (k3:Nat):Nat:=(gTok (qbL n r r2 r3 r4 r5 r6 r7 r8 r9 k k2 k3) 2)
noncomputable def qgV (n:Int) (r:List (List PV)) (r2:List (List PV)) (r3:List (List PV)) (r4:List (List PV)) (r5:List (List PV)) (r6:List (List PV)) (r7:List (List PV)) (r8:List (List PV)) (r9:List (List PV)) (k:Nat) (k2:Nat) (k3:Nat):Bool:=isW (qbL n r r2 r3 r4 r5 r6 r7 r8 r9 k k2 k3) ((.exit 2),[.ptr 0 0,.ptr 1 0,.ptr 2 0],⟨[[.sl (qdH n r r2 r3 r4 r5 r6 r7 r8 r9 k k2 k3) .non,.sl (qdi n r r2 r3 r4 r5 r6 r7 r8 r9 k k2 k3) .non,.sl (qc4 n r r2 r3 r4 r5 r6 r7 r8 r9 k k2 k3) .non],[.sl (qcS n r r2 r3 r4 r5 r6 r7 r8 r9 k k2 k3) .full,.sl (qcW n r r2 r3 r4 r5 r6 r7 r8 r9 k k2 k3) .full,.sl (qc9 n r r2 r3 r4 r5 r6 r7 r8 r9 k k2 k3) .full],[.sl (qcU n r r2 r3 r4 r5 r6 r7 r8 r9 k k2 k3) (.tok 0),.sl (qdd n r r2 r3 r4 r5 r6 r7 r8 r9 k k2 k3) (.tok 1),.sl (qc0 n r r2 r3 r4 r5 r6 r7 r8 r9 k k2 k3) (.tok 2)]],[((qdG n r r2 r3 r4 r5 r6 r7 r8 r9 k k2 k3),3,51),((qdk n r r2 r3 r4 r5 r6 r7 r8 r9 k k2 k3),3,55),((qdl n r r2 r3 r4 r5 r6 r7 r8 r9 k k2 k3),3,48)],[71,71,71]⟩)
noncomputable def qeN:List PV→Store→Tr (PExit × List PV × Store) | [.ptr 0 0,.ptr 1 0,.ptr 2 0,.int .i64 n],⟨[[.sl r .non,.sl r2 .non,.sl r3 .non],[.sl r4 .full,.sl r5 .full,.sl r6 .full],[.sl r7 (.tok 0),.sl r8 (.tok 1),.sl r9 (.tok 2)]],[(k,3,51),(k2,3,55),(k3,3,48)],[71,71,71]⟩=>.ite (qgV n r r2 r3 r4 r5 r6 r7 r8 r9 k k2 k3) (.ret ((.exit 2),[.ptr 0 0,.ptr 1 0,.ptr 2 0],⟨[[.sl (qdH n r r2 r3 r4 r5 r6 r7 r8 r9 k k2 k3) .non,.sl (qdi n r r2 r3 r4 r5 r6 r7 r8 r9 k k2 k3) .non,.sl (qc4 n r r2 r3 r4 r5 r6 r7 r8 r9 k k2 k3) .non],[.sl (qcS n r r2 r3 r4 r5 r6 r7 r8 r9 k k2 k3) .full,.sl (qcW n r r2 r3 r4 r5 r6 r7 r8 r9 k k2 k3) .full,.sl (qc9 n r r2 r3 r4 r5 r6 r7 r8 r9 k k2 k3) .full],[.sl (qcU n r r2 r3 r4 r5 r6 r7 r8 r9 k k2 k3) (.tok 0),.sl (qdd n r r2 r3 r4 r5 r6 r7 r8 r9 k k2 k3) (.tok 1),.sl (qc0 n r r2 r3 r4 r5 r6 r7 r8 r9 k k2 k3) (.tok 2)]],[((qdG n r r2 r3 r4 r5 r6 r7 r8 r9 k k2 k3),3,51),((qdk n r r2 r3 r4 r5 r6 r7 r8 r9 k k2 k3),3,55),((qdl n r r2 r3 r4 r5 r6 r7 r8 r9 k k2 k3),3,48)],[71,71,71]⟩)) (.fail) | _,_=>.fail
theorem quO:∀ vs σ r,(qeN vs σ).run=some r→qcg vs σ=some r:=by
 intro vs σ r h
 unfold qeN at h
 split at h
 ·exact qai h fun h=>by cases h
 ·cases h
theorem qrj (gl:Gl):∀ fr σ e fr' σ',(orc qhO qeN fr σ).run=some (e,fr',σ')→LDoes Tryz.prog gl qg2 fr σ e fr' σ':=qcs qav (qf5 gl ) qah (L:=qh8) (qae (by kernel_rfl)) (by kernel_rfl) quO
def qhx:LI:=⟨74,[1,2,3,6],fun e=>match e with | .exit 4=>[2,3] | _=>[],true⟩
noncomputable def qiy:LpsT:=fun r fr σ=>.fail
noncomputable def qce (vs:List PV) (σ:Store):Option (PExit × List PV × Store):=lval (lstep tbT qdr qiy qhn qhx) vs σ
noncomputable def qeS (n:Int) (r:List (List PV)) (r2:List (List PV)) (r3:List (List PV)) (r4:List (List PV)) (r5:List (List PV)) (r6:List (List PV)) (r7:List (List PV)) (r8:List (List PV)) (r9:List (List PV)) (k:Nat) (k2:Nat) (k3:Nat):Tr LR:=.ite (iLt n (xLen r3)) (.ite (iLt n 12) (.ite (qaw n) (.ite (qbM [.str [],.sl [] .full,.sl [] .full] r3 (nNat n)) (.ite (qfY (xStr r3 (nNat n) 0) (qaa (xRow r3 (nNat n) 1)) (qaa (xRow r3 (nNat n) 2))) (.ite (qaP r9 [[.str (qfm (xStr r3 (nNat n) 0) (qaa (xRow r3 (nNat n) 1)) (qaa (xRow r3 (nNat n) 2))),.sl (qfv (xStr r3 (nNat n) 0) (qaa (xRow r3 (nNat n) 1)) (qaa (xRow r3 (nNat n) 2))) .non,.sl (qdW (xStr r3 (nNat n) 0) (qaa (xRow r3 (nNat n) 1)) (qaa (xRow r3 (nNat n) 2))) .non]] 64) (.ite (qaO [[.str (qfm (xStr r3 (nNat n) 0) (qaa (xRow r3 (nNat n) 1)) (qaa (xRow r3 (nNat n) 2))),.sl (qfv (xStr r3 (nNat n) 0) (qaa (xRow r3 (nNat n) 1)) (qaa (xRow r3 (nNat n) 2))) .non,.sl (qdW (xStr r3 (nNat n) 0) (qaa (xRow r3 (nNat n) 1)) (qaa (xRow r3 (nNat n) 2))) .non]] 3) (.ite (qaC r9 3) (.ite (nEq k3 (nXs r9)) (.ret (.next [.ptr 0 0,.ptr 1 0,.ptr 2 0,.int .i64 (iAdd .i64 n 1)] (Store.mk [[.sl r .non,.sl r2 .non,.sl r3 .non],[.sl r4 .full,.sl r5 .full,.sl r6 .full],[.sl r7 (.tok 0),.sl r8 (.tok 1),.sl (xApp r9 [[.str (qfm (xStr r3 (nNat n) 0) (qaa (xRow r3 (nNat n) 1)) (qaa (xRow r3 (nNat n) 2))),.sl (qfv (xStr r3 (nNat n) 0) (qaa (xRow r3 (nNat n) 1)) (qaa (xRow r3 (nNat n) 2))) .non,.sl (qdW (xStr r3 (nNat n) 0) (qaa (xRow r3 (nNat n) 1)) (qaa (xRow r3 (nNat n) 2))) .non]]) (.tok 2)]] [(k,3,51),(k2,3,55),(nXs (xApp r9 [[.str (qfm (xStr r3 (nNat n) 0) (qaa (xRow r3 (nNat n) 1)) (qaa (xRow r3 (nNat n) 2))),.sl (qfv (xStr r3 (nNat n) 0) (qaa (xRow r3 (nNat n) 1)) (qaa (xRow r3 (nNat n) 2))) .non,
 .sl (qdW (xStr r3 (nNat n) 0) (qaa (xRow r3 (nNat n) 1)) (qaa (xRow r3 (nNat n) 2))) .non]]),3,48)] [71,71,71]))) .fail) .fail) .fail) .fail) .fail) .fail) .fail) (.ret (.out (.exit 4) [.ptr 1 0,.ptr 2 0] (Store.mk [[.sl r .non,.sl r2 .non,.sl r3 .non],[.sl r4 .full,.sl r5 .full,.sl r6 .full],[.sl r7 (.tok 0),.sl r8 (.tok 1),.sl r9 (.tok 2)]] [(k,3,51),(k2,3,55),(k3,3,48)] [71,71,71])))) (.ret (.out (.exit 4) [.ptr 1 0,.ptr 2 0] (Store.mk [[.sl r .non,.sl r2 .non,.sl r3 .non],[.sl r4 .full,.sl r5 .full,.sl r6 .full],[.sl r7 (.tok 0),.sl r8 (.tok 1),.sl r9 (.tok 2)]] [(k,3,51),(k2,3,55),(k3,3,48)] [71,71,71])))
theorem qwe (n:Int) (r:List (List PV)) (r2:List (List PV)) (r3:List (List PV)) (r4:List (List PV)) (r5:List (List PV)) (r6:List (List PV)) (r7:List (List PV)) (r8:List (List PV)) (r9:List (List PV)) (k:Nat) (k2:Nat) (k3:Nat):lstep tbT qdr qiy qhn qhx [.ptr 0 0,.ptr 1 0,.ptr 2 0,.int .i64 n] ⟨[[.sl r .non,.sl r2 .non,.sl r3 .non],[.sl r4 .full,.sl r5 .full,.sl r6 .full],[.sl r7 (.tok 0),.sl r8 (.tok 1),.sl r9 (.tok 2)]],[(k,3,51),(k2,3,55),(k3,3,48)],[71,71,71]⟩=qeS n r r2 r3 r4 r5 r6 r7 r8 r9 k k2 k3:=by kernel_rfl
theorem qpc (n:Int) (r:List (List PV)) (r2:List (List PV)) (r3:List (List PV)) (r4:List (List PV)) (r5:List (List PV)) (r6:List (List PV)) (r7:List (List PV)) (r8:List (List PV)) (r9:List (List PV)) (k:Nat) (k2:Nat) (k3:Nat):qce [.ptr 0 0,.ptr 1 0,.ptr 2 0,.int .i64 n] ⟨[[.sl r .non,.sl r2 .non,.sl r3 .non],[.sl r4 .full,.sl r5 .full,.sl r6 .full],[.sl r7 (.tok 0),.sl r8 (.tok 1),.sl r9 (.tok 2)]],[(k,3,51),(k2,3,55),(k3,3,48)],[71,71,71]⟩=lnext qce (qeS n r r2 r3 r4 r5 r6 r7 r8 r9 k k2 k3).run:=by unfold qce; rw [qbK,qwe]
noncomputable def qbJ (n:Int) (r:List (List PV)) (r2:List (List PV)) (r3:List (List PV)) (r4:List (List PV)) (r5:List (List PV)) (r6:List (List PV)) (r7:List (List PV)) (r8:List (List PV)) (r9:List (List PV)) (k:Nat) (k2:Nat) (k3:Nat):Option (PExit × List PV × Store):=qce [.ptr 0 0,.ptr 1 0,.ptr 2 0,.int .i64 n] ⟨[[.sl r .non,.sl r2 .non,.sl r3 .non],[.sl r4 .full,.sl r5 .full,.sl r6 .full],[.sl r7 (.tok 0),.sl r8 (.tok 1),.sl r9 (.tok 2)]],[(k,3,51),(k2,3,55),(k3,3,48)],[71,71,71]⟩
noncomputable def qkg (n:Int) (r:List (List PV)) (r2:List (List PV)) (r3:List (List PV)) (r4:List (List PV)) (r5:List (List PV)) (r6:List (List PV)) (r7:List (List PV)) (r8:List (List PV)) (r9:List (List PV)) (k:Nat) (k2:Nat) (k3:Nat):List (List PV):=(gRow (gAt (gObj (qbJ n r r2 r3 r4 r5 r6 r7 r8 r9 k k2 k3) 0) 0))
noncomputable def qij (n:Int) (r:List (List PV)) (r2:List (List PV)) (r3:List (List PV)) (r4:List (List PV)) (r5:List (List PV)) (r6:List (List PV)) (r7:List (List PV)) (r8:List (List PV)) (r9:List (List PV)) (k:Nat) (k2:Nat) (k3:Nat):List (List PV):=(gRow (gAt (gObj (qbJ n r r2 r3 r4 r5 r6 r7 r8 r9 k k2 k3) 0) 1))
noncomputable def qh7 (n:Int) (r:List (List PV)) (r2:List (List PV)) (r3:List (List PV)) (r4:List (List PV)) (r5:List (List PV)) (r6:List (List PV)) (r7:List (List PV)) (r8:List (List PV)) (r9:List (List PV)) (k:Nat) (k2:Nat) (k3:Nat):List (List PV):=(gRow (gAt (gObj (qbJ n r r2 r3 r4 r5 r6 r7 r8 r9 k k2 k3) 0) 2))
noncomputable def qil (n:Int) (r:List (List PV)) (r2:List (List PV)) (r3:List (List PV)) (r4:List (List PV)) (r5:List (List PV)) (r6:List (List PV)) (r7:List (List PV)) (r8:List (List PV)) (r9:List (List PV)) (k:Nat) (k2:Nat) (k3:Nat):List (List PV):=(gRow (gAt (gObj (qbJ n r r2 r3 r4 r5 r6 r7 r8 r9 k k2 k3) 1) 0))
noncomputable def qh6 (n:Int) (r:List (List PV)) (r2:List (List PV)) (r3:List (List PV)) (r4:List (List PV)) (r5:List (List PV)) (r6:List (List PV)) (r7:List (List PV)) (r8:List (List PV)) (r9:List (List PV)) (k:Nat) (k2:Nat) (k3:Nat):List (List PV):=(gRow (gAt (gObj (qbJ n r r2 r3 r4 r5 r6 r7 r8 r9 k k2 k3) 1) 1))
noncomputable def qh2 (n:Int) (r:List (List PV)) (r2:List (List PV)) (r3:List (List PV)) (r4:List (List PV)) (r5:List (List PV)) (r6:List (List PV)) (r7:List (List PV)) (r8:List (List PV)) (r9:List (List PV)) (k:Nat) (k2:Nat) (k3:Nat):List (List PV):=(gRow (gAt (gObj (qbJ n r r2 r3 r4 r5 r6 r7 r8 r9 k k2 k3) 1) 2))
noncomputable def qgn (n:Int) (r:List (List PV)) (r2:List (List PV)) (r3:List (List PV)) (r4:List (List PV)) (r5:List (List PV)) (r6:List (List PV)) (r7:List (List PV)) (r8:List (List PV)) (r9:List (List PV)) (k:Nat) (k2:Nat) (k3:Nat):List (List PV):=(gRow (gAt (gObj (qbJ n r r2 r3 r4 r5 r6 r7 r8 r9 k k2 k3) 2) 0))
noncomputable def qgh (n:Int) (r:List (List PV)) (r2:List (List PV)) (r3:List (List PV)) (r4:List (List PV)) (r5:List (List PV)) (r6:List (List PV)) (r7:List (List PV)) (r8:List (List PV)) (r9:List (List PV)) (k:Nat) (k2:Nat) (k3:Nat):List (List PV):=(gRow (gAt (gObj (qbJ n r r2 r3 r4 r5 r6 r7 r8 r9 k k2 k3) 2) 1))
noncomputable def qgr (n:Int) (r:List (List PV)) (r2:List (List PV)) (r3:List (List PV)) (r4:List (List PV)) (r5:List (List PV)) (r6:List (List PV)) (r7:List (List PV)) (r8:List (List PV)) (r9:List (List PV)) (k:Nat) (k2:Nat) (k3:Nat):List (List PV):=(gRow (gAt (gObj (qbJ n r r2 r3 r4 r5 r6 r7 r8 r9 k k2 k3) 2) 2))
noncomputable def qkL (n:Int) (r:List (List PV)) (r2:List (List PV)) (r3:List (List PV)) (r4:List (List PV)) (r5:List (List PV)) (r6:List (List PV)) (r7:List (List PV)) (r8:List (List PV)) (r9:List (List PV)) (k:Nat) (k2:Nat) (k3:Nat):Nat:=(gTok (qbJ n r r2 r3 r4 r5 r6 r7 r8 r9 k k2 k3) 0)
noncomputable def qiq (n:Int) (r:List (List PV)) (r2:List (List PV)) (r3:List (List PV)) (r4:List (List PV)) (r5:List (List PV)) (r6:List (List PV)) (r7:List (List PV)) (r8:List (List PV)) (r9:List (List PV)) (k:Nat) (k2:Nat) (k3:Nat):Nat:=(gTok (qbJ n r r2 r3 r4 r5 r6 r7 r8 r9 k k2 k3) 1)
noncomputable def qh0 (n:Int) (r:List (List PV)) (r2:List (List PV)) (r3:List (List PV)) (r4:List (List PV)) (r5:List (List PV)) (r6:List (List PV)) (r7:List (List PV)) (r8:List (List PV)) (r9:List (List PV)) (k:Nat) (k2:Nat) (k3:Nat):Nat:=(gTok (qbJ n r r2 r3 r4 r5 r6 r7 r8 r9 k k2 k3) 2)
noncomputable def qhQ (n:Int) (r:List (List PV)) (r2:List (List PV)) (r3:List (List PV)) (r4:List (List PV)) (r5:List (List PV)) (r6:List (List PV)) (r7:List (List PV)) (r8:List (List PV)) (r9:List (List PV)) (k:Nat) (k2:Nat) (k3:Nat):Bool:=isW (qbJ n r r2 r3 r4 r5 r6 r7 r8 r9 k k2 k3) ((.exit 4),[.ptr 1 0,.ptr 2 0],⟨[[.sl (qkg n r r2 r3 r4 r5 r6 r7 r8 r9 k k2 k3) .non,.sl (qij n r r2 r3 r4 r5 r6 r7 r8 r9 k k2 k3) .non,.sl (qh7 n r r2 r3 r4 r5 r6 r7 r8 r9 k k2 k3) .non],[.sl (qil n r r2 r3 r4 r5 r6 r7 r8 r9 k k2 k3) .full,.sl (qh6 n r r2 r3 r4 r5 r6 r7 r8 r9 k k2 k3) .full,.sl (qh2 n r r2 r3 r4 r5 r6 r7 r8 r9 k k2 k3) .full],[.sl (qgn n r r2 r3 r4 r5 r6 r7 r8 r9 k k2 k3) (.tok 0),.sl (qgh n r r2 r3 r4 r5 r6 r7 r8 r9 k k2 k3) (.tok 1),.sl (qgr n r r2 r3 r4 r5 r6 r7 r8 r9 k k2 k3) (.tok 2)]],[((qkL n r r2 r3 r4 r5 r6 r7 r8 r9 k k2 k3),3,51),((qiq n r r2 r3 r4 r5 r6 r7 r8 r9 k k2 k3),3,55),((qh0 n r r2 r3 r4 r5 r6 r7 r8 r9 k k2 k3),3,48)],[71,71,71]⟩)
noncomputable def qeI:List PV→Store→Tr (PExit × List PV × Store) | [.ptr 0 0,.ptr 1 0,.ptr 2 0,.int .i64 n],⟨[[.sl r .non,.sl r2 .non,.sl r3 .non],[.sl r4 .full,.sl r5 .full,.sl r6 .full],[.sl r7 (.tok 0),.sl r8 (.tok 1),.sl r9 (.tok 2)]],[(k,3,51),(k2,3,55),(k3,3,48)],[71,71,71]⟩=>.ite (qhQ n r r2 r3 r4 r5 r6 r7 r8 r9 k k2 k3) (.ret ((.exit 4),[.ptr 1 0,.ptr 2 0],⟨[[.sl (qkg n r r2 r3 r4 r5 r6 r7 r8 r9 k k2 k3) .non,.sl (qij n r r2 r3 r4 r5 r6 r7 r8 r9 k k2 k3) .non,.sl (qh7 n r r2 r3 r4 r5 r6 r7 r8 r9 k k2 k3) .non],[.sl (qil n r r2 r3 r4 r5 r6 r7 r8 r9 k k2 k3) .full,.sl (qh6 n r r2 r3 r4 r5 r6 r7 r8 r9 k k2 k3) .full,.sl (qh2 n r r2 r3 r4 r5 r6 r7 r8 r9 k k2 k3) .full],[.sl (qgn n r r2 r3 r4 r5 r6 r7 r8 r9 k k2 k3) (.tok 0),.sl (qgh n r r2 r3 r4 r5 r6 r7 r8 r9 k k2 k3) (.tok 1),.sl (qgr n r r2 r3 r4 r5 r6 r7 r8 r9 k k2 k3) (.tok 2)]],[((qkL n r r2 r3 r4 r5 r6 r7 r8 r9 k k2 k3),3,51),((qiq n r r2 r3 r4 r5 r6 r7 r8 r9 k k2 k3),3,55),((qh0 n r r2 r3 r4 r5 r6 r7 r8 r9 k k2 k3),3,48)],[71,71,71]⟩)) (.fail) | _,_=>.fail
theorem quP:∀ vs σ r,(qeI vs σ).run=some r→qce vs σ=some r:=by
 intro vs σ r h
 unfold qeI at h
 split at h
 ·exact qai h fun h=>by cases h
 ·cases h
theorem qrk (gl:Gl):∀ fr σ e fr' σ',(orc qhx qeI fr σ).run=some (e,fr',σ')→LDoes Tryz.prog gl qhn fr σ e fr' σ':=qcs qav (qf5 gl ) qah (L:=qiy) (qae (by kernel_rfl)) (by kernel_rfl) quP
noncomputable def qmh:LpsT:=fun r fr σ=>bif Nat.beq r 3 then orc qhW qeJ fr σ else bif Nat.beq r 7 then orc qhO qeN fr σ else bif Nat.beq r 11 then orc qhx qeI fr σ else .fail
noncomputable def qku (v:List (List PV)) (v2:List (List PV)) (v3:List (List PV)):Tr PV:=.ite (qhJ 0 v v2 v3 [] [] [] [] [] [] 0 0 0) (.ite (qgV 0 (qau 0 v v2 v3 [] [] [] [] [] [] 0 0 0) (qak 0 v v2 v3 [] [] [] [] [] [] 0 0 0) (qar 0 v v2 v3 [] [] [] [] [] [] 0 0 0) (qan 0 v v2 v3 [] [] [] [] [] [] 0 0 0) (qao 0 v v2 v3 [] [] [] [] [] [] 0 0 0) (qam 0 v v2 v3 [] [] [] [] [] [] 0 0 0) (qal 0 v v2 v3 [] [] [] [] [] [] 0 0 0) (qaq 0 v v2 v3 [] [] [] [] [] [] 0 0 0) (qaj 0 v v2 v3 [] [] [] [] [] [] 0 0 0) (qat 0 v v2 v3 [] [] [] [] [] [] 0 0 0) (qas 0 v v2 v3 [] [] [] [] [] [] 0 0 0) (qap 0 v v2 v3 [] [] [] [] [] [] 0 0 0)) (.ite (qhQ 0 (qdH 0 (qau 0 v v2 v3 [] [] [] [] [] [] 0 0 0) (qak 0 v v2 v3 [] [] [] [] [] [] 0 0 0) (qar 0 v v2 v3 [] [] [] [] [] [] 0 0 0) (qan 0 v v2 v3 [] [] [] [] [] [] 0 0 0) (qao 0 v v2 v3 [] [] [] [] [] [] 0 0 0) (qam 0 v v2 v3 [] [] [] [] [] [] 0 0 0) (qal 0 v v2 v3 [] [] [] [] [] [] 0 0 0) (qaq 0 v v2 v3 [] [] [] [] [] [] 0 0 0) (qaj 0 v v2 v3 [] [] [] [] [] [] 0 0 0) (qat 0 v v2 v3 [] [] [] [] [] [] 0 0 0) (qas 0 v v2 v3 [] [] [] [] [] [] 0 0 0) (qap 0 v v2 v3 [] [] [] [] [] [] 0 0 0)) (qdi 0 (qau 0 v v2 v3 [] [] [] [] [] [] 0 0 0) (qak 0 v v2 v3 [] [] [] [] [] [] 0 0 0) (qar 0 v v2 v3 [] [] [] [] [] [] 0 0 0) (qan 0 v v2 v3 [] [] [] [] [] [] 0 0 0) (qao 0 v v2 v3 [] [] [] [] [] [] 0 0 0) (qam 0 v v2 v3 [] [] [] [] [] [] 0 0 0) (qal 0 v v2 v3 [] [] [] [] [] [] 0 0 0) (qaq 0 v v2 v3 [] [] [] [] [] [] 0 0 0) (qaj 0 v v2 v3 [] [] [] [] [] [] 0 0 0) (qat 0 v v2 v3 [] [] [] [] [] [] 0 0 0) (qas 0 v v2 v3 [] [] [] [] [] [] 0 0 0) (qap 0 v v2 v3 [] [] [] [] [] [] 0 0 0))
 (qc4 0 (qau 0 v v2 v3 [] [] [] [] [] [] 0 0 0) (qak 0 v v2 v3 [] [] [] [] [] [] 0 0 0) (qar 0 v v2 v3 [] [] [] [] [] [] 0 0 0) (qan 0 v v2 v3 [] [] [] [] [] [] 0 0 0) (qao 0 v v2 v3 [] [] [] [] [] [] 0 0 0) (qam 0 v v2 v3 [] [] [] [] [] [] 0 0 0) (qal 0 v v2 v3 [] [] [] [] [] [] 0 0 0) (qaq 0 v v2 v3 [] [] [] [] [] [] 0 0 0) (qaj 0 v v2 v3 [] [] [] [] [] [] 0 0 0) (qat 0 v v2 v3 [] [] [] [] [] [] 0 0 0) (qas 0 v v2 v3 [] [] [] [] [] [] 0 0 0) (qap 0 v v2 v3 [] [] [] [] [] [] 0 0 0)) (qcS 0 (qau 0 v v2 v3 [] [] [] [] [] [] 0 0 0) (qak 0 v v2 v3 [] [] [] [] [] [] 0 0 0) (qar 0 v v2 v3 [] [] [] [] [] [] 0 0 0) (qan 0 v v2 v3 [] [] [] [] [] [] 0 0 0) (qao 0 v v2 v3 [] [] [] [] [] [] 0 0 0) (qam 0 v v2 v3 [] [] [] [] [] [] 0 0 0) (qal 0 v v2 v3 [] [] [] [] [] [] 0 0 0) (qaq 0 v v2 v3 [] [] [] [] [] [] 0 0 0) (qaj 0 v v2 v3 [] [] [] [] [] [] 0 0 0) (qat 0 v v2 v3 [] [] [] [] [] [] 0 0 0) (qas 0 v v2 v3 [] [] [] [] [] [] 0 0 0) (qap 0 v v2 v3 [] [] [] [] [] [] 0 0 0)) (qcW 0 (qau 0 v v2 v3 [] [] [] [] [] [] 0 0 0) (qak 0 v v2 v3 [] [] [] [] [] [] 0 0 0) (qar 0 v v2 v3 [] [] [] [] [] [] 0 0 0) (qan 0 v v2 v3 [] [] [] [] [] [] 0 0 0) (qao 0 v v2 v3 [] [] [] [] [] [] 0 0 0) (qam 0 v v2 v3 [] [] [] [] [] [] 0 0 0) (qal 0 v v2 v3 [] [] [] [] [] [] 0 0 0) (qaq 0 v v2 v3 [] [] [] [] [] [] 0 0 0) (qaj 0 v v2 v3 [] [] [] [] [] [] 0 0 0) (qat 0 v v2 v3 [] [] [] [] [] [] 0 0 0) (qas 0 v v2 v3 [] [] [] [] [] [] 0 0 0) (qap 0 v v2 v3 [] [] [] [] [] [] 0 0 0)) (qc9 0 (qau 0 v v2 v3 [] [] [] [] [] [] 0 0 0) (qak 0 v v2 v3 [] [] [] [] [] [] 0 0 0) (qar 0 v v2 v3 [] [] [] [] [] [] 0 0 0)
 (qan 0 v v2 v3 [] [] [] [] [] [] 0 0 0) (qao 0 v v2 v3 [] [] [] [] [] [] 0 0 0) (qam 0 v v2 v3 [] [] [] [] [] [] 0 0 0) (qal 0 v v2 v3 [] [] [] [] [] [] 0 0 0) (qaq 0 v v2 v3 [] [] [] [] [] [] 0 0 0) (qaj 0 v v2 v3 [] [] [] [] [] [] 0 0 0) (qat 0 v v2 v3 [] [] [] [] [] [] 0 0 0) (qas 0 v v2 v3 [] [] [] [] [] [] 0 0 0) (qap 0 v v2 v3 [] [] [] [] [] [] 0 0 0)) (qcU 0 (qau 0 v v2 v3 [] [] [] [] [] [] 0 0 0) (qak 0 v v2 v3 [] [] [] [] [] [] 0 0 0) (qar 0 v v2 v3 [] [] [] [] [] [] 0 0 0) (qan 0 v v2 v3 [] [] [] [] [] [] 0 0 0) (qao 0 v v2 v3 [] [] [] [] [] [] 0 0 0) (qam 0 v v2 v3 [] [] [] [] [] [] 0 0 0) (qal 0 v v2 v3 [] [] [] [] [] [] 0 0 0) (qaq 0 v v2 v3 [] [] [] [] [] [] 0 0 0) (qaj 0 v v2 v3 [] [] [] [] [] [] 0 0 0) (qat 0 v v2 v3 [] [] [] [] [] [] 0 0 0) (qas 0 v v2 v3 [] [] [] [] [] [] 0 0 0) (qap 0 v v2 v3 [] [] [] [] [] [] 0 0 0)) (qdd 0 (qau 0 v v2 v3 [] [] [] [] [] [] 0 0 0) (qak 0 v v2 v3 [] [] [] [] [] [] 0 0 0) (qar 0 v v2 v3 [] [] [] [] [] [] 0 0 0) (qan 0 v v2 v3 [] [] [] [] [] [] 0 0 0) (qao 0 v v2 v3 [] [] [] [] [] [] 0 0 0) (qam 0 v v2 v3 [] [] [] [] [] [] 0 0 0) (qal 0 v v2 v3 [] [] [] [] [] [] 0 0 0) (qaq 0 v v2 v3 [] [] [] [] [] [] 0 0 0) (qaj 0 v v2 v3 [] [] [] [] [] [] 0 0 0) (qat 0 v v2 v3 [] [] [] [] [] [] 0 0 0) (qas 0 v v2 v3 [] [] [] [] [] [] 0 0 0) (qap 0 v v2 v3 [] [] [] [] [] [] 0 0 0)) (qc0 0 (qau 0 v v2 v3 [] [] [] [] [] [] 0 0 0) (qak 0 v v2 v3 [] [] [] [] [] [] 0 0 0) (qar 0 v v2 v3 [] [] [] [] [] [] 0 0 0) (qan 0 v v2 v3 [] [] [] [] [] [] 0 0 0) (qao 0 v v2 v3 [] [] [] [] [] [] 0 0 0) (qam 0 v v2 v3 [] [] [] [] [] [] 0 0 0)
 (qal 0 v v2 v3 [] [] [] [] [] [] 0 0 0) (qaq 0 v v2 v3 [] [] [] [] [] [] 0 0 0) (qaj 0 v v2 v3 [] [] [] [] [] [] 0 0 0) (qat 0 v v2 v3 [] [] [] [] [] [] 0 0 0) (qas 0 v v2 v3 [] [] [] [] [] [] 0 0 0) (qap 0 v v2 v3 [] [] [] [] [] [] 0 0 0)) (qdG 0 (qau 0 v v2 v3 [] [] [] [] [] [] 0 0 0) (qak 0 v v2 v3 [] [] [] [] [] [] 0 0 0) (qar 0 v v2 v3 [] [] [] [] [] [] 0 0 0) (qan 0 v v2 v3 [] [] [] [] [] [] 0 0 0) (qao 0 v v2 v3 [] [] [] [] [] [] 0 0 0) (qam 0 v v2 v3 [] [] [] [] [] [] 0 0 0) (qal 0 v v2 v3 [] [] [] [] [] [] 0 0 0) (qaq 0 v v2 v3 [] [] [] [] [] [] 0 0 0) (qaj 0 v v2 v3 [] [] [] [] [] [] 0 0 0) (qat 0 v v2 v3 [] [] [] [] [] [] 0 0 0) (qas 0 v v2 v3 [] [] [] [] [] [] 0 0 0) (qap 0 v v2 v3 [] [] [] [] [] [] 0 0 0)) (qdk 0 (qau 0 v v2 v3 [] [] [] [] [] [] 0 0 0) (qak 0 v v2 v3 [] [] [] [] [] [] 0 0 0) (qar 0 v v2 v3 [] [] [] [] [] [] 0 0 0) (qan 0 v v2 v3 [] [] [] [] [] [] 0 0 0) (qao 0 v v2 v3 [] [] [] [] [] [] 0 0 0) (qam 0 v v2 v3 [] [] [] [] [] [] 0 0 0) (qal 0 v v2 v3 [] [] [] [] [] [] 0 0 0) (qaq 0 v v2 v3 [] [] [] [] [] [] 0 0 0) (qaj 0 v v2 v3 [] [] [] [] [] [] 0 0 0) (qat 0 v v2 v3 [] [] [] [] [] [] 0 0 0) (qas 0 v v2 v3 [] [] [] [] [] [] 0 0 0) (qap 0 v v2 v3 [] [] [] [] [] [] 0 0 0)) (qdl 0 (qau 0 v v2 v3 [] [] [] [] [] [] 0 0 0) (qak 0 v v2 v3 [] [] [] [] [] [] 0 0 0) (qar 0 v v2 v3 [] [] [] [] [] [] 0 0 0) (qan 0 v v2 v3 [] [] [] [] [] [] 0 0 0) (qao 0 v v2 v3 [] [] [] [] [] [] 0 0 0) (qam 0 v v2 v3 [] [] [] [] [] [] 0 0 0) (qal 0 v v2 v3 [] [] [] [] [] [] 0 0 0) (qaq 0 v v2 v3 [] [] [] [] [] [] 0 0 0) (qaj 0 v v2 v3 [] [] [] [] [] [] 0 0 0)
 (qat 0 v v2 v3 [] [] [] [] [] [] 0 0 0) (qas 0 v v2 v3 [] [] [] [] [] [] 0 0 0) (qap 0 v v2 v3 [] [] [] [] [] [] 0 0 0))) (.ret (.agg [.sl (qb5 (qgn 0 (qdH 0 (qau 0 v v2 v3 [] [] [] [] [] [] 0 0 0) (qak 0 v v2 v3 [] [] [] [] [] [] 0 0 0) (qar 0 v v2 v3 [] [] [] [] [] [] 0 0 0) (qan 0 v v2 v3 [] [] [] [] [] [] 0 0 0) (qao 0 v v2 v3 [] [] [] [] [] [] 0 0 0) (qam 0 v v2 v3 [] [] [] [] [] [] 0 0 0) (qal 0 v v2 v3 [] [] [] [] [] [] 0 0 0) (qaq 0 v v2 v3 [] [] [] [] [] [] 0 0 0) (qaj 0 v v2 v3 [] [] [] [] [] [] 0 0 0) (qat 0 v v2 v3 [] [] [] [] [] [] 0 0 0) (qas 0 v v2 v3 [] [] [] [] [] [] 0 0 0) (qap 0 v v2 v3 [] [] [] [] [] [] 0 0 0)) (qdi 0 (qau 0 v v2 v3 [] [] [] [] [] [] 0 0 0) (qak 0 v v2 v3 [] [] [] [] [] [] 0 0 0) (qar 0 v v2 v3 [] [] [] [] [] [] 0 0 0) (qan 0 v v2 v3 [] [] [] [] [] [] 0 0 0) (qao 0 v v2 v3 [] [] [] [] [] [] 0 0 0) (qam 0 v v2 v3 [] [] [] [] [] [] 0 0 0) (qal 0 v v2 v3 [] [] [] [] [] [] 0 0 0) (qaq 0 v v2 v3 [] [] [] [] [] [] 0 0 0) (qaj 0 v v2 v3 [] [] [] [] [] [] 0 0 0) (qat 0 v v2 v3 [] [] [] [] [] [] 0 0 0) (qas 0 v v2 v3 [] [] [] [] [] [] 0 0 0) (qap 0 v v2 v3 [] [] [] [] [] [] 0 0 0)) (qc4 0 (qau 0 v v2 v3 [] [] [] [] [] [] 0 0 0) (qak 0 v v2 v3 [] [] [] [] [] [] 0 0 0) (qar 0 v v2 v3 [] [] [] [] [] [] 0 0 0) (qan 0 v v2 v3 [] [] [] [] [] [] 0 0 0) (qao 0 v v2 v3 [] [] [] [] [] [] 0 0 0) (qam 0 v v2 v3 [] [] [] [] [] [] 0 0 0) (qal 0 v v2 v3 [] [] [] [] [] [] 0 0 0) (qaq 0 v v2 v3 [] [] [] [] [] [] 0 0 0) (qaj 0 v v2 v3 [] [] [] [] [] [] 0 0 0) (qat 0 v v2 v3 [] [] [] [] [] [] 0 0 0) (qas 0 v v2 v3 [] [] [] [] [] [] 0 0 0) (qap 0 v v2 v3 [] [] [] [] [] [] 0 0 0))
 (qcS 0 (qau 0 v v2 v3 [] [] [] [] [] [] 0 0 0) (qak 0 v v2 v3 [] [] [] [] [] [] 0 0 0) (qar 0 v v2 v3 [] [] [] [] [] [] 0 0 0) (qan 0 v v2 v3 [] [] [] [] [] [] 0 0 0) (qao 0 v v2 v3 [] [] [] [] [] [] 0 0 0) (qam 0 v v2 v3 [] [] [] [] [] [] 0 0 0) (qal 0 v v2 v3 [] [] [] [] [] [] 0 0 0) (qaq 0 v v2 v3 [] [] [] [] [] [] 0 0 0) (qaj 0 v v2 v3 [] [] [] [] [] [] 0 0 0) (qat 0 v v2 v3 [] [] [] [] [] [] 0 0 0) (qas 0 v v2 v3 [] [] [] [] [] [] 0 0 0) (qap 0 v v2 v3 [] [] [] [] [] [] 0 0 0)) (qcW 0 (qau 0 v v2 v3 [] [] [] [] [] [] 0 0 0) (qak 0 v v2 v3 [] [] [] [] [] [] 0 0 0) (qar 0 v v2 v3 [] [] [] [] [] [] 0 0 0) (qan 0 v v2 v3 [] [] [] [] [] [] 0 0 0) (qao 0 v v2 v3 [] [] [] [] [] [] 0 0 0) (qam 0 v v2 v3 [] [] [] [] [] [] 0 0 0) (qal 0 v v2 v3 [] [] [] [] [] [] 0 0 0) (qaq 0 v v2 v3 [] [] [] [] [] [] 0 0 0) (qaj 0 v v2 v3 [] [] [] [] [] [] 0 0 0) (qat 0 v v2 v3 [] [] [] [] [] [] 0 0 0) (qas 0 v v2 v3 [] [] [] [] [] [] 0 0 0) (qap 0 v v2 v3 [] [] [] [] [] [] 0 0 0)) (qc9 0 (qau 0 v v2 v3 [] [] [] [] [] [] 0 0 0) (qak 0 v v2 v3 [] [] [] [] [] [] 0 0 0) (qar 0 v v2 v3 [] [] [] [] [] [] 0 0 0) (qan 0 v v2 v3 [] [] [] [] [] [] 0 0 0) (qao 0 v v2 v3 [] [] [] [] [] [] 0 0 0) (qam 0 v v2 v3 [] [] [] [] [] [] 0 0 0) (qal 0 v v2 v3 [] [] [] [] [] [] 0 0 0) (qaq 0 v v2 v3 [] [] [] [] [] [] 0 0 0) (qaj 0 v v2 v3 [] [] [] [] [] [] 0 0 0) (qat 0 v v2 v3 [] [] [] [] [] [] 0 0 0) (qas 0 v v2 v3 [] [] [] [] [] [] 0 0 0) (qap 0 v v2 v3 [] [] [] [] [] [] 0 0 0)) (qcU 0 (qau 0 v v2 v3 [] [] [] [] [] [] 0 0 0) (qak 0 v v2 v3 [] [] [] [] [] [] 0 0 0) (qar 0 v v2 v3 [] [] [] [] [] [] 0 0 0)
 (qan 0 v v2 v3 [] [] [] [] [] [] 0 0 0) (qao 0 v v2 v3 [] [] [] [] [] [] 0 0 0) (qam 0 v v2 v3 [] [] [] [] [] [] 0 0 0) (qal 0 v v2 v3 [] [] [] [] [] [] 0 0 0) (qaq 0 v v2 v3 [] [] [] [] [] [] 0 0 0) (qaj 0 v v2 v3 [] [] [] [] [] [] 0 0 0) (qat 0 v v2 v3 [] [] [] [] [] [] 0 0 0) (qas 0 v v2 v3 [] [] [] [] [] [] 0 0 0) (qap 0 v v2 v3 [] [] [] [] [] [] 0 0 0)) (qdd 0 (qau 0 v v2 v3 [] [] [] [] [] [] 0 0 0) (qak 0 v v2 v3 [] [] [] [] [] [] 0 0 0) (qar 0 v v2 v3 [] [] [] [] [] [] 0 0 0) (qan 0 v v2 v3 [] [] [] [] [] [] 0 0 0) (qao 0 v v2 v3 [] [] [] [] [] [] 0 0 0) (qam 0 v v2 v3 [] [] [] [] [] [] 0 0 0) (qal 0 v v2 v3 [] [] [] [] [] [] 0 0 0) (qaq 0 v v2 v3 [] [] [] [] [] [] 0 0 0) (qaj 0 v v2 v3 [] [] [] [] [] [] 0 0 0) (qat 0 v v2 v3 [] [] [] [] [] [] 0 0 0) (qas 0 v v2 v3 [] [] [] [] [] [] 0 0 0) (qap 0 v v2 v3 [] [] [] [] [] [] 0 0 0)) (qc0 0 (qau 0 v v2 v3 [] [] [] [] [] [] 0 0 0) (qak 0 v v2 v3 [] [] [] [] [] [] 0 0 0) (qar 0 v v2 v3 [] [] [] [] [] [] 0 0 0) (qan 0 v v2 v3 [] [] [] [] [] [] 0 0 0) (qao 0 v v2 v3 [] [] [] [] [] [] 0 0 0) (qam 0 v v2 v3 [] [] [] [] [] [] 0 0 0) (qal 0 v v2 v3 [] [] [] [] [] [] 0 0 0) (qaq 0 v v2 v3 [] [] [] [] [] [] 0 0 0) (qaj 0 v v2 v3 [] [] [] [] [] [] 0 0 0) (qat 0 v v2 v3 [] [] [] [] [] [] 0 0 0) (qas 0 v v2 v3 [] [] [] [] [] [] 0 0 0) (qap 0 v v2 v3 [] [] [] [] [] [] 0 0 0)) (qdG 0 (qau 0 v v2 v3 [] [] [] [] [] [] 0 0 0) (qak 0 v v2 v3 [] [] [] [] [] [] 0 0 0) (qar 0 v v2 v3 [] [] [] [] [] [] 0 0 0) (qan 0 v v2 v3 [] [] [] [] [] [] 0 0 0) (qao 0 v v2 v3 [] [] [] [] [] [] 0 0 0) (qam 0 v v2 v3 [] [] [] [] [] [] 0 0 0)
 (qal 0 v v2 v3 [] [] [] [] [] [] 0 0 0) (qaq 0 v v2 v3 [] [] [] [] [] [] 0 0 0) (qaj 0 v v2 v3 [] [] [] [] [] [] 0 0 0) (qat 0 v v2 v3 [] [] [] [] [] [] 0 0 0) (qas 0 v v2 v3 [] [] [] [] [] [] 0 0 0) (qap 0 v v2 v3 [] [] [] [] [] [] 0 0 0)) (qdk 0 (qau 0 v v2 v3 [] [] [] [] [] [] 0 0 0) (qak 0 v v2 v3 [] [] [] [] [] [] 0 0 0) (qar 0 v v2 v3 [] [] [] [] [] [] 0 0 0) (qan 0 v v2 v3 [] [] [] [] [] [] 0 0 0) (qao 0 v v2 v3 [] [] [] [] [] [] 0 0 0) (qam 0 v v2 v3 [] [] [] [] [] [] 0 0 0) (qal 0 v v2 v3 [] [] [] [] [] [] 0 0 0) (qaq 0 v v2 v3 [] [] [] [] [] [] 0 0 0) (qaj 0 v v2 v3 [] [] [] [] [] [] 0 0 0) (qat 0 v v2 v3 [] [] [] [] [] [] 0 0 0) (qas 0 v v2 v3 [] [] [] [] [] [] 0 0 0) (qap 0 v v2 v3 [] [] [] [] [] [] 0 0 0)) (qdl 0 (qau 0 v v2 v3 [] [] [] [] [] [] 0 0 0) (qak 0 v v2 v3 [] [] [] [] [] [] 0 0 0) (qar 0 v v2 v3 [] [] [] [] [] [] 0 0 0) (qan 0 v v2 v3 [] [] [] [] [] [] 0 0 0) (qao 0 v v2 v3 [] [] [] [] [] [] 0 0 0) (qam 0 v v2 v3 [] [] [] [] [] [] 0 0 0) (qal 0 v v2 v3 [] [] [] [] [] [] 0 0 0) (qaq 0 v v2 v3 [] [] [] [] [] [] 0 0 0) (qaj 0 v v2 v3 [] [] [] [] [] [] 0 0 0) (qat 0 v v2 v3 [] [] [] [] [] [] 0 0 0) (qas 0 v v2 v3 [] [] [] [] [] [] 0 0 0) (qap 0 v v2 v3 [] [] [] [] [] [] 0 0 0)))) .non,.sl (qb5 (qgh 0 (qdH 0 (qau 0 v v2 v3 [] [] [] [] [] [] 0 0 0) (qak 0 v v2 v3 [] [] [] [] [] [] 0 0 0) (qar 0 v v2 v3 [] [] [] [] [] [] 0 0 0) (qan 0 v v2 v3 [] [] [] [] [] [] 0 0 0) (qao 0 v v2 v3 [] [] [] [] [] [] 0 0 0) (qam 0 v v2 v3 [] [] [] [] [] [] 0 0 0) (qal 0 v v2 v3 [] [] [] [] [] [] 0 0 0) (qaq 0 v v2 v3 [] [] [] [] [] [] 0 0 0) (qaj 0 v v2 v3 [] [] [] [] [] [] 0 0 0)
 (qat 0 v v2 v3 [] [] [] [] [] [] 0 0 0) (qas 0 v v2 v3 [] [] [] [] [] [] 0 0 0) (qap 0 v v2 v3 [] [] [] [] [] [] 0 0 0)) (qdi 0 (qau 0 v v2 v3 [] [] [] [] [] [] 0 0 0) (qak 0 v v2 v3 [] [] [] [] [] [] 0 0 0) (qar 0 v v2 v3 [] [] [] [] [] [] 0 0 0) (qan 0 v v2 v3 [] [] [] [] [] [] 0 0 0) (qao 0 v v2 v3 [] [] [] [] [] [] 0 0 0) (qam 0 v v2 v3 [] [] [] [] [] [] 0 0 0) (qal 0 v v2 v3 [] [] [] [] [] [] 0 0 0) (qaq 0 v v2 v3 [] [] [] [] [] [] 0 0 0) (qaj 0 v v2 v3 [] [] [] [] [] [] 0 0 0) (qat 0 v v2 v3 [] [] [] [] [] [] 0 0 0) (qas 0 v v2 v3 [] [] [] [] [] [] 0 0 0) (qap 0 v v2 v3 [] [] [] [] [] [] 0 0 0)) (qc4 0 (qau 0 v v2 v3 [] [] [] [] [] [] 0 0 0) (qak 0 v v2 v3 [] [] [] [] [] [] 0 0 0) (qar 0 v v2 v3 [] [] [] [] [] [] 0 0 0) (qan 0 v v2 v3 [] [] [] [] [] [] 0 0 0) (qao 0 v v2 v3 [] [] [] [] [] [] 0 0 0) (qam 0 v v2 v3 [] [] [] [] [] [] 0 0 0) (qal 0 v v2 v3 [] [] [] [] [] [] 0 0 0) (qaq 0 v v2 v3 [] [] [] [] [] [] 0 0 0) (qaj 0 v v2 v3 [] [] [] [] [] [] 0 0 0) (qat 0 v v2 v3 [] [] [] [] [] [] 0 0 0) (qas 0 v v2 v3 [] [] [] [] [] [] 0 0 0) (qap 0 v v2 v3 [] [] [] [] [] [] 0 0 0)) (qcS 0 (qau 0 v v2 v3 [] [] [] [] [] [] 0 0 0) (qak 0 v v2 v3 [] [] [] [] [] [] 0 0 0) (qar 0 v v2 v3 [] [] [] [] [] [] 0 0 0) (qan 0 v v2 v3 [] [] [] [] [] [] 0 0 0) (qao 0 v v2 v3 [] [] [] [] [] [] 0 0 0) (qam 0 v v2 v3 [] [] [] [] [] [] 0 0 0) (qal 0 v v2 v3 [] [] [] [] [] [] 0 0 0) (qaq 0 v v2 v3 [] [] [] [] [] [] 0 0 0) (qaj 0 v v2 v3 [] [] [] [] [] [] 0 0 0) (qat 0 v v2 v3 [] [] [] [] [] [] 0 0 0) (qas 0 v v2 v3 [] [] [] [] [] [] 0 0 0) (qap 0 v v2 v3 [] [] [] [] [] [] 0 0 0))
 (qcW 0 (qau 0 v v2 v3 [] [] [] [] [] [] 0 0 0) (qak 0 v v2 v3 [] [] [] [] [] [] 0 0 0) (qar 0 v v2 v3 [] [] [] [] [] [] 0 0 0) (qan 0 v v2 v3 [] [] [] [] [] [] 0 0 0) (qao 0 v v2 v3 [] [] [] [] [] [] 0 0 0) (qam 0 v v2 v3 [] [] [] [] [] [] 0 0 0) (qal 0 v v2 v3 [] [] [] [] [] [] 0 0 0) (qaq 0 v v2 v3 [] [] [] [] [] [] 0 0 0) (qaj 0 v v2 v3 [] [] [] [] [] [] 0 0 0) (qat 0 v v2 v3 [] [] [] [] [] [] 0 0 0) (qas 0 v v2 v3 [] [] [] [] [] [] 0 0 0) (qap 0 v v2 v3 [] [] [] [] [] [] 0 0 0)) (qc9 0 (qau 0 v v2 v3 [] [] [] [] [] [] 0 0 0) (qak 0 v v2 v3 [] [] [] [] [] [] 0 0 0) (qar 0 v v2 v3 [] [] [] [] [] [] 0 0 0) (qan 0 v v2 v3 [] [] [] [] [] [] 0 0 0) (qao 0 v v2 v3 [] [] [] [] [] [] 0 0 0) (qam 0 v v2 v3 [] [] [] [] [] [] 0 0 0) (qal 0 v v2 v3 [] [] [] [] [] [] 0 0 0) (qaq 0 v v2 v3 [] [] [] [] [] [] 0 0 0) (qaj 0 v v2 v3 [] [] [] [] [] [] 0 0 0) (qat 0 v v2 v3 [] [] [] [] [] [] 0 0 0) (qas 0 v v2 v3 [] [] [] [] [] [] 0 0 0) (qap 0 v v2 v3 [] [] [] [] [] [] 0 0 0)) (qcU 0 (qau 0 v v2 v3 [] [] [] [] [] [] 0 0 0) (qak 0 v v2 v3 [] [] [] [] [] [] 0 0 0) (qar 0 v v2 v3 [] [] [] [] [] [] 0 0 0) (qan 0 v v2 v3 [] [] [] [] [] [] 0 0 0) (qao 0 v v2 v3 [] [] [] [] [] [] 0 0 0) (qam 0 v v2 v3 [] [] [] [] [] [] 0 0 0) (qal 0 v v2 v3 [] [] [] [] [] [] 0 0 0) (qaq 0 v v2 v3 [] [] [] [] [] [] 0 0 0) (qaj 0 v v2 v3 [] [] [] [] [] [] 0 0 0) (qat 0 v v2 v3 [] [] [] [] [] [] 0 0 0) (qas 0 v v2 v3 [] [] [] [] [] [] 0 0 0) (qap 0 v v2 v3 [] [] [] [] [] [] 0 0 0)) (qdd 0 (qau 0 v v2 v3 [] [] [] [] [] [] 0 0 0) (qak 0 v v2 v3 [] [] [] [] [] [] 0 0 0) (qar 0 v v2 v3 [] [] [] [] [] [] 0 0 0)
 (qan 0 v v2 v3 [] [] [] [] [] [] 0 0 0) (qao 0 v v2 v3 [] [] [] [] [] [] 0 0 0) (qam 0 v v2 v3 [] [] [] [] [] [] 0 0 0) (qal 0 v v2 v3 [] [] [] [] [] [] 0 0 0) (qaq 0 v v2 v3 [] [] [] [] [] [] 0 0 0) (qaj 0 v v2 v3 [] [] [] [] [] [] 0 0 0) (qat 0 v v2 v3 [] [] [] [] [] [] 0 0 0) (qas 0 v v2 v3 [] [] [] [] [] [] 0 0 0) (qap 0 v v2 v3 [] [] [] [] [] [] 0 0 0)) (qc0 0 (qau 0 v v2 v3 [] [] [] [] [] [] 0 0 0) (qak 0 v v2 v3 [] [] [] [] [] [] 0 0 0) (qar 0 v v2 v3 [] [] [] [] [] [] 0 0 0) (qan 0 v v2 v3 [] [] [] [] [] [] 0 0 0) (qao 0 v v2 v3 [] [] [] [] [] [] 0 0 0) (qam 0 v v2 v3 [] [] [] [] [] [] 0 0 0) (qal 0 v v2 v3 [] [] [] [] [] [] 0 0 0) (qaq 0 v v2 v3 [] [] [] [] [] [] 0 0 0) (qaj 0 v v2 v3 [] [] [] [] [] [] 0 0 0) (qat 0 v v2 v3 [] [] [] [] [] [] 0 0 0) (qas 0 v v2 v3 [] [] [] [] [] [] 0 0 0) (qap 0 v v2 v3 [] [] [] [] [] [] 0 0 0)) (qdG 0 (qau 0 v v2 v3 [] [] [] [] [] [] 0 0 0) (qak 0 v v2 v3 [] [] [] [] [] [] 0 0 0) (qar 0 v v2 v3 [] [] [] [] [] [] 0 0 0) (qan 0 v v2 v3 [] [] [] [] [] [] 0 0 0) (qao 0 v v2 v3 [] [] [] [] [] [] 0 0 0) (qam 0 v v2 v3 [] [] [] [] [] [] 0 0 0) (qal 0 v v2 v3 [] [] [] [] [] [] 0 0 0) (qaq 0 v v2 v3 [] [] [] [] [] [] 0 0 0) (qaj 0 v v2 v3 [] [] [] [] [] [] 0 0 0) (qat 0 v v2 v3 [] [] [] [] [] [] 0 0 0) (qas 0 v v2 v3 [] [] [] [] [] [] 0 0 0) (qap 0 v v2 v3 [] [] [] [] [] [] 0 0 0)) (qdk 0 (qau 0 v v2 v3 [] [] [] [] [] [] 0 0 0) (qak 0 v v2 v3 [] [] [] [] [] [] 0 0 0) (qar 0 v v2 v3 [] [] [] [] [] [] 0 0 0) (qan 0 v v2 v3 [] [] [] [] [] [] 0 0 0) (qao 0 v v2 v3 [] [] [] [] [] [] 0 0 0) (qam 0 v v2 v3 [] [] [] [] [] [] 0 0 0)
 (qal 0 v v2 v3 [] [] [] [] [] [] 0 0 0) (qaq 0 v v2 v3 [] [] [] [] [] [] 0 0 0) (qaj 0 v v2 v3 [] [] [] [] [] [] 0 0 0) (qat 0 v v2 v3 [] [] [] [] [] [] 0 0 0) (qas 0 v v2 v3 [] [] [] [] [] [] 0 0 0) (qap 0 v v2 v3 [] [] [] [] [] [] 0 0 0)) (qdl 0 (qau 0 v v2 v3 [] [] [] [] [] [] 0 0 0) (qak 0 v v2 v3 [] [] [] [] [] [] 0 0 0) (qar 0 v v2 v3 [] [] [] [] [] [] 0 0 0) (qan 0 v v2 v3 [] [] [] [] [] [] 0 0 0) (qao 0 v v2 v3 [] [] [] [] [] [] 0 0 0) (qam 0 v v2 v3 [] [] [] [] [] [] 0 0 0) (qal 0 v v2 v3 [] [] [] [] [] [] 0 0 0) (qaq 0 v v2 v3 [] [] [] [] [] [] 0 0 0) (qaj 0 v v2 v3 [] [] [] [] [] [] 0 0 0) (qat 0 v v2 v3 [] [] [] [] [] [] 0 0 0) (qas 0 v v2 v3 [] [] [] [] [] [] 0 0 0) (qap 0 v v2 v3 [] [] [] [] [] [] 0 0 0)))) .non,.sl (qb5 (qgr 0 (qdH 0 (qau 0 v v2 v3 [] [] [] [] [] [] 0 0 0) (qak 0 v v2 v3 [] [] [] [] [] [] 0 0 0) (qar 0 v v2 v3 [] [] [] [] [] [] 0 0 0) (qan 0 v v2 v3 [] [] [] [] [] [] 0 0 0) (qao 0 v v2 v3 [] [] [] [] [] [] 0 0 0) (qam 0 v v2 v3 [] [] [] [] [] [] 0 0 0) (qal 0 v v2 v3 [] [] [] [] [] [] 0 0 0) (qaq 0 v v2 v3 [] [] [] [] [] [] 0 0 0) (qaj 0 v v2 v3 [] [] [] [] [] [] 0 0 0) (qat 0 v v2 v3 [] [] [] [] [] [] 0 0 0) (qas 0 v v2 v3 [] [] [] [] [] [] 0 0 0) (qap 0 v v2 v3 [] [] [] [] [] [] 0 0 0)) (qdi 0 (qau 0 v v2 v3 [] [] [] [] [] [] 0 0 0) (qak 0 v v2 v3 [] [] [] [] [] [] 0 0 0) (qar 0 v v2 v3 [] [] [] [] [] [] 0 0 0) (qan 0 v v2 v3 [] [] [] [] [] [] 0 0 0) (qao 0 v v2 v3 [] [] [] [] [] [] 0 0 0) (qam 0 v v2 v3 [] [] [] [] [] [] 0 0 0) (qal 0 v v2 v3 [] [] [] [] [] [] 0 0 0) (qaq 0 v v2 v3 [] [] [] [] [] [] 0 0 0) (qaj 0 v v2 v3 [] [] [] [] [] [] 0 0 0)
 (qat 0 v v2 v3 [] [] [] [] [] [] 0 0 0) (qas 0 v v2 v3 [] [] [] [] [] [] 0 0 0) (qap 0 v v2 v3 [] [] [] [] [] [] 0 0 0)) (qc4 0 (qau 0 v v2 v3 [] [] [] [] [] [] 0 0 0) (qak 0 v v2 v3 [] [] [] [] [] [] 0 0 0) (qar 0 v v2 v3 [] [] [] [] [] [] 0 0 0) (qan 0 v v2 v3 [] [] [] [] [] [] 0 0 0) (qao 0 v v2 v3 [] [] [] [] [] [] 0 0 0) (qam 0 v v2 v3 [] [] [] [] [] [] 0 0 0) (qal 0 v v2 v3 [] [] [] [] [] [] 0 0 0) (qaq 0 v v2 v3 [] [] [] [] [] [] 0 0 0) (qaj 0 v v2 v3 [] [] [] [] [] [] 0 0 0) (qat 0 v v2 v3 [] [] [] [] [] [] 0 0 0) (qas 0 v v2 v3 [] [] [] [] [] [] 0 0 0) (qap 0 v v2 v3 [] [] [] [] [] [] 0 0 0)) (qcS 0 (qau 0 v v2 v3 [] [] [] [] [] [] 0 0 0) (qak 0 v v2 v3 [] [] [] [] [] [] 0 0 0) (qar 0 v v2 v3 [] [] [] [] [] [] 0 0 0) (qan 0 v v2 v3 [] [] [] [] [] [] 0 0 0) (qao 0 v v2 v3 [] [] [] [] [] [] 0 0 0) (qam 0 v v2 v3 [] [] [] [] [] [] 0 0 0) (qal 0 v v2 v3 [] [] [] [] [] [] 0 0 0) (qaq 0 v v2 v3 [] [] [] [] [] [] 0 0 0) (qaj 0 v v2 v3 [] [] [] [] [] [] 0 0 0) (qat 0 v v2 v3 [] [] [] [] [] [] 0 0 0) (qas 0 v v2 v3 [] [] [] [] [] [] 0 0 0) (qap 0 v v2 v3 [] [] [] [] [] [] 0 0 0)) (qcW 0 (qau 0 v v2 v3 [] [] [] [] [] [] 0 0 0) (qak 0 v v2 v3 [] [] [] [] [] [] 0 0 0) (qar 0 v v2 v3 [] [] [] [] [] [] 0 0 0) (qan 0 v v2 v3 [] [] [] [] [] [] 0 0 0) (qao 0 v v2 v3 [] [] [] [] [] [] 0 0 0) (qam 0 v v2 v3 [] [] [] [] [] [] 0 0 0) (qal 0 v v2 v3 [] [] [] [] [] [] 0 0 0) (qaq 0 v v2 v3 [] [] [] [] [] [] 0 0 0) (qaj 0 v v2 v3 [] [] [] [] [] [] 0 0 0) (qat 0 v v2 v3 [] [] [] [] [] [] 0 0 0) (qas 0 v v2 v3 [] [] [] [] [] [] 0 0 0) (qap 0 v v2 v3 [] [] [] [] [] [] 0 0 0))
 (qc9 0 (qau 0 v v2 v3 [] [] [] [] [] [] 0 0 0) (qak 0 v v2 v3 [] [] [] [] [] [] 0 0 0) (qar 0 v v2 v3 [] [] [] [] [] [] 0 0 0) (qan 0 v v2 v3 [] [] [] [] [] [] 0 0 0) (qao 0 v v2 v3 [] [] [] [] [] [] 0 0 0) (qam 0 v v2 v3 [] [] [] [] [] [] 0 0 0) (qal 0 v v2 v3 [] [] [] [] [] [] 0 0 0) (qaq 0 v v2 v3 [] [] [] [] [] [] 0 0 0) (qaj 0 v v2 v3 [] [] [] [] [] [] 0 0 0) (qat 0 v v2 v3 [] [] [] [] [] [] 0 0 0) (qas 0 v v2 v3 [] [] [] [] [] [] 0 0 0) (qap 0 v v2 v3 [] [] [] [] [] [] 0 0 0)) (qcU 0 (qau 0 v v2 v3 [] [] [] [] [] [] 0 0 0) (qak 0 v v2 v3 [] [] [] [] [] [] 0 0 0) (qar 0 v v2 v3 [] [] [] [] [] [] 0 0 0) (qan 0 v v2 v3 [] [] [] [] [] [] 0 0 0) (qao 0 v v2 v3 [] [] [] [] [] [] 0 0 0) (qam 0 v v2 v3 [] [] [] [] [] [] 0 0 0) (qal 0 v v2 v3 [] [] [] [] [] [] 0 0 0) (qaq 0 v v2 v3 [] [] [] [] [] [] 0 0 0) (qaj 0 v v2 v3 [] [] [] [] [] [] 0 0 0) (qat 0 v v2 v3 [] [] [] [] [] [] 0 0 0) (qas 0 v v2 v3 [] [] [] [] [] [] 0 0 0) (qap 0 v v2 v3 [] [] [] [] [] [] 0 0 0)) (qdd 0 (qau 0 v v2 v3 [] [] [] [] [] [] 0 0 0) (qak 0 v v2 v3 [] [] [] [] [] [] 0 0 0) (qar 0 v v2 v3 [] [] [] [] [] [] 0 0 0) (qan 0 v v2 v3 [] [] [] [] [] [] 0 0 0) (qao 0 v v2 v3 [] [] [] [] [] [] 0 0 0) (qam 0 v v2 v3 [] [] [] [] [] [] 0 0 0) (qal 0 v v2 v3 [] [] [] [] [] [] 0 0 0) (qaq 0 v v2 v3 [] [] [] [] [] [] 0 0 0) (qaj 0 v v2 v3 [] [] [] [] [] [] 0 0 0) (qat 0 v v2 v3 [] [] [] [] [] [] 0 0 0) (qas 0 v v2 v3 [] [] [] [] [] [] 0 0 0) (qap 0 v v2 v3 [] [] [] [] [] [] 0 0 0)) (qc0 0 (qau 0 v v2 v3 [] [] [] [] [] [] 0 0 0) (qak 0 v v2 v3 [] [] [] [] [] [] 0 0 0) (qar 0 v v2 v3 [] [] [] [] [] [] 0 0 0)
 (qan 0 v v2 v3 [] [] [] [] [] [] 0 0 0) (qao 0 v v2 v3 [] [] [] [] [] [] 0 0 0) (qam 0 v v2 v3 [] [] [] [] [] [] 0 0 0) (qal 0 v v2 v3 [] [] [] [] [] [] 0 0 0) (qaq 0 v v2 v3 [] [] [] [] [] [] 0 0 0) (qaj 0 v v2 v3 [] [] [] [] [] [] 0 0 0) (qat 0 v v2 v3 [] [] [] [] [] [] 0 0 0) (qas 0 v v2 v3 [] [] [] [] [] [] 0 0 0) (qap 0 v v2 v3 [] [] [] [] [] [] 0 0 0)) (qdG 0 (qau 0 v v2 v3 [] [] [] [] [] [] 0 0 0) (qak 0 v v2 v3 [] [] [] [] [] [] 0 0 0) (qar 0 v v2 v3 [] [] [] [] [] [] 0 0 0) (qan 0 v v2 v3 [] [] [] [] [] [] 0 0 0) (qao 0 v v2 v3 [] [] [] [] [] [] 0 0 0) (qam 0 v v2 v3 [] [] [] [] [] [] 0 0 0) (qal 0 v v2 v3 [] [] [] [] [] [] 0 0 0) (qaq 0 v v2 v3 [] [] [] [] [] [] 0 0 0) (qaj 0 v v2 v3 [] [] [] [] [] [] 0 0 0) (qat 0 v v2 v3 [] [] [] [] [] [] 0 0 0) (qas 0 v v2 v3 [] [] [] [] [] [] 0 0 0) (qap 0 v v2 v3 [] [] [] [] [] [] 0 0 0)) (qdk 0 (qau 0 v v2 v3 [] [] [] [] [] [] 0 0 0) (qak 0 v v2 v3 [] [] [] [] [] [] 0 0 0) (qar 0 v v2 v3 [] [] [] [] [] [] 0 0 0) (qan 0 v v2 v3 [] [] [] [] [] [] 0 0 0) (qao 0 v v2 v3 [] [] [] [] [] [] 0 0 0) (qam 0 v v2 v3 [] [] [] [] [] [] 0 0 0) (qal 0 v v2 v3 [] [] [] [] [] [] 0 0 0) (qaq 0 v v2 v3 [] [] [] [] [] [] 0 0 0) (qaj 0 v v2 v3 [] [] [] [] [] [] 0 0 0) (qat 0 v v2 v3 [] [] [] [] [] [] 0 0 0) (qas 0 v v2 v3 [] [] [] [] [] [] 0 0 0) (qap 0 v v2 v3 [] [] [] [] [] [] 0 0 0)) (qdl 0 (qau 0 v v2 v3 [] [] [] [] [] [] 0 0 0) (qak 0 v v2 v3 [] [] [] [] [] [] 0 0 0) (qar 0 v v2 v3 [] [] [] [] [] [] 0 0 0) (qan 0 v v2 v3 [] [] [] [] [] [] 0 0 0) (qao 0 v v2 v3 [] [] [] [] [] [] 0 0 0) (qam 0 v v2 v3 [] [] [] [] [] [] 0 0 0)
 (qal 0 v v2 v3 [] [] [] [] [] [] 0 0 0) (qaq 0 v v2 v3 [] [] [] [] [] [] 0 0 0) (qaj 0 v v2 v3 [] [] [] [] [] [] 0 0 0) (qat 0 v v2 v3 [] [] [] [] [] [] 0 0 0) (qas 0 v v2 v3 [] [] [] [] [] [] 0 0 0) (qap 0 v v2 v3 [] [] [] [] [] [] 0 0 0)))) .non])) .fail) .fail) .fail
theorem qAt (v:List (List PV)) (v2:List (List PV)) (v3:List (List PV)):(tcall tbT qdr qmh Tryz.f35 [.agg [.sl v .non,.sl v2 .non,.sl v3 .non]]).flat=qku v v2 v3:=by kernel_rfl
noncomputable def qfh (v:List (List PV)) (v2:List (List PV)) (v3:List (List PV)):Option PV:=(qku v v2 v3).run
noncomputable def qb8 (v:List (List PV)) (v2:List (List PV)) (v3:List (List PV)):List (List PV):=(gRow (gAt (gCs (gVal (qfh v v2 v3))) 0))
noncomputable def qb0 (v:List (List PV)) (v2:List (List PV)) (v3:List (List PV)):List (List PV):=(gRow (gAt (gCs (gVal (qfh v v2 v3))) 1))
noncomputable def qb3 (v:List (List PV)) (v2:List (List PV)) (v3:List (List PV)):List (List PV):=(gRow (gAt (gCs (gVal (qfh v v2 v3))) 2))
noncomputable def qdm (v:List (List PV)) (v2:List (List PV)) (v3:List (List PV)):Bool:=isW (qfh v v2 v3) (.agg [.sl (qb8 v v2 v3) .non,.sl (qb0 v v2 v3) .non,.sl (qb3 v v2 v3) .non])
noncomputable def qmP:List PV→Tr PV | [.agg [.sl v .non,.sl v2 .non,.sl v3 .non]]=>.ite (qdm v v2 v3) (.ret (.agg [.sl (qb8 v v2 v3) .non,.sl (qb0 v v2 v3) .non,.sl (qb3 v v2 v3) .non])) (.fail) | _=>.fail
theorem qu3 (gl:Gl):SimP Tryz.prog gl 35 fun args=>(qmP args).run:=by
 refine SimP.of_flat (G:=qdr) (L:=qmh) qav (qf5 gl ) qah  Tryz.func35 rfl (by rfl) (by kernel_rfl) (qbg (L:=lps qmh) [(3,qhe),(7,qg2),(11,qhn)] (by kernel_rfl) (List.forall_mem_cons.2 ⟨fun fr σ e fr' σ' h=>qrx gl  fr σ e fr' σ' h,(List.forall_mem_cons.2 ⟨fun fr σ e fr' σ' h=>qrj gl  fr σ e fr' σ' h,(List.forall_mem_cons.2 ⟨fun fr σ e fr' σ' h=>qrk gl  fr σ e fr' σ' h,(List.forall_mem_nil _)⟩)⟩)⟩)) ?_
 intro args x h
 unfold qmP at h
 split at h
 ·exact (congrArg Tr.run (qAt _ _ _)).trans (qai h fun h=>by cases h)
 ·cases h
end Go.Pv
set_option maxHeartbeats 4000000
set_option linter.unusedSimpArgs false
set_option linter.unusedVariables false
namespace Go.Pv
open Go.RowKit
def swp (i k:Nat):Nat:=if k=i then i+1 else if k=i+1 then i else k
theorem qx5 (i k:Nat):swp i (swp i k)=k:=by
 unfold swp
 repeat' split
 all_goals omega
theorem qIa {i k n:Nat} (hi:i+1 < n) (hk:k < n):swp i k < n:=by
 unfold swp
 repeat' split
 all_goals omega
theorem qsp {i k:Nat} (h1:k≠i) (h2:k≠i+1):swp i k=k:=by
 unfold swp
 rw [if_neg h1,if_neg h2]
def eA (i k:Nat) (o:Oper):Oper:=if k=i+1 then { o with after:=o.after.push ⟨i,.data⟩ } else o
def opsA (i:Nat) (ops:Array Oper):Array Oper:=ops.mapIdx fun k o=>eA i k o
def eB (i k:Nat) (o:Oper):Oper:={ o with after:=(o.after.map fun e=>{ e with on:=swp i e.on })++(if k=i+1 then #[⟨i,.data⟩] else #[]) }
def opsB (i:Nat) (ops:Array Oper):Array Oper:=ops.mapIdx fun k o=>eB i k ((ops[swp i k]?).getD o)
def qkk (i:Nat) (ops:Array Oper):Bool:=ops.toList.all fun o=>match o.guard with
 | some (g,_)=>!Nat.beq g i && !Nat.beq g (i+1)
 | none=>true
theorem atA (i:Nat) (ops:Array Oper) (k:Nat):(opsA i ops)[k]?=(ops[k]?).map (eA i k):=by
 unfold opsA
 rw [Array.getElem?_mapIdx]
theorem atB {i:Nat} {ops:Array Oper} (hi:i+1 < ops.size) {k:Nat} {o:Oper} (h:ops[k]?=some o):(opsB i ops)[swp i k]?=some (eB i (swp i k) o):=by
 have hk:k < ops.size:=by
  have:=Array.getElem?_eq_some_iff.1 h
  exact this.1
 unfold opsB
 rw [Array.getElem?_mapIdx,Array.getElem?_eq_getElem (qIa hi hk),qx5,h]
 rfl
theorem qJT (i k:Nat) (o:Oper):∃ x,eA i k o={ o with after:=x }:=by
 unfold eA
 split
 ·exact ⟨_,rfl⟩
 ·exact ⟨o.after,rfl⟩
theorem qxA (i:Nat) (ops:Array Oper):(opsA i ops).size=ops.size:=by simp [opsA]
theorem qrw (i:Nat) (ops:Array Oper):(opsB i ops).size=ops.size:=by simp [opsB]
theorem qrH {i:Nat} {ops:Array Oper} (h:qkk i ops=true) {k:Nat} {o:Oper} (ho:ops[k]?=some o) {g:Nat} {b:Bool} (hg:o.guard=some (g,b)):g≠i∧g≠i+1:=by
 unfold qkk at h
 rw [List.all_eq_true] at h
 have h1:=h o (by
  rw [Array.mem_toList_iff]
  exact Array.mem_of_getElem? ho)
 rw [hg] at h1
 simp only [Bool.and_eq_true,Bool.not_eq_true'] at h1
 exact ⟨Nat.ne_of_beq_eq_false h1.1,Nat.ne_of_beq_eq_false h1.2⟩
theorem qdx {ops:Array Oper} {listed:Array Bool} (hs:listed.size=ops.size) {k:Nat}:k ∈ Region.ready .any ops listed↔∃ o,ops[k]?=some o∧¬ In listed k∧∀ e ∈ o.after.toList,Region.binds .any e=true→In listed e.on:=by
 unfold Region.ready
 rw [List.mem_filter,List.mem_range]
 constructor
 ·rintro ⟨hk,hk'⟩
  have hb:k < listed.size:=by omega
  have e2:ops[k]?=some ops[k]:=Array.getElem?_eq_getElem hk
  simp only [e2,Option.map_some,Option.getD_some,Bool.and_eq_true,Bool.not_eq_true'] at hk'
  obtain ⟨hk1,hk2⟩:=hk'
  refine ⟨_,e2,?_,?_⟩
  ·rw [Array.getD_eq_getD_getElem?,Array.getElem?_eq_getElem hb] at hk1
   unfold In
   rw [Array.getD_eq_getD_getElem?,Array.getElem?_eq_getElem hb]
   simpa using hk1
  ·intro e he hbd
   have:=Array.all_eq_true'.1 hk2 e (Array.mem_toList_iff.1 he)
   simpa [hbd,In] using this
 ·rintro ⟨o,ho,hn,he⟩
  have hk:k < ops.size:=(Array.getElem?_eq_some_iff.1 ho).1
  have hb:k < listed.size:=by omega
  refine ⟨hk,?_⟩
  simp only [ho,Option.map_some,Option.getD_some,Bool.and_eq_true,Bool.not_eq_true']
  constructor
  ·unfold In at hn
   rw [Array.getD_eq_getD_getElem?,Array.getElem?_eq_getElem hb] at hn ⊢
   simpa using hn
  ·rw [Array.all_eq_true']
   intro e hm
   cases hbd:Region.binds .any e with
   | false=>rfl
   | true =>
    have:=he e (Array.mem_toList_iff.2 hm) hbd
    simpa [In] using this
section
variable {F : Fence} {n : Nat} {P : Program} {Q : Exit → Act → World → Prop}
theorem quK {ops ops2:Array Oper} (hsz:ops2.size=ops.size) (π:Nat→Nat) (hπ:∀ k,π (π k)=k) (hlt:∀ k,k < ops.size→π k < ops.size) (j:Nat)
  (hop:∀ (K:Act→World→Prop) k a w,wpOpIn F n P ops2 Q (π k) K a w→wpOpIn F n P ops Q k K a w)
  (hr:∀ listed listed2:Array Bool,listed.size=ops.size→listed2.size=ops2.size→(∀ k,In listed2 (π k)↔In listed k)→In listed j→∀ k,(k ∈ Region.ready .any ops listed↔π k ∈ Region.ready .any ops2 listed2)) :
  ∀ (fuel:Nat) (listed listed2:Array Bool) (a:Act) (w:World),listed.size=ops.size→listed2.size=ops2.size→(∀ k,In listed2 (π k)↔In listed k)→In listed j→wpAnyIn F n P .any ops2 Q fuel listed2 a w→wpAnyIn F n P .any ops Q fuel listed a w:=by
 intro fuel
 induction fuel with
 | zero =>
  intro l l2 a w h1 h2 h3 h4 h
  refine ⟨List.eq_nil_iff_forall_not_mem.2 fun k hk=>?_,h.2⟩
  have:=(hr l l2 h1 h2 h3 h4 k).1 hk
  rw [h.1] at this
  cases this
 | succ fuel ih =>
  intro l l2 a w h1 h2 h3 h4 h
  refine ⟨fun hn=>h.1 (List.eq_nil_iff_forall_not_mem.2 fun k hk=>?_),fun k hk=>?_⟩
  ·have:=(hr l l2 h1 h2 h3 h4 (π k)).2 (by rw [hπ]; exact hk)
   rw [hn] at this
   cases this
  ·have hk2:=(hr l l2 h1 h2 h3 h4 k).1 hk
   obtain ⟨o,ho,_⟩:=(qdx h1).1 hk
   have hkl:k < ops.size:=(Array.getElem?_eq_some_iff.1 ho).1
   refine hop _ k a w (wpOpIn_mono (fun a' w' h'=>ih _ _ a' w' (by simp [h1]) (by simp [h2]) (fun m=>?_) ?_ h') (h.2 _ hk2))
   ·rw [qef (by have:=hlt k hkl; omega),qef (by omega),h3]
    constructor
    ·rintro (h | h)
     ·exact .inl (by rw [← hπ m,h,hπ])
     ·exact .inr h
    ·rintro (rfl | h)
     ·exact .inl rfl
     ·exact .inr h
   ·exact (qef (by omega)).2 (.inr h4)
theorem qF3 (i:Nat) (ops:Array Oper) (t:Array Value):yielded (opsA i ops) t=yielded ops t:=by
 funext g
 unfold yielded
 rw [atA]
 cases h:ops[g]? with
 | none=>rfl
 | some o =>
  obtain ⟨x,hx⟩:=qJT i g o
  simp only [Option.map_some,Option.bind_some,hx]
theorem qF4 {i:Nat} {ops:Array Oper} (hi:i+1 < ops.size) (t:Array Value) {g:Nat} (h1:g≠i) (h2:g≠i+1):yielded (opsB i ops) t g=yielded ops t g:=by
 unfold yielded
 cases h:ops[g]? with
 | none =>
  have:(opsB i ops)[g]?=none:=by
   rw [Array.getElem?_eq_none_iff] at h ⊢
   rw [qrw]
   exact h
  rw [this]
 | some o =>
  have:=atB hi h
  rw [qsp h1 h2] at this
  rw [this]
  rfl
theorem opA (i:Nat) (ops:Array Oper) (K:Act→World→Prop) (k:Nat) (a:Act) (w:World) (h:wpOpIn F n P (opsA i ops) Q k K a w):wpOpIn F n P ops Q k K a w:=by
 unfold wpOpIn at h ⊢
 rw [atA,qF3] at h
 cases ho:ops[k]? with
 | none=>rw [ho] at h; exact h
 | some o =>
  obtain ⟨x,hx⟩:=qJT i k o
  rw [ho] at h
  simp only [Option.map_some,hx] at h
  exact h
theorem opB {i:Nat} {ops:Array Oper} (hi:i+1 < ops.size) (hg:qkk i ops=true) (K:Act→World→Prop) (k:Nat) (a:Act) (w:World) (h:wpOpIn F n P (opsB i ops) Q (swp i k) K a w):wpOpIn F n P ops Q k K a w:=by
 unfold wpOpIn at h ⊢
 cases ho:ops[k]? with
 | none =>
  have hk:ops.size≤k:=by rwa [Array.getElem?_eq_none_iff] at ho
  have:(opsB i ops)[swp i k]?=none:=by
   rw [qsp (by omega) (by omega),Array.getElem?_eq_none_iff,qrw]
   exact hk
  rw [this] at h
  exact h
 | some o =>
  rw [atB hi ho] at h
  have hw:Region.wanted (eB i (swp i k) o) (yielded (opsB i ops) a.tmps)=Region.wanted o (yielded ops a.tmps):=by
   unfold Region.wanted
   have e:(eB i (swp i k) o).guard=o.guard:=rfl
   rw [e]
   cases hgd:o.guard with
   | none=>rfl
   | some gb =>
    obtain ⟨g,b⟩:=gb
    obtain ⟨h1,h2⟩:=qrH hg ho hgd
    simp only [qF4 hi a.tmps h1 h2]
  simp only [hw] at h
  exact h
theorem simA (i:Nat) (ops:Array Oper) (fuel:Nat) (listed:Array Bool) (a:Act) (w:World) (hs:listed.size=ops.size) (hin:In listed i) (h:wpAnyIn F n P .any (opsA i ops) Q fuel listed a w):wpAnyIn F n P .any ops Q fuel listed a w:=by
 refine quK (qxA i ops) id (fun _=>rfl) (fun _ h=>h) i (opA i ops) ?_ fuel listed listed a w hs (by rw [qxA,hs]) (fun _=>Iff.rfl) hin h
 intro l l2 h1 h2 h3 h4 k
 have h3:∀ k,In l2 k↔In l k:=h3
 rw [qdx h1,qdx h2]
 show _↔∃ o,(opsA i ops)[k]?=some o∧_
 rw [atA]
 constructor
 ·rintro ⟨o,ho,hn,he⟩
  refine ⟨eA i k o,by rw [ho]; rfl,fun h=>hn ((h3 k).1 h),fun e he' hb=>(h3 _).2 ?_⟩
  unfold eA at he'
  split at he'
  ·simp only [Array.toList_push,List.mem_append,List.mem_singleton] at he'
   rcases he' with he' | rfl
   ·exact he e he' hb
   ·exact h4
  ·exact he e he' hb
 ·rintro ⟨o2,ho2,hn,he⟩
  cases ho:ops[k]? with
  | none=>rw [ho] at ho2; cases ho2
  | some o =>
   rw [ho] at ho2
   simp only [Option.map_some,Option.some.injEq] at ho2
   subst ho2
   refine ⟨o,rfl,fun h=>hn ((h3 k).2 h),fun e he' hb=>(h3 _).1 (he e ?_ hb)⟩
   unfold eA
   split
   ·simp only [Array.toList_push,List.mem_append]
    exact .inl he'
   ·exact he'
theorem simB {i:Nat} {ops:Array Oper} (hi:i+1 < ops.size) (hg:qkk i ops=true) (fuel:Nat) (listed listed2:Array Bool) (a:Act) (w:World) (hs:listed.size=ops.size) (hs2:listed2.size=ops.size) (hin:In listed (i+1)) (hl:∀ k,In listed2 (swp i k)↔In listed k)
  (h:wpAnyIn F n P .any (opsB i ops) Q fuel listed2 a w):wpAnyIn F n P .any ops Q fuel listed a w:=by
 refine quK (qrw i ops) (swp i) (qx5 i) (fun _ h=>qIa hi h) (i+1) (opB hi hg) ?_ fuel listed listed2 a w hs (by rw [qrw,hs2]) hl hin h
 intro l l2 h1 h2 h3 h4 k
 have h5:In l2 i:=by
  have:=(h3 (i+1)).2 h4
  simpa [swp] using this
 rw [qdx h1,qdx h2]
 constructor
 ·rintro ⟨o,ho,hn,he⟩
  refine ⟨_,atB hi ho,fun h=>hn ((h3 k).1 h),fun e he' hb=>?_⟩
  simp only [eB,Array.toList_append,Array.toList_map,List.mem_append,List.mem_map] at he'
  rcases he' with ⟨e0,he0,rfl⟩ | he'
  ·exact (h3 _).2 (he e0 he0 hb)
  ·split at he'
   ·simp at he'
    subst he'
    exact h5
   ·simp at he'
 ·rintro ⟨o2,ho2,hn,he⟩
  cases ho:ops[k]? with
  | none =>
   have hk:ops.size≤k:=by rwa [Array.getElem?_eq_none_iff] at ho
   have:(opsB i ops)[swp i k]?=none:=by
    rw [qsp (by omega) (by omega),Array.getElem?_eq_none_iff,qrw]
    exact hk
   rw [this] at ho2
   cases ho2
  | some o =>
   rw [atB hi ho] at ho2
   cases ho2
   refine ⟨o,rfl,fun h=>hn ((h3 k).2 h),fun e he' hb=>(h3 _).1 (he { e with on:=swp i e.on } ?_ hb)⟩
   simp only [eB,Array.toList_append,Array.toList_map,List.mem_append,List.mem_map]
   exact .inl ⟨e,he',rfl⟩
end
section
variable {P : Program} {tb : Tab} {gl : Gl} {Γ : Gam} {H0 : Gh} {w0 : World} {Q : Exit → Act → World → Prop}
theorem qzh {b:Bool} {ops:List Oper} (hord:qcy b Γ ops=true) {F:Nat→List PV} {S:Nat→Store} {X:Nat→PV} (ht:Trace tb Γ ops ops F S X)
  (hfree:∀ (k i:Nat) (o:Oper),ops[k]?=some o→reads Γ o=true→qdQ b Γ o=false→i≤ops.length→pop tb Γ (F k) (S k) o=some (X k,S (k+1))→pop tb Γ (F k) (S i) o=some (X k,S i))
  {listed:Array Bool} {fr:List PV} {σ:Store} (hI:Inv Γ ops F S listed fr σ) {k:Nat} {o:Oper} (hko:ops[k]?=some o) (hb:k < listed.size) (hn:¬ In listed k) (he:∀ e ∈ o.after.toList,Region.binds .any e=true→In listed e.on) :
  ∃ x σ',((pwanted ops fr o=some false∧x=.tup []∧σ'=σ)∨(pwanted ops fr o=some true∧pop tb Γ fr σ o=some (x,σ')))∧Inv Γ ops F S (listed.setIfInBounds k true) (pput fr o.dst x) σ':=by
 obtain ⟨hsee,hsto⟩:=hI.sees hord hko hn he
 have hwan:pwanted ops fr o=pwanted ops (F k) o:=by
  unfold pwanted
  cases hg:o.guard with
  | none=>rfl
  | some jb =>
   obtain ⟨j,b⟩:=jb
   simp only []
   cases hd:(ops[j]?).bind (·.dst) with
   | none=>rfl
   | some d =>
    have:fr[d]?=(F k)[d]?:=hsee d (by simp [looks,hg,hd])
    simp only [Option.bind_some,this]
 have hpop:∀ s,pop tb Γ fr s o=pop tb Γ (F k) s o:=by
  intro s
  refine qHP fun x hx=>?_
  cases x with
  | tmp t =>
   have:fr[t]?=(F k)[t]?:=hsee t (by
    simp only [looks,List.mem_append,List.mem_filterMap]
    exact .inl ⟨_,hx,rfl⟩)
   simp only [ev,List.getD_eq_getElem?_getD,this]
  | const v=>rfl
  | global g=>rfl
  | func f=>rfl
 rcases (ht.at_ k o hko).1 with ⟨hw,hx,hS⟩ | ⟨hw,hp⟩
 ·refine ⟨.tup [],σ,.inl ⟨hwan.trans hw,rfl,rfl⟩,?_⟩
  have:=hI.next hord ht hko hb hn he (σ':=σ) ⟨fun hwr=>?_,fun _=>rfl⟩
  ·rw [hx] at this
   exact this
  ·rw [hS]
   exact hsto (by simp [qdQ,hwr])
 ·cases hr:qdQ b Γ o with
  | true =>
   have hs':=hsto hr
   have hp':pop tb Γ fr σ o=some (X k,S (k+1)):=by rw [hpop,hs']; exact hp
   refine ⟨X k,S (k+1),.inr ⟨hwan.trans hw,hp'⟩,hI.next hord ht hko hb hn he ⟨fun _=>rfl,fun hwf=>?_⟩⟩
   rw [qlq hwf hp,hs']
  | false =>
   have hwf:writes Γ o=false:=by
    cases hwr:writes Γ o with
    | false=>rfl
    | true=>simp [qdQ,hwr] at hr
   have hp':pop tb Γ fr σ o=some (X k,σ):=by
    rw [hpop]
    cases hr0:reads Γ o with
    | false=>exact qvI hr0 hp σ
    | true =>
     obtain ⟨i,hi,rfl⟩:=hI.someS hord
     exact hfree k i _ hko hr0 hr hi hp
   refine ⟨X k,σ,.inr ⟨hwan.trans hw,hp'⟩,hI.next hord ht hko hb hn he ⟨fun h=>?_,fun _=>rfl⟩⟩
   rw [hwf] at h
   cases h
theorem qBF (n i:Nat):¬ In (Array.replicate n false) i:=by
 unfold In
 rw [Array.getD_eq_getD_getElem?]
 by_cases hi:i < n
 ·simp [Array.getElem?_replicate,hi]
 ·simp [Array.getElem?_replicate,hi]
theorem inv0 {ops:List Oper} {F:Nat→List PV} {S:Nat→Store} {X:Nat→PV} (ht:Trace tb Γ ops ops F S X) (n:Nat):Inv Γ ops F S (Array.replicate n false) (F 0) (S 0) :=
 ⟨rfl,fun j o hj=>absurd hj (qBF n j),fun t i hi hlo hhi=>by
  rw [ht.still (i:=0) (j:=i) (Nat.zero_le _) hi (fun k o _ hk ho hd=>qBF n k (hlo k o hk ho hd))],fun i hi hlo hhi=>by
  rw [ht.stillS (i:=0) (j:=i) (Nat.zero_le _) hi (fun k o _ hk ho=>by
   cases hw:writes Γ o with
   | false=>rfl
   | true=>exact absurd (hlo k o hk ho hw) (qBF n k))]⟩
structure Told (tb:Tab) (Γ:Gam) (ops:Array Oper) (b:Bool) (F:Nat→List PV) (S:Nat→Store) (X:Nat→PV):Prop where
 ord:qcy b Γ ops.toList=true
 tr:Trace tb Γ ops.toList ops.toList F S X
 free:∀ (k i:Nat) (o:Oper),ops.toList[k]?=some o→reads Γ o=true→qdQ b Γ o=false→i≤ops.size→pop tb Γ (F k) (S k) o=some (X k,S (k+1))→pop tb Γ (F k) (S i) o=some (X k,S i)
theorem qBQ {ops:Array Oper} {fr fr':List PV} {σ σ':Store} (h:pops tb Γ ops.toList ops.toList fr σ=some (fr',σ')) (hd:ordered Γ ops.toList=true∨(qcy true Γ ops.toList=true∧qeZ Γ ops.toList fr' σ.objs.length=true)) :
  ∃ b F S X,Told tb Γ ops b F S X∧F 0=fr∧S 0=σ∧F ops.size=fr'∧S ops.size=σ':=by
 obtain ⟨F,S,X,hF,hS,hF',hS',ht⟩:=qld _ _ _ _ _ h
 rcases hd with h1 | ⟨h1,h2⟩
 ·exact ⟨false,F,S,X,⟨h1,ht,fun k i o hk hr hf=>by
   unfold reads at hr
   rw [hf] at hr
   cases hr⟩,hF,hS,by simpa using hF',by simpa using hS'⟩
 ·refine ⟨true,F,S,X,⟨h1,ht,fun k i o hk hr hf hi hp=>qr4 ht ?_ k i o hk hr hf (by simpa using hi) hp⟩,hF,hS,by simpa using hF',by simpa using hS'⟩
  rw [hF',hS]
  exact h2
theorem qCr (hT:qbY P tb) (hΓ:qaR P gl Γ) {ops:Array Oper} {i:Nat} (hi:i+1 < ops.size) (hg:qkk i ops=true)
  {bA bB:Bool} {FA FB:Nat→List PV} {SA SB:Nat→Store} {XA XB:Nat→PV} (hA:Told tb Γ (opsA i ops) bA FA SA XA) (hB:Told tb Γ (opsB i ops) bB FB SB XB)
  (hqA:∀ a' w',St gl H0 w0 (FA ops.size) (SA ops.size) a' w'→Q .normal a' w') (hqB:∀ a' w',St gl H0 w0 (FB ops.size) (SB ops.size) a' w'→Q .normal a' w') :
  ∀ (fuel:Nat) (listed:Array Bool) (fr:List PV) (σ:Store) (a:Act) (w:World),listed.size=ops.size→listed.toList.count false≤fuel→¬ In listed i→¬ In listed (i+1)→Inv Γ (opsA i ops).toList FA SA listed fr σ→Inv Γ (opsB i ops).toList FB SB listed fr σ→St gl H0 w0 fr σ a w→∀ (r:Option Nat) (n:Nat),wpAnyIn (rnd r) n P .any ops Q fuel listed a w:=by
 have dA:∀ (fuel:Nat) (listed:Array Bool) (fr:List PV) (σ:Store) (a:Act) (w:World),listed.size=ops.size→listed.toList.count false≤fuel→Inv Γ (opsA i ops).toList FA SA listed fr σ→St gl H0 w0 fr σ a w→∀ (r:Option Nat) (n:Nat),wpAnyIn (rnd r) n P .any (opsA i ops) Q fuel listed a w :=
  fun fuel listed fr σ a w hs=>qpw hT hΓ hA.ord hA.tr hA.free (by rw [qxA]; exact hqA) fuel listed fr σ a w (by rw [qxA]; exact hs)
 have dB:∀ (fuel:Nat) (listed:Array Bool) (fr:List PV) (σ:Store) (a:Act) (w:World),listed.size=ops.size→listed.toList.count false≤fuel→Inv Γ (opsB i ops).toList FB SB listed fr σ→St gl H0 w0 fr σ a w→∀ (r:Option Nat) (n:Nat),wpAnyIn (rnd r) n P .any (opsB i ops) Q fuel listed a w :=
  fun fuel listed fr σ a w hs=>qpw hT hΓ hB.ord hB.tr hB.free (by rw [qrw]; exact hqB) fuel listed fr σ a w (by rw [qrw]; exact hs)
 have hl0:∀ listed:Array Bool,¬ In listed i→¬ In listed (i+1)→∀ k,In listed (swp i k)↔In listed k:=by
  intro listed h1 h2 k
  by_cases e1:k=i
  ·subst e1
   simp [swp,h1,h2]
  ·by_cases e2:k=i+1
   ·subst e2
    simp [swp,h1,h2]
   ·rw [qsp e1 e2]
 intro fuel
 induction fuel with
 | zero =>
  intro listed fr σ a w hs hc h1 h2 hIA hIB hst
  have hb:i < listed.size:=by omega
  have h0:false ∉ listed.toList:=List.count_eq_zero.1 (by omega)
  unfold In at h1
  rw [Array.getD_eq_getD_getElem?,Array.getElem?_eq_getElem hb] at h1
  cases hl:listed[i] with
  | true=>simp [hl] at h1
  | false=>exact absurd (by rw [← hl]; simp) h0
 | succ fuel ih =>
  intro listed fr σ a w hs hc h1 h2 hIA hIB hst r n
  have wA:=dA (fuel+1) listed fr σ a w hs hc hIA hst r n
  have wB:=dB (fuel+1) listed fr σ a w hs hc hIB hst r n
  have hsub:∀ k,k ∈ Region.ready .any (opsA i ops) listed→k ∈ Region.ready .any ops listed:=by
   intro k hk
   rw [qdx (by rw [qxA]; exact hs)] at hk
   obtain ⟨o2,ho2,hn,he⟩:=hk
   rw [atA] at ho2
   cases ho:ops[k]? with
   | none=>rw [ho] at ho2; cases ho2
   | some o =>
    rw [ho] at ho2
    simp only [Option.map_some,Option.some.injEq] at ho2
    subst ho2
    refine (qdx hs).2 ⟨o,ho,hn,fun e he' hb=>he e ?_ hb⟩
    unfold eA
    split
    ·simp only [Array.toList_push,List.mem_append]
     exact .inl he'
    ·exact he'
  refine ⟨fun hnil=>wA.1 (List.eq_nil_iff_forall_not_mem.2 fun k hk=>?_),fun k hk=>?_⟩
  ·have:=hsub k hk
   rw [hnil] at this
   cases this
  obtain ⟨o,ho,hn,he⟩:=(qdx hs).1 hk
  have hkl:k < ops.size:=(Array.getElem?_eq_some_iff.1 ho).1
  by_cases e1:k=i
  ·subst e1
   have hrA:k ∈ Region.ready .any (opsA k ops) listed:=by
    rw [qdx (by rw [qxA]; exact hs),atA,ho]
    refine ⟨_,rfl,hn,fun e he' hb=>he e ?_ hb⟩
    unfold eA at he'
    rw [if_neg (by omega)] at he'
    exact he'
   exact opA k ops _ k a w (wpOpIn_mono (fun a' w' h'=>simA k ops fuel _ a' w' (by simp [hs]) ((qef (by omega)).2 (.inl rfl)) h') (wA.2 k hrA))
  by_cases e2:k=i+1
  ·subst e2
   have hat:=atB hi ho
   have hsw:swp i (i+1)=i:=by simp [swp]
   rw [hsw] at hat
   have hrB:i ∈ Region.ready .any (opsB i ops) listed:=by
    rw [qdx (by rw [qrw]; exact hs)]
    refine ⟨_,hat,h1,fun e he' hb=>?_⟩
    simp only [eB,Array.toList_append,Array.toList_map,List.mem_append,List.mem_map] at he'
    rcases he' with ⟨e0,he0,rfl⟩ | he'
    ·exact (hl0 listed h1 h2 _).2 (he e0 he0 hb)
    ·rw [if_neg (by omega)] at he'
     simp at he'
   refine opB hi hg _ (i+1) a w ?_
   rw [hsw]
   refine wpOpIn_mono (fun a' w' h'=>simB hi hg fuel _ _ a' w' (by simp [hs]) (by simp [hs]) ((qef (by omega)).2 (.inl rfl)) (fun m=>?_) h') (wB.2 i hrB)
   rw [qef (by omega),qef (by omega),hl0 listed h1 h2]
   constructor
   ·rintro (h | h)
    ·exact .inl (by rw [← qx5 i m,h]; simp [swp])
    ·exact .inr h
   ·rintro (rfl | h)
    ·exact .inl hsw
    ·exact .inr h
  -- another one
  have hoA:(opsA i ops).toList[k]?=some o:=by
   rw [Array.getElem?_toList,atA,ho]
   simp only [Option.map_some,eA,if_neg e2]
  have hoB:(opsB i ops).toList[k]?=some (eB i k o):=by
   rw [Array.getElem?_toList]
   have:=atB hi ho
   rwa [qsp e1 e2] at this
  obtain ⟨xA,σA,hcA,hIA'⟩:=qzh hA.ord hA.tr (by simpa using hA.free) hIA hoA (by omega) hn he
  obtain ⟨xB,σB,hcB,hIB'⟩:=qzh hB.ord hB.tr (by simpa using hB.free) hIB hoB (by omega) hn (fun e he' hb=>by
   simp only [eB,Array.toList_append,Array.toList_map,List.mem_append,List.mem_map] at he'
   rcases he' with ⟨e0,he0,rfl⟩ | he'
   ·exact (hl0 listed h1 h2 _).2 (he e0 he0 hb)
   ·rw [if_neg e2] at he'
    simp at he')
  have hwA:pwanted (opsA i ops).toList fr o=pwanted ops.toList fr o:=by
   unfold pwanted
   cases hgd:o.guard with
   | none=>rfl
   | some gb =>
    obtain ⟨g,b⟩:=gb
    simp only []
    have:((opsA i ops).toList[g]?).bind (·.dst)=(ops.toList[g]?).bind (·.dst):=by
     rw [Array.getElem?_toList,Array.getElem?_toList,atA]
     cases ops[g]? with
     | none=>rfl
     | some y =>
      obtain ⟨z,hz⟩:=qJT i g y
      simp only [Option.map_some,Option.bind_some,hz]
    rw [this]
  have hwB:pwanted (opsB i ops).toList fr (eB i k o)=pwanted ops.toList fr o:=by
   unfold pwanted
   have e:(eB i k o).guard=o.guard:=rfl
   rw [e]
   cases hgd:o.guard with
   | none=>rfl
   | some gb =>
    obtain ⟨g,b⟩:=gb
    obtain ⟨g1,g2⟩:=qrH hg ho hgd
    simp only []
    have:((opsB i ops).toList[g]?).bind (·.dst)=(ops.toList[g]?).bind (·.dst):=by
     rw [Array.getElem?_toList,Array.getElem?_toList]
     cases hx:ops[g]? with
     | none =>
      have:(opsB i ops)[g]?=none:=by
       rw [Array.getElem?_eq_none_iff] at hx ⊢
       rw [qrw]
       exact hx
      rw [this]
     | some y =>
      have:=atB hi hx
      rw [qsp g1 g2] at this
      rw [this]
      rfl
    rw [this]
  have hpB:pop tb Γ fr σ (eB i k o)=pop tb Γ fr σ o:=rfl
  have hdB:(eB i k o).dst=o.dst:=rfl
  rw [hwA] at hcA
  rw [hwB,hpB] at hcB
  rw [hdB] at hIB'
  have hcount:(listed.setIfInBounds k true).toList.count false≤fuel:=by
   have hlk:listed[k]?=some false:=by
    have hb:k < listed.size:=by omega
    unfold In at hn
    rw [Array.getD_eq_getD_getElem?,Array.getElem?_eq_getElem hb] at hn
    rw [Array.getElem?_eq_getElem hb]
    simpa using hn
   have:=qvE listed.toList k (by rw [Array.getElem?_toList]; exact hlk)
   simp only [Array.toList_setIfInBounds]
   omega
  have hsize:(listed.setIfInBounds k true).size=ops.size:=by simp [hs]
  have n1:¬ In (listed.setIfInBounds k true) i:=by
   rw [qef (by omega)]
   rintro (h | h)
   ·exact e1 h.symm
   ·exact h1 h
  have n2:¬ In (listed.setIfInBounds k true) (i+1):=by
   rw [qef (by omega)]
   rintro (h | h)
   ·exact e2 h.symm
   ·exact h2 h
  unfold wpOpIn
  simp only [ho]
  rcases hcA with ⟨hw,rfl,rfl⟩ | ⟨hw,hp⟩
  ·rcases hcB with ⟨_,rfl,rfl⟩ | ⟨hw',_⟩
   ·have hwn:=qgx hst hw
    simp only [hwn]
    exact ⟨fun _ _=>trivial,ih _ _ _ _ _ hsize hcount n1 n2 hIA' hIB' (qvX hst _) r n⟩
   ·rw [hw] at hw'
    cases hw'
  ·rcases hcB with ⟨hw',_⟩ | ⟨_,hp'⟩
   ·rw [hw] at hw'
    cases hw'
   ·rw [hp] at hp'
    simp only [Option.some.injEq,Prod.mk.injEq] at hp'
    obtain ⟨rfl,rfl⟩:=hp'
    have hwn:=qgx hst hw
    simp only [hwn,if_true]
    exact qtg hT hΓ hst hp (fun a' w' hst'=>ih _ _ _ _ _ hsize hcount n1 n2 hIA' hIB' hst' r n) r n
theorem qs2 (hT:qbY P tb) (hΓ:qaR P gl Γ) (hm:P.follows .mixedOrders=true) {id i:Nat} {ops:Array Oper} (hi:i+1 < ops.size) (hg:qkk i ops=true) {fr frA frB:List PV} {σ σA σB:Store} {a:Act} {w:World} (hst:St gl H0 w0 fr σ a w)
  (hA:pops tb Γ (opsA i ops).toList (opsA i ops).toList fr σ=some (frA,σA)) (hdA:ordered Γ (opsA i ops).toList=true∨(qcy true Γ (opsA i ops).toList=true∧qeZ Γ (opsA i ops).toList frA σ.objs.length=true))
  (hB:pops tb Γ (opsB i ops).toList (opsB i ops).toList fr σ=some (frB,σB)) (hdB:ordered Γ (opsB i ops).toList=true∨(qcy true Γ (opsB i ops).toList=true∧qeZ Γ (opsB i ops).toList frB σ.objs.length=true))
  (hqA:∀ a' w',St gl H0 w0 frA σA a' w'→Q .normal a' w') (hqB:∀ a' w',St gl H0 w0 frB σB a' w'→Q .normal a' w') (r:Option Nat) (n:Nat):(Code.region id ops true).wpIn (rnd r) n P Q a w:=by
 refine wpIn_region_any hm ?_
 obtain ⟨bA,FA,SA,XA,tA,hFA,hSA,hFA',hSA'⟩:=qBQ hA hdA
 obtain ⟨bB,FB,SB,XB,tB,hFB,hSB,hFB',hSB'⟩:=qBQ hB hdB
 rw [qxA] at hFA' hSA'
 rw [qrw] at hFB' hSB'
 have iA:=inv0 tA.tr ops.size
 have iB:=inv0 tB.tr ops.size
 rw [hFA,hSA] at iA
 rw [hFB,hSB] at iB
 exact qCr hT hΓ hi hg tA tB (by rw [hFA',hSA']; exact hqA) (by rw [hFB',hSB']; exact hqB) ops.size _ fr σ _ _ (by simp) (Nat.le_trans List.count_le_length (by simp)) (qBF _ _) (qBF _ _) iA iB (qFj hst) r n
end
def hasR (id:Nat):Code→Bool
 | .region id' _ draw=>Nat.beq id' id && draw
 | .seq x y=>hasR id x || hasR id y
 | _=>false
def qhY (id i:Nat) (b:Bool):Code→Code
 | .region id' ops draw=>match Nat.beq id' id && draw with
  | true=>.region id' (match b with | true=>opsB i ops | false=>opsA i ops) draw
  | false=>.region id' ops draw
 | .seq x y=>match hasR id x with
  | true=>.seq (qhY id i b x) y
  | false=>.seq x (qhY id i b y)
 | c=>c
def qrR (id i:Nat):Code→Bool
 | .region id' ops draw=>!(Nat.beq id' id && draw) || (Nat.blt (i+1) ops.size && qkk i ops)
 | .seq x y=>qrR id i x && qrR id i y
 | _=>true
def qAp (id i:Nat) (b:Bool) (fn:Func):Func:={ fn with body:=fn.body.map (qhY id i b) }
section
variable {P : Program} {tb : Tab} {gl : Gl} {Γ : Gam}
def qKK (P:Program) (gl:Gl) (c:Code) (fr:List PV) (σ:Store) (O:PExit→List PV→Store→Prop):Prop :=
 ∀ (r:Option Nat) (n:Nat) (H0:Gh) (w0:World),RIn r H0→∀ (Q:Exit→Act→World→Prop) (a:Act) (w:World),St gl H0 w0 fr σ a w→(∀ e fr' σ',O e fr' σ'→∀ a' w',St gl H0 w0 fr' σ' a' w'→Q e.as a' w')→c.wpIn (rnd r) n P Q a w
theorem Does.all {c:Code} {fr:List PV} {σ:Store} {e:PExit} {fr':List PV} {σ':Store} {O:PExit→List PV→Store→Prop} (h:Does P gl c fr σ e fr' σ') (ho:O e fr' σ'):qKK P gl c fr σ O :=
 fun r n H0 w0 hR Q a w hst hq=>h r n H0 w0 hR Q a w hst (hq _ _ _ ho)
theorem qHt {ops:Array Oper} {fr fr1:List PV} {σ σ1:Store} {id:Nat} {e:PExit} {fr':List PV} {σ':Store} (hd:qbE Γ (.region id ops true)=true) {L:Lps} (h:pexec tb Γ L (.region id ops true) fr σ=some (e,fr',σ')) :
  e=.normal∧pops tb Γ ops.toList ops.toList fr σ=some (fr',σ')∧(ordered Γ ops.toList=true∨(qcy true Γ ops.toList=true∧qeZ Γ ops.toList fr' σ.objs.length=true)):=by
 simp only [pexec] at h
 split at h
 ·rename_i fr1 σ1 hp
  split at h
  ·cases h
  rename_i hna
  simp only [Option.some.injEq,Prod.mk.injEq] at h
  obtain ⟨rfl,rfl,rfl⟩:=h
  refine ⟨rfl,hp,?_⟩
  simp only [qbE,Bool.not_true,Bool.false_or,Bool.or_eq_true,Bool.and_eq_true] at hd
  rcases hd with hd | ⟨hd1,hd2⟩
  ·exact .inl hd
  ·cases ho:ordered Γ ops.toList with
   | true=>exact .inl rfl
   | false =>
    refine .inr ⟨hd2,?_⟩
    cases hal:qeZ Γ ops.toList fr1 σ.objs.length with
    | true=>rfl
    | false=>simp [qCG,hd1,ho,hal] at hna
 ·cases h
theorem qns (hT:qbY P tb) (hΓ:qaR P gl Γ) (hm:P.follows .mixedOrders=true) {L:Lps} {id i:Nat} {O:PExit→List PV→Store→Prop}:∀ (c:Code) (fr:List PV) (σ:Store) (eA:PExit) (frA:List PV) (σA:Store) (eB:PExit) (frB:List PV) (σB:Store),
  qrR id i c=true→qcj P gl L c→qbE Γ (qhY id i false c)=true→qbE Γ (qhY id i true c)=true→pexec tb Γ L (qhY id i false c) fr σ=some (eA,frA,σA)→pexec tb Γ L (qhY id i true c) fr σ=some (eB,frB,σB)→O eA frA σA→O eB frB σB→qKK P gl c fr σ O
 | .region id' ops draw,fr,σ,eA,frA,σA,eB,frB,σB,hp,hL,hdA,hdB,hA,hB,oA,oB=>by
  cases hid:Nat.beq id' id && draw with
  | false =>
   simp only [qhY,hid] at hdA hA
   exact (qby hT hΓ hm _ fr σ eA frA σA hL hdA hA).all oA
  | true =>
   have hdr:draw=true:=by
    cases draw with
    | true=>rfl
    | false=>simp at hid
   subst hdr
   simp only [qhY,hid] at hdA hdB hA hB
   simp only [qrR,hid,Bool.not_true,Bool.false_or,Bool.and_eq_true] at hp
   obtain ⟨rfl,a1,a2⟩:=qHt (fr1:=fr) (σ1:=σ) hdA hA
   obtain ⟨rfl,b1,b2⟩:=qHt (fr1:=fr) (σ1:=σ) hdB hB
   intro r n H0 w0 hR Q a w hst hq
   exact qs2 hT hΓ hm (by simpa [Nat.blt_eq] using hp.1) hp.2 hst a1 a2 b1 b2 (hq _ _ _ oA) (hq _ _ _ oB) r n
 | .seq x y,fr,σ,eA,frA,σA,eB,frB,σB,hp,hL,hdA,hdB,hA,hB,oA,oB=>by
  simp only [qrR,Bool.and_eq_true] at hp
  cases hx:hasR id x with
  | true =>
   simp only [qhY,hx,qbE,Bool.and_eq_true] at hdA hdB
   simp only [qhY,hx,pexec] at hA hB
   intro r n H0 w0 hR Q a w hst hq
   refine wpIn_seq ?_
   -- behind the first part: the second,or out
   have key:∀ (b:Bool) (eX:PExit) (frX:List PV) (σX:Store),(match pexec tb Γ L (qhY id i b x) fr σ with | some (.normal,fr',σ')=>pexec tb Γ L y fr' σ' | r=>r)=some (eX,frX,σX)→O eX frX σX →
     ∃ e1 fr1 σ1,pexec tb Γ L (qhY id i b x) fr σ=some (e1,fr1,σ1)∧∀ a1 w1,St gl H0 w0 fr1 σ1 a1 w1→(match e1.as with | .normal=>y.wpIn (rnd r) n P Q a1 w1 | e=>Q e a1 w1):=by
    intro b eX frX σX h ho
    split at h
    ·rename_i fr1 σ1 hx1
     exact ⟨.normal,fr1,σ1,hx1,fun a1 w1 hst1=>qby hT hΓ hm y fr1 σ1 eX frX σX hL.2 hdA.2 h r n H0 w0 hR _ _ _ hst1 (hq _ _ _ ho)⟩
    ·rename_i hne
     refine ⟨eX,frX,σX,h,fun a1 w1 hst1=>?_⟩
     cases eX with
     | normal=>exact absurd h (hne _ _)
     | exit id=>exact hq _ _ _ ho _ _ hst1
     | ret=>exact hq _ _ _ ho _ _ hst1
   obtain ⟨e1,f1,s1,p1,k1⟩:=key false _ _ _ hA oA
   obtain ⟨e2,f2,s2,p2,k2⟩:=key true _ _ _ hB oB
   refine qns hT hΓ hm (O:=fun e f s=>(e,f,s)=(e1,f1,s1)∨(e,f,s)=(e2,f2,s2)) x fr σ _ _ _ _ _ _ hp.1 hL.1 hdA.1 hdB.1 p1 p2 (.inl rfl) (.inr rfl) r n H0 w0 hR _ a w hst ?_
   rintro e f s (h | h) a1 w1 hst1
   ·cases h
    have:=k1 a1 w1 hst1
    cases e1 <;> exact this
   ·cases h
    have:=k2 a1 w1 hst1
    cases e2 <;> exact this
  | false =>
   simp only [qhY,hx,qbE,Bool.and_eq_true] at hdA hdB
   simp only [qhY,hx,pexec] at hA hB
   intro r n H0 w0 hR Q a w hst hq
   refine wpIn_seq ?_
   cases hx1:pexec tb Γ L x fr σ with
   | none=>rw [hx1] at hA; cases hA
   | some t =>
    obtain ⟨e1,f1,s1⟩:=t
    refine qby hT hΓ hm x fr σ e1 f1 s1 hL.1 hdA.1 hx1 r n H0 w0 hR _ a w hst fun a1 w1 hst1=>?_
    rw [hx1] at hA hB
    cases e1 with
    | normal=>exact qns hT hΓ hm (O:=O) y f1 s1 _ _ _ _ _ _ hp.2 hL.2 hdA.2 hdB.2 hA hB oA oB r n H0 w0 hR Q a1 w1 hst1 hq
    | exit id =>
     simp only [Option.some.injEq,Prod.mk.injEq] at hA
     obtain ⟨rfl,rfl,rfl⟩:=hA
     exact hq _ _ _ oA _ _ hst1
    | ret =>
     simp only [Option.some.injEq,Prod.mk.injEq] at hA
     obtain ⟨rfl,rfl,rfl⟩:=hA
     exact hq _ _ _ oA _ _ hst1
 | .skip,fr,σ,eA,frA,σA,eB,frB,σB,hp,hL,hdA,hdB,hA,hB,oA,oB=>(qby hT hΓ hm _ fr σ eA frA σA hL hdA hA).all oA
 | .label _,fr,σ,eA,frA,σA,eB,frB,σB,hp,hL,hdA,hdB,hA,hB,oA,oB=>(qby hT hΓ hm _ fr σ eA frA σA hL hdA hA).all oA
 | .cond _ _ _,fr,σ,eA,frA,σA,eB,frB,σB,hp,hL,hdA,hdB,hA,hB,oA,oB=>(qby hT hΓ hm _ fr σ eA frA σA hL hdA hA).all oA
 | .block _ _,fr,σ,eA,frA,σA,eB,frB,σB,hp,hL,hdA,hdB,hA,hB,oA,oB=>(qby hT hΓ hm _ fr σ eA frA σA hL hdA hA).all oA
 | .loop _,fr,σ,eA,frA,σA,eB,frB,σB,hp,hL,hdA,hdB,hA,hB,oA,oB=>(qby hT hΓ hm _ fr σ eA frA σA hL hdA hA).all oA
 | .scope _,fr,σ,eA,frA,σA,eB,frB,σB,hp,hL,hdA,hdB,hA,hB,oA,oB=>(qby hT hΓ hm _ fr σ eA frA σA hL hdA hA).all oA
 | .exit _,fr,σ,eA,frA,σA,eB,frB,σB,hp,hL,hdA,hdB,hA,hB,oA,oB=>(qby hT hΓ hm _ fr σ eA frA σA hL hdA hA).all oA
 | .rangeFunc _ _ _ _,fr,σ,eA,frA,σA,eB,frB,σB,hp,hL,hdA,hdB,hA,hB,oA,oB=>(qby hT hΓ hm _ fr σ eA frA σA hL hdA hA).all oA
 | .goto _,fr,σ,eA,frA,σA,eB,frB,σB,hp,hL,hdA,hdB,hA,hB,oA,oB=>(qby hT hΓ hm _ fr σ eA frA σA hL hdA hA).all oA
 | .refuse _,fr,σ,eA,frA,σA,eB,frB,σB,hp,hL,hdA,hdB,hA,hB,oA,oB=>(qby hT hΓ hm _ fr σ eA frA σA hL hdA hA).all oA
 | .ret,fr,σ,eA,frA,σA,eB,frB,σB,hp,hL,hdA,hdB,hA,hB,oA,oB=>(qby hT hΓ hm _ fr σ eA frA σA hL hdA hA).all oA
theorem SimP.of_doesO (hT : qbY P tb) {f : FuncId} {fn : Func} {c : Code} (hf : P.funcs[f]? = some fn) (hb : fn.body = some c) (hn : (fn.name == "runtime.NumGoroutine") = false)
  {F:List PV→Option PV} (h:∀ args x,F args=some x→(∃ H w vs,RelL H w args vs)→∃ O:PExit→List PV→Store→Prop,qKK P gl c (args++List.replicate (fn.ntmps - args.length) .top) ⟨[],[],[]⟩ O ∧
   ∀ e fr σ,O e fr σ→(e=.normal∨e=.ret)∧∃ xs,presults tb fr σ fn.results.toList=some xs∧pout (xs.map (oview σ.objs))=x):SimP P gl f F where
 ent:=⟨fn,hf,hn,by simp [hb]⟩
 run:=by
  intro args x hx H w vs hB hob htk hgl hrel
  obtain ⟨O,hdo,hO⟩:=h args x hx ⟨H,w,vs,hrel⟩
  refine qp6 (r:=none) (n:=0) (callsIn_of_wp_marks hf hb trivial ?_)
  have hst:St gl { H with K:=w.heap.size } w (args++List.replicate (fn.ntmps - args.length) .top) ⟨[],[],[]⟩ { tmps:=vs.toArray++Array.replicate (fn.ntmps - vs.toArray.size) undef,defers:=[] } w:=by
   refine ⟨{ H with K:=w.heap.size },Ev.refl _ w,⟨by show H.B≤_; rw [hB]; exact Nat.le_refl _,fun b o e=>⟨by show b < H.B; rw [hB]; exact qax (hgl b o e),hgl b o e⟩,by simp [hob],fun id b cs e=>by simp [hob] at e,fun i j b e=>by simp [hob] at e,by simp [htk],fun t T e=>by simp [htk] at e,fun t u T U e=>by simp [htk] at e,rfl,fun id b T cs e=>by simp [hob] at e⟩,?_,Marks.nil (Nat.le_refl _)⟩
   have hl:=hrel.len
   have e:(vs.toArray++Array.replicate (fn.ntmps - vs.toArray.size) undef).toList=vs++List.replicate (fn.ntmps - args.length) undef:=by simp [hl]
   rw [e]
   refine (hrel.mono (Mono.setK' H w _)).app ?_
   have:=RelL.tops (H:={ H with K:=w.heap.size }) (w:=w) (List.replicate (fn.ntmps - args.length) undef)
   simpa using this
  have fin:∀ (fr:List PV) (σ:Store) (a:Act) (w':World) (xs:List PV),St gl { H with K:=w.heap.size } w fr σ a w'→presults tb fr σ fn.results.toList=some xs→pout (xs.map (oview σ.objs))=x →
    LeavesInM (rnd none) 0 P fn a.tmps (fun e w'=>∃ v,e=.returned v∧(Below w.heap.size w w'∧Dr gl w w')∧Rel { H with aux:=fun _ _=>False } w' x v) a.defers .returning w':=by
   intro fr σ a w1 xs hst hxs hx
   obtain ⟨H',hev1,hok1,hfr1,_,Ds,hds,hnd,hD⟩:=hst
   rw [hds]
   refine qf9 (gl:=gl) (H:={ H with K:=w.heap.size }) (H':=H') (w0:=w) (σ:=σ) (by show H.B≤_; rw [hB]; exact Nat.le_refl _) hev1.B Ds w1 hev1 hok1 (Ev.refl (gl:=gl) H' w1).mono hnd (fun D hDs=>by have h1:=hD D hDs; rw [hev1.K] at h1; exact h1) ?_
   intro w' hev hok hmo
   have hfr:=hfr1.mono hmo
   obtain ⟨vs',hvs,hrs⟩:=qgW hT hok hfr _ _ hxs
   have hbel:Below w.heap.size w w':=⟨hev.os,hev.tape,hev.output,hev.size,fun b hlt=>hev.block b (by show b < H.B; rw [hB]; exact hlt)⟩
   have hrun:(results fn a.tmps).run P w'=.ok (if h:vs'.toArray.size=1 then vs'.toArray[0] else .tuple vs'.toArray) w':=by
    rw [qm1]
    simp only [Sem.run_bind,hvs,Result.andThen_ok,Sem.run_pure]
   have back:∀ {y:PV} {u:Value},Rel { { H with K:=w.heap.size } with aux:=fun _ _=>False } w' y u→Rel { H with aux:=fun _ _=>False } w' y u:=fun h=>Rel.mono (Mono.setK { H with aux:=fun _ _=>False } w' w.heap.size) h
   have backL:∀ {y:List PV} {u:List Value},RelL { { H with K:=w.heap.size } with aux:=fun _ _=>False } w' y u→RelL { H with aux:=fun _ _=>False } w' y u:=fun h=>RelL.mono (Mono.setK { H with aux:=fun _ _=>False } w' w.heap.size) h
   refine ⟨_,hrun,_,rfl,⟨hbel,hev.dr⟩,?_⟩
   subst hx
   have hl:=hrs.len
   cases hrs with
   | nil =>
    simp only [List.map_nil,pout,qfe]
    exact .tup [] [] .nil
   | cons y v ys us hy hys =>
    cases hys with
    | nil=>exact back (qqw hev hok hob htk hy)
    | cons y2 v2 ys us hy2 hys =>
     have h1:¬ ((v :: v2 :: us).toArray.size=1):=by simp
     rw [dif_neg h1]
     exact .tup _ _ (backL (qmR hev hok hob htk (.cons _ _ _ _ hy (.cons _ _ _ _ hy2 hys))))
  refine hdo none 0 _ w (RIn.none _) _ _ _ hst fun e fr1 σ1 ho a' w' hst'=>?_
  obtain ⟨he,xs,hxs,hpo⟩:=hO e fr1 σ1 ho
  rcases he with rfl | rfl
  ·exact fin fr1 σ1 a' w' xs hst' hxs hpo
  ·exact fin fr1 σ1 a' w' xs hst' hxs hpo
theorem qr6 {L:Lps} {fn:Func} {c:Code} (hb:fn.body=some c) {args:List PV} {x:PV} (h:pcall tb Γ L fn args=some x):∃ e fr σ,pexec tb Γ L c (args++List.replicate (fn.ntmps - args.length) .top) ⟨[],[],[]⟩=some (e,fr,σ)∧(e=.normal∨e=.ret)∧∃ xs,presults tb fr σ fn.results.toList=some xs∧pout (xs.map (oview σ.objs))=x:=by
 simp only [pcall,hb] at h
 split at h
 ·rename_i fr σ he
  obtain ⟨xs,hxs,hpo⟩:=qbt h
  exact ⟨.normal,fr,σ,he,.inl rfl,xs,hxs,hpo⟩
 ·rename_i fr σ he
  obtain ⟨xs,hxs,hpo⟩:=qbt h
  exact ⟨.ret,fr,σ,he,.inr rfl,xs,hxs,hpo⟩
 ·cases h
theorem SimP.of_swap {G : GamT} (hT : qbY P tb) (hΓ : qaR P gl (gam G)) (hm : P.follows .mixedOrders = true) (id i : Nat) {f : FuncId} {fn : Func} {c : Code} (hf : P.funcs[f]? = some fn) (hb : fn.body = some c) (hn : (fn.name == "runtime.NumGoroutine") = false)
  (hp:qrR id i c=true) (hdA:qbE (gam G) (qhY id i false c)=true) (hdB:qbE (gam G) (qhY id i true c)=true) {L:LpsT} (hL:qcj P gl (lps L) c) {F:List PV→Tr PV}
  (h:∀ args x,(F args).run=some x→(tcall tb G L (qAp id i false fn) args).flat.run=some x∧(tcall tb G L (qAp id i true fn) args).flat.run=some x):SimP P gl f fun args=>(F args).run:=by
 refine SimP.of_doesO hT hf hb hn fun args x hx _=>?_
 obtain ⟨hA,hB⟩:=h args x hx
 have bd:∀ b,(qAp id i b fn).body=some (qhY id i b c):=fun b=>by simp [qAp,hb]
 obtain ⟨eA,frA,σA,pA,qA⟩:=qr6 (bd false) (qoX (Tr.flat_run hA))
 obtain ⟨eB,frB,σB,pB,qB⟩:=qr6 (bd true) (qoX (Tr.flat_run hB))
 refine ⟨fun e fr σ=>(e=.normal∨e=.ret)∧∃ xs,presults tb fr σ fn.results.toList=some xs∧pout (xs.map (oview σ.objs))=x,?_,fun _ _ _ h=>h⟩
 exact qns hT hΓ hm c _ _ eA frA σA eB frB σB hp hL hdA hdB pA pB qA qB
end
end Go.Pv
set_option maxHeartbeats 4000000
set_option maxRecDepth 200000
set_option linter.unusedSimpArgs false
set_option linter.unusedVariables false
namespace Go.Pv
open Go Go.Proofs
noncomputable def qum:GamT:=ofL [(18,.pure qmX),(20,.pure qvQ),(26,.pure qxU),(30,.pure qJc)]
theorem qEE (gl:Gl) (hg:GlLex gl):qaR Tryz.prog gl (gam qum):=(qac (qlK gl hg) (qac (qs3 gl hg) (qac (qE0 gl hg) (qac (qJq gl hg) qag))))
noncomputable def qxJ:LpsT:=fun r fr σ=>.fail
noncomputable def qoy:Tr PV:=.ite (qeW [112] [[.int .i64 1,.str [88],.int .i64 0,.int .i64 0,.str []]] [[.int .i64 2,.str [113],.sl [[.int .i64 1,.str [88],.int .i64 0,.int .i64 0,.str []],[.int .i64 3,.str [],.int .i64 0,.int .i64 0,.str []]] .non,.int .i64 0,.int .i64 0,.str [],.int .i64 0,.int .i64 0,.str [],.int .i64 0,.str [],.int .i64 0,.int .i64 0,.str []],[.int .i64 3,.str [],.sl [] .non,.int .i64 2,.int .i64 1,.str [88],.int .i64 0,.int .i64 0,.str [],.int .i64 2,.str [],.int .i64 1,.int .i64 (-3),.str []]]) (.ite (qif [103,111] [[.str [88],.int .i64 1]] [[.bool true,.str [112],.sl [[.int .i64 1,.str [88],.int .i64 0,.int .i64 0,.str []]] .non]]) (.ite (iEq (qg5 [112] [[.int .i64 1,.str [88],.int .i64 0,.int .i64 0,.str []]] [[.int .i64 2,.str [113],.sl [[.int .i64 1,.str [88],.int .i64 0,.int .i64 0,.str []],[.int .i64 3,.str [],.int .i64 0,.int .i64 0,.str []]] .non,.int .i64 0,.int .i64 0,.str [],.int .i64 0,.int .i64 0,.str [],.int .i64 0,.str [],.int .i64 0,.int .i64 0,.str []],[.int .i64 3,.str [],.sl [] .non,.int .i64 2,.int .i64 1,.str [88],.int .i64 0,.int .i64 0,.str [],.int .i64 2,.str [],.int .i64 1,.int .i64 (-3),.str []]]) 0) (.ite (sEq (qhh [112] [[.int .i64 1,.str [88],.int .i64 0,.int .i64 0,.str []]] [[.int .i64 2,.str [113],.sl [[.int .i64 1,.str [88],.int .i64 0,.int .i64 0,.str []],[.int .i64 3,.str [],.int .i64 0,.int .i64 0,.str []]] .non,.int .i64 0,.int .i64 0,.str [],.int .i64 0,.int .i64 0,.str [],.int .i64 0,.str [],.int .i64 0,.int .i64 0,.str []],[.int .i64 3,.str [],.sl [] .non,.int .i64 2,.int .i64 1,.str [88],.int .i64 0,.int .i64 0,.str [],.int .i64 2,.str [],.int .i64 1,.int .i64 (-3),.str []]]) [112,40,88,41,32,58,45,32,110,111,116,32,113,40,88,44,32,95,41,44,32,88,32,33,61,32,45,51,46]) (.ite (iEq (qtV [103,111] [[.str [88],.int .i64 1]] [[.bool true,.str [112],.sl [[.int .i64 1,.str [88],.int .i64 0,.int .i64 0,.str []]] .non]]) 0) (.ite (sEq
 (qtY [103,111] [[.str [88],.int .i64 1]] [[.bool true,.str [112],.sl [[.int .i64 1,.str [88],.int .i64 0,.int .i64 0,.str []]] .non]]) [111,110,32,103,111,40,88,32,105,110,116,41,58,32,43,112,40,88,41,46]) (.ite (qdj [110,111,116]) (.ite (bNot (qeY [110,111,116])) (.ite (qge [65,98]) (.ret (.bool (qlx [65,98]))) .fail) (.ret (.bool false))) .fail) (.ret (.bool false))) (.ret (.bool false))) (.ret (.bool false))) (.ret (.bool false))) .fail) .fail
theorem qJP:(tcall tbT qum qxJ (qAp 2 7 false Tryz.f22) []).flat=qoy:=by kernel_rfl
theorem qHq:(tcall tbT qum qxJ (qAp 2 7 true Tryz.f22) []).flat=qoy:=by kernel_rfl
noncomputable def qul:Option PV:=(qoy).run
noncomputable def qmk:Bool:=(qb4 (gVal (qul)))
noncomputable def qk5:Bool:=isW (qul) (.bool (qmk))
noncomputable def qxb:List PV→Tr PV | []=>.ite (qk5) (.ret (.bool (qmk))) (.fail) | _=>.fail
theorem qBv (gl:Gl) (hg:GlLex gl):SimP Tryz.prog gl 22 fun args=>(qxb args).run:=by
 refine SimP.of_swap (G:=qum) (L:=qxJ) qav (qEE gl hg ) qah 2 7 Tryz.func22 rfl (by rfl) (by kernel_rfl) (by kernel_rfl) (by kernel_rfl) (qae (by kernel_rfl)) ?_
 intro args x h
 unfold qxb at h
 split at h
 ·have h:=(qai h fun h=>by cases h)
  exact ⟨(congrArg Tr.run (qJP)).trans h,(congrArg Tr.run (qHq)).trans h⟩
 ·cases h
noncomputable def qsv:GamT:=ofL [(22,.pure qxb),(35,.pure qmP),(36,.pure qmx),(38,.pure qtf)]
theorem qBe (gl:Gl) (hg:GlLex gl):qaR Tryz.prog gl (gam qsv):=(qac (qBv gl hg) (qac (qu3 gl) (qac (qu9 gl hg) (qac (qz7 gl) qag))))
noncomputable def qzE:LpsT:=fun r fr σ=>.fail
noncomputable def qq0 (p_:List (List PV)) (p_2:List (List PV)) (p_3:List (List PV)):Tr PV:=.ite qk5 (.ite (bNot qmk) (.ret (.bool false)) (.ite (qdm (qaa p_) (qaa p_2) (qaa p_3)) (.ite (qdO (qaa (qb8 (qaa p_) (qaa p_2) (qaa p_3))) (qaa (qb0 (qaa p_) (qaa p_2) (qaa p_3))) (qaa (qb3 (qaa p_) (qaa p_2) (qaa p_3)))) (.ite (iNe (qeA (qaa (qb8 (qaa p_) (qaa p_2) (qaa p_3))) (qaa (qb0 (qaa p_) (qaa p_2) (qaa p_3))) (qaa (qb3 (qaa p_) (qaa p_2) (qaa p_3)))) 0) (.ret (.bool (sEq (qdp (qaa (qb8 (qaa p_) (qaa p_2) (qaa p_3))) (qaa (qb0 (qaa p_) (qaa p_2) (qaa p_3))) (qaa (qb3 (qaa p_) (qaa p_2) (qaa p_3)))) []))) (.ite (qiP (qdp (qaa (qb8 (qaa p_) (qaa p_2) (qaa p_3))) (qaa (qb0 (qaa p_) (qaa p_2) (qaa p_3))) (qaa (qb3 (qaa p_) (qaa p_2) (qaa p_3))))) (.ret (.bool (iEq (qiJ (qdp (qaa (qb8 (qaa p_) (qaa p_2) (qaa p_3))) (qaa (qb0 (qaa p_) (qaa p_2) (qaa p_3))) (qaa (qb3 (qaa p_) (qaa p_2) (qaa p_3))))) 0))) .fail)) .fail) .fail)) .fail
theorem qGN (p_:List (List PV)) (p_2:List (List PV)) (p_3:List (List PV)):(tcall tbT qsv qzE Tryz.f7 [.agg [.sl p_ .non,.sl p_2 .non,.sl p_3 .non]]).flat=qq0 p_ p_2 p_3:=by kernel_rfl
noncomputable def qor (p_:List (List PV)) (p_2:List (List PV)) (p_3:List (List PV)):Option PV:=(qq0 p_ p_2 p_3).run
noncomputable def qnY (p_:List (List PV)) (p_2:List (List PV)) (p_3:List (List PV)):Bool:=(qb4 (gVal (qor p_ p_2 p_3)))
noncomputable def qmv (p_:List (List PV)) (p_2:List (List PV)) (p_3:List (List PV)):Bool:=isW (qor p_ p_2 p_3) (.bool (qnY p_ p_2 p_3))
noncomputable def qma:List PV→Tr PV | [.agg [.sl p_ .non,.sl p_2 .non,.sl p_3 .non]]=>.ite (qmv p_ p_2 p_3) (.ret (.bool (qnY p_ p_2 p_3))) (.fail) | _=>.fail
theorem qzY (gl:Gl) (hg:GlLex gl):SimP Tryz.prog gl 7 fun args=>(qma args).run:=by
 refine SimP.of_flat (G:=qsv) (L:=qzE) qav (qBe gl hg ) qah  Tryz.func7 rfl (by rfl) (by kernel_rfl) (qae (by kernel_rfl)) ?_
 intro args x h
 unfold qma at h
 split at h
 ·exact (congrArg Tr.run (qGN _ _ _)).trans (qai h fun h=>by cases h)
 ·cases h
end Go.Pv
set_option maxHeartbeats 8000000
set_option maxRecDepth 200000
set_option linter.unusedSimpArgs false
set_option linter.unusedVariables false
namespace Go.Pv
open Go Go.Proofs Go.RowKit
def cutT (s:Txt):Txt:=s.take 300
def cpTm (t:Tm):Tm:=(t.1,cutT t.2.1,t.2.2.1,t.2.2.2.1,cutT t.2.2.2.2)
def cpAt (a:At):At:=(cutT a.1,(a.2.take 12).map cpTm)
def cpLi (l:Li):Li:=(l.1,cpAt l.2.1,l.2.2.1,cpTm l.2.2.2.1,cpTm l.2.2.2.2)
def cpRu (r:Ru):Ru:=(cpAt r.1,(r.2.take 8).map cpLi)
def cpDe (d:De):De:=(cutT d.1,d.2.1,d.2.2.take 12)
def cpPa (p:Pa):Pa:=(cutT p.1,p.2)
def cpAc (a:Ac):Ac:=(a.1,cpAt a.2)
def cpEn (o:En):En:=(cutT o.1,(o.2.1.take 12).map cpPa,(o.2.2.take 8).map cpAc)
theorem qHO (s:Txt):tx_W s=some (.str (cutT s)):=by
 unfold tx_W qKv cutT
 by_cases h:(300:Int) < s.length
 ·have h2:300≤s.length:=by omega
  have h3:(300:Int)≤s.length:=by omega
  simp [h,h2,h3]
 ·have:s.take 300=s:=List.take_of_length_le (by omega)
  simp [h,this]
@[simp] theorem qMJ (s:Txt):qlr s=true:=by simp [qlr,tx_s,qHO]
@[simp] theorem tx_v (s:Txt):tx_s s=cutT s:=by simp [tx_s,qHO]
theorem qgB (k:Int) (b:Txt) (c n:Int) (s:Txt):qh4 k b c n s=some (.agg [.int .i64 k,.str (cutT b),.int .i64 c,.int .i64 n,.str (cutT s)]):=by
 unfold qh4 qsJ
 simp
@[simp] theorem tterm_is (k:Int) (b:Txt) (c n:Int) (s:Txt):qcX k b c n s=true:=by simp only [qcX,qdJ,qcv,qct,qdF,qcx,qgB]; simp
@[simp] theorem tterm_v0 (k:Int) (b:Txt) (c n:Int) (s:Txt):qdJ k b c n s=k:=by simp only [qcX,qdJ,qcv,qct,qdF,qcx,qgB]; simp
@[simp] theorem tterm_v1 (k:Int) (b:Txt) (c n:Int) (s:Txt):qdF k b c n s=cutT b:=by simp only [qcX,qdJ,qcv,qct,qdF,qcx,qgB]; simp
@[simp] theorem tterm_v2 (k:Int) (b:Txt) (c n:Int) (s:Txt):qcv k b c n s=c:=by simp only [qcX,qdJ,qcv,qct,qdF,qcx,qgB]; simp
@[simp] theorem tterm_v3 (k:Int) (b:Txt) (c n:Int) (s:Txt):qct k b c n s=n:=by simp only [qcX,qdJ,qcv,qct,qdF,qcx,qgB]; simp
@[simp] theorem tterm_v4 (k:Int) (b:Txt) (c n:Int) (s:Txt):qcx k b c n s=cutT s:=by simp only [qcX,qdJ,qcv,qct,qdF,qcx,qgB]; simp
theorem qpT {n m:Nat}:min n m≤n:=Nat.min_le_left _ _
theorem qhE {α:Type} (l:List α) (m:Nat):l.take (min l.length m)=l.take m:=by
 by_cases h:l.length≤m
 ·rw [Nat.min_eq_left h,List.take_length,List.take_of_length_le h]
 ·rw [Nat.min_eq_right (by omega)]
theorem qyc (s s2 s3:Txt) (r2:List (List PV)) (l:List Tm):qeH [.ptr 0 0,.ptr 1 0,.ptr 2 0,.int .i64 0] ⟨[[.str s,.sl (rOf cM l) .non],[.str s2,.sl r2 .full],[.str s3,.sl [] (.tok 0)]],[(0,5,27)],[31,31,31]⟩=some (.exit 0,[.ptr 1 0,.ptr 2 0],⟨[[.str s,.sl (rOf cM l) .non],[.str s2,.sl r2 .full],[.str s3,.sl (rOf cM ((l.take 12).map cpTm)) (.tok 0)]],[((min l.length 12),5,27)],[31,31,31]⟩):=by
 have hl:=qg0 (l:=l) (min l.length 12) qpT (V:=fun i b=>qeH [.ptr 0 0,.ptr 1 0,.ptr 2 0,.int .i64 (i:Nat)] ⟨[[.str s,.sl (rOf cM l) .non],[.str s2,.sl r2 .full],[.str s3,.sl (rOf cM b) (.tok 0)]],[(b.length,5,27)],[31,31,31]⟩) cpTm (fun b=>some (.exit 0,[.ptr 1 0,.ptr 2 0],⟨[[.str s,.sl (rOf cM l) .non],[.str s2,.sl r2 .full],[.str s3,.sl (rOf cM b) (.tok 0)]],[(b.length,5,27)],[31,31,31]⟩)) ?_ ?_
 ·rw [qhE] at hl
  rw [show min l.length 12=((l.take 12).map cpTm).length by rw [List.length_map,List.length_take]; omega]
  exact hl
 ·intro i b a hb hi hn ha
  have q1:iLt (i:Int) (xLen (rOf cM l))=true:=by simp; omega
  have q2:iLt (i:Int) 12=true:=by simp; omega
  have q3:qaw (i:Int)=true:=by simp
  have q4:qbM [PV.int .i64 0,.str [],.int .i64 0,.int .i64 0,.str []] (rOf cM l) (nNat (i:Int))=true:=by simp; omega
  have w:=qbw (i:=i) (by omega)
  have o1:∀ c,qaP (rOf cM b) [c] 56=true:=fun c=>by simp; omega
  have o3:qaC (rOf cM b) 5=true:=qDr _
  have o4:nEq b.length (nXs (rOf cM b))=true:=by simp
  have x0:xInt (rOf cM l) (nNat (i:Int)) 0=a.1:=by simp [hi,ha]
  have x1:xStr (rOf cM l) (nNat (i:Int)) 1=a.2.1:=by simp [hi,ha]
  have x2:xInt (rOf cM l) (nNat (i:Int)) 2=a.2.2.1:=by simp [hi,ha]
  have x3:xInt (rOf cM l) (nNat (i:Int)) 3=a.2.2.2.1:=by simp [hi,ha]
  have x4:xStr (rOf cM l) (nNat (i:Int)) 4=a.2.2.2.2:=by simp [hi,ha]
  show qeH [.ptr 0 0,.ptr 1 0,.ptr 2 0,.int .i64 (i:Nat)] ⟨[[.str s,.sl (rOf cM l) .non],[.str s2,.sl r2 .full],[.str s3,.sl (rOf cM b) (.tok 0)]],[(b.length,5,27)],[31,31,31]⟩=qeH [.ptr 0 0,.ptr 1 0,.ptr 2 0,.int .i64 ((i+1:Nat):Int)] ⟨[[.str s,.sl (rOf cM l) .non],[.str s2,.sl r2 .full],[.str s3,.sl (rOf cM (b++[cpTm a])) (.tok 0)]],[((b++[cpTm a]).length,5,27)],[31,31,31]⟩
  rw [qzz]
  simp only [qiz,q1,q2,q3,q4,o1,o3,o4,w,x0,x1,x2,x3,x4,qip,qaz]
  simp [one,qJ0,cpTm]
 ·intro b hb
  have q:iLt ((min l.length 12:Nat):Int) (xLen (rOf cM l))=false∨iLt ((min l.length 12:Nat):Int) 12=false:=by
   by_cases h:l.length≤12
   ·left; simp; omega
   ·right; simp; omega
  show qeH [.ptr 0 0,.ptr 1 0,.ptr 2 0,.int .i64 ((min l.length 12:Nat):Int)] ⟨[[.str s,.sl (rOf cM l) .non],[.str s2,.sl r2 .full],[.str s3,.sl (rOf cM b) (.tok 0)]],[(b.length,5,27)],[31,31,31]⟩=_
  rw [qzz]
  rcases q with q | q
  ·simp only [qiz,q]
   simp
  ·cases q2:iLt ((min l.length 12:Nat):Int) (xLen (rOf cM l)) <;> (simp only [qiz,q,q2]; simp)
theorem qpW (a:At):qpx a.1 (rOf cM a.2)=some (.agg [.str (cpAt a).1,.sl (rOf cM (cpAt a).2) .non]):=by
 have h:=qyc a.1 [] (cutT a.1) [] a.2
 have h':qe9 0 a.1 (rOf cM a.2) [] [] (cutT a.1) [] 0=_:=h
 unfold qpx qtT
 simp only [qMJ,tx_v,qmZ,qtJ,qtK,qo9,qme,qtE,qqg,qk0,h']
 simp [cpAt]
@[simp] theorem qF1 (a:Txt) (l:List Tm):qeT a (rOf cM l)=true:=by simp only [qeT,qdC,qdM,qpW (a,l)]; simp
@[simp] theorem qGq (a:Txt) (l:List Tm):qdM a (rOf cM l)=cutT a:=by simp only [qeT,qdC,qdM,qpW (a,l)]; simp [cpAt]
@[simp] theorem qGF (a:Txt) (l:List Tm):qdC a (rOf cM l)=rOf cM ((l.take 12).map cpTm):=by simp only [qeT,qdC,qdM,qpW (a,l)]; simp [cpAt]
theorem qbv (l:Li):qbI l.1 l.2.1.1 (rOf cM l.2.1.2) l.2.2.1 l.2.2.2.1.1 l.2.2.2.1.2.1 l.2.2.2.1.2.2.1 l.2.2.2.1.2.2.2.1 l.2.2.2.1.2.2.2.2 l.2.2.2.2.1 l.2.2.2.2.2.1 l.2.2.2.2.2.2.1 l.2.2.2.2.2.2.2.1 l.2.2.2.2.2.2.2.2=some (.agg [.int .i64 (cpLi l).1,.str (cpLi l).2.1.1,.sl (rOf cM (cpLi l).2.1.2) .non,.int .i64 (cpLi l).2.2.1,.int .i64 (cpLi l).2.2.2.1.1,.str (cpLi l).2.2.2.1.2.1,.int .i64 (cpLi l).2.2.2.1.2.2.1,.int .i64 (cpLi l).2.2.2.1.2.2.2.1,.str (cpLi l).2.2.2.1.2.2.2.2,.int .i64 (cpLi l).2.2.2.2.1,.str (cpLi l).2.2.2.2.2.1,.int .i64 (cpLi l).2.2.2.2.2.2.1,.int .i64 (cpLi l).2.2.2.2.2.2.2.1,.str (cpLi l).2.2.2.2.2.2.2.2]):=by
 unfold qbI qkM
 simp [cpLi,cpAt,cpTm]
@[simp] theorem tliteral_is (a0:Int) (a1:Txt) (a2:List Tm) (a3 a4:Int) (a5:Txt) (a6 a7:Int) (a8:Txt) (a9:Int) (a10:Txt) (a11 a12:Int) (a13:Txt):qbc a0 a1 (rOf cM a2) a3 a4 a5 a6 a7 a8 a9 a10 a11 a12 a13=true:=by simp only [qbc,qbj,qa0,qa1,qa5,qa4,qa3,qaV,qaZ,qbk,qbl,qaX,qaU,qaW,qaY,qbv (a0,(a1,a2),a3,(a4,a5,a6,a7,a8),(a9,a10,a11,a12,a13))]; simp
@[simp] theorem tliteral_v0 (a0:Int) (a1:Txt) (a2:List Tm) (a3 a4:Int) (a5:Txt) (a6 a7:Int) (a8:Txt) (a9:Int) (a10:Txt) (a11 a12:Int) (a13:Txt):qbj a0 a1 (rOf cM a2) a3 a4 a5 a6 a7 a8 a9 a10 a11 a12 a13=(cpLi (a0,(a1,a2),a3,(a4,a5,a6,a7,a8),(a9,a10,a11,a12,a13))).1:=by simp only [qbc,qbj,qa0,qa1,qa5,qa4,qa3,qaV,qaZ,qbk,qbl,qaX,qaU,qaW,qaY,qbv (a0,(a1,a2),a3,(a4,a5,a6,a7,a8),(a9,a10,a11,a12,a13))]; simp
@[simp] theorem tliteral_v1 (a0:Int) (a1:Txt) (a2:List Tm) (a3 a4:Int) (a5:Txt) (a6 a7:Int) (a8:Txt) (a9:Int) (a10:Txt) (a11 a12:Int) (a13:Txt):qbl a0 a1 (rOf cM a2) a3 a4 a5 a6 a7 a8 a9 a10 a11 a12 a13=(cpLi (a0,(a1,a2),a3,(a4,a5,a6,a7,a8),(a9,a10,a11,a12,a13))).2.1.1:=by simp only [qbc,qbj,qa0,qa1,qa5,qa4,qa3,qaV,qaZ,qbk,qbl,qaX,qaU,qaW,qaY,qbv (a0,(a1,a2),a3,(a4,a5,a6,a7,a8),(a9,a10,a11,a12,a13))]; simp
@[simp] theorem tliteral_v2 (a0:Int) (a1:Txt) (a2:List Tm) (a3 a4:Int) (a5:Txt) (a6 a7:Int) (a8:Txt) (a9:Int) (a10:Txt) (a11 a12:Int) (a13:Txt):qbk a0 a1 (rOf cM a2) a3 a4 a5 a6 a7 a8 a9 a10 a11 a12 a13=rOf cM (cpLi (a0,(a1,a2),a3,(a4,a5,a6,a7,a8),(a9,a10,a11,a12,a13))).2.1.2:=by simp only [qbc,qbj,qa0,qa1,qa5,qa4,qa3,qaV,qaZ,qbk,qbl,qaX,qaU,qaW,qaY,qbv (a0,(a1,a2),a3,(a4,a5,a6,a7,a8),(a9,a10,a11,a12,a13))]; simp
@[simp] theorem tliteral_v3 (a0:Int) (a1:Txt) (a2:List Tm) (a3 a4:Int) (a5:Txt) (a6 a7:Int) (a8:Txt) (a9:Int) (a10:Txt) (a11 a12:Int) (a13:Txt):qa0 a0 a1 (rOf cM a2) a3 a4 a5 a6 a7 a8 a9 a10 a11 a12 a13=(cpLi (a0,(a1,a2),a3,(a4,a5,a6,a7,a8),(a9,a10,a11,a12,a13))).2.2.1:=by simp only [qbc,qbj,qa0,qa1,qa5,qa4,qa3,qaV,qaZ,qbk,qbl,qaX,qaU,qaW,qaY,qbv (a0,(a1,a2),a3,(a4,a5,a6,a7,a8),(a9,a10,a11,a12,a13))]; simp
@[simp] theorem tliteral_v4 (a0:Int) (a1:Txt) (a2:List Tm) (a3 a4:Int) (a5:Txt) (a6 a7:Int) (a8:Txt) (a9:Int) (a10:Txt) (a11 a12:Int) (a13:Txt):qa1 a0 a1 (rOf cM a2) a3 a4 a5 a6 a7 a8 a9 a10 a11 a12 a13=(cpLi (a0,(a1,a2),a3,(a4,a5,a6,a7,a8),(a9,a10,a11,a12,a13))).2.2.2.1.1:=by simp only [qbc,qbj,qa0,qa1,qa5,qa4,qa3,qaV,qaZ,qbk,qbl,qaX,qaU,qaW,qaY,qbv (a0,(a1,a2),a3,(a4,a5,a6,a7,a8),(a9,a10,a11,a12,a13))]; simp
@[simp] theorem tliteral_v5 (a0:Int) (a1:Txt) (a2:List Tm) (a3 a4:Int) (a5:Txt) (a6 a7:Int) (a8:Txt) (a9:Int) (a10:Txt) (a11 a12:Int) (a13:Txt):qaX a0 a1 (rOf cM a2) a3 a4 a5 a6 a7 a8 a9 a10 a11 a12 a13=(cpLi (a0,(a1,a2),a3,(a4,a5,a6,a7,a8),(a9,a10,a11,a12,a13))).2.2.2.1.2.1:=by simp only [qbc,qbj,qa0,qa1,qa5,qa4,qa3,qaV,qaZ,qbk,qbl,qaX,qaU,qaW,qaY,qbv (a0,(a1,a2),a3,(a4,a5,a6,a7,a8),(a9,a10,a11,a12,a13))]; simp
@[simp] theorem tliteral_v6 (a0:Int) (a1:Txt) (a2:List Tm) (a3 a4:Int) (a5:Txt) (a6 a7:Int) (a8:Txt) (a9:Int) (a10:Txt) (a11 a12:Int) (a13:Txt):qa5 a0 a1 (rOf cM a2) a3 a4 a5 a6 a7 a8 a9 a10 a11 a12 a13=(cpLi (a0,(a1,a2),a3,(a4,a5,a6,a7,a8),(a9,a10,a11,a12,a13))).2.2.2.1.2.2.1:=by simp only [qbc,qbj,qa0,qa1,qa5,qa4,qa3,qaV,qaZ,qbk,qbl,qaX,qaU,qaW,qaY,qbv (a0,(a1,a2),a3,(a4,a5,a6,a7,a8),(a9,a10,a11,a12,a13))]; simp
@[simp] theorem tliteral_v7 (a0:Int) (a1:Txt) (a2:List Tm) (a3 a4:Int) (a5:Txt) (a6 a7:Int) (a8:Txt) (a9:Int) (a10:Txt) (a11 a12:Int) (a13:Txt):qa4 a0 a1 (rOf cM a2) a3 a4 a5 a6 a7 a8 a9 a10 a11 a12 a13=(cpLi (a0,(a1,a2),a3,(a4,a5,a6,a7,a8),(a9,a10,a11,a12,a13))).2.2.2.1.2.2.2.1:=by simp only [qbc,qbj,qa0,qa1,qa5,qa4,qa3,qaV,qaZ,qbk,qbl,qaX,qaU,qaW,qaY,qbv (a0,(a1,a2),a3,(a4,a5,a6,a7,a8),(a9,a10,a11,a12,a13))]; simp
@[simp] theorem tliteral_v8 (a0:Int) (a1:Txt) (a2:List Tm) (a3 a4:Int) (a5:Txt) (a6 a7:Int) (a8:Txt) (a9:Int) (a10:Txt) (a11 a12:Int) (a13:Txt):qaU a0 a1 (rOf cM a2) a3 a4 a5 a6 a7 a8 a9 a10 a11 a12 a13=(cpLi (a0,(a1,a2),a3,(a4,a5,a6,a7,a8),(a9,a10,a11,a12,a13))).2.2.2.1.2.2.2.2:=by simp only [qbc,qbj,qa0,qa1,qa5,qa4,qa3,qaV,qaZ,qbk,qbl,qaX,qaU,qaW,qaY,qbv (a0,(a1,a2),a3,(a4,a5,a6,a7,a8),(a9,a10,a11,a12,a13))]; simp
@[simp] theorem tliteral_v9 (a0:Int) (a1:Txt) (a2:List Tm) (a3 a4:Int) (a5:Txt) (a6 a7:Int) (a8:Txt) (a9:Int) (a10:Txt) (a11 a12:Int) (a13:Txt):qa3 a0 a1 (rOf cM a2) a3 a4 a5 a6 a7 a8 a9 a10 a11 a12 a13=(cpLi (a0,(a1,a2),a3,(a4,a5,a6,a7,a8),(a9,a10,a11,a12,a13))).2.2.2.2.1:=by simp only [qbc,qbj,qa0,qa1,qa5,qa4,qa3,qaV,qaZ,qbk,qbl,qaX,qaU,qaW,qaY,qbv (a0,(a1,a2),a3,(a4,a5,a6,a7,a8),(a9,a10,a11,a12,a13))]; simp
@[simp] theorem tliteral_v10 (a0:Int) (a1:Txt) (a2:List Tm) (a3 a4:Int) (a5:Txt) (a6 a7:Int) (a8:Txt) (a9:Int) (a10:Txt) (a11 a12:Int) (a13:Txt):qaW a0 a1 (rOf cM a2) a3 a4 a5 a6 a7 a8 a9 a10 a11 a12 a13=(cpLi (a0,(a1,a2),a3,(a4,a5,a6,a7,a8),(a9,a10,a11,a12,a13))).2.2.2.2.2.1:=by simp only [qbc,qbj,qa0,qa1,qa5,qa4,qa3,qaV,qaZ,qbk,qbl,qaX,qaU,qaW,qaY,qbv (a0,(a1,a2),a3,(a4,a5,a6,a7,a8),(a9,a10,a11,a12,a13))]; simp
@[simp] theorem tliteral_v11 (a0:Int) (a1:Txt) (a2:List Tm) (a3 a4:Int) (a5:Txt) (a6 a7:Int) (a8:Txt) (a9:Int) (a10:Txt) (a11 a12:Int) (a13:Txt):qaV a0 a1 (rOf cM a2) a3 a4 a5 a6 a7 a8 a9 a10 a11 a12 a13=(cpLi (a0,(a1,a2),a3,(a4,a5,a6,a7,a8),(a9,a10,a11,a12,a13))).2.2.2.2.2.2.1:=by simp only [qbc,qbj,qa0,qa1,qa5,qa4,qa3,qaV,qaZ,qbk,qbl,qaX,qaU,qaW,qaY,qbv (a0,(a1,a2),a3,(a4,a5,a6,a7,a8),(a9,a10,a11,a12,a13))]; simp
@[simp] theorem tliteral_v12 (a0:Int) (a1:Txt) (a2:List Tm) (a3 a4:Int) (a5:Txt) (a6 a7:Int) (a8:Txt) (a9:Int) (a10:Txt) (a11 a12:Int) (a13:Txt):qaZ a0 a1 (rOf cM a2) a3 a4 a5 a6 a7 a8 a9 a10 a11 a12 a13=(cpLi (a0,(a1,a2),a3,(a4,a5,a6,a7,a8),(a9,a10,a11,a12,a13))).2.2.2.2.2.2.2.1:=by simp only [qbc,qbj,qa0,qa1,qa5,qa4,qa3,qaV,qaZ,qbk,qbl,qaX,qaU,qaW,qaY,qbv (a0,(a1,a2),a3,(a4,a5,a6,a7,a8),(a9,a10,a11,a12,a13))]; simp
@[simp] theorem tliteral_v13 (a0:Int) (a1:Txt) (a2:List Tm) (a3 a4:Int) (a5:Txt) (a6 a7:Int) (a8:Txt) (a9:Int) (a10:Txt) (a11 a12:Int) (a13:Txt):qaY a0 a1 (rOf cM a2) a3 a4 a5 a6 a7 a8 a9 a10 a11 a12 a13=(cpLi (a0,(a1,a2),a3,(a4,a5,a6,a7,a8),(a9,a10,a11,a12,a13))).2.2.2.2.2.2.2.2:=by simp only [qbc,qbj,qa0,qa1,qa5,qa4,qa3,qaV,qaZ,qbk,qbl,qaX,qaU,qaW,qaY,qbv (a0,(a1,a2),a3,(a4,a5,a6,a7,a8),(a9,a10,a11,a12,a13))]; simp
theorem qxZ (s s2 s3:Txt) (r r3 r4:List (List PV)) (r5:List (List PV)) (l:List Li):qeL [.ptr 0 0,.ptr 1 0,.ptr 2 0,.int .i64 0] ⟨[[.str s,.sl r .non,.sl (rOf cL l) .non],[.str s2,.sl r3 .full,.sl r4 .full],[.str s3,.sl r5 .non,.sl [] (.tok 0)]],[(0,14,34)],[48,48,48]⟩=some (.exit 0,[.ptr 1 0,.ptr 2 0],⟨[[.str s,.sl r .non,.sl (rOf cL l) .non],[.str s2,.sl r3 .full,.sl r4 .full],[.str s3,.sl r5 .non,.sl (rOf cL ((l.take 8).map cpLi)) (.tok 0)]],[((min l.length 8),14,34)],[48,48,48]⟩):=by
 have hl:=qg0 (l:=l) (min l.length 8) qpT (V:=fun i b=>qeL [.ptr 0 0,.ptr 1 0,.ptr 2 0,.int .i64 (i:Nat)] ⟨[[.str s,.sl r .non,.sl (rOf cL l) .non],[.str s2,.sl r3 .full,.sl r4 .full],[.str s3,.sl r5 .non,.sl (rOf cL b) (.tok 0)]],[(b.length,14,34)],[48,48,48]⟩) cpLi (fun b=>some (.exit 0,[.ptr 1 0,.ptr 2 0],⟨[[.str s,.sl r .non,.sl (rOf cL l) .non],[.str s2,.sl r3 .full,.sl r4 .full],[.str s3,.sl r5 .non,.sl (rOf cL b) (.tok 0)]],[(b.length,14,34)],[48,48,48]⟩)) ?_ ?_
 ·rw [qhE] at hl
  rw [show min l.length 8=((l.take 8).map cpLi).length by rw [List.length_map,List.length_take]; omega]
  exact hl
 ·intro i b a hb hi hn ha
  have q1:iLt (i:Int) (xLen (rOf cL l))=true:=by simp; omega
  have q2:iLt (i:Int) 8=true:=by simp; omega
  have q3:qaw (i:Int)=true:=by simp
  have q4:qbM [PV.int .i64 0,.str [],.sl [] .full,.int .i64 0,.int .i64 0,.str [],.int .i64 0,.int .i64 0,.str [],.int .i64 0,.str [],.int .i64 0,.int .i64 0,.str []] (rOf cL l) (nNat (i:Int))=true:=by simp; omega
  have w:=qbw (i:=i) (by omega)
  have o1:∀ c,qaP (rOf cL b) [c] 168=true:=fun c=>by simp; omega
  have o3:qaC (rOf cL b) 14=true:=qBD _
  have o4:nEq b.length (nXs (rOf cL b))=true:=by simp
  have x0:xInt (rOf cL l) (nNat (i:Int)) 0=a.1:=by simp [hi,ha]
  have x1:xStr (rOf cL l) (nNat (i:Int)) 1=a.2.1.1:=by simp [hi,ha]
  have x2:xRow (rOf cL l) (nNat (i:Int)) 2=rOf cM a.2.1.2:=by simp [hi,ha]
  have x3:xInt (rOf cL l) (nNat (i:Int)) 3=a.2.2.1:=by simp [hi,ha]
  have x4:xInt (rOf cL l) (nNat (i:Int)) 4=a.2.2.2.1.1:=by simp [hi,ha]
  have x5:xStr (rOf cL l) (nNat (i:Int)) 5=a.2.2.2.1.2.1:=by simp [hi,ha]
  have x6:xInt (rOf cL l) (nNat (i:Int)) 6=a.2.2.2.1.2.2.1:=by simp [hi,ha]
  have x7:xInt (rOf cL l) (nNat (i:Int)) 7=a.2.2.2.1.2.2.2.1:=by simp [hi,ha]
  have x8:xStr (rOf cL l) (nNat (i:Int)) 8=a.2.2.2.1.2.2.2.2:=by simp [hi,ha]
  have x9:xInt (rOf cL l) (nNat (i:Int)) 9=a.2.2.2.2.1:=by simp [hi,ha]
  have x10:xStr (rOf cL l) (nNat (i:Int)) 10=a.2.2.2.2.2.1:=by simp [hi,ha]
  have x11:xInt (rOf cL l) (nNat (i:Int)) 11=a.2.2.2.2.2.2.1:=by simp [hi,ha]
  have x12:xInt (rOf cL l) (nNat (i:Int)) 12=a.2.2.2.2.2.2.2.1:=by simp [hi,ha]
  have x13:xStr (rOf cL l) (nNat (i:Int)) 13=a.2.2.2.2.2.2.2.2:=by simp [hi,ha]
  show qeL [.ptr 0 0,.ptr 1 0,.ptr 2 0,.int .i64 (i:Nat)] ⟨[[.str s,.sl r .non,.sl (rOf cL l) .non],[.str s2,.sl r3 .full,.sl r4 .full],[.str s3,.sl r5 .non,.sl (rOf cL b) (.tok 0)]],[(b.length,14,34)],[48,48,48]⟩=qeL [.ptr 0 0,.ptr 1 0,.ptr 2 0,.int .i64 ((i+1:Nat):Int)] ⟨[[.str s,.sl r .non,.sl (rOf cL l) .non],[.str s2,.sl r3 .full,.sl r4 .full],[.str s3,.sl r5 .non,.sl (rOf cL (b++[cpLi a])) (.tok 0)]],[((b++[cpLi a]).length,14,34)],[48,48,48]⟩
  rw [qyq]
  simp only [qik,q1,q2,q3,q4,o1,o3,o4,w,x0,x1,x2,x3,x4,x5,x6,x7,x8,x9,x10,x11,x12,x13,qip,qaz]
  simp [one,qII,cpLi]
 ·intro b hb
  have q:iLt ((min l.length 8:Nat):Int) (xLen (rOf cL l))=false∨iLt ((min l.length 8:Nat):Int) 8=false:=by
   by_cases h:l.length≤8
   ·left; simp; omega
   ·right; simp; omega
  show qeL [.ptr 0 0,.ptr 1 0,.ptr 2 0,.int .i64 ((min l.length 8:Nat):Int)] ⟨[[.str s,.sl r .non,.sl (rOf cL l) .non],[.str s2,.sl r3 .full,.sl r4 .full],[.str s3,.sl r5 .non,.sl (rOf cL b) (.tok 0)]],[(b.length,14,34)],[48,48,48]⟩=_
  rw [qyq]
  rcases q with q | q
  ·simp only [qik,q]
   simp
  ·cases q2:iLt ((min l.length 8:Nat):Int) (xLen (rOf cL l)) <;> (simp only [qik,q,q2]; simp)
theorem ql7 (x:Ru):qml x.1.1 (rOf cM x.1.2) (rOf cL x.2)=some (.agg [.str (cpRu x).1.1,.sl (rOf cM (cpRu x).1.2) .non,.sl (rOf cL (cpRu x).2) .non]):=by
 have h:=qxZ x.1.1 [] (cutT x.1.1) (rOf cM x.1.2) [] [] (rOf cM ((x.1.2.take 12).map cpTm)) x.2
 have h':qdA 0 x.1.1 (rOf cM x.1.2) (rOf cL x.2) [] [] [] (cutT x.1.1) (rOf cM ((x.1.2.take 12).map cpTm)) [] 0=_:=h
 unfold qml qt5
 simp only [qaz,qF1,qGq,qGF,qmD,qup,qtc,qqB,qpz,qrg,qlz,qlv,qsF,qo5,qlg,h']
 simp [cpRu,cpAt]
@[simp] theorem trule_is (a:Txt) (l:List Tm) (b:List Li):qfY a (rOf cM l) (rOf cL b)=true:=by simp only [qfY,qfv,qdW,qfm,ql7 ((a,l),b)]; simp
@[simp] theorem trule_v0 (a:Txt) (l:List Tm) (b:List Li):qfm a (rOf cM l) (rOf cL b)=cutT a:=by simp only [qfY,qfv,qdW,qfm,ql7 ((a,l),b)]; simp [cpRu,cpAt]
@[simp] theorem trule_v1 (a:Txt) (l:List Tm) (b:List Li):qfv a (rOf cM l) (rOf cL b)=rOf cM ((l.take 12).map cpTm):=by simp only [qfY,qfv,qdW,qfm,ql7 ((a,l),b)]; simp [cpRu,cpAt]
@[simp] theorem trule_v2 (a:Txt) (l:List Tm) (b:List Li):qdW a (rOf cM l) (rOf cL b)=rOf cL ((b.take 8).map cpLi):=by simp only [qfY,qfv,qdW,qfm,ql7 ((a,l),b)]; simp [cpRu,cpAt]
theorem qkT (d:De):qmS d.1 d.2.1 (rOf cI d.2.2)=some (.agg [.str (cpDe d).1,.bool (cpDe d).2.1,.sl (rOf cI (cpDe d).2.2) .non]):=by
 unfold qmS qtm
 by_cases h:(12:Int) < d.2.2.length
 ·have h2:12≤d.2.2.length:=by omega
  have h3:(12:Int)≤d.2.2.length:=by omega
  simp [h,h2,h3,cpDe]
 ·have:d.2.2.take 12=d.2.2:=List.take_of_length_le (by omega)
  simp [h,this,cpDe]
@[simp] theorem tdecl_is (a:Txt) (b:Bool) (l:List Int):qfN a b (rOf cI l)=true:=by simp only [qfF,qfN,qfk,qfu,qkT (a,b,l)]; simp
@[simp] theorem tdecl_v0 (a:Txt) (b:Bool) (l:List Int):qfu a b (rOf cI l)=cutT a:=by simp only [qfF,qfN,qfk,qfu,qkT (a,b,l)]; simp [cpDe]
@[simp] theorem tdecl_v1 (a:Txt) (b:Bool) (l:List Int):qfF a b (rOf cI l)=b:=by simp only [qfF,qfN,qfk,qfu,qkT (a,b,l)]; simp [cpDe]
@[simp] theorem tdecl_v2 (a:Txt) (b:Bool) (l:List Int):qfk a b (rOf cI l)=rOf cI (l.take 12):=by simp only [qfF,qfN,qfk,qfu,qkT (a,b,l)]; simp [cpDe]
theorem qFm (s s2 s3:Txt) (r2 r3 r4 r6:List (List PV)) (k2:Nat) (l:List Pa):qjO [.ptr 0 0,.ptr 1 0,.ptr 2 0,.int .i64 0] ⟨[[.str s,.sl (rOf cP l) .non,.sl r2 .non],[.str s2,.sl r3 .full,.sl r4 .full],[.str s3,.sl [] (.tok 0),.sl r6 (.tok 1)]],[(0,2,101),(k2,3,103)],[55,55,55]⟩=some (.exit 0,[.ptr 0 0,.ptr 1 0,.ptr 2 0],⟨[[.str s,.sl (rOf cP l) .non,.sl r2 .non],[.str s2,.sl r3 .full,.sl r4 .full],[.str s3,.sl (rOf cP ((l.take 12).map cpPa)) (.tok 0),.sl r6 (.tok 1)]],[((min l.length 12),2,101),(k2,3,103)],[55,55,55]⟩):=by
 have hl:=qg0 (l:=l) (min l.length 12) qpT (V:=fun i b=>qjO [.ptr 0 0,.ptr 1 0,.ptr 2 0,.int .i64 (i:Nat)] ⟨[[.str s,.sl (rOf cP l) .non,.sl r2 .non],[.str s2,.sl r3 .full,.sl r4 .full],[.str s3,.sl (rOf cP b) (.tok 0),.sl r6 (.tok 1)]],[(b.length,2,101),(k2,3,103)],[55,55,55]⟩) cpPa (fun b=>some (.exit 0,[.ptr 0 0,.ptr 1 0,.ptr 2 0],⟨[[.str s,.sl (rOf cP l) .non,.sl r2 .non],[.str s2,.sl r3 .full,.sl r4 .full],[.str s3,.sl (rOf cP b) (.tok 0),.sl r6 (.tok 1)]],[(b.length,2,101),(k2,3,103)],[55,55,55]⟩)) ?_ ?_
 ·rw [qhE] at hl
  rw [show min l.length 12=((l.take 12).map cpPa).length by rw [List.length_map,List.length_take]; omega]
  exact hl
 ·intro i b a hb hi hn ha
  have q1:iLt (i:Int) (xLen (rOf cP l))=true:=by simp; omega
  have q2:iLt (i:Int) 12=true:=by simp; omega
  have q3:qaw (i:Int)=true:=by simp
  have q4:qbM [PV.str [],.int .i64 0] (rOf cP l) (nNat (i:Int))=true:=by simp; omega
  have w:=qbw (i:=i) (by omega)
  have o1:∀ c,qaP (rOf cP b) [c] 24=true:=fun c=>by simp; omega
  have o3:qaC (rOf cP b) 2=true:=qFh _
  have o4:nEq b.length (nXs (rOf cP b))=true:=by simp
  have x0:xStr (rOf cP l) (nNat (i:Int)) 0=a.1:=by simp [hi,ha]
  have x1:xInt (rOf cP l) (nNat (i:Int)) 1=a.2:=by simp [hi,ha]
  show qjO [.ptr 0 0,.ptr 1 0,.ptr 2 0,.int .i64 (i:Nat)] ⟨[[.str s,.sl (rOf cP l) .non,.sl r2 .non],[.str s2,.sl r3 .full,.sl r4 .full],[.str s3,.sl (rOf cP b) (.tok 0),.sl r6 (.tok 1)]],[(b.length,2,101),(k2,3,103)],[55,55,55]⟩=qjO [.ptr 0 0,.ptr 1 0,.ptr 2 0,.int .i64 ((i+1:Nat):Int)] ⟨[[.str s,.sl (rOf cP l) .non,.sl r2 .non],[.str s2,.sl r3 .full,.sl r4 .full],[.str s3,.sl (rOf cP (b++[cpPa a])) (.tok 0),.sl r6 (.tok 1)]],[((b++[cpPa a]).length,2,101),(k2,3,103)],[55,55,55]⟩
  rw [qH0]
  simp only [qqF,q1,q2,q3,q4,o1,o3,o4,w,x0,x1,qip,qaz]
  simp [one,qJU,cpPa]
 ·intro b hb
  have q:iLt ((min l.length 12:Nat):Int) (xLen (rOf cP l))=false∨iLt ((min l.length 12:Nat):Int) 12=false:=by
   by_cases h:l.length≤12
   ·left; simp; omega
   ·right; simp; omega
  show qjO [.ptr 0 0,.ptr 1 0,.ptr 2 0,.int .i64 ((min l.length 12:Nat):Int)] ⟨[[.str s,.sl (rOf cP l) .non,.sl r2 .non],[.str s2,.sl r3 .full,.sl r4 .full],[.str s3,.sl (rOf cP b) (.tok 0),.sl r6 (.tok 1)]],[(b.length,2,101),(k2,3,103)],[55,55,55]⟩=_
  rw [qH0]
  rcases q with q | q
  ·simp only [qqF,q]
   simp
  ·cases q2:iLt ((min l.length 12:Nat):Int) (xLen (rOf cP l)) <;> (simp only [qqF,q,q2]; simp)
theorem qBu (s s2 s3:Txt) (r r3 r4 r5:List (List PV)) (k:Nat) (l:List Ac):qjG [.ptr 0 0,.ptr 1 0,.ptr 2 0,.int .i64 0] ⟨[[.str s,.sl r .non,.sl (rOf cAc l) .non],[.str s2,.sl r3 .full,.sl r4 .full],[.str s3,.sl r5 (.tok 0),.sl [] (.tok 1)]],[(k,2,101),(0,3,103)],[55,55,55]⟩=some (.exit 2,[.ptr 1 0,.ptr 2 0],⟨[[.str s,.sl r .non,.sl (rOf cAc l) .non],[.str s2,.sl r3 .full,.sl r4 .full],[.str s3,.sl r5 (.tok 0),.sl (rOf cAc ((l.take 8).map cpAc)) (.tok 1)]],[(k,2,101),((min l.length 8),3,103)],[55,55,55]⟩):=by
 have hl:=qg0 (l:=l) (min l.length 8) qpT (V:=fun i b=>qjG [.ptr 0 0,.ptr 1 0,.ptr 2 0,.int .i64 (i:Nat)] ⟨[[.str s,.sl r .non,.sl (rOf cAc l) .non],[.str s2,.sl r3 .full,.sl r4 .full],[.str s3,.sl r5 (.tok 0),.sl (rOf cAc b) (.tok 1)]],[(k,2,101),(b.length,3,103)],[55,55,55]⟩) cpAc (fun b=>some (.exit 2,[.ptr 1 0,.ptr 2 0],⟨[[.str s,.sl r .non,.sl (rOf cAc l) .non],[.str s2,.sl r3 .full,.sl r4 .full],[.str s3,.sl r5 (.tok 0),.sl (rOf cAc b) (.tok 1)]],[(k,2,101),(b.length,3,103)],[55,55,55]⟩)) ?_ ?_
 ·rw [qhE] at hl
  rw [show min l.length 8=((l.take 8).map cpAc).length by rw [List.length_map,List.length_take]; omega]
  exact hl
 ·intro i b a hb hi hn ha
  have q1:iLt (i:Int) (xLen (rOf cAc l))=true:=by simp; omega
  have q2:iLt (i:Int) 8=true:=by simp; omega
  have q3:qaw (i:Int)=true:=by simp
  have q4:qbM [PV.bool false,.str [],.sl [] .full] (rOf cAc l) (nNat (i:Int))=true:=by simp; omega
  have w:=qbw (i:=i) (by omega)
  have o1:∀ c,qaP (rOf cAc b) [c] 48=true:=fun c=>by simp; omega
  have o3:qaC (rOf cAc b) 3=true:=qAd _
  have o4:nEq b.length (nXs (rOf cAc b))=true:=by simp
  have x0:qcm (rOf cAc l) (nNat (i:Int)) 0=a.1:=by simp [hi,ha]
  have x1:xStr (rOf cAc l) (nNat (i:Int)) 1=a.2.1:=by simp [hi,ha]
  have x2:xRow (rOf cAc l) (nNat (i:Int)) 2=rOf cM a.2.2:=by simp [hi,ha]
  show qjG [.ptr 0 0,.ptr 1 0,.ptr 2 0,.int .i64 (i:Nat)] ⟨[[.str s,.sl r .non,.sl (rOf cAc l) .non],[.str s2,.sl r3 .full,.sl r4 .full],[.str s3,.sl r5 (.tok 0),.sl (rOf cAc b) (.tok 1)]],[(k,2,101),(b.length,3,103)],[55,55,55]⟩=qjG [.ptr 0 0,.ptr 1 0,.ptr 2 0,.int .i64 ((i+1:Nat):Int)] ⟨[[.str s,.sl r .non,.sl (rOf cAc l) .non],[.str s2,.sl r3 .full,.sl r4 .full],[.str s3,.sl r5 (.tok 0),.sl (rOf cAc (b++[cpAc a])) (.tok 1)]],[(k,2,101),((b++[cpAc a]).length,3,103)],[55,55,55]⟩
  rw [qH6]
  simp only [qqZ,q1,q2,q3,q4,o1,o3,o4,w,x0,x1,x2,cpAt,qip,qaz]
  simp [one,qHp,cpAt,cpAc]
 ·intro b hb
  have q:iLt ((min l.length 8:Nat):Int) (xLen (rOf cAc l))=false∨iLt ((min l.length 8:Nat):Int) 8=false:=by
   by_cases h:l.length≤8
   ·left; simp; omega
   ·right; simp; omega
  show qjG [.ptr 0 0,.ptr 1 0,.ptr 2 0,.int .i64 ((min l.length 8:Nat):Int)] ⟨[[.str s,.sl r .non,.sl (rOf cAc l) .non],[.str s2,.sl r3 .full,.sl r4 .full],[.str s3,.sl r5 (.tok 0),.sl (rOf cAc b) (.tok 1)]],[(k,2,101),(b.length,3,103)],[55,55,55]⟩=_
  rw [qH6]
  rcases q with q | q
  ·simp only [qqZ,q]
   simp
  ·cases q2:iLt ((min l.length 8:Nat):Int) (xLen (rOf cAc l)) <;> (simp only [qqZ,q,q2]; simp)
theorem qsQ (o:En):qAI o.1 (rOf cP o.2.1) (rOf cAc o.2.2)=some (.agg [.str (cpEn o).1,.sl (rOf cP (cpEn o).2.1) .non,.sl (rOf cAc (cpEn o).2.2) .non]):=by
 have h:=qFm o.1 [] (cutT o.1) (rOf cAc o.2.2) [] [] [] 0 o.2.1
 have h':qgz 0 o.1 (rOf cP o.2.1) (rOf cAc o.2.2) [] [] [] (cutT o.1) [] [] 0 0=_:=h
 have g:=qBu o.1 [] (cutT o.1) (rOf cP o.2.1) [] [] (rOf cP ((o.2.1.take 12).map cpPa)) (min o.2.1.length 12) o.2.2
 have g':qgK 0 o.1 (rOf cP o.2.1) (rOf cAc o.2.2) [] [] [] (cutT o.1) (rOf cP ((o.2.1.take 12).map cpPa)) [] (min o.2.1.length 12) 0=_:=g
 unfold qAI qDl
 simp only [qMJ,tx_v,qsS,qpL,qkO,qq1,qkG,qkN,qkF,qkj,qkx,qpb,qkn,qkc,h']
 simp [-List.map_take]
 simp only [qug,qB3,qxW,qD9,qwu,qxh,qwH,qus,qtR,qD5,qxu,qtd,g']
 simp [cpEn]
@[simp] theorem ton_is (a:Txt) (l:List Pa) (b:List Ac):qki a (rOf cP l) (rOf cAc b)=true:=by simp only [qki,qq4,qic,qpA,qsQ (a,l,b)]; simp
@[simp] theorem ton_v0 (a:Txt) (l:List Pa) (b:List Ac):qpA a (rOf cP l) (rOf cAc b)=cutT a:=by simp only [qki,qq4,qic,qpA,qsQ (a,l,b)]; simp [cpEn]
@[simp] theorem ton_v1 (a:Txt) (l:List Pa) (b:List Ac):qq4 a (rOf cP l) (rOf cAc b)=rOf cP ((l.take 12).map cpPa):=by simp only [qki,qq4,qic,qpA,qsQ (a,l,b)]; simp [cpEn]
@[simp] theorem ton_v2 (a:Txt) (l:List Pa) (b:List Ac):qic a (rOf cP l) (rOf cAc b)=rOf cAc ((b.take 8).map cpAc):=by simp only [qki,qq4,qic,qpA,qsQ (a,l,b)]; simp [cpEn]
abbrev Pr:=List De × List En × List Ru
def cpPr (p:Pr):Pr:=((p.1.take 12).map cpDe,(p.2.1.take 8).map cpEn,(p.2.2.take 12).map cpRu)
theorem qrn (r2 r3 r4 r5 r6 r8 r9:List (List PV)) (k2 k3:Nat) (l:List De):qcf [.ptr 0 0,.ptr 1 0,.ptr 2 0,.int .i64 0] ⟨[[.sl (rOf cD l) .non,.sl r2 .non,.sl r3 .non],[.sl r4 .full,.sl r5 .full,.sl r6 .full],[.sl [] (.tok 0),.sl r8 (.tok 1),.sl r9 (.tok 2)]],[(0,3,51),(k2,3,55),(k3,3,48)],[71,71,71]⟩=some (.exit 0,[.ptr 0 0,.ptr 1 0,.ptr 2 0],⟨[[.sl (rOf cD l) .non,.sl r2 .non,.sl r3 .non],[.sl r4 .full,.sl r5 .full,.sl r6 .full],[.sl (rOf cD ((l.take 12).map cpDe)) (.tok 0),.sl r8 (.tok 1),.sl r9 (.tok 2)]],[((min l.length 12),3,51),(k2,3,55),(k3,3,48)],[71,71,71]⟩):=by
 have hl:=qg0 (l:=l) (min l.length 12) qpT (V:=fun i b=>qcf [.ptr 0 0,.ptr 1 0,.ptr 2 0,.int .i64 (i:Nat)] ⟨[[.sl (rOf cD l) .non,.sl r2 .non,.sl r3 .non],[.sl r4 .full,.sl r5 .full,.sl r6 .full],[.sl (rOf cD b) (.tok 0),.sl r8 (.tok 1),.sl r9 (.tok 2)]],[(b.length,3,51),(k2,3,55),(k3,3,48)],[71,71,71]⟩) cpDe (fun b=>some (.exit 0,[.ptr 0 0,.ptr 1 0,.ptr 2 0],⟨[[.sl (rOf cD l) .non,.sl r2 .non,.sl r3 .non],[.sl r4 .full,.sl r5 .full,.sl r6 .full],[.sl (rOf cD b) (.tok 0),.sl r8 (.tok 1),.sl r9 (.tok 2)]],[(b.length,3,51),(k2,3,55),(k3,3,48)],[71,71,71]⟩)) ?_ ?_
 ·rw [qhE] at hl
  rw [show min l.length 12=((l.take 12).map cpDe).length by rw [List.length_map,List.length_take]; omega]
  exact hl
 ·intro i b a hb hi hn ha
  have q1:iLt (i:Int) (xLen (rOf cD l))=true:=by simp; omega
  have q2:iLt (i:Int) 12=true:=by simp; omega
  have q3:qaw (i:Int)=true:=by simp
  have q4:qbM [PV.str [],.bool false,.sl [] .full] (rOf cD l) (nNat (i:Int))=true:=by simp; omega
  have w:=qbw (i:=i) (by omega)
  have o1:∀ c,qaP (rOf cD b) [c] 48=true:=fun c=>by simp; omega
  have o3:qaC (rOf cD b) 3=true:=qFG _
  have o4:nEq b.length (nXs (rOf cD b))=true:=by simp
  have x0:xStr (rOf cD l) (nNat (i:Int)) 0=a.1:=by simp [hi,ha]
  have x1:qcm (rOf cD l) (nNat (i:Int)) 1=a.2.1:=by simp [hi,ha]
  have x2:xRow (rOf cD l) (nNat (i:Int)) 2=rOf cI a.2.2:=by simp [hi,ha]
  show qcf [.ptr 0 0,.ptr 1 0,.ptr 2 0,.int .i64 (i:Nat)] ⟨[[.sl (rOf cD l) .non,.sl r2 .non,.sl r3 .non],[.sl r4 .full,.sl r5 .full,.sl r6 .full],[.sl (rOf cD b) (.tok 0),.sl r8 (.tok 1),.sl r9 (.tok 2)]],[(b.length,3,51),(k2,3,55),(k3,3,48)],[71,71,71]⟩=qcf [.ptr 0 0,.ptr 1 0,.ptr 2 0,.int .i64 ((i+1:Nat):Int)] ⟨[[.sl (rOf cD l) .non,.sl r2 .non,.sl r3 .non],[.sl r4 .full,.sl r5 .full,.sl r6 .full],[.sl (rOf cD (b++[cpDe a])) (.tok 0),.sl r8 (.tok 1),.sl r9 (.tok 2)]],[((b++[cpDe a]).length,3,51),(k2,3,55),(k3,3,48)],[71,71,71]⟩
  rw [qpl]
  simp only [qeO,q1,q2,q3,q4,o1,o3,o4,w,x0,x1,x2,qip,qaz]
  simp [one,qJ2,cpDe]
 ·intro b hb
  have q:iLt ((min l.length 12:Nat):Int) (xLen (rOf cD l))=false∨iLt ((min l.length 12:Nat):Int) 12=false:=by
   by_cases h:l.length≤12
   ·left; simp; omega
   ·right; simp; omega
  show qcf [.ptr 0 0,.ptr 1 0,.ptr 2 0,.int .i64 ((min l.length 12:Nat):Int)] ⟨[[.sl (rOf cD l) .non,.sl r2 .non,.sl r3 .non],[.sl r4 .full,.sl r5 .full,.sl r6 .full],[.sl (rOf cD b) (.tok 0),.sl r8 (.tok 1),.sl r9 (.tok 2)]],[(b.length,3,51),(k2,3,55),(k3,3,48)],[71,71,71]⟩=_
  rw [qpl]
  rcases q with q | q
  ·simp only [qeO,q]
   simp
  ·cases q2:iLt ((min l.length 12:Nat):Int) (xLen (rOf cD l)) <;> (simp only [qeO,q,q2]; simp)
theorem qrs (r r3 r4 r5 r6 r7 r9:List (List PV)) (k1 k3:Nat) (l:List En):qcg [.ptr 0 0,.ptr 1 0,.ptr 2 0,.int .i64 0] ⟨[[.sl r .non,.sl (rOf cE l) .non,.sl r3 .non],[.sl r4 .full,.sl r5 .full,.sl r6 .full],[.sl r7 (.tok 0),.sl [] (.tok 1),.sl r9 (.tok 2)]],[(k1,3,51),(0,3,55),(k3,3,48)],[71,71,71]⟩=some (.exit 2,[.ptr 0 0,.ptr 1 0,.ptr 2 0],⟨[[.sl r .non,.sl (rOf cE l) .non,.sl r3 .non],[.sl r4 .full,.sl r5 .full,.sl r6 .full],[.sl r7 (.tok 0),.sl (rOf cE ((l.take 8).map cpEn)) (.tok 1),.sl r9 (.tok 2)]],[(k1,3,51),((min l.length 8),3,55),(k3,3,48)],[71,71,71]⟩):=by
 have hl:=qg0 (l:=l) (min l.length 8) qpT (V:=fun i b=>qcg [.ptr 0 0,.ptr 1 0,.ptr 2 0,.int .i64 (i:Nat)] ⟨[[.sl r .non,.sl (rOf cE l) .non,.sl r3 .non],[.sl r4 .full,.sl r5 .full,.sl r6 .full],[.sl r7 (.tok 0),.sl (rOf cE b) (.tok 1),.sl r9 (.tok 2)]],[(k1,3,51),(b.length,3,55),(k3,3,48)],[71,71,71]⟩) cpEn (fun b=>some (.exit 2,[.ptr 0 0,.ptr 1 0,.ptr 2 0],⟨[[.sl r .non,.sl (rOf cE l) .non,.sl r3 .non],[.sl r4 .full,.sl r5 .full,.sl r6 .full],[.sl r7 (.tok 0),.sl (rOf cE b) (.tok 1),.sl r9 (.tok 2)]],[(k1,3,51),(b.length,3,55),(k3,3,48)],[71,71,71]⟩)) ?_ ?_
 ·rw [qhE] at hl
  rw [show min l.length 8=((l.take 8).map cpEn).length by rw [List.length_map,List.length_take]; omega]
  exact hl
 ·intro i b a hb hi hn ha
  have q1:iLt (i:Int) (xLen (rOf cE l))=true:=by simp; omega
  have q2:iLt (i:Int) 8=true:=by simp; omega
  have q3:qaw (i:Int)=true:=by simp
  have q4:qbM [PV.str [],.sl [] .full,.sl [] .full] (rOf cE l) (nNat (i:Int))=true:=by simp; omega
  have w:=qbw (i:=i) (by omega)
  have o1:∀ c,qaP (rOf cE b) [c] 64=true:=fun c=>by simp; omega
  have o3:qaC (rOf cE b) 3=true:=qDE _
  have o4:nEq b.length (nXs (rOf cE b))=true:=by simp
  have x0:xStr (rOf cE l) (nNat (i:Int)) 0=a.1:=by simp [hi,ha]
  have x1:xRow (rOf cE l) (nNat (i:Int)) 1=rOf cP a.2.1:=by simp [hi,ha]
  have x2:xRow (rOf cE l) (nNat (i:Int)) 2=rOf cAc a.2.2:=by simp [hi,ha]
  show qcg [.ptr 0 0,.ptr 1 0,.ptr 2 0,.int .i64 (i:Nat)] ⟨[[.sl r .non,.sl (rOf cE l) .non,.sl r3 .non],[.sl r4 .full,.sl r5 .full,.sl r6 .full],[.sl r7 (.tok 0),.sl (rOf cE b) (.tok 1),.sl r9 (.tok 2)]],[(k1,3,51),(b.length,3,55),(k3,3,48)],[71,71,71]⟩=qcg [.ptr 0 0,.ptr 1 0,.ptr 2 0,.int .i64 ((i+1:Nat):Int)] ⟨[[.sl r .non,.sl (rOf cE l) .non,.sl r3 .non],[.sl r4 .full,.sl r5 .full,.sl r6 .full],[.sl r7 (.tok 0),.sl (rOf cE (b++[cpEn a])) (.tok 1),.sl r9 (.tok 2)]],[(k1,3,51),((b++[cpEn a]).length,3,55),(k3,3,48)],[71,71,71]⟩
  rw [qqC]
  simp only [qeR,q1,q2,q3,q4,o1,o3,o4,w,x0,x1,x2,qip,qaz]
  simp [one,qKp,cpEn]
 ·intro b hb
  have q:iLt ((min l.length 8:Nat):Int) (xLen (rOf cE l))=false∨iLt ((min l.length 8:Nat):Int) 8=false:=by
   by_cases h:l.length≤8
   ·left; simp; omega
   ·right; simp; omega
  show qcg [.ptr 0 0,.ptr 1 0,.ptr 2 0,.int .i64 ((min l.length 8:Nat):Int)] ⟨[[.sl r .non,.sl (rOf cE l) .non,.sl r3 .non],[.sl r4 .full,.sl r5 .full,.sl r6 .full],[.sl r7 (.tok 0),.sl (rOf cE b) (.tok 1),.sl r9 (.tok 2)]],[(k1,3,51),(b.length,3,55),(k3,3,48)],[71,71,71]⟩=_
  rw [qqC]
  rcases q with q | q
  ·simp only [qeR,q]
   simp
  ·cases q2:iLt ((min l.length 8:Nat):Int) (xLen (rOf cE l)) <;> (simp only [qeR,q,q2]; simp)
theorem qrh (r r2 r4 r5 r6 r7 r8:List (List PV)) (k1 k2:Nat) (l:List Ru):qce [.ptr 0 0,.ptr 1 0,.ptr 2 0,.int .i64 0] ⟨[[.sl r .non,.sl r2 .non,.sl (rOf cRu l) .non],[.sl r4 .full,.sl r5 .full,.sl r6 .full],[.sl r7 (.tok 0),.sl r8 (.tok 1),.sl [] (.tok 2)]],[(k1,3,51),(k2,3,55),(0,3,48)],[71,71,71]⟩=some (.exit 4,[.ptr 1 0,.ptr 2 0],⟨[[.sl r .non,.sl r2 .non,.sl (rOf cRu l) .non],[.sl r4 .full,.sl r5 .full,.sl r6 .full],[.sl r7 (.tok 0),.sl r8 (.tok 1),.sl (rOf cRu ((l.take 12).map cpRu)) (.tok 2)]],[(k1,3,51),(k2,3,55),((min l.length 12),3,48)],[71,71,71]⟩):=by
 have hl:=qg0 (l:=l) (min l.length 12) qpT (V:=fun i b=>qce [.ptr 0 0,.ptr 1 0,.ptr 2 0,.int .i64 (i:Nat)] ⟨[[.sl r .non,.sl r2 .non,.sl (rOf cRu l) .non],[.sl r4 .full,.sl r5 .full,.sl r6 .full],[.sl r7 (.tok 0),.sl r8 (.tok 1),.sl (rOf cRu b) (.tok 2)]],[(k1,3,51),(k2,3,55),(b.length,3,48)],[71,71,71]⟩) cpRu (fun b=>some (.exit 4,[.ptr 1 0,.ptr 2 0],⟨[[.sl r .non,.sl r2 .non,.sl (rOf cRu l) .non],[.sl r4 .full,.sl r5 .full,.sl r6 .full],[.sl r7 (.tok 0),.sl r8 (.tok 1),.sl (rOf cRu b) (.tok 2)]],[(k1,3,51),(k2,3,55),(b.length,3,48)],[71,71,71]⟩)) ?_ ?_
 ·rw [qhE] at hl
  rw [show min l.length 12=((l.take 12).map cpRu).length by rw [List.length_map,List.length_take]; omega]
  exact hl
 ·intro i b a hb hi hn ha
  have q1:iLt (i:Int) (xLen (rOf cRu l))=true:=by simp; omega
  have q2:iLt (i:Int) 12=true:=by simp; omega
  have q3:qaw (i:Int)=true:=by simp
  have q4:qbM [PV.str [],.sl [] .full,.sl [] .full] (rOf cRu l) (nNat (i:Int))=true:=by simp; omega
  have w:=qbw (i:=i) (by omega)
  have o1:∀ c,qaP (rOf cRu b) [c] 64=true:=fun c=>by simp; omega
  have o3:qaC (rOf cRu b) 3=true:=qAb _
  have o4:nEq b.length (nXs (rOf cRu b))=true:=by simp
  have x0:xStr (rOf cRu l) (nNat (i:Int)) 0=a.1.1:=by simp [hi,ha]
  have x1:xRow (rOf cRu l) (nNat (i:Int)) 1=rOf cM a.1.2:=by simp [hi,ha]
  have x2:xRow (rOf cRu l) (nNat (i:Int)) 2=rOf cL a.2:=by simp [hi,ha]
  show qce [.ptr 0 0,.ptr 1 0,.ptr 2 0,.int .i64 (i:Nat)] ⟨[[.sl r .non,.sl r2 .non,.sl (rOf cRu l) .non],[.sl r4 .full,.sl r5 .full,.sl r6 .full],[.sl r7 (.tok 0),.sl r8 (.tok 1),.sl (rOf cRu b) (.tok 2)]],[(k1,3,51),(k2,3,55),(b.length,3,48)],[71,71,71]⟩=qce [.ptr 0 0,.ptr 1 0,.ptr 2 0,.int .i64 ((i+1:Nat):Int)] ⟨[[.sl r .non,.sl r2 .non,.sl (rOf cRu l) .non],[.sl r4 .full,.sl r5 .full,.sl r6 .full],[.sl r7 (.tok 0),.sl r8 (.tok 1),.sl (rOf cRu (b++[cpRu a])) (.tok 2)]],[(k1,3,51),(k2,3,55),((b++[cpRu a]).length,3,48)],[71,71,71]⟩
  rw [qpc]
  simp only [qeS,q1,q2,q3,q4,o1,o3,o4,w,x0,x1,x2,cpAt,qip,qaz]
  simp [one,qHf,cpAt,cpRu]
 ·intro b hb
  have q:iLt ((min l.length 12:Nat):Int) (xLen (rOf cRu l))=false∨iLt ((min l.length 12:Nat):Int) 12=false:=by
   by_cases h:l.length≤12
   ·left; simp; omega
   ·right; simp; omega
  show qce [.ptr 0 0,.ptr 1 0,.ptr 2 0,.int .i64 ((min l.length 12:Nat):Int)] ⟨[[.sl r .non,.sl r2 .non,.sl (rOf cRu l) .non],[.sl r4 .full,.sl r5 .full,.sl r6 .full],[.sl r7 (.tok 0),.sl r8 (.tok 1),.sl (rOf cRu b) (.tok 2)]],[(k1,3,51),(k2,3,55),(b.length,3,48)],[71,71,71]⟩=_
  rw [qpc]
  rcases q with q | q
  ·simp only [qeS,q]
   simp
  ·cases q2:iLt ((min l.length 12:Nat):Int) (xLen (rOf cRu l)) <;> (simp only [qeS,q,q2]; simp)
theorem qgd (p:Pr):qfh (rOf cD p.1) (rOf cE p.2.1) (rOf cRu p.2.2)=some (.agg [.sl (rOf cD (cpPr p).1) .non,.sl (rOf cE (cpPr p).2.1) .non,.sl (rOf cRu (cpPr p).2.2) .non]):=by
 have h:=qrn (rOf cE p.2.1) (rOf cRu p.2.2) [] [] [] [] [] 0 0 p.1
 have h':qbN 0 (rOf cD p.1) (rOf cE p.2.1) (rOf cRu p.2.2) [] [] [] [] [] [] 0 0 0=_:=h
 have g:=qrs (rOf cD p.1) (rOf cRu p.2.2) [] [] [] (rOf cD ((p.1.take 12).map cpDe)) [] (min p.1.length 12) 0 p.2.1
 have g':qbL 0 (rOf cD p.1) (rOf cE p.2.1) (rOf cRu p.2.2) [] [] [] (rOf cD ((p.1.take 12).map cpDe)) [] [] (min p.1.length 12) 0 0=_:=g
 have f:=qrh (rOf cD p.1) (rOf cE p.2.1) [] [] [] (rOf cD ((p.1.take 12).map cpDe)) (rOf cE ((p.2.1.take 8).map cpEn)) (min p.1.length 12) (min p.2.1.length 8) p.2.2
 have f':qbJ 0 (rOf cD p.1) (rOf cE p.2.1) (rOf cRu p.2.2) [] [] [] (rOf cD ((p.1.take 12).map cpDe)) (rOf cE ((p.2.1.take 8).map cpEn)) [] (min p.1.length 12) (min p.2.1.length 8) 0=_:=f
 unfold qfh qku
 simp only [qhJ,qat,qas,qap,qau,qak,qar,qan,qao,qam,qal,qaq,qaj,h']
 simp [-List.map_take]
 simp only [qgV,qdG,qdk,qdl,qdH,qdi,qc4,qcS,qcW,qc9,qcU,qdd,qc0,g']
 simp [-List.map_take]
 simp only [qhQ,qkL,qiq,qh0,qkg,qij,qh7,qil,qh6,qh2,qgn,qgh,qgr,f']
 simp [cpPr]
theorem qwf (p:Pr):qdm (rOf cD p.1) (rOf cE p.2.1) (rOf cRu p.2.2)=true:=by simp only [qdm,qb8,qb0,qb3,qgd p]; simp
theorem qxc (p:Pr):qb8 (rOf cD p.1) (rOf cE p.2.1) (rOf cRu p.2.2)=rOf cD (cpPr p).1:=by simp only [qdm,qb8,qb0,qb3,qgd p]; simp
theorem qv4 (p:Pr):qb0 (rOf cD p.1) (rOf cE p.2.1) (rOf cRu p.2.2)=rOf cE (cpPr p).2.1:=by simp only [qdm,qb8,qb0,qb3,qgd p]; simp
theorem qxz (p:Pr):qb3 (rOf cD p.1) (rOf cE p.2.1) (rOf cRu p.2.2)=rOf cRu (cpPr p).2.2:=by simp only [qdm,qb8,qb0,qb3,qgd p]; simp
end Go.Pv
set_option linter.unusedSimpArgs false
set_option linter.unusedVariables false
namespace Go.Pv
end Go.Pv
set_option maxHeartbeats 8000000
set_option maxRecDepth 200000
set_option linter.unusedSimpArgs false
set_option linter.unusedVariables false
namespace Go.Pv
open Go Go.Proofs Go.RowKit
theorem nt_t:bNot true=false:=rfl
def okP (ds:List De) (es:List En) (rs:List Ru):Bool:=ds.all deOk && es.all enOk && rs.all ruOk
def lsP (ds:List De) (es:List En) (rs:List Ru):List Txt:=(ds.map deT++es.map enT)++rs.map ruT
structure SzP (ds:List De) (es:List En) (rs:List Ru):Prop where
 d:ds.length≤100∧∀ x ∈ ds,deS x
 e:es.length≤100∧∀ x ∈ es,enS x
 r:rs.length≤100∧∀ x ∈ rs,ruS x
def prT (ds:List De) (es:List En) (rs:List Ru):Txt:=((lsP ds es rs).map (·++[10])).flatten
def prE (ds:List De) (es:List En) (rs:List Ru):Int:=if okP ds es rs then (if (prT ds es rs).length≤65536 then 0 else 2) else 140
end Go.Pv
set_option maxHeartbeats 8000000
set_option maxRecDepth 200000
set_option linter.unusedSimpArgs false
set_option linter.unusedVariables false
namespace Go.Pv
open Go Go.Proofs Go.RowKit
theorem qlc (s:Txt):(cutT s).length≤300:=by
 unfold cutT
 rw [List.length_take]
 omega
theorem qD0 {t:Tm} (h:tmR t):tmS (cpTm t):=⟨qlc _,h⟩
theorem qB7 {a:At} (h:atR a):atS (cpAt a):=by
 refine ⟨qlc _,by simp [cpAt]; omega,fun t ht=>?_⟩
 simp only [cpAt,List.mem_map] at ht
 obtain ⟨u,hu,rfl⟩:=ht
 exact qD0 (h u (List.mem_of_mem_take hu))
theorem qMo {l:Li} (h:liR l):liS (cpLi l):=⟨qB7 h.1,qD0 h.2.1,qD0 h.2.2⟩
theorem qMG {r:Ru} (h:ruR r):ruS (cpRu r):=by
 refine ⟨qB7 h.1,by simp [cpRu]; omega,fun t ht=>?_⟩
 simp only [cpRu,List.mem_map] at ht
 obtain ⟨u,hu,rfl⟩:=ht
 exact qMo (h.2 u (List.mem_of_mem_take hu))
theorem qMN (d:De):deS (cpDe d):=⟨qlc _,by simp [cpDe]; omega⟩
theorem qLS {o:En} (h:enR o):enS (cpEn o):=by
 refine ⟨qlc _,⟨by simp [cpEn]; omega,fun t ht=>?_⟩,⟨by simp [cpEn]; omega,fun t ht=>?_⟩⟩
 ·simp only [cpEn,List.mem_map] at ht
  obtain ⟨u,hu,rfl⟩:=ht
  exact qlc _
 ·simp only [cpEn,List.mem_map] at ht
  obtain ⟨u,hu,rfl⟩:=ht
  exact qB7 (h u (List.mem_of_mem_take hu))
def prR (p:Pr):Prop:=(∀ o ∈ p.2.1,enR o)∧∀ x ∈ p.2.2,ruR x
theorem qMn {p:Pr} (h:prR p):SzP (cpPr p).1 (cpPr p).2.1 (cpPr p).2.2:=by
 refine ⟨⟨by simp [cpPr]; omega,fun t ht=>?_⟩,⟨by simp [cpPr]; omega,fun t ht=>?_⟩,⟨by simp [cpPr]; omega,fun t ht=>?_⟩⟩
 ·simp only [cpPr,List.mem_map] at ht
  obtain ⟨u,hu,rfl⟩:=ht
  exact qMN u
 ·simp only [cpPr,List.mem_map] at ht
  obtain ⟨u,hu,rfl⟩:=ht
  exact qLS (h.1 u (List.mem_of_mem_take hu))
 ·simp only [cpPr,List.mem_map] at ht
  obtain ⟨u,hu,rfl⟩:=ht
  exact qMG (h.2 u (List.mem_of_mem_take hu))
def awX:Tm:=(1,[88],0,0,[])
def awP:At:=([112],[awX])
def awQ:At:=([113],[awX,(3,[],0,0,[])])
def awR:Ru:=(awP,[(2,awQ,0,tm0,tm0),(3,([],[]),2,awX,(2,[],1,-3,[]))])
def awO:En:=([103,111],[([88],1)],[(true,awP)])
theorem qKb:tmS awX:=⟨by decide,by decide,by decide⟩
theorem qLA:tmS tm0:=⟨by decide,by decide,by decide⟩
theorem qLC:atS awP:=⟨by decide,by decide,fun t ht=>by
 simp only [awP,List.mem_singleton] at ht
 subst ht
 exact qKb⟩
theorem qKC:ruS awR:=by
 refine ⟨qLC,by decide,fun l hl=>?_⟩
 simp only [awR,List.mem_cons,List.not_mem_nil,or_false] at hl
 rcases hl with rfl | rfl
 ·refine ⟨⟨by decide,by decide,fun t ht=>?_⟩,qLA,qLA⟩
  simp only [awQ,List.mem_cons,List.not_mem_nil,or_false] at ht
  rcases ht with rfl | rfl
  ·exact qKb
  ·exact ⟨by decide,by decide,by decide⟩
 ·exact ⟨⟨by decide,by decide,fun t ht=>by simp at ht⟩,qKb,⟨by decide,by decide,by decide⟩⟩
theorem qI8:enS awO:=by
 refine ⟨by decide,⟨by decide,fun t ht=>?_⟩,⟨by decide,fun t ht=>?_⟩⟩
 ·simp only [awO,List.mem_singleton] at ht
  subst ht
  exact (by decide:(88 :: ([]:Txt)).length≤300)
 ·simp only [awO,List.mem_singleton] at ht
  subst ht
  exact qLC
theorem qHw:ruOk awR=true:=by kernel_rfl
theorem qMV:ruT awR=[112,40,88,41,32,58,45,32,110,111,116,32,113,40,88,44,32,95,41,44,32,88,32,33,61,32,45,51,46]:=by kernel_rfl
theorem qH4:enOk awO=true:=by kernel_rfl
theorem qNo:enT awO=[111,110,32,103,111,40,88,32,105,110,116,41,58,32,43,112,40,88,41,46]:=by kernel_rfl
theorem awN:nmB [110,111,116]=false:=by kernel_rfl
theorem awV:vrB [65,98]=true:=by kernel_rfl
theorem qvk:qul=some (.bool true):=by
 unfold qul qoy
 have e1:qeW awR.1.1 (rOf cM awR.1.2) (rOf cL awR.2)=true:=qG2 qKC
 have e2:qhh awR.1.1 (rOf cM awR.1.2) (rOf cL awR.2)=_:=qFP qKC
 have e3:qg5 awR.1.1 (rOf cM awR.1.2) (rOf cL awR.2)=_:=qF5 qKC
 have f1:qif awO.1 (rOf cP awO.2.1) (rOf cAc awO.2.2)=true:=qLP qI8
 have f2:qtY awO.1 (rOf cP awO.2.1) (rOf cAc awO.2.2)=_:=qMw qI8
 have f3:qtV awO.1 (rOf cP awO.2.1) (rOf cAc awO.2.2)=_:=qME qI8
 rw [qHw,qMV] at e2
 rw [qHw] at e3
 rw [qH4,qNo] at f2
 rw [qH4] at f3
 show (Tr.ite (qeW awR.1.1 (rOf cM awR.1.2) (rOf cL awR.2)) (Tr.ite (qif awO.1 (rOf cP awO.2.1) (rOf cAc awO.2.2)) (Tr.ite (iEq (qg5 awR.1.1 (rOf cM awR.1.2) (rOf cL awR.2)) 0)
  (Tr.ite (sEq (qhh awR.1.1 (rOf cM awR.1.2) (rOf cL awR.2)) [112,40,88,41,32,58,45,32,110,111,116,32,113,40,88,44,32,95,41,44,32,88,32,33,61,32,45,51,46])
   (Tr.ite (iEq (qtV awO.1 (rOf cP awO.2.1) (rOf cAc awO.2.2)) 0) (Tr.ite (sEq (qtY awO.1 (rOf cP awO.2.1) (rOf cAc awO.2.2)) [111,110,32,103,111,40,88,32,105,110,116,41,58,32,43,112,40,88,41,46])
    (Tr.ite (qdj [110,111,116]) (Tr.ite (bNot (qeY [110,111,116])) (Tr.ite (qge [65,98]) (Tr.ret (PV.bool (qlx [65,98]))) Tr.fail) (Tr.ret (PV.bool false))) Tr.fail)
    (Tr.ret (PV.bool false))) (Tr.ret (PV.bool false))) (Tr.ret (PV.bool false))) (Tr.ret (PV.bool false))) Tr.fail) Tr.fail).run=_
 rw [e1,e2,e3,f1,f2,f3,qoP (by decide),qt6 (by decide),qxs (by decide),qEi (by decide),awN,awV]
 rfl
theorem qHr:qk5=true:=by simp [qk5,qmk,qvk]
theorem qIr:qmk=true:=by simp [qmk,qvk]
theorem qkV:∀ l:List Txt,qdy l []=l.flatten
 | []=>by rw [qlV]; rfl
 | [a]=>by rw [qp8]; simp
 | a :: b :: l=>by
  rw [qq7,qkV (b :: l)]
  simp
theorem qh1 {ds:List De} {es:List En} {rs:List Ru} (h:SzP ds es rs):qgP (rOf cD ds) (rOf cE es) (rOf cRu rs)=some (.tup [.str (if prE ds es rs=0 then prT ds es rs else []),.int .i64 (prE ds es rs)]):=by
 obtain ⟨⟨hd,hds⟩,⟨he,hes⟩,⟨hr,hrs⟩⟩:=h
 have d1:=qLx hds (by omega) (sep:=[]) (by decide)
 have d2:=qMy hds (by omega) (sep:=[]) (by decide)
 have d3:=qL7 hds (by omega) (sep:=[]) (by decide)
 have e1:=qLb hes (by omega) (sep:=[]) (by decide)
 have e2:=qLJ hes (by omega) (sep:=[]) (by decide)
 have e3:=qLl hes (by omega) (sep:=[]) (by decide)
 have r1:=qMx hrs (by omega) (sep:=[]) (by decide)
 have r2:=qLY hrs (by omega) (sep:=[]) (by decide)
 have r3:=qMF hrs (by omega) (sep:=[]) (by decide)
 have l1:=qnn (ok:=deOk) (T:=lnD) (M:=1001) [] ds 100 hd (fun a ha=>qCx (hds a ha))
 have l2:=qnn (ok:=enOk) (T:=lnO) (M:=140001) [] es 100 he (fun a ha=>qEK (hes a ha))
 have l3:=qnn (ok:=ruOk) (T:=lnR) (M:=140001) [] rs 100 hr (fun a ha=>qCR (hrs a ha))
 simp only [List.length_nil] at l1 l2 l3
 unfold qgP qka
 simp only [qaz,d1,d2,d3,e1,e2,e3,r1,r2,r3]
 have o1:qa2 (jn deOk lnD [] ds) (jn enOk lnO [] es)=true:=qbH (by omega)
 have o2:qa2 (sApp (jn deOk lnD [] ds) (jn enOk lnO [] es)) (jn ruOk lnR [] rs)=true:=qbH (by simp; omega)
 rw [o1,o2]
 unfold prE okP
 cases h1:ds.all deOk with
 | false=>simp
 | true =>
  cases h2:es.all enOk with
  | false=>simp
  | true =>
   cases h3:rs.all ruOk with
   | false=>simp
   | true =>
    have hT:sApp (sApp (jn deOk lnD [] ds) (jn enOk lnO [] es)) (jn ruOk lnR [] rs)=prT ds es rs:=by
     rw [qvy h1,qvy h2,qvy h3,qkV,qkV,qkV]
     have a1:(fun a=>deT a++[10])=lnD:=rfl
     have a2:(fun a=>enT a++[10])=lnO:=rfl
     have a3:(fun a=>ruT a++[10])=lnR:=rfl
     simp [prT,lsP,Function.comp_def,a1,a2,a3]
    rw [hT]
    by_cases hL:(prT ds es rs).length≤65536
    ·have x1:iLt 65536 (sLen (prT ds es rs))=false:=by simp; omega
     simp only [nt_t,x1]
     simp [hL]
    ·have x1:iLt 65536 (sLen (prT ds es rs))=true:=by simp; omega
     simp only [nt_t,x1]
     simp [hL]
theorem qwA {ds:List De} {es:List En} {rs:List Ru} (h:SzP ds es rs):qdO (rOf cD ds) (rOf cE es) (rOf cRu rs)=true:=by simp only [qdO,qeA,qdp,qh1 h]; simp
theorem qw0 {ds:List De} {es:List En} {rs:List Ru} (h:SzP ds es rs):qdp (rOf cD ds) (rOf cE es) (rOf cRu rs)=if prE ds es rs=0 then prT ds es rs else []:=by simp only [qdO,qeA,qdp,qh1 h]; simp
theorem qwj {ds:List De} {es:List En} {rs:List Ru} (h:SzP ds es rs):qeA (rOf cD ds) (rOf cE es) (rOf cRu rs)=prE ds es rs:=by simp only [qdO,qeA,qdp,qh1 h]; simp
theorem qES {ds:List De} {es:List En} {rs:List Ru} (h:okP ds es rs=true) (he:∀ o ∈ es,enR o) (hr:∀ x ∈ rs,ruR x):wE (prT ds es rs)=0:=by
 simp only [okP,Bool.and_eq_true,List.all_eq_true] at h
 obtain ⟨⟨h1,h2⟩,h3⟩:=h
 have k3:=qlQ (l:=rs) (fun a ha=>qMc (h3 a ha) (hr a ha)) (Lx.nil [] false rfl)
 have k2:=qlQ (l:=es) (fun a ha=>qL3 (h2 a ha) (he a ha)) k3
 have k1:=qlQ (l:=ds) (fun a ha=>qLm (h1 a ha)) k2
 have e:prT ds es rs=ds.flatMap (fun a=>deT a++[10])++(es.flatMap (fun a=>enT a++[10])++(rs.flatMap (fun a=>ruT a++[10])++[])):=by
  simp [prT,lsP,List.flatMap_def,Function.comp_def]
 rw [e]
 obtain ⟨l',hl,_⟩:=qGI k1
 unfold wE
 rw [hl]
theorem qMB {p:Pr} (h:prR p):(∀ o ∈ (cpPr p).2.1,enR o)∧∀ x ∈ (cpPr p).2.2,ruR x:=by
 have ra:∀ a:At,atR a→atR (cpAt a):=fun a ha t ht=>by
  simp only [cpAt,List.mem_map] at ht
  obtain ⟨u,hu,rfl⟩:=ht
  exact ha u (List.mem_of_mem_take hu)
 refine ⟨fun o ho a ha=>?_,fun x hx=>?_⟩
 ·simp only [cpPr,List.mem_map] at ho
  obtain ⟨u,hu,rfl⟩:=ho
  simp only [cpEn,List.mem_map] at ha
  obtain ⟨v,hv,rfl⟩:=ha
  exact ra _ (h.1 u (List.mem_of_mem_take hu) v (List.mem_of_mem_take hv))
 ·simp only [cpPr,List.mem_map] at hx
  obtain ⟨u,hu,rfl⟩:=hx
  have hu':=h.2 u (List.mem_of_mem_take hu)
  refine ⟨ra _ hu'.1,fun l hl=>?_⟩
  simp only [cpRu,List.mem_map] at hl
  obtain ⟨v,hv,rfl⟩:=hl
  have hv':=hu'.2 v (List.mem_of_mem_take hv)
  exact ⟨ra _ hv'.1,hv'.2.1,hv'.2.2⟩
theorem qAn {p:Pr} (h:prR p):qor (rOf cD p.1) (rOf cE p.2.1) (rOf cRu p.2.2)=some (.bool true):=by
 have hs:=qMn h
 have hR:=qMB h
 unfold qor qq0
 simp only [qaz,qwf,qxc,qv4,qxz,qwA hs,qw0 hs,qwj hs,qHr,qIr]
 by_cases h0:prE (cpPr p).1 (cpPr p).2.1 (cpPr p).2.2=0
 ·have h1:okP (cpPr p).1 (cpPr p).2.1 (cpPr p).2.2=true∧(prT (cpPr p).1 (cpPr p).2.1 (cpPr p).2.2).length≤65536:=by
   unfold prE at h0
   split at h0
   ·rename_i hok
    split at h0
    ·rename_i hl
     exact ⟨hok,hl⟩
    ·cases h0
   ·cases h0
  simp only [h0,if_true,qwl h1.2,qr2 h1.2,qES h1.1 hR.1 hR.2]
  simp
 ·simp [h0]
end Go.Pv
set_option maxHeartbeats 8000000
set_option maxRecDepth 200000
set_option linter.unusedSimpArgs false
set_option linter.unusedVariables false
namespace Go.Pv
open Go Go.Proofs Go.RowKit
def Std (x:PV):Prop:=∃ H w v,Rel H w x v
def StdL (xs:List PV):Prop:=∃ H w vs,RelL H w xs vs
theorem StdL.at_ {xs:List PV} (h:StdL xs) (i:Nat) {x:PV} (hi:xs[i]?=some x):Std x:=by
 obtain ⟨H,w,vs,h⟩:=h
 obtain ⟨v,_,hr⟩:=h.get hi
 exact ⟨H,w,v,hr⟩
theorem Std.agg {xs:List PV} (h:Std (.agg xs)):StdL xs:=by
 obtain ⟨H,w,v,h⟩:=h
 cases h with
 | agg _ vs h=>exact ⟨H,w,vs,h⟩
theorem Std.rows {α:Type} {C:Cod α} {l:List α} {t:Tag} (h:Std (.sl (rOf C l) t)):∀ a ∈ l,StdL (C.enc a):=by
 obtain ⟨H,w,v,h⟩:=h
 intro a ha
 obtain ⟨i,hi⟩:=List.getElem?_of_mem ha
 cases h with
 | sl p len cap k xs vss t hl hcap hm h hr ht =>
  obtain ⟨u,_,hu⟩:=h.get (qKG C hi)
  exact ⟨H,w,u,hu⟩
theorem Std.int {n:Int} (h:Std (.int .i64 n)):-9223372036854775808≤n∧n≤9223372036854775807:=by
 obtain ⟨H,w,v,h⟩:=h
 cases h with
 | int _ _ hl=>simpa [Lit.wf,IntKind.min,IntKind.max,IntKind.signed,IntKind.bits] using hl
theorem qIO {t:Tm} (h:StdL (cM.enc t)):tmR t:=(h.at_ 3 (x:=.int .i64 t.2.2.2.1) rfl).int
theorem qNe {l:Li} (h:StdL (cL.enc l)):liR l :=
 ⟨fun t ht=>qIO ((h.at_ 2 (x:=.sl (rOf cM l.2.1.2) .non) rfl).rows t ht),(h.at_ 7 (x:=.int .i64 l.2.2.2.1.2.2.2.1) rfl).int,(h.at_ 12 (x:=.int .i64 l.2.2.2.2.2.2.2.1) rfl).int⟩
theorem qMW {x:Ru} (h:StdL (cRu.enc x)):ruR x :=
 ⟨fun t ht=>qIO ((h.at_ 1 (x:=.sl (rOf cM x.1.2) .non) rfl).rows t ht),fun l hl=>qNe ((h.at_ 2 (x:=.sl (rOf cL x.2) .non) rfl).rows l hl)⟩
theorem qNh {o:En} (h:StdL (cE.enc o)):enR o:=fun a ha t ht=>qIO (Std.rows (C:=cM) (l:=a.2.2) (t:=.non) (((h.at_ 2 (x:=.sl (rOf cAc o.2.2) .non) rfl).rows a ha).at_ 2 rfl) t ht)
theorem qMP {p:Pr} (h:StdL [.sl (rOf cD p.1) .non,.sl (rOf cE p.2.1) .non,.sl (rOf cRu p.2.2) .non]):prR p :=
 ⟨fun o ho=>qNh ((h.at_ 1 (x:=.sl (rOf cE p.2.1) .non) rfl).rows o ho),fun x hx=>qMW ((h.at_ 2 (x:=.sl (rOf cRu p.2.2) .non) rfl).rows x hx)⟩
theorem qBH (p:Pr):qma [.agg [.sl (rOf cD p.1) .non,.sl (rOf cE p.2.1) .non,.sl (rOf cRu p.2.2) .non]]=.ite (qmv (rOf cD p.1) (rOf cE p.2.1) (rOf cRu p.2.2)) (.ret (.bool (qnY (rOf cD p.1) (rOf cE p.2.1) (rOf cRu p.2.2)))) .fail:=rfl
theorem qAq (p:Pr) (hg:∃ H w vs,RelL H w [.agg [.sl (rOf cD p.1) .non,.sl (rOf cE p.2.1) .non,.sl (rOf cRu p.2.2) .non]] vs):(qma [.agg [.sl (rOf cD p.1) .non,.sl (rOf cE p.2.1) .non,.sl (rOf cRu p.2.2) .non]]).run=some (.bool true):=by
 have hg:StdL [.agg [.sl (rOf cD p.1) .non,.sl (rOf cE p.2.1) .non,.sl (rOf cRu p.2.2) .non]]:=hg
 have h:=qAn (qMP (hg.at_ 0 rfl).agg)
 rw [qBH]
 simp [qmv,qnY,h]
end Go.Pv
