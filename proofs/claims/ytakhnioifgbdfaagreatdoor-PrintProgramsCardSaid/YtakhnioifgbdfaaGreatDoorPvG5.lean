/- Part 5 of the proof: pure values for the machine's values, what functions compute over them, and laws of what is computed. Conditions: none beyond each theorem's own premises. -/
import Derived.Test.YtakhnioifgbdfaaGreatDoorPvG4
noncomputable section
set_option maxHeartbeats 4000000
set_option maxRecDepth 200000
set_option linter.unusedSimpArgs false
set_option linter.unusedVariables false
namespace Go.Pv
open Go Go.Proofs
def G_tx:GamT:=ofL []
theorem qTJ (gl:Gl):qaU Tryz.prog gl (gam G_tx):=qag
def L_tx:LpsT:=fun r fr σ=>.fail
def qRQ (s:qU):Tr PV:=.ite (iLt 300 (sLen s)) (.ite (qaQ true (qav 300) 0 (nNat 300) (nLen s)) (.ret (.str (sSub s 0 (nNat 300)))) .fail) (.ret (.str s))
theorem tx_T (s:qU):(tcall tbT G_tx L_tx Tryz.f11 [.str s]).flat=qRQ s:=by kernel_rfl
def tx_W (s:qU):Option PV:=(qRQ s).run
def tx_s (s:qU):List UInt8:=(gStr (gVal (tx_W s)))
def qo0 (s:qU):Bool:=isW (tx_W s) (.str (tx_s s))
def F_tx:List PV→Tr PV|[.str s]=>.ite (qo0 s) (.ret (.str (tx_s s))) (.fail)|_=>.fail
theorem qEL (gl:Gl):SimP Tryz.prog gl 11 fun args=>(F_tx args).run:=by
 refine SimP.of_flat (G:=G_tx) (L:=L_tx) qat (qTJ gl ) qah  Tryz.func11 rfl (by rfl) (by kernel_rfl) (qae (by kernel_rfl)) ?_
 intro args x h;unfold F_tx at h
 split at h
 ·exact (congrArg Tr.run (tx_T _)).trans (qai h fun h=>by cases h)
 ·cases h
def qCM:GamT:=ofL [(11,.pure F_tx)]
theorem qL3 (gl:Gl):qaU Tryz.prog gl (gam qCM):=(qac (qEL gl) qag)
def qIY:LpsT:=fun r fr σ=>.fail
def qyh (t:Int) (t2:qU) (t3:Int) (t4:Int) (t5:qU):Tr PV:=.ite (qo0 t2) (.ite (qo0 t5) (.ret (.agg [.int .i64 t,.str (tx_s t2),.int .i64 t3,.int .i64 t4,.str (tx_s t5)])) .fail) .fail
theorem qPG (t:Int) (t2:qU) (t3:Int) (t4:Int) (t5:qU):(tcall tbT qCM qIY Tryz.f9 [.agg [.int .i64 t,.str t2,.int .i64 t3,.int .i64 t4,.str t5]]).flat=qyh t t2 t3 t4 t5:=by kernel_rfl
def qkR (t:Int) (t2:qU) (t3:Int) (t4:Int) (t5:qU):Option PV:=(qyh t t2 t3 t4 t5).run
def qe5 (t:Int) (t2:qU) (t3:Int) (t4:Int) (t5:qU):Int:=(gInt (gAt (gCs (gVal (qkR t t2 t3 t4 t5))) 0))
def qeZ (t:Int) (t2:qU) (t3:Int) (t4:Int) (t5:qU):List UInt8:=(gStr (gAt (gCs (gVal (qkR t t2 t3 t4 t5))) 1))
def qdn (t:Int) (t2:qU) (t3:Int) (t4:Int) (t5:qU):Int:=(gInt (gAt (gCs (gVal (qkR t t2 t3 t4 t5))) 2))
def qdq (t:Int) (t2:qU) (t3:Int) (t4:Int) (t5:qU):Int:=(gInt (gAt (gCs (gVal (qkR t t2 t3 t4 t5))) 3))
def qdu (t:Int) (t2:qU) (t3:Int) (t4:Int) (t5:qU):List UInt8:=(gStr (gAt (gCs (gVal (qkR t t2 t3 t4 t5))) 4))
def qey (t:Int) (t2:qU) (t3:Int) (t4:Int) (t5:qU):Bool:=isW (qkR t t2 t3 t4 t5) (.agg [.int .i64 (qe5 t t2 t3 t4 t5),.str (qeZ t t2 t3 t4 t5),.int .i64 (qdn t t2 t3 t4 t5),.int .i64 (qdq t t2 t3 t4 t5),.str (qdu t t2 t3 t4 t5)])
def qxO:List PV→Tr PV|[.agg [.int .i64 t,.str t2,.int .i64 t3,.int .i64 t4,.str t5]]=>.ite (qey t t2 t3 t4 t5) (.ret (.agg [.int .i64 (qe5 t t2 t3 t4 t5),.str (qeZ t t2 t3 t4 t5),.int .i64 (qdn t t2 t3 t4 t5),.int .i64 (qdq t t2 t3 t4 t5),.str (qdu t t2 t3 t4 t5)])) (.fail)|_=>.fail
theorem qzL (gl:Gl):SimP Tryz.prog gl 9 fun args=>(qxO args).run:=by
 refine SimP.of_flat (G:=qCM) (L:=qIY) qat (qL3 gl ) qah  Tryz.func9 rfl (by rfl) (by kernel_rfl) (qae (by kernel_rfl)) ?_
 intro args x h;unfold qxO at h
 split at h
 ·exact (congrArg Tr.run (qPG _ _ _ _ _)).trans (qai h fun h=>by cases h)
 ·cases h
def qvK:GamT:=ofL [(9,.pure qxO),(11,.pure F_tx),(qdX,.hint [(8,1,5,27)])]
theorem qA9 (gl:Gl):qaU Tryz.prog gl (gam qvK):=(qac (qzL gl) (qac (qEL gl) (qbv (K:=.hint [(8,1,5,27)]) trivial qag)))
def qsx:Code:=qdT Tryz.f42 3
def qrg:LI:=⟨32,[1,2,3,4],fun e=>match e with|.exit 0=>[2,3]|_=>[],true⟩
def qvO:LpsT:=fun r fr σ=>.fail
def qgg (vs:List PV) (σ:Store):Option (PExit×List PV×Store):=lval (lstep tbT qvK qvO qsx qrg) vs σ
def qln (i:Int) (s:qU) (r:qR) (s2:qU) (r2:qR) (s3:qU) (r3:qR) (k:Nat):Tr LR:=.ite (iLt i (xLen r)) (.ite (iLt i 12) (.ite (qav i) (.ite (qa3 [.int .i64 0,.str [],.int .i64 0,.int .i64 0,.str []] r (nNat i)) (.ite (qey (xInt r (nNat i) 0) (xStr r (nNat i) 1) (xInt r (nNat i) 2) (xInt r (nNat i) 3) (xStr r (nNat i) 4)) (.ite (qaI r3 [[.int .i64 (qe5 (xInt r (nNat i) 0) (xStr r (nNat i) 1) (xInt r (nNat i) 2) (xInt r (nNat i) 3) (xStr r (nNat i) 4)),.str (qeZ (xInt r (nNat i) 0) (xStr r (nNat i) 1) (xInt r (nNat i) 2) (xInt r (nNat i) 3) (xStr r (nNat i) 4)),.int .i64 (qdn (xInt r (nNat i) 0) (xStr r (nNat i) 1) (xInt r (nNat i) 2) (xInt r (nNat i) 3) (xStr r (nNat i) 4)),.int .i64 (qdq (xInt r (nNat i) 0) (xStr r (nNat i) 1) (xInt r (nNat i) 2) (xInt r (nNat i) 3) (xStr r (nNat i) 4)),.str (qdu (xInt r (nNat i) 0) (xStr r (nNat i) 1) (xInt r (nNat i) 2) (xInt r (nNat i) 3) (xStr r (nNat i) 4))]] 56) (.ite (qaH [[.int .i64 (qe5 (xInt r (nNat i) 0) (xStr r (nNat i) 1) (xInt r (nNat i) 2) (xInt r (nNat i) 3) (xStr r (nNat i) 4)),.str (qeZ (xInt r (nNat i) 0) (xStr r (nNat i) 1) (xInt r (nNat i) 2) (xInt r (nNat i) 3) (xStr r (nNat i) 4)),.int .i64 (qdn (xInt r (nNat i) 0) (xStr r (nNat i) 1) (xInt r (nNat i) 2) (xInt r (nNat i) 3) (xStr r (nNat i) 4)),.int .i64 (qdq (xInt r (nNat i) 0) (xStr r (nNat i) 1) (xInt r (nNat i) 2) (xInt r (nNat i) 3) (xStr r (nNat i) 4)),.str (qdu (xInt r (nNat i) 0) (xStr r (nNat i) 1) (xInt r (nNat i) 2) (xInt r (nNat i) 3) (xStr r (nNat i) 4))]] 5) (.ite (qaB r3 5) (.ite (nEq k (nXs r3)) (.ret (.next [.ptr 0 0,.ptr 1 0,.ptr 2 0,.int .i64 (iAdd .i64 i 1)] (Store.mk [[.str s,.sl r .non],[.str s2,.sl r2 .full],[.str s3,.sl (xApp r3 [[.int .i64 (qe5 (xInt r (nNat i) 0) (xStr r (nNat i) 1) (xInt r (nNat i) 2) (xInt r (nNat i) 3) (xStr r (nNat i) 4)),
 .str (qeZ (xInt r (nNat i) 0) (xStr r (nNat i) 1) (xInt r (nNat i) 2) (xInt r (nNat i) 3) (xStr r (nNat i) 4)),.int .i64 (qdn (xInt r (nNat i) 0) (xStr r (nNat i) 1) (xInt r (nNat i) 2) (xInt r (nNat i) 3) (xStr r (nNat i) 4)),.int .i64 (qdq (xInt r (nNat i) 0) (xStr r (nNat i) 1) (xInt r (nNat i) 2) (xInt r (nNat i) 3) (xStr r (nNat i) 4)),.str (qdu (xInt r (nNat i) 0) (xStr r (nNat i) 1) (xInt r (nNat i) 2) (xInt r (nNat i) 3) (xStr r (nNat i) 4))]]) (.tok 0)]] [(nXs (xApp r3 [[.int .i64 (qe5 (xInt r (nNat i) 0) (xStr r (nNat i) 1) (xInt r (nNat i) 2) (xInt r (nNat i) 3) (xStr r (nNat i) 4)),.str (qeZ (xInt r (nNat i) 0) (xStr r (nNat i) 1) (xInt r (nNat i) 2) (xInt r (nNat i) 3) (xStr r (nNat i) 4)),.int .i64 (qdn (xInt r (nNat i) 0) (xStr r (nNat i) 1) (xInt r (nNat i) 2) (xInt r (nNat i) 3) (xStr r (nNat i) 4)),.int .i64 (qdq (xInt r (nNat i) 0) (xStr r (nNat i) 1) (xInt r (nNat i) 2) (xInt r (nNat i) 3) (xStr r (nNat i) 4)),.str (qdu (xInt r (nNat i) 0) (xStr r (nNat i) 1) (xInt r (nNat i) 2) (xInt r (nNat i) 3) (xStr r (nNat i) 4))]]),5,27)] [31,31,31]))) .fail) .fail) .fail) .fail) .fail) .fail) .fail) (.ret (.out (.exit 0) [.ptr 1 0,.ptr 2 0] (Store.mk [[.str s,.sl r .non],[.str s2,.sl r2 .full],[.str s3,.sl r3 (.tok 0)]] [(k,5,27)] [31,31,31])))) (.ret (.out (.exit 0) [.ptr 1 0,.ptr 2 0] (Store.mk [[.str s,.sl r .non],[.str s2,.sl r2 .full],[.str s3,.sl r3 (.tok 0)]] [(k,5,27)] [31,31,31])))
theorem qOp (i:Int) (s:qU) (r:qR) (s2:qU) (r2:qR) (s3:qU) (r3:qR) (k:Nat):lstep tbT qvK qvO qsx qrg [.ptr 0 0,.ptr 1 0,.ptr 2 0,.int .i64 i] ⟨[[.str s,.sl r .non],[.str s2,.sl r2 .full],[.str s3,.sl r3 (.tok 0)]],[(k,5,27)],[31,31,31]⟩=qln i s r s2 r2 s3 r3 k:=by kernel_rfl
theorem qEI (i:Int) (s:qU) (r:qR) (s2:qU) (r2:qR) (s3:qU) (r3:qR) (k:Nat):qgg [.ptr 0 0,.ptr 1 0,.ptr 2 0,.int .i64 i] ⟨[[.str s,.sl r .non],[.str s2,.sl r2 .full],[.str s3,.sl r3 (.tok 0)]],[(k,5,27)],[31,31,31]⟩=lnext qgg (qln i s r s2 r2 s3 r3 k).run:=by unfold qgg;rw [qbu,qOp]
def qgN (i:Int) (s:qU) (r:qR) (s2:qU) (r2:qR) (s3:qU) (r3:qR) (k:Nat):Option (PExit×List PV×Store):=qgg [.ptr 0 0,.ptr 1 0,.ptr 2 0,.int .i64 i] ⟨[[.str s,.sl r .non],[.str s2,.sl r2 .full],[.str s3,.sl r3 (.tok 0)]],[(k,5,27)],[31,31,31]⟩
def qxX (i:Int) (s:qU) (r:qR) (s2:qU) (r2:qR) (s3:qU) (r3:qR) (k:Nat):List UInt8:=(gStr (gAt (gObj (qgN i s r s2 r2 s3 r3 k) 0) 0))
def qxy (i:Int) (s:qU) (r:qR) (s2:qU) (r2:qR) (s3:qU) (r3:qR) (k:Nat):List (List PV):=(gRow (gAt (gObj (qgN i s r s2 r2 s3 r3 k) 0) 1))
def qs6 (i:Int) (s:qU) (r:qR) (s2:qU) (r2:qR) (s3:qU) (r3:qR) (k:Nat):List UInt8:=(gStr (gAt (gObj (qgN i s r s2 r2 s3 r3 k) 1) 0))
def quL (i:Int) (s:qU) (r:qR) (s2:qU) (r2:qR) (s3:qU) (r3:qR) (k:Nat):List (List PV):=(gRow (gAt (gObj (qgN i s r s2 r2 s3 r3 k) 1) 1))
def qpE (i:Int) (s:qU) (r:qR) (s2:qU) (r2:qR) (s3:qU) (r3:qR) (k:Nat):List UInt8:=(gStr (gAt (gObj (qgN i s r s2 r2 s3 r3 k) 2) 0))
def qop (i:Int) (s:qU) (r:qR) (s2:qU) (r2:qR) (s3:qU) (r3:qR) (k:Nat):List (List PV):=(gRow (gAt (gObj (qgN i s r s2 r2 s3 r3 k) 2) 1))
def qxi (i:Int) (s:qU) (r:qR) (s2:qU) (r2:qR) (s3:qU) (r3:qR) (k:Nat):Nat:=(gTok (qgN i s r s2 r2 s3 r3 k) 0)
def qqE (i:Int) (s:qU) (r:qR) (s2:qU) (r2:qR) (s3:qU) (r3:qR) (k:Nat):Bool:=isW (qgN i s r s2 r2 s3 r3 k) ((.exit 0),[.ptr 1 0,.ptr 2 0],⟨[[.str (qxX i s r s2 r2 s3 r3 k),.sl (qxy i s r s2 r2 s3 r3 k) .non],[.str (qs6 i s r s2 r2 s3 r3 k),.sl (quL i s r s2 r2 s3 r3 k) .full],[.str (qpE i s r s2 r2 s3 r3 k),.sl (qop i s r s2 r2 s3 r3 k) (.tok 0)]],[((qxi i s r s2 r2 s3 r3 k),5,27)],[31,31,31]⟩)
def qjg:List PV→Store→Tr (PExit×List PV×Store)|[.ptr 0 0,.ptr 1 0,.ptr 2 0,.int .i64 i],⟨[[.str s,.sl r .non],[.str s2,.sl r2 .full],[.str s3,.sl r3 (.tok 0)]],[(k,5,27)],[31,31,31]⟩=>.ite (qqE i s r s2 r2 s3 r3 k) (.ret ((.exit 0),[.ptr 1 0,.ptr 2 0],⟨[[.str (qxX i s r s2 r2 s3 r3 k),.sl (qxy i s r s2 r2 s3 r3 k) .non],[.str (qs6 i s r s2 r2 s3 r3 k),.sl (quL i s r s2 r2 s3 r3 k) .full],[.str (qpE i s r s2 r2 s3 r3 k),.sl (qop i s r s2 r2 s3 r3 k) (.tok 0)]],[((qxi i s r s2 r2 s3 r3 k),5,27)],[31,31,31]⟩)) (.fail)|_,_=>.fail
theorem qLw:∀ vs σ r,(qjg vs σ).run=some r→qgg vs σ=some r:=by
 intro vs σ r h;unfold qjg at h
 split at h
 ·exact qai h fun h=>by cases h
 ·cases h
theorem qBm (gl:Gl):∀ fr σ e fr' σ',(orc qrg qjg fr σ).run=some (e,fr',σ')→LDoes Tryz.prog gl qsx fr σ e fr' σ':=qck qat (qA9 gl ) qah (L:=qvO) (qae (by kernel_rfl)) (by kernel_rfl) qLw
def qCu:LpsT:=fun r fr σ=>bif Nat.beq r 3 then orc qrg qjg fr σ else .fail
def qzr (a:qU) (a2:qR):Tr PV:=.ite (qo0 a) (.ite (qqE 0 a a2 [] [] (tx_s a) [] 0) (.ret (.agg [.str (qpE 0 a a2 [] [] (tx_s a) [] 0),.sl (qcq (qop 0 a a2 [] [] (tx_s a) [] 0)) .non])) .fail) .fail
theorem qQX (a:qU) (a2:qR):(tcall tbT qvK qCu Tryz.f42 [.agg [.str a,.sl a2 .non]]).flat=qzr a a2:=by kernel_rfl
def quy (a:qU) (a2:qR):Option PV:=(qzr a a2).run
def qeW (a:qU) (a2:qR):List UInt8:=(gStr (gAt (gCs (gVal (quy a a2))) 0))
def qe2 (a:qU) (a2:qR):List (List PV):=(gRow (gAt (gCs (gVal (quy a a2))) 1))
def qgu (a:qU) (a2:qR):Bool:=isW (quy a a2) (.agg [.str (qeW a a2),.sl (qe2 a a2) .non])
def quR:List PV→Tr PV|[.agg [.str a,.sl a2 .non]]=>.ite (qgu a a2) (.ret (.agg [.str (qeW a a2),.sl (qe2 a a2) .non])) (.fail)|_=>.fail
theorem qum (gl:Gl):SimP Tryz.prog gl 42 fun args=>(quR args).run:=by
 refine SimP.of_flat (G:=qvK) (L:=qCu) qat (qA9 gl ) qah  Tryz.func42 rfl (by rfl) (by kernel_rfl) (qaX (L:=lps qCu) [(3,qsx)] (by kernel_rfl) (List.forall_mem_cons.2 ⟨fun fr σ e fr' σ' h=>qBm gl  fr σ e fr' σ' h,(List.forall_mem_nil _)⟩)) ?_
 intro args x h;unfold quR at h
 split at h
 ·exact (congrArg Tr.run (qQX _ _)).trans (qai h fun h=>by cases h)
 ·cases h
def qpX:GamT:=ofL [(9,.pure qxO),(42,.pure quR)]
theorem qBb (gl:Gl):qaU Tryz.prog gl (gam qpX):=(qac (qzL gl) (qac (qum gl) qag))
def qwQ:LpsT:=fun r fr σ=>.fail
def qnW (l:Int) (l2:qU) (l3:qR) (l4:Int) (l5:Int) (l6:qU) (l7:Int) (l8:Int) (l9:qU) (l10:Int) (l11:qU) (l12:Int) (l13:Int) (l14:qU):Tr PV:=.ite (qgu l2 (qaa l3)) (.ite (qey l5 l6 l7 l8 l9) (.ite (qey l10 l11 l12 l13 l14) (.ret (.agg [.int .i64 l,.str (qeW l2 (qaa l3)),.sl (qcq (qe2 l2 (qaa l3))) .non,.int .i64 l4,.int .i64 (qe5 l5 l6 l7 l8 l9),.str (qeZ l5 l6 l7 l8 l9),.int .i64 (qdn l5 l6 l7 l8 l9),.int .i64 (qdq l5 l6 l7 l8 l9),.str (qdu l5 l6 l7 l8 l9),.int .i64 (qe5 l10 l11 l12 l13 l14),.str (qeZ l10 l11 l12 l13 l14),.int .i64 (qdn l10 l11 l12 l13 l14),.int .i64 (qdq l10 l11 l12 l13 l14),.str (qdu l10 l11 l12 l13 l14)])) .fail) .fail) .fail
theorem qHs (l:Int) (l2:qU) (l3:qR) (l4:Int) (l5:Int) (l6:qU) (l7:Int) (l8:Int) (l9:qU) (l10:Int) (l11:qU) (l12:Int) (l13:Int) (l14:qU):(tcall tbT qpX qwQ Tryz.f10 [.agg [.int .i64 l,.str l2,.sl l3 .non,.int .i64 l4,.int .i64 l5,.str l6,.int .i64 l7,.int .i64 l8,.str l9,.int .i64 l10,.str l11,.int .i64 l12,.int .i64 l13,.str l14]]).flat=qnW l l2 l3 l4 l5 l6 l7 l8 l9 l10 l11 l12 l13 l14:=by kernel_rfl
def qbX (l:Int) (l2:qU) (l3:qR) (l4:Int) (l5:Int) (l6:qU) (l7:Int) (l8:Int) (l9:qU) (l10:Int) (l11:qU) (l12:Int) (l13:Int) (l14:qU):Option PV:=(qnW l l2 l3 l4 l5 l6 l7 l8 l9 l10 l11 l12 l13 l14).run
def qby (l:Int) (l2:qU) (l3:qR) (l4:Int) (l5:Int) (l6:qU) (l7:Int) (l8:Int) (l9:qU) (l10:Int) (l11:qU) (l12:Int) (l13:Int) (l14:qU):Int:=(gInt (gAt (gCs (gVal (qbX l l2 l3 l4 l5 l6 l7 l8 l9 l10 l11 l12 l13 l14))) 0))
def qbz (l:Int) (l2:qU) (l3:qR) (l4:Int) (l5:Int) (l6:qU) (l7:Int) (l8:Int) (l9:qU) (l10:Int) (l11:qU) (l12:Int) (l13:Int) (l14:qU):List UInt8:=(gStr (gAt (gCs (gVal (qbX l l2 l3 l4 l5 l6 l7 l8 l9 l10 l11 l12 l13 l14))) 1))
def qbA (l:Int) (l2:qU) (l3:qR) (l4:Int) (l5:Int) (l6:qU) (l7:Int) (l8:Int) (l9:qU) (l10:Int) (l11:qU) (l12:Int) (l13:Int) (l14:qU):List (List PV):=(gRow (gAt (gCs (gVal (qbX l l2 l3 l4 l5 l6 l7 l8 l9 l10 l11 l12 l13 l14))) 2))
def qbb (l:Int) (l2:qU) (l3:qR) (l4:Int) (l5:Int) (l6:qU) (l7:Int) (l8:Int) (l9:qU) (l10:Int) (l11:qU) (l12:Int) (l13:Int) (l14:qU):Int:=(gInt (gAt (gCs (gVal (qbX l l2 l3 l4 l5 l6 l7 l8 l9 l10 l11 l12 l13 l14))) 3))
def qbc (l:Int) (l2:qU) (l3:qR) (l4:Int) (l5:Int) (l6:qU) (l7:Int) (l8:Int) (l9:qU) (l10:Int) (l11:qU) (l12:Int) (l13:Int) (l14:qU):Int:=(gInt (gAt (gCs (gVal (qbX l l2 l3 l4 l5 l6 l7 l8 l9 l10 l11 l12 l13 l14))) 4))
def qbe (l:Int) (l2:qU) (l3:qR) (l4:Int) (l5:Int) (l6:qU) (l7:Int) (l8:Int) (l9:qU) (l10:Int) (l11:qU) (l12:Int) (l13:Int) (l14:qU):List UInt8:=(gStr (gAt (gCs (gVal (qbX l l2 l3 l4 l5 l6 l7 l8 l9 l10 l11 l12 l13 l14))) 5))
def qa7 (l:Int) (l2:qU) (l3:qR) (l4:Int) (l5:Int) (l6:qU) (l7:Int) (l8:Int) (l9:qU) (l10:Int) (l11:qU) (l12:Int) (l13:Int) (l14:qU):Int:=(gInt (gAt (gCs (gVal (qbX l l2 l3 l4 l5 l6 l7 l8 l9 l10 l11 l12 l13 l14))) 6))
def qa4 (l:Int) (l2:qU) (l3:qR) (l4:Int) (l5:Int) (l6:qU) (l7:Int) (l8:Int) (l9:qU) (l10:Int) (l11:qU) (l12:Int) (l13:Int) (l14:qU):Int:=(gInt (gAt (gCs (gVal (qbX l l2 l3 l4 l5 l6 l7 l8 l9 l10 l11 l12 l13 l14))) 7))
def qba (l:Int) (l2:qU) (l3:qR) (l4:Int) (l5:Int) (l6:qU) (l7:Int) (l8:Int) (l9:qU) (l10:Int) (l11:qU) (l12:Int) (l13:Int) (l14:qU):List UInt8:=(gStr (gAt (gCs (gVal (qbX l l2 l3 l4 l5 l6 l7 l8 l9 l10 l11 l12 l13 l14))) 8))
def qa5 (l:Int) (l2:qU) (l3:qR) (l4:Int) (l5:Int) (l6:qU) (l7:Int) (l8:Int) (l9:qU) (l10:Int) (l11:qU) (l12:Int) (l13:Int) (l14:qU):Int:=(gInt (gAt (gCs (gVal (qbX l l2 l3 l4 l5 l6 l7 l8 l9 l10 l11 l12 l13 l14))) 9))
def qa8 (l:Int) (l2:qU) (l3:qR) (l4:Int) (l5:Int) (l6:qU) (l7:Int) (l8:Int) (l9:qU) (l10:Int) (l11:qU) (l12:Int) (l13:Int) (l14:qU):List UInt8:=(gStr (gAt (gCs (gVal (qbX l l2 l3 l4 l5 l6 l7 l8 l9 l10 l11 l12 l13 l14))) 10))
def qa6 (l:Int) (l2:qU) (l3:qR) (l4:Int) (l5:Int) (l6:qU) (l7:Int) (l8:Int) (l9:qU) (l10:Int) (l11:qU) (l12:Int) (l13:Int) (l14:qU):Int:=(gInt (gAt (gCs (gVal (qbX l l2 l3 l4 l5 l6 l7 l8 l9 l10 l11 l12 l13 l14))) 11))
def qbd (l:Int) (l2:qU) (l3:qR) (l4:Int) (l5:Int) (l6:qU) (l7:Int) (l8:Int) (l9:qU) (l10:Int) (l11:qU) (l12:Int) (l13:Int) (l14:qU):Int:=(gInt (gAt (gCs (gVal (qbX l l2 l3 l4 l5 l6 l7 l8 l9 l10 l11 l12 l13 l14))) 12))
def qa9 (l:Int) (l2:qU) (l3:qR) (l4:Int) (l5:Int) (l6:qU) (l7:Int) (l8:Int) (l9:qU) (l10:Int) (l11:qU) (l12:Int) (l13:Int) (l14:qU):List UInt8:=(gStr (gAt (gCs (gVal (qbX l l2 l3 l4 l5 l6 l7 l8 l9 l10 l11 l12 l13 l14))) 13))
def qbl (l:Int) (l2:qU) (l3:qR) (l4:Int) (l5:Int) (l6:qU) (l7:Int) (l8:Int) (l9:qU) (l10:Int) (l11:qU) (l12:Int) (l13:Int) (l14:qU):Bool:=isW (qbX l l2 l3 l4 l5 l6 l7 l8 l9 l10 l11 l12 l13 l14) (.agg [.int .i64 (qby l l2 l3 l4 l5 l6 l7 l8 l9 l10 l11 l12 l13 l14),.str (qbz l l2 l3 l4 l5 l6 l7 l8 l9 l10 l11 l12 l13 l14),.sl (qbA l l2 l3 l4 l5 l6 l7 l8 l9 l10 l11 l12 l13 l14) .non,.int .i64 (qbb l l2 l3 l4 l5 l6 l7 l8 l9 l10 l11 l12 l13 l14),.int .i64 (qbc l l2 l3 l4 l5 l6 l7 l8 l9 l10 l11 l12 l13 l14),.str (qbe l l2 l3 l4 l5 l6 l7 l8 l9 l10 l11 l12 l13 l14),.int .i64 (qa7 l l2 l3 l4 l5 l6 l7 l8 l9 l10 l11 l12 l13 l14),.int .i64 (qa4 l l2 l3 l4 l5 l6 l7 l8 l9 l10 l11 l12 l13 l14),.str (qba l l2 l3 l4 l5 l6 l7 l8 l9 l10 l11 l12 l13 l14),.int .i64 (qa5 l l2 l3 l4 l5 l6 l7 l8 l9 l10 l11 l12 l13 l14),.str (qa8 l l2 l3 l4 l5 l6 l7 l8 l9 l10 l11 l12 l13 l14),.int .i64 (qa6 l l2 l3 l4 l5 l6 l7 l8 l9 l10 l11 l12 l13 l14),.int .i64 (qbd l l2 l3 l4 l5 l6 l7 l8 l9 l10 l11 l12 l13 l14),.str (qa9 l l2 l3 l4 l5 l6 l7 l8 l9 l10 l11 l12 l13 l14)])
def qqR:List PV→Tr PV|[.agg [.int .i64 l,.str l2,.sl l3 .non,.int .i64 l4,.int .i64 l5,.str l6,.int .i64 l7,.int .i64 l8,.str l9,.int .i64 l10,.str l11,.int .i64 l12,.int .i64 l13,.str l14]]=>.ite (qbl l l2 l3 l4 l5 l6 l7 l8 l9 l10 l11 l12 l13 l14) (.ret (.agg [.int .i64 (qby l l2 l3 l4 l5 l6 l7 l8 l9 l10 l11 l12 l13 l14),.str (qbz l l2 l3 l4 l5 l6 l7 l8 l9 l10 l11 l12 l13 l14),.sl (qbA l l2 l3 l4 l5 l6 l7 l8 l9 l10 l11 l12 l13 l14) .non,.int .i64 (qbb l l2 l3 l4 l5 l6 l7 l8 l9 l10 l11 l12 l13 l14),.int .i64 (qbc l l2 l3 l4 l5 l6 l7 l8 l9 l10 l11 l12 l13 l14),.str (qbe l l2 l3 l4 l5 l6 l7 l8 l9 l10 l11 l12 l13 l14),.int .i64 (qa7 l l2 l3 l4 l5 l6 l7 l8 l9 l10 l11 l12 l13 l14),.int .i64 (qa4 l l2 l3 l4 l5 l6 l7 l8 l9 l10 l11 l12 l13 l14),.str (qba l l2 l3 l4 l5 l6 l7 l8 l9 l10 l11 l12 l13 l14),.int .i64 (qa5 l l2 l3 l4 l5 l6 l7 l8 l9 l10 l11 l12 l13 l14),.str (qa8 l l2 l3 l4 l5 l6 l7 l8 l9 l10 l11 l12 l13 l14),.int .i64 (qa6 l l2 l3 l4 l5 l6 l7 l8 l9 l10 l11 l12 l13 l14),.int .i64 (qbd l l2 l3 l4 l5 l6 l7 l8 l9 l10 l11 l12 l13 l14),.str (qa9 l l2 l3 l4 l5 l6 l7 l8 l9 l10 l11 l12 l13 l14)])) (.fail)|_=>.fail
theorem qz9 (gl:Gl):SimP Tryz.prog gl 10 fun args=>(qqR args).run:=by
 refine SimP.of_flat (G:=qpX) (L:=qwQ) qat (qBb gl ) qah  Tryz.func10 rfl (by rfl) (by kernel_rfl) (qae (by kernel_rfl)) ?_
 intro args x h;unfold qqR at h
 split at h
 ·exact (congrArg Tr.run (qHs _ _ _ _ _ _ _ _ _ _ _ _ _ _)).trans (qai h fun h=>by cases h)
 ·cases h
def qtO:GamT:=ofL [(10,.pure qqR),(42,.pure quR),(qdX,.hint [(8,2,14,34)])]
theorem qz8 (gl:Gl):qaU Tryz.prog gl (gam qtO):=(qac (qz9 gl) (qac (qum gl) (qbv (K:=.hint [(8,2,14,34)]) trivial qag)))
def qrm:Code:=qdT Tryz.f23 3
def qrx:LI:=⟨32,[1,2,3,4],fun e=>match e with|.exit 0=>[2,3]|_=>[],true⟩
def quk:LpsT:=fun r fr σ=>.fail
def qgk (vs:List PV) (σ:Store):Option (PExit×List PV×Store):=lval (lstep tbT qtO quk qrm qrx) vs σ
def qkZ (i:Int) (s:qU) (r:qR) (r2:qR) (s2:qU) (r3:qR) (r4:qR) (s3:qU) (r5:qR) (r6:qR) (k:Nat):Tr LR:=.ite (iLt i (xLen r2)) (.ite (iLt i 8) (.ite (qav i) (.ite (qa3 [.int .i64 0,.str [],.sl [] .full,.int .i64 0,.int .i64 0,.str [],.int .i64 0,.int .i64 0,.str [],.int .i64 0,.str [],.int .i64 0,.int .i64 0,.str []] r2 (nNat i)) (.ite (qbl (xInt r2 (nNat i) 0) (xStr r2 (nNat i) 1) (qaa (xRow r2 (nNat i) 2)) (xInt r2 (nNat i) 3) (xInt r2 (nNat i) 4) (xStr r2 (nNat i) 5) (xInt r2 (nNat i) 6) (xInt r2 (nNat i) 7) (xStr r2 (nNat i) 8) (xInt r2 (nNat i) 9) (xStr r2 (nNat i) 10) (xInt r2 (nNat i) 11) (xInt r2 (nNat i) 12) (xStr r2 (nNat i) 13)) (.ite (qaI r6 [[.int .i64 (qby (xInt r2 (nNat i) 0) (xStr r2 (nNat i) 1) (qaa (xRow r2 (nNat i) 2)) (xInt r2 (nNat i) 3) (xInt r2 (nNat i) 4) (xStr r2 (nNat i) 5) (xInt r2 (nNat i) 6) (xInt r2 (nNat i) 7) (xStr r2 (nNat i) 8) (xInt r2 (nNat i) 9) (xStr r2 (nNat i) 10) (xInt r2 (nNat i) 11) (xInt r2 (nNat i) 12) (xStr r2 (nNat i) 13)),.str (qbz (xInt r2 (nNat i) 0) (xStr r2 (nNat i) 1) (qaa (xRow r2 (nNat i) 2)) (xInt r2 (nNat i) 3) (xInt r2 (nNat i) 4) (xStr r2 (nNat i) 5) (xInt r2 (nNat i) 6) (xInt r2 (nNat i) 7) (xStr r2 (nNat i) 8) (xInt r2 (nNat i) 9) (xStr r2 (nNat i) 10) (xInt r2 (nNat i) 11) (xInt r2 (nNat i) 12) (xStr r2 (nNat i) 13)),.sl (qbA (xInt r2 (nNat i) 0) (xStr r2 (nNat i) 1) (qaa (xRow r2 (nNat i) 2)) (xInt r2 (nNat i) 3) (xInt r2 (nNat i) 4) (xStr r2 (nNat i) 5) (xInt r2 (nNat i) 6) (xInt r2 (nNat i) 7) (xStr r2 (nNat i) 8) (xInt r2 (nNat i) 9) (xStr r2 (nNat i) 10) (xInt r2 (nNat i) 11) (xInt r2 (nNat i) 12) (xStr r2 (nNat i) 13)) .non,.int .i64 (qbb (xInt r2 (nNat i) 0) (xStr r2 (nNat i) 1) (qaa (xRow r2 (nNat i) 2)) (xInt r2 (nNat i) 3) (xInt r2 (nNat i) 4) (xStr r2 (nNat i) 5)
 (xInt r2 (nNat i) 6) (xInt r2 (nNat i) 7) (xStr r2 (nNat i) 8) (xInt r2 (nNat i) 9) (xStr r2 (nNat i) 10) (xInt r2 (nNat i) 11) (xInt r2 (nNat i) 12) (xStr r2 (nNat i) 13)),.int .i64 (qbc (xInt r2 (nNat i) 0) (xStr r2 (nNat i) 1) (qaa (xRow r2 (nNat i) 2)) (xInt r2 (nNat i) 3) (xInt r2 (nNat i) 4) (xStr r2 (nNat i) 5) (xInt r2 (nNat i) 6) (xInt r2 (nNat i) 7) (xStr r2 (nNat i) 8) (xInt r2 (nNat i) 9) (xStr r2 (nNat i) 10) (xInt r2 (nNat i) 11) (xInt r2 (nNat i) 12) (xStr r2 (nNat i) 13)),.str (qbe (xInt r2 (nNat i) 0) (xStr r2 (nNat i) 1) (qaa (xRow r2 (nNat i) 2)) (xInt r2 (nNat i) 3) (xInt r2 (nNat i) 4) (xStr r2 (nNat i) 5) (xInt r2 (nNat i) 6) (xInt r2 (nNat i) 7) (xStr r2 (nNat i) 8) (xInt r2 (nNat i) 9) (xStr r2 (nNat i) 10) (xInt r2 (nNat i) 11) (xInt r2 (nNat i) 12) (xStr r2 (nNat i) 13)),.int .i64 (qa7 (xInt r2 (nNat i) 0) (xStr r2 (nNat i) 1) (qaa (xRow r2 (nNat i) 2)) (xInt r2 (nNat i) 3) (xInt r2 (nNat i) 4) (xStr r2 (nNat i) 5) (xInt r2 (nNat i) 6) (xInt r2 (nNat i) 7) (xStr r2 (nNat i) 8) (xInt r2 (nNat i) 9) (xStr r2 (nNat i) 10) (xInt r2 (nNat i) 11) (xInt r2 (nNat i) 12) (xStr r2 (nNat i) 13)),.int .i64 (qa4 (xInt r2 (nNat i) 0) (xStr r2 (nNat i) 1) (qaa (xRow r2 (nNat i) 2)) (xInt r2 (nNat i) 3) (xInt r2 (nNat i) 4) (xStr r2 (nNat i) 5) (xInt r2 (nNat i) 6) (xInt r2 (nNat i) 7) (xStr r2 (nNat i) 8) (xInt r2 (nNat i) 9) (xStr r2 (nNat i) 10) (xInt r2 (nNat i) 11) (xInt r2 (nNat i) 12) (xStr r2 (nNat i) 13)),.str (qba (xInt r2 (nNat i) 0) (xStr r2 (nNat i) 1) (qaa (xRow r2 (nNat i) 2)) (xInt r2 (nNat i) 3) (xInt r2 (nNat i) 4) (xStr r2 (nNat i) 5) (xInt r2 (nNat i) 6) (xInt r2 (nNat i) 7) (xStr r2 (nNat i) 8) (xInt r2 (nNat i) 9) (xStr r2 (nNat i) 10) (xInt r2 (nNat i) 11) (xInt r2 (nNat i) 12) (xStr r2 (nNat i) 13)),.int .i64 (qa5 (xInt r2 (nNat i) 0) (xStr r2 (nNat i) 1) (qaa (xRow r2 (nNat i) 2)) (xInt r2 (nNat i) 3) (xInt r2 (nNat i) 4) (xStr r2 (nNat i) 5)
 (xInt r2 (nNat i) 6) (xInt r2 (nNat i) 7) (xStr r2 (nNat i) 8) (xInt r2 (nNat i) 9) (xStr r2 (nNat i) 10) (xInt r2 (nNat i) 11) (xInt r2 (nNat i) 12) (xStr r2 (nNat i) 13)),.str (qa8 (xInt r2 (nNat i) 0) (xStr r2 (nNat i) 1) (qaa (xRow r2 (nNat i) 2)) (xInt r2 (nNat i) 3) (xInt r2 (nNat i) 4) (xStr r2 (nNat i) 5) (xInt r2 (nNat i) 6) (xInt r2 (nNat i) 7) (xStr r2 (nNat i) 8) (xInt r2 (nNat i) 9) (xStr r2 (nNat i) 10) (xInt r2 (nNat i) 11) (xInt r2 (nNat i) 12) (xStr r2 (nNat i) 13)),.int .i64 (qa6 (xInt r2 (nNat i) 0) (xStr r2 (nNat i) 1) (qaa (xRow r2 (nNat i) 2)) (xInt r2 (nNat i) 3) (xInt r2 (nNat i) 4) (xStr r2 (nNat i) 5) (xInt r2 (nNat i) 6) (xInt r2 (nNat i) 7) (xStr r2 (nNat i) 8) (xInt r2 (nNat i) 9) (xStr r2 (nNat i) 10) (xInt r2 (nNat i) 11) (xInt r2 (nNat i) 12) (xStr r2 (nNat i) 13)),.int .i64 (qbd (xInt r2 (nNat i) 0) (xStr r2 (nNat i) 1) (qaa (xRow r2 (nNat i) 2)) (xInt r2 (nNat i) 3) (xInt r2 (nNat i) 4) (xStr r2 (nNat i) 5) (xInt r2 (nNat i) 6) (xInt r2 (nNat i) 7) (xStr r2 (nNat i) 8) (xInt r2 (nNat i) 9) (xStr r2 (nNat i) 10) (xInt r2 (nNat i) 11) (xInt r2 (nNat i) 12) (xStr r2 (nNat i) 13)),.str (qa9 (xInt r2 (nNat i) 0) (xStr r2 (nNat i) 1) (qaa (xRow r2 (nNat i) 2)) (xInt r2 (nNat i) 3) (xInt r2 (nNat i) 4) (xStr r2 (nNat i) 5) (xInt r2 (nNat i) 6) (xInt r2 (nNat i) 7) (xStr r2 (nNat i) 8) (xInt r2 (nNat i) 9) (xStr r2 (nNat i) 10) (xInt r2 (nNat i) 11) (xInt r2 (nNat i) 12) (xStr r2 (nNat i) 13))]] 168) (.ite (qaH [[.int .i64 (qby (xInt r2 (nNat i) 0) (xStr r2 (nNat i) 1) (qaa (xRow r2 (nNat i) 2)) (xInt r2 (nNat i) 3) (xInt r2 (nNat i) 4) (xStr r2 (nNat i) 5) (xInt r2 (nNat i) 6) (xInt r2 (nNat i) 7) (xStr r2 (nNat i) 8) (xInt r2 (nNat i) 9) (xStr r2 (nNat i) 10) (xInt r2 (nNat i) 11) (xInt r2 (nNat i) 12) (xStr r2 (nNat i) 13)),.str (qbz (xInt r2 (nNat i) 0) (xStr r2 (nNat i) 1) (qaa (xRow r2 (nNat i) 2)) (xInt r2 (nNat i) 3) (xInt r2 (nNat i) 4) (xStr r2 (nNat i) 5)
 (xInt r2 (nNat i) 6) (xInt r2 (nNat i) 7) (xStr r2 (nNat i) 8) (xInt r2 (nNat i) 9) (xStr r2 (nNat i) 10) (xInt r2 (nNat i) 11) (xInt r2 (nNat i) 12) (xStr r2 (nNat i) 13)),.sl (qbA (xInt r2 (nNat i) 0) (xStr r2 (nNat i) 1) (qaa (xRow r2 (nNat i) 2)) (xInt r2 (nNat i) 3) (xInt r2 (nNat i) 4) (xStr r2 (nNat i) 5) (xInt r2 (nNat i) 6) (xInt r2 (nNat i) 7) (xStr r2 (nNat i) 8) (xInt r2 (nNat i) 9) (xStr r2 (nNat i) 10) (xInt r2 (nNat i) 11) (xInt r2 (nNat i) 12) (xStr r2 (nNat i) 13)) .non,.int .i64 (qbb (xInt r2 (nNat i) 0) (xStr r2 (nNat i) 1) (qaa (xRow r2 (nNat i) 2)) (xInt r2 (nNat i) 3) (xInt r2 (nNat i) 4) (xStr r2 (nNat i) 5) (xInt r2 (nNat i) 6) (xInt r2 (nNat i) 7) (xStr r2 (nNat i) 8) (xInt r2 (nNat i) 9) (xStr r2 (nNat i) 10) (xInt r2 (nNat i) 11) (xInt r2 (nNat i) 12) (xStr r2 (nNat i) 13)),.int .i64 (qbc (xInt r2 (nNat i) 0) (xStr r2 (nNat i) 1) (qaa (xRow r2 (nNat i) 2)) (xInt r2 (nNat i) 3) (xInt r2 (nNat i) 4) (xStr r2 (nNat i) 5) (xInt r2 (nNat i) 6) (xInt r2 (nNat i) 7) (xStr r2 (nNat i) 8) (xInt r2 (nNat i) 9) (xStr r2 (nNat i) 10) (xInt r2 (nNat i) 11) (xInt r2 (nNat i) 12) (xStr r2 (nNat i) 13)),.str (qbe (xInt r2 (nNat i) 0) (xStr r2 (nNat i) 1) (qaa (xRow r2 (nNat i) 2)) (xInt r2 (nNat i) 3) (xInt r2 (nNat i) 4) (xStr r2 (nNat i) 5) (xInt r2 (nNat i) 6) (xInt r2 (nNat i) 7) (xStr r2 (nNat i) 8) (xInt r2 (nNat i) 9) (xStr r2 (nNat i) 10) (xInt r2 (nNat i) 11) (xInt r2 (nNat i) 12) (xStr r2 (nNat i) 13)),.int .i64 (qa7 (xInt r2 (nNat i) 0) (xStr r2 (nNat i) 1) (qaa (xRow r2 (nNat i) 2)) (xInt r2 (nNat i) 3) (xInt r2 (nNat i) 4) (xStr r2 (nNat i) 5) (xInt r2 (nNat i) 6) (xInt r2 (nNat i) 7) (xStr r2 (nNat i) 8) (xInt r2 (nNat i) 9) (xStr r2 (nNat i) 10) (xInt r2 (nNat i) 11) (xInt r2 (nNat i) 12) (xStr r2 (nNat i) 13)),.int .i64 (qa4 (xInt r2 (nNat i) 0) (xStr r2 (nNat i) 1) (qaa (xRow r2 (nNat i) 2)) (xInt r2 (nNat i) 3) (xInt r2 (nNat i) 4) (xStr r2 (nNat i) 5)
 (xInt r2 (nNat i) 6) (xInt r2 (nNat i) 7) (xStr r2 (nNat i) 8) (xInt r2 (nNat i) 9) (xStr r2 (nNat i) 10) (xInt r2 (nNat i) 11) (xInt r2 (nNat i) 12) (xStr r2 (nNat i) 13)),.str (qba (xInt r2 (nNat i) 0) (xStr r2 (nNat i) 1) (qaa (xRow r2 (nNat i) 2)) (xInt r2 (nNat i) 3) (xInt r2 (nNat i) 4) (xStr r2 (nNat i) 5) (xInt r2 (nNat i) 6) (xInt r2 (nNat i) 7) (xStr r2 (nNat i) 8) (xInt r2 (nNat i) 9) (xStr r2 (nNat i) 10) (xInt r2 (nNat i) 11) (xInt r2 (nNat i) 12) (xStr r2 (nNat i) 13)),.int .i64 (qa5 (xInt r2 (nNat i) 0) (xStr r2 (nNat i) 1) (qaa (xRow r2 (nNat i) 2)) (xInt r2 (nNat i) 3) (xInt r2 (nNat i) 4) (xStr r2 (nNat i) 5) (xInt r2 (nNat i) 6) (xInt r2 (nNat i) 7) (xStr r2 (nNat i) 8) (xInt r2 (nNat i) 9) (xStr r2 (nNat i) 10) (xInt r2 (nNat i) 11) (xInt r2 (nNat i) 12) (xStr r2 (nNat i) 13)),.str (qa8 (xInt r2 (nNat i) 0) (xStr r2 (nNat i) 1) (qaa (xRow r2 (nNat i) 2)) (xInt r2 (nNat i) 3) (xInt r2 (nNat i) 4) (xStr r2 (nNat i) 5) (xInt r2 (nNat i) 6) (xInt r2 (nNat i) 7) (xStr r2 (nNat i) 8) (xInt r2 (nNat i) 9) (xStr r2 (nNat i) 10) (xInt r2 (nNat i) 11) (xInt r2 (nNat i) 12) (xStr r2 (nNat i) 13)),.int .i64 (qa6 (xInt r2 (nNat i) 0) (xStr r2 (nNat i) 1) (qaa (xRow r2 (nNat i) 2)) (xInt r2 (nNat i) 3) (xInt r2 (nNat i) 4) (xStr r2 (nNat i) 5) (xInt r2 (nNat i) 6) (xInt r2 (nNat i) 7) (xStr r2 (nNat i) 8) (xInt r2 (nNat i) 9) (xStr r2 (nNat i) 10) (xInt r2 (nNat i) 11) (xInt r2 (nNat i) 12) (xStr r2 (nNat i) 13)),.int .i64 (qbd (xInt r2 (nNat i) 0) (xStr r2 (nNat i) 1) (qaa (xRow r2 (nNat i) 2)) (xInt r2 (nNat i) 3) (xInt r2 (nNat i) 4) (xStr r2 (nNat i) 5) (xInt r2 (nNat i) 6) (xInt r2 (nNat i) 7) (xStr r2 (nNat i) 8) (xInt r2 (nNat i) 9) (xStr r2 (nNat i) 10) (xInt r2 (nNat i) 11) (xInt r2 (nNat i) 12) (xStr r2 (nNat i) 13)),.str (qa9 (xInt r2 (nNat i) 0) (xStr r2 (nNat i) 1) (qaa (xRow r2 (nNat i) 2)) (xInt r2 (nNat i) 3) (xInt r2 (nNat i) 4) (xStr r2 (nNat i) 5)
 (xInt r2 (nNat i) 6) (xInt r2 (nNat i) 7) (xStr r2 (nNat i) 8) (xInt r2 (nNat i) 9) (xStr r2 (nNat i) 10) (xInt r2 (nNat i) 11) (xInt r2 (nNat i) 12) (xStr r2 (nNat i) 13))]] 14) (.ite (qaB r6 14) (.ite (nEq k (nXs r6)) (.ret (.next [.ptr 0 0,.ptr 1 0,.ptr 2 0,.int .i64 (iAdd .i64 i 1)] (Store.mk [[.str s,.sl r .non,.sl r2 .non],[.str s2,.sl r3 .full,.sl r4 .full],[.str s3,.sl r5 .non,.sl (xApp r6 [[.int .i64 (qby (xInt r2 (nNat i) 0) (xStr r2 (nNat i) 1) (qaa (xRow r2 (nNat i) 2)) (xInt r2 (nNat i) 3) (xInt r2 (nNat i) 4) (xStr r2 (nNat i) 5) (xInt r2 (nNat i) 6) (xInt r2 (nNat i) 7) (xStr r2 (nNat i) 8) (xInt r2 (nNat i) 9) (xStr r2 (nNat i) 10) (xInt r2 (nNat i) 11) (xInt r2 (nNat i) 12) (xStr r2 (nNat i) 13)),.str (qbz (xInt r2 (nNat i) 0) (xStr r2 (nNat i) 1) (qaa (xRow r2 (nNat i) 2)) (xInt r2 (nNat i) 3) (xInt r2 (nNat i) 4) (xStr r2 (nNat i) 5) (xInt r2 (nNat i) 6) (xInt r2 (nNat i) 7) (xStr r2 (nNat i) 8) (xInt r2 (nNat i) 9) (xStr r2 (nNat i) 10) (xInt r2 (nNat i) 11) (xInt r2 (nNat i) 12) (xStr r2 (nNat i) 13)),.sl (qbA (xInt r2 (nNat i) 0) (xStr r2 (nNat i) 1) (qaa (xRow r2 (nNat i) 2)) (xInt r2 (nNat i) 3) (xInt r2 (nNat i) 4) (xStr r2 (nNat i) 5) (xInt r2 (nNat i) 6) (xInt r2 (nNat i) 7) (xStr r2 (nNat i) 8) (xInt r2 (nNat i) 9) (xStr r2 (nNat i) 10) (xInt r2 (nNat i) 11) (xInt r2 (nNat i) 12) (xStr r2 (nNat i) 13)) .non,.int .i64 (qbb (xInt r2 (nNat i) 0) (xStr r2 (nNat i) 1) (qaa (xRow r2 (nNat i) 2)) (xInt r2 (nNat i) 3) (xInt r2 (nNat i) 4) (xStr r2 (nNat i) 5) (xInt r2 (nNat i) 6) (xInt r2 (nNat i) 7) (xStr r2 (nNat i) 8) (xInt r2 (nNat i) 9) (xStr r2 (nNat i) 10) (xInt r2 (nNat i) 11) (xInt r2 (nNat i) 12) (xStr r2 (nNat i) 13)),.int .i64 (qbc (xInt r2 (nNat i) 0) (xStr r2 (nNat i) 1) (qaa (xRow r2 (nNat i) 2)) (xInt r2 (nNat i) 3) (xInt r2 (nNat i) 4) (xStr r2 (nNat i) 5) (xInt r2 (nNat i) 6) (xInt r2 (nNat i) 7) (xStr r2 (nNat i) 8) (xInt r2 (nNat i) 9) (xStr r2 (nNat i) 10)
 (xInt r2 (nNat i) 11) (xInt r2 (nNat i) 12) (xStr r2 (nNat i) 13)),.str (qbe (xInt r2 (nNat i) 0) (xStr r2 (nNat i) 1) (qaa (xRow r2 (nNat i) 2)) (xInt r2 (nNat i) 3) (xInt r2 (nNat i) 4) (xStr r2 (nNat i) 5) (xInt r2 (nNat i) 6) (xInt r2 (nNat i) 7) (xStr r2 (nNat i) 8) (xInt r2 (nNat i) 9) (xStr r2 (nNat i) 10) (xInt r2 (nNat i) 11) (xInt r2 (nNat i) 12) (xStr r2 (nNat i) 13)),.int .i64 (qa7 (xInt r2 (nNat i) 0) (xStr r2 (nNat i) 1) (qaa (xRow r2 (nNat i) 2)) (xInt r2 (nNat i) 3) (xInt r2 (nNat i) 4) (xStr r2 (nNat i) 5) (xInt r2 (nNat i) 6) (xInt r2 (nNat i) 7) (xStr r2 (nNat i) 8) (xInt r2 (nNat i) 9) (xStr r2 (nNat i) 10) (xInt r2 (nNat i) 11) (xInt r2 (nNat i) 12) (xStr r2 (nNat i) 13)),.int .i64 (qa4 (xInt r2 (nNat i) 0) (xStr r2 (nNat i) 1) (qaa (xRow r2 (nNat i) 2)) (xInt r2 (nNat i) 3) (xInt r2 (nNat i) 4) (xStr r2 (nNat i) 5) (xInt r2 (nNat i) 6) (xInt r2 (nNat i) 7) (xStr r2 (nNat i) 8) (xInt r2 (nNat i) 9) (xStr r2 (nNat i) 10) (xInt r2 (nNat i) 11) (xInt r2 (nNat i) 12) (xStr r2 (nNat i) 13)),.str (qba (xInt r2 (nNat i) 0) (xStr r2 (nNat i) 1) (qaa (xRow r2 (nNat i) 2)) (xInt r2 (nNat i) 3) (xInt r2 (nNat i) 4) (xStr r2 (nNat i) 5) (xInt r2 (nNat i) 6) (xInt r2 (nNat i) 7) (xStr r2 (nNat i) 8) (xInt r2 (nNat i) 9) (xStr r2 (nNat i) 10) (xInt r2 (nNat i) 11) (xInt r2 (nNat i) 12) (xStr r2 (nNat i) 13)),.int .i64 (qa5 (xInt r2 (nNat i) 0) (xStr r2 (nNat i) 1) (qaa (xRow r2 (nNat i) 2)) (xInt r2 (nNat i) 3) (xInt r2 (nNat i) 4) (xStr r2 (nNat i) 5) (xInt r2 (nNat i) 6) (xInt r2 (nNat i) 7) (xStr r2 (nNat i) 8) (xInt r2 (nNat i) 9) (xStr r2 (nNat i) 10) (xInt r2 (nNat i) 11) (xInt r2 (nNat i) 12) (xStr r2 (nNat i) 13)),.str (qa8 (xInt r2 (nNat i) 0) (xStr r2 (nNat i) 1) (qaa (xRow r2 (nNat i) 2)) (xInt r2 (nNat i) 3) (xInt r2 (nNat i) 4) (xStr r2 (nNat i) 5) (xInt r2 (nNat i) 6) (xInt r2 (nNat i) 7) (xStr r2 (nNat i) 8) (xInt r2 (nNat i) 9) (xStr r2 (nNat i) 10)
 (xInt r2 (nNat i) 11) (xInt r2 (nNat i) 12) (xStr r2 (nNat i) 13)),.int .i64 (qa6 (xInt r2 (nNat i) 0) (xStr r2 (nNat i) 1) (qaa (xRow r2 (nNat i) 2)) (xInt r2 (nNat i) 3) (xInt r2 (nNat i) 4) (xStr r2 (nNat i) 5) (xInt r2 (nNat i) 6) (xInt r2 (nNat i) 7) (xStr r2 (nNat i) 8) (xInt r2 (nNat i) 9) (xStr r2 (nNat i) 10) (xInt r2 (nNat i) 11) (xInt r2 (nNat i) 12) (xStr r2 (nNat i) 13)),.int .i64 (qbd (xInt r2 (nNat i) 0) (xStr r2 (nNat i) 1) (qaa (xRow r2 (nNat i) 2)) (xInt r2 (nNat i) 3) (xInt r2 (nNat i) 4) (xStr r2 (nNat i) 5) (xInt r2 (nNat i) 6) (xInt r2 (nNat i) 7) (xStr r2 (nNat i) 8) (xInt r2 (nNat i) 9) (xStr r2 (nNat i) 10) (xInt r2 (nNat i) 11) (xInt r2 (nNat i) 12) (xStr r2 (nNat i) 13)),.str (qa9 (xInt r2 (nNat i) 0) (xStr r2 (nNat i) 1) (qaa (xRow r2 (nNat i) 2)) (xInt r2 (nNat i) 3) (xInt r2 (nNat i) 4) (xStr r2 (nNat i) 5) (xInt r2 (nNat i) 6) (xInt r2 (nNat i) 7) (xStr r2 (nNat i) 8) (xInt r2 (nNat i) 9) (xStr r2 (nNat i) 10) (xInt r2 (nNat i) 11) (xInt r2 (nNat i) 12) (xStr r2 (nNat i) 13))]]) (.tok 0)]] [(nXs (xApp r6 [[.int .i64 (qby (xInt r2 (nNat i) 0) (xStr r2 (nNat i) 1) (qaa (xRow r2 (nNat i) 2)) (xInt r2 (nNat i) 3) (xInt r2 (nNat i) 4) (xStr r2 (nNat i) 5) (xInt r2 (nNat i) 6) (xInt r2 (nNat i) 7) (xStr r2 (nNat i) 8) (xInt r2 (nNat i) 9) (xStr r2 (nNat i) 10) (xInt r2 (nNat i) 11) (xInt r2 (nNat i) 12) (xStr r2 (nNat i) 13)),.str (qbz (xInt r2 (nNat i) 0) (xStr r2 (nNat i) 1) (qaa (xRow r2 (nNat i) 2)) (xInt r2 (nNat i) 3) (xInt r2 (nNat i) 4) (xStr r2 (nNat i) 5) (xInt r2 (nNat i) 6) (xInt r2 (nNat i) 7) (xStr r2 (nNat i) 8) (xInt r2 (nNat i) 9) (xStr r2 (nNat i) 10) (xInt r2 (nNat i) 11) (xInt r2 (nNat i) 12) (xStr r2 (nNat i) 13)),.sl (qbA (xInt r2 (nNat i) 0) (xStr r2 (nNat i) 1) (qaa (xRow r2 (nNat i) 2)) (xInt r2 (nNat i) 3) (xInt r2 (nNat i) 4)
 (xStr r2 (nNat i) 5) (xInt r2 (nNat i) 6) (xInt r2 (nNat i) 7) (xStr r2 (nNat i) 8) (xInt r2 (nNat i) 9) (xStr r2 (nNat i) 10) (xInt r2 (nNat i) 11) (xInt r2 (nNat i) 12) (xStr r2 (nNat i) 13)) .non,.int .i64 (qbb (xInt r2 (nNat i) 0) (xStr r2 (nNat i) 1) (qaa (xRow r2 (nNat i) 2)) (xInt r2 (nNat i) 3) (xInt r2 (nNat i) 4) (xStr r2 (nNat i) 5) (xInt r2 (nNat i) 6) (xInt r2 (nNat i) 7) (xStr r2 (nNat i) 8) (xInt r2 (nNat i) 9) (xStr r2 (nNat i) 10) (xInt r2 (nNat i) 11) (xInt r2 (nNat i) 12) (xStr r2 (nNat i) 13)),.int .i64 (qbc (xInt r2 (nNat i) 0) (xStr r2 (nNat i) 1) (qaa (xRow r2 (nNat i) 2)) (xInt r2 (nNat i) 3) (xInt r2 (nNat i) 4) (xStr r2 (nNat i) 5) (xInt r2 (nNat i) 6) (xInt r2 (nNat i) 7) (xStr r2 (nNat i) 8) (xInt r2 (nNat i) 9) (xStr r2 (nNat i) 10) (xInt r2 (nNat i) 11) (xInt r2 (nNat i) 12) (xStr r2 (nNat i) 13)),.str (qbe (xInt r2 (nNat i) 0) (xStr r2 (nNat i) 1) (qaa (xRow r2 (nNat i) 2)) (xInt r2 (nNat i) 3) (xInt r2 (nNat i) 4) (xStr r2 (nNat i) 5) (xInt r2 (nNat i) 6) (xInt r2 (nNat i) 7) (xStr r2 (nNat i) 8) (xInt r2 (nNat i) 9) (xStr r2 (nNat i) 10) (xInt r2 (nNat i) 11) (xInt r2 (nNat i) 12) (xStr r2 (nNat i) 13)),.int .i64 (qa7 (xInt r2 (nNat i) 0) (xStr r2 (nNat i) 1) (qaa (xRow r2 (nNat i) 2)) (xInt r2 (nNat i) 3) (xInt r2 (nNat i) 4) (xStr r2 (nNat i) 5) (xInt r2 (nNat i) 6) (xInt r2 (nNat i) 7) (xStr r2 (nNat i) 8) (xInt r2 (nNat i) 9) (xStr r2 (nNat i) 10) (xInt r2 (nNat i) 11) (xInt r2 (nNat i) 12) (xStr r2 (nNat i) 13)),.int .i64 (qa4 (xInt r2 (nNat i) 0) (xStr r2 (nNat i) 1) (qaa (xRow r2 (nNat i) 2)) (xInt r2 (nNat i) 3) (xInt r2 (nNat i) 4) (xStr r2 (nNat i) 5) (xInt r2 (nNat i) 6) (xInt r2 (nNat i) 7) (xStr r2 (nNat i) 8) (xInt r2 (nNat i) 9) (xStr r2 (nNat i) 10) (xInt r2 (nNat i) 11) (xInt r2 (nNat i) 12) (xStr r2 (nNat i) 13)),.str (qba (xInt r2 (nNat i) 0) (xStr r2 (nNat i) 1) (qaa (xRow r2 (nNat i) 2)) (xInt r2 (nNat i) 3) (xInt r2 (nNat i) 4)
 (xStr r2 (nNat i) 5) (xInt r2 (nNat i) 6) (xInt r2 (nNat i) 7) (xStr r2 (nNat i) 8) (xInt r2 (nNat i) 9) (xStr r2 (nNat i) 10) (xInt r2 (nNat i) 11) (xInt r2 (nNat i) 12) (xStr r2 (nNat i) 13)),.int .i64 (qa5 (xInt r2 (nNat i) 0) (xStr r2 (nNat i) 1) (qaa (xRow r2 (nNat i) 2)) (xInt r2 (nNat i) 3) (xInt r2 (nNat i) 4) (xStr r2 (nNat i) 5) (xInt r2 (nNat i) 6) (xInt r2 (nNat i) 7) (xStr r2 (nNat i) 8) (xInt r2 (nNat i) 9) (xStr r2 (nNat i) 10) (xInt r2 (nNat i) 11) (xInt r2 (nNat i) 12) (xStr r2 (nNat i) 13)),.str (qa8 (xInt r2 (nNat i) 0) (xStr r2 (nNat i) 1) (qaa (xRow r2 (nNat i) 2)) (xInt r2 (nNat i) 3) (xInt r2 (nNat i) 4) (xStr r2 (nNat i) 5) (xInt r2 (nNat i) 6) (xInt r2 (nNat i) 7) (xStr r2 (nNat i) 8) (xInt r2 (nNat i) 9) (xStr r2 (nNat i) 10) (xInt r2 (nNat i) 11) (xInt r2 (nNat i) 12) (xStr r2 (nNat i) 13)),.int .i64 (qa6 (xInt r2 (nNat i) 0) (xStr r2 (nNat i) 1) (qaa (xRow r2 (nNat i) 2)) (xInt r2 (nNat i) 3) (xInt r2 (nNat i) 4) (xStr r2 (nNat i) 5) (xInt r2 (nNat i) 6) (xInt r2 (nNat i) 7) (xStr r2 (nNat i) 8) (xInt r2 (nNat i) 9) (xStr r2 (nNat i) 10) (xInt r2 (nNat i) 11) (xInt r2 (nNat i) 12) (xStr r2 (nNat i) 13)),.int .i64 (qbd (xInt r2 (nNat i) 0) (xStr r2 (nNat i) 1) (qaa (xRow r2 (nNat i) 2)) (xInt r2 (nNat i) 3) (xInt r2 (nNat i) 4) (xStr r2 (nNat i) 5) (xInt r2 (nNat i) 6) (xInt r2 (nNat i) 7) (xStr r2 (nNat i) 8) (xInt r2 (nNat i) 9) (xStr r2 (nNat i) 10) (xInt r2 (nNat i) 11) (xInt r2 (nNat i) 12) (xStr r2 (nNat i) 13)),.str (qa9 (xInt r2 (nNat i) 0) (xStr r2 (nNat i) 1) (qaa (xRow r2 (nNat i) 2)) (xInt r2 (nNat i) 3) (xInt r2 (nNat i) 4) (xStr r2 (nNat i) 5) (xInt r2 (nNat i) 6) (xInt r2 (nNat i) 7) (xStr r2 (nNat i) 8) (xInt r2 (nNat i) 9) (xStr r2 (nNat i) 10) (xInt r2 (nNat i) 11) (xInt r2 (nNat i) 12) (xStr r2 (nNat i) 13))]]),14,34)] [48,48,48]))) .fail) .fail) .fail) .fail) .fail) .fail) .fail) (.ret (.out (.exit 0) [.ptr 1 0,.ptr 2 0]
 (Store.mk [[.str s,.sl r .non,.sl r2 .non],[.str s2,.sl r3 .full,.sl r4 .full],[.str s3,.sl r5 .non,.sl r6 (.tok 0)]] [(k,14,34)] [48,48,48])))) (.ret (.out (.exit 0) [.ptr 1 0,.ptr 2 0] (Store.mk [[.str s,.sl r .non,.sl r2 .non],[.str s2,.sl r3 .full,.sl r4 .full],[.str s3,.sl r5 .non,.sl r6 (.tok 0)]] [(k,14,34)] [48,48,48])))
theorem qNU (i:Int) (s:qU) (r:qR) (r2:qR) (s2:qU) (r3:qR) (r4:qR) (s3:qU) (r5:qR) (r6:qR) (k:Nat):lstep tbT qtO quk qrm qrx [.ptr 0 0,.ptr 1 0,.ptr 2 0,.int .i64 i] ⟨[[.str s,.sl r .non,.sl r2 .non],[.str s2,.sl r3 .full,.sl r4 .full],[.str s3,.sl r5 .non,.sl r6 (.tok 0)]],[(k,14,34)],[48,48,48]⟩=qkZ i s r r2 s2 r3 r4 s3 r5 r6 k:=by kernel_rfl
theorem qEv (i:Int) (s:qU) (r:qR) (r2:qR) (s2:qU) (r3:qR) (r4:qR) (s3:qU) (r5:qR) (r6:qR) (k:Nat):qgk [.ptr 0 0,.ptr 1 0,.ptr 2 0,.int .i64 i] ⟨[[.str s,.sl r .non,.sl r2 .non],[.str s2,.sl r3 .full,.sl r4 .full],[.str s3,.sl r5 .non,.sl r6 (.tok 0)]],[(k,14,34)],[48,48,48]⟩=lnext qgk (qkZ i s r r2 s2 r3 r4 s3 r5 r6 k).run:=by unfold qgk;rw [qbu,qNU]
def qeO (i:Int) (s:qU) (r:qR) (r2:qR) (s2:qU) (r3:qR) (r4:qR) (s3:qU) (r5:qR) (r6:qR) (k:Nat):Option (PExit×List PV×Store):=qgk [.ptr 0 0,.ptr 1 0,.ptr 2 0,.int .i64 i] ⟨[[.str s,.sl r .non,.sl r2 .non],[.str s2,.sl r3 .full,.sl r4 .full],[.str s3,.sl r5 .non,.sl r6 (.tok 0)]],[(k,14,34)],[48,48,48]⟩
def qyU (i:Int) (s:qU) (r:qR) (r2:qR) (s2:qU) (r3:qR) (r4:qR) (s3:qU) (r5:qR) (r6:qR) (k:Nat):List UInt8:=(gStr (gAt (gObj (qeO i s r r2 s2 r3 r4 s3 r5 r6 k) 0) 0))
def qyz (i:Int) (s:qU) (r:qR) (r2:qR) (s2:qU) (r3:qR) (r4:qR) (s3:qU) (r5:qR) (r6:qR) (k:Nat):List (List PV):=(gRow (gAt (gObj (qeO i s r r2 s2 r3 r4 s3 r5 r6 k) 0) 1))
def quO (i:Int) (s:qU) (r:qR) (r2:qR) (s2:qU) (r3:qR) (r4:qR) (s3:qU) (r5:qR) (r6:qR) (k:Nat):List (List PV):=(gRow (gAt (gObj (qeO i s r r2 s2 r3 r4 s3 r5 r6 k) 0) 2))
def qto (i:Int) (s:qU) (r:qR) (r2:qR) (s2:qU) (r3:qR) (r4:qR) (s3:qU) (r5:qR) (r6:qR) (k:Nat):List UInt8:=(gStr (gAt (gObj (qeO i s r r2 s2 r3 r4 s3 r5 r6 k) 1) 0))
def qul (i:Int) (s:qU) (r:qR) (r2:qR) (s2:qU) (r3:qR) (r4:qR) (s3:qU) (r5:qR) (r6:qR) (k:Nat):List (List PV):=(gRow (gAt (gObj (qeO i s r r2 s2 r3 r4 s3 r5 r6 k) 1) 1))
def quu (i:Int) (s:qU) (r:qR) (r2:qR) (s2:qU) (r3:qR) (r4:qR) (s3:qU) (r5:qR) (r6:qR) (k:Nat):List (List PV):=(gRow (gAt (gObj (qeO i s r r2 s2 r3 r4 s3 r5 r6 k) 1) 2))
def qo9 (i:Int) (s:qU) (r:qR) (r2:qR) (s2:qU) (r3:qR) (r4:qR) (s3:qU) (r5:qR) (r6:qR) (k:Nat):List UInt8:=(gStr (gAt (gObj (qeO i s r r2 s2 r3 r4 s3 r5 r6 k) 2) 0))
def qpq (i:Int) (s:qU) (r:qR) (r2:qR) (s2:qU) (r3:qR) (r4:qR) (s3:qU) (r5:qR) (r6:qR) (k:Nat):List (List PV):=(gRow (gAt (gObj (qeO i s r r2 s2 r3 r4 s3 r5 r6 k) 2) 1))
def qod (i:Int) (s:qU) (r:qR) (r2:qR) (s2:qU) (r3:qR) (r4:qR) (s3:qU) (r5:qR) (r6:qR) (k:Nat):List (List PV):=(gRow (gAt (gObj (qeO i s r r2 s2 r3 r4 s3 r5 r6 k) 2) 2))
def qyA (i:Int) (s:qU) (r:qR) (r2:qR) (s2:qU) (r3:qR) (r4:qR) (s3:qU) (r5:qR) (r6:qR) (k:Nat):Nat:=(gTok (qeO i s r r2 s2 r3 r4 s3 r5 r6 k) 0)
def qqC (i:Int) (s:qU) (r:qR) (r2:qR) (s2:qU) (r3:qR) (r4:qR) (s3:qU) (r5:qR) (r6:qR) (k:Nat):Bool:=isW (qeO i s r r2 s2 r3 r4 s3 r5 r6 k) ((.exit 0),[.ptr 1 0,.ptr 2 0],⟨[[.str (qyU i s r r2 s2 r3 r4 s3 r5 r6 k),.sl (qyz i s r r2 s2 r3 r4 s3 r5 r6 k) .non,.sl (quO i s r r2 s2 r3 r4 s3 r5 r6 k) .non],[.str (qto i s r r2 s2 r3 r4 s3 r5 r6 k),.sl (qul i s r r2 s2 r3 r4 s3 r5 r6 k) .full,.sl (quu i s r r2 s2 r3 r4 s3 r5 r6 k) .full],[.str (qo9 i s r r2 s2 r3 r4 s3 r5 r6 k),.sl (qpq i s r r2 s2 r3 r4 s3 r5 r6 k) .non,.sl (qod i s r r2 s2 r3 r4 s3 r5 r6 k) (.tok 0)]],[((qyA i s r r2 s2 r3 r4 s3 r5 r6 k),14,34)],[48,48,48]⟩)
def qjT:List PV→Store→Tr (PExit×List PV×Store)|[.ptr 0 0,.ptr 1 0,.ptr 2 0,.int .i64 i],⟨[[.str s,.sl r .non,.sl r2 .non],[.str s2,.sl r3 .full,.sl r4 .full],[.str s3,.sl r5 .non,.sl r6 (.tok 0)]],[(k,14,34)],[48,48,48]⟩=>.ite (qqC i s r r2 s2 r3 r4 s3 r5 r6 k) (.ret ((.exit 0),[.ptr 1 0,.ptr 2 0],⟨[[.str (qyU i s r r2 s2 r3 r4 s3 r5 r6 k),.sl (qyz i s r r2 s2 r3 r4 s3 r5 r6 k) .non,.sl (quO i s r r2 s2 r3 r4 s3 r5 r6 k) .non],[.str (qto i s r r2 s2 r3 r4 s3 r5 r6 k),.sl (qul i s r r2 s2 r3 r4 s3 r5 r6 k) .full,.sl (quu i s r r2 s2 r3 r4 s3 r5 r6 k) .full],[.str (qo9 i s r r2 s2 r3 r4 s3 r5 r6 k),.sl (qpq i s r r2 s2 r3 r4 s3 r5 r6 k) .non,.sl (qod i s r r2 s2 r3 r4 s3 r5 r6 k) (.tok 0)]],[((qyA i s r r2 s2 r3 r4 s3 r5 r6 k),14,34)],[48,48,48]⟩)) (.fail)|_,_=>.fail
theorem qJr:∀ vs σ r,(qjT vs σ).run=some r→qgk vs σ=some r:=by
 intro vs σ r h;unfold qjT at h
 split at h
 ·exact qai h fun h=>by cases h
 ·cases h
theorem qBG (gl:Gl):∀ fr σ e fr' σ',(orc qrx qjT fr σ).run=some (e,fr',σ')→LDoes Tryz.prog gl qrm fr σ e fr' σ':=qck qat (qz8 gl ) qah (L:=quk) (qae (by kernel_rfl)) (by kernel_rfl) qJr
def qCg:LpsT:=fun r fr σ=>bif Nat.beq r 3 then orc qrx qjT fr σ else .fail
def qyY (r_:qU) (r_2:qR) (r_3:qR):Tr PV:=.ite (qgu r_ (qaa r_2)) (.ite (qqC 0 r_ r_2 r_3 [] [] [] (qeW r_ (qaa r_2)) (qe2 r_ (qaa r_2)) [] 0) (.ret (.agg [.str (qo9 0 r_ r_2 r_3 [] [] [] (qeW r_ (qaa r_2)) (qe2 r_ (qaa r_2)) [] 0),.sl (qcq (qpq 0 r_ r_2 r_3 [] [] [] (qeW r_ (qaa r_2)) (qe2 r_ (qaa r_2)) [] 0)) .non,.sl (qcq (qod 0 r_ r_2 r_3 [] [] [] (qeW r_ (qaa r_2)) (qe2 r_ (qaa r_2)) [] 0)) .non])) .fail) .fail
theorem qQ8 (r_:qU) (r_2:qR) (r_3:qR):(tcall tbT qtO qCg Tryz.f23 [.agg [.str r_,.sl r_2 .non,.sl r_3 .non]]).flat=qyY r_ r_2 r_3:=by kernel_rfl
def qp0 (r_:qU) (r_2:qR) (r_3:qR):Option PV:=(qyY r_ r_2 r_3).run
def qhM (r_:qU) (r_2:qR) (r_3:qR):List UInt8:=(gStr (gAt (gCs (gVal (qp0 r_ r_2 r_3))) 0))
def qha (r_:qU) (r_2:qR) (r_3:qR):List (List PV):=(gRow (gAt (gCs (gVal (qp0 r_ r_2 r_3))) 1))
def qfE (r_:qU) (r_2:qR) (r_3:qR):List (List PV):=(gRow (gAt (gCs (gVal (qp0 r_ r_2 r_3))) 2))
def qhn (r_:qU) (r_2:qR) (r_3:qR):Bool:=isW (qp0 r_ r_2 r_3) (.agg [.str (qhM r_ r_2 r_3),.sl (qha r_ r_2 r_3) .non,.sl (qfE r_ r_2 r_3) .non])
def qCy:List PV→Tr PV|[.agg [.str r_,.sl r_2 .non,.sl r_3 .non]]=>.ite (qhn r_ r_2 r_3) (.ret (.agg [.str (qhM r_ r_2 r_3),.sl (qha r_ r_2 r_3) .non,.sl (qfE r_ r_2 r_3) .non])) (.fail)|_=>.fail
theorem qMn (gl:Gl):SimP Tryz.prog gl 23 fun args=>(qCy args).run:=by
 refine SimP.of_flat (G:=qtO) (L:=qCg) qat (qz8 gl ) qah  Tryz.func23 rfl (by rfl) (by kernel_rfl) (qaX (L:=lps qCg) [(3,qrm)] (by kernel_rfl) (List.forall_mem_cons.2 ⟨fun fr σ e fr' σ' h=>qBG gl  fr σ e fr' σ' h,(List.forall_mem_nil _)⟩)) ?_
 intro args x h;unfold qCy at h
 split at h
 ·exact (congrArg Tr.run (qQ8 _ _ _)).trans (qai h fun h=>by cases h)
 ·cases h
def qCz:GamT:=ofL [(11,.pure F_tx)]
theorem qMp (gl:Gl):qaU Tryz.prog gl (gam qCz):=(qac (qEL gl) qag)
def qHN:LpsT:=fun r fr σ=>.fail
def qyT (d:qU) (d2:Bool) (d3:qR):Tr PV:=.ite (qo0 d) (.ite (iLt 12 (xLen d3)) (.ite (qaQ true (qav 12) 0 (nNat 12) (nXs d3)) (.ite (qaB d3 1) (.ret (.agg [.str (tx_s d),.bool d2,.sl (qcq (xSub d3 0 (nNat 12))) .non])) .fail) .fail) (.ret (.agg [.str (tx_s d),.bool d2,.sl (qcq d3) .non]))) .fail
theorem qQz (d:qU) (d2:Bool) (d3:qR):(tcall tbT qCz qHN Tryz.f24 [.agg [.str d,.bool d2,.sl d3 .non]]).flat=qyT d d2 d3:=by kernel_rfl
def qpS (d:qU) (d2:Bool) (d3:qR):Option PV:=(qyT d d2 d3).run
def qhO (d:qU) (d2:Bool) (d3:qR):List UInt8:=(gStr (gAt (gCs (gVal (qpS d d2 d3))) 0))
def qhH (d:qU) (d2:Bool) (d3:qR):Bool:=(qcb (gAt (gCs (gVal (qpS d d2 d3))) 1))
def qg7 (d:qU) (d2:Bool) (d3:qR):List (List PV):=(gRow (gAt (gCs (gVal (qpS d d2 d3))) 2))
def qhv (d:qU) (d2:Bool) (d3:qR):Bool:=isW (qpS d d2 d3) (.agg [.str (qhO d d2 d3),.bool (qhH d d2 d3),.sl (qg7 d d2 d3) .non])
def qBN:List PV→Tr PV|[.agg [.str d,.bool d2,.sl d3 .non]]=>.ite (qhv d d2 d3) (.ret (.agg [.str (qhO d d2 d3),.bool (qhH d d2 d3),.sl (qg7 d d2 d3) .non])) (.fail)|_=>.fail
theorem qKW (gl:Gl):SimP Tryz.prog gl 24 fun args=>(qBN args).run:=by
 refine SimP.of_flat (G:=qCz) (L:=qHN) qat (qMp gl ) qah  Tryz.func24 rfl (by rfl) (by kernel_rfl) (qae (by kernel_rfl)) ?_
 intro args x h;unfold qBN at h
 split at h
 ·exact (congrArg Tr.run (qQz _ _ _)).trans (qai h fun h=>by cases h)
 ·cases h
def qBU:GamT:=ofL [(11,.pure F_tx),(42,.pure quR),(qdX,.hint [(9,1,2,101),(9,2,3,103)])]
theorem qDv (gl:Gl):qaU Tryz.prog gl (gam qBU):=(qac (qEL gl) (qac (qum gl) (qbv (K:=.hint [(9,1,2,101),(9,2,3,103)]) trivial qag)))
def qEf:Code:=qdT Tryz.f25 3
def qEe:Code:=qdT Tryz.f25 7
def qEW:LI:=⟨71,[1,2,3,4],fun e=>match e with|.exit 0=>[1,2,3]|_=>[],true⟩
def qBs:LpsT:=fun r fr σ=>.fail
def qm1 (vs:List PV) (σ:Store):Option (PExit×List PV×Store):=lval (lstep tbT qBU qBs qEf qEW) vs σ
def quC (n:Int) (s:qU) (r:qR) (r2:qR) (s2:qU) (r3:qR) (r4:qR) (s3:qU) (r5:qR) (r6:qR) (k:Nat) (k2:Nat):Tr LR:=.ite (iLt n (xLen r)) (.ite (iLt n 12) (.ite (qav n) (.ite (qa3 [.str [],.int .i64 0] r (nNat n)) (.ite (qo0 (xStr r (nNat n) 0)) (.ite (qav n) (.ite (qa3 [.str [],.int .i64 0] r (nNat n)) (.ite (qaI r5 [[.str (tx_s (xStr r (nNat n) 0)),.int .i64 (xInt r (nNat n) 1)]] 24) (.ite (qaH [[.str (tx_s (xStr r (nNat n) 0)),.int .i64 (xInt r (nNat n) 1)]] 2) (.ite (qaB r5 2) (.ite (nEq k (nXs r5)) (.ret (.next [.ptr 0 0,.ptr 1 0,.ptr 2 0,.int .i64 (iAdd .i64 n 1)] (Store.mk [[.str s,.sl r .non,.sl r2 .non],[.str s2,.sl r3 .full,.sl r4 .full],[.str s3,.sl (xApp r5 [[.str (tx_s (xStr r (nNat n) 0)),.int .i64 (xInt r (nNat n) 1)]]) (.tok 0),.sl r6 (.tok 1)]] [(nXs (xApp r5 [[.str (tx_s (xStr r (nNat n) 0)),.int .i64 (xInt r (nNat n) 1)]]),2,101),(k2,3,103)] [55,55,55]))) .fail) .fail) .fail) .fail) .fail) .fail) .fail) .fail) .fail) (.ret (.out (.exit 0) [.ptr 0 0,.ptr 1 0,.ptr 2 0] (Store.mk [[.str s,.sl r .non,.sl r2 .non],[.str s2,.sl r3 .full,.sl r4 .full],[.str s3,.sl r5 (.tok 0),.sl r6 (.tok 1)]] [(k,2,101),(k2,3,103)] [55,55,55])))) (.ret (.out (.exit 0) [.ptr 0 0,.ptr 1 0,.ptr 2 0] (Store.mk [[.str s,.sl r .non,.sl r2 .non],[.str s2,.sl r3 .full,.sl r4 .full],[.str s3,.sl r5 (.tok 0),.sl r6 (.tok 1)]] [(k,2,101),(k2,3,103)] [55,55,55])))
theorem qSM (n:Int) (s:qU) (r:qR) (r2:qR) (s2:qU) (r3:qR) (r4:qR) (s3:qU) (r5:qR) (r6:qR) (k:Nat) (k2:Nat):lstep tbT qBU qBs qEf qEW [.ptr 0 0,.ptr 1 0,.ptr 2 0,.int .i64 n] ⟨[[.str s,.sl r .non,.sl r2 .non],[.str s2,.sl r3 .full,.sl r4 .full],[.str s3,.sl r5 (.tok 0),.sl r6 (.tok 1)]],[(k,2,101),(k2,3,103)],[55,55,55]⟩=quC n s r r2 s2 r3 r4 s3 r5 r6 k k2:=by kernel_rfl
theorem qOZ (n:Int) (s:qU) (r:qR) (r2:qR) (s2:qU) (r3:qR) (r4:qR) (s3:qU) (r5:qR) (r6:qR) (k:Nat) (k2:Nat):qm1 [.ptr 0 0,.ptr 1 0,.ptr 2 0,.int .i64 n] ⟨[[.str s,.sl r .non,.sl r2 .non],[.str s2,.sl r3 .full,.sl r4 .full],[.str s3,.sl r5 (.tok 0),.sl r6 (.tok 1)]],[(k,2,101),(k2,3,103)],[55,55,55]⟩=lnext qm1 (quC n s r r2 s2 r3 r4 s3 r5 r6 k k2).run:=by unfold qm1;rw [qbu,qSM]
def qi9 (n:Int) (s:qU) (r:qR) (r2:qR) (s2:qU) (r3:qR) (r4:qR) (s3:qU) (r5:qR) (r6:qR) (k:Nat) (k2:Nat):Option (PExit×List PV×Store):=qm1 [.ptr 0 0,.ptr 1 0,.ptr 2 0,.int .i64 n] ⟨[[.str s,.sl r .non,.sl r2 .non],[.str s2,.sl r3 .full,.sl r4 .full],[.str s3,.sl r5 (.tok 0),.sl r6 (.tok 1)]],[(k,2,101),(k2,3,103)],[55,55,55]⟩
def qvq (n:Int) (s:qU) (r:qR) (r2:qR) (s2:qU) (r3:qR) (r4:qR) (s3:qU) (r5:qR) (r6:qR) (k:Nat) (k2:Nat):List UInt8:=(gStr (gAt (gObj (qi9 n s r r2 s2 r3 r4 s3 r5 r6 k k2) 0) 0))
def qt2 (n:Int) (s:qU) (r:qR) (r2:qR) (s2:qU) (r3:qR) (r4:qR) (s3:qU) (r5:qR) (r6:qR) (k:Nat) (k2:Nat):List (List PV):=(gRow (gAt (gObj (qi9 n s r r2 s2 r3 r4 s3 r5 r6 k k2) 0) 1))
def qnj (n:Int) (s:qU) (r:qR) (r2:qR) (s2:qU) (r3:qR) (r4:qR) (s3:qU) (r5:qR) (r6:qR) (k:Nat) (k2:Nat):List (List PV):=(gRow (gAt (gObj (qi9 n s r r2 s2 r3 r4 s3 r5 r6 k k2) 0) 2))
def qnV (n:Int) (s:qU) (r:qR) (r2:qR) (s2:qU) (r3:qR) (r4:qR) (s3:qU) (r5:qR) (r6:qR) (k:Nat) (k2:Nat):List UInt8:=(gStr (gAt (gObj (qi9 n s r r2 s2 r3 r4 s3 r5 r6 k k2) 1) 0))
def qnL (n:Int) (s:qU) (r:qR) (r2:qR) (s2:qU) (r3:qR) (r4:qR) (s3:qU) (r5:qR) (r6:qR) (k:Nat) (k2:Nat):List (List PV):=(gRow (gAt (gObj (qi9 n s r r2 s2 r3 r4 s3 r5 r6 k k2) 1) 1))
def qns (n:Int) (s:qU) (r:qR) (r2:qR) (s2:qU) (r3:qR) (r4:qR) (s3:qU) (r5:qR) (r6:qR) (k:Nat) (k2:Nat):List (List PV):=(gRow (gAt (gObj (qi9 n s r r2 s2 r3 r4 s3 r5 r6 k k2) 1) 2))
def qn1 (n:Int) (s:qU) (r:qR) (r2:qR) (s2:qU) (r3:qR) (r4:qR) (s3:qU) (r5:qR) (r6:qR) (k:Nat) (k2:Nat):List UInt8:=(gStr (gAt (gObj (qi9 n s r r2 s2 r3 r4 s3 r5 r6 k k2) 2) 0))
def qny (n:Int) (s:qU) (r:qR) (r2:qR) (s2:qU) (r3:qR) (r4:qR) (s3:qU) (r5:qR) (r6:qR) (k:Nat) (k2:Nat):List (List PV):=(gRow (gAt (gObj (qi9 n s r r2 s2 r3 r4 s3 r5 r6 k k2) 2) 1))
def qnt (n:Int) (s:qU) (r:qR) (r2:qR) (s2:qU) (r3:qR) (r4:qR) (s3:qU) (r5:qR) (r6:qR) (k:Nat) (k2:Nat):List (List PV):=(gRow (gAt (gObj (qi9 n s r r2 s2 r3 r4 s3 r5 r6 k k2) 2) 2))
def quW (n:Int) (s:qU) (r:qR) (r2:qR) (s2:qU) (r3:qR) (r4:qR) (s3:qU) (r5:qR) (r6:qR) (k:Nat) (k2:Nat):Nat:=(gTok (qi9 n s r r2 s2 r3 r4 s3 r5 r6 k k2) 0)
def qnp (n:Int) (s:qU) (r:qR) (r2:qR) (s2:qU) (r3:qR) (r4:qR) (s3:qU) (r5:qR) (r6:qR) (k:Nat) (k2:Nat):Nat:=(gTok (qi9 n s r r2 s2 r3 r4 s3 r5 r6 k k2) 1)
def qxE (n:Int) (s:qU) (r:qR) (r2:qR) (s2:qU) (r3:qR) (r4:qR) (s3:qU) (r5:qR) (r6:qR) (k:Nat) (k2:Nat):Bool:=isW (qi9 n s r r2 s2 r3 r4 s3 r5 r6 k k2) ((.exit 0),[.ptr 0 0,.ptr 1 0,.ptr 2 0],⟨[[.str (qvq n s r r2 s2 r3 r4 s3 r5 r6 k k2),.sl (qt2 n s r r2 s2 r3 r4 s3 r5 r6 k k2) .non,.sl (qnj n s r r2 s2 r3 r4 s3 r5 r6 k k2) .non],[.str (qnV n s r r2 s2 r3 r4 s3 r5 r6 k k2),.sl (qnL n s r r2 s2 r3 r4 s3 r5 r6 k k2) .full,.sl (qns n s r r2 s2 r3 r4 s3 r5 r6 k k2) .full],[.str (qn1 n s r r2 s2 r3 r4 s3 r5 r6 k k2),.sl (qny n s r r2 s2 r3 r4 s3 r5 r6 k k2) (.tok 0),.sl (qnt n s r r2 s2 r3 r4 s3 r5 r6 k k2) (.tok 1)]],[((quW n s r r2 s2 r3 r4 s3 r5 r6 k k2),2,101),((qnp n s r r2 s2 r3 r4 s3 r5 r6 k k2),3,103)],[55,55,55]⟩)
def qoZ:List PV→Store→Tr (PExit×List PV×Store)|[.ptr 0 0,.ptr 1 0,.ptr 2 0,.int .i64 n],⟨[[.str s,.sl r .non,.sl r2 .non],[.str s2,.sl r3 .full,.sl r4 .full],[.str s3,.sl r5 (.tok 0),.sl r6 (.tok 1)]],[(k,2,101),(k2,3,103)],[55,55,55]⟩=>.ite (qxE n s r r2 s2 r3 r4 s3 r5 r6 k k2) (.ret ((.exit 0),[.ptr 0 0,.ptr 1 0,.ptr 2 0],⟨[[.str (qvq n s r r2 s2 r3 r4 s3 r5 r6 k k2),.sl (qt2 n s r r2 s2 r3 r4 s3 r5 r6 k k2) .non,.sl (qnj n s r r2 s2 r3 r4 s3 r5 r6 k k2) .non],[.str (qnV n s r r2 s2 r3 r4 s3 r5 r6 k k2),.sl (qnL n s r r2 s2 r3 r4 s3 r5 r6 k k2) .full,.sl (qns n s r r2 s2 r3 r4 s3 r5 r6 k k2) .full],[.str (qn1 n s r r2 s2 r3 r4 s3 r5 r6 k k2),.sl (qny n s r r2 s2 r3 r4 s3 r5 r6 k k2) (.tok 0),.sl (qnt n s r r2 s2 r3 r4 s3 r5 r6 k k2) (.tok 1)]],[((quW n s r r2 s2 r3 r4 s3 r5 r6 k k2),2,101),((qnp n s r r2 s2 r3 r4 s3 r5 r6 k k2),3,103)],[55,55,55]⟩)) (.fail)|_,_=>.fail
theorem qPS:∀ vs σ r,(qoZ vs σ).run=some r→qm1 vs σ=some r:=by
 intro vs σ r h;unfold qoZ at h
 split at h
 ·exact qai h fun h=>by cases h
 ·cases h
theorem qLF (gl:Gl):∀ fr σ e fr' σ',(orc qEW qoZ fr σ).run=some (e,fr',σ')→LDoes Tryz.prog gl qEf fr σ e fr' σ':=qck qat (qDv gl ) qah (L:=qBs) (qae (by kernel_rfl)) (by kernel_rfl) qPS
def qF4:LI:=⟨71,[1,2,3,5],fun e=>match e with|.exit 2=>[2,3]|_=>[],true⟩
def qCi:LpsT:=fun r fr σ=>.fail
def qm0 (vs:List PV) (σ:Store):Option (PExit×List PV×Store):=lval (lstep tbT qBU qCi qEe qF4) vs σ
def qvw (n:Int) (s:qU) (r:qR) (r2:qR) (s2:qU) (r3:qR) (r4:qR) (s3:qU) (r5:qR) (r6:qR) (k:Nat) (k2:Nat):Tr LR:=.ite (iLt n (xLen r2)) (.ite (iLt n 8) (.ite (qav n) (.ite (qa3 [.bool false,.str [],.sl [] .full] r2 (nNat n)) (.ite (qav n) (.ite (qa3 [.bool false,.str [],.sl [] .full] r2 (nNat n)) (.ite (qgu (xStr r2 (nNat n) 1) (qaa (xRow r2 (nNat n) 2))) (.ite (qaI r6 [[.bool (qcu r2 (nNat n) 0),.str (qeW (xStr r2 (nNat n) 1) (qaa (xRow r2 (nNat n) 2))),.sl (qe2 (xStr r2 (nNat n) 1) (qaa (xRow r2 (nNat n) 2))) .non]] 48) (.ite (qaH [[.bool (qcu r2 (nNat n) 0),.str (qeW (xStr r2 (nNat n) 1) (qaa (xRow r2 (nNat n) 2))),.sl (qe2 (xStr r2 (nNat n) 1) (qaa (xRow r2 (nNat n) 2))) .non]] 3) (.ite (qaB r6 3) (.ite (nEq k2 (nXs r6)) (.ret (.next [.ptr 0 0,.ptr 1 0,.ptr 2 0,.int .i64 (iAdd .i64 n 1)] (Store.mk [[.str s,.sl r .non,.sl r2 .non],[.str s2,.sl r3 .full,.sl r4 .full],[.str s3,.sl r5 (.tok 0),.sl (xApp r6 [[.bool (qcu r2 (nNat n) 0),.str (qeW (xStr r2 (nNat n) 1) (qaa (xRow r2 (nNat n) 2))),.sl (qe2 (xStr r2 (nNat n) 1) (qaa (xRow r2 (nNat n) 2))) .non]]) (.tok 1)]] [(k,2,101),(nXs (xApp r6 [[.bool (qcu r2 (nNat n) 0),.str (qeW (xStr r2 (nNat n) 1) (qaa (xRow r2 (nNat n) 2))),.sl (qe2 (xStr r2 (nNat n) 1) (qaa (xRow r2 (nNat n) 2))) .non]]),3,103)] [55,55,55]))) .fail) .fail) .fail) .fail) .fail) .fail) .fail) .fail) .fail) (.ret (.out (.exit 2) [.ptr 1 0,.ptr 2 0] (Store.mk [[.str s,.sl r .non,.sl r2 .non],[.str s2,.sl r3 .full,.sl r4 .full],[.str s3,.sl r5 (.tok 0),.sl r6 (.tok 1)]] [(k,2,101),(k2,3,103)] [55,55,55])))) (.ret (.out (.exit 2) [.ptr 1 0,.ptr 2 0] (Store.mk [[.str s,.sl r .non,.sl r2 .non],[.str s2,.sl r3 .full,.sl r4 .full],[.str s3,.sl r5 (.tok 0),.sl r6 (.tok 1)]] [(k,2,101),(k2,3,103)] [55,55,55])))
theorem qSp (n:Int) (s:qU) (r:qR) (r2:qR) (s2:qU) (r3:qR) (r4:qR) (s3:qU) (r5:qR) (r6:qR) (k:Nat) (k2:Nat):lstep tbT qBU qCi qEe qF4 [.ptr 0 0,.ptr 1 0,.ptr 2 0,.int .i64 n] ⟨[[.str s,.sl r .non,.sl r2 .non],[.str s2,.sl r3 .full,.sl r4 .full],[.str s3,.sl r5 (.tok 0),.sl r6 (.tok 1)]],[(k,2,101),(k2,3,103)],[55,55,55]⟩=qvw n s r r2 s2 r3 r4 s3 r5 r6 k k2:=by kernel_rfl
theorem qOw (n:Int) (s:qU) (r:qR) (r2:qR) (s2:qU) (r3:qR) (r4:qR) (s3:qU) (r5:qR) (r6:qR) (k:Nat) (k2:Nat):qm0 [.ptr 0 0,.ptr 1 0,.ptr 2 0,.int .i64 n] ⟨[[.str s,.sl r .non,.sl r2 .non],[.str s2,.sl r3 .full,.sl r4 .full],[.str s3,.sl r5 (.tok 0),.sl r6 (.tok 1)]],[(k,2,101),(k2,3,103)],[55,55,55]⟩=lnext qm0 (qvw n s r r2 s2 r3 r4 s3 r5 r6 k k2).run:=by unfold qm0;rw [qbu,qSp]
def qi7 (n:Int) (s:qU) (r:qR) (r2:qR) (s2:qU) (r3:qR) (r4:qR) (s3:qU) (r5:qR) (r6:qR) (k:Nat) (k2:Nat):Option (PExit×List PV×Store):=qm0 [.ptr 0 0,.ptr 1 0,.ptr 2 0,.int .i64 n] ⟨[[.str s,.sl r .non,.sl r2 .non],[.str s2,.sl r3 .full,.sl r4 .full],[.str s3,.sl r5 (.tok 0),.sl r6 (.tok 1)]],[(k,2,101),(k2,3,103)],[55,55,55]⟩
def qLq (n:Int) (s:qU) (r:qR) (r2:qR) (s2:qU) (r3:qR) (r4:qR) (s3:qU) (r5:qR) (r6:qR) (k:Nat) (k2:Nat):List UInt8:=(gStr (gAt (gObj (qi7 n s r r2 s2 r3 r4 s3 r5 r6 k k2) 0) 0))
def qLt (n:Int) (s:qU) (r:qR) (r2:qR) (s2:qU) (r3:qR) (r4:qR) (s3:qU) (r5:qR) (r6:qR) (k:Nat) (k2:Nat):List (List PV):=(gRow (gAt (gObj (qi7 n s r r2 s2 r3 r4 s3 r5 r6 k k2) 0) 1))
def qDf (n:Int) (s:qU) (r:qR) (r2:qR) (s2:qU) (r3:qR) (r4:qR) (s3:qU) (r5:qR) (r6:qR) (k:Nat) (k2:Nat):List (List PV):=(gRow (gAt (gObj (qi7 n s r r2 s2 r3 r4 s3 r5 r6 k k2) 0) 2))
def qBL (n:Int) (s:qU) (r:qR) (r2:qR) (s2:qU) (r3:qR) (r4:qR) (s3:qU) (r5:qR) (r6:qR) (k:Nat) (k2:Nat):List UInt8:=(gStr (gAt (gObj (qi7 n s r r2 s2 r3 r4 s3 r5 r6 k k2) 1) 0))
def qDQ (n:Int) (s:qU) (r:qR) (r2:qR) (s2:qU) (r3:qR) (r4:qR) (s3:qU) (r5:qR) (r6:qR) (k:Nat) (k2:Nat):List (List PV):=(gRow (gAt (gObj (qi7 n s r r2 s2 r3 r4 s3 r5 r6 k k2) 1) 1))
def qBJ (n:Int) (s:qU) (r:qR) (r2:qR) (s2:qU) (r3:qR) (r4:qR) (s3:qU) (r5:qR) (r6:qR) (k:Nat) (k2:Nat):List (List PV):=(gRow (gAt (gObj (qi7 n s r r2 s2 r3 r4 s3 r5 r6 k k2) 1) 2))
def qx3 (n:Int) (s:qU) (r:qR) (r2:qR) (s2:qU) (r3:qR) (r4:qR) (s3:qU) (r5:qR) (r6:qR) (k:Nat) (k2:Nat):List UInt8:=(gStr (gAt (gObj (qi7 n s r r2 s2 r3 r4 s3 r5 r6 k k2) 2) 0))
def qw8 (n:Int) (s:qU) (r:qR) (r2:qR) (s2:qU) (r3:qR) (r4:qR) (s3:qU) (r5:qR) (r6:qR) (k:Nat) (k2:Nat):List (List PV):=(gRow (gAt (gObj (qi7 n s r r2 s2 r3 r4 s3 r5 r6 k k2) 2) 1))
def qy4 (n:Int) (s:qU) (r:qR) (r2:qR) (s2:qU) (r3:qR) (r4:qR) (s3:qU) (r5:qR) (r6:qR) (k:Nat) (k2:Nat):List (List PV):=(gRow (gAt (gObj (qi7 n s r r2 s2 r3 r4 s3 r5 r6 k k2) 2) 2))
def qJn (n:Int) (s:qU) (r:qR) (r2:qR) (s2:qU) (r3:qR) (r4:qR) (s3:qU) (r5:qR) (r6:qR) (k:Nat) (k2:Nat):Nat:=(gTok (qi7 n s r r2 s2 r3 r4 s3 r5 r6 k k2) 0)
def qC3 (n:Int) (s:qU) (r:qR) (r2:qR) (s2:qU) (r3:qR) (r4:qR) (s3:qU) (r5:qR) (r6:qR) (k:Nat) (k2:Nat):Nat:=(gTok (qi7 n s r r2 s2 r3 r4 s3 r5 r6 k k2) 1)
def qyi (n:Int) (s:qU) (r:qR) (r2:qR) (s2:qU) (r3:qR) (r4:qR) (s3:qU) (r5:qR) (r6:qR) (k:Nat) (k2:Nat):Bool:=isW (qi7 n s r r2 s2 r3 r4 s3 r5 r6 k k2) ((.exit 2),[.ptr 1 0,.ptr 2 0],⟨[[.str (qLq n s r r2 s2 r3 r4 s3 r5 r6 k k2),.sl (qLt n s r r2 s2 r3 r4 s3 r5 r6 k k2) .non,.sl (qDf n s r r2 s2 r3 r4 s3 r5 r6 k k2) .non],[.str (qBL n s r r2 s2 r3 r4 s3 r5 r6 k k2),.sl (qDQ n s r r2 s2 r3 r4 s3 r5 r6 k k2) .full,.sl (qBJ n s r r2 s2 r3 r4 s3 r5 r6 k k2) .full],[.str (qx3 n s r r2 s2 r3 r4 s3 r5 r6 k k2),.sl (qw8 n s r r2 s2 r3 r4 s3 r5 r6 k k2) (.tok 0),.sl (qy4 n s r r2 s2 r3 r4 s3 r5 r6 k k2) (.tok 1)]],[((qJn n s r r2 s2 r3 r4 s3 r5 r6 k k2),2,101),((qC3 n s r r2 s2 r3 r4 s3 r5 r6 k k2),3,103)],[55,55,55]⟩)
def qor:List PV→Store→Tr (PExit×List PV×Store)|[.ptr 0 0,.ptr 1 0,.ptr 2 0,.int .i64 n],⟨[[.str s,.sl r .non,.sl r2 .non],[.str s2,.sl r3 .full,.sl r4 .full],[.str s3,.sl r5 (.tok 0),.sl r6 (.tok 1)]],[(k,2,101),(k2,3,103)],[55,55,55]⟩=>.ite (qyi n s r r2 s2 r3 r4 s3 r5 r6 k k2) (.ret ((.exit 2),[.ptr 1 0,.ptr 2 0],⟨[[.str (qLq n s r r2 s2 r3 r4 s3 r5 r6 k k2),.sl (qLt n s r r2 s2 r3 r4 s3 r5 r6 k k2) .non,.sl (qDf n s r r2 s2 r3 r4 s3 r5 r6 k k2) .non],[.str (qBL n s r r2 s2 r3 r4 s3 r5 r6 k k2),.sl (qDQ n s r r2 s2 r3 r4 s3 r5 r6 k k2) .full,.sl (qBJ n s r r2 s2 r3 r4 s3 r5 r6 k k2) .full],[.str (qx3 n s r r2 s2 r3 r4 s3 r5 r6 k k2),.sl (qw8 n s r r2 s2 r3 r4 s3 r5 r6 k k2) (.tok 0),.sl (qy4 n s r r2 s2 r3 r4 s3 r5 r6 k k2) (.tok 1)]],[((qJn n s r r2 s2 r3 r4 s3 r5 r6 k k2),2,101),((qC3 n s r r2 s2 r3 r4 s3 r5 r6 k k2),3,103)],[55,55,55]⟩)) (.fail)|_,_=>.fail
theorem qPn:∀ vs σ r,(qor vs σ).run=some r→qm0 vs σ=some r:=by
 intro vs σ r h;unfold qor at h
 split at h
 ·exact qai h fun h=>by cases h
 ·cases h
theorem qJz (gl:Gl):∀ fr σ e fr' σ',(orc qF4 qor fr σ).run=some (e,fr',σ')→LDoes Tryz.prog gl qEe fr σ e fr' σ':=qck qat (qDv gl ) qah (L:=qCi) (qae (by kernel_rfl)) (by kernel_rfl) qPn
def qRy:LpsT:=fun r fr σ=>bif Nat.beq r 3 then orc qEW qoZ fr σ else bif Nat.beq r 7 then orc qF4 qor fr σ else .fail
def qK1 (v:qU) (v2:qR) (v3:qR):Tr PV:=.ite (qo0 v) (.ite (qxE 0 v v2 v3 [] [] [] (tx_s v) [] [] 0 0) (.ite (qyi 0 (qvq 0 v v2 v3 [] [] [] (tx_s v) [] [] 0 0) (qt2 0 v v2 v3 [] [] [] (tx_s v) [] [] 0 0) (qnj 0 v v2 v3 [] [] [] (tx_s v) [] [] 0 0) (qnV 0 v v2 v3 [] [] [] (tx_s v) [] [] 0 0) (qnL 0 v v2 v3 [] [] [] (tx_s v) [] [] 0 0) (qns 0 v v2 v3 [] [] [] (tx_s v) [] [] 0 0) (qn1 0 v v2 v3 [] [] [] (tx_s v) [] [] 0 0) (qny 0 v v2 v3 [] [] [] (tx_s v) [] [] 0 0) (qnt 0 v v2 v3 [] [] [] (tx_s v) [] [] 0 0) (quW 0 v v2 v3 [] [] [] (tx_s v) [] [] 0 0) (qnp 0 v v2 v3 [] [] [] (tx_s v) [] [] 0 0)) (.ret (.agg [.str (qx3 0 (qvq 0 v v2 v3 [] [] [] (tx_s v) [] [] 0 0) (qt2 0 v v2 v3 [] [] [] (tx_s v) [] [] 0 0) (qnj 0 v v2 v3 [] [] [] (tx_s v) [] [] 0 0) (qnV 0 v v2 v3 [] [] [] (tx_s v) [] [] 0 0) (qnL 0 v v2 v3 [] [] [] (tx_s v) [] [] 0 0) (qns 0 v v2 v3 [] [] [] (tx_s v) [] [] 0 0) (qn1 0 v v2 v3 [] [] [] (tx_s v) [] [] 0 0) (qny 0 v v2 v3 [] [] [] (tx_s v) [] [] 0 0) (qnt 0 v v2 v3 [] [] [] (tx_s v) [] [] 0 0) (quW 0 v v2 v3 [] [] [] (tx_s v) [] [] 0 0) (qnp 0 v v2 v3 [] [] [] (tx_s v) [] [] 0 0)),.sl (qcq (qw8 0 (qvq 0 v v2 v3 [] [] [] (tx_s v) [] [] 0 0) (qt2 0 v v2 v3 [] [] [] (tx_s v) [] [] 0 0) (qnj 0 v v2 v3 [] [] [] (tx_s v) [] [] 0 0) (qnV 0 v v2 v3 [] [] [] (tx_s v) [] [] 0 0) (qnL 0 v v2 v3 [] [] [] (tx_s v) [] [] 0 0) (qns 0 v v2 v3 [] [] [] (tx_s v) [] [] 0 0) (qn1 0 v v2 v3 [] [] [] (tx_s v) [] [] 0 0) (qny 0 v v2 v3 [] [] [] (tx_s v) [] [] 0 0) (qnt 0 v v2 v3 [] [] [] (tx_s v) [] [] 0 0) (quW 0 v v2 v3 [] [] [] (tx_s v) [] [] 0 0) (qnp 0 v v2 v3 [] [] [] (tx_s v) [] [] 0 0))) .non,.sl (qcq (qy4 0 (qvq 0 v v2 v3 [] [] [] (tx_s v) [] [] 0 0) (qt2 0 v v2 v3 [] [] [] (tx_s v) [] [] 0 0) (qnj 0 v v2 v3 [] [] [] (tx_s v) [] [] 0 0)
 (qnV 0 v v2 v3 [] [] [] (tx_s v) [] [] 0 0) (qnL 0 v v2 v3 [] [] [] (tx_s v) [] [] 0 0) (qns 0 v v2 v3 [] [] [] (tx_s v) [] [] 0 0) (qn1 0 v v2 v3 [] [] [] (tx_s v) [] [] 0 0) (qny 0 v v2 v3 [] [] [] (tx_s v) [] [] 0 0) (qnt 0 v v2 v3 [] [] [] (tx_s v) [] [] 0 0) (quW 0 v v2 v3 [] [] [] (tx_s v) [] [] 0 0) (qnp 0 v v2 v3 [] [] [] (tx_s v) [] [] 0 0))) .non])) .fail) .fail) .fail
theorem qT5 (v:qU) (v2:qR) (v3:qR):(tcall tbT qBU qRy Tryz.f25 [.agg [.str v,.sl v2 .non,.sl v3 .non]]).flat=qK1 v v2 v3:=by kernel_rfl
def qGf (v:qU) (v2:qR) (v3:qR):Option PV:=(qK1 v v2 v3).run
def quI (v:qU) (v2:qR) (v3:qR):List UInt8:=(gStr (gAt (gCs (gVal (qGf v v2 v3))) 0))
def qsZ (v:qU) (v2:qR) (v3:qR):List (List PV):=(gRow (gAt (gCs (gVal (qGf v v2 v3))) 1))
def qlh (v:qU) (v2:qR) (v3:qR):List (List PV):=(gRow (gAt (gCs (gVal (qGf v v2 v3))) 2))
def qnk (v:qU) (v2:qR) (v3:qR):Bool:=isW (qGf v v2 v3) (.agg [.str (quI v v2 v3),.sl (qsZ v v2 v3) .non,.sl (qlh v v2 v3) .non])
def qR0:List PV→Tr PV|[.agg [.str v,.sl v2 .non,.sl v3 .non]]=>.ite (qnk v v2 v3) (.ret (.agg [.str (quI v v2 v3),.sl (qsZ v v2 v3) .non,.sl (qlh v v2 v3) .non])) (.fail)|_=>.fail
theorem qRN (gl:Gl):SimP Tryz.prog gl 25 fun args=>(qR0 args).run:=by
 refine SimP.of_flat (G:=qBU) (L:=qRy) qat (qDv gl ) qah  Tryz.func25 rfl (by rfl) (by kernel_rfl) (qaX (L:=lps qRy) [(3,qEf),(7,qEe)] (by kernel_rfl) (List.forall_mem_cons.2 ⟨fun fr σ e fr' σ' h=>qLF gl  fr σ e fr' σ' h,(List.forall_mem_cons.2 ⟨fun fr σ e fr' σ' h=>qJz gl  fr σ e fr' σ' h,(List.forall_mem_nil _)⟩)⟩)) ?_
 intro args x h;unfold qR0 at h
 split at h
 ·exact (congrArg Tr.run (qT5 _ _ _)).trans (qai h fun h=>by cases h)
 ·cases h
def qeH:GamT:=ofL [(23,.pure qCy),(24,.pure qBN),(25,.pure qR0),(qdX,.hint [(3,0,3,51),(3,1,3,55),(3,2,3,48)])]
theorem qh9 (gl:Gl):qaU Tryz.prog gl (gam qeH):=(qac (qMn gl) (qac (qKW gl) (qac (qRN gl) (qbv (K:=.hint [(3,0,3,51),(3,1,3,55),(3,2,3,48)]) trivial qag))))
def qju:Code:=qdT Tryz.f35 3
def qkk:Code:=qdT Tryz.f35 7
def qkf:Code:=qdT Tryz.f35 11
def qku:LI:=⟨74,[1,2,3,4],fun e=>match e with|.exit 0=>[1,2,3]|_=>[],true⟩
def qk0:LpsT:=fun r fr σ=>.fail
def qc6 (vs:List PV) (σ:Store):Option (PExit×List PV×Store):=lval (lstep tbT qeH qk0 qju qku) vs σ
def qgv (n:Int) (r:qR) (r2:qR) (r3:qR) (r4:qR) (r5:qR) (r6:qR) (r7:qR) (r8:qR) (r9:qR) (k:Nat) (k2:Nat) (k3:Nat):Tr LR:=.ite (iLt n (xLen r)) (.ite (iLt n 12) (.ite (qav n) (.ite (qa3 [.str [],.bool false,.sl [] .full] r (nNat n)) (.ite (qhv (xStr r (nNat n) 0) (qcu r (nNat n) 1) (qaa (xRow r (nNat n) 2))) (.ite (qaI r7 [[.str (qhO (xStr r (nNat n) 0) (qcu r (nNat n) 1) (qaa (xRow r (nNat n) 2))),.bool (qhH (xStr r (nNat n) 0) (qcu r (nNat n) 1) (qaa (xRow r (nNat n) 2))),.sl (qg7 (xStr r (nNat n) 0) (qcu r (nNat n) 1) (qaa (xRow r (nNat n) 2))) .non]] 48) (.ite (qaH [[.str (qhO (xStr r (nNat n) 0) (qcu r (nNat n) 1) (qaa (xRow r (nNat n) 2))),.bool (qhH (xStr r (nNat n) 0) (qcu r (nNat n) 1) (qaa (xRow r (nNat n) 2))),.sl (qg7 (xStr r (nNat n) 0) (qcu r (nNat n) 1) (qaa (xRow r (nNat n) 2))) .non]] 3) (.ite (qaB r7 3) (.ite (nEq k (nXs r7)) (.ret (.next [.ptr 0 0,.ptr 1 0,.ptr 2 0,.int .i64 (iAdd .i64 n 1)] (Store.mk [[.sl r .non,.sl r2 .non,.sl r3 .non],[.sl r4 .full,.sl r5 .full,.sl r6 .full],[.sl (xApp r7 [[.str (qhO (xStr r (nNat n) 0) (qcu r (nNat n) 1) (qaa (xRow r (nNat n) 2))),.bool (qhH (xStr r (nNat n) 0) (qcu r (nNat n) 1) (qaa (xRow r (nNat n) 2))),.sl (qg7 (xStr r (nNat n) 0) (qcu r (nNat n) 1) (qaa (xRow r (nNat n) 2))) .non]]) (.tok 0),.sl r8 (.tok 1),.sl r9 (.tok 2)]] [(nXs (xApp r7 [[.str (qhO (xStr r (nNat n) 0) (qcu r (nNat n) 1) (qaa (xRow r (nNat n) 2))),.bool (qhH (xStr r (nNat n) 0) (qcu r (nNat n) 1) (qaa (xRow r (nNat n) 2))),.sl (qg7 (xStr r (nNat n) 0) (qcu r (nNat n) 1) (qaa (xRow r (nNat n) 2))) .non]]),3,51),(k2,3,55),(k3,3,48)] [71,71,71]))) .fail) .fail) .fail) .fail) .fail) .fail) .fail) (.ret
 (.out (.exit 0) [.ptr 0 0,.ptr 1 0,.ptr 2 0] (Store.mk [[.sl r .non,.sl r2 .non,.sl r3 .non],[.sl r4 .full,.sl r5 .full,.sl r6 .full],[.sl r7 (.tok 0),.sl r8 (.tok 1),.sl r9 (.tok 2)]] [(k,3,51),(k2,3,55),(k3,3,48)] [71,71,71])))) (.ret (.out (.exit 0) [.ptr 0 0,.ptr 1 0,.ptr 2 0] (Store.mk [[.sl r .non,.sl r2 .non,.sl r3 .non],[.sl r4 .full,.sl r5 .full,.sl r6 .full],[.sl r7 (.tok 0),.sl r8 (.tok 1),.sl r9 (.tok 2)]] [(k,3,51),(k2,3,55),(k3,3,48)] [71,71,71])))
theorem qDT (n:Int) (r:qR) (r2:qR) (r3:qR) (r4:qR) (r5:qR) (r6:qR) (r7:qR) (r8:qR) (r9:qR) (k:Nat) (k2:Nat) (k3:Nat):lstep tbT qeH qk0 qju qku [.ptr 0 0,.ptr 1 0,.ptr 2 0,.int .i64 n] ⟨[[.sl r .non,.sl r2 .non,.sl r3 .non],[.sl r4 .full,.sl r5 .full,.sl r6 .full],[.sl r7 (.tok 0),.sl r8 (.tok 1),.sl r9 (.tok 2)]],[(k,3,51),(k2,3,55),(k3,3,48)],[71,71,71]⟩=qgv n r r2 r3 r4 r5 r6 r7 r8 r9 k k2 k3:=by kernel_rfl
theorem quG (n:Int) (r:qR) (r2:qR) (r3:qR) (r4:qR) (r5:qR) (r6:qR) (r7:qR) (r8:qR) (r9:qR) (k:Nat) (k2:Nat) (k3:Nat):qc6 [.ptr 0 0,.ptr 1 0,.ptr 2 0,.int .i64 n] ⟨[[.sl r .non,.sl r2 .non,.sl r3 .non],[.sl r4 .full,.sl r5 .full,.sl r6 .full],[.sl r7 (.tok 0),.sl r8 (.tok 1),.sl r9 (.tok 2)]],[(k,3,51),(k2,3,55),(k3,3,48)],[71,71,71]⟩=lnext qc6 (qgv n r r2 r3 r4 r5 r6 r7 r8 r9 k k2 k3).run:=by unfold qc6;rw [qbu,qDT]
def qb7 (n:Int) (r:qR) (r2:qR) (r3:qR) (r4:qR) (r5:qR) (r6:qR) (r7:qR) (r8:qR) (r9:qR) (k:Nat) (k2:Nat) (k3:Nat):Option (PExit×List PV×Store):=qc6 [.ptr 0 0,.ptr 1 0,.ptr 2 0,.int .i64 n] ⟨[[.sl r .non,.sl r2 .non,.sl r3 .non],[.sl r4 .full,.sl r5 .full,.sl r6 .full],[.sl r7 (.tok 0),.sl r8 (.tok 1),.sl r9 (.tok 2)]],[(k,3,51),(k2,3,55),(k3,3,48)],[71,71,71]⟩
def qaw (n:Int) (r:qR) (r2:qR) (r3:qR) (r4:qR) (r5:qR) (r6:qR) (r7:qR) (r8:qR) (r9:qR) (k:Nat) (k2:Nat) (k3:Nat):List (List PV):=(gRow (gAt (gObj (qb7 n r r2 r3 r4 r5 r6 r7 r8 r9 k k2 k3) 0) 0))
def qam (n:Int) (r:qR) (r2:qR) (r3:qR) (r4:qR) (r5:qR) (r6:qR) (r7:qR) (r8:qR) (r9:qR) (k:Nat) (k2:Nat) (k3:Nat):List (List PV):=(gRow (gAt (gObj (qb7 n r r2 r3 r4 r5 r6 r7 r8 r9 k k2 k3) 0) 1))
def qak (n:Int) (r:qR) (r2:qR) (r3:qR) (r4:qR) (r5:qR) (r6:qR) (r7:qR) (r8:qR) (r9:qR) (k:Nat) (k2:Nat) (k3:Nat):List (List PV):=(gRow (gAt (gObj (qb7 n r r2 r3 r4 r5 r6 r7 r8 r9 k k2 k3) 0) 2))
def qal (n:Int) (r:qR) (r2:qR) (r3:qR) (r4:qR) (r5:qR) (r6:qR) (r7:qR) (r8:qR) (r9:qR) (k:Nat) (k2:Nat) (k3:Nat):List (List PV):=(gRow (gAt (gObj (qb7 n r r2 r3 r4 r5 r6 r7 r8 r9 k k2 k3) 1) 0))
def qan (n:Int) (r:qR) (r2:qR) (r3:qR) (r4:qR) (r5:qR) (r6:qR) (r7:qR) (r8:qR) (r9:qR) (k:Nat) (k2:Nat) (k3:Nat):List (List PV):=(gRow (gAt (gObj (qb7 n r r2 r3 r4 r5 r6 r7 r8 r9 k k2 k3) 1) 1))
def qaj (n:Int) (r:qR) (r2:qR) (r3:qR) (r4:qR) (r5:qR) (r6:qR) (r7:qR) (r8:qR) (r9:qR) (k:Nat) (k2:Nat) (k3:Nat):List (List PV):=(gRow (gAt (gObj (qb7 n r r2 r3 r4 r5 r6 r7 r8 r9 k k2 k3) 1) 2))
def qap (n:Int) (r:qR) (r2:qR) (r3:qR) (r4:qR) (r5:qR) (r6:qR) (r7:qR) (r8:qR) (r9:qR) (k:Nat) (k2:Nat) (k3:Nat):List (List PV):=(gRow (gAt (gObj (qb7 n r r2 r3 r4 r5 r6 r7 r8 r9 k k2 k3) 2) 0))
def qar (n:Int) (r:qR) (r2:qR) (r3:qR) (r4:qR) (r5:qR) (r6:qR) (r7:qR) (r8:qR) (r9:qR) (k:Nat) (k2:Nat) (k3:Nat):List (List PV):=(gRow (gAt (gObj (qb7 n r r2 r3 r4 r5 r6 r7 r8 r9 k k2 k3) 2) 1))
def qaq (n:Int) (r:qR) (r2:qR) (r3:qR) (r4:qR) (r5:qR) (r6:qR) (r7:qR) (r8:qR) (r9:qR) (k:Nat) (k2:Nat) (k3:Nat):List (List PV):=(gRow (gAt (gObj (qb7 n r r2 r3 r4 r5 r6 r7 r8 r9 k k2 k3) 2) 2))
def qax (n:Int) (r:qR) (r2:qR) (r3:qR) (r4:qR) (r5:qR) (r6:qR) (r7:qR) (r8:qR) (r9:qR) (k:Nat) (k2:Nat) (k3:Nat):Nat:=(gTok (qb7 n r r2 r3 r4 r5 r6 r7 r8 r9 k k2 k3) 0)
def qao (n:Int) (r:qR) (r2:qR) (r3:qR) (r4:qR) (r5:qR) (r6:qR) (r7:qR) (r8:qR) (r9:qR) (k:Nat) (k2:Nat) (k3:Nat):Nat:=(gTok (qb7 n r r2 r3 r4 r5 r6 r7 r8 r9 k k2 k3) 1)
def qas (n:Int) (r:qR) (r2:qR) (r3:qR) (r4:qR) (r5:qR) (r6:qR) (r7:qR) (r8:qR) (r9:qR) (k:Nat) (k2:Nat) (k3:Nat):Nat:=(gTok (qb7 n r r2 r3 r4 r5 r6 r7 r8 r9 k k2 k3) 2)
def qj8 (n:Int) (r:qR) (r2:qR) (r3:qR) (r4:qR) (r5:qR) (r6:qR) (r7:qR) (r8:qR) (r9:qR) (k:Nat) (k2:Nat) (k3:Nat):Bool:=isW (qb7 n r r2 r3 r4 r5 r6 r7 r8 r9 k k2 k3) ((.exit 0),[.ptr 0 0,.ptr 1 0,.ptr 2 0],⟨[[.sl (qaw n r r2 r3 r4 r5 r6 r7 r8 r9 k k2 k3) .non,.sl (qam n r r2 r3 r4 r5 r6 r7 r8 r9 k k2 k3) .non,.sl (qak n r r2 r3 r4 r5 r6 r7 r8 r9 k k2 k3) .non],[.sl (qal n r r2 r3 r4 r5 r6 r7 r8 r9 k k2 k3) .full,.sl (qan n r r2 r3 r4 r5 r6 r7 r8 r9 k k2 k3) .full,.sl (qaj n r r2 r3 r4 r5 r6 r7 r8 r9 k k2 k3) .full],[.sl (qap n r r2 r3 r4 r5 r6 r7 r8 r9 k k2 k3) (.tok 0),.sl (qar n r r2 r3 r4 r5 r6 r7 r8 r9 k k2 k3) (.tok 1),.sl (qaq n r r2 r3 r4 r5 r6 r7 r8 r9 k k2 k3) (.tok 2)]],[((qax n r r2 r3 r4 r5 r6 r7 r8 r9 k k2 k3),3,51),((qao n r r2 r3 r4 r5 r6 r7 r8 r9 k k2 k3),3,55),((qas n r r2 r3 r4 r5 r6 r7 r8 r9 k k2 k3),3,48)],[71,71,71]⟩)
def qgn:List PV→Store→Tr (PExit×List PV×Store)|[.ptr 0 0,.ptr 1 0,.ptr 2 0,.int .i64 n],⟨[[.sl r .non,.sl r2 .non,.sl r3 .non],[.sl r4 .full,.sl r5 .full,.sl r6 .full],[.sl r7 (.tok 0),.sl r8 (.tok 1),.sl r9 (.tok 2)]],[(k,3,51),(k2,3,55),(k3,3,48)],[71,71,71]⟩=>.ite (qj8 n r r2 r3 r4 r5 r6 r7 r8 r9 k k2 k3) (.ret ((.exit 0),[.ptr 0 0,.ptr 1 0,.ptr 2 0],⟨[[.sl (qaw n r r2 r3 r4 r5 r6 r7 r8 r9 k k2 k3) .non,.sl (qam n r r2 r3 r4 r5 r6 r7 r8 r9 k k2 k3) .non,.sl (qak n r r2 r3 r4 r5 r6 r7 r8 r9 k k2 k3) .non],[.sl (qal n r r2 r3 r4 r5 r6 r7 r8 r9 k k2 k3) .full,.sl (qan n r r2 r3 r4 r5 r6 r7 r8 r9 k k2 k3) .full,.sl (qaj n r r2 r3 r4 r5 r6 r7 r8 r9 k k2 k3) .full],[.sl (qap n r r2 r3 r4 r5 r6 r7 r8 r9 k k2 k3) (.tok 0),.sl (qar n r r2 r3 r4 r5 r6 r7 r8 r9 k k2 k3) (.tok 1),.sl (qaq n r r2 r3 r4 r5 r6 r7 r8 r9 k k2 k3) (.tok 2)]],[((qax n r r2 r3 r4 r5 r6 r7 r8 r9 k k2 k3),3,51),((qao n r r2 r3 r4 r5 r6 r7 r8 r9 k k2 k3),3,55),((qas n r r2 r3 r4 r5 r6 r7 r8 r9 k k2 k3),3,48)],[71,71,71]⟩)) (.fail)|_,_=>.fail
theorem qzX:∀ vs σ r,(qgn vs σ).run=some r→qc6 vs σ=some r:=by
 intro vs σ r h;unfold qgn at h
 split at h
 ·exact qai h fun h=>by cases h
 ·cases h
theorem qv7 (gl:Gl):∀ fr σ e fr' σ',(orc qku qgn fr σ).run=some (e,fr',σ')→LDoes Tryz.prog gl qju fr σ e fr' σ':=qck qat (qh9 gl ) qah (L:=qk0) (qae (by kernel_rfl)) (by kernel_rfl) qzX
def qkv:LI:=⟨74,[1,2,3,5],fun e=>match e with|.exit 2=>[1,2,3]|_=>[],true⟩
def qlw:LpsT:=fun r fr σ=>.fail
def qc3 (vs:List PV) (σ:Store):Option (PExit×List PV×Store):=lval (lstep tbT qeH qlw qkk qkv) vs σ
def qgx (n:Int) (r:qR) (r2:qR) (r3:qR) (r4:qR) (r5:qR) (r6:qR) (r7:qR) (r8:qR) (r9:qR) (k:Nat) (k2:Nat) (k3:Nat):Tr LR:=.ite (iLt n (xLen r2)) (.ite (iLt n 8) (.ite (qav n) (.ite (qa3 [.str [],.sl [] .full,.sl [] .full] r2 (nNat n)) (.ite (qnk (xStr r2 (nNat n) 0) (qaa (xRow r2 (nNat n) 1)) (qaa (xRow r2 (nNat n) 2))) (.ite (qaI r8 [[.str (quI (xStr r2 (nNat n) 0) (qaa (xRow r2 (nNat n) 1)) (qaa (xRow r2 (nNat n) 2))),.sl (qsZ (xStr r2 (nNat n) 0) (qaa (xRow r2 (nNat n) 1)) (qaa (xRow r2 (nNat n) 2))) .non,.sl (qlh (xStr r2 (nNat n) 0) (qaa (xRow r2 (nNat n) 1)) (qaa (xRow r2 (nNat n) 2))) .non]] 64) (.ite (qaH [[.str (quI (xStr r2 (nNat n) 0) (qaa (xRow r2 (nNat n) 1)) (qaa (xRow r2 (nNat n) 2))),.sl (qsZ (xStr r2 (nNat n) 0) (qaa (xRow r2 (nNat n) 1)) (qaa (xRow r2 (nNat n) 2))) .non,.sl (qlh (xStr r2 (nNat n) 0) (qaa (xRow r2 (nNat n) 1)) (qaa (xRow r2 (nNat n) 2))) .non]] 3) (.ite (qaB r8 3) (.ite (nEq k2 (nXs r8)) (.ret (.next [.ptr 0 0,.ptr 1 0,.ptr 2 0,.int .i64 (iAdd .i64 n 1)] (Store.mk [[.sl r .non,.sl r2 .non,.sl r3 .non],[.sl r4 .full,.sl r5 .full,.sl r6 .full],[.sl r7 (.tok 0),.sl (xApp r8 [[.str (quI (xStr r2 (nNat n) 0) (qaa (xRow r2 (nNat n) 1)) (qaa (xRow r2 (nNat n) 2))),.sl (qsZ (xStr r2 (nNat n) 0) (qaa (xRow r2 (nNat n) 1)) (qaa (xRow r2 (nNat n) 2))) .non,.sl (qlh (xStr r2 (nNat n) 0) (qaa (xRow r2 (nNat n) 1)) (qaa (xRow r2 (nNat n) 2))) .non]]) (.tok 1),.sl r9 (.tok 2)]] [(k,3,51),(nXs (xApp r8 [[.str (quI (xStr r2 (nNat n) 0) (qaa (xRow r2 (nNat n) 1)) (qaa (xRow r2 (nNat n) 2))),.sl (qsZ (xStr r2 (nNat n) 0) (qaa (xRow r2 (nNat n) 1)) (qaa (xRow r2 (nNat n) 2))) .non,
 .sl (qlh (xStr r2 (nNat n) 0) (qaa (xRow r2 (nNat n) 1)) (qaa (xRow r2 (nNat n) 2))) .non]]),3,55),(k3,3,48)] [71,71,71]))) .fail) .fail) .fail) .fail) .fail) .fail) .fail) (.ret (.out (.exit 2) [.ptr 0 0,.ptr 1 0,.ptr 2 0] (Store.mk [[.sl r .non,.sl r2 .non,.sl r3 .non],[.sl r4 .full,.sl r5 .full,.sl r6 .full],[.sl r7 (.tok 0),.sl r8 (.tok 1),.sl r9 (.tok 2)]] [(k,3,51),(k2,3,55),(k3,3,48)] [71,71,71])))) (.ret (.out (.exit 2) [.ptr 0 0,.ptr 1 0,.ptr 2 0] (Store.mk [[.sl r .non,.sl r2 .non,.sl r3 .non],[.sl r4 .full,.sl r5 .full,.sl r6 .full],[.sl r7 (.tok 0),.sl r8 (.tok 1),.sl r9 (.tok 2)]] [(k,3,51),(k2,3,55),(k3,3,48)] [71,71,71])))
theorem qDM (n:Int) (r:qR) (r2:qR) (r3:qR) (r4:qR) (r5:qR) (r6:qR) (r7:qR) (r8:qR) (r9:qR) (k:Nat) (k2:Nat) (k3:Nat):lstep tbT qeH qlw qkk qkv [.ptr 0 0,.ptr 1 0,.ptr 2 0,.int .i64 n] ⟨[[.sl r .non,.sl r2 .non,.sl r3 .non],[.sl r4 .full,.sl r5 .full,.sl r6 .full],[.sl r7 (.tok 0),.sl r8 (.tok 1),.sl r9 (.tok 2)]],[(k,3,51),(k2,3,55),(k3,3,48)],[71,71,71]⟩=qgx n r r2 r3 r4 r5 r6 r7 r8 r9 k k2 k3:=by kernel_rfl
theorem qtt (n:Int) (r:qR) (r2:qR) (r3:qR) (r4:qR) (r5:qR) (r6:qR) (r7:qR) (r8:qR) (r9:qR) (k:Nat) (k2:Nat) (k3:Nat):qc3 [.ptr 0 0,.ptr 1 0,.ptr 2 0,.int .i64 n] ⟨[[.sl r .non,.sl r2 .non,.sl r3 .non],[.sl r4 .full,.sl r5 .full,.sl r6 .full],[.sl r7 (.tok 0),.sl r8 (.tok 1),.sl r9 (.tok 2)]],[(k,3,51),(k2,3,55),(k3,3,48)],[71,71,71]⟩=lnext qc3 (qgx n r r2 r3 r4 r5 r6 r7 r8 r9 k k2 k3).run:=by unfold qc3;rw [qbu,qDM]
def qb9 (n:Int) (r:qR) (r2:qR) (r3:qR) (r4:qR) (r5:qR) (r6:qR) (r7:qR) (r8:qR) (r9:qR) (k:Nat) (k2:Nat) (k3:Nat):Option (PExit×List PV×Store):=qc3 [.ptr 0 0,.ptr 1 0,.ptr 2 0,.int .i64 n] ⟨[[.sl r .non,.sl r2 .non,.sl r3 .non],[.sl r4 .full,.sl r5 .full,.sl r6 .full],[.sl r7 (.tok 0),.sl r8 (.tok 1),.sl r9 (.tok 2)]],[(k,3,51),(k2,3,55),(k3,3,48)],[71,71,71]⟩
def qe3 (n:Int) (r:qR) (r2:qR) (r3:qR) (r4:qR) (r5:qR) (r6:qR) (r7:qR) (r8:qR) (r9:qR) (k:Nat) (k2:Nat) (k3:Nat):List (List PV):=(gRow (gAt (gObj (qb9 n r r2 r3 r4 r5 r6 r7 r8 r9 k k2 k3) 0) 0))
def qem (n:Int) (r:qR) (r2:qR) (r3:qR) (r4:qR) (r5:qR) (r6:qR) (r7:qR) (r8:qR) (r9:qR) (k:Nat) (k2:Nat) (k3:Nat):List (List PV):=(gRow (gAt (gObj (qb9 n r r2 r3 r4 r5 r6 r7 r8 r9 k k2 k3) 0) 1))
def qep (n:Int) (r:qR) (r2:qR) (r3:qR) (r4:qR) (r5:qR) (r6:qR) (r7:qR) (r8:qR) (r9:qR) (k:Nat) (k2:Nat) (k3:Nat):List (List PV):=(gRow (gAt (gObj (qb9 n r r2 r3 r4 r5 r6 r7 r8 r9 k k2 k3) 0) 2))
def qeh (n:Int) (r:qR) (r2:qR) (r3:qR) (r4:qR) (r5:qR) (r6:qR) (r7:qR) (r8:qR) (r9:qR) (k:Nat) (k2:Nat) (k3:Nat):List (List PV):=(gRow (gAt (gObj (qb9 n r r2 r3 r4 r5 r6 r7 r8 r9 k k2 k3) 1) 0))
def qeo (n:Int) (r:qR) (r2:qR) (r3:qR) (r4:qR) (r5:qR) (r6:qR) (r7:qR) (r8:qR) (r9:qR) (k:Nat) (k2:Nat) (k3:Nat):List (List PV):=(gRow (gAt (gObj (qb9 n r r2 r3 r4 r5 r6 r7 r8 r9 k k2 k3) 1) 1))
def qdZ (n:Int) (r:qR) (r2:qR) (r3:qR) (r4:qR) (r5:qR) (r6:qR) (r7:qR) (r8:qR) (r9:qR) (k:Nat) (k2:Nat) (k3:Nat):List (List PV):=(gRow (gAt (gObj (qb9 n r r2 r3 r4 r5 r6 r7 r8 r9 k k2 k3) 1) 2))
def qd8 (n:Int) (r:qR) (r2:qR) (r3:qR) (r4:qR) (r5:qR) (r6:qR) (r7:qR) (r8:qR) (r9:qR) (k:Nat) (k2:Nat) (k3:Nat):List (List PV):=(gRow (gAt (gObj (qb9 n r r2 r3 r4 r5 r6 r7 r8 r9 k k2 k3) 2) 0))
def qd0 (n:Int) (r:qR) (r2:qR) (r3:qR) (r4:qR) (r5:qR) (r6:qR) (r7:qR) (r8:qR) (r9:qR) (k:Nat) (k2:Nat) (k3:Nat):List (List PV):=(gRow (gAt (gObj (qb9 n r r2 r3 r4 r5 r6 r7 r8 r9 k k2 k3) 2) 1))
def qd9 (n:Int) (r:qR) (r2:qR) (r3:qR) (r4:qR) (r5:qR) (r6:qR) (r7:qR) (r8:qR) (r9:qR) (k:Nat) (k2:Nat) (k3:Nat):List (List PV):=(gRow (gAt (gObj (qb9 n r r2 r3 r4 r5 r6 r7 r8 r9 k k2 k3) 2) 2))
def qeV (n:Int) (r:qR) (r2:qR) (r3:qR) (r4:qR) (r5:qR) (r6:qR) (r7:qR) (r8:qR) (r9:qR) (k:Nat) (k2:Nat) (k3:Nat):Nat:=(gTok (qb9 n r r2 r3 r4 r5 r6 r7 r8 r9 k k2 k3) 0)
def qd1 (n:Int) (r:qR) (r2:qR) (r3:qR) (r4:qR) (r5:qR) (r6:qR) (r7:qR) (r8:qR) (r9:qR) (k:Nat) (k2:Nat) (k3:Nat):Nat:=(gTok (qb9 n r r2 r3 r4 r5 r6 r7 r8 r9 k k2 k3) 1)
def qer (n:Int) (r:qR) (r2:qR) (r3:qR) (r4:qR) (r5:qR) (r6:qR) (r7:qR) (r8:qR) (r9:qR) (k:Nat) (k2:Nat) (k3:Nat):Nat:=(gTok (qb9 n r r2 r3 r4 r5 r6 r7 r8 r9 k k2 k3) 2)
def qjP (n:Int) (r:qR) (r2:qR) (r3:qR) (r4:qR) (r5:qR) (r6:qR) (r7:qR) (r8:qR) (r9:qR) (k:Nat) (k2:Nat) (k3:Nat):Bool:=isW (qb9 n r r2 r3 r4 r5 r6 r7 r8 r9 k k2 k3) ((.exit 2),[.ptr 0 0,.ptr 1 0,.ptr 2 0],⟨[[.sl (qe3 n r r2 r3 r4 r5 r6 r7 r8 r9 k k2 k3) .non,.sl (qem n r r2 r3 r4 r5 r6 r7 r8 r9 k k2 k3) .non,.sl (qep n r r2 r3 r4 r5 r6 r7 r8 r9 k k2 k3) .non],[.sl (qeh n r r2 r3 r4 r5 r6 r7 r8 r9 k k2 k3) .full,.sl (qeo n r r2 r3 r4 r5 r6 r7 r8 r9 k k2 k3) .full,.sl (qdZ n r r2 r3 r4 r5 r6 r7 r8 r9 k k2 k3) .full],[.sl (qd8 n r r2 r3 r4 r5 r6 r7 r8 r9 k k2 k3) (.tok 0),.sl (qd0 n r r2 r3 r4 r5 r6 r7 r8 r9 k k2 k3) (.tok 1),.sl (qd9 n r r2 r3 r4 r5 r6 r7 r8 r9 k k2 k3) (.tok 2)]],[((qeV n r r2 r3 r4 r5 r6 r7 r8 r9 k k2 k3),3,51),((qd1 n r r2 r3 r4 r5 r6 r7 r8 r9 k k2 k3),3,55),((qer n r r2 r3 r4 r5 r6 r7 r8 r9 k k2 k3),3,48)],[71,71,71]⟩)
def qgj:List PV→Store→Tr (PExit×List PV×Store)|[.ptr 0 0,.ptr 1 0,.ptr 2 0,.int .i64 n],⟨[[.sl r .non,.sl r2 .non,.sl r3 .non],[.sl r4 .full,.sl r5 .full,.sl r6 .full],[.sl r7 (.tok 0),.sl r8 (.tok 1),.sl r9 (.tok 2)]],[(k,3,51),(k2,3,55),(k3,3,48)],[71,71,71]⟩=>.ite (qjP n r r2 r3 r4 r5 r6 r7 r8 r9 k k2 k3) (.ret ((.exit 2),[.ptr 0 0,.ptr 1 0,.ptr 2 0],⟨[[.sl (qe3 n r r2 r3 r4 r5 r6 r7 r8 r9 k k2 k3) .non,.sl (qem n r r2 r3 r4 r5 r6 r7 r8 r9 k k2 k3) .non,.sl (qep n r r2 r3 r4 r5 r6 r7 r8 r9 k k2 k3) .non],[.sl (qeh n r r2 r3 r4 r5 r6 r7 r8 r9 k k2 k3) .full,.sl (qeo n r r2 r3 r4 r5 r6 r7 r8 r9 k k2 k3) .full,.sl (qdZ n r r2 r3 r4 r5 r6 r7 r8 r9 k k2 k3) .full],[.sl (qd8 n r r2 r3 r4 r5 r6 r7 r8 r9 k k2 k3) (.tok 0),.sl (qd0 n r r2 r3 r4 r5 r6 r7 r8 r9 k k2 k3) (.tok 1),.sl (qd9 n r r2 r3 r4 r5 r6 r7 r8 r9 k k2 k3) (.tok 2)]],[((qeV n r r2 r3 r4 r5 r6 r7 r8 r9 k k2 k3),3,51),((qd1 n r r2 r3 r4 r5 r6 r7 r8 r9 k k2 k3),3,55),((qer n r r2 r3 r4 r5 r6 r7 r8 r9 k k2 k3),3,48)],[71,71,71]⟩)) (.fail)|_,_=>.fail
theorem qz5:∀ vs σ r,(qgj vs σ).run=some r→qc3 vs σ=some r:=by
 intro vs σ r h;unfold qgj at h
 split at h
 ·exact qai h fun h=>by cases h
 ·cases h
theorem qv8 (gl:Gl):∀ fr σ e fr' σ',(orc qkv qgj fr σ).run=some (e,fr',σ')→LDoes Tryz.prog gl qkk fr σ e fr' σ':=qck qat (qh9 gl ) qah (L:=qlw) (qae (by kernel_rfl)) (by kernel_rfl) qz5
def qjo:LI:=⟨74,[1,2,3,6],fun e=>match e with|.exit 4=>[2,3]|_=>[],true⟩
def qkW:LpsT:=fun r fr σ=>.fail
def qc1 (vs:List PV) (σ:Store):Option (PExit×List PV×Store):=lval (lstep tbT qeH qkW qkf qjo) vs σ
def qgr (n:Int) (r:qR) (r2:qR) (r3:qR) (r4:qR) (r5:qR) (r6:qR) (r7:qR) (r8:qR) (r9:qR) (k:Nat) (k2:Nat) (k3:Nat):Tr LR:=.ite (iLt n (xLen r3)) (.ite (iLt n 12) (.ite (qav n) (.ite (qa3 [.str [],.sl [] .full,.sl [] .full] r3 (nNat n)) (.ite (qhn (xStr r3 (nNat n) 0) (qaa (xRow r3 (nNat n) 1)) (qaa (xRow r3 (nNat n) 2))) (.ite (qaI r9 [[.str (qhM (xStr r3 (nNat n) 0) (qaa (xRow r3 (nNat n) 1)) (qaa (xRow r3 (nNat n) 2))),.sl (qha (xStr r3 (nNat n) 0) (qaa (xRow r3 (nNat n) 1)) (qaa (xRow r3 (nNat n) 2))) .non,.sl (qfE (xStr r3 (nNat n) 0) (qaa (xRow r3 (nNat n) 1)) (qaa (xRow r3 (nNat n) 2))) .non]] 64) (.ite (qaH [[.str (qhM (xStr r3 (nNat n) 0) (qaa (xRow r3 (nNat n) 1)) (qaa (xRow r3 (nNat n) 2))),.sl (qha (xStr r3 (nNat n) 0) (qaa (xRow r3 (nNat n) 1)) (qaa (xRow r3 (nNat n) 2))) .non,.sl (qfE (xStr r3 (nNat n) 0) (qaa (xRow r3 (nNat n) 1)) (qaa (xRow r3 (nNat n) 2))) .non]] 3) (.ite (qaB r9 3) (.ite (nEq k3 (nXs r9)) (.ret (.next [.ptr 0 0,.ptr 1 0,.ptr 2 0,.int .i64 (iAdd .i64 n 1)] (Store.mk [[.sl r .non,.sl r2 .non,.sl r3 .non],[.sl r4 .full,.sl r5 .full,.sl r6 .full],[.sl r7 (.tok 0),.sl r8 (.tok 1),.sl (xApp r9 [[.str (qhM (xStr r3 (nNat n) 0) (qaa (xRow r3 (nNat n) 1)) (qaa (xRow r3 (nNat n) 2))),.sl (qha (xStr r3 (nNat n) 0) (qaa (xRow r3 (nNat n) 1)) (qaa (xRow r3 (nNat n) 2))) .non,.sl (qfE (xStr r3 (nNat n) 0) (qaa (xRow r3 (nNat n) 1)) (qaa (xRow r3 (nNat n) 2))) .non]]) (.tok 2)]] [(k,3,51),(k2,3,55),(nXs (xApp r9 [[.str (qhM (xStr r3 (nNat n) 0) (qaa (xRow r3 (nNat n) 1)) (qaa (xRow r3 (nNat n) 2))),.sl (qha (xStr r3 (nNat n) 0) (qaa (xRow r3 (nNat n) 1)) (qaa (xRow r3 (nNat n) 2))) .non,
 .sl (qfE (xStr r3 (nNat n) 0) (qaa (xRow r3 (nNat n) 1)) (qaa (xRow r3 (nNat n) 2))) .non]]),3,48)] [71,71,71]))) .fail) .fail) .fail) .fail) .fail) .fail) .fail) (.ret (.out (.exit 4) [.ptr 1 0,.ptr 2 0] (Store.mk [[.sl r .non,.sl r2 .non,.sl r3 .non],[.sl r4 .full,.sl r5 .full,.sl r6 .full],[.sl r7 (.tok 0),.sl r8 (.tok 1),.sl r9 (.tok 2)]] [(k,3,51),(k2,3,55),(k3,3,48)] [71,71,71])))) (.ret (.out (.exit 4) [.ptr 1 0,.ptr 2 0] (Store.mk [[.sl r .non,.sl r2 .non,.sl r3 .non],[.sl r4 .full,.sl r5 .full,.sl r6 .full],[.sl r7 (.tok 0),.sl r8 (.tok 1),.sl r9 (.tok 2)]] [(k,3,51),(k2,3,55),(k3,3,48)] [71,71,71])))
theorem qCH (n:Int) (r:qR) (r2:qR) (r3:qR) (r4:qR) (r5:qR) (r6:qR) (r7:qR) (r8:qR) (r9:qR) (k:Nat) (k2:Nat) (k3:Nat):lstep tbT qeH qkW qkf qjo [.ptr 0 0,.ptr 1 0,.ptr 2 0,.int .i64 n] ⟨[[.sl r .non,.sl r2 .non,.sl r3 .non],[.sl r4 .full,.sl r5 .full,.sl r6 .full],[.sl r7 (.tok 0),.sl r8 (.tok 1),.sl r9 (.tok 2)]],[(k,3,51),(k2,3,55),(k3,3,48)],[71,71,71]⟩=qgr n r r2 r3 r4 r5 r6 r7 r8 r9 k k2 k3:=by kernel_rfl
theorem qvF (n:Int) (r:qR) (r2:qR) (r3:qR) (r4:qR) (r5:qR) (r6:qR) (r7:qR) (r8:qR) (r9:qR) (k:Nat) (k2:Nat) (k3:Nat):qc1 [.ptr 0 0,.ptr 1 0,.ptr 2 0,.int .i64 n] ⟨[[.sl r .non,.sl r2 .non,.sl r3 .non],[.sl r4 .full,.sl r5 .full,.sl r6 .full],[.sl r7 (.tok 0),.sl r8 (.tok 1),.sl r9 (.tok 2)]],[(k,3,51),(k2,3,55),(k3,3,48)],[71,71,71]⟩=lnext qc1 (qgr n r r2 r3 r4 r5 r6 r7 r8 r9 k k2 k3).run:=by unfold qc1;rw [qbu,qCH]
def qb1 (n:Int) (r:qR) (r2:qR) (r3:qR) (r4:qR) (r5:qR) (r6:qR) (r7:qR) (r8:qR) (r9:qR) (k:Nat) (k2:Nat) (k3:Nat):Option (PExit×List PV×Store):=qc1 [.ptr 0 0,.ptr 1 0,.ptr 2 0,.int .i64 n] ⟨[[.sl r .non,.sl r2 .non,.sl r3 .non],[.sl r4 .full,.sl r5 .full,.sl r6 .full],[.sl r7 (.tok 0),.sl r8 (.tok 1),.sl r9 (.tok 2)]],[(k,3,51),(k2,3,55),(k3,3,48)],[71,71,71]⟩
def qnD (n:Int) (r:qR) (r2:qR) (r3:qR) (r4:qR) (r5:qR) (r6:qR) (r7:qR) (r8:qR) (r9:qR) (k:Nat) (k2:Nat) (k3:Nat):List (List PV):=(gRow (gAt (gObj (qb1 n r r2 r3 r4 r5 r6 r7 r8 r9 k k2 k3) 0) 0))
def qkO (n:Int) (r:qR) (r2:qR) (r3:qR) (r4:qR) (r5:qR) (r6:qR) (r7:qR) (r8:qR) (r9:qR) (k:Nat) (k2:Nat) (k3:Nat):List (List PV):=(gRow (gAt (gObj (qb1 n r r2 r3 r4 r5 r6 r7 r8 r9 k k2 k3) 0) 1))
def qk2 (n:Int) (r:qR) (r2:qR) (r3:qR) (r4:qR) (r5:qR) (r6:qR) (r7:qR) (r8:qR) (r9:qR) (k:Nat) (k2:Nat) (k3:Nat):List (List PV):=(gRow (gAt (gObj (qb1 n r r2 r3 r4 r5 r6 r7 r8 r9 k k2 k3) 0) 2))
def qle (n:Int) (r:qR) (r2:qR) (r3:qR) (r4:qR) (r5:qR) (r6:qR) (r7:qR) (r8:qR) (r9:qR) (k:Nat) (k2:Nat) (k3:Nat):List (List PV):=(gRow (gAt (gObj (qb1 n r r2 r3 r4 r5 r6 r7 r8 r9 k k2 k3) 1) 0))
def qlB (n:Int) (r:qR) (r2:qR) (r3:qR) (r4:qR) (r5:qR) (r6:qR) (r7:qR) (r8:qR) (r9:qR) (k:Nat) (k2:Nat) (k3:Nat):List (List PV):=(gRow (gAt (gObj (qb1 n r r2 r3 r4 r5 r6 r7 r8 r9 k k2 k3) 1) 1))
def qk4 (n:Int) (r:qR) (r2:qR) (r3:qR) (r4:qR) (r5:qR) (r6:qR) (r7:qR) (r8:qR) (r9:qR) (k:Nat) (k2:Nat) (k3:Nat):List (List PV):=(gRow (gAt (gObj (qb1 n r r2 r3 r4 r5 r6 r7 r8 r9 k k2 k3) 1) 2))
def qh7 (n:Int) (r:qR) (r2:qR) (r3:qR) (r4:qR) (r5:qR) (r6:qR) (r7:qR) (r8:qR) (r9:qR) (k:Nat) (k2:Nat) (k3:Nat):List (List PV):=(gRow (gAt (gObj (qb1 n r r2 r3 r4 r5 r6 r7 r8 r9 k k2 k3) 2) 0))
def qig (n:Int) (r:qR) (r2:qR) (r3:qR) (r4:qR) (r5:qR) (r6:qR) (r7:qR) (r8:qR) (r9:qR) (k:Nat) (k2:Nat) (k3:Nat):List (List PV):=(gRow (gAt (gObj (qb1 n r r2 r3 r4 r5 r6 r7 r8 r9 k k2 k3) 2) 1))
def qie (n:Int) (r:qR) (r2:qR) (r3:qR) (r4:qR) (r5:qR) (r6:qR) (r7:qR) (r8:qR) (r9:qR) (k:Nat) (k2:Nat) (k3:Nat):List (List PV):=(gRow (gAt (gObj (qb1 n r r2 r3 r4 r5 r6 r7 r8 r9 k k2 k3) 2) 2))
def qnI (n:Int) (r:qR) (r2:qR) (r3:qR) (r4:qR) (r5:qR) (r6:qR) (r7:qR) (r8:qR) (r9:qR) (k:Nat) (k2:Nat) (k3:Nat):Nat:=(gTok (qb1 n r r2 r3 r4 r5 r6 r7 r8 r9 k k2 k3) 0)
def qkI (n:Int) (r:qR) (r2:qR) (r3:qR) (r4:qR) (r5:qR) (r6:qR) (r7:qR) (r8:qR) (r9:qR) (k:Nat) (k2:Nat) (k3:Nat):Nat:=(gTok (qb1 n r r2 r3 r4 r5 r6 r7 r8 r9 k k2 k3) 1)
def qlE (n:Int) (r:qR) (r2:qR) (r3:qR) (r4:qR) (r5:qR) (r6:qR) (r7:qR) (r8:qR) (r9:qR) (k:Nat) (k2:Nat) (k3:Nat):Nat:=(gTok (qb1 n r r2 r3 r4 r5 r6 r7 r8 r9 k k2 k3) 2)
def qjH (n:Int) (r:qR) (r2:qR) (r3:qR) (r4:qR) (r5:qR) (r6:qR) (r7:qR) (r8:qR) (r9:qR) (k:Nat) (k2:Nat) (k3:Nat):Bool:=isW (qb1 n r r2 r3 r4 r5 r6 r7 r8 r9 k k2 k3) ((.exit 4),[.ptr 1 0,.ptr 2 0],⟨[[.sl (qnD n r r2 r3 r4 r5 r6 r7 r8 r9 k k2 k3) .non,.sl (qkO n r r2 r3 r4 r5 r6 r7 r8 r9 k k2 k3) .non,.sl (qk2 n r r2 r3 r4 r5 r6 r7 r8 r9 k k2 k3) .non],[.sl (qle n r r2 r3 r4 r5 r6 r7 r8 r9 k k2 k3) .full,.sl (qlB n r r2 r3 r4 r5 r6 r7 r8 r9 k k2 k3) .full,.sl (qk4 n r r2 r3 r4 r5 r6 r7 r8 r9 k k2 k3) .full],[.sl (qh7 n r r2 r3 r4 r5 r6 r7 r8 r9 k k2 k3) (.tok 0),.sl (qig n r r2 r3 r4 r5 r6 r7 r8 r9 k k2 k3) (.tok 1),.sl (qie n r r2 r3 r4 r5 r6 r7 r8 r9 k k2 k3) (.tok 2)]],[((qnI n r r2 r3 r4 r5 r6 r7 r8 r9 k k2 k3),3,51),((qkI n r r2 r3 r4 r5 r6 r7 r8 r9 k k2 k3),3,55),((qlE n r r2 r3 r4 r5 r6 r7 r8 r9 k k2 k3),3,48)],[71,71,71]⟩)
def qgh:List PV→Store→Tr (PExit×List PV×Store)|[.ptr 0 0,.ptr 1 0,.ptr 2 0,.int .i64 n],⟨[[.sl r .non,.sl r2 .non,.sl r3 .non],[.sl r4 .full,.sl r5 .full,.sl r6 .full],[.sl r7 (.tok 0),.sl r8 (.tok 1),.sl r9 (.tok 2)]],[(k,3,51),(k2,3,55),(k3,3,48)],[71,71,71]⟩=>.ite (qjH n r r2 r3 r4 r5 r6 r7 r8 r9 k k2 k3) (.ret ((.exit 4),[.ptr 1 0,.ptr 2 0],⟨[[.sl (qnD n r r2 r3 r4 r5 r6 r7 r8 r9 k k2 k3) .non,.sl (qkO n r r2 r3 r4 r5 r6 r7 r8 r9 k k2 k3) .non,.sl (qk2 n r r2 r3 r4 r5 r6 r7 r8 r9 k k2 k3) .non],[.sl (qle n r r2 r3 r4 r5 r6 r7 r8 r9 k k2 k3) .full,.sl (qlB n r r2 r3 r4 r5 r6 r7 r8 r9 k k2 k3) .full,.sl (qk4 n r r2 r3 r4 r5 r6 r7 r8 r9 k k2 k3) .full],[.sl (qh7 n r r2 r3 r4 r5 r6 r7 r8 r9 k k2 k3) (.tok 0),.sl (qig n r r2 r3 r4 r5 r6 r7 r8 r9 k k2 k3) (.tok 1),.sl (qie n r r2 r3 r4 r5 r6 r7 r8 r9 k k2 k3) (.tok 2)]],[((qnI n r r2 r3 r4 r5 r6 r7 r8 r9 k k2 k3),3,51),((qkI n r r2 r3 r4 r5 r6 r7 r8 r9 k k2 k3),3,55),((qlE n r r2 r3 r4 r5 r6 r7 r8 r9 k k2 k3),3,48)],[71,71,71]⟩)) (.fail)|_,_=>.fail
theorem qAl:∀ vs σ r,(qgh vs σ).run=some r→qc1 vs σ=some r:=by
 intro vs σ r h;unfold qgh at h
 split at h
 ·exact qai h fun h=>by cases h
 ·cases h
theorem qv2 (gl:Gl):∀ fr σ e fr' σ',(orc qjo qgh fr σ).run=some (e,fr',σ')→LDoes Tryz.prog gl qkf fr σ e fr' σ':=qck qat (qh9 gl ) qah (L:=qkW) (qae (by kernel_rfl)) (by kernel_rfl) qAl
def qpI:LpsT:=fun r fr σ=>bif Nat.beq r 3 then orc qku qgn fr σ else bif Nat.beq r 7 then orc qkv qgj fr σ else bif Nat.beq r 11 then orc qjo qgh fr σ else .fail
def qn8 (v:qR) (v2:qR) (v3:qR):Tr PV:=.ite (qj8 0 v v2 v3 [] [] [] [] [] [] 0 0 0) (.ite (qjP 0 (qaw 0 v v2 v3 [] [] [] [] [] [] 0 0 0) (qam 0 v v2 v3 [] [] [] [] [] [] 0 0 0) (qak 0 v v2 v3 [] [] [] [] [] [] 0 0 0) (qal 0 v v2 v3 [] [] [] [] [] [] 0 0 0) (qan 0 v v2 v3 [] [] [] [] [] [] 0 0 0) (qaj 0 v v2 v3 [] [] [] [] [] [] 0 0 0) (qap 0 v v2 v3 [] [] [] [] [] [] 0 0 0) (qar 0 v v2 v3 [] [] [] [] [] [] 0 0 0) (qaq 0 v v2 v3 [] [] [] [] [] [] 0 0 0) (qax 0 v v2 v3 [] [] [] [] [] [] 0 0 0) (qao 0 v v2 v3 [] [] [] [] [] [] 0 0 0) (qas 0 v v2 v3 [] [] [] [] [] [] 0 0 0)) (.ite (qjH 0 (qe3 0 (qaw 0 v v2 v3 [] [] [] [] [] [] 0 0 0) (qam 0 v v2 v3 [] [] [] [] [] [] 0 0 0) (qak 0 v v2 v3 [] [] [] [] [] [] 0 0 0) (qal 0 v v2 v3 [] [] [] [] [] [] 0 0 0) (qan 0 v v2 v3 [] [] [] [] [] [] 0 0 0) (qaj 0 v v2 v3 [] [] [] [] [] [] 0 0 0) (qap 0 v v2 v3 [] [] [] [] [] [] 0 0 0) (qar 0 v v2 v3 [] [] [] [] [] [] 0 0 0) (qaq 0 v v2 v3 [] [] [] [] [] [] 0 0 0) (qax 0 v v2 v3 [] [] [] [] [] [] 0 0 0) (qao 0 v v2 v3 [] [] [] [] [] [] 0 0 0) (qas 0 v v2 v3 [] [] [] [] [] [] 0 0 0)) (qem 0 (qaw 0 v v2 v3 [] [] [] [] [] [] 0 0 0) (qam 0 v v2 v3 [] [] [] [] [] [] 0 0 0) (qak 0 v v2 v3 [] [] [] [] [] [] 0 0 0) (qal 0 v v2 v3 [] [] [] [] [] [] 0 0 0) (qan 0 v v2 v3 [] [] [] [] [] [] 0 0 0) (qaj 0 v v2 v3 [] [] [] [] [] [] 0 0 0) (qap 0 v v2 v3 [] [] [] [] [] [] 0 0 0) (qar 0 v v2 v3 [] [] [] [] [] [] 0 0 0) (qaq 0 v v2 v3 [] [] [] [] [] [] 0 0 0) (qax 0 v v2 v3 [] [] [] [] [] [] 0 0 0) (qao 0 v v2 v3 [] [] [] [] [] [] 0 0 0) (qas 0 v v2 v3 [] [] [] [] [] [] 0 0 0))
 (qep 0 (qaw 0 v v2 v3 [] [] [] [] [] [] 0 0 0) (qam 0 v v2 v3 [] [] [] [] [] [] 0 0 0) (qak 0 v v2 v3 [] [] [] [] [] [] 0 0 0) (qal 0 v v2 v3 [] [] [] [] [] [] 0 0 0) (qan 0 v v2 v3 [] [] [] [] [] [] 0 0 0) (qaj 0 v v2 v3 [] [] [] [] [] [] 0 0 0) (qap 0 v v2 v3 [] [] [] [] [] [] 0 0 0) (qar 0 v v2 v3 [] [] [] [] [] [] 0 0 0) (qaq 0 v v2 v3 [] [] [] [] [] [] 0 0 0) (qax 0 v v2 v3 [] [] [] [] [] [] 0 0 0) (qao 0 v v2 v3 [] [] [] [] [] [] 0 0 0) (qas 0 v v2 v3 [] [] [] [] [] [] 0 0 0)) (qeh 0 (qaw 0 v v2 v3 [] [] [] [] [] [] 0 0 0) (qam 0 v v2 v3 [] [] [] [] [] [] 0 0 0) (qak 0 v v2 v3 [] [] [] [] [] [] 0 0 0) (qal 0 v v2 v3 [] [] [] [] [] [] 0 0 0) (qan 0 v v2 v3 [] [] [] [] [] [] 0 0 0) (qaj 0 v v2 v3 [] [] [] [] [] [] 0 0 0) (qap 0 v v2 v3 [] [] [] [] [] [] 0 0 0) (qar 0 v v2 v3 [] [] [] [] [] [] 0 0 0) (qaq 0 v v2 v3 [] [] [] [] [] [] 0 0 0) (qax 0 v v2 v3 [] [] [] [] [] [] 0 0 0) (qao 0 v v2 v3 [] [] [] [] [] [] 0 0 0) (qas 0 v v2 v3 [] [] [] [] [] [] 0 0 0)) (qeo 0 (qaw 0 v v2 v3 [] [] [] [] [] [] 0 0 0) (qam 0 v v2 v3 [] [] [] [] [] [] 0 0 0) (qak 0 v v2 v3 [] [] [] [] [] [] 0 0 0) (qal 0 v v2 v3 [] [] [] [] [] [] 0 0 0) (qan 0 v v2 v3 [] [] [] [] [] [] 0 0 0) (qaj 0 v v2 v3 [] [] [] [] [] [] 0 0 0) (qap 0 v v2 v3 [] [] [] [] [] [] 0 0 0) (qar 0 v v2 v3 [] [] [] [] [] [] 0 0 0) (qaq 0 v v2 v3 [] [] [] [] [] [] 0 0 0) (qax 0 v v2 v3 [] [] [] [] [] [] 0 0 0) (qao 0 v v2 v3 [] [] [] [] [] [] 0 0 0) (qas 0 v v2 v3 [] [] [] [] [] [] 0 0 0)) (qdZ 0 (qaw 0 v v2 v3 [] [] [] [] [] [] 0 0 0) (qam 0 v v2 v3 [] [] [] [] [] [] 0 0 0) (qak 0 v v2 v3 [] [] [] [] [] [] 0 0 0)
 (qal 0 v v2 v3 [] [] [] [] [] [] 0 0 0) (qan 0 v v2 v3 [] [] [] [] [] [] 0 0 0) (qaj 0 v v2 v3 [] [] [] [] [] [] 0 0 0) (qap 0 v v2 v3 [] [] [] [] [] [] 0 0 0) (qar 0 v v2 v3 [] [] [] [] [] [] 0 0 0) (qaq 0 v v2 v3 [] [] [] [] [] [] 0 0 0) (qax 0 v v2 v3 [] [] [] [] [] [] 0 0 0) (qao 0 v v2 v3 [] [] [] [] [] [] 0 0 0) (qas 0 v v2 v3 [] [] [] [] [] [] 0 0 0)) (qd8 0 (qaw 0 v v2 v3 [] [] [] [] [] [] 0 0 0) (qam 0 v v2 v3 [] [] [] [] [] [] 0 0 0) (qak 0 v v2 v3 [] [] [] [] [] [] 0 0 0) (qal 0 v v2 v3 [] [] [] [] [] [] 0 0 0) (qan 0 v v2 v3 [] [] [] [] [] [] 0 0 0) (qaj 0 v v2 v3 [] [] [] [] [] [] 0 0 0) (qap 0 v v2 v3 [] [] [] [] [] [] 0 0 0) (qar 0 v v2 v3 [] [] [] [] [] [] 0 0 0) (qaq 0 v v2 v3 [] [] [] [] [] [] 0 0 0) (qax 0 v v2 v3 [] [] [] [] [] [] 0 0 0) (qao 0 v v2 v3 [] [] [] [] [] [] 0 0 0) (qas 0 v v2 v3 [] [] [] [] [] [] 0 0 0)) (qd0 0 (qaw 0 v v2 v3 [] [] [] [] [] [] 0 0 0) (qam 0 v v2 v3 [] [] [] [] [] [] 0 0 0) (qak 0 v v2 v3 [] [] [] [] [] [] 0 0 0) (qal 0 v v2 v3 [] [] [] [] [] [] 0 0 0) (qan 0 v v2 v3 [] [] [] [] [] [] 0 0 0) (qaj 0 v v2 v3 [] [] [] [] [] [] 0 0 0) (qap 0 v v2 v3 [] [] [] [] [] [] 0 0 0) (qar 0 v v2 v3 [] [] [] [] [] [] 0 0 0) (qaq 0 v v2 v3 [] [] [] [] [] [] 0 0 0) (qax 0 v v2 v3 [] [] [] [] [] [] 0 0 0) (qao 0 v v2 v3 [] [] [] [] [] [] 0 0 0) (qas 0 v v2 v3 [] [] [] [] [] [] 0 0 0)) (qd9 0 (qaw 0 v v2 v3 [] [] [] [] [] [] 0 0 0) (qam 0 v v2 v3 [] [] [] [] [] [] 0 0 0) (qak 0 v v2 v3 [] [] [] [] [] [] 0 0 0) (qal 0 v v2 v3 [] [] [] [] [] [] 0 0 0) (qan 0 v v2 v3 [] [] [] [] [] [] 0 0 0) (qaj 0 v v2 v3 [] [] [] [] [] [] 0 0 0)
 (qap 0 v v2 v3 [] [] [] [] [] [] 0 0 0) (qar 0 v v2 v3 [] [] [] [] [] [] 0 0 0) (qaq 0 v v2 v3 [] [] [] [] [] [] 0 0 0) (qax 0 v v2 v3 [] [] [] [] [] [] 0 0 0) (qao 0 v v2 v3 [] [] [] [] [] [] 0 0 0) (qas 0 v v2 v3 [] [] [] [] [] [] 0 0 0)) (qeV 0 (qaw 0 v v2 v3 [] [] [] [] [] [] 0 0 0) (qam 0 v v2 v3 [] [] [] [] [] [] 0 0 0) (qak 0 v v2 v3 [] [] [] [] [] [] 0 0 0) (qal 0 v v2 v3 [] [] [] [] [] [] 0 0 0) (qan 0 v v2 v3 [] [] [] [] [] [] 0 0 0) (qaj 0 v v2 v3 [] [] [] [] [] [] 0 0 0) (qap 0 v v2 v3 [] [] [] [] [] [] 0 0 0) (qar 0 v v2 v3 [] [] [] [] [] [] 0 0 0) (qaq 0 v v2 v3 [] [] [] [] [] [] 0 0 0) (qax 0 v v2 v3 [] [] [] [] [] [] 0 0 0) (qao 0 v v2 v3 [] [] [] [] [] [] 0 0 0) (qas 0 v v2 v3 [] [] [] [] [] [] 0 0 0)) (qd1 0 (qaw 0 v v2 v3 [] [] [] [] [] [] 0 0 0) (qam 0 v v2 v3 [] [] [] [] [] [] 0 0 0) (qak 0 v v2 v3 [] [] [] [] [] [] 0 0 0) (qal 0 v v2 v3 [] [] [] [] [] [] 0 0 0) (qan 0 v v2 v3 [] [] [] [] [] [] 0 0 0) (qaj 0 v v2 v3 [] [] [] [] [] [] 0 0 0) (qap 0 v v2 v3 [] [] [] [] [] [] 0 0 0) (qar 0 v v2 v3 [] [] [] [] [] [] 0 0 0) (qaq 0 v v2 v3 [] [] [] [] [] [] 0 0 0) (qax 0 v v2 v3 [] [] [] [] [] [] 0 0 0) (qao 0 v v2 v3 [] [] [] [] [] [] 0 0 0) (qas 0 v v2 v3 [] [] [] [] [] [] 0 0 0)) (qer 0 (qaw 0 v v2 v3 [] [] [] [] [] [] 0 0 0) (qam 0 v v2 v3 [] [] [] [] [] [] 0 0 0) (qak 0 v v2 v3 [] [] [] [] [] [] 0 0 0) (qal 0 v v2 v3 [] [] [] [] [] [] 0 0 0) (qan 0 v v2 v3 [] [] [] [] [] [] 0 0 0) (qaj 0 v v2 v3 [] [] [] [] [] [] 0 0 0) (qap 0 v v2 v3 [] [] [] [] [] [] 0 0 0) (qar 0 v v2 v3 [] [] [] [] [] [] 0 0 0) (qaq 0 v v2 v3 [] [] [] [] [] [] 0 0 0)
 (qax 0 v v2 v3 [] [] [] [] [] [] 0 0 0) (qao 0 v v2 v3 [] [] [] [] [] [] 0 0 0) (qas 0 v v2 v3 [] [] [] [] [] [] 0 0 0))) (.ret (.agg [.sl (qcq (qh7 0 (qe3 0 (qaw 0 v v2 v3 [] [] [] [] [] [] 0 0 0) (qam 0 v v2 v3 [] [] [] [] [] [] 0 0 0) (qak 0 v v2 v3 [] [] [] [] [] [] 0 0 0) (qal 0 v v2 v3 [] [] [] [] [] [] 0 0 0) (qan 0 v v2 v3 [] [] [] [] [] [] 0 0 0) (qaj 0 v v2 v3 [] [] [] [] [] [] 0 0 0) (qap 0 v v2 v3 [] [] [] [] [] [] 0 0 0) (qar 0 v v2 v3 [] [] [] [] [] [] 0 0 0) (qaq 0 v v2 v3 [] [] [] [] [] [] 0 0 0) (qax 0 v v2 v3 [] [] [] [] [] [] 0 0 0) (qao 0 v v2 v3 [] [] [] [] [] [] 0 0 0) (qas 0 v v2 v3 [] [] [] [] [] [] 0 0 0)) (qem 0 (qaw 0 v v2 v3 [] [] [] [] [] [] 0 0 0) (qam 0 v v2 v3 [] [] [] [] [] [] 0 0 0) (qak 0 v v2 v3 [] [] [] [] [] [] 0 0 0) (qal 0 v v2 v3 [] [] [] [] [] [] 0 0 0) (qan 0 v v2 v3 [] [] [] [] [] [] 0 0 0) (qaj 0 v v2 v3 [] [] [] [] [] [] 0 0 0) (qap 0 v v2 v3 [] [] [] [] [] [] 0 0 0) (qar 0 v v2 v3 [] [] [] [] [] [] 0 0 0) (qaq 0 v v2 v3 [] [] [] [] [] [] 0 0 0) (qax 0 v v2 v3 [] [] [] [] [] [] 0 0 0) (qao 0 v v2 v3 [] [] [] [] [] [] 0 0 0) (qas 0 v v2 v3 [] [] [] [] [] [] 0 0 0)) (qep 0 (qaw 0 v v2 v3 [] [] [] [] [] [] 0 0 0) (qam 0 v v2 v3 [] [] [] [] [] [] 0 0 0) (qak 0 v v2 v3 [] [] [] [] [] [] 0 0 0) (qal 0 v v2 v3 [] [] [] [] [] [] 0 0 0) (qan 0 v v2 v3 [] [] [] [] [] [] 0 0 0) (qaj 0 v v2 v3 [] [] [] [] [] [] 0 0 0) (qap 0 v v2 v3 [] [] [] [] [] [] 0 0 0) (qar 0 v v2 v3 [] [] [] [] [] [] 0 0 0) (qaq 0 v v2 v3 [] [] [] [] [] [] 0 0 0) (qax 0 v v2 v3 [] [] [] [] [] [] 0 0 0) (qao 0 v v2 v3 [] [] [] [] [] [] 0 0 0) (qas 0 v v2 v3 [] [] [] [] [] [] 0 0 0))
 (qeh 0 (qaw 0 v v2 v3 [] [] [] [] [] [] 0 0 0) (qam 0 v v2 v3 [] [] [] [] [] [] 0 0 0) (qak 0 v v2 v3 [] [] [] [] [] [] 0 0 0) (qal 0 v v2 v3 [] [] [] [] [] [] 0 0 0) (qan 0 v v2 v3 [] [] [] [] [] [] 0 0 0) (qaj 0 v v2 v3 [] [] [] [] [] [] 0 0 0) (qap 0 v v2 v3 [] [] [] [] [] [] 0 0 0) (qar 0 v v2 v3 [] [] [] [] [] [] 0 0 0) (qaq 0 v v2 v3 [] [] [] [] [] [] 0 0 0) (qax 0 v v2 v3 [] [] [] [] [] [] 0 0 0) (qao 0 v v2 v3 [] [] [] [] [] [] 0 0 0) (qas 0 v v2 v3 [] [] [] [] [] [] 0 0 0)) (qeo 0 (qaw 0 v v2 v3 [] [] [] [] [] [] 0 0 0) (qam 0 v v2 v3 [] [] [] [] [] [] 0 0 0) (qak 0 v v2 v3 [] [] [] [] [] [] 0 0 0) (qal 0 v v2 v3 [] [] [] [] [] [] 0 0 0) (qan 0 v v2 v3 [] [] [] [] [] [] 0 0 0) (qaj 0 v v2 v3 [] [] [] [] [] [] 0 0 0) (qap 0 v v2 v3 [] [] [] [] [] [] 0 0 0) (qar 0 v v2 v3 [] [] [] [] [] [] 0 0 0) (qaq 0 v v2 v3 [] [] [] [] [] [] 0 0 0) (qax 0 v v2 v3 [] [] [] [] [] [] 0 0 0) (qao 0 v v2 v3 [] [] [] [] [] [] 0 0 0) (qas 0 v v2 v3 [] [] [] [] [] [] 0 0 0)) (qdZ 0 (qaw 0 v v2 v3 [] [] [] [] [] [] 0 0 0) (qam 0 v v2 v3 [] [] [] [] [] [] 0 0 0) (qak 0 v v2 v3 [] [] [] [] [] [] 0 0 0) (qal 0 v v2 v3 [] [] [] [] [] [] 0 0 0) (qan 0 v v2 v3 [] [] [] [] [] [] 0 0 0) (qaj 0 v v2 v3 [] [] [] [] [] [] 0 0 0) (qap 0 v v2 v3 [] [] [] [] [] [] 0 0 0) (qar 0 v v2 v3 [] [] [] [] [] [] 0 0 0) (qaq 0 v v2 v3 [] [] [] [] [] [] 0 0 0) (qax 0 v v2 v3 [] [] [] [] [] [] 0 0 0) (qao 0 v v2 v3 [] [] [] [] [] [] 0 0 0) (qas 0 v v2 v3 [] [] [] [] [] [] 0 0 0)) (qd8 0 (qaw 0 v v2 v3 [] [] [] [] [] [] 0 0 0) (qam 0 v v2 v3 [] [] [] [] [] [] 0 0 0) (qak 0 v v2 v3 [] [] [] [] [] [] 0 0 0)
 (qal 0 v v2 v3 [] [] [] [] [] [] 0 0 0) (qan 0 v v2 v3 [] [] [] [] [] [] 0 0 0) (qaj 0 v v2 v3 [] [] [] [] [] [] 0 0 0) (qap 0 v v2 v3 [] [] [] [] [] [] 0 0 0) (qar 0 v v2 v3 [] [] [] [] [] [] 0 0 0) (qaq 0 v v2 v3 [] [] [] [] [] [] 0 0 0) (qax 0 v v2 v3 [] [] [] [] [] [] 0 0 0) (qao 0 v v2 v3 [] [] [] [] [] [] 0 0 0) (qas 0 v v2 v3 [] [] [] [] [] [] 0 0 0)) (qd0 0 (qaw 0 v v2 v3 [] [] [] [] [] [] 0 0 0) (qam 0 v v2 v3 [] [] [] [] [] [] 0 0 0) (qak 0 v v2 v3 [] [] [] [] [] [] 0 0 0) (qal 0 v v2 v3 [] [] [] [] [] [] 0 0 0) (qan 0 v v2 v3 [] [] [] [] [] [] 0 0 0) (qaj 0 v v2 v3 [] [] [] [] [] [] 0 0 0) (qap 0 v v2 v3 [] [] [] [] [] [] 0 0 0) (qar 0 v v2 v3 [] [] [] [] [] [] 0 0 0) (qaq 0 v v2 v3 [] [] [] [] [] [] 0 0 0) (qax 0 v v2 v3 [] [] [] [] [] [] 0 0 0) (qao 0 v v2 v3 [] [] [] [] [] [] 0 0 0) (qas 0 v v2 v3 [] [] [] [] [] [] 0 0 0)) (qd9 0 (qaw 0 v v2 v3 [] [] [] [] [] [] 0 0 0) (qam 0 v v2 v3 [] [] [] [] [] [] 0 0 0) (qak 0 v v2 v3 [] [] [] [] [] [] 0 0 0) (qal 0 v v2 v3 [] [] [] [] [] [] 0 0 0) (qan 0 v v2 v3 [] [] [] [] [] [] 0 0 0) (qaj 0 v v2 v3 [] [] [] [] [] [] 0 0 0) (qap 0 v v2 v3 [] [] [] [] [] [] 0 0 0) (qar 0 v v2 v3 [] [] [] [] [] [] 0 0 0) (qaq 0 v v2 v3 [] [] [] [] [] [] 0 0 0) (qax 0 v v2 v3 [] [] [] [] [] [] 0 0 0) (qao 0 v v2 v3 [] [] [] [] [] [] 0 0 0) (qas 0 v v2 v3 [] [] [] [] [] [] 0 0 0)) (qeV 0 (qaw 0 v v2 v3 [] [] [] [] [] [] 0 0 0) (qam 0 v v2 v3 [] [] [] [] [] [] 0 0 0) (qak 0 v v2 v3 [] [] [] [] [] [] 0 0 0) (qal 0 v v2 v3 [] [] [] [] [] [] 0 0 0) (qan 0 v v2 v3 [] [] [] [] [] [] 0 0 0) (qaj 0 v v2 v3 [] [] [] [] [] [] 0 0 0)
 (qap 0 v v2 v3 [] [] [] [] [] [] 0 0 0) (qar 0 v v2 v3 [] [] [] [] [] [] 0 0 0) (qaq 0 v v2 v3 [] [] [] [] [] [] 0 0 0) (qax 0 v v2 v3 [] [] [] [] [] [] 0 0 0) (qao 0 v v2 v3 [] [] [] [] [] [] 0 0 0) (qas 0 v v2 v3 [] [] [] [] [] [] 0 0 0)) (qd1 0 (qaw 0 v v2 v3 [] [] [] [] [] [] 0 0 0) (qam 0 v v2 v3 [] [] [] [] [] [] 0 0 0) (qak 0 v v2 v3 [] [] [] [] [] [] 0 0 0) (qal 0 v v2 v3 [] [] [] [] [] [] 0 0 0) (qan 0 v v2 v3 [] [] [] [] [] [] 0 0 0) (qaj 0 v v2 v3 [] [] [] [] [] [] 0 0 0) (qap 0 v v2 v3 [] [] [] [] [] [] 0 0 0) (qar 0 v v2 v3 [] [] [] [] [] [] 0 0 0) (qaq 0 v v2 v3 [] [] [] [] [] [] 0 0 0) (qax 0 v v2 v3 [] [] [] [] [] [] 0 0 0) (qao 0 v v2 v3 [] [] [] [] [] [] 0 0 0) (qas 0 v v2 v3 [] [] [] [] [] [] 0 0 0)) (qer 0 (qaw 0 v v2 v3 [] [] [] [] [] [] 0 0 0) (qam 0 v v2 v3 [] [] [] [] [] [] 0 0 0) (qak 0 v v2 v3 [] [] [] [] [] [] 0 0 0) (qal 0 v v2 v3 [] [] [] [] [] [] 0 0 0) (qan 0 v v2 v3 [] [] [] [] [] [] 0 0 0) (qaj 0 v v2 v3 [] [] [] [] [] [] 0 0 0) (qap 0 v v2 v3 [] [] [] [] [] [] 0 0 0) (qar 0 v v2 v3 [] [] [] [] [] [] 0 0 0) (qaq 0 v v2 v3 [] [] [] [] [] [] 0 0 0) (qax 0 v v2 v3 [] [] [] [] [] [] 0 0 0) (qao 0 v v2 v3 [] [] [] [] [] [] 0 0 0) (qas 0 v v2 v3 [] [] [] [] [] [] 0 0 0)))) .non,.sl (qcq (qig 0 (qe3 0 (qaw 0 v v2 v3 [] [] [] [] [] [] 0 0 0) (qam 0 v v2 v3 [] [] [] [] [] [] 0 0 0) (qak 0 v v2 v3 [] [] [] [] [] [] 0 0 0) (qal 0 v v2 v3 [] [] [] [] [] [] 0 0 0) (qan 0 v v2 v3 [] [] [] [] [] [] 0 0 0) (qaj 0 v v2 v3 [] [] [] [] [] [] 0 0 0) (qap 0 v v2 v3 [] [] [] [] [] [] 0 0 0) (qar 0 v v2 v3 [] [] [] [] [] [] 0 0 0) (qaq 0 v v2 v3 [] [] [] [] [] [] 0 0 0)
 (qax 0 v v2 v3 [] [] [] [] [] [] 0 0 0) (qao 0 v v2 v3 [] [] [] [] [] [] 0 0 0) (qas 0 v v2 v3 [] [] [] [] [] [] 0 0 0)) (qem 0 (qaw 0 v v2 v3 [] [] [] [] [] [] 0 0 0) (qam 0 v v2 v3 [] [] [] [] [] [] 0 0 0) (qak 0 v v2 v3 [] [] [] [] [] [] 0 0 0) (qal 0 v v2 v3 [] [] [] [] [] [] 0 0 0) (qan 0 v v2 v3 [] [] [] [] [] [] 0 0 0) (qaj 0 v v2 v3 [] [] [] [] [] [] 0 0 0) (qap 0 v v2 v3 [] [] [] [] [] [] 0 0 0) (qar 0 v v2 v3 [] [] [] [] [] [] 0 0 0) (qaq 0 v v2 v3 [] [] [] [] [] [] 0 0 0) (qax 0 v v2 v3 [] [] [] [] [] [] 0 0 0) (qao 0 v v2 v3 [] [] [] [] [] [] 0 0 0) (qas 0 v v2 v3 [] [] [] [] [] [] 0 0 0)) (qep 0 (qaw 0 v v2 v3 [] [] [] [] [] [] 0 0 0) (qam 0 v v2 v3 [] [] [] [] [] [] 0 0 0) (qak 0 v v2 v3 [] [] [] [] [] [] 0 0 0) (qal 0 v v2 v3 [] [] [] [] [] [] 0 0 0) (qan 0 v v2 v3 [] [] [] [] [] [] 0 0 0) (qaj 0 v v2 v3 [] [] [] [] [] [] 0 0 0) (qap 0 v v2 v3 [] [] [] [] [] [] 0 0 0) (qar 0 v v2 v3 [] [] [] [] [] [] 0 0 0) (qaq 0 v v2 v3 [] [] [] [] [] [] 0 0 0) (qax 0 v v2 v3 [] [] [] [] [] [] 0 0 0) (qao 0 v v2 v3 [] [] [] [] [] [] 0 0 0) (qas 0 v v2 v3 [] [] [] [] [] [] 0 0 0)) (qeh 0 (qaw 0 v v2 v3 [] [] [] [] [] [] 0 0 0) (qam 0 v v2 v3 [] [] [] [] [] [] 0 0 0) (qak 0 v v2 v3 [] [] [] [] [] [] 0 0 0) (qal 0 v v2 v3 [] [] [] [] [] [] 0 0 0) (qan 0 v v2 v3 [] [] [] [] [] [] 0 0 0) (qaj 0 v v2 v3 [] [] [] [] [] [] 0 0 0) (qap 0 v v2 v3 [] [] [] [] [] [] 0 0 0) (qar 0 v v2 v3 [] [] [] [] [] [] 0 0 0) (qaq 0 v v2 v3 [] [] [] [] [] [] 0 0 0) (qax 0 v v2 v3 [] [] [] [] [] [] 0 0 0) (qao 0 v v2 v3 [] [] [] [] [] [] 0 0 0) (qas 0 v v2 v3 [] [] [] [] [] [] 0 0 0))
 (qeo 0 (qaw 0 v v2 v3 [] [] [] [] [] [] 0 0 0) (qam 0 v v2 v3 [] [] [] [] [] [] 0 0 0) (qak 0 v v2 v3 [] [] [] [] [] [] 0 0 0) (qal 0 v v2 v3 [] [] [] [] [] [] 0 0 0) (qan 0 v v2 v3 [] [] [] [] [] [] 0 0 0) (qaj 0 v v2 v3 [] [] [] [] [] [] 0 0 0) (qap 0 v v2 v3 [] [] [] [] [] [] 0 0 0) (qar 0 v v2 v3 [] [] [] [] [] [] 0 0 0) (qaq 0 v v2 v3 [] [] [] [] [] [] 0 0 0) (qax 0 v v2 v3 [] [] [] [] [] [] 0 0 0) (qao 0 v v2 v3 [] [] [] [] [] [] 0 0 0) (qas 0 v v2 v3 [] [] [] [] [] [] 0 0 0)) (qdZ 0 (qaw 0 v v2 v3 [] [] [] [] [] [] 0 0 0) (qam 0 v v2 v3 [] [] [] [] [] [] 0 0 0) (qak 0 v v2 v3 [] [] [] [] [] [] 0 0 0) (qal 0 v v2 v3 [] [] [] [] [] [] 0 0 0) (qan 0 v v2 v3 [] [] [] [] [] [] 0 0 0) (qaj 0 v v2 v3 [] [] [] [] [] [] 0 0 0) (qap 0 v v2 v3 [] [] [] [] [] [] 0 0 0) (qar 0 v v2 v3 [] [] [] [] [] [] 0 0 0) (qaq 0 v v2 v3 [] [] [] [] [] [] 0 0 0) (qax 0 v v2 v3 [] [] [] [] [] [] 0 0 0) (qao 0 v v2 v3 [] [] [] [] [] [] 0 0 0) (qas 0 v v2 v3 [] [] [] [] [] [] 0 0 0)) (qd8 0 (qaw 0 v v2 v3 [] [] [] [] [] [] 0 0 0) (qam 0 v v2 v3 [] [] [] [] [] [] 0 0 0) (qak 0 v v2 v3 [] [] [] [] [] [] 0 0 0) (qal 0 v v2 v3 [] [] [] [] [] [] 0 0 0) (qan 0 v v2 v3 [] [] [] [] [] [] 0 0 0) (qaj 0 v v2 v3 [] [] [] [] [] [] 0 0 0) (qap 0 v v2 v3 [] [] [] [] [] [] 0 0 0) (qar 0 v v2 v3 [] [] [] [] [] [] 0 0 0) (qaq 0 v v2 v3 [] [] [] [] [] [] 0 0 0) (qax 0 v v2 v3 [] [] [] [] [] [] 0 0 0) (qao 0 v v2 v3 [] [] [] [] [] [] 0 0 0) (qas 0 v v2 v3 [] [] [] [] [] [] 0 0 0)) (qd0 0 (qaw 0 v v2 v3 [] [] [] [] [] [] 0 0 0) (qam 0 v v2 v3 [] [] [] [] [] [] 0 0 0) (qak 0 v v2 v3 [] [] [] [] [] [] 0 0 0)
 (qal 0 v v2 v3 [] [] [] [] [] [] 0 0 0) (qan 0 v v2 v3 [] [] [] [] [] [] 0 0 0) (qaj 0 v v2 v3 [] [] [] [] [] [] 0 0 0) (qap 0 v v2 v3 [] [] [] [] [] [] 0 0 0) (qar 0 v v2 v3 [] [] [] [] [] [] 0 0 0) (qaq 0 v v2 v3 [] [] [] [] [] [] 0 0 0) (qax 0 v v2 v3 [] [] [] [] [] [] 0 0 0) (qao 0 v v2 v3 [] [] [] [] [] [] 0 0 0) (qas 0 v v2 v3 [] [] [] [] [] [] 0 0 0)) (qd9 0 (qaw 0 v v2 v3 [] [] [] [] [] [] 0 0 0) (qam 0 v v2 v3 [] [] [] [] [] [] 0 0 0) (qak 0 v v2 v3 [] [] [] [] [] [] 0 0 0) (qal 0 v v2 v3 [] [] [] [] [] [] 0 0 0) (qan 0 v v2 v3 [] [] [] [] [] [] 0 0 0) (qaj 0 v v2 v3 [] [] [] [] [] [] 0 0 0) (qap 0 v v2 v3 [] [] [] [] [] [] 0 0 0) (qar 0 v v2 v3 [] [] [] [] [] [] 0 0 0) (qaq 0 v v2 v3 [] [] [] [] [] [] 0 0 0) (qax 0 v v2 v3 [] [] [] [] [] [] 0 0 0) (qao 0 v v2 v3 [] [] [] [] [] [] 0 0 0) (qas 0 v v2 v3 [] [] [] [] [] [] 0 0 0)) (qeV 0 (qaw 0 v v2 v3 [] [] [] [] [] [] 0 0 0) (qam 0 v v2 v3 [] [] [] [] [] [] 0 0 0) (qak 0 v v2 v3 [] [] [] [] [] [] 0 0 0) (qal 0 v v2 v3 [] [] [] [] [] [] 0 0 0) (qan 0 v v2 v3 [] [] [] [] [] [] 0 0 0) (qaj 0 v v2 v3 [] [] [] [] [] [] 0 0 0) (qap 0 v v2 v3 [] [] [] [] [] [] 0 0 0) (qar 0 v v2 v3 [] [] [] [] [] [] 0 0 0) (qaq 0 v v2 v3 [] [] [] [] [] [] 0 0 0) (qax 0 v v2 v3 [] [] [] [] [] [] 0 0 0) (qao 0 v v2 v3 [] [] [] [] [] [] 0 0 0) (qas 0 v v2 v3 [] [] [] [] [] [] 0 0 0)) (qd1 0 (qaw 0 v v2 v3 [] [] [] [] [] [] 0 0 0) (qam 0 v v2 v3 [] [] [] [] [] [] 0 0 0) (qak 0 v v2 v3 [] [] [] [] [] [] 0 0 0) (qal 0 v v2 v3 [] [] [] [] [] [] 0 0 0) (qan 0 v v2 v3 [] [] [] [] [] [] 0 0 0) (qaj 0 v v2 v3 [] [] [] [] [] [] 0 0 0)
 (qap 0 v v2 v3 [] [] [] [] [] [] 0 0 0) (qar 0 v v2 v3 [] [] [] [] [] [] 0 0 0) (qaq 0 v v2 v3 [] [] [] [] [] [] 0 0 0) (qax 0 v v2 v3 [] [] [] [] [] [] 0 0 0) (qao 0 v v2 v3 [] [] [] [] [] [] 0 0 0) (qas 0 v v2 v3 [] [] [] [] [] [] 0 0 0)) (qer 0 (qaw 0 v v2 v3 [] [] [] [] [] [] 0 0 0) (qam 0 v v2 v3 [] [] [] [] [] [] 0 0 0) (qak 0 v v2 v3 [] [] [] [] [] [] 0 0 0) (qal 0 v v2 v3 [] [] [] [] [] [] 0 0 0) (qan 0 v v2 v3 [] [] [] [] [] [] 0 0 0) (qaj 0 v v2 v3 [] [] [] [] [] [] 0 0 0) (qap 0 v v2 v3 [] [] [] [] [] [] 0 0 0) (qar 0 v v2 v3 [] [] [] [] [] [] 0 0 0) (qaq 0 v v2 v3 [] [] [] [] [] [] 0 0 0) (qax 0 v v2 v3 [] [] [] [] [] [] 0 0 0) (qao 0 v v2 v3 [] [] [] [] [] [] 0 0 0) (qas 0 v v2 v3 [] [] [] [] [] [] 0 0 0)))) .non,.sl (qcq (qie 0 (qe3 0 (qaw 0 v v2 v3 [] [] [] [] [] [] 0 0 0) (qam 0 v v2 v3 [] [] [] [] [] [] 0 0 0) (qak 0 v v2 v3 [] [] [] [] [] [] 0 0 0) (qal 0 v v2 v3 [] [] [] [] [] [] 0 0 0) (qan 0 v v2 v3 [] [] [] [] [] [] 0 0 0) (qaj 0 v v2 v3 [] [] [] [] [] [] 0 0 0) (qap 0 v v2 v3 [] [] [] [] [] [] 0 0 0) (qar 0 v v2 v3 [] [] [] [] [] [] 0 0 0) (qaq 0 v v2 v3 [] [] [] [] [] [] 0 0 0) (qax 0 v v2 v3 [] [] [] [] [] [] 0 0 0) (qao 0 v v2 v3 [] [] [] [] [] [] 0 0 0) (qas 0 v v2 v3 [] [] [] [] [] [] 0 0 0)) (qem 0 (qaw 0 v v2 v3 [] [] [] [] [] [] 0 0 0) (qam 0 v v2 v3 [] [] [] [] [] [] 0 0 0) (qak 0 v v2 v3 [] [] [] [] [] [] 0 0 0) (qal 0 v v2 v3 [] [] [] [] [] [] 0 0 0) (qan 0 v v2 v3 [] [] [] [] [] [] 0 0 0) (qaj 0 v v2 v3 [] [] [] [] [] [] 0 0 0) (qap 0 v v2 v3 [] [] [] [] [] [] 0 0 0) (qar 0 v v2 v3 [] [] [] [] [] [] 0 0 0) (qaq 0 v v2 v3 [] [] [] [] [] [] 0 0 0)
 (qax 0 v v2 v3 [] [] [] [] [] [] 0 0 0) (qao 0 v v2 v3 [] [] [] [] [] [] 0 0 0) (qas 0 v v2 v3 [] [] [] [] [] [] 0 0 0)) (qep 0 (qaw 0 v v2 v3 [] [] [] [] [] [] 0 0 0) (qam 0 v v2 v3 [] [] [] [] [] [] 0 0 0) (qak 0 v v2 v3 [] [] [] [] [] [] 0 0 0) (qal 0 v v2 v3 [] [] [] [] [] [] 0 0 0) (qan 0 v v2 v3 [] [] [] [] [] [] 0 0 0) (qaj 0 v v2 v3 [] [] [] [] [] [] 0 0 0) (qap 0 v v2 v3 [] [] [] [] [] [] 0 0 0) (qar 0 v v2 v3 [] [] [] [] [] [] 0 0 0) (qaq 0 v v2 v3 [] [] [] [] [] [] 0 0 0) (qax 0 v v2 v3 [] [] [] [] [] [] 0 0 0) (qao 0 v v2 v3 [] [] [] [] [] [] 0 0 0) (qas 0 v v2 v3 [] [] [] [] [] [] 0 0 0)) (qeh 0 (qaw 0 v v2 v3 [] [] [] [] [] [] 0 0 0) (qam 0 v v2 v3 [] [] [] [] [] [] 0 0 0) (qak 0 v v2 v3 [] [] [] [] [] [] 0 0 0) (qal 0 v v2 v3 [] [] [] [] [] [] 0 0 0) (qan 0 v v2 v3 [] [] [] [] [] [] 0 0 0) (qaj 0 v v2 v3 [] [] [] [] [] [] 0 0 0) (qap 0 v v2 v3 [] [] [] [] [] [] 0 0 0) (qar 0 v v2 v3 [] [] [] [] [] [] 0 0 0) (qaq 0 v v2 v3 [] [] [] [] [] [] 0 0 0) (qax 0 v v2 v3 [] [] [] [] [] [] 0 0 0) (qao 0 v v2 v3 [] [] [] [] [] [] 0 0 0) (qas 0 v v2 v3 [] [] [] [] [] [] 0 0 0)) (qeo 0 (qaw 0 v v2 v3 [] [] [] [] [] [] 0 0 0) (qam 0 v v2 v3 [] [] [] [] [] [] 0 0 0) (qak 0 v v2 v3 [] [] [] [] [] [] 0 0 0) (qal 0 v v2 v3 [] [] [] [] [] [] 0 0 0) (qan 0 v v2 v3 [] [] [] [] [] [] 0 0 0) (qaj 0 v v2 v3 [] [] [] [] [] [] 0 0 0) (qap 0 v v2 v3 [] [] [] [] [] [] 0 0 0) (qar 0 v v2 v3 [] [] [] [] [] [] 0 0 0) (qaq 0 v v2 v3 [] [] [] [] [] [] 0 0 0) (qax 0 v v2 v3 [] [] [] [] [] [] 0 0 0) (qao 0 v v2 v3 [] [] [] [] [] [] 0 0 0) (qas 0 v v2 v3 [] [] [] [] [] [] 0 0 0))
 (qdZ 0 (qaw 0 v v2 v3 [] [] [] [] [] [] 0 0 0) (qam 0 v v2 v3 [] [] [] [] [] [] 0 0 0) (qak 0 v v2 v3 [] [] [] [] [] [] 0 0 0) (qal 0 v v2 v3 [] [] [] [] [] [] 0 0 0) (qan 0 v v2 v3 [] [] [] [] [] [] 0 0 0) (qaj 0 v v2 v3 [] [] [] [] [] [] 0 0 0) (qap 0 v v2 v3 [] [] [] [] [] [] 0 0 0) (qar 0 v v2 v3 [] [] [] [] [] [] 0 0 0) (qaq 0 v v2 v3 [] [] [] [] [] [] 0 0 0) (qax 0 v v2 v3 [] [] [] [] [] [] 0 0 0) (qao 0 v v2 v3 [] [] [] [] [] [] 0 0 0) (qas 0 v v2 v3 [] [] [] [] [] [] 0 0 0)) (qd8 0 (qaw 0 v v2 v3 [] [] [] [] [] [] 0 0 0) (qam 0 v v2 v3 [] [] [] [] [] [] 0 0 0) (qak 0 v v2 v3 [] [] [] [] [] [] 0 0 0) (qal 0 v v2 v3 [] [] [] [] [] [] 0 0 0) (qan 0 v v2 v3 [] [] [] [] [] [] 0 0 0) (qaj 0 v v2 v3 [] [] [] [] [] [] 0 0 0) (qap 0 v v2 v3 [] [] [] [] [] [] 0 0 0) (qar 0 v v2 v3 [] [] [] [] [] [] 0 0 0) (qaq 0 v v2 v3 [] [] [] [] [] [] 0 0 0) (qax 0 v v2 v3 [] [] [] [] [] [] 0 0 0) (qao 0 v v2 v3 [] [] [] [] [] [] 0 0 0) (qas 0 v v2 v3 [] [] [] [] [] [] 0 0 0)) (qd0 0 (qaw 0 v v2 v3 [] [] [] [] [] [] 0 0 0) (qam 0 v v2 v3 [] [] [] [] [] [] 0 0 0) (qak 0 v v2 v3 [] [] [] [] [] [] 0 0 0) (qal 0 v v2 v3 [] [] [] [] [] [] 0 0 0) (qan 0 v v2 v3 [] [] [] [] [] [] 0 0 0) (qaj 0 v v2 v3 [] [] [] [] [] [] 0 0 0) (qap 0 v v2 v3 [] [] [] [] [] [] 0 0 0) (qar 0 v v2 v3 [] [] [] [] [] [] 0 0 0) (qaq 0 v v2 v3 [] [] [] [] [] [] 0 0 0) (qax 0 v v2 v3 [] [] [] [] [] [] 0 0 0) (qao 0 v v2 v3 [] [] [] [] [] [] 0 0 0) (qas 0 v v2 v3 [] [] [] [] [] [] 0 0 0)) (qd9 0 (qaw 0 v v2 v3 [] [] [] [] [] [] 0 0 0) (qam 0 v v2 v3 [] [] [] [] [] [] 0 0 0) (qak 0 v v2 v3 [] [] [] [] [] [] 0 0 0)
 (qal 0 v v2 v3 [] [] [] [] [] [] 0 0 0) (qan 0 v v2 v3 [] [] [] [] [] [] 0 0 0) (qaj 0 v v2 v3 [] [] [] [] [] [] 0 0 0) (qap 0 v v2 v3 [] [] [] [] [] [] 0 0 0) (qar 0 v v2 v3 [] [] [] [] [] [] 0 0 0) (qaq 0 v v2 v3 [] [] [] [] [] [] 0 0 0) (qax 0 v v2 v3 [] [] [] [] [] [] 0 0 0) (qao 0 v v2 v3 [] [] [] [] [] [] 0 0 0) (qas 0 v v2 v3 [] [] [] [] [] [] 0 0 0)) (qeV 0 (qaw 0 v v2 v3 [] [] [] [] [] [] 0 0 0) (qam 0 v v2 v3 [] [] [] [] [] [] 0 0 0) (qak 0 v v2 v3 [] [] [] [] [] [] 0 0 0) (qal 0 v v2 v3 [] [] [] [] [] [] 0 0 0) (qan 0 v v2 v3 [] [] [] [] [] [] 0 0 0) (qaj 0 v v2 v3 [] [] [] [] [] [] 0 0 0) (qap 0 v v2 v3 [] [] [] [] [] [] 0 0 0) (qar 0 v v2 v3 [] [] [] [] [] [] 0 0 0) (qaq 0 v v2 v3 [] [] [] [] [] [] 0 0 0) (qax 0 v v2 v3 [] [] [] [] [] [] 0 0 0) (qao 0 v v2 v3 [] [] [] [] [] [] 0 0 0) (qas 0 v v2 v3 [] [] [] [] [] [] 0 0 0)) (qd1 0 (qaw 0 v v2 v3 [] [] [] [] [] [] 0 0 0) (qam 0 v v2 v3 [] [] [] [] [] [] 0 0 0) (qak 0 v v2 v3 [] [] [] [] [] [] 0 0 0) (qal 0 v v2 v3 [] [] [] [] [] [] 0 0 0) (qan 0 v v2 v3 [] [] [] [] [] [] 0 0 0) (qaj 0 v v2 v3 [] [] [] [] [] [] 0 0 0) (qap 0 v v2 v3 [] [] [] [] [] [] 0 0 0) (qar 0 v v2 v3 [] [] [] [] [] [] 0 0 0) (qaq 0 v v2 v3 [] [] [] [] [] [] 0 0 0) (qax 0 v v2 v3 [] [] [] [] [] [] 0 0 0) (qao 0 v v2 v3 [] [] [] [] [] [] 0 0 0) (qas 0 v v2 v3 [] [] [] [] [] [] 0 0 0)) (qer 0 (qaw 0 v v2 v3 [] [] [] [] [] [] 0 0 0) (qam 0 v v2 v3 [] [] [] [] [] [] 0 0 0) (qak 0 v v2 v3 [] [] [] [] [] [] 0 0 0) (qal 0 v v2 v3 [] [] [] [] [] [] 0 0 0) (qan 0 v v2 v3 [] [] [] [] [] [] 0 0 0) (qaj 0 v v2 v3 [] [] [] [] [] [] 0 0 0)
 (qap 0 v v2 v3 [] [] [] [] [] [] 0 0 0) (qar 0 v v2 v3 [] [] [] [] [] [] 0 0 0) (qaq 0 v v2 v3 [] [] [] [] [] [] 0 0 0) (qax 0 v v2 v3 [] [] [] [] [] [] 0 0 0) (qao 0 v v2 v3 [] [] [] [] [] [] 0 0 0) (qas 0 v v2 v3 [] [] [] [] [] [] 0 0 0)))) .non])) .fail) .fail) .fail
theorem qHv (v:qR) (v2:qR) (v3:qR):(tcall tbT qeH qpI Tryz.f35 [.agg [.sl v .non,.sl v2 .non,.sl v3 .non]]).flat=qn8 v v2 v3:=by kernel_rfl
def qg5 (v:qR) (v2:qR) (v3:qR):Option PV:=(qn8 v v2 v3).run
def qcJ (v:qR) (v2:qR) (v3:qR):List (List PV):=(gRow (gAt (gCs (gVal (qg5 v v2 v3))) 0))
def qcn (v:qR) (v2:qR) (v3:qR):List (List PV):=(gRow (gAt (gCs (gVal (qg5 v v2 v3))) 1))
def qco (v:qR) (v2:qR) (v3:qR):List (List PV):=(gRow (gAt (gCs (gVal (qg5 v v2 v3))) 2))
def qen (v:qR) (v2:qR) (v3:qR):Bool:=isW (qg5 v v2 v3) (.agg [.sl (qcJ v v2 v3) .non,.sl (qcn v v2 v3) .non,.sl (qco v v2 v3) .non])
def qqc:List PV→Tr PV|[.agg [.sl v .non,.sl v2 .non,.sl v3 .non]]=>.ite (qen v v2 v3) (.ret (.agg [.sl (qcJ v v2 v3) .non,.sl (qcn v v2 v3) .non,.sl (qco v v2 v3) .non])) (.fail)|_=>.fail
theorem qAI (gl:Gl):SimP Tryz.prog gl 35 fun args=>(qqc args).run:=by
 refine SimP.of_flat (G:=qeH) (L:=qpI) qat (qh9 gl ) qah  Tryz.func35 rfl (by rfl) (by kernel_rfl) (qaX (L:=lps qpI) [(3,qju),(7,qkk),(11,qkf)] (by kernel_rfl) (List.forall_mem_cons.2 ⟨fun fr σ e fr' σ' h=>qv7 gl  fr σ e fr' σ' h,(List.forall_mem_cons.2 ⟨fun fr σ e fr' σ' h=>qv8 gl  fr σ e fr' σ' h,(List.forall_mem_cons.2 ⟨fun fr σ e fr' σ' h=>qv2 gl  fr σ e fr' σ' h,(List.forall_mem_nil _)⟩)⟩)⟩)) ?_
 intro args x h;unfold qqc at h
 split at h
 ·exact (congrArg Tr.run (qHv _ _ _)).trans (qai h fun h=>by cases h)
 ·cases h
end Go.Pv
set_option maxHeartbeats 4000000
set_option linter.unusedSimpArgs false
set_option linter.unusedVariables false
namespace Go.Pv
open Go.RowKit
def swp (i k:Nat):Nat:=if k=i then i+1 else if k=i+1 then i else k
theorem qDK (i k:Nat):swp i (swp i k)=k:=by
 unfold swp
 repeat' split
 all_goals omega
theorem qO7 {i k n:Nat} (hi:i+1 < n) (hk:k < n):swp i k < n:=by
 unfold swp
 repeat' split
 all_goals omega
theorem qwi {i k:Nat} (h1:k≠i) (h2:k≠i+1):swp i k=k:=by
 unfold swp;rw [if_neg h1,if_neg h2]
def eA (i k:Nat) (o:Oper):Oper:=if k=i+1 then { o with after:=o.after.push ⟨i,.data⟩ } else o
def opsA (i:Nat) (ops:Array Oper):Array Oper:=ops.mapIdx fun k o=>eA i k o
def eB (i k:Nat) (o:Oper):Oper:={ o with after:=(o.after.map fun e=>{ e with on:=swp i e.on })++(if k=i+1 then #[⟨i,.data⟩] else #[]) }
def opsB (i:Nat) (ops:Array Oper):Array Oper:=ops.mapIdx fun k o=>eB i k ((ops[swp i k]?).getD o)
def qnF (i:Nat) (ops:Array Oper):Bool:=ops.toList.all fun o=>match o.guard with
 |some (g,_)=>!Nat.beq g i&&!Nat.beq g (i+1)
 |none=>true
theorem atA (i:Nat) (ops:Array Oper) (k:Nat):(opsA i ops)[k]?=(ops[k]?).map (eA i k):=by
 unfold opsA;rw [Array.getElem?_mapIdx]
theorem atB {i:Nat} {ops:Array Oper} (hi:i+1 < ops.size) {k:Nat} {o:Oper} (h:ops[k]?=some o):(opsB i ops)[swp i k]?=some (eB i (swp i k) o):=by
 have hk:k < ops.size:=by
  have:=Array.getElem?_eq_some_iff.1 h;exact this.1
 unfold opsB;rw [Array.getElem?_mapIdx,Array.getElem?_eq_getElem (qO7 hi hk),qDK,h];rfl
theorem qPr (i k:Nat) (o:Oper):∃ x,eA i k o={ o with after:=x }:=by
 unfold eA;split
 ·exact⟨_,rfl⟩
 ·exact⟨o.after,rfl⟩
theorem qCh (i:Nat) (ops:Array Oper):(opsA i ops).size=ops.size:=by simp [opsA]
theorem qvQ (i:Nat) (ops:Array Oper):(opsB i ops).size=ops.size:=by simp [opsB]
theorem qwL {i:Nat} {ops:Array Oper} (h:qnF i ops=true) {k:Nat} {o:Oper} (ho:ops[k]?=some o) {g:Nat} {b:Bool} (hg:o.guard=some (g,b)):g≠i∧g≠i+1:=by
 unfold qnF at h
 rw [List.all_eq_true] at h
 have h1:=h o (by
  rw [Array.mem_toList_iff];exact Array.mem_of_getElem? ho)
 rw [hg] at h1;simp only [Bool.and_eq_true,Bool.not_eq_true'] at h1;exact⟨Nat.ne_of_beq_eq_false h1.1,Nat.ne_of_beq_eq_false h1.2⟩
theorem qeM {ops:Array Oper} {listed:Array Bool} (hs:listed.size=ops.size) {k:Nat}:k∈Region.ready .any ops listed↔∃ o,ops[k]?=some o∧¬ In listed k∧∀ e∈o.after.toList,Region.binds .any e=true→In listed e.on:=by
 unfold Region.ready;rw [List.mem_filter,List.mem_range];constructor
 ·rintro⟨hk,hk'⟩;have hb:k < listed.size:=by omega
  have e2:ops[k]?=some ops[k]:=Array.getElem?_eq_getElem hk;simp only [e2,Option.map_some,Option.getD_some,Bool.and_eq_true,Bool.not_eq_true'] at hk';obtain⟨hk1,hk2⟩:=hk';refine⟨_,e2,?_,?_⟩
  ·rw [Array.getD_eq_getD_getElem?,Array.getElem?_eq_getElem hb] at hk1;unfold In;rw [Array.getD_eq_getD_getElem?,Array.getElem?_eq_getElem hb];simpa using hk1
  ·intro e he hbd;have:=Array.all_eq_true'.1 hk2 e (Array.mem_toList_iff.1 he);simpa [hbd,In] using this
 ·rintro⟨o,ho,hn,he⟩;have hk:k < ops.size:=(Array.getElem?_eq_some_iff.1 ho).1;have hb:k < listed.size:=by omega
  refine⟨hk,?_⟩;simp only [ho,Option.map_some,Option.getD_some,Bool.and_eq_true,Bool.not_eq_true'];constructor
  ·unfold In at hn;rw [Array.getD_eq_getD_getElem?,Array.getElem?_eq_getElem hb] at hn ⊢;simpa using hn
  ·rw [Array.all_eq_true'];intro e hm;cases hbd:Region.binds .any e with
   |false=>rfl
   |true =>
    have:=he e (Array.mem_toList_iff.2 hm) hbd;simpa [In] using this
section
variable {F : Fence} {n : Nat} {P : Program} {Q : Exit → Act → World → Prop}
theorem qA0 {ops ops2:Array Oper} (hsz:ops2.size=ops.size) (π:Nat→Nat) (hπ:∀ k,π (π k)=k) (hlt:∀ k,k < ops.size→π k < ops.size) (j:Nat)
  (hop:∀ (K:Act→World→Prop) k a w,wpOpIn F n P ops2 Q (π k) K a w→wpOpIn F n P ops Q k K a w)
  (hr:∀ listed listed2:Array Bool,listed.size=ops.size→listed2.size=ops2.size→(∀ k,In listed2 (π k)↔In listed k)→In listed j→∀ k,(k∈Region.ready .any ops listed↔π k∈Region.ready .any ops2 listed2)) :
  ∀ (fuel:Nat) (listed listed2:Array Bool) (a:Act) (w:World),listed.size=ops.size→listed2.size=ops2.size→(∀ k,In listed2 (π k)↔In listed k)→In listed j→wpAnyIn F n P .any ops2 Q fuel listed2 a w→wpAnyIn F n P .any ops Q fuel listed a w:=by
 intro fuel
 induction fuel with
 |zero =>
  intro l l2 a w h1 h2 h3 h4 h;refine⟨List.eq_nil_iff_forall_not_mem.2 fun k hk=>?_,h.2⟩
  have:=(hr l l2 h1 h2 h3 h4 k).1 hk;rw [h.1] at this;cases this
 |succ fuel ih =>
  intro l l2 a w h1 h2 h3 h4 h;refine⟨fun hn=>h.1 (List.eq_nil_iff_forall_not_mem.2 fun k hk=>?_),fun k hk=>?_⟩
  ·have:=(hr l l2 h1 h2 h3 h4 (π k)).2 (by rw [hπ];exact hk)
   rw [hn] at this;cases this
  ·have hk2:=(hr l l2 h1 h2 h3 h4 k).1 hk;obtain⟨o,ho,_⟩:=(qeM h1).1 hk;have hkl:k < ops.size:=(Array.getElem?_eq_some_iff.1 ho).1;refine hop _ k a w (wpOpIn_mono (fun a' w' h'=>ih _ _ a' w' (by simp [h1]) (by simp [h2]) (fun m=>?_) ?_ h') (h.2 _ hk2))
   ·rw [qfI (by have:=hlt k hkl;omega),qfI (by omega),h3]
    constructor
    ·rintro (h|h)
     ·exact .inl (by rw [← hπ m,h,hπ])
     ·exact .inr h
    ·rintro (rfl|h)
     ·exact .inl rfl
     ·exact .inr h
   ·exact (qfI (by omega)).2 (.inr h4)
theorem qNE (i:Nat) (ops:Array Oper) (t:Array Value):yielded (opsA i ops) t=yielded ops t:=by
 funext g
 unfold yielded;rw [atA];cases h:ops[g]? with
 |none=>rfl
 |some o =>
  obtain⟨x,hx⟩:=qPr i g o;simp only [Option.map_some,Option.bind_some,hx]
theorem qMU {i:Nat} {ops:Array Oper} (hi:i+1 < ops.size) (t:Array Value) {g:Nat} (h1:g≠i) (h2:g≠i+1):yielded (opsB i ops) t g=yielded ops t g:=by
 unfold yielded;cases h:ops[g]? with
 |none =>
  have:(opsB i ops)[g]?=none:=by
   rw [Array.getElem?_eq_none_iff] at h ⊢;rw [qvQ];exact h
  rw [this]
 |some o =>
  have:=atB hi h;rw [qwi h1 h2] at this;rw [this];rfl
theorem opA (i:Nat) (ops:Array Oper) (K:Act→World→Prop) (k:Nat) (a:Act) (w:World) (h:wpOpIn F n P (opsA i ops) Q k K a w):wpOpIn F n P ops Q k K a w:=by
 unfold wpOpIn at h ⊢;rw [atA,qNE] at h
 cases ho:ops[k]? with
 |none=>rw [ho] at h;exact h
 |some o =>
  obtain⟨x,hx⟩:=qPr i k o;rw [ho] at h
  simp only [Option.map_some,hx] at h
  exact h
theorem opB {i:Nat} {ops:Array Oper} (hi:i+1 < ops.size) (hg:qnF i ops=true) (K:Act→World→Prop) (k:Nat) (a:Act) (w:World) (h:wpOpIn F n P (opsB i ops) Q (swp i k) K a w):wpOpIn F n P ops Q k K a w:=by
 unfold wpOpIn at h ⊢;cases ho:ops[k]? with
 |none =>
  have hk:ops.size≤k:=by rwa [Array.getElem?_eq_none_iff] at ho
  have:(opsB i ops)[swp i k]?=none:=by
   rw [qwi (by omega) (by omega),Array.getElem?_eq_none_iff,qvQ]
   exact hk
  rw [this] at h
  exact h
 |some o =>
  rw [atB hi ho] at h
  have hw:Region.wanted (eB i (swp i k) o) (yielded (opsB i ops) a.tmps)=Region.wanted o (yielded ops a.tmps):=by
   unfold Region.wanted;have e:(eB i (swp i k) o).guard=o.guard:=rfl;rw [e];cases hgd:o.guard with
   |none=>rfl
   |some gb =>
    obtain⟨g,b⟩:=gb;obtain⟨h1,h2⟩:=qwL hg ho hgd;simp only [qMU hi a.tmps h1 h2]
  simp only [hw] at h
  exact h
theorem simA (i:Nat) (ops:Array Oper) (fuel:Nat) (listed:Array Bool) (a:Act) (w:World) (hs:listed.size=ops.size) (hin:In listed i) (h:wpAnyIn F n P .any (opsA i ops) Q fuel listed a w):wpAnyIn F n P .any ops Q fuel listed a w:=by
 refine qA0 (qCh i ops) id (fun _=>rfl) (fun _ h=>h) i (opA i ops) ?_ fuel listed listed a w hs (by rw [qCh,hs]) (fun _=>Iff.rfl) hin h
 intro l l2 h1 h2 h3 h4 k;have h3:∀ k,In l2 k↔In l k:=h3;rw [qeM h1,qeM h2];show _↔∃ o,(opsA i ops)[k]?=some o∧_
 rw [atA];constructor
 ·rintro⟨o,ho,hn,he⟩;refine⟨eA i k o,by rw [ho];rfl,fun h=>hn ((h3 k).1 h),fun e he' hb=>(h3 _).2 ?_⟩
  unfold eA at he';split at he'
  ·simp only [Array.toList_push,List.mem_append,List.mem_singleton] at he';rcases he' with he'|rfl
   ·exact he e he' hb
   ·exact h4
  ·exact he e he' hb
 ·rintro⟨o2,ho2,hn,he⟩;cases ho:ops[k]? with
  |none=>rw [ho] at ho2;cases ho2
  |some o =>
   rw [ho] at ho2;simp only [Option.map_some,Option.some.injEq] at ho2;subst ho2;refine⟨o,rfl,fun h=>hn ((h3 k).2 h),fun e he' hb=>(h3 _).1 (he e ?_ hb)⟩
   unfold eA;split
   ·simp only [Array.toList_push,List.mem_append];exact .inl he'
   ·exact he'
theorem simB {i:Nat} {ops:Array Oper} (hi:i+1 < ops.size) (hg:qnF i ops=true) (fuel:Nat) (listed listed2:Array Bool) (a:Act) (w:World) (hs:listed.size=ops.size) (hs2:listed2.size=ops.size) (hin:In listed (i+1)) (hl:∀ k,In listed2 (swp i k)↔In listed k)
  (h:wpAnyIn F n P .any (opsB i ops) Q fuel listed2 a w):wpAnyIn F n P .any ops Q fuel listed a w:=by
 refine qA0 (qvQ i ops) (swp i) (qDK i) (fun _ h=>qO7 hi h) (i+1) (opB hi hg) ?_ fuel listed listed2 a w hs (by rw [qvQ,hs2]) hl hin h
 intro l l2 h1 h2 h3 h4 k;have h5:In l2 i:=by
  have:=(h3 (i+1)).2 h4;simpa [swp] using this
 rw [qeM h1,qeM h2];constructor
 ·rintro⟨o,ho,hn,he⟩;refine⟨_,atB hi ho,fun h=>hn ((h3 k).1 h),fun e he' hb=>?_⟩
  simp only [eB,Array.toList_append,Array.toList_map,List.mem_append,List.mem_map] at he';rcases he' with⟨e0,he0,rfl⟩|he'
  ·exact (h3 _).2 (he e0 he0 hb)
  ·split at he'
   ·simp at he';subst he';exact h5
   ·simp at he'
 ·rintro⟨o2,ho2,hn,he⟩;cases ho:ops[k]? with
  |none =>
   have hk:ops.size≤k:=by rwa [Array.getElem?_eq_none_iff] at ho
   have:(opsB i ops)[swp i k]?=none:=by
    rw [qwi (by omega) (by omega),Array.getElem?_eq_none_iff,qvQ]
    exact hk
   rw [this] at ho2;cases ho2
  |some o =>
   rw [atB hi ho] at ho2;cases ho2
   refine⟨o,rfl,fun h=>hn ((h3 k).2 h),fun e he' hb=>(h3 _).1 (he { e with on:=swp i e.on } ?_ hb)⟩
   simp only [eB,Array.toList_append,Array.toList_map,List.mem_append,List.mem_map];exact .inl ⟨e,he',rfl⟩
end
section
variable {P : Program} {tb : Tab} {gl : Gl} {Γ : Gam} {H0 : Gh} {w0 : World} {Q : Exit → Act → World → Prop}
theorem qFh {b:Bool} {ops:List Oper} (hord:qds b Γ ops=true) {F:Nat→List PV} {S:Nat→Store} {X:Nat→PV} (ht:Trace tb Γ ops ops F S X)
  (hfree:∀ (k i:Nat) (o:Oper),ops[k]?=some o→reads Γ o=true→qfc b Γ o=false→i≤ops.length→pop tb Γ (F k) (S k) o=some (X k,S (k+1))→pop tb Γ (F k) (S i) o=some (X k,S i))
  {listed:Array Bool} {fr:List PV} {σ:Store} (hI:Inv Γ ops F S listed fr σ) {k:Nat} {o:Oper} (hko:ops[k]?=some o) (hb:k < listed.size) (hn:¬ In listed k) (he:∀ e∈o.after.toList,Region.binds .any e=true→In listed e.on) :
  ∃ x σ',((pwanted ops fr o=some false∧x=.tup []∧σ'=σ)∨(pwanted ops fr o=some true∧pop tb Γ fr σ o=some (x,σ')))∧Inv Γ ops F S (listed.setIfInBounds k true) (pput fr o.dst x) σ':=by
 obtain⟨hsee,hsto⟩:=hI.sees hord hko hn he;have hwan:pwanted ops fr o=pwanted ops (F k) o:=by
  unfold pwanted;cases hg:o.guard with
  |none=>rfl
  |some jb =>
   obtain⟨j,b⟩:=jb;simp only [];cases hd:(ops[j]?).bind (·.dst) with
   |none=>rfl
   |some d =>
    have:fr[d]?=(F k)[d]?:=hsee d (by simp [looks,hg,hd])
    simp only [Option.bind_some,this]
 have hpop:∀ s,pop tb Γ fr s o=pop tb Γ (F k) s o:=by
  intro s;refine qOX fun x hx=>?_
  cases x with
  |tmp t =>
   have:fr[t]?=(F k)[t]?:=hsee t (by
    simp only [looks,List.mem_append,List.mem_filterMap];exact .inl ⟨_,hx,rfl⟩)
   simp only [ev,List.getD_eq_getElem?_getD,this]
  |const v=>rfl
  |global g=>rfl
  |func f=>rfl
 rcases (ht.at_ k o hko).1 with⟨hw,hx,hS⟩|⟨hw,hp⟩
 ·refine⟨.tup [],σ,.inl ⟨hwan.trans hw,rfl,rfl⟩,?_⟩;have:=hI.next hord ht hko hb hn he (σ':=σ) ⟨fun hwr=>?_,fun _=>rfl⟩
  ·rw [hx] at this;exact this
  ·rw [hS];exact hsto (by simp [qfc,hwr])
 ·cases hr:qfc b Γ o with
  |true =>
   have hs':=hsto hr;have hp':pop tb Γ fr σ o=some (X k,S (k+1)):=by rw [hpop,hs'];exact hp
   refine⟨X k,S (k+1),.inr ⟨hwan.trans hw,hp'⟩,hI.next hord ht hko hb hn he ⟨fun _=>rfl,fun hwf=>?_⟩⟩
   rw [qo8 hwf hp,hs']
  |false =>
   have hwf:writes Γ o=false:=by
    cases hwr:writes Γ o with
    |false=>rfl
    |true=>simp [qfc,hwr] at hr
   have hp':pop tb Γ fr σ o=some (X k,σ):=by
    rw [hpop];cases hr0:reads Γ o with
    |false=>exact qAp hr0 hp σ
    |true =>
     obtain⟨i,hi,rfl⟩:=hI.someS hord;exact hfree k i _ hko hr0 hr hi hp
   refine⟨X k,σ,.inr ⟨hwan.trans hw,hp'⟩,hI.next hord ht hko hb hn he ⟨fun h=>?_,fun _=>rfl⟩⟩
   rw [hwf] at h
   cases h
theorem qKE (n i:Nat):¬ In (Array.replicate n false) i:=by
 unfold In;rw [Array.getD_eq_getD_getElem?];by_cases hi:i < n
 ·simp [Array.getElem?_replicate,hi]
 ·simp [Array.getElem?_replicate,hi]
theorem inv0 {ops:List Oper} {F:Nat→List PV} {S:Nat→Store} {X:Nat→PV} (ht:Trace tb Γ ops ops F S X) (n:Nat):Inv Γ ops F S (Array.replicate n false) (F 0) (S 0) :=
 ⟨rfl,fun j o hj=>absurd hj (qKE n j),fun t i hi hlo hhi=>by
  rw [ht.still (i:=0) (j:=i) (Nat.zero_le _) hi (fun k o _ hk ho hd=>qKE n k (hlo k o hk ho hd))],fun i hi hlo hhi=>by
  rw [ht.stillS (i:=0) (j:=i) (Nat.zero_le _) hi (fun k o _ hk ho=>by
   cases hw:writes Γ o with
   |false=>rfl
   |true=>exact absurd (hlo k o hk ho hw) (qKE n k))]⟩
structure Told (tb:Tab) (Γ:Gam) (ops:Array Oper) (b:Bool) (F:Nat→List PV) (S:Nat→Store) (X:Nat→PV):Prop where
 ord:qds b Γ ops.toList=true
 tr:Trace tb Γ ops.toList ops.toList F S X
 free:∀ (k i:Nat) (o:Oper),ops.toList[k]?=some o→reads Γ o=true→qfc b Γ o=false→i≤ops.size→pop tb Γ (F k) (S k) o=some (X k,S (k+1))→pop tb Γ (F k) (S i) o=some (X k,S i)
theorem qKM {ops:Array Oper} {fr fr':List PV} {σ σ':Store} (h:pops tb Γ ops.toList ops.toList fr σ=some (fr',σ')) (hd:ordered Γ ops.toList=true∨(qds true Γ ops.toList=true∧qgD Γ ops.toList fr' σ.objs.length=true)) :
  ∃ b F S X,Told tb Γ ops b F S X∧F 0=fr∧S 0=σ∧F ops.size=fr'∧S ops.size=σ':=by
 obtain⟨F,S,X,hF,hS,hF',hS',ht⟩:=qpC _ _ _ _ _ h;rcases hd with h1|⟨h1,h2⟩
 ·exact⟨false,F,S,X,⟨h1,ht,fun k i o hk hr hf=>by
   unfold reads at hr;rw [hf] at hr;cases hr⟩,hF,hS,by simpa using hF',by simpa using hS'⟩
 ·refine⟨true,F,S,X,⟨h1,ht,fun k i o hk hr hf hi hp=>qwV ht ?_ k i o hk hr hf (by simpa using hi) hp⟩,hF,hS,by simpa using hF',by simpa using hS'⟩
  rw [hF',hS];exact h2
theorem qKf (hT:qcz P tb) (hΓ:qaU P gl Γ) {ops:Array Oper} {i:Nat} (hi:i+1 < ops.size) (hg:qnF i ops=true)
  {bA bB:Bool} {FA FB:Nat→List PV} {SA SB:Nat→Store} {XA XB:Nat→PV} (hA:Told tb Γ (opsA i ops) bA FA SA XA) (hB:Told tb Γ (opsB i ops) bB FB SB XB)
  (hqA:∀ a' w',St gl H0 w0 (FA ops.size) (SA ops.size) a' w'→Q .normal a' w') (hqB:∀ a' w',St gl H0 w0 (FB ops.size) (SB ops.size) a' w'→Q .normal a' w') :
  ∀ (fuel:Nat) (listed:Array Bool) (fr:List PV) (σ:Store) (a:Act) (w:World),listed.size=ops.size→listed.toList.count false≤fuel→¬ In listed i→¬ In listed (i+1)→Inv Γ (opsA i ops).toList FA SA listed fr σ→Inv Γ (opsB i ops).toList FB SB listed fr σ→St gl H0 w0 fr σ a w→∀ (r:Option Nat) (n:Nat),wpAnyIn (rnd r) n P .any ops Q fuel listed a w:=by
 have dA:∀ (fuel:Nat) (listed:Array Bool) (fr:List PV) (σ:Store) (a:Act) (w:World),listed.size=ops.size→listed.toList.count false≤fuel→Inv Γ (opsA i ops).toList FA SA listed fr σ→St gl H0 w0 fr σ a w→∀ (r:Option Nat) (n:Nat),wpAnyIn (rnd r) n P .any (opsA i ops) Q fuel listed a w :=
  fun fuel listed fr σ a w hs=>qs3 hT hΓ hA.ord hA.tr hA.free (by rw [qCh];exact hqA) fuel listed fr σ a w (by rw [qCh];exact hs)
 have dB:∀ (fuel:Nat) (listed:Array Bool) (fr:List PV) (σ:Store) (a:Act) (w:World),listed.size=ops.size→listed.toList.count false≤fuel→Inv Γ (opsB i ops).toList FB SB listed fr σ→St gl H0 w0 fr σ a w→∀ (r:Option Nat) (n:Nat),wpAnyIn (rnd r) n P .any (opsB i ops) Q fuel listed a w :=
  fun fuel listed fr σ a w hs=>qs3 hT hΓ hB.ord hB.tr hB.free (by rw [qvQ];exact hqB) fuel listed fr σ a w (by rw [qvQ];exact hs)
 have hl0:∀ listed:Array Bool,¬ In listed i→¬ In listed (i+1)→∀ k,In listed (swp i k)↔In listed k:=by
  intro listed h1 h2 k;by_cases e1:k=i
  ·subst e1;simp [swp,h1,h2]
  ·by_cases e2:k=i+1
   ·subst e2;simp [swp,h1,h2]
   ·rw [qwi e1 e2]
 intro fuel
 induction fuel with
 |zero =>
  intro listed fr σ a w hs hc h1 h2 hIA hIB hst;have hb:i < listed.size:=by omega
  have h0:false∉listed.toList:=List.count_eq_zero.1 (by omega)
  unfold In at h1;rw [Array.getD_eq_getD_getElem?,Array.getElem?_eq_getElem hb] at h1;cases hl:listed[i] with
  |true=>simp [hl] at h1
  |false=>exact absurd (by rw [← hl];simp) h0
 |succ fuel ih =>
  intro listed fr σ a w hs hc h1 h2 hIA hIB hst r n;have wA:=dA (fuel+1) listed fr σ a w hs hc hIA hst r n;have wB:=dB (fuel+1) listed fr σ a w hs hc hIB hst r n;have hsub:∀ k,k∈Region.ready .any (opsA i ops) listed→k∈Region.ready .any ops listed:=by
   intro k hk;rw [qeM (by rw [qCh];exact hs)] at hk
   obtain⟨o2,ho2,hn,he⟩:=hk;rw [atA] at ho2;cases ho:ops[k]? with
   |none=>rw [ho] at ho2;cases ho2
   |some o =>
    rw [ho] at ho2;simp only [Option.map_some,Option.some.injEq] at ho2;subst ho2;refine (qeM hs).2 ⟨o,ho,hn,fun e he' hb=>he e ?_ hb⟩
    unfold eA;split
    ·simp only [Array.toList_push,List.mem_append];exact .inl he'
    ·exact he'
  refine⟨fun hnil=>wA.1 (List.eq_nil_iff_forall_not_mem.2 fun k hk=>?_),fun k hk=>?_⟩
  ·have:=hsub k hk;rw [hnil] at this;cases this
  obtain⟨o,ho,hn,he⟩:=(qeM hs).1 hk;have hkl:k < ops.size:=(Array.getElem?_eq_some_iff.1 ho).1;by_cases e1:k=i
  ·subst e1;have hrA:k∈Region.ready .any (opsA k ops) listed:=by
    rw [qeM (by rw [qCh];exact hs),atA,ho]
    refine⟨_,rfl,hn,fun e he' hb=>he e ?_ hb⟩
    unfold eA at he';rw [if_neg (by omega)] at he'
    exact he'
   exact opA k ops _ k a w (wpOpIn_mono (fun a' w' h'=>simA k ops fuel _ a' w' (by simp [hs]) ((qfI (by omega)).2 (.inl rfl)) h') (wA.2 k hrA))
  by_cases e2:k=i+1
  ·subst e2;have hat:=atB hi ho;have hsw:swp i (i+1)=i:=by simp [swp]
   rw [hsw] at hat;have hrB:i∈Region.ready .any (opsB i ops) listed:=by
    rw [qeM (by rw [qvQ];exact hs)]
    refine⟨_,hat,h1,fun e he' hb=>?_⟩
    simp only [eB,Array.toList_append,Array.toList_map,List.mem_append,List.mem_map] at he';rcases he' with⟨e0,he0,rfl⟩|he'
    ·exact (hl0 listed h1 h2 _).2 (he e0 he0 hb)
    ·rw [if_neg (by omega)] at he'
     simp at he'
   refine opB hi hg _ (i+1) a w ?_;rw [hsw];refine wpOpIn_mono (fun a' w' h'=>simB hi hg fuel _ _ a' w' (by simp [hs]) (by simp [hs]) ((qfI (by omega)).2 (.inl rfl)) (fun m=>?_) h') (wB.2 i hrB)
   rw [qfI (by omega),qfI (by omega),hl0 listed h1 h2]
   constructor
   ·rintro (h|h)
    ·exact .inl (by rw [← qDK i m,h];simp [swp])
    ·exact .inr h
   ·rintro (rfl|h)
    ·exact .inl hsw
    ·exact .inr h
  -- another one
  have hoA:(opsA i ops).toList[k]?=some o:=by
   rw [Array.getElem?_toList,atA,ho];simp only [Option.map_some,eA,if_neg e2]
  have hoB:(opsB i ops).toList[k]?=some (eB i k o):=by
   rw [Array.getElem?_toList];have:=atB hi ho
   rwa [qwi e1 e2] at this
  obtain⟨xA,σA,hcA,hIA'⟩:=qFh hA.ord hA.tr (by simpa using hA.free) hIA hoA (by omega) hn he
  obtain⟨xB,σB,hcB,hIB'⟩:=qFh hB.ord hB.tr (by simpa using hB.free) hIB hoB (by omega) hn (fun e he' hb=>by
   simp only [eB,Array.toList_append,Array.toList_map,List.mem_append,List.mem_map] at he';rcases he' with⟨e0,he0,rfl⟩|he'
   ·exact (hl0 listed h1 h2 _).2 (he e0 he0 hb)
   ·rw [if_neg e2] at he';simp at he')
  have hwA:pwanted (opsA i ops).toList fr o=pwanted ops.toList fr o:=by
   unfold pwanted;cases hgd:o.guard with
   |none=>rfl
   |some gb =>
    obtain⟨g,b⟩:=gb;simp only [];have:((opsA i ops).toList[g]?).bind (·.dst)=(ops.toList[g]?).bind (·.dst):=by
     rw [Array.getElem?_toList,Array.getElem?_toList,atA];cases ops[g]? with
     |none=>rfl
     |some y =>
      obtain⟨z,hz⟩:=qPr i g y;simp only [Option.map_some,Option.bind_some,hz]
    rw [this]
  have hwB:pwanted (opsB i ops).toList fr (eB i k o)=pwanted ops.toList fr o:=by
   unfold pwanted;have e:(eB i k o).guard=o.guard:=rfl;rw [e];cases hgd:o.guard with
   |none=>rfl
   |some gb =>
    obtain⟨g,b⟩:=gb;obtain⟨g1,g2⟩:=qwL hg ho hgd;simp only [];have:((opsB i ops).toList[g]?).bind (·.dst)=(ops.toList[g]?).bind (·.dst):=by
     rw [Array.getElem?_toList,Array.getElem?_toList];cases hx:ops[g]? with
     |none =>
      have:(opsB i ops)[g]?=none:=by
       rw [Array.getElem?_eq_none_iff] at hx ⊢;rw [qvQ];exact hx
      rw [this]
     |some y =>
      have:=atB hi hx;rw [qwi g1 g2] at this;rw [this];rfl
    rw [this]
  have hpB:pop tb Γ fr σ (eB i k o)=pop tb Γ fr σ o:=rfl;have hdB:(eB i k o).dst=o.dst:=rfl;rw [hwA] at hcA;rw [hwB,hpB] at hcB;rw [hdB] at hIB';have hcount:(listed.setIfInBounds k true).toList.count false≤fuel:=by
   have hlk:listed[k]?=some false:=by
    have hb:k < listed.size:=by omega
    unfold In at hn;rw [Array.getD_eq_getD_getElem?,Array.getElem?_eq_getElem hb] at hn;rw [Array.getElem?_eq_getElem hb];simpa using hn
   have:=qAU listed.toList k (by rw [Array.getElem?_toList];exact hlk)
   simp only [Array.toList_setIfInBounds];omega
  have hsize:(listed.setIfInBounds k true).size=ops.size:=by simp [hs]
  have n1:¬ In (listed.setIfInBounds k true) i:=by
   rw [qfI (by omega)]
   rintro (h|h)
   ·exact e1 h.symm
   ·exact h1 h
  have n2:¬ In (listed.setIfInBounds k true) (i+1):=by
   rw [qfI (by omega)]
   rintro (h|h)
   ·exact e2 h.symm
   ·exact h2 h
  unfold wpOpIn;simp only [ho];rcases hcA with⟨hw,rfl,rfl⟩|⟨hw,hp⟩
  ·rcases hcB with⟨_,rfl,rfl⟩|⟨hw',_⟩
   ·have hwn:=qiM hst hw;simp only [hwn];exact⟨fun _ _=>trivial,ih _ _ _ _ _ hsize hcount n1 n2 hIA' hIB' (qDm hst _) r n⟩
   ·rw [hw] at hw';cases hw'
  ·rcases hcB with⟨hw',_⟩|⟨_,hp'⟩
   ·rw [hw] at hw';cases hw'
   ·rw [hp] at hp';simp only [Option.some.injEq,Prod.mk.injEq] at hp';obtain⟨rfl,rfl⟩:=hp';have hwn:=qiM hst hw;simp only [hwn,if_true];exact qyc hT hΓ hst hp (fun a' w' hst'=>ih _ _ _ _ _ hsize hcount n1 n2 hIA' hIB' hst' r n) r n
theorem qxu (hT:qcz P tb) (hΓ:qaU P gl Γ) (hm:P.follows .mixedOrders=true) {id i:Nat} {ops:Array Oper} (hi:i+1 < ops.size) (hg:qnF i ops=true) {fr frA frB:List PV} {σ σA σB:Store} {a:Act} {w:World} (hst:St gl H0 w0 fr σ a w)
  (hA:pops tb Γ (opsA i ops).toList (opsA i ops).toList fr σ=some (frA,σA)) (hdA:ordered Γ (opsA i ops).toList=true∨(qds true Γ (opsA i ops).toList=true∧qgD Γ (opsA i ops).toList frA σ.objs.length=true))
  (hB:pops tb Γ (opsB i ops).toList (opsB i ops).toList fr σ=some (frB,σB)) (hdB:ordered Γ (opsB i ops).toList=true∨(qds true Γ (opsB i ops).toList=true∧qgD Γ (opsB i ops).toList frB σ.objs.length=true))
  (hqA:∀ a' w',St gl H0 w0 frA σA a' w'→Q .normal a' w') (hqB:∀ a' w',St gl H0 w0 frB σB a' w'→Q .normal a' w') (r:Option Nat) (n:Nat):(Code.region id ops true).wpIn (rnd r) n P Q a w:=by
 refine wpIn_region_any hm ?_;obtain⟨bA,FA,SA,XA,tA,hFA,hSA,hFA',hSA'⟩:=qKM hA hdA;obtain⟨bB,FB,SB,XB,tB,hFB,hSB,hFB',hSB'⟩:=qKM hB hdB;rw [qCh] at hFA' hSA';rw [qvQ] at hFB' hSB';have iA:=inv0 tA.tr ops.size;have iB:=inv0 tB.tr ops.size;rw [hFA,hSA] at iA;rw [hFB,hSB] at iB;exact qKf hT hΓ hi hg tA tB (by rw [hFA',hSA'];exact hqA) (by rw [hFB',hSB'];exact hqB) ops.size _ fr σ _ _ (by simp) (Nat.le_trans List.count_le_length (by simp)) (qKE _ _) (qKE _ _) iA iB (qMc hst) r n
end
def hasR (id:Nat):Code→Bool
 |.region id' _ draw=>Nat.beq id' id&&draw
 |.seq x y=>hasR id x || hasR id y
 |_=>false
def qkG (id i:Nat) (b:Bool):Code→Code
 |.region id' ops draw=>match Nat.beq id' id&&draw with
  |true=>.region id' (match b with|true=>opsB i ops|false=>opsA i ops) draw
  |false=>.region id' ops draw
 |.seq x y=>match hasR id x with
  |true=>.seq (qkG id i b x) y
  |false=>.seq x (qkG id i b y)
 |c=>c
def qwI (id i:Nat):Code→Bool
 |.region id' ops draw=>!(Nat.beq id' id&&draw) || (Nat.blt (i+1) ops.size&&qnF i ops)
 |.seq x y=>qwI id i x&&qwI id i y
 |_=>true
def qHt (id i:Nat) (b:Bool) (fn:Func):Func:={ fn with body:=fn.body.map (qkG id i b) }
section
variable {P : Program} {tb : Tab} {gl : Gl} {Γ : Gam}
def qP1 (P:Program) (gl:Gl) (c:Code) (fr:List PV) (σ:Store) (O:PExit→List PV→Store→Prop):Prop :=
 ∀ (r:Option Nat) (n:Nat) (H0:Gh) (w0:World),RIn r H0→∀ (Q:Exit→Act→World→Prop) (a:Act) (w:World),St gl H0 w0 fr σ a w→(∀ e fr' σ',O e fr' σ'→∀ a' w',St gl H0 w0 fr' σ' a' w'→Q e.as a' w')→c.wpIn (rnd r) n P Q a w
theorem Does.all {c:Code} {fr:List PV} {σ:Store} {e:PExit} {fr':List PV} {σ':Store} {O:PExit→List PV→Store→Prop} (h:Does P gl c fr σ e fr' σ') (ho:O e fr' σ'):qP1 P gl c fr σ O :=
 fun r n H0 w0 hR Q a w hst hq=>h r n H0 w0 hR Q a w hst (hq _ _ _ ho)
theorem qPa {ops:Array Oper} {fr fr1:List PV} {σ σ1:Store} {id:Nat} {e:PExit} {fr':List PV} {σ':Store} (hd:qbV Γ (.region id ops true)=true) {L:Lps} (h:pexec tb Γ L (.region id ops true) fr σ=some (e,fr',σ')) :
  e=.normal∧pops tb Γ ops.toList ops.toList fr σ=some (fr',σ')∧(ordered Γ ops.toList=true∨(qds true Γ ops.toList=true∧qgD Γ ops.toList fr' σ.objs.length=true)):=by
 simp only [pexec] at h
 split at h
 ·rename_i fr1 σ1 hp;split at h
  ·cases h
  rename_i hna;simp only [Option.some.injEq,Prod.mk.injEq] at h
  obtain⟨rfl,rfl,rfl⟩:=h;refine⟨rfl,hp,?_⟩;simp only [qbV,Bool.not_true,Bool.false_or,Bool.or_eq_true,Bool.and_eq_true] at hd;rcases hd with hd|⟨hd1,hd2⟩
  ·exact .inl hd
  ·cases ho:ordered Γ ops.toList with
   |true=>exact .inl rfl
   |false =>
    refine .inr ⟨hd2,?_⟩;cases hal:qgD Γ ops.toList fr1 σ.objs.length with
    |true=>rfl
    |false=>simp [qMt,hd1,ho,hal] at hna
 ·cases h
theorem qqr (hT:qcz P tb) (hΓ:qaU P gl Γ) (hm:P.follows .mixedOrders=true) {L:Lps} {id i:Nat} {O:PExit→List PV→Store→Prop}:∀ (c:Code) (fr:List PV) (σ:Store) (eA:PExit) (frA:List PV) (σA:Store) (eB:PExit) (frB:List PV) (σB:Store),
  qwI id i c=true→qc7 P gl L c→qbV Γ (qkG id i false c)=true→qbV Γ (qkG id i true c)=true→pexec tb Γ L (qkG id i false c) fr σ=some (eA,frA,σA)→pexec tb Γ L (qkG id i true c) fr σ=some (eB,frB,σB)→O eA frA σA→O eB frB σB→qP1 P gl c fr σ O
 |.region id' ops draw,fr,σ,eA,frA,σA,eB,frB,σB,hp,hL,hdA,hdB,hA,hB,oA,oB=>by
  cases hid:Nat.beq id' id&&draw with
  |false =>
   simp only [qkG,hid] at hdA hA;exact (qbN hT hΓ hm _ fr σ eA frA σA hL hdA hA).all oA
  |true =>
   have hdr:draw=true:=by
    cases draw with
    |true=>rfl
    |false=>simp at hid
   subst hdr;simp only [qkG,hid] at hdA hdB hA hB;simp only [qwI,hid,Bool.not_true,Bool.false_or,Bool.and_eq_true] at hp;obtain⟨rfl,a1,a2⟩:=qPa (fr1:=fr) (σ1:=σ) hdA hA;obtain⟨rfl,b1,b2⟩:=qPa (fr1:=fr) (σ1:=σ) hdB hB;intro r n H0 w0 hR Q a w hst hq;exact qxu hT hΓ hm (by simpa [Nat.blt_eq] using hp.1) hp.2 hst a1 a2 b1 b2 (hq _ _ _ oA) (hq _ _ _ oB) r n
 |.seq x y,fr,σ,eA,frA,σA,eB,frB,σB,hp,hL,hdA,hdB,hA,hB,oA,oB=>by
  simp only [qwI,Bool.and_eq_true] at hp;cases hx:hasR id x with
  |true =>
   simp only [qkG,hx,qbV,Bool.and_eq_true] at hdA hdB;simp only [qkG,hx,pexec] at hA hB;intro r n H0 w0 hR Q a w hst hq;refine wpIn_seq ?_
   -- behind the first part: the second,or out
   have key:∀ (b:Bool) (eX:PExit) (frX:List PV) (σX:Store),(match pexec tb Γ L (qkG id i b x) fr σ with|some (.normal,fr',σ')=>pexec tb Γ L y fr' σ'|r=>r)=some (eX,frX,σX)→O eX frX σX →
     ∃ e1 fr1 σ1,pexec tb Γ L (qkG id i b x) fr σ=some (e1,fr1,σ1)∧∀ a1 w1,St gl H0 w0 fr1 σ1 a1 w1→(match e1.as with|.normal=>y.wpIn (rnd r) n P Q a1 w1|e=>Q e a1 w1):=by
    intro b eX frX σX h ho;split at h
    ·rename_i fr1 σ1 hx1;exact⟨.normal,fr1,σ1,hx1,fun a1 w1 hst1=>qbN hT hΓ hm y fr1 σ1 eX frX σX hL.2 hdA.2 h r n H0 w0 hR _ _ _ hst1 (hq _ _ _ ho)⟩
    ·rename_i hne;refine⟨eX,frX,σX,h,fun a1 w1 hst1=>?_⟩
     cases eX with
     |normal=>exact absurd h (hne _ _)
     |exit id=>exact hq _ _ _ ho _ _ hst1
     |ret=>exact hq _ _ _ ho _ _ hst1
   obtain⟨e1,f1,s1,p1,k1⟩:=key false _ _ _ hA oA;obtain⟨e2,f2,s2,p2,k2⟩:=key true _ _ _ hB oB;refine qqr hT hΓ hm (O:=fun e f s=>(e,f,s)=(e1,f1,s1)∨(e,f,s)=(e2,f2,s2)) x fr σ _ _ _ _ _ _ hp.1 hL.1 hdA.1 hdB.1 p1 p2 (.inl rfl) (.inr rfl) r n H0 w0 hR _ a w hst ?_
   rintro e f s (h|h) a1 w1 hst1
   ·cases h
    have:=k1 a1 w1 hst1;cases e1<;>exact this
   ·cases h
    have:=k2 a1 w1 hst1;cases e2<;>exact this
  |false =>
   simp only [qkG,hx,qbV,Bool.and_eq_true] at hdA hdB;simp only [qkG,hx,pexec] at hA hB;intro r n H0 w0 hR Q a w hst hq;refine wpIn_seq ?_;cases hx1:pexec tb Γ L x fr σ with
   |none=>rw [hx1] at hA;cases hA
   |some t =>
    obtain⟨e1,f1,s1⟩:=t;refine qbN hT hΓ hm x fr σ e1 f1 s1 hL.1 hdA.1 hx1 r n H0 w0 hR _ a w hst fun a1 w1 hst1=>?_
    rw [hx1] at hA hB;cases e1 with
    |normal=>exact qqr hT hΓ hm (O:=O) y f1 s1 _ _ _ _ _ _ hp.2 hL.2 hdA.2 hdB.2 hA hB oA oB r n H0 w0 hR Q a1 w1 hst1 hq
    |exit id =>
     simp only [Option.some.injEq,Prod.mk.injEq] at hA;obtain⟨rfl,rfl,rfl⟩:=hA;exact hq _ _ _ oA _ _ hst1
    |ret =>
     simp only [Option.some.injEq,Prod.mk.injEq] at hA;obtain⟨rfl,rfl,rfl⟩:=hA;exact hq _ _ _ oA _ _ hst1
 |.skip,fr,σ,eA,frA,σA,eB,frB,σB,hp,hL,hdA,hdB,hA,hB,oA,oB=>(qbN hT hΓ hm _ fr σ eA frA σA hL hdA hA).all oA
 |.label _,fr,σ,eA,frA,σA,eB,frB,σB,hp,hL,hdA,hdB,hA,hB,oA,oB=>(qbN hT hΓ hm _ fr σ eA frA σA hL hdA hA).all oA
 |.cond _ _ _,fr,σ,eA,frA,σA,eB,frB,σB,hp,hL,hdA,hdB,hA,hB,oA,oB=>(qbN hT hΓ hm _ fr σ eA frA σA hL hdA hA).all oA
 |.block _ _,fr,σ,eA,frA,σA,eB,frB,σB,hp,hL,hdA,hdB,hA,hB,oA,oB=>(qbN hT hΓ hm _ fr σ eA frA σA hL hdA hA).all oA
 |.loop _,fr,σ,eA,frA,σA,eB,frB,σB,hp,hL,hdA,hdB,hA,hB,oA,oB=>(qbN hT hΓ hm _ fr σ eA frA σA hL hdA hA).all oA
 |.scope _,fr,σ,eA,frA,σA,eB,frB,σB,hp,hL,hdA,hdB,hA,hB,oA,oB=>(qbN hT hΓ hm _ fr σ eA frA σA hL hdA hA).all oA
 |.exit _,fr,σ,eA,frA,σA,eB,frB,σB,hp,hL,hdA,hdB,hA,hB,oA,oB=>(qbN hT hΓ hm _ fr σ eA frA σA hL hdA hA).all oA
 |.rangeFunc _ _ _ _,fr,σ,eA,frA,σA,eB,frB,σB,hp,hL,hdA,hdB,hA,hB,oA,oB=>(qbN hT hΓ hm _ fr σ eA frA σA hL hdA hA).all oA
 |.goto _,fr,σ,eA,frA,σA,eB,frB,σB,hp,hL,hdA,hdB,hA,hB,oA,oB=>(qbN hT hΓ hm _ fr σ eA frA σA hL hdA hA).all oA
 |.refuse _,fr,σ,eA,frA,σA,eB,frB,σB,hp,hL,hdA,hdB,hA,hB,oA,oB=>(qbN hT hΓ hm _ fr σ eA frA σA hL hdA hA).all oA
 |.ret,fr,σ,eA,frA,σA,eB,frB,σB,hp,hL,hdA,hdB,hA,hB,oA,oB=>(qbN hT hΓ hm _ fr σ eA frA σA hL hdA hA).all oA
theorem SimP.of_doesO (hT : qcz P tb) {f : FuncId} {fn : Func} {c : Code} (hf : P.funcs[f]? = some fn) (hb : fn.body = some c) (hn : (fn.name == "runtime.NumGoroutine") = false)
  {F:List PV→Option PV} (h:∀ args x,F args=some x→(∃ H w vs,RelL H w args vs)→∃ O:PExit→List PV→Store→Prop,qP1 P gl c (args++List.replicate (fn.ntmps - args.length) .top) ⟨[],[],[]⟩ O ∧
   ∀ e fr σ,O e fr σ→(e=.normal∨e=.ret)∧∃ xs,presults tb fr σ fn.results.toList=some xs∧pout (xs.map (oview σ.objs))=x):SimP P gl f F where
 ent:=⟨fn,hf,hn,by simp [hb]⟩
 run:=by
  intro args x hx H w vs hB hob htk hgl hrel;obtain⟨O,hdo,hO⟩:=h args x hx ⟨H,w,vs,hrel⟩;refine quJ (r:=none) (n:=0) (callsIn_of_wp_marks hf hb trivial ?_);have hst:St gl { H with K:=w.heap.size } w (args++List.replicate (fn.ntmps - args.length) .top) ⟨[],[],[]⟩ { tmps:=vs.toArray++Array.replicate (fn.ntmps - vs.toArray.size) undef,defers:=[] } w:=by
   refine⟨{ H with K:=w.heap.size },Ev.refl _ w,⟨by show H.B≤_;rw [hB];exact Nat.le_refl _,fun b o e=>⟨by show b < H.B;rw [hB];exact qaC (hgl b o e),hgl b o e⟩,by simp [hob],fun id b cs e=>by simp [hob] at e,fun i j b e=>by simp [hob] at e,by simp [htk],fun t T e=>by simp [htk] at e,fun t u T U e=>by simp [htk] at e,rfl,fun id b T cs e=>by simp [hob] at e⟩,?_,Marks.nil (Nat.le_refl _)⟩
   have hl:=hrel.len;have e:(vs.toArray++Array.replicate (fn.ntmps - vs.toArray.size) undef).toList=vs++List.replicate (fn.ntmps - args.length) undef:=by simp [hl]
   rw [e];refine (hrel.mono (Mono.setK' H w _)).app ?_;have:=RelL.tops (H:={ H with K:=w.heap.size }) (w:=w) (List.replicate (fn.ntmps - args.length) undef)
   simpa using this
  have fin:∀ (fr:List PV) (σ:Store) (a:Act) (w':World) (xs:List PV),St gl { H with K:=w.heap.size } w fr σ a w'→presults tb fr σ fn.results.toList=some xs→pout (xs.map (oview σ.objs))=x →
    LeavesInM (rnd none) 0 P fn a.tmps (fun e w'=>∃ v,e=.returned v∧(Below w.heap.size w w'∧Dr gl w w')∧Rel { H with aux:=fun _ _=>False } w' x v) a.defers .returning w':=by
   intro fr σ a w1 xs hst hxs hx;obtain⟨H',hev1,hok1,hfr1,_,Ds,hds,hnd,hD⟩:=hst;rw [hds];refine qhW (gl:=gl) (H:={ H with K:=w.heap.size }) (H':=H') (w0:=w) (σ:=σ) (by show H.B≤_;rw [hB];exact Nat.le_refl _) hev1.B Ds w1 hev1 hok1 (Ev.refl (gl:=gl) H' w1).mono hnd (fun D hDs=>by have h1:=hD D hDs;rw [hev1.K] at h1;exact h1) ?_
   intro w' hev hok hmo;have hfr:=hfr1.mono hmo;obtain⟨vs',hvs,hrs⟩:=qki hT hok hfr _ _ hxs;have hbel:Below w.heap.size w w':=⟨hev.os,hev.tape,hev.output,hev.size,fun b hlt=>hev.block b (by show b < H.B;rw [hB];exact hlt)⟩
   have hrun:(results fn a.tmps).run P w'=.ok (if h:vs'.toArray.size=1 then vs'.toArray[0] else .tuple vs'.toArray) w':=by
    rw [qqD];simp only [Sem.run_bind,hvs,Result.andThen_ok,Sem.run_pure]
   have back:∀ {y:PV} {u:Value},Rel { { H with K:=w.heap.size } with aux:=fun _ _=>False } w' y u→Rel { H with aux:=fun _ _=>False } w' y u:=fun h=>Rel.mono (Mono.setK { H with aux:=fun _ _=>False } w' w.heap.size) h
   have backL:∀ {y:List PV} {u:List Value},RelL { { H with K:=w.heap.size } with aux:=fun _ _=>False } w' y u→RelL { H with aux:=fun _ _=>False } w' y u:=fun h=>RelL.mono (Mono.setK { H with aux:=fun _ _=>False } w' w.heap.size) h
   refine⟨_,hrun,_,rfl,⟨hbel,hev.dr⟩,?_⟩;subst hx;have hl:=hrs.len;cases hrs with
   |nil =>
    simp only [List.map_nil,pout,qgU];exact .tup [] [] .nil
   |cons y v ys us hy hys =>
    cases hys with
    |nil=>exact back (qts hev hok hob htk hy)
    |cons y2 v2 ys us hy2 hys =>
     have h1:¬ ((v::v2::us).toArray.size=1):=by simp
     rw [dif_neg h1];exact .tup _ _ (backL (qpT hev hok hob htk (.cons _ _ _ _ hy (.cons _ _ _ _ hy2 hys))))
  refine hdo none 0 _ w (RIn.none _) _ _ _ hst fun e fr1 σ1 ho a' w' hst'=>?_
  obtain⟨he,xs,hxs,hpo⟩:=hO e fr1 σ1 ho;rcases he with rfl|rfl
  ·exact fin fr1 σ1 a' w' xs hst' hxs hpo
  ·exact fin fr1 σ1 a' w' xs hst' hxs hpo
theorem qwh {L:Lps} {fn:Func} {c:Code} (hb:fn.body=some c) {args:List PV} {x:PV} (h:pcall tb Γ L fn args=some x):∃ e fr σ,pexec tb Γ L c (args++List.replicate (fn.ntmps - args.length) .top) ⟨[],[],[]⟩=some (e,fr,σ)∧(e=.normal∨e=.ret)∧∃ xs,presults tb fr σ fn.results.toList=some xs∧pout (xs.map (oview σ.objs))=x:=by
 simp only [pcall,hb] at h
 split at h
 ·rename_i fr σ he;obtain⟨xs,hxs,hpo⟩:=qbK h;exact⟨.normal,fr,σ,he,.inl rfl,xs,hxs,hpo⟩
 ·rename_i fr σ he;obtain⟨xs,hxs,hpo⟩:=qbK h;exact⟨.ret,fr,σ,he,.inr rfl,xs,hxs,hpo⟩
 ·cases h
theorem SimP.of_swap {G : GamT} (hT : qcz P tb) (hΓ : qaU P gl (gam G)) (hm : P.follows .mixedOrders = true) (id i : Nat) {f : FuncId} {fn : Func} {c : Code} (hf : P.funcs[f]? = some fn) (hb : fn.body = some c) (hn : (fn.name == "runtime.NumGoroutine") = false)
  (hp:qwI id i c=true) (hdA:qbV (gam G) (qkG id i false c)=true) (hdB:qbV (gam G) (qkG id i true c)=true) {L:LpsT} (hL:qc7 P gl (lps L) c) {F:List PV→Tr PV}
  (h:∀ args x,(F args).run=some x→(tcall tb G L (qHt id i false fn) args).flat.run=some x∧(tcall tb G L (qHt id i true fn) args).flat.run=some x):SimP P gl f fun args=>(F args).run:=by
 refine SimP.of_doesO hT hf hb hn fun args x hx _=>?_
 obtain⟨hA,hB⟩:=h args x hx;have bd:∀ b,(qHt id i b fn).body=some (qkG id i b c):=fun b=>by simp [qHt,hb]
 obtain⟨eA,frA,σA,pA,qA⟩:=qwh (bd false) (qtF (Tr.flat_run hA));obtain⟨eB,frB,σB,pB,qB⟩:=qwh (bd true) (qtF (Tr.flat_run hB));refine⟨fun e fr σ=>(e=.normal∨e=.ret)∧∃ xs,presults tb fr σ fn.results.toList=some xs∧pout (xs.map (oview σ.objs))=x,?_,fun _ _ _ h=>h⟩
 exact qqr hT hΓ hm c _ _ eA frA σA eB frB σB hp hL hdA hdB pA pB qA qB
end
end Go.Pv
set_option maxHeartbeats 4000000
set_option maxRecDepth 200000
set_option linter.unusedSimpArgs false
set_option linter.unusedVariables false
namespace Go.Pv
open Go Go.Proofs
def qzg:GamT:=ofL [(18,.pure qq1),(20,.pure qAF),(26,.pure qCE),(30,.pure qQG)]
theorem qJ4 (gl:Gl) (hg:GlLex gl):qaU Tryz.prog gl (gam qzg):=(qac (qox gl hg) (qac (qxh gl hg) (qac (qJ2 gl hg) (qac (qRp gl hg) qag))))
def qC0:LpsT:=fun r fr σ=>.fail
def qrw:Tr PV:=.ite (qgw [112] [[.int .i64 1,.str [88],.int .i64 0,.int .i64 0,.str []]] [[.int .i64 2,.str [113],.sl [[.int .i64 1,.str [88],.int .i64 0,.int .i64 0,.str []],[.int .i64 3,.str [],.int .i64 0,.int .i64 0,.str []]] .non,.int .i64 0,.int .i64 0,.str [],.int .i64 0,.int .i64 0,.str [],.int .i64 0,.str [],.int .i64 0,.int .i64 0,.str []],[.int .i64 3,.str [],.sl [] .non,.int .i64 2,.int .i64 1,.str [88],.int .i64 0,.int .i64 0,.str [],.int .i64 2,.str [],.int .i64 1,.int .i64 (-3),.str []]]) (.ite (qlD [103,111] [[.str [88],.int .i64 1]] [[.bool true,.str [112],.sl [[.int .i64 1,.str [88],.int .i64 0,.int .i64 0,.str []]] .non]]) (.ite (iEq (qj0 [112] [[.int .i64 1,.str [88],.int .i64 0,.int .i64 0,.str []]] [[.int .i64 2,.str [113],.sl [[.int .i64 1,.str [88],.int .i64 0,.int .i64 0,.str []],[.int .i64 3,.str [],.int .i64 0,.int .i64 0,.str []]] .non,.int .i64 0,.int .i64 0,.str [],.int .i64 0,.int .i64 0,.str [],.int .i64 0,.str [],.int .i64 0,.int .i64 0,.str []],[.int .i64 3,.str [],.sl [] .non,.int .i64 2,.int .i64 1,.str [88],.int .i64 0,.int .i64 0,.str [],.int .i64 2,.str [],.int .i64 1,.int .i64 (-3),.str []]]) 0) (.ite (sEq (qko [112] [[.int .i64 1,.str [88],.int .i64 0,.int .i64 0,.str []]] [[.int .i64 2,.str [113],.sl [[.int .i64 1,.str [88],.int .i64 0,.int .i64 0,.str []],[.int .i64 3,.str [],.int .i64 0,.int .i64 0,.str []]] .non,.int .i64 0,.int .i64 0,.str [],.int .i64 0,.int .i64 0,.str [],.int .i64 0,.str [],.int .i64 0,.int .i64 0,.str []],[.int .i64 3,.str [],.sl [] .non,.int .i64 2,.int .i64 1,.str [88],.int .i64 0,.int .i64 0,.str [],.int .i64 2,.str [],.int .i64 1,.int .i64 (-3),.str []]]) [112,40,88,41,32,58,45,32,110,111,116,32,113,40,88,44,32,95,41,44,32,88,32,33,61,32,45,51,46]) (.ite (iEq (qy9 [103,111] [[.str [88],.int .i64 1]] [[.bool true,.str [112],.sl [[.int .i64 1,.str [88],.int .i64 0,.int .i64 0,.str []]] .non]]) 0) (.ite (sEq
 (qxl [103,111] [[.str [88],.int .i64 1]] [[.bool true,.str [112],.sl [[.int .i64 1,.str [88],.int .i64 0,.int .i64 0,.str []]] .non]]) [111,110,32,103,111,40,88,32,105,110,116,41,58,32,43,112,40,88,41,46]) (.ite (qet [110,111,116]) (.ite (bNot (qgC [110,111,116])) (.ite (qia [65,98]) (.ret (.bool (qoh [65,98]))) .fail) (.ret (.bool false))) .fail) (.ret (.bool false))) (.ret (.bool false))) (.ret (.bool false))) (.ret (.bool false))) .fail) .fail
theorem qRR:(tcall tbT qzg qC0 (qHt 2 7 false Tryz.f22) []).flat=qrw:=by kernel_rfl
theorem qNK:(tcall tbT qzg qC0 (qHt 2 7 true Tryz.f22) []).flat=qrw:=by kernel_rfl
def qxc:Option PV:=(qrw).run
def qp1:Bool:=(qcb (gVal (qxc)))
def qoI:Bool:=isW (qxc) (.bool (qp1))
def qBE:List PV→Tr PV|[]=>.ite (qoI) (.ret (.bool (qp1))) (.fail)|_=>.fail
theorem qIa (gl:Gl) (hg:GlLex gl):SimP Tryz.prog gl 22 fun args=>(qBE args).run:=by
 refine SimP.of_swap (G:=qzg) (L:=qC0) qat (qJ4 gl hg ) qah 2 7 Tryz.func22 rfl (by rfl) (by kernel_rfl) (by kernel_rfl) (by kernel_rfl) (qae (by kernel_rfl)) ?_
 intro args x h;unfold qBE at h
 split at h
 ·have h:=(qai h fun h=>by cases h)
  exact⟨(congrArg Tr.run (qRR)).trans h,(congrArg Tr.run (qNK)).trans h⟩
 ·cases h
def qxC:GamT:=ofL [(22,.pure qBE),(35,.pure qqc),(36,.pure qqo),(37,.pure qqU)]
theorem qGW (gl:Gl) (hg:GlLex gl):qaU Tryz.prog gl (gam qxC):=(qac (qIa gl hg) (qac (qAI gl) (qac (qzP gl hg) (qac (qAP gl) qag))))
def qFM:LpsT:=fun r fr σ=>.fail
def qug (p_:qR) (p_2:qR) (p_3:qR):Tr PV:=.ite (qen (qaa p_) (qaa p_2) (qaa p_3)) (.ite (qfh (qaa (qcJ (qaa p_) (qaa p_2) (qaa p_3))) (qaa (qcn (qaa p_) (qaa p_2) (qaa p_3))) (qaa (qco (qaa p_) (qaa p_2) (qaa p_3)))) (.ite (qe7 (qaa (qcJ (qaa p_) (qaa p_2) (qaa p_3))) (qaa (qcn (qaa p_) (qaa p_2) (qaa p_3))) (qaa (qco (qaa p_) (qaa p_2) (qaa p_3)))) (.ite (sEq (qfM (qaa (qcJ (qaa p_) (qaa p_2) (qaa p_3))) (qaa (qcn (qaa p_) (qaa p_2) (qaa p_3))) (qaa (qco (qaa p_) (qaa p_2) (qaa p_3)))) (qfR (qaa (qcJ (qaa p_) (qaa p_2) (qaa p_3))) (qaa (qcn (qaa p_) (qaa p_2) (qaa p_3))) (qaa (qco (qaa p_) (qaa p_2) (qaa p_3))))) (.ite (iEq (qgd (qaa (qcJ (qaa p_) (qaa p_2) (qaa p_3))) (qaa (qcn (qaa p_) (qaa p_2) (qaa p_3))) (qaa (qco (qaa p_) (qaa p_2) (qaa p_3)))) (qf4 (qaa (qcJ (qaa p_) (qaa p_2) (qaa p_3))) (qaa (qcn (qaa p_) (qaa p_2) (qaa p_3))) (qaa (qco (qaa p_) (qaa p_2) (qaa p_3))))) (.ite qoI (.ret (.bool qp1)) .fail) (.ret (.bool false))) (.ret (.bool false))) .fail) .fail) .fail
theorem qOa (p_:qR) (p_2:qR) (p_3:qR):(tcall tbT qxC qFM Tryz.f6 [.agg [.sl p_ .non,.sl p_2 .non,.sl p_3 .non]]).flat=qug p_ p_2 p_3:=by kernel_rfl
def qsm (p_:qR) (p_2:qR) (p_3:qR):Option PV:=(qug p_ p_2 p_3).run
def qsi (p_:qR) (p_2:qR) (p_3:qR):Bool:=(qcb (gVal (qsm p_ p_2 p_3)))
def qpU (p_:qR) (p_2:qR) (p_3:qR):Bool:=isW (qsm p_ p_2 p_3) (.bool (qsi p_ p_2 p_3))
def qpn:List PV→Tr PV|[.agg [.sl p_ .non,.sl p_2 .non,.sl p_3 .non]]=>.ite (qpU p_ p_2 p_3) (.ret (.bool (qsi p_ p_2 p_3))) (.fail)|_=>.fail
theorem qHh (gl:Gl) (hg:GlLex gl):SimP Tryz.prog gl 6 fun args=>(qpn args).run:=by
 refine SimP.of_flat (G:=qxC) (L:=qFM) qat (qGW gl hg ) qah  Tryz.func6 rfl (by rfl) (by kernel_rfl) (qae (by kernel_rfl)) ?_
 intro args x h;unfold qpn at h
 split at h
 ·exact (congrArg Tr.run (qOa _ _ _)).trans (qai h fun h=>by cases h)
 ·cases h
end Go.Pv
set_option maxHeartbeats 8000000
set_option maxRecDepth 200000
set_option linter.unusedSimpArgs false
set_option linter.unusedVariables false
namespace Go.Pv
open Go Go.Proofs Go.RowKit
def cutT (s:Txt):Txt:=s.take 300
def cpTm (t:Tm):Tm:=(t.1,cutT t.2.1,t.2.2.1,t.2.2.2.1,cutT t.2.2.2.2)
def cpAt (a:At):At:=(cutT a.1,(a.2.take 12).map cpTm)
def cpLi (l:Li):Li:=(l.1,cpAt l.2.1,l.2.2.1,cpTm l.2.2.2.1,cpTm l.2.2.2.2)
def cpRu (r:Ru):Ru:=(cpAt r.1,(r.2.take 8).map cpLi)
def cpDe (d:De):De:=(cutT d.1,d.2.1,d.2.2.take 12)
def cpPa (p:Pa):Pa:=(cutT p.1,p.2)
def cpAc (a:Ac):Ac:=(a.1,cpAt a.2)
def cpEn (o:En):En:=(cutT o.1,(o.2.1.take 12).map cpPa,(o.2.2.take 8).map cpAc)
theorem qPd (s:Txt):tx_W s=some (.str (cutT s)):=by
 unfold tx_W qRQ cutT;by_cases h:(300:Int) < s.length
 ·have h2:300≤s.length:=by omega
  have h3:(300:Int)≤s.length:=by omega
  simp [h,h2,h3]
 ·have:s.take 300=s:=List.take_of_length_le (by omega)
  simp [h,this]
@[simp] theorem qS1 (s:Txt):qo0 s=true:=by simp [qo0,tx_s,qPd]
@[simp] theorem tx_v (s:Txt):tx_s s=cutT s:=by simp [tx_s,qPd]
theorem qiC (k:Int) (b:Txt) (c n:Int) (s:Txt):qkR k b c n s=some (.agg [.int .i64 k,.str (cutT b),.int .i64 c,.int .i64 n,.str (cutT s)]):=by
 unfold qkR qyh;simp
@[simp] theorem tterm_is (k:Int) (b:Txt) (c n:Int) (s:Txt):qey k b c n s=true:=by simp only [qey,qe5,qdn,qdq,qeZ,qdu,qiC];simp
@[simp] theorem tterm_v0 (k:Int) (b:Txt) (c n:Int) (s:Txt):qe5 k b c n s=k:=by simp only [qey,qe5,qdn,qdq,qeZ,qdu,qiC];simp
@[simp] theorem tterm_v1 (k:Int) (b:Txt) (c n:Int) (s:Txt):qeZ k b c n s=cutT b:=by simp only [qey,qe5,qdn,qdq,qeZ,qdu,qiC];simp
@[simp] theorem tterm_v2 (k:Int) (b:Txt) (c n:Int) (s:Txt):qdn k b c n s=c:=by simp only [qey,qe5,qdn,qdq,qeZ,qdu,qiC];simp
@[simp] theorem tterm_v3 (k:Int) (b:Txt) (c n:Int) (s:Txt):qdq k b c n s=n:=by simp only [qey,qe5,qdn,qdq,qeZ,qdu,qiC];simp
@[simp] theorem tterm_v4 (k:Int) (b:Txt) (c n:Int) (s:Txt):qdu k b c n s=cutT s:=by simp only [qey,qe5,qdn,qdq,qeZ,qdu,qiC];simp
theorem qvv {n m:Nat}:min n m≤n:=Nat.min_le_left _ _
theorem qjC {α:Type} (l:List α) (m:Nat):l.take (min l.length m)=l.take m:=by
 by_cases h:l.length≤m
 ·rw [Nat.min_eq_left h,List.take_length,List.take_of_length_le h]
 ·rw [Nat.min_eq_right (by omega)]
theorem qD5 (s s2 s3:Txt) (r2:qR) (l:List Tm):qgg [.ptr 0 0,.ptr 1 0,.ptr 2 0,.int .i64 0] ⟨[[.str s,.sl (rOf cM l) .non],[.str s2,.sl r2 .full],[.str s3,.sl [] (.tok 0)]],[(0,5,27)],[31,31,31]⟩=some (.exit 0,[.ptr 1 0,.ptr 2 0],⟨[[.str s,.sl (rOf cM l) .non],[.str s2,.sl r2 .full],[.str s3,.sl (rOf cM ((l.take 12).map cpTm)) (.tok 0)]],[((min l.length 12),5,27)],[31,31,31]⟩):=by
 have hl:=qjK (l:=l) (min l.length 12) qvv (V:=fun i b=>qgg [.ptr 0 0,.ptr 1 0,.ptr 2 0,.int .i64 (i:Nat)] ⟨[[.str s,.sl (rOf cM l) .non],[.str s2,.sl r2 .full],[.str s3,.sl (rOf cM b) (.tok 0)]],[(b.length,5,27)],[31,31,31]⟩) cpTm (fun b=>some (.exit 0,[.ptr 1 0,.ptr 2 0],⟨[[.str s,.sl (rOf cM l) .non],[.str s2,.sl r2 .full],[.str s3,.sl (rOf cM b) (.tok 0)]],[(b.length,5,27)],[31,31,31]⟩)) ?_ ?_
 ·rw [qjC] at hl;rw [show min l.length 12=((l.take 12).map cpTm).length by rw [List.length_map,List.length_take];omega]
  exact hl
 ·intro i b a hb hi hn ha;have q1:iLt (i:Int) (xLen (rOf cM l))=true:=by simp;omega
  have q2:iLt (i:Int) 12=true:=by simp;omega
  have q3:qav (i:Int)=true:=by simp
  have q4:qa3 [PV.int .i64 0,.str [],.int .i64 0,.int .i64 0,.str []] (rOf cM l) (nNat (i:Int))=true:=by simp;omega
  have w:=qaZ (i:=i) (by omega)
  have o1:∀ c,qaI (rOf cM b) [c] 56=true:=fun c=>by simp;omega
  have o3:qaB (rOf cM b) 5=true:=qKz _;have o4:nEq b.length (nXs (rOf cM b))=true:=by simp
  have x0:xInt (rOf cM l) (nNat (i:Int)) 0=a.1:=by simp [hi,ha]
  have x1:xStr (rOf cM l) (nNat (i:Int)) 1=a.2.1:=by simp [hi,ha]
  have x2:xInt (rOf cM l) (nNat (i:Int)) 2=a.2.2.1:=by simp [hi,ha]
  have x3:xInt (rOf cM l) (nNat (i:Int)) 3=a.2.2.2.1:=by simp [hi,ha]
  have x4:xStr (rOf cM l) (nNat (i:Int)) 4=a.2.2.2.2:=by simp [hi,ha]
  show qgg [.ptr 0 0,.ptr 1 0,.ptr 2 0,.int .i64 (i:Nat)] ⟨[[.str s,.sl (rOf cM l) .non],[.str s2,.sl r2 .full],[.str s3,.sl (rOf cM b) (.tok 0)]],[(b.length,5,27)],[31,31,31]⟩=qgg [.ptr 0 0,.ptr 1 0,.ptr 2 0,.int .i64 ((i+1:Nat):Int)] ⟨[[.str s,.sl (rOf cM l) .non],[.str s2,.sl r2 .full],[.str s3,.sl (rOf cM (b++[cpTm a])) (.tok 0)]],[((b++[cpTm a]).length,5,27)],[31,31,31]⟩
  rw [qEI];simp only [qln,q1,q2,q3,q4,o1,o3,o4,w,x0,x1,x2,x3,x4,qkV,qau];simp [one,qPJ,cpTm]
 ·intro b hb;have q:iLt ((min l.length 12:Nat):Int) (xLen (rOf cM l))=false∨iLt ((min l.length 12:Nat):Int) 12=false:=by
   by_cases h:l.length≤12
   ·left;simp;omega
   ·right;simp;omega
  show qgg [.ptr 0 0,.ptr 1 0,.ptr 2 0,.int .i64 ((min l.length 12:Nat):Int)] ⟨[[.str s,.sl (rOf cM l) .non],[.str s2,.sl r2 .full],[.str s3,.sl (rOf cM b) (.tok 0)]],[(b.length,5,27)],[31,31,31]⟩=_
  rw [qEI];rcases q with q|q
  ·simp only [qln,q];simp
  ·cases q2:iLt ((min l.length 12:Nat):Int) (xLen (rOf cM l))<;>(simp only [qln,q,q2];simp)
theorem qt1 (a:At):quy a.1 (rOf cM a.2)=some (.agg [.str (cpAt a).1,.sl (rOf cM (cpAt a).2) .non]):=by
 have h:=qD5 a.1 [] (cutT a.1) [] a.2;have h':qgN 0 a.1 (rOf cM a.2) [] [] (cutT a.1) [] 0=_:=h;unfold quy qzr;simp only [qS1,tx_v,qqE,qxi,qxy,quL,qop,qxX,qs6,qpE,h'];simp [cpAt]
@[simp] theorem qNj (a:Txt) (l:List Tm):qgu a (rOf cM l)=true:=by simp only [qgu,qe2,qeW,qt1 (a,l)];simp
@[simp] theorem qMO (a:Txt) (l:List Tm):qeW a (rOf cM l)=cutT a:=by simp only [qgu,qe2,qeW,qt1 (a,l)];simp [cpAt]
@[simp] theorem qN2 (a:Txt) (l:List Tm):qe2 a (rOf cM l)=rOf cM ((l.take 12).map cpTm):=by simp only [qgu,qe2,qeW,qt1 (a,l)];simp [cpAt]
theorem qbM (l:Li):qbX l.1 l.2.1.1 (rOf cM l.2.1.2) l.2.2.1 l.2.2.2.1.1 l.2.2.2.1.2.1 l.2.2.2.1.2.2.1 l.2.2.2.1.2.2.2.1 l.2.2.2.1.2.2.2.2 l.2.2.2.2.1 l.2.2.2.2.2.1 l.2.2.2.2.2.2.1 l.2.2.2.2.2.2.2.1 l.2.2.2.2.2.2.2.2=some (.agg [.int .i64 (cpLi l).1,.str (cpLi l).2.1.1,.sl (rOf cM (cpLi l).2.1.2) .non,.int .i64 (cpLi l).2.2.1,.int .i64 (cpLi l).2.2.2.1.1,.str (cpLi l).2.2.2.1.2.1,.int .i64 (cpLi l).2.2.2.1.2.2.1,.int .i64 (cpLi l).2.2.2.1.2.2.2.1,.str (cpLi l).2.2.2.1.2.2.2.2,.int .i64 (cpLi l).2.2.2.2.1,.str (cpLi l).2.2.2.2.2.1,.int .i64 (cpLi l).2.2.2.2.2.2.1,.int .i64 (cpLi l).2.2.2.2.2.2.2.1,.str (cpLi l).2.2.2.2.2.2.2.2]):=by
 unfold qbX qnW;simp [cpLi,cpAt,cpTm]
@[simp] theorem tliteral_is (a0:Int) (a1:Txt) (a2:List Tm) (a3 a4:Int) (a5:Txt) (a6 a7:Int) (a8:Txt) (a9:Int) (a10:Txt) (a11 a12:Int) (a13:Txt):qbl a0 a1 (rOf cM a2) a3 a4 a5 a6 a7 a8 a9 a10 a11 a12 a13=true:=by simp only [qbl,qby,qbb,qbc,qa7,qa4,qa5,qa6,qbd,qbA,qbz,qbe,qba,qa8,qa9,qbM (a0,(a1,a2),a3,(a4,a5,a6,a7,a8),(a9,a10,a11,a12,a13))];simp
@[simp] theorem tliteral_v0 (a0:Int) (a1:Txt) (a2:List Tm) (a3 a4:Int) (a5:Txt) (a6 a7:Int) (a8:Txt) (a9:Int) (a10:Txt) (a11 a12:Int) (a13:Txt):qby a0 a1 (rOf cM a2) a3 a4 a5 a6 a7 a8 a9 a10 a11 a12 a13=(cpLi (a0,(a1,a2),a3,(a4,a5,a6,a7,a8),(a9,a10,a11,a12,a13))).1:=by simp only [qbl,qby,qbb,qbc,qa7,qa4,qa5,qa6,qbd,qbA,qbz,qbe,qba,qa8,qa9,qbM (a0,(a1,a2),a3,(a4,a5,a6,a7,a8),(a9,a10,a11,a12,a13))];simp
@[simp] theorem tliteral_v1 (a0:Int) (a1:Txt) (a2:List Tm) (a3 a4:Int) (a5:Txt) (a6 a7:Int) (a8:Txt) (a9:Int) (a10:Txt) (a11 a12:Int) (a13:Txt):qbz a0 a1 (rOf cM a2) a3 a4 a5 a6 a7 a8 a9 a10 a11 a12 a13=(cpLi (a0,(a1,a2),a3,(a4,a5,a6,a7,a8),(a9,a10,a11,a12,a13))).2.1.1:=by simp only [qbl,qby,qbb,qbc,qa7,qa4,qa5,qa6,qbd,qbA,qbz,qbe,qba,qa8,qa9,qbM (a0,(a1,a2),a3,(a4,a5,a6,a7,a8),(a9,a10,a11,a12,a13))];simp
@[simp] theorem tliteral_v2 (a0:Int) (a1:Txt) (a2:List Tm) (a3 a4:Int) (a5:Txt) (a6 a7:Int) (a8:Txt) (a9:Int) (a10:Txt) (a11 a12:Int) (a13:Txt):qbA a0 a1 (rOf cM a2) a3 a4 a5 a6 a7 a8 a9 a10 a11 a12 a13=rOf cM (cpLi (a0,(a1,a2),a3,(a4,a5,a6,a7,a8),(a9,a10,a11,a12,a13))).2.1.2:=by simp only [qbl,qby,qbb,qbc,qa7,qa4,qa5,qa6,qbd,qbA,qbz,qbe,qba,qa8,qa9,qbM (a0,(a1,a2),a3,(a4,a5,a6,a7,a8),(a9,a10,a11,a12,a13))];simp
@[simp] theorem tliteral_v3 (a0:Int) (a1:Txt) (a2:List Tm) (a3 a4:Int) (a5:Txt) (a6 a7:Int) (a8:Txt) (a9:Int) (a10:Txt) (a11 a12:Int) (a13:Txt):qbb a0 a1 (rOf cM a2) a3 a4 a5 a6 a7 a8 a9 a10 a11 a12 a13=(cpLi (a0,(a1,a2),a3,(a4,a5,a6,a7,a8),(a9,a10,a11,a12,a13))).2.2.1:=by simp only [qbl,qby,qbb,qbc,qa7,qa4,qa5,qa6,qbd,qbA,qbz,qbe,qba,qa8,qa9,qbM (a0,(a1,a2),a3,(a4,a5,a6,a7,a8),(a9,a10,a11,a12,a13))];simp
@[simp] theorem tliteral_v4 (a0:Int) (a1:Txt) (a2:List Tm) (a3 a4:Int) (a5:Txt) (a6 a7:Int) (a8:Txt) (a9:Int) (a10:Txt) (a11 a12:Int) (a13:Txt):qbc a0 a1 (rOf cM a2) a3 a4 a5 a6 a7 a8 a9 a10 a11 a12 a13=(cpLi (a0,(a1,a2),a3,(a4,a5,a6,a7,a8),(a9,a10,a11,a12,a13))).2.2.2.1.1:=by simp only [qbl,qby,qbb,qbc,qa7,qa4,qa5,qa6,qbd,qbA,qbz,qbe,qba,qa8,qa9,qbM (a0,(a1,a2),a3,(a4,a5,a6,a7,a8),(a9,a10,a11,a12,a13))];simp
@[simp] theorem tliteral_v5 (a0:Int) (a1:Txt) (a2:List Tm) (a3 a4:Int) (a5:Txt) (a6 a7:Int) (a8:Txt) (a9:Int) (a10:Txt) (a11 a12:Int) (a13:Txt):qbe a0 a1 (rOf cM a2) a3 a4 a5 a6 a7 a8 a9 a10 a11 a12 a13=(cpLi (a0,(a1,a2),a3,(a4,a5,a6,a7,a8),(a9,a10,a11,a12,a13))).2.2.2.1.2.1:=by simp only [qbl,qby,qbb,qbc,qa7,qa4,qa5,qa6,qbd,qbA,qbz,qbe,qba,qa8,qa9,qbM (a0,(a1,a2),a3,(a4,a5,a6,a7,a8),(a9,a10,a11,a12,a13))];simp
@[simp] theorem tliteral_v6 (a0:Int) (a1:Txt) (a2:List Tm) (a3 a4:Int) (a5:Txt) (a6 a7:Int) (a8:Txt) (a9:Int) (a10:Txt) (a11 a12:Int) (a13:Txt):qa7 a0 a1 (rOf cM a2) a3 a4 a5 a6 a7 a8 a9 a10 a11 a12 a13=(cpLi (a0,(a1,a2),a3,(a4,a5,a6,a7,a8),(a9,a10,a11,a12,a13))).2.2.2.1.2.2.1:=by simp only [qbl,qby,qbb,qbc,qa7,qa4,qa5,qa6,qbd,qbA,qbz,qbe,qba,qa8,qa9,qbM (a0,(a1,a2),a3,(a4,a5,a6,a7,a8),(a9,a10,a11,a12,a13))];simp
@[simp] theorem tliteral_v7 (a0:Int) (a1:Txt) (a2:List Tm) (a3 a4:Int) (a5:Txt) (a6 a7:Int) (a8:Txt) (a9:Int) (a10:Txt) (a11 a12:Int) (a13:Txt):qa4 a0 a1 (rOf cM a2) a3 a4 a5 a6 a7 a8 a9 a10 a11 a12 a13=(cpLi (a0,(a1,a2),a3,(a4,a5,a6,a7,a8),(a9,a10,a11,a12,a13))).2.2.2.1.2.2.2.1:=by simp only [qbl,qby,qbb,qbc,qa7,qa4,qa5,qa6,qbd,qbA,qbz,qbe,qba,qa8,qa9,qbM (a0,(a1,a2),a3,(a4,a5,a6,a7,a8),(a9,a10,a11,a12,a13))];simp
@[simp] theorem tliteral_v8 (a0:Int) (a1:Txt) (a2:List Tm) (a3 a4:Int) (a5:Txt) (a6 a7:Int) (a8:Txt) (a9:Int) (a10:Txt) (a11 a12:Int) (a13:Txt):qba a0 a1 (rOf cM a2) a3 a4 a5 a6 a7 a8 a9 a10 a11 a12 a13=(cpLi (a0,(a1,a2),a3,(a4,a5,a6,a7,a8),(a9,a10,a11,a12,a13))).2.2.2.1.2.2.2.2:=by simp only [qbl,qby,qbb,qbc,qa7,qa4,qa5,qa6,qbd,qbA,qbz,qbe,qba,qa8,qa9,qbM (a0,(a1,a2),a3,(a4,a5,a6,a7,a8),(a9,a10,a11,a12,a13))];simp
@[simp] theorem tliteral_v9 (a0:Int) (a1:Txt) (a2:List Tm) (a3 a4:Int) (a5:Txt) (a6 a7:Int) (a8:Txt) (a9:Int) (a10:Txt) (a11 a12:Int) (a13:Txt):qa5 a0 a1 (rOf cM a2) a3 a4 a5 a6 a7 a8 a9 a10 a11 a12 a13=(cpLi (a0,(a1,a2),a3,(a4,a5,a6,a7,a8),(a9,a10,a11,a12,a13))).2.2.2.2.1:=by simp only [qbl,qby,qbb,qbc,qa7,qa4,qa5,qa6,qbd,qbA,qbz,qbe,qba,qa8,qa9,qbM (a0,(a1,a2),a3,(a4,a5,a6,a7,a8),(a9,a10,a11,a12,a13))];simp
@[simp] theorem tliteral_v10 (a0:Int) (a1:Txt) (a2:List Tm) (a3 a4:Int) (a5:Txt) (a6 a7:Int) (a8:Txt) (a9:Int) (a10:Txt) (a11 a12:Int) (a13:Txt):qa8 a0 a1 (rOf cM a2) a3 a4 a5 a6 a7 a8 a9 a10 a11 a12 a13=(cpLi (a0,(a1,a2),a3,(a4,a5,a6,a7,a8),(a9,a10,a11,a12,a13))).2.2.2.2.2.1:=by simp only [qbl,qby,qbb,qbc,qa7,qa4,qa5,qa6,qbd,qbA,qbz,qbe,qba,qa8,qa9,qbM (a0,(a1,a2),a3,(a4,a5,a6,a7,a8),(a9,a10,a11,a12,a13))];simp
@[simp] theorem tliteral_v11 (a0:Int) (a1:Txt) (a2:List Tm) (a3 a4:Int) (a5:Txt) (a6 a7:Int) (a8:Txt) (a9:Int) (a10:Txt) (a11 a12:Int) (a13:Txt):qa6 a0 a1 (rOf cM a2) a3 a4 a5 a6 a7 a8 a9 a10 a11 a12 a13=(cpLi (a0,(a1,a2),a3,(a4,a5,a6,a7,a8),(a9,a10,a11,a12,a13))).2.2.2.2.2.2.1:=by simp only [qbl,qby,qbb,qbc,qa7,qa4,qa5,qa6,qbd,qbA,qbz,qbe,qba,qa8,qa9,qbM (a0,(a1,a2),a3,(a4,a5,a6,a7,a8),(a9,a10,a11,a12,a13))];simp
@[simp] theorem tliteral_v12 (a0:Int) (a1:Txt) (a2:List Tm) (a3 a4:Int) (a5:Txt) (a6 a7:Int) (a8:Txt) (a9:Int) (a10:Txt) (a11 a12:Int) (a13:Txt):qbd a0 a1 (rOf cM a2) a3 a4 a5 a6 a7 a8 a9 a10 a11 a12 a13=(cpLi (a0,(a1,a2),a3,(a4,a5,a6,a7,a8),(a9,a10,a11,a12,a13))).2.2.2.2.2.2.2.1:=by simp only [qbl,qby,qbb,qbc,qa7,qa4,qa5,qa6,qbd,qbA,qbz,qbe,qba,qa8,qa9,qbM (a0,(a1,a2),a3,(a4,a5,a6,a7,a8),(a9,a10,a11,a12,a13))];simp
@[simp] theorem tliteral_v13 (a0:Int) (a1:Txt) (a2:List Tm) (a3 a4:Int) (a5:Txt) (a6 a7:Int) (a8:Txt) (a9:Int) (a10:Txt) (a11 a12:Int) (a13:Txt):qa9 a0 a1 (rOf cM a2) a3 a4 a5 a6 a7 a8 a9 a10 a11 a12 a13=(cpLi (a0,(a1,a2),a3,(a4,a5,a6,a7,a8),(a9,a10,a11,a12,a13))).2.2.2.2.2.2.2.2:=by simp only [qbl,qby,qbb,qbc,qa7,qa4,qa5,qa6,qbd,qbA,qbz,qbe,qba,qa8,qa9,qbM (a0,(a1,a2),a3,(a4,a5,a6,a7,a8),(a9,a10,a11,a12,a13))];simp
theorem qDb (s s2 s3:Txt) (r r3 r4:qR) (r5:qR) (l:List Li):qgk [.ptr 0 0,.ptr 1 0,.ptr 2 0,.int .i64 0] ⟨[[.str s,.sl r .non,.sl (rOf cL l) .non],[.str s2,.sl r3 .full,.sl r4 .full],[.str s3,.sl r5 .non,.sl [] (.tok 0)]],[(0,14,34)],[48,48,48]⟩=some (.exit 0,[.ptr 1 0,.ptr 2 0],⟨[[.str s,.sl r .non,.sl (rOf cL l) .non],[.str s2,.sl r3 .full,.sl r4 .full],[.str s3,.sl r5 .non,.sl (rOf cL ((l.take 8).map cpLi)) (.tok 0)]],[((min l.length 8),14,34)],[48,48,48]⟩):=by
 have hl:=qjK (l:=l) (min l.length 8) qvv (V:=fun i b=>qgk [.ptr 0 0,.ptr 1 0,.ptr 2 0,.int .i64 (i:Nat)] ⟨[[.str s,.sl r .non,.sl (rOf cL l) .non],[.str s2,.sl r3 .full,.sl r4 .full],[.str s3,.sl r5 .non,.sl (rOf cL b) (.tok 0)]],[(b.length,14,34)],[48,48,48]⟩) cpLi (fun b=>some (.exit 0,[.ptr 1 0,.ptr 2 0],⟨[[.str s,.sl r .non,.sl (rOf cL l) .non],[.str s2,.sl r3 .full,.sl r4 .full],[.str s3,.sl r5 .non,.sl (rOf cL b) (.tok 0)]],[(b.length,14,34)],[48,48,48]⟩)) ?_ ?_
 ·rw [qjC] at hl;rw [show min l.length 8=((l.take 8).map cpLi).length by rw [List.length_map,List.length_take];omega]
  exact hl
 ·intro i b a hb hi hn ha;have q1:iLt (i:Int) (xLen (rOf cL l))=true:=by simp;omega
  have q2:iLt (i:Int) 8=true:=by simp;omega
  have q3:qav (i:Int)=true:=by simp
  have q4:qa3 [PV.int .i64 0,.str [],.sl [] .full,.int .i64 0,.int .i64 0,.str [],.int .i64 0,.int .i64 0,.str [],.int .i64 0,.str [],.int .i64 0,.int .i64 0,.str []] (rOf cL l) (nNat (i:Int))=true:=by simp;omega
  have w:=qaZ (i:=i) (by omega)
  have o1:∀ c,qaI (rOf cL b) [c] 168=true:=fun c=>by simp;omega
  have o3:qaB (rOf cL b) 14=true:=qKv _;have o4:nEq b.length (nXs (rOf cL b))=true:=by simp
  have x0:xInt (rOf cL l) (nNat (i:Int)) 0=a.1:=by simp [hi,ha]
  have x1:xStr (rOf cL l) (nNat (i:Int)) 1=a.2.1.1:=by simp [hi,ha]
  have x2:xRow (rOf cL l) (nNat (i:Int)) 2=rOf cM a.2.1.2:=by simp [hi,ha]
  have x3:xInt (rOf cL l) (nNat (i:Int)) 3=a.2.2.1:=by simp [hi,ha]
  have x4:xInt (rOf cL l) (nNat (i:Int)) 4=a.2.2.2.1.1:=by simp [hi,ha]
  have x5:xStr (rOf cL l) (nNat (i:Int)) 5=a.2.2.2.1.2.1:=by simp [hi,ha]
  have x6:xInt (rOf cL l) (nNat (i:Int)) 6=a.2.2.2.1.2.2.1:=by simp [hi,ha]
  have x7:xInt (rOf cL l) (nNat (i:Int)) 7=a.2.2.2.1.2.2.2.1:=by simp [hi,ha]
  have x8:xStr (rOf cL l) (nNat (i:Int)) 8=a.2.2.2.1.2.2.2.2:=by simp [hi,ha]
  have x9:xInt (rOf cL l) (nNat (i:Int)) 9=a.2.2.2.2.1:=by simp [hi,ha]
  have x10:xStr (rOf cL l) (nNat (i:Int)) 10=a.2.2.2.2.2.1:=by simp [hi,ha]
  have x11:xInt (rOf cL l) (nNat (i:Int)) 11=a.2.2.2.2.2.2.1:=by simp [hi,ha]
  have x12:xInt (rOf cL l) (nNat (i:Int)) 12=a.2.2.2.2.2.2.2.1:=by simp [hi,ha]
  have x13:xStr (rOf cL l) (nNat (i:Int)) 13=a.2.2.2.2.2.2.2.2:=by simp [hi,ha]
  show qgk [.ptr 0 0,.ptr 1 0,.ptr 2 0,.int .i64 (i:Nat)] ⟨[[.str s,.sl r .non,.sl (rOf cL l) .non],[.str s2,.sl r3 .full,.sl r4 .full],[.str s3,.sl r5 .non,.sl (rOf cL b) (.tok 0)]],[(b.length,14,34)],[48,48,48]⟩=qgk [.ptr 0 0,.ptr 1 0,.ptr 2 0,.int .i64 ((i+1:Nat):Int)] ⟨[[.str s,.sl r .non,.sl (rOf cL l) .non],[.str s2,.sl r3 .full,.sl r4 .full],[.str s3,.sl r5 .non,.sl (rOf cL (b++[cpLi a])) (.tok 0)]],[((b++[cpLi a]).length,14,34)],[48,48,48]⟩
  rw [qEv];simp only [qkZ,q1,q2,q3,q4,o1,o3,o4,w,x0,x1,x2,x3,x4,x5,x6,x7,x8,x9,x10,x11,x12,x13,qkV,qau];simp [one,qP2,cpLi]
 ·intro b hb;have q:iLt ((min l.length 8:Nat):Int) (xLen (rOf cL l))=false∨iLt ((min l.length 8:Nat):Int) 8=false:=by
   by_cases h:l.length≤8
   ·left;simp;omega
   ·right;simp;omega
  show qgk [.ptr 0 0,.ptr 1 0,.ptr 2 0,.int .i64 ((min l.length 8:Nat):Int)] ⟨[[.str s,.sl r .non,.sl (rOf cL l) .non],[.str s2,.sl r3 .full,.sl r4 .full],[.str s3,.sl r5 .non,.sl (rOf cL b) (.tok 0)]],[(b.length,14,34)],[48,48,48]⟩=_
  rw [qEv];rcases q with q|q
  ·simp only [qkZ,q];simp
  ·cases q2:iLt ((min l.length 8:Nat):Int) (xLen (rOf cL l))<;>(simp only [qkZ,q,q2];simp)
theorem qoS (x:Ru):qp0 x.1.1 (rOf cM x.1.2) (rOf cL x.2)=some (.agg [.str (cpRu x).1.1,.sl (rOf cM (cpRu x).1.2) .non,.sl (rOf cL (cpRu x).2) .non]):=by
 have h:=qDb x.1.1 [] (cutT x.1.1) (rOf cM x.1.2) [] [] (rOf cM ((x.1.2.take 12).map cpTm)) x.2;have h':qeO 0 x.1.1 (rOf cM x.1.2) (rOf cL x.2) [] [] [] (cutT x.1.1) (rOf cM ((x.1.2.take 12).map cpTm)) [] 0=_:=h;unfold qp0 qyY;simp only [qau,qNj,qMO,qN2,qqC,qyA,qyz,quO,qul,quu,qpq,qod,qyU,qto,qo9,h'];simp [cpRu,cpAt]
@[simp] theorem trule_is (a:Txt) (l:List Tm) (b:List Li):qhn a (rOf cM l) (rOf cL b)=true:=by simp only [qhn,qha,qfE,qhM,qoS ((a,l),b)];simp
@[simp] theorem trule_v0 (a:Txt) (l:List Tm) (b:List Li):qhM a (rOf cM l) (rOf cL b)=cutT a:=by simp only [qhn,qha,qfE,qhM,qoS ((a,l),b)];simp [cpRu,cpAt]
@[simp] theorem trule_v1 (a:Txt) (l:List Tm) (b:List Li):qha a (rOf cM l) (rOf cL b)=rOf cM ((l.take 12).map cpTm):=by simp only [qhn,qha,qfE,qhM,qoS ((a,l),b)];simp [cpRu,cpAt]
@[simp] theorem trule_v2 (a:Txt) (l:List Tm) (b:List Li):qfE a (rOf cM l) (rOf cL b)=rOf cL ((b.take 8).map cpLi):=by simp only [qhn,qha,qfE,qhM,qoS ((a,l),b)];simp [cpRu,cpAt]
theorem qo5 (d:De):qpS d.1 d.2.1 (rOf cI d.2.2)=some (.agg [.str (cpDe d).1,.bool (cpDe d).2.1,.sl (rOf cI (cpDe d).2.2) .non]):=by
 unfold qpS qyT;by_cases h:(12:Int) < d.2.2.length
 ·have h2:12≤d.2.2.length:=by omega
  have h3:(12:Int)≤d.2.2.length:=by omega
  simp [h,h2,h3,cpDe]
 ·have:d.2.2.take 12=d.2.2:=List.take_of_length_le (by omega)
  simp [h,this,cpDe]
@[simp] theorem tdecl_is (a:Txt) (b:Bool) (l:List Int):qhv a b (rOf cI l)=true:=by simp only [qhH,qhv,qg7,qhO,qo5 (a,b,l)];simp
@[simp] theorem tdecl_v0 (a:Txt) (b:Bool) (l:List Int):qhO a b (rOf cI l)=cutT a:=by simp only [qhH,qhv,qg7,qhO,qo5 (a,b,l)];simp [cpDe]
@[simp] theorem tdecl_v1 (a:Txt) (b:Bool) (l:List Int):qhH a b (rOf cI l)=b:=by simp only [qhH,qhv,qg7,qhO,qo5 (a,b,l)];simp [cpDe]
@[simp] theorem tdecl_v2 (a:Txt) (b:Bool) (l:List Int):qg7 a b (rOf cI l)=rOf cI (l.take 12):=by simp only [qhH,qhv,qg7,qhO,qo5 (a,b,l)];simp [cpDe]
theorem qIS (s s2 s3:Txt) (r2 r3 r4 r6:qR) (k2:Nat) (l:List Pa):qm1 [.ptr 0 0,.ptr 1 0,.ptr 2 0,.int .i64 0] ⟨[[.str s,.sl (rOf cP l) .non,.sl r2 .non],[.str s2,.sl r3 .full,.sl r4 .full],[.str s3,.sl [] (.tok 0),.sl r6 (.tok 1)]],[(0,2,101),(k2,3,103)],[55,55,55]⟩=some (.exit 0,[.ptr 0 0,.ptr 1 0,.ptr 2 0],⟨[[.str s,.sl (rOf cP l) .non,.sl r2 .non],[.str s2,.sl r3 .full,.sl r4 .full],[.str s3,.sl (rOf cP ((l.take 12).map cpPa)) (.tok 0),.sl r6 (.tok 1)]],[((min l.length 12),2,101),(k2,3,103)],[55,55,55]⟩):=by
 have hl:=qjK (l:=l) (min l.length 12) qvv (V:=fun i b=>qm1 [.ptr 0 0,.ptr 1 0,.ptr 2 0,.int .i64 (i:Nat)] ⟨[[.str s,.sl (rOf cP l) .non,.sl r2 .non],[.str s2,.sl r3 .full,.sl r4 .full],[.str s3,.sl (rOf cP b) (.tok 0),.sl r6 (.tok 1)]],[(b.length,2,101),(k2,3,103)],[55,55,55]⟩) cpPa (fun b=>some (.exit 0,[.ptr 0 0,.ptr 1 0,.ptr 2 0],⟨[[.str s,.sl (rOf cP l) .non,.sl r2 .non],[.str s2,.sl r3 .full,.sl r4 .full],[.str s3,.sl (rOf cP b) (.tok 0),.sl r6 (.tok 1)]],[(b.length,2,101),(k2,3,103)],[55,55,55]⟩)) ?_ ?_
 ·rw [qjC] at hl;rw [show min l.length 12=((l.take 12).map cpPa).length by rw [List.length_map,List.length_take];omega]
  exact hl
 ·intro i b a hb hi hn ha;have q1:iLt (i:Int) (xLen (rOf cP l))=true:=by simp;omega
  have q2:iLt (i:Int) 12=true:=by simp;omega
  have q3:qav (i:Int)=true:=by simp
  have q4:qa3 [PV.str [],.int .i64 0] (rOf cP l) (nNat (i:Int))=true:=by simp;omega
  have w:=qaZ (i:=i) (by omega)
  have o1:∀ c,qaI (rOf cP b) [c] 24=true:=fun c=>by simp;omega
  have o3:qaB (rOf cP b) 2=true:=qKx _;have o4:nEq b.length (nXs (rOf cP b))=true:=by simp
  have x0:xStr (rOf cP l) (nNat (i:Int)) 0=a.1:=by simp [hi,ha]
  have x1:xInt (rOf cP l) (nNat (i:Int)) 1=a.2:=by simp [hi,ha]
  show qm1 [.ptr 0 0,.ptr 1 0,.ptr 2 0,.int .i64 (i:Nat)] ⟨[[.str s,.sl (rOf cP l) .non,.sl r2 .non],[.str s2,.sl r3 .full,.sl r4 .full],[.str s3,.sl (rOf cP b) (.tok 0),.sl r6 (.tok 1)]],[(b.length,2,101),(k2,3,103)],[55,55,55]⟩=qm1 [.ptr 0 0,.ptr 1 0,.ptr 2 0,.int .i64 ((i+1:Nat):Int)] ⟨[[.str s,.sl (rOf cP l) .non,.sl r2 .non],[.str s2,.sl r3 .full,.sl r4 .full],[.str s3,.sl (rOf cP (b++[cpPa a])) (.tok 0),.sl r6 (.tok 1)]],[((b++[cpPa a]).length,2,101),(k2,3,103)],[55,55,55]⟩
  rw [qOZ];simp only [quC,q1,q2,q3,q4,o1,o3,o4,w,x0,x1,qkV,qau];simp [one,qQC,cpPa]
 ·intro b hb;have q:iLt ((min l.length 12:Nat):Int) (xLen (rOf cP l))=false∨iLt ((min l.length 12:Nat):Int) 12=false:=by
   by_cases h:l.length≤12
   ·left;simp;omega
   ·right;simp;omega
  show qm1 [.ptr 0 0,.ptr 1 0,.ptr 2 0,.int .i64 ((min l.length 12:Nat):Int)] ⟨[[.str s,.sl (rOf cP l) .non,.sl r2 .non],[.str s2,.sl r3 .full,.sl r4 .full],[.str s3,.sl (rOf cP b) (.tok 0),.sl r6 (.tok 1)]],[(b.length,2,101),(k2,3,103)],[55,55,55]⟩=_
  rw [qOZ];rcases q with q|q
  ·simp only [quC,q];simp
  ·cases q2:iLt ((min l.length 12:Nat):Int) (xLen (rOf cP l))<;>(simp only [quC,q,q2];simp)
theorem qLP (s s2 s3:Txt) (r r3 r4 r5:qR) (k:Nat) (l:List Ac):qm0 [.ptr 0 0,.ptr 1 0,.ptr 2 0,.int .i64 0] ⟨[[.str s,.sl r .non,.sl (rOf cAc l) .non],[.str s2,.sl r3 .full,.sl r4 .full],[.str s3,.sl r5 (.tok 0),.sl [] (.tok 1)]],[(k,2,101),(0,3,103)],[55,55,55]⟩=some (.exit 2,[.ptr 1 0,.ptr 2 0],⟨[[.str s,.sl r .non,.sl (rOf cAc l) .non],[.str s2,.sl r3 .full,.sl r4 .full],[.str s3,.sl r5 (.tok 0),.sl (rOf cAc ((l.take 8).map cpAc)) (.tok 1)]],[(k,2,101),((min l.length 8),3,103)],[55,55,55]⟩):=by
 have hl:=qjK (l:=l) (min l.length 8) qvv (V:=fun i b=>qm0 [.ptr 0 0,.ptr 1 0,.ptr 2 0,.int .i64 (i:Nat)] ⟨[[.str s,.sl r .non,.sl (rOf cAc l) .non],[.str s2,.sl r3 .full,.sl r4 .full],[.str s3,.sl r5 (.tok 0),.sl (rOf cAc b) (.tok 1)]],[(k,2,101),(b.length,3,103)],[55,55,55]⟩) cpAc (fun b=>some (.exit 2,[.ptr 1 0,.ptr 2 0],⟨[[.str s,.sl r .non,.sl (rOf cAc l) .non],[.str s2,.sl r3 .full,.sl r4 .full],[.str s3,.sl r5 (.tok 0),.sl (rOf cAc b) (.tok 1)]],[(k,2,101),(b.length,3,103)],[55,55,55]⟩)) ?_ ?_
 ·rw [qjC] at hl;rw [show min l.length 8=((l.take 8).map cpAc).length by rw [List.length_map,List.length_take];omega]
  exact hl
 ·intro i b a hb hi hn ha;have q1:iLt (i:Int) (xLen (rOf cAc l))=true:=by simp;omega
  have q2:iLt (i:Int) 8=true:=by simp;omega
  have q3:qav (i:Int)=true:=by simp
  have q4:qa3 [PV.bool false,.str [],.sl [] .full] (rOf cAc l) (nNat (i:Int))=true:=by simp;omega
  have w:=qaZ (i:=i) (by omega)
  have o1:∀ c,qaI (rOf cAc b) [c] 48=true:=fun c=>by simp;omega
  have o3:qaB (rOf cAc b) 3=true:=qHq _;have o4:nEq b.length (nXs (rOf cAc b))=true:=by simp
  have x0:qcu (rOf cAc l) (nNat (i:Int)) 0=a.1:=by simp [hi,ha]
  have x1:xStr (rOf cAc l) (nNat (i:Int)) 1=a.2.1:=by simp [hi,ha]
  have x2:xRow (rOf cAc l) (nNat (i:Int)) 2=rOf cM a.2.2:=by simp [hi,ha]
  show qm0 [.ptr 0 0,.ptr 1 0,.ptr 2 0,.int .i64 (i:Nat)] ⟨[[.str s,.sl r .non,.sl (rOf cAc l) .non],[.str s2,.sl r3 .full,.sl r4 .full],[.str s3,.sl r5 (.tok 0),.sl (rOf cAc b) (.tok 1)]],[(k,2,101),(b.length,3,103)],[55,55,55]⟩=qm0 [.ptr 0 0,.ptr 1 0,.ptr 2 0,.int .i64 ((i+1:Nat):Int)] ⟨[[.str s,.sl r .non,.sl (rOf cAc l) .non],[.str s2,.sl r3 .full,.sl r4 .full],[.str s3,.sl r5 (.tok 0),.sl (rOf cAc (b++[cpAc a])) (.tok 1)]],[(k,2,101),((b++[cpAc a]).length,3,103)],[55,55,55]⟩
  rw [qOw];simp only [qvw,q1,q2,q3,q4,o1,o3,o4,w,x0,x1,x2,cpAt,qkV,qau];simp [one,qNI,cpAt,cpAc]
 ·intro b hb;have q:iLt ((min l.length 8:Nat):Int) (xLen (rOf cAc l))=false∨iLt ((min l.length 8:Nat):Int) 8=false:=by
   by_cases h:l.length≤8
   ·left;simp;omega
   ·right;simp;omega
  show qm0 [.ptr 0 0,.ptr 1 0,.ptr 2 0,.int .i64 ((min l.length 8:Nat):Int)] ⟨[[.str s,.sl r .non,.sl (rOf cAc l) .non],[.str s2,.sl r3 .full,.sl r4 .full],[.str s3,.sl r5 (.tok 0),.sl (rOf cAc b) (.tok 1)]],[(k,2,101),(b.length,3,103)],[55,55,55]⟩=_
  rw [qOw];rcases q with q|q
  ·simp only [qvw,q];simp
  ·cases q2:iLt ((min l.length 8:Nat):Int) (xLen (rOf cAc l))<;>(simp only [qvw,q,q2];simp)
theorem qyV (o:En):qGf o.1 (rOf cP o.2.1) (rOf cAc o.2.2)=some (.agg [.str (cpEn o).1,.sl (rOf cP (cpEn o).2.1) .non,.sl (rOf cAc (cpEn o).2.2) .non]):=by
 have h:=qIS o.1 [] (cutT o.1) (rOf cAc o.2.2) [] [] [] 0 o.2.1;have h':qi9 0 o.1 (rOf cP o.2.1) (rOf cAc o.2.2) [] [] [] (cutT o.1) [] [] 0 0=_:=h;have g:=qLP o.1 [] (cutT o.1) (rOf cP o.2.1) [] [] (rOf cP ((o.2.1.take 12).map cpPa)) (min o.2.1.length 12) o.2.2;have g':qi7 0 o.1 (rOf cP o.2.1) (rOf cAc o.2.2) [] [] [] (cutT o.1) (rOf cP ((o.2.1.take 12).map cpPa)) [] (min o.2.1.length 12) 0=_:=g;unfold qGf qK1;simp only [qS1,tx_v,qxE,quW,qnp,qt2,qnj,qnL,qns,qny,qnt,qvq,qnV,qn1,h'];simp [-List.map_take];simp only [qyi,qJn,qC3,qLt,qDf,qDQ,qBJ,qw8,qy4,qLq,qBL,qx3,g'];simp [cpEn]
@[simp] theorem ton_is (a:Txt) (l:List Pa) (b:List Ac):qnk a (rOf cP l) (rOf cAc b)=true:=by simp only [qnk,qsZ,qlh,quI,qyV (a,l,b)];simp
@[simp] theorem ton_v0 (a:Txt) (l:List Pa) (b:List Ac):quI a (rOf cP l) (rOf cAc b)=cutT a:=by simp only [qnk,qsZ,qlh,quI,qyV (a,l,b)];simp [cpEn]
@[simp] theorem ton_v1 (a:Txt) (l:List Pa) (b:List Ac):qsZ a (rOf cP l) (rOf cAc b)=rOf cP ((l.take 12).map cpPa):=by simp only [qnk,qsZ,qlh,quI,qyV (a,l,b)];simp [cpEn]
@[simp] theorem ton_v2 (a:Txt) (l:List Pa) (b:List Ac):qlh a (rOf cP l) (rOf cAc b)=rOf cAc ((b.take 8).map cpAc):=by simp only [qnk,qsZ,qlh,quI,qyV (a,l,b)];simp [cpEn]
abbrev Pr:=List De×List En×List Ru
def cpPr (p:Pr):Pr:=((p.1.take 12).map cpDe,(p.2.1.take 8).map cpEn,(p.2.2.take 12).map cpRu)
theorem qvY (r2 r3 r4 r5 r6 r8 r9:qR) (k2 k3:Nat) (l:List De):qc6 [.ptr 0 0,.ptr 1 0,.ptr 2 0,.int .i64 0] ⟨[[.sl (rOf cD l) .non,.sl r2 .non,.sl r3 .non],[.sl r4 .full,.sl r5 .full,.sl r6 .full],[.sl [] (.tok 0),.sl r8 (.tok 1),.sl r9 (.tok 2)]],[(0,3,51),(k2,3,55),(k3,3,48)],[71,71,71]⟩=some (.exit 0,[.ptr 0 0,.ptr 1 0,.ptr 2 0],⟨[[.sl (rOf cD l) .non,.sl r2 .non,.sl r3 .non],[.sl r4 .full,.sl r5 .full,.sl r6 .full],[.sl (rOf cD ((l.take 12).map cpDe)) (.tok 0),.sl r8 (.tok 1),.sl r9 (.tok 2)]],[((min l.length 12),3,51),(k2,3,55),(k3,3,48)],[71,71,71]⟩):=by
 have hl:=qjK (l:=l) (min l.length 12) qvv (V:=fun i b=>qc6 [.ptr 0 0,.ptr 1 0,.ptr 2 0,.int .i64 (i:Nat)] ⟨[[.sl (rOf cD l) .non,.sl r2 .non,.sl r3 .non],[.sl r4 .full,.sl r5 .full,.sl r6 .full],[.sl (rOf cD b) (.tok 0),.sl r8 (.tok 1),.sl r9 (.tok 2)]],[(b.length,3,51),(k2,3,55),(k3,3,48)],[71,71,71]⟩) cpDe (fun b=>some (.exit 0,[.ptr 0 0,.ptr 1 0,.ptr 2 0],⟨[[.sl (rOf cD l) .non,.sl r2 .non,.sl r3 .non],[.sl r4 .full,.sl r5 .full,.sl r6 .full],[.sl (rOf cD b) (.tok 0),.sl r8 (.tok 1),.sl r9 (.tok 2)]],[(b.length,3,51),(k2,3,55),(k3,3,48)],[71,71,71]⟩)) ?_ ?_
 ·rw [qjC] at hl;rw [show min l.length 12=((l.take 12).map cpDe).length by rw [List.length_map,List.length_take];omega]
  exact hl
 ·intro i b a hb hi hn ha;have q1:iLt (i:Int) (xLen (rOf cD l))=true:=by simp;omega
  have q2:iLt (i:Int) 12=true:=by simp;omega
  have q3:qav (i:Int)=true:=by simp
  have q4:qa3 [PV.str [],.bool false,.sl [] .full] (rOf cD l) (nNat (i:Int))=true:=by simp;omega
  have w:=qaZ (i:=i) (by omega)
  have o1:∀ c,qaI (rOf cD b) [c] 48=true:=fun c=>by simp;omega
  have o3:qaB (rOf cD b) 3=true:=qJt _;have o4:nEq b.length (nXs (rOf cD b))=true:=by simp
  have x0:xStr (rOf cD l) (nNat (i:Int)) 0=a.1:=by simp [hi,ha]
  have x1:qcu (rOf cD l) (nNat (i:Int)) 1=a.2.1:=by simp [hi,ha]
  have x2:xRow (rOf cD l) (nNat (i:Int)) 2=rOf cI a.2.2:=by simp [hi,ha]
  show qc6 [.ptr 0 0,.ptr 1 0,.ptr 2 0,.int .i64 (i:Nat)] ⟨[[.sl (rOf cD l) .non,.sl r2 .non,.sl r3 .non],[.sl r4 .full,.sl r5 .full,.sl r6 .full],[.sl (rOf cD b) (.tok 0),.sl r8 (.tok 1),.sl r9 (.tok 2)]],[(b.length,3,51),(k2,3,55),(k3,3,48)],[71,71,71]⟩=qc6 [.ptr 0 0,.ptr 1 0,.ptr 2 0,.int .i64 ((i+1:Nat):Int)] ⟨[[.sl (rOf cD l) .non,.sl r2 .non,.sl r3 .non],[.sl r4 .full,.sl r5 .full,.sl r6 .full],[.sl (rOf cD (b++[cpDe a])) (.tok 0),.sl r8 (.tok 1),.sl r9 (.tok 2)]],[((b++[cpDe a]).length,3,51),(k2,3,55),(k3,3,48)],[71,71,71]⟩
  rw [quG];simp only [qgv,q1,q2,q3,q4,o1,o3,o4,w,x0,x1,x2,qkV,qau];simp [one,qRe,cpDe]
 ·intro b hb;have q:iLt ((min l.length 12:Nat):Int) (xLen (rOf cD l))=false∨iLt ((min l.length 12:Nat):Int) 12=false:=by
   by_cases h:l.length≤12
   ·left;simp;omega
   ·right;simp;omega
  show qc6 [.ptr 0 0,.ptr 1 0,.ptr 2 0,.int .i64 ((min l.length 12:Nat):Int)] ⟨[[.sl (rOf cD l) .non,.sl r2 .non,.sl r3 .non],[.sl r4 .full,.sl r5 .full,.sl r6 .full],[.sl (rOf cD b) (.tok 0),.sl r8 (.tok 1),.sl r9 (.tok 2)]],[(b.length,3,51),(k2,3,55),(k3,3,48)],[71,71,71]⟩=_
  rw [quG];rcases q with q|q
  ·simp only [qgv,q];simp
  ·cases q2:iLt ((min l.length 12:Nat):Int) (xLen (rOf cD l))<;>(simp only [qgv,q,q2];simp)
theorem qvT (r r3 r4 r5 r6 r7 r9:qR) (k1 k3:Nat) (l:List En):qc3 [.ptr 0 0,.ptr 1 0,.ptr 2 0,.int .i64 0] ⟨[[.sl r .non,.sl (rOf cE l) .non,.sl r3 .non],[.sl r4 .full,.sl r5 .full,.sl r6 .full],[.sl r7 (.tok 0),.sl [] (.tok 1),.sl r9 (.tok 2)]],[(k1,3,51),(0,3,55),(k3,3,48)],[71,71,71]⟩=some (.exit 2,[.ptr 0 0,.ptr 1 0,.ptr 2 0],⟨[[.sl r .non,.sl (rOf cE l) .non,.sl r3 .non],[.sl r4 .full,.sl r5 .full,.sl r6 .full],[.sl r7 (.tok 0),.sl (rOf cE ((l.take 8).map cpEn)) (.tok 1),.sl r9 (.tok 2)]],[(k1,3,51),((min l.length 8),3,55),(k3,3,48)],[71,71,71]⟩):=by
 have hl:=qjK (l:=l) (min l.length 8) qvv (V:=fun i b=>qc3 [.ptr 0 0,.ptr 1 0,.ptr 2 0,.int .i64 (i:Nat)] ⟨[[.sl r .non,.sl (rOf cE l) .non,.sl r3 .non],[.sl r4 .full,.sl r5 .full,.sl r6 .full],[.sl r7 (.tok 0),.sl (rOf cE b) (.tok 1),.sl r9 (.tok 2)]],[(k1,3,51),(b.length,3,55),(k3,3,48)],[71,71,71]⟩) cpEn (fun b=>some (.exit 2,[.ptr 0 0,.ptr 1 0,.ptr 2 0],⟨[[.sl r .non,.sl (rOf cE l) .non,.sl r3 .non],[.sl r4 .full,.sl r5 .full,.sl r6 .full],[.sl r7 (.tok 0),.sl (rOf cE b) (.tok 1),.sl r9 (.tok 2)]],[(k1,3,51),(b.length,3,55),(k3,3,48)],[71,71,71]⟩)) ?_ ?_
 ·rw [qjC] at hl;rw [show min l.length 8=((l.take 8).map cpEn).length by rw [List.length_map,List.length_take];omega]
  exact hl
 ·intro i b a hb hi hn ha;have q1:iLt (i:Int) (xLen (rOf cE l))=true:=by simp;omega
  have q2:iLt (i:Int) 8=true:=by simp;omega
  have q3:qav (i:Int)=true:=by simp
  have q4:qa3 [PV.str [],.sl [] .full,.sl [] .full] (rOf cE l) (nNat (i:Int))=true:=by simp;omega
  have w:=qaZ (i:=i) (by omega)
  have o1:∀ c,qaI (rOf cE b) [c] 64=true:=fun c=>by simp;omega
  have o3:qaB (rOf cE b) 3=true:=qLv _;have o4:nEq b.length (nXs (rOf cE b))=true:=by simp
  have x0:xStr (rOf cE l) (nNat (i:Int)) 0=a.1:=by simp [hi,ha]
  have x1:xRow (rOf cE l) (nNat (i:Int)) 1=rOf cP a.2.1:=by simp [hi,ha]
  have x2:xRow (rOf cE l) (nNat (i:Int)) 2=rOf cAc a.2.2:=by simp [hi,ha]
  show qc3 [.ptr 0 0,.ptr 1 0,.ptr 2 0,.int .i64 (i:Nat)] ⟨[[.sl r .non,.sl (rOf cE l) .non,.sl r3 .non],[.sl r4 .full,.sl r5 .full,.sl r6 .full],[.sl r7 (.tok 0),.sl (rOf cE b) (.tok 1),.sl r9 (.tok 2)]],[(k1,3,51),(b.length,3,55),(k3,3,48)],[71,71,71]⟩=qc3 [.ptr 0 0,.ptr 1 0,.ptr 2 0,.int .i64 ((i+1:Nat):Int)] ⟨[[.sl r .non,.sl (rOf cE l) .non,.sl r3 .non],[.sl r4 .full,.sl r5 .full,.sl r6 .full],[.sl r7 (.tok 0),.sl (rOf cE (b++[cpEn a])) (.tok 1),.sl r9 (.tok 2)]],[(k1,3,51),((b++[cpEn a]).length,3,55),(k3,3,48)],[71,71,71]⟩
  rw [qtt];simp only [qgx,q1,q2,q3,q4,o1,o3,o4,w,x0,x1,x2,qkV,qau];simp [one,qPs,cpEn]
 ·intro b hb;have q:iLt ((min l.length 8:Nat):Int) (xLen (rOf cE l))=false∨iLt ((min l.length 8:Nat):Int) 8=false:=by
   by_cases h:l.length≤8
   ·left;simp;omega
   ·right;simp;omega
  show qc3 [.ptr 0 0,.ptr 1 0,.ptr 2 0,.int .i64 ((min l.length 8:Nat):Int)] ⟨[[.sl r .non,.sl (rOf cE l) .non,.sl r3 .non],[.sl r4 .full,.sl r5 .full,.sl r6 .full],[.sl r7 (.tok 0),.sl (rOf cE b) (.tok 1),.sl r9 (.tok 2)]],[(k1,3,51),(b.length,3,55),(k3,3,48)],[71,71,71]⟩=_
  rw [qtt];rcases q with q|q
  ·simp only [qgx,q];simp
  ·cases q2:iLt ((min l.length 8:Nat):Int) (xLen (rOf cE l))<;>(simp only [qgx,q,q2];simp)
theorem qwd (r r2 r4 r5 r6 r7 r8:qR) (k1 k2:Nat) (l:List Ru):qc1 [.ptr 0 0,.ptr 1 0,.ptr 2 0,.int .i64 0] ⟨[[.sl r .non,.sl r2 .non,.sl (rOf cRu l) .non],[.sl r4 .full,.sl r5 .full,.sl r6 .full],[.sl r7 (.tok 0),.sl r8 (.tok 1),.sl [] (.tok 2)]],[(k1,3,51),(k2,3,55),(0,3,48)],[71,71,71]⟩=some (.exit 4,[.ptr 1 0,.ptr 2 0],⟨[[.sl r .non,.sl r2 .non,.sl (rOf cRu l) .non],[.sl r4 .full,.sl r5 .full,.sl r6 .full],[.sl r7 (.tok 0),.sl r8 (.tok 1),.sl (rOf cRu ((l.take 12).map cpRu)) (.tok 2)]],[(k1,3,51),(k2,3,55),((min l.length 12),3,48)],[71,71,71]⟩):=by
 have hl:=qjK (l:=l) (min l.length 12) qvv (V:=fun i b=>qc1 [.ptr 0 0,.ptr 1 0,.ptr 2 0,.int .i64 (i:Nat)] ⟨[[.sl r .non,.sl r2 .non,.sl (rOf cRu l) .non],[.sl r4 .full,.sl r5 .full,.sl r6 .full],[.sl r7 (.tok 0),.sl r8 (.tok 1),.sl (rOf cRu b) (.tok 2)]],[(k1,3,51),(k2,3,55),(b.length,3,48)],[71,71,71]⟩) cpRu (fun b=>some (.exit 4,[.ptr 1 0,.ptr 2 0],⟨[[.sl r .non,.sl r2 .non,.sl (rOf cRu l) .non],[.sl r4 .full,.sl r5 .full,.sl r6 .full],[.sl r7 (.tok 0),.sl r8 (.tok 1),.sl (rOf cRu b) (.tok 2)]],[(k1,3,51),(k2,3,55),(b.length,3,48)],[71,71,71]⟩)) ?_ ?_
 ·rw [qjC] at hl;rw [show min l.length 12=((l.take 12).map cpRu).length by rw [List.length_map,List.length_take];omega]
  exact hl
 ·intro i b a hb hi hn ha;have q1:iLt (i:Int) (xLen (rOf cRu l))=true:=by simp;omega
  have q2:iLt (i:Int) 12=true:=by simp;omega
  have q3:qav (i:Int)=true:=by simp
  have q4:qa3 [PV.str [],.sl [] .full,.sl [] .full] (rOf cRu l) (nNat (i:Int))=true:=by simp;omega
  have w:=qaZ (i:=i) (by omega)
  have o1:∀ c,qaI (rOf cRu b) [c] 64=true:=fun c=>by simp;omega
  have o3:qaB (rOf cRu b) 3=true:=qG4 _;have o4:nEq b.length (nXs (rOf cRu b))=true:=by simp
  have x0:xStr (rOf cRu l) (nNat (i:Int)) 0=a.1.1:=by simp [hi,ha]
  have x1:xRow (rOf cRu l) (nNat (i:Int)) 1=rOf cM a.1.2:=by simp [hi,ha]
  have x2:xRow (rOf cRu l) (nNat (i:Int)) 2=rOf cL a.2:=by simp [hi,ha]
  show qc1 [.ptr 0 0,.ptr 1 0,.ptr 2 0,.int .i64 (i:Nat)] ⟨[[.sl r .non,.sl r2 .non,.sl (rOf cRu l) .non],[.sl r4 .full,.sl r5 .full,.sl r6 .full],[.sl r7 (.tok 0),.sl r8 (.tok 1),.sl (rOf cRu b) (.tok 2)]],[(k1,3,51),(k2,3,55),(b.length,3,48)],[71,71,71]⟩=qc1 [.ptr 0 0,.ptr 1 0,.ptr 2 0,.int .i64 ((i+1:Nat):Int)] ⟨[[.sl r .non,.sl r2 .non,.sl (rOf cRu l) .non],[.sl r4 .full,.sl r5 .full,.sl r6 .full],[.sl r7 (.tok 0),.sl r8 (.tok 1),.sl (rOf cRu (b++[cpRu a])) (.tok 2)]],[(k1,3,51),(k2,3,55),((b++[cpRu a]).length,3,48)],[71,71,71]⟩
  rw [qvF];simp only [qgr,q1,q2,q3,q4,o1,o3,o4,w,x0,x1,x2,cpAt,qkV,qau];simp [one,qOk,cpAt,cpRu]
 ·intro b hb;have q:iLt ((min l.length 12:Nat):Int) (xLen (rOf cRu l))=false∨iLt ((min l.length 12:Nat):Int) 12=false:=by
   by_cases h:l.length≤12
   ·left;simp;omega
   ·right;simp;omega
  show qc1 [.ptr 0 0,.ptr 1 0,.ptr 2 0,.int .i64 ((min l.length 12:Nat):Int)] ⟨[[.sl r .non,.sl r2 .non,.sl (rOf cRu l) .non],[.sl r4 .full,.sl r5 .full,.sl r6 .full],[.sl r7 (.tok 0),.sl r8 (.tok 1),.sl (rOf cRu b) (.tok 2)]],[(k1,3,51),(k2,3,55),(b.length,3,48)],[71,71,71]⟩=_
  rw [qvF];rcases q with q|q
  ·simp only [qgr,q];simp
  ·cases q2:iLt ((min l.length 12:Nat):Int) (xLen (rOf cRu l))<;>(simp only [qgr,q,q2];simp)
theorem qhZ (p:Pr):qg5 (rOf cD p.1) (rOf cE p.2.1) (rOf cRu p.2.2)=some (.agg [.sl (rOf cD (cpPr p).1) .non,.sl (rOf cE (cpPr p).2.1) .non,.sl (rOf cRu (cpPr p).2.2) .non]):=by
 have h:=qvY (rOf cE p.2.1) (rOf cRu p.2.2) [] [] [] [] [] 0 0 p.1;have h':qb7 0 (rOf cD p.1) (rOf cE p.2.1) (rOf cRu p.2.2) [] [] [] [] [] [] 0 0 0=_:=h;have g:=qvT (rOf cD p.1) (rOf cRu p.2.2) [] [] [] (rOf cD ((p.1.take 12).map cpDe)) [] (min p.1.length 12) 0 p.2.1;have g':qb9 0 (rOf cD p.1) (rOf cE p.2.1) (rOf cRu p.2.2) [] [] [] (rOf cD ((p.1.take 12).map cpDe)) [] [] (min p.1.length 12) 0 0=_:=g;have f:=qwd (rOf cD p.1) (rOf cE p.2.1) [] [] [] (rOf cD ((p.1.take 12).map cpDe)) (rOf cE ((p.2.1.take 8).map cpEn)) (min p.1.length 12) (min p.2.1.length 8) p.2.2;have f':qb1 0 (rOf cD p.1) (rOf cE p.2.1) (rOf cRu p.2.2) [] [] [] (rOf cD ((p.1.take 12).map cpDe)) (rOf cE ((p.2.1.take 8).map cpEn)) [] (min p.1.length 12) (min p.2.1.length 8) 0=_:=f;unfold qg5 qn8;simp only [qj8,qax,qao,qas,qaw,qam,qak,qal,qan,qaj,qap,qar,qaq,h'];simp [-List.map_take];simp only [qjP,qeV,qd1,qer,qe3,qem,qep,qeh,qeo,qdZ,qd8,qd0,qd9,g'];simp [-List.map_take];simp only [qjH,qnI,qkI,qlE,qnD,qkO,qk2,qle,qlB,qk4,qh7,qig,qie,f'];simp [cpPr]
theorem qDN (p:Pr):qen (rOf cD p.1) (rOf cE p.2.1) (rOf cRu p.2.2)=true:=by simp only [qen,qcJ,qcn,qco,qhZ p];simp
theorem qDC (p:Pr):qcJ (rOf cD p.1) (rOf cE p.2.1) (rOf cRu p.2.2)=rOf cD (cpPr p).1:=by simp only [qen,qcJ,qcn,qco,qhZ p];simp
theorem qCC (p:Pr):qcn (rOf cD p.1) (rOf cE p.2.1) (rOf cRu p.2.2)=rOf cE (cpPr p).2.1:=by simp only [qen,qcJ,qcn,qco,qhZ p];simp
theorem qBH (p:Pr):qco (rOf cD p.1) (rOf cE p.2.1) (rOf cRu p.2.2)=rOf cRu (cpPr p).2.2:=by simp only [qen,qcJ,qcn,qco,qhZ p];simp
end Go.Pv
set_option linter.unusedSimpArgs false
set_option linter.unusedVariables false
namespace Go.Pv
theorem qOq {α ρ:Type} [DecidableEq α] {l m:List α} (hlen:l.length=m.length) {V:Nat→ρ} (good bad:ρ)
  (hsame:∀ (i:Nat) (hi:i < l.length) (hj:i < m.length),l[i]=m[i]→V i=V (i+1))
  (hdiff:∀ (i:Nat) (hi:i < l.length) (hj:i < m.length),l[i]≠m[i]→V i=bad)
  (hend:V l.length=good):V 0=if l=m then good else bad:=by
 have key:∀ (k i:Nat),i+k=l.length→V i=if l.drop i=m.drop i then good else bad:=by
  intro k
  induction k with
  |zero =>
   intro i hi;have:i=l.length:=by omega
   subst this;have h1:l.drop l.length=[]:=List.drop_eq_nil_of_le (Nat.le_refl _);have h2:m.drop l.length=[]:=List.drop_eq_nil_of_le (by omega)
   rw [h1,h2,if_pos rfl];exact hend
  |succ k ih =>
   intro i hi;have h1:i < l.length:=by omega
   have h2:i < m.length:=by omega
   rw [List.drop_eq_getElem_cons h1,List.drop_eq_getElem_cons h2];by_cases h:l[i]=m[i]
   ·rw [hsame i h1 h2 h,ih (i+1) (by omega),h]
    by_cases h3:l.drop (i+1)=m.drop (i+1)
    ·rw [if_pos h3,if_pos (by rw [h3])]
    ·rw [if_neg h3,if_neg (fun e=>h3 (List.cons.inj e).2)]
   ·rw [hdiff i h1 h2 h,if_neg (fun e=>h (List.cons.inj e).1)]
 simpa using key l.length 0 (by omega)
end Go.Pv
set_option maxHeartbeats 8000000
set_option maxRecDepth 200000
set_option linter.unusedSimpArgs false
set_option linter.unusedVariables false
namespace Go.Pv
open Go Go.Proofs Go.RowKit
theorem qAC {s:Txt} (hs:s.length≤65536) (k:Int):qxs s k=some (.bool (isW1 k s)):=by
 unfold qxs qxq;rw [qMe k hs,qC5 hs,qwC hs,qw5 hs];have x0:xLen (rOf cW (wL s))=((wL s).length:Nat):=by simp
 rw [x0];by_cases h1:wE s=0
 ·by_cases h2:(wL s).length=1
  ·have g:qa3 [PV.int .i64 0,.str [],.int .i64 0,.int .i64 0,.str [],.int .i64 0] (rOf cW (wL s)) (nNat 0)=true:=by rw [qE9];simp [h2]
   have y0:xInt (rOf cW (wL s)) (nNat 0) 0=((wL s)[0]?.getD (0,[],(0,0,[]),0)).1:=qFL _ _;have y1:xStr (rOf cW (wL s)) (nNat 0) 1=((wL s)[0]?.getD (0,[],(0,0,[]),0)).2.1:=qEN _ _;rw [g,y0,y1];generalize (wL s)[0]?.getD (0,[],(0,0,[]),0)=w;by_cases h3:w.1=k<;>simp [h1,h2,h3]
  ·have h2':¬ ((wL s).length:Int)=1:=by omega
   simp [h1,h2,h2']
 ·simp [h1]
theorem qE6 {s:Txt} (hs:s.length≤65536) (k:Int):qiQ s k=true:=by simp only [qnE,qiQ,qAC hs];simp
theorem qIV {s:Txt} (hs:s.length≤65536) (k:Int):qnE s k=isW1 k s:=by simp only [qnE,qiQ,qAC hs];simp
theorem qz1 {s:Txt} (hs:s.length≤65536):qxW s=some (.bool (nmB s)):=by
 unfold qxW qyN nmB resv;rw [qE6 hs,qIV hs];cases hw:isW1 1 s with
 |false=>simp
 |true =>
  by_cases h1:s=[98,97,115,101]
  ·simp [h1]
  ·by_cases h2:s=[118,105,101,119]
   ·simp [h2]
   ·by_cases h3:s=[111,110]
    ·simp [h3]
    ·by_cases h4:s=[110,111,116]
     ·simp [h4]
     ·simp [h1,h2,h3,h4]
theorem qzn {s:Txt} (hs:s.length≤65536):qgt s=true:=by simp only [qkj,qgt,qz1 hs];simp
theorem qDs {s:Txt} (hs:s.length≤65536):qkj s=nmB s:=by simp only [qkj,qgt,qz1 hs];simp
theorem qFZ {s:Txt} (hs:s.length≤65536):qFJ s=some (.bool (vrB s)):=by
 unfold qFJ qD0 vrB;rw [qE6 hs,qIV hs];simp
theorem qBR {s:Txt} (hs:s.length≤65536):qml s=true:=by simp only [qtn,qml,qFZ hs];simp
theorem qKQ {s:Txt} (hs:s.length≤65536):qtn s=vrB s:=by simp only [qtn,qml,qFZ hs];simp
theorem qEk (t:Int):qFB t=some (.str (tyT t)):=by
 unfold qFB qCr tyT;by_cases h1:t=1
 ·simp [h1]
 ·by_cases h2:t=2
  ·simp [h2]
  ·simp [h1,h2]
theorem qy8 (t:Int):qh4 t=true:=by simp only [qh4,qgE,qEk];simp
theorem qER (t:Int):qgE t=tyT t:=by simp only [qh4,qgE,qEk];simp
theorem qEE (t:Int):sEq (tyT t) []=!tyOk t:=by
 unfold tyT tyOk;by_cases h1:t=1
 ·simp [h1]
 ·by_cases h2:t=2
  ·simp [h2]
  ·simp [h1,h2]
theorem qLT (o:Int):qMX o=some (.str (if opOk o then opW o else [])):=by
 unfold qMX qIc opW opOk;by_cases h1:o=1
 ·simp [h1]
 ·by_cases h2:o=2
  ·simp [h2]
  ·by_cases h3:o=3
   ·simp [h3]
   ·by_cases h4:o=4
    ·simp [h4]
    ·by_cases h5:o=5
     ·simp [h5]
     ·by_cases h6:o=6
      ·simp [h6]
      ·have h7:¬ (1≤o∧o≤6):=by omega
       simp only [decide_eq_false h7,Bool.false_eq_true,if_false];simp [h1,h2,h3,h4,h5,h6]
theorem qS3 (o:Int):qdR o=true:=by simp only [qdR,qde,qLT];simp
theorem qUq (o:Int):qde o=if opOk o then opW o else []:=by simp only [qdR,qde,qLT];simp
theorem qUt {o:Int} (h:opOk o=true):opT o=32::(opW o++[32]):=by
 simp only [opOk,decide_eq_true_eq] at h
 obtain⟨n,rfl⟩:∃ n:Nat,o=(n:Int):=⟨o.toNat,by omega⟩
 have h1:1≤n∧n≤6:=by omega
 match n,h1 with
 |1,_=>rfl
 |2,_=>rfl
 |3,_=>rfl
 |4,_=>rfl
 |5,_=>rfl
 |6,_=>rfl
 |0,h=>omega
 |n+7,h=>omega
theorem qTX {o:Int}:opW o≠[]:=by
 unfold opW
 repeat' split
 all_goals simp
def jrS (l:List Txt) (sep:Txt) (i:Nat):Txt:=qeB (l.take i) sep
theorem qzZ (sep:Txt):∀ (l:List Txt) (x:Txt),l≠[]→qeB (l++[x]) sep=qeB l sep++(sep++x)
 |[],_,h=>absurd rfl h
 |[a],x,_=>by rw [List.singleton_append,qlF,qlg,qlg]
 |a::b::l,x,_=>by
  have ih:=qzZ sep (b::l) x (by simp)
  simp only [List.cons_append] at ih ⊢;rw [qlF,qlF,ih];simp
theorem qMD {l:List Txt} {sep:Txt} {i:Nat} (hi:i < l.length):jrS l sep (i+1)=if i=0 then l[i] else jrS l sep i++(sep++l[i]):=by
 unfold jrS;rw [← List.take_append_getElem hi];by_cases h:i=0
 ·subst h;simp [qlg]
 ·have:l.take i≠[]:=by
   intro h0;have:=congrArg List.length h0;rw [List.length_take,List.length_nil] at this;omega
  rw [if_neg h,qzZ _ _ _ this]
theorem qGE (l:List Txt) (hl:l.length≤100000) (hw:∀ x∈l,x.length≤1000000) (sep:Txt) (hs:sep.length≤10):∀ (m i:Nat),i+m=l.length →
  ql6 [.sl (rOf cS l) .non,.str sep,.sl (qab (jrS l sep i)) (.tok 0),.int .i64 (i:Nat)] ⟨[],[((jrS l sep i).length,1,5)],[]⟩=some (.exit 0,[.sl (qab (qeB l sep)) (.tok 0)],⟨[],[((qeB l sep).length,1,5)],[]⟩):=by
 intro m
 induction m with
 |zero =>
  intro i hi;have:i=l.length:=by omega
  subst this;have t1:iLt (l.length:Int) (xLen (rOf cS l))=false:=by simp
  have e:jrS l sep l.length=qeB l sep:=by unfold jrS;rw [List.take_length]
  rw [e,qxG];simp only [qfu,t1];simp
 |succ m ih =>
  intro i hi;have w:=qaZ (i:=i) (by omega)
  have hlt:i < l.length:=by omega
  have h1:=ih (i+1) (by omega)
  rw [← h1,qMD hlt];have hb:(jrS l sep i).length≤100000 * 1000010:=by
   unfold jrS;refine Nat.le_trans (qfv (M:=1000000) sep _ (fun x hx=>hw x (List.mem_of_mem_take hx))) ?_
   refine Nat.mul_le_mul ?_ (by omega)
   rw [List.length_take];omega
  have ha:(l[i]).length≤1000000:=hw _ (List.getElem_mem hlt);have q1:iLt (i:Int) (xLen (rOf cS l))=true:=by simp;omega
  have q2:qa3 [PV.str []] (rOf cS l) (nNat (i:Int))=true:=by simp;omega
  have q3:xStr (rOf cS l) (nNat (i:Int)) 0=l[i]:=by simp [hlt]
  have q4:qav (i:Int)=true:=by simp
  generalize l[i]=x at ha q3 ⊢;generalize hj:jrS l sep i=b at hb ⊢;have o2:qaH (qab x) 1=true:=qfg _;have o4:qaH (qab sep) 1=true:=qfg _;have o5:qaB (qab b) 1=true:=qcx _;have o6:qaB (qab (b++sep)) 1=true:=qcx _;have g1:qaI (qab b) (qab x) 1=true:=qcI (by omega)
  have g2:qaI (qab b) (qab sep) 1=true:=qcI (by omega)
  have g3:qaI (qab (b++sep)) (qab x) 1=true:=qcI (by simp;omega)
  have e1:nEq b.length (nXs (qab b))=true:=by simp
  by_cases h0:i=0
  ·subst h0;have hj0:b=[]:=by rw [← hj];rfl
   subst hj0;have t5:iLt 0 ((0:Nat):Int)=false:=rfl;rw [if_pos rfl,qxG];cases x with
   |nil =>
    simp only [qfu,q1,q2,q3,q4,t5,g1,o2,o5,w];simp
   |cons y x =>
    simp only [qfu,q1,q2,q3,q4,t5,g1,o2,o5,w,e1];simp [qwr]
  ·have t5:iLt 0 (i:Int)=true:=by simp;omega
   rw [if_neg h0,qxG];cases sep with
   |nil =>
    cases x with
    |nil =>
     simp only [qfu,q1,q2,q3,q4,t5,g1,g2,o2,o4,o5,w,e1];simp
    |cons y x =>
     simp only [qfu,q1,q2,q3,q4,t5,g1,g2,o2,o4,o5,w,e1,qeD];simp [qwr]
   |cons z sep =>
    have nz:xNil (qab (z::sep))=false:=qgW (by simp)
    cases x with
    |nil =>
     simp only [qfu,q1,q2,q3,q4,t5,g1,g2,g3,o2,o4,o5,o6,w,e1,nz,qeD];simp
    |cons y x =>
     have ny:xNil (qab (y::x))=false:=qgW (by simp)
     simp only [qfu,q1,q2,q3,q4,t5,g1,g2,g3,o2,o4,o5,o6,w,e1,nz,ny,qeD];simp
theorem qAM {l:List Txt} (hl:l.length≤100000) (hw:∀ x∈l,x.length≤1000000) {sep:Txt} (hs:sep.length≤10):qyO (rOf cS l) sep=some (.str (qeB l sep)):=by
 have h:=qGE l hl hw sep hs l.length 0 (by omega)
 have h':qrn (rOf cS l) sep [] 0 0=_:=h;unfold qyO qyn;simp only [qoW,qqH,qxa,h'];simp
theorem qNz {l:List Txt} (hl:l.length≤100000) (hw:∀ x∈l,x.length≤1000000) {sep:Txt} (hs:sep.length≤10):qei (rOf cS l) sep=true:=by simp only [qei,qcC,qAM hl hw hs];simp
theorem qQo {l:List Txt} (hl:l.length≤100000) (hw:∀ x∈l,x.length≤1000000) {sep:Txt} (hs:sep.length≤10):qcC (rOf cS l) sep=qeB l sep:=by simp only [qei,qcC,qAM hl hw hs];simp
theorem qs0 {t:Tm} (h:tmS t):quU t.1 t.2.1 t.2.2.1 t.2.2.2.1 t.2.2.2.2=some (.tup [.str (tdS (tmOk t) (tmT t)),.int .i64 (tdE (tmOk t))]):=by
 obtain⟨k,b,c,n,s⟩:=t;have hb:b.length≤65536:=Nat.le_trans h.1 (by decide)
 unfold quU qxP tmT tmOk vlOk vlT;simp only [qBR hb,qKQ hb];have b0:bAnd=and:=rfl;have z0:(bAnd (iEq c 0) (bAnd (iEq n 0) (bAnd (sEq s []) true)))=decide ((c,n,s)=((0,0,[]):Vl)):=by simp [b0,Bool.decide_and]
 rw [z0];by_cases h1:k=1
 ·subst h1;have n1:iEq 1 1=true:=rfl;have n2:iEq 1 2=false:=rfl;have n3:iEq 1 3=false:=rfl;rw [n1,n2,n3];cases hv:vrB b<;>by_cases hz:(c,n,s)=((0,0,[]):Vl)<;>simp [hv,hz,tdS,tdE]
 ·by_cases h2:k=2
  ·subst h2;have n1:iEq 2 1=false:=rfl;have n2:iEq 2 2=true:=rfl;have n3:iEq 2 3=false:=rfl;rw [n1,n2,n3];by_cases h3:b=[]<;>cases hv:isV c n s<;>simp [h3,hv,tdS,tdE]
  ·have n1:iEq k 1=false:=by simp [h1]
   have n2:iEq k 2=false:=by simp [h2]
   rw [n1,n2];by_cases h3:k=3
   ·subst h3;have n3:iEq 3 3=true:=rfl;rw [n3];by_cases hb0:b=[]<;>by_cases hz:(c,n,s)=((0,0,[]):Vl)<;>simp [hb0,hz,tdS,tdE]
   ·have n3:iEq k 3=false:=by simp [h3]
    rw [n3];simp [h1,h2,h3,tdS,tdE]
theorem qsG {t:Tm} (h:tmS t):qbY t.1 t.2.1 t.2.2.1 t.2.2.2.1 t.2.2.2.2=true:=by simp only [qbY,qcR,qaV,qs0 h];simp
theorem qsj {t:Tm} (h:tmS t):qaV t.1 t.2.1 t.2.2.1 t.2.2.2.1 t.2.2.2.2=tdS (tmOk t) (tmT t):=by simp only [qbY,qcR,qaV,qs0 h];simp
theorem qr4 {t:Tm} (h:tmS t):qcR t.1 t.2.1 t.2.2.1 t.2.2.2.1 t.2.2.2.2=tdE (tmOk t):=by simp only [qbY,qcR,qaV,qs0 h];simp
theorem qCO {l:List Tm} (hs:∀ a∈l,tmS a) (hn:l.length≤100000) (s:Txt) :
  (l.all tmOk=true→qeS [.ptr 0 0,.sl [] (.tok 0),.int .i64 0] ⟨[[.str s,.sl (rOf cM l) .non]],[(0,1,9)],[31]⟩=some (.exit 0,[.ptr 0 0,.sl (rOf cS (l.map tmT)) (.tok 0)],⟨[[.str s,.sl (rOf cM l) .non]],[((l.map tmT).length,1,9)],[31]⟩)) ∧
  (l.all tmOk=false→∃ k:Nat,qeS [.ptr 0 0,.sl [] (.tok 0),.int .i64 0] ⟨[[.str s,.sl (rOf cM l) .non]],[(0,1,9)],[31]⟩=some (.ret,[.str [],.int .i64 140],⟨[[.str s,.sl (rOf cM l) .non]],[(k,1,9)],[31]⟩)):=by
 have hl:=qcy (l:=l) l.length (Nat.le_refl _) (V:=fun i b=>qeS [.ptr 0 0,.sl (rOf cS b) (.tok 0),.int .i64 (i:Nat)] ⟨[[.str s,.sl (rOf cM l) .non]],[(b.length,1,9)],[31]⟩) tmOk tmT (fun b=>some (.exit 0,[.ptr 0 0,.sl (rOf cS b) (.tok 0)],⟨[[.str s,.sl (rOf cM l) .non]],[(b.length,1,9)],[31]⟩)) (fun r=>∃ k:Nat,r=some (.ret,[.str [],.int .i64 140],⟨[[.str s,.sl (rOf cM l) .non]],[(k,1,9)],[31]⟩)) ?_ ?_ ?_
 ·rw [List.take_length] at hl;exact hl
 ·intro i b a hb hi hi2 ha ho;have hm:tmS a:=hs a (ha ▸ List.getElem_mem hi);have q1:iLt (i:Int) (xLen (rOf cM l))=true:=by simp;omega
  have q3:qav (i:Int)=true:=by simp
  have q4:qa3 [PV.int .i64 0,.str [],.int .i64 0,.int .i64 0,.str []] (rOf cM l) (nNat (i:Int))=true:=by simp;omega
  have w:=qaZ (i:=i) (by omega)
  have e1:=qsG hm;have e2:=qsj hm;have e3:=qr4 hm;rw [ho] at e2 e3;have z1:iNe (tdE true) 0=false:=rfl;have z2:iNe (tdE false) 0=true:=rfl;have z3:∀ s,tdS true s=s:=fun _=>rfl
  have z4:tdE false=140:=rfl;have x0:xInt (rOf cM l) (nNat (i:Int)) 0=a.1:=by simp [hi,ha]
  have x1:xStr (rOf cM l) (nNat (i:Int)) 1=a.2.1:=by simp [hi,ha]
  have x2:xInt (rOf cM l) (nNat (i:Int)) 2=a.2.2.1:=by simp [hi,ha]
  have x3:xInt (rOf cM l) (nNat (i:Int)) 3=a.2.2.2.1:=by simp [hi,ha]
  have x4:xStr (rOf cM l) (nNat (i:Int)) 4=a.2.2.2.2:=by simp [hi,ha]
  have o1:∀ c,qaI (rOf cS b) [c] 16=true:=fun c=>by simp;omega
  have o2:∀ t:Txt,qaH [[PV.str t]] 1=true:=fun t=>by simp [one]
  have o3:qaB (rOf cS b) 1=true:=qcH _;have o4:nEq b.length (nXs (rOf cS b))=true:=by simp
  show qeS [.ptr 0 0,.sl (rOf cS b) (.tok 0),.int .i64 (i:Nat)] ⟨[[.str s,.sl (rOf cM l) .non]],[(b.length,1,9)],[31]⟩=qeS [.ptr 0 0,.sl (rOf cS (b++[tmT a])) (.tok 0),.int .i64 ((i+1:Nat):Int)] ⟨[[.str s,.sl (rOf cM l) .non]],[((b++[tmT a]).length,1,9)],[31]⟩
  rw [qxL];simp only [qlp,q1,q3,q4,x0,x1,x2,x3,x4,qau,e1,e2,e3,z1,z3,o1,o2,o3,o4,w];simp
 ·intro i b a hb hi hi2 ha ho;have hm:tmS a:=hs a (ha ▸ List.getElem_mem hi);have q1:iLt (i:Int) (xLen (rOf cM l))=true:=by simp;omega
  have q3:qav (i:Int)=true:=by simp
  have q4:qa3 [PV.int .i64 0,.str [],.int .i64 0,.int .i64 0,.str []] (rOf cM l) (nNat (i:Int))=true:=by simp;omega
  have w:=qaZ (i:=i) (by omega)
  have e1:=qsG hm;have e2:=qsj hm;have e3:=qr4 hm;rw [ho] at e2 e3;have z1:iNe (tdE true) 0=false:=rfl;have z2:iNe (tdE false) 0=true:=rfl;have z3:∀ s,tdS true s=s:=fun _=>rfl
  have z4:tdE false=140:=rfl;have x0:xInt (rOf cM l) (nNat (i:Int)) 0=a.1:=by simp [hi,ha]
  have x1:xStr (rOf cM l) (nNat (i:Int)) 1=a.2.1:=by simp [hi,ha]
  have x2:xInt (rOf cM l) (nNat (i:Int)) 2=a.2.2.1:=by simp [hi,ha]
  have x3:xInt (rOf cM l) (nNat (i:Int)) 3=a.2.2.2.1:=by simp [hi,ha]
  have x4:xStr (rOf cM l) (nNat (i:Int)) 4=a.2.2.2.2:=by simp [hi,ha]
  show ∃ k:Nat,qeS [.ptr 0 0,.sl (rOf cS b) (.tok 0),.int .i64 (i:Nat)] ⟨[[.str s,.sl (rOf cM l) .non]],[(b.length,1,9)],[31]⟩=_
  refine⟨b.length,?_⟩;rw [qxL];simp only [qlp,q1,q3,q4,x0,x1,x2,x3,x4,qau,e1,e3,z2,z4];simp
 ·intro b hb;have q1:iLt (l.length:Nat) (xLen (rOf cM l))=false:=by simp
  show qeS [.ptr 0 0,.sl (rOf cS b) (.tok 0),.int .i64 (l.length:Nat)] ⟨[[.str s,.sl (rOf cM l) .non]],[(b.length,1,9)],[31]⟩=_
  rw [qxL];simp only [qlp,q1];simp
theorem qJv {α:Type} {T:α→Txt} {l:List α} {M:Nat} (hM:M≤1000000) (hn:l.length≤100) (h:∀ a∈l,(T a).length≤M):qei (rOf cS (l.map T)) [44,32]=true :=
 qNz (by simp;omega) (fun x hx=>by
  obtain⟨a,ha,rfl⟩:=List.mem_map.1 hx;exact Nat.le_trans (h a ha) hM) (by decide)
theorem qj_v {α:Type} {T:α→Txt} {l:List α} {M:Nat} (hM:M≤1000000) (hn:l.length≤100) (h:∀ a∈l,(T a).length≤M):qcC (rOf cS (l.map T)) [44,32]=qeB (l.map T) [44,32] :=
 qQo (by simp;omega) (fun x hx=>by
  obtain⟨a,ha,rfl⟩:=List.mem_map.1 hx;exact Nat.le_trans (h a ha) hM) (by decide)
theorem qwR {α:Type} {ok:α→Bool} {T:α→Txt} {sep:Txt} {l:List α} (h:l.all ok=true):qeB (l.map T) sep=jn ok T sep l:=(qNe h).symm
theorem mxl:maxLen=9223372036854775807:=rfl
theorem td_t (s:Txt):tdS true s=s:=rfl
theorem td_f (s:Txt):tdS false s=[]:=rfl
theorem te_t:tdE true=0:=rfl
theorem te_f:tdE false=140:=rfl
theorem nt_t:bNot true=false:=rfl
theorem nt_f:bNot false=true:=rfl
theorem ie00:iEq 0 0=true:=rfl
theorem qT6:iEq 140 0=false:=rfl
theorem qsY {a:At} (h:atS a):qvo a.1 (rOf cM a.2)=some (.tup [.str (tdS (atOk a) (atT a)),.int .i64 (tdE (atOk a))]):=by
 obtain⟨g1,g2⟩:=qCO (l:=a.2) h.2.2 (by have:=h.2.1;omega) a.1
 have hb:a.1.length≤65536:=Nat.le_trans h.1 (by decide)
 have hn:=h.1;have j1:=qJv (T:=tmT) (M:=1100) (by decide) (by have:=h.2.1;omega) (fun t ht=>qgB (h.2.2 t ht))
 have j2:=qj_v (T:=tmT) (M:=1100) (by decide) (by have:=h.2.1;omega) (fun t ht=>qgB (h.2.2 t ht))
 have hj:=qkD (ok:=tmOk) (T:=tmT) (M:=1100) [44,32] a.2 12 h.2.1 (fun t ht=>qgB (h.2.2 t ht))
 simp at hj;unfold qvo qzc atT atOk;simp only [qzn hb,qDs hb];cases hN:nmB a.1 with
 |false=>simp [td_f,te_f]
 |true =>
  cases hA:a.2.all tmOk with
  |true =>
   have h':qeC [] 0 a.1 (rOf cM a.2) 0=_:=g1 hA;rw [qwR hA] at j2;have o1:qaE a.1 [40]=true:=qa0 (by simp;omega)
   have o2:qaE (sApp a.1 [40]) (jn tmOk tmT [44,32] a.2)=true:=qa0 (by simp;omega)
   have o3:qaE (sApp (sApp a.1 [40]) (jn tmOk tmT [44,32] a.2)) [41]=true:=qa0 (by simp;omega)
   simp only [ql4,qlS,qlN,qmc,qfa,qiD,qlP,qmK,qjm,qi5,qe9,h'];simp [j1,j2,o2,o3,td_t,te_t,mxl];omega
  |false =>
   obtain⟨k,hk⟩:=g2 hA;have h':qeC [] 0 a.1 (rOf cM a.2) 0=_:=hk;simp only [ql4,qlS,qlN,qmc,qfa,qiD,qlP,qmK,qjm,qi5,qe9,h'];simp [td_f,te_f]
theorem qrv {a:At} (h:atS a):qfx a.1 (rOf cM a.2)=true:=by simp only [qfx,qdP,qbB,qsY h];simp
theorem qsJ {a:At} (h:atS a):qbB a.1 (rOf cM a.2)=tdS (atOk a) (atT a):=by simp only [qfx,qdP,qbB,qsY h];simp
theorem qsC {a:At} (h:atS a):qdP a.1 (rOf cM a.2)=tdE (atOk a):=by simp only [qfx,qdP,qbB,qsY h];simp
theorem qA1 (s s2:Txt) {l m:List Tm} (hlen:l.length=m.length) (hn:l.length≤100000):qeu [.ptr 0 0,.ptr 1 0,.int .i64 0] ⟨[[.str s,.sl (rOf cM l) .non],[.str s2,.sl (rOf cM m) .non]],[],[31,31]⟩ =
  if l=m then some (.exit 0,[],⟨[[.str s,.sl (rOf cM l) .non],[.str s2,.sl (rOf cM m) .non]],[],[31,31]⟩) else some (.ret,[.bool false],⟨[[.str s,.sl (rOf cM l) .non],[.str s2,.sl (rOf cM m) .non]],[],[31,31]⟩):=by
 refine qOq hlen (V:=fun i=>qeu [.ptr 0 0,.ptr 1 0,.int .i64 (i:Nat)] ⟨[[.str s,.sl (rOf cM l) .non],[.str s2,.sl (rOf cM m) .non]],[],[31,31]⟩) _ _ ?_ ?_ ?_
 ·intro i hi hj he;have w:=qaZ (i:=i) (by omega)
  have b0:bAnd=and:=rfl;show qeu _ _=qeu [.ptr 0 0,.ptr 1 0,.int .i64 ((i+1:Nat):Int)] _
  rw [qu7,← w];simp [qiP,hi,hj,he,b0]
 ·intro i hi hj he;have b0:bAnd=and:=rfl;have hne:(decide (l[i].1=m[i].1)&&(decide (l[i].2.1=m[i].2.1)&&((decide (l[i].2.2.1=m[i].2.2.1)&&(decide (l[i].2.2.2.1=m[i].2.2.2.1)&&(decide (l[i].2.2.2.2=m[i].2.2.2.2)&&true)))&&true)))=false:=by
   cases hd:(decide (l[i].1=m[i].1)&&(decide (l[i].2.1=m[i].2.1)&&((decide (l[i].2.2.1=m[i].2.2.1)&&(decide (l[i].2.2.2.1=m[i].2.2.2.1)&&(decide (l[i].2.2.2.2=m[i].2.2.2.2)&&true)))&&true))) with
   |false=>rfl
   |true =>
    simp only [Bool.and_eq_true,decide_eq_true_eq,and_true] at hd;exact absurd (Prod.ext hd.1 (Prod.ext hd.2.1 (Prod.ext hd.2.2.1 (Prod.ext hd.2.2.2.1 hd.2.2.2.2)))) he
  have x0:xInt (rOf cM l) (nNat (i:Int)) 0=l[i].1:=by simp [hi]
  have x1:xStr (rOf cM l) (nNat (i:Int)) 1=l[i].2.1:=by simp [hi]
  have x2:xInt (rOf cM l) (nNat (i:Int)) 2=l[i].2.2.1:=by simp [hi]
  have x3:xInt (rOf cM l) (nNat (i:Int)) 3=l[i].2.2.2.1:=by simp [hi]
  have x4:xStr (rOf cM l) (nNat (i:Int)) 4=l[i].2.2.2.2:=by simp [hi]
  have y0:xInt (rOf cM m) (nNat (i:Int)) 0=m[i].1:=by simp [hj]
  have y1:xStr (rOf cM m) (nNat (i:Int)) 1=m[i].2.1:=by simp [hj]
  have y2:xInt (rOf cM m) (nNat (i:Int)) 2=m[i].2.2.1:=by simp [hj]
  have y3:xInt (rOf cM m) (nNat (i:Int)) 3=m[i].2.2.2.1:=by simp [hj]
  have y4:xStr (rOf cM m) (nNat (i:Int)) 4=m[i].2.2.2.2:=by simp [hj]
  show qeu _ _=_
  rw [qu7];simp only [qiP,x0,x1,x2,x3,x4,y0,y1,y2,y3,y4,b0,quc,qHS,hne];simp [hi,hj]
 ·show qeu _ _=_
  rw [qu7];simp [qiP]
theorem qwx (a b:At) (hn:a.2.length≤100000):qsn a.1 (rOf cM a.2) b.1 (rOf cM b.2)=some (.bool (decide (a=b))):=by
 obtain⟨a1,a2⟩:=a;obtain⟨b1,b2⟩:=b;unfold qsn qtD;by_cases h1:a1=b1
 ·by_cases h2:a2.length=b2.length
  ·have h:=qA1 a1 b1 h2 hn;have h':qdA 0 a1 (rOf cM a2) b1 (rOf cM b2)=_:=h;by_cases h3:a2=b2
   ·rw [if_pos h3] at h';simp only [qhc,qkb,qj7,qh8,qib,qjw,qjW,qh1,qim,qjc,qka,h'];simp [h1,h3]
   ·rw [if_neg h3] at h';simp only [qhc,qkb,qj7,qh8,qib,qjw,qjW,qh1,qim,qjc,qka,h'];simp [h1,h2,h3]
  ·have h3:a2≠b2:=fun h=>h2 (by rw [h])
   have h4:¬ ((a2.length:Int)=b2.length):=by omega
   simp [h1,h2,h3,h4]
 ·simp [h1]
theorem qLz (a b:At) (hn:a.2.length≤100000):qcS a.1 (rOf cM a.2) b.1 (rOf cM b.2)=true:=by simp only [qeG,qcS,qwx a b hn];simp
theorem qNT (a b:At) (hn:a.2.length≤100000):qeG a.1 (rOf cM a.2) b.1 (rOf cM b.2)=decide (a=b):=by simp only [qeG,qcS,qwx a b hn];simp
theorem qkQ {l:Li} (h:liS l):qiK l.1 l.2.1.1 (rOf cM l.2.1.2) l.2.2.1 l.2.2.2.1.1 l.2.2.2.1.2.1 l.2.2.2.1.2.2.1 l.2.2.2.1.2.2.2.1 l.2.2.2.1.2.2.2.2 l.2.2.2.2.1 l.2.2.2.2.2.1 l.2.2.2.2.2.2.1 l.2.2.2.2.2.2.2.1 l.2.2.2.2.2.2.2.2=some (.tup [.str (tdS (liOk l) (liT l)),.int .i64 (tdE (liOk l))]):=by
 have e1:=qrv h.1;have e2:=qsJ h.1;have e3:=qsC h.1;have a1:=qsG h.2.1;have a2:=qsj h.2.1;have a3:=qr4 h.2.1;have b1:=qsG h.2.2;have b2:=qsj h.2.2;have b3:=qr4 h.2.2;have l1:=qiw h.1;have l2:=qgB h.2.1;have l3:=qgB h.2.2;have l4:=qCW l.2.2.1;have s1:qcS l.2.1.1 (rOf cM l.2.1.2) [] []=true:=qLz l.2.1 ([],[]) (by have:=h.1.2.1;omega)
 have s2:qeG l.2.1.1 (rOf cM l.2.1.2) [] []=decide (l.2.1=([],[])):=qNT l.2.1 ([],[]) (by have:=h.1.2.1;omega)
 have o1:qaE [110,111,116,32] (atT l.2.1)=true:=qa0 (by simp;omega)
 have o2:qaE (tmT l.2.2.2.1) [32]=true:=qa0 (by simp;omega)
 have lw:(opW l.2.2.1).length≤2:=by
  unfold opW
  repeat' split
  all_goals simp
 have o3:qaE (sApp (tmT l.2.2.2.1) [32]) (opW l.2.2.1)=true:=qa0 (by simp;omega)
 have o4:qaE (sApp (sApp (tmT l.2.2.2.1) [32]) (opW l.2.2.1)) [32]=true:=qa0 (by simp;omega)
 have o5:qaE (sApp (sApp (sApp (tmT l.2.2.2.1) [32]) (opW l.2.2.1)) [32]) (tmT l.2.2.2.2)=true:=qa0 (by simp;omega)
 have osp:=fun hh:opOk l.2.2.1=true=>qUt hh
 have one':sNe (opW l.2.2.1) []=true:=by simp [qTX]
 have pl:qMw l=(decide (l.2.2.1=0)&&decide (l.2.2.2.1=tm0)&&decide (l.2.2.2.2=tm0)):=rfl;have b0:bAnd=and:=rfl;have z0:∀ t:Tm,(bAnd (iEq t.1 0) (bAnd (sEq t.2.1 []) (bAnd (bAnd (iEq t.2.2.1 0) (bAnd (iEq t.2.2.2.1 0) (bAnd (sEq t.2.2.2.2 []) true))) true)))=decide (t=tm0):=fun t=>by
  obtain⟨a,b,c,d,e⟩:=t;simp [tm0,b0,Bool.decide_and]
 unfold qiK qn7 liT liOk;simp only [qau,e1,e2,e3,a1,a2,a3,b1,b2,b3,qS3,qUq,s1,s2,pl,z0];generalize l.1=k;generalize l.2.2.2.1=A at *;generalize l.2.2.2.2=B at *;generalize l.2.1=T at *;generalize l.2.2.1=o at *;by_cases k1:k=1
 ·subst k1;have n1:iEq 1 1=true:=rfl;have n2:iEq 1 2=false:=rfl;have n3:iEq 1 3=false:=rfl;rw [n1,n2,n3];by_cases h0:o=0<;>by_cases hA:A=tm0<;>by_cases hB:B=tm0<;>cases hT:atOk T<;>simp [h0,hA,hB,hT,td_t,td_f,te_t,te_f]
 ·by_cases k2:k=2
  ·subst k2;have n1:iEq 2 1=false:=rfl;have n2:iEq 2 2=true:=rfl;have n3:iEq 2 3=false:=rfl;rw [n1,n2,n3];cases hT:atOk T with
   |true =>
    simp only [td_t,te_t,o1];by_cases h0:o=0<;>by_cases hA:A=tm0<;>by_cases hB:B=tm0<;>simp [h0,hA,hB,td_t,td_f,te_t,te_f]
   |false =>
    by_cases h0:o=0<;>by_cases hA:A=tm0<;>by_cases hB:B=tm0<;>simp [h0,hA,hB,td_t,td_f,te_t,te_f]
  ·have n1:iEq k 1=false:=by simp [k1]
   have n2:iEq k 2=false:=by simp [k2]
   rw [n1,n2];by_cases k3:k=3
   ·subst k3;have n3:iEq 3 3=true:=rfl;rw [n3];cases hO:opOk o with
    |false=>cases tmOk A<;>cases tmOk B<;>by_cases hT:T=([],[])<;>simp [hT,td_f,te_f]
    |true =>
     have hsp:=osp hO;cases hA:tmOk A<;>cases hB:tmOk B<;>by_cases hT:T=([],[]) <;>
      (simp only [td_t,td_f,te_t,te_f,ie00,qT6,o2,o3,o4,o5,one',if_true,hT,decide_true,decide_false];simp [hsp,hT,td_t,td_f,te_t,te_f])
   ·have n3:iEq k 3=false:=by simp [k3]
    rw [n3];simp [k1,k2,k3,td_f,te_f]
theorem qtU {l:Li} (h:liS l):qfe l.1 l.2.1.1 (rOf cM l.2.1.2) l.2.2.1 l.2.2.2.1.1 l.2.2.2.1.2.1 l.2.2.2.1.2.2.1 l.2.2.2.1.2.2.2.1 l.2.2.2.1.2.2.2.2 l.2.2.2.2.1 l.2.2.2.2.2.1 l.2.2.2.2.2.2.1 l.2.2.2.2.2.2.2.1 l.2.2.2.2.2.2.2.2=true:=by simp only [qfe,qe6,qdF,qkQ h];simp
theorem qvm {l:Li} (h:liS l):qdF l.1 l.2.1.1 (rOf cM l.2.1.2) l.2.2.1 l.2.2.2.1.1 l.2.2.2.1.2.1 l.2.2.2.1.2.2.1 l.2.2.2.1.2.2.2.1 l.2.2.2.1.2.2.2.2 l.2.2.2.2.1 l.2.2.2.2.2.1 l.2.2.2.2.2.2.1 l.2.2.2.2.2.2.2.1 l.2.2.2.2.2.2.2.2=tdS (liOk l) (liT l):=by simp only [qfe,qe6,qdF,qkQ h];simp
theorem qtZ {l:Li} (h:liS l):qe6 l.1 l.2.1.1 (rOf cM l.2.1.2) l.2.2.1 l.2.2.2.1.1 l.2.2.2.1.2.1 l.2.2.2.1.2.2.1 l.2.2.2.1.2.2.2.1 l.2.2.2.1.2.2.2.2 l.2.2.2.2.1 l.2.2.2.2.2.1 l.2.2.2.2.2.2.1 l.2.2.2.2.2.2.2.1 l.2.2.2.2.2.2.2.2=tdE (liOk l):=by simp only [qfe,qe6,qdF,qkQ h];simp
theorem qDp {l:List Li} (hs:∀ a∈l,liS a) (hn:l.length≤100000) (s s2:Txt) (rr:qR) :
  (l.all liOk=true→qeP [.ptr 0 0,.str s,.sl [] (.tok 0),.int .i64 0] ⟨[[.str s2,.sl rr .non,.sl (rOf cL l) .non]],[(0,1,9)],[48]⟩=some (.exit 0,[.str s,.sl (rOf cS (l.map liT)) (.tok 0)],⟨[[.str s2,.sl rr .non,.sl (rOf cL l) .non]],[((l.map liT).length,1,9)],[48]⟩)) ∧
  (l.all liOk=false→∃ k:Nat,qeP [.ptr 0 0,.str s,.sl [] (.tok 0),.int .i64 0] ⟨[[.str s2,.sl rr .non,.sl (rOf cL l) .non]],[(0,1,9)],[48]⟩=some (.ret,[.str [],.int .i64 140],⟨[[.str s2,.sl rr .non,.sl (rOf cL l) .non]],[(k,1,9)],[48]⟩)):=by
 have hl:=qcy (l:=l) l.length (Nat.le_refl _) (V:=fun i b=>qeP [.ptr 0 0,.str s,.sl (rOf cS b) (.tok 0),.int .i64 (i:Nat)] ⟨[[.str s2,.sl rr .non,.sl (rOf cL l) .non]],[(b.length,1,9)],[48]⟩) liOk liT (fun b=>some (.exit 0,[.str s,.sl (rOf cS b) (.tok 0)],⟨[[.str s2,.sl rr .non,.sl (rOf cL l) .non]],[(b.length,1,9)],[48]⟩)) (fun r=>∃ k:Nat,r=some (.ret,[.str [],.int .i64 140],⟨[[.str s2,.sl rr .non,.sl (rOf cL l) .non]],[(k,1,9)],[48]⟩)) ?_ ?_ ?_
 ·rw [List.take_length] at hl;exact hl
 ·intro i b a hb hi hi2 ha ho;have hm:liS a:=hs a (ha ▸ List.getElem_mem hi);have q1:iLt (i:Int) (xLen (rOf cL l))=true:=by simp;omega
  have q3:qav (i:Int)=true:=by simp
  have q4:qa3 [PV.int .i64 0,.str [],.sl [] .full,.int .i64 0,.int .i64 0,.str [],.int .i64 0,.int .i64 0,.str [],.int .i64 0,.str [],.int .i64 0,.int .i64 0,.str []] (rOf cL l) (nNat (i:Int))=true:=by simp;omega
  have w:=qaZ (i:=i) (by omega)
  have e1:=qtU hm;have e2:=qvm hm;have e3:=qtZ hm;rw [ho] at e2 e3;have z1:iNe (tdE true) 0=false:=rfl;have z2:iNe (tdE false) 0=true:=rfl;have z3:∀ s,tdS true s=s:=fun _=>rfl
  have z4:tdE false=140:=rfl;have x0:xInt (rOf cL l) (nNat (i:Int)) 0=a.1:=by simp [hi,ha]
  have x1:xStr (rOf cL l) (nNat (i:Int)) 1=a.2.1.1:=by simp [hi,ha]
  have x2:xRow (rOf cL l) (nNat (i:Int)) 2=rOf cM a.2.1.2:=by simp [hi,ha]
  have x3:xInt (rOf cL l) (nNat (i:Int)) 3=a.2.2.1:=by simp [hi,ha]
  have x4:xInt (rOf cL l) (nNat (i:Int)) 4=a.2.2.2.1.1:=by simp [hi,ha]
  have x5:xStr (rOf cL l) (nNat (i:Int)) 5=a.2.2.2.1.2.1:=by simp [hi,ha]
  have x6:xInt (rOf cL l) (nNat (i:Int)) 6=a.2.2.2.1.2.2.1:=by simp [hi,ha]
  have x7:xInt (rOf cL l) (nNat (i:Int)) 7=a.2.2.2.1.2.2.2.1:=by simp [hi,ha]
  have x8:xStr (rOf cL l) (nNat (i:Int)) 8=a.2.2.2.1.2.2.2.2:=by simp [hi,ha]
  have x9:xInt (rOf cL l) (nNat (i:Int)) 9=a.2.2.2.2.1:=by simp [hi,ha]
  have x10:xStr (rOf cL l) (nNat (i:Int)) 10=a.2.2.2.2.2.1:=by simp [hi,ha]
  have x11:xInt (rOf cL l) (nNat (i:Int)) 11=a.2.2.2.2.2.2.1:=by simp [hi,ha]
  have x12:xInt (rOf cL l) (nNat (i:Int)) 12=a.2.2.2.2.2.2.2.1:=by simp [hi,ha]
  have x13:xStr (rOf cL l) (nNat (i:Int)) 13=a.2.2.2.2.2.2.2.2:=by simp [hi,ha]
  have o1:∀ c,qaI (rOf cS b) [c] 16=true:=fun c=>by simp;omega
  have o2:∀ t:Txt,qaH [[PV.str t]] 1=true:=fun t=>by simp [one]
  have o3:qaB (rOf cS b) 1=true:=qcH _;have o4:nEq b.length (nXs (rOf cS b))=true:=by simp
  show qeP [.ptr 0 0,.str s,.sl (rOf cS b) (.tok 0),.int .i64 (i:Nat)] ⟨[[.str s2,.sl rr .non,.sl (rOf cL l) .non]],[(b.length,1,9)],[48]⟩=qeP [.ptr 0 0,.str s,.sl (rOf cS (b++[liT a])) (.tok 0),.int .i64 ((i+1:Nat):Int)] ⟨[[.str s2,.sl rr .non,.sl (rOf cL l) .non]],[((b++[liT a]).length,1,9)],[48]⟩
  rw [qya];simp only [qls,q1,q3,q4,x0,x1,x2,x3,x4,x5,x6,x7,x8,x9,x10,x11,x12,x13,qau,e1,e2,e3,z1,z3,o1,o2,o3,o4,w];simp
 ·intro i b a hb hi hi2 ha ho;have hm:liS a:=hs a (ha ▸ List.getElem_mem hi);have q1:iLt (i:Int) (xLen (rOf cL l))=true:=by simp;omega
  have q3:qav (i:Int)=true:=by simp
  have q4:qa3 [PV.int .i64 0,.str [],.sl [] .full,.int .i64 0,.int .i64 0,.str [],.int .i64 0,.int .i64 0,.str [],.int .i64 0,.str [],.int .i64 0,.int .i64 0,.str []] (rOf cL l) (nNat (i:Int))=true:=by simp;omega
  have w:=qaZ (i:=i) (by omega)
  have e1:=qtU hm;have e2:=qvm hm;have e3:=qtZ hm;rw [ho] at e2 e3;have z1:iNe (tdE true) 0=false:=rfl;have z2:iNe (tdE false) 0=true:=rfl;have z3:∀ s,tdS true s=s:=fun _=>rfl
  have z4:tdE false=140:=rfl;have x0:xInt (rOf cL l) (nNat (i:Int)) 0=a.1:=by simp [hi,ha]
  have x1:xStr (rOf cL l) (nNat (i:Int)) 1=a.2.1.1:=by simp [hi,ha]
  have x2:xRow (rOf cL l) (nNat (i:Int)) 2=rOf cM a.2.1.2:=by simp [hi,ha]
  have x3:xInt (rOf cL l) (nNat (i:Int)) 3=a.2.2.1:=by simp [hi,ha]
  have x4:xInt (rOf cL l) (nNat (i:Int)) 4=a.2.2.2.1.1:=by simp [hi,ha]
  have x5:xStr (rOf cL l) (nNat (i:Int)) 5=a.2.2.2.1.2.1:=by simp [hi,ha]
  have x6:xInt (rOf cL l) (nNat (i:Int)) 6=a.2.2.2.1.2.2.1:=by simp [hi,ha]
  have x7:xInt (rOf cL l) (nNat (i:Int)) 7=a.2.2.2.1.2.2.2.1:=by simp [hi,ha]
  have x8:xStr (rOf cL l) (nNat (i:Int)) 8=a.2.2.2.1.2.2.2.2:=by simp [hi,ha]
  have x9:xInt (rOf cL l) (nNat (i:Int)) 9=a.2.2.2.2.1:=by simp [hi,ha]
  have x10:xStr (rOf cL l) (nNat (i:Int)) 10=a.2.2.2.2.2.1:=by simp [hi,ha]
  have x11:xInt (rOf cL l) (nNat (i:Int)) 11=a.2.2.2.2.2.2.1:=by simp [hi,ha]
  have x12:xInt (rOf cL l) (nNat (i:Int)) 12=a.2.2.2.2.2.2.2.1:=by simp [hi,ha]
  have x13:xStr (rOf cL l) (nNat (i:Int)) 13=a.2.2.2.2.2.2.2.2:=by simp [hi,ha]
  show ∃ k:Nat,qeP [.ptr 0 0,.str s,.sl (rOf cS b) (.tok 0),.int .i64 (i:Nat)] ⟨[[.str s2,.sl rr .non,.sl (rOf cL l) .non]],[(b.length,1,9)],[48]⟩=_
  refine⟨b.length,?_⟩;rw [qya];simp only [qls,q1,q3,q4,x0,x1,x2,x3,x4,x5,x6,x7,x8,x9,x10,x11,x12,x13,qau,e1,e3,z2,z4];simp
 ·intro b hb;have q1:iLt (l.length:Nat) (xLen (rOf cL l))=false:=by simp
  show qeP [.ptr 0 0,.str s,.sl (rOf cS b) (.tok 0),.int .i64 (l.length:Nat)] ⟨[[.str s2,.sl rr .non,.sl (rOf cL l) .non]],[(b.length,1,9)],[48]⟩=_
  rw [qya];simp only [qls,q1];simp
theorem quq {r:Ru} (h:ruS r):quD r.1.1 (rOf cM r.1.2) (rOf cL r.2)=some (.tup [.str (tdS (ruOk r) (ruT r)),.int .i64 (tdE (ruOk r))]):=by
 obtain⟨g1,g2⟩:=qDp (l:=r.2) h.2.2 (by have:=h.2.1;omega) (atT r.1) r.1.1 (rOf cM r.1.2)
 have e1:=qrv h.1;have e2:=qsJ h.1;have e3:=qsC h.1;have l1:=qiw h.1;have j1:=qJv (T:=liT) (M:=14004) (by decide) (by have:=h.2.1;omega) (fun t ht=>qqa (h.2.2 t ht))
 have j2:=qj_v (T:=liT) (M:=14004) (by decide) (by have:=h.2.1;omega) (fun t ht=>qqa (h.2.2 t ht))
 have hj:=qkD (ok:=liOk) (T:=liT) (M:=14004) [44,32] r.2 8 h.2.1 (fun t ht=>qqa (h.2.2 t ht))
 simp at hj;unfold quD qyr ruT ruOk;simp only [qau,e1,e2,e3];cases hN:atOk r.1 with
 |false=>simp [td_f,te_f]
 |true =>
  simp only [td_t,te_t];cases hA:r.2.all liOk with
  |true =>
   have h':qc8 (atT r.1) [] 0 r.1.1 (rOf cM r.1.2) (rOf cL r.2) 0=_:=g1 hA;rw [qwR hA] at j2;have o1:qaE (atT r.1) [46]=true:=qa0 (by simp;omega)
   have o2:qaE (atT r.1) [32,58,45,32]=true:=qa0 (by simp;omega)
   have o3:qaE (sApp (atT r.1) [32,58,45,32]) (jn liOk liT [44,32] r.2)=true:=qa0 (by simp;omega)
   have o4:qaE (sApp (sApp (atT r.1) [32,58,45,32]) (jn liOk liT [44,32] r.2)) [46]=true:=qa0 (by simp;omega)
   simp only [qmq,qlZ,qmb,qmt,qez,qiH,qjA,qkx,qmP,qmn,qjS,qkg,qiG,qdD,h'];by_cases h0:r.2=[]
   ·simp [h0,td_t,te_t,mxl];omega
   ·have h1:0 < r.2.length:=List.length_pos_iff.2 h0;simp [h0,h1,j1,j2,o3,o4,td_t,te_t,mxl]
    try omega
  |false =>
   obtain⟨k,hk⟩:=g2 hA;have h':qc8 (atT r.1) [] 0 r.1.1 (rOf cM r.1.2) (rOf cL r.2) 0=_:=hk;simp only [qmq,qlZ,qmb,qmt,qez,qiH,qjA,qkx,qmP,qmn,qjS,qkg,qiG,qdD,h'];simp [td_f,te_f]
theorem qES {r:Ru} (h:ruS r):qiE r.1.1 (rOf cM r.1.2) (rOf cL r.2)=true:=by simp only [qiE,qk5,qiA,quq h];simp
theorem qFg {r:Ru} (h:ruS r):qiA r.1.1 (rOf cM r.1.2) (rOf cL r.2)=tdS (ruOk r) (ruT r):=by simp only [qiE,qk5,qiA,quq h];simp
theorem qF9 {r:Ru} (h:ruS r):qk5 r.1.1 (rOf cM r.1.2) (rOf cL r.2)=tdE (ruOk r):=by simp only [qiE,qk5,qiA,quq h];simp
theorem qtl {l:List Int} (hs:∀ a∈l,tyS a) (hn:l.length≤100000) (s s2:Txt) (b2:Bool) :
  (l.all tyOk=true→qeR [.ptr 0 0,.str s,.sl [] (.tok 0),.int .i64 0] ⟨[[.str s2,.bool b2,.sl (rOf cI l) .non]],[(0,1,9)],[51]⟩=some (.exit 0,[.ptr 0 0,.str s,.sl (rOf cS (l.map tyT)) (.tok 0)],⟨[[.str s2,.bool b2,.sl (rOf cI l) .non]],[((l.map tyT).length,1,9)],[51]⟩)) ∧
  (l.all tyOk=false→∃ k:Nat,qeR [.ptr 0 0,.str s,.sl [] (.tok 0),.int .i64 0] ⟨[[.str s2,.bool b2,.sl (rOf cI l) .non]],[(0,1,9)],[51]⟩=some (.ret,[.str [],.int .i64 140],⟨[[.str s2,.bool b2,.sl (rOf cI l) .non]],[(k,1,9)],[51]⟩)):=by
 have hl:=qcy (l:=l) l.length (Nat.le_refl _) (V:=fun i b=>qeR [.ptr 0 0,.str s,.sl (rOf cS b) (.tok 0),.int .i64 (i:Nat)] ⟨[[.str s2,.bool b2,.sl (rOf cI l) .non]],[(b.length,1,9)],[51]⟩) tyOk tyT (fun b=>some (.exit 0,[.ptr 0 0,.str s,.sl (rOf cS b) (.tok 0)],⟨[[.str s2,.bool b2,.sl (rOf cI l) .non]],[(b.length,1,9)],[51]⟩)) (fun r=>∃ k:Nat,r=some (.ret,[.str [],.int .i64 140],⟨[[.str s2,.bool b2,.sl (rOf cI l) .non]],[(k,1,9)],[51]⟩)) ?_ ?_ ?_
 ·rw [List.take_length] at hl;exact hl
 ·intro i b a hb hi hi2 ha ho;have hm:tyS a:=hs a (ha ▸ List.getElem_mem hi);have q1:iLt (i:Int) (xLen (rOf cI l))=true:=by simp;omega
  have q3:qav (i:Int)=true:=by simp
  have q4:qa3 [PV.int .i64 0] (rOf cI l) (nNat (i:Int))=true:=by simp;omega
  have w:=qaZ (i:=i) (by omega)
  have e1:=qy8 a;have e2:=qER a;have e3:=qEE a;rw [ho] at e3;have x0:xInt (rOf cI l) (nNat (i:Int)) 0=a:=by simp [hi,ha]
  have o1:∀ c,qaI (rOf cS b) [c] 16=true:=fun c=>by simp;omega
  have o2:∀ t:Txt,qaH [[PV.str t]] 1=true:=fun t=>by simp [one]
  have o3:qaB (rOf cS b) 1=true:=qcH _;have o4:nEq b.length (nXs (rOf cS b))=true:=by simp
  show qeR [.ptr 0 0,.str s,.sl (rOf cS b) (.tok 0),.int .i64 (i:Nat)] ⟨[[.str s2,.bool b2,.sl (rOf cI l) .non]],[(b.length,1,9)],[51]⟩=qeR [.ptr 0 0,.str s,.sl (rOf cS (b++[tyT a])) (.tok 0),.int .i64 ((i+1:Nat):Int)] ⟨[[.str s2,.bool b2,.sl (rOf cI l) .non]],[((b++[tyT a]).length,1,9)],[51]⟩
  rw [qza];simp only [qk9,q1,q3,q4,x0,qau,e1,e2,e3,Bool.not_true,o1,o2,o3,o4,w];simp
 ·intro i b a hb hi hi2 ha ho;have hm:tyS a:=hs a (ha ▸ List.getElem_mem hi);have q1:iLt (i:Int) (xLen (rOf cI l))=true:=by simp;omega
  have q3:qav (i:Int)=true:=by simp
  have q4:qa3 [PV.int .i64 0] (rOf cI l) (nNat (i:Int))=true:=by simp;omega
  have w:=qaZ (i:=i) (by omega)
  have e1:=qy8 a;have e2:=qER a;have e3:=qEE a;rw [ho] at e3;have x0:xInt (rOf cI l) (nNat (i:Int)) 0=a:=by simp [hi,ha]
  show ∃ k:Nat,qeR [.ptr 0 0,.str s,.sl (rOf cS b) (.tok 0),.int .i64 (i:Nat)] ⟨[[.str s2,.bool b2,.sl (rOf cI l) .non]],[(b.length,1,9)],[51]⟩=_
  refine⟨b.length,?_⟩;rw [qza];simp only [qk9,q1,q3,q4,x0,qau,e1,e2,e3,Bool.not_false];simp
 ·intro b hb;have q1:iLt (l.length:Nat) (xLen (rOf cI l))=false:=by simp
  show qeR [.ptr 0 0,.str s,.sl (rOf cS b) (.tok 0),.int .i64 (l.length:Nat)] ⟨[[.str s2,.bool b2,.sl (rOf cI l) .non]],[(b.length,1,9)],[51]⟩=_
  rw [qza];simp only [qk9,q1];simp
theorem qtG {d:De} (h:deS d):qtC d.1 d.2.1 (rOf cI d.2.2)=some (.tup [.str (tdS (deOk d) (deT d)),.int .i64 (tdE (deOk d))]):=by
 obtain⟨n,b,l⟩:=d;obtain⟨hn,hl⟩:=h;simp only at hn hl;have hb:n.length≤65536:=Nat.le_trans hn (by decide)
 have j1:=qJv (T:=tyT) (M:=3) (by decide) (by omega) (fun t (_:t∈l)=>qis t)
 have j2:=qj_v (T:=tyT) (M:=3) (by decide) (by omega) (fun t (_:t∈l)=>qis t)
 have hj:=qkD (ok:=tyOk) (T:=tyT) (M:=3) [44,32] l 12 hl (fun t _=>qis t)
 simp at hj;unfold qtC qxQ deT deOk;simp only [qzn hb,qDs hb];cases b with
 |true =>
  obtain⟨g1,g2⟩:=qtl (l:=l) (fun _ _=>trivial) (by omega) [98,97,115,101,32] n true
  cases hN:nmB n with
  |false=>simp [td_f,te_f]
  |true =>
   cases hA:l.all tyOk with
   |true =>
    have h':qcQ [98,97,115,101,32] [] 0 n true (rOf cI l) 0=_:=g1 hA;rw [qwR hA] at j2;have o1:qaE [98,97,115,101,32] n=true:=qa0 (by simp;omega)
    have o2:qaE (sApp [98,97,115,101,32] n) [40]=true:=qa0 (by simp;omega)
    have o3:qaE (sApp (sApp [98,97,115,101,32] n) [40]) (jn tyOk tyT [44,32] l)=true:=qa0 (by simp;omega)
    have o4:qaE (sApp (sApp (sApp [98,97,115,101,32] n) [40]) (jn tyOk tyT [44,32] l)) [41,46]=true:=qa0 (by simp;omega)
    simp only [qg1,qg0,qfV,qga,qgZ,qgY,qcB,qfd,qg2,qg3,qgc,qbQ,qfb,qca,h'];simp [j1,j2,o1,o2,o3,o4,td_t,te_t,mxl]
    try omega
   |false =>
    obtain⟨k,hk⟩:=g2 hA;have h':qcQ [98,97,115,101,32] [] 0 n true (rOf cI l) 0=_:=hk;simp only [qg1,qg0,qfV,qga,qgZ,qgY,qcB,qfd,qg2,qg3,qgc,qbQ,qfb,qca,h'];simp [td_f,te_f]
 |false =>
  obtain⟨g1,g2⟩:=qtl (l:=l) (fun _ _=>trivial) (by omega) [118,105,101,119,32] n false
  cases hN:nmB n with
  |false=>simp [td_f,te_f]
  |true =>
   cases hA:l.all tyOk with
   |true =>
    have h':qcQ [118,105,101,119,32] [] 0 n false (rOf cI l) 0=_:=g1 hA;rw [qwR hA] at j2;have o1:qaE [118,105,101,119,32] n=true:=qa0 (by simp;omega)
    have o2:qaE (sApp [118,105,101,119,32] n) [40]=true:=qa0 (by simp;omega)
    have o3:qaE (sApp (sApp [118,105,101,119,32] n) [40]) (jn tyOk tyT [44,32] l)=true:=qa0 (by simp;omega)
    have o4:qaE (sApp (sApp (sApp [118,105,101,119,32] n) [40]) (jn tyOk tyT [44,32] l)) [41,46]=true:=qa0 (by simp;omega)
    simp only [qg1,qg0,qfV,qga,qgZ,qgY,qcB,qfd,qg2,qg3,qgc,qbQ,qfb,qca,h'];simp [j1,j2,o1,o2,o3,o4,td_t,te_t,mxl]
    try omega
   |false =>
    obtain⟨k,hk⟩:=g2 hA;have h':qcQ [118,105,101,119,32] [] 0 n false (rOf cI l) 0=_:=hk;simp only [qg1,qg0,qfV,qga,qgZ,qgY,qcB,qfd,qg2,qg3,qgc,qbQ,qfb,qca,h'];simp [td_f,te_f]
theorem qE3 {d:De} (h:deS d):qiX d.1 d.2.1 (rOf cI d.2.2)=true:=by simp only [qiX,qlz,qiv,qtG h];simp
theorem qFV {d:De} (h:deS d):qiv d.1 d.2.1 (rOf cI d.2.2)=tdS (deOk d) (deT d):=by simp only [qiX,qlz,qiv,qtG h];simp
theorem qFN {d:De} (h:deS d):qlz d.1 d.2.1 (rOf cI d.2.2)=tdE (deOk d):=by simp only [qiX,qlz,qiv,qtG h];simp
theorem qCl {l:List Ac} (hs:∀ a∈l,acS a) (hn:l.length≤100000) (s:Txt) (rr:qR) :
  (l.all acOk=true→qeQ [.ptr 0 0,.sl [] (.tok 0),.int .i64 0] ⟨[[.str s,.sl rr .non,.sl (rOf cAc l) .non]],[(0,1,9)],[55]⟩=some (.exit 0,[.sl (rOf cS (l.map acT)) (.tok 0)],⟨[[.str s,.sl rr .non,.sl (rOf cAc l) .non]],[((l.map acT).length,1,9)],[55]⟩)) ∧
  (l.all acOk=false→∃ k:Nat,qeQ [.ptr 0 0,.sl [] (.tok 0),.int .i64 0] ⟨[[.str s,.sl rr .non,.sl (rOf cAc l) .non]],[(0,1,9)],[55]⟩=some (.ret,[.str [],.int .i64 140],⟨[[.str s,.sl rr .non,.sl (rOf cAc l) .non]],[(k,1,9)],[55]⟩)):=by
 have hl:=qcy (l:=l) l.length (Nat.le_refl _) (V:=fun i b=>qeQ [.ptr 0 0,.sl (rOf cS b) (.tok 0),.int .i64 (i:Nat)] ⟨[[.str s,.sl rr .non,.sl (rOf cAc l) .non]],[(b.length,1,9)],[55]⟩) acOk acT (fun b=>some (.exit 0,[.sl (rOf cS b) (.tok 0)],⟨[[.str s,.sl rr .non,.sl (rOf cAc l) .non]],[(b.length,1,9)],[55]⟩)) (fun r=>∃ k:Nat,r=some (.ret,[.str [],.int .i64 140],⟨[[.str s,.sl rr .non,.sl (rOf cAc l) .non]],[(k,1,9)],[55]⟩)) ?_ ?_ ?_
 ·rw [List.take_length] at hl;exact hl
 ·intro i b a hb hi hi2 ha ho;have hm:acS a:=hs a (ha ▸ List.getElem_mem hi);have q1:iLt (i:Int) (xLen (rOf cAc l))=true:=by simp;omega
  have q3:qav (i:Int)=true:=by simp
  have q4:qa3 [PV.bool false,.str [],.sl [] .full] (rOf cAc l) (nNat (i:Int))=true:=by simp;omega
  have w:=qaZ (i:=i) (by omega)
  have hm':atS a.2:=hm;have e1:=qrv hm';have e2:=qsJ hm';have e3:=qsC hm';have ho':atOk a.2=_:=ho;rw [ho'] at e2 e3;have z1:iNe (tdE true) 0=false:=rfl;have z2:iNe (tdE false) 0=true:=rfl;have z3:∀ s,tdS true s=s:=fun _=>rfl
  have z4:tdE false=140:=rfl;have l1:=qiw hm';have o5:∀ c,qaE [c] (atT a.2)=true:=fun c=>qa0 (by simp;omega)
  have x0:qcu (rOf cAc l) (nNat (i:Int)) 0=a.1:=by simp [hi,ha]
  have x1:xStr (rOf cAc l) (nNat (i:Int)) 1=a.2.1:=by simp [hi,ha]
  have x2:xRow (rOf cAc l) (nNat (i:Int)) 2=rOf cM a.2.2:=by simp [hi,ha]
  have o1:∀ c,qaI (rOf cS b) [c] 16=true:=fun c=>by simp;omega
  have o2:∀ t:Txt,qaH [[PV.str t]] 1=true:=fun t=>by simp [one]
  have o3:qaB (rOf cS b) 1=true:=qcH _;have o4:nEq b.length (nXs (rOf cS b))=true:=by simp
  show qeQ [.ptr 0 0,.sl (rOf cS b) (.tok 0),.int .i64 (i:Nat)] ⟨[[.str s,.sl rr .non,.sl (rOf cAc l) .non]],[(b.length,1,9)],[55]⟩=qeQ [.ptr 0 0,.sl (rOf cS (b++[acT a])) (.tok 0),.int .i64 ((i+1:Nat):Int)] ⟨[[.str s,.sl rr .non,.sl (rOf cAc l) .non]],[((b++[acT a]).length,1,9)],[55]⟩
  rw [qzv];simp only [qlc,q1,q3,q4,x0,x1,x2,qau,e1,e2,e3,z1,z3,o5,o1,o2,o3,o4,w];cases h1:a.1<;>simp [acT,h1]
 ·intro i b a hb hi hi2 ha ho;have hm:acS a:=hs a (ha ▸ List.getElem_mem hi);have q1:iLt (i:Int) (xLen (rOf cAc l))=true:=by simp;omega
  have q3:qav (i:Int)=true:=by simp
  have q4:qa3 [PV.bool false,.str [],.sl [] .full] (rOf cAc l) (nNat (i:Int))=true:=by simp;omega
  have w:=qaZ (i:=i) (by omega)
  have hm':atS a.2:=hm;have e1:=qrv hm';have e2:=qsJ hm';have e3:=qsC hm';have ho':atOk a.2=_:=ho;rw [ho'] at e2 e3;have z1:iNe (tdE true) 0=false:=rfl;have z2:iNe (tdE false) 0=true:=rfl;have z3:∀ s,tdS true s=s:=fun _=>rfl
  have z4:tdE false=140:=rfl;have l1:=qiw hm';have o5:∀ c,qaE [c] (atT a.2)=true:=fun c=>qa0 (by simp;omega)
  have x0:qcu (rOf cAc l) (nNat (i:Int)) 0=a.1:=by simp [hi,ha]
  have x1:xStr (rOf cAc l) (nNat (i:Int)) 1=a.2.1:=by simp [hi,ha]
  have x2:xRow (rOf cAc l) (nNat (i:Int)) 2=rOf cM a.2.2:=by simp [hi,ha]
  show ∃ k:Nat,qeQ [.ptr 0 0,.sl (rOf cS b) (.tok 0),.int .i64 (i:Nat)] ⟨[[.str s,.sl rr .non,.sl (rOf cAc l) .non]],[(b.length,1,9)],[55]⟩=_
  refine⟨b.length,?_⟩;rw [qzv];simp only [qlc,q1,q3,q4,x0,x1,x2,qau,e1,e3,z2,z4];simp
 ·intro b hb;have q1:iLt (l.length:Nat) (xLen (rOf cAc l))=false:=by simp
  show qeQ [.ptr 0 0,.sl (rOf cS b) (.tok 0),.int .i64 (l.length:Nat)] ⟨[[.str s,.sl rr .non,.sl (rOf cAc l) .non]],[(b.length,1,9)],[55]⟩=_
  rw [qzv];simp only [qlc,q1];simp
def qHd (l:List Ac):Txt:=if l=[] then [] else [58,32]++jn acOk acT [44,32] l
theorem qup (n:Txt) (rr:qR) {l:List Ac} (hl:l.length≤8) (hs:∀ a∈l,acS a):qvI n rr (rOf cAc l)=some (.tup [.str (tdS (l.all acOk) (qHd l)),.int .i64 (tdE (l.all acOk))]):=by
 obtain⟨g1,g2⟩:=qCl (l:=l) hs (by omega) n rr
 have j1:=qJv (T:=acT) (M:=14001) (by decide) (by omega) (fun t ht=>qnr (hs t ht))
 have j2:=qj_v (T:=acT) (M:=14001) (by decide) (by omega) (fun t ht=>qnr (hs t ht))
 have hj:=qkD (ok:=acOk) (T:=acT) (M:=14001) [44,32] l 8 hl (fun t ht=>qnr (hs t ht))
 simp at hj;unfold qvI qzt qHd;cases hA:l.all acOk with
 |true =>
  have h':qdo [] 0 n rr (rOf cAc l) 0=_:=g1 hA;rw [qwR hA] at j2;simp only [qmL,qmw,qmD,ql8,qe8,qiB,qjV,qjD,qmH,qlR,qky,qi6,ql7,h'];by_cases h0:l=[]
  ·simp [h0,td_t,te_t]
  ·simp [h0,j1,j2,td_t,te_t,mxl]
   try omega
 |false =>
  obtain⟨k,hk⟩:=g2 hA;have h':qdo [] 0 n rr (rOf cAc l) 0=_:=hk;simp only [qmL,qmw,qmD,ql8,qe8,qiB,qjV,qjD,qmH,qlR,qky,qi6,ql7,h'];simp [td_f,te_f]
theorem qN4 (n:Txt) (rr:qR) {l:List Ac} (hl:l.length≤8) (hs:∀ a∈l,acS a):qiJ n rr (rOf cAc l)=true:=by simp only [qiJ,qla,qkr,qup n rr hl hs];simp
theorem qOd (n:Txt) (rr:qR) {l:List Ac} (hl:l.length≤8) (hs:∀ a∈l,acS a):qkr n rr (rOf cAc l)=tdS (l.all acOk) (qHd l):=by simp only [qiJ,qla,qkr,qup n rr hl hs];simp
theorem qMY (n:Txt) (rr:qR) {l:List Ac} (hl:l.length≤8) (hs:∀ a∈l,acS a):qla n rr (rOf cAc l)=tdE (l.all acOk):=by simp only [qiJ,qla,qkr,qup n rr hl hs];simp
theorem qKa {l:List Pa} (hs:∀ a∈l,paS a) (hn:l.length≤100000) (s:Txt) (as_:List Ac) :
  (l.all paOk=true→qkE [.ptr 0 0,.sl [] (.tok 0),.int .i64 0] ⟨[[.str s,.sl (rOf cP l) .non,.sl (rOf cAc as_) .non]],[(0,1,9)],[55]⟩=some (.exit 0,[.ptr 0 0,.sl (rOf cS (l.map paT)) (.tok 0)],⟨[[.str s,.sl (rOf cP l) .non,.sl (rOf cAc as_) .non]],[((l.map paT).length,1,9)],[55]⟩)) ∧
  (l.all paOk=false→∃ k:Nat,qkE [.ptr 0 0,.sl [] (.tok 0),.int .i64 0] ⟨[[.str s,.sl (rOf cP l) .non,.sl (rOf cAc as_) .non]],[(0,1,9)],[55]⟩=some (.ret,[.str [],.int .i64 140],⟨[[.str s,.sl (rOf cP l) .non,.sl (rOf cAc as_) .non]],[(k,1,9)],[55]⟩)):=by
 have hl:=qcy (l:=l) l.length (Nat.le_refl _) (V:=fun i b=>qkE [.ptr 0 0,.sl (rOf cS b) (.tok 0),.int .i64 (i:Nat)] ⟨[[.str s,.sl (rOf cP l) .non,.sl (rOf cAc as_) .non]],[(b.length,1,9)],[55]⟩) paOk paT (fun b=>some (.exit 0,[.ptr 0 0,.sl (rOf cS b) (.tok 0)],⟨[[.str s,.sl (rOf cP l) .non,.sl (rOf cAc as_) .non]],[(b.length,1,9)],[55]⟩)) (fun r=>∃ k:Nat,r=some (.ret,[.str [],.int .i64 140],⟨[[.str s,.sl (rOf cP l) .non,.sl (rOf cAc as_) .non]],[(k,1,9)],[55]⟩)) ?_ ?_ ?_
 ·rw [List.take_length] at hl;exact hl
 ·intro i b a hb hi hi2 ha ho;have hm:paS a:=hs a (ha ▸ List.getElem_mem hi);have q1:iLt (i:Int) (xLen (rOf cP l))=true:=by simp;omega
  have q3:qav (i:Int)=true:=by simp
  have q4:qa3 [PV.str [],.int .i64 0] (rOf cP l) (nNat (i:Int))=true:=by simp;omega
  have w:=qaZ (i:=i) (by omega)
  have l1:a.1.length≤300:=hm;have l2:=qis a.2;have e1:=qBR (s:=a.1) (by omega)
  have e2:=qKQ (s:=a.1) (by omega)
  have e3:=qy8 a.2;have e4:=qER a.2;have e5:=qEE a.2;have o5:qaE a.1 [32]=true:=qa0 (by simp;omega)
  have o6:qaE (sApp a.1 [32]) (tyT a.2)=true:=qa0 (by simp;omega)
  have x0:xStr (rOf cP l) (nNat (i:Int)) 0=a.1:=by simp [hi,ha]
  have x1:xInt (rOf cP l) (nNat (i:Int)) 1=a.2:=by simp [hi,ha]
  have o1:∀ c,qaI (rOf cS b) [c] 16=true:=fun c=>by simp;omega
  have o2:∀ t:Txt,qaH [[PV.str t]] 1=true:=fun t=>by simp [one]
  have o3:qaB (rOf cS b) 1=true:=qcH _;have o4:nEq b.length (nXs (rOf cS b))=true:=by simp
  show qkE [.ptr 0 0,.sl (rOf cS b) (.tok 0),.int .i64 (i:Nat)] ⟨[[.str s,.sl (rOf cP l) .non,.sl (rOf cAc as_) .non]],[(b.length,1,9)],[55]⟩=qkE [.ptr 0 0,.sl (rOf cS (b++[paT a])) (.tok 0),.int .i64 ((i+1:Nat):Int)] ⟨[[.str s,.sl (rOf cP l) .non,.sl (rOf cAc as_) .non]],[((b++[paT a]).length,1,9)],[55]⟩
  rw [qIv];simp only [quM,q1,q3,q4,x0,x1,qau,e1,e2,e3,e4,e5,o5,o6,o1,o2,o3,o4,w];simp only [paOk,Bool.and_eq_true] at ho;simp [ho.1,ho.2,paT,nt_t]
 ·intro i b a hb hi hi2 ha ho;have hm:paS a:=hs a (ha ▸ List.getElem_mem hi);have q1:iLt (i:Int) (xLen (rOf cP l))=true:=by simp;omega
  have q3:qav (i:Int)=true:=by simp
  have q4:qa3 [PV.str [],.int .i64 0] (rOf cP l) (nNat (i:Int))=true:=by simp;omega
  have w:=qaZ (i:=i) (by omega)
  have l1:a.1.length≤300:=hm;have l2:=qis a.2;have e1:=qBR (s:=a.1) (by omega)
  have e2:=qKQ (s:=a.1) (by omega)
  have e3:=qy8 a.2;have e4:=qER a.2;have e5:=qEE a.2;have o5:qaE a.1 [32]=true:=qa0 (by simp;omega)
  have o6:qaE (sApp a.1 [32]) (tyT a.2)=true:=qa0 (by simp;omega)
  have x0:xStr (rOf cP l) (nNat (i:Int)) 0=a.1:=by simp [hi,ha]
  have x1:xInt (rOf cP l) (nNat (i:Int)) 1=a.2:=by simp [hi,ha]
  show ∃ k:Nat,qkE [.ptr 0 0,.sl (rOf cS b) (.tok 0),.int .i64 (i:Nat)] ⟨[[.str s,.sl (rOf cP l) .non,.sl (rOf cAc as_) .non]],[(b.length,1,9)],[55]⟩=_
  refine⟨b.length,?_⟩;rw [qIv];simp only [quM,q1,q3,q4,x0,x1,qau,e1,e2,e3,e4,e5,o5,o6];cases hv:vrB a.1<;>cases ht:tyOk a.2<;>simp [paOk,hv,ht,nt_t,nt_f] at ho ⊢
 ·intro b hb;have q1:iLt (l.length:Nat) (xLen (rOf cP l))=false:=by simp
  show qkE [.ptr 0 0,.sl (rOf cS b) (.tok 0),.int .i64 (l.length:Nat)] ⟨[[.str s,.sl (rOf cP l) .non,.sl (rOf cAc as_) .non]],[(b.length,1,9)],[55]⟩=_
  rw [qIv];simp only [quM,q1];simp
theorem qCP {o:En} (h:enS o):qH0 o.1 (rOf cP o.2.1) (rOf cAc o.2.2)=some (.tup [.str (tdS (enOk o) (enT o)),.int .i64 (tdE (enOk o))]):=by
 obtain⟨n,l,as_⟩:=o;obtain⟨hn,⟨hl,hs⟩,⟨hal,has⟩⟩:=h;simp only at hn hl hs hal has;obtain⟨g1,g2⟩:=qKa (l:=l) hs (by omega) n as_
 have hb:n.length≤65536:=Nat.le_trans hn (by decide)
 have j1:=qJv (T:=paT) (M:=304) (by decide) (by omega) (fun t ht=>qqm (hs t ht))
 have j2:=qj_v (T:=paT) (M:=304) (by decide) (by omega) (fun t ht=>qqm (hs t ht))
 have hj:=qkD (ok:=paOk) (T:=paT) (M:=304) [44,32] l 12 hl (fun t ht=>qqm (hs t ht))
 have hj2:=qkD (ok:=acOk) (T:=acT) (M:=14001) [44,32] as_ 8 hal (fun t ht=>qnr (has t ht))
 simp at hj hj2;have hj3:(qHd as_).length≤112026:=by
  unfold qHd;split<;>simp
  omega
 have a1:=qN4 n (rOf cP l) hal has;have a2:=qOd n (rOf cP l) hal has;have a3:=qMY n (rOf cP l) hal has;unfold qH0 qKT enT enOk;simp only [qzn hb,qDs hb];cases hN:nmB n with
 |false=>simp [td_f,te_f]
 |true =>
  cases hA:l.all paOk with
  |true =>
   have h':qhh [] 0 n (rOf cP l) (rOf cAc as_) 0=_:=g1 hA;rw [qwR hA] at j2;simp only [qrV,qrk,qro,qrP,qgm,qpd,qoe,qeL,qrR,qgq,qoU,qpe,qcY,h'];cases hC:as_.all acOk with
   |true =>
    rw [hC,td_t] at a2;rw [hC,te_t] at a3;have aT:(if as_=[] then [] else [58,32]++jn acOk acT [44,32] as_)=qHd as_:=rfl;simp only [aT];simp [j1,j2,a1,a2,a3,td_t,te_t,mxl]
    try omega
   |false =>
    rw [hC,te_f] at a3;simp [a1,a3,td_f,te_f]
  |false =>
   obtain⟨k,hk⟩:=g2 hA;have h':qhh [] 0 n (rOf cP l) (rOf cAc as_) 0=_:=hk;simp only [qrV,qrk,qro,qrP,qgm,qpd,qoe,qeL,qrR,qgq,qoU,qpe,qcY,h'];simp [td_f,te_f]
theorem qO4 {o:En} (h:enS o):qqd o.1 (rOf cP o.2.1) (rOf cAc o.2.2)=true:=by simp only [qqd,qAu,qwa,qCP h];simp
theorem qO6 {o:En} (h:enS o):qwa o.1 (rOf cP o.2.1) (rOf cAc o.2.2)=tdS (enOk o) (enT o):=by simp only [qqd,qAu,qwa,qCP h];simp
theorem qON {o:En} (h:enS o):qAu o.1 (rOf cP o.2.1) (rOf cAc o.2.2)=tdE (enOk o):=by simp only [qqd,qAu,qwa,qCP h];simp
theorem qzH {l:List De} (hs:∀ a∈l,deS a) (hn:l.length≤100000) (es:List En) (rs:List Ru) {p:List Txt} (hp:p.length≤100000000) :
  (l.all deOk=true→qdw [.ptr 0 0,.sl (rOf cS p) (.tok 0),.int .i64 0] ⟨[[.sl (rOf cD l) .non,.sl (rOf cE es) .non,.sl (rOf cRu rs) .non]],[(p.length,1,9)],[71]⟩=some (.exit 0,[.ptr 0 0,.sl (rOf cS (p++l.map deT)) (.tok 0)],⟨[[.sl (rOf cD l) .non,.sl (rOf cE es) .non,.sl (rOf cRu rs) .non]],[((p++l.map deT).length,1,9)],[71]⟩)) ∧
  (l.all deOk=false→∃ k:Nat,qdw [.ptr 0 0,.sl (rOf cS p) (.tok 0),.int .i64 0] ⟨[[.sl (rOf cD l) .non,.sl (rOf cE es) .non,.sl (rOf cRu rs) .non]],[(p.length,1,9)],[71]⟩=some (.ret,[.sl [] .full,.int .i64 140],⟨[[.sl (rOf cD l) .non,.sl (rOf cE es) .non,.sl (rOf cRu rs) .non]],[(k,1,9)],[71]⟩)):=by
 have hl:=qcy (l:=l) l.length (Nat.le_refl _) (V:=fun i b=>qdw [.ptr 0 0,.sl (rOf cS (p++b)) (.tok 0),.int .i64 (i:Nat)] ⟨[[.sl (rOf cD l) .non,.sl (rOf cE es) .non,.sl (rOf cRu rs) .non]],[((p++b).length,1,9)],[71]⟩) deOk deT (fun b=>some (.exit 0,[.ptr 0 0,.sl (rOf cS (p++b)) (.tok 0)],⟨[[.sl (rOf cD l) .non,.sl (rOf cE es) .non,.sl (rOf cRu rs) .non]],[((p++b).length,1,9)],[71]⟩)) (fun r=>∃ k:Nat,r=some (.ret,[.sl [] .full,.int .i64 140],⟨[[.sl (rOf cD l) .non,.sl (rOf cE es) .non,.sl (rOf cRu rs) .non]],[(k,1,9)],[71]⟩)) ?_ ?_ ?_
 ·simp only [List.take_length,List.append_nil] at hl;exact hl
 ·intro i b a hb hi hi2 ha ho;have hm:deS a:=hs a (ha ▸ List.getElem_mem hi);have q1:iLt (i:Int) (xLen (rOf cD l))=true:=by simp;omega
  have q3:qav (i:Int)=true:=by simp
  have q4:qa3 [PV.str [],.bool false,.sl [] .full] (rOf cD l) (nNat (i:Int))=true:=by simp;omega
  have w:=qaZ (i:=i) (by omega)
  have e1:=qE3 hm;have e2:=qFV hm;have e3:=qFN hm;rw [ho] at e2 e3;have z1:iNe (tdE true) 0=false:=rfl;have z2:iNe (tdE false) 0=true:=rfl;have z3:∀ s,tdS true s=s:=fun _=>rfl
  have z4:tdE false=140:=rfl;have x0:xStr (rOf cD l) (nNat (i:Int)) 0=a.1:=by simp [hi,ha]
  have x1:qcu (rOf cD l) (nNat (i:Int)) 1=a.2.1:=by simp [hi,ha]
  have x2:xRow (rOf cD l) (nNat (i:Int)) 2=rOf cI a.2.2:=by simp [hi,ha]
  have o1:∀ c,qaI (rOf cS (p++b)) [c] 16=true:=fun c=>by simp;omega
  have o2:∀ t:Txt,qaH [[PV.str t]] 1=true:=fun t=>by simp [one]
  have o3:qaB (rOf cS (p++b)) 1=true:=qcH _;have o4:nEq (p++b).length (nXs (rOf cS (p++b)))=true:=by simp
  show qdw [.ptr 0 0,.sl (rOf cS (p++b)) (.tok 0),.int .i64 (i:Nat)] ⟨[[.sl (rOf cD l) .non,.sl (rOf cE es) .non,.sl (rOf cRu rs) .non]],[((p++b).length,1,9)],[71]⟩=qdw [.ptr 0 0,.sl (rOf cS (p++(b++[deT a]))) (.tok 0),.int .i64 ((i+1:Nat):Int)] ⟨[[.sl (rOf cD l) .non,.sl (rOf cE es) .non,.sl (rOf cRu rs) .non]],[((p++(b++[deT a])).length,1,9)],[71]⟩
  rw [qvM];simp only [qiI,q1,q3,q4,x0,x1,x2,qau,e1,e2,e3,z1,z3,o1,o2,o3,o4,w];simp
 ·intro i b a hb hi hi2 ha ho;have hm:deS a:=hs a (ha ▸ List.getElem_mem hi);have q1:iLt (i:Int) (xLen (rOf cD l))=true:=by simp;omega
  have q3:qav (i:Int)=true:=by simp
  have q4:qa3 [PV.str [],.bool false,.sl [] .full] (rOf cD l) (nNat (i:Int))=true:=by simp;omega
  have w:=qaZ (i:=i) (by omega)
  have e1:=qE3 hm;have e2:=qFV hm;have e3:=qFN hm;rw [ho] at e2 e3;have z1:iNe (tdE true) 0=false:=rfl;have z2:iNe (tdE false) 0=true:=rfl;have z3:∀ s,tdS true s=s:=fun _=>rfl
  have z4:tdE false=140:=rfl;have x0:xStr (rOf cD l) (nNat (i:Int)) 0=a.1:=by simp [hi,ha]
  have x1:qcu (rOf cD l) (nNat (i:Int)) 1=a.2.1:=by simp [hi,ha]
  have x2:xRow (rOf cD l) (nNat (i:Int)) 2=rOf cI a.2.2:=by simp [hi,ha]
  show ∃ k:Nat,qdw [.ptr 0 0,.sl (rOf cS (p++b)) (.tok 0),.int .i64 (i:Nat)] ⟨[[.sl (rOf cD l) .non,.sl (rOf cE es) .non,.sl (rOf cRu rs) .non]],[((p++b).length,1,9)],[71]⟩=_
  refine⟨(p++b).length,?_⟩;rw [qvM];simp only [qiI,q1,q3,q4,x0,x1,x2,qau,e1,e3,z2,z4];simp
 ·intro b hb;have q1:iLt (l.length:Nat) (xLen (rOf cD l))=false:=by simp
  show qdw [.ptr 0 0,.sl (rOf cS (p++b)) (.tok 0),.int .i64 (l.length:Nat)] ⟨[[.sl (rOf cD l) .non,.sl (rOf cE es) .non,.sl (rOf cRu rs) .non]],[((p++b).length,1,9)],[71]⟩=_
  rw [qvM];simp only [qiI,q1];simp
theorem qzC {l:List En} (hs:∀ a∈l,enS a) (hn:l.length≤100000) (ds:List De) (rs:List Ru) {p:List Txt} (hp:p.length≤100000000) :
  (l.all enOk=true→qdy [.ptr 0 0,.sl (rOf cS p) (.tok 0),.int .i64 0] ⟨[[.sl (rOf cD ds) .non,.sl (rOf cE l) .non,.sl (rOf cRu rs) .non]],[(p.length,1,9)],[71]⟩=some (.exit 2,[.ptr 0 0,.sl (rOf cS (p++l.map enT)) (.tok 0)],⟨[[.sl (rOf cD ds) .non,.sl (rOf cE l) .non,.sl (rOf cRu rs) .non]],[((p++l.map enT).length,1,9)],[71]⟩)) ∧
  (l.all enOk=false→∃ k:Nat,qdy [.ptr 0 0,.sl (rOf cS p) (.tok 0),.int .i64 0] ⟨[[.sl (rOf cD ds) .non,.sl (rOf cE l) .non,.sl (rOf cRu rs) .non]],[(p.length,1,9)],[71]⟩=some (.ret,[.sl [] .full,.int .i64 140],⟨[[.sl (rOf cD ds) .non,.sl (rOf cE l) .non,.sl (rOf cRu rs) .non]],[(k,1,9)],[71]⟩)):=by
 have hl:=qcy (l:=l) l.length (Nat.le_refl _) (V:=fun i b=>qdy [.ptr 0 0,.sl (rOf cS (p++b)) (.tok 0),.int .i64 (i:Nat)] ⟨[[.sl (rOf cD ds) .non,.sl (rOf cE l) .non,.sl (rOf cRu rs) .non]],[((p++b).length,1,9)],[71]⟩) enOk enT (fun b=>some (.exit 2,[.ptr 0 0,.sl (rOf cS (p++b)) (.tok 0)],⟨[[.sl (rOf cD ds) .non,.sl (rOf cE l) .non,.sl (rOf cRu rs) .non]],[((p++b).length,1,9)],[71]⟩)) (fun r=>∃ k:Nat,r=some (.ret,[.sl [] .full,.int .i64 140],⟨[[.sl (rOf cD ds) .non,.sl (rOf cE l) .non,.sl (rOf cRu rs) .non]],[(k,1,9)],[71]⟩)) ?_ ?_ ?_
 ·simp only [List.take_length,List.append_nil] at hl;exact hl
 ·intro i b a hb hi hi2 ha ho;have hm:enS a:=hs a (ha ▸ List.getElem_mem hi);have q1:iLt (i:Int) (xLen (rOf cE l))=true:=by simp;omega
  have q3:qav (i:Int)=true:=by simp
  have q4:qa3 [PV.str [],.sl [] .full,.sl [] .full] (rOf cE l) (nNat (i:Int))=true:=by simp;omega
  have w:=qaZ (i:=i) (by omega)
  have e1:=qO4 hm;have e2:=qO6 hm;have e3:=qON hm;rw [ho] at e2 e3;have z1:iNe (tdE true) 0=false:=rfl;have z2:iNe (tdE false) 0=true:=rfl;have z3:∀ s,tdS true s=s:=fun _=>rfl
  have z4:tdE false=140:=rfl;have x0:xStr (rOf cE l) (nNat (i:Int)) 0=a.1:=by simp [hi,ha]
  have x1:xRow (rOf cE l) (nNat (i:Int)) 1=rOf cP a.2.1:=by simp [hi,ha]
  have x2:xRow (rOf cE l) (nNat (i:Int)) 2=rOf cAc a.2.2:=by simp [hi,ha]
  have o1:∀ c,qaI (rOf cS (p++b)) [c] 16=true:=fun c=>by simp;omega
  have o2:∀ t:Txt,qaH [[PV.str t]] 1=true:=fun t=>by simp [one]
  have o3:qaB (rOf cS (p++b)) 1=true:=qcH _;have o4:nEq (p++b).length (nXs (rOf cS (p++b)))=true:=by simp
  show qdy [.ptr 0 0,.sl (rOf cS (p++b)) (.tok 0),.int .i64 (i:Nat)] ⟨[[.sl (rOf cD ds) .non,.sl (rOf cE l) .non,.sl (rOf cRu rs) .non]],[((p++b).length,1,9)],[71]⟩=qdy [.ptr 0 0,.sl (rOf cS (p++(b++[enT a]))) (.tok 0),.int .i64 ((i+1:Nat):Int)] ⟨[[.sl (rOf cD ds) .non,.sl (rOf cE l) .non,.sl (rOf cRu rs) .non]],[((p++(b++[enT a])).length,1,9)],[71]⟩
  rw [qvf];simp only [qiV,q1,q3,q4,x0,x1,x2,qau,e1,e2,e3,z1,z3,o1,o2,o3,o4,w];simp
 ·intro i b a hb hi hi2 ha ho;have hm:enS a:=hs a (ha ▸ List.getElem_mem hi);have q1:iLt (i:Int) (xLen (rOf cE l))=true:=by simp;omega
  have q3:qav (i:Int)=true:=by simp
  have q4:qa3 [PV.str [],.sl [] .full,.sl [] .full] (rOf cE l) (nNat (i:Int))=true:=by simp;omega
  have w:=qaZ (i:=i) (by omega)
  have e1:=qO4 hm;have e2:=qO6 hm;have e3:=qON hm;rw [ho] at e2 e3;have z1:iNe (tdE true) 0=false:=rfl;have z2:iNe (tdE false) 0=true:=rfl;have z3:∀ s,tdS true s=s:=fun _=>rfl
  have z4:tdE false=140:=rfl;have x0:xStr (rOf cE l) (nNat (i:Int)) 0=a.1:=by simp [hi,ha]
  have x1:xRow (rOf cE l) (nNat (i:Int)) 1=rOf cP a.2.1:=by simp [hi,ha]
  have x2:xRow (rOf cE l) (nNat (i:Int)) 2=rOf cAc a.2.2:=by simp [hi,ha]
  show ∃ k:Nat,qdy [.ptr 0 0,.sl (rOf cS (p++b)) (.tok 0),.int .i64 (i:Nat)] ⟨[[.sl (rOf cD ds) .non,.sl (rOf cE l) .non,.sl (rOf cRu rs) .non]],[((p++b).length,1,9)],[71]⟩=_
  refine⟨(p++b).length,?_⟩;rw [qvf];simp only [qiV,q1,q3,q4,x0,x1,x2,qau,e1,e3,z2,z4];simp
 ·intro b hb;have q1:iLt (l.length:Nat) (xLen (rOf cE l))=false:=by simp
  show qdy [.ptr 0 0,.sl (rOf cS (p++b)) (.tok 0),.int .i64 (l.length:Nat)] ⟨[[.sl (rOf cD ds) .non,.sl (rOf cE l) .non,.sl (rOf cRu rs) .non]],[((p++b).length,1,9)],[71]⟩=_
  rw [qvf];simp only [qiV,q1];simp
theorem qz0 {l:List Ru} (hs:∀ a∈l,ruS a) (hn:l.length≤100000) (ds:List De) (es:List En) {p:List Txt} (hp:p.length≤100000000) :
  (l.all ruOk=true→qdx [.ptr 0 0,.sl (rOf cS p) (.tok 0),.int .i64 0] ⟨[[.sl (rOf cD ds) .non,.sl (rOf cE es) .non,.sl (rOf cRu l) .non]],[(p.length,1,9)],[71]⟩=some (.exit 4,[.sl (rOf cS (p++l.map ruT)) (.tok 0)],⟨[[.sl (rOf cD ds) .non,.sl (rOf cE es) .non,.sl (rOf cRu l) .non]],[((p++l.map ruT).length,1,9)],[71]⟩)) ∧
  (l.all ruOk=false→∃ k:Nat,qdx [.ptr 0 0,.sl (rOf cS p) (.tok 0),.int .i64 0] ⟨[[.sl (rOf cD ds) .non,.sl (rOf cE es) .non,.sl (rOf cRu l) .non]],[(p.length,1,9)],[71]⟩=some (.ret,[.sl [] .full,.int .i64 140],⟨[[.sl (rOf cD ds) .non,.sl (rOf cE es) .non,.sl (rOf cRu l) .non]],[(k,1,9)],[71]⟩)):=by
 have hl:=qcy (l:=l) l.length (Nat.le_refl _) (V:=fun i b=>qdx [.ptr 0 0,.sl (rOf cS (p++b)) (.tok 0),.int .i64 (i:Nat)] ⟨[[.sl (rOf cD ds) .non,.sl (rOf cE es) .non,.sl (rOf cRu l) .non]],[((p++b).length,1,9)],[71]⟩) ruOk ruT (fun b=>some (.exit 4,[.sl (rOf cS (p++b)) (.tok 0)],⟨[[.sl (rOf cD ds) .non,.sl (rOf cE es) .non,.sl (rOf cRu l) .non]],[((p++b).length,1,9)],[71]⟩)) (fun r=>∃ k:Nat,r=some (.ret,[.sl [] .full,.int .i64 140],⟨[[.sl (rOf cD ds) .non,.sl (rOf cE es) .non,.sl (rOf cRu l) .non]],[(k,1,9)],[71]⟩)) ?_ ?_ ?_
 ·simp only [List.take_length,List.append_nil] at hl;exact hl
 ·intro i b a hb hi hi2 ha ho;have hm:ruS a:=hs a (ha ▸ List.getElem_mem hi);have q1:iLt (i:Int) (xLen (rOf cRu l))=true:=by simp;omega
  have q3:qav (i:Int)=true:=by simp
  have q4:qa3 [PV.str [],.sl [] .full,.sl [] .full] (rOf cRu l) (nNat (i:Int))=true:=by simp;omega
  have w:=qaZ (i:=i) (by omega)
  have e1:=qES hm;have e2:=qFg hm;have e3:=qF9 hm;rw [ho] at e2 e3;have z1:iNe (tdE true) 0=false:=rfl;have z2:iNe (tdE false) 0=true:=rfl;have z3:∀ s,tdS true s=s:=fun _=>rfl
  have z4:tdE false=140:=rfl;have x0:xStr (rOf cRu l) (nNat (i:Int)) 0=a.1.1:=by simp [hi,ha]
  have x1:xRow (rOf cRu l) (nNat (i:Int)) 1=rOf cM a.1.2:=by simp [hi,ha]
  have x2:xRow (rOf cRu l) (nNat (i:Int)) 2=rOf cL a.2:=by simp [hi,ha]
  have o1:∀ c,qaI (rOf cS (p++b)) [c] 16=true:=fun c=>by simp;omega
  have o2:∀ t:Txt,qaH [[PV.str t]] 1=true:=fun t=>by simp [one]
  have o3:qaB (rOf cS (p++b)) 1=true:=qcH _;have o4:nEq (p++b).length (nXs (rOf cS (p++b)))=true:=by simp
  show qdx [.ptr 0 0,.sl (rOf cS (p++b)) (.tok 0),.int .i64 (i:Nat)] ⟨[[.sl (rOf cD ds) .non,.sl (rOf cE es) .non,.sl (rOf cRu l) .non]],[((p++b).length,1,9)],[71]⟩=qdx [.ptr 0 0,.sl (rOf cS (p++(b++[ruT a]))) (.tok 0),.int .i64 ((i+1:Nat):Int)] ⟨[[.sl (rOf cD ds) .non,.sl (rOf cE es) .non,.sl (rOf cRu l) .non]],[((p++(b++[ruT a])).length,1,9)],[71]⟩
  rw [qs9];simp only [qiZ,q1,q3,q4,x0,x1,x2,qau,e1,e2,e3,z1,z3,o1,o2,o3,o4,w];simp
 ·intro i b a hb hi hi2 ha ho;have hm:ruS a:=hs a (ha ▸ List.getElem_mem hi);have q1:iLt (i:Int) (xLen (rOf cRu l))=true:=by simp;omega
  have q3:qav (i:Int)=true:=by simp
  have q4:qa3 [PV.str [],.sl [] .full,.sl [] .full] (rOf cRu l) (nNat (i:Int))=true:=by simp;omega
  have w:=qaZ (i:=i) (by omega)
  have e1:=qES hm;have e2:=qFg hm;have e3:=qF9 hm;rw [ho] at e2 e3;have z1:iNe (tdE true) 0=false:=rfl;have z2:iNe (tdE false) 0=true:=rfl;have z3:∀ s,tdS true s=s:=fun _=>rfl
  have z4:tdE false=140:=rfl;have x0:xStr (rOf cRu l) (nNat (i:Int)) 0=a.1.1:=by simp [hi,ha]
  have x1:xRow (rOf cRu l) (nNat (i:Int)) 1=rOf cM a.1.2:=by simp [hi,ha]
  have x2:xRow (rOf cRu l) (nNat (i:Int)) 2=rOf cL a.2:=by simp [hi,ha]
  show ∃ k:Nat,qdx [.ptr 0 0,.sl (rOf cS (p++b)) (.tok 0),.int .i64 (i:Nat)] ⟨[[.sl (rOf cD ds) .non,.sl (rOf cE es) .non,.sl (rOf cRu l) .non]],[((p++b).length,1,9)],[71]⟩=_
  refine⟨(p++b).length,?_⟩;rw [qs9];simp only [qiZ,q1,q3,q4,x0,x1,x2,qau,e1,e3,z2,z4];simp
 ·intro b hb;have q1:iLt (l.length:Nat) (xLen (rOf cRu l))=false:=by simp
  show qdx [.ptr 0 0,.sl (rOf cS (p++b)) (.tok 0),.int .i64 (l.length:Nat)] ⟨[[.sl (rOf cD ds) .non,.sl (rOf cE es) .non,.sl (rOf cRu l) .non]],[((p++b).length,1,9)],[71]⟩=_
  rw [qs9];simp only [qiZ,q1];simp
def okP (ds:List De) (es:List En) (rs:List Ru):Bool:=ds.all deOk&&es.all enOk&&rs.all ruOk
def lsP (ds:List De) (es:List En) (rs:List Ru):List Txt:=(ds.map deT++es.map enT)++rs.map ruT
structure SzP (ds:List De) (es:List En) (rs:List Ru):Prop where
 d:ds.length≤100∧∀ x∈ds,deS x
 e:es.length≤100∧∀ x∈es,enS x
 r:rs.length≤100∧∀ x∈rs,ruS x
theorem qqh {ds:List De} {es:List En} {rs:List Ru} (h:SzP ds es rs):qpH (rOf cD ds) (rOf cE es) (rOf cRu rs)=some (.tup [.sl (rOf cS (if okP ds es rs then lsP ds es rs else [])) .non,.int .i64 (tdE (okP ds es rs))]):=by
 obtain⟨⟨hd,hds⟩,⟨he,hes⟩,⟨hr,hrs⟩⟩:=h;have g1:=qzH (l:=ds) hds (by omega) es rs (p:=[]) (by decide)
 have g2:=qzC (l:=es) hes (by omega) ds rs (p:=ds.map deT) (by simp;omega)
 have g3:=qz0 (l:=rs) hrs (by omega) ds es (p:=ds.map deT++es.map enT) (by simp;omega)
 unfold qpH qvc okP;cases h1:ds.all deOk with
 |false =>
  obtain⟨n1,m1⟩:=g1.2 h1;have w1:qcM [] 0 (rOf cD ds) (rOf cE es) (rOf cRu rs) 0=_:=m1;have a1:qb3 [] 0 (rOf cD ds) (rOf cE es) (rOf cRu rs) 0=true:=by simp only [qb3,qcp,qcE,qaG,qb6,qce,qaA,qch,qaz,qci,qay,qb0,qaF,w1];simp
  have c1:qb0 [] 0 (rOf cD ds) (rOf cE es) (rOf cRu rs) 0=[]:=by simp only [qb3,qcp,qcE,qaG,qb6,qce,qaA,qch,qaz,qci,qay,qb0,qaF,w1];simp
  have d1:qb6 [] 0 (rOf cD ds) (rOf cE es) (rOf cRu rs) 0=140:=by simp only [qb3,qcp,qcE,qaG,qb6,qce,qaA,qch,qaz,qci,qay,qb0,qaF,w1];simp
  simp only [a1,c1,d1];simp [td_f,te_f]
 |true =>
  have w1:qcM [] 0 (rOf cD ds) (rOf cE es) (rOf cRu rs) 0=_:=g1.1 h1;have a1:qb3 [] 0 (rOf cD ds) (rOf cE es) (rOf cRu rs) 0=false:=Bool.eq_false_iff.2 (by simp only [qb3,qcp,qcE,qaG,qb6,qce,qaA,qch,qaz,qci,qay,qb0,qaF,w1];simp)
  have b1:qcp [] 0 (rOf cD ds) (rOf cE es) (rOf cRu rs) 0=true:=by simp only [qb3,qcp,qcE,qaG,qb6,qce,qaA,qch,qaz,qci,qay,qb0,qaF,w1];simp
  have c1:qaF [] 0 (rOf cD ds) (rOf cE es) (rOf cRu rs) 0=rOf cS (ds.map deT):=by simp only [qb3,qcp,qcE,qaG,qb6,qce,qaA,qch,qaz,qci,qay,qb0,qaF,w1];simp [lsP]
  have r2_1:qaA [] 0 (rOf cD ds) (rOf cE es) (rOf cRu rs) 0=(rOf cD ds):=by simp only [qb3,qcp,qcE,qaG,qb6,qce,qaA,qch,qaz,qci,qay,qb0,qaF,w1];simp
  have r3_1:qaz [] 0 (rOf cD ds) (rOf cE es) (rOf cRu rs) 0=(rOf cE es):=by simp only [qb3,qcp,qcE,qaG,qb6,qce,qaA,qch,qaz,qci,qay,qb0,qaF,w1];simp
  have r4_1:qay [] 0 (rOf cD ds) (rOf cE es) (rOf cRu rs) 0=(rOf cRu rs):=by simp only [qb3,qcp,qcE,qaG,qb6,qce,qaA,qch,qaz,qci,qay,qb0,qaF,w1];simp
  have k_1:qaG [] 0 (rOf cD ds) (rOf cE es) (rOf cRu rs) 0=(ds.map deT).length:=by simp only [qb3,qcp,qcE,qaG,qb6,qce,qaA,qch,qaz,qci,qay,qb0,qaF,w1];simp
  cases h2:es.all enOk with
  |false =>
   obtain⟨n2,m2⟩:=g2.2 h2;have w2:qcP (rOf cS (ds.map deT)) 0 (rOf cD ds) (rOf cE es) (rOf cRu rs) (ds.map deT).length=_:=m2;have a2:qb4 (rOf cS (ds.map deT)) 0 (rOf cD ds) (rOf cE es) (rOf cRu rs) (ds.map deT).length=true:=by simp only [qb4,qcm,qcF,qbJ,qb8,qcg,qbm,qcd,qbo,qcj,qbp,qb2,qbI,w2];simp
   have c2:qb2 (rOf cS (ds.map deT)) 0 (rOf cD ds) (rOf cE es) (rOf cRu rs) (ds.map deT).length=[]:=by simp only [qb4,qcm,qcF,qbJ,qb8,qcg,qbm,qcd,qbo,qcj,qbp,qb2,qbI,w2];simp
   have d2:qb8 (rOf cS (ds.map deT)) 0 (rOf cD ds) (rOf cE es) (rOf cRu rs) (ds.map deT).length=140:=by simp only [qb4,qcm,qcF,qbJ,qb8,qcg,qbm,qcd,qbo,qcj,qbp,qb2,qbI,w2];simp
   simp only [a1,b1,c1,r2_1,r3_1,r4_1,k_1,a2,c2,d2];simp [td_f,te_f]
  |true =>
   have w2:qcP (rOf cS (ds.map deT)) 0 (rOf cD ds) (rOf cE es) (rOf cRu rs) (ds.map deT).length=_:=g2.1 h2;have a2:qb4 (rOf cS (ds.map deT)) 0 (rOf cD ds) (rOf cE es) (rOf cRu rs) (ds.map deT).length=false:=Bool.eq_false_iff.2 (by simp only [qb4,qcm,qcF,qbJ,qb8,qcg,qbm,qcd,qbo,qcj,qbp,qb2,qbI,w2];simp)
   have b2:qcm (rOf cS (ds.map deT)) 0 (rOf cD ds) (rOf cE es) (rOf cRu rs) (ds.map deT).length=true:=by simp only [qb4,qcm,qcF,qbJ,qb8,qcg,qbm,qcd,qbo,qcj,qbp,qb2,qbI,w2];simp
   have c2:qbI (rOf cS (ds.map deT)) 0 (rOf cD ds) (rOf cE es) (rOf cRu rs) (ds.map deT).length=rOf cS (ds.map deT++es.map enT):=by simp only [qb4,qcm,qcF,qbJ,qb8,qcg,qbm,qcd,qbo,qcj,qbp,qb2,qbI,w2];simp [lsP]
   have r2_2:qbm (rOf cS (ds.map deT)) 0 (rOf cD ds) (rOf cE es) (rOf cRu rs) (ds.map deT).length=(rOf cD ds):=by simp only [qb4,qcm,qcF,qbJ,qb8,qcg,qbm,qcd,qbo,qcj,qbp,qb2,qbI,w2];simp
   have r3_2:qbo (rOf cS (ds.map deT)) 0 (rOf cD ds) (rOf cE es) (rOf cRu rs) (ds.map deT).length=(rOf cE es):=by simp only [qb4,qcm,qcF,qbJ,qb8,qcg,qbm,qcd,qbo,qcj,qbp,qb2,qbI,w2];simp
   have r4_2:qbp (rOf cS (ds.map deT)) 0 (rOf cD ds) (rOf cE es) (rOf cRu rs) (ds.map deT).length=(rOf cRu rs):=by simp only [qb4,qcm,qcF,qbJ,qb8,qcg,qbm,qcd,qbo,qcj,qbp,qb2,qbI,w2];simp
   have k_2:qbJ (rOf cS (ds.map deT)) 0 (rOf cD ds) (rOf cE es) (rOf cRu rs) (ds.map deT).length=(ds.map deT++es.map enT).length:=by simp only [qb4,qcm,qcF,qbJ,qb8,qcg,qbm,qcd,qbo,qcj,qbp,qb2,qbI,w2];simp
   cases h3:rs.all ruOk with
   |false =>
    obtain⟨n3,m3⟩:=g3.2 h3;have w3:qcN (rOf cS (ds.map deT++es.map enT)) 0 (rOf cD ds) (rOf cE es) (rOf cRu rs) (ds.map deT++es.map enT).length=_:=m3;have a3:qc4 (rOf cS (ds.map deT++es.map enT)) 0 (rOf cD ds) (rOf cE es) (rOf cRu rs) (ds.map deT++es.map enT).length=true:=by simp only [qc4,qdv,qeb,qej,qcZ,qdf,qdh,qdl,qdk,qdg,qdj,qc5,qc0,w3];simp
    have c3:qc5 (rOf cS (ds.map deT++es.map enT)) 0 (rOf cD ds) (rOf cE es) (rOf cRu rs) (ds.map deT++es.map enT).length=[]:=by simp only [qc4,qdv,qeb,qej,qcZ,qdf,qdh,qdl,qdk,qdg,qdj,qc5,qc0,w3];simp
    have d3:qcZ (rOf cS (ds.map deT++es.map enT)) 0 (rOf cD ds) (rOf cE es) (rOf cRu rs) (ds.map deT++es.map enT).length=140:=by simp only [qc4,qdv,qeb,qej,qcZ,qdf,qdh,qdl,qdk,qdg,qdj,qc5,qc0,w3];simp
    simp only [a1,b1,c1,r2_1,r3_1,r4_1,k_1,a2,b2,c2,r2_2,r3_2,r4_2,k_2,a3,c3,d3];simp [td_f,te_f]
   |true =>
    have w3:qcN (rOf cS (ds.map deT++es.map enT)) 0 (rOf cD ds) (rOf cE es) (rOf cRu rs) (ds.map deT++es.map enT).length=_:=g3.1 h3;have a3:qc4 (rOf cS (ds.map deT++es.map enT)) 0 (rOf cD ds) (rOf cE es) (rOf cRu rs) (ds.map deT++es.map enT).length=false:=Bool.eq_false_iff.2 (by simp only [qc4,qdv,qeb,qej,qcZ,qdf,qdh,qdl,qdk,qdg,qdj,qc5,qc0,w3];simp)
    have b3:qdv (rOf cS (ds.map deT++es.map enT)) 0 (rOf cD ds) (rOf cE es) (rOf cRu rs) (ds.map deT++es.map enT).length=true:=by simp only [qc4,qdv,qeb,qej,qcZ,qdf,qdh,qdl,qdk,qdg,qdj,qc5,qc0,w3];simp
    have c3:qc0 (rOf cS (ds.map deT++es.map enT)) 0 (rOf cD ds) (rOf cE es) (rOf cRu rs) (ds.map deT++es.map enT).length=rOf cS (lsP ds es rs):=by simp only [qc4,qdv,qeb,qej,qcZ,qdf,qdh,qdl,qdk,qdg,qdj,qc5,qc0,w3];simp [lsP]
    simp only [a1,b1,c1,r2_1,r3_1,r4_1,k_1,a2,b2,c2,r2_2,r3_2,r4_2,k_2,a3,b3,c3];simp [td_t,te_t]
theorem qJk {ds:List De} {es:List En} {rs:List Ru} (h:SzP ds es rs):qg4 (rOf cD ds) (rOf cE es) (rOf cRu rs)=true:=by simp only [qg4,qif,qgl,qqh h];simp
theorem qH1 {ds:List De} {es:List En} {rs:List Ru} (h:SzP ds es rs):qgl (rOf cD ds) (rOf cE es) (rOf cRu rs)=rOf cS (if okP ds es rs then lsP ds es rs else []):=by simp only [qg4,qif,qgl,qqh h];simp
theorem qJM {ds:List De} {es:List En} {rs:List Ru} (h:SzP ds es rs):qif (rOf cD ds) (rOf cE es) (rOf cRu rs)=tdE (okP ds es rs):=by simp only [qg4,qif,qgl,qqh h];simp
def lnsT (l:List Txt) (i:Nat):Txt:=((l.take i).map (·++[10])).flatten
theorem qIE {l:List Txt} {i:Nat} (hi:i < l.length):lnsT l (i+1)=lnsT l i++(l[i]++[10]):=by
 unfold lnsT;rw [← List.take_append_getElem hi,List.map_append,List.flatten_append];have e:(List.map (fun x:Txt=>x++[10]) [l[i]]).flatten=l[i]++[10]:=by simp
 rw [e]
theorem qEO {M:Nat}:∀ (l:List Txt),(∀ x∈l,x.length≤M)→((l.map (·++[10])).flatten).length≤l.length * (M+1)
 |[],_=>by simp
 |x::l,h=>by
  have h1:=h x (by simp)
  have h2:=qEO l (fun z hz=>h z (by simp [hz]))
  simp only [List.map_cons,List.flatten_cons,List.length_append,List.length_cons,List.length_nil] at h2 ⊢;rw [Nat.add_mul];omega
theorem qN1 {l:List Txt} (h:∀ x∈l,x.length≤1000000) (hn:l.length≤1000) (i:Nat):(lnsT l i).length≤1000 * 1000001:=by
 unfold lnsT;refine Nat.le_trans (qEO (M:=1000000) _ (fun x hx=>h x (List.mem_of_mem_take hx))) ?_
 refine Nat.mul_le_mul ?_ (Nat.le_refl _);rw [List.length_take];omega
theorem qv9 (r r2 r3:qR) {l:List Txt} (hw:∀ x∈l,x.length≤1000000) (hn:l.length≤1000):∀ (m i:Nat),i+m=l.length →
  qfZ [.sl (rOf cS l) .non,.sl (qab (lnsT l i)) (.tok 0),.int .i64 (i:Nat)] ⟨[[.sl r .non,.sl r2 .non,.sl r3 .non]],[((lnsT l i).length,1,5)],[71]⟩ =
   some (.exit 0,[.sl (qab (lnsT l l.length)) (.tok 0)],⟨[[.sl r .non,.sl r2 .non,.sl r3 .non]],[((lnsT l l.length).length,1,5)],[71]⟩):=by
 intro m
 induction m with
 |zero =>
  intro i hi;have:i=l.length:=by omega
  subst this;have t1:iLt (l.length:Int) (xLen (rOf cS l))=false:=by simp
  rw [qs4];simp only [qgy,t1];simp
 |succ m ih =>
  intro i hi;have w:=qaZ (i:=i) (by omega)
  have hlt:i < l.length:=by omega
  rw [← ih (i+1) (by omega),qIE hlt]
  have hb:=qN1 hw hn i;have ha:(l[i]).length≤1000000:=hw _ (List.getElem_mem hlt);have q1:iLt (i:Int) (xLen (rOf cS l))=true:=by simp;omega
  have q2:qa3 [PV.str []] (rOf cS l) (nNat (i:Int))=true:=by simp;omega
  have q3:xStr (rOf cS l) (nNat (i:Int)) 0=l[i]:=by simp [hlt]
  have q4:qav (i:Int)=true:=by simp
  generalize l[i]=x at ha q3 ⊢;generalize lnsT l i=b at hb ⊢;have ten:([[PV.int .u8 10]]:List (List PV))=qab [10]:=rfl;have o2:qaH (qab x) 1=true:=qfg _;have o3:qaH (qab [10]) 1=true:=qfg _;have o5:qaB (qab b) 1=true:=qcx _;have o6:qaB (qab (b++x)) 1=true:=qcx _;have g1:qaI (qab b) (qab x) 1=true:=qcI (by omega)
  have g2:qaI (qab b) (qab [10]) 1=true:=qcI (by simp;omega)
  have g3:qaI (qab (b++x)) (qab [10]) 1=true:=qcI (by simp;omega)
  have e1:nEq b.length (nXs (qab b))=true:=by simp
  rw [qs4];cases x with
  |nil =>
   simp only [qgy,q1,q2,q3,q4,ten,g1,g2,o2,o3,o5,w,e1,qeD];simp
  |cons y x =>
   have ny:xNil (qab (y::x))=false:=qgW (by simp)
   simp only [qgy,q1,q2,q3,q4,ten,g1,g2,g3,o2,o3,o5,o6,w,e1,ny,qeD];simp
def prT (ds:List De) (es:List En) (rs:List Ru):Txt:=((lsP ds es rs).map (·++[10])).flatten
def prE (ds:List De) (es:List En) (rs:List Ru):Int:=if okP ds es rs then (if (prT ds es rs).length≤65536 then 0 else 2) else 140
theorem qRP {ds:List De} {es:List En} {rs:List Ru} (h:SzP ds es rs):(∀ x∈lsP ds es rs,x.length≤1000000)∧(lsP ds es rs).length≤1000:=by
 obtain⟨⟨hd,hds⟩,⟨he,hes⟩,⟨hr,hrs⟩⟩:=h;unfold lsP;constructor
 ·intro x hx;simp only [List.mem_append,List.mem_map] at hx;rcases hx with (⟨a,ha,rfl⟩|⟨a,ha,rfl⟩)|⟨a,ha,rfl⟩
  ·have:=qCU (hds a ha);omega
  ·have:=qDq (hes a ha);omega
  ·have:=qCs (hrs a ha);omega
 ·simp;omega
theorem qkX {ds:List De} {es:List En} {rs:List Ru} (h:SzP ds es rs):qiL (rOf cD ds) (rOf cE es) (rOf cRu rs)=some (.tup [.str (if prE ds es rs=0 then prT ds es rs else []),.int .i64 (prE ds es rs)]):=by
 have e1:=qJk h;have e2:=qH1 h;have e3:=qJM h;unfold qiL qnl;simp only [qau,e1,e2,e3];cases ho:okP ds es rs with
 |false=>simp [prE,ho,te_f]
 |true =>
  have hl:=qRP h;have w0:=qv9 (rOf cD ds) (rOf cE es) (rOf cRu rs) hl.1 hl.2 (lsP ds es rs).length 0 (by omega)
  have hT:lnsT (lsP ds es rs) (lsP ds es rs).length=prT ds es rs:=by
   unfold lnsT prT;rw [List.take_length]
  rw [hT] at w0;have w1:qe0 (rOf cS (lsP ds es rs)) [] 0 (rOf cD ds) (rOf cE es) (rOf cRu rs) 0=_:=w0;have b0:qfj (rOf cS (lsP ds es rs)) [] 0 (rOf cD ds) (rOf cE es) (rOf cRu rs) 0=true:=by simp only [qex,qfj,qj2,qkp,qh6,qij,w1];simp
  have b1:qex (rOf cS (lsP ds es rs)) [] 0 (rOf cD ds) (rOf cE es) (rOf cRu rs) 0=qab (prT ds es rs):=by simp only [qex,qfj,qj2,qkp,qh6,qij,w1];simp
  simp only [te_t,if_true,b0,b1];by_cases hL:(prT ds es rs).length≤65536
  ·have x1:iLt 65536 (xLen (qab (prT ds es rs)))=false:=by simp;omega
   have x2:prE ds es rs=0:=by simp [prE,ho,hL]
   simp [x1,x2];omega
  ·have x1:iLt 65536 (xLen (qab (prT ds es rs)))=true:=by simp;omega
   have x2:prE ds es rs=2:=by simp [prE,ho,hL]
   simp [x1,x2];omega
theorem qDE {ds:List De} {es:List En} {rs:List Ru} (h:SzP ds es rs):qe7 (rOf cD ds) (rOf cE es) (rOf cRu rs)=true:=by simp only [qe7,qf4,qfR,qkX h];simp
theorem qDt {ds:List De} {es:List En} {rs:List Ru} (h:SzP ds es rs):qfR (rOf cD ds) (rOf cE es) (rOf cRu rs)=if prE ds es rs=0 then prT ds es rs else []:=by simp only [qe7,qf4,qfR,qkX h];simp
theorem qC1 {ds:List De} {es:List En} {rs:List Ru} (h:SzP ds es rs):qf4 (rOf cD ds) (rOf cE es) (rOf cRu rs)=prE ds es rs:=by simp only [qe7,qf4,qfR,qkX h];simp
end Go.Pv
set_option maxHeartbeats 8000000
set_option maxRecDepth 200000
set_option linter.unusedSimpArgs false
set_option linter.unusedVariables false
namespace Go.Pv
open Go Go.Proofs Go.RowKit
theorem qpB (s:Txt):(cutT s).length≤300:=by
 unfold cutT;rw [List.length_take];omega
theorem qK3 {t:Tm} (h:tmR t):tmS (cpTm t):=⟨qpB _,h⟩
theorem qI5 {a:At} (h:atR a):atS (cpAt a):=by
 refine⟨qpB _,by simp [cpAt];omega,fun t ht=>?_⟩
 simp only [cpAt,List.mem_map] at ht;obtain⟨u,hu,rfl⟩:=ht;exact qK3 (h u (List.mem_of_mem_take hu))
theorem qTB {l:Li} (h:liR l):liS (cpLi l):=⟨qI5 h.1,qK3 h.2.1,qK3 h.2.2⟩
theorem qSO {r:Ru} (h:ruR r):ruS (cpRu r):=by
 refine⟨qI5 h.1,by simp [cpRu];omega,fun t ht=>?_⟩
 simp only [cpRu,List.mem_map] at ht;obtain⟨u,hu,rfl⟩:=ht;exact qTB (h.2 u (List.mem_of_mem_take hu))
theorem qTh (d:De):deS (cpDe d):=⟨qpB _,by simp [cpDe];omega⟩
theorem qSN {o:En} (h:enR o):enS (cpEn o):=by
 refine⟨qpB _,⟨by simp [cpEn];omega,fun t ht=>?_⟩,⟨by simp [cpEn];omega,fun t ht=>?_⟩⟩
 ·simp only [cpEn,List.mem_map] at ht;obtain⟨u,hu,rfl⟩:=ht;exact qpB _
 ·simp only [cpEn,List.mem_map] at ht;obtain⟨u,hu,rfl⟩:=ht;exact qI5 (h u (List.mem_of_mem_take hu))
def prR (p:Pr):Prop:=(∀ o∈p.2.1,enR o)∧∀ x∈p.2.2,ruR x
theorem qSE {p:Pr} (h:prR p):SzP (cpPr p).1 (cpPr p).2.1 (cpPr p).2.2:=by
 refine⟨⟨by simp [cpPr];omega,fun t ht=>?_⟩,⟨by simp [cpPr];omega,fun t ht=>?_⟩,⟨by simp [cpPr];omega,fun t ht=>?_⟩⟩
 ·simp only [cpPr,List.mem_map] at ht;obtain⟨u,hu,rfl⟩:=ht;exact qTh u
 ·simp only [cpPr,List.mem_map] at ht;obtain⟨u,hu,rfl⟩:=ht;exact qSN (h.1 u (List.mem_of_mem_take hu))
 ·simp only [cpPr,List.mem_map] at ht;obtain⟨u,hu,rfl⟩:=ht;exact qSO (h.2 u (List.mem_of_mem_take hu))
def awX:Tm:=(1,[88],0,0,[])
def awP:At:=([112],[awX])
def awQ:At:=([113],[awX,(3,[],0,0,[])])
def awR:Ru:=(awP,[(2,awQ,0,tm0,tm0),(3,([],[]),2,awX,(2,[],1,-3,[]))])
def awO:En:=([103,111],[([88],1)],[(true,awP)])
theorem qQY:tmS awX:=⟨by decide,by decide,by decide⟩
theorem qTV:tmS tm0:=⟨by decide,by decide,by decide⟩
theorem qSl:atS awP:=⟨by decide,by decide,fun t ht=>by
 simp only [awP,List.mem_singleton] at ht;subst ht;exact qQY⟩
theorem qPK:ruS awR:=by
 refine⟨qSl,by decide,fun l hl=>?_⟩
 simp only [awR,List.mem_cons,List.not_mem_nil,or_false] at hl;rcases hl with rfl|rfl
 ·refine⟨⟨by decide,by decide,fun t ht=>?_⟩,qTV,qTV⟩
  simp only [awQ,List.mem_cons,List.not_mem_nil,or_false] at ht;rcases ht with rfl|rfl
  ·exact qQY
  ·exact⟨by decide,by decide,by decide⟩
 ·exact⟨⟨by decide,by decide,fun t ht=>by simp at ht⟩,qQY,⟨by decide,by decide,by decide⟩⟩
theorem qSg:enS awO:=by
 refine⟨by decide,⟨by decide,fun t ht=>?_⟩,⟨by decide,fun t ht=>?_⟩⟩
 ·simp only [awO,List.mem_singleton] at ht;subst ht;exact (by decide:(88::([]:Txt)).length≤300)
 ·simp only [awO,List.mem_singleton] at ht;subst ht;exact qSl
theorem qO3:ruOk awR=true:=by kernel_rfl
theorem qUB:ruT awR=[112,40,88,41,32,58,45,32,110,111,116,32,113,40,88,44,32,95,41,44,32,88,32,33,61,32,45,51,46]:=by kernel_rfl
theorem qOQ:enOk awO=true:=by kernel_rfl
theorem qT7:enT awO=[111,110,32,103,111,40,88,32,105,110,116,41,58,32,43,112,40,88,41,46]:=by kernel_rfl
theorem awN:nmB [110,111,116]=false:=by kernel_rfl
theorem awV:vrB [65,98]=true:=by kernel_rfl
theorem qzU:qxc=some (.bool true):=by
 unfold qxc qrw;have e1:qgw awR.1.1 (rOf cM awR.1.2) (rOf cL awR.2)=true:=qMz qPK;have e2:qko awR.1.1 (rOf cM awR.1.2) (rOf cL awR.2)=_:=qM3 qPK;have e3:qj0 awR.1.1 (rOf cM awR.1.2) (rOf cL awR.2)=_:=qNn qPK;have f1:qlD awO.1 (rOf cP awO.2.1) (rOf cAc awO.2.2)=true:=qSD qSg;have f2:qxl awO.1 (rOf cP awO.2.1) (rOf cAc awO.2.2)=_:=qTG qSg;have f3:qy9 awO.1 (rOf cP awO.2.1) (rOf cAc awO.2.2)=_:=qTz qSg;rw [qO3,qUB] at e2;rw [qO3] at e3;rw [qOQ,qT7] at f2;rw [qOQ] at f3;show (Tr.ite (qgw awR.1.1 (rOf cM awR.1.2) (rOf cL awR.2)) (Tr.ite (qlD awO.1 (rOf cP awO.2.1) (rOf cAc awO.2.2)) (Tr.ite (iEq (qj0 awR.1.1 (rOf cM awR.1.2) (rOf cL awR.2)) 0)
  (Tr.ite (sEq (qko awR.1.1 (rOf cM awR.1.2) (rOf cL awR.2)) [112,40,88,41,32,58,45,32,110,111,116,32,113,40,88,44,32,95,41,44,32,88,32,33,61,32,45,51,46])
   (Tr.ite (iEq (qy9 awO.1 (rOf cP awO.2.1) (rOf cAc awO.2.2)) 0) (Tr.ite (sEq (qxl awO.1 (rOf cP awO.2.1) (rOf cAc awO.2.2)) [111,110,32,103,111,40,88,32,105,110,116,41,58,32,43,112,40,88,41,46])
    (Tr.ite (qet [110,111,116]) (Tr.ite (bNot (qgC [110,111,116])) (Tr.ite (qia [65,98]) (Tr.ret (PV.bool (qoh [65,98]))) Tr.fail) (Tr.ret (PV.bool false))) Tr.fail)
    (Tr.ret (PV.bool false))) (Tr.ret (PV.bool false))) (Tr.ret (PV.bool false))) (Tr.ret (PV.bool false))) Tr.fail) Tr.fail).run=_
 rw [e1,e2,e3,f1,f2,f3,qr2 (by decide),qzb (by decide),qB8 (by decide),qJg (by decide),awN,awV]
 rfl
theorem qNL:qoI=true:=by simp [qoI,qp1,qzU]
theorem qPM:qp1=true:=by simp [qp1,qzU]
theorem qoX:∀ l:List Txt,qeB l []=l.flatten
 |[]=>by rw [qoH];rfl
 |[a]=>by rw [qlg];simp
 |a::b::l=>by
  rw [qlF,qoX (b::l)];simp
theorem qkU {ds:List De} {es:List En} {rs:List Ru} (h:SzP ds es rs):qiY (rOf cD ds) (rOf cE es) (rOf cRu rs)=some (.tup [.str (if prE ds es rs=0 then prT ds es rs else []),.int .i64 (prE ds es rs)]):=by
 obtain⟨⟨hd,hds⟩,⟨he,hes⟩,⟨hr,hrs⟩⟩:=h;have d1:=qSm hds (by omega) (sep:=[]) (by decide)
 have d2:=qTA hds (by omega) (sep:=[]) (by decide)
 have d3:=qTw hds (by omega) (sep:=[]) (by decide)
 have e1:=qS4 hes (by omega) (sep:=[]) (by decide)
 have e2:=qSj hes (by omega) (sep:=[]) (by decide)
 have e3:=qTD hes (by omega) (sep:=[]) (by decide)
 have r1:=qTr hrs (by omega) (sep:=[]) (by decide)
 have r2:=qTZ hrs (by omega) (sep:=[]) (by decide)
 have r3:=qSq hrs (by omega) (sep:=[]) (by decide)
 have l1:=qkD (ok:=deOk) (T:=lnD) (M:=1001) [] ds 100 hd (fun a ha=>qJF (hds a ha))
 have l2:=qkD (ok:=enOk) (T:=lnO) (M:=140001) [] es 100 he (fun a ha=>qIX (hes a ha))
 have l3:=qkD (ok:=ruOk) (T:=lnR) (M:=140001) [] rs 100 hr (fun a ha=>qKn (hrs a ha))
 simp only [List.length_nil] at l1 l2 l3;unfold qiY qnv;simp only [qau,d1,d2,d3,e1,e2,e3,r1,r2,r3];have o1:qaE (jn deOk lnD [] ds) (jn enOk lnO [] es)=true:=qa0 (by omega)
 have o2:qaE (sApp (jn deOk lnD [] ds) (jn enOk lnO [] es)) (jn ruOk lnR [] rs)=true:=qa0 (by simp;omega)
 rw [o1,o2];unfold prE okP;cases h1:ds.all deOk with
 |false=>simp
 |true =>
  cases h2:es.all enOk with
  |false=>simp
  |true =>
   cases h3:rs.all ruOk with
   |false=>simp
   |true =>
    have hT:sApp (sApp (jn deOk lnD [] ds) (jn enOk lnO [] es)) (jn ruOk lnR [] rs)=prT ds es rs:=by
     rw [qNe h1,qNe h2,qNe h3,qoX,qoX,qoX];have a1:(fun a=>deT a++[10])=lnD:=rfl
     have a2:(fun a=>enT a++[10])=lnO:=rfl
     have a3:(fun a=>ruT a++[10])=lnR:=rfl
     simp [prT,lsP,Function.comp_def,a1,a2,a3]
    rw [hT];by_cases hL:(prT ds es rs).length≤65536
    ·have x1:iLt 65536 (sLen (prT ds es rs))=false:=by simp;omega
     simp only [nt_t,x1];simp [hL]
    ·have x1:iLt 65536 (sLen (prT ds es rs))=true:=by simp;omega
     simp only [nt_t,x1];simp [hL]
theorem qCq {ds:List De} {es:List En} {rs:List Ru} (h:SzP ds es rs):qfh (rOf cD ds) (rOf cE es) (rOf cRu rs)=true:=by simp only [qfh,qgd,qfM,qkU h];simp
theorem qCJ {ds:List De} {es:List En} {rs:List Ru} (h:SzP ds es rs):qfM (rOf cD ds) (rOf cE es) (rOf cRu rs)=if prE ds es rs=0 then prT ds es rs else []:=by simp only [qfh,qgd,qfM,qkU h];simp
theorem qB9 {ds:List De} {es:List En} {rs:List Ru} (h:SzP ds es rs):qgd (rOf cD ds) (rOf cE es) (rOf cRu rs)=prE ds es rs:=by simp only [qfh,qgd,qfM,qkU h];simp
theorem qGv {p:Pr} (h:prR p):qsm (rOf cD p.1) (rOf cE p.2.1) (rOf cRu p.2.2)=some (.bool true):=by
 have hs:=qSE h;unfold qsm qug;simp only [qau,qDN,qDC,qCC,qBH,qCq hs,qCJ hs,qB9 hs,qDE hs,qDt hs,qC1 hs,qNL,qPM];simp
end Go.Pv
set_option maxHeartbeats 8000000
set_option maxRecDepth 200000
set_option linter.unusedSimpArgs false
set_option linter.unusedVariables false
namespace Go.Pv
open Go Go.Proofs Go.RowKit
def Std (x:PV):Prop:=∃ H w v,Rel H w x v
def StdL (xs:List PV):Prop:=∃ H w vs,RelL H w xs vs
theorem StdL.at_ {xs:List PV} (h:StdL xs) (i:Nat) {x:PV} (hi:xs[i]?=some x):Std x:=by
 obtain⟨H,w,vs,h⟩:=h;obtain⟨v,_,hr⟩:=h.get hi;exact⟨H,w,v,hr⟩
theorem Std.agg {xs:List PV} (h:Std (.agg xs)):StdL xs:=by
 obtain⟨H,w,v,h⟩:=h;cases h with
 |agg _ vs h=>exact⟨H,w,vs,h⟩
theorem Std.rows {α:Type} {C:Cod α} {l:List α} {t:Tag} (h:Std (.sl (rOf C l) t)):∀ a∈l,StdL (C.enc a):=by
 obtain⟨H,w,v,h⟩:=h;intro a ha;obtain⟨i,hi⟩:=List.getElem?_of_mem ha;cases h with
 |sl p len cap k xs vss t hl hcap hm h hr ht =>
  obtain⟨u,_,hu⟩:=h.get (qRi C hi);exact⟨H,w,u,hu⟩
theorem Std.int {n:Int} (h:Std (.int .i64 n)):-9223372036854775808≤n∧n≤9223372036854775807:=by
 obtain⟨H,w,v,h⟩:=h;cases h with
 |int _ _ hl=>simpa [Lit.wf,IntKind.min,IntKind.max,IntKind.signed,IntKind.bits] using hl
theorem qPu {t:Tm} (h:StdL (cM.enc t)):tmR t:=(h.at_ 3 (x:=.int .i64 t.2.2.2.1) rfl).int
theorem qUr {l:Li} (h:StdL (cL.enc l)):liR l :=
 ⟨fun t ht=>qPu ((h.at_ 2 (x:=.sl (rOf cM l.2.1.2) .non) rfl).rows t ht),(h.at_ 7 (x:=.int .i64 l.2.2.2.1.2.2.2.1) rfl).int,(h.at_ 12 (x:=.int .i64 l.2.2.2.2.2.2.2.1) rfl).int⟩
theorem qUy {x:Ru} (h:StdL (cRu.enc x)):ruR x :=
 ⟨fun t ht=>qPu ((h.at_ 1 (x:=.sl (rOf cM x.1.2) .non) rfl).rows t ht),fun l hl=>qUr ((h.at_ 2 (x:=.sl (rOf cL x.2) .non) rfl).rows l hl)⟩
theorem qUo {o:En} (h:StdL (cE.enc o)):enR o:=fun a ha t ht=>qPu (Std.rows (C:=cM) (l:=a.2.2) (t:=.non) (((h.at_ 2 (x:=.sl (rOf cAc o.2.2) .non) rfl).rows a ha).at_ 2 rfl) t ht)
theorem qUp {p:Pr} (h:StdL [.sl (rOf cD p.1) .non,.sl (rOf cE p.2.1) .non,.sl (rOf cRu p.2.2) .non]):prR p :=
 ⟨fun o ho=>qUo ((h.at_ 1 (x:=.sl (rOf cE p.2.1) .non) rfl).rows o ho),fun x hx=>qUy ((h.at_ 2 (x:=.sl (rOf cRu p.2.2) .non) rfl).rows x hx)⟩
theorem qJf (p:Pr):qpn [.agg [.sl (rOf cD p.1) .non,.sl (rOf cE p.2.1) .non,.sl (rOf cRu p.2.2) .non]]=.ite (qpU (rOf cD p.1) (rOf cE p.2.1) (rOf cRu p.2.2)) (.ret (.bool (qsi (rOf cD p.1) (rOf cE p.2.1) (rOf cRu p.2.2)))) .fail:=rfl
theorem qGL (p:Pr) (hg:∃ H w vs,RelL H w [.agg [.sl (rOf cD p.1) .non,.sl (rOf cE p.2.1) .non,.sl (rOf cRu p.2.2) .non]] vs):(qpn [.agg [.sl (rOf cD p.1) .non,.sl (rOf cE p.2.1) .non,.sl (rOf cRu p.2.2) .non]]).run=some (.bool true):=by
 have hg:StdL [.agg [.sl (rOf cD p.1) .non,.sl (rOf cE p.2.1) .non,.sl (rOf cRu p.2.2) .non]]:=hg;have h:=qGv (qUp (hg.at_ 0 rfl).agg);rw [qJf];simp [qpU,qsi,h]
end Go.Pv
